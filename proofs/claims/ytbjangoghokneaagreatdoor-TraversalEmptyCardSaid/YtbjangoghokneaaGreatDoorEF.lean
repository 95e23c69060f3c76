/-
  Walks of functions and plain facts.
  No condition.
-/
import Derived.Test.YtbjangoghokneaaGreatDoorEE
import Derived.Test.YtbjangoghokneaaGreatDoorEC
import Derived.Test.YtbjangoghokneaaGreatDoorED
import Derived.Shelf.SlSortCmp.Whole1
set_option linter.unusedVariables false
set_option linter.unusedSimpArgs false
namespace Go.Mono
open Go Go.Proofs Go.RowKit Go.Gr
def dsF (g:GT)(a b:Int):Int:=if (has (vset g.1) a&&has (vset g.1) b)=true then dsT (nbA g) a.toNat b.toNat else -1
theorem fJ {S:BS}{a:Int}(h:has S a=true):∃n:Nat,a=n∧S.getLsbD n=true:=by
 have h':=h
 rw[has,Bool.and_eq_true,di] at h'
 refine⟨a.toNat,by omega,?_⟩
 exact h'.2
theorem a0A (nb:Int→BS)(a b:Nat):dsT nb a b≤1025:=mu b
theorem gG {N:Nat}(g:GT)(ok:Gr.Ok g)(v:Value)(W:World)(hT:Tab W)(h:(Gn N g).p v W)(hl1:g.1.length≤100000)(hl2:g.2.length≤100000)(hN:N≤1000000) :
  Calls Tryz.prog 46 #[v] W (Post (ci (nbL g (aj (vset g.1))) (vset g.1) 1024) W):=
 (mg g v W hT h ok.sv ok.se hl1 hl2 hN).mono fun en w' ⟨k1,mq,k2,k3⟩=>⟨_,k2,k1,mq,rfl,k3⟩
theorem mG {N:Nat}(g:GT)(ok:Gr.Ok g)(a0 c0:Int)(v:Value)(W:World)(hT:Tab W)(h:(Gn N g).p v W)(hl1:g.1.length≤100000)(hl2:g.2.length≤100000)(hN:N≤1000000) :
  Calls Tryz.prog 30 #[v,I a0,I c0] W (Post (E (I (dsF g a0 c0))) W):=by
 have hgd:=h
 obtain⟨rr,hrr⟩:=eqX (dsF g a0 c0)
 rw[← hrr]
 rw[dsF] at hrr
 obtain⟨l,hl⟩:=eqX (nbL g (aj (vset g.1)))
 have hnb:nbA g=lkS l:=by rw[hl,nbA]
 rw[hnb] at hrr
 obtain⟨V,hV⟩:=eqX (vset g.1)
 rw[← hV] at hrr
 have hT0:=hT.lt
 refine eN [v,I a0,I c0] [E v,E (I a0),E (I c0)] Tryz.func30 Tryz.ntmps30 ?_ fun a hf=>?_
 rotate_left
 dsimp only[params,Nat.reduceAdd] at hf
 rotate_right
 ·exact dH rfl rfl rfl
 have e:=Ext.rfl' W
 refine seq <| ab <| tA hf rfl fun a hf=>aa ?_
 replace hf:=hf.keep [0,1,2]
 have e0:=e
 refine seq <| rgN 2 hf <| st (mv rfl) <| st (ak (A:=ci l V 1024) dR rfl (fun v w he k=>by cases k;rw[hl,hV];exact gG g ok _ w (hT.ext he) (vst (e0.tr he) hgd) hl1 hl2 hN)) ?_
 refine en fun a w e' hf=>?_
 obtain⟨hT,e⟩:=up2 e' hT e
 obtain⟨av,⟨mq,rfl,HV⟩,hf⟩:=hf.opn 9 rfl
 obtain⟨bm,rfl⟩:=jX HV
 obtain⟨N1,hN1⟩:=eqX w.heap.size
 have hN1s:N1≤w.heap.size:=Nat.le_of_eq hN1
 have hWN1:W.heap.size≤N1:=by rw[hN1];exact e.size
 replace HV:(Dv (mpE sKV 1024) (fun b=>N1≤b) l).p (.map (some bm)) w:=Dv.weak HV fun b hb hh=>by omega
 replace hf:=hf.kp [1,2,9]
 refine tL I79 hf fun a b7 w e' hb7 hs7 B7 hf=>?_
 have lo7_hN1s:=Nat.le_trans hN1s (Nat.le_of_eq hb7.symm)
 obtain⟨hT,HV,hN1s,e⟩:=up4 e' hT HV hN1s e
 have n7:N1≤b7:=lo7_hN1s
 refine az T79 hf rfl rfl (cg _ _) B7 rfl (aH _ _) fun w hg hsz B7 hf=>?_
 replace e:=e.gr hg (by omega);replace hT:=hT.gr hg (by omega);replace HV:=Dv.gr HV hg n7;replace hN1s:=Nat.le_trans hN1s hg.size;clear hg
 refine aa ?_
 replace hf:=hf.keep [1,2,7]
 have hdv:(Dv (mpE sKV 1024) G0 l).p (.map (some bm)) w:=Dv.weak HV fun b _ hb=>hb.elim
 by_cases ha:has V a0=true
 ·by_cases hc:has V c0=true
  ·rw[ha,hc,if_pos (show (true&&true)=true from rfl)] at hrr
   obtain⟨x,rfl,hx⟩:=fJ ha
   obtain⟨y,rfl,hy⟩:=fJ hc
   rw[Int.toNat_natCast,Int.toNat_natCast] at hrr
   rw[dsT] at hrr
   have hx1:=aK hx
   refine seq <| seq ?_
   refine rgN 12 hf <| st (fA U79 rfl T76 rfl) <| st ((ldP T76 rfl B7 (by rw[aH];decide)).eq (congrArg Value.agg (bO V (.map (some bm))))) ?_
   refine st (mv rfl) <| st (aw (A:=E (B true)) (B:=E (ac V)) (C:=E (I (x:Nat))) bZ rfl rfl (fun v u w he h h'=>by cases h;cases h';rw[← ha];exact dT _ _ w)) ?_
   refine st (aY rfl) <| st (mv rfl) <| sy rfl rfl (fA U79 rfl T76 rfl) <| sy rfl rfl ((ldP T76 rfl B7 (by rw[aH];decide)).eq (congrArg Value.agg (bO V (.map (some bm))))) ?_
   refine sy rfl rfl (mv rfl) <| sy rfl rfl (aw (A:=E (B true)) (B:=E (ac V)) (C:=E (I (y:Nat))) bZ rfl rfl (fun v u w he h h'=>by cases h;cases h';rw[← hc];exact dT _ _ w)) ?_
   refine sy rfl rfl (aY rfl) <| st (pkF rfl rfl) <| en fun a w e' hf=>?_
   obtain⟨hT,hdv,e,B7⟩:=up4 e' hT hdv e B7
   refine aa <| ifF hf rfl ?_
   refine ah ?_
   replace hf:=hf.keep [1,2,7]
   refine seq <| rgN 5 hf <| st (ldW T79 rfl B7 (aH _ _)) <| st (mv rfl) <| st (aw (A:=Dv (slE aM) G0 (lvB (lkS l) x)) (B:=E (.agg (adC V (.map (some bm))))) (C:=E (I (x:Nat))) eO rfl rfl (fun a b w he k2 k4=>by cases k2;cases k4;exact (fa l V (.map (some bm)) x w (hT.ext he) (Dv.ex hdv he) hx1).mono fun en w' ⟨z,q1,q2,q3⟩=>⟨z,q1,q2,OwR.sl q3⟩)) ?_
   refine st (mv rfl) <| st (aw (A:=E (I rr)) (B:=Dv (slE aM) G0 (lvB (lkS l) x)) (C:=E (I (y:Nat))) jh rfl rfl (fun a b w he k1 k2=>by cases k2;rw[hrr];exact jR _ y a w k1 (Nat.le_trans (dZ _ _) (by decide)))) ?_
   refine en fun a w e' hf=>?_
   obtain⟨hT,hdv,e,B7⟩:=up4 e' hT hdv e B7
   refine tA hf rfl fun a hf=>aa <| ai <| am rfl hf rfl ?_
   rintro _ rfl
   exact⟨_,rfl,e,rfl⟩
  ·have hc':has V c0=false:=Bool.eq_false_iff.2 hc
   rw[ha,hc',if_neg (by decide)] at hrr
   subst hrr
   refine seq <| seq ?_
   refine rgN 12 hf <| st (fA U79 rfl T76 rfl) <| st ((ldP T76 rfl B7 (by rw[aH];decide)).eq (congrArg Value.agg (bO V (.map (some bm))))) ?_
   refine st (mv rfl) <| st (aw (A:=E (B true)) (B:=E (ac V)) (C:=E (I a0)) bZ rfl rfl (fun v u w he h h'=>by cases h;cases h';rw[← ha];exact dT _ _ w)) ?_
   refine st (aY rfl) <| st (mv rfl) <| sy rfl rfl (fA U79 rfl T76 rfl) <| sy rfl rfl ((ldP T76 rfl B7 (by rw[aH];decide)).eq (congrArg Value.agg (bO V (.map (some bm))))) ?_
   refine sy rfl rfl (mv rfl) <| sy rfl rfl (aw (A:=E (B false)) (B:=E (ac V)) (C:=E (I c0)) bZ rfl rfl (fun v u w he h h'=>by cases h;cases h';rw[← hc'];exact dT _ _ w)) ?_
   refine sy rfl rfl (aY rfl) <| st (pkF rfl rfl) <| en fun a w e' hf=>?_
   obtain⟨hT,hdv,e,B7⟩:=up4 e' hT hdv e B7
   refine aa <| ifT hf rfl ?_
   refine seq <| ab <| tA hf rfl fun a hf=>aa <| ai <| am rfl hf rfl ?_
   rintro _ rfl
   exact⟨_,rfl,e,rfl⟩
 ·have ha':has V a0=false:=Bool.eq_false_iff.2 ha
  rw[ha',if_neg (by rw[Bool.false_and];decide)] at hrr
  subst hrr
  refine seq <| seq ?_
  refine rgN 12 hf <| st (fA U79 rfl T76 rfl) <| st ((ldP T76 rfl B7 (by rw[aH];decide)).eq (congrArg Value.agg (bO V (.map (some bm))))) ?_
  refine st (mv rfl) <| st (aw (A:=E (B false)) (B:=E (ac V)) (C:=E (I a0)) bZ rfl rfl (fun v u w he h h'=>by cases h;cases h';rw[← ha'];exact dT _ _ w)) ?_
  refine st (aY rfl) <| st (mv rfl) <| sn rfl rfl rfl <| sn rfl rfl rfl <| sn rfl rfl rfl <| sn rfl rfl rfl <| sn rfl rfl rfl <| st (pkT rfl rfl) <| en fun a w e' hf=>?_
  obtain⟨hT,hdv,e,B7⟩:=up4 e' hT hdv e B7
  refine aa <| ifT hf rfl ?_
  refine seq <| ab <| tA hf rfl fun a hf=>aa <| ai <| am rfl hf rfl ?_
  rintro _ rfl
  exact⟨_,rfl,e,rfl⟩
theorem a0B {N:Nat}(g:GT)(ok:Gr.Ok g)(a0 c0:Int)(v:Value)(W:World)(hT:Tab W)(h:(Gn N g).p v W)(hl1:g.1.length≤100000)(hl2:g.2.length≤100000)(hN:N≤1000000) :
  Calls Tryz.prog 28 #[v,I a0,I c0] W (Post (E (B (dsF g a0 c0 != -1))) W):=by
 have hgd:=h
 refine eN [v,I a0,I c0] [E v,E (I a0),E (I c0)] Tryz.func28 Tryz.ntmps28 ?_ fun a hf=>?_
 rotate_left
 rotate_right
 ·exact dH rfl rfl rfl
 have e:=Ext.rfl' W
 refine seq <| ab <| tA hf rfl fun a hf=>aa ?_
 have e0:=e
 refine seq <| rgN 5 hf <| st (mv rfl) <| st (mv rfl) <| st (mv rfl) <| st (bX (A:=E (I (dsF g a0 c0))) (B:=E v) (C:=E (I a0)) (D:=E (I c0)) kV rfl rfl rfl (fun a b c w he k1 k2 k3=>by cases k1;cases k2;cases k3;exact mG g ok a0 c0 v w (hT.ext he) (vst (e0.tr he) hgd) hl1 hl2 hN)) ?_
 refine st (neq rfl rfl) <| en fun a w e' hf=>?_
 obtain⟨hT,e⟩:=up2 e' hT e
 refine tA hf rfl fun a hf=>aa <| ai <| am rfl hf rfl ?_
 rintro _ rfl
 exact⟨_,rfl,e,rfl⟩
def spF (g:GT)(a b:Int):List Nat:=if dsF g a b = -1 then [] else a.toNat::geF (nbA g) (lvB (nbA g) b.toNat) (dsF g a b).toNat a.toNat
theorem rT {N:Nat}(g:GT)(ok:Gr.Ok g)(a0 c0:Int)(v:Value)(W:World)(hT:Tab W)(h:(Gn N g).p v W)(hl1:g.1.length≤100000)(hl2:g.2.length≤100000)(hN:N≤1000000) :
  Calls Tryz.prog 32 #[v,I a0,I c0] W (Post (Dv (slE intE) G0 (ae (spF g a0 c0))) W):=by
 have hgd:=h
 have hT0:=hT.lt
 obtain⟨d,hd⟩:=eqX (dsF g a0 c0)
 obtain⟨rr,hrr⟩:=eqX (spF g a0 c0)
 rw[← hrr]
 rw[spF,← hd] at hrr
 refine eN [v,I a0,I c0] [E v,E (I a0),E (I c0)] Tryz.func32 Tryz.ntmps32 ?_ fun a hf=>?_
 rotate_left
 dsimp only[params,Nat.reduceAdd] at hf
 rotate_right
 ·exact dH rfl rfl rfl
 have e:=Ext.rfl' W
 refine seq <| ab <| tA hf rfl fun a hf=>aa ?_
 have e0:=e
 refine seq <| rgN 4 hf <| st (mv rfl) <| st (mv rfl) <| st (mv rfl) <| st (bX (A:=E (I d)) (B:=E v) (C:=E (I a0)) (D:=E (I c0)) kV rfl rfl rfl (fun a b c w he k1 k2 k3=>by cases k1;cases k2;cases k3;rw[hd];exact mG g ok a0 c0 v w (hT.ext he) (vst (e0.tr he) hgd) hl1 hl2 hN)) ?_
 refine en fun a w e' hf=>?_
 obtain⟨hT,e⟩:=up2 e' hT e
 refine tA hf rfl fun a hf=>aa ?_
 replace hf:=hf.keep [0,1,2,7]
 by_cases h1:d = -1
 ·rw[if_pos h1] at hrr
  subst hrr
  refine seq <| seq ?_
  refine rgN 2 hf <| st (mv rfl) <| st ((eql rfl rfl).eq (congrArg Value.bool ((by rw[h1];rfl:(d == -1)=true)))) ?_
  refine en fun a w e' hf=>?_
  obtain⟨hT,e⟩:=up2 e' hT e
  refine aa <| ifT hf rfl ?_
  refine seq <| ab <| tA hf rfl fun a hf=>aa <| ai <| am rfl hf rfl ?_
  rintro _ rfl
  exact⟨_,rfl,e,Dv.nil⟩
 rw[if_neg h1] at hrr
 refine seq <| seq ?_
 refine rgN 2 hf <| st (mv rfl) <| st ((eql rfl rfl).eq (congrArg Value.bool ((beq_eq_false_iff_ne.2 h1:(d == -1)=false)))) <| en fun a w e' hf=>?_
 obtain⟨hT,e⟩:=up2 e' hT e
 refine aa <| ifF hf rfl ?_
 refine ah ?_
 replace hf:=hf.keep [0,1,2,7]
 have hac:(has (vset g.1) a0&&has (vset g.1) c0)=true:=by
  rw[dsF] at hd
  split at hd
  ·assumption
  ·exact absurd hd h1
 have hd2:=hd
 rw[dsF,if_pos hac] at hd2
 rw[Bool.and_eq_true] at hac
 obtain⟨x,rfl,hx⟩:=fJ hac.1
 obtain⟨y,rfl,hy⟩:=fJ hac.2
 rw[Int.toNat_natCast,Int.toNat_natCast] at hd2 hrr
 have hx1:=aK hx
 have hy1:=aK hy
 rw[a0k (fF ok) hx1 hy1] at hd2
 have hdl:=mB (nb:=nbA g) y x
 have hdh:=a0A (nbA g) y x
 obtain⟨n,hn⟩:∃n:Nat,d=(n:Int):=⟨d.toNat,by omega⟩
 subst hn
 rw[Int.toNat_natCast] at hrr
 have hnsy:=fF ok
 obtain⟨l,hl⟩:=eqX (nbL g (aj (vset g.1)))
 have hnb:nbA g=lkS l:=by rw[hl,nbA]
 rw[hnb] at hrr hd2 hnsy hdl hdh
 obtain⟨V,hV⟩:=eqX (vset g.1)
 have e4:=e
 refine seq <| rgN 2 hf <| st (mv rfl) <| st (ak (A:=ci l V 1024) dR rfl (fun v w he k=>by cases k;rw[hl,hV];exact gG g ok _ w (hT.ext he) (vst (e4.tr he) hgd) hl1 hl2 hN)) ?_
 refine en fun a w e' hf=>?_
 obtain⟨hT,e⟩:=up2 e' hT e
 obtain⟨av,⟨mq,rfl,HV⟩,hf⟩:=hf.opn 18 rfl
 obtain⟨bm,rfl⟩:=jX HV
 obtain⟨N1,hN1⟩:=eqX w.heap.size
 have hN1s:N1≤w.heap.size:=Nat.le_of_eq hN1
 have hWN1:W.heap.size≤N1:=by rw[hN1];exact e.size
 replace HV:(Dv (mpE sKV 1024) (fun b=>N1≤b) l).p (.map (some bm)) w:=Dv.weak HV fun b hb hh=>by omega
 replace hf:=hf.kp [1,2,7,18]
 refine tL I79 hf fun a b8 w e' hb8 hs8 B8 hf=>?_
 have lo8_hN1s:=Nat.le_trans hN1s (Nat.le_of_eq hb8.symm)
 obtain⟨hT,HV,hN1s,e⟩:=up4 e' hT HV hN1s e
 have n8:N1≤b8:=lo8_hN1s
 refine az T79 hf rfl rfl (cg _ _) B8 rfl (aH _ _) fun w hg hsz B8 hf=>?_
 replace e:=e.gr hg (by omega);replace hT:=hT.gr hg (by omega);replace HV:=Dv.gr HV hg n8;replace hN1s:=Nat.le_trans hN1s hg.size;clear hg
 refine aa ?_
 replace hf:=hf.keep [1,2,7,8]
 obtain⟨L,hL⟩:=eqX (lvB (lkS l) y)
 have hLl:L.length≤1025:=by rw[hL];exact dZ _ _
 obtain⟨N2,hN2⟩:=eqX w.heap.size
 have hN2s:N2≤w.heap.size:=Nat.le_of_eq hN2
 have hdv:(Dv (mpE sKV 1024) G0 l).p (.map (some bm)) w:=Dv.weak HV fun b _ hb=>hb.elim
 refine seq <| rgN 3 hf <| st (ldW T79 rfl B8 (aH _ _)) <| st (mv rfl) <| st (aw (A:=OwA aM 76 N2 G0 L) (B:=E (.agg (adC V (.map (some bm))))) (C:=E (I (y:Nat))) eO rfl rfl (fun a b w he k2 k4=>by cases k2;cases k4;rw[hL];exact (fa l V (.map (some bm)) y w (hT.ext he) (Dv.ex hdv he) hy1).mono fun en w' ⟨z,q1,q2,q3⟩=>⟨z,q1,q2,OwR.low q3 (Nat.le_trans hN2s he.size) fun b hb=>hb.elim⟩)) ?_
 refine en fun a w e' hf=>?_
 obtain⟨hT,HV,hdv,hN1s,e,B8⟩:=up6 e' hT HV hdv hN1s e B8
 refine tA hf rfl fun a hf=>aa ?_
 obtain⟨lv,Hr,hf⟩:=hf.opn 9 rfl
 replace Hr:OwR aM 76 N2 G0 w L lv:=Hr
 obtain⟨N3,hN3⟩:=eqX w.heap.size
 have hN3s:N3≤w.heap.size:=Nat.le_of_eq hN3
 have HL:(Dv (slE aM) (fun b=>N3≤b) L).p lv w:=Hr.slN fun b hb hh=>by have:=(Hr.lt hb).2;omega
 have HM:(Dv (mpE sKV 1024) (fun b=>N3≤b) l).p (.map (some bm)) w:=Dv.weak hdv fun b hb hh=>by omega
 have h8:b8<N3:=by rw[hN3];exact B8.lt
 have hT3:0<N3:=by rw[hN3];exact hT.lt
 have hW3:W.heap.size≤N3:=by rw[hN3];exact e.size
 replace hf:=hf.keep [1,7,8,9]
 refine seq <| rgN 2 hf <| st (mv rfl) <| st (lB (B:=N3) (G:=G0) U35 I3 rfl rfl hN3s (fun b hb=>hb.elim)) <| en fun a w e' hf=>?_
 obtain⟨hT,HL,HM,hN3s,e,B8⟩:=up6 e' hT HL HM hN3s e B8
 refine tA hf rfl fun a hf=>aa ?_
 obtain⟨u0,Ho,hf⟩:=hf.opn 10 rfl
 replace Ho:OwR intE 3 N3 G0 w (ae [x]) u0:=Ho
 replace hf:=hf.keep [1,7,8,9,10]
 refine seq <| seq ?_
 refine rgN 2 hf <| st (mv rfl) <| st (sub rfl rfl (by omega)) <| en fun a w e' hf=>?_
 obtain⟨hT,HL,HM,Ho,e,B8⟩:=up6 e' hT HL HM Ho e B8
 refine tA hf rfl fun a hf=>aa ?_
 replace hf:=hf.keep [1,7,8,9,10]
 refine blk (aF (fun r0 a w=>∃(z:Nat) (out:List Nat) (u:Value),dsT (lkS l) y z=(r0:Int)∧z<1024∧out++geF (lkS l) L r0 z=rr∧out.length+r0≤1026∧Fr 48 a w [(1,E (I (z:Nat))),(7,E (I ((r0:Int) - 1))),(8,E (ptr b8)),(9,E lv),(10,E u)]∧Ext W w∧Tab w∧Blk w b8 (adC V (.map (some bm))) 79 ∧
  (Dv (slE aM) (fun b=>N3≤b) L).p lv w∧(Dv (mpE sKV 1024) (fun b=>N3≤b) l).p (.map (some bm)) w∧OwR intE 3 N3 G0 w (ae out) u) n ⟨x,[x],u0,hd2.symm,hx1,by rw[hrr,hL];rfl,by simp only[List.length_singleton];omega,hf,e,hT,B8,HL,HM,Ho⟩ ?_)
 rintro r0 a w ⟨z,out,u,hdz,hz,hR,hlen,hf,e,hT,B8,HL,HM,Ho⟩
 refine seq <| seq ?_
 refine rgN 2 hf <| st (mv rfl) <| st (geq rfl rfl) <| en fun a w e' hf=>?_
 obtain⟨hT,HL,HM,Ho,e,B8⟩:=up6 e' hT HL HM Ho e B8
 refine aa <| ifc hf rfl (fun hc=>ah ?_) (fun hc=>aC ?_)
 ·obtain⟨k,rfl⟩:∃k,r0=k+1:=⟨r0 - 1,by have:=of_decide_eq_true hc;omega⟩
  refine seq <| blk ?_
  rw[show (((k+1:Nat):Int) - 1)=((k:Nat):Int) by omega] at hf
  obtain⟨q,hq1,hq2⟩:=a0j hnsy hy1 hdz
  obtain⟨T,hT1,hT2⟩:=rE.1 hq2
  rw[← hL] at hT1
  have hgs:gs L k=T:=by rw[gs,hT1];rfl
  have hmn:aU (lkS l (z:Int) &&& T)≠none:=fun h=>by
   have h2:=ge.1 h
   have h3:=(qf _ _ _).2 ⟨hq1,hT2⟩
   rw[h2] at h3;exact bF _ h3
  rw[geF,hgs] at hR
  obtain⟨z2,hz2⟩:∃z2,aU (lkS l (z:Int) &&& T)=some z2:=Option.ne_none_iff_exists'.1 hmn
  have hz2m:=jB hz2
  have hz2d:dsT (lkS l) y z2=(k:Int):=rE.2 ⟨T,by rw[← hL];exact hT1,((qf _ _ _).1 hz2m).2⟩
  have hz21:=aK hz2m
  have hwz:(Lit.int .i64 (z:Int)).wf=true:=bH (by omega) (by omega)
  rw[hz2,Option.getD_some] at hR
  replace hf:=hf.keep [1,7,8,9,10]
  refine seq <| a0z 14 Mix.mix hf (by decide +kernel) <| st (fA U79 rfl T77 rfl) <| st (ld1 (v:=.map (some bm)) T77 rfl B8 (bI _ _)) <| st (mv rfl) <| st (lkM (l:=l) (i:=(z:Int)) U77 bW (isE rfl HM) rfl hwz) <| st (mv rfl) <| st (mv rfl) <| st (aD U83 S76 (isE rfl HL) rfl (by omega) (hT1)) <| st (ldS T76 (isR rfl)) <| st (aw (A:=E (ac (lkS l (z:Int) &&& T))) (B:=E (ac (lkS l (z:Int)))) (C:=E (ac T)) dS rfl rfl (fun v u w he h h'=>by cases h;cases h';exact ie _ T w)) ?_
  refine st (ak (A:=Tup [E (I (z2:Nat)),E (B true)]) fu rfl (fun v w he h=>by cases h;have hm:=fx (lkS l (z:Int) &&& T) w (hT.ext he);rw[gf,hz2] at hm;exact hm)) ?_
  refine st (mv rfl) <| st (aV rfl rfl) <| st (aV rfl rfl) <| st (asg rfl) <| en fun a w e' hf=>?_
  obtain⟨hT,HL,HM,Ho,e,B8⟩:=up6 e' hT HL HM Ho e B8
  refine aa ?_
  replace hf:=hf.kp [1,7,8,9,10]
  refine rgN 3 hf <| st (mv rfl) <| st (mv rfl) <| st (aW U35 I3 rfl (by decide) rfl Ho.avs (isI rfl)) <| en fun a w e' hf=>?_
  obtain⟨hT,B8,HL,HM,Ho,e⟩:=up6 e' hT B8 HL HM Ho e
  haveI hin:∀G0,InR (GB W G0) _:=OwR.inGB (W:=W) Ho (by omega)
  refine br U35 I3 rfl rfl hf (by decide) rfl Ho (isR rfl) (by rw[bC,List.length_singleton];omega) (by rw[bC,List.length_singleton];simp only[maxLen];omega) fun a v w hg hat Hn hf=>?_
  replace e:=e.gro hg (Ho.row (W:=W) (by omega))
  have hrow:=Ho.row (W:=W) (by omega)
  replace hT:=hT.gro hg (fun b hb=>by have:=(Ho.lt hb).1;omega)
  replace B8:=B8.gro hg (Ho.neLt h8)
  replace HL:=Dv.gro HL hg (fun b hb=>(Ho.lt hb).1)
  replace HM:=Dv.gro HM hg (fun b hb=>(Ho.lt hb).1)
  replace Ho:=Hn
  replace Ho:=Hn;clear Hn hg hat hin
  refine tA hf rfl fun a hf=>aa ?_
  rw[← gw] at Ho
  replace hf:=hf.kp [1,7,8,9,10]
  refine rgN 2 hf <| st (mv rfl) <| st (sub rfl rfl (by omega)) <| en fun a w e' hf=>?_
  obtain⟨hT,HL,HM,Ho,e,B8⟩:=up6 e' hT HL HM Ho e B8
  refine tA hf rfl fun a hf=>aa ?_
  replace hf:=hf.keep [1,7,8,9,10]
  exact⟨k,Nat.lt_succ_self _,z2,out++[z2],_,hz2d,hz21,by rw[List.append_assoc];exact hR,by rw[List.length_append,List.length_singleton];omega,hf,e,hT,B8,HL,HM,Ho⟩
 ·obtain rfl:r0=0:=by have:=of_decide_eq_false hc;omega
  rw[geF,List.append_nil] at hR
  rw[hR] at Ho
  replace hf:=hf.keep [10]
  refine seq <| rgN 1 hf <| st (mv rfl) <| en fun a w e' hf=>?_
  obtain⟨Ho,e⟩:=up2 e' Ho e
  refine tA hf rfl fun a hf=>aa <| ai <| am rfl hf rfl ?_
  rintro _ rfl
  exact⟨_,rfl,e,Ho.sl⟩
def wkN (nb:Int→BS)(a:Nat):Nat→BS
 | 0=>ins 0 (a:Int)
 | n+1=>nxN nb (wkN nb a n)
def wkL (nb:Int→BS)(a m:Nat):List BS:=(List.range (m+1)).map (wkN nb a)
theorem a0C (nb:Int→BS)(a m:Nat):wkL nb a (m+1)=wkL nb a m++[nxN nb (wkN nb a m)]:=by rw[wkL,List.range_succ,List.map_append];rfl
theorem a0D (nb:Int→BS)(a m:Nat):(wkL nb a m).length=m+1:=by simp[wkL]
theorem jY (nb:Int→BS)(a:Nat){m i:Nat}(h:i≤m):(wkL nb a m)[i]?=some (wkN nb a i):=by
 rw[wkL,List.getElem?_map,List.getElem?_range (by omega)];rfl
structure WkK (W:World)(N0 N:Nat)(S0:BS)(mq:Value)(l:List (Int×BS))(b3:Nat)(u:Value)(out:List BS)(D:List Nat)(w:World):Prop where
 e:Ext W w
 t:Tab w
 hv:(Dv (mpE sKV N0) (GB W Go.Mono.G0) l).p mq w
 b3:Blk w b3 (adC S0 mq) 79
 o:OwR aM 76 N Go.Mono.G0 w out u
 ds:Ds D w
theorem WkK.kp {W:World}{N0 N:Nat}{S0:BS}{mq:Value}{l:List (Int×BS)}{b3:Nat}{u:Value}{out:List BS}{D:List Nat}{B:Nat}{w w':World}(h:WkK W N0 N S0 mq l b3 u out D w)(k:Kp B w w')(hW:W.heap.size≤B)(h0:0<B)(l3:b3<B)(lu:∀g,u.ownBlock=some g→g<B)(hD:∀d∈D,d<B) :
  WkK W N0 N S0 mq l b3 u out D w':=
 have no:∀{b},b<B→¬aX B b:=fun h hh=>by have:=hh.1;omega
 ⟨h.e.kp k hW,h.t.kp k h0,Dv.ch h.hv k.chg (fun b hb=>.inr (by have:=hb.1;omega)),h.b3.kp k (no l3),h.o.chE k.chg fun g hg=>no (lu g hg),h.ds.ch k.chg fun d hd=>no (hD d hd)⟩
theorem rU {G:Nat→Prop}{N0:Nat}(l:List (Int×BS))(S0:BS)(mq:Value)(x m:Nat)(W:World)(hT:Tab W)(h:(Dv (mpE sKV N0) G l).p mq W)(hx:x<1024)(hm:m≤2000) :
  Calls Tryz.prog 79 #[.agg (adC S0 mq),I (x:Nat),I (m:Nat)] W (Post (OwA aM 76 W.heap.size Go.Mono.G0 (wkL (lkS l) x m)) W):=by
 have HV:(Dv (mpE sKV N0) (GB W Go.Mono.G0) l).p mq W:=Dv.toB (Dv.weak h fun b _ hb=>hb.elim)
 have hT0:=hT.lt
 refine cO (args:=[.agg (adC S0 mq),I (x:Nat),I (m:Nat)]) (As:=[E (.agg (adC S0 mq)),E (I (x:Nat)),E (I (m:Nat))]) Tryz.func79 rfl Tryz.ntmps79 (Nat.le_of_ble_eq_true rfl) ?_ (fun a hf=>?_) (Nat.le_of_ble_eq_true rfl)
 ·exact dH rfl rfl rfl
 have e:=Ext.rfl' W
 refine seq <| ab <| tB hf rfl fun a b3 w v3 hv3 e' hb3 hs3 B3 hf=>?_
 obtain⟨hT,HV,e⟩:=up3 e' hT HV e
 refine tA hf rfl fun a hf=>aa ?_
 cases hv3
 replace B3:Blk w b3 (adC S0 mq) 79:=B3
 have hW3:W.heap.size≤b3:=by omega
 replace hf:=hf.keep [1,2,3]
 obtain⟨N,hN⟩:=eqX w.heap.size
 have hNs:N≤w.heap.size:=Nat.le_of_eq hN
 have hWN:W.heap.size≤N:=by rw[hN];exact e.size
 have h3N:b3<N:=by rw[hN];exact B3.lt
 obtain⟨S1,hS1⟩:=eqX (ins 0 (x:Int))
 refine seq <| rgN 4 hf <| st (mv rfl) <| st (aW (e:=intE) (G:=Go.Mono.G0) U35 I3 rfl (by decide) rfl (fun b hb=>hb.elim) (isI rfl)) <| st ((ak jj rfl (fun v w he h=>jA [(x:Int)] v w h (by simp))).eq (congrArg ac ((lQ (x:Int) 0).trans hS1.symm))) <| st (xK (e:=aM) (B:=N) (G:=Go.Mono.G0) (G0:=Go.Mono.G0) U83 I76 rfl (by decide) rfl (isS rfl) hNs (fun b hb=>hb.elim)) <| en fun a w e' hf=>?_
 obtain⟨hT,HV,e,B3⟩:=up4 e' hT HV e B3
 refine tA hf rfl fun a hf=>aa ?_
 obtain⟨u0,Ho,hf⟩:=hf.opn 7 rfl
 replace Ho:OwR aM 76 N Go.Mono.G0 w [S1] u0:=Ho
 replace hf:=hf.keep [2,3,7]
 refine seq <| seq ?_
 refine rgN 2 hf <| st (mv rfl) <| st (mv rfl) <| en fun a w e' hf=>?_
 obtain⟨hT,HV,Ho,e,B3⟩:=up5 e' hT HV Ho e B3
 refine aa ?_
 have h00:wkL (lkS l) x 0=[S1]:=by rw[hS1];rfl
 rw[← h00] at Ho
 replace hf:=hf.keep [3,7,14,15]
 refine blk (aF (fun r0 a w=>∃(k:Nat) (u:Value) (D:List Nat),r0=m - k∧k≤m∧FrD 37 (bL D) a w [(3,E (ptr b3)),(7,E u),(14,E (I (m:Nat))),(15,E (I (k:Nat)))]∧WkK W N0 N S0 mq l b3 u (wkL (lkS l) x k) D w∧∀d∈D,W.heap.size≤d) m ⟨0,u0,[],rfl,Nat.zero_le _,hf,⟨e,hT,HV,B3,Ho,Ds.nil _⟩,fun d hd=>by cases hd⟩ ?_)
 rintro r0 a w ⟨k,u,D,rfl,hkm,hf,⟨e,hT,HV,B3,Ho,hD⟩,hDW⟩
 refine seq <| rgN 1 hf <| st (lss rfl rfl) <| en fun a w e' hf=>?_
 obtain⟨hT,HV,e,B3,hD,Ho⟩:=up6 e' hT HV e B3 hD Ho
 refine aa <| seq <| ifc hf rfl (fun hc=>ah ?_) (fun hc=>aC ?_)
 rotate_left
 ·obtain rfl:k=m:=by have:=of_decide_eq_false hc;omega
  replace hf:=hf.keep [7]
  refine seq <| rgN 1 hf <| st (mv rfl) <| en fun a w e' hf=>?_
  obtain⟨e,hD,Ho⟩:=up3 e' e hD Ho
  refine tA hf rfl fun a hf=>aa <| ai <| gj rfl hf rfl hD ⟨_,rfl,e.shut hDW,?_⟩
  exact (Ho.chE (dU D w) fun b hb hm=>Ho.neDs hD hm hb).low (by omega) fun b hb=>hb.elim
 have hlt:k<m:=by have:=of_decide_eq_true hc;omega
 refine seq <| blk ?_
 obtain⟨out,hout⟩:=eqX (wkL (lkS l) x k)
 obtain⟨at',hat'⟩:∃at',at'=wkN (lkS l) x k:=⟨_,rfl⟩
 have hol:out.length=k+1:=by rw[hout,a0D]
 have hola:out[k]?=some at':=by rw[hout,hat'];exact jY _ _ (Nat.le_refl k)
 have hsuc:wkL (lkS l) x (k+1)=out++[nxN (lkS l) at']:=by rw[a0C,hout,hat']
 rw[← hout] at Ho
 replace hf:=hf.keep [3,7,14,15]
 refine seq <| ab <| tL I76 hf fun a b8 w e' hb8 hs8 B8 hf=>?_
 have hle8:=Nat.le_trans e.size (Nat.le_of_eq hb8.symm)
 have ne8_Ho:=Ho.ne_new hb8
 have lt8_B3:=B3.lt
 obtain⟨hT,HV,e,B3,hD,Ho⟩:=up6 e' hT HV e B3 hD Ho
 refine aa ?_
 simp only[Value.cells,dD] at B8
 have hW8:W.heap.size≤b8:=hle8
 have n8:b3≠b8:=by have:=B3.lt;omega
 have hu8:=ne8_Ho
 have hD8:¬b8∈D:=hD.ne B8
 replace hf:=hf.kp [3,7,8,14,15]
 obtain⟨Nz,hNz⟩:=eqX w.heap.size
 have hix:((out.length:Nat):Int) - 1=((k:Nat):Int):=by rw[hol];omega
 refine seq <| seq ?_
 refine rgN 7 hf <| st (mv rfl) <| st (mv rfl) <| st (aB U83 (isE rfl Ho.sl)) <| st ((sub rfl rfl (by omega)).eq (congrArg (Value.int .i64) hix)) <| st (aD U83 S76 (isE rfl Ho.sl) rfl (by omega) (hola)) <| st (ldS T76 (isR rfl)) <| st (ak (A:=cN Nz at') cV rfl (fun v w' he h=>by cases h;exact Calls.mono (cZ _ w') (fun en w2 ⟨u,h1,h2,b',h3,h4,h5⟩=>⟨u,h1,h2,b',by have:=he.size;omega,h4,h5⟩))) ?_
 refine en fun a w e' hf=>?_
 obtain⟨hT,HV,e,B3,B8,hD,Ho⟩:=up7 e' hT HV e B3 B8 hD Ho
 refine aa ?_
 obtain⟨vv,⟨b23,h23,rfl,BS⟩,hf⟩:=hf.fix 23 rfl
 replace hf:=hf.kp [3,7,8,14,15,23]
 have l3:=B3.lt
 have l8:=B8.lt
 have lu:∀g,u.ownBlock=some g→g<w.heap.size:=fun g hg=>(Ho.lt hg).2
 have lD:∀d∈D,d<w.heap.size:=fun d hd=>hD.lt hd
 have hBW:W.heap.size≤w.heap.size:=e.size
 have h0w:0<w.heap.size:=hT.lt
 refine blk <| db (S:=at') hf rfl BS (by decide) (fun s w1=>WkK W N0 N S0 mq l b3 u out D w1∧Blk w1 b8 (aJ (nxP (lkS l) s)) 76) (fun _ _=>False) (fun s w1 h=>h.1.t)
  ⟨⟨e,hT,HV,B3,Ho,hD⟩,B8⟩ (fun s w1 w2 h hs k=>⟨h.1.kp k hBW h0w l3 lu lD,h.2.kp k (fun hh=>by have:=hh.1;omega)⟩) (fun _ _ _ h=>h.elim) ?_ ?_ (fun _ _ _ _ _ _ h=>h.elim)
 ·intro lp s y rest a1 w1 hs hJ hlw hf
  have hy1024:y<1024:=(aL.1 (by rw[hs];simp)).1
  generalize hBz:w.heap.size=Bz at *
  refine ab <| tA hf rfl fun a hf=>aa <| ⟨Kh.rfl' _ _,fun w3 k3 hsz3=>?_⟩
  have hJ3:=hJ.1.kp k3 hBW h0w l3 lu lD
  have hJ8:=hJ.2.kp k3 (fun hh=>by have:=hh.1;omega)
  replace hf:=hf.pure w3
  obtain⟨e,hT,HV,B3,Ho,hD⟩:=hJ3
  have B8:=hJ8
  have kh:=Kh.rfl' Bz w3
  obtain⟨X,hX⟩:=eqX (nxP (lkS l) s)
  rw[← hX] at B8
  replace hf:=hf.kp [3,7,8,9,14,15]
  refine blk <| rgN 6 hf <| st ((ldW T76 rfl B8 rfl).eq ((rfl:_=ac X))) <| st (fA U79 rfl T77 rfl) <| st (ld1 (v:=mq) T77 rfl B3 (bI _ _)) <| st (mv rfl) <| st (lkM (l:=l) (i:=(y:Int)) U77 bW (isE rfl HV) rfl (bH (by omega) (by omega))) <| st (aw (A:=E (ac (X ||| lkS l (y:Int)))) gZ rfl rfl (fun v u w he h h'=>by cases h;cases h';exact ic X _ w)) ?_
  refine en fun a w e' hf=>?_
  obtain⟨hT,HV⟩:=up2 e' hT HV
  replace kh:=kh.tr (Kh.ext e')
  obtain⟨e,B3,B8,hD,Ho⟩:=up5 e' e B3 B8 hD Ho
  refine az T76 hf rfl rfl (bj _) B8 rfl (bh _) fun w hg hsz B8 hf=>?_
  obtain⟨e,hT,HV,B3⟩:=gr4 hg e hT HV B3
  replace Ho:=Ho.grE hg hu8;replace hD:=hD.gr hg hD8
  replace kh:=kh.tr (Kh.gr hg (fun hh=>by have:=hh.1;omega))
  refine aa ?_
  simp only[Exit.inBlock]
  exact⟨⟨⟨e,hT,HV,B3,Ho,hD⟩,by rw[qV,← hX];exact B8⟩,kh⟩
 ·intro a' w' hf' hJ hsz hDn
  simp only[Exit.inBlock,↓reduceIte,Exit.then]
  have hD2:Ds (w.heap.size::D) w':=hJ.1.ds.cons hDn fun hm=>Nat.lt_irrefl _ (lD _ hm)
  have hf:FrD 37 (bL (w.heap.size::D)) a' w' [(3,E (ptr b3)),(7,E u),(8,E (ptr b8)),(14,E (I (m:Nat))),(15,E (I (k:Nat)))]:=hf'.keep [3,7,8,14,15]
  have hDW2:∀d∈w.heap.size::D,W.heap.size≤d:=fun d hd=>by
   rcases List.mem_cons.1 hd with rfl|hd
   ·exact hBW
   ·exact hDW d hd
  obtain⟨⟨e,hT,HV,B3,Ho,_⟩,B8⟩:=hJ
  replace hD:=hD2
  generalize w.heap.size::D=D2 at *
  generalize w'=w at *
  replace B8:Blk w b8 (aJ (nxN (lkS l) at')) 76:=B8
  obtain⟨nx,hnx⟩:=eqX (nxN (lkS l) at')
  rw[← hnx] at B8 hsuc
  refine rgN 3 hf <| st (mv rfl) <| st ((ldW T76 rfl B8 rfl).eq ((rfl:_=ac nx))) <| st (aW U83 I76 rfl (by decide) rfl Ho.avs (isS rfl)) <| en fun a w e' hf=>?_
  obtain⟨hT,HV,B3,hD,B8,Ho,e⟩:=up7 e' hT HV B3 hD B8 Ho e
  haveI hin:∀G0,InR (GB W G0) _:=OwR.inGB (W:=W) Ho (by omega)
  refine br U83 I76 rfl rfl hf (by decide) rfl Ho (isR rfl) (by rw[hol,List.length_singleton];omega) (by rw[hol,List.length_singleton];simp only[maxLen];omega) fun a v w hg hat Hn hf=>?_
  replace e:=e.gro hg (Ho.row (W:=W) (by omega))
  have hrow:=Ho.row (W:=W) (by omega)
  replace hT:=hT.gro hg (fun b hb=>by have:=(Ho.lt hb).1;omega)
  replace HV:=Dv.gro HV hg (fun b hb=>.inr (by have:=(Ho.lt hb).1;omega))
  replace B3:=B3.gro hg (Ho.neLt h3N)
  replace hD:=hD.gro hg fun d hd=>Ho.neDs hD hd
  replace B8:=B8.gro hg hu8
  replace Ho:=Hn
  replace Ho:=Hn;clear Hn hg hat hin
  refine tA hf rfl fun a hf=>aa ?_
  rw[← hsuc] at Ho
  replace hf:=hf.keep [3,7,14,15]
  refine rgN 1 hf <| st ((add rfl rfl (by omega)).eq (iN k)) <| en fun a w e' hf=>?_
  obtain⟨hT,HV,e,B3,hD,Ho⟩:=up6 e' hT HV e B3 hD Ho
  refine tP hf (mv rfl) fun a w e' hf=>?_
  obtain⟨hT,HV,e,B3,hD,Ho⟩:=up6 e' hT HV e B3 hD Ho
  refine aa ?_
  replace hf:=hf.keep [3,7,14,15]
  exact⟨m - (k+1),by omega,k+1,v,D2,rfl,by omega,hf,⟨e,hT,HV,B3,Ho,hD⟩,hDW2⟩
def odN (nb:Int→BS)(x:Nat):Nat→Nat→Nat→Nat
 | 0,_,bst=>bst
 | f+1,n,bst=>if n<bst then odN nb x f (n+2) (if (wkN nb x n).getLsbD x=true then n else bst) else bst
def odS (nb:Int→BS)(bst x:Nat):Nat:=odN nb x bst 3 bst
theorem rV (nb:Int→BS)(x:Nat):∀f n bst,odN nb x f n bst≤bst
 | 0,n,bst=>Nat.le_refl _
 | f+1,n,bst=>by
  rw[odN];split
  ·refine Nat.le_trans (rV nb x f _ _) ?_
   split <;> omega
  ·exact Nat.le_refl _
theorem rW (nb:Int→BS)(x:Nat):∀f n bst k,k≤n→k≤bst→k≤odN nb x f n bst
 | 0,n,bst,k,h1,h2=>h2
 | f+1,n,bst,k,h1,h2=>by
  rw[odN];split
  ·refine rW nb x f _ _ k (by omega) ?_
   split <;> omega
  ·exact h2
def odB (nb:Int→BS)(V:BS)(s:List Nat):Nat:=s.foldl (odS nb) (card V+1)
theorem a0E (nb:Int→BS)(V:BS)(s:List Nat)(x:Nat):odB nb V (s++[x])=odS nb (odB nb V s) x:=by rw[odB,List.foldl_append];rfl
theorem rX (nb:Int→BS)(V:BS):∀s,odB nb V s≤card V+1:=by
 have key:∀(s:List Nat) (b:Nat),s.foldl (odS nb) b≤b:=by
  intro s
  induction s with
  | nil=>intro b;exact Nat.le_refl _
  | cons x s ih=>intro b;exact Nat.le_trans (ih _) (rV nb x _ _ _)
 exact fun s=>key s _
theorem a0F (nb:Int→BS)(V:BS):∀s,1≤odB nb V s:=by
 have key:∀(s:List Nat) (b:Nat),1≤b→1≤s.foldl (odS nb) b:=by
  intro s
  induction s with
  | nil=>intro b h;exact h
  | cons x s ih=>intro b h;exact ih _ (rW nb x _ _ _ 1 (by omega) h)
 exact fun s=>key s _ (by omega)
def ocG (nb:Int→BS)(x:Nat):Nat→Nat→List Nat
 | 0,_=>[]
 | n+1,last=>(aU (nb (last:Int) &&& wkN nb x (n+1))).getD 0::ocG nb x n ((aU (nb (last:Int) &&& wkN nb x (n+1))).getD 0)
def ocL (nb:Int→BS)(V:BS)(n:Nat):List Nat→BS→Option (List Nat)
 | [],_=>none
 | x::r,left=>if (wkN (ew nb (V &&& left)) x n).getLsbD x=true then some (x::ocG (ew nb (V &&& left)) x (n - 1) x) else ocL nb V n r (del left (x:Int))
def iI (nb:Int→BS)(V:BS):Option (List Nat):=if card V<odB nb V (aj V) then none else ocL nb V (odB nb V (aj V)) (aj V) V
theorem rY {A B:VA}{v:Value}{w:World}(h:(Tup [A,B]).p v w):(Tup [A,Any]).p v w:=by
 obtain⟨vs,h1,h2,h3⟩:=h
 refine⟨vs,h1,h2,fun i C hi=>?_⟩
 rcases i with _|_|i
 ·cases hi;exact h3 0 _ rfl
 ·cases hi;trivial
 ·simp at hi
theorem rZ (S:BS):(aU S).getD 0<1024:=by
 cases h:aU S with
 | none=>decide
 | some k=>exact aK (jB h)
structure OdJ (W:World)(nm bm:Nat)(l:List (Int×BS))(V:BS)(b2 b3 b4 n:Nat)(w:World):Prop where
 e:Ext W w
 t:Tab w
 m:MpR sKV w bm nm l
 p2:Blk w b2 #[.slice none 0 0] 35
 p3:Blk w b3 (adC V (.map (some bm))) 79
 p4:Blk w b4 #[I (n:Nat)] 3
theorem OdJ.kp {W:World}{nm bm:Nat}{l:List (Int×BS)}{V:BS}{b2 b3 b4 n:Nat}{B:Nat}{w w':World}(h:OdJ W nm bm l V b2 b3 b4 n w)(k:Kp B w w')(hW:W.heap.size≤B)(h0:0<B)(l2:b2<B)(l3:b3<B)(l4:b4<B)(lm:bm<B) :
  OdJ W nm bm l V b2 b3 b4 n w':=
 have no:∀{b},b<B→¬aX B b:=fun h hh=>by have:=hh.1;omega
 ⟨h.e.kp k hW,h.t.kp k h0,h.m.pres (k.same bm h.m.lt (no lm)),h.p2.kp k (no l2),h.p3.kp k (no l3),h.p4.kp k (no l4)⟩
theorem mH {N:Nat}(g:GT)(ok:Gr.Ok g)(v:Value)(W:World)(hT:Tab W)(h:(Gn N g).p v W)(hl1:g.1.length≤100000)(hl2:g.2.length≤100000)(hN:N≤1000000) :
  Calls Tryz.prog 25 #[v] W (Post (CyA G0 (iI (nbA g) (vset g.1))) W):=by
 have hgd:=h
 obtain⟨l,hl⟩:=eqX (nbL g (aj (vset g.1)))
 have hnb:nbA g=lkS l:=by rw[hl,nbA]
 rw[hnb]
 obtain⟨V,hV⟩:=eqX (vset g.1)
 rw[← hV]
 obtain⟨rr,hrr⟩:=eqX (iI (lkS l) V)
 rw[← hrr]
 rw[iI] at hrr
 have hcV:=dM V
 have hT0:=hT.lt
 refine cO (args:=[v]) (As:=[E v]) Tryz.func25 rfl Tryz.ntmps25 (Nat.le_of_ble_eq_true rfl) ?_ (fun a hf=>?_) (Nat.le_of_ble_eq_true rfl)
 ·exact arg1 rfl
 dsimp only[params,Nat.reduceAdd] at hf
 have e:=Ext.rfl' W
 refine seq <| ab <| tL I35 hf fun a b2 w e' hb2 hs2 B2 hf=>?_
 have hle2:=Nat.le_trans e.size (Nat.le_of_eq hb2.symm)
 obtain⟨hT,e⟩:=up2 e' hT e
 refine aa ?_
 replace B2:Blk w b2 #[.slice none 0 0] 35:=B2
 have n2:W.heap.size≤b2:=hle2
 replace hf:=hf.kp [0,2]
 have e0:=e
 refine seq <| rgN 2 hf <| st (mv rfl) <| st (ak (A:=ci l V 1024) dR rfl (fun v w he k=>by cases k;rw[hl,hV];exact gG g ok _ w (hT.ext he) (vst (e0.tr he) hgd) hl1 hl2 hN)) ?_
 refine en fun a w e' hf=>?_
 obtain⟨hT,e,B2⟩:=up3 e' hT e B2
 obtain⟨av,⟨mq,rfl,HV0⟩,hf⟩:=hf.opn 17 rfl
 obtain⟨cs,⟨bm0,nm0,rfl,_,hnm0,HM0⟩,hmq⟩:=HV0
 replace hmq:mq=.map (some bm0):=hmq
 subst hmq
 obtain⟨N1,hN1⟩:=eqX w.heap.size
 have hN1s:N1≤w.heap.size:=Nat.le_of_eq hN1
 have hbm0:bm0<N1:=by rw[hN1];exact HM0.lt
 have hb2N:b2<N1:=by rw[hN1];exact B2.lt
 have hWN1:W.heap.size≤N1:=by rw[hN1];exact e.size
 replace hf:=hf.kp [2,17]
 refine tL I79 hf fun a b3 w e' hb3 hs3 B3 hf=>?_
 have hle3:=Nat.le_trans e.size (Nat.le_of_eq hb3.symm)
 have lo3_hN1s:=Nat.le_trans hN1s (Nat.le_of_eq hb3.symm)
 have lt3_B2:=B2.lt
 obtain⟨hT,HM0,hN1s,e,B2⟩:=up5 e' hT HM0 hN1s e B2
 have n3:N1≤b3:=lo3_hN1s
 refine az T79 hf rfl rfl (cg _ _) B3 rfl (aH _ _) fun w hg hsz B3 hf=>?_
 replace e:=e.gr hg (by omega);replace hT:=hT.gr hg (by omega);replace HM0:=HM0.gr hg (fun h=>by cases h;omega);replace B2:=B2.gr hg (by omega);replace hN1s:=Nat.le_trans hN1s hg.size;clear hg
 refine aa ?_
 replace hf:=hf.kp [2,3]
 have l3':=B3.lt
 refine seq <| rgN 4 hf <| st (fA U79 rfl T76 rfl) <| st ((ldP T76 rfl B3 (by rw[aH];decide)).eq (congrArg Value.agg (bO V (.map (some bm0))))) ?_
 refine st (ak (A:=E (I (card V))) (B:=E (ac V)) kZ rfl (fun v w he h=>by cases h;exact lR V w)) ?_
 refine st ((add rfl rfl (by omega)).eq (congrArg (Value.int .i64) (show (card V:Int)+1=((card V+1:Nat):Int) from rfl))) <| en fun a w e' hf=>?_
 obtain⟨hT,HM0,hN1s,e,B2,B3⟩:=up6 e' hT HM0 hN1s e B2 B3
 refine tL I3 hf fun a b4 w e' hb4 hs4 B4 hf=>?_
 have hle4:=Nat.le_trans e.size (Nat.le_of_eq hb4.symm)
 have lo4_hN1s:=Nat.le_trans hN1s (Nat.le_of_eq hb4.symm)
 have lt4_B2:=B2.lt
 have lt4_B3:=B3.lt
 obtain⟨hT,HM0,hN1s,e,B2,B3⟩:=up6 e' hT HM0 hN1s e B2 B3
 have n4:N1≤b4∧b3≠b4∧b2≠b4:=⟨lo4_hN1s,by omega,by omega⟩
 replace hf:=hf.kp [2,3,4,21]
 refine aI T3 hf rfl rfl rfl B4 Nat.zero_lt_one fun w hg hsz B4 hf=>?_
 replace e:=e.gr hg (by omega);replace hT:=hT.gr hg (by omega);replace HM0:=HM0.gr hg (fun h=>by cases h;omega);replace B2:=B2.gr hg (by omega);replace B3:=B3.gr hg (by omega);replace hN1s:=Nat.le_trans hN1s hg.size;clear hg
 refine aa ?_
 replace B4:Blk w b4 #[I ((odB (lkS l) V []:Nat))] 3:=B4
 replace hf:=hf.kp [2,3,4]
 obtain⟨Nz,hNz⟩:=eqX w.heap.size
 refine seq <| seq ?_
 refine rgN 3 hf <| st (fA U79 rfl T76 rfl) <| st ((ldP T76 rfl B3 (by rw[aH];decide)).eq (congrArg Value.agg (bO V (.map (some bm0))))) ?_
 refine st (ak (A:=cN Nz V) cV rfl (fun v w' he h=>by cases h;exact Calls.mono (cZ _ w') (fun en w2 ⟨u,h1,h2,b',h3,h4,h5⟩=>⟨u,h1,h2,b',by have:=he.size;omega,h4,h5⟩))) ?_
 refine en fun a w e' hf=>?_
 obtain⟨hT,HM0,hN1s,e,B2,B3,B4⟩:=up7 e' hT HM0 hN1s e B2 B3 B4
 refine aa ?_
 obtain⟨vv,⟨b24,h24,rfl,BS⟩,hf⟩:=hf.fix 24 rfl
 replace hf:=hf.kp [2,3,4,24]
 obtain⟨nb,hnb'⟩:∃nb,nb=lkS l:=⟨_,rfl⟩
 rw[← hnb'] at hrr B4
 have hBW:W.heap.size≤w.heap.size:=e.size
 have h0w:0<w.heap.size:=hT.lt
 have l2:=B2.lt
 have l3:=B3.lt
 have l4:=B4.lt
 have lm:=HM0.lt
 refine blk <| db (S:=V) hf rfl BS (by decide) (fun s w1=>OdJ W nm0 bm0 l V b2 b3 b4 (odB nb V s) w1) (fun _ _=>False) (fun s w1 h=>h.t)
  ⟨e,hT,HM0,B2,B3,B4⟩ (fun s w1 w2 h hs k=>h.kp k hBW h0w l2 l3 l4 lm) (fun _ _ _ h=>h.elim) ?_ ?_ (fun _ _ _ _ _ _ h=>h.elim)
 ·intro lp s x rest a1 w1 hs hJ hlw hf
  have hxV:V.getLsbD x=true:=(aL.1 (by rw[hs];simp)).2
  have hx1024:x<1024:=aK hxV
  generalize hBz:w.heap.size=Bz at *
  refine ab <| tA hf rfl fun a hf=>aa <| ⟨Kh.rfl' _ _,fun w3 k3 hsz3=>?_⟩
  have hJ3:=hJ.kp k3 hBW h0w l2 l3 l4 lm
  have hw3:Bz+3≤w3.heap.size:=by omega
  replace hf:=hf.pure w3
  obtain⟨e,hT,HM0,B2,B3,B4⟩:=hJ3
  have kh:=Kh.rfl' Bz w3
  have hsuc:=a0E nb V s x
  obtain⟨b0,hb0⟩:=eqX (odB nb V s)
  have hb0l:b0≤1025:=by rw[hb0];have:=rX nb V s;omega
  rw[← hb0] at B4 hsuc
  rw[odS] at hsuc
  have hdv:=HM0.dvE hnm0 (G:=G0) (fun h=>h)
  obtain⟨Nw,hNw⟩:=eqX w3.heap.size
  have hNws:Nw≤w3.heap.size:=Nat.le_of_eq hNw
  have h4w:b4<Nw:=by rw[hNw];exact B4.lt
  replace hf:=hf.kp [2,3,4,5]
  refine blk <| seq <| rgN 4 hf <| st (ldW T79 rfl B3 (aH _ _)) <| st (mv rfl) <| st (ld1 (v:=I (b0:Nat)) T3 rfl B4 rfl) <| st (bX (A:=OwA aM 76 Nw G0 (wkL nb x b0)) (B:=E (.agg (adC V (.map (some bm0))))) (C:=E (I (x:Nat))) (D:=E (I (b0:Nat))) oz rfl rfl rfl (fun a b c w he k1 k2 k3=>by cases k1;cases k2;cases k3;rw[hnb'];exact (rU l V (.map (some bm0)) x b0 w (hT.ext he) (Dv.ex hdv he) hx1024 (by omega)).mono fun en w' ⟨u,k1,k2,k3⟩=>⟨u,k1,k2,OwR.low k3 (Nat.le_trans hNws he.size) fun b hb=>hb.elim⟩)) ?_
  refine en fun a w e' hf=>?_
  obtain⟨hT,HM0⟩:=up2 e' hT HM0
  replace kh:=kh.tr (Kh.ext e')
  obtain⟨e,B2,B3,B4⟩:=up4 e' e B2 B3 B4
  refine tA hf rfl fun a hf=>aa ?_
  replace hf:=hf.kp [2,3,4,5,6]
  obtain⟨wv,HW,hf⟩:=hf.opn 6 rfl
  replace HW:OwR aM 76 Nw G0 w (wkL nb x b0) wv:=HW
  refine seq <| ab <| tA hf rfl fun a hf=>aa ?_
  replace hf:=hf.kp [2,3,4,5,6,7]
  refine blk (aF (fun r0 a w=>∃(n bst:Nat),odN nb x r0 n bst=odB nb V (s++[x])∧bst≤n+r0∧bst≤b0∧n+2 * r0≤3000∧Fr 101 a w [(2,E (ptr b2)),(3,E (ptr b3)),(4,E (ptr b4)),(5,E (I (x:Nat))),(6,E wv),(7,E (I (n:Nat)))]∧OdJ W nm0 bm0 l V b2 b3 b4 bst w∧Kh Bz w3 w∧OwR aM 76 Nw G0 w (wkL nb x b0) wv) b0 ⟨3,b0,hsuc.symm,by omega,Nat.le_refl _,by omega,hf,⟨e,hT,HM0,B2,B3,B4⟩,kh,HW⟩ ?_)
  rintro r0 a w ⟨n,bst,hR,hbr,hb0',hn3,hf,⟨e,hT,HM0,B2,B3,B4⟩,kh,HW⟩
  refine seq <| seq ?_
  refine rgN 3 hf <| st (mv rfl) <| st (ld1 (v:=I (bst:Nat)) T3 rfl B4 rfl) <| st (lss rfl rfl) <| en fun a w e' hf=>?_
  obtain⟨hT,HM0⟩:=up2 e' hT HM0
  replace kh:=kh.tr (Kh.ext e')
  obtain⟨HW,e,B2,B3,B4⟩:=up5 e' HW e B2 B3 B4
  refine aa <| ifc hf rfl (fun hc=>ah ?_) (fun hc=>aC ?_)
  ·have hlt:n<bst:=by have:=of_decide_eq_true hc;omega
   obtain⟨f,rfl⟩:∃f,r0=f+1:=⟨r0 - 1,by omega⟩
   rw[odN,if_pos hlt] at hR
   refine seq <| blk ?_
   have hwn:=jY nb x (m:=b0) (i:=n) (by omega)
   obtain⟨Sn,hSn⟩:=eqX (wkN nb x n)
   rw[← hSn] at hwn hR
   have hbit:has Sn (x:Int)=Sn.getLsbD x:=by rw[Bool.eq_iff_iff];exact cQ Sn x
   replace hf:=hf.kp [2,3,4,5,6,7]
   refine seq <| rgN 6 hf <| st (mv rfl) <| st (mv rfl) <| st (aD U83 S76 (isE rfl HW.sl) rfl (by omega) (hwn)) <| st (ldS T76 (isR rfl)) <| st (mv rfl) <| st (aw (A:=E (B (Sn.getLsbD x))) (B:=E (ac Sn)) (C:=E (I (x:Nat))) bZ rfl rfl (fun v u w he h h'=>by cases h;cases h';rw[← hbit];exact dT _ _ w)) ?_
   refine en fun a w e' hf=>?_
   obtain⟨hT,HM0⟩:=up2 e' hT HM0
   replace kh:=kh.tr (Kh.ext e')
   obtain⟨HW,e,B2,B3,B4⟩:=up5 e' HW e B2 B3 B4
   refine aa ?_
   replace hf:=hf.kp [2,3,4,5,6,7,40]
   by_cases hh:Sn.getLsbD x=true
   ·rw[if_pos hh] at hR
    rw[hh] at hf
    refine ifT hf rfl ?_
    refine rgN 1 hf <| st (mv rfl) <| en fun a w e' hf=>?_
    obtain⟨hT,HM0⟩:=up2 e' hT HM0
    replace kh:=kh.tr (Kh.ext e')
    obtain⟨HW,e,B2,B3,B4⟩:=up5 e' HW e B2 B3 B4
    replace hf:=hf.kp [2,3,4,5,6,7,41]
    refine aI T3 hf rfl rfl rfl B4 Nat.zero_lt_one fun w hg hsz B4 hf=>?_
    replace e:=e.gr hg (by omega);replace hT:=hT.gr hg (by omega);replace HM0:=HM0.gr hg (fun h=>by cases h;omega);replace B2:=B2.gr hg (by omega);replace B3:=B3.gr hg (by omega);replace kh:=kh.tr (Kh.gr hg (fun hh=>by have:=hh.1;omega));replace HW:=HW.grE hg (HW.neLt h4w);clear hg
    refine aa ?_
    replace B4:Blk w b4 #[I (n:Nat)] 3:=B4
    replace hf:=hf.kp [2,3,4,5,6,7]
    refine rgN 2 hf <| st (mv rfl) <| st ((add rfl rfl (by omega)).eq (congrArg (Value.int .i64) (show (n:Int)+2=((n+2:Nat):Int) from rfl))) <| en fun a w e' hf=>?_
    obtain⟨hT,HM0⟩:=up2 e' hT HM0
    replace kh:=kh.tr (Kh.ext e')
    obtain⟨HW,e,B2,B3,B4⟩:=up5 e' HW e B2 B3 B4
    refine tA hf rfl fun a hf=>aa ?_
    replace hf:=hf.kp [2,3,4,5,6,7]
    exact⟨f,Nat.lt_succ_self _,n+2,n,hR,by omega,by omega,by omega,hf,⟨e,hT,HM0,B2,B3,B4⟩,kh,HW⟩
   ·rw[if_neg hh] at hR
    rw[Bool.eq_false_iff.2 hh] at hf
    refine ifF hf rfl ?_
    refine ah ?_
    replace hf:=hf.kp [2,3,4,5,6,7]
    refine rgN 2 hf <| st (mv rfl) <| st ((add rfl rfl (by omega)).eq (congrArg (Value.int .i64) (show (n:Int)+2=((n+2:Nat):Int) from rfl))) <| en fun a w e' hf=>?_
    obtain⟨hT,HM0⟩:=up2 e' hT HM0
    replace kh:=kh.tr (Kh.ext e')
    obtain⟨HW,e,B2,B3,B4⟩:=up5 e' HW e B2 B3 B4
    refine tA hf rfl fun a hf=>aa ?_
    replace hf:=hf.kp [2,3,4,5,6,7]
    exact⟨f,Nat.lt_succ_self _,n+2,bst,hR,by omega,by omega,by omega,hf,⟨e,hT,HM0,B2,B3,B4⟩,kh,HW⟩
  ·have hge:¬n<bst:=by have:=of_decide_eq_false hc;omega
   have hR2:odB nb V (s++[x])=bst:=by
    rw[← hR]
    cases r0 with
    | zero=>rfl
    | succ f=>rw[odN,if_neg hge]
   exact⟨⟨e,hT,HM0,B2,B3,by rw[hR2];exact B4⟩,kh⟩
 ·intro a' w' hf' hJ hsz hDn
  simp only[Exit.inBlock,↓reduceIte,Exit.then]
  have hD:Ds [w.heap.size] w':=(Ds.nil w').cons hDn (by simp)
  have hf:FrD 101 (bL [w.heap.size]) a' w' [(2,E (ptr b2)),(3,E (ptr b3)),(4,E (ptr b4))]:=hf'.keep [2,3,4]
  obtain⟨d1,hd1⟩:=eqX w.heap.size
  rw[← hd1] at hD hf
  have hDW:∀d∈[d1],W.heap.size≤d:=fun d hd=>by rw[List.mem_singleton] at hd;omega
  obtain⟨e,hT,HM0,B2,B3,B4⟩:=hJ
  obtain⟨n,hn⟩:=eqX (odB nb V (aj V))
  rw[← hn] at B4 hrr
  have hn1:1≤n:=by rw[hn];exact a0F nb V _
  have hn2:n≤1025:=by rw[hn];have:=rX nb V (aj V);omega
  have hd1w:d1<w'.heap.size:=hD.lt (by simp)
  have nb2:=hD.ne B2
  have nb3:=hD.ne B3
  have nb4:=hD.ne B4
  generalize w'=w at *
  by_cases hcn:card V<n
  ·rw[if_pos hcn] at hrr
   subst hrr
   refine seq <| seq ?_
   refine rgG 5 Mix.mix hf <| st (ld1 (v:=I (n:Nat)) T3 rfl B4 rfl) <| st (fA U79 rfl T76 rfl) <| st ((ldP T76 rfl B3 (by rw[aH];decide)).eq (congrArg Value.agg (bO V (.map (some bm0))))) ?_
   refine st (ak (A:=E (I (card V))) (B:=E (ac V)) kZ rfl (fun v w he h=>by cases h;exact lR V w)) ?_
   refine st ((gtr rfl rfl).eq (congrArg Value.bool (decide_eq_true (show (card V:Int)<(n:Int) by omega)))) <| en fun a w e' hf=>?_
   obtain⟨hT,HM0,e,B2,B3,B4,hD⟩:=up7 e' hT HM0 e B2 B3 B4 hD
   refine aa <| ifT hf rfl ?_
   replace hf:=hf.kp [2]
   refine seq <| ab <| aI T35 hf rfl rfl rfl B2 Nat.zero_lt_one fun w hg hsz B2 hf=>?_
   replace e:=e.gr hg (by omega)
   replace hD:=hD.gr hg nb2
   refine aa <| ai <| dI rfl T35 hf rfl B2 hD ⟨_,rfl,e.shut hDW,rfl⟩
  rw[if_neg hcn] at hrr
  refine seq <| seq ?_
  refine rgG 5 Mix.mix hf <| st (ld1 (v:=I (n:Nat)) T3 rfl B4 rfl) <| st (fA U79 rfl T76 rfl) <| st ((ldP T76 rfl B3 (by rw[aH];decide)).eq (congrArg Value.agg (bO V (.map (some bm0))))) ?_
  refine st (ak (A:=E (I (card V))) (B:=E (ac V)) kZ rfl (fun v w he h=>by cases h;exact lR V w)) ?_
  refine st ((gtr rfl rfl).eq (congrArg Value.bool (decide_eq_false (show ¬(card V:Int)<(n:Int) by omega)))) <| en fun a w e' hf=>?_
  obtain⟨hT,HM0,e,B2,B3,B4,hD⟩:=up7 e' hT HM0 e B2 B3 B4 hD
  refine aa <| ifF hf rfl ?_
  refine ah ?_
  replace hf:=hf.kp [2,3,4]
  obtain⟨N6,hN6⟩:=eqX w.heap.size
  have hN6s:N6≤w.heap.size:=Nat.le_of_eq hN6
  have hl6:b2<N6∧b3<N6∧b4<N6∧bm0<N6∧d1<N6∧W.heap.size≤N6:=by have h1:=B2.lt;have h2:=B3.lt;have h3:=B4.lt;have h4:=HM0.lt;have h5:=e.size;have h6:=hD.lt (List.mem_singleton.2 rfl:d1∈[d1]);omega
  refine seq <| ab <| tP hf (fA U79 rfl T76 rfl) fun a w e' hf=>?_
  obtain⟨hT,HM0,hN6s,e,B2,B3,B4,hD⟩:=up8 e' hT HM0 hN6s e B2 B3 B4 hD
  refine tP hf ((ldP T76 rfl B3 (by rw[aH];decide)).eq (congrArg Value.agg (bO V (.map (some bm0))))) fun a w e' hf=>?_
  obtain⟨hT,HM0,hN6s,e,B2,B3,B4,hD⟩:=up8 e' hT HM0 hN6s e B2 B3 B4 hD
  refine tL I76 hf fun a b8 w e' hb8 hs8 B8 hf=>?_
  have hle8:=Nat.le_trans e.size (Nat.le_of_eq hb8.symm)
  have lo8_hN6s:=Nat.le_trans hN6s (Nat.le_of_eq hb8.symm)
  have lt8_B2:=B2.lt
  obtain⟨hT,HM0,hN6s,e,B2,B3,B4,hD⟩:=up8 e' hT HM0 hN6s e B2 B3 B4 hD
  have n8:N6≤b8:=lo8_hN6s
  have nd8:¬b8∈[d1]:=fun h=>by rw[List.mem_singleton] at h;omega
  replace hf:=hf.kp [2,3,4,8,48]
  refine az T76 hf rfl rfl (bj _) B8 rfl (bh _) fun w hg hsz B8 hf=>?_
  replace e:=e.gr hg (by omega);replace hT:=hT.gr hg (by omega);replace HM0:=HM0.gr hg (fun h=>by cases h;omega);replace B2:=B2.gr hg (by omega);replace B3:=B3.gr hg (by omega);replace B4:=B4.gr hg (by omega);replace hD:=hD.gr hg nd8;clear hg hN6s
  refine aa ?_
  replace hf:=hf.kp [2,3,4,8]
  obtain⟨Nz,hNz⟩:=eqX w.heap.size
  refine seq <| seq ?_
  refine rgN 3 hf <| st (fA U79 rfl T76 rfl) <| st ((ldP T76 rfl B3 (by rw[aH];decide)).eq (congrArg Value.agg (bO V (.map (some bm0))))) ?_
  refine st (ak (A:=cN Nz V) cV rfl (fun v w' he h=>by cases h;exact Calls.mono (cZ _ w') (fun en w2 ⟨u,h1,h2,b',h3,h4,h5⟩=>⟨u,h1,h2,b',by have:=he.size;omega,h4,h5⟩))) ?_
  refine en fun a w e' hf=>?_
  obtain⟨hT,HM0,e,B2,B3,B4,B8,hD⟩:=up8 e' hT HM0 e B2 B3 B4 B8 hD
  refine aa ?_
  obtain⟨vv,⟨b51,h51,rfl,BS⟩,hf⟩:=hf.fix 51 rfl
  replace hf:=hf.kp [2,3,4,8,51]
  have hBW:W.heap.size≤w.heap.size:=e.size
  have h0w:0<w.heap.size:=hT.lt
  have l2:=B2.lt
  have l3:=B3.lt
  have l4:=B4.lt
  have l8:=B8.lt
  have lm:=HM0.lt
  have ld1':=hD.lt (List.mem_singleton.2 rfl:d1∈[d1])
  refine blk <| db (S:=V) hf rfl BS (by decide) (fun s w1=>(ScJ W nm0 bm0 l V b2 b3 b4 b8 n (.slice none 0 0) (dy V s) w1∧Ds [d1] w1)∧(∀rest,aj V=s++rest→ocL nb V n (aj V) V=ocL nb V n rest (dy V s)))
   (fun ex w1=>ex=.ret∧∃r out left,(ScJ W nm0 bm0 l V b2 b3 b4 b8 n r left w1∧Ds [d1] w1)∧ocL nb V n (aj V) V=some out∧out≠[]∧(Dv (slE intE) (fun b=>b<w.heap.size+3) (ae out)).p r w1) (fun s w1 h=>h.1.1.t)
   ⟨⟨⟨e,hT,HM0,B2,B3,B4,B8⟩,hD⟩,fun rest hr=>by rw[List.nil_append] at hr;rw[← hr];rfl⟩ (fun s w1 w2 h hs k=>⟨⟨h.1.1.kp k hBW h0w l2 l3 l4 l8 lm,h.1.2.ch k.chg fun d hd hh=>by rw[List.mem_singleton] at hd;have:=hh.1;omega⟩,h.2⟩)
   (fun ex w1 w2 ⟨q1,r,out,left,q2,q3,q4,q5⟩ hs k=>⟨q1,r,out,left,⟨q2.1.kp k hBW h0w l2 l3 l4 l8 lm,q2.2.ch k.chg fun d hd hh=>by rw[List.mem_singleton] at hd;have:=hh.1;omega⟩,q3,q4,Dv.ch q5 k.chg fun b hb=>hb.2⟩) ?_ ?_ ?_
  ·intro lp s x rest a1 w1 hs hJ hlw hf
   have hxV:V.getLsbD x=true:=(aL.1 (by rw[hs];simp)).2
   have hx1024:x<1024:=aK hxV
   generalize hBz:w.heap.size=Bz at *
   refine ab <| tA hf rfl fun a hf=>aa <| ⟨Kh.rfl' _ _,fun w3 k3 hsz3=>?_⟩
   have hJ3:=hJ.1.1.kp k3 hBW h0w l2 l3 l4 l8 lm
   have hJd:=hJ.1.2.ch k3.chg fun d hd hh=>by rw[List.mem_singleton] at hd;have:=hh.1;omega
   have hJs:=hJ.2
   have hw3:Bz+3≤w3.heap.size:=by omega
   replace hf:=hf.pure w3
   obtain⟨e,hT,HM0,B2,B3,B4,B8⟩:=hJ3
   have hD:=hJd
   have kh:=Kh.rfl' Bz w3
   obtain⟨left,hleft⟩:=eqX (dy V s)
   have hdl:dy V (s++[x])=del left (x:Int):=by rw[ry,hleft]
   have hsc:=hJs (x::rest) hs
   rw[← hleft] at B8 hsc
   rw[ocL] at hsc
   obtain⟨S7,hS7⟩:=eqX (V &&& left)
   rw[← hS7] at hsc
   have hwi:=mj l S7
   rw[← hnb'] at hwi
   obtain⟨nw,hnw⟩:=eqX (ew nb S7)
   rw[← hnw] at hsc hwi
   have hdv:=HM0.dvE hnm0 (G:=G0) (fun h=>h)
   have nd8':=hD.ne B8
   replace hf:=hf.kp [2,3,4,8,9]
   refine blk <| seq <| rgN 3 hf <| st (ldW T79 rfl B3 (aH _ _)) <| st ((ldW T76 rfl B8 rfl).eq ((rfl:_=ac left))) <| st (aw (A:=ci (wiL l S7) S7 1024) (B:=E (.agg (adC V (.map (some bm0))))) (C:=E (ac left)) kY rfl rfl (fun a b w he k1 k2=>by cases k1;cases k2;rw[hS7];exact mm l V left (.map (some bm0)) w (hT.ext he) (Dv.ex hdv he))) ?_
   refine en fun a w e' hf=>?_
   obtain⟨hT,HM0⟩:=up2 e' hT HM0
   replace kh:=kh.tr (Kh.ext e')
   obtain⟨hw3,e,B2,B3,B4,B8,hD⟩:=up7 e' hw3 e B2 B3 B4 B8 hD
   obtain⟨av,⟨mq7,rfl,HV7⟩,hf⟩:=hf.opn 55 rfl
   obtain⟨cs7,⟨bm7,nm7,rfl,_,hnm7,HM7⟩,hmq7⟩:=HV7
   replace hmq7:mq7=.map (some bm7):=hmq7
   subst hmq7
   have hbn7:bm7≠b8:=HM7.neB B8
   have hbn2:bm7≠b2:=HM7.neB B2
   have nd8':=hD.ne B8
   obtain⟨N7,hN7⟩:=eqX w.heap.size
   have hN7s:N7≤w.heap.size:=Nat.le_of_eq hN7
   have hl7:b2<N7∧b3<N7∧b4<N7∧b8<N7∧bm0<N7∧bm7<N7∧Bz+3≤N7∧d1<N7∧W.heap.size≤N7:=by have:=HM7.lt;have:=hD.lt (List.mem_singleton.2 rfl:d1∈[d1]);have:=e.size;have h1:=B2.lt;have h2:=B3.lt;have h3:=B4.lt;have h4:=B8.lt;have h5:=HM0.lt;omega
   replace hf:=hf.kp [2,3,4,8,9,55]
   refine tL I79 hf fun a b10 w e' hb10 hs10 B10 hf=>?_
   have lo10_hN7s:=Nat.le_trans hN7s (Nat.le_of_eq hb10.symm)
   have lt10_B2:=B2.lt
   obtain⟨hT,HM0⟩:=up2 e' hT HM0
   replace kh:=kh.tr (Kh.ext e')
   obtain⟨hw3,HM7,hN7s,e,B2,B3,B4,B8,hD⟩:=up9 e' hw3 HM7 hN7s e B2 B3 B4 B8 hD
   have n10:N7≤b10:=lo10_hN7s
   have nd10:¬b10∈[d1]:=fun h=>by rw[List.mem_singleton] at h;omega
   refine az T79 hf rfl rfl (cg _ _) B10 rfl (aH _ _) fun w hg hsz B10 hf=>?_
   replace e:=e.gr hg (by omega);replace hT:=hT.gr hg (by omega);replace HM0:=HM0.gr hg (fun h=>by cases h;omega);replace HM7:=HM7.gr hg (fun h=>by cases h;omega);replace B2:=B2.gr hg (by omega);replace B3:=B3.gr hg (by omega);replace B4:=B4.gr hg (by omega);replace B8:=B8.gr hg (by omega);replace hD:=hD.gr hg nd10;replace kh:=kh.tr (Kh.gr hg (fun hh=>by have:=hh.2;omega));clear hg hN7s
   refine aa ?_
   have hl10:=B10.lt
   replace hf:=hf.kp [2,3,4,8,9,10]
   refine seq <| rgN 3 hf <| st ((ldW T76 rfl B8 rfl).eq ((rfl:_=ac left))) <| st (mv rfl) <| st (aw (A:=E (ac (del left (x:Int)))) (B:=E (ac left)) (C:=E (I (x:Nat))) fY rfl rfl (fun v u w he h h'=>by cases h;cases h';exact gd _ _ w)) ?_
   refine en fun a w e' hf=>?_
   obtain⟨hT,HM0,HM7⟩:=up3 e' hT HM0 HM7
   replace kh:=kh.tr (Kh.ext e')
   obtain⟨e,B2,B3,B4,B8,B10,hD⟩:=up7 e' e B2 B3 B4 B8 B10 hD
   refine az T76 hf rfl rfl (bj _) B8 (bh _) (bh _) fun w hg hsz B8 hf=>?_
   replace e:=e.gr hg (by omega);replace hT:=hT.gr hg (by omega);replace HM0:=HM0.gr hg (fun h=>by cases h;omega);replace HM7:=HM7.gr hg (fun h=>by cases h;omega);replace B2:=B2.gr hg (by omega);replace B3:=B3.gr hg (by omega);replace B4:=B4.gr hg (by omega);replace B10:=B10.gr hg (by omega);replace hD:=hD.gr hg nd8';replace kh:=kh.tr (Kh.gr hg (fun hh=>by have:=hh.1;omega));clear hg
   refine aa ?_
   replace hf:=hf.kp [2,3,4,8,9,10]
   obtain⟨N8,hN8⟩:=eqX w.heap.size
   have hN8s:N8≤w.heap.size:=Nat.le_of_eq hN8
   have hl8:N7≤N8∧b10<N8:=by rw[hN8];exact⟨by have:=B10.lt;omega,B10.lt⟩
   have hdv7:=HM7.dvE hnm7 (G:=G0) (fun h=>h)
   refine seq <| rgN 4 hf <| st (ldW T79 rfl B10 (aH _ _)) <| st (mv rfl) <| st (ld1 (v:=I (n:Nat)) T3 rfl B4 rfl) <| st (bX (A:=OwA aM 76 N8 G0 (wkL nw x n)) (B:=E (.agg (adC S7 (.map (some bm7))))) (C:=E (I (x:Nat))) (D:=E (I (n:Nat))) oz rfl rfl rfl (fun a b c w he k1 k2 k3=>by cases k1;cases k2;cases k3;rw[← hwi];exact (rU (wiL l S7) S7 (.map (some bm7)) x n w (hT.ext he) (Dv.ex hdv7 he) hx1024 (by omega)).mono fun en w' ⟨u,k1,k2,k3⟩=>⟨u,k1,k2,OwR.low k3 (Nat.le_trans hN8s he.size) fun b hb=>hb.elim⟩)) ?_
   refine en fun a w e' hf=>?_
   obtain⟨hT,HM0,HM7⟩:=up3 e' hT HM0 HM7
   replace kh:=kh.tr (Kh.ext e')
   obtain⟨e,B2,B3,B4,B8,B10,hD⟩:=up7 e' e B2 B3 B4 B8 B10 hD
   refine tA hf rfl fun a hf=>aa ?_
   replace hf:=hf.kp [2,3,4,8,9,10,11]
   obtain⟨wv,HW,hf⟩:=hf.opn 11 rfl
   replace HW:OwR aM 76 N8 G0 w (wkL nw x n) wv:=HW
   have hwn:=jY nw x (m:=n) (i:=n) (Nat.le_refl n)
   obtain⟨Sn,hSn⟩:=eqX (wkN nw x n)
   rw[← hSn] at hwn hsc
   have hbit:has Sn (x:Int)=Sn.getLsbD x:=by rw[Bool.eq_iff_iff];exact cQ Sn x
   refine seq <| seq ?_
   refine rgN 7 hf <| st (mv rfl) <| st (ld1 (v:=I (n:Nat)) T3 rfl B4 rfl) <| st (aD U83 S76 (isE rfl HW.sl) rfl (by omega) (hwn)) <| st (ldS T76 (isR rfl)) <| st (mv rfl) <| st (aw (A:=E (B (Sn.getLsbD x))) (B:=E (ac Sn)) (C:=E (I (x:Nat))) bZ rfl rfl (fun v u w he h h'=>by cases h;cases h';rw[← hbit];exact dT _ _ w)) ?_
   refine st (aY rfl) <| en fun a w e' hf=>?_
   obtain⟨hT,HM0,HM7⟩:=up3 e' hT HM0 HM7
   replace kh:=kh.tr (Kh.ext e')
   obtain⟨HW,e,B2,B3,B4,B8,B10,hD⟩:=up8 e' HW e B2 B3 B4 B8 B10 hD
   refine aa ?_
   replace hf:=hf.keep [2,3,4,8,9,10,11,69]
   by_cases hh:Sn.getLsbD x=true
   ·rw[if_pos hh] at hsc
    rw[hh] at hf
    refine ifF hf rfl ?_
    refine ah ?_
    replace hf:=hf.keep [2,3,4,8,9,10,11]
    obtain⟨N9,hN9⟩:=eqX w.heap.size
    have hN9s:N9≤w.heap.size:=Nat.le_of_eq hN9
    have hl9:N8≤N9∧∀b,wv.ownBlock=some b→b<N9:=by rw[hN9];exact⟨by have:=HW.base;omega,fun b hb=>(HW.lt hb).2⟩
    have hW9:0<N9:=by omega
    refine seq <| rgN 2 hf <| st (mv rfl) <| st (lB (B:=N9) (G:=G0) U35 I3 rfl rfl hN9s (fun b hb=>hb.elim)) <| en fun a w e' hf=>?_
    obtain⟨hT,HM0,HM7⟩:=up3 e' hT HM0 HM7
    replace kh:=kh.tr (Kh.ext e')
    obtain⟨HW,hN9s,e,B2,B3,B4,B8,B10,hD⟩:=up9 e' HW hN9s e B2 B3 B4 B8 B10 hD
    refine tA hf rfl fun a hf=>aa ?_
    obtain⟨u0,Ho,hf⟩:=hf.opn 12 rfl
    replace Ho:OwR intE 3 N9 G0 w (ae [x]) u0:=Ho
    replace hf:=hf.keep [2,3,4,8,9,10,11,12]
    refine seq <| seq ?_
    refine rgN 2 hf <| st (ld1 (v:=I (n:Nat)) T3 rfl B4 rfl) <| st ((sub rfl rfl (by omega)).eq (congrArg (Value.int .i64) (show (n:Int) - 1=((n - 1:Nat):Int) by omega))) <| en fun a w e' hf=>?_
    obtain⟨hT,HM0,HM7⟩:=up3 e' hT HM0 HM7
    replace kh:=kh.tr (Kh.ext e')
    obtain⟨HW,Ho,e,B2,B3,B4,B8,B10,hD⟩:=up9 e' HW Ho e B2 B3 B4 B8 B10 hD
    refine tA hf rfl fun a hf=>aa ?_
    replace hf:=hf.keep [2,3,4,8,9,10,11,12,13]
    obtain⟨tot,htot⟩:=eqX (x::ocG nw x (n - 1) x)
    rw[← htot] at hsc
    refine blk (aF (fun r0 a w=>∃(last:Nat) (out:List Nat) (u:Value),out++ocG nw x r0 last=tot∧out≠[]∧out.getLastD 0=last∧last<1024∧r0≤n - 1∧out.length+r0≤1026∧Fr 101 a w [(2,E (ptr b2)),(3,E (ptr b3)),(4,E (ptr b4)),(8,E (ptr b8)),(9,E (I (x:Nat))),(10,E (ptr b10)),(11,E wv),(12,E u),(13,E (I (r0:Nat)))] ∧
     ScJ W nm0 bm0 l V b2 b3 b4 b8 n (.slice none 0 0) (del left (x:Int)) w∧Ds [d1] w∧Kh Bz w3 w∧Blk w b10 (adC S7 (.map (some bm7))) 79∧MpR sKV w bm7 nm7 (wiL l S7)∧OwR aM 76 N8 G0 w (wkL nw x n) wv∧OwR intE 3 N9 G0 w (ae out) u) (n - 1)
     ⟨x,[x],u0,by rw[htot];rfl,by simp,rfl,hx1024,Nat.le_refl _,by simp only[List.length_singleton];omega,hf,⟨e,hT,HM0,B2,B3,B4,B8⟩,hD,kh,B10,HM7,HW,Ho⟩ ?_)
    rintro r0 a w ⟨last,out,u,hR,hne,hla,hl1024,hrn,hlen,hf,⟨e,hT,HM0,B2,B3,B4,B8⟩,hD,kh,B10,HM7,HW,Ho⟩
    refine seq <| seq ?_
    refine rgN 2 hf <| st (mv rfl) <| st (gtr rfl rfl) <| en fun a w e' hf=>?_
    obtain⟨hT,HM0,HM7⟩:=up3 e' hT HM0 HM7
    replace kh:=kh.tr (Kh.ext e')
    obtain⟨HW,Ho,e,B2,B3,B4,B8,B10,hD⟩:=up9 e' HW Ho e B2 B3 B4 B8 B10 hD
    refine aa <| ifc hf rfl (fun hc=>ah ?_) (fun hc=>aC ?_)
    ·obtain⟨k,rfl⟩:∃k,r0=k+1:=⟨r0 - 1,by have:=of_decide_eq_true hc;omega⟩
     refine seq <| blk ?_
     have hgl:=mt hne
     rw[hla] at hgl
     have hwl:1≤out.length:=by
      cases out with
      | nil=>exact absurd rfl hne
      | cons _ _=>rw[List.length_cons];omega
     have hol:(ae out).length=out.length:=bC out
     have hwk:=jY nw x (m:=n) (i:=k+1) (by omega)
     obtain⟨Sk,hSk⟩:=eqX (wkN nw x (k+1))
     rw[← hSk] at hwk
     rw[ocG,← hSk] at hR
     obtain⟨nx,hnx⟩:=eqX ((aU (nw (last:Int) &&& Sk)).getD 0)
     have hnx1:nx<1024:=by rw[hnx];exact rZ _
     rw[← hnx] at hR
     have hwz:(Lit.int .i64 (last:Int)).wf=true:=bH (by omega) (by omega)
     have hdv7:=HM7.dvE hnm7 (G:=G0) (fun h=>h)
     have hix:((((ae out).length:Nat):Int) - 1)=(((out.length - 1:Nat)):Int):=by rw[hol];omega
     replace hf:=hf.kp [2,3,4,8,9,10,11,12,13]
     refine seq <| rgG 20 Mix.mix hf <| st (fA U79 rfl T77 rfl) <| st (ld1 (v:=.map (some bm7)) T77 rfl B10 (bI _ _)) <| st (mv rfl) <| st (mv rfl) <| st (aB U35 (isE rfl Ho.sl)) <| st ((sub rfl rfl (by omega)).eq (congrArg (Value.int .i64) hix)) <| st (aD U35 S3 (isE rfl Ho.sl) rfl (by omega) (hgl)) <| st (ldI T3 (isR rfl)) <| st ((lkM (l:=wiL l S7) (i:=(last:Int)) U77 bW (isE rfl hdv7) rfl hwz).eq (congrArg ac (congrFun hwi (last:Int)))) <| st (mv rfl) <| st (mv rfl) <| st (aD U83 S76 (isE rfl HW.sl) rfl (by omega) (hwk)) <| st (ldS T76 (isR rfl)) <| st (aw (A:=E (ac (nw (last:Int) &&& Sk))) (B:=E (ac (nw (last:Int)))) (C:=E (ac Sk)) dS rfl rfl (fun v u w he h h'=>by cases h;cases h';exact ie _ Sk w)) ?_
     refine st (ak (A:=Tup [E (I (nx:Nat)),Any]) fu rfl (fun v w he h=>by cases h;have hm:=fx (nw (last:Int) &&& Sk) w (hT.ext he);rw[gf,← hnx] at hm;exact hm.mono fun en w' ⟨u,k1,k2,k3⟩=>⟨u,k1,k2,rY k3⟩)) ?_
     refine st (mv rfl) <| st (aV rfl rfl) <| st (aV rfl rfl) <| st (asg rfl) <| st (asg rfl) <| en fun a w e' hf=>?_
     obtain⟨hT,HM0,HM7⟩:=up3 e' hT HM0 HM7
     replace kh:=kh.tr (Kh.ext e')
     obtain⟨HW,Ho,e,B2,B3,B4,B8,B10,hD⟩:=up9 e' HW Ho e B2 B3 B4 B8 B10 hD
     refine aa ?_
     replace hf:=hf.kp [2,3,4,8,9,10,11,12,13,14]
     refine rgN 3 hf <| st (mv rfl) <| st (mv rfl) <| st (aW U35 I3 rfl (by decide) rfl Ho.avs (isI rfl)) <| en fun a w e' hf=>?_
     obtain⟨hT,HM0,HM7⟩:=up3 e' hT HM0 HM7
     replace kh:=kh.tr (Kh.ext e')
     obtain⟨HW,hD,B2,B3,B4,B8,B10,Ho,e⟩:=up9 e' HW hD B2 B3 B4 B8 B10 Ho e
     haveI hin:∀G0,InR (GB W G0) _:=OwR.inGB (W:=W) Ho (by omega)
     refine br U35 I3 rfl rfl hf (by decide) rfl Ho (isR rfl) (by rw[bC,List.length_singleton];omega) (by rw[bC,List.length_singleton];simp only[maxLen];omega) fun a v w hg hat Hn hf=>?_
     replace e:=e.gro hg (Ho.row (W:=W) (by omega))
     have hrow:=Ho.row (W:=W) (by omega)
     replace hT:=hT.gro hg (fun b hb=>by have:=(Ho.lt hb).1;omega)
     replace HM0:=HM0.gr hg (fun h=>by have:=(Ho.lt h.symm).1;omega)
     replace HM7:=HM7.gr hg (fun h=>by have:=(Ho.lt h.symm).1;omega)
     replace kh:=kh.tr (Kh.gro hg (fun b hb hh=>by have h1:=(Ho.lt hb).1;have h2:=hh.2;omega))
     replace HW:=HW.groE hg (fun b hb hh=>by have h1:=(Ho.lt hh).1;have h2:=hl9.2 b hb;omega)
     replace hD:=hD.gro hg (fun d hd hh=>by rw[List.mem_singleton] at hd;have h1:=(Ho.lt hh).1;omega)
     replace B2:=B2.gro hg (Ho.neLt (by omega))
     replace B3:=B3.gro hg (Ho.neLt (by omega))
     replace B4:=B4.gro hg (Ho.neLt (by omega))
     replace B8:=B8.gro hg (Ho.neLt (by omega))
     replace B10:=B10.gro hg (Ho.neLt (by omega))
     replace Ho:=Hn
     replace Ho:=Hn;clear Hn hg hat hin
     refine tA hf rfl fun a hf=>aa ?_
     rw[← gw] at Ho
     replace hf:=hf.kp [2,3,4,8,9,10,11,12,13]
     refine rgN 2 hf <| st (mv rfl) <| st ((sub rfl rfl (by omega)).eq (congrArg (Value.int .i64) (show ((k+1:Nat):Int) - 1=((k:Nat):Int) by omega))) <| en fun a w e' hf=>?_
     obtain⟨hT,HM0,HM7⟩:=up3 e' hT HM0 HM7
     replace kh:=kh.tr (Kh.ext e')
     obtain⟨HW,Ho,e,B2,B3,B4,B8,B10,hD⟩:=up9 e' HW Ho e B2 B3 B4 B8 B10 hD
     refine tA hf rfl fun a hf=>aa ?_
     replace hf:=hf.kp [2,3,4,8,9,10,11,12,13]
     exact⟨k,Nat.lt_succ_self _,nx,out++[nx],_,by rw[List.append_assoc];exact hR,by simp,a0m _ _,hnx1,by omega,by rw[List.length_append,List.length_singleton];omega,hf,⟨e,hT,HM0,B2,B3,B4,B8⟩,hD,kh,B10,HM7,HW,Ho⟩
    ·obtain rfl:r0=0:=by have:=of_decide_eq_false hc;omega
     rw[ocG,List.append_nil] at hR
     subst hR
     have hro:u.oneCell'=true:=Ho.one
     have nu2:u.ownBlock≠some b2:=Ho.neLt (by omega)
     have nd2:=hD.ne B2
     have nm2:bm0≠b2:=HM0.neB B2
     replace hf:=hf.kp [2,12]
     refine seq <| rgN 1 hf <| st (mv rfl) <| en fun a w e' hf=>?_
     obtain⟨hT,HM0⟩:=up2 e' hT HM0
     replace kh:=kh.tr (Kh.ext e')
     obtain⟨Ho,e,B2,B3,B4,B8,hD⟩:=up7 e' Ho e B2 B3 B4 B8 hD
     refine aI T35 hf rfl rfl hro B2 Nat.zero_lt_one fun w hg hsz B2 hf=>?_
     replace e:=e.gr hg (by omega);replace hT:=hT.gr hg (by omega);replace HM0:=HM0.gr hg (fun h=>nm2 (Option.some.inj h));replace B3:=B3.gr hg (by omega);replace B4:=B4.gr hg (by omega);replace B8:=B8.gr hg (by omega);replace Ho:=Ho.grE hg nu2;replace kh:=kh.tr (Kh.gr hg (fun hh=>by have:=hh.1;omega))
     replace hD:=hD.gr hg nd2
     refine aa <| ai <| ⟨⟨rfl,_,_,_,⟨⟨e,hT,HM0,B2,B3,B4,B8⟩,hD⟩,hsc,hne,Ho.slN fun b hb hh=>by have h1:=(Ho.lt hb).1;omega⟩,kh⟩
   ·rw[if_neg hh] at hsc
    rw[Bool.eq_false_iff.2 hh] at hf
    refine ifT hf rfl ?_
    refine aC <| ⟨⟨⟨⟨e,hT,HM0,B2,B3,B4,by rw[hdl];exact B8⟩,hD⟩,fun rest' hr'=>by
     have:rest'=rest:=by rw[hs,List.append_assoc] at hr';simpa using hr'.symm
     rw[this,hdl];exact hsc⟩,kh⟩
  ·intro a' w' hf' hJ hsz hDn
   simp only[Exit.inBlock,↓reduceIte,Exit.then]
   have hfs:=hJ.2 [] (by rw[List.append_nil])
   rw[hfs,ocL] at hrr
   subst hrr
   have hD2:Ds (w.heap.size::[d1]) w':=hJ.1.2.cons hDn fun hm=>by rw[List.mem_singleton] at hm;omega
   have hf:FrD 101 (bL (w.heap.size::[d1])) a' w' [(2,E (ptr b2))]:=hf'.keep [2]
   have hDW2:∀d∈w.heap.size::[d1],W.heap.size≤d:=fun d hd=>by
    rcases List.mem_cons.1 hd with rfl|hd
    ·exact hBW
    ·exact hDW d hd
   obtain⟨e,hT,HM0,B2,B3,B4,B8⟩:=hJ.1.1
   have hb2:=hD2.ne B2
   generalize w.heap.size::[d1]=D2 at *
   generalize w'=w at *
   refine seq <| ab <| aI T35 hf rfl rfl rfl B2 Nat.zero_lt_one fun w hg hsz B2 hf=>?_
   replace e:=e.gr hg (by omega)
   replace hD2:=hD2.gr hg hb2
   refine aa <| ai <| dI rfl T35 hf rfl B2 hD2 ⟨_,rfl,e.shut hDW2,rfl⟩
  ·intro ex c a' w' hcd hf' hX hsz hDn
   obtain⟨rfl,r,out,left,⟨hJ,hJd⟩,hfs,hr1,HR⟩:=hX
   simp only[Exit.inBlock,↓reduceIte,Exit.then]
   rw[hfs] at hrr
   subst hrr
   have hD2:Ds (w.heap.size::[d1]) w':=hJd.cons hDn fun hm=>by rw[List.mem_singleton] at hm;omega
   have hf:FrD 101 (bL (w.heap.size::[d1])) a' w' [(2,E (ptr b2))]:=hf'.keep [2]
   have hDW2:∀d∈w.heap.size::[d1],W.heap.size≤d:=fun d hd=>by
    rcases List.mem_cons.1 hd with rfl|hd
    ·exact hBW
    ·exact hDW d hd
   refine dI rfl T35 hf rfl hJ.p2 hD2 ⟨_,rfl,hJ.e.shut hDW2,hr1,?_⟩
   exact Dv.weak (Dv.ch HR (dU _ _) fun b hb=>by
    rcases List.mem_cons.1 hb with rfl|hb
    ·show _<_;omega
    ·rw[List.mem_singleton] at hb;show _<_;omega) fun b _ hb=>hb.elim
theorem sb {fn:Func}{t u t' u':Nat}{R:Ending→World→Prop}{n:Nat}{a:Act}{w:World}{b b':Nat}{v v':Value}{bt bt':TypeId}{L:Env}{D:List Nat}(hr:fn.results = #[.cell t u,.cell t' u'])(ht:TI Tryz.prog u false 1)(ht':TI Tryz.prog u' false 1)(hf:FrD n (bL D) a w L)(h:aG L t=some (E (.pointer (some ⟨b,0,none⟩))))(h':aG L t'=some (E (.pointer (some ⟨b',0,none⟩))))
  (hb:Blk w b #[v] bt) (hb':Blk w b' #[v'] bt') (hD:Ds D w) (hR:R (.returned (.tuple #[v,v'])) (shut D w)):bodyPostM (FW none) 0 Tryz.prog fn R .ret a w:=by
 have hv:a.tmps.getD t undef=.pointer (some ⟨b,0,none⟩):=hf.val t _ h
 have hv':a.tmps[t]?.getD undef=.pointer (some ⟨b,0,none⟩):=by simpa using hv
 have hw:a.tmps.getD t' undef=.pointer (some ⟨b',0,none⟩):=hf.val t' _ h'
 have hw':a.tmps[t']?.getD undef=.pointer (some ⟨b',0,none⟩):=by simpa using hw
 have hc:(shut D w).cell? ⟨b,0,none⟩=some v:=by rw[(hb.shut (hD.ne hb)).cell 0];rfl
 have hc':(shut D w).cell? ⟨b',0,none⟩=some v':=by rw[(hb'.shut (hD.ne hb')).cell 0];rfl
 show LeavesInM _ _ _ _ _ _ _ _ _
 rw[hf.defers]
 exact gh D w hD (by simp[results,hr,hv',hw',asAddr,fj ht hc,fj ht' hc']) hR
def evS (L:List BS)(s:BS):Nat→BS
 | 0=>s
 | j+1=>if j % 2=0 then evS L s j ||| gs L j else evS L s j
def ee (nb:Int→BS)(ps:List BS):Nat→BS
 | 0=>0
 | k+1=>evS (lvB nb ((aU (gs ps k)).getD 0)) (ee nb ps k) (lvB nb ((aU (gs ps k)).getD 0)).length
def bdB (nb:Int→BS)(one:BS)(x:Nat):Bool:=
 ((!((nb (x:Int) &&& one)==0))==one.getLsbD x && !(nb (x:Int)==0)) || ((one.getLsbD x && !((nb (x:Int) &&& one)==0)) || (!one.getLsbD x && !((nb (x:Int) &&& ~~~one)==0)))
def bpO (nb:Int→BS)(V:BS):BS:=ee nb (prF nb (card V) V) (prF nb (card V) V).length
def bpB (nb:Int→BS)(V:BS):Bool := !(aj V).any (bdB nb (bpO nb V))
def bpL (nb:Int→BS)(V:BS):List Nat:=if bpB nb V=true then aj (bpO nb V) else []
structure BpJ (W:World)(nm bm:Nat)(l:List (Int×BS))(V one:BS)(b2 b3 b4 b5:Nat)(w:World):Prop where
 e:Ext W w
 t:Tab w
 m:MpR sKV w bm nm l
 p2:Blk w b2 #[.slice none 0 0] 35
 p3:Blk w b3 #[B false] 4
 p4:Blk w b4 (adC V (.map (some bm))) 79
 p5:Blk w b5 (aJ one) 76
theorem BpJ.kp {W:World}{nm bm:Nat}{l:List (Int×BS)}{V one:BS}{b2 b3 b4 b5:Nat}{B:Nat}{w w':World}(h:BpJ W nm bm l V one b2 b3 b4 b5 w)(k:Kp B w w')(hW:W.heap.size≤B)(h0:0<B)(l2:b2<B)(l3:b3<B)(l4:b4<B)(l5:b5<B)(lm:bm<B):BpJ W nm bm l V one b2 b3 b4 b5 w':=
 have no:∀{b},b<B→¬aX B b:=fun h hh=>by have:=hh.1;omega
 ⟨h.e.kp k hW,h.t.kp k h0,h.m.pres (k.same bm h.m.lt (no lm)),h.p2.kp k (no l2),h.p3.kp k (no l3),h.p4.kp k (no l4),h.p5.kp k (no l5)⟩
theorem sc {N:Nat}(g:GT)(ok:Gr.Ok g)(v:Value)(W:World)(hT:Tab W)(h:(Gn N g).p v W)(hl1:g.1.length≤100000)(hl2:g.2.length≤100000)(hN:N≤1000000) :
  Calls Tryz.prog 23 #[v] W (Post (Tup [Dv (slE intE) G0 (ae (bpL (nbA g) (vset g.1))),E (B (bpB (nbA g) (vset g.1)))]) W):=by
 have hgd:=h
 obtain⟨l,hl⟩:=eqX (nbL g (aj (vset g.1)))
 have hnb:nbA g=lkS l:=by rw[hl,nbA]
 rw[hnb]
 obtain⟨V,hV⟩:=eqX (vset g.1)
 rw[← hV]
 obtain⟨ps,hps⟩:=eqX (cw l V)
 have hpl:ps.length≤1024:=by rw[hps,cw];exact Nat.le_trans (qZ _ _ _) (dM V)
 obtain⟨rl,hrl⟩:=eqX (bpL (lkS l) V)
 obtain⟨rb,hrb⟩:=eqX (bpB (lkS l) V)
 rw[← hrl,← hrb]
 rw[bpL,← hrb] at hrl
 rw[bpB] at hrb
 have hbo:bpO (lkS l) V=ee (lkS l) ps ps.length:=by rw[hps,cw,bpO]
 rw[hbo] at hrl hrb
 have hT0:=hT.lt
 refine cO (args:=[v]) (As:=[E v]) Tryz.func23 rfl Tryz.ntmps23 (Nat.le_of_ble_eq_true rfl) ?_ (fun a hf=>?_) (Nat.le_of_ble_eq_true rfl)
 ·exact arg1 rfl
 dsimp only[params,Nat.reduceAdd] at hf
 have e:=Ext.rfl' W
 refine seq <| ab <| tL I35 hf fun a b2 w e' hb2 hs2 B2 hf=>?_
 have hle2:=Nat.le_trans e.size (Nat.le_of_eq hb2.symm)
 obtain⟨hT,e⟩:=up2 e' hT e
 refine tL I4 hf fun a b3 w e' hb3 hs3 B3 hf=>?_
 have hle3:=Nat.le_trans e.size (Nat.le_of_eq hb3.symm)
 have lt3_B2:=B2.lt
 obtain⟨hT,e,B2⟩:=up3 e' hT e B2
 refine aa ?_
 replace B2:Blk w b2 #[.slice none 0 0] 35:=B2
 replace B3:Blk w b3 #[B false] 4:=B3
 have n23:W.heap.size≤b2∧W.heap.size≤b3∧b2≠b3:=by have:=B2.lt;exact⟨hle2,hle3,by omega⟩
 replace hf:=hf.kp [0,2,3]
 have e0:=e
 refine seq <| rgN 2 hf <| st (mv rfl) <| st (ak (A:=ci l V 1024) dR rfl (fun v w he k=>by cases k;rw[hl,hV];exact gG g ok _ w (hT.ext he) (vst (e0.tr he) hgd) hl1 hl2 hN)) ?_
 refine en fun a w e' hf=>?_
 obtain⟨hT,e,B2,B3⟩:=up4 e' hT e B2 B3
 obtain⟨av,⟨mq,rfl,HV0⟩,hf⟩:=hf.opn 14 rfl
 obtain⟨cs,⟨bm0,nm0,rfl,_,hnm0,HM0⟩,hmq⟩:=HV0
 replace hmq:mq=.map (some bm0):=hmq
 subst hmq
 have nm23:bm0≠b2∧bm0≠b3:=⟨HM0.neB B2,HM0.neB B3⟩
 obtain⟨N1,hN1⟩:=eqX w.heap.size
 have hN1s:N1≤w.heap.size:=Nat.le_of_eq hN1
 have hbm0:bm0<N1∧b2<N1∧b3<N1:=by rw[hN1];exact⟨HM0.lt,B2.lt,B3.lt⟩
 have hWN1:W.heap.size≤N1:=by rw[hN1];exact e.size
 replace hf:=hf.kp [2,3,14]
 refine tL I79 hf fun a b4 w e' hb4 hs4 B4 hf=>?_
 have hle4:=Nat.le_trans e.size (Nat.le_of_eq hb4.symm)
 have lo4_hN1s:=Nat.le_trans hN1s (Nat.le_of_eq hb4.symm)
 have lt4_B2:=B2.lt
 have lt4_B3:=B3.lt
 obtain⟨hT,HM0,hN1s,e,B2,B3⟩:=up6 e' hT HM0 hN1s e B2 B3
 have n4:N1≤b4:=lo4_hN1s
 refine az T79 hf rfl rfl (cg _ _) B4 rfl (aH _ _) fun w hg hsz B4 hf=>?_
 replace e:=e.gr hg (by omega);replace hT:=hT.gr hg (by omega);replace HM0:=HM0.gr hg (fun h=>by cases h;omega);replace B2:=B2.gr hg (by omega);replace B3:=B3.gr hg (by omega);replace hN1s:=Nat.le_trans hN1s hg.size;clear hg
 refine aa ?_
 replace hf:=hf.kp [2,3,4]
 have l4':=B4.lt
 refine seq <| ab <| tL I76 hf fun a b5 w e' hb5 hs5 B5 hf=>?_
 have hle5:=Nat.le_trans e.size (Nat.le_of_eq hb5.symm)
 have lo5_hN1s:=Nat.le_trans hN1s (Nat.le_of_eq hb5.symm)
 obtain⟨hT,HM0,hN1s,e,B2,B3,B4⟩:=up7 e' hT HM0 hN1s e B2 B3 B4
 refine aa ?_
 have n5:N1≤b5∧b4≠b5:=⟨lo5_hN1s,by omega⟩
 simp only[Value.cells,dD] at B5
 replace B5:Blk w b5 (aJ (ee (lkS l) ps 0)) 76:=by rw[show ee (lkS l) ps 0=0 from rfl];exact B5
 replace hf:=hf.kp [2,3,4,5]
 obtain⟨N2,hN2⟩:=eqX w.heap.size
 have hN2s:N2≤w.heap.size:=Nat.le_of_eq hN2
 have hl2':b2<N2∧b3<N2∧b4<N2∧b5<N2∧bm0<N2:=by have h1:=B2.lt;have h2:=B3.lt;have h3:=B4.lt;have h4:=B5.lt;have h5:=HM0.lt;omega
 have hdv:=HM0.dvE hnm0 (G:=G0) (fun h=>h)
 refine seq <| seq ?_
 refine rgN 4 hf <| st (ldW T79 rfl B4 (aH _ _)) <| st (ak (A:=OwA aM 76 N2 G0 ps) (B:=E (.agg (adC V (.map (some bm0))))) fX rfl (fun v w he k1=>by cases k1;rw[hps];exact (iC l V (.map (some bm0)) w (hT.ext he) (Dv.ex hdv he)).mono fun en w' ⟨u,k1,k2,k3⟩=>⟨u,k1,k2,OwR.low k3 (Nat.le_trans hN2s he.size) fun b hb=>hb.elim⟩)) ?_
 refine st (aB U83 ⟨_,rfl,fun v w _ h=>OwR.sl h⟩) <| st (mv rfl) <| en fun a w e' hf=>?_
 obtain⟨hT,HM0,e,B2,B3,B4,B5⟩:=up7 e' hT HM0 e B2 B3 B4 B5
 refine aa ?_
 obtain⟨pv,HoP,hf⟩:=hf.opn 16 rfl
 replace HoP:OwR aM 76 N2 G0 w ps pv:=HoP
 obtain⟨nb,hnb'⟩:∃nb,nb=lkS l:=⟨_,rfl⟩
 rw[← hnb'] at hrb hrl B5
 replace hf:=hf.kp [2,3,4,5,16,17,18]
 replace hf:=hf.kp [2,3,4,5,16,17,18]
 refine blk (aF (fun r0 a w=>∃(j:Nat) ,r0=ps.length - j∧j≤ps.length∧Fr 98 a w [(2,E (ptr b2)),(3,E (ptr b3)),(4,E (ptr b4)),(5,E (ptr b5)),(16,E pv),(17,E (I (ps.length:Nat))),(18,E (I j))]∧Ext W w∧Tab w∧MpR sKV w bm0 nm0 l∧Blk w b2 #[.slice none 0 0] 35∧Blk w b3 #[B false] 4∧Blk w b4 (adC V (.map (some bm0))) 79∧Blk w b5 (aJ (ee nb ps j)) 76∧OwR aM 76 N2 G0 w ps pv) ps.length ⟨0,rfl,by omega,hf,e,⟨hT,HM0,B2,B3,B4,B5,HoP⟩⟩ ?_)
 rintro r0 a w ⟨j,rfl,hj,hf,e,hT,HM0,B2,B3,B4,B5,HoP⟩
 refine seq <| rgN 1 hf <| st (lss rfl rfl) <| en fun a w e' hf=>?_
 obtain⟨hT,HM0,HoP,e,B2,B3,B4,B5⟩:=up8 e' hT HM0 HoP e B2 B3 B4 B5
 refine aa <| seq <| ifc hf rfl (fun hc=>ah ?_) (fun hc=>aC ?_)
 rotate_left
 rotate_left
 ·have hltj:=ltC hc
  replace hf:=hf.kp [2,3,4,5,16,17,18]
  refine seq <| blk ?_
  have hgp:=iE hltj
  obtain⟨C,hC⟩:=eqX (gs ps j)
  obtain⟨x,hx⟩:=eqX ((aU C).getD 0)
  have hx1:x<1024:=by rw[hx];exact rZ _
  obtain⟨s0,hs0⟩:=eqX (ee nb ps j)
  have hsc:ee nb ps (j+1)=evS (lvB nb x) s0 (lvB nb x).length:=by rw[ee,← hC,← hx,← hs0]
  rw[← hC] at hgp
  rw[← hs0] at B5
  have l2:=B2.lt
  have l3:=B3.lt
  have l4:=B4.lt
  have l5:=B5.lt
  have lm:=HM0.lt
  obtain⟨N3,hN3⟩:=eqX w.heap.size
  have hN3s:N3≤w.heap.size:=Nat.le_of_eq hN3
  rw[← hN3] at l2 l3 l4 l5 lm
  have hW3:W.heap.size≤N3:=by rw[hN3];exact e.size
  refine seq <| ab <| tP hf (aD U83 S76 (isE rfl HoP.sl) rfl (by omega) (hgp)) fun a w e' hf=>?_
  obtain⟨hT,HM0,HoP,hN3s,e,B2,B3,B4,B5⟩:=up9 e' hT HM0 HoP hN3s e B2 B3 B4 B5
  refine tP hf (ldS T76 (isR rfl)) fun a w e' hf=>?_
  obtain⟨hT,HM0,HoP,hN3s,e,B2,B3,B4,B5⟩:=up9 e' hT HM0 HoP hN3s e B2 B3 B4 B5
  refine tL I76 hf fun a b7 w e' hb7 hs7 B7 hf=>?_
  have lo7_hN3s:=Nat.le_trans hN3s (Nat.le_of_eq hb7.symm)
  have ne7_HoP:=HoP.ne_new hb7
  have lt7_B2:=B2.lt
  obtain⟨hT,HM0,HoP,hN3s,e,B2,B3,B4,B5⟩:=up9 e' hT HM0 HoP hN3s e B2 B3 B4 B5
  have n7:N3≤b7:=lo7_hN3s
  have hp7:=ne7_HoP
  replace hf:=hf.kp [2,3,4,5,7,16,17,18,21]
  refine az T76 hf rfl rfl (bj _) B7 rfl (bh _) fun w hg hsz B7 hf=>?_
  replace e:=e.gr hg (by omega);replace hT:=hT.gr hg (by omega);replace HM0:=HM0.gr hg (fun h=>by cases h;omega);replace B2:=B2.gr hg (by omega);replace B3:=B3.gr hg (by omega);replace B4:=B4.gr hg (by omega);replace B5:=B5.gr hg (by omega);replace HoP:=HoP.grE hg hp7;replace hN3s:=Nat.le_trans hN3s hg.size;clear hg
  refine aa ?_
  have l7:=B7.lt
  replace hf:=hf.kp [2,3,4,5,7,16,17,18]
  refine seq <| rgN 7 hf <| st ((ldW T76 rfl B7 rfl).eq ((rfl:_=ac C))) <| st (ak (A:=Tup [E (I (x:Nat)),Any]) fu rfl (fun v w he h=>by cases h;have hm:=fx C w (hT.ext he);rw[gf,← hx] at hm;exact hm.mono fun en w' ⟨u,k1,k2,k3⟩=>⟨u,k1,k2,rY k3⟩)) ?_
  refine st (mv rfl) <| st (aV rfl rfl) <| st (aV rfl rfl) <| st (asg rfl) <| st (asg rfl) <| en fun a w e' hf=>?_
  replace hT:=hT.ext e'
  replace HM0:=HM0.ext e'
  replace HoP:=HoP.ext e'
  replace hN3s:=Nat.le_trans hN3s e'.size
  replace e:=e.tr e'
  replace B2:=B2.ext e'
  replace B3:=B3.ext e'
  replace B4:=B4.ext e'
  replace B5:=B5.ext e'
  replace B7:=B7.ext e'
  refine aa ?_
  replace hf:=hf.kp [2,3,4,5,8,16,17,18]
  obtain⟨L,hL⟩:=eqX (lvB nb x)
  have hLl:L.length≤1025:=by rw[hL];exact dZ _ _
  rw[← hL] at hsc
  obtain⟨N4,hN4⟩:=eqX w.heap.size
  have hN4s:N4≤w.heap.size:=Nat.le_of_eq hN4
  have hl4:N3≤N4:=by rw[hN4];exact hN3s
  have hdv:=HM0.dvE hnm0 (G:=G0) (fun h=>h)
  refine seq <| rgN 5 hf <| st (ldW T79 rfl B4 (aH _ _)) <| st (mv rfl) <| st (aw (A:=OwA aM 76 N4 G0 L) (B:=E (.agg (adC V (.map (some bm0))))) (C:=E (I (x:Nat))) eO rfl rfl (fun a b w he k2 k4=>by cases k2;cases k4;rw[hL,hnb'];exact (fa l V (.map (some bm0)) x w (hT.ext he) (Dv.ex hdv he) hx1).mono fun en w' ⟨z,q1,q2,q3⟩=>⟨z,q1,q2,OwR.low q3 (Nat.le_trans hN4s he.size) fun b hb=>hb.elim⟩)) ?_
  refine st (aB U83 ⟨_,rfl,fun v w _ h=>OwR.sl h⟩) <| st (mv rfl) <| en fun a w e' hf=>?_
  replace hT:=hT.ext e'
  replace HM0:=HM0.ext e'
  replace HoP:=HoP.ext e'
  replace hN3s:=Nat.le_trans hN3s e'.size
  replace e:=e.tr e'
  replace B2:=B2.ext e'
  replace B3:=B3.ext e'
  replace B4:=B4.ext e'
  replace B5:=B5.ext e'
  replace B7:=B7.ext e'
  refine aa ?_
  obtain⟨lv,HoL,hf⟩:=hf.opn 29 rfl
  replace HoL:OwR aM 76 N4 G0 w L lv:=HoL
  replace B5:Blk w b5 (aJ (evS L s0 0)) 76:=B5
  replace hf:=hf.kp [2,3,4,5,16,17,18,29,30,31]
  replace hf:=hf.kp [2,3,4,5,16,17,18,29,30,31]
  refine blk (aF (fun r0 a w=>∃(i:Nat) ,r0=L.length - i∧i≤L.length∧Fr 98 a w [(2,E (ptr b2)),(3,E (ptr b3)),(4,E (ptr b4)),(5,E (ptr b5)),(16,E pv),(17,E (I (ps.length:Nat))),(18,E (I j)),(29,E lv),(30,E (I (L.length:Nat))),(31,E (I i))]∧Ext W w∧Tab w∧MpR sKV w bm0 nm0 l∧Blk w b2 #[.slice none 0 0] 35∧Blk w b3 #[B false] 4∧Blk w b4 (adC V (.map (some bm0))) 79∧Blk w b5 (aJ (evS L s0 i)) 76∧OwR aM 76 N2 G0 w ps pv∧OwR aM 76 N4 G0 w L lv∧N4≤w.heap.size) L.length ⟨0,rfl,by omega,hf,e,⟨hT,HM0,B2,B3,B4,B5,HoP,HoL,HoL.base⟩⟩ ?_)
  rintro r0 a w ⟨i,rfl,hi,hf,e,hT,HM0,B2,B3,B4,B5,HoP,HoL,hN4s⟩
  refine seq <| rgN 1 hf <| st (lss rfl rfl) <| en fun a w e' hf=>?_
  replace hT:=hT.ext e'
  replace HM0:=HM0.ext e'
  replace HoP:=HoP.ext e'
  replace HoL:=HoL.ext e'
  replace hN4s:=Nat.le_trans hN4s e'.size
  replace e:=e.tr e'
  replace B2:=B2.ext e'
  replace B3:=B3.ext e'
  replace B4:=B4.ext e'
  replace B5:=B5.ext e'
  refine aa <| seq <| ifc hf rfl (fun hc=>ah ?_) (fun hc=>aC ?_)
  rotate_left
  rotate_left
  ·have hlti:=ltC hc
   replace hf:=hf.kp [2,3,4,5,16,17,18,29,30,31]
   refine seq <| blk ?_
   have hgi:=iE hlti
   obtain⟨R,hR⟩:=eqX (gs L i)
   obtain⟨s1,hs1⟩:=eqX (evS L s0 i)
   have hsi:evS L s0 (i+1)=if i % 2=0 then s1 ||| R else s1:=by rw[evS,← hR,← hs1]
   rw[← hR] at hgi
   rw[← hs1] at B5
   refine seq <| ab <| tP hf (mv rfl) fun a w e' hf=>?_
   replace hT:=hT.ext e'
   replace HM0:=HM0.ext e'
   replace HoP:=HoP.ext e'
   replace HoL:=HoL.ext e'
   replace hN4s:=Nat.le_trans hN4s e'.size
   replace e:=e.tr e'
   replace B2:=B2.ext e'
   replace B3:=B3.ext e'
   replace B4:=B4.ext e'
   replace B5:=B5.ext e'
   refine tP hf (aD U83 S76 (isE rfl HoL.sl) rfl (by omega) (hgi)) fun a w e' hf=>?_
   replace hT:=hT.ext e'
   replace HM0:=HM0.ext e'
   replace HoP:=HoP.ext e'
   replace HoL:=HoL.ext e'
   replace hN4s:=Nat.le_trans hN4s e'.size
   replace e:=e.tr e'
   replace B2:=B2.ext e'
   replace B3:=B3.ext e'
   replace B4:=B4.ext e'
   replace B5:=B5.ext e'
   refine tP hf (ldS T76 (isR rfl)) fun a w e' hf=>?_
   replace hT:=hT.ext e'
   replace HM0:=HM0.ext e'
   replace HoP:=HoP.ext e'
   replace HoL:=HoL.ext e'
   replace hN4s:=Nat.le_trans hN4s e'.size
   replace e:=e.tr e'
   replace B2:=B2.ext e'
   replace B3:=B3.ext e'
   replace B4:=B4.ext e'
   replace B5:=B5.ext e'
   refine tL I76 hf fun a b11 w e' hb11 hs11 B11 hf=>?_
   have lo11_hN4s:=Nat.le_trans hN4s (Nat.le_of_eq hb11.symm)
   have ne11_HoP:=HoP.ne_new hb11
   have ne11_HoL:=HoL.ne_new hb11
   replace hT:=hT.ext e'
   replace HM0:=HM0.ext e'
   replace HoP:=HoP.ext e'
   replace HoL:=HoL.ext e'
   replace hN4s:=Nat.le_trans hN4s e'.size
   replace e:=e.tr e'
   replace B2:=B2.ext e'
   replace B3:=B3.ext e'
   replace B4:=B4.ext e'
   replace B5:=B5.ext e'
   refine tA hf rfl fun a hf=>?_
   have n11:N4≤b11:=lo11_hN4s
   have hp11:=ne11_HoP
   have hl11:=ne11_HoL
   replace hf:=hf.kp [2,3,4,5,10,11,16,17,18,29,30,31,35]
   refine az T76 hf rfl rfl (bj _) B11 rfl (bh _) fun w hg hsz B11 hf=>?_
   replace e:=e.gr hg (by omega);replace hT:=hT.gr hg (by omega);replace HM0:=HM0.gr hg (fun h=>by cases h;omega);replace B2:=B2.gr hg (by omega);replace B3:=B3.gr hg (by omega);replace B4:=B4.gr hg (by omega);replace B5:=B5.gr hg (by omega);replace HoP:=HoP.grE hg hp11;replace HoL:=HoL.grE hg hl11;replace hN4s:=Nat.le_trans hN4s hg.size;clear hg
   refine aa ?_
   have l11:=B11.lt
   replace hf:=hf.kp [2,3,4,5,10,11,16,17,18,29,30,31]
   have htm:(i:Int).tmod 2=((i % 2:Nat):Int):=rfl
   by_cases hev:i % 2=0
   ·rw[if_pos hev] at hsi
    refine seq <| rgN 3 hf <| st (mv rfl) <| st (rem rfl rfl (by omega)) <| st ((eql rfl rfl).eq (congrArg Value.bool ((by rw[htm,hev];rfl:((i:Int).tmod 2==0)=true)))) ?_
    refine en fun a w e' hf=>?_
    obtain⟨hT,HM0,HoP,HoL,hN4s,e,B2,B3,B4⟩:=up9 e' hT HM0 HoP HoL hN4s e B2 B3 B4
    obtain⟨B5,B11⟩:=up2 e' B5 B11
    refine aa <| ifT hf rfl ?_
    replace hf:=hf.kp [2,3,4,5,11,16,17,18,29,30,31]
    refine rgN 3 hf <| st ((ldW T76 rfl B5 rfl).eq ((rfl:_=ac s1))) <| st ((ldW T76 rfl B11 rfl).eq ((rfl:_=ac R))) <| st (aw (A:=E (ac (s1 ||| R))) gZ rfl rfl (fun v u w he h h'=>by cases h;cases h';exact ic s1 R w)) ?_
    refine en fun a w e' hf=>?_
    obtain⟨hT,HM0,HoP,HoL,hN4s,e,B2,B3,B4⟩:=up9 e' hT HM0 HoP HoL hN4s e B2 B3 B4
    obtain⟨B5,B11⟩:=up2 e' B5 B11
    have hp5:pv.ownBlock≠some b5:=HoP.neLt (by omega)
    have hl5:lv.ownBlock≠some b5:=HoL.neLt (by omega)
    replace hf:=hf.kp [2,3,4,5,16,17,18,29,30,31,41]
    refine az T76 hf rfl rfl (bj _) B5 rfl (bh _) fun w hg hsz B5 hf=>?_
    replace e:=e.gr hg (by omega);replace hT:=hT.gr hg (by omega);replace HM0:=HM0.gr hg (fun h=>by cases h;omega);replace B2:=B2.gr hg (by omega);replace B3:=B3.gr hg (by omega);replace B4:=B4.gr hg (by omega);replace HoP:=HoP.grE hg hp5;replace HoL:=HoL.grE hg hl5;replace hN4s:=Nat.le_trans hN4s hg.size;clear hg
    refine aa ?_
    rw[← hsi] at B5
    replace hf:=hf.kp [2,3,4,5,16,17,18,29,30,31]
    refine rgN 1 hf <| st ((add rfl rfl (by omega)).eq (iN i)) <| en fun a w e' hf=>?_
    replace hT:=hT.ext e'
    replace HM0:=HM0.ext e'
    replace HoP:=HoP.ext e'
    replace HoL:=HoL.ext e'
    replace hN4s:=Nat.le_trans hN4s e'.size
    replace e:=e.tr e'
    replace B2:=B2.ext e'
    replace B3:=B3.ext e'
    replace B4:=B4.ext e'
    replace B5:=B5.ext e'
    refine tP hf (mv rfl) fun a w e' hf=>?_
    replace hT:=hT.ext e'
    replace HM0:=HM0.ext e'
    replace HoP:=HoP.ext e'
    replace HoL:=HoL.ext e'
    replace hN4s:=Nat.le_trans hN4s e'.size
    replace e:=e.tr e'
    replace B2:=B2.ext e'
    replace B3:=B3.ext e'
    replace B4:=B4.ext e'
    replace B5:=B5.ext e'
    refine aa ?_
    replace hf:=hf.kp [2,3,4,5,16,17,18,29,30,31]
    refine⟨_,?_,i+1,rfl,by omega,hf,e,?_⟩
    ·omega
    exact⟨hT,HM0,B2,B3,B4,B5,HoP,HoL,hN4s⟩
   ·rw[if_neg hev] at hsi
    refine seq <| rgN 3 hf <| st (mv rfl) <| st (rem rfl rfl (by omega)) <| st ((eql rfl rfl).eq (congrArg Value.bool ((by rw[htm];exact beq_eq_false_iff_ne.2 (by omega):((i:Int).tmod 2==0)=false)))) ?_
    refine en fun a w e' hf=>?_
    replace hT:=hT.ext e'
    replace HM0:=HM0.ext e'
    replace HoP:=HoP.ext e'
    replace HoL:=HoL.ext e'
    replace hN4s:=Nat.le_trans hN4s e'.size
    replace e:=e.tr e'
    replace B2:=B2.ext e'
    replace B3:=B3.ext e'
    replace B4:=B4.ext e'
    replace B5:=B5.ext e'
    refine aa <| ifF hf rfl ?_
    refine ah ?_
    rw[← hsi] at B5
    replace hf:=hf.kp [2,3,4,5,16,17,18,29,30,31]
    refine rgN 1 hf <| st ((add rfl rfl (by omega)).eq (iN i)) <| en fun a w e' hf=>?_
    replace hT:=hT.ext e'
    replace HM0:=HM0.ext e'
    replace HoP:=HoP.ext e'
    replace HoL:=HoL.ext e'
    replace hN4s:=Nat.le_trans hN4s e'.size
    replace e:=e.tr e'
    replace B2:=B2.ext e'
    replace B3:=B3.ext e'
    replace B4:=B4.ext e'
    replace B5:=B5.ext e'
    refine tP hf (mv rfl) fun a w e' hf=>?_
    replace hT:=hT.ext e'
    replace HM0:=HM0.ext e'
    replace HoP:=HoP.ext e'
    replace HoL:=HoL.ext e'
    replace hN4s:=Nat.le_trans hN4s e'.size
    replace e:=e.tr e'
    replace B2:=B2.ext e'
    replace B3:=B3.ext e'
    replace B4:=B4.ext e'
    replace B5:=B5.ext e'
    refine aa ?_
    replace hf:=hf.kp [2,3,4,5,16,17,18,29,30,31]
    refine⟨_,?_,i+1,rfl,by omega,hf,e,?_⟩
    ·omega
    exact⟨hT,HM0,B2,B3,B4,B5,HoP,HoL,hN4s⟩
  ·obtain rfl:=dnE hc hi
   rw[← hsc] at B5
   replace hf:=hf.kp [2,3,4,5,16,17,18]
   refine rgN 1 hf <| st ((add rfl rfl (by omega)).eq (iN j)) <| en fun a w e' hf=>?_
   obtain⟨hT,HM0,HoP,e,B2,B3,B4,B5⟩:=up8 e' hT HM0 HoP e B2 B3 B4 B5
   refine tP hf (mv rfl) fun a w e' hf=>?_
   obtain⟨hT,HM0,HoP,e,B2,B3,B4,B5⟩:=up8 e' hT HM0 HoP e B2 B3 B4 B5
   refine aa ?_
   replace hf:=hf.kp [2,3,4,5,16,17,18]
   refine⟨_,?_,j+1,rfl,by omega,hf,e,?_⟩
   ·omega
   exact⟨hT,HM0,B2,B3,B4,B5,HoP⟩
 ·obtain rfl:=dnE hc hj
  obtain⟨one,hone⟩:=eqX (ee nb ps ps.length)
  rw[← hone] at B5 hrl hrb
  replace hf:=hf.kp [2,3,4,5]
  obtain⟨Nz,hNz⟩:=eqX w.heap.size
  refine seq <| seq ?_
  refine rgN 3 hf <| st (fA U79 rfl T76 rfl) <| st ((ldP T76 rfl B4 (by rw[aH];decide)).eq (congrArg Value.agg (bO V (.map (some bm0))))) ?_
  refine st (ak (A:=cN Nz V) cV rfl (fun v w' he h=>by cases h;exact Calls.mono (cZ _ w') (fun en w2 ⟨u,h1,h2,b',h3,h4,h5⟩=>⟨u,h1,h2,b',by have:=he.size;omega,h4,h5⟩))) ?_
  refine en fun a w e' hf=>?_
  obtain⟨hT,HM0,e,B2,B3,B4,B5⟩:=up7 e' hT HM0 e B2 B3 B4 B5
  refine aa ?_
  obtain⟨vv,⟨b46,h46,rfl,BS⟩,hf⟩:=hf.fix 46 rfl
  replace hf:=hf.kp [2,3,4,5,46]
  have hBW:W.heap.size≤w.heap.size:=e.size
  have h0w:0<w.heap.size:=hT.lt
  have l2:=B2.lt
  have l3:=B3.lt
  have l4:=B4.lt
  have l5:=B5.lt
  have lm:=HM0.lt
  refine blk <| db (S:=V) hf rfl BS (by decide) (fun s w1=>BpJ W nm0 bm0 l V one b2 b3 b4 b5 w1∧s.any (bdB nb one)=false)
   (fun ex w1=>ex=.ret∧BpJ W nm0 bm0 l V one b2 b3 b4 b5 w1∧(aj V).any (bdB nb one)=true) (fun s w1 h=>h.1.t)
   ⟨⟨e,hT,HM0,B2,B3,B4,B5⟩,rfl⟩ (fun s w1 w2 h hs k=>⟨h.1.kp k hBW h0w l2 l3 l4 l5 lm,h.2⟩)
   (fun ex w1 w2 ⟨q1,q2,q3⟩ hs k=>⟨q1,q2.kp k hBW h0w l2 l3 l4 l5 lm,q3⟩) ?_ ?_ ?_
  ·intro lp s x rest a1 w1 hs hJ hlw hf
   have hxV:V.getLsbD x=true:=(aL.1 (by rw[hs];simp)).2
   have hx1024:x<1024:=aK hxV
   generalize hBz:w.heap.size=Bz at *
   refine ab <| tA hf rfl fun a hf=>aa <| ⟨Kh.rfl' _ _,fun w3 k3 hsz3=>?_⟩
   have hJ3:=hJ.1.kp k3 hBW h0w l2 l3 l4 l5 lm
   have hJs:=hJ.2
   replace hf:=hf.pure w3
   obtain⟨e,hT,HM0,B2,B3,B4,B5⟩:=hJ3
   have kh:=Kh.rfl' Bz w3
   have hgood:bdB nb one x=false→(s++[x]).any (bdB nb one)=false:=fun h=>by rw[List.any_append,hJs];simp[h]
   have hbad:bdB nb one x=true→(aj V).any (bdB nb one)=true:=fun h=>List.any_eq_true.2 ⟨x,by rw[hs];simp,h⟩
   rw[bdB] at hgood hbad
   obtain⟨nx,hnx⟩:=eqX (nb (x:Int))
   rw[← hnx] at hgood hbad
   obtain⟨H,hH⟩:=eqX (one.getLsbD x)
   have hbit:has one (x:Int)=H:=by rw[hH,Bool.eq_iff_iff];exact cQ one x
   obtain⟨E2,hE2⟩:=eqX (((nx &&& one)==0))
   obtain⟨E3,hE3⟩:=eqX ((nx==0))
   obtain⟨Sb,hSb⟩:=eqX (((nx &&& ~~~one)==0))
   rw[← hH,← hE2,← hE3,← hSb] at hgood hbad
   have hwx:(Lit.int .i64 (x:Int)).wf=true:=bH (by omega) (by omega)
   have hdv:=HM0.dvE hnm0 (G:=G0) (fun h=>h)
   have hlk:lkS l (x:Int)=nx:=by rw[hnx,hnb']
   have fI:∀w (v u:Value),(E (ac nx)).p v w→(E (ac one)).p u w→Calls Tryz.prog 74 #[v,u] w (Post (E (ac (nx &&& one))) w):=fun w v u k1 k2=>by cases k1;cases k2;exact ie _ _ w
   have fE2:∀w (v:Value),(E (ac (nx &&& one))).p v w→Calls Tryz.prog 65 #[v] w (Post (E (B E2)) w):=fun w v k1=>by cases k1;rw[hE2];exact ig _ w
   have fE3:∀w (v:Value),(E (ac nx)).p v w→Calls Tryz.prog 65 #[v] w (Post (E (B E3)) w):=fun w v k1=>by cases k1;rw[hE3];exact ig _ w
   have fH:∀w (v u:Value),(E (ac one)).p v w→(E (I (x:Nat))).p u w→Calls Tryz.prog 75 #[v,u] w (Post (E (B H)) w):=fun w v u k1 k2=>by cases k1;cases k2;rw[← hbit];exact dT _ _ w
   have fS:∀w (v u:Value),(E (ac nx)).p v w→(E (ac one)).p u w→Calls Tryz.prog 76 #[v,u] w (Post (E (B Sb)) w):=fun w v u k1 k2=>by cases k1;cases k2;rw[hSb];exact wg _ _ w
   replace hf:=hf.kp [2,3,4,5,12]
   refine blk ?_
   cases H with
   | false=>
    cases E2 with
    | false=>
     refine seq <| seq ?_
     refine rgG 20 Mix.mix hf <| st (fA U79 rfl T77 rfl) <| st (ld1 (v:=.map (some bm0)) T77 rfl B4 (bI _ _)) <| st (mv rfl) <| st ((lkM (l:=l) (i:=(x:Int)) U77 bW (isE rfl hdv) rfl hwx).eq (congrArg ac hlk)) <| st ((ldW T76 rfl B5 rfl).eq ((rfl:_=ac one))) <| st (aw (A:=E (ac (nx &&& one))) (B:=E (ac nx)) (C:=E (ac one)) dS rfl rfl (fun v u w he h h'=>fI w v u h h')) <| st (ak (A:=E (B false)) (B:=E (ac (nx &&& one))) dG rfl (fun v w he h=>fE2 w v h)) <| st (aY rfl) <| st ((ldW T76 rfl B5 rfl).eq ((rfl:_=ac one))) <| st (mv rfl) <| st (aw (A:=E (B false)) (B:=E (ac one)) (C:=E (I (x:Nat))) bZ rfl rfl (fun v u w he h h'=>fH w v u h h')) <| st (iS U4 rfl rfl) <| st (mv rfl) <| sn rfl rfl rfl <| sn rfl rfl rfl <| sn rfl rfl rfl <| sn rfl rfl rfl <| sn rfl rfl rfl <| sn rfl rfl rfl <| st (pkF rfl rfl) <| en fun a w e' hf=>?_
     obtain⟨hT,HM0⟩:=up2 e' hT HM0
     replace kh:=kh.tr (Kh.ext e')
     obtain⟨hdv,e,B2,B3,B4,B5⟩:=up6 e' hdv e B2 B3 B4 B5
     refine aa ?_
     replace hf:=hf.kp [2,3,4,5,12,67]
     refine ifF hf rfl ?_
     refine ah ?_
     replace hf:=hf.kp [2,3,4,5,12]
     refine seq <| rgN 28 hf <| st ((ldW T76 rfl B5 rfl).eq ((rfl:_=ac one))) <| st (mv rfl) <| st (aw (A:=E (B false)) (B:=E (ac one)) (C:=E (I (x:Nat))) bZ rfl rfl (fun v u w he h h'=>fH w v u h h')) <| st (mv rfl) <| sn rfl rfl rfl <| sn rfl rfl rfl <| sn rfl rfl rfl <| sn rfl rfl rfl <| sn rfl rfl rfl <| sn rfl rfl rfl <| sn rfl rfl rfl <| sn rfl rfl rfl <| st (pkF rfl rfl) <| st (mv rfl) <| sy rfl rfl ((ldW T76 rfl B5 rfl).eq ((rfl:_=ac one))) <| sy rfl rfl (mv rfl) <| sy rfl rfl (aw (A:=E (B false)) (B:=E (ac one)) (C:=E (I (x:Nat))) bZ rfl rfl (fun v u w he h h'=>fH w v u h h')) <| sy rfl rfl (aY rfl) <| sy rfl rfl (mv rfl) <| sy rfl rfl (fA U79 rfl T77 rfl) <| sy rfl rfl (ld1 (v:=.map (some bm0)) T77 rfl B4 (bI _ _)) <| sy rfl rfl (mv rfl) <| sy rfl rfl ((lkM (l:=l) (i:=(x:Int)) U77 bW (isE rfl hdv) rfl hwx).eq (congrArg ac hlk)) <| sy rfl rfl ((ldW T76 rfl B5 rfl).eq ((rfl:_=ac one))) <| sy rfl rfl (aw (A:=E (B Sb)) (B:=E (ac nx)) (C:=E (ac one)) ox rfl rfl (fun v u w he h h'=>fS w v u h h')) <| sy rfl rfl (aY rfl) <| sy rfl rfl (pkT rfl rfl) <| st (pkF rfl rfl) <| en fun a w e' hf=>?_
     obtain⟨hT,HM0⟩:=up2 e' hT HM0
     replace kh:=kh.tr (Kh.ext e')
     obtain⟨hdv,e,B2,B3,B4,B5⟩:=up6 e' hdv e B2 B3 B4 B5
     refine aa ?_
     replace hf:=hf.kp [2,3,4,5,12,95]
     cases Sb with
     | false=>
      refine ifT hf rfl ?_
      replace hf:=hf.kp [2,3]
      have kk:=B2.lt
      refine seq <| ab <| aI T35 hf rfl rfl rfl B2 Nat.zero_lt_one fun w hg hsz B2 hf=>?_
      replace e:=e.gr hg (by omega);replace hT:=hT.gr hg (by omega);replace HM0:=HM0.gr hg (fun h=>nm23.1 (Option.some.inj h));replace B3:=B3.gr hg (by omega);replace B4:=B4.gr hg (by omega);replace B5:=B5.gr hg (by omega);replace kh:=kh.tr (Kh.gr hg (fun hh=>by have:=hh.1;omega));clear hg
      refine aI T4 hf rfl rfl rfl B3 Nat.zero_lt_one fun w hg hsz B3 hf=>?_
      replace e:=e.gr hg (by omega);replace hT:=hT.gr hg (by omega);replace HM0:=HM0.gr hg (fun h=>nm23.2 (Option.some.inj h));replace B2:=B2.gr hg (by omega);replace B4:=B4.gr hg (by omega);replace B5:=B5.gr hg (by omega);replace kh:=kh.tr (Kh.gr hg (fun hh=>by have:=hh.1;omega));clear hg
      refine aa <| ai ?_
      exact⟨⟨rfl,⟨e,hT,HM0,B2,B3,B4,B5⟩,hbad (by cases E3 <;> rfl)⟩,kh⟩
     | true=>
      refine ifF hf rfl ?_
      refine ah ?_
      exact⟨⟨⟨e,hT,HM0,B2,B3,B4,B5⟩,hgood (by cases E3 <;> rfl)⟩,kh⟩
    | true=>
     refine seq <| seq ?_
     refine rgG 20 Mix.mix hf <| st (fA U79 rfl T77 rfl) <| st (ld1 (v:=.map (some bm0)) T77 rfl B4 (bI _ _)) <| st (mv rfl) <| st ((lkM (l:=l) (i:=(x:Int)) U77 bW (isE rfl hdv) rfl hwx).eq (congrArg ac hlk)) <| st ((ldW T76 rfl B5 rfl).eq ((rfl:_=ac one))) <| st (aw (A:=E (ac (nx &&& one))) (B:=E (ac nx)) (C:=E (ac one)) dS rfl rfl (fun v u w he h h'=>fI w v u h h')) <| st (ak (A:=E (B true)) (B:=E (ac (nx &&& one))) dG rfl (fun v w he h=>fE2 w v h)) <| st (aY rfl) <| st ((ldW T76 rfl B5 rfl).eq ((rfl:_=ac one))) <| st (mv rfl) <| st (aw (A:=E (B false)) (B:=E (ac one)) (C:=E (I (x:Nat))) bZ rfl rfl (fun v u w he h h'=>fH w v u h h')) <| st (iS U4 rfl rfl) <| st (mv rfl) <| sy rfl rfl (fA U79 rfl T77 rfl) <| sy rfl rfl (ld1 (v:=.map (some bm0)) T77 rfl B4 (bI _ _)) <| sy rfl rfl (mv rfl) <| sy rfl rfl ((lkM (l:=l) (i:=(x:Int)) U77 bW (isE rfl hdv) rfl hwx).eq (congrArg ac hlk)) <| sy rfl rfl (ak (A:=E (B E3)) (B:=E (ac nx)) dG rfl (fun v w he h=>fE3 w v h)) <| sy rfl rfl (aY rfl) <| st (pkT rfl rfl) <| en fun a w e' hf=>?_
     obtain⟨hT,HM0⟩:=up2 e' hT HM0
     replace kh:=kh.tr (Kh.ext e')
     obtain⟨hdv,e,B2,B3,B4,B5⟩:=up6 e' hdv e B2 B3 B4 B5
     refine aa ?_
     replace hf:=hf.kp [2,3,4,5,12,67]
     cases E3 with
     | false=>
      refine ifT hf rfl ?_
      replace hf:=hf.kp [2,3]
      have kk:=B2.lt
      refine seq <| ab <| aI T35 hf rfl rfl rfl B2 Nat.zero_lt_one fun w hg hsz B2 hf=>?_
      replace e:=e.gr hg (by omega);replace hT:=hT.gr hg (by omega);replace HM0:=HM0.gr hg (fun h=>nm23.1 (Option.some.inj h));replace B3:=B3.gr hg (by omega);replace B4:=B4.gr hg (by omega);replace B5:=B5.gr hg (by omega);replace kh:=kh.tr (Kh.gr hg (fun hh=>by have:=hh.1;omega));clear hg
      refine aI T4 hf rfl rfl rfl B3 Nat.zero_lt_one fun w hg hsz B3 hf=>?_
      replace e:=e.gr hg (by omega);replace hT:=hT.gr hg (by omega);replace HM0:=HM0.gr hg (fun h=>nm23.2 (Option.some.inj h));replace B2:=B2.gr hg (by omega);replace B4:=B4.gr hg (by omega);replace B5:=B5.gr hg (by omega);replace kh:=kh.tr (Kh.gr hg (fun hh=>by have:=hh.1;omega));clear hg
      refine aa <| ai <| ⟨⟨rfl,⟨e,hT,HM0,B2,B3,B4,B5⟩,hbad (by rfl)⟩,kh⟩
     | true=>
      refine ifF hf rfl ?_
      refine ah ?_
      replace hf:=hf.kp [2,3,4,5,12]
      refine seq <| rgN 28 hf <| st ((ldW T76 rfl B5 rfl).eq ((rfl:_=ac one))) <| st (mv rfl) <| st (aw (A:=E (B false)) (B:=E (ac one)) (C:=E (I (x:Nat))) bZ rfl rfl (fun v u w he h h'=>fH w v u h h')) <| st (mv rfl) <| sn rfl rfl rfl <| sn rfl rfl rfl <| sn rfl rfl rfl <| sn rfl rfl rfl <| sn rfl rfl rfl <| sn rfl rfl rfl <| sn rfl rfl rfl <| sn rfl rfl rfl <| st (pkF rfl rfl) <| st (mv rfl) <| sy rfl rfl ((ldW T76 rfl B5 rfl).eq ((rfl:_=ac one))) <| sy rfl rfl (mv rfl) <| sy rfl rfl (aw (A:=E (B false)) (B:=E (ac one)) (C:=E (I (x:Nat))) bZ rfl rfl (fun v u w he h h'=>fH w v u h h')) <| sy rfl rfl (aY rfl) <| sy rfl rfl (mv rfl) <| sy rfl rfl (fA U79 rfl T77 rfl) <| sy rfl rfl (ld1 (v:=.map (some bm0)) T77 rfl B4 (bI _ _)) <| sy rfl rfl (mv rfl) <| sy rfl rfl ((lkM (l:=l) (i:=(x:Int)) U77 bW (isE rfl hdv) rfl hwx).eq (congrArg ac hlk)) <| sy rfl rfl ((ldW T76 rfl B5 rfl).eq ((rfl:_=ac one))) <| sy rfl rfl (aw (A:=E (B Sb)) (B:=E (ac nx)) (C:=E (ac one)) ox rfl rfl (fun v u w he h h'=>fS w v u h h')) <| sy rfl rfl (aY rfl) <| sy rfl rfl (pkT rfl rfl) <| st (pkF rfl rfl) <| en fun a w e' hf=>?_
      obtain⟨hT,HM0⟩:=up2 e' hT HM0
      replace kh:=kh.tr (Kh.ext e')
      obtain⟨hdv,e,B2,B3,B4,B5⟩:=up6 e' hdv e B2 B3 B4 B5
      refine aa ?_
      replace hf:=hf.kp [2,3,4,5,12,95]
      cases Sb with
      | false=>
       refine ifT hf rfl ?_
       replace hf:=hf.kp [2,3]
       have kk:=B2.lt
       refine seq <| ab <| aI T35 hf rfl rfl rfl B2 Nat.zero_lt_one fun w hg hsz B2 hf=>?_
       replace e:=e.gr hg (by omega);replace hT:=hT.gr hg (by omega);replace HM0:=HM0.gr hg (fun h=>nm23.1 (Option.some.inj h));replace B3:=B3.gr hg (by omega);replace B4:=B4.gr hg (by omega);replace B5:=B5.gr hg (by omega);replace kh:=kh.tr (Kh.gr hg (fun hh=>by have:=hh.1;omega));clear hg
       refine aI T4 hf rfl rfl rfl B3 Nat.zero_lt_one fun w hg hsz B3 hf=>?_
       replace e:=e.gr hg (by omega);replace hT:=hT.gr hg (by omega);replace HM0:=HM0.gr hg (fun h=>nm23.2 (Option.some.inj h));replace B2:=B2.gr hg (by omega);replace B4:=B4.gr hg (by omega);replace B5:=B5.gr hg (by omega);replace kh:=kh.tr (Kh.gr hg (fun hh=>by have:=hh.1;omega));clear hg
       refine aa <| ai <| ⟨⟨rfl,⟨e,hT,HM0,B2,B3,B4,B5⟩,hbad (by rfl)⟩,kh⟩
      | true=>
       refine ifF hf rfl ?_
       refine ah <| ⟨⟨⟨e,hT,HM0,B2,B3,B4,B5⟩,hgood rfl⟩,kh⟩
   | true=>
    cases E2 with
    | false=>
     refine seq <| seq ?_
     refine rgG 20 Mix.mix hf <| st (fA U79 rfl T77 rfl) <| st (ld1 (v:=.map (some bm0)) T77 rfl B4 (bI _ _)) <| st (mv rfl) <| st ((lkM (l:=l) (i:=(x:Int)) U77 bW (isE rfl hdv) rfl hwx).eq (congrArg ac hlk)) <| st ((ldW T76 rfl B5 rfl).eq ((rfl:_=ac one))) <| st (aw (A:=E (ac (nx &&& one))) (B:=E (ac nx)) (C:=E (ac one)) dS rfl rfl (fun v u w he h h'=>fI w v u h h')) <| st (ak (A:=E (B false)) (B:=E (ac (nx &&& one))) dG rfl (fun v w he h=>fE2 w v h)) <| st (aY rfl) <| st ((ldW T76 rfl B5 rfl).eq ((rfl:_=ac one))) <| st (mv rfl) <| st (aw (A:=E (B true)) (B:=E (ac one)) (C:=E (I (x:Nat))) bZ rfl rfl (fun v u w he h h'=>fH w v u h h')) <| st (iS U4 rfl rfl) <| st (mv rfl) <| sy rfl rfl (fA U79 rfl T77 rfl) <| sy rfl rfl (ld1 (v:=.map (some bm0)) T77 rfl B4 (bI _ _)) <| sy rfl rfl (mv rfl) <| sy rfl rfl ((lkM (l:=l) (i:=(x:Int)) U77 bW (isE rfl hdv) rfl hwx).eq (congrArg ac hlk)) <| sy rfl rfl (ak (A:=E (B E3)) (B:=E (ac nx)) dG rfl (fun v w he h=>fE3 w v h)) <| sy rfl rfl (aY rfl) <| st (pkT rfl rfl) <| en fun a w e' hf=>?_
     obtain⟨hT,HM0⟩:=up2 e' hT HM0
     replace kh:=kh.tr (Kh.ext e')
     obtain⟨hdv,e,B2,B3,B4,B5⟩:=up6 e' hdv e B2 B3 B4 B5
     refine aa ?_
     replace hf:=hf.kp [2,3,4,5,12,67]
     cases E3 with
     | false=>
      refine ifT hf rfl ?_
      replace hf:=hf.kp [2,3]
      have kk:=B2.lt
      refine seq <| ab <| aI T35 hf rfl rfl rfl B2 Nat.zero_lt_one fun w hg hsz B2 hf=>?_
      replace e:=e.gr hg (by omega);replace hT:=hT.gr hg (by omega);replace HM0:=HM0.gr hg (fun h=>nm23.1 (Option.some.inj h));replace B3:=B3.gr hg (by omega);replace B4:=B4.gr hg (by omega);replace B5:=B5.gr hg (by omega);replace kh:=kh.tr (Kh.gr hg (fun hh=>by have:=hh.1;omega));clear hg
      refine aI T4 hf rfl rfl rfl B3 Nat.zero_lt_one fun w hg hsz B3 hf=>?_
      replace e:=e.gr hg (by omega);replace hT:=hT.gr hg (by omega);replace HM0:=HM0.gr hg (fun h=>nm23.2 (Option.some.inj h));replace B2:=B2.gr hg (by omega);replace B4:=B4.gr hg (by omega);replace B5:=B5.gr hg (by omega);replace kh:=kh.tr (Kh.gr hg (fun hh=>by have:=hh.1;omega));clear hg
      refine aa <| ai <| ⟨⟨rfl,⟨e,hT,HM0,B2,B3,B4,B5⟩,hbad (by rfl)⟩,kh⟩
     | true=>
      refine ifF hf rfl ?_
      refine ah ?_
      replace hf:=hf.kp [2,3,4,5,12]
      refine seq <| rgN 28 hf <| st ((ldW T76 rfl B5 rfl).eq ((rfl:_=ac one))) <| st (mv rfl) <| st (aw (A:=E (B true)) (B:=E (ac one)) (C:=E (I (x:Nat))) bZ rfl rfl (fun v u w he h h'=>fH w v u h h')) <| st (mv rfl) <| sy rfl rfl (fA U79 rfl T77 rfl) <| sy rfl rfl (ld1 (v:=.map (some bm0)) T77 rfl B4 (bI _ _)) <| sy rfl rfl (mv rfl) <| sy rfl rfl ((lkM (l:=l) (i:=(x:Int)) U77 bW (isE rfl hdv) rfl hwx).eq (congrArg ac hlk)) <| sy rfl rfl ((ldW T76 rfl B5 rfl).eq ((rfl:_=ac one))) <| sy rfl rfl (aw (A:=E (ac (nx &&& one))) (B:=E (ac nx)) (C:=E (ac one)) dS rfl rfl (fun v u w he h h'=>fI w v u h h')) <| sy rfl rfl (ak (A:=E (B false)) (B:=E (ac (nx &&& one))) dG rfl (fun v w he h=>fE2 w v h)) <| sy rfl rfl (aY rfl) <| st (pkT rfl rfl) <| st (mv rfl) <| sn rfl rfl rfl <| sn rfl rfl rfl <| sn rfl rfl rfl <| sn rfl rfl rfl <| sn rfl rfl rfl <| su rfl rfl <| su rfl rfl <| su rfl rfl <| su rfl rfl <| su rfl rfl <| su rfl rfl <| su rfl rfl <| sn rfl rfl rfl <| st (pkT rfl rfl) <| en fun a w e' hf=>?_
      obtain⟨hT,HM0⟩:=up2 e' hT HM0
      replace kh:=kh.tr (Kh.ext e')
      obtain⟨hdv,e,B2,B3,B4,B5⟩:=up6 e' hdv e B2 B3 B4 B5
      refine aa ?_
      replace hf:=hf.kp [2,3,4,5,12,95]
      refine ifT hf rfl ?_
      replace hf:=hf.kp [2,3]
      have kk:=B2.lt
      refine seq <| ab <| aI T35 hf rfl rfl rfl B2 Nat.zero_lt_one fun w hg hsz B2 hf=>?_
      replace e:=e.gr hg (by omega);replace hT:=hT.gr hg (by omega);replace HM0:=HM0.gr hg (fun h=>nm23.1 (Option.some.inj h));replace B3:=B3.gr hg (by omega);replace B4:=B4.gr hg (by omega);replace B5:=B5.gr hg (by omega);replace kh:=kh.tr (Kh.gr hg (fun hh=>by have:=hh.1;omega));clear hg
      refine aI T4 hf rfl rfl rfl B3 Nat.zero_lt_one fun w hg hsz B3 hf=>?_
      replace e:=e.gr hg (by omega);replace hT:=hT.gr hg (by omega);replace HM0:=HM0.gr hg (fun h=>nm23.2 (Option.some.inj h));replace B2:=B2.gr hg (by omega);replace B4:=B4.gr hg (by omega);replace B5:=B5.gr hg (by omega);replace kh:=kh.tr (Kh.gr hg (fun hh=>by have:=hh.1;omega));clear hg
      refine aa <| ai <| ⟨⟨rfl,⟨e,hT,HM0,B2,B3,B4,B5⟩,hbad (by rfl)⟩,kh⟩
    | true=>
     refine seq <| seq ?_
     refine rgG 20 Mix.mix hf <| st (fA U79 rfl T77 rfl) <| st (ld1 (v:=.map (some bm0)) T77 rfl B4 (bI _ _)) <| st (mv rfl) <| st ((lkM (l:=l) (i:=(x:Int)) U77 bW (isE rfl hdv) rfl hwx).eq (congrArg ac hlk)) <| st ((ldW T76 rfl B5 rfl).eq ((rfl:_=ac one))) <| st (aw (A:=E (ac (nx &&& one))) (B:=E (ac nx)) (C:=E (ac one)) dS rfl rfl (fun v u w he h h'=>fI w v u h h')) <| st (ak (A:=E (B true)) (B:=E (ac (nx &&& one))) dG rfl (fun v w he h=>fE2 w v h)) <| st (aY rfl) <| st ((ldW T76 rfl B5 rfl).eq ((rfl:_=ac one))) <| st (mv rfl) <| st (aw (A:=E (B true)) (B:=E (ac one)) (C:=E (I (x:Nat))) bZ rfl rfl (fun v u w he h h'=>fH w v u h h')) <| st (iS U4 rfl rfl) <| st (mv rfl) <| sn rfl rfl rfl <| sn rfl rfl rfl <| sn rfl rfl rfl <| sn rfl rfl rfl <| sn rfl rfl rfl <| sn rfl rfl rfl <| st (pkF rfl rfl) <| en fun a w e' hf=>?_
     obtain⟨hT,HM0⟩:=up2 e' hT HM0
     replace kh:=kh.tr (Kh.ext e')
     obtain⟨hdv,e,B2,B3,B4,B5⟩:=up6 e' hdv e B2 B3 B4 B5
     refine aa ?_
     replace hf:=hf.kp [2,3,4,5,12,67]
     refine ifF hf rfl ?_
     refine ah ?_
     replace hf:=hf.kp [2,3,4,5,12]
     refine seq <| rgN 28 hf <| st ((ldW T76 rfl B5 rfl).eq ((rfl:_=ac one))) <| st (mv rfl) <| st (aw (A:=E (B true)) (B:=E (ac one)) (C:=E (I (x:Nat))) bZ rfl rfl (fun v u w he h h'=>fH w v u h h')) <| st (mv rfl) <| sy rfl rfl (fA U79 rfl T77 rfl) <| sy rfl rfl (ld1 (v:=.map (some bm0)) T77 rfl B4 (bI _ _)) <| sy rfl rfl (mv rfl) <| sy rfl rfl ((lkM (l:=l) (i:=(x:Int)) U77 bW (isE rfl hdv) rfl hwx).eq (congrArg ac hlk)) <| sy rfl rfl ((ldW T76 rfl B5 rfl).eq ((rfl:_=ac one))) <| sy rfl rfl (aw (A:=E (ac (nx &&& one))) (B:=E (ac nx)) (C:=E (ac one)) dS rfl rfl (fun v u w he h h'=>fI w v u h h')) <| sy rfl rfl (ak (A:=E (B true)) (B:=E (ac (nx &&& one))) dG rfl (fun v w he h=>fE2 w v h)) <| sy rfl rfl (aY rfl) <| st (pkT rfl rfl) <| st (mv rfl) <| sy rfl rfl ((ldW T76 rfl B5 rfl).eq ((rfl:_=ac one))) <| sy rfl rfl (mv rfl) <| sy rfl rfl (aw (A:=E (B true)) (B:=E (ac one)) (C:=E (I (x:Nat))) bZ rfl rfl (fun v u w he h h'=>fH w v u h h')) <| sy rfl rfl (aY rfl) <| sy rfl rfl (mv rfl) <| sn rfl rfl rfl <| sn rfl rfl rfl <| sn rfl rfl rfl <| sn rfl rfl rfl <| sn rfl rfl rfl <| sn rfl rfl rfl <| sn rfl rfl rfl <| sy rfl rfl (pkF rfl rfl) <| st (pkF rfl rfl) <| en fun a w e' hf=>?_
     obtain⟨hT,HM0⟩:=up2 e' hT HM0
     replace kh:=kh.tr (Kh.ext e')
     obtain⟨hdv,e,B2,B3,B4,B5⟩:=up6 e' hdv e B2 B3 B4 B5
     refine aa ?_
     replace hf:=hf.kp [2,3,4,5,12,95]
     refine ifF hf rfl ?_
     refine ah ?_
     exact⟨⟨⟨e,hT,HM0,B2,B3,B4,B5⟩,hgood (by cases E3 <;> rfl)⟩,kh⟩
  ·intro a' w' hf' hJ hsz hDn
   simp only[Exit.inBlock,↓reduceIte,Exit.then]
   rw[hJ.2] at hrb
   replace hrb:rb=true:=hrb
   rw[hrb,if_pos rfl] at hrl
   have hD:Ds [w.heap.size] w':=(Ds.nil w').cons hDn (by simp)
   have hf:FrD 98 (bL [w.heap.size]) a' w' [(2,E (ptr b2)),(3,E (ptr b3)),(5,E (ptr b5))]:=hf'.keep [2,3,5]
   have hDW:∀d∈[w.heap.size],W.heap.size≤d:=fun d hd=>by rw[List.mem_singleton] at hd;omega
   obtain⟨e,hT,HM0,B2,B3,B4,B5⟩:=hJ.1
   have hb2:=hD.ne B2
   have hb3:=hD.ne B3
   generalize [w.heap.size]=D2 at *
   generalize w'=w at *
   obtain⟨N9,hN9⟩:=eqX w.heap.size
   have hN9s:N9≤w.heap.size:=Nat.le_of_eq hN9
   have hl9:b2<N9∧b3<N9:=by rw[hN9];exact⟨B2.lt,B3.lt⟩
   have hd9:∀d∈D2,d<N9:=fun d hd=>by rw[hN9];exact hD.lt hd
   refine seq <| rgN 2 hf <| st ((ldW T76 rfl B5 rfl).eq ((rfl:_=ac one))) <| st (ak (A:=OwA intE 3 N9 G0 (elL one)) (B:=E (ac one)) ji rfl (fun u w he k=>by cases k;exact (jO one w (hT.ext he)).mono fun en w' ⟨u,k1,k2,k3⟩=>⟨u,k1,k2,OwR.low k3 (Nat.le_trans hN9s he.size) fun b hb=>hb.elim⟩)) ?_
   refine en fun a w e' hf=>?_
   obtain⟨hT,e,B2,B3,B5,hD⟩:=up6 e' hT e B2 B3 B5 hD
   obtain⟨ev,HoE,hf⟩:=hf.opn 97 rfl
   replace HoE:OwR intE 3 N9 G0 w (elL one) ev:=HoE
   have hro:ev.oneCell'=true:=HoE.one
   replace hf:=hf.kp [2,3,97]
   refine aI T35 hf rfl rfl hro B2 Nat.zero_lt_one fun w hg hsz B2 hf=>?_
   obtain⟨e,B3⟩:=gr2 hg e B3
   replace hD:=hD.gr hg hb2;replace HoE:=HoE.grE hg (HoE.neLt hl9.1)
   refine aI T4 hf rfl rfl rfl B3 Nat.zero_lt_one fun w hg hsz B3 hf=>?_
   obtain⟨e,B2⟩:=gr2 hg e B2
   replace hD:=hD.gr hg hb3;replace HoE:=HoE.grE hg (HoE.neLt hl9.2)
   refine aa ?_
   replace B2:Blk w b2 #[ev] 35:=B2
   replace B3:Blk w b3 #[B true] 4:=B3
   refine ai <| sb rfl T35 T4 hf rfl rfl B2 B3 hD ⟨_,rfl,e.shut hDW,Tup.two ?_ (by rw[hrb];rfl)⟩
   rw[hrl]
   exact ((HoE.chE (dU D2 w) fun b hb hm=>by have h1:=(HoE.lt hb).1;have h2:=hd9 b hm;omega)).sl
  ·intro ex c a' w' hcd hf' hX hsz hDn
   obtain⟨rfl,hJ,hany⟩:=hX
   simp only[Exit.inBlock,↓reduceIte,Exit.then]
   rw[hany] at hrb
   replace hrb:rb=false:=hrb
   rw[hrb,if_neg (by decide)] at hrl
   subst hrl hrb
   have hD:Ds [w.heap.size] w':=(Ds.nil w').cons hDn (by simp)
   have hf:FrD 98 (bL [w.heap.size]) a' w' [(2,E (ptr b2)),(3,E (ptr b3))]:=hf'.keep [2,3]
   have hDW:∀d∈[w.heap.size],W.heap.size≤d:=fun d hd=>by rw[List.mem_singleton] at hd;omega
   exact sb rfl T35 T4 hf rfl rfl hJ.p2 hJ.p3 hD ⟨_,rfl,hJ.e.shut hDW,Tup.two Dv.nil rfl⟩
def lkI (l:List (Int×Int))(i:Int):Int:=((l.find? fun p=>decide (p.1=i)).map (·.2)).getD 0
theorem gH (l:List (Int×Int))(x:Int)(c:Int)(i:Int):lkI (aT l x c) i=if i=x then c else lkI l i:=by
 rw[lkI,aT,List.find?_cons]
 by_cases h:x=i
 ·subst h;simp
 ·have h1:decide ((x,c).1=i)=false:=by simp[h]
  rw[h1,if_neg (Ne.symm h),lkI]
  congr 2
  induction l with
  | nil=>rfl
  | cons p l ih=>
   rw[List.filter_cons]
   by_cases hp:p.1=x
   ·have h2:decide (p.1=i)=false:=by rw[hp];simp[h]
    rw[if_neg (by simp[hp]),List.find?_cons,h2];exact ih
   ·rw[if_pos (by simp[hp]),List.find?_cons,List.find?_cons]
    cases decide (p.1=i) <;> simp[ih]
theorem sd {l:List (Int×Int)}{i:Int}(h:lkI l i≠0):(i,lkI l i)∈l:=by
 rw[lkI] at h ⊢
 cases hf:l.find? (fun p=>decide (p.1=i)) with
 | none=>rw[hf] at h;exact absurd rfl h
 | some p=>
  have h1:p.1=i:=by simpa using List.find?_some hf
  have h2:=List.mem_of_find?_eq_some hf
  show (i,p.2)∈l
  rw[← h1];exact h2
theorem sf {l:List (Int×Int)}{lo hi:Int}(h:∀p∈l,lo≤p.2∧p.2≤hi)(h0:lo≤0)(h1:0≤hi)(i:Int):lo≤lkI l i∧lkI l i≤hi:=by
 by_cases hz:lkI l i=0
 ·rw[hz];exact⟨h0,h1⟩
 ·exact h _ (sd hz)
theorem a0G {l:List (Int×Int)}(h:∀p∈l,0<p.2){i c:Int}(hm:(i,c)∈l):0<lkI l i:=by
 rw[lkI]
 cases hf:l.find? (fun p=>decide (p.1=i)) with
 | none=>have:=List.find?_eq_none.1 hf _ hm;simp at this
 | some p=>exact h p (List.mem_of_find?_eq_some hf)
theorem iJ {α β:Type}[DecidableEq α]{l:List (α×β)}{x:α}{c:β}{p:α×β}(h:p∈aT l x c):p=(x,c)∨p∈l:=by
 rcases List.mem_cons.1 h with h|h
 ·exact .inl h
 ·exact .inr (List.mem_filter.1 h).1
theorem sg {α β:Type}[DecidableEq α]{l:List (α×β)}(x:α)(c:β)(h:l.Pairwise fun p q=>p.1≠q.1):(aT l x c).Pairwise fun p q=>p.1≠q.1:=by
 refine List.pairwise_cons.2 ⟨fun q hq=>?_,h.filter _⟩
 have:=(List.mem_filter.1 hq).2
 simp only[Bool.not_eq_true',decide_eq_false_iff_not] at this
 exact fun e=>this e.symm
theorem a0H {α β:Type}[DecidableEq α]{l:List (α×β)}{x:α}(c:β)(h:∀d,(x,d) ∉ l):(aT l x c).length=l.length+1:=by
 rw[(rj (c:=c) h).length_eq,List.length_append];rfl
structure BcS where
 la:List (Int×Int)
 ll:List (Int×Int)
 way:List Nat
 out:List (List Int)
def bcP (id:Nat)(s:BcS):BcS:={ s with la:=aT s.la (id:Int) ((s.la.length:Nat)+1:Int),ll:=aT s.ll (id:Int) (lkI (aT s.la (id:Int) ((s.la.length:Nat)+1:Int)) (id:Int)),way:=s.way++[id] }
def bcL (id next:Nat)(s:BcS):BcS:={ s with ll:=aT s.ll (id:Int) (min (lkI s.ll (id:Int)) (lkI s.la (next:Int))) }
def bcM (id next:Nat)(s:BcS):BcS:={ s with ll:=aT s.ll (id:Int) (min (lkI s.ll (id:Int)) (lkI s.ll (next:Int))) }
def bcC (id behind:Nat)(s:BcS):BcS:={ s with out:=s.out++[elL ((ae (s.way.drop behind++[id])).foldl ins 0)],way:=s.way.take behind }
def bcT (R:Nat→Int→BcS→BcS)(id:Nat)(frm:Int)(s:BcS)(next:Nat):BcS:=
 if (next:Int)=frm then s
 else if 0<lkI s.la (next:Int) then bcL id next s
 else if lkI (bcM id next (R next (id:Int) s)).la (id:Int)≤lkI (bcM id next (R next (id:Int) s)).ll (next:Int) then bcC id s.way.length (bcM id next (R next (id:Int) s)) else bcM id next (R next (id:Int) s)
def bcF (nb:Int→BS):Nat→Nat→Int→BcS→BcS
 | 0,_,_,s=>s
 | f+1,id,frm,s=>(aj (nb (id:Int))).foldl (bcT (bcF nb f) id frm) (bcP id s)
structure BcI (V:BS)(c:Nat)(s:BcS):Prop where
 ka:∀p∈s.la,∃n:Nat,p.1=(n:Int)∧V.getLsbD n=true
 va:∀p∈s.la,1≤p.2∧p.2≤1025
 na:s.la.Pairwise fun p q=>p.1≠q.1
 kl:∀p∈s.ll,∃n:Nat,p.1=(n:Int)∧V.getLsbD n=true
 vl:∀p∈s.ll,0≤p.2∧p.2≤1025
 nl:s.ll.Pairwise fun p q=>p.1≠q.1
 w:s.way.length≤s.la.length
 wm:∀x∈s.way,x<1024
 o:s.out.length≤s.la.length+c
theorem mI {V:BS}{l:List (Int×Int)}(hk:∀p∈l,∃n:Nat,p.1=(n:Int)∧V.getLsbD n=true)(hn:l.Pairwise fun p q=>p.1≠q.1):l.length≤card V:=by
 have:=ed (l.map (·.1)) (ae (aj V)) (List.pairwise_map.2 hn) fun x hx=>by
  obtain⟨p,hp,rfl⟩:=List.mem_map.1 hx
  obtain⟨n,h1,h2⟩:=hk p hp
  rw[h1]
  exact List.mem_map.2 ⟨n,aL.2 ⟨aK h2,h2⟩,rfl⟩
 rw[List.length_map,bC,dL] at this
 exact this
section
variable {V:BS}{c:Nat}{s:BcS}
theorem BcI.al (h:BcI V c s):s.la.length≤1024:=Nat.le_trans (mI h.ka h.na) (dM V)
theorem BcI.ll' (h:BcI V c s):s.ll.length≤1024:=Nat.le_trans (mI h.kl h.nl) (dM V)
theorem BcI.ar (h:BcI V c s)(i:Int):0≤lkI s.la i∧lkI s.la i≤1025:=sf (fun p hp=>⟨by have:=h.va p hp;omega,(h.va p hp).2⟩) (by omega) (by omega) i
theorem BcI.lr (h:BcI V c s)(i:Int):0≤lkI s.ll i∧lkI s.ll i≤1025:=sf h.vl (by omega) (by omega) i
theorem BcI.new (h:BcI V c s){id:Int}(hi:lkI s.la id≤0):∀d,(id,d) ∉ s.la:=fun d hd=>by
 have:=a0G (fun p hp=>by have:=h.va p hp;omega) hd
 omega
theorem BcI.setL (h:BcI V c s){id:Nat}(hid:V.getLsbD id=true){v:Int}(hv:0≤v∧v≤1025):BcI V c { s with ll:=aT s.ll (id:Int) v }:=
 ⟨h.ka,h.va,h.na,fun p hp=>by
  rcases iJ hp with rfl|hp
  ·exact⟨id,rfl,hid⟩
  ·exact h.kl p hp,fun p hp=>by
  rcases iJ hp with rfl|hp
  ·exact hv
  ·exact h.vl p hp,sg _ _ h.nl,h.w,h.wm,h.o⟩
theorem BcI.push (h:BcI V c s){id:Nat}(hid:V.getLsbD id=true)(hi:lkI s.la (id:Int)≤0):BcI V c (bcP id s)∧(bcP id s).la.length=s.la.length+1:=by
 have hlen:=a0H ((s.la.length:Nat)+1:Int) (h.new hi)
 have hal:=h.al
 have h1:BcI V c { s with la:=aT s.la (id:Int) ((s.la.length:Nat)+1:Int),way:=s.way++[id] }:=
  ⟨fun p hp=>by
   rcases iJ hp with rfl|hp
   ·exact⟨id,rfl,hid⟩
   ·exact h.ka p hp,fun p hp=>by
   rcases iJ hp with rfl|hp
   ·dsimp only;omega
   ·exact h.va p hp,sg _ _ h.na,h.kl,h.vl,h.nl,by
    show (s.way++[id]).length≤(aT s.la (id:Int) ((s.la.length:Nat)+1:Int)).length
    rw[hlen,List.length_append,List.length_singleton];have:=h.w;omega,fun x hx=>by
   rcases List.mem_append.1 hx with hx|hx
   ·exact h.wm x hx
   ·rw[List.mem_singleton.1 hx];exact aK hid,by
    show s.out.length≤(aT s.la (id:Int) ((s.la.length:Nat)+1:Int)).length+c
    rw[hlen];have:=h.o;omega⟩
 exact⟨h1.setL hid (h1.ar (id:Int)),hlen⟩
def unv (V:BS)(la:List (Int×Int)):Nat:=((aj V).filter fun v:Nat=>decide (lkI la (v:Int)≤0)).length
theorem jZ {V:BS}{la la':List (Int×Int)}(h:∀i,0<lkI la i→0<lkI la' i):unv V la'≤unv V la:=by
 rw[unv,unv,← List.countP_eq_length_filter,← List.countP_eq_length_filter]
 refine List.countP_mono_left fun v _ hv=>?_
 have h1:=of_decide_eq_true hv
 refine decide_eq_true <| Classical.byContradiction fun hn=>?_
 have:=h (v:Int) (by omega)
 omega
theorem a0I {V:BS}{la la':List (Int×Int)}{id:Nat}(hid:V.getLsbD id=true)(h0:lkI la (id:Int)≤0)(h1:0<lkI la' (id:Int))(h:∀i,0<lkI la i→0<lkI la' i):unv V la'<unv V la:=by
 rw[unv,unv]
 have hm:id∈aj V:=aL.2 ⟨aK hid,hid⟩
 generalize aj V=l at hm
 have hle:∀l:List Nat,(l.filter fun v:Nat=>decide (lkI la' (v:Int)≤0)).length≤(l.filter fun v:Nat=>decide (lkI la (v:Int)≤0)).length:=fun l=>by
  rw[← List.countP_eq_length_filter,← List.countP_eq_length_filter]
  refine List.countP_mono_left fun v _ hv=>decide_eq_true ?_
  have h2:=of_decide_eq_true hv
  refine Classical.byContradiction fun hn=>?_
  have:=h (v:Int) (by omega)
  omega
 induction l with
 | nil=>cases hm
 | cons x l ih=>
  rw[List.filter_cons,List.filter_cons]
  rcases List.mem_cons.1 hm with rfl|hm
  ·rw[if_neg (by simp;omega),if_pos (by simp;omega),List.length_cons]
   have:=hle l
   omega
  ·have:=ih hm
   by_cases hx:lkI la' (x:Int)≤0
   ·have hx2:lkI la (x:Int)≤0:=Classical.byContradiction fun hn=>by
     have:=h (x:Int) (by omega);omega
    rw[if_pos (decide_eq_true hx),if_pos (decide_eq_true hx2),List.length_cons,List.length_cons]
    omega
   ·rw[if_neg (by simpa using hx)]
    split
    ·rw[List.length_cons];omega
    ·exact this
structure BcQ (V:BS)(c:Nat)(s1 s:BcS):Prop where
 i:BcI V c s
 m:∀i,0<lkI s1.la i→0<lkI s.la i
 w:∃t,s.way=s1.way++t
 d:s.out.length+s1.la.length≤s1.out.length+s.la.length
theorem BcQ.rfl' (h:BcI V c s):BcQ V c s s:=⟨h,fun _ h=>h,⟨[],(List.append_nil _).symm⟩,Nat.le_refl _⟩
structure BcR (V:BS)(c:Nat)(id:Nat)(s s':BcS):Prop where
 i:BcI V c s'
 m:∀i,0<lkI s.la i→0<lkI s'.la i
 w:∃t,s'.way=s.way++id::t
 d:s'.out.length+s.la.length+1≤s.out.length+s'.la.length
theorem a0J (id next:Nat)(s:BcS):(bcM id next s).la=s.la:=rfl
theorem a0K (id next:Nat)(s:BcS):(bcM id next s).way=s.way:=rfl
theorem a0L (id next:Nat)(s:BcS):(bcM id next s).out=s.out:=rfl
theorem BcI.setM (h:BcI V c s){id:Nat}(hid:V.getLsbD id=true)(next:Nat):BcI V c (bcM id next s):=
 h.setL hid (by have h1:=h.lr (id:Int);have h2:=h.lr (next:Int);omega)
theorem BcI.setL2 (h:BcI V c s){id:Nat}(hid:V.getLsbD id=true)(next:Nat):BcI V c (bcL id next s):=
 h.setL hid (by have h1:=h.lr (id:Int);have h2:=h.ar (next:Int);omega)
theorem mJ {s1:BcS}{R:Nat→Int→BcS→BcS}{id next:Nat}{frm:Int}(hid:V.getLsbD id=true)(h:BcQ V c s1 s)(hR:lkI s.la (next:Int)≤0→BcR V c next s (R next (id:Int) s)):BcQ V c s1 (bcT R id frm s next):=by
 rw[bcT]
 split
 ·exact h
 split
 ·exact⟨h.i.setL2 hid next,h.m,h.w,h.d⟩
 ·rename_i _ hn
  have r:=hR (by omega)
  obtain⟨t1,ht1⟩:=h.w
  obtain⟨t2,ht2⟩:=r.w
  have hd1:=h.d
  have hd2:=r.d
  have ri:=r.i.setM hid next
  have rm:=r.m
  generalize R next (id:Int) s=s2 at *
  split
  ·refine⟨⟨ri.ka,ri.va,ri.na,ri.kl,ri.vl,ri.nl,?_,fun x hx=>ri.wm x (List.mem_of_mem_take hx),?_⟩,fun i hi=>rm i (h.m i hi),⟨t1,?_⟩,?_⟩
   ·refine Nat.le_trans (List.length_take_le' _ _) ri.w
   ·show (s2.out++[_]).length≤s2.la.length+c
    rw[List.length_append,List.length_singleton]
    have:=h.i.o
    omega
   ·show s2.way.take s.way.length=s1.way++t1
    rw[ht2,List.take_append_of_le_length (Nat.le_refl _),List.take_length,ht1]
   ·show (s2.out++[_]).length+s1.la.length≤s1.out.length+s2.la.length
    rw[List.length_append,List.length_singleton]
    omega
  ·exact⟨ri,fun i hi=>rm i (h.m i hi),⟨t1++next::t2,by rw[a0K,ht2,ht1,List.append_assoc]⟩,by rw[a0L,a0J];omega⟩
theorem mK {id:Nat}(h:BcI V c s)(hid:V.getLsbD id=true)(hi:lkI s.la (id:Int)≤0):(∀i,0<lkI s.la i→0<lkI (bcP id s).la i)∧0<lkI (bcP id s).la (id:Int)∧unv V (bcP id s).la<unv V s.la:=by
 have h1:∀i,lkI (bcP id s).la i=if i=(id:Int) then ((s.la.length:Nat)+1:Int) else lkI s.la i:=fun i=>gH _ _ _ _
 have h2:0<lkI (bcP id s).la (id:Int):=by rw[h1,if_pos rfl];omega
 have h3:∀i,0<lkI s.la i→0<lkI (bcP id s).la i:=fun i hh=>by rw[h1];split <;> omega
 exact⟨h3,h2,a0I hid hi h2 h3⟩
theorem kb {nb:Int→BS}(hV:∀i j:Nat,(nb (i:Int)).getLsbD j=true→V.getLsbD j=true):∀(f:Nat) (id:Nat) (frm:Int) (s:BcS),BcI V c s→V.getLsbD id=true→lkI s.la (id:Int)≤0→unv V s.la≤f→BcR V c id s (bcF nb f id frm s):=by
 intro f
 induction f with
 | zero=>
  intro id frm s h hid hi hu
  exfalso
  have hm:id∈(aj V).filter fun v:Nat=>decide (lkI s.la (v:Int)≤0):=List.mem_filter.2 ⟨aL.2 ⟨aK hid,hid⟩,decide_eq_true hi⟩
  have:=List.length_pos_of_mem hm
  rw[unv] at hu
  omega
 | succ f ih=>
  intro id frm s h hid hi hu
  obtain⟨p1,p2⟩:=h.push hid hi
  obtain⟨q1,q2,q3⟩:=mK h hid hi
  have key:∀(l:List Nat),(∀x∈l,V.getLsbD x=true)→∀s',BcQ V c (bcP id s) s'→BcQ V c (bcP id s) (l.foldl (bcT (bcF nb f) id frm) s'):=by
   intro l
   induction l with
   | nil=>intro _ s' h';exact h'
   | cons x l ihl=>
    intro hl s' h'
    exact ihl (fun y hy=>hl y (List.mem_cons_of_mem _ hy)) _ (mJ hid h' fun hx=>ih x (id:Int) s' h'.i (hl x (List.mem_cons_self ..)) hx (by have:=jZ (V:=V) h'.m;omega))
  have hq:=key (aj (nb (id:Int))) (fun x hx=>hV id x (aL.1 hx).2) _ (BcQ.rfl' p1)
  obtain⟨t,ht⟩:=hq.w
  have hqd:=hq.d
  rw[p2] at hqd
  have ho:(bcP id s).out=s.out:=rfl
  rw[ho] at hqd
  exact⟨hq.i,fun i hi=>hq.m i (q1 i hi),⟨t,by rw[bcF,ht];show s.way++[id]++t=_;rw[List.append_assoc];rfl⟩,by rw[bcF];omega⟩
end
noncomputable def iKV:KV Tryz.prog Int Int where
 k:=3
 e:=3
 kv:=fun x=>.int .i64 x
 kl:=fun x=>.int .i64 x
 ok:=fun x=>(Lit.int .i64 x).wf=true
 mv:=fun c=>.int .i64 c
 dv:=fun c=>.lit (.int .i64 c)
 okv:=fun c=>(Lit.int .i64 c).wf=true
 R:=plainElem Tryz.prog 3
 K:=Maps.int_keyed U3
 key:=fun x hx=>Maps.keyOf_int_mk U3 hx
 keyInv:=fun v l h=>by obtain⟨x,h1,h2,h3⟩:=Maps.keyOf_int_inv U3 h;exact⟨x,h3,h1,h2⟩
 kvInj:=fun x y h=>by cases h;rfl
 val:=fun c hc=>plainElem_int U3 hc
 valInv:=fun v y h=>by
  obtain⟨c,h1,h2,h3⟩:=plainElem_int_inv U3 h
  exact⟨c,h3,h1,h2⟩
 dvInj:=fun c c' h=>by cases h;rfl
theorem a0M {l:List (Int×Int)}{i:Int}(h:∀c,(i,c) ∉ l):lkI l i=0:=by
 have:l.find? (fun p=>decide (p.1=i))=none:=by
  rw[List.find?_eq_none]
  intro p hp hh
  have h3:p.1=i:=by simpa using hh
  exact h p.2 (by rw[← h3];exact hp)
 rw[lkI,this];rfl
section
variable {w0:World}{L:Env}{dst:Option Tmp}{ty:TypeId}{pos:String}{aft:Array Edge}{g:Option (Nat×Bool)}{x y:Operand}{t:TypeId}{l:List (Int×Int)}{b n:Nat}
theorem dz {i:Int}(ht:Tryz.prog.underlying t=some (.map iKV.k iKV.e))(hx:opd L x=some (E (.map (some b))))(hM:MpR iKV w0 b n l)(hy:opd L y=some (E (I i)))(hi:(Lit.int .i64 i).wf=true) :
  OpC Tryz.prog w0 L ⟨dst,.lookup t x y false,ty,pos,aft,g⟩ (E (I (lkI l i))):=
 aP fun ρ w he' hv=>by
  have h5:=opE hv (x:=x) (by simp[Op.operands]) hx
  have h6:=opE hv (x:=y) (by simp[Op.operands]) hy
  have h2:=hM.ext he'
  obtain⟨D,m1,m2,m3,m4,_⟩:=h2.has (x:=i) hi
  have hz0:(Lit.int .i64 0).wf=true:=by decide
  obtain⟨v,ps,r1,r2⟩:=m1.lookup iKV.K ht (eI I3 w) (iKV.val 0 hz0) (iKV.key i hi)
  obtain⟨c,_,rfl,hy2⟩:=iKV.valInv _ _ r2
  have hcc:c=lkI l i:=by
   have h8:=congrArg Prod.fst hy2
   simp only at h8
   by_cases hex:∃c',(i,c')∈l
   ·obtain⟨c',hc'⟩:=hex
    rw[m3 c' hc'] at h8
    have h9:lkI l i=c':=by
     obtain⟨_,_,_,_,hp⟩:=h2
     cases hf:l.find? (fun p=>decide (p.1=i)) with
     | none=>have:=List.find?_eq_none.1 hf _ hc';simp at this
     | some p=>
      have k1:=List.find?_some hf
      have k2:=List.mem_of_find?_eq_some hf
      have k3:p.1=i:=by simpa using k1
      have k4:p=(i,p.2):=by rw[← k3]
      rw[k4] at k2
      rw[lkI,hf]
      exact ip hp k2 hc'
    rw[h9]
    exact (iKV.dvInj _ _ h8).symm
   ·have hno:∀c',(i,c') ∉ l:=fun c' h=>hex ⟨c',h⟩
    rw[m4 hno] at h8
    rw[a0M hno]
    exact (iKV.dvInj _ _ h8).symm
  rw[hcc] at r1
  have r1:(Instr.lookup t (.map (some b)) (I i) false).run Tryz.prog w=.ok (I (lkI l i)) w:=r1
  exact⟨_,by simp only[execOp,h5,h6,Sem.run_bind,r1,Result.andThen_ok,Sem.run_pure],rfl⟩
theorem a0N (ht:Tryz.prog.underlying t=some (.map iKV.k iKV.e))(hx:opd L x=some (E (.map (some b))))(hM:MpR iKV w0 b n l):OpC Tryz.prog w0 L ⟨dst,.call ⟨.builtin .len,#[x],#[t]⟩,ty,pos,aft,g⟩ (E (I (l.length:Nat))):=
 gl (V:=iKV) (N:=n) (G:=G0) ht (isE hx (MpR.dvE hM (Nat.le_refl n) fun h=>h))
end
theorem OwR.cut {te:TypeId}{N:Nat}{w:World}{xs:List Int}{v:Value}(h:OwR intE te N G0 w xs v){k:Nat}(hk:k≤xs.length)(h0:0<k):∃b c,v=.slice (some ⟨b,0,none⟩) xs.length c∧xs.length≤c∧OwR intE te N G0 w (xs.take k) (.slice (some ⟨b,0,none⟩) k c):=by
 rcases h.rw intFF with ⟨_,rfl⟩|⟨b,cap,cur,rfl,hc,HR,ht⟩
 ·rw[List.length_nil] at hk;omega
 ·refine⟨b,cap,rfl,hc,?_⟩
  have hl:(xs.take k).length=k:=by rw[List.length_take];omega
  have:=HR.own (xs:=xs.take k) (G:=G0) intFF (by omega) (by
   rw[hl]
   have h1:=congrArg (List.take (k * intE.k)) ht
   rw[jy intFF.len,List.take_take,Nat.min_eq_left (Nat.mul_le_mul_right _ hk)] at h1
   exact h1) fun b hb=>hb.elim
  rw[hl] at this
  exact this
def OWN (vw vo:Value)(b:Nat):Prop:=vw.ownBlock=some b∨vo.ownBlock=some b
def bcV (ba bl bw bg bd bo:Nat):Value:=.func (.func 61) #[] #[ptr ba,ptr bl,ptr bw,ptr bg,ptr bd,ptr bo]
structure BcD (bm ba bl bw bg bd bo ma ml N:Nat):Prop where
 n:0<N∧bm<N∧ba<N∧bl<N∧bw<N∧bg<N∧bd<N∧bo<N∧ma<N∧ml<N
 w:bw≠ba∧bw≠bl∧bw≠bg∧bw≠bd∧bw≠bo∧bw≠bm∧bw≠0
 o:bo≠ba∧bo≠bl∧bo≠bg∧bo≠bd∧bo≠bm∧bo≠0
 a:ma≠ba∧ma≠bl∧ma≠bw∧ma≠bg∧ma≠bd∧ma≠bo∧ma≠bm∧ma≠ml∧ma≠0
 l:ml≠ba∧ml≠bl∧ml≠bw∧ml≠bg∧ml≠bd∧ml≠bo∧ml≠bm∧ml≠0
structure BcW (l:List (Int×BS))(V:BS)(bm nm ba bl bw bg bd bo ma ml N:Nat)(G:Nat→Prop)(s:BcS)(vw vo:Value)(w:World):Prop where
 t:Tab w
 m:MpR sKV w bm nm l
 pa:Blk w ba #[.map (some ma)] 43
 pl:Blk w bl #[.map (some ml)] 43
 pw:Blk w bw #[vw] 35
 pg:Blk w bg (adC V (.map (some bm))) 79
 pd:Blk w bd #[bcV ba bl bw bg bd bo] 95
 po:Blk w bo #[vo] 39
 ma:MpR iKV w ma s.la.length s.la
 ml:MpR iKV w ml s.ll.length s.ll
 ow:OwR intE 3 N G0 w (ae s.way) vw
 oo:OwX (bV 3) 35 N (fun b=>G b∨vw.ownBlock=some b) w s.out vo
section
variable {l:List (Int×BS)}{V:BS}{bm nm ba bl bw bg bd bo ma ml N:Nat}{G G':Nat→Prop}{s:BcS}{vw vo:Value}{w w' w2:World}
theorem BcW.ownNe (h:BcW l V bm nm ba bl bw bg bd bo ma ml N G s vw vo w){b:Nat}(h1:vw.ownBlock=some b):vo.ownBlock≠some b:=fun h2=>by
 refine h.oo.neR h.ow ?_ h2 h1
 decide
theorem BcW.ch (h:BcW l V bm nm ba bl bw bg bd bo ma ml N G s vw vo w)(D:BcD bm ba bl bw bg bd bo ma ml N){S:Nat→Prop}(c:Chg S w w')(hN:∀b,S b→N≤b)(hO:∀b,OWN vw vo b→¬S b)(hG:∀b,S b→G b):BcW l V bm nm ba bl bw bg bd bo ma ml N G s vw vo w':=by
 have no:∀{b},b<N→¬S b:=fun hb hs=>Nat.lt_irrefl _ (Nat.lt_of_lt_of_le hb (hN _ hs))
 obtain⟨n0,n1,n2,n3,n4,n5,n6,n7,n8,n9⟩:=D.n
 exact⟨h.t.ch c (no n0),h.m.pres (c.block _ h.m.lt (no n1)),h.pa.ch c (no n2),h.pl.ch c (no n3),h.pw.ch c (no n4),h.pg.ch c (no n5),h.pd.ch c (no n6),h.po.ch c (no n7),h.ma.pres (c.block _ h.ma.lt (no n8)),h.ml.pres (c.block _ h.ml.lt (no n9)),
  h.ow.chE c fun b hb=>hO b (.inl hb),h.oo.ch c (fun b hb=>hO b (.inr hb)) fun b hb=>.inl (hG b hb)⟩
theorem BcW.ext (h:BcW l V bm nm ba bl bw bg bd bo ma ml N G s vw vo w)(e:Ext w w'):BcW l V bm nm ba bl bw bg bd bo ma ml N G s vw vo w':=
 ⟨h.t.ext e,h.m.ext e,h.pa.ext e,h.pl.ext e,h.pw.ext e,h.pg.ext e,h.pd.ext e,h.po.ext e,h.ma.ext e,h.ml.ext e,h.ow.ext e,h.oo.ext e⟩
instance:Ug w w' (BcW l V bm nm ba bl bw bg bd bo ma ml N G s vw vo w) (BcW l V bm nm ba bl bw bg bd bo ma ml N G s vw vo w'):=⟨fun e h=>h.ext e⟩
theorem BcW.weak (h:BcW l V bm nm ba bl bw bg bd bo ma ml N G s vw vo w)(hG:∀b,b<w.heap.size→G' b→G b):BcW l V bm nm ba bl bw bg bd bo ma ml N G' s vw vo w:=
 ⟨h.t,h.m,h.pa,h.pl,h.pw,h.pg,h.pd,h.po,h.ma,h.ml,h.ow,h.oo.weak fun b hb hh=>hh.imp (hG b hb) id⟩
theorem BcW.putA (h:BcW l V bm nm ba bl bw bg bd bo ma ml N G s vw vo w)(D:BcD bm ba bl bw bg bd bo ma ml N)(hg:w.grownBy w' (some ma)){k:Nat}{la:List (Int×Int)}(HM:MpR iKV w' ma k la)(hG:G ma):BcW l V bm nm ba bl bw bg bd bo ma ml N G { s with la:=la } vw vo w':=by
 obtain⟨n0,n1,n2,n3,n4,n5,n6,n7,n8,n9⟩:=D.n
 obtain⟨d1,d2,d3,d4,d5,d6,d7,d8,d9⟩:=D.a
 have c:Chg (fun b=>b=ma) w w':=(Chg.rfl' _ w).gr hg (.inl rfl)
 exact⟨h.t.ch c (fun e=>d9 e.symm),h.m.pres (c.block _ h.m.lt fun e=>d7 e.symm),h.pa.ch c (fun e=>d1 e.symm),h.pl.ch c (fun e=>d2 e.symm),h.pw.ch c (fun e=>d3 e.symm),h.pg.ch c (fun e=>d4 e.symm),h.pd.ch c (fun e=>d5 e.symm),h.po.ch c (fun e=>d6 e.symm),HM.tight,h.ml.pres (c.block _ h.ml.lt fun e=>d8 e.symm),
  h.ow.chE c fun b hb e=>by have:=(h.ow.lt hb).1;omega,h.oo.ch c (fun b hb e=>by have:=(h.oo.lt hb).1;omega) fun b hb=>.inl (by rw[hb];exact hG)⟩
theorem BcW.putL (h:BcW l V bm nm ba bl bw bg bd bo ma ml N G s vw vo w)(D:BcD bm ba bl bw bg bd bo ma ml N)(hg:w.grownBy w' (some ml)){k:Nat}{ll:List (Int×Int)}(HM:MpR iKV w' ml k ll)(hG:G ml):BcW l V bm nm ba bl bw bg bd bo ma ml N G { s with ll:=ll } vw vo w':=by
 obtain⟨n0,n1,n2,n3,n4,n5,n6,n7,n8,n9⟩:=D.n
 obtain⟨d1,d2,d3,d4,d5,d6,d7,d8⟩:=D.l
 have d9:=D.a.2.2.2.2.2.2.2.1
 have c:Chg (fun b=>b=ml) w w':=(Chg.rfl' _ w).gr hg (.inl rfl)
 exact⟨h.t.ch c (fun e=>d8 e.symm),h.m.pres (c.block _ h.m.lt fun e=>d7 e.symm),h.pa.ch c (fun e=>d1 e.symm),h.pl.ch c (fun e=>d2 e.symm),h.pw.ch c (fun e=>d3 e.symm),h.pg.ch c (fun e=>d4 e.symm),h.pd.ch c (fun e=>d5 e.symm),h.po.ch c (fun e=>d6 e.symm),h.ma.pres (c.block _ h.ma.lt fun e=>d9 e),HM.tight,
  h.ow.chE c fun b hb e=>by have:=(h.ow.lt hb).1;omega,h.oo.ch c (fun b hb e=>by have:=(h.oo.lt hb).1;omega) fun b hb=>.inl (by rw[hb];exact hG)⟩
theorem BcW.setW (h:BcW l V bm nm ba bl bw bg bd bo ma ml N G s vw vo w)(D:BcD bm ba bl bw bg bd bo ma ml N){vw':Value}{way:List Nat}(hg:w.grownBy w' vw.ownBlock)(hat:vw'.ownBlock=vw.ownBlock∨vw'.ownBlock=some w.heap.size)(Hn:OwR intE 3 N G0 w' (ae way) vw')
  (hg2:w'.grownBy w2 (some bw)) (B:Blk w2 bw #[vw'] 35) (hGw:G bw):BcW l V bm nm ba bl bw bg bd bo ma ml N G { s with way:=way } vw' vo w2:=by
 obtain⟨n0,n1,n2,n3,n4,n5,n6,n7,n8,n9⟩:=D.n
 obtain⟨d1,d2,d3,d4,d5,d6,d7⟩:=D.w
 have a3:=D.a.2.2.1
 have l3:=D.l.2.2.1
 have c1:Chg (fun b=>vw.ownBlock=some b) w w':=Chg.row hg
 have c2:Chg (fun b=>b=bw) w' w2:=(Chg.rfl' _ w').gr hg2 (.inl rfl)
 have lo:∀b,vw.ownBlock=some b→N≤b:=fun b hb=>(h.ow.lt hb).1
 have no:∀{b},b<N→¬vw.ownBlock=some b:=fun hb hs=>Nat.lt_irrefl _ (Nat.lt_of_lt_of_le hb (lo _ hs))
 have hoo:OwX (bV 3) 35 N (fun b=>G b∨vw'.ownBlock=some b) w' s.out vo:=
  (h.oo.weak (G':=fun b=>(G b∨vw.ownBlock=some b)∨vw'.ownBlock=some b) fun b hb hh=>hh.elim id fun hh=>by
   rcases hat with e|e
   ·exact .inr (by rw[← e];exact hh)
   ·rw[e] at hh;cases hh;omega).ch c1 (fun b hb hh=>h.ownNe hh hb) (fun b hb=>.inl (.inr hb)) |>.weak fun b _ hh=>hh.elim (fun hh=>.inl (.inl hh)) .inr
 exact⟨(h.t.ch c1 (no n0)).ch c2 (fun e=>d7 e.symm),(h.m.pres (c1.block _ h.m.lt (no n1))).pres (c2.block _ (Nat.lt_of_lt_of_le h.m.lt c1.size) fun e=>d6 e.symm),(h.pa.ch c1 (no n2)).ch c2 (fun e=>d1 e.symm),(h.pl.ch c1 (no n3)).ch c2 (fun e=>d2 e.symm),B,(h.pg.ch c1 (no n5)).ch c2 (fun e=>d3 e.symm),(h.pd.ch c1 (no n6)).ch c2 (fun e=>d4 e.symm),(h.po.ch c1 (no n7)).ch c2 (fun e=>d5 e.symm),
  (h.ma.pres (c1.block _ h.ma.lt (no n8))).pres (c2.block _ (Nat.lt_of_lt_of_le h.ma.lt c1.size) a3),(h.ml.pres (c1.block _ h.ml.lt (no n9))).pres (c2.block _ (Nat.lt_of_lt_of_le h.ml.lt c1.size) l3),
  Hn.chE c2 fun b hb e=>by have:=(Hn.lt hb).1;omega,hoo.ch c2 (fun b hb e=>by have:=(hoo.lt hb).1;omega) fun b hb=>.inl (by rw[hb];exact hGw)⟩
theorem BcW.setO (h:BcW l V bm nm ba bl bw bg bd bo ma ml N G s vw vo w)(D:BcD bm ba bl bw bg bd bo ma ml N){vo':Value}{out:List (List Int)}(hg:w.grownBy w' vo.ownBlock)(Hn:OwX (bV 3) 35 N (fun b=>G b∨vw.ownBlock=some b) w' out vo')
  (hg2:w'.grownBy w2 (some bo)) (B:Blk w2 bo #[vo'] 39) (hGo:G bo):BcW l V bm nm ba bl bw bg bd bo ma ml N G { s with out:=out } vw vo' w2:=by
 obtain⟨n0,n1,n2,n3,n4,n5,n6,n7,n8,n9⟩:=D.n
 obtain⟨d1,d2,d3,d4,d5,d6⟩:=D.o
 have d7:=D.w.2.2.2.2.1
 have a6:=D.a.2.2.2.2.2.1
 have l6:=D.l.2.2.2.2.2.1
 have c1:Chg (fun b=>vo.ownBlock=some b) w w':=Chg.row hg
 have c2:Chg (fun b=>b=bo) w' w2:=(Chg.rfl' _ w').gr hg2 (.inl rfl)
 have lo:∀b,vo.ownBlock=some b→N≤b:=fun b hb=>(h.oo.lt hb).1
 have no:∀{b},b<N→¬vo.ownBlock=some b:=fun hb hs=>Nat.lt_irrefl _ (Nat.lt_of_lt_of_le hb (lo _ hs))
 have how:=(h.ow.chE c1 fun b hb hh=>h.ownNe hb hh)
 exact⟨(h.t.ch c1 (no n0)).ch c2 (fun e=>d6 e.symm),(h.m.pres (c1.block _ h.m.lt (no n1))).pres (c2.block _ (Nat.lt_of_lt_of_le h.m.lt c1.size) fun e=>d5 e.symm),(h.pa.ch c1 (no n2)).ch c2 (fun e=>d1 e.symm),(h.pl.ch c1 (no n3)).ch c2 (fun e=>d2 e.symm),(h.pw.ch c1 (no n4)).ch c2 (fun e=>d7 e),(h.pg.ch c1 (no n5)).ch c2 (fun e=>d3 e.symm),(h.pd.ch c1 (no n6)).ch c2 (fun e=>d4 e.symm),B,
  (h.ma.pres (c1.block _ h.ma.lt (no n8))).pres (c2.block _ (Nat.lt_of_lt_of_le h.ma.lt c1.size) a6),(h.ml.pres (c1.block _ h.ml.lt (no n9))).pres (c2.block _ (Nat.lt_of_lt_of_le h.ml.lt c1.size) l6),
  how.chE c2 fun b hb e=>by have:=(how.lt hb).1;omega,Hn.ch c2 (fun b hb e=>by have:=(Hn.lt hb).1;omega) fun b hb=>.inl (by rw[hb];exact hGo)⟩
end
def SBc (bw bo ma ml:Nat)(vw vo:Value)(b:Nat):Prop:=(b=bw∨b=bo∨b=ma∨b=ml)∨OWN vw vo b
structure BcJ (l:List (Int×BS))(V:BS)(bm nm ba bl bw bg bd bo ma ml N:Nat)(G:Nat→Prop)(W:World)(S0 O0 K:Nat→Prop)(b8 b9 id:Nat)(frm:Int)(s:BcS)(vw vo:Value)(w:World):Prop where
 h:BcW l V bm nm ba bl bw bg bd bo ma ml N G s vw vo w
 c:Chg S0 W w
 b8:Blk w b8 #[I (id:Nat)] 3
 b9:Blk w b9 #[I frm] 3
 own:∀b,OWN vw vo b→(O0 b∨W.heap.size≤b)∧¬K b
theorem BcJ.kp {l:List (Int×BS)}{V:BS}{bm nm ba bl bw bg bd bo ma ml N:Nat}{G:Nat→Prop}{W:World}{S0 O0 K:Nat→Prop}{b8 b9 id:Nat}{frm:Int}{s:BcS}{vw vo:Value}{B:Nat}{w w':World}(h:BcJ l V bm nm ba bl bw bg bd bo ma ml N G W S0 O0 K b8 b9 id frm s vw vo w)
  (D:BcD bm ba bl bw bg bd bo ma ml N) (k:Kp B w w') (hW:W.heap.size≤B) (hN:N≤B) (h8:b8<B) (h9:b9<B) (hK:∀b,aX B b→K b) (hG:∀b,aX B b→G b):BcJ l V bm nm ba bl bw bg bd bo ma ml N G W S0 O0 K b8 b9 id frm s vw vo w':=
 ⟨h.h.ch D k.chg (fun b hb=>Nat.le_trans hN hb.1) (fun b hb hh=>(h.own b hb).2 (hK b hh)) hG,h.c.kp k hW,h.b8.kp k (fun hh=>by have:=hh.1;omega),h.b9.kp k (fun hh=>by have:=hh.1;omega),h.own⟩
theorem a0O (w:World)(row:Option Nat):w.grownBy w row:=⟨rfl,rfl,rfl,Nat.le_refl _,fun _ _ _=>rfl⟩
theorem a0P {l:List (Int×BS)}{V:BS}{bm nm ba bl bw bg bd bo ma ml N c0:Nat}(D:BcD bm ba bl bw bg bd bo ma ml N)(hc0:c0≤2000)(hnm:nm≤2000)(hnV:∀i j:Nat,(lkS l (i:Int)).getLsbD j=true→V.getLsbD j=true) :
  ∀(f:Nat) (id:Nat) (frm:Int) (s:BcS) (vw vo:Value) (G:Nat→Prop) (W:World),(∀b,G b→b<W.heap.size)→(G bw∧G bo∧G ma∧G ml)→BcW l V bm nm ba bl bw bg bd bo ma ml N G s vw vo W→BcI V c0 s→V.getLsbD id=true→lkI s.la (id:Int)≤0→unv V s.la≤f →
  Calls Tryz.prog 61 #[I (id:Nat),I frm,ptr ba,ptr bl,ptr bw,ptr bg,ptr bd,ptr bo] W (fun en w'=>en=.returned (.tuple #[])∧∃vw' vo',Chg (SBc bw bo ma ml vw vo) W w'∧BcW l V bm nm ba bl bw bg bd bo ma ml N G (bcF (lkS l) f id frm s) vw' vo' w'∧∀b,OWN vw' vo' b→OWN vw vo b∨W.heap.size≤b):=by
 intro f
 induction f with
 | zero=>
  intro id frm s vw vo G W _ _ _ _ hid hi hu
  exfalso
  have hm:id∈(aj V).filter fun v:Nat=>decide (lkI s.la (v:Int)≤0):=List.mem_filter.2 ⟨aL.2 ⟨aK hid,hid⟩,decide_eq_true hi⟩
  have:=List.length_pos_of_mem hm
  rw[unv] at hu
  omega
 | succ f ih=>
  intro id frm s vw vo G W hG hGs H hI hid hi hu
  obtain⟨p1,p2⟩:=hI.push hid hi
  obtain⟨q1,q2,q3⟩:=mK hI hid hi
  have hal:=hI.al
  have hll:=hI.ll'
  have hwl:=hI.w
  have hid1:=aK hid
  have hwid:(Lit.int .i64 (id:Int)).wf=true:=bH (by omega) (by omega)
  have hwn:=bC s.way
  obtain⟨nb,hnb⟩:=eqX (lkS l)
  rw[← hnb] at hnV
  have dn:=D.n
  have dw:=D.w
  have do':=D.o
  have da:=D.a
  have dl:=D.l
  have hNW:N≤W.heap.size:=H.ow.base
  have ho8:∀b,OWN vw vo b→b<W.heap.size:=fun b hb=>hb.elim (fun h=>(H.ow.lt h).2) fun h=>(H.oo.lt h).2
  refine cO (args:=[I (id:Nat),I frm,ptr ba,ptr bl,ptr bw,ptr bg,ptr bd,ptr bo]) (As:=[E (I (id:Nat)),E (I frm),E (ptr ba),E (ptr bl),E (ptr bw),E (ptr bg),E (ptr bd),E (ptr bo)]) Tryz.func61 rfl Tryz.ntmps61 (Nat.le_of_ble_eq_true rfl) ?_ (fun a hf=>?_) (Nat.le_of_ble_eq_true rfl)
  ·exact cM rfl (cM rfl (cM rfl (cM rfl (cM rfl (cM rfl (cM rfl (cM rfl oL)))))))
  dsimp only[params,Nat.reduceAdd] at hf
  have e:=Ext.rfl' W
  refine seq <| ab <| tB hf rfl fun a b8 w v8 hv8 e' hb8 hs8 B8 hf=>?_
  obtain⟨H,e⟩:=up2 e' H e
  refine tB hf rfl fun a b9 w v9 hv9 e' hb9 hs9 B9 hf=>?_
  obtain⟨H,e,B8⟩:=up3 e' H e B8
  refine aa ?_
  cases hv8
  cases hv9
  replace B8:Blk w b8 #[I (id:Nat)] 3:=B8
  replace B9:Blk w b9 #[I frm] 3:=B9
  have n89:W.heap.size≤b8∧W.heap.size≤b9∧b8≠b9:=by omega
  obtain⟨S0,hS0⟩:=eqX (SBc bw bo ma ml vw vo)
  have c:Chg S0 W w:=e.chg _
  have sw:S0 bw:=by rw[hS0];exact .inl (.inl rfl)
  have so:S0 bo:=by rw[hS0];exact .inl (.inr (.inl rfl))
  have sa:S0 ma:=by rw[hS0];exact .inl (.inr (.inr (.inl rfl)))
  have sl:S0 ml:=by rw[hS0];exact .inl (.inr (.inr (.inr rfl)))
  have sO:∀b,OWN vw vo b→S0 b:=fun b hb=>by rw[hS0];exact .inr hb
  replace hf:=hf.kp [2,3,4,5,6,7,8,9]
  refine seq <| rgN 5 hf <| st (ld1 (v:=.map (some ma)) T43 rfl H.pa rfl) <| st (ld1 T3 rfl B8 rfl) <| st (ld1 (v:=.map (some ma)) T43 rfl H.pa rfl) <| st (a0N U43 rfl H.ma) <| st (add rfl rfl (by omega)) <| en fun a w e' hf=>?_
  obtain⟨H,c,B8,B9⟩:=up4 e' H c B8 B9
  replace hf:=hf.kp [2,3,4,5,6,7,8,9,12,13,16]
  refine dW (V:=iKV) (i:=(id:Int)) (c:=((s.la.length:Nat)+1:Int)) U43 hf rfl rfl rfl H.ma (by simp only[maxLen];omega) hwid (bH (by omega) (by omega)) fun w hg HM hf=>?_
  replace H:=H.putA D hg HM hGs.2.2.1
  replace c:=c.gr hg (.inl sa);replace B8:=B8.gr hg (by omega);replace B9:=B9.gr hg (by omega);clear hg HM
  refine aa ?_
  replace hf:=hf.kp [2,3,4,5,6,7,8,9]
  obtain⟨la1,hla1⟩:=eqX (aT s.la (id:Int) ((s.la.length:Nat)+1:Int))
  rw[← hla1] at H
  have hs1:bcP id s={ la:=la1,ll:=aT s.ll (id:Int) (lkI la1 (id:Int)),way:=s.way++[id],out:=s.out }:=by rw[hla1];rfl
  have hl1:0≤lkI la1 (id:Int)∧lkI la1 (id:Int)≤1025:=by have:=p1.ar (id:Int);rw[hs1] at this;exact this
  refine seq <| rgN 5 hf <| st (ld1 (v:=.map (some ml)) T43 rfl H.pl rfl) <| st (ld1 T3 rfl B8 rfl) <| st (ld1 (v:=.map (some ma)) T43 rfl H.pa rfl) <| st (ld1 T3 rfl B8 rfl) <| st (dz U43 rfl H.ma rfl hwid) <| en fun a w e' hf=>?_
  obtain⟨H,c,B8,B9⟩:=up4 e' H c B8 B9
  replace hf:=hf.kp [2,3,4,5,6,7,8,9,17,18,21]
  refine dW (V:=iKV) (i:=(id:Int)) (c:=lkI la1 (id:Int)) U43 hf rfl rfl rfl H.ml (by simp only[maxLen];omega) hwid (bH (by omega) (by omega)) fun w hg HM hf=>?_
  replace H:=H.putL D hg HM hGs.2.2.2
  replace c:=c.gr hg (.inl sl);replace B8:=B8.gr hg (by omega);replace B9:=B9.gr hg (by omega);clear hg HM
  refine aa ?_
  replace hf:=hf.kp [2,3,4,5,6,7,8,9]
  refine seq <| rgN 3 hf <| st (ld1 (v:=vw) T35 rfl H.pw rfl) <| st (ld1 T3 rfl B8 rfl) <| st (aW (e:=intE) (G:=GO G0 vw) U35 I3 rfl (by decide) rfl H.ow.avs (isI rfl)) <| en fun a w e' hf=>?_
  obtain⟨H,c,B8,B9⟩:=up4 e' H c B8 B9
  replace hf:=hf.kp [2,3,4,5,6,7,8,9,22,24]
  refine br U35 I3 rfl rfl hf (by decide) rfl H.ow (isR rfl) (by rw[hwn];simp only[List.length_singleton];omega) (by rw[hwn];simp only[List.length_singleton,maxLen];omega) fun a vw1 w' hg hat Hn hf=>?_
  have Bw:=H.pw.gro hg (fun h=>by have:=(H.ow.lt h).1;omega)
  have hsz1:=c.size
  have l8:=B8.lt
  have l9:=B9.lt
  replace hf:=hf.kp [2,3,4,5,6,7,8,9,25]
  refine aI T35 hf rfl rfl Hn.one Bw Nat.zero_lt_one fun w2 hg2 hsz Bw hf=>?_
  rw[show ae s.way++[(id:Int)]=ae (s.way++[id]) from (gw _ _).symm] at Hn
  replace H:=H.setW D hg hat Hn hg2 Bw hGs.1
  have ho1:∀b,vw1.ownBlock=some b→vw.ownBlock=some b∨W.heap.size≤b:=fun b hb=>by
   rcases hat with h|h
   ·exact .inl (by rw[← h];exact hb)
   ·rw[h] at hb;cases hb;exact .inr hsz1
  replace c:=(c.tr2 (Chg.row hg) fun b hb=>.inl (sO b (.inl hb))).gr hg2 (.inl sw)
  replace B8:=(B8.gro hg (fun h=>by have:=ho8 _ (.inl h);omega)).gr hg2 (by omega)
  replace B9:=(B9.gro hg (fun h=>by have:=ho8 _ (.inl h);omega)).gr hg2 (by omega)
  have ho1k:∀b,OWN vw1 vo b→(OWN vw vo b∨W.heap.size≤b)∧b≠b8∧b≠b9:=fun b hb=>by
   rcases hb with hb|hb
   ·rcases hat with h|h
    ·have hb':vw.ownBlock=some b:=by rw[← h];exact hb
     have:=ho8 b (.inl hb')
     exact⟨.inl (.inl hb'),by omega,by omega⟩
    ·rw[h] at hb;cases hb
     exact⟨.inr hsz1,by omega,by omega⟩
   ·have:=ho8 b (.inr hb)
    exact⟨.inl (.inr hb),by omega,by omega⟩
  generalize w2=w at *
  refine aa ?_
  replace H:BcW l V bm nm ba bl bw bg bd bo ma ml N G (bcP id s) vw1 vo w:=by rw[hs1];exact H
  obtain⟨s1,hs1'⟩:∃s1,s1=bcP id s:=⟨_,rfl⟩
  rw[← hs1'] at H p1 p2 q1 q2 q3
  have hq0:BcQ V c0 s1 s1:=BcQ.rfl' p1
  obtain⟨Nb,hNb⟩:=eqX (nb (id:Int))
  obtain⟨Nz,hNz⟩:=eqX w.heap.size
  have hlk:lkS l (id:Int)=Nb:=by rw[hNb,hnb]
  replace hf:=hf.kp [2,3,4,5,6,7,8,9]
  have hdv:=MpR.dvE H.m (Nat.le_refl nm) (G:=G0) (fun h=>h)
  refine seq <| rgN 5 hf <| st (fA U79 rfl T77 rfl) <| st (ld1 (v:=.map (some bm)) T77 rfl H.pg (bI _ _)) <| st (ld1 T3 rfl B8 rfl) <| st ((lkM (l:=l) (i:=(id:Int)) U77 bW (isE rfl hdv) rfl hwid).eq (congrArg ac hlk)) <| st (ak (A:=cN Nz Nb) cV rfl (fun v w' he h=>by cases h;exact Calls.mono (cZ _ w') (fun en w2 ⟨u,h1,h2,b',h3,h4,h5⟩=>⟨u,h1,h2,b',by have:=he.size;omega,h4,h5⟩))) ?_
  refine en fun a w e' hf=>?_
  obtain⟨H,c,hdv,B8,B9⟩:=up5 e' H c hdv B8 B9
  refine aa ?_
  obtain⟨vv,⟨b30,h30,rfl,BS⟩,hf⟩:=hf.fix 30 rfl
  replace hf:=hf.kp [2,3,4,5,6,7,8,9,30]
  have hBW:W.heap.size≤w.heap.size:=c.size
  have l8:=B8.lt
  have l9:=B9.lt
  obtain⟨K,hK⟩:∃K:Nat→Prop,K=fun b=>b=b8∨b=b9∨aX w.heap.size b:=⟨_,rfl⟩
  obtain⟨G1,hG1⟩:∃G1:Nat→Prop,G1=fun b=>G b∨aX w.heap.size b:=⟨_,rfl⟩
  have hKh:∀b,aX w.heap.size b→K b:=fun b hb=>by rw[hK];exact .inr (.inr hb)
  have hGh:∀b,aX w.heap.size b→G1 b:=fun b hb=>by rw[hG1];exact .inr hb
  have hGG:∀b,G b→G1 b:=fun b hb=>by rw[hG1];exact .inl hb
  have hGs1:G1 bw∧G1 bo∧G1 ma∧G1 ml:=⟨hGG _ hGs.1,hGG _ hGs.2.1,hGG _ hGs.2.2.1,hGG _ hGs.2.2.2⟩
  have hKl:∀b,K b→b<w.heap.size+3:=fun b hb=>by
   rw[hK] at hb
   rcases hb with hb|hb|hb
   ·omega
   ·omega
   ·exact hb.2
  have hG1l:∀b,G1 b→b<w.heap.size+3:=fun b hb=>by
   rw[hG1] at hb
   rcases hb with hb|hb
   ·have:=hG b hb;omega
   ·exact hb.2
  have hK8:K b8∧K b9:=by rw[hK];exact⟨.inl rfl,.inr (.inl rfl)⟩
  have hJ0:BcJ l V bm nm ba bl bw bg bd bo ma ml N G1 W S0 (OWN vw vo) K b8 b9 id frm s1 vw1 vo w:=⟨H.weak fun b hb hh=>by
    rw[hG1] at hh
    rcases hh with hh|hh
    ·exact hh
    ·have:=hh.1;omega,c,B8,B9,fun b hb=>⟨(ho1k b hb).1,fun hh=>by
    rw[hK] at hh
    have h1:=ho1k b hb
    have h2:b<w.heap.size:=hb.elim (fun h=>(H.ow.lt h).2) fun h=>(H.oo.lt h).2
    rcases hh with hh|hh|hh
    ·exact h1.2.1 hh
    ·exact h1.2.2 hh
    ·have:=hh.1;omega⟩⟩
  have hNB:N≤w.heap.size:=H.ow.base
  refine blk <| db (S:=Nb) hf rfl BS (by decide) (fun sl w1=>∃vw1 vo1,BcJ l V bm nm ba bl bw bg bd bo ma ml N G1 W S0 (OWN vw vo) K b8 b9 id frm (sl.foldl (bcT (bcF nb f) id frm) s1) vw1 vo1 w1∧BcQ V c0 s1 (sl.foldl (bcT (bcF nb f) id frm) s1)) (fun _ _=>False) (fun sl w1 ⟨_,_,h,_⟩=>h.h.t)
   ⟨vw1,vo,hJ0,hq0⟩ (fun sl w1 w2 ⟨v1,v2,h,hq⟩ hs k=>⟨v1,v2,h.kp D k hBW hNB l8 l9 hKh hGh,hq⟩) (fun _ _ _ h=>h.elim) ?_ ?_ (fun _ _ _ _ _ _ h=>h.elim)
  ·intro lp sl' x rest a1 w1 hs hJ hlw hf
   have hxV:V.getLsbD x=true:=hnV id x (by rw[← hNb];exact (aL.1 (by rw[hs];simp)).2)
   have hx1024:x<1024:=aK hxV
   have hwx:(Lit.int .i64 (x:Int)).wf=true:=bH (by omega) (by omega)
   generalize hBz:w.heap.size=Bz at *
   refine ab <| tA hf rfl fun a hf=>aa <| ⟨Kh.rfl' _ _,fun w3 k3 hsz3=>?_⟩
   obtain⟨vx,vy,hJ,hq⟩:=hJ
   have hJ3:=hJ.kp D k3 hBW hNB l8 l9 hKh hGh
   have hw3:Bz+3≤w3.heap.size:=by omega
   replace hf:=hf.pure w3
   obtain⟨H,c,B8,B9,hown⟩:=hJ3
   have kh:=Kh.rfl' Bz w3
   have hstep:((sl'++[x]).foldl (bcT (bcF nb f) id frm) s1)=bcT (bcF nb f) id frm (sl'.foldl (bcT (bcF nb f) id frm) s1) x:=by rw[List.foldl_append];rfl
   obtain⟨sx,hsx⟩:=eqX (sl'.foldl (bcT (bcF nb f) id frm) s1)
   rw[← hsx] at H hq hstep
   obtain⟨tgt,htgt⟩:=eqX (bcT (bcF nb f) id frm sx x)
   have fin:∀v1 v2 w1,BcJ l V bm nm ba bl bw bg bd bo ma ml N G1 W S0 (OWN vw vo) K b8 b9 id frm tgt v1 v2 w1→BcQ V c0 s1 tgt→∃v1 v2,BcJ l V bm nm ba bl bw bg bd bo ma ml N G1 W S0 (OWN vw vo) K b8 b9 id frm ((sl'++[x]).foldl (bcT (bcF nb f) id frm) s1) v1 v2 w1∧BcQ V c0 s1 ((sl'++[x]).foldl (bcT (bcF nb f) id frm) s1):=fun v1 v2 w1 h1 h2=>⟨v1,v2,by rw[hstep,← htgt];exact⟨h1,h2⟩⟩
   have hqs:BcQ V c0 s1 tgt:=by rw[htgt];exact mJ hid hq fun hh=>kb hnV f x (id:Int) sx hq.i hxV hh (by have:=jZ (V:=V) hq.m;omega)
   rw[bcT] at htgt
   have hqi:=hq.i
   have hal2:=hqi.al
   have hll2:=hqi.ll'
   have hwl2:=hqi.w
   have hol2:=hqi.o
   have hwn2:=bC sx.way
   have hgo:∀b,aX Bz b→¬(b=bw∨b=bo∨b=ma∨b=ml):=fun b hb hh=>by have:=hb.1;omega
   replace hf:=hf.kp [2,3,4,5,6,7,8,9,10]
   refine blk ?_
   by_cases hxf:(x:Int)=frm
   ·refine seq <| seq ?_
    refine rgN 3 hf <| st (mv rfl) <| st (ld1 T3 rfl B9 rfl) <| st ((eql rfl rfl).eq (congrArg Value.bool ((by rw[hxf];exact beq_self_eq_true _:((x:Int)==frm)=true)))) ?_
    refine en fun a w e' hf=>?_
    obtain⟨H,c⟩:=up2 e' H c
    replace kh:=kh.tr (Kh.ext e')
    obtain⟨B8,B9⟩:=up2 e' B8 B9
    refine aa <| ifT hf rfl ?_
    refine aC ?_
    rw[if_pos hxf] at htgt
    subst htgt
    exact⟨fin _ _ _ ⟨H,c,B8,B9,hown⟩ hq,kh⟩
   rw[if_neg hxf] at htgt
   refine seq <| seq ?_
   refine rgN 3 hf <| st (mv rfl) <| st (ld1 T3 rfl B9 rfl) <| st ((eql rfl rfl).eq (congrArg Value.bool ((beq_eq_false_iff_ne.2 hxf:((x:Int)==frm)=false)))) <| en fun a w e' hf=>?_
   obtain⟨H,c⟩:=up2 e' H c
   replace kh:=kh.tr (Kh.ext e')
   obtain⟨B8,B9⟩:=up2 e' B8 B9
   refine aa <| ifF hf rfl ?_
   refine ah ?_
   replace hf:=hf.kp [2,3,4,5,6,7,8,9,10]
   by_cases hpo:0<lkI sx.la (x:Int)
   ·refine seq <| seq ?_
    refine rgN 4 hf <| st (ld1 (v:=.map (some ma)) T43 rfl H.pa rfl) <| st (mv rfl) <| st (dz U43 rfl H.ma rfl hwx) <| st ((gtr rfl rfl).eq (congrArg Value.bool (decide_eq_true hpo))) <| en fun a w e' hf=>?_
    obtain⟨H,c⟩:=up2 e' H c
    replace kh:=kh.tr (Kh.ext e')
    obtain⟨B8,B9⟩:=up2 e' B8 B9
    refine aa <| ifT hf rfl ?_
    replace hf:=hf.kp [2,3,4,5,6,7,8,9,10]
    have hmn:0≤min (lkI sx.ll (id:Int)) (lkI sx.la (x:Int))∧min (lkI sx.ll (id:Int)) (lkI sx.la (x:Int))≤1025:=by have h1:=hqi.lr (id:Int);have h2:=hqi.ar (x:Int);omega
    refine seq <| rgN 9 hf <| st (ld1 (v:=.map (some ml)) T43 rfl H.pl rfl) <| st (ld1 T3 rfl B8 rfl) <| st (ld1 (v:=.map (some ml)) T43 rfl H.pl rfl) <| st (ld1 T3 rfl B8 rfl) <| st (dz U43 rfl H.ml rfl hwid) <| st (ld1 (v:=.map (some ma)) T43 rfl H.pa rfl) <| st (mv rfl) <| st (dz U43 rfl H.ma rfl hwx) <| st (min2 rfl rfl) <| en fun a w e' hf=>?_
    obtain⟨H,c⟩:=up2 e' H c
    replace kh:=kh.tr (Kh.ext e')
    obtain⟨B8,B9⟩:=up2 e' B8 B9
    replace hf:=hf.kp [2,3,4,5,6,7,8,9,10,39,40,47]
    refine dW (V:=iKV) (i:=(id:Int)) (c:=min (lkI sx.ll (id:Int)) (lkI sx.la (x:Int))) U43 hf rfl rfl rfl H.ml (by simp only[maxLen];omega) hwid (bH (by omega) (by omega)) fun w hg HM hf=>?_
    replace H:=H.putL D hg HM hGs1.2.2.2
    replace c:=c.gr hg (.inl sl);replace B8:=B8.gr hg (by omega);replace B9:=B9.gr hg (by omega);replace kh:=kh.tr (Kh.gr hg fun hh=>hgo _ hh (.inr (.inr (.inr rfl))));clear hg HM
    refine aa <| aC ?_
    rw[if_pos hpo] at htgt
    replace H:BcW l V bm nm ba bl bw bg bd bo ma ml N G1 tgt vx vy w:=by rw[htgt];exact H
    exact⟨fin _ _ _ ⟨H,c,B8,B9,hown⟩ hqs,kh⟩
   refine seq <| seq ?_
   refine rgN 4 hf <| st (ld1 (v:=.map (some ma)) T43 rfl H.pa rfl) <| st (mv rfl) <| st (dz U43 rfl H.ma rfl hwx) <| st ((gtr rfl rfl).eq (congrArg Value.bool (decide_eq_false hpo))) <| en fun a w e' hf=>?_
   obtain⟨H,c⟩:=up2 e' H c
   replace kh:=kh.tr (Kh.ext e')
   obtain⟨B8,B9⟩:=up2 e' B8 B9
   refine aa <| ifF hf rfl ?_
   refine ah ?_
   replace hf:=hf.kp [2,3,4,5,6,7,8,9,10]
   rw[if_neg hpo] at htgt
   have hu2:unv V sx.la≤f:=by have:=jZ (V:=V) hq.m;omega
   have r:=kb hnV f x (id:Int) sx hqi hxV (by omega) hu2
   refine seq <| rgN 2 hf <| st (ld1 (v:=vx) T35 rfl H.pw rfl) <| st (aB U35 (isE rfl H.ow.sl)) <| en fun a w e' hf=>?_
   obtain⟨H,c⟩:=up2 e' H c
   replace kh:=kh.tr (Kh.ext e')
   obtain⟨B8,B9⟩:=up2 e' B8 B9
   refine tA hf rfl fun a hf=>aa ?_
   rw[hwn2] at hf
   replace hf:=hf.kp [2,3,4,5,6,7,8,9,10,11]
   refine seq <| rgN 3 hf <| st (ld1 (v:=bcV ba bl bw bg bd bo) T95 rfl H.pd rfl) <| st (mv rfl) <| st (ld1 T3 rfl B8 rfl) <| en fun a w e' hf=>?_
   obtain⟨H,c⟩:=up2 e' H c
   replace kh:=kh.tr (Kh.ext e')
   obtain⟨B8,B9⟩:=up2 e' B8 B9
   replace hf:=hf.kp [2,3,4,5,6,7,8,9,10,11,50,51,52]
   refine gS (S:=SBc bw bo ma ml vx vy) (F:=fun w'=>∃vw' vo',BcW l V bm nm ba bl bw bg bd bo ma ml N G1 (bcF (lkS l) f x (id:Int) sx) vw' vo' w'∧∀b,OWN vw' vo' b→OWN vx vy b∨w.heap.size≤b) (A:=E (.tuple #[])) hf (by decide) ot rfl ?_ fun a w2 hc HF hf=>?_
   ·have e51:a.eval (.tmp 51)=I (x:Nat):=hf.opd (.tmp 51) _ rfl
    have e52:a.eval (.tmp 52)=I (id:Nat):=hf.opd (.tmp 52) _ rfl
    simp only[List.map_toArray,List.map_cons,List.map_nil,e51,e52]
    exact (ih x (id:Int) sx vx vy G1 _ (fun b hb=>by have h1:=hG1l b hb;have h2:=kh.size;omega) hGs1 H hqi hxV (by omega) hu2).mono fun en w' ⟨k1,v1,v2,k2,k3,k4⟩=>⟨_,k1,k2,rfl,v1,v2,k3,k4⟩
   obtain⟨vx2,vy2,H2,hnew⟩:=HF
   have hbs:∀b,b=b8∨b=b9∨aX Bz b→¬SBc bw bo ma ml vx vy b:=fun b hb hh=>by
    rcases hh with hh|hh
    ·rcases hb with hb|hb|hb
     ·omega
     ·omega
     ·have:=hb.1;omega
    ·have h1:=(hown b hh).2
     rcases hb with hb|hb|hb
     ·rw[hb] at h1;exact h1 hK8.1
     ·rw[hb] at h1;exact h1 hK8.2
     ·exact h1 (hKh b hb)
   have hwsz:=kh.size
   have hSS:∀b,SBc bw bo ma ml vx vy b→S0 b∨W.heap.size≤b:=fun b hb=>by
    rcases hb with hb|hb
    ·rcases hb with rfl|rfl|rfl|rfl
     ·exact .inl sw
     ·exact .inl so
     ·exact .inl sa
     ·exact .inl sl
    ·exact (hown b hb).1.imp (sO b) (fun h=>h)
   replace hown:∀b,OWN vx2 vy2 b→(OWN vw vo b∨W.heap.size≤b)∧¬K b:=fun b hb=>by
    rcases hnew b hb with h|h
    ·exact hown b h
    ·exact⟨.inr (by omega),fun hk=>by have:=hKl b hk;omega⟩
   replace c:=c.tr2 hc hSS
   replace B8:=B8.ch hc (hbs b8 (.inl rfl))
   replace B9:=B9.ch hc (hbs b9 (.inr (.inl rfl)))
   replace kh:=kh.tr (Kh.chg hc fun b hb hh=>hbs b (.inr (.inr hh)) hb)
   generalize w2=w at *
   refine aa ?_
   have H:=H2
   rw[← hnb] at H
   obtain⟨s2,hs2⟩:=eqX (bcF nb f x (id:Int) sx)
   rw[← hs2] at H htgt r
   have ri:=r.i
   have rll:=ri.ll'
   have ral:=ri.al
   have rwl:=ri.w
   have rol:=ri.o
   obtain⟨t2,ht2⟩:=r.w
   obtain⟨t1,ht1⟩:=hq.w
   have hbl:sx.way.length<s2.way.length:=by rw[ht2,List.length_append,List.length_cons];omega
   have hb1:0<sx.way.length:=by
    have:s1.way=s.way++[id]:=by rw[hs1'];rfl
    rw[ht1,this,List.length_append,List.length_append]
    simp only[List.length_singleton];omega
   obtain⟨beh,hbeh⟩:=eqX sx.way.length
   rw[← hbeh] at hbl hb1 htgt hf
   replace hf:=hf.kp [2,3,4,5,6,7,8,9,10,11]
   have hmn:0≤min (lkI s2.ll (id:Int)) (lkI s2.ll (x:Int))∧min (lkI s2.ll (id:Int)) (lkI s2.ll (x:Int))≤1025:=by have h1:=ri.lr (id:Int);have h2:=ri.lr (x:Int);omega
   refine seq <| rgN 9 hf <| st (ld1 (v:=.map (some ml)) T43 rfl H.pl rfl) <| st (ld1 T3 rfl B8 rfl) <| st (ld1 (v:=.map (some ml)) T43 rfl H.pl rfl) <| st (ld1 T3 rfl B8 rfl) <| st (dz U43 rfl H.ml rfl hwid) <| st (ld1 (v:=.map (some ml)) T43 rfl H.pl rfl) <| st (mv rfl) <| st (dz U43 rfl H.ml rfl hwx) <| st (min2 rfl rfl) <| en fun a w e' hf=>?_
   obtain⟨H,c⟩:=up2 e' H c
   replace kh:=kh.tr (Kh.ext e')
   obtain⟨B8,B9⟩:=up2 e' B8 B9
   replace hf:=hf.kp [2,3,4,5,6,7,8,9,10,11,54,55,62]
   refine dW (V:=iKV) (i:=(id:Int)) (c:=min (lkI s2.ll (id:Int)) (lkI s2.ll (x:Int))) U43 hf rfl rfl rfl H.ml (by simp only[maxLen];omega) hwid (bH (by omega) (by omega)) fun w hg HM hf=>?_
   replace H:BcW l V bm nm ba bl bw bg bd bo ma ml N G1 (bcM id x s2) vx2 vy2 w:=H.putL D hg HM hGs1.2.2.2
   replace c:=c.gr hg (.inl sl);replace B8:=B8.gr hg (by omega);replace B9:=B9.gr hg (by omega);replace kh:=kh.tr (Kh.gr hg fun hh=>hgo _ hh (.inr (.inr (.inr rfl))));clear hg HM
   refine aa ?_
   have mi:=ri.setM hid x
   have mway:(bcM id x s2).way=s2.way:=rfl
   have mout:(bcM id x s2).out=s2.out:=rfl
   obtain⟨s3,hs3⟩:=eqX (bcM id x s2)
   rw[← hs3] at H htgt mi mway mout
   have m3w:=mi.w
   have m3a:=mi.al
   have m3o:=mi.o
   have hwn3:=bC s3.way
   replace hf:=hf.kp [2,3,4,5,6,7,8,9,10,11]
   by_cases hcm:lkI s3.la (id:Int)≤lkI s3.ll (x:Int)
   ·rw[if_pos hcm] at htgt
    refine seq <| rgN 7 hf <| st (ld1 (v:=.map (some ml)) T43 rfl H.pl rfl) <| st (mv rfl) <| st (dz U43 rfl H.ml rfl hwx) <| st (ld1 (v:=.map (some ma)) T43 rfl H.pa rfl) <| st (ld1 T3 rfl B8 rfl) <| st (dz U43 rfl H.ma rfl hwid) <| st ((geq rfl rfl).eq (congrArg Value.bool (decide_eq_true hcm))) <| en fun a w e' hf=>?_
    obtain⟨H,c⟩:=up2 e' H c
    replace kh:=kh.tr (Kh.ext e')
    obtain⟨B8,B9⟩:=up2 e' B8 B9
    refine aa <| ifT hf rfl ?_
    replace hf:=hf.kp [2,3,4,5,6,7,8,9,10,11]
    have hsz0:=kh.size
    obtain⟨N5,hN5⟩:=eqX w.heap.size
    have hN5s:N5≤w.heap.size:=Nat.le_of_eq hN5
    have hN5b:Bz+3≤N5:=by omega
    have h8l:b8<N5∧b9<N5:=by rw[hN5];exact⟨B8.lt,B9.lt⟩
    have hgo2:∀b,GO (fun b=>G1 b∨vx2.ownBlock=some b) vy2 b→b<N5:=fun b hb=>by
     rw[hN5]
     rcases hb with (hb|hb)|hb
     ·have:=hG1l b hb;omega
     ·exact (H.ow.lt hb).2
     ·exact (H.oo.lt hb).2
    obtain⟨cl,hcl⟩:=eqX (ae (s3.way.drop beh))
    have hbl3:beh≤s3.way.length:=by rw[mway];omega
    have hcl1:(ae s3.way).drop beh=cl:=by rw[hcl,ae,ae,List.map_drop]
    have hcll:cl.length=s3.way.length - beh:=by rw[hcl,bC,List.length_drop]
    have hclne:cl≠[]:=fun h=>by rw[h] at hcll;simp only[List.length_nil] at hcll;rw[mway] at hcll;omega
    have hcl2:ae (s3.way.drop beh++[id])=cl++[(id:Int)]:=by rw[gw,hcl]
    obtain⟨C,hC⟩:=eqX ((cl++[(id:Int)]).foldl ins 0)
    have hout:s3.out++[elL ((ae (s3.way.drop beh++[id])).foldl ins 0)]=s3.out++[elL C]:=by rw[hcl2,← hC]
    have hdrop:(Dv (slE intE) G0 (ae s3.way)).p vx2 w:=H.ow.sl
    refine seq <| cF 11 [1,0,0,0,0,0,0] (Chg (fun b=>N5≤b)) (bS.chg _) (fun w=>True) (fun w w1 k h=>trivial) Mix.mix hf (by decide +kernel) (by decide +kernel) <| jf (fun w1 h1=>ld1 (v:=vy2) T39 rfl (H.po.ch h1 (by omega)) rfl) <| ja (ld1 (v:=vx2) T35 rfl H.pw rfl) <| ja (mv rfl) <| ja ((zb U35 S3 (isE rfl hdrop) rfl (by rw[hwn3];exact hbl3)).dv (hcl1)) ?_
    refine ja (ak (A:=OwA intE 3 N5 G0 cl) (B:=Dv (slE intE) G0 cl) ou rfl (fun u w he k=>(ru cl u w k (by omega) hclne).mono fun en w' ⟨u,k1,k2,k3⟩=>⟨u,k1,k2,OwR.low k3 (Nat.le_trans hN5s he.size) fun b hb=>hb.elim⟩)) <| ja (ld1 T3 rfl B8 rfl) <| ja (aW (e:=intE) (G:=G0) U35 I3 rfl (by decide) rfl (fun b hb=>hb.elim) (isI rfl)) <| jx (lE (G':=G0) U35 I3 rfl rfl rfl (isR rfl) (by simp only[List.length_singleton];omega) (by simp only[List.length_singleton,maxLen];omega) (fun _ _ _ _=>trivial) (fun _ _=>trivial)) ?_
    refine jp (fun w1 h1 HF1=>ak (A:=E (ac C)) (B:=OwA intE 3 N5 G0 (cl++[(id:Int)])) jj rfl (fun u w he k=>by rw[hC];exact jA (cl++[(id:Int)]) u w (OwR.sl k) (by rw[List.length_append,List.length_singleton];omega))) ?_
    refine jp (fun w1 h1 HF1=>ak (A:=Dv (bV 3) (GO (fun b=>G1 b∨vx2.ownBlock=some b) vy2) (elL C)) ji rfl (fun u w he k=>by cases k;exact (jO C w ((H.t.ch h1 (by omega)).ext he)).mono fun en w' ⟨z,k1,k2,k3⟩=>⟨z,k1,k2,OwR.own' k3 fun b hb hh=>by have q1:=hgo2 b hh;have q2:=(OwR.lt k3 hb).1;have q3:=h1.size;have q4:=he.size;omega⟩)) ?_
    refine jp (fun w1 h1 HF1=>aW (e:=bV 3) (G:=GO (fun b=>G1 b∨vx2.ownBlock=some b) vy2) U39 I35 rfl (by decide) rfl (fun b hb=>Nat.lt_of_lt_of_le (hgo2 b hb) (Nat.le_trans hN5s h1.size)) (isR rfl)) <| je <| fun a w hc HF hf=>?_
    try dsimp only[push] at hf
    have e':Ext _ w:=⟨hc.os,hc.tape,hc.output,hc.size,fun b hb=>hc.block b hb (by omega)⟩
    replace H:=H.ext e';replace c:=c.ext e';replace B8:=B8.ext e';replace B9:=B9.ext e';replace kh:=kh.tr (Kh.ext e')
    have hcsz:=c.size
    have l8:=B8.lt
    have l9:=B9.lt
    have hksz:=kh.size
    replace hf:=hf.kp [2,3,4,5,6,7,8,9,10,11,70,80]
    refine kP U39 I35 rfl rfl hf (by decide) rfl H.oo (isR rfl) (by simp only[List.length_singleton];omega) (by simp only[List.length_singleton,maxLen];omega) fun a vy3 w' hg hat Hn hf=>?_
    have Bo:=H.po.gro hg (fun h=>by have:=(H.oo.lt h).1;omega)
    replace hf:=hf.kp [2,3,4,5,6,7,8,9,10,11,81]
    refine aI T39 hf rfl rfl Hn.one Bo Nat.zero_lt_one fun w2 hg2 hsz Bo hf=>?_
    have hvy:∀b,vy2.ownBlock=some b→b≠b8∧b≠b9∧¬aX Bz b:=fun b hb=>by
     have h1:=(hown b (.inr hb)).2
     exact⟨fun h=>by rw[h] at h1;exact h1 hK8.1,fun h=>by rw[h] at h1;exact h1 hK8.2,fun h=>h1 (hKh b h)⟩
    have hown3:∀b,OWN vx2 vy3 b→(OWN vw vo b∨W.heap.size≤b)∧¬K b:=fun b hb=>by
     rcases hb with hb|hb
     ·exact hown b (.inl hb)
     ·rcases hat with h|h
      ·exact hown b (.inr (by rw[← h];exact hb))
      ·rw[h] at hb;cases hb
       exact⟨.inr hcsz,fun hk=>by have:=hKl _ hk;omega⟩
    replace H:BcW l V bm nm ba bl bw bg bd bo ma ml N G1 { s3 with out:=s3.out++[elL C] } vx2 vy3 w2:=H.setO D hg Hn hg2 Bo hGs1.2.1
    replace c:=(c.tr2 (Chg.row hg) fun b hb=>(hown b (.inr hb)).1.imp (sO b) (fun h=>h)).gr hg2 (.inl so)
    replace B8:=(B8.gro hg (fun h=>(hvy b8 h).1 rfl)).gr hg2 (by omega)
    replace B9:=(B9.gro hg (fun h=>(hvy b9 h).2.1 rfl)).gr hg2 (by omega)
    replace kh:=(kh.tr (Kh.gro hg fun b hb hh=>(hvy b hb).2.2 hh)).tr (Kh.gr hg2 fun hh=>hgo _ hh (.inr (.inl rfl)))
    have hown:=hown3
    generalize w2=w at *
    refine aa ?_
    replace hf:=hf.kp [2,3,4,5,6,7,8,9,10,11]
    obtain⟨bb,cc,hvx,hcc,HC⟩:=H.ow.cut (k:=beh) (by rw[hwn3];exact hbl3) hb1
    replace HC:OwR intE 3 N G0 w (ae (s3.way.take beh)) (.slice (some ⟨bb,0,none⟩) beh cc):=by rw[ae,List.map_take];exact HC
    have hbc:beh≤cc:=by rw[hwn3] at hcc;omega
    refine rgN 3 hf <| st ((ld1 (v:=vx2) T35 rfl H.pw rfl).eq (hvx)) <| st (mv rfl) <| st (lP U35 S3 rfl rfl hbc) <| en fun a w e' hf=>?_
    obtain⟨H,c⟩:=up2 e' H c
    replace kh:=kh.tr (Kh.ext e')
    obtain⟨HC,B8,B9⟩:=up3 e' HC B8 B9
    replace hf:=hf.kp [2,3,4,5,6,7,8,9,10,11,84]
    refine aI T35 hf rfl rfl rfl H.pw Nat.zero_lt_one fun w2 hg2 hsz Bw hf=>?_
    replace H:BcW l V bm nm ba bl bw bg bd bo ma ml N G1 { s3 with out:=s3.out++[elL C],way:=s3.way.take beh } (.slice (some ⟨bb,0,none⟩) beh cc) vy3 w2:=H.setW D (a0O w _) (.inl (by rw[hvx];rfl)) HC hg2 Bw hGs1.1
    replace c:=c.gr hg2 (.inl sw)
    replace B8:=B8.gr hg2 (by omega)
    replace B9:=B9.gr hg2 (by omega)
    replace kh:=kh.tr (Kh.gr hg2 fun hh=>hgo _ hh (.inl rfl))
    refine aa ?_
    simp only[Exit.inBlock]
    replace htgt:tgt={ s3 with out:=s3.out++[elL C],way:=s3.way.take beh }:=by rw[htgt,bcC,hout]
    rw[← htgt] at H
    exact⟨fin _ _ _ ⟨H,c,B8,B9,fun b hb=>hown b (by rw[hvx];exact hb)⟩ hqs,kh⟩
   ·rw[if_neg hcm] at htgt
    refine seq <| rgN 7 hf <| st (ld1 (v:=.map (some ml)) T43 rfl H.pl rfl) <| st (mv rfl) <| st (dz U43 rfl H.ml rfl hwx) <| st (ld1 (v:=.map (some ma)) T43 rfl H.pa rfl) <| st (ld1 T3 rfl B8 rfl) <| st (dz U43 rfl H.ma rfl hwid) <| st ((geq rfl rfl).eq (congrArg Value.bool (decide_eq_false hcm))) <| en fun a w e' hf=>?_
    obtain⟨H,c⟩:=up2 e' H c
    replace kh:=kh.tr (Kh.ext e')
    obtain⟨B8,B9⟩:=up2 e' B8 B9
    refine aa <| ifF hf rfl ?_
    refine ah ?_
    rw[← htgt] at H
    exact⟨fin _ _ _ ⟨H,c,B8,B9,hown⟩ hqs,kh⟩
  ·intro a' w' hf' hJ hsz hDn
   simp only[Exit.inBlock,↓reduceIte,Exit.then]
   obtain⟨vx,vy,⟨H,c,B8,B9,hown⟩,hq⟩:=hJ
   have hD:Ds [w.heap.size] w':=(Ds.nil w').cons hDn (by simp)
   have hf:FrD 85 (bL [w.heap.size]) a' w' []:=hf'.keep []
   refine wB rfl hf hD ⟨rfl,vx,vy,?_,?_,fun b hb=>(hown b hb).1⟩
   ·refine (c.tr2 (dU [w.heap.size] w') fun b hb=>.inr (by rw[List.mem_singleton] at hb;omega)).to fun b _ hb=>by rw[hS0] at hb;exact hb
   ·rw[show bcF (lkS l) (f+1) id frm s=(aj Nb).foldl (bcT (bcF nb f) id frm) s1 by rw[← hnb,bcF,← hNb,← hs1']]
    refine (H.ch D (dU [w.heap.size] w') (fun b hb=>by rw[List.mem_singleton] at hb;omega) (fun b hb hh=>(hown b hb).2 (hKh b (by rw[List.mem_singleton] at hh;rw[hh];exact⟨Nat.le_refl _,by omega⟩))) fun b hb=>hGh b (by rw[List.mem_singleton] at hb;rw[hb];exact⟨Nat.le_refl _,by omega⟩)).weak fun b _ hb=>hGG b hb
end Go.Mono
namespace Go.Mono
open Go Go.Proofs Go.RowKit Go.Gr Go.Shelf Go.Sort
open Go.MonoD (aS cmpI SlC)
theorem fK (x y:Int):(x<y∧cmpI x y = -1)∨(y<x∧cmpI x y=1)∨(x=y∧cmpI x y=0):=by
 rw[cmpI]
 by_cases h:x<y
 ·exact .inl ⟨h,if_pos h⟩
 ·rw[if_neg h]
  by_cases h2:y<x
  ·exact .inr (.inl ⟨h2,if_pos h2⟩)
  ·exact .inr (.inr ⟨by omega,if_neg h2⟩)
theorem si:∀xs:List Int,aS xs xs=0
 | []=>rfl
 | x::xs=>by
  have h:cmpI x x=0:=by rcases fK x x with h|h|h <;> omega
  rw[aS,if_neg (by rw[h];exact fun h=>h rfl)];exact si xs
theorem kc:∀xs ys:List Int,aS xs ys=0→xs=ys
 | [],[],_=>rfl
 | [],_::_,h=>by cases h
 | _::_,[],h=>by cases h
 | x::xs,y::ys,h=>by
  rw[aS] at h
  rcases fK x y with ⟨_,h2⟩|⟨_,h2⟩|⟨h1,h2⟩
  ·rw[h2] at h;cases h
  ·rw[h2] at h;cases h
  ·rw[if_neg (by rw[h2];exact fun h=>h rfl)] at h
   rw[h1,kc xs ys h]
theorem gI:∀xs ys:List Int,aS ys xs = -aS xs ys
 | [],[]=>rfl
 | [],_::_=>rfl
 | _::_,[]=>rfl
 | x::xs,y::ys=>by
  rw[aS,aS]
  rcases fK x y with ⟨h1,h2⟩|⟨h1,h2⟩|⟨h1,h2⟩ <;> rcases fK y x with ⟨h3,h4⟩|⟨h3,h4⟩|⟨h3,h4⟩ <;> first|omega|(rw[h2,h4];rfl)|skip
  rw[if_neg (by rw[h4];exact fun h=>h rfl),if_neg (by rw[h2];exact fun h=>h rfl)]
  exact gI xs ys
theorem ke:∀xs ys zs:List Int,aS xs ys<0→aS ys zs≤0→aS xs zs<0
 | [],[],zs,h,_=>absurd h (show ¬(0:Int)<0 by decide)
 | [],_::_,[],_,h=>absurd h (show ¬(1:Int)≤0 by decide)
 | [],_::_,_::_,_,_=>(show (-1:Int)<0 by decide)
 | _::_,[],_,h,_=>absurd h (show ¬(1:Int)<0 by decide)
 | x::xs,y::ys,[],_,h=>absurd h (show ¬(1:Int)≤0 by decide)
 | x::xs,y::ys,z::zs,h,h'=>by
  rw[aS] at h h' ⊢
  rcases fK x y with ⟨a1,a2⟩|⟨a1,a2⟩|⟨a1,a2⟩ <;> rcases fK y z with ⟨b1,b2⟩|⟨b1,b2⟩|⟨b1,b2⟩ <;> rcases fK x z with ⟨c1,c2⟩|⟨c1,c2⟩|⟨c1,c2⟩ <;> first
   | omega
   | (rw[a2] at h;exact absurd h (by decide))
   | (rw[b2] at h';exact absurd h' (by decide))
   | (rw[c2];decide)
   | (rw[if_neg (by rw[a2];exact fun h=>h rfl)] at h;rw[if_neg (by rw[b2];exact fun h=>h rfl)] at h';rw[if_neg (by rw[c2];exact fun h=>h rfl)];exact ke xs ys zs h h')
def lxs (out:List (List Int))(i:Nat):List Int:=(out[i]?).getD []
def lcf (out:List (List Int))(i j:Nat):Int:=aS (lxs out i) (lxs out j)
theorem a0Q (out:List (List Int)):SWO (ltOf (lcf out)):=by
 refine⟨fun x=>?_,fun x y z h1 h2=>?_,fun x y z h1 h2=>?_⟩
 ·exact decide_eq_false (by rw[lcf,si];decide)
 ·exact decide_eq_true (ke _ _ _ (of_decide_eq_true h1) (by have:=of_decide_eq_true h2;rw[lcf] at this;omega))
 ·refine decide_eq_false fun h=>?_
  have h1':=of_decide_eq_false h1
  have h2':=of_decide_eq_false h2
  rw[lcf] at h h1' h2'
  have n2:=gI (lxs out y) (lxs out z)
  by_cases hz:aS (lxs out y) (lxs out z)=0
  ·have:=kc _ _ hz
   rw[← this] at h;exact h1' h
  ·have:=ke (lxs out x) (lxs out z) (lxs out y) h (by omega)
   exact h1' this
theorem sj {e:Enc (List Int)}(ha:e.agg=false){G:Nat→Prop}{w:World}{xs:List Int}{c:List Value}(h:e.r G w xs c):∃v,c=[v]∧(Dv e G xs).p v w:=by
 have hl:=e.len h
 rw[e.k1 ha] at hl
 match c,hl with
 | [v],_=>exact⟨v,rfl,[v],h,by rw[Enc.pack,ha];rfl⟩
theorem mL {e:Enc (List Int)}(ha:e.agg=false){G:Nat→Prop}{w:World}:∀(out:List (List Int)) (cs:List Value),Cells e G w out cs→cs.length=out.length∧∀i (h:i<out.length),∃v,cs[i]?=some v∧(Dv e G (lxs out i)).p v w
 | [],cs,h=>by cases h;exact⟨rfl,fun i h=>absurd h (Nat.not_lt_zero _)⟩
 | xs::out,cs,h=>by
  obtain⟨c,d,rfl,h1,h2⟩:=h
  obtain⟨v,rfl,h3⟩:=sj ha h1
  obtain⟨q1,q2⟩:=mL ha out d h2
  refine⟨by simp[q1],fun i hi=>?_⟩
  cases i with
  | zero=>exact⟨v,rfl,h3⟩
  | succ i=>
   obtain⟨u,k1,k2⟩:=q2 i (by simpa using hi)
   exact⟨u,by simpa using k1,k2⟩
theorem mM {e:Enc (List Int)}(ha:e.agg=false){G:Nat→Prop}{w:World}:∀(out:List (List Int)) (vs:List Value),vs.length=out.length→(∀i (h:i<out.length),∃v,vs[i]?=some v∧(Dv e G (lxs out i)).p v w)→Cells e G w out vs
 | [],vs,h,_=>List.length_eq_zero_iff.1 h
 | xs::out,[],h,_=>by cases h
 | xs::out,v::vs,h,hh=>by
  obtain⟨u,k1,cs,k2,k4⟩:=hh 0 (by simp)
  obtain rfl:v=u:=by simpa using k1
  obtain⟨z,rfl,_⟩:=sj ha k2
  have k4':v=z:=by rw[k4,Enc.pack,ha];rfl
  subst k4'
  refine⟨[v],vs,rfl,k2,mM ha out vs (by simpa using h) fun i hi=>?_⟩
  obtain⟨u,m1,m2⟩:=hh (i+1) (by simpa using hi)
  exact⟨u,by simpa using m1,m2⟩
theorem a0R {e:Enc (List Int)}(ha:e.agg=false)(hsl:∀{G w xs v},(Dv e G xs).p v w→(Dv (slE intE) G xs).p v w)(hnil:∀{G w},(Dv e G []).p (.slice none 0 0) w){N:Nat}{G:Nat→Prop}{w:World}{out:List (List Int)}{v:Value}(Ho:OwX e 35 N G w out v)(hl:out.length≤100000)(hle:∀xs∈out,xs.length≤100000) :
  Calls Tryz.prog 66 #[v,.func (.func 67) #[] #[]] w fun en w'=>en=.returned (.tuple #[])∧Chg (fun b=>v.ownBlock=some b) w w'∧∃out',out'.Perm out∧out'.Pairwise (fun x y=>¬aS y x<0)∧OwX e 35 N G w' out' v:=by
 obtain⟨cs,⟨hlen,hv⟩,hcs⟩:=Ho.own
 rcases hv with ⟨rfl,hn⟩|⟨g0,cap,cur,rfl,hB,hheap,hcap,hmax,hcur,htake⟩
 ·have hx:out=[]:=List.length_eq_zero_iff.1 hn
  subst hx
  exact (AnyF.slices_SortFunc_none (L:={ Tryz.sortI with }) none 0 _ w).mono fun en w' ⟨h2,h3⟩=>by
   subst h3
   exact⟨h2,Chg.rfl' _ _,[],List.Perm.refl _,List.Pairwise.nil,OwX.nil _ _ Ho.base⟩
 ·have hk1:e.k=1:=e.k1 ha
  rw[hk1,Nat.mul_one] at hcur htake
  obtain⟨c1,c2⟩:=mL ha out cs hcs
  obtain⟨enc,henc⟩:=eqX (fun i=>(cs[i]?).getD (.slice none 0 0):Nat→Value)
  have hdat:∀i,(Dv e (GO G (.slice (some ⟨g0,0,none⟩) out.length cap)) (lxs out i)).p (enc i) w:=fun i=>by
   by_cases hi:i<out.length
   ·obtain⟨u,k1,k2⟩:=c2 i hi
    rw[henc]
    show (Dv _ _ _).p ((cs[i]?).getD _) w
    rw[k1];exact k2
   ·rw[henc,lxs,List.getElem?_eq_none (by omega)]
    show (Dv _ _ _).p ((cs[i]?).getD _) w
    rw[List.getElem?_eq_none (by omega)];exact hnil
  have hlx:∀i,(lxs out i).length≤100000:=fun i=>by
   rw[lxs]
   cases h:out[i]? with
   | none=>exact Nat.zero_le _
   | some xs=>exact hle xs (List.mem_of_getElem? h)
  have h1:OneCell enc:=fun i=>Dv.slOne (hsl (hdat i))
  obtain⟨d,hd⟩:=eqX (Array.range out.length:Array Nat)
  have hds:d.size=out.length:=by rw[hd];simp
  have hdj:∀j,j<out.length→d[j]! = j:=fun j hj=>by rw[hd,getElem!_pos _ j (by simpa using hj)];simp
  have hB1:Blk w g0 cur 35:=hheap
  have hH:Holds enc w g0 0 d:=by
   intro j hj
   rw[hds] at hj
   obtain⟨u,k1,k2⟩:=c2 j hj
   have hcj:cur[j]?=some (enc j):=by
    have:(cur.toList.take out.length)[j]?=cs[j]?:=by rw[htake]
    rw[List.getElem?_take,if_pos hj,Array.getElem?_toList,k1] at this
    rw[this,henc]
    show some u=some ((cs[j]?).getD _)
    rw[k1];rfl
   refine⟨by rw[Nat.zero_add,hB1.cell,hcj,hdj j hj],by simp[World.frozen?,hheap]⟩
  have hblk:g0<w.heap.size:=hB1.lt
  have hchg:∀(m:Nat) (dk:Array Nat) (os:Array Obj),Chg (fun b=>b=g0) w (sortWorld enc w g0 0 m dk os):=fun m dk os=>by
   refine⟨rfl,rfl,rfl,?_,fun b hb hne=>?_⟩
   ·unfold sortWorld grow putRow mapBlock
    simp[Sort.ahead]
   ·unfold sortWorld grow putRow mapBlock
    simp only
    rw[Array.getElem?_append_left (by simpa[Sort.ahead] using hb),Array.getElem?_modify,if_neg (fun h=>hne h.symm)]
    rfl
  have hdat2:∀i w',Chg (fun b=>b=g0) w w'→(Dv e (GO G (.slice (some ⟨g0,0,none⟩) out.length cap)) (lxs out i)).p (enc i) w':=fun i w' c=>Dv.ch (hdat i) c fun b hb=>by rw[hb];exact .inr rfl
  have hcmp:CmpLays1 Tryz.prog 67 #[] enc (lcf out) g0 0 d.size w:=fun m os dk hdk x y=>by
   have c:=hchg m dk os
   refine (MonoD.cmpZ_spec (lxs out x) (lxs out y) (enc x) (enc y) _ (MonoD.slC_of (hsl (hdat2 x _ c))) (MonoD.slC_of (hsl (hdat2 y _ c))) (hlx x)).mono ?_
   rintro en w' ⟨u,k1,k2,k3⟩
   cases k3
   exact⟨k1,k2.grown⟩
  have hsz2:d.size<4611686018427387904:=by rw[hds];omega
  have hS:=Any.slices_SortFunc Tryz.sortI enc h1 (lcf out) (a0Q out) 67 #[] g0 0 cap d w uW hcmp hH hblk hsz2
  rw[hds] at hS
  refine hS.mono ?_
  rintro en w' ⟨h2,d',n,os,hp,hs,rfl⟩
  have hds':d'.size=out.length:=by rw[← hds];exact hp.1
  have hperm:d'.toList.Perm (List.range out.length):=by
   have:=hp.2.2
   rw[Array.extract_eq_self_of_le (by rw[hds'];exact Nat.le_refl _),Array.extract_eq_self_of_le (by rw[hds];exact Nat.le_refl _)] at this
   rw[hd] at this
   simpa using this
  have c:=hchg n d' os
  refine⟨h2,c.to fun b _ hb=>by rw[hb];rfl,d'.toList.map (lxs out),?_,?_,?_⟩
  ·refine (hperm.map (lxs out)).trans <| List.Perm.of_eq (List.ext_getElem? fun i=>?_)
   rw[List.getElem?_map]
   by_cases hi:i<out.length
   ·rw[List.getElem?_range hi,Option.map_some,lxs,List.getElem?_eq_getElem hi];rfl
   ·rw[List.getElem?_eq_none (by simpa using hi),List.getElem?_eq_none (by omega)];rfl
  ·rw[List.pairwise_map,List.pairwise_iff_getElem]
   intro i j hi hj hij
   simp only[Array.length_toList] at hi hj
   have:=hs i j (Nat.zero_le _) hij (by rw[← hds'];exact hj)
   rw[getElem!_pos d' j hj,getElem!_pos d' i hi] at this
   have h3:=of_decide_eq_false this
   simpa[lcf] using h3
  ·have hh:(sortWorld enc w g0 0 n d' os).heap[g0]?=some (.cells (putCells enc 0 d' cur) 35 (0,0)):=by
    unfold sortWorld grow putRow mapBlock
    simp only
    rw[Array.getElem?_append_left (by simpa[Sort.ahead] using hblk),Array.getElem?_modify,if_pos rfl]
    have:(Sort.ahead w n).heap[g0]?=some (Obj.cells cur 35 (0,0)):=hheap
    rw[this];rfl
   have hlm:(d'.toList.map (lxs out)).length=out.length:=by rw[List.length_map,Array.length_toList,hds']
   refine⟨⟨d'.toList.map enc,⟨by rw[hlm,hk1,List.length_map,Array.length_toList,hds',Nat.mul_one],.inr ⟨g0,cap,putCells enc 0 d' cur,by rw[hlm],hB,hh,by rw[hlm];exact hcap,hmax,by rw[hk1,Nat.mul_one,putCells,Array.size_mapIdx,hcur],?_⟩⟩,?_⟩,Nat.le_trans Ho.base c.size⟩
   ·rw[hlm,hk1,Nat.mul_one]
    refine List.ext_getElem? fun i=>?_
    rw[List.getElem?_take,Array.getElem?_toList,List.getElem?_map,Array.getElem?_toList]
    by_cases hi:i<out.length
    ·have hid:i<d'.size:=by omega
     rw[if_pos hi,Array.getElem?_eq_getElem hid,putCells,Array.getElem?_mapIdx,Array.getElem?_eq_getElem (show i<cur.size by rw[hcur];omega),Option.map_some,if_pos ⟨Nat.zero_le _,by omega⟩,Nat.sub_zero,getElem!_pos d' i hid];rfl
    ·rw[if_neg hi,Array.getElem?_eq_none (by omega)];rfl
   ·refine mM ha _ _ (by simp) fun i hi=>?_
    rw[hlm] at hi
    have hid:i<d'.size:=by rw[hds'];exact hi
    refine⟨enc d'[i],by rw[List.getElem?_map,Array.getElem?_toList,Array.getElem?_eq_getElem hid];rfl,?_⟩
    have:lxs (d'.toList.map (lxs out)) i=lxs out d'[i]:=by
     rw[lxs,List.getElem?_map,Array.getElem?_toList,Array.getElem?_eq_getElem hid];rfl
    rw[this]
    exact hdat2 _ _ c
end Go.Mono
