/-
  Walks of functions and plain facts.
  No condition.
-/
import Derived.Test.YtbjangoghokneaaGreatDoorUF
import Derived.Test.YtbjangoghokneaaGreatDoorUC
import Derived.Test.YtbjangoghokneaaGreatDoorUD
import Derived.Test.YtbjangoghokneaaGreatDoorUE
set_option linter.unusedVariables false
set_option linter.unusedSimpArgs false
namespace Go.Mono
open Go Go.Proofs Go.RowKit Go.Gr
def odN (nb:Int→BS)(x:Nat):Nat→Nat→Nat→Nat
 | 0,_,bst=>bst
 | f+1,n,bst=>if n<bst then odN nb x f (n+2) (if (wkN nb x n).getLsbD x=true then n else bst) else bst
def odS (nb:Int→BS)(bst x:Nat):Nat:=odN nb x bst 3 bst
theorem odN_le (nb:Int→BS)(x:Nat):∀f n bst,odN nb x f n bst≤bst
 | 0,n,bst=>Nat.le_refl _
 | f+1,n,bst=>by
  rw[odN];split
  ·refine Nat.le_trans (odN_le nb x f _ _) ?_
   split <;> omega
  ·exact Nat.le_refl _
theorem odN_ge (nb:Int→BS)(x:Nat):∀f n bst k,k≤n→k≤bst→k≤odN nb x f n bst
 | 0,n,bst,k,h1,h2=>h2
 | f+1,n,bst,k,h1,h2=>by
  rw[odN];split
  ·refine odN_ge nb x f _ _ k (by omega) ?_
   split <;> omega
  ·exact h2
def odB (nb:Int→BS)(V:BS)(s:List Nat):Nat:=s.foldl (odS nb) (card V+1)
theorem odB_app (nb:Int→BS)(V:BS)(s:List Nat)(x:Nat):odB nb V (s++[x])=odS nb (odB nb V s) x:=by rw[odB,List.foldl_append];rfl
theorem odB_le (nb:Int→BS)(V:BS):∀s,odB nb V s≤card V+1:=by
 have key:∀(s:List Nat) (b:Nat),s.foldl (odS nb) b≤b:=by
  intro s
  induction s with
  | nil=>intro b;exact Nat.le_refl _
  | cons x s ih=>intro b;exact Nat.le_trans (ih _) (odN_le nb x _ _ _)
 exact fun s=>key s _
theorem odB_ge (nb:Int→BS)(V:BS):∀s,1≤odB nb V s:=by
 have key:∀(s:List Nat) (b:Nat),1≤b→1≤s.foldl (odS nb) b:=by
  intro s
  induction s with
  | nil=>intro b h;exact h
  | cons x s ih=>intro b h;exact ih _ (odN_ge nb x _ _ _ 1 (by omega) h)
 exact fun s=>key s _ (by omega)
def ocG (nb:Int→BS)(x:Nat):Nat→Nat→List Nat
 | 0,_=>[]
 | n+1,last=>(minOf (nb (last:Int) &&& wkN nb x (n+1))).getD 0::ocG nb x n ((minOf (nb (last:Int) &&& wkN nb x (n+1))).getD 0)
def ocL (nb:Int→BS)(V:BS)(n:Nat):List Nat→BS→Option (List Nat)
 | [],_=>none
 | x::r,left=>if (wkN (nbWi nb (V &&& left)) x n).getLsbD x=true then some (x::ocG (nbWi nb (V &&& left)) x (n - 1) x) else ocL nb V n r (del left (x:Int))
def oddF (nb:Int→BS)(V:BS):Option (List Nat):=if card V<odB nb V (elems V) then none else ocL nb V (odB nb V (elems V)) (elems V) V
theorem tup_any {A B:VA}{v:Value}{w:World}(h:(Tup [A,B]).p v w):(Tup [A,Any]).p v w:=by
 obtain⟨vs,h1,h2,h3⟩:=h
 refine⟨vs,h1,h2,fun i C hi=>?_⟩
 rcases i with _|_|i
 ·cases hi;exact h3 0 _ rfl
 ·cases hi;trivial
 ·simp at hi
theorem min_lt (S:BS):(minOf S).getD 0<1024:=by
 cases h:minOf S with
 | none=>decide
 | some k=>exact bit_lt (minOf_mem h)
structure OdJ (W:World)(nm bm:Nat)(l:List (Int×BS))(V:BS)(b2 b3 b4 n:Nat)(w:World):Prop where
 e:Ext W w
 t:Tab w
 m:MpR sKV w bm nm l
 p2:Blk w b2 #[.slice none 0 0] 35
 p3:Blk w b3 (adC V (.map (some bm))) 79
 p4:Blk w b4 #[I (n:Nat)] 3
theorem OdJ.kp {W:World}{nm bm:Nat}{l:List (Int×BS)}{V:BS}{b2 b3 b4 n:Nat}{B:Nat}{w w':World}(h:OdJ W nm bm l V b2 b3 b4 n w)(k:Kp B w w')(hW:W.heap.size≤B)(h0:0<B)(l2:b2<B)(l3:b3<B)(l4:b4<B)(lm:bm<B) :
  OdJ W nm bm l V b2 b3 b4 n w':=
 have no:∀{b},b<B→¬Hole B b:=fun h hh=>by have:=hh.1;omega
 ⟨h.e.kp k hW,h.t.kp k h0,h.m.pres (k.same bm h.m.lt (no lm)),h.p2.kp k (no l2),h.p3.kp k (no l3),h.p4.kp k (no l4)⟩
theorem sodd_spec {G:Nat→Prop}{N:Nat}(g:GT)(ok:Gr.Ok g)(v:Value)(W:World)(hT:Tab W)(h:(Dv (ptE (grE N)) G (some g)).p v W)(hl1:g.1.length≤100000)(hl2:g.2.length≤100000)(hN:N≤1000000) :
  Calls Tryz.prog 25 #[v] W (Post (CyA G0 (oddF (nbA g) (vset g.1))) W):=by
 have hgd:(Dv (ptE (grE N)) G0 (some g)).p v W:=Dv.weak h fun b _ hb=>hb.elim
 obtain⟨l,hl⟩:∃l,l=nbL g (elems (vset g.1)):=⟨_,rfl⟩
 have hnb:nbA g=lkS l:=by rw[hl,nbA]
 rw[hnb]
 obtain⟨V,hV⟩:∃V,V=vset g.1:=⟨_,rfl⟩
 rw[← hV]
 obtain⟨rr,hrr⟩:∃rr,rr=oddF (lkS l) V:=⟨_,rfl⟩
 rw[← hrr]
 rw[oddF] at hrr
 have hcV:=card_le_1024 V
 have hT0:=hT.lt
 refine enterM (args:=[v]) (As:=[E v]) Tryz.func25 rfl Tryz.ntmps25 (Nat.le_of_ble_eq_true rfl) ?_ (fun a hf=>?_) (Nat.le_of_ble_eq_true rfl)
 ·exact arg1 rfl
 dsimp only[params,Nat.reduceAdd] at hf
 have e:=Ext.rfl' W
 refine seq <| regn0 <| tL I35 hf fun a b2 w e' hb2 hs2 B2 hf=>?_
 have hle2:=Nat.le_trans e.size (Nat.le_of_eq hb2.symm)
 obtain⟨hT,e⟩:=up2 e' hT e
 refine tl_nil ?_
 replace B2:Blk w b2 #[.slice none 0 0] 35:=B2
 have n2:W.heap.size≤b2:=hle2
 replace hf:=hf.kp [0,2]
 have e0:=e
 refine seq <| rgN 2 hf <| st (mv rfl) <| st (call1 (A:=AdjA l V 1024) En46 rfl (fun v w he k=>by cases k;rw[hl,hV];exact ofA_spec g ok _ w (hT.ext he) (VA.st _ _ _ _ (Ext.tr e0 he) hgd) hl1 hl2 hN)) ?_
 refine en fun a w e' hf=>?_
 obtain⟨hT,e,B2⟩:=up3 e' hT e B2
 obtain⟨av,⟨mq,rfl,HV0⟩,hf⟩:=hf.opn 17 rfl
 obtain⟨cs,⟨bm0,nm0,rfl,_,hnm0,HM0⟩,hmq⟩:=HV0
 replace hmq:mq=.map (some bm0):=hmq
 subst hmq
 obtain⟨N1,hN1⟩:∃N1,N1=w.heap.size:=⟨_,rfl⟩
 have hN1s:N1≤w.heap.size:=Nat.le_of_eq hN1
 have hbm0:bm0<N1:=by rw[hN1];exact HM0.lt
 have hb2N:b2<N1:=by rw[hN1];exact B2.lt
 have hWN1:W.heap.size≤N1:=by rw[hN1];exact e.size
 replace hf:=hf.kp [2,17]
 refine tL I79 hf fun a b3 w e' hb3 hs3 B3 hf=>?_
 have hle3:=Nat.le_trans e.size (Nat.le_of_eq hb3.symm)
 have lo3_hN1s:=Nat.le_trans hN1s (Nat.le_of_eq hb3.symm)
 have lt3_B2:=B2.lt
 obtain⟨hT,HM0,hN1s,e,B2⟩:=up5 e' hT HM0 hN1s e B2
 have n3:N1≤b3:=lo3_hN1s
 refine tl_stW T79 hf rfl rfl (adC_one _ _) B3 rfl (adC_size _ _) fun w hg hsz B3 hf=>?_
 replace e:=e.gr hg (by omega);replace hT:=hT.gr hg (by omega);replace HM0:=HM0.gr hg (fun h=>by cases h;omega);replace B2:=B2.gr hg (by omega);replace hN1s:=Nat.le_trans hN1s hg.size;clear hg
 refine tl_nil ?_
 replace hf:=hf.kp [2,3]
 have l3':=B3.lt
 refine seq <| rgN 4 hf <| st (fA U79 rfl T76 rfl) <| st ((ldP T76 rfl B3 (by rw[adC_size];decide)).eq (congrArg Value.agg (adC_set V (.map (some bm0))))) ?_
 refine st (call1 (A:=E (I (card V))) (B:=E (setV V)) En78 rfl (fun v w he h=>by cases h;exact len_spec V w)) ?_
 refine st ((add rfl rfl (by omega)).eq (congrArg (Value.int .i64) (show (card V:Int)+1=((card V+1:Nat):Int) from rfl))) <| en fun a w e' hf=>?_
 obtain⟨hT,HM0,hN1s,e,B2,B3⟩:=up6 e' hT HM0 hN1s e B2 B3
 refine tL I3 hf fun a b4 w e' hb4 hs4 B4 hf=>?_
 have hle4:=Nat.le_trans e.size (Nat.le_of_eq hb4.symm)
 have lo4_hN1s:=Nat.le_trans hN1s (Nat.le_of_eq hb4.symm)
 have lt4_B2:=B2.lt
 have lt4_B3:=B3.lt
 obtain⟨hT,HM0,hN1s,e,B2,B3⟩:=up6 e' hT HM0 hN1s e B2 B3
 have n4:N1≤b4∧b3≠b4∧b2≠b4:=⟨lo4_hN1s,by omega,by omega⟩
 replace hf:=hf.kp [2,3,4,21]
 refine tl_st1 T3 hf rfl rfl rfl B4 Nat.zero_lt_one fun w hg hsz B4 hf=>?_
 replace e:=e.gr hg (by omega);replace hT:=hT.gr hg (by omega);replace HM0:=HM0.gr hg (fun h=>by cases h;omega);replace B2:=B2.gr hg (by omega);replace B3:=B3.gr hg (by omega);replace hN1s:=Nat.le_trans hN1s hg.size;clear hg
 refine tl_nil ?_
 replace B4:Blk w b4 #[I ((odB (lkS l) V []:Nat))] 3:=B4
 replace hf:=hf.kp [2,3,4]
 obtain⟨Nz,hNz⟩:∃Nz,Nz=w.heap.size:=⟨_,rfl⟩
 repeat refine seq ?_
 refine rgN 3 hf <| st (fA U79 rfl T76 rfl) <| st ((ldP T76 rfl B3 (by rw[adC_size];decide)).eq (congrArg Value.agg (adC_set V (.map (some bm0))))) ?_
 refine st (call1 (A:=SeqA Nz V) En62 rfl (fun v w' he h=>by cases h;exact Calls.mono (all_spec _ w') (fun en w2 ⟨u,h1,h2,b',h3,h4,h5⟩=>⟨u,h1,h2,b',by have:=he.size;omega,h4,h5⟩))) ?_
 refine en fun a w e' hf=>?_
 obtain⟨hT,HM0,hN1s,e,B2,B3,B4⟩:=up7 e' hT HM0 hN1s e B2 B3 B4
 refine tl_nil ?_
 obtain⟨vv,⟨b24,h24,rfl,BS⟩,hf⟩:=hf.fix 24 rfl
 replace hf:=hf.kp [2,3,4,24]
 obtain⟨nb,hnb'⟩:∃nb,nb=lkS l:=⟨_,rfl⟩
 rw[← hnb'] at hrr B4
 have hBW:W.heap.size≤w.heap.size:=e.size
 have h0w:0<w.heap.size:=hT.lt
 have l2:=B2.lt
 have l3:=B3.lt
 have l4:=B4.lt
 have lm:=HM0.lt
 refine blk <| range_all3 (S:=V) hf rfl BS (by decide) (fun s w1=>OdJ W nm0 bm0 l V b2 b3 b4 (odB nb V s) w1) (fun _ _=>False) (fun s w1 h=>h.t)
  ⟨e,hT,HM0,B2,B3,B4⟩ (fun s w1 w2 h hs k=>h.kp k hBW h0w l2 l3 l4 lm) (fun _ _ _ h=>h.elim) ?_ ?_ (fun _ _ _ _ _ _ h=>h.elim)
 ·intro lp s x rest a1 w1 hs hJ hlw hf
  have hxV:V.getLsbD x=true:=(mem_elems.1 (by rw[hs];simp)).2
  have hx1024:x<1024:=bit_lt hxV
  generalize hBz:w.heap.size=Bz at *
  refine regn0 <| tA hf rfl fun a hf=>tl_nil <| ⟨Kh.rfl' _ _,fun w3 k3 hsz3=>?_⟩
  have hJ3:=hJ.kp k3 hBW h0w l2 l3 l4 lm
  have hw3:Bz+3≤w3.heap.size:=by omega
  replace hf:=hf.pure w3
  obtain⟨e,hT,HM0,B2,B3,B4⟩:=hJ3
  have kh:=Kh.rfl' Bz w3
  have hsuc:=odB_app nb V s x
  obtain⟨b0,hb0⟩:∃b0,b0=odB nb V s:=⟨_,rfl⟩
  have hb0l:b0≤1025:=by rw[hb0];have:=odB_le nb V s;omega
  rw[← hb0] at B4 hsuc
  rw[odS] at hsuc
  have hdv:=HM0.dvE hnm0 (G:=G0) (fun h=>h)
  obtain⟨Nw,hNw⟩:∃Nw,Nw=w3.heap.size:=⟨_,rfl⟩
  have hNws:Nw≤w3.heap.size:=Nat.le_of_eq hNw
  have h4w:b4<Nw:=by rw[hNw];exact B4.lt
  replace hf:=hf.kp [2,3,4,5]
  refine blk <| seq <| rgN 4 hf <| st (ldW T79 rfl B3 (adC_size _ _)) <| st (mv rfl) <| st (ld1 (v:=I (b0:Nat)) T3 rfl B4 rfl) <| st (call3 (A:=OwA setE 76 Nw G0 (wkL nb x b0)) (B:=E (.agg (adC V (.map (some bm0))))) (C:=E (I (x:Nat))) (D:=E (I (b0:Nat))) En79 rfl rfl rfl (fun a b c w he k1 k2 k3=>by cases k1;cases k2;cases k3;rw[hnb'];exact (walks_spec l V (.map (some bm0)) x b0 w (hT.ext he) (Dv.ex hdv he) hx1024 (by omega)).mono fun en w' ⟨u,k1,k2,k3⟩=>⟨u,k1,k2,OwR.low k3 (Nat.le_trans hNws he.size) fun b hb=>hb.elim⟩)) ?_
  refine en fun a w e' hf=>?_
  obtain⟨hT,HM0⟩:=up2 e' hT HM0
  replace kh:=kh.tr (Kh.ext e')
  obtain⟨e,B2,B3,B4⟩:=up4 e' e B2 B3 B4
  refine tA hf rfl fun a hf=>tl_nil ?_
  replace hf:=hf.kp [2,3,4,5,6]
  obtain⟨wv,HW,hf⟩:=hf.opn 6 rfl
  replace HW:OwR setE 76 Nw G0 w (wkL nb x b0) wv:=HW
  refine seq <| regn0 <| tA hf rfl fun a hf=>tl_nil ?_
  replace hf:=hf.kp [2,3,4,5,6,7]
  refine blk (loopN (fun r0 a w=>∃(n bst:Nat),odN nb x r0 n bst=odB nb V (s++[x])∧bst≤n+r0∧bst≤b0∧n+2 * r0≤3000∧Fr 101 a w [(2,E (ptr b2)),(3,E (ptr b3)),(4,E (ptr b4)),(5,E (I (x:Nat))),(6,E wv),(7,E (I (n:Nat)))]∧OdJ W nm0 bm0 l V b2 b3 b4 bst w∧Kh Bz w3 w∧OwR setE 76 Nw G0 w (wkL nb x b0) wv) b0 ⟨3,b0,hsuc.symm,by omega,Nat.le_refl _,by omega,hf,⟨e,hT,HM0,B2,B3,B4⟩,kh,HW⟩ ?_)
  rintro r0 a w ⟨n,bst,hR,hbr,hb0',hn3,hf,⟨e,hT,HM0,B2,B3,B4⟩,kh,HW⟩
  repeat refine seq ?_
  refine rgN 3 hf <| st (mv rfl) <| st (ld1 (v:=I (bst:Nat)) T3 rfl B4 rfl) <| st (lss rfl rfl) <| en fun a w e' hf=>?_
  obtain⟨hT,HM0⟩:=up2 e' hT HM0
  replace kh:=kh.tr (Kh.ext e')
  obtain⟨HW,e,B2,B3,B4⟩:=up5 e' HW e B2 B3 B4
  refine tl_nil <| ifc hf rfl (fun hc=>wskip ?_) (fun hc=>wexit ?_)
  ·have hlt:n<bst:=by have:=of_decide_eq_true hc;omega
   obtain⟨f,rfl⟩:∃f,r0=f+1:=⟨r0 - 1,by omega⟩
   rw[odN,if_pos hlt] at hR
   refine seq <| blk ?_
   have hwn:=wkL_at nb x (m:=b0) (i:=n) (by omega)
   obtain⟨Sn,hSn⟩:∃Sn,Sn=wkN nb x n:=⟨_,rfl⟩
   rw[← hSn] at hwn hR
   have hbit:has Sn (x:Int)=Sn.getLsbD x:=by rw[Bool.eq_iff_iff];exact has_bit Sn x
   replace hf:=hf.kp [2,3,4,5,6,7]
   refine seq <| rgN 6 hf <| st (mv rfl) <| st (mv rfl) <| st (idxD U83 S76 (isE rfl HW.sl) rfl (by omega) (hwn)) <| st (ldS T76 (isR rfl)) <| st (mv rfl) <| st (call2 (A:=E (B (Sn.getLsbD x))) (B:=E (setV Sn)) (C:=E (I (x:Nat))) En75 rfl rfl (fun v u w he h h'=>by cases h;cases h';rw[← hbit];exact has_spec _ _ w)) ?_
   refine en fun a w e' hf=>?_
   obtain⟨hT,HM0⟩:=up2 e' hT HM0
   replace kh:=kh.tr (Kh.ext e')
   obtain⟨HW,e,B2,B3,B4⟩:=up5 e' HW e B2 B3 B4
   refine tl_nil ?_
   replace hf:=hf.kp [2,3,4,5,6,7,40]
   by_cases hh:Sn.getLsbD x=true
   ·rw[if_pos hh] at hR
    rw[hh] at hf
    refine ifc hf rfl (fun _=>?_) (fun h=>by cases h)
    refine rgN 1 hf <| st (mv rfl) <| en fun a w e' hf=>?_
    obtain⟨hT,HM0⟩:=up2 e' hT HM0
    replace kh:=kh.tr (Kh.ext e')
    obtain⟨HW,e,B2,B3,B4⟩:=up5 e' HW e B2 B3 B4
    replace hf:=hf.kp [2,3,4,5,6,7,41]
    refine tl_st1 T3 hf rfl rfl rfl B4 Nat.zero_lt_one fun w hg hsz B4 hf=>?_
    replace e:=e.gr hg (by omega);replace hT:=hT.gr hg (by omega);replace HM0:=HM0.gr hg (fun h=>by cases h;omega);replace B2:=B2.gr hg (by omega);replace B3:=B3.gr hg (by omega);replace kh:=kh.tr (Kh.gr hg (fun hh=>by have:=hh.1;omega));replace HW:=HW.grE hg (HW.neLt h4w);clear hg
    refine tl_nil ?_
    replace B4:Blk w b4 #[I (n:Nat)] 3:=B4
    replace hf:=hf.kp [2,3,4,5,6,7]
    refine rgN 2 hf <| st (mv rfl) <| st ((add rfl rfl (by omega)).eq (congrArg (Value.int .i64) (show (n:Int)+2=((n+2:Nat):Int) from rfl))) <| en fun a w e' hf=>?_
    obtain⟨hT,HM0⟩:=up2 e' hT HM0
    replace kh:=kh.tr (Kh.ext e')
    obtain⟨HW,e,B2,B3,B4⟩:=up5 e' HW e B2 B3 B4
    refine tA hf rfl fun a hf=>tl_nil ?_
    replace hf:=hf.kp [2,3,4,5,6,7]
    exact⟨f,Nat.lt_succ_self _,n+2,n,hR,by omega,by omega,by omega,hf,⟨e,hT,HM0,B2,B3,B4⟩,kh,HW⟩
   ·rw[if_neg hh] at hR
    rw[Bool.eq_false_iff.2 hh] at hf
    refine ifc hf rfl (fun h=>by cases h) (fun _=>?_)
    refine wskip ?_
    replace hf:=hf.kp [2,3,4,5,6,7]
    refine rgN 2 hf <| st (mv rfl) <| st ((add rfl rfl (by omega)).eq (congrArg (Value.int .i64) (show (n:Int)+2=((n+2:Nat):Int) from rfl))) <| en fun a w e' hf=>?_
    obtain⟨hT,HM0⟩:=up2 e' hT HM0
    replace kh:=kh.tr (Kh.ext e')
    obtain⟨HW,e,B2,B3,B4⟩:=up5 e' HW e B2 B3 B4
    refine tA hf rfl fun a hf=>tl_nil ?_
    replace hf:=hf.kp [2,3,4,5,6,7]
    exact⟨f,Nat.lt_succ_self _,n+2,bst,hR,by omega,by omega,by omega,hf,⟨e,hT,HM0,B2,B3,B4⟩,kh,HW⟩
  ·have hge:¬n<bst:=by have:=of_decide_eq_false hc;omega
   have hR2:odB nb V (s++[x])=bst:=by
    rw[← hR]
    cases r0 with
    | zero=>rfl
    | succ f=>rw[odN,if_neg hge]
   exact⟨⟨e,hT,HM0,B2,B3,by rw[hR2];exact B4⟩,kh⟩
 ·intro a' w' hf' hJ hsz hDn
  simp only[Exit.inBlock,↓reduceIte,Exit.then]
  have hD:Ds [w.heap.size] w':=(Ds.nil w').cons hDn (by simp)
  have hf:FrD 101 (marks [w.heap.size]) a' w' [(2,E (ptr b2)),(3,E (ptr b3)),(4,E (ptr b4))]:=hf'.keep [2,3,4]
  obtain⟨d1,hd1⟩:∃d1,d1=w.heap.size:=⟨_,rfl⟩
  rw[← hd1] at hD hf
  have hDW:∀d∈[d1],W.heap.size≤d:=fun d hd=>by rw[List.mem_singleton] at hd;omega
  obtain⟨e,hT,HM0,B2,B3,B4⟩:=hJ
  obtain⟨n,hn⟩:∃n,n=odB nb V (elems V):=⟨_,rfl⟩
  rw[← hn] at B4 hrr
  have hn1:1≤n:=by rw[hn];exact odB_ge nb V _
  have hn2:n≤1025:=by rw[hn];have:=odB_le nb V (elems V);omega
  have hd1w:d1<w'.heap.size:=hD.lt (by simp)
  have nb2:=hD.ne B2
  have nb3:=hD.ne B3
  have nb4:=hD.ne B4
  generalize w'=w at *
  by_cases hcn:card V<n
  ·rw[if_pos hcn] at hrr
   subst hrr
   repeat refine seq ?_
   refine rgG 5 Mix.mix hf <| st (ld1 (v:=I (n:Nat)) T3 rfl B4 rfl) <| st (fA U79 rfl T76 rfl) <| st ((ldP T76 rfl B3 (by rw[adC_size];decide)).eq (congrArg Value.agg (adC_set V (.map (some bm0))))) ?_
   refine st (call1 (A:=E (I (card V))) (B:=E (setV V)) En78 rfl (fun v w he h=>by cases h;exact len_spec V w)) ?_
   refine st ((gtr rfl rfl).eq (congrArg Value.bool (decide_eq_true (show (card V:Int)<(n:Int) by omega)))) <| en fun a w e' hf=>?_
   obtain⟨hT,HM0,e,B2,B3,B4,hD⟩:=up7 e' hT HM0 e B2 B3 B4 hD
   refine tl_nil <| ifc hf rfl (fun _=>?_) (fun h=>by cases h)
   replace hf:=hf.kp [2]
   refine seq <| regn0 <| tl_st1 T35 hf rfl rfl rfl B2 Nat.zero_lt_one fun w hg hsz B2 hf=>?_
   replace e:=e.gr hg (by omega)
   replace hD:=hD.gr hg nb2
   refine tl_nil <| wret <| retc1M rfl T35 hf rfl B2 hD ⟨_,rfl,e.shut hDW,rfl⟩
  rw[if_neg hcn] at hrr
  repeat refine seq ?_
  refine rgG 5 Mix.mix hf <| st (ld1 (v:=I (n:Nat)) T3 rfl B4 rfl) <| st (fA U79 rfl T76 rfl) <| st ((ldP T76 rfl B3 (by rw[adC_size];decide)).eq (congrArg Value.agg (adC_set V (.map (some bm0))))) ?_
  refine st (call1 (A:=E (I (card V))) (B:=E (setV V)) En78 rfl (fun v w he h=>by cases h;exact len_spec V w)) ?_
  refine st ((gtr rfl rfl).eq (congrArg Value.bool (decide_eq_false (show ¬(card V:Int)<(n:Int) by omega)))) <| en fun a w e' hf=>?_
  obtain⟨hT,HM0,e,B2,B3,B4,hD⟩:=up7 e' hT HM0 e B2 B3 B4 hD
  refine tl_nil <| ifc hf rfl (fun h=>by cases h) (fun _=>?_)
  refine wskip ?_
  replace hf:=hf.kp [2,3,4]
  obtain⟨N6,hN6⟩:∃N6,N6=w.heap.size:=⟨_,rfl⟩
  have hN6s:N6≤w.heap.size:=Nat.le_of_eq hN6
  have hl6:b2<N6∧b3<N6∧b4<N6∧bm0<N6∧d1<N6∧W.heap.size≤N6:=by have h1:=B2.lt;have h2:=B3.lt;have h3:=B4.lt;have h4:=HM0.lt;have h5:=e.size;have h6:=hD.lt (List.mem_singleton.2 rfl:d1∈[d1]);omega
  refine seq <| regn0 <| tP hf (fA U79 rfl T76 rfl) fun a w e' hf=>?_
  obtain⟨hT,HM0,hN6s,e,B2,B3,B4,hD⟩:=up8 e' hT HM0 hN6s e B2 B3 B4 hD
  refine tP hf ((ldP T76 rfl B3 (by rw[adC_size];decide)).eq (congrArg Value.agg (adC_set V (.map (some bm0))))) fun a w e' hf=>?_
  obtain⟨hT,HM0,hN6s,e,B2,B3,B4,hD⟩:=up8 e' hT HM0 hN6s e B2 B3 B4 hD
  refine tL I76 hf fun a b8 w e' hb8 hs8 B8 hf=>?_
  have hle8:=Nat.le_trans e.size (Nat.le_of_eq hb8.symm)
  have lo8_hN6s:=Nat.le_trans hN6s (Nat.le_of_eq hb8.symm)
  have lt8_B2:=B2.lt
  obtain⟨hT,HM0,hN6s,e,B2,B3,B4,hD⟩:=up8 e' hT HM0 hN6s e B2 B3 B4 hD
  have n8:N6≤b8:=lo8_hN6s
  have nd8:¬b8∈[d1]:=fun h=>by rw[List.mem_singleton] at h;omega
  replace hf:=hf.kp [2,3,4,8,48]
  refine tl_stW T76 hf rfl rfl (wordsC_one _) B8 rfl (setC_size _) fun w hg hsz B8 hf=>?_
  replace e:=e.gr hg (by omega);replace hT:=hT.gr hg (by omega);replace HM0:=HM0.gr hg (fun h=>by cases h;omega);replace B2:=B2.gr hg (by omega);replace B3:=B3.gr hg (by omega);replace B4:=B4.gr hg (by omega);replace hD:=hD.gr hg nd8;clear hg hN6s
  refine tl_nil ?_
  replace hf:=hf.kp [2,3,4,8]
  obtain⟨Nz,hNz⟩:∃Nz,Nz=w.heap.size:=⟨_,rfl⟩
  repeat refine seq ?_
  refine rgN 3 hf <| st (fA U79 rfl T76 rfl) <| st ((ldP T76 rfl B3 (by rw[adC_size];decide)).eq (congrArg Value.agg (adC_set V (.map (some bm0))))) ?_
  refine st (call1 (A:=SeqA Nz V) En62 rfl (fun v w' he h=>by cases h;exact Calls.mono (all_spec _ w') (fun en w2 ⟨u,h1,h2,b',h3,h4,h5⟩=>⟨u,h1,h2,b',by have:=he.size;omega,h4,h5⟩))) ?_
  refine en fun a w e' hf=>?_
  obtain⟨hT,HM0,e,B2,B3,B4,B8,hD⟩:=up8 e' hT HM0 e B2 B3 B4 B8 hD
  refine tl_nil ?_
  obtain⟨vv,⟨b51,h51,rfl,BS⟩,hf⟩:=hf.fix 51 rfl
  replace hf:=hf.kp [2,3,4,8,51]
  have hBW:W.heap.size≤w.heap.size:=e.size
  have h0w:0<w.heap.size:=hT.lt
  have l2:=B2.lt
  have l3:=B3.lt
  have l4:=B4.lt
  have l8:=B8.lt
  have lm:=HM0.lt
  have ld1':=hD.lt (List.mem_singleton.2 rfl:d1∈[d1])
  refine blk <| range_all3 (S:=V) hf rfl BS (by decide) (fun s w1=>(ScJ W nm0 bm0 l V b2 b3 b4 b8 n (.slice none 0 0) (delL V s) w1∧Ds [d1] w1)∧(∀rest,elems V=s++rest→ocL nb V n (elems V) V=ocL nb V n rest (delL V s)))
   (fun ex w1=>ex=.ret∧∃r out left,(ScJ W nm0 bm0 l V b2 b3 b4 b8 n r left w1∧Ds [d1] w1)∧ocL nb V n (elems V) V=some out∧out≠[]∧(Dv (slE intE) (fun b=>b<w.heap.size+3) (natE out)).p r w1) (fun s w1 h=>h.1.1.t)
   ⟨⟨⟨e,hT,HM0,B2,B3,B4,B8⟩,hD⟩,fun rest hr=>by rw[List.nil_append] at hr;rw[← hr];rfl⟩ (fun s w1 w2 h hs k=>⟨⟨h.1.1.kp k hBW h0w l2 l3 l4 l8 lm,h.1.2.ch k.chg fun d hd hh=>by rw[List.mem_singleton] at hd;have:=hh.1;omega⟩,h.2⟩)
   (fun ex w1 w2 ⟨q1,r,out,left,q2,q3,q4,q5⟩ hs k=>⟨q1,r,out,left,⟨q2.1.kp k hBW h0w l2 l3 l4 l8 lm,q2.2.ch k.chg fun d hd hh=>by rw[List.mem_singleton] at hd;have:=hh.1;omega⟩,q3,q4,Dv.ch q5 k.chg fun b hb=>hb.2⟩) ?_ ?_ ?_
  ·intro lp s x rest a1 w1 hs hJ hlw hf
   have hxV:V.getLsbD x=true:=(mem_elems.1 (by rw[hs];simp)).2
   have hx1024:x<1024:=bit_lt hxV
   generalize hBz:w.heap.size=Bz at *
   refine regn0 <| tA hf rfl fun a hf=>tl_nil <| ⟨Kh.rfl' _ _,fun w3 k3 hsz3=>?_⟩
   have hJ3:=hJ.1.1.kp k3 hBW h0w l2 l3 l4 l8 lm
   have hJd:=hJ.1.2.ch k3.chg fun d hd hh=>by rw[List.mem_singleton] at hd;have:=hh.1;omega
   have hJs:=hJ.2
   have hw3:Bz+3≤w3.heap.size:=by omega
   replace hf:=hf.pure w3
   obtain⟨e,hT,HM0,B2,B3,B4,B8⟩:=hJ3
   have hD:=hJd
   have kh:=Kh.rfl' Bz w3
   obtain⟨left,hleft⟩:∃left,left=delL V s:=⟨_,rfl⟩
   have hdl:delL V (s++[x])=del left (x:Int):=by rw[delL_app,hleft]
   have hsc:=hJs (x::rest) hs
   rw[← hleft] at B8 hsc
   rw[ocL] at hsc
   obtain⟨S7,hS7⟩:∃S7,S7=V &&& left:=⟨_,rfl⟩
   rw[← hS7] at hsc
   have hwi:=lk_wi l S7
   rw[← hnb'] at hwi
   obtain⟨nw,hnw⟩:∃nw,nw=nbWi nb S7:=⟨_,rfl⟩
   rw[← hnw] at hsc hwi
   have hdv:=HM0.dvE hnm0 (G:=G0) (fun h=>h)
   have nd8':=hD.ne B8
   replace hf:=hf.kp [2,3,4,8,9]
   refine blk <| seq <| rgN 3 hf <| st (ldW T79 rfl B3 (adC_size _ _)) <| st ((ldW T76 rfl B8 rfl).eq ((rfl:_=setV left))) <| st (call2 (A:=AdjA (wiL l S7) S7 1024) (B:=E (.agg (adC V (.map (some bm0))))) (C:=E (setV left)) En58 rfl rfl (fun a b w he k1 k2=>by cases k1;cases k2;rw[hS7];exact within_spec l V left (.map (some bm0)) w (hT.ext he) (Dv.ex hdv he))) ?_
   refine en fun a w e' hf=>?_
   obtain⟨hT,HM0⟩:=up2 e' hT HM0
   replace kh:=kh.tr (Kh.ext e')
   obtain⟨hw3,e,B2,B3,B4,B8,hD⟩:=up7 e' hw3 e B2 B3 B4 B8 hD
   obtain⟨av,⟨mq7,rfl,HV7⟩,hf⟩:=hf.opn 55 rfl
   obtain⟨cs7,⟨bm7,nm7,rfl,_,hnm7,HM7⟩,hmq7⟩:=HV7
   replace hmq7:mq7=.map (some bm7):=hmq7
   subst hmq7
   have hbn7:bm7≠b8:=HM7.neB B8
   have hbn2:bm7≠b2:=HM7.neB B2
   have nd8':=hD.ne B8
   obtain⟨N7,hN7⟩:∃N7,N7=w.heap.size:=⟨_,rfl⟩
   have hN7s:N7≤w.heap.size:=Nat.le_of_eq hN7
   have hl7:b2<N7∧b3<N7∧b4<N7∧b8<N7∧bm0<N7∧bm7<N7∧Bz+3≤N7∧d1<N7∧W.heap.size≤N7:=by have:=HM7.lt;have:=hD.lt (List.mem_singleton.2 rfl:d1∈[d1]);have:=e.size;have h1:=B2.lt;have h2:=B3.lt;have h3:=B4.lt;have h4:=B8.lt;have h5:=HM0.lt;omega
   replace hf:=hf.kp [2,3,4,8,9,55]
   refine tL I79 hf fun a b10 w e' hb10 hs10 B10 hf=>?_
   have lo10_hN7s:=Nat.le_trans hN7s (Nat.le_of_eq hb10.symm)
   have lt10_B2:=B2.lt
   obtain⟨hT,HM0⟩:=up2 e' hT HM0
   replace kh:=kh.tr (Kh.ext e')
   obtain⟨hw3,HM7,hN7s,e,B2,B3,B4,B8,hD⟩:=up9 e' hw3 HM7 hN7s e B2 B3 B4 B8 hD
   have n10:N7≤b10:=lo10_hN7s
   have nd10:¬b10∈[d1]:=fun h=>by rw[List.mem_singleton] at h;omega
   refine tl_stW T79 hf rfl rfl (adC_one _ _) B10 rfl (adC_size _ _) fun w hg hsz B10 hf=>?_
   replace e:=e.gr hg (by omega);replace hT:=hT.gr hg (by omega);replace HM0:=HM0.gr hg (fun h=>by cases h;omega);replace HM7:=HM7.gr hg (fun h=>by cases h;omega);replace B2:=B2.gr hg (by omega);replace B3:=B3.gr hg (by omega);replace B4:=B4.gr hg (by omega);replace B8:=B8.gr hg (by omega);replace hD:=hD.gr hg nd10;replace kh:=kh.tr (Kh.gr hg (fun hh=>by have:=hh.2;omega));clear hg hN7s
   refine tl_nil ?_
   have hl10:=B10.lt
   replace hf:=hf.kp [2,3,4,8,9,10]
   refine seq <| rgN 3 hf <| st ((ldW T76 rfl B8 rfl).eq ((rfl:_=setV left))) <| st (mv rfl) <| st (call2 (A:=E (setV (del left (x:Int)))) (B:=E (setV left)) (C:=E (I (x:Nat))) En59 rfl rfl (fun v u w he h h'=>by cases h;cases h';exact without_spec _ _ w)) ?_
   refine en fun a w e' hf=>?_
   obtain⟨hT,HM0,HM7⟩:=up3 e' hT HM0 HM7
   replace kh:=kh.tr (Kh.ext e')
   obtain⟨e,B2,B3,B4,B8,B10,hD⟩:=up7 e' e B2 B3 B4 B8 B10 hD
   refine tl_stW T76 hf rfl rfl (wordsC_one _) B8 (setC_size _) (setC_size _) fun w hg hsz B8 hf=>?_
   replace e:=e.gr hg (by omega);replace hT:=hT.gr hg (by omega);replace HM0:=HM0.gr hg (fun h=>by cases h;omega);replace HM7:=HM7.gr hg (fun h=>by cases h;omega);replace B2:=B2.gr hg (by omega);replace B3:=B3.gr hg (by omega);replace B4:=B4.gr hg (by omega);replace B10:=B10.gr hg (by omega);replace hD:=hD.gr hg nd8';replace kh:=kh.tr (Kh.gr hg (fun hh=>by have:=hh.1;omega));clear hg
   refine tl_nil ?_
   replace hf:=hf.kp [2,3,4,8,9,10]
   obtain⟨N8,hN8⟩:∃N8,N8=w.heap.size:=⟨_,rfl⟩
   have hN8s:N8≤w.heap.size:=Nat.le_of_eq hN8
   have hl8:N7≤N8∧b10<N8:=by rw[hN8];exact⟨by have:=B10.lt;omega,B10.lt⟩
   have hdv7:=HM7.dvE hnm7 (G:=G0) (fun h=>h)
   refine seq <| rgN 4 hf <| st (ldW T79 rfl B10 (adC_size _ _)) <| st (mv rfl) <| st (ld1 (v:=I (n:Nat)) T3 rfl B4 rfl) <| st (call3 (A:=OwA setE 76 N8 G0 (wkL nw x n)) (B:=E (.agg (adC S7 (.map (some bm7))))) (C:=E (I (x:Nat))) (D:=E (I (n:Nat))) En79 rfl rfl rfl (fun a b c w he k1 k2 k3=>by cases k1;cases k2;cases k3;rw[← hwi];exact (walks_spec (wiL l S7) S7 (.map (some bm7)) x n w (hT.ext he) (Dv.ex hdv7 he) hx1024 (by omega)).mono fun en w' ⟨u,k1,k2,k3⟩=>⟨u,k1,k2,OwR.low k3 (Nat.le_trans hN8s he.size) fun b hb=>hb.elim⟩)) ?_
   refine en fun a w e' hf=>?_
   obtain⟨hT,HM0,HM7⟩:=up3 e' hT HM0 HM7
   replace kh:=kh.tr (Kh.ext e')
   obtain⟨e,B2,B3,B4,B8,B10,hD⟩:=up7 e' e B2 B3 B4 B8 B10 hD
   refine tA hf rfl fun a hf=>tl_nil ?_
   replace hf:=hf.kp [2,3,4,8,9,10,11]
   obtain⟨wv,HW,hf⟩:=hf.opn 11 rfl
   replace HW:OwR setE 76 N8 G0 w (wkL nw x n) wv:=HW
   have hwn:=wkL_at nw x (m:=n) (i:=n) (Nat.le_refl n)
   obtain⟨Sn,hSn⟩:∃Sn,Sn=wkN nw x n:=⟨_,rfl⟩
   rw[← hSn] at hwn hsc
   have hbit:has Sn (x:Int)=Sn.getLsbD x:=by rw[Bool.eq_iff_iff];exact has_bit Sn x
   repeat refine seq ?_
   refine rgN 7 hf <| st (mv rfl) <| st (ld1 (v:=I (n:Nat)) T3 rfl B4 rfl) <| st (idxD U83 S76 (isE rfl HW.sl) rfl (by omega) (hwn)) <| st (ldS T76 (isR rfl)) <| st (mv rfl) <| st (call2 (A:=E (B (Sn.getLsbD x))) (B:=E (setV Sn)) (C:=E (I (x:Nat))) En75 rfl rfl (fun v u w he h h'=>by cases h;cases h';rw[← hbit];exact has_spec _ _ w)) ?_
   refine st (notp rfl) <| en fun a w e' hf=>?_
   obtain⟨hT,HM0,HM7⟩:=up3 e' hT HM0 HM7
   replace kh:=kh.tr (Kh.ext e')
   obtain⟨HW,e,B2,B3,B4,B8,B10,hD⟩:=up8 e' HW e B2 B3 B4 B8 B10 hD
   refine tl_nil ?_
   replace hf:=hf.keep [2,3,4,8,9,10,11,69]
   by_cases hh:Sn.getLsbD x=true
   ·rw[if_pos hh] at hsc
    rw[hh] at hf
    refine ifc hf rfl (fun h=>by cases h) (fun _=>?_)
    refine wskip ?_
    replace hf:=hf.keep [2,3,4,8,9,10,11]
    obtain⟨N9,hN9⟩:∃N9,N9=w.heap.size:=⟨_,rfl⟩
    have hN9s:N9≤w.heap.size:=Nat.le_of_eq hN9
    have hl9:N8≤N9∧∀b,wv.ownBlock=some b→b<N9:=by rw[hN9];exact⟨by have:=HW.base;omega,fun b hb=>(HW.lt hb).2⟩
    have hW9:0<N9:=by omega
    refine seq <| rgN 2 hf <| st (mv rfl) <| st (bslO1 (B:=N9) (G:=G0) U35 I3 rfl rfl hN9s (fun b hb=>hb.elim)) <| en fun a w e' hf=>?_
    obtain⟨hT,HM0,HM7⟩:=up3 e' hT HM0 HM7
    replace kh:=kh.tr (Kh.ext e')
    obtain⟨HW,hN9s,e,B2,B3,B4,B8,B10,hD⟩:=up9 e' HW hN9s e B2 B3 B4 B8 B10 hD
    refine tA hf rfl fun a hf=>tl_nil ?_
    obtain⟨u0,Ho,hf⟩:=hf.opn 12 rfl
    replace Ho:OwR intE 3 N9 G0 w (natE [x]) u0:=Ho
    replace hf:=hf.keep [2,3,4,8,9,10,11,12]
    repeat refine seq ?_
    refine rgN 2 hf <| st (ld1 (v:=I (n:Nat)) T3 rfl B4 rfl) <| st ((sub rfl rfl (by omega)).eq (congrArg (Value.int .i64) (show (n:Int) - 1=((n - 1:Nat):Int) by omega))) <| en fun a w e' hf=>?_
    obtain⟨hT,HM0,HM7⟩:=up3 e' hT HM0 HM7
    replace kh:=kh.tr (Kh.ext e')
    obtain⟨HW,Ho,e,B2,B3,B4,B8,B10,hD⟩:=up9 e' HW Ho e B2 B3 B4 B8 B10 hD
    refine tA hf rfl fun a hf=>tl_nil ?_
    replace hf:=hf.keep [2,3,4,8,9,10,11,12,13]
    obtain⟨tot,htot⟩:∃tot,tot=x::ocG nw x (n - 1) x:=⟨_,rfl⟩
    rw[← htot] at hsc
    refine blk (loopN (fun r0 a w=>∃(last:Nat) (out:List Nat) (u:Value),out++ocG nw x r0 last=tot∧out≠[]∧out.getLastD 0=last∧last<1024∧r0≤n - 1∧out.length+r0≤1026∧Fr 101 a w [(2,E (ptr b2)),(3,E (ptr b3)),(4,E (ptr b4)),(8,E (ptr b8)),(9,E (I (x:Nat))),(10,E (ptr b10)),(11,E wv),(12,E u),(13,E (I (r0:Nat)))] ∧
     ScJ W nm0 bm0 l V b2 b3 b4 b8 n (.slice none 0 0) (del left (x:Int)) w∧Ds [d1] w∧Kh Bz w3 w∧Blk w b10 (adC S7 (.map (some bm7))) 79∧MpR sKV w bm7 nm7 (wiL l S7)∧OwR setE 76 N8 G0 w (wkL nw x n) wv∧OwR intE 3 N9 G0 w (natE out) u) (n - 1)
     ⟨x,[x],u0,by rw[htot];rfl,by simp,rfl,hx1024,Nat.le_refl _,by simp only[List.length_singleton];omega,hf,⟨e,hT,HM0,B2,B3,B4,B8⟩,hD,kh,B10,HM7,HW,Ho⟩ ?_)
    rintro r0 a w ⟨last,out,u,hR,hne,hla,hl1024,hrn,hlen,hf,⟨e,hT,HM0,B2,B3,B4,B8⟩,hD,kh,B10,HM7,HW,Ho⟩
    repeat refine seq ?_
    refine rgN 2 hf <| st (mv rfl) <| st (gtr rfl rfl) <| en fun a w e' hf=>?_
    obtain⟨hT,HM0,HM7⟩:=up3 e' hT HM0 HM7
    replace kh:=kh.tr (Kh.ext e')
    obtain⟨HW,Ho,e,B2,B3,B4,B8,B10,hD⟩:=up9 e' HW Ho e B2 B3 B4 B8 B10 hD
    refine tl_nil <| ifc hf rfl (fun hc=>wskip ?_) (fun hc=>wexit ?_)
    ·obtain⟨k,rfl⟩:∃k,r0=k+1:=⟨r0 - 1,by have:=of_decide_eq_true hc;omega⟩
     refine seq <| blk ?_
     have hgl:=natE_last hne
     rw[hla] at hgl
     have hwl:1≤out.length:=by
      cases out with
      | nil=>exact absurd rfl hne
      | cons _ _=>rw[List.length_cons];omega
     have hol:(natE out).length=out.length:=natE_len out
     have hwk:=wkL_at nw x (m:=n) (i:=k+1) (by omega)
     obtain⟨Sk,hSk⟩:∃Sk,Sk=wkN nw x (k+1):=⟨_,rfl⟩
     rw[← hSk] at hwk
     rw[ocG,← hSk] at hR
     obtain⟨nx,hnx⟩:∃nx,nx=(minOf (nw (last:Int) &&& Sk)).getD 0:=⟨_,rfl⟩
     have hnx1:nx<1024:=by rw[hnx];exact min_lt _
     rw[← hnx] at hR
     have hwz:(Lit.int .i64 (last:Int)).wf=true:=wf64 (by omega) (by omega)
     have hdv7:=HM7.dvE hnm7 (G:=G0) (fun h=>h)
     have hix:((((natE out).length:Nat):Int) - 1)=(((out.length - 1:Nat)):Int):=by rw[hol];omega
     replace hf:=hf.kp [2,3,4,8,9,10,11,12,13]
     refine seq <| rgG 20 Mix.mix hf <| st (fA U79 rfl T77 rfl) <| st (ld1 (v:=.map (some bm7)) T77 rfl B10 (adC_map _ _)) <| st (mv rfl) <| st (mv rfl) <| st (lenD U35 (isE rfl Ho.sl)) <| st ((sub rfl rfl (by omega)).eq (congrArg (Value.int .i64) hix)) <| st (idxD U35 S3 (isE rfl Ho.sl) rfl (by omega) (hgl)) <| st (ldI T3 (isR rfl)) <| st ((lkM (l:=wiL l S7) (i:=(last:Int)) U77 zero_set (isE rfl hdv7) rfl hwz).eq (congrArg setV (congrFun hwi (last:Int)))) <| st (mv rfl) <| st (mv rfl) <| st (idxD U83 S76 (isE rfl HW.sl) rfl (by omega) (hwk)) <| st (ldS T76 (isR rfl)) <| st (call2 (A:=E (setV (nw (last:Int) &&& Sk))) (B:=E (setV (nw (last:Int)))) (C:=E (setV Sk)) En74 rfl rfl (fun v u w he h h'=>by cases h;cases h';exact inter_spec _ Sk w)) ?_
     refine st (call1 (A:=Tup [E (I (nx:Nat)),Any]) En72 rfl (fun v w he h=>by cases h;have hm:=min_spec (nw (last:Int) &&& Sk) w (hT.ext he);rw[minP,← hnx] at hm;exact hm.mono fun en w' ⟨u,k1,k2,k3⟩=>⟨u,k1,k2,tup_any k3⟩)) ?_
     refine st (mv rfl) <| st (ext_ rfl rfl) <| st (ext_ rfl rfl) <| st (asg rfl) <| st (asg rfl) <| en fun a w e' hf=>?_
     obtain⟨hT,HM0,HM7⟩:=up3 e' hT HM0 HM7
     replace kh:=kh.tr (Kh.ext e')
     obtain⟨HW,Ho,e,B2,B3,B4,B8,B10,hD⟩:=up9 e' HW Ho e B2 B3 B4 B8 B10 hD
     refine tl_nil ?_
     replace hf:=hf.kp [2,3,4,8,9,10,11,12,13,14]
     refine rgN 3 hf <| st (mv rfl) <| st (mv rfl) <| st (bsl1 U35 I3 rfl (by decide) rfl Ho.avs (isI rfl)) <| en fun a w e' hf=>?_
     obtain⟨hT,HM0,HM7⟩:=up3 e' hT HM0 HM7
     replace kh:=kh.tr (Kh.ext e')
     obtain⟨HW,hD,B2,B3,B4,B8,B10,Ho,e⟩:=up9 e' HW hD B2 B3 B4 B8 B10 Ho e
     haveI hin:∀G0,InR (GB W G0) _:=OwR.inGB (W:=W) Ho (by omega)
     refine tl_app U35 I3 rfl rfl hf (by decide) rfl Ho (isR rfl) (by rw[natE_len,List.length_singleton];omega) (by rw[natE_len,List.length_singleton];simp only[maxLen];omega) fun a v w hg hat Hn hf=>?_
     replace e:=e.gro hg (Ho.row (W:=W) (by omega))
     have hrow:=Ho.row (W:=W) (by omega)
     replace hT:=hT.gro hg (fun b hb=>by have:=(Ho.lt hb).1;omega)
     replace HM0:=HM0.gr hg (fun h=>by have:=(Ho.lt h.symm).1;omega)
     replace HM7:=HM7.gr hg (fun h=>by have:=(Ho.lt h.symm).1;omega)
     replace kh:=kh.tr (Kh.gro hg (fun b hb hh=>by have h1:=(Ho.lt hb).1;have h2:=hh.2;omega))
     replace HW:=HW.groE hg (fun b hb hh=>by have h1:=(Ho.lt hh).1;have h2:=hl9.2 b hb;omega)
     replace hD:=hD.gro hg (fun d hd hh=>by rw[List.mem_singleton] at hd;have h1:=(Ho.lt hh).1;omega)
     replace B2:=B2.gro hg (Ho.neLt (by omega))
     replace B3:=B3.gro hg (Ho.neLt (by omega))
     replace B4:=B4.gro hg (Ho.neLt (by omega))
     replace B8:=B8.gro hg (Ho.neLt (by omega))
     replace B10:=B10.gro hg (Ho.neLt (by omega))
     replace Ho:=Hn
     replace Ho:=Hn;clear Hn hg hat hin
     refine tA hf rfl fun a hf=>tl_nil ?_
     rw[← natE_app] at Ho
     replace hf:=hf.kp [2,3,4,8,9,10,11,12,13]
     refine rgN 2 hf <| st (mv rfl) <| st ((sub rfl rfl (by omega)).eq (congrArg (Value.int .i64) (show ((k+1:Nat):Int) - 1=((k:Nat):Int) by omega))) <| en fun a w e' hf=>?_
     obtain⟨hT,HM0,HM7⟩:=up3 e' hT HM0 HM7
     replace kh:=kh.tr (Kh.ext e')
     obtain⟨HW,Ho,e,B2,B3,B4,B8,B10,hD⟩:=up9 e' HW Ho e B2 B3 B4 B8 B10 hD
     refine tA hf rfl fun a hf=>tl_nil ?_
     replace hf:=hf.kp [2,3,4,8,9,10,11,12,13]
     exact⟨k,Nat.lt_succ_self _,nx,out++[nx],_,by rw[List.append_assoc];exact hR,by simp,last_app _ _,hnx1,by omega,by rw[List.length_append,List.length_singleton];omega,hf,⟨e,hT,HM0,B2,B3,B4,B8⟩,hD,kh,B10,HM7,HW,Ho⟩
    ·obtain rfl:r0=0:=by have:=of_decide_eq_false hc;omega
     rw[ocG,List.append_nil] at hR
     subst hR
     have hro:u.oneCell'=true:=Ho.one
     have nu2:u.ownBlock≠some b2:=Ho.neLt (by omega)
     have nd2:=hD.ne B2
     have nm2:bm0≠b2:=HM0.neB B2
     replace hf:=hf.kp [2,12]
     refine seq <| rgN 1 hf <| st (mv rfl) <| en fun a w e' hf=>?_
     obtain⟨hT,HM0⟩:=up2 e' hT HM0
     replace kh:=kh.tr (Kh.ext e')
     obtain⟨Ho,e,B2,B3,B4,B8,hD⟩:=up7 e' Ho e B2 B3 B4 B8 hD
     refine tl_st1 T35 hf rfl rfl hro B2 Nat.zero_lt_one fun w hg hsz B2 hf=>?_
     replace e:=e.gr hg (by omega);replace hT:=hT.gr hg (by omega);replace HM0:=HM0.gr hg (fun h=>nm2 (Option.some.inj h));replace B3:=B3.gr hg (by omega);replace B4:=B4.gr hg (by omega);replace B8:=B8.gr hg (by omega);replace Ho:=Ho.grE hg nu2;replace kh:=kh.tr (Kh.gr hg (fun hh=>by have:=hh.1;omega))
     replace hD:=hD.gr hg nd2
     refine tl_nil <| wret <| ⟨⟨rfl,_,_,_,⟨⟨e,hT,HM0,B2,B3,B4,B8⟩,hD⟩,hsc,hne,Ho.slN fun b hb hh=>by have h1:=(Ho.lt hb).1;omega⟩,kh⟩
   ·rw[if_neg hh] at hsc
    rw[Bool.eq_false_iff.2 hh] at hf
    refine ifc hf rfl (fun _=>?_) (fun h=>by cases h)
    refine wexit <| ⟨⟨⟨⟨e,hT,HM0,B2,B3,B4,by rw[hdl];exact B8⟩,hD⟩,fun rest' hr'=>by
     have:rest'=rest:=by rw[hs,List.append_assoc] at hr';simpa using hr'.symm
     rw[this,hdl];exact hsc⟩,kh⟩
  ·intro a' w' hf' hJ hsz hDn
   simp only[Exit.inBlock,↓reduceIte,Exit.then]
   have hfs:=hJ.2 [] (by rw[List.append_nil])
   rw[hfs,ocL] at hrr
   subst hrr
   have hD2:Ds (w.heap.size::[d1]) w':=hJ.1.2.cons hDn fun hm=>by rw[List.mem_singleton] at hm;omega
   have hf:FrD 101 (marks (w.heap.size::[d1])) a' w' [(2,E (ptr b2))]:=hf'.keep [2]
   have hDW2:∀d∈w.heap.size::[d1],W.heap.size≤d:=fun d hd=>by
    rcases List.mem_cons.1 hd with rfl|hd
    ·exact hBW
    ·exact hDW d hd
   obtain⟨e,hT,HM0,B2,B3,B4,B8⟩:=hJ.1.1
   have hb2:=hD2.ne B2
   generalize w.heap.size::[d1]=D2 at *
   generalize w'=w at *
   refine seq <| regn0 <| tl_st1 T35 hf rfl rfl rfl B2 Nat.zero_lt_one fun w hg hsz B2 hf=>?_
   replace e:=e.gr hg (by omega)
   replace hD2:=hD2.gr hg hb2
   refine tl_nil <| wret <| retc1M rfl T35 hf rfl B2 hD2 ⟨_,rfl,e.shut hDW2,rfl⟩
  ·intro ex c a' w' hcd hf' hX hsz hDn
   obtain⟨rfl,r,out,left,⟨hJ,hJd⟩,hfs,hr1,HR⟩:=hX
   simp only[Exit.inBlock,↓reduceIte,Exit.then]
   rw[hfs] at hrr
   subst hrr
   have hD2:Ds (w.heap.size::[d1]) w':=hJd.cons hDn fun hm=>by rw[List.mem_singleton] at hm;omega
   have hf:FrD 101 (marks (w.heap.size::[d1])) a' w' [(2,E (ptr b2))]:=hf'.keep [2]
   have hDW2:∀d∈w.heap.size::[d1],W.heap.size≤d:=fun d hd=>by
    rcases List.mem_cons.1 hd with rfl|hd
    ·exact hBW
    ·exact hDW d hd
   refine retc1M rfl T35 hf rfl hJ.p2 hD2 ⟨_,rfl,hJ.e.shut hDW2,hr1,?_⟩
   exact Dv.weak (Dv.ch HR (chg_shut _ _) fun b hb=>by
    rcases List.mem_cons.1 hb with rfl|hb
    ·show _<_;omega
    ·rw[List.mem_singleton] at hb;show _<_;omega) fun b _ hb=>hb.elim
theorem retc2M {fn:Func}{t u t' u':Nat}{R:Ending→World→Prop}{n:Nat}{a:Act}{w:World}{b b':Nat}{v v':Value}{bt bt':TypeId}{L:Env}{D:List Nat}(hr:fn.results = #[.cell t u,.cell t' u'])(ht:TI Tryz.prog u false 1)(ht':TI Tryz.prog u' false 1)(hf:FrD n (marks D) a w L)(h:look L t=some (E (.pointer (some ⟨b,0,none⟩))))(h':look L t'=some (E (.pointer (some ⟨b',0,none⟩))))
  (hb:Blk w b #[v] bt) (hb':Blk w b' #[v'] bt') (hD:Ds D w) (hR:R (.returned (.tuple #[v,v'])) (shut D w)):bodyPostM (FW none) 0 Tryz.prog fn R .ret a w:=by
 have hv:a.tmps.getD t undef=.pointer (some ⟨b,0,none⟩):=hf.val t _ h
 have hv':a.tmps[t]?.getD undef=.pointer (some ⟨b,0,none⟩):=by simpa using hv
 have hw:a.tmps.getD t' undef=.pointer (some ⟨b',0,none⟩):=hf.val t' _ h'
 have hw':a.tmps[t']?.getD undef=.pointer (some ⟨b',0,none⟩):=by simpa using hw
 have hc:(shut D w).cell? ⟨b,0,none⟩=some v:=by rw[(hb.shut (hD.ne hb)).cell 0];rfl
 have hc':(shut D w).cell? ⟨b',0,none⟩=some v':=by rw[(hb'.shut (hD.ne hb')).cell 0];rfl
 show LeavesInM _ _ _ _ _ _ _ _ _
 rw[hf.defers]
 exact leaves D w hD (by simp[results,hr,hv',hw',asAddr,loadVar1 ht hc,loadVar1 ht' hc']) hR
def evS (L:List BS)(s:BS):Nat→BS
 | 0=>s
 | j+1=>if j % 2=0 then evS L s j ||| gs L j else evS L s j
def oneF (nb:Int→BS)(ps:List BS):Nat→BS
 | 0=>0
 | k+1=>evS (lvB nb ((minOf (gs ps k)).getD 0)) (oneF nb ps k) (lvB nb ((minOf (gs ps k)).getD 0)).length
def bdB (nb:Int→BS)(one:BS)(x:Nat):Bool:=
 ((!((nb (x:Int) &&& one)==0))==one.getLsbD x && !(nb (x:Int)==0)) || ((one.getLsbD x && !((nb (x:Int) &&& one)==0)) || (!one.getLsbD x && !((nb (x:Int) &&& ~~~one)==0)))
def bpO (nb:Int→BS)(V:BS):BS:=oneF nb (prF nb (card V) V) (prF nb (card V) V).length
def bpB (nb:Int→BS)(V:BS):Bool := !(elems V).any (bdB nb (bpO nb V))
def bpL (nb:Int→BS)(V:BS):List Nat:=if bpB nb V=true then elems (bpO nb V) else []
structure BpJ (W:World)(nm bm:Nat)(l:List (Int×BS))(V one:BS)(b2 b3 b4 b5:Nat)(w:World):Prop where
 e:Ext W w
 t:Tab w
 m:MpR sKV w bm nm l
 p2:Blk w b2 #[.slice none 0 0] 35
 p3:Blk w b3 #[B false] 4
 p4:Blk w b4 (adC V (.map (some bm))) 79
 p5:Blk w b5 (setC one) 76
theorem BpJ.kp {W:World}{nm bm:Nat}{l:List (Int×BS)}{V one:BS}{b2 b3 b4 b5:Nat}{B:Nat}{w w':World}(h:BpJ W nm bm l V one b2 b3 b4 b5 w)(k:Kp B w w')(hW:W.heap.size≤B)(h0:0<B)(l2:b2<B)(l3:b3<B)(l4:b4<B)(l5:b5<B)(lm:bm<B):BpJ W nm bm l V one b2 b3 b4 b5 w':=
 have no:∀{b},b<B→¬Hole B b:=fun h hh=>by have:=hh.1;omega
 ⟨h.e.kp k hW,h.t.kp k h0,h.m.pres (k.same bm h.m.lt (no lm)),h.p2.kp k (no l2),h.p3.kp k (no l3),h.p4.kp k (no l4),h.p5.kp k (no l5)⟩
theorem bip_spec {G:Nat→Prop}{N:Nat}(g:GT)(ok:Gr.Ok g)(v:Value)(W:World)(hT:Tab W)(h:(Dv (ptE (grE N)) G (some g)).p v W)(hl1:g.1.length≤100000)(hl2:g.2.length≤100000)(hN:N≤1000000) :
  Calls Tryz.prog 23 #[v] W (Post (Tup [Dv (slE intE) G0 (natE (bpL (nbA g) (vset g.1))),E (B (bpB (nbA g) (vset g.1)))]) W):=by
 have hgd:(Dv (ptE (grE N)) G0 (some g)).p v W:=Dv.weak h fun b _ hb=>hb.elim
 obtain⟨l,hl⟩:∃l,l=nbL g (elems (vset g.1)):=⟨_,rfl⟩
 have hnb:nbA g=lkS l:=by rw[hl,nbA]
 rw[hnb]
 obtain⟨V,hV⟩:∃V,V=vset g.1:=⟨_,rfl⟩
 rw[← hV]
 obtain⟨ps,hps⟩:∃ps,ps=cmpB l V:=⟨_,rfl⟩
 have hpl:ps.length≤1024:=by rw[hps,cmpB];exact Nat.le_trans (prF_len _ _ _) (card_le_1024 V)
 obtain⟨rl,hrl⟩:∃rl,rl=bpL (lkS l) V:=⟨_,rfl⟩
 obtain⟨rb,hrb⟩:∃rb,rb=bpB (lkS l) V:=⟨_,rfl⟩
 rw[← hrl,← hrb]
 rw[bpL,← hrb] at hrl
 rw[bpB] at hrb
 have hbo:bpO (lkS l) V=oneF (lkS l) ps ps.length:=by rw[hps,cmpB,bpO]
 rw[hbo] at hrl hrb
 have hT0:=hT.lt
 refine enterM (args:=[v]) (As:=[E v]) Tryz.func23 rfl Tryz.ntmps23 (Nat.le_of_ble_eq_true rfl) ?_ (fun a hf=>?_) (Nat.le_of_ble_eq_true rfl)
 ·exact arg1 rfl
 dsimp only[params,Nat.reduceAdd] at hf
 have e:=Ext.rfl' W
 refine seq <| regn0 <| tL I35 hf fun a b2 w e' hb2 hs2 B2 hf=>?_
 have hle2:=Nat.le_trans e.size (Nat.le_of_eq hb2.symm)
 obtain⟨hT,e⟩:=up2 e' hT e
 refine tL I4 hf fun a b3 w e' hb3 hs3 B3 hf=>?_
 have hle3:=Nat.le_trans e.size (Nat.le_of_eq hb3.symm)
 have lt3_B2:=B2.lt
 obtain⟨hT,e,B2⟩:=up3 e' hT e B2
 refine tl_nil ?_
 replace B2:Blk w b2 #[.slice none 0 0] 35:=B2
 replace B3:Blk w b3 #[B false] 4:=B3
 have n23:W.heap.size≤b2∧W.heap.size≤b3∧b2≠b3:=by have:=B2.lt;exact⟨hle2,hle3,by omega⟩
 replace hf:=hf.kp [0,2,3]
 have e0:=e
 refine seq <| rgN 2 hf <| st (mv rfl) <| st (call1 (A:=AdjA l V 1024) En46 rfl (fun v w he k=>by cases k;rw[hl,hV];exact ofA_spec g ok _ w (hT.ext he) (VA.st _ _ _ _ (Ext.tr e0 he) hgd) hl1 hl2 hN)) ?_
 refine en fun a w e' hf=>?_
 obtain⟨hT,e,B2,B3⟩:=up4 e' hT e B2 B3
 obtain⟨av,⟨mq,rfl,HV0⟩,hf⟩:=hf.opn 14 rfl
 obtain⟨cs,⟨bm0,nm0,rfl,_,hnm0,HM0⟩,hmq⟩:=HV0
 replace hmq:mq=.map (some bm0):=hmq
 subst hmq
 have nm23:bm0≠b2∧bm0≠b3:=⟨HM0.neB B2,HM0.neB B3⟩
 obtain⟨N1,hN1⟩:∃N1,N1=w.heap.size:=⟨_,rfl⟩
 have hN1s:N1≤w.heap.size:=Nat.le_of_eq hN1
 have hbm0:bm0<N1∧b2<N1∧b3<N1:=by rw[hN1];exact⟨HM0.lt,B2.lt,B3.lt⟩
 have hWN1:W.heap.size≤N1:=by rw[hN1];exact e.size
 replace hf:=hf.kp [2,3,14]
 refine tL I79 hf fun a b4 w e' hb4 hs4 B4 hf=>?_
 have hle4:=Nat.le_trans e.size (Nat.le_of_eq hb4.symm)
 have lo4_hN1s:=Nat.le_trans hN1s (Nat.le_of_eq hb4.symm)
 have lt4_B2:=B2.lt
 have lt4_B3:=B3.lt
 obtain⟨hT,HM0,hN1s,e,B2,B3⟩:=up6 e' hT HM0 hN1s e B2 B3
 have n4:N1≤b4:=lo4_hN1s
 refine tl_stW T79 hf rfl rfl (adC_one _ _) B4 rfl (adC_size _ _) fun w hg hsz B4 hf=>?_
 replace e:=e.gr hg (by omega);replace hT:=hT.gr hg (by omega);replace HM0:=HM0.gr hg (fun h=>by cases h;omega);replace B2:=B2.gr hg (by omega);replace B3:=B3.gr hg (by omega);replace hN1s:=Nat.le_trans hN1s hg.size;clear hg
 refine tl_nil ?_
 replace hf:=hf.kp [2,3,4]
 have l4':=B4.lt
 refine seq <| regn0 <| tL I76 hf fun a b5 w e' hb5 hs5 B5 hf=>?_
 have hle5:=Nat.le_trans e.size (Nat.le_of_eq hb5.symm)
 have lo5_hN1s:=Nat.le_trans hN1s (Nat.le_of_eq hb5.symm)
 obtain⟨hT,HM0,hN1s,e,B2,B3,B4⟩:=up7 e' hT HM0 hN1s e B2 B3 B4
 refine tl_nil ?_
 have n5:N1≤b5∧b4≠b5:=⟨lo5_hN1s,by omega⟩
 simp only[Value.cells,zeroC] at B5
 replace B5:Blk w b5 (setC (oneF (lkS l) ps 0)) 76:=by rw[show oneF (lkS l) ps 0=0 from rfl];exact B5
 replace hf:=hf.kp [2,3,4,5]
 obtain⟨N2,hN2⟩:∃N2,N2=w.heap.size:=⟨_,rfl⟩
 have hN2s:N2≤w.heap.size:=Nat.le_of_eq hN2
 have hl2':b2<N2∧b3<N2∧b4<N2∧b5<N2∧bm0<N2:=by have h1:=B2.lt;have h2:=B3.lt;have h3:=B4.lt;have h4:=B5.lt;have h5:=HM0.lt;omega
 have hdv:=HM0.dvE hnm0 (G:=G0) (fun h=>h)
 repeat refine seq ?_
 refine rgN 4 hf <| st (ldW T79 rfl B4 (adC_size _ _)) <| st (call1 (A:=OwA setE 76 N2 G0 ps) (B:=E (.agg (adC V (.map (some bm0))))) En54 rfl (fun v w he k1=>by cases k1;rw[hps];exact (parts_spec l V (.map (some bm0)) w (hT.ext he) (Dv.ex hdv he)).mono fun en w' ⟨u,k1,k2,k3⟩=>⟨u,k1,k2,OwR.low k3 (Nat.le_trans hN2s he.size) fun b hb=>hb.elim⟩)) ?_
 refine st (lenD U83 ⟨_,rfl,fun v w _ h=>OwR.sl h⟩) <| st (mv rfl) <| en fun a w e' hf=>?_
 obtain⟨hT,HM0,e,B2,B3,B4,B5⟩:=up7 e' hT HM0 e B2 B3 B4 B5
 refine tl_nil ?_
 obtain⟨pv,HoP,hf⟩:=hf.opn 16 rfl
 replace HoP:OwR setE 76 N2 G0 w ps pv:=HoP
 obtain⟨nb,hnb'⟩:∃nb,nb=lkS l:=⟨_,rfl⟩
 rw[← hnb'] at hrb hrl B5
 replace hf:=hf.kp [2,3,4,5,16,17,18]
 replace hf:=hf.kp [2,3,4,5,16,17,18]
 refine blk (loopN (fun r0 a w=>∃(j:Nat) ,r0=ps.length - j∧j≤ps.length∧Fr 98 a w [(2,E (ptr b2)),(3,E (ptr b3)),(4,E (ptr b4)),(5,E (ptr b5)),(16,E pv),(17,E (I (ps.length:Nat))),(18,E (I j))]∧Ext W w∧Tab w∧MpR sKV w bm0 nm0 l∧Blk w b2 #[.slice none 0 0] 35∧Blk w b3 #[B false] 4∧Blk w b4 (adC V (.map (some bm0))) 79∧Blk w b5 (setC (oneF nb ps j)) 76∧OwR setE 76 N2 G0 w ps pv) ps.length ⟨0,rfl,by omega,hf,e,⟨hT,HM0,B2,B3,B4,B5,HoP⟩⟩ ?_)
 rintro r0 a w ⟨j,rfl,hj,hf,e,hT,HM0,B2,B3,B4,B5,HoP⟩
 refine seq <| rgN 1 hf <| st (lss rfl rfl) <| en fun a w e' hf=>?_
 obtain⟨hT,HM0,HoP,e,B2,B3,B4,B5⟩:=up8 e' hT HM0 HoP e B2 B3 B4 B5
 refine tl_nil <| seq <| ifc hf rfl (fun hc=>wskip ?_) (fun hc=>wexit ?_)
 rotate_left
 rotate_left
 ·have hltj:j<ps.length:=by have:=of_decide_eq_true hc;(try dsimp only at this);omega
  replace hf:=hf.kp [2,3,4,5,16,17,18]
  refine seq <| blk ?_
  have hgp:=gs_get hltj
  obtain⟨C,hC⟩:∃C,C=gs ps j:=⟨_,rfl⟩
  obtain⟨x,hx⟩:∃x,x=(minOf C).getD 0:=⟨_,rfl⟩
  have hx1:x<1024:=by rw[hx];exact min_lt _
  obtain⟨s0,hs0⟩:∃s0,s0=oneF nb ps j:=⟨_,rfl⟩
  have hsc:oneF nb ps (j+1)=evS (lvB nb x) s0 (lvB nb x).length:=by rw[oneF,← hC,← hx,← hs0]
  rw[← hC] at hgp
  rw[← hs0] at B5
  have l2:=B2.lt
  have l3:=B3.lt
  have l4:=B4.lt
  have l5:=B5.lt
  have lm:=HM0.lt
  obtain⟨N3,hN3⟩:∃N3,N3=w.heap.size:=⟨_,rfl⟩
  have hN3s:N3≤w.heap.size:=Nat.le_of_eq hN3
  rw[← hN3] at l2 l3 l4 l5 lm
  have hW3:W.heap.size≤N3:=by rw[hN3];exact e.size
  refine seq <| regn0 <| tP hf (idxD U83 S76 (isE rfl HoP.sl) rfl (by omega) (hgp)) fun a w e' hf=>?_
  obtain⟨hT,HM0,HoP,hN3s,e,B2,B3,B4,B5⟩:=up9 e' hT HM0 HoP hN3s e B2 B3 B4 B5
  refine tP hf (ldS T76 (isR rfl)) fun a w e' hf=>?_
  obtain⟨hT,HM0,HoP,hN3s,e,B2,B3,B4,B5⟩:=up9 e' hT HM0 HoP hN3s e B2 B3 B4 B5
  refine tL I76 hf fun a b7 w e' hb7 hs7 B7 hf=>?_
  have lo7_hN3s:=Nat.le_trans hN3s (Nat.le_of_eq hb7.symm)
  have ne7_HoP:=HoP.ne_new hb7
  have lt7_B2:=B2.lt
  obtain⟨hT,HM0,HoP,hN3s,e,B2,B3,B4,B5⟩:=up9 e' hT HM0 HoP hN3s e B2 B3 B4 B5
  have n7:N3≤b7:=lo7_hN3s
  have hp7:=ne7_HoP
  replace hf:=hf.kp [2,3,4,5,7,16,17,18,21]
  refine tl_stW T76 hf rfl rfl (wordsC_one _) B7 rfl (setC_size _) fun w hg hsz B7 hf=>?_
  replace e:=e.gr hg (by omega);replace hT:=hT.gr hg (by omega);replace HM0:=HM0.gr hg (fun h=>by cases h;omega);replace B2:=B2.gr hg (by omega);replace B3:=B3.gr hg (by omega);replace B4:=B4.gr hg (by omega);replace B5:=B5.gr hg (by omega);replace HoP:=HoP.grE hg hp7;replace hN3s:=Nat.le_trans hN3s hg.size;clear hg
  refine tl_nil ?_
  have l7:=B7.lt
  replace hf:=hf.kp [2,3,4,5,7,16,17,18]
  refine seq <| rgN 7 hf <| st ((ldW T76 rfl B7 rfl).eq ((rfl:_=setV C))) <| st (call1 (A:=Tup [E (I (x:Nat)),Any]) En72 rfl (fun v w he h=>by cases h;have hm:=min_spec C w (hT.ext he);rw[minP,← hx] at hm;exact hm.mono fun en w' ⟨u,k1,k2,k3⟩=>⟨u,k1,k2,tup_any k3⟩)) ?_
  refine st (mv rfl) <| st (ext_ rfl rfl) <| st (ext_ rfl rfl) <| st (asg rfl) <| st (asg rfl) <| en fun a w e' hf=>?_
  replace hT:=hT.ext e'
  replace HM0:=HM0.ext e'
  replace HoP:=HoP.ext e'
  replace hN3s:=Nat.le_trans hN3s e'.size
  replace e:=e.tr e'
  replace B2:=B2.ext e'
  replace B3:=B3.ext e'
  replace B4:=B4.ext e'
  replace B5:=B5.ext e'
  replace B7:=B7.ext e'
  refine tl_nil ?_
  replace hf:=hf.kp [2,3,4,5,8,16,17,18]
  obtain⟨L,hL⟩:∃L,L=lvB nb x:=⟨_,rfl⟩
  have hLl:L.length≤1025:=by rw[hL];exact lvB_len _ _
  rw[← hL] at hsc
  obtain⟨N4,hN4⟩:∃N4,N4=w.heap.size:=⟨_,rfl⟩
  have hN4s:N4≤w.heap.size:=Nat.le_of_eq hN4
  have hl4:N3≤N4:=by rw[hN4];exact hN3s
  have hdv:=HM0.dvE hnm0 (G:=G0) (fun h=>h)
  refine seq <| rgN 5 hf <| st (ldW T79 rfl B4 (adC_size _ _)) <| st (mv rfl) <| st (call2 (A:=OwA setE 76 N4 G0 L) (B:=E (.agg (adC V (.map (some bm0))))) (C:=E (I (x:Nat))) En52 rfl rfl (fun a b w he k2 k4=>by cases k2;cases k4;rw[hL,hnb'];exact (levels_spec l V (.map (some bm0)) x w (hT.ext he) (Dv.ex hdv he) hx1).mono fun en w' ⟨z,q1,q2,q3⟩=>⟨z,q1,q2,OwR.low q3 (Nat.le_trans hN4s he.size) fun b hb=>hb.elim⟩)) ?_
  refine st (lenD U83 ⟨_,rfl,fun v w _ h=>OwR.sl h⟩) <| st (mv rfl) <| en fun a w e' hf=>?_
  replace hT:=hT.ext e'
  replace HM0:=HM0.ext e'
  replace HoP:=HoP.ext e'
  replace hN3s:=Nat.le_trans hN3s e'.size
  replace e:=e.tr e'
  replace B2:=B2.ext e'
  replace B3:=B3.ext e'
  replace B4:=B4.ext e'
  replace B5:=B5.ext e'
  replace B7:=B7.ext e'
  refine tl_nil ?_
  obtain⟨lv,HoL,hf⟩:=hf.opn 29 rfl
  replace HoL:OwR setE 76 N4 G0 w L lv:=HoL
  replace B5:Blk w b5 (setC (evS L s0 0)) 76:=B5
  replace hf:=hf.kp [2,3,4,5,16,17,18,29,30,31]
  replace hf:=hf.kp [2,3,4,5,16,17,18,29,30,31]
  refine blk (loopN (fun r0 a w=>∃(i:Nat) ,r0=L.length - i∧i≤L.length∧Fr 98 a w [(2,E (ptr b2)),(3,E (ptr b3)),(4,E (ptr b4)),(5,E (ptr b5)),(16,E pv),(17,E (I (ps.length:Nat))),(18,E (I j)),(29,E lv),(30,E (I (L.length:Nat))),(31,E (I i))]∧Ext W w∧Tab w∧MpR sKV w bm0 nm0 l∧Blk w b2 #[.slice none 0 0] 35∧Blk w b3 #[B false] 4∧Blk w b4 (adC V (.map (some bm0))) 79∧Blk w b5 (setC (evS L s0 i)) 76∧OwR setE 76 N2 G0 w ps pv∧OwR setE 76 N4 G0 w L lv∧N4≤w.heap.size) L.length ⟨0,rfl,by omega,hf,e,⟨hT,HM0,B2,B3,B4,B5,HoP,HoL,HoL.base⟩⟩ ?_)
  rintro r0 a w ⟨i,rfl,hi,hf,e,hT,HM0,B2,B3,B4,B5,HoP,HoL,hN4s⟩
  refine seq <| rgN 1 hf <| st (lss rfl rfl) <| en fun a w e' hf=>?_
  replace hT:=hT.ext e'
  replace HM0:=HM0.ext e'
  replace HoP:=HoP.ext e'
  replace HoL:=HoL.ext e'
  replace hN4s:=Nat.le_trans hN4s e'.size
  replace e:=e.tr e'
  replace B2:=B2.ext e'
  replace B3:=B3.ext e'
  replace B4:=B4.ext e'
  replace B5:=B5.ext e'
  refine tl_nil <| seq <| ifc hf rfl (fun hc=>wskip ?_) (fun hc=>wexit ?_)
  rotate_left
  rotate_left
  ·have hlti:i<L.length:=by have:=of_decide_eq_true hc;(try dsimp only at this);omega
   replace hf:=hf.kp [2,3,4,5,16,17,18,29,30,31]
   refine seq <| blk ?_
   have hgi:=gs_get hlti
   obtain⟨R,hR⟩:∃R,R=gs L i:=⟨_,rfl⟩
   obtain⟨s1,hs1⟩:∃s1,s1=evS L s0 i:=⟨_,rfl⟩
   have hsi:evS L s0 (i+1)=if i % 2=0 then s1 ||| R else s1:=by rw[evS,← hR,← hs1]
   rw[← hR] at hgi
   rw[← hs1] at B5
   refine seq <| regn0 <| tP hf (mv rfl) fun a w e' hf=>?_
   replace hT:=hT.ext e'
   replace HM0:=HM0.ext e'
   replace HoP:=HoP.ext e'
   replace HoL:=HoL.ext e'
   replace hN4s:=Nat.le_trans hN4s e'.size
   replace e:=e.tr e'
   replace B2:=B2.ext e'
   replace B3:=B3.ext e'
   replace B4:=B4.ext e'
   replace B5:=B5.ext e'
   refine tP hf (idxD U83 S76 (isE rfl HoL.sl) rfl (by omega) (hgi)) fun a w e' hf=>?_
   replace hT:=hT.ext e'
   replace HM0:=HM0.ext e'
   replace HoP:=HoP.ext e'
   replace HoL:=HoL.ext e'
   replace hN4s:=Nat.le_trans hN4s e'.size
   replace e:=e.tr e'
   replace B2:=B2.ext e'
   replace B3:=B3.ext e'
   replace B4:=B4.ext e'
   replace B5:=B5.ext e'
   refine tP hf (ldS T76 (isR rfl)) fun a w e' hf=>?_
   replace hT:=hT.ext e'
   replace HM0:=HM0.ext e'
   replace HoP:=HoP.ext e'
   replace HoL:=HoL.ext e'
   replace hN4s:=Nat.le_trans hN4s e'.size
   replace e:=e.tr e'
   replace B2:=B2.ext e'
   replace B3:=B3.ext e'
   replace B4:=B4.ext e'
   replace B5:=B5.ext e'
   refine tL I76 hf fun a b11 w e' hb11 hs11 B11 hf=>?_
   have lo11_hN4s:=Nat.le_trans hN4s (Nat.le_of_eq hb11.symm)
   have ne11_HoP:=HoP.ne_new hb11
   have ne11_HoL:=HoL.ne_new hb11
   replace hT:=hT.ext e'
   replace HM0:=HM0.ext e'
   replace HoP:=HoP.ext e'
   replace HoL:=HoL.ext e'
   replace hN4s:=Nat.le_trans hN4s e'.size
   replace e:=e.tr e'
   replace B2:=B2.ext e'
   replace B3:=B3.ext e'
   replace B4:=B4.ext e'
   replace B5:=B5.ext e'
   refine tA hf rfl fun a hf=>?_
   have n11:N4≤b11:=lo11_hN4s
   have hp11:=ne11_HoP
   have hl11:=ne11_HoL
   replace hf:=hf.kp [2,3,4,5,10,11,16,17,18,29,30,31,35]
   refine tl_stW T76 hf rfl rfl (wordsC_one _) B11 rfl (setC_size _) fun w hg hsz B11 hf=>?_
   replace e:=e.gr hg (by omega);replace hT:=hT.gr hg (by omega);replace HM0:=HM0.gr hg (fun h=>by cases h;omega);replace B2:=B2.gr hg (by omega);replace B3:=B3.gr hg (by omega);replace B4:=B4.gr hg (by omega);replace B5:=B5.gr hg (by omega);replace HoP:=HoP.grE hg hp11;replace HoL:=HoL.grE hg hl11;replace hN4s:=Nat.le_trans hN4s hg.size;clear hg
   refine tl_nil ?_
   have l11:=B11.lt
   replace hf:=hf.kp [2,3,4,5,10,11,16,17,18,29,30,31]
   have htm:(i:Int).tmod 2=((i % 2:Nat):Int):=rfl
   by_cases hev:i % 2=0
   ·rw[if_pos hev] at hsi
    refine seq <| rgN 3 hf <| st (mv rfl) <| st (rem rfl rfl (by omega)) <| st ((eql rfl rfl).eq (congrArg Value.bool ((by rw[htm,hev];rfl:((i:Int).tmod 2==0)=true)))) ?_
    refine en fun a w e' hf=>?_
    obtain⟨hT,HM0,HoP,HoL,hN4s,e,B2,B3,B4⟩:=up9 e' hT HM0 HoP HoL hN4s e B2 B3 B4
    obtain⟨B5,B11⟩:=up2 e' B5 B11
    refine tl_nil <| ifc hf rfl (fun _=>?_) (fun h=>by cases h)
    replace hf:=hf.kp [2,3,4,5,11,16,17,18,29,30,31]
    refine rgN 3 hf <| st ((ldW T76 rfl B5 rfl).eq ((rfl:_=setV s1))) <| st ((ldW T76 rfl B11 rfl).eq ((rfl:_=setV R))) <| st (call2 (A:=E (setV (s1 ||| R))) En73 rfl rfl (fun v u w he h h'=>by cases h;cases h';exact union_spec s1 R w)) ?_
    refine en fun a w e' hf=>?_
    obtain⟨hT,HM0,HoP,HoL,hN4s,e,B2,B3,B4⟩:=up9 e' hT HM0 HoP HoL hN4s e B2 B3 B4
    obtain⟨B5,B11⟩:=up2 e' B5 B11
    have hp5:pv.ownBlock≠some b5:=HoP.neLt (by omega)
    have hl5:lv.ownBlock≠some b5:=HoL.neLt (by omega)
    replace hf:=hf.kp [2,3,4,5,16,17,18,29,30,31,41]
    refine tl_stW T76 hf rfl rfl (wordsC_one _) B5 rfl (setC_size _) fun w hg hsz B5 hf=>?_
    replace e:=e.gr hg (by omega);replace hT:=hT.gr hg (by omega);replace HM0:=HM0.gr hg (fun h=>by cases h;omega);replace B2:=B2.gr hg (by omega);replace B3:=B3.gr hg (by omega);replace B4:=B4.gr hg (by omega);replace HoP:=HoP.grE hg hp5;replace HoL:=HoL.grE hg hl5;replace hN4s:=Nat.le_trans hN4s hg.size;clear hg
    refine tl_nil ?_
    rw[← hsi] at B5
    replace hf:=hf.kp [2,3,4,5,16,17,18,29,30,31]
    refine rgN 1 hf <| st ((add rfl rfl (by omega)).eq (congrArg (Value.int .i64) (show (i:Int)+1=((i+1:Nat):Int) from rfl))) <| en fun a w e' hf=>?_
    replace hT:=hT.ext e'
    replace HM0:=HM0.ext e'
    replace HoP:=HoP.ext e'
    replace HoL:=HoL.ext e'
    replace hN4s:=Nat.le_trans hN4s e'.size
    replace e:=e.tr e'
    replace B2:=B2.ext e'
    replace B3:=B3.ext e'
    replace B4:=B4.ext e'
    replace B5:=B5.ext e'
    refine tP hf (mv rfl) fun a w e' hf=>?_
    replace hT:=hT.ext e'
    replace HM0:=HM0.ext e'
    replace HoP:=HoP.ext e'
    replace HoL:=HoL.ext e'
    replace hN4s:=Nat.le_trans hN4s e'.size
    replace e:=e.tr e'
    replace B2:=B2.ext e'
    replace B3:=B3.ext e'
    replace B4:=B4.ext e'
    replace B5:=B5.ext e'
    refine tl_nil ?_
    replace hf:=hf.kp [2,3,4,5,16,17,18,29,30,31]
    refine⟨_,?_,i+1,rfl,by omega,hf,e,?_⟩
    ·omega
    exact⟨hT,HM0,B2,B3,B4,B5,HoP,HoL,hN4s⟩
   ·rw[if_neg hev] at hsi
    refine seq <| rgN 3 hf <| st (mv rfl) <| st (rem rfl rfl (by omega)) <| st ((eql rfl rfl).eq (congrArg Value.bool ((by rw[htm];exact beq_eq_false_iff_ne.2 (by omega):((i:Int).tmod 2==0)=false)))) ?_
    refine en fun a w e' hf=>?_
    replace hT:=hT.ext e'
    replace HM0:=HM0.ext e'
    replace HoP:=HoP.ext e'
    replace HoL:=HoL.ext e'
    replace hN4s:=Nat.le_trans hN4s e'.size
    replace e:=e.tr e'
    replace B2:=B2.ext e'
    replace B3:=B3.ext e'
    replace B4:=B4.ext e'
    replace B5:=B5.ext e'
    refine tl_nil <| ifc hf rfl (fun h=>by cases h) (fun _=>?_)
    refine wskip ?_
    rw[← hsi] at B5
    replace hf:=hf.kp [2,3,4,5,16,17,18,29,30,31]
    refine rgN 1 hf <| st ((add rfl rfl (by omega)).eq (congrArg (Value.int .i64) (show (i:Int)+1=((i+1:Nat):Int) from rfl))) <| en fun a w e' hf=>?_
    replace hT:=hT.ext e'
    replace HM0:=HM0.ext e'
    replace HoP:=HoP.ext e'
    replace HoL:=HoL.ext e'
    replace hN4s:=Nat.le_trans hN4s e'.size
    replace e:=e.tr e'
    replace B2:=B2.ext e'
    replace B3:=B3.ext e'
    replace B4:=B4.ext e'
    replace B5:=B5.ext e'
    refine tP hf (mv rfl) fun a w e' hf=>?_
    replace hT:=hT.ext e'
    replace HM0:=HM0.ext e'
    replace HoP:=HoP.ext e'
    replace HoL:=HoL.ext e'
    replace hN4s:=Nat.le_trans hN4s e'.size
    replace e:=e.tr e'
    replace B2:=B2.ext e'
    replace B3:=B3.ext e'
    replace B4:=B4.ext e'
    replace B5:=B5.ext e'
    refine tl_nil ?_
    replace hf:=hf.kp [2,3,4,5,16,17,18,29,30,31]
    refine⟨_,?_,i+1,rfl,by omega,hf,e,?_⟩
    ·omega
    exact⟨hT,HM0,B2,B3,B4,B5,HoP,HoL,hN4s⟩
  ·obtain rfl:i=L.length:=by have:=of_decide_eq_false hc;(try dsimp only at this);omega
   rw[← hsc] at B5
   replace hf:=hf.kp [2,3,4,5,16,17,18]
   refine rgN 1 hf <| st ((add rfl rfl (by omega)).eq (congrArg (Value.int .i64) (show (j:Int)+1=((j+1:Nat):Int) from rfl))) <| en fun a w e' hf=>?_
   obtain⟨hT,HM0,HoP,e,B2,B3,B4,B5⟩:=up8 e' hT HM0 HoP e B2 B3 B4 B5
   refine tP hf (mv rfl) fun a w e' hf=>?_
   obtain⟨hT,HM0,HoP,e,B2,B3,B4,B5⟩:=up8 e' hT HM0 HoP e B2 B3 B4 B5
   refine tl_nil ?_
   replace hf:=hf.kp [2,3,4,5,16,17,18]
   refine⟨_,?_,j+1,rfl,by omega,hf,e,?_⟩
   ·omega
   exact⟨hT,HM0,B2,B3,B4,B5,HoP⟩
 ·obtain rfl:j=ps.length:=by have:=of_decide_eq_false hc;(try dsimp only at this);omega
  obtain⟨one,hone⟩:∃one,one=oneF nb ps ps.length:=⟨_,rfl⟩
  rw[← hone] at B5 hrl hrb
  replace hf:=hf.kp [2,3,4,5]
  obtain⟨Nz,hNz⟩:∃Nz,Nz=w.heap.size:=⟨_,rfl⟩
  repeat refine seq ?_
  refine rgN 3 hf <| st (fA U79 rfl T76 rfl) <| st ((ldP T76 rfl B4 (by rw[adC_size];decide)).eq (congrArg Value.agg (adC_set V (.map (some bm0))))) ?_
  refine st (call1 (A:=SeqA Nz V) En62 rfl (fun v w' he h=>by cases h;exact Calls.mono (all_spec _ w') (fun en w2 ⟨u,h1,h2,b',h3,h4,h5⟩=>⟨u,h1,h2,b',by have:=he.size;omega,h4,h5⟩))) ?_
  refine en fun a w e' hf=>?_
  obtain⟨hT,HM0,e,B2,B3,B4,B5⟩:=up7 e' hT HM0 e B2 B3 B4 B5
  refine tl_nil ?_
  obtain⟨vv,⟨b46,h46,rfl,BS⟩,hf⟩:=hf.fix 46 rfl
  replace hf:=hf.kp [2,3,4,5,46]
  have hBW:W.heap.size≤w.heap.size:=e.size
  have h0w:0<w.heap.size:=hT.lt
  have l2:=B2.lt
  have l3:=B3.lt
  have l4:=B4.lt
  have l5:=B5.lt
  have lm:=HM0.lt
  refine blk <| range_all3 (S:=V) hf rfl BS (by decide) (fun s w1=>BpJ W nm0 bm0 l V one b2 b3 b4 b5 w1∧s.any (bdB nb one)=false)
   (fun ex w1=>ex=.ret∧BpJ W nm0 bm0 l V one b2 b3 b4 b5 w1∧(elems V).any (bdB nb one)=true) (fun s w1 h=>h.1.t)
   ⟨⟨e,hT,HM0,B2,B3,B4,B5⟩,rfl⟩ (fun s w1 w2 h hs k=>⟨h.1.kp k hBW h0w l2 l3 l4 l5 lm,h.2⟩)
   (fun ex w1 w2 ⟨q1,q2,q3⟩ hs k=>⟨q1,q2.kp k hBW h0w l2 l3 l4 l5 lm,q3⟩) ?_ ?_ ?_
  ·intro lp s x rest a1 w1 hs hJ hlw hf
   have hxV:V.getLsbD x=true:=(mem_elems.1 (by rw[hs];simp)).2
   have hx1024:x<1024:=bit_lt hxV
   generalize hBz:w.heap.size=Bz at *
   refine regn0 <| tA hf rfl fun a hf=>tl_nil <| ⟨Kh.rfl' _ _,fun w3 k3 hsz3=>?_⟩
   have hJ3:=hJ.1.kp k3 hBW h0w l2 l3 l4 l5 lm
   have hJs:=hJ.2
   replace hf:=hf.pure w3
   obtain⟨e,hT,HM0,B2,B3,B4,B5⟩:=hJ3
   have kh:=Kh.rfl' Bz w3
   have hgood:bdB nb one x=false→(s++[x]).any (bdB nb one)=false:=fun h=>by rw[List.any_append,hJs];simp[h]
   have hbad:bdB nb one x=true→(elems V).any (bdB nb one)=true:=fun h=>List.any_eq_true.2 ⟨x,by rw[hs];simp,h⟩
   rw[bdB] at hgood hbad
   obtain⟨nx,hnx⟩:∃nx,nx=nb (x:Int):=⟨_,rfl⟩
   rw[← hnx] at hgood hbad
   obtain⟨H,hH⟩:∃H,H=one.getLsbD x:=⟨_,rfl⟩
   have hbit:has one (x:Int)=H:=by rw[hH,Bool.eq_iff_iff];exact has_bit one x
   obtain⟨E2,hE2⟩:∃E2,E2=((nx &&& one)==0):=⟨_,rfl⟩
   obtain⟨E3,hE3⟩:∃E3,E3=(nx==0):=⟨_,rfl⟩
   obtain⟨Sb,hSb⟩:∃Sb,Sb=((nx &&& ~~~one)==0):=⟨_,rfl⟩
   rw[← hH,← hE2,← hE3,← hSb] at hgood hbad
   have hwx:(Lit.int .i64 (x:Int)).wf=true:=wf64 (by omega) (by omega)
   have hdv:=HM0.dvE hnm0 (G:=G0) (fun h=>h)
   have hlk:lkS l (x:Int)=nx:=by rw[hnx,hnb']
   have fI:∀w (v u:Value),(E (setV nx)).p v w→(E (setV one)).p u w→Calls Tryz.prog 74 #[v,u] w (Post (E (setV (nx &&& one))) w):=fun w v u k1 k2=>by cases k1;cases k2;exact inter_spec _ _ w
   have fE2:∀w (v:Value),(E (setV (nx &&& one))).p v w→Calls Tryz.prog 65 #[v] w (Post (E (B E2)) w):=fun w v k1=>by cases k1;rw[hE2];exact isEmpty_spec _ w
   have fE3:∀w (v:Value),(E (setV nx)).p v w→Calls Tryz.prog 65 #[v] w (Post (E (B E3)) w):=fun w v k1=>by cases k1;rw[hE3];exact isEmpty_spec _ w
   have fH:∀w (v u:Value),(E (setV one)).p v w→(E (I (x:Nat))).p u w→Calls Tryz.prog 75 #[v,u] w (Post (E (B H)) w):=fun w v u k1 k2=>by cases k1;cases k2;rw[← hbit];exact has_spec _ _ w
   have fS:∀w (v u:Value),(E (setV nx)).p v w→(E (setV one)).p u w→Calls Tryz.prog 76 #[v,u] w (Post (E (B Sb)) w):=fun w v u k1 k2=>by cases k1;cases k2;rw[hSb];exact subset_spec _ _ w
   replace hf:=hf.kp [2,3,4,5,12]
   refine blk ?_
   cases H with
   | false=>
    cases E2 with
    | false=>
     repeat refine seq ?_
     refine rgG 20 Mix.mix hf <| st (fA U79 rfl T77 rfl) <| st (ld1 (v:=.map (some bm0)) T77 rfl B4 (adC_map _ _)) <| st (mv rfl) <| st ((lkM (l:=l) (i:=(x:Int)) U77 zero_set (isE rfl hdv) rfl hwx).eq (congrArg setV hlk)) <| st ((ldW T76 rfl B5 rfl).eq ((rfl:_=setV one))) <| st (call2 (A:=E (setV (nx &&& one))) (B:=E (setV nx)) (C:=E (setV one)) En74 rfl rfl (fun v u w he h h'=>fI w v u h h')) <| st (call1 (A:=E (B false)) (B:=E (setV (nx &&& one))) En65 rfl (fun v w he h=>fE2 w v h)) <| st (notp rfl) <| st ((ldW T76 rfl B5 rfl).eq ((rfl:_=setV one))) <| st (mv rfl) <| st (call2 (A:=E (B false)) (B:=E (setV one)) (C:=E (I (x:Nat))) En75 rfl rfl (fun v u w he h h'=>fH w v u h h')) <| st (eqlB U4 rfl rfl) <| st (mv rfl) <| sn rfl rfl rfl <| sn rfl rfl rfl <| sn rfl rfl rfl <| sn rfl rfl rfl <| sn rfl rfl rfl <| sn rfl rfl rfl <| st (pkF rfl rfl) <| en fun a w e' hf=>?_
     obtain⟨hT,HM0⟩:=up2 e' hT HM0
     replace kh:=kh.tr (Kh.ext e')
     obtain⟨hdv,e,B2,B3,B4,B5⟩:=up6 e' hdv e B2 B3 B4 B5
     refine tl_nil ?_
     replace hf:=hf.kp [2,3,4,5,12,67]
     refine ifc hf rfl (fun h=>by cases h) (fun _=>?_)
     refine wskip ?_
     replace hf:=hf.kp [2,3,4,5,12]
     refine seq <| rgN 28 hf <| st ((ldW T76 rfl B5 rfl).eq ((rfl:_=setV one))) <| st (mv rfl) <| st (call2 (A:=E (B false)) (B:=E (setV one)) (C:=E (I (x:Nat))) En75 rfl rfl (fun v u w he h h'=>fH w v u h h')) <| st (mv rfl) <| sn rfl rfl rfl <| sn rfl rfl rfl <| sn rfl rfl rfl <| sn rfl rfl rfl <| sn rfl rfl rfl <| sn rfl rfl rfl <| sn rfl rfl rfl <| sn rfl rfl rfl <| st (pkF rfl rfl) <| st (mv rfl) <| sy rfl rfl ((ldW T76 rfl B5 rfl).eq ((rfl:_=setV one))) <| sy rfl rfl (mv rfl) <| sy rfl rfl (call2 (A:=E (B false)) (B:=E (setV one)) (C:=E (I (x:Nat))) En75 rfl rfl (fun v u w he h h'=>fH w v u h h')) <| sy rfl rfl (notp rfl) <| sy rfl rfl (mv rfl) <| sy rfl rfl (fA U79 rfl T77 rfl) <| sy rfl rfl (ld1 (v:=.map (some bm0)) T77 rfl B4 (adC_map _ _)) <| sy rfl rfl (mv rfl) <| sy rfl rfl ((lkM (l:=l) (i:=(x:Int)) U77 zero_set (isE rfl hdv) rfl hwx).eq (congrArg setV hlk)) <| sy rfl rfl ((ldW T76 rfl B5 rfl).eq ((rfl:_=setV one))) <| sy rfl rfl (call2 (A:=E (B Sb)) (B:=E (setV nx)) (C:=E (setV one)) En76 rfl rfl (fun v u w he h h'=>fS w v u h h')) <| sy rfl rfl (notp rfl) <| sy rfl rfl (pkT rfl rfl) <| st (pkF rfl rfl) <| en fun a w e' hf=>?_
     obtain⟨hT,HM0⟩:=up2 e' hT HM0
     replace kh:=kh.tr (Kh.ext e')
     obtain⟨hdv,e,B2,B3,B4,B5⟩:=up6 e' hdv e B2 B3 B4 B5
     refine tl_nil ?_
     replace hf:=hf.kp [2,3,4,5,12,95]
     cases Sb with
     | false=>
      refine ifc hf rfl (fun _=>?_) (fun h=>by cases h)
      replace hf:=hf.kp [2,3]
      have kk:=B2.lt
      refine seq <| regn0 <| tl_st1 T35 hf rfl rfl rfl B2 Nat.zero_lt_one fun w hg hsz B2 hf=>?_
      replace e:=e.gr hg (by omega);replace hT:=hT.gr hg (by omega);replace HM0:=HM0.gr hg (fun h=>nm23.1 (Option.some.inj h));replace B3:=B3.gr hg (by omega);replace B4:=B4.gr hg (by omega);replace B5:=B5.gr hg (by omega);replace kh:=kh.tr (Kh.gr hg (fun hh=>by have:=hh.1;omega));clear hg
      refine tl_st1 T4 hf rfl rfl rfl B3 Nat.zero_lt_one fun w hg hsz B3 hf=>?_
      replace e:=e.gr hg (by omega);replace hT:=hT.gr hg (by omega);replace HM0:=HM0.gr hg (fun h=>nm23.2 (Option.some.inj h));replace B2:=B2.gr hg (by omega);replace B4:=B4.gr hg (by omega);replace B5:=B5.gr hg (by omega);replace kh:=kh.tr (Kh.gr hg (fun hh=>by have:=hh.1;omega));clear hg
      refine tl_nil <| wret ?_
      exact⟨⟨rfl,⟨e,hT,HM0,B2,B3,B4,B5⟩,hbad (by cases E3 <;> rfl)⟩,kh⟩
     | true=>
      refine ifc hf rfl (fun h=>by cases h) (fun _=>?_)
      refine wskip ?_
      exact⟨⟨⟨e,hT,HM0,B2,B3,B4,B5⟩,hgood (by cases E3 <;> rfl)⟩,kh⟩
    | true=>
     repeat refine seq ?_
     refine rgG 20 Mix.mix hf <| st (fA U79 rfl T77 rfl) <| st (ld1 (v:=.map (some bm0)) T77 rfl B4 (adC_map _ _)) <| st (mv rfl) <| st ((lkM (l:=l) (i:=(x:Int)) U77 zero_set (isE rfl hdv) rfl hwx).eq (congrArg setV hlk)) <| st ((ldW T76 rfl B5 rfl).eq ((rfl:_=setV one))) <| st (call2 (A:=E (setV (nx &&& one))) (B:=E (setV nx)) (C:=E (setV one)) En74 rfl rfl (fun v u w he h h'=>fI w v u h h')) <| st (call1 (A:=E (B true)) (B:=E (setV (nx &&& one))) En65 rfl (fun v w he h=>fE2 w v h)) <| st (notp rfl) <| st ((ldW T76 rfl B5 rfl).eq ((rfl:_=setV one))) <| st (mv rfl) <| st (call2 (A:=E (B false)) (B:=E (setV one)) (C:=E (I (x:Nat))) En75 rfl rfl (fun v u w he h h'=>fH w v u h h')) <| st (eqlB U4 rfl rfl) <| st (mv rfl) <| sy rfl rfl (fA U79 rfl T77 rfl) <| sy rfl rfl (ld1 (v:=.map (some bm0)) T77 rfl B4 (adC_map _ _)) <| sy rfl rfl (mv rfl) <| sy rfl rfl ((lkM (l:=l) (i:=(x:Int)) U77 zero_set (isE rfl hdv) rfl hwx).eq (congrArg setV hlk)) <| sy rfl rfl (call1 (A:=E (B E3)) (B:=E (setV nx)) En65 rfl (fun v w he h=>fE3 w v h)) <| sy rfl rfl (notp rfl) <| st (pkT rfl rfl) <| en fun a w e' hf=>?_
     obtain⟨hT,HM0⟩:=up2 e' hT HM0
     replace kh:=kh.tr (Kh.ext e')
     obtain⟨hdv,e,B2,B3,B4,B5⟩:=up6 e' hdv e B2 B3 B4 B5
     refine tl_nil ?_
     replace hf:=hf.kp [2,3,4,5,12,67]
     cases E3 with
     | false=>
      refine ifc hf rfl (fun _=>?_) (fun h=>by cases h)
      replace hf:=hf.kp [2,3]
      have kk:=B2.lt
      refine seq <| regn0 <| tl_st1 T35 hf rfl rfl rfl B2 Nat.zero_lt_one fun w hg hsz B2 hf=>?_
      replace e:=e.gr hg (by omega);replace hT:=hT.gr hg (by omega);replace HM0:=HM0.gr hg (fun h=>nm23.1 (Option.some.inj h));replace B3:=B3.gr hg (by omega);replace B4:=B4.gr hg (by omega);replace B5:=B5.gr hg (by omega);replace kh:=kh.tr (Kh.gr hg (fun hh=>by have:=hh.1;omega));clear hg
      refine tl_st1 T4 hf rfl rfl rfl B3 Nat.zero_lt_one fun w hg hsz B3 hf=>?_
      replace e:=e.gr hg (by omega);replace hT:=hT.gr hg (by omega);replace HM0:=HM0.gr hg (fun h=>nm23.2 (Option.some.inj h));replace B2:=B2.gr hg (by omega);replace B4:=B4.gr hg (by omega);replace B5:=B5.gr hg (by omega);replace kh:=kh.tr (Kh.gr hg (fun hh=>by have:=hh.1;omega));clear hg
      refine tl_nil <| wret <| ⟨⟨rfl,⟨e,hT,HM0,B2,B3,B4,B5⟩,hbad (by rfl)⟩,kh⟩
     | true=>
      refine ifc hf rfl (fun h=>by cases h) (fun _=>?_)
      refine wskip ?_
      replace hf:=hf.kp [2,3,4,5,12]
      refine seq <| rgN 28 hf <| st ((ldW T76 rfl B5 rfl).eq ((rfl:_=setV one))) <| st (mv rfl) <| st (call2 (A:=E (B false)) (B:=E (setV one)) (C:=E (I (x:Nat))) En75 rfl rfl (fun v u w he h h'=>fH w v u h h')) <| st (mv rfl) <| sn rfl rfl rfl <| sn rfl rfl rfl <| sn rfl rfl rfl <| sn rfl rfl rfl <| sn rfl rfl rfl <| sn rfl rfl rfl <| sn rfl rfl rfl <| sn rfl rfl rfl <| st (pkF rfl rfl) <| st (mv rfl) <| sy rfl rfl ((ldW T76 rfl B5 rfl).eq ((rfl:_=setV one))) <| sy rfl rfl (mv rfl) <| sy rfl rfl (call2 (A:=E (B false)) (B:=E (setV one)) (C:=E (I (x:Nat))) En75 rfl rfl (fun v u w he h h'=>fH w v u h h')) <| sy rfl rfl (notp rfl) <| sy rfl rfl (mv rfl) <| sy rfl rfl (fA U79 rfl T77 rfl) <| sy rfl rfl (ld1 (v:=.map (some bm0)) T77 rfl B4 (adC_map _ _)) <| sy rfl rfl (mv rfl) <| sy rfl rfl ((lkM (l:=l) (i:=(x:Int)) U77 zero_set (isE rfl hdv) rfl hwx).eq (congrArg setV hlk)) <| sy rfl rfl ((ldW T76 rfl B5 rfl).eq ((rfl:_=setV one))) <| sy rfl rfl (call2 (A:=E (B Sb)) (B:=E (setV nx)) (C:=E (setV one)) En76 rfl rfl (fun v u w he h h'=>fS w v u h h')) <| sy rfl rfl (notp rfl) <| sy rfl rfl (pkT rfl rfl) <| st (pkF rfl rfl) <| en fun a w e' hf=>?_
      obtain⟨hT,HM0⟩:=up2 e' hT HM0
      replace kh:=kh.tr (Kh.ext e')
      obtain⟨hdv,e,B2,B3,B4,B5⟩:=up6 e' hdv e B2 B3 B4 B5
      refine tl_nil ?_
      replace hf:=hf.kp [2,3,4,5,12,95]
      cases Sb with
      | false=>
       refine ifc hf rfl (fun _=>?_) (fun h=>by cases h)
       replace hf:=hf.kp [2,3]
       have kk:=B2.lt
       refine seq <| regn0 <| tl_st1 T35 hf rfl rfl rfl B2 Nat.zero_lt_one fun w hg hsz B2 hf=>?_
       replace e:=e.gr hg (by omega);replace hT:=hT.gr hg (by omega);replace HM0:=HM0.gr hg (fun h=>nm23.1 (Option.some.inj h));replace B3:=B3.gr hg (by omega);replace B4:=B4.gr hg (by omega);replace B5:=B5.gr hg (by omega);replace kh:=kh.tr (Kh.gr hg (fun hh=>by have:=hh.1;omega));clear hg
       refine tl_st1 T4 hf rfl rfl rfl B3 Nat.zero_lt_one fun w hg hsz B3 hf=>?_
       replace e:=e.gr hg (by omega);replace hT:=hT.gr hg (by omega);replace HM0:=HM0.gr hg (fun h=>nm23.2 (Option.some.inj h));replace B2:=B2.gr hg (by omega);replace B4:=B4.gr hg (by omega);replace B5:=B5.gr hg (by omega);replace kh:=kh.tr (Kh.gr hg (fun hh=>by have:=hh.1;omega));clear hg
       refine tl_nil <| wret <| ⟨⟨rfl,⟨e,hT,HM0,B2,B3,B4,B5⟩,hbad (by rfl)⟩,kh⟩
      | true=>
       refine ifc hf rfl (fun h=>by cases h) (fun _=>?_)
       refine wskip <| ⟨⟨⟨e,hT,HM0,B2,B3,B4,B5⟩,hgood rfl⟩,kh⟩
   | true=>
    cases E2 with
    | false=>
     repeat refine seq ?_
     refine rgG 20 Mix.mix hf <| st (fA U79 rfl T77 rfl) <| st (ld1 (v:=.map (some bm0)) T77 rfl B4 (adC_map _ _)) <| st (mv rfl) <| st ((lkM (l:=l) (i:=(x:Int)) U77 zero_set (isE rfl hdv) rfl hwx).eq (congrArg setV hlk)) <| st ((ldW T76 rfl B5 rfl).eq ((rfl:_=setV one))) <| st (call2 (A:=E (setV (nx &&& one))) (B:=E (setV nx)) (C:=E (setV one)) En74 rfl rfl (fun v u w he h h'=>fI w v u h h')) <| st (call1 (A:=E (B false)) (B:=E (setV (nx &&& one))) En65 rfl (fun v w he h=>fE2 w v h)) <| st (notp rfl) <| st ((ldW T76 rfl B5 rfl).eq ((rfl:_=setV one))) <| st (mv rfl) <| st (call2 (A:=E (B true)) (B:=E (setV one)) (C:=E (I (x:Nat))) En75 rfl rfl (fun v u w he h h'=>fH w v u h h')) <| st (eqlB U4 rfl rfl) <| st (mv rfl) <| sy rfl rfl (fA U79 rfl T77 rfl) <| sy rfl rfl (ld1 (v:=.map (some bm0)) T77 rfl B4 (adC_map _ _)) <| sy rfl rfl (mv rfl) <| sy rfl rfl ((lkM (l:=l) (i:=(x:Int)) U77 zero_set (isE rfl hdv) rfl hwx).eq (congrArg setV hlk)) <| sy rfl rfl (call1 (A:=E (B E3)) (B:=E (setV nx)) En65 rfl (fun v w he h=>fE3 w v h)) <| sy rfl rfl (notp rfl) <| st (pkT rfl rfl) <| en fun a w e' hf=>?_
     obtain⟨hT,HM0⟩:=up2 e' hT HM0
     replace kh:=kh.tr (Kh.ext e')
     obtain⟨hdv,e,B2,B3,B4,B5⟩:=up6 e' hdv e B2 B3 B4 B5
     refine tl_nil ?_
     replace hf:=hf.kp [2,3,4,5,12,67]
     cases E3 with
     | false=>
      refine ifc hf rfl (fun _=>?_) (fun h=>by cases h)
      replace hf:=hf.kp [2,3]
      have kk:=B2.lt
      refine seq <| regn0 <| tl_st1 T35 hf rfl rfl rfl B2 Nat.zero_lt_one fun w hg hsz B2 hf=>?_
      replace e:=e.gr hg (by omega);replace hT:=hT.gr hg (by omega);replace HM0:=HM0.gr hg (fun h=>nm23.1 (Option.some.inj h));replace B3:=B3.gr hg (by omega);replace B4:=B4.gr hg (by omega);replace B5:=B5.gr hg (by omega);replace kh:=kh.tr (Kh.gr hg (fun hh=>by have:=hh.1;omega));clear hg
      refine tl_st1 T4 hf rfl rfl rfl B3 Nat.zero_lt_one fun w hg hsz B3 hf=>?_
      replace e:=e.gr hg (by omega);replace hT:=hT.gr hg (by omega);replace HM0:=HM0.gr hg (fun h=>nm23.2 (Option.some.inj h));replace B2:=B2.gr hg (by omega);replace B4:=B4.gr hg (by omega);replace B5:=B5.gr hg (by omega);replace kh:=kh.tr (Kh.gr hg (fun hh=>by have:=hh.1;omega));clear hg
      refine tl_nil <| wret <| ⟨⟨rfl,⟨e,hT,HM0,B2,B3,B4,B5⟩,hbad (by rfl)⟩,kh⟩
     | true=>
      refine ifc hf rfl (fun h=>by cases h) (fun _=>?_)
      refine wskip ?_
      replace hf:=hf.kp [2,3,4,5,12]
      refine seq <| rgN 28 hf <| st ((ldW T76 rfl B5 rfl).eq ((rfl:_=setV one))) <| st (mv rfl) <| st (call2 (A:=E (B true)) (B:=E (setV one)) (C:=E (I (x:Nat))) En75 rfl rfl (fun v u w he h h'=>fH w v u h h')) <| st (mv rfl) <| sy rfl rfl (fA U79 rfl T77 rfl) <| sy rfl rfl (ld1 (v:=.map (some bm0)) T77 rfl B4 (adC_map _ _)) <| sy rfl rfl (mv rfl) <| sy rfl rfl ((lkM (l:=l) (i:=(x:Int)) U77 zero_set (isE rfl hdv) rfl hwx).eq (congrArg setV hlk)) <| sy rfl rfl ((ldW T76 rfl B5 rfl).eq ((rfl:_=setV one))) <| sy rfl rfl (call2 (A:=E (setV (nx &&& one))) (B:=E (setV nx)) (C:=E (setV one)) En74 rfl rfl (fun v u w he h h'=>fI w v u h h')) <| sy rfl rfl (call1 (A:=E (B false)) (B:=E (setV (nx &&& one))) En65 rfl (fun v w he h=>fE2 w v h)) <| sy rfl rfl (notp rfl) <| st (pkT rfl rfl) <| st (mv rfl) <| sn rfl rfl rfl <| sn rfl rfl rfl <| sn rfl rfl rfl <| sn rfl rfl rfl <| sn rfl rfl rfl <| su rfl rfl <| su rfl rfl <| su rfl rfl <| su rfl rfl <| su rfl rfl <| su rfl rfl <| su rfl rfl <| sn rfl rfl rfl <| st (pkT rfl rfl) <| en fun a w e' hf=>?_
      obtain⟨hT,HM0⟩:=up2 e' hT HM0
      replace kh:=kh.tr (Kh.ext e')
      obtain⟨hdv,e,B2,B3,B4,B5⟩:=up6 e' hdv e B2 B3 B4 B5
      refine tl_nil ?_
      replace hf:=hf.kp [2,3,4,5,12,95]
      refine ifc hf rfl (fun _=>?_) (fun h=>by cases h)
      replace hf:=hf.kp [2,3]
      have kk:=B2.lt
      refine seq <| regn0 <| tl_st1 T35 hf rfl rfl rfl B2 Nat.zero_lt_one fun w hg hsz B2 hf=>?_
      replace e:=e.gr hg (by omega);replace hT:=hT.gr hg (by omega);replace HM0:=HM0.gr hg (fun h=>nm23.1 (Option.some.inj h));replace B3:=B3.gr hg (by omega);replace B4:=B4.gr hg (by omega);replace B5:=B5.gr hg (by omega);replace kh:=kh.tr (Kh.gr hg (fun hh=>by have:=hh.1;omega));clear hg
      refine tl_st1 T4 hf rfl rfl rfl B3 Nat.zero_lt_one fun w hg hsz B3 hf=>?_
      replace e:=e.gr hg (by omega);replace hT:=hT.gr hg (by omega);replace HM0:=HM0.gr hg (fun h=>nm23.2 (Option.some.inj h));replace B2:=B2.gr hg (by omega);replace B4:=B4.gr hg (by omega);replace B5:=B5.gr hg (by omega);replace kh:=kh.tr (Kh.gr hg (fun hh=>by have:=hh.1;omega));clear hg
      refine tl_nil <| wret <| ⟨⟨rfl,⟨e,hT,HM0,B2,B3,B4,B5⟩,hbad (by rfl)⟩,kh⟩
    | true=>
     repeat refine seq ?_
     refine rgG 20 Mix.mix hf <| st (fA U79 rfl T77 rfl) <| st (ld1 (v:=.map (some bm0)) T77 rfl B4 (adC_map _ _)) <| st (mv rfl) <| st ((lkM (l:=l) (i:=(x:Int)) U77 zero_set (isE rfl hdv) rfl hwx).eq (congrArg setV hlk)) <| st ((ldW T76 rfl B5 rfl).eq ((rfl:_=setV one))) <| st (call2 (A:=E (setV (nx &&& one))) (B:=E (setV nx)) (C:=E (setV one)) En74 rfl rfl (fun v u w he h h'=>fI w v u h h')) <| st (call1 (A:=E (B true)) (B:=E (setV (nx &&& one))) En65 rfl (fun v w he h=>fE2 w v h)) <| st (notp rfl) <| st ((ldW T76 rfl B5 rfl).eq ((rfl:_=setV one))) <| st (mv rfl) <| st (call2 (A:=E (B true)) (B:=E (setV one)) (C:=E (I (x:Nat))) En75 rfl rfl (fun v u w he h h'=>fH w v u h h')) <| st (eqlB U4 rfl rfl) <| st (mv rfl) <| sn rfl rfl rfl <| sn rfl rfl rfl <| sn rfl rfl rfl <| sn rfl rfl rfl <| sn rfl rfl rfl <| sn rfl rfl rfl <| st (pkF rfl rfl) <| en fun a w e' hf=>?_
     obtain⟨hT,HM0⟩:=up2 e' hT HM0
     replace kh:=kh.tr (Kh.ext e')
     obtain⟨hdv,e,B2,B3,B4,B5⟩:=up6 e' hdv e B2 B3 B4 B5
     refine tl_nil ?_
     replace hf:=hf.kp [2,3,4,5,12,67]
     refine ifc hf rfl (fun h=>by cases h) (fun _=>?_)
     refine wskip ?_
     replace hf:=hf.kp [2,3,4,5,12]
     refine seq <| rgN 28 hf <| st ((ldW T76 rfl B5 rfl).eq ((rfl:_=setV one))) <| st (mv rfl) <| st (call2 (A:=E (B true)) (B:=E (setV one)) (C:=E (I (x:Nat))) En75 rfl rfl (fun v u w he h h'=>fH w v u h h')) <| st (mv rfl) <| sy rfl rfl (fA U79 rfl T77 rfl) <| sy rfl rfl (ld1 (v:=.map (some bm0)) T77 rfl B4 (adC_map _ _)) <| sy rfl rfl (mv rfl) <| sy rfl rfl ((lkM (l:=l) (i:=(x:Int)) U77 zero_set (isE rfl hdv) rfl hwx).eq (congrArg setV hlk)) <| sy rfl rfl ((ldW T76 rfl B5 rfl).eq ((rfl:_=setV one))) <| sy rfl rfl (call2 (A:=E (setV (nx &&& one))) (B:=E (setV nx)) (C:=E (setV one)) En74 rfl rfl (fun v u w he h h'=>fI w v u h h')) <| sy rfl rfl (call1 (A:=E (B true)) (B:=E (setV (nx &&& one))) En65 rfl (fun v w he h=>fE2 w v h)) <| sy rfl rfl (notp rfl) <| st (pkT rfl rfl) <| st (mv rfl) <| sy rfl rfl ((ldW T76 rfl B5 rfl).eq ((rfl:_=setV one))) <| sy rfl rfl (mv rfl) <| sy rfl rfl (call2 (A:=E (B true)) (B:=E (setV one)) (C:=E (I (x:Nat))) En75 rfl rfl (fun v u w he h h'=>fH w v u h h')) <| sy rfl rfl (notp rfl) <| sy rfl rfl (mv rfl) <| sn rfl rfl rfl <| sn rfl rfl rfl <| sn rfl rfl rfl <| sn rfl rfl rfl <| sn rfl rfl rfl <| sn rfl rfl rfl <| sn rfl rfl rfl <| sy rfl rfl (pkF rfl rfl) <| st (pkF rfl rfl) <| en fun a w e' hf=>?_
     obtain⟨hT,HM0⟩:=up2 e' hT HM0
     replace kh:=kh.tr (Kh.ext e')
     obtain⟨hdv,e,B2,B3,B4,B5⟩:=up6 e' hdv e B2 B3 B4 B5
     refine tl_nil ?_
     replace hf:=hf.kp [2,3,4,5,12,95]
     refine ifc hf rfl (fun h=>by cases h) (fun _=>?_)
     refine wskip ?_
     exact⟨⟨⟨e,hT,HM0,B2,B3,B4,B5⟩,hgood (by cases E3 <;> rfl)⟩,kh⟩
  ·intro a' w' hf' hJ hsz hDn
   simp only[Exit.inBlock,↓reduceIte,Exit.then]
   rw[hJ.2] at hrb
   replace hrb:rb=true:=hrb
   rw[hrb,if_pos rfl] at hrl
   have hD:Ds [w.heap.size] w':=(Ds.nil w').cons hDn (by simp)
   have hf:FrD 98 (marks [w.heap.size]) a' w' [(2,E (ptr b2)),(3,E (ptr b3)),(5,E (ptr b5))]:=hf'.keep [2,3,5]
   have hDW:∀d∈[w.heap.size],W.heap.size≤d:=fun d hd=>by rw[List.mem_singleton] at hd;omega
   obtain⟨e,hT,HM0,B2,B3,B4,B5⟩:=hJ.1
   have hb2:=hD.ne B2
   have hb3:=hD.ne B3
   generalize [w.heap.size]=D2 at *
   generalize w'=w at *
   obtain⟨N9,hN9⟩:∃N9,N9=w.heap.size:=⟨_,rfl⟩
   have hN9s:N9≤w.heap.size:=Nat.le_of_eq hN9
   have hl9:b2<N9∧b3<N9:=by rw[hN9];exact⟨B2.lt,B3.lt⟩
   have hd9:∀d∈D2,d<N9:=fun d hd=>by rw[hN9];exact hD.lt hd
   refine seq <| rgN 2 hf <| st ((ldW T76 rfl B5 rfl).eq ((rfl:_=setV one))) <| st (call1 (A:=OwA intE 3 N9 G0 (elL one)) (B:=E (setV one)) En56 rfl (fun u w he k=>by cases k;exact (elementsO_spec one w (hT.ext he)).mono fun en w' ⟨u,k1,k2,k3⟩=>⟨u,k1,k2,OwR.low k3 (Nat.le_trans hN9s he.size) fun b hb=>hb.elim⟩)) ?_
   refine en fun a w e' hf=>?_
   obtain⟨hT,e,B2,B3,B5,hD⟩:=up6 e' hT e B2 B3 B5 hD
   obtain⟨ev,HoE,hf⟩:=hf.opn 97 rfl
   replace HoE:OwR intE 3 N9 G0 w (elL one) ev:=HoE
   have hro:ev.oneCell'=true:=HoE.one
   replace hf:=hf.kp [2,3,97]
   refine tl_st1 T35 hf rfl rfl hro B2 Nat.zero_lt_one fun w hg hsz B2 hf=>?_
   obtain⟨e,B3⟩:=gr2 hg e B3
   replace hD:=hD.gr hg hb2;replace HoE:=HoE.grE hg (HoE.neLt hl9.1)
   refine tl_st1 T4 hf rfl rfl rfl B3 Nat.zero_lt_one fun w hg hsz B3 hf=>?_
   obtain⟨e,B2⟩:=gr2 hg e B2
   replace hD:=hD.gr hg hb3;replace HoE:=HoE.grE hg (HoE.neLt hl9.2)
   refine tl_nil ?_
   replace B2:Blk w b2 #[ev] 35:=B2
   replace B3:Blk w b3 #[B true] 4:=B3
   refine wret <| retc2M rfl T35 T4 hf rfl rfl B2 B3 hD ⟨_,rfl,e.shut hDW,Tup.two ?_ (by rw[hrb];rfl)⟩
   rw[hrl]
   exact ((HoE.chE (chg_shut D2 w) fun b hb hm=>by have h1:=(HoE.lt hb).1;have h2:=hd9 b hm;omega)).sl
  ·intro ex c a' w' hcd hf' hX hsz hDn
   obtain⟨rfl,hJ,hany⟩:=hX
   simp only[Exit.inBlock,↓reduceIte,Exit.then]
   rw[hany] at hrb
   replace hrb:rb=false:=hrb
   rw[hrb,if_neg (by decide)] at hrl
   subst hrl hrb
   have hD:Ds [w.heap.size] w':=(Ds.nil w').cons hDn (by simp)
   have hf:FrD 98 (marks [w.heap.size]) a' w' [(2,E (ptr b2)),(3,E (ptr b3))]:=hf'.keep [2,3]
   have hDW:∀d∈[w.heap.size],W.heap.size≤d:=fun d hd=>by rw[List.mem_singleton] at hd;omega
   exact retc2M rfl T35 T4 hf rfl rfl hJ.p2 hJ.p3 hD ⟨_,rfl,hJ.e.shut hDW,Tup.two Dv.nil rfl⟩
def lkI (l:List (Int×Int))(i:Int):Int:=((l.find? fun p=>decide (p.1=i)).map (·.2)).getD 0
theorem lkI_put (l:List (Int×Int))(x:Int)(c:Int)(i:Int):lkI (putP l x c) i=if i=x then c else lkI l i:=by
 rw[lkI,putP,List.find?_cons]
 by_cases h:x=i
 ·subst h;simp
 ·have h1:decide ((x,c).1=i)=false:=by simp[h]
  rw[h1,if_neg (Ne.symm h),lkI]
  congr 2
  induction l with
  | nil=>rfl
  | cons p l ih=>
   rw[List.filter_cons]
   by_cases hp:p.1=x
   ·have h2:decide (p.1=i)=false:=by rw[hp];simp[h]
    rw[if_neg (by simp[hp]),List.find?_cons,h2];exact ih
   ·rw[if_pos (by simp[hp]),List.find?_cons,List.find?_cons]
    cases decide (p.1=i) <;> simp[ih]
theorem lkI_mem {l:List (Int×Int)}{i:Int}(h:lkI l i≠0):(i,lkI l i)∈l:=by
 rw[lkI] at h ⊢
 cases hf:l.find? (fun p=>decide (p.1=i)) with
 | none=>rw[hf] at h;exact absurd rfl h
 | some p=>
  have h1:p.1=i:=by simpa using List.find?_some hf
  have h2:=List.mem_of_find?_eq_some hf
  show (i,p.2)∈l
  rw[← h1];exact h2
theorem lkI_range {l:List (Int×Int)}{lo hi:Int}(h:∀p∈l,lo≤p.2∧p.2≤hi)(h0:lo≤0)(h1:0≤hi)(i:Int):lo≤lkI l i∧lkI l i≤hi:=by
 by_cases hz:lkI l i=0
 ·rw[hz];exact⟨h0,h1⟩
 ·exact h _ (lkI_mem hz)
theorem lkI_pos {l:List (Int×Int)}(h:∀p∈l,0<p.2){i c:Int}(hm:(i,c)∈l):0<lkI l i:=by
 rw[lkI]
 cases hf:l.find? (fun p=>decide (p.1=i)) with
 | none=>have:=List.find?_eq_none.1 hf _ hm;simp at this
 | some p=>exact h p (List.mem_of_find?_eq_some hf)
theorem putP_mem {α β:Type}[DecidableEq α]{l:List (α×β)}{x:α}{c:β}{p:α×β}(h:p∈putP l x c):p=(x,c)∨p∈l:=by
 rcases List.mem_cons.1 h with h|h
 ·exact .inl h
 ·exact .inr (List.mem_filter.1 h).1
theorem putP_pw {α β:Type}[DecidableEq α]{l:List (α×β)}(x:α)(c:β)(h:l.Pairwise fun p q=>p.1≠q.1):(putP l x c).Pairwise fun p q=>p.1≠q.1:=by
 refine List.pairwise_cons.2 ⟨fun q hq=>?_,h.filter _⟩
 have:=(List.mem_filter.1 hq).2
 simp only[Bool.not_eq_true',decide_eq_false_iff_not] at this
 exact fun e=>this e.symm
theorem putP_len {α β:Type}[DecidableEq α]{l:List (α×β)}{x:α}(c:β)(h:∀d,(x,d) ∉ l):(putP l x c).length=l.length+1:=by
 rw[(putP_new' (c:=c) h).length_eq,List.length_append];rfl
structure BcS where
 la:List (Int×Int)
 ll:List (Int×Int)
 way:List Nat
 out:List (List Int)
def bcP (id:Nat)(s:BcS):BcS:={ s with la:=putP s.la (id:Int) ((s.la.length:Nat)+1:Int),ll:=putP s.ll (id:Int) (lkI (putP s.la (id:Int) ((s.la.length:Nat)+1:Int)) (id:Int)),way:=s.way++[id] }
def bcL (id next:Nat)(s:BcS):BcS:={ s with ll:=putP s.ll (id:Int) (min (lkI s.ll (id:Int)) (lkI s.la (next:Int))) }
def bcM (id next:Nat)(s:BcS):BcS:={ s with ll:=putP s.ll (id:Int) (min (lkI s.ll (id:Int)) (lkI s.ll (next:Int))) }
def bcC (id behind:Nat)(s:BcS):BcS:={ s with out:=s.out++[elL ((natE (s.way.drop behind++[id])).foldl ins 0)],way:=s.way.take behind }
def bcT (R:Nat→Int→BcS→BcS)(id:Nat)(frm:Int)(s:BcS)(next:Nat):BcS:=
 if (next:Int)=frm then s
 else if 0<lkI s.la (next:Int) then bcL id next s
 else if lkI (bcM id next (R next (id:Int) s)).la (id:Int)≤lkI (bcM id next (R next (id:Int) s)).ll (next:Int) then bcC id s.way.length (bcM id next (R next (id:Int) s)) else bcM id next (R next (id:Int) s)
def bcF (nb:Int→BS):Nat→Nat→Int→BcS→BcS
 | 0,_,_,s=>s
 | f+1,id,frm,s=>(elems (nb (id:Int))).foldl (bcT (bcF nb f) id frm) (bcP id s)
structure BcI (V:BS)(c:Nat)(s:BcS):Prop where
 ka:∀p∈s.la,∃n:Nat,p.1=(n:Int)∧V.getLsbD n=true
 va:∀p∈s.la,1≤p.2∧p.2≤1025
 na:s.la.Pairwise fun p q=>p.1≠q.1
 kl:∀p∈s.ll,∃n:Nat,p.1=(n:Int)∧V.getLsbD n=true
 vl:∀p∈s.ll,0≤p.2∧p.2≤1025
 nl:s.ll.Pairwise fun p q=>p.1≠q.1
 w:s.way.length≤s.la.length
 wm:∀x∈s.way,x<1024
 o:s.out.length≤s.la.length+c
theorem keys_le {V:BS}{l:List (Int×Int)}(hk:∀p∈l,∃n:Nat,p.1=(n:Int)∧V.getLsbD n=true)(hn:l.Pairwise fun p q=>p.1≠q.1):l.length≤card V:=by
 have:=nd_lenI (l.map (·.1)) (natE (elems V)) (List.pairwise_map.2 hn) fun x hx=>by
  obtain⟨p,hp,rfl⟩:=List.mem_map.1 hx
  obtain⟨n,h1,h2⟩:=hk p hp
  rw[h1]
  exact List.mem_map.2 ⟨n,mem_elems.2 ⟨bit_lt h2,h2⟩,rfl⟩
 rw[List.length_map,natE_len,card_elems] at this
 exact this
section
variable {V:BS}{c:Nat}{s:BcS}
theorem BcI.al (h:BcI V c s):s.la.length≤1024:=Nat.le_trans (keys_le h.ka h.na) (card_le_1024 V)
theorem BcI.ll' (h:BcI V c s):s.ll.length≤1024:=Nat.le_trans (keys_le h.kl h.nl) (card_le_1024 V)
theorem BcI.ar (h:BcI V c s)(i:Int):0≤lkI s.la i∧lkI s.la i≤1025:=lkI_range (fun p hp=>⟨by have:=h.va p hp;omega,(h.va p hp).2⟩) (by omega) (by omega) i
theorem BcI.lr (h:BcI V c s)(i:Int):0≤lkI s.ll i∧lkI s.ll i≤1025:=lkI_range h.vl (by omega) (by omega) i
theorem BcI.new (h:BcI V c s){id:Int}(hi:lkI s.la id≤0):∀d,(id,d) ∉ s.la:=fun d hd=>by
 have:=lkI_pos (fun p hp=>by have:=h.va p hp;omega) hd
 omega
theorem BcI.setL (h:BcI V c s){id:Nat}(hid:V.getLsbD id=true){v:Int}(hv:0≤v∧v≤1025):BcI V c { s with ll:=putP s.ll (id:Int) v }:=
 ⟨h.ka,h.va,h.na,fun p hp=>by
  rcases putP_mem hp with rfl|hp
  ·exact⟨id,rfl,hid⟩
  ·exact h.kl p hp,fun p hp=>by
  rcases putP_mem hp with rfl|hp
  ·exact hv
  ·exact h.vl p hp,putP_pw _ _ h.nl,h.w,h.wm,h.o⟩
theorem BcI.push (h:BcI V c s){id:Nat}(hid:V.getLsbD id=true)(hi:lkI s.la (id:Int)≤0):BcI V c (bcP id s)∧(bcP id s).la.length=s.la.length+1:=by
 have hlen:=putP_len ((s.la.length:Nat)+1:Int) (h.new hi)
 have hal:=h.al
 have h1:BcI V c { s with la:=putP s.la (id:Int) ((s.la.length:Nat)+1:Int),way:=s.way++[id] }:=
  ⟨fun p hp=>by
   rcases putP_mem hp with rfl|hp
   ·exact⟨id,rfl,hid⟩
   ·exact h.ka p hp,fun p hp=>by
   rcases putP_mem hp with rfl|hp
   ·dsimp only;omega
   ·exact h.va p hp,putP_pw _ _ h.na,h.kl,h.vl,h.nl,by
    show (s.way++[id]).length≤(putP s.la (id:Int) ((s.la.length:Nat)+1:Int)).length
    rw[hlen,List.length_append,List.length_singleton];have:=h.w;omega,fun x hx=>by
   rcases List.mem_append.1 hx with hx|hx
   ·exact h.wm x hx
   ·rw[List.mem_singleton.1 hx];exact bit_lt hid,by
    show s.out.length≤(putP s.la (id:Int) ((s.la.length:Nat)+1:Int)).length+c
    rw[hlen];have:=h.o;omega⟩
 exact⟨h1.setL hid (h1.ar (id:Int)),hlen⟩
def unv (V:BS)(la:List (Int×Int)):Nat:=((elems V).filter fun v:Nat=>decide (lkI la (v:Int)≤0)).length
theorem unv_mono {V:BS}{la la':List (Int×Int)}(h:∀i,0<lkI la i→0<lkI la' i):unv V la'≤unv V la:=by
 rw[unv,unv,← List.countP_eq_length_filter,← List.countP_eq_length_filter]
 refine List.countP_mono_left fun v _ hv=>?_
 have h1:=of_decide_eq_true hv
 refine decide_eq_true <| Classical.byContradiction fun hn=>?_
 have:=h (v:Int) (by omega)
 omega
theorem unv_lt {V:BS}{la la':List (Int×Int)}{id:Nat}(hid:V.getLsbD id=true)(h0:lkI la (id:Int)≤0)(h1:0<lkI la' (id:Int))(h:∀i,0<lkI la i→0<lkI la' i):unv V la'<unv V la:=by
 rw[unv,unv]
 have hm:id∈elems V:=mem_elems.2 ⟨bit_lt hid,hid⟩
 generalize elems V=l at hm
 have hle:∀l:List Nat,(l.filter fun v:Nat=>decide (lkI la' (v:Int)≤0)).length≤(l.filter fun v:Nat=>decide (lkI la (v:Int)≤0)).length:=fun l=>by
  rw[← List.countP_eq_length_filter,← List.countP_eq_length_filter]
  refine List.countP_mono_left fun v _ hv=>decide_eq_true ?_
  have h2:=of_decide_eq_true hv
  refine Classical.byContradiction fun hn=>?_
  have:=h (v:Int) (by omega)
  omega
 induction l with
 | nil=>cases hm
 | cons x l ih=>
  rw[List.filter_cons,List.filter_cons]
  rcases List.mem_cons.1 hm with rfl|hm
  ·rw[if_neg (by simp;omega),if_pos (by simp;omega),List.length_cons]
   have:=hle l
   omega
  ·have:=ih hm
   by_cases hx:lkI la' (x:Int)≤0
   ·have hx2:lkI la (x:Int)≤0:=Classical.byContradiction fun hn=>by
     have:=h (x:Int) (by omega);omega
    rw[if_pos (decide_eq_true hx),if_pos (decide_eq_true hx2),List.length_cons,List.length_cons]
    omega
   ·rw[if_neg (by simpa using hx)]
    split
    ·rw[List.length_cons];omega
    ·exact this
structure BcQ (V:BS)(c:Nat)(s1 s:BcS):Prop where
 i:BcI V c s
 m:∀i,0<lkI s1.la i→0<lkI s.la i
 w:∃t,s.way=s1.way++t
 d:s.out.length+s1.la.length≤s1.out.length+s.la.length
theorem BcQ.rfl' (h:BcI V c s):BcQ V c s s:=⟨h,fun _ h=>h,⟨[],(List.append_nil _).symm⟩,Nat.le_refl _⟩
structure BcR (V:BS)(c:Nat)(id:Nat)(s s':BcS):Prop where
 i:BcI V c s'
 m:∀i,0<lkI s.la i→0<lkI s'.la i
 w:∃t,s'.way=s.way++id::t
 d:s'.out.length+s.la.length+1≤s.out.length+s'.la.length
theorem bcM_la (id next:Nat)(s:BcS):(bcM id next s).la=s.la:=rfl
theorem bcM_way (id next:Nat)(s:BcS):(bcM id next s).way=s.way:=rfl
theorem bcM_out (id next:Nat)(s:BcS):(bcM id next s).out=s.out:=rfl
theorem BcI.setM (h:BcI V c s){id:Nat}(hid:V.getLsbD id=true)(next:Nat):BcI V c (bcM id next s):=
 h.setL hid (by have h1:=h.lr (id:Int);have h2:=h.lr (next:Int);omega)
theorem BcI.setL2 (h:BcI V c s){id:Nat}(hid:V.getLsbD id=true)(next:Nat):BcI V c (bcL id next s):=
 h.setL hid (by have h1:=h.lr (id:Int);have h2:=h.ar (next:Int);omega)
theorem bc_step {s1:BcS}{R:Nat→Int→BcS→BcS}{id next:Nat}{frm:Int}(hid:V.getLsbD id=true)(h:BcQ V c s1 s)(hR:lkI s.la (next:Int)≤0→BcR V c next s (R next (id:Int) s)):BcQ V c s1 (bcT R id frm s next):=by
 rw[bcT]
 split
 ·exact h
 split
 ·exact⟨h.i.setL2 hid next,h.m,h.w,h.d⟩
 ·rename_i _ hn
  have r:=hR (by omega)
  obtain⟨t1,ht1⟩:=h.w
  obtain⟨t2,ht2⟩:=r.w
  have hd1:=h.d
  have hd2:=r.d
  have ri:=r.i.setM hid next
  have rm:=r.m
  generalize R next (id:Int) s=s2 at *
  split
  ·refine⟨⟨ri.ka,ri.va,ri.na,ri.kl,ri.vl,ri.nl,?_,fun x hx=>ri.wm x (List.mem_of_mem_take hx),?_⟩,fun i hi=>rm i (h.m i hi),⟨t1,?_⟩,?_⟩
   ·refine Nat.le_trans (List.length_take_le' _ _) ri.w
   ·show (s2.out++[_]).length≤s2.la.length+c
    rw[List.length_append,List.length_singleton]
    have:=h.i.o
    omega
   ·show s2.way.take s.way.length=s1.way++t1
    rw[ht2,List.take_append_of_le_length (Nat.le_refl _),List.take_length,ht1]
   ·show (s2.out++[_]).length+s1.la.length≤s1.out.length+s2.la.length
    rw[List.length_append,List.length_singleton]
    omega
  ·exact⟨ri,fun i hi=>rm i (h.m i hi),⟨t1++next::t2,by rw[bcM_way,ht2,ht1,List.append_assoc]⟩,by rw[bcM_out,bcM_la];omega⟩
theorem bc_start {id:Nat}(h:BcI V c s)(hid:V.getLsbD id=true)(hi:lkI s.la (id:Int)≤0):(∀i,0<lkI s.la i→0<lkI (bcP id s).la i)∧0<lkI (bcP id s).la (id:Int)∧unv V (bcP id s).la<unv V s.la:=by
 have h1:∀i,lkI (bcP id s).la i=if i=(id:Int) then ((s.la.length:Nat)+1:Int) else lkI s.la i:=fun i=>lkI_put _ _ _ _
 have h2:0<lkI (bcP id s).la (id:Int):=by rw[h1,if_pos rfl];omega
 have h3:∀i,0<lkI s.la i→0<lkI (bcP id s).la i:=fun i hh=>by rw[h1];split <;> omega
 exact⟨h3,h2,unv_lt hid hi h2 h3⟩
theorem bc_ok {nb:Int→BS}(hV:∀i j:Nat,(nb (i:Int)).getLsbD j=true→V.getLsbD j=true):∀(f:Nat) (id:Nat) (frm:Int) (s:BcS),BcI V c s→V.getLsbD id=true→lkI s.la (id:Int)≤0→unv V s.la≤f→BcR V c id s (bcF nb f id frm s):=by
 intro f
 induction f with
 | zero=>
  intro id frm s h hid hi hu
  exfalso
  have hm:id∈(elems V).filter fun v:Nat=>decide (lkI s.la (v:Int)≤0):=List.mem_filter.2 ⟨mem_elems.2 ⟨bit_lt hid,hid⟩,decide_eq_true hi⟩
  have:=List.length_pos_of_mem hm
  rw[unv] at hu
  omega
 | succ f ih=>
  intro id frm s h hid hi hu
  obtain⟨p1,p2⟩:=h.push hid hi
  obtain⟨q1,q2,q3⟩:=bc_start h hid hi
  have key:∀(l:List Nat),(∀x∈l,V.getLsbD x=true)→∀s',BcQ V c (bcP id s) s'→BcQ V c (bcP id s) (l.foldl (bcT (bcF nb f) id frm) s'):=by
   intro l
   induction l with
   | nil=>intro _ s' h';exact h'
   | cons x l ihl=>
    intro hl s' h'
    exact ihl (fun y hy=>hl y (List.mem_cons_of_mem _ hy)) _ (bc_step hid h' fun hx=>ih x (id:Int) s' h'.i (hl x (List.mem_cons_self ..)) hx (by have:=unv_mono (V:=V) h'.m;omega))
  have hq:=key (elems (nb (id:Int))) (fun x hx=>hV id x (mem_elems.1 hx).2) _ (BcQ.rfl' p1)
  obtain⟨t,ht⟩:=hq.w
  have hqd:=hq.d
  rw[p2] at hqd
  have ho:(bcP id s).out=s.out:=rfl
  rw[ho] at hqd
  exact⟨hq.i,fun i hi=>hq.m i (q1 i hi),⟨t,by rw[bcF,ht];show s.way++[id]++t=_;rw[List.append_assoc];rfl⟩,by rw[bcF];omega⟩
end
noncomputable def iKV:KV Tryz.prog Int Int where
 k:=3
 e:=3
 kv:=fun x=>.int .i64 x
 kl:=fun x=>.int .i64 x
 ok:=fun x=>(Lit.int .i64 x).wf=true
 mv:=fun c=>.int .i64 c
 dv:=fun c=>.lit (.int .i64 c)
 okv:=fun c=>(Lit.int .i64 c).wf=true
 R:=plainElem Tryz.prog 3
 K:=Maps.int_keyed U3
 key:=fun x hx=>Maps.keyOf_int_mk U3 hx
 keyInv:=fun v l h=>by obtain⟨x,h1,h2,h3⟩:=Maps.keyOf_int_inv U3 h;exact⟨x,h3,h1,h2⟩
 kvInj:=fun x y h=>by cases h;rfl
 val:=fun c hc=>plainElem_int U3 hc
 valInv:=fun v y h=>by
  obtain⟨c,h1,h2,h3⟩:=plainElem_int_inv U3 h
  exact⟨c,h3,h1,h2⟩
 dvInj:=fun c c' h=>by cases h;rfl
theorem lkI_no {l:List (Int×Int)}{i:Int}(h:∀c,(i,c) ∉ l):lkI l i=0:=by
 have:l.find? (fun p=>decide (p.1=i))=none:=by
  rw[List.find?_eq_none]
  intro p hp hh
  have h3:p.1=i:=by simpa using hh
  exact h p.2 (by rw[← h3];exact hp)
 rw[lkI,this];rfl
section
variable {w0:World}{L:Env}{dst:Option Tmp}{ty:TypeId}{pos:String}{aft:Array Edge}{g:Option (Nat×Bool)}{x y:Operand}{t:TypeId}{l:List (Int×Int)}{b n:Nat}
theorem lkIM {i:Int}(ht:Tryz.prog.underlying t=some (.map iKV.k iKV.e))(hx:opd L x=some (E (.map (some b))))(hM:MpR iKV w0 b n l)(hy:opd L y=some (E (I i)))(hi:(Lit.int .i64 i).wf=true) :
  OpC Tryz.prog w0 L ⟨dst,.lookup t x y false,ty,pos,aft,g⟩ (E (I (lkI l i))):=
 opc_pure fun ρ w he' hv=>by
  have h5:=opE hv (x:=x) (by simp[Op.operands]) hx
  have h6:=opE hv (x:=y) (by simp[Op.operands]) hy
  have h2:=hM.ext he'
  obtain⟨D,m1,m2,m3,m4,_⟩:=h2.has (x:=i) hi
  have hz0:(Lit.int .i64 0).wf=true:=by decide
  obtain⟨v,ps,r1,r2⟩:=m1.lookup iKV.K ht (zero_of I3 w) (iKV.val 0 hz0) (iKV.key i hi)
  obtain⟨c,_,rfl,hy2⟩:=iKV.valInv _ _ r2
  have hcc:c=lkI l i:=by
   have h8:=congrArg Prod.fst hy2
   simp only at h8
   by_cases hex:∃c',(i,c')∈l
   ·obtain⟨c',hc'⟩:=hex
    rw[m3 c' hc'] at h8
    have h9:lkI l i=c':=by
     obtain⟨_,_,_,_,hp⟩:=h2
     cases hf:l.find? (fun p=>decide (p.1=i)) with
     | none=>have:=List.find?_eq_none.1 hf _ hc';simp at this
     | some p=>
      have k1:=List.find?_some hf
      have k2:=List.mem_of_find?_eq_some hf
      have k3:p.1=i:=by simpa using k1
      have k4:p=(i,p.2):=by rw[← k3]
      rw[k4] at k2
      rw[lkI,hf]
      exact nodup_val hp k2 hc'
    rw[h9]
    exact (iKV.dvInj _ _ h8).symm
   ·have hno:∀c',(i,c') ∉ l:=fun c' h=>hex ⟨c',h⟩
    rw[m4 hno] at h8
    rw[lkI_no hno]
    exact (iKV.dvInj _ _ h8).symm
  rw[hcc] at r1
  have r1:(Instr.lookup t (.map (some b)) (I i) false).run Tryz.prog w=.ok (I (lkI l i)) w:=r1
  exact⟨_,by simp only[execOp,h5,h6,Sem.run_bind,r1,Result.andThen_ok,Sem.run_pure],rfl⟩
theorem lenMM (ht:Tryz.prog.underlying t=some (.map iKV.k iKV.e))(hx:opd L x=some (E (.map (some b))))(hM:MpR iKV w0 b n l):OpC Tryz.prog w0 L ⟨dst,.call ⟨.builtin .len,#[x],#[t]⟩,ty,pos,aft,g⟩ (E (I (l.length:Nat))):=
 lenM (V:=iKV) (N:=n) (G:=G0) ht (isE hx (MpR.dvE hM (Nat.le_refl n) fun h=>h))
end
theorem OwR.cut {te:TypeId}{N:Nat}{w:World}{xs:List Int}{v:Value}(h:OwR intE te N G0 w xs v){k:Nat}(hk:k≤xs.length)(h0:0<k):∃b c,v=.slice (some ⟨b,0,none⟩) xs.length c∧xs.length≤c∧OwR intE te N G0 w (xs.take k) (.slice (some ⟨b,0,none⟩) k c):=by
 rcases h.rw intFF with ⟨_,rfl⟩|⟨b,cap,cur,rfl,hc,HR,ht⟩
 ·rw[List.length_nil] at hk;omega
 ·refine⟨b,cap,rfl,hc,?_⟩
  have hl:(xs.take k).length=k:=by rw[List.length_take];omega
  have:=HR.own (xs:=xs.take k) (G:=G0) intFF (by omega) (by
   rw[hl]
   have h1:=congrArg (List.take (k * intE.k)) ht
   rw[take_flat intFF.len,List.take_take,Nat.min_eq_left (Nat.mul_le_mul_right _ hk)] at h1
   exact h1) fun b hb=>hb.elim
  rw[hl] at this
  exact this
def OWN (vw vo:Value)(b:Nat):Prop:=vw.ownBlock=some b∨vo.ownBlock=some b
def bcV (ba bl bw bg bd bo:Nat):Value:=.func (.func 61) #[] #[ptr ba,ptr bl,ptr bw,ptr bg,ptr bd,ptr bo]
structure BcD (bm ba bl bw bg bd bo ma ml N:Nat):Prop where
 n:0<N∧bm<N∧ba<N∧bl<N∧bw<N∧bg<N∧bd<N∧bo<N∧ma<N∧ml<N
 w:bw≠ba∧bw≠bl∧bw≠bg∧bw≠bd∧bw≠bo∧bw≠bm∧bw≠0
 o:bo≠ba∧bo≠bl∧bo≠bg∧bo≠bd∧bo≠bm∧bo≠0
 a:ma≠ba∧ma≠bl∧ma≠bw∧ma≠bg∧ma≠bd∧ma≠bo∧ma≠bm∧ma≠ml∧ma≠0
 l:ml≠ba∧ml≠bl∧ml≠bw∧ml≠bg∧ml≠bd∧ml≠bo∧ml≠bm∧ml≠0
structure BcW (l:List (Int×BS))(V:BS)(bm nm ba bl bw bg bd bo ma ml N:Nat)(G:Nat→Prop)(s:BcS)(vw vo:Value)(w:World):Prop where
 t:Tab w
 m:MpR sKV w bm nm l
 pa:Blk w ba #[.map (some ma)] 43
 pl:Blk w bl #[.map (some ml)] 43
 pw:Blk w bw #[vw] 35
 pg:Blk w bg (adC V (.map (some bm))) 79
 pd:Blk w bd #[bcV ba bl bw bg bd bo] 95
 po:Blk w bo #[vo] 39
 ma:MpR iKV w ma s.la.length s.la
 ml:MpR iKV w ml s.ll.length s.ll
 ow:OwR intE 3 N G0 w (natE s.way) vw
 oo:OwX (slE intE) 35 N (fun b=>G b∨vw.ownBlock=some b) w s.out vo
section
variable {l:List (Int×BS)}{V:BS}{bm nm ba bl bw bg bd bo ma ml N:Nat}{G G':Nat→Prop}{s:BcS}{vw vo:Value}{w w' w2:World}
theorem BcW.ownNe (h:BcW l V bm nm ba bl bw bg bd bo ma ml N G s vw vo w){b:Nat}(h1:vw.ownBlock=some b):vo.ownBlock≠some b:=fun h2=>by
 refine h.oo.neR h.ow ?_ h2 h1
 decide
theorem BcW.ch (h:BcW l V bm nm ba bl bw bg bd bo ma ml N G s vw vo w)(D:BcD bm ba bl bw bg bd bo ma ml N){S:Nat→Prop}(c:Chg S w w')(hN:∀b,S b→N≤b)(hO:∀b,OWN vw vo b→¬S b)(hG:∀b,S b→G b):BcW l V bm nm ba bl bw bg bd bo ma ml N G s vw vo w':=by
 have no:∀{b},b<N→¬S b:=fun hb hs=>Nat.lt_irrefl _ (Nat.lt_of_lt_of_le hb (hN _ hs))
 obtain⟨n0,n1,n2,n3,n4,n5,n6,n7,n8,n9⟩:=D.n
 exact⟨h.t.ch c (no n0),h.m.pres (c.block _ h.m.lt (no n1)),h.pa.ch c (no n2),h.pl.ch c (no n3),h.pw.ch c (no n4),h.pg.ch c (no n5),h.pd.ch c (no n6),h.po.ch c (no n7),h.ma.pres (c.block _ h.ma.lt (no n8)),h.ml.pres (c.block _ h.ml.lt (no n9)),
  h.ow.chE c fun b hb=>hO b (.inl hb),h.oo.ch c (fun b hb=>hO b (.inr hb)) fun b hb=>.inl (hG b hb)⟩
theorem BcW.ext (h:BcW l V bm nm ba bl bw bg bd bo ma ml N G s vw vo w)(e:Ext w w'):BcW l V bm nm ba bl bw bg bd bo ma ml N G s vw vo w':=
 ⟨h.t.ext e,h.m.ext e,h.pa.ext e,h.pl.ext e,h.pw.ext e,h.pg.ext e,h.pd.ext e,h.po.ext e,h.ma.ext e,h.ml.ext e,h.ow.ext e,h.oo.ext e⟩
instance:Ug w w' (BcW l V bm nm ba bl bw bg bd bo ma ml N G s vw vo w) (BcW l V bm nm ba bl bw bg bd bo ma ml N G s vw vo w'):=⟨fun e h=>h.ext e⟩
theorem BcW.weak (h:BcW l V bm nm ba bl bw bg bd bo ma ml N G s vw vo w)(hG:∀b,b<w.heap.size→G' b→G b):BcW l V bm nm ba bl bw bg bd bo ma ml N G' s vw vo w:=
 ⟨h.t,h.m,h.pa,h.pl,h.pw,h.pg,h.pd,h.po,h.ma,h.ml,h.ow,h.oo.weak fun b hb hh=>hh.imp (hG b hb) id⟩
theorem BcW.putA (h:BcW l V bm nm ba bl bw bg bd bo ma ml N G s vw vo w)(D:BcD bm ba bl bw bg bd bo ma ml N)(hg:w.grownBy w' (some ma)){k:Nat}{la:List (Int×Int)}(HM:MpR iKV w' ma k la)(hG:G ma):BcW l V bm nm ba bl bw bg bd bo ma ml N G { s with la:=la } vw vo w':=by
 obtain⟨n0,n1,n2,n3,n4,n5,n6,n7,n8,n9⟩:=D.n
 obtain⟨d1,d2,d3,d4,d5,d6,d7,d8,d9⟩:=D.a
 have c:Chg (fun b=>b=ma) w w':=(Chg.rfl' _ w).gr hg (.inl rfl)
 exact⟨h.t.ch c (fun e=>d9 e.symm),h.m.pres (c.block _ h.m.lt fun e=>d7 e.symm),h.pa.ch c (fun e=>d1 e.symm),h.pl.ch c (fun e=>d2 e.symm),h.pw.ch c (fun e=>d3 e.symm),h.pg.ch c (fun e=>d4 e.symm),h.pd.ch c (fun e=>d5 e.symm),h.po.ch c (fun e=>d6 e.symm),HM.tight,h.ml.pres (c.block _ h.ml.lt fun e=>d8 e.symm),
  h.ow.chE c fun b hb e=>by have:=(h.ow.lt hb).1;omega,h.oo.ch c (fun b hb e=>by have:=(h.oo.lt hb).1;omega) fun b hb=>.inl (by rw[hb];exact hG)⟩
theorem BcW.putL (h:BcW l V bm nm ba bl bw bg bd bo ma ml N G s vw vo w)(D:BcD bm ba bl bw bg bd bo ma ml N)(hg:w.grownBy w' (some ml)){k:Nat}{ll:List (Int×Int)}(HM:MpR iKV w' ml k ll)(hG:G ml):BcW l V bm nm ba bl bw bg bd bo ma ml N G { s with ll:=ll } vw vo w':=by
 obtain⟨n0,n1,n2,n3,n4,n5,n6,n7,n8,n9⟩:=D.n
 obtain⟨d1,d2,d3,d4,d5,d6,d7,d8⟩:=D.l
 have d9:=D.a.2.2.2.2.2.2.2.1
 have c:Chg (fun b=>b=ml) w w':=(Chg.rfl' _ w).gr hg (.inl rfl)
 exact⟨h.t.ch c (fun e=>d8 e.symm),h.m.pres (c.block _ h.m.lt fun e=>d7 e.symm),h.pa.ch c (fun e=>d1 e.symm),h.pl.ch c (fun e=>d2 e.symm),h.pw.ch c (fun e=>d3 e.symm),h.pg.ch c (fun e=>d4 e.symm),h.pd.ch c (fun e=>d5 e.symm),h.po.ch c (fun e=>d6 e.symm),h.ma.pres (c.block _ h.ma.lt fun e=>d9 e),HM.tight,
  h.ow.chE c fun b hb e=>by have:=(h.ow.lt hb).1;omega,h.oo.ch c (fun b hb e=>by have:=(h.oo.lt hb).1;omega) fun b hb=>.inl (by rw[hb];exact hG)⟩
theorem BcW.setW (h:BcW l V bm nm ba bl bw bg bd bo ma ml N G s vw vo w)(D:BcD bm ba bl bw bg bd bo ma ml N){vw':Value}{way:List Nat}(hg:w.grownBy w' vw.ownBlock)(hat:vw'.ownBlock=vw.ownBlock∨vw'.ownBlock=some w.heap.size)(Hn:OwR intE 3 N G0 w' (natE way) vw')
  (hg2:w'.grownBy w2 (some bw)) (B:Blk w2 bw #[vw'] 35) (hGw:G bw):BcW l V bm nm ba bl bw bg bd bo ma ml N G { s with way:=way } vw' vo w2:=by
 obtain⟨n0,n1,n2,n3,n4,n5,n6,n7,n8,n9⟩:=D.n
 obtain⟨d1,d2,d3,d4,d5,d6,d7⟩:=D.w
 have a3:=D.a.2.2.1
 have l3:=D.l.2.2.1
 have c1:Chg (fun b=>vw.ownBlock=some b) w w':=Chg.row hg
 have c2:Chg (fun b=>b=bw) w' w2:=(Chg.rfl' _ w').gr hg2 (.inl rfl)
 have lo:∀b,vw.ownBlock=some b→N≤b:=fun b hb=>(h.ow.lt hb).1
 have no:∀{b},b<N→¬vw.ownBlock=some b:=fun hb hs=>Nat.lt_irrefl _ (Nat.lt_of_lt_of_le hb (lo _ hs))
 have hoo:OwX (slE intE) 35 N (fun b=>G b∨vw'.ownBlock=some b) w' s.out vo:=
  (h.oo.weak (G':=fun b=>(G b∨vw.ownBlock=some b)∨vw'.ownBlock=some b) fun b hb hh=>hh.elim id fun hh=>by
   rcases hat with e|e
   ·exact .inr (by rw[← e];exact hh)
   ·rw[e] at hh;cases hh;omega).ch c1 (fun b hb hh=>h.ownNe hh hb) (fun b hb=>.inl (.inr hb)) |>.weak fun b _ hh=>hh.elim (fun hh=>.inl (.inl hh)) .inr
 exact⟨(h.t.ch c1 (no n0)).ch c2 (fun e=>d7 e.symm),(h.m.pres (c1.block _ h.m.lt (no n1))).pres (c2.block _ (Nat.lt_of_lt_of_le h.m.lt c1.size) fun e=>d6 e.symm),(h.pa.ch c1 (no n2)).ch c2 (fun e=>d1 e.symm),(h.pl.ch c1 (no n3)).ch c2 (fun e=>d2 e.symm),B,(h.pg.ch c1 (no n5)).ch c2 (fun e=>d3 e.symm),(h.pd.ch c1 (no n6)).ch c2 (fun e=>d4 e.symm),(h.po.ch c1 (no n7)).ch c2 (fun e=>d5 e.symm),
  (h.ma.pres (c1.block _ h.ma.lt (no n8))).pres (c2.block _ (Nat.lt_of_lt_of_le h.ma.lt c1.size) a3),(h.ml.pres (c1.block _ h.ml.lt (no n9))).pres (c2.block _ (Nat.lt_of_lt_of_le h.ml.lt c1.size) l3),
  Hn.chE c2 fun b hb e=>by have:=(Hn.lt hb).1;omega,hoo.ch c2 (fun b hb e=>by have:=(hoo.lt hb).1;omega) fun b hb=>.inl (by rw[hb];exact hGw)⟩
theorem BcW.setO (h:BcW l V bm nm ba bl bw bg bd bo ma ml N G s vw vo w)(D:BcD bm ba bl bw bg bd bo ma ml N){vo':Value}{out:List (List Int)}(hg:w.grownBy w' vo.ownBlock)(Hn:OwX (slE intE) 35 N (fun b=>G b∨vw.ownBlock=some b) w' out vo')
  (hg2:w'.grownBy w2 (some bo)) (B:Blk w2 bo #[vo'] 39) (hGo:G bo):BcW l V bm nm ba bl bw bg bd bo ma ml N G { s with out:=out } vw vo' w2:=by
 obtain⟨n0,n1,n2,n3,n4,n5,n6,n7,n8,n9⟩:=D.n
 obtain⟨d1,d2,d3,d4,d5,d6⟩:=D.o
 have d7:=D.w.2.2.2.2.1
 have a6:=D.a.2.2.2.2.2.1
 have l6:=D.l.2.2.2.2.2.1
 have c1:Chg (fun b=>vo.ownBlock=some b) w w':=Chg.row hg
 have c2:Chg (fun b=>b=bo) w' w2:=(Chg.rfl' _ w').gr hg2 (.inl rfl)
 have lo:∀b,vo.ownBlock=some b→N≤b:=fun b hb=>(h.oo.lt hb).1
 have no:∀{b},b<N→¬vo.ownBlock=some b:=fun hb hs=>Nat.lt_irrefl _ (Nat.lt_of_lt_of_le hb (lo _ hs))
 have how:=(h.ow.chE c1 fun b hb hh=>h.ownNe hb hh)
 exact⟨(h.t.ch c1 (no n0)).ch c2 (fun e=>d6 e.symm),(h.m.pres (c1.block _ h.m.lt (no n1))).pres (c2.block _ (Nat.lt_of_lt_of_le h.m.lt c1.size) fun e=>d5 e.symm),(h.pa.ch c1 (no n2)).ch c2 (fun e=>d1 e.symm),(h.pl.ch c1 (no n3)).ch c2 (fun e=>d2 e.symm),(h.pw.ch c1 (no n4)).ch c2 (fun e=>d7 e),(h.pg.ch c1 (no n5)).ch c2 (fun e=>d3 e.symm),(h.pd.ch c1 (no n6)).ch c2 (fun e=>d4 e.symm),B,
  (h.ma.pres (c1.block _ h.ma.lt (no n8))).pres (c2.block _ (Nat.lt_of_lt_of_le h.ma.lt c1.size) a6),(h.ml.pres (c1.block _ h.ml.lt (no n9))).pres (c2.block _ (Nat.lt_of_lt_of_le h.ml.lt c1.size) l6),
  how.chE c2 fun b hb e=>by have:=(how.lt hb).1;omega,Hn.ch c2 (fun b hb e=>by have:=(Hn.lt hb).1;omega) fun b hb=>.inl (by rw[hb];exact hGo)⟩
end
end Go.Mono
namespace Go.Mono
open Go Go.Proofs Go.RowKit
open Go.ChangeMaps (setBlock)
theorem setBlock_two (w:World)(b:Nat)(o o':Obj):setBlock (setBlock w b o) b o'=setBlock w b o':=by
 unfold setBlock
 simp only[Array.setIfInBounds_setIfInBounds]
theorem setBlock_gr (w:World)(b:Nat)(o:Obj):w.grownBy (setBlock w b o) (some b):=by
 refine⟨rfl,rfl,rfl,?_,fun k hk hne=>?_⟩
 ·simp[setBlock]
 ·unfold setBlock
  rw[Array.getElem?_setIfInBounds_ne (fun h=>hne (by rw[h]))]
section
variable {P:Program}{α β:Type}{V:KV P α β}{w:World}{b n:Nat}{l:List (α×β)}
open Go.WideElems (findIdx_arr findIdx_born modify_last)
theorem setBlock_at {w:World}{b:Nat}{o:Obj}(h:b<w.heap.size):(setBlock w b o).heap[b]?=some o:=by unfold setBlock;simp[h]
theorem MpR.slot2 {t:TypeId}(h:MpR V w b n l)(ht:P.underlying t=some (.map V.k V.e)){z0:Value}(hz0:∀w,(zeroValue V.e).run P w=.ok z0 w){x:α}(hx:V.ok x) :
  ∃(v0:Value) (st:Nat) (o1:Obj),(Instr.mapEntry t (.map (some b)) (V.kv x)).run P w=.ok (.tuple #[v0,goInt st]) (setBlock w b o1) ∧
   ∀w2 val,w2.heap[b]?=some o1→∃o2,(Instr.entryStore t (.map (some b)) (goInt st) val).run P w2=.ok () (setBlock w2 b o2)∧(Instr.mapUpdate t (.map (some b)) (V.kv x) val).run P w=.ok () (setBlock w b o2):=by
 obtain⟨es,⟨arr,clock,hb,F,hs,hD⟩,hp,hok,hpw⟩:=h
 have hkey:=V.key x hx
 obtain⟨s1,s2,s3⟩:=F.stamped
 rcases V.K.find w hkey arr.toList F.keys with ⟨q1,q2⟩|⟨j,e0,q1,q2,q3⟩
 ·-- no entry: one is made
  refine⟨z0,clock,.map (arr.push ⟨V.kv x,z0,clock⟩) (clock+1),?_,fun w2 val hw2=>⟨.map (arr.push ⟨V.kv x,val,clock⟩) (clock+1),?_,?_⟩⟩
  ·simp[Instr.mapEntry,run_underlying ht,MapKept.run_getObj_map hb,V.K.check w false hkey,q1,hz0,MapKept.run_setObj_map _ hb,Result.andThen,setBlock]
  ·have hidx:(arr.push ⟨V.kv x,z0,clock⟩).findIdx? (fun e=>((e.born:Nat):Int)==((clock:Nat):Int))=some arr.size:=by
    have hnd:((arr.push ⟨V.kv x,z0,clock⟩).toList.map (·.born)).Nodup:=by
     rw[Array.toList_push,List.map_append]
     refine List.nodup_append.2 ⟨s2,List.pairwise_singleton _ _,fun a ha c hc=>?_⟩
     obtain⟨y,hy,rfl⟩:=List.mem_map.1 ha
     rw[List.map_cons,List.map_nil,List.mem_singleton] at hc
     rw[hc]
     exact Nat.ne_of_lt (s1 y hy)
    rw[findIdx_arr]
    exact findIdx_born hnd (e0:=⟨V.kv x,z0,clock⟩) (by simp)
   have hmod:(arr.push ⟨V.kv x,z0,clock⟩).modify arr.size (fun e=>{ e with val:=val })=arr.push ⟨V.kv x,val,clock⟩:=by
    apply Array.ext'
    rw[Array.toList_modify,Array.toList_push,Array.toList_push,← Array.length_toList,modify_last]
   simp[Instr.entryStore,MapKept.run_getObj_map hw2,asInt,asIntOf,goInt,hidx,hmod,MapKept.run_setObj_map _ hw2,Result.andThen,setBlock]
  ·simp[Instr.mapUpdate,run_underlying ht,MapKept.run_getObj_map hb,V.K.check w false hkey,q1,MapKept.run_setObj_map _ hb,Result.andThen,setBlock]
 ·have hj:arr[j]?=some e0:=by simpa using q2
  have hsame:arr.modify j (fun e=>{ e with key:=V.kv x })=arr:=by
   apply Array.ext'
   rw[Array.toList_modify,Go.ChangeMaps.modify_eq_set _ _ _ _ q2]
   have:({ e0 with key:=V.kv x }:MapEntry)=e0:=by rw[← q3]
   rw[this]
   exact Go.WideElems.set_self _ _ _ q2
  refine⟨e0.val,e0.born,.map arr clock,?_,fun w2 val hw2=>⟨.map (arr.modify j fun e=>{ e with key:=V.kv x,val:=val }) clock,?_,?_⟩⟩
  ·simp[Instr.mapEntry,run_underlying ht,MapKept.run_getObj_map hb,V.K.check w false hkey,q1,hj,q3,V.K.stays w hkey,hsame,MapKept.run_setObj_map _ hb,Result.andThen,setBlock]
  ·have hidx:arr.findIdx? (fun e=>((e.born:Nat):Int)==((e0.born:Nat):Int))=some j:=by
    rw[findIdx_arr]
    exact findIdx_born s2 q2
   have hmod:arr.modify j (fun e=>{ e with val:=val })=arr.modify j (fun e'=>{ e' with key:=V.kv x,val:=val }):=by
    apply Array.ext'
    rw[Array.toList_modify,Array.toList_modify,Go.ChangeMaps.modify_eq_set _ _ _ _ q2,Go.ChangeMaps.modify_eq_set _ _ _ _ q2,← q3]
   simp[Instr.entryStore,MapKept.run_getObj_map hw2,asInt,asIntOf,goInt,hidx,hmod,MapKept.run_setObj_map _ hw2,Result.andThen,setBlock]
  ·simp[Instr.mapUpdate,run_underlying ht,MapKept.run_getObj_map hb,V.K.check w false hkey,q1,hj,q3,V.K.stays w hkey,MapKept.run_setObj_map _ hb,Result.andThen,setBlock]
end
section tail
variable {P:Program}{L:Env}{ty ty2:TypeId}{pos pos2 pos3:String}{aft aft2 aft3:Array Edge}{r:Option Nat}{ds:List Deferred}
variable {ops:Array Oper}{rest:List Oper}{Q:Exit→Act→World→Prop}{n:Nat}{a:Act}{w:World}{x y z x2:Operand}{α β:Type}[DecidableEq α]
theorem tl_ent {V:KV P α β}{t d1 d2:Nat}{bm nn:Nat}{l:List (α×β)}{i:α}{c:β}{z0:Value}(ht:P.underlying t=some (.map V.k V.e))(hz0:∀w,(zeroValue V.e).run P w=.ok z0 w)(hf:FrD n ds a w L)[hL:AvL bm L](hx:opd L x=some (E (.map (some bm))))
  (hy:opd L y=some (E (V.kv i))) (h1:d1<n) (h2:d2<n) (hx2:∀v0 st,opd ((d2,E st)::(d1,E (.tuple #[v0,st]))::L) x2=some (E (.map (some bm)))) (hz:∀v0 st,opd ((d2,E st)::(d1,E (.tuple #[v0,st]))::L) z=some (E (V.mv c))) (hM:MpR V w bm nn l) (hn:nn<maxLen) (hi:V.ok i) (hc:V.okv c)
  (kk:∀a' w' v0 st,w.grownBy w' (some bm)→MpR V w' bm (nn+1) (putP l i c)→FrD n ds a' w' ((d2,E st)::(d1,E (.tuple #[v0,st]))::L)→wpListIn (FW r) 0 P ops Q rest a' w') :
  wpListIn (FW r) 0 P ops Q (⟨some d1,.mapEntry t x y,ty,pos,aft,none⟩::⟨some d2,.extract (.tmp d1) 1,ty2,pos2,aft2,none⟩::⟨none,.entryStore t x2 (.tmp d2) z,ty,pos3,aft3,none⟩::rest) a w:=
 wpListIn_plain rfl fun K hK=>by
  have hxv:a.eval x=.map (some bm):=hf.opd x _ hx
  have hyv:a.eval y=V.kv i:=hf.opd y _ hy
  obtain⟨w',q1,q2,q3⟩:=hM.put hi hc ht hn
  obtain⟨v0,st,o1,k1,k3⟩:=hM.slot2 ht hz0 hi
  obtain⟨o2,k4,k5⟩:=k3 (setBlock w bm o1) (V.mv c) (setBlock_at hM.lt)
  rw[setBlock_two] at k4
  obtain⟨w1,hw1⟩:∃w1,w1=setBlock w bm o1:=⟨_,rfl⟩
  rw[← hw1] at k1 k4
  have hww:setBlock w bm o2=w':=by
   rw[q1] at k5
   exact ((Result.ok.inj k5).2).symm
  have hw2:setBlock w1 bm o2=w':=by rw[hw1,setBlock_two];exact hww
  rw[hww] at k4
  have g1:w.grownBy w1 (some bm):=by rw[hw1];exact setBlock_gr _ _ _
  have g2:w1.grownBy w' (some bm):=by rw[← hw2];exact setBlock_gr _ _ _
  refine OpR.wp (R:=fun u w2=>u=.tuple #[v0,goInt st]∧w2=w1) ?_ ?_
  ·simp only[OpR,execOp,hxv,hyv,Sem.run_bind,k1,Result.andThen_ok,Sem.run_pure]
   exact⟨trivial,trivial⟩
  ·rintro u w2 ⟨rfl,hw⟩
   rw[hw]
   refine hK _ _ ?_
   have hf1:=(hf.gr g1).put (d:=some d1) (v:=.tuple #[v0,goInt st]) (A:=E (.tuple #[v0,goInt st])) (Ext.rfl' _) (fun k hk=>by cases hk;exact h1) rfl
   refine wpListIn_plain rfl fun K hK=>?_
   have hev:(a.put (some d1) (.tuple #[v0,goInt st])).eval (.tmp d1)=.tuple #[v0,goInt st]:=hf1.opd (.tmp d1) (E (.tuple #[v0,goInt st])) (by simp[opd,look,push])
   refine OpR.wp (R:=fun u w2=>u=goInt st∧w2=w1) ?_ ?_
   ·simp only[OpR,execOp,hev]
    simp[Instr.extract]
   ·rintro u w2 ⟨rfl,hw⟩
    rw[hw]
    refine hK _ _ ?_
    have hf2:=hf1.put (d:=some d2) (v:=goInt st) (A:=E (goInt st)) (Ext.rfl' _) (fun k hk=>by cases hk;exact h2) rfl
    refine wpListIn_plain rfl fun K hK=>?_
    have e1:((a.put (some d1) (.tuple #[v0,goInt st])).put (some d2) (goInt st)).eval x2=.map (some bm):=hf2.opd x2 _ (hx2 _ _)
    have e2:((a.put (some d1) (.tuple #[v0,goInt st])).put (some d2) (goInt st)).eval z=V.mv c:=hf2.opd z _ (hz _ _)
    have e3:((a.put (some d1) (.tuple #[v0,goInt st])).put (some d2) (goInt st)).eval (.tmp d2)=goInt st:=hf2.opd (.tmp d2) (E (goInt st)) (by simp[opd,look,push])
    refine OpR.wp (R:=fun _ w2=>w2=w') ?_ ?_
    ·simp only[OpR,execOp,e1,e2,e3,Sem.run_bind,k4,Result.andThen_ok,Sem.run_pure]
    ·rintro _ w2 rfl
     exact hK _ _ (kk _ _ _ _ q3 q2 (FrD.gr (L:=(d2,E (goInt st))::(d1,E (.tuple #[v0,goInt st]))::L) hf2 g2))
end tail
section ops
variable {P:Program}{w0:World}{L:Env}{ty:TypeId}{pos:String}{aft:Array Edge}{x y s:Operand}{t b n:Nat}
variable {α β:Type}[DecidableEq α]{V:KV P α β}{l:List (α×β)}{i:α}{c:β}
def SlK (V:KV P α β)(t b n:Nat)(l:List (α×β))(i:α):VA:=⟨fun st w=>b<w.heap.size∧∀w2 c,V.okv c→w2.heap[b]?=w.heap[b]?→∃w3,(Instr.entryStore t (.map (some b)) st (V.mv c)).run P w2=.ok () w3∧w2.grownBy w3 (some b)∧MpR V w3 b (n+1) (putP l i c),
 fun v w w' e ⟨h1,h2⟩=>⟨Nat.lt_of_lt_of_le h1 e.size,fun w2 c hc hw=>h2 w2 c hc (hw.trans (e.block b h1))⟩⟩
theorem chg_of_gr {w w':World}{b:Nat}(h:w.grownBy w' (some b)):Chg (fun d=>d=b) w w':=⟨h.os,h.tape,h.output,h.size,fun k hk hn=>h.block k hk fun hh=>hn (by cases hh;rfl)⟩
theorem enK {z0:Value}(ht:P.underlying t=some (.map V.k V.e))(hz0:∀w,(zeroValue V.e).run P w=.ok z0 w)(hx:opd L x=some (E (.map (some b))))(hy:opd L y=some (E (V.kv i)))(hM:MpR V w0 b n l)(hi:V.ok i)(hn:n<maxLen){d:Option Tmp} :
  XOpJ P w0 (Chg fun d=>d=b) (fun _=>True) L ⟨d,.mapEntry t x y,ty,pos,aft,none⟩ (Tup [Any,SlK V t b n l i]):=by
 refine⟨fun ρ w he hv=>?_⟩
 have hxv:ρ x=.map (some b):=hv x (by simp[Op.operands]) _ hx
 have hyv:ρ y=V.kv i:=hv y (by simp[Op.operands]) _ hy
 have hM1:=hM.ext he
 obtain⟨v0,st,o1,k1,k3⟩:=hM1.slot2 ht hz0 hi
 simp only[OpR,execOp,hxv,hyv,Sem.run_bind,k1,Result.andThen_ok,Sem.run_pure]
 refine⟨chg_of_gr (setBlock_gr _ _ _),Tup.two trivial ⟨by simpa[setBlock] using hM1.lt,fun w2 c hc hw2=>?_⟩,trivial⟩
 rw[setBlock_at hM1.lt] at hw2
 have hbl:b<w2.heap.size:=(Array.getElem?_eq_some_iff.1 hw2).1
 obtain⟨o2,k4,k5⟩:=k3 w2 (V.mv c) hw2
 obtain⟨w',q1,q2,q3⟩:=hM1.put hi hc ht hn
 have hww:setBlock w b o2=w':=by
  rw[q1] at k5
  exact ((Result.ok.inj k5).2).symm
 exact⟨_,k4,setBlock_gr _ _ _,q2.pres (by rw[← hww,setBlock_at hbl,setBlock_at hM1.lt])⟩
theorem esK (hx:opd L x=some (E (.map (some b))))(hs:opd L s=some (SlK V t b n l i))(hy:opd L y=some (E (V.mv c)))(hc:V.okv c) :
  XOpJ P w0 (Chg fun d=>d=b) (fun w'=>MpR V w' b (n+1) (putP l i c)) L ⟨none,.entryStore t x s y,ty,pos,aft,none⟩ Any:=by
 refine⟨fun ρ w he hv=>?_⟩
 have hxv:ρ x=.map (some b):=hv x (by simp[Op.operands]) _ hx
 have hsv:=hv s (by simp[Op.operands]) _ hs
 have hyv:ρ y=V.mv c:=hv y (by simp[Op.operands]) _ hy
 obtain⟨w3,k1,k2,k3⟩:=hsv.2 w c hc rfl
 simp only[OpR,execOp,hxv,hyv,Sem.run_bind,k1,Result.andThen_ok,Sem.run_pure]
 exact⟨chg_of_gr k2,trivial,k3⟩
end ops
end Go.Mono
namespace Go.Mono
open Go Go.RowKit Go.Proofs
section
variable {P:Program}{ops:Array Oper}{Q:Exit→Act→World→Prop}{w0:World}{n:Nat}{ds:List Deferred}{r:Option Nat}
structure InvK (ops:Array Oper)(m x y:Nat)(kp:Nat→Bool)(S:World→World→Prop)(F F2:World→Prop)(n:Nat)(ds:List Deferred)(w0:World)(L:Env)(As:Nat→VA)(listed:Array Bool)(a:Act)(w:World):Prop where
 ext:S w0 w
 pre:listed.getD x true=false→Ext w0 w
 post:listed.getD x false=true→listed.getD y true=false→F w
 fin:listed.getD y false=true→F2 w
 size:a.tmps.size=n
 defers:a.defers=ds
 hL:∀t A,look L t=some A→(∀j,j<m→dstOf ops j≠some t)→A.p (a.eval (.tmp t)) w
 hA:∀i,i<m→listed.getD i false=true→(listed.getD x true=false∨((kp i=true∨x≤i)∧(listed.getD y true=false∨StJ S (As i))))→∀d,dstOf ops i=some d→(As i).p (a.eval (.tmp d)) w

theorem wpAny_mainK {m x y:Nat}{fr kp:Nat→Bool}{S:World→World→Prop}(hR:RelJ S){F F2:World→Prop}(hx0:x<y)(hy0:y+1=m)(hFst:∀w w',Ext w w'→F w→F w')(hFst2:∀w w',Ext w w'→F2 w→F2 w'){ks:List Nat}{L:Env}{As:Nat→VA}(hm:m≤ops.size)(hchk:∀i,i<m→chkOp ops m n i=true)(hchk2:∀i,m≤i→i<ops.size→chkTail ops i=true)
  (hanc:∀j,j<x→fr j=false→covers ops 12 x j=true) (hancY:∀j,j<y→(j<x→fr j=false)→covers ops 12 y j=true) (hpo:∀j,x<j→j<m→covers ops 12 j x=true) (hfk:∀j,fr j=true→kp j=true)
  (hfree:∀i o,i<x→fr i=true→ops[i]?=some o→∀t,(t∈tmpsOf o∨gdst ops o=some t)→∀j,j<m→dstOf ops j=some t→kp j=true∧j≠x∧j<x)
  (hopsP:∀j o,x<j→j<y→ops[j]?=some o→∀w1,S w0 w1→F w1→GOp P ops w1 (envF ops L (fun j=>if kp j=true∨x≤j then As j else Any) 0 j) o (As j))
  (hops:∀j o,j<x→ops[j]?=some o→(fr j=false→GOp P ops w0 (envF ops L As 0 j) o (As j))∧(fr j=true→∀w1,S w0 w1→GOp P ops w1 (envF ops L As 0 j) o (As j))∧(kp j=true→StJ S (As j)))
  (hX:∀o,ops[x]?=some o→o.guard=none∧XOpJ P w0 S F (envF ops L As 0 x) o (As x)) (hLav:StJL S L)
  (hY:∀o,ops[y]?=some o→o.guard=none∧∀w1,S w0 w1→F w1→XOpJ P w1 S F2 (envF ops L (fun j=>if kp j=true∨x≤j then As j else Any) 0 y) o (As y)) (hYd:dstOf ops y=none) (hks:StJL S (keep ks (envF ops L (fun j=>if kp j=true∨x≤j then As j else Any) 0 y)))
  (hend:∀a w,S w0 w→F2 w→FrD n ds a w (keep ks (envF ops L (fun j=>if kp j=true∨x≤j then As j else Any) 0 y))→wpListIn (FW r) 0 P ops Q (ops.toList.drop m) a w) :
  ∀(c:Nat) (listed:Array Bool) (a:Act) (w:World),(List.range m).countP (fun i => !listed.getD i true)=c→listed.size=ops.size →
   (∀j,m≤j→j<ops.size→listed.getD j true=false)→LD ops listed→InvK ops m x y kp S F F2 n ds w0 L As listed a w→wpAnyIn (FW r) 0 P .any ops Q (c+(ops.size - m)) listed a w
 | 0,listed,a,w,hc,hsz,hun,hld,hi=>by
  have hall:∀j,j<m→listed.getD j false=true:=by
   intro j hj
   have:=(List.countP_eq_zero.1 hc) j (List.mem_range.2 hj)
   have hjl:j<listed.size:=by omega
   simpa[hjl] using this
  rw[Nat.zero_add]
  refine wpAny_tail m hchk2 (ops.size - m) m (by omega) (Nat.le_refl _) listed a w hall hun hsz hld (hend a w hi.ext (hi.fin (hall y (by omega))) ⟨hi.size,hi.defers,fun t A ht=>?_⟩)
  have hst:=hks.av t A ht
  have ht:=look_keep _ _ _ _ ht
  rcases look_envF L _ t A y ht with ⟨j,hj,hd,rfl⟩|⟨hn,hl⟩
  ·by_cases hk:kp j=true∨x≤j
   ·rw[if_pos hk] at hst ⊢
    exact hi.hA j (by omega) (hall j (by omega)) (.inr ⟨hk,.inr ⟨hst⟩⟩) t hd
   ·rw[if_neg hk];trivial
  ·refine hi.hL t A hl fun j hj=>?_
   by_cases hjy:j=y
   ·rw[hjy,hYd];intro h;cases h
   ·exact hn j (by omega)
 | c+1,listed,a,w,hc,hsz,hun,hld,hi=>by
  have facts:∀i o,i<m→ops[i]?=some o→(∀e∈o.after,Region.binds .any e=true→e.on<i)∧(∀d,o.dst=some d→d<n) ∧
    (∀t,t∈tmpsOf o∨gdst ops o=some t→∀j,j<m→dstOf ops j=some t→bnd ops i j=true)∧(∀j,j<m→j≠i→∀d,o.dst=some d→dstOf ops j≠some d):=by
   intro i o hlt ho
   have:=hchk i hlt
   simp only[chkOp,ho,Bool.and_eq_true,Array.all_eq_true_iff_forall_mem,Bool.or_eq_true,Bool.not_eq_true',List.all_eq_true,List.mem_range,List.mem_append,Option.mem_toList] at this
   obtain⟨⟨⟨h1,h2⟩,h3⟩,h4⟩:=this
   refine⟨fun e he hb=>?_,fun d hd=>?_,fun t ht j hj hd=>?_,fun j hj hne d hd hd'=>?_⟩
   ·rcases h1 e he with h|h
    ·rw[hb] at h;cases h
    ·simpa[Nat.blt_eq] using h
   ·simpa[hd,Nat.blt_eq] using h2
   ·have:=h3 t ht j hj
    rcases this with h|h
    ·rw[hd] at h;simp at h
    ·exact h
   ·have:=h4 j hj
    rcases this with h|h
    ·exact hne (Nat.eq_of_beq_eq_true h)
    ·rw[hd,hd'] at h;simp at h
  have prog:∃i,i<m∧listed.getD i true=false∧∀j,j<i→listed.getD j true=true:=by
   have hex:∃i,i<m∧listed.getD i true=false:=by
    have hpos:0<(List.range m).countP (fun i => !listed.getD i true):=by omega
    obtain⟨i,hi,hb⟩:=List.countP_pos_iff.1 hpos
    exact⟨i,List.mem_range.1 hi,by simpa using hb⟩
   obtain⟨i,hlt,hb⟩:=hex
   induction i using Nat.strongRecOn with
   | _ i ih=>
    by_cases h:∃j,j<i∧listed.getD j true=false
    ·obtain⟨j,hj,hjb⟩:=h
     exact ih j hj (by omega) hjb
    ·refine⟨i,hlt,hb,fun j hj=>?_⟩
     cases hjb:listed.getD j true with
     | true=>rfl
     | false=>exact absurd ⟨j,hj,hjb⟩ h
  obtain⟨i0,hi0,hu0,hbelow⟩:=prog
  have hready:i0∈Region.ready .any ops listed:=by
   have ho:ops[i0]?=some (ops[i0]'(by omega)):=by simp
   refine mem_ready.2 ⟨hu0,_,ho,fun e he hb=>?_⟩
   have hlt:=(facts i0 _ hi0 ho).1 e he hb
   have:=hbelow _ hlt
   have hjl:e.on<listed.size:=by omega
   simpa[hjl] using this
  rw[show c+1+(ops.size - m)=(c+(ops.size - m))+1 by omega]
  refine⟨fun h0=>(by rw[h0] at hready;cases hready),fun i hir=>?_⟩
  obtain⟨hu,o,ho,hall⟩:=mem_ready.1 hir
  have hilt:i<ops.size:=(Array.getElem?_eq_some_iff.1 ho).1
  have listed_of_bnd:∀j,bnd ops i j=true→listed.getD j false=true:=by
   intro j hb
   simp only[bnd,ho] at hb
   obtain⟨e,he,hb⟩:=Array.any_eq_true'.1 hb
   simp only[Bool.and_eq_true] at hb
   have:=hall e he hb.1
   rwa [Nat.eq_of_beq_eq_true hb.2] at this
  have him:i<m:=by
   rcases Nat.lt_or_ge i m with h|h
   ·exact h
   ·have hc:=hchk2 i h hilt
    simp only[chkTail,ho,Bool.and_eq_true,List.all_eq_true,List.mem_range] at hc
    have:=cov hld 12 i i0 (hc.2 i0 (by omega)) (fun o' ho' e he hb=>by
     rw[ho] at ho'
     obtain rfl:=Option.some.inj ho'
     exact hall e he hb)
    rw[not_listed hu0] at this
    cases this
  obtain⟨f1,f2,f3,f4⟩:=facts i o him ho
  have hlx:x<i→listed.getD x false=true:=fun hxi=>cov hld 12 i x (hpo i hxi him) (fun o' ho' e he hb=>by
   rw[ho] at ho'
   obtain rfl:=Option.some.inj ho'
   exact hall e he hb)
  have hxun:i<x→fr i=false→listed.getD x true=false:=by
   intro hix hfr
   cases hlx:listed.getD x true with
   | false=>rfl
   | true=>
    have hxl:x<listed.size:=by omega
    have hlx':listed.getD x false=true:=by simpa[hxl] using hlx
    have:=cov hld 12 x i (hanc i hix hfr) (fun o' ho' e he hb=>hld x o' hlx' ho' e he hb)
    rw[not_listed hu] at this
    cases this
  have hyun:i<y→(i<x→fr i=false)→listed.getD y true=false:=by
   intro hiy hfr
   cases hly:listed.getD y true with
   | false=>rfl
   | true=>
    have hyl:y<listed.size:=by omega
    have hly':listed.getD y false=true:=by simpa[hyl] using hly
    have:=cov hld 12 y i (hancY i hiy hfr) (fun o' ho' e he hb=>hld y o' hly' ho' e he hb)
    rw[not_listed hu] at this
    cases this
  have hcond:i≤x→∀j,j<m→(∃t,(t∈tmpsOf o∨gdst ops o=some t)∧dstOf ops j=some t)→(listed.getD x true=false∨((kp j=true∨x≤j)∧(listed.getD y true=false∨StJ S (As j)))):=by
   rintro hix0 j hj ⟨t,ht,hd⟩
   by_cases hix:i=x
   ·exact .inl (hix▸hu)
   ·cases hfr:fr i with
    | true=>
     obtain⟨q1,q2,q3⟩:=hfree i o (by omega) hfr ho t ht j hj hd
     have hoj:ops[j]?=some (ops[j]'(by omega)):=by simp
     exact .inr ⟨.inl q1,.inr ((hops j _ q3 hoj).2.2 q1)⟩
    | false=>exact .inl (hxun (by omega) hfr)
  have byLook:i≤x→∀t,(t∈tmpsOf o∨gdst ops o=some t)→∀B,look (envF ops L As 0 i) t=some B→B.p (a.eval (.tmp t)) w:=by
   intro hix t ht B hB
   rcases look_envF L As t B i hB with ⟨j,hj,hd,rfl⟩|⟨hn,hl⟩
   ·exact hi.hA j (by omega) (listed_of_bnd j (f3 t ht j (by omega) hd)) (hcond hix j (by omega) ⟨t,ht,hd⟩) t hd
   ·refine hi.hL t B hl fun j hj hd=>?_
    have hb:=f3 t ht j hj hd
    simp only[bnd,ho] at hb
    obtain⟨e,he,hb⟩:=Array.any_eq_true'.1 hb
    simp only[Bool.and_eq_true] at hb
    have hlt:=f1 e he hb.1
    rw[Nat.eq_of_beq_eq_true hb.2] at hlt
    exact hn j hlt hd
  have byLookP:listed.getD y true=false→∀t,(t∈tmpsOf o∨gdst ops o=some t)→∀B,look (envF ops L (fun j=>if kp j=true∨x≤j then As j else Any) 0 i) t=some B→B.p (a.eval (.tmp t)) w:=by
   intro hyu t ht B hB
   rcases look_envF L _ t B i hB with ⟨j,hj,hd,rfl⟩|⟨hn,hl⟩
   ·by_cases hk:kp j=true∨x≤j
    ·rw[if_pos hk]
     exact hi.hA j (by omega) (listed_of_bnd j (f3 t ht j (by omega) hd)) (.inr ⟨hk,.inl hyu⟩) t hd
    ·rw[if_neg hk];trivial
   ·refine hi.hL t B hl fun j hj hd=>?_
    have hb:=f3 t ht j hj hd
    simp only[bnd,ho] at hb
    obtain⟨e,he,hb⟩:=Array.any_eq_true'.1 hb
    simp only[Bool.and_eq_true] at hb
    have hlt:=f1 e he hb.1
    rw[Nat.eq_of_beq_eq_true hb.2] at hlt
    exact hn j hlt hd
  have ops1:i≤x→∀x∈o.op.operands,∀B,opd (envF ops L As 0 i) x=some B→B.p (a.eval x) w:=fun hix x hx B hB=>by
   cases x with
   | tmp t=>exact byLook hix t (.inl (List.mem_filterMap.2 ⟨.tmp t,by simpa using hx,rfl⟩)) B hB
   | const v=>simp[opd] at hB;subst hB;rfl
   | global g=>simp[opd] at hB;subst hB;rfl
   | func f=>simp[opd] at hB;subst hB;rfl
  have ops2:listed.getD y true=false→∀x'∈o.op.operands,∀B,opd (envF ops L (fun j=>if kp j=true∨x≤j then As j else Any) 0 i) x'=some B→B.p (a.eval x') w:=fun hyu x' hx B hB=>by
   cases x' with
   | tmp t=>exact byLookP hyu t (.inl (List.mem_filterMap.2 ⟨.tmp t,by simpa using hx,rfl⟩)) B hB
   | const v=>simp[opd] at hB;subst hB;rfl
   | global g=>simp[opd] at hB;subst hB;rfl
   | func f=>simp[opd] at hB;subst hB;rfl
  have hdst:dstOf ops i=o.dst:=by simp[dstOf,ho]
  have step:∀v w',S w w'→(i≠x→i≠y→Ext w w')→(i=x→∀j,j<x→kp j=true→StJ S (As j))→(As i).p v w'→(i=x→F w')→(i=y→F2 w')→wpAnyIn (FW r) 0 P .any ops Q (c+(ops.size - m)) (listed.setIfInBounds i true) (a.put o.dst v) w':=by
   intro v w' hx hxe hxa hv hvF hvF2
   have stab:∀(A:VA) u,StJ S A→A.p u w→A.p u w':=fun A u hA h=>hA.av _ _ _ hx h
   refine wpAny_mainK hR hx0 hy0 hFst hFst2 hm hchk hchk2 hanc hancY hpo hfk hfree hopsP hops hX hLav hY hYd hks hend c _ _ _ ?_ (by simpa using hsz) ?_ ?_ ?_
   ·have:=countP_upd m (fun j => !listed.getD j true) (fun j => !(listed.setIfInBounds i true).getD j true) i him (by simp only[hu,Bool.not_false])
     (by
       have hjl:i<listed.size:=by omega
       simp[hjl]) (fun j hj=>by simp only[getD_set_ne true (Ne.symm hj)])
    omega
   ·intro j hj hj'
    rw[getD_set_ne true (by omega)]
    exact hun j hj hj'
   ·exact hld.set fun o' ho' e he hb=>by
     rw[ho] at ho'
     obtain rfl:=Option.some.inj ho'
     exact hall e he hb
   ·refine⟨hR.tr hi.ext hx,fun hl=>?_,fun hl hl2=>?_,fun hl=>?_,by simp[hi.size],by simp[hi.defers],fun t A ht hn=>?_,fun j hj hl hcj d hd=>?_⟩
    ·have hix:i≠x:=by
      rintro rfl
      have hjl:i<listed.size:=by omega
      simp[hjl] at hl
     rw[getD_set_ne true hix] at hl
     have hiy:i≠y:=fun hiy=>by
      have h1:=hlx (by omega)
      rw[not_listed hl] at h1;cases h1
     exact Ext.tr (hi.pre hl) (hxe hix hiy)
    ·by_cases hix:i=x
     ·exact hvF hix
     ·have hiy:i≠y:=fun hiy=>by
       have hyl:y<listed.size:=by omega
       rw[hiy] at hl2
       simp[hyl] at hl2
      rw[getD_set_ne false hix] at hl
      rw[getD_set_ne true hiy] at hl2
      exact hFst _ _ (hxe hix hiy) (hi.post hl hl2)
    ·by_cases hiy:i=y
     ·exact hvF2 hiy
     ·rw[getD_set_ne false hiy] at hl
      have hix:i≠x:=fun hix=>by
       have:=hyun (by omega) (fun h=>by omega)
       rw[not_listed this] at hl;cases hl
      exact hFst2 _ _ (hxe hix hiy) (hi.fin hl)
    ·have h0:=stab A _ ⟨hLav.av t A ht⟩ (hi.hL t A ht hn)
     cases hod:o.dst with
     | none=>exact h0
     | some d=>
      have:d≠t:=fun e=>hn i him (by rw[hdst,hod,e])
      rw[eval_put_ne this]
      exact h0
    ·by_cases hji:j=i
     ·subst hji
      rw[hdst] at hd
      rw[hd,eval_put_same (by rw[hi.size];exact f2 d hd)]
      exact hv
     ·have hl':listed.getD j false=true:=by rwa [getD_set_ne false (Ne.symm hji)] at hl
      have hcj':listed.getD x true=false∨((kp j=true∨x≤j)∧(listed.getD y true=false∨StJ S (As j))):=by
       by_cases hix:i=x
       ·exact .inl (hix▸hu)
       ·rw[getD_set_ne true hix] at hcj
        by_cases hiy:i=y
        ·rcases hcj with h|⟨h,_⟩
         ·exact .inl h
         ·exact .inr ⟨h,.inl (hiy▸hu)⟩
        ·rw[getD_set_ne true hiy] at hcj
         exact hcj
      have h1:=hi.hA j hj hl' hcj' d hd
      have h0:(As j).p (a.eval (.tmp d)) w':=by
       by_cases hix:i=x
       ·have hjx:j<x:=by
         rcases Nat.lt_trichotomy j x with h|h|h
         ·exact h
         ·exact absurd (h.trans hix.symm) hji
         ·have:=cov hld 12 j x (hpo j h hj) (fun o' ho' e he hb=>hld j o' hl' ho' e he hb)
          rw[not_listed (hix▸hu)] at this
          cases this
        refine stab _ _ (hxa hix j hjx ?_) h1
        rcases hcj with h|⟨h|h,_⟩
        ·have hxl:x<listed.size:=by omega
         subst hix
         simp[hxl] at h
        ·exact h
        ·omega
       ·by_cases hiy:i=y
        ·refine stab _ _ ?_ h1
         have hxl:listed.getD x false=true:=hlx (by omega)
         rcases hcj with h|⟨_,h|h⟩
         ·rw[getD_set_ne true hix] at h
          rw[not_listed h] at hxl;cases hxl
         ·have hyl:y<listed.size:=by omega
          rw[hiy] at h
          simp[hyl] at h
         ·exact h
        ·exact (As j).st _ _ _ (hxe hix hiy) h1
      cases hod:o.dst with
      | none=>exact h0
      | some d'=>
       have:d'≠d:=fun e=>f4 j hj hji d' hod (by rw[hd,e])
       rw[eval_put_ne this]
       exact h0
  unfold wpOpIn
  simp only[ho]
  by_cases hix:i=x
  ·obtain⟨hgd,hxo⟩:=hX o (hix▸ho)
   have hw:Region.wanted o (yielded ops a.tmps)=true:=by unfold Region.wanted;rw[hgd]
   rw[if_pos hw]
   have hpre:Ext w0 w:=hi.pre (hix▸hu)
   exact (hxo.out a.eval w hpre (hix▸ops1 (Nat.le_of_eq hix))).wp fun v w' hv=>step v w' hv.1 (fun h=>absurd hix h) (fun _ j hj=>by
    have hoj:ops[j]?=some (ops[j]'(by omega)):=by simp
    exact fun hfj=>(hops j _ hj hoj).2.2 hfj) (hix▸hv.2.1) (fun _=>hv.2.2) (fun h=>by omega)
  ·by_cases hiy:i=y
   ·obtain⟨hgd,hyo⟩:=hY o (hiy▸ho)
    have hw:Region.wanted o (yielded ops a.tmps)=true:=by unfold Region.wanted;rw[hgd]
    rw[if_pos hw]
    have hyu:listed.getD y true=false:=hiy▸hu
    exact ((hyo w hi.ext (hi.post (hlx (by omega)) hyu)).out a.eval w (Ext.rfl' w) (hiy▸ops2 hyu)).wp fun v w' hv=>step v w' hv.1 (fun _ h=>absurd hiy h) (fun h=>absurd h hix) (hiy▸hv.2.1) (fun h=>absurd h hix) (fun _=>hv.2.2)
   ·have hg:if Region.wanted o (yielded ops a.tmps) then OpR P o a.eval w (fun v w'=>Ext w w'∧(As i).p v w') else (As i).p undef w:=by
     by_cases hlt:i<x
     ·cases hfr:fr i with
      | true=>exact (hops i o hlt ho).2.1 hfr w hi.ext a w (Ext.rfl' w) (ops1 (by omega)) (fun d B hd hB=>byLook (by omega) d (.inr hd) B hB)
      | false=>exact (hops i o hlt ho).1 hfr a w (hi.pre (hxun hlt hfr)) (ops1 (by omega)) (fun d B hd hB=>byLook (by omega) d (.inr hd) B hB)
     ·have hyu:=hyun (by omega) (fun h=>by omega)
      exact hopsP i o (by omega) (by omega) ho w hi.ext (hi.post (hlx (by omega)) hyu) a w (Ext.rfl' w) (ops2 hyu) (fun d B hd hB=>byLookP hyu d (.inr hd) B hB)
    split
    ·rename_i hw
     rw[if_pos hw] at hg
     exact (hg.wp fun v w' hv=>step v w' (hR.ext hv.1) (fun _ _=>hv.1) (fun h=>absurd h hix) hv.2 (fun h=>absurd h hix) (fun h=>absurd h hiy))
    ·rename_i hw
     rw[if_neg hw] at hg
     exact⟨fun _ _=>trivial,step undef w (hR.ext (Ext.rfl' w)) (fun _ _=>Ext.rfl' _) (fun h=>absurd h hix) hg (fun h=>absurd h hix) (fun h=>absurd h hiy)⟩

def chkK (ops:Array Oper)(y:Nat)(fr:List Nat):Bool:=
 chkJ ops (y+1) fr&&Nat.blt fr.length y&&((List.range y).all fun j=>(Nat.blt j fr.length&&frQ fr j) || covers ops 12 y j) &&
 ((
   List.range fr.length).all fun i => !frQ fr i || match ops[i]? with
   | none=>false
   | some o=>(tmpsOf o++(gdst ops o).toList).all fun t=>(List.range (y+1)).all fun j=>(match dstOf ops j with|some d => !Nat.beq d t|none=>true) || Nat.blt j fr.length) &&
 (match ops[y]? with|none=>false|some o=>o.dst.isNone&&o.guard.isNone)
theorem regK {id:Nat}{ops:Array Oper}{L:Env}{a:Act}{w:World}(y:Nat)(fr:List Nat)(ks:List Nat)(S:World→World→Prop)(hR:RelJ S)(F F2:World→Prop)(hFst:∀w w',Ext w w'→F w→F w')(hFst2:∀w w',Ext w w'→F2 w→F2 w')(hmix:P.follows .mixedOrders=true)(hf:FrD n ds a w L)[hL:StJL S L](hchk:chk ops (y+1) n=true)(hchkZ:chkK ops y fr=true)
  (h:RegJQ P ops w S F [] 0 fr (ops.toList.take y) (fun L'=>∃A,(∀o,ops[y]?=some o→∀w1,S w w1→F w1→XOpJ P w1 S F2 L' o A)∧StJL S (keep ks L')∧∀a' w',S w w'→F2 w'→FrD n ds a' w' (keep ks L')→wpListIn (FW r) 0 P ops Q (ops.toList.drop (y+1)) a' w') L L):(Code.region id ops true).wpIn (FW r) 0 P Q a w:=by
 simp only[chk,Bool.and_eq_true,List.all_eq_true,List.mem_range,Bool.or_eq_true,Nat.ble_eq] at hchk
 obtain⟨⟨hm,h1⟩,h2⟩:=hchk
 refine wpIn_region_any hmix ?_
 have hlen:(ops.toList.take y).length=y:=by simp;omega
 obtain⟨As,hfl,hAs,hX,hPo,A,hyA,hyst,hK⟩:=RegJQ_As (ops:=ops) (ops.toList.take y) fr 0 L L (fun j hj=>by
  rw[hlen] at hj
  rw[Nat.zero_add,List.getElem?_take,if_pos hj];simp) h
 rw[hlen] at hyA hyst hK hfl hPo
 simp only[chkK,chkJ,chkJp,Bool.and_eq_true,List.all_eq_true,List.mem_range,Bool.or_eq_true,Nat.blt_eq,Nat.ble_eq] at hchkZ
 obtain⟨⟨⟨⟨⟨⟨⟨hx,z1⟩,z3⟩,z2⟩,hxy⟩,z4⟩,z5⟩,z6⟩:=hchkZ
 have hext:Ext w { w with drawn:=w.drawn+1 }:=Ext.drew w
 obtain⟨As',hAs'⟩:∃As':Nat→VA,As'=fun j=>if j=y then A else As j:=⟨_,rfl⟩
 have hlt:∀j,j<y→As' j=As j:=fun j hj=>by rw[hAs'];exact if_neg (by omega)
 have hyy:As' y=A:=by rw[hAs'];exact if_pos rfl
 have hen:∀(f:Nat→VA) (f':Nat→VA) k,(∀j,j<k→f j=f' j)→envF ops L f 0 k=envF ops L f' 0 k:=fun f f' k hk=>by
  induction k with
  | zero=>rfl
  | succ k ih=>rw[envF,envF,ih (fun j hj=>hk j (by omega)),hk k (by omega)]
 have e1:∀k,k≤y→envF ops L As' 0 k=envF ops L As 0 k:=fun k hk=>hen _ _ k fun j hj=>hlt j (by omega)
 have e2:∀k,k≤y→envF ops L (fun j=>if kpQ fr j=true∨fr.length≤j then As' j else Any) 0 k=envF ops L (fun j=>if kpQ fr j=true∨fr.length≤j then As j else Any) 0 k:=fun k hk=>hen _ _ k fun j hj=>by
  show (if _ then As' j else Any)=_
  rw[hlt j (by omega)]
 have hoy:∃oy,ops[y]?=some oy∧oy.dst=none∧oy.guard=none:=by
  cases ho:ops[y]? with
  | none=>rw[ho] at z6;cases z6
  | some o=>
   rw[ho] at z6
   simp only[Bool.and_eq_true,Option.isNone_iff_eq_none] at z6
   exact⟨o,rfl,z6.1,z6.2⟩
 obtain⟨oy,hoy,hyd,hyg⟩:=hoy
 have:=wpAny_mainK (P:=P) (ops:=ops) (Q:=Q) (w0:=w) (n:=n) (ds:=ds) (m:=y+1) (x:=fr.length) (y:=y) (fr:=frQ fr) (kp:=kpQ fr) (S:=S) (F:=F) (F2:=F2) (ks:=ks) (r:=r) (L:=L) (As:=As') hR hxy rfl hFst hFst2 hm h1 (fun i hi hi'=>by
   rcases h2 i hi' with h|h
   ·simp only[Nat.blt_eq] at h;omega
   ·exact h) (fun j hj hfj=>by
   rcases z1 j hj with h|h
   ·rw[hfj] at h;cases h
   ·exact h) (fun j hj hfj=>by
   rcases z4 j hj with ⟨h,h'⟩|h
   ·rw[hfj h] at h';cases h'
   ·exact h) (fun j hj hjm=>by
   rcases z3 j hjm with (h|h)|h
   ·omega
   ·cases h
   ·exact h) (fun j h=>by
   unfold frQ at h
   unfold kpQ
   rw[Nat.eq_of_beq_eq_true h];rfl) (fun i o hi hfi ho t ht j hj hd=>by
   have:=z2 i hi
   rw[hfi,ho] at this
   simp only[Bool.not_true,Bool.false_eq_true,false_or,List.all_eq_true,List.mem_append,Option.mem_toList,List.mem_range,Bool.or_eq_true] at this
   rcases this t ht j hj with h|h
   ·rw[hd] at h;simp at h
   ·rw[Bool.and_eq_true,Nat.blt_eq] at h
    exact⟨h.1,by omega,h.2⟩) (fun j o hj hjm ho=>by rw[e2 j (by omega),hlt j hjm];exact fun w1 a b=>(hPo j o hj hjm (by simpa using ho)).1 w1 a (.inr b)) (fun j o hj ho=>by rw[e1 j (by omega),hlt j (by omega)];exact hAs j o hj (by simpa using ho)) (fun o ho=>by rw[e1 _ (by omega),hlt _ (by omega)];exact hX o (by simpa using ho)) hL
   (fun o ho=>by
    rw[hoy] at ho;cases ho
    exact⟨hyg,fun w1 q1 q2=>by rw[e2 y (Nat.le_refl _),hyy];exact hyA _ hoy w1 q1 q2⟩) (by simp[dstOf,hoy,hyd]) (by rw[e2 y (Nat.le_refl _)];exact hyst) (fun a w hx hF hf=>hK a w hx hF (by rw[e2 y (Nat.le_refl _)] at hf;exact hf)) (y+1)
  (Array.replicate ops.size false) a { w with drawn:=w.drawn+1 } ?_ (by simp) ?_ ?_ ⟨hR.ext hext,fun _=>hext,fun hl=>?_,fun hl=>?_,hf.size,hf.defers,fun t A ht _=>A.st _ _ _ hext (hf.val t A ht),fun i hi hl=>?_⟩
 ·rwa [show y+1+(ops.size - (y+1))=ops.size by omega] at this
 ·have:(List.range (y+1)).countP (fun i => !(Array.replicate ops.size false).getD i true)=(List.range (y+1)).length:=by
   refine List.countP_eq_length.2 fun i hi=>?_
   have:=List.mem_range.1 hi
   have hlt:i<ops.size:=by omega
   simp[hlt]
  simpa using this
 ·intro j _ hj
  simp[hj]
 ·intro i o hl
  have:(Array.replicate ops.size false).getD i false=false:=by
   by_cases hlt:i<ops.size <;> simp[hlt]
  rw[this] at hl;cases hl
 ·have:(Array.replicate ops.size false).getD fr.length false=false:=by
   by_cases hlt:fr.length<ops.size <;> simp[hlt]
  rw[this] at hl;cases hl
 ·have:(Array.replicate ops.size false).getD y false=false:=by
   by_cases hlt:y<ops.size <;> simp[hlt]
  rw[this] at hl;cases hl
 ·have:(Array.replicate ops.size false).getD i false=false:=by
   by_cases hlt:i<ops.size <;> simp[hlt]
  rw[this] at hl;cases hl
end
end Go.Mono
namespace Go.Mono
open Go Go.Proofs Go.RowKit Go.Gr
theorem plainElem_bool_inv {H:Type}{P:Program}{e:TypeId}(he:P.underlying e=some .bool){v:Value}{z:DataW H×List MemPlace}(h:plainElem P e v=some z):∃c,v=.bool c∧z=(.lit (.bool c),[]):=by
 unfold plainElem at h
 rw[he] at h
 cases v <;> simp at h
 rename_i c
 exact⟨c,rfl,h.symm⟩
noncomputable def bKV:KV Tryz.prog Int Bool where
 k:=3
 e:=4
 kv:=fun x=>.int .i64 x
 kl:=fun x=>.int .i64 x
 ok:=fun x=>(Lit.int .i64 x).wf=true
 mv:=fun c=>.bool c
 dv:=fun c=>.lit (.bool c)
 okv:=fun _=>True
 R:=plainElem Tryz.prog 4
 K:=Maps.int_keyed U3
 key:=fun x hx=>Maps.keyOf_int_mk U3 hx
 keyInv:=fun v l h=>by obtain⟨x,h1,h2,h3⟩:=Maps.keyOf_int_inv U3 h;exact⟨x,h3,h1,h2⟩
 kvInj:=fun x y h=>by cases h;rfl
 val:=fun c hc=>plainElem_bool U4 c
 valInv:=fun v y h=>by
  obtain⟨c,h1,h2⟩:=plainElem_bool_inv U4 h
  exact⟨c,trivial,h1,h2⟩
 dvInj:=fun c c' h=>by cases h;rfl
def lkV {β:Type}(z:β)(l:List (Int×β))(i:Int):β:=((l.find? fun p=>decide (p.1=i)).map (·.2)).getD z
theorem lkV_no {β:Type}{z:β}{l:List (Int×β)}{i:Int}(h:∀c,(i,c) ∉ l):lkV z l i=z:=by
 have:l.find? (fun p=>decide (p.1=i))=none:=by
  rw[List.find?_eq_none]
  intro p hp hh
  have h3:p.1=i:=by simpa using hh
  exact h p.2 (by rw[← h3];exact hp)
 rw[lkV,this];rfl
theorem lkV_yes {β:Type}{z c:β}{l:List (Int×β)}{i:Int}(hp:l.Pairwise fun p q=>p.1≠q.1)(h:(i,c)∈l):lkV z l i=c:=by
 cases hf:l.find? (fun p=>decide (p.1=i)) with
 | none=>have:=List.find?_eq_none.1 hf _ h;simp at this
 | some p=>
  have k1:=List.find?_some hf
  have k2:=List.mem_of_find?_eq_some hf
  have k3:p.1=i:=by simpa using k1
  have k4:p=(i,p.2):=by rw[← k3]
  rw[k4] at k2
  rw[lkV,hf]
  exact nodup_val hp k2 h
section
variable {w0:World}{L:Env}{dst:Option Tmp}{ty:TypeId}{pos:String}{aft:Array Edge}{g:Option (Nat×Bool)}{x y:Operand}{t:TypeId}{β:Type}{l:List (Int×β)}{b n:Nat}
theorem lkVM {V:KV Tryz.prog Int β}{i:Int}{z:β}(hz:∀w,(zeroValue V.e).run Tryz.prog w=.ok (V.mv z) w)(hz0:V.okv z)(ht:Tryz.prog.underlying t=some (.map V.k V.e))(hx:opd L x=some (E (.map (some b))))(hM:MpR V w0 b n l)(hy:opd L y=some (E (V.kv i)))(hi:V.ok i) :
  OpC Tryz.prog w0 L ⟨dst,.lookup t x y false,ty,pos,aft,g⟩ (E (V.mv (lkV z l i))):=
 opc_pure fun ρ w he' hv=>by
  have h5:=opE hv (x:=x) (by simp[Op.operands]) hx
  have h6:=opE hv (x:=y) (by simp[Op.operands]) hy
  have h2:=hM.ext he'
  obtain⟨D,m1,m2,m3,m4,_⟩:=h2.has (x:=i) hi
  obtain⟨v,ps,r1,r2⟩:=m1.lookup V.K ht (hz w) (V.val z hz0) (V.key i hi)
  obtain⟨c,_,rfl,hy2⟩:=V.valInv _ _ r2
  have hcc:c=lkV z l i:=by
   have h8:=congrArg Prod.fst hy2
   simp only at h8
   by_cases hex:∃c',(i,c')∈l
   ·obtain⟨c',hc'⟩:=hex
    rw[m3 c' hc'] at h8
    obtain⟨_,_,_,_,hp⟩:=h2
    rw[lkV_yes hp hc']
    exact (V.dvInj _ _ h8).symm
   ·have hno:∀c',(i,c') ∉ l:=fun c' h=>hex ⟨c',h⟩
    rw[m4 hno] at h8
    rw[lkV_no hno]
    exact (V.dvInj _ _ h8).symm
  rw[hcc] at r1
  exact⟨_,by simp only[execOp,h5,h6,Sem.run_bind,r1,Result.andThen_ok,Sem.run_pure],rfl⟩
end
def SeR (w:World)(b:Nat)(S:BS):Prop:=∃l:List (Int×Bool),MpR bKV w b l.length l∧(∀p∈l,p.2=true∧∃n:Nat,p.1=(n:Int)∧S.getLsbD n=true)∧∀n:Nat,S.getLsbD n=true→((n:Int),true)∈l
section
variable {w w':World}{b:Nat}{S:BS}
theorem SeR.lt (h:SeR w b S):b<w.heap.size:=by obtain⟨l,h,_⟩:=h;exact h.lt
theorem SeR.ext (h:SeR w b S)(e':Ext w w'):SeR w' b S:=by obtain⟨l,h1,h2⟩:=h;exact⟨l,h1.ext e',h2⟩
instance:Ug w w' (SeR w b S) (SeR w' b S):=⟨fun e h=>h.ext e⟩
theorem SeR.gr (h:SeR w b S){c:Option Nat}(hg:w.grownBy w' c)(hne:some b≠c):SeR w' b S:=by obtain⟨l,h1,h2⟩:=h;exact⟨l,h1.gr hg hne,h2⟩
theorem se_len {l:List (Int×Bool)}{n:Nat}(h:MpR bKV w b n l)(h2:∀p∈l,p.2=true∧∃n:Nat,p.1=(n:Int)∧S.getLsbD n=true):l.length≤1024:=by
 obtain⟨_,_,_,_,hn⟩:=h
 have:=nd_lenI (l.map (·.1)) (natE (elems S)) (List.pairwise_map.2 hn) fun x hx=>by
  obtain⟨p,hp,rfl⟩:=List.mem_map.1 hx
  obtain⟨_,n,h1,h2⟩:=h2 p hp
  rw[h1]
  exact List.mem_map.2 ⟨n,mem_elems.2 ⟨bit_lt h2,h2⟩,rfl⟩
 rw[List.length_map,natE_len,card_elems] at this
 exact Nat.le_trans this (card_le_1024 S)
theorem SeR.put {l:List (Int×Bool)}{m n:Nat}(hn:n<1024)(h:MpR bKV w b m (putP l (n:Int) true))(h2:∀p∈l,p.2=true∧∃n:Nat,p.1=(n:Int)∧S.getLsbD n=true)(h3:∀n:Nat,S.getLsbD n=true→((n:Int),true)∈l):SeR w b (ins S (n:Int)):=by
 refine⟨_,h.tight0,fun p hp=>?_,fun k hk=>?_⟩
 ·rcases putP_mem hp with rfl|hp
  ·exact⟨rfl,n,rfl,(bit_ins _ hn).2 (.inr rfl)⟩
  ·obtain⟨q1,k,q2,q3⟩:=h2 p hp
   exact⟨q1,k,q2,(bit_ins _ hn).2 (.inl q3)⟩
 ·by_cases hkn:k=n
  ·rw[hkn];exact List.mem_cons_self ..
  ·have:=((bit_ins _ hn).1 hk).resolve_right hkn
   refine List.mem_cons_of_mem _ (List.mem_filter.2 ⟨h3 k this,?_⟩)
   simp only[Bool.not_eq_true',decide_eq_false_iff_not]
   omega
theorem bool_zero (w:World):(zeroValue bKV.e).run Tryz.prog w=.ok (bKV.mv false) w:=zero_of I4 w
theorem seLk {w0:World}{L:Env}{dst:Option Tmp}{ty:TypeId}{pos:String}{aft:Array Edge}{g:Option (Nat×Bool)}{x y:Operand}{t:TypeId}{n:Nat}(ht:Tryz.prog.underlying t=some (.map bKV.k bKV.e))(hx:opd L x=some (E (.map (some b))))(hM:SeR w0 b S)(hy:opd L y=some (E (I (n:Nat))))(hi:n<1024) :
  OpC Tryz.prog w0 L ⟨dst,.lookup t x y false,ty,pos,aft,g⟩ (E (B (S.getLsbD n))):=by
 obtain⟨l,h1,h2,h3⟩:=hM
 have hk:=lkVM (V:=bKV) (z:=false) (i:=(n:Int)) (dst:=dst) (ty:=ty) (pos:=pos) (aft:=aft) (g:=g) bool_zero trivial ht hx h1 hy (wf64 (by omega) (by omega))
 have hv:lkV false l (n:Int)=S.getLsbD n:=by
  cases hb:S.getLsbD n with
  | true=>obtain⟨_,_,_,_,hp⟩:=h1;exact lkV_yes hp (h3 n hb)
  | false=>
   refine lkV_no fun c hc=>?_
   obtain⟨_,k,q1,q2⟩:=h2 _ hc
   have:k=n:=by have:(n:Int)=(k:Int):=q1;omega
   rw[this,hb] at q2;cases q2
 rw[hv] at hk
 exact hk
end
theorem rch7_spec {G:Nat→Prop}(g:GT)(ok:Gr.Ok g)(a0:Nat)(ha:(vset g.1).getLsbD a0=true)(v:Value)(W:World)(h:(Dv gtE G g).p v W)(hl1:g.1.length≤100000)(hl2:g.2.length≤100000){K:Nat→Prop}(hK:∀b,K b→b<W.heap.size) :
  Calls Tryz.prog 81 #[v,I (a0:Nat)] W (Post (Dv (slE intE) K (elL (cpt (nbA g) a0))) W):=by
 obtain⟨u1,u2,rfl,h1,h2⟩:=Dv.gt.1 (Dv.weak (G':=G0) h fun b _ hb=>hb.elim)
 replace h1:=Dv.toB h1
 replace h2:=Dv.toB h2
 have ha1:=bit_lt ha
 have hwa:(Lit.int .i64 (a0:Int)).wf=true:=wf64 (by omega) (by omega)
 have hrch:=reach_is ok ha
 have hin:=cpt_in ok ha
 have hids:=ids_in ok hin
 refine eN [.agg #[u1,u2],I (a0:Nat)] [E (.agg #[u1,u2]),E (I (a0:Nat))] Tryz.func81 Tryz.ntmps81 ?_ fun a hf=>?_
 rotate_left
 dsimp only[params,Nat.reduceAdd] at hf
 rotate_right
 ·exact arg2 rfl rfl
 have e:=Ext.rfl' W
 refine seq <| regn0 <| tB hf rfl fun a b2 w v2 hv2 e' hb2 hs2 B2 hf=>?_
 replace e:=e.tr e'
 refine tA hf rfl fun a hf=>tl_nil ?_
 cases hv2
 have l2:=B2.lt
 replace hf:=hf.kp [1,2]
 refine seq <| regn0 <| tl_mkV bKV hf (by decide) fun a bm w e' hbm hsz HM hf=>?_
 replace e:=e.tr e';replace B2:=B2.ext e';clear e'
 have nb2:b2<bm:=by omega
 have nbW:W.heap.size≤bm:=by have:=e.size;omega
 obtain⟨N1,hN1⟩:∃N1,N1=w.heap.size:=⟨_,rfl⟩
 have hbN:bm<N1:=by omega
 have hN1s:N1≤w.heap.size:=Nat.le_of_eq hN1
 have hWN:W.heap.size≤N1:=by omega
 refine tP hf (mv rfl) fun a w e' hf=>?_
 obtain⟨HM,hN1s,e,B2⟩:=up4 e' HM hN1s e B2
 refine tl_insV (V:=bKV) (i:=(a0:Int)) (c:=true) U49 hf rfl rfl rfl HM (by decide) hwa trivial fun w hg HM hf=>?_
 have HS:SeR w bm (ins 0 (a0:Int)):=SeR.put ha1 HM (fun p hp=>by cases hp) (fun n hn=>absurd hn (bit_zero n))
 replace e:=e.gr hg (by omega);replace B2:=B2.gr hg (by omega);replace hN1s:=Nat.le_trans hN1s hg.size;clear hg HM
 refine tP hf (mv rfl) fun a w e' hf=>?_
 obtain⟨HS,hN1s,e,B2⟩:=up4 e' HS hN1s e B2
 refine tA hf rfl fun a hf=>tl_nil ?_
 replace hf:=hf.keep [2,5]
 repeat refine seq ?_
 refine regn0 <| tA hf rfl fun a hf=>tl_nil ?_
 replace hf:=hf.keep [2,5,6]
 refine blk (loopN (fun r0 a w=>∃(j:Nat) ,r0=g.1.length - j∧j≤g.1.length∧Fr 88 a w [(2,E (ptr b2)),(5,E (.map (some bm))),(6,E (I j))]∧Ext W w∧Blk w b2 #[u1,u2] 25∧SeR w bm (rcN (esN g) (ins 0 (a0:Int)) j)∧N1≤w.heap.size) g.1.length ⟨0,rfl,by omega,hf,e,⟨B2,HS,hN1s⟩⟩ ?_)
 rintro r0 a w ⟨j,rfl,hj,hf,e,B2,HS,hN1s⟩
 repeat refine seq ?_
 refine rgN 5 hf <| st (mv rfl) <| st (fA U25 rfl T22 rfl) <| st (ld1 T22 rfl (by assumption) rfl) <| st (lenD U22 (isE rfl (VA.st _ _ _ _ e h1))) <| st (lss rfl rfl) <| en fun a w e' hf=>?_
 obtain⟨HS,hN1s,e,B2⟩:=up4 e' HS hN1s e B2
 refine tl_nil <| ifc hf rfl (fun hc=>wskip ?_) (fun hc=>wexit ?_)
 rotate_left
 rotate_left
 ·have hltj:j<g.1.length:=by have:=of_decide_eq_true hc;(try dsimp only at this);omega
  replace hf:=hf.keep [2,5,6]
  refine seq <| blk ?_
  obtain⟨S0,hS0⟩:∃S0,S0=rcN (esN g) (ins 0 (a0:Int)) j:=⟨_,rfl⟩
  have hS1:rcN (esN g) (ins 0 (a0:Int)) (j+1)=(esN g).foldl rcS S0:=by rw[hS0];rfl
  rw[← hS0] at HS
  have hel:(esN g).length=g.2.length:=by rw[esN,List.length_map]
  refine seq <| regn0 <| tA hf rfl fun a hf=>tl_nil ?_
  replace hf:=hf.keep [2,5,6,7]
  refine blk (loopN (fun r0 a w=>∃(i:Nat) ,r0=g.2.length - i∧i≤g.2.length∧Fr 88 a w [(2,E (ptr b2)),(5,E (.map (some bm))),(6,E (I j)),(7,E (I i))]∧Ext W w∧Blk w b2 #[u1,u2] 25∧SeR w bm (((esN g).take i).foldl rcS S0)∧N1≤w.heap.size) g.2.length ⟨0,rfl,by omega,hf,e,⟨B2,HS,hN1s⟩⟩ ?_)
  rintro r0 a w ⟨i,rfl,hi,hf,e,B2,HS,hN1s⟩
  repeat refine seq ?_
  refine rgN 5 hf <| st (mv rfl) <| st (fA U25 rfl T23 rfl) <| st (ld1 T23 rfl (by assumption) rfl) <| st (lenD U23 (isE rfl (VA.st _ _ _ _ e h2))) <| st (lss rfl rfl) <| en fun a w e' hf=>?_
  obtain⟨HS,hN1s,e,B2⟩:=up4 e' HS hN1s e B2
  refine tl_nil <| ifc hf rfl (fun hc=>wskip ?_) (fun hc=>wexit ?_)
  rotate_left
  rotate_left
  ·have hlti:i<g.2.length:=by have:=of_decide_eq_true hc;(try dsimp only at this);omega
   replace hf:=hf.keep [2,5,6,7]
   refine seq <| blk ?_
   have hg0:=List.getElem?_eq_getElem hlti
   generalize g.2[i]=x at hg0
   obtain⟨p,q,hx,hpq,hp,hq⟩:=ed_nat ok x (List.mem_of_getElem? hg0)
   have hp1:=bit_lt hp
   have hq1:=bit_lt hq
   have hwp:(Lit.int .i64 (p:Int)).wf=true:=wf64 (by omega) (by omega)
   have hwq:(Lit.int .i64 (q:Int)).wf=true:=wf64 (by omega) (by omega)
   have hen:(esN g)[i]?=some (p,q):=by rw[esN,List.getElem?_map,hg0,Option.map_some,hx];rfl
   have hsc:((esN g).take (i+1)).foldl rcS S0=rcS (((esN g).take i).foldl rcS S0) (p,q):=by rw[take_succ_get hen,List.foldl_append];rfl
   obtain⟨x1,x2⟩:=x
   subst hx
   generalize ((esN g).take i).foldl rcS S0=S at hsc HS
   refine seq <| rgN 18 hf <| st (mv rfl) <| st (fA U25 rfl T23 rfl) <| st (ld1 T23 rfl (by assumption) rfl) <| st (mv rfl) <| st (idxD U23 S51 (isE rfl (VA.st _ _ _ _ e h2)) rfl (by omega) (hg0)) <| st (fldD U51 rfl T3 (by decide) (Fld.fst (Fld.fst Fld.refl)) (isR rfl)) <| st (ldI T3 (isR rfl)) <| st (seLk U49 rfl HS rfl hp1) <| st (mv rfl) <| sgE rfl rfl (.k 5 rfl .n) (fun hgd=>mv rfl) <| sgE rfl rfl (.k 2 rfl .n) (fun hgd=>fA U25 rfl T23 rfl) <| sgE rfl rfl (.c 37 rfl (fun h=>h) .n) (fun hgd=>ld1 T23 rfl (by assumption) rfl) <| sgE rfl rfl (.k 7 rfl .n) (fun hgd=>mv rfl) <| sgE rfl rfl (.c 38 rfl (fun h=>h) (.c 39 rfl (fun h=>h) .n)) (fun hgd=>idxD U23 S51 (isE rfl (VA.st _ _ _ _ e h2)) rfl rfl (hg0)) <| sgE rfl rfl (.c 40 rfl (fun h=>h) .n) (fun hgd=>fldD U51 rfl T3 (by decide) (Fld.fst (Fld.snd Fld.refl rfl)) (isR rfl)) <| sgE rfl rfl (.c 41 rfl (fun h=>h) .n) (fun hgd=>ldI T3 (isR rfl)) <| sgE rfl rfl (.c 36 rfl (fun h=>h) (.c 42 rfl (fun h=>h) .n)) (fun hgd=>seLk U49 rfl HS rfl hq1) <| st (pkOr rfl rfl (fun h=>by rw[h];rfl)) ?_
   refine en fun a w e' hf=>?_
   obtain⟨HS,hN1s,e,B2⟩:=up4 e' HS hN1s e B2
   refine tl_nil <| ifc hf rfl (fun hb=>?_) (fun hb=>?_)
   ·rw[rcS,if_pos hb] at hsc
    replace hf:=hf.kp [2,5,6,7]
    obtain⟨l,HM,q2,q3⟩:=HS
    have hll:=se_len HM q2
    have hlm:l.length<maxLen:=by simp only[maxLen];omega
    refine regK 16 [2,0,0,0,0,0,0,1,0,0,0,0,0,2] [2,5,6,7,52,58] (Chg fun d=>d=bm) (RelJ.one _) (fun w=>True) (fun w=>MpR bKV w bm (l.length+1) (putP l (p:Int) true)) (fun w w1 k h=>trivial) (fun w w1 k h=>h.ext k) Mix.mix hf (by decide +kernel) (by decide +kernel) <| jk (mv rfl) <| ja (fA U25 rfl T23 rfl) <| ja (ld1 T23 rfl (by assumption) rfl) <| ja (mv rfl) <| ja (idxD U23 S51 (isE rfl (VA.st _ _ _ _ e h2)) rfl (by omega) (hg0)) <| ja (fldD U51 rfl T3 (by decide) (Fld.fst (Fld.fst Fld.refl)) (isR rfl)) <| ja (ldI T3 (isR rfl)) <| jf (fun w1 h1=>mv rfl) <| ja (fA U25 rfl T23 rfl) <| ja (ld1 T23 rfl (by assumption) rfl) <| ja (mv rfl) <| ja (idxD U23 S51 (isE rfl (VA.st _ _ _ _ e h2)) rfl (by omega) (hg0)) <| ja (fldD U51 rfl T3 (by decide) (Fld.fst (Fld.snd Fld.refl rfl)) (isR rfl)) <| jk (ldI T3 (isR rfl)) <| jx (enK (V:=bKV) (i:=(p:Int)) U49 bool_zero rfl rfl HM hwp hlm) <| jp (fun w1 h1 HF1=>ext_ rfl rfl) <| je <| ⟨Any,fun o ho w1 h1 HF1=>?_,by dsimp only[push,keep,List.filterMap,look,Nat.beq,Option.map];infer_instance,fun a w hc HF hf=>?_⟩
    ·obtain rfl:=Option.some.inj ho
     exact esK (V:=bKV) (i:=(p:Int)) (c:=true) rfl rfl rfl trivial
    try dsimp only[push,keep,List.filterMap,look,Nat.beq,Option.map] at hf
    have HS:SeR w bm (ins S (p:Int)):=SeR.put hp1 HF q2 q3
    replace e:=e.ch hc (fun b hb=>by omega);replace B2:=B2.ch hc (fun h=>by omega);replace hN1s:=Nat.le_trans hN1s hc.size;clear hc HF HM q2 q3 hll hlm
    obtain⟨l,HM,q2,q3⟩:=HS
    have hll:=se_len HM q2
    refine tl_ent (V:=bKV) (i:=(q:Int)) (c:=true) U49 bool_zero hf rfl rfl (by decide) (by decide) (fun _ _=>rfl) (fun _ _=>rfl) HM (by simp only[maxLen];omega) hwq trivial fun a w v0 s9 hg HM hf=>?_
    have HS:SeR w bm (ins (ins S (p:Int)) (q:Int)):=SeR.put hq1 HM q2 q3
    replace e:=e.gr hg (by omega);replace B2:=B2.gr hg (by omega);replace hN1s:=Nat.le_trans hN1s hg.size;clear hg HM q2 q3 hll
    refine tl_nil ?_
    rw[← hsc] at HS
    replace hf:=hf.kp [2,5,6,7]
    refine rgN 2 hf <| st (mv rfl) <| st ((add rfl rfl (by omega)).eq (congrArg (Value.int .i64) (show (i:Int)+1=((i+1:Nat):Int) from rfl))) <| en fun a w e' hf=>?_
    obtain⟨HS,hN1s,e,B2⟩:=up4 e' HS hN1s e B2
    refine tA hf rfl fun a hf=>tl_nil ?_
    replace hf:=hf.keep [2,5,6,7]
    refine⟨_,?_,i+1,rfl,by omega,hf,e,?_⟩
    ·omega
    exact⟨B2,HS,hN1s⟩
   ·rw[rcS,if_neg (by rw[hb];decide)] at hsc
    rw[← hsc] at HS
    refine wskip <| rgN 2 hf <| st (mv rfl) <| st ((add rfl rfl (by omega)).eq (congrArg (Value.int .i64) (show (i:Int)+1=((i+1:Nat):Int) from rfl))) <| en fun a w e' hf=>?_
    obtain⟨HS,hN1s,e,B2⟩:=up4 e' HS hN1s e B2
    refine tA hf rfl fun a hf=>tl_nil ?_
    replace hf:=hf.keep [2,5,6,7]
    refine⟨_,?_,i+1,rfl,by omega,hf,e,?_⟩
    ·omega
    exact⟨B2,HS,hN1s⟩
  ·obtain rfl:i=g.2.length:=by have:=of_decide_eq_false hc;(try dsimp only at this);omega
   rw[List.take_of_length_le (Nat.le_of_eq hel),← hS1] at HS
   replace hf:=hf.keep [2,5,6]
   refine rgN 2 hf <| st (mv rfl) <| st ((add rfl rfl (by omega)).eq (congrArg (Value.int .i64) (show (j:Int)+1=((j+1:Nat):Int) from rfl))) <| en fun a w e' hf=>?_
   obtain⟨HS,hN1s,e,B2⟩:=up4 e' HS hN1s e B2
   refine tA hf rfl fun a hf=>tl_nil ?_
   replace hf:=hf.keep [2,5,6]
   refine⟨_,?_,j+1,rfl,by omega,hf,e,?_⟩
   ·omega
   exact⟨B2,HS,hN1s⟩
 ·obtain rfl:j=g.1.length:=by have:=of_decide_eq_false hc;(try dsimp only at this);omega
  rw[hrch] at HS
  obtain⟨C,hC⟩:∃C,C=cpt (nbA g) a0:=⟨_,rfl⟩
  rw[← hC] at HS hids ⊢
  obtain⟨N2,hN2⟩:∃N2,N2=w.heap.size:=⟨_,rfl⟩
  have hN2s:N2≤w.heap.size:=Nat.le_of_eq hN2
  have h12:N1≤N2:=by omega
  have hKN:∀b,K b→b<N2:=fun b hb=>by have:=hK b hb;omega
  replace hf:=hf.keep [2,5]
  refine seq <| regn0 <| tA hf rfl fun a hf=>tl_nil ?_
  repeat refine seq ?_
  refine regn0 <| tA hf rfl fun a hf=>tl_nil ?_
  have Ho:OwR intE 3 N2 K w [] (.slice none 0 0):=OwR.nil intE _ hN2s hKN
  replace hf:=hf.kp [2,5,8,9]
  refine blk (loopN (fun r0 a w=>∃(k:Nat) (u:Value),r0=g.1.length - k∧k≤g.1.length∧Fr 88 a w [(2,E (ptr b2)),(5,E (.map (some bm))),(8,E u),(9,E (I k))]∧Ext W w∧Blk w b2 #[u1,u2] 25∧SeR w bm C∧OwR intE 3 N2 K w (((idsG g).take k).filter fun x=>has C x) u) g.1.length ⟨0,.slice none 0 0,rfl,by omega,hf,e,⟨B2,HS,Ho⟩⟩ ?_)
  rintro r0 a w ⟨k,u,rfl,hk,hf,e,B2,HS,Ho⟩
  repeat refine seq ?_
  refine rgN 5 hf <| st (mv rfl) <| st (fA U25 rfl T22 rfl) <| st (ld1 T22 rfl (by assumption) rfl) <| st (lenD U22 (isE rfl (VA.st _ _ _ _ e h1))) <| st (lss rfl rfl) <| en fun a w e' hf=>?_
  obtain⟨HS,e,B2,Ho⟩:=up4 e' HS e B2 Ho
  refine tl_nil <| ifc hf rfl (fun hc=>wskip ?_) (fun hc=>wexit ?_)
  rotate_left
  rotate_left
  ·have hlt:k<g.1.length:=by have:=of_decide_eq_true hc;(try dsimp only at this);omega
   replace hf:=hf.kp [2,5,8,9]
   refine seq <| blk ?_
   have hg0:=List.getElem?_eq_getElem hlt
   generalize g.1[k]=x at hg0
   obtain⟨n,hn,hnb,hn1⟩:∃n:Nat,x.1=(n:Int)∧n<1024∧True:=by
    have h3:=(mem_ids ok).1 (List.mem_map.2 ⟨x,List.mem_of_getElem? hg0,rfl⟩)
    obtain⟨u,h4,h5⟩:=h3
    exact⟨u,h4,bit_lt h5,trivial⟩
   have hik:(idsG g)[k]?=some (n:Int):=by rw[idsG,List.getElem?_map,hg0,Option.map_some,hn]
   obtain⟨x1,x2⟩:=x
   subst hn
   have hsc:((idsG g).take (k+1)).filter (fun x=>has C x)=((idsG g).take k).filter (fun x=>has C x)++(if C.getLsbD n=true then [(n:Int)] else []):=by
    have hs1:[(n:Int)].filter (fun x=>has C x)=if C.getLsbD n=true then [(n:Int)] else []:=by
     cases hh:has C (n:Int) with
     | true=>rw[List.filter_cons_of_pos hh,List.filter_nil,if_pos ((has_bit C n).1 hh)]
     | false=>rw[List.filter_cons_of_neg (by rw[hh];decide),List.filter_nil,if_neg (fun h=>by rw[(has_bit C n).2 h] at hh;cases hh)]
    rw[take_succ_get hik,List.filter_append,hs1]
   have hol:(((idsG g).take k).filter fun x=>has C x).length≤100000:=Nat.le_trans (List.length_filter_le _ _) (Nat.le_trans (List.length_take_le' _ _) (by rw[idsG,List.length_map];exact hl1))
   generalize ((idsG g).take k).filter (fun x=>has C x)=out at hsc hol Ho
   refine seq <| rgN 8 hf <| st (mv rfl) <| st (fA U25 rfl T22 rfl) <| st (ld1 T22 rfl (by assumption) rfl) <| st (mv rfl) <| st (idxD U22 S45 (isE rfl (VA.st _ _ _ _ e h1)) rfl (by omega) (hg0)) <| st (fldD U45 rfl T3 (by decide) (Fld.fst Fld.refl) (isR rfl)) <| st (ldI T3 (isR rfl)) <| st (seLk U49 rfl HS rfl hnb) <| en fun a w e' hf=>?_
   obtain⟨HS,e,B2,Ho⟩:=up4 e' HS e B2 Ho
   refine tl_nil <| ifc hf rfl (fun hb=>?_) (fun hb=>?_)
   ·rw[if_pos hb] at hsc
    replace hf:=hf.kp [2,5,8,9]
    have n1:=Ho.neLt (b:=b2) (by omega)
    have n2:=Ho.neLt (b:=bm) (by omega)
    refine rgN 8 hf <| st (mv rfl) <| st (fA U25 rfl T22 rfl) <| st (ld1 T22 rfl (by assumption) rfl) <| st (mv rfl) <| st (idxD U22 S45 (isE rfl (VA.st _ _ _ _ e h1)) rfl (by omega) (hg0)) <| st (fldD U45 rfl T3 (by decide) (Fld.fst Fld.refl) (isR rfl)) <| st (ldI T3 (isR rfl)) <| st (bsl1 U35 I3 rfl (by decide) rfl Ho.avs (isI rfl)) <| en fun a w e' hf=>?_
    obtain⟨HS,Ho,e,B2⟩:=up4 e' HS Ho e B2
    haveI hin:∀G0,InR (GB W G0) _:=OwR.inGB (W:=W) Ho (by omega)
    refine tl_app U35 I3 rfl rfl hf (by decide) rfl Ho (isR rfl) (by simp only[List.length_singleton];omega) (by simp only[List.length_singleton,maxLen];omega) fun a v w hg hat Hn hf=>?_
    replace e:=e.gro hg (Ho.row (W:=W) (by omega))
    have hrow:=Ho.row (W:=W) (by omega)
    replace HS:=HS.gr hg (Ne.symm n2)
    replace Ho:=Hn
    replace B2:=B2.gro hg (by assumption)
    replace Ho:=Hn;clear Hn hg hat hin
    refine tA hf rfl fun a hf=>tl_nil ?_
    rw[← hsc] at Ho
    refine rgN 2 hf <| st (mv rfl) <| st ((add rfl rfl (by omega)).eq (congrArg (Value.int .i64) (show (k:Int)+1=((k+1:Nat):Int) from rfl))) <| en fun a w e' hf=>?_
    obtain⟨HS,Ho,e,B2⟩:=up4 e' HS Ho e B2
    refine tA hf rfl fun a hf=>tl_nil ?_
    replace hf:=hf.keep [2,5,8,9]
    refine⟨_,?_,k+1,_,rfl,by omega,hf,e,?_⟩
    ·omega
    exact⟨B2,HS,Ho⟩
   ·rw[if_neg (by rw[hb];decide),List.append_nil] at hsc
    rw[← hsc] at Ho
    refine wskip <| rgN 2 hf <| st (mv rfl) <| st ((add rfl rfl (by omega)).eq (congrArg (Value.int .i64) (show (k:Int)+1=((k+1:Nat):Int) from rfl))) <| en fun a w e' hf=>?_
    obtain⟨HS,Ho,e,B2⟩:=up4 e' HS Ho e B2
    refine tA hf rfl fun a hf=>tl_nil ?_
    replace hf:=hf.keep [2,5,8,9]
    refine⟨_,?_,k+1,_,rfl,by omega,hf,e,?_⟩
    ·omega
    exact⟨B2,HS,Ho⟩
  ·obtain rfl:k=g.1.length:=by have:=of_decide_eq_false hc;(try dsimp only at this);omega
   rw[show (idsG g).take g.1.length=idsG g from List.take_of_length_le (by rw[idsG,List.length_map];exact Nat.le_refl _),hids] at Ho
   replace hf:=hf.keep [8]
   refine seq <| rgN 1 hf <| st (mv rfl) <| en fun a w e' hf=>?_
   obtain⟨Ho,e⟩:=up2 e' Ho e
   refine tA hf rfl fun a hf=>tl_nil <| wret <| ret1 rfl hf rfl ?_
   rintro _ rfl
   exact⟨_,rfl,e,Ho.sl⟩
theorem vt_at {g:GT}(ok:Gr.Ok g){k:Nat}{x:VT}(h:g.1[k]?=some x):∃n:Nat,x.1=(n:Int)∧(vset g.1).getLsbD n=true∧(elems (vset g.1))[k]?=some n:=by
 obtain⟨n,h4,h5⟩:=(mem_ids ok).1 (List.mem_map.2 ⟨x,List.mem_of_getElem? h,rfl⟩)
 refine⟨n,h4,h5,?_⟩
 have h1:(natE (elems (vset g.1)))[k]?=some (n:Int):=by rw[ids_elems ok,idsG,List.getElem?_map,h,Option.map_some,h4]
 rw[natE,List.getElem?_map] at h1
 cases he:(elems (vset g.1))[k]? with
 | none=>rw[he] at h1;cases h1
 | some m=>
  rw[he] at h1
  have h6:(m:Int)=(n:Int):=Option.some.inj h1
  rw[show m=n by omega]
theorem elems_vlen {g:GT}(ok:Gr.Ok g):(elems (vset g.1)).length=g.1.length:=by rw[card_elems,card_vs ok]
theorem cpt_min {g:GT}{a:Nat}(ha:a<1024):∃m,minOf (cpt (nbA g) a)=some m:=by
 cases h:minOf (cpt (nbA g) a) with
 | some m=>exact⟨m,rfl⟩
 | none=>
  have:=cpt_mem (nb:=nbA g) ha
  rw[minOf_none.1 h] at this
  exact absurd this (bit_zero a)
theorem parts7_spec {G:Nat→Prop}(g:GT)(ok:Gr.Ok g)(v:Value)(W:World)(h:(Dv gtE G g).p v W)(hl1:g.1.length≤100000)(hl2:g.2.length≤100000){K:Nat→Prop}(hK:∀b,K b→b<W.heap.size) :
  Calls Tryz.prog 27 #[v] W (Post (Dv (slE (slE intE)) K (ptF g)) W):=by
 have hg0:(Dv gtE G0 g).p v W:=Dv.weak h fun b _ hb=>hb.elim
 obtain⟨u1,u2,rfl,h1,h2⟩:=Dv.gt.1 (Dv.weak (G':=G0) h fun b _ hb=>hb.elim)
 replace h1:=Dv.toB h1
 replace h2:=Dv.toB h2
 refine eN [.agg #[u1,u2]] [E (.agg #[u1,u2])] Tryz.func27 Tryz.ntmps27 ?_ fun a hf=>?_
 rotate_left
 rotate_right
 ·exact arg1 rfl
 have e:=Ext.rfl' W
 refine seq <| regn0 <| tB hf rfl fun a b1 w v1 hv1 e' hb1 hs1 B1 hf=>?_
 replace e:=e.tr e'
 refine tA hf rfl fun a hf=>tl_nil ?_
 cases hv1
 have l1:=B1.lt
 obtain⟨N1,hN1⟩:∃N1,N1=w.heap.size:=⟨_,rfl⟩
 have hN1s:N1≤w.heap.size:=Nat.le_of_eq hN1
 have hWN:W.heap.size≤N1:=by rw[hN1];exact e.size
 have hKN:∀b,K b→b<N1:=fun b hb=>Nat.lt_of_lt_of_le (hK b hb) hWN
 replace hf:=hf.keep [1]
 refine seq <| regn0 <| tA hf rfl fun a hf=>tl_nil ?_
 repeat refine seq ?_
 refine regn0 <| tA hf rfl fun a hf=>tl_nil ?_
 obtain⟨V,hV⟩:∃V,V=vset g.1:=⟨_,rfl⟩
 obtain⟨p,hp⟩:∃p:Nat→Bool,p=fun v=>decide (minOf (cpt (nbA g) v)=some v):=⟨_,rfl⟩
 obtain⟨F,hF⟩:∃F:Nat→List Int,F=fun v=>elL (cpt (nbA g) v):=⟨_,rfl⟩
 have hpt:ptF g=((elems (vset g.1)).filter p).map F:=by rw[hp,hF,ptF]
 have hvl:=elems_vlen ok
 have Ho:OwR (slE intE) 35 N1 K w ([]:List (List Int)) (.slice none 0 0):=OwR.nil (slE intE) _ hN1s hKN
 replace hf:=hf.keep [1,3,4]
 refine blk (loopN (fun r0 a w=>∃(k:Nat) (u:Value),r0=g.1.length - k∧k≤g.1.length∧Fr 36 a w [(1,E (ptr b1)),(3,E u),(4,E (I k))]∧Ext W w∧Blk w b1 #[u1,u2] 25∧OwR (slE intE) 35 N1 K w ((((elems (vset g.1)).take k).filter p).map F) u) g.1.length ⟨0,.slice none 0 0,rfl,by omega,hf,e,⟨B1,Ho⟩⟩ ?_)
 rintro r0 a w ⟨k,u,rfl,hk,hf,e,B1,Ho⟩
 repeat refine seq ?_
 refine rgN 5 hf <| st (mv rfl) <| st (fA U25 rfl T22 rfl) <| st (ld1 T22 rfl (by assumption) rfl) <| st (lenD U22 (isE rfl (VA.st _ _ _ _ e h1))) <| st (lss rfl rfl) <| en fun a w e' hf=>?_
 replace e:=e.tr e'
 replace B1:=B1.ext e'
 replace Ho:=Ho.ext e'
 refine tl_nil <| ifc hf rfl (fun hc=>wskip ?_) (fun hc=>wexit ?_)
 rotate_left
 rotate_left
 ·have hlt:k<g.1.length:=by have:=of_decide_eq_true hc;(try dsimp only at this);omega
  replace hf:=hf.keep [1,3,4]
  refine seq <| blk ?_
  have hg0':=List.getElem?_eq_getElem hlt
  generalize g.1[k]=x at hg0'
  obtain⟨n,hn,hnV,hen⟩:=vt_at ok hg0'
  have hn1:=bit_lt hnV
  obtain⟨x1,x2⟩:=x
  subst hn
  obtain⟨m,hm⟩:=cpt_min (g:=g) hn1
  have hm1:=bit_lt (minOf_some.1 hm).2.1
  have h0:(F n)[0]?=some (m:Int):=by rw[hF];show (natE (elems _))[0]?=_;rw[elL_head,hm];rfl
  have hpm:p n=decide (m=n):=by rw[hp];show decide (minOf (cpt (nbA g) n)=some n)=_;rw[hm];simp
  have hsc:((((elems (vset g.1)).take (k+1)).filter p).map F)=((((elems (vset g.1)).take k).filter p).map F)++(if p n=true then [F n] else []):=by
   have hs1:[n].filter p=if p n=true then [n] else []:=by
    cases hh:p n with
    | true=>rw[List.filter_cons_of_pos hh,List.filter_nil,if_pos rfl]
    | false=>rw[List.filter_cons_of_neg (by rw[hh];decide),List.filter_nil,if_neg (by decide)]
   rw[take_succ_get hen,List.filter_append,hs1,List.map_append]
   split <;> rfl
  have hol:((((elems (vset g.1)).take k).filter p).map F).length≤100000:=by
   rw[List.length_map]
   exact Nat.le_trans (List.length_filter_le _ _) (Nat.le_trans (List.length_take_le' _ _) (by rw[hvl];exact hl1))
  have hFn:F n=elL (cpt (nbA g) n):=by rw[hF]
  generalize ((((elems (vset g.1)).take k).filter p).map F)=out at hsc hol Ho
  generalize F n=Fn at hsc hFn h0
  obtain⟨N2,hN2⟩:∃N2,N2=w.heap.size:=⟨_,rfl⟩
  have hN2s:N2≤w.heap.size:=Nat.le_of_eq hN2
  have hown:∀b,GO K u b→b<N2:=fun b hb=>by
   rcases hb with hb|hb
   ·have:=hKN b hb;have:=Ho.base;omega
   ·have:=(Ho.lt hb).2;omega
  have e5:=e
  refine seq <| rgG 8 Mix.mix hf <| st ((ldW T25 rfl B1 rfl).eq ((rfl:_=Value.agg #[u1,u2]))) <| st (fA U25 rfl T22 rfl) <| st (ld1 T22 rfl B1 rfl) <| st (mv rfl) <| st (idxD U22 S45 (isE rfl (VA.st _ _ _ _ e h1)) rfl (by omega) (hg0')) <| st (fldD U45 rfl T3 (by decide) (Fld.fst Fld.refl) (isR rfl)) <| st (ldI T3 (isR rfl)) <| st (call2 (A:=Dv (slE intE) (fun b=>b<N2) Fn) En81 rfl rfl (fun v u w he k1 k2=>by cases k1;cases k2;rw[hFn];exact rch7_spec g ok n hnV _ w (VA.st _ _ _ _ (Ext.tr e5 he) hg0) hl1 hl2 (fun b hb=>Nat.lt_of_lt_of_le hb (Nat.le_trans hN2s he.size)))) ?_
  refine en fun a w e' hf=>?_
  replace hN2s:=Nat.le_trans hN2s e'.size
  replace e:=e.tr e'
  replace B1:=B1.ext e'
  replace Ho:=Ho.ext e'
  refine tA hf rfl fun a hf=>tl_nil ?_
  replace hf:=hf.keep [1,3,4,5]
  replace hf:=hf.upd 5 rfl (B:=Dv (slE intE) (GO K u) Fn) (fun v h=>Dv.weak h fun b _ hb=>hown b hb)
  refine seq <| rgG 10 Mix.mix hf <| st (mv rfl) <| st (idxD (j:=0) U35 S3 (isR rfl) rfl rfl h0) <| st (ldI T3 (isR rfl)) <| st (fA U25 rfl T22 rfl) <| st (ld1 T22 rfl B1 rfl) <| st (mv rfl) <| st (idxD U22 S45 (isE rfl (VA.st _ _ _ _ e h1)) rfl (by omega) (hg0')) <| st (fldD U45 rfl T3 (by decide) (Fld.fst Fld.refl) (isR rfl)) <| st (ldI T3 (isR rfl)) <| st (eql rfl rfl) <| en fun a w e' hf=>?_
  replace e:=e.tr e'
  replace B1:=B1.ext e'
  replace Ho:=Ho.ext e'
  refine tl_nil <| ifc hf rfl (fun hb=>?_) (fun hb=>?_)
  ·have hpn:p n=true:=by rw[hpm];exact decide_eq_true (by have:=of_decide_eq_true (show decide ((m:Int)=(n:Int))=true by simpa using hb);omega)
   rw[if_pos hpn] at hsc
   replace hf:=hf.kp [1,3,4,5]
   have n1:=Ho.neLt (b:=b1) (by omega)
   refine rgN 3 hf <| st (mv rfl) <| st (mv rfl) <| st (bsl1 U39 I35 rfl (by decide) rfl Ho.avs (isR rfl)) <| en fun a w e' hf=>?_
   replace Ho:=Ho.ext e'
   replace e:=e.tr e'
   replace B1:=B1.ext e'
   haveI hin:∀G0,InR (GB W G0) _:=OwR.inGB (W:=W) Ho hWN
   refine tl_app U39 I35 rfl rfl hf (by decide) rfl Ho (isR rfl) (by simp only[List.length_singleton];omega) (by simp only[List.length_singleton,maxLen];omega) fun a v w hg hat Hn hf=>?_
   replace e:=e.gro hg (Ho.row (W:=W) hWN)
   replace Ho:=Hn
   replace B1:=B1.gro hg (by assumption)
   replace Ho:=Hn;clear Hn hg hat hin
   refine tA hf rfl fun a hf=>tl_nil ?_
   rw[← hsc] at Ho
   refine rgN 2 hf <| st (mv rfl) <| st ((add rfl rfl (by omega)).eq (congrArg (Value.int .i64) (show (k:Int)+1=((k+1:Nat):Int) from rfl))) <| en fun a w e' hf=>?_
   replace Ho:=Ho.ext e'
   replace e:=e.tr e'
   replace B1:=B1.ext e'
   refine tA hf rfl fun a hf=>tl_nil ?_
   replace hf:=hf.keep [1,3,4]
   refine⟨_,?_,k+1,_,rfl,by omega,hf,e,?_⟩
   ·omega
   exact⟨B1,Ho⟩
  ·have hpn:¬p n=true:=by rw[hpm];simp at hb ⊢;omega
   rw[if_neg hpn,List.append_nil] at hsc
   rw[← hsc] at Ho
   refine wskip <| rgN 2 hf <| st (mv rfl) <| st ((add rfl rfl (by omega)).eq (congrArg (Value.int .i64) (show (k:Int)+1=((k+1:Nat):Int) from rfl))) <| en fun a w e' hf=>?_
   replace Ho:=Ho.ext e'
   replace e:=e.tr e'
   replace B1:=B1.ext e'
   refine tA hf rfl fun a hf=>tl_nil ?_
   replace hf:=hf.keep [1,3,4]
   refine⟨_,?_,k+1,_,rfl,by omega,hf,e,?_⟩
   ·omega
   exact⟨B1,Ho⟩
 ·obtain rfl:k=g.1.length:=by have:=of_decide_eq_false hc;(try dsimp only at this);omega
  rw[show (elems (vset g.1)).take g.1.length=elems (vset g.1) from List.take_of_length_le (Nat.le_of_eq hvl),← hpt] at Ho
  replace hf:=hf.keep [3]
  refine seq <| rgN 1 hf <| st (mv rfl) <| en fun a w e' hf=>?_
  replace Ho:=Ho.ext e'
  replace e:=e.tr e'
  refine tA hf rfl fun a hf=>tl_nil <| wret <| ret1 rfl hf rfl ?_
  rintro _ rfl
  exact⟨_,rfl,e,Ho.sl⟩

theorem countP_lt {α:Type}{p q:α→Bool}:∀l:List α,(∀x∈l,p x=true→q x=true)→(∃x∈l,q x=true∧p x=false)→l.countP p<l.countP q
 | [],_,h=>by obtain⟨x,hx,_⟩:=h;cases hx
 | y::l,h1,h2=>by
  have h3:∀x∈l,p x=true→q x=true:=fun x hx=>h1 x (List.mem_cons_of_mem _ hx)
  have h4:=List.countP_mono_left h3
  rw[List.countP_cons,List.countP_cons]
  obtain⟨x,hx,h5,h6⟩:=h2
  rcases List.mem_cons.1 hx with rfl|hx
  ·rw[h5,h6,if_pos rfl,if_neg (by decide)];omega
  ·have h7:=countP_lt l h3 ⟨x,hx,h5,h6⟩
   cases hp:p y with
   | false=>rw[if_neg (by decide)];omega
   | true=>rw[h1 y List.mem_cons_self hp,if_pos rfl];omega
def rpN (nb:Int→BS)(V:BS):Nat:=(elems V).countP fun v=>decide (minOf (cpt nb v)=some v)
theorem rp_pt (g:GT):(ptF g).length=rpN (nbA g) (vset g.1):=by rw[ptF,List.length_map,rpN,List.countP_eq_length_filter]
section
variable {nb nb':Int→BS}{V:BS}
theorem cpt_le {a:Nat}(ha:a<1024)(h:∀i j:Nat,(nb' (i:Int)).getLsbD j=true→(nb (i:Int)).getLsbD j=true):∀i,(cpt nb' a).getLsbD i=true→(cpt nb a).getLsbD i=true:=
 cpt_least ha _ (cpt_mem ha) fun i j hi hij=>cpt_cl ha i j hi (h i j hij)
theorem cpt_same {a:Nat}(ha:a<1024)(h:∀i j:Nat,(nb' (i:Int)).getLsbD j=true↔(nb (i:Int)).getLsbD j=true):cpt nb' a=cpt nb a:=
 set_ext' fun i=>⟨cpt_le ha (fun i j=>(h i j).1) i,cpt_le ha (fun i j=>(h i j).2) i⟩
theorem rp_eq (h:∀a,V.getLsbD a=true→cpt nb' a=cpt nb a):rpN nb' V=rpN nb V:=by
 rw[rpN,rpN]
 exact List.countP_congr fun x hx=>by rw[h x (mem_elems.1 hx).2]
theorem rp_imp (h:∀i j:Nat,(nb' (i:Int)).getLsbD j=true→(nb (i:Int)).getLsbD j=true){v:Nat}(hv:v<1024)(h1:minOf (cpt nb v)=some v):minOf (cpt nb' v)=some v:=by
 obtain⟨q1,q2,q3⟩:=minOf_some.1 h1
 refine minOf_some.2 ⟨hv,cpt_mem hv,fun j hj=>?_⟩
 cases hh:(cpt nb' v).getLsbD j with
 | false=>rfl
 | true=>rw[← q3 j hj];exact (cpt_le hv h j hh).symm
theorem wo_symm (hs:∀i j:Nat,(nb (i:Int)).getLsbD j=true→(nb (j:Int)).getLsbD i=true){u v:Nat}(hu:u<1024)(hv:v<1024)(huv:u≠v):∀i j:Nat,(wo nb u v (i:Int)).getLsbD j=true→(wo nb u v (j:Int)).getLsbD i=true:=fun i j h=>by
 obtain⟨q1,q2,q3⟩:=(wo_bit hu hv huv i j).1 h
 exact (wo_bit hu hv huv j i).2 ⟨hs i j q1,fun⟨a,b⟩=>q3 ⟨b,a⟩,fun⟨a,b⟩=>q2 ⟨b,a⟩⟩
theorem rp_wo (hs:∀i j:Nat,(nb (i:Int)).getLsbD j=true→(nb (j:Int)).getLsbD i=true)(hV:∀i j:Nat,(nb (i:Int)).getLsbD j=true→V.getLsbD j=true){u v:Nat}(huv:u≠v)(hu:V.getLsbD u=true)(hv:V.getLsbD v=true)(he:(nb (u:Int)).getLsbD v=true) :
  rpN nb V<rpN (wo nb u v) V↔¬(cpt (wo nb u v) u).getLsbD v=true:=by
 have hul:=bit_lt hu
 have hvl:=bit_lt hv
 have hle:∀i j:Nat,(wo nb u v (i:Int)).getLsbD j=true→(nb (i:Int)).getLsbD j=true:=fun i j h=>((wo_bit hul hvl huv i j).1 h).1
 have hs':=wo_symm hs hul hvl huv
 constructor
 ·intro h hr
  have:rpN (wo nb u v) V=rpN nb V:=rp_eq fun a ha=>by
   have hal:=bit_lt ha
   have hr':=cpt_symm hs' hul hr
   refine set_ext' fun i=>⟨cpt_le hal hle i,cpt_least hal _ (cpt_mem hal) (fun i j hi hij=>?_) i⟩
   by_cases h1:i=u∧j=v
   ·obtain⟨rfl,rfl⟩:=h1
    rw[← cpt_eq hs' hal hi];exact hr
   by_cases h2:i=v∧j=u
   ·obtain⟨rfl,rfl⟩:=h2
    rw[← cpt_eq hs' hal hi];exact hr'
   exact cpt_cl hal i j hi ((wo_bit hul hvl huv i j).2 ⟨hij,h1,h2⟩)
  omega
 ·intro hr
  refine countP_lt _ (fun x hx h=>decide_eq_true (rp_imp hle (mem_elems.1 hx).1 (of_decide_eq_true h))) ?_
  have hin:∀{a:Nat},V.getLsbD a=true→∀i,(cpt nb a).getLsbD i=true→V.getLsbD i=true:=fun ha=>cpt_least (bit_lt ha) _ ha fun i j _ h=>hV i j h
  have hmin:∀a,V.getLsbD a=true→∃m,V.getLsbD m=true∧cpt (wo nb u v) m=cpt (wo nb u v) a∧minOf (cpt (wo nb u v) m)=some m∧(cpt nb a).getLsbD m=true:=fun a ha=>by
   have hal:=bit_lt ha
   cases hm:minOf (cpt (wo nb u v) a) with
   | none=>
    have:=cpt_mem (nb:=wo nb u v) hal
    rw[minOf_none.1 hm] at this
    exact absurd this (bit_zero _)
   | some m=>
    obtain⟨q1,q2,q3⟩:=minOf_some.1 hm
    have h1:=cpt_le hal hle m q2
    have h2:=cpt_eq hs' hal q2
    exact⟨m,hin ha m h1,h2,by rw[h2];exact hm,h1⟩
  obtain⟨m,a1,a2,a3,a4⟩:=hmin u hu
  obtain⟨n,b1,b2,b3,b4⟩:=hmin v hv
  have huw:(cpt nb u).getLsbD v=true:=cpt_cl hul u v (cpt_mem hul) he
  have hc1:cpt nb m=cpt nb u:=cpt_eq hs hul a4
  have hc2:cpt nb n=cpt nb u:=(cpt_eq hs hvl b4).trans (cpt_eq hs hul huw)
  by_cases hm:minOf (cpt nb u)=some m
  ·refine⟨n,mem_elems.2 ⟨bit_lt b1,b1⟩,decide_eq_true b3,decide_eq_false fun h=>?_⟩
   rw[hc2,hm] at h
   obtain rfl:=Option.some.inj h
   refine hr ?_
   rw[← a2,b2];exact cpt_mem hvl
  ·exact⟨m,mem_elems.2 ⟨bit_lt a1,a1⟩,decide_eq_true a3,decide_eq_false fun h=>hm (by rw[← hc1];exact h)⟩
end
def woG (g:GT)(k:Nat):GT:=(g.1,g.2.take k++g.2.drop (k+1))
theorem woG_sub (g:GT)(k:Nat):(woG g k).2.Sublist g.2:=by
 have h:=((List.Sublist.refl (g.2.take k)).append (List.drop_sublist 1 (g.2.drop k)))
 rwa [List.drop_drop,List.take_append_drop] at h
theorem woG_ok {g:GT}(G:Gr.Ok g)(k:Nat):Gr.Ok (woG g k):=by
 have hs:=woG_sub g k
 exact⟨G.sv,G.se.sublist hs,G.rv,fun x hx=>G.re x (hs.subset hx),Nat.le_trans hs.length_le G.ne⟩
theorem woG_adj {g:GT}(G:Gr.Ok g){k:Nat}{e:Nat×Nat}(h:(esN g)[k]?=some e)(i j:Nat):Adj (woG g k) i j↔Adj g i j∧¬(i=e.1∧j=e.2)∧¬(i=e.2∧j=e.1):=by
 obtain⟨x,hx,he⟩:∃x,g.2[k]?=some x∧x.1=toI e:=by
  rw[esN,List.getElem?_map] at h
  cases hx:g.2[k]? with
  | none=>rw[hx] at h;cases h
  | some x=>
   rw[hx] at h
   obtain rfl:=Option.some.inj h
   obtain⟨u,v,h1,_⟩:=ed_nat G x (List.mem_of_getElem? hx)
   exact⟨x,rfl,by show x.1=toI (x.1.1.toNat,x.1.2.toNat);rw[h1];rfl⟩
 have hee:=es_in G e (List.mem_of_getElem? h)
 obtain⟨hk,hkx⟩:=List.getElem?_eq_some_iff.1 hx
 have hcut:g.2=g.2.take k++x::g.2.drop (k+1):=by
  rw[← hkx,← List.drop_eq_getElem_cons hk,List.take_append_drop]
 have hpw:=G.se
 rw[hcut] at hpw
 obtain⟨p1,p2,p3⟩:=List.pairwise_append.1 hpw
 have hne:∀y∈(woG g k).2,y.1≠x.1:=fun y hy hyx=>by
  rcases List.mem_append.1 hy with hy|hy
  ·have:=p3 y hy x List.mem_cons_self
   rw[hyx] at this
   simp[lt2,lt1] at this
  ·have:=(List.pairwise_cons.1 p2).1 y hy
   rw[hyx] at this
   simp[lt2,lt1] at this
 have hmem:∀y,y∈g.2↔y∈(woG g k).2∨y=x:=fun y=>by
  show y∈g.2↔y∈g.2.take k++g.2.drop (k+1)∨y=x
  conv=>lhs;rw[hcut]
  simp only[List.mem_append,List.mem_cons]
  exact⟨fun h=>h.elim (fun h=>.inl (.inl h)) fun h=>h.elim .inr fun h=>.inl (.inr h),fun h=>h.elim (fun h=>h.elim .inl fun h=>.inr (.inr h)) fun h=>.inr (.inl h)⟩
 constructor
 ·rintro⟨y,hy,hij⟩
  have hyg:=(hmem y).2 (.inl hy)
  refine⟨⟨y,hyg,hij⟩,fun⟨a,b⟩=>?_,fun⟨a,b⟩=>?_⟩
  ·subst a;subst b
   rcases hij with h1|h1
   ·exact hne y hy (by rw[h1,he];rfl)
   ·have:=(G.re y hyg).1
    rw[h1] at this
    omega
  ·subst a;subst b
   rcases hij with h1|h1
   ·have:=(G.re y hyg).1
    rw[h1] at this
    omega
   ·exact hne y hy (by rw[h1,he];rfl)
 ·rintro⟨⟨y,hy,hij⟩,h1,h2⟩
  rcases (hmem y).1 hy with h3|rfl
  ·exact⟨y,h3,hij⟩
  ·rw[he,toI] at hij
   rcases hij with h|h
   ·exact absurd ⟨by have:=congrArg Prod.fst h;dsimp only at this;omega,by have:=congrArg Prod.snd h;dsimp only at this;omega⟩ h1
   ·exact absurd ⟨by have:=congrArg Prod.snd h;dsimp only at this;omega,by have:=congrArg Prod.fst h;dsimp only at this;omega⟩ h2
theorem br_at {g:GT}(G:Gr.Ok g){k:Nat}{e:Nat×Nat}(h:(esN g)[k]?=some e):decide ((ptF g).length<(ptF (woG g k)).length) = !(brD (nbA g) e != -1):=by
 obtain⟨h1,h2,h3⟩:=es_in G e (List.mem_of_getElem? h)
 have hbit:∀i j:Nat,(nbA (woG g k) (i:Int)).getLsbD j=true↔(wo (nbA g) e.1 e.2 (i:Int)).getLsbD j=true:=fun i j=>by
  rw[nbA_bit (woG_ok G k),woG_adj G h,wo_bit (bit_lt h2) (bit_lt h3) (by omega),nbA_bit G]
 have hadj:(nbA g (e.1:Int)).getLsbD e.2=true:=(nbA_bit G).2 ((es_adj G _ _).2 (.inl (List.mem_of_getElem? h)))
 have key:=rp_wo (V:=vset g.1) (nb_symm G) (nb_in G) (u:=e.1) (v:=e.2) (by omega) h2 h3 hadj
 rw[rp_pt,rp_pt,show (woG g k).1=g.1 from rfl,rp_eq (nb:=wo (nbA g) e.1 e.2) fun a ha=>cpt_same (bit_lt ha) hbit]
 have hb:brD (nbA g) e = -1↔¬(cpt (wo (nbA g) e.1 e.2) e.1).getLsbD e.2=true:=ds_some
 by_cases hd:brD (nbA g) e = -1
 ·rw[decide_eq_true (key.2 (hb.1 hd)),hd];rfl
 ·rw[decide_eq_false fun hh=>hd (hb.2 (key.1 hh)),bne_iff_ne.2 hd];rfl
theorem cv_at {g:GT}(G:Gr.Ok g){x:Nat}(hx:(vset g.1).getLsbD x=true):decide ((ptF g).length<(ptF (indG g (del (vset g.1) (x:Int)))).length) = !decide (cvN (nbA g) (vset g.1) x≤(prF (nbA g) (card (vset g.1)) (vset g.1)).length):=by
 obtain⟨S,hS⟩:∃S,S=vset g.1 &&& del (vset g.1) (x:Int):=⟨_,rfl⟩
 have hSb:∀i,S.getLsbD i=true↔(vset g.1).getLsbD i=true∧i≠x:=fun i=>by
  rw[hS,bit_and,bit_del _ (bit_lt hx)]
  exact⟨fun h=>h.2,fun h=>⟨h.1,h⟩⟩
 have hP:=indG_part G (del (vset g.1) (x:Int))
 have hVS:vset (indG g (del (vset g.1) (x:Int))).1=S:=set_ext' fun i=>by
  rw[hP.vs,hSb,bit_del _ (bit_lt hx)]
  exact⟨fun h=>h.2,fun h=>⟨h.1,h⟩⟩
 have hbit:∀i j:Nat,(nbA (indG g (del (vset g.1) (x:Int))) (i:Int)).getLsbD j=true↔(nbWi (nbA g) S (i:Int)).getLsbD j=true:=fun i j=>by
  rw[nbA_bit hP.ok,hP.es,nbWi_bit,nbA_bit G,hSb,hSb,bit_del _ (bit_lt hx),bit_del _ (bit_lt hx)]
  exact⟨fun⟨a,b,c⟩=>⟨b,a,c⟩,fun⟨b,a,c⟩=>⟨a,b,c⟩⟩
 have h1:(prF (nbA g) (card (vset g.1)) (vset g.1)).length=(ptF g).length:=by rw[← comps_ref G,List.length_map]
 have h2:cvN (nbA g) (vset g.1) x=rpN (nbWi (nbA g) S) S:=by
  rw[cvN,← hS,pr_filter (nb:=nbWi (nbA g) S) (fun i j h=>by
   obtain⟨a,b,c⟩:=nbWi_bit.1 h
   exact nbWi_bit.2 ⟨c,nb_symm G i j b,a⟩) _ _ (Nat.le_refl _) (fun i j _ h=>(nbWi_bit.1 h).2.2),List.length_map,rpN,List.countP_eq_length_filter]
 rw[h1,h2,rp_pt,rp_pt,hVS,rp_eq (nb:=nbWi (nbA g) S) fun a ha=>cpt_same (bit_lt ha) hbit]
 by_cases h:rpN (nbA g) (vset g.1)<rpN (nbWi (nbA g) S) S
 ·rw[decide_eq_true h,decide_eq_false (by omega)];rfl
 ·rw[decide_eq_false h,decide_eq_true (by omega)];rfl
end Go.Mono
namespace Go.Mono
open Go Go.RowKit
section
variable {P:Program}{w0:World}{L:Env}{dst:Option Tmp}{ty:TypeId}{pos:String}{aft:Array Edge}{g:Option (Nat×Bool)}{t te:TypeId}{N:Nat}
theorem appE0 {α:Type}{e:Enc α}[FlE e]{x y:Operand}{G:Nat→Prop}{ys:List α}{bz:Nat}{z0:Value}(ht:P.underlying t=some (.slice te))(hi:(P.info? te).map (fun i=>(i.zero,i.size,i.bytes))=some (some z0,e.k,bz))(hz0:z0.cells.size=e.k)
  (hx:opd L x=some (FuA te N [])) (hy:Is L w0 y (Dv (slE e) G ys)) (hN:N≤w0.heap.size) (h63:ys.length≤maxLen) (hb:ys.length * bz≤140737488355328) :
  OpC P w0 L ⟨dst,.call ⟨.builtin .append,#[x,y],#[t,t]⟩,ty,pos,aft,g⟩ (OwA e te N (fun _=>False) ys):=by
 refine⟨fun ρ w he hv=>?_⟩
 obtain⟨it,hit,hiz,hsz',hbz⟩:=info_parts hi
 obtain⟨b,hNb,hxv,hB⟩:=hv x (by simp[Op.operands,Call.operands]) _ hx
 have hyv:=hy.v he hv (by simp[Op.operands,Call.operands])
 have hk:=e.pos
 replace hxv:ρ x=.slice (some ⟨b,0,none⟩) 0 0:=hxv
 replace hB:Blk w b #[] te:=hB
 have own:w.ownsRow N te e.k (.slice (some ⟨b,0,none⟩) 0 0) 0 []:=⟨by simp,.inr ⟨b,0,_,rfl,hNb,hB,Nat.le_refl _,Nat.zero_le _,by simp,by simp⟩⟩
 have nothing:∀u,Src P it.size t u 0 [] w→ys=[]→ρ y=u→OpR P ⟨dst,.call ⟨.builtin .append,#[x,y],#[t,t]⟩,ty,pos,aft,g⟩ ρ w (fun v w'=>Ext w w'∧(OwA e te N (fun _=>False) ys).p v w'):=fun u hs hys hu=>by
  have h1:=run_append_nothing (P:=P) w t t ty te it ht hit (some ⟨b,0,none⟩) 0 0 (Nat.le_refl _) u hs
  simp only[OpR,execOp,resolve,invoke,builtin,Sem.run_bind,Sem.run_pure,Result.andThen_ok,List.map_toArray,List.map_cons,List.map_nil,hxv,hu,h1]
  refine⟨Ext.rfl' _,?_⟩
  rw[hys]
  exact⟨⟨_,own,rfl⟩,fun b hb=>hb.elim,Nat.le_trans hN he.size⟩
 rcases Dv.sl.1 hyv with ⟨hy0,hys⟩|⟨ad,cap,ds,hy0,_,h3,h4,h5,h6⟩
 ·refine nothing _ ⟨.inl ⟨_,ht⟩,fun w'=>?_,?_,?_,by simp,by simp⟩ hys hy0
  ·simp[Builtin.lenOf]
  ·simp[Builtin.firstCells]
  ·simp[Builtin.firstCells]
 ·have hcl:=h5.len
  by_cases hys:ys=[]
  ·subst hys
   refine nothing _ ⟨.inl ⟨_,ht⟩,fun w'=>?_,?_,?_,by simp,by simp⟩ rfl hy0
   ·simp[Builtin.lenOf]
   ·exact run_firstCells_some (P:=P) w it.size 0 ad 0 cap [] (by simp) (fun j u hu=>by simp at hu)
   ·exact run_firstCells_some (P:=P) w.drew it.size 0 ad 0 cap [] (by simp) (fun j u hu=>by simp at hu)
  ·have hpos:0<ys.length:=List.length_pos_iff.2 hys
   obtain⟨v',w',r1,r2,r3⟩:=run_append_arg_grows (P:=P) w t ty te it z0 e.k bz ht hit hiz hsz' hbz hz0 hk ⟨b,0,none⟩ 0 0 [] (by simp) (fun j u hu=>by simp at hu) ad ys.length cap ds (by rw[hcl]) h6 (by omega) (by rw[Nat.zero_add];exact h63) (by rw[Nat.zero_add];exact hb)
   simp only[OpR,execOp,resolve,invoke,builtin,Sem.run_bind,Sem.run_pure,Result.andThen_ok,List.map_toArray,List.map_cons,List.map_nil,hxv,hy0,r1]
   refine⟨⟨r3.os,r3.tape,r3.output,r3.size,fun b hb=>r3.block b hb (by simp)⟩,⟨ds,?_,h5.fl⟩,fun b hb=>hb.elim,Nat.le_trans (Nat.le_trans hN he.size) r3.size⟩
   obtain⟨q1,q2⟩:=r2
   refine⟨by rw[hcl],?_⟩
   rcases q2 with ⟨k1,k2⟩|⟨gg,cap2,cur,k1,k2,k3,k4,k5,k6,k7⟩
   ·omega
   ·exact .inr ⟨gg,cap2,cur,by rw[Nat.zero_add] at k1;exact k1,Nat.le_trans (Nat.le_trans hN he.size) k2,k3,by rw[Nat.zero_add] at k4;exact k4,k5,k6,by rw[Nat.zero_add,List.nil_append] at k7;exact k7⟩
end
end Go.Mono
namespace Go.Mono
open Go Go.Proofs Go.RowKit Go.Gr
theorem wout7_spec {G:Nat→Prop}(g:GT)(k:Nat)(hk:k<g.2.length)(v:Value)(W:World)(h:(Dv gtE G g).p v W)(hl2:g.2.length≤100000) :
  Calls Tryz.prog 53 #[v,I (k:Nat)] W (Post (Dv gtE G0 (woG g k)) W):=by
 obtain⟨u1,u2,rfl,h1,h2⟩:=Dv.gt.1 (Dv.weak (G':=G0) h fun b _ hb=>hb.elim)
 replace h1:=Dv.toB h1
 replace h2:=Dv.toB h2
 refine eN [.agg #[u1,u2],I (k:Nat)] [E (.agg #[u1,u2]),E (I (k:Nat))] Tryz.func53 Tryz.ntmps53 ?_ fun a hf=>?_
 rotate_left
 dsimp only[params,Nat.reduceAdd] at hf
 rotate_right
 ·exact arg2 rfl rfl
 have e:=Ext.rfl' W
 refine seq <| regn0 <| tB hf rfl fun a b2 w v2 hv2 e' hb2 hs2 B2 hf=>?_
 replace e:=e.tr e'
 refine tL I25 hf fun a b4 w e' hb4 hs4 B4 hf=>?_
 obtain⟨e,B2⟩:=up2 e' e B2
 refine tl_nil ?_
 cases hv2
 replace B4:Blk w b4 #[.slice none 0 0,.slice none 0 0] 25:=B4
 have n4:b2≠b4∧W.heap.size≤b2∧W.heap.size≤b4:=by omega
 have lb2:=B2.lt
 have lb4:=B4.lt
 replace hf:=hf.kp [1,2,4]
 obtain⟨N1,hN1⟩:∃N1,N1=w.heap.size:=⟨_,rfl⟩
 have hN1s:N1≤w.heap.size:=Nat.le_of_eq hN1
 have hWN:W.heap.size≤N1:=by rw[hN1];exact e.size
 have lN:b2<N1∧b4<N1:=by rw[hN1];exact⟨lb2,lb4⟩
 haveI i1:InS (GB W G0) (fun b=>N1≤b):=⟨fun b hb=>.inr (Nat.le_trans hWN hb)⟩
 have HE:(Dv (slE etE) (GB W G0) g.2).p u2 w:=VA.st _ _ _ _ e h2
 have hx:(g.2.take k).length≤100000:=Nat.le_trans (List.length_take_le' _ _) hl2
 have hx2:(g.2.take k).length+(g.2.drop (k+1)).length≤100000:=by rw[List.length_take,List.length_drop];omega
 refine seq <| regJ 14 [1,1,0,0,0,0,0,0,0,0,0,0,0] (Chg (fun b=>N1≤b)) (RelJ.chg _) (fun w=>True) (fun w w1 k h=>trivial) Mix.mix hf (by decide +kernel) (by decide +kernel) <| jf (fun w1 h1=>fA U25 rfl T22 rfl) <| jf (fun w1 h1=>(ld1 (v:=u1) T22 rfl (B2.ch h1 (by omega)) rfl)) <| ja (bslF0 U23 S51 hN1s) <| ja (fA U25 rfl T23 rfl) <| ja (ld1 T23 rfl B2 rfl) <| ja (mv rfl) <| ja (slcD U23 S51 (isE rfl HE) rfl (by omega)) <| ja (appE0 (e:=etE) (G:=GB W G0) U23 I51 rfl rfl (isR rfl) hN1s (by simp only[maxLen];omega) (by omega)) ?_
 refine ja (fA U25 rfl T23 rfl) <| ja (ld1 T23 rfl B2 rfl) <| ja (mv rfl) <| ja ((add rfl rfl (by omega)).eq (congrArg I (show ((k:Nat):Int)+1=((k+1:Nat):Int) from rfl))) <| ja (slcT U23 S51 (isE rfl HE) rfl (by omega)) <| jx (xappF U23 I51 rfl rfl rfl (isR rfl) (by omega) (by simp only[maxLen];omega) (fun _ _ _ _=>trivial) (fun _ _=>trivial)) ?_
 refine je <| fun a w hc HF hf=>?_
 try dsimp only[push] at hf
 have e':Ext _ w:=⟨hc.os,hc.tape,hc.output,hc.size,fun b hb=>hc.block b hb (by omega)⟩
 replace e:=e.tr e';replace B2:=B2.ext e';replace B4:=B4.ext e'
 obtain⟨v18,HO,hf⟩:=hf.opn 18 rfl
 replace HO:OwR etE 51 N1 (fun _=>False) w (g.2.take k++g.2.drop (k+1)) v18:=HO
 have HO2:(Dv (slE etE) (fun b=>b=b4) (g.2.take k++g.2.drop (k+1))).p v18 w:=OwR.slN HO fun b hb hh=>by have:=(OwR.lt HO hb).1;omega
 have HV2:(Dv (slE vtE) (fun b=>b=b4) g.1).p u1 w:=Dv.weak (VA.st _ _ _ _ e h1) fun b _ hb=>.inr (by omega)
 replace hf:=hf.keep [4,6,18]
 refine tP hf (bld2 (e1:=slE vtE) (e2:=slE etE) (a:=g.1) (b:=g.2.take k++g.2.drop (k+1)) (G:=fun b=>b=b4) U25 rfl rfl rfl S22 S23 I25 rfl (isE rfl HV2) (isE rfl HO2)) fun a w e' hf=>?_
 obtain⟨HO2,HV2,e,B4⟩:=up4 e' HO2 HV2 e B4
 obtain⟨z,hz,hf⟩:=hf.opn 19 rfl
 obtain⟨z1,z2,rfl,hz1,hz2⟩:=Dv.gt.1 (show (Dv gtE (fun b=>b=b4) (woG g k)).p z w from hz)
 have hzo:(#[z1,z2]:Array Value).all (·.oneCell')=true:=one2 (slOne hz1) (slOne hz2)
 have hG:(Dv gtE (fun b=>b=b4) (woG g k)).p (.agg #[z1,z2]) w:=hz
 replace hf:=hf.kp [4,19]
 refine tl_stW T25 hf rfl rfl hzo B4 rfl rfl fun w hg hsz B4 hf=>?_
 replace e:=e.gr hg (by omega)
 have hG2:=Dv.gr hG hg rfl
 refine tl_nil <| wret <| retc rfl T25 hf rfl B4 rfl <| ⟨_,rfl,e,Dv.weak hG2 fun b _ hb=>hb.elim⟩
theorem bridges7_spec {G:Nat→Prop}(g:GT)(ok:Gr.Ok g)(v:Value)(W:World)(h:(Dv gtE G g).p v W)(hl1:g.1.length≤100000)(hl2:g.2.length≤100000) :
  Calls Tryz.prog 15 #[v] W (Post (Dv (slE edE) G0 ((brF g).map toI)) W):=by
 have hg0:(Dv gtE G0 g).p v W:=Dv.weak h fun b _ hb=>hb.elim
 obtain⟨u1,u2,rfl,h1,h2⟩:=Dv.gt.1 (Dv.weak (G':=G0) h fun b _ hb=>hb.elim)
 replace h2:=Dv.toB h2
 refine eN [.agg #[u1,u2]] [E (.agg #[u1,u2])] Tryz.func15 Tryz.ntmps15 ?_ fun a hf=>?_
 rotate_left
 rotate_right
 ·exact arg1 rfl
 have e:=Ext.rfl' W
 refine seq <| regn0 <| tB hf rfl fun a b1 w v1 hv1 e' hb1 hs1 B1 hf=>?_
 replace e:=e.tr e'
 refine tA hf rfl fun a hf=>tl_nil ?_
 cases hv1
 have l1:=B1.lt
 obtain⟨N1,hN1⟩:∃N1,N1=w.heap.size:=⟨_,rfl⟩
 have hN1s:N1≤w.heap.size:=Nat.le_of_eq hN1
 have hWN:W.heap.size≤N1:=by rw[hN1];exact e.size
 have lb1:b1<N1:=by rw[hN1];exact l1
 replace hf:=hf.keep [1]
 refine seq <| regn0 <| tA hf rfl fun a hf=>tl_nil ?_
 repeat refine seq ?_
 refine regn0 <| tA hf rfl fun a hf=>tl_nil ?_
 obtain⟨p,hp⟩:∃p:Nat×Nat→Bool,p=fun e => !(brD (nbA g) e != -1):=⟨_,rfl⟩
 have hbr:(brF g).map toI=((esN g).filter p).map toI:=by rw[hp,brF]
 have hel:(esN g).length=g.2.length:=by rw[esN,List.length_map]
 have Ho:OwR edE 60 N1 G0 w ([]:List (Int×Int)) (.slice none 0 0):=OwR.nil edE _ hN1s fun b hb=>hb.elim
 replace hf:=hf.keep [1,3,4]
 refine blk (loopN (fun r0 a w=>∃(k:Nat) (u:Value),r0=g.2.length - k∧k≤g.2.length∧Fr 38 a w [(1,E (ptr b1)),(3,E u),(4,E (I k))]∧Ext W w∧Blk w b1 #[u1,u2] 25∧OwR edE 60 N1 G0 w ((((esN g).take k).filter p).map toI) u) g.2.length ⟨0,.slice none 0 0,rfl,by omega,hf,e,⟨B1,Ho⟩⟩ ?_)
 rintro r0 a w ⟨k,u,rfl,hk,hf,e,B1,Ho⟩
 repeat refine seq ?_
 refine rgN 5 hf <| st (mv rfl) <| st (fA U25 rfl T23 rfl) <| st (ld1 T23 rfl (by assumption) rfl) <| st (lenD U23 (isE rfl (VA.st _ _ _ _ e h2))) <| st (lss rfl rfl) <| en fun a w e' hf=>?_
 obtain⟨e,B1,Ho⟩:=up3 e' e B1 Ho
 refine tl_nil <| ifc hf rfl (fun hc=>wskip ?_) (fun hc=>wexit ?_)
 rotate_left
 rotate_left
 ·have hlt:k<g.2.length:=by have:=of_decide_eq_true hc;(try dsimp only at this);omega
  replace hf:=hf.keep [1,3,4]
  refine seq <| blk ?_
  have hx:=List.getElem?_eq_getElem hlt
  generalize g.2[k]=x at hx
  obtain⟨p1,p2,hpe,_⟩:=ed_nat ok x (List.mem_of_getElem? hx)
  have hek:(esN g)[k]?=some (p1,p2):=by rw[esN,List.getElem?_map,hx,Option.map_some,hpe];rfl
  have hxe:x.1=toI (p1,p2):=hpe
  have hat:=br_at ok hek
  have hsc:((((esN g).take (k+1)).filter p).map toI)=((((esN g).take k).filter p).map toI)++(if p (p1,p2)=true then [toI (p1,p2)] else []):=by
   have hs1:[(p1,p2)].filter p=if p (p1,p2)=true then [(p1,p2)] else []:=by
    cases hh:p (p1,p2) with
    | true=>rw[List.filter_cons_of_pos hh,List.filter_nil,if_pos rfl]
    | false=>rw[List.filter_cons_of_neg (by rw[hh];decide),List.filter_nil,if_neg (by decide)]
   rw[take_succ_get hek,List.filter_append,hs1,List.map_append]
   split <;> rfl
  have hol:((((esN g).take k).filter p).map toI).length≤100000:=by
   rw[List.length_map]
   exact Nat.le_trans (List.length_filter_le _ _) (Nat.le_trans (List.length_take_le' _ _) (by rw[hel];exact hl2))
  generalize ((((esN g).take k).filter p).map toI)=out at hsc hol Ho
  have hgt:decide ((((ptF (woG g k)).length:Nat):Int) > (((ptF g).length:Nat):Int))=p (p1,p2):=by
   rw[hp];dsimp only;rw[← hat];exact decide_eq_decide.2 (by omega)
  have e5:=e
  have hwl:(woG g k).2.length≤100000:=Nat.le_trans (woG_sub g k).length_le hl2
  refine seq <| rgG 9 Mix.mix hf <| st ((ldW T25 rfl B1 rfl).eq ((rfl:_=Value.agg #[u1,u2]))) <| st (mv rfl) <| st (call2 (A:=Dv gtE G0 (woG g k)) (B:=E (.agg #[u1,u2])) (C:=E (I (k:Nat))) En53 rfl rfl (fun v u w he k1 k2=>by cases k1;cases k2;exact wout7_spec g k hlt _ w (VA.st _ _ _ _ (Ext.tr e5 he) hg0) hl2)) ?_
  refine st (call1 (A:=Dv (slE (slE intE)) G0 (ptF (woG g k))) (B:=Dv gtE G0 (woG g k)) En27 rfl (fun v w he k1=>parts7_spec (woG g k) (woG_ok ok k) _ w k1 hl1 hwl (fun b hb=>hb.elim))) <| st (lenD U39 (isR rfl)) <| st ((ldW T25 rfl B1 rfl).eq ((rfl:_=Value.agg #[u1,u2]))) <| st (call1 (A:=Dv (slE (slE intE)) G0 (ptF g)) (B:=E (.agg #[u1,u2])) En27 rfl (fun v w he k1=>by cases k1;exact parts7_spec g ok _ w (VA.st _ _ _ _ (Ext.tr e5 he) hg0) hl1 hl2 (fun b hb=>hb.elim))) ?_
  refine st (lenD U39 (isR rfl)) <| st ((gtr rfl rfl).eq (congrArg Value.bool (hgt))) <| en fun a w e' hf=>?_
  obtain⟨e,B1,Ho⟩:=up3 e' e B1 Ho
  refine tl_nil ?_
  cases hpp:p (p1,p2) with
  | true=>
   rw[hpp] at hf
   rw[hpp,if_pos rfl,← hxe] at hsc
   refine ifc hf rfl (fun _=>?_) (fun h=>by cases h)
   replace hf:=hf.kp [1,3,4]
   have n1:=Ho.neLt (b:=b1) (by omega)
   refine rgG 15 Mix.mix hf <| st (mv rfl) <| st (fA U25 rfl T23 rfl) <| st (ld1 T23 rfl B1 rfl) <| st (mv rfl) <| st (idxD U23 S51 (isE rfl (VA.st _ _ _ _ e h2)) rfl (by omega) (hx)) <| st (fldD U51 rfl T3 (by decide) (Fld.fst (Fld.fst Fld.refl)) (isR rfl)) <| st (ldI T3 (isR rfl)) <| st (fA U25 rfl T23 rfl) <| st (ld1 T23 rfl B1 rfl) <| st (mv rfl) <| st (idxD U23 S51 (isE rfl (VA.st _ _ _ _ e h2)) rfl (by omega) (hx)) <| st (fldD U51 rfl T3 (by decide) (Fld.fst (Fld.snd Fld.refl rfl)) (isR rfl)) <| st (ldI T3 (isR rfl)) <| st (bldV [(0,_),(1,_)] rfl (bPr x.1)) <| st (bsl1 U31 I60 rfl (by decide) rfl Ho.avs (isE2 rfl)) <| en fun a w e' hf=>?_
   obtain⟨Ho,e,B1⟩:=up3 e' Ho e B1
   haveI hin:∀G0,InR (GB W G0) _:=OwR.inGB (W:=W) Ho hWN
   refine tl_app U31 I60 rfl rfl hf (by decide) rfl Ho (isR rfl) (by simp only[List.length_singleton];omega) (by simp only[List.length_singleton,maxLen];omega) fun a v w hg hat Hn hf=>?_
   replace e:=e.gro hg (Ho.row (W:=W) hWN)
   have hrow:=Ho.row (W:=W) hWN
   replace Ho:=Hn
   replace B1:=B1.gro hg (by assumption)
   replace Ho:=Hn;clear Hn hg hat hin
   refine tA hf rfl fun a hf=>tl_nil ?_
   rw[← hsc] at Ho
   refine rgN 2 hf <| st (mv rfl) <| st ((add rfl rfl (by omega)).eq (congrArg (Value.int .i64) (show (k:Int)+1=((k+1:Nat):Int) from rfl))) <| en fun a w e' hf=>?_
   obtain⟨Ho,e,B1⟩:=up3 e' Ho e B1
   refine tA hf rfl fun a hf=>tl_nil ?_
   replace hf:=hf.keep [1,3,4]
   refine⟨_,?_,k+1,_,rfl,by omega,hf,e,?_⟩
   ·omega
   exact⟨B1,Ho⟩
  | false=>
   rw[hpp] at hf
   rw[hpp,if_neg (by decide),List.append_nil] at hsc
   rw[← hsc] at Ho
   refine ifc hf rfl (fun h=>by cases h) (fun _=>?_)
   refine wskip <| rgN 2 hf <| st (mv rfl) <| st ((add rfl rfl (by omega)).eq (congrArg (Value.int .i64) (show (k:Int)+1=((k+1:Nat):Int) from rfl))) <| en fun a w e' hf=>?_
   obtain⟨Ho,e,B1⟩:=up3 e' Ho e B1
   refine tA hf rfl fun a hf=>tl_nil ?_
   replace hf:=hf.keep [1,3,4]
   refine⟨_,?_,k+1,_,rfl,by omega,hf,e,?_⟩
   ·omega
   exact⟨B1,Ho⟩
 ·obtain rfl:k=g.2.length:=by have:=of_decide_eq_false hc;(try dsimp only at this);omega
  rw[← hel,List.take_length,← hbr] at Ho
  replace hf:=hf.keep [3]
  refine seq <| rgN 1 hf <| st (mv rfl) <| en fun a w e' hf=>?_
  obtain⟨Ho,e⟩:=up2 e' Ho e
  refine tA hf rfl fun a hf=>tl_nil <| wret <| ret1 rfl hf rfl ?_
  rintro _ rfl
  exact⟨_,rfl,e,Ho.sl⟩
end Go.Mono
