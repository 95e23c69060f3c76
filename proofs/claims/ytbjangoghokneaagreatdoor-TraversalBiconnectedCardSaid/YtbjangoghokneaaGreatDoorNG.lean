/-
  Walks of functions and plain facts.
  No condition.
-/
import Derived.Test.YtbjangoghokneaaGreatDoorNF
import Derived.Test.YtbjangoghokneaaGreatDoorND
import Derived.Test.YtbjangoghokneaaGreatDoorNE
import Derived.Test.YtbjangoghokneaaGreatDoorNC
import Derived.Shelf.SlSortCmp.NoneTotal
import Derived.Test.YtbjangoghokneaaGreatDoorProg
import Derived.Shelf.SlSortCmp.Whole1
set_option linter.unusedVariables false
set_option linter.unusedSimpArgs false
namespace Go.Mono
open Go Go.Proofs Go.RowKit Go.Gr
theorem tU {fn:Func}{t u t' u':Nat}{R:Ending→World→Prop}{n:Nat}{a:Act}{w:World}{b b':Nat}{v v':Value}{bt bt':TypeId}{L:Env}{D:List Nat}(hr:fn.results = #[.cell t u,.cell t' u'])(ht:TI Tryz.prog u false 1)(ht':TI Tryz.prog u' false 1)(hf:FrD n (bS D) a w L)(h:aL L t=some (E (.pointer (some ⟨b,0,none⟩))))(h':aL L t'=some (E (.pointer (some ⟨b',0,none⟩))))
  (hb:Blk w b #[v] bt) (hb':Blk w b' #[v'] bt') (hD:Ds D w) (hR:R (.returned (.tuple #[v,v'])) (shut D w)):bodyPostM (FW none) 0 Tryz.prog fn R .ret a w:=by
 have hv:a.tmps.getD t undef=.pointer (some ⟨b,0,none⟩):=hf.val t _ h
 have hv':a.tmps[t]?.getD undef=.pointer (some ⟨b,0,none⟩):=by simpa using hv
 have hw:a.tmps.getD t' undef=.pointer (some ⟨b',0,none⟩):=hf.val t' _ h'
 have hw':a.tmps[t']?.getD undef=.pointer (some ⟨b',0,none⟩):=by simpa using hw
 have hc:(shut D w).cell? ⟨b,0,none⟩=some v:=by rw[(hb.shut (hD.ne hb)).cell 0];rfl
 have hc':(shut D w).cell? ⟨b',0,none⟩=some v':=by rw[(hb'.shut (hD.ne hb')).cell 0];rfl
 show LeavesInM _ _ _ _ _ _ _ _ _
 rw[hf.defers]
 exact gL D w hD (by simp[results,hr,hv',hw',asAddr,fJ ht hc,fJ ht' hc']) hR
def evS (L:List BS)(s:BS):Nat→BS
 | 0=>s
 | j+1=>if j % 2=0 then evS L s j ||| gs L j else evS L s j
def ep (nb:Int→BS)(ps:List BS):Nat→BS
 | 0=>0
 | k+1=>evS (lvB nb ((aN (gs ps k)).getD 0)) (ep nb ps k) (lvB nb ((aN (gs ps k)).getD 0)).length
def bdB (nb:Int→BS)(one:BS)(x:Nat):Bool:=
 ((!((nb (x:Int) &&& one)==0))==one.getLsbD x && !(nb (x:Int)==0)) || ((one.getLsbD x && !((nb (x:Int) &&& one)==0)) || (!one.getLsbD x && !((nb (x:Int) &&& ~~~one)==0)))
def bpO (nb:Int→BS)(V:BS):BS:=ep nb (prF nb (card V) V) (prF nb (card V) V).length
def bpB (nb:Int→BS)(V:BS):Bool := !(ai V).any (bdB nb (bpO nb V))
def bpL (nb:Int→BS)(V:BS):List Nat:=if bpB nb V=true then ai (bpO nb V) else []
structure BpJ (W:World)(nm bm:Nat)(l:List (Int×BS))(V one:BS)(b2 b3 b4 b5:Nat)(w:World):Prop where
 e:Ext W w
 t:Tab w
 m:MpR sKV w bm nm l
 p2:Blk w b2 #[.slice none 0 0] 35
 p3:Blk w b3 #[B false] 4
 p4:Blk w b4 (adC V (.map (some bm))) 79
 p5:Blk w b5 (aJ one) 76
theorem BpJ.kp {W:World}{nm bm:Nat}{l:List (Int×BS)}{V one:BS}{b2 b3 b4 b5:Nat}{B:Nat}{w w':World}(h:BpJ W nm bm l V one b2 b3 b4 b5 w)(k:Kp B w w')(hW:W.heap.size≤B)(h0:0<B)(l2:b2<B)(l3:b3<B)(l4:b4<B)(l5:b5<B)(lm:bm<B):BpJ W nm bm l V one b2 b3 b4 b5 w':=
 have no:∀{b},b<B→¬aW B b:=fun h hh=>by have:=hh.1;omega
 ⟨h.e.kp k hW,h.t.kp k h0,h.m.pres (k.same bm h.m.lt (no lm)),h.p2.kp k (no l2),h.p3.kp k (no l3),h.p4.kp k (no l4),h.p5.kp k (no l5)⟩
theorem a2T {N:Nat}(g:GT)(ok:Gr.Ok g)(v:Value)(W:World)(hT:Tab W)(h:(Gn N g).p v W)(hl1:g.1.length≤100000)(hl2:g.2.length≤100000)(hN:N≤1000000) :
  Calls Tryz.prog 23 #[v] W (Post (Tup [Dv (slE intE) G0 (ah (bpL (nbA g) (vset g.1))),E (B (bpB (nbA g) (vset g.1)))]) W):=by
 have hgd:=h
 obtain⟨l,hl⟩:=eqX (nbL g (ai (vset g.1)))
 have hnb:nbA g=lkS l:=by rw[hl,nbA]
 rw[hnb]
 obtain⟨V,hV⟩:=eqX (vset g.1)
 rw[← hV]
 obtain⟨ps,hps⟩:=eqX (cT l V)
 have hpl:ps.length≤1024:=by rw[hps,cT];exact Nat.le_trans (sW _ _ _) (em V)
 obtain⟨rl,hrl⟩:=eqX (bpL (lkS l) V)
 obtain⟨rb,hrb⟩:=eqX (bpB (lkS l) V)
 rw[← hrl,← hrb]
 rw[bpL,← hrb] at hrl
 rw[bpB] at hrb
 have hbo:bpO (lkS l) V=ep (lkS l) ps ps.length:=by rw[hps,cT,bpO]
 rw[hbo] at hrl hrb
 have hT0:=hT.lt
 refine dx (args:=[v]) (As:=[E v]) Tryz.func23 rfl Tryz.ntmps23 (Nat.le_of_ble_eq_true rfl) ?_ (fun a hf=>?_) (Nat.le_of_ble_eq_true rfl)
 ·exact arg1 rfl
 dsimp only[params,Nat.reduceAdd] at hf
 have e:=Ext.rfl' W
 refine seq <| ac <| tL I35 hf fun a b2 w e' hb2 hs2 B2 hf=>?_
 have hle2:=Nat.le_trans e.size (Nat.le_of_eq hb2.symm)
 obtain⟨hT,e⟩:=up2 e' hT e
 refine tL I4 hf fun a b3 w e' hb3 hs3 B3 hf=>?_
 have hle3:=Nat.le_trans e.size (Nat.le_of_eq hb3.symm)
 have lt3_B2:=B2.lt
 obtain⟨hT,e,B2⟩:=up3 e' hT e B2
 refine aa ?_
 replace B2:Blk w b2 #[.slice none 0 0] 35:=B2
 replace B3:Blk w b3 #[B false] 4:=B3
 have n23:W.heap.size≤b2∧W.heap.size≤b3∧b2≠b3:=by have:=B2.lt;exact⟨hle2,hle3,by omega⟩
 replace hf:=hf.kp [0,2,3]
 have e0:=e
 refine seq <| rgN 2 hf <| st (mv rfl) <| st (aw (A:=cw l V 1024) eH rfl (fun v w he k=>by cases k;rw[hl,hV];exact jb g ok _ w (hT.ext he) (vst (e0.tr he) hgd) hl1 hl2 hN)) ?_
 refine en fun a w e' hf=>?_
 obtain⟨hT,e,B2,B3⟩:=up4 e' hT e B2 B3
 obtain⟨av,⟨mq,rfl,HV0⟩,hf⟩:=hf.opn 14 rfl
 obtain⟨cs,⟨bm0,nm0,rfl,_,hnm0,HM0⟩,hmq⟩:=HV0
 replace hmq:mq=.map (some bm0):=hmq
 subst hmq
 have nm23:bm0≠b2∧bm0≠b3:=⟨HM0.neB B2,HM0.neB B3⟩
 obtain⟨N1,hN1⟩:=eqX w.heap.size
 have hN1s:N1≤w.heap.size:=Nat.le_of_eq hN1
 have hbm0:bm0<N1∧b2<N1∧b3<N1:=by rw[hN1];exact⟨HM0.lt,B2.lt,B3.lt⟩
 have hWN1:W.heap.size≤N1:=by rw[hN1];exact e.size
 replace hf:=hf.kp [2,3,14]
 refine tL I79 hf fun a b4 w e' hb4 hs4 B4 hf=>?_
 have hle4:=Nat.le_trans e.size (Nat.le_of_eq hb4.symm)
 have lo4_hN1s:=Nat.le_trans hN1s (Nat.le_of_eq hb4.symm)
 have lt4_B2:=B2.lt
 have lt4_B3:=B3.lt
 obtain⟨hT,HM0,hN1s,e,B2,B3⟩:=up6 e' hT HM0 hN1s e B2 B3
 have n4:N1≤b4:=lo4_hN1s
 refine aF T79 hf rfl rfl (ct _ _) B4 rfl (aM _ _) fun w hg hsz B4 hf=>?_
 replace e:=e.gr hg (by omega);replace hT:=hT.gr hg (by omega);replace HM0:=HM0.gr hg (fun h=>by cases h;omega);replace B2:=B2.gr hg (by omega);replace B3:=B3.gr hg (by omega);replace hN1s:=Nat.le_trans hN1s hg.size;clear hg
 refine aa ?_
 replace hf:=hf.kp [2,3,4]
 have l4':=B4.lt
 refine seq <| ac <| tL I76 hf fun a b5 w e' hb5 hs5 B5 hf=>?_
 have hle5:=Nat.le_trans e.size (Nat.le_of_eq hb5.symm)
 have lo5_hN1s:=Nat.le_trans hN1s (Nat.le_of_eq hb5.symm)
 obtain⟨hT,HM0,hN1s,e,B2,B3,B4⟩:=up7 e' hT HM0 hN1s e B2 B3 B4
 refine aa ?_
 have n5:N1≤b5∧b4≠b5:=⟨lo5_hN1s,by omega⟩
 simp only[Value.cells,dL] at B5
 replace B5:Blk w b5 (aJ (ep (lkS l) ps 0)) 76:=by rw[show ep (lkS l) ps 0=0 from rfl];exact B5
 replace hf:=hf.kp [2,3,4,5]
 obtain⟨N2,hN2⟩:=eqX w.heap.size
 have hN2s:N2≤w.heap.size:=Nat.le_of_eq hN2
 have hl2':b2<N2∧b3<N2∧b4<N2∧b5<N2∧bm0<N2:=by have h1:=B2.lt;have h2:=B3.lt;have h3:=B4.lt;have h4:=B5.lt;have h5:=HM0.lt;omega
 have hdv:=HM0.dvE hnm0 (G:=G0) (fun h=>h)
 refine seq <| seq ?_
 refine rgN 4 hf <| st (ldW T79 rfl B4 (aM _ _)) <| st (aw (A:=OwA aP 76 N2 G0 ps) (B:=E (.agg (adC V (.map (some bm0))))) jA rfl (fun v w he k1=>by cases k1;rw[hps];exact (kq l V (.map (some bm0)) w (hT.ext he) (Dv.ex hdv he)).mono fun en w' ⟨u,k1,k2,k3⟩=>⟨u,k1,k2,OwR.low k3 (Nat.le_trans hN2s he.size) fun b hb=>hb.elim⟩)) ?_
 refine st (aI U83 ⟨_,rfl,fun v w _ h=>OwR.sl h⟩) <| st (mv rfl) <| en fun a w e' hf=>?_
 obtain⟨hT,HM0,e,B2,B3,B4,B5⟩:=up7 e' hT HM0 e B2 B3 B4 B5
 refine aa ?_
 obtain⟨pv,HoP,hf⟩:=hf.opn 16 rfl
 replace HoP:OwR aP 76 N2 G0 w ps pv:=HoP
 obtain⟨nb,hnb'⟩:∃nb,nb=lkS l:=⟨_,rfl⟩
 rw[← hnb'] at hrb hrl B5
 replace hf:=hf.kp [2,3,4,5,16,17,18]
 replace hf:=hf.kp [2,3,4,5,16,17,18]
 refine blk (aK (fun r0 a w=>∃(j:Nat) ,r0=ps.length - j∧j≤ps.length∧Fr 98 a w [(2,E (ptr b2)),(3,E (ptr b3)),(4,E (ptr b4)),(5,E (ptr b5)),(16,E pv),(17,E (I (ps.length:Nat))),(18,E (I j))]∧Ext W w∧Tab w∧MpR sKV w bm0 nm0 l∧Blk w b2 #[.slice none 0 0] 35∧Blk w b3 #[B false] 4∧Blk w b4 (adC V (.map (some bm0))) 79∧Blk w b5 (aJ (ep nb ps j)) 76∧OwR aP 76 N2 G0 w ps pv) ps.length ⟨0,rfl,by omega,hf,e,⟨hT,HM0,B2,B3,B4,B5,HoP⟩⟩ ?_)
 rintro r0 a w ⟨j,rfl,hj,hf,e,hT,HM0,B2,B3,B4,B5,HoP⟩
 refine seq <| rgN 1 hf <| st (lss rfl rfl) <| en fun a w e' hf=>?_
 obtain⟨hT,HM0,HoP,e,B2,B3,B4,B5⟩:=up8 e' hT HM0 HoP e B2 B3 B4 B5
 refine aa <| seq <| ifc hf rfl (fun hc=>aj ?_) (fun hc=>aH ?_)
 rotate_left
 rotate_left
 ·have hltj:=ltC hc
  replace hf:=hf.kp [2,3,4,5,16,17,18]
  refine seq <| blk ?_
  have hgp:=iW hltj
  obtain⟨C,hC⟩:=eqX (gs ps j)
  obtain⟨x,hx⟩:=eqX ((aN C).getD 0)
  have hx1:x<1024:=by rw[hx];exact tT _
  obtain⟨s0,hs0⟩:=eqX (ep nb ps j)
  have hsc:ep nb ps (j+1)=evS (lvB nb x) s0 (lvB nb x).length:=by rw[ep,← hC,← hx,← hs0]
  rw[← hC] at hgp
  rw[← hs0] at B5
  have l2:=B2.lt
  have l3:=B3.lt
  have l4:=B4.lt
  have l5:=B5.lt
  have lm:=HM0.lt
  obtain⟨N3,hN3⟩:=eqX w.heap.size
  have hN3s:N3≤w.heap.size:=Nat.le_of_eq hN3
  rw[← hN3] at l2 l3 l4 l5 lm
  have hW3:W.heap.size≤N3:=by rw[hN3];exact e.size
  refine seq <| ac <| tP hf (aG U83 S76 (isE rfl HoP.sl) rfl (by omega) (hgp)) fun a w e' hf=>?_
  obtain⟨hT,HM0,HoP,hN3s,e,B2,B3,B4,B5⟩:=up9 e' hT HM0 HoP hN3s e B2 B3 B4 B5
  refine tP hf (ldS T76 (isR rfl)) fun a w e' hf=>?_
  obtain⟨hT,HM0,HoP,hN3s,e,B2,B3,B4,B5⟩:=up9 e' hT HM0 HoP hN3s e B2 B3 B4 B5
  refine tL I76 hf fun a b7 w e' hb7 hs7 B7 hf=>?_
  have lo7_hN3s:=Nat.le_trans hN3s (Nat.le_of_eq hb7.symm)
  have ne7_HoP:=HoP.ne_new hb7
  have lt7_B2:=B2.lt
  obtain⟨hT,HM0,HoP,hN3s,e,B2,B3,B4,B5⟩:=up9 e' hT HM0 HoP hN3s e B2 B3 B4 B5
  have n7:N3≤b7:=lo7_hN3s
  have hp7:=ne7_HoP
  replace hf:=hf.kp [2,3,4,5,7,16,17,18,21]
  refine aF T76 hf rfl rfl (bk _) B7 rfl (bc _) fun w hg hsz B7 hf=>?_
  replace e:=e.gr hg (by omega);replace hT:=hT.gr hg (by omega);replace HM0:=HM0.gr hg (fun h=>by cases h;omega);replace B2:=B2.gr hg (by omega);replace B3:=B3.gr hg (by omega);replace B4:=B4.gr hg (by omega);replace B5:=B5.gr hg (by omega);replace HoP:=HoP.grE hg hp7;replace hN3s:=Nat.le_trans hN3s hg.size;clear hg
  refine aa ?_
  have l7:=B7.lt
  replace hf:=hf.kp [2,3,4,5,7,16,17,18]
  refine seq <| rgN 7 hf <| st ((ldW T76 rfl B7 rfl).eq ((rfl:_=ae C))) <| st (aw (A:=Tup [E (I (x:Nat)),Any]) fP rfl (fun v w he h=>by cases h;have hm:=fT C w (hT.ext he);rw[gK,← hx] at hm;exact hm.mono fun en w' ⟨u,k1,k2,k3⟩=>⟨u,k1,k2,tS k3⟩)) ?_
  refine st (mv rfl) <| st (bs rfl rfl) <| st (bs rfl rfl) <| st (asg rfl) <| st (asg rfl) <| en fun a w e' hf=>?_
  replace hT:=hT.ext e'
  replace HM0:=HM0.ext e'
  replace HoP:=HoP.ext e'
  replace hN3s:=Nat.le_trans hN3s e'.size
  replace e:=e.tr e'
  replace B2:=B2.ext e'
  replace B3:=B3.ext e'
  replace B4:=B4.ext e'
  replace B5:=B5.ext e'
  replace B7:=B7.ext e'
  refine aa ?_
  replace hf:=hf.kp [2,3,4,5,8,16,17,18]
  obtain⟨L,hL⟩:=eqX (lvB nb x)
  have hLl:L.length≤1025:=by rw[hL];exact eR _ _
  rw[← hL] at hsc
  obtain⟨N4,hN4⟩:=eqX w.heap.size
  have hN4s:N4≤w.heap.size:=Nat.le_of_eq hN4
  have hl4:N3≤N4:=by rw[hN4];exact hN3s
  have hdv:=HM0.dvE hnm0 (G:=G0) (fun h=>h)
  refine seq <| rgN 5 hf <| st (ldW T79 rfl B4 (aM _ _)) <| st (mv rfl) <| st (ap (A:=OwA aP 76 N4 G0 L) (B:=E (.agg (adC V (.map (some bm0))))) (C:=E (I (x:Nat))) fO rfl rfl (fun a b w he k2 k4=>by cases k2;cases k4;rw[hL,hnb'];exact (gj l V (.map (some bm0)) x w (hT.ext he) (Dv.ex hdv he) hx1).mono fun en w' ⟨z,q1,q2,q3⟩=>⟨z,q1,q2,OwR.low q3 (Nat.le_trans hN4s he.size) fun b hb=>hb.elim⟩)) ?_
  refine st (aI U83 ⟨_,rfl,fun v w _ h=>OwR.sl h⟩) <| st (mv rfl) <| en fun a w e' hf=>?_
  replace hT:=hT.ext e'
  replace HM0:=HM0.ext e'
  replace HoP:=HoP.ext e'
  replace hN3s:=Nat.le_trans hN3s e'.size
  replace e:=e.tr e'
  replace B2:=B2.ext e'
  replace B3:=B3.ext e'
  replace B4:=B4.ext e'
  replace B5:=B5.ext e'
  replace B7:=B7.ext e'
  refine aa ?_
  obtain⟨lv,HoL,hf⟩:=hf.opn 29 rfl
  replace HoL:OwR aP 76 N4 G0 w L lv:=HoL
  replace B5:Blk w b5 (aJ (evS L s0 0)) 76:=B5
  replace hf:=hf.kp [2,3,4,5,16,17,18,29,30,31]
  replace hf:=hf.kp [2,3,4,5,16,17,18,29,30,31]
  refine blk (aK (fun r0 a w=>∃(i:Nat) ,r0=L.length - i∧i≤L.length∧Fr 98 a w [(2,E (ptr b2)),(3,E (ptr b3)),(4,E (ptr b4)),(5,E (ptr b5)),(16,E pv),(17,E (I (ps.length:Nat))),(18,E (I j)),(29,E lv),(30,E (I (L.length:Nat))),(31,E (I i))]∧Ext W w∧Tab w∧MpR sKV w bm0 nm0 l∧Blk w b2 #[.slice none 0 0] 35∧Blk w b3 #[B false] 4∧Blk w b4 (adC V (.map (some bm0))) 79∧Blk w b5 (aJ (evS L s0 i)) 76∧OwR aP 76 N2 G0 w ps pv∧OwR aP 76 N4 G0 w L lv∧N4≤w.heap.size) L.length ⟨0,rfl,by omega,hf,e,⟨hT,HM0,B2,B3,B4,B5,HoP,HoL,HoL.base⟩⟩ ?_)
  rintro r0 a w ⟨i,rfl,hi,hf,e,hT,HM0,B2,B3,B4,B5,HoP,HoL,hN4s⟩
  refine seq <| rgN 1 hf <| st (lss rfl rfl) <| en fun a w e' hf=>?_
  replace hT:=hT.ext e'
  replace HM0:=HM0.ext e'
  replace HoP:=HoP.ext e'
  replace HoL:=HoL.ext e'
  replace hN4s:=Nat.le_trans hN4s e'.size
  replace e:=e.tr e'
  replace B2:=B2.ext e'
  replace B3:=B3.ext e'
  replace B4:=B4.ext e'
  replace B5:=B5.ext e'
  refine aa <| seq <| ifc hf rfl (fun hc=>aj ?_) (fun hc=>aH ?_)
  rotate_left
  rotate_left
  ·have hlti:=ltC hc
   replace hf:=hf.kp [2,3,4,5,16,17,18,29,30,31]
   refine seq <| blk ?_
   have hgi:=iW hlti
   obtain⟨R,hR⟩:=eqX (gs L i)
   obtain⟨s1,hs1⟩:=eqX (evS L s0 i)
   have hsi:evS L s0 (i+1)=if i % 2=0 then s1 ||| R else s1:=by rw[evS,← hR,← hs1]
   rw[← hR] at hgi
   rw[← hs1] at B5
   refine seq <| ac <| tP hf (mv rfl) fun a w e' hf=>?_
   replace hT:=hT.ext e'
   replace HM0:=HM0.ext e'
   replace HoP:=HoP.ext e'
   replace HoL:=HoL.ext e'
   replace hN4s:=Nat.le_trans hN4s e'.size
   replace e:=e.tr e'
   replace B2:=B2.ext e'
   replace B3:=B3.ext e'
   replace B4:=B4.ext e'
   replace B5:=B5.ext e'
   refine tP hf (aG U83 S76 (isE rfl HoL.sl) rfl (by omega) (hgi)) fun a w e' hf=>?_
   replace hT:=hT.ext e'
   replace HM0:=HM0.ext e'
   replace HoP:=HoP.ext e'
   replace HoL:=HoL.ext e'
   replace hN4s:=Nat.le_trans hN4s e'.size
   replace e:=e.tr e'
   replace B2:=B2.ext e'
   replace B3:=B3.ext e'
   replace B4:=B4.ext e'
   replace B5:=B5.ext e'
   refine tP hf (ldS T76 (isR rfl)) fun a w e' hf=>?_
   replace hT:=hT.ext e'
   replace HM0:=HM0.ext e'
   replace HoP:=HoP.ext e'
   replace HoL:=HoL.ext e'
   replace hN4s:=Nat.le_trans hN4s e'.size
   replace e:=e.tr e'
   replace B2:=B2.ext e'
   replace B3:=B3.ext e'
   replace B4:=B4.ext e'
   replace B5:=B5.ext e'
   refine tL I76 hf fun a b11 w e' hb11 hs11 B11 hf=>?_
   have lo11_hN4s:=Nat.le_trans hN4s (Nat.le_of_eq hb11.symm)
   have ne11_HoP:=HoP.ne_new hb11
   have ne11_HoL:=HoL.ne_new hb11
   replace hT:=hT.ext e'
   replace HM0:=HM0.ext e'
   replace HoP:=HoP.ext e'
   replace HoL:=HoL.ext e'
   replace hN4s:=Nat.le_trans hN4s e'.size
   replace e:=e.tr e'
   replace B2:=B2.ext e'
   replace B3:=B3.ext e'
   replace B4:=B4.ext e'
   replace B5:=B5.ext e'
   refine tA hf rfl fun a hf=>?_
   have n11:N4≤b11:=lo11_hN4s
   have hp11:=ne11_HoP
   have hl11:=ne11_HoL
   replace hf:=hf.kp [2,3,4,5,10,11,16,17,18,29,30,31,35]
   refine aF T76 hf rfl rfl (bk _) B11 rfl (bc _) fun w hg hsz B11 hf=>?_
   replace e:=e.gr hg (by omega);replace hT:=hT.gr hg (by omega);replace HM0:=HM0.gr hg (fun h=>by cases h;omega);replace B2:=B2.gr hg (by omega);replace B3:=B3.gr hg (by omega);replace B4:=B4.gr hg (by omega);replace B5:=B5.gr hg (by omega);replace HoP:=HoP.grE hg hp11;replace HoL:=HoL.grE hg hl11;replace hN4s:=Nat.le_trans hN4s hg.size;clear hg
   refine aa ?_
   have l11:=B11.lt
   replace hf:=hf.kp [2,3,4,5,10,11,16,17,18,29,30,31]
   have htm:(i:Int).tmod 2=((i % 2:Nat):Int):=rfl
   by_cases hev:i % 2=0
   ·rw[if_pos hev] at hsi
    refine seq <| rgN 3 hf <| st (mv rfl) <| st (rem rfl rfl (by omega)) <| st ((eql rfl rfl).eq (congrArg Value.bool ((by rw[htm,hev];rfl:((i:Int).tmod 2==0)=true)))) ?_
    refine en fun a w e' hf=>?_
    obtain⟨hT,HM0,HoP,HoL,hN4s,e,B2,B3,B4⟩:=up9 e' hT HM0 HoP HoL hN4s e B2 B3 B4
    obtain⟨B5,B11⟩:=up2 e' B5 B11
    refine aa <| ifT hf rfl ?_
    replace hf:=hf.kp [2,3,4,5,11,16,17,18,29,30,31]
    refine rgN 3 hf <| st ((ldW T76 rfl B5 rfl).eq ((rfl:_=ae s1))) <| st ((ldW T76 rfl B11 rfl).eq ((rfl:_=ae R))) <| st (ap (A:=E (ae (s1 ||| R))) iy rfl rfl (fun v u w he h h'=>by cases h;cases h';exact iB s1 R w)) ?_
    refine en fun a w e' hf=>?_
    obtain⟨hT,HM0,HoP,HoL,hN4s,e,B2,B3,B4⟩:=up9 e' hT HM0 HoP HoL hN4s e B2 B3 B4
    obtain⟨B5,B11⟩:=up2 e' B5 B11
    have hp5:pv.ownBlock≠some b5:=HoP.neLt (by omega)
    have hl5:lv.ownBlock≠some b5:=HoL.neLt (by omega)
    replace hf:=hf.kp [2,3,4,5,16,17,18,29,30,31,41]
    refine aF T76 hf rfl rfl (bk _) B5 rfl (bc _) fun w hg hsz B5 hf=>?_
    replace e:=e.gr hg (by omega);replace hT:=hT.gr hg (by omega);replace HM0:=HM0.gr hg (fun h=>by cases h;omega);replace B2:=B2.gr hg (by omega);replace B3:=B3.gr hg (by omega);replace B4:=B4.gr hg (by omega);replace HoP:=HoP.grE hg hp5;replace HoL:=HoL.grE hg hl5;replace hN4s:=Nat.le_trans hN4s hg.size;clear hg
    refine aa ?_
    rw[← hsi] at B5
    replace hf:=hf.kp [2,3,4,5,16,17,18,29,30,31]
    refine rgN 1 hf <| st ((add rfl rfl (by omega)).eq (iN i)) <| en fun a w e' hf=>?_
    replace hT:=hT.ext e'
    replace HM0:=HM0.ext e'
    replace HoP:=HoP.ext e'
    replace HoL:=HoL.ext e'
    replace hN4s:=Nat.le_trans hN4s e'.size
    replace e:=e.tr e'
    replace B2:=B2.ext e'
    replace B3:=B3.ext e'
    replace B4:=B4.ext e'
    replace B5:=B5.ext e'
    refine tP hf (mv rfl) fun a w e' hf=>?_
    replace hT:=hT.ext e'
    replace HM0:=HM0.ext e'
    replace HoP:=HoP.ext e'
    replace HoL:=HoL.ext e'
    replace hN4s:=Nat.le_trans hN4s e'.size
    replace e:=e.tr e'
    replace B2:=B2.ext e'
    replace B3:=B3.ext e'
    replace B4:=B4.ext e'
    replace B5:=B5.ext e'
    refine aa ?_
    replace hf:=hf.kp [2,3,4,5,16,17,18,29,30,31]
    refine⟨_,?_,i+1,rfl,by omega,hf,e,?_⟩
    ·omega
    exact⟨hT,HM0,B2,B3,B4,B5,HoP,HoL,hN4s⟩
   ·rw[if_neg hev] at hsi
    refine seq <| rgN 3 hf <| st (mv rfl) <| st (rem rfl rfl (by omega)) <| st ((eql rfl rfl).eq (congrArg Value.bool ((by rw[htm];exact beq_eq_false_iff_ne.2 (by omega):((i:Int).tmod 2==0)=false)))) ?_
    refine en fun a w e' hf=>?_
    replace hT:=hT.ext e'
    replace HM0:=HM0.ext e'
    replace HoP:=HoP.ext e'
    replace HoL:=HoL.ext e'
    replace hN4s:=Nat.le_trans hN4s e'.size
    replace e:=e.tr e'
    replace B2:=B2.ext e'
    replace B3:=B3.ext e'
    replace B4:=B4.ext e'
    replace B5:=B5.ext e'
    refine aa <| ifF hf rfl ?_
    refine aj ?_
    rw[← hsi] at B5
    replace hf:=hf.kp [2,3,4,5,16,17,18,29,30,31]
    refine rgN 1 hf <| st ((add rfl rfl (by omega)).eq (iN i)) <| en fun a w e' hf=>?_
    replace hT:=hT.ext e'
    replace HM0:=HM0.ext e'
    replace HoP:=HoP.ext e'
    replace HoL:=HoL.ext e'
    replace hN4s:=Nat.le_trans hN4s e'.size
    replace e:=e.tr e'
    replace B2:=B2.ext e'
    replace B3:=B3.ext e'
    replace B4:=B4.ext e'
    replace B5:=B5.ext e'
    refine tP hf (mv rfl) fun a w e' hf=>?_
    replace hT:=hT.ext e'
    replace HM0:=HM0.ext e'
    replace HoP:=HoP.ext e'
    replace HoL:=HoL.ext e'
    replace hN4s:=Nat.le_trans hN4s e'.size
    replace e:=e.tr e'
    replace B2:=B2.ext e'
    replace B3:=B3.ext e'
    replace B4:=B4.ext e'
    replace B5:=B5.ext e'
    refine aa ?_
    replace hf:=hf.kp [2,3,4,5,16,17,18,29,30,31]
    refine⟨_,?_,i+1,rfl,by omega,hf,e,?_⟩
    ·omega
    exact⟨hT,HM0,B2,B3,B4,B5,HoP,HoL,hN4s⟩
  ·obtain rfl:=dnE hc hi
   rw[← hsc] at B5
   replace hf:=hf.kp [2,3,4,5,16,17,18]
   refine rgN 1 hf <| st ((add rfl rfl (by omega)).eq (iN j)) <| en fun a w e' hf=>?_
   obtain⟨hT,HM0,HoP,e,B2,B3,B4,B5⟩:=up8 e' hT HM0 HoP e B2 B3 B4 B5
   refine tP hf (mv rfl) fun a w e' hf=>?_
   obtain⟨hT,HM0,HoP,e,B2,B3,B4,B5⟩:=up8 e' hT HM0 HoP e B2 B3 B4 B5
   refine aa ?_
   replace hf:=hf.kp [2,3,4,5,16,17,18]
   refine⟨_,?_,j+1,rfl,by omega,hf,e,?_⟩
   ·omega
   exact⟨hT,HM0,B2,B3,B4,B5,HoP⟩
 ·obtain rfl:=dnE hc hj
  obtain⟨one,hone⟩:=eqX (ep nb ps ps.length)
  rw[← hone] at B5 hrl hrb
  replace hf:=hf.kp [2,3,4,5]
  obtain⟨Nz,hNz⟩:=eqX w.heap.size
  refine seq <| seq ?_
  refine rgN 3 hf <| st (fA U79 rfl T76 rfl) <| st ((ldP T76 rfl B4 (by rw[aM];decide)).eq (congrArg Value.agg (bW V (.map (some bm0))))) ?_
  refine st (aw (A:=dh Nz V) dr rfl (fun v w' he h=>by cases h;exact Calls.mono (du _ w') (fun en w2 ⟨u,h1,h2,b',h3,h4,h5⟩=>⟨u,h1,h2,b',by have:=he.size;omega,h4,h5⟩))) ?_
  refine en fun a w e' hf=>?_
  obtain⟨hT,HM0,e,B2,B3,B4,B5⟩:=up7 e' hT HM0 e B2 B3 B4 B5
  refine aa ?_
  obtain⟨vv,⟨b46,h46,rfl,BS⟩,hf⟩:=hf.fix 46 rfl
  replace hf:=hf.kp [2,3,4,5,46]
  have hBW:W.heap.size≤w.heap.size:=e.size
  have h0w:0<w.heap.size:=hT.lt
  have l2:=B2.lt
  have l3:=B3.lt
  have l4:=B4.lt
  have l5:=B5.lt
  have lm:=HM0.lt
  refine blk <| dz (S:=V) hf rfl BS (by decide) (fun s w1=>BpJ W nm0 bm0 l V one b2 b3 b4 b5 w1∧s.any (bdB nb one)=false)
   (fun ex w1=>ex=.ret∧BpJ W nm0 bm0 l V one b2 b3 b4 b5 w1∧(ai V).any (bdB nb one)=true) (fun s w1 h=>h.1.t)
   ⟨⟨e,hT,HM0,B2,B3,B4,B5⟩,rfl⟩ (fun s w1 w2 h hs k=>⟨h.1.kp k hBW h0w l2 l3 l4 l5 lm,h.2⟩)
   (fun ex w1 w2 ⟨q1,q2,q3⟩ hs k=>⟨q1,q2.kp k hBW h0w l2 l3 l4 l5 lm,q3⟩) ?_ ?_ ?_
  ·intro lp s x rest a1 w1 hs hJ hlw hf
   have hxV:V.getLsbD x=true:=(aD.1 (by rw[hs];simp)).2
   have hx1024:x<1024:=aA hxV
   generalize hBz:w.heap.size=Bz at *
   refine ac <| tA hf rfl fun a hf=>aa <| ⟨Kh.rfl' _ _,fun w3 k3 hsz3=>?_⟩
   have hJ3:=hJ.1.kp k3 hBW h0w l2 l3 l4 l5 lm
   have hJs:=hJ.2
   replace hf:=hf.pure w3
   obtain⟨e,hT,HM0,B2,B3,B4,B5⟩:=hJ3
   have kh:=Kh.rfl' Bz w3
   have hgood:bdB nb one x=false→(s++[x]).any (bdB nb one)=false:=fun h=>by rw[List.any_append,hJs];simp[h]
   have hbad:bdB nb one x=true→(ai V).any (bdB nb one)=true:=fun h=>List.any_eq_true.2 ⟨x,by rw[hs];simp,h⟩
   rw[bdB] at hgood hbad
   obtain⟨nx,hnx⟩:=eqX (nb (x:Int))
   rw[← hnx] at hgood hbad
   obtain⟨H,hH⟩:=eqX (one.getLsbD x)
   have hbit:has one (x:Int)=H:=by rw[hH,Bool.eq_iff_iff];exact dR one x
   obtain⟨E2,hE2⟩:=eqX (((nx &&& one)==0))
   obtain⟨E3,hE3⟩:=eqX ((nx==0))
   obtain⟨Sb,hSb⟩:=eqX (((nx &&& ~~~one)==0))
   rw[← hH,← hE2,← hE3,← hSb] at hgood hbad
   have hwx:(Lit.int .i64 (x:Int)).wf=true:=bP (by omega) (by omega)
   have hdv:=HM0.dvE hnm0 (G:=G0) (fun h=>h)
   have hlk:lkS l (x:Int)=nx:=by rw[hnx,hnb']
   have fI:∀w (v u:Value),(E (ae nx)).p v w→(E (ae one)).p u w→Calls Tryz.prog 74 #[v,u] w (Post (E (ae (nx &&& one))) w):=fun w v u k1 k2=>by cases k1;cases k2;exact iC _ _ w
   have fE2:∀w (v:Value),(E (ae (nx &&& one))).p v w→Calls Tryz.prog 65 #[v] w (Post (E (B E2)) w):=fun w v k1=>by cases k1;rw[hE2];exact iD _ w
   have fE3:∀w (v:Value),(E (ae nx)).p v w→Calls Tryz.prog 65 #[v] w (Post (E (B E3)) w):=fun w v k1=>by cases k1;rw[hE3];exact iD _ w
   have fH:∀w (v u:Value),(E (ae one)).p v w→(E (I (x:Nat))).p u w→Calls Tryz.prog 75 #[v,u] w (Post (E (B H)) w):=fun w v u k1 k2=>by cases k1;cases k2;rw[← hbit];exact ea _ _ w
   have fS:∀w (v u:Value),(E (ae nx)).p v w→(E (ae one)).p u w→Calls Tryz.prog 76 #[v,u] w (Post (E (B Sb)) w):=fun w v u k1 k2=>by cases k1;cases k2;rw[hSb];exact xp _ _ w
   replace hf:=hf.kp [2,3,4,5,12]
   refine blk ?_
   cases H with
   | false=>
    cases E2 with
    | false=>
     refine seq <| seq ?_
     refine rgG 20 Mix.mix hf <| st (fA U79 rfl T77 rfl) <| st (ld1 (v:=.map (some bm0)) T77 rfl B4 (bN _ _)) <| st (mv rfl) <| st ((lkM (l:=l) (i:=(x:Int)) U77 bZ (isE rfl hdv) rfl hwx).eq (congrArg ae hlk)) <| st ((ldW T76 rfl B5 rfl).eq ((rfl:_=ae one))) <| st (ap (A:=E (ae (nx &&& one))) (B:=E (ae nx)) (C:=E (ae one)) dZ rfl rfl (fun v u w he h h'=>fI w v u h h')) <| st (aw (A:=E (B false)) (B:=E (ae (nx &&& one))) dN rfl (fun v w he h=>fE2 w v h)) <| st (aZ rfl) <| st ((ldW T76 rfl B5 rfl).eq ((rfl:_=ae one))) <| st (mv rfl) <| st (ap (A:=E (B false)) (B:=E (ae one)) (C:=E (I (x:Nat))) ce rfl rfl (fun v u w he h h'=>fH w v u h h')) <| st (jn U4 rfl rfl) <| st (mv rfl) <| sn rfl rfl rfl <| sn rfl rfl rfl <| sn rfl rfl rfl <| sn rfl rfl rfl <| sn rfl rfl rfl <| sn rfl rfl rfl <| st (pkF rfl rfl) <| en fun a w e' hf=>?_
     obtain⟨hT,HM0⟩:=up2 e' hT HM0
     replace kh:=kh.tr (Kh.ext e')
     obtain⟨hdv,e,B2,B3,B4,B5⟩:=up6 e' hdv e B2 B3 B4 B5
     refine aa ?_
     replace hf:=hf.kp [2,3,4,5,12,67]
     refine ifF hf rfl ?_
     refine aj ?_
     replace hf:=hf.kp [2,3,4,5,12]
     refine seq <| rgN 28 hf <| st ((ldW T76 rfl B5 rfl).eq ((rfl:_=ae one))) <| st (mv rfl) <| st (ap (A:=E (B false)) (B:=E (ae one)) (C:=E (I (x:Nat))) ce rfl rfl (fun v u w he h h'=>fH w v u h h')) <| st (mv rfl) <| sn rfl rfl rfl <| sn rfl rfl rfl <| sn rfl rfl rfl <| sn rfl rfl rfl <| sn rfl rfl rfl <| sn rfl rfl rfl <| sn rfl rfl rfl <| sn rfl rfl rfl <| st (pkF rfl rfl) <| st (mv rfl) <| sy rfl rfl ((ldW T76 rfl B5 rfl).eq ((rfl:_=ae one))) <| sy rfl rfl (mv rfl) <| sy rfl rfl (ap (A:=E (B false)) (B:=E (ae one)) (C:=E (I (x:Nat))) ce rfl rfl (fun v u w he h h'=>fH w v u h h')) <| sy rfl rfl (aZ rfl) <| sy rfl rfl (mv rfl) <| sy rfl rfl (fA U79 rfl T77 rfl) <| sy rfl rfl (ld1 (v:=.map (some bm0)) T77 rfl B4 (bN _ _)) <| sy rfl rfl (mv rfl) <| sy rfl rfl ((lkM (l:=l) (i:=(x:Int)) U77 bZ (isE rfl hdv) rfl hwx).eq (congrArg ae hlk)) <| sy rfl rfl ((ldW T76 rfl B5 rfl).eq ((rfl:_=ae one))) <| sy rfl rfl (ap (A:=E (B Sb)) (B:=E (ae nx)) (C:=E (ae one)) pH rfl rfl (fun v u w he h h'=>fS w v u h h')) <| sy rfl rfl (aZ rfl) <| sy rfl rfl (pkT rfl rfl) <| st (pkF rfl rfl) <| en fun a w e' hf=>?_
     obtain⟨hT,HM0⟩:=up2 e' hT HM0
     replace kh:=kh.tr (Kh.ext e')
     obtain⟨hdv,e,B2,B3,B4,B5⟩:=up6 e' hdv e B2 B3 B4 B5
     refine aa ?_
     replace hf:=hf.kp [2,3,4,5,12,95]
     cases Sb with
     | false=>
      refine ifT hf rfl ?_
      replace hf:=hf.kp [2,3]
      have kk:=B2.lt
      refine seq <| ac <| aO T35 hf rfl rfl rfl B2 Nat.zero_lt_one fun w hg hsz B2 hf=>?_
      replace e:=e.gr hg (by omega);replace hT:=hT.gr hg (by omega);replace HM0:=HM0.gr hg (fun h=>nm23.1 (Option.some.inj h));replace B3:=B3.gr hg (by omega);replace B4:=B4.gr hg (by omega);replace B5:=B5.gr hg (by omega);replace kh:=kh.tr (Kh.gr hg (fun hh=>by have:=hh.1;omega));clear hg
      refine aO T4 hf rfl rfl rfl B3 Nat.zero_lt_one fun w hg hsz B3 hf=>?_
      replace e:=e.gr hg (by omega);replace hT:=hT.gr hg (by omega);replace HM0:=HM0.gr hg (fun h=>nm23.2 (Option.some.inj h));replace B2:=B2.gr hg (by omega);replace B4:=B4.gr hg (by omega);replace B5:=B5.gr hg (by omega);replace kh:=kh.tr (Kh.gr hg (fun hh=>by have:=hh.1;omega));clear hg
      refine aa <| ak ?_
      exact⟨⟨rfl,⟨e,hT,HM0,B2,B3,B4,B5⟩,hbad (by cases E3 <;> rfl)⟩,kh⟩
     | true=>
      refine ifF hf rfl ?_
      refine aj ?_
      exact⟨⟨⟨e,hT,HM0,B2,B3,B4,B5⟩,hgood (by cases E3 <;> rfl)⟩,kh⟩
    | true=>
     refine seq <| seq ?_
     refine rgG 20 Mix.mix hf <| st (fA U79 rfl T77 rfl) <| st (ld1 (v:=.map (some bm0)) T77 rfl B4 (bN _ _)) <| st (mv rfl) <| st ((lkM (l:=l) (i:=(x:Int)) U77 bZ (isE rfl hdv) rfl hwx).eq (congrArg ae hlk)) <| st ((ldW T76 rfl B5 rfl).eq ((rfl:_=ae one))) <| st (ap (A:=E (ae (nx &&& one))) (B:=E (ae nx)) (C:=E (ae one)) dZ rfl rfl (fun v u w he h h'=>fI w v u h h')) <| st (aw (A:=E (B true)) (B:=E (ae (nx &&& one))) dN rfl (fun v w he h=>fE2 w v h)) <| st (aZ rfl) <| st ((ldW T76 rfl B5 rfl).eq ((rfl:_=ae one))) <| st (mv rfl) <| st (ap (A:=E (B false)) (B:=E (ae one)) (C:=E (I (x:Nat))) ce rfl rfl (fun v u w he h h'=>fH w v u h h')) <| st (jn U4 rfl rfl) <| st (mv rfl) <| sy rfl rfl (fA U79 rfl T77 rfl) <| sy rfl rfl (ld1 (v:=.map (some bm0)) T77 rfl B4 (bN _ _)) <| sy rfl rfl (mv rfl) <| sy rfl rfl ((lkM (l:=l) (i:=(x:Int)) U77 bZ (isE rfl hdv) rfl hwx).eq (congrArg ae hlk)) <| sy rfl rfl (aw (A:=E (B E3)) (B:=E (ae nx)) dN rfl (fun v w he h=>fE3 w v h)) <| sy rfl rfl (aZ rfl) <| st (pkT rfl rfl) <| en fun a w e' hf=>?_
     obtain⟨hT,HM0⟩:=up2 e' hT HM0
     replace kh:=kh.tr (Kh.ext e')
     obtain⟨hdv,e,B2,B3,B4,B5⟩:=up6 e' hdv e B2 B3 B4 B5
     refine aa ?_
     replace hf:=hf.kp [2,3,4,5,12,67]
     cases E3 with
     | false=>
      refine ifT hf rfl ?_
      replace hf:=hf.kp [2,3]
      have kk:=B2.lt
      refine seq <| ac <| aO T35 hf rfl rfl rfl B2 Nat.zero_lt_one fun w hg hsz B2 hf=>?_
      replace e:=e.gr hg (by omega);replace hT:=hT.gr hg (by omega);replace HM0:=HM0.gr hg (fun h=>nm23.1 (Option.some.inj h));replace B3:=B3.gr hg (by omega);replace B4:=B4.gr hg (by omega);replace B5:=B5.gr hg (by omega);replace kh:=kh.tr (Kh.gr hg (fun hh=>by have:=hh.1;omega));clear hg
      refine aO T4 hf rfl rfl rfl B3 Nat.zero_lt_one fun w hg hsz B3 hf=>?_
      replace e:=e.gr hg (by omega);replace hT:=hT.gr hg (by omega);replace HM0:=HM0.gr hg (fun h=>nm23.2 (Option.some.inj h));replace B2:=B2.gr hg (by omega);replace B4:=B4.gr hg (by omega);replace B5:=B5.gr hg (by omega);replace kh:=kh.tr (Kh.gr hg (fun hh=>by have:=hh.1;omega));clear hg
      refine aa <| ak <| ⟨⟨rfl,⟨e,hT,HM0,B2,B3,B4,B5⟩,hbad (by rfl)⟩,kh⟩
     | true=>
      refine ifF hf rfl ?_
      refine aj ?_
      replace hf:=hf.kp [2,3,4,5,12]
      refine seq <| rgN 28 hf <| st ((ldW T76 rfl B5 rfl).eq ((rfl:_=ae one))) <| st (mv rfl) <| st (ap (A:=E (B false)) (B:=E (ae one)) (C:=E (I (x:Nat))) ce rfl rfl (fun v u w he h h'=>fH w v u h h')) <| st (mv rfl) <| sn rfl rfl rfl <| sn rfl rfl rfl <| sn rfl rfl rfl <| sn rfl rfl rfl <| sn rfl rfl rfl <| sn rfl rfl rfl <| sn rfl rfl rfl <| sn rfl rfl rfl <| st (pkF rfl rfl) <| st (mv rfl) <| sy rfl rfl ((ldW T76 rfl B5 rfl).eq ((rfl:_=ae one))) <| sy rfl rfl (mv rfl) <| sy rfl rfl (ap (A:=E (B false)) (B:=E (ae one)) (C:=E (I (x:Nat))) ce rfl rfl (fun v u w he h h'=>fH w v u h h')) <| sy rfl rfl (aZ rfl) <| sy rfl rfl (mv rfl) <| sy rfl rfl (fA U79 rfl T77 rfl) <| sy rfl rfl (ld1 (v:=.map (some bm0)) T77 rfl B4 (bN _ _)) <| sy rfl rfl (mv rfl) <| sy rfl rfl ((lkM (l:=l) (i:=(x:Int)) U77 bZ (isE rfl hdv) rfl hwx).eq (congrArg ae hlk)) <| sy rfl rfl ((ldW T76 rfl B5 rfl).eq ((rfl:_=ae one))) <| sy rfl rfl (ap (A:=E (B Sb)) (B:=E (ae nx)) (C:=E (ae one)) pH rfl rfl (fun v u w he h h'=>fS w v u h h')) <| sy rfl rfl (aZ rfl) <| sy rfl rfl (pkT rfl rfl) <| st (pkF rfl rfl) <| en fun a w e' hf=>?_
      obtain⟨hT,HM0⟩:=up2 e' hT HM0
      replace kh:=kh.tr (Kh.ext e')
      obtain⟨hdv,e,B2,B3,B4,B5⟩:=up6 e' hdv e B2 B3 B4 B5
      refine aa ?_
      replace hf:=hf.kp [2,3,4,5,12,95]
      cases Sb with
      | false=>
       refine ifT hf rfl ?_
       replace hf:=hf.kp [2,3]
       have kk:=B2.lt
       refine seq <| ac <| aO T35 hf rfl rfl rfl B2 Nat.zero_lt_one fun w hg hsz B2 hf=>?_
       replace e:=e.gr hg (by omega);replace hT:=hT.gr hg (by omega);replace HM0:=HM0.gr hg (fun h=>nm23.1 (Option.some.inj h));replace B3:=B3.gr hg (by omega);replace B4:=B4.gr hg (by omega);replace B5:=B5.gr hg (by omega);replace kh:=kh.tr (Kh.gr hg (fun hh=>by have:=hh.1;omega));clear hg
       refine aO T4 hf rfl rfl rfl B3 Nat.zero_lt_one fun w hg hsz B3 hf=>?_
       replace e:=e.gr hg (by omega);replace hT:=hT.gr hg (by omega);replace HM0:=HM0.gr hg (fun h=>nm23.2 (Option.some.inj h));replace B2:=B2.gr hg (by omega);replace B4:=B4.gr hg (by omega);replace B5:=B5.gr hg (by omega);replace kh:=kh.tr (Kh.gr hg (fun hh=>by have:=hh.1;omega));clear hg
       refine aa <| ak <| ⟨⟨rfl,⟨e,hT,HM0,B2,B3,B4,B5⟩,hbad (by rfl)⟩,kh⟩
      | true=>
       refine ifF hf rfl ?_
       refine aj <| ⟨⟨⟨e,hT,HM0,B2,B3,B4,B5⟩,hgood rfl⟩,kh⟩
   | true=>
    cases E2 with
    | false=>
     refine seq <| seq ?_
     refine rgG 20 Mix.mix hf <| st (fA U79 rfl T77 rfl) <| st (ld1 (v:=.map (some bm0)) T77 rfl B4 (bN _ _)) <| st (mv rfl) <| st ((lkM (l:=l) (i:=(x:Int)) U77 bZ (isE rfl hdv) rfl hwx).eq (congrArg ae hlk)) <| st ((ldW T76 rfl B5 rfl).eq ((rfl:_=ae one))) <| st (ap (A:=E (ae (nx &&& one))) (B:=E (ae nx)) (C:=E (ae one)) dZ rfl rfl (fun v u w he h h'=>fI w v u h h')) <| st (aw (A:=E (B false)) (B:=E (ae (nx &&& one))) dN rfl (fun v w he h=>fE2 w v h)) <| st (aZ rfl) <| st ((ldW T76 rfl B5 rfl).eq ((rfl:_=ae one))) <| st (mv rfl) <| st (ap (A:=E (B true)) (B:=E (ae one)) (C:=E (I (x:Nat))) ce rfl rfl (fun v u w he h h'=>fH w v u h h')) <| st (jn U4 rfl rfl) <| st (mv rfl) <| sy rfl rfl (fA U79 rfl T77 rfl) <| sy rfl rfl (ld1 (v:=.map (some bm0)) T77 rfl B4 (bN _ _)) <| sy rfl rfl (mv rfl) <| sy rfl rfl ((lkM (l:=l) (i:=(x:Int)) U77 bZ (isE rfl hdv) rfl hwx).eq (congrArg ae hlk)) <| sy rfl rfl (aw (A:=E (B E3)) (B:=E (ae nx)) dN rfl (fun v w he h=>fE3 w v h)) <| sy rfl rfl (aZ rfl) <| st (pkT rfl rfl) <| en fun a w e' hf=>?_
     obtain⟨hT,HM0⟩:=up2 e' hT HM0
     replace kh:=kh.tr (Kh.ext e')
     obtain⟨hdv,e,B2,B3,B4,B5⟩:=up6 e' hdv e B2 B3 B4 B5
     refine aa ?_
     replace hf:=hf.kp [2,3,4,5,12,67]
     cases E3 with
     | false=>
      refine ifT hf rfl ?_
      replace hf:=hf.kp [2,3]
      have kk:=B2.lt
      refine seq <| ac <| aO T35 hf rfl rfl rfl B2 Nat.zero_lt_one fun w hg hsz B2 hf=>?_
      replace e:=e.gr hg (by omega);replace hT:=hT.gr hg (by omega);replace HM0:=HM0.gr hg (fun h=>nm23.1 (Option.some.inj h));replace B3:=B3.gr hg (by omega);replace B4:=B4.gr hg (by omega);replace B5:=B5.gr hg (by omega);replace kh:=kh.tr (Kh.gr hg (fun hh=>by have:=hh.1;omega));clear hg
      refine aO T4 hf rfl rfl rfl B3 Nat.zero_lt_one fun w hg hsz B3 hf=>?_
      replace e:=e.gr hg (by omega);replace hT:=hT.gr hg (by omega);replace HM0:=HM0.gr hg (fun h=>nm23.2 (Option.some.inj h));replace B2:=B2.gr hg (by omega);replace B4:=B4.gr hg (by omega);replace B5:=B5.gr hg (by omega);replace kh:=kh.tr (Kh.gr hg (fun hh=>by have:=hh.1;omega));clear hg
      refine aa <| ak <| ⟨⟨rfl,⟨e,hT,HM0,B2,B3,B4,B5⟩,hbad (by rfl)⟩,kh⟩
     | true=>
      refine ifF hf rfl ?_
      refine aj ?_
      replace hf:=hf.kp [2,3,4,5,12]
      refine seq <| rgN 28 hf <| st ((ldW T76 rfl B5 rfl).eq ((rfl:_=ae one))) <| st (mv rfl) <| st (ap (A:=E (B true)) (B:=E (ae one)) (C:=E (I (x:Nat))) ce rfl rfl (fun v u w he h h'=>fH w v u h h')) <| st (mv rfl) <| sy rfl rfl (fA U79 rfl T77 rfl) <| sy rfl rfl (ld1 (v:=.map (some bm0)) T77 rfl B4 (bN _ _)) <| sy rfl rfl (mv rfl) <| sy rfl rfl ((lkM (l:=l) (i:=(x:Int)) U77 bZ (isE rfl hdv) rfl hwx).eq (congrArg ae hlk)) <| sy rfl rfl ((ldW T76 rfl B5 rfl).eq ((rfl:_=ae one))) <| sy rfl rfl (ap (A:=E (ae (nx &&& one))) (B:=E (ae nx)) (C:=E (ae one)) dZ rfl rfl (fun v u w he h h'=>fI w v u h h')) <| sy rfl rfl (aw (A:=E (B false)) (B:=E (ae (nx &&& one))) dN rfl (fun v w he h=>fE2 w v h)) <| sy rfl rfl (aZ rfl) <| st (pkT rfl rfl) <| st (mv rfl) <| sn rfl rfl rfl <| sn rfl rfl rfl <| sn rfl rfl rfl <| sn rfl rfl rfl <| sn rfl rfl rfl <| su rfl rfl <| su rfl rfl <| su rfl rfl <| su rfl rfl <| su rfl rfl <| su rfl rfl <| su rfl rfl <| sn rfl rfl rfl <| st (pkT rfl rfl) <| en fun a w e' hf=>?_
      obtain⟨hT,HM0⟩:=up2 e' hT HM0
      replace kh:=kh.tr (Kh.ext e')
      obtain⟨hdv,e,B2,B3,B4,B5⟩:=up6 e' hdv e B2 B3 B4 B5
      refine aa ?_
      replace hf:=hf.kp [2,3,4,5,12,95]
      refine ifT hf rfl ?_
      replace hf:=hf.kp [2,3]
      have kk:=B2.lt
      refine seq <| ac <| aO T35 hf rfl rfl rfl B2 Nat.zero_lt_one fun w hg hsz B2 hf=>?_
      replace e:=e.gr hg (by omega);replace hT:=hT.gr hg (by omega);replace HM0:=HM0.gr hg (fun h=>nm23.1 (Option.some.inj h));replace B3:=B3.gr hg (by omega);replace B4:=B4.gr hg (by omega);replace B5:=B5.gr hg (by omega);replace kh:=kh.tr (Kh.gr hg (fun hh=>by have:=hh.1;omega));clear hg
      refine aO T4 hf rfl rfl rfl B3 Nat.zero_lt_one fun w hg hsz B3 hf=>?_
      replace e:=e.gr hg (by omega);replace hT:=hT.gr hg (by omega);replace HM0:=HM0.gr hg (fun h=>nm23.2 (Option.some.inj h));replace B2:=B2.gr hg (by omega);replace B4:=B4.gr hg (by omega);replace B5:=B5.gr hg (by omega);replace kh:=kh.tr (Kh.gr hg (fun hh=>by have:=hh.1;omega));clear hg
      refine aa <| ak <| ⟨⟨rfl,⟨e,hT,HM0,B2,B3,B4,B5⟩,hbad (by rfl)⟩,kh⟩
    | true=>
     refine seq <| seq ?_
     refine rgG 20 Mix.mix hf <| st (fA U79 rfl T77 rfl) <| st (ld1 (v:=.map (some bm0)) T77 rfl B4 (bN _ _)) <| st (mv rfl) <| st ((lkM (l:=l) (i:=(x:Int)) U77 bZ (isE rfl hdv) rfl hwx).eq (congrArg ae hlk)) <| st ((ldW T76 rfl B5 rfl).eq ((rfl:_=ae one))) <| st (ap (A:=E (ae (nx &&& one))) (B:=E (ae nx)) (C:=E (ae one)) dZ rfl rfl (fun v u w he h h'=>fI w v u h h')) <| st (aw (A:=E (B true)) (B:=E (ae (nx &&& one))) dN rfl (fun v w he h=>fE2 w v h)) <| st (aZ rfl) <| st ((ldW T76 rfl B5 rfl).eq ((rfl:_=ae one))) <| st (mv rfl) <| st (ap (A:=E (B true)) (B:=E (ae one)) (C:=E (I (x:Nat))) ce rfl rfl (fun v u w he h h'=>fH w v u h h')) <| st (jn U4 rfl rfl) <| st (mv rfl) <| sn rfl rfl rfl <| sn rfl rfl rfl <| sn rfl rfl rfl <| sn rfl rfl rfl <| sn rfl rfl rfl <| sn rfl rfl rfl <| st (pkF rfl rfl) <| en fun a w e' hf=>?_
     obtain⟨hT,HM0⟩:=up2 e' hT HM0
     replace kh:=kh.tr (Kh.ext e')
     obtain⟨hdv,e,B2,B3,B4,B5⟩:=up6 e' hdv e B2 B3 B4 B5
     refine aa ?_
     replace hf:=hf.kp [2,3,4,5,12,67]
     refine ifF hf rfl ?_
     refine aj ?_
     replace hf:=hf.kp [2,3,4,5,12]
     refine seq <| rgN 28 hf <| st ((ldW T76 rfl B5 rfl).eq ((rfl:_=ae one))) <| st (mv rfl) <| st (ap (A:=E (B true)) (B:=E (ae one)) (C:=E (I (x:Nat))) ce rfl rfl (fun v u w he h h'=>fH w v u h h')) <| st (mv rfl) <| sy rfl rfl (fA U79 rfl T77 rfl) <| sy rfl rfl (ld1 (v:=.map (some bm0)) T77 rfl B4 (bN _ _)) <| sy rfl rfl (mv rfl) <| sy rfl rfl ((lkM (l:=l) (i:=(x:Int)) U77 bZ (isE rfl hdv) rfl hwx).eq (congrArg ae hlk)) <| sy rfl rfl ((ldW T76 rfl B5 rfl).eq ((rfl:_=ae one))) <| sy rfl rfl (ap (A:=E (ae (nx &&& one))) (B:=E (ae nx)) (C:=E (ae one)) dZ rfl rfl (fun v u w he h h'=>fI w v u h h')) <| sy rfl rfl (aw (A:=E (B true)) (B:=E (ae (nx &&& one))) dN rfl (fun v w he h=>fE2 w v h)) <| sy rfl rfl (aZ rfl) <| st (pkT rfl rfl) <| st (mv rfl) <| sy rfl rfl ((ldW T76 rfl B5 rfl).eq ((rfl:_=ae one))) <| sy rfl rfl (mv rfl) <| sy rfl rfl (ap (A:=E (B true)) (B:=E (ae one)) (C:=E (I (x:Nat))) ce rfl rfl (fun v u w he h h'=>fH w v u h h')) <| sy rfl rfl (aZ rfl) <| sy rfl rfl (mv rfl) <| sn rfl rfl rfl <| sn rfl rfl rfl <| sn rfl rfl rfl <| sn rfl rfl rfl <| sn rfl rfl rfl <| sn rfl rfl rfl <| sn rfl rfl rfl <| sy rfl rfl (pkF rfl rfl) <| st (pkF rfl rfl) <| en fun a w e' hf=>?_
     obtain⟨hT,HM0⟩:=up2 e' hT HM0
     replace kh:=kh.tr (Kh.ext e')
     obtain⟨hdv,e,B2,B3,B4,B5⟩:=up6 e' hdv e B2 B3 B4 B5
     refine aa ?_
     replace hf:=hf.kp [2,3,4,5,12,95]
     refine ifF hf rfl ?_
     refine aj ?_
     exact⟨⟨⟨e,hT,HM0,B2,B3,B4,B5⟩,hgood (by cases E3 <;> rfl)⟩,kh⟩
  ·intro a' w' hf' hJ hsz hDn
   simp only[Exit.inBlock,↓reduceIte,Exit.then]
   rw[hJ.2] at hrb
   replace hrb:rb=true:=hrb
   rw[hrb,if_pos rfl] at hrl
   have hD:Ds [w.heap.size] w':=(Ds.nil w').cons hDn (by simp)
   have hf:FrD 98 (bS [w.heap.size]) a' w' [(2,E (ptr b2)),(3,E (ptr b3)),(5,E (ptr b5))]:=hf'.keep [2,3,5]
   have hDW:∀d∈[w.heap.size],W.heap.size≤d:=fun d hd=>by rw[List.mem_singleton] at hd;omega
   obtain⟨e,hT,HM0,B2,B3,B4,B5⟩:=hJ.1
   have hb2:=hD.ne B2
   have hb3:=hD.ne B3
   generalize [w.heap.size]=D2 at *
   generalize w'=w at *
   obtain⟨N9,hN9⟩:=eqX w.heap.size
   have hN9s:N9≤w.heap.size:=Nat.le_of_eq hN9
   have hl9:b2<N9∧b3<N9:=by rw[hN9];exact⟨B2.lt,B3.lt⟩
   have hd9:∀d∈D2,d<N9:=fun d hd=>by rw[hN9];exact hD.lt hd
   refine seq <| rgN 2 hf <| st ((ldW T76 rfl B5 rfl).eq ((rfl:_=ae one))) <| st (aw (A:=OwA intE 3 N9 G0 (elL one)) (B:=E (ae one)) jB rfl (fun u w he k=>by cases k;exact (kr one w (hT.ext he)).mono fun en w' ⟨u,k1,k2,k3⟩=>⟨u,k1,k2,OwR.low k3 (Nat.le_trans hN9s he.size) fun b hb=>hb.elim⟩)) ?_
   refine en fun a w e' hf=>?_
   obtain⟨hT,e,B2,B3,B5,hD⟩:=up6 e' hT e B2 B3 B5 hD
   obtain⟨ev,HoE,hf⟩:=hf.opn 97 rfl
   replace HoE:OwR intE 3 N9 G0 w (elL one) ev:=HoE
   have hro:ev.oneCell'=true:=HoE.one
   replace hf:=hf.kp [2,3,97]
   refine aO T35 hf rfl rfl hro B2 Nat.zero_lt_one fun w hg hsz B2 hf=>?_
   obtain⟨e,B3⟩:=gr2 hg e B3
   replace hD:=hD.gr hg hb2;replace HoE:=HoE.grE hg (HoE.neLt hl9.1)
   refine aO T4 hf rfl rfl rfl B3 Nat.zero_lt_one fun w hg hsz B3 hf=>?_
   obtain⟨e,B2⟩:=gr2 hg e B2
   replace hD:=hD.gr hg hb3;replace HoE:=HoE.grE hg (HoE.neLt hl9.2)
   refine aa ?_
   replace B2:Blk w b2 #[ev] 35:=B2
   replace B3:Blk w b3 #[B true] 4:=B3
   refine ak <| tU rfl T35 T4 hf rfl rfl B2 B3 hD ⟨_,rfl,e.shut hDW,Tup.two ?_ (by rw[hrb];rfl)⟩
   rw[hrl]
   exact ((HoE.chE (ed D2 w) fun b hb hm=>by have h1:=(HoE.lt hb).1;have h2:=hd9 b hm;omega)).sl
  ·intro ex c a' w' hcd hf' hX hsz hDn
   obtain⟨rfl,hJ,hany⟩:=hX
   simp only[Exit.inBlock,↓reduceIte,Exit.then]
   rw[hany] at hrb
   replace hrb:rb=false:=hrb
   rw[hrb,if_neg (by decide)] at hrl
   subst hrl hrb
   have hD:Ds [w.heap.size] w':=(Ds.nil w').cons hDn (by simp)
   have hf:FrD 98 (bS [w.heap.size]) a' w' [(2,E (ptr b2)),(3,E (ptr b3))]:=hf'.keep [2,3]
   have hDW:∀d∈[w.heap.size],W.heap.size≤d:=fun d hd=>by rw[List.mem_singleton] at hd;omega
   exact tU rfl T35 T4 hf rfl rfl hJ.p2 hJ.p3 hD ⟨_,rfl,hJ.e.shut hDW,Tup.two Dv.nil rfl⟩
def lkI (l:List (Int×Int))(i:Int):Int:=((l.find? fun p=>decide (p.1=i)).map (·.2)).getD 0
theorem gk (l:List (Int×Int))(x:Int)(c:Int)(i:Int):lkI (aV l x c) i=if i=x then c else lkI l i:=by
 rw[lkI,aV,List.find?_cons]
 by_cases h:x=i
 ·subst h;simp
 ·have h1:decide ((x,c).1=i)=false:=by simp[h]
  rw[h1,if_neg (Ne.symm h),lkI]
  congr 2
  induction l with
  | nil=>rfl
  | cons p l ih=>
   rw[List.filter_cons]
   by_cases hp:p.1=x
   ·have h2:decide (p.1=i)=false:=by rw[hp];simp[h]
    rw[if_neg (by simp[hp]),List.find?_cons,h2];exact ih
   ·rw[if_pos (by simp[hp]),List.find?_cons,List.find?_cons]
    cases decide (p.1=i) <;> simp[ih]
theorem tV {l:List (Int×Int)}{i:Int}(h:lkI l i≠0):(i,lkI l i)∈l:=by
 rw[lkI] at h ⊢
 cases hf:l.find? (fun p=>decide (p.1=i)) with
 | none=>rw[hf] at h;exact absurd rfl h
 | some p=>
  have h1:p.1=i:=by simpa using List.find?_some hf
  have h2:=List.mem_of_find?_eq_some hf
  show (i,p.2)∈l
  rw[← h1];exact h2
theorem tW {l:List (Int×Int)}{lo hi:Int}(h:∀p∈l,lo≤p.2∧p.2≤hi)(h0:lo≤0)(h1:0≤hi)(i:Int):lo≤lkI l i∧lkI l i≤hi:=by
 by_cases hz:lkI l i=0
 ·rw[hz];exact⟨h0,h1⟩
 ·exact h _ (tV hz)
theorem a2U {l:List (Int×Int)}(h:∀p∈l,0<p.2){i c:Int}(hm:(i,c)∈l):0<lkI l i:=by
 rw[lkI]
 cases hf:l.find? (fun p=>decide (p.1=i)) with
 | none=>have:=List.find?_eq_none.1 hf _ hm;simp at this
 | some p=>exact h p (List.mem_of_find?_eq_some hf)
theorem jc {α β:Type}[DecidableEq α]{l:List (α×β)}{x:α}{c:β}{p:α×β}(h:p∈aV l x c):p=(x,c)∨p∈l:=by
 rcases List.mem_cons.1 h with h|h
 ·exact .inl h
 ·exact .inr (List.mem_filter.1 h).1
theorem tX {α β:Type}[DecidableEq α]{l:List (α×β)}(x:α)(c:β)(h:l.Pairwise fun p q=>p.1≠q.1):(aV l x c).Pairwise fun p q=>p.1≠q.1:=by
 refine List.pairwise_cons.2 ⟨fun q hq=>?_,h.filter _⟩
 have:=(List.mem_filter.1 hq).2
 simp only[Bool.not_eq_true',decide_eq_false_iff_not] at this
 exact fun e=>this e.symm
theorem a2V {α β:Type}[DecidableEq α]{l:List (α×β)}{x:α}(c:β)(h:∀d,(x,d) ∉ l):(aV l x c).length=l.length+1:=by
 rw[(tj (c:=c) h).length_eq,List.length_append];rfl
structure BcS where
 la:List (Int×Int)
 ll:List (Int×Int)
 way:List Nat
 out:List (List Int)
def bcP (id:Nat)(s:BcS):BcS:={ s with la:=aV s.la (id:Int) ((s.la.length:Nat)+1:Int),ll:=aV s.ll (id:Int) (lkI (aV s.la (id:Int) ((s.la.length:Nat)+1:Int)) (id:Int)),way:=s.way++[id] }
def bcL (id next:Nat)(s:BcS):BcS:={ s with ll:=aV s.ll (id:Int) (min (lkI s.ll (id:Int)) (lkI s.la (next:Int))) }
def bcM (id next:Nat)(s:BcS):BcS:={ s with ll:=aV s.ll (id:Int) (min (lkI s.ll (id:Int)) (lkI s.ll (next:Int))) }
def bcC (id behind:Nat)(s:BcS):BcS:={ s with out:=s.out++[elL ((ah (s.way.drop behind++[id])).foldl ins 0)],way:=s.way.take behind }
def bcT (R:Nat→Int→BcS→BcS)(id:Nat)(frm:Int)(s:BcS)(next:Nat):BcS:=
 if (next:Int)=frm then s
 else if 0<lkI s.la (next:Int) then bcL id next s
 else if lkI (bcM id next (R next (id:Int) s)).la (id:Int)≤lkI (bcM id next (R next (id:Int) s)).ll (next:Int) then bcC id s.way.length (bcM id next (R next (id:Int) s)) else bcM id next (R next (id:Int) s)
def bcF (nb:Int→BS):Nat→Nat→Int→BcS→BcS
 | 0,_,_,s=>s
 | f+1,id,frm,s=>(ai (nb (id:Int))).foldl (bcT (bcF nb f) id frm) (bcP id s)
structure BcI (V:BS)(c:Nat)(s:BcS):Prop where
 ka:∀p∈s.la,∃n:Nat,p.1=(n:Int)∧V.getLsbD n=true
 va:∀p∈s.la,1≤p.2∧p.2≤1025
 na:s.la.Pairwise fun p q=>p.1≠q.1
 kl:∀p∈s.ll,∃n:Nat,p.1=(n:Int)∧V.getLsbD n=true
 vl:∀p∈s.ll,0≤p.2∧p.2≤1025
 nl:s.ll.Pairwise fun p q=>p.1≠q.1
 w:s.way.length≤s.la.length
 wm:∀x∈s.way,x<1024
 o:s.out.length≤s.la.length+c
theorem nK {V:BS}{l:List (Int×Int)}(hk:∀p∈l,∃n:Nat,p.1=(n:Int)∧V.getLsbD n=true)(hn:l.Pairwise fun p q=>p.1≠q.1):l.length≤card V:=by
 have:=eo (l.map (·.1)) (ah (ai V)) (List.pairwise_map.2 hn) fun x hx=>by
  obtain⟨p,hp,rfl⟩:=List.mem_map.1 hx
  obtain⟨n,h1,h2⟩:=hk p hp
  rw[h1]
  exact List.mem_map.2 ⟨n,aD.2 ⟨aA h2,h2⟩,rfl⟩
 rw[List.length_map,bB,cJ] at this
 exact this
section
variable {V:BS}{c:Nat}{s:BcS}
theorem BcI.al (h:BcI V c s):s.la.length≤1024:=Nat.le_trans (nK h.ka h.na) (em V)
theorem BcI.ll' (h:BcI V c s):s.ll.length≤1024:=Nat.le_trans (nK h.kl h.nl) (em V)
theorem BcI.ar (h:BcI V c s)(i:Int):0≤lkI s.la i∧lkI s.la i≤1025:=tW (fun p hp=>⟨by have:=h.va p hp;omega,(h.va p hp).2⟩) (by omega) (by omega) i
theorem BcI.lr (h:BcI V c s)(i:Int):0≤lkI s.ll i∧lkI s.ll i≤1025:=tW h.vl (by omega) (by omega) i
theorem BcI.new (h:BcI V c s){id:Int}(hi:lkI s.la id≤0):∀d,(id,d) ∉ s.la:=fun d hd=>by
 have:=a2U (fun p hp=>by have:=h.va p hp;omega) hd
 omega
theorem BcI.setL (h:BcI V c s){id:Nat}(hid:V.getLsbD id=true){v:Int}(hv:0≤v∧v≤1025):BcI V c { s with ll:=aV s.ll (id:Int) v }:=
 ⟨h.ka,h.va,h.na,fun p hp=>by
  rcases jc hp with rfl|hp
  ·exact⟨id,rfl,hid⟩
  ·exact h.kl p hp,fun p hp=>by
  rcases jc hp with rfl|hp
  ·exact hv
  ·exact h.vl p hp,tX _ _ h.nl,h.w,h.wm,h.o⟩
theorem BcI.push (h:BcI V c s){id:Nat}(hid:V.getLsbD id=true)(hi:lkI s.la (id:Int)≤0):BcI V c (bcP id s)∧(bcP id s).la.length=s.la.length+1:=by
 have hlen:=a2V ((s.la.length:Nat)+1:Int) (h.new hi)
 have hal:=h.al
 have h1:BcI V c { s with la:=aV s.la (id:Int) ((s.la.length:Nat)+1:Int),way:=s.way++[id] }:=
  ⟨fun p hp=>by
   rcases jc hp with rfl|hp
   ·exact⟨id,rfl,hid⟩
   ·exact h.ka p hp,fun p hp=>by
   rcases jc hp with rfl|hp
   ·dsimp only;omega
   ·exact h.va p hp,tX _ _ h.na,h.kl,h.vl,h.nl,by
    show (s.way++[id]).length≤(aV s.la (id:Int) ((s.la.length:Nat)+1:Int)).length
    rw[hlen,List.length_append,List.length_singleton];have:=h.w;omega,fun x hx=>by
   rcases List.mem_append.1 hx with hx|hx
   ·exact h.wm x hx
   ·rw[List.mem_singleton.1 hx];exact aA hid,by
    show s.out.length≤(aV s.la (id:Int) ((s.la.length:Nat)+1:Int)).length+c
    rw[hlen];have:=h.o;omega⟩
 exact⟨h1.setL hid (h1.ar (id:Int)),hlen⟩
def unv (V:BS)(la:List (Int×Int)):Nat:=((ai V).filter fun v:Nat=>decide (lkI la (v:Int)≤0)).length
theorem kM {V:BS}{la la':List (Int×Int)}(h:∀i,0<lkI la i→0<lkI la' i):unv V la'≤unv V la:=by
 rw[unv,unv,← List.countP_eq_length_filter,← List.countP_eq_length_filter]
 refine List.countP_mono_left fun v _ hv=>?_
 have h1:=of_decide_eq_true hv
 refine decide_eq_true <| Classical.byContradiction fun hn=>?_
 have:=h (v:Int) (by omega)
 omega
theorem a2W {V:BS}{la la':List (Int×Int)}{id:Nat}(hid:V.getLsbD id=true)(h0:lkI la (id:Int)≤0)(h1:0<lkI la' (id:Int))(h:∀i,0<lkI la i→0<lkI la' i):unv V la'<unv V la:=by
 rw[unv,unv]
 have hm:id∈ai V:=aD.2 ⟨aA hid,hid⟩
 generalize ai V=l at hm
 have hle:∀l:List Nat,(l.filter fun v:Nat=>decide (lkI la' (v:Int)≤0)).length≤(l.filter fun v:Nat=>decide (lkI la (v:Int)≤0)).length:=fun l=>by
  rw[← List.countP_eq_length_filter,← List.countP_eq_length_filter]
  refine List.countP_mono_left fun v _ hv=>decide_eq_true ?_
  have h2:=of_decide_eq_true hv
  refine Classical.byContradiction fun hn=>?_
  have:=h (v:Int) (by omega)
  omega
 induction l with
 | nil=>cases hm
 | cons x l ih=>
  rw[List.filter_cons,List.filter_cons]
  rcases List.mem_cons.1 hm with rfl|hm
  ·rw[if_neg (by simp;omega),if_pos (by simp;omega),List.length_cons]
   have:=hle l
   omega
  ·have:=ih hm
   by_cases hx:lkI la' (x:Int)≤0
   ·have hx2:lkI la (x:Int)≤0:=Classical.byContradiction fun hn=>by
     have:=h (x:Int) (by omega);omega
    rw[if_pos (decide_eq_true hx),if_pos (decide_eq_true hx2),List.length_cons,List.length_cons]
    omega
   ·rw[if_neg (by simpa using hx)]
    split
    ·rw[List.length_cons];omega
    ·exact this
structure BcQ (V:BS)(c:Nat)(s1 s:BcS):Prop where
 i:BcI V c s
 m:∀i,0<lkI s1.la i→0<lkI s.la i
 w:∃t,s.way=s1.way++t
 d:s.out.length+s1.la.length≤s1.out.length+s.la.length
theorem BcQ.rfl' (h:BcI V c s):BcQ V c s s:=⟨h,fun _ h=>h,⟨[],(List.append_nil _).symm⟩,Nat.le_refl _⟩
structure BcR (V:BS)(c:Nat)(id:Nat)(s s':BcS):Prop where
 i:BcI V c s'
 m:∀i,0<lkI s.la i→0<lkI s'.la i
 w:∃t,s'.way=s.way++id::t
 d:s'.out.length+s.la.length+1≤s.out.length+s'.la.length
theorem a2X (id next:Nat)(s:BcS):(bcM id next s).la=s.la:=rfl
theorem a2Y (id next:Nat)(s:BcS):(bcM id next s).way=s.way:=rfl
theorem a2Z (id next:Nat)(s:BcS):(bcM id next s).out=s.out:=rfl
theorem BcI.setM (h:BcI V c s){id:Nat}(hid:V.getLsbD id=true)(next:Nat):BcI V c (bcM id next s):=
 h.setL hid (by have h1:=h.lr (id:Int);have h2:=h.lr (next:Int);omega)
theorem BcI.setL2 (h:BcI V c s){id:Nat}(hid:V.getLsbD id=true)(next:Nat):BcI V c (bcL id next s):=
 h.setL hid (by have h1:=h.lr (id:Int);have h2:=h.ar (next:Int);omega)
theorem nL {s1:BcS}{R:Nat→Int→BcS→BcS}{id next:Nat}{frm:Int}(hid:V.getLsbD id=true)(h:BcQ V c s1 s)(hR:lkI s.la (next:Int)≤0→BcR V c next s (R next (id:Int) s)):BcQ V c s1 (bcT R id frm s next):=by
 rw[bcT]
 split
 ·exact h
 split
 ·exact⟨h.i.setL2 hid next,h.m,h.w,h.d⟩
 ·rename_i _ hn
  have r:=hR (by omega)
  obtain⟨t1,ht1⟩:=h.w
  obtain⟨t2,ht2⟩:=r.w
  have hd1:=h.d
  have hd2:=r.d
  have ri:=r.i.setM hid next
  have rm:=r.m
  generalize R next (id:Int) s=s2 at *
  split
  ·refine⟨⟨ri.ka,ri.va,ri.na,ri.kl,ri.vl,ri.nl,?_,fun x hx=>ri.wm x (List.mem_of_mem_take hx),?_⟩,fun i hi=>rm i (h.m i hi),⟨t1,?_⟩,?_⟩
   ·refine Nat.le_trans (List.length_take_le' _ _) ri.w
   ·show (s2.out++[_]).length≤s2.la.length+c
    rw[List.length_append,List.length_singleton]
    have:=h.i.o
    omega
   ·show s2.way.take s.way.length=s1.way++t1
    rw[ht2,List.take_append_of_le_length (Nat.le_refl _),List.take_length,ht1]
   ·show (s2.out++[_]).length+s1.la.length≤s1.out.length+s2.la.length
    rw[List.length_append,List.length_singleton]
    omega
  ·exact⟨ri,fun i hi=>rm i (h.m i hi),⟨t1++next::t2,by rw[a2Y,ht2,ht1,List.append_assoc]⟩,by rw[a2Z,a2X];omega⟩
theorem nM {id:Nat}(h:BcI V c s)(hid:V.getLsbD id=true)(hi:lkI s.la (id:Int)≤0):(∀i,0<lkI s.la i→0<lkI (bcP id s).la i)∧0<lkI (bcP id s).la (id:Int)∧unv V (bcP id s).la<unv V s.la:=by
 have h1:∀i,lkI (bcP id s).la i=if i=(id:Int) then ((s.la.length:Nat)+1:Int) else lkI s.la i:=fun i=>gk _ _ _ _
 have h2:0<lkI (bcP id s).la (id:Int):=by rw[h1,if_pos rfl];omega
 have h3:∀i,0<lkI s.la i→0<lkI (bcP id s).la i:=fun i hh=>by rw[h1];split <;> omega
 exact⟨h3,h2,a2W hid hi h2 h3⟩
theorem kN {nb:Int→BS}(hV:∀i j:Nat,(nb (i:Int)).getLsbD j=true→V.getLsbD j=true):∀(f:Nat) (id:Nat) (frm:Int) (s:BcS),BcI V c s→V.getLsbD id=true→lkI s.la (id:Int)≤0→unv V s.la≤f→BcR V c id s (bcF nb f id frm s):=by
 intro f
 induction f with
 | zero=>
  intro id frm s h hid hi hu
  exfalso
  have hm:id∈(ai V).filter fun v:Nat=>decide (lkI s.la (v:Int)≤0):=List.mem_filter.2 ⟨aD.2 ⟨aA hid,hid⟩,decide_eq_true hi⟩
  have:=List.length_pos_of_mem hm
  rw[unv] at hu
  omega
 | succ f ih=>
  intro id frm s h hid hi hu
  obtain⟨p1,p2⟩:=h.push hid hi
  obtain⟨q1,q2,q3⟩:=nM h hid hi
  have key:∀(l:List Nat),(∀x∈l,V.getLsbD x=true)→∀s',BcQ V c (bcP id s) s'→BcQ V c (bcP id s) (l.foldl (bcT (bcF nb f) id frm) s'):=by
   intro l
   induction l with
   | nil=>intro _ s' h';exact h'
   | cons x l ihl=>
    intro hl s' h'
    exact ihl (fun y hy=>hl y (List.mem_cons_of_mem _ hy)) _ (nL hid h' fun hx=>ih x (id:Int) s' h'.i (hl x (List.mem_cons_self ..)) hx (by have:=kM (V:=V) h'.m;omega))
  have hq:=key (ai (nb (id:Int))) (fun x hx=>hV id x (aD.1 hx).2) _ (BcQ.rfl' p1)
  obtain⟨t,ht⟩:=hq.w
  have hqd:=hq.d
  rw[p2] at hqd
  have ho:(bcP id s).out=s.out:=rfl
  rw[ho] at hqd
  exact⟨hq.i,fun i hi=>hq.m i (q1 i hi),⟨t,by rw[bcF,ht];show s.way++[id]++t=_;rw[List.append_assoc];rfl⟩,by rw[bcF];omega⟩
end
noncomputable def iKV:KV Tryz.prog Int Int where
 k:=3
 e:=3
 kv:=fun x=>.int .i64 x
 kl:=fun x=>.int .i64 x
 ok:=fun x=>(Lit.int .i64 x).wf=true
 mv:=fun c=>.int .i64 c
 dv:=fun c=>.lit (.int .i64 c)
 okv:=fun c=>(Lit.int .i64 c).wf=true
 R:=plainElem Tryz.prog 3
 K:=Maps.int_keyed U3
 key:=fun x hx=>Maps.keyOf_int_mk U3 hx
 keyInv:=fun v l h=>by obtain⟨x,h1,h2,h3⟩:=Maps.keyOf_int_inv U3 h;exact⟨x,h3,h1,h2⟩
 kvInj:=fun x y h=>by cases h;rfl
 val:=fun c hc=>plainElem_int U3 hc
 valInv:=fun v y h=>by
  obtain⟨c,h1,h2,h3⟩:=plainElem_int_inv U3 h
  exact⟨c,h3,h1,h2⟩
 dvInj:=fun c c' h=>by cases h;rfl
theorem a3a {l:List (Int×Int)}{i:Int}(h:∀c,(i,c) ∉ l):lkI l i=0:=by
 have:l.find? (fun p=>decide (p.1=i))=none:=by
  rw[List.find?_eq_none]
  intro p hp hh
  have h3:p.1=i:=by simpa using hh
  exact h p.2 (by rw[← h3];exact hp)
 rw[lkI,this];rfl
section
variable {w0:World}{L:Env}{dst:Option Tmp}{ty:TypeId}{pos:String}{aft:Array Edge}{g:Option (Nat×Bool)}{x y:Operand}{t:TypeId}{l:List (Int×Int)}{b n:Nat}
theorem cU {i:Int}(ht:Tryz.prog.underlying t=some (.map iKV.k iKV.e))(hx:opd L x=some (E (.map (some b))))(hM:MpR iKV w0 b n l)(hy:opd L y=some (E (I i)))(hi:(Lit.int .i64 i).wf=true) :
  OpC Tryz.prog w0 L ⟨dst,.lookup t x y false,ty,pos,aft,g⟩ (E (I (lkI l i))):=
 aS fun ρ w he' hv=>by
  have h5:=opE hv (x:=x) (by simp[Op.operands]) hx
  have h6:=opE hv (x:=y) (by simp[Op.operands]) hy
  have h2:=hM.ext he'
  obtain⟨D,m1,m2,m3,m4,_⟩:=h2.has (x:=i) hi
  have hz0:(Lit.int .i64 0).wf=true:=by decide
  obtain⟨v,ps,r1,r2⟩:=m1.lookup iKV.K ht (ip I3 w) (iKV.val 0 hz0) (iKV.key i hi)
  obtain⟨c,_,rfl,hy2⟩:=iKV.valInv _ _ r2
  have hcc:c=lkI l i:=by
   have h8:=congrArg Prod.fst hy2
   simp only at h8
   by_cases hex:∃c',(i,c')∈l
   ·obtain⟨c',hc'⟩:=hex
    rw[m3 c' hc'] at h8
    have h9:lkI l i=c':=by
     obtain⟨_,_,_,_,hp⟩:=h2
     cases hf:l.find? (fun p=>decide (p.1=i)) with
     | none=>have:=List.find?_eq_none.1 hf _ hc';simp at this
     | some p=>
      have k1:=List.find?_some hf
      have k2:=List.mem_of_find?_eq_some hf
      have k3:p.1=i:=by simpa using k1
      have k4:p=(i,p.2):=by rw[← k3]
      rw[k4] at k2
      rw[lkI,hf]
      exact jQ hp k2 hc'
    rw[h9]
    exact (iKV.dvInj _ _ h8).symm
   ·have hno:∀c',(i,c') ∉ l:=fun c' h=>hex ⟨c',h⟩
    rw[m4 hno] at h8
    rw[a3a hno]
    exact (iKV.dvInj _ _ h8).symm
  rw[hcc] at r1
  have r1:(Instr.lookup t (.map (some b)) (I i) false).run Tryz.prog w=.ok (I (lkI l i)) w:=r1
  exact⟨_,by simp only[execOp,h5,h6,Sem.run_bind,r1,Result.andThen_ok,Sem.run_pure],rfl⟩
theorem a3b (ht:Tryz.prog.underlying t=some (.map iKV.k iKV.e))(hx:opd L x=some (E (.map (some b))))(hM:MpR iKV w0 b n l):OpC Tryz.prog w0 L ⟨dst,.call ⟨.builtin .len,#[x],#[t]⟩,ty,pos,aft,g⟩ (E (I (l.length:Nat))):=
 ql (V:=iKV) (N:=n) (G:=G0) ht (isE hx (MpR.dvE hM (Nat.le_refl n) fun h=>h))
end
theorem OwR.cut {te:TypeId}{N:Nat}{w:World}{xs:List Int}{v:Value}(h:OwR intE te N G0 w xs v){k:Nat}(hk:k≤xs.length)(h0:0<k):∃b c,v=.slice (some ⟨b,0,none⟩) xs.length c∧xs.length≤c∧OwR intE te N G0 w (xs.take k) (.slice (some ⟨b,0,none⟩) k c):=by
 rcases h.rw intFF with ⟨_,rfl⟩|⟨b,cap,cur,rfl,hc,HR,ht⟩
 ·rw[List.length_nil] at hk;omega
 ·refine⟨b,cap,rfl,hc,?_⟩
  have hl:(xs.take k).length=k:=by rw[List.length_take];omega
  have:=HR.own (xs:=xs.take k) (G:=G0) intFF (by omega) (by
   rw[hl]
   have h1:=congrArg (List.take (k * intE.k)) ht
   rw[jR intFF.len,List.take_take,Nat.min_eq_left (Nat.mul_le_mul_right _ hk)] at h1
   exact h1) fun b hb=>hb.elim
  rw[hl] at this
  exact this
def OWN (vw vo:Value)(b:Nat):Prop:=vw.ownBlock=some b∨vo.ownBlock=some b
def bcV (ba bl bw bg bd bo:Nat):Value:=.func (.func 61) #[] #[ptr ba,ptr bl,ptr bw,ptr bg,ptr bd,ptr bo]
structure BcD (bm ba bl bw bg bd bo ma ml N:Nat):Prop where
 n:0<N∧bm<N∧ba<N∧bl<N∧bw<N∧bg<N∧bd<N∧bo<N∧ma<N∧ml<N
 w:bw≠ba∧bw≠bl∧bw≠bg∧bw≠bd∧bw≠bo∧bw≠bm∧bw≠0
 o:bo≠ba∧bo≠bl∧bo≠bg∧bo≠bd∧bo≠bm∧bo≠0
 a:ma≠ba∧ma≠bl∧ma≠bw∧ma≠bg∧ma≠bd∧ma≠bo∧ma≠bm∧ma≠ml∧ma≠0
 l:ml≠ba∧ml≠bl∧ml≠bw∧ml≠bg∧ml≠bd∧ml≠bo∧ml≠bm∧ml≠0
structure BcW (l:List (Int×BS))(V:BS)(bm nm ba bl bw bg bd bo ma ml N:Nat)(G:Nat→Prop)(s:BcS)(vw vo:Value)(w:World):Prop where
 t:Tab w
 m:MpR sKV w bm nm l
 pa:Blk w ba #[.map (some ma)] 43
 pl:Blk w bl #[.map (some ml)] 43
 pw:Blk w bw #[vw] 35
 pg:Blk w bg (adC V (.map (some bm))) 79
 pd:Blk w bd #[bcV ba bl bw bg bd bo] 95
 po:Blk w bo #[vo] 39
 ma:MpR iKV w ma s.la.length s.la
 ml:MpR iKV w ml s.ll.length s.ll
 ow:OwR intE 3 N G0 w (ah s.way) vw
 oo:OwX (cu 3) 35 N (fun b=>G b∨vw.ownBlock=some b) w s.out vo
section
variable {l:List (Int×BS)}{V:BS}{bm nm ba bl bw bg bd bo ma ml N:Nat}{G G':Nat→Prop}{s:BcS}{vw vo:Value}{w w' w2:World}
theorem BcW.ownNe (h:BcW l V bm nm ba bl bw bg bd bo ma ml N G s vw vo w){b:Nat}(h1:vw.ownBlock=some b):vo.ownBlock≠some b:=fun h2=>by
 refine h.oo.neR h.ow ?_ h2 h1
 decide
theorem BcW.ch (h:BcW l V bm nm ba bl bw bg bd bo ma ml N G s vw vo w)(D:BcD bm ba bl bw bg bd bo ma ml N){S:Nat→Prop}(c:Chg S w w')(hN:∀b,S b→N≤b)(hO:∀b,OWN vw vo b→¬S b)(hG:∀b,S b→G b):BcW l V bm nm ba bl bw bg bd bo ma ml N G s vw vo w':=by
 have no:∀{b},b<N→¬S b:=fun hb hs=>Nat.lt_irrefl _ (Nat.lt_of_lt_of_le hb (hN _ hs))
 obtain⟨n0,n1,n2,n3,n4,n5,n6,n7,n8,n9⟩:=D.n
 exact⟨h.t.ch c (no n0),h.m.pres (c.block _ h.m.lt (no n1)),h.pa.ch c (no n2),h.pl.ch c (no n3),h.pw.ch c (no n4),h.pg.ch c (no n5),h.pd.ch c (no n6),h.po.ch c (no n7),h.ma.pres (c.block _ h.ma.lt (no n8)),h.ml.pres (c.block _ h.ml.lt (no n9)),
  h.ow.chE c fun b hb=>hO b (.inl hb),h.oo.ch c (fun b hb=>hO b (.inr hb)) fun b hb=>.inl (hG b hb)⟩
theorem BcW.ext (h:BcW l V bm nm ba bl bw bg bd bo ma ml N G s vw vo w)(e:Ext w w'):BcW l V bm nm ba bl bw bg bd bo ma ml N G s vw vo w':=
 ⟨h.t.ext e,h.m.ext e,h.pa.ext e,h.pl.ext e,h.pw.ext e,h.pg.ext e,h.pd.ext e,h.po.ext e,h.ma.ext e,h.ml.ext e,h.ow.ext e,h.oo.ext e⟩
instance:Ug w w' (BcW l V bm nm ba bl bw bg bd bo ma ml N G s vw vo w) (BcW l V bm nm ba bl bw bg bd bo ma ml N G s vw vo w'):=⟨fun e h=>h.ext e⟩
theorem BcW.weak (h:BcW l V bm nm ba bl bw bg bd bo ma ml N G s vw vo w)(hG:∀b,b<w.heap.size→G' b→G b):BcW l V bm nm ba bl bw bg bd bo ma ml N G' s vw vo w:=
 ⟨h.t,h.m,h.pa,h.pl,h.pw,h.pg,h.pd,h.po,h.ma,h.ml,h.ow,h.oo.weak fun b hb hh=>hh.imp (hG b hb) id⟩
theorem BcW.putA (h:BcW l V bm nm ba bl bw bg bd bo ma ml N G s vw vo w)(D:BcD bm ba bl bw bg bd bo ma ml N)(hg:w.grownBy w' (some ma)){k:Nat}{la:List (Int×Int)}(HM:MpR iKV w' ma k la)(hG:G ma):BcW l V bm nm ba bl bw bg bd bo ma ml N G { s with la:=la } vw vo w':=by
 obtain⟨n0,n1,n2,n3,n4,n5,n6,n7,n8,n9⟩:=D.n
 obtain⟨d1,d2,d3,d4,d5,d6,d7,d8,d9⟩:=D.a
 have c:Chg (fun b=>b=ma) w w':=(Chg.rfl' _ w).gr hg (.inl rfl)
 exact⟨h.t.ch c (fun e=>d9 e.symm),h.m.pres (c.block _ h.m.lt fun e=>d7 e.symm),h.pa.ch c (fun e=>d1 e.symm),h.pl.ch c (fun e=>d2 e.symm),h.pw.ch c (fun e=>d3 e.symm),h.pg.ch c (fun e=>d4 e.symm),h.pd.ch c (fun e=>d5 e.symm),h.po.ch c (fun e=>d6 e.symm),HM.tight,h.ml.pres (c.block _ h.ml.lt fun e=>d8 e.symm),
  h.ow.chE c fun b hb e=>by have:=(h.ow.lt hb).1;omega,h.oo.ch c (fun b hb e=>by have:=(h.oo.lt hb).1;omega) fun b hb=>.inl (by rw[hb];exact hG)⟩
theorem BcW.putL (h:BcW l V bm nm ba bl bw bg bd bo ma ml N G s vw vo w)(D:BcD bm ba bl bw bg bd bo ma ml N)(hg:w.grownBy w' (some ml)){k:Nat}{ll:List (Int×Int)}(HM:MpR iKV w' ml k ll)(hG:G ml):BcW l V bm nm ba bl bw bg bd bo ma ml N G { s with ll:=ll } vw vo w':=by
 obtain⟨n0,n1,n2,n3,n4,n5,n6,n7,n8,n9⟩:=D.n
 obtain⟨d1,d2,d3,d4,d5,d6,d7,d8⟩:=D.l
 have d9:=D.a.2.2.2.2.2.2.2.1
 have c:Chg (fun b=>b=ml) w w':=(Chg.rfl' _ w).gr hg (.inl rfl)
 exact⟨h.t.ch c (fun e=>d8 e.symm),h.m.pres (c.block _ h.m.lt fun e=>d7 e.symm),h.pa.ch c (fun e=>d1 e.symm),h.pl.ch c (fun e=>d2 e.symm),h.pw.ch c (fun e=>d3 e.symm),h.pg.ch c (fun e=>d4 e.symm),h.pd.ch c (fun e=>d5 e.symm),h.po.ch c (fun e=>d6 e.symm),h.ma.pres (c.block _ h.ma.lt fun e=>d9 e),HM.tight,
  h.ow.chE c fun b hb e=>by have:=(h.ow.lt hb).1;omega,h.oo.ch c (fun b hb e=>by have:=(h.oo.lt hb).1;omega) fun b hb=>.inl (by rw[hb];exact hG)⟩
theorem BcW.setW (h:BcW l V bm nm ba bl bw bg bd bo ma ml N G s vw vo w)(D:BcD bm ba bl bw bg bd bo ma ml N){vw':Value}{way:List Nat}(hg:w.grownBy w' vw.ownBlock)(hat:vw'.ownBlock=vw.ownBlock∨vw'.ownBlock=some w.heap.size)(Hn:OwR intE 3 N G0 w' (ah way) vw')
  (hg2:w'.grownBy w2 (some bw)) (B:Blk w2 bw #[vw'] 35) (hGw:G bw):BcW l V bm nm ba bl bw bg bd bo ma ml N G { s with way:=way } vw' vo w2:=by
 obtain⟨n0,n1,n2,n3,n4,n5,n6,n7,n8,n9⟩:=D.n
 obtain⟨d1,d2,d3,d4,d5,d6,d7⟩:=D.w
 have a3:=D.a.2.2.1
 have l3:=D.l.2.2.1
 have c1:Chg (fun b=>vw.ownBlock=some b) w w':=Chg.row hg
 have c2:Chg (fun b=>b=bw) w' w2:=(Chg.rfl' _ w').gr hg2 (.inl rfl)
 have lo:∀b,vw.ownBlock=some b→N≤b:=fun b hb=>(h.ow.lt hb).1
 have no:∀{b},b<N→¬vw.ownBlock=some b:=fun hb hs=>Nat.lt_irrefl _ (Nat.lt_of_lt_of_le hb (lo _ hs))
 have hoo:OwX (cu 3) 35 N (fun b=>G b∨vw'.ownBlock=some b) w' s.out vo:=
  (h.oo.weak (G':=fun b=>(G b∨vw.ownBlock=some b)∨vw'.ownBlock=some b) fun b hb hh=>hh.elim id fun hh=>by
   rcases hat with e|e
   ·exact .inr (by rw[← e];exact hh)
   ·rw[e] at hh;cases hh;omega).ch c1 (fun b hb hh=>h.ownNe hh hb) (fun b hb=>.inl (.inr hb)) |>.weak fun b _ hh=>hh.elim (fun hh=>.inl (.inl hh)) .inr
 exact⟨(h.t.ch c1 (no n0)).ch c2 (fun e=>d7 e.symm),(h.m.pres (c1.block _ h.m.lt (no n1))).pres (c2.block _ (Nat.lt_of_lt_of_le h.m.lt c1.size) fun e=>d6 e.symm),(h.pa.ch c1 (no n2)).ch c2 (fun e=>d1 e.symm),(h.pl.ch c1 (no n3)).ch c2 (fun e=>d2 e.symm),B,(h.pg.ch c1 (no n5)).ch c2 (fun e=>d3 e.symm),(h.pd.ch c1 (no n6)).ch c2 (fun e=>d4 e.symm),(h.po.ch c1 (no n7)).ch c2 (fun e=>d5 e.symm),
  (h.ma.pres (c1.block _ h.ma.lt (no n8))).pres (c2.block _ (Nat.lt_of_lt_of_le h.ma.lt c1.size) a3),(h.ml.pres (c1.block _ h.ml.lt (no n9))).pres (c2.block _ (Nat.lt_of_lt_of_le h.ml.lt c1.size) l3),
  Hn.chE c2 fun b hb e=>by have:=(Hn.lt hb).1;omega,hoo.ch c2 (fun b hb e=>by have:=(hoo.lt hb).1;omega) fun b hb=>.inl (by rw[hb];exact hGw)⟩
theorem BcW.setO (h:BcW l V bm nm ba bl bw bg bd bo ma ml N G s vw vo w)(D:BcD bm ba bl bw bg bd bo ma ml N){vo':Value}{out:List (List Int)}(hg:w.grownBy w' vo.ownBlock)(Hn:OwX (cu 3) 35 N (fun b=>G b∨vw.ownBlock=some b) w' out vo')
  (hg2:w'.grownBy w2 (some bo)) (B:Blk w2 bo #[vo'] 39) (hGo:G bo):BcW l V bm nm ba bl bw bg bd bo ma ml N G { s with out:=out } vw vo' w2:=by
 obtain⟨n0,n1,n2,n3,n4,n5,n6,n7,n8,n9⟩:=D.n
 obtain⟨d1,d2,d3,d4,d5,d6⟩:=D.o
 have d7:=D.w.2.2.2.2.1
 have a6:=D.a.2.2.2.2.2.1
 have l6:=D.l.2.2.2.2.2.1
 have c1:Chg (fun b=>vo.ownBlock=some b) w w':=Chg.row hg
 have c2:Chg (fun b=>b=bo) w' w2:=(Chg.rfl' _ w').gr hg2 (.inl rfl)
 have lo:∀b,vo.ownBlock=some b→N≤b:=fun b hb=>(h.oo.lt hb).1
 have no:∀{b},b<N→¬vo.ownBlock=some b:=fun hb hs=>Nat.lt_irrefl _ (Nat.lt_of_lt_of_le hb (lo _ hs))
 have how:=(h.ow.chE c1 fun b hb hh=>h.ownNe hb hh)
 exact⟨(h.t.ch c1 (no n0)).ch c2 (fun e=>d6 e.symm),(h.m.pres (c1.block _ h.m.lt (no n1))).pres (c2.block _ (Nat.lt_of_lt_of_le h.m.lt c1.size) fun e=>d5 e.symm),(h.pa.ch c1 (no n2)).ch c2 (fun e=>d1 e.symm),(h.pl.ch c1 (no n3)).ch c2 (fun e=>d2 e.symm),(h.pw.ch c1 (no n4)).ch c2 (fun e=>d7 e),(h.pg.ch c1 (no n5)).ch c2 (fun e=>d3 e.symm),(h.pd.ch c1 (no n6)).ch c2 (fun e=>d4 e.symm),B,
  (h.ma.pres (c1.block _ h.ma.lt (no n8))).pres (c2.block _ (Nat.lt_of_lt_of_le h.ma.lt c1.size) a6),(h.ml.pres (c1.block _ h.ml.lt (no n9))).pres (c2.block _ (Nat.lt_of_lt_of_le h.ml.lt c1.size) l6),
  how.chE c2 fun b hb e=>by have:=(how.lt hb).1;omega,Hn.ch c2 (fun b hb e=>by have:=(Hn.lt hb).1;omega) fun b hb=>.inl (by rw[hb];exact hGo)⟩
end
theorem a3c {H:Type}{P:Program}{e:TypeId}(he:P.underlying e=some .bool){v:Value}{z:DataW H×List MemPlace}(h:plainElem P e v=some z):∃c,v=.bool c∧z=(.lit (.bool c),[]):=by
 unfold plainElem at h
 rw[he] at h
 cases v <;> simp at h
 rename_i c
 exact⟨c,rfl,h.symm⟩
noncomputable def bKV:KV Tryz.prog Int Bool where
 k:=3
 e:=4
 kv:=fun x=>.int .i64 x
 kl:=fun x=>.int .i64 x
 ok:=fun x=>(Lit.int .i64 x).wf=true
 mv:=fun c=>.bool c
 dv:=fun c=>.lit (.bool c)
 okv:=fun _=>True
 R:=plainElem Tryz.prog 4
 K:=Maps.int_keyed U3
 key:=fun x hx=>Maps.keyOf_int_mk U3 hx
 keyInv:=fun v l h=>by obtain⟨x,h1,h2,h3⟩:=Maps.keyOf_int_inv U3 h;exact⟨x,h3,h1,h2⟩
 kvInj:=fun x y h=>by cases h;rfl
 val:=fun c hc=>plainElem_bool U4 c
 valInv:=fun v y h=>by
  obtain⟨c,h1,h2⟩:=a3c U4 h
  exact⟨c,trivial,h1,h2⟩
 dvInj:=fun c c' h=>by cases h;rfl
section
variable {w0:World}{L:Env}{dst:Option Tmp}{ty:TypeId}{pos:String}{aft:Array Edge}{g:Option (Nat×Bool)}{x y:Operand}{t:TypeId}{β:Type}{l:List (Int×β)}{b n:Nat}
end
def SeR (w:World)(b:Nat)(S:BS):Prop:=∃l:List (Int×Bool),MpR bKV w b l.length l∧(∀p∈l,p.2=true∧∃n:Nat,p.1=(n:Int)∧S.getLsbD n=true)∧∀n:Nat,S.getLsbD n=true→((n:Int),true)∈l
section
variable {w w':World}{b:Nat}{S:BS}
theorem SeR.lt (h:SeR w b S):b<w.heap.size:=by obtain⟨l,h,_⟩:=h;exact h.lt
theorem SeR.ext (h:SeR w b S)(e':Ext w w'):SeR w' b S:=by obtain⟨l,h1,h2⟩:=h;exact⟨l,h1.ext e',h2⟩
instance:Ug w w' (SeR w b S) (SeR w' b S):=⟨fun e h=>h.ext e⟩
theorem SeR.gr (h:SeR w b S){c:Option Nat}(hg:w.grownBy w' c)(hne:some b≠c):SeR w' b S:=by obtain⟨l,h1,h2⟩:=h;exact⟨l,h1.gr hg hne,h2⟩
theorem SeR.put {l:List (Int×Bool)}{m n:Nat}(hn:n<1024)(h:MpR bKV w b m (aV l (n:Int) true))(h2:∀p∈l,p.2=true∧∃n:Nat,p.1=(n:Int)∧S.getLsbD n=true)(h3:∀n:Nat,S.getLsbD n=true→((n:Int),true)∈l):SeR w b (ins S (n:Int)):=by
 refine⟨_,h.tight0,fun p hp=>?_,fun k hk=>?_⟩
 ·rcases jc hp with rfl|hp
  ·exact⟨rfl,n,rfl,(bE _ hn).2 (.inr rfl)⟩
  ·obtain⟨q1,k,q2,q3⟩:=h2 p hp
   exact⟨q1,k,q2,(bE _ hn).2 (.inl q3)⟩
 ·by_cases hkn:k=n
  ·rw[hkn];exact List.mem_cons_self ..
  ·have:=((bE _ hn).1 hk).resolve_right hkn
   refine List.mem_cons_of_mem _ (List.mem_filter.2 ⟨h3 k this,?_⟩)
   simp only[Bool.not_eq_true',decide_eq_false_iff_not]
   omega
end
theorem kO {g:GT}(ok:Gr.Ok g){k:Nat}{x:VT}(h:g.1[k]?=some x):∃n:Nat,x.1=(n:Int)∧(vset g.1).getLsbD n=true∧(ai (vset g.1))[k]?=some n:=by
 obtain⟨n,h4,h5⟩:=(nc ok).1 (List.mem_map.2 ⟨x,List.mem_of_getElem? h,rfl⟩)
 refine⟨n,h4,h5,?_⟩
 have h1:(ah (ai (vset g.1)))[k]?=some (n:Int):=by rw[sN ok,dB,List.getElem?_map,h,Option.map_some,h4]
 rw[ah,List.getElem?_map] at h1
 cases he:(ai (vset g.1))[k]? with
 | none=>rw[he] at h1;cases h1
 | some m=>
  rw[he] at h1
  have h6:(m:Int)=(n:Int):=Option.some.inj h1
  rw[show m=n by omega]
theorem fC {g:GT}(ok:Gr.Ok g):(ai (vset g.1)).length=g.1.length:=by rw[cJ,ng ok]
theorem a3d {G:Nat→Prop}(xs:List Int)(n:Int)(v:Value)(W:World)(h:(Dv (slE intE) G xs).p v W)(hl:xs.length≤100000) :
  Calls Tryz.prog 77 #[v,I n] W (Post (E (B (decide (n∈xs)))) W):=by
 refine eN [v,I n] [Dv (slE intE) G0 xs,E (I n)] Tryz.func77 Tryz.ntmps77 ?_ fun a hf=>?_
 rotate_left
 rotate_right
 ·exact arg2 (Dv.weak h fun b _ hb=>hb.elim) rfl
 have e:=Ext.rfl' W
 refine seq <| ac <| tA hf rfl fun a hf=>aa ?_
 refine seq <| seq ?_
 refine ac <| tA hf rfl fun a hf=>aa ?_
 replace hf:=hf.keep [0,1,5]
 refine blk (aK (fun r0 a w=>∃(k:Nat) ,r0=xs.length - k∧k≤xs.length∧Fr 18 a w [(0,Dv (slE intE) G0 xs),(1,E (I n)),(5,E (I k))]∧Ext W w∧(∀y∈xs.take k,y≠n)) xs.length ⟨0,rfl,by omega,hf,e,(by simp)⟩ ?_)
 rintro r0 a w ⟨k,rfl,hk,hf,e,hn⟩
 refine seq <| seq ?_
 refine rgN 4 hf <| st (mv rfl) <| st (mv rfl) <| st (aI U35 (isR rfl)) <| st (lss rfl rfl) <| en fun a w e' hf=>?_
 replace e:=e.tr e'
 refine aa <| ifc hf rfl (fun hc=>aj ?_) (fun hc=>aH ?_)
 rotate_left
 rotate_left
 ·have hlt:=ltC hc
  replace hf:=hf.keep [0,1,5]
  refine seq <| blk ?_
  have hx:=cF hlt
  refine seq <| rgN 6 hf <| st (mv rfl) <| st (mv rfl) <| st (aG U35 S3 (isR rfl) rfl (by omega) (hx)) <| st (ldI T3 (isR rfl)) <| st (mv rfl) <| st (eql rfl rfl) <| en fun a w e' hf=>?_
  replace e:=e.tr e'
  refine aa <| ifc hf rfl (fun hb=>?_) (fun hb=>?_)
  ·have hm:n∈xs:=by
    have:gi xs k=n:=by simpa using hb
    rw[← this];exact List.mem_of_getElem? hx
   refine seq <| ac <| tA hf rfl fun a hf=>aa <| ak <| an rfl hf rfl ?_
   rintro _ rfl
   exact⟨_,rfl,e,congrArg B (decide_eq_true hm).symm⟩
  ·refine aj <| rgN 2 hf <| st (mv rfl) <| st ((add rfl rfl (by omega)).eq (iN k)) <| en fun a w e' hf=>?_
   replace e:=e.tr e'
   refine tA hf rfl fun a hf=>aa ?_
   replace hf:=hf.keep [0,1,5]
   refine⟨_,?_,k+1,rfl,by omega,hf,e,?_⟩
   ·omega
   intro y hy
   rw[bA hx] at hy
   rcases List.mem_append.1 hy with hy|hy
   ·exact hn y hy
   ·rw[List.mem_singleton.1 hy];simpa using hb
 ·obtain rfl:=dnE hc hk
  have hm:¬n∈xs:=fun hm=>hn n (by rw[List.take_length];exact hm) rfl
  refine seq <| ac <| tA hf rfl fun a hf=>aa <| ak <| an rfl hf rfl ?_
  rintro _ rfl
  exact⟨_,rfl,e,congrArg B (decide_eq_false hm).symm⟩
theorem a3e {G:Nat→Prop}(g:GT)(ok:Gr.Ok g)(p q:Nat)(v:Value)(W:World)(h:(Dv gtE G g).p v W)(hl2:g.2.length≤100000) :
  Calls Tryz.prog 119 #[v,I (p:Nat),I (q:Nat)] W (Post (E (B ((nbA g (p:Int)).getLsbD q))) W):=by
 have hg0:(Dv gtE G0 g).p v W:=Dv.weak h fun b _ hb=>hb.elim
 obtain⟨u1,u2,rfl,h1,h2⟩:=Dv.gt.1 (Dv.weak (G':=G0) h fun b _ hb=>hb.elim)
 have hfh:decide (cr g.2 (p:Int) (q:Int) ≥ 0)=(nbA g (p:Int)).getLsbD q:=by
  have h1:=mU ok p q
  have h2:=cQ ok (i:=p) (j:=q)
  cases hh:(nbA g (p:Int)).getLsbD q with
  | true=>exact decide_eq_true (h1.2 (h2.1 hh))
  | false=>exact decide_eq_false fun h=>by rw[h2.2 (h1.1 h)] at hh;cases hh
 refine eN [.agg #[u1,u2],I (p:Nat),I (q:Nat)] [E (.agg #[u1,u2]),E (I (p:Nat)),E (I (q:Nat))] Tryz.func119 Tryz.ntmps119 ?_ fun a hf=>?_
 rotate_left
 rotate_right
 ·exact eI rfl rfl rfl
 have e:=Ext.rfl' W
 refine seq <| ac <| tB hf rfl fun a b3 w v3 hv3 e' hb3 hs3 B3 hf=>?_
 replace e:=e.tr e'
 refine tA hf rfl fun a hf=>aa ?_
 cases hv3
 replace hf:=hf.keep [1,2,3]
 have e1:=e
 refine seq <| rgN 5 hf <| st ((ldW T25 rfl B3 rfl).eq ((rfl:_=Value.agg #[u1,u2]))) <| st (mv rfl) <| st (mv rfl) <| st (cE (A:=E (I (cr g.2 (p:Int) (q:Int)))) iz rfl rfl rfl (fun v u s w he k1 k2 k3=>by cases k1;cases k2;cases k3;exact jK g _ _ _ w (vst (e1.tr he) hg0) hl2)) ?_
 refine st (geq rfl rfl) <| en fun a w e' hf=>?_
 obtain⟨e,B3⟩:=up2 e' e B3
 refine tA hf rfl fun a hf=>aa <| ak <| an rfl hf rfl ?_
 rintro _ rfl
 exact⟨_,rfl,e,congrArg B (by rw[← hfh])⟩
section
variable {nb:Int→BS}{ids:List Nat}{b f:Nat}{way:List Nat}
end
def lsF:List Nat→List Nat→Bool
 | x::a,y::b=>if x=y then lsF a b else decide (x<y)
 | [],_::_=>true
 | _,[]=>false
theorem nN (w a b:List Nat):lsF (w++a) (w++b)=lsF a b:=by
 induction w with
 | nil=>rfl
 | cons x w ih=>rw[List.cons_append,List.cons_append,lsF,if_pos rfl,ih]
def CyL (nb:Int→BS)(c:List Nat):Prop:=Cyc nb (fun i=>c.getD i 0) c.length
structure CyM (nb:Int→BS)(c:List Nat):Prop where
 cyc:CyL nb c
 min:∀i,0<i→i<c.length→c.getD 0 0<c.getD i 0
 dir:c.getD 1 0<c.getD (c.length - 1) 0
theorem er {w:List Nat}{x i:Nat}(h:i<w.length):(w++[x]).getD i 0=w.getD i 0:=by rw[List.getD_eq_getElem?_getD,List.getD_eq_getElem?_getD,List.getElem?_append_left h]
theorem kP {w:List Nat}{x i:Nat}(h:i=w.length):(w++[x]).getD i 0=x:=by subst h;simp
theorem ia (w:List Nat):w.getLastD 0=w.getD (w.length - 1) 0:=by
 rw[List.getLastD_eq_getLast?,List.getLast?_eq_getElem?,List.getD_eq_getElem?_getD]
theorem jd {w:List Nat}{i:Nat}(h:i<w.length):w.getD i 0∈w:=by
 rw[List.getD_eq_getElem?_getD,List.getElem?_eq_getElem h];exact List.getElem_mem h
theorem nO {w:List Nat}{x:Nat}(h:x∈w):∃i,i<w.length∧w.getD i 0=x:=by
 obtain⟨i,hi,he⟩:=List.getElem_of_mem h
 exact⟨i,hi,by rw[List.getD_eq_getElem?_getD,List.getElem?_eq_getElem hi,he];rfl⟩
structure Pth (nb:Int→BS)(w:List Nat):Prop where
 inj:∀i j,i<w.length→j<w.length→w.getD i 0=w.getD j 0→i=j
 adj:∀i,i+1<w.length→(nb (w.getD i 0:Nat)).getLsbD (w.getD (i+1) 0)=true
theorem Pth.one (nb:Int→BS)(x:Nat):Pth nb [x]:=⟨fun i j hi hj _=>by rw[List.length_singleton] at hi hj;omega,fun i hi=>by rw[List.length_singleton] at hi;omega⟩
theorem Pth.snoc {nb:Int→BS}{w:List Nat}{x:Nat}(h:Pth nb w)(h0:w≠[])(h1:(nb (w.getLastD 0:Nat)).getLsbD x=true)(h2:x ∉ w):Pth nb (w++[x]):=by
 have hll:(w++[x]).length=w.length+1:=by rw[List.length_append,List.length_singleton]
 refine⟨fun i j hi hj he=>?_,fun i hi=>?_⟩
 ·rw[hll] at hi hj
  by_cases h3:i<w.length <;> by_cases h4:j<w.length
  ·rw[er h3,er h4] at he;exact h.inj i j h3 h4 he
  ·rw[er h3,kP (by omega)] at he;exact absurd (by rw[← he];exact jd h3) h2
  ·rw[kP (by omega),er h4] at he;exact absurd (by rw[he];exact jd h4) h2
  ·omega
 ·rw[hll] at hi
  by_cases h3:i+1<w.length
  ·rw[er (by omega),er h3];exact h.adj i h3
  ·rw[er (by omega),kP (by omega)]
   rw[ia] at h1
   rwa [show i=w.length - 1 by omega]
theorem Pth.cyc {nb:Int→BS}{w:List Nat}(h:Pth nb w)(h3:3≤w.length)(hl:(nb (w.getLastD 0:Nat)).getLsbD (w.getD 0 0)=true):CyL nb w:=⟨h3,h.inj,h.adj,by rw[ia] at hl;exact hl⟩
def clC (nb:Int→BS)(w:List Nat):List (List Nat):=if (decide (2<w.length)&&((nb (w.getLastD 0:Nat)).getLsbD (w.getD 0 0)&&decide (w.getD 1 0<w.getLastD 0)))=true then [w] else []
def cyS (nb:Int→BS)(F:List Nat→List (List Nat))(w:List Nat)(x:Nat):List (List Nat):=if (decide (w.getD 0 0<x)&&((nb (w.getLastD 0:Nat)).getLsbD x && !w.contains x))=true then F (w++[x]) else []
def cyR (nb:Int→BS)(ids:List Nat):Nat→List Nat→List (List Nat)
 | 0,_=>[]
 | f+1,w=>clC nb w++ids.flatMap (cyS nb (cyR nb ids f) w)
section
variable {nb:Int→BS}{ids:List Nat}
theorem tY:∀(f:Nat) (w:List Nat),w≠[]→Pth nb w→(∀i,0<i→i<w.length→w.getD 0 0<w.getD i 0)→∀c∈cyR nb ids f w,CyM nb c
 | 0,w,_,_,_,c,hc=>by cases hc
 | f+1,w,h0,hp,hm,c,hc=>by
  rw[cyR] at hc
  rcases List.mem_append.1 hc with hc|hc
  ·rw[clC] at hc
   split at hc
   ·rename_i h
    simp only[Bool.and_eq_true,decide_eq_true_eq] at h
    obtain rfl:=List.mem_singleton.1 hc
    exact⟨hp.cyc (by omega) h.2.1,hm,by rw[← ia];exact h.2.2⟩
   ·cases hc
  ·obtain⟨x,hx,hc⟩:=List.mem_flatMap.1 hc
   rw[cyS] at hc
   split at hc
   ·rename_i h
    simp only[Bool.and_eq_true,decide_eq_true_eq,Bool.not_eq_true',← Bool.not_eq_true,List.contains_iff_mem] at h
    have hl:0<w.length:=List.length_pos_iff.2 h0
    refine tY f (w++[x]) (by simp) (hp.snoc h0 h.2.1 h.2.2) (fun i hi hl'=>?_) c hc
    rw[List.length_append,List.length_singleton] at hl'
    rw[er hl]
    by_cases h3:i<w.length
    ·rw[er h3];exact hm i hi h3
    ·rw[kP (by omega)];exact h.1
   ·cases hc
theorem fD {c:List Nat}{m i:Nat}(h:i<m):(c.take m).getD i 0=c.getD i 0:=by rw[List.getD_eq_getElem?_getD,List.getD_eq_getElem?_getD,List.getElem?_take,if_pos h]
theorem tZ {c:List Nat}{m:Nat}(h:m<c.length):c.take (m+1)=c.take m++[c.getD m 0]:=by
 rw[bA (List.getElem?_eq_getElem h),List.getD_eq_getElem?_getD,List.getElem?_eq_getElem h];rfl
theorem ua {c:List Nat}{m:Nat}(h:m<c.length):(c.take (m+1)).getLastD 0=c.getD m 0:=by
 rw[ia,List.length_take,show min (m+1) c.length - 1=m by omega,fD (by omega)]
theorem a3f {c:List Nat}(h:CyL nb c){m:Nat}(hm:m<c.length):c.getD m 0 ∉ c.take m:=fun hh=>by
 obtain⟨i,hi,he⟩:=nO hh
 rw[List.length_take] at hi
 rw[fD (by omega)] at he
 have:=h.inj i m (by omega) hm he
 omega
theorem ub {c:List Nat}(hc:CyM nb c)(hids:∀x∈c,x∈ids):∀f m,m<c.length→c.length<f+(m+1)→c∈cyR nb ids f (c.take (m+1))
 | 0,m,h1,h2=>by omega
 | f+1,m,h1,h2=>by
  have h3:=hc.cyc.three
  rw[cyR]
  refine List.mem_append.2 ?_
  by_cases hm:m+1=c.length
  ·left
   rw[hm,List.take_length,clC,if_pos]
   ·exact List.mem_singleton.2 rfl
   ·simp only[Bool.and_eq_true,decide_eq_true_eq]
    rw[ia]
    exact⟨by omega,hc.cyc.last,hc.dir⟩
  ·right
   have hx:=jd (w:=c) (i:=m+1) (by omega)
   refine List.mem_flatMap.2 ⟨_,hids _ hx,?_⟩
   rw[cyS,if_pos]
   ·rw[← tZ (by omega)]
    exact ub hc hids f (m+1) (by omega) (by omega)
   ·simp only[Bool.and_eq_true,decide_eq_true_eq,Bool.not_eq_true',← Bool.not_eq_true,List.contains_iff_mem]
    rw[ua h1,fD (by omega)]
    exact⟨hc.min _ (by omega) (by omega),hc.cyc.adj m (by omega),a3f hc.cyc (by omega)⟩
end
def cyA (g:GT):List (List Nat):=(ai (vset g.1)).flatMap fun x=>cyR (nbA g) (ai (vset g.1)) g.1.length [x]
theorem uc {g:GT}(ok:Gr.Ok g){c:List Nat}(h:CyL (nbA g) c):∀x∈c,x∈ai (vset g.1):=fun x hx=>by
 obtain⟨i,hi,rfl⟩:=nO hx
 have:(vset g.1).getLsbD (c.getD i 0)=true:=by
  by_cases h1:i+1<c.length
  ·exact (((cQ ok).1 (h.adj i h1)).inn ok).1
  ·have:=(((cQ ok).1 h.last).inn ok).1
   rwa [show c.length - 1=i by omega] at this
 exact aD.2 ⟨aA this,this⟩
theorem ud {nb:Int→BS}{c:List Nat}(h:CyL nb c):c.Nodup:=List.pairwise_iff_getElem.2 fun i j hi hj hij he=>by
 have:=h.inj i j hi hj (by rw[List.getD_eq_getElem?_getD,List.getD_eq_getElem?_getD,List.getElem?_eq_getElem hi,List.getElem?_eq_getElem hj,he])
 omega
theorem nP {g:GT}(ok:Gr.Ok g){c:List Nat}:c∈cyA g↔CyM (nbA g) c:=by
 constructor
 ·intro h
  obtain⟨x,_,hc⟩:=List.mem_flatMap.1 h
  exact tY _ [x] (by simp) (Pth.one _ x) (fun i hi hl=>by rw[List.length_singleton] at hl;omega) c hc
 ·intro h
  have h3:=h.cyc.three
  have hin:=uc ok h.cyc
  have hlen:c.length≤g.1.length:=by
   have h1:=eo (ah c) (ah (ai (vset g.1))) (List.pairwise_map.2 ((ud h.cyc).imp fun h h'=>h (by omega))) (fun x hx=>by
    obtain⟨y,hy,rfl⟩:=List.mem_map.1 hx
    exact cK.2 (hin y hy))
   rwa [bB,bB,cJ,ng ok] at h1
  have hc:=ub h hin g.1.length 0 (by omega) (by omega)
  rw[tZ (by omega),List.take_zero,List.nil_append] at hc
  exact List.mem_flatMap.2 ⟨_,hin _ (jd (by omega)),hc⟩
theorem ue {w:List Nat}{i:Nat}(h:i<w.length):(ah w)[i]?=some ((w.getD i 0:Nat):Int):=by
 rw[ah,List.getElem?_map,List.getElem?_eq_getElem h,List.getD_eq_getElem?_getD,List.getElem?_eq_getElem h];rfl
theorem uf (nb:Int→BS)(w:List Nat):(clC nb w).length≤1:=by
 rw[clC];split
 ·exact Nat.le_refl _
 ·exact Nat.zero_le _
theorem jg {F:Nat→List (List Nat)}{m:Nat}(h:∀x,(F x).length≤m):∀l:List Nat,(l.flatMap F).length≤l.length * m
 | []=>Nat.zero_le _
 | x::l=>by
  rw[List.flatMap_cons,List.length_append,List.length_cons,Nat.succ_mul]
  have:=h x
  have:=jg h l
  omega
theorem kQ {nb:Int→BS}{ids:List Nat}(hi:ids.length≤7):∀(f:Nat) (w:List Nat),(cyR nb ids f w).length≤8 ^ f
 | 0,w=>Nat.zero_le _
 | f+1,w=>by
  have h1:=uf nb w
  have h2:=jg (F:=cyS nb (cyR nb ids f) w) (m:=8 ^ f) (fun x=>by
   rw[cyS];split
   ·exact kQ hi f _
   ·exact Nat.zero_le _) ids
  have h3:ids.length * 8 ^ f≤7 * 8 ^ f:=Nat.mul_le_mul_right _ hi
  have h4:1≤8 ^ f:=Nat.pos_of_ne_zero (by simp)
  rw[cyR,List.length_append,Nat.pow_succ]
  omega
theorem ug {f:Nat}(h:f≤7):8 ^ f≤2097152:=Nat.pow_le_pow_right (by decide) h
def cyK (nb:Int→BS)(ids:List Nat)(f:Nat)(w:List Nat)(k:Nat):List (List Nat):=clC nb w++(ids.take k).flatMap (cyS nb (cyR nb ids f) w)
theorem a3g {nb:Int→BS}{ids:List Nat}{f:Nat}{w:List Nat}{k x:Nat}(h:ids[k]?=some x):cyK nb ids f w (k+1)=cyK nb ids f w k++cyS nb (cyR nb ids f) w x:=by
 rw[cyK,cyK,bA h,List.flatMap_append,List.append_assoc];simp
theorem a3h {nb:Int→BS}{ids:List Nat}(hi:ids.length≤7){f:Nat}(hf:f≤6)(w:List Nat)(k:Nat):(cyK nb ids f w k).length≤2097152:=by
 have h1:=uf nb w
 have h2:=jg (F:=cyS nb (cyR nb ids f) w) (m:=8 ^ f) (fun x=>by
  rw[cyS];split
  ·exact kQ hi f _
  ·exact Nat.zero_le _) (ids.take k)
 have h3:(ids.take k).length * 8 ^ f≤7 * 8 ^ f:=Nat.mul_le_mul_right _ (Nat.le_trans (List.length_take_le' _ _) hi)
 have h4:8 ^ f≤8 ^ 6:=Nat.pow_le_pow_right (by decide) hf
 rw[cyK,List.length_append]
 omega
theorem a3i (g:GT)(ok:Gr.Ok g)(hl1:g.1.length≤7)(hl2:g.2.length≤100000):∀(f:Nat) (way:List Nat) (v u:Value) (K:Nat→Prop) (W:World),(∀b,K b→b<W.heap.size)→(Dv gtE G0 g).p v W→(Dv (slE intE) G0 (ah way)).p u W→way≠[]→way.Nodup→(∀x∈way,x∈ai (vset g.1))→f≤7→g.1.length<f+way.length →
  Calls Tryz.prog 114 #[v,u] W (Post (Dv (slE (slE intE)) K ((cyR (nbA g) (ai (vset g.1)) f way).map ah)) W):=by
 have hvl:=fC ok
 intro f
 induction f with
 | zero=>
  intro way v u K W hK hg0 hw hne hnd hin hf7 hlt
  have h1:=eo (ah way) (ah (ai (vset g.1))) (List.pairwise_map.2 (hnd.imp fun h h'=>h (by omega))) (fun x hx=>by
   obtain⟨y,hy,rfl⟩:=List.mem_map.1 hx
   exact cK.2 (hin y hy))
  rw[bB,bB] at h1
  omega
 | succ f ih=>
  intro way v u K W hK hg0 hw hne hnd hin hf7 hlt
  obtain⟨u1,u2,rfl,h1,h2⟩:=Dv.gt.1 hg0
  have hW0:(Dv (slE intE) (GB W G0) (ah way)).p u W:=Dv.toB hw
  replace h1:=Dv.toB h1
  have hwl:1≤way.length:=List.length_pos_iff.2 hne
  have hwn:=bB way
  have hwm:way.length≤7:=by
   have h1:=eo (ah way) (ah (ai (vset g.1))) (List.pairwise_map.2 (hnd.imp fun h h'=>h (by omega))) (fun x hx=>by
    obtain⟨y,hy,rfl⟩:=List.mem_map.1 hx
    exact cK.2 (hin y hy))
   rw[bB,bB] at h1
   omega
  obtain⟨last,hlast⟩:=eqX (way.getLastD 0)
  obtain⟨w0,hw0⟩:=eqX (way.getD 0 0)
  have hgl:=ny hne
  have hg0':=ue hwl
  rw[← hlast] at hgl
  rw[← hw0] at hg0'
  obtain⟨ids,hids⟩:=eqX (ai (vset g.1))
  have hidl:ids.length≤7:=by rw[hids,hvl];exact hl1
  rw[← hids] at hin ih hvl ⊢
  obtain⟨C,hC⟩:=eqX (clC (nbA g) way)
  obtain⟨F,hF⟩:=eqX (cyS (nbA g) (cyR (nbA g) ids f) way)
  refine eN [.agg #[u1,u2],u] [E (.agg #[u1,u2]),E u] Tryz.func114 Tryz.ntmps114 ?_ fun a hf=>?_
  rotate_left
  rotate_right
  ·exact arg2 rfl rfl
  have e:=Ext.rfl' W
  refine seq <| ac <| tB hf rfl fun a b2 w v2 hv2 e' hb2 hs2 B2 hf=>?_
  replace e:=e.tr e'
  refine tA hf rfl fun a hf=>aa ?_
  cases hv2
  obtain⟨N1,hN1⟩:=eqX w.heap.size
  have hN1s:N1≤w.heap.size:=Nat.le_of_eq hN1
  have hWN:W.heap.size≤N1:=by rw[hN1];exact e.size
  have lb2:b2<N1:=by rw[hN1];exact B2.lt
  have hKN:∀b,K b→b<N1:=fun b hb=>Nat.lt_of_lt_of_le (hK b hb) hWN
  replace hf:=hf.keep [1,2]
  refine seq <| ac <| tA hf rfl fun a hf=>aa <| seq <| rgN 6 hf <| st (mv rfl) <| st (mv rfl) <| st (aI U35 (isE rfl (vst e hW0))) <| st (sub rfl rfl (by omega)) <| st (aG U35 S3 (isE rfl (vst e hW0)) rfl (by omega) (hgl)) <| st (ldI T3 (isR rfl)) <| en fun a w e' hf=>?_
  obtain⟨hN1s,e,B2⟩:=up3 e' hN1s e B2
  refine tA hf rfl fun a hf=>aa ?_
  replace hf:=hf.keep [1,2,5,6]
  have hn7:∀(p q:Nat) (x:Bool),(nbA g ((p:Nat):Int)).getLsbD q=x→∀(a b c:Value) (W' w':World),Ext W W'→Ext W' w'→a=.agg #[u1,u2]→b=I (p:Nat)→c=I (q:Nat)→Calls Tryz.prog 119 #[a,b,c] w' (Post (E (B x)) w'):=fun p q x hx a b c W' w' e5 he k1 k2 k3=>by
   cases k1;cases k2;cases k3;rw[← hx];exact a3e g ok _ _ _ w' (vst (e5.tr he) hg0) hl2
  obtain⟨cc,hcc⟩:=eqX ((decide (2<way.length)&&((nbA g ((last:Nat):Int)).getLsbD w0&&decide (way.getD 1 0<last))))
  have hCc:C=if cc=true then [way] else []:=by rw[hC,clC,hcc,hlast,hw0]
  refine seq <| seq ?_
  refine cut (J:=fun a w=>Fr 80 a w [(1,E u),(2,E (ptr b2)),(5,E (.slice none 0 0)),(32,E (B cc)),(6,E (I (last:Nat)))]∧Ext W w∧Blk w b2 #[u1,u2] 25∧N1≤w.heap.size) ?_ (fun a w hJ=>?_)
  ·by_cases h2w:2<way.length
   ·rw[decide_eq_true h2w,Bool.true_and] at hcc
    cases hnb:(nbA g ((last:Nat):Int)).getLsbD w0 with
    | false=>
     rw[hnb,Bool.false_and] at hcc
     have hn8:=hn7 _ _ _ hnb
     have e5:=e
     refine rgG 18 Mix.mix hf <| st (mv rfl) <| st (aI U35 (isE rfl (vst e hW0))) <| st ((gtr rfl rfl).eq (congrArg Value.bool ((show decide ((((ah way).length:Nat):Int) > 2)=true from decide_eq_true (by omega))))) <| st (mv rfl) <| sy rfl rfl ((ldW T25 rfl B2 rfl).eq ((rfl:_=Value.agg #[u1,u2]))) <| sy rfl rfl (mv rfl) <| sy rfl rfl (mv rfl) <| sy rfl rfl (aG U35 S3 (isE rfl (vst e hW0)) rfl (by omega) (hg0')) <| sy rfl rfl (ldI T3 (isR rfl)) <| sy rfl rfl (cE (A:=E (B false)) (B:=E (.agg #[u1,u2])) (C:=E (I (last:Nat))) (D:=E (I (w0:Nat))) jE rfl rfl rfl (fun a b c w he k1 k2 k3=>hn8 a b c _ w e5 he k1 k2 k3)) <| st (pkT rfl rfl) <| st (mv rfl) <| sn rfl rfl rfl <| sn rfl rfl rfl <| sn rfl rfl rfl <| sn rfl rfl rfl <| sn rfl rfl rfl <| st (pkF rfl rfl) <| en fun a w e' hf=>?_
     obtain⟨hN1s,e,B2⟩:=up3 e' hN1s e B2
     refine aa ?_
     rw[← hcc] at hf
     replace hf:=hf.keep [1,2,5,32,6]
     exact⟨rfl,hf,e,B2,hN1s⟩
    | true=>
     rw[hnb,Bool.true_and] at hcc
     have hn8:=hn7 _ _ _ hnb
     have e5:=e
     have hg1:=ue (w:=way) (i:=1) (by omega)
     refine rgG 18 Mix.mix hf <| st (mv rfl) <| st (aI U35 (isE rfl (vst e hW0))) <| st ((gtr rfl rfl).eq (congrArg Value.bool ((show decide ((((ah way).length:Nat):Int) > 2)=true from decide_eq_true (by omega))))) <| st (mv rfl) <| sy rfl rfl ((ldW T25 rfl B2 rfl).eq ((rfl:_=Value.agg #[u1,u2]))) <| sy rfl rfl (mv rfl) <| sy rfl rfl (mv rfl) <| sy rfl rfl (aG U35 S3 (isE rfl (vst e hW0)) rfl (by omega) (hg0')) <| sy rfl rfl (ldI T3 (isR rfl)) <| sy rfl rfl (cE (A:=E (B true)) (B:=E (.agg #[u1,u2])) (C:=E (I (last:Nat))) (D:=E (I (w0:Nat))) jE rfl rfl rfl (fun a b c w he k1 k2 k3=>hn8 a b c _ w e5 he k1 k2 k3)) <| st (pkT rfl rfl) <| st (mv rfl) <| sy rfl rfl (mv rfl) <| sy rfl rfl (aG U35 S3 (isE rfl (vst e hW0)) rfl (by omega) (hg1)) <| sy rfl rfl (ldI T3 (isR rfl)) <| sy rfl rfl (mv rfl) <| sy rfl rfl ((lss rfl rfl).eq (congrArg Value.bool ((show decide (((way.getD 1 0:Nat):Int)<((last:Nat):Int))=cc by rw[hcc];exact decide_eq_decide.2 (by omega))))) ?_
     refine st (pkT rfl rfl) <| en fun a w e' hf=>?_
     obtain⟨hN1s,e,B2⟩:=up3 e' hN1s e B2
     refine aa ?_
     replace hf:=hf.keep [1,2,5,32,6]
     exact⟨rfl,hf,e,B2,hN1s⟩
   ·rw[decide_eq_false h2w,Bool.false_and] at hcc
    refine rgG 18 Mix.mix hf <| st (mv rfl) <| st (aI U35 (isE rfl (vst e hW0))) <| st ((gtr rfl rfl).eq (congrArg Value.bool ((show decide ((((ah way).length:Nat):Int) > 2)=false from decide_eq_false (by omega))))) <| st (mv rfl) <| sn rfl rfl rfl <| sn rfl rfl rfl <| sn rfl rfl rfl <| sn rfl rfl rfl <| sn rfl rfl rfl <| sn rfl rfl rfl <| st (pkF rfl rfl) <| st (mv rfl) <| sn rfl rfl rfl <| sn rfl rfl rfl <| sn rfl rfl rfl <| sn rfl rfl rfl <| sn rfl rfl rfl <| st (pkF rfl rfl) <| en fun a w e' hf=>?_
    obtain⟨hN1s,e,B2⟩:=up3 e' hN1s e B2
    refine aa ?_
    rw[← hcc] at hf
    replace hf:=hf.kp [1,2,5,32,6]
    exact⟨rfl,hf,e,B2,hN1s⟩
  obtain⟨hf,e,B2,hN1s⟩:=hJ
  have Ho:OwR (slE intE) 35 N1 K w ([]:List (List Int)) (.slice none 0 0):=OwR.nil (slE intE) _ hN1s hKN
  have hg0s:∀b,GO K (.slice none 0 0) b→b<N1:=fun b hb=>hb.elim (hKN b) fun h=>by cases h
  refine cut (J:=fun a w=>Fr 80 a w [(1,E u),(2,E (ptr b2)),(6,E (I (last:Nat))),(5,OwA (slE intE) 35 N1 K (C.map ah))]∧Ext W w∧Blk w b2 #[u1,u2] 25∧N1≤w.heap.size) ?_ (fun a w hJ=>?_)
  ·cases hc0:cc with
   | true=>
    rw[hc0] at hf hCc
    rw[if_pos rfl] at hCc
    refine ifT hf rfl ?_
    have n2:=Ho.neLt lb2
    have hNa:=hN1s
    refine rgN 5 hf <| st (mv rfl) <| st (sp U35 S3 hNa) <| st (mv rfl) <| st (sq (G:=GB W G0) U35 I3 rfl rfl (isE rfl (vst e hW0)) hNa (by rw[List.length_nil];simp only[maxLen];omega) (by rw[List.length_nil];omega)) ?_
    refine st (aX (e:=slE intE) (G:=GO K (.slice none 0 0)) (z:=[]++ah way) U39 I35 rfl (by decide) rfl (fun b hb=>Nat.lt_of_lt_of_le (hg0s b hb) hNa) ⟨_,rfl,fun v w _ h=>OwR.slN h fun b hb hh=>by have:=(OwR.lt h hb).1;have:=hg0s b hh;omega⟩) ?_
    refine en fun a w e' hf=>?_
    obtain⟨hN1s,Ho,e,B2⟩:=up4 e' hN1s Ho e B2
    replace hf:=hf.kp [1,2,5,6,33,37]
    haveI hin:∀G0,InR (GB W G0) _:=OwR.inGB (W:=W) Ho hWN
    refine bG U39 I35 rfl rfl hf (by decide) rfl Ho (isR rfl) (by simp only[List.length_nil,List.length_singleton];omega) (by simp only[List.length_nil,List.length_singleton,maxLen];omega) fun a v w hg hat Hn hf=>?_
    replace e:=e.gro hg (Ho.row (W:=W) hWN)
    have hrow:=Ho.row (W:=W) hWN
    replace hN1s:=Nat.le_trans hN1s hg.size
    replace Ho:=Hn
    replace B2:=B2.gro hg (by assumption)
    replace Ho:=Hn;clear Hn hg hat hin
    refine tA hf rfl fun a hf=>aa ?_
    rw[List.nil_append,List.nil_append] at Ho
    replace hf:=hf.keep [1,2,5,6]
    refine⟨by trivial,?_,e,B2,hN1s⟩
    have hf':=hf.upd (B:=OwA (slE intE) 35 N1 K (C.map ah)) 5 rfl (fun v h=>by cases h;rw[hCc];exact Ho)
    have hf2:=hf'.keep [1,2,6,5]
    exact hf2
   | false=>
    rw[hc0] at hf hCc
    rw[if_neg (by decide)] at hCc
    refine ifF hf rfl ?_
    refine aj ?_
    have hf':=hf.upd (B:=OwA (slE intE) 35 N1 K (C.map ah)) 5 rfl (fun v h=>by cases h;rw[hCc];exact Ho)
    have hf2:=hf'.keep [1,2,6,5]
    exact⟨by trivial,hf2,e,B2,hN1s⟩
  obtain⟨hf,e,B2,hN1s⟩:=hJ
  obtain⟨uo,Ho,hf⟩:=hf.opn 5 rfl
  replace Ho:OwR (slE intE) 35 N1 K w (C.map ah) uo:=Ho
  have hC0:C.map ah=(cyK (nbA g) ids f way 0).map ah:=by rw[cyK,List.take_zero,hC];simp
  rw[hC0] at Ho
  replace hf:=hf.keep [1,2,5,6]
  refine seq <| seq ?_
  refine ac <| tA hf rfl fun a hf=>aa ?_
  replace hf:=hf.keep [1,2,5,6,7]
  refine blk (aK (fun r0 a w=>∃(k:Nat) (uo:Value),r0=g.1.length - k∧k≤g.1.length∧Fr 80 a w [(1,E u),(2,E (ptr b2)),(5,E uo),(6,E (I (last:Nat))),(7,E (I k))]∧Ext W w∧Blk w b2 #[u1,u2] 25∧OwR (slE intE) 35 N1 K w ((cyK (nbA g) ids f way k).map ah) uo) g.1.length ⟨0,uo,rfl,by omega,hf,e,⟨B2,Ho⟩⟩ ?_)
  rintro r0 a w ⟨k,uo,rfl,hk,hf,e,B2,Ho⟩
  refine seq <| seq ?_
  refine rgN 5 hf <| st (mv rfl) <| st (fA U25 rfl T22 rfl) <| st (ld1 T22 rfl B2 rfl) <| st (aI U22 (isE rfl (vst e h1))) <| st (lss rfl rfl) <| en fun a w e' hf=>?_
  obtain⟨e,B2,Ho⟩:=up3 e' e B2 Ho
  refine aa <| ifc hf rfl (fun hc=>aj ?_) (fun hc=>aH ?_)
  rotate_left
  rotate_left
  ·have hlt:=ltC hc
   replace hf:=hf.keep [1,2,5,6,7]
   refine seq <| blk ?_
   have hx0:=List.getElem?_eq_getElem hlt
   generalize g.1[k]=x at hx0
   obtain⟨n,hn,hnV,hen⟩:=kO ok hx0
   rw[← hids] at hen
   obtain⟨x1,x2⟩:=x
   subst hn
   have hsc:=a3g (nb:=nbA g) (f:=f) (w:=way) hen
   have hol:=a3h (nb:=nbA g) hidl (show f≤6 by omega) way (k+1)
   obtain⟨Z,hZ⟩:=eqX (cyS (nbA g) (cyR (nbA g) ids f) way n)
   obtain⟨cn,hcn⟩:=eqX ((decide (w0<n)&&((nbA g ((last:Nat):Int)).getLsbD n && !way.contains n)))
   have hZc:Z=if cn=true then cyR (nbA g) ids f (way++[n]) else []:=by rw[hZ,cyS,hcn,hlast,hw0]
   rw[← hZ] at hsc
   obtain⟨out,hout⟩:=eqX (cyK (nbA g) ids f way k)
   rw[← hout] at hsc Ho
   rw[hsc,List.length_append] at hol
   refine seq <| rgN 6 hf <| st (fA U25 rfl T22 rfl) <| st (ld1 T22 rfl B2 rfl) <| st (mv rfl) <| st (aG U22 S45 (isE rfl (vst e h1)) rfl (by omega) (hx0)) <| st (aB U45 rfl T3 (by decide) (Fld.fst Fld.refl) (isR rfl)) <| st (ldI T3 (isR rfl)) <| en fun a w e' hf=>?_
   obtain⟨e,B2,Ho⟩:=up3 e' e B2 Ho
   refine tA hf rfl fun a hf=>aa ?_
   replace hf:=hf.keep [1,2,5,6,7,8]
   refine seq <| cut (J:=fun a w=>Fr 80 a w [(1,E u),(2,E (ptr b2)),(5,E uo),(6,E (I (last:Nat))),(7,E (I k)),(8,E (I (n:Nat))),(68,E (B cn))]∧Ext W w∧Blk w b2 #[u1,u2] 25∧OwR (slE intE) 35 N1 K w (out.map ah) uo) ?_ (fun a w hJ=>?_)
   ·by_cases h0n:w0<n
    ·rw[decide_eq_true h0n,Bool.true_and] at hcn
     cases hnb:(nbA g ((last:Nat):Int)).getLsbD n with
     | false=>
      rw[hnb,Bool.false_and] at hcn
      have hn8:=hn7 _ _ _ hnb
      have e5:=e
      refine rgN 17 hf <| st (mv rfl) <| st (mv rfl) <| st (aG U35 S3 (isE rfl (vst e hW0)) rfl (by omega) (hg0')) <| st (ldI T3 (isR rfl)) <| st ((gtr rfl rfl).eq (congrArg Value.bool ((show decide (((n:Nat):Int) > ((w0:Nat):Int))=true from decide_eq_true (by omega))))) <| st (mv rfl) <| sy rfl rfl ((ldW T25 rfl B2 rfl).eq ((rfl:_=Value.agg #[u1,u2]))) <| sy rfl rfl (mv rfl) <| sy rfl rfl (mv rfl) <| sy rfl rfl (cE (A:=E (B false)) (B:=E (.agg #[u1,u2])) (C:=E (I (last:Nat))) (D:=E (I (n:Nat))) jE rfl rfl rfl (fun a b c w he k1 k2 k3=>hn8 a b c _ w e5 he k1 k2 k3)) <| st (pkT rfl rfl) <| st (mv rfl) <| sn rfl rfl rfl <| sn rfl rfl rfl <| sn rfl rfl rfl <| sn rfl rfl rfl <| st (pkF rfl rfl) <| en fun a w e' hf=>?_
      obtain⟨e,B2,Ho⟩:=up3 e' e B2 Ho
      refine aa ?_
      rw[← hcn] at hf
      replace hf:=hf.keep [1,2,5,6,7,8,68]
      exact⟨rfl,hf,e,B2,Ho⟩
     | true=>
      rw[hnb,Bool.true_and] at hcn
      have hn8:=hn7 _ _ _ hnb
      have e5:=e
      refine rgN 17 hf <| st (mv rfl) <| st (mv rfl) <| st (aG U35 S3 (isE rfl (vst e hW0)) rfl (by omega) (hg0')) <| st (ldI T3 (isR rfl)) <| st ((gtr rfl rfl).eq (congrArg Value.bool ((show decide (((n:Nat):Int) > ((w0:Nat):Int))=true from decide_eq_true (by omega))))) <| st (mv rfl) <| sy rfl rfl ((ldW T25 rfl B2 rfl).eq ((rfl:_=Value.agg #[u1,u2]))) <| sy rfl rfl (mv rfl) <| sy rfl rfl (mv rfl) <| sy rfl rfl (cE (A:=E (B true)) (B:=E (.agg #[u1,u2])) (C:=E (I (last:Nat))) (D:=E (I (n:Nat))) jE rfl rfl rfl (fun a b c w he k1 k2 k3=>hn8 a b c _ w e5 he k1 k2 k3)) <| st (pkT rfl rfl) <| st (mv rfl) <| sy rfl rfl (mv rfl) <| sy rfl rfl (mv rfl) <| sy rfl rfl (ap (A:=E (B (way.contains n))) (B:=E u) (C:=E (I (n:Nat))) wy rfl rfl (fun v s w' he k1 k2=>by cases k1;cases k2;have:=a3d (ah way) (n:Int) u w' (vst (e5.tr he) hW0) (by omega);rwa [show decide ((n:Int)∈ah way)=way.contains n by rw[Bool.eq_iff_iff,decide_eq_true_eq,cK,List.contains_iff_mem]] at this)) ?_
      refine sy rfl rfl ((aZ rfl).eq (congrArg Value.bool (hcn.symm))) <| st (pkT rfl rfl) <| en fun a w e' hf=>?_
      obtain⟨e,B2,Ho⟩:=up3 e' e B2 Ho
      refine aa ?_
      replace hf:=hf.keep [1,2,5,6,7,8,68]
      exact⟨rfl,hf,e,B2,Ho⟩
    ·rw[decide_eq_false h0n,Bool.false_and] at hcn
     refine rgN 17 hf <| st (mv rfl) <| st (mv rfl) <| st (aG U35 S3 (isE rfl (vst e hW0)) rfl (by omega) (hg0')) <| st (ldI T3 (isR rfl)) <| st ((gtr rfl rfl).eq (congrArg Value.bool ((show decide (((n:Nat):Int) > ((w0:Nat):Int))=false from decide_eq_false (by omega))))) <| st (mv rfl) <| sn rfl rfl rfl <| sn rfl rfl rfl <| sn rfl rfl rfl <| sn rfl rfl rfl <| st (pkF rfl rfl) <| st (mv rfl) <| sn rfl rfl rfl <| sn rfl rfl rfl <| sn rfl rfl rfl <| sn rfl rfl rfl <| st (pkF rfl rfl) <| en fun a w e' hf=>?_
     obtain⟨e,B2,Ho⟩:=up3 e' e B2 Ho
     refine aa ?_
     rw[← hcn] at hf
     replace hf:=hf.keep [1,2,5,6,7,8,68]
     exact⟨rfl,hf,e,B2,Ho⟩
   obtain⟨hf,e,B2,Ho⟩:=hJ
   cases hc0:cn with
   | false=>
    rw[hc0] at hf hZc
    rw[if_neg (by decide)] at hZc
    rw[hZc,List.append_nil] at hsc
    refine ifF hf rfl ?_
    refine aj <| rgN 2 hf <| st (mv rfl) <| st ((add rfl rfl (by omega)).eq (iN k)) <| en fun a w e' hf=>?_
    obtain⟨e,B2,Ho⟩:=up3 e' e B2 Ho
    refine tA hf rfl fun a hf=>aa ?_
    replace hf:=hf.kp [1,2,5,6,7]
    refine⟨_,?_,k+1,uo,rfl,by omega,hf,e,?_⟩
    ·omega
    exact⟨B2,by rw[hsc];exact Ho⟩
   | true=>
    rw[hc0] at hf
    rw[hc0,if_pos rfl] at hZc
    have hnw:n ∉ way:=fun hh=>by rw[hc0,List.contains_iff_mem.2 hh] at hcn;simp at hcn
    refine ifT hf rfl ?_
    replace hf:=hf.kp [1,2,5,6,7,8]
    obtain⟨N2,hN2⟩:=eqX w.heap.size
    have hN2s:N2≤w.heap.size:=Nat.le_of_eq hN2
    have hWN2:W.heap.size≤N2:=by rw[hN2];exact e.size
    have hl2':b2<N2:=by rw[hN2];exact B2.lt
    have hown:∀b,GO K uo b→b<N2:=fun b hb=>by
     rcases hb with hb|hb
     ·have:=hKN b hb;have:=Ho.base;omega
     ·have:=(Ho.lt hb).2;omega
    haveI i1:InS (GB W G0) (fun b=>N2≤b):=⟨fun b hb=>.inr (Nat.le_trans hWN2 hb)⟩
    have e6:=e
    refine cO 9 [1,1,0,0,0,0,0] (Chg (fun b=>N2≤b)) (cg.chg _) (fun w=>True) (fun w w1 k h=>trivial) Mix.mix hf (by decide +kernel) (by decide +kernel) <| jf (fun w1 h1=>mv rfl) <| jf (fun w1 h1=>((ldW T25 rfl (B2.ch h1 (by omega)) rfl)).eq ((rfl:_=Value.agg #[u1,u2]))) <| ja (sp U35 S3 hN2s) <| ja (mv rfl) <| ja (sq (G:=GB W G0) U35 I3 rfl rfl (isE rfl (vst e hW0)) hN2s (by rw[List.length_nil];simp only[maxLen];omega) (by rw[List.length_nil];omega)) ?_
    refine ja (mv rfl) <| ja (aX (e:=intE) (G:=G0) U35 I3 rfl (by decide) rfl (fun b hb=>hb.elim) (isI rfl)) <| jx (mm (G':=G0) U35 I3 rfl rfl rfl (isR rfl) (by simp only[List.length_singleton,List.nil_append];omega) (by simp only[List.length_singleton,List.nil_append,maxLen];omega) (fun _ _ _ _=>trivial) (fun _ _=>trivial)) ?_
    refine jp (fun w1 h1 HF1=>ap (A:=Dv (slE (slE intE)) (GO K uo) ((cyR (nbA g) ids f (way++[n])).map ah)) (B:=E (.agg #[u1,u2])) (C:=OwA intE 3 N2 (fun _=>False) ([]++ah way++[(n:Int)])) pN rfl rfl (fun x y w' he k1 k2=>by cases k1;exact ih (way++[n]) _ y (GO K uo) w' (fun b hb=>by have:=hown b hb;have:=h1.size;have:=he.size;omega) (vst he (vst ⟨h1.os,h1.tape,h1.output,h1.size,fun b hb=>h1.block b hb (by omega)⟩ (vst e6 hg0))) (by rw[gV];rw[List.nil_append] at k2;exact OwR.slN k2 fun b hb hh=>hh.elim) (by simp) (List.nodup_append.2 ⟨hnd,List.nodup_cons.2 ⟨by simp,List.nodup_nil⟩,fun a ha b hb hab=>by rw[List.mem_singleton] at hb;subst hb;subst hab;exact hnw ha⟩) (fun y hy=>(List.mem_append.1 hy).elim (hin y) fun hy=>by rw[List.mem_singleton.1 hy];exact List.mem_of_getElem? hen) (by omega) (by rw[List.length_append,List.length_singleton];omega))) ?_
    refine je <| fun a w hc HF hf=>?_
    try dsimp only[push] at hf
    have e':Ext _ w:=⟨hc.os,hc.tape,hc.output,hc.size,fun b hb=>hc.block b hb (by omega)⟩
    replace e:=e.tr e';replace B2:=B2.ext e';replace Ho:=Ho.ext e'
    rw[← hZc] at hf
    replace hf:=hf.kp [1,2,6,7,8,69,77]
    have n2:=Ho.neLt lb2
    haveI hin:∀G0,InR (GB W G0) _:=OwR.inGB (W:=W) Ho hWN
    refine bG U39 I35 rfl rfl hf (by decide) rfl Ho (isR rfl) (by simp only[List.length_map];omega) (by simp only[List.length_map,maxLen];omega) fun a v w hg hat Hn hf=>?_
    replace e:=e.gro hg (Ho.row (W:=W) hWN)
    have hrow:=Ho.row (W:=W) hWN
    replace Ho:=Hn
    replace B2:=B2.gro hg (by assumption)
    replace Ho:=Hn;clear Hn hg hat hin
    refine tA hf rfl fun a hf=>aa ?_
    rw[← List.map_append,← hsc] at Ho
    refine rgN 2 hf <| st (mv rfl) <| st ((add rfl rfl (by omega)).eq (iN k)) <| en fun a w e' hf=>?_
    obtain⟨Ho,e,B2⟩:=up3 e' Ho e B2
    refine tA hf rfl fun a hf=>aa ?_
    replace hf:=hf.kp [1,2,5,6,7]
    refine⟨_,?_,k+1,_,rfl,by omega,hf,e,?_⟩
    ·omega
    exact⟨B2,Ho⟩
  ·obtain rfl:=dnE hc hk
   rw[show cyK (nbA g) ids f way g.1.length=cyR (nbA g) ids (f+1) way by rw[cyK,cyR,List.take_of_length_le (Nat.le_of_eq hvl)]] at Ho
   replace hf:=hf.kp [5]
   refine seq <| rgN 1 hf <| st (mv rfl) <| en fun a w e' hf=>?_
   obtain⟨Ho,e⟩:=up2 e' Ho e
   refine tA hf rfl fun a hf=>aa <| ak <| an rfl hf rfl ?_
   rintro _ rfl
   exact⟨_,rfl,e,Ho.sl⟩
theorem a3j {G K:Nat→Prop}(g:GT)(ok:Gr.Ok g)(v:Value)(W:World)(h:(Dv gtE G g).p v W)(hl1:g.1.length≤7)(hl2:g.2.length≤100000)(hK:∀b,K b→b<W.heap.size) :
  Calls Tryz.prog 68 #[v] W (Post (Dv (slE (slE intE)) K ((cyA g).map ah)) W):=by
 have hg0:(Dv gtE G0 g).p v W:=Dv.weak h fun b _ hb=>hb.elim
 obtain⟨u1,u2,rfl,h1,h2⟩:=Dv.gt.1 hg0
 replace h1:=Dv.toB h1
 have hvl:=fC ok
 obtain⟨ids,hids⟩:=eqX (ai (vset g.1))
 obtain⟨F,hF⟩:=eqX (fun x=>cyR (nbA g) ids g.1.length [x]:Nat→List (List Nat))
 have hcy:cyA g=ids.flatMap F:=by rw[hF,hids];rfl
 rw[← hids] at hvl
 rw[hcy]
 have hFl:∀k,((ids.take k).flatMap F).length≤14680064:=fun k=>by
  have h1:=jg (F:=F) (m:=8 ^ g.1.length) (fun x=>by rw[hF];exact kQ (by omega) _ _) (ids.take k)
  have h2:(ids.take k).length * 8 ^ g.1.length≤7 * 8 ^ g.1.length:=Nat.mul_le_mul_right _ (Nat.le_trans (List.length_take_le' _ _) (by omega))
  have h3:=ug hl1
  omega
 refine eN [.agg #[u1,u2]] [E (.agg #[u1,u2])] Tryz.func68 Tryz.ntmps68 ?_ fun a hf=>?_
 rotate_left
 rotate_right
 ·exact arg1 rfl
 have e:=Ext.rfl' W
 refine seq <| ac <| tB hf rfl fun a b1 w v1 hv1 e' hb1 hs1 B1 hf=>?_
 replace e:=e.tr e'
 refine tA hf rfl fun a hf=>aa ?_
 cases hv1
 obtain⟨N1,hN1⟩:=eqX w.heap.size
 have hN1s:N1≤w.heap.size:=Nat.le_of_eq hN1
 have hWN:W.heap.size≤N1:=by rw[hN1];exact e.size
 have lb1:b1<N1:=by rw[hN1];exact B1.lt
 have hKN:∀b,K b→b<N1:=fun b hb=>Nat.lt_of_lt_of_le (hK b hb) hWN
 replace hf:=hf.keep [1]
 refine seq <| ac <| tA hf rfl fun a hf=>aa ?_
 refine seq <| seq ?_
 refine ac <| tA hf rfl fun a hf=>aa ?_
 have Ho:OwR (slE intE) 35 N1 K w (((ids.take 0).flatMap F).map ah) (.slice none 0 0):=OwR.nil (slE intE) _ hN1s hKN
 replace hf:=hf.keep [1,3,4]
 refine blk (aK (fun r0 a w=>∃(k:Nat) (uo:Value),r0=g.1.length - k∧k≤g.1.length∧Fr 24 a w [(1,E (ptr b1)),(3,E uo),(4,E (I k))]∧Ext W w∧Blk w b1 #[u1,u2] 25∧OwR (slE intE) 35 N1 K w (((ids.take k).flatMap F).map ah) uo) g.1.length ⟨0,.slice none 0 0,rfl,by omega,hf,e,⟨B1,Ho⟩⟩ ?_)
 rintro r0 a w ⟨k,uo,rfl,hk,hf,e,B1,Ho⟩
 refine seq <| seq ?_
 refine rgN 5 hf <| st (mv rfl) <| st (fA U25 rfl T22 rfl) <| st (ld1 T22 rfl B1 rfl) <| st (aI U22 (isE rfl (vst e h1))) <| st (lss rfl rfl) <| en fun a w e' hf=>?_
 obtain⟨e,B1,Ho⟩:=up3 e' e B1 Ho
 refine aa <| ifc hf rfl (fun hc=>aj ?_) (fun hc=>aH ?_)
 rotate_left
 rotate_left
 ·have hlt:=ltC hc
  replace hf:=hf.keep [1,3,4]
  refine seq <| blk ?_
  have hx0:=List.getElem?_eq_getElem hlt
  generalize g.1[k]=x at hx0
  obtain⟨n,hn,hnV,hen⟩:=kO ok hx0
  rw[← hids] at hen
  obtain⟨x1,x2⟩:=x
  subst hn
  have hsc:(ids.take (k+1)).flatMap F=(ids.take k).flatMap F++F n:=by rw[bA hen,List.flatMap_append];simp
  have hol:=hFl (k+1)
  obtain⟨out,hout⟩:=eqX ((ids.take k).flatMap F)
  rw[← hout] at hsc Ho
  rw[hsc,List.length_append] at hol
  obtain⟨N2,hN2⟩:=eqX w.heap.size
  have hown:∀b,GO K uo b→b<N2:=fun b hb=>by
   rcases hb with hb|hb
   ·have:=hKN b hb;have:=Ho.base;omega
   ·have:=(Ho.lt hb).2;omega
  have hN2s:N2≤w.heap.size:=Nat.le_of_eq hN2
  have e5:=e
  have n1:=Ho.neLt lb1
  refine rgG 10 Mix.mix hf <| st (mv rfl) <| st ((ldW T25 rfl B1 rfl).eq ((rfl:_=Value.agg #[u1,u2]))) <| st (fA U25 rfl T22 rfl) <| st (ld1 T22 rfl B1 rfl) <| st (mv rfl) <| st (aG U22 S45 (isE rfl (vst e h1)) rfl (by omega) (hx0)) <| st (aB U45 rfl T3 (by decide) (Fld.fst Fld.refl) (isR rfl)) <| st (ldI T3 (isR rfl)) <| st (aX (e:=intE) (G:=G0) U35 I3 rfl (by decide) rfl (fun b hb=>hb.elim) (isI rfl)) <| st (ap (A:=Dv (slE (slE intE)) (GO K uo) ((F n).map ah)) (B:=E (.agg #[u1,u2])) (C:=Dv (slE intE) G0 [(n:Int)]) pN rfl rfl (fun x y w' he k1 k2=>by cases k1;rw[hF,hids];exact a3i g ok hl1 hl2 g.1.length [n] _ y (GO K uo) w' (fun b hb=>by have:=hown b hb;have:=he.size;omega) (vst (e5.tr he) hg0) k2 (by simp) (by simp) (fun y hy=>by rw[List.mem_singleton.1 hy];exact aD.2 ⟨aA hnV,hnV⟩) hl1 (by simp))) ?_
  refine en fun a w e' hf=>?_
  obtain⟨Ho,e,B1⟩:=up3 e' Ho e B1
  replace hf:=hf.kp [1,3,4,12,21]
  haveI hin:∀G0,InR (GB W G0) _:=OwR.inGB (W:=W) Ho hWN
  refine bG U39 I35 rfl rfl hf (by decide) rfl Ho (isR rfl) (by simp only[List.length_map];omega) (by simp only[List.length_map,maxLen];omega) fun a v w hg hat Hn hf=>?_
  replace e:=e.gro hg (Ho.row (W:=W) hWN)
  have hrow:=Ho.row (W:=W) hWN
  replace Ho:=Hn
  replace B1:=B1.gro hg (by assumption)
  replace Ho:=Hn;clear Hn hg hat hin
  refine tA hf rfl fun a hf=>aa ?_
  rw[← List.map_append,← hsc] at Ho
  refine rgN 2 hf <| st (mv rfl) <| st ((add rfl rfl (by omega)).eq (iN k)) <| en fun a w e' hf=>?_
  obtain⟨Ho,e,B1⟩:=up3 e' Ho e B1
  refine tA hf rfl fun a hf=>aa ?_
  replace hf:=hf.keep [1,3,4]
  refine⟨_,?_,k+1,_,rfl,by omega,hf,e,?_⟩
  ·omega
  exact⟨B1,Ho⟩
 ·obtain rfl:=dnE hc hk
  rw[List.take_of_length_le (Nat.le_of_eq hvl)] at Ho
  replace hf:=hf.keep [3]
  refine seq <| rgN 1 hf <| st (mv rfl) <| en fun a w e' hf=>?_
  obtain⟨Ho,e⟩:=up2 e' Ho e
  refine tA hf rfl fun a hf=>aa <| ak <| an rfl hf rfl ?_
  rintro _ rfl
  exact⟨_,rfl,e,Ho.sl⟩
theorem a3k {a b:List Nat}{k x y:Nat}(h:a.take k=b.take k)(hx:a[k]?=some x)(hy:b[k]?=some y)(hne:x≠y):lsF a b=decide (x<y):=by
 obtain⟨h1,h2⟩:=List.getElem?_eq_some_iff.1 hx
 obtain⟨h3,h4⟩:=List.getElem?_eq_some_iff.1 hy
 rw[← List.take_append_drop k a,← List.take_append_drop k b,h,nN,List.drop_eq_getElem_cons h1,List.drop_eq_getElem_cons h3,h2,h4,lsF,if_neg hne]
theorem a3l {a b:List Nat}(h:a.take (min a.length b.length)=b.take (min a.length b.length)):lsF a b=decide (a.length<b.length):=by
 by_cases hl:a.length<b.length
 ·rw[Nat.min_eq_left (by omega),List.take_length] at h
  have h1:=List.take_append_drop a.length b
  rw[← h] at h1
  have h2:lsF (a++[]) (a++b.drop a.length)=lsF [] (b.drop a.length):=nN _ _ _
  rw[List.append_nil,h1] at h2
  rw[h2,decide_eq_true hl,List.drop_eq_getElem_cons hl,lsF]
 ·rw[Nat.min_eq_right (by omega),List.take_length] at h
  have h1:=List.take_append_drop b.length a
  rw[h] at h1
  have h2:lsF (b++a.drop b.length) (b++[])=lsF (a.drop b.length) []:=nN _ _ _
  rw[List.append_nil,h1] at h2
  rw[h2,decide_eq_false hl]
  cases a.drop b.length <;> rfl
theorem gl {a:List Nat}{k x:Nat}(h:a[k]?=some x):(ah a)[k]?=some (x:Int):=by rw[ah,List.getElem?_map,h];rfl
theorem a3m {G G':Nat→Prop}(p q:List Nat)(v u:Value)(W:World)(h:(Dv (slE intE) G (ah p)).p v W)(h':(Dv (slE intE) G' (ah q)).p u W)(hl:p.length≤100000)(hl':q.length≤100000) :
  Calls Tryz.prog 71 #[v,u] W (Post (E (B (lsF p q))) W):=by
 refine eN [v,u] [Dv (slE intE) G0 (ah p),Dv (slE intE) G0 (ah q)] Tryz.func71 Tryz.ntmps71 ?_ fun a hf=>?_
 rotate_left
 rotate_right
 ·exact arg2 (Dv.weak h fun b _ hb=>hb.elim) (Dv.weak h' fun b _ hb=>hb.elim)
 have e:=Ext.rfl' W
 have hpn:=bB p
 have hqn:=bB q
 obtain⟨m,hm⟩:=eqX (min p.length q.length)
 have hcd:∀k:Nat,(decide ((k:Int)<(((ah p).length:Nat):Int))&&decide ((k:Int)<(((ah q).length:Nat):Int)))=decide (k<m):=fun k=>by
  rw[Bool.eq_iff_iff,Bool.and_eq_true,decide_eq_true_eq,decide_eq_true_eq,decide_eq_true_eq];omega
 refine seq <| ac <| tA hf rfl fun a hf=>aa ?_
 refine seq <| seq ?_
 refine ac <| tA hf rfl fun a hf=>aa ?_
 replace hf:=hf.keep [0,1,5]
 refine blk (aK (fun r0 a w=>∃(k:Nat) ,r0=m - k∧k≤m∧Fr 41 a w [(0,Dv (slE intE) G0 (ah p)),(1,Dv (slE intE) G0 (ah q)),(5,E (I k))]∧Ext W w∧p.take k=q.take k) m ⟨0,rfl,by omega,hf,e,rfl⟩ ?_)
 rintro r0 a w ⟨k,rfl,hk,hf,e,ht⟩
 refine seq <| seq ?_
 refine rgN 10 hf <| st (mv rfl) <| st (mv rfl) <| st (aI U35 (isR rfl)) <| st (lss rfl rfl) <| st (mv rfl) <| sgE rfl rfl (.k 5 rfl .n) (fun hgd=>mv rfl) <| sgE rfl rfl (.k 1 rfl .n) (fun hgd=>mv rfl) <| sgE rfl rfl (.c 12 rfl (fun h=>h) .n) (fun hgd=>aI U35 (isR rfl)) <| sgE rfl rfl (.c 11 rfl (fun h=>h) (.c 13 rfl (fun h=>h) .n)) (fun hgd=>lss rfl rfl) <| st ((bF rfl rfl (fun h=>by rw[h];rfl)).eq (congrArg Value.bool (hcd k))) ?_
 refine en fun a w e' hf=>?_
 replace e:=e.tr e'
 refine aa <| ifc hf rfl (fun hc=>aj ?_) (fun hc=>aH ?_)
 rotate_left
 rotate_left
 ·have hlt:k<m:=by have:=of_decide_eq_true hc;(try dsimp only at this);omega
  replace hf:=hf.keep [0,1,5]
  refine seq <| blk ?_
  have hx:=List.getElem?_eq_getElem (show k<p.length by omega)
  have hy:=List.getElem?_eq_getElem (show k<q.length by omega)
  generalize p[k]=x at hx
  generalize q[k]=y at hy
  refine seq <| rgG 9 Mix.mix hf <| st (mv rfl) <| st (mv rfl) <| st (aG U35 S3 (isR rfl) rfl (by omega) (gl hx)) <| st (ldI T3 (isR rfl)) <| st (mv rfl) <| st (mv rfl) <| st (aG U35 S3 (isR rfl) rfl (by omega) (gl hy)) <| st (ldI T3 (isR rfl)) <| st (neq rfl rfl) <| en fun a w e' hf=>?_
  replace e:=e.tr e'
  refine aa ?_
  by_cases hxy:x=y
  ·repeat refine seq ?_
   refine ifc hf rfl (fun hb=>?_) (fun hb=>?_)
   ·subst hxy;simp at hb
   ·refine aj <| rgN 2 hf <| st (mv rfl) <| st ((add rfl rfl (by omega)).eq (iN k)) <| en fun a w e' hf=>?_
    replace e:=e.tr e'
    refine tA hf rfl fun a hf=>aa ?_
    replace hf:=hf.keep [0,1,5]
    refine⟨_,?_,k+1,rfl,by omega,hf,e,?_⟩
    ·omega
    rw[bA hx,bA hy,ht,hxy]
  ·repeat refine seq ?_
   refine ifc hf rfl (fun hb=>?_) (fun hb=>?_)
   ·refine seq <| rgG 9 Mix.mix hf <| st (mv rfl) <| st (mv rfl) <| st (aG U35 S3 (isR rfl) rfl (by omega) (gl hx)) <| st (ldI T3 (isR rfl)) <| st (mv rfl) <| st (mv rfl) <| st (aG U35 S3 (isR rfl) rfl (by omega) (gl hy)) <| st (ldI T3 (isR rfl)) <| st (lss rfl rfl) <| en fun a w e' hf=>?_
    replace e:=e.tr e'
    refine tA hf rfl fun a hf=>aa <| ak <| an rfl hf rfl ?_
    rintro _ rfl
    exact⟨_,rfl,e,congrArg B (by rw[a3k ht hx hy hxy];exact decide_eq_decide.2 (by omega))⟩
   ·have h9:(x:Int)=y:=by simpa using hb
    exact absurd (by omega) hxy
 ·obtain rfl:k=m:=by have:=of_decide_eq_false hc;(try dsimp only at this);omega
  refine seq <| rgN 5 hf <| st (mv rfl) <| st (aI U35 (isR rfl)) <| st (mv rfl) <| st (aI U35 (isR rfl)) <| st (lss rfl rfl) <| en fun a w e' hf=>?_
  replace e:=e.tr e'
  refine tA hf rfl fun a hf=>aa ?_
  rw[hm] at ht
  refine ak <| an rfl hf rfl ?_
  rintro _ rfl
  exact⟨_,rfl,e,congrArg B (by rw[a3l ht];exact decide_eq_decide.2 (by omega))⟩
theorem a3n {g:GT}(ok:Gr.Ok g)(hl1:g.1.length≤7):(cyA g).length≤100000000∧∀c∈cyA g,c≠[]∧c.length≤100000:=by
 constructor
 ·have h1:=jg (F:=fun x=>cyR (nbA g) (ai (vset g.1)) g.1.length [x]) (m:=8 ^ g.1.length) (fun x=>kQ (by rw[fC ok];exact hl1) _ _) (ai (vset g.1))
  rw[fC ok] at h1
  have h2:g.1.length * 8 ^ g.1.length≤7 * 8 ^ g.1.length:=Nat.mul_le_mul_right _ hl1
  have h3:=ug hl1
  show (List.flatMap _ _).length≤_
  omega
 ·intro c hc
  have hM:=(nP ok).1 hc
  have h3:=hM.cyc.three
  have h1:=eo (ah c) (ah (ai (vset g.1))) (List.pairwise_map.2 ((ud hM.cyc).imp fun h h'=>h (by omega))) (fun x hx=>by
   obtain⟨y,hy,rfl⟩:=List.mem_map.1 hx
   exact cK.2 (uc ok hM.cyc y hy))
  rw[bB,bB,fC ok] at h1
  exact⟨fun h=>by rw[h] at h3;simp at h3,by omega⟩
end Go.Mono
namespace Go.MonoD
open Go Go.Proofs Go.RowKit Go.Mono
def SlC (xs:List Int)(v:Value)(w:World):Prop:=(v=.slice none 0 0∧xs=[])∨∃ad cap,v=.slice (some ad) xs.length cap∧ad.block<w.heap.size∧∀i z,xs[i]?=some z→w.cell? (ad.add i)=some (I z)
theorem SlC.ext {xs:List Int}{v:Value}{w w':World}(h:SlC xs v w)(e:Ext w w'):SlC xs v w':=by
 rcases h with h|⟨ad,cap,h1,h2,h3⟩
 ·exact .inl h
 ·refine .inr ⟨ad,cap,h1,Nat.lt_of_lt_of_le h2 e.size,fun i z hz=>?_⟩
  rw[World.cell?_of_block (w:=w) (by rw[Mono.add_block];exact e.block _ h2)]
  exact h3 i z hz
theorem uh:∀xs:List Int,xs.flatMap Mono.intF=xs.map I
 | []=>rfl
 | x::xs=>by rw[List.flatMap_cons,uh xs];rfl
theorem slC_of {G:Nat→Prop}{xs:List Int}{v:Value}{w:World}(h:(Mono.Dv (Mono.slE Mono.intE) G xs).p v w):SlC xs v w:=by
 rcases Mono.Dv.sl.1 h with ⟨h1,h2⟩|⟨ad,cap,cs,h1,_,_,h3,h4,h5⟩
 ·exact .inl ⟨h1,h2⟩
 ·refine .inr ⟨ad,cap,h1,h3,fun i z hz=>h5 i _ ?_⟩
  rw[Mono.intFF.cells] at h4
  rw[h4,uh,List.getElem?_map,hz];rfl
def PtC (z:Int):VA:=⟨fun u w=>∃ad,u=.pointer (some ad)∧ad.block<w.heap.size∧w.cell? ad=some (I z),fun u w w' e ⟨ad,h1,h2,h3⟩=>⟨ad,h1,Nat.lt_of_lt_of_le h2 e.size,by rw[World.cell?_of_block (w:=w) (e.block _ h2)];exact h3⟩⟩
section
variable {P:Program}{w0:World}{L:Env}{dst:Option Tmp}{ty:TypeId}{pos:String}{aft:Array Edge}{g:Option (Nat×Bool)}{t te:TypeId}{x y:Operand}{xs:List Int}{v:Value}
theorem gm (ht:P.underlying t=some (.slice te))(hx:opd L x=some (E v))(h:SlC xs v w0):OpC P w0 L ⟨dst,.call ⟨.builtin .len,#[x],#[t]⟩,ty,pos,aft,g⟩ (E (I (xs.length:Nat))):=
 aS fun ρ w he hv=>by
  have h1:=opE hv (x:=x) (by simp[Op.operands,Call.operands]) hx
  refine⟨_,?_,rfl⟩
  rcases h with ⟨rfl,rfl⟩|⟨ad,cap,rfl,_⟩
  ·simp[execOp,resolve,invoke,builtin,Builtin.len_,h1,run_underlying ht,goInt]
  ·simp[execOp,resolve,invoke,builtin,Builtin.len_,h1,run_underlying ht,goInt]
theorem ui {j:Nat}{z:Int}(ht:P.underlying t=some (.slice te))(hs:(P.info? te).map (·.size)=some 1)(hx:opd L x=some (E v))(h:SlC xs v w0)(hy:opd L y=some (E (I (j:Nat))))(hz:xs[j]?=some z) :
  OpC P w0 L ⟨dst,.indexAddr t x y,ty,pos,aft,g⟩ (PtC z):=
 aS fun ρ w he hv=>by
  have h1:=opE hv (x:=x) (by simp[Op.operands]) hx
  have h2:=opE hv (x:=y) (by simp[Op.operands]) hy
  have hlt:=(List.getElem?_eq_some_iff.1 hz).1
  rcases h.ext he with ⟨rfl,rfl⟩|⟨ad,cap,rfl,h3,h4⟩
  ·simp at hlt
  ·have hi:(0:Int)≤(j:Int)∧(j:Int)<(xs.length:Int):=by omega
   have hsz:∀w,(sizeOf te).run P w=.ok 1 w:=fun w=>by
    cases hi:P.info? te with
    | none=>simp[hi] at hs
    | some i=>simp[hi] at hs;simp[sizeOf,typeInfo,hi,hs]
   refine⟨.pointer (some (ad.add j)),?_,_,rfl,by rw[Mono.add_block];exact h3,h4 j z hz⟩
   simp[execOp,h1,h2,Instr.indexAt,asIntOf,run_underlying ht,hlt,hsz]
theorem ldC {z:Int}(ht:TI P t false 1)(hx:opd L x=some (PtC z)):OpC P w0 L ⟨dst,.load t x,ty,pos,aft,g⟩ (E (I z)):=
 aS fun ρ w he hv=>by
  obtain⟨ad,h1,h2,h3⟩:=hv x (by simp[Op.operands]) _ hx
  refine⟨_,?_,rfl⟩
  have:=fJ ht (w:=w) (a:=ad) (v:=I z) h3
  simp[execOp,h1,Instr.loadAt,Instr.sureAddr,this]
end
def aT:List Int→List Int→Int
 | [],[]=>0
 | [],_::_ => -1
 | _::_,[]=>1
 | x::xs,y::ys=>if cmpI x y≠0 then cmpI x y else aT xs ys
theorem cmpZ_spec (xs ys:List Int)(v u:Value)(W:World)(h:SlC xs v W)(h':SlC ys u W)(hl:xs.length≤100000):Calls Tryz.prog 67 #[v,u] W (Post (E (I (aT xs ys))) W):=by
 refine enter (args:=[v,u]) (As:=[E v,E u]) Tryz.func67 rfl Tryz.ntmps67 (Nat.le_of_ble_eq_true rfl) ?_ (fun a hf=>?_) (Nat.le_of_ble_eq_true rfl)
 rotate_left
 rotate_right
 ·exact arg2 rfl rfl
 have e:=Ext.rfl' W
 refine seq <| ac <| aC hf rfl (by decide) fun a hf=>aa ?_
 refine seq <| seq ?_
 refine az 3 hf (by decide +kernel) <| st (mv rfl) <| st (gm Tryz.underlying35 rfl h) <| st (mv rfl) <| en fun a w e' hf=>?_
 replace h:=h.ext e'
 replace h':=h'.ext e'
 replace e:=e.tr e'
 refine aa ?_
 have hI:aT (xs.drop 0) (ys.drop 0)=aT xs ys∧0≤ys.length:=⟨rfl,Nat.zero_le _⟩
 replace hf:=hf.keep [0,1,9,10,11]
 refine blk (aK (fun r0 a w=>∃(k:Nat) ,r0=xs.length - k∧k≤xs.length∧Fr 36 a w [(0,E v),(1,E u),(9,E v),(10,E (I (xs.length:Nat))),(11,E (I k))]∧Ext W w∧SlC xs v w∧SlC ys u w∧(aT (xs.drop k) (ys.drop k)=aT xs ys∧k≤ys.length)) xs.length ⟨0,rfl,by omega,hf,e,⟨h,h',hI⟩⟩ ?_)
 rintro r0 a w ⟨k,rfl,hk,hf,e,h,h',hI⟩
 refine seq <| az 1 hf (by decide +kernel) <| st (lss rfl rfl) <| en fun a w e' hf=>?_
 replace h:=h.ext e'
 replace h':=h'.ext e'
 replace e:=e.tr e'
 refine aa <| seq <| ifc hf rfl (fun hc=>aj ?_) (fun hc=>aH ?_)
 rotate_left
 rotate_left
 ·have hlt:=ltC hc
  replace hf:=hf.keep [0,1,9,10,11]
  refine seq <| blk ?_
  have hx:=List.getElem?_eq_getElem hlt
  generalize xs[k]=x at hx
  have hxd:xs.drop k=x::xs.drop (k+1):=by
   obtain⟨hk',he'⟩:=List.getElem?_eq_some_iff.1 hx
   rw[← he',List.getElem_cons_drop]
  obtain⟨hI1,hI2⟩:=hI
  rw[hxd] at hI1
  refine seq <| az 3 hf (by decide +kernel) <| st (mv rfl) <| st (ui Tryz.underlying35 Mono.S3 rfl h rfl hx) <| st (ldC T3 rfl) <| en fun a w e' hf=>?_
  replace h:=h.ext e'
  replace h':=h'.ext e'
  replace e:=e.tr e'
  refine aC hf rfl (by decide) fun a hf=>aC hf rfl (by decide) fun a hf=>aa ?_
  by_cases hky:k<ys.length
  ·have hy:=List.getElem?_eq_getElem hky
   generalize ys[k]=y at hy
   have hyd:ys.drop k=y::ys.drop (k+1):=by
    obtain⟨hk',he'⟩:=List.getElem?_eq_some_iff.1 hy
    rw[← he',List.getElem_cons_drop]
   rw[hyd,aT] at hI1
   refine seq <| seq ?_
   refine az 4 hf (by decide +kernel) <| st (mv rfl) <| st (mv rfl) <| st (gm Tryz.underlying35 rfl h') <| st ((geq rfl rfl).eq (congrArg Value.bool (decide_eq_false (show ¬((ys.length:Nat):Int)≤(k:Int) by omega)))) <| en fun a w e' hf=>?_
   replace h:=h.ext e'
   replace h':=h'.ext e'
   replace e:=e.tr e'
   refine aa <| ifF hf rfl ?_
   refine aj <| seq <| az 4 hf (by decide +kernel) <| st (mv rfl) <| st (mv rfl) <| st (ui Tryz.underlying35 Mono.S3 rfl h' rfl hy) <| st (ldC T3 rfl) <| en fun a w e' hf=>?_
   replace h:=h.ext e'
   replace h':=h'.ext e'
   replace e:=e.tr e'
   refine aC hf rfl (by decide) fun a hf=>aa <| seq <| az 3 hf (by decide +kernel) <| st (mv rfl) <| st (mv rfl) <| st (ap Mono.En92 rfl rfl (fun v u w he h h'=>kb x y v u w h h')) <| en fun a w e' hf=>?_
   replace h:=h.ext e'
   replace h':=h'.ext e'
   replace e:=e.tr e'
   refine aC hf rfl (by decide) fun a hf=>aa <| seq <| az 2 hf (by decide +kernel) <| st (mv rfl) <| st (neq rfl rfl) <| en fun a w e' hf=>?_
   replace h:=h.ext e'
   replace h':=h'.ext e'
   replace e:=e.tr e'
   refine aa <| ifc hf rfl (fun hb=>?_) (fun hb=>?_)
   ·have hb':cmpI x y≠0:=by simpa using hb
    rw[if_pos hb'] at hI1
    refine seq <| az 1 hf (by decide +kernel) <| st (mv rfl) <| en fun a w e' hf=>?_
    replace h:=h.ext e'
    replace h':=h'.ext e'
    replace e:=e.tr e'
    refine aC hf rfl (by decide) fun a hf=>aa <| ak <| an rfl hf rfl ?_
    rintro _ rfl
    exact⟨_,rfl,e,congrArg I hI1⟩
   ·have hb':¬cmpI x y≠0:=by simpa using hb
    rw[if_neg hb'] at hI1
    refine aj <| az 1 hf (by decide +kernel) <| st ((add rfl rfl (by omega)).eq (iN k)) <| en fun a w e' hf=>?_
    replace h:=h.ext e'
    replace h':=h'.ext e'
    replace e:=e.tr e'
    refine lj hf (by decide) (mv rfl) fun a w e' hf=>?_
    replace h:=h.ext e'
    replace h':=h'.ext e'
    replace e:=e.tr e'
    refine aa ?_
    replace hf:=hf.keep [0,1,9,10,11]
    refine⟨_,?_,k+1,rfl,by omega,hf,e,?_⟩
    ·omega
    exact⟨h,h',hI1,by omega⟩
  ·have hke:ys.drop k=[]:=List.drop_of_length_le (by omega)
   rw[hke,aT] at hI1
   refine seq <| seq ?_
   refine az 4 hf (by decide +kernel) <| st (mv rfl) <| st (mv rfl) <| st (gm Tryz.underlying35 rfl h') <| st ((geq rfl rfl).eq (congrArg Value.bool (decide_eq_true (show ((ys.length:Nat):Int)≤(k:Int) by omega)))) <| en fun a w e' hf=>?_
   replace h:=h.ext e'
   replace h':=h'.ext e'
   replace e:=e.tr e'
   refine aa <| ifT hf rfl ?_
   refine seq <| ac <| aC hf rfl (by decide) fun a hf=>aa <| ak <| an rfl hf rfl ?_
   rintro _ rfl
   exact⟨_,rfl,e,congrArg I hI1⟩
 ·obtain rfl:=dnE hc hk
  obtain⟨hI1,hI2⟩:=hI
  rw[List.drop_length] at hI1
  by_cases hly:xs.length<ys.length
  ·have:ys.drop xs.length≠[]:=fun hn=>by have:=congrArg List.length hn;rw[List.length_drop,List.length_nil] at this;omega
   have h2:aT [] (ys.drop xs.length) = -1:=by
    cases hd:ys.drop xs.length with
    | nil=>exact absurd hd this
    | cons _ _=>rfl
   rw[h2] at hI1
   refine seq <| seq ?_
   refine az 5 hf (by decide +kernel) <| st (mv rfl) <| st (gm Tryz.underlying35 rfl h) <| st (mv rfl) <| st (gm Tryz.underlying35 rfl h') <| st ((lss rfl rfl).eq (congrArg Value.bool (decide_eq_true (show ((xs.length:Nat):Int)<((ys.length:Nat):Int) by omega)))) <| en fun a w e' hf=>?_
   replace h:=h.ext e'
   replace h':=h'.ext e'
   replace e:=e.tr e'
   refine aa <| ifT hf rfl ?_
   refine seq <| ac <| aC hf rfl (by decide) fun a hf=>aa <| ak <| an rfl hf rfl ?_
   rintro _ rfl
   exact⟨_,rfl,e,congrArg I hI1⟩
  ·have hd:ys.drop xs.length=[]:=List.drop_of_length_le (by omega)
   rw[hd,aT] at hI1
   refine seq <| seq ?_
   refine az 5 hf (by decide +kernel) <| st (mv rfl) <| st (gm Tryz.underlying35 rfl h) <| st (mv rfl) <| st (gm Tryz.underlying35 rfl h') <| st ((lss rfl rfl).eq (congrArg Value.bool (decide_eq_false (show ¬((xs.length:Nat):Int)<((ys.length:Nat):Int) by omega)))) <| en fun a w e' hf=>?_
   replace h:=h.ext e'
   replace h':=h'.ext e'
   replace e:=e.tr e'
   refine aa <| ifF hf rfl ?_
   refine aj <| seq <| ac <| aC hf rfl (by decide) fun a hf=>aa <| ak <| an rfl hf rfl ?_
   rintro _ rfl
   exact⟨_,rfl,e,congrArg I hI1⟩
end Go.MonoD
namespace Go.Proofs
open Go.Shelf
def Tryz.sortI_ren:Go.Shelf.Ren:=⟨fun|6=>66|15=>113|14=>112|28=>145|29=>146|20=>137|21=>138|22=>139|23=>140|24=>141|25=>142|26=>143|27=>144|46=>180|47=>181|48=>182|49=>183|50=>184|57=>199|n=>n,fun|22=>39|24=>35|25=>102|3=>3|39=>153|0=>0|53=>182|55=>74|4=>4|46=>176|45=>175|50=>106|5=>5|9=>9|66=>196|70=>200|76=>211|77=>212|n=>n,fun|n=>n⟩
theorem Tryz.sortI:Go.Proofs.SlLaysF.n6 Tryz.prog Tryz.sortI_ren:={
 mixed:=by kernel_rfl
 f6:=⟨Tryz.f66.name,by decide,Tryz.func66.trans (congrArg some (by kernel_rfl))⟩
 f14:=⟨Tryz.f112.name,by decide,Tryz.func112.trans (congrArg some (by kernel_rfl))⟩
 f15:=Tryz.func113.trans (congrArg some (by kernel_rfl))
 f20:=⟨Tryz.f137.name,by decide,Tryz.func137.trans (congrArg some (by kernel_rfl))⟩
 f21:=⟨Tryz.f138.name,by decide,Tryz.func138.trans (congrArg some (by kernel_rfl))⟩
 f22:=⟨Tryz.f139.name,by decide,Tryz.func139.trans (congrArg some (by kernel_rfl))⟩
 f23:=⟨Tryz.f140.name,by decide,Tryz.func140.trans (congrArg some (by kernel_rfl))⟩
 f24:=⟨Tryz.f141.name,by decide,Tryz.func141.trans (congrArg some (by kernel_rfl))⟩
 f25:=⟨Tryz.f142.name,by decide,Tryz.func142.trans (congrArg some (by kernel_rfl))⟩
 f26:=⟨Tryz.f143.name,by decide,Tryz.func143.trans (congrArg some (by kernel_rfl))⟩
 f27:=⟨Tryz.f144.name,by decide,Tryz.func144.trans (congrArg some (by kernel_rfl))⟩
 f28:=Tryz.func145.trans (congrArg some (by kernel_rfl))
 f29:=Tryz.func146.trans (congrArg some (by kernel_rfl))
 f46:=⟨Tryz.f180.name,by decide,Tryz.func180.trans (congrArg some (by kernel_rfl))⟩
 f47:=Tryz.func181.trans (congrArg some (by kernel_rfl))
 f48:=Tryz.func182.trans (congrArg some (by kernel_rfl))
 f49:=⟨Tryz.f183.name,by decide,Tryz.func183.trans (congrArg some (by kernel_rfl))⟩
 f50:=⟨Tryz.f184.name,by decide,Tryz.func184.trans (congrArg some (by kernel_rfl))⟩
 f57:=⟨Tryz.f199.name,by decide,Tryz.func199.trans (congrArg some (by kernel_rfl))⟩
 t0:=Tryz.underlying0
 a0:=Tryz.isAgg0
 z0:=Tryz.sizeOf0
 v0:=Tryz.zeroValue0
 t3:=Tryz.underlying3
 a3:=Tryz.isAgg3
 z3:=Tryz.sizeOf3
 v3:=Tryz.zeroValue3
 t4:=Tryz.underlying4
 a4:=Tryz.isAgg4
 z4:=Tryz.sizeOf4
 v4:=Tryz.zeroValue4
 t5:=Tryz.underlying5
 a5:=Tryz.isAgg5
 z5:=Tryz.sizeOf5
 v5:=Tryz.zeroValue5
 t9:=Tryz.underlying9
 a9:=Tryz.isAgg9
 z9:=Tryz.sizeOf9
 v9:=Tryz.zeroValue9
 t22:=Tryz.underlying39
 a22:=Tryz.isAgg39
 z22:=Tryz.sizeOf39
 v22:=Tryz.zeroValue39
 a24:=Tryz.isAgg35
 z24:=Tryz.sizeOf35
 t25:=Tryz.underlying102
 a25:=Tryz.isAgg102
 z25:=Tryz.sizeOf102
 v25:=Tryz.zeroValue102
 t39:=Tryz.underlying153
 a39:=Tryz.isAgg153
 z39:=Tryz.sizeOf153
 v39:=Tryz.zeroValue153
 t45:=Tryz.underlying175
 a45:=Tryz.isAgg175
 z45:=Tryz.sizeOf175
 v45:=Tryz.zeroValue175
 t46:=Tryz.underlying176
 a46:=Tryz.isAgg176
 z46:=Tryz.sizeOf176
 v46:=Tryz.zeroValue176
 t50:=Tryz.underlying106
 a50:=Tryz.isAgg106
 z50:=Tryz.sizeOf106
 v50:=Tryz.zeroValue106
 t53:=Tryz.underlying182
 a53:=Tryz.isAgg182
 z53:=Tryz.sizeOf182
 v53:=Tryz.zeroValue182
 t55:=Tryz.underlying74
 a55:=Tryz.isAgg74
 z55:=Tryz.sizeOf74
 v55:=Tryz.zeroValue74
 t66:=Tryz.underlying196
 a66:=Tryz.isAgg196
 z66:=Tryz.sizeOf196
 v66:=Tryz.zeroValue196
 t70:=Tryz.underlying200
 a70:=Tryz.isAgg200
 z70:=Tryz.sizeOf200
 v70:=Tryz.zeroValue200
 t76:=Tryz.underlying211
 a76:=Tryz.isAgg211
 z76:=Tryz.sizeOf211
 v76:=Tryz.zeroValue211
 t77:=Tryz.underlying212
 a77:=Tryz.isAgg212
 z77:=Tryz.sizeOf212
 v77:=Tryz.zeroValue212 }
end Go.Proofs
namespace Go.Mono
open Go Go.Proofs Go.RowKit Go.Gr
def SBc (bw bo ma ml:Nat)(vw vo:Value)(b:Nat):Prop:=(b=bw∨b=bo∨b=ma∨b=ml)∨OWN vw vo b
structure BcJ (l:List (Int×BS))(V:BS)(bm nm ba bl bw bg bd bo ma ml N:Nat)(G:Nat→Prop)(W:World)(S0 O0 K:Nat→Prop)(b8 b9 id:Nat)(frm:Int)(s:BcS)(vw vo:Value)(w:World):Prop where
 h:BcW l V bm nm ba bl bw bg bd bo ma ml N G s vw vo w
 c:Chg S0 W w
 b8:Blk w b8 #[I (id:Nat)] 3
 b9:Blk w b9 #[I frm] 3
 own:∀b,OWN vw vo b→(O0 b∨W.heap.size≤b)∧¬K b
theorem BcJ.kp {l:List (Int×BS)}{V:BS}{bm nm ba bl bw bg bd bo ma ml N:Nat}{G:Nat→Prop}{W:World}{S0 O0 K:Nat→Prop}{b8 b9 id:Nat}{frm:Int}{s:BcS}{vw vo:Value}{B:Nat}{w w':World}(h:BcJ l V bm nm ba bl bw bg bd bo ma ml N G W S0 O0 K b8 b9 id frm s vw vo w)
  (D:BcD bm ba bl bw bg bd bo ma ml N) (k:Kp B w w') (hW:W.heap.size≤B) (hN:N≤B) (h8:b8<B) (h9:b9<B) (hK:∀b,aW B b→K b) (hG:∀b,aW B b→G b):BcJ l V bm nm ba bl bw bg bd bo ma ml N G W S0 O0 K b8 b9 id frm s vw vo w':=
 ⟨h.h.ch D k.chg (fun b hb=>Nat.le_trans hN hb.1) (fun b hb hh=>(h.own b hb).2 (hK b hh)) hG,h.c.kp k hW,h.b8.kp k (fun hh=>by have:=hh.1;omega),h.b9.kp k (fun hh=>by have:=hh.1;omega),h.own⟩
theorem a3o (w:World)(row:Option Nat):w.grownBy w row:=⟨rfl,rfl,rfl,Nat.le_refl _,fun _ _ _=>rfl⟩
theorem a3p {l:List (Int×BS)}{V:BS}{bm nm ba bl bw bg bd bo ma ml N c0:Nat}(D:BcD bm ba bl bw bg bd bo ma ml N)(hc0:c0≤2000)(hnm:nm≤2000)(hnV:∀i j:Nat,(lkS l (i:Int)).getLsbD j=true→V.getLsbD j=true) :
  ∀(f:Nat) (id:Nat) (frm:Int) (s:BcS) (vw vo:Value) (G:Nat→Prop) (W:World),(∀b,G b→b<W.heap.size)→(G bw∧G bo∧G ma∧G ml)→BcW l V bm nm ba bl bw bg bd bo ma ml N G s vw vo W→BcI V c0 s→V.getLsbD id=true→lkI s.la (id:Int)≤0→unv V s.la≤f →
  Calls Tryz.prog 61 #[I (id:Nat),I frm,ptr ba,ptr bl,ptr bw,ptr bg,ptr bd,ptr bo] W (fun en w'=>en=.returned (.tuple #[])∧∃vw' vo',Chg (SBc bw bo ma ml vw vo) W w'∧BcW l V bm nm ba bl bw bg bd bo ma ml N G (bcF (lkS l) f id frm s) vw' vo' w'∧∀b,OWN vw' vo' b→OWN vw vo b∨W.heap.size≤b):=by
 intro f
 induction f with
 | zero=>
  intro id frm s vw vo G W _ _ _ _ hid hi hu
  exfalso
  have hm:id∈(ai V).filter fun v:Nat=>decide (lkI s.la (v:Int)≤0):=List.mem_filter.2 ⟨aD.2 ⟨aA hid,hid⟩,decide_eq_true hi⟩
  have:=List.length_pos_of_mem hm
  rw[unv] at hu
  omega
 | succ f ih=>
  intro id frm s vw vo G W hG hGs H hI hid hi hu
  obtain⟨p1,p2⟩:=hI.push hid hi
  obtain⟨q1,q2,q3⟩:=nM hI hid hi
  have hal:=hI.al
  have hll:=hI.ll'
  have hwl:=hI.w
  have hid1:=aA hid
  have hwid:(Lit.int .i64 (id:Int)).wf=true:=bP (by omega) (by omega)
  have hwn:=bB s.way
  obtain⟨nb,hnb⟩:=eqX (lkS l)
  rw[← hnb] at hnV
  have dn:=D.n
  have dw:=D.w
  have do':=D.o
  have da:=D.a
  have dl:=D.l
  have hNW:N≤W.heap.size:=H.ow.base
  have ho8:∀b,OWN vw vo b→b<W.heap.size:=fun b hb=>hb.elim (fun h=>(H.ow.lt h).2) fun h=>(H.oo.lt h).2
  refine dx (args:=[I (id:Nat),I frm,ptr ba,ptr bl,ptr bw,ptr bg,ptr bd,ptr bo]) (As:=[E (I (id:Nat)),E (I frm),E (ptr ba),E (ptr bl),E (ptr bw),E (ptr bg),E (ptr bd),E (ptr bo)]) Tryz.func61 rfl Tryz.ntmps61 (Nat.le_of_ble_eq_true rfl) ?_ (fun a hf=>?_) (Nat.le_of_ble_eq_true rfl)
  ·exact cX rfl (cX rfl (cX rfl (cX rfl (cX rfl (cX rfl (cX rfl (cX rfl pV)))))))
  dsimp only[params,Nat.reduceAdd] at hf
  have e:=Ext.rfl' W
  refine seq <| ac <| tB hf rfl fun a b8 w v8 hv8 e' hb8 hs8 B8 hf=>?_
  obtain⟨H,e⟩:=up2 e' H e
  refine tB hf rfl fun a b9 w v9 hv9 e' hb9 hs9 B9 hf=>?_
  obtain⟨H,e,B8⟩:=up3 e' H e B8
  refine aa ?_
  cases hv8
  cases hv9
  replace B8:Blk w b8 #[I (id:Nat)] 3:=B8
  replace B9:Blk w b9 #[I frm] 3:=B9
  have n89:W.heap.size≤b8∧W.heap.size≤b9∧b8≠b9:=by omega
  obtain⟨S0,hS0⟩:=eqX (SBc bw bo ma ml vw vo)
  have c:Chg S0 W w:=e.chg _
  have sw:S0 bw:=by rw[hS0];exact .inl (.inl rfl)
  have so:S0 bo:=by rw[hS0];exact .inl (.inr (.inl rfl))
  have sa:S0 ma:=by rw[hS0];exact .inl (.inr (.inr (.inl rfl)))
  have sl:S0 ml:=by rw[hS0];exact .inl (.inr (.inr (.inr rfl)))
  have sO:∀b,OWN vw vo b→S0 b:=fun b hb=>by rw[hS0];exact .inr hb
  replace hf:=hf.kp [2,3,4,5,6,7,8,9]
  refine seq <| rgN 5 hf <| st (ld1 (v:=.map (some ma)) T43 rfl H.pa rfl) <| st (ld1 T3 rfl B8 rfl) <| st (ld1 (v:=.map (some ma)) T43 rfl H.pa rfl) <| st (a3b U43 rfl H.ma) <| st (add rfl rfl (by omega)) <| en fun a w e' hf=>?_
  obtain⟨H,c,B8,B9⟩:=up4 e' H c B8 B9
  replace hf:=hf.kp [2,3,4,5,6,7,8,9,12,13,16]
  refine dP (V:=iKV) (i:=(id:Int)) (c:=((s.la.length:Nat)+1:Int)) U43 hf rfl rfl rfl H.ma (by simp only[maxLen];omega) hwid (bP (by omega) (by omega)) fun w hg HM hf=>?_
  replace H:=H.putA D hg HM hGs.2.2.1
  replace c:=c.gr hg (.inl sa);replace B8:=B8.gr hg (by omega);replace B9:=B9.gr hg (by omega);clear hg HM
  refine aa ?_
  replace hf:=hf.kp [2,3,4,5,6,7,8,9]
  obtain⟨la1,hla1⟩:=eqX (aV s.la (id:Int) ((s.la.length:Nat)+1:Int))
  rw[← hla1] at H
  have hs1:bcP id s={ la:=la1,ll:=aV s.ll (id:Int) (lkI la1 (id:Int)),way:=s.way++[id],out:=s.out }:=by rw[hla1];rfl
  have hl1:0≤lkI la1 (id:Int)∧lkI la1 (id:Int)≤1025:=by have:=p1.ar (id:Int);rw[hs1] at this;exact this
  refine seq <| rgN 5 hf <| st (ld1 (v:=.map (some ml)) T43 rfl H.pl rfl) <| st (ld1 T3 rfl B8 rfl) <| st (ld1 (v:=.map (some ma)) T43 rfl H.pa rfl) <| st (ld1 T3 rfl B8 rfl) <| st (cU U43 rfl H.ma rfl hwid) <| en fun a w e' hf=>?_
  obtain⟨H,c,B8,B9⟩:=up4 e' H c B8 B9
  replace hf:=hf.kp [2,3,4,5,6,7,8,9,17,18,21]
  refine dP (V:=iKV) (i:=(id:Int)) (c:=lkI la1 (id:Int)) U43 hf rfl rfl rfl H.ml (by simp only[maxLen];omega) hwid (bP (by omega) (by omega)) fun w hg HM hf=>?_
  replace H:=H.putL D hg HM hGs.2.2.2
  replace c:=c.gr hg (.inl sl);replace B8:=B8.gr hg (by omega);replace B9:=B9.gr hg (by omega);clear hg HM
  refine aa ?_
  replace hf:=hf.kp [2,3,4,5,6,7,8,9]
  refine seq <| rgN 3 hf <| st (ld1 (v:=vw) T35 rfl H.pw rfl) <| st (ld1 T3 rfl B8 rfl) <| st (aX (e:=intE) (G:=GO G0 vw) U35 I3 rfl (by decide) rfl H.ow.avs (isI rfl)) <| en fun a w e' hf=>?_
  obtain⟨H,c,B8,B9⟩:=up4 e' H c B8 B9
  replace hf:=hf.kp [2,3,4,5,6,7,8,9,22,24]
  refine bG U35 I3 rfl rfl hf (by decide) rfl H.ow (isR rfl) (by rw[hwn];simp only[List.length_singleton];omega) (by rw[hwn];simp only[List.length_singleton,maxLen];omega) fun a vw1 w' hg hat Hn hf=>?_
  have Bw:=H.pw.gro hg (fun h=>by have:=(H.ow.lt h).1;omega)
  have hsz1:=c.size
  have l8:=B8.lt
  have l9:=B9.lt
  replace hf:=hf.kp [2,3,4,5,6,7,8,9,25]
  refine aO T35 hf rfl rfl Hn.one Bw Nat.zero_lt_one fun w2 hg2 hsz Bw hf=>?_
  rw[show ah s.way++[(id:Int)]=ah (s.way++[id]) from (gV _ _).symm] at Hn
  replace H:=H.setW D hg hat Hn hg2 Bw hGs.1
  have ho1:∀b,vw1.ownBlock=some b→vw.ownBlock=some b∨W.heap.size≤b:=fun b hb=>by
   rcases hat with h|h
   ·exact .inl (by rw[← h];exact hb)
   ·rw[h] at hb;cases hb;exact .inr hsz1
  replace c:=(c.tr2 (Chg.row hg) fun b hb=>.inl (sO b (.inl hb))).gr hg2 (.inl sw)
  replace B8:=(B8.gro hg (fun h=>by have:=ho8 _ (.inl h);omega)).gr hg2 (by omega)
  replace B9:=(B9.gro hg (fun h=>by have:=ho8 _ (.inl h);omega)).gr hg2 (by omega)
  have ho1k:∀b,OWN vw1 vo b→(OWN vw vo b∨W.heap.size≤b)∧b≠b8∧b≠b9:=fun b hb=>by
   rcases hb with hb|hb
   ·rcases hat with h|h
    ·have hb':vw.ownBlock=some b:=by rw[← h];exact hb
     have:=ho8 b (.inl hb')
     exact⟨.inl (.inl hb'),by omega,by omega⟩
    ·rw[h] at hb;cases hb
     exact⟨.inr hsz1,by omega,by omega⟩
   ·have:=ho8 b (.inr hb)
    exact⟨.inl (.inr hb),by omega,by omega⟩
  generalize w2=w at *
  refine aa ?_
  replace H:BcW l V bm nm ba bl bw bg bd bo ma ml N G (bcP id s) vw1 vo w:=by rw[hs1];exact H
  obtain⟨s1,hs1'⟩:∃s1,s1=bcP id s:=⟨_,rfl⟩
  rw[← hs1'] at H p1 p2 q1 q2 q3
  have hq0:BcQ V c0 s1 s1:=BcQ.rfl' p1
  obtain⟨Nb,hNb⟩:=eqX (nb (id:Int))
  obtain⟨Nz,hNz⟩:=eqX w.heap.size
  have hlk:lkS l (id:Int)=Nb:=by rw[hNb,hnb]
  replace hf:=hf.kp [2,3,4,5,6,7,8,9]
  have hdv:=MpR.dvE H.m (Nat.le_refl nm) (G:=G0) (fun h=>h)
  refine seq <| rgN 5 hf <| st (fA U79 rfl T77 rfl) <| st (ld1 (v:=.map (some bm)) T77 rfl H.pg (bN _ _)) <| st (ld1 T3 rfl B8 rfl) <| st ((lkM (l:=l) (i:=(id:Int)) U77 bZ (isE rfl hdv) rfl hwid).eq (congrArg ae hlk)) <| st (aw (A:=dh Nz Nb) dr rfl (fun v w' he h=>by cases h;exact Calls.mono (du _ w') (fun en w2 ⟨u,h1,h2,b',h3,h4,h5⟩=>⟨u,h1,h2,b',by have:=he.size;omega,h4,h5⟩))) ?_
  refine en fun a w e' hf=>?_
  obtain⟨H,c,hdv,B8,B9⟩:=up5 e' H c hdv B8 B9
  refine aa ?_
  obtain⟨vv,⟨b30,h30,rfl,BS⟩,hf⟩:=hf.fix 30 rfl
  replace hf:=hf.kp [2,3,4,5,6,7,8,9,30]
  have hBW:W.heap.size≤w.heap.size:=c.size
  have l8:=B8.lt
  have l9:=B9.lt
  obtain⟨K,hK⟩:∃K:Nat→Prop,K=fun b=>b=b8∨b=b9∨aW w.heap.size b:=⟨_,rfl⟩
  obtain⟨G1,hG1⟩:∃G1:Nat→Prop,G1=fun b=>G b∨aW w.heap.size b:=⟨_,rfl⟩
  have hKh:∀b,aW w.heap.size b→K b:=fun b hb=>by rw[hK];exact .inr (.inr hb)
  have hGh:∀b,aW w.heap.size b→G1 b:=fun b hb=>by rw[hG1];exact .inr hb
  have hGG:∀b,G b→G1 b:=fun b hb=>by rw[hG1];exact .inl hb
  have hGs1:G1 bw∧G1 bo∧G1 ma∧G1 ml:=⟨hGG _ hGs.1,hGG _ hGs.2.1,hGG _ hGs.2.2.1,hGG _ hGs.2.2.2⟩
  have hKl:∀b,K b→b<w.heap.size+3:=fun b hb=>by
   rw[hK] at hb
   rcases hb with hb|hb|hb
   ·omega
   ·omega
   ·exact hb.2
  have hG1l:∀b,G1 b→b<w.heap.size+3:=fun b hb=>by
   rw[hG1] at hb
   rcases hb with hb|hb
   ·have:=hG b hb;omega
   ·exact hb.2
  have hK8:K b8∧K b9:=by rw[hK];exact⟨.inl rfl,.inr (.inl rfl)⟩
  have hJ0:BcJ l V bm nm ba bl bw bg bd bo ma ml N G1 W S0 (OWN vw vo) K b8 b9 id frm s1 vw1 vo w:=⟨H.weak fun b hb hh=>by
    rw[hG1] at hh
    rcases hh with hh|hh
    ·exact hh
    ·have:=hh.1;omega,c,B8,B9,fun b hb=>⟨(ho1k b hb).1,fun hh=>by
    rw[hK] at hh
    have h1:=ho1k b hb
    have h2:b<w.heap.size:=hb.elim (fun h=>(H.ow.lt h).2) fun h=>(H.oo.lt h).2
    rcases hh with hh|hh|hh
    ·exact h1.2.1 hh
    ·exact h1.2.2 hh
    ·have:=hh.1;omega⟩⟩
  have hNB:N≤w.heap.size:=H.ow.base
  refine blk <| dz (S:=Nb) hf rfl BS (by decide) (fun sl w1=>∃vw1 vo1,BcJ l V bm nm ba bl bw bg bd bo ma ml N G1 W S0 (OWN vw vo) K b8 b9 id frm (sl.foldl (bcT (bcF nb f) id frm) s1) vw1 vo1 w1∧BcQ V c0 s1 (sl.foldl (bcT (bcF nb f) id frm) s1)) (fun _ _=>False) (fun sl w1 ⟨_,_,h,_⟩=>h.h.t)
   ⟨vw1,vo,hJ0,hq0⟩ (fun sl w1 w2 ⟨v1,v2,h,hq⟩ hs k=>⟨v1,v2,h.kp D k hBW hNB l8 l9 hKh hGh,hq⟩) (fun _ _ _ h=>h.elim) ?_ ?_ (fun _ _ _ _ _ _ h=>h.elim)
  ·intro lp sl' x rest a1 w1 hs hJ hlw hf
   have hxV:V.getLsbD x=true:=hnV id x (by rw[← hNb];exact (aD.1 (by rw[hs];simp)).2)
   have hx1024:x<1024:=aA hxV
   have hwx:(Lit.int .i64 (x:Int)).wf=true:=bP (by omega) (by omega)
   generalize hBz:w.heap.size=Bz at *
   refine ac <| tA hf rfl fun a hf=>aa <| ⟨Kh.rfl' _ _,fun w3 k3 hsz3=>?_⟩
   obtain⟨vx,vy,hJ,hq⟩:=hJ
   have hJ3:=hJ.kp D k3 hBW hNB l8 l9 hKh hGh
   have hw3:Bz+3≤w3.heap.size:=by omega
   replace hf:=hf.pure w3
   obtain⟨H,c,B8,B9,hown⟩:=hJ3
   have kh:=Kh.rfl' Bz w3
   have hstep:((sl'++[x]).foldl (bcT (bcF nb f) id frm) s1)=bcT (bcF nb f) id frm (sl'.foldl (bcT (bcF nb f) id frm) s1) x:=by rw[List.foldl_append];rfl
   obtain⟨sx,hsx⟩:=eqX (sl'.foldl (bcT (bcF nb f) id frm) s1)
   rw[← hsx] at H hq hstep
   obtain⟨tgt,htgt⟩:=eqX (bcT (bcF nb f) id frm sx x)
   have fin:∀v1 v2 w1,BcJ l V bm nm ba bl bw bg bd bo ma ml N G1 W S0 (OWN vw vo) K b8 b9 id frm tgt v1 v2 w1→BcQ V c0 s1 tgt→∃v1 v2,BcJ l V bm nm ba bl bw bg bd bo ma ml N G1 W S0 (OWN vw vo) K b8 b9 id frm ((sl'++[x]).foldl (bcT (bcF nb f) id frm) s1) v1 v2 w1∧BcQ V c0 s1 ((sl'++[x]).foldl (bcT (bcF nb f) id frm) s1):=fun v1 v2 w1 h1 h2=>⟨v1,v2,by rw[hstep,← htgt];exact⟨h1,h2⟩⟩
   have hqs:BcQ V c0 s1 tgt:=by rw[htgt];exact nL hid hq fun hh=>kN hnV f x (id:Int) sx hq.i hxV hh (by have:=kM (V:=V) hq.m;omega)
   rw[bcT] at htgt
   have hqi:=hq.i
   have hal2:=hqi.al
   have hll2:=hqi.ll'
   have hwl2:=hqi.w
   have hol2:=hqi.o
   have hwn2:=bB sx.way
   have hgo:∀b,aW Bz b→¬(b=bw∨b=bo∨b=ma∨b=ml):=fun b hb hh=>by have:=hb.1;omega
   replace hf:=hf.kp [2,3,4,5,6,7,8,9,10]
   refine blk ?_
   by_cases hxf:(x:Int)=frm
   ·refine seq <| seq ?_
    refine rgN 3 hf <| st (mv rfl) <| st (ld1 T3 rfl B9 rfl) <| st ((eql rfl rfl).eq (congrArg Value.bool ((by rw[hxf];exact beq_self_eq_true _:((x:Int)==frm)=true)))) ?_
    refine en fun a w e' hf=>?_
    obtain⟨H,c⟩:=up2 e' H c
    replace kh:=kh.tr (Kh.ext e')
    obtain⟨B8,B9⟩:=up2 e' B8 B9
    refine aa <| ifT hf rfl ?_
    refine aH ?_
    rw[if_pos hxf] at htgt
    subst htgt
    exact⟨fin _ _ _ ⟨H,c,B8,B9,hown⟩ hq,kh⟩
   rw[if_neg hxf] at htgt
   refine seq <| seq ?_
   refine rgN 3 hf <| st (mv rfl) <| st (ld1 T3 rfl B9 rfl) <| st ((eql rfl rfl).eq (congrArg Value.bool ((beq_eq_false_iff_ne.2 hxf:((x:Int)==frm)=false)))) <| en fun a w e' hf=>?_
   obtain⟨H,c⟩:=up2 e' H c
   replace kh:=kh.tr (Kh.ext e')
   obtain⟨B8,B9⟩:=up2 e' B8 B9
   refine aa <| ifF hf rfl ?_
   refine aj ?_
   replace hf:=hf.kp [2,3,4,5,6,7,8,9,10]
   by_cases hpo:0<lkI sx.la (x:Int)
   ·refine seq <| seq ?_
    refine rgN 4 hf <| st (ld1 (v:=.map (some ma)) T43 rfl H.pa rfl) <| st (mv rfl) <| st (cU U43 rfl H.ma rfl hwx) <| st ((gtr rfl rfl).eq (congrArg Value.bool (decide_eq_true hpo))) <| en fun a w e' hf=>?_
    obtain⟨H,c⟩:=up2 e' H c
    replace kh:=kh.tr (Kh.ext e')
    obtain⟨B8,B9⟩:=up2 e' B8 B9
    refine aa <| ifT hf rfl ?_
    replace hf:=hf.kp [2,3,4,5,6,7,8,9,10]
    have hmn:0≤min (lkI sx.ll (id:Int)) (lkI sx.la (x:Int))∧min (lkI sx.ll (id:Int)) (lkI sx.la (x:Int))≤1025:=by have h1:=hqi.lr (id:Int);have h2:=hqi.ar (x:Int);omega
    refine seq <| rgN 9 hf <| st (ld1 (v:=.map (some ml)) T43 rfl H.pl rfl) <| st (ld1 T3 rfl B8 rfl) <| st (ld1 (v:=.map (some ml)) T43 rfl H.pl rfl) <| st (ld1 T3 rfl B8 rfl) <| st (cU U43 rfl H.ml rfl hwid) <| st (ld1 (v:=.map (some ma)) T43 rfl H.pa rfl) <| st (mv rfl) <| st (cU U43 rfl H.ma rfl hwx) <| st (min2 rfl rfl) <| en fun a w e' hf=>?_
    obtain⟨H,c⟩:=up2 e' H c
    replace kh:=kh.tr (Kh.ext e')
    obtain⟨B8,B9⟩:=up2 e' B8 B9
    replace hf:=hf.kp [2,3,4,5,6,7,8,9,10,39,40,47]
    refine dP (V:=iKV) (i:=(id:Int)) (c:=min (lkI sx.ll (id:Int)) (lkI sx.la (x:Int))) U43 hf rfl rfl rfl H.ml (by simp only[maxLen];omega) hwid (bP (by omega) (by omega)) fun w hg HM hf=>?_
    replace H:=H.putL D hg HM hGs1.2.2.2
    replace c:=c.gr hg (.inl sl);replace B8:=B8.gr hg (by omega);replace B9:=B9.gr hg (by omega);replace kh:=kh.tr (Kh.gr hg fun hh=>hgo _ hh (.inr (.inr (.inr rfl))));clear hg HM
    refine aa <| aH ?_
    rw[if_pos hpo] at htgt
    replace H:BcW l V bm nm ba bl bw bg bd bo ma ml N G1 tgt vx vy w:=by rw[htgt];exact H
    exact⟨fin _ _ _ ⟨H,c,B8,B9,hown⟩ hqs,kh⟩
   refine seq <| seq ?_
   refine rgN 4 hf <| st (ld1 (v:=.map (some ma)) T43 rfl H.pa rfl) <| st (mv rfl) <| st (cU U43 rfl H.ma rfl hwx) <| st ((gtr rfl rfl).eq (congrArg Value.bool (decide_eq_false hpo))) <| en fun a w e' hf=>?_
   obtain⟨H,c⟩:=up2 e' H c
   replace kh:=kh.tr (Kh.ext e')
   obtain⟨B8,B9⟩:=up2 e' B8 B9
   refine aa <| ifF hf rfl ?_
   refine aj ?_
   replace hf:=hf.kp [2,3,4,5,6,7,8,9,10]
   rw[if_neg hpo] at htgt
   have hu2:unv V sx.la≤f:=by have:=kM (V:=V) hq.m;omega
   have r:=kN hnV f x (id:Int) sx hqi hxV (by omega) hu2
   refine seq <| rgN 2 hf <| st (ld1 (v:=vx) T35 rfl H.pw rfl) <| st (aI U35 (isE rfl H.ow.sl)) <| en fun a w e' hf=>?_
   obtain⟨H,c⟩:=up2 e' H c
   replace kh:=kh.tr (Kh.ext e')
   obtain⟨B8,B9⟩:=up2 e' B8 B9
   refine tA hf rfl fun a hf=>aa ?_
   rw[hwn2] at hf
   replace hf:=hf.kp [2,3,4,5,6,7,8,9,10,11]
   refine seq <| rgN 3 hf <| st (ld1 (v:=bcV ba bl bw bg bd bo) T95 rfl H.pd rfl) <| st (mv rfl) <| st (ld1 T3 rfl B8 rfl) <| en fun a w e' hf=>?_
   obtain⟨H,c⟩:=up2 e' H c
   replace kh:=kh.tr (Kh.ext e')
   obtain⟨B8,B9⟩:=up2 e' B8 B9
   replace hf:=hf.kp [2,3,4,5,6,7,8,9,10,11,50,51,52]
   refine il (S:=SBc bw bo ma ml vx vy) (F:=fun w'=>∃vw' vo',BcW l V bm nm ba bl bw bg bd bo ma ml N G1 (bcF (lkS l) f x (id:Int) sx) vw' vo' w'∧∀b,OWN vw' vo' b→OWN vx vy b∨w.heap.size≤b) (A:=E (.tuple #[])) hf (by decide) pF rfl ?_ fun a w2 hc HF hf=>?_
   ·have e51:a.eval (.tmp 51)=I (x:Nat):=hf.opd (.tmp 51) _ rfl
    have e52:a.eval (.tmp 52)=I (id:Nat):=hf.opd (.tmp 52) _ rfl
    simp only[List.map_toArray,List.map_cons,List.map_nil,e51,e52]
    exact (ih x (id:Int) sx vx vy G1 _ (fun b hb=>by have h1:=hG1l b hb;have h2:=kh.size;omega) hGs1 H hqi hxV (by omega) hu2).mono fun en w' ⟨k1,v1,v2,k2,k3,k4⟩=>⟨_,k1,k2,rfl,v1,v2,k3,k4⟩
   obtain⟨vx2,vy2,H2,hnew⟩:=HF
   have hbs:∀b,b=b8∨b=b9∨aW Bz b→¬SBc bw bo ma ml vx vy b:=fun b hb hh=>by
    rcases hh with hh|hh
    ·rcases hb with hb|hb|hb
     ·omega
     ·omega
     ·have:=hb.1;omega
    ·have h1:=(hown b hh).2
     rcases hb with hb|hb|hb
     ·rw[hb] at h1;exact h1 hK8.1
     ·rw[hb] at h1;exact h1 hK8.2
     ·exact h1 (hKh b hb)
   have hwsz:=kh.size
   have hSS:∀b,SBc bw bo ma ml vx vy b→S0 b∨W.heap.size≤b:=fun b hb=>by
    rcases hb with hb|hb
    ·rcases hb with rfl|rfl|rfl|rfl
     ·exact .inl sw
     ·exact .inl so
     ·exact .inl sa
     ·exact .inl sl
    ·exact (hown b hb).1.imp (sO b) (fun h=>h)
   replace hown:∀b,OWN vx2 vy2 b→(OWN vw vo b∨W.heap.size≤b)∧¬K b:=fun b hb=>by
    rcases hnew b hb with h|h
    ·exact hown b h
    ·exact⟨.inr (by omega),fun hk=>by have:=hKl b hk;omega⟩
   replace c:=c.tr2 hc hSS
   replace B8:=B8.ch hc (hbs b8 (.inl rfl))
   replace B9:=B9.ch hc (hbs b9 (.inr (.inl rfl)))
   replace kh:=kh.tr (Kh.chg hc fun b hb hh=>hbs b (.inr (.inr hh)) hb)
   generalize w2=w at *
   refine aa ?_
   have H:=H2
   rw[← hnb] at H
   obtain⟨s2,hs2⟩:=eqX (bcF nb f x (id:Int) sx)
   rw[← hs2] at H htgt r
   have ri:=r.i
   have rll:=ri.ll'
   have ral:=ri.al
   have rwl:=ri.w
   have rol:=ri.o
   obtain⟨t2,ht2⟩:=r.w
   obtain⟨t1,ht1⟩:=hq.w
   have hbl:sx.way.length<s2.way.length:=by rw[ht2,List.length_append,List.length_cons];omega
   have hb1:0<sx.way.length:=by
    have:s1.way=s.way++[id]:=by rw[hs1'];rfl
    rw[ht1,this,List.length_append,List.length_append]
    simp only[List.length_singleton];omega
   obtain⟨beh,hbeh⟩:=eqX sx.way.length
   rw[← hbeh] at hbl hb1 htgt hf
   replace hf:=hf.kp [2,3,4,5,6,7,8,9,10,11]
   have hmn:0≤min (lkI s2.ll (id:Int)) (lkI s2.ll (x:Int))∧min (lkI s2.ll (id:Int)) (lkI s2.ll (x:Int))≤1025:=by have h1:=ri.lr (id:Int);have h2:=ri.lr (x:Int);omega
   refine seq <| rgN 9 hf <| st (ld1 (v:=.map (some ml)) T43 rfl H.pl rfl) <| st (ld1 T3 rfl B8 rfl) <| st (ld1 (v:=.map (some ml)) T43 rfl H.pl rfl) <| st (ld1 T3 rfl B8 rfl) <| st (cU U43 rfl H.ml rfl hwid) <| st (ld1 (v:=.map (some ml)) T43 rfl H.pl rfl) <| st (mv rfl) <| st (cU U43 rfl H.ml rfl hwx) <| st (min2 rfl rfl) <| en fun a w e' hf=>?_
   obtain⟨H,c⟩:=up2 e' H c
   replace kh:=kh.tr (Kh.ext e')
   obtain⟨B8,B9⟩:=up2 e' B8 B9
   replace hf:=hf.kp [2,3,4,5,6,7,8,9,10,11,54,55,62]
   refine dP (V:=iKV) (i:=(id:Int)) (c:=min (lkI s2.ll (id:Int)) (lkI s2.ll (x:Int))) U43 hf rfl rfl rfl H.ml (by simp only[maxLen];omega) hwid (bP (by omega) (by omega)) fun w hg HM hf=>?_
   replace H:BcW l V bm nm ba bl bw bg bd bo ma ml N G1 (bcM id x s2) vx2 vy2 w:=H.putL D hg HM hGs1.2.2.2
   replace c:=c.gr hg (.inl sl);replace B8:=B8.gr hg (by omega);replace B9:=B9.gr hg (by omega);replace kh:=kh.tr (Kh.gr hg fun hh=>hgo _ hh (.inr (.inr (.inr rfl))));clear hg HM
   refine aa ?_
   have mi:=ri.setM hid x
   have mway:(bcM id x s2).way=s2.way:=rfl
   have mout:(bcM id x s2).out=s2.out:=rfl
   obtain⟨s3,hs3⟩:=eqX (bcM id x s2)
   rw[← hs3] at H htgt mi mway mout
   have m3w:=mi.w
   have m3a:=mi.al
   have m3o:=mi.o
   have hwn3:=bB s3.way
   replace hf:=hf.kp [2,3,4,5,6,7,8,9,10,11]
   by_cases hcm:lkI s3.la (id:Int)≤lkI s3.ll (x:Int)
   ·rw[if_pos hcm] at htgt
    refine seq <| rgN 7 hf <| st (ld1 (v:=.map (some ml)) T43 rfl H.pl rfl) <| st (mv rfl) <| st (cU U43 rfl H.ml rfl hwx) <| st (ld1 (v:=.map (some ma)) T43 rfl H.pa rfl) <| st (ld1 T3 rfl B8 rfl) <| st (cU U43 rfl H.ma rfl hwid) <| st ((geq rfl rfl).eq (congrArg Value.bool (decide_eq_true hcm))) <| en fun a w e' hf=>?_
    obtain⟨H,c⟩:=up2 e' H c
    replace kh:=kh.tr (Kh.ext e')
    obtain⟨B8,B9⟩:=up2 e' B8 B9
    refine aa <| ifT hf rfl ?_
    replace hf:=hf.kp [2,3,4,5,6,7,8,9,10,11]
    have hsz0:=kh.size
    obtain⟨N5,hN5⟩:=eqX w.heap.size
    have hN5s:N5≤w.heap.size:=Nat.le_of_eq hN5
    have hN5b:Bz+3≤N5:=by omega
    have h8l:b8<N5∧b9<N5:=by rw[hN5];exact⟨B8.lt,B9.lt⟩
    have hgo2:∀b,GO (fun b=>G1 b∨vx2.ownBlock=some b) vy2 b→b<N5:=fun b hb=>by
     rw[hN5]
     rcases hb with (hb|hb)|hb
     ·have:=hG1l b hb;omega
     ·exact (H.ow.lt hb).2
     ·exact (H.oo.lt hb).2
    obtain⟨cl,hcl⟩:=eqX (ah (s3.way.drop beh))
    have hbl3:beh≤s3.way.length:=by rw[mway];omega
    have hcl1:(ah s3.way).drop beh=cl:=by rw[hcl,ah,ah,List.map_drop]
    have hcll:cl.length=s3.way.length - beh:=by rw[hcl,bB,List.length_drop]
    have hclne:cl≠[]:=fun h=>by rw[h] at hcll;simp only[List.length_nil] at hcll;rw[mway] at hcll;omega
    have hcl2:ah (s3.way.drop beh++[id])=cl++[(id:Int)]:=by rw[gV,hcl]
    obtain⟨C,hC⟩:=eqX ((cl++[(id:Int)]).foldl ins 0)
    have hout:s3.out++[elL ((ah (s3.way.drop beh++[id])).foldl ins 0)]=s3.out++[elL C]:=by rw[hcl2,← hC]
    have hdrop:(Dv (slE intE) G0 (ah s3.way)).p vx2 w:=H.ow.sl
    refine seq <| cO 11 [1,0,0,0,0,0,0] (Chg (fun b=>N5≤b)) (cg.chg _) (fun w=>True) (fun w w1 k h=>trivial) Mix.mix hf (by decide +kernel) (by decide +kernel) <| jf (fun w1 h1=>ld1 (v:=vy2) T39 rfl (H.po.ch h1 (by omega)) rfl) <| ja (ld1 (v:=vx2) T35 rfl H.pw rfl) <| ja (mv rfl) <| ja ((a0Y U35 S3 (isE rfl hdrop) rfl (by rw[hwn3];exact hbl3)).dv (hcl1)) ?_
    refine ja (aw (A:=OwA intE 3 N5 G0 cl) (B:=Dv (slE intE) G0 cl) pG rfl (fun u w he k=>(tq cl u w k (by omega) hclne).mono fun en w' ⟨u,k1,k2,k3⟩=>⟨u,k1,k2,OwR.low k3 (Nat.le_trans hN5s he.size) fun b hb=>hb.elim⟩)) <| ja (ld1 T3 rfl B8 rfl) <| ja (aX (e:=intE) (G:=G0) U35 I3 rfl (by decide) rfl (fun b hb=>hb.elim) (isI rfl)) <| jx (mm (G':=G0) U35 I3 rfl rfl rfl (isR rfl) (by simp only[List.length_singleton];omega) (by simp only[List.length_singleton,maxLen];omega) (fun _ _ _ _=>trivial) (fun _ _=>trivial)) ?_
    refine jp (fun w1 h1 HF1=>aw (A:=E (ae C)) (B:=OwA intE 3 N5 G0 (cl++[(id:Int)])) jC rfl (fun u w he k=>by rw[hC];exact jT (cl++[(id:Int)]) u w (OwR.sl k) (by rw[List.length_append,List.length_singleton];omega))) ?_
    refine jp (fun w1 h1 HF1=>aw (A:=Dv (cu 3) (GO (fun b=>G1 b∨vx2.ownBlock=some b) vy2) (elL C)) jB rfl (fun u w he k=>by cases k;exact (kr C w ((H.t.ch h1 (by omega)).ext he)).mono fun en w' ⟨z,k1,k2,k3⟩=>⟨z,k1,k2,OwR.own' k3 fun b hb hh=>by have q1:=hgo2 b hh;have q2:=(OwR.lt k3 hb).1;have q3:=h1.size;have q4:=he.size;omega⟩)) ?_
    refine jp (fun w1 h1 HF1=>aX (e:=cu 3) (G:=GO (fun b=>G1 b∨vx2.ownBlock=some b) vy2) U39 I35 rfl (by decide) rfl (fun b hb=>Nat.lt_of_lt_of_le (hgo2 b hb) (Nat.le_trans hN5s h1.size)) (isR rfl)) <| je <| fun a w hc HF hf=>?_
    try dsimp only[push] at hf
    have e':Ext _ w:=⟨hc.os,hc.tape,hc.output,hc.size,fun b hb=>hc.block b hb (by omega)⟩
    replace H:=H.ext e';replace c:=c.ext e';replace B8:=B8.ext e';replace B9:=B9.ext e';replace kh:=kh.tr (Kh.ext e')
    have hcsz:=c.size
    have l8:=B8.lt
    have l9:=B9.lt
    have hksz:=kh.size
    replace hf:=hf.kp [2,3,4,5,6,7,8,9,10,11,70,80]
    refine lJ U39 I35 rfl rfl hf (by decide) rfl H.oo (isR rfl) (by simp only[List.length_singleton];omega) (by simp only[List.length_singleton,maxLen];omega) fun a vy3 w' hg hat Hn hf=>?_
    have Bo:=H.po.gro hg (fun h=>by have:=(H.oo.lt h).1;omega)
    replace hf:=hf.kp [2,3,4,5,6,7,8,9,10,11,81]
    refine aO T39 hf rfl rfl Hn.one Bo Nat.zero_lt_one fun w2 hg2 hsz Bo hf=>?_
    have hvy:∀b,vy2.ownBlock=some b→b≠b8∧b≠b9∧¬aW Bz b:=fun b hb=>by
     have h1:=(hown b (.inr hb)).2
     exact⟨fun h=>by rw[h] at h1;exact h1 hK8.1,fun h=>by rw[h] at h1;exact h1 hK8.2,fun h=>h1 (hKh b h)⟩
    have hown3:∀b,OWN vx2 vy3 b→(OWN vw vo b∨W.heap.size≤b)∧¬K b:=fun b hb=>by
     rcases hb with hb|hb
     ·exact hown b (.inl hb)
     ·rcases hat with h|h
      ·exact hown b (.inr (by rw[← h];exact hb))
      ·rw[h] at hb;cases hb
       exact⟨.inr hcsz,fun hk=>by have:=hKl _ hk;omega⟩
    replace H:BcW l V bm nm ba bl bw bg bd bo ma ml N G1 { s3 with out:=s3.out++[elL C] } vx2 vy3 w2:=H.setO D hg Hn hg2 Bo hGs1.2.1
    replace c:=(c.tr2 (Chg.row hg) fun b hb=>(hown b (.inr hb)).1.imp (sO b) (fun h=>h)).gr hg2 (.inl so)
    replace B8:=(B8.gro hg (fun h=>(hvy b8 h).1 rfl)).gr hg2 (by omega)
    replace B9:=(B9.gro hg (fun h=>(hvy b9 h).2.1 rfl)).gr hg2 (by omega)
    replace kh:=(kh.tr (Kh.gro hg fun b hb hh=>(hvy b hb).2.2 hh)).tr (Kh.gr hg2 fun hh=>hgo _ hh (.inr (.inl rfl)))
    have hown:=hown3
    generalize w2=w at *
    refine aa ?_
    replace hf:=hf.kp [2,3,4,5,6,7,8,9,10,11]
    obtain⟨bb,cc,hvx,hcc,HC⟩:=H.ow.cut (k:=beh) (by rw[hwn3];exact hbl3) hb1
    replace HC:OwR intE 3 N G0 w (ah (s3.way.take beh)) (.slice (some ⟨bb,0,none⟩) beh cc):=by rw[ah,List.map_take];exact HC
    have hbc:beh≤cc:=by rw[hwn3] at hcc;omega
    refine rgN 3 hf <| st ((ld1 (v:=vx2) T35 rfl H.pw rfl).eq (hvx)) <| st (mv rfl) <| st (mB U35 S3 rfl rfl hbc) <| en fun a w e' hf=>?_
    obtain⟨H,c⟩:=up2 e' H c
    replace kh:=kh.tr (Kh.ext e')
    obtain⟨HC,B8,B9⟩:=up3 e' HC B8 B9
    replace hf:=hf.kp [2,3,4,5,6,7,8,9,10,11,84]
    refine aO T35 hf rfl rfl rfl H.pw Nat.zero_lt_one fun w2 hg2 hsz Bw hf=>?_
    replace H:BcW l V bm nm ba bl bw bg bd bo ma ml N G1 { s3 with out:=s3.out++[elL C],way:=s3.way.take beh } (.slice (some ⟨bb,0,none⟩) beh cc) vy3 w2:=H.setW D (a3o w _) (.inl (by rw[hvx];rfl)) HC hg2 Bw hGs1.1
    replace c:=c.gr hg2 (.inl sw)
    replace B8:=B8.gr hg2 (by omega)
    replace B9:=B9.gr hg2 (by omega)
    replace kh:=kh.tr (Kh.gr hg2 fun hh=>hgo _ hh (.inl rfl))
    refine aa ?_
    simp only[Exit.inBlock]
    replace htgt:tgt={ s3 with out:=s3.out++[elL C],way:=s3.way.take beh }:=by rw[htgt,bcC,hout]
    rw[← htgt] at H
    exact⟨fin _ _ _ ⟨H,c,B8,B9,fun b hb=>hown b (by rw[hvx];exact hb)⟩ hqs,kh⟩
   ·rw[if_neg hcm] at htgt
    refine seq <| rgN 7 hf <| st (ld1 (v:=.map (some ml)) T43 rfl H.pl rfl) <| st (mv rfl) <| st (cU U43 rfl H.ml rfl hwx) <| st (ld1 (v:=.map (some ma)) T43 rfl H.pa rfl) <| st (ld1 T3 rfl B8 rfl) <| st (cU U43 rfl H.ma rfl hwid) <| st ((geq rfl rfl).eq (congrArg Value.bool (decide_eq_false hcm))) <| en fun a w e' hf=>?_
    obtain⟨H,c⟩:=up2 e' H c
    replace kh:=kh.tr (Kh.ext e')
    obtain⟨B8,B9⟩:=up2 e' B8 B9
    refine aa <| ifF hf rfl ?_
    refine aj ?_
    rw[← htgt] at H
    exact⟨fin _ _ _ ⟨H,c,B8,B9,hown⟩ hqs,kh⟩
  ·intro a' w' hf' hJ hsz hDn
   simp only[Exit.inBlock,↓reduceIte,Exit.then]
   obtain⟨vx,vy,⟨H,c,B8,B9,hown⟩,hq⟩:=hJ
   have hD:Ds [w.heap.size] w':=(Ds.nil w').cons hDn (by simp)
   have hf:FrD 85 (bS [w.heap.size]) a' w' []:=hf'.keep []
   refine xF rfl hf hD ⟨rfl,vx,vy,?_,?_,fun b hb=>(hown b hb).1⟩
   ·refine (c.tr2 (ed [w.heap.size] w') fun b hb=>.inr (by rw[List.mem_singleton] at hb;omega)).to fun b _ hb=>by rw[hS0] at hb;exact hb
   ·rw[show bcF (lkS l) (f+1) id frm s=(ai Nb).foldl (bcT (bcF nb f) id frm) s1 by rw[← hnb,bcF,← hNb,← hs1']]
    refine (H.ch D (ed [w.heap.size] w') (fun b hb=>by rw[List.mem_singleton] at hb;omega) (fun b hb hh=>(hown b hb).2 (hKh b (by rw[List.mem_singleton] at hh;rw[hh];exact⟨Nat.le_refl _,by omega⟩))) fun b hb=>hGh b (by rw[List.mem_singleton] at hb;rw[hb];exact⟨Nat.le_refl _,by omega⟩)).weak fun b _ hb=>hGG b hb
end Go.Mono
namespace Go.Mono
open Go Go.Proofs Go.RowKit Go.Gr Go.Shelf Go.Sort
open Go.MonoD (aT cmpI SlC)
theorem gn (x y:Int):(x<y∧cmpI x y = -1)∨(y<x∧cmpI x y=1)∨(x=y∧cmpI x y=0):=by
 rw[cmpI]
 by_cases h:x<y
 ·exact .inl ⟨h,if_pos h⟩
 ·rw[if_neg h]
  by_cases h2:y<x
  ·exact .inr (.inl ⟨h2,if_pos h2⟩)
  ·exact .inr (.inr ⟨by omega,if_neg h2⟩)
theorem uj:∀xs:List Int,aT xs xs=0
 | []=>rfl
 | x::xs=>by
  have h:cmpI x x=0:=by rcases gn x x with h|h|h <;> omega
  rw[aT,if_neg (by rw[h];exact fun h=>h rfl)];exact uj xs
theorem kR:∀xs ys:List Int,aT xs ys=0→xs=ys
 | [],[],_=>rfl
 | [],_::_,h=>by cases h
 | _::_,[],h=>by cases h
 | x::xs,y::ys,h=>by
  rw[aT] at h
  rcases gn x y with ⟨_,h2⟩|⟨_,h2⟩|⟨h1,h2⟩
  ·rw[h2] at h;cases h
  ·rw[h2] at h;cases h
  ·rw[if_neg (by rw[h2];exact fun h=>h rfl)] at h
   rw[h1,kR xs ys h]
theorem ib:∀xs ys:List Int,aT ys xs = -aT xs ys
 | [],[]=>rfl
 | [],_::_=>rfl
 | _::_,[]=>rfl
 | x::xs,y::ys=>by
  rw[aT,aT]
  rcases gn x y with ⟨h1,h2⟩|⟨h1,h2⟩|⟨h1,h2⟩ <;> rcases gn y x with ⟨h3,h4⟩|⟨h3,h4⟩|⟨h3,h4⟩ <;> first|omega|(rw[h2,h4];rfl)|skip
  rw[if_neg (by rw[h4];exact fun h=>h rfl),if_neg (by rw[h2];exact fun h=>h rfl)]
  exact ib xs ys
theorem kS:∀xs ys zs:List Int,aT xs ys<0→aT ys zs≤0→aT xs zs<0
 | [],[],zs,h,_=>absurd h (show ¬(0:Int)<0 by decide)
 | [],_::_,[],_,h=>absurd h (show ¬(1:Int)≤0 by decide)
 | [],_::_,_::_,_,_=>(show (-1:Int)<0 by decide)
 | _::_,[],_,h,_=>absurd h (show ¬(1:Int)<0 by decide)
 | x::xs,y::ys,[],_,h=>absurd h (show ¬(1:Int)≤0 by decide)
 | x::xs,y::ys,z::zs,h,h'=>by
  rw[aT] at h h' ⊢
  rcases gn x y with ⟨a1,a2⟩|⟨a1,a2⟩|⟨a1,a2⟩ <;> rcases gn y z with ⟨b1,b2⟩|⟨b1,b2⟩|⟨b1,b2⟩ <;> rcases gn x z with ⟨c1,c2⟩|⟨c1,c2⟩|⟨c1,c2⟩ <;> first
   | omega
   | (rw[a2] at h;exact absurd h (by decide))
   | (rw[b2] at h';exact absurd h' (by decide))
   | (rw[c2];decide)
   | (rw[if_neg (by rw[a2];exact fun h=>h rfl)] at h;rw[if_neg (by rw[b2];exact fun h=>h rfl)] at h';rw[if_neg (by rw[c2];exact fun h=>h rfl)];exact kS xs ys zs h h')
def lxs (out:List (List Int))(i:Nat):List Int:=(out[i]?).getD []
def lcf (out:List (List Int))(i j:Nat):Int:=aT (lxs out i) (lxs out j)
theorem a3q (out:List (List Int)):SWO (ltOf (lcf out)):=by
 refine⟨fun x=>?_,fun x y z h1 h2=>?_,fun x y z h1 h2=>?_⟩
 ·exact decide_eq_false (by rw[lcf,uj];decide)
 ·exact decide_eq_true (kS _ _ _ (of_decide_eq_true h1) (by have:=of_decide_eq_true h2;rw[lcf] at this;omega))
 ·refine decide_eq_false fun h=>?_
  have h1':=of_decide_eq_false h1
  have h2':=of_decide_eq_false h2
  rw[lcf] at h h1' h2'
  have n2:=ib (lxs out y) (lxs out z)
  by_cases hz:aT (lxs out y) (lxs out z)=0
  ·have:=kR _ _ hz
   rw[← this] at h;exact h1' h
  ·have:=kS (lxs out x) (lxs out z) (lxs out y) h (by omega)
   exact h1' this
theorem uk {e:Enc (List Int)}(ha:e.agg=false){G:Nat→Prop}{w:World}{xs:List Int}{c:List Value}(h:e.r G w xs c):∃v,c=[v]∧(Dv e G xs).p v w:=by
 have hl:=e.len h
 rw[e.k1 ha] at hl
 match c,hl with
 | [v],_=>exact⟨v,rfl,[v],h,by rw[Enc.pack,ha];rfl⟩
theorem nQ {e:Enc (List Int)}(ha:e.agg=false){G:Nat→Prop}{w:World}:∀(out:List (List Int)) (cs:List Value),Cells e G w out cs→cs.length=out.length∧∀i (h:i<out.length),∃v,cs[i]?=some v∧(Dv e G (lxs out i)).p v w
 | [],cs,h=>by cases h;exact⟨rfl,fun i h=>absurd h (Nat.not_lt_zero _)⟩
 | xs::out,cs,h=>by
  obtain⟨c,d,rfl,h1,h2⟩:=h
  obtain⟨v,rfl,h3⟩:=uk ha h1
  obtain⟨q1,q2⟩:=nQ ha out d h2
  refine⟨by simp[q1],fun i hi=>?_⟩
  cases i with
  | zero=>exact⟨v,rfl,h3⟩
  | succ i=>
   obtain⟨u,k1,k2⟩:=q2 i (by simpa using hi)
   exact⟨u,by simpa using k1,k2⟩
theorem nR {e:Enc (List Int)}(ha:e.agg=false){G:Nat→Prop}{w:World}:∀(out:List (List Int)) (vs:List Value),vs.length=out.length→(∀i (h:i<out.length),∃v,vs[i]?=some v∧(Dv e G (lxs out i)).p v w)→Cells e G w out vs
 | [],vs,h,_=>List.length_eq_zero_iff.1 h
 | xs::out,[],h,_=>by cases h
 | xs::out,v::vs,h,hh=>by
  obtain⟨u,k1,cs,k2,k4⟩:=hh 0 (by simp)
  obtain rfl:v=u:=by simpa using k1
  obtain⟨z,rfl,_⟩:=uk ha k2
  have k4':v=z:=by rw[k4,Enc.pack,ha];rfl
  subst k4'
  refine⟨[v],vs,rfl,k2,nR ha out vs (by simpa using h) fun i hi=>?_⟩
  obtain⟨u,m1,m2⟩:=hh (i+1) (by simpa using hi)
  exact⟨u,by simpa using m1,m2⟩
theorem a3r {e:Enc (List Int)}(ha:e.agg=false)(hsl:∀{G w xs v},(Dv e G xs).p v w→(Dv (slE intE) G xs).p v w)(hnil:∀{G w},(Dv e G []).p (.slice none 0 0) w){N:Nat}{G:Nat→Prop}{w:World}{out:List (List Int)}{v:Value}(Ho:OwX e 35 N G w out v)(hl:out.length≤100000)(hle:∀xs∈out,xs.length≤100000) :
  Calls Tryz.prog 66 #[v,.func (.func 67) #[] #[]] w fun en w'=>en=.returned (.tuple #[])∧Chg (fun b=>v.ownBlock=some b) w w'∧∃out',out'.Perm out∧out'.Pairwise (fun x y=>¬aT y x<0)∧OwX e 35 N G w' out' v:=by
 obtain⟨cs,⟨hlen,hv⟩,hcs⟩:=Ho.own
 rcases hv with ⟨rfl,hn⟩|⟨g0,cap,cur,rfl,hB,hheap,hcap,hmax,hcur,htake⟩
 ·have hx:out=[]:=List.length_eq_zero_iff.1 hn
  subst hx
  exact (AnyF.slices_SortFunc_none (L:={ Tryz.sortI with }) none 0 _ w).mono fun en w' ⟨h2,h3⟩=>by
   subst h3
   exact⟨h2,Chg.rfl' _ _,[],List.Perm.refl _,List.Pairwise.nil,OwX.nil _ _ Ho.base⟩
 ·have hk1:e.k=1:=e.k1 ha
  rw[hk1,Nat.mul_one] at hcur htake
  obtain⟨c1,c2⟩:=nQ ha out cs hcs
  obtain⟨enc,henc⟩:=eqX (fun i=>(cs[i]?).getD (.slice none 0 0):Nat→Value)
  have hdat:∀i,(Dv e (GO G (.slice (some ⟨g0,0,none⟩) out.length cap)) (lxs out i)).p (enc i) w:=fun i=>by
   by_cases hi:i<out.length
   ·obtain⟨u,k1,k2⟩:=c2 i hi
    rw[henc]
    show (Dv _ _ _).p ((cs[i]?).getD _) w
    rw[k1];exact k2
   ·rw[henc,lxs,List.getElem?_eq_none (by omega)]
    show (Dv _ _ _).p ((cs[i]?).getD _) w
    rw[List.getElem?_eq_none (by omega)];exact hnil
  have hlx:∀i,(lxs out i).length≤100000:=fun i=>by
   rw[lxs]
   cases h:out[i]? with
   | none=>exact Nat.zero_le _
   | some xs=>exact hle xs (List.mem_of_getElem? h)
  have h1:OneCell enc:=fun i=>Dv.slOne (hsl (hdat i))
  obtain⟨d,hd⟩:=eqX (Array.range out.length:Array Nat)
  have hds:d.size=out.length:=by rw[hd];simp
  have hdj:∀j,j<out.length→d[j]! = j:=fun j hj=>by rw[hd,getElem!_pos _ j (by simpa using hj)];simp
  have hB1:Blk w g0 cur 35:=hheap
  have hH:Holds enc w g0 0 d:=by
   intro j hj
   rw[hds] at hj
   obtain⟨u,k1,k2⟩:=c2 j hj
   have hcj:cur[j]?=some (enc j):=by
    have:(cur.toList.take out.length)[j]?=cs[j]?:=by rw[htake]
    rw[List.getElem?_take,if_pos hj,Array.getElem?_toList,k1] at this
    rw[this,henc]
    show some u=some ((cs[j]?).getD _)
    rw[k1];rfl
   refine⟨by rw[Nat.zero_add,hB1.cell,hcj,hdj j hj],by simp[World.frozen?,hheap]⟩
  have hblk:g0<w.heap.size:=hB1.lt
  have hchg:∀(m:Nat) (dk:Array Nat) (os:Array Obj),Chg (fun b=>b=g0) w (sortWorld enc w g0 0 m dk os):=fun m dk os=>by
   refine⟨rfl,rfl,rfl,?_,fun b hb hne=>?_⟩
   ·unfold sortWorld grow putRow mapBlock
    simp[Sort.ahead]
   ·unfold sortWorld grow putRow mapBlock
    simp only
    rw[Array.getElem?_append_left (by simpa[Sort.ahead] using hb),Array.getElem?_modify,if_neg (fun h=>hne h.symm)]
    rfl
  have hdat2:∀i w',Chg (fun b=>b=g0) w w'→(Dv e (GO G (.slice (some ⟨g0,0,none⟩) out.length cap)) (lxs out i)).p (enc i) w':=fun i w' c=>Dv.ch (hdat i) c fun b hb=>by rw[hb];exact .inr rfl
  have hcmp:CmpLays1 Tryz.prog 67 #[] enc (lcf out) g0 0 d.size w:=fun m os dk hdk x y=>by
   have c:=hchg m dk os
   refine (MonoD.cmpZ_spec (lxs out x) (lxs out y) (enc x) (enc y) _ (MonoD.slC_of (hsl (hdat2 x _ c))) (MonoD.slC_of (hsl (hdat2 y _ c))) (hlx x)).mono ?_
   rintro en w' ⟨u,k1,k2,k3⟩
   cases k3
   exact⟨k1,k2.grown⟩
  have hsz2:d.size<4611686018427387904:=by rw[hds];omega
  have hS:=Any.slices_SortFunc Tryz.sortI enc h1 (lcf out) (a3q out) 67 #[] g0 0 cap d w ws hcmp hH hblk hsz2
  rw[hds] at hS
  refine hS.mono ?_
  rintro en w' ⟨h2,d',n,os,hp,hs,rfl⟩
  have hds':d'.size=out.length:=by rw[← hds];exact hp.1
  have hperm:d'.toList.Perm (List.range out.length):=by
   have:=hp.2.2
   rw[Array.extract_eq_self_of_le (by rw[hds'];exact Nat.le_refl _),Array.extract_eq_self_of_le (by rw[hds];exact Nat.le_refl _)] at this
   rw[hd] at this
   simpa using this
  have c:=hchg n d' os
  refine⟨h2,c.to fun b _ hb=>by rw[hb];rfl,d'.toList.map (lxs out),?_,?_,?_⟩
  ·refine (hperm.map (lxs out)).trans <| List.Perm.of_eq (List.ext_getElem? fun i=>?_)
   rw[List.getElem?_map]
   by_cases hi:i<out.length
   ·rw[List.getElem?_range hi,Option.map_some,lxs,List.getElem?_eq_getElem hi];rfl
   ·rw[List.getElem?_eq_none (by simpa using hi),List.getElem?_eq_none (by omega)];rfl
  ·rw[List.pairwise_map,List.pairwise_iff_getElem]
   intro i j hi hj hij
   simp only[Array.length_toList] at hi hj
   have:=hs i j (Nat.zero_le _) hij (by rw[← hds'];exact hj)
   rw[getElem!_pos d' j hj,getElem!_pos d' i hi] at this
   have h3:=of_decide_eq_false this
   simpa[lcf] using h3
  ·have hh:(sortWorld enc w g0 0 n d' os).heap[g0]?=some (.cells (putCells enc 0 d' cur) 35 (0,0)):=by
    unfold sortWorld grow putRow mapBlock
    simp only
    rw[Array.getElem?_append_left (by simpa[Sort.ahead] using hblk),Array.getElem?_modify,if_pos rfl]
    have:(Sort.ahead w n).heap[g0]?=some (Obj.cells cur 35 (0,0)):=hheap
    rw[this];rfl
   have hlm:(d'.toList.map (lxs out)).length=out.length:=by rw[List.length_map,Array.length_toList,hds']
   refine⟨⟨d'.toList.map enc,⟨by rw[hlm,hk1,List.length_map,Array.length_toList,hds',Nat.mul_one],.inr ⟨g0,cap,putCells enc 0 d' cur,by rw[hlm],hB,hh,by rw[hlm];exact hcap,hmax,by rw[hk1,Nat.mul_one,putCells,Array.size_mapIdx,hcur],?_⟩⟩,?_⟩,Nat.le_trans Ho.base c.size⟩
   ·rw[hlm,hk1,Nat.mul_one]
    refine List.ext_getElem? fun i=>?_
    rw[List.getElem?_take,Array.getElem?_toList,List.getElem?_map,Array.getElem?_toList]
    by_cases hi:i<out.length
    ·have hid:i<d'.size:=by omega
     rw[if_pos hi,Array.getElem?_eq_getElem hid,putCells,Array.getElem?_mapIdx,Array.getElem?_eq_getElem (show i<cur.size by rw[hcur];omega),Option.map_some,if_pos ⟨Nat.zero_le _,by omega⟩,Nat.sub_zero,getElem!_pos d' i hid];rfl
    ·rw[if_neg hi,Array.getElem?_eq_none (by omega)];rfl
   ·refine nR ha _ _ (by simp) fun i hi=>?_
    rw[hlm] at hi
    have hid:i<d'.size:=by rw[hds'];exact hi
    refine⟨enc d'[i],by rw[List.getElem?_map,Array.getElem?_toList,Array.getElem?_eq_getElem hid];rfl,?_⟩
    have:lxs (d'.toList.map (lxs out)) i=lxs out d'[i]:=by
     rw[lxs,List.getElem?_map,Array.getElem?_toList,Array.getElem?_eq_getElem hid];rfl
    rw[this]
    exact hdat2 _ _ c
end Go.Mono
namespace Go.Mono
open Go Go.Proofs Go.RowKit Go.Gr
open Go.MonoD (aT)
def ic (x:List Int):List (List Int)→List (List Int)
 | []=>[x]
 | y::l=>if aT x y≤0 then x::y::l else y::ic x l
def gp (l:List (List Int)):List (List Int):=l.foldr ic []
theorem nT (x:List Int):∀l,(ic x l).Perm (x::l)
 | []=>List.Perm.refl _
 | y::l=>by
  rw[ic];split
  ·exact List.Perm.refl _
  ·exact ((nT x l).cons y).trans (List.Perm.swap x y l)
theorem ie:∀l,(gp l).Perm l
 | []=>List.Perm.refl _
 | x::l=>(nT x _).trans ((ie l).cons x)
theorem um {x y z:List Int}(h:¬aT y x<0)(h':¬aT z y<0):¬aT z x<0:=fun hh=>by
 have n1:=ib x y
 by_cases hz:aT x y=0
 ·have:=kR _ _ hz
  rw[this] at hh;exact h' hh
 ·exact h' (kS z x y hh (by omega))
theorem un (x:List Int):∀l,l.Pairwise (fun x y=>¬aT y x<0)→(ic x l).Pairwise (fun x y=>¬aT y x<0)
 | [],_=>List.pairwise_singleton _ _
 | y::l,h=>by
  obtain⟨h1,h2⟩:=List.pairwise_cons.1 h
  have n1:=ib x y
  rw[ic];split
  ·rename_i hc
   refine List.pairwise_cons.2 ⟨fun z hz=>?_,h⟩
   rcases List.mem_cons.1 hz with rfl|hz
   ·omega
   ·exact um (by omega) (h1 z hz)
  ·rename_i hc
   refine List.pairwise_cons.2 ⟨fun z hz=>?_,un x l h2⟩
   rcases List.mem_cons.1 ((nT x l).mem_iff.1 hz) with rfl|hz
   ·omega
   ·exact h1 z hz
theorem nU:∀l,(gp l).Pairwise (fun x y=>¬aT y x<0)
 | []=>List.Pairwise.nil
 | x::l=>un x _ (nU l)
theorem nW {l m:List (List Int)}(hp:m.Perm l)(hs:m.Pairwise fun x y=>¬aT y x<0):m=gp l:=by
 refine List.Perm.eq_of_pairwise (le:=fun x y=>¬aT y x<0) (fun a b _ _ h1 h2=>?_) hs (nU l) (hp.trans (ie l).symm)
 have n1:=ib a b
 exact kR _ _ (by omega)
theorem a3s {P:Program}{w0:World}{L:Env}{dst:Option Tmp}{ty:TypeId}{pos:String}{aft:Array Edge}{g:Option (Nat×Bool)}{fn:Fn}{x1 x2 x3 x4 x5 x6:Operand}{v1 v2 v3 v4 v5 v6:Value}(h1:opd L x1=some (E v1))(h2:opd L x2=some (E v2))(h3:opd L x3=some (E v3))(h4:opd L x4=some (E v4))(h5:opd L x5=some (E v5))(h6:opd L x6=some (E v6)) :
  OpC P w0 L ⟨dst,.makeFunc fn #[] #[x1,x2,x3,x4,x5,x6],ty,pos,aft,g⟩ (E (.func fn #[] #[v1,v2,v3,v4,v5,v6])):=
 aS fun ρ w _ hv=>⟨_,by
  have a1:=opE hv (x:=x1) (by simp[Op.operands]) h1
  have a2:=opE hv (x:=x2) (by simp[Op.operands]) h2
  have a3:=opE hv (x:=x3) (by simp[Op.operands]) h3
  have a4:=opE hv (x:=x4) (by simp[Op.operands]) h4
  have a5:=opE hv (x:=x5) (by simp[Op.operands]) h5
  have a6:=opE hv (x:=x6) (by simp[Op.operands]) h6
  simp[execOp,Instr.makeFunc,a1,a2,a3,a4,a5,a6],rfl⟩
def bT (nb:Int→BS)(f:Nat)(s:BcS)(id:Nat):BcS:=if lkI s.la (id:Int)=0 then bcF nb f id (-1) s else s
def dG (nb:Int→BS)(s:BcS)(id:Nat):BcS:=if nb (id:Int)=0 then { s with out:=s.out++[[(id:Int)]] } else s
def bcN (nb:Int→BS)(f:Nat)(s:BcS)(id:Nat):BcS:=dG nb (bT nb f s id) id
def bccF (nb:Int→BS)(V:BS):List (List Int):=gp ((ai V).foldl (bcN nb (card V)) ⟨[],[],[],[]⟩).out
theorem BcI.mono {V:BS}{c c':Nat}{s:BcS}(h:BcI V c s)(hc:c≤c'):BcI V c' s:=⟨h.ka,h.va,h.na,h.kl,h.vl,h.nl,h.w,h.wm,by have:=h.o;omega⟩
theorem uq {V:BS}{c:Nat}{s:BcS}{nb:Int→BS}{id:Nat}(hV:∀i j:Nat,(nb (i:Int)).getLsbD j=true→V.getLsbD j=true)(h:BcI V c s)(hid:V.getLsbD id=true):BcI V c (bT nb (card V) s id):=by
 rw[bT];split
 ·rename_i hz
  exact (kN hV (card V) id (-1) s h hid (by omega) (by rw[unv,← cJ];exact List.length_filter_le _ _)).i
 ·exact h
theorem ut {V:BS}{c:Nat}{s:BcS}{nb:Int→BS}{id:Nat}(h:BcI V c s):BcI V (c+1) (dG nb s id):=by
 rw[dG];split
 ·exact⟨h.ka,h.va,h.na,h.kl,h.vl,h.nl,h.w,h.wm,by
   show (s.out++[_]).length≤s.la.length+(c+1)
   rw[List.length_append,List.length_singleton];have:=h.o;omega⟩
 ·exact h.mono (Nat.le_succ c)
def OL (s:BcS):Prop:=∀xs∈s.out,xs.length≤1024
theorem uu {s:List (List Int)}{x:List Int}(h:∀xs∈s,xs.length≤1024)(hx:x.length≤1024):∀xs∈s++[x],xs.length≤1024:=fun xs hm=>by
 rcases List.mem_append.1 hm with hm|hm
 ·exact h xs hm
 ·rw[List.mem_singleton.1 hm];exact hx
theorem a3t (nb:Int→BS):∀(f id:Nat) (frm:Int) (s:BcS),OL s→OL (bcF nb f id frm s):=by
 intro f
 induction f with
 | zero=>intro id frm s h;exact h
 | succ f ih=>
  intro id frm s h
  have key:∀(l:List Nat) (s':BcS),OL s'→OL (l.foldl (bcT (bcF nb f) id frm) s'):=by
   intro l
   induction l with
   | nil=>intro s' h';exact h'
   | cons x l ihl=>
    intro s' h'
    refine ihl _ ?_
    have h2:OL (bcM id x (bcF nb f x (id:Int) s')):=ih x (id:Int) s' h'
    rw[bcT]
    split
    ·exact h'
    split
    ·exact h'
    split
    ·exact uu h2 (sX _)
    ·exact h2
  exact key _ (bcP id s) h
theorem a3u (nb:Int→BS)(f:Nat):∀(l:List Nat) (s:BcS),OL s→OL (l.foldl (bcN nb f) s):=by
 intro l
 induction l with
 | nil=>intro s h;exact h
 | cons x l ihl=>
  intro s h
  refine ihl _ ?_
  have h2:OL (bT nb f s x):=by
   rw[bT];split
   ·exact a3t nb f x (-1) s h
   ·exact h
  rw[bcN,dG];split
  ·exact uu h2 (Nat.succ_le_of_lt (Nat.zero_lt_succ _))
  ·exact h2
structure BcO (l:List (Int×BS))(V:BS)(bm nm ba bl bw bg bd bo ma ml N:Nat)(G K:Nat→Prop)(W:World)(s:BcS)(vw vo:Value)(w:World):Prop where
 h:BcW l V bm nm ba bl bw bg bd bo ma ml N G s vw vo w
 e:Ext W w
 own:∀b,OWN vw vo b→¬K b
theorem a3v {N0:Nat}(g:GT)(ok:Gr.Ok g)(v:Value)(W:World)(hT:Tab W)(h:(Gn N0 g).p v W)(hl1:g.1.length≤100000)(hl2:g.2.length≤100000)(hN0:N0≤1000000) :
  Calls Tryz.prog 19 #[v] W (Post (sV (cu 3) 35 W.heap.size (fun b=>b<W.heap.size) (bccF (nbA g) (vset g.1))) W):=by
 have hgd:=h
 have hnV:=eQ ok
 obtain⟨l,hl⟩:=eqX (nbL g (ai (vset g.1)))
 have hnb:nbA g=lkS l:=by rw[hl,nbA]
 rw[hnb] at hnV ⊢
 obtain⟨V,hV⟩:=eqX (vset g.1)
 rw[← hV] at hnV ⊢
 have hT0:=hT.lt
 refine dx (args:=[v]) (As:=[E v]) Tryz.func19 rfl Tryz.ntmps19 (Nat.le_of_ble_eq_true rfl) ?_ (fun a hf=>?_) (Nat.le_of_ble_eq_true rfl)
 ·exact arg1 rfl
 dsimp only[params,Nat.reduceAdd] at hf
 have e:=Ext.rfl' W
 refine seq <| ac <| aC hf rfl (by decide) fun a hf=>aa ?_
 have e0:=e
 refine seq <| az 2 hf (by decide +kernel) <| st (mv rfl) <| st (aw (A:=cw l V 1024) eH rfl (fun v w he k=>by cases k;rw[hl,hV];exact jb g ok _ w (hT.ext he) (vst (e0.tr he) hgd) hl1 hl2 hN0)) ?_
 refine en fun a w e' hf=>?_
 replace hT:=hT.ext e'
 replace e:=e.tr e'
 obtain⟨av,⟨mq,rfl,HV0⟩,hf⟩:=hf.opn 11 rfl
 obtain⟨cs,⟨bm,nm,rfl,_,hnm,HM⟩,hmq⟩:=HV0
 replace hmq:mq=.map (some bm):=hmq
 subst hmq
 obtain⟨N1,hN1⟩:=eqX w.heap.size
 have hN1s:N1≤w.heap.size:=Nat.le_of_eq hN1
 have hbm:bm<N1:=by rw[hN1];exact HM.lt
 have hWN1:W.heap.size≤N1:=by rw[hN1];exact e.size
 replace hf:=hf.kp [11]
 refine eV I79 hf (by decide) fun a b3 w e' hb3 hs3 B3 hf=>?_
 have hle3:=Nat.le_trans e.size (Nat.le_of_eq hb3.symm)
 have lo3_hN1s:=Nat.le_trans hN1s (Nat.le_of_eq hb3.symm)
 replace hT:=hT.ext e'
 replace HM:=HM.ext e'
 replace hN1s:=Nat.le_trans hN1s e'.size
 replace e:=e.tr e'
 have n3:N1≤b3:=lo3_hN1s
 refine aF T79 hf rfl rfl (ct _ _) B3 rfl (aM _ _) fun w hg hsz B3 hf=>?_
 replace e:=e.gr hg (by omega);replace hT:=hT.gr hg (by omega);replace HM:=HM.gr hg (fun h=>by cases h;omega);replace hN1s:=Nat.le_trans hN1s hg.size;clear hg
 refine aa ?_
 have l3:=B3.lt
 replace hf:=hf.kp [3]
 refine seq <| ac <| eV I39 hf (by decide) fun a b4 w e' hb4 hs4 B4 hf=>?_
 have hle4:=Nat.le_trans e.size (Nat.le_of_eq hb4.symm)
 have lt4_B3:=B3.lt
 replace hT:=hT.ext e'
 replace HM:=HM.ext e'
 replace e:=e.tr e'
 replace B3:=B3.ext e'
 refine aa ?_
 replace B4:Blk w b4 #[.slice none 0 0] 39:=B4
 have n4:b3<b4:=by omega
 have l4:=B4.lt
 replace hf:=hf.kp [3,4]
 refine seq <| ac <| eK iKV hf (by decide) fun a ma w e' hma hsa MA hf=>?_
 replace e:=e.tr e';replace hT:=hT.ext e';replace HM:=HM.ext e';replace B3:=B3.ext e';replace B4:=B4.ext e';clear e'
 have n5:b4<ma:=by omega
 refine eK iKV hf (by decide) fun a ml w e' hml hsl ML hf=>?_
 replace e:=e.tr e';replace hT:=hT.ext e';replace HM:=HM.ext e';replace B3:=B3.ext e';replace B4:=B4.ext e';replace MA:=MA.ext e';clear e'
 have n6:ma<ml:=by omega
 have lml:=ML.lt
 obtain⟨N2,hN2⟩:=eqX w.heap.size
 have hN2s:N2≤w.heap.size:=Nat.le_of_eq hN2
 have hml2:ml<N2:=by omega
 refine eV I43 hf (by decide) fun a b5 w e' hb5 hs5 B5 hf=>?_
 have hle5:=Nat.le_trans e.size (Nat.le_of_eq hb5.symm)
 have lo5_hN2s:=Nat.le_trans hN2s (Nat.le_of_eq hb5.symm)
 replace hT:=hT.ext e'
 replace HM:=HM.ext e'
 replace MA:=MA.ext e'
 replace ML:=ML.ext e'
 replace hN2s:=Nat.le_trans hN2s e'.size
 replace e:=e.tr e'
 replace B3:=B3.ext e'
 replace B4:=B4.ext e'
 refine eV I43 hf (by decide) fun a b6 w e' hb6 hs6 B6 hf=>?_
 have lo6_hN2s:=Nat.le_trans hN2s (Nat.le_of_eq hb6.symm)
 have lt6_B3:=B3.lt
 have lt6_B4:=B4.lt
 replace hT:=hT.ext e'
 replace HM:=HM.ext e'
 replace MA:=MA.ext e'
 replace ML:=ML.ext e'
 replace hN2s:=Nat.le_trans hN2s e'.size
 replace e:=e.tr e'
 replace B3:=B3.ext e'
 replace B4:=B4.ext e'
 replace B5:=B5.ext e'
 have n7:N2≤b5:=lo5_hN2s
 have n8:N2≤b6∧b5<b6:=⟨lo6_hN2s,by omega⟩
 replace hf:=hf.kp [3,4,5,6,12,13]
 refine aO T43 hf rfl rfl rfl B5 Nat.zero_lt_one fun w hg hsz B5 hf=>?_
 replace e:=e.gr hg (by omega);replace hT:=hT.gr hg (by omega);replace HM:=HM.gr hg (fun h=>by cases h;omega);replace MA:=MA.gr hg (fun h=>by cases h;omega);replace ML:=ML.gr hg (fun h=>by cases h;omega);replace B3:=B3.gr hg (by omega);replace B4:=B4.gr hg (by omega);replace B6:=B6.gr hg (by omega);clear hg
 refine aO T43 hf rfl rfl rfl B6 Nat.zero_lt_one fun w hg hsz B6 hf=>?_
 replace e:=e.gr hg (by omega);replace hT:=hT.gr hg (by omega);replace HM:=HM.gr hg (fun h=>by cases h;omega);replace MA:=MA.gr hg (fun h=>by cases h;omega);replace ML:=ML.gr hg (fun h=>by cases h;omega);replace B3:=B3.gr hg (by omega);replace B4:=B4.gr hg (by omega);replace B5:=B5.gr hg (by omega);clear hg
 refine aa ?_
 replace B5:Blk w b5 #[.map (some ma)] 43:=B5
 replace B6:Blk w b6 #[.map (some ml)] 43:=B6
 have l6:=B6.lt
 replace hf:=hf.keep [3,4,5,6]
 refine seq <| ac <| eV I35 hf (by decide) fun a b7 w e' hb7 hs7 B7 hf=>?_
 replace hT:=hT.ext e'
 replace HM:=HM.ext e'
 replace MA:=MA.ext e'
 replace ML:=ML.ext e'
 replace e:=e.tr e'
 replace B3:=B3.ext e'
 replace B4:=B4.ext e'
 replace B5:=B5.ext e'
 replace B6:=B6.ext e'
 refine aa ?_
 replace B7:Blk w b7 #[.slice none 0 0] 35:=B7
 have n9:b6<b7:=by omega
 have l7:=B7.lt
 replace hf:=hf.keep [3,4,5,6,7]
 refine seq <| ac <| eV I95 hf (by decide) fun a b8 w e' hb8 hs8 B8 hf=>?_
 replace hT:=hT.ext e'
 replace HM:=HM.ext e'
 replace MA:=MA.ext e'
 replace ML:=ML.ext e'
 replace e:=e.tr e'
 replace B3:=B3.ext e'
 replace B4:=B4.ext e'
 replace B5:=B5.ext e'
 replace B6:=B6.ext e'
 replace B7:=B7.ext e'
 refine aa ?_
 have n10:b7<b8:=by omega
 replace hf:=hf.kp [3,4,5,6,7,8]
 refine seq <| az 1 hf (by decide +kernel) <| st (a3s rfl rfl rfl rfl rfl rfl) <| en fun a w e' hf=>?_
 replace hT:=hT.ext e'
 replace HM:=HM.ext e'
 replace MA:=MA.ext e'
 replace ML:=ML.ext e'
 replace e:=e.tr e'
 replace B3:=B3.ext e'
 replace B4:=B4.ext e'
 replace B5:=B5.ext e'
 replace B6:=B6.ext e'
 replace B7:=B7.ext e'
 replace B8:=B8.ext e'
 refine aO T95 hf rfl rfl rfl B8 Nat.zero_lt_one fun w hg hsz B8 hf=>?_
 replace e:=e.gr hg (by omega);replace hT:=hT.gr hg (by omega);replace HM:=HM.gr hg (fun h=>by cases h;omega);replace MA:=MA.gr hg (fun h=>by cases h;omega);replace ML:=ML.gr hg (fun h=>by cases h;omega);replace B3:=B3.gr hg (by omega);replace B4:=B4.gr hg (by omega);replace B5:=B5.gr hg (by omega);replace B6:=B6.gr hg (by omega);replace B7:=B7.gr hg (by omega);clear hg
 refine aa ?_
 replace B8:Blk w b8 #[bcV b5 b6 b7 b3 b8 b4] 95:=B8
 have l8:=B8.lt
 obtain⟨N,hN⟩:=eqX w.heap.size
 have D:BcD bm b5 b6 b7 b3 b8 b4 ma ml N:=⟨by omega,by omega,by omega,by omega,by omega⟩
 have hWb:W.heap.size≤b3:=by omega
 have hlN:b7<N∧b4<N∧ma<N∧ml<N:=by omega
 have hWN:W.heap.size≤N:=by omega
 have H:BcW l V bm nm b5 b6 b7 b3 b8 b4 ma ml N (fun b=>b<N) ⟨[],[],[],[]⟩ (.slice none 0 0) (.slice none 0 0) w:=
  ⟨hT,HM,B5,B6,B7,B3,B8,B4,MA,ML,OwR.nil intE _ (Nat.le_of_eq hN) fun b hb=>hb.elim,OwX.nil _ _ (Nat.le_of_eq hN)⟩
 have hI0:BcI V 0 ⟨[],[],[],[]⟩:=⟨(fun p hp=>by cases hp),(fun p hp=>by cases hp),List.Pairwise.nil,(fun p hp=>by cases hp),(fun p hp=>by cases hp),List.Pairwise.nil,Nat.le_refl _,(fun p hp=>by cases hp),Nat.le_refl _⟩
 replace hf:=hf.kp [3,4,5,6,7,8]
 obtain⟨Nz,hNz⟩:=eqX w.heap.size
 refine seq <| seq ?_
 refine az 3 hf (by decide +kernel) <| st (bQ Tryz.underlying79 rfl T76 (by decide) rfl) <| st ((ldP T76 rfl H.pg (by rw[aM];decide)).eq (congrArg Value.agg (bW V (.map (some bm))))) ?_
 refine st (aw (A:=dh Nz V) dr rfl (fun v w' he h=>by cases h;exact Calls.mono (du _ w') (fun en w2 ⟨u,h1,h2,b',h3,h4,h5⟩=>⟨u,h1,h2,b',by have:=he.size;omega,h4,h5⟩))) ?_
 refine en fun a w e' hf=>?_
 replace H:=H.ext e'
 replace e:=e.tr e'
 refine aa ?_
 obtain⟨vv,⟨b17,h17,rfl,BS⟩,hf⟩:=hf.fix 17 rfl
 replace hf:=hf.kp [3,4,5,6,7,8,17]
 have hBW:W.heap.size≤w.heap.size:=e.size
 have hNB:N≤w.heap.size:=H.ow.base
 obtain⟨G,hG⟩:∃G:Nat→Prop,G=fun b=>b<N∨aW w.heap.size b:=⟨_,rfl⟩
 have hGs:G b7∧G b4∧G ma∧G ml:=by rw[hG];exact⟨.inl hlN.1,.inl hlN.2.1,.inl hlN.2.2.1,.inl hlN.2.2.2⟩
 have hGW:∀b,b<W.heap.size→G b:=fun b hb=>by rw[hG];exact .inl (by omega)
 have hGh:∀b,aW w.heap.size b→G b:=fun b hb=>by rw[hG];exact .inr hb
 have hGl:∀b,G b→b<w.heap.size+3:=fun b hb=>by
  rw[hG] at hb
  rcases hb with hb|hb
  ·omega
  ·exact hb.2
 have hO0:BcO l V bm nm b5 b6 b7 b3 b8 b4 ma ml N G (aW w.heap.size) W ⟨[],[],[],[]⟩ (.slice none 0 0) (.slice none 0 0) w:=⟨H.weak fun b hb hh=>by
   rw[hG] at hh
   rcases hh with hh|hh
   ·exact hh
   ·have:=hh.1;omega,e,fun b hb=>by rcases hb with hb|hb <;> cases hb⟩
 obtain⟨nb,hnb'⟩:∃nb,nb=lkS l:=⟨_,rfl⟩
 rw[← hnb'] at hnV ⊢
 refine blk <| dz (S:=V) hf rfl BS (by decide) (fun sl w1=>(∃vw vo,BcO l V bm nm b5 b6 b7 b3 b8 b4 ma ml N G (aW w.heap.size) W (sl.foldl (bcN nb (card V)) ⟨[],[],[],[]⟩) vw vo w1)∧BcI V sl.length (sl.foldl (bcN nb (card V)) ⟨[],[],[],[]⟩)) (fun _ _=>False) (fun sl w1 ⟨⟨_,_,h⟩,_⟩=>h.h.t)
  ⟨⟨_,_,hO0⟩,hI0⟩ (fun sl w1 w2 ⟨⟨v1,v2,h⟩,hq⟩ hs k=>⟨⟨v1,v2,h.h.ch D k.chg (fun b hb=>Nat.le_trans hNB hb.1) h.own hGh,h.e.kp k hBW,h.own⟩,hq⟩) (fun _ _ _ h=>h.elim) ?_ ?_ (fun _ _ _ _ _ _ h=>h.elim)
 ·intro lp sl' x rest a1 w1 hs hJ hlw hf
  have hxV:V.getLsbD x=true:=(aD.1 (by rw[hs];simp)).2
  have hx1024:x<1024:=aA hxV
  have hsl:sl'.length≤1024:=by have:=fq V;rw[hs] at this;simp at this;omega
  have hwx:(Lit.int .i64 (x:Int)).wf=true:=bP (by omega) (by omega)
  generalize hBz:w.heap.size=Bz at *
  refine ac <| aC hf rfl (by decide) fun a hf=>aa <| ⟨Kh.rfl' _ _,fun w3 k3 hsz3=>?_⟩
  obtain⟨⟨vx,vy,hJ⟩,hq⟩:=hJ
  have hJ3:BcO l V bm nm b5 b6 b7 b3 b8 b4 ma ml N G (aW Bz) W (sl'.foldl (bcN nb (card V)) ⟨[],[],[],[]⟩) vx vy w3:=⟨hJ.h.ch D k3.chg (fun b hb=>Nat.le_trans hNB hb.1) hJ.own hGh,hJ.e.kp k3 hBW,hJ.own⟩
  have hw3:Bz+3≤w3.heap.size:=by omega
  replace hf:=hf.pure w3
  obtain⟨H,e,hown⟩:=hJ3
  have kh:=Kh.rfl' Bz w3
  have hstep:((sl'++[x]).foldl (bcN nb (card V)) ⟨[],[],[],[]⟩)=bcN nb (card V) (sl'.foldl (bcN nb (card V)) ⟨[],[],[],[]⟩) x:=by rw[List.foldl_append];rfl
  obtain⟨sx,hsx⟩:=eqX (sl'.foldl (bcN nb (card V)) ⟨[],[],[],[]⟩)
  rw[← hsx] at H hq hstep
  obtain⟨s2,hs2⟩:=eqX (bT nb (card V) sx x)
  have hq2:BcI V sl'.length s2:=by rw[hs2];exact uq hnV hq hxV
  obtain⟨tgt,htgt⟩:=eqX (dG nb s2 x)
  have hq3:BcI V (sl'++[x]).length tgt:=by rw[htgt,List.length_append,List.length_singleton];exact ut hq2
  have fin:∀v1 v2 w1,BcO l V bm nm b5 b6 b7 b3 b8 b4 ma ml N G (aW Bz) W tgt v1 v2 w1→(∃v1 v2,BcO l V bm nm b5 b6 b7 b3 b8 b4 ma ml N G (aW Bz) W ((sl'++[x]).foldl (bcN nb (card V)) ⟨[],[],[],[]⟩) v1 v2 w1)∧BcI V (sl'++[x]).length ((sl'++[x]).foldl (bcN nb (card V)) ⟨[],[],[],[]⟩):=fun v1 v2 w1 h1=>by
   rw[hstep,bcN,← hs2,← htgt];exact⟨⟨v1,v2,h1⟩,hq3⟩
  have hal2:=hq2.al
  have hol2:=hq2.o
  have dn:=D.n
  have hgo:∀b,aW Bz b→¬(b=b7∨b=b4∨b=ma∨b=ml):=fun b hb hh=>by have:=hb.1;omega
  rw[bT] at hs2
  have hlkx:lkS l (x:Int)=nb (x:Int):=by rw[hnb']
  replace hf:=hf.keep [3,4,5,6,7,8,9]
  refine blk ?_
  refine seq <| seq ?_
  refine az 4 hf (by decide +kernel) <| st (ld1 (v:=.map (some ma)) T43 rfl H.pa rfl) <| st (mv rfl) <| st (cU Tryz.underlying43 rfl H.ma rfl hwx) <| st (eql rfl rfl) <| en fun a w e' hf=>?_
  replace H:=H.ext e'
  replace kh:=kh.tr (Kh.ext e')
  replace e:=e.tr e'
  refine aa <| cut (J:=fun a w=>Fr 39 a w [(3,E (ptr b3)),(4,E (ptr b4)),(9,E (I (x:Nat)))]∧Ext W w∧Kh Bz w3 w∧(∃vx vy,BcW l V bm nm b5 b6 b7 b3 b8 b4 ma ml N G s2 vx vy w∧∀b,OWN vx vy b→¬aW Bz b)) ?_ (fun a w hJ=>?_)
  ·by_cases hz:lkI sx.la (x:Int)=0
   ·rw[if_pos hz] at hs2
    rw[show (lkI sx.la (x:Int)==0)=true by rw[hz];rfl] at hf
    refine ifT hf rfl ?_
    replace hf:=hf.keep [3,4,5,6,7,8,9]
    refine az 2 hf (by decide +kernel) <| st (ld1 (v:=bcV b5 b6 b7 b3 b8 b4) T95 rfl H.pd rfl) <| st (mv rfl) <| en fun a w e' hf=>?_
    replace H:=H.ext e'
    replace kh:=kh.tr (Kh.ext e')
    replace e:=e.tr e'
    replace hf:=hf.kp [3,4,5,6,7,8,9,23,24]
    refine il (S:=SBc b7 b4 ma ml vx vy) (F:=fun w'=>∃vw' vo',BcW l V bm nm b5 b6 b7 b3 b8 b4 ma ml N G (bcF (lkS l) (card V) x (-1) sx) vw' vo' w'∧∀b,OWN vw' vo' b→OWN vx vy b∨w.heap.size≤b) (A:=E (.tuple #[])) hf (by decide) pF rfl ?_ fun a w2 hc HF hf=>?_
    ·have e24:a.eval (.tmp 24)=I (x:Nat):=hf.opd (.tmp 24) _ rfl
     have eC:a.eval (.const (I (-1)))=I (-1):=rfl
     simp only[List.map_toArray,List.map_cons,List.map_nil,e24,eC]
     exact (a3p D (c0:=sl'.length) (by omega) (by omega) (by rw[← hnb'];exact hnV) (card V) x (-1) sx vx vy G _ (fun b hb=>by have h1:=hGl b hb;have h2:=kh.size;omega) hGs H hq hxV (by omega) (by rw[unv,← cJ];exact List.length_filter_le _ _)).mono fun en w' ⟨k1,v1,v2,k2,k3,k4⟩=>⟨_,k1,k2,rfl,v1,v2,k3,k4⟩
    obtain⟨vx2,vy2,H2,hnew⟩:=HF
    rw[← hnb',← hs2] at H2
    have hwsz:=kh.size
    have hlt:∀b,OWN vx vy b→W.heap.size≤b:=fun b hb=>hb.elim (fun h=>by have:=(H.ow.lt h).1;omega) fun h=>by have:=(H.oo.lt h).1;omega
    replace e:=e.ch hc fun b hb=>by
     rcases hb with hb|hb
     ·omega
     ·exact hlt b hb
    replace kh:=kh.tr (Kh.chg hc fun b hb hh=>by
     rcases hb with hb|hb
     ·exact hgo b hh hb
     ·exact hown b hb hh)
    have hown2:∀b,OWN vx2 vy2 b→¬aW Bz b:=fun b hb=>by
     rcases hnew b hb with h|h
     ·exact hown b h
     ·exact fun hh=>by have:=hh.2;omega
    refine aa ?_
    replace hf:=hf.kp [3,4,9]
    exact⟨rfl,hf,e,kh,vx2,vy2,H2,hown2⟩
   ·rw[if_neg hz] at hs2
    rw[show (lkI sx.la (x:Int)==0)=false from beq_eq_false_iff_ne.2 hz] at hf
    refine ifF hf rfl ?_
    refine aj ?_
    simp only[Exit.then,Exit.inBlock,↓reduceIte]
    replace hf:=hf.kp [3,4,9]
    rw[← hs2] at H
    exact⟨trivial,hf,e,kh,vx,vy,H,hown⟩
  obtain⟨hf,e,kh,vx2,vy2,H,hown⟩:=hJ
  rw[dG] at htgt
  obtain⟨nx,hnx⟩:=eqX (nb (x:Int))
  rw[← hnx] at htgt hlkx
  have hdv:=MpR.dvE H.m (Nat.le_refl nm) (G:=Go.Mono.G0) (fun h=>h)
  refine seq <| az 5 hf (by decide +kernel) <| st (bQ Tryz.underlying79 rfl T77 (by decide) rfl) <| st (ld1 (v:=.map (some bm)) T77 rfl H.pg (bN _ _)) <| st (mv rfl) <| st ((lkM (l:=l) (i:=(x:Int)) Tryz.underlying77 bZ (isE rfl hdv) rfl hwx).eq (congrArg ae hlkx)) <| st (aw (A:=E (B (nx==0))) (B:=E (ae nx)) dN rfl (fun v w he h=>by cases h;exact iD _ w)) ?_
  refine en fun a w e' hf=>?_
  replace H:=H.ext e'
  replace kh:=kh.tr (Kh.ext e')
  replace e:=e.tr e'
  refine aa ?_
  replace hf:=hf.kp [3,4,9,30]
  by_cases hz:nx=0
  ·rw[if_pos hz] at htgt
   rw[show (nx==0)=true from beq_iff_eq.2 hz] at hf
   refine ifT hf rfl ?_
   replace hf:=hf.kp [3,4,9]
   have hkz:=kh.size
   have hgo2:∀b,GO (fun b=>G b∨vx2.ownBlock=some b) vy2 b→b<w.heap.size:=fun b hb=>by
    rcases hb with (hb|hb)|hb
    ·have:=hGl b hb;omega
    ·exact (H.ow.lt hb).2
    ·exact (H.oo.lt hb).2
   have hlt:∀b,vy2.ownBlock=some b→W.heap.size≤b:=fun b hb=>by have:=(H.oo.lt hb).1;omega
   have hesz:=e.size
   obtain⟨Nw,hNw⟩:=eqX w.heap.size
   refine az 4 hf (by decide +kernel) <| st (ld1 (v:=vy2) T39 rfl H.po rfl) <| st (mv rfl) <| st ((mg (B:=Nw) (G:=Go.Mono.G0) Tryz.underlying35 I3 rfl rfl (Nat.le_of_eq hNw) (fun b hb=>hb.elim)).conv (B:=Dv (cu 3) (GO (fun b=>G b∨vx2.ownBlock=some b) vy2) [(x:Int)]) (fun v w' k=>OwR.own' k fun b hb hh=>by have h1:=hgo2 b hh;have h2:=(OwR.lt k hb).1;omega)) ?_
   refine st (aX (e:=cu 3) (G:=GO (fun b=>G b∨vx2.ownBlock=some b) vy2) Tryz.underlying39 I35 rfl (by decide) rfl hgo2 (isR rfl)) <| en fun a w e' hf=>?_
   replace H:=H.ext e'
   replace kh:=kh.tr (Kh.ext e')
   replace e:=e.tr e'
   replace hf:=hf.kp [3,4,9,31,34]
   refine lJ Tryz.underlying39 I35 rfl rfl hf (by decide) rfl H.oo (isR rfl) (by simp only[List.length_singleton];omega) (by simp only[List.length_singleton,maxLen];omega) fun a vy3 w' hg hat Hn hf=>?_
   have Bo:=H.po.gro hg (fun h=>by have:=(H.oo.lt h).1;omega)
   have hksz:=kh.size
   replace hf:=hf.kp [3,4,9,35]
   refine aO T39 hf rfl rfl Hn.one Bo Nat.zero_lt_one fun w2 hg2 hsz Bo hf=>?_
   have hown3:∀b,OWN vx2 vy3 b→¬aW Bz b:=fun b hb=>by
    rcases hb with hb|hb
    ·exact hown b (.inl hb)
    ·rcases hat with h|h
     ·exact hown b (.inr (by rw[← h];exact hb))
     ·rw[h] at hb;cases hb
      exact fun hh=>by have:=hh.2;omega
   replace H:BcW l V bm nm b5 b6 b7 b3 b8 b4 ma ml N G tgt vx2 vy3 w2:=by rw[htgt];exact H.setO D hg Hn hg2 Bo hGs.2.1
   replace e:=(e.gro hg hlt).gr hg2 (by omega)
   replace kh:=(kh.tr (Kh.gro hg fun b hb hh=>hown b (.inr hb) hh)).tr (Kh.gr hg2 fun hh=>hgo _ hh (.inr (.inl rfl)))
   refine aa ?_
   simp only[Exit.inBlock]
   exact⟨fin _ _ _ ⟨H,e,hown3⟩,kh⟩
  ·rw[if_neg hz] at htgt
   rw[show (nx==0)=false from beq_eq_false_iff_ne.2 hz] at hf
   refine ifF hf rfl ?_
   refine aj ?_
   rw[← htgt] at H
   exact⟨fin _ _ _ ⟨H,e,hown⟩,kh⟩
 ·intro a' w' hf' hJ hsz hDn
  simp only[Exit.inBlock,↓reduceIte,Exit.then]
  obtain⟨⟨vx,vy,⟨H',e',hown⟩⟩,hq⟩:=hJ
  have hD:Ds [w.heap.size] w':=(Ds.nil w').cons hDn (by simp)
  have hf:FrD 39 (bS [w.heap.size]) a' w' [(4,E (ptr b4))]:=hf'.keep [4]
  have hDW:∀d∈[w.heap.size],W.heap.size≤d:=fun d hd=>by rw[List.mem_singleton] at hd;omega
  have hlv:=hq.o
  have hal:=hq.al
  have hvl:=fq V
  have dn:=D.n
  rw[bccF]
  obtain⟨sx,hsx⟩:=eqX ((ai V).foldl (bcN nb (card V)) ⟨[],[],[],[]⟩)
  have hln:∀xs∈sx.out,xs.length≤100000:=fun xs hx=>by
   rw[hsx] at hx
   have:=a3u nb (card V) (ai V) ⟨[],[],[],[]⟩ (fun xs hx=>by cases hx) xs hx
   omega
  rw[← hsx] at H' hlv hal ⊢
  have hodn:∀b,vy.ownBlock=some b→¬b∈[w.heap.size]:=fun b hb hd=>by
   rw[List.mem_singleton] at hd
   exact hown b (.inr hb) (by rw[hd];exact⟨Nat.le_refl _,by omega⟩)
  have h4d:¬b4∈[w.heap.size]:=fun hd=>by rw[List.mem_singleton] at hd;omega
  have H:=H'
  have e:=e'
  have hGD:∀d∈[w.heap.size],G d:=fun d hd=>by rw[List.mem_singleton] at hd;rw[hd];exact hGh _ ⟨Nat.le_refl _,by omega⟩
  generalize [w.heap.size]=D2 at *
  generalize w'=w at *
  refine seq <| az 1 hf (by decide +kernel) <| st (ld1 (v:=vy) T39 rfl H.po rfl) <| en fun a w e' hf=>?_
  replace H:=H.ext e'
  replace e:=e.tr e'
  replace hD:=hD.ext e'
  replace hf:=hf.kp [4,36]
  refine fb (S:=fun b=>vy.ownBlock=some b) (F:=fun z w'=>OwX (cu 3) 35 N (fun b=>b<W.heap.size∨b∈D2) w' (gp sx.out) vy) hf (by decide) wq ?_ fun a z w2 hc hF hf=>?_
  ·have e36:a.eval (.tmp 36)=vy:=hf.opd (.tmp 36) _ rfl
   have eF:a.eval (.func 67)=.func (.func 67) #[] #[]:=rfl
   simp only[List.map_toArray,List.map_cons,List.map_nil,e36,eF]
   exact (a3r rfl Dv.ownSl (Dv.own.2 (.inl ⟨rfl,rfl⟩)) H.oo (by omega) hln).mono fun en w' ⟨k1,k2,out',k3,k4,k5⟩=>⟨_,k1,k2,by rw[← nW k3 k4];exact k5.weak fun b _ hb=>.inl (hb.elim (hGW b) (hGD b))⟩
  have B4:=H.po.ch hc (fun h=>by have:=(H.oo.lt h).1;omega)
  replace hD:=hD.ch hc fun d hd h=>hodn d h hd
  replace e:=e.ch hc fun b hb=>by have:=(H.oo.lt hb).1;omega
  generalize w2=w at *
  refine aa ?_
  replace hf:=hf.kp [4]
  refine seq <| az 1 hf (by decide +kernel) <| st (ld1 (v:=vy) T39 rfl B4 rfl) <| en fun a w e' hf=>?_
  replace hF:=hF.ext e'
  replace e:=e.tr e'
  replace B4:=B4.ext e'
  replace hD:=hD.ext e'
  refine aC hf rfl (by decide) fun a hf=>aa <| ak <| jJ rfl hf rfl hD ⟨_,rfl,e.shut hDW,?_⟩
  exact OwX.low ((OwX.ch hF (ed D2 w) hodn fun b hb=>.inr hb).weak fun b _ hb=>.inl hb) hWN
theorem uv {N0:Nat}(g:GT)(ok:Gr.Ok g)(v:Value)(W:World)(hT:Tab W)(h:(Gn N0 g).p v W)(hl1:g.1.length≤100000)(hl2:g.2.length≤100000)(hN0:N0≤1000000) :
  Calls Tryz.prog 19 #[v] W (Post (Dv (slE (slE intE)) Go.Mono.G0 (bccF (nbA g) (vset g.1))) W):=
 (a3v g ok v W hT h hl1 hl2 hN0).mono fun en w' ⟨u,k1,k2,k3⟩=>⟨u,k1,k2,Dv.ownSlS (OwX.sl0 k3)⟩
end Go.Mono
