/-
  Walks of functions and plain facts.
  No condition.
-/
import Derived.Test.YtbjangoghokneaaGreatDoorBF
import Derived.Test.YtbjangoghokneaaGreatDoorBD
import Derived.Test.YtbjangoghokneaaGreatDoorBE
import Derived.Test.YtbjangoghokneaaGreatDoorBC
set_option linter.unusedVariables false
set_option linter.unusedSimpArgs false
namespace Go.Mono
open Go Go.Proofs Go.RowKit Go.Gr
theorem tI {fn:Func}{t u t' u':Nat}{R:Ending→World→Prop}{n:Nat}{a:Act}{w:World}{b b':Nat}{v v':Value}{bt bt':TypeId}{L:Env}{D:List Nat}(hr:fn.results = #[.cell t u,.cell t' u'])(ht:TI Tryz.prog u false 1)(ht':TI Tryz.prog u' false 1)(hf:FrD n (bS D) a w L)(h:aJ L t=some (E (.pointer (some ⟨b,0,none⟩))))(h':aJ L t'=some (E (.pointer (some ⟨b',0,none⟩))))
  (hb:Blk w b #[v] bt) (hb':Blk w b' #[v'] bt') (hD:Ds D w) (hR:R (.returned (.tuple #[v,v'])) (shut D w)):bodyPostM (FW none) 0 Tryz.prog fn R .ret a w:=by
 have hv:a.tmps.getD t undef=.pointer (some ⟨b,0,none⟩):=hf.val t _ h
 have hv':a.tmps[t]?.getD undef=.pointer (some ⟨b,0,none⟩):=by simpa using hv
 have hw:a.tmps.getD t' undef=.pointer (some ⟨b',0,none⟩):=hf.val t' _ h'
 have hw':a.tmps[t']?.getD undef=.pointer (some ⟨b',0,none⟩):=by simpa using hw
 have hc:(shut D w).cell? ⟨b,0,none⟩=some v:=by rw[(hb.shut (hD.ne hb)).cell 0];rfl
 have hc':(shut D w).cell? ⟨b',0,none⟩=some v':=by rw[(hb'.shut (hD.ne hb')).cell 0];rfl
 show LeavesInM _ _ _ _ _ _ _ _ _
 rw[hf.defers]
 exact gC D w hD (by simp[results,hr,hv',hw',asAddr,fx ht hc,fx ht' hc']) hR
def evS (L:List BS)(s:BS):Nat→BS
 | 0=>s
 | j+1=>if j % 2=0 then evS L s j ||| gs L j else evS L s j
def dC (nb:Int→BS)(ps:List BS):Nat→BS
 | 0=>0
 | k+1=>evS (lvB nb ((aI (gs ps k)).getD 0)) (dC nb ps k) (lvB nb ((aI (gs ps k)).getD 0)).length
def bdB (nb:Int→BS)(one:BS)(x:Nat):Bool:=
 ((!((nb (x:Int) &&& one)==0))==one.getLsbD x && !(nb (x:Int)==0)) || ((one.getLsbD x && !((nb (x:Int) &&& one)==0)) || (!one.getLsbD x && !((nb (x:Int) &&& ~~~one)==0)))
def bpO (nb:Int→BS)(V:BS):BS:=dC nb (prF nb (card V) V) (prF nb (card V) V).length
def bpB (nb:Int→BS)(V:BS):Bool := !(ah V).any (bdB nb (bpO nb V))
def bpL (nb:Int→BS)(V:BS):List Nat:=if bpB nb V=true then ah (bpO nb V) else []
structure BpJ (W:World)(nm bm:Nat)(l:List (Int×BS))(V one:BS)(b2 b3 b4 b5:Nat)(w:World):Prop where
 e:Ext W w
 t:Tab w
 m:MpR sKV w bm nm l
 p2:Blk w b2 #[.slice none 0 0] 35
 p3:Blk w b3 #[B false] 4
 p4:Blk w b4 (adC V (.map (some bm))) 79
 p5:Blk w b5 (aH one) 76
theorem BpJ.kp {W:World}{nm bm:Nat}{l:List (Int×BS)}{V one:BS}{b2 b3 b4 b5:Nat}{B:Nat}{w w':World}(h:BpJ W nm bm l V one b2 b3 b4 b5 w)(k:Kp B w w')(hW:W.heap.size≤B)(h0:0<B)(l2:b2<B)(l3:b3<B)(l4:b4<B)(l5:b5<B)(lm:bm<B):BpJ W nm bm l V one b2 b3 b4 b5 w':=
 have no:∀{b},b<B→¬aW B b:=fun h hh=>by have:=hh.1;omega
 ⟨h.e.kp k hW,h.t.kp k h0,h.m.pres (k.same bm h.m.lt (no lm)),h.p2.kp k (no l2),h.p3.kp k (no l3),h.p4.kp k (no l4),h.p5.kp k (no l5)⟩
theorem tJ {G:Nat→Prop}{N:Nat}(g:GT)(ok:Gr.Ok g)(v:Value)(W:World)(hT:Tab W)(h:(Dv (ptE (grE N)) G (some g)).p v W)(hl1:g.1.length≤100000)(hl2:g.2.length≤100000)(hN:N≤1000000) :
  Calls Tryz.prog 23 #[v] W (Post (Tup [Dv (slE intE) G0 (ai (bpL (nbA g) (aj g.1))),E (B (bpB (nbA g) (aj g.1)))]) W):=by
 have hgd:(Dv (ptE (grE N)) G0 (some g)).p v W:=Dv.weak h fun b _ hb=>hb.elim
 obtain⟨l,hl⟩:∃l,l=nbL g (ah (aj g.1)):=⟨_,rfl⟩
 have hnb:nbA g=lkS l:=by rw[hl,nbA]
 rw[hnb]
 obtain⟨V,hV⟩:∃V,V=aj g.1:=⟨_,rfl⟩
 rw[← hV]
 obtain⟨ps,hps⟩:∃ps,ps=cR l V:=⟨_,rfl⟩
 have hpl:ps.length≤1024:=by rw[hps,cR];exact Nat.le_trans (sH _ _ _) (dR V)
 obtain⟨rl,hrl⟩:∃rl,rl=bpL (lkS l) V:=⟨_,rfl⟩
 obtain⟨rb,hrb⟩:∃rb,rb=bpB (lkS l) V:=⟨_,rfl⟩
 rw[← hrl,← hrb]
 rw[bpL,← hrb] at hrl
 rw[bpB] at hrb
 have hbo:bpO (lkS l) V=dC (lkS l) ps ps.length:=by rw[hps,cR,bpO]
 rw[hbo] at hrl hrb
 have hT0:=hT.lt
 refine dN (args:=[v]) (As:=[E v]) Tryz.func23 rfl Tryz.ntmps23 (Nat.le_of_ble_eq_true rfl) ?_ (fun a hf=>?_) (Nat.le_of_ble_eq_true rfl)
 ·exact arg1 rfl
 dsimp only[params,Nat.reduceAdd] at hf
 have e:=Ext.rfl' W
 refine seq <| ac <| tL I35 hf fun a b2 w e' hb2 hs2 B2 hf=>?_
 have hle2:=Nat.le_trans e.size (Nat.le_of_eq hb2.symm)
 obtain⟨hT,e⟩:=up2 e' hT e
 refine tL I4 hf fun a b3 w e' hb3 hs3 B3 hf=>?_
 have hle3:=Nat.le_trans e.size (Nat.le_of_eq hb3.symm)
 have lt3_B2:=B2.lt
 obtain⟨hT,e,B2⟩:=up3 e' hT e B2
 refine aa ?_
 replace B2:Blk w b2 #[.slice none 0 0] 35:=B2
 replace B3:Blk w b3 #[B false] 4:=B3
 have n23:W.heap.size≤b2∧W.heap.size≤b3∧b2≠b3:=by have:=B2.lt;exact⟨hle2,hle3,by omega⟩
 replace hf:=hf.kp [0,2,3]
 have e0:=e
 refine seq <| rgN 2 hf <| st (mv rfl) <| st (aA (A:=cu l V 1024) ew rfl (fun v w he k=>by cases k;rw[hl,hV];exact jg g ok _ w (hT.ext he) (VA.st _ _ _ _ (Ext.tr e0 he) hgd) hl1 hl2 hN)) ?_
 refine en fun a w e' hf=>?_
 obtain⟨hT,e,B2,B3⟩:=up4 e' hT e B2 B3
 obtain⟨av,⟨mq,rfl,HV0⟩,hf⟩:=hf.opn 14 rfl
 obtain⟨cs,⟨bm0,nm0,rfl,_,hnm0,HM0⟩,hmq⟩:=HV0
 replace hmq:mq=.map (some bm0):=hmq
 subst hmq
 have nm23:bm0≠b2∧bm0≠b3:=⟨HM0.neB B2,HM0.neB B3⟩
 obtain⟨N1,hN1⟩:∃N1,N1=w.heap.size:=⟨_,rfl⟩
 have hN1s:N1≤w.heap.size:=Nat.le_of_eq hN1
 have hbm0:bm0<N1∧b2<N1∧b3<N1:=by rw[hN1];exact⟨HM0.lt,B2.lt,B3.lt⟩
 have hWN1:W.heap.size≤N1:=by rw[hN1];exact e.size
 replace hf:=hf.kp [2,3,14]
 refine tL I79 hf fun a b4 w e' hb4 hs4 B4 hf=>?_
 have hle4:=Nat.le_trans e.size (Nat.le_of_eq hb4.symm)
 have lo4_hN1s:=Nat.le_trans hN1s (Nat.le_of_eq hb4.symm)
 have lt4_B2:=B2.lt
 have lt4_B3:=B3.lt
 obtain⟨hT,HM0,hN1s,e,B2,B3⟩:=up6 e' hT HM0 hN1s e B2 B3
 have n4:N1≤b4:=lo4_hN1s
 refine aG T79 hf rfl rfl (cG _ _) B4 rfl (aM _ _) fun w hg hsz B4 hf=>?_
 replace e:=e.gr hg (by omega);replace hT:=hT.gr hg (by omega);replace HM0:=HM0.gr hg (fun h=>by cases h;omega);replace B2:=B2.gr hg (by omega);replace B3:=B3.gr hg (by omega);replace hN1s:=Nat.le_trans hN1s hg.size;clear hg
 refine aa ?_
 replace hf:=hf.kp [2,3,4]
 have l4':=B4.lt
 refine seq <| ac <| tL I76 hf fun a b5 w e' hb5 hs5 B5 hf=>?_
 have hle5:=Nat.le_trans e.size (Nat.le_of_eq hb5.symm)
 have lo5_hN1s:=Nat.le_trans hN1s (Nat.le_of_eq hb5.symm)
 obtain⟨hT,HM0,hN1s,e,B2,B3,B4⟩:=up7 e' hT HM0 hN1s e B2 B3 B4
 refine aa ?_
 have n5:N1≤b5∧b4≠b5:=⟨lo5_hN1s,by omega⟩
 simp only[Value.cells,dK] at B5
 replace B5:Blk w b5 (aH (dC (lkS l) ps 0)) 76:=by rw[show dC (lkS l) ps 0=0 from rfl];exact B5
 replace hf:=hf.kp [2,3,4,5]
 obtain⟨N2,hN2⟩:∃N2,N2=w.heap.size:=⟨_,rfl⟩
 have hN2s:N2≤w.heap.size:=Nat.le_of_eq hN2
 have hl2':b2<N2∧b3<N2∧b4<N2∧b5<N2∧bm0<N2:=by have h1:=B2.lt;have h2:=B3.lt;have h3:=B4.lt;have h4:=B5.lt;have h5:=HM0.lt;omega
 have hdv:=HM0.dvE hnm0 (G:=G0) (fun h=>h)
 repeat refine seq ?_
 refine rgN 4 hf <| st (ldW T79 rfl B4 (aM _ _)) <| st (aA (A:=OwA aN 76 N2 G0 ps) (B:=E (.agg (adC V (.map (some bm0))))) jO rfl (fun v w he k1=>by cases k1;rw[hps];exact (kO l V (.map (some bm0)) w (hT.ext he) (Dv.ex hdv he)).mono fun en w' ⟨u,k1,k2,k3⟩=>⟨u,k1,k2,OwR.low k3 (Nat.le_trans hN2s he.size) fun b hb=>hb.elim⟩)) ?_
 refine st (aD U83 ⟨_,rfl,fun v w _ h=>OwR.sl h⟩) <| st (mv rfl) <| en fun a w e' hf=>?_
 obtain⟨hT,HM0,e,B2,B3,B4,B5⟩:=up7 e' hT HM0 e B2 B3 B4 B5
 refine aa ?_
 obtain⟨pv,HoP,hf⟩:=hf.opn 16 rfl
 replace HoP:OwR aN 76 N2 G0 w ps pv:=HoP
 obtain⟨nb,hnb'⟩:∃nb,nb=lkS l:=⟨_,rfl⟩
 rw[← hnb'] at hrb hrl B5
 replace hf:=hf.kp [2,3,4,5,16,17,18]
 replace hf:=hf.kp [2,3,4,5,16,17,18]
 refine blk (aL (fun r0 a w=>∃(j:Nat) ,r0=ps.length - j∧j≤ps.length∧Fr 98 a w [(2,E (ptr b2)),(3,E (ptr b3)),(4,E (ptr b4)),(5,E (ptr b5)),(16,E pv),(17,E (I (ps.length:Nat))),(18,E (I j))]∧Ext W w∧Tab w∧MpR sKV w bm0 nm0 l∧Blk w b2 #[.slice none 0 0] 35∧Blk w b3 #[B false] 4∧Blk w b4 (adC V (.map (some bm0))) 79∧Blk w b5 (aH (dC nb ps j)) 76∧OwR aN 76 N2 G0 w ps pv) ps.length ⟨0,rfl,by omega,hf,e,⟨hT,HM0,B2,B3,B4,B5,HoP⟩⟩ ?_)
 rintro r0 a w ⟨j,rfl,hj,hf,e,hT,HM0,B2,B3,B4,B5,HoP⟩
 refine seq <| rgN 1 hf <| st (lss rfl rfl) <| en fun a w e' hf=>?_
 obtain⟨hT,HM0,HoP,e,B2,B3,B4,B5⟩:=up8 e' hT HM0 HoP e B2 B3 B4 B5
 refine aa <| seq <| ifc hf rfl (fun hc=>ak ?_) (fun hc=>aK ?_)
 rotate_left
 rotate_left
 ·have hltj:j<ps.length:=by have:=of_decide_eq_true hc;(try dsimp only at this);omega
  replace hf:=hf.kp [2,3,4,5,16,17,18]
  refine seq <| blk ?_
  have hgp:=iX hltj
  obtain⟨C,hC⟩:∃C,C=gs ps j:=⟨_,rfl⟩
  obtain⟨x,hx⟩:∃x,x=(aI C).getD 0:=⟨_,rfl⟩
  have hx1:x<1024:=by rw[hx];exact tG _
  obtain⟨s0,hs0⟩:∃s0,s0=dC nb ps j:=⟨_,rfl⟩
  have hsc:dC nb ps (j+1)=evS (lvB nb x) s0 (lvB nb x).length:=by rw[dC,← hC,← hx,← hs0]
  rw[← hC] at hgp
  rw[← hs0] at B5
  have l2:=B2.lt
  have l3:=B3.lt
  have l4:=B4.lt
  have l5:=B5.lt
  have lm:=HM0.lt
  obtain⟨N3,hN3⟩:∃N3,N3=w.heap.size:=⟨_,rfl⟩
  have hN3s:N3≤w.heap.size:=Nat.le_of_eq hN3
  rw[← hN3] at l2 l3 l4 l5 lm
  have hW3:W.heap.size≤N3:=by rw[hN3];exact e.size
  refine seq <| ac <| tP hf (aF U83 S76 (isE rfl HoP.sl) rfl (by omega) (hgp)) fun a w e' hf=>?_
  obtain⟨hT,HM0,HoP,hN3s,e,B2,B3,B4,B5⟩:=up9 e' hT HM0 HoP hN3s e B2 B3 B4 B5
  refine tP hf (ldS T76 (isR rfl)) fun a w e' hf=>?_
  obtain⟨hT,HM0,HoP,hN3s,e,B2,B3,B4,B5⟩:=up9 e' hT HM0 HoP hN3s e B2 B3 B4 B5
  refine tL I76 hf fun a b7 w e' hb7 hs7 B7 hf=>?_
  have lo7_hN3s:=Nat.le_trans hN3s (Nat.le_of_eq hb7.symm)
  have ne7_HoP:=HoP.ne_new hb7
  have lt7_B2:=B2.lt
  obtain⟨hT,HM0,HoP,hN3s,e,B2,B3,B4,B5⟩:=up9 e' hT HM0 HoP hN3s e B2 B3 B4 B5
  have n7:N3≤b7:=lo7_hN3s
  have hp7:=ne7_HoP
  replace hf:=hf.kp [2,3,4,5,7,16,17,18,21]
  refine aG T76 hf rfl rfl (bp _) B7 rfl (bc _) fun w hg hsz B7 hf=>?_
  replace e:=e.gr hg (by omega);replace hT:=hT.gr hg (by omega);replace HM0:=HM0.gr hg (fun h=>by cases h;omega);replace B2:=B2.gr hg (by omega);replace B3:=B3.gr hg (by omega);replace B4:=B4.gr hg (by omega);replace B5:=B5.gr hg (by omega);replace HoP:=HoP.grE hg hp7;replace hN3s:=Nat.le_trans hN3s hg.size;clear hg
  refine aa ?_
  have l7:=B7.lt
  replace hf:=hf.kp [2,3,4,5,7,16,17,18]
  refine seq <| rgN 7 hf <| st ((ldW T76 rfl B7 rfl).eq ((rfl:_=ae C))) <| st (aA (A:=Tup [E (I (x:Nat)),Any]) fD rfl (fun v w he h=>by cases h;have hm:=fJ C w (hT.ext he);rw[gA,← hx] at hm;exact hm.mono fun en w' ⟨u,k1,k2,k3⟩=>⟨u,k1,k2,tF k3⟩)) ?_
  refine st (mv rfl) <| st (bj rfl rfl) <| st (bj rfl rfl) <| st (asg rfl) <| st (asg rfl) <| en fun a w e' hf=>?_
  replace hT:=hT.ext e'
  replace HM0:=HM0.ext e'
  replace HoP:=HoP.ext e'
  replace hN3s:=Nat.le_trans hN3s e'.size
  replace e:=e.tr e'
  replace B2:=B2.ext e'
  replace B3:=B3.ext e'
  replace B4:=B4.ext e'
  replace B5:=B5.ext e'
  replace B7:=B7.ext e'
  refine aa ?_
  replace hf:=hf.kp [2,3,4,5,8,16,17,18]
  obtain⟨L,hL⟩:∃L,L=lvB nb x:=⟨_,rfl⟩
  have hLl:L.length≤1025:=by rw[hL];exact eG _ _
  rw[← hL] at hsc
  obtain⟨N4,hN4⟩:∃N4,N4=w.heap.size:=⟨_,rfl⟩
  have hN4s:N4≤w.heap.size:=Nat.le_of_eq hN4
  have hl4:N3≤N4:=by rw[hN4];exact hN3s
  have hdv:=HM0.dvE hnm0 (G:=G0) (fun h=>h)
  refine seq <| rgN 5 hf <| st (ldW T79 rfl B4 (aM _ _)) <| st (mv rfl) <| st (ap (A:=OwA aN 76 N4 G0 L) (B:=E (.agg (adC V (.map (some bm0))))) (C:=E (I (x:Nat))) fC rfl rfl (fun a b w he k2 k4=>by cases k2;cases k4;rw[hL,hnb'];exact (fT l V (.map (some bm0)) x w (hT.ext he) (Dv.ex hdv he) hx1).mono fun en w' ⟨z,q1,q2,q3⟩=>⟨z,q1,q2,OwR.low q3 (Nat.le_trans hN4s he.size) fun b hb=>hb.elim⟩)) ?_
  refine st (aD U83 ⟨_,rfl,fun v w _ h=>OwR.sl h⟩) <| st (mv rfl) <| en fun a w e' hf=>?_
  replace hT:=hT.ext e'
  replace HM0:=HM0.ext e'
  replace HoP:=HoP.ext e'
  replace hN3s:=Nat.le_trans hN3s e'.size
  replace e:=e.tr e'
  replace B2:=B2.ext e'
  replace B3:=B3.ext e'
  replace B4:=B4.ext e'
  replace B5:=B5.ext e'
  replace B7:=B7.ext e'
  refine aa ?_
  obtain⟨lv,HoL,hf⟩:=hf.opn 29 rfl
  replace HoL:OwR aN 76 N4 G0 w L lv:=HoL
  replace B5:Blk w b5 (aH (evS L s0 0)) 76:=B5
  replace hf:=hf.kp [2,3,4,5,16,17,18,29,30,31]
  replace hf:=hf.kp [2,3,4,5,16,17,18,29,30,31]
  refine blk (aL (fun r0 a w=>∃(i:Nat) ,r0=L.length - i∧i≤L.length∧Fr 98 a w [(2,E (ptr b2)),(3,E (ptr b3)),(4,E (ptr b4)),(5,E (ptr b5)),(16,E pv),(17,E (I (ps.length:Nat))),(18,E (I j)),(29,E lv),(30,E (I (L.length:Nat))),(31,E (I i))]∧Ext W w∧Tab w∧MpR sKV w bm0 nm0 l∧Blk w b2 #[.slice none 0 0] 35∧Blk w b3 #[B false] 4∧Blk w b4 (adC V (.map (some bm0))) 79∧Blk w b5 (aH (evS L s0 i)) 76∧OwR aN 76 N2 G0 w ps pv∧OwR aN 76 N4 G0 w L lv∧N4≤w.heap.size) L.length ⟨0,rfl,by omega,hf,e,⟨hT,HM0,B2,B3,B4,B5,HoP,HoL,HoL.base⟩⟩ ?_)
  rintro r0 a w ⟨i,rfl,hi,hf,e,hT,HM0,B2,B3,B4,B5,HoP,HoL,hN4s⟩
  refine seq <| rgN 1 hf <| st (lss rfl rfl) <| en fun a w e' hf=>?_
  replace hT:=hT.ext e'
  replace HM0:=HM0.ext e'
  replace HoP:=HoP.ext e'
  replace HoL:=HoL.ext e'
  replace hN4s:=Nat.le_trans hN4s e'.size
  replace e:=e.tr e'
  replace B2:=B2.ext e'
  replace B3:=B3.ext e'
  replace B4:=B4.ext e'
  replace B5:=B5.ext e'
  refine aa <| seq <| ifc hf rfl (fun hc=>ak ?_) (fun hc=>aK ?_)
  rotate_left
  rotate_left
  ·have hlti:i<L.length:=by have:=of_decide_eq_true hc;(try dsimp only at this);omega
   replace hf:=hf.kp [2,3,4,5,16,17,18,29,30,31]
   refine seq <| blk ?_
   have hgi:=iX hlti
   obtain⟨R,hR⟩:∃R,R=gs L i:=⟨_,rfl⟩
   obtain⟨s1,hs1⟩:∃s1,s1=evS L s0 i:=⟨_,rfl⟩
   have hsi:evS L s0 (i+1)=if i % 2=0 then s1 ||| R else s1:=by rw[evS,← hR,← hs1]
   rw[← hR] at hgi
   rw[← hs1] at B5
   refine seq <| ac <| tP hf (mv rfl) fun a w e' hf=>?_
   replace hT:=hT.ext e'
   replace HM0:=HM0.ext e'
   replace HoP:=HoP.ext e'
   replace HoL:=HoL.ext e'
   replace hN4s:=Nat.le_trans hN4s e'.size
   replace e:=e.tr e'
   replace B2:=B2.ext e'
   replace B3:=B3.ext e'
   replace B4:=B4.ext e'
   replace B5:=B5.ext e'
   refine tP hf (aF U83 S76 (isE rfl HoL.sl) rfl (by omega) (hgi)) fun a w e' hf=>?_
   replace hT:=hT.ext e'
   replace HM0:=HM0.ext e'
   replace HoP:=HoP.ext e'
   replace HoL:=HoL.ext e'
   replace hN4s:=Nat.le_trans hN4s e'.size
   replace e:=e.tr e'
   replace B2:=B2.ext e'
   replace B3:=B3.ext e'
   replace B4:=B4.ext e'
   replace B5:=B5.ext e'
   refine tP hf (ldS T76 (isR rfl)) fun a w e' hf=>?_
   replace hT:=hT.ext e'
   replace HM0:=HM0.ext e'
   replace HoP:=HoP.ext e'
   replace HoL:=HoL.ext e'
   replace hN4s:=Nat.le_trans hN4s e'.size
   replace e:=e.tr e'
   replace B2:=B2.ext e'
   replace B3:=B3.ext e'
   replace B4:=B4.ext e'
   replace B5:=B5.ext e'
   refine tL I76 hf fun a b11 w e' hb11 hs11 B11 hf=>?_
   have lo11_hN4s:=Nat.le_trans hN4s (Nat.le_of_eq hb11.symm)
   have ne11_HoP:=HoP.ne_new hb11
   have ne11_HoL:=HoL.ne_new hb11
   replace hT:=hT.ext e'
   replace HM0:=HM0.ext e'
   replace HoP:=HoP.ext e'
   replace HoL:=HoL.ext e'
   replace hN4s:=Nat.le_trans hN4s e'.size
   replace e:=e.tr e'
   replace B2:=B2.ext e'
   replace B3:=B3.ext e'
   replace B4:=B4.ext e'
   replace B5:=B5.ext e'
   refine tA hf rfl fun a hf=>?_
   have n11:N4≤b11:=lo11_hN4s
   have hp11:=ne11_HoP
   have hl11:=ne11_HoL
   replace hf:=hf.kp [2,3,4,5,10,11,16,17,18,29,30,31,35]
   refine aG T76 hf rfl rfl (bp _) B11 rfl (bc _) fun w hg hsz B11 hf=>?_
   replace e:=e.gr hg (by omega);replace hT:=hT.gr hg (by omega);replace HM0:=HM0.gr hg (fun h=>by cases h;omega);replace B2:=B2.gr hg (by omega);replace B3:=B3.gr hg (by omega);replace B4:=B4.gr hg (by omega);replace B5:=B5.gr hg (by omega);replace HoP:=HoP.grE hg hp11;replace HoL:=HoL.grE hg hl11;replace hN4s:=Nat.le_trans hN4s hg.size;clear hg
   refine aa ?_
   have l11:=B11.lt
   replace hf:=hf.kp [2,3,4,5,10,11,16,17,18,29,30,31]
   have htm:(i:Int).tmod 2=((i % 2:Nat):Int):=rfl
   by_cases hev:i % 2=0
   ·rw[if_pos hev] at hsi
    refine seq <| rgN 3 hf <| st (mv rfl) <| st (rem rfl rfl (by omega)) <| st ((eql rfl rfl).eq (congrArg Value.bool ((by rw[htm,hev];rfl:((i:Int).tmod 2==0)=true)))) ?_
    refine en fun a w e' hf=>?_
    obtain⟨hT,HM0,HoP,HoL,hN4s,e,B2,B3,B4⟩:=up9 e' hT HM0 HoP HoL hN4s e B2 B3 B4
    obtain⟨B5,B11⟩:=up2 e' B5 B11
    refine aa <| ifc hf rfl (fun _=>?_) (fun h=>by cases h)
    replace hf:=hf.kp [2,3,4,5,11,16,17,18,29,30,31]
    refine rgN 3 hf <| st ((ldW T76 rfl B5 rfl).eq ((rfl:_=ae s1))) <| st ((ldW T76 rfl B11 rfl).eq ((rfl:_=ae R))) <| st (ap (A:=E (ae (s1 ||| R))) ir rfl rfl (fun v u w he h h'=>by cases h;cases h';exact ix s1 R w)) ?_
    refine en fun a w e' hf=>?_
    obtain⟨hT,HM0,HoP,HoL,hN4s,e,B2,B3,B4⟩:=up9 e' hT HM0 HoP HoL hN4s e B2 B3 B4
    obtain⟨B5,B11⟩:=up2 e' B5 B11
    have hp5:pv.ownBlock≠some b5:=HoP.neLt (by omega)
    have hl5:lv.ownBlock≠some b5:=HoL.neLt (by omega)
    replace hf:=hf.kp [2,3,4,5,16,17,18,29,30,31,41]
    refine aG T76 hf rfl rfl (bp _) B5 rfl (bc _) fun w hg hsz B5 hf=>?_
    replace e:=e.gr hg (by omega);replace hT:=hT.gr hg (by omega);replace HM0:=HM0.gr hg (fun h=>by cases h;omega);replace B2:=B2.gr hg (by omega);replace B3:=B3.gr hg (by omega);replace B4:=B4.gr hg (by omega);replace HoP:=HoP.grE hg hp5;replace HoL:=HoL.grE hg hl5;replace hN4s:=Nat.le_trans hN4s hg.size;clear hg
    refine aa ?_
    rw[← hsi] at B5
    replace hf:=hf.kp [2,3,4,5,16,17,18,29,30,31]
    refine rgN 1 hf <| st ((add rfl rfl (by omega)).eq (congrArg (Value.int .i64) (show (i:Int)+1=((i+1:Nat):Int) from rfl))) <| en fun a w e' hf=>?_
    replace hT:=hT.ext e'
    replace HM0:=HM0.ext e'
    replace HoP:=HoP.ext e'
    replace HoL:=HoL.ext e'
    replace hN4s:=Nat.le_trans hN4s e'.size
    replace e:=e.tr e'
    replace B2:=B2.ext e'
    replace B3:=B3.ext e'
    replace B4:=B4.ext e'
    replace B5:=B5.ext e'
    refine tP hf (mv rfl) fun a w e' hf=>?_
    replace hT:=hT.ext e'
    replace HM0:=HM0.ext e'
    replace HoP:=HoP.ext e'
    replace HoL:=HoL.ext e'
    replace hN4s:=Nat.le_trans hN4s e'.size
    replace e:=e.tr e'
    replace B2:=B2.ext e'
    replace B3:=B3.ext e'
    replace B4:=B4.ext e'
    replace B5:=B5.ext e'
    refine aa ?_
    replace hf:=hf.kp [2,3,4,5,16,17,18,29,30,31]
    refine⟨_,?_,i+1,rfl,by omega,hf,e,?_⟩
    ·omega
    exact⟨hT,HM0,B2,B3,B4,B5,HoP,HoL,hN4s⟩
   ·rw[if_neg hev] at hsi
    refine seq <| rgN 3 hf <| st (mv rfl) <| st (rem rfl rfl (by omega)) <| st ((eql rfl rfl).eq (congrArg Value.bool ((by rw[htm];exact beq_eq_false_iff_ne.2 (by omega):((i:Int).tmod 2==0)=false)))) ?_
    refine en fun a w e' hf=>?_
    replace hT:=hT.ext e'
    replace HM0:=HM0.ext e'
    replace HoP:=HoP.ext e'
    replace HoL:=HoL.ext e'
    replace hN4s:=Nat.le_trans hN4s e'.size
    replace e:=e.tr e'
    replace B2:=B2.ext e'
    replace B3:=B3.ext e'
    replace B4:=B4.ext e'
    replace B5:=B5.ext e'
    refine aa <| ifc hf rfl (fun h=>by cases h) (fun _=>?_)
    refine ak ?_
    rw[← hsi] at B5
    replace hf:=hf.kp [2,3,4,5,16,17,18,29,30,31]
    refine rgN 1 hf <| st ((add rfl rfl (by omega)).eq (congrArg (Value.int .i64) (show (i:Int)+1=((i+1:Nat):Int) from rfl))) <| en fun a w e' hf=>?_
    replace hT:=hT.ext e'
    replace HM0:=HM0.ext e'
    replace HoP:=HoP.ext e'
    replace HoL:=HoL.ext e'
    replace hN4s:=Nat.le_trans hN4s e'.size
    replace e:=e.tr e'
    replace B2:=B2.ext e'
    replace B3:=B3.ext e'
    replace B4:=B4.ext e'
    replace B5:=B5.ext e'
    refine tP hf (mv rfl) fun a w e' hf=>?_
    replace hT:=hT.ext e'
    replace HM0:=HM0.ext e'
    replace HoP:=HoP.ext e'
    replace HoL:=HoL.ext e'
    replace hN4s:=Nat.le_trans hN4s e'.size
    replace e:=e.tr e'
    replace B2:=B2.ext e'
    replace B3:=B3.ext e'
    replace B4:=B4.ext e'
    replace B5:=B5.ext e'
    refine aa ?_
    replace hf:=hf.kp [2,3,4,5,16,17,18,29,30,31]
    refine⟨_,?_,i+1,rfl,by omega,hf,e,?_⟩
    ·omega
    exact⟨hT,HM0,B2,B3,B4,B5,HoP,HoL,hN4s⟩
  ·obtain rfl:i=L.length:=by have:=of_decide_eq_false hc;(try dsimp only at this);omega
   rw[← hsc] at B5
   replace hf:=hf.kp [2,3,4,5,16,17,18]
   refine rgN 1 hf <| st ((add rfl rfl (by omega)).eq (congrArg (Value.int .i64) (show (j:Int)+1=((j+1:Nat):Int) from rfl))) <| en fun a w e' hf=>?_
   obtain⟨hT,HM0,HoP,e,B2,B3,B4,B5⟩:=up8 e' hT HM0 HoP e B2 B3 B4 B5
   refine tP hf (mv rfl) fun a w e' hf=>?_
   obtain⟨hT,HM0,HoP,e,B2,B3,B4,B5⟩:=up8 e' hT HM0 HoP e B2 B3 B4 B5
   refine aa ?_
   replace hf:=hf.kp [2,3,4,5,16,17,18]
   refine⟨_,?_,j+1,rfl,by omega,hf,e,?_⟩
   ·omega
   exact⟨hT,HM0,B2,B3,B4,B5,HoP⟩
 ·obtain rfl:j=ps.length:=by have:=of_decide_eq_false hc;(try dsimp only at this);omega
  obtain⟨one,hone⟩:∃one,one=dC nb ps ps.length:=⟨_,rfl⟩
  rw[← hone] at B5 hrl hrb
  replace hf:=hf.kp [2,3,4,5]
  obtain⟨Nz,hNz⟩:∃Nz,Nz=w.heap.size:=⟨_,rfl⟩
  repeat refine seq ?_
  refine rgN 3 hf <| st (fA U79 rfl T76 rfl) <| st ((ldP T76 rfl B4 (by rw[aM];decide)).eq (congrArg Value.agg (bX V (.map (some bm0))))) ?_
  refine st (aA (A:=db Nz V) di rfl (fun v w' he h=>by cases h;exact Calls.mono (dq _ w') (fun en w2 ⟨u,h1,h2,b',h3,h4,h5⟩=>⟨u,h1,h2,b',by have:=he.size;omega,h4,h5⟩))) ?_
  refine en fun a w e' hf=>?_
  obtain⟨hT,HM0,e,B2,B3,B4,B5⟩:=up7 e' hT HM0 e B2 B3 B4 B5
  refine aa ?_
  obtain⟨vv,⟨b46,h46,rfl,BS⟩,hf⟩:=hf.fix 46 rfl
  replace hf:=hf.kp [2,3,4,5,46]
  have hBW:W.heap.size≤w.heap.size:=e.size
  have h0w:0<w.heap.size:=hT.lt
  have l2:=B2.lt
  have l3:=B3.lt
  have l4:=B4.lt
  have l5:=B5.lt
  have lm:=HM0.lt
  refine blk <| dx (S:=V) hf rfl BS (by decide) (fun s w1=>BpJ W nm0 bm0 l V one b2 b3 b4 b5 w1∧s.any (bdB nb one)=false)
   (fun ex w1=>ex=.ret∧BpJ W nm0 bm0 l V one b2 b3 b4 b5 w1∧(ah V).any (bdB nb one)=true) (fun s w1 h=>h.1.t)
   ⟨⟨e,hT,HM0,B2,B3,B4,B5⟩,rfl⟩ (fun s w1 w2 h hs k=>⟨h.1.kp k hBW h0w l2 l3 l4 l5 lm,h.2⟩)
   (fun ex w1 w2 ⟨q1,q2,q3⟩ hs k=>⟨q1,q2.kp k hBW h0w l2 l3 l4 l5 lm,q3⟩) ?_ ?_ ?_
  ·intro lp s x rest a1 w1 hs hJ hlw hf
   have hxV:V.getLsbD x=true:=(aC.1 (by rw[hs];simp)).2
   have hx1024:x<1024:=az hxV
   generalize hBz:w.heap.size=Bz at *
   refine ac <| tA hf rfl fun a hf=>aa <| ⟨Kh.rfl' _ _,fun w3 k3 hsz3=>?_⟩
   have hJ3:=hJ.1.kp k3 hBW h0w l2 l3 l4 l5 lm
   have hJs:=hJ.2
   replace hf:=hf.pure w3
   obtain⟨e,hT,HM0,B2,B3,B4,B5⟩:=hJ3
   have kh:=Kh.rfl' Bz w3
   have hgood:bdB nb one x=false→(s++[x]).any (bdB nb one)=false:=fun h=>by rw[List.any_append,hJs];simp[h]
   have hbad:bdB nb one x=true→(ah V).any (bdB nb one)=true:=fun h=>List.any_eq_true.2 ⟨x,by rw[hs];simp,h⟩
   rw[bdB] at hgood hbad
   obtain⟨nx,hnx⟩:∃nx,nx=nb (x:Int):=⟨_,rfl⟩
   rw[← hnx] at hgood hbad
   obtain⟨H,hH⟩:∃H,H=one.getLsbD x:=⟨_,rfl⟩
   have hbit:has one (x:Int)=H:=by rw[hH,Bool.eq_iff_iff];exact bT one x
   obtain⟨E2,hE2⟩:∃E2,E2=((nx &&& one)==0):=⟨_,rfl⟩
   obtain⟨E3,hE3⟩:∃E3,E3=(nx==0):=⟨_,rfl⟩
   obtain⟨Sb,hSb⟩:∃Sb,Sb=((nx &&& ~~~one)==0):=⟨_,rfl⟩
   rw[← hH,← hE2,← hE3,← hSb] at hgood hbad
   have hwx:(Lit.int .i64 (x:Int)).wf=true:=bK (by omega) (by omega)
   have hdv:=HM0.dvE hnm0 (G:=G0) (fun h=>h)
   have hlk:lkS l (x:Int)=nx:=by rw[hnx,hnb']
   have fI:∀w (v u:Value),(E (ae nx)).p v w→(E (ae one)).p u w→Calls Tryz.prog 74 #[v,u] w (Post (E (ae (nx &&& one))) w):=fun w v u k1 k2=>by cases k1;cases k2;exact iy _ _ w
   have fE2:∀w (v:Value),(E (ae (nx &&& one))).p v w→Calls Tryz.prog 65 #[v] w (Post (E (B E2)) w):=fun w v k1=>by cases k1;rw[hE2];exact iz _ w
   have fE3:∀w (v:Value),(E (ae nx)).p v w→Calls Tryz.prog 65 #[v] w (Post (E (B E3)) w):=fun w v k1=>by cases k1;rw[hE3];exact iz _ w
   have fH:∀w (v u:Value),(E (ae one)).p v w→(E (I (x:Nat))).p u w→Calls Tryz.prog 75 #[v,u] w (Post (E (B H)) w):=fun w v u k1 k2=>by cases k1;cases k2;rw[← hbit];exact dY _ _ w
   have fS:∀w (v u:Value),(E (ae nx)).p v w→(E (ae one)).p u w→Calls Tryz.prog 76 #[v,u] w (Post (E (B Sb)) w):=fun w v u k1 k2=>by cases k1;cases k2;rw[hSb];exact xn _ _ w
   replace hf:=hf.kp [2,3,4,5,12]
   refine blk ?_
   cases H with
   | false=>
    cases E2 with
    | false=>
     repeat refine seq ?_
     refine rgG 20 Mix.mix hf <| st (fA U79 rfl T77 rfl) <| st (ld1 (v:=.map (some bm0)) T77 rfl B4 (bN _ _)) <| st (mv rfl) <| st ((lkM (l:=l) (i:=(x:Int)) U77 ce (isE rfl hdv) rfl hwx).eq (congrArg ae hlk)) <| st ((ldW T76 rfl B5 rfl).eq ((rfl:_=ae one))) <| st (ap (A:=E (ae (nx &&& one))) (B:=E (ae nx)) (C:=E (ae one)) dX rfl rfl (fun v u w he h h'=>fI w v u h h')) <| st (aA (A:=E (B false)) (B:=E (ae (nx &&& one))) dM rfl (fun v w he h=>fE2 w v h)) <| st (aX rfl) <| st ((ldW T76 rfl B5 rfl).eq ((rfl:_=ae one))) <| st (mv rfl) <| st (ap (A:=E (B false)) (B:=E (ae one)) (C:=E (I (x:Nat))) cg rfl rfl (fun v u w he h h'=>fH w v u h h')) <| st (ia U4 rfl rfl) <| st (mv rfl) <| sn rfl rfl rfl <| sn rfl rfl rfl <| sn rfl rfl rfl <| sn rfl rfl rfl <| sn rfl rfl rfl <| sn rfl rfl rfl <| st (pkF rfl rfl) <| en fun a w e' hf=>?_
     obtain⟨hT,HM0⟩:=up2 e' hT HM0
     replace kh:=kh.tr (Kh.ext e')
     obtain⟨hdv,e,B2,B3,B4,B5⟩:=up6 e' hdv e B2 B3 B4 B5
     refine aa ?_
     replace hf:=hf.kp [2,3,4,5,12,67]
     refine ifc hf rfl (fun h=>by cases h) (fun _=>?_)
     refine ak ?_
     replace hf:=hf.kp [2,3,4,5,12]
     refine seq <| rgN 28 hf <| st ((ldW T76 rfl B5 rfl).eq ((rfl:_=ae one))) <| st (mv rfl) <| st (ap (A:=E (B false)) (B:=E (ae one)) (C:=E (I (x:Nat))) cg rfl rfl (fun v u w he h h'=>fH w v u h h')) <| st (mv rfl) <| sn rfl rfl rfl <| sn rfl rfl rfl <| sn rfl rfl rfl <| sn rfl rfl rfl <| sn rfl rfl rfl <| sn rfl rfl rfl <| sn rfl rfl rfl <| sn rfl rfl rfl <| st (pkF rfl rfl) <| st (mv rfl) <| sy rfl rfl ((ldW T76 rfl B5 rfl).eq ((rfl:_=ae one))) <| sy rfl rfl (mv rfl) <| sy rfl rfl (ap (A:=E (B false)) (B:=E (ae one)) (C:=E (I (x:Nat))) cg rfl rfl (fun v u w he h h'=>fH w v u h h')) <| sy rfl rfl (aX rfl) <| sy rfl rfl (mv rfl) <| sy rfl rfl (fA U79 rfl T77 rfl) <| sy rfl rfl (ld1 (v:=.map (some bm0)) T77 rfl B4 (bN _ _)) <| sy rfl rfl (mv rfl) <| sy rfl rfl ((lkM (l:=l) (i:=(x:Int)) U77 ce (isE rfl hdv) rfl hwx).eq (congrArg ae hlk)) <| sy rfl rfl ((ldW T76 rfl B5 rfl).eq ((rfl:_=ae one))) <| sy rfl rfl (ap (A:=E (B Sb)) (B:=E (ae nx)) (C:=E (ae one)) pB rfl rfl (fun v u w he h h'=>fS w v u h h')) <| sy rfl rfl (aX rfl) <| sy rfl rfl (pkT rfl rfl) <| st (pkF rfl rfl) <| en fun a w e' hf=>?_
     obtain⟨hT,HM0⟩:=up2 e' hT HM0
     replace kh:=kh.tr (Kh.ext e')
     obtain⟨hdv,e,B2,B3,B4,B5⟩:=up6 e' hdv e B2 B3 B4 B5
     refine aa ?_
     replace hf:=hf.kp [2,3,4,5,12,95]
     cases Sb with
     | false=>
      refine ifc hf rfl (fun _=>?_) (fun h=>by cases h)
      replace hf:=hf.kp [2,3]
      have kk:=B2.lt
      refine seq <| ac <| aO T35 hf rfl rfl rfl B2 Nat.zero_lt_one fun w hg hsz B2 hf=>?_
      replace e:=e.gr hg (by omega);replace hT:=hT.gr hg (by omega);replace HM0:=HM0.gr hg (fun h=>nm23.1 (Option.some.inj h));replace B3:=B3.gr hg (by omega);replace B4:=B4.gr hg (by omega);replace B5:=B5.gr hg (by omega);replace kh:=kh.tr (Kh.gr hg (fun hh=>by have:=hh.1;omega));clear hg
      refine aO T4 hf rfl rfl rfl B3 Nat.zero_lt_one fun w hg hsz B3 hf=>?_
      replace e:=e.gr hg (by omega);replace hT:=hT.gr hg (by omega);replace HM0:=HM0.gr hg (fun h=>nm23.2 (Option.some.inj h));replace B2:=B2.gr hg (by omega);replace B4:=B4.gr hg (by omega);replace B5:=B5.gr hg (by omega);replace kh:=kh.tr (Kh.gr hg (fun hh=>by have:=hh.1;omega));clear hg
      refine aa <| am ?_
      exact⟨⟨rfl,⟨e,hT,HM0,B2,B3,B4,B5⟩,hbad (by cases E3 <;> rfl)⟩,kh⟩
     | true=>
      refine ifc hf rfl (fun h=>by cases h) (fun _=>?_)
      refine ak ?_
      exact⟨⟨⟨e,hT,HM0,B2,B3,B4,B5⟩,hgood (by cases E3 <;> rfl)⟩,kh⟩
    | true=>
     repeat refine seq ?_
     refine rgG 20 Mix.mix hf <| st (fA U79 rfl T77 rfl) <| st (ld1 (v:=.map (some bm0)) T77 rfl B4 (bN _ _)) <| st (mv rfl) <| st ((lkM (l:=l) (i:=(x:Int)) U77 ce (isE rfl hdv) rfl hwx).eq (congrArg ae hlk)) <| st ((ldW T76 rfl B5 rfl).eq ((rfl:_=ae one))) <| st (ap (A:=E (ae (nx &&& one))) (B:=E (ae nx)) (C:=E (ae one)) dX rfl rfl (fun v u w he h h'=>fI w v u h h')) <| st (aA (A:=E (B true)) (B:=E (ae (nx &&& one))) dM rfl (fun v w he h=>fE2 w v h)) <| st (aX rfl) <| st ((ldW T76 rfl B5 rfl).eq ((rfl:_=ae one))) <| st (mv rfl) <| st (ap (A:=E (B false)) (B:=E (ae one)) (C:=E (I (x:Nat))) cg rfl rfl (fun v u w he h h'=>fH w v u h h')) <| st (ia U4 rfl rfl) <| st (mv rfl) <| sy rfl rfl (fA U79 rfl T77 rfl) <| sy rfl rfl (ld1 (v:=.map (some bm0)) T77 rfl B4 (bN _ _)) <| sy rfl rfl (mv rfl) <| sy rfl rfl ((lkM (l:=l) (i:=(x:Int)) U77 ce (isE rfl hdv) rfl hwx).eq (congrArg ae hlk)) <| sy rfl rfl (aA (A:=E (B E3)) (B:=E (ae nx)) dM rfl (fun v w he h=>fE3 w v h)) <| sy rfl rfl (aX rfl) <| st (pkT rfl rfl) <| en fun a w e' hf=>?_
     obtain⟨hT,HM0⟩:=up2 e' hT HM0
     replace kh:=kh.tr (Kh.ext e')
     obtain⟨hdv,e,B2,B3,B4,B5⟩:=up6 e' hdv e B2 B3 B4 B5
     refine aa ?_
     replace hf:=hf.kp [2,3,4,5,12,67]
     cases E3 with
     | false=>
      refine ifc hf rfl (fun _=>?_) (fun h=>by cases h)
      replace hf:=hf.kp [2,3]
      have kk:=B2.lt
      refine seq <| ac <| aO T35 hf rfl rfl rfl B2 Nat.zero_lt_one fun w hg hsz B2 hf=>?_
      replace e:=e.gr hg (by omega);replace hT:=hT.gr hg (by omega);replace HM0:=HM0.gr hg (fun h=>nm23.1 (Option.some.inj h));replace B3:=B3.gr hg (by omega);replace B4:=B4.gr hg (by omega);replace B5:=B5.gr hg (by omega);replace kh:=kh.tr (Kh.gr hg (fun hh=>by have:=hh.1;omega));clear hg
      refine aO T4 hf rfl rfl rfl B3 Nat.zero_lt_one fun w hg hsz B3 hf=>?_
      replace e:=e.gr hg (by omega);replace hT:=hT.gr hg (by omega);replace HM0:=HM0.gr hg (fun h=>nm23.2 (Option.some.inj h));replace B2:=B2.gr hg (by omega);replace B4:=B4.gr hg (by omega);replace B5:=B5.gr hg (by omega);replace kh:=kh.tr (Kh.gr hg (fun hh=>by have:=hh.1;omega));clear hg
      refine aa <| am <| ⟨⟨rfl,⟨e,hT,HM0,B2,B3,B4,B5⟩,hbad (by rfl)⟩,kh⟩
     | true=>
      refine ifc hf rfl (fun h=>by cases h) (fun _=>?_)
      refine ak ?_
      replace hf:=hf.kp [2,3,4,5,12]
      refine seq <| rgN 28 hf <| st ((ldW T76 rfl B5 rfl).eq ((rfl:_=ae one))) <| st (mv rfl) <| st (ap (A:=E (B false)) (B:=E (ae one)) (C:=E (I (x:Nat))) cg rfl rfl (fun v u w he h h'=>fH w v u h h')) <| st (mv rfl) <| sn rfl rfl rfl <| sn rfl rfl rfl <| sn rfl rfl rfl <| sn rfl rfl rfl <| sn rfl rfl rfl <| sn rfl rfl rfl <| sn rfl rfl rfl <| sn rfl rfl rfl <| st (pkF rfl rfl) <| st (mv rfl) <| sy rfl rfl ((ldW T76 rfl B5 rfl).eq ((rfl:_=ae one))) <| sy rfl rfl (mv rfl) <| sy rfl rfl (ap (A:=E (B false)) (B:=E (ae one)) (C:=E (I (x:Nat))) cg rfl rfl (fun v u w he h h'=>fH w v u h h')) <| sy rfl rfl (aX rfl) <| sy rfl rfl (mv rfl) <| sy rfl rfl (fA U79 rfl T77 rfl) <| sy rfl rfl (ld1 (v:=.map (some bm0)) T77 rfl B4 (bN _ _)) <| sy rfl rfl (mv rfl) <| sy rfl rfl ((lkM (l:=l) (i:=(x:Int)) U77 ce (isE rfl hdv) rfl hwx).eq (congrArg ae hlk)) <| sy rfl rfl ((ldW T76 rfl B5 rfl).eq ((rfl:_=ae one))) <| sy rfl rfl (ap (A:=E (B Sb)) (B:=E (ae nx)) (C:=E (ae one)) pB rfl rfl (fun v u w he h h'=>fS w v u h h')) <| sy rfl rfl (aX rfl) <| sy rfl rfl (pkT rfl rfl) <| st (pkF rfl rfl) <| en fun a w e' hf=>?_
      obtain⟨hT,HM0⟩:=up2 e' hT HM0
      replace kh:=kh.tr (Kh.ext e')
      obtain⟨hdv,e,B2,B3,B4,B5⟩:=up6 e' hdv e B2 B3 B4 B5
      refine aa ?_
      replace hf:=hf.kp [2,3,4,5,12,95]
      cases Sb with
      | false=>
       refine ifc hf rfl (fun _=>?_) (fun h=>by cases h)
       replace hf:=hf.kp [2,3]
       have kk:=B2.lt
       refine seq <| ac <| aO T35 hf rfl rfl rfl B2 Nat.zero_lt_one fun w hg hsz B2 hf=>?_
       replace e:=e.gr hg (by omega);replace hT:=hT.gr hg (by omega);replace HM0:=HM0.gr hg (fun h=>nm23.1 (Option.some.inj h));replace B3:=B3.gr hg (by omega);replace B4:=B4.gr hg (by omega);replace B5:=B5.gr hg (by omega);replace kh:=kh.tr (Kh.gr hg (fun hh=>by have:=hh.1;omega));clear hg
       refine aO T4 hf rfl rfl rfl B3 Nat.zero_lt_one fun w hg hsz B3 hf=>?_
       replace e:=e.gr hg (by omega);replace hT:=hT.gr hg (by omega);replace HM0:=HM0.gr hg (fun h=>nm23.2 (Option.some.inj h));replace B2:=B2.gr hg (by omega);replace B4:=B4.gr hg (by omega);replace B5:=B5.gr hg (by omega);replace kh:=kh.tr (Kh.gr hg (fun hh=>by have:=hh.1;omega));clear hg
       refine aa <| am <| ⟨⟨rfl,⟨e,hT,HM0,B2,B3,B4,B5⟩,hbad (by rfl)⟩,kh⟩
      | true=>
       refine ifc hf rfl (fun h=>by cases h) (fun _=>?_)
       refine ak <| ⟨⟨⟨e,hT,HM0,B2,B3,B4,B5⟩,hgood rfl⟩,kh⟩
   | true=>
    cases E2 with
    | false=>
     repeat refine seq ?_
     refine rgG 20 Mix.mix hf <| st (fA U79 rfl T77 rfl) <| st (ld1 (v:=.map (some bm0)) T77 rfl B4 (bN _ _)) <| st (mv rfl) <| st ((lkM (l:=l) (i:=(x:Int)) U77 ce (isE rfl hdv) rfl hwx).eq (congrArg ae hlk)) <| st ((ldW T76 rfl B5 rfl).eq ((rfl:_=ae one))) <| st (ap (A:=E (ae (nx &&& one))) (B:=E (ae nx)) (C:=E (ae one)) dX rfl rfl (fun v u w he h h'=>fI w v u h h')) <| st (aA (A:=E (B false)) (B:=E (ae (nx &&& one))) dM rfl (fun v w he h=>fE2 w v h)) <| st (aX rfl) <| st ((ldW T76 rfl B5 rfl).eq ((rfl:_=ae one))) <| st (mv rfl) <| st (ap (A:=E (B true)) (B:=E (ae one)) (C:=E (I (x:Nat))) cg rfl rfl (fun v u w he h h'=>fH w v u h h')) <| st (ia U4 rfl rfl) <| st (mv rfl) <| sy rfl rfl (fA U79 rfl T77 rfl) <| sy rfl rfl (ld1 (v:=.map (some bm0)) T77 rfl B4 (bN _ _)) <| sy rfl rfl (mv rfl) <| sy rfl rfl ((lkM (l:=l) (i:=(x:Int)) U77 ce (isE rfl hdv) rfl hwx).eq (congrArg ae hlk)) <| sy rfl rfl (aA (A:=E (B E3)) (B:=E (ae nx)) dM rfl (fun v w he h=>fE3 w v h)) <| sy rfl rfl (aX rfl) <| st (pkT rfl rfl) <| en fun a w e' hf=>?_
     obtain⟨hT,HM0⟩:=up2 e' hT HM0
     replace kh:=kh.tr (Kh.ext e')
     obtain⟨hdv,e,B2,B3,B4,B5⟩:=up6 e' hdv e B2 B3 B4 B5
     refine aa ?_
     replace hf:=hf.kp [2,3,4,5,12,67]
     cases E3 with
     | false=>
      refine ifc hf rfl (fun _=>?_) (fun h=>by cases h)
      replace hf:=hf.kp [2,3]
      have kk:=B2.lt
      refine seq <| ac <| aO T35 hf rfl rfl rfl B2 Nat.zero_lt_one fun w hg hsz B2 hf=>?_
      replace e:=e.gr hg (by omega);replace hT:=hT.gr hg (by omega);replace HM0:=HM0.gr hg (fun h=>nm23.1 (Option.some.inj h));replace B3:=B3.gr hg (by omega);replace B4:=B4.gr hg (by omega);replace B5:=B5.gr hg (by omega);replace kh:=kh.tr (Kh.gr hg (fun hh=>by have:=hh.1;omega));clear hg
      refine aO T4 hf rfl rfl rfl B3 Nat.zero_lt_one fun w hg hsz B3 hf=>?_
      replace e:=e.gr hg (by omega);replace hT:=hT.gr hg (by omega);replace HM0:=HM0.gr hg (fun h=>nm23.2 (Option.some.inj h));replace B2:=B2.gr hg (by omega);replace B4:=B4.gr hg (by omega);replace B5:=B5.gr hg (by omega);replace kh:=kh.tr (Kh.gr hg (fun hh=>by have:=hh.1;omega));clear hg
      refine aa <| am <| ⟨⟨rfl,⟨e,hT,HM0,B2,B3,B4,B5⟩,hbad (by rfl)⟩,kh⟩
     | true=>
      refine ifc hf rfl (fun h=>by cases h) (fun _=>?_)
      refine ak ?_
      replace hf:=hf.kp [2,3,4,5,12]
      refine seq <| rgN 28 hf <| st ((ldW T76 rfl B5 rfl).eq ((rfl:_=ae one))) <| st (mv rfl) <| st (ap (A:=E (B true)) (B:=E (ae one)) (C:=E (I (x:Nat))) cg rfl rfl (fun v u w he h h'=>fH w v u h h')) <| st (mv rfl) <| sy rfl rfl (fA U79 rfl T77 rfl) <| sy rfl rfl (ld1 (v:=.map (some bm0)) T77 rfl B4 (bN _ _)) <| sy rfl rfl (mv rfl) <| sy rfl rfl ((lkM (l:=l) (i:=(x:Int)) U77 ce (isE rfl hdv) rfl hwx).eq (congrArg ae hlk)) <| sy rfl rfl ((ldW T76 rfl B5 rfl).eq ((rfl:_=ae one))) <| sy rfl rfl (ap (A:=E (ae (nx &&& one))) (B:=E (ae nx)) (C:=E (ae one)) dX rfl rfl (fun v u w he h h'=>fI w v u h h')) <| sy rfl rfl (aA (A:=E (B false)) (B:=E (ae (nx &&& one))) dM rfl (fun v w he h=>fE2 w v h)) <| sy rfl rfl (aX rfl) <| st (pkT rfl rfl) <| st (mv rfl) <| sn rfl rfl rfl <| sn rfl rfl rfl <| sn rfl rfl rfl <| sn rfl rfl rfl <| sn rfl rfl rfl <| su rfl rfl <| su rfl rfl <| su rfl rfl <| su rfl rfl <| su rfl rfl <| su rfl rfl <| su rfl rfl <| sn rfl rfl rfl <| st (pkT rfl rfl) <| en fun a w e' hf=>?_
      obtain⟨hT,HM0⟩:=up2 e' hT HM0
      replace kh:=kh.tr (Kh.ext e')
      obtain⟨hdv,e,B2,B3,B4,B5⟩:=up6 e' hdv e B2 B3 B4 B5
      refine aa ?_
      replace hf:=hf.kp [2,3,4,5,12,95]
      refine ifc hf rfl (fun _=>?_) (fun h=>by cases h)
      replace hf:=hf.kp [2,3]
      have kk:=B2.lt
      refine seq <| ac <| aO T35 hf rfl rfl rfl B2 Nat.zero_lt_one fun w hg hsz B2 hf=>?_
      replace e:=e.gr hg (by omega);replace hT:=hT.gr hg (by omega);replace HM0:=HM0.gr hg (fun h=>nm23.1 (Option.some.inj h));replace B3:=B3.gr hg (by omega);replace B4:=B4.gr hg (by omega);replace B5:=B5.gr hg (by omega);replace kh:=kh.tr (Kh.gr hg (fun hh=>by have:=hh.1;omega));clear hg
      refine aO T4 hf rfl rfl rfl B3 Nat.zero_lt_one fun w hg hsz B3 hf=>?_
      replace e:=e.gr hg (by omega);replace hT:=hT.gr hg (by omega);replace HM0:=HM0.gr hg (fun h=>nm23.2 (Option.some.inj h));replace B2:=B2.gr hg (by omega);replace B4:=B4.gr hg (by omega);replace B5:=B5.gr hg (by omega);replace kh:=kh.tr (Kh.gr hg (fun hh=>by have:=hh.1;omega));clear hg
      refine aa <| am <| ⟨⟨rfl,⟨e,hT,HM0,B2,B3,B4,B5⟩,hbad (by rfl)⟩,kh⟩
    | true=>
     repeat refine seq ?_
     refine rgG 20 Mix.mix hf <| st (fA U79 rfl T77 rfl) <| st (ld1 (v:=.map (some bm0)) T77 rfl B4 (bN _ _)) <| st (mv rfl) <| st ((lkM (l:=l) (i:=(x:Int)) U77 ce (isE rfl hdv) rfl hwx).eq (congrArg ae hlk)) <| st ((ldW T76 rfl B5 rfl).eq ((rfl:_=ae one))) <| st (ap (A:=E (ae (nx &&& one))) (B:=E (ae nx)) (C:=E (ae one)) dX rfl rfl (fun v u w he h h'=>fI w v u h h')) <| st (aA (A:=E (B true)) (B:=E (ae (nx &&& one))) dM rfl (fun v w he h=>fE2 w v h)) <| st (aX rfl) <| st ((ldW T76 rfl B5 rfl).eq ((rfl:_=ae one))) <| st (mv rfl) <| st (ap (A:=E (B true)) (B:=E (ae one)) (C:=E (I (x:Nat))) cg rfl rfl (fun v u w he h h'=>fH w v u h h')) <| st (ia U4 rfl rfl) <| st (mv rfl) <| sn rfl rfl rfl <| sn rfl rfl rfl <| sn rfl rfl rfl <| sn rfl rfl rfl <| sn rfl rfl rfl <| sn rfl rfl rfl <| st (pkF rfl rfl) <| en fun a w e' hf=>?_
     obtain⟨hT,HM0⟩:=up2 e' hT HM0
     replace kh:=kh.tr (Kh.ext e')
     obtain⟨hdv,e,B2,B3,B4,B5⟩:=up6 e' hdv e B2 B3 B4 B5
     refine aa ?_
     replace hf:=hf.kp [2,3,4,5,12,67]
     refine ifc hf rfl (fun h=>by cases h) (fun _=>?_)
     refine ak ?_
     replace hf:=hf.kp [2,3,4,5,12]
     refine seq <| rgN 28 hf <| st ((ldW T76 rfl B5 rfl).eq ((rfl:_=ae one))) <| st (mv rfl) <| st (ap (A:=E (B true)) (B:=E (ae one)) (C:=E (I (x:Nat))) cg rfl rfl (fun v u w he h h'=>fH w v u h h')) <| st (mv rfl) <| sy rfl rfl (fA U79 rfl T77 rfl) <| sy rfl rfl (ld1 (v:=.map (some bm0)) T77 rfl B4 (bN _ _)) <| sy rfl rfl (mv rfl) <| sy rfl rfl ((lkM (l:=l) (i:=(x:Int)) U77 ce (isE rfl hdv) rfl hwx).eq (congrArg ae hlk)) <| sy rfl rfl ((ldW T76 rfl B5 rfl).eq ((rfl:_=ae one))) <| sy rfl rfl (ap (A:=E (ae (nx &&& one))) (B:=E (ae nx)) (C:=E (ae one)) dX rfl rfl (fun v u w he h h'=>fI w v u h h')) <| sy rfl rfl (aA (A:=E (B true)) (B:=E (ae (nx &&& one))) dM rfl (fun v w he h=>fE2 w v h)) <| sy rfl rfl (aX rfl) <| st (pkT rfl rfl) <| st (mv rfl) <| sy rfl rfl ((ldW T76 rfl B5 rfl).eq ((rfl:_=ae one))) <| sy rfl rfl (mv rfl) <| sy rfl rfl (ap (A:=E (B true)) (B:=E (ae one)) (C:=E (I (x:Nat))) cg rfl rfl (fun v u w he h h'=>fH w v u h h')) <| sy rfl rfl (aX rfl) <| sy rfl rfl (mv rfl) <| sn rfl rfl rfl <| sn rfl rfl rfl <| sn rfl rfl rfl <| sn rfl rfl rfl <| sn rfl rfl rfl <| sn rfl rfl rfl <| sn rfl rfl rfl <| sy rfl rfl (pkF rfl rfl) <| st (pkF rfl rfl) <| en fun a w e' hf=>?_
     obtain⟨hT,HM0⟩:=up2 e' hT HM0
     replace kh:=kh.tr (Kh.ext e')
     obtain⟨hdv,e,B2,B3,B4,B5⟩:=up6 e' hdv e B2 B3 B4 B5
     refine aa ?_
     replace hf:=hf.kp [2,3,4,5,12,95]
     refine ifc hf rfl (fun h=>by cases h) (fun _=>?_)
     refine ak ?_
     exact⟨⟨⟨e,hT,HM0,B2,B3,B4,B5⟩,hgood (by cases E3 <;> rfl)⟩,kh⟩
  ·intro a' w' hf' hJ hsz hDn
   simp only[Exit.inBlock,↓reduceIte,Exit.then]
   rw[hJ.2] at hrb
   replace hrb:rb=true:=hrb
   rw[hrb,if_pos rfl] at hrl
   have hD:Ds [w.heap.size] w':=(Ds.nil w').cons hDn (by simp)
   have hf:FrD 98 (bS [w.heap.size]) a' w' [(2,E (ptr b2)),(3,E (ptr b3)),(5,E (ptr b5))]:=hf'.keep [2,3,5]
   have hDW:∀d∈[w.heap.size],W.heap.size≤d:=fun d hd=>by rw[List.mem_singleton] at hd;omega
   obtain⟨e,hT,HM0,B2,B3,B4,B5⟩:=hJ.1
   have hb2:=hD.ne B2
   have hb3:=hD.ne B3
   generalize [w.heap.size]=D2 at *
   generalize w'=w at *
   obtain⟨N9,hN9⟩:∃N9,N9=w.heap.size:=⟨_,rfl⟩
   have hN9s:N9≤w.heap.size:=Nat.le_of_eq hN9
   have hl9:b2<N9∧b3<N9:=by rw[hN9];exact⟨B2.lt,B3.lt⟩
   have hd9:∀d∈D2,d<N9:=fun d hd=>by rw[hN9];exact hD.lt hd
   refine seq <| rgN 2 hf <| st ((ldW T76 rfl B5 rfl).eq ((rfl:_=ae one))) <| st (aA (A:=OwA intE 3 N9 G0 (elL one)) (B:=E (ae one)) jP rfl (fun u w he k=>by cases k;exact (kP one w (hT.ext he)).mono fun en w' ⟨u,k1,k2,k3⟩=>⟨u,k1,k2,OwR.low k3 (Nat.le_trans hN9s he.size) fun b hb=>hb.elim⟩)) ?_
   refine en fun a w e' hf=>?_
   obtain⟨hT,e,B2,B3,B5,hD⟩:=up6 e' hT e B2 B3 B5 hD
   obtain⟨ev,HoE,hf⟩:=hf.opn 97 rfl
   replace HoE:OwR intE 3 N9 G0 w (elL one) ev:=HoE
   have hro:ev.oneCell'=true:=HoE.one
   replace hf:=hf.kp [2,3,97]
   refine aO T35 hf rfl rfl hro B2 Nat.zero_lt_one fun w hg hsz B2 hf=>?_
   obtain⟨e,B3⟩:=gr2 hg e B3
   replace hD:=hD.gr hg hb2;replace HoE:=HoE.grE hg (HoE.neLt hl9.1)
   refine aO T4 hf rfl rfl rfl B3 Nat.zero_lt_one fun w hg hsz B3 hf=>?_
   obtain⟨e,B2⟩:=gr2 hg e B2
   replace hD:=hD.gr hg hb3;replace HoE:=HoE.grE hg (HoE.neLt hl9.2)
   refine aa ?_
   replace B2:Blk w b2 #[ev] 35:=B2
   replace B3:Blk w b3 #[B true] 4:=B3
   refine am <| tI rfl T35 T4 hf rfl rfl B2 B3 hD ⟨_,rfl,e.shut hDW,Tup.two ?_ (by rw[hrb];rfl)⟩
   rw[hrl]
   exact ((HoE.chE (ea D2 w) fun b hb hm=>by have h1:=(HoE.lt hb).1;have h2:=hd9 b hm;omega)).sl
  ·intro ex c a' w' hcd hf' hX hsz hDn
   obtain⟨rfl,hJ,hany⟩:=hX
   simp only[Exit.inBlock,↓reduceIte,Exit.then]
   rw[hany] at hrb
   replace hrb:rb=false:=hrb
   rw[hrb,if_neg (by decide)] at hrl
   subst hrl hrb
   have hD:Ds [w.heap.size] w':=(Ds.nil w').cons hDn (by simp)
   have hf:FrD 98 (bS [w.heap.size]) a' w' [(2,E (ptr b2)),(3,E (ptr b3))]:=hf'.keep [2,3]
   have hDW:∀d∈[w.heap.size],W.heap.size≤d:=fun d hd=>by rw[List.mem_singleton] at hd;omega
   exact tI rfl T35 T4 hf rfl rfl hJ.p2 hJ.p3 hD ⟨_,rfl,hJ.e.shut hDW,Tup.two Dv.nil rfl⟩
def lkI (l:List (Int×Int))(i:Int):Int:=((l.find? fun p=>decide (p.1=i)).map (·.2)).getD 0
theorem a2R (l:List (Int×Int))(x:Int)(c:Int)(i:Int):lkI (aV l x c) i=if i=x then c else lkI l i:=by
 rw[lkI,aV,List.find?_cons]
 by_cases h:x=i
 ·subst h;simp
 ·have h1:decide ((x,c).1=i)=false:=by simp[h]
  rw[h1,if_neg (Ne.symm h),lkI]
  congr 2
  induction l with
  | nil=>rfl
  | cons p l ih=>
   rw[List.filter_cons]
   by_cases hp:p.1=x
   ·have h2:decide (p.1=i)=false:=by rw[hp];simp[h]
    rw[if_neg (by simp[hp]),List.find?_cons,h2];exact ih
   ·rw[if_pos (by simp[hp]),List.find?_cons,List.find?_cons]
    cases decide (p.1=i) <;> simp[ih]
theorem a2S {l:List (Int×Int)}{i:Int}(h:lkI l i≠0):(i,lkI l i)∈l:=by
 rw[lkI] at h ⊢
 cases hf:l.find? (fun p=>decide (p.1=i)) with
 | none=>rw[hf] at h;exact absurd rfl h
 | some p=>
  have h1:p.1=i:=by simpa using List.find?_some hf
  have h2:=List.mem_of_find?_eq_some hf
  show (i,p.2)∈l
  rw[← h1];exact h2
theorem tK {l:List (Int×Int)}{lo hi:Int}(h:∀p∈l,lo≤p.2∧p.2≤hi)(h0:lo≤0)(h1:0≤hi)(i:Int):lo≤lkI l i∧lkI l i≤hi:=by
 by_cases hz:lkI l i=0
 ·rw[hz];exact⟨h0,h1⟩
 ·exact h _ (a2S hz)
theorem a2T {l:List (Int×Int)}(h:∀p∈l,0<p.2){i c:Int}(hm:(i,c)∈l):0<lkI l i:=by
 rw[lkI]
 cases hf:l.find? (fun p=>decide (p.1=i)) with
 | none=>have:=List.find?_eq_none.1 hf _ hm;simp at this
 | some p=>exact h p (List.mem_of_find?_eq_some hf)
theorem jh {α β:Type}[DecidableEq α]{l:List (α×β)}{x:α}{c:β}{p:α×β}(h:p∈aV l x c):p=(x,c)∨p∈l:=by
 rcases List.mem_cons.1 h with h|h
 ·exact .inl h
 ·exact .inr (List.mem_filter.1 h).1
theorem tM {α β:Type}[DecidableEq α]{l:List (α×β)}(x:α)(c:β)(h:l.Pairwise fun p q=>p.1≠q.1):(aV l x c).Pairwise fun p q=>p.1≠q.1:=by
 refine List.pairwise_cons.2 ⟨fun q hq=>?_,h.filter _⟩
 have:=(List.mem_filter.1 hq).2
 simp only[Bool.not_eq_true',decide_eq_false_iff_not] at this
 exact fun e=>this e.symm
theorem a2U {α β:Type}[DecidableEq α]{l:List (α×β)}{x:α}(c:β)(h:∀d,(x,d) ∉ l):(aV l x c).length=l.length+1:=by
 rw[(sQ (c:=c) h).length_eq,List.length_append];rfl
structure BcS where
 la:List (Int×Int)
 ll:List (Int×Int)
 way:List Nat
 out:List (List Int)
def bcP (id:Nat)(s:BcS):BcS:={ s with la:=aV s.la (id:Int) ((s.la.length:Nat)+1:Int),ll:=aV s.ll (id:Int) (lkI (aV s.la (id:Int) ((s.la.length:Nat)+1:Int)) (id:Int)),way:=s.way++[id] }
def bcL (id next:Nat)(s:BcS):BcS:={ s with ll:=aV s.ll (id:Int) (min (lkI s.ll (id:Int)) (lkI s.la (next:Int))) }
def bcM (id next:Nat)(s:BcS):BcS:={ s with ll:=aV s.ll (id:Int) (min (lkI s.ll (id:Int)) (lkI s.ll (next:Int))) }
def bcC (id behind:Nat)(s:BcS):BcS:={ s with out:=s.out++[elL ((ai (s.way.drop behind++[id])).foldl ins 0)],way:=s.way.take behind }
def bcT (R:Nat→Int→BcS→BcS)(id:Nat)(frm:Int)(s:BcS)(next:Nat):BcS:=
 if (next:Int)=frm then s
 else if 0<lkI s.la (next:Int) then bcL id next s
 else if lkI (bcM id next (R next (id:Int) s)).la (id:Int)≤lkI (bcM id next (R next (id:Int) s)).ll (next:Int) then bcC id s.way.length (bcM id next (R next (id:Int) s)) else bcM id next (R next (id:Int) s)
def bcF (nb:Int→BS):Nat→Nat→Int→BcS→BcS
 | 0,_,_,s=>s
 | f+1,id,frm,s=>(ah (nb (id:Int))).foldl (bcT (bcF nb f) id frm) (bcP id s)
structure BcI (V:BS)(c:Nat)(s:BcS):Prop where
 ka:∀p∈s.la,∃n:Nat,p.1=(n:Int)∧V.getLsbD n=true
 va:∀p∈s.la,1≤p.2∧p.2≤1025
 na:s.la.Pairwise fun p q=>p.1≠q.1
 kl:∀p∈s.ll,∃n:Nat,p.1=(n:Int)∧V.getLsbD n=true
 vl:∀p∈s.ll,0≤p.2∧p.2≤1025
 nl:s.ll.Pairwise fun p q=>p.1≠q.1
 w:s.way.length≤s.la.length
 wm:∀x∈s.way,x<1024
 o:s.out.length≤s.la.length+c
theorem tN {V:BS}{l:List (Int×Int)}(hk:∀p∈l,∃n:Nat,p.1=(n:Int)∧V.getLsbD n=true)(hn:l.Pairwise fun p q=>p.1≠q.1):l.length≤card V:=by
 have:=eI (l.map (·.1)) (ai (ah V)) (List.pairwise_map.2 hn) fun x hx=>by
  obtain⟨p,hp,rfl⟩:=List.mem_map.1 hx
  obtain⟨n,h1,h2⟩:=hk p hp
  rw[h1]
  exact List.mem_map.2 ⟨n,aC.2 ⟨az h2,h2⟩,rfl⟩
 rw[List.length_map,bB,cF] at this
 exact this
section
variable {V:BS}{c:Nat}{s:BcS}
theorem BcI.al (h:BcI V c s):s.la.length≤1024:=Nat.le_trans (tN h.ka h.na) (dR V)
theorem BcI.ll' (h:BcI V c s):s.ll.length≤1024:=Nat.le_trans (tN h.kl h.nl) (dR V)
theorem BcI.ar (h:BcI V c s)(i:Int):0≤lkI s.la i∧lkI s.la i≤1025:=tK (fun p hp=>⟨by have:=h.va p hp;omega,(h.va p hp).2⟩) (by omega) (by omega) i
theorem BcI.lr (h:BcI V c s)(i:Int):0≤lkI s.ll i∧lkI s.ll i≤1025:=tK h.vl (by omega) (by omega) i
theorem BcI.new (h:BcI V c s){id:Int}(hi:lkI s.la id≤0):∀d,(id,d) ∉ s.la:=fun d hd=>by
 have:=a2T (fun p hp=>by have:=h.va p hp;omega) hd
 omega
theorem BcI.setL (h:BcI V c s){id:Nat}(hid:V.getLsbD id=true){v:Int}(hv:0≤v∧v≤1025):BcI V c { s with ll:=aV s.ll (id:Int) v }:=
 ⟨h.ka,h.va,h.na,fun p hp=>by
  rcases jh hp with rfl|hp
  ·exact⟨id,rfl,hid⟩
  ·exact h.kl p hp,fun p hp=>by
  rcases jh hp with rfl|hp
  ·exact hv
  ·exact h.vl p hp,tM _ _ h.nl,h.w,h.wm,h.o⟩
theorem BcI.push (h:BcI V c s){id:Nat}(hid:V.getLsbD id=true)(hi:lkI s.la (id:Int)≤0):BcI V c (bcP id s)∧(bcP id s).la.length=s.la.length+1:=by
 have hlen:=a2U ((s.la.length:Nat)+1:Int) (h.new hi)
 have hal:=h.al
 have h1:BcI V c { s with la:=aV s.la (id:Int) ((s.la.length:Nat)+1:Int),way:=s.way++[id] }:=
  ⟨fun p hp=>by
   rcases jh hp with rfl|hp
   ·exact⟨id,rfl,hid⟩
   ·exact h.ka p hp,fun p hp=>by
   rcases jh hp with rfl|hp
   ·dsimp only;omega
   ·exact h.va p hp,tM _ _ h.na,h.kl,h.vl,h.nl,by
    show (s.way++[id]).length≤(aV s.la (id:Int) ((s.la.length:Nat)+1:Int)).length
    rw[hlen,List.length_append,List.length_singleton];have:=h.w;omega,fun x hx=>by
   rcases List.mem_append.1 hx with hx|hx
   ·exact h.wm x hx
   ·rw[List.mem_singleton.1 hx];exact az hid,by
    show s.out.length≤(aV s.la (id:Int) ((s.la.length:Nat)+1:Int)).length+c
    rw[hlen];have:=h.o;omega⟩
 exact⟨h1.setL hid (h1.ar (id:Int)),hlen⟩
def unv (V:BS)(la:List (Int×Int)):Nat:=((ah V).filter fun v:Nat=>decide (lkI la (v:Int)≤0)).length
theorem nK {V:BS}{la la':List (Int×Int)}(h:∀i,0<lkI la i→0<lkI la' i):unv V la'≤unv V la:=by
 rw[unv,unv,← List.countP_eq_length_filter,← List.countP_eq_length_filter]
 refine List.countP_mono_left fun v _ hv=>?_
 have h1:=of_decide_eq_true hv
 refine decide_eq_true <| Classical.byContradiction fun hn=>?_
 have:=h (v:Int) (by omega)
 omega
theorem a2V {V:BS}{la la':List (Int×Int)}{id:Nat}(hid:V.getLsbD id=true)(h0:lkI la (id:Int)≤0)(h1:0<lkI la' (id:Int))(h:∀i,0<lkI la i→0<lkI la' i):unv V la'<unv V la:=by
 rw[unv,unv]
 have hm:id∈ah V:=aC.2 ⟨az hid,hid⟩
 generalize ah V=l at hm
 have hle:∀l:List Nat,(l.filter fun v:Nat=>decide (lkI la' (v:Int)≤0)).length≤(l.filter fun v:Nat=>decide (lkI la (v:Int)≤0)).length:=fun l=>by
  rw[← List.countP_eq_length_filter,← List.countP_eq_length_filter]
  refine List.countP_mono_left fun v _ hv=>decide_eq_true ?_
  have h2:=of_decide_eq_true hv
  refine Classical.byContradiction fun hn=>?_
  have:=h (v:Int) (by omega)
  omega
 induction l with
 | nil=>cases hm
 | cons x l ih=>
  rw[List.filter_cons,List.filter_cons]
  rcases List.mem_cons.1 hm with rfl|hm
  ·rw[if_neg (by simp;omega),if_pos (by simp;omega),List.length_cons]
   have:=hle l
   omega
  ·have:=ih hm
   by_cases hx:lkI la' (x:Int)≤0
   ·have hx2:lkI la (x:Int)≤0:=Classical.byContradiction fun hn=>by
     have:=h (x:Int) (by omega);omega
    rw[if_pos (decide_eq_true hx),if_pos (decide_eq_true hx2),List.length_cons,List.length_cons]
    omega
   ·rw[if_neg (by simpa using hx)]
    split
    ·rw[List.length_cons];omega
    ·exact this
structure BcQ (V:BS)(c:Nat)(s1 s:BcS):Prop where
 i:BcI V c s
 m:∀i,0<lkI s1.la i→0<lkI s.la i
 w:∃t,s.way=s1.way++t
 d:s.out.length+s1.la.length≤s1.out.length+s.la.length
theorem BcQ.rfl' (h:BcI V c s):BcQ V c s s:=⟨h,fun _ h=>h,⟨[],(List.append_nil _).symm⟩,Nat.le_refl _⟩
structure BcR (V:BS)(c:Nat)(id:Nat)(s s':BcS):Prop where
 i:BcI V c s'
 m:∀i,0<lkI s.la i→0<lkI s'.la i
 w:∃t,s'.way=s.way++id::t
 d:s'.out.length+s.la.length+1≤s.out.length+s'.la.length
theorem a2W (id next:Nat)(s:BcS):(bcM id next s).la=s.la:=rfl
theorem a2X (id next:Nat)(s:BcS):(bcM id next s).way=s.way:=rfl
theorem a2Y (id next:Nat)(s:BcS):(bcM id next s).out=s.out:=rfl
theorem BcI.setM (h:BcI V c s){id:Nat}(hid:V.getLsbD id=true)(next:Nat):BcI V c (bcM id next s):=
 h.setL hid (by have h1:=h.lr (id:Int);have h2:=h.lr (next:Int);omega)
theorem BcI.setL2 (h:BcI V c s){id:Nat}(hid:V.getLsbD id=true)(next:Nat):BcI V c (bcL id next s):=
 h.setL hid (by have h1:=h.lr (id:Int);have h2:=h.ar (next:Int);omega)
theorem tO {s1:BcS}{R:Nat→Int→BcS→BcS}{id next:Nat}{frm:Int}(hid:V.getLsbD id=true)(h:BcQ V c s1 s)(hR:lkI s.la (next:Int)≤0→BcR V c next s (R next (id:Int) s)):BcQ V c s1 (bcT R id frm s next):=by
 rw[bcT]
 split
 ·exact h
 split
 ·exact⟨h.i.setL2 hid next,h.m,h.w,h.d⟩
 ·rename_i _ hn
  have r:=hR (by omega)
  obtain⟨t1,ht1⟩:=h.w
  obtain⟨t2,ht2⟩:=r.w
  have hd1:=h.d
  have hd2:=r.d
  have ri:=r.i.setM hid next
  have rm:=r.m
  generalize R next (id:Int) s=s2 at *
  split
  ·refine⟨⟨ri.ka,ri.va,ri.na,ri.kl,ri.vl,ri.nl,?_,fun x hx=>ri.wm x (List.mem_of_mem_take hx),?_⟩,fun i hi=>rm i (h.m i hi),⟨t1,?_⟩,?_⟩
   ·refine Nat.le_trans (List.length_take_le' _ _) ri.w
   ·show (s2.out++[_]).length≤s2.la.length+c
    rw[List.length_append,List.length_singleton]
    have:=h.i.o
    omega
   ·show s2.way.take s.way.length=s1.way++t1
    rw[ht2,List.take_append_of_le_length (Nat.le_refl _),List.take_length,ht1]
   ·show (s2.out++[_]).length+s1.la.length≤s1.out.length+s2.la.length
    rw[List.length_append,List.length_singleton]
    omega
  ·exact⟨ri,fun i hi=>rm i (h.m i hi),⟨t1++next::t2,by rw[a2X,ht2,ht1,List.append_assoc]⟩,by rw[a2Y,a2W];omega⟩
theorem tQ {id:Nat}(h:BcI V c s)(hid:V.getLsbD id=true)(hi:lkI s.la (id:Int)≤0):(∀i,0<lkI s.la i→0<lkI (bcP id s).la i)∧0<lkI (bcP id s).la (id:Int)∧unv V (bcP id s).la<unv V s.la:=by
 have h1:∀i,lkI (bcP id s).la i=if i=(id:Int) then ((s.la.length:Nat)+1:Int) else lkI s.la i:=fun i=>a2R _ _ _ _
 have h2:0<lkI (bcP id s).la (id:Int):=by rw[h1,if_pos rfl];omega
 have h3:∀i,0<lkI s.la i→0<lkI (bcP id s).la i:=fun i hh=>by rw[h1];split <;> omega
 exact⟨h3,h2,a2V hid hi h2 h3⟩
theorem nL {nb:Int→BS}(hV:∀i j:Nat,(nb (i:Int)).getLsbD j=true→V.getLsbD j=true):∀(f:Nat) (id:Nat) (frm:Int) (s:BcS),BcI V c s→V.getLsbD id=true→lkI s.la (id:Int)≤0→unv V s.la≤f→BcR V c id s (bcF nb f id frm s):=by
 intro f
 induction f with
 | zero=>
  intro id frm s h hid hi hu
  exfalso
  have hm:id∈(ah V).filter fun v:Nat=>decide (lkI s.la (v:Int)≤0):=List.mem_filter.2 ⟨aC.2 ⟨az hid,hid⟩,decide_eq_true hi⟩
  have:=List.length_pos_of_mem hm
  rw[unv] at hu
  omega
 | succ f ih=>
  intro id frm s h hid hi hu
  obtain⟨p1,p2⟩:=h.push hid hi
  obtain⟨q1,q2,q3⟩:=tQ h hid hi
  have key:∀(l:List Nat),(∀x∈l,V.getLsbD x=true)→∀s',BcQ V c (bcP id s) s'→BcQ V c (bcP id s) (l.foldl (bcT (bcF nb f) id frm) s'):=by
   intro l
   induction l with
   | nil=>intro _ s' h';exact h'
   | cons x l ihl=>
    intro hl s' h'
    exact ihl (fun y hy=>hl y (List.mem_cons_of_mem _ hy)) _ (tO hid h' fun hx=>ih x (id:Int) s' h'.i (hl x (List.mem_cons_self ..)) hx (by have:=nK (V:=V) h'.m;omega))
  have hq:=key (ah (nb (id:Int))) (fun x hx=>hV id x (aC.1 hx).2) _ (BcQ.rfl' p1)
  obtain⟨t,ht⟩:=hq.w
  have hqd:=hq.d
  rw[p2] at hqd
  have ho:(bcP id s).out=s.out:=rfl
  rw[ho] at hqd
  exact⟨hq.i,fun i hi=>hq.m i (q1 i hi),⟨t,by rw[bcF,ht];show s.way++[id]++t=_;rw[List.append_assoc];rfl⟩,by rw[bcF];omega⟩
end
noncomputable def iKV:KV Tryz.prog Int Int where
 k:=3
 e:=3
 kv:=fun x=>.int .i64 x
 kl:=fun x=>.int .i64 x
 ok:=fun x=>(Lit.int .i64 x).wf=true
 mv:=fun c=>.int .i64 c
 dv:=fun c=>.lit (.int .i64 c)
 okv:=fun c=>(Lit.int .i64 c).wf=true
 R:=plainElem Tryz.prog 3
 K:=Maps.int_keyed U3
 key:=fun x hx=>Maps.keyOf_int_mk U3 hx
 keyInv:=fun v l h=>by obtain⟨x,h1,h2,h3⟩:=Maps.keyOf_int_inv U3 h;exact⟨x,h3,h1,h2⟩
 kvInj:=fun x y h=>by cases h;rfl
 val:=fun c hc=>plainElem_int U3 hc
 valInv:=fun v y h=>by
  obtain⟨c,h1,h2,h3⟩:=plainElem_int_inv U3 h
  exact⟨c,h3,h1,h2⟩
 dvInj:=fun c c' h=>by cases h;rfl
theorem a2Z {l:List (Int×Int)}{i:Int}(h:∀c,(i,c) ∉ l):lkI l i=0:=by
 have:l.find? (fun p=>decide (p.1=i))=none:=by
  rw[List.find?_eq_none]
  intro p hp hh
  have h3:p.1=i:=by simpa using hh
  exact h p.2 (by rw[← h3];exact hp)
 rw[lkI,this];rfl
section
variable {w0:World}{L:Env}{dst:Option Tmp}{ty:TypeId}{pos:String}{aft:Array Edge}{g:Option (Nat×Bool)}{x y:Operand}{t:TypeId}{l:List (Int×Int)}{b n:Nat}
theorem dD {i:Int}(ht:Tryz.prog.underlying t=some (.map iKV.k iKV.e))(hx:opd L x=some (E (.map (some b))))(hM:MpR iKV w0 b n l)(hy:opd L y=some (E (I i)))(hi:(Lit.int .i64 i).wf=true) :
  OpC Tryz.prog w0 L ⟨dst,.lookup t x y false,ty,pos,aft,g⟩ (E (I (lkI l i))):=
 aR fun ρ w he' hv=>by
  have h5:=opE hv (x:=x) (by simp[Op.operands]) hx
  have h6:=opE hv (x:=y) (by simp[Op.operands]) hy
  have h2:=hM.ext he'
  obtain⟨D,m1,m2,m3,m4,_⟩:=h2.has (x:=i) hi
  have hz0:(Lit.int .i64 0).wf=true:=by decide
  obtain⟨v,ps,r1,r2⟩:=m1.lookup iKV.K ht (gk I3 w) (iKV.val 0 hz0) (iKV.key i hi)
  obtain⟨c,_,rfl,hy2⟩:=iKV.valInv _ _ r2
  have hcc:c=lkI l i:=by
   have h8:=congrArg Prod.fst hy2
   simp only at h8
   by_cases hex:∃c',(i,c')∈l
   ·obtain⟨c',hc'⟩:=hex
    rw[m3 c' hc'] at h8
    have h9:lkI l i=c':=by
     obtain⟨_,_,_,_,hp⟩:=h2
     cases hf:l.find? (fun p=>decide (p.1=i)) with
     | none=>have:=List.find?_eq_none.1 hf _ hc';simp at this
     | some p=>
      have k1:=List.find?_some hf
      have k2:=List.mem_of_find?_eq_some hf
      have k3:p.1=i:=by simpa using k1
      have k4:p=(i,p.2):=by rw[← k3]
      rw[k4] at k2
      rw[lkI,hf]
      exact iE hp k2 hc'
    rw[h9]
    exact (iKV.dvInj _ _ h8).symm
   ·have hno:∀c',(i,c') ∉ l:=fun c' h=>hex ⟨c',h⟩
    rw[m4 hno] at h8
    rw[a2Z hno]
    exact (iKV.dvInj _ _ h8).symm
  rw[hcc] at r1
  have r1:(Instr.lookup t (.map (some b)) (I i) false).run Tryz.prog w=.ok (I (lkI l i)) w:=r1
  exact⟨_,by simp only[execOp,h5,h6,Sem.run_bind,r1,Result.andThen_ok,Sem.run_pure],rfl⟩
theorem a3a (ht:Tryz.prog.underlying t=some (.map iKV.k iKV.e))(hx:opd L x=some (E (.map (some b))))(hM:MpR iKV w0 b n l):OpC Tryz.prog w0 L ⟨dst,.call ⟨.builtin .len,#[x],#[t]⟩,ty,pos,aft,g⟩ (E (I (l.length:Nat))):=
 qh (V:=iKV) (N:=n) (G:=G0) ht (isE hx (MpR.dvE hM (Nat.le_refl n) fun h=>h))
end
theorem OwR.cut {te:TypeId}{N:Nat}{w:World}{xs:List Int}{v:Value}(h:OwR intE te N G0 w xs v){k:Nat}(hk:k≤xs.length)(h0:0<k):∃b c,v=.slice (some ⟨b,0,none⟩) xs.length c∧xs.length≤c∧OwR intE te N G0 w (xs.take k) (.slice (some ⟨b,0,none⟩) k c):=by
 rcases h.rw intFF with ⟨_,rfl⟩|⟨b,cap,cur,rfl,hc,HR,ht⟩
 ·rw[List.length_nil] at hk;omega
 ·refine⟨b,cap,rfl,hc,?_⟩
  have hl:(xs.take k).length=k:=by rw[List.length_take];omega
  have:=HR.own (xs:=xs.take k) (G:=G0) intFF (by omega) (by
   rw[hl]
   have h1:=congrArg (List.take (k * intE.k)) ht
   rw[kj intFF.len,List.take_take,Nat.min_eq_left (Nat.mul_le_mul_right _ hk)] at h1
   exact h1) fun b hb=>hb.elim
  rw[hl] at this
  exact this
def OWN (vw vo:Value)(b:Nat):Prop:=vw.ownBlock=some b∨vo.ownBlock=some b
def bcV (ba bl bw bg bd bo:Nat):Value:=.func (.func 61) #[] #[ptr ba,ptr bl,ptr bw,ptr bg,ptr bd,ptr bo]
structure BcD (bm ba bl bw bg bd bo ma ml N:Nat):Prop where
 n:0<N∧bm<N∧ba<N∧bl<N∧bw<N∧bg<N∧bd<N∧bo<N∧ma<N∧ml<N
 w:bw≠ba∧bw≠bl∧bw≠bg∧bw≠bd∧bw≠bo∧bw≠bm∧bw≠0
 o:bo≠ba∧bo≠bl∧bo≠bg∧bo≠bd∧bo≠bm∧bo≠0
 a:ma≠ba∧ma≠bl∧ma≠bw∧ma≠bg∧ma≠bd∧ma≠bo∧ma≠bm∧ma≠ml∧ma≠0
 l:ml≠ba∧ml≠bl∧ml≠bw∧ml≠bg∧ml≠bd∧ml≠bo∧ml≠bm∧ml≠0
structure BcW (l:List (Int×BS))(V:BS)(bm nm ba bl bw bg bd bo ma ml N:Nat)(G:Nat→Prop)(s:BcS)(vw vo:Value)(w:World):Prop where
 t:Tab w
 m:MpR sKV w bm nm l
 pa:Blk w ba #[.map (some ma)] 43
 pl:Blk w bl #[.map (some ml)] 43
 pw:Blk w bw #[vw] 35
 pg:Blk w bg (adC V (.map (some bm))) 79
 pd:Blk w bd #[bcV ba bl bw bg bd bo] 95
 po:Blk w bo #[vo] 39
 ma:MpR iKV w ma s.la.length s.la
 ml:MpR iKV w ml s.ll.length s.ll
 ow:OwR intE 3 N G0 w (ai s.way) vw
 oo:OwX (slE intE) 35 N (fun b=>G b∨vw.ownBlock=some b) w s.out vo
section
variable {l:List (Int×BS)}{V:BS}{bm nm ba bl bw bg bd bo ma ml N:Nat}{G G':Nat→Prop}{s:BcS}{vw vo:Value}{w w' w2:World}
theorem BcW.ownNe (h:BcW l V bm nm ba bl bw bg bd bo ma ml N G s vw vo w){b:Nat}(h1:vw.ownBlock=some b):vo.ownBlock≠some b:=fun h2=>by
 refine h.oo.neR h.ow ?_ h2 h1
 decide
theorem BcW.ch (h:BcW l V bm nm ba bl bw bg bd bo ma ml N G s vw vo w)(D:BcD bm ba bl bw bg bd bo ma ml N){S:Nat→Prop}(c:Chg S w w')(hN:∀b,S b→N≤b)(hO:∀b,OWN vw vo b→¬S b)(hG:∀b,S b→G b):BcW l V bm nm ba bl bw bg bd bo ma ml N G s vw vo w':=by
 have no:∀{b},b<N→¬S b:=fun hb hs=>Nat.lt_irrefl _ (Nat.lt_of_lt_of_le hb (hN _ hs))
 obtain⟨n0,n1,n2,n3,n4,n5,n6,n7,n8,n9⟩:=D.n
 exact⟨h.t.ch c (no n0),h.m.pres (c.block _ h.m.lt (no n1)),h.pa.ch c (no n2),h.pl.ch c (no n3),h.pw.ch c (no n4),h.pg.ch c (no n5),h.pd.ch c (no n6),h.po.ch c (no n7),h.ma.pres (c.block _ h.ma.lt (no n8)),h.ml.pres (c.block _ h.ml.lt (no n9)),
  h.ow.chE c fun b hb=>hO b (.inl hb),h.oo.ch c (fun b hb=>hO b (.inr hb)) fun b hb=>.inl (hG b hb)⟩
theorem BcW.ext (h:BcW l V bm nm ba bl bw bg bd bo ma ml N G s vw vo w)(e:Ext w w'):BcW l V bm nm ba bl bw bg bd bo ma ml N G s vw vo w':=
 ⟨h.t.ext e,h.m.ext e,h.pa.ext e,h.pl.ext e,h.pw.ext e,h.pg.ext e,h.pd.ext e,h.po.ext e,h.ma.ext e,h.ml.ext e,h.ow.ext e,h.oo.ext e⟩
instance:Ug w w' (BcW l V bm nm ba bl bw bg bd bo ma ml N G s vw vo w) (BcW l V bm nm ba bl bw bg bd bo ma ml N G s vw vo w'):=⟨fun e h=>h.ext e⟩
theorem BcW.weak (h:BcW l V bm nm ba bl bw bg bd bo ma ml N G s vw vo w)(hG:∀b,b<w.heap.size→G' b→G b):BcW l V bm nm ba bl bw bg bd bo ma ml N G' s vw vo w:=
 ⟨h.t,h.m,h.pa,h.pl,h.pw,h.pg,h.pd,h.po,h.ma,h.ml,h.ow,h.oo.weak fun b hb hh=>hh.imp (hG b hb) id⟩
theorem BcW.putA (h:BcW l V bm nm ba bl bw bg bd bo ma ml N G s vw vo w)(D:BcD bm ba bl bw bg bd bo ma ml N)(hg:w.grownBy w' (some ma)){k:Nat}{la:List (Int×Int)}(HM:MpR iKV w' ma k la)(hG:G ma):BcW l V bm nm ba bl bw bg bd bo ma ml N G { s with la:=la } vw vo w':=by
 obtain⟨n0,n1,n2,n3,n4,n5,n6,n7,n8,n9⟩:=D.n
 obtain⟨d1,d2,d3,d4,d5,d6,d7,d8,d9⟩:=D.a
 have c:Chg (fun b=>b=ma) w w':=(Chg.rfl' _ w).gr hg (.inl rfl)
 exact⟨h.t.ch c (fun e=>d9 e.symm),h.m.pres (c.block _ h.m.lt fun e=>d7 e.symm),h.pa.ch c (fun e=>d1 e.symm),h.pl.ch c (fun e=>d2 e.symm),h.pw.ch c (fun e=>d3 e.symm),h.pg.ch c (fun e=>d4 e.symm),h.pd.ch c (fun e=>d5 e.symm),h.po.ch c (fun e=>d6 e.symm),HM.tight,h.ml.pres (c.block _ h.ml.lt fun e=>d8 e.symm),
  h.ow.chE c fun b hb e=>by have:=(h.ow.lt hb).1;omega,h.oo.ch c (fun b hb e=>by have:=(h.oo.lt hb).1;omega) fun b hb=>.inl (by rw[hb];exact hG)⟩
theorem BcW.putL (h:BcW l V bm nm ba bl bw bg bd bo ma ml N G s vw vo w)(D:BcD bm ba bl bw bg bd bo ma ml N)(hg:w.grownBy w' (some ml)){k:Nat}{ll:List (Int×Int)}(HM:MpR iKV w' ml k ll)(hG:G ml):BcW l V bm nm ba bl bw bg bd bo ma ml N G { s with ll:=ll } vw vo w':=by
 obtain⟨n0,n1,n2,n3,n4,n5,n6,n7,n8,n9⟩:=D.n
 obtain⟨d1,d2,d3,d4,d5,d6,d7,d8⟩:=D.l
 have d9:=D.a.2.2.2.2.2.2.2.1
 have c:Chg (fun b=>b=ml) w w':=(Chg.rfl' _ w).gr hg (.inl rfl)
 exact⟨h.t.ch c (fun e=>d8 e.symm),h.m.pres (c.block _ h.m.lt fun e=>d7 e.symm),h.pa.ch c (fun e=>d1 e.symm),h.pl.ch c (fun e=>d2 e.symm),h.pw.ch c (fun e=>d3 e.symm),h.pg.ch c (fun e=>d4 e.symm),h.pd.ch c (fun e=>d5 e.symm),h.po.ch c (fun e=>d6 e.symm),h.ma.pres (c.block _ h.ma.lt fun e=>d9 e),HM.tight,
  h.ow.chE c fun b hb e=>by have:=(h.ow.lt hb).1;omega,h.oo.ch c (fun b hb e=>by have:=(h.oo.lt hb).1;omega) fun b hb=>.inl (by rw[hb];exact hG)⟩
theorem BcW.setW (h:BcW l V bm nm ba bl bw bg bd bo ma ml N G s vw vo w)(D:BcD bm ba bl bw bg bd bo ma ml N){vw':Value}{way:List Nat}(hg:w.grownBy w' vw.ownBlock)(hat:vw'.ownBlock=vw.ownBlock∨vw'.ownBlock=some w.heap.size)(Hn:OwR intE 3 N G0 w' (ai way) vw')
  (hg2:w'.grownBy w2 (some bw)) (B:Blk w2 bw #[vw'] 35) (hGw:G bw):BcW l V bm nm ba bl bw bg bd bo ma ml N G { s with way:=way } vw' vo w2:=by
 obtain⟨n0,n1,n2,n3,n4,n5,n6,n7,n8,n9⟩:=D.n
 obtain⟨d1,d2,d3,d4,d5,d6,d7⟩:=D.w
 have a3:=D.a.2.2.1
 have l3:=D.l.2.2.1
 have c1:Chg (fun b=>vw.ownBlock=some b) w w':=Chg.row hg
 have c2:Chg (fun b=>b=bw) w' w2:=(Chg.rfl' _ w').gr hg2 (.inl rfl)
 have lo:∀b,vw.ownBlock=some b→N≤b:=fun b hb=>(h.ow.lt hb).1
 have no:∀{b},b<N→¬vw.ownBlock=some b:=fun hb hs=>Nat.lt_irrefl _ (Nat.lt_of_lt_of_le hb (lo _ hs))
 have hoo:OwX (slE intE) 35 N (fun b=>G b∨vw'.ownBlock=some b) w' s.out vo:=
  (h.oo.weak (G':=fun b=>(G b∨vw.ownBlock=some b)∨vw'.ownBlock=some b) fun b hb hh=>hh.elim id fun hh=>by
   rcases hat with e|e
   ·exact .inr (by rw[← e];exact hh)
   ·rw[e] at hh;cases hh;omega).ch c1 (fun b hb hh=>h.ownNe hh hb) (fun b hb=>.inl (.inr hb)) |>.weak fun b _ hh=>hh.elim (fun hh=>.inl (.inl hh)) .inr
 exact⟨(h.t.ch c1 (no n0)).ch c2 (fun e=>d7 e.symm),(h.m.pres (c1.block _ h.m.lt (no n1))).pres (c2.block _ (Nat.lt_of_lt_of_le h.m.lt c1.size) fun e=>d6 e.symm),(h.pa.ch c1 (no n2)).ch c2 (fun e=>d1 e.symm),(h.pl.ch c1 (no n3)).ch c2 (fun e=>d2 e.symm),B,(h.pg.ch c1 (no n5)).ch c2 (fun e=>d3 e.symm),(h.pd.ch c1 (no n6)).ch c2 (fun e=>d4 e.symm),(h.po.ch c1 (no n7)).ch c2 (fun e=>d5 e.symm),
  (h.ma.pres (c1.block _ h.ma.lt (no n8))).pres (c2.block _ (Nat.lt_of_lt_of_le h.ma.lt c1.size) a3),(h.ml.pres (c1.block _ h.ml.lt (no n9))).pres (c2.block _ (Nat.lt_of_lt_of_le h.ml.lt c1.size) l3),
  Hn.chE c2 fun b hb e=>by have:=(Hn.lt hb).1;omega,hoo.ch c2 (fun b hb e=>by have:=(hoo.lt hb).1;omega) fun b hb=>.inl (by rw[hb];exact hGw)⟩
theorem BcW.setO (h:BcW l V bm nm ba bl bw bg bd bo ma ml N G s vw vo w)(D:BcD bm ba bl bw bg bd bo ma ml N){vo':Value}{out:List (List Int)}(hg:w.grownBy w' vo.ownBlock)(Hn:OwX (slE intE) 35 N (fun b=>G b∨vw.ownBlock=some b) w' out vo')
  (hg2:w'.grownBy w2 (some bo)) (B:Blk w2 bo #[vo'] 39) (hGo:G bo):BcW l V bm nm ba bl bw bg bd bo ma ml N G { s with out:=out } vw vo' w2:=by
 obtain⟨n0,n1,n2,n3,n4,n5,n6,n7,n8,n9⟩:=D.n
 obtain⟨d1,d2,d3,d4,d5,d6⟩:=D.o
 have d7:=D.w.2.2.2.2.1
 have a6:=D.a.2.2.2.2.2.1
 have l6:=D.l.2.2.2.2.2.1
 have c1:Chg (fun b=>vo.ownBlock=some b) w w':=Chg.row hg
 have c2:Chg (fun b=>b=bo) w' w2:=(Chg.rfl' _ w').gr hg2 (.inl rfl)
 have lo:∀b,vo.ownBlock=some b→N≤b:=fun b hb=>(h.oo.lt hb).1
 have no:∀{b},b<N→¬vo.ownBlock=some b:=fun hb hs=>Nat.lt_irrefl _ (Nat.lt_of_lt_of_le hb (lo _ hs))
 have how:=(h.ow.chE c1 fun b hb hh=>h.ownNe hb hh)
 exact⟨(h.t.ch c1 (no n0)).ch c2 (fun e=>d6 e.symm),(h.m.pres (c1.block _ h.m.lt (no n1))).pres (c2.block _ (Nat.lt_of_lt_of_le h.m.lt c1.size) fun e=>d5 e.symm),(h.pa.ch c1 (no n2)).ch c2 (fun e=>d1 e.symm),(h.pl.ch c1 (no n3)).ch c2 (fun e=>d2 e.symm),(h.pw.ch c1 (no n4)).ch c2 (fun e=>d7 e),(h.pg.ch c1 (no n5)).ch c2 (fun e=>d3 e.symm),(h.pd.ch c1 (no n6)).ch c2 (fun e=>d4 e.symm),B,
  (h.ma.pres (c1.block _ h.ma.lt (no n8))).pres (c2.block _ (Nat.lt_of_lt_of_le h.ma.lt c1.size) a6),(h.ml.pres (c1.block _ h.ml.lt (no n9))).pres (c2.block _ (Nat.lt_of_lt_of_le h.ml.lt c1.size) l6),
  how.chE c2 fun b hb e=>by have:=(how.lt hb).1;omega,Hn.ch c2 (fun b hb e=>by have:=(Hn.lt hb).1;omega) fun b hb=>.inl (by rw[hb];exact hGo)⟩
end
end Go.Mono
namespace Go.Mono
open Go Go.RowKit Go.Proofs
section
variable {P:Program}{ops:Array Oper}{Q:Exit→Act→World→Prop}{w0:World}{n:Nat}{ds:List Deferred}{r:Option Nat}
structure a3b (ops:Array Oper)(m x y:Nat)(kp:Nat→Bool)(S:World→World→Prop)(F F2:World→Prop)(n:Nat)(ds:List Deferred)(w0:World)(L:Env)(As:Nat→VA)(listed:Array Bool)(a:Act)(w:World):Prop where
 ext:S w0 w
 pre:listed.getD x true=false→Ext w0 w
 post:listed.getD x false=true→listed.getD y true=false→F w
 fin:listed.getD y false=true→F2 w
 size:a.tmps.size=n
 defers:a.defers=ds
 hL:∀t A,aJ L t=some A→(∀j,j<m→aT ops j≠some t)→A.p (a.eval (.tmp t)) w
 hA:∀i,i<m→listed.getD i false=true→(listed.getD x true=false∨((kp i=true∨x≤i)∧(listed.getD y true=false∨StJ S (As i))))→∀d,aT ops i=some d→(As i).p (a.eval (.tmp d)) w

theorem tR {m x y:Nat}{fr kp:Nat→Bool}{S:World→World→Prop}(hR:bW S){F F2:World→Prop}(hx0:x<y)(hy0:y+1=m)(hFst:∀w w',Ext w w'→F w→F w')(hFst2:∀w w',Ext w w'→F2 w→F2 w'){ks:List Nat}{L:Env}{As:Nat→VA}(hm:m≤ops.size)(hchk:∀i,i<m→eO ops m n i=true)(hchk2:∀i,m≤i→i<ops.size→cX ops i=true)
  (hanc:∀j,j<x→fr j=false→cL ops 12 x j=true) (hancY:∀j,j<y→(j<x→fr j=false)→cL ops 12 y j=true) (hpo:∀j,x<j→j<m→cL ops 12 j x=true) (hfk:∀j,fr j=true→kp j=true)
  (hfree:∀i o,i<x→fr i=true→ops[i]?=some o→∀t,(t∈co o∨bR ops o=some t)→∀j,j<m→aT ops j=some t→kp j=true∧j≠x∧j<x)
  (hopsP:∀j o,x<j→j<y→ops[j]?=some o→∀w1,S w0 w1→F w1→GOp P ops w1 (aU ops L (fun j=>if kp j=true∨x≤j then As j else Any) 0 j) o (As j))
  (hops:∀j o,j<x→ops[j]?=some o→(fr j=false→GOp P ops w0 (aU ops L As 0 j) o (As j))∧(fr j=true→∀w1,S w0 w1→GOp P ops w1 (aU ops L As 0 j) o (As j))∧(kp j=true→StJ S (As j)))
  (hX:∀o,ops[x]?=some o→o.guard=none∧cY P w0 S F (aU ops L As 0 x) o (As x)) (hLav:dP S L)
  (hY:∀o,ops[y]?=some o→o.guard=none∧∀w1,S w0 w1→F w1→cY P w1 S F2 (aU ops L (fun j=>if kp j=true∨x≤j then As j else Any) 0 y) o (As y)) (hYd:aT ops y=none) (hks:dP S (keep ks (aU ops L (fun j=>if kp j=true∨x≤j then As j else Any) 0 y)))
  (hend:∀a w,S w0 w→F2 w→FrD n ds a w (keep ks (aU ops L (fun j=>if kp j=true∨x≤j then As j else Any) 0 y))→wpListIn (FW r) 0 P ops Q (ops.toList.drop m) a w) :
  ∀(c:Nat) (listed:Array Bool) (a:Act) (w:World),(List.range m).countP (fun i => !listed.getD i true)=c→listed.size=ops.size →
   (∀j,m≤j→j<ops.size→listed.getD j true=false)→LD ops listed→a3b ops m x y kp S F F2 n ds w0 L As listed a w→wpAnyIn (FW r) 0 P .any ops Q (c+(ops.size - m)) listed a w
 | 0,listed,a,w,hc,hsz,hun,hld,hi=>by
  have hall:∀j,j<m→listed.getD j false=true:=by
   intro j hj
   have:=(List.countP_eq_zero.1 hc) j (List.mem_range.2 hj)
   have hjl:j<listed.size:=by omega
   simpa[hjl] using this
  rw[Nat.zero_add]
  refine gZ m hchk2 (ops.size - m) m (by omega) (Nat.le_refl _) listed a w hall hun hsz hld (hend a w hi.ext (hi.fin (hall y (by omega))) ⟨hi.size,hi.defers,fun t A ht=>?_⟩)
  have hst:=hks.av t A ht
  have ht:=jH _ _ _ _ ht
  rcases dG L _ t A y ht with ⟨j,hj,hd,rfl⟩|⟨hn,hl⟩
  ·by_cases hk:kp j=true∨x≤j
   ·rw[if_pos hk] at hst ⊢
    exact hi.hA j (by omega) (hall j (by omega)) (.inr ⟨hk,.inr ⟨hst⟩⟩) t hd
   ·rw[if_neg hk];trivial
  ·refine hi.hL t A hl fun j hj=>?_
   by_cases hjy:j=y
   ·rw[hjy,hYd];intro h;cases h
   ·exact hn j (by omega)
 | c+1,listed,a,w,hc,hsz,hun,hld,hi=>by
  have facts:∀i o,i<m→ops[i]?=some o→(∀e∈o.after,Region.binds .any e=true→e.on<i)∧(∀d,o.dst=some d→d<n) ∧
    (∀t,t∈co o∨bR ops o=some t→∀j,j<m→aT ops j=some t→bnd ops i j=true)∧(∀j,j<m→j≠i→∀d,o.dst=some d→aT ops j≠some d):=by
   intro i o hlt ho
   have:=hchk i hlt
   simp only[eO,ho,Bool.and_eq_true,Array.all_eq_true_iff_forall_mem,Bool.or_eq_true,Bool.not_eq_true',List.all_eq_true,List.mem_range,List.mem_append,Option.mem_toList] at this
   obtain⟨⟨⟨h1,h2⟩,h3⟩,h4⟩:=this
   refine⟨fun e he hb=>?_,fun d hd=>?_,fun t ht j hj hd=>?_,fun j hj hne d hd hd'=>?_⟩
   ·rcases h1 e he with h|h
    ·rw[hb] at h;cases h
    ·simpa[Nat.blt_eq] using h
   ·simpa[hd,Nat.blt_eq] using h2
   ·have:=h3 t ht j hj
    rcases this with h|h
    ·rw[hd] at h;simp at h
    ·exact h
   ·have:=h4 j hj
    rcases this with h|h
    ·exact hne (Nat.eq_of_beq_eq_true h)
    ·rw[hd,hd'] at h;simp at h
  have prog:∃i,i<m∧listed.getD i true=false∧∀j,j<i→listed.getD j true=true:=by
   have hex:∃i,i<m∧listed.getD i true=false:=by
    have hpos:0<(List.range m).countP (fun i => !listed.getD i true):=by omega
    obtain⟨i,hi,hb⟩:=List.countP_pos_iff.1 hpos
    exact⟨i,List.mem_range.1 hi,by simpa using hb⟩
   obtain⟨i,hlt,hb⟩:=hex
   induction i using Nat.strongRecOn with
   | _ i ih=>
    by_cases h:∃j,j<i∧listed.getD j true=false
    ·obtain⟨j,hj,hjb⟩:=h
     exact ih j hj (by omega) hjb
    ·refine⟨i,hlt,hb,fun j hj=>?_⟩
     cases hjb:listed.getD j true with
     | true=>rfl
     | false=>exact absurd ⟨j,hj,hjb⟩ h
  obtain⟨i0,hi0,hu0,hbelow⟩:=prog
  have hready:i0∈Region.ready .any ops listed:=by
   have ho:ops[i0]?=some (ops[i0]'(by omega)):=by simp
   refine mem_ready.2 ⟨hu0,_,ho,fun e he hb=>?_⟩
   have hlt:=(facts i0 _ hi0 ho).1 e he hb
   have:=hbelow _ hlt
   have hjl:e.on<listed.size:=by omega
   simpa[hjl] using this
  rw[show c+1+(ops.size - m)=(c+(ops.size - m))+1 by omega]
  refine⟨fun h0=>(by rw[h0] at hready;cases hready),fun i hir=>?_⟩
  obtain⟨hu,o,ho,hall⟩:=mem_ready.1 hir
  have hilt:i<ops.size:=(Array.getElem?_eq_some_iff.1 ho).1
  have listed_of_bnd:∀j,bnd ops i j=true→listed.getD j false=true:=by
   intro j hb
   simp only[bnd,ho] at hb
   obtain⟨e,he,hb⟩:=Array.any_eq_true'.1 hb
   simp only[Bool.and_eq_true] at hb
   have:=hall e he hb.1
   rwa [Nat.eq_of_beq_eq_true hb.2] at this
  have him:i<m:=by
   rcases Nat.lt_or_ge i m with h|h
   ·exact h
   ·have hc:=hchk2 i h hilt
    simp only[cX,ho,Bool.and_eq_true,List.all_eq_true,List.mem_range] at hc
    have:=cov hld 12 i i0 (hc.2 i0 (by omega)) (fun o' ho' e he hb=>by
     rw[ho] at ho'
     obtain rfl:=Option.some.inj ho'
     exact hall e he hb)
    rw[cE hu0] at this
    cases this
  obtain⟨f1,f2,f3,f4⟩:=facts i o him ho
  have hlx:x<i→listed.getD x false=true:=fun hxi=>cov hld 12 i x (hpo i hxi him) (fun o' ho' e he hb=>by
   rw[ho] at ho'
   obtain rfl:=Option.some.inj ho'
   exact hall e he hb)
  have hxun:i<x→fr i=false→listed.getD x true=false:=by
   intro hix hfr
   cases hlx:listed.getD x true with
   | false=>rfl
   | true=>
    have hxl:x<listed.size:=by omega
    have hlx':listed.getD x false=true:=by simpa[hxl] using hlx
    have:=cov hld 12 x i (hanc i hix hfr) (fun o' ho' e he hb=>hld x o' hlx' ho' e he hb)
    rw[cE hu] at this
    cases this
  have hyun:i<y→(i<x→fr i=false)→listed.getD y true=false:=by
   intro hiy hfr
   cases hly:listed.getD y true with
   | false=>rfl
   | true=>
    have hyl:y<listed.size:=by omega
    have hly':listed.getD y false=true:=by simpa[hyl] using hly
    have:=cov hld 12 y i (hancY i hiy hfr) (fun o' ho' e he hb=>hld y o' hly' ho' e he hb)
    rw[cE hu] at this
    cases this
  have hcond:i≤x→∀j,j<m→(∃t,(t∈co o∨bR ops o=some t)∧aT ops j=some t)→(listed.getD x true=false∨((kp j=true∨x≤j)∧(listed.getD y true=false∨StJ S (As j)))):=by
   rintro hix0 j hj ⟨t,ht,hd⟩
   by_cases hix:i=x
   ·exact .inl (hix▸hu)
   ·cases hfr:fr i with
    | true=>
     obtain⟨q1,q2,q3⟩:=hfree i o (by omega) hfr ho t ht j hj hd
     have hoj:ops[j]?=some (ops[j]'(by omega)):=by simp
     exact .inr ⟨.inl q1,.inr ((hops j _ q3 hoj).2.2 q1)⟩
    | false=>exact .inl (hxun (by omega) hfr)
  have byLook:i≤x→∀t,(t∈co o∨bR ops o=some t)→∀B,aJ (aU ops L As 0 i) t=some B→B.p (a.eval (.tmp t)) w:=by
   intro hix t ht B hB
   rcases dG L As t B i hB with ⟨j,hj,hd,rfl⟩|⟨hn,hl⟩
   ·exact hi.hA j (by omega) (listed_of_bnd j (f3 t ht j (by omega) hd)) (hcond hix j (by omega) ⟨t,ht,hd⟩) t hd
   ·refine hi.hL t B hl fun j hj hd=>?_
    have hb:=f3 t ht j hj hd
    simp only[bnd,ho] at hb
    obtain⟨e,he,hb⟩:=Array.any_eq_true'.1 hb
    simp only[Bool.and_eq_true] at hb
    have hlt:=f1 e he hb.1
    rw[Nat.eq_of_beq_eq_true hb.2] at hlt
    exact hn j hlt hd
  have byLookP:listed.getD y true=false→∀t,(t∈co o∨bR ops o=some t)→∀B,aJ (aU ops L (fun j=>if kp j=true∨x≤j then As j else Any) 0 i) t=some B→B.p (a.eval (.tmp t)) w:=by
   intro hyu t ht B hB
   rcases dG L _ t B i hB with ⟨j,hj,hd,rfl⟩|⟨hn,hl⟩
   ·by_cases hk:kp j=true∨x≤j
    ·rw[if_pos hk]
     exact hi.hA j (by omega) (listed_of_bnd j (f3 t ht j (by omega) hd)) (.inr ⟨hk,.inl hyu⟩) t hd
    ·rw[if_neg hk];trivial
   ·refine hi.hL t B hl fun j hj hd=>?_
    have hb:=f3 t ht j hj hd
    simp only[bnd,ho] at hb
    obtain⟨e,he,hb⟩:=Array.any_eq_true'.1 hb
    simp only[Bool.and_eq_true] at hb
    have hlt:=f1 e he hb.1
    rw[Nat.eq_of_beq_eq_true hb.2] at hlt
    exact hn j hlt hd
  have ops1:i≤x→∀x∈o.op.operands,∀B,opd (aU ops L As 0 i) x=some B→B.p (a.eval x) w:=fun hix x hx B hB=>by
   cases x with
   | tmp t=>exact byLook hix t (.inl (List.mem_filterMap.2 ⟨.tmp t,by simpa using hx,rfl⟩)) B hB
   | const v=>simp[opd] at hB;subst hB;rfl
   | global g=>simp[opd] at hB;subst hB;rfl
   | func f=>simp[opd] at hB;subst hB;rfl
  have ops2:listed.getD y true=false→∀x'∈o.op.operands,∀B,opd (aU ops L (fun j=>if kp j=true∨x≤j then As j else Any) 0 i) x'=some B→B.p (a.eval x') w:=fun hyu x' hx B hB=>by
   cases x' with
   | tmp t=>exact byLookP hyu t (.inl (List.mem_filterMap.2 ⟨.tmp t,by simpa using hx,rfl⟩)) B hB
   | const v=>simp[opd] at hB;subst hB;rfl
   | global g=>simp[opd] at hB;subst hB;rfl
   | func f=>simp[opd] at hB;subst hB;rfl
  have hdst:aT ops i=o.dst:=by simp[aT,ho]
  have step:∀v w',S w w'→(i≠x→i≠y→Ext w w')→(i=x→∀j,j<x→kp j=true→StJ S (As j))→(As i).p v w'→(i=x→F w')→(i=y→F2 w')→wpAnyIn (FW r) 0 P .any ops Q (c+(ops.size - m)) (listed.setIfInBounds i true) (a.put o.dst v) w':=by
   intro v w' hx hxe hxa hv hvF hvF2
   have stab:∀(A:VA) u,StJ S A→A.p u w→A.p u w':=fun A u hA h=>hA.av _ _ _ hx h
   refine tR hR hx0 hy0 hFst hFst2 hm hchk hchk2 hanc hancY hpo hfk hfree hopsP hops hX hLav hY hYd hks hend c _ _ _ ?_ (by simpa using hsz) ?_ ?_ ?_
   ·have:=jC m (fun j => !listed.getD j true) (fun j => !(listed.setIfInBounds i true).getD j true) i him (by simp only[hu,Bool.not_false])
     (by
       have hjl:i<listed.size:=by omega
       simp[hjl]) (fun j hj=>by simp only[getD_set_ne true (Ne.symm hj)])
    omega
   ·intro j hj hj'
    rw[getD_set_ne true (by omega)]
    exact hun j hj hj'
   ·exact hld.set fun o' ho' e he hb=>by
     rw[ho] at ho'
     obtain rfl:=Option.some.inj ho'
     exact hall e he hb
   ·refine⟨hR.tr hi.ext hx,fun hl=>?_,fun hl hl2=>?_,fun hl=>?_,by simp[hi.size],by simp[hi.defers],fun t A ht hn=>?_,fun j hj hl hcj d hd=>?_⟩
    ·have hix:i≠x:=by
      rintro rfl
      have hjl:i<listed.size:=by omega
      simp[hjl] at hl
     rw[getD_set_ne true hix] at hl
     have hiy:i≠y:=fun hiy=>by
      have h1:=hlx (by omega)
      rw[cE hl] at h1;cases h1
     exact Ext.tr (hi.pre hl) (hxe hix hiy)
    ·by_cases hix:i=x
     ·exact hvF hix
     ·have hiy:i≠y:=fun hiy=>by
       have hyl:y<listed.size:=by omega
       rw[hiy] at hl2
       simp[hyl] at hl2
      rw[getD_set_ne false hix] at hl
      rw[getD_set_ne true hiy] at hl2
      exact hFst _ _ (hxe hix hiy) (hi.post hl hl2)
    ·by_cases hiy:i=y
     ·exact hvF2 hiy
     ·rw[getD_set_ne false hiy] at hl
      have hix:i≠x:=fun hix=>by
       have:=hyun (by omega) (fun h=>by omega)
       rw[cE this] at hl;cases hl
      exact hFst2 _ _ (hxe hix hiy) (hi.fin hl)
    ·have h0:=stab A _ ⟨hLav.av t A ht⟩ (hi.hL t A ht hn)
     cases hod:o.dst with
     | none=>exact h0
     | some d=>
      have:d≠t:=fun e=>hn i him (by rw[hdst,hod,e])
      rw[ek this]
      exact h0
    ·by_cases hji:j=i
     ·subst hji
      rw[hdst] at hd
      rw[hd,gY (by rw[hi.size];exact f2 d hd)]
      exact hv
     ·have hl':listed.getD j false=true:=by rwa [getD_set_ne false (Ne.symm hji)] at hl
      have hcj':listed.getD x true=false∨((kp j=true∨x≤j)∧(listed.getD y true=false∨StJ S (As j))):=by
       by_cases hix:i=x
       ·exact .inl (hix▸hu)
       ·rw[getD_set_ne true hix] at hcj
        by_cases hiy:i=y
        ·rcases hcj with h|⟨h,_⟩
         ·exact .inl h
         ·exact .inr ⟨h,.inl (hiy▸hu)⟩
        ·rw[getD_set_ne true hiy] at hcj
         exact hcj
      have h1:=hi.hA j hj hl' hcj' d hd
      have h0:(As j).p (a.eval (.tmp d)) w':=by
       by_cases hix:i=x
       ·have hjx:j<x:=by
         rcases Nat.lt_trichotomy j x with h|h|h
         ·exact h
         ·exact absurd (h.trans hix.symm) hji
         ·have:=cov hld 12 j x (hpo j h hj) (fun o' ho' e he hb=>hld j o' hl' ho' e he hb)
          rw[cE (hix▸hu)] at this
          cases this
        refine stab _ _ (hxa hix j hjx ?_) h1
        rcases hcj with h|⟨h|h,_⟩
        ·have hxl:x<listed.size:=by omega
         subst hix
         simp[hxl] at h
        ·exact h
        ·omega
       ·by_cases hiy:i=y
        ·refine stab _ _ ?_ h1
         have hxl:listed.getD x false=true:=hlx (by omega)
         rcases hcj with h|⟨_,h|h⟩
         ·rw[getD_set_ne true hix] at h
          rw[cE h] at hxl;cases hxl
         ·have hyl:y<listed.size:=by omega
          rw[hiy] at h
          simp[hyl] at h
         ·exact h
        ·exact (As j).st _ _ _ (hxe hix hiy) h1
      cases hod:o.dst with
      | none=>exact h0
      | some d'=>
       have:d'≠d:=fun e=>f4 j hj hji d' hod (by rw[hd,e])
       rw[ek this]
       exact h0
  unfold wpOpIn
  simp only[ho]
  by_cases hix:i=x
  ·obtain⟨hgd,hxo⟩:=hX o (hix▸ho)
   have hw:Region.wanted o (yielded ops a.tmps)=true:=by unfold Region.wanted;rw[hgd]
   rw[if_pos hw]
   have hpre:Ext w0 w:=hi.pre (hix▸hu)
   exact (hxo.out a.eval w hpre (hix▸ops1 (Nat.le_of_eq hix))).wp fun v w' hv=>step v w' hv.1 (fun h=>absurd hix h) (fun _ j hj=>by
    have hoj:ops[j]?=some (ops[j]'(by omega)):=by simp
    exact fun hfj=>(hops j _ hj hoj).2.2 hfj) (hix▸hv.2.1) (fun _=>hv.2.2) (fun h=>by omega)
  ·by_cases hiy:i=y
   ·obtain⟨hgd,hyo⟩:=hY o (hiy▸ho)
    have hw:Region.wanted o (yielded ops a.tmps)=true:=by unfold Region.wanted;rw[hgd]
    rw[if_pos hw]
    have hyu:listed.getD y true=false:=hiy▸hu
    exact ((hyo w hi.ext (hi.post (hlx (by omega)) hyu)).out a.eval w (Ext.rfl' w) (hiy▸ops2 hyu)).wp fun v w' hv=>step v w' hv.1 (fun _ h=>absurd hiy h) (fun h=>absurd h hix) (hiy▸hv.2.1) (fun h=>absurd h hix) (fun _=>hv.2.2)
   ·have hg:if Region.wanted o (yielded ops a.tmps) then OpR P o a.eval w (fun v w'=>Ext w w'∧(As i).p v w') else (As i).p undef w:=by
     by_cases hlt:i<x
     ·cases hfr:fr i with
      | true=>exact (hops i o hlt ho).2.1 hfr w hi.ext a w (Ext.rfl' w) (ops1 (by omega)) (fun d B hd hB=>byLook (by omega) d (.inr hd) B hB)
      | false=>exact (hops i o hlt ho).1 hfr a w (hi.pre (hxun hlt hfr)) (ops1 (by omega)) (fun d B hd hB=>byLook (by omega) d (.inr hd) B hB)
     ·have hyu:=hyun (by omega) (fun h=>by omega)
      exact hopsP i o (by omega) (by omega) ho w hi.ext (hi.post (hlx (by omega)) hyu) a w (Ext.rfl' w) (ops2 hyu) (fun d B hd hB=>byLookP hyu d (.inr hd) B hB)
    split
    ·rename_i hw
     rw[if_pos hw] at hg
     exact (hg.wp fun v w' hv=>step v w' (hR.ext hv.1) (fun _ _=>hv.1) (fun h=>absurd h hix) hv.2 (fun h=>absurd h hix) (fun h=>absurd h hiy))
    ·rename_i hw
     rw[if_neg hw] at hg
     exact⟨fun _ _=>trivial,step undef w (hR.ext (Ext.rfl' w)) (fun _ _=>Ext.rfl' _) (fun h=>absurd h hix) hg (fun h=>absurd h hix) (fun h=>absurd h hiy)⟩

def tS (ops:Array Oper)(y:Nat)(fr:List Nat):Bool:=
 mA ops (y+1) fr&&Nat.blt fr.length y&&((List.range y).all fun j=>(Nat.blt j fr.length&&frQ fr j) || cL ops 12 y j) &&
 ((
   List.range fr.length).all fun i => !frQ fr i || match ops[i]? with
   | none=>false
   | some o=>(co o++(bR ops o).toList).all fun t=>(List.range (y+1)).all fun j=>(match aT ops j with|some d => !Nat.beq d t|none=>true) || Nat.blt j fr.length) &&
 (match ops[y]? with|none=>false|some o=>o.dst.isNone&&o.guard.isNone)
theorem a3c {id:Nat}{ops:Array Oper}{L:Env}{a:Act}{w:World}(y:Nat)(fr:List Nat)(ks:List Nat)(S:World→World→Prop)(hR:bW S)(F F2:World→Prop)(hFst:∀w w',Ext w w'→F w→F w')(hFst2:∀w w',Ext w w'→F2 w→F2 w')(hmix:P.follows .mixedOrders=true)(hf:FrD n ds a w L)[hL:dP S L](hchk:chk ops (y+1) n=true)(hchkZ:tS ops y fr=true)
  (h:dr P ops w S F [] 0 fr (ops.toList.take y) (fun L'=>∃A,(∀o,ops[y]?=some o→∀w1,S w w1→F w1→cY P w1 S F2 L' o A)∧dP S (keep ks L')∧∀a' w',S w w'→F2 w'→FrD n ds a' w' (keep ks L')→wpListIn (FW r) 0 P ops Q (ops.toList.drop (y+1)) a' w') L L):(Code.region id ops true).wpIn (FW r) 0 P Q a w:=by
 simp only[chk,Bool.and_eq_true,List.all_eq_true,List.mem_range,Bool.or_eq_true,Nat.ble_eq] at hchk
 obtain⟨⟨hm,h1⟩,h2⟩:=hchk
 refine wpIn_region_any hmix ?_
 have hlen:(ops.toList.take y).length=y:=by simp;omega
 obtain⟨As,hfl,hAs,hX,hPo,A,hyA,hyst,hK⟩:=mz (ops:=ops) (ops.toList.take y) fr 0 L L (fun j hj=>by
  rw[hlen] at hj
  rw[Nat.zero_add,List.getElem?_take,if_pos hj];simp) h
 rw[hlen] at hyA hyst hK hfl hPo
 simp only[tS,mA,kc,Bool.and_eq_true,List.all_eq_true,List.mem_range,Bool.or_eq_true,Nat.blt_eq,Nat.ble_eq] at hchkZ
 obtain⟨⟨⟨⟨⟨⟨⟨hx,z1⟩,z3⟩,z2⟩,hxy⟩,z4⟩,z5⟩,z6⟩:=hchkZ
 have hext:Ext w { w with drawn:=w.drawn+1 }:=Ext.drew w
 obtain⟨As',hAs'⟩:∃As':Nat→VA,As'=fun j=>if j=y then A else As j:=⟨_,rfl⟩
 have hlt:∀j,j<y→As' j=As j:=fun j hj=>by rw[hAs'];exact if_neg (by omega)
 have hyy:As' y=A:=by rw[hAs'];exact if_pos rfl
 have hen:∀(f:Nat→VA) (f':Nat→VA) k,(∀j,j<k→f j=f' j)→aU ops L f 0 k=aU ops L f' 0 k:=fun f f' k hk=>by
  induction k with
  | zero=>rfl
  | succ k ih=>rw[aU,aU,ih (fun j hj=>hk j (by omega)),hk k (by omega)]
 have e1:∀k,k≤y→aU ops L As' 0 k=aU ops L As 0 k:=fun k hk=>hen _ _ k fun j hj=>hlt j (by omega)
 have e2:∀k,k≤y→aU ops L (fun j=>if kpQ fr j=true∨fr.length≤j then As' j else Any) 0 k=aU ops L (fun j=>if kpQ fr j=true∨fr.length≤j then As j else Any) 0 k:=fun k hk=>hen _ _ k fun j hj=>by
  show (if _ then As' j else Any)=_
  rw[hlt j (by omega)]
 have hoy:∃oy,ops[y]?=some oy∧oy.dst=none∧oy.guard=none:=by
  cases ho:ops[y]? with
  | none=>rw[ho] at z6;cases z6
  | some o=>
   rw[ho] at z6
   simp only[Bool.and_eq_true,Option.isNone_iff_eq_none] at z6
   exact⟨o,rfl,z6.1,z6.2⟩
 obtain⟨oy,hoy,hyd,hyg⟩:=hoy
 have:=tR (P:=P) (ops:=ops) (Q:=Q) (w0:=w) (n:=n) (ds:=ds) (m:=y+1) (x:=fr.length) (y:=y) (fr:=frQ fr) (kp:=kpQ fr) (S:=S) (F:=F) (F2:=F2) (ks:=ks) (r:=r) (L:=L) (As:=As') hR hxy rfl hFst hFst2 hm h1 (fun i hi hi'=>by
   rcases h2 i hi' with h|h
   ·simp only[Nat.blt_eq] at h;omega
   ·exact h) (fun j hj hfj=>by
   rcases z1 j hj with h|h
   ·rw[hfj] at h;cases h
   ·exact h) (fun j hj hfj=>by
   rcases z4 j hj with ⟨h,h'⟩|h
   ·rw[hfj h] at h';cases h'
   ·exact h) (fun j hj hjm=>by
   rcases z3 j hjm with (h|h)|h
   ·omega
   ·cases h
   ·exact h) (fun j h=>by
   unfold frQ at h
   unfold kpQ
   rw[Nat.eq_of_beq_eq_true h];rfl) (fun i o hi hfi ho t ht j hj hd=>by
   have:=z2 i hi
   rw[hfi,ho] at this
   simp only[Bool.not_true,Bool.false_eq_true,false_or,List.all_eq_true,List.mem_append,Option.mem_toList,List.mem_range,Bool.or_eq_true] at this
   rcases this t ht j hj with h|h
   ·rw[hd] at h;simp at h
   ·rw[Bool.and_eq_true,Nat.blt_eq] at h
    exact⟨h.1,by omega,h.2⟩) (fun j o hj hjm ho=>by rw[e2 j (by omega),hlt j hjm];exact fun w1 a b=>(hPo j o hj hjm (by simpa using ho)).1 w1 a (.inr b)) (fun j o hj ho=>by rw[e1 j (by omega),hlt j (by omega)];exact hAs j o hj (by simpa using ho)) (fun o ho=>by rw[e1 _ (by omega),hlt _ (by omega)];exact hX o (by simpa using ho)) hL
   (fun o ho=>by
    rw[hoy] at ho;cases ho
    exact⟨hyg,fun w1 q1 q2=>by rw[e2 y (Nat.le_refl _),hyy];exact hyA _ hoy w1 q1 q2⟩) (by simp[aT,hoy,hyd]) (by rw[e2 y (Nat.le_refl _)];exact hyst) (fun a w hx hF hf=>hK a w hx hF (by rw[e2 y (Nat.le_refl _)] at hf;exact hf)) (y+1)
  (Array.replicate ops.size false) a { w with drawn:=w.drawn+1 } ?_ (by simp) ?_ ?_ ⟨hR.ext hext,fun _=>hext,fun hl=>?_,fun hl=>?_,hf.size,hf.defers,fun t A ht _=>A.st _ _ _ hext (hf.val t A ht),fun i hi hl=>?_⟩
 ·rwa [show y+1+(ops.size - (y+1))=ops.size by omega] at this
 ·have:(List.range (y+1)).countP (fun i => !(Array.replicate ops.size false).getD i true)=(List.range (y+1)).length:=by
   refine List.countP_eq_length.2 fun i hi=>?_
   have:=List.mem_range.1 hi
   have hlt:i<ops.size:=by omega
   simp[hlt]
  simpa using this
 ·intro j _ hj
  simp[hj]
 ·intro i o hl
  have:(Array.replicate ops.size false).getD i false=false:=by
   by_cases hlt:i<ops.size <;> simp[hlt]
  rw[this] at hl;cases hl
 ·have:(Array.replicate ops.size false).getD fr.length false=false:=by
   by_cases hlt:fr.length<ops.size <;> simp[hlt]
  rw[this] at hl;cases hl
 ·have:(Array.replicate ops.size false).getD y false=false:=by
   by_cases hlt:y<ops.size <;> simp[hlt]
  rw[this] at hl;cases hl
 ·have:(Array.replicate ops.size false).getD i false=false:=by
   by_cases hlt:i<ops.size <;> simp[hlt]
  rw[this] at hl;cases hl
end
end Go.Mono
namespace Go.Mono
open Go Go.Proofs Go.RowKit Go.Gr
theorem a3d {H:Type}{P:Program}{e:TypeId}(he:P.underlying e=some .bool){v:Value}{z:DataW H×List MemPlace}(h:plainElem P e v=some z):∃c,v=.bool c∧z=(.lit (.bool c),[]):=by
 unfold plainElem at h
 rw[he] at h
 cases v <;> simp at h
 rename_i c
 exact⟨c,rfl,h.symm⟩
noncomputable def bKV:KV Tryz.prog Int Bool where
 k:=3
 e:=4
 kv:=fun x=>.int .i64 x
 kl:=fun x=>.int .i64 x
 ok:=fun x=>(Lit.int .i64 x).wf=true
 mv:=fun c=>.bool c
 dv:=fun c=>.lit (.bool c)
 okv:=fun _=>True
 R:=plainElem Tryz.prog 4
 K:=Maps.int_keyed U3
 key:=fun x hx=>Maps.keyOf_int_mk U3 hx
 keyInv:=fun v l h=>by obtain⟨x,h1,h2,h3⟩:=Maps.keyOf_int_inv U3 h;exact⟨x,h3,h1,h2⟩
 kvInj:=fun x y h=>by cases h;rfl
 val:=fun c hc=>plainElem_bool U4 c
 valInv:=fun v y h=>by
  obtain⟨c,h1,h2⟩:=a3d U4 h
  exact⟨c,trivial,h1,h2⟩
 dvInj:=fun c c' h=>by cases h;rfl
def lkV {β:Type}(z:β)(l:List (Int×β))(i:Int):β:=((l.find? fun p=>decide (p.1=i)).map (·.2)).getD z
theorem tT {β:Type}{z:β}{l:List (Int×β)}{i:Int}(h:∀c,(i,c) ∉ l):lkV z l i=z:=by
 have:l.find? (fun p=>decide (p.1=i))=none:=by
  rw[List.find?_eq_none]
  intro p hp hh
  have h3:p.1=i:=by simpa using hh
  exact h p.2 (by rw[← h3];exact hp)
 rw[lkV,this];rfl
theorem tU {β:Type}{z c:β}{l:List (Int×β)}{i:Int}(hp:l.Pairwise fun p q=>p.1≠q.1)(h:(i,c)∈l):lkV z l i=c:=by
 cases hf:l.find? (fun p=>decide (p.1=i)) with
 | none=>have:=List.find?_eq_none.1 hf _ h;simp at this
 | some p=>
  have k1:=List.find?_some hf
  have k2:=List.mem_of_find?_eq_some hf
  have k3:p.1=i:=by simpa using k1
  have k4:p=(i,p.2):=by rw[← k3]
  rw[k4] at k2
  rw[lkV,hf]
  exact iE hp k2 h
section
variable {w0:World}{L:Env}{dst:Option Tmp}{ty:TypeId}{pos:String}{aft:Array Edge}{g:Option (Nat×Bool)}{x y:Operand}{t:TypeId}{β:Type}{l:List (Int×β)}{b n:Nat}
theorem a3e {V:KV Tryz.prog Int β}{i:Int}{z:β}(hz:∀w,(zeroValue V.e).run Tryz.prog w=.ok (V.mv z) w)(hz0:V.okv z)(ht:Tryz.prog.underlying t=some (.map V.k V.e))(hx:opd L x=some (E (.map (some b))))(hM:MpR V w0 b n l)(hy:opd L y=some (E (V.kv i)))(hi:V.ok i) :
  OpC Tryz.prog w0 L ⟨dst,.lookup t x y false,ty,pos,aft,g⟩ (E (V.mv (lkV z l i))):=
 aR fun ρ w he' hv=>by
  have h5:=opE hv (x:=x) (by simp[Op.operands]) hx
  have h6:=opE hv (x:=y) (by simp[Op.operands]) hy
  have h2:=hM.ext he'
  obtain⟨D,m1,m2,m3,m4,_⟩:=h2.has (x:=i) hi
  obtain⟨v,ps,r1,r2⟩:=m1.lookup V.K ht (hz w) (V.val z hz0) (V.key i hi)
  obtain⟨c,_,rfl,hy2⟩:=V.valInv _ _ r2
  have hcc:c=lkV z l i:=by
   have h8:=congrArg Prod.fst hy2
   simp only at h8
   by_cases hex:∃c',(i,c')∈l
   ·obtain⟨c',hc'⟩:=hex
    rw[m3 c' hc'] at h8
    obtain⟨_,_,_,_,hp⟩:=h2
    rw[tU hp hc']
    exact (V.dvInj _ _ h8).symm
   ·have hno:∀c',(i,c') ∉ l:=fun c' h=>hex ⟨c',h⟩
    rw[m4 hno] at h8
    rw[tT hno]
    exact (V.dvInj _ _ h8).symm
  rw[hcc] at r1
  exact⟨_,by simp only[execOp,h5,h6,Sem.run_bind,r1,Result.andThen_ok,Sem.run_pure],rfl⟩
end
def SeR (w:World)(b:Nat)(S:BS):Prop:=∃l:List (Int×Bool),MpR bKV w b l.length l∧(∀p∈l,p.2=true∧∃n:Nat,p.1=(n:Int)∧S.getLsbD n=true)∧∀n:Nat,S.getLsbD n=true→((n:Int),true)∈l
section
variable {w w':World}{b:Nat}{S:BS}
theorem SeR.lt (h:SeR w b S):b<w.heap.size:=by obtain⟨l,h,_⟩:=h;exact h.lt
theorem SeR.ext (h:SeR w b S)(e':Ext w w'):SeR w' b S:=by obtain⟨l,h1,h2⟩:=h;exact⟨l,h1.ext e',h2⟩
instance:Ug w w' (SeR w b S) (SeR w' b S):=⟨fun e h=>h.ext e⟩
theorem SeR.gr (h:SeR w b S){c:Option Nat}(hg:w.grownBy w' c)(hne:some b≠c):SeR w' b S:=by obtain⟨l,h1,h2⟩:=h;exact⟨l,h1.gr hg hne,h2⟩
theorem nM {l:List (Int×Bool)}{n:Nat}(h:MpR bKV w b n l)(h2:∀p∈l,p.2=true∧∃n:Nat,p.1=(n:Int)∧S.getLsbD n=true):l.length≤1024:=by
 obtain⟨_,_,_,_,hn⟩:=h
 have:=eI (l.map (·.1)) (ai (ah S)) (List.pairwise_map.2 hn) fun x hx=>by
  obtain⟨p,hp,rfl⟩:=List.mem_map.1 hx
  obtain⟨_,n,h1,h2⟩:=h2 p hp
  rw[h1]
  exact List.mem_map.2 ⟨n,aC.2 ⟨az h2,h2⟩,rfl⟩
 rw[List.length_map,bB,cF] at this
 exact Nat.le_trans this (dR S)
theorem SeR.put {l:List (Int×Bool)}{m n:Nat}(hn:n<1024)(h:MpR bKV w b m (aV l (n:Int) true))(h2:∀p∈l,p.2=true∧∃n:Nat,p.1=(n:Int)∧S.getLsbD n=true)(h3:∀n:Nat,S.getLsbD n=true→((n:Int),true)∈l):SeR w b (ins S (n:Int)):=by
 refine⟨_,h.tight0,fun p hp=>?_,fun k hk=>?_⟩
 ·rcases jh hp with rfl|hp
  ·exact⟨rfl,n,rfl,(bq _ hn).2 (.inr rfl)⟩
  ·obtain⟨q1,k,q2,q3⟩:=h2 p hp
   exact⟨q1,k,q2,(bq _ hn).2 (.inl q3)⟩
 ·by_cases hkn:k=n
  ·rw[hkn];exact List.mem_cons_self ..
  ·have:=((bq _ hn).1 hk).resolve_right hkn
   refine List.mem_cons_of_mem _ (List.mem_filter.2 ⟨h3 k this,?_⟩)
   simp only[Bool.not_eq_true',decide_eq_false_iff_not]
   omega
theorem nN (w:World):(zeroValue bKV.e).run Tryz.prog w=.ok (bKV.mv false) w:=gk I4 w
theorem ji {w0:World}{L:Env}{dst:Option Tmp}{ty:TypeId}{pos:String}{aft:Array Edge}{g:Option (Nat×Bool)}{x y:Operand}{t:TypeId}{n:Nat}(ht:Tryz.prog.underlying t=some (.map bKV.k bKV.e))(hx:opd L x=some (E (.map (some b))))(hM:SeR w0 b S)(hy:opd L y=some (E (I (n:Nat))))(hi:n<1024) :
  OpC Tryz.prog w0 L ⟨dst,.lookup t x y false,ty,pos,aft,g⟩ (E (B (S.getLsbD n))):=by
 obtain⟨l,h1,h2,h3⟩:=hM
 have hk:=a3e (V:=bKV) (z:=false) (i:=(n:Int)) (dst:=dst) (ty:=ty) (pos:=pos) (aft:=aft) (g:=g) nN trivial ht hx h1 hy (bK (by omega) (by omega))
 have hv:lkV false l (n:Int)=S.getLsbD n:=by
  cases hb:S.getLsbD n with
  | true=>obtain⟨_,_,_,_,hp⟩:=h1;exact tU hp (h3 n hb)
  | false=>
   refine tT fun c hc=>?_
   obtain⟨_,k,q1,q2⟩:=h2 _ hc
   have:k=n:=by have:(n:Int)=(k:Int):=q1;omega
   rw[this,hb] at q2;cases q2
 rw[hv] at hk
 exact hk
end
theorem tV {G:Nat→Prop}(g:GT)(ok:Gr.Ok g)(a0:Nat)(ha:(aj g.1).getLsbD a0=true)(v:Value)(W:World)(h:(Dv gtE G g).p v W)(hl1:g.1.length≤100000)(hl2:g.2.length≤100000){K:Nat→Prop}(hK:∀b,K b→b<W.heap.size) :
  Calls Tryz.prog 81 #[v,I (a0:Nat)] W (Post (Dv (slE intE) K (elL (cpt (nbA g) a0))) W):=by
 obtain⟨u1,u2,rfl,h1,h2⟩:=Dv.gt.1 (Dv.weak (G':=G0) h fun b _ hb=>hb.elim)
 replace h1:=Dv.toB h1
 replace h2:=Dv.toB h2
 have ha1:=az ha
 have hwa:(Lit.int .i64 (a0:Int)).wf=true:=bK (by omega) (by omega)
 have hrch:=a2n ok ha
 have hin:=lb ok ha
 have hids:=a2o ok hin
 refine eN [.agg #[u1,u2],I (a0:Nat)] [E (.agg #[u1,u2]),E (I (a0:Nat))] Tryz.func81 Tryz.ntmps81 ?_ fun a hf=>?_
 rotate_left
 dsimp only[params,Nat.reduceAdd] at hf
 rotate_right
 ·exact arg2 rfl rfl
 have e:=Ext.rfl' W
 refine seq <| ac <| tB hf rfl fun a b2 w v2 hv2 e' hb2 hs2 B2 hf=>?_
 replace e:=e.tr e'
 refine tA hf rfl fun a hf=>aa ?_
 cases hv2
 have l2:=B2.lt
 replace hf:=hf.kp [1,2]
 refine seq <| ac <| ez bKV hf (by decide) fun a bm w e' hbm hsz HM hf=>?_
 replace e:=e.tr e';replace B2:=B2.ext e';clear e'
 have nb2:b2<bm:=by omega
 have nbW:W.heap.size≤bm:=by have:=e.size;omega
 obtain⟨N1,hN1⟩:∃N1,N1=w.heap.size:=⟨_,rfl⟩
 have hbN:bm<N1:=by omega
 have hN1s:N1≤w.heap.size:=Nat.le_of_eq hN1
 have hWN:W.heap.size≤N1:=by omega
 refine tP hf (mv rfl) fun a w e' hf=>?_
 obtain⟨HM,hN1s,e,B2⟩:=up4 e' HM hN1s e B2
 refine zA (V:=bKV) (i:=(a0:Int)) (c:=true) U49 hf rfl rfl rfl HM (by decide) hwa trivial fun w hg HM hf=>?_
 have HS:SeR w bm (ins 0 (a0:Int)):=SeR.put ha1 HM (fun p hp=>by cases hp) (fun n hn=>absurd hn (aS n))
 replace e:=e.gr hg (by omega);replace B2:=B2.gr hg (by omega);replace hN1s:=Nat.le_trans hN1s hg.size;clear hg HM
 refine tP hf (mv rfl) fun a w e' hf=>?_
 obtain⟨HS,hN1s,e,B2⟩:=up4 e' HS hN1s e B2
 refine tA hf rfl fun a hf=>aa ?_
 replace hf:=hf.keep [2,5]
 repeat refine seq ?_
 refine ac <| tA hf rfl fun a hf=>aa ?_
 replace hf:=hf.keep [2,5,6]
 refine blk (aL (fun r0 a w=>∃(j:Nat) ,r0=g.1.length - j∧j≤g.1.length∧Fr 88 a w [(2,E (ptr b2)),(5,E (.map (some bm))),(6,E (I j))]∧Ext W w∧Blk w b2 #[u1,u2] 25∧SeR w bm (rcN (esN g) (ins 0 (a0:Int)) j)∧N1≤w.heap.size) g.1.length ⟨0,rfl,by omega,hf,e,⟨B2,HS,hN1s⟩⟩ ?_)
 rintro r0 a w ⟨j,rfl,hj,hf,e,B2,HS,hN1s⟩
 repeat refine seq ?_
 refine rgN 5 hf <| st (mv rfl) <| st (fA U25 rfl T22 rfl) <| st (ld1 T22 rfl (by assumption) rfl) <| st (aD U22 (isE rfl (VA.st _ _ _ _ e h1))) <| st (lss rfl rfl) <| en fun a w e' hf=>?_
 obtain⟨HS,hN1s,e,B2⟩:=up4 e' HS hN1s e B2
 refine aa <| ifc hf rfl (fun hc=>ak ?_) (fun hc=>aK ?_)
 rotate_left
 rotate_left
 ·have hltj:j<g.1.length:=by have:=of_decide_eq_true hc;(try dsimp only at this);omega
  replace hf:=hf.keep [2,5,6]
  refine seq <| blk ?_
  obtain⟨S0,hS0⟩:∃S0,S0=rcN (esN g) (ins 0 (a0:Int)) j:=⟨_,rfl⟩
  have hS1:rcN (esN g) (ins 0 (a0:Int)) (j+1)=(esN g).foldl rcS S0:=by rw[hS0];rfl
  rw[← hS0] at HS
  have hel:(esN g).length=g.2.length:=by rw[esN,List.length_map]
  refine seq <| ac <| tA hf rfl fun a hf=>aa ?_
  replace hf:=hf.keep [2,5,6,7]
  refine blk (aL (fun r0 a w=>∃(i:Nat) ,r0=g.2.length - i∧i≤g.2.length∧Fr 88 a w [(2,E (ptr b2)),(5,E (.map (some bm))),(6,E (I j)),(7,E (I i))]∧Ext W w∧Blk w b2 #[u1,u2] 25∧SeR w bm (((esN g).take i).foldl rcS S0)∧N1≤w.heap.size) g.2.length ⟨0,rfl,by omega,hf,e,⟨B2,HS,hN1s⟩⟩ ?_)
  rintro r0 a w ⟨i,rfl,hi,hf,e,B2,HS,hN1s⟩
  repeat refine seq ?_
  refine rgN 5 hf <| st (mv rfl) <| st (fA U25 rfl T23 rfl) <| st (ld1 T23 rfl (by assumption) rfl) <| st (aD U23 (isE rfl (VA.st _ _ _ _ e h2))) <| st (lss rfl rfl) <| en fun a w e' hf=>?_
  obtain⟨HS,hN1s,e,B2⟩:=up4 e' HS hN1s e B2
  refine aa <| ifc hf rfl (fun hc=>ak ?_) (fun hc=>aK ?_)
  rotate_left
  rotate_left
  ·have hlti:i<g.2.length:=by have:=of_decide_eq_true hc;(try dsimp only at this);omega
   replace hf:=hf.keep [2,5,6,7]
   refine seq <| blk ?_
   have hg0:=List.getElem?_eq_getElem hlti
   generalize g.2[i]=x at hg0
   obtain⟨p,q,hx,hpq,hp,hq⟩:=gN ok x (List.mem_of_getElem? hg0)
   have hp1:=az hp
   have hq1:=az hq
   have hwp:(Lit.int .i64 (p:Int)).wf=true:=bK (by omega) (by omega)
   have hwq:(Lit.int .i64 (q:Int)).wf=true:=bK (by omega) (by omega)
   have hen:(esN g)[i]?=some (p,q):=by rw[esN,List.getElem?_map,hg0,Option.map_some,hx];rfl
   have hsc:((esN g).take (i+1)).foldl rcS S0=rcS (((esN g).take i).foldl rcS S0) (p,q):=by rw[bA hen,List.foldl_append];rfl
   obtain⟨x1,x2⟩:=x
   subst hx
   generalize ((esN g).take i).foldl rcS S0=S at hsc HS
   refine seq <| rgN 18 hf <| st (mv rfl) <| st (fA U25 rfl T23 rfl) <| st (ld1 T23 rfl (by assumption) rfl) <| st (mv rfl) <| st (aF U23 S51 (isE rfl (VA.st _ _ _ _ e h2)) rfl (by omega) (hg0)) <| st (aB U51 rfl T3 (by decide) (Fld.fst (Fld.fst Fld.refl)) (isR rfl)) <| st (ldI T3 (isR rfl)) <| st (ji U49 rfl HS rfl hp1) <| st (mv rfl) <| sgE rfl rfl (.k 5 rfl .n) (fun hgd=>mv rfl) <| sgE rfl rfl (.k 2 rfl .n) (fun hgd=>fA U25 rfl T23 rfl) <| sgE rfl rfl (.c 37 rfl (fun h=>h) .n) (fun hgd=>ld1 T23 rfl (by assumption) rfl) <| sgE rfl rfl (.k 7 rfl .n) (fun hgd=>mv rfl) <| sgE rfl rfl (.c 38 rfl (fun h=>h) (.c 39 rfl (fun h=>h) .n)) (fun hgd=>aF U23 S51 (isE rfl (VA.st _ _ _ _ e h2)) rfl rfl (hg0)) <| sgE rfl rfl (.c 40 rfl (fun h=>h) .n) (fun hgd=>aB U51 rfl T3 (by decide) (Fld.fst (Fld.snd Fld.refl rfl)) (isR rfl)) <| sgE rfl rfl (.c 41 rfl (fun h=>h) .n) (fun hgd=>ldI T3 (isR rfl)) <| sgE rfl rfl (.c 36 rfl (fun h=>h) (.c 42 rfl (fun h=>h) .n)) (fun hgd=>ji U49 rfl HS rfl hq1) <| st (bI rfl rfl (fun h=>by rw[h];rfl)) ?_
   refine en fun a w e' hf=>?_
   obtain⟨HS,hN1s,e,B2⟩:=up4 e' HS hN1s e B2
   refine aa <| ifc hf rfl (fun hb=>?_) (fun hb=>?_)
   ·rw[rcS,if_pos hb] at hsc
    replace hf:=hf.kp [2,5,6,7]
    obtain⟨l,HM,q2,q3⟩:=HS
    have hll:=nM HM q2
    have hlm:l.length<maxLen:=by simp only[maxLen];omega
    refine a3c 16 [2,0,0,0,0,0,0,1,0,0,0,0,0,2] [2,5,6,7,52,58] (Chg fun d=>d=bm) (bW.one _) (fun w=>True) (fun w=>MpR bKV w bm (l.length+1) (aV l (p:Int) true)) (fun w w1 k h=>trivial) (fun w w1 k h=>h.ext k) Mix.mix hf (by decide +kernel) (by decide +kernel) <| jk (mv rfl) <| ja (fA U25 rfl T23 rfl) <| ja (ld1 T23 rfl (by assumption) rfl) <| ja (mv rfl) <| ja (aF U23 S51 (isE rfl (VA.st _ _ _ _ e h2)) rfl (by omega) (hg0)) <| ja (aB U51 rfl T3 (by decide) (Fld.fst (Fld.fst Fld.refl)) (isR rfl)) <| ja (ldI T3 (isR rfl)) <| jf (fun w1 h1=>mv rfl) <| ja (fA U25 rfl T23 rfl) <| ja (ld1 T23 rfl (by assumption) rfl) <| ja (mv rfl) <| ja (aF U23 S51 (isE rfl (VA.st _ _ _ _ e h2)) rfl (by omega) (hg0)) <| ja (aB U51 rfl T3 (by decide) (Fld.fst (Fld.snd Fld.refl rfl)) (isR rfl)) <| jk (ldI T3 (isR rfl)) <| jx (enK (V:=bKV) (i:=(p:Int)) U49 nN rfl rfl HM hwp hlm) <| jp (fun w1 h1 HF1=>bj rfl rfl) <| je <| ⟨Any,fun o ho w1 h1 HF1=>?_,by dsimp only[push,keep,List.filterMap,aJ,Nat.beq,Option.map];infer_instance,fun a w hc HF hf=>?_⟩
    ·obtain rfl:=Option.some.inj ho
     exact esK (V:=bKV) (i:=(p:Int)) (c:=true) rfl rfl rfl trivial
    try dsimp only[push,keep,List.filterMap,aJ,Nat.beq,Option.map] at hf
    have HS:SeR w bm (ins S (p:Int)):=SeR.put hp1 HF q2 q3
    replace e:=e.ch hc (fun b hb=>by omega);replace B2:=B2.ch hc (fun h=>by omega);replace hN1s:=Nat.le_trans hN1s hc.size;clear hc HF HM q2 q3 hll hlm
    obtain⟨l,HM,q2,q3⟩:=HS
    have hll:=nM HM q2
    refine a2y (V:=bKV) (i:=(q:Int)) (c:=true) U49 nN hf rfl rfl (by decide) (by decide) (fun _ _=>rfl) (fun _ _=>rfl) HM (by simp only[maxLen];omega) hwq trivial fun a w v0 s9 hg HM hf=>?_
    have HS:SeR w bm (ins (ins S (p:Int)) (q:Int)):=SeR.put hq1 HM q2 q3
    replace e:=e.gr hg (by omega);replace B2:=B2.gr hg (by omega);replace hN1s:=Nat.le_trans hN1s hg.size;clear hg HM q2 q3 hll
    refine aa ?_
    rw[← hsc] at HS
    replace hf:=hf.kp [2,5,6,7]
    refine rgN 2 hf <| st (mv rfl) <| st ((add rfl rfl (by omega)).eq (congrArg (Value.int .i64) (show (i:Int)+1=((i+1:Nat):Int) from rfl))) <| en fun a w e' hf=>?_
    obtain⟨HS,hN1s,e,B2⟩:=up4 e' HS hN1s e B2
    refine tA hf rfl fun a hf=>aa ?_
    replace hf:=hf.keep [2,5,6,7]
    refine⟨_,?_,i+1,rfl,by omega,hf,e,?_⟩
    ·omega
    exact⟨B2,HS,hN1s⟩
   ·rw[rcS,if_neg (by rw[hb];decide)] at hsc
    rw[← hsc] at HS
    refine ak <| rgN 2 hf <| st (mv rfl) <| st ((add rfl rfl (by omega)).eq (congrArg (Value.int .i64) (show (i:Int)+1=((i+1:Nat):Int) from rfl))) <| en fun a w e' hf=>?_
    obtain⟨HS,hN1s,e,B2⟩:=up4 e' HS hN1s e B2
    refine tA hf rfl fun a hf=>aa ?_
    replace hf:=hf.keep [2,5,6,7]
    refine⟨_,?_,i+1,rfl,by omega,hf,e,?_⟩
    ·omega
    exact⟨B2,HS,hN1s⟩
  ·obtain rfl:i=g.2.length:=by have:=of_decide_eq_false hc;(try dsimp only at this);omega
   rw[List.take_of_length_le (Nat.le_of_eq hel),← hS1] at HS
   replace hf:=hf.keep [2,5,6]
   refine rgN 2 hf <| st (mv rfl) <| st ((add rfl rfl (by omega)).eq (congrArg (Value.int .i64) (show (j:Int)+1=((j+1:Nat):Int) from rfl))) <| en fun a w e' hf=>?_
   obtain⟨HS,hN1s,e,B2⟩:=up4 e' HS hN1s e B2
   refine tA hf rfl fun a hf=>aa ?_
   replace hf:=hf.keep [2,5,6]
   refine⟨_,?_,j+1,rfl,by omega,hf,e,?_⟩
   ·omega
   exact⟨B2,HS,hN1s⟩
 ·obtain rfl:j=g.1.length:=by have:=of_decide_eq_false hc;(try dsimp only at this);omega
  rw[hrch] at HS
  obtain⟨C,hC⟩:∃C,C=cpt (nbA g) a0:=⟨_,rfl⟩
  rw[← hC] at HS hids ⊢
  obtain⟨N2,hN2⟩:∃N2,N2=w.heap.size:=⟨_,rfl⟩
  have hN2s:N2≤w.heap.size:=Nat.le_of_eq hN2
  have h12:N1≤N2:=by omega
  have hKN:∀b,K b→b<N2:=fun b hb=>by have:=hK b hb;omega
  replace hf:=hf.keep [2,5]
  refine seq <| ac <| tA hf rfl fun a hf=>aa ?_
  repeat refine seq ?_
  refine ac <| tA hf rfl fun a hf=>aa ?_
  have Ho:OwR intE 3 N2 K w [] (.slice none 0 0):=OwR.nil intE _ hN2s hKN
  replace hf:=hf.kp [2,5,8,9]
  refine blk (aL (fun r0 a w=>∃(k:Nat) (u:Value),r0=g.1.length - k∧k≤g.1.length∧Fr 88 a w [(2,E (ptr b2)),(5,E (.map (some bm))),(8,E u),(9,E (I k))]∧Ext W w∧Blk w b2 #[u1,u2] 25∧SeR w bm C∧OwR intE 3 N2 K w (((bO g).take k).filter fun x=>has C x) u) g.1.length ⟨0,.slice none 0 0,rfl,by omega,hf,e,⟨B2,HS,Ho⟩⟩ ?_)
  rintro r0 a w ⟨k,u,rfl,hk,hf,e,B2,HS,Ho⟩
  repeat refine seq ?_
  refine rgN 5 hf <| st (mv rfl) <| st (fA U25 rfl T22 rfl) <| st (ld1 T22 rfl (by assumption) rfl) <| st (aD U22 (isE rfl (VA.st _ _ _ _ e h1))) <| st (lss rfl rfl) <| en fun a w e' hf=>?_
  obtain⟨HS,e,B2,Ho⟩:=up4 e' HS e B2 Ho
  refine aa <| ifc hf rfl (fun hc=>ak ?_) (fun hc=>aK ?_)
  rotate_left
  rotate_left
  ·have hlt:k<g.1.length:=by have:=of_decide_eq_true hc;(try dsimp only at this);omega
   replace hf:=hf.kp [2,5,8,9]
   refine seq <| blk ?_
   have hg0:=List.getElem?_eq_getElem hlt
   generalize g.1[k]=x at hg0
   obtain⟨n,hn,hnb,hn1⟩:∃n:Nat,x.1=(n:Int)∧n<1024∧True:=by
    have h3:=(kL ok).1 (List.mem_map.2 ⟨x,List.mem_of_getElem? hg0,rfl⟩)
    obtain⟨u,h4,h5⟩:=h3
    exact⟨u,h4,az h5,trivial⟩
   have hik:(bO g)[k]?=some (n:Int):=by rw[bO,List.getElem?_map,hg0,Option.map_some,hn]
   obtain⟨x1,x2⟩:=x
   subst hn
   have hsc:((bO g).take (k+1)).filter (fun x=>has C x)=((bO g).take k).filter (fun x=>has C x)++(if C.getLsbD n=true then [(n:Int)] else []):=by
    have hs1:[(n:Int)].filter (fun x=>has C x)=if C.getLsbD n=true then [(n:Int)] else []:=by
     cases hh:has C (n:Int) with
     | true=>rw[List.filter_cons_of_pos hh,List.filter_nil,if_pos ((bT C n).1 hh)]
     | false=>rw[List.filter_cons_of_neg (by rw[hh];decide),List.filter_nil,if_neg (fun h=>by rw[(bT C n).2 h] at hh;cases hh)]
    rw[bA hik,List.filter_append,hs1]
   have hol:(((bO g).take k).filter fun x=>has C x).length≤100000:=Nat.le_trans (List.length_filter_le _ _) (Nat.le_trans (List.length_take_le' _ _) (by rw[bO,List.length_map];exact hl1))
   generalize ((bO g).take k).filter (fun x=>has C x)=out at hsc hol Ho
   refine seq <| rgN 8 hf <| st (mv rfl) <| st (fA U25 rfl T22 rfl) <| st (ld1 T22 rfl (by assumption) rfl) <| st (mv rfl) <| st (aF U22 S45 (isE rfl (VA.st _ _ _ _ e h1)) rfl (by omega) (hg0)) <| st (aB U45 rfl T3 (by decide) (Fld.fst Fld.refl) (isR rfl)) <| st (ldI T3 (isR rfl)) <| st (ji U49 rfl HS rfl hnb) <| en fun a w e' hf=>?_
   obtain⟨HS,e,B2,Ho⟩:=up4 e' HS e B2 Ho
   refine aa <| ifc hf rfl (fun hb=>?_) (fun hb=>?_)
   ·rw[if_pos hb] at hsc
    replace hf:=hf.kp [2,5,8,9]
    have n1:=Ho.neLt (b:=b2) (by omega)
    have n2:=Ho.neLt (b:=bm) (by omega)
    refine rgN 8 hf <| st (mv rfl) <| st (fA U25 rfl T22 rfl) <| st (ld1 T22 rfl (by assumption) rfl) <| st (mv rfl) <| st (aF U22 S45 (isE rfl (VA.st _ _ _ _ e h1)) rfl (by omega) (hg0)) <| st (aB U45 rfl T3 (by decide) (Fld.fst Fld.refl) (isR rfl)) <| st (ldI T3 (isR rfl)) <| st (aY U35 I3 rfl (by decide) rfl Ho.avs (isI rfl)) <| en fun a w e' hf=>?_
    obtain⟨HS,Ho,e,B2⟩:=up4 e' HS Ho e B2
    haveI hin:∀G0,InR (GB W G0) _:=OwR.inGB (W:=W) Ho (by omega)
    refine bE U35 I3 rfl rfl hf (by decide) rfl Ho (isR rfl) (by simp only[List.length_singleton];omega) (by simp only[List.length_singleton,maxLen];omega) fun a v w hg hat Hn hf=>?_
    replace e:=e.gro hg (Ho.row (W:=W) (by omega))
    have hrow:=Ho.row (W:=W) (by omega)
    replace HS:=HS.gr hg (Ne.symm n2)
    replace Ho:=Hn
    replace B2:=B2.gro hg (by assumption)
    replace Ho:=Hn;clear Hn hg hat hin
    refine tA hf rfl fun a hf=>aa ?_
    rw[← hsc] at Ho
    refine rgN 2 hf <| st (mv rfl) <| st ((add rfl rfl (by omega)).eq (congrArg (Value.int .i64) (show (k:Int)+1=((k+1:Nat):Int) from rfl))) <| en fun a w e' hf=>?_
    obtain⟨HS,Ho,e,B2⟩:=up4 e' HS Ho e B2
    refine tA hf rfl fun a hf=>aa ?_
    replace hf:=hf.keep [2,5,8,9]
    refine⟨_,?_,k+1,_,rfl,by omega,hf,e,?_⟩
    ·omega
    exact⟨B2,HS,Ho⟩
   ·rw[if_neg (by rw[hb];decide),List.append_nil] at hsc
    rw[← hsc] at Ho
    refine ak <| rgN 2 hf <| st (mv rfl) <| st ((add rfl rfl (by omega)).eq (congrArg (Value.int .i64) (show (k:Int)+1=((k+1:Nat):Int) from rfl))) <| en fun a w e' hf=>?_
    obtain⟨HS,Ho,e,B2⟩:=up4 e' HS Ho e B2
    refine tA hf rfl fun a hf=>aa ?_
    replace hf:=hf.keep [2,5,8,9]
    refine⟨_,?_,k+1,_,rfl,by omega,hf,e,?_⟩
    ·omega
    exact⟨B2,HS,Ho⟩
  ·obtain rfl:k=g.1.length:=by have:=of_decide_eq_false hc;(try dsimp only at this);omega
   rw[show (bO g).take g.1.length=bO g from List.take_of_length_le (by rw[bO,List.length_map];exact Nat.le_refl _),hids] at Ho
   replace hf:=hf.keep [8]
   refine seq <| rgN 1 hf <| st (mv rfl) <| en fun a w e' hf=>?_
   obtain⟨Ho,e⟩:=up2 e' Ho e
   refine tA hf rfl fun a hf=>aa <| am <| an rfl hf rfl ?_
   rintro _ rfl
   exact⟨_,rfl,e,Ho.sl⟩
theorem jj {g:GT}(ok:Gr.Ok g){k:Nat}{x:VT}(h:g.1[k]?=some x):∃n:Nat,x.1=(n:Int)∧(aj g.1).getLsbD n=true∧(ah (aj g.1))[k]?=some n:=by
 obtain⟨n,h4,h5⟩:=(kL ok).1 (List.mem_map.2 ⟨x,List.mem_of_getElem? h,rfl⟩)
 refine⟨n,h4,h5,?_⟩
 have h1:(ai (ah (aj g.1)))[k]?=some (n:Int):=by rw[kM ok,bO,List.getElem?_map,h,Option.map_some,h4]
 rw[ai,List.getElem?_map] at h1
 cases he:(ah (aj g.1))[k]? with
 | none=>rw[he] at h1;cases h1
 | some m=>
  rw[he] at h1
  have h6:(m:Int)=(n:Int):=Option.some.inj h1
  rw[show m=n by omega]
theorem eJ {g:GT}(ok:Gr.Ok g):(ah (aj g.1)).length=g.1.length:=by rw[cF,nk ok]
theorem a3f {g:GT}{a:Nat}(ha:a<1024):∃m,aI (cpt (nbA g) a)=some m:=by
 cases h:aI (cpt (nbA g) a) with
 | some m=>exact⟨m,rfl⟩
 | none=>
  have:=eH (nb:=nbA g) ha
  rw[dm.1 h] at this
  exact absurd this (aS a)
theorem a3g {G:Nat→Prop}(g:GT)(ok:Gr.Ok g)(v:Value)(W:World)(h:(Dv gtE G g).p v W)(hl1:g.1.length≤100000)(hl2:g.2.length≤100000){K:Nat→Prop}(hK:∀b,K b→b<W.heap.size) :
  Calls Tryz.prog 27 #[v] W (Post (Dv (slE (slE intE)) K (ptF g)) W):=by
 have hg0:(Dv gtE G0 g).p v W:=Dv.weak h fun b _ hb=>hb.elim
 obtain⟨u1,u2,rfl,h1,h2⟩:=Dv.gt.1 (Dv.weak (G':=G0) h fun b _ hb=>hb.elim)
 replace h1:=Dv.toB h1
 replace h2:=Dv.toB h2
 refine eN [.agg #[u1,u2]] [E (.agg #[u1,u2])] Tryz.func27 Tryz.ntmps27 ?_ fun a hf=>?_
 rotate_left
 rotate_right
 ·exact arg1 rfl
 have e:=Ext.rfl' W
 have hK0:=hK
 refine seq <| ac <| tB hf rfl fun a b1 w v1 hv1 e' hb1 hs1 B1 hf=>?_
 replace e:=e.tr e'
 refine tA hf rfl fun a hf=>aa ?_
 cases hv1
 have l1:=B1.lt
 obtain⟨N1,hN1⟩:∃N1,N1=w.heap.size:=⟨_,rfl⟩
 have hN1s:N1≤w.heap.size:=Nat.le_of_eq hN1
 have hWN:W.heap.size≤N1:=by rw[hN1];exact e.size
 have lb1:b1<N1:=by rw[hN1];exact l1
 have hKN:∀b,K b→b<N1:=fun b hb=>Nat.lt_of_lt_of_le (hK b hb) hWN
 replace hf:=hf.keep [1]
 refine seq <| ac <| tA hf rfl fun a hf=>aa ?_
 repeat refine seq ?_
 refine ac <| tA hf rfl fun a hf=>aa ?_
 obtain⟨V,hV⟩:∃V,V=aj g.1:=⟨_,rfl⟩
 obtain⟨p,hp⟩:∃p:Nat→Bool,p=fun v=>decide (aI (cpt (nbA g) v)=some v):=⟨_,rfl⟩
 obtain⟨F,hF⟩:∃F:Nat→List Int,F=fun v=>elL (cpt (nbA g) v):=⟨_,rfl⟩
 have hpt:ptF g=((ah (aj g.1)).filter p).map F:=by rw[hp,hF,ptF]
 have hvl:=eJ ok
 have Ho:OwR (slE intE) 35 N1 K w ([]:List (List Int)) (.slice none 0 0):=OwR.nil (slE intE) _ hN1s hKN
 replace hf:=hf.keep [1,3,4]
 refine blk (aL (fun r0 a w=>∃(k:Nat) (u:Value),r0=g.1.length - k∧k≤g.1.length∧Fr 36 a w [(1,E (ptr b1)),(3,E u),(4,E (I k))]∧Ext W w∧Blk w b1 #[u1,u2] 25∧OwR (slE intE) 35 N1 K w ((((ah (aj g.1)).take k).filter p).map F) u) g.1.length ⟨0,.slice none 0 0,rfl,by omega,hf,e,⟨B1,Ho⟩⟩ ?_)
 rintro r0 a w ⟨k,u,rfl,hk,hf,e,B1,Ho⟩
 repeat refine seq ?_
 refine rgN 5 hf <| st (mv rfl) <| st (fA U25 rfl T22 rfl) <| st (ld1 T22 rfl (by assumption) rfl) <| st (aD U22 (isE rfl (VA.st _ _ _ _ e h1))) <| st (lss rfl rfl) <| en fun a w e' hf=>?_
 obtain⟨e,B1,Ho⟩:=up3 e' e B1 Ho
 refine aa <| ifc hf rfl (fun hc=>ak ?_) (fun hc=>aK ?_)
 rotate_left
 rotate_left
 ·have hlt:k<g.1.length:=by have:=of_decide_eq_true hc;(try dsimp only at this);omega
  replace hf:=hf.keep [1,3,4]
  refine seq <| blk ?_
  have hg0':=List.getElem?_eq_getElem hlt
  generalize g.1[k]=x at hg0'
  obtain⟨n,hn,hnV,hen⟩:=jj ok hg0'
  have hn1:=az hnV
  obtain⟨x1,x2⟩:=x
  subst hn
  obtain⟨m,hm⟩:=a3f (g:=g) hn1
  have hm1:=az (dZ.1 hm).2.1
  have h0:(F n)[0]?=some (m:Int):=by rw[hF];show (ai (ah _))[0]?=_;rw[nB,hm];rfl
  have hpm:p n=decide (m=n):=by rw[hp];show decide (aI (cpt (nbA g) n)=some n)=_;rw[hm];simp
  have hsc:((((ah (aj g.1)).take (k+1)).filter p).map F)=((((ah (aj g.1)).take k).filter p).map F)++(if p n=true then [F n] else []):=by
   have hs1:[n].filter p=if p n=true then [n] else []:=by
    cases hh:p n with
    | true=>rw[List.filter_cons_of_pos hh,List.filter_nil,if_pos rfl]
    | false=>rw[List.filter_cons_of_neg (by rw[hh];decide),List.filter_nil,if_neg (by decide)]
   rw[bA hen,List.filter_append,hs1,List.map_append]
   split <;> rfl
  have hol:((((ah (aj g.1)).take k).filter p).map F).length≤100000:=by
   rw[List.length_map]
   exact Nat.le_trans (List.length_filter_le _ _) (Nat.le_trans (List.length_take_le' _ _) (by rw[hvl];exact hl1))
  have hFn:F n=elL (cpt (nbA g) n):=by rw[hF]
  have hwm:(Lit.int .i64 (m:Int)).wf=true:=bK (by omega) (by omega)
  generalize ((((ah (aj g.1)).take k).filter p).map F)=out at hsc hol Ho
  generalize F n=Fn at hsc hFn h0
  obtain⟨N2,hN2⟩:∃N2,N2=w.heap.size:=⟨_,rfl⟩
  have hN2s:N2≤w.heap.size:=Nat.le_of_eq hN2
  have hown:∀b,GO K u b→b<N2:=fun b hb=>by
   rcases hb with hb|hb
   ·have:=hKN b hb;have:=Ho.base;omega
   ·have:=(Ho.lt hb).2;omega
  have e5:=e
  refine seq <| rgG 8 Mix.mix hf <| st ((ldW T25 rfl B1 rfl).eq ((rfl:_=Value.agg #[u1,u2]))) <| st (fA U25 rfl T22 rfl) <| st (ld1 T22 rfl B1 rfl) <| st (mv rfl) <| st (aF U22 S45 (isE rfl (VA.st _ _ _ _ e h1)) rfl (by omega) (hg0')) <| st (aB U45 rfl T3 (by decide) (Fld.fst Fld.refl) (isR rfl)) <| st (ldI T3 (isR rfl)) <| st (ap (A:=Dv (slE intE) (fun b=>b<N2) Fn) pD rfl rfl (fun v u w he k1 k2=>by cases k1;cases k2;rw[hFn];exact tV g ok n hnV _ w (VA.st _ _ _ _ (Ext.tr e5 he) hg0) hl1 hl2 (fun b hb=>Nat.lt_of_lt_of_le hb (Nat.le_trans hN2s he.size)))) ?_
  refine en fun a w e' hf=>?_
  obtain⟨hN2s,e,B1,Ho⟩:=up4 e' hN2s e B1 Ho
  refine tA hf rfl fun a hf=>aa ?_
  replace hf:=hf.keep [1,3,4,5]
  replace hf:=hf.upd 5 rfl (B:=Dv (slE intE) (GO K u) Fn) (fun v h=>Dv.weak h fun b _ hb=>hown b hb)
  refine seq <| rgG 10 Mix.mix hf <| st (mv rfl) <| st (aF (j:=0) U35 S3 (isR rfl) rfl rfl h0) <| st (ldI T3 (isR rfl)) <| st (fA U25 rfl T22 rfl) <| st (ld1 T22 rfl B1 rfl) <| st (mv rfl) <| st (aF U22 S45 (isE rfl (VA.st _ _ _ _ e h1)) rfl (by omega) (hg0')) <| st (aB U45 rfl T3 (by decide) (Fld.fst Fld.refl) (isR rfl)) <| st (ldI T3 (isR rfl)) <| st (eql rfl rfl) <| en fun a w e' hf=>?_
  obtain⟨e,B1,Ho⟩:=up3 e' e B1 Ho
  refine aa <| ifc hf rfl (fun hb=>?_) (fun hb=>?_)
  ·have hpn:p n=true:=by rw[hpm];exact decide_eq_true (by have:=of_decide_eq_true (show decide ((m:Int)=(n:Int))=true by simpa using hb);omega)
   rw[if_pos hpn] at hsc
   replace hf:=hf.kp [1,3,4,5]
   have n1:=Ho.neLt (b:=b1) (by omega)
   refine rgN 3 hf <| st (mv rfl) <| st (mv rfl) <| st (aY U39 I35 rfl (by decide) rfl Ho.avs (isR rfl)) <| en fun a w e' hf=>?_
   obtain⟨Ho,e,B1⟩:=up3 e' Ho e B1
   haveI hin:∀G0,InR (GB W G0) _:=OwR.inGB (W:=W) Ho hWN
   refine bE U39 I35 rfl rfl hf (by decide) rfl Ho (isR rfl) (by simp only[List.length_singleton];omega) (by simp only[List.length_singleton,maxLen];omega) fun a v w hg hat Hn hf=>?_
   replace e:=e.gro hg (Ho.row (W:=W) hWN)
   have hrow:=Ho.row (W:=W) hWN
   replace Ho:=Hn
   replace B1:=B1.gro hg (by assumption)
   replace Ho:=Hn;clear Hn hg hat hin
   refine tA hf rfl fun a hf=>aa ?_
   rw[← hsc] at Ho
   refine rgN 2 hf <| st (mv rfl) <| st ((add rfl rfl (by omega)).eq (congrArg (Value.int .i64) (show (k:Int)+1=((k+1:Nat):Int) from rfl))) <| en fun a w e' hf=>?_
   obtain⟨Ho,e,B1⟩:=up3 e' Ho e B1
   refine tA hf rfl fun a hf=>aa ?_
   replace hf:=hf.keep [1,3,4]
   refine⟨_,?_,k+1,_,rfl,by omega,hf,e,?_⟩
   ·omega
   exact⟨B1,Ho⟩
  ·have hpn:¬p n=true:=by rw[hpm];simp at hb ⊢;omega
   rw[if_neg hpn,List.append_nil] at hsc
   rw[← hsc] at Ho
   refine ak <| rgN 2 hf <| st (mv rfl) <| st ((add rfl rfl (by omega)).eq (congrArg (Value.int .i64) (show (k:Int)+1=((k+1:Nat):Int) from rfl))) <| en fun a w e' hf=>?_
   obtain⟨Ho,e,B1⟩:=up3 e' Ho e B1
   refine tA hf rfl fun a hf=>aa ?_
   replace hf:=hf.keep [1,3,4]
   refine⟨_,?_,k+1,_,rfl,by omega,hf,e,?_⟩
   ·omega
   exact⟨B1,Ho⟩
 ·obtain rfl:k=g.1.length:=by have:=of_decide_eq_false hc;(try dsimp only at this);omega
  rw[show (ah (aj g.1)).take g.1.length=ah (aj g.1) from List.take_of_length_le (Nat.le_of_eq hvl),← hpt] at Ho
  replace hf:=hf.keep [3]
  refine seq <| rgN 1 hf <| st (mv rfl) <| en fun a w e' hf=>?_
  obtain⟨Ho,e⟩:=up2 e' Ho e
  refine tA hf rfl fun a hf=>aa <| am <| an rfl hf rfl ?_
  rintro _ rfl
  exact⟨_,rfl,e,Ho.sl⟩
theorem a3h {g:GT}(ok:Gr.Ok g)(a:Int):decide (ct g.1 a ≥ 0)=has (aj g.1) a:=by
 have h1:=a1m ok (v:=a)
 cases hh:has (aj g.1) a with
 | false=>rw[hh] at h1;exact decide_eq_false (by have:=h1.2 rfl;omega)
 | true=>rw[hh] at h1;exact decide_eq_true (Classical.byContradiction fun hn=>by have:=h1.1 (by omega);cases this)
theorem jl {G:Nat→Prop}(g:GT)(ok:Gr.Ok g)(a0:Int)(v:Value)(W:World)(h:(Dv gtE G g).p v W)(hl1:g.1.length≤100000) :
  Calls Tryz.prog 82 #[v,I a0] W (Post (E (B (has (aj g.1) a0))) W):=by
 have hg0:(Dv gtE G0 g).p v W:=Dv.weak h fun b _ hb=>hb.elim
 obtain⟨u1,u2,rfl,h1,h2⟩:=Dv.gt.1 (Dv.weak (G':=G0) h fun b _ hb=>hb.elim)
 have hfh:=a3h ok a0
 refine eN [.agg #[u1,u2],I a0] [E (.agg #[u1,u2]),E (I a0)] Tryz.func82 Tryz.ntmps82 ?_ fun a hf=>?_
 rotate_left
 rotate_right
 ·exact arg2 rfl rfl
 have e:=Ext.rfl' W
 refine seq <| ac <| tB hf rfl fun a b2 w v2 hv2 e' hb2 hs2 B2 hf=>?_
 replace e:=e.tr e'
 refine tA hf rfl fun a hf=>aa ?_
 cases hv2
 replace hf:=hf.keep [1,2]
 have e1:=e
 refine seq <| rgN 4 hf <| st ((ldW T25 rfl B2 rfl).eq ((rfl:_=Value.agg #[u1,u2]))) <| st (mv rfl) <| st (ap (A:=E (I (ct g.1 a0))) jT rfl rfl (fun v u w he k1 k2=>by cases k1;cases k2;exact qa g a0 _ w (VA.st _ _ _ _ (Ext.tr e1 he) hg0) hl1)) ?_
 refine st (geq rfl rfl) <| en fun a w e' hf=>?_
 obtain⟨e,B2⟩:=up2 e' e B2
 refine tA hf rfl fun a hf=>aa <| am <| an rfl hf rfl ?_
 rintro _ rfl
 exact⟨_,rfl,e,congrArg B (by rw[← hfh])⟩
theorem jm {G:Nat→Prop}(xs:List Int)(n:Int)(v:Value)(W:World)(h:(Dv (slE intE) G xs).p v W)(hl:xs.length≤100000) :
  Calls Tryz.prog 77 #[v,I n] W (Post (E (B (decide (n∈xs)))) W):=by
 refine eN [v,I n] [Dv (slE intE) G0 xs,E (I n)] Tryz.func77 Tryz.ntmps77 ?_ fun a hf=>?_
 rotate_left
 rotate_right
 ·exact arg2 (Dv.weak h fun b _ hb=>hb.elim) rfl
 have e:=Ext.rfl' W
 refine seq <| ac <| tA hf rfl fun a hf=>aa ?_
 repeat refine seq ?_
 refine ac <| tA hf rfl fun a hf=>aa ?_
 replace hf:=hf.keep [0,1,5]
 refine blk (aL (fun r0 a w=>∃(k:Nat) ,r0=xs.length - k∧k≤xs.length∧Fr 18 a w [(0,Dv (slE intE) G0 xs),(1,E (I n)),(5,E (I k))]∧Ext W w∧(∀y∈xs.take k,y≠n)) xs.length ⟨0,rfl,by omega,hf,e,(by simp)⟩ ?_)
 rintro r0 a w ⟨k,rfl,hk,hf,e,hn⟩
 repeat refine seq ?_
 refine rgN 4 hf <| st (mv rfl) <| st (mv rfl) <| st (aD U35 (isR rfl)) <| st (lss rfl rfl) <| en fun a w e' hf=>?_
 replace e:=e.tr e'
 refine aa <| ifc hf rfl (fun hc=>ak ?_) (fun hc=>aK ?_)
 rotate_left
 rotate_left
 ·have hlt:k<xs.length:=by have:=of_decide_eq_true hc;(try dsimp only at this);omega
  replace hf:=hf.keep [0,1,5]
  refine seq <| blk ?_
  have hx:=cw hlt
  refine seq <| rgN 6 hf <| st (mv rfl) <| st (mv rfl) <| st (aF U35 S3 (isR rfl) rfl (by omega) (hx)) <| st (ldI T3 (isR rfl)) <| st (mv rfl) <| st (eql rfl rfl) <| en fun a w e' hf=>?_
  replace e:=e.tr e'
  refine aa <| ifc hf rfl (fun hb=>?_) (fun hb=>?_)
  ·have hm:n∈xs:=by
    have:gi xs k=n:=by simpa using hb
    rw[← this];exact List.mem_of_getElem? hx
   refine seq <| ac <| tA hf rfl fun a hf=>aa <| am <| an rfl hf rfl ?_
   rintro _ rfl
   exact⟨_,rfl,e,congrArg B (decide_eq_true hm).symm⟩
  ·refine ak <| rgN 2 hf <| st (mv rfl) <| st ((add rfl rfl (by omega)).eq (congrArg (Value.int .i64) (show (k:Int)+1=((k+1:Nat):Int) from rfl))) <| en fun a w e' hf=>?_
   replace e:=e.tr e'
   refine tA hf rfl fun a hf=>aa ?_
   replace hf:=hf.keep [0,1,5]
   refine⟨_,?_,k+1,rfl,by omega,hf,e,?_⟩
   ·omega
   intro y hy
   rw[bA hx] at hy
   rcases List.mem_append.1 hy with hy|hy
   ·exact hn y hy
   ·rw[List.mem_singleton.1 hy];simpa using hb
 ·obtain rfl:k=xs.length:=by have:=of_decide_eq_false hc;(try dsimp only at this);omega
  have hm:¬n∈xs:=fun hm=>hn n (by rw[List.take_length];exact hm) rfl
  refine seq <| ac <| tA hf rfl fun a hf=>aa <| am <| an rfl hf rfl ?_
  rintro _ rfl
  exact⟨_,rfl,e,congrArg B (decide_eq_false hm).symm⟩
def jnF (g:GT)(a b:Int):Bool:=has (aj g.1) a&&has (aj g.1) b&&has (cpt (nbA g) a.toNat) b
theorem nO (C:BS)(b:Int):decide (b∈elL C)=has C b:=by
 cases hh:has C b with
 | true=>
  obtain⟨n,rfl,h⟩:=ej hh
  exact decide_eq_true (List.mem_map.2 ⟨n,aC.2 ⟨az h,h⟩,rfl⟩)
 | false=>
  refine decide_eq_false fun hm=>?_
  obtain⟨n,hn,rfl⟩:=List.mem_map.1 hm
  have:=(bT C n).2 (aC.1 hn).2
  rw[show has C (n:Int)=false from hh] at this;cases this
theorem a3i {G:Nat→Prop}(g:GT)(ok:Gr.Ok g)(a0 c0:Int)(v:Value)(W:World)(h:(Dv gtE G g).p v W)(hl1:g.1.length≤100000)(hl2:g.2.length≤100000) :
  Calls Tryz.prog 29 #[v,I a0,I c0] W (Post (E (B (jnF g a0 c0))) W):=by
 have hg0:(Dv gtE G0 g).p v W:=Dv.weak h fun b _ hb=>hb.elim
 obtain⟨u1,u2,rfl,h1,h2⟩:=Dv.gt.1 (Dv.weak (G':=G0) h fun b _ hb=>hb.elim)
 refine eN [.agg #[u1,u2],I a0,I c0] [E (.agg #[u1,u2]),E (I a0),E (I c0)] Tryz.func29 Tryz.ntmps29 ?_ fun a hf=>?_
 rotate_left
 rotate_right
 ·exact dj rfl rfl rfl
 have e:=Ext.rfl' W
 refine seq <| ac <| tB hf rfl fun a b3 w v3 hv3 e' hb3 hs3 B3 hf=>?_
 replace e:=e.tr e'
 refine tA hf rfl fun a hf=>aa ?_
 cases hv3
 replace hf:=hf.keep [1,2,3]
 have e1:=e
 rw[jnF]
 cases ha:has (aj g.1) a0 with
 | false=>
  refine seq <| rgN 15 hf <| st ((ldW T25 rfl B3 rfl).eq ((rfl:_=Value.agg #[u1,u2]))) <| st (mv rfl) <| st (ap (A:=E (B false)) iv rfl rfl (fun v u w he k1 k2=>by cases k1;cases k2;rw[← ha];exact jl g ok a0 _ w (VA.st _ _ _ _ (Ext.tr e1 he) hg0) hl1)) ?_
  refine st (mv rfl) <| sn rfl rfl rfl <| sn rfl rfl rfl <| sn rfl rfl rfl <| st (pkF rfl rfl) <| st (mv rfl) <| sn rfl rfl rfl <| sn rfl rfl rfl <| sn rfl rfl rfl <| sn rfl rfl rfl <| sn rfl rfl rfl <| st (pkF rfl rfl) <| en fun a w e' hf=>?_
  obtain⟨e,B3⟩:=up2 e' e B3
  refine tA hf rfl fun a hf=>aa <| am <| an rfl hf rfl ?_
  rintro _ rfl
  exact⟨_,rfl,e,rfl⟩
 | true=>
  cases hc:has (aj g.1) c0 with
  | false=>
   refine seq <| rgN 15 hf <| st ((ldW T25 rfl B3 rfl).eq ((rfl:_=Value.agg #[u1,u2]))) <| st (mv rfl) <| st (ap (A:=E (B true)) iv rfl rfl (fun v u w he k1 k2=>by cases k1;cases k2;rw[← ha];exact jl g ok a0 _ w (VA.st _ _ _ _ (Ext.tr e1 he) hg0) hl1)) ?_
   refine st (mv rfl) <| sy rfl rfl ((ldW T25 rfl B3 rfl).eq ((rfl:_=Value.agg #[u1,u2]))) <| sy rfl rfl (mv rfl) <| sy rfl rfl (ap (A:=E (B false)) iv rfl rfl (fun v u w he k1 k2=>by cases k1;cases k2;rw[← hc];exact jl g ok c0 _ w (VA.st _ _ _ _ (Ext.tr e1 he) hg0) hl1)) ?_
   refine st (pkT rfl rfl) <| st (mv rfl) <| sn rfl rfl rfl <| sn rfl rfl rfl <| sn rfl rfl rfl <| sn rfl rfl rfl <| sn rfl rfl rfl <| st (pkF rfl rfl) <| en fun a w e' hf=>?_
   obtain⟨e,B3⟩:=up2 e' e B3
   refine tA hf rfl fun a hf=>aa <| am <| an rfl hf rfl ?_
   rintro _ rfl
   exact⟨_,rfl,e,rfl⟩
  | true=>
   obtain⟨n,rfl,hn⟩:=ej ha
   refine seq <| rgN 15 hf <| st ((ldW T25 rfl B3 rfl).eq ((rfl:_=Value.agg #[u1,u2]))) <| st (mv rfl) <| st (ap (A:=E (B true)) iv rfl rfl (fun v u w he k1 k2=>by cases k1;cases k2;rw[← ha];exact jl g ok _ _ w (VA.st _ _ _ _ (Ext.tr e1 he) hg0) hl1)) ?_
   refine st (mv rfl) <| sy rfl rfl ((ldW T25 rfl B3 rfl).eq ((rfl:_=Value.agg #[u1,u2]))) <| sy rfl rfl (mv rfl) <| sy rfl rfl (ap (A:=E (B true)) iv rfl rfl (fun v u w he k1 k2=>by cases k1;cases k2;rw[← hc];exact jl g ok c0 _ w (VA.st _ _ _ _ (Ext.tr e1 he) hg0) hl1)) ?_
   refine st (pkT rfl rfl) <| st (mv rfl) <| sy rfl rfl ((ldW T25 rfl B3 rfl).eq ((rfl:_=Value.agg #[u1,u2]))) <| sy rfl rfl (mv rfl) <| sy rfl rfl (ap (A:=Dv (slE intE) G0 (elL (cpt (nbA g) n))) pD rfl rfl (fun v u w he k1 k2=>by cases k1;cases k2;exact tV g ok n hn _ w (VA.st _ _ _ _ (Ext.tr e1 he) hg0) hl1 hl2 (fun b hb=>hb.elim))) ?_
   refine sy rfl rfl (mv rfl) <| sy rfl rfl (ap (A:=E (B (has (cpt (nbA g) n) c0))) (B:=Dv (slE intE) G0 (elL (cpt (nbA g) n))) (C:=E (I c0)) gw rfl rfl (fun v u w he k1 k2=>by cases k2;rw[← nO];exact jm _ c0 v w k1 (Nat.le_trans (kQ _) (by decide)))) ?_
   refine st (pkT rfl rfl) <| en fun a w e' hf=>?_
   obtain⟨e,B3⟩:=up2 e' e B3
   refine tA hf rfl fun a hf=>aa <| am <| an rfl hf rfl ?_
   rintro _ rfl
   exact⟨_,rfl,e,rfl⟩
theorem tW {G:Nat→Prop}(g:GT)(ok:Gr.Ok g)(p q:Nat)(v:Value)(W:World)(h:(Dv gtE G g).p v W)(hl2:g.2.length≤100000) :
  Calls Tryz.prog 119 #[v,I (p:Nat),I (q:Nat)] W (Post (E (B ((nbA g (p:Int)).getLsbD q))) W):=by
 have hg0:(Dv gtE G0 g).p v W:=Dv.weak h fun b _ hb=>hb.elim
 obtain⟨u1,u2,rfl,h1,h2⟩:=Dv.gt.1 (Dv.weak (G':=G0) h fun b _ hb=>hb.elim)
 have hfh:decide (cS g.2 (p:Int) (q:Int) ≥ 0)=(nbA g (p:Int)).getLsbD q:=by
  have h1:=a0P ok p q
  have h2:=cm ok (i:=p) (j:=q)
  cases hh:(nbA g (p:Int)).getLsbD q with
  | true=>exact decide_eq_true (h1.2 (h2.1 hh))
  | false=>exact decide_eq_false fun h=>by rw[h2.2 (h1.1 h)] at hh;cases hh
 refine eN [.agg #[u1,u2],I (p:Nat),I (q:Nat)] [E (.agg #[u1,u2]),E (I (p:Nat)),E (I (q:Nat))] Tryz.func119 Tryz.ntmps119 ?_ fun a hf=>?_
 rotate_left
 rotate_right
 ·exact dj rfl rfl rfl
 have e:=Ext.rfl' W
 refine seq <| ac <| tB hf rfl fun a b3 w v3 hv3 e' hb3 hs3 B3 hf=>?_
 replace e:=e.tr e'
 refine tA hf rfl fun a hf=>aa ?_
 cases hv3
 replace hf:=hf.keep [1,2,3]
 have e1:=e
 refine seq <| rgN 5 hf <| st ((ldW T25 rfl B3 rfl).eq ((rfl:_=Value.agg #[u1,u2]))) <| st (mv rfl) <| st (mv rfl) <| st (bZ (A:=E (I (cS g.2 (p:Int) (q:Int)))) jS rfl rfl rfl (fun v u s w he k1 k2 k3=>by cases k1;cases k2;cases k3;exact mu g _ _ _ w (VA.st _ _ _ _ (Ext.tr e1 he) hg0) hl2)) ?_
 refine st (geq rfl rfl) <| en fun a w e' hf=>?_
 obtain⟨e,B3⟩:=up2 e' e B3
 refine tA hf rfl fun a hf=>aa <| am <| an rfl hf rfl ?_
 rintro _ rfl
 exact⟨_,rfl,e,congrArg B (by rw[← hfh])⟩
section
variable {nb:Int→BS}{ids:List Nat}{b f:Nat}{way:List Nat}
theorem a3j (h:way.getLastD 0=b):wyF nb ids b f way=some way:=by cases f <;> rw[wyF,if_pos h]
theorem a3k (h:way.getLastD 0≠b):wyF nb ids b 0 way=none:=by rw[wyF,if_neg h]
theorem a3l (h:way.getLastD 0≠b):wyF nb ids b (f+1) way=ids.foldl (wyS nb (wyF nb ids b f) way) none:=by rw[wyF,if_neg h]
end
theorem a3m (g:GT)(ok:Gr.Ok g)(hl1:g.1.length≤100000)(hl2:g.2.length≤100000)(b0:Nat):∀(f:Nat) (way:List Nat) (v u:Value) (G K:Nat→Prop) (W:World),(∀b,K b→b<W.heap.size)→(Dv gtE G0 g).p v W→(Dv (slE intE) G (ai way)).p u W→way≠[]→f+way.length≤2000 →
  Calls Tryz.prog 83 #[v,u,I (b0:Nat),I ((f+way.length:Nat):Nat)] W (Post (CyA K (wyF (nbA g) (ah (aj g.1)) b0 f way)) W):=by
 intro f
 induction f using Nat.strongRecOn with
 | _ f ih=>
 intro way v u G K W hK hg0 hw hne hle
 obtain⟨u1,u2,rfl,h1,h2⟩:=Dv.gt.1 hg0
 have hW0:(Dv (slE intE) (GB W G0) (ai way)).p u W:=Dv.toB (Dv.weak hw fun b _ hb=>hb.elim)
 replace h1:=Dv.toB h1
 obtain⟨M,hM⟩:∃M,M=f+way.length:=⟨_,rfl⟩
 rw[← hM]
 have hwl:1≤way.length:=by
  cases way with
  | nil=>exact absurd rfl hne
  | cons x r=>rw[List.length_cons];omega
 have hwn:=bB way
 obtain⟨last,hlast⟩:∃last,last=way.getLastD 0:=⟨_,rfl⟩
 have hgl:=kW hne
 rw[← hlast] at hgl
 refine eN [.agg #[u1,u2],u,I (b0:Nat),I (M:Nat)] [E (.agg #[u1,u2]),E u,E (I (b0:Nat)),E (I (M:Nat))] Tryz.func83 Tryz.ntmps83 ?_ fun a hf=>?_
 rotate_left
 dsimp only[params,Nat.reduceAdd] at hf
 rotate_right
 ·exact cr rfl (cr rfl (cr rfl (cr rfl mj)))
 have e:=Ext.rfl' W
 refine seq <| ac <| tB hf rfl fun a b4 w v4 hv4 e' hb4 hs4 B4 hf=>?_
 replace e:=e.tr e'
 refine tA hf rfl fun a hf=>aa ?_
 cases hv4
 replace hf:=hf.kp [1,2,3,4,8]
 refine seq <| rgN 6 hf <| st (mv rfl) <| st (mv rfl) <| st (aD U35 (isE rfl (VA.st _ _ _ _ e hW0))) <| st (sub rfl rfl (by omega)) <| st (aF U35 S3 (isE rfl (VA.st _ _ _ _ e hW0)) rfl (by omega) (hgl)) <| st (ldI T3 (isR rfl)) <| en fun a w e' hf=>?_
 obtain⟨e,B4⟩:=up2 e' e B4
 refine tA hf rfl fun a hf=>aa ?_
 replace hf:=hf.kp [1,2,3,4,8,9]
 by_cases hlb:last=b0
 ·rw[a3j (hlast.symm.trans hlb)]
  repeat refine seq ?_
  refine rgN 3 hf <| st (mv rfl) <| st (mv rfl) <| st ((eql rfl rfl).eq (congrArg Value.bool ((show ((last:Nat):Int)==((b0:Nat):Int) by rw[hlb];exact beq_self_eq_true _)))) ?_
  refine en fun a w e' hf=>?_
  obtain⟨e,B4⟩:=up2 e' e B4
  refine aa <| ifc hf rfl (fun _=>?_) (fun h=>by cases h)
  have HL:=VA.st _ _ _ _ e hW0
  have hG:∀b,G0 b→b<W.heap.size:=fun b hb=>hb.elim
  replace hf:=hf.kp [1]
  refine seq <| ac <| ov W.heap.size G0 intE U35 S3 hf (by decide) e.size hG fun a v w e' hov Ho hf=>?_
  obtain⟨HL,e⟩:=up2 e' HL e
  refine tP hf (mv rfl) fun a w e' hf=>?_
  obtain⟨HL,e,Ho⟩:=up3 e' HL e Ho
  haveI hin:∀G0,InR (GB W G0) _:=OwR.inGB (W:=W) Ho (Nat.le_refl _)
  refine bE U35 I3 rfl rfl hf (by decide) rfl Ho (isE rfl (Dv.weak HL fun b hb hh=>hh.elim (fun h=>h.elim) fun h=>.inr (Ho.lt h).1)) (by simp only[List.length_nil];omega) (by simp only[List.length_nil,maxLen];omega) fun a v w hg hat Hn hf=>?_
  replace e:=e.gro hg (Ho.row (W:=W) (Nat.le_refl _))
  have hrow:=Ho.row (W:=W) (Nat.le_refl _)
  replace HL:=Dv.gro HL hg (fun b hb=>.inr (Ho.lt hb).1)
  replace Ho:=Hn;clear Hn hg hat hin
  refine tA hf rfl fun a hf=>aa <| am <| an rfl hf rfl ?_
  rintro _ rfl
  exact⟨_,rfl,e,hne,OwR.slN Ho fun b hb hh=>by have:=(Ho.lt hb).1;have:=hK b hh;omega⟩
 ·have hlb':way.getLastD 0≠b0:=fun h=>hlb (hlast.trans h)
  repeat refine seq ?_
  refine rgN 3 hf <| st (mv rfl) <| st (mv rfl) <| st ((eql rfl rfl).eq (congrArg Value.bool ((show (((last:Nat):Int)==((b0:Nat):Int))=false from beq_eq_false_iff_ne.2 (by omega))))) <| en fun a w e' hf=>?_
  obtain⟨e,B4⟩:=up2 e' e B4
  refine aa <| ifc hf rfl (fun h=>by cases h) (fun _=>?_)
  refine ak ?_
  cases f with
  | zero=>
   rw[a3k hlb']
   repeat refine seq ?_
   refine rgN 4 hf <| st (mv rfl) <| st (aD U35 (isE rfl (VA.st _ _ _ _ e hW0))) <| st (mv rfl) <| st ((geq rfl rfl).eq (congrArg Value.bool ((show decide ((((ai way).length:Nat):Int) ≥ ((M:Nat):Int))=true from decide_eq_true (by omega))))) <| en fun a w e' hf=>?_
   obtain⟨e,B4⟩:=up2 e' e B4
   refine aa <| ifc hf rfl (fun _=>?_) (fun h=>by cases h)
   refine seq <| ac <| tA hf rfl fun a hf=>aa <| am <| an rfl hf rfl ?_
   rintro _ rfl
   exact⟨_,rfl,e,rfl⟩
  | succ f=>
   rw[a3l hlb']
   obtain⟨F,hF⟩:∃F,F=wyS (nbA g) (wyF (nbA g) (ah (aj g.1)) b0 f) way:=⟨_,rfl⟩
   rw[← hF]
   repeat refine seq ?_
   refine rgN 4 hf <| st (mv rfl) <| st (aD U35 (isE rfl (VA.st _ _ _ _ e hW0))) <| st (mv rfl) <| st ((geq rfl rfl).eq (congrArg Value.bool ((show decide ((((ai way).length:Nat):Int) ≥ ((M:Nat):Int))=false from decide_eq_false (by omega))))) <| en fun a w e' hf=>?_
   obtain⟨e,B4⟩:=up2 e' e B4
   refine aa <| ifc hf rfl (fun h=>by cases h) (fun _=>?_)
   refine ak <| seq <| ac <| tA hf rfl fun a hf=>aa ?_
   repeat refine seq ?_
   refine ac <| tA hf rfl fun a hf=>aa ?_
   have hvl:=eJ ok
   have HR:(CyA K (((ah (aj g.1)).take 0).foldl F none)).p (.slice none 0 0) w:=rfl
   replace hf:=hf.keep [1,2,3,4,9,10,11]
   refine blk (aL (fun r0 a w=>∃(k:Nat) (r:Value),r0=g.1.length - k∧k≤g.1.length∧Fr 78 a w [(1,E u),(2,E (I (b0:Nat))),(3,E (I (M:Nat))),(4,E (ptr b4)),(9,E (I (last:Nat))),(10,E r),(11,E (I k))]∧Ext W w∧Blk w b4 #[u1,u2] 25∧(CyA K (((ah (aj g.1)).take k).foldl F none)).p r w) g.1.length ⟨0,.slice none 0 0,rfl,by omega,hf,e,⟨B4,HR⟩⟩ ?_)
   rintro r0 a w ⟨k,r,rfl,hk,hf,e,B4,HR⟩
   repeat refine seq ?_
   refine rgN 5 hf <| st (mv rfl) <| st (fA U25 rfl T22 rfl) <| st (ld1 T22 rfl B4 rfl) <| st (aD U22 (isE rfl (VA.st _ _ _ _ e h1))) <| st (lss rfl rfl) <| en fun a w e' hf=>?_
   obtain⟨HR,e,B4⟩:=up3 e' HR e B4
   refine aa <| ifc hf rfl (fun hc=>ak ?_) (fun hc=>aK ?_)
   rotate_left
   rotate_left
   ·have hlt:k<g.1.length:=by have:=of_decide_eq_true hc;(try dsimp only at this);omega
    replace hf:=hf.keep [1,2,3,4,9,10,11]
    refine seq <| blk ?_
    have hg0':=List.getElem?_eq_getElem hlt
    generalize g.1[k]=x at hg0'
    obtain⟨n,hn,hnV,hen⟩:=jj ok hg0'
    have hn1:=az hnV
    obtain⟨x1,x2⟩:=x
    subst hn
    have hsc:((ah (aj g.1)).take (k+1)).foldl F none=F (((ah (aj g.1)).take k).foldl F none) n:=by rw[bA hen,List.foldl_append];rfl
    generalize ((ah (aj g.1)).take k).foldl F none=best at hsc HR
    obtain⟨bs,hbs⟩:∃bs,bs=((ah (aj g.1)).take (k+1)).foldl F none:=⟨_,rfl⟩
    rw[← hbs] at hsc
    have hFd:F best n=if ((nbA g ((last:Nat):Int)).getLsbD n && !way.contains n)=true then wyO best (wyF (nbA g) (ah (aj g.1)) b0 f (way++[n])) else best:=by rw[hF,wyS,← hlast]
    refine seq <| rgN 6 hf <| st (fA U25 rfl T22 rfl) <| st (ld1 T22 rfl B4 rfl) <| st (mv rfl) <| st (aF U22 S45 (isE rfl (VA.st _ _ _ _ e h1)) rfl (by omega) (hg0')) <| st (aB U45 rfl T3 (by decide) (Fld.fst Fld.refl) (isR rfl)) <| st (ldI T3 (isR rfl)) <| en fun a w e' hf=>?_
    obtain⟨HR,e,B4⟩:=up3 e' HR e B4
    refine tA hf rfl fun a hf=>aa ?_
    replace hf:=hf.keep [1,2,3,4,9,10,11,12]
    have e5:=e
    have hn7:∀(v u s:Value) (w':World),Ext w w'→v=.agg #[u1,u2]→u=I (last:Nat)→s=I (n:Nat)→Calls Tryz.prog 119 #[v,u,s] w' (Post (E (B ((nbA g ((last:Nat):Int)).getLsbD n))) w'):=fun v u s w' he k1 k2 k3=>by
     cases k1;cases k2;cases k3;exact tW g ok _ _ _ w' (VA.st _ _ _ _ (Ext.tr e5 he) hg0) hl2
    have hi7:∀(v s:Value) (w':World),Ext w w'→v=u→s=I (n:Nat)→Calls Tryz.prog 77 #[v,s] w' (Post (E (B (way.contains n))) w'):=fun v s w' he k1 k2=>by
     cases k1;cases k2
     have:=jm (ai way) (n:Int) u w' (VA.st _ _ _ _ (Ext.tr e5 he) hW0) (by omega)
     rwa [show decide ((n:Int)∈ai way)=way.contains n by rw[Bool.eq_iff_iff,decide_eq_true_eq,dS,List.contains_iff_mem]] at this
    cases hnb:(nbA g ((last:Nat):Int)).getLsbD n with
    | false=>
     rw[hnb] at hn7
     refine seq <| rgN 10 hf <| st ((ldW T25 rfl B4 rfl).eq ((rfl:_=Value.agg #[u1,u2]))) <| st (mv rfl) <| st (mv rfl) <| st (bZ (A:=E (B false)) (B:=E (.agg #[u1,u2])) (C:=E (I (last:Nat))) (D:=E (I (n:Nat))) fE rfl rfl rfl hn7) <| st (mv rfl) <| sn rfl rfl rfl <| sn rfl rfl rfl <| sn rfl rfl rfl <| sn rfl rfl rfl <| st (pkF rfl rfl) <| en fun a w e' hf=>?_
     obtain⟨HR,e,B4⟩:=up3 e' HR e B4
     refine aa <| ifc hf rfl (fun h=>by cases h) (fun _=>?_)
     refine ak ?_
     rw[hnb,Bool.false_and,if_neg (by decide)] at hFd
     rw[hFd] at hsc
     rw[← hsc] at HR
     refine rgN 2 hf <| st (mv rfl) <| st ((add rfl rfl (by omega)).eq (congrArg (Value.int .i64) (show (k:Int)+1=((k+1:Nat):Int) from rfl))) <| en fun a w e' hf=>?_
     obtain⟨HR,e,B4⟩:=up3 e' HR e B4
     refine tA hf rfl fun a hf=>aa ?_
     replace hf:=hf.keep [1,2,3,4,9,10,11]
     refine⟨_,?_,k+1,_,rfl,by omega,hf,e,?_⟩
     ·omega
     exact⟨B4,by rw[← hbs];exact HR⟩
    | true=>
     rw[hnb] at hn7
     rw[hnb,Bool.true_and] at hFd
     cases hin:way.contains n with
     | true=>
      rw[hin] at hi7
      refine seq <| rgN 10 hf <| st ((ldW T25 rfl B4 rfl).eq ((rfl:_=Value.agg #[u1,u2]))) <| st (mv rfl) <| st (mv rfl) <| st (bZ (A:=E (B true)) (B:=E (.agg #[u1,u2])) (C:=E (I (last:Nat))) (D:=E (I (n:Nat))) fE rfl rfl rfl hn7) <| st (mv rfl) <| sy rfl rfl (mv rfl) <| sy rfl rfl (mv rfl) <| sy rfl rfl (ap (A:=E (B true)) (B:=E u) (C:=E (I (n:Nat))) gw rfl rfl hi7) <| sy rfl rfl (aX rfl) <| st (pkT rfl rfl) <| en fun a w e' hf=>?_
      obtain⟨HR,e,B4⟩:=up3 e' HR e B4
      refine aa <| ifc hf rfl (fun h=>by cases h) (fun _=>?_)
      refine ak ?_
      rw[hin,if_neg (by decide)] at hFd
      rw[hFd] at hsc
      rw[← hsc] at HR
      refine rgN 2 hf <| st (mv rfl) <| st ((add rfl rfl (by omega)).eq (congrArg (Value.int .i64) (show (k:Int)+1=((k+1:Nat):Int) from rfl))) <| en fun a w e' hf=>?_
      obtain⟨HR,e,B4⟩:=up3 e' HR e B4
      refine tA hf rfl fun a hf=>aa ?_
      replace hf:=hf.kp [1,2,3,4,9,10,11]
      refine⟨_,?_,k+1,_,rfl,by omega,hf,e,?_⟩
      ·omega
      exact⟨B4,by rw[← hbs];exact HR⟩
     | false=>
      rw[hin] at hi7
      refine seq <| rgN 10 hf <| st ((ldW T25 rfl B4 rfl).eq ((rfl:_=Value.agg #[u1,u2]))) <| st (mv rfl) <| st (mv rfl) <| st (bZ (A:=E (B true)) (B:=E (.agg #[u1,u2])) (C:=E (I (last:Nat))) (D:=E (I (n:Nat))) fE rfl rfl rfl hn7) <| st (mv rfl) <| sy rfl rfl (mv rfl) <| sy rfl rfl (mv rfl) <| sy rfl rfl (ap (A:=E (B false)) (B:=E u) (C:=E (I (n:Nat))) gw rfl rfl hi7) <| sy rfl rfl (aX rfl) <| st (pkT rfl rfl) <| en fun a w e' hf=>?_
      obtain⟨HR,e,B4⟩:=up3 e' HR e B4
      refine aa <| ifc hf rfl (fun _=>?_) (fun h=>by cases h)
      rw[hin,if_pos (by rfl)] at hFd
      obtain⟨N1,hN1⟩:∃N1,N1=w.heap.size:=⟨_,rfl⟩
      have hN1s:N1≤w.heap.size:=Nat.le_of_eq hN1
      have hWN:W.heap.size≤N1:=by rw[hN1];exact e.size
      have hl4:b4<N1:=by rw[hN1];exact B4.lt
      haveI i1:InS (GB W G0) (fun b=>N1≤b):=⟨fun b hb=>.inr (Nat.le_trans hWN hb)⟩
      have e6:=e
      have hMf:M=f+(way++[n]).length:=by rw[List.length_append,List.length_singleton];omega
      replace hf:=hf.kp [1,2,3,4,9,10,11,12]
      refine seq <| qu 10 [1,0,0,0,0,0] [7,8] (Chg (fun b=>N1≤b)) (bW.chg _) (fun w=>True) (fun w w1 k h=>trivial) Mix.mix hf (by decide +kernel) (by decide +kernel) <| jf (fun w1 h1=>((ldW T25 rfl (B4.ch h1 (by omega)) rfl)).eq ((rfl:_=Value.agg #[u1,u2]))) <| ja (mZ U35 S3 hN1s) <| ja (mv rfl) <| ja (nc (G:=GB W G0) U35 I3 rfl rfl (isE rfl (VA.st _ _ _ _ e hW0)) hN1s (by rw[List.length_nil];simp only[maxLen];omega) (by rw[List.length_nil];omega)) ?_
      refine ja (mv rfl) <| ja (aY (e:=intE) (G:=G0) U35 I3 rfl (by decide) rfl (fun b hb=>hb.elim) (isI rfl)) <| jx (kb (G':=G0) U35 I3 rfl rfl rfl (isR rfl) (by simp only[List.length_singleton,List.nil_append];omega) (by simp only[List.length_singleton,List.nil_append,maxLen];omega) (fun _ _ _ _=>trivial) (fun _ _=>trivial)) ?_
      refine jq (fun w1 h1=>mv rfl) <| jq (fun w1 h1=>mv rfl) <| jp (fun w1 h1 HF1=>oE (A:=CyA K (wyF (nbA g) (ah (aj g.1)) b0 f (way++[n]))) (B:=E (.agg #[u1,u2])) (C:=OwA intE 3 N1 (fun _=>False) ([]++ai way++[(n:Int)])) (D:=E (I (b0:Nat))) (F:=E (I (M:Nat))) pE rfl rfl rfl rfl (fun x y z s w' he k1 k2 k3 k4=>by cases k1;cases k3;cases k4;rw[hMf];exact ih f (by omega) (way++[n]) _ y G0 K w' (fun b hb=>by have:=hK b hb;have:=h1.size;have:=he.size;omega) (VA.st _ _ _ _ he (VA.st _ _ _ _ ⟨h1.os,h1.tape,h1.output,h1.size,fun b hb=>h1.block b hb (by omega)⟩ (VA.st _ _ _ _ e6 hg0))) (by rw[fV];rw[List.nil_append] at k2;exact OwR.slN k2 fun b hb hh=>hh.elim) (by simp) (by rw[List.length_append,List.length_singleton];omega))) ?_
      refine je <| fun a w hc HF hf=>?_
      have e':Ext _ w:=⟨hc.os,hc.tape,hc.output,hc.size,fun b hb=>hc.block b hb (by omega)⟩
      replace e:=e.tr e';replace B4:=B4.ext e';replace HR:=VA.st _ _ _ _ e' HR
      refine tA hf rfl fun a hf=>aa ?_
      obtain⟨rv,HQ,hf⟩:=hf.opn 13 rfl
      replace hf:=hf.keep [1,2,3,4,9,10,11,13]
      obtain⟨o,ho⟩:∃o,o=wyF (nbA g) (ah (aj g.1)) b0 f (way++[n]):=⟨_,rfl⟩
      rw[← ho] at HQ hFd
      cases o with
      | none=>
       obtain rfl:rv=.slice none 0 0:=HQ
       rw[show wyO best none=best from rfl] at hFd
       rw[hFd] at hsc
       rw[← hsc] at HR
       have HQ:True:=trivial
       refine seq <| rgN 13 hf <| st (mv rfl) <| st (dB U35 rfl) <| st (mv rfl) <| sn rfl rfl rfl <| sn rfl rfl rfl <| sn rfl rfl rfl <| su rfl rfl <| su rfl rfl <| su rfl rfl <| su rfl rfl <| su rfl rfl <| sn rfl rfl rfl <| st (pkF rfl rfl) <| en fun a w e' hf=>?_
       replace HR:=VA.st _ _ _ _ e' HR
       replace HQ:=trivial
       obtain⟨e,B4⟩:=up2 e' e B4
       refine aa <| ifc hf rfl (fun h=>by cases h) (fun _=>?_)
       refine ak <| rgN 2 hf <| st (mv rfl) <| st ((add rfl rfl (by omega)).eq (congrArg (Value.int .i64) (show (k:Int)+1=((k+1:Nat):Int) from rfl))) <| en fun a w e' hf=>?_
       replace HR:=VA.st _ _ _ _ e' HR
       replace HQ:=trivial
       obtain⟨e,B4⟩:=up2 e' e B4
       refine tA hf rfl fun a hf=>aa ?_
       replace hf:=hf.keep [1,2,3,4,9,10,11]
       refine⟨_,?_,k+1,_,rfl,by omega,hf,e,?_⟩
       ·omega
       exact⟨B4,by rw[← hbs];exact HR⟩
      | some l=>
       have hnl:ai l≠[]:=fun h=>HQ.1 (by rw[ai] at h;exact List.map_eq_nil_iff.1 h)
       obtain⟨ad,n',c',rfl⟩:=fm HQ.2 hnl
       cases best with
       | none=>
        obtain rfl:r=.slice none 0 0:=HR
        rw[show wyO none (some l)=some l from rfl] at hFd
        rw[hFd] at hsc
        have HR:True:=trivial
        refine seq <| rgN 13 hf <| st (mv rfl) <| st (dB U35 rfl) <| st (mv rfl) <| sy rfl rfl (mv rfl) <| sy rfl rfl (eT U35 rfl) <| sy rfl rfl (mv rfl) <| sn rfl rfl rfl <| sn rfl rfl rfl <| sn rfl rfl rfl <| sn rfl rfl rfl <| sn rfl rfl rfl <| sy rfl rfl (pkT rfl rfl) <| st (pkT rfl rfl) <| en fun a w e' hf=>?_
        replace HR:=trivial
        obtain⟨HQ,e,B4⟩:=up3 e' HQ e B4
        refine aa <| ifc hf rfl (fun _=>?_) (fun h=>by cases h)
        refine rgN 1 hf <| st (mv rfl) <| en fun a w e' hf=>?_
        replace HR:=trivial
        obtain⟨HQ,e,B4⟩:=up3 e' HQ e B4
        refine tA hf rfl fun a hf=>aa ?_
        rw[← hsc] at HQ
        refine rgN 2 hf <| st (mv rfl) <| st ((add rfl rfl (by omega)).eq (congrArg (Value.int .i64) (show (k:Int)+1=((k+1:Nat):Int) from rfl))) <| en fun a w e' hf=>?_
        replace HR:=trivial
        obtain⟨HQ,e,B4⟩:=up3 e' HQ e B4
        refine tA hf rfl fun a hf=>aa ?_
        replace hf:=hf.keep [1,2,3,4,9,10,11]
        refine⟨_,?_,k+1,_,rfl,by omega,hf,e,?_⟩
        ·omega
        exact⟨B4,by rw[← hbs];exact HQ⟩
       | some c=>
        have hnc:ai c≠[]:=fun h=>HR.1 (by rw[ai] at h;exact List.map_eq_nil_iff.1 h)
        obtain⟨ad2,n2,c2,rfl⟩:=fm HR.2 hnc
        have hll:=bB l
        have hlc:=bB c
        by_cases hlt2:l.length<c.length
        ·rw[show wyO (some c) (some l)=some l from if_pos hlt2] at hFd
         rw[hFd] at hsc
         refine seq <| rgN 13 hf <| st (mv rfl) <| st (dB U35 rfl) <| st (mv rfl) <| sy rfl rfl (mv rfl) <| sy rfl rfl (eT U35 rfl) <| sy rfl rfl (mv rfl) <| sy rfl rfl (mv rfl) <| sy rfl rfl (aD U35 (isE rfl HQ.2)) <| sy rfl rfl (mv rfl) <| sy rfl rfl (aD U35 (isE rfl HR.2)) <| sy rfl rfl ((lss rfl rfl).eq (congrArg Value.bool ((show decide ((((ai l).length:Nat):Int)<(((ai c).length:Nat):Int))=true from decide_eq_true (by omega))))) <| sy rfl rfl (pkF rfl rfl) <| st (pkT rfl rfl) <| en fun a w e' hf=>?_
         obtain⟨HR,HQ,e,B4⟩:=up4 e' HR HQ e B4
         refine aa <| ifc hf rfl (fun _=>?_) (fun h=>by cases h)
         refine rgN 1 hf <| st (mv rfl) <| en fun a w e' hf=>?_
         obtain⟨HR,HQ,e,B4⟩:=up4 e' HR HQ e B4
         refine tA hf rfl fun a hf=>aa ?_
         rw[← hsc] at HQ
         refine rgN 2 hf <| st (mv rfl) <| st ((add rfl rfl (by omega)).eq (congrArg (Value.int .i64) (show (k:Int)+1=((k+1:Nat):Int) from rfl))) <| en fun a w e' hf=>?_
         obtain⟨HR,HQ,e,B4⟩:=up4 e' HR HQ e B4
         refine tA hf rfl fun a hf=>aa ?_
         replace hf:=hf.keep [1,2,3,4,9,10,11]
         refine⟨_,?_,k+1,_,rfl,by omega,hf,e,?_⟩
         ·omega
         exact⟨B4,by rw[← hbs];exact HQ⟩
        ·rw[show wyO (some c) (some l)=some c from if_neg hlt2] at hFd
         rw[hFd] at hsc
         refine seq <| rgN 13 hf <| st (mv rfl) <| st (dB U35 rfl) <| st (mv rfl) <| sy rfl rfl (mv rfl) <| sy rfl rfl (eT U35 rfl) <| sy rfl rfl (mv rfl) <| sy rfl rfl (mv rfl) <| sy rfl rfl (aD U35 (isE rfl HQ.2)) <| sy rfl rfl (mv rfl) <| sy rfl rfl (aD U35 (isE rfl HR.2)) <| sy rfl rfl ((lss rfl rfl).eq (congrArg Value.bool ((show decide ((((ai l).length:Nat):Int)<(((ai c).length:Nat):Int))=false from decide_eq_false (by omega))))) <| sy rfl rfl (pkF rfl rfl) <| st (pkT rfl rfl) <| en fun a w e' hf=>?_
         obtain⟨HR,HQ,e,B4⟩:=up4 e' HR HQ e B4
         refine aa <| ifc hf rfl (fun h=>by cases h) (fun _=>?_)
         refine ak ?_
         rw[← hsc] at HR
         refine rgN 2 hf <| st (mv rfl) <| st ((add rfl rfl (by omega)).eq (congrArg (Value.int .i64) (show (k:Int)+1=((k+1:Nat):Int) from rfl))) <| en fun a w e' hf=>?_
         obtain⟨HR,HQ,e,B4⟩:=up4 e' HR HQ e B4
         refine tA hf rfl fun a hf=>aa ?_
         replace hf:=hf.keep [1,2,3,4,9,10,11]
         refine⟨_,?_,k+1,_,rfl,by omega,hf,e,?_⟩
         ·omega
         exact⟨B4,by rw[← hbs];exact HR⟩
   ·obtain rfl:k=g.1.length:=by have:=of_decide_eq_false hc;(try dsimp only at this);omega
    rw[show (ah (aj g.1)).take g.1.length=ah (aj g.1) from List.take_of_length_le (Nat.le_of_eq hvl)] at HR
    obtain⟨bs,hbs⟩:∃bs,bs=(ah (aj g.1)).foldl F none:=⟨_,rfl⟩
    rw[← hbs] at HR ⊢
    replace hf:=hf.keep [10]
    refine seq <| rgN 1 hf <| st (mv rfl) <| en fun a w e' hf=>?_
    obtain⟨HR,e⟩:=up2 e' HR e
    refine tA hf rfl fun a hf=>aa <| am <| an rfl hf rfl ?_
    rintro _ rfl
    exact⟨_,rfl,e,HR⟩
def lsF:List Nat→List Nat→Bool
 | x::a,y::b=>if x=y then lsF a b else decide (x<y)
 | [],_::_=>true
 | _,[]=>false
theorem tX:∀a,lsF a a=false
 | []=>rfl
 | x::a=>by rw[lsF,if_pos rfl];exact tX a
theorem tY:∀{a b c:List Nat},lsF a b=true→lsF b c=true→lsF a c=true
 | [],[],_,h,_=>by cases h
 | [],_::_,[],_,h=>by simp[lsF] at h
 | [],_::_,_::_,_,_=>rfl
 | _::_,[],_,h,_=>by simp[lsF] at h
 | _::_,_::_,[],_,h=>by simp[lsF] at h
 | x::a,y::b,z::c,h,k=>by
  rw[lsF] at h k ⊢
  by_cases h1:x=y
  ·by_cases h2:y=z
   ·rw[if_pos h1] at h;rw[if_pos h2] at k;rw[if_pos (h1.trans h2)];exact tY h k
   ·rw[if_neg h2] at k;rw[if_neg (by omega),h1];exact k
  ·rw[if_neg h1] at h
   have:=of_decide_eq_true h
   by_cases h2:y=z
   ·rw[if_neg (by omega)];exact decide_eq_true (by omega)
   ·rw[if_neg h2] at k
    have:=of_decide_eq_true k
    rw[if_neg (by omega)];exact decide_eq_true (by omega)
theorem tZ:∀{a b:List Nat},lsF a b=false→lsF b a=false→a=b
 | [],[],_,_=>rfl
 | [],_::_,h,_=>by cases h
 | _::_,[],_,h=>by cases h
 | x::a,y::b,h,k=>by
  rw[lsF] at h k
  by_cases h1:x=y
  ·rw[if_pos h1] at h;rw[if_pos h1.symm] at k;rw[h1,tZ h k]
  ·rw[if_neg h1] at h;rw[if_neg (Ne.symm h1)] at k
   have:=of_decide_eq_false h;have:=of_decide_eq_false k;omega
theorem nP (w a b:List Nat):lsF (w++a) (w++b)=lsF a b:=by
 induction w with
 | nil=>rfl
 | cons x w ih=>rw[List.cons_append,List.cons_append,lsF,if_pos rfl,ih]
def btr (a b:List Nat):Bool:=decide (a.length<b.length) || (decide (a.length=b.length)&&lsF a b)
theorem jn {a b:List Nat}:btr a b=true↔a.length<b.length∨(a.length=b.length∧lsF a b=true):=by
 rw[btr,Bool.or_eq_true,Bool.and_eq_true,decide_eq_true_eq,decide_eq_true_eq]
theorem jo (a:List Nat):btr a a=false:=by
 cases h:btr a a with
 | false=>rfl
 | true=>
  rcases jn.1 h with h|⟨_,h⟩
  ·omega
  ·rw[tX] at h;cases h
theorem ua {a b c:List Nat}(h:btr a b=true)(k:btr b c=true):btr a c=true:=by
 rw[jn] at *
 rcases h with h|⟨h,h'⟩ <;> rcases k with k|⟨k,k'⟩
 ·exact .inl (by omega)
 ·exact .inl (by omega)
 ·exact .inl (by omega)
 ·exact .inr ⟨by omega,tY h' k'⟩
theorem ub {a b:List Nat}(h:btr a b=false)(k:btr b a=false):a=b:=by
 rw[← Bool.not_eq_true,jn] at h k
 have hl:a.length=b.length:=by omega
 exact tZ (by cases hh:lsF a b with|false=>rfl|true=>exact absurd (.inr ⟨hl,hh⟩) h) (by cases hh:lsF b a with|false=>rfl|true=>exact absurd (.inr ⟨hl.symm,hh⟩) k)
def ods (odd:Bool)(c:List Nat):Bool:=odd&&decide (c.length % 2=0)
def shO (best:Option (List Nat))(c:List Nat):Option (List Nat):=match best with
 | none=>some c
 | some b=>if btr c b=true then some c else some b
def shS (odd:Bool)(best:Option (List Nat))(c:List Nat):Option (List Nat):=if ods odd c=true then best else shO best c
def shF (odd:Bool)(l:List (List Nat)):Option (List Nat):=l.foldl (shS odd) none
theorem jr (odd:Bool):∀(l:List (List Nat)) (best:Option (List Nat)),(l.foldl (shS odd) best=none↔best=none∧∀c∈l,ods odd c=true) ∧
  ∀b,l.foldl (shS odd) best=some b→(best=some b∨(b∈l∧ods odd b=false))∧(∀b0,best=some b0→btr b0 b=false)∧∀c∈l,ods odd c=false→btr c b=false
 | [],best=>⟨⟨fun h=>⟨h,fun c hc=>by cases hc⟩,fun h=>h.1⟩,fun b h=>⟨.inl h,fun b0 h0=>by rw[List.foldl_nil,h0] at h;cases h;exact jo _,fun c hc=>by cases hc⟩⟩
 | c::l,best=>by
  obtain⟨h1,h2⟩:=jr odd l (shS odd best c)
  rw[List.foldl_cons]
  cases ho:ods odd c with
  | true=>
   have hs:shS odd best c=best:=by rw[shS,if_pos ho]
   rw[hs] at h1 h2 ⊢
   refine⟨h1.trans ⟨fun h=>⟨h.1,fun d hd=>(List.mem_cons.1 hd).elim (fun h=>by rw[h,ho]) (h.2 d)⟩,fun h=>⟨h.1,fun d hd=>h.2 d (List.mem_cons.2 (.inr hd))⟩⟩,fun b hb=>?_⟩
   obtain⟨k1,k2,k3⟩:=h2 b hb
   exact⟨k1.imp id fun h=>⟨List.mem_cons.2 (.inr h.1),h.2⟩,k2,fun d hd hd'=>(List.mem_cons.1 hd).elim (fun h=>by rw[h,ho] at hd';cases hd') fun h=>k3 d h hd'⟩
  | false=>
   have hs:shS odd best c=shO best c:=by rw[shS,if_neg (by rw[ho];decide)]
   rw[hs] at h1 h2 ⊢
   obtain⟨b1,hb1,hc1,hb0⟩:∃b1,shO best c=some b1∧btr c b1=false∧((best=some b1∨b1=c)∧∀b0,best=some b0→btr b0 b1=false):=by
    cases best with
    | none=>exact⟨c,rfl,jo c,.inr rfl,fun b0 h=>by cases h⟩
    | some b=>
     rw[shO]
     cases hh:btr c b with
     | true=>exact⟨c,by rw[if_pos rfl],jo c,.inr rfl,fun b0 h=>by
       cases h
       cases hk:btr b c with
       | false=>rfl
       | true=>have:=ua hh hk;rw[jo] at this;cases this⟩
     | false=>exact⟨b,by rw[if_neg (by decide)],hh,.inl rfl,fun b0 h=>by cases h;exact jo _⟩
   rw[hb1] at h1 h2 ⊢
   refine⟨h1.trans ⟨fun h=>(by cases h.1),fun h=>by rw[h.2 c (List.mem_cons.2 (.inl rfl))] at ho;cases ho⟩,fun b hb=>?_⟩
   obtain⟨k1,k2,k3⟩:=h2 b hb
   have k4:=k2 b1 rfl
   have up:∀d,btr d b1=false→btr d b=false:=fun d hd=>by
    cases hh:btr d b with
    | false=>rfl
    | true=>
     by_cases he:b=b1
     ·rw[he,hd] at hh;cases hh
     ·cases h5:btr b b1 with
      | true=>rw[ua hh h5] at hd;cases hd
      | false=>exact absurd (ub h5 k4) he
   refine⟨?_,fun b0 h0=>up b0 (hb0.2 b0 h0),fun d hd hd'=>(List.mem_cons.1 hd).elim (fun h=>by rw[h];exact up c hc1) fun h=>k3 d h hd'⟩
   rcases k1 with h|h
   ·cases h
    rcases hb0.1 with h|h
    ·exact .inl h
    ·exact .inr ⟨by rw[h];exact List.mem_cons.2 (.inl rfl),by rw[h];exact ho⟩
   ·exact .inr ⟨List.mem_cons.2 (.inr h.1),h.2⟩
theorem uc {odd:Bool}{l:List (List Nat)}:shF odd l=none↔∀c∈l,ods odd c=true:=(jr odd l none).1.trans ⟨fun h=>h.2,fun h=>⟨rfl,h⟩⟩
theorem a3n {odd:Bool}{l:List (List Nat)}{o:List Nat}(h1:o∈l)(h2:ods odd o=false)(h3:∀c∈l,ods odd c=false→btr c o=false):shF odd l=some o:=by
 cases hh:shF odd l with
 | none=>have:=uc.1 hh o h1;rw[h2] at this;cases this
 | some b=>
  obtain⟨k1,_,k3⟩:=(jr odd l none).2 b hh
  obtain⟨k4,k5⟩:=k1.resolve_left (by simp)
  rw[ub (h3 b k4 k5) (k3 o h1 h2)]
def CyL (nb:Int→BS)(c:List Nat):Prop:=Cyc nb (fun i=>c.getD i 0) c.length
structure CyM (nb:Int→BS)(c:List Nat):Prop where
 cyc:CyL nb c
 min:∀i,0<i→i<c.length→c.getD 0 0<c.getD i 0
 dir:c.getD 1 0<c.getD (c.length - 1) 0
theorem eK {w:List Nat}{x i:Nat}(h:i<w.length):(w++[x]).getD i 0=w.getD i 0:=by rw[List.getD_eq_getElem?_getD,List.getD_eq_getElem?_getD,List.getElem?_append_left h]
theorem ln {w:List Nat}{x i:Nat}(h:i=w.length):(w++[x]).getD i 0=x:=by subst h;simp
theorem js (w:List Nat):w.getLastD 0=w.getD (w.length - 1) 0:=by
 rw[List.getLastD_eq_getLast?,List.getLast?_eq_getElem?,List.getD_eq_getElem?_getD]
theorem fY {w:List Nat}{i:Nat}(h:i<w.length):w.getD i 0∈w:=by
 rw[List.getD_eq_getElem?_getD,List.getElem?_eq_getElem h];exact List.getElem_mem h
theorem ud {w:List Nat}{x:Nat}(h:x∈w):∃i,i<w.length∧w.getD i 0=x:=by
 obtain⟨i,hi,he⟩:=List.getElem_of_mem h
 exact⟨i,hi,by rw[List.getD_eq_getElem?_getD,List.getElem?_eq_getElem hi,he];rfl⟩
structure Pth (nb:Int→BS)(w:List Nat):Prop where
 inj:∀i j,i<w.length→j<w.length→w.getD i 0=w.getD j 0→i=j
 adj:∀i,i+1<w.length→(nb (w.getD i 0:Nat)).getLsbD (w.getD (i+1) 0)=true
theorem Pth.one (nb:Int→BS)(x:Nat):Pth nb [x]:=⟨fun i j hi hj _=>by rw[List.length_singleton] at hi hj;omega,fun i hi=>by rw[List.length_singleton] at hi;omega⟩
theorem Pth.snoc {nb:Int→BS}{w:List Nat}{x:Nat}(h:Pth nb w)(h0:w≠[])(h1:(nb (w.getLastD 0:Nat)).getLsbD x=true)(h2:x ∉ w):Pth nb (w++[x]):=by
 have hll:(w++[x]).length=w.length+1:=by rw[List.length_append,List.length_singleton]
 refine⟨fun i j hi hj he=>?_,fun i hi=>?_⟩
 ·rw[hll] at hi hj
  by_cases h3:i<w.length <;> by_cases h4:j<w.length
  ·rw[eK h3,eK h4] at he;exact h.inj i j h3 h4 he
  ·rw[eK h3,ln (by omega)] at he;exact absurd (by rw[← he];exact fY h3) h2
  ·rw[ln (by omega),eK h4] at he;exact absurd (by rw[he];exact fY h4) h2
  ·omega
 ·rw[hll] at hi
  by_cases h3:i+1<w.length
  ·rw[eK (by omega),eK h3];exact h.adj i h3
  ·rw[eK (by omega),ln (by omega)]
   rw[js] at h1
   rwa [show i=w.length - 1 by omega]
theorem Pth.cyc {nb:Int→BS}{w:List Nat}(h:Pth nb w)(h3:3≤w.length)(hl:(nb (w.getLastD 0:Nat)).getLsbD (w.getD 0 0)=true):CyL nb w:=⟨h3,h.inj,h.adj,by rw[js] at hl;exact hl⟩
def clC (nb:Int→BS)(w:List Nat):List (List Nat):=if (decide (2<w.length)&&((nb (w.getLastD 0:Nat)).getLsbD (w.getD 0 0)&&decide (w.getD 1 0<w.getLastD 0)))=true then [w] else []
def cyS (nb:Int→BS)(F:List Nat→List (List Nat))(w:List Nat)(x:Nat):List (List Nat):=if (decide (w.getD 0 0<x)&&((nb (w.getLastD 0:Nat)).getLsbD x && !w.contains x))=true then F (w++[x]) else []
def cyR (nb:Int→BS)(ids:List Nat):Nat→List Nat→List (List Nat)
 | 0,_=>[]
 | f+1,w=>clC nb w++ids.flatMap (cyS nb (cyR nb ids f) w)
section
variable {nb:Int→BS}{ids:List Nat}
theorem ue:∀(f:Nat) (w:List Nat),w≠[]→Pth nb w→(∀i,0<i→i<w.length→w.getD 0 0<w.getD i 0)→∀c∈cyR nb ids f w,CyM nb c
 | 0,w,_,_,_,c,hc=>by cases hc
 | f+1,w,h0,hp,hm,c,hc=>by
  rw[cyR] at hc
  rcases List.mem_append.1 hc with hc|hc
  ·rw[clC] at hc
   split at hc
   ·rename_i h
    simp only[Bool.and_eq_true,decide_eq_true_eq] at h
    obtain rfl:=List.mem_singleton.1 hc
    exact⟨hp.cyc (by omega) h.2.1,hm,by rw[← js];exact h.2.2⟩
   ·cases hc
  ·obtain⟨x,hx,hc⟩:=List.mem_flatMap.1 hc
   rw[cyS] at hc
   split at hc
   ·rename_i h
    simp only[Bool.and_eq_true,decide_eq_true_eq,Bool.not_eq_true',← Bool.not_eq_true,List.contains_iff_mem] at h
    have hl:0<w.length:=List.length_pos_iff.2 h0
    refine ue f (w++[x]) (by simp) (hp.snoc h0 h.2.1 h.2.2) (fun i hi hl'=>?_) c hc
    rw[List.length_append,List.length_singleton] at hl'
    rw[eK hl]
    by_cases h3:i<w.length
    ·rw[eK h3];exact hm i hi h3
    ·rw[ln (by omega)];exact h.1
   ·cases hc
theorem nQ {c:List Nat}{m i:Nat}(h:i<m):(c.take m).getD i 0=c.getD i 0:=by rw[List.getD_eq_getElem?_getD,List.getD_eq_getElem?_getD,List.getElem?_take,if_pos h]
theorem uf {c:List Nat}{m:Nat}(h:m<c.length):c.take (m+1)=c.take m++[c.getD m 0]:=by
 rw[bA (List.getElem?_eq_getElem h),List.getD_eq_getElem?_getD,List.getElem?_eq_getElem h];rfl
theorem a3o {c:List Nat}{m:Nat}(h:m<c.length):(c.take (m+1)).getLastD 0=c.getD m 0:=by
 rw[js,List.length_take,show min (m+1) c.length - 1=m by omega,nQ (by omega)]
theorem a3p {c:List Nat}(h:CyL nb c){m:Nat}(hm:m<c.length):c.getD m 0 ∉ c.take m:=fun hh=>by
 obtain⟨i,hi,he⟩:=ud hh
 rw[List.length_take] at hi
 rw[nQ (by omega)] at he
 have:=h.inj i m (by omega) hm he
 omega
theorem ug {c:List Nat}(hc:CyM nb c)(hids:∀x∈c,x∈ids):∀f m,m<c.length→c.length<f+(m+1)→c∈cyR nb ids f (c.take (m+1))
 | 0,m,h1,h2=>by omega
 | f+1,m,h1,h2=>by
  have h3:=hc.cyc.three
  rw[cyR]
  refine List.mem_append.2 ?_
  by_cases hm:m+1=c.length
  ·left
   rw[hm,List.take_length,clC,if_pos]
   ·exact List.mem_singleton.2 rfl
   ·simp only[Bool.and_eq_true,decide_eq_true_eq]
    rw[js]
    exact⟨by omega,hc.cyc.last,hc.dir⟩
  ·right
   have hx:=fY (w:=c) (i:=m+1) (by omega)
   refine List.mem_flatMap.2 ⟨_,hids _ hx,?_⟩
   rw[cyS,if_pos]
   ·rw[← uf (by omega)]
    exact ug hc hids f (m+1) (by omega) (by omega)
   ·simp only[Bool.and_eq_true,decide_eq_true_eq,Bool.not_eq_true',← Bool.not_eq_true,List.contains_iff_mem]
    rw[a3o h1,nQ (by omega)]
    exact⟨hc.min _ (by omega) (by omega),hc.cyc.adj m (by omega),a3p hc.cyc (by omega)⟩
end
def cyA (g:GT):List (List Nat):=(ah (aj g.1)).flatMap fun x=>cyR (nbA g) (ah (aj g.1)) g.1.length [x]
theorem gV {g:GT}(ok:Gr.Ok g){c:List Nat}(h:CyL (nbA g) c):∀x∈c,x∈ah (aj g.1):=fun x hx=>by
 obtain⟨i,hi,rfl⟩:=ud hx
 have:(aj g.1).getLsbD (c.getD i 0)=true:=by
  by_cases h1:i+1<c.length
  ·exact (((cm ok).1 (h.adj i h1)).inn ok).1
  ·have:=(((cm ok).1 h.last).inn ok).1
   rwa [show c.length - 1=i by omega] at this
 exact aC.2 ⟨az this,this⟩
theorem uh {nb:Int→BS}{c:List Nat}(h:CyL nb c):c.Nodup:=List.pairwise_iff_getElem.2 fun i j hi hj hij he=>by
 have:=h.inj i j hi hj (by rw[List.getD_eq_getElem?_getD,List.getD_eq_getElem?_getD,List.getElem?_eq_getElem hi,List.getElem?_eq_getElem hj,he])
 omega
theorem lq {g:GT}(ok:Gr.Ok g){c:List Nat}:c∈cyA g↔CyM (nbA g) c:=by
 constructor
 ·intro h
  obtain⟨x,_,hc⟩:=List.mem_flatMap.1 h
  exact ue _ [x] (by simp) (Pth.one _ x) (fun i hi hl=>by rw[List.length_singleton] at hl;omega) c hc
 ·intro h
  have h3:=h.cyc.three
  have hin:=gV ok h.cyc
  have hlen:c.length≤g.1.length:=by
   have h1:=eI (ai c) (ai (ah (aj g.1))) (List.pairwise_map.2 ((uh h.cyc).imp fun h h'=>h (by omega))) (fun x hx=>by
    obtain⟨y,hy,rfl⟩:=List.mem_map.1 hx
    exact dS.2 (hin y hy))
   rwa [bB,bB,cF,nk ok] at h1
  have hc:=ug h hin g.1.length 0 (by omega) (by omega)
  rw[uf (by omega),List.take_zero,List.nil_append] at hc
  exact List.mem_flatMap.2 ⟨_,hin _ (fY (by omega)),hc⟩
theorem ui {w:List Nat}{i:Nat}(h:i<w.length):(ai w)[i]?=some ((w.getD i 0:Nat):Int):=by
 rw[ai,List.getElem?_map,List.getElem?_eq_getElem h,List.getD_eq_getElem?_getD,List.getElem?_eq_getElem h];rfl
theorem uj (nb:Int→BS)(w:List Nat):(clC nb w).length≤1:=by
 rw[clC];split
 ·exact Nat.le_refl _
 ·exact Nat.zero_le _
theorem jt {F:Nat→List (List Nat)}{m:Nat}(h:∀x,(F x).length≤m):∀l:List Nat,(l.flatMap F).length≤l.length * m
 | []=>Nat.zero_le _
 | x::l=>by
  rw[List.flatMap_cons,List.length_append,List.length_cons,Nat.succ_mul]
  have:=h x
  have:=jt h l
  omega
theorem ls {nb:Int→BS}{ids:List Nat}(hi:ids.length≤7):∀(f:Nat) (w:List Nat),(cyR nb ids f w).length≤8 ^ f
 | 0,w=>Nat.zero_le _
 | f+1,w=>by
  have h1:=uj nb w
  have h2:=jt (F:=cyS nb (cyR nb ids f) w) (m:=8 ^ f) (fun x=>by
   rw[cyS];split
   ·exact ls hi f _
   ·exact Nat.zero_le _) ids
  have h3:ids.length * 8 ^ f≤7 * 8 ^ f:=Nat.mul_le_mul_right _ hi
  have h4:1≤8 ^ f:=Nat.pos_of_ne_zero (by simp)
  rw[cyR,List.length_append,Nat.pow_succ]
  omega
theorem uk {f:Nat}(h:f≤7):8 ^ f≤2097152:=Nat.pow_le_pow_right (by decide) h
def cyK (nb:Int→BS)(ids:List Nat)(f:Nat)(w:List Nat)(k:Nat):List (List Nat):=clC nb w++(ids.take k).flatMap (cyS nb (cyR nb ids f) w)
theorem a3q {nb:Int→BS}{ids:List Nat}{f:Nat}{w:List Nat}{k x:Nat}(h:ids[k]?=some x):cyK nb ids f w (k+1)=cyK nb ids f w k++cyS nb (cyR nb ids f) w x:=by
 rw[cyK,cyK,bA h,List.flatMap_append,List.append_assoc];simp
theorem a3r {nb:Int→BS}{ids:List Nat}(hi:ids.length≤7){f:Nat}(hf:f≤6)(w:List Nat)(k:Nat):(cyK nb ids f w k).length≤2097152:=by
 have h1:=uj nb w
 have h2:=jt (F:=cyS nb (cyR nb ids f) w) (m:=8 ^ f) (fun x=>by
  rw[cyS];split
  ·exact ls hi f _
  ·exact Nat.zero_le _) (ids.take k)
 have h3:(ids.take k).length * 8 ^ f≤7 * 8 ^ f:=Nat.mul_le_mul_right _ (Nat.le_trans (List.length_take_le' _ _) hi)
 have h4:8 ^ f≤8 ^ 6:=Nat.pow_le_pow_right (by decide) hf
 rw[cyK,List.length_append]
 omega
theorem a3s (g:GT)(ok:Gr.Ok g)(hl1:g.1.length≤7)(hl2:g.2.length≤100000):∀(f:Nat) (way:List Nat) (v u:Value) (K:Nat→Prop) (W:World),(∀b,K b→b<W.heap.size)→(Dv gtE G0 g).p v W→(Dv (slE intE) G0 (ai way)).p u W→way≠[]→way.Nodup→(∀x∈way,x∈ah (aj g.1))→f≤7→g.1.length<f+way.length →
  Calls Tryz.prog 114 #[v,u] W (Post (Dv (slE (slE intE)) K ((cyR (nbA g) (ah (aj g.1)) f way).map ai)) W):=by
 have hvl:=eJ ok
 intro f
 induction f with
 | zero=>
  intro way v u K W hK hg0 hw hne hnd hin hf7 hlt
  have h1:=eI (ai way) (ai (ah (aj g.1))) (List.pairwise_map.2 (hnd.imp fun h h'=>h (by omega))) (fun x hx=>by
   obtain⟨y,hy,rfl⟩:=List.mem_map.1 hx
   exact dS.2 (hin y hy))
  rw[bB,bB] at h1
  omega
 | succ f ih=>
  intro way v u K W hK hg0 hw hne hnd hin hf7 hlt
  obtain⟨u1,u2,rfl,h1,h2⟩:=Dv.gt.1 hg0
  have hW0:(Dv (slE intE) (GB W G0) (ai way)).p u W:=Dv.toB hw
  replace h1:=Dv.toB h1
  have hwl:1≤way.length:=List.length_pos_iff.2 hne
  have hwn:=bB way
  have hwm:way.length≤7:=by
   have h1:=eI (ai way) (ai (ah (aj g.1))) (List.pairwise_map.2 (hnd.imp fun h h'=>h (by omega))) (fun x hx=>by
    obtain⟨y,hy,rfl⟩:=List.mem_map.1 hx
    exact dS.2 (hin y hy))
   rw[bB,bB] at h1
   omega
  obtain⟨last,hlast⟩:∃last,last=way.getLastD 0:=⟨_,rfl⟩
  obtain⟨w0,hw0⟩:∃w0,w0=way.getD 0 0:=⟨_,rfl⟩
  have hgl:=kW hne
  have hg0':=ui hwl
  rw[← hlast] at hgl
  rw[← hw0] at hg0'
  obtain⟨ids,hids⟩:∃ids,ids=ah (aj g.1):=⟨_,rfl⟩
  have hidl:ids.length≤7:=by rw[hids,hvl];exact hl1
  rw[← hids] at hin ih hvl ⊢
  obtain⟨C,hC⟩:∃C,C=clC (nbA g) way:=⟨_,rfl⟩
  obtain⟨F,hF⟩:∃F,F=cyS (nbA g) (cyR (nbA g) ids f) way:=⟨_,rfl⟩
  refine eN [.agg #[u1,u2],u] [E (.agg #[u1,u2]),E u] Tryz.func114 Tryz.ntmps114 ?_ fun a hf=>?_
  rotate_left
  rotate_right
  ·exact arg2 rfl rfl
  have e:=Ext.rfl' W
  refine seq <| ac <| tB hf rfl fun a b2 w v2 hv2 e' hb2 hs2 B2 hf=>?_
  replace e:=e.tr e'
  refine tA hf rfl fun a hf=>aa ?_
  cases hv2
  obtain⟨N1,hN1⟩:∃N1,N1=w.heap.size:=⟨_,rfl⟩
  have hN1s:N1≤w.heap.size:=Nat.le_of_eq hN1
  have hWN:W.heap.size≤N1:=by rw[hN1];exact e.size
  have lb2:b2<N1:=by rw[hN1];exact B2.lt
  have hKN:∀b,K b→b<N1:=fun b hb=>Nat.lt_of_lt_of_le (hK b hb) hWN
  replace hf:=hf.keep [1,2]
  refine seq <| ac <| tA hf rfl fun a hf=>aa <| seq <| rgN 6 hf <| st (mv rfl) <| st (mv rfl) <| st (aD U35 (isE rfl (VA.st _ _ _ _ e hW0))) <| st (sub rfl rfl (by omega)) <| st (aF U35 S3 (isE rfl (VA.st _ _ _ _ e hW0)) rfl (by omega) (hgl)) <| st (ldI T3 (isR rfl)) <| en fun a w e' hf=>?_
  obtain⟨hN1s,e,B2⟩:=up3 e' hN1s e B2
  refine tA hf rfl fun a hf=>aa ?_
  replace hf:=hf.keep [1,2,5,6]
  have hn7:∀(p q:Nat) (x:Bool),(nbA g ((p:Nat):Int)).getLsbD q=x→∀(a b c:Value) (W' w':World),Ext W W'→Ext W' w'→a=.agg #[u1,u2]→b=I (p:Nat)→c=I (q:Nat)→Calls Tryz.prog 119 #[a,b,c] w' (Post (E (B x)) w'):=fun p q x hx a b c W' w' e5 he k1 k2 k3=>by
   cases k1;cases k2;cases k3;rw[← hx];exact tW g ok _ _ _ w' (VA.st _ _ _ _ (Ext.tr e5 he) hg0) hl2
  obtain⟨cc,hcc⟩:∃cc,cc=(decide (2<way.length)&&((nbA g ((last:Nat):Int)).getLsbD w0&&decide (way.getD 1 0<last))):=⟨_,rfl⟩
  have hCc:C=if cc=true then [way] else []:=by rw[hC,clC,hcc,hlast,hw0]
  repeat refine seq ?_
  refine cut (J:=fun a w=>Fr 80 a w [(1,E u),(2,E (ptr b2)),(5,E (.slice none 0 0)),(32,E (B cc)),(6,E (I (last:Nat)))]∧Ext W w∧Blk w b2 #[u1,u2] 25∧N1≤w.heap.size) ?_ (fun a w hJ=>?_)
  ·by_cases h2w:2<way.length
   ·rw[decide_eq_true h2w,Bool.true_and] at hcc
    cases hnb:(nbA g ((last:Nat):Int)).getLsbD w0 with
    | false=>
     rw[hnb,Bool.false_and] at hcc
     have hn8:=hn7 _ _ _ hnb
     have e5:=e
     refine rgG 18 Mix.mix hf <| st (mv rfl) <| st (aD U35 (isE rfl (VA.st _ _ _ _ e hW0))) <| st ((gtr rfl rfl).eq (congrArg Value.bool ((show decide ((((ai way).length:Nat):Int) > 2)=true from decide_eq_true (by omega))))) <| st (mv rfl) <| sy rfl rfl ((ldW T25 rfl B2 rfl).eq ((rfl:_=Value.agg #[u1,u2]))) <| sy rfl rfl (mv rfl) <| sy rfl rfl (mv rfl) <| sy rfl rfl (aF U35 S3 (isE rfl (VA.st _ _ _ _ e hW0)) rfl (by omega) (hg0')) <| sy rfl rfl (ldI T3 (isR rfl)) <| sy rfl rfl (bZ (A:=E (B false)) (B:=E (.agg #[u1,u2])) (C:=E (I (last:Nat))) (D:=E (I (w0:Nat))) fE rfl rfl rfl (fun a b c w he k1 k2 k3=>hn8 a b c _ w e5 he k1 k2 k3)) <| st (pkT rfl rfl) <| st (mv rfl) <| sn rfl rfl rfl <| sn rfl rfl rfl <| sn rfl rfl rfl <| sn rfl rfl rfl <| sn rfl rfl rfl <| st (pkF rfl rfl) <| en fun a w e' hf=>?_
     obtain⟨hN1s,e,B2⟩:=up3 e' hN1s e B2
     refine aa ?_
     rw[← hcc] at hf
     replace hf:=hf.keep [1,2,5,32,6]
     exact⟨rfl,hf,e,B2,hN1s⟩
    | true=>
     rw[hnb,Bool.true_and] at hcc
     have hn8:=hn7 _ _ _ hnb
     have e5:=e
     have hg1:=ui (w:=way) (i:=1) (by omega)
     refine rgG 18 Mix.mix hf <| st (mv rfl) <| st (aD U35 (isE rfl (VA.st _ _ _ _ e hW0))) <| st ((gtr rfl rfl).eq (congrArg Value.bool ((show decide ((((ai way).length:Nat):Int) > 2)=true from decide_eq_true (by omega))))) <| st (mv rfl) <| sy rfl rfl ((ldW T25 rfl B2 rfl).eq ((rfl:_=Value.agg #[u1,u2]))) <| sy rfl rfl (mv rfl) <| sy rfl rfl (mv rfl) <| sy rfl rfl (aF U35 S3 (isE rfl (VA.st _ _ _ _ e hW0)) rfl (by omega) (hg0')) <| sy rfl rfl (ldI T3 (isR rfl)) <| sy rfl rfl (bZ (A:=E (B true)) (B:=E (.agg #[u1,u2])) (C:=E (I (last:Nat))) (D:=E (I (w0:Nat))) fE rfl rfl rfl (fun a b c w he k1 k2 k3=>hn8 a b c _ w e5 he k1 k2 k3)) <| st (pkT rfl rfl) <| st (mv rfl) <| sy rfl rfl (mv rfl) <| sy rfl rfl (aF U35 S3 (isE rfl (VA.st _ _ _ _ e hW0)) rfl (by omega) (hg1)) <| sy rfl rfl (ldI T3 (isR rfl)) <| sy rfl rfl (mv rfl) <| sy rfl rfl ((lss rfl rfl).eq (congrArg Value.bool ((show decide (((way.getD 1 0:Nat):Int)<((last:Nat):Int))=cc by rw[hcc];exact decide_eq_decide.2 (by omega))))) ?_
     refine st (pkT rfl rfl) <| en fun a w e' hf=>?_
     obtain⟨hN1s,e,B2⟩:=up3 e' hN1s e B2
     refine aa ?_
     replace hf:=hf.keep [1,2,5,32,6]
     exact⟨rfl,hf,e,B2,hN1s⟩
   ·rw[decide_eq_false h2w,Bool.false_and] at hcc
    refine rgG 18 Mix.mix hf <| st (mv rfl) <| st (aD U35 (isE rfl (VA.st _ _ _ _ e hW0))) <| st ((gtr rfl rfl).eq (congrArg Value.bool ((show decide ((((ai way).length:Nat):Int) > 2)=false from decide_eq_false (by omega))))) <| st (mv rfl) <| sn rfl rfl rfl <| sn rfl rfl rfl <| sn rfl rfl rfl <| sn rfl rfl rfl <| sn rfl rfl rfl <| sn rfl rfl rfl <| st (pkF rfl rfl) <| st (mv rfl) <| sn rfl rfl rfl <| sn rfl rfl rfl <| sn rfl rfl rfl <| sn rfl rfl rfl <| sn rfl rfl rfl <| st (pkF rfl rfl) <| en fun a w e' hf=>?_
    obtain⟨hN1s,e,B2⟩:=up3 e' hN1s e B2
    refine aa ?_
    rw[← hcc] at hf
    replace hf:=hf.kp [1,2,5,32,6]
    exact⟨rfl,hf,e,B2,hN1s⟩
  obtain⟨hf,e,B2,hN1s⟩:=hJ
  have Ho:OwR (slE intE) 35 N1 K w ([]:List (List Int)) (.slice none 0 0):=OwR.nil (slE intE) _ hN1s hKN
  have hg0s:∀b,GO K (.slice none 0 0) b→b<N1:=fun b hb=>hb.elim (hKN b) fun h=>by cases h
  refine cut (J:=fun a w=>Fr 80 a w [(1,E u),(2,E (ptr b2)),(6,E (I (last:Nat))),(5,OwA (slE intE) 35 N1 K (C.map ai))]∧Ext W w∧Blk w b2 #[u1,u2] 25∧N1≤w.heap.size) ?_ (fun a w hJ=>?_)
  ·cases hc0:cc with
   | true=>
    rw[hc0] at hf hCc
    rw[if_pos rfl] at hCc
    refine ifc hf rfl (fun _=>?_) (fun h=>by cases h)
    have n2:=Ho.neLt lb2
    have hNa:=hN1s
    refine rgN 5 hf <| st (mv rfl) <| st (mZ U35 S3 hNa) <| st (mv rfl) <| st (nc (G:=GB W G0) U35 I3 rfl rfl (isE rfl (VA.st _ _ _ _ e hW0)) hNa (by rw[List.length_nil];simp only[maxLen];omega) (by rw[List.length_nil];omega)) ?_
    refine st (aY (e:=slE intE) (G:=GO K (.slice none 0 0)) (z:=[]++ai way) U39 I35 rfl (by decide) rfl (fun b hb=>Nat.lt_of_lt_of_le (hg0s b hb) hNa) ⟨_,rfl,fun v w _ h=>OwR.slN h fun b hb hh=>by have:=(OwR.lt h hb).1;have:=hg0s b hh;omega⟩) ?_
    refine en fun a w e' hf=>?_
    obtain⟨hN1s,Ho,e,B2⟩:=up4 e' hN1s Ho e B2
    replace hf:=hf.kp [1,2,5,6,33,37]
    haveI hin:∀G0,InR (GB W G0) _:=OwR.inGB (W:=W) Ho hWN
    refine bE U39 I35 rfl rfl hf (by decide) rfl Ho (isR rfl) (by simp only[List.length_nil,List.length_singleton];omega) (by simp only[List.length_nil,List.length_singleton,maxLen];omega) fun a v w hg hat Hn hf=>?_
    replace e:=e.gro hg (Ho.row (W:=W) hWN)
    have hrow:=Ho.row (W:=W) hWN
    replace hN1s:=Nat.le_trans hN1s hg.size
    replace Ho:=Hn
    replace B2:=B2.gro hg (by assumption)
    replace Ho:=Hn;clear Hn hg hat hin
    refine tA hf rfl fun a hf=>aa ?_
    rw[List.nil_append,List.nil_append] at Ho
    replace hf:=hf.keep [1,2,5,6]
    refine⟨by trivial,?_,e,B2,hN1s⟩
    have hf':=hf.upd (B:=OwA (slE intE) 35 N1 K (C.map ai)) 5 rfl (fun v h=>by cases h;rw[hCc];exact Ho)
    have hf2:=hf'.keep [1,2,6,5]
    exact hf2
   | false=>
    rw[hc0] at hf hCc
    rw[if_neg (by decide)] at hCc
    refine ifc hf rfl (fun h=>by cases h) (fun _=>?_)
    refine ak ?_
    have hf':=hf.upd (B:=OwA (slE intE) 35 N1 K (C.map ai)) 5 rfl (fun v h=>by cases h;rw[hCc];exact Ho)
    have hf2:=hf'.keep [1,2,6,5]
    exact⟨by trivial,hf2,e,B2,hN1s⟩
  obtain⟨hf,e,B2,hN1s⟩:=hJ
  obtain⟨uo,Ho,hf⟩:=hf.opn 5 rfl
  replace Ho:OwR (slE intE) 35 N1 K w (C.map ai) uo:=Ho
  have hC0:C.map ai=(cyK (nbA g) ids f way 0).map ai:=by rw[cyK,List.take_zero,hC];simp
  rw[hC0] at Ho
  replace hf:=hf.keep [1,2,5,6]
  repeat refine seq ?_
  refine ac <| tA hf rfl fun a hf=>aa ?_
  replace hf:=hf.keep [1,2,5,6,7]
  refine blk (aL (fun r0 a w=>∃(k:Nat) (uo:Value),r0=g.1.length - k∧k≤g.1.length∧Fr 80 a w [(1,E u),(2,E (ptr b2)),(5,E uo),(6,E (I (last:Nat))),(7,E (I k))]∧Ext W w∧Blk w b2 #[u1,u2] 25∧OwR (slE intE) 35 N1 K w ((cyK (nbA g) ids f way k).map ai) uo) g.1.length ⟨0,uo,rfl,by omega,hf,e,⟨B2,Ho⟩⟩ ?_)
  rintro r0 a w ⟨k,uo,rfl,hk,hf,e,B2,Ho⟩
  repeat refine seq ?_
  refine rgN 5 hf <| st (mv rfl) <| st (fA U25 rfl T22 rfl) <| st (ld1 T22 rfl B2 rfl) <| st (aD U22 (isE rfl (VA.st _ _ _ _ e h1))) <| st (lss rfl rfl) <| en fun a w e' hf=>?_
  obtain⟨e,B2,Ho⟩:=up3 e' e B2 Ho
  refine aa <| ifc hf rfl (fun hc=>ak ?_) (fun hc=>aK ?_)
  rotate_left
  rotate_left
  ·have hlt:k<g.1.length:=by have:=of_decide_eq_true hc;(try dsimp only at this);omega
   replace hf:=hf.keep [1,2,5,6,7]
   refine seq <| blk ?_
   have hx0:=List.getElem?_eq_getElem hlt
   generalize g.1[k]=x at hx0
   obtain⟨n,hn,hnV,hen⟩:=jj ok hx0
   rw[← hids] at hen
   obtain⟨x1,x2⟩:=x
   subst hn
   have hsc:=a3q (nb:=nbA g) (f:=f) (w:=way) hen
   have hol:=a3r (nb:=nbA g) hidl (show f≤6 by omega) way (k+1)
   obtain⟨Z,hZ⟩:∃Z,Z=cyS (nbA g) (cyR (nbA g) ids f) way n:=⟨_,rfl⟩
   obtain⟨cn,hcn⟩:∃cn,cn=(decide (w0<n)&&((nbA g ((last:Nat):Int)).getLsbD n && !way.contains n)):=⟨_,rfl⟩
   have hZc:Z=if cn=true then cyR (nbA g) ids f (way++[n]) else []:=by rw[hZ,cyS,hcn,hlast,hw0]
   rw[← hZ] at hsc
   obtain⟨out,hout⟩:∃out,out=cyK (nbA g) ids f way k:=⟨_,rfl⟩
   rw[← hout] at hsc Ho
   rw[hsc,List.length_append] at hol
   refine seq <| rgN 6 hf <| st (fA U25 rfl T22 rfl) <| st (ld1 T22 rfl B2 rfl) <| st (mv rfl) <| st (aF U22 S45 (isE rfl (VA.st _ _ _ _ e h1)) rfl (by omega) (hx0)) <| st (aB U45 rfl T3 (by decide) (Fld.fst Fld.refl) (isR rfl)) <| st (ldI T3 (isR rfl)) <| en fun a w e' hf=>?_
   obtain⟨e,B2,Ho⟩:=up3 e' e B2 Ho
   refine tA hf rfl fun a hf=>aa ?_
   replace hf:=hf.keep [1,2,5,6,7,8]
   refine seq <| cut (J:=fun a w=>Fr 80 a w [(1,E u),(2,E (ptr b2)),(5,E uo),(6,E (I (last:Nat))),(7,E (I k)),(8,E (I (n:Nat))),(68,E (B cn))]∧Ext W w∧Blk w b2 #[u1,u2] 25∧OwR (slE intE) 35 N1 K w (out.map ai) uo) ?_ (fun a w hJ=>?_)
   ·by_cases h0n:w0<n
    ·rw[decide_eq_true h0n,Bool.true_and] at hcn
     cases hnb:(nbA g ((last:Nat):Int)).getLsbD n with
     | false=>
      rw[hnb,Bool.false_and] at hcn
      have hn8:=hn7 _ _ _ hnb
      have e5:=e
      refine rgN 17 hf <| st (mv rfl) <| st (mv rfl) <| st (aF U35 S3 (isE rfl (VA.st _ _ _ _ e hW0)) rfl (by omega) (hg0')) <| st (ldI T3 (isR rfl)) <| st ((gtr rfl rfl).eq (congrArg Value.bool ((show decide (((n:Nat):Int) > ((w0:Nat):Int))=true from decide_eq_true (by omega))))) <| st (mv rfl) <| sy rfl rfl ((ldW T25 rfl B2 rfl).eq ((rfl:_=Value.agg #[u1,u2]))) <| sy rfl rfl (mv rfl) <| sy rfl rfl (mv rfl) <| sy rfl rfl (bZ (A:=E (B false)) (B:=E (.agg #[u1,u2])) (C:=E (I (last:Nat))) (D:=E (I (n:Nat))) fE rfl rfl rfl (fun a b c w he k1 k2 k3=>hn8 a b c _ w e5 he k1 k2 k3)) <| st (pkT rfl rfl) <| st (mv rfl) <| sn rfl rfl rfl <| sn rfl rfl rfl <| sn rfl rfl rfl <| sn rfl rfl rfl <| st (pkF rfl rfl) <| en fun a w e' hf=>?_
      obtain⟨e,B2,Ho⟩:=up3 e' e B2 Ho
      refine aa ?_
      rw[← hcn] at hf
      replace hf:=hf.keep [1,2,5,6,7,8,68]
      exact⟨rfl,hf,e,B2,Ho⟩
     | true=>
      rw[hnb,Bool.true_and] at hcn
      have hn8:=hn7 _ _ _ hnb
      have e5:=e
      refine rgN 17 hf <| st (mv rfl) <| st (mv rfl) <| st (aF U35 S3 (isE rfl (VA.st _ _ _ _ e hW0)) rfl (by omega) (hg0')) <| st (ldI T3 (isR rfl)) <| st ((gtr rfl rfl).eq (congrArg Value.bool ((show decide (((n:Nat):Int) > ((w0:Nat):Int))=true from decide_eq_true (by omega))))) <| st (mv rfl) <| sy rfl rfl ((ldW T25 rfl B2 rfl).eq ((rfl:_=Value.agg #[u1,u2]))) <| sy rfl rfl (mv rfl) <| sy rfl rfl (mv rfl) <| sy rfl rfl (bZ (A:=E (B true)) (B:=E (.agg #[u1,u2])) (C:=E (I (last:Nat))) (D:=E (I (n:Nat))) fE rfl rfl rfl (fun a b c w he k1 k2 k3=>hn8 a b c _ w e5 he k1 k2 k3)) <| st (pkT rfl rfl) <| st (mv rfl) <| sy rfl rfl (mv rfl) <| sy rfl rfl (mv rfl) <| sy rfl rfl (ap (A:=E (B (way.contains n))) (B:=E u) (C:=E (I (n:Nat))) gw rfl rfl (fun v s w' he k1 k2=>by cases k1;cases k2;have:=jm (ai way) (n:Int) u w' (VA.st _ _ _ _ (Ext.tr e5 he) hW0) (by omega);rwa [show decide ((n:Int)∈ai way)=way.contains n by rw[Bool.eq_iff_iff,decide_eq_true_eq,dS,List.contains_iff_mem]] at this)) ?_
      refine sy rfl rfl ((aX rfl).eq (congrArg Value.bool (hcn.symm))) <| st (pkT rfl rfl) <| en fun a w e' hf=>?_
      obtain⟨e,B2,Ho⟩:=up3 e' e B2 Ho
      refine aa ?_
      replace hf:=hf.keep [1,2,5,6,7,8,68]
      exact⟨rfl,hf,e,B2,Ho⟩
    ·rw[decide_eq_false h0n,Bool.false_and] at hcn
     refine rgN 17 hf <| st (mv rfl) <| st (mv rfl) <| st (aF U35 S3 (isE rfl (VA.st _ _ _ _ e hW0)) rfl (by omega) (hg0')) <| st (ldI T3 (isR rfl)) <| st ((gtr rfl rfl).eq (congrArg Value.bool ((show decide (((n:Nat):Int) > ((w0:Nat):Int))=false from decide_eq_false (by omega))))) <| st (mv rfl) <| sn rfl rfl rfl <| sn rfl rfl rfl <| sn rfl rfl rfl <| sn rfl rfl rfl <| st (pkF rfl rfl) <| st (mv rfl) <| sn rfl rfl rfl <| sn rfl rfl rfl <| sn rfl rfl rfl <| sn rfl rfl rfl <| st (pkF rfl rfl) <| en fun a w e' hf=>?_
     obtain⟨e,B2,Ho⟩:=up3 e' e B2 Ho
     refine aa ?_
     rw[← hcn] at hf
     replace hf:=hf.keep [1,2,5,6,7,8,68]
     exact⟨rfl,hf,e,B2,Ho⟩
   obtain⟨hf,e,B2,Ho⟩:=hJ
   cases hc0:cn with
   | false=>
    rw[hc0] at hf hZc
    rw[if_neg (by decide)] at hZc
    rw[hZc,List.append_nil] at hsc
    refine ifc hf rfl (fun h=>by cases h) (fun _=>?_)
    refine ak <| rgN 2 hf <| st (mv rfl) <| st ((add rfl rfl (by omega)).eq (congrArg (Value.int .i64) (show (k:Int)+1=((k+1:Nat):Int) from rfl))) <| en fun a w e' hf=>?_
    obtain⟨e,B2,Ho⟩:=up3 e' e B2 Ho
    refine tA hf rfl fun a hf=>aa ?_
    replace hf:=hf.kp [1,2,5,6,7]
    refine⟨_,?_,k+1,uo,rfl,by omega,hf,e,?_⟩
    ·omega
    exact⟨B2,by rw[hsc];exact Ho⟩
   | true=>
    rw[hc0] at hf
    rw[hc0,if_pos rfl] at hZc
    have hnw:n ∉ way:=fun hh=>by rw[hc0,List.contains_iff_mem.2 hh] at hcn;simp at hcn
    refine ifc hf rfl (fun _=>?_) (fun h=>by cases h)
    replace hf:=hf.kp [1,2,5,6,7,8]
    obtain⟨N2,hN2⟩:∃N2,N2=w.heap.size:=⟨_,rfl⟩
    have hN2s:N2≤w.heap.size:=Nat.le_of_eq hN2
    have hWN2:W.heap.size≤N2:=by rw[hN2];exact e.size
    have hl2':b2<N2:=by rw[hN2];exact B2.lt
    have hown:∀b,GO K uo b→b<N2:=fun b hb=>by
     rcases hb with hb|hb
     ·have:=hKN b hb;have:=Ho.base;omega
     ·have:=(Ho.lt hb).2;omega
    haveI i1:InS (GB W G0) (fun b=>N2≤b):=⟨fun b hb=>.inr (Nat.le_trans hWN2 hb)⟩
    have e6:=e
    refine cT 9 [1,1,0,0,0,0,0] (Chg (fun b=>N2≤b)) (bW.chg _) (fun w=>True) (fun w w1 k h=>trivial) Mix.mix hf (by decide +kernel) (by decide +kernel) <| jf (fun w1 h1=>mv rfl) <| jf (fun w1 h1=>((ldW T25 rfl (B2.ch h1 (by omega)) rfl)).eq ((rfl:_=Value.agg #[u1,u2]))) <| ja (mZ U35 S3 hN2s) <| ja (mv rfl) <| ja (nc (G:=GB W G0) U35 I3 rfl rfl (isE rfl (VA.st _ _ _ _ e hW0)) hN2s (by rw[List.length_nil];simp only[maxLen];omega) (by rw[List.length_nil];omega)) ?_
    refine ja (mv rfl) <| ja (aY (e:=intE) (G:=G0) U35 I3 rfl (by decide) rfl (fun b hb=>hb.elim) (isI rfl)) <| jx (kb (G':=G0) U35 I3 rfl rfl rfl (isR rfl) (by simp only[List.length_singleton,List.nil_append];omega) (by simp only[List.length_singleton,List.nil_append,maxLen];omega) (fun _ _ _ _=>trivial) (fun _ _=>trivial)) ?_
    refine jp (fun w1 h1 HF1=>ap (A:=Dv (slE (slE intE)) (GO K uo) ((cyR (nbA g) ids f (way++[n])).map ai)) (B:=E (.agg #[u1,u2])) (C:=OwA intE 3 N2 (fun _=>False) ([]++ai way++[(n:Int)])) pI rfl rfl (fun x y w' he k1 k2=>by cases k1;exact ih (way++[n]) _ y (GO K uo) w' (fun b hb=>by have:=hown b hb;have:=h1.size;have:=he.size;omega) (VA.st _ _ _ _ he (VA.st _ _ _ _ ⟨h1.os,h1.tape,h1.output,h1.size,fun b hb=>h1.block b hb (by omega)⟩ (VA.st _ _ _ _ e6 hg0))) (by rw[fV];rw[List.nil_append] at k2;exact OwR.slN k2 fun b hb hh=>hh.elim) (by simp) (List.nodup_append.2 ⟨hnd,List.nodup_cons.2 ⟨by simp,List.nodup_nil⟩,fun a ha b hb hab=>by rw[List.mem_singleton] at hb;subst hb;subst hab;exact hnw ha⟩) (fun y hy=>(List.mem_append.1 hy).elim (hin y) fun hy=>by rw[List.mem_singleton.1 hy];exact List.mem_of_getElem? hen) (by omega) (by rw[List.length_append,List.length_singleton];omega))) ?_
    refine je <| fun a w hc HF hf=>?_
    try dsimp only[push] at hf
    have e':Ext _ w:=⟨hc.os,hc.tape,hc.output,hc.size,fun b hb=>hc.block b hb (by omega)⟩
    replace e:=e.tr e';replace B2:=B2.ext e';replace Ho:=Ho.ext e'
    rw[← hZc] at hf
    replace hf:=hf.kp [1,2,6,7,8,69,77]
    have n2:=Ho.neLt lb2
    haveI hin:∀G0,InR (GB W G0) _:=OwR.inGB (W:=W) Ho hWN
    refine bE U39 I35 rfl rfl hf (by decide) rfl Ho (isR rfl) (by simp only[List.length_map];omega) (by simp only[List.length_map,maxLen];omega) fun a v w hg hat Hn hf=>?_
    replace e:=e.gro hg (Ho.row (W:=W) hWN)
    have hrow:=Ho.row (W:=W) hWN
    replace Ho:=Hn
    replace B2:=B2.gro hg (by assumption)
    replace Ho:=Hn;clear Hn hg hat hin
    refine tA hf rfl fun a hf=>aa ?_
    rw[← List.map_append,← hsc] at Ho
    refine rgN 2 hf <| st (mv rfl) <| st ((add rfl rfl (by omega)).eq (congrArg (Value.int .i64) (show (k:Int)+1=((k+1:Nat):Int) from rfl))) <| en fun a w e' hf=>?_
    obtain⟨Ho,e,B2⟩:=up3 e' Ho e B2
    refine tA hf rfl fun a hf=>aa ?_
    replace hf:=hf.kp [1,2,5,6,7]
    refine⟨_,?_,k+1,_,rfl,by omega,hf,e,?_⟩
    ·omega
    exact⟨B2,Ho⟩
  ·obtain rfl:k=g.1.length:=by have:=of_decide_eq_false hc;(try dsimp only at this);omega
   rw[show cyK (nbA g) ids f way g.1.length=cyR (nbA g) ids (f+1) way by rw[cyK,cyR,List.take_of_length_le (Nat.le_of_eq hvl)]] at Ho
   replace hf:=hf.kp [5]
   refine seq <| rgN 1 hf <| st (mv rfl) <| en fun a w e' hf=>?_
   obtain⟨Ho,e⟩:=up2 e' Ho e
   refine tA hf rfl fun a hf=>aa <| am <| an rfl hf rfl ?_
   rintro _ rfl
   exact⟨_,rfl,e,Ho.sl⟩
end Go.Mono
