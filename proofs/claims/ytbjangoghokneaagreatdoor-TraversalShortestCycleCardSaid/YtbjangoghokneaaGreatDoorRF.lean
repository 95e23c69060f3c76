/-
  Walks of functions and plain facts.
  No condition.
-/
import Derived.Test.YtbjangoghokneaaGreatDoorRE
import Derived.Test.YtbjangoghokneaaGreatDoorRD
import Derived.Test.YtbjangoghokneaaGreatDoorRA
import Derived.Test.YtbjangoghokneaaGreatDoorRC
set_option linter.unusedVariables false
set_option linter.unusedSimpArgs false
namespace Go.Mono
open Go Go.Proofs Go.RowKit Go.Gr
theorem CyA_weak {G G':Nat→Prop}{o:Option (List Nat)}{v:Value}{w:World}(hG:∀b,G' b→G b)(h:(CyA G o).p v w):(CyA G' o).p v w:=by
 cases o with
 | none=>exact h
 | some out=>exact⟨h.1,Dv.weak h.2 fun b _ hb=>hG b hb⟩
theorem scyc_spec {G:Nat→Prop}{N:Nat}(g:GT)(ok:Gr.Ok g)(v:Value)(W:World)(hT:Tab W)(h:(Dv (ptE (grE N)) G (some g)).p v W)(hl1:g.1.length≤100000)(hl2:g.2.length≤100000)(hN:N≤1000000) :
  Calls Tryz.prog 36 #[v] W (Post (CyA G0 (shcF (nbA g) (vset g.1) (esN g))) W):=by
 have hgd:(Dv (ptE (grE N)) G0 (some g)).p v W:=Dv.weak h fun b _ hb=>hb.elim
 have gs1:=ok.sv
 have gs2:=ok.se
 obtain⟨l,hl⟩:∃l,l=nbL g (elems (vset g.1)):=⟨_,rfl⟩
 obtain⟨V,hV⟩:∃V,V=vset g.1:=⟨_,rfl⟩
 obtain⟨es,hes⟩:∃es,es=esN g:=⟨_,rfl⟩
 have hnb:nbA g=lkS l:=by rw[hl,nbA]
 have hti:=es_toI ok
 have hin:=es_in ok
 rw[hnb,← hV,← hes]
 rw[← hes] at hti hin
 rw[← hV] at hin
 have hel:es.length≤100000:=by rw[hes,esN,List.length_map];exact hl2
 have hmem:∀e∈es,e.1<1024∧e.2<1024∧e.1≠e.2∧((e.1:Int),lkS l (e.1:Int))∈l:=fun e he=>by
  obtain⟨h1,h2,h3⟩:=hin e he
  refine⟨bit_lt h2,bit_lt h3,by omega,?_⟩
  have h4:((e.1:Int),nbG g.2 (e.1:Int))∈l:=by
   rw[hl,nbL]
   exact List.mem_map.2 ⟨e.1,mem_elems.2 ⟨bit_lt h2,by rw[← hV];exact h2⟩,rfl⟩
  have h5:lkS l (e.1:Int)=nbG g.2 (e.1:Int):=by
   rw[hl,nbL,lkS_map (fun n=>nbG g.2 (n:Int)),if_pos (mem_elems.2 ⟨bit_lt h2,by rw[← hV];exact h2⟩)]
  rw[h5];exact h4
 have hgi:=girF_hi (lkS l) es
 have hT0:=hT.lt
 refine enterM (args:=[v]) (As:=[E v]) Tryz.func36 rfl Tryz.ntmps36 (Nat.le_of_ble_eq_true rfl) ?_ (fun a hf=>?_) (Nat.le_of_ble_eq_true rfl)
 ·exact arg1 rfl
 dsimp only[params,Nat.reduceAdd] at hf
 have e:=Ext.rfl' W
 refine seq <| regn0 <| tL I35 hf fun a b2 w e' hb2 hs2 B2 hf=>?_
 have hle2:=Nat.le_trans e.size (Nat.le_of_eq hb2.symm)
 obtain⟨hT,e⟩:=up2 e' hT e
 refine tl_nil ?_
 replace B2:Blk w b2 #[.slice none 0 0] 35:=B2
 have n2:W.heap.size≤b2:=hle2
 repeat refine seq ?_
 refine rgN 2 hf <| st (mv rfl) <| st (eqlP U26 (isE rfl (VA.st _ _ _ _ e hgd))) <| en fun a w e' hf=>?_
 obtain⟨hT,e,B2⟩:=up3 e' hT e B2
 refine tl_nil <| ifc hf rfl (fun h=>by cases h) (fun _=>?_)
 refine wskip ?_
 replace hf:=hf.kp [0,2]
 have e0:=e
 refine seq <| rgN 2 hf <| st (mv rfl) <| st (call1 (A:=AdjA l V 1024) En46 rfl (fun v w he k=>by cases k;rw[hl,hV];exact (of07_spec g _ w (hT.ext he) (VA.st _ _ _ _ (Ext.tr e0 he) hgd) gs1 gs2 hl1 hl2 hN).mono fun en w' ⟨k1,mq,k2,k3⟩=>⟨_,k2,k1,mq,rfl,k3⟩)) ?_
 refine en fun a w e' hf=>?_
 obtain⟨hT,e,B2⟩:=up3 e' hT e B2
 obtain⟨av,⟨mq,rfl,HV0⟩,hf⟩:=hf.opn 12 rfl
 obtain⟨cs,⟨bm0,nm0,rfl,_,hnm0,HM0⟩,hmq⟩:=HV0
 replace hmq:mq=.map (some bm0):=hmq
 subst hmq
 obtain⟨N1,hN1⟩:∃N1,N1=w.heap.size:=⟨_,rfl⟩
 have hN1s:N1≤w.heap.size:=Nat.le_of_eq hN1
 have hbm0:bm0<N1:=by rw[hN1];exact HM0.lt
 have hb2N:b2<N1:=by rw[hN1];exact B2.lt
 have hWN1:W.heap.size≤N1:=by rw[hN1];exact e.size
 replace hf:=hf.kp [0,2,12]
 have nm2:bm0≠b2:=HM0.neB B2
 refine tL I79 hf fun a b3 w e' hb3 hs3 B3 hf=>?_
 have hle3:=Nat.le_trans e.size (Nat.le_of_eq hb3.symm)
 have lo3_hN1s:=Nat.le_trans hN1s (Nat.le_of_eq hb3.symm)
 obtain⟨hT,HM0,hN1s,e,B2⟩:=up5 e' hT HM0 hN1s e B2
 have n3:N1≤b3:=lo3_hN1s
 refine tl_stW T79 hf rfl rfl (adC_one _ _) B3 rfl (adC_size _ _) fun w hg hsz B3 hf=>?_
 replace e:=e.gr hg (by omega);replace hT:=hT.gr hg (by omega);replace HM0:=HM0.gr hg (fun h=>by cases h;omega);replace B2:=B2.gr hg (by omega);replace hN1s:=Nat.le_trans hN1s hg.size;clear hg
 refine tl_nil ?_
 replace hf:=hf.kp [0,2,3]
 have e4:=e
 have hN4:=hN1s
 have l3':=B3.lt
 have l2':=B2.lt
 have hdv:=HM0.dvE hnm0 (G:=G0) (fun h=>h)
 obtain⟨n,hn⟩:∃n:Nat,girF (lkS l) es=(n:Int):=⟨(girF (lkS l) es).toNat,by omega⟩
 have hn2:n≤1026:=by omega
 refine seq <| rgG 5 Mix.mix hf <| st (ldW T79 rfl B3 (adC_size _ _)) <| st (mv rfl) <| st (call1 (A:=Dv (slE edE) G0 (es.map toI)) (B:=E v) En48 rfl (fun u w he k=>by cases k;rw[← hti];exact (ends_spec g v w (VA.st _ _ _ _ (Ext.tr e4 he) hgd) gs2 hl2 hN).mono fun en w' ⟨u,k1,k2,k3⟩=>⟨u,k1,k2,OwR.sl k3⟩)) ?_
 refine st (call2 (A:=E (I (n:Nat))) (B:=E (.agg (adC V (.map (some bm0))))) (C:=Dv (slE edE) G0 (es.map toI)) En84 rfl rfl (fun a b w he k1 k2=>by cases k1;rw[← hn];exact girth_spec l V es (.map (some bm0)) b w (hT.ext he) (Dv.ex hdv he) (by omega) hel k2 hmem)) ?_
 refine st (alD I3) <| en fun a w e' hf=>?_
 obtain⟨hT,HM0,hN1s,e,B2,B3⟩:=up6 e' hT HM0 hN1s e B2 B3
 obtain⟨v4,⟨b4,h4,rfl,B4⟩,hf⟩:=hf.fix 4 rfl
 have n4:N1≤b4∧b3≠b4∧b2≠b4:=⟨Nat.le_trans hN4 h4,by omega,by omega⟩
 replace hf:=hf.kp [2,3,4,16]
 refine tl_st1 T3 hf rfl rfl rfl B4 Nat.zero_lt_one fun w hg hsz B4 hf=>?_
 replace e:=e.gr hg (by omega);replace hT:=hT.gr hg (by omega);replace HM0:=HM0.gr hg (fun h=>by cases h;omega);replace B2:=B2.gr hg (by omega);replace B3:=B3.gr hg (by omega);replace hN1s:=Nat.le_trans hN1s hg.size;clear hg
 refine tl_nil ?_
 replace B4:Blk w b4 #[I (n:Nat)] 3:=B4
 replace hf:=hf.kp [2,3,4]
 by_cases hn0:n=0
 ·rw[shcF,if_pos (show girF (lkS l) es=0 by rw[hn,hn0];rfl)]
  repeat refine seq ?_
  refine rgN 2 hf <| st (ld1 (v:=I (n:Nat)) T3 rfl B4 rfl) <| st ((eql rfl rfl).eq (congrArg Value.bool (show ((n:Int)==0)=true by rw[hn0];rfl))) ?_
  refine en fun a w e' hf=>?_
  obtain⟨hT,HM0,hN1s,e,B2,B3,B4⟩:=up7 e' hT HM0 hN1s e B2 B3 B4
  refine tl_nil <| ifc hf rfl (fun _=>?_) (fun h=>by cases h)
  replace hf:=hf.kp [2]
  refine seq <| regn0 <| tl_st1 T35 hf rfl rfl rfl B2 Nat.zero_lt_one fun w hg hsz B2 hf=>?_
  replace e:=e.gr hg (by omega);clear hg
  refine tl_nil <| wret <| retc1M (D:=[]) rfl T35 hf rfl B2 (Ds.nil _) ⟨_,rfl,e,rfl⟩
 have hnz:((n:Int)==0)=false:=beq_eq_false_iff_ne.2 (by omega)
 have hgz:¬girF (lkS l) es=0:=by omega
 rw[shcF,if_neg hgz,hn,Int.toNat_natCast]
 repeat refine seq ?_
 refine rgN 2 hf <| st (ld1 (v:=I (n:Nat)) T3 rfl B4 rfl) <| st ((eql rfl rfl).eq (congrArg Value.bool (hnz))) <| en fun a w e' hf=>?_
 obtain⟨hT,HM0,hN1s,e,B2,B3,B4⟩:=up7 e' hT HM0 hN1s e B2 B3 B4
 refine tl_nil <| ifc hf rfl (fun h=>by cases h) (fun _=>?_)
 refine wskip ?_
 replace hf:=hf.kp [2,3,4]
 refine seq <| regn0 <| tP hf (fA U79 rfl T76 rfl) fun a w e' hf=>?_
 obtain⟨hT,HM0,hN1s,e,B2,B3,B4⟩:=up7 e' hT HM0 hN1s e B2 B3 B4
 refine tP hf ((ldP T76 rfl B3 (by rw[adC_size];decide)).eq (congrArg Value.agg (adC_set V (.map (some bm0))))) fun a w e' hf=>?_
 obtain⟨hT,HM0,hN1s,e,B2,B3,B4⟩:=up7 e' hT HM0 hN1s e B2 B3 B4
 refine tL I76 hf fun a b5 w e' hb5 hs5 B5 hf=>?_
 have lo5_hN1s:=Nat.le_trans hN1s (Nat.le_of_eq hb5.symm)
 have lt5_B2:=B2.lt
 have lt5_B3:=B3.lt
 have lt5_B4:=B4.lt
 obtain⟨hT,HM0,hN1s,e,B2,B3,B4⟩:=up7 e' hT HM0 hN1s e B2 B3 B4
 have n5:N1≤b5∧b3≠b5∧b4≠b5:=⟨lo5_hN1s,by omega⟩
 refine tl_stW T76 hf rfl rfl (wordsC_one _) B5 rfl (setC_size _) fun w hg hsz B5 hf=>?_
 replace e:=e.gr hg (by omega);replace hT:=hT.gr hg (by omega);replace HM0:=HM0.gr hg (fun h=>by cases h;omega);replace B2:=B2.gr hg (by omega);replace B3:=B3.gr hg (by omega);replace B4:=B4.gr hg (by omega);replace hN1s:=Nat.le_trans hN1s hg.size;clear hg
 refine tl_nil ?_
 replace hf:=hf.kp [2,3,4,5]
 obtain⟨Nz,hNz⟩:∃Nz,Nz=w.heap.size:=⟨_,rfl⟩
 repeat refine seq ?_
 refine rgN 3 hf <| st (fA U79 rfl T76 rfl) <| st ((ldP T76 rfl B3 (by rw[adC_size];decide)).eq (congrArg Value.agg (adC_set V (.map (some bm0))))) ?_
 refine st (call1 (A:=SeqA Nz V) En62 rfl (fun v w' he h=>by cases h;exact Calls.mono (all_spec _ w') (fun en w2 ⟨u,h1,h2,b',h3,h4,h5⟩=>⟨u,h1,h2,b',by have:=he.size;omega,h4,h5⟩))) ?_
 refine en fun a w e' hf=>?_
 obtain⟨hT,HM0,hN1s,e,B2,B3,B4,B5⟩:=up8 e' hT HM0 hN1s e B2 B3 B4 B5
 refine tl_nil ?_
 obtain⟨vv,⟨b23,h23,rfl,BS⟩,hf⟩:=hf.fix 23 rfl
 replace hf:=hf.kp [2,3,4,5,23]
 obtain⟨nb,hnb'⟩:∃nb,nb=lkS l:=⟨_,rfl⟩
 rw[← hnb']
 have hBW:W.heap.size≤w.heap.size:=e.size
 have h0w:0<w.heap.size:=hT.lt
 have l2:=B2.lt
 have l3:=B3.lt
 have l4:=B4.lt
 have l5:=B5.lt
 have lm:=HM0.lt
 refine blk <| range_all3 (S:=V) hf rfl BS (by decide) (fun s w1=>ScJ W nm0 bm0 l V b2 b3 b4 b5 n (.slice none 0 0) (delL V s) w1∧(∀rest,elems V=s++rest→scL nb V n (elems V) V=scL nb V n rest (delL V s)))
  (fun ex w1=>ex=.ret∧∃r out left,ScJ W nm0 bm0 l V b2 b3 b4 b5 n r left w1∧scL nb V n (elems V) V=some out∧out≠[]∧(Dv (slE intE) (fun b=>b<w.heap.size+3) (natE out)).p r w1) (fun s w1 h=>h.1.t)
  ⟨⟨e,hT,HM0,B2,B3,B4,B5⟩,fun rest hr=>by rw[List.nil_append] at hr;rw[← hr];rfl⟩ (fun s w1 w2 h hs k=>⟨h.1.kp k hBW h0w l2 l3 l4 l5 lm,h.2⟩)
  (fun ex w1 w2 ⟨q1,r,out,left,q2,q3,q4,q5⟩ hs k=>⟨q1,r,out,left,q2.kp k hBW h0w l2 l3 l4 l5 lm,q3,q4,Dv.ch q5 k.chg fun b hb=>hb.2⟩) ?_ ?_ ?_
 ·intro lp s x rest a1 w1 hs hJ hlw hf
  have hxV:V.getLsbD x=true:=(mem_elems.1 (by rw[hs];simp)).2
  have hx1024:x<1024:=bit_lt hxV
  generalize hBz:w.heap.size=Bz at *
  refine regn0 <| tA hf rfl fun a hf=>tl_nil <| ⟨Kh.rfl' _ _,fun w3 k3 hsz3=>?_⟩
  have hJ3:=hJ.1.kp k3 hBW h0w l2 l3 l4 l5 lm
  have hJs:=hJ.2
  have hw3:Bz+3≤w3.heap.size:=by omega
  replace hf:=hf.pure w3
  obtain⟨e,hT,HM0,B2,B3,B4,B5⟩:=hJ3
  have kh:=Kh.rfl' Bz w3
  obtain⟨left,hleft⟩:∃left,left=delL V s:=⟨_,rfl⟩
  have hdl:delL V (s++[x])=del left (x:Int):=by rw[delL_app,hleft]
  have hsc:=hJs (x::rest) hs
  rw[← hleft] at B5 hsc
  rw[scL] at hsc
  obtain⟨o,ho⟩:∃o,o=extF (nbWi nb (V &&& left)) x n n [x]:=⟨_,rfl⟩
  rw[← ho] at hsc
  have hwi:=lk_wi l (V &&& left)
  rw[← hnb'] at hwi
  have hdv:=HM0.dvE hnm0 (G:=G0) (fun h=>h)
  replace hf:=hf.kp [2,3,4,5,6]
  refine blk ?_
  have e10:=e
  refine seq <| rgN 3 hf <| st (ldW T79 rfl B3 (adC_size _ _)) <| st ((ldW T76 rfl B5 rfl).eq ((rfl:_=setV left))) <| st (call2 (A:=AdjA (wiL l (V &&& left)) (V &&& left) 1024) (B:=E (.agg (adC V (.map (some bm0))))) (C:=E (setV left)) En58 rfl rfl (fun a b w he k1 k2=>by cases k1;cases k2;exact within_spec l V left (.map (some bm0)) w (hT.ext he) (Dv.ex hdv he))) ?_
  refine en fun a w e' hf=>?_
  obtain⟨hT,HM0⟩:=up2 e' hT HM0
  replace kh:=kh.tr (Kh.ext e')
  obtain⟨hw3,e,B2,B3,B4,B5⟩:=up6 e' hw3 e B2 B3 B4 B5
  obtain⟨av,⟨mq7,rfl,HV7⟩,hf⟩:=hf.opn 27 rfl
  obtain⟨cs7,⟨bm7,nm7,rfl,_,hnm7,HM7⟩,hmq7⟩:=HV7
  replace hmq7:mq7=.map (some bm7):=hmq7
  subst hmq7
  have hbn7:bm7≠b5:=HM7.neB B5
  replace hf:=hf.kp [2,3,4,5,6,27]
  obtain⟨N7,hN7⟩:∃N7,N7=w.heap.size:=⟨_,rfl⟩
  have hN7s:N7≤w.heap.size:=Nat.le_of_eq hN7
  have hl7:b2<N7∧b3<N7∧b4<N7∧b5<N7∧bm0<N7∧bm7<N7∧Bz+3≤N7:=by have:=HM7.lt;omega
  refine tL I79 hf fun a b7 w e' hb7 hs7 B7 hf=>?_
  have hle7:=Nat.le_trans e.size (Nat.le_of_eq hb7.symm)
  have lo7_hN7s:=Nat.le_trans hN7s (Nat.le_of_eq hb7.symm)
  obtain⟨hT,HM0,HM7⟩:=up3 e' hT HM0 HM7
  replace kh:=kh.tr (Kh.ext e')
  obtain⟨hN7s,e,B2,B3,B4,B5⟩:=up6 e' hN7s e B2 B3 B4 B5
  have n7:N7≤b7:=lo7_hN7s
  refine tl_stW T79 hf rfl rfl (adC_one _ _) B7 rfl (adC_size _ _) fun w hg hsz B7 hf=>?_
  replace e:=e.gr hg (by omega);replace hT:=hT.gr hg (by omega);replace HM0:=HM0.gr hg (fun h=>by cases h;omega);replace HM7:=HM7.gr hg (fun h=>by cases h;omega);replace B2:=B2.gr hg (by omega);replace B3:=B3.gr hg (by omega);replace B4:=B4.gr hg (by omega);replace B5:=B5.gr hg (by omega);replace kh:=kh.tr (Kh.gr hg (fun hh=>by have:=hh.2;omega));clear hg hN7s
  refine tl_nil ?_
  replace hf:=hf.kp [2,3,4,5,6,7]
  refine seq <| rgN 3 hf <| st ((ldW T76 rfl B5 rfl).eq ((rfl:_=setV left))) <| st (mv rfl) <| st (call2 (A:=E (setV (del left (x:Int)))) (B:=E (setV left)) (C:=E (I (x:Nat))) En59 rfl rfl (fun v u w he h h'=>by cases h;cases h';exact without_spec _ _ w)) ?_
  refine en fun a w e' hf=>?_
  obtain⟨hT,HM0,HM7⟩:=up3 e' hT HM0 HM7
  replace kh:=kh.tr (Kh.ext e')
  obtain⟨e,B2,B3,B4,B5,B7⟩:=up6 e' e B2 B3 B4 B5 B7
  refine tl_stW T76 hf rfl rfl (wordsC_one _) B5 (setC_size _) (setC_size _) fun w hg hsz B5 hf=>?_
  replace e:=e.gr hg (by omega);replace hT:=hT.gr hg (by omega);replace HM0:=HM0.gr hg (fun h=>by cases h;omega);replace HM7:=HM7.gr hg (fun h=>by cases h;omega);replace B2:=B2.gr hg (by omega);replace B3:=B3.gr hg (by omega);replace B4:=B4.gr hg (by omega);replace B7:=B7.gr hg (by omega);replace kh:=kh.tr (Kh.gr hg (fun hh=>by have:=hh.1;omega));clear hg
  refine tl_nil ?_
  replace hf:=hf.kp [2,3,4,5,6,7]
  obtain⟨S7,hS7⟩:∃S7,S7=V &&& left:=⟨_,rfl⟩
  rw[← hS7] at B7 HM7 hwi ho
  obtain⟨N8,hN8⟩:∃N8,N8=w.heap.size:=⟨_,rfl⟩
  have hN8s:N8≤w.heap.size:=Nat.le_of_eq hN8
  have hN8b:Bz+3≤N8:=by have:=kh.size;omega
  have hdv7:=HM7.dvE hnm7 (G:=G0) (fun h=>h)
  refine seq <| rgN 4 hf <| st (ldW T79 rfl B7 (adC_size _ _)) <| st (mv rfl) <| st (ld1 (v:=I (n:Nat)) T3 rfl B4 rfl) <| st (call3 (A:=CyA (fun b=>b<N8) o) (B:=E (.agg (adC S7 (.map (some bm7))))) (C:=E (I (x:Nat))) (D:=E (I (n:Nat))) En85 rfl rfl rfl (fun a b c w he k1 k2 k3=>by cases k1;cases k2;cases k3;rw[ho,← hwi];exact (cycle_spec (wiL l S7) S7 (.map (some bm7)) x n w (hT.ext he) (Dv.ex hdv7 he) hx1024 (by omega) (by omega)).mono fun en w' ⟨z,q1,q2,q3⟩=>⟨z,q1,q2,CyA_weak (fun b hb=>Nat.lt_of_lt_of_le hb (Nat.le_trans hN8s he.size)) q3⟩)) ?_
  refine en fun a w e' hf=>?_
  obtain⟨hT,HM0⟩:=up2 e' hT HM0
  replace kh:=kh.tr (Kh.ext e')
  obtain⟨e,B2,B3,B4,B5⟩:=up5 e' e B2 B3 B4 B5
  refine tA hf rfl fun a hf=>tl_nil ?_
  obtain⟨r,hr,hf⟩:=hf.opn 8 rfl
  replace hf:=hf.kp [2,3,4,5,6,8]
  cases o with
  | none=>
   obtain rfl:r=.slice none 0 0:=hr
   refine seq <| rgN 2 hf <| st (mv rfl) <| st (neqNil U35 rfl) <| en fun a w e' hf=>?_
   obtain⟨hT,HM0⟩:=up2 e' hT HM0
   replace kh:=kh.tr (Kh.ext e')
   obtain⟨e,B2,B3,B4,B5⟩:=up5 e' e B2 B3 B4 B5
   refine tl_nil <| ifc hf rfl (fun h=>by cases h) (fun _=>?_)
   refine wskip <| ⟨⟨⟨e,hT,HM0,B2,B3,B4,by rw[hdl];exact B5⟩,fun rest' hr'=>by
    have:rest'=rest:=by rw[hs,List.append_assoc] at hr';simpa using hr'.symm
    rw[this,hdl];exact hsc⟩,kh⟩
  | some out=>
   obtain⟨hr1,hr2⟩:=hr
   have hro:r.oneCell'=true:=Dv.slOne hr2
   have hne2:natE out≠[]:=fun h=>hr1 (by rw[natE] at h;exact List.map_eq_nil_iff.1 h)
   obtain⟨ad,n',c',hre⟩:=slSome hr2 hne2
   have HR:(Dv (slE intE) (fun b=>b<Bz+3) (natE out)).p r w:=Dv.weak hr2 fun b _ hb=>by omega
   subst hre
   refine seq <| rgN 2 hf <| st (mv rfl) <| st (neqNil U35 rfl) <| en fun a w e' hf=>?_
   obtain⟨hT,HM0⟩:=up2 e' hT HM0
   replace kh:=kh.tr (Kh.ext e')
   obtain⟨HR,e,B2,B3,B4,B5⟩:=up6 e' HR e B2 B3 B4 B5
   refine tl_nil <| ifc hf rfl (fun _=>?_) (fun h=>by cases h)
   refine seq <| rgN 1 hf <| st (mv rfl) <| en fun a w e' hf=>?_
   obtain⟨hT,HM0⟩:=up2 e' hT HM0
   replace kh:=kh.tr (Kh.ext e')
   obtain⟨HR,e,B2,B3,B4,B5⟩:=up6 e' HR e B2 B3 B4 B5
   refine tl_st1 T35 hf rfl rfl hro B2 Nat.zero_lt_one fun w hg hsz B2 hf=>?_
   replace e:=e.gr hg (by omega);replace hT:=hT.gr hg (by omega);replace HM0:=HM0.gr hg (fun h=>by cases h;omega);replace B3:=B3.gr hg (by omega);replace B4:=B4.gr hg (by omega);replace B5:=B5.gr hg (by omega);replace HR:=Dv.gr HR hg (by omega);replace kh:=kh.tr (Kh.gr hg (fun hh=>by have:=hh.1;omega));clear hg
   refine tl_nil <| wret <| ⟨⟨rfl,_,out,_,⟨e,hT,HM0,B2,B3,B4,B5⟩,hsc,hr1,HR⟩,kh⟩
 ·intro a' w' hf' hJ hsz hDn
  simp only[Exit.inBlock,↓reduceIte,Exit.then]
  have hfs:=hJ.2 [] (by rw[List.append_nil])
  rw[hfs,scL]
  have hD:Ds [w.heap.size] w':=(Ds.nil w').cons hDn (by simp)
  have hf:FrD 38 (marks [w.heap.size]) a' w' [(2,E (ptr b2))]:=hf'.keep [2]
  have hDW:∀d∈[w.heap.size],W.heap.size≤d:=fun d hd=>by rw[List.mem_singleton] at hd;omega
  obtain⟨e,hT,HM0,B2,B3,B4,B5⟩:=hJ.1
  have hb2:=hD.ne B2
  generalize [w.heap.size]=D2 at *
  generalize w'=w at *
  refine seq <| regn0 <| tl_st1 T35 hf rfl rfl rfl B2 Nat.zero_lt_one fun w hg hsz B2 hf=>?_
  replace e:=e.gr hg (by omega)
  replace hD:=hD.gr hg hb2
  refine tl_nil <| wret <| retc1M rfl T35 hf rfl B2 hD ⟨_,rfl,e.shut hDW,rfl⟩
 ·intro ex c a' w' hcd hf' hX hsz hDn
  obtain⟨rfl,r,out,left,hJ,hfs,hr1,HR⟩:=hX
  simp only[Exit.inBlock,↓reduceIte,Exit.then]
  rw[hfs]
  have hD:Ds [w.heap.size] w':=(Ds.nil w').cons hDn (by simp)
  have hf:FrD 38 (marks [w.heap.size]) a' w' [(2,E (ptr b2))]:=hf'.keep [2]
  have hDW:∀d∈[w.heap.size],W.heap.size≤d:=fun d hd=>by rw[List.mem_singleton] at hd;omega
  refine retc1M rfl T35 hf rfl hJ.p2 hD ⟨_,rfl,hJ.e.shut hDW,hr1,?_⟩
  exact Dv.weak (Dv.ch HR (chg_shut _ _) fun b hb=>by rw[List.mem_singleton] at hb;show b<_;omega) fun b _ hb=>hb.elim
theorem delL_bit:∀(s:List Nat) (V:BS) (i:Nat),(∀x∈s,x<1024)→((delL V s).getLsbD i=true↔V.getLsbD i=true∧i ∉ s)
 | [],V,i,_=>by rw[delL,List.foldl_nil];simp
 | x::s,V,i,hs=>by
  have h1:delL V (x::s)=delL (del V (x:Int)) s:=by rw[delL,List.foldl_cons,delL]
  rw[h1,delL_bit s _ i fun y hy=>hs y (by simp[hy]),bit_del _ (hs x (by simp))]
  simp only[List.mem_cons,not_or,and_assoc]
theorem nbWi_bit {nb:Int→BS}{S:BS}{i j:Nat}:(nbWi nb S (i:Int)).getLsbD j=true↔S.getLsbD i=true∧(nb (i:Int)).getLsbD j=true∧S.getLsbD j=true:=by
 rw[nbWi]
 split
 ·rename_i h
  rw[bit_and]
  exact⟨fun hh=>⟨(has_bit S i).1 h,hh⟩,fun hh=>hh.2⟩
 ·rename_i h
  exact⟨fun hh=>absurd hh (bit_zero j),fun hh=>absurd ((has_bit S i).2 hh.1) h⟩
theorem scL_found {nb:Int→BS}{V:BS}{n a:Nat}:∀(rest s:List Nat),elems V=s++rest→a∈rest→(∀s' r',elems V=s'++a::r'→extF (nbWi nb (V &&& delL V s')) a n n [a]≠none)→scL nb V n rest (delL V s)≠none
 | [],s,_,ha,_=>by cases ha
 | x::r,s,he,ha,hf=>by
  rw[scL]
  cases ho:extF (nbWi nb (V &&& delL V s)) x n n [x] with
  | some o=>simp
  | none=>
   have hxa:x≠a:=fun h=>by
    subst h
    exact hf s r he ho
   rw[← delL_app]
   exact scL_found r (s++[x]) (by rw[he,List.append_assoc];rfl) ((List.mem_cons.1 ha).resolve_left (Ne.symm hxa)) hf
def cpt (nb:Int→BS)(a:Nat):BS:=unL (lvB nb a)
section
variable {nb:Int→BS}{V:BS}
theorem cpt_mem {a:Nat}(ha:a<1024):(cpt nb a).getLsbD a=true:=(lvB_ok (nb:=nb) ha).1
theorem cpt_cl {a:Nat}(ha:a<1024):∀i j:Nat,(cpt nb a).getLsbD i=true→(nb (i:Int)).getLsbD j=true→(cpt nb a).getLsbD j=true:=(lvB_ok (nb:=nb) ha).2.1
theorem cpt_least {a:Nat}(ha:a<1024)(K:BS)(hK:K.getLsbD a=true)(hc:∀i j:Nat,K.getLsbD i=true→(nb (i:Int)).getLsbD j=true→K.getLsbD j=true):∀i,(cpt nb a).getLsbD i=true→K.getLsbD i=true:=(lvB_ok (nb:=nb) ha).2.2 K hK hc
theorem cpt_symm (hs:∀i j:Nat,(nb (i:Int)).getLsbD j=true→(nb (j:Int)).getLsbD i=true){a b:Nat}(ha:a<1024)(h:(cpt nb a).getLsbD b=true):(cpt nb b).getLsbD a=true:=by
 have hb:b<1024:=bit_lt h
 refine Classical.byContradiction fun hn=>?_
 have key:=cpt_least (nb:=nb) ha (cpt nb a &&& ~~~cpt nb b) ((bit_diff _ _ _).2 ⟨cpt_mem ha,hn⟩) (fun i j hi hij=>by
  obtain⟨h1,h2⟩:=(bit_diff _ _ _).1 hi
  exact (bit_diff _ _ _).2 ⟨cpt_cl ha i j h1 hij,fun hh=>h2 (cpt_cl hb j i hh (hs i j hij))⟩) b h
 exact ((bit_diff _ _ _).1 key).2 (cpt_mem hb)
theorem cpt_eq (hs:∀i j:Nat,(nb (i:Int)).getLsbD j=true→(nb (j:Int)).getLsbD i=true){a b:Nat}(ha:a<1024)(h:(cpt nb a).getLsbD b=true):cpt nb b=cpt nb a:=by
 have hb:b<1024:=bit_lt h
 exact set_ext' fun i=>⟨cpt_least hb _ h (cpt_cl ha) i,cpt_least ha _ (cpt_symm hs ha h) (cpt_cl hb) i⟩
end
section
variable {nb:Int→BS}
def dsT (nb:Int→BS)(b x:Nat):Int:=farF (lvB nb b) x
theorem one_bit {a:Nat}(ha:a<1024)(i:Nat):(ins 0 (a:Int)).getLsbD i=true↔i=a:=by
 rw[bit_ins _ ha]
 exact⟨fun h=>h.resolve_left (bit_zero i),.inr⟩
theorem ds_walk {b m:Nat}(hb:b<1024)(q:Nat→Nat)(h0:q 0=b)(hq:∀i,i<m→(nb (q i:Int)).getLsbD (q (i+1))=true):0≤dsT nb b (q m)∧dsT nb b (q m)≤m:=by
 obtain⟨k,T,h1,h2,h3⟩:=lv_far hb q h0 m hq
 have:=farF_le h2 h3
 rw[dsT];omega
theorem ds_path {b x k:Nat}(hb:b<1024)(h:dsT nb b x=(k:Int)):∃q:Nat→Nat,q 0=b∧q k=x∧∀i,i<k→(nb (q i:Int)).getLsbD (q (i+1))=true:=by
 obtain⟨T,h1,h2⟩:=farF_some h
 rw[lvB] at h1
 obtain⟨p,p1,p2,_,p4⟩:=lv_path _ _ _ _ _ _ h1 h2
 exact⟨p,(one_bit hb _).1 p1,p2,p4⟩
theorem ds_lo (b x:Nat) : -1≤dsT nb b x:=farF_lo _ _
theorem ds_level {b x k:Nat}:dsT nb b x=(k:Int)↔∃T,(lvB nb b)[k]?=some T∧T.getLsbD x=true:=by
 refine⟨farF_some,fun⟨T,h1,h2⟩=>?_⟩
 obtain⟨h3,h4⟩:=farF_le h1 h2
 obtain⟨j,hj⟩:∃j:Nat,farF (lvB nb b) x=(j:Int):=⟨(farF (lvB nb b) x).toNat,by omega⟩
 obtain⟨U,h5,h6⟩:=farF_some hj
 rw[dsT,hj]
 by_cases hjk:j=k
 ·rw[hjk]
 ·rw[lvB] at h1 h5
  exact absurd h2 (lv_dis _ _ _ (fun i h=>h) j k x U T (by omega) h5 h1 h6)
section
theorem ds_step {b x y:Nat}(hb:b<1024)(hx:0≤dsT nb b x)(h:(nb (x:Int)).getLsbD y=true):0≤dsT nb b y∧dsT nb b y≤dsT nb b x+1:=by
 obtain⟨k,hk⟩:∃k:Nat,dsT nb b x=(k:Int):=⟨(dsT nb b x).toNat,by omega⟩
 obtain⟨q,q0,qk,hq⟩:=ds_path hb hk
 have:=ds_walk (nb:=nb) (m:=k+1) hb (fun i=>if i=k+1 then y else q i) (by simpa using q0) fun i hi=>by
  by_cases hik:i=k
  ·subst hik;simp[qk,h]
  ·have h1:¬i=k+1:=by omega
   have h2:¬i+1=k+1:=by omega
   simp only[h1,h2,if_false]
   exact hq i (by omega)
 simp only[if_true] at this
 omega
theorem ds_back (hs:∀i j:Nat,(nb (i:Int)).getLsbD j=true→(nb (j:Int)).getLsbD i=true){b x k:Nat}(hb:b<1024)(h:dsT nb b x=((k+1:Nat):Int)):∃y,(nb (x:Int)).getLsbD y=true∧dsT nb b y=(k:Int):=by
 obtain⟨q,q0,qk,hq⟩:=ds_path hb h
 have h1:=ds_walk (nb:=nb) (m:=k) hb q q0 fun i hi=>hq i (by omega)
 have h2:=hq k (by omega)
 rw[qk] at h2
 have h3:=ds_step hb h1.1 h2
 exact⟨q k,hs _ _ h2,by omega⟩
theorem ds_rev (hs:∀i j:Nat,(nb (i:Int)).getLsbD j=true→(nb (j:Int)).getLsbD i=true){a b k:Nat}(ha:a<1024)(hb:b<1024)(h:dsT nb a b=(k:Int)):0≤dsT nb b a∧dsT nb b a≤k:=by
 obtain⟨q,q0,qk,hq⟩:=ds_path ha h
 have:=ds_walk (nb:=nb) (m:=k) hb (fun i=>q (k - i)) (by simpa using qk) fun i hi=>by
  have h1:=hs _ _ (hq (k - i - 1) (by omega))
  rw[show k - i - 1+1=k - i by omega] at h1
  rw[show k - (i+1)=k - i - 1 by omega]
  exact h1
 simpa[q0] using this
theorem ds_symm (hs:∀i j:Nat,(nb (i:Int)).getLsbD j=true→(nb (j:Int)).getLsbD i=true){a b:Nat}(ha:a<1024)(hb:b<1024):dsT nb a b=dsT nb b a:=by
 have h1:=ds_lo (nb:=nb) a b
 have h2:=ds_lo (nb:=nb) b a
 by_cases h3:dsT nb a b = -1
 ·by_cases h4:dsT nb b a = -1
  ·rw[h3,h4]
  ·have:=ds_rev hs hb ha (k:=(dsT nb b a).toNat) (by omega);omega
 ·have h5:=ds_rev hs ha hb (k:=(dsT nb a b).toNat) (by omega)
  have h6:=ds_rev hs hb ha (k:=(dsT nb b a).toNat) (by omega)
  omega
theorem ds_some {a b:Nat}:dsT nb a b = -1↔¬(cpt nb a).getLsbD b=true:=farF_none
def geF (nb:Int→BS)(L:List BS):Nat→Nat→List Nat
 | 0,_=>[]
 | n+1,a=>(minOf (nb (a:Int) &&& gs L n)).getD 0::geF nb L n ((minOf (nb (a:Int) &&& gs L n)).getD 0)
theorem last_app (l:List Nat)(x:Nat):(l++[x]).getLastD 0=x:=by simp[List.getLastD_eq_getLast?]
end
end
theorem nd_lenI:∀(l m:List Int),l.Nodup→(∀x∈l,x∈m)→l.length≤m.length
 | [],m,_,_=>Nat.zero_le _
 | x::l,m,hn,hs=>by
  have hx:=hs x (List.mem_cons_self ..)
  have h1:=nd_lenI l (m.erase x) (List.nodup_cons.1 hn).2 fun y hy=>(List.mem_erase_of_ne (fun h=>(List.nodup_cons.1 hn).1 (by rw[← h];exact hy))).2 (hs y (List.mem_cons_of_mem _ hy))
  have h2:=List.length_erase_of_mem hx
  have h3:=List.length_pos_of_mem hx
  rw[List.length_cons];omega
def lsF:List Nat→List Nat→Bool
 | x::a,y::b=>if x=y then lsF a b else decide (x<y)
 | [],_::_=>true
 | _,[]=>false
theorem lsF_irr:∀a,lsF a a=false
 | []=>rfl
 | x::a=>by rw[lsF,if_pos rfl];exact lsF_irr a
theorem lsF_tr:∀{a b c:List Nat},lsF a b=true→lsF b c=true→lsF a c=true
 | [],[],_,h,_=>by cases h
 | [],_::_,[],_,h=>by simp[lsF] at h
 | [],_::_,_::_,_,_=>rfl
 | _::_,[],_,h,_=>by simp[lsF] at h
 | _::_,_::_,[],_,h=>by simp[lsF] at h
 | x::a,y::b,z::c,h,k=>by
  rw[lsF] at h k ⊢
  by_cases h1:x=y
  ·by_cases h2:y=z
   ·rw[if_pos h1] at h;rw[if_pos h2] at k;rw[if_pos (h1.trans h2)];exact lsF_tr h k
   ·rw[if_neg h2] at k;rw[if_neg (by omega),h1];exact k
  ·rw[if_neg h1] at h
   have:=of_decide_eq_true h
   by_cases h2:y=z
   ·rw[if_neg (by omega)];exact decide_eq_true (by omega)
   ·rw[if_neg h2] at k
    have:=of_decide_eq_true k
    rw[if_neg (by omega)];exact decide_eq_true (by omega)
theorem lsF_tot:∀{a b:List Nat},lsF a b=false→lsF b a=false→a=b
 | [],[],_,_=>rfl
 | [],_::_,h,_=>by cases h
 | _::_,[],_,h=>by cases h
 | x::a,y::b,h,k=>by
  rw[lsF] at h k
  by_cases h1:x=y
  ·rw[if_pos h1] at h;rw[if_pos h1.symm] at k;rw[h1,lsF_tot h k]
  ·rw[if_neg h1] at h;rw[if_neg (Ne.symm h1)] at k
   have:=of_decide_eq_false h;have:=of_decide_eq_false k;omega
theorem lsF_app (w a b:List Nat):lsF (w++a) (w++b)=lsF a b:=by
 induction w with
 | nil=>rfl
 | cons x w ih=>rw[List.cons_append,List.cons_append,lsF,if_pos rfl,ih]
def btr (a b:List Nat):Bool:=decide (a.length<b.length) || (decide (a.length=b.length)&&lsF a b)
theorem btr_iff {a b:List Nat}:btr a b=true↔a.length<b.length∨(a.length=b.length∧lsF a b=true):=by
 rw[btr,Bool.or_eq_true,Bool.and_eq_true,decide_eq_true_eq,decide_eq_true_eq]
theorem btr_irr (a:List Nat):btr a a=false:=by
 cases h:btr a a with
 | false=>rfl
 | true=>
  rcases btr_iff.1 h with h|⟨_,h⟩
  ·omega
  ·rw[lsF_irr] at h;cases h
theorem btr_tr {a b c:List Nat}(h:btr a b=true)(k:btr b c=true):btr a c=true:=by
 rw[btr_iff] at *
 rcases h with h|⟨h,h'⟩ <;> rcases k with k|⟨k,k'⟩
 ·exact .inl (by omega)
 ·exact .inl (by omega)
 ·exact .inl (by omega)
 ·exact .inr ⟨by omega,lsF_tr h' k'⟩
theorem btr_tot {a b:List Nat}(h:btr a b=false)(k:btr b a=false):a=b:=by
 rw[← Bool.not_eq_true,btr_iff] at h k
 have hl:a.length=b.length:=by omega
 exact lsF_tot (by cases hh:lsF a b with|false=>rfl|true=>exact absurd (.inr ⟨hl,hh⟩) h) (by cases hh:lsF b a with|false=>rfl|true=>exact absurd (.inr ⟨hl.symm,hh⟩) k)
def ods (odd:Bool)(c:List Nat):Bool:=odd&&decide (c.length % 2=0)
def shO (best:Option (List Nat))(c:List Nat):Option (List Nat):=match best with
 | none=>some c
 | some b=>if btr c b=true then some c else some b
def shS (odd:Bool)(best:Option (List Nat))(c:List Nat):Option (List Nat):=if ods odd c=true then best else shO best c
def shF (odd:Bool)(l:List (List Nat)):Option (List Nat):=l.foldl (shS odd) none
theorem shTo (odd:Bool):∀(l:List (List Nat)) (best:Option (List Nat)),(l.foldl (shS odd) best=none↔best=none∧∀c∈l,ods odd c=true) ∧
  ∀b,l.foldl (shS odd) best=some b→(best=some b∨(b∈l∧ods odd b=false))∧(∀b0,best=some b0→btr b0 b=false)∧∀c∈l,ods odd c=false→btr c b=false
 | [],best=>⟨⟨fun h=>⟨h,fun c hc=>by cases hc⟩,fun h=>h.1⟩,fun b h=>⟨.inl h,fun b0 h0=>by rw[List.foldl_nil,h0] at h;cases h;exact btr_irr _,fun c hc=>by cases hc⟩⟩
 | c::l,best=>by
  obtain⟨h1,h2⟩:=shTo odd l (shS odd best c)
  rw[List.foldl_cons]
  cases ho:ods odd c with
  | true=>
   have hs:shS odd best c=best:=by rw[shS,if_pos ho]
   rw[hs] at h1 h2 ⊢
   refine⟨h1.trans ⟨fun h=>⟨h.1,fun d hd=>(List.mem_cons.1 hd).elim (fun h=>by rw[h,ho]) (h.2 d)⟩,fun h=>⟨h.1,fun d hd=>h.2 d (List.mem_cons.2 (.inr hd))⟩⟩,fun b hb=>?_⟩
   obtain⟨k1,k2,k3⟩:=h2 b hb
   exact⟨k1.imp id fun h=>⟨List.mem_cons.2 (.inr h.1),h.2⟩,k2,fun d hd hd'=>(List.mem_cons.1 hd).elim (fun h=>by rw[h,ho] at hd';cases hd') fun h=>k3 d h hd'⟩
  | false=>
   have hs:shS odd best c=shO best c:=by rw[shS,if_neg (by rw[ho];decide)]
   rw[hs] at h1 h2 ⊢
   obtain⟨b1,hb1,hc1,hb0⟩:∃b1,shO best c=some b1∧btr c b1=false∧((best=some b1∨b1=c)∧∀b0,best=some b0→btr b0 b1=false):=by
    cases best with
    | none=>exact⟨c,rfl,btr_irr c,.inr rfl,fun b0 h=>by cases h⟩
    | some b=>
     rw[shO]
     cases hh:btr c b with
     | true=>exact⟨c,by rw[if_pos rfl],btr_irr c,.inr rfl,fun b0 h=>by
       cases h
       cases hk:btr b c with
       | false=>rfl
       | true=>have:=btr_tr hh hk;rw[btr_irr] at this;cases this⟩
     | false=>exact⟨b,by rw[if_neg (by decide)],hh,.inl rfl,fun b0 h=>by cases h;exact btr_irr _⟩
   rw[hb1] at h1 h2 ⊢
   refine⟨h1.trans ⟨fun h=>(by cases h.1),fun h=>by rw[h.2 c (List.mem_cons.2 (.inl rfl))] at ho;cases ho⟩,fun b hb=>?_⟩
   obtain⟨k1,k2,k3⟩:=h2 b hb
   have k4:=k2 b1 rfl
   have up:∀d,btr d b1=false→btr d b=false:=fun d hd=>by
    cases hh:btr d b with
    | false=>rfl
    | true=>
     by_cases he:b=b1
     ·rw[he,hd] at hh;cases hh
     ·cases h5:btr b b1 with
      | true=>rw[btr_tr hh h5] at hd;cases hd
      | false=>exact absurd (btr_tot h5 k4) he
   refine⟨?_,fun b0 h0=>up b0 (hb0.2 b0 h0),fun d hd hd'=>(List.mem_cons.1 hd).elim (fun h=>by rw[h];exact up c hc1) fun h=>k3 d h hd'⟩
   rcases k1 with h|h
   ·cases h
    rcases hb0.1 with h|h
    ·exact .inl h
    ·exact .inr ⟨by rw[h];exact List.mem_cons.2 (.inl rfl),by rw[h];exact ho⟩
   ·exact .inr ⟨List.mem_cons.2 (.inr h.1),h.2⟩
theorem shF_none {odd:Bool}{l:List (List Nat)}:shF odd l=none↔∀c∈l,ods odd c=true:=(shTo odd l none).1.trans ⟨fun h=>h.2,fun h=>⟨rfl,h⟩⟩
theorem shF_is {odd:Bool}{l:List (List Nat)}{o:List Nat}(h1:o∈l)(h2:ods odd o=false)(h3:∀c∈l,ods odd c=false→btr c o=false):shF odd l=some o:=by
 cases hh:shF odd l with
 | none=>have:=shF_none.1 hh o h1;rw[h2] at this;cases this
 | some b=>
  obtain⟨k1,_,k3⟩:=(shTo odd l none).2 b hh
  obtain⟨k4,k5⟩:=k1.resolve_left (by simp)
  rw[btr_tot (h3 b k4 k5) (k3 o h1 h2)]
def CyL (nb:Int→BS)(c:List Nat):Prop:=Cyc nb (fun i=>c.getD i 0) c.length
structure CyM (nb:Int→BS)(c:List Nat):Prop where
 cyc:CyL nb c
 min:∀i,0<i→i<c.length→c.getD 0 0<c.getD i 0
 dir:c.getD 1 0<c.getD (c.length - 1) 0
theorem getD_app1 {w:List Nat}{x i:Nat}(h:i<w.length):(w++[x]).getD i 0=w.getD i 0:=by rw[List.getD_eq_getElem?_getD,List.getD_eq_getElem?_getD,List.getElem?_append_left h]
theorem getD_app2 {w:List Nat}{x i:Nat}(h:i=w.length):(w++[x]).getD i 0=x:=by subst h;simp
theorem getD_last (w:List Nat):w.getLastD 0=w.getD (w.length - 1) 0:=by
 rw[List.getLastD_eq_getLast?,List.getLast?_eq_getElem?,List.getD_eq_getElem?_getD]
theorem getD_mem {w:List Nat}{i:Nat}(h:i<w.length):w.getD i 0∈w:=by
 rw[List.getD_eq_getElem?_getD,List.getElem?_eq_getElem h];exact List.getElem_mem h
theorem getD_at {w:List Nat}{x:Nat}(h:x∈w):∃i,i<w.length∧w.getD i 0=x:=by
 obtain⟨i,hi,he⟩:=List.getElem_of_mem h
 exact⟨i,hi,by rw[List.getD_eq_getElem?_getD,List.getElem?_eq_getElem hi,he];rfl⟩
structure Pth (nb:Int→BS)(w:List Nat):Prop where
 inj:∀i j,i<w.length→j<w.length→w.getD i 0=w.getD j 0→i=j
 adj:∀i,i+1<w.length→(nb (w.getD i 0:Nat)).getLsbD (w.getD (i+1) 0)=true
theorem Pth.one (nb:Int→BS)(x:Nat):Pth nb [x]:=⟨fun i j hi hj _=>by rw[List.length_singleton] at hi hj;omega,fun i hi=>by rw[List.length_singleton] at hi;omega⟩
theorem Pth.snoc {nb:Int→BS}{w:List Nat}{x:Nat}(h:Pth nb w)(h0:w≠[])(h1:(nb (w.getLastD 0:Nat)).getLsbD x=true)(h2:x ∉ w):Pth nb (w++[x]):=by
 have hl:0<w.length:=List.length_pos_iff.2 h0
 have hll:(w++[x]).length=w.length+1:=by rw[List.length_append,List.length_singleton]
 refine⟨fun i j hi hj he=>?_,fun i hi=>?_⟩
 ·rw[hll] at hi hj
  by_cases h3:i<w.length <;> by_cases h4:j<w.length
  ·rw[getD_app1 h3,getD_app1 h4] at he;exact h.inj i j h3 h4 he
  ·rw[getD_app1 h3,getD_app2 (by omega)] at he;exact absurd (by rw[← he];exact getD_mem h3) h2
  ·rw[getD_app2 (by omega),getD_app1 h4] at he;exact absurd (by rw[he];exact getD_mem h4) h2
  ·omega
 ·rw[hll] at hi
  by_cases h3:i+1<w.length
  ·rw[getD_app1 (by omega),getD_app1 h3];exact h.adj i h3
  ·rw[getD_app1 (by omega),getD_app2 (by omega)]
   rw[getD_last] at h1
   rwa [show i=w.length - 1 by omega]
theorem Pth.cyc {nb:Int→BS}{w:List Nat}(h:Pth nb w)(h3:3≤w.length)(hl:(nb (w.getLastD 0:Nat)).getLsbD (w.getD 0 0)=true):CyL nb w:=⟨h3,h.inj,h.adj,by rw[getD_last] at hl;exact hl⟩
def clC (nb:Int→BS)(w:List Nat):List (List Nat):=if (decide (2<w.length)&&((nb (w.getLastD 0:Nat)).getLsbD (w.getD 0 0)&&decide (w.getD 1 0<w.getLastD 0)))=true then [w] else []
def cyS (nb:Int→BS)(F:List Nat→List (List Nat))(w:List Nat)(x:Nat):List (List Nat):=if (decide (w.getD 0 0<x)&&((nb (w.getLastD 0:Nat)).getLsbD x && !w.contains x))=true then F (w++[x]) else []
def cyR (nb:Int→BS)(ids:List Nat):Nat→List Nat→List (List Nat)
 | 0,_=>[]
 | f+1,w=>clC nb w++ids.flatMap (cyS nb (cyR nb ids f) w)
section
variable {nb:Int→BS}{ids:List Nat}
theorem cyR_sound:∀(f:Nat) (w:List Nat),w≠[]→Pth nb w→(∀i,0<i→i<w.length→w.getD 0 0<w.getD i 0)→∀c∈cyR nb ids f w,CyM nb c
 | 0,w,_,_,_,c,hc=>by cases hc
 | f+1,w,h0,hp,hm,c,hc=>by
  rw[cyR] at hc
  rcases List.mem_append.1 hc with hc|hc
  ·rw[clC] at hc
   split at hc
   ·rename_i h
    simp only[Bool.and_eq_true,decide_eq_true_eq] at h
    obtain rfl:=List.mem_singleton.1 hc
    exact⟨hp.cyc (by omega) h.2.1,hm,by rw[← getD_last];exact h.2.2⟩
   ·cases hc
  ·obtain⟨x,hx,hc⟩:=List.mem_flatMap.1 hc
   rw[cyS] at hc
   split at hc
   ·rename_i h
    simp only[Bool.and_eq_true,decide_eq_true_eq,Bool.not_eq_true',← Bool.not_eq_true,List.contains_iff_mem] at h
    have hl:0<w.length:=List.length_pos_iff.2 h0
    refine cyR_sound f (w++[x]) (by simp) (hp.snoc h0 h.2.1 h.2.2) (fun i hi hl'=>?_) c hc
    rw[List.length_append,List.length_singleton] at hl'
    rw[getD_app1 hl]
    by_cases h3:i<w.length
    ·rw[getD_app1 h3];exact hm i hi h3
    ·rw[getD_app2 (by omega)];exact h.1
   ·cases hc
theorem take_getD {c:List Nat}{m i:Nat}(h:i<m):(c.take m).getD i 0=c.getD i 0:=by rw[List.getD_eq_getElem?_getD,List.getD_eq_getElem?_getD,List.getElem?_take,if_pos h]
theorem take_snoc {c:List Nat}{m:Nat}(h:m<c.length):c.take (m+1)=c.take m++[c.getD m 0]:=by
 rw[take_succ_get (List.getElem?_eq_getElem h),List.getD_eq_getElem?_getD,List.getElem?_eq_getElem h];rfl
theorem take_last {c:List Nat}{m:Nat}(h:m<c.length):(c.take (m+1)).getLastD 0=c.getD m 0:=by
 rw[getD_last,List.length_take,show min (m+1) c.length - 1=m by omega,take_getD (by omega)]
theorem take_nmem {c:List Nat}(h:CyL nb c){m:Nat}(hm:m<c.length):c.getD m 0 ∉ c.take m:=fun hh=>by
 obtain⟨i,hi,he⟩:=getD_at hh
 rw[List.length_take] at hi
 rw[take_getD (by omega)] at he
 have:=h.inj i m (by omega) hm he
 omega
theorem cyR_comp {c:List Nat}(hc:CyM nb c)(hids:∀x∈c,x∈ids):∀f m,m<c.length→c.length<f+(m+1)→c∈cyR nb ids f (c.take (m+1))
 | 0,m,h1,h2=>by omega
 | f+1,m,h1,h2=>by
  have h3:=hc.cyc.three
  rw[cyR]
  refine List.mem_append.2 ?_
  by_cases hm:m+1=c.length
  ·left
   rw[hm,List.take_length,clC,if_pos]
   ·exact List.mem_singleton.2 rfl
   ·simp only[Bool.and_eq_true,decide_eq_true_eq]
    rw[getD_last]
    exact⟨by omega,hc.cyc.last,hc.dir⟩
  ·right
   have hx:=getD_mem (w:=c) (i:=m+1) (by omega)
   refine List.mem_flatMap.2 ⟨_,hids _ hx,?_⟩
   rw[cyS,if_pos]
   ·rw[← take_snoc (by omega)]
    exact cyR_comp hc hids f (m+1) (by omega) (by omega)
   ·simp only[Bool.and_eq_true,decide_eq_true_eq,Bool.not_eq_true',← Bool.not_eq_true,List.contains_iff_mem]
    rw[take_last h1,take_getD (by omega)]
    exact⟨hc.min _ (by omega) (by omega),hc.cyc.adj m (by omega),take_nmem hc.cyc (by omega)⟩
end
def cyA (g:GT):List (List Nat):=(elems (vset g.1)).flatMap fun x=>cyR (nbA g) (elems (vset g.1)) g.1.length [x]
theorem cyc_in {g:GT}(ok:Gr.Ok g){c:List Nat}(h:CyL (nbA g) c):∀x∈c,x∈elems (vset g.1):=fun x hx=>by
 obtain⟨i,hi,rfl⟩:=getD_at hx
 have h3:=h.three
 have:(vset g.1).getLsbD (c.getD i 0)=true:=by
  by_cases h1:i+1<c.length
  ·exact (((nbA_bit ok).1 (h.adj i h1)).inn ok).1
  ·have:=(((nbA_bit ok).1 h.last).inn ok).1
   rwa [show c.length - 1=i by omega] at this
 exact mem_elems.2 ⟨bit_lt this,this⟩
theorem nodup_of {nb:Int→BS}{c:List Nat}(h:CyL nb c):c.Nodup:=List.pairwise_iff_getElem.2 fun i j hi hj hij he=>by
 have:=h.inj i j hi hj (by rw[List.getD_eq_getElem?_getD,List.getD_eq_getElem?_getD,List.getElem?_eq_getElem hi,List.getElem?_eq_getElem hj,he])
 omega
theorem cyA_mem {g:GT}(ok:Gr.Ok g){c:List Nat}:c∈cyA g↔CyM (nbA g) c:=by
 constructor
 ·intro h
  obtain⟨x,_,hc⟩:=List.mem_flatMap.1 h
  exact cyR_sound _ [x] (by simp) (Pth.one _ x) (fun i hi hl=>by rw[List.length_singleton] at hl;omega) c hc
 ·intro h
  have h3:=h.cyc.three
  have hin:=cyc_in ok h.cyc
  have hlen:c.length≤g.1.length:=by
   have h1:=nd_lenI (natE c) (natE (elems (vset g.1))) (List.pairwise_map.2 ((nodup_of h.cyc).imp fun h h'=>h (by omega))) (fun x hx=>by
    obtain⟨y,hy,rfl⟩:=List.mem_map.1 hx
    exact natE_mem.2 (hin y hy))
   rwa [natE_len,natE_len,card_elems,card_vs ok] at h1
  have hc:=cyR_comp h hin g.1.length 0 (by omega) (by omega)
  rw[take_snoc (by omega),List.take_zero,List.nil_append] at hc
  exact List.mem_flatMap.2 ⟨_,hin _ (getD_mem (by omega)),hc⟩
def girS (nb:Int→BS)(best:Int)(e:Nat×Nat):Int:=let n:=farF (lvB (wo nb e.1 e.2) e.1) e.2;if n ≠ -1∧(best=0∨n+1<best) then n+1 else best
theorem girTo_le (nb:Int→BS):∀(es:List (Nat×Nat)) (b:Int),0≤b→(b≠0→es.foldl (girS nb) b≠0∧es.foldl (girS nb) b≤b)∧∀e∈es,farF (lvB (wo nb e.1 e.2) e.1) e.2 ≠ -1→es.foldl (girS nb) b≠0∧es.foldl (girS nb) b≤farF (lvB (wo nb e.1 e.2) e.1) e.2+1
 | [],b,hb=>⟨fun h=>⟨h,Int.le_refl _⟩,fun e he=>by cases he⟩
 | e::es,b,hb=>by
  have hlo:=farF_lo (lvB (wo nb e.1 e.2) e.1) e.2
  obtain⟨n,hn⟩:∃n,n=farF (lvB (wo nb e.1 e.2) e.1) e.2:=⟨_,rfl⟩
  rw[← hn] at hlo
  have hs:girS nb b e=if n ≠ -1∧(b=0∨n+1<b) then n+1 else b:=by rw[girS,← hn]
  obtain⟨b',hb'⟩:∃b',b'=girS nb b e:=⟨_,rfl⟩
  rw[← hb'] at hs
  have h0:0≤b':=by rw[hs];split <;> omega
  obtain⟨h1,h2⟩:=girTo_le nb es b' h0
  rw[List.foldl_cons,← hb']
  have h3:b≠0→b'≠0∧b'≤b:=fun h=>by rw[hs];split <;> omega
  have h4:n ≠ -1→b'≠0∧b'≤n+1:=fun h=>by rw[hs];split <;> omega
  refine⟨fun h=>?_,fun d hd hne=>?_⟩
  ·obtain⟨k1,k2⟩:=h3 h
   obtain⟨k3,k4⟩:=h1 k1
   exact⟨k3,by omega⟩
  ·rcases List.mem_cons.1 hd with rfl|hd
   ·rw[← hn] at hne ⊢
    obtain⟨k1,k2⟩:=h4 hne
    obtain⟨k3,k4⟩:=h1 k1
    exact⟨k3,by omega⟩
   ·exact h2 d hd hne
theorem gir_way {nb:Int→BS}{es:List (Nat×Nat)}{u v m:Nat}(he:(u,v)∈es)(hu:u<1024)(hv:v<1024)(huv:u≠v)(hm:2≤m)(q:Nat→Nat)(h0:q 0=u)(h1:q m=v)(hi:∀i j,i≤m→j≤m→q i=q j→i=j)(ha:∀i,i<m→(nb (q i:Int)).getLsbD (q (i+1))=true) :
  girF nb es≠0∧girF nb es≤((m+1:Nat):Int):=by
 obtain⟨k,T,k1,k2,k3⟩:=lv_far (nb:=wo nb u v) hu q h0 m fun i hi'=>(wo_bit hu hv huv _ _).2 ⟨ha i hi',fun⟨a1,a2⟩=>by
   have:=hi i 0 (by omega) (by omega) (by rw[a1,h0])
   have:=hi (i+1) m (by omega) (by omega) (by rw[a2,h1])
   omega,fun⟨a1,a2⟩=>by
   have:=hi i m (by omega) (by omega) (by rw[a1,h1])
   omega⟩
 rw[h1] at k3
 obtain⟨k4,k5⟩:=farF_le k2 k3
 obtain⟨k6,k7⟩:=(girTo_le nb es 0 (Int.le_refl _)).2 (u,v) he (by dsimp only;omega)
 have hg:girF nb es=es.foldl (girS nb) 0:=rfl
 rw[hg]
 dsimp only at k7
 exact⟨k6,by omega⟩
theorem gir_cyc {g:GT}(ok:Gr.Ok g){p:Nat→Nat}{n:Nat}(h:Cyc (nbA g) p n):girF (nbA g) (esN g)≠0∧girF (nbA g) (esN g)≤(n:Int):=by
 have h3:=h.three
 have hA:=(nbA_bit ok).1 h.last
 obtain⟨i1,i2,i3⟩:=hA.inn ok
 have hn:n - 1+1=n:=by omega
 rcases (es_adj ok _ _).1 hA with he|he
 ·have:=gir_way he (bit_lt i1) (bit_lt i2) i3 (m:=n - 1) (by omega) (fun i=>p (n - 1 - i)) rfl (by show p (n - 1 - (n - 1))=_;rw[Nat.sub_self]) (fun i j hi hj hij=>by have:=h.inj _ _ (by omega) (by omega) hij;omega) (fun i hi=>by
   have h5:=h.adj (n - 1 - (i+1)) (by omega)
   rw[show n - 1 - (i+1)+1=n - 1 - i by omega] at h5
   exact nb_symm ok _ _ h5)
  rwa [hn] at this
 ·have:=gir_way he (bit_lt i2) (bit_lt i1) (Ne.symm i3) (m:=n - 1) (by omega) p rfl rfl (fun i j hi hj hij=>h.inj _ _ (by omega) (by omega) hij) (fun i hi=>h.adj i (by omega))
  rwa [hn] at this
section
variable {nb:Int→BS}
theorem extF_sound {a n:Nat}:∀(f:Nat) (w out:List Nat),w≠[]→Pth nb w→extF nb a n f w=some out→Pth nb out∧(∃r,out=w++r)∧(nb (out.getLastD 0:Nat)).getLsbD a=true
 | 0,w,out,_,_,h=>by cases h
 | f+1,w,out,h0,hp,h=>by
  rw[extF] at h
  split at h
  ·split at h
   ·rename_i hl
    cases h
    exact⟨hp,⟨[],by rw[List.append_nil]⟩,hl⟩
   ·cases h
  ·obtain⟨x,hx,hn⟩:=List.exists_of_findSome?_eq_some h
   split at hn
   ·cases hn
   ·rename_i hc
    obtain⟨k1,⟨r,k2⟩,k3⟩:=extF_sound f (w++[x]) out (by simp) (hp.snoc h0 (mem_elems.1 hx).2 fun hh=>hc (.inl (List.contains_iff_mem.2 hh))) hn
    exact⟨k1,⟨x::r,by rw[k2,List.append_assoc];rfl⟩,k3⟩
theorem range_take {c:List Nat}{m:Nat}(h:m≤c.length):(List.range m).map (fun i=>c.getD i 0)=c.take m:=by
 refine List.ext_getElem? fun i=>?_
 rw[List.getElem?_map,List.getElem?_take]
 by_cases hi:i<m
 ·rw[if_pos hi,List.getElem?_range hi,Option.map_some,List.getD_eq_getElem?_getD,List.getElem?_eq_getElem (show i<c.length by omega)];rfl
 ·rw[if_neg hi,List.getElem?_eq_none (by rw[List.length_range];omega)];rfl
theorem ext_may (hs:∀i j:Nat,(nb (i:Int)).getLsbD j=true→(nb (j:Int)).getLsbD i=true){c:List Nat}(hc:CyL nb c){m:Nat}(hm:m+1<c.length) :
  ¬((c.take (m+1)).contains (c.getD (m+1) 0)=true∨(c.length:Int) - ((c.take (m+1)).length:Int)<farF (lvB nb (c.getD 0 0)) (c.getD (m+1) 0)):=by
 have h3:=hc.three
 rintro (h|h)
 ·exact take_nmem hc hm (List.contains_iff_mem.1 h)
 ·obtain⟨k,T,k1,k2,k3⟩:=lv_far (nb:=nb) (bit_lt hc.last) (fun j=>if j=0 then c.getD 0 0 else c.getD (c.length - j) 0) rfl (c.length - (m+1)) fun j hj=>by
   by_cases h0:j=0
   ·subst h0
    exact hs _ _ (by simpa using hc.last)
   ·have:=hc.adj (c.length - (j+1)) (by omega)
    rw[show c.length - (j+1)+1=c.length - j by omega] at this
    simp only[h0,if_false,Nat.add_eq_zero_iff,false_and]
    exact hs _ _ this
  rw[if_neg (by omega),show c.length - (c.length - (m+1))=m+1 by omega] at k3
  have hd:=farF_le k2 k3
  rw[List.length_take] at h
  omega
theorem extF_ne (hs:∀i j:Nat,(nb (i:Int)).getLsbD j=true→(nb (j:Int)).getLsbD i=true){c:List Nat}(hc:CyL nb c){f m:Nat}(hm:m<c.length)(hf:c.length≤f+m):extF nb (c.getD 0 0) c.length f (c.take (m+1))≠none:=by
 have:=extF_some hs hc f m hm hf
 rwa [range_take (by omega)] at this
theorem extF_least (hs:∀i j:Nat,(nb (i:Int)).getLsbD j=true→(nb (j:Int)).getLsbD i=true){c:List Nat}(hc:CyL nb c):∀(f m:Nat) (out:List Nat),m<c.length→c.length≤f+m→Pth nb (c.take (m+1))→extF nb (c.getD 0 0) c.length f (c.take (m+1))=some out→lsF c out=false
 | 0,m,out,h1,h2,_,_=>by omega
 | f+1,m,out,h1,h2,hp,h=>by
  have htl:(c.take (m+1)).length=m+1:=by rw[List.length_take];omega
  rw[extF] at h
  by_cases hm:m+1=c.length
  ·rw[if_pos (by rw[htl,hm])] at h
   split at h
   ·cases h
    rw[hm,List.take_length]
    exact lsF_irr c
   ·cases h
  ·have hm':m+1<c.length:=by omega
   rw[if_neg (by rw[htl];exact hm)] at h
   obtain⟨l1,x,l2,e1,e2,e3⟩:=List.findSome?_eq_some_iff.1 h
   rw[take_last h1] at e1
   obtain⟨y,hy⟩:∃y,y=c.getD (m+1) 0:=⟨_,rfl⟩
   have hadj:=hc.adj m hm'
   have hym:y∈l1++x::l2:=by rw[← e1,hy];exact mem_elems.2 ⟨bit_lt hadj,hadj⟩
   have hmay:=ext_may hs hc hm'
   have hts:=take_snoc hm'
   rw[← hy] at hmay hts
   have hsrt:=elems_pair (nb (c.getD m 0:Nat))
   rw[e1] at hsrt
   have hxn:(nb (c.getD m 0:Nat)).getLsbD x=true:=(mem_elems.1 (by rw[e1];simp:x∈elems (nb (c.getD m 0:Nat)))).2
   have e2':¬((c.take (m+1)).contains x=true∨(c.length:Int) - ((c.take (m+1)).length:Int)<farF (lvB nb (c.getD 0 0)) x):=fun hh=>by rw[if_pos hh] at e2;cases e2
   rw[if_neg e2'] at e2
   have hpx:Pth nb (c.take (m+1)++[x]):=hp.snoc (by intro h0;rw[h0] at htl;simp at htl) (by rw[take_last h1];exact hxn) (fun hh=>e2' (.inl (List.contains_iff_mem.2 hh)))
   rcases List.mem_append.1 hym with h5|h5
   ·have:=e3 y h5
    rw[if_neg hmay,← hts] at this
    exact absurd this (extF_ne hs hc hm' (by omega))
   ·rcases List.mem_cons.1 h5 with h5|h5
    ·rw[← h5,← hts] at e2 hpx
     exact extF_least hs hc f (m+1) out hm' (by omega) hpx e2
    ·have hlt:x<y:=by
      have h6:=(List.pairwise_append.1 hsrt).2.1
      exact (List.pairwise_cons.1 h6).1 y h5
     obtain⟨_,⟨r,hr⟩,_⟩:=extF_sound f _ out (by simp) hpx e2
     have hcs:c=c.take (m+1)++(y::c.drop (m+2)):=by
      have h7:=List.take_append_drop (m+2) c
      rw[show m+2=m+1+1 from rfl,hts,List.append_assoc] at h7
      exact h7.symm
     rw[hr,List.append_assoc]
     generalize c.take (m+1)=t at hcs
     rw[hcs,lsF_app]
     show lsF (y::_) (x::r)=false
     rw[lsF,if_neg (by omega)]
     exact decide_eq_false (by omega)
theorem scL_at {V:BS}{n:Nat}{o:List Nat}:∀(rest:List Nat) (left:BS),scL nb V n rest left=some o→∃s x r,rest=s++x::r∧extF (nbWi nb (V &&& delL left s)) x n n [x]=some o∧∀s1 y r1,s=s1++y::r1→extF (nbWi nb (V &&& delL left s1)) y n n [y]=none
 | [],left,h=>by cases h
 | x::r,left,h=>by
  rw[scL] at h
  cases ho:extF (nbWi nb (V &&& left)) x n n [x] with
  | some o'=>
   rw[ho] at h
   obtain rfl:=Option.some.inj h
   exact⟨[],x,r,rfl,by rw[show delL left []=left from by rw[delL,List.foldl_nil]];exact ho,fun s1 y r1 h=>by cases s1 <;> cases h⟩
  | none=>
   rw[ho] at h
   obtain⟨s,y,r',k1,k2,k3⟩:=scL_at r (del left (x:Int)) h
   have hdel:∀s,delL left (x::s)=delL (del left (x:Int)) s:=fun s=>by rw[delL,List.foldl_cons,delL]
   refine⟨x::s,y,r',by rw[k1];rfl,by rw[hdel];exact k2,fun s1 z r1 hz=>?_⟩
   cases s1 with
   | nil=>
    obtain⟨h1,_⟩:=List.cons.inj hz
    rw[← h1,show delL left []=left from by rw[delL,List.foldl_nil]]
    exact ho
   | cons t s1=>
    obtain⟨h1,h2⟩:=List.cons.inj hz
    rw[← h1,hdel]
    exact k3 s1 z r1 h2
theorem left_bit {V:BS}{s r:List Nat}{x i:Nat}(h:elems V=s++x::r):(V &&& delL V s).getLsbD i=true↔V.getLsbD i=true∧x≤i:=by
 have hsl:∀y∈s,y<1024:=fun y hy=>(mem_elems.1 (by rw[h];simp[hy])).1
 have hp:=elems_pair V
 rw[h] at hp
 obtain⟨_,p2,p3⟩:=List.pairwise_append.1 hp
 rw[bit_and,delL_bit s _ _ hsl]
 constructor
 ·rintro⟨h1,_,h2⟩
  refine⟨h1,?_⟩
  have hm:i∈s++x::r:=by rw[← h];exact mem_elems.2 ⟨bit_lt h1,h1⟩
  rcases List.mem_append.1 hm with h3|h3
  ·exact absurd h3 h2
  ·rcases List.mem_cons.1 h3 with h3|h3
   ·omega
   ·exact Nat.le_of_lt ((List.pairwise_cons.1 p2).1 i h3)
 ·rintro⟨h1,h2⟩
  exact⟨h1,h1,fun h3=>by have:=p3 i h3 x (by simp);omega⟩
theorem wi_symm (hs:∀i j:Nat,(nb (i:Int)).getLsbD j=true→(nb (j:Int)).getLsbD i=true)(S:BS):∀i j:Nat,(nbWi nb S (i:Int)).getLsbD j=true→(nbWi nb S (j:Int)).getLsbD i=true:=fun i j h=>by
 obtain⟨h1,h2,h3⟩:=nbWi_bit.1 h
 exact nbWi_bit.2 ⟨h3,hs i j h2,h1⟩
theorem CyL.mono {nb':Int→BS}{c:List Nat}(h:CyL nb c)(hm:∀i j:Nat,(nb (i:Int)).getLsbD j=true→(nb' (i:Int)).getLsbD j=true):CyL nb' c:=⟨h.three,h.inj,fun i hi=>hm _ _ (h.adj i hi),hm _ _ h.last⟩
theorem CyL.at {c:List Nat}(h:CyL nb c){i:Nat}(hi:i<c.length):∃j,(nb (c.getD i 0:Nat)).getLsbD j=true:=by
 have h3:=h.three
 by_cases h1:i+1<c.length
 ·exact⟨_,h.adj i h1⟩
 ·have:=h.last
  rw[show c.length - 1=i by omega] at this
  exact⟨_,this⟩
theorem CyL.rev (hs:∀i j:Nat,(nb (i:Int)).getLsbD j=true→(nb (j:Int)).getLsbD i=true){c:List Nat}(h:CyL nb c):∃d,CyL nb d∧d.length=c.length∧d.getD 0 0=c.getD 0 0∧d.getD 1 0=c.getD (c.length - 1) 0:=by
 have h3:=h.three
 obtain⟨p,hp⟩:∃p:Nat→Nat,p=fun i=>if i=0 then c.getD 0 0 else c.getD (c.length - i) 0:=⟨_,rfl⟩
 have hg:∀i,i<c.length→((List.range c.length).map p).getD i 0=p i:=fun i hi=>by
  rw[List.getD_eq_getElem?_getD,List.getElem?_map,List.getElem?_range hi];rfl
 have hl:((List.range c.length).map p).length=c.length:=by rw[List.length_map,List.length_range]
 have p0:p 0=c.getD 0 0:=by rw[hp];rfl
 have pn:∀i,0<i→p i=c.getD (c.length - i) 0:=fun i hi=>by rw[hp];exact if_neg (by omega)
 refine⟨(List.range c.length).map p,⟨by rw[hl];exact h3,fun i j hi hj hij=>?_,fun i hi=>?_,?_⟩,hl,by rw[hg 0 (by omega),p0],by rw[hg 1 (by omega),pn 1 (by omega)]⟩
 ·rw[hl] at hi hj
  rw[hg i hi,hg j hj] at hij
  by_cases hi0:i=0 <;> by_cases hj0:j=0
  ·omega
  ·rw[hi0,p0,pn j (by omega)] at hij;have:=h.inj _ _ (by omega) (by omega) hij;omega
  ·rw[hj0,p0,pn i (by omega)] at hij;have:=h.inj _ _ (by omega) (by omega) hij;omega
  ·rw[pn i (by omega),pn j (by omega)] at hij;have:=h.inj _ _ (by omega) (by omega) hij;omega
 ·rw[hl] at hi
  rw[hg i (by omega),hg (i+1) hi,pn (i+1) (by omega)]
  by_cases hi0:i=0
  ·rw[hi0,p0];exact hs _ _ h.last
  ·rw[pn i (by omega)]
   have:=h.adj (c.length - (i+1)) (by omega)
   rw[show c.length - (i+1)+1=c.length - i by omega] at this
   exact hs _ _ this
 ·rw[hl,hg (c.length - 1) (by omega),hg 0 (by omega),p0,pn _ (by omega),show c.length - (c.length - 1)=1 by omega]
  exact hs _ _ (h.adj 0 (by omega))
theorem two_of {c:List Nat}(h:2≤c.length):c=c.getD 0 0::c.getD 1 0::c.drop 2:=by
 match c,h with
 | x::y::r,_=>rfl
end
theorem shc_ne {g:GT}(ok:Gr.Ok g)(h0:girF (nbA g) (esN g)≠0):∃n:Nat,girF (nbA g) (esN g)=(n:Int)∧3≤n∧scL (nbA g) (vset g.1) n (elems (vset g.1)) (vset g.1)≠none:=by
 obtain⟨n,hn,h3,a,ha,hf⟩:=girth_found ok (es_adj ok) h0
 obtain⟨V,hV⟩:∃V,V=vset g.1:=⟨_,rfl⟩
 rw[← hV] at ha hf ⊢
 have hz:delL V []=V:=by rw[delL,List.foldl_nil]
 have hgo:=scL_found (nb:=nbA g) (V:=V) (n:=n) (a:=a) (elems V) [] (by rw[List.nil_append]) (mem_elems.2 ⟨bit_lt ha,ha⟩) fun s r he=>
  hf (V &&& delL V s) (fun i hi hai=>(left_bit he).2 ⟨hi,hai⟩) _ (fun i j hi hj hij=>nbWi_bit.2 ⟨hi,hij,hj⟩) (wi_symm (nb_symm ok) _) n (Nat.le_refl _)
 rw[hz] at hgo
 exact⟨n,hn,h3,hgo⟩
theorem shc_ring {g:GT}(ok:Gr.Ok g):shF false (cyA g)=shcF (nbA g) (vset g.1) (esN g):=by
 have hod:∀c,ods false c=false:=fun c=>rfl
 have hs:=nb_symm ok
 rw[shcF]
 by_cases h0:girF (nbA g) (esN g)=0
 ·rw[if_pos h0]
  exact shF_none.2 fun c hc=>absurd h0 (gir_cyc ok ((cyA_mem ok).1 hc).cyc).1
 ·rw[if_neg h0]
  obtain⟨n,hn,h3,hgo⟩:=shc_ne ok h0
  rw[hn,Int.toNat_natCast]
  obtain⟨V,hV⟩:∃V,V=vset g.1:=⟨_,rfl⟩
  rw[← hV] at hgo ⊢
  cases ho:scL (nbA g) V n (elems V) V with
  | none=>exact absurd ho hgo
  | some o=>
   obtain⟨s,x,r,he,hx,hno⟩:=scL_at (elems V) V ho
   have hinto:∀{s1:List Nat} {y:Nat} {r1:List Nat},elems V=s1++y::r1→∀{c:List Nat},CyL (nbA g) c→c.getD 0 0=y→(∀i,0<i→i<c.length→c.getD 0 0<c.getD i 0)→CyL (nbWi (nbA g) (V &&& delL V s1)) c:=fun {s1 y r1} he1 {c} hc hy hm=>by
    refine Cyc.within (S:=V &&& delL V s1) hc (fun i hi=>(left_bit he1).2 ⟨?_,?_⟩) (fun i j hi hj hij=>nbWi_bit.2 ⟨hi,hij,hj⟩)
    ·rw[hV];exact (mem_elems.1 (cyc_in ok hc _ (getD_mem hi))).2
    ·by_cases hi0:i=0
     ·subst hi0;exact Nat.le_of_eq hy.symm
     ·have:=hm i (by omega) hi
      omega
   have hol:=extF_len _ _ _ hx
   obtain⟨k1,⟨r2,k2⟩,k3⟩:=extF_sound n [x] o (by simp) (Pth.one _ x) hx
   have ho0:o.getD 0 0=x:=by rw[k2];rfl
   have hoL':CyL (nbWi (nbA g) (V &&& delL V s)) o:=k1.cyc (by omega) (by rw[ho0];exact k3)
   have hoL:CyL (nbA g) o:=hoL'.mono fun i j h=>(nbWi_bit.1 h).2.1
   have hmin:∀i,0<i→i<o.length→o.getD 0 0<o.getD i 0:=fun i hi hil=>by
    obtain⟨j,hj⟩:=hoL'.at hil
    have h5:=((left_bit he).1 (nbWi_bit.1 hj).1).2
    have h6:o.getD i 0≠o.getD 0 0:=fun h=>by have:=hoL.inj i 0 hil (by omega) h;omega
    omega
   have least:∀{c:List Nat},CyL (nbWi (nbA g) (V &&& delL V s)) c→c.length=n→c.getD 0 0=x→lsF c o=false:=fun {c} hc hl hc0=>by
    have h7:c.take (0+1)=[x]:=by rw[take_snoc (by omega),List.take_zero,List.nil_append,hc0]
    exact extF_least (wi_symm hs _) hc n 0 o (by omega) (by omega) (by rw[h7];exact Pth.one _ x) (by rw[h7,hc0,hl];exact hx)
   have hM:CyM (nbA g) o:=by
    refine⟨hoL,hmin,?_⟩
    obtain⟨d,d1,d2,d3,d4⟩:=CyL.rev (wi_symm hs _) hoL'
    have h8:=least d1 (by omega) (by rw[d3,ho0])
    rw[two_of (c:=d) (by omega),two_of (c:=o) (by omega),lsF,if_pos d3,lsF,d4] at h8
    have h9:o.getD 1 0≠o.getD (o.length - 1) 0:=fun h=>by have:=hoL.inj 1 (o.length - 1) (by omega) (by omega) h;omega
    rw[if_neg (Ne.symm h9)] at h8
    have:=of_decide_eq_false h8
    omega
   refine shF_is ((cyA_mem ok).2 hM) (hod o) fun c hc _=>?_
   have hcM:=(cyA_mem ok).1 hc
   have hcl:=(gir_cyc ok hcM.cyc).2
   rw[hn] at hcl
   cases hb:btr c o with
   | false=>rfl
   | true=>
    rcases btr_iff.1 hb with h|⟨h,hls⟩
    ·omega
    ·exfalso
     have hlen:c.length=n:=by omega
     have hyV:c.getD 0 0∈elems V:=by rw[hV];exact cyc_in ok hcM.cyc _ (getD_mem (by omega))
     obtain⟨y,hy⟩:∃y,y=c.getD 0 0:=⟨_,rfl⟩
     rw[← hy] at hyV
     have hyV0:=hyV
     rw[he] at hyV
     rcases List.mem_append.1 hyV with h5|h5
     ·obtain⟨s1,r1,hs1⟩:=List.append_of_mem h5
      have he1:elems V=s1++y::(r1++x::r):=by rw[he,hs1,List.append_assoc];rfl
      have h6:=hno s1 y r1 hs1
      have h7:=extF_ne (wi_symm hs _) (hinto he1 hcM.cyc hy.symm hcM.min) (f:=n) (m:=0) (by omega) (by omega)
      rw[take_snoc (by omega),List.take_zero,List.nil_append,← hy,hlen] at h7
      exact h7 h6
     ·rcases List.mem_cons.1 h5 with h5|h5
      ·rw[least (hinto he hcM.cyc (by rw[← hy,h5]) hcM.min) hlen (by rw[← hy,h5])] at hls
       cases hls
      ·have hp:=elems_pair V
       rw[he] at hp
       have hlt:=(List.pairwise_cons.1 (List.pairwise_append.1 hp).2.1).1 y h5
       rw[two_of (c:=c) (by omega),two_of (c:=o) (by omega),lsF,← hy,ho0,if_neg (by omega)] at hls
       have:=of_decide_eq_true hls
       omega
def rtF (up:Nat→Nat):Nat→Nat→Nat
 | 0,a=>a
 | f+1,a=>if up a=a then a else rtF up f (up a)
def rt (up:Nat→Nat)(a:Nat):Nat:=rtF up a a
def Dn (up:Nat→Nat):Prop:=∀x,up x≤x
def setU (up:Nat→Nat)(a r:Nat):Nat→Nat:=fun x=>if x=a then r else up x
section
variable {up:Nat→Nat}
theorem rtF_up (hd:Dn up):∀f a,a≤f→rtF up f a=rt up a:=by
 have key:∀a f,a≤f→rtF up f a=rtF up a a:=by
  intro a
  induction a using Nat.strongRecOn with
  | _ a ih=>
   intro f hf
   cases a with
   | zero=>
    have h0:up 0=0:=by have:=hd 0;omega
    cases f with
    | zero=>rfl
    | succ f=>show rtF up (f+1) 0=0;rw[rtF.eq_def];exact if_pos h0
   | succ a=>
    obtain⟨f,rfl⟩:∃g,f=g+1:=⟨f - 1,by omega⟩
    by_cases h:up (a+1)=a+1
    ·rw[rtF,if_pos h,rtF,if_pos h]
    ·have h1:=hd (a+1)
     rw[rtF,if_neg h,rtF,if_neg h,ih (up (a+1)) (by omega) f (by omega),ih (up (a+1)) (by omega) a (by omega)]
 exact fun f a h=>key a f h
theorem rt_fix {a:Nat}(h:up a=a):rt up a=a:=by
 rw[rt];cases a with
 | zero=>rfl
 | succ a=>rw[rtF,if_pos h]
theorem rt_step (hd:Dn up){a:Nat}(h:up a≠a):rt up a=rt up (up a):=by
 have h1:=hd a
 obtain⟨b,rfl⟩:∃b,a=b+1:=⟨a - 1,by omega⟩
 conv=>lhs;rw[rt,rtF,if_neg h]
 exact rtF_up hd b _ (by omega)
theorem rt_ok (hd:Dn up):∀a,rt up a≤a∧up (rt up a)=rt up a∧rt up (rt up a)=rt up a:=by
 intro a
 induction a using Nat.strongRecOn with
 | _ a ih=>
  by_cases h:up a=a
  ·rw[rt_fix h,rt_fix h];exact⟨Nat.le_refl _,h,rfl⟩
  ·have h1:=hd a
   obtain⟨a1,a2,a3⟩:=ih (up a) (by omega)
   rw[rt_step hd h]
   exact⟨by omega,a2,a3⟩
theorem setU_dn (hd:Dn up){a r:Nat}(h:r≤a):Dn (setU up a r):=fun x=>by
 rw[setU];split
 ·omega
 ·exact hd x
theorem rt_comp (hd:Dn up)(a:Nat):∀x,rt (setU up a (rt up a)) x=rt up x:=by
 obtain⟨r1,r2,r3⟩:=rt_ok hd a
 have hd':=setU_dn hd r1
 intro x
 induction x using Nat.strongRecOn with
 | _ x ih=>
  by_cases hx:x=a
  ·subst hx
   have hs:setU up x (rt up x) x=rt up x:=if_pos rfl
   by_cases hr:rt up x=x
   ·rw[rt_fix (by rw[hs];exact hr),hr]
   ·rw[rt_step hd' (by rw[hs];exact hr),hs,ih _ (by omega),r3]
  ·have hs:setU up a (rt up a) x=up x:=if_neg hx
   by_cases h:up x=x
   ·rw[rt_fix (by rw[hs];exact h),rt_fix h]
   ·have h1:=hd x
    rw[rt_step hd' (by rw[hs];exact h),hs,ih _ (by omega),← rt_step hd h]
theorem rt_join (hd:Dn up){m n:Nat}(hm:up m=m)(hn:up n=n)(hnm:n≤m):∀x,rt (setU up m n) x=if rt up x=m then n else rt up x:=by
 have hd':=setU_dn hd hnm
 have hN:rt (setU up m n) n=n:=by
  by_cases h:n=m
  ·subst h;exact rt_fix (if_pos rfl)
  ·exact rt_fix (by rw[setU,if_neg h];exact hn)
 intro x
 induction x using Nat.strongRecOn with
 | _ x ih=>
  by_cases hx:x=m
  ·subst hx
   rw[rt_fix hm,if_pos rfl]
   have hs:setU up x n x=n:=if_pos rfl
   by_cases h:n=x
   ·subst h;exact hN
   ·rw[rt_step hd' (by rw[hs];exact h),hs,hN]
  ·have hs:setU up m n x=up x:=if_neg hx
   by_cases h:up x=x
   ·rw[rt_fix (by rw[hs];exact h),rt_fix h,if_neg hx]
   ·have h1:=hd x
    rw[rt_step hd' (by rw[hs];exact h),hs,ih _ (by omega),← rt_step hd h]
end
section
variable {nb nb':Int→BS}{u v:Nat}
def Ad (nb nb':Int→BS)(u v:Nat):Prop:=∀i j:Nat,(nb' (i:Int)).getLsbD j=true↔(nb (i:Int)).getLsbD j=true∨(i=u∧j=v)∨(i=v∧j=u)
theorem cpt_add (hs:∀i j:Nat,(nb (i:Int)).getLsbD j=true→(nb (j:Int)).getLsbD i=true)(ha:Ad nb nb' u v)(hu:u<1024)(hv:v<1024){x:Nat}(hx:x<1024) :
  ((cpt nb x).getLsbD u=true∨(cpt nb x).getLsbD v=true→cpt nb' x=cpt nb u ||| cpt nb v)∧(¬((cpt nb x).getLsbD u=true∨(cpt nb x).getLsbD v=true)→cpt nb' x=cpt nb x):=by
 have hs':∀i j:Nat,(nb' (i:Int)).getLsbD j=true→(nb' (j:Int)).getLsbD i=true:=fun i j h=>(ha j i).2 (((ha i j).1 h).imp (hs i j) fun h=>h.elim (fun h=>.inr ⟨h.2,h.1⟩) fun h=>.inl ⟨h.2,h.1⟩)
 have hle:∀{a:Nat},a<1024→∀i,(cpt nb a).getLsbD i=true→(cpt nb' a).getLsbD i=true:=fun h=>cpt_least h _ (cpt_mem h) fun i j hi hij=>cpt_cl h i j hi ((ha i j).2 (.inl hij))
 have huv:(cpt nb' u).getLsbD v=true:=cpt_cl hu u v (cpt_mem hu) ((ha u v).2 (.inr (.inl ⟨rfl,rfl⟩)))
 constructor
 ·intro h
  have hxu:(cpt nb' x).getLsbD u=true:=by
   rcases h with h|h
   ·exact hle hx u h
   ·have h1:=hle hx v h
    rw[← cpt_eq hs' hx h1,cpt_eq hs' hu huv];exact cpt_mem hu
  rw[← cpt_eq hs' hx hxu]
  refine set_ext' fun i=>⟨cpt_least hu _ ((bit_or _ _ _).2 (.inl (cpt_mem hu))) (fun i j hi hij=>?_) i,fun hi=>?_⟩
  ·rcases (ha i j).1 hij with h|⟨_,rfl⟩|⟨_,rfl⟩
   ·exact (bit_or _ _ _).2 (((bit_or _ _ _).1 hi).imp (fun h1=>cpt_cl hu i j h1 h) fun h1=>cpt_cl hv i j h1 h)
   ·exact (bit_or _ _ _).2 (.inr (cpt_mem hv))
   ·exact (bit_or _ _ _).2 (.inl (cpt_mem hu))
  ·rcases (bit_or _ _ _).1 hi with h1|h1
   ·exact hle hu i h1
   ·rw[← cpt_eq hs' hu huv];exact hle hv i h1
 ·intro h
  refine set_ext' fun i=>⟨cpt_least hx _ (cpt_mem hx) (fun i j hi hij=>?_) i,hle hx i⟩
  rcases (ha i j).1 hij with h1|⟨rfl,_⟩|⟨rfl,_⟩
  ·exact cpt_cl hx i j hi h1
  ·exact absurd (.inl hi) h
  ·exact absurd (.inr hi) h
theorem min_or {S T:BS}{m n:Nat}(hS:minOf S=some m)(hT:minOf T=some n):minOf (S ||| T)=some (min m n):=by
 obtain⟨a1,a2,a3⟩:=minOf_some.1 hS
 obtain⟨b1,b2,b3⟩:=minOf_some.1 hT
 refine minOf_some.2 ⟨by omega,(bit_or _ _ _).2 ?_,fun j hj=>?_⟩
 ·rcases Nat.le_total m n with h|h
  ·rw[Nat.min_eq_left h];exact .inl a2
  ·rw[Nat.min_eq_right h];exact .inr b2
 ·have h1:=a3 j (by omega)
  have h2:=b3 j (by omega)
  cases h:(S ||| T).getLsbD j with
  | false=>rfl
  | true=>
   rcases (bit_or _ _ _).1 h with h|h
   ·rw[h1] at h;cases h
   ·rw[h2] at h;cases h
def Lm (nb:Int→BS)(ρ:Nat→Nat):Prop:=∀x,x<1024→minOf (cpt nb x)=some (ρ x)
theorem Lm.iff (hs:∀i j:Nat,(nb (i:Int)).getLsbD j=true→(nb (j:Int)).getLsbD i=true){ρ:Nat→Nat}(h:Lm nb ρ){x y:Nat}(hx:x<1024)(hy:y<1024):(cpt nb x).getLsbD y=true↔ρ x=ρ y:=by
 constructor
 ·intro hh
  have:=h y hy
  rw[cpt_eq hs hx hh,h x hx] at this
  exact Option.some.inj this
 ·intro hh
  have h1:=(minOf_some.1 (h x hx)).2.1
  have h2:=(minOf_some.1 (h y hy)).2.1
  rw[← cpt_eq hs hx h1,hh,cpt_eq hs hy h2];exact cpt_mem hy
theorem Lm.add (hs:∀i j:Nat,(nb (i:Int)).getLsbD j=true→(nb (j:Int)).getLsbD i=true)(ha:Ad nb nb' u v)(hu:u<1024)(hv:v<1024){ρ:Nat→Nat}(h:Lm nb ρ):Lm nb' fun x=>if ρ x=max (ρ u) (ρ v) then min (ρ u) (ρ v) else ρ x:=fun x hx=>by
 have h1:=h.iff hs hx hu
 have h2:=h.iff hs hx hv
 obtain⟨c1,c2⟩:=cpt_add hs ha hu hv hx
 dsimp only
 by_cases hc:(cpt nb x).getLsbD u=true∨(cpt nb x).getLsbD v=true
 ·rw[c1 hc,min_or (h u hu) (h v hv)]
  have:ρ x=ρ u∨ρ x=ρ v:=hc.imp h1.1 h2.1
  congr 1
  split <;> omega
 ·rw[c2 hc,h x hx]
  have h3:ρ x≠ρ u:=fun e=>hc (.inl (h1.2 e))
  have h4:ρ x≠ρ v:=fun e=>hc (.inr (h2.2 e))
  rw[if_neg (by omega)]
end
def g2 (l:List (Int×Int))(i:Nat):Int×Int:=(l[i]?).getD (0,0)
theorem g2_get {l:List (Int×Int)}{i:Nat}(h:i<l.length):l[i]?=some (g2 l i):=by simp[g2,h]
theorem indexFuncI_spec {G:Nat→Prop}(l:List Int)(v:Value)(id:FuncId)(caps:Array Value)(p:Int→Bool)(W:World)(hen:Proofs.Enters Tryz.prog id)(h:(Dv (slE intE) G l).p v W)
  (hp:∀w x,x∈l→Ext W w→Calls Tryz.prog id (#[I x]++caps) w (Post (E (B (p x))) w)) (hl:l.length≤100000) :
  Calls Tryz.prog 105 #[v,.func (.func id) #[] caps] W (Post (E (I (fstN (fun i=>p (gi l i)) l.length))) W):=by
 refine eN [v,.func (.func id) #[] caps] [Dv (slE intE) G l,E (.func (.func id) #[] caps)] Tryz.func105 Tryz.ntmps105 ?_ fun a hf=>?_
 rotate_left
 rotate_right
 ·exact arg2 h rfl
 have e:=Ext.rfl' W
 refine seq <| regn0 <| tA hf rfl fun a hf=>tl_nil ?_
 repeat refine seq ?_
 refine rgN 3 hf <| st (mv rfl) <| st (lenD U35 (isR rfl)) <| st (mv rfl) <| en fun a w e' hf=>?_
 replace e:=e.tr e'
 refine tl_nil ?_
 replace hf:=hf.keep [0,1,7,8]
 refine blk (loopN (fun r0 a w=>∃(k:Nat) ,r0=l.length - k∧k≤l.length∧Fr 19 a w [(0,Dv (slE intE) G l),(1,E (.func (.func id) #[] caps)),(7,E (I (l.length:Nat))),(8,E (I k))]∧Ext W w∧∀i,i<k→p (gi l i)=false) l.length ⟨0,rfl,by omega,hf,e,(fun i hi=>by omega)⟩ ?_)
 rintro r0 a w ⟨k,rfl,hk,hf,e,Ho⟩
 refine seq <| rgN 1 hf <| st (lss rfl rfl) <| en fun a w e' hf=>?_
 replace e:=e.tr e'
 refine tl_nil <| seq <| ifc hf rfl (fun hc=>wskip ?_) (fun hc=>wexit ?_)
 rotate_left
 rotate_left
 ·have hlt:k<l.length:=by have:=of_decide_eq_true hc;(try dsimp only at this);omega
  replace hf:=hf.keep [0,1,7,8]
  refine seq <| blk <| seq <| rgN 1 hf <| st (mv rfl) <| en fun a w e' hf=>?_
  replace e:=e.tr e'
  refine tA hf rfl fun a hf=>tl_nil ?_
  have hm:=List.mem_of_getElem? (gi_get hlt)
  refine seq <| rgN 6 hf <| st (mv rfl) <| st (mv rfl) <| st (mv rfl) <| st (idxD U35 S3 (isR rfl) rfl (by omega) (gi_get hlt)) <| st (ldI T3 (isR rfl)) <| st (callV1 hen rfl rfl (fun v w he h=>by cases h;exact hp w _ hm (Ext.tr e he))) ?_
  refine en fun a w e' hf=>?_
  replace e:=e.tr e'
  refine tl_nil <| ifc hf rfl (fun hb=>?_) (fun hb=>?_)
  ·refine seq <| rgN 1 hf <| st (mv rfl) <| en fun a w e' hf=>?_
   replace e:=e.tr e'
   refine tA hf rfl fun a hf=>tl_nil <| wret <| ret1 rfl hf rfl ?_
   rintro _ rfl
   exact⟨_,rfl,e,congrArg I (fstN_hit hlt Ho hb).symm⟩
  ·refine wskip <| rgN 1 hf <| st ((add rfl rfl (by omega)).eq (congrArg (Value.int .i64) (show (k:Int)+1=((k+1:Nat):Int) from rfl))) <| en fun a w e' hf=>?_
   replace e:=e.tr e'
   refine tP hf (mv rfl) fun a w e' hf=>?_
   replace e:=e.tr e'
   refine tl_nil ?_
   replace hf:=hf.keep [0,1,7,8]
   refine⟨_,?_,k+1,rfl,by omega,hf,e,?_⟩
   ·omega
   intro i hi
   by_cases hk:i=k
   ·subst hk;exact hb
   ·exact Ho i (by omega)
 ·obtain rfl:k=l.length:=by have:=of_decide_eq_false hc;(try dsimp only at this);omega
  refine seq <| regn0 <| tA hf rfl fun a hf=>tl_nil <| wret <| ret1 rfl hf rfl ?_
  rintro _ rfl
  exact⟨_,rfl,e,congrArg I (fstN_none Ho).symm⟩
def noW (w:World):World:={ w with heap := #[] }
theorem noW_ext {U w:World}{S:Nat→Prop}(c:Chg S U w):Ext (noW U) w:=⟨c.os,c.tape,c.output,Nat.zero_le _,fun k hk=>absurd hk (Nat.not_lt_zero _)⟩
theorem filt_none {α:Type}{p:α→Bool}{l:List α}(h:∀x∈l,p x=false):(l.filter fun x => !p x)=l:=List.filter_eq_self.2 fun x hx=>by rw[h x hx];rfl
theorem filt_upto {α:Type}{p:α→Bool}{l:List α}{k:Nat}{x:α}(hx:l[k]?=some x)(h:∀y∈l.take k,p y=false)(hp:p x=true):((l.take (k+1)).filter fun x => !p x)=l.take k:=by
 rw[take_succ_get hx,List.filter_append,filt_none h]
 simp[hp]
theorem filt_succ {α:Type}{p:α→Bool}{l:List α}{j:Nat}{x:α}(hx:l[j]?=some x):((l.take (j+1)).filter fun x => !p x)=((l.take j).filter fun x => !p x)++if p x=true then [] else [x]:=by
 rw[take_succ_get hx,List.filter_append,List.filter_cons,List.filter_nil]
 cases p x <;> rfl
theorem filt_lt {α:Type}{p:α→Bool}{l:List α}{k j:Nat}{x:α}(hx:l[k]?=some x)(hp:p x=true)(hkj:k<j):((l.take j).filter fun x => !p x).length<j:=by
 have h1:k+1≤j:=hkj
 have h2:l.take j=l.take (k+1)++(l.take j).drop (k+1):=by
  have:=List.take_append_drop (k+1) (l.take j)
  rw[List.take_take,Nat.min_eq_left h1] at this
  exact this.symm
 rw[h2,List.filter_append,List.length_append,take_succ_get hx,List.filter_append,List.length_append]
 have h3:=List.length_filter_le (fun x => !p x) (l.take k)
 have h4:=List.length_take_le k l
 have h5:=List.length_filter_le (fun x => !p x) ((l.take j).drop (k+1))
 have h6:((l.take j).drop (k+1)).length≤j - (k+1):=by rw[List.length_drop];have:=List.length_take_le j l;omega
 have h7:([x].filter fun x => !p x).length=0:=by simp[hp]
 omega
end Go.Mono
namespace Go.Mono
open Go Go.Proofs Go.RowKit
open Go.ChangeMaps (setBlock)
section
variable {P:Program}{α β:Type}{V:KV P α β}{w:World}{b n:Nat}{l:List (α×β)}
open Go.WideElems (findIdx_arr findIdx_born modify_last)
end
section tail
variable {P:Program}{L:Env}{ty ty2:TypeId}{pos pos2 pos3:String}{aft aft2 aft3:Array Edge}{r:Option Nat}{ds:List Deferred}
variable {ops:Array Oper}{rest:List Oper}{Q:Exit→Act→World→Prop}{n:Nat}{a:Act}{w:World}{x y z x2:Operand}{α β:Type}[DecidableEq α]
end tail
section ops
variable {P:Program}{w0:World}{L:Env}{ty:TypeId}{pos:String}{aft:Array Edge}{x y s:Operand}{t b n:Nat}
variable {α β:Type}[DecidableEq α]{V:KV P α β}{l:List (α×β)}{i:α}{c:β}
theorem chg_of_gr {w w':World}{b:Nat}(h:w.grownBy w' (some b)):Chg (fun d=>d=b) w w':=⟨h.os,h.tape,h.output,h.size,fun k hk hn=>h.block k hk fun hh=>hn (by cases hh;rfl)⟩
end ops
end Go.Mono
namespace Go.Mono
open Go Go.Proofs Go.RowKit Go.Gr
theorem edFL:∀x,(edF x).length=2:=fun _=>rfl
theorem intFL:∀x,(intF x).length=1:=fun _=>rfl
def kp {α:Type}(l:List α)(p:Nat→Bool):Nat→List α
 | 0=>[]
 | j+1=>kp l p j++if p j=true then [] else (l[j]?).toList
theorem kp_succ {α:Type}{l:List α}{p:Nat→Bool}{j:Nat}{x:α}(hx:l[j]?=some x):kp l p (j+1)=kp l p j++if p j=true then [] else [x]:=by rw[kp,hx];rfl
theorem kp_len {α:Type}(l:List α)(p:Nat→Bool):∀j,(kp l p j).length≤j
 | 0=>Nat.le_refl _
 | j+1=>by
  have h:=kp_len l p j
  rw[kp,List.length_append]
  split
  ·exact Nat.le_succ_of_le h
  ·cases l[j]? with
   | none=>exact Nat.le_succ_of_le h
   | some x=>exact Nat.succ_le_succ h
theorem kp_take {α:Type}{l:List α}{p:Nat→Bool}:∀{k:Nat},k≤l.length→(∀i,i<k→p i=false)→kp l p k=l.take k
 | 0,_,_=>rfl
 | k+1,h,hp=>by
  have hx:=List.getElem?_eq_getElem (show k<l.length by omega)
  rw[kp_succ hx,kp_take (by omega) (fun i hi=>hp i (by omega)),if_neg (by rw[hp k (by omega)];decide),take_succ_get hx]
theorem kp_lt {α:Type}{l:List α}{p:Nat→Bool}{k:Nat}(hk:p k=true):∀{j:Nat},k<j→(kp l p j).length<j
 | 0,h=>by omega
 | j+1,h=>by
  by_cases h1:k=j
  ·subst h1
   rw[kp,if_pos hk,List.append_nil]
   exact Nat.lt_succ_of_le (kp_len l p _)
  ·have h2:=kp_lt (l:=l) hk (show k<j by omega)
   rw[kp,List.length_append]
   split
   ·exact Nat.lt_succ_of_lt h2
   ·cases l[j]? with
    | none=>exact Nat.lt_succ_of_lt h2
    | some x=>exact Nat.succ_lt_succ h2
theorem kp_filt {l:List (Int×Int)}{p:Int×Int→Bool}:∀k,k≤l.length→kp l (fun i=>p (g2 l i)) k=(l.take k).filter fun x => !p x
 | 0,_=>rfl
 | k+1,h=>by rw[kp_succ (g2_get (by omega)),kp_filt k (by omega),filt_succ (g2_get (by omega))]
def stp (p:Nat→Bool)(n:Nat):Nat:=if fstN p n = -1 then n else (fstN p n).toNat+1
theorem stp_hit {p:Nat→Bool}{k n:Nat}(hk:k<n)(h1:∀i,i<k→p i=false)(h2:p k=true):stp p n=k+1:=by
 rw[stp,fstN_hit hk h1 h2,if_neg (by omega),Int.toNat_natCast]
theorem stp_none {p:Nat→Bool}{n:Nat}(h:∀i,i<n→p i=false):stp p n=n:=by rw[stp,fstN_none h,if_pos rfl]
def StC (P:Program)(id:FuncId)(caps:Array Value)(T:Nat→Prop)(l:List (Int×Int))(p:Nat→Bool)(J:Nat→World→Prop):Prop:=
 ∀k x w,l[k]?=some x→J k w→Calls P id (#[edV x]++caps) w (fun en w'=>∃u,en=.returned u∧Chg T w w'∧(E (B (p k))).p u w'∧J (k+1) w')
theorem indexFuncT_spec {T:Nat→Prop}(l:List (Int×Int))(v:Value)(id:FuncId)(caps:Array Value)(p:Nat→Bool)(J:Nat→World→Prop)(U:World)(hen:Proofs.Enters Tryz.prog id)(h:(Dv (slE edE) T l).p v U)
  (hJe:∀k w w',J k w→Ext w w'→J k w') (hp:StC Tryz.prog id caps T l p J) (HJ:J 0 U) (hl:l.length≤100000) :
  Calls Tryz.prog 100 #[v,.func (.func id) #[] caps] U (fun en w'=>∃u,en=.returned u∧Chg T U w'∧(E (I (fstN p l.length))).p u w'∧J (stp p l.length) w'):=by
 haveI:InS T T:=⟨fun _ h=>h⟩
 have Hw:Chg T U U:=Chg.rfl' _ _
 obtain⟨W,hW⟩:∃W,W=noW U:=⟨_,rfl⟩
 have e:Ext W U:=by rw[hW];exact noW_ext Hw
 obtain⟨w,hwU⟩:∃w,w=U:=⟨_,rfl⟩
 have goal:Calls Tryz.prog 100 #[v,.func (.func id) #[] caps] w (fun en w'=>∃u,en=.returned u∧Chg T U w'∧(E (I (fstN p l.length))).p u w'∧J (stp p l.length) w'):=by
  replace Hw:Chg T U w:=by rw[hwU];exact Hw
  replace e:Ext W w:=by rw[hwU];exact e
  replace HJ:J 0 w:=by rw[hwU];exact HJ
  replace h:(Dv (slE edE) T l).p v w:=by rw[hwU];exact h
  refine eN [v,.func (.func id) #[] caps] [Dv (slE edE) T l,E (.func (.func id) #[] caps)] Tryz.func100 Tryz.ntmps100 ?_ fun a hf=>?_
  rotate_left
  rotate_right
  ·exact arg2 h rfl
  refine seq <| regn0 <| tA hf rfl fun a hf=>tl_nil ?_
  repeat refine seq ?_
  refine rgN 3 hf <| st (mv rfl) <| st (lenD U31 (isR rfl)) <| st (mv rfl) <| en fun a w e' hf=>?_
  replace Hw:=Hw.ext e'
  replace HJ:=hJe _ _ _ HJ e'
  replace e:=e.tr e'
  refine tl_nil ?_
  replace hf:=hf.keep [0,1,7,8]
  refine blk (loopN (fun r0 a w=>∃(k:Nat) ,r0=l.length - k∧k≤l.length∧Fr 19 a w [(0,Dv (slE edE) T l),(1,E (.func (.func id) #[] caps)),(7,E (I (l.length:Nat))),(8,E (I k))]∧Ext W w∧(∀i,i<k→p i=false)∧Chg T U w∧J k w) l.length ⟨0,rfl,by omega,hf,e,⟨fun i hi=>by omega,Hw,HJ⟩⟩ ?_)
  rintro r0 a w ⟨k,rfl,hk,hf,e,Ho,Hw,HJ⟩
  refine seq <| rgN 1 hf <| st (lss rfl rfl) <| en fun a w e' hf=>?_
  replace Hw:=Hw.ext e'
  replace HJ:=hJe _ _ _ HJ e'
  replace e:=e.tr e'
  refine tl_nil <| seq <| ifc hf rfl (fun hc=>wskip ?_) (fun hc=>wexit ?_)
  rotate_left
  rotate_left
  ·have hlt:k<l.length:=by have:=of_decide_eq_true hc;(try dsimp only at this);omega
   replace hf:=hf.kp [0,1,7,8]
   refine seq <| blk <| seq <| rgN 1 hf <| st (mv rfl) <| en fun a w e' hf=>?_
   replace Hw:=Hw.ext e'
   replace HJ:=hJe _ _ _ HJ e'
   replace e:=e.tr e'
   refine tA hf rfl fun a hf=>tl_nil <| seq <| rgN 5 hf <| st (mv rfl) <| st (mv rfl) <| st (mv rfl) <| st (idxD U31 S60 (isR rfl) rfl (by omega) (g2_get hlt)) <| st (ldE2 T60 (isR rfl)) <| en fun a w e' hf=>?_
   replace Hw:=Hw.ext e'
   replace HJ:=hJe _ _ _ HJ e'
   replace e:=e.tr e'
   refine tl_callV (S:=T) (F:=J (k+1)) (A:=E (B (p k))) hf (by decide) hen (hfo:=by exact rfl) ?_ fun a w hc HF hf=>?_
   ·have e15:a.eval (.tmp 15)=edV (g2 l k):=hf.opd (.tmp 15) _ rfl
    simp only[List.map_toArray,List.map_cons,List.map_nil,e15]
    exact hp k _ w (g2_get hlt) HJ
   replace Hw:=Hw.tr hc
   replace e:Ext W w:=by rw[hW];exact noW_ext Hw
   have HJ:=HF
   refine tl_nil <| ifc hf rfl (fun hb=>?_) (fun hb=>?_)
   ·refine seq <| rgN 1 hf <| st (mv rfl) <| en fun a w e' hf=>?_
    replace Hw:=Hw.ext e'
    replace HJ:=hJe _ _ _ HJ e'
    replace e:=e.tr e'
    refine tA hf rfl fun a hf=>tl_nil <| wret ?_
    simp only[Exit.then,Exit.inBlock]
    refine ret1 rfl hf rfl ?_
    rintro _ rfl
    exact⟨_,rfl,Hw,congrArg I (fstN_hit hlt Ho hb).symm,by rw[stp_hit hlt Ho hb];exact HJ⟩
   ·refine wskip <| rgN 1 hf <| st ((add rfl rfl (by omega)).eq (congrArg (Value.int .i64) (show (k:Int)+1=((k+1:Nat):Int) from rfl))) <| en fun a w e' hf=>?_
    replace Hw:=Hw.ext e'
    replace HJ:=hJe _ _ _ HJ e'
    replace e:=e.tr e'
    refine tP hf (mv rfl) fun a w e' hf=>?_
    replace Hw:=Hw.ext e'
    replace HJ:=hJe _ _ _ HJ e'
    replace e:=e.tr e'
    refine tl_nil ?_
    replace hf:=hf.keep [0,1,7,8]
    refine⟨_,?_,k+1,rfl,by omega,hf,e,?_⟩
    ·omega
    exact⟨fun i hi=>by
     by_cases hk:i=k
     ·subst hk;exact hb
     ·exact Ho i (by omega),Hw,HJ⟩
  ·obtain rfl:k=l.length:=by have:=of_decide_eq_false hc;(try dsimp only at this);omega
   refine seq <| regn0 <| tA hf rfl fun a hf=>tl_nil <| wret <| ret1 rfl hf rfl ?_
   rintro _ rfl
   exact⟨_,rfl,Hw,congrArg I (fstN_none Ho).symm,by rw[stp_none Ho];exact HJ⟩
 rw[hwU] at goal
 exact goal
theorem deleteS_spec {T:Nat→Prop}(l:List (Int×Int))(v:Value)(id:FuncId)(caps:Array Value)(p:Nat→Bool)(J:Nat→World→Prop)(N:Nat)(U:World)(hen:Proofs.Enters Tryz.prog id)(Ho:OwR edE 60 N G0 U l v)(hl:l.length≤100000)
  (hT:∀b,v.ownBlock=some b→¬T b) (hTU:∀b,T b→b<U.heap.size) (hJe:∀k w w',J k w→Ext w w'→J k w') (hJo:∀k w w',J k w→Chg (fun b=>v.ownBlock=some b) w w'→J k w') (hp:StC Tryz.prog id caps T l p J) (HJ:J 0 U) :
  Calls Tryz.prog 47 #[v,.func (.func id) #[] caps] U fun en w'=>∃u,en=.returned u∧Chg (fun b=>v.ownBlock=some b∨T b) U w'∧OwR edE 60 N G0 w' (kp l p l.length) u∧J l.length w':=by
 obtain⟨S,hS⟩:∃S:Nat→Prop,S=fun b=>v.ownBlock=some b∨T b:=⟨_,rfl⟩
 rw[← hS]
 have hTS:∀b,T b→S b:=fun b hb=>by rw[hS];exact .inr hb
 have Hc:Chg S U U:=Chg.rfl' _ _
 obtain⟨W,hW⟩:∃W,W=noW U:=⟨_,rfl⟩
 have hW0:W.heap.size=0:=by rw[hW];rfl
 have e:Ext W U:=by rw[hW];exact noW_ext Hc
 obtain⟨w,hwU⟩:∃w,w=U:=⟨_,rfl⟩
 have goal:Calls Tryz.prog 47 #[v,.func (.func id) #[] caps] w fun en w'=>∃u,en=.returned u∧Chg S U w'∧OwR edE 60 N G0 w' (kp l p l.length) u∧J l.length w':=by
  have Hw:Chg S U w:=by rw[hwU];exact Hc
  have e:Ext W w:=by rw[hwU];exact e
  replace Ho:OwR edE 60 N G0 w l v:=by rw[hwU];exact Ho
  replace HJ:J 0 w:=by rw[hwU];exact HJ
  refine eN [v,.func (.func id) #[] caps] [E v,E (.func (.func id) #[] caps)] Tryz.func47 Tryz.ntmps47 ?_ fun a hf=>?_
  ·exact arg2 rfl rfl
  dsimp only[params,Nat.reduceAdd] at hf
  refine seq <| regn0 <| tA hf rfl fun a hf=>tl_nil ?_
  obtain⟨i0,hi0⟩:∃i0,i0=fstN p l.length:=⟨_,rfl⟩
  refine seq <| rgN 2 hf <| st (mv rfl) <| st (mv rfl) <| en fun a w e' hf=>?_
  obtain⟨Hw,Ho⟩:=up2 e' Hw Ho
  replace HJ:=hJe _ _ _ HJ e'
  replace e:=e.tr e'
  refine tl_callF (S:=T) (F:=J (stp p l.length)) (A:=E (I i0)) hf (by decide) En100 ?_ fun a w hc HF hf=>?_
  ·have e8:a.eval (.tmp 8)=v:=hf.opd (.tmp 8) _ rfl
   have e9:a.eval (.tmp 9)=.func (.func id) #[] caps:=hf.opd (.tmp 9) _ rfl
   simp only[List.map_toArray,List.map_cons,List.map_nil,e8,e9]
   rw[hi0]
   exact indexFuncT_spec l v id caps p J w hen (OwR.slN Ho hT) hJe hp HJ hl
  replace Hw:=Hw.tr (hc.to fun b _ hb=>hTS b hb)
  replace Ho:=OwR.chE Ho hc hT
  replace e:Ext W w:=by rw[hW];exact noW_ext Hw
  have HJ:=HF
  refine tA hf rfl fun a hf=>tl_nil ?_
  replace hf:=hf.keep [0,1,5]
  rcases fstN_cases p l.length with ⟨h1,h2⟩|⟨k,hk,h1,h2,h3⟩
  ·rw[← hi0] at h1
   subst h1
   repeat refine seq ?_
   refine rgN 2 hf <| st (mv rfl) <| st ((eql rfl rfl).eq (congrArg Value.bool (show ((-1:Int) == -1)=true from rfl))) <| en fun a w e' hf=>?_
   obtain⟨Hw,Ho⟩:=up2 e' Hw Ho
   replace HJ:=hJe _ _ _ HJ e'
   replace e:=e.tr e'
   refine tl_nil <| ifc hf rfl (fun _=>?_) (fun h=>by cases h)
   refine seq <| rgN 1 hf <| st (mv rfl) <| en fun a w e' hf=>?_
   obtain⟨Hw,Ho⟩:=up2 e' Hw Ho
   replace HJ:=hJe _ _ _ HJ e'
   replace e:=e.tr e'
   refine tA hf rfl fun a hf=>tl_nil <| wret ?_
   simp only[Exit.then,Exit.inBlock]
   refine ret1 rfl hf rfl ?_
   rintro _ rfl
   rw[stp_none h2] at HJ
   rw[kp_take (Nat.le_refl _) h2,List.take_length]
   exact⟨_,rfl,Hw,Ho,HJ⟩
  ·rw[← hi0] at h1
   subst h1
   have hxk:l[k]?=some (g2 l k):=g2_get hk
   rw[stp_hit hk h3 h2] at HJ
   have hk1:(((k:Nat):Int) == -1)=false:=beq_eq_false_iff_ne.2 (by omega)
   rcases Ho.rw edFF with ⟨_,h0⟩|⟨b,cap,cur0,hv,hcap,HR,ht0⟩
   ·rw[h0] at hk;exact absurd hk (Nat.not_lt_zero _)
   have hSb:S b:=by rw[hS,hv];exact .inl rfl
   have hTb:¬T b:=hT b (by rw[hv];rfl)
   replace hJo:∀k w w',J k w→w.grownBy w' (some b)→J k w':=fun k w w' h1 hg=>hJo k w w' h1 ((chg_of_gr hg).to fun c _ hc=>by rw[hc,hv];rfl)
   have hflen:=edFF.flen l
   subst hv
   replace ht0:cur0.toList.take (l.length * 2)=l.flatMap edF:=ht0
   replace HR:RwR 2 60 N cap b cur0 w:=HR
   repeat refine seq ?_
   refine rgN 2 hf <| st (mv rfl) <| st ((eql rfl rfl).eq (congrArg Value.bool (hk1))) <| en fun a w e' hf=>?_
   obtain⟨Hw,HR⟩:=up2 e' Hw HR
   replace HJ:=hJe _ _ _ HJ e'
   replace e:=e.tr e'
   refine tl_nil <| ifc hf rfl (fun h=>by cases h) (fun _=>?_)
   refine wskip ?_
   repeat refine seq ?_
   refine rgN 2 hf <| st (mv rfl) <| st ((add rfl rfl (by omega)).eq (congrArg (Value.int .i64) (show (k:Int)+1=((k+1:Nat):Int) from rfl))) <| en fun a w e' hf=>?_
   obtain⟨Hw,HR⟩:=up2 e' Hw HR
   replace HJ:=hJe _ _ _ HJ e'
   replace e:=e.tr e'
   refine tA hf rfl fun a hf=>tl_nil ?_
   replace hf:=hf.keep [0,1,5,6]
   have hkj:=Nat.lt_succ_self k
   have hfu:kp l p (k+1)=l.take k:=by rw[kp_succ hxk,kp_take (by omega) h3,if_pos h2,List.append_nil]
   have hlk:(l.take k).length=k:=by rw[List.length_take];omega
   have hd0:(cur0.toList.drop ((k+1) * 2)).take ((l.length - (k+1)) * 2)=(l.drop (k+1)).flatMap edF:=by
    have:=congrArg (List.drop ((k+1) * 2)) ht0
    rw[drop_flat edFL,List.drop_take] at this
    rw[Nat.sub_mul];exact this
   have ht1:cur0.toList.take ((kp l p (k+1)).length * 2)=(kp l p (k+1)).flatMap edF:=by
    rw[hfu,hlk]
    have:=congrArg (List.take (k * 2)) ht0
    rw[take_flat edFL,List.take_take,Nat.min_eq_left (Nat.mul_le_mul_right _ (Nat.le_of_lt hk))] at this
    exact this
   have hfk:(k:Int)=(((kp l p (k+1)).length:Nat):Int):=by rw[hfu,hlk]
   rw[hfk] at hf
   refine blk (loopN (fun r0 a w=>∃(j:Nat) (cur:Array Value),r0=l.length - j∧k<j∧j≤l.length∧Fr 42 a w [(0,E (.slice (some ⟨b,0,none⟩) l.length cap)),(1,E (.func (.func id) #[] caps)),(5,E (I (((kp l p j).length:Nat)))),(6,E (I (j:Nat)))]∧Ext W w∧Chg S U w∧J j w∧RwR 2 60 N cap b cur w ∧
    cur.toList.take ((kp l p j).length * 2)=(kp l p j).flatMap edF∧(cur.toList.drop (j * 2)).take ((l.length - j) * 2)=(l.drop j).flatMap edF) (l.length - (k+1)) ⟨k+1,cur0,rfl,hkj,hk,hf,e,Hw,HJ,HR,ht1,hd0⟩ ?_)
   rintro r0 a w ⟨j,cur,rfl,hkj,hjl,hf,e,Hw,HJ,HR,ht,hd⟩
   have hfl:=kp_lt (l:=l) h2 hkj
   obtain⟨ys,hys⟩:∃ys,ys=kp l p j:=⟨_,rfl⟩
   rw[← hys] at ht hfl hf
   repeat refine seq ?_
   refine rgN 4 hf <| st (mv rfl) <| st (mv rfl) <| st (lenE U31 rfl) <| st (lss rfl rfl) <| en fun a w e' hf=>?_
   obtain⟨Hw,HR⟩:=up2 e' Hw HR
   replace HJ:=hJe _ _ _ HJ e'
   replace e:=e.tr e'
   refine tl_nil <| ifc hf rfl (fun hc=>wskip ?_) (fun hc=>wexit ?_)
   ·have hlt:j<l.length:=by have:=of_decide_eq_true hc;omega
    have hx:=g2_get hlt
    generalize g2 l j=x at hx
    have hm:=List.mem_of_getElem? hx
    have hfs:=kp_succ (p:=p) hx
    rw[← hys] at hfs
    have hcx:=cell_at edFL hd hx (by omega)
    have hdn:(cur.toList.drop ((j+1) * 2)).take ((l.length - (j+1)) * 2)=(l.drop (j+1)).flatMap edF:=cell_next edFL (m:=l.length - (j+1)) (by rw[show l.length - (j+1)+1=l.length - j by omega];exact hd)
    have hszc:(j+1) * 2≤cur.size:=by rw[HR.sz];exact Nat.mul_le_mul_right _ (by omega)
    refine seq <| blk ?_
    have hcx2:Value.agg (cur.extract (j * 2) (j * 2+2))=edV x:=by
     rw[edV]
     refine congrArg Value.agg (Array.ext' ?_)
     rw[Array.toList_extract,List.extract_eq_take_drop,show j * 2+2 - j * 2=2 by omega]
     exact hcx
    obtain⟨N5,hN5⟩:∃N5,N5=w.heap.size:=⟨_,rfl⟩
    have hN5s:N5≤w.heap.size:=Nat.le_of_eq hN5
    have hU5:U.heap.size≤N5:=by rw[hN5];exact Hw.size
    have hb5:b<N5:=by rw[hN5];exact HR.bl.lt
    have eb:=Ext.rfl' w
    obtain⟨w5,hw5⟩:∃w5,w5=w:=⟨_,rfl⟩
    rw[← hw5] at HJ
    have hN5w:w5.heap.size=N5:=by rw[hw5,hN5]
    replace eb:Ext w5 w:=by rw[hw5];exact Ext.rfl' _
    refine seq <| regn0 <| tP hf (mv rfl) fun a w e' hf=>?_
    obtain⟨Hw,HR,hN5s,eb,e⟩:=up5 e' Hw HR hN5s eb e
    refine tP hf (mv rfl) fun a w e' hf=>?_
    obtain⟨Hw,HR,hN5s,eb,e⟩:=up5 e' Hw HR hN5s eb e
    refine tP hf ((idxS U31 S60 rfl rfl (by omega)).eq ((by rw[Int.toNat_natCast,Nat.zero_add]:Value.pointer (some ⟨b,0+((j:Nat):Int).toNat * 2,none⟩)=Value.pointer (some ⟨b,j * 2,none⟩)))) fun a w e' hf=>?_
    obtain⟨Hw,HR,hN5s,eb,e⟩:=up5 e' Hw HR hN5s eb e
    refine tP hf ((ldP T60 rfl HR.bl (by omega)).eq (hcx2)) fun a w e' hf=>?_
    obtain⟨Hw,HR,hN5s,eb,e⟩:=up5 e' Hw HR hN5s eb e
    refine tL I60 hf fun a b7 w e' hb7 hs7 B7 hf=>?_
    have lo7_hN5s:=Nat.le_trans hN5s (Nat.le_of_eq hb7.symm)
    obtain⟨Hw,HR,hN5s,eb,e⟩:=up5 e' Hw HR hN5s eb e
    have n7:N5≤b7:=lo7_hN5s
    have nb7:b≠b7:=by omega
    refine tl_stW T60 hf rfl rfl (one2 rfl rfl) B7 rfl rfl fun w hg hsz B7 hf=>?_
    replace e:=e.gr hg (by omega);replace Hw:=Hw.gr hg (.inr (by omega));replace HR:=HR.gr hg (by omega);replace eb:=eb.gr hg (by omega);clear hg
    replace HJ:=hJe _ _ _ HJ eb
    refine tl_nil ?_
    replace B7:Blk w b7 #[I x.1,I x.2] 60:=B7
    replace hf:=hf.kp [0,1,5,6,7]
    refine seq <| rgN 2 hf <| st (mv rfl) <| st ((ldW T60 rfl B7 rfl).eq ((rfl:_=edV x))) <| en fun a w e' hf=>?_
    obtain⟨Hw,HR⟩:=up2 e' Hw HR
    replace HJ:=hJe _ _ _ HJ e'
    obtain⟨e,B7⟩:=up2 e' e B7
    refine tl_callV (S:=T) (F:=J (j+1)) (A:=E (B (p j))) hf (by decide) hen (hfo:=by exact rfl) ?_ fun a w hc HF hf=>?_
    ·have e27:a.eval (.tmp 27)=edV x:=hf.opd (.tmp 27) _ rfl
     simp only[List.map_toArray,List.map_cons,List.map_nil,e27]
     exact hp j _ w hx HJ
    have hT7:¬T b7:=fun h=>by have:=hTU b7 h;omega
    replace Hw:=Hw.tr (hc.to fun b _ hb=>hTS b hb)
    replace e:Ext W w:=by rw[hW];exact noW_ext Hw
    replace HR:RwR 2 60 N cap b cur w:=⟨HR.bl.ch hc hTb,HR.lo,HR.sz,HR.mx⟩
    replace B7:=B7.ch hc hT7
    have HJ:=HF
    refine tP hf (notp rfl) fun a w e' hf=>?_
    obtain⟨Hw,HR⟩:=up2 e' Hw HR
    replace HJ:=hJe _ _ _ HJ e'
    obtain⟨e,B7⟩:=up2 e' e B7
    refine tl_nil ?_
    replace hf:=hf.kp [0,1,5,6,7,29]
    by_cases hpx:p j=true
    ·rw[if_pos hpx,List.append_nil] at hfs
     refine ifc hf rfl (fun h=>by rw[hpx] at h;cases h) (fun _=>?_)
     refine wskip ?_
     rw[← hfs] at ht hf
     replace hf:=hf.kp [0,1,5,6]
     refine rgN 2 hf <| st (mv rfl) <| st ((add rfl rfl (by omega)).eq (congrArg (Value.int .i64) (show (j:Int)+1=((j+1:Nat):Int) from rfl))) <| en fun a w e' hf=>?_
     obtain⟨Hw,HR⟩:=up2 e' Hw HR
     replace HJ:=hJe _ _ _ HJ e'
     obtain⟨e,B7⟩:=up2 e' e B7
     refine tA hf rfl fun a hf=>tl_nil ?_
     replace hf:=hf.keep [0,1,5,6]
     exact⟨l.length - (j+1),by omega,j+1,cur,rfl,by omega,hlt,hf,e,Hw,HJ,HR,ht,hdn⟩
    ·rw[if_neg hpx] at hfs
     refine ifc hf rfl (fun _=>?_) (fun h=>absurd (by simpa using h) hpx)
     have hys1:ys.length+1≤j:=hfl
     have hszy:(ys.length+1) * 2≤cur.size:=Nat.le_trans (Nat.mul_le_mul_right _ (by omega)) hszc
     refine seq <| rgN 4 hf <| st (mv rfl) <| st (mv rfl) <| st ((ldW T60 rfl B7 rfl).eq ((rfl:_=edV x))) <| st ((idxS U31 S60 rfl rfl (by omega)).eq ((by rw[Int.toNat_natCast,Nat.zero_add]:Value.pointer (some ⟨b,0+((ys.length:Nat):Int).toNat * 2,none⟩)=Value.pointer (some ⟨b,ys.length * 2,none⟩)))) <| en fun a w e' hf=>?_
     obtain⟨Hw,HR⟩:=up2 e' Hw HR
     replace HJ:=hJe _ _ _ HJ e'
     obtain⟨e,B7⟩:=up2 e' e B7
     refine tl_stP T60 hf rfl rfl (one2 rfl rfl) HR.bl rfl (by omega) fun w hg hsz hB hf=>?_
     replace e:=e.gr hg (by omega);replace Hw:=Hw.gr hg (.inl hSb);replace HJ:=hJo _ _ _ HJ hg;clear hg
     have ht2:=put_cells (x:=x) edFL ht (by rw[Array.length_toList];exact hszy)
     have hdd:=put_drop (x:=x) edFL (cur:=cur.toList) (i:=ys.length) (j:=j+1) (by rw[Array.length_toList];exact hszy) (by omega)
     have HR2:RwR 2 60 N cap b (cur.toList.take (ys.length * 2)++edF x++cur.toList.drop (ys.length * 2+2)).toArray w:=⟨hB,HR.lo,by
      have h5:=HR.sz
      have h6:(edF x).length=2:=rfl
      simp only[List.size_toArray,List.length_append,List.length_take,List.length_drop,h6,Array.length_toList]
      omega,HR.mx⟩
     have hdn2:=hdn
     rw[← hdd] at hdn2
     replace ht2:(cur.toList.take (ys.length * 2)++edF x++cur.toList.drop (ys.length * 2+2)).toArray.toList.take ((ys++[x]).length * 2)=(ys++[x]).flatMap edF:=by rw[List.length_append,List.length_singleton];exact ht2
     replace hdn2:((cur.toList.take (ys.length * 2)++edF x++cur.toList.drop (ys.length * 2+2)).toArray.toList.drop ((j+1) * 2)).take ((l.length - (j+1)) * 2)=(l.drop (j+1)).flatMap edF:=hdn2
     generalize (cur.toList.take (ys.length * 2)++edF x++cur.toList.drop (ys.length * 2+2)).toArray=cur2 at HR2 ht2 hdn2
     refine tl_nil ?_
     replace hf:=hf.keep [0,1,5,6]
     refine rgN 2 hf <| st (mv rfl) <| st ((add rfl rfl (by omega)).eq (congrArg (Value.int .i64) (show ((ys.length:Nat):Int)+1=(((ys++[x]).length:Nat):Int) by simp))) <| en fun a w e' hf=>?_
     obtain⟨Hw,HR2⟩:=up2 e' Hw HR2
     replace HJ:=hJe _ _ _ HJ e'
     replace e:=e.tr e'
     refine tA hf rfl fun a hf=>tl_nil ?_
     rw[← hfs] at ht2 hf
     replace hf:=hf.keep [0,1,5,6]
     refine rgN 2 hf <| st (mv rfl) <| st ((add rfl rfl (by omega)).eq (congrArg (Value.int .i64) (show (j:Int)+1=((j+1:Nat):Int) from rfl))) <| en fun a w e' hf=>?_
     obtain⟨Hw,HR2⟩:=up2 e' Hw HR2
     replace HJ:=hJe _ _ _ HJ e'
     replace e:=e.tr e'
     refine tA hf rfl fun a hf=>tl_nil ?_
     replace hf:=hf.keep [0,1,5,6]
     exact⟨l.length - (j+1),by omega,j+1,_,rfl,by omega,hlt,hf,e,Hw,HJ,HR2,ht2,hdn2⟩
   ·have hjl2:j=l.length:=by have:=of_decide_eq_false hc;omega
    subst hjl2
    rw[← hys]
    have hszc:ys.length * 2+(l.length - ys.length) * 2≤cur.size:=by rw[HR.sz,← Nat.add_mul];exact Nat.mul_le_mul_right _ (by omega)
    replace hf:=hf.kp [0,5]
    refine seq <| rgN 3 hf <| st (mv rfl) <| st (mv rfl) <| st ((slcLoK U31 S60 rfl rfl (by omega) (by omega)).eq ((by rw[Nat.zero_add]:Value.slice (some ⟨b,0+ys.length * 2,none⟩) (l.length - ys.length) (cap - ys.length)=Value.slice (some ⟨b,ys.length * 2,none⟩) (l.length - ys.length) (cap - ys.length)))) <| en fun a w e' hf=>?_
    obtain⟨Hw,HR⟩:=up2 e' Hw HR
    replace HJ:=hJe _ _ _ HJ e'
    replace e:=e.tr e'
    refine tl_clearK U31 I60 (by intro v hv;simp[Value.cells] at hv;subst hv;rfl) (by decide) rfl hf rfl HR.bl (by omega) hszc (fun k hk=>by cases hk) fun a w zs hg hsz hzl hB hf=>?_
    replace e:=e.gr hg (by omega)
    replace Hw:=Hw.gr hg (.inl hSb)
    replace HJ:=hJo _ _ _ HJ hg
    refine tl_nil ?_
    have HR2:RwR 2 60 N cap b (cur.toList.take (ys.length * 2)++zs++cur.toList.drop (ys.length * 2+(l.length - ys.length) * 2)).toArray w:=⟨hB,HR.lo,by
     have h5:=HR.sz
     simp only[List.size_toArray,List.length_append,List.length_take,List.length_drop,hzl,Array.length_toList]
     omega,HR.mx⟩
    have hfin:(cur.toList.take (ys.length * 2)++zs++cur.toList.drop (ys.length * 2+(l.length - ys.length) * 2)).toArray.toList.take (ys.length * 2)=ys.flatMap edF:=by
     rw[List.toList_toArray,List.append_assoc,List.take_append_of_le_length (by have h7:cur.toList.length=cur.size:=Array.length_toList;rw[List.length_take];omega),List.take_take,Nat.min_self];exact ht
    obtain⟨cur2,hcur2⟩:∃cur2,cur2=(cur.toList.take (ys.length * 2)++zs++cur.toList.drop (ys.length * 2+(l.length - ys.length) * 2)).toArray:=⟨_,rfl⟩
    rw[← hcur2] at HR2 hfin
    replace hf:=hf.kp [0,5]
    refine seq <| rgN 3 hf <| st (mv rfl) <| st (mv rfl) <| st (slcHiK U31 S60 rfl rfl (by omega)) <| en fun a w e' hf=>?_
    obtain⟨Hw,HR2⟩:=up2 e' Hw HR2
    replace HJ:=hJe _ _ _ HJ e'
    replace e:=e.tr e'
    refine tA hf rfl fun a hf=>tl_nil <| wret <| ret1 rfl hf rfl ?_
    rintro _ rfl
    exact⟨_,rfl,Hw,HR2.own edFF (by omega) hfin (fun b hb=>hb.elim),HJ⟩
 rw[hwU] at goal
 exact goal
theorem deleteE_spec (l:List (Int×Int))(v:Value)(id:FuncId)(caps:Array Value)(p:Int×Int→Bool)(N:Nat)(U:World)(hen:Proofs.Enters Tryz.prog id)(Ho:OwR edE 60 N G0 U l v)(hl:l.length≤100000)
  (hp:∀w x,x∈l→Chg (fun b=>v.ownBlock=some b) U w→Calls Tryz.prog id (#[edV x]++caps) w (Post (E (B (p x))) w)) :
  Calls Tryz.prog 47 #[v,.func (.func id) #[] caps] U fun en w'=>∃u,en=.returned u∧Chg (fun b=>v.ownBlock=some b) U w'∧OwR edE 60 N G0 w' (l.filter fun x => !p x) u:=by
 have h:=deleteS_spec (T:=fun _=>False) l v id caps (fun i=>p (g2 l i)) (fun _ w=>Chg (fun b=>v.ownBlock=some b) U w) N U hen Ho hl (fun _ _ h=>h) (fun _ h=>h.elim) (fun _ _ _ h k=>h.ext k) (fun _ _ _ h k=>h.tr k) (fun k x w hx hJ=>by
  have hm:=List.mem_of_getElem? hx
  have hg:g2 l k=x:=by rw[g2,hx];rfl
  dsimp only
  rw[hg]
  exact (hp w x hm hJ).mono fun en w' ⟨u,h1,h2,h3⟩=>⟨u,h1,h2.chg _,h3,hJ.ext h2⟩) (Chg.rfl' _ _)
 rw[kp_filt _ (Nat.le_refl _),List.take_length] at h
 exact h.mono fun en w' ⟨u,h1,_,h3,h4⟩=>⟨u,h1,h4,h3⟩
theorem deleteI_spec (l:List (Int))(v:Value)(id:FuncId)(caps:Array Value)(p:Int→Bool)(N:Nat)(U:World)(hen:Proofs.Enters Tryz.prog id)(Ho:OwR intE 3 N G0 U l v)(hl:l.length≤100000)
  (hp:∀w x,x∈l→Chg (fun b=>v.ownBlock=some b) U w→Calls Tryz.prog id (#[I x]++caps) w (Post (E (B (p x))) w)) :
  Calls Tryz.prog 55 #[v,.func (.func id) #[] caps] U fun en w'=>∃u,en=.returned u∧Chg (fun b=>v.ownBlock=some b) U w'∧OwR intE 3 N G0 w' (l.filter fun x => !p x) u:=by
 obtain⟨S,hS⟩:∃S:Nat→Prop,S=fun b=>v.ownBlock=some b:=⟨_,rfl⟩
 rw[← hS]
 replace hp:∀w x,x∈l→Chg S U w→Calls Tryz.prog id (#[I x]++caps) w (Post (E (B (p x))) w):=by rw[hS];exact hp
 have Hc:Chg S U U:=Chg.rfl' _ _
 obtain⟨W,hW⟩:∃W,W=noW U:=⟨_,rfl⟩
 have hW0:W.heap.size=0:=by rw[hW];rfl
 have e:Ext W U:=by rw[hW];exact noW_ext Hc
 obtain⟨w,hwU⟩:∃w,w=U:=⟨_,rfl⟩
 have goal:Calls Tryz.prog 55 #[v,.func (.func id) #[] caps] w fun en w'=>∃u,en=.returned u∧Chg S U w'∧OwR intE 3 N G0 w' (l.filter fun x => !p x) u:=by
  have Hw:Chg S U w:=by rw[hwU];exact Hc
  have e:Ext W w:=by rw[hwU];exact e
  have Ho:OwR intE 3 N G0 w l v:=by rw[hwU];exact Ho
  refine eN [v,.func (.func id) #[] caps] [E v,E (.func (.func id) #[] caps)] Tryz.func55 Tryz.ntmps55 ?_ fun a hf=>?_
  ·exact arg2 rfl rfl
  refine seq <| regn0 <| tA hf rfl fun a hf=>tl_nil ?_
  obtain⟨i0,hi0⟩:∃i0,i0=fstN (fun i=>p (gi l i)) l.length:=⟨_,rfl⟩
  have Hw1:=Hw
  have Ho1:=Ho
  refine seq <| rgN 3 hf <| st (mv rfl) <| st (mv rfl) <| st (call2 (A:=E (I i0)) (B:=E v) (C:=E (.func (.func id) #[] caps)) En105 rfl rfl (fun u u' w he k1 k2=>by cases k1;cases k2;rw[hi0];exact indexFuncI_spec l v id caps p w hen (Ho1.ext he).sl (fun w' x hx he'=>hp w' x hx ((Hw1.ext he).ext he')) hl)) ?_
  refine en fun a w e' hf=>?_
  obtain⟨Hw,Ho,e⟩:=up3 e' Hw Ho e
  refine tA hf rfl fun a hf=>tl_nil ?_
  replace hf:=hf.keep [0,1,5]
  rcases fstN_cases (fun i=>p (gi l i)) l.length with ⟨h1,h2⟩|⟨k,hk,h1,h2,h3⟩
  ·rw[← hi0] at h1
   subst h1
   repeat refine seq ?_
   refine rgN 2 hf <| st (mv rfl) <| st ((eql rfl rfl).eq (congrArg Value.bool (show ((-1:Int) == -1)=true from rfl))) <| en fun a w e' hf=>?_
   obtain⟨Hw,Ho,e⟩:=up3 e' Hw Ho e
   refine tl_nil <| ifc hf rfl (fun _=>?_) (fun h=>by cases h)
   refine seq <| rgN 1 hf <| st (mv rfl) <| en fun a w e' hf=>?_
   obtain⟨Hw,Ho,e⟩:=up3 e' Hw Ho e
   refine tA hf rfl fun a hf=>tl_nil <| wret ?_
   simp only[Exit.then,Exit.inBlock]
   refine ret1 rfl hf rfl ?_
   rintro _ rfl
   rw[filt_none fun x hx=>by
    obtain⟨i,hi,he⟩:=List.getElem_of_mem hx
    have h4:=gi_get hi
    rw[List.getElem?_eq_getElem hi,he] at h4
    rw[Option.some.inj h4]
    exact h2 i hi]
   exact⟨_,rfl,Hw,Ho⟩
  ·rw[← hi0] at h1
   subst h1
   have hxk:l[k]?=some (gi l k):=gi_get hk
   obtain⟨xk,hxk'⟩:∃xk,xk=gi l k:=⟨_,rfl⟩
   rw[← hxk'] at hxk
   replace h2:p xk=true:=by rw[hxk'];exact h2
   have h3':∀y∈l.take k,p y=false:=fun y hy=>by
    obtain⟨i,hi,he⟩:=List.getElem_of_mem hy
    rw[List.length_take] at hi
    have h4:l[i]?=some (gi l i):=gi_get (by omega)
    rw[List.getElem_take] at he
    rw[List.getElem?_eq_getElem (by omega),he] at h4
    rw[Option.some.inj h4]
    exact h3 i (by omega)
   have hk1:(((k:Nat):Int) == -1)=false:=beq_eq_false_iff_ne.2 (by omega)
   rcases Ho.rw intFF with ⟨_,h0⟩|⟨b,cap,cur0,hv,hcap,HR,ht0⟩
   ·rw[h0] at hk;exact absurd hk (Nat.not_lt_zero _)
   have hSb:S b:=by rw[hS,hv];rfl
   have hflen:=intFF.flen l
   subst hv
   replace ht0:cur0.toList.take (l.length * 1)=l.flatMap intF:=ht0
   replace HR:RwR 1 3 N cap b cur0 w:=HR
   repeat refine seq ?_
   refine rgN 2 hf <| st (mv rfl) <| st ((eql rfl rfl).eq (congrArg Value.bool (hk1))) <| en fun a w e' hf=>?_
   obtain⟨Hw,HR,e⟩:=up3 e' Hw HR e
   refine tl_nil <| ifc hf rfl (fun h=>by cases h) (fun _=>?_)
   refine wskip ?_
   repeat refine seq ?_
   refine rgN 2 hf <| st (mv rfl) <| st ((add rfl rfl (by omega)).eq (congrArg (Value.int .i64) (show (k:Int)+1=((k+1:Nat):Int) from rfl))) <| en fun a w e' hf=>?_
   obtain⟨Hw,HR,e⟩:=up3 e' Hw HR e
   refine tA hf rfl fun a hf=>tl_nil ?_
   replace hf:=hf.keep [0,1,5,6]
   have hkj:=Nat.lt_succ_self k
   have hfu:=filt_upto hxk h3' h2
   have hlk:(l.take k).length=k:=by rw[List.length_take];omega
   have hd0:(cur0.toList.drop ((k+1) * 1)).take ((l.length - (k+1)) * 1)=(l.drop (k+1)).flatMap intF:=by
    have:=congrArg (List.drop ((k+1) * 1)) ht0
    rw[drop_flat intFL,List.drop_take] at this
    rw[Nat.sub_mul];exact this
   have ht1:cur0.toList.take (((l.take (k+1)).filter fun x => !p x).length * 1)=((l.take (k+1)).filter fun x => !p x).flatMap intF:=by
    rw[hfu,hlk]
    have:=congrArg (List.take (k * 1)) ht0
    rw[take_flat intFL,List.take_take,Nat.min_eq_left (Nat.mul_le_mul_right _ (Nat.le_of_lt hk))] at this
    exact this
   have hfk:(k:Int)=((((l.take (k+1)).filter fun x => !p x).length:Nat):Int):=by rw[hfu,hlk]
   rw[hfk] at hf
   refine blk (loopN (fun r0 a w=>∃(j:Nat) (cur:Array Value),r0=l.length - j∧k<j∧j≤l.length∧Fr 42 a w [(0,E (.slice (some ⟨b,0,none⟩) l.length cap)),(1,E (.func (.func id) #[] caps)),(5,E (I ((((l.take j).filter fun x => !p x).length:Nat)))),(6,E (I (j:Nat)))]∧Ext W w∧Chg S U w∧RwR 1 3 N cap b cur w ∧
    cur.toList.take (((l.take j).filter fun x => !p x).length * 1)=((l.take j).filter fun x => !p x).flatMap intF∧(cur.toList.drop (j * 1)).take ((l.length - j) * 1)=(l.drop j).flatMap intF) (l.length - (k+1)) ⟨k+1,cur0,rfl,hkj,hk,hf,e,Hw,HR,ht1,hd0⟩ ?_)
   rintro r0 a w ⟨j,cur,rfl,hkj,hjl,hf,e,Hw,HR,ht,hd⟩
   have hfl:=filt_lt (l:=l) hxk h2 hkj
   obtain⟨ys,hys⟩:∃ys,ys=(l.take j).filter fun x => !p x:=⟨_,rfl⟩
   rw[← hys] at ht hfl hf
   repeat refine seq ?_
   refine rgN 4 hf <| st (mv rfl) <| st (mv rfl) <| st (lenE U35 rfl) <| st (lss rfl rfl) <| en fun a w e' hf=>?_
   obtain⟨Hw,HR,e⟩:=up3 e' Hw HR e
   refine tl_nil <| ifc hf rfl (fun hc=>wskip ?_) (fun hc=>wexit ?_)
   ·have hlt:j<l.length:=by have:=of_decide_eq_true hc;omega
    have hx:=gi_get hlt
    generalize gi l j=x at hx
    have hm:=List.mem_of_getElem? hx
    have hfs:=filt_succ (p:=p) hx
    rw[← hys] at hfs
    have hcx:=cell_at intFL hd hx (by omega)
    have hdn:(cur.toList.drop ((j+1) * 1)).take ((l.length - (j+1)) * 1)=(l.drop (j+1)).flatMap intF:=cell_next intFL (m:=l.length - (j+1)) (by rw[show l.length - (j+1)+1=l.length - j by omega];exact hd)
    have hszc:(j+1) * 1≤cur.size:=by rw[HR.sz];exact Nat.mul_le_mul_right _ (by omega)
    refine seq <| blk ?_
    have hcx2:cur[j]?=some (I x):=by
     rw[← Array.getElem?_toList]
     have h5:((cur.toList.drop (j * 1)).take 1)[0]?=some (I x):=by rw[hcx];rfl
     rw[List.getElem?_take,if_pos Nat.zero_lt_one,List.getElem?_drop] at h5
     simpa using h5
    obtain⟨N5,hN5⟩:∃N5,N5=w.heap.size:=⟨_,rfl⟩
    have hN5s:N5≤w.heap.size:=Nat.le_of_eq hN5
    have hU5:U.heap.size≤N5:=by rw[hN5];exact Hw.size
    have hb5:b<N5:=by rw[hN5];exact HR.bl.lt
    refine seq <| rgN 4 hf <| st (mv rfl) <| st (mv rfl) <| st ((idxS U35 S3 rfl rfl (by omega)).eq ((by rw[Int.toNat_natCast,Nat.zero_add,Nat.mul_one]:Value.pointer (some ⟨b,0+((j:Nat):Int).toNat * 1,none⟩)=Value.pointer (some ⟨b,j,none⟩)))) <| st (ld1 (v:=I x) T3 rfl HR.bl hcx2) <| en fun a w e' hf=>?_
    obtain⟨Hw,HR,hN5s,e⟩:=up4 e' Hw HR hN5s e
    refine tA hf rfl fun a hf=>tl_nil ?_
    replace hf:=hf.keep [0,1,5,6,7]
    have Hw8:=Hw
    refine seq <| rgN 4 hf <| st (mv rfl) <| st (mv rfl) <| st (callV1 hen rfl rfl (fun v w he h=>by cases h;exact hp w x hm (Hw8.ext he))) ?_
    refine st (notp rfl) <| en fun a w e' hf=>?_
    obtain⟨Hw,HR,e⟩:=up3 e' Hw HR e
    refine tl_nil ?_
    replace hf:=hf.kp [0,1,5,6,7,29]
    by_cases hpx:p x=true
    ·rw[if_pos hpx,List.append_nil] at hfs
     refine ifc hf rfl (fun h=>by rw[hpx] at h;cases h) (fun _=>?_)
     refine wskip ?_
     rw[← hfs] at ht hf
     replace hf:=hf.kp [0,1,5,6]
     refine rgN 2 hf <| st (mv rfl) <| st ((add rfl rfl (by omega)).eq (congrArg (Value.int .i64) (show (j:Int)+1=((j+1:Nat):Int) from rfl))) <| en fun a w e' hf=>?_
     obtain⟨Hw,HR,e⟩:=up3 e' Hw HR e
     refine tA hf rfl fun a hf=>tl_nil ?_
     replace hf:=hf.keep [0,1,5,6]
     exact⟨l.length - (j+1),by omega,j+1,cur,rfl,by omega,hlt,hf,e,Hw,HR,ht,hdn⟩
    ·rw[if_neg hpx] at hfs
     refine ifc hf rfl (fun _=>?_) (fun h=>absurd (by simpa using h) hpx)
     have hys1:ys.length+1≤j:=hfl
     have hszy:(ys.length+1) * 1≤cur.size:=Nat.le_trans (Nat.mul_le_mul_right _ (by omega)) hszc
     refine seq <| rgN 4 hf <| st (mv rfl) <| st (mv rfl) <| st (mv rfl) <| st ((idxS U35 S3 rfl rfl (by omega)).eq ((by rw[Int.toNat_natCast,Nat.zero_add]:Value.pointer (some ⟨b,0+((ys.length:Nat):Int).toNat * 1,none⟩)=Value.pointer (some ⟨b,ys.length * 1,none⟩)))) <| en fun a w e' hf=>?_
     obtain⟨Hw,HR,e⟩:=up3 e' Hw HR e
     refine tl_st1 T3 hf rfl rfl rfl HR.bl (by omega) fun w hg hsz hB hf=>?_
     replace e:=e.gr hg (by omega);replace Hw:=Hw.gr hg (.inl hSb);clear hg
     have hset:(cur.setIfInBounds (ys.length * 1) (I x))=(cur.toList.take (ys.length * 1)++intF x++cur.toList.drop (ys.length * 1+1)).toArray:=by
      apply Array.ext'
      rw[Array.toList_setIfInBounds,List.toList_toArray,List.set_eq_take_append_cons_drop,if_pos (by have h7:cur.toList.length=cur.size:=Array.length_toList;omega)]
      simp[intF]
     rw[hset] at hB
     have ht2:=put_cells (x:=x) intFL ht (by rw[Array.length_toList];exact hszy)
     have hdd:=put_drop (x:=x) intFL (cur:=cur.toList) (i:=ys.length) (j:=j+1) (by rw[Array.length_toList];exact hszy) (by omega)
     have HR2:RwR 1 3 N cap b (cur.toList.take (ys.length * 1)++intF x++cur.toList.drop (ys.length * 1+1)).toArray w:=⟨hB,HR.lo,by
      have h5:=HR.sz
      have h6:(intF x).length=1:=rfl
      simp only[List.size_toArray,List.length_append,List.length_take,List.length_drop,h6,Array.length_toList]
      omega,HR.mx⟩
     have hdn2:=hdn
     rw[← hdd] at hdn2
     replace ht2:(cur.toList.take (ys.length * 1)++intF x++cur.toList.drop (ys.length * 1+1)).toArray.toList.take ((ys++[x]).length * 1)=(ys++[x]).flatMap intF:=by rw[List.length_append,List.length_singleton];exact ht2
     replace hdn2:((cur.toList.take (ys.length * 1)++intF x++cur.toList.drop (ys.length * 1+1)).toArray.toList.drop ((j+1) * 1)).take ((l.length - (j+1)) * 1)=(l.drop (j+1)).flatMap intF:=hdn2
     generalize (cur.toList.take (ys.length * 1)++intF x++cur.toList.drop (ys.length * 1+1)).toArray=cur2 at HR2 ht2 hdn2
     refine tl_nil ?_
     replace hf:=hf.keep [0,1,5,6]
     refine rgN 2 hf <| st (mv rfl) <| st ((add rfl rfl (by omega)).eq (congrArg (Value.int .i64) (show ((ys.length:Nat):Int)+1=(((ys++[x]).length:Nat):Int) by simp))) <| en fun a w e' hf=>?_
     obtain⟨Hw,HR2,e⟩:=up3 e' Hw HR2 e
     refine tA hf rfl fun a hf=>tl_nil ?_
     rw[← hfs] at ht2 hf
     replace hf:=hf.keep [0,1,5,6]
     refine rgN 2 hf <| st (mv rfl) <| st ((add rfl rfl (by omega)).eq (congrArg (Value.int .i64) (show (j:Int)+1=((j+1:Nat):Int) from rfl))) <| en fun a w e' hf=>?_
     obtain⟨Hw,HR2,e⟩:=up3 e' Hw HR2 e
     refine tA hf rfl fun a hf=>tl_nil ?_
     replace hf:=hf.keep [0,1,5,6]
     exact⟨l.length - (j+1),by omega,j+1,_,rfl,by omega,hlt,hf,e,Hw,HR2,ht2,hdn2⟩
   ·have hjl2:j=l.length:=by have:=of_decide_eq_false hc;omega
    subst hjl2
    rw[List.take_length] at hys
    rw[← hys]
    have hszc:ys.length * 1+(l.length - ys.length) * 1≤cur.size:=by rw[HR.sz,← Nat.add_mul];exact Nat.mul_le_mul_right _ (by omega)
    replace hf:=hf.kp [0,5]
    refine seq <| rgN 3 hf <| st (mv rfl) <| st (mv rfl) <| st ((slcLoK U35 S3 rfl rfl (by omega) (by omega)).eq ((by rw[Nat.zero_add]:Value.slice (some ⟨b,0+ys.length * 1,none⟩) (l.length - ys.length) (cap - ys.length)=Value.slice (some ⟨b,ys.length * 1,none⟩) (l.length - ys.length) (cap - ys.length)))) <| en fun a w e' hf=>?_
    obtain⟨Hw,HR,e⟩:=up3 e' Hw HR e
    refine tl_clearK U35 I3 (by intro v hv;simp[Value.cells] at hv;subst hv;rfl) (by decide) rfl hf rfl HR.bl (by omega) hszc (fun k hk=>by cases hk) fun a w zs hg hsz hzl hB hf=>?_
    replace e:=e.gr hg (by omega)
    replace Hw:=Hw.gr hg (.inl hSb)
    refine tl_nil ?_
    have HR2:RwR 1 3 N cap b (cur.toList.take (ys.length * 1)++zs++cur.toList.drop (ys.length * 1+(l.length - ys.length) * 1)).toArray w:=⟨hB,HR.lo,by
     have h5:=HR.sz
     simp only[List.size_toArray,List.length_append,List.length_take,List.length_drop,hzl,Array.length_toList]
     omega,HR.mx⟩
    have hfin:(cur.toList.take (ys.length * 1)++zs++cur.toList.drop (ys.length * 1+(l.length - ys.length) * 1)).toArray.toList.take (ys.length * 1)=ys.flatMap intF:=by
     rw[List.toList_toArray,List.append_assoc,List.take_append_of_le_length (by have h7:cur.toList.length=cur.size:=Array.length_toList;rw[List.length_take];omega),List.take_take,Nat.min_self];exact ht
    obtain⟨cur2,hcur2⟩:∃cur2,cur2=(cur.toList.take (ys.length * 1)++zs++cur.toList.drop (ys.length * 1+(l.length - ys.length) * 1)).toArray:=⟨_,rfl⟩
    rw[← hcur2] at HR2 hfin
    replace hf:=hf.kp [0,5]
    refine seq <| rgN 3 hf <| st (mv rfl) <| st (mv rfl) <| st (slcHiK U35 S3 rfl rfl (by omega)) <| en fun a w e' hf=>?_
    obtain⟨Hw,HR2,e⟩:=up3 e' Hw HR2 e
    refine tA hf rfl fun a hf=>tl_nil <| wret <| ret1 rfl hf rfl ?_
    rintro _ rfl
    exact⟨_,rfl,Hw,HR2.own intFF (by omega) hfin fun b hb=>hb.elim⟩
 rw[hwU] at goal
 exact goal
theorem mpE_map {P:Program}{α β:Type}[DecidableEq α]{V:KV P α β}{N:Nat}{G:Nat→Prop}{l:List (α×β)}{v:Value}{w:World}(h:(Dv (mpE V N) G l).p v w):∃b,v=.map (some b):=by
 obtain⟨cs,⟨b,n,rfl,_⟩,hv⟩:=h
 exact⟨b,hv⟩
def brD (nb:Int→BS)(e:Nat×Nat):Int:=farF (lvB (wo nb e.1 e.2) e.1) e.2
def toN (x:Int×Int):Nat×Nat:=(x.1.toNat,x.2.toNat)
theorem toN_toI (e:Nat×Nat):toN (toI e)=e:=by simp[toN,toI]
theorem br1_spec {G:Nat→Prop}{N0:Nat}(l:List (Int×BS))(S0:BS)(mq:Value)(u v c:Nat)(W:World)(hT:Tab W)(HV:(Dv (mpE sKV N0) G l).p mq W)(hc:Blk W c (adC S0 mq) 79)(hN:N0≤100000)(hu:u<1024)(hv:v<1024)(huv:u≠v)(hm:((u:Int),lkS l (u:Int))∈l) :
  Calls Tryz.prog 49 #[edV (toI (u,v)),ptr c] W (Post (E (B (brD (lkS l) (u,v) != -1))) W):=by
 obtain⟨nb,hnb⟩:∃nb,nb=lkS l:=⟨_,rfl⟩
 rw[← hnb]
 obtain⟨d,hd⟩:∃d,d=brD nb (u,v):=⟨_,rfl⟩
 rw[← hd]
 rw[brD] at hd
 refine eN [edV (toI (u,v)),ptr c] [E (edV (toI (u,v))),E (ptr c)] Tryz.func49 Tryz.ntmps49 ?_ fun a hf=>?_
 rotate_left
 rotate_right
 ·exact arg2 rfl rfl
 have e:=Ext.rfl' W
 refine seq <| regn0 <| tB hf rfl fun a b2 w v2 hv2 e' hb2 hs2 B2 hf=>?_
 obtain⟨hT,HV,e,hc⟩:=up4 e' hT HV e hc
 refine tA hf rfl fun a hf=>tl_nil ?_
 cases hv2
 replace B2:Blk w b2 #[I (u:Nat),I (v:Nat)] 60:=B2
 refine seq <| rgG 13 Mix.mix hf <| st (ldW T79 rfl hc (adC_size _ _)) <| st (idxA U60 ⟨_,T3⟩ rfl rfl (by omega)) <| st (ld1 T3 rfl B2 rfl) <| st (idxA U60 ⟨_,T3⟩ rfl rfl (by omega)) <| st (ld1 T3 rfl B2 rfl) <| st (call3 (A:=WoA (wo nb u v) S0 (N0+2)) (B:=E (.agg (adC S0 mq))) (C:=E (I (u:Nat))) (D:=E (I (v:Nat))) En51 rfl rfl rfl (fun a b c w he k1 k2 k3=>by cases k1;cases k2;cases k3;rw[hnb];exact without07_spec l S0 u v mq w (hT.ext he) (Dv.ex HV he) hN hu hv huv hm)) ?_
 refine st (idxA U60 ⟨_,T3⟩ rfl rfl (by omega)) <| st (ld1 T3 rfl B2 rfl) <| st (call2 (A:=Dv (slE setE) G0 (lvB (wo nb u v) u)) (B:=WoA (wo nb u v) S0 (N0+2)) (C:=E (I (u:Nat))) En52 rfl rfl (fun a b w he ⟨l2,k1,mq2,k2,k3⟩ k4=>by subst k2;cases k4;rw[← k1];exact (levels_spec l2 S0 mq2 u w (hT.ext he) k3 hu).mono fun en w' ⟨z,q1,q2,q3⟩=>⟨z,q1,q2,OwR.sl q3⟩)) ?_
 refine st (idxA U60 ⟨_,T3⟩ rfl rfl (by omega)) <| st (ld1 T3 rfl B2 rfl) <| st (call2 (A:=E (I d)) (B:=Dv (slE setE) G0 (lvB (wo nb u v) u)) (C:=E (I (v:Nat))) En50 rfl rfl (fun a b w he k1 k2=>by cases k2;rw[hd];exact far_spec _ v a w k1 (Nat.le_trans (lvB_len _ _) (by decide)))) ?_
 refine st (neq rfl rfl) <| en fun a w e' hf=>?_
 obtain⟨hT,HV,e,hc,B2⟩:=up5 e' hT HV e hc B2
 refine tA hf rfl fun a hf=>tl_nil <| wret <| ret1 rfl hf rfl ?_
 rintro _ rfl
 exact⟨_,rfl,e,rfl⟩
def brF (g:GT):List (Nat×Nat):=(esN g).filter fun e => !(brD (nbA g) e != -1)
theorem es_mem {g:GT}{l:List (Int×BS)}(ok:Gr.Ok g)(hl:l=nbL g (elems (vset g.1))):∀e∈esN g,e.1<1024∧e.2<1024∧e.1≠e.2∧((e.1:Int),lkS l (e.1:Int))∈l:=fun e he=>by
 obtain⟨h1,h2,h3⟩:=es_in ok e he
 refine⟨bit_lt h2,bit_lt h3,by omega,?_⟩
 have h4:((e.1:Int),nbG g.2 (e.1:Int))∈l:=by
  rw[hl,nbL]
  exact List.mem_map.2 ⟨e.1,mem_elems.2 ⟨bit_lt h2,h2⟩,rfl⟩
 have h5:lkS l (e.1:Int)=nbG g.2 (e.1:Int):=by
  rw[hl,nbL,lkS_map (fun n=>nbG g.2 (n:Int)),if_pos (mem_elems.2 ⟨bit_lt h2,h2⟩)]
 rw[h5];exact h4
theorem bridges_spec {G:Nat→Prop}{N:Nat}(g:GT)(ok:Gr.Ok g)(v:Value)(W:World)(hT:Tab W)(h:(Dv (ptE (grE N)) G (some g)).p v W)(hl1:g.1.length≤100000)(hl2:g.2.length≤100000)(hN:N≤1000000) :
  Calls Tryz.prog 14 #[v] W (Post (Dv (slE edE) G0 ((brF g).map toI)) W):=by
 have hgd:(Dv (ptE (grE N)) G0 (some g)).p v W:=Dv.weak h fun b _ hb=>hb.elim
 have gs1:=ok.sv
 have gs2:=ok.se
 obtain⟨l,hl⟩:∃l,l=nbL g (elems (vset g.1)):=⟨_,rfl⟩
 have hmem:=es_mem ok hl
 obtain⟨V,hV⟩:∃V,V=vset g.1:=⟨_,rfl⟩
 have hnb:nbA g=lkS l:=by rw[hl,nbA]
 have hti:=es_toI ok
 rw[brF,hnb]
 obtain⟨es,hes⟩:∃es,es=esN g:=⟨_,rfl⟩
 rw[← hes] at hti hmem ⊢
 have hel:es.length≤100000:=by rw[hes,esN,List.length_map];exact hl2
 obtain⟨p,hp⟩:∃p:Int×Int→Bool,p=fun x=>brD (lkS l) (toN x) != -1:=⟨_,rfl⟩
 have hfil:((es.map toI).filter fun x => !p x)=(es.filter fun e => !(brD (lkS l) e != -1)).map toI:=by
  rw[List.filter_map,hp]
  refine congrArg (List.map toI) (List.filter_congr fun x _=>?_)
  simp only[Function.comp,toN_toI]
 rw[← hfil]
 have hT0:=hT.lt
 refine eN [v] [E v] Tryz.func14 Tryz.ntmps14 ?_ fun a hf=>?_
 rotate_left
 dsimp only[params,Nat.reduceAdd] at hf
 rotate_right
 ·exact arg1 rfl
 have e:=Ext.rfl' W
 refine seq <| regn0 <| tA hf rfl fun a hf=>tl_nil ?_
 repeat refine seq ?_
 refine rgN 2 hf <| st (mv rfl) <| st (eqlP U26 (isE rfl (VA.st _ _ _ _ e hgd))) <| en fun a w e' hf=>?_
 obtain⟨hT,e⟩:=up2 e' hT e
 refine tl_nil <| ifc hf rfl (fun h=>by cases h) (fun _=>?_)
 refine wskip ?_
 replace hf:=hf.keep [0]
 have e0:=e
 refine seq <| rgN 2 hf <| st (mv rfl) <| st (call1 (A:=AdjA l V 1024) En46 rfl (fun v w he k=>by cases k;rw[hl,hV];exact (of07_spec g _ w (hT.ext he) (VA.st _ _ _ _ (Ext.tr e0 he) hgd) gs1 gs2 hl1 hl2 hN).mono fun en w' ⟨k1,mq,k2,k3⟩=>⟨_,k2,k1,mq,rfl,k3⟩)) ?_
 refine en fun a w e' hf=>?_
 obtain⟨hT,e⟩:=up2 e' hT e
 obtain⟨av,⟨mq,rfl,HV0⟩,hf⟩:=hf.opn 7 rfl
 obtain⟨bm,rfl⟩:=mpE_map HV0
 obtain⟨N1,hN1⟩:∃N1,N1=w.heap.size:=⟨_,rfl⟩
 have hN1s:N1≤w.heap.size:=Nat.le_of_eq hN1
 have hWN1:W.heap.size≤N1:=by rw[hN1];exact e.size
 have HV:(Dv (mpE sKV 1024) (fun b=>N1≤b) l).p (.map (some bm)) w:=Dv.weak HV0 fun b hb hh=>by omega
 replace hf:=hf.kp [0,7]
 refine tL I79 hf fun a b3 w e' hb3 hs3 B3 hf=>?_
 have lo3_hN1s:=Nat.le_trans hN1s (Nat.le_of_eq hb3.symm)
 obtain⟨hT,HV,hN1s,e⟩:=up4 e' hT HV hN1s e
 have n3:N1≤b3:=lo3_hN1s
 refine tl_stW T79 hf rfl rfl (adC_one _ _) B3 rfl (adC_size _ _) fun w hg hsz B3 hf=>?_
 replace e:=e.gr hg (by omega);replace hT:=hT.gr hg (by omega);replace HV:=Dv.gr HV hg n3;replace hN1s:=Nat.le_trans hN1s hg.size;clear hg
 refine tl_nil ?_
 replace hf:=hf.keep [0,3]
 have e4:=e
 obtain⟨N2,hN2⟩:∃N2,N2=w.heap.size:=⟨_,rfl⟩
 have hN2s:N2≤w.heap.size:=Nat.le_of_eq hN2
 have l3:b3<N2:=by rw[hN2];exact B3.lt
 have h12:N1≤N2:=by omega
 refine seq <| rgN 3 hf <| st (mv rfl) <| st (call1 (A:=OwA edE 60 N2 G0 (es.map toI)) (B:=E v) En48 rfl (fun u w he k=>by cases k;rw[← hti];exact (ends_spec g v w (VA.st _ _ _ _ (Ext.tr e4 he) hgd) gs2 hl2 hN).mono fun en w' ⟨u,k1,k2,k3⟩=>⟨u,k1,k2,OwR.low k3 (Nat.le_trans hN2s he.size) fun b hb=>hb.elim⟩)) ?_
 refine st (makeF1 rfl) <| en fun a w e' hf=>?_
 obtain⟨hT,HV,e,B3⟩:=up4 e' hT HV e B3
 obtain⟨ev,HoE,hf⟩:=hf.opn 9 rfl
 replace HoE:OwR edE 60 N2 G0 w (es.map toI) ev:=HoE
 replace hf:=hf.kp [9,10]
 refine tl_callE (S:=fun b=>ev.ownBlock=some b) (F:=fun z w'=>OwR edE 60 N2 G0 w' ((es.map toI).filter fun x => !p x) z) hf (by decide) En47 ?_ fun a z w hc hF hf=>?_
 ·have e9:a.eval (.tmp 9)=ev:=hf.opd (.tmp 9) _ rfl
  have e10:a.eval (.tmp 10)=.func (.func 49) #[] #[ptr b3]:=hf.opd (.tmp 10) _ rfl
  simp only[List.map_toArray,List.map_cons,List.map_nil,e9,e10]
  refine (deleteE_spec (es.map toI) ev 49 #[ptr b3] p N2 _ En49 HoE (by rw[List.length_map];exact hel) fun w' x hx hc=>?_).mono fun en w' h=>h
  obtain⟨e,he,rfl⟩:=List.mem_map.1 hx
  obtain⟨u,v⟩:=e
  obtain⟨m1,m2,m3,m4⟩:=hmem _ he
  have hpe:p (toI (u,v))=(brD (lkS l) (u,v) != -1):=by rw[hp];show (brD (lkS l) (toN (toI (u,v))) != -1)=_;rw[toN_toI]
  rw[hpe]
  exact br1_spec l V (.map (some bm)) u v b3 w' (hT.ch hc fun h0=>by have:=(HoE.lt h0).1;omega) (Dv.ch HV hc fun b hb=>by have:=(HoE.lt hb).1;omega) (B3.ch hc fun h0=>by have:=(HoE.lt h0).1;omega) (by decide) m1 m2 m3 m4
 replace e:=e.ch hc fun b hb=>by have:=(HoE.lt hb).1;omega
 have HoE:=hF
 refine tA hf rfl fun a hf=>tl_nil <| wret <| ret1 rfl hf rfl ?_
 rintro _ rfl
 exact⟨_,rfl,e,HoE.sl⟩
def cvN (nb:Int→BS)(V:BS)(x:Nat):Nat:=(prF (nbWi nb (V &&& del V (x:Int))) (card (V &&& del V (x:Int))) (V &&& del V (x:Int))).length
theorem cmp_wi (l:List (Int×BS))(S T:BS)(h:S=T):(cmpB (wiL l S) T).length=(prF (nbWi (lkS l) S) (card S) S).length:=by subst h;rw[cmpB,lk_wi]
theorem cv1_spec {G:Nat→Prop}{N0 n:Nat}(l:List (Int×BS))(V:BS)(mq:Value)(x c d:Nat)(W:World)(hT:Tab W)(HV:(Dv (mpE sKV N0) G l).p mq W)(hc:Blk W c (adC V mq) 79)(hd:Blk W d #[I (n:Nat)] 3) :
  Calls Tryz.prog 57 #[I (x:Nat),ptr c,ptr d] W (Post (E (B (decide (cvN (lkS l) V x≤n)))) W):=by
 obtain⟨S,hS⟩:∃S,S=V &&& del V (x:Int):=⟨_,rfl⟩
 have hcv:cvN (lkS l) V x=(cmpB (wiL l S) S).length:=by rw[cvN,← hS,cmp_wi l S S rfl]
 obtain⟨ps,hps⟩:∃ps,ps=cmpB (wiL l S) S:=⟨_,rfl⟩
 rw[hcv,← hps]
 refine eN [I (x:Nat),ptr c,ptr d] [E (I (x:Nat)),E (ptr c),E (ptr d)] Tryz.func57 Tryz.ntmps57 ?_ fun a hf=>?_
 rotate_left
 rotate_right
 ·exact arg3 rfl rfl rfl
 have e:=Ext.rfl' W
 refine seq <| regn0 <| tA hf rfl fun a hf=>tl_nil <| seq <| rgG 10 Mix.mix hf <| st (ldW T79 rfl hc (adC_size _ _)) <| st (fA U79 rfl T76 rfl) <| st ((ldP T76 rfl hc (by rw[adC_size];decide)).eq (congrArg Value.agg (adC_set V mq))) ?_
 refine st (mv rfl) <| st (call2 (A:=E (setV (del V (x:Int)))) (B:=E (setV V)) (C:=E (I (x:Nat))) En59 rfl rfl (fun v u w he h h'=>by cases h;cases h';exact without_spec _ _ w)) ?_
 refine st (call2 (A:=AdjA (wiL l S) S 1024) (B:=E (.agg (adC V mq))) (C:=E (setV (del V (x:Int)))) En58 rfl rfl (fun a b w he k1 k2=>by cases k1;cases k2;rw[hS];exact within_spec l V (del V (x:Int)) mq w (hT.ext he) (Dv.ex HV he))) ?_
 refine st (call1 (A:=Dv (slE setE) G0 ps) (B:=AdjA (wiL l S) S 1024) En54 rfl (fun v w he ⟨mq2,k1,k2⟩=>by rw[k1,hps];exact (parts_spec (wiL l S) S mq2 w (hT.ext he) k2).mono fun en w' ⟨u,k1,k2,k3⟩=>⟨u,k1,k2,OwR.sl k3⟩)) ?_
 refine st (lenD U83 (isR rfl)) <| st (ld1 (v:=I (n:Nat)) T3 rfl hd rfl) <| st ((leq rfl rfl).eq (congrArg B (show decide ((ps.length:Int)≤(n:Int))=decide (ps.length≤n) from decide_eq_decide.2 Int.ofNat_le))) <| en fun a w e' hf=>?_
 obtain⟨hT,HV,e,hc,hd⟩:=up5 e' hT HV e hc hd
 refine tA hf rfl fun a hf=>tl_nil <| wret <| ret1 rfl hf rfl ?_
 rintro _ rfl
 exact⟨_,rfl,e,rfl⟩
def cvF (g:GT):List Nat:=(elems (vset g.1)).filter fun x => !decide (cvN (nbA g) (vset g.1) x≤(prF (nbA g) (card (vset g.1)) (vset g.1)).length)
theorem cuts_spec {G:Nat→Prop}{N:Nat}(g:GT)(ok:Gr.Ok g)(v:Value)(W:World)(hT:Tab W)(h:(Dv (ptE (grE N)) G (some g)).p v W)(hl1:g.1.length≤100000)(hl2:g.2.length≤100000)(hN:N≤1000000) :
  Calls Tryz.prog 17 #[v] W (Post (Dv (slE intE) G0 (natE (cvF g))) W):=by
 have hgd:(Dv (ptE (grE N)) G0 (some g)).p v W:=Dv.weak h fun b _ hb=>hb.elim
 have gs1:=ok.sv
 have gs2:=ok.se
 obtain⟨l,hl⟩:∃l,l=nbL g (elems (vset g.1)):=⟨_,rfl⟩
 have hnb:nbA g=lkS l:=by rw[hl,nbA]
 rw[cvF,hnb]
 obtain⟨V,hV⟩:∃V,V=vset g.1:=⟨_,rfl⟩
 rw[← hV]
 obtain⟨ps,hps⟩:∃ps,ps=cmpB l V:=⟨_,rfl⟩
 rw[show prF (lkS l) (card V) V=ps by rw[hps,cmpB]]
 obtain⟨n,hn⟩:∃n,n=ps.length:=⟨_,rfl⟩
 rw[← hn]
 obtain⟨p,hp⟩:∃p:Int→Bool,p=fun x=>decide (cvN (lkS l) V x.toNat≤n):=⟨_,rfl⟩
 have hfil:(elL V).filter (fun x => !p x)=natE ((elems V).filter fun x => !decide (cvN (lkS l) V x≤n)):=by
  rw[elL,natE,natE,List.filter_map,hp]
  refine congrArg (List.map _) (List.filter_congr fun x _=>?_)
  simp only[Function.comp,Int.toNat_natCast]
 rw[← hfil]
 have hT0:=hT.lt
 refine eN [v] [E v] Tryz.func17 Tryz.ntmps17 ?_ fun a hf=>?_
 rotate_left
 dsimp only[params,Nat.reduceAdd] at hf
 rotate_right
 ·exact arg1 rfl
 have e:=Ext.rfl' W
 refine seq <| regn0 <| tA hf rfl fun a hf=>tl_nil ?_
 replace hf:=hf.keep [0]
 have e0:=e
 refine seq <| rgN 2 hf <| st (mv rfl) <| st (call1 (A:=AdjA l V 1024) En46 rfl (fun v w he k=>by cases k;rw[hl,hV];exact (of07_spec g _ w (hT.ext he) (VA.st _ _ _ _ (Ext.tr e0 he) hgd) gs1 gs2 hl1 hl2 hN).mono fun en w' ⟨k1,mq,k2,k3⟩=>⟨_,k2,k1,mq,rfl,k3⟩)) ?_
 refine en fun a w e' hf=>?_
 obtain⟨hT,e⟩:=up2 e' hT e
 obtain⟨av,⟨mq,rfl,HV0⟩,hf⟩:=hf.opn 6 rfl
 obtain⟨bm,rfl⟩:=mpE_map HV0
 obtain⟨N1,hN1⟩:∃N1,N1=w.heap.size:=⟨_,rfl⟩
 have hN1s:N1≤w.heap.size:=Nat.le_of_eq hN1
 have hWN1:W.heap.size≤N1:=by rw[hN1];exact e.size
 have HV:(Dv (mpE sKV 1024) (fun b=>N1≤b) l).p (.map (some bm)) w:=Dv.weak HV0 fun b hb hh=>by omega
 replace hf:=hf.kp [0,6]
 refine tL I79 hf fun a b3 w e' hb3 hs3 B3 hf=>?_
 have lo3_hN1s:=Nat.le_trans hN1s (Nat.le_of_eq hb3.symm)
 obtain⟨hT,HV,hN1s,e⟩:=up4 e' hT HV hN1s e
 have n3:N1≤b3:=lo3_hN1s
 refine tl_stW T79 hf rfl rfl (adC_one _ _) B3 rfl (adC_size _ _) fun w hg hsz B3 hf=>?_
 replace e:=e.gr hg (by omega);replace hT:=hT.gr hg (by omega);replace HV:=Dv.gr HV hg n3;replace hN1s:=Nat.le_trans hN1s hg.size;clear hg
 refine tl_nil ?_
 replace hf:=hf.keep [3]
 have hdv:(Dv (mpE sKV 1024) G0 l).p (.map (some bm)) w:=Dv.weak HV fun b _ hb=>hb.elim
 refine seq <| rgN 3 hf <| st (ldW T79 rfl B3 (adC_size _ _)) <| st (call1 (A:=Dv (slE setE) G0 ps) (B:=E (.agg (adC V (.map (some bm))))) En54 rfl (fun v w he k1=>by cases k1;rw[hps];exact (parts_spec l V (.map (some bm)) w (hT.ext he) (Dv.ex hdv he)).mono fun en w' ⟨u,k1,k2,k3⟩=>⟨u,k1,k2,OwR.sl k3⟩)) ?_
 refine st (lenD U83 (isR rfl)) <| en fun a w e' hf=>?_
 obtain⟨hT,HV,hN1s,e,B3⟩:=up5 e' hT HV hN1s e B3
 rw[← hn] at hf
 have n34:=B3.lt
 refine tL I3 hf fun a b4 w e' hb4 hs4 B4 hf=>?_
 have lo4_hN1s:=Nat.le_trans hN1s (Nat.le_of_eq hb4.symm)
 obtain⟨hT,HV,hN1s,e,B3⟩:=up5 e' hT HV hN1s e B3
 have n4:N1≤b4∧b3≠b4:=⟨lo4_hN1s,by omega⟩
 replace hf:=hf.kp [3,4,9]
 refine tl_st1 T3 hf rfl rfl rfl B4 Nat.zero_lt_one fun w hg hsz B4 hf=>?_
 obtain⟨e,hT,hN1s⟩:=gr3 hg e hT hN1s
 replace HV:=Dv.gr HV hg n4.1;replace B3:=B3.gr hg n4.2
 refine tl_nil ?_
 replace B4:Blk w b4 #[I (n:Nat)] 3:=B4
 replace hf:=hf.keep [3,4]
 obtain⟨N2,hN2⟩:∃N2,N2=w.heap.size:=⟨_,rfl⟩
 have hN2s:N2≤w.heap.size:=Nat.le_of_eq hN2
 refine seq <| rgN 4 hf <| st (fA U79 rfl T76 rfl) <| st ((ldP T76 rfl B3 (by rw[adC_size];decide)).eq (congrArg Value.agg (adC_set V (.map (some bm))))) ?_
 refine st (call1 (A:=OwA intE 3 N2 G0 (elL V)) (B:=E (setV V)) En56 rfl (fun u w he k=>by cases k;exact (elementsO_spec V w (hT.ext he)).mono fun en w' ⟨u,k1,k2,k3⟩=>⟨u,k1,k2,OwR.low k3 (Nat.le_trans hN2s he.size) fun b hb=>hb.elim⟩)) ?_
 refine st (makeF2 rfl rfl) <| en fun a w e' hf=>?_
 obtain⟨hT,HV,e,B3,B4⟩:=up5 e' hT HV e B3 B4
 obtain⟨ev,HoE,hf⟩:=hf.opn 12 rfl
 replace HoE:OwR intE 3 N2 G0 w (elL V) ev:=HoE
 replace hf:=hf.kp [12,13]
 refine tl_callE (S:=fun b=>ev.ownBlock=some b) (F:=fun z w'=>OwR intE 3 N2 G0 w' ((elL V).filter fun x => !p x) z) hf (by decide) En55 ?_ fun a z w hc hF hf=>?_
 ·have e9:a.eval (.tmp 12)=ev:=hf.opd (.tmp 12) _ rfl
  have e10:a.eval (.tmp 13)=.func (.func 57) #[] #[ptr b3,ptr b4]:=hf.opd (.tmp 13) _ rfl
  simp only[List.map_toArray,List.map_cons,List.map_nil,e9,e10]
  refine (deleteI_spec (elL V) ev 57 #[ptr b3,ptr b4] p N2 _ En57 HoE (Nat.le_trans (elL_len V) (by decide)) fun w' x hx hc=>?_).mono fun en w' h=>h
  obtain⟨y,he,rfl⟩:=List.mem_map.1 hx
  have hpe:p (y:Int)=decide (cvN (lkS l) V y≤n):=by rw[hp];simp only[Int.toNat_natCast]
  rw[hpe]
  exact cv1_spec l V (.map (some bm)) y b3 b4 w' (hT.ch hc fun h0=>by have:=(HoE.lt h0).1;omega) (Dv.ch HV hc fun b hb=>by have:=(HoE.lt hb).1;omega) (B3.ch hc fun h0=>by have:=(HoE.lt h0).1;omega) (B4.ch hc fun h0=>by have:=(HoE.lt h0).1;omega)
 replace e:=e.ch hc fun b hb=>by have:=(HoE.lt hb).1;omega
 have HoE:=hF
 refine tA hf rfl fun a hf=>tl_nil <| wret <| ret1 rfl hf rfl ?_
 rintro _ rfl
 exact⟨_,rfl,e,HoE.sl⟩

section
variable {nb nb':Int→BS}{V:BS}
theorem cpt_le {a:Nat}(ha:a<1024)(h:∀i j:Nat,(nb' (i:Int)).getLsbD j=true→(nb (i:Int)).getLsbD j=true):∀i,(cpt nb' a).getLsbD i=true→(cpt nb a).getLsbD i=true:=
 cpt_least ha _ (cpt_mem ha) fun i j hi hij=>cpt_cl ha i j hi (h i j hij)
theorem cpt_same {a:Nat}(ha:a<1024)(h:∀i j:Nat,(nb' (i:Int)).getLsbD j=true↔(nb (i:Int)).getLsbD j=true):cpt nb' a=cpt nb a:=
 set_ext' fun i=>⟨cpt_le ha (fun i j=>(h i j).1) i,cpt_le ha (fun i j=>(h i j).2) i⟩
theorem wo_symm (hs:∀i j:Nat,(nb (i:Int)).getLsbD j=true→(nb (j:Int)).getLsbD i=true){u v:Nat}(hu:u<1024)(hv:v<1024)(huv:u≠v):∀i j:Nat,(wo nb u v (i:Int)).getLsbD j=true→(wo nb u v (j:Int)).getLsbD i=true:=fun i j h=>by
 obtain⟨q1,q2,q3⟩:=(wo_bit hu hv huv i j).1 h
 exact (wo_bit hu hv huv j i).2 ⟨hs i j q1,fun⟨a,b⟩=>q3 ⟨b,a⟩,fun⟨a,b⟩=>q2 ⟨b,a⟩⟩
end
def woG (g:GT)(k:Nat):GT:=(g.1,g.2.take k++g.2.drop (k+1))
theorem woG_adj {g:GT}(G:Gr.Ok g){k:Nat}{e:Nat×Nat}(h:(esN g)[k]?=some e)(i j:Nat):Adj (woG g k) i j↔Adj g i j∧¬(i=e.1∧j=e.2)∧¬(i=e.2∧j=e.1):=by
 obtain⟨x,hx,he⟩:∃x,g.2[k]?=some x∧x.1=toI e:=by
  rw[esN,List.getElem?_map] at h
  cases hx:g.2[k]? with
  | none=>rw[hx] at h;cases h
  | some x=>
   rw[hx] at h
   obtain rfl:=Option.some.inj h
   obtain⟨u,v,h1,_⟩:=ed_nat G x (List.mem_of_getElem? hx)
   exact⟨x,rfl,by show x.1=toI (x.1.1.toNat,x.1.2.toNat);rw[h1];rfl⟩
 have hee:=es_in G e (List.mem_of_getElem? h)
 obtain⟨hk,hkx⟩:=List.getElem?_eq_some_iff.1 hx
 have hcut:g.2=g.2.take k++x::g.2.drop (k+1):=by
  rw[← hkx,← List.drop_eq_getElem_cons hk,List.take_append_drop]
 have hpw:=G.se
 rw[hcut] at hpw
 obtain⟨p1,p2,p3⟩:=List.pairwise_append.1 hpw
 have hne:∀y∈(woG g k).2,y.1≠x.1:=fun y hy hyx=>by
  rcases List.mem_append.1 hy with hy|hy
  ·have:=p3 y hy x List.mem_cons_self
   rw[hyx] at this
   simp[lt2,lt1] at this
  ·have:=(List.pairwise_cons.1 p2).1 y hy
   rw[hyx] at this
   simp[lt2,lt1] at this
 have hmem:∀y,y∈g.2↔y∈(woG g k).2∨y=x:=fun y=>by
  show y∈g.2↔y∈g.2.take k++g.2.drop (k+1)∨y=x
  conv=>lhs;rw[hcut]
  simp only[List.mem_append,List.mem_cons]
  exact⟨fun h=>h.elim (fun h=>.inl (.inl h)) fun h=>h.elim .inr fun h=>.inl (.inr h),fun h=>h.elim (fun h=>h.elim .inl fun h=>.inr (.inr h)) fun h=>.inr (.inl h)⟩
 constructor
 ·rintro⟨y,hy,hij⟩
  have hyg:=(hmem y).2 (.inl hy)
  refine⟨⟨y,hyg,hij⟩,fun⟨a,b⟩=>?_,fun⟨a,b⟩=>?_⟩
  ·subst a;subst b
   rcases hij with h1|h1
   ·exact hne y hy (by rw[h1,he];rfl)
   ·have:=(G.re y hyg).1
    rw[h1] at this
    omega
  ·subst a;subst b
   rcases hij with h1|h1
   ·have:=(G.re y hyg).1
    rw[h1] at this
    omega
   ·exact hne y hy (by rw[h1,he];rfl)
 ·rintro⟨⟨y,hy,hij⟩,h1,h2⟩
  rcases (hmem y).1 hy with h3|rfl
  ·exact⟨y,h3,hij⟩
  ·rw[he,toI] at hij
   rcases hij with h|h
   ·exact absurd ⟨by have:=congrArg Prod.fst h;dsimp only at this;omega,by have:=congrArg Prod.snd h;dsimp only at this;omega⟩ h1
   ·exact absurd ⟨by have:=congrArg Prod.snd h;dsimp only at this;omega,by have:=congrArg Prod.fst h;dsimp only at this;omega⟩ h2
def eU (x:ET):Nat:=x.1.1.toNat
def eV (x:ET):Nat:=x.1.2.toNat
def mrg (ρ:Nat→Nat)(u v:Nat):Nat→Nat:=fun x=>if ρ x=max (ρ u) (ρ v) then min (ρ u) (ρ v) else ρ x
def sfS (s:(Nat→Nat)×List ET)(x:ET):(Nat→Nat)×List ET:=if s.1 (eU x)=s.1 (eV x) then s else (mrg s.1 (eU x) (eV x),s.2++[x])
def sfF (l:List ET):(Nat→Nat)×List ET:=l.foldl sfS (id,[])
theorem sub_ok {g:GT}(G:Gr.Ok g){T:List ET}(h:T.Sublist g.2):Gr.Ok (g.1,T):=⟨G.sv,G.se.sublist h,G.rv,fun x hx=>G.re x (h.subset hx),Nat.le_trans h.length_le G.ne⟩
theorem adj_app {V:List VT}{T:List ET}{x:ET}{i j:Nat}:Adj (V,T++[x]) i j↔Adj (V,T) i j∨(x.1=((i:Int),(j:Int))∨x.1=((j:Int),(i:Int))):=by
 constructor
 ·rintro⟨y,hy,h⟩
  rcases List.mem_append.1 hy with hy|hy
  ·exact .inl ⟨y,hy,h⟩
  ·rw[List.mem_singleton.1 hy] at h;exact .inr h
 ·rintro (⟨y,hy,h⟩|h)
  ·exact⟨y,List.mem_append.2 (.inl hy),h⟩
  ·exact⟨x,List.mem_append.2 (.inr (List.mem_singleton.2 rfl)),h⟩
theorem ad_app {V:List VT}{T:List ET}{x:ET}(h1:Gr.Ok (V,T))(h2:Gr.Ok (V,T++[x])):Ad (nbA (V,T)) (nbA (V,T++[x])) (eU x) (eV x):=fun i j=>by
 obtain⟨p,q,he,_⟩:=ed_nat h2 x (List.mem_append.2 (.inr (List.mem_singleton.2 rfl)))
 rw[nbA_bit h2,nbA_bit h1,adj_app,eU,eV,he]
 rw[Int.toNat_natCast,Int.toNat_natCast,Prod.mk.injEq,Prod.mk.injEq]
 constructor
 ·rintro (h|h|h)
  ·exact .inl h
  ·exact .inr (.inl (by omega))
  ·exact .inr (.inr (by omega))
 ·rintro (h|h|h)
  ·exact .inl h
  ·exact .inr (.inl (by omega))
  ·exact .inr (.inr (by omega))
theorem lm_id {V:List VT}(h:Gr.Ok (V,[])):Lm (nbA (V,[])) id:=fun x hx=>by
 refine minOf_some.2 ⟨hx,cpt_mem hx,fun j hj=>?_⟩
 cases hh:(cpt (nbA (V,[])) x).getLsbD j with
 | false=>rfl
 | true=>
  have:=cpt_least hx (ins 0 (x:Int)) ((one_bit hx x).2 rfl) (fun i j hi hij=>by
   obtain⟨y,hy,_⟩:=(nbA_bit h).1 hij
   cases hy) j hh
  have h2:=(one_bit hx j).1 this
  change j<x at hj;omega
theorem sf_inv {g:GT}(G:Gr.Ok g):∀k,k≤g.2.length→(sfF (g.2.take k)).2.Sublist (g.2.take k)∧Lm (nbA (g.1,g.2.take k)) (sfF (g.2.take k)).1∧Lm (nbA (g.1,(sfF (g.2.take k)).2)) (sfF (g.2.take k)).1:=by
 intro k
 induction k with
 | zero=>intro _;exact⟨List.Sublist.refl _,lm_id (sub_ok G (List.nil_sublist _)),lm_id (sub_ok G (List.nil_sublist _))⟩
 | succ k ih=>
  intro hk
  obtain⟨h1,h2,h3⟩:=ih (by omega)
  have hx:=List.getElem?_eq_getElem (show k<g.2.length by omega)
  generalize g.2[k]=x at hx
  have htk:=take_succ_get hx
  have hs:(g.2.take k++[x]).Sublist g.2:=by rw[← htk];exact List.take_sublist _ _
  rw[htk]
  generalize g.2.take k=l at h1 h2 h3 hs
  have o1:=sub_ok G hs
  have o0:=sub_ok G ((List.sublist_append_left l [x]).trans hs)
  have oF:=sub_ok G (h1.trans ((List.sublist_append_left l [x]).trans hs))
  have oF1:Gr.Ok (g.1,(sfF l).2++[x]):=sub_ok G ((h1.append (List.Sublist.refl [x])).trans hs)
  obtain⟨p,q,he,hpq,hp,hq⟩:=ed_nat o1 x (List.mem_append.2 (.inr (List.mem_singleton.2 rfl)))
  have hu:eU x=p:=by rw[eU,he];exact Int.toNat_natCast _
  have hv:eV x=q:=by rw[eV,he];exact Int.toNat_natCast _
  have a1:=h2.add (nb_symm o0) (ad_app o0 o1) (by rw[hu];exact bit_lt hp) (by rw[hv];exact bit_lt hq)
  have a2:=h3.add (nb_symm oF) (ad_app oF oF1) (by rw[hu];exact bit_lt hp) (by rw[hv];exact bit_lt hq)
  have hst:sfF (l++[x])=sfS (sfF l) x:=by rw[sfF,List.foldl_append];rfl
  rw[hst,sfS]
  by_cases hr:(sfF l).1 (eU x)=(sfF l).1 (eV x)
  ·rw[if_pos hr]
   refine⟨h1.trans (List.sublist_append_left _ _),fun y hy=>?_,h3⟩
   rw[a1 y hy]
   dsimp only
   congr 1
   split <;> omega
  ·rw[if_neg hr]
   exact⟨h1.append (List.Sublist.refl _),a1,a2⟩
def Acy (V:List VT)(T:List ET):Prop:=∀x∈T,¬(cpt (wo (nbA (V,T)) (eU x) (eV x)) (eU x)).getLsbD (eV x)=true
theorem fo_add {V:List VT}{T:List ET}{x:ET}(h1:Gr.Ok (V,T))(h2:Gr.Ok (V,T++[x]))(hn:¬(cpt (nbA (V,T)) (eU x)).getLsbD (eV x)=true)(hF:Acy V T):Acy V (T++[x]):=by
 have ends:∀y∈T++[x],eU y<1024∧eV y<1024∧eU y≠eV y∧(nbA (V,T++[x]) (eU y:Int)).getLsbD (eV y)=true:=fun y hy=>by
  obtain⟨p,q,he,hpq,hp,hq⟩:=ed_nat h2 y hy
  have e1:eU y=p:=by rw[eU,he];exact Int.toNat_natCast _
  have e2:eV y=q:=by rw[eV,he];exact Int.toNat_natCast _
  rw[e1,e2]
  exact⟨bit_lt hp,bit_lt hq,by omega,(nbA_bit h2).2 ⟨y,hy,.inl he⟩⟩
 obtain⟨hu,hv,huv,_⟩:=ends x (List.mem_append.2 (.inr (List.mem_singleton.2 rfl)))
 have had:=ad_app h1 h2
 generalize hU:eU x=u at hn hu huv had
 generalize hV:eV x=v at hn hv huv had
 have hs:=nb_symm h1
 have hadj:¬(nbA (V,T) (u:Int)).getLsbD v=true:=fun h=>hn (cpt_cl hu u v (cpt_mem hu) h)
 intro y hy
 obtain⟨hp,hq,hpq,hyn⟩:=ends y hy
 rcases List.mem_append.1 hy with hyT|hyx
 ·have hFy:=hF y hyT
  have hyT':(nbA (V,T) (eU y:Int)).getLsbD (eV y)=true:=by
   obtain⟨p,q,he,_⟩:=ed_nat h1 y hyT
   have e1:eU y=p:=by rw[eU,he];exact Int.toNat_natCast _
   have e2:eV y=q:=by rw[eV,he];exact Int.toNat_natCast _
   rw[e1,e2];exact (nbA_bit h1).2 ⟨y,hyT,.inl he⟩
  generalize eU y=p at hp hpq hFy hyT' hyn ⊢
  generalize eV y=q at hq hpq hFy hyT' hyn ⊢
  have hsw:=wo_symm hs hp hq hpq
  have hne:¬(p=u∧q=v)∧¬(p=v∧q=u):=⟨fun⟨a,b⟩=>hadj (by rw[← a,← b];exact hyT'),fun⟨a,b⟩=>hadj (by rw[← a,← b];exact hs _ _ hyT')⟩
  have haw:Ad (wo (nbA (V,T)) p q) (wo (nbA (V,T++[x])) p q) u v:=fun i j=>by
   rw[wo_bit hp hq hpq,wo_bit hp hq hpq,had i j]
   constructor
   ·rintro⟨h|h|h,k1,k2⟩
    ·exact .inl ⟨h,k1,k2⟩
    ·exact .inr (.inl h)
    ·exact .inr (.inr h)
   ·rintro (⟨h,k1,k2⟩|⟨rfl,rfl⟩|⟨rfl,rfl⟩)
    ·exact⟨.inl h,k1,k2⟩
    ·exact⟨.inr (.inl ⟨rfl,rfl⟩),fun⟨a,b⟩=>hne.1 ⟨a.symm,b.symm⟩,fun⟨a,b⟩=>hne.2 ⟨b.symm,a.symm⟩⟩
    ·exact⟨.inr (.inr ⟨rfl,rfl⟩),fun⟨a,b⟩=>hne.2 ⟨a.symm,b.symm⟩,fun⟨a,b⟩=>hne.1 ⟨b.symm,a.symm⟩⟩
  have hle:∀{a:Nat},a<1024→∀i,(cpt (wo (nbA (V,T)) p q) a).getLsbD i=true→(cpt (nbA (V,T)) a).getLsbD i=true:=fun ha=>cpt_le ha fun i j h=>((wo_bit hp hq hpq i j).1 h).1
  obtain⟨c1,c2⟩:=cpt_add hsw haw hu hv hp
  intro hh
  by_cases hc:(cpt (wo (nbA (V,T)) p q) p).getLsbD u=true∨(cpt (wo (nbA (V,T)) p q) p).getLsbD v=true
  ·rw[c1 hc] at hh
   have key:∀{a b:Nat},a<1024→b<1024→(cpt (wo (nbA (V,T)) p q) p).getLsbD a=true→(cpt (wo (nbA (V,T)) p q) b).getLsbD q=true→(cpt (nbA (V,T)) a).getLsbD b=true:=fun {a b} ha hb k1 k2=>by
    have r1:(cpt (nbA (V,T)) p).getLsbD a=true:=hle hp a k1
    have r2:(cpt (nbA (V,T)) b).getLsbD q=true:=hle hb q k2
    have r3:(cpt (nbA (V,T)) p).getLsbD q=true:=cpt_cl hp p q (cpt_mem hp) hyT'
    rw[cpt_eq hs hp r1,← cpt_eq hs hp r3,cpt_eq hs hb r2];exact cpt_mem hb
   rcases hc with k1|k1
   ·rcases (bit_or _ _ _).1 hh with k2|k2
    ·exact hFy (by rw[← cpt_eq hsw hp k1];exact k2)
    ·exact hn (key hu hv k1 k2)
   ·rcases (bit_or _ _ _).1 hh with k2|k2
    ·have:=key hv hu k1 k2
     exact hn (cpt_symm hs hv this)
    ·exact hFy (by rw[← cpt_eq hsw hp k1];exact k2)
  ·rw[c2 hc] at hh
   exact hFy hh
 ·rw[List.mem_singleton.1 hyx,hU,hV]
  have hbit:∀i j:Nat,(wo (nbA (V,T++[x])) u v (i:Int)).getLsbD j=true↔(nbA (V,T) (i:Int)).getLsbD j=true:=fun i j=>by
   rw[wo_bit hu hv huv,had i j]
   constructor
   ·rintro⟨h|h|h,k1,k2⟩
    ·exact h
    ·exact absurd h k1
    ·exact absurd h k2
   ·intro h
    exact⟨.inl h,fun⟨a,b⟩=>hadj (by rw[← a,← b];exact h),fun⟨a,b⟩=>hadj (by rw[← a,← b];exact hs _ _ h)⟩
  rw[cpt_same hu hbit];exact hn
def foG (g:GT):GT:=(g.1,(sfF g.2).2)
theorem fo_sub {g:GT}(G:Gr.Ok g):(sfF g.2).2.Sublist g.2:=by
 have:=(sf_inv G g.2.length (Nat.le_refl _)).1
 rwa [List.take_length] at this
theorem sf_keep {x:ET}:∀(r:List ET) (s:(Nat→Nat)×List ET),x∈s.2→x∈(r.foldl sfS s).2
 | [],_,h=>h
 | y::r,s,h=>by
  rw[List.foldl_cons]
  refine sf_keep r _ ?_
  rw[sfS];split
  ·exact h
  ·exact List.mem_append.2 (.inl h)
theorem br_fo {g:GT}(G:Gr.Ok g){k:Nat}{x:ET}(hx:g.2[k]?=some x)(hb:brD (nbA g) (eU x,eV x) = -1):x∈(sfF g.2).2:=by
 obtain⟨hk,_⟩:=List.getElem?_eq_some_iff.1 hx
 have hek:(esN g)[k]?=some (eU x,eV x):=by rw[esN,List.getElem?_map,hx];rfl
 obtain⟨h0,hp,hq⟩:=es_in G _ (List.mem_of_getElem? hek)
 dsimp only at h0 hp hq
 obtain⟨h1,h2,_⟩:=sf_inv G k (by omega)
 have o0:=sub_ok G (List.take_sublist k g.2)
 have hne:(sfF (g.2.take k)).1 (eU x)≠(sfF (g.2.take k)).1 (eV x):=fun hr=>by
  have h3:=(h2.iff (nb_symm o0) (bit_lt hp) (bit_lt hq)).2 hr
  have h4:¬(cpt (wo (nbA g) (eU x) (eV x)) (eU x)).getLsbD (eV x)=true:=ds_some.1 hb
  refine h4 (cpt_le (bit_lt hp) (fun i j hij=>?_) _ h3)
  obtain⟨y,hy,hyij⟩:=(nbA_bit o0).1 hij
  have h5:Adj (woG g k) i j:=⟨y,List.mem_append.2 (.inl hy),hyij⟩
  obtain⟨k1,k2,k3⟩:=(woG_adj G hek i j).1 h5
  exact (wo_bit (bit_lt hp) (bit_lt hq) (by omega) i j).2 ⟨(nbA_bit G).2 k1,k2,k3⟩
 have hsp:g.2=g.2.take (k+1)++g.2.drop (k+1):=(List.take_append_drop _ _).symm
 have hin:x∈(sfF (g.2.take (k+1))).2:=by
  rw[take_succ_get hx,sfF,List.foldl_append]
  show x∈(sfS (sfF (g.2.take k)) x).2
  rw[sfS,if_neg hne]
  exact List.mem_append.2 (.inr (List.mem_singleton.2 rfl))
 have hst:sfF g.2=(g.2.drop (k+1)).foldl sfS (sfF (g.2.take (k+1))):=by
  conv=>lhs;rw[sfF,hsp,List.foldl_append]
  rfl
 rw[hst]
 exact sf_keep _ _ hin
theorem fo_acy {g:GT}(G:Gr.Ok g):∀k,k≤g.2.length→Acy g.1 (sfF (g.2.take k)).2:=by
 intro k
 induction k with
 | zero=>intro _ x hx;cases hx
 | succ k ih=>
  intro hk
  have h0:=ih (by omega)
  obtain⟨h1,h2,h3⟩:=sf_inv G k (by omega)
  have hx:=List.getElem?_eq_getElem (show k<g.2.length by omega)
  generalize g.2[k]=x at hx
  have htk:=take_succ_get hx
  have hs:(g.2.take k++[x]).Sublist g.2:=by rw[← htk];exact List.take_sublist _ _
  obtain⟨p,q,he,hpq,hp,hq⟩:=ed_nat G x (List.mem_of_getElem? hx)
  have hu:eU x=p:=by rw[eU,he];exact Int.toNat_natCast _
  have hv:eV x=q:=by rw[eV,he];exact Int.toNat_natCast _
  rw[htk]
  generalize g.2.take k=l at h0 h1 h2 h3 hs
  have oF:=sub_ok G (h1.trans ((List.sublist_append_left l [x]).trans hs))
  have oF1:Gr.Ok (g.1,(sfF l).2++[x]):=sub_ok G ((h1.append (List.Sublist.refl [x])).trans hs)
  have hst:sfF (l++[x])=sfS (sfF l) x:=by rw[sfF,List.foldl_append];rfl
  rw[hst,sfS]
  by_cases hr:(sfF l).1 (eU x)=(sfF l).1 (eV x)
  ·rw[if_pos hr];exact h0
  ·rw[if_neg hr]
   exact fo_add oF oF1 (fun hh=>hr ((h3.iff (nb_symm oF) (by rw[hu];exact bit_lt hp) (by rw[hv];exact bit_lt hq)).1 hh)) h0
section
variable {V:List VT}{T:List ET}
end
theorem fx_acy {g:GT}(G:Gr.Ok g):Acy g.1 (sfF g.2).2:=by
 have:=fo_acy G g.2.length (Nat.le_refl _)
 rwa [List.take_length] at this
theorem fo_gir {g:GT}(G:Gr.Ok g):girF (nbA (foG g)) (esN (foG g))=0:=by
 refine (girF_ok (esN (foG g))).1.2 fun e he=>?_
 obtain⟨x,hx,rfl⟩:=List.mem_map.1 he
 exact farF_none.2 (fx_acy G x hx)
theorem sub_all {α:Type}{T l:List α}(h:T.Sublist l)(hn:l.Nodup)(ha:∀x∈l,x∈T):T=l:=by
 induction h with
 | slnil=>rfl
 | cons a h ih=>
  have h1:=h.subset (ha a (by simp))
  exact absurd h1 (List.nodup_cons.1 hn).1
 | cons_cons a h ih=>
  obtain⟨h1,h2⟩:=List.nodup_cons.1 hn
  rw[ih h2 fun x hx=>((List.mem_cons.1 (ha x (List.mem_cons.2 (.inr hx)))).resolve_left fun he=>h1 (he▸hx))]
theorem shc_gir {g:GT}(ok:Gr.Ok g):shcF (nbA g) (vset g.1) (esN g)=none↔girF (nbA g) (esN g)=0:=by
 constructor
 ·intro h
  cases hh:decide (girF (nbA g) (esN g)=0) with
  | true=>exact of_decide_eq_true hh
  | false=>
   have h0:=of_decide_eq_false hh
   obtain⟨n,hn,_,hgo⟩:=shc_ne ok h0
   rw[shcF,if_neg h0,hn,Int.toNat_natCast] at h
   exact absurd h hgo
 ·intro h
  rw[shcF,if_pos h]
theorem fo_all {g:GT}(ok:Gr.Ok g):shcF (nbA g) (vset g.1) (esN g)=none↔(sfF g.2).2.length=g.2.length:=by
 rw[shc_gir ok]
 constructor
 ·intro h
  have h1:=(girF_ok (nb:=nbA g) (esN g)).1.1 h
  rw[sub_all (fo_sub ok) (ok.se.imp fun {x y} h he=>by rw[he,lt2_irr] at h;cases h) fun x hx=>by
   obtain⟨k,hk,hxk⟩:=List.getElem_of_mem hx
   exact br_fo ok (k:=k) (by rw[List.getElem?_eq_getElem hk,hxk]) (h1 (eU x,eV x) (List.mem_map.2 ⟨x,hx,rfl⟩))]
 ·intro h
  have h1:=fo_gir ok
  rw[foG,(fo_sub ok).eq_of_length h] at h1
  exact h1
theorem eq_takeG {α:Type}{xs ys:List α}{k:Nat}{x y:α}(h:xs.take k=ys.take k)(hx:xs[k]?=some x)(hy:ys[k]?=some y):(xs.take (k+1)=ys.take (k+1))↔x=y:=by
 rw[take_succ_get hx,take_succ_get hy,h]
 simp
theorem same07_spec {G G':Nat→Prop}(xs ys:List Int)(v u:Value)(W:World)(h:(Dv (slE intE) G xs).p v W)(h':(Dv (slE intE) G' ys).p u W)(hl:xs.length≤100000)(hl':ys.length≤100000) :
  Calls Tryz.prog 16 #[v,u] W (Post (E (B (decide (xs=ys)))) W):=by
 refine eN [v,u] [Dv (slE intE) G0 xs,Dv (slE intE) G0 ys] Tryz.func16 Tryz.ntmps16 ?_ fun a hf=>?_
 rotate_left
 rotate_right
 ·exact arg2 (Dv.weak h fun b _ hb=>hb.elim) (Dv.weak h' fun b _ hb=>hb.elim)
 have e:=Ext.rfl' W
 refine seq <| regn0 <| tA hf rfl fun a hf=>tl_nil ?_
 repeat refine seq ?_
 refine rgN 5 hf <| st (mv rfl) <| st (lenD U35 (isR rfl)) <| st (mv rfl) <| st (lenD U35 (isR rfl)) <| st (neq rfl rfl) <| en fun a w e' hf=>?_
 replace e:=e.tr e'
 refine tl_nil <| ifc hf rfl (fun hb=>?_) (fun hb=>?_)
 ·have hne:xs≠ys:=fun he=>by rw[he] at hb;simp at hb
  refine seq <| regn0 <| tA hf rfl fun a hf=>tl_nil <| wret <| ret1 rfl hf rfl ?_
  rintro _ rfl
  exact⟨_,rfl,e,congrArg B (decide_eq_false hne).symm⟩
 have hll:xs.length=ys.length:=by simp at hb;omega
 refine wskip ?_
 repeat refine seq ?_
 refine regn0 <| tA hf rfl fun a hf=>tl_nil ?_
 replace hf:=hf.keep [0,1,5]
 refine blk (loopN (fun r0 a w=>∃(k:Nat) ,r0=xs.length - k∧k≤xs.length∧Fr 26 a w [(0,Dv (slE intE) G0 xs),(1,Dv (slE intE) G0 ys),(5,E (I k))]∧Ext W w∧xs.take k=ys.take k) xs.length ⟨0,rfl,by omega,hf,e,rfl⟩ ?_)
 rintro r0 a w ⟨k,rfl,hk,hf,e,ht⟩
 repeat refine seq ?_
 refine rgN 4 hf <| st (mv rfl) <| st (mv rfl) <| st (lenD U35 (isR rfl)) <| st (lss rfl rfl) <| en fun a w e' hf=>?_
 replace e:=e.tr e'
 refine tl_nil <| ifc hf rfl (fun hc=>wskip ?_) (fun hc=>wexit ?_)
 rotate_left
 rotate_left
 ·have hlt:k<xs.length:=by have:=of_decide_eq_true hc;(try dsimp only at this);omega
  replace hf:=hf.keep [0,1,5]
  refine seq <| blk ?_
  have hx:=gi_get hlt
  have hy:=gi_get (show k<ys.length by omega)
  refine seq <| rgG 9 Mix.mix hf <| st (mv rfl) <| st (mv rfl) <| st (idxD U35 S3 (isR rfl) rfl (by omega) (hx)) <| st (ldI T3 (isR rfl)) <| st (mv rfl) <| st (mv rfl) <| st (idxD U35 S3 (isR rfl) rfl (by omega) (hy)) <| st (ldI T3 (isR rfl)) <| st (neq rfl rfl) <| en fun a w e' hf=>?_
  replace e:=e.tr e'
  refine tl_nil <| ifc hf rfl (fun hb=>?_) (fun hb=>?_)
  ·have hne:xs≠ys:=fun he=>by rw[he] at hb;simp at hb
   refine seq <| regn0 <| tA hf rfl fun a hf=>tl_nil <| wret <| ret1 rfl hf rfl ?_
   rintro _ rfl
   exact⟨_,rfl,e,congrArg B (decide_eq_false hne).symm⟩
  ·refine wskip <| rgN 2 hf <| st (mv rfl) <| st ((add rfl rfl (by omega)).eq (congrArg (Value.int .i64) (show (k:Int)+1=((k+1:Nat):Int) from rfl))) <| en fun a w e' hf=>?_
   replace e:=e.tr e'
   refine tA hf rfl fun a hf=>tl_nil ?_
   replace hf:=hf.keep [0,1,5]
   refine⟨_,?_,k+1,rfl,by omega,hf,e,?_⟩
   ·omega
   exact (eq_take ht hlt (by omega)).2 (by simpa using hb)
 ·obtain rfl:k=xs.length:=by have:=of_decide_eq_false hc;(try dsimp only at this);omega
  have he:xs=ys:=by rw[List.take_length,hll,List.take_length] at ht;exact ht
  refine seq <| regn0 <| tA hf rfl fun a hf=>tl_nil <| wret <| ret1 rfl hf rfl ?_
  rintro _ rfl
  exact⟨_,rfl,e,congrArg B (decide_eq_true he).symm⟩
theorem all07_spec {G G':Nat→Prop}(xs ys:List (List Int))(v u:Value)(W:World)(h:(Dv (slE (slE intE)) G xs).p v W)(h':(Dv (slE (slE intE)) G' ys).p u W)(hl:xs.length≤100000)(hl':ys.length≤100000)(hx1:∀x∈xs,x.length≤100000)(hy1:∀x∈ys,x.length≤100000) :
  Calls Tryz.prog 20 #[v,u] W (Post (E (B (decide (xs=ys)))) W):=by
 refine eN [v,u] [Dv (slE (slE intE)) G0 xs,Dv (slE (slE intE)) G0 ys] Tryz.func20 Tryz.ntmps20 ?_ fun a hf=>?_
 rotate_left
 rotate_right
 ·exact arg2 (Dv.weak h fun b _ hb=>hb.elim) (Dv.weak h' fun b _ hb=>hb.elim)
 have e:=Ext.rfl' W
 refine seq <| regn0 <| tA hf rfl fun a hf=>tl_nil ?_
 repeat refine seq ?_
 refine rgN 5 hf <| st (mv rfl) <| st (lenD U39 (isR rfl)) <| st (mv rfl) <| st (lenD U39 (isR rfl)) <| st (neq rfl rfl) <| en fun a w e' hf=>?_
 replace e:=e.tr e'
 refine tl_nil <| ifc hf rfl (fun hb=>?_) (fun hb=>?_)
 ·have hne:xs≠ys:=fun he=>by rw[he] at hb;simp at hb
  refine seq <| regn0 <| tA hf rfl fun a hf=>tl_nil <| wret <| ret1 rfl hf rfl ?_
  rintro _ rfl
  exact⟨_,rfl,e,congrArg B (decide_eq_false hne).symm⟩
 have hll:xs.length=ys.length:=by simp at hb;omega
 refine wskip ?_
 repeat refine seq ?_
 refine regn0 <| tA hf rfl fun a hf=>tl_nil ?_
 replace hf:=hf.keep [0,1,5]
 refine blk (loopN (fun r0 a w=>∃(k:Nat) ,r0=xs.length - k∧k≤xs.length∧Fr 27 a w [(0,Dv (slE (slE intE)) G0 xs),(1,Dv (slE (slE intE)) G0 ys),(5,E (I k))]∧Ext W w∧xs.take k=ys.take k) xs.length ⟨0,rfl,by omega,hf,e,rfl⟩ ?_)
 rintro r0 a w ⟨k,rfl,hk,hf,e,ht⟩
 repeat refine seq ?_
 refine rgN 4 hf <| st (mv rfl) <| st (mv rfl) <| st (lenD U39 (isR rfl)) <| st (lss rfl rfl) <| en fun a w e' hf=>?_
 replace e:=e.tr e'
 refine tl_nil <| ifc hf rfl (fun hc=>wskip ?_) (fun hc=>wexit ?_)
 rotate_left
 rotate_left
 ·have hlt:k<xs.length:=by have:=of_decide_eq_true hc;(try dsimp only at this);omega
  replace hf:=hf.keep [0,1,5]
  refine seq <| blk ?_
  have hx:=List.getElem?_eq_getElem hlt
  have hy:=List.getElem?_eq_getElem (show k<ys.length by omega)
  have hxl:=hx1 _ (List.getElem_mem hlt)
  have hyl:=hy1 _ (List.getElem_mem (show k<ys.length by omega))
  have ha:∀x y,xs[k]?=some x→ys[k]?=some y→((xs.take (k+1)=ys.take (k+1))↔x=y):=fun x y hx hy=>eq_takeG ht hx hy
  generalize xs[k]=x at hx hxl
  generalize ys[k]=y at hy hyl
  have ha:=ha x y hx hy
  refine seq <| rgG 10 Mix.mix hf <| st (mv rfl) <| st (mv rfl) <| st (idxD U39 S35 (isR rfl) rfl (by omega) (hx)) <| st (ldD T35 (isR rfl)) <| st (mv rfl) <| st (mv rfl) <| st (idxD U39 S35 (isR rfl) rfl (by omega) (hy)) <| st (ldD T35 (isR rfl)) <| st (call2 (A:=E (B (decide (x=y)))) (B:=Dv (slE intE) G0 x) (C:=Dv (slE intE) G0 y) En16 rfl rfl (fun v u w he h h'=>same07_spec x y v u w h h' hxl hyl)) <| st (notp rfl) <| en fun a w e' hf=>?_
  replace e:=e.tr e'
  refine tl_nil <| ifc hf rfl (fun hb=>?_) (fun hb=>?_)
  ·have hne:xs≠ys:=fun he=>by
    rw[he] at hx
    rw[hx] at hy
    cases hy
    simp at hb
   refine seq <| regn0 <| tA hf rfl fun a hf=>tl_nil <| wret <| ret1 rfl hf rfl ?_
   rintro _ rfl
   exact⟨_,rfl,e,congrArg B (decide_eq_false hne).symm⟩
  ·refine wskip <| rgN 2 hf <| st (mv rfl) <| st ((add rfl rfl (by omega)).eq (congrArg (Value.int .i64) (show (k:Int)+1=((k+1:Nat):Int) from rfl))) <| en fun a w e' hf=>?_
   replace e:=e.tr e'
   refine tA hf rfl fun a hf=>tl_nil ?_
   replace hf:=hf.keep [0,1,5]
   refine⟨_,?_,k+1,rfl,by omega,hf,e,?_⟩
   ·omega
   exact ha.2 (by simpa using hb)
 ·obtain rfl:k=xs.length:=by have:=of_decide_eq_false hc;(try dsimp only at this);omega
  have he:xs=ys:=by rw[List.take_length,hll,List.take_length] at ht;exact ht
  refine seq <| regn0 <| tA hf rfl fun a hf=>tl_nil <| wret <| ret1 rfl hf rfl ?_
  rintro _ rfl
  exact⟨_,rfl,e,congrArg B (decide_eq_true he).symm⟩
theorem run_eqPr {P:Program}{t e:TypeId}(ht:P.underlying t=some (.array 2 e))(he:P.underlying e=some (.int .i64))(hs:TI P e false 1)(a b:Int×Int)(w:World):(Op.equal t (edV a) (edV b)).run P w=.ok (decide (a=b)) w:=by
 obtain⟨a1,a2⟩:=a
 obtain⟨b1,b2⟩:=b
 have p0:∀x y w,(part e #[x,y] 0).run P w=.ok x w:=fun x y w=>by simp[part,hs.agg]
 have p1:∀x y w,(part e #[x,y] 1).run P w=.ok y w:=fun x y w=>by simp[part,hs.agg]
 have q:∀x y w,(Op.equalIn 9999 e (I x) (I y)).run P w=.ok (x==y) w:=fun x y w=>run_equalIn_int w 9998 e .i64 .i64 x y he
 show (Op.equalIn 10000 t (.agg #[I a1,I a2]) (.agg #[I b1,I b2])).run P w=_
 rw[Op.equalIn]
 simp only[Sem.run_bind,run_underlying ht,Result.andThen_ok,hs.size]
 rw[Std.Legacy.Range.forIn_eq_forIn_range']
 simp only[Std.Legacy.Range.size,Nat.sub_zero,Nat.add_one_sub_one,Nat.div_one,List.range',List.forIn_cons,List.forIn_nil,Sem.run_bind,Nat.mul_one,p0,p1,q,Result.andThen_ok]
 by_cases h1:a1=b1
 ·by_cases h2:a2=b2
  ·rw[decide_eq_true (by rw[h1,h2])];simp[h1,h2,p0,p1,q]
  ·rw[decide_eq_false (fun h=>h2 (Prod.mk.inj h).2)];simp[h1,h2,p0,p1,q]
 ·rw[decide_eq_false (fun h=>h1 (Prod.mk.inj h).1)];simp[h1]
theorem neqPr {P:Program}{w0:World}{L:Env}{dst:Option Tmp}{ty:TypeId}{pos:String}{aft:Array Edge}{g:Option (Nat×Bool)}{t yt e:TypeId}{x y:Operand}{a b:Int×Int}(ht:P.underlying t=some (.array 2 e))(he:P.underlying e=some (.int .i64))(hs:TI P e false 1)(hm:P.eqGuardType P.depth t=false)(hx:opd L x=some (E (edV a)))(hy:opd L y=some (E (edV b))) :
  OpC P w0 L ⟨dst,.binOp .neq t x y yt,ty,pos,aft,g⟩ (E (.bool (!decide (a=b)))):=
 opc_neq hx hy (fun w=>eqGuard_agg _ _ _ _ _ _ hm w) rfl fun w _=>run_eqPr ht he hs a b w
theorem pairs07_spec {G G':Nat→Prop}(xs ys:List (Int×Int))(v u:Value)(W:World)(h:(Dv (slE edE) G xs).p v W)(h':(Dv (slE edE) G' ys).p u W)(hl:xs.length≤100000)(hl':ys.length≤100000) :
  Calls Tryz.prog 13 #[v,u] W (Post (E (B (decide (xs=ys)))) W):=by
 refine eN [v,u] [Dv (slE edE) G0 xs,Dv (slE edE) G0 ys] Tryz.func13 Tryz.ntmps13 ?_ fun a hf=>?_
 rotate_left
 rotate_right
 ·exact arg2 (Dv.weak h fun b _ hb=>hb.elim) (Dv.weak h' fun b _ hb=>hb.elim)
 have e:=Ext.rfl' W
 refine seq <| regn0 <| tA hf rfl fun a hf=>tl_nil ?_
 repeat refine seq ?_
 refine rgN 5 hf <| st (mv rfl) <| st (lenD U31 (isR rfl)) <| st (mv rfl) <| st (lenD U31 (isR rfl)) <| st (neq rfl rfl) <| en fun a w e' hf=>?_
 replace e:=e.tr e'
 refine tl_nil <| ifc hf rfl (fun hb=>?_) (fun hb=>?_)
 ·have hne:xs≠ys:=fun he=>by rw[he] at hb;simp at hb
  refine seq <| regn0 <| tA hf rfl fun a hf=>tl_nil <| wret <| ret1 rfl hf rfl ?_
  rintro _ rfl
  exact⟨_,rfl,e,congrArg B (decide_eq_false hne).symm⟩
 have hll:xs.length=ys.length:=by simp at hb;omega
 refine wskip ?_
 repeat refine seq ?_
 refine regn0 <| tA hf rfl fun a hf=>tl_nil ?_
 replace hf:=hf.keep [0,1,5]
 refine blk (loopN (fun r0 a w=>∃(k:Nat) ,r0=xs.length - k∧k≤xs.length∧Fr 26 a w [(0,Dv (slE edE) G0 xs),(1,Dv (slE edE) G0 ys),(5,E (I k))]∧Ext W w∧xs.take k=ys.take k) xs.length ⟨0,rfl,by omega,hf,e,rfl⟩ ?_)
 rintro r0 a w ⟨k,rfl,hk,hf,e,ht⟩
 repeat refine seq ?_
 refine rgN 4 hf <| st (mv rfl) <| st (mv rfl) <| st (lenD U31 (isR rfl)) <| st (lss rfl rfl) <| en fun a w e' hf=>?_
 replace e:=e.tr e'
 refine tl_nil <| ifc hf rfl (fun hc=>wskip ?_) (fun hc=>wexit ?_)
 rotate_left
 rotate_left
 ·have hlt:k<xs.length:=by have:=of_decide_eq_true hc;(try dsimp only at this);omega
  replace hf:=hf.keep [0,1,5]
  refine seq <| blk ?_
  have hx:=List.getElem?_eq_getElem hlt
  have hy:=List.getElem?_eq_getElem (show k<ys.length by omega)
  have ha:∀x y,xs[k]?=some x→ys[k]?=some y→((xs.take (k+1)=ys.take (k+1))↔x=y):=fun x y hx hy=>eq_takeG ht hx hy
  generalize xs[k]=x at hx
  generalize ys[k]=y at hy
  have ha:=ha x y hx hy
  refine seq <| rgG 9 Mix.mix hf <| st (mv rfl) <| st (mv rfl) <| st (idxD U31 S60 (isR rfl) rfl (by omega) (hx)) <| st (ldE2 T60 (isR rfl)) <| st (mv rfl) <| st (mv rfl) <| st (idxD U31 S60 (isR rfl) rfl (by omega) (hy)) <| st (ldE2 T60 (isR rfl)) <| st (neqPr U60 U3 T3 (by kernel_rfl) rfl rfl) <| en fun a w e' hf=>?_
  replace e:=e.tr e'
  refine tl_nil <| ifc hf rfl (fun hb=>?_) (fun hb=>?_)
  ·have hne:xs≠ys:=fun he=>by
    rw[he] at hx
    rw[hx] at hy
    cases hy
    simp at hb
   refine seq <| regn0 <| tA hf rfl fun a hf=>tl_nil <| wret <| ret1 rfl hf rfl ?_
   rintro _ rfl
   exact⟨_,rfl,e,congrArg B (decide_eq_false hne).symm⟩
  ·refine wskip <| rgN 2 hf <| st (mv rfl) <| st ((add rfl rfl (by omega)).eq (congrArg (Value.int .i64) (show (k:Int)+1=((k+1:Nat):Int) from rfl))) <| en fun a w e' hf=>?_
   replace e:=e.tr e'
   refine tA hf rfl fun a hf=>tl_nil ?_
   replace hf:=hf.keep [0,1,5]
   refine⟨_,?_,k+1,rfl,by omega,hf,e,?_⟩
   ·omega
   exact ha.2 (by simpa using hb)
 ·obtain rfl:k=xs.length:=by have:=of_decide_eq_false hc;(try dsimp only at this);omega
  have he:xs=ys:=by rw[List.take_length,hll,List.take_length] at ht;exact ht
  refine seq <| regn0 <| tA hf rfl fun a hf=>tl_nil <| wret <| ret1 rfl hf rfl ?_
  rintro _ rfl
  exact⟨_,rfl,e,congrArg B (decide_eq_true he).symm⟩
def frM (g:GT):GT×Bool:=if (decide ((7:Int)<(g.1.length:Nat)) || decide ((10:Int)<(g.2.length:Nat)))=true then (g,false) else if (ofR g.1 g.2).2≠0 then (g,false) else ((ofR g.1 g.2).1,true)
noncomputable def FrM (g:GT):VA:=⟨fun v w=>((frM g).2=true→(Dv (ptE (grE 2000)) G0 (some (frM g).1)).p v w)∧((frM g).2=false→v=.pointer none),fun v w w' e h=>⟨fun hc=>Dv.ex (h.1 hc) e,h.2⟩⟩
theorem made07_spec {G:Nat→Prop}(g:GT)(v:Value)(W:World)(h:(Dv gtE G g).p v W)(hV:∀x∈g.1,0≤x.2.1∧x.2.1<256)(hE:∀x∈g.2,0≤x.2.1∧x.2.1<256) :
  Calls Tryz.prog 11 #[v] W (Post (Tup [FrM g,Dv gtE G0 (frM g).1]) W):=by
 obtain⟨u1,u2,rfl,h1,h2⟩:=Dv.gt.1 (Dv.weak (G':=G0) h fun b _ hb=>hb.elim)
 have h1b:=Dv.toB h1
 have h2b:=Dv.toB h2
 have hgb:(Dv gtE (GB W G0) g).p (.agg #[u1,u2]) W:=Dv.gt.2 ⟨_,_,rfl,h1b,h2b⟩
 refine eN [.agg #[u1,u2]] [E (.agg #[u1,u2])] Tryz.func11 Tryz.ntmps11 ?_ fun a hf=>?_
 rotate_left
 dsimp only[params,Nat.reduceAdd] at hf
 rotate_right
 ·exact arg1 rfl
 have e:=Ext.rfl' W
 refine seq <| regn0 <| tB hf rfl fun a b1 w v1 hv1 e' hb1 hs1 B1 hf=>?_
 replace e:=e.tr e'
 refine tA hf rfl fun a hf=>tL I25 hf fun a b3 w e' hb3 hs3 B3 hf=>?_
 obtain⟨e,B1⟩:=up2 e' e B1
 refine tl_nil ?_
 cases hv1
 repeat refine seq ?_
 refine rgN 10 hf <| st (fA U25 rfl T22 rfl) <| st (ld1 T22 rfl (by assumption) rfl) <| st (lenD U22 (isE rfl (VA.st _ _ _ _ e h1))) <| st (gtr rfl rfl) <| st (mv rfl) <| sgE rfl rfl (.k 1 rfl .n) (fun hgd=>fA U25 rfl T23 rfl) <| sgE rfl rfl (.c 17 rfl (fun h=>h) .n) (fun hgd=>ld1 T23 rfl (by assumption) rfl) <| sgE rfl rfl (.c 18 rfl (fun h=>h) .n) (fun hgd=>lenD U23 (isE rfl (VA.st _ _ _ _ e h2))) <| sgE rfl rfl (.c 19 rfl (fun h=>h) .n) (fun hgd=>gtr rfl rfl) <| st (pkOr rfl rfl (fun h=>by rw[h];rfl)) ?_
 refine en fun a w e' hf=>?_
 obtain⟨e,B1,B3⟩:=up3 e' e B1 B3
 refine tl_nil <| ifc hf rfl (fun hb=>?_) (fun hb=>?_)
 ·have hfw:frM g=(g,false):=by rw[frM,if_pos hb]
  have hc2:(#[u1,u2]:Array Value).all (·.oneCell')=true:=one2 (slOne h1) (slOne h2)
  replace hf:=hf.kp [1,2,3]
  refine seq <| regJ 3 [0,1] (Chg fun c=>c=b3) (RelJ.one _) (fun w=>∃cs,Blk w b3 cs 25∧(E (.agg #[u1,u2])).p (.agg cs) w) (fun w w1 k h=>h.imp fun cs h=>⟨h.1.ext k,h.2⟩) Mix.mix hf (by decide +kernel) (by decide +kernel) <| ja ((ldW T25 rfl B1 rfl).eq ((rfl:_=Value.agg #[u1,u2]))) <| jf (fun w1 h1=>asg rfl) <| jx (xstB T25 rfl B3 rfl rfl (fun v w hv=>⟨_,hv,rfl,hc2⟩) (fun v w w' hc hv=>hv)) <| je <| fun a w hc HF hf=>?_
  obtain⟨cs,B3,hcs⟩:=HF
  cases hcs
  replace e:=e.ch hc (fun b hb=>by rw[hb];omega)
  refine tl_nil <| wret (ret2t rfl T25 hf rfl rfl B3 rfl ?_)
  rintro _ rfl
  exact⟨_,rfl,e,by rw[hfw];exact Tup.two ⟨fun h=>(by rw[hfw] at h;cases h),fun _=>rfl⟩ (VA.st _ _ _ _ e (Dv.weak h fun b _ hb=>hb.elim))⟩
 have hfw0:¬(decide ((7:Int)<(g.1.length:Nat)) || decide ((10:Int)<(g.2.length:Nat)))=true:=by simpa using hb
 refine wskip ?_
 have hvl:g.1.length≤100∧g.2.length≤40:=by
  rw[Bool.or_eq_true,not_or,decide_eq_true_eq,decide_eq_true_eq] at hfw0
  omega
 replace hf:=hf.keep [1,2,3]
 obtain⟨N6,hN6⟩:∃N6,N6=w.heap.size:=⟨_,rfl⟩
 have l5:b3<N6:=by rw[hN6];exact B3.lt
 have l2:b1<N6:=by rw[hN6];exact B1.lt
 have hN6s:N6≤w.heap.size:=Nat.le_of_eq hN6
 have hofl:=fun (h0:(ofR g.1 g.2).2=0)=>ofR_len h0
 have hofk:=ofR_ok hV hE
 refine seq <| rgN 8 hf <| st (fA U25 rfl T22 rfl) <| st (ld1 T22 rfl (by assumption) rfl) <| st (fA U25 rfl T23 rfl) <| st (ld1 T23 rfl (by assumption) rfl) <| st (call2 (A:=Tup [Dv gtE (fun b=>b<N6) (ofR g.1 g.2).1,E (I (ofR g.1 g.2).2)]) En45 rfl rfl (fun v u w he k1 k2=>by cases k1;cases k2;exact of05_spec g.1 g.2 _ _ w (VA.st _ _ _ _ (Ext.tr e he) h1) (VA.st _ _ _ _ (Ext.tr e he) h2) (by omega) (by omega) (fun b hb=>Nat.lt_of_lt_of_le hb (Nat.le_trans hN6s he.size)))) ?_
 refine st (mv rfl) <| st (ext_ rfl rfl) <| st (ext_ rfl rfl) <| en fun a w e' hf=>?_
 obtain⟨e,B1,B3⟩:=up3 e' e B1 B3
 obtain⟨z,hz,hf⟩:=hf.opn 29 rfl
 obtain⟨N7,hN7⟩:∃N7,N7=w.heap.size:=⟨_,rfl⟩
 obtain⟨GZ,hGZ⟩:∃GZ:Nat→Prop,GZ=fun b=>b<N6∨N7≤b:=⟨_,rfl⟩
 have hzz:(Dv gtE GZ (ofR g.1 g.2).1).p z w:=by
  rw[hGZ,hN7];exact Dv.toB (Dv.weak hz fun b _ hb=>hb)
 obtain⟨z1,z2,rfl,hz1,hz2⟩:=Dv.gt.1 hzz
 have hzo:(#[z1,z2]:Array Value).all (·.oneCell')=true:=one2 (slOne hz1) (slOne hz2)
 have nZ:∀bb,(bb<N6∨N7≤bb)→GZ bb:=fun bb hb=>by rw[hGZ];exact hb
 replace hf:=hf.keep [1,2,3,29,30]
 refine tL I25 hf fun a b4 w e' hb4 hs4 B4 hf=>?_
 have lt4_B3:=B3.lt
 obtain⟨hz1,hz2,e,B1,B3⟩:=up5 e' hz1 hz2 e B1 B3
 have l6:N7≤b4:=by omega
 have l67:b4<w.heap.size:=B4.lt
 replace hf:=hf.kp [1,2,3,4,29,30]
 refine tl_stW T25 hf rfl rfl hzo B4 rfl rfl fun w hg hsz B4 hf=>?_
 replace e:=e.gr hg (by omega);replace B1:=B1.gr hg (by omega);replace B3:=B3.gr hg (by omega);replace hz1:=Dv.grN hz1 hg (fun bb hb=>nZ bb (by cases hb;omega));replace hz2:=Dv.grN hz2 hg (fun bb hb=>nZ bb (by cases hb;omega));clear hg
 refine tA hf rfl fun a hf=>tl_nil ?_
 replace hf:=hf.kp [1,2,3,4,5]
 repeat refine seq ?_
 refine rgN 2 hf <| st (mv rfl) <| st (neq rfl rfl) <| en fun a w e' hf=>?_
 obtain⟨hz1,hz2,e,B1,B3,B4⟩:=up6 e' hz1 hz2 e B1 B3 B4
 refine tl_nil <| ifc hf rfl (fun hb=>?_) (fun hb=>?_)
 ·have hne:(ofR g.1 g.2).2≠0:=by simpa using hb
  have hfw:frM g=(g,false):=by rw[frM,if_neg hfw0,if_pos hne]
  have hc2:(#[u1,u2]:Array Value).all (·.oneCell')=true:=one2 (slOne h1) (slOne h2)
  replace hf:=hf.kp [1,2,3]
  refine seq <| regJ 3 [0,1] (Chg fun c=>c=b3) (RelJ.one _) (fun w=>∃cs,Blk w b3 cs 25∧(E (.agg #[u1,u2])).p (.agg cs) w) (fun w w1 k h=>h.imp fun cs h=>⟨h.1.ext k,h.2⟩) Mix.mix hf (by decide +kernel) (by decide +kernel) <| ja ((ldW T25 rfl B1 rfl).eq ((rfl:_=Value.agg #[u1,u2]))) <| jf (fun w1 h1=>asg rfl) <| jx (xstB T25 rfl B3 rfl rfl (fun v w hv=>⟨_,hv,rfl,hc2⟩) (fun v w w' hc hv=>hv)) <| je <| fun a w hc HF hf=>?_
  try dsimp only[push] at hf
  obtain⟨cs,B3,hcs⟩:=HF
  cases hcs
  replace e:=e.ch hc (fun b hb=>by rw[hb];omega)
  refine tl_nil <| wret (ret2t rfl T25 hf rfl rfl B3 rfl ?_)
  rintro _ rfl
  exact⟨_,rfl,e,by rw[hfw];exact Tup.two ⟨fun h=>(by rw[hfw] at h;cases h),fun _=>rfl⟩ (VA.st _ _ _ _ e (Dv.weak h fun b _ hb=>hb.elim))⟩
 have hof0:(ofR g.1 g.2).2=0:=by simpa using hb
 have hfw:frM g=((ofR g.1 g.2).1,true):=by rw[frM,if_neg hfw0,if_neg (by simpa using hof0)]
 have hol:=hofl hof0
 obtain⟨gg,hgg⟩:∃gg,gg=(ofR g.1 g.2).1:=⟨_,rfl⟩
 rw[← hgg] at hz1 hz2 hofk hol hfw
 refine wskip ?_
 replace hf:=hf.kp [2,3,4]
 obtain⟨N8,hN8⟩:∃N8,N8=w.heap.size:=⟨_,rfl⟩
 have h78:N7≤N8:=by have:=B4.lt;omega
 have h68:b4<N8:=by rw[hN8];exact B4.lt
 have h58:b3<N8:=by rw[hN8];exact B3.lt
 have hW8:W.heap.size≤N8:=by rw[hN8];exact e.size
 have hN8s:N8≤w.heap.size:=Nat.le_of_eq hN8
 refine seq <| regn0 <| tA hf rfl fun a hf=>tl_nil <| seq <| regn0 <| tA hf rfl fun a hf=>tl_nil ?_
 repeat refine seq ?_
 refine regn0 <| tA hf rfl fun a hf=>tl_nil ?_
 replace hf:=hf.kp [2,3,4,6,7,8]
 refine blk (loopN (fun r0 a w=>∃(k:Nat) (u:Value),r0=gg.1.length - k∧k≤gg.1.length∧Fr 72 a w [(2,E (.pointer none)),(3,E (.pointer (some ⟨b3,0,none⟩))),(4,E (.pointer (some ⟨b4,0,none⟩))),(6,E u),(7,E (.slice none 0 0)),(8,E (I k))]∧Ext W w∧Blk w b3 #[.slice none 0 0,.slice none 0 0] 25∧Blk w b4 #[z1,z2] 25∧(Dv (slE vtE) GZ gg.1).p z1 w∧(Dv (slE etE) GZ gg.2).p z2 w∧OwR vtE 73 N8 G0 w (gg.1.take k) u) gg.1.length ⟨0,.slice none 0 0,rfl,by omega,hf,e,⟨B3,B4,hz1,hz2,OwR.nil vtE _ hN8s fun b hb=>hb.elim⟩⟩ ?_)
 rintro r0 a w ⟨k,u,rfl,hk,hf,e,B3,B4,hz1,hz2,Ho⟩
 repeat refine seq ?_
 refine rgN 5 hf <| st (mv rfl) <| st (fA U25 rfl T22 rfl) <| st (ld1 T22 rfl B4 rfl) <| st (lenD U22 (isE rfl hz1)) <| st (lss rfl rfl) <| en fun a w e' hf=>?_
 obtain⟨hz1,hz2,e,B3,B4,Ho⟩:=up6 e' hz1 hz2 e B3 B4 Ho
 refine tl_nil <| ifc hf rfl (fun hc=>wskip ?_) (fun hc=>wexit ?_)
 rotate_left
 rotate_left
 ·have hlt:k<gg.1.length:=by have:=of_decide_eq_true hc;(try dsimp only at this);omega
  replace hf:=hf.kp [2,3,4,6,7,8]
  refine seq <| blk ?_
  have hg:=List.getElem?_eq_getElem hlt
  generalize gg.1[k]=y at hg
  have hlk:=List.length_take_le k gg.1
  have n1:=Ho.neLt (b:=b4) (by omega)
  have n2:=Ho.neLt (b:=b3) (by omega)
  haveI iu:InR GZ u.ownBlock:=⟨fun b hb=>nZ b (.inr (Nat.le_trans h78 (Ho.lt hb).1))⟩
  refine rgN 7 hf <| st (mv rfl) <| st (fA U25 rfl T22 rfl) <| st (ld1 T22 rfl B4 rfl) <| st (mv rfl) <| st (idxD U22 S45 (isE rfl hz1) rfl (by omega) (hg)) <| st (ldVt T45 (isR rfl)) <| st (bsl1 U66 I73 rfl (by decide) rfl Ho.avs (isVt rfl)) <| en fun a w e' hf=>?_
  obtain⟨hz1,hz2,Ho,e,B3,B4⟩:=up6 e' hz1 hz2 Ho e B3 B4
  haveI hin:∀G0,InR (GB W G0) _:=OwR.inGB (W:=W) Ho (by omega)
  refine tl_app U66 I73 rfl rfl hf (by decide) rfl Ho (isR rfl) (by simp only[List.length_singleton];omega) (by simp only[List.length_singleton,maxLen];omega) fun a v w hg hat Hn hf=>?_
  replace e:=e.gro hg (Ho.row (W:=W) (by omega))
  have hrow:=Ho.row (W:=W) (by omega)
  replace hz1:=Dv.grN hz1 hg (fun bb hb=>nZ bb (.inr (Nat.le_trans h78 (Ho.lt hb).1)))
  replace hz2:=Dv.grN hz2 hg (fun bb hb=>nZ bb (.inr (Nat.le_trans h78 (Ho.lt hb).1)))
  replace Ho:=Hn
  replace B3:=B3.gro hg (by assumption)
  replace B4:=B4.gro hg (by assumption)
  replace Ho:=Hn;clear Hn hg hat hin
  refine tA hf rfl fun a hf=>tl_nil <| rgN 2 hf <| st (mv rfl) <| st ((add rfl rfl (by omega)).eq (congrArg (Value.int .i64) (show (k:Int)+1=((k+1:Nat):Int) from rfl))) <| en fun a w e' hf=>?_
  obtain⟨hz1,hz2,Ho,e,B3,B4⟩:=up6 e' hz1 hz2 Ho e B3 B4
  refine tA hf rfl fun a hf=>tl_nil ?_
  replace hf:=hf.keep [2,3,4,6,7,8]
  refine⟨_,?_,k+1,_,rfl,by omega,hf,e,?_⟩
  ·omega
  rw[take_succ_get hg]
  exact⟨B3,B4,hz1,hz2,Ho⟩
 ·obtain rfl:k=gg.1.length:=by have:=of_decide_eq_false hc;(try dsimp only at this);omega
  rw[List.take_length] at Ho
  obtain⟨av,nv,cv,rfl⟩:=Dv.slF Ho.sl
  obtain⟨NV,hNV⟩:∃NV:Nat→Prop,NV=fun b=>(Value.slice av nv cv).ownBlock≠some b:=⟨_,rfl⟩
  have HD:(Dv (slE vtE) NV gg.1).p (.slice av nv cv) w:=Ho.slN fun b hb=>by rw[hNV];exact fun h=>h hb
  obtain⟨N5,hN5⟩:∃N5,N5=w.heap.size:=⟨_,rfl⟩
  have h89:N8≤N5:=by rw[hN5];exact Ho.base
  have nV:∀bb,(bb<N8∨N5≤bb)→NV bb:=fun bb hb=>by rw[hNV];intro h;have h3:=Ho.lt h;omega
  have hN5s:N5≤w.heap.size:=Nat.le_of_eq hN5
  replace hf:=hf.keep [2,3,4,6,7]
  repeat refine seq ?_
  refine regn0 <| tA hf rfl fun a hf=>tl_nil ?_
  replace hf:=hf.keep [2,3,4,6,7,9]
  refine blk (loopN (fun r0 a w=>∃(k:Nat) (u:Value),r0=gg.2.length - k∧k≤gg.2.length∧Fr 72 a w [(2,E (.pointer none)),(3,E (.pointer (some ⟨b3,0,none⟩))),(4,E (.pointer (some ⟨b4,0,none⟩))),(6,E (.slice av nv cv)),(7,E u),(9,E (I k))]∧Ext W w∧Blk w b3 #[.slice none 0 0,.slice none 0 0] 25∧Blk w b4 #[z1,z2] 25∧(Dv (slE vtE) GZ gg.1).p z1 w∧(Dv (slE etE) GZ gg.2).p z2 w∧(Dv (slE vtE) NV gg.1).p (.slice av nv cv) w∧OwR etE 62 N5 G0 w (gg.2.take k) u∧N5≤w.heap.size) gg.2.length ⟨0,.slice none 0 0,rfl,by omega,hf,e,⟨B3,B4,hz1,hz2,HD,OwR.nil etE _ hN5s fun b hb=>hb.elim,hN5s⟩⟩ ?_)
  rintro r0 a w ⟨k,u,rfl,hk,hf,e,B3,B4,hz1,hz2,HD,Ho,hN5s⟩
  repeat refine seq ?_
  refine rgN 5 hf <| st (mv rfl) <| st (fA U25 rfl T23 rfl) <| st (ld1 T23 rfl B4 rfl) <| st (lenD U23 (isE rfl hz2)) <| st (lss rfl rfl) <| en fun a w e' hf=>?_
  obtain⟨hz1,hz2,HD,hN5s,e,B3,B4,Ho⟩:=up8 e' hz1 hz2 HD hN5s e B3 B4 Ho
  refine tl_nil <| ifc hf rfl (fun hc=>wskip ?_) (fun hc=>wexit ?_)
  rotate_left
  rotate_left
  ·have hlt:k<gg.2.length:=by have:=of_decide_eq_true hc;(try dsimp only at this);omega
   replace hf:=hf.kp [2,3,4,6,7,9]
   refine seq <| blk ?_
   have hg:=List.getElem?_eq_getElem hlt
   generalize gg.2[k]=y at hg
   have hlk:=List.length_take_le k gg.2
   have h79:N7≤N5:=Nat.le_trans h78 h89
   have n1:=Ho.neLt (b:=b4) (by omega)
   have n2:=Ho.neLt (b:=b3) (by omega)
   haveI iu:InR GZ u.ownBlock:=⟨fun b hb=>nZ b (.inr (Nat.le_trans h79 (Ho.lt hb).1))⟩
   refine rgN 7 hf <| st (mv rfl) <| st (fA U25 rfl T23 rfl) <| st (ld1 T23 rfl B4 rfl) <| st (mv rfl) <| st (idxD U23 S51 (isE rfl hz2) rfl (by omega) (hg)) <| st (ldEt T51 (isR rfl)) <| st (bsl1 U61 I62 rfl (by decide) rfl Ho.avs (isEt rfl)) <| en fun a w e' hf=>?_
   obtain⟨hz1,hz2,HD,hN5s,Ho,e,B3,B4⟩:=up8 e' hz1 hz2 HD hN5s Ho e B3 B4
   haveI hin:∀G0,InR (GB W G0) _:=OwR.inGB (W:=W) Ho (by omega)
   refine tl_app U61 I62 rfl rfl hf (by decide) rfl Ho (isR rfl) (by simp only[List.length_singleton];omega) (by simp only[List.length_singleton,maxLen];omega) fun a v w hg hat Hn hf=>?_
   replace e:=e.gro hg (Ho.row (W:=W) (by omega))
   have hrow:=Ho.row (W:=W) (by omega)
   replace hz1:=Dv.grN hz1 hg (fun bb hb=>nZ bb (.inr (Nat.le_trans h79 (Ho.lt hb).1)))
   replace hz2:=Dv.grN hz2 hg (fun bb hb=>nZ bb (.inr (Nat.le_trans h79 (Ho.lt hb).1)))
   replace HD:=Dv.grN HD hg (fun bb hb=>nV bb (.inr (Ho.lt hb).1))
   replace hN5s:=Nat.le_trans hN5s hg.size
   replace Ho:=Hn
   replace B3:=B3.gro hg (by assumption)
   replace B4:=B4.gro hg (by assumption)
   replace Ho:=Hn;clear Hn hg hat hin
   refine tA hf rfl fun a hf=>tl_nil <| rgN 2 hf <| st (mv rfl) <| st ((add rfl rfl (by omega)).eq (congrArg (Value.int .i64) (show (k:Int)+1=((k+1:Nat):Int) from rfl))) <| en fun a w e' hf=>?_
   obtain⟨hz1,hz2,HD,hN5s,Ho,e,B3,B4⟩:=up8 e' hz1 hz2 HD hN5s Ho e B3 B4
   refine tA hf rfl fun a hf=>tl_nil ?_
   replace hf:=hf.kp [2,3,4,6,7,9]
   refine⟨_,?_,k+1,_,rfl,by omega,hf,e,?_⟩
   ·omega
   rw[take_succ_get hg]
   exact⟨B3,B4,hz1,hz2,HD,Ho,hN5s⟩
  ·obtain rfl:k=gg.2.length:=by have:=of_decide_eq_false hc;(try dsimp only at this);omega
   rw[List.take_length] at Ho
   have h65:b4<N5:=by omega
   have h55:b3<N5:=by omega
   have hlg:gg.1.length≤1000∧gg.2.length≤1000:=by omega
   replace hf:=hf.kp [2,3,4,6,7]
   refine seq <| rgN 6 hf <| st (mv rfl) <| st (mv rfl) <| st (call2 (A:=Tup [Dv (ptE (grE 2000)) (fun b=>b<N5) (some gg),E (I 0)]) En40 rfl rfl (fun v u w he k1 k2=>by cases k1;cases k2;exact build_post gg hofk _ _ w (VA.st _ _ _ _ he (Dv.weak HD fun b _ hb=>hb.elim)) (VA.st _ _ _ _ he Ho.sl) hlg.1 hlg.2 (fun b hb=>Nat.lt_of_lt_of_le hb (Nat.le_trans hN5s he.size)))) ?_
   refine st (mv rfl) <| st (ext_ rfl rfl) <| st (ext_ rfl rfl) <| en fun a w e' hf=>?_
   obtain⟨hz1,hz2,e,B3,B4⟩:=up5 e' hz1 hz2 e B3 B4
   refine tA hf rfl fun a hf=>tA hf rfl fun a hf=>tl_nil ?_
   replace hf:=hf.kp [2,3,4,10]
   haveI ik:InR (fun b=>b<N5) (some b3):=⟨fun b hb=>by cases hb;exact h55⟩
   have hzo:(#[z1,z2]:Array Value).all (·.oneCell')=true:=one2 (slOne hz1) (slOne hz2)
   refine seq <| regJ 4 [2,0,1] (Chg fun c=>c=b3) (RelJ.one _) (fun w=>∃cs,Blk w b3 cs 25∧(E (.agg #[z1,z2])).p (.agg cs) w) (fun w w1 k h=>h.imp fun cs h=>⟨h.1.ext k,h.2⟩) Mix.mix hf (by decide +kernel) (by decide +kernel) <| jk (mv rfl) <| ja ((ldW T25 rfl B4 rfl).eq ((rfl:_=Value.agg #[z1,z2]))) <| jf (fun w1 h1=>asg rfl) <| jx (xstB T25 rfl B3 rfl rfl (fun v w hv=>⟨_,hv,rfl,hzo⟩) (fun v w w' hc hv=>hv)) <| je <| fun a w hc HF hf=>?_
   try dsimp only[push] at hf
   obtain⟨cs,B3,hcs⟩:=HF
   cases hcs
   replace e:=e.ch hc (fun b hb=>by rw[hb];omega)
   replace hz1:=Dv.ch hz1 hc (fun b hb=>nZ b (.inl (by rw[hb];exact l5)))
   replace hz2:=Dv.ch hz2 hc (fun b hb=>nZ b (.inl (by rw[hb];exact l5)))
   refine tl_nil <| wret (ret2t rfl T25 hf rfl rfl B3 rfl ?_)
   rintro x hx
   exact⟨_,rfl,e,Tup.two ⟨fun _=>by rw[hfw];exact Dv.weak hx fun b _ hb=>hb.elim,fun h=>by rw[hfw] at h;cases h⟩ (by rw[hfw];exact Dv.gt.2 ⟨_,_,rfl,Dv.weak hz1 fun b _ hb=>hb.elim,Dv.weak hz2 fun b _ hb=>hb.elim⟩)⟩
end Go.Mono
namespace Go.Mono
open Go Go.RowKit
def chkOpV (ops:Array Oper)(m N i:Nat):Bool:=
 match ops[i]? with
 | none=>false
 | some o=>
  (o.after.all fun e => !Region.binds .any e || Nat.blt e.on i) &&
  (match o.dst with|some d=>Nat.blt d N|none=>true) &&
  ((tmpsOf o++(gdst ops o).toList).all fun t=>(List.range m).all fun j=>(match dstOf ops j with|some d => !Nat.beq d t|none=>true) || bnd ops i j || (Nat.blt i j&&covers ops 12 j i)) &&
  ((List.range m).all fun j=>Nat.beq j i || (match o.dst,dstOf ops j with|some d,some e => !Nat.beq d e|_,_=>true))
def chkV (ops:Array Oper)(m N:Nat):Bool:=
 Nat.ble m ops.size&&((List.range m).all fun i=>chkOpV ops m N i)&&((List.range ops.size).all fun i=>Nat.blt i m || chkTail ops i)
section
variable {P:Program}{ops:Array Oper}{Q:Exit→Act→World→Prop}{w0:World}{n:Nat}{ds:List Deferred}{r:Option Nat}
structure InvV (ops:Array Oper)(m n:Nat)(ds:List Deferred)(w0:World)(L:Env)(As:Nat→VA)(listed:Array Bool)(a:Act)(w:World):Prop where
 ext:Ext w0 w
 size:a.tmps.size=n
 defers:a.defers=ds
 hL:∀t A,look L t=some A→(∀j,j<m→dstOf ops j=some t→listed.getD j false=false)→A.p (a.eval (.tmp t)) w
 hA:∀i,i<m→listed.getD i false=true→∀d,dstOf ops i=some d→(As i).p (a.eval (.tmp d)) w

theorem wpAny_mainV {m:Nat}{L:Env}{As:Nat→VA}(hm:m≤ops.size)(hchk:∀i,i<m→chkOpV ops m n i=true)(hchk2:∀i,m≤i→i<ops.size→chkTail ops i=true)
  (hops:∀j o,j<m→ops[j]?=some o→GOp P ops w0 (envF ops L As 0 j) o (As j))
  (hend:∀a w,Ext w0 w→FrD n ds a w (envF ops L As 0 m)→wpListIn (FW r) 0 P ops Q (ops.toList.drop m) a w) :
  ∀(c:Nat) (listed:Array Bool) (a:Act) (w:World),(List.range m).countP (fun i => !listed.getD i true)=c→listed.size=ops.size →
   (∀j,m≤j→j<ops.size→listed.getD j true=false)→LD ops listed→InvV ops m n ds w0 L As listed a w→wpAnyIn (FW r) 0 P .any ops Q (c+(ops.size - m)) listed a w
 | 0,listed,a,w,hc,hsz,hun,hld,hi=>by
  have hall:∀j,j<m→listed.getD j false=true:=by
   intro j hj
   have:=(List.countP_eq_zero.1 hc) j (List.mem_range.2 hj)
   have hjl:j<listed.size:=by omega
   simpa[hjl] using this
  rw[Nat.zero_add]
  refine wpAny_tail m hchk2 (ops.size - m) m (by omega) (Nat.le_refl _) listed a w hall hun hsz hld (hend a w hi.ext ⟨hi.size,hi.defers,fun t A ht=>?_⟩)
  rcases look_envF L As t A m ht with ⟨j,hj,hd,rfl⟩|⟨hn,hl⟩
  ·exact hi.hA j hj (hall j hj) t hd
  ·exact hi.hL t A hl fun j hj hd=>absurd hd (hn j hj)
 | c+1,listed,a,w,hc,hsz,hun,hld,hi=>by
  have facts:∀i o,i<m→ops[i]?=some o→(∀e∈o.after,Region.binds .any e=true→e.on<i)∧(∀d,o.dst=some d→d<n) ∧
    (∀t,t∈tmpsOf o∨gdst ops o=some t→∀j,j<m→dstOf ops j=some t→bnd ops i j=true∨(i<j∧covers ops 12 j i=true))∧(∀j,j<m→j≠i→∀d,o.dst=some d→dstOf ops j≠some d):=by
   intro i o hlt ho
   have:=hchk i hlt
   simp only[chkOpV,ho,Bool.and_eq_true,Array.all_eq_true_iff_forall_mem,Bool.or_eq_true,Bool.not_eq_true',List.all_eq_true,List.mem_range,List.mem_append,Option.mem_toList] at this
   obtain⟨⟨⟨h1,h2⟩,h3⟩,h4⟩:=this
   refine⟨fun e he hb=>?_,fun d hd=>?_,fun t ht j hj hd=>?_,fun j hj hne d hd hd'=>?_⟩
   ·rcases h1 e he with h|h
    ·rw[hb] at h;cases h
    ·simpa[Nat.blt_eq] using h
   ·simpa[hd,Nat.blt_eq] using h2
   ·have:=h3 t ht j hj
    rcases this with (h|h)|h
    ·rw[hd] at h;simp at h
    ·exact .inl h
    ·exact .inr ⟨by simpa[Nat.blt_eq] using h.1,h.2⟩
   ·have:=h4 j hj
    rcases this with h|h
    ·exact hne (Nat.eq_of_beq_eq_true h)
    ·rw[hd,hd'] at h;simp at h
  have prog:∃i,i<m∧listed.getD i true=false∧∀j,j<i→listed.getD j true=true:=by
   have hex:∃i,i<m∧listed.getD i true=false:=by
    have hpos:0<(List.range m).countP (fun i => !listed.getD i true):=by omega
    obtain⟨i,hi,hb⟩:=List.countP_pos_iff.1 hpos
    exact⟨i,List.mem_range.1 hi,by simpa using hb⟩
   obtain⟨i,hlt,hb⟩:=hex
   induction i using Nat.strongRecOn with
   | _ i ih=>
    by_cases h:∃j,j<i∧listed.getD j true=false
    ·obtain⟨j,hj,hjb⟩:=h
     exact ih j hj (by omega) hjb
    ·refine⟨i,hlt,hb,fun j hj=>?_⟩
     cases hjb:listed.getD j true with
     | true=>rfl
     | false=>exact absurd ⟨j,hj,hjb⟩ h
  obtain⟨i0,hi0,hu0,hbelow⟩:=prog
  have hready:i0∈Region.ready .any ops listed:=by
   have ho:ops[i0]?=some (ops[i0]'(by omega)):=by simp
   refine mem_ready.2 ⟨hu0,_,ho,fun e he hb=>?_⟩
   have hlt:=(facts i0 _ hi0 ho).1 e he hb
   have:=hbelow _ hlt
   have hjl:e.on<listed.size:=by omega
   simpa[hjl] using this
  rw[show c+1+(ops.size - m)=(c+(ops.size - m))+1 by omega]
  refine⟨fun h0=>(by rw[h0] at hready;cases hready),fun i hir=>?_⟩
  obtain⟨hu,o,ho,hall⟩:=mem_ready.1 hir
  have hilt:i<ops.size:=(Array.getElem?_eq_some_iff.1 ho).1
  have listed_of_bnd:∀j,bnd ops i j=true→listed.getD j false=true:=by
   intro j hb
   simp only[bnd,ho] at hb
   obtain⟨e,he,hb⟩:=Array.any_eq_true'.1 hb
   simp only[Bool.and_eq_true] at hb
   have:=hall e he hb.1
   rwa [Nat.eq_of_beq_eq_true hb.2] at this
  have him:i<m:=by
   rcases Nat.lt_or_ge i m with h|h
   ·exact h
   ·have hc:=hchk2 i h hilt
    simp only[chkTail,ho,Bool.and_eq_true,List.all_eq_true,List.mem_range] at hc
    have:=cov hld 12 i i0 (hc.2 i0 (by omega)) (fun o' ho' e he hb=>by
     rw[ho] at ho'
     obtain rfl:=Option.some.inj ho'
     exact hall e he hb)
    rw[not_listed hu0] at this
    cases this
  obtain⟨f1,f2,f3,f4⟩:=facts i o him ho
  have byLook:∀t,(t∈tmpsOf o∨gdst ops o=some t)→∀B,look (envF ops L As 0 i) t=some B→B.p (a.eval (.tmp t)) w:=by
   intro t ht B hB
   rcases look_envF L As t B i hB with ⟨j,hj,hd,rfl⟩|⟨hn,hl⟩
   ·exact hi.hA j (by omega) (listed_of_bnd j ((f3 t ht j (by omega) hd).resolve_right fun h=>by omega)) t hd
   ·refine hi.hL t B hl fun j hj hd=>?_
    rcases f3 t ht j hj hd with hb|⟨hij,hcv⟩
    ·simp only[bnd,ho] at hb
     obtain⟨e,he,hb⟩:=Array.any_eq_true'.1 hb
     simp only[Bool.and_eq_true] at hb
     have hlt:=f1 e he hb.1
     rw[Nat.eq_of_beq_eq_true hb.2] at hlt
     exact absurd hd (hn j hlt)
    ·cases hlj:listed.getD j false with
     | false=>rfl
     | true=>
      have:=cov hld 12 j i hcv (fun o' ho' e he hb=>hld j o' hlj ho' e he hb)
      rw[not_listed hu] at this
      cases this
  have hg:=hops i o him ho a w hi.ext (fun x hx B hB=>by
   cases x with
   | tmp t=>exact byLook t (.inl (List.mem_filterMap.2 ⟨.tmp t,by simpa using hx,rfl⟩)) B hB
   | const v=>simp[opd] at hB;subst hB;rfl
   | global g=>simp[opd] at hB;subst hB;rfl
   | func f=>simp[opd] at hB;subst hB;rfl) (fun d B hd hB=>byLook d (.inr hd) B hB)
  have hdst:dstOf ops i=o.dst:=by simp[dstOf,ho]
  have step:∀v w',Ext w w'→(As i).p v w'→wpAnyIn (FW r) 0 P .any ops Q (c+(ops.size - m)) (listed.setIfInBounds i true) (a.put o.dst v) w':=by
   intro v w' hx hv
   refine wpAny_mainV hm hchk hchk2 hops hend c _ _ _ ?_ (by simpa using hsz) ?_ ?_ ?_
   ·have:=countP_upd m (fun j => !listed.getD j true) (fun j => !(listed.setIfInBounds i true).getD j true) i him (by simp only[hu,Bool.not_false])
     (by
       have hjl:i<listed.size:=by omega
       simp[hjl]) (fun j hj=>by simp only[getD_set_ne true (Ne.symm hj)])
    omega
   ·intro j hj hj'
    rw[getD_set_ne true (by omega)]
    exact hun j hj hj'
   ·exact hld.set fun o' ho' e he hb=>by
     rw[ho] at ho'
     obtain rfl:=Option.some.inj ho'
     exact hall e he hb
   ·refine⟨Ext.tr hi.ext hx,by simp[hi.size],by simp[hi.defers],fun t A ht hn=>?_,fun j hj hl d hd=>?_⟩
    ·have h0:=A.st _ _ _ hx (hi.hL t A ht fun j hj hd=>by
      have h1:=hn j hj hd
      by_cases hji:j=i
      ·subst hji
       have hjl:j<listed.size:=by omega
       simp[hjl] at h1
      ·rwa [getD_set_ne false (Ne.symm hji)] at h1)
     cases hod:o.dst with
     | none=>exact h0
     | some d=>
      have:d≠t:=fun e=>by
       have h1:=hn i him (by rw[hdst,hod,e])
       have hjl:i<listed.size:=by omega
       simp[hjl] at h1
      rw[eval_put_ne this]
      exact h0
    ·by_cases hji:j=i
     ·subst hji
      rw[hdst] at hd
      rw[hd,eval_put_same (by rw[hi.size];exact f2 d hd)]
      exact hv
     ·have hl':listed.getD j false=true:=by rwa [getD_set_ne false (Ne.symm hji)] at hl
      have h0:=(As j).st _ _ _ hx (hi.hA j hj hl' d hd)
      cases hod:o.dst with
      | none=>exact h0
      | some d'=>
       have:d'≠d:=fun e=>f4 j hj hji d' hod (by rw[hd,e])
       rw[eval_put_ne this]
       exact h0
  unfold wpOpIn
  simp only[ho]
  split
  ·rename_i hw
   rw[if_pos hw] at hg
   exact (hg.wp fun v w' hv=>step v w' hv.1 hv.2)
  ·rename_i hw
   rw[if_neg hw] at hg
   exact⟨fun _ _=>trivial,step undef w (Ext.rfl' _) hg⟩
theorem regV {id:Nat}{ops:Array Oper}{L:Env}{a:Act}{w:World}(m:Nat)(hmix:P.follows .mixedOrders=true)(hf:FrD n ds a w L)(hchk:chkV ops m n=true)
  (h:RegM P ops w (ops.toList.take m) (fun L'=>∀a' w',Ext w w'→FrD n ds a' w' L'→wpListIn (FW r) 0 P ops Q (ops.toList.drop m) a' w') L):(Code.region id ops true).wpIn (FW r) 0 P Q a w:=by
 simp only[chkV,Bool.and_eq_true,List.all_eq_true,List.mem_range,Bool.or_eq_true,Nat.ble_eq] at hchk
 obtain⟨⟨hm,h1⟩,h2⟩:=hchk
 have hlen:(ops.toList.take m).length=m:=by simp;omega
 refine wpIn_region_any hmix ?_
 obtain⟨As,hAs,hK⟩:=RegM_As (ops.toList.take m) 0 L (fun j hj=>by
  rw[hlen] at hj
  rw[Nat.zero_add,List.getElem?_take,if_pos hj];simp) h
 rw[hlen] at hAs hK
 have hext:Ext w { w with drawn:=w.drawn+1 }:=Ext.drew w
 have:=wpAny_mainV (P:=P) (ops:=ops) (Q:=Q) (w0:=w) (n:=n) (ds:=ds) (m:=m) (r:=r) (L:=L) (As:=As) hm h1 (fun i hi hi'=>by
   rcases h2 i hi' with h|h
   ·simp only[Nat.blt_eq] at h;omega
   ·exact h) (fun j o hj ho=>hAs j o hj (by simpa using ho)) (fun a w hx hf=>hK a w hx hf) m
  (Array.replicate ops.size false) a { w with drawn:=w.drawn+1 } ?_ (by simp) ?_ ?_ ⟨hext,hf.size,hf.defers,fun t A ht _=>A.st _ _ _ hext (hf.val t A ht),fun i hi hl=>?_⟩
 ·rwa [show m+(ops.size - m)=ops.size by omega] at this
 ·have:(List.range m).countP (fun i => !(Array.replicate ops.size false).getD i true)=(List.range m).length:=by
   refine List.countP_eq_length.2 fun i hi=>?_
   have:=List.mem_range.1 hi
   have hlt:i<ops.size:=by omega
   simp[hlt]
  simpa using this
 ·intro j _ hj
  simp[hj]
 ·intro i o hl
  have:(Array.replicate ops.size false).getD i false=false:=by
   by_cases hlt:i<ops.size <;> simp[hlt]
  rw[this] at hl;cases hl
 ·have:(Array.replicate ops.size false).getD i false=false:=by
   by_cases hlt:i<ops.size <;> simp[hlt]
  rw[this] at hl;cases hl
end
end Go.Mono
namespace Go.Mono
open Go Go.Proofs Go.RowKit Go.Gr
def dsF (g:GT)(a b:Int):Int:=if (has (vset g.1) a&&has (vset g.1) b)=true then dsT (nbA g) a.toNat b.toNat else -1
theorem has_nat {S:BS}{a:Int}(h:has S a=true):∃n:Nat,a=n∧S.getLsbD n=true:=by
 have h':=h
 rw[has,Bool.and_eq_true,fitsB_iff] at h'
 refine⟨a.toNat,by omega,?_⟩
 exact h'.2
theorem ds_hi2 (nb:Int→BS)(a b:Nat):dsT nb a b≤1025:=has_far b
theorem ofA_spec {G:Nat→Prop}{N:Nat}(g:GT)(ok:Gr.Ok g)(v:Value)(W:World)(hT:Tab W)(h:(Dv (ptE (grE N)) G (some g)).p v W)(hl1:g.1.length≤100000)(hl2:g.2.length≤100000)(hN:N≤1000000) :
  Calls Tryz.prog 46 #[v] W (Post (AdjA (nbL g (elems (vset g.1))) (vset g.1) 1024) W):=
 (of07_spec g v W hT h ok.sv ok.se hl1 hl2 hN).mono fun en w' ⟨k1,mq,k2,k3⟩=>⟨_,k2,k1,mq,rfl,k3⟩
theorem dist_spec {G:Nat→Prop}{N:Nat}(g:GT)(ok:Gr.Ok g)(a0 c0:Int)(v:Value)(W:World)(hT:Tab W)(h:(Dv (ptE (grE N)) G (some g)).p v W)(hl1:g.1.length≤100000)(hl2:g.2.length≤100000)(hN:N≤1000000) :
  Calls Tryz.prog 30 #[v,I a0,I c0] W (Post (E (I (dsF g a0 c0))) W):=by
 have hgd:(Dv (ptE (grE N)) G0 (some g)).p v W:=Dv.weak h fun b _ hb=>hb.elim
 obtain⟨rr,hrr⟩:∃rr,rr=dsF g a0 c0:=⟨_,rfl⟩
 rw[← hrr]
 rw[dsF] at hrr
 obtain⟨l,hl⟩:∃l,l=nbL g (elems (vset g.1)):=⟨_,rfl⟩
 have hnb:nbA g=lkS l:=by rw[hl,nbA]
 rw[hnb] at hrr
 obtain⟨V,hV⟩:∃V,V=vset g.1:=⟨_,rfl⟩
 rw[← hV] at hrr
 have hT0:=hT.lt
 refine eN [v,I a0,I c0] [E v,E (I a0),E (I c0)] Tryz.func30 Tryz.ntmps30 ?_ fun a hf=>?_
 rotate_left
 dsimp only[params,Nat.reduceAdd] at hf
 rotate_right
 ·exact arg3 rfl rfl rfl
 have e:=Ext.rfl' W
 refine seq <| regn0 <| tA hf rfl fun a hf=>tl_nil ?_
 replace hf:=hf.keep [0,1,2]
 have e0:=e
 refine seq <| rgN 2 hf <| st (mv rfl) <| st (call1 (A:=AdjA l V 1024) En46 rfl (fun v w he k=>by cases k;rw[hl,hV];exact ofA_spec g ok _ w (hT.ext he) (VA.st _ _ _ _ (Ext.tr e0 he) hgd) hl1 hl2 hN)) ?_
 refine en fun a w e' hf=>?_
 obtain⟨hT,e⟩:=up2 e' hT e
 obtain⟨av,⟨mq,rfl,HV⟩,hf⟩:=hf.opn 9 rfl
 obtain⟨bm,rfl⟩:=mpE_map HV
 obtain⟨N1,hN1⟩:∃N1,N1=w.heap.size:=⟨_,rfl⟩
 have hN1s:N1≤w.heap.size:=Nat.le_of_eq hN1
 have hWN1:W.heap.size≤N1:=by rw[hN1];exact e.size
 replace HV:(Dv (mpE sKV 1024) (fun b=>N1≤b) l).p (.map (some bm)) w:=Dv.weak HV fun b hb hh=>by omega
 replace hf:=hf.kp [1,2,9]
 refine tL I79 hf fun a b7 w e' hb7 hs7 B7 hf=>?_
 have lo7_hN1s:=Nat.le_trans hN1s (Nat.le_of_eq hb7.symm)
 obtain⟨hT,HV,hN1s,e⟩:=up4 e' hT HV hN1s e
 have n7:N1≤b7:=lo7_hN1s
 refine tl_stW T79 hf rfl rfl (adC_one _ _) B7 rfl (adC_size _ _) fun w hg hsz B7 hf=>?_
 replace e:=e.gr hg (by omega);replace hT:=hT.gr hg (by omega);replace HV:=Dv.gr HV hg n7;replace hN1s:=Nat.le_trans hN1s hg.size;clear hg
 refine tl_nil ?_
 replace hf:=hf.keep [1,2,7]
 have hdv:(Dv (mpE sKV 1024) G0 l).p (.map (some bm)) w:=Dv.weak HV fun b _ hb=>hb.elim
 by_cases ha:has V a0=true
 ·by_cases hc:has V c0=true
  ·rw[ha,hc,if_pos (show (true&&true)=true from rfl)] at hrr
   obtain⟨x,rfl,hx⟩:=has_nat ha
   obtain⟨y,rfl,hy⟩:=has_nat hc
   rw[Int.toNat_natCast,Int.toNat_natCast] at hrr
   rw[dsT] at hrr
   have hx1:=bit_lt hx
   repeat refine seq ?_
   refine rgN 12 hf <| st (fA U79 rfl T76 rfl) <| st ((ldP T76 rfl B7 (by rw[adC_size];decide)).eq (congrArg Value.agg (adC_set V (.map (some bm))))) ?_
   refine st (mv rfl) <| st (call2 (A:=E (B true)) (B:=E (setV V)) (C:=E (I (x:Nat))) En75 rfl rfl (fun v u w he h h'=>by cases h;cases h';rw[← ha];exact has_spec _ _ w)) ?_
   refine st (notp rfl) <| st (mv rfl) <| sy rfl rfl (fA U79 rfl T76 rfl) <| sy rfl rfl ((ldP T76 rfl B7 (by rw[adC_size];decide)).eq (congrArg Value.agg (adC_set V (.map (some bm))))) ?_
   refine sy rfl rfl (mv rfl) <| sy rfl rfl (call2 (A:=E (B true)) (B:=E (setV V)) (C:=E (I (y:Nat))) En75 rfl rfl (fun v u w he h h'=>by cases h;cases h';rw[← hc];exact has_spec _ _ w)) ?_
   refine sy rfl rfl (notp rfl) <| st (pkF rfl rfl) <| en fun a w e' hf=>?_
   obtain⟨hT,hdv,e,B7⟩:=up4 e' hT hdv e B7
   refine tl_nil <| ifc hf rfl (fun h=>by cases h) (fun _=>?_)
   refine wskip ?_
   replace hf:=hf.keep [1,2,7]
   refine seq <| rgN 5 hf <| st (ldW T79 rfl B7 (adC_size _ _)) <| st (mv rfl) <| st (call2 (A:=Dv (slE setE) G0 (lvB (lkS l) x)) (B:=E (.agg (adC V (.map (some bm))))) (C:=E (I (x:Nat))) En52 rfl rfl (fun a b w he k2 k4=>by cases k2;cases k4;exact (levels_spec l V (.map (some bm)) x w (hT.ext he) (Dv.ex hdv he) hx1).mono fun en w' ⟨z,q1,q2,q3⟩=>⟨z,q1,q2,OwR.sl q3⟩)) ?_
   refine st (mv rfl) <| st (call2 (A:=E (I rr)) (B:=Dv (slE setE) G0 (lvB (lkS l) x)) (C:=E (I (y:Nat))) En50 rfl rfl (fun a b w he k1 k2=>by cases k2;rw[hrr];exact far_spec _ y a w k1 (Nat.le_trans (lvB_len _ _) (by decide)))) ?_
   refine en fun a w e' hf=>?_
   obtain⟨hT,hdv,e,B7⟩:=up4 e' hT hdv e B7
   refine tA hf rfl fun a hf=>tl_nil <| wret <| ret1 rfl hf rfl ?_
   rintro _ rfl
   exact⟨_,rfl,e,rfl⟩
  ·have hc':has V c0=false:=Bool.eq_false_iff.2 hc
   rw[ha,hc',if_neg (by decide)] at hrr
   subst hrr
   repeat refine seq ?_
   refine rgN 12 hf <| st (fA U79 rfl T76 rfl) <| st ((ldP T76 rfl B7 (by rw[adC_size];decide)).eq (congrArg Value.agg (adC_set V (.map (some bm))))) ?_
   refine st (mv rfl) <| st (call2 (A:=E (B true)) (B:=E (setV V)) (C:=E (I a0)) En75 rfl rfl (fun v u w he h h'=>by cases h;cases h';rw[← ha];exact has_spec _ _ w)) ?_
   refine st (notp rfl) <| st (mv rfl) <| sy rfl rfl (fA U79 rfl T76 rfl) <| sy rfl rfl ((ldP T76 rfl B7 (by rw[adC_size];decide)).eq (congrArg Value.agg (adC_set V (.map (some bm))))) ?_
   refine sy rfl rfl (mv rfl) <| sy rfl rfl (call2 (A:=E (B false)) (B:=E (setV V)) (C:=E (I c0)) En75 rfl rfl (fun v u w he h h'=>by cases h;cases h';rw[← hc'];exact has_spec _ _ w)) ?_
   refine sy rfl rfl (notp rfl) <| st (pkF rfl rfl) <| en fun a w e' hf=>?_
   obtain⟨hT,hdv,e,B7⟩:=up4 e' hT hdv e B7
   refine tl_nil <| ifc hf rfl (fun _=>?_) (fun h=>by cases h)
   refine seq <| regn0 <| tA hf rfl fun a hf=>tl_nil <| wret <| ret1 rfl hf rfl ?_
   rintro _ rfl
   exact⟨_,rfl,e,rfl⟩
 ·have ha':has V a0=false:=Bool.eq_false_iff.2 ha
  rw[ha',if_neg (by rw[Bool.false_and];decide)] at hrr
  subst hrr
  repeat refine seq ?_
  refine rgN 12 hf <| st (fA U79 rfl T76 rfl) <| st ((ldP T76 rfl B7 (by rw[adC_size];decide)).eq (congrArg Value.agg (adC_set V (.map (some bm))))) ?_
  refine st (mv rfl) <| st (call2 (A:=E (B false)) (B:=E (setV V)) (C:=E (I a0)) En75 rfl rfl (fun v u w he h h'=>by cases h;cases h';rw[← ha'];exact has_spec _ _ w)) ?_
  refine st (notp rfl) <| st (mv rfl) <| sn rfl rfl rfl <| sn rfl rfl rfl <| sn rfl rfl rfl <| sn rfl rfl rfl <| sn rfl rfl rfl <| st (pkT rfl rfl) <| en fun a w e' hf=>?_
  obtain⟨hT,hdv,e,B7⟩:=up4 e' hT hdv e B7
  refine tl_nil <| ifc hf rfl (fun _=>?_) (fun h=>by cases h)
  refine seq <| regn0 <| tA hf rfl fun a hf=>tl_nil <| wret <| ret1 rfl hf rfl ?_
  rintro _ rfl
  exact⟨_,rfl,e,rfl⟩
def spF (g:GT)(a b:Int):List Nat:=if dsF g a b = -1 then [] else a.toNat::geF (nbA g) (lvB (nbA g) b.toNat) (dsF g a b).toNat a.toNat
theorem spath_spec {G:Nat→Prop}{N:Nat}(g:GT)(ok:Gr.Ok g)(a0 c0:Int)(v:Value)(W:World)(hT:Tab W)(h:(Dv (ptE (grE N)) G (some g)).p v W)(hl1:g.1.length≤100000)(hl2:g.2.length≤100000)(hN:N≤1000000) :
  Calls Tryz.prog 32 #[v,I a0,I c0] W (Post (Dv (slE intE) G0 (natE (spF g a0 c0))) W):=by
 have hgd:(Dv (ptE (grE N)) G0 (some g)).p v W:=Dv.weak h fun b _ hb=>hb.elim
 have hT0:=hT.lt
 obtain⟨d,hd⟩:∃d,d=dsF g a0 c0:=⟨_,rfl⟩
 obtain⟨rr,hrr⟩:∃rr,rr=spF g a0 c0:=⟨_,rfl⟩
 rw[← hrr]
 rw[spF,← hd] at hrr
 refine eN [v,I a0,I c0] [E v,E (I a0),E (I c0)] Tryz.func32 Tryz.ntmps32 ?_ fun a hf=>?_
 rotate_left
 dsimp only[params,Nat.reduceAdd] at hf
 rotate_right
 ·exact arg3 rfl rfl rfl
 have e:=Ext.rfl' W
 refine seq <| regn0 <| tA hf rfl fun a hf=>tl_nil ?_
 have e0:=e
 refine seq <| rgN 4 hf <| st (mv rfl) <| st (mv rfl) <| st (mv rfl) <| st (call3 (A:=E (I d)) (B:=E v) (C:=E (I a0)) (D:=E (I c0)) En30 rfl rfl rfl (fun a b c w he k1 k2 k3=>by cases k1;cases k2;cases k3;rw[hd];exact dist_spec g ok a0 c0 v w (hT.ext he) (VA.st _ _ _ _ (Ext.tr e0 he) hgd) hl1 hl2 hN)) ?_
 refine en fun a w e' hf=>?_
 obtain⟨hT,e⟩:=up2 e' hT e
 refine tA hf rfl fun a hf=>tl_nil ?_
 replace hf:=hf.keep [0,1,2,7]
 by_cases h1:d = -1
 ·rw[if_pos h1] at hrr
  subst hrr
  repeat refine seq ?_
  refine rgN 2 hf <| st (mv rfl) <| st ((eql rfl rfl).eq (congrArg Value.bool ((by rw[h1];rfl:(d == -1)=true)))) ?_
  refine en fun a w e' hf=>?_
  obtain⟨hT,e⟩:=up2 e' hT e
  refine tl_nil <| ifc hf rfl (fun _=>?_) (fun h=>by cases h)
  refine seq <| regn0 <| tA hf rfl fun a hf=>tl_nil <| wret <| ret1 rfl hf rfl ?_
  rintro _ rfl
  exact⟨_,rfl,e,Dv.nil⟩
 rw[if_neg h1] at hrr
 repeat refine seq ?_
 refine rgN 2 hf <| st (mv rfl) <| st ((eql rfl rfl).eq (congrArg Value.bool ((beq_eq_false_iff_ne.2 h1:(d == -1)=false)))) <| en fun a w e' hf=>?_
 obtain⟨hT,e⟩:=up2 e' hT e
 refine tl_nil <| ifc hf rfl (fun h=>by cases h) (fun _=>?_)
 refine wskip ?_
 replace hf:=hf.keep [0,1,2,7]
 have hac:(has (vset g.1) a0&&has (vset g.1) c0)=true:=by
  rw[dsF] at hd
  split at hd
  ·assumption
  ·exact absurd hd h1
 have hd2:=hd
 rw[dsF,if_pos hac] at hd2
 rw[Bool.and_eq_true] at hac
 obtain⟨x,rfl,hx⟩:=has_nat hac.1
 obtain⟨y,rfl,hy⟩:=has_nat hac.2
 rw[Int.toNat_natCast,Int.toNat_natCast] at hd2 hrr
 have hx1:=bit_lt hx
 have hy1:=bit_lt hy
 rw[ds_symm (nb_symm ok) hx1 hy1] at hd2
 have hdl:=ds_lo (nb:=nbA g) y x
 have hdh:=ds_hi2 (nbA g) y x
 obtain⟨n,hn⟩:∃n:Nat,d=(n:Int):=⟨d.toNat,by omega⟩
 subst hn
 rw[Int.toNat_natCast] at hrr
 have hnsy:=nb_symm ok
 obtain⟨l,hl⟩:∃l,l=nbL g (elems (vset g.1)):=⟨_,rfl⟩
 have hnb:nbA g=lkS l:=by rw[hl,nbA]
 rw[hnb] at hrr hd2 hnsy hdl hdh
 obtain⟨V,hV⟩:∃V,V=vset g.1:=⟨_,rfl⟩
 have e4:=e
 refine seq <| rgN 2 hf <| st (mv rfl) <| st (call1 (A:=AdjA l V 1024) En46 rfl (fun v w he k=>by cases k;rw[hl,hV];exact ofA_spec g ok _ w (hT.ext he) (VA.st _ _ _ _ (Ext.tr e4 he) hgd) hl1 hl2 hN)) ?_
 refine en fun a w e' hf=>?_
 obtain⟨hT,e⟩:=up2 e' hT e
 obtain⟨av,⟨mq,rfl,HV⟩,hf⟩:=hf.opn 18 rfl
 obtain⟨bm,rfl⟩:=mpE_map HV
 obtain⟨N1,hN1⟩:∃N1,N1=w.heap.size:=⟨_,rfl⟩
 have hN1s:N1≤w.heap.size:=Nat.le_of_eq hN1
 have hWN1:W.heap.size≤N1:=by rw[hN1];exact e.size
 replace HV:(Dv (mpE sKV 1024) (fun b=>N1≤b) l).p (.map (some bm)) w:=Dv.weak HV fun b hb hh=>by omega
 replace hf:=hf.kp [1,2,7,18]
 refine tL I79 hf fun a b8 w e' hb8 hs8 B8 hf=>?_
 have lo8_hN1s:=Nat.le_trans hN1s (Nat.le_of_eq hb8.symm)
 obtain⟨hT,HV,hN1s,e⟩:=up4 e' hT HV hN1s e
 have n8:N1≤b8:=lo8_hN1s
 refine tl_stW T79 hf rfl rfl (adC_one _ _) B8 rfl (adC_size _ _) fun w hg hsz B8 hf=>?_
 replace e:=e.gr hg (by omega);replace hT:=hT.gr hg (by omega);replace HV:=Dv.gr HV hg n8;replace hN1s:=Nat.le_trans hN1s hg.size;clear hg
 refine tl_nil ?_
 replace hf:=hf.keep [1,2,7,8]
 obtain⟨L,hL⟩:∃L,L=lvB (lkS l) y:=⟨_,rfl⟩
 have hLl:L.length≤1025:=by rw[hL];exact lvB_len _ _
 obtain⟨N2,hN2⟩:∃N2,N2=w.heap.size:=⟨_,rfl⟩
 have hN2s:N2≤w.heap.size:=Nat.le_of_eq hN2
 have hdv:(Dv (mpE sKV 1024) G0 l).p (.map (some bm)) w:=Dv.weak HV fun b _ hb=>hb.elim
 refine seq <| rgN 3 hf <| st (ldW T79 rfl B8 (adC_size _ _)) <| st (mv rfl) <| st (call2 (A:=OwA setE 76 N2 G0 L) (B:=E (.agg (adC V (.map (some bm))))) (C:=E (I (y:Nat))) En52 rfl rfl (fun a b w he k2 k4=>by cases k2;cases k4;rw[hL];exact (levels_spec l V (.map (some bm)) y w (hT.ext he) (Dv.ex hdv he) hy1).mono fun en w' ⟨z,q1,q2,q3⟩=>⟨z,q1,q2,OwR.low q3 (Nat.le_trans hN2s he.size) fun b hb=>hb.elim⟩)) ?_
 refine en fun a w e' hf=>?_
 obtain⟨hT,HV,hdv,hN1s,e,B8⟩:=up6 e' hT HV hdv hN1s e B8
 refine tA hf rfl fun a hf=>tl_nil ?_
 obtain⟨lv,Hr,hf⟩:=hf.opn 9 rfl
 replace Hr:OwR setE 76 N2 G0 w L lv:=Hr
 obtain⟨N3,hN3⟩:∃N3,N3=w.heap.size:=⟨_,rfl⟩
 have hN3s:N3≤w.heap.size:=Nat.le_of_eq hN3
 have HL:(Dv (slE setE) (fun b=>N3≤b) L).p lv w:=Hr.slN fun b hb hh=>by have:=(Hr.lt hb).2;omega
 have HM:(Dv (mpE sKV 1024) (fun b=>N3≤b) l).p (.map (some bm)) w:=Dv.weak hdv fun b hb hh=>by omega
 have h8:b8<N3:=by rw[hN3];exact B8.lt
 have hT3:0<N3:=by rw[hN3];exact hT.lt
 have hW3:W.heap.size≤N3:=by rw[hN3];exact e.size
 replace hf:=hf.keep [1,7,8,9]
 refine seq <| rgN 2 hf <| st (mv rfl) <| st (bslO1 (B:=N3) (G:=G0) U35 I3 rfl rfl hN3s (fun b hb=>hb.elim)) <| en fun a w e' hf=>?_
 obtain⟨hT,HL,HM,hN3s,e,B8⟩:=up6 e' hT HL HM hN3s e B8
 refine tA hf rfl fun a hf=>tl_nil ?_
 obtain⟨u0,Ho,hf⟩:=hf.opn 10 rfl
 replace Ho:OwR intE 3 N3 G0 w (natE [x]) u0:=Ho
 replace hf:=hf.keep [1,7,8,9,10]
 repeat refine seq ?_
 refine rgN 2 hf <| st (mv rfl) <| st (sub rfl rfl (by omega)) <| en fun a w e' hf=>?_
 obtain⟨hT,HL,HM,Ho,e,B8⟩:=up6 e' hT HL HM Ho e B8
 refine tA hf rfl fun a hf=>tl_nil ?_
 replace hf:=hf.keep [1,7,8,9,10]
 refine blk (loopN (fun r0 a w=>∃(z:Nat) (out:List Nat) (u:Value),dsT (lkS l) y z=(r0:Int)∧z<1024∧out++geF (lkS l) L r0 z=rr∧out.length+r0≤1026∧Fr 48 a w [(1,E (I (z:Nat))),(7,E (I ((r0:Int) - 1))),(8,E (ptr b8)),(9,E lv),(10,E u)]∧Ext W w∧Tab w∧Blk w b8 (adC V (.map (some bm))) 79 ∧
  (Dv (slE setE) (fun b=>N3≤b) L).p lv w∧(Dv (mpE sKV 1024) (fun b=>N3≤b) l).p (.map (some bm)) w∧OwR intE 3 N3 G0 w (natE out) u) n ⟨x,[x],u0,hd2.symm,hx1,by rw[hrr,hL];rfl,by simp only[List.length_singleton];omega,hf,e,hT,B8,HL,HM,Ho⟩ ?_)
 rintro r0 a w ⟨z,out,u,hdz,hz,hR,hlen,hf,e,hT,B8,HL,HM,Ho⟩
 repeat refine seq ?_
 refine rgN 2 hf <| st (mv rfl) <| st (geq rfl rfl) <| en fun a w e' hf=>?_
 obtain⟨hT,HL,HM,Ho,e,B8⟩:=up6 e' hT HL HM Ho e B8
 refine tl_nil <| ifc hf rfl (fun hc=>wskip ?_) (fun hc=>wexit ?_)
 ·obtain⟨k,rfl⟩:∃k,r0=k+1:=⟨r0 - 1,by have:=of_decide_eq_true hc;omega⟩
  refine seq <| blk ?_
  rw[show (((k+1:Nat):Int) - 1)=((k:Nat):Int) by omega] at hf
  obtain⟨q,hq1,hq2⟩:=ds_back hnsy hy1 hdz
  obtain⟨T,hT1,hT2⟩:=ds_level.1 hq2
  rw[← hL] at hT1
  have hgs:gs L k=T:=by rw[gs,hT1];rfl
  have hmn:minOf (lkS l (z:Int) &&& T)≠none:=fun h=>by
   have h2:=minOf_none.1 h
   have h3:=(bit_and _ _ _).2 ⟨hq1,hT2⟩
   rw[h2] at h3;exact bit_zero _ h3
  rw[geF,hgs] at hR
  obtain⟨z2,hz2⟩:∃z2,minOf (lkS l (z:Int) &&& T)=some z2:=Option.ne_none_iff_exists'.1 hmn
  have hz2m:=minOf_mem hz2
  have hz2d:dsT (lkS l) y z2=(k:Int):=ds_level.2 ⟨T,by rw[← hL];exact hT1,((bit_and _ _ _).1 hz2m).2⟩
  have hz21:=bit_lt hz2m
  have hwz:(Lit.int .i64 (z:Int)).wf=true:=wf64 (by omega) (by omega)
  rw[hz2,Option.getD_some] at hR
  replace hf:=hf.keep [1,7,8,9,10]
  refine seq <| regV 14 Mix.mix hf (by decide +kernel) <| st (fA U79 rfl T77 rfl) <| st (ld1 (v:=.map (some bm)) T77 rfl B8 (adC_map _ _)) <| st (mv rfl) <| st (lkM (l:=l) (i:=(z:Int)) U77 zero_set (isE rfl HM) rfl hwz) <| st (mv rfl) <| st (mv rfl) <| st (idxD U83 S76 (isE rfl HL) rfl (by omega) (hT1)) <| st (ldS T76 (isR rfl)) <| st (call2 (A:=E (setV (lkS l (z:Int) &&& T))) (B:=E (setV (lkS l (z:Int)))) (C:=E (setV T)) En74 rfl rfl (fun v u w he h h'=>by cases h;cases h';exact inter_spec _ T w)) ?_
  refine st (call1 (A:=Tup [E (I (z2:Nat)),E (B true)]) En72 rfl (fun v w he h=>by cases h;have hm:=min_spec (lkS l (z:Int) &&& T) w (hT.ext he);rw[minP,hz2] at hm;exact hm)) ?_
  refine st (mv rfl) <| st (ext_ rfl rfl) <| st (ext_ rfl rfl) <| st (asg rfl) <| en fun a w e' hf=>?_
  obtain⟨hT,HL,HM,Ho,e,B8⟩:=up6 e' hT HL HM Ho e B8
  refine tl_nil ?_
  replace hf:=hf.kp [1,7,8,9,10]
  refine rgN 3 hf <| st (mv rfl) <| st (mv rfl) <| st (bsl1 U35 I3 rfl (by decide) rfl Ho.avs (isI rfl)) <| en fun a w e' hf=>?_
  obtain⟨hT,B8,HL,HM,Ho,e⟩:=up6 e' hT B8 HL HM Ho e
  haveI hin:∀G0,InR (GB W G0) _:=OwR.inGB (W:=W) Ho (by omega)
  refine tl_app U35 I3 rfl rfl hf (by decide) rfl Ho (isR rfl) (by rw[natE_len,List.length_singleton];omega) (by rw[natE_len,List.length_singleton];simp only[maxLen];omega) fun a v w hg hat Hn hf=>?_
  replace e:=e.gro hg (Ho.row (W:=W) (by omega))
  have hrow:=Ho.row (W:=W) (by omega)
  replace hT:=hT.gro hg (fun b hb=>by have:=(Ho.lt hb).1;omega)
  replace B8:=B8.gro hg (Ho.neLt h8)
  replace HL:=Dv.gro HL hg (fun b hb=>(Ho.lt hb).1)
  replace HM:=Dv.gro HM hg (fun b hb=>(Ho.lt hb).1)
  replace Ho:=Hn
  replace Ho:=Hn;clear Hn hg hat hin
  refine tA hf rfl fun a hf=>tl_nil ?_
  rw[← natE_app] at Ho
  replace hf:=hf.kp [1,7,8,9,10]
  refine rgN 2 hf <| st (mv rfl) <| st (sub rfl rfl (by omega)) <| en fun a w e' hf=>?_
  obtain⟨hT,HL,HM,Ho,e,B8⟩:=up6 e' hT HL HM Ho e B8
  refine tA hf rfl fun a hf=>tl_nil ?_
  replace hf:=hf.keep [1,7,8,9,10]
  exact⟨k,Nat.lt_succ_self _,z2,out++[z2],_,hz2d,hz21,by rw[List.append_assoc];exact hR,by rw[List.length_append,List.length_singleton];omega,hf,e,hT,B8,HL,HM,Ho⟩
 ·obtain rfl:r0=0:=by have:=of_decide_eq_false hc;omega
  rw[geF,List.append_nil] at hR
  rw[hR] at Ho
  replace hf:=hf.keep [10]
  refine seq <| rgN 1 hf <| st (mv rfl) <| en fun a w e' hf=>?_
  obtain⟨Ho,e⟩:=up2 e' Ho e
  refine tA hf rfl fun a hf=>tl_nil <| wret <| ret1 rfl hf rfl ?_
  rintro _ rfl
  exact⟨_,rfl,e,Ho.sl⟩
end Go.Mono
