/-
  Walks of functions and plain facts.
  No condition.
-/
import Derived.Test.YtbjangoghokneaaGreatDoorNE
import Derived.Test.YtbjangoghokneaaGreatDoorND
import Derived.Test.YtbjangoghokneaaGreatDoorNC
import Derived.Test.YtbjangoghokneaaGreatDoorNA
set_option linter.unusedVariables false
set_option linter.unusedSimpArgs false
namespace Go.Mono
open Go Go.Proofs Go.RowKit Go.Gr
theorem a2k {G:Nat→Prop}{N0:Nat}(l:List (Int×BS))(S0:BS)(mq:Value)(vo n:Nat)(W:World)(hT:Tab W)(h:(Dv (mpE sKV N0) G l).p mq W)(hvo:vo<1024)(hn1:1≤n)(hn:n≤1500) :
  Calls Tryz.prog 85 #[.agg (adC S0 mq),I (vo:Nat),I (n:Nat)] W (Post (CyA (fun b=>b<W.heap.size) (cZ (lkS l) vo n n [vo])) W):=by
 have HV:(Dv (mpE sKV N0) (GB W G0) l).p mq W:=Dv.toB (Dv.weak h fun b _ hb=>hb.elim)
 have hT0:=hT.lt
 refine eN [.agg (adC S0 mq),I (vo:Nat),I (n:Nat)] [E (.agg (adC S0 mq)),E (I (vo:Nat)),E (I (n:Nat))] Tryz.func85 Tryz.ntmps85 ?_ fun a hf=>?_
 rotate_left
 rotate_right
 ·exact eI rfl rfl rfl
 have e:=Ext.rfl' W
 refine seq <| ac <| tB hf rfl fun a b3 w v3 hv3 e' hb3 hs3 B3 hf=>?_
 obtain⟨hT,HV,e⟩:=up3 e' hT HV e
 refine tB hf rfl fun a b4 w v4 hv4 e' hb4 hs4 B4 hf=>?_
 obtain⟨hT,HV,e,B3⟩:=up4 e' hT HV e B3
 refine tB hf rfl fun a b5 w v5 hv5 e' hb5 hs5 B5 hf=>?_
 obtain⟨hT,HV,e,B3,B4⟩:=up5 e' hT HV e B3 B4
 refine tA hf rfl fun a hf=>aa ?_
 cases hv3
 cases hv4
 cases hv5
 replace B3:Blk w b3 (adC S0 mq) 79:=B3
 replace B4:Blk w b4 #[I (vo:Nat)] 3:=B4
 replace B5:Blk w b5 #[I (n:Nat)] 3:=B5
 have n5:b3≠b4∧b3≠b5∧b4≠b5∧W.heap.size≤b3∧W.heap.size≤b4∧W.heap.size≤b5:=by omega
 replace hf:=hf.keep [3,4,5]
 obtain⟨lv0,hlv0⟩:=eqX (lvB (lkS l) vo)
 obtain⟨N1,hN1⟩:=eqX w.heap.size
 have hN1s:N1≤w.heap.size:=Nat.le_of_eq hN1
 have hl5:b3<N1∧b4<N1∧b5<N1:=by have:=B3.lt;have:=B4.lt;have:=B5.lt;omega
 refine seq <| rgN 3 hf <| st (ldW T79 rfl B3 (aM _ _)) <| st (ld1 (v:=I (vo:Nat)) T3 rfl B4 rfl) <| st (ap (A:=OwA aP 76 N1 G0 lv0) (B:=E (.agg (adC S0 mq))) (C:=E (I (vo:Nat))) fO rfl rfl (fun v u w he k1 k2=>by cases k1;cases k2;exact (gj l S0 mq vo w (hT.ext he) (Dv.ex HV he) hvo).mono fun en w' ⟨u,k1,k2,k3⟩=>⟨u,k1,k2,by rw[hlv0];exact OwR.low k3 (Nat.le_trans hN1s he.size) fun b hb=>hb.elim⟩)) ?_
 refine en fun a w e' hf=>?_
 obtain⟨hT,HV,e,B3,B4,B5⟩:=up6 e' hT HV e B3 B4 B5
 obtain⟨lv,Hr,hf⟩:=hf.opn 11 rfl
 replace Hr:OwR aP 76 N1 G0 w lv0 lv:=Hr
 obtain⟨N2,hN2⟩:=eqX w.heap.size
 have hN2s:N2≤w.heap.size:=Nat.le_of_eq hN2
 have hl5':b3<N2∧b4<N2∧b5<N2:=by have:=B3.lt;have:=B4.lt;have:=B5.lt;omega
 have HL:(Dv (slE aP) (fun b=>N2≤b) lv0).p lv w:=Hr.slN fun b hb hh=>by have:=(Hr.lt hb).2;omega
 have hlo:lv.oneCell'=true:=Hr.one
 have hWN2:W.heap.size≤N2:=by rw[hN2];exact e.size
 replace hf:=hf.kp [3,4,5,11]
 refine tL I83 hf fun a b7 w e' hb7 hs7 B7 hf=>?_
 have hle7:=Nat.le_trans e.size (Nat.le_of_eq hb7.symm)
 have lo7_hN2s:=Nat.le_trans hN2s (Nat.le_of_eq hb7.symm)
 obtain⟨hT,HV,HL,hN2s,e,B3,B4,B5⟩:=up8 e' hT HV HL hN2s e B3 B4 B5
 have n7:N2≤b7:=lo7_hN2s
 refine aO T83 hf rfl rfl hlo B7 Nat.zero_lt_one fun w hg hsz B7 hf=>?_
 replace e:=e.gr hg (by omega);replace hT:=hT.gr hg (by omega);replace HV:=Dv.gr HV hg (.inr (by omega));replace HL:=Dv.gr HL hg n7;replace B3:=B3.gr hg (by omega);replace B4:=B4.gr hg (by omega);replace B5:=B5.gr hg (by omega);replace hN2s:=Nat.le_trans hN2s hg.size;clear hg
 refine aa ?_
 replace B7:Blk w b7 #[lv] 83:=B7
 replace hf:=hf.keep [3,4,5,7]
 refine seq <| ac <| tL vR hf fun a b8 w e' hb8 hs8 B8 hf=>?_
 have lo8_hN2s:=Nat.le_trans hN2s (Nat.le_of_eq hb8.symm)
 have lt8_B3:=B3.lt
 obtain⟨hT,HV,HL,hN2s,e,B3,B4,B5,B7⟩:=up9 e' hT HV HL hN2s e B3 B4 B5 B7
 refine aa ?_
 have n8:N2≤b8∧b7≠b8:=⟨lo8_hN2s,by omega⟩
 replace hf:=hf.kp [3,4,5,7,8]
 refine seq <| rgN 1 hf <| st (vI rfl rfl rfl rfl rfl) <| en fun a w e' hf=>?_
 replace hT:=hT.ext e'
 replace HV:=Dv.ex HV e'
 replace HL:=Dv.ex HL e'
 replace hN2s:=Nat.le_trans hN2s e'.size
 replace e:=e.tr e'
 replace B3:=B3.ext e'
 replace B4:=B4.ext e'
 replace B5:=B5.ext e'
 replace B7:=B7.ext e'
 replace B8:=B8.ext e'
 refine aO lL hf rfl rfl rfl B8 Nat.zero_lt_one fun w hg hsz B8 hf=>?_
 obtain⟨e,hT,HV,B3,B4,B5,B7⟩:=gr7 hg e hT HV B3 B4 B5 B7
 replace HL:=Dv.gr HL hg n8.1
 refine aa ?_
 replace B8:Blk w b8 #[cyF b5 b3 b4 b7 b8] 100:=B8
 have C:CyE G0 n vo l S0 mq lv N0 b5 b3 b4 b7 b8 w:=⟨hT,Dv.weak HV fun b _ hb=>hb.elim,by rw[← hlv0];exact Dv.weak HL fun b _ hb=>hb.elim,B5,B3,B4,B7,B8⟩
 replace hf:=hf.keep [3,4,5,7,8]
 have e4:=e
 refine seq <| rgN 4 hf <| st (ld1 (v:=cyF b5 b3 b4 b7 b8) lL rfl B8 rfl) <| st (ld1 (v:=I (vo:Nat)) T3 rfl B4 rfl) <| st (aX (e:=intE) (G:=fun b=>b<W.heap.size) U35 I3 rfl (by decide) rfl (fun b hb=>Nat.lt_of_lt_of_le hb e4.size) (isI rfl)) <| st (ij (A:=CyA (fun b=>b<W.heap.size) (cZ (lkS l) vo n n [vo])) (B:=Dv (slE intE) (fun b=>b<W.heap.size) [(vo:Int)]) pO rfl rfl (fun u w he k=>a2j hn n [vo] u (fun b=>b<W.heap.size) w (fun b hb=>Nat.lt_of_lt_of_le hb (e4.tr he).size) (C.ext he) k (by simp) (by simp;omega) (by simp) (fun y hy=>by rw[List.mem_singleton.1 hy];exact hvo))) ?_
 refine en fun a w e' hf=>?_
 obtain⟨C,e,B4,B8⟩:=up4 e' C e B4 B8
 refine tA hf rfl fun a hf=>aa <| ak <| an rfl hf rfl ?_
 intro v hv
 exact⟨_,rfl,e,hv⟩
def scL (nb:Int→BS)(V:BS)(n:Nat):List Nat→BS→Option (List Nat)
 | [],_=>none
 | x::r,left=>match cZ (cj nb (V &&& left)) x n n [x] with
  | some o=>some o
  | none=>scL nb V n r (del left (x:Int))
def dD (S:BS)(s:List Nat):BS:=s.foldl (fun (S:BS) (x:Nat)=>del S (x:Int)) S
theorem tt (S:BS)(s:List Nat)(x:Nat):dD S (s++[x])=del (dD S s) (x:Int):=by rw[dD,List.foldl_append,List.foldl_cons,List.foldl_nil,dD]
def kD (nb:Int→BS)(V:BS)(es:List (Nat×Nat)):Option (List Nat):=if ci nb es=0 then none else scL nb V (ci nb es).toNat (ai V) V
structure ScJ (W:World)(nm bm:Nat)(l:List (Int×BS))(V:BS)(b2 b3 b4 b5 n:Nat)(r:Value)(left:BS)(w:World):Prop where
 e:Ext W w
 t:Tab w
 m:MpR sKV w bm nm l
 p2:Blk w b2 #[r] 35
 p3:Blk w b3 (adC V (.map (some bm))) 79
 p4:Blk w b4 #[I (n:Nat)] 3
 p5:Blk w b5 (aJ left) 76
theorem ScJ.kp {W:World}{nm bm:Nat}{l:List (Int×BS)}{V:BS}{b2 b3 b4 b5 n:Nat}{r:Value}{left:BS}{B:Nat}{w w':World}(h:ScJ W nm bm l V b2 b3 b4 b5 n r left w)(k:Kp B w w')(hW:W.heap.size≤B)(h0:0<B)(l2:b2<B)(l3:b3<B)(l4:b4<B)(l5:b5<B)(lm:bm<B) :
  ScJ W nm bm l V b2 b3 b4 b5 n r left w':=
 have no:∀{b},b<B→¬aW B b:=fun h hh=>by have:=hh.1;omega
 ⟨h.e.kp k hW,h.t.kp k h0,h.m.pres (k.same bm h.m.lt (no lm)),h.p2.kp k (no l2),h.p3.kp k (no l3),h.p4.kp k (no l4),h.p5.kp k (no l5)⟩
def esN (g:GT):List (Nat×Nat):=g.2.map fun x=>(x.1.1.toNat,x.1.2.toNat)
theorem iY {g:GT}(ok:Gr.Ok g):∀x∈g.2,∃u v:Nat,x.1=((u:Int),(v:Int))∧u<v∧(vset g.1).getLsbD u=true∧(vset g.1).getLsbD v=true:=fun x hx=>by
 obtain⟨q1,q2,q3,_⟩:=ok.re x hx
 have h2:=q2
 have h3:=q3
 rw[inV,List.any_eq_true] at h2 h3
 obtain⟨y,hy,e1⟩:=h2
 obtain⟨z,hz,e2⟩:=h3
 have r1:=gO (ok.rv y hy).1
 have r2:=gO (ok.rv z hz).1
 rw[of_decide_eq_true e1] at r1
 rw[of_decide_eq_true e2] at r2
 obtain⟨⟨p,q⟩,c⟩:=x
 dsimp only at q1 q2 q3 r1 r2 ⊢
 obtain⟨u,rfl⟩:∃u:Nat,p=u:=⟨p.toNat,by omega⟩
 obtain⟨v,rfl⟩:∃v:Nat,q=v:=⟨q.toNat,by omega⟩
 exact⟨u,v,rfl,by omega,(gQ ok).2 q2,(gQ ok).2 q3⟩
theorem nA {g:GT}(ok:Gr.Ok g):g.2.map (·.1)=(esN g).map toI:=by
 rw[esN,List.map_map]
 refine List.map_congr_left fun x hx=>?_
 obtain⟨u,v,he,_⟩:=iY ok x hx
 rw[he,Function.comp,he];rfl
theorem kE {g:GT}(ok:Gr.Ok g):∀e∈esN g,e.1<e.2∧(vset g.1).getLsbD e.1=true∧(vset g.1).getLsbD e.2=true:=fun e he=>by
 obtain⟨x,hx,rfl⟩:=List.mem_map.1 he
 obtain⟨u,v,he,h1,h2,h3⟩:=iY ok x hx
 rw[he];exact⟨h1,h2,h3⟩
theorem tu {g:GT}(ok:Gr.Ok g)(i j:Nat):Adj g i j↔(i,j)∈esN g∨(j,i)∈esN g:=by
 constructor
 ·rintro⟨x,hx,h|h⟩
  ·exact .inl (List.mem_map.2 ⟨x,hx,by rw[h];rfl⟩)
  ·exact .inr (List.mem_map.2 ⟨x,hx,by rw[h];rfl⟩)
 ·rintro (h|h)
  ·obtain⟨x,hx,he⟩:=List.mem_map.1 h
   obtain⟨u,v,h1,_⟩:=iY ok x hx
   rw[h1] at he
   have:u=i∧v=j:=by simpa using he
   exact⟨x,hx,.inl (by rw[h1,this.1,this.2])⟩
  ·obtain⟨x,hx,he⟩:=List.mem_map.1 h
   obtain⟨u,v,h1,_⟩:=iY ok x hx
   rw[h1] at he
   have:u=j∧v=i:=by simpa using he
   exact⟨x,hx,.inr (by rw[h1,this.1,this.2])⟩
theorem a2l (nb:Int→BS)(b:Int)(e:Nat×Nat)(h:0≤b)(h':b≤1026):0≤gst nb b e∧gst nb b e≤1026:=by
 have h1:=kt (lvB (wo nb e.1 e.2) e.1) e.2
 have h2:=nz (nb:=wo nb e.1 e.2) (a:=e.1) e.2
 rw[gst]
 split <;> omega
theorem a2m (nb:Int→BS)(es:List (Nat×Nat)):0≤ci nb es∧ci nb es≤1026:=by
 have key:∀k,k≤es.length→0≤ci nb (es.take k)∧ci nb (es.take k)≤1026:=by
  intro k
  induction k with
  | zero=>intro _;rw[List.take_zero,ci,List.foldl_nil];decide
  | succ k ih=>
   intro hk
   have h1:=ih (by omega)
   have h2:es.take (k+1)=es.take k++[es[k]]:=bA (List.getElem?_eq_getElem (by omega))
   rw[h2,tn]
   exact a2l nb _ _ h1.1 h1.2
 have:=key es.length (Nat.le_refl _)
 rwa [List.take_length] at this
theorem a2n {G G':Nat→Prop}{o:Option (List Nat)}{v:Value}{w:World}(hG:∀b,G' b→G b)(h:(CyA G o).p v w):(CyA G' o).p v w:=by
 cases o with
 | none=>exact h
 | some out=>exact⟨h.1,Dv.weak h.2 fun b _ hb=>hG b hb⟩
theorem a2o {G:Nat→Prop}{N:Nat}(g:GT)(ok:Gr.Ok g)(v:Value)(W:World)(hT:Tab W)(h:(Dv (ptE (grE N)) G (some g)).p v W)(hl1:g.1.length≤100000)(hl2:g.2.length≤100000)(hN:N≤1000000) :
  Calls Tryz.prog 36 #[v] W (Post (CyA G0 (kD (nbA g) (vset g.1) (esN g))) W):=by
 have hgd:(Dv (ptE (grE N)) G0 (some g)).p v W:=Dv.weak h fun b _ hb=>hb.elim
 have gs1:=ok.sv
 have gs2:=ok.se
 obtain⟨l,hl⟩:=eqX (nbL g (ai (vset g.1)))
 obtain⟨V,hV⟩:=eqX (vset g.1)
 obtain⟨es,hes⟩:=eqX (esN g)
 have hnb:nbA g=lkS l:=by rw[hl,nbA]
 have hti:=nA ok
 have hin:=kE ok
 rw[hnb,← hV,← hes]
 rw[← hes] at hti hin
 rw[← hV] at hin
 have hel:es.length≤100000:=by rw[hes,esN,List.length_map];exact hl2
 have hmem:∀e∈es,e.1<1024∧e.2<1024∧e.1≠e.2∧((e.1:Int),lkS l (e.1:Int))∈l:=fun e he=>by
  obtain⟨h1,h2,h3⟩:=hin e he
  refine⟨aA h2,aA h3,by omega,?_⟩
  have h4:((e.1:Int),nbG g.2 (e.1:Int))∈l:=by
   rw[hl,nbL]
   exact List.mem_map.2 ⟨e.1,aD.2 ⟨aA h2,by rw[← hV];exact h2⟩,rfl⟩
  have h5:lkS l (e.1:Int)=nbG g.2 (e.1:Int):=by
   rw[hl,nbL,ky (fun n=>nbG g.2 (n:Int)),if_pos (aD.2 ⟨aA h2,by rw[← hV];exact h2⟩)]
  rw[h5];exact h4
 have hgi:=a2m (lkS l) es
 have hT0:=hT.lt
 refine dx (args:=[v]) (As:=[E v]) Tryz.func36 rfl Tryz.ntmps36 (Nat.le_of_ble_eq_true rfl) ?_ (fun a hf=>?_) (Nat.le_of_ble_eq_true rfl)
 ·exact arg1 rfl
 dsimp only[params,Nat.reduceAdd] at hf
 have e:=Ext.rfl' W
 refine seq <| ac <| tL I35 hf fun a b2 w e' hb2 hs2 B2 hf=>?_
 have hle2:=Nat.le_trans e.size (Nat.le_of_eq hb2.symm)
 obtain⟨hT,e⟩:=up2 e' hT e
 refine aa ?_
 replace B2:Blk w b2 #[.slice none 0 0] 35:=B2
 have n2:W.heap.size≤b2:=hle2
 refine seq <| seq ?_
 refine rgN 2 hf <| st (mv rfl) <| st (eZ U26 (isE rfl (vst e hgd))) <| en fun a w e' hf=>?_
 obtain⟨hT,e,B2⟩:=up3 e' hT e B2
 refine aa <| ifF hf rfl ?_
 refine aj ?_
 replace hf:=hf.kp [0,2]
 have e0:=e
 refine seq <| rgN 2 hf <| st (mv rfl) <| st (aw (A:=cw l V 1024) eH rfl (fun v w he k=>by cases k;rw[hl,hV];exact (mM g _ w (hT.ext he) (vst (e0.tr he) hgd) gs1 gs2 hl1 hl2 hN).mono fun en w' ⟨k1,mq,k2,k3⟩=>⟨_,k2,k1,mq,rfl,k3⟩)) ?_
 refine en fun a w e' hf=>?_
 obtain⟨hT,e,B2⟩:=up3 e' hT e B2
 obtain⟨av,⟨mq,rfl,HV0⟩,hf⟩:=hf.opn 12 rfl
 obtain⟨cs,⟨bm0,nm0,rfl,_,hnm0,HM0⟩,hmq⟩:=HV0
 replace hmq:mq=.map (some bm0):=hmq
 subst hmq
 obtain⟨N1,hN1⟩:=eqX w.heap.size
 have hN1s:N1≤w.heap.size:=Nat.le_of_eq hN1
 have hbm0:bm0<N1:=by rw[hN1];exact HM0.lt
 have hb2N:b2<N1:=by rw[hN1];exact B2.lt
 have hWN1:W.heap.size≤N1:=by rw[hN1];exact e.size
 replace hf:=hf.kp [0,2,12]
 have nm2:bm0≠b2:=HM0.neB B2
 refine tL I79 hf fun a b3 w e' hb3 hs3 B3 hf=>?_
 have hle3:=Nat.le_trans e.size (Nat.le_of_eq hb3.symm)
 have lo3_hN1s:=Nat.le_trans hN1s (Nat.le_of_eq hb3.symm)
 obtain⟨hT,HM0,hN1s,e,B2⟩:=up5 e' hT HM0 hN1s e B2
 have n3:N1≤b3:=lo3_hN1s
 refine aF T79 hf rfl rfl (ct _ _) B3 rfl (aM _ _) fun w hg hsz B3 hf=>?_
 replace e:=e.gr hg (by omega);replace hT:=hT.gr hg (by omega);replace HM0:=HM0.gr hg (fun h=>by cases h;omega);replace B2:=B2.gr hg (by omega);replace hN1s:=Nat.le_trans hN1s hg.size;clear hg
 refine aa ?_
 replace hf:=hf.kp [0,2,3]
 have e4:=e
 have hN4:=hN1s
 have l3':=B3.lt
 have l2':=B2.lt
 have hdv:=HM0.dvE hnm0 (G:=G0) (fun h=>h)
 obtain⟨n,hn⟩:∃n:Nat,ci (lkS l) es=(n:Int):=⟨(ci (lkS l) es).toNat,by omega⟩
 have hn2:n≤1026:=by omega
 refine seq <| rgG 5 Mix.mix hf <| st (ldW T79 rfl B3 (aM _ _)) <| st (mv rfl) <| st (aw (A:=Dv (slE edE) G0 (es.map toI)) (B:=E v) pD rfl (fun u w he k=>by cases k;rw[← hti];exact (td g v w (vst (e4.tr he) hgd) gs2 hl2 hN).mono fun en w' ⟨u,k1,k2,k3⟩=>⟨u,k1,k2,OwR.sl k3⟩)) ?_
 refine st (ap (A:=E (I (n:Nat))) (B:=E (.agg (adC V (.map (some bm0))))) (C:=Dv (slE edE) G0 (es.map toI)) wz rfl rfl (fun a b w he k1 k2=>by cases k1;rw[← hn];exact a2e l V es (.map (some bm0)) b w (hT.ext he) (Dv.ex hdv he) (by omega) hel k2 hmem)) ?_
 refine st (alD I3) <| en fun a w e' hf=>?_
 obtain⟨hT,HM0,hN1s,e,B2,B3⟩:=up6 e' hT HM0 hN1s e B2 B3
 obtain⟨v4,⟨b4,h4,rfl,B4⟩,hf⟩:=hf.fix 4 rfl
 have n4:N1≤b4∧b3≠b4∧b2≠b4:=⟨Nat.le_trans hN4 h4,by omega,by omega⟩
 replace hf:=hf.kp [2,3,4,16]
 refine aO T3 hf rfl rfl rfl B4 Nat.zero_lt_one fun w hg hsz B4 hf=>?_
 replace e:=e.gr hg (by omega);replace hT:=hT.gr hg (by omega);replace HM0:=HM0.gr hg (fun h=>by cases h;omega);replace B2:=B2.gr hg (by omega);replace B3:=B3.gr hg (by omega);replace hN1s:=Nat.le_trans hN1s hg.size;clear hg
 refine aa ?_
 replace B4:Blk w b4 #[I (n:Nat)] 3:=B4
 replace hf:=hf.kp [2,3,4]
 by_cases hn0:n=0
 ·rw[kD,if_pos (show ci (lkS l) es=0 by rw[hn,hn0];rfl)]
  refine seq <| seq ?_
  refine rgN 2 hf <| st (ld1 (v:=I (n:Nat)) T3 rfl B4 rfl) <| st ((eql rfl rfl).eq (congrArg Value.bool (show ((n:Int)==0)=true by rw[hn0];rfl))) ?_
  refine en fun a w e' hf=>?_
  obtain⟨hT,HM0,hN1s,e,B2,B3,B4⟩:=up7 e' hT HM0 hN1s e B2 B3 B4
  refine aa <| ifT hf rfl ?_
  replace hf:=hf.kp [2]
  refine seq <| ac <| aO T35 hf rfl rfl rfl B2 Nat.zero_lt_one fun w hg hsz B2 hf=>?_
  replace e:=e.gr hg (by omega);clear hg
  refine aa <| ak <| ee (D:=[]) rfl T35 hf rfl B2 (Ds.nil _) ⟨_,rfl,e,rfl⟩
 have hnz:((n:Int)==0)=false:=beq_eq_false_iff_ne.2 (by omega)
 have hgz:¬ci (lkS l) es=0:=by omega
 rw[kD,if_neg hgz,hn,Int.toNat_natCast]
 refine seq <| seq ?_
 refine rgN 2 hf <| st (ld1 (v:=I (n:Nat)) T3 rfl B4 rfl) <| st ((eql rfl rfl).eq (congrArg Value.bool (hnz))) <| en fun a w e' hf=>?_
 obtain⟨hT,HM0,hN1s,e,B2,B3,B4⟩:=up7 e' hT HM0 hN1s e B2 B3 B4
 refine aa <| ifF hf rfl ?_
 refine aj ?_
 replace hf:=hf.kp [2,3,4]
 refine seq <| ac <| tP hf (fA U79 rfl T76 rfl) fun a w e' hf=>?_
 obtain⟨hT,HM0,hN1s,e,B2,B3,B4⟩:=up7 e' hT HM0 hN1s e B2 B3 B4
 refine tP hf ((ldP T76 rfl B3 (by rw[aM];decide)).eq (congrArg Value.agg (bW V (.map (some bm0))))) fun a w e' hf=>?_
 obtain⟨hT,HM0,hN1s,e,B2,B3,B4⟩:=up7 e' hT HM0 hN1s e B2 B3 B4
 refine tL I76 hf fun a b5 w e' hb5 hs5 B5 hf=>?_
 have lo5_hN1s:=Nat.le_trans hN1s (Nat.le_of_eq hb5.symm)
 have lt5_B2:=B2.lt
 have lt5_B3:=B3.lt
 have lt5_B4:=B4.lt
 obtain⟨hT,HM0,hN1s,e,B2,B3,B4⟩:=up7 e' hT HM0 hN1s e B2 B3 B4
 have n5:N1≤b5∧b3≠b5∧b4≠b5:=⟨lo5_hN1s,by omega⟩
 refine aF T76 hf rfl rfl (bk _) B5 rfl (bc _) fun w hg hsz B5 hf=>?_
 replace e:=e.gr hg (by omega);replace hT:=hT.gr hg (by omega);replace HM0:=HM0.gr hg (fun h=>by cases h;omega);replace B2:=B2.gr hg (by omega);replace B3:=B3.gr hg (by omega);replace B4:=B4.gr hg (by omega);replace hN1s:=Nat.le_trans hN1s hg.size;clear hg
 refine aa ?_
 replace hf:=hf.kp [2,3,4,5]
 obtain⟨Nz,hNz⟩:=eqX w.heap.size
 refine seq <| seq ?_
 refine rgN 3 hf <| st (fA U79 rfl T76 rfl) <| st ((ldP T76 rfl B3 (by rw[aM];decide)).eq (congrArg Value.agg (bW V (.map (some bm0))))) ?_
 refine st (aw (A:=dh Nz V) dr rfl (fun v w' he h=>by cases h;exact Calls.mono (du _ w') (fun en w2 ⟨u,h1,h2,b',h3,h4,h5⟩=>⟨u,h1,h2,b',by have:=he.size;omega,h4,h5⟩))) ?_
 refine en fun a w e' hf=>?_
 obtain⟨hT,HM0,hN1s,e,B2,B3,B4,B5⟩:=up8 e' hT HM0 hN1s e B2 B3 B4 B5
 refine aa ?_
 obtain⟨vv,⟨b23,h23,rfl,BS⟩,hf⟩:=hf.fix 23 rfl
 replace hf:=hf.kp [2,3,4,5,23]
 obtain⟨nb,hnb'⟩:∃nb,nb=lkS l:=⟨_,rfl⟩
 rw[← hnb']
 have hBW:W.heap.size≤w.heap.size:=e.size
 have h0w:0<w.heap.size:=hT.lt
 have l2:=B2.lt
 have l3:=B3.lt
 have l4:=B4.lt
 have l5:=B5.lt
 have lm:=HM0.lt
 refine blk <| dz (S:=V) hf rfl BS (by decide) (fun s w1=>ScJ W nm0 bm0 l V b2 b3 b4 b5 n (.slice none 0 0) (dD V s) w1∧(∀rest,ai V=s++rest→scL nb V n (ai V) V=scL nb V n rest (dD V s)))
  (fun ex w1=>ex=.ret∧∃r out left,ScJ W nm0 bm0 l V b2 b3 b4 b5 n r left w1∧scL nb V n (ai V) V=some out∧out≠[]∧(Dv (slE intE) (fun b=>b<w.heap.size+3) (ah out)).p r w1) (fun s w1 h=>h.1.t)
  ⟨⟨e,hT,HM0,B2,B3,B4,B5⟩,fun rest hr=>by rw[List.nil_append] at hr;rw[← hr];rfl⟩ (fun s w1 w2 h hs k=>⟨h.1.kp k hBW h0w l2 l3 l4 l5 lm,h.2⟩)
  (fun ex w1 w2 ⟨q1,r,out,left,q2,q3,q4,q5⟩ hs k=>⟨q1,r,out,left,q2.kp k hBW h0w l2 l3 l4 l5 lm,q3,q4,Dv.ch q5 k.chg fun b hb=>hb.2⟩) ?_ ?_ ?_
 ·intro lp s x rest a1 w1 hs hJ hlw hf
  have hxV:V.getLsbD x=true:=(aD.1 (by rw[hs];simp)).2
  have hx1024:x<1024:=aA hxV
  generalize hBz:w.heap.size=Bz at *
  refine ac <| tA hf rfl fun a hf=>aa <| ⟨Kh.rfl' _ _,fun w3 k3 hsz3=>?_⟩
  have hJ3:=hJ.1.kp k3 hBW h0w l2 l3 l4 l5 lm
  have hJs:=hJ.2
  have hw3:Bz+3≤w3.heap.size:=by omega
  replace hf:=hf.pure w3
  obtain⟨e,hT,HM0,B2,B3,B4,B5⟩:=hJ3
  have kh:=Kh.rfl' Bz w3
  obtain⟨left,hleft⟩:=eqX (dD V s)
  have hdl:dD V (s++[x])=del left (x:Int):=by rw[tt,hleft]
  have hsc:=hJs (x::rest) hs
  rw[← hleft] at B5 hsc
  rw[scL] at hsc
  obtain⟨o,ho⟩:=eqX (cZ (cj nb (V &&& left)) x n n [x])
  rw[← ho] at hsc
  have hwi:=nq l (V &&& left)
  rw[← hnb'] at hwi
  have hdv:=HM0.dvE hnm0 (G:=G0) (fun h=>h)
  replace hf:=hf.kp [2,3,4,5,6]
  refine blk ?_
  have e10:=e
  refine seq <| rgN 3 hf <| st (ldW T79 rfl B3 (aM _ _)) <| st ((ldW T76 rfl B5 rfl).eq ((rfl:_=ae left))) <| st (ap (A:=cw (wiL l (V &&& left)) (V &&& left) 1024) (B:=E (.agg (adC V (.map (some bm0))))) (C:=E (ae left)) lQ rfl rfl (fun a b w he k1 k2=>by cases k1;cases k2;exact ns l V left (.map (some bm0)) w (hT.ext he) (Dv.ex hdv he))) ?_
  refine en fun a w e' hf=>?_
  obtain⟨hT,HM0⟩:=up2 e' hT HM0
  replace kh:=kh.tr (Kh.ext e')
  obtain⟨hw3,e,B2,B3,B4,B5⟩:=up6 e' hw3 e B2 B3 B4 B5
  obtain⟨av,⟨mq7,rfl,HV7⟩,hf⟩:=hf.opn 27 rfl
  obtain⟨cs7,⟨bm7,nm7,rfl,_,hnm7,HM7⟩,hmq7⟩:=HV7
  replace hmq7:mq7=.map (some bm7):=hmq7
  subst hmq7
  have hbn7:bm7≠b5:=HM7.neB B5
  replace hf:=hf.kp [2,3,4,5,6,27]
  obtain⟨N7,hN7⟩:=eqX w.heap.size
  have hN7s:N7≤w.heap.size:=Nat.le_of_eq hN7
  have hl7:b2<N7∧b3<N7∧b4<N7∧b5<N7∧bm0<N7∧bm7<N7∧Bz+3≤N7:=by have:=HM7.lt;omega
  refine tL I79 hf fun a b7 w e' hb7 hs7 B7 hf=>?_
  have hle7:=Nat.le_trans e.size (Nat.le_of_eq hb7.symm)
  have lo7_hN7s:=Nat.le_trans hN7s (Nat.le_of_eq hb7.symm)
  obtain⟨hT,HM0,HM7⟩:=up3 e' hT HM0 HM7
  replace kh:=kh.tr (Kh.ext e')
  obtain⟨hN7s,e,B2,B3,B4,B5⟩:=up6 e' hN7s e B2 B3 B4 B5
  have n7:N7≤b7:=lo7_hN7s
  refine aF T79 hf rfl rfl (ct _ _) B7 rfl (aM _ _) fun w hg hsz B7 hf=>?_
  replace e:=e.gr hg (by omega);replace hT:=hT.gr hg (by omega);replace HM0:=HM0.gr hg (fun h=>by cases h;omega);replace HM7:=HM7.gr hg (fun h=>by cases h;omega);replace B2:=B2.gr hg (by omega);replace B3:=B3.gr hg (by omega);replace B4:=B4.gr hg (by omega);replace B5:=B5.gr hg (by omega);replace kh:=kh.tr (Kh.gr hg (fun hh=>by have:=hh.2;omega));clear hg hN7s
  refine aa ?_
  replace hf:=hf.kp [2,3,4,5,6,7]
  refine seq <| rgN 3 hf <| st ((ldW T76 rfl B5 rfl).eq ((rfl:_=ae left))) <| st (mv rfl) <| st (ap (A:=E (ae (del left (x:Int)))) (B:=E (ae left)) (C:=E (I (x:Nat))) gG rfl rfl (fun v u w he h h'=>by cases h;cases h';exact gJ _ _ w)) ?_
  refine en fun a w e' hf=>?_
  obtain⟨hT,HM0,HM7⟩:=up3 e' hT HM0 HM7
  replace kh:=kh.tr (Kh.ext e')
  obtain⟨e,B2,B3,B4,B5,B7⟩:=up6 e' e B2 B3 B4 B5 B7
  refine aF T76 hf rfl rfl (bk _) B5 (bc _) (bc _) fun w hg hsz B5 hf=>?_
  replace e:=e.gr hg (by omega);replace hT:=hT.gr hg (by omega);replace HM0:=HM0.gr hg (fun h=>by cases h;omega);replace HM7:=HM7.gr hg (fun h=>by cases h;omega);replace B2:=B2.gr hg (by omega);replace B3:=B3.gr hg (by omega);replace B4:=B4.gr hg (by omega);replace B7:=B7.gr hg (by omega);replace kh:=kh.tr (Kh.gr hg (fun hh=>by have:=hh.1;omega));clear hg
  refine aa ?_
  replace hf:=hf.kp [2,3,4,5,6,7]
  obtain⟨S7,hS7⟩:=eqX (V &&& left)
  rw[← hS7] at B7 HM7 hwi ho
  obtain⟨N8,hN8⟩:=eqX w.heap.size
  have hN8s:N8≤w.heap.size:=Nat.le_of_eq hN8
  have hN8b:Bz+3≤N8:=by have:=kh.size;omega
  have hdv7:=HM7.dvE hnm7 (G:=G0) (fun h=>h)
  refine seq <| rgN 4 hf <| st (ldW T79 rfl B7 (aM _ _)) <| st (mv rfl) <| st (ld1 (v:=I (n:Nat)) T3 rfl B4 rfl) <| st (cE (A:=CyA (fun b=>b<N8) o) (B:=E (.agg (adC S7 (.map (some bm7))))) (C:=E (I (x:Nat))) (D:=E (I (n:Nat))) wA rfl rfl rfl (fun a b c w he k1 k2 k3=>by cases k1;cases k2;cases k3;rw[ho,← hwi];exact (a2k (wiL l S7) S7 (.map (some bm7)) x n w (hT.ext he) (Dv.ex hdv7 he) hx1024 (by omega) (by omega)).mono fun en w' ⟨z,q1,q2,q3⟩=>⟨z,q1,q2,a2n (fun b hb=>Nat.lt_of_lt_of_le hb (Nat.le_trans hN8s he.size)) q3⟩)) ?_
  refine en fun a w e' hf=>?_
  obtain⟨hT,HM0⟩:=up2 e' hT HM0
  replace kh:=kh.tr (Kh.ext e')
  obtain⟨e,B2,B3,B4,B5⟩:=up5 e' e B2 B3 B4 B5
  refine tA hf rfl fun a hf=>aa ?_
  obtain⟨r,hr,hf⟩:=hf.opn 8 rfl
  replace hf:=hf.kp [2,3,4,5,6,8]
  cases o with
  | none=>
   obtain rfl:r=.slice none 0 0:=hr
   refine seq <| rgN 2 hf <| st (mv rfl) <| st (kz U35 rfl) <| en fun a w e' hf=>?_
   obtain⟨hT,HM0⟩:=up2 e' hT HM0
   replace kh:=kh.tr (Kh.ext e')
   obtain⟨e,B2,B3,B4,B5⟩:=up5 e' e B2 B3 B4 B5
   refine aa <| ifF hf rfl ?_
   refine aj <| ⟨⟨⟨e,hT,HM0,B2,B3,B4,by rw[hdl];exact B5⟩,fun rest' hr'=>by
    have:rest'=rest:=by rw[hs,List.append_assoc] at hr';simpa using hr'.symm
    rw[this,hdl];exact hsc⟩,kh⟩
  | some out=>
   obtain⟨hr1,hr2⟩:=hr
   have hro:r.oneCell'=true:=Dv.slOne hr2
   have hne2:ah out≠[]:=fun h=>hr1 (by rw[ah] at h;exact List.map_eq_nil_iff.1 h)
   obtain⟨ad,n',c',hre⟩:=nt hr2 hne2
   have HR:(Dv (slE intE) (fun b=>b<Bz+3) (ah out)).p r w:=Dv.weak hr2 fun b _ hb=>by omega
   subst hre
   refine seq <| rgN 2 hf <| st (mv rfl) <| st (kz U35 rfl) <| en fun a w e' hf=>?_
   obtain⟨hT,HM0⟩:=up2 e' hT HM0
   replace kh:=kh.tr (Kh.ext e')
   obtain⟨HR,e,B2,B3,B4,B5⟩:=up6 e' HR e B2 B3 B4 B5
   refine aa <| ifT hf rfl ?_
   refine seq <| rgN 1 hf <| st (mv rfl) <| en fun a w e' hf=>?_
   obtain⟨hT,HM0⟩:=up2 e' hT HM0
   replace kh:=kh.tr (Kh.ext e')
   obtain⟨HR,e,B2,B3,B4,B5⟩:=up6 e' HR e B2 B3 B4 B5
   refine aO T35 hf rfl rfl hro B2 Nat.zero_lt_one fun w hg hsz B2 hf=>?_
   replace e:=e.gr hg (by omega);replace hT:=hT.gr hg (by omega);replace HM0:=HM0.gr hg (fun h=>by cases h;omega);replace B3:=B3.gr hg (by omega);replace B4:=B4.gr hg (by omega);replace B5:=B5.gr hg (by omega);replace HR:=Dv.gr HR hg (by omega);replace kh:=kh.tr (Kh.gr hg (fun hh=>by have:=hh.1;omega));clear hg
   refine aa <| ak <| ⟨⟨rfl,_,out,_,⟨e,hT,HM0,B2,B3,B4,B5⟩,hsc,hr1,HR⟩,kh⟩
 ·intro a' w' hf' hJ hsz hDn
  simp only[Exit.inBlock,↓reduceIte,Exit.then]
  have hfs:=hJ.2 [] (by rw[List.append_nil])
  rw[hfs,scL]
  have hD:Ds [w.heap.size] w':=(Ds.nil w').cons hDn (by simp)
  have hf:FrD 38 (bS [w.heap.size]) a' w' [(2,E (ptr b2))]:=hf'.keep [2]
  have hDW:∀d∈[w.heap.size],W.heap.size≤d:=fun d hd=>by rw[List.mem_singleton] at hd;omega
  obtain⟨e,hT,HM0,B2,B3,B4,B5⟩:=hJ.1
  have hb2:=hD.ne B2
  generalize [w.heap.size]=D2 at *
  generalize w'=w at *
  refine seq <| ac <| aO T35 hf rfl rfl rfl B2 Nat.zero_lt_one fun w hg hsz B2 hf=>?_
  replace e:=e.gr hg (by omega)
  replace hD:=hD.gr hg hb2
  refine aa <| ak <| ee rfl T35 hf rfl B2 hD ⟨_,rfl,e.shut hDW,rfl⟩
 ·intro ex c a' w' hcd hf' hX hsz hDn
  obtain⟨rfl,r,out,left,hJ,hfs,hr1,HR⟩:=hX
  simp only[Exit.inBlock,↓reduceIte,Exit.then]
  rw[hfs]
  have hD:Ds [w.heap.size] w':=(Ds.nil w').cons hDn (by simp)
  have hf:FrD 38 (bS [w.heap.size]) a' w' [(2,E (ptr b2))]:=hf'.keep [2]
  have hDW:∀d∈[w.heap.size],W.heap.size≤d:=fun d hd=>by rw[List.mem_singleton] at hd;omega
  refine ee rfl T35 hf rfl hJ.p2 hD ⟨_,rfl,hJ.e.shut hDW,hr1,?_⟩
  exact Dv.weak (Dv.ch HR (ed _ _) fun b hb=>by rw[List.mem_singleton] at hb;show b<_;omega) fun b _ hb=>hb.elim
theorem fz {nb:Int→BS}{S:BS}{i j:Nat}:(cj nb S (i:Int)).getLsbD j=true↔S.getLsbD i=true∧(nb (i:Int)).getLsbD j=true∧S.getLsbD j=true:=by
 rw[cj]
 split
 ·rename_i h
  rw[cY]
  exact⟨fun hh=>⟨(dR S i).1 h,hh⟩,fun hh=>hh.2⟩
 ·rename_i h
  exact⟨fun hh=>absurd hh (aU j),fun hh=>absurd ((dR S i).2 hh.1) h⟩
def cpt (nb:Int→BS)(a:Nat):BS:=unL (lvB nb a)
theorem a2p {l m:List Nat}(h:ah l=ah m):l=m:=(List.map_inj_right (f:=fun i:Nat=>(i:Int)) fun {x y} h=>by omega).1 h
theorem nB (l m:List Nat)(hl:l.Pairwise (· < ·))(hm:m.Pairwise (· < ·))(h:∀x,x∈l↔x∈m):l=m:=
 a2p (mZ _ _ (List.pairwise_map.2 (hl.imp fun h=>by omega)) (List.pairwise_map.2 (hm.imp fun h=>by omega)) fun x=>by
  simp only[ah,List.mem_map]
  exact⟨fun⟨y,hy,e⟩=>⟨y,(h y).1 hy,e⟩,fun⟨y,hy,e⟩=>⟨y,(h y).2 hy,e⟩⟩)
section
variable {nb:Int→BS}{V:BS}
theorem dF {a:Nat}(ha:a<1024):(cpt nb a).getLsbD a=true:=(kn (nb:=nb) ha).1
theorem fB {a:Nat}(ha:a<1024):∀i j:Nat,(cpt nb a).getLsbD i=true→(nb (i:Int)).getLsbD j=true→(cpt nb a).getLsbD j=true:=(kn (nb:=nb) ha).2.1
theorem gW {a:Nat}(ha:a<1024)(K:BS)(hK:K.getLsbD a=true)(hc:∀i j:Nat,K.getLsbD i=true→(nb (i:Int)).getLsbD j=true→K.getLsbD j=true):∀i,(cpt nb a).getLsbD i=true→K.getLsbD i=true:=(kn (nb:=nb) ha).2.2 K hK hc
theorem tv (hs:∀i j:Nat,(nb (i:Int)).getLsbD j=true→(nb (j:Int)).getLsbD i=true){a b:Nat}(ha:a<1024)(h:(cpt nb a).getLsbD b=true):(cpt nb b).getLsbD a=true:=by
 have hb:b<1024:=aA h
 refine Classical.byContradiction fun hn=>?_
 have key:=gW (nb:=nb) ha (cpt nb a &&& ~~~cpt nb b) ((br _ _ _).2 ⟨dF ha,hn⟩) (fun i j hi hij=>by
  obtain⟨h1,h2⟩:=(br _ _ _).1 hi
  exact (br _ _ _).2 ⟨fB ha i j h1 hij,fun hh=>h2 (fB hb j i hh (hs i j hij))⟩) b h
 exact ((br _ _ _).1 key).2 (dF hb)
theorem kF (hs:∀i j:Nat,(nb (i:Int)).getLsbD j=true→(nb (j:Int)).getLsbD i=true){a b:Nat}(ha:a<1024)(h:(cpt nb a).getLsbD b=true):cpt nb b=cpt nb a:=by
 have hb:b<1024:=aA h
 exact cG fun i=>⟨gW hb _ h (fB ha) i,gW ha _ (tv hs ha h) (fB hb) i⟩
theorem a2q {S T:BS}{a:Nat}(ha:S.getLsbD a=true)(hmin:∀j,j<a→S.getLsbD j=false)(p:Nat→Bool)(hp:p a=true)(hT:∀v,p v=true→(T.getLsbD v=true↔S.getLsbD v=true∧v≠a)):(ai S).filter p=a::(ai T).filter p:=by
 refine nB _ _ ((cS S).filter _) (List.pairwise_cons.2 ⟨fun v hv=>?_,(cS T).filter _⟩) fun v=>?_
 ·obtain⟨h1,h2⟩:=List.mem_filter.1 hv
  obtain⟨h3,h4⟩:=(hT v h2).1 (aD.1 h1).2
  refine Classical.byContradiction fun hn=>?_
  have:=hmin v (by omega)
  rw[h3] at this;cases this
 ·rw[List.mem_cons,List.mem_filter,List.mem_filter]
  constructor
  ·rintro⟨h1,h2⟩
   by_cases hv:v=a
   ·exact .inl hv
   ·exact .inr ⟨aD.2 ⟨(aD.1 h1).1,(hT v h2).2 ⟨(aD.1 h1).2,hv⟩⟩,h2⟩
  ·rintro (rfl|⟨h1,h2⟩)
   ·exact⟨aD.2 ⟨aA ha,ha⟩,hp⟩
   ·exact⟨aD.2 ⟨(aD.1 h1).1,((hT v h2).1 (aD.1 h1).2).1⟩,h2⟩
theorem nD (hs:∀i j:Nat,(nb (i:Int)).getLsbD j=true→(nb (j:Int)).getLsbD i=true):∀(f:Nat) (left:BS),card left≤f→(∀i j:Nat,left.getLsbD i=true→(nb (i:Int)).getLsbD j=true→left.getLsbD j=true) →
  prF nb f left=((ai left).filter fun v=>decide (aN (cpt nb v)=some v)).map (cpt nb):=by
 intro f
 induction f with
 | zero=>
  intro left hc hcl
  have h0:ai left=[]:=List.eq_nil_iff_forall_not_mem.2 fun v hv=>by have:=jX (aD.1 hv).2;omega
  show ([]:List BS)=_
  generalize ai left=l at h0 ⊢
  rw[h0];rfl
 | succ f ih=>
  intro left hc hcl
  cases hm:aN left with
  | none=>
   have h0:ai left=[]:=List.eq_nil_iff_forall_not_mem.2 fun v hv=>by
    have h1:=(aD.1 hv).2
    rw[eJ.1 hm] at h1;exact aU _ h1
   rw[ni hm]
   generalize ai left=l at h0 ⊢
   rw[h0];rfl
  | some a=>
   obtain⟨ha,hal,hmin⟩:=fp.1 hm
   have hsub:∀i,(cpt nb a).getLsbD i=true→left.getLsbD i=true:=gW ha left hal hcl
   have hma:aN (cpt nb a)=some a:=fp.2 ⟨ha,dF ha,fun j hj=>by
    cases h:(cpt nb a).getLsbD j with
    | false=>rfl
    | true=>rw[← hmin j hj];exact (hsub j h).symm⟩
   rw[nj hm,ih (left &&& ~~~unL (lvB nb a))]
   ·obtain⟨p,hp⟩:=eqX (fun v=>decide (aN (cpt nb v)=some v):Nat→Bool)
    have hpa:p a=true:=by rw[hp];exact decide_eq_true hma
    have hpv:∀v,p v=true→aN (cpt nb v)=some v:=fun v h=>by rw[hp] at h;exact of_decide_eq_true h
    rw[← hp]
    rw[a2q (T:=left &&& ~~~unL (lvB nb a)) hal hmin p hpa fun v hv=>?_]
    ·rw[List.map_cons];rfl
    ·rw[br]
     refine and_congr_right fun hl=>⟨fun h e=>h (by rw[e];exact dF ha),fun h e=>h ?_⟩
     have h1:=hpv v hv
     rw[kF hs ha e,hma] at h1
     exact (Option.some.inj h1).symm
   ·have:=ei (S:=left &&& ~~~unL (lvB nb a)) (T:=left) (z:=a) (fun i hi=>((br _ _ _).1 hi).1) hal fun h=>((br _ _ _).1 h).2 (dF ha)
    omega
   ·intro i j hi hij
    obtain⟨h1,h2⟩:=(br _ _ _).1 hi
    exact (br _ _ _).2 ⟨hcl i j h1 hij,fun h=>h2 (fB ha j i h (hs i j hij))⟩
end
def ptF (g:GT):List (List Int):=((ai (vset g.1)).filter fun v=>decide (aN (cpt (nbA g) v)=some v)).map fun v=>elL (cpt (nbA g) v)
theorem iZ {g:GT}(G:Gr.Ok g):(prF (nbA g) (card (vset g.1)) (vset g.1)).map elL=ptF g:=by
 rw[nD (dT G) _ _ (Nat.le_refl _) fun i j _ hij=>eQ G i j hij,List.map_map,ptF,Function.comp_def]
section
variable {nb:Int→BS}
def dsT (nb:Int→BS)(b x:Nat):Int:=bO (lvB nb b) x
theorem a2r {a:Nat}(ha:a<1024)(i:Nat):(ins 0 (a:Int)).getLsbD i=true↔i=a:=by
 rw[bE _ ha]
 exact⟨fun h=>h.resolve_left (aU i),.inr⟩
theorem nE {b m:Nat}(hb:b<1024)(q:Nat→Nat)(h0:q 0=b)(hq:∀i,i<m→(nb (q i:Int)).getLsbD (q (i+1))=true):0≤dsT nb b (q m)∧dsT nb b (q m)≤m:=by
 obtain⟨k,T,h1,h2,h3⟩:=a1O hb q h0 m hq
 have:=sZ h2 h3
 rw[dsT];omega
theorem nF {b x k:Nat}(hb:b<1024)(h:dsT nb b x=(k:Int)):∃q:Nat→Nat,q 0=b∧q k=x∧∀i,i<k→(nb (q i:Int)).getLsbD (q (i+1))=true:=by
 obtain⟨T,h1,h2⟩:=nk h
 rw[lvB] at h1
 obtain⟨p,p1,p2,_,p4⟩:=a1K _ _ _ _ _ _ h1 h2
 exact⟨p,(a2r hb _).1 p1,p2,p4⟩
theorem nG (b x:Nat) : -1≤dsT nb b x:=kt _ _
theorem tw {b x k:Nat}:dsT nb b x=(k:Int)↔∃T,(lvB nb b)[k]?=some T∧T.getLsbD x=true:=by
 refine⟨nk,fun⟨T,h1,h2⟩=>?_⟩
 obtain⟨h3,h4⟩:=sZ h1 h2
 obtain⟨j,hj⟩:∃j:Nat,bO (lvB nb b) x=(j:Int):=⟨(bO (lvB nb b) x).toNat,by omega⟩
 obtain⟨U,h5,h6⟩:=nk hj
 rw[dsT,hj]
 by_cases hjk:j=k
 ·rw[hjk]
 ·rw[lvB] at h1 h5
  exact absurd h2 (a1M _ _ _ (fun i h=>h) j k x U T (by omega) h5 h1 h6)
section
theorem a2s {b x y:Nat}(hb:b<1024)(hx:0≤dsT nb b x)(h:(nb (x:Int)).getLsbD y=true):0≤dsT nb b y∧dsT nb b y≤dsT nb b x+1:=by
 obtain⟨k,hk⟩:∃k:Nat,dsT nb b x=(k:Int):=⟨(dsT nb b x).toNat,by omega⟩
 obtain⟨q,q0,qk,hq⟩:=nF hb hk
 have:=nE (nb:=nb) (m:=k+1) hb (fun i=>if i=k+1 then y else q i) (by simpa using q0) fun i hi=>by
  by_cases hik:i=k
  ·subst hik;simp[qk,h]
  ·have h1:¬i=k+1:=by omega
   have h2:¬i+1=k+1:=by omega
   simp only[h1,h2,if_false]
   exact hq i (by omega)
 simp only[if_true] at this
 omega
theorem a2t (hs:∀i j:Nat,(nb (i:Int)).getLsbD j=true→(nb (j:Int)).getLsbD i=true){b x k:Nat}(hb:b<1024)(h:dsT nb b x=((k+1:Nat):Int)):∃y,(nb (x:Int)).getLsbD y=true∧dsT nb b y=(k:Int):=by
 obtain⟨q,q0,qk,hq⟩:=nF hb h
 have h1:=nE (nb:=nb) (m:=k) hb q q0 fun i hi=>hq i (by omega)
 have h2:=hq k (by omega)
 rw[qk] at h2
 have h3:=a2s hb h1.1 h2
 exact⟨q k,hs _ _ h2,by omega⟩
theorem nH (hs:∀i j:Nat,(nb (i:Int)).getLsbD j=true→(nb (j:Int)).getLsbD i=true){a b k:Nat}(ha:a<1024)(hb:b<1024)(h:dsT nb a b=(k:Int)):0≤dsT nb b a∧dsT nb b a≤k:=by
 obtain⟨q,q0,qk,hq⟩:=nF ha h
 have:=nE (nb:=nb) (m:=k) hb (fun i=>q (k - i)) (by simpa using qk) fun i hi=>by
  have h1:=hs _ _ (hq (k - i - 1) (by omega))
  rw[show k - i - 1+1=k - i by omega] at h1
  rw[show k - (i+1)=k - i - 1 by omega]
  exact h1
 simpa[q0] using this
theorem a2u (hs:∀i j:Nat,(nb (i:Int)).getLsbD j=true→(nb (j:Int)).getLsbD i=true){a b:Nat}(ha:a<1024)(hb:b<1024):dsT nb a b=dsT nb b a:=by
 have h1:=nG (nb:=nb) a b
 have h2:=nG (nb:=nb) b a
 by_cases h3:dsT nb a b = -1
 ·by_cases h4:dsT nb b a = -1
  ·rw[h3,h4]
  ·have:=nH hs hb ha (k:=(dsT nb b a).toNat) (by omega);omega
 ·have h5:=nH hs ha hb (k:=(dsT nb a b).toNat) (by omega)
  have h6:=nH hs hb ha (k:=(dsT nb b a).toNat) (by omega)
  omega
def geF (nb:Int→BS)(L:List BS):Nat→Nat→List Nat
 | 0,_=>[]
 | n+1,a=>(aN (nb (a:Int) &&& gs L n)).getD 0::geF nb L n ((aN (nb (a:Int) &&& gs L n)).getD 0)
theorem a2v (l:List Nat)(x:Nat):(l++[x]).getLastD 0=x:=by simp[List.getLastD_eq_getLast?]
end
end
theorem eo:∀(l m:List Int),l.Nodup→(∀x∈l,x∈m)→l.length≤m.length
 | [],m,_,_=>Nat.zero_le _
 | x::l,m,hn,hs=>by
  have hx:=hs x (List.mem_cons_self ..)
  have h1:=eo l (m.erase x) (List.nodup_cons.1 hn).2 fun y hy=>(List.mem_erase_of_ne (fun h=>(List.nodup_cons.1 hn).1 (by rw[← h];exact hy))).2 (hs y (List.mem_cons_of_mem _ hy))
  have h2:=List.length_erase_of_mem hx
  have h3:=List.length_pos_of_mem hx
  rw[List.length_cons];omega
def g2 (l:List (Int×Int))(i:Nat):Int×Int:=(l[i]?).getD (0,0)
theorem gX {l:List (Int×Int)}{i:Nat}(h:i<l.length):l[i]?=some (g2 l i):=by simp[g2,h]
theorem a2w {G:Nat→Prop}(l:List Int)(v:Value)(id:FuncId)(caps:Array Value)(p:Int→Bool)(W:World)(hen:Proofs.Enters Tryz.prog id)(h:(Dv (slE intE) G l).p v W)
  (hp:∀w x,x∈l→Ext W w→Calls Tryz.prog id (#[I x]++caps) w (Post (E (B (p x))) w)) (hl:l.length≤100000) :
  Calls Tryz.prog 105 #[v,.func (.func id) #[] caps] W (Post (E (I (cA (fun i=>p (gi l i)) l.length))) W):=by
 refine eN [v,.func (.func id) #[] caps] [Dv (slE intE) G l,E (.func (.func id) #[] caps)] Tryz.func105 Tryz.ntmps105 ?_ fun a hf=>?_
 rotate_left
 rotate_right
 ·exact arg2 h rfl
 have e:=Ext.rfl' W
 refine seq <| ac <| tA hf rfl fun a hf=>aa ?_
 refine seq <| seq ?_
 refine rgN 3 hf <| st (mv rfl) <| st (aI U35 (isR rfl)) <| st (mv rfl) <| en fun a w e' hf=>?_
 replace e:=e.tr e'
 refine aa ?_
 replace hf:=hf.keep [0,1,7,8]
 refine blk (aK (fun r0 a w=>∃(k:Nat) ,r0=l.length - k∧k≤l.length∧Fr 19 a w [(0,Dv (slE intE) G l),(1,E (.func (.func id) #[] caps)),(7,E (I (l.length:Nat))),(8,E (I k))]∧Ext W w∧∀i,i<k→p (gi l i)=false) l.length ⟨0,rfl,by omega,hf,e,(fun i hi=>by omega)⟩ ?_)
 rintro r0 a w ⟨k,rfl,hk,hf,e,Ho⟩
 refine seq <| rgN 1 hf <| st (lss rfl rfl) <| en fun a w e' hf=>?_
 replace e:=e.tr e'
 refine aa <| seq <| ifc hf rfl (fun hc=>aj ?_) (fun hc=>aH ?_)
 rotate_left
 rotate_left
 ·have hlt:=ltC hc
  replace hf:=hf.keep [0,1,7,8]
  refine seq <| blk <| seq <| rgN 1 hf <| st (mv rfl) <| en fun a w e' hf=>?_
  replace e:=e.tr e'
  refine tA hf rfl fun a hf=>aa ?_
  have hm:=List.mem_of_getElem? (cF hlt)
  refine seq <| rgN 6 hf <| st (mv rfl) <| st (mv rfl) <| st (mv rfl) <| st (aG U35 S3 (isR rfl) rfl (by omega) (cF hlt)) <| st (ldI T3 (isR rfl)) <| st (ij hen rfl rfl (fun v w he h=>by cases h;exact hp w _ hm (e.tr he))) ?_
  refine en fun a w e' hf=>?_
  replace e:=e.tr e'
  refine aa <| ifc hf rfl (fun hb=>?_) (fun hb=>?_)
  ·refine seq <| rgN 1 hf <| st (mv rfl) <| en fun a w e' hf=>?_
   replace e:=e.tr e'
   refine tA hf rfl fun a hf=>aa <| ak <| an rfl hf rfl ?_
   rintro _ rfl
   exact⟨_,rfl,e,congrArg I (fR hlt Ho hb).symm⟩
  ·refine aj <| rgN 1 hf <| st ((add rfl rfl (by omega)).eq (iN k)) <| en fun a w e' hf=>?_
   replace e:=e.tr e'
   refine tP hf (mv rfl) fun a w e' hf=>?_
   replace e:=e.tr e'
   refine aa ?_
   replace hf:=hf.keep [0,1,7,8]
   refine⟨_,?_,k+1,rfl,by omega,hf,e,?_⟩
   ·omega
   intro i hi
   by_cases hk:i=k
   ·subst hk;exact hb
   ·exact Ho i (by omega)
 ·obtain rfl:=dnE hc hk
  refine seq <| ac <| tA hf rfl fun a hf=>aa <| ak <| an rfl hf rfl ?_
  rintro _ rfl
  exact⟨_,rfl,e,congrArg I (fm Ho).symm⟩
def noW (w:World):World:={ w with heap := #[] }
theorem gY {U w:World}{S:Nat→Prop}(c:Chg S U w):Ext (noW U) w:=⟨c.os,c.tape,c.output,Nat.zero_le _,fun k hk=>absurd hk (Nat.not_lt_zero _)⟩
theorem tx {α:Type}{p:α→Bool}{l:List α}(h:∀x∈l,p x=false):(l.filter fun x => !p x)=l:=List.filter_eq_self.2 fun x hx=>by rw[h x hx];rfl
theorem a2x {α:Type}{p:α→Bool}{l:List α}{k:Nat}{x:α}(hx:l[k]?=some x)(h:∀y∈l.take k,p y=false)(hp:p x=true):((l.take (k+1)).filter fun x => !p x)=l.take k:=by
 rw[bA hx,List.filter_append,tx h]
 simp[hp]
theorem tC {α:Type}{p:α→Bool}{l:List α}{j:Nat}{x:α}(hx:l[j]?=some x):((l.take (j+1)).filter fun x => !p x)=((l.take j).filter fun x => !p x)++if p x=true then [] else [x]:=by
 rw[bA hx,List.filter_append,List.filter_cons,List.filter_nil]
 cases p x <;> rfl
theorem a2y {α:Type}{p:α→Bool}{l:List α}{k j:Nat}{x:α}(hx:l[k]?=some x)(hp:p x=true)(hkj:k<j):((l.take j).filter fun x => !p x).length<j:=by
 have h1:k+1≤j:=hkj
 have h2:l.take j=l.take (k+1)++(l.take j).drop (k+1):=by
  have:=List.take_append_drop (k+1) (l.take j)
  rw[List.take_take,Nat.min_eq_left h1] at this
  exact this.symm
 rw[h2,List.filter_append,List.length_append,bA hx,List.filter_append,List.length_append]
 have h3:=List.length_filter_le (fun x => !p x) (l.take k)
 have h4:=List.length_take_le k l
 have h5:=List.length_filter_le (fun x => !p x) ((l.take j).drop (k+1))
 have h6:((l.take j).drop (k+1)).length≤j - (k+1):=by rw[List.length_drop];have:=List.length_take_le j l;omega
 have h7:([x].filter fun x => !p x).length=0:=by simp[hp]
 omega
end Go.Mono
namespace Go.Mono
open Go Go.Proofs Go.RowKit
open Go.ChangeMaps (setBlock)
section
variable {P:Program}{α β:Type}{V:KV P α β}{w:World}{b n:Nat}{l:List (α×β)}
open Go.WideElems (findIdx_arr findIdx_born modify_last)
end
section tail
variable {P:Program}{L:Env}{ty ty2:TypeId}{pos pos2 pos3:String}{aft aft2 aft3:Array Edge}{r:Option Nat}{ds:List Deferred}
variable {ops:Array Oper}{rest:List Oper}{Q:Exit→Act→World→Prop}{n:Nat}{a:Act}{w:World}{x y z x2:Operand}{α β:Type}[DecidableEq α]
end tail
section ops
variable {P:Program}{w0:World}{L:Env}{ty:TypeId}{pos:String}{aft:Array Edge}{x y s:Operand}{t b n:Nat}
variable {α β:Type}[DecidableEq α]{V:KV P α β}{l:List (α×β)}{i:α}{c:β}
theorem a2z {w w':World}{b:Nat}(h:w.grownBy w' (some b)):Chg (fun d=>d=b) w w':=⟨h.os,h.tape,h.output,h.size,fun k hk hn=>h.block k hk fun hh=>hn (by cases hh;rfl)⟩
end ops
end Go.Mono
namespace Go.Mono
open Go Go.Proofs Go.RowKit Go.Gr
theorem gZ:∀x,(edF x).length=2:=fun _=>rfl
theorem hY:∀x,(intF x).length=1:=fun _=>rfl
def kp {α:Type}(l:List α)(p:Nat→Bool):Nat→List α
 | 0=>[]
 | j+1=>kp l p j++if p j=true then [] else (l[j]?).toList
theorem kG {α:Type}{l:List α}{p:Nat→Bool}{j:Nat}{x:α}(hx:l[j]?=some x):kp l p (j+1)=kp l p j++if p j=true then [] else [x]:=by rw[kp,hx];rfl
theorem tD {α:Type}(l:List α)(p:Nat→Bool):∀j,(kp l p j).length≤j
 | 0=>Nat.le_refl _
 | j+1=>by
  have h:=tD l p j
  rw[kp,List.length_append]
  split
  ·exact Nat.le_succ_of_le h
  ·cases l[j]? with
   | none=>exact Nat.le_succ_of_le h
   | some x=>exact Nat.succ_le_succ h
theorem nI {α:Type}{l:List α}{p:Nat→Bool}:∀{k:Nat},k≤l.length→(∀i,i<k→p i=false)→kp l p k=l.take k
 | 0,_,_=>rfl
 | k+1,h,hp=>by
  have hx:=List.getElem?_eq_getElem (show k<l.length by omega)
  rw[kG hx,nI (by omega) (fun i hi=>hp i (by omega)),if_neg (by rw[hp k (by omega)];decide),bA hx]
theorem tE {α:Type}{l:List α}{p:Nat→Bool}{k:Nat}(hk:p k=true):∀{j:Nat},k<j→(kp l p j).length<j
 | 0,h=>by omega
 | j+1,h=>by
  by_cases h1:k=j
  ·subst h1
   rw[kp,if_pos hk,List.append_nil]
   exact Nat.lt_succ_of_le (tD l p _)
  ·have h2:=tE (l:=l) hk (show k<j by omega)
   rw[kp,List.length_append]
   split
   ·exact Nat.lt_succ_of_lt h2
   ·cases l[j]? with
    | none=>exact Nat.lt_succ_of_lt h2
    | some x=>exact Nat.succ_lt_succ h2
theorem tF {l:List (Int×Int)}{p:Int×Int→Bool}:∀k,k≤l.length→kp l (fun i=>p (g2 l i)) k=(l.take k).filter fun x => !p x
 | 0,_=>rfl
 | k+1,h=>by rw[kG (gX (by omega)),tF k (by omega),tC (gX (by omega))]
def stp (p:Nat→Bool)(n:Nat):Nat:=if cA p n = -1 then n else (cA p n).toNat+1
theorem tG {p:Nat→Bool}{k n:Nat}(hk:k<n)(h1:∀i,i<k→p i=false)(h2:p k=true):stp p n=k+1:=by
 rw[stp,fR hk h1 h2,if_neg (by omega),Int.toNat_natCast]
theorem tH {p:Nat→Bool}{n:Nat}(h:∀i,i<n→p i=false):stp p n=n:=by rw[stp,fm h,if_pos rfl]
def StC (P:Program)(id:FuncId)(caps:Array Value)(T:Nat→Prop)(l:List (Int×Int))(p:Nat→Bool)(J:Nat→World→Prop):Prop:=
 ∀k x w,l[k]?=some x→J k w→Calls P id (#[edV x]++caps) w (fun en w'=>∃u,en=.returned u∧Chg T w w'∧(E (B (p k))).p u w'∧J (k+1) w')
theorem a2A {T:Nat→Prop}(l:List (Int×Int))(v:Value)(id:FuncId)(caps:Array Value)(p:Nat→Bool)(J:Nat→World→Prop)(U:World)(hen:Proofs.Enters Tryz.prog id)(h:(Dv (slE edE) T l).p v U)
  (hJe:∀k w w',J k w→Ext w w'→J k w') (hp:StC Tryz.prog id caps T l p J) (HJ:J 0 U) (hl:l.length≤100000) :
  Calls Tryz.prog 100 #[v,.func (.func id) #[] caps] U (fun en w'=>∃u,en=.returned u∧Chg T U w'∧(E (I (cA p l.length))).p u w'∧J (stp p l.length) w'):=by
 haveI:InS T T:=⟨fun _ h=>h⟩
 have Hw:Chg T U U:=Chg.rfl' _ _
 obtain⟨W,hW⟩:=eqX (noW U)
 have e:Ext W U:=by rw[hW];exact gY Hw
 obtain⟨w,hwU⟩:=eqX U
 have goal:Calls Tryz.prog 100 #[v,.func (.func id) #[] caps] w (fun en w'=>∃u,en=.returned u∧Chg T U w'∧(E (I (cA p l.length))).p u w'∧J (stp p l.length) w'):=by
  replace Hw:Chg T U w:=by rw[hwU];exact Hw
  replace e:Ext W w:=by rw[hwU];exact e
  replace HJ:J 0 w:=by rw[hwU];exact HJ
  replace h:(Dv (slE edE) T l).p v w:=by rw[hwU];exact h
  refine eN [v,.func (.func id) #[] caps] [Dv (slE edE) T l,E (.func (.func id) #[] caps)] Tryz.func100 Tryz.ntmps100 ?_ fun a hf=>?_
  rotate_left
  rotate_right
  ·exact arg2 h rfl
  refine seq <| ac <| tA hf rfl fun a hf=>aa ?_
  refine seq <| seq ?_
  refine rgN 3 hf <| st (mv rfl) <| st (aI U31 (isR rfl)) <| st (mv rfl) <| en fun a w e' hf=>?_
  replace Hw:=Hw.ext e'
  replace HJ:=hJe _ _ _ HJ e'
  replace e:=e.tr e'
  refine aa ?_
  replace hf:=hf.keep [0,1,7,8]
  refine blk (aK (fun r0 a w=>∃(k:Nat) ,r0=l.length - k∧k≤l.length∧Fr 19 a w [(0,Dv (slE edE) T l),(1,E (.func (.func id) #[] caps)),(7,E (I (l.length:Nat))),(8,E (I k))]∧Ext W w∧(∀i,i<k→p i=false)∧Chg T U w∧J k w) l.length ⟨0,rfl,by omega,hf,e,⟨fun i hi=>by omega,Hw,HJ⟩⟩ ?_)
  rintro r0 a w ⟨k,rfl,hk,hf,e,Ho,Hw,HJ⟩
  refine seq <| rgN 1 hf <| st (lss rfl rfl) <| en fun a w e' hf=>?_
  replace Hw:=Hw.ext e'
  replace HJ:=hJe _ _ _ HJ e'
  replace e:=e.tr e'
  refine aa <| seq <| ifc hf rfl (fun hc=>aj ?_) (fun hc=>aH ?_)
  rotate_left
  rotate_left
  ·have hlt:=ltC hc
   replace hf:=hf.kp [0,1,7,8]
   refine seq <| blk <| seq <| rgN 1 hf <| st (mv rfl) <| en fun a w e' hf=>?_
   replace Hw:=Hw.ext e'
   replace HJ:=hJe _ _ _ HJ e'
   replace e:=e.tr e'
   refine tA hf rfl fun a hf=>aa <| seq <| rgN 5 hf <| st (mv rfl) <| st (mv rfl) <| st (mv rfl) <| st (aG U31 S60 (isR rfl) rfl (by omega) (gX hlt)) <| st (kx T60 (isR rfl)) <| en fun a w e' hf=>?_
   replace Hw:=Hw.ext e'
   replace HJ:=hJe _ _ _ HJ e'
   replace e:=e.tr e'
   refine il (S:=T) (F:=J (k+1)) (A:=E (B (p k))) hf (by decide) hen (hfo:=by exact rfl) ?_ fun a w hc HF hf=>?_
   ·have e15:a.eval (.tmp 15)=edV (g2 l k):=hf.opd (.tmp 15) _ rfl
    simp only[List.map_toArray,List.map_cons,List.map_nil,e15]
    exact hp k _ w (gX hlt) HJ
   replace Hw:=Hw.tr hc
   replace e:Ext W w:=by rw[hW];exact gY Hw
   have HJ:=HF
   refine aa <| ifc hf rfl (fun hb=>?_) (fun hb=>?_)
   ·refine seq <| rgN 1 hf <| st (mv rfl) <| en fun a w e' hf=>?_
    replace Hw:=Hw.ext e'
    replace HJ:=hJe _ _ _ HJ e'
    replace e:=e.tr e'
    refine tA hf rfl fun a hf=>aa <| ak ?_
    simp only[Exit.then,Exit.inBlock]
    refine an rfl hf rfl ?_
    rintro _ rfl
    exact⟨_,rfl,Hw,congrArg I (fR hlt Ho hb).symm,by rw[tG hlt Ho hb];exact HJ⟩
   ·refine aj <| rgN 1 hf <| st ((add rfl rfl (by omega)).eq (iN k)) <| en fun a w e' hf=>?_
    replace Hw:=Hw.ext e'
    replace HJ:=hJe _ _ _ HJ e'
    replace e:=e.tr e'
    refine tP hf (mv rfl) fun a w e' hf=>?_
    replace Hw:=Hw.ext e'
    replace HJ:=hJe _ _ _ HJ e'
    replace e:=e.tr e'
    refine aa ?_
    replace hf:=hf.keep [0,1,7,8]
    refine⟨_,?_,k+1,rfl,by omega,hf,e,?_⟩
    ·omega
    exact⟨fun i hi=>by
     by_cases hk:i=k
     ·subst hk;exact hb
     ·exact Ho i (by omega),Hw,HJ⟩
  ·obtain rfl:=dnE hc hk
   refine seq <| ac <| tA hf rfl fun a hf=>aa <| ak <| an rfl hf rfl ?_
   rintro _ rfl
   exact⟨_,rfl,Hw,congrArg I (fm Ho).symm,by rw[tH Ho];exact HJ⟩
 rw[hwU] at goal
 exact goal
theorem a2B {T:Nat→Prop}(l:List (Int×Int))(v:Value)(id:FuncId)(caps:Array Value)(p:Nat→Bool)(J:Nat→World→Prop)(N:Nat)(U:World)(hen:Proofs.Enters Tryz.prog id)(Ho:OwR edE 60 N G0 U l v)(hl:l.length≤100000)
  (hT:∀b,v.ownBlock=some b→¬T b) (hTU:∀b,T b→b<U.heap.size) (hJe:∀k w w',J k w→Ext w w'→J k w') (hJo:∀k w w',J k w→Chg (fun b=>v.ownBlock=some b) w w'→J k w') (hp:StC Tryz.prog id caps T l p J) (HJ:J 0 U) :
  Calls Tryz.prog 47 #[v,.func (.func id) #[] caps] U fun en w'=>∃u,en=.returned u∧Chg (fun b=>v.ownBlock=some b∨T b) U w'∧OwR edE 60 N G0 w' (kp l p l.length) u∧J l.length w':=by
 obtain⟨S,hS⟩:∃S:Nat→Prop,S=fun b=>v.ownBlock=some b∨T b:=⟨_,rfl⟩
 rw[← hS]
 have hTS:∀b,T b→S b:=fun b hb=>by rw[hS];exact .inr hb
 have Hc:Chg S U U:=Chg.rfl' _ _
 obtain⟨W,hW⟩:=eqX (noW U)
 have hW0:W.heap.size=0:=by rw[hW];rfl
 have e:Ext W U:=by rw[hW];exact gY Hc
 obtain⟨w,hwU⟩:=eqX U
 have goal:Calls Tryz.prog 47 #[v,.func (.func id) #[] caps] w fun en w'=>∃u,en=.returned u∧Chg S U w'∧OwR edE 60 N G0 w' (kp l p l.length) u∧J l.length w':=by
  have Hw:Chg S U w:=by rw[hwU];exact Hc
  have e:Ext W w:=by rw[hwU];exact e
  replace Ho:OwR edE 60 N G0 w l v:=by rw[hwU];exact Ho
  replace HJ:J 0 w:=by rw[hwU];exact HJ
  refine eN [v,.func (.func id) #[] caps] [E v,E (.func (.func id) #[] caps)] Tryz.func47 Tryz.ntmps47 ?_ fun a hf=>?_
  ·exact arg2 rfl rfl
  dsimp only[params,Nat.reduceAdd] at hf
  refine seq <| ac <| tA hf rfl fun a hf=>aa ?_
  obtain⟨i0,hi0⟩:=eqX (cA p l.length)
  refine seq <| rgN 2 hf <| st (mv rfl) <| st (mv rfl) <| en fun a w e' hf=>?_
  obtain⟨Hw,Ho⟩:=up2 e' Hw Ho
  replace HJ:=hJe _ _ _ HJ e'
  replace e:=e.tr e'
  refine vB (S:=T) (F:=J (stp p l.length)) (A:=E (I i0)) hf (by decide) wF ?_ fun a w hc HF hf=>?_
  ·have e8:a.eval (.tmp 8)=v:=hf.opd (.tmp 8) _ rfl
   have e9:a.eval (.tmp 9)=.func (.func id) #[] caps:=hf.opd (.tmp 9) _ rfl
   simp only[List.map_toArray,List.map_cons,List.map_nil,e8,e9]
   rw[hi0]
   exact a2A l v id caps p J w hen (OwR.slN Ho hT) hJe hp HJ hl
  replace Hw:=Hw.tr (hc.to fun b _ hb=>hTS b hb)
  replace Ho:=OwR.chE Ho hc hT
  replace e:Ext W w:=by rw[hW];exact gY Hw
  have HJ:=HF
  refine tA hf rfl fun a hf=>aa ?_
  replace hf:=hf.keep [0,1,5]
  rcases iU p l.length with ⟨h1,h2⟩|⟨k,hk,h1,h2,h3⟩
  ·rw[← hi0] at h1
   subst h1
   refine seq <| seq ?_
   refine rgN 2 hf <| st (mv rfl) <| st ((eql rfl rfl).eq (congrArg Value.bool (show ((-1:Int) == -1)=true from rfl))) <| en fun a w e' hf=>?_
   obtain⟨Hw,Ho⟩:=up2 e' Hw Ho
   replace HJ:=hJe _ _ _ HJ e'
   replace e:=e.tr e'
   refine aa <| ifT hf rfl ?_
   refine seq <| rgN 1 hf <| st (mv rfl) <| en fun a w e' hf=>?_
   obtain⟨Hw,Ho⟩:=up2 e' Hw Ho
   replace HJ:=hJe _ _ _ HJ e'
   replace e:=e.tr e'
   refine tA hf rfl fun a hf=>aa <| ak ?_
   simp only[Exit.then,Exit.inBlock]
   refine an rfl hf rfl ?_
   rintro _ rfl
   rw[tH h2] at HJ
   rw[nI (Nat.le_refl _) h2,List.take_length]
   exact⟨_,rfl,Hw,Ho,HJ⟩
  ·rw[← hi0] at h1
   subst h1
   have hxk:l[k]?=some (g2 l k):=gX hk
   rw[tG hk h3 h2] at HJ
   have hk1:(((k:Nat):Int) == -1)=false:=beq_eq_false_iff_ne.2 (by omega)
   rcases Ho.rw mA with ⟨_,h0⟩|⟨b,cap,cur0,hv,hcap,HR,ht0⟩
   ·rw[h0] at hk;exact absurd hk (Nat.not_lt_zero _)
   have hSb:S b:=by rw[hS,hv];exact .inl rfl
   have hTb:¬T b:=hT b (by rw[hv];rfl)
   replace hJo:∀k w w',J k w→w.grownBy w' (some b)→J k w':=fun k w w' h1 hg=>hJo k w w' h1 ((a2z hg).to fun c _ hc=>by rw[hc,hv];rfl)
   have hflen:=mA.flen l
   subst hv
   replace ht0:cur0.toList.take (l.length * 2)=l.flatMap edF:=ht0
   replace HR:RwR 2 60 N cap b cur0 w:=HR
   refine seq <| seq ?_
   refine rgN 2 hf <| st (mv rfl) <| st ((eql rfl rfl).eq (congrArg Value.bool (hk1))) <| en fun a w e' hf=>?_
   obtain⟨Hw,HR⟩:=up2 e' Hw HR
   replace HJ:=hJe _ _ _ HJ e'
   replace e:=e.tr e'
   refine aa <| ifF hf rfl ?_
   refine aj ?_
   refine seq <| seq ?_
   refine rgN 2 hf <| st (mv rfl) <| st ((add rfl rfl (by omega)).eq (iN k)) <| en fun a w e' hf=>?_
   obtain⟨Hw,HR⟩:=up2 e' Hw HR
   replace HJ:=hJe _ _ _ HJ e'
   replace e:=e.tr e'
   refine tA hf rfl fun a hf=>aa ?_
   replace hf:=hf.keep [0,1,5,6]
   have hkj:=Nat.lt_succ_self k
   have hfu:kp l p (k+1)=l.take k:=by rw[kG hxk,nI (by omega) h3,if_pos h2,List.append_nil]
   have hlk:(l.take k).length=k:=by rw[List.length_take];omega
   have hd0:(cur0.toList.drop ((k+1) * 2)).take ((l.length - (k+1)) * 2)=(l.drop (k+1)).flatMap edF:=by
    have:=congrArg (List.drop ((k+1) * 2)) ht0
    rw[jS gZ,List.drop_take] at this
    rw[Nat.sub_mul];exact this
   have ht1:cur0.toList.take ((kp l p (k+1)).length * 2)=(kp l p (k+1)).flatMap edF:=by
    rw[hfu,hlk]
    have:=congrArg (List.take (k * 2)) ht0
    rw[jR gZ,List.take_take,Nat.min_eq_left (Nat.mul_le_mul_right _ (Nat.le_of_lt hk))] at this
    exact this
   have hfk:(k:Int)=(((kp l p (k+1)).length:Nat):Int):=by rw[hfu,hlk]
   rw[hfk] at hf
   refine blk (aK (fun r0 a w=>∃(j:Nat) (cur:Array Value),r0=l.length - j∧k<j∧j≤l.length∧Fr 42 a w [(0,E (.slice (some ⟨b,0,none⟩) l.length cap)),(1,E (.func (.func id) #[] caps)),(5,E (I (((kp l p j).length:Nat)))),(6,E (I (j:Nat)))]∧Ext W w∧Chg S U w∧J j w∧RwR 2 60 N cap b cur w ∧
    cur.toList.take ((kp l p j).length * 2)=(kp l p j).flatMap edF∧(cur.toList.drop (j * 2)).take ((l.length - j) * 2)=(l.drop j).flatMap edF) (l.length - (k+1)) ⟨k+1,cur0,rfl,hkj,hk,hf,e,Hw,HJ,HR,ht1,hd0⟩ ?_)
   rintro r0 a w ⟨j,cur,rfl,hkj,hjl,hf,e,Hw,HJ,HR,ht,hd⟩
   have hfl:=tE (l:=l) h2 hkj
   obtain⟨ys,hys⟩:=eqX (kp l p j)
   rw[← hys] at ht hfl hf
   refine seq <| seq ?_
   refine rgN 4 hf <| st (mv rfl) <| st (mv rfl) <| st (gB U31 rfl) <| st (lss rfl rfl) <| en fun a w e' hf=>?_
   obtain⟨Hw,HR⟩:=up2 e' Hw HR
   replace HJ:=hJe _ _ _ HJ e'
   replace e:=e.tr e'
   refine aa <| ifc hf rfl (fun hc=>aj ?_) (fun hc=>aH ?_)
   ·have hlt:j<l.length:=by have:=of_decide_eq_true hc;omega
    have hx:=gX hlt
    generalize g2 l j=x at hx
    have hm:=List.mem_of_getElem? hx
    have hfs:=kG (p:=p) hx
    rw[← hys] at hfs
    have hcx:=qQ gZ hd hx (by omega)
    have hdn:(cur.toList.drop ((j+1) * 2)).take ((l.length - (j+1)) * 2)=(l.drop (j+1)).flatMap edF:=qR gZ (m:=l.length - (j+1)) (by rw[show l.length - (j+1)+1=l.length - j by omega];exact hd)
    have hszc:(j+1) * 2≤cur.size:=by rw[HR.sz];exact Nat.mul_le_mul_right _ (by omega)
    refine seq <| blk ?_
    have hcx2:Value.agg (cur.extract (j * 2) (j * 2+2))=edV x:=by
     rw[edV]
     refine congrArg Value.agg (Array.ext' ?_)
     rw[Array.toList_extract,List.extract_eq_take_drop,show j * 2+2 - j * 2=2 by omega]
     exact hcx
    obtain⟨N5,hN5⟩:=eqX w.heap.size
    have hN5s:N5≤w.heap.size:=Nat.le_of_eq hN5
    have hU5:U.heap.size≤N5:=by rw[hN5];exact Hw.size
    have hb5:b<N5:=by rw[hN5];exact HR.bl.lt
    have eb:=Ext.rfl' w
    obtain⟨w5,hw5⟩:=eqX w
    rw[← hw5] at HJ
    have hN5w:w5.heap.size=N5:=by rw[hw5,hN5]
    replace eb:Ext w5 w:=by rw[hw5];exact Ext.rfl' _
    refine seq <| ac <| tP hf (mv rfl) fun a w e' hf=>?_
    obtain⟨Hw,HR,hN5s,eb,e⟩:=up5 e' Hw HR hN5s eb e
    refine tP hf (mv rfl) fun a w e' hf=>?_
    obtain⟨Hw,HR,hN5s,eb,e⟩:=up5 e' Hw HR hN5s eb e
    refine tP hf ((idxS U31 S60 rfl rfl (by omega)).eq ((by rw[Int.toNat_natCast,Nat.zero_add]:Value.pointer (some ⟨b,0+((j:Nat):Int).toNat * 2,none⟩)=Value.pointer (some ⟨b,j * 2,none⟩)))) fun a w e' hf=>?_
    obtain⟨Hw,HR,hN5s,eb,e⟩:=up5 e' Hw HR hN5s eb e
    refine tP hf ((ldP T60 rfl HR.bl (by omega)).eq (hcx2)) fun a w e' hf=>?_
    obtain⟨Hw,HR,hN5s,eb,e⟩:=up5 e' Hw HR hN5s eb e
    refine tL I60 hf fun a b7 w e' hb7 hs7 B7 hf=>?_
    have lo7_hN5s:=Nat.le_trans hN5s (Nat.le_of_eq hb7.symm)
    obtain⟨Hw,HR,hN5s,eb,e⟩:=up5 e' Hw HR hN5s eb e
    have n7:N5≤b7:=lo7_hN5s
    have nb7:b≠b7:=by omega
    refine aF T60 hf rfl rfl (bK rfl rfl) B7 rfl rfl fun w hg hsz B7 hf=>?_
    replace e:=e.gr hg (by omega);replace Hw:=Hw.gr hg (.inr (by omega));replace HR:=HR.gr hg (by omega);replace eb:=eb.gr hg (by omega);clear hg
    replace HJ:=hJe _ _ _ HJ eb
    refine aa ?_
    replace B7:Blk w b7 #[I x.1,I x.2] 60:=B7
    replace hf:=hf.kp [0,1,5,6,7]
    refine seq <| rgN 2 hf <| st (mv rfl) <| st ((ldW T60 rfl B7 rfl).eq ((rfl:_=edV x))) <| en fun a w e' hf=>?_
    obtain⟨Hw,HR⟩:=up2 e' Hw HR
    replace HJ:=hJe _ _ _ HJ e'
    obtain⟨e,B7⟩:=up2 e' e B7
    refine il (S:=T) (F:=J (j+1)) (A:=E (B (p j))) hf (by decide) hen (hfo:=by exact rfl) ?_ fun a w hc HF hf=>?_
    ·have e27:a.eval (.tmp 27)=edV x:=hf.opd (.tmp 27) _ rfl
     simp only[List.map_toArray,List.map_cons,List.map_nil,e27]
     exact hp j _ w hx HJ
    have hT7:¬T b7:=fun h=>by have:=hTU b7 h;omega
    replace Hw:=Hw.tr (hc.to fun b _ hb=>hTS b hb)
    replace e:Ext W w:=by rw[hW];exact gY Hw
    replace HR:RwR 2 60 N cap b cur w:=⟨HR.bl.ch hc hTb,HR.lo,HR.sz,HR.mx⟩
    replace B7:=B7.ch hc hT7
    have HJ:=HF
    refine tP hf (aZ rfl) fun a w e' hf=>?_
    obtain⟨Hw,HR⟩:=up2 e' Hw HR
    replace HJ:=hJe _ _ _ HJ e'
    obtain⟨e,B7⟩:=up2 e' e B7
    refine aa ?_
    replace hf:=hf.kp [0,1,5,6,7,29]
    by_cases hpx:p j=true
    ·rw[if_pos hpx,List.append_nil] at hfs
     refine ifc hf rfl (fun h=>by rw[hpx] at h;cases h) (fun _=>?_)
     refine aj ?_
     rw[← hfs] at ht hf
     replace hf:=hf.kp [0,1,5,6]
     refine rgN 2 hf <| st (mv rfl) <| st ((add rfl rfl (by omega)).eq (iN j)) <| en fun a w e' hf=>?_
     obtain⟨Hw,HR⟩:=up2 e' Hw HR
     replace HJ:=hJe _ _ _ HJ e'
     obtain⟨e,B7⟩:=up2 e' e B7
     refine tA hf rfl fun a hf=>aa ?_
     replace hf:=hf.keep [0,1,5,6]
     exact⟨l.length - (j+1),by omega,j+1,cur,rfl,by omega,hlt,hf,e,Hw,HJ,HR,ht,hdn⟩
    ·rw[if_neg hpx] at hfs
     refine ifc hf rfl (fun _=>?_) (fun h=>absurd (by simpa using h) hpx)
     have hys1:ys.length+1≤j:=hfl
     have hszy:(ys.length+1) * 2≤cur.size:=Nat.le_trans (Nat.mul_le_mul_right _ (by omega)) hszc
     refine seq <| rgN 4 hf <| st (mv rfl) <| st (mv rfl) <| st ((ldW T60 rfl B7 rfl).eq ((rfl:_=edV x))) <| st ((idxS U31 S60 rfl rfl (by omega)).eq ((by rw[Int.toNat_natCast,Nat.zero_add]:Value.pointer (some ⟨b,0+((ys.length:Nat):Int).toNat * 2,none⟩)=Value.pointer (some ⟨b,ys.length * 2,none⟩)))) <| en fun a w e' hf=>?_
     obtain⟨Hw,HR⟩:=up2 e' Hw HR
     replace HJ:=hJe _ _ _ HJ e'
     obtain⟨e,B7⟩:=up2 e' e B7
     refine qv T60 hf rfl rfl (bK rfl rfl) HR.bl rfl (by omega) fun w hg hsz hB hf=>?_
     replace e:=e.gr hg (by omega);replace Hw:=Hw.gr hg (.inl hSb);replace HJ:=hJo _ _ _ HJ hg;clear hg
     have ht2:=qS (x:=x) gZ ht (by rw[Array.length_toList];exact hszy)
     have hdd:=qT (x:=x) gZ (cur:=cur.toList) (i:=ys.length) (j:=j+1) (by rw[Array.length_toList];exact hszy) (by omega)
     have HR2:RwR 2 60 N cap b (cur.toList.take (ys.length * 2)++edF x++cur.toList.drop (ys.length * 2+2)).toArray w:=⟨hB,HR.lo,by
      have h5:=HR.sz
      have h6:(edF x).length=2:=rfl
      simp only[List.size_toArray,List.length_append,List.length_take,List.length_drop,h6,Array.length_toList]
      omega,HR.mx⟩
     have hdn2:=hdn
     rw[← hdd] at hdn2
     replace ht2:(cur.toList.take (ys.length * 2)++edF x++cur.toList.drop (ys.length * 2+2)).toArray.toList.take ((ys++[x]).length * 2)=(ys++[x]).flatMap edF:=by rw[List.length_append,List.length_singleton];exact ht2
     replace hdn2:((cur.toList.take (ys.length * 2)++edF x++cur.toList.drop (ys.length * 2+2)).toArray.toList.drop ((j+1) * 2)).take ((l.length - (j+1)) * 2)=(l.drop (j+1)).flatMap edF:=hdn2
     generalize (cur.toList.take (ys.length * 2)++edF x++cur.toList.drop (ys.length * 2+2)).toArray=cur2 at HR2 ht2 hdn2
     refine aa ?_
     replace hf:=hf.keep [0,1,5,6]
     refine rgN 2 hf <| st (mv rfl) <| st ((add rfl rfl (by omega)).eq (congrArg (Value.int .i64) (show ((ys.length:Nat):Int)+1=(((ys++[x]).length:Nat):Int) by simp))) <| en fun a w e' hf=>?_
     obtain⟨Hw,HR2⟩:=up2 e' Hw HR2
     replace HJ:=hJe _ _ _ HJ e'
     replace e:=e.tr e'
     refine tA hf rfl fun a hf=>aa ?_
     rw[← hfs] at ht2 hf
     replace hf:=hf.keep [0,1,5,6]
     refine rgN 2 hf <| st (mv rfl) <| st ((add rfl rfl (by omega)).eq (iN j)) <| en fun a w e' hf=>?_
     obtain⟨Hw,HR2⟩:=up2 e' Hw HR2
     replace HJ:=hJe _ _ _ HJ e'
     replace e:=e.tr e'
     refine tA hf rfl fun a hf=>aa ?_
     replace hf:=hf.keep [0,1,5,6]
     exact⟨l.length - (j+1),by omega,j+1,_,rfl,by omega,hlt,hf,e,Hw,HJ,HR2,ht2,hdn2⟩
   ·have hjl2:j=l.length:=by have:=of_decide_eq_false hc;omega
    subst hjl2
    rw[← hys]
    have hszc:ys.length * 2+(l.length - ys.length) * 2≤cur.size:=by rw[HR.sz,← Nat.add_mul];exact Nat.mul_le_mul_right _ (by omega)
    replace hf:=hf.kp [0,5]
    refine seq <| rgN 3 hf <| st (mv rfl) <| st (mv rfl) <| st ((qU U31 S60 rfl rfl (by omega) (by omega)).eq ((by rw[Nat.zero_add]:Value.slice (some ⟨b,0+ys.length * 2,none⟩) (l.length - ys.length) (cap - ys.length)=Value.slice (some ⟨b,ys.length * 2,none⟩) (l.length - ys.length) (cap - ys.length)))) <| en fun a w e' hf=>?_
    obtain⟨Hw,HR⟩:=up2 e' Hw HR
    replace HJ:=hJe _ _ _ HJ e'
    replace e:=e.tr e'
    refine qV U31 I60 (by intro v hv;simp[Value.cells] at hv;subst hv;rfl) (by decide) rfl hf rfl HR.bl (by omega) hszc (fun k hk=>by cases hk) fun a w zs hg hsz hzl hB hf=>?_
    replace e:=e.gr hg (by omega)
    replace Hw:=Hw.gr hg (.inl hSb)
    replace HJ:=hJo _ _ _ HJ hg
    refine aa ?_
    have HR2:RwR 2 60 N cap b (cur.toList.take (ys.length * 2)++zs++cur.toList.drop (ys.length * 2+(l.length - ys.length) * 2)).toArray w:=⟨hB,HR.lo,by
     have h5:=HR.sz
     simp only[List.size_toArray,List.length_append,List.length_take,List.length_drop,hzl,Array.length_toList]
     omega,HR.mx⟩
    have hfin:(cur.toList.take (ys.length * 2)++zs++cur.toList.drop (ys.length * 2+(l.length - ys.length) * 2)).toArray.toList.take (ys.length * 2)=ys.flatMap edF:=by
     rw[List.toList_toArray,List.append_assoc,List.take_append_of_le_length (by have h7:cur.toList.length=cur.size:=Array.length_toList;rw[List.length_take];omega),List.take_take,Nat.min_self];exact ht
    obtain⟨cur2,hcur2⟩:=eqX ((cur.toList.take (ys.length * 2)++zs++cur.toList.drop (ys.length * 2+(l.length - ys.length) * 2)).toArray)
    rw[← hcur2] at HR2 hfin
    replace hf:=hf.kp [0,5]
    refine seq <| rgN 3 hf <| st (mv rfl) <| st (mv rfl) <| st (mB U31 S60 rfl rfl (by omega)) <| en fun a w e' hf=>?_
    obtain⟨Hw,HR2⟩:=up2 e' Hw HR2
    replace HJ:=hJe _ _ _ HJ e'
    replace e:=e.tr e'
    refine tA hf rfl fun a hf=>aa <| ak <| an rfl hf rfl ?_
    rintro _ rfl
    exact⟨_,rfl,Hw,HR2.own mA (by omega) hfin (fun b hb=>hb.elim),HJ⟩
 rw[hwU] at goal
 exact goal
theorem a2C (l:List (Int×Int))(v:Value)(id:FuncId)(caps:Array Value)(p:Int×Int→Bool)(N:Nat)(U:World)(hen:Proofs.Enters Tryz.prog id)(Ho:OwR edE 60 N G0 U l v)(hl:l.length≤100000)
  (hp:∀w x,x∈l→Chg (fun b=>v.ownBlock=some b) U w→Calls Tryz.prog id (#[edV x]++caps) w (Post (E (B (p x))) w)) :
  Calls Tryz.prog 47 #[v,.func (.func id) #[] caps] U fun en w'=>∃u,en=.returned u∧Chg (fun b=>v.ownBlock=some b) U w'∧OwR edE 60 N G0 w' (l.filter fun x => !p x) u:=by
 have h:=a2B (T:=fun _=>False) l v id caps (fun i=>p (g2 l i)) (fun _ w=>Chg (fun b=>v.ownBlock=some b) U w) N U hen Ho hl (fun _ _ h=>h) (fun _ h=>h.elim) (fun _ _ _ h k=>h.ext k) (fun _ _ _ h k=>h.tr k) (fun k x w hx hJ=>by
  have hm:=List.mem_of_getElem? hx
  have hg:g2 l k=x:=by rw[g2,hx];rfl
  dsimp only
  rw[hg]
  exact (hp w x hm hJ).mono fun en w' ⟨u,h1,h2,h3⟩=>⟨u,h1,h2.chg _,h3,hJ.ext h2⟩) (Chg.rfl' _ _)
 rw[tF _ (Nat.le_refl _),List.take_length] at h
 exact h.mono fun en w' ⟨u,h1,_,h3,h4⟩=>⟨u,h1,h4,h3⟩
theorem a2D (l:List (Int))(v:Value)(id:FuncId)(caps:Array Value)(p:Int→Bool)(N:Nat)(U:World)(hen:Proofs.Enters Tryz.prog id)(Ho:OwR intE 3 N G0 U l v)(hl:l.length≤100000)
  (hp:∀w x,x∈l→Chg (fun b=>v.ownBlock=some b) U w→Calls Tryz.prog id (#[I x]++caps) w (Post (E (B (p x))) w)) :
  Calls Tryz.prog 55 #[v,.func (.func id) #[] caps] U fun en w'=>∃u,en=.returned u∧Chg (fun b=>v.ownBlock=some b) U w'∧OwR intE 3 N G0 w' (l.filter fun x => !p x) u:=by
 obtain⟨S,hS⟩:∃S:Nat→Prop,S=fun b=>v.ownBlock=some b:=⟨_,rfl⟩
 rw[← hS]
 replace hp:∀w x,x∈l→Chg S U w→Calls Tryz.prog id (#[I x]++caps) w (Post (E (B (p x))) w):=by rw[hS];exact hp
 have Hc:Chg S U U:=Chg.rfl' _ _
 obtain⟨W,hW⟩:=eqX (noW U)
 have hW0:W.heap.size=0:=by rw[hW];rfl
 have e:Ext W U:=by rw[hW];exact gY Hc
 obtain⟨w,hwU⟩:=eqX U
 have goal:Calls Tryz.prog 55 #[v,.func (.func id) #[] caps] w fun en w'=>∃u,en=.returned u∧Chg S U w'∧OwR intE 3 N G0 w' (l.filter fun x => !p x) u:=by
  have Hw:Chg S U w:=by rw[hwU];exact Hc
  have e:Ext W w:=by rw[hwU];exact e
  have Ho:OwR intE 3 N G0 w l v:=by rw[hwU];exact Ho
  refine eN [v,.func (.func id) #[] caps] [E v,E (.func (.func id) #[] caps)] Tryz.func55 Tryz.ntmps55 ?_ fun a hf=>?_
  ·exact arg2 rfl rfl
  refine seq <| ac <| tA hf rfl fun a hf=>aa ?_
  obtain⟨i0,hi0⟩:=eqX (cA (fun i=>p (gi l i)) l.length)
  have Hw1:=Hw
  have Ho1:=Ho
  refine seq <| rgN 3 hf <| st (mv rfl) <| st (mv rfl) <| st (ap (A:=E (I i0)) (B:=E v) (C:=E (.func (.func id) #[] caps)) wI rfl rfl (fun u u' w he k1 k2=>by cases k1;cases k2;rw[hi0];exact a2w l v id caps p w hen (Ho1.ext he).sl (fun w' x hx he'=>hp w' x hx ((Hw1.ext he).ext he')) hl)) ?_
  refine en fun a w e' hf=>?_
  obtain⟨Hw,Ho,e⟩:=up3 e' Hw Ho e
  refine tA hf rfl fun a hf=>aa ?_
  replace hf:=hf.keep [0,1,5]
  rcases iU (fun i=>p (gi l i)) l.length with ⟨h1,h2⟩|⟨k,hk,h1,h2,h3⟩
  ·rw[← hi0] at h1
   subst h1
   refine seq <| seq ?_
   refine rgN 2 hf <| st (mv rfl) <| st ((eql rfl rfl).eq (congrArg Value.bool (show ((-1:Int) == -1)=true from rfl))) <| en fun a w e' hf=>?_
   obtain⟨Hw,Ho,e⟩:=up3 e' Hw Ho e
   refine aa <| ifT hf rfl ?_
   refine seq <| rgN 1 hf <| st (mv rfl) <| en fun a w e' hf=>?_
   obtain⟨Hw,Ho,e⟩:=up3 e' Hw Ho e
   refine tA hf rfl fun a hf=>aa <| ak ?_
   simp only[Exit.then,Exit.inBlock]
   refine an rfl hf rfl ?_
   rintro _ rfl
   rw[tx fun x hx=>by
    obtain⟨i,hi,he⟩:=List.getElem_of_mem hx
    have h4:=cF hi
    rw[List.getElem?_eq_getElem hi,he] at h4
    rw[Option.some.inj h4]
    exact h2 i hi]
   exact⟨_,rfl,Hw,Ho⟩
  ·rw[← hi0] at h1
   subst h1
   have hxk:l[k]?=some (gi l k):=cF hk
   obtain⟨xk,hxk'⟩:∃xk,xk=gi l k:=⟨_,rfl⟩
   rw[← hxk'] at hxk
   replace h2:p xk=true:=by rw[hxk'];exact h2
   have h3':∀y∈l.take k,p y=false:=fun y hy=>by
    obtain⟨i,hi,he⟩:=List.getElem_of_mem hy
    rw[List.length_take] at hi
    have h4:l[i]?=some (gi l i):=cF (by omega)
    rw[List.getElem_take] at he
    rw[List.getElem?_eq_getElem (by omega),he] at h4
    rw[Option.some.inj h4]
    exact h3 i (by omega)
   have hk1:(((k:Nat):Int) == -1)=false:=beq_eq_false_iff_ne.2 (by omega)
   rcases Ho.rw intFF with ⟨_,h0⟩|⟨b,cap,cur0,hv,hcap,HR,ht0⟩
   ·rw[h0] at hk;exact absurd hk (Nat.not_lt_zero _)
   have hSb:S b:=by rw[hS,hv];rfl
   have hflen:=intFF.flen l
   subst hv
   replace ht0:cur0.toList.take (l.length * 1)=l.flatMap intF:=ht0
   replace HR:RwR 1 3 N cap b cur0 w:=HR
   refine seq <| seq ?_
   refine rgN 2 hf <| st (mv rfl) <| st ((eql rfl rfl).eq (congrArg Value.bool (hk1))) <| en fun a w e' hf=>?_
   obtain⟨Hw,HR,e⟩:=up3 e' Hw HR e
   refine aa <| ifF hf rfl ?_
   refine aj ?_
   refine seq <| seq ?_
   refine rgN 2 hf <| st (mv rfl) <| st ((add rfl rfl (by omega)).eq (iN k)) <| en fun a w e' hf=>?_
   obtain⟨Hw,HR,e⟩:=up3 e' Hw HR e
   refine tA hf rfl fun a hf=>aa ?_
   replace hf:=hf.keep [0,1,5,6]
   have hkj:=Nat.lt_succ_self k
   have hfu:=a2x hxk h3' h2
   have hlk:(l.take k).length=k:=by rw[List.length_take];omega
   have hd0:(cur0.toList.drop ((k+1) * 1)).take ((l.length - (k+1)) * 1)=(l.drop (k+1)).flatMap intF:=by
    have:=congrArg (List.drop ((k+1) * 1)) ht0
    rw[jS hY,List.drop_take] at this
    rw[Nat.sub_mul];exact this
   have ht1:cur0.toList.take (((l.take (k+1)).filter fun x => !p x).length * 1)=((l.take (k+1)).filter fun x => !p x).flatMap intF:=by
    rw[hfu,hlk]
    have:=congrArg (List.take (k * 1)) ht0
    rw[jR hY,List.take_take,Nat.min_eq_left (Nat.mul_le_mul_right _ (Nat.le_of_lt hk))] at this
    exact this
   have hfk:(k:Int)=((((l.take (k+1)).filter fun x => !p x).length:Nat):Int):=by rw[hfu,hlk]
   rw[hfk] at hf
   refine blk (aK (fun r0 a w=>∃(j:Nat) (cur:Array Value),r0=l.length - j∧k<j∧j≤l.length∧Fr 42 a w [(0,E (.slice (some ⟨b,0,none⟩) l.length cap)),(1,E (.func (.func id) #[] caps)),(5,E (I ((((l.take j).filter fun x => !p x).length:Nat)))),(6,E (I (j:Nat)))]∧Ext W w∧Chg S U w∧RwR 1 3 N cap b cur w ∧
    cur.toList.take (((l.take j).filter fun x => !p x).length * 1)=((l.take j).filter fun x => !p x).flatMap intF∧(cur.toList.drop (j * 1)).take ((l.length - j) * 1)=(l.drop j).flatMap intF) (l.length - (k+1)) ⟨k+1,cur0,rfl,hkj,hk,hf,e,Hw,HR,ht1,hd0⟩ ?_)
   rintro r0 a w ⟨j,cur,rfl,hkj,hjl,hf,e,Hw,HR,ht,hd⟩
   have hfl:=a2y (l:=l) hxk h2 hkj
   obtain⟨ys,hys⟩:=eqX ((l.take j).filter fun x => !p x)
   rw[← hys] at ht hfl hf
   refine seq <| seq ?_
   refine rgN 4 hf <| st (mv rfl) <| st (mv rfl) <| st (gB U35 rfl) <| st (lss rfl rfl) <| en fun a w e' hf=>?_
   obtain⟨Hw,HR,e⟩:=up3 e' Hw HR e
   refine aa <| ifc hf rfl (fun hc=>aj ?_) (fun hc=>aH ?_)
   ·have hlt:j<l.length:=by have:=of_decide_eq_true hc;omega
    have hx:=cF hlt
    generalize gi l j=x at hx
    have hm:=List.mem_of_getElem? hx
    have hfs:=tC (p:=p) hx
    rw[← hys] at hfs
    have hcx:=qQ hY hd hx (by omega)
    have hdn:(cur.toList.drop ((j+1) * 1)).take ((l.length - (j+1)) * 1)=(l.drop (j+1)).flatMap intF:=qR hY (m:=l.length - (j+1)) (by rw[show l.length - (j+1)+1=l.length - j by omega];exact hd)
    have hszc:(j+1) * 1≤cur.size:=by rw[HR.sz];exact Nat.mul_le_mul_right _ (by omega)
    refine seq <| blk ?_
    have hcx2:cur[j]?=some (I x):=by
     rw[← Array.getElem?_toList]
     have h5:((cur.toList.drop (j * 1)).take 1)[0]?=some (I x):=by rw[hcx];rfl
     rw[List.getElem?_take,if_pos Nat.zero_lt_one,List.getElem?_drop] at h5
     simpa using h5
    obtain⟨N5,hN5⟩:=eqX w.heap.size
    have hN5s:N5≤w.heap.size:=Nat.le_of_eq hN5
    have hU5:U.heap.size≤N5:=by rw[hN5];exact Hw.size
    have hb5:b<N5:=by rw[hN5];exact HR.bl.lt
    refine seq <| rgN 4 hf <| st (mv rfl) <| st (mv rfl) <| st ((idxS U35 S3 rfl rfl (by omega)).eq ((by rw[Int.toNat_natCast,Nat.zero_add,Nat.mul_one]:Value.pointer (some ⟨b,0+((j:Nat):Int).toNat * 1,none⟩)=Value.pointer (some ⟨b,j,none⟩)))) <| st (ld1 (v:=I x) T3 rfl HR.bl hcx2) <| en fun a w e' hf=>?_
    obtain⟨Hw,HR,hN5s,e⟩:=up4 e' Hw HR hN5s e
    refine tA hf rfl fun a hf=>aa ?_
    replace hf:=hf.keep [0,1,5,6,7]
    have Hw8:=Hw
    refine seq <| rgN 4 hf <| st (mv rfl) <| st (mv rfl) <| st (ij hen rfl rfl (fun v w he h=>by cases h;exact hp w x hm (Hw8.ext he))) ?_
    refine st (aZ rfl) <| en fun a w e' hf=>?_
    obtain⟨Hw,HR,e⟩:=up3 e' Hw HR e
    refine aa ?_
    replace hf:=hf.kp [0,1,5,6,7,29]
    by_cases hpx:p x=true
    ·rw[if_pos hpx,List.append_nil] at hfs
     refine ifc hf rfl (fun h=>by rw[hpx] at h;cases h) (fun _=>?_)
     refine aj ?_
     rw[← hfs] at ht hf
     replace hf:=hf.kp [0,1,5,6]
     refine rgN 2 hf <| st (mv rfl) <| st ((add rfl rfl (by omega)).eq (iN j)) <| en fun a w e' hf=>?_
     obtain⟨Hw,HR,e⟩:=up3 e' Hw HR e
     refine tA hf rfl fun a hf=>aa ?_
     replace hf:=hf.keep [0,1,5,6]
     exact⟨l.length - (j+1),by omega,j+1,cur,rfl,by omega,hlt,hf,e,Hw,HR,ht,hdn⟩
    ·rw[if_neg hpx] at hfs
     refine ifc hf rfl (fun _=>?_) (fun h=>absurd (by simpa using h) hpx)
     have hys1:ys.length+1≤j:=hfl
     have hszy:(ys.length+1) * 1≤cur.size:=Nat.le_trans (Nat.mul_le_mul_right _ (by omega)) hszc
     refine seq <| rgN 4 hf <| st (mv rfl) <| st (mv rfl) <| st (mv rfl) <| st ((idxS U35 S3 rfl rfl (by omega)).eq ((by rw[Int.toNat_natCast,Nat.zero_add]:Value.pointer (some ⟨b,0+((ys.length:Nat):Int).toNat * 1,none⟩)=Value.pointer (some ⟨b,ys.length * 1,none⟩)))) <| en fun a w e' hf=>?_
     obtain⟨Hw,HR,e⟩:=up3 e' Hw HR e
     refine aO T3 hf rfl rfl rfl HR.bl (by omega) fun w hg hsz hB hf=>?_
     replace e:=e.gr hg (by omega);replace Hw:=Hw.gr hg (.inl hSb);clear hg
     have hset:(cur.setIfInBounds (ys.length * 1) (I x))=(cur.toList.take (ys.length * 1)++intF x++cur.toList.drop (ys.length * 1+1)).toArray:=by
      apply Array.ext'
      rw[Array.toList_setIfInBounds,List.toList_toArray,List.set_eq_take_append_cons_drop,if_pos (by have h7:cur.toList.length=cur.size:=Array.length_toList;omega)]
      simp[intF]
     rw[hset] at hB
     have ht2:=qS (x:=x) hY ht (by rw[Array.length_toList];exact hszy)
     have hdd:=qT (x:=x) hY (cur:=cur.toList) (i:=ys.length) (j:=j+1) (by rw[Array.length_toList];exact hszy) (by omega)
     have HR2:RwR 1 3 N cap b (cur.toList.take (ys.length * 1)++intF x++cur.toList.drop (ys.length * 1+1)).toArray w:=⟨hB,HR.lo,by
      have h5:=HR.sz
      have h6:(intF x).length=1:=rfl
      simp only[List.size_toArray,List.length_append,List.length_take,List.length_drop,h6,Array.length_toList]
      omega,HR.mx⟩
     have hdn2:=hdn
     rw[← hdd] at hdn2
     replace ht2:(cur.toList.take (ys.length * 1)++intF x++cur.toList.drop (ys.length * 1+1)).toArray.toList.take ((ys++[x]).length * 1)=(ys++[x]).flatMap intF:=by rw[List.length_append,List.length_singleton];exact ht2
     replace hdn2:((cur.toList.take (ys.length * 1)++intF x++cur.toList.drop (ys.length * 1+1)).toArray.toList.drop ((j+1) * 1)).take ((l.length - (j+1)) * 1)=(l.drop (j+1)).flatMap intF:=hdn2
     generalize (cur.toList.take (ys.length * 1)++intF x++cur.toList.drop (ys.length * 1+1)).toArray=cur2 at HR2 ht2 hdn2
     refine aa ?_
     replace hf:=hf.keep [0,1,5,6]
     refine rgN 2 hf <| st (mv rfl) <| st ((add rfl rfl (by omega)).eq (congrArg (Value.int .i64) (show ((ys.length:Nat):Int)+1=(((ys++[x]).length:Nat):Int) by simp))) <| en fun a w e' hf=>?_
     obtain⟨Hw,HR2,e⟩:=up3 e' Hw HR2 e
     refine tA hf rfl fun a hf=>aa ?_
     rw[← hfs] at ht2 hf
     replace hf:=hf.keep [0,1,5,6]
     refine rgN 2 hf <| st (mv rfl) <| st ((add rfl rfl (by omega)).eq (iN j)) <| en fun a w e' hf=>?_
     obtain⟨Hw,HR2,e⟩:=up3 e' Hw HR2 e
     refine tA hf rfl fun a hf=>aa ?_
     replace hf:=hf.keep [0,1,5,6]
     exact⟨l.length - (j+1),by omega,j+1,_,rfl,by omega,hlt,hf,e,Hw,HR2,ht2,hdn2⟩
   ·have hjl2:j=l.length:=by have:=of_decide_eq_false hc;omega
    subst hjl2
    rw[List.take_length] at hys
    rw[← hys]
    have hszc:ys.length * 1+(l.length - ys.length) * 1≤cur.size:=by rw[HR.sz,← Nat.add_mul];exact Nat.mul_le_mul_right _ (by omega)
    replace hf:=hf.kp [0,5]
    refine seq <| rgN 3 hf <| st (mv rfl) <| st (mv rfl) <| st ((qU U35 S3 rfl rfl (by omega) (by omega)).eq ((by rw[Nat.zero_add]:Value.slice (some ⟨b,0+ys.length * 1,none⟩) (l.length - ys.length) (cap - ys.length)=Value.slice (some ⟨b,ys.length * 1,none⟩) (l.length - ys.length) (cap - ys.length)))) <| en fun a w e' hf=>?_
    obtain⟨Hw,HR,e⟩:=up3 e' Hw HR e
    refine qV U35 I3 (by intro v hv;simp[Value.cells] at hv;subst hv;rfl) (by decide) rfl hf rfl HR.bl (by omega) hszc (fun k hk=>by cases hk) fun a w zs hg hsz hzl hB hf=>?_
    replace e:=e.gr hg (by omega)
    replace Hw:=Hw.gr hg (.inl hSb)
    refine aa ?_
    have HR2:RwR 1 3 N cap b (cur.toList.take (ys.length * 1)++zs++cur.toList.drop (ys.length * 1+(l.length - ys.length) * 1)).toArray w:=⟨hB,HR.lo,by
     have h5:=HR.sz
     simp only[List.size_toArray,List.length_append,List.length_take,List.length_drop,hzl,Array.length_toList]
     omega,HR.mx⟩
    have hfin:(cur.toList.take (ys.length * 1)++zs++cur.toList.drop (ys.length * 1+(l.length - ys.length) * 1)).toArray.toList.take (ys.length * 1)=ys.flatMap intF:=by
     rw[List.toList_toArray,List.append_assoc,List.take_append_of_le_length (by have h7:cur.toList.length=cur.size:=Array.length_toList;rw[List.length_take];omega),List.take_take,Nat.min_self];exact ht
    obtain⟨cur2,hcur2⟩:=eqX ((cur.toList.take (ys.length * 1)++zs++cur.toList.drop (ys.length * 1+(l.length - ys.length) * 1)).toArray)
    rw[← hcur2] at HR2 hfin
    replace hf:=hf.kp [0,5]
    refine seq <| rgN 3 hf <| st (mv rfl) <| st (mv rfl) <| st (mB U35 S3 rfl rfl (by omega)) <| en fun a w e' hf=>?_
    obtain⟨Hw,HR2,e⟩:=up3 e' Hw HR2 e
    refine tA hf rfl fun a hf=>aa <| ak <| an rfl hf rfl ?_
    rintro _ rfl
    exact⟨_,rfl,Hw,HR2.own intFF (by omega) hfin fun b hb=>hb.elim⟩
 rw[hwU] at goal
 exact goal
theorem kH {P:Program}{α β:Type}[DecidableEq α]{V:KV P α β}{N:Nat}{G:Nat→Prop}{l:List (α×β)}{v:Value}{w:World}(h:(Dv (mpE V N) G l).p v w):∃b,v=.map (some b):=by
 obtain⟨cs,⟨b,n,rfl,_⟩,hv⟩:=h
 exact⟨b,hv⟩
def brD (nb:Int→BS)(e:Nat×Nat):Int:=bO (lvB (wo nb e.1 e.2) e.1) e.2
def toN (x:Int×Int):Nat×Nat:=(x.1.toNat,x.2.toNat)
theorem tI (e:Nat×Nat):toN (toI e)=e:=by simp[toN,toI]
theorem a2E {G:Nat→Prop}{N0:Nat}(l:List (Int×BS))(S0:BS)(mq:Value)(u v c:Nat)(W:World)(hT:Tab W)(HV:(Dv (mpE sKV N0) G l).p mq W)(hc:Blk W c (adC S0 mq) 79)(hN:N0≤100000)(hu:u<1024)(hv:v<1024)(huv:u≠v)(hm:((u:Int),lkS l (u:Int))∈l) :
  Calls Tryz.prog 49 #[edV (toI (u,v)),ptr c] W (Post (E (B (brD (lkS l) (u,v) != -1))) W):=by
 obtain⟨nb,hnb⟩:=eqX (lkS l)
 rw[← hnb]
 obtain⟨d,hd⟩:=eqX (brD nb (u,v))
 rw[← hd]
 rw[brD] at hd
 refine eN [edV (toI (u,v)),ptr c] [E (edV (toI (u,v))),E (ptr c)] Tryz.func49 Tryz.ntmps49 ?_ fun a hf=>?_
 rotate_left
 rotate_right
 ·exact arg2 rfl rfl
 have e:=Ext.rfl' W
 refine seq <| ac <| tB hf rfl fun a b2 w v2 hv2 e' hb2 hs2 B2 hf=>?_
 obtain⟨hT,HV,e,hc⟩:=up4 e' hT HV e hc
 refine tA hf rfl fun a hf=>aa ?_
 cases hv2
 replace B2:Blk w b2 #[I (u:Nat),I (v:Nat)] 60:=B2
 refine seq <| rgG 13 Mix.mix hf <| st (ldW T79 rfl hc (aM _ _)) <| st (bU U60 ⟨_,T3⟩ rfl rfl (by omega)) <| st (ld1 T3 rfl B2 rfl) <| st (bU U60 ⟨_,T3⟩ rfl rfl (by omega)) <| st (ld1 T3 rfl B2 rfl) <| st (cE (A:=WoA (wo nb u v) S0 (N0+2)) (B:=E (.agg (adC S0 mq))) (C:=E (I (u:Nat))) (D:=E (I (v:Nat))) pE rfl rfl rfl (fun a b c w he k1 k2 k3=>by cases k1;cases k2;cases k3;rw[hnb];exact tl l S0 u v mq w (hT.ext he) (Dv.ex HV he) hN hu hv huv hm)) ?_
 refine st (bU U60 ⟨_,T3⟩ rfl rfl (by omega)) <| st (ld1 T3 rfl B2 rfl) <| st (ap (A:=Dv (slE aP) G0 (lvB (wo nb u v) u)) (B:=WoA (wo nb u v) S0 (N0+2)) (C:=E (I (u:Nat))) fO rfl rfl (fun a b w he ⟨l2,k1,mq2,k2,k3⟩ k4=>by subst k2;cases k4;rw[← k1];exact (gj l2 S0 mq2 u w (hT.ext he) k3 hu).mono fun en w' ⟨z,q1,q2,q3⟩=>⟨z,q1,q2,OwR.sl q3⟩)) ?_
 refine st (bU U60 ⟨_,T3⟩ rfl rfl (by omega)) <| st (ld1 T3 rfl B2 rfl) <| st (ap (A:=E (I d)) (B:=Dv (slE aP) G0 (lvB (wo nb u v) u)) (C:=E (I (v:Nat))) jz rfl rfl (fun a b w he k1 k2=>by cases k2;rw[hd];exact kw _ v a w k1 (Nat.le_trans (eR _ _) (by decide)))) ?_
 refine st (neq rfl rfl) <| en fun a w e' hf=>?_
 obtain⟨hT,HV,e,hc,B2⟩:=up5 e' hT HV e hc B2
 refine tA hf rfl fun a hf=>aa <| ak <| an rfl hf rfl ?_
 rintro _ rfl
 exact⟨_,rfl,e,rfl⟩
def brF (g:GT):List (Nat×Nat):=(esN g).filter fun e => !(brD (nbA g) e != -1)
theorem a2F {g:GT}{l:List (Int×BS)}(ok:Gr.Ok g)(hl:l=nbL g (ai (vset g.1))):∀e∈esN g,e.1<1024∧e.2<1024∧e.1≠e.2∧((e.1:Int),lkS l (e.1:Int))∈l:=fun e he=>by
 obtain⟨h1,h2,h3⟩:=kE ok e he
 refine⟨aA h2,aA h3,by omega,?_⟩
 have h4:((e.1:Int),nbG g.2 (e.1:Int))∈l:=by
  rw[hl,nbL]
  exact List.mem_map.2 ⟨e.1,aD.2 ⟨aA h2,h2⟩,rfl⟩
 have h5:lkS l (e.1:Int)=nbG g.2 (e.1:Int):=by
  rw[hl,nbL,ky (fun n=>nbG g.2 (n:Int)),if_pos (aD.2 ⟨aA h2,h2⟩)]
 rw[h5];exact h4
theorem a2G {G:Nat→Prop}{N:Nat}(g:GT)(ok:Gr.Ok g)(v:Value)(W:World)(hT:Tab W)(h:(Dv (ptE (grE N)) G (some g)).p v W)(hl1:g.1.length≤100000)(hl2:g.2.length≤100000)(hN:N≤1000000) :
  Calls Tryz.prog 14 #[v] W (Post (Dv (slE edE) G0 ((brF g).map toI)) W):=by
 have hgd:(Dv (ptE (grE N)) G0 (some g)).p v W:=Dv.weak h fun b _ hb=>hb.elim
 have gs1:=ok.sv
 have gs2:=ok.se
 obtain⟨l,hl⟩:=eqX (nbL g (ai (vset g.1)))
 have hmem:=a2F ok hl
 obtain⟨V,hV⟩:=eqX (vset g.1)
 have hnb:nbA g=lkS l:=by rw[hl,nbA]
 have hti:=nA ok
 rw[brF,hnb]
 obtain⟨es,hes⟩:=eqX (esN g)
 rw[← hes] at hti hmem ⊢
 have hel:es.length≤100000:=by rw[hes,esN,List.length_map];exact hl2
 obtain⟨p,hp⟩:=eqX (fun x=>brD (lkS l) (toN x) != -1:Int×Int→Bool)
 have hfil:((es.map toI).filter fun x => !p x)=(es.filter fun e => !(brD (lkS l) e != -1)).map toI:=by
  rw[List.filter_map,hp]
  refine congrArg (List.map toI) (List.filter_congr fun x _=>?_)
  simp only[Function.comp,tI]
 rw[← hfil]
 have hT0:=hT.lt
 refine eN [v] [E v] Tryz.func14 Tryz.ntmps14 ?_ fun a hf=>?_
 rotate_left
 dsimp only[params,Nat.reduceAdd] at hf
 rotate_right
 ·exact arg1 rfl
 have e:=Ext.rfl' W
 refine seq <| ac <| tA hf rfl fun a hf=>aa ?_
 refine seq <| seq ?_
 refine rgN 2 hf <| st (mv rfl) <| st (eZ U26 (isE rfl (vst e hgd))) <| en fun a w e' hf=>?_
 obtain⟨hT,e⟩:=up2 e' hT e
 refine aa <| ifF hf rfl ?_
 refine aj ?_
 replace hf:=hf.keep [0]
 have e0:=e
 refine seq <| rgN 2 hf <| st (mv rfl) <| st (aw (A:=cw l V 1024) eH rfl (fun v w he k=>by cases k;rw[hl,hV];exact (mM g _ w (hT.ext he) (vst (e0.tr he) hgd) gs1 gs2 hl1 hl2 hN).mono fun en w' ⟨k1,mq,k2,k3⟩=>⟨_,k2,k1,mq,rfl,k3⟩)) ?_
 refine en fun a w e' hf=>?_
 obtain⟨hT,e⟩:=up2 e' hT e
 obtain⟨av,⟨mq,rfl,HV0⟩,hf⟩:=hf.opn 7 rfl
 obtain⟨bm,rfl⟩:=kH HV0
 obtain⟨N1,hN1⟩:=eqX w.heap.size
 have hN1s:N1≤w.heap.size:=Nat.le_of_eq hN1
 have hWN1:W.heap.size≤N1:=by rw[hN1];exact e.size
 have HV:(Dv (mpE sKV 1024) (fun b=>N1≤b) l).p (.map (some bm)) w:=Dv.weak HV0 fun b hb hh=>by omega
 replace hf:=hf.kp [0,7]
 refine tL I79 hf fun a b3 w e' hb3 hs3 B3 hf=>?_
 have lo3_hN1s:=Nat.le_trans hN1s (Nat.le_of_eq hb3.symm)
 obtain⟨hT,HV,hN1s,e⟩:=up4 e' hT HV hN1s e
 have n3:N1≤b3:=lo3_hN1s
 refine aF T79 hf rfl rfl (ct _ _) B3 rfl (aM _ _) fun w hg hsz B3 hf=>?_
 replace e:=e.gr hg (by omega);replace hT:=hT.gr hg (by omega);replace HV:=Dv.gr HV hg n3;replace hN1s:=Nat.le_trans hN1s hg.size;clear hg
 refine aa ?_
 replace hf:=hf.keep [0,3]
 have e4:=e
 obtain⟨N2,hN2⟩:=eqX w.heap.size
 have hN2s:N2≤w.heap.size:=Nat.le_of_eq hN2
 have l3:b3<N2:=by rw[hN2];exact B3.lt
 have h12:N1≤N2:=by omega
 refine seq <| rgN 3 hf <| st (mv rfl) <| st (aw (A:=OwA edE 60 N2 G0 (es.map toI)) (B:=E v) pD rfl (fun u w he k=>by cases k;rw[← hti];exact (td g v w (vst (e4.tr he) hgd) gs2 hl2 hN).mono fun en w' ⟨u,k1,k2,k3⟩=>⟨u,k1,k2,OwR.low k3 (Nat.le_trans hN2s he.size) fun b hb=>hb.elim⟩)) ?_
 refine st (im rfl) <| en fun a w e' hf=>?_
 obtain⟨hT,HV,e,B3⟩:=up4 e' hT HV e B3
 obtain⟨ev,HoE,hf⟩:=hf.opn 9 rfl
 replace HoE:OwR edE 60 N2 G0 w (es.map toI) ev:=HoE
 replace hf:=hf.kp [9,10]
 refine fb (S:=fun b=>ev.ownBlock=some b) (F:=fun z w'=>OwR edE 60 N2 G0 w' ((es.map toI).filter fun x => !p x) z) hf (by decide) wj ?_ fun a z w hc hF hf=>?_
 ·have e9:a.eval (.tmp 9)=ev:=hf.opd (.tmp 9) _ rfl
  have e10:a.eval (.tmp 10)=.func (.func 49) #[] #[ptr b3]:=hf.opd (.tmp 10) _ rfl
  simp only[List.map_toArray,List.map_cons,List.map_nil,e9,e10]
  refine (a2C (es.map toI) ev 49 #[ptr b3] p N2 _ wk HoE (by rw[List.length_map];exact hel) fun w' x hx hc=>?_).mono fun en w' h=>h
  obtain⟨e,he,rfl⟩:=List.mem_map.1 hx
  obtain⟨u,v⟩:=e
  obtain⟨m1,m2,m3,m4⟩:=hmem _ he
  have hpe:p (toI (u,v))=(brD (lkS l) (u,v) != -1):=by rw[hp];show (brD (lkS l) (toN (toI (u,v))) != -1)=_;rw[tI]
  rw[hpe]
  exact a2E l V (.map (some bm)) u v b3 w' (hT.ch hc fun h0=>by have:=(HoE.lt h0).1;omega) (Dv.ch HV hc fun b hb=>by have:=(HoE.lt hb).1;omega) (B3.ch hc fun h0=>by have:=(HoE.lt h0).1;omega) (by decide) m1 m2 m3 m4
 replace e:=e.ch hc fun b hb=>by have:=(HoE.lt hb).1;omega
 have HoE:=hF
 refine tA hf rfl fun a hf=>aa <| ak <| an rfl hf rfl ?_
 rintro _ rfl
 exact⟨_,rfl,e,HoE.sl⟩
def cvN (nb:Int→BS)(V:BS)(x:Nat):Nat:=(prF (cj nb (V &&& del V (x:Int))) (card (V &&& del V (x:Int))) (V &&& del V (x:Int))).length
theorem a2H (l:List (Int×BS))(S T:BS)(h:S=T):(cT (wiL l S) T).length=(prF (cj (lkS l) S) (card S) S).length:=by subst h;rw[cT,nq]
theorem a2I {G:Nat→Prop}{N0 n:Nat}(l:List (Int×BS))(V:BS)(mq:Value)(x c d:Nat)(W:World)(hT:Tab W)(HV:(Dv (mpE sKV N0) G l).p mq W)(hc:Blk W c (adC V mq) 79)(hd:Blk W d #[I (n:Nat)] 3) :
  Calls Tryz.prog 57 #[I (x:Nat),ptr c,ptr d] W (Post (E (B (decide (cvN (lkS l) V x≤n)))) W):=by
 obtain⟨S,hS⟩:=eqX (V &&& del V (x:Int))
 have hcv:cvN (lkS l) V x=(cT (wiL l S) S).length:=by rw[cvN,← hS,a2H l S S rfl]
 obtain⟨ps,hps⟩:=eqX (cT (wiL l S) S)
 rw[hcv,← hps]
 refine eN [I (x:Nat),ptr c,ptr d] [E (I (x:Nat)),E (ptr c),E (ptr d)] Tryz.func57 Tryz.ntmps57 ?_ fun a hf=>?_
 rotate_left
 rotate_right
 ·exact eI rfl rfl rfl
 have e:=Ext.rfl' W
 refine seq <| ac <| tA hf rfl fun a hf=>aa <| seq <| rgG 10 Mix.mix hf <| st (ldW T79 rfl hc (aM _ _)) <| st (fA U79 rfl T76 rfl) <| st ((ldP T76 rfl hc (by rw[aM];decide)).eq (congrArg Value.agg (bW V mq))) ?_
 refine st (mv rfl) <| st (ap (A:=E (ae (del V (x:Int)))) (B:=E (ae V)) (C:=E (I (x:Nat))) gG rfl rfl (fun v u w he h h'=>by cases h;cases h';exact gJ _ _ w)) ?_
 refine st (ap (A:=cw (wiL l S) S 1024) (B:=E (.agg (adC V mq))) (C:=E (ae (del V (x:Int)))) lQ rfl rfl (fun a b w he k1 k2=>by cases k1;cases k2;rw[hS];exact ns l V (del V (x:Int)) mq w (hT.ext he) (Dv.ex HV he))) ?_
 refine st (aw (A:=Dv (slE aP) G0 ps) (B:=cw (wiL l S) S 1024) jA rfl (fun v w he ⟨mq2,k1,k2⟩=>by rw[k1,hps];exact (kq (wiL l S) S mq2 w (hT.ext he) k2).mono fun en w' ⟨u,k1,k2,k3⟩=>⟨u,k1,k2,OwR.sl k3⟩)) ?_
 refine st (aI U83 (isR rfl)) <| st (ld1 (v:=I (n:Nat)) T3 rfl hd rfl) <| st ((leq rfl rfl).eq (congrArg B (show decide ((ps.length:Int)≤(n:Int))=decide (ps.length≤n) from decide_eq_decide.2 Int.ofNat_le))) <| en fun a w e' hf=>?_
 obtain⟨hT,HV,e,hc,hd⟩:=up5 e' hT HV e hc hd
 refine tA hf rfl fun a hf=>aa <| ak <| an rfl hf rfl ?_
 rintro _ rfl
 exact⟨_,rfl,e,rfl⟩
def cvF (g:GT):List Nat:=(ai (vset g.1)).filter fun x => !decide (cvN (nbA g) (vset g.1) x≤(prF (nbA g) (card (vset g.1)) (vset g.1)).length)
theorem tJ {N:Nat}(g:GT)(ok:Gr.Ok g)(v:Value)(W:World)(hT:Tab W)(h:(Gn N g).p v W)(hl1:g.1.length≤100000)(hl2:g.2.length≤100000)(hN:N≤1000000) :
  Calls Tryz.prog 17 #[v] W (Post (Dv (slE intE) G0 (ah (cvF g))) W):=by
 have hgd:=h
 have gs1:=ok.sv
 have gs2:=ok.se
 obtain⟨l,hl⟩:=eqX (nbL g (ai (vset g.1)))
 have hnb:nbA g=lkS l:=by rw[hl,nbA]
 rw[cvF,hnb]
 obtain⟨V,hV⟩:=eqX (vset g.1)
 rw[← hV]
 obtain⟨ps,hps⟩:=eqX (cT l V)
 rw[show prF (lkS l) (card V) V=ps by rw[hps,cT]]
 obtain⟨n,hn⟩:=eqX ps.length
 rw[← hn]
 obtain⟨p,hp⟩:=eqX (fun x=>decide (cvN (lkS l) V x.toNat≤n):Int→Bool)
 have hfil:(elL V).filter (fun x => !p x)=ah ((ai V).filter fun x => !decide (cvN (lkS l) V x≤n)):=by
  rw[elL,ah,ah,List.filter_map,hp]
  refine congrArg (List.map _) (List.filter_congr fun x _=>?_)
  simp only[Function.comp,Int.toNat_natCast]
 rw[← hfil]
 have hT0:=hT.lt
 refine eN [v] [E v] Tryz.func17 Tryz.ntmps17 ?_ fun a hf=>?_
 rotate_left
 dsimp only[params,Nat.reduceAdd] at hf
 rotate_right
 ·exact arg1 rfl
 have e:=Ext.rfl' W
 refine seq <| ac <| tA hf rfl fun a hf=>aa ?_
 replace hf:=hf.keep [0]
 have e0:=e
 refine seq <| rgN 2 hf <| st (mv rfl) <| st (aw (A:=cw l V 1024) eH rfl (fun v w he k=>by cases k;rw[hl,hV];exact (mN g _ w (hT.ext he) (vst (e0.tr he) hgd) gs1 gs2 hl1 hl2 hN).mono fun en w' ⟨k1,mq,k2,k3⟩=>⟨_,k2,k1,mq,rfl,k3⟩)) ?_
 refine en fun a w e' hf=>?_
 obtain⟨hT,e⟩:=up2 e' hT e
 obtain⟨av,⟨mq,rfl,HV0⟩,hf⟩:=hf.opn 6 rfl
 obtain⟨bm,rfl⟩:=kH HV0
 obtain⟨N1,hN1⟩:=eqX w.heap.size
 have hN1s:N1≤w.heap.size:=Nat.le_of_eq hN1
 have hWN1:W.heap.size≤N1:=by rw[hN1];exact e.size
 have HV:(Dv (mpE sKV 1024) (fun b=>N1≤b) l).p (.map (some bm)) w:=Dv.weak HV0 fun b hb hh=>by omega
 replace hf:=hf.kp [0,6]
 refine tL I79 hf fun a b3 w e' hb3 hs3 B3 hf=>?_
 have lo3_hN1s:=Nat.le_trans hN1s (Nat.le_of_eq hb3.symm)
 obtain⟨hT,HV,hN1s,e⟩:=up4 e' hT HV hN1s e
 have n3:N1≤b3:=lo3_hN1s
 refine aF T79 hf rfl rfl (ct _ _) B3 rfl (aM _ _) fun w hg hsz B3 hf=>?_
 replace e:=e.gr hg (by omega);replace hT:=hT.gr hg (by omega);replace HV:=Dv.gr HV hg n3;replace hN1s:=Nat.le_trans hN1s hg.size;clear hg
 refine aa ?_
 replace hf:=hf.keep [3]
 have hdv:(Dv (mpE sKV 1024) G0 l).p (.map (some bm)) w:=Dv.weak HV fun b _ hb=>hb.elim
 refine seq <| rgN 3 hf <| st (ldW T79 rfl B3 (aM _ _)) <| st (aw (A:=Dv (slE aP) G0 ps) (B:=E (.agg (adC V (.map (some bm))))) jA rfl (fun v w he k1=>by cases k1;rw[hps];exact (kq l V (.map (some bm)) w (hT.ext he) (Dv.ex hdv he)).mono fun en w' ⟨u,k1,k2,k3⟩=>⟨u,k1,k2,OwR.sl k3⟩)) ?_
 refine st (aI U83 (isR rfl)) <| en fun a w e' hf=>?_
 obtain⟨hT,HV,hN1s,e,B3⟩:=up5 e' hT HV hN1s e B3
 rw[← hn] at hf
 have n34:=B3.lt
 refine tL I3 hf fun a b4 w e' hb4 hs4 B4 hf=>?_
 have lo4_hN1s:=Nat.le_trans hN1s (Nat.le_of_eq hb4.symm)
 obtain⟨hT,HV,hN1s,e,B3⟩:=up5 e' hT HV hN1s e B3
 have n4:N1≤b4∧b3≠b4:=⟨lo4_hN1s,by omega⟩
 replace hf:=hf.kp [3,4,9]
 refine aO T3 hf rfl rfl rfl B4 Nat.zero_lt_one fun w hg hsz B4 hf=>?_
 obtain⟨e,hT,hN1s⟩:=gr3 hg e hT hN1s
 replace HV:=Dv.gr HV hg n4.1;replace B3:=B3.gr hg n4.2
 refine aa ?_
 replace B4:Blk w b4 #[I (n:Nat)] 3:=B4
 replace hf:=hf.keep [3,4]
 obtain⟨N2,hN2⟩:=eqX w.heap.size
 have hN2s:N2≤w.heap.size:=Nat.le_of_eq hN2
 refine seq <| rgN 4 hf <| st (fA U79 rfl T76 rfl) <| st ((ldP T76 rfl B3 (by rw[aM];decide)).eq (congrArg Value.agg (bW V (.map (some bm))))) ?_
 refine st (aw (A:=OwA intE 3 N2 G0 (elL V)) (B:=E (ae V)) jB rfl (fun u w he k=>by cases k;exact (kr V w (hT.ext he)).mono fun en w' ⟨u,k1,k2,k3⟩=>⟨u,k1,k2,OwR.low k3 (Nat.le_trans hN2s he.size) fun b hb=>hb.elim⟩)) ?_
 refine st (io rfl rfl) <| en fun a w e' hf=>?_
 obtain⟨hT,HV,e,B3,B4⟩:=up5 e' hT HV e B3 B4
 obtain⟨ev,HoE,hf⟩:=hf.opn 12 rfl
 replace HoE:OwR intE 3 N2 G0 w (elL V) ev:=HoE
 replace hf:=hf.kp [12,13]
 refine fb (S:=fun b=>ev.ownBlock=some b) (F:=fun z w'=>OwR intE 3 N2 G0 w' ((elL V).filter fun x => !p x) z) hf (by decide) wl ?_ fun a z w hc hF hf=>?_
 ·have e9:a.eval (.tmp 12)=ev:=hf.opd (.tmp 12) _ rfl
  have e10:a.eval (.tmp 13)=.func (.func 57) #[] #[ptr b3,ptr b4]:=hf.opd (.tmp 13) _ rfl
  simp only[List.map_toArray,List.map_cons,List.map_nil,e9,e10]
  refine (a2D (elL V) ev 57 #[ptr b3,ptr b4] p N2 _ wn HoE (Nat.le_trans (sX V) (by decide)) fun w' x hx hc=>?_).mono fun en w' h=>h
  obtain⟨y,he,rfl⟩:=List.mem_map.1 hx
  have hpe:p (y:Int)=decide (cvN (lkS l) V y≤n):=by rw[hp];simp only[Int.toNat_natCast]
  rw[hpe]
  exact a2I l V (.map (some bm)) y b3 b4 w' (hT.ch hc fun h0=>by have:=(HoE.lt h0).1;omega) (Dv.ch HV hc fun b hb=>by have:=(HoE.lt hb).1;omega) (B3.ch hc fun h0=>by have:=(HoE.lt h0).1;omega) (B4.ch hc fun h0=>by have:=(HoE.lt h0).1;omega)
 replace e:=e.ch hc fun b hb=>by have:=(HoE.lt hb).1;omega
 have HoE:=hF
 refine tA hf rfl fun a hf=>aa <| ak <| an rfl hf rfl ?_
 rintro _ rfl
 exact⟨_,rfl,e,HoE.sl⟩
end Go.Mono
namespace Go.Mono
open Go Go.RowKit
def nJ (ops:Array Oper)(m N i:Nat):Bool:=
 match ops[i]? with
 | none=>false
 | some o=>
  (o.after.all fun e => !Region.binds .any e || Nat.blt e.on i) &&
  (match o.dst with|some d=>Nat.blt d N|none=>true) &&
  ((di o++(co ops o).toList).all fun t=>(List.range m).all fun j=>(match aY ops j with|some d => !Nat.beq d t|none=>true) || bnd ops i j || (Nat.blt i j&&dH ops 12 j i)) &&
  ((List.range m).all fun j=>Nat.beq j i || (match o.dst,aY ops j with|some d,some e => !Nat.beq d e|_,_=>true))
def tK (ops:Array Oper)(m N:Nat):Bool:=
 Nat.ble m ops.size&&((List.range m).all fun i=>nJ ops m N i)&&((List.range ops.size).all fun i=>Nat.blt i m || dI ops i)
section
variable {P:Program}{ops:Array Oper}{Q:Exit→Act→World→Prop}{w0:World}{n:Nat}{ds:List Deferred}{r:Option Nat}
structure a2J (ops:Array Oper)(m n:Nat)(ds:List Deferred)(w0:World)(L:Env)(As:Nat→VA)(listed:Array Bool)(a:Act)(w:World):Prop where
 ext:Ext w0 w
 size:a.tmps.size=n
 defers:a.defers=ds
 hL:∀t A,aL L t=some A→(∀j,j<m→aY ops j=some t→listed.getD j false=false)→A.p (a.eval (.tmp t)) w
 hA:∀i,i<m→listed.getD i false=true→∀d,aY ops i=some d→(As i).p (a.eval (.tmp d)) w

theorem tM {m:Nat}{L:Env}{As:Nat→VA}(hm:m≤ops.size)(hchk:∀i,i<m→nJ ops m n i=true)(hchk2:∀i,m≤i→i<ops.size→dI ops i=true)
  (hops:∀j o,j<m→ops[j]?=some o→GOp P ops w0 (bD ops L As 0 j) o (As j))
  (hend:∀a w,Ext w0 w→FrD n ds a w (bD ops L As 0 m)→wpListIn (FW r) 0 P ops Q (ops.toList.drop m) a w) :
  ∀(c:Nat) (listed:Array Bool) (a:Act) (w:World),(List.range m).countP (fun i => !listed.getD i true)=c→listed.size=ops.size →
   (∀j,m≤j→j<ops.size→listed.getD j true=false)→LD ops listed→a2J ops m n ds w0 L As listed a w→wpAnyIn (FW r) 0 P .any ops Q (c+(ops.size - m)) listed a w
 | 0,listed,a,w,hc,hsz,hun,hld,hi=>by
  have hall:∀j,j<m→listed.getD j false=true:=by
   intro j hj
   have:=(List.countP_eq_zero.1 hc) j (List.mem_range.2 hj)
   have hjl:j<listed.size:=by omega
   simpa[hjl] using this
  rw[Nat.zero_add]
  refine jj m hchk2 (ops.size - m) m (by omega) (Nat.le_refl _) listed a w hall hun hsz hld (hend a w hi.ext ⟨hi.size,hi.defers,fun t A ht=>?_⟩)
  rcases eU L As t A m ht with ⟨j,hj,hd,rfl⟩|⟨hn,hl⟩
  ·exact hi.hA j hj (hall j hj) t hd
  ·exact hi.hL t A hl fun j hj hd=>absurd hd (hn j hj)
 | c+1,listed,a,w,hc,hsz,hun,hld,hi=>by
  have facts:∀i o,i<m→ops[i]?=some o→(∀e∈o.after,Region.binds .any e=true→e.on<i)∧(∀d,o.dst=some d→d<n) ∧
    (∀t,t∈di o∨co ops o=some t→∀j,j<m→aY ops j=some t→bnd ops i j=true∨(i<j∧dH ops 12 j i=true))∧(∀j,j<m→j≠i→∀d,o.dst=some d→aY ops j≠some d):=by
   intro i o hlt ho
   have:=hchk i hlt
   simp only[nJ,ho,Bool.and_eq_true,Array.all_eq_true_iff_forall_mem,Bool.or_eq_true,Bool.not_eq_true',List.all_eq_true,List.mem_range,List.mem_append,Option.mem_toList] at this
   obtain⟨⟨⟨h1,h2⟩,h3⟩,h4⟩:=this
   refine⟨fun e he hb=>?_,fun d hd=>?_,fun t ht j hj hd=>?_,fun j hj hne d hd hd'=>?_⟩
   ·rcases h1 e he with h|h
    ·rw[hb] at h;cases h
    ·simpa[Nat.blt_eq] using h
   ·simpa[hd,Nat.blt_eq] using h2
   ·have:=h3 t ht j hj
    rcases this with (h|h)|h
    ·rw[hd] at h;simp at h
    ·exact .inl h
    ·exact .inr ⟨by simpa[Nat.blt_eq] using h.1,h.2⟩
   ·have:=h4 j hj
    rcases this with h|h
    ·exact hne (Nat.eq_of_beq_eq_true h)
    ·rw[hd,hd'] at h;simp at h
  have prog:∃i,i<m∧listed.getD i true=false∧∀j,j<i→listed.getD j true=true:=by
   have hex:∃i,i<m∧listed.getD i true=false:=by
    have hpos:0<(List.range m).countP (fun i => !listed.getD i true):=by omega
    obtain⟨i,hi,hb⟩:=List.countP_pos_iff.1 hpos
    exact⟨i,List.mem_range.1 hi,by simpa using hb⟩
   obtain⟨i,hlt,hb⟩:=hex
   induction i using Nat.strongRecOn with
   | _ i ih=>
    by_cases h:∃j,j<i∧listed.getD j true=false
    ·obtain⟨j,hj,hjb⟩:=h
     exact ih j hj (by omega) hjb
    ·refine⟨i,hlt,hb,fun j hj=>?_⟩
     cases hjb:listed.getD j true with
     | true=>rfl
     | false=>exact absurd ⟨j,hj,hjb⟩ h
  obtain⟨i0,hi0,hu0,hbelow⟩:=prog
  have hready:i0∈Region.ready .any ops listed:=by
   have ho:ops[i0]?=some (ops[i0]'(by omega)):=by simp
   refine mem_ready.2 ⟨hu0,_,ho,fun e he hb=>?_⟩
   have hlt:=(facts i0 _ hi0 ho).1 e he hb
   have:=hbelow _ hlt
   have hjl:e.on<listed.size:=by omega
   simpa[hjl] using this
  rw[show c+1+(ops.size - m)=(c+(ops.size - m))+1 by omega]
  refine⟨fun h0=>(by rw[h0] at hready;cases hready),fun i hir=>?_⟩
  obtain⟨hu,o,ho,hall⟩:=mem_ready.1 hir
  have hilt:i<ops.size:=(Array.getElem?_eq_some_iff.1 ho).1
  have listed_of_bnd:∀j,bnd ops i j=true→listed.getD j false=true:=by
   intro j hb
   simp only[bnd,ho] at hb
   obtain⟨e,he,hb⟩:=Array.any_eq_true'.1 hb
   simp only[Bool.and_eq_true] at hb
   have:=hall e he hb.1
   rwa [Nat.eq_of_beq_eq_true hb.2] at this
  have him:i<m:=by
   rcases Nat.lt_or_ge i m with h|h
   ·exact h
   ·have hc:=hchk2 i h hilt
    simp only[dI,ho,Bool.and_eq_true,List.all_eq_true,List.mem_range] at hc
    have:=cov hld 12 i i0 (hc.2 i0 (by omega)) (fun o' ho' e he hb=>by
     rw[ho] at ho'
     obtain rfl:=Option.some.inj ho'
     exact hall e he hb)
    rw[ew hu0] at this
    cases this
  obtain⟨f1,f2,f3,f4⟩:=facts i o him ho
  have byLook:∀t,(t∈di o∨co ops o=some t)→∀B,aL (bD ops L As 0 i) t=some B→B.p (a.eval (.tmp t)) w:=by
   intro t ht B hB
   rcases eU L As t B i hB with ⟨j,hj,hd,rfl⟩|⟨hn,hl⟩
   ·exact hi.hA j (by omega) (listed_of_bnd j ((f3 t ht j (by omega) hd).resolve_right fun h=>by omega)) t hd
   ·refine hi.hL t B hl fun j hj hd=>?_
    rcases f3 t ht j hj hd with hb|⟨hij,hcv⟩
    ·simp only[bnd,ho] at hb
     obtain⟨e,he,hb⟩:=Array.any_eq_true'.1 hb
     simp only[Bool.and_eq_true] at hb
     have hlt:=f1 e he hb.1
     rw[Nat.eq_of_beq_eq_true hb.2] at hlt
     exact absurd hd (hn j hlt)
    ·cases hlj:listed.getD j false with
     | false=>rfl
     | true=>
      have:=cov hld 12 j i hcv (fun o' ho' e he hb=>hld j o' hlj ho' e he hb)
      rw[ew hu] at this
      cases this
  have hg:=hops i o him ho a w hi.ext (fun x hx B hB=>by
   cases x with
   | tmp t=>exact byLook t (.inl (List.mem_filterMap.2 ⟨.tmp t,by simpa using hx,rfl⟩)) B hB
   | const v=>simp[opd] at hB;subst hB;rfl
   | global g=>simp[opd] at hB;subst hB;rfl
   | func f=>simp[opd] at hB;subst hB;rfl) (fun d B hd hB=>byLook d (.inr hd) B hB)
  have hdst:aY ops i=o.dst:=by simp[aY,ho]
  have step:∀v w',Ext w w'→(As i).p v w'→wpAnyIn (FW r) 0 P .any ops Q (c+(ops.size - m)) (listed.setIfInBounds i true) (a.put o.dst v) w':=by
   intro v w' hx hv
   refine tM hm hchk hchk2 hops hend c _ _ _ ?_ (by simpa using hsz) ?_ ?_ ?_
   ·have:=lg m (fun j => !listed.getD j true) (fun j => !(listed.setIfInBounds i true).getD j true) i him (by simp only[hu,Bool.not_false])
     (by
       have hjl:i<listed.size:=by omega
       simp[hjl]) (fun j hj=>by simp only[getD_set_ne true (Ne.symm hj)])
    omega
   ·intro j hj hj'
    rw[getD_set_ne true (by omega)]
    exact hun j hj hj'
   ·exact hld.set fun o' ho' e he hb=>by
     rw[ho] at ho'
     obtain rfl:=Option.some.inj ho'
     exact hall e he hb
   ·refine⟨Ext.tr hi.ext hx,by simp[hi.size],by simp[hi.defers],fun t A ht hn=>?_,fun j hj hl d hd=>?_⟩
    ·have h0:=A.st _ _ _ hx (hi.hL t A ht fun j hj hd=>by
      have h1:=hn j hj hd
      by_cases hji:j=i
      ·subst hji
       have hjl:j<listed.size:=by omega
       simp[hjl] at h1
      ·rwa [getD_set_ne false (Ne.symm hji)] at h1)
     cases hod:o.dst with
     | none=>exact h0
     | some d=>
      have:d≠t:=fun e=>by
       have h1:=hn i him (by rw[hdst,hod,e])
       have hjl:i<listed.size:=by omega
       simp[hjl] at h1
      rw[fF this]
      exact h0
    ·by_cases hji:j=i
     ·subst hji
      rw[hdst] at hd
      rw[hd,ji (by rw[hi.size];exact f2 d hd)]
      exact hv
     ·have hl':listed.getD j false=true:=by rwa [getD_set_ne false (Ne.symm hji)] at hl
      have h0:=(As j).st _ _ _ hx (hi.hA j hj hl' d hd)
      cases hod:o.dst with
      | none=>exact h0
      | some d'=>
       have:d'≠d:=fun e=>f4 j hj hji d' hod (by rw[hd,e])
       rw[fF this]
       exact h0
  unfold wpOpIn
  simp only[ho]
  split
  ·rename_i hw
   rw[if_pos hw] at hg
   exact (hg.wp fun v w' hv=>step v w' hv.1 hv.2)
  ·rename_i hw
   rw[if_neg hw] at hg
   exact⟨fun _ _=>trivial,step undef w (Ext.rfl' _) hg⟩
theorem a2K {id:Nat}{ops:Array Oper}{L:Env}{a:Act}{w:World}(m:Nat)(hmix:P.follows .mixedOrders=true)(hf:FrD n ds a w L)(hchk:tK ops m n=true)
  (h:bX P ops w (ops.toList.take m) (fun L'=>∀a' w',Ext w w'→FrD n ds a' w' L'→wpListIn (FW r) 0 P ops Q (ops.toList.drop m) a' w') L):(Code.region id ops true).wpIn (FW r) 0 P Q a w:=by
 simp only[tK,Bool.and_eq_true,List.all_eq_true,List.mem_range,Bool.or_eq_true,Nat.ble_eq] at hchk
 obtain⟨⟨hm,h1⟩,h2⟩:=hchk
 have hlen:(ops.toList.take m).length=m:=by simp;omega
 refine wpIn_region_any hmix ?_
 obtain⟨As,hAs,hK⟩:=lh (ops.toList.take m) 0 L (fun j hj=>by
  rw[hlen] at hj
  rw[Nat.zero_add,List.getElem?_take,if_pos hj];simp) h
 rw[hlen] at hAs hK
 have hext:Ext w { w with drawn:=w.drawn+1 }:=Ext.drew w
 have:=tM (P:=P) (ops:=ops) (Q:=Q) (w0:=w) (n:=n) (ds:=ds) (m:=m) (r:=r) (L:=L) (As:=As) hm h1 (fun i hi hi'=>by
   rcases h2 i hi' with h|h
   ·simp only[Nat.blt_eq] at h;omega
   ·exact h) (fun j o hj ho=>hAs j o hj (by simpa using ho)) (fun a w hx hf=>hK a w hx hf) m
  (Array.replicate ops.size false) a { w with drawn:=w.drawn+1 } ?_ (by simp) ?_ ?_ ⟨hext,hf.size,hf.defers,fun t A ht _=>A.st _ _ _ hext (hf.val t A ht),fun i hi hl=>?_⟩
 ·rwa [show m+(ops.size - m)=ops.size by omega] at this
 ·have:(List.range m).countP (fun i => !(Array.replicate ops.size false).getD i true)=(List.range m).length:=by
   refine List.countP_eq_length.2 fun i hi=>?_
   have:=List.mem_range.1 hi
   have hlt:i<ops.size:=by omega
   simp[hlt]
  simpa using this
 ·intro j _ hj
  simp[hj]
 ·intro i o hl
  have:(Array.replicate ops.size false).getD i false=false:=by
   by_cases hlt:i<ops.size <;> simp[hlt]
  rw[this] at hl;cases hl
 ·have:(Array.replicate ops.size false).getD i false=false:=by
   by_cases hlt:i<ops.size <;> simp[hlt]
  rw[this] at hl;cases hl
end
end Go.Mono
namespace Go.Mono
open Go Go.Proofs Go.RowKit Go.Gr
def dsF (g:GT)(a b:Int):Int:=if (has (vset g.1) a&&has (vset g.1) b)=true then dsT (nbA g) a.toNat b.toNat else -1
theorem kJ {S:BS}{a:Int}(h:has S a=true):∃n:Nat,a=n∧S.getLsbD n=true:=by
 have h':=h
 rw[has,Bool.and_eq_true,cV] at h'
 refine⟨a.toNat,by omega,?_⟩
 exact h'.2
theorem a2L (nb:Int→BS)(a b:Nat):dsT nb a b≤1025:=nz b
theorem jb {N:Nat}(g:GT)(ok:Gr.Ok g)(v:Value)(W:World)(hT:Tab W)(h:(Gn N g).p v W)(hl1:g.1.length≤100000)(hl2:g.2.length≤100000)(hN:N≤1000000) :
  Calls Tryz.prog 46 #[v] W (Post (cw (nbL g (ai (vset g.1))) (vset g.1) 1024) W):=
 (mN g v W hT h ok.sv ok.se hl1 hl2 hN).mono fun en w' ⟨k1,mq,k2,k3⟩=>⟨_,k2,k1,mq,rfl,k3⟩
theorem a2M {N:Nat}(g:GT)(ok:Gr.Ok g)(a0 c0:Int)(v:Value)(W:World)(hT:Tab W)(h:(Gn N g).p v W)(hl1:g.1.length≤100000)(hl2:g.2.length≤100000)(hN:N≤1000000) :
  Calls Tryz.prog 30 #[v,I a0,I c0] W (Post (E (I (dsF g a0 c0))) W):=by
 have hgd:=h
 obtain⟨rr,hrr⟩:=eqX (dsF g a0 c0)
 rw[← hrr]
 rw[dsF] at hrr
 obtain⟨l,hl⟩:=eqX (nbL g (ai (vset g.1)))
 have hnb:nbA g=lkS l:=by rw[hl,nbA]
 rw[hnb] at hrr
 obtain⟨V,hV⟩:=eqX (vset g.1)
 rw[← hV] at hrr
 have hT0:=hT.lt
 refine eN [v,I a0,I c0] [E v,E (I a0),E (I c0)] Tryz.func30 Tryz.ntmps30 ?_ fun a hf=>?_
 rotate_left
 dsimp only[params,Nat.reduceAdd] at hf
 rotate_right
 ·exact eI rfl rfl rfl
 have e:=Ext.rfl' W
 refine seq <| ac <| tA hf rfl fun a hf=>aa ?_
 replace hf:=hf.keep [0,1,2]
 have e0:=e
 refine seq <| rgN 2 hf <| st (mv rfl) <| st (aw (A:=cw l V 1024) eH rfl (fun v w he k=>by cases k;rw[hl,hV];exact jb g ok _ w (hT.ext he) (vst (e0.tr he) hgd) hl1 hl2 hN)) ?_
 refine en fun a w e' hf=>?_
 obtain⟨hT,e⟩:=up2 e' hT e
 obtain⟨av,⟨mq,rfl,HV⟩,hf⟩:=hf.opn 9 rfl
 obtain⟨bm,rfl⟩:=kH HV
 obtain⟨N1,hN1⟩:=eqX w.heap.size
 have hN1s:N1≤w.heap.size:=Nat.le_of_eq hN1
 have hWN1:W.heap.size≤N1:=by rw[hN1];exact e.size
 replace HV:(Dv (mpE sKV 1024) (fun b=>N1≤b) l).p (.map (some bm)) w:=Dv.weak HV fun b hb hh=>by omega
 replace hf:=hf.kp [1,2,9]
 refine tL I79 hf fun a b7 w e' hb7 hs7 B7 hf=>?_
 have lo7_hN1s:=Nat.le_trans hN1s (Nat.le_of_eq hb7.symm)
 obtain⟨hT,HV,hN1s,e⟩:=up4 e' hT HV hN1s e
 have n7:N1≤b7:=lo7_hN1s
 refine aF T79 hf rfl rfl (ct _ _) B7 rfl (aM _ _) fun w hg hsz B7 hf=>?_
 replace e:=e.gr hg (by omega);replace hT:=hT.gr hg (by omega);replace HV:=Dv.gr HV hg n7;replace hN1s:=Nat.le_trans hN1s hg.size;clear hg
 refine aa ?_
 replace hf:=hf.keep [1,2,7]
 have hdv:(Dv (mpE sKV 1024) G0 l).p (.map (some bm)) w:=Dv.weak HV fun b _ hb=>hb.elim
 by_cases ha:has V a0=true
 ·by_cases hc:has V c0=true
  ·rw[ha,hc,if_pos (show (true&&true)=true from rfl)] at hrr
   obtain⟨x,rfl,hx⟩:=kJ ha
   obtain⟨y,rfl,hy⟩:=kJ hc
   rw[Int.toNat_natCast,Int.toNat_natCast] at hrr
   rw[dsT] at hrr
   have hx1:=aA hx
   refine seq <| seq ?_
   refine rgN 12 hf <| st (fA U79 rfl T76 rfl) <| st ((ldP T76 rfl B7 (by rw[aM];decide)).eq (congrArg Value.agg (bW V (.map (some bm))))) ?_
   refine st (mv rfl) <| st (ap (A:=E (B true)) (B:=E (ae V)) (C:=E (I (x:Nat))) ce rfl rfl (fun v u w he h h'=>by cases h;cases h';rw[← ha];exact ea _ _ w)) ?_
   refine st (aZ rfl) <| st (mv rfl) <| sy rfl rfl (fA U79 rfl T76 rfl) <| sy rfl rfl ((ldP T76 rfl B7 (by rw[aM];decide)).eq (congrArg Value.agg (bW V (.map (some bm))))) ?_
   refine sy rfl rfl (mv rfl) <| sy rfl rfl (ap (A:=E (B true)) (B:=E (ae V)) (C:=E (I (y:Nat))) ce rfl rfl (fun v u w he h h'=>by cases h;cases h';rw[← hc];exact ea _ _ w)) ?_
   refine sy rfl rfl (aZ rfl) <| st (pkF rfl rfl) <| en fun a w e' hf=>?_
   obtain⟨hT,hdv,e,B7⟩:=up4 e' hT hdv e B7
   refine aa <| ifF hf rfl ?_
   refine aj ?_
   replace hf:=hf.keep [1,2,7]
   refine seq <| rgN 5 hf <| st (ldW T79 rfl B7 (aM _ _)) <| st (mv rfl) <| st (ap (A:=Dv (slE aP) G0 (lvB (lkS l) x)) (B:=E (.agg (adC V (.map (some bm))))) (C:=E (I (x:Nat))) fO rfl rfl (fun a b w he k2 k4=>by cases k2;cases k4;exact (gj l V (.map (some bm)) x w (hT.ext he) (Dv.ex hdv he) hx1).mono fun en w' ⟨z,q1,q2,q3⟩=>⟨z,q1,q2,OwR.sl q3⟩)) ?_
   refine st (mv rfl) <| st (ap (A:=E (I rr)) (B:=Dv (slE aP) G0 (lvB (lkS l) x)) (C:=E (I (y:Nat))) jz rfl rfl (fun a b w he k1 k2=>by cases k2;rw[hrr];exact kw _ y a w k1 (Nat.le_trans (eR _ _) (by decide)))) ?_
   refine en fun a w e' hf=>?_
   obtain⟨hT,hdv,e,B7⟩:=up4 e' hT hdv e B7
   refine tA hf rfl fun a hf=>aa <| ak <| an rfl hf rfl ?_
   rintro _ rfl
   exact⟨_,rfl,e,rfl⟩
  ·have hc':has V c0=false:=Bool.eq_false_iff.2 hc
   rw[ha,hc',if_neg (by decide)] at hrr
   subst hrr
   refine seq <| seq ?_
   refine rgN 12 hf <| st (fA U79 rfl T76 rfl) <| st ((ldP T76 rfl B7 (by rw[aM];decide)).eq (congrArg Value.agg (bW V (.map (some bm))))) ?_
   refine st (mv rfl) <| st (ap (A:=E (B true)) (B:=E (ae V)) (C:=E (I a0)) ce rfl rfl (fun v u w he h h'=>by cases h;cases h';rw[← ha];exact ea _ _ w)) ?_
   refine st (aZ rfl) <| st (mv rfl) <| sy rfl rfl (fA U79 rfl T76 rfl) <| sy rfl rfl ((ldP T76 rfl B7 (by rw[aM];decide)).eq (congrArg Value.agg (bW V (.map (some bm))))) ?_
   refine sy rfl rfl (mv rfl) <| sy rfl rfl (ap (A:=E (B false)) (B:=E (ae V)) (C:=E (I c0)) ce rfl rfl (fun v u w he h h'=>by cases h;cases h';rw[← hc'];exact ea _ _ w)) ?_
   refine sy rfl rfl (aZ rfl) <| st (pkF rfl rfl) <| en fun a w e' hf=>?_
   obtain⟨hT,hdv,e,B7⟩:=up4 e' hT hdv e B7
   refine aa <| ifT hf rfl ?_
   refine seq <| ac <| tA hf rfl fun a hf=>aa <| ak <| an rfl hf rfl ?_
   rintro _ rfl
   exact⟨_,rfl,e,rfl⟩
 ·have ha':has V a0=false:=Bool.eq_false_iff.2 ha
  rw[ha',if_neg (by rw[Bool.false_and];decide)] at hrr
  subst hrr
  refine seq <| seq ?_
  refine rgN 12 hf <| st (fA U79 rfl T76 rfl) <| st ((ldP T76 rfl B7 (by rw[aM];decide)).eq (congrArg Value.agg (bW V (.map (some bm))))) ?_
  refine st (mv rfl) <| st (ap (A:=E (B false)) (B:=E (ae V)) (C:=E (I a0)) ce rfl rfl (fun v u w he h h'=>by cases h;cases h';rw[← ha'];exact ea _ _ w)) ?_
  refine st (aZ rfl) <| st (mv rfl) <| sn rfl rfl rfl <| sn rfl rfl rfl <| sn rfl rfl rfl <| sn rfl rfl rfl <| sn rfl rfl rfl <| st (pkT rfl rfl) <| en fun a w e' hf=>?_
  obtain⟨hT,hdv,e,B7⟩:=up4 e' hT hdv e B7
  refine aa <| ifT hf rfl ?_
  refine seq <| ac <| tA hf rfl fun a hf=>aa <| ak <| an rfl hf rfl ?_
  rintro _ rfl
  exact⟨_,rfl,e,rfl⟩
def spF (g:GT)(a b:Int):List Nat:=if dsF g a b = -1 then [] else a.toNat::geF (nbA g) (lvB (nbA g) b.toNat) (dsF g a b).toNat a.toNat
theorem a2N {N:Nat}(g:GT)(ok:Gr.Ok g)(a0 c0:Int)(v:Value)(W:World)(hT:Tab W)(h:(Gn N g).p v W)(hl1:g.1.length≤100000)(hl2:g.2.length≤100000)(hN:N≤1000000) :
  Calls Tryz.prog 32 #[v,I a0,I c0] W (Post (Dv (slE intE) G0 (ah (spF g a0 c0))) W):=by
 have hgd:=h
 have hT0:=hT.lt
 obtain⟨d,hd⟩:=eqX (dsF g a0 c0)
 obtain⟨rr,hrr⟩:=eqX (spF g a0 c0)
 rw[← hrr]
 rw[spF,← hd] at hrr
 refine eN [v,I a0,I c0] [E v,E (I a0),E (I c0)] Tryz.func32 Tryz.ntmps32 ?_ fun a hf=>?_
 rotate_left
 dsimp only[params,Nat.reduceAdd] at hf
 rotate_right
 ·exact eI rfl rfl rfl
 have e:=Ext.rfl' W
 refine seq <| ac <| tA hf rfl fun a hf=>aa ?_
 have e0:=e
 refine seq <| rgN 4 hf <| st (mv rfl) <| st (mv rfl) <| st (mv rfl) <| st (cE (A:=E (I d)) (B:=E v) (C:=E (I a0)) (D:=E (I c0)) wb rfl rfl rfl (fun a b c w he k1 k2 k3=>by cases k1;cases k2;cases k3;rw[hd];exact a2M g ok a0 c0 v w (hT.ext he) (vst (e0.tr he) hgd) hl1 hl2 hN)) ?_
 refine en fun a w e' hf=>?_
 obtain⟨hT,e⟩:=up2 e' hT e
 refine tA hf rfl fun a hf=>aa ?_
 replace hf:=hf.keep [0,1,2,7]
 by_cases h1:d = -1
 ·rw[if_pos h1] at hrr
  subst hrr
  refine seq <| seq ?_
  refine rgN 2 hf <| st (mv rfl) <| st ((eql rfl rfl).eq (congrArg Value.bool ((by rw[h1];rfl:(d == -1)=true)))) ?_
  refine en fun a w e' hf=>?_
  obtain⟨hT,e⟩:=up2 e' hT e
  refine aa <| ifT hf rfl ?_
  refine seq <| ac <| tA hf rfl fun a hf=>aa <| ak <| an rfl hf rfl ?_
  rintro _ rfl
  exact⟨_,rfl,e,Dv.nil⟩
 rw[if_neg h1] at hrr
 refine seq <| seq ?_
 refine rgN 2 hf <| st (mv rfl) <| st ((eql rfl rfl).eq (congrArg Value.bool ((beq_eq_false_iff_ne.2 h1:(d == -1)=false)))) <| en fun a w e' hf=>?_
 obtain⟨hT,e⟩:=up2 e' hT e
 refine aa <| ifF hf rfl ?_
 refine aj ?_
 replace hf:=hf.keep [0,1,2,7]
 have hac:(has (vset g.1) a0&&has (vset g.1) c0)=true:=by
  rw[dsF] at hd
  split at hd
  ·assumption
  ·exact absurd hd h1
 have hd2:=hd
 rw[dsF,if_pos hac] at hd2
 rw[Bool.and_eq_true] at hac
 obtain⟨x,rfl,hx⟩:=kJ hac.1
 obtain⟨y,rfl,hy⟩:=kJ hac.2
 rw[Int.toNat_natCast,Int.toNat_natCast] at hd2 hrr
 have hx1:=aA hx
 have hy1:=aA hy
 rw[a2u (dT ok) hx1 hy1] at hd2
 have hdl:=nG (nb:=nbA g) y x
 have hdh:=a2L (nbA g) y x
 obtain⟨n,hn⟩:∃n:Nat,d=(n:Int):=⟨d.toNat,by omega⟩
 subst hn
 rw[Int.toNat_natCast] at hrr
 have hnsy:=dT ok
 obtain⟨l,hl⟩:=eqX (nbL g (ai (vset g.1)))
 have hnb:nbA g=lkS l:=by rw[hl,nbA]
 rw[hnb] at hrr hd2 hnsy hdl hdh
 obtain⟨V,hV⟩:=eqX (vset g.1)
 have e4:=e
 refine seq <| rgN 2 hf <| st (mv rfl) <| st (aw (A:=cw l V 1024) eH rfl (fun v w he k=>by cases k;rw[hl,hV];exact jb g ok _ w (hT.ext he) (vst (e4.tr he) hgd) hl1 hl2 hN)) ?_
 refine en fun a w e' hf=>?_
 obtain⟨hT,e⟩:=up2 e' hT e
 obtain⟨av,⟨mq,rfl,HV⟩,hf⟩:=hf.opn 18 rfl
 obtain⟨bm,rfl⟩:=kH HV
 obtain⟨N1,hN1⟩:=eqX w.heap.size
 have hN1s:N1≤w.heap.size:=Nat.le_of_eq hN1
 have hWN1:W.heap.size≤N1:=by rw[hN1];exact e.size
 replace HV:(Dv (mpE sKV 1024) (fun b=>N1≤b) l).p (.map (some bm)) w:=Dv.weak HV fun b hb hh=>by omega
 replace hf:=hf.kp [1,2,7,18]
 refine tL I79 hf fun a b8 w e' hb8 hs8 B8 hf=>?_
 have lo8_hN1s:=Nat.le_trans hN1s (Nat.le_of_eq hb8.symm)
 obtain⟨hT,HV,hN1s,e⟩:=up4 e' hT HV hN1s e
 have n8:N1≤b8:=lo8_hN1s
 refine aF T79 hf rfl rfl (ct _ _) B8 rfl (aM _ _) fun w hg hsz B8 hf=>?_
 replace e:=e.gr hg (by omega);replace hT:=hT.gr hg (by omega);replace HV:=Dv.gr HV hg n8;replace hN1s:=Nat.le_trans hN1s hg.size;clear hg
 refine aa ?_
 replace hf:=hf.keep [1,2,7,8]
 obtain⟨L,hL⟩:=eqX (lvB (lkS l) y)
 have hLl:L.length≤1025:=by rw[hL];exact eR _ _
 obtain⟨N2,hN2⟩:=eqX w.heap.size
 have hN2s:N2≤w.heap.size:=Nat.le_of_eq hN2
 have hdv:(Dv (mpE sKV 1024) G0 l).p (.map (some bm)) w:=Dv.weak HV fun b _ hb=>hb.elim
 refine seq <| rgN 3 hf <| st (ldW T79 rfl B8 (aM _ _)) <| st (mv rfl) <| st (ap (A:=OwA aP 76 N2 G0 L) (B:=E (.agg (adC V (.map (some bm))))) (C:=E (I (y:Nat))) fO rfl rfl (fun a b w he k2 k4=>by cases k2;cases k4;rw[hL];exact (gj l V (.map (some bm)) y w (hT.ext he) (Dv.ex hdv he) hy1).mono fun en w' ⟨z,q1,q2,q3⟩=>⟨z,q1,q2,OwR.low q3 (Nat.le_trans hN2s he.size) fun b hb=>hb.elim⟩)) ?_
 refine en fun a w e' hf=>?_
 obtain⟨hT,HV,hdv,hN1s,e,B8⟩:=up6 e' hT HV hdv hN1s e B8
 refine tA hf rfl fun a hf=>aa ?_
 obtain⟨lv,Hr,hf⟩:=hf.opn 9 rfl
 replace Hr:OwR aP 76 N2 G0 w L lv:=Hr
 obtain⟨N3,hN3⟩:=eqX w.heap.size
 have hN3s:N3≤w.heap.size:=Nat.le_of_eq hN3
 have HL:(Dv (slE aP) (fun b=>N3≤b) L).p lv w:=Hr.slN fun b hb hh=>by have:=(Hr.lt hb).2;omega
 have HM:(Dv (mpE sKV 1024) (fun b=>N3≤b) l).p (.map (some bm)) w:=Dv.weak hdv fun b hb hh=>by omega
 have h8:b8<N3:=by rw[hN3];exact B8.lt
 have hT3:0<N3:=by rw[hN3];exact hT.lt
 have hW3:W.heap.size≤N3:=by rw[hN3];exact e.size
 replace hf:=hf.keep [1,7,8,9]
 refine seq <| rgN 2 hf <| st (mv rfl) <| st (mg (B:=N3) (G:=G0) U35 I3 rfl rfl hN3s (fun b hb=>hb.elim)) <| en fun a w e' hf=>?_
 obtain⟨hT,HL,HM,hN3s,e,B8⟩:=up6 e' hT HL HM hN3s e B8
 refine tA hf rfl fun a hf=>aa ?_
 obtain⟨u0,Ho,hf⟩:=hf.opn 10 rfl
 replace Ho:OwR intE 3 N3 G0 w (ah [x]) u0:=Ho
 replace hf:=hf.keep [1,7,8,9,10]
 refine seq <| seq ?_
 refine rgN 2 hf <| st (mv rfl) <| st (sub rfl rfl (by omega)) <| en fun a w e' hf=>?_
 obtain⟨hT,HL,HM,Ho,e,B8⟩:=up6 e' hT HL HM Ho e B8
 refine tA hf rfl fun a hf=>aa ?_
 replace hf:=hf.keep [1,7,8,9,10]
 refine blk (aK (fun r0 a w=>∃(z:Nat) (out:List Nat) (u:Value),dsT (lkS l) y z=(r0:Int)∧z<1024∧out++geF (lkS l) L r0 z=rr∧out.length+r0≤1026∧Fr 48 a w [(1,E (I (z:Nat))),(7,E (I ((r0:Int) - 1))),(8,E (ptr b8)),(9,E lv),(10,E u)]∧Ext W w∧Tab w∧Blk w b8 (adC V (.map (some bm))) 79 ∧
  (Dv (slE aP) (fun b=>N3≤b) L).p lv w∧(Dv (mpE sKV 1024) (fun b=>N3≤b) l).p (.map (some bm)) w∧OwR intE 3 N3 G0 w (ah out) u) n ⟨x,[x],u0,hd2.symm,hx1,by rw[hrr,hL];rfl,by simp only[List.length_singleton];omega,hf,e,hT,B8,HL,HM,Ho⟩ ?_)
 rintro r0 a w ⟨z,out,u,hdz,hz,hR,hlen,hf,e,hT,B8,HL,HM,Ho⟩
 refine seq <| seq ?_
 refine rgN 2 hf <| st (mv rfl) <| st (geq rfl rfl) <| en fun a w e' hf=>?_
 obtain⟨hT,HL,HM,Ho,e,B8⟩:=up6 e' hT HL HM Ho e B8
 refine aa <| ifc hf rfl (fun hc=>aj ?_) (fun hc=>aH ?_)
 ·obtain⟨k,rfl⟩:∃k,r0=k+1:=⟨r0 - 1,by have:=of_decide_eq_true hc;omega⟩
  refine seq <| blk ?_
  rw[show (((k+1:Nat):Int) - 1)=((k:Nat):Int) by omega] at hf
  obtain⟨q,hq1,hq2⟩:=a2t hnsy hy1 hdz
  obtain⟨T,hT1,hT2⟩:=tw.1 hq2
  rw[← hL] at hT1
  have hgs:gs L k=T:=by rw[gs,hT1];rfl
  have hmn:aN (lkS l (z:Int) &&& T)≠none:=fun h=>by
   have h2:=eJ.1 h
   have h3:=(cY _ _ _).2 ⟨hq1,hT2⟩
   rw[h2] at h3;exact aU _ h3
  rw[geF,hgs] at hR
  obtain⟨z2,hz2⟩:∃z2,aN (lkS l (z:Int) &&& T)=some z2:=Option.ne_none_iff_exists'.1 hmn
  have hz2m:=fu hz2
  have hz2d:dsT (lkS l) y z2=(k:Int):=tw.2 ⟨T,by rw[← hL];exact hT1,((cY _ _ _).1 hz2m).2⟩
  have hz21:=aA hz2m
  have hwz:(Lit.int .i64 (z:Int)).wf=true:=bP (by omega) (by omega)
  rw[hz2,Option.getD_some] at hR
  replace hf:=hf.keep [1,7,8,9,10]
  refine seq <| a2K 14 Mix.mix hf (by decide +kernel) <| st (fA U79 rfl T77 rfl) <| st (ld1 (v:=.map (some bm)) T77 rfl B8 (bN _ _)) <| st (mv rfl) <| st (lkM (l:=l) (i:=(z:Int)) U77 bZ (isE rfl HM) rfl hwz) <| st (mv rfl) <| st (mv rfl) <| st (aG U83 S76 (isE rfl HL) rfl (by omega) (hT1)) <| st (ldS T76 (isR rfl)) <| st (ap (A:=E (ae (lkS l (z:Int) &&& T))) (B:=E (ae (lkS l (z:Int)))) (C:=E (ae T)) dZ rfl rfl (fun v u w he h h'=>by cases h;cases h';exact iC _ T w)) ?_
  refine st (aw (A:=Tup [E (I (z2:Nat)),E (B true)]) fP rfl (fun v w he h=>by cases h;have hm:=fT (lkS l (z:Int) &&& T) w (hT.ext he);rw[gK,hz2] at hm;exact hm)) ?_
  refine st (mv rfl) <| st (bs rfl rfl) <| st (bs rfl rfl) <| st (asg rfl) <| en fun a w e' hf=>?_
  obtain⟨hT,HL,HM,Ho,e,B8⟩:=up6 e' hT HL HM Ho e B8
  refine aa ?_
  replace hf:=hf.kp [1,7,8,9,10]
  refine rgN 3 hf <| st (mv rfl) <| st (mv rfl) <| st (aX U35 I3 rfl (by decide) rfl Ho.avs (isI rfl)) <| en fun a w e' hf=>?_
  obtain⟨hT,B8,HL,HM,Ho,e⟩:=up6 e' hT B8 HL HM Ho e
  haveI hin:∀G0,InR (GB W G0) _:=OwR.inGB (W:=W) Ho (by omega)
  refine bG U35 I3 rfl rfl hf (by decide) rfl Ho (isR rfl) (by rw[bB,List.length_singleton];omega) (by rw[bB,List.length_singleton];simp only[maxLen];omega) fun a v w hg hat Hn hf=>?_
  replace e:=e.gro hg (Ho.row (W:=W) (by omega))
  have hrow:=Ho.row (W:=W) (by omega)
  replace hT:=hT.gro hg (fun b hb=>by have:=(Ho.lt hb).1;omega)
  replace B8:=B8.gro hg (Ho.neLt h8)
  replace HL:=Dv.gro HL hg (fun b hb=>(Ho.lt hb).1)
  replace HM:=Dv.gro HM hg (fun b hb=>(Ho.lt hb).1)
  replace Ho:=Hn
  replace Ho:=Hn;clear Hn hg hat hin
  refine tA hf rfl fun a hf=>aa ?_
  rw[← gV] at Ho
  replace hf:=hf.kp [1,7,8,9,10]
  refine rgN 2 hf <| st (mv rfl) <| st (sub rfl rfl (by omega)) <| en fun a w e' hf=>?_
  obtain⟨hT,HL,HM,Ho,e,B8⟩:=up6 e' hT HL HM Ho e B8
  refine tA hf rfl fun a hf=>aa ?_
  replace hf:=hf.keep [1,7,8,9,10]
  exact⟨k,Nat.lt_succ_self _,z2,out++[z2],_,hz2d,hz21,by rw[List.append_assoc];exact hR,by rw[List.length_append,List.length_singleton];omega,hf,e,hT,B8,HL,HM,Ho⟩
 ·obtain rfl:r0=0:=by have:=of_decide_eq_false hc;omega
  rw[geF,List.append_nil] at hR
  rw[hR] at Ho
  replace hf:=hf.keep [10]
  refine seq <| rgN 1 hf <| st (mv rfl) <| en fun a w e' hf=>?_
  obtain⟨Ho,e⟩:=up2 e' Ho e
  refine tA hf rfl fun a hf=>aa <| ak <| an rfl hf rfl ?_
  rintro _ rfl
  exact⟨_,rfl,e,Ho.sl⟩
def wkN (nb:Int→BS)(a:Nat):Nat→BS
 | 0=>ins 0 (a:Int)
 | n+1=>nxN nb (wkN nb a n)
def wkL (nb:Int→BS)(a m:Nat):List BS:=(List.range (m+1)).map (wkN nb a)
theorem a2O (nb:Int→BS)(a m:Nat):wkL nb a (m+1)=wkL nb a m++[nxN nb (wkN nb a m)]:=by rw[wkL,List.range_succ,List.map_append];rfl
theorem a2P (nb:Int→BS)(a m:Nat):(wkL nb a m).length=m+1:=by simp[wkL]
theorem kK (nb:Int→BS)(a:Nat){m i:Nat}(h:i≤m):(wkL nb a m)[i]?=some (wkN nb a i):=by
 rw[wkL,List.getElem?_map,List.getElem?_range (by omega)];rfl
structure WkK (W:World)(N0 N:Nat)(S0:BS)(mq:Value)(l:List (Int×BS))(b3:Nat)(u:Value)(out:List BS)(D:List Nat)(w:World):Prop where
 e:Ext W w
 t:Tab w
 hv:(Dv (mpE sKV N0) (GB W Go.Mono.G0) l).p mq w
 b3:Blk w b3 (adC S0 mq) 79
 o:OwR aP 76 N Go.Mono.G0 w out u
 ds:Ds D w
theorem WkK.kp {W:World}{N0 N:Nat}{S0:BS}{mq:Value}{l:List (Int×BS)}{b3:Nat}{u:Value}{out:List BS}{D:List Nat}{B:Nat}{w w':World}(h:WkK W N0 N S0 mq l b3 u out D w)(k:Kp B w w')(hW:W.heap.size≤B)(h0:0<B)(l3:b3<B)(lu:∀g,u.ownBlock=some g→g<B)(hD:∀d∈D,d<B) :
  WkK W N0 N S0 mq l b3 u out D w':=
 have no:∀{b},b<B→¬aW B b:=fun h hh=>by have:=hh.1;omega
 ⟨h.e.kp k hW,h.t.kp k h0,Dv.ch h.hv k.chg (fun b hb=>.inr (by have:=hb.1;omega)),h.b3.kp k (no l3),h.o.chE k.chg fun g hg=>no (lu g hg),h.ds.ch k.chg fun d hd=>no (hD d hd)⟩
theorem tN {G:Nat→Prop}{N0:Nat}(l:List (Int×BS))(S0:BS)(mq:Value)(x m:Nat)(W:World)(hT:Tab W)(h:(Dv (mpE sKV N0) G l).p mq W)(hx:x<1024)(hm:m≤2000) :
  Calls Tryz.prog 79 #[.agg (adC S0 mq),I (x:Nat),I (m:Nat)] W (Post (OwA aP 76 W.heap.size Go.Mono.G0 (wkL (lkS l) x m)) W):=by
 have HV:(Dv (mpE sKV N0) (GB W Go.Mono.G0) l).p mq W:=Dv.toB (Dv.weak h fun b _ hb=>hb.elim)
 have hT0:=hT.lt
 refine dx (args:=[.agg (adC S0 mq),I (x:Nat),I (m:Nat)]) (As:=[E (.agg (adC S0 mq)),E (I (x:Nat)),E (I (m:Nat))]) Tryz.func79 rfl Tryz.ntmps79 (Nat.le_of_ble_eq_true rfl) ?_ (fun a hf=>?_) (Nat.le_of_ble_eq_true rfl)
 ·exact eI rfl rfl rfl
 have e:=Ext.rfl' W
 refine seq <| ac <| tB hf rfl fun a b3 w v3 hv3 e' hb3 hs3 B3 hf=>?_
 obtain⟨hT,HV,e⟩:=up3 e' hT HV e
 refine tA hf rfl fun a hf=>aa ?_
 cases hv3
 replace B3:Blk w b3 (adC S0 mq) 79:=B3
 have hW3:W.heap.size≤b3:=by omega
 replace hf:=hf.keep [1,2,3]
 obtain⟨N,hN⟩:=eqX w.heap.size
 have hNs:N≤w.heap.size:=Nat.le_of_eq hN
 have hWN:W.heap.size≤N:=by rw[hN];exact e.size
 have h3N:b3<N:=by rw[hN];exact B3.lt
 obtain⟨S1,hS1⟩:=eqX (ins 0 (x:Int))
 refine seq <| rgN 4 hf <| st (mv rfl) <| st (aX (e:=intE) (G:=Go.Mono.G0) U35 I3 rfl (by decide) rfl (fun b hb=>hb.elim) (isI rfl)) <| st ((aw jC rfl (fun v w he h=>jT [(x:Int)] v w h (by simp))).eq (congrArg ae ((mC (x:Int) 0).trans hS1.symm))) <| st (yQ (e:=aP) (B:=N) (G:=Go.Mono.G0) (G0:=Go.Mono.G0) U83 I76 rfl (by decide) rfl (isS rfl) hNs (fun b hb=>hb.elim)) <| en fun a w e' hf=>?_
 obtain⟨hT,HV,e,B3⟩:=up4 e' hT HV e B3
 refine tA hf rfl fun a hf=>aa ?_
 obtain⟨u0,Ho,hf⟩:=hf.opn 7 rfl
 replace Ho:OwR aP 76 N Go.Mono.G0 w [S1] u0:=Ho
 replace hf:=hf.keep [2,3,7]
 refine seq <| seq ?_
 refine rgN 2 hf <| st (mv rfl) <| st (mv rfl) <| en fun a w e' hf=>?_
 obtain⟨hT,HV,Ho,e,B3⟩:=up5 e' hT HV Ho e B3
 refine aa ?_
 have h00:wkL (lkS l) x 0=[S1]:=by rw[hS1];rfl
 rw[← h00] at Ho
 replace hf:=hf.keep [3,7,14,15]
 refine blk (aK (fun r0 a w=>∃(k:Nat) (u:Value) (D:List Nat),r0=m - k∧k≤m∧FrD 37 (bS D) a w [(3,E (ptr b3)),(7,E u),(14,E (I (m:Nat))),(15,E (I (k:Nat)))]∧WkK W N0 N S0 mq l b3 u (wkL (lkS l) x k) D w∧∀d∈D,W.heap.size≤d) m ⟨0,u0,[],rfl,Nat.zero_le _,hf,⟨e,hT,HV,B3,Ho,Ds.nil _⟩,fun d hd=>by cases hd⟩ ?_)
 rintro r0 a w ⟨k,u,D,rfl,hkm,hf,⟨e,hT,HV,B3,Ho,hD⟩,hDW⟩
 refine seq <| rgN 1 hf <| st (lss rfl rfl) <| en fun a w e' hf=>?_
 obtain⟨hT,HV,e,B3,hD,Ho⟩:=up6 e' hT HV e B3 hD Ho
 refine aa <| seq <| ifc hf rfl (fun hc=>aj ?_) (fun hc=>aH ?_)
 rotate_left
 ·obtain rfl:k=m:=by have:=of_decide_eq_false hc;omega
  replace hf:=hf.keep [7]
  refine seq <| rgN 1 hf <| st (mv rfl) <| en fun a w e' hf=>?_
  obtain⟨e,hD,Ho⟩:=up3 e' e hD Ho
  refine tA hf rfl fun a hf=>aa <| ak <| jJ rfl hf rfl hD ⟨_,rfl,e.shut hDW,?_⟩
  exact (Ho.chE (ed D w) fun b hb hm=>Ho.neDs hD hm hb).low (by omega) fun b hb=>hb.elim
 have hlt:k<m:=by have:=of_decide_eq_true hc;omega
 refine seq <| blk ?_
 obtain⟨out,hout⟩:=eqX (wkL (lkS l) x k)
 obtain⟨at',hat'⟩:∃at',at'=wkN (lkS l) x k:=⟨_,rfl⟩
 have hol:out.length=k+1:=by rw[hout,a2P]
 have hola:out[k]?=some at':=by rw[hout,hat'];exact kK _ _ (Nat.le_refl k)
 have hsuc:wkL (lkS l) x (k+1)=out++[nxN (lkS l) at']:=by rw[a2O,hout,hat']
 rw[← hout] at Ho
 replace hf:=hf.keep [3,7,14,15]
 refine seq <| ac <| tL I76 hf fun a b8 w e' hb8 hs8 B8 hf=>?_
 have hle8:=Nat.le_trans e.size (Nat.le_of_eq hb8.symm)
 have ne8_Ho:=Ho.ne_new hb8
 have lt8_B3:=B3.lt
 obtain⟨hT,HV,e,B3,hD,Ho⟩:=up6 e' hT HV e B3 hD Ho
 refine aa ?_
 simp only[Value.cells,dL] at B8
 have hW8:W.heap.size≤b8:=hle8
 have n8:b3≠b8:=by have:=B3.lt;omega
 have hu8:=ne8_Ho
 have hD8:¬b8∈D:=hD.ne B8
 replace hf:=hf.kp [3,7,8,14,15]
 obtain⟨Nz,hNz⟩:=eqX w.heap.size
 have hix:((out.length:Nat):Int) - 1=((k:Nat):Int):=by rw[hol];omega
 refine seq <| seq ?_
 refine rgN 7 hf <| st (mv rfl) <| st (mv rfl) <| st (aI U83 (isE rfl Ho.sl)) <| st ((sub rfl rfl (by omega)).eq (congrArg (Value.int .i64) hix)) <| st (aG U83 S76 (isE rfl Ho.sl) rfl (by omega) (hola)) <| st (ldS T76 (isR rfl)) <| st (aw (A:=dh Nz at') dr rfl (fun v w' he h=>by cases h;exact Calls.mono (du _ w') (fun en w2 ⟨u,h1,h2,b',h3,h4,h5⟩=>⟨u,h1,h2,b',by have:=he.size;omega,h4,h5⟩))) ?_
 refine en fun a w e' hf=>?_
 obtain⟨hT,HV,e,B3,B8,hD,Ho⟩:=up7 e' hT HV e B3 B8 hD Ho
 refine aa ?_
 obtain⟨vv,⟨b23,h23,rfl,BS⟩,hf⟩:=hf.fix 23 rfl
 replace hf:=hf.kp [3,7,8,14,15,23]
 have l3:=B3.lt
 have l8:=B8.lt
 have lu:∀g,u.ownBlock=some g→g<w.heap.size:=fun g hg=>(Ho.lt hg).2
 have lD:∀d∈D,d<w.heap.size:=fun d hd=>hD.lt hd
 have hBW:W.heap.size≤w.heap.size:=e.size
 have h0w:0<w.heap.size:=hT.lt
 refine blk <| dz (S:=at') hf rfl BS (by decide) (fun s w1=>WkK W N0 N S0 mq l b3 u out D w1∧Blk w1 b8 (aJ (nxP (lkS l) s)) 76) (fun _ _=>False) (fun s w1 h=>h.1.t)
  ⟨⟨e,hT,HV,B3,Ho,hD⟩,B8⟩ (fun s w1 w2 h hs k=>⟨h.1.kp k hBW h0w l3 lu lD,h.2.kp k (fun hh=>by have:=hh.1;omega)⟩) (fun _ _ _ h=>h.elim) ?_ ?_ (fun _ _ _ _ _ _ h=>h.elim)
 ·intro lp s y rest a1 w1 hs hJ hlw hf
  have hy1024:y<1024:=(aD.1 (by rw[hs];simp)).1
  generalize hBz:w.heap.size=Bz at *
  refine ac <| tA hf rfl fun a hf=>aa <| ⟨Kh.rfl' _ _,fun w3 k3 hsz3=>?_⟩
  have hJ3:=hJ.1.kp k3 hBW h0w l3 lu lD
  have hJ8:=hJ.2.kp k3 (fun hh=>by have:=hh.1;omega)
  replace hf:=hf.pure w3
  obtain⟨e,hT,HV,B3,Ho,hD⟩:=hJ3
  have B8:=hJ8
  have kh:=Kh.rfl' Bz w3
  obtain⟨X,hX⟩:=eqX (nxP (lkS l) s)
  rw[← hX] at B8
  replace hf:=hf.kp [3,7,8,9,14,15]
  refine blk <| rgN 6 hf <| st ((ldW T76 rfl B8 rfl).eq ((rfl:_=ae X))) <| st (fA U79 rfl T77 rfl) <| st (ld1 (v:=mq) T77 rfl B3 (bN _ _)) <| st (mv rfl) <| st (lkM (l:=l) (i:=(y:Int)) U77 bZ (isE rfl HV) rfl (bP (by omega) (by omega))) <| st (ap (A:=E (ae (X ||| lkS l (y:Int)))) iy rfl rfl (fun v u w he h h'=>by cases h;cases h';exact iB X _ w)) ?_
  refine en fun a w e' hf=>?_
  obtain⟨hT,HV⟩:=up2 e' hT HV
  replace kh:=kh.tr (Kh.ext e')
  obtain⟨e,B3,B8,hD,Ho⟩:=up5 e' e B3 B8 hD Ho
  refine aF T76 hf rfl rfl (bk _) B8 rfl (bc _) fun w hg hsz B8 hf=>?_
  obtain⟨e,hT,HV,B3⟩:=gr4 hg e hT HV B3
  replace Ho:=Ho.grE hg hu8;replace hD:=hD.gr hg hD8
  replace kh:=kh.tr (Kh.gr hg (fun hh=>by have:=hh.1;omega))
  refine aa ?_
  simp only[Exit.inBlock]
  exact⟨⟨⟨e,hT,HV,B3,Ho,hD⟩,by rw[sR,← hX];exact B8⟩,kh⟩
 ·intro a' w' hf' hJ hsz hDn
  simp only[Exit.inBlock,↓reduceIte,Exit.then]
  have hD2:Ds (w.heap.size::D) w':=hJ.1.ds.cons hDn fun hm=>Nat.lt_irrefl _ (lD _ hm)
  have hf:FrD 37 (bS (w.heap.size::D)) a' w' [(3,E (ptr b3)),(7,E u),(8,E (ptr b8)),(14,E (I (m:Nat))),(15,E (I (k:Nat)))]:=hf'.keep [3,7,8,14,15]
  have hDW2:∀d∈w.heap.size::D,W.heap.size≤d:=fun d hd=>by
   rcases List.mem_cons.1 hd with rfl|hd
   ·exact hBW
   ·exact hDW d hd
  obtain⟨⟨e,hT,HV,B3,Ho,_⟩,B8⟩:=hJ
  replace hD:=hD2
  generalize w.heap.size::D=D2 at *
  generalize w'=w at *
  replace B8:Blk w b8 (aJ (nxN (lkS l) at')) 76:=B8
  obtain⟨nx,hnx⟩:=eqX (nxN (lkS l) at')
  rw[← hnx] at B8 hsuc
  refine rgN 3 hf <| st (mv rfl) <| st ((ldW T76 rfl B8 rfl).eq ((rfl:_=ae nx))) <| st (aX U83 I76 rfl (by decide) rfl Ho.avs (isS rfl)) <| en fun a w e' hf=>?_
  obtain⟨hT,HV,B3,hD,B8,Ho,e⟩:=up7 e' hT HV B3 hD B8 Ho e
  haveI hin:∀G0,InR (GB W G0) _:=OwR.inGB (W:=W) Ho (by omega)
  refine bG U83 I76 rfl rfl hf (by decide) rfl Ho (isR rfl) (by rw[hol,List.length_singleton];omega) (by rw[hol,List.length_singleton];simp only[maxLen];omega) fun a v w hg hat Hn hf=>?_
  replace e:=e.gro hg (Ho.row (W:=W) (by omega))
  have hrow:=Ho.row (W:=W) (by omega)
  replace hT:=hT.gro hg (fun b hb=>by have:=(Ho.lt hb).1;omega)
  replace HV:=Dv.gro HV hg (fun b hb=>.inr (by have:=(Ho.lt hb).1;omega))
  replace B3:=B3.gro hg (Ho.neLt h3N)
  replace hD:=hD.gro hg fun d hd=>Ho.neDs hD hd
  replace B8:=B8.gro hg hu8
  replace Ho:=Hn
  replace Ho:=Hn;clear Hn hg hat hin
  refine tA hf rfl fun a hf=>aa ?_
  rw[← hsuc] at Ho
  replace hf:=hf.keep [3,7,14,15]
  refine rgN 1 hf <| st ((add rfl rfl (by omega)).eq (iN k)) <| en fun a w e' hf=>?_
  obtain⟨hT,HV,e,B3,hD,Ho⟩:=up6 e' hT HV e B3 hD Ho
  refine tP hf (mv rfl) fun a w e' hf=>?_
  obtain⟨hT,HV,e,B3,hD,Ho⟩:=up6 e' hT HV e B3 hD Ho
  refine aa ?_
  replace hf:=hf.keep [3,7,14,15]
  exact⟨m - (k+1),by omega,k+1,v,D2,rfl,by omega,hf,⟨e,hT,HV,B3,Ho,hD⟩,hDW2⟩
def odN (nb:Int→BS)(x:Nat):Nat→Nat→Nat→Nat
 | 0,_,bst=>bst
 | f+1,n,bst=>if n<bst then odN nb x f (n+2) (if (wkN nb x n).getLsbD x=true then n else bst) else bst
def odS (nb:Int→BS)(bst x:Nat):Nat:=odN nb x bst 3 bst
theorem tO (nb:Int→BS)(x:Nat):∀f n bst,odN nb x f n bst≤bst
 | 0,n,bst=>Nat.le_refl _
 | f+1,n,bst=>by
  rw[odN];split
  ·refine Nat.le_trans (tO nb x f _ _) ?_
   split <;> omega
  ·exact Nat.le_refl _
theorem tQ (nb:Int→BS)(x:Nat):∀f n bst k,k≤n→k≤bst→k≤odN nb x f n bst
 | 0,n,bst,k,h1,h2=>h2
 | f+1,n,bst,k,h1,h2=>by
  rw[odN];split
  ·refine tQ nb x f _ _ k (by omega) ?_
   split <;> omega
  ·exact h2
def odB (nb:Int→BS)(V:BS)(s:List Nat):Nat:=s.foldl (odS nb) (card V+1)
theorem a2Q (nb:Int→BS)(V:BS)(s:List Nat)(x:Nat):odB nb V (s++[x])=odS nb (odB nb V s) x:=by rw[odB,List.foldl_append];rfl
theorem tR (nb:Int→BS)(V:BS):∀s,odB nb V s≤card V+1:=by
 have key:∀(s:List Nat) (b:Nat),s.foldl (odS nb) b≤b:=by
  intro s
  induction s with
  | nil=>intro b;exact Nat.le_refl _
  | cons x s ih=>intro b;exact Nat.le_trans (ih _) (tO nb x _ _ _)
 exact fun s=>key s _
theorem a2R (nb:Int→BS)(V:BS):∀s,1≤odB nb V s:=by
 have key:∀(s:List Nat) (b:Nat),1≤b→1≤s.foldl (odS nb) b:=by
  intro s
  induction s with
  | nil=>intro b h;exact h
  | cons x s ih=>intro b h;exact ih _ (tQ nb x _ _ _ 1 (by omega) h)
 exact fun s=>key s _ (by omega)
def ocG (nb:Int→BS)(x:Nat):Nat→Nat→List Nat
 | 0,_=>[]
 | n+1,last=>(aN (nb (last:Int) &&& wkN nb x (n+1))).getD 0::ocG nb x n ((aN (nb (last:Int) &&& wkN nb x (n+1))).getD 0)
def ocL (nb:Int→BS)(V:BS)(n:Nat):List Nat→BS→Option (List Nat)
 | [],_=>none
 | x::r,left=>if (wkN (cj nb (V &&& left)) x n).getLsbD x=true then some (x::ocG (cj nb (V &&& left)) x (n - 1) x) else ocL nb V n r (del left (x:Int))
def kL (nb:Int→BS)(V:BS):Option (List Nat):=if card V<odB nb V (ai V) then none else ocL nb V (odB nb V (ai V)) (ai V) V
theorem tS {A B:VA}{v:Value}{w:World}(h:(Tup [A,B]).p v w):(Tup [A,Any]).p v w:=by
 obtain⟨vs,h1,h2,h3⟩:=h
 refine⟨vs,h1,h2,fun i C hi=>?_⟩
 rcases i with _|_|i
 ·cases hi;exact h3 0 _ rfl
 ·cases hi;trivial
 ·simp at hi
theorem tT (S:BS):(aN S).getD 0<1024:=by
 cases h:aN S with
 | none=>decide
 | some k=>exact aA (fu h)
structure OdJ (W:World)(nm bm:Nat)(l:List (Int×BS))(V:BS)(b2 b3 b4 n:Nat)(w:World):Prop where
 e:Ext W w
 t:Tab w
 m:MpR sKV w bm nm l
 p2:Blk w b2 #[.slice none 0 0] 35
 p3:Blk w b3 (adC V (.map (some bm))) 79
 p4:Blk w b4 #[I (n:Nat)] 3
theorem OdJ.kp {W:World}{nm bm:Nat}{l:List (Int×BS)}{V:BS}{b2 b3 b4 n:Nat}{B:Nat}{w w':World}(h:OdJ W nm bm l V b2 b3 b4 n w)(k:Kp B w w')(hW:W.heap.size≤B)(h0:0<B)(l2:b2<B)(l3:b3<B)(l4:b4<B)(lm:bm<B) :
  OdJ W nm bm l V b2 b3 b4 n w':=
 have no:∀{b},b<B→¬aW B b:=fun h hh=>by have:=hh.1;omega
 ⟨h.e.kp k hW,h.t.kp k h0,h.m.pres (k.same bm h.m.lt (no lm)),h.p2.kp k (no l2),h.p3.kp k (no l3),h.p4.kp k (no l4)⟩
theorem a2S {N:Nat}(g:GT)(ok:Gr.Ok g)(v:Value)(W:World)(hT:Tab W)(h:(Gn N g).p v W)(hl1:g.1.length≤100000)(hl2:g.2.length≤100000)(hN:N≤1000000) :
  Calls Tryz.prog 25 #[v] W (Post (CyA G0 (kL (nbA g) (vset g.1))) W):=by
 have hgd:=h
 obtain⟨l,hl⟩:=eqX (nbL g (ai (vset g.1)))
 have hnb:nbA g=lkS l:=by rw[hl,nbA]
 rw[hnb]
 obtain⟨V,hV⟩:=eqX (vset g.1)
 rw[← hV]
 obtain⟨rr,hrr⟩:=eqX (kL (lkS l) V)
 rw[← hrr]
 rw[kL] at hrr
 have hcV:=em V
 have hT0:=hT.lt
 refine dx (args:=[v]) (As:=[E v]) Tryz.func25 rfl Tryz.ntmps25 (Nat.le_of_ble_eq_true rfl) ?_ (fun a hf=>?_) (Nat.le_of_ble_eq_true rfl)
 ·exact arg1 rfl
 dsimp only[params,Nat.reduceAdd] at hf
 have e:=Ext.rfl' W
 refine seq <| ac <| tL I35 hf fun a b2 w e' hb2 hs2 B2 hf=>?_
 have hle2:=Nat.le_trans e.size (Nat.le_of_eq hb2.symm)
 obtain⟨hT,e⟩:=up2 e' hT e
 refine aa ?_
 replace B2:Blk w b2 #[.slice none 0 0] 35:=B2
 have n2:W.heap.size≤b2:=hle2
 replace hf:=hf.kp [0,2]
 have e0:=e
 refine seq <| rgN 2 hf <| st (mv rfl) <| st (aw (A:=cw l V 1024) eH rfl (fun v w he k=>by cases k;rw[hl,hV];exact jb g ok _ w (hT.ext he) (vst (e0.tr he) hgd) hl1 hl2 hN)) ?_
 refine en fun a w e' hf=>?_
 obtain⟨hT,e,B2⟩:=up3 e' hT e B2
 obtain⟨av,⟨mq,rfl,HV0⟩,hf⟩:=hf.opn 17 rfl
 obtain⟨cs,⟨bm0,nm0,rfl,_,hnm0,HM0⟩,hmq⟩:=HV0
 replace hmq:mq=.map (some bm0):=hmq
 subst hmq
 obtain⟨N1,hN1⟩:=eqX w.heap.size
 have hN1s:N1≤w.heap.size:=Nat.le_of_eq hN1
 have hbm0:bm0<N1:=by rw[hN1];exact HM0.lt
 have hb2N:b2<N1:=by rw[hN1];exact B2.lt
 have hWN1:W.heap.size≤N1:=by rw[hN1];exact e.size
 replace hf:=hf.kp [2,17]
 refine tL I79 hf fun a b3 w e' hb3 hs3 B3 hf=>?_
 have hle3:=Nat.le_trans e.size (Nat.le_of_eq hb3.symm)
 have lo3_hN1s:=Nat.le_trans hN1s (Nat.le_of_eq hb3.symm)
 have lt3_B2:=B2.lt
 obtain⟨hT,HM0,hN1s,e,B2⟩:=up5 e' hT HM0 hN1s e B2
 have n3:N1≤b3:=lo3_hN1s
 refine aF T79 hf rfl rfl (ct _ _) B3 rfl (aM _ _) fun w hg hsz B3 hf=>?_
 replace e:=e.gr hg (by omega);replace hT:=hT.gr hg (by omega);replace HM0:=HM0.gr hg (fun h=>by cases h;omega);replace B2:=B2.gr hg (by omega);replace hN1s:=Nat.le_trans hN1s hg.size;clear hg
 refine aa ?_
 replace hf:=hf.kp [2,3]
 have l3':=B3.lt
 refine seq <| rgN 4 hf <| st (fA U79 rfl T76 rfl) <| st ((ldP T76 rfl B3 (by rw[aM];decide)).eq (congrArg Value.agg (bW V (.map (some bm0))))) ?_
 refine st (aw (A:=E (I (card V))) (B:=E (ae V)) lR rfl (fun v w he h=>by cases h;exact mD V w)) ?_
 refine st ((add rfl rfl (by omega)).eq (congrArg (Value.int .i64) (show (card V:Int)+1=((card V+1:Nat):Int) from rfl))) <| en fun a w e' hf=>?_
 obtain⟨hT,HM0,hN1s,e,B2,B3⟩:=up6 e' hT HM0 hN1s e B2 B3
 refine tL I3 hf fun a b4 w e' hb4 hs4 B4 hf=>?_
 have hle4:=Nat.le_trans e.size (Nat.le_of_eq hb4.symm)
 have lo4_hN1s:=Nat.le_trans hN1s (Nat.le_of_eq hb4.symm)
 have lt4_B2:=B2.lt
 have lt4_B3:=B3.lt
 obtain⟨hT,HM0,hN1s,e,B2,B3⟩:=up6 e' hT HM0 hN1s e B2 B3
 have n4:N1≤b4∧b3≠b4∧b2≠b4:=⟨lo4_hN1s,by omega,by omega⟩
 replace hf:=hf.kp [2,3,4,21]
 refine aO T3 hf rfl rfl rfl B4 Nat.zero_lt_one fun w hg hsz B4 hf=>?_
 replace e:=e.gr hg (by omega);replace hT:=hT.gr hg (by omega);replace HM0:=HM0.gr hg (fun h=>by cases h;omega);replace B2:=B2.gr hg (by omega);replace B3:=B3.gr hg (by omega);replace hN1s:=Nat.le_trans hN1s hg.size;clear hg
 refine aa ?_
 replace B4:Blk w b4 #[I ((odB (lkS l) V []:Nat))] 3:=B4
 replace hf:=hf.kp [2,3,4]
 obtain⟨Nz,hNz⟩:=eqX w.heap.size
 refine seq <| seq ?_
 refine rgN 3 hf <| st (fA U79 rfl T76 rfl) <| st ((ldP T76 rfl B3 (by rw[aM];decide)).eq (congrArg Value.agg (bW V (.map (some bm0))))) ?_
 refine st (aw (A:=dh Nz V) dr rfl (fun v w' he h=>by cases h;exact Calls.mono (du _ w') (fun en w2 ⟨u,h1,h2,b',h3,h4,h5⟩=>⟨u,h1,h2,b',by have:=he.size;omega,h4,h5⟩))) ?_
 refine en fun a w e' hf=>?_
 obtain⟨hT,HM0,hN1s,e,B2,B3,B4⟩:=up7 e' hT HM0 hN1s e B2 B3 B4
 refine aa ?_
 obtain⟨vv,⟨b24,h24,rfl,BS⟩,hf⟩:=hf.fix 24 rfl
 replace hf:=hf.kp [2,3,4,24]
 obtain⟨nb,hnb'⟩:∃nb,nb=lkS l:=⟨_,rfl⟩
 rw[← hnb'] at hrr B4
 have hBW:W.heap.size≤w.heap.size:=e.size
 have h0w:0<w.heap.size:=hT.lt
 have l2:=B2.lt
 have l3:=B3.lt
 have l4:=B4.lt
 have lm:=HM0.lt
 refine blk <| dz (S:=V) hf rfl BS (by decide) (fun s w1=>OdJ W nm0 bm0 l V b2 b3 b4 (odB nb V s) w1) (fun _ _=>False) (fun s w1 h=>h.t)
  ⟨e,hT,HM0,B2,B3,B4⟩ (fun s w1 w2 h hs k=>h.kp k hBW h0w l2 l3 l4 lm) (fun _ _ _ h=>h.elim) ?_ ?_ (fun _ _ _ _ _ _ h=>h.elim)
 ·intro lp s x rest a1 w1 hs hJ hlw hf
  have hxV:V.getLsbD x=true:=(aD.1 (by rw[hs];simp)).2
  have hx1024:x<1024:=aA hxV
  generalize hBz:w.heap.size=Bz at *
  refine ac <| tA hf rfl fun a hf=>aa <| ⟨Kh.rfl' _ _,fun w3 k3 hsz3=>?_⟩
  have hJ3:=hJ.kp k3 hBW h0w l2 l3 l4 lm
  have hw3:Bz+3≤w3.heap.size:=by omega
  replace hf:=hf.pure w3
  obtain⟨e,hT,HM0,B2,B3,B4⟩:=hJ3
  have kh:=Kh.rfl' Bz w3
  have hsuc:=a2Q nb V s x
  obtain⟨b0,hb0⟩:=eqX (odB nb V s)
  have hb0l:b0≤1025:=by rw[hb0];have:=tR nb V s;omega
  rw[← hb0] at B4 hsuc
  rw[odS] at hsuc
  have hdv:=HM0.dvE hnm0 (G:=G0) (fun h=>h)
  obtain⟨Nw,hNw⟩:=eqX w3.heap.size
  have hNws:Nw≤w3.heap.size:=Nat.le_of_eq hNw
  have h4w:b4<Nw:=by rw[hNw];exact B4.lt
  replace hf:=hf.kp [2,3,4,5]
  refine blk <| seq <| rgN 4 hf <| st (ldW T79 rfl B3 (aM _ _)) <| st (mv rfl) <| st (ld1 (v:=I (b0:Nat)) T3 rfl B4 rfl) <| st (cE (A:=OwA aP 76 Nw G0 (wkL nb x b0)) (B:=E (.agg (adC V (.map (some bm0))))) (C:=E (I (x:Nat))) (D:=E (I (b0:Nat))) pJ rfl rfl rfl (fun a b c w he k1 k2 k3=>by cases k1;cases k2;cases k3;rw[hnb'];exact (tN l V (.map (some bm0)) x b0 w (hT.ext he) (Dv.ex hdv he) hx1024 (by omega)).mono fun en w' ⟨u,k1,k2,k3⟩=>⟨u,k1,k2,OwR.low k3 (Nat.le_trans hNws he.size) fun b hb=>hb.elim⟩)) ?_
  refine en fun a w e' hf=>?_
  obtain⟨hT,HM0⟩:=up2 e' hT HM0
  replace kh:=kh.tr (Kh.ext e')
  obtain⟨e,B2,B3,B4⟩:=up4 e' e B2 B3 B4
  refine tA hf rfl fun a hf=>aa ?_
  replace hf:=hf.kp [2,3,4,5,6]
  obtain⟨wv,HW,hf⟩:=hf.opn 6 rfl
  replace HW:OwR aP 76 Nw G0 w (wkL nb x b0) wv:=HW
  refine seq <| ac <| tA hf rfl fun a hf=>aa ?_
  replace hf:=hf.kp [2,3,4,5,6,7]
  refine blk (aK (fun r0 a w=>∃(n bst:Nat),odN nb x r0 n bst=odB nb V (s++[x])∧bst≤n+r0∧bst≤b0∧n+2 * r0≤3000∧Fr 101 a w [(2,E (ptr b2)),(3,E (ptr b3)),(4,E (ptr b4)),(5,E (I (x:Nat))),(6,E wv),(7,E (I (n:Nat)))]∧OdJ W nm0 bm0 l V b2 b3 b4 bst w∧Kh Bz w3 w∧OwR aP 76 Nw G0 w (wkL nb x b0) wv) b0 ⟨3,b0,hsuc.symm,by omega,Nat.le_refl _,by omega,hf,⟨e,hT,HM0,B2,B3,B4⟩,kh,HW⟩ ?_)
  rintro r0 a w ⟨n,bst,hR,hbr,hb0',hn3,hf,⟨e,hT,HM0,B2,B3,B4⟩,kh,HW⟩
  refine seq <| seq ?_
  refine rgN 3 hf <| st (mv rfl) <| st (ld1 (v:=I (bst:Nat)) T3 rfl B4 rfl) <| st (lss rfl rfl) <| en fun a w e' hf=>?_
  obtain⟨hT,HM0⟩:=up2 e' hT HM0
  replace kh:=kh.tr (Kh.ext e')
  obtain⟨HW,e,B2,B3,B4⟩:=up5 e' HW e B2 B3 B4
  refine aa <| ifc hf rfl (fun hc=>aj ?_) (fun hc=>aH ?_)
  ·have hlt:n<bst:=by have:=of_decide_eq_true hc;omega
   obtain⟨f,rfl⟩:∃f,r0=f+1:=⟨r0 - 1,by omega⟩
   rw[odN,if_pos hlt] at hR
   refine seq <| blk ?_
   have hwn:=kK nb x (m:=b0) (i:=n) (by omega)
   obtain⟨Sn,hSn⟩:=eqX (wkN nb x n)
   rw[← hSn] at hwn hR
   have hbit:has Sn (x:Int)=Sn.getLsbD x:=by rw[Bool.eq_iff_iff];exact dR Sn x
   replace hf:=hf.kp [2,3,4,5,6,7]
   refine seq <| rgN 6 hf <| st (mv rfl) <| st (mv rfl) <| st (aG U83 S76 (isE rfl HW.sl) rfl (by omega) (hwn)) <| st (ldS T76 (isR rfl)) <| st (mv rfl) <| st (ap (A:=E (B (Sn.getLsbD x))) (B:=E (ae Sn)) (C:=E (I (x:Nat))) ce rfl rfl (fun v u w he h h'=>by cases h;cases h';rw[← hbit];exact ea _ _ w)) ?_
   refine en fun a w e' hf=>?_
   obtain⟨hT,HM0⟩:=up2 e' hT HM0
   replace kh:=kh.tr (Kh.ext e')
   obtain⟨HW,e,B2,B3,B4⟩:=up5 e' HW e B2 B3 B4
   refine aa ?_
   replace hf:=hf.kp [2,3,4,5,6,7,40]
   by_cases hh:Sn.getLsbD x=true
   ·rw[if_pos hh] at hR
    rw[hh] at hf
    refine ifT hf rfl ?_
    refine rgN 1 hf <| st (mv rfl) <| en fun a w e' hf=>?_
    obtain⟨hT,HM0⟩:=up2 e' hT HM0
    replace kh:=kh.tr (Kh.ext e')
    obtain⟨HW,e,B2,B3,B4⟩:=up5 e' HW e B2 B3 B4
    replace hf:=hf.kp [2,3,4,5,6,7,41]
    refine aO T3 hf rfl rfl rfl B4 Nat.zero_lt_one fun w hg hsz B4 hf=>?_
    replace e:=e.gr hg (by omega);replace hT:=hT.gr hg (by omega);replace HM0:=HM0.gr hg (fun h=>by cases h;omega);replace B2:=B2.gr hg (by omega);replace B3:=B3.gr hg (by omega);replace kh:=kh.tr (Kh.gr hg (fun hh=>by have:=hh.1;omega));replace HW:=HW.grE hg (HW.neLt h4w);clear hg
    refine aa ?_
    replace B4:Blk w b4 #[I (n:Nat)] 3:=B4
    replace hf:=hf.kp [2,3,4,5,6,7]
    refine rgN 2 hf <| st (mv rfl) <| st ((add rfl rfl (by omega)).eq (congrArg (Value.int .i64) (show (n:Int)+2=((n+2:Nat):Int) from rfl))) <| en fun a w e' hf=>?_
    obtain⟨hT,HM0⟩:=up2 e' hT HM0
    replace kh:=kh.tr (Kh.ext e')
    obtain⟨HW,e,B2,B3,B4⟩:=up5 e' HW e B2 B3 B4
    refine tA hf rfl fun a hf=>aa ?_
    replace hf:=hf.kp [2,3,4,5,6,7]
    exact⟨f,Nat.lt_succ_self _,n+2,n,hR,by omega,by omega,by omega,hf,⟨e,hT,HM0,B2,B3,B4⟩,kh,HW⟩
   ·rw[if_neg hh] at hR
    rw[Bool.eq_false_iff.2 hh] at hf
    refine ifF hf rfl ?_
    refine aj ?_
    replace hf:=hf.kp [2,3,4,5,6,7]
    refine rgN 2 hf <| st (mv rfl) <| st ((add rfl rfl (by omega)).eq (congrArg (Value.int .i64) (show (n:Int)+2=((n+2:Nat):Int) from rfl))) <| en fun a w e' hf=>?_
    obtain⟨hT,HM0⟩:=up2 e' hT HM0
    replace kh:=kh.tr (Kh.ext e')
    obtain⟨HW,e,B2,B3,B4⟩:=up5 e' HW e B2 B3 B4
    refine tA hf rfl fun a hf=>aa ?_
    replace hf:=hf.kp [2,3,4,5,6,7]
    exact⟨f,Nat.lt_succ_self _,n+2,bst,hR,by omega,by omega,by omega,hf,⟨e,hT,HM0,B2,B3,B4⟩,kh,HW⟩
  ·have hge:¬n<bst:=by have:=of_decide_eq_false hc;omega
   have hR2:odB nb V (s++[x])=bst:=by
    rw[← hR]
    cases r0 with
    | zero=>rfl
    | succ f=>rw[odN,if_neg hge]
   exact⟨⟨e,hT,HM0,B2,B3,by rw[hR2];exact B4⟩,kh⟩
 ·intro a' w' hf' hJ hsz hDn
  simp only[Exit.inBlock,↓reduceIte,Exit.then]
  have hD:Ds [w.heap.size] w':=(Ds.nil w').cons hDn (by simp)
  have hf:FrD 101 (bS [w.heap.size]) a' w' [(2,E (ptr b2)),(3,E (ptr b3)),(4,E (ptr b4))]:=hf'.keep [2,3,4]
  obtain⟨d1,hd1⟩:=eqX w.heap.size
  rw[← hd1] at hD hf
  have hDW:∀d∈[d1],W.heap.size≤d:=fun d hd=>by rw[List.mem_singleton] at hd;omega
  obtain⟨e,hT,HM0,B2,B3,B4⟩:=hJ
  obtain⟨n,hn⟩:=eqX (odB nb V (ai V))
  rw[← hn] at B4 hrr
  have hn1:1≤n:=by rw[hn];exact a2R nb V _
  have hn2:n≤1025:=by rw[hn];have:=tR nb V (ai V);omega
  have hd1w:d1<w'.heap.size:=hD.lt (by simp)
  have nb2:=hD.ne B2
  have nb3:=hD.ne B3
  have nb4:=hD.ne B4
  generalize w'=w at *
  by_cases hcn:card V<n
  ·rw[if_pos hcn] at hrr
   subst hrr
   refine seq <| seq ?_
   refine rgG 5 Mix.mix hf <| st (ld1 (v:=I (n:Nat)) T3 rfl B4 rfl) <| st (fA U79 rfl T76 rfl) <| st ((ldP T76 rfl B3 (by rw[aM];decide)).eq (congrArg Value.agg (bW V (.map (some bm0))))) ?_
   refine st (aw (A:=E (I (card V))) (B:=E (ae V)) lR rfl (fun v w he h=>by cases h;exact mD V w)) ?_
   refine st ((gtr rfl rfl).eq (congrArg Value.bool (decide_eq_true (show (card V:Int)<(n:Int) by omega)))) <| en fun a w e' hf=>?_
   obtain⟨hT,HM0,e,B2,B3,B4,hD⟩:=up7 e' hT HM0 e B2 B3 B4 hD
   refine aa <| ifT hf rfl ?_
   replace hf:=hf.kp [2]
   refine seq <| ac <| aO T35 hf rfl rfl rfl B2 Nat.zero_lt_one fun w hg hsz B2 hf=>?_
   replace e:=e.gr hg (by omega)
   replace hD:=hD.gr hg nb2
   refine aa <| ak <| ee rfl T35 hf rfl B2 hD ⟨_,rfl,e.shut hDW,rfl⟩
  rw[if_neg hcn] at hrr
  refine seq <| seq ?_
  refine rgG 5 Mix.mix hf <| st (ld1 (v:=I (n:Nat)) T3 rfl B4 rfl) <| st (fA U79 rfl T76 rfl) <| st ((ldP T76 rfl B3 (by rw[aM];decide)).eq (congrArg Value.agg (bW V (.map (some bm0))))) ?_
  refine st (aw (A:=E (I (card V))) (B:=E (ae V)) lR rfl (fun v w he h=>by cases h;exact mD V w)) ?_
  refine st ((gtr rfl rfl).eq (congrArg Value.bool (decide_eq_false (show ¬(card V:Int)<(n:Int) by omega)))) <| en fun a w e' hf=>?_
  obtain⟨hT,HM0,e,B2,B3,B4,hD⟩:=up7 e' hT HM0 e B2 B3 B4 hD
  refine aa <| ifF hf rfl ?_
  refine aj ?_
  replace hf:=hf.kp [2,3,4]
  obtain⟨N6,hN6⟩:=eqX w.heap.size
  have hN6s:N6≤w.heap.size:=Nat.le_of_eq hN6
  have hl6:b2<N6∧b3<N6∧b4<N6∧bm0<N6∧d1<N6∧W.heap.size≤N6:=by have h1:=B2.lt;have h2:=B3.lt;have h3:=B4.lt;have h4:=HM0.lt;have h5:=e.size;have h6:=hD.lt (List.mem_singleton.2 rfl:d1∈[d1]);omega
  refine seq <| ac <| tP hf (fA U79 rfl T76 rfl) fun a w e' hf=>?_
  obtain⟨hT,HM0,hN6s,e,B2,B3,B4,hD⟩:=up8 e' hT HM0 hN6s e B2 B3 B4 hD
  refine tP hf ((ldP T76 rfl B3 (by rw[aM];decide)).eq (congrArg Value.agg (bW V (.map (some bm0))))) fun a w e' hf=>?_
  obtain⟨hT,HM0,hN6s,e,B2,B3,B4,hD⟩:=up8 e' hT HM0 hN6s e B2 B3 B4 hD
  refine tL I76 hf fun a b8 w e' hb8 hs8 B8 hf=>?_
  have hle8:=Nat.le_trans e.size (Nat.le_of_eq hb8.symm)
  have lo8_hN6s:=Nat.le_trans hN6s (Nat.le_of_eq hb8.symm)
  have lt8_B2:=B2.lt
  obtain⟨hT,HM0,hN6s,e,B2,B3,B4,hD⟩:=up8 e' hT HM0 hN6s e B2 B3 B4 hD
  have n8:N6≤b8:=lo8_hN6s
  have nd8:¬b8∈[d1]:=fun h=>by rw[List.mem_singleton] at h;omega
  replace hf:=hf.kp [2,3,4,8,48]
  refine aF T76 hf rfl rfl (bk _) B8 rfl (bc _) fun w hg hsz B8 hf=>?_
  replace e:=e.gr hg (by omega);replace hT:=hT.gr hg (by omega);replace HM0:=HM0.gr hg (fun h=>by cases h;omega);replace B2:=B2.gr hg (by omega);replace B3:=B3.gr hg (by omega);replace B4:=B4.gr hg (by omega);replace hD:=hD.gr hg nd8;clear hg hN6s
  refine aa ?_
  replace hf:=hf.kp [2,3,4,8]
  obtain⟨Nz,hNz⟩:=eqX w.heap.size
  refine seq <| seq ?_
  refine rgN 3 hf <| st (fA U79 rfl T76 rfl) <| st ((ldP T76 rfl B3 (by rw[aM];decide)).eq (congrArg Value.agg (bW V (.map (some bm0))))) ?_
  refine st (aw (A:=dh Nz V) dr rfl (fun v w' he h=>by cases h;exact Calls.mono (du _ w') (fun en w2 ⟨u,h1,h2,b',h3,h4,h5⟩=>⟨u,h1,h2,b',by have:=he.size;omega,h4,h5⟩))) ?_
  refine en fun a w e' hf=>?_
  obtain⟨hT,HM0,e,B2,B3,B4,B8,hD⟩:=up8 e' hT HM0 e B2 B3 B4 B8 hD
  refine aa ?_
  obtain⟨vv,⟨b51,h51,rfl,BS⟩,hf⟩:=hf.fix 51 rfl
  replace hf:=hf.kp [2,3,4,8,51]
  have hBW:W.heap.size≤w.heap.size:=e.size
  have h0w:0<w.heap.size:=hT.lt
  have l2:=B2.lt
  have l3:=B3.lt
  have l4:=B4.lt
  have l8:=B8.lt
  have lm:=HM0.lt
  have ld1':=hD.lt (List.mem_singleton.2 rfl:d1∈[d1])
  refine blk <| dz (S:=V) hf rfl BS (by decide) (fun s w1=>(ScJ W nm0 bm0 l V b2 b3 b4 b8 n (.slice none 0 0) (dD V s) w1∧Ds [d1] w1)∧(∀rest,ai V=s++rest→ocL nb V n (ai V) V=ocL nb V n rest (dD V s)))
   (fun ex w1=>ex=.ret∧∃r out left,(ScJ W nm0 bm0 l V b2 b3 b4 b8 n r left w1∧Ds [d1] w1)∧ocL nb V n (ai V) V=some out∧out≠[]∧(Dv (slE intE) (fun b=>b<w.heap.size+3) (ah out)).p r w1) (fun s w1 h=>h.1.1.t)
   ⟨⟨⟨e,hT,HM0,B2,B3,B4,B8⟩,hD⟩,fun rest hr=>by rw[List.nil_append] at hr;rw[← hr];rfl⟩ (fun s w1 w2 h hs k=>⟨⟨h.1.1.kp k hBW h0w l2 l3 l4 l8 lm,h.1.2.ch k.chg fun d hd hh=>by rw[List.mem_singleton] at hd;have:=hh.1;omega⟩,h.2⟩)
   (fun ex w1 w2 ⟨q1,r,out,left,q2,q3,q4,q5⟩ hs k=>⟨q1,r,out,left,⟨q2.1.kp k hBW h0w l2 l3 l4 l8 lm,q2.2.ch k.chg fun d hd hh=>by rw[List.mem_singleton] at hd;have:=hh.1;omega⟩,q3,q4,Dv.ch q5 k.chg fun b hb=>hb.2⟩) ?_ ?_ ?_
  ·intro lp s x rest a1 w1 hs hJ hlw hf
   have hxV:V.getLsbD x=true:=(aD.1 (by rw[hs];simp)).2
   have hx1024:x<1024:=aA hxV
   generalize hBz:w.heap.size=Bz at *
   refine ac <| tA hf rfl fun a hf=>aa <| ⟨Kh.rfl' _ _,fun w3 k3 hsz3=>?_⟩
   have hJ3:=hJ.1.1.kp k3 hBW h0w l2 l3 l4 l8 lm
   have hJd:=hJ.1.2.ch k3.chg fun d hd hh=>by rw[List.mem_singleton] at hd;have:=hh.1;omega
   have hJs:=hJ.2
   have hw3:Bz+3≤w3.heap.size:=by omega
   replace hf:=hf.pure w3
   obtain⟨e,hT,HM0,B2,B3,B4,B8⟩:=hJ3
   have hD:=hJd
   have kh:=Kh.rfl' Bz w3
   obtain⟨left,hleft⟩:=eqX (dD V s)
   have hdl:dD V (s++[x])=del left (x:Int):=by rw[tt,hleft]
   have hsc:=hJs (x::rest) hs
   rw[← hleft] at B8 hsc
   rw[ocL] at hsc
   obtain⟨S7,hS7⟩:=eqX (V &&& left)
   rw[← hS7] at hsc
   have hwi:=nq l S7
   rw[← hnb'] at hwi
   obtain⟨nw,hnw⟩:=eqX (cj nb S7)
   rw[← hnw] at hsc hwi
   have hdv:=HM0.dvE hnm0 (G:=G0) (fun h=>h)
   have nd8':=hD.ne B8
   replace hf:=hf.kp [2,3,4,8,9]
   refine blk <| seq <| rgN 3 hf <| st (ldW T79 rfl B3 (aM _ _)) <| st ((ldW T76 rfl B8 rfl).eq ((rfl:_=ae left))) <| st (ap (A:=cw (wiL l S7) S7 1024) (B:=E (.agg (adC V (.map (some bm0))))) (C:=E (ae left)) lQ rfl rfl (fun a b w he k1 k2=>by cases k1;cases k2;rw[hS7];exact ns l V left (.map (some bm0)) w (hT.ext he) (Dv.ex hdv he))) ?_
   refine en fun a w e' hf=>?_
   obtain⟨hT,HM0⟩:=up2 e' hT HM0
   replace kh:=kh.tr (Kh.ext e')
   obtain⟨hw3,e,B2,B3,B4,B8,hD⟩:=up7 e' hw3 e B2 B3 B4 B8 hD
   obtain⟨av,⟨mq7,rfl,HV7⟩,hf⟩:=hf.opn 55 rfl
   obtain⟨cs7,⟨bm7,nm7,rfl,_,hnm7,HM7⟩,hmq7⟩:=HV7
   replace hmq7:mq7=.map (some bm7):=hmq7
   subst hmq7
   have hbn7:bm7≠b8:=HM7.neB B8
   have hbn2:bm7≠b2:=HM7.neB B2
   have nd8':=hD.ne B8
   obtain⟨N7,hN7⟩:=eqX w.heap.size
   have hN7s:N7≤w.heap.size:=Nat.le_of_eq hN7
   have hl7:b2<N7∧b3<N7∧b4<N7∧b8<N7∧bm0<N7∧bm7<N7∧Bz+3≤N7∧d1<N7∧W.heap.size≤N7:=by have:=HM7.lt;have:=hD.lt (List.mem_singleton.2 rfl:d1∈[d1]);have:=e.size;have h1:=B2.lt;have h2:=B3.lt;have h3:=B4.lt;have h4:=B8.lt;have h5:=HM0.lt;omega
   replace hf:=hf.kp [2,3,4,8,9,55]
   refine tL I79 hf fun a b10 w e' hb10 hs10 B10 hf=>?_
   have lo10_hN7s:=Nat.le_trans hN7s (Nat.le_of_eq hb10.symm)
   have lt10_B2:=B2.lt
   obtain⟨hT,HM0⟩:=up2 e' hT HM0
   replace kh:=kh.tr (Kh.ext e')
   obtain⟨hw3,HM7,hN7s,e,B2,B3,B4,B8,hD⟩:=up9 e' hw3 HM7 hN7s e B2 B3 B4 B8 hD
   have n10:N7≤b10:=lo10_hN7s
   have nd10:¬b10∈[d1]:=fun h=>by rw[List.mem_singleton] at h;omega
   refine aF T79 hf rfl rfl (ct _ _) B10 rfl (aM _ _) fun w hg hsz B10 hf=>?_
   replace e:=e.gr hg (by omega);replace hT:=hT.gr hg (by omega);replace HM0:=HM0.gr hg (fun h=>by cases h;omega);replace HM7:=HM7.gr hg (fun h=>by cases h;omega);replace B2:=B2.gr hg (by omega);replace B3:=B3.gr hg (by omega);replace B4:=B4.gr hg (by omega);replace B8:=B8.gr hg (by omega);replace hD:=hD.gr hg nd10;replace kh:=kh.tr (Kh.gr hg (fun hh=>by have:=hh.2;omega));clear hg hN7s
   refine aa ?_
   have hl10:=B10.lt
   replace hf:=hf.kp [2,3,4,8,9,10]
   refine seq <| rgN 3 hf <| st ((ldW T76 rfl B8 rfl).eq ((rfl:_=ae left))) <| st (mv rfl) <| st (ap (A:=E (ae (del left (x:Int)))) (B:=E (ae left)) (C:=E (I (x:Nat))) gG rfl rfl (fun v u w he h h'=>by cases h;cases h';exact gJ _ _ w)) ?_
   refine en fun a w e' hf=>?_
   obtain⟨hT,HM0,HM7⟩:=up3 e' hT HM0 HM7
   replace kh:=kh.tr (Kh.ext e')
   obtain⟨e,B2,B3,B4,B8,B10,hD⟩:=up7 e' e B2 B3 B4 B8 B10 hD
   refine aF T76 hf rfl rfl (bk _) B8 (bc _) (bc _) fun w hg hsz B8 hf=>?_
   replace e:=e.gr hg (by omega);replace hT:=hT.gr hg (by omega);replace HM0:=HM0.gr hg (fun h=>by cases h;omega);replace HM7:=HM7.gr hg (fun h=>by cases h;omega);replace B2:=B2.gr hg (by omega);replace B3:=B3.gr hg (by omega);replace B4:=B4.gr hg (by omega);replace B10:=B10.gr hg (by omega);replace hD:=hD.gr hg nd8';replace kh:=kh.tr (Kh.gr hg (fun hh=>by have:=hh.1;omega));clear hg
   refine aa ?_
   replace hf:=hf.kp [2,3,4,8,9,10]
   obtain⟨N8,hN8⟩:=eqX w.heap.size
   have hN8s:N8≤w.heap.size:=Nat.le_of_eq hN8
   have hl8:N7≤N8∧b10<N8:=by rw[hN8];exact⟨by have:=B10.lt;omega,B10.lt⟩
   have hdv7:=HM7.dvE hnm7 (G:=G0) (fun h=>h)
   refine seq <| rgN 4 hf <| st (ldW T79 rfl B10 (aM _ _)) <| st (mv rfl) <| st (ld1 (v:=I (n:Nat)) T3 rfl B4 rfl) <| st (cE (A:=OwA aP 76 N8 G0 (wkL nw x n)) (B:=E (.agg (adC S7 (.map (some bm7))))) (C:=E (I (x:Nat))) (D:=E (I (n:Nat))) pJ rfl rfl rfl (fun a b c w he k1 k2 k3=>by cases k1;cases k2;cases k3;rw[← hwi];exact (tN (wiL l S7) S7 (.map (some bm7)) x n w (hT.ext he) (Dv.ex hdv7 he) hx1024 (by omega)).mono fun en w' ⟨u,k1,k2,k3⟩=>⟨u,k1,k2,OwR.low k3 (Nat.le_trans hN8s he.size) fun b hb=>hb.elim⟩)) ?_
   refine en fun a w e' hf=>?_
   obtain⟨hT,HM0,HM7⟩:=up3 e' hT HM0 HM7
   replace kh:=kh.tr (Kh.ext e')
   obtain⟨e,B2,B3,B4,B8,B10,hD⟩:=up7 e' e B2 B3 B4 B8 B10 hD
   refine tA hf rfl fun a hf=>aa ?_
   replace hf:=hf.kp [2,3,4,8,9,10,11]
   obtain⟨wv,HW,hf⟩:=hf.opn 11 rfl
   replace HW:OwR aP 76 N8 G0 w (wkL nw x n) wv:=HW
   have hwn:=kK nw x (m:=n) (i:=n) (Nat.le_refl n)
   obtain⟨Sn,hSn⟩:=eqX (wkN nw x n)
   rw[← hSn] at hwn hsc
   have hbit:has Sn (x:Int)=Sn.getLsbD x:=by rw[Bool.eq_iff_iff];exact dR Sn x
   refine seq <| seq ?_
   refine rgN 7 hf <| st (mv rfl) <| st (ld1 (v:=I (n:Nat)) T3 rfl B4 rfl) <| st (aG U83 S76 (isE rfl HW.sl) rfl (by omega) (hwn)) <| st (ldS T76 (isR rfl)) <| st (mv rfl) <| st (ap (A:=E (B (Sn.getLsbD x))) (B:=E (ae Sn)) (C:=E (I (x:Nat))) ce rfl rfl (fun v u w he h h'=>by cases h;cases h';rw[← hbit];exact ea _ _ w)) ?_
   refine st (aZ rfl) <| en fun a w e' hf=>?_
   obtain⟨hT,HM0,HM7⟩:=up3 e' hT HM0 HM7
   replace kh:=kh.tr (Kh.ext e')
   obtain⟨HW,e,B2,B3,B4,B8,B10,hD⟩:=up8 e' HW e B2 B3 B4 B8 B10 hD
   refine aa ?_
   replace hf:=hf.keep [2,3,4,8,9,10,11,69]
   by_cases hh:Sn.getLsbD x=true
   ·rw[if_pos hh] at hsc
    rw[hh] at hf
    refine ifF hf rfl ?_
    refine aj ?_
    replace hf:=hf.keep [2,3,4,8,9,10,11]
    obtain⟨N9,hN9⟩:=eqX w.heap.size
    have hN9s:N9≤w.heap.size:=Nat.le_of_eq hN9
    have hl9:N8≤N9∧∀b,wv.ownBlock=some b→b<N9:=by rw[hN9];exact⟨by have:=HW.base;omega,fun b hb=>(HW.lt hb).2⟩
    have hW9:0<N9:=by omega
    refine seq <| rgN 2 hf <| st (mv rfl) <| st (mg (B:=N9) (G:=G0) U35 I3 rfl rfl hN9s (fun b hb=>hb.elim)) <| en fun a w e' hf=>?_
    obtain⟨hT,HM0,HM7⟩:=up3 e' hT HM0 HM7
    replace kh:=kh.tr (Kh.ext e')
    obtain⟨HW,hN9s,e,B2,B3,B4,B8,B10,hD⟩:=up9 e' HW hN9s e B2 B3 B4 B8 B10 hD
    refine tA hf rfl fun a hf=>aa ?_
    obtain⟨u0,Ho,hf⟩:=hf.opn 12 rfl
    replace Ho:OwR intE 3 N9 G0 w (ah [x]) u0:=Ho
    replace hf:=hf.keep [2,3,4,8,9,10,11,12]
    refine seq <| seq ?_
    refine rgN 2 hf <| st (ld1 (v:=I (n:Nat)) T3 rfl B4 rfl) <| st ((sub rfl rfl (by omega)).eq (congrArg (Value.int .i64) (show (n:Int) - 1=((n - 1:Nat):Int) by omega))) <| en fun a w e' hf=>?_
    obtain⟨hT,HM0,HM7⟩:=up3 e' hT HM0 HM7
    replace kh:=kh.tr (Kh.ext e')
    obtain⟨HW,Ho,e,B2,B3,B4,B8,B10,hD⟩:=up9 e' HW Ho e B2 B3 B4 B8 B10 hD
    refine tA hf rfl fun a hf=>aa ?_
    replace hf:=hf.keep [2,3,4,8,9,10,11,12,13]
    obtain⟨tot,htot⟩:=eqX (x::ocG nw x (n - 1) x)
    rw[← htot] at hsc
    refine blk (aK (fun r0 a w=>∃(last:Nat) (out:List Nat) (u:Value),out++ocG nw x r0 last=tot∧out≠[]∧out.getLastD 0=last∧last<1024∧r0≤n - 1∧out.length+r0≤1026∧Fr 101 a w [(2,E (ptr b2)),(3,E (ptr b3)),(4,E (ptr b4)),(8,E (ptr b8)),(9,E (I (x:Nat))),(10,E (ptr b10)),(11,E wv),(12,E u),(13,E (I (r0:Nat)))] ∧
     ScJ W nm0 bm0 l V b2 b3 b4 b8 n (.slice none 0 0) (del left (x:Int)) w∧Ds [d1] w∧Kh Bz w3 w∧Blk w b10 (adC S7 (.map (some bm7))) 79∧MpR sKV w bm7 nm7 (wiL l S7)∧OwR aP 76 N8 G0 w (wkL nw x n) wv∧OwR intE 3 N9 G0 w (ah out) u) (n - 1)
     ⟨x,[x],u0,by rw[htot];rfl,by simp,rfl,hx1024,Nat.le_refl _,by simp only[List.length_singleton];omega,hf,⟨e,hT,HM0,B2,B3,B4,B8⟩,hD,kh,B10,HM7,HW,Ho⟩ ?_)
    rintro r0 a w ⟨last,out,u,hR,hne,hla,hl1024,hrn,hlen,hf,⟨e,hT,HM0,B2,B3,B4,B8⟩,hD,kh,B10,HM7,HW,Ho⟩
    refine seq <| seq ?_
    refine rgN 2 hf <| st (mv rfl) <| st (gtr rfl rfl) <| en fun a w e' hf=>?_
    obtain⟨hT,HM0,HM7⟩:=up3 e' hT HM0 HM7
    replace kh:=kh.tr (Kh.ext e')
    obtain⟨HW,Ho,e,B2,B3,B4,B8,B10,hD⟩:=up9 e' HW Ho e B2 B3 B4 B8 B10 hD
    refine aa <| ifc hf rfl (fun hc=>aj ?_) (fun hc=>aH ?_)
    ·obtain⟨k,rfl⟩:∃k,r0=k+1:=⟨r0 - 1,by have:=of_decide_eq_true hc;omega⟩
     refine seq <| blk ?_
     have hgl:=ny hne
     rw[hla] at hgl
     have hwl:1≤out.length:=by
      cases out with
      | nil=>exact absurd rfl hne
      | cons _ _=>rw[List.length_cons];omega
     have hol:(ah out).length=out.length:=bB out
     have hwk:=kK nw x (m:=n) (i:=k+1) (by omega)
     obtain⟨Sk,hSk⟩:=eqX (wkN nw x (k+1))
     rw[← hSk] at hwk
     rw[ocG,← hSk] at hR
     obtain⟨nx,hnx⟩:=eqX ((aN (nw (last:Int) &&& Sk)).getD 0)
     have hnx1:nx<1024:=by rw[hnx];exact tT _
     rw[← hnx] at hR
     have hwz:(Lit.int .i64 (last:Int)).wf=true:=bP (by omega) (by omega)
     have hdv7:=HM7.dvE hnm7 (G:=G0) (fun h=>h)
     have hix:((((ah out).length:Nat):Int) - 1)=(((out.length - 1:Nat)):Int):=by rw[hol];omega
     replace hf:=hf.kp [2,3,4,8,9,10,11,12,13]
     refine seq <| rgG 20 Mix.mix hf <| st (fA U79 rfl T77 rfl) <| st (ld1 (v:=.map (some bm7)) T77 rfl B10 (bN _ _)) <| st (mv rfl) <| st (mv rfl) <| st (aI U35 (isE rfl Ho.sl)) <| st ((sub rfl rfl (by omega)).eq (congrArg (Value.int .i64) hix)) <| st (aG U35 S3 (isE rfl Ho.sl) rfl (by omega) (hgl)) <| st (ldI T3 (isR rfl)) <| st ((lkM (l:=wiL l S7) (i:=(last:Int)) U77 bZ (isE rfl hdv7) rfl hwz).eq (congrArg ae (congrFun hwi (last:Int)))) <| st (mv rfl) <| st (mv rfl) <| st (aG U83 S76 (isE rfl HW.sl) rfl (by omega) (hwk)) <| st (ldS T76 (isR rfl)) <| st (ap (A:=E (ae (nw (last:Int) &&& Sk))) (B:=E (ae (nw (last:Int)))) (C:=E (ae Sk)) dZ rfl rfl (fun v u w he h h'=>by cases h;cases h';exact iC _ Sk w)) ?_
     refine st (aw (A:=Tup [E (I (nx:Nat)),Any]) fP rfl (fun v w he h=>by cases h;have hm:=fT (nw (last:Int) &&& Sk) w (hT.ext he);rw[gK,← hnx] at hm;exact hm.mono fun en w' ⟨u,k1,k2,k3⟩=>⟨u,k1,k2,tS k3⟩)) ?_
     refine st (mv rfl) <| st (bs rfl rfl) <| st (bs rfl rfl) <| st (asg rfl) <| st (asg rfl) <| en fun a w e' hf=>?_
     obtain⟨hT,HM0,HM7⟩:=up3 e' hT HM0 HM7
     replace kh:=kh.tr (Kh.ext e')
     obtain⟨HW,Ho,e,B2,B3,B4,B8,B10,hD⟩:=up9 e' HW Ho e B2 B3 B4 B8 B10 hD
     refine aa ?_
     replace hf:=hf.kp [2,3,4,8,9,10,11,12,13,14]
     refine rgN 3 hf <| st (mv rfl) <| st (mv rfl) <| st (aX U35 I3 rfl (by decide) rfl Ho.avs (isI rfl)) <| en fun a w e' hf=>?_
     obtain⟨hT,HM0,HM7⟩:=up3 e' hT HM0 HM7
     replace kh:=kh.tr (Kh.ext e')
     obtain⟨HW,hD,B2,B3,B4,B8,B10,Ho,e⟩:=up9 e' HW hD B2 B3 B4 B8 B10 Ho e
     haveI hin:∀G0,InR (GB W G0) _:=OwR.inGB (W:=W) Ho (by omega)
     refine bG U35 I3 rfl rfl hf (by decide) rfl Ho (isR rfl) (by rw[bB,List.length_singleton];omega) (by rw[bB,List.length_singleton];simp only[maxLen];omega) fun a v w hg hat Hn hf=>?_
     replace e:=e.gro hg (Ho.row (W:=W) (by omega))
     have hrow:=Ho.row (W:=W) (by omega)
     replace hT:=hT.gro hg (fun b hb=>by have:=(Ho.lt hb).1;omega)
     replace HM0:=HM0.gr hg (fun h=>by have:=(Ho.lt h.symm).1;omega)
     replace HM7:=HM7.gr hg (fun h=>by have:=(Ho.lt h.symm).1;omega)
     replace kh:=kh.tr (Kh.gro hg (fun b hb hh=>by have h1:=(Ho.lt hb).1;have h2:=hh.2;omega))
     replace HW:=HW.groE hg (fun b hb hh=>by have h1:=(Ho.lt hh).1;have h2:=hl9.2 b hb;omega)
     replace hD:=hD.gro hg (fun d hd hh=>by rw[List.mem_singleton] at hd;have h1:=(Ho.lt hh).1;omega)
     replace B2:=B2.gro hg (Ho.neLt (by omega))
     replace B3:=B3.gro hg (Ho.neLt (by omega))
     replace B4:=B4.gro hg (Ho.neLt (by omega))
     replace B8:=B8.gro hg (Ho.neLt (by omega))
     replace B10:=B10.gro hg (Ho.neLt (by omega))
     replace Ho:=Hn
     replace Ho:=Hn;clear Hn hg hat hin
     refine tA hf rfl fun a hf=>aa ?_
     rw[← gV] at Ho
     replace hf:=hf.kp [2,3,4,8,9,10,11,12,13]
     refine rgN 2 hf <| st (mv rfl) <| st ((sub rfl rfl (by omega)).eq (congrArg (Value.int .i64) (show ((k+1:Nat):Int) - 1=((k:Nat):Int) by omega))) <| en fun a w e' hf=>?_
     obtain⟨hT,HM0,HM7⟩:=up3 e' hT HM0 HM7
     replace kh:=kh.tr (Kh.ext e')
     obtain⟨HW,Ho,e,B2,B3,B4,B8,B10,hD⟩:=up9 e' HW Ho e B2 B3 B4 B8 B10 hD
     refine tA hf rfl fun a hf=>aa ?_
     replace hf:=hf.kp [2,3,4,8,9,10,11,12,13]
     exact⟨k,Nat.lt_succ_self _,nx,out++[nx],_,by rw[List.append_assoc];exact hR,by simp,a2v _ _,hnx1,by omega,by rw[List.length_append,List.length_singleton];omega,hf,⟨e,hT,HM0,B2,B3,B4,B8⟩,hD,kh,B10,HM7,HW,Ho⟩
    ·obtain rfl:r0=0:=by have:=of_decide_eq_false hc;omega
     rw[ocG,List.append_nil] at hR
     subst hR
     have hro:u.oneCell'=true:=Ho.one
     have nu2:u.ownBlock≠some b2:=Ho.neLt (by omega)
     have nd2:=hD.ne B2
     have nm2:bm0≠b2:=HM0.neB B2
     replace hf:=hf.kp [2,12]
     refine seq <| rgN 1 hf <| st (mv rfl) <| en fun a w e' hf=>?_
     obtain⟨hT,HM0⟩:=up2 e' hT HM0
     replace kh:=kh.tr (Kh.ext e')
     obtain⟨Ho,e,B2,B3,B4,B8,hD⟩:=up7 e' Ho e B2 B3 B4 B8 hD
     refine aO T35 hf rfl rfl hro B2 Nat.zero_lt_one fun w hg hsz B2 hf=>?_
     replace e:=e.gr hg (by omega);replace hT:=hT.gr hg (by omega);replace HM0:=HM0.gr hg (fun h=>nm2 (Option.some.inj h));replace B3:=B3.gr hg (by omega);replace B4:=B4.gr hg (by omega);replace B8:=B8.gr hg (by omega);replace Ho:=Ho.grE hg nu2;replace kh:=kh.tr (Kh.gr hg (fun hh=>by have:=hh.1;omega))
     replace hD:=hD.gr hg nd2
     refine aa <| ak <| ⟨⟨rfl,_,_,_,⟨⟨e,hT,HM0,B2,B3,B4,B8⟩,hD⟩,hsc,hne,Ho.slN fun b hb hh=>by have h1:=(Ho.lt hb).1;omega⟩,kh⟩
   ·rw[if_neg hh] at hsc
    rw[Bool.eq_false_iff.2 hh] at hf
    refine ifT hf rfl ?_
    refine aH <| ⟨⟨⟨⟨e,hT,HM0,B2,B3,B4,by rw[hdl];exact B8⟩,hD⟩,fun rest' hr'=>by
     have:rest'=rest:=by rw[hs,List.append_assoc] at hr';simpa using hr'.symm
     rw[this,hdl];exact hsc⟩,kh⟩
  ·intro a' w' hf' hJ hsz hDn
   simp only[Exit.inBlock,↓reduceIte,Exit.then]
   have hfs:=hJ.2 [] (by rw[List.append_nil])
   rw[hfs,ocL] at hrr
   subst hrr
   have hD2:Ds (w.heap.size::[d1]) w':=hJ.1.2.cons hDn fun hm=>by rw[List.mem_singleton] at hm;omega
   have hf:FrD 101 (bS (w.heap.size::[d1])) a' w' [(2,E (ptr b2))]:=hf'.keep [2]
   have hDW2:∀d∈w.heap.size::[d1],W.heap.size≤d:=fun d hd=>by
    rcases List.mem_cons.1 hd with rfl|hd
    ·exact hBW
    ·exact hDW d hd
   obtain⟨e,hT,HM0,B2,B3,B4,B8⟩:=hJ.1.1
   have hb2:=hD2.ne B2
   generalize w.heap.size::[d1]=D2 at *
   generalize w'=w at *
   refine seq <| ac <| aO T35 hf rfl rfl rfl B2 Nat.zero_lt_one fun w hg hsz B2 hf=>?_
   replace e:=e.gr hg (by omega)
   replace hD2:=hD2.gr hg hb2
   refine aa <| ak <| ee rfl T35 hf rfl B2 hD2 ⟨_,rfl,e.shut hDW2,rfl⟩
  ·intro ex c a' w' hcd hf' hX hsz hDn
   obtain⟨rfl,r,out,left,⟨hJ,hJd⟩,hfs,hr1,HR⟩:=hX
   simp only[Exit.inBlock,↓reduceIte,Exit.then]
   rw[hfs] at hrr
   subst hrr
   have hD2:Ds (w.heap.size::[d1]) w':=hJd.cons hDn fun hm=>by rw[List.mem_singleton] at hm;omega
   have hf:FrD 101 (bS (w.heap.size::[d1])) a' w' [(2,E (ptr b2))]:=hf'.keep [2]
   have hDW2:∀d∈w.heap.size::[d1],W.heap.size≤d:=fun d hd=>by
    rcases List.mem_cons.1 hd with rfl|hd
    ·exact hBW
    ·exact hDW d hd
   refine ee rfl T35 hf rfl hJ.p2 hD2 ⟨_,rfl,hJ.e.shut hDW2,hr1,?_⟩
   exact Dv.weak (Dv.ch HR (ed _ _) fun b hb=>by
    rcases List.mem_cons.1 hb with rfl|hb
    ·show _<_;omega
    ·rw[List.mem_singleton] at hb;show _<_;omega) fun b _ hb=>hb.elim
end Go.Mono
