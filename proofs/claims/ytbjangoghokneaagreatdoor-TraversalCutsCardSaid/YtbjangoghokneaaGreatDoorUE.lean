/-
  Walks of functions and plain facts.
  No condition.
-/
import Derived.Test.YtbjangoghokneaaGreatDoorCards
import Derived.Test.YtbjangoghokneaaGreatDoorTie
import Derived.Test.YtbjangoghokneaaGreatDoorUB
import Derived.Test.YtbjangoghokneaaGreatDoorUD
import Derived.ProofKit
import Derived.OpenShut
import Derived.ChangeOld
import Derived.Below
import Derived.LaidLaws
import Derived.Handed
import Derived.Lib.LaidTab
import Derived.SevenTiedAt
import Derived.Test.YtbjangoghokneaaGreatDoorUC
import Derived.ArgAppend
import Derived.Deep.Upon
import Derived.Deep.Slices
import Derived.Test.YtbjangoghokneaaGreatDoorUA
import Derived.WideKeyEntry
set_option linter.unusedVariables false
set_option linter.unusedSimpArgs false
namespace Go.Proofs.YtbjangoghokneaaGreatDoor
open Go Go.ChangeShapes Go.WideShapes Go.ChangeAt Go.RowKit

theorem own:ownKnob Tryz.prog.godebug=none:=by kernel_rfl
theorem laidOut:laidOutB Tryz.prog=true:=by kernel_rfl
theorem tabG:Tryz.prog.globalNamed "math/bits.deBruijn64tab" = some 0:=by kernel_rfl
theorem tabT:(Tryz.prog.globals[0]?).map (·.type)=some 183:=by kernel_rfl
theorem tabC:Tryz.prog.cellsOf 183=64:=by kernel_rfl
theorem tabE:Tryz.prog.cellsOf 5=1:=by kernel_rfl
theorem tab_of_laid {W:World} (h:laidMet Tryz.prog [("math/bits.deBruijn64tab",Rows.laid_math_bits_deBruijn64tab)] W):Mono.Tab W:=by
 have h2:=Lib.tabIs_of_head (k:=.u8) (zs:=Mono.tabZ.map fun n:Nat=>(n:Int)) (rest:=[]) tabG tabT Tryz.underlying183 Tryz.underlying5 tabE tabC (show laidMet Tryz.prog (("math/bits.deBruijn64tab",Lib.tabData .u8 (Mono.tabZ.map fun n:Nat=>(n:Int)))::[]) W from h)
 intro i hi
 rw[h2.cell tabG i (by simpa[Mono.tabZ] using hi)]
 congr 2
 simp[List.getD,List.getElem?_map]
 cases Mono.tabZ[i]? <;> rfl
noncomputable def tabWorld (os:Os):World:=
 let w0:=World.holding Tryz.prog os ⟨#[],#[],[]⟩
 { w0 with heap:=w0.heap.modify 0 fun
   | .cells _ t frozen=>.cells (Mono.tabZ.map fun n:Nat=>Value.int .u8 (n:Int)).toArray t frozen
   | o=>o }
theorem tab_met (os:Os) (args:Array Value):laidMet Tryz.prog [("math/bits.deBruijn64tab",Rows.laid_math_bits_deBruijn64tab)] ((tabWorld os).forCall (fun _ _=>0) ⟨#[],args,[]⟩).memory:=
 laidMet_of_run' 8 (by kernel_rfl) (by kernel_rfl)
end Go.Proofs.YtbjangoghokneaaGreatDoor
namespace Go.Mono
open Go Go.Proofs Go.RowKit Go.Gr
def adC (S:BS)(m:Value):Array Value:=((setC S).toList++[m]).toArray
theorem bAd (bm:Nat):Tryz.prog.built 79 [(1,.map (some bm))]=some (adC 0 (.map (some bm))):=by kernel_rfl
theorem adC_size (S:BS)(m:Value):(adC S m).size=17:=by rw[adC,List.size_toArray,List.length_append,Array.length_toList,setC_size];rfl
theorem adC_put (S T:BS)(m:Value):(((adC S m).toList.take 0++(setC T).toList++(adC S m).toList.drop (0+16)).toArray)=adC T m:=by
 rw[List.take_zero,List.nil_append,adC,adC]
 simp only[List.drop_append,Array.length_toList,setC_size]
 simp[setC_size]
theorem adC_one (S:BS)(bm:Nat):(adC S (.map (some bm))).all (·.oneCell')=true:=by
 have h:(setC S).all (·.oneCell')=true:=wordsC_one _
 rw[adC,Array.all_eq_true_iff_forall_mem] at *
 intro x hx
 rcases List.mem_append.1 (List.mem_toArray.1 hx) with hx|hx
 ·exact h x (by simpa using hx)
 ·rw[List.mem_singleton.1 hx];rfl
theorem adC_map (S:BS)(m:Value):(adC S m)[16]?=some m:=by
 rw[adC,List.getElem?_toArray,List.getElem?_append_right (by rw[Array.length_toList,setC_size];exact Nat.le_refl _),Array.length_toList,setC_size];rfl
theorem adC_set (S:BS)(m:Value):(adC S m).extract 0 (0+16)=setC S:=by
 apply Array.ext'
 rw[adC,Array.toList_extract]
 simp[List.extract,setC_size]
structure OJ (W:World)(g:GT)(S:BS)(v:Value)(b1 b2 b3 bm:Nat)(c2:Array Value)(s:List Nat)(w:World):Prop where
 e:Ext W w
 t:Tab w
 p1:Blk w b1 #[v] 26
 p2:Blk w b2 c2 79
 p3:Blk w b3 (adC S (.map (some bm))) 79
 m:MpR sKV w bm s.length (nbL g s)
theorem OJ.kp {W:World}{g:GT}{S:BS}{v:Value}{b1 b2 b3 bm:Nat}{c2:Array Value}{s:List Nat}{B:Nat}{w w':World}(h:OJ W g S v b1 b2 b3 bm c2 s w)(k:Kp B w w')(hW:W.heap.size≤B)(h0:0<B)(l1:b1<B)(l2:b2<B)(l3:b3<B)(lm:bm<B):OJ W g S v b1 b2 b3 bm c2 s w':=
 ⟨h.e.kp k hW,h.t.kp k h0,h.p1.kp k (fun hh=>by have:=hh.1;omega),h.p2.kp k (fun hh=>by have:=hh.1;omega),h.p3.kp k (fun hh=>by have:=hh.1;omega),h.m.pres (k.same bm h.m.lt (fun hh=>by have:=hh.1;omega))⟩
theorem of07_spec {G:Nat→Prop}{N:Nat}(g:GT)(v:Value)(W:World)(hT:Tab W)(h:(Dv (ptE (grE N)) G (some g)).p v W)(gs1:g.1.Pairwise fun x y=>lt1 x.1 y.1=true)(gs2:g.2.Pairwise fun x y=>lt2 x.1 y.1=true)(hl1:g.1.length≤100000)(hl2:g.2.length≤100000)(hN:N≤1000000) :
  Calls Tryz.prog 46 #[v] W fun en w'=>Ext W w'∧∃mv,en=.returned (.agg (adC (vset g.1) mv))∧(Dv (mpE sKV 1024) G0 (nbL g (elems (vset g.1)))).p mv w':=by
 have hv:(Dv (ptE (grE N)) G0 (some g)).p v W:=Dv.weak h fun b _ hb=>hb.elim
 have hT0:=hT.lt
 have h1c:v.cells = #[v]:=by
  obtain⟨ad,rfl,_⟩:=Dv.pt.1 hv
  rfl
 refine enterM (args:=[v]) (As:=[E v]) Tryz.func46 rfl Tryz.ntmps46 (Nat.le_of_ble_eq_true rfl) ?_ (fun a hf=>?_) (Nat.le_of_ble_eq_true rfl)
 ·exact arg1 rfl
 have e:=Ext.rfl' W
 refine seq <| regn0 <| tB hf rfl fun a b1 w v1 hv1 e' hb1 hs1 B1 hf=>?_
 obtain⟨hT,e⟩:=up2 e' hT e
 refine tL I79 hf fun a b2 w e' hb2 hs2 B2 hf=>?_
 obtain⟨hT,e,B1⟩:=up3 e' hT e B1
 refine tl_nil ?_
 cases hv1
 rw[h1c] at B1
 replace hf:=hf.kp [1,2]
 refine seq <| regn0 <| tl_mkV sKV hf (by decide) fun a bm w e' hbm hsm HM hf=>?_
 obtain⟨e,hT⟩:=up2 e' e hT
 obtain⟨B1,B2⟩:=up2 e' B1 B2
 have hWm:W.heap.size≤bm:=by have:=e.size;omega
 have n12m:b1≠bm∧b2≠bm:=by omega
 have hNm:bm+1≤w.heap.size:=HM.lt
 refine tP hf (bldV [(1,_)] rfl (bAd bm)) fun a w e' hf=>?_
 obtain⟨hT,HM,hNm,e,B1,B2⟩:=up6 e' hT HM hNm e B1 B2
 refine tL I79 hf fun a b3 w e' hb3 hs3 B3 hf=>?_
 obtain⟨hT,HM,hNm,e,B1,B2⟩:=up6 e' hT HM hNm e B1 B2
 have n3:b1≠b3∧b2≠b3∧b3≠bm∧W.heap.size≤b3:=by omega
 refine tl_stW T79 hf rfl rfl (adC_one _ _) B3 rfl (adC_size _ _) fun w hg hsz B3 hf=>?_
 replace e:=e.gr hg (by omega);replace hT:=hT.gr hg (by omega);replace B1:=B1.gr hg (by omega);replace B2:=B2.gr hg (by omega);replace HM:=HM.gr hg (fun h=>by cases h;omega);clear hg
 refine tl_nil ?_
 replace hf:=hf.kp [1,2,3]
 repeat refine seq ?_
 refine rgN 2 hf <| st (ld1 (v:=v) T26 rfl B1 rfl) <| st (eqlP U26 (isE rfl (VA.st _ _ _ _ e hv))) <| en fun a w e' hf=>?_
 obtain⟨hT,HM,e,B1,B2,B3⟩:=up6 e' hT HM e B1 B2 B3
 refine tl_nil <| ifc hf rfl (fun h=>by cases h) (fun _=>?_)
 refine wskip ?_
 obtain⟨S,hS⟩:∃S,S=vset g.1:=⟨_,rfl⟩
 have e0:=e
 refine seq <| rgN 3 hf <| st (ld1 (v:=v) T26 rfl B1 rfl) <| st (call1 (A:=E (setV S)) En98 rfl (fun v w he k=>by cases k;rw[hS];exact vertexSet_spec g _ w (VA.st _ _ _ _ (Ext.tr e0 he) hv) gs1 hl1 hN)) ?_
 refine st (fA U79 rfl T76 rfl) <| en fun a w e' hf=>?_
 obtain⟨hT,HM,e,B1,B2,B3⟩:=up6 e' hT HM e B1 B2 B3
 refine tl_stP T76 hf rfl rfl (wordsC_one _) B3 (setC_size _) (by rw[adC_size];decide) fun w hg hsz B3 hf=>?_
 have B3':Blk w b3 (((adC 0 (.map (some bm))).toList.take 0++(setC S).toList++(adC 0 (.map (some bm))).toList.drop (0+16)).toArray) 79:=B3
 rw[adC_put] at B3'
 replace B3:=B3'
 replace e:=e.gr hg (by omega);replace hT:=hT.gr hg (by omega);replace B1:=B1.gr hg (by omega);replace B2:=B2.gr hg (by omega);replace HM:=HM.gr hg (fun h=>by cases h;omega);clear hg
 refine tl_nil ?_
 replace hf:=hf.keep [1,2,3]
 obtain⟨Nz,hNz⟩:∃Nz,Nz=w.heap.size:=⟨_,rfl⟩
 have e1:=e
 have l1:=B1.lt
 have l2:=B2.lt
 have l3:=B3.lt
 have lm2:=HM.lt
 repeat refine seq ?_
 refine rgN 3 hf <| st (fA U79 rfl T76 rfl) <| st ((ldP T76 rfl B3 (by rw[adC_size];decide)).eq (congrArg Value.agg (adC_set S (.map (some bm))))) ?_
 refine st (call1 (A:=SeqA Nz S) En62 rfl (fun v w' he h=>by cases h;exact Calls.mono (all_spec _ w') (fun en w2 ⟨u,h1,h2,b',h3,h4,h5⟩=>⟨u,h1,h2,b',by have:=he.size;omega,h4,h5⟩))) ?_
 refine en fun a w e' hf=>?_
 obtain⟨HM,hT,e,B1,B2,B3⟩:=up6 e' HM hT e B1 B2 B3
 refine tl_nil ?_
 obtain⟨v15,⟨b8,h8,rfl,BS⟩,hf⟩:=hf.fix 15 rfl
 replace hf:=hf.kp [1,2,3,15]
 obtain⟨c2,hc2,hB2⟩:∃c2:Array Value,c2.size=17∧Blk w b2 c2 79:=⟨_,by rfl,B2⟩
 have hBW:W.heap.size≤w.heap.size:=e.size
 have h0w:0<w.heap.size:=hT.lt
 have l1':=B1.lt
 have l2':=hB2.lt
 have l3':=B3.lt
 have lm':=HM.lt
 refine blk <| range_all3 (S:=S) hf rfl BS (by decide) (fun s w1=>OJ W g S v b1 b2 b3 bm c2 s w1) (fun _ _=>False) (fun s w1 h=>h.t)
  ⟨e,hT,B1,hB2,B3,HM⟩ (fun s w1 w2 h hs k=>h.kp k hBW h0w l1' l2' l3' lm') (fun _ _ _ h=>h.elim) ?_ ?_ (fun _ _ _ _ _ _ h=>h.elim)
 ·intro l s x rest a1 w1 hs hJ hlw hf
  have hx1024:x<1024:=(mem_elems.1 (by rw[hs];simp)).1
  have hxs:x ∉ s:=by
   have hn:(elems S).Nodup:=List.Nodup.sublist List.filter_sublist List.nodup_range
   rw[hs] at hn
   intro hx
   exact (List.nodup_append.1 hn).2.2 x hx x (by simp) rfl
  have hsl:s.length≤1024:=by have:=elems_len S;rw[hs] at this;simp at this;omega
  generalize hBz:w.heap.size=Bz at *
  refine regn0 <| tA hf rfl fun a hf=>tl_nil <| ⟨Kh.rfl' _ _,fun w3 k3 hsz3=>?_⟩
  have hJ3:=hJ.kp k3 hBW h0w l1' l2' l3' lm'
  replace hf:=hf.pure w3
  obtain⟨e,hT,B1,B2,B3,HM⟩:=hJ3
  have kh:=Kh.rfl' Bz w3
  have e0:=e
  replace hf:=hf.kp [1,2,3,4]
  refine blk <| rgG 6 Mix.mix hf <| st (fA U79 rfl T77 rfl) <| st (ld1 (v:=.map (some bm)) T77 rfl B3 (adC_map _ _)) <| st (mv rfl) <| st (ld1 (v:=v) T26 rfl B1 rfl) <| st (mv rfl) <| st (call2 (A:=E (setV (nbG g.2 (x:Int)))) En99 rfl rfl (fun v u w he k1 k2=>by cases k1;cases k2;exact gnb_spec g _ _ w (VA.st _ _ _ _ (Ext.tr e0 he) hv) gs2 hl2 hN)) ?_
  refine en fun a w e' hf=>?_
  obtain⟨HM,hT⟩:=up2 e' HM hT
  replace kh:=kh.tr (Kh.ext e')
  obtain⟨e,B1,B2,B3⟩:=up4 e' e B1 B2 B3
  refine tl_mputV (V:=sKV) (i:=(x:Int)) (c:=nbG g.2 (x:Int)) U77 hf rfl rfl rfl HM (by simp only[maxLen];omega) (wf64 (by omega) (by omega)) trivial fun w hg HM hf=>?_
  obtain⟨e,hT,B1,B2,B3⟩:=gr5 hg e hT B1 B2 B3
  replace kh:=kh.tr (Kh.gr hg (fun hh=>by have:=hh.1;omega))
  refine tl_nil ?_
  simp only[Exit.inBlock]
  exact⟨⟨e,hT,B1,B2,B3,by rw[List.length_append];exact HM.perm (nbL_put hxs)⟩,kh⟩
 ·intro a' w' hf' hJ hsz hDn
  simp only[Exit.inBlock,↓reduceIte,Exit.then]
  have hD:Ds [w.heap.size] w':=(Ds.nil w').cons hDn (by simp)
  have hf:FrD 24 (marks [w.heap.size]) a' w' [(1,E (.pointer (some ⟨b1,0,none⟩))),(2,E (.pointer (some ⟨b2,0,none⟩))),(3,E (.pointer (some ⟨b3,0,none⟩)))]:=hf'.keep [1,2,3]
  have hDW:∀d∈[w.heap.size],W.heap.size≤d:=fun d hd=>by rw[List.mem_singleton] at hd;omega
  obtain⟨e,hT,B1,B2,B3,HM⟩:=hJ
  have hbD:¬bm∈[w.heap.size]:=fun h=>by rw[List.mem_singleton] at h;omega
  have hb2D:¬b2∈[w.heap.size]:=fun h=>by rw[List.mem_singleton] at h;omega
  generalize [w.heap.size]=D2 at *
  generalize w'=w at *
  refine seq <| rgN 1 hf <| st (ldW T79 rfl B3 (adC_size _ _)) <| en fun a w e' hf=>?_
  obtain⟨HM,e,B2,B3,hD⟩:=up5 e' HM e B2 B3 hD
  refine tl_stW T79 hf rfl rfl (adC_one _ _) B2 hc2 (adC_size _ _) fun w hg hsz B2 hf=>?_
  replace e:=e.gr hg (by omega)
  replace hD:=hD.gr hg hb2D
  replace HM:=HM.gr hg (fun h=>by cases h;omega)
  refine tl_nil <| wret <| retcM rfl T79 hf rfl B2 (adC_size _ _) hD ⟨e.shut hDW,.map (some bm),?_⟩
  rw[← hS]
  exact⟨rfl,[.map (some bm)],⟨bm,_,rfl,fun h=>h.elim,elems_len S,HM.pres (shut_heap D2 w bm hbD)⟩,rfl⟩
def ofS (s:GT×Int)(d:DT):GT×Int:=if s.2≠0 then s else if (doR s.1 d).2≠0 then (([],[]),(doR s.1 d).2) else ((doR s.1 d).1,0)
def ofR (V:List VT)(E:List ET):GT×Int:=(V.map dV++E.map dE).foldl ofS (([],[]),0)
theorem ofS_stop {s:GT×Int}(h:s.2≠0)(l:List DT):l.foldl ofS s=s:=by
 induction l generalizing s with
 | nil=>rfl
 | cons d l ih=>rw[List.foldl_cons,ofS,if_pos h];exact ih h
theorem ofS_next {l:List DT}{k:Nat}{d:DT}{s0:GT×Int}{g:GT}(h:l[k]?=some d)(hg:(l.take k).foldl ofS s0=(g,0)):(l.take (k+1)).foldl ofS s0=ofS (g,0) d:=by
 rw[take_succ_get h,List.foldl_append,hg];rfl
theorem ofS_all {l:List DT}{k:Nat}{s0:GT×Int}{s:GT×Int}(hg:(l.take k).foldl ofS s0=s)(hs:s.2≠0):l.foldl ofS s0=s:=by
 rw[← List.take_append_drop k l,List.foldl_append,hg,ofS_stop hs]
theorem bR4 (x:DT):Tryz.prog.built 143 [(0,.int .i64 x.1),(1,.int .i64 x.2.1),(3,.int .u8 x.2.2.2.1),(4,.int .i64 x.2.2.2.2)]=some #[.int .i64 x.1,.int .i64 x.2.1,.int .i64 0,.int .u8 x.2.2.2.1,.int .i64 x.2.2.2.2]:=by kernel_rfl
theorem bR5 (x:DT):Tryz.prog.built 143 [(0,.int .i64 x.1),(1,.int .i64 x.2.1),(2,.int .i64 x.2.2.1),(3,.int .u8 x.2.2.2.1),(4,.int .i64 x.2.2.2.2)]=some #[.int .i64 x.1,.int .i64 x.2.1,.int .i64 x.2.2.1,.int .u8 x.2.2.2.1,.int .i64 x.2.2.2.2]:=by kernel_rfl
theorem of05_spec {G:Nat→Prop}(V:List VT)(E':List ET)(v u:Value)(W:World)(h1:(Dv (slE vtE) G V).p v W)(h2:(Dv (slE etE) G E').p u W)(hl1:V.length≤1000)(hl2:E'.length≤1000){K:Nat→Prop}(hK:∀b,K b→b<W.heap.size) :
  Calls Tryz.prog 45 #[v,u] W (Post (Tup [Dv gtE K (ofR V E').1,E (I (ofR V E').2)]) W):=by
 replace h1:(Dv (slE vtE) G0 V).p v W:=Dv.weak h1 fun b _ hb=>hb.elim
 replace h2:(Dv (slE etE) G0 E').p u W:=Dv.weak h2 fun b _ hb=>hb.elim
 refine eN [v,u] [E v,E u] Tryz.func45 Tryz.ntmps45 ?_ fun a hf=>?_
 rotate_left
 dsimp only[params,Nat.reduceAdd] at hf
 rotate_right
 ·exact arg2 rfl rfl
 have e:=Ext.rfl' W
 refine seq <| regn0 <| tL I25 hf fun a b4 w e' hb4 hs4 B4 hf=>?_
 replace e:=e.tr e'
 refine tA hf rfl fun a hf=>tl_nil <| seq <| rgN 1 hf <| st (bldV [] rfl bG_0) <| en fun a w e' hf=>?_
 obtain⟨e,B4⟩:=up2 e' e B4
 refine tL I25 hf fun a b6 w e' hb6 hs6 B6 hf=>?_
 have lt6_B4:=B4.lt
 obtain⟨e,B4⟩:=up2 e' e B4
 haveI hinr:∀G0,InR (GB W G0) (some b6):=fun G0=>InR.gb (by omega)
 refine tl_stW T25 hf rfl rfl (one2 rfl rfl) B6 rfl (rfl) fun w hg hsz B6 hf=>?_
 obtain⟨e,B4⟩:=gr2 hg e B4
 refine tl_nil ?_
 obtain⟨G',hG'⟩:∃G':Nat→Prop,G'=fun b=>K b∨b=b4∨b=b6:=⟨_,rfl⟩
 haveI i6:InR G' (some b6):=⟨fun b hb=>by rw[hG'];cases hb;exact .inr (.inr rfl)⟩
 have hGb:∀w:World,Ext W w→b4<w.heap.size→b6<w.heap.size→∀b,G' b→b<w.heap.size:=fun w e h2 h3 b hb=>by
  rw[hG'] at hb
  rcases hb with hb|rfl|rfl
  ·exact Nat.lt_of_lt_of_le (hK b hb) e.size
  ·exact h2
  ·exact h3
 refine seq <| regn0 <| tA hf rfl fun a hf=>tl_nil ?_
 repeat refine seq ?_
 refine regn0 <| tA hf rfl fun a hf=>tl_nil ?_
 replace hf:=hf.keep [0,1,4,6,7,8]
 refine blk (loopN (fun r0 a w=>∃(k:Nat) (gc:GT×Array Value),r0=V.length - k∧k≤V.length∧Fr 79 a w [(0,E v),(1,E u),(4,E (.pointer (some ⟨b4,0,none⟩))),(6,E (.pointer (some ⟨b6,0,none⟩))),(7,E (I 0)),(8,E (I k))]∧Ext W w∧Blk w b4 #[.slice none 0 0,.slice none 0 0] 25∧Blk w b6 gc.2 25∧(Dv gtE G' gc.1).p (.agg gc.2) w∧((V.map dV).take k).foldl ofS (([],[]),0)=(gc.1,0)∧gc.1.1.length≤k∧gc.1.2.length≤k) V.length ⟨0,(([], []), #[.slice none 0 0, .slice none 0 0]),rfl,by omega,hf,e,⟨B4,B6,Dv.gt.2 ⟨_,_,rfl,Dv.nil,Dv.nil⟩,rfl,Nat.le_refl _,Nat.le_refl _⟩⟩ ?_)
 rintro r0 a w ⟨k,gc,rfl,hk,hf,e,B4,B6,HD,hfd,hn1,hn2⟩
 repeat refine seq ?_
 refine rgN 4 hf <| st (mv rfl) <| st (mv rfl) <| st (lenD U22 (isE rfl (VA.st _ _ _ _ e h1))) <| st (lss rfl rfl) <| en fun a w e' hf=>?_
 obtain⟨HD,e,B4,B6⟩:=up4 e' HD e B4 B6
 refine tl_nil <| ifc hf rfl (fun hc=>wskip ?_) (fun hc=>wexit ?_)
 rotate_left
 rotate_left
 ·have hlt:k<V.length:=by have:=of_decide_eq_true hc;(try dsimp only at this);omega
  replace hf:=hf.keep [0,1,4,6,7,8]
  refine seq <| blk ?_
  obtain⟨g,cs⟩:=gc
  dsimp only at *
  have hx:=List.getElem?_eq_getElem hlt
  generalize V[k]=x at hx
  have hxd:(V.map dV)[k]?=some (dV x):=by rw[List.getElem?_map,hx];rfl
  have hnx:=ofS_next hxd hfd
  have hln:=doR_len g (dV x)
  have hcs:cs.size=2:=by obtain⟨cs',h1',h2',_⟩:=Dv.gtOne HD;cases h1';exact h2'
  have hv:=VA.st _ _ _ _ e h1
  have l4:=B4.lt;have l6:=B6.lt
  replace hf:=hf.kp [0,1,4,6,7,8]
  refine seq <| regJ 22 [0,0,0,0,0,0,0,0,0,0,0,0,0,0,0,0,0,0,2,0,1] (Chg fun c=>c=b6) (RelJ.one _) (fun w=>∃cs,Blk w b6 cs 25∧(Dv gtE G' (doR g (dV x)).1).p (.agg cs) w) (fun w w1 k h=>h.imp fun cs h=>⟨h.1.ext k,VA.st _ _ _ _ k h.2⟩) Mix.mix hf (by decide +kernel) (by decide +kernel) <| ja (ldW T25 rfl B6 hcs) <| ja (mv rfl) <| ja (mv rfl) <| ja (idxD U22 S45 (isE rfl hv) rfl (by omega) (hx)) <| ja (fldD U45 rfl T3 (by decide) (Fld.fst Fld.refl) (isR rfl)) <| ja (ldI T3 (isR rfl)) <| ja (mv rfl) <| ja (mv rfl) <| ja (idxD U22 S45 (isE rfl hv) rfl (by omega) (hx)) <| ja (fldD U45 rfl T5 (by decide) (Fld.snd (Fld.fst Fld.refl) rfl) (isR rfl)) <| ja (ldU T5 (isR rfl)) <| ja (mv rfl) <| ja (mv rfl) <| ja (idxD U22 S45 (isE rfl hv) rfl (by omega) (hx)) <| ja (fldD U45 rfl T3 (by decide) (Fld.snd (Fld.snd Fld.refl rfl) rfl) (isR rfl)) <| ja (ldI T3 (isR rfl)) <| ja (bldD4 (dV x) rfl (bR4 (dV x)) rfl rfl rfl rfl) <| ja (call2 (A:=Tup [Dv gtE G' (doR g (dV x)).1,E (I (doR g (dV x)).2)]) En97 rfl rfl (fun v u w he k1 k2=>by cases k1;cases k2;exact do_spec (G:=G') g (dV x) _ w (VA.st _ _ _ _ he HD) (hGb w (Ext.tr e he) (Nat.lt_of_lt_of_le l4 he.size) (Nat.lt_of_lt_of_le l6 he.size)) (by omega) (by omega))) ?_
  refine jk (mv rfl) <| ja (ext_ rfl rfl) <| jf (fun w1 h1=>ext_ rfl rfl) <| jx (xstB T25 rfl B6 hcs rfl (fun v w hv=>Dv.gtOne hv) (fun v w w' hc hv=>Dv.ch hv hc fun b hb=>by rw[hG',hb];exact .inr (.inr rfl))) ?_
  refine je <| fun a w hc HF hf=>?_
  try dsimp only[push] at hf
  obtain⟨cs',B6,HD⟩:=HF
  replace e:=e.ch hc (fun b hb=>by rw[hb];omega)
  replace B4:=B4.ch hc (by omega)
  refine tA hf rfl fun a hf=>tl_nil ?_
  replace hf:=hf.kp [0,1,4,6,7,8]
  refine seq <| rgN 2 hf <| st (mv rfl) <| st (neq rfl rfl) <| en fun a w e' hf=>?_
  obtain⟨HD,e,B4,B6⟩:=up4 e' HD e B4 B6
  refine tl_nil <| ifc hf rfl (fun hb=>?_) (fun hb=>?_)
  ·have hb':(doR g (dV x)).2≠0:=by simpa using hb
   rw[ofS,if_neg (by simp),if_pos hb'] at hnx
   have hall:ofR V E'=(([],[]),(doR g (dV x)).2):=by rw[ofR,List.foldl_append,ofS_all hnx hb'];exact ofS_stop (s:=(([],[]),(doR g (dV x)).2)) hb' _
   refine seq <| rgN 2 hf <| st (bldV [] rfl bG_0) <| st (mv rfl) <| en fun a w e' hf=>?_
   obtain⟨HD,e,B4,B6⟩:=up4 e' HD e B4 B6
   haveI hinr:∀G0,InR (GB W G0) (some b4):=fun G0=>InR.gb (by omega)
   refine tl_stW T25 hf rfl rfl (one2 rfl rfl) B4 rfl (rfl) fun w hg hsz B4 hf=>?_
   replace HD:=HD
   obtain⟨e,B6⟩:=gr2 hg e B6
   refine tA hf rfl fun a hf=>tl_nil <| wret <| ret2c rfl T25 hf rfl rfl B4 rfl ?_
   rintro _ rfl
   exact⟨_,rfl,e,by rw[hall];exact Tup.two (Dv.gt.2 ⟨_,_,rfl,Dv.nil,Dv.nil⟩) rfl⟩
  ·have hb':(doR g (dV x)).2=0:=by simpa using hb
   refine wskip ?_
   rw[hb'] at hf
   rw[ofS,if_neg (by simp),if_neg (by simpa using hb')] at hnx
   refine rgN 2 hf <| st (mv rfl) <| st ((add rfl rfl (by omega)).eq (congrArg (Value.int .i64) (show (k:Int)+1=((k+1:Nat):Int) from rfl))) <| en fun a w e' hf=>?_
   obtain⟨HD,e,B4,B6⟩:=up4 e' HD e B4 B6
   refine tA hf rfl fun a hf=>tl_nil ?_
   replace hf:=hf.kp [0,1,4,6,7,8]
   refine⟨_,?_,k+1,((doR g (dV x)).1,cs'),rfl,by omega,hf,e,?_⟩
   ·omega
   exact⟨B4,B6,HD,hnx,by show (doR g (dV x)).1.1.length≤k+1;omega,by show (doR g (dV x)).1.2.length≤k+1;omega⟩
 ·obtain rfl:k=V.length:=by have:=of_decide_eq_false hc;(try dsimp only at this);omega
  obtain⟨g0,cs0⟩:=gc
  dsimp only at *
  rw[List.take_of_length_le (by simp)] at hfd
  replace hf:=hf.keep [1,4,6,7]
  repeat refine seq ?_
  refine regn0 <| tA hf rfl fun a hf=>tl_nil ?_
  replace hf:=hf.keep [1,4,6,7,9]
  refine blk (loopN (fun r0 a w=>∃(k:Nat) (gc:GT×Array Value),r0=E'.length - k∧k≤E'.length∧Fr 79 a w [(1,E u),(4,E (.pointer (some ⟨b4,0,none⟩))),(6,E (.pointer (some ⟨b6,0,none⟩))),(7,E (I 0)),(9,E (I k))]∧Ext W w∧Blk w b4 #[.slice none 0 0,.slice none 0 0] 25∧Blk w b6 gc.2 25∧(Dv gtE G' gc.1).p (.agg gc.2) w∧((E'.map dE).take k).foldl ofS (g0,0)=(gc.1,0)∧gc.1.1.length≤V.length+k∧gc.1.2.length≤V.length+k) E'.length ⟨0,(g0, cs0),rfl,by omega,hf,e,⟨B4,B6,HD,rfl,hn1,hn2⟩⟩ ?_)
  rintro r0 a w ⟨k,gc,rfl,hk,hf,e,B4,B6,HD,hfe,hm1,hm2⟩
  repeat refine seq ?_
  refine rgN 4 hf <| st (mv rfl) <| st (mv rfl) <| st (lenD U23 (isE rfl (VA.st _ _ _ _ e h2))) <| st (lss rfl rfl) <| en fun a w e' hf=>?_
  obtain⟨HD,e,B4,B6⟩:=up4 e' HD e B4 B6
  refine tl_nil <| ifc hf rfl (fun hc=>wskip ?_) (fun hc=>wexit ?_)
  rotate_left
  rotate_left
  ·have hlt:k<E'.length:=by have:=of_decide_eq_true hc;(try dsimp only at this);omega
   replace hf:=hf.kp [1,4,6,7,9]
   refine seq <| blk ?_
   obtain⟨g,cs⟩:=gc
   dsimp only at *
   have hx:=List.getElem?_eq_getElem hlt
   generalize E'[k]=x at hx
   have hxd:(E'.map dE)[k]?=some (dE x):=by rw[List.getElem?_map,hx];rfl
   have hnx:=ofS_next hxd hfe
   have hln:=doR_len g (dE x)
   have hcs:cs.size=2:=by obtain⟨cs',h1',h2',_⟩:=Dv.gtOne HD;cases h1';exact h2'
   have hv:=VA.st _ _ _ _ e h2
   have l4:=B4.lt;have l6:=B6.lt
   replace hf:=hf.kp [1,4,6,7,9]
   refine seq <| regJ 27 [0,0,0,0,0,0,0,0,0,0,0,0,0,0,0,0,0,0,0,0,0,0,0,2,0,1] (Chg fun c=>c=b6) (RelJ.one _) (fun w=>∃cs,Blk w b6 cs 25∧(Dv gtE G' (doR g (dE x)).1).p (.agg cs) w) (fun w w1 k h=>h.imp fun cs h=>⟨h.1.ext k,VA.st _ _ _ _ k h.2⟩) Mix.mix hf (by decide +kernel) (by decide +kernel) <| ja (ldW T25 rfl B6 hcs) <| ja (mv rfl) <| ja (mv rfl) <| ja (idxD U23 S51 (isE rfl hv) rfl (by omega) (hx)) <| ja (fldD U51 rfl T3 (by decide) (Fld.fst (Fld.fst Fld.refl)) (isR rfl)) <| ja (ldI T3 (isR rfl)) <| ja (mv rfl) <| ja (mv rfl) <| ja (idxD U23 S51 (isE rfl hv) rfl (by omega) (hx)) <| ja (fldD U51 rfl T3 (by decide) (Fld.fst (Fld.snd Fld.refl rfl)) (isR rfl)) <| ja (ldI T3 (isR rfl)) <| ja (mv rfl) <| ja (mv rfl) <| ja (idxD U23 S51 (isE rfl hv) rfl (by omega) (hx)) <| ja (fldD U51 rfl T5 (by decide) (Fld.snd (Fld.fst Fld.refl) rfl) (isR rfl)) <| ja (ldU T5 (isR rfl)) <| ja (mv rfl) <| ja (mv rfl) <| ja (idxD U23 S51 (isE rfl hv) rfl (by omega) (hx)) <| ja (fldD U51 rfl T3 (by decide) (Fld.snd (Fld.snd Fld.refl rfl) rfl) (isR rfl)) <| ja (ldI T3 (isR rfl)) <| ja (bldD5 (dE x) (bR5 (dE x)) rfl rfl rfl rfl rfl) <| ja (call2 (A:=Tup [Dv gtE G' (doR g (dE x)).1,E (I (doR g (dE x)).2)]) En97 rfl rfl (fun v u w he k1 k2=>by cases k1;cases k2;exact do_spec (G:=G') g (dE x) _ w (VA.st _ _ _ _ he HD) (hGb w (Ext.tr e he) (Nat.lt_of_lt_of_le l4 he.size) (Nat.lt_of_lt_of_le l6 he.size)) (by omega) (by omega))) ?_
   refine jk (mv rfl) <| ja (ext_ rfl rfl) <| jf (fun w1 h1=>ext_ rfl rfl) <| jx (xstB T25 rfl B6 hcs rfl (fun v w hv=>Dv.gtOne hv) (fun v w w' hc hv=>Dv.ch hv hc fun b hb=>by rw[hG',hb];exact .inr (.inr rfl))) ?_
   refine je <| fun a w hc HF hf=>?_
   try dsimp only[push] at hf
   obtain⟨cs',B6,HD⟩:=HF
   replace e:=e.ch hc (fun b hb=>by rw[hb];omega)
   replace B4:=B4.ch hc (by omega)
   refine tA hf rfl fun a hf=>tl_nil ?_
   replace hf:=hf.kp [1,4,6,7,9]
   refine seq <| rgN 2 hf <| st (mv rfl) <| st (neq rfl rfl) <| en fun a w e' hf=>?_
   obtain⟨HD,e,B4,B6⟩:=up4 e' HD e B4 B6
   refine tl_nil <| ifc hf rfl (fun hb=>?_) (fun hb=>?_)
   ·have hb':(doR g (dE x)).2≠0:=by simpa using hb
    rw[ofS,if_neg (by simp),if_pos hb'] at hnx
    have hall:ofR V E'=(([],[]),(doR g (dE x)).2):=by rw[ofR,List.foldl_append,hfd,ofS_all hnx hb']
    refine seq <| rgN 2 hf <| st (bldV [] rfl bG_0) <| st (mv rfl) <| en fun a w e' hf=>?_
    obtain⟨HD,e,B4,B6⟩:=up4 e' HD e B4 B6
    haveI hinr:∀G0,InR (GB W G0) (some b4):=fun G0=>InR.gb (by omega)
    refine tl_stW T25 hf rfl rfl (one2 rfl rfl) B4 rfl (rfl) fun w hg hsz B4 hf=>?_
    replace HD:=HD
    obtain⟨e,B6⟩:=gr2 hg e B6
    refine tA hf rfl fun a hf=>tl_nil <| wret <| ret2c rfl T25 hf rfl rfl B4 rfl ?_
    rintro _ rfl
    exact⟨_,rfl,e,by rw[hall];exact Tup.two (Dv.gt.2 ⟨_,_,rfl,Dv.nil,Dv.nil⟩) rfl⟩
   ·have hb':(doR g (dE x)).2=0:=by simpa using hb
    refine wskip ?_
    rw[hb'] at hf
    rw[ofS,if_neg (by simp),if_neg (by simpa using hb')] at hnx
    refine rgN 2 hf <| st (mv rfl) <| st ((add rfl rfl (by omega)).eq (congrArg (Value.int .i64) (show (k:Int)+1=((k+1:Nat):Int) from rfl))) <| en fun a w e' hf=>?_
    obtain⟨HD,e,B4,B6⟩:=up4 e' HD e B4 B6
    refine tA hf rfl fun a hf=>tl_nil ?_
    replace hf:=hf.kp [1,4,6,7,9]
    refine⟨_,?_,k+1,((doR g (dE x)).1,cs'),rfl,by omega,hf,e,?_⟩
    ·omega
    exact⟨B4,B6,HD,hnx,by show (doR g (dE x)).1.1.length≤V.length+(k+1);omega,by show (doR g (dE x)).1.2.length≤V.length+(k+1);omega⟩
  ·obtain rfl:k=E'.length:=by have:=of_decide_eq_false hc;(try dsimp only at this);omega
   obtain⟨g,cs⟩:=gc
   dsimp only at *
   rw[List.take_of_length_le (by simp)] at hfe
   have hall:ofR V E'=(g,0):=by rw[ofR,List.foldl_append,hfd,hfe]
   obtain⟨cs',h1',hcs,h1one⟩:=Dv.gtOne HD
   cases h1'
   haveI i4:InR G' (some b4):=⟨fun b hb=>by rw[hG'];cases hb;exact .inr (.inl rfl)⟩
   replace hf:=hf.kp [4,6]
   refine seq <| rgN 1 hf <| st (ldW T25 rfl B6 hcs) <| en fun a w e' hf=>?_
   obtain⟨HD,e,B4,B6⟩:=up4 e' HD e B4 B6
   refine tl_stW T25 hf rfl rfl h1one B4 rfl hcs fun w hg hsz B4 hf=>?_
   replace e:=e.gr hg (by omega);replace HD:=AvR.av (row:=some b4) _ _ _ hg HD;clear hg
   refine tA hf rfl fun a hf=>tl_nil <| wret (ret2c rfl T25 hf rfl rfl B4 hcs ?_)
   rintro _ rfl
   exact⟨_,rfl,e,by rw[hall];exact Tup.two (Dv.weak HD fun b _ hb=>by rw[hG'];exact .inl hb) rfl⟩
theorem ret2t {P:Program}{fn:Func}{t u s k:Nat}{R:Ending→World→Prop}{n:Nat}{a:Act}{w:World}{L:Env}{b:Nat}{cs:Array Value}{bt:TypeId}{A:VA}(hr:fn.results = #[.tmp s,.cell t u])(ht:TI P u true k)(hf:Fr n a w L)(h:look L t=some (E (.pointer (some ⟨b,0,none⟩))))(h':look L s=some A)
  (hb:Blk w b cs bt) (hs:cs.size=k) (hR:∀x,A.p x w→R (.returned (.tuple #[x,.agg cs])) w):bodyPost P fn R .ret a w:=by
 have hv:a.tmps.getD t undef=.pointer (some ⟨b,0,none⟩):=hf.val t _ h
 have hv':a.tmps[t]?.getD undef=.pointer (some ⟨b,0,none⟩):=by simpa using hv
 obtain⟨d,h1,h2⟩:=ht.u
 have hl:=run_loadVar_row (P:=P) w b bt u cs (0,0) d hb h1 (by cases d <;> simp_all) (by rw[ht.s,hs])
 exact⟨hf.defers,.tuple #[a.eval (.tmp s),.agg cs],by simp[results,hr,Act.eval,hv',asAddr,hl],hR _ (hf.val s A h')⟩
theorem ofR_len {V:List VT}{E:List ET}(h:(ofR V E).2=0):(ofR V E).1.1.length≤V.length+E.length∧(ofR V E).1.2.length≤V.length+E.length:=by
 have:∀(l:List DT) (g:GT) (m:Nat),g.1.length≤m→g.2.length≤m→(l.foldl ofS (g,0)).2=0→(l.foldl ofS (g,0)).1.1.length≤m+l.length∧(l.foldl ofS (g,0)).1.2.length≤m+l.length:=by
  intro l
  induction l with
  | nil=>intro g m h1 h2 _;exact⟨h1,h2⟩
  | cons d l ih=>
   intro g m h1 h2 h3
   rw[List.foldl_cons] at h3 ⊢
   by_cases hd:(doR g d).2=0
   ·have e1:ofS (g,0) d=((doR g d).1,0):=by rw[ofS,if_neg (by simp),if_neg (by simpa using hd)]
    rw[e1] at h3 ⊢
    have:=doR_len g d
    have h5:=ih (doR g d).1 (m+1) (by omega) (by omega) h3
    rw[List.length_cons];omega
   ·have e1:ofS (g,0) d=(([],[]),(doR g d).2):=by rw[ofS,if_neg (by simp),if_pos hd]
    rw[e1,ofS_stop (s:=(([],[]),(doR g d).2)) hd] at h3
    exact absurd h3 hd
 have h2:=this (V.map dV++E.map dE) ([],[]) 0 (Nat.le_refl _) (Nat.le_refl _) h
 simpa[ofR] using h2
theorem ofR_ok {V:List VT}{E:List ET}(hV:∀x∈V,0≤x.2.1∧x.2.1<256)(hE:∀x∈E,0≤x.2.1∧x.2.1<256):Gr.Ok (ofR V E).1:=by
 have z:Gr.Ok (([],[]):GT):=⟨List.Pairwise.nil,List.Pairwise.nil,by simp,by simp,by simp⟩
 have:∀(l:List DT) (s:GT×Int),Gr.Ok s.1→(∀d∈l,0≤d.2.2.2.1∧d.2.2.2.1<256)→Gr.Ok (l.foldl ofS s).1:=by
  intro l
  induction l with
  | nil=>intro s h _;exact h
  | cons d l ih=>
   intro s h hl
   rw[List.foldl_cons]
   refine ih _ ?_ fun d hd=>hl d (by simp[hd])
   unfold ofS
   split
   ·exact h
   ·split
    ·exact z
    ·exact ok_do h (hl d (by simp))
 refine this _ _ z fun d hd=>?_
 rcases List.mem_append.1 hd with h|h
 ·obtain⟨x,hx,rfl⟩:=List.mem_map.1 h;exact hV x hx
 ·obtain⟨x,hx,rfl⟩:=List.mem_map.1 h;exact hE x hx
theorem build_post {G:Nat→Prop}(g:GT)(hg:Gr.Ok g)(v u:Value)(W:World)(h1:(Dv (slE vtE) G g.1).p v W)(h2:(Dv (slE etE) G g.2).p u W)(hl1:g.1.length≤1000)(hl2:g.2.length≤1000){K:Nat→Prop}(hK:∀b,K b→b<W.heap.size) :
  Calls Tryz.prog 40 #[v,u] W (Post (Tup [Dv (ptE (grE 2000)) K (some g),E (I 0)]) W):=
 Calls.mono (build_spec g.1 g.2 v u W h1 h2 (by omega) (by omega) (okD_V hg) (okD_E hg)) fun en w' ⟨e,hq⟩=>by
  obtain⟨g',k1,k2,k3⟩:=bld_ok hg
  rcases hq with ⟨g2,b1,b2,b3,q1,rfl,q3,q4,q5,q6⟩|⟨c,q0,q1,_⟩
  ·rw[k1] at q1;cases q1
   exact⟨_,rfl,e,Tup.two ((q6.perm k2 k3).dv (by omega) (fun h=>by have:=hK _ h;omega) (fun h=>by have:=hK _ h;omega) (fun h=>by have:=hK _ h;omega)) rfl⟩
  ·rw[k1] at q1;cases q1
theorem insV_len (l:List VT)(x:VT):(insV l x).length=l.length+1:=by
 have:=(insW_perm (fun y=>lt1 x.1 y.1) x l).length_eq
 rw[List.length_cons] at this
 exact this
theorem doR_dV (g:GT)(x:VT):(doR g (dV x)).1.1.length≤g.1.length+1:=by
 unfold doR
 split
 ·exact Nat.le_succ _
 ·rw[if_pos (by rfl)]
  rw[insV_len]
  exact Nat.le_refl _
theorem doR_dE (g:GT)(x:ET):(doR g (dE x)).1.1=g.1:=by
 unfold doR
 split
 ·rfl
 ·rw[if_neg (show ¬((dE x).1==0)=true from (by decide:¬((2:Int)==0)=true)),if_pos (by rfl)]
theorem ofV_len:∀(l:List VT) (s:GT×Int),((l.map dV).foldl ofS s).1.1.length≤s.1.1.length+l.length:=by
 intro l
 induction l with
 | nil=>intro s;exact Nat.le_refl _
 | cons x l ih=>
  intro s
  rw[List.map_cons,List.foldl_cons]
  refine Nat.le_trans (ih _) ?_
  have h:(ofS s (dV x)).1.1.length≤s.1.1.length+1:=by
   unfold ofS
   split
   ·exact Nat.le_succ _
   ·split
    ·exact Nat.zero_le _
    ·exact doR_dV s.1 x
  rw[List.length_cons];omega
theorem ofE_len:∀(l:List ET) (s:GT×Int),((l.map dE).foldl ofS s).1.1.length≤s.1.1.length:=by
 intro l
 induction l with
 | nil=>intro s;exact Nat.le_refl _
 | cons x l ih=>
  intro s
  rw[List.map_cons,List.foldl_cons]
  refine Nat.le_trans (ih _) ?_
  unfold ofS
  split
  ·exact Nat.le_refl _
  ·split
   ·exact Nat.zero_le _
   ·dsimp only;rw[doR_dE];exact Nat.le_refl _
theorem ofR_vlen (V:List VT)(E':List ET):(ofR V E').1.1.length≤V.length:=by
 rw[ofR,List.foldl_append]
 refine Nat.le_trans (ofE_len _ _) (Nat.le_trans (ofV_len V _) ?_)
 simp
end Go.Mono
namespace Go.Mono
open Go Go.RowKit
def bC (n:Nat)(f:Nat→Bool):Array Value:=((List.range n).map fun j=>Value.bool (f j)).toArray
theorem bC_size (n:Nat)(f:Nat→Bool):(bC n f).size=n:=by simp[bC]
theorem bC_get {n i:Nat}{f:Nat→Bool}(h:i<n):(bC n f)[i]?=some (.bool (f i)):=by simp[bC,h]
theorem bC_congr {n:Nat}{f g:Nat→Bool}(h:∀i,i<n→f i=g i):bC n f=bC n g:=by
 unfold bC
 congr 1
 exact List.map_congr_left fun i hi=>by rw[h i (List.mem_range.1 hi)]
theorem bC_set (n:Nat)(f:Nat→Bool)(j:Nat)(b:Bool):(bC n f).setIfInBounds j (.bool b)=bC n (fun i=>if i=j then b else f i):=by
 apply Array.ext_getElem?
 intro i
 by_cases hi:i<n
 ·rw[bC_get hi]
  by_cases hk:i=j
  ·subst hk
   rw[Array.getElem?_setIfInBounds_self_of_lt (by rw[bC_size];exact hi)]
   simp
  ·rw[Array.getElem?_setIfInBounds_ne (Ne.symm hk),bC_get hi]
   simp[hk]
 ·rw[Array.getElem?_eq_none (by simp[bC_size];omega),Array.getElem?_eq_none (by simp[bC_size];omega)]
def oC (n k:Nat)(rb:Nat→Nat):Array Value:=((List.range n).map fun i=>if i<k then Value.slice (some ⟨rb i,0,none⟩) n n else .slice none 0 0).toArray
theorem oC_size (n k:Nat)(rb:Nat→Nat):(oC n k rb).size=n:=by simp[oC]
theorem oC_get {n k i:Nat}{rb:Nat→Nat}(h:i<k)(hk:k≤n):(oC n k rb)[i]?=some (.slice (some ⟨rb i,0,none⟩) n n):=by
 have:i<n:=by omega
 simp[oC,h,this]
def adB (rb:Nat→Nat)(k b:Nat):Nat→Nat:=fun i=>if i=k then b else rb i
theorem oC_set {n k b:Nat}{rb:Nat→Nat}(hk:k<n):(oC n k rb).setIfInBounds k (.slice (some ⟨b,0,none⟩) n n)=oC n (k+1) (adB rb k b):=by
 apply Array.ext_getElem?
 intro i
 by_cases hi:i<n
 ·by_cases hik:i=k
  ·subst hik
   rw[Array.getElem?_setIfInBounds_self_of_lt (by rw[oC_size];exact hi),oC_get (Nat.lt_succ_self _) hi]
   simp[adB]
  ·rw[Array.getElem?_setIfInBounds_ne (Ne.symm hik)]
   by_cases h:i<k
   ·rw[oC_get h (by omega),oC_get (show i<k+1 by omega) (by omega)]
    simp[adB,hik]
   ·have h':¬i<k+1:=by omega
    simp[oC,hi,h,h']
 ·rw[Array.getElem?_eq_none (by simp[oC_size];omega),Array.getElem?_eq_none (by simp[oC_size];omega)]
structure MatR (tr tb:TypeId)(N n k:Nat)(rb:Nat→Nat)(M:Nat→Nat→Bool)(bo:Nat)(w:World):Prop where
 o:Blk w bo (oC n k rb) tr
 r:∀i,i<k→Blk w (rb i) (bC n (M i)) tb
 d:∀i j,i<k→j<k→rb i=rb j→i=j
 lo:N≤bo∧∀i,i<k→N≤rb i
 ty:tr≠tb
section
variable {tr tb:TypeId}{N n k:Nat}{rb:Nat→Nat}{M M':Nat→Nat→Bool}{bo:Nat}{w w':World}
theorem Blk.tyNe {a b:Nat}{cs cs':Array Value}{t t':TypeId}(h:Blk w a cs t)(h':Blk w b cs' t')(ht:t≠t'):a≠b:=by
 rintro rfl
 unfold Blk at h h'
 rw[h] at h'
 cases h';exact ht rfl
theorem MatR.gro (h:MatR tr tb N n k rb M bo w){row:Option Nat}(hg:w.grownBy w' row)(h0:row≠some bo)(h1:∀i,i<k→row≠some (rb i)):MatR tr tb N n k rb M bo w':=
 ⟨(hg.block bo h.o.lt (fun e=>h0 e.symm)).trans h.o,fun i hi=>(hg.block _ (h.r i hi).lt (fun e=>h1 i hi e.symm)).trans (h.r i hi),h.d,h.lo,h.ty⟩
theorem MatR.ext (h:MatR tr tb N n k rb M bo w)(e:Ext w w'):MatR tr tb N n k rb M bo w':=⟨h.o.ext e,fun i hi=>(h.r i hi).ext e,h.d,h.lo,h.ty⟩
theorem MatR.congr (h:MatR tr tb N n k rb M bo w)(hM:∀i,i<k→∀j,j<n→M i j=M' i j):MatR tr tb N n k rb M' bo w:=
 ⟨h.o,fun i hi=>by rw[← bC_congr (hM i hi)];exact h.r i hi,h.d,h.lo,h.ty⟩
theorem MatR.add (h:MatR tr tb N n k rb M bo w){b:Nat}{f:Nat→Bool}(hb:Blk w b (bC n f) tb)(hn:∀i,i<k→rb i≠b)(hN:N≤b)(hk:k<n)(hg:w.grownBy w' (some bo))(ho:Blk w' bo ((oC n k rb).setIfInBounds k (.slice (some ⟨b,0,none⟩) n n)) tr) :
  MatR tr tb N n (k+1) (adB rb k b) (fun i=>if i=k then f else M i) bo w':=by
 refine⟨by rw[← oC_set hk];exact ho,fun i hi=>?_,fun i j hi hj hij=>?_,⟨h.lo.1,fun i hi=>?_⟩,h.ty⟩
 ·by_cases hik:i=k
  ·subst hik
   simp only[adB,if_true]
   exact hb.gr hg fun e=>h.o.tyNe hb h.ty e.symm
  ·simp only[adB,if_neg hik]
   exact (h.r i (by omega)).gr hg fun e=>h.o.tyNe (h.r i (by omega)) h.ty e.symm
 ·by_cases hik:i=k <;> by_cases hjk:j=k
  ·omega
  ·simp only[adB,if_neg hjk,hik,if_true] at hij
   exact absurd hij.symm (hn j (by omega))
  ·simp only[adB,if_neg hik,hjk,if_true] at hij
   exact absurd hij (hn i (by omega))
  ·simp only[adB,if_neg hik,if_neg hjk] at hij
   exact h.d i j (by omega) (by omega) hij
 ·by_cases hik:i=k
  ·simp only[adB,hik,if_true];exact hN
  ·simp only[adB,if_neg hik];exact h.lo.2 i (by omega)
def upM (M:Nat→Nat→Bool)(i j:Nat)(b:Bool):Nat→Nat→Bool:=fun a c=>if a=i∧c=j then b else M a c
theorem MatR.put (h:MatR tr tb N n k rb M bo w){i j:Nat}{b:Bool}(hi:i<k)(hg:w.grownBy w' (some (rb i)))(hb:Blk w' (rb i) ((bC n (M i)).setIfInBounds j (.bool b)) tb):MatR tr tb N n k rb (upM M i j b) bo w':=by
 refine⟨h.o.gr hg (h.o.tyNe (h.r i hi) h.ty),fun a ha=>?_,h.d,h.lo,h.ty⟩
 by_cases hai:a=i
 ·subst hai
  rw[bC_set] at hb
  rw[show (upM M a j b a)=fun c=>if c=j then b else M a c from funext fun c=>by simp[upM]]
  exact hb
 ·rw[show upM M i j b a=M a from funext fun c=>by simp[upM,hai]]
  exact (h.r a ha).gr hg fun e=>hai (h.d a i ha hi e)
theorem MatR.ne (h:MatR tr tb N n k rb M bo w){b:Nat}{cs:Array Value}{t:TypeId}(hb:Blk w b cs t)(h1:t≠tr)(h2:t≠tb):b≠bo∧∀i,i<k→b≠rb i:=
 ⟨hb.tyNe h.o h1,fun i hi=>hb.tyNe (h.r i hi) h2⟩
end
end Go.Mono
namespace Go.Mono
open Go Go.Proofs Go.RowKit Go.Gr

def idsG (g:GT):List Int:=g.1.map (·.1)
end Go.Mono
namespace Go.Mono
open Go Go.RowKit
def FuA (te:TypeId)(N:Nat)(xs:List Int):VA:=⟨fun v w=>∃b,N≤b∧v=.slice (some ⟨b,0,none⟩) xs.length xs.length∧Blk w b (xs.map (Value.int .i64)).toArray te,fun v w w' e ⟨b,h1,h2,h3⟩=>⟨b,h1,h2,h3.ext e⟩⟩
section
variable {P:Program}{w0:World}{L:Env}{dst:Option Tmp}{ty:TypeId}{pos:String}{aft:Array Edge}{g:Option (Nat×Bool)}{t te:TypeId}{N:Nat}
theorem bslF0 {s:Nat}(ht:P.underlying t=some (.slice te))(hi:(P.info? te).map (·.size)=some s)(hN:N≤w0.heap.size):OpC P w0 L ⟨dst,.buildSlice t 0 #[],ty,pos,aft,g⟩ (FuA te N []):=by
 refine⟨fun ρ w he hv=>?_⟩
 have hrun:(execOp ρ ⟨dst,.buildSlice t 0 #[],ty,pos,aft,g⟩).run P w=.ok (.value (.slice (some ⟨w.heap.size,0,none⟩) 0 0)) (w.alloc (.cells #[] te)):=by
  cases hit:P.info? te with
  | none=>simp[hit] at hi
  | some i=>simp[execOp,Instr.buildSlice,run_underlying ht,sizeOf,typeInfo,hit,Instr.fill,newRow,Array.range_zero']
 simp only[OpR,hrun]
 exact⟨ext_alloc _ _,w.heap.size,Nat.le_trans hN he.size,rfl,blk_alloc w _ _⟩
theorem slcT {α:Type}{e:Enc α}{G:Nat→Prop}{x y:Operand}{xs:List α}{i:Nat}(ht:P.underlying t=some (.slice te))(hs:(P.info? te).map (·.size)=some e.k)(hx:Is L w0 x (Dv (slE e) G xs))(hy:opd L y=some (E (.int .i64 (i:Nat))))(hi:i≤xs.length) :
  OpC P w0 L ⟨dst,.slice t x (some y) none none,ty,pos,aft,g⟩ (Dv (slE e) G (xs.drop i)):=
 opc_pure fun ρ w he hv=>by
  have h:=Dv.sl.1 (hx.v he hv (by simp[Op.operands]))
  have h2:=opE hv (x:=y) (by simp[Op.operands]) hy
  rcases h with ⟨h,rfl⟩|⟨ad,cap,cs,h,hc,h3,h4,h5,h6⟩
  ·have hi0:i=0:=by simpa using hi
   subst hi0
   refine⟨.slice none 0 0,?_,Dv.nil⟩
   simp[execOp,h,h2,Instr.sliceAt,Instr.slice,Instr.sliceBounds,Instr.sliceBound,asIntOf,run_underlying ht,sz_of hs]
  ·have h8:=h5.drop i
   have hxl:(xs.drop i).length=xs.length - i:=List.length_drop
   by_cases hcap:(cap:Int)=(i:Nat)
   ·have hl0:xs.length - i=0:=by omega
    have hd0:xs.drop i=[]:=List.drop_eq_nil_of_le (by omega)
    rw[hd0]
    refine⟨.slice (some ad) 0 0,?_,Dv.sl.2 (.inr ⟨ad,0,[],rfl,Nat.le_refl _,h3,h4,rfl,fun j u hu=>by simp at hu⟩)⟩
    have hi1:(0:Int)≤(i:Int)∧(i:Int)≤(xs.length:Int):=by omega
    have hl1:xs.length=i:=by omega
    have hc1:cap=i:=by omega
    subst hc1
    simp[execOp,h,h2,Instr.sliceAt,Instr.slice,Instr.sliceBounds,Instr.sliceBound,asIntOf,run_underlying ht,sz_of hs,hl1]
   ·refine⟨.slice (some (ad.add (i * e.k))) (xs.drop i).length (cap - i),?_,Dv.sl.2 (.inr ⟨ad.add (i * e.k),cap - i,cs.drop (i * e.k),rfl,by rw[hxl];omega,by simpa[add_block] using h3,by simpa[add_block] using h4,h8,fun j u hu=>?_⟩)⟩
    ·have hne:¬cap=i:=fun hh=>hcap (by rw[hh])
     have hne2:¬cap - i=0:=by omega
     have hle:(i:Int)≤(xs.length:Int):=by omega
     have hle2:i≤cap:=by omega
     have hle3:i≤xs.length:=hi
     simp[execOp,h,h2,Instr.sliceAt,Instr.slice,Instr.sliceBounds,Instr.sliceBound,asIntOf,run_underlying ht,sz_of hs,hne,hne2,hle,hle2,hle3,hc]
    ·rw[Go.Deep.add_add]
     rw[List.getElem?_drop] at hu
     exact h6 _ _ hu
end
end Go.Mono
namespace Go.Mono
open Go Go.Proofs Go.RowKit Go.Gr

theorem nd_len:∀(l m:List Int),l.Nodup→(∀x∈l,x∈m)→l.length≤m.length
 | [],m,_,_=>Nat.zero_le _
 | x::l,m,hn,hs=>by
  have hx:=hs x (List.mem_cons_self ..)
  have h1:=nd_len l (m.erase x) (List.nodup_cons.1 hn).2 fun y hy=>(List.mem_erase_of_ne (fun h=>(List.nodup_cons.1 hn).1 (by rw[← h];exact hy))).2 (hs y (List.mem_cons_of_mem _ hy))
  have h2:=List.length_erase_of_mem hx
  have h3:=List.length_pos_of_mem hx
  rw[List.length_cons];omega
inductive RV (nbr:Int→List Int)(th:List Int)(v:Int):Int→Prop
 | one {u:Int}:u∈nbr v→RV nbr th v u
 | step {t u:Int}:RV nbr th v t→t∈th→u∈nbr t→RV nbr th v u
def addN (s:List Int)(x:Int):List Int:=if x∈s then s else s++[x]
def addL (s l:List Int):List Int:=l.foldl addN s
theorem addN_ex (s:List Int)(x:Int):∃t,addN s x=s++t:=by
 unfold addN;split
 ·exact⟨[],(List.append_nil _).symm⟩
 ·exact⟨[x],rfl⟩
theorem addL_ex:∀(l s:List Int),∃t,addL s l=s++t
 | [],s=>⟨[],(List.append_nil _).symm⟩
 | x::l,s=>by
  obtain⟨t,h⟩:=addN_ex s x
  obtain⟨t',h'⟩:=addL_ex l (addN s x)
  exact⟨t++t',by rw[← List.append_assoc,← h];exact h'⟩
theorem mem_addN {s:List Int}{x y:Int}:y∈addN s x↔y∈s∨y=x:=by
 unfold addN;split
 ·rename_i h
  exact⟨.inl,fun hh=>hh.elim id fun e=>e▸h⟩
 ·rw[List.mem_append,List.mem_singleton]
theorem mem_addL {y:Int}:∀(l s:List Int),y∈addL s l↔y∈s∨y∈l
 | [],s=>by simp[addL]
 | x::l,s=>by
  rw[show addL s (x::l)=addL (addN s x) l from rfl,mem_addL l,mem_addN,List.mem_cons,or_assoc]
theorem addN_nd {s:List Int}{x:Int}(h:s.Nodup):(addN s x).Nodup:=by
 unfold addN;split
 ·exact h
 ·rename_i hx
  rw[List.nodup_append]
  exact⟨h,by simp,fun a ha b hb e=>hx (by rw[List.mem_singleton] at hb;rw[← hb,← e];exact ha)⟩
theorem addL_nd:∀(l s:List Int),s.Nodup→(addL s l).Nodup
 | [],s,h=>h
 | x::l,s,h=>addL_nd l _ (addN_nd h)
structure RcI (ids:List Int)(nbr:Int→List Int)(th:List Int)(v:Int)(sn:List Int)(k:Nat):Prop where
 nd:sn.Nodup
 vin:v∈sn
 sub:∀x∈sn,x∈ids
 rch:∀x∈sn,x=v∨RV nbr th v x
 cl:∀j,j<k→∀x,sn[j]?=some x→(x=v∨x∈th)→∀y∈nbr x,y∈sn
section
variable {ids th sn:List Int}{nbr:Int→List Int}{v x:Int}{k:Nat}
theorem RcI.len (h:RcI ids nbr th v sn k):sn.length≤ids.length:=nd_len _ _ h.nd h.sub
theorem RcI.zero (hv:v∈ids):RcI ids nbr th v [v] 0:=
 ⟨by simp,by simp,fun x hx=>by rw[List.mem_singleton.1 hx];exact hv,fun x hx=>.inl (List.mem_singleton.1 hx),fun j hj=>by omega⟩
theorem RcI.skip (h:RcI ids nbr th v sn k)(hx:sn[k]?=some x)(hn:¬(x=v∨x∈th)):RcI ids nbr th v sn (k+1):=
 ⟨h.nd,h.vin,h.sub,h.rch,fun j hj y hy hyy=>by
  by_cases hjk:j=k
  ·subst hjk;rw[hx] at hy;cases hy;exact absurd hyy hn
  ·exact h.cl j (by omega) y hy hyy⟩
theorem RcI.step (h:RcI ids nbr th v sn k)(hs:∀a,∀y∈nbr a,y∈ids)(hx:sn[k]?=some x)(hn:x=v∨x∈th):RcI ids nbr th v (addL sn (nbr x)) (k+1):=by
 obtain⟨t,ht⟩:=addL_ex (nbr x) sn
 have hkl:k<sn.length:=(List.getElem?_eq_some_iff.1 hx).1
 refine⟨addL_nd _ _ h.nd,(mem_addL _ _).2 (.inl h.vin),fun y hy=>?_,fun y hy=>?_,fun j hj y hy hyy z hz=>?_⟩
 ·exact ((mem_addL _ _).1 hy).elim (h.sub y) (hs x y)
 ·rcases (mem_addL _ _).1 hy with hy|hy
  ·exact h.rch y hy
  ·rcases h.rch x (List.mem_of_getElem? hx) with rfl|hr
   ·exact .inr (.one hy)
   ·rcases hn with rfl|hn
    ·exact .inr (.one hy)
    ·exact .inr (.step hr hn hy)
 ·rw[ht,List.getElem?_append_left (by omega)] at hy
  by_cases hjk:j=k
  ·subst hjk;rw[hx] at hy;cases hy;exact (mem_addL _ _).2 (.inr hz)
  ·exact (mem_addL _ _).2 (.inl (h.cl j (by omega) y hy hyy z hz))
theorem RcI.done (h:RcI ids nbr th v sn k)(hk:sn.length≤k):x∈sn↔x=v∨RV nbr th v x:=by
 have hc:∀a∈sn,(a=v∨a∈th)→∀y∈nbr a,y∈sn:=fun a ha=>by
  obtain⟨j,hj,hja⟩:=List.getElem_of_mem ha
  exact h.cl j (by omega) a (by rw[List.getElem?_eq_getElem hj,hja])
 refine⟨h.rch x,?_⟩
 rintro (rfl|hr)
 ·exact h.vin
 ·induction hr with
  | one h1=>exact hc _ h.vin (.inl rfl) _ h1
  | step _ ht hu ih=>exact hc _ ih (.inr ht) _ hu
end

section
variable {g:GT}
theorem nb_symm (G:Gr.Ok g):∀i j:Nat,(nbA g (i:Int)).getLsbD j=true→(nbA g (j:Int)).getLsbD i=true:=fun i j h=>(nbA_bit G).2 ((nbA_bit G).1 h).symm
end
end Go.Mono
namespace Go.Mono
open Go Go.RowKit
theorem run_equalIn_pp {P:Program}(w:World)(d:Nat)(t:TypeId)(p q:Option Addr)(h:P.underlying t=some (.pointer (P.pointee t)))(hpq:p=none∨q=none):(Op.equalIn (d+1) t (.pointer p) (.pointer q)).run P w=.ok (p.isNone&&q.isNone) w:=by
 rcases hpq with rfl|rfl
 ·cases q <;> simp[Op.equalIn,run_underlying h]
 ·cases p <;> simp[Op.equalIn,run_underlying h]
theorem run_equal_pp {P:Program}(w:World)(t:TypeId)(p q:Option Addr)(h:P.underlying t=some (.pointer (P.pointee t)))(hpq:p=none∨q=none):(Op.equal t (.pointer p) (.pointer q)).run P w=.ok (p.isNone&&q.isNone) w:=run_equalIn_pp w 9999 t p q h hpq
theorem eqlPP {P:Program}{w0:World}{L:Env}{dst:Option Tmp}{ty:TypeId}{pos:String}{aft:Array Edge}{g:Option (Nat×Bool)}{x y:Operand}{t yt pe:TypeId}{p q:Option Addr}(ht0:P.underlying t=some (.pointer pe))(hx:opd L x=some (E (.pointer p)))(hy:opd L y=some (E (.pointer q)))(hpq:p=none∨q=none) :
  OpC P w0 L ⟨dst,.binOp .eql t x y yt,ty,pos,aft,g⟩ (E (.bool (p.isNone&&q.isNone))):=
 opc_eql hx hy (fun w=>rfl) rfl fun w _=>run_equal_pp w t p q (ptee ht0) hpq
end Go.Mono
namespace Go.Mono
open Go Go.Proofs Go.RowKit Go.Gr
theorem diff_zero (V:BS)(i:Nat):(V &&& ~~~(0:BS)).getLsbD i=true↔V.getLsbD i=true:=by
 rw[bit_diff]
 exact⟨fun h=>h.1,fun h=>⟨h,bit_zero i⟩⟩
theorem diff_zero' (V:BS):V &&& ~~~(0:BS)=V:=set_ext' (diff_zero V)
section
variable {g:GT}
theorem widO_ok (G:Gr.Ok g)(hl:g.1.length≤12):(widO g).Nodup∧(∀i,i∈widO g↔(vset g.1).getLsbD i=true)∧widL (nbA g) 0 (widO g)=rsR (nbA g) (vset g.1) 0:=by
 have hs:=sml_ok G hl (all:=vset g.1) fun i h=>h
 have hb:=rsR_bd (nb:=nbA g) (all:=vset g.1) 0
 obtain⟨h1,h2,h3⟩:=grF_ok hs hb.1 (card (vset g.1)) 0 (by rw[diff_zero']) (Int.le_refl _)
 have h2':∀i,i∈widO g↔(vset g.1).getLsbD i=true:=fun i=>by rw[widO,h2,diff_zero]
 have h4:=rsR_low (nb:=nbA g) (all:=vset g.1) (widO g) 0 h1 fun i=>by rw[h2',diff_zero]
 refine⟨h1,h2',?_⟩
 have h3':widL (nbA g) 0 (widO g)≤rsR (nbA g) (vset g.1) 0:=h3
 omega
end
end Go.Mono
namespace Go.Mono
open Go Go.Proofs Go.RowKit

def natE (l:List Nat):List Int:=l.map fun i:Nat=>(i:Int)
structure AqJ (W:World)(N b2 B:Nat)(s:List Nat)(w:World):Prop where
 e:Ext W w
 t:Tab w
 p:∃u,Blk w b2 #[u] 35∧OwR intE 3 N G0 w (natE s) u∧∀g,u.ownBlock=some g→¬Hole B g
theorem AqJ.kp {W:World}{N b2 B:Nat}{s:List Nat}{w w':World}(h:AqJ W N b2 B s w)(k:Kp B w w')(hW:W.heap.size≤B)(h0:0<B)(l2:b2<B):AqJ W N b2 B s w':=by
 obtain⟨u,q1,q2,q3⟩:=h.p
 exact⟨h.e.kp k hW,h.t.kp k h0,⟨u,q1.kp k (fun hh=>by have:=hh.1;omega),q2.chE k.chg q3,q3⟩⟩
theorem appendSeq_spec (S:BS)(b:Nat)(W:World)(hT:Tab W)(hb:Blk W b (setC S) 76) :
  Calls Tryz.prog 136 #[.slice none 0 0,seqV b] W (Post (OwA intE 3 W.heap.size G0 (natE (elems S))) W):=by
 have hT0:=hT.lt
 refine enterM (args:=[.slice none 0 0,seqV b]) (As:=[E (.slice none 0 0),E (seqV b)]) Tryz.func136 rfl Tryz.ntmps136 (Nat.le_of_ble_eq_true rfl) ?_ (fun a hf=>?_) (Nat.le_of_ble_eq_true rfl)
 ·exact arg2 rfl rfl
 dsimp only[params,Nat.reduceAdd] at hf
 have e:=Ext.rfl' W
 refine seq <| regn0 <| tB hf rfl fun a b2 w v2 hv2 e' hb2 hs2 B2 hf=>?_
 have hle2:=Nat.le_trans e.size (Nat.le_of_eq hb2.symm)
 obtain⟨hT,e,hb⟩:=up3 e' hT e hb
 refine tA hf rfl fun a hf=>tl_nil ?_
 cases hv2
 replace B2:Blk w b2 #[.slice none 0 0] 35:=B2
 replace hf:=hf.keep [1,2]
 repeat refine seq ?_
 refine rgN 1 hf <| st (mv rfl) <| en fun a w e' hf=>?_
 obtain⟨hT,e,hb,B2⟩:=up4 e' hT e hb B2
 refine tl_nil ?_
 replace hf:=hf.kp [2,6]
 have n2:W.heap.size≤b2:=hle2
 have hBW:W.heap.size≤w.heap.size:=e.size
 have h0w:0<w.heap.size:=hT.lt
 have l2:=B2.lt
 have hel:=elems_len S
 obtain⟨N,hN⟩:∃N,N=w.heap.size:=⟨_,rfl⟩
 have hNs:N≤w.heap.size:=Nat.le_of_eq hN
 have l2N:b2<N:=by omega
 have hWN:W.heap.size≤N:=by omega
 refine blk <| range_all3 (S:=S) hf rfl hb (by decide) (fun s w1=>AqJ W N b2 w.heap.size s w1) (fun _ _=>False) (fun s w1 h=>h.t)
  ⟨e,hT,⟨_,B2,OwR.nil intE _ hNs (fun b hb=>hb.elim),fun g hg=>by cases hg⟩⟩ (fun s w1 w2 h hs k=>h.kp k hBW h0w l2) (fun _ _ _ h=>h.elim) ?_ ?_ (fun _ _ _ _ _ _ h=>h.elim)
 ·intro lp s x rest a1 w1 hs hJ hlw hf
  have hsl:s.length≤1024:=by rw[hs] at hel;simp at hel;omega
  generalize hBz:w.heap.size=Bz at *
  refine regn0 <| tA hf rfl fun a hf=>tl_nil <| ⟨Kh.rfl' _ _,fun w3 k3 hsz3=>?_⟩
  have hJ3:=hJ.kp k3 hBW h0w l2
  have hw3:Bz+3≤w3.heap.size:=by omega
  replace hf:=hf.pure w3
  obtain⟨e,hT,⟨u,B2,Ho,lH⟩⟩:=hJ3
  have kh:=Kh.rfl' Bz w3
  replace hf:=hf.kp [2,5]
  refine blk ?_
  have hln:(natE s).length=s.length:=by simp[natE]
  refine rgN 3 hf <| st (ld1 (v:=u) T35 rfl B2 rfl) <| st (mv rfl) <| st (bsl1 U35 I3 rfl (by decide) rfl Ho.avs (isI rfl)) <| en fun a w e' hf=>?_
  replace hT:=hT.ext e'
  replace kh:=kh.tr (Kh.ext e')
  obtain⟨hw3,e,B2,Ho⟩:=up4 e' hw3 e B2 Ho
  have hrow:∀b,u.ownBlock=some b→N≤b:=fun b hb=>(Ho.lt hb).1
  refine tl_app U35 I3 rfl rfl hf (by decide) rfl Ho (isR rfl) (by rw[hln,List.length_singleton];omega) (by rw[hln,List.length_singleton];simp only[maxLen];omega) fun a u' w hg hat Hn hf=>?_
  replace B2:=B2.gro hg (Ho.neB B2 (by decide))
  replace e:=e.gro hg (fun b hb=>by have:=hrow b hb;omega)
  replace hT:=hT.gro hg (fun b hb=>by have:=hrow b hb;omega)
  replace kh:=kh.tr (Kh.gro hg lH)
  have lH':=own_hole hat lH hw3
  have z2:u'.ownBlock≠some b2:=Hn.neB B2 (by decide)
  have hone:=Hn.one
  replace hf:=hf.kp [2,5,11]
  refine tl_st1 T35 hf rfl rfl hone B2 Nat.zero_lt_one fun w hg hsz B2 hf=>?_
  replace B2:Blk w b2 #[u'] 35:=B2
  obtain⟨e,hT⟩:=gr2 hg e hT
  replace kh:=kh.tr (Kh.gr hg (fun hh=>by have:=hh.1;omega))
  replace Hn:=Hn.grE hg z2
  refine tl_nil ?_
  simp only[Exit.inBlock]
  exact⟨⟨e,hT,⟨u',B2,by rw[natE,List.map_append];exact Hn,lH'⟩⟩,kh⟩
 ·intro a' w' hf' hJ hsz hDn
  simp only[Exit.inBlock,↓reduceIte,Exit.then]
  have hD:Ds [w.heap.size] w':=(Ds.nil w').cons hDn (by simp)
  have hf:FrD 13 (marks [w.heap.size]) a' w' [(2,E (ptr b2))]:=hf'.keep [2]
  have hDW:∀d∈[w.heap.size],W.heap.size≤d:=fun d hd=>by rw[List.mem_singleton] at hd;omega
  obtain⟨e,hT,⟨u,B2,Ho,_⟩⟩:=hJ
  generalize [w.heap.size]=D2 at *
  generalize w'=w at *
  refine seq <| rgN 1 hf <| st (ld1 (v:=u) T35 rfl B2 rfl) <| en fun a w e' hf=>?_
  obtain⟨e,B2,hD,Ho⟩:=up4 e' e B2 hD Ho
  refine tA hf rfl fun a hf=>tl_nil <| wret <| ret1M rfl hf rfl hD ⟨_,rfl,e.shut hDW,?_⟩
  exact (Ho.chE (chg_shut D2 w) fun b hb hm=>Ho.neDs hD hm hb).low hWN fun b hb=>hb.elim
def BlkL (w:World):List (Nat×Array Value×TypeId)→Prop
 | []=>True
 | x::K=>Blk w x.1 x.2.1 x.2.2∧BlkL w K
def LtL (B:Nat):List (Nat×Array Value×TypeId)→Prop
 | []=>True
 | x::K=>x.1<B∧LtL B K
theorem BlkL.kp {B:Nat}{w w':World}(k:Kp B w w'):∀{K:List (Nat×Array Value×TypeId)},BlkL w K→LtL B K→BlkL w' K
 | [],_,_=>trivial
 | x::K,h,l=>⟨h.1.kp k (fun hh=>by have:=hh.1;have:=l.1;omega),BlkL.kp k h.2 l.2⟩
theorem BlkL.lt {w:World}:∀{K:List (Nat×Array Value×TypeId)},BlkL w K→LtL w.heap.size K
 | [],_=>trivial
 | x::K,h=>⟨h.1.lt,BlkL.lt h.2⟩
structure RJ (W:World)(fs:List BS)(fv:Value)(K:List (Nat×Array Value×TypeId))(D:List Nat)(w:World):Prop where
 e:Ext W w
 t:Tab w
 hv:(Dv (slE setE) (GB W G0) fs).p fv w
 bl:BlkL w K
 ds:Ds D w
theorem RJ.kp {W:World}{fs:List BS}{fv:Value}{K:List (Nat×Array Value×TypeId)}{D:List Nat}{B:Nat}{w w':World}(h:RJ W fs fv K D w)(k:Kp B w w')(hW:W.heap.size≤B)(h0:0<B)(hK:LtL B K)(hD:∀d∈D,d<B):RJ W fs fv K D w':=
 ⟨h.e.kp k hW,h.t.kp k h0,Dv.ch h.hv k.chg (fun b hb=>.inr (by have:=hb.1;omega)),h.bl.kp k hK,h.ds.ch k.chg fun d hd hh=>by have:=hh.1;have:=hD d hd;omega⟩

def outTo (fs:List BS)(s:List Nat):BS:=s.foldl (fun r n=>r ||| sg fs n) 0
def outM (fs:List BS)(part:BS):BS:=outTo fs (elems part) &&& ~~~part

end Go.Mono
namespace Go.Mono
def partsB (fs:List BS)(left:BS):List BS:=(splitF fs (1+fs.length) left).getD []
def mostB (fs:List BS)(part:BS)(n:Nat):Nat:=(partsB fs (del part (n:Int))).foldl (fun m C=>max m (card C)) 0
def cenStep (fs:List BS)(part:BS)(s:Int×Int)(n:Nat):Int×Int:=if s.1<0∨(mostB fs part n:Int)<s.2 then ((n:Int),(mostB fs part n:Int)) else s
def cenTo (fs:List BS)(part:BS)(s:List Nat):Int×Int:=s.foldl (cenStep fs part) (-1,0)
def cenB (fs:List BS)(part:BS):Nat:=(cenTo fs part (elems part)).1.toNat

def pathF (fs:List BS)(part:BS)(to:Nat):Nat→BS→Nat→Option BS
 | 0,r,x=>if x=to then some r else none
 | f+1,r,x=>if x=to then some r else
   oEl ((elems ((sg fs x &&& part) &&& ~~~r)).find? fun n=>(compB fs (del part (x:Int)) n).getLsbD to) none fun n=>pathF fs part to f (ins r (n:Int)) n
def pathB (fs:List BS)(part:BS)(x y:Nat):BS:=(pathF fs part y (1+fs.length) (ins 0 (x:Int)) x).getD 0
def endB (fs:List BS)(part:BS)(n:Nat):Nat:=(minOf (sg fs n &&& part)).getD 0
def splP (fs:List BS)(part between:BS)(c n:Nat):Bool:=between.getLsbD n&&decide (card (pathB fs part c n &&& between)=1)
def splB (fs:List BS)(part out:BS):Nat:=
 if card out<2 then cenB fs part
 else match (elems out).map (endB fs part) with
  | e0::e1::_=>((elems (pathB fs part (cenB fs part) e0)).find? (splP fs part (pathB fs part e0 e1) (cenB fs part))).getD (cenB fs part)
  | _=>cenB fs part

section
variable {fs:List BS}{T:Tr}{part:BS}

theorem P_adj {x k i:Nat}(hx:x<T.n)(hk:k<T.n)(h:T.adj k x)(hP:T.P i x k):i=x∨i=k:=by
 apply Classical.byContradiction
 intro hn
 exact hP (Tr.cn.of_adj hx hk ⟨hx,fun e=>hn (.inl e.symm)⟩ ⟨hk,fun e=>hn (.inr e.symm)⟩ h.symm)
theorem find_one {p:Nat→Bool}{k:Nat}:∀{l:List Nat},k∈l→p k=true→(∀n∈l,p n=true→n=k)→l.find? p=some k
 | [],h,_,_=>by cases h
 | x::l,h,hk,h1=>by
  rw[List.find?_cons]
  cases hx:p x with
  | true=>rw[h1 x (by simp) hx]
  | false=>
   rcases List.mem_cons.1 h with rfl|h
   ·rw[hk] at hx;cases hx
   ·exact find_one h hk fun n hn=>h1 n (by simp[hn])
theorem path_next (F:Fo fs T)(hin:∀i,part.getLsbD i=true→i<T.n)(hC:T.conn (bits part)){x y z:Nat}{r:BS}(hx:part.getLsbD x=true)(hy:part.getLsbD y=true)(hz:part.getLsbD z=true)(hr:∀i,r.getLsbD i=true↔T.P i x z)(hP:T.P z x y)(hne:z≠y) :
  ∃k,(elems ((sg fs z &&& part) &&& ~~~r)).find? (fun n=>(compB fs (del part (z:Int)) n).getLsbD y)=some k∧part.getLsbD k=true∧(∀i,(ins r (k:Int)).getLsbD i=true↔T.P i x k)∧T.P k x y∧T.dist k y<T.dist z y:=by
 have hxn:=hin x hx
 have hyn:=hin y hy
 have hzn:=hin z hz
 have hle:=F.le
 obtain⟨k,k1,k2⟩:=Tr.hop hC hzn hyn hz hy (Ne.symm hne)
 have hkp:part.getLsbD k=true:=k2.2.2.1.1
 have hkn:=k2.1
 have hV:T.cn (Tr.wo (fun i=>i<T.n) z) k y:=k2.mono fun i hi h=>⟨hi,h.2⟩
 have p1:T.P k z y:=Tr.hop_P hzn k1 hV
 have p2:T.P k x y:=hP.sub' p1
 have p3:T.P z x k:=(hP.split k).resolve_right fun h=>h hV
 have hkz:k≠z:=k2.2.2.1.2
 have hdel:∀i,(del part (z:Int)).getLsbD i=true↔part.getLsbD i=true∧i≠z:=fun i=>bit_del part (by omega)
 have hbits:(bits (del part (z:Int)))=Tr.wo (bits part) z:=by funext i;exact propext (hdel i)
 have hind:∀i,(del part (z:Int)).getLsbD i=true→i<T.n:=fun i hi=>hin i ((hdel i).1 hi).1
 have hcand:∀n,n∈elems ((sg fs z &&& part) &&& ~~~r)↔T.adj z n∧part.getLsbD n=true∧¬r.getLsbD n=true:=fun n=>by
  rw[mem_elems,bit_diff,bit_and,F.adj hzn]
  constructor
  ·rintro⟨_,⟨⟨_,h1⟩,h2⟩,h3⟩;exact⟨h1,h2,h3⟩
  ·rintro⟨h1,h2,h3⟩;exact⟨bit_lt h2,⟨⟨hin n h2,h1⟩,h2⟩,h3⟩
 have hcmp:∀n,T.adj z n→part.getLsbD n=true→((compB fs (del part (z:Int)) n).getLsbD y=true↔T.cn (Tr.wo (bits part) z) n y):=fun n hn hp=>by
  have hnd:(del part (z:Int)).getLsbD n=true:=(hdel n).2 ⟨hp,fun e=>(hn.ne hzn) e.symm⟩
  rw[(comp_some F hind hnd).2 y,hbits]
 refine⟨k,find_one ((hcand k).2 ⟨k1.symm,hkp,fun h=>hkz (Tr.P.meet hxn hyn hP ((hr k).1 h) p1)⟩) ((hcmp k k1.symm hkp).2 k2) (fun n hn hpn=>?_),hkp,fun i=>?_,p2,?_⟩
 ·obtain⟨h1,h2,_⟩:=(hcand n).1 hn
  exact Tr.hop_one hzn h1.symm k1 (((hcmp n h1 h2).1 hpn).trans k2.symm)
 ·rw[bit_ins r (by omega),hr]
  constructor
  ·rintro (h|rfl)
   ·exact p3.sub h
   ·exact Tr.P.right
  ·intro h
   rcases h.split z with h|h
   ·exact .inl h
   ·rcases P_adj hzn hkn k1 h with rfl|rfl
    ·exact .inl Tr.P.right
    ·exact .inr rfl
 ·exact Tr.dist_lt hzn (fun u _ hu=>p1.sub' hu) Tr.P.left fun h=>h hV
theorem pathF_ok (F:Fo fs T)(hin:∀i,part.getLsbD i=true→i<T.n)(hC:T.conn (bits part)){x y:Nat}(hx:part.getLsbD x=true)(hy:part.getLsbD y=true):∀(f:Nat) (r:BS) (z:Nat),part.getLsbD z=true→(∀i,r.getLsbD i=true↔T.P i x z)→T.P z x y→T.dist z y≤f →
  ∃Z,pathF fs part y f r z=some Z∧∀i,Z.getLsbD i=true↔T.P i x y:=by
 intro f
 induction f with
 | zero=>
  intro r z hz hr hP hd
  by_cases h:z=y
  ·subst h;exact⟨r,by rw[pathF,if_pos rfl],hr⟩
  ·obtain⟨k,_,_,_,_,h5⟩:=path_next F hin hC hx hy hz hr hP h
   omega
 | succ f ih=>
  intro r z hz hr hP hd
  by_cases h:z=y
  ·subst h;exact⟨r,by rw[pathF,if_pos rfl],hr⟩
  ·obtain⟨k,h1,h2,h3,h4,h5⟩:=path_next F hin hC hx hy hz hr hP h
   obtain⟨Z,h6,h7⟩:=ih _ k h2 h3 h4 (by omega)
   exact⟨Z,by rw[pathF,if_neg h,h1,oEl];exact h6,h7⟩
theorem dist_le (x y:Nat):T.dist x y≤T.n:=by
 unfold Tr.dist
 have:=List.countP_le_length (p:=fun z=>@decide (T.P z x y) (Classical.propDecidable _)) (l:=List.range T.n)
 rwa [List.length_range] at this
theorem P_self {i x:Nat}(hx:x<T.n):T.P i x x↔i=x:=by
 constructor
 ·intro h
  apply Classical.byContradiction
  intro hn
  exact h (Tr.cn.refl hx ⟨hx,Ne.symm hn⟩)
 ·rintro rfl;exact Tr.P.left
theorem path_some (F:Fo fs T)(hin:∀i,part.getLsbD i=true→i<T.n)(hC:T.conn (bits part)){x y:Nat}(hx:part.getLsbD x=true)(hy:part.getLsbD y=true) :
  pathF fs part y (1+fs.length) (ins 0 (x:Int)) x=some (pathB fs part x y)∧∀i,(pathB fs part x y).getLsbD i=true↔T.P i x y:=by
 have hle:=F.le
 have hd:=dist_le (T:=T) x y
 obtain⟨Z,h1,h2⟩:=pathF_ok F hin hC hx hy (1+fs.length) (ins 0 (x:Int)) x hx (fun i=>by
  rw[bit_ins 0 (by have:=hin x hx;omega),P_self (hin x hx)]
  exact⟨fun h=>h.resolve_left (bit_zero i),.inr⟩) Tr.P.left (by have:=F.len;omega)
 have:pathB fs part x y=Z:=by rw[pathB,h1];rfl
 rw[this]
 exact⟨h1,h2⟩
theorem path_in (F:Fo fs T)(hin:∀i,part.getLsbD i=true→i<T.n)(hC:T.conn (bits part)){x y i:Nat}(hx:part.getLsbD x=true)(hy:part.getLsbD y=true)(h:(pathB fs part x y).getLsbD i=true):part.getLsbD i=true:=
 Tr.P.mem hC (hin x hx) (hin y hy) hx hy (((path_some F hin hC hx hy).2 i).1 h)

theorem del_in (hin:∀i,part.getLsbD i=true→i<T.n)(z:Int):∀i,(del part z).getLsbD i=true→i<T.n:=fun i h=>by
 unfold del at h
 split at h
 ·exact hin i ((bit_diff _ _ i).1 h).1
 ·exact hin i h
theorem parts_some (F:Fo fs T){left:BS}(hin:∀i,left.getLsbD i=true→i<T.n):splitF fs (1+fs.length) left=some (partsB fs left)∧(partsB fs left).length≤card left∧(∀C∈partsB fs left,∃k,left.getLsbD k=true∧C=compB fs left k)∧∀k,left.getLsbD k=true→compB fs left k∈partsB fs left:=by
 have:=card_le_n hin
 obtain⟨l,h1,h2⟩:=splitF_ok F (1+fs.length) left hin (by have:=F.len;omega)
 have e:partsB fs left=l:=by rw[partsB,h1];rfl
 rw[e]
 exact⟨h1,h2⟩
theorem cen_inv (fs:List BS)(part:BS):∀(l:List Nat) (s:Int×Int),(0≤s.1→∃n:Nat,s.1=(n:Int)∧s.2=(mostB fs part n:Int)) →
  (l≠[]∨0≤s.1)→∃n:Nat,(l.foldl (cenStep fs part) s).1=(n:Int)∧(n∈l∨s.1=(n:Int))∧(l.foldl (cenStep fs part) s).2=(mostB fs part n:Int)∧(∀m∈l,mostB fs part n≤mostB fs part m)∧(0≤s.1→(mostB fs part n:Int)≤s.2)
 | [],s,h,h0=>by
  have h1:=h0.resolve_left (by simp)
  obtain⟨n,h2,h3⟩:=h h1
  exact⟨n,h2,.inr h2,h3,by simp,fun _=>by omega⟩
 | m::l,s,h,_=>by
  rw[List.foldl_cons]
  by_cases hc:s.1<0∨(mostB fs part m:Int)<s.2
  ·have e:cenStep fs part s m=((m:Int),(mostB fs part m:Int)):=if_pos hc
   obtain⟨n,h1,h2,h3,h4,h5⟩:=cen_inv fs part l (cenStep fs part s m) (fun _=>⟨m,by rw[e],by rw[e]⟩) (.inr (by rw[e];exact Int.natCast_nonneg m))
   have h5':=h5 (by rw[e];exact Int.natCast_nonneg m)
   rw[e] at h5' h2
   refine⟨n,h1,.inl ?_,h3,fun x hx=>?_,fun h0=>?_⟩
   ·rcases h2 with h2|h2
    ·exact List.mem_cons_of_mem _ h2
    ·simp only at h2
     have:n=m:=by omega
     subst this;simp
   ·rcases List.mem_cons.1 hx with rfl|hx
    ·simp only at h5';omega
    ·exact h4 x hx
   ·simp only at h5';omega
  ·have e:cenStep fs part s m=s:=if_neg hc
   have h0:0≤s.1:=by omega
   rw[e]
   obtain⟨n,h1,h2,h3,h4,h5⟩:=cen_inv fs part l s h (.inr h0)
   have:=h5 h0
   refine⟨n,h1,h2.imp (List.mem_cons_of_mem _) id,h3,fun x hx=>?_,fun _=>this⟩
   rcases List.mem_cons.1 hx with rfl|hx
   ·omega
   ·exact h4 x hx
theorem cen_ok {p:Nat}(hp:part.getLsbD p=true):part.getLsbD (cenB fs part)=true∧(cenTo fs part (elems part)).1=(cenB fs part:Int)∧∀m,part.getLsbD m=true→mostB fs part (cenB fs part)≤mostB fs part m:=by
 have hpe:=mem_elems.2 ⟨bit_lt hp,hp⟩
 obtain⟨n,h1,h2,h3,h4,_⟩:=cen_inv fs part (elems part) (-1,0) (fun h=>by simp at h) (.inl (List.ne_nil_of_mem hpe))
 have e:cenB fs part=n:=by
  show (List.foldl (cenStep fs part) (-1,0) (elems part)).1.toNat=n
  rw[h1];exact Int.toNat_natCast n
 rw[e]
 refine⟨?_,h1,fun m hm=>h4 m (mem_elems.2 ⟨bit_lt hm,hm⟩)⟩
 rcases h2 with h2|h2
 ·exact (mem_elems.1 h2).2
 ·simp only at h2;omega
end

section
variable {fs:List BS}{T:Tr}{part:BS}

theorem outTo_bit (i:Nat):∀(s:List Nat) (r:BS),(s.foldl (fun r n=>r ||| sg fs n) r).getLsbD i=true↔r.getLsbD i=true∨∃n∈s,(sg fs n).getLsbD i=true
 | [],r=>by simp
 | n::s,r=>by
  rw[List.foldl_cons,outTo_bit i s,bit_or]
  constructor
  ·rintro ((h|h)|⟨m,hm,h⟩)
   ·exact .inl h
   ·exact .inr ⟨n,by simp,h⟩
   ·exact .inr ⟨m,by simp[hm],h⟩
  ·rintro (h|⟨m,hm,h⟩)
   ·exact .inl (.inl h)
   ·rcases List.mem_cons.1 hm with rfl|hm
    ·exact .inl (.inr h)
    ·exact .inr ⟨m,hm,h⟩
theorem out_bit (F:Fo fs T)(hin:∀i,part.getLsbD i=true→i<T.n)(i:Nat):(outM fs part).getLsbD i=true↔i<T.n∧¬part.getLsbD i=true∧∃j,part.getLsbD j=true∧T.adj j i:=by
 rw[outM,bit_diff,outTo,outTo_bit]
 constructor
 ·rintro⟨h|⟨j,hj,h⟩,h2⟩
  ·exact absurd h (bit_zero i)
  ·have hj':=(mem_elems.1 hj).2
   have:=(F.adj (hin j hj')).1 h
   exact⟨this.1,h2,j,hj',this.2⟩
 ·rintro⟨h1,h2,j,hj,h⟩
  exact⟨.inr ⟨j,mem_elems.2 ⟨bit_lt hj,hj⟩,(F.adj (hin j hj)).2 ⟨h1,h⟩⟩,h2⟩
theorem end_ok (F:Fo fs T)(hin:∀i,part.getLsbD i=true→i<T.n)(hC:T.conn (bits part)){b:Nat}(hb:(outM fs part).getLsbD b=true) :
  part.getLsbD (endB fs part b)=true∧T.adj (endB fs part b) b∧∀j,part.getLsbD j=true→T.adj j b→j=endB fs part b:=by
 obtain⟨hbn,hbp,j,hj,hjb⟩:=(out_bit F hin b).1 hb
 have hbit:(sg fs b &&& part).getLsbD j=true:=(bit_and _ _ j).2 ⟨(F.adj hbn).2 ⟨hin j hj,hjb.symm⟩,hj⟩
 obtain⟨k,hk,_⟩:=minOf_is hbit
 have hk2:=(bit_and _ _ k).1 (minOf_mem hk)
 have e:endB fs part b=k:=by rw[endB,hk];rfl
 rw[e]
 have hkb:T.adj k b:=((F.adj hbn).1 hk2.1).2.symm
 exact⟨hk2.2,hkb,fun x hx hxb=>hC.nb hbn hbp (hin x hx) (hin k hk2.2) hx hk2.2 hxb hkb⟩
theorem card_two {S:BS}(h:¬card S<2):∃a b l,elems S=a::b::l∧a≠b∧S.getLsbD a=true∧S.getLsbD b=true:=by
 rw[← card_elems] at h
 have hn:(elems S).Nodup:=List.Nodup.sublist List.filter_sublist List.nodup_range
 match hl:elems S with
 | []=>rw[hl] at h;simp at h
 | [a]=>rw[hl] at h;simp at h
 | a::b::l=>
  rw[hl] at hn
  exact⟨a,b,l,rfl,fun e=>by subst e;simp at hn,(mem_elems.1 (by rw[hl];simp)).2,(mem_elems.1 (by rw[hl];simp)).2⟩
structure Spl (fs:List BS)(T:Tr)(part:BS)(s:Nat):Prop where
 mem:part.getLsbD s=true
 one:card (outM fs part)<2→s=cenB fs part
 two:∀{a b l},elems (outM fs part)=a::b::l→T.P s (endB fs part a) (endB fs part b)∧T.P s (endB fs part a) (cenB fs part)∧T.P s (endB fs part b) (cenB fs part)
theorem card_sub_one {S:BS}{a b:Nat}(h:card S=1)(ha:S.getLsbD a=true)(hb:S.getLsbD b=true):a=b:=by
 rw[← card_elems] at h
 match hl:elems S with
 | []=>rw[hl] at h;simp at h
 | [x]=>
  have h1:=mem_elems.2 ⟨bit_lt ha,ha⟩
  have h2:=mem_elems.2 ⟨bit_lt hb,hb⟩
  rw[hl] at h1 h2
  simp at h1 h2
  omega
 | x::y::l=>rw[hl] at h;simp at h
theorem near_card (F:Fo fs T)(hin:∀i,part.getLsbD i=true→i<T.n)(hC:T.conn (bits part)){x y c m n:Nat}(hx:part.getLsbD x=true)(hy:part.getLsbD y=true)(hc:part.getLsbD c=true)
  (h1:T.P m x y) (h2:T.P m x c) (h3:T.P m y c) (hn:part.getLsbD n=true):splP fs part (pathB fs part x y) c n=true↔n=m:=by
 have hxn:=hin x hx
 have hyn:=hin y hy
 have hcn:=hin c hc
 have pb:=fun i=>(path_some F hin hC hx hy).2 i
 rw[splP,Bool.and_eq_true,decide_eq_true_eq,pb]
 constructor
 ·rintro⟨h4,h5⟩
  have hmn:T.P m n c:=Tr.near hxn hyn hcn h1 h2 h3 h4
  exact card_sub_one h5 ((bit_and _ _ n).2 ⟨((path_some F hin hC hc hn).2 n).2 Tr.P.right,(pb n).2 h4⟩) ((bit_and _ _ m).2 ⟨((path_some F hin hC hc hn).2 m).2 hmn.symm,(pb m).2 h1⟩)
 ·rintro rfl
  refine⟨h1,card_one (p:=n) fun i=>?_⟩
  rw[bit_and,(path_some F hin hC hc hn).2 i,pb]
  constructor
  ·rintro⟨h4,h5⟩
   have:=Tr.near hxn hyn hcn h1 h2 h3 h5
   exact (Tr.P.meet hcn (hin n hn) h4 this.symm Tr.P.right).symm
  ·rintro rfl
   exact⟨Tr.P.right,h1⟩
theorem spl_ok (F:Fo fs T)(hin:∀i,part.getLsbD i=true→i<T.n)(hC:T.conn (bits part)){p:Nat}(hp:part.getLsbD p=true):Spl fs T part (splB fs part (outM fs part)):=by
 obtain⟨hc,_,_⟩:=cen_ok (fs:=fs) hp
 by_cases hcard:card (outM fs part)<2
 ·have e:splB fs part (outM fs part)=cenB fs part:=by rw[splB,if_pos hcard]
  rw[e]
  refine⟨hc,fun _=>rfl,fun {a b l} h=>?_⟩
  have:=card_elems (outM fs part)
  rw[h] at this
  simp at this
  omega
 ·obtain⟨a,b,l,he,hab,ha,hb⟩:=card_two hcard
  obtain⟨a1,a2,a3⟩:=end_ok F hin hC ha
  obtain⟨b1,b2,b3⟩:=end_ok F hin hC hb
  obtain⟨m,m1,m2,m3⟩:=Tr.median (hin _ a1) (hin _ b1) (hin _ hc)
  have hm:part.getLsbD m=true:=Tr.P.mem hC (hin _ a1) (hin _ b1) a1 b1 m1
  have hf:(elems (pathB fs part (cenB fs part) (endB fs part a))).find? (splP fs part (pathB fs part (endB fs part a) (endB fs part b)) (cenB fs part))=some m:=by
   have hpm:(pathB fs part (cenB fs part) (endB fs part a)).getLsbD m=true:=((path_some F hin hC hc a1).2 m).2 m2.symm
   refine find_one (mem_elems.2 ⟨bit_lt hpm,hpm⟩) ((near_card F hin hC a1 b1 hc m1 m2 m3 hm).2 rfl) fun n hn hpn=>?_
   have hn':=path_in F hin hC hc a1 (mem_elems.1 hn).2
   exact (near_card F hin hC a1 b1 hc m1 m2 m3 hn').1 hpn
  have e:splB fs part (outM fs part)=m:=by
   rw[splB,if_neg hcard,he]
   simp only[List.map_cons,hf,Option.getD_some]
  rw[e]
  refine⟨hm,fun h=>absurd h hcard,fun {a' b' l'} h=>?_⟩
  rw[he] at h
  cases h
  exact⟨m1,m2,m3⟩

structure Sub (fs:List BS)(T:Tr)(part:BS)(s:Nat)(C:BS):Prop where
 ne:∃k,C.getLsbD k=true
 sub:∀i,C.getLsbD i=true→part.getLsbD i=true∧i≠s
 conn:T.conn (bits C)
 clo:∀i j,C.getLsbD i=true→part.getLsbD j=true→j≠s→T.adj i j→C.getLsbD j=true
theorem parts_sub (F:Fo fs T)(hin:∀i,part.getLsbD i=true→i<T.n){s:Nat}(hs:s<T.n){C:BS}(h:C∈partsB fs (del part (s:Int))):Sub fs T part s C:=by
 have hle:=F.le
 have hdel:∀i,(del part (s:Int)).getLsbD i=true↔part.getLsbD i=true∧i≠s:=fun i=>bit_del part (by omega)
 obtain⟨k,hk,rfl⟩:=(parts_some F (del_in (part:=part) hin (s:Int))).2.2.1 C h
 have hb:=(comp_some F (del_in hin _) hk).2
 refine⟨⟨k,comp_self F (del_in hin _) hk⟩,fun i hi=>(hdel i).1 (comp_sub F (del_in hin _) hk i hi),?_,fun i j hi hj hjs hij=>?_⟩
 ·have:=Tr.conn_comp (T:=T) (A:=bits (del part (s:Int))) (x:=k)
  have e:(fun y=>T.cn (bits (del part (s:Int))) k y)=bits (compB fs (del part (s:Int)) k):=by
   funext y
   exact propext (hb y).symm
  rwa [e] at this
 ·have h1:=(hb i).1 hi
  exact (hb j).2 (h1.trans (Tr.cn.of_adj h1.2.1 (hin j hj) h1.2.2.2.1 ((hdel j).2 ⟨hj,hjs⟩) hij))
theorem sub_out (F:Fo fs T)(hin:∀i,part.getLsbD i=true→i<T.n){s:Nat}{C:BS}(h:Sub fs T part s C){i:Nat}(hi:(outM fs C).getLsbD i=true):i=s∨(outM fs part).getLsbD i=true:=by
 obtain⟨h1,h2,j,hj,hji⟩:=(out_bit F (fun i hi=>hin i (h.sub i hi).1) i).1 hi
 by_cases his:i=s
 ·exact .inl his
 ·refine .inr ((out_bit F hin i).2 ⟨h1,fun hp=>h2 (h.clo j i hj hp his hji),j,(h.sub j hj).1,hji⟩)
theorem sub_end (F:Fo fs T)(hin:∀i,part.getLsbD i=true→i<T.n)(hC:T.conn (bits part)){s:Nat}{C:BS}(h:Sub fs T part s C){b:Nat}(hb:(outM fs part).getLsbD b=true)(hb':(outM fs C).getLsbD b=true):C.getLsbD (endB fs part b)=true:=by
 obtain⟨h1,h2,j,hj,hji⟩:=(out_bit F (fun i hi=>hin i (h.sub i hi).1) b).1 hb'
 rw[← (end_ok F hin hC hb).2.2 j (h.sub j hj).1 hji];exact hj
theorem card_union_le {S A:BS}{s:Nat}(hs:s<1024)(h:∀i,S.getLsbD i=true→i=s∨A.getLsbD i=true):card S≤card A+1:=by
 by_cases hA:A.getLsbD s=true
 ·have:card S≤card A:=card_mono fun i hi=>by
   rcases h i hi with rfl|h
   ·exact hA
   ·exact h
  omega
 ·have hone:∀i,(ins 0 (s:Int)).getLsbD i=true↔i=s:=fun i=>by
   rw[bit_ins 0 hs];exact⟨fun h=>h.resolve_left (bit_zero i),.inr⟩
  have h1:=card_add (S:=A) (T:=ins 0 (s:Int)) (U:=A ||| ins 0 (s:Int)) (bit_or _ _) (by
   rintro i ⟨h1,h2⟩
   rw[(hone i).1 h2] at h1
   exact hA h1)
  rw[card_one hone] at h1
  rw[← h1]
  exact card_mono fun i hi=>(bit_or _ _ i).2 ((h i hi).elim (fun h=>.inr ((hone i).2 h)) .inl)
theorem sub_two (F:Fo fs T)(hin:∀i,part.getLsbD i=true→i<T.n)(hC:T.conn (bits part))(h2:card (outM fs part)≤2){s:Nat}(S:Spl fs T part s){C:BS}(h:Sub fs T part s C):card (outM fs C)≤2:=by
 have hle:=F.le
 have hs1:s<1024:=by have:=hin s S.mem;omega
 have hsub:=fun i=>sub_out F hin h (i:=i)
 by_cases hc:card (outM fs part)<2
 ·have:=card_union_le hs1 fun i hi=>hsub i hi
  omega
 ·obtain⟨a,b,l,he,hab,ha,hb⟩:=card_two hc
  have hl:l=[]:=by
   have:=card_elems (outM fs part)
   rw[he] at this
   simp at this
   exact List.eq_nil_of_length_eq_zero (by omega)
  have hall:∀i,(outM fs part).getLsbD i=true→i=a∨i=b:=fun i hi=>by
   have:=mem_elems.2 ⟨bit_lt hi,hi⟩
   rw[he,hl] at this
   simpa using this
  have hnot:¬((outM fs C).getLsbD a=true∧(outM fs C).getLsbD b=true):=by
   rintro⟨h1,h2⟩
   have c1:=sub_end F hin hC h ha h1
   have c2:=sub_end F hin hC h hb h2
   have:=h.conn _ _ (hin _ (h.sub _ c1).1) (hin _ (h.sub _ c2).1) c1 c2
   refine (S.two he).1 (this.mono fun i hi hh=>⟨hi,(h.sub i hh).2⟩)
  have hone:∀x,(outM fs part).getLsbD x=true→∀i,(ins 0 (x:Int)).getLsbD i=true↔i=x:=fun x hx i=>by
   rw[bit_ins 0 (bit_lt hx)];exact⟨fun h=>h.resolve_left (bit_zero i),.inr⟩
  by_cases hCa:(outM fs C).getLsbD a=true
  ·have:=card_union_le (S:=outM fs C) (A:=ins 0 (a:Int)) hs1 fun i hi=>by
    rcases hsub i hi with h|h
    ·exact .inl h
    ·rcases hall i h with rfl|rfl
     ·exact .inr ((hone i ha i).2 rfl)
     ·exact absurd ⟨hCa,hi⟩ hnot
   rw[card_one (hone a ha)] at this
   omega
  ·have:=card_union_le (S:=outM fs C) (A:=ins 0 (b:Int)) hs1 fun i hi=>by
    rcases hsub i hi with h|h
    ·exact .inl h
    ·rcases hall i h with rfl|rfl
     ·exact absurd hi hCa
     ·exact .inr ((hone i hb i).2 rfl)
   rw[card_one (hone b hb)] at this
   omega
end
def bl:Nat→Nat→Nat
 | 0,_=>0
 | f+1,n=>if n=0 then 0 else bl f (n / 2)+1
def splitter (fs:List BS)(part:BS):Nat:=splB fs part (outM fs part)
def subs (fs:List BS)(part:BS):List BS:=partsB fs (del part (splitter fs part:Int))
section
variable {fs:List BS}{T:Tr}
structure Pt (fs:List BS)(T:Tr)(part:BS):Prop where
 inn:∀i,part.getLsbD i=true→i<T.n
 conn:T.conn (bits part)
 ne:∃k,part.getLsbD k=true
 two:card (outM fs part)≤2
theorem Pt.spl {part:BS}(F:Fo fs T)(h:Pt fs T part):Spl fs T part (splitter fs part):=by
 obtain⟨k,hk⟩:=h.ne
 exact spl_ok F h.inn h.conn hk
theorem Pt.sub {part:BS}(F:Fo fs T)(h:Pt fs T part){C:BS}(hC:C∈subs fs part):Sub fs T part (splitter fs part) C:=parts_sub F h.inn (h.inn _ (h.spl F).mem) hC
theorem Pt.step {part:BS}(F:Fo fs T)(h:Pt fs T part){C:BS}(hC:C∈subs fs part):Pt fs T C∧card C<card part:=by
 have S:=h.sub F hC
 exact⟨⟨fun i hi=>h.inn i (S.sub i hi).1,S.conn,S.ne,sub_two F h.inn h.conn h.two (h.spl F) S⟩,card_lt (fun i hi=>(S.sub i hi).1) (h.spl F).mem fun hh=>(S.sub _ hh).2 rfl⟩
structure BNd (fs:List BS)(T:Tr)(L:List (Int×BS))(i:Nat)(up:Int)(P:BS):Prop where
 at':L[i]?=some (up,P)
 pt:Pt fs T P
 kid:∀C∈subs fs P,∃k,i<k∧L[k]?=some ((i:Int),C)
theorem BNd.app {i:Nat}{L M:List (Int×BS)}{up:Int}{P:BS}(h:BNd fs T L i up P):BNd fs T (L++M) i up P:=by
 have k1:∀{k:Nat} {x:Int×BS},L[k]?=some x→(L++M)[k]?=some x:=fun {k x} h=>by
  rw[List.getElem?_append_left (List.getElem?_eq_some_iff.1 h).1];exact h
 exact⟨k1 h.at',h.pt,fun C hC=>by obtain⟨k,h1,h2⟩:=h.kid C hC;exact⟨k,h1,k1 h2⟩⟩
def Ab (fs:List BS)(L:List (Int×BS))(i:Nat)(up:Int)(P:BS):Prop:=∃p u Q,up=((p:Nat):Int)∧p<i∧L[p]?=some (u,Q)∧P∈subs fs Q
theorem Ab.app {i:Nat}{L M:List (Int×BS)}{up:Int}{P:BS}(h:Ab fs L i up P):Ab fs (L++M) i up P:=by
 obtain⟨p,u,Q,h1,h2,h3,h4⟩:=h
 exact⟨p,u,Q,h1,h2,by rw[List.getElem?_append_left (List.getElem?_eq_some_iff.1 h3).1];exact h3,h4⟩
end
section
variable {fs:List BS}{T:Tr}
end
end Go.Mono
namespace Go.Mono
open Go Go.Proofs Go.RowKit

def belowB (n:Nat):BS:=BitVec.ofNat 1024 (2 ^ n - 1)
theorem below_bit (n i:Nat)(hi:i<1024):(belowB n).getLsbD i=decide (i<n):=by
 rw[belowB,BitVec.getLsbD_ofNat,Nat.testBit_two_pow_sub_one]
 simp[hi]

theorem adjL_len (t:List (Int×BS)):(adjL t).length=t.length:=by simp[adjL]

theorem below_bit' (n i:Nat)(hn:n≤1024):(belowB n).getLsbD i=true↔i<n:=by
 by_cases hi:i<1024
 ·rw[below_bit _ _ hi,decide_eq_true_eq]
 ·constructor
  ·intro h;exact absurd (bit_lt h) hi
  ·intro h;omega
theorem Pt.all {t:List (Int×BS)}{T:Tr}(F:Fo (adjL t) T)(h0:0<t.length):Pt (adjL t) T (belowB t.length)∧card (belowB t.length)≤t.length:=by
 have hn:T.n=t.length:=by rw[← F.len,adjL_len]
 have hle:=F.le
 have hb:∀i,(belowB t.length).getLsbD i=true↔i<T.n:=fun i=>by rw[below_bit' _ _ (by omega),hn]
 have hbits:bits (belowB t.length)=fun i=>i<T.n:=by funext i;exact propext (hb i)
 refine⟨⟨fun i hi=>(hb i).1 hi,by rw[hbits];exact Tr.conn_all,⟨0,(hb 0).2 (by omega)⟩,?_⟩,card_le_n fun i hi=>by rw[← hn];exact (hb i).1 hi⟩
 have:outM (adjL t) (belowB t.length)=0:=set_ext' fun k=>by
  rw[out_bit F (fun i hi=>(hb i).1 hi)]
  constructor
  ·rintro⟨h1,h2,_⟩;exact absurd ((hb k).2 h1) h2
  ·intro h;exact absurd h (bit_zero k)
 rw[this,card_zero];omega

end Go.Mono
namespace Go.Mono

inductive Und (o:List (Int×BS)):Nat→Nat→Prop
 | refl (k:Nat):Und o k k
 | step {k p i:Nat} (h:(bg o k).1=(p:Int)) (hu:Und o p i):Und o k i
theorem Und.trans {o:List (Int×BS)}{k j i:Nat}(h:Und o k j)(h':Und o j i):Und o k i:=by
 induction h with
 | refl=>exact h'
 | step h _ ih=>exact .step h (ih h')
section
variable {t:List (Int×BS)}{T:Tr}
end

theorem elems_pair (S:BS):(elems S).Pairwise (· < ·):=List.Pairwise.filter _ (List.pairwise_lt_range (n:=1024))
theorem card_eq_sub {C S:BS}(h:∀i,C.getLsbD i=true→S.getLsbD i=true)(he:card C=card S):C=S:=by
 refine set_ext' fun k=>⟨h k,fun hk=>?_⟩
 apply Classical.byContradiction
 intro hn
 have:=card_lt h hk hn
 omega
section
variable {t:List (Int×BS)}{S:BS}
end
end Go.Mono
namespace Go.Mono
open Go Go.Proofs Go.RowKit Go.Gr

theorem sorted_eq:∀(l m:List Int),l.Pairwise (· < ·)→m.Pairwise (· < ·)→(∀x,x∈l↔x∈m)→l=m
 | [],[],_,_,_=>rfl
 | [],b::m,_,_,h=>absurd ((h b).2 (List.mem_cons_self ..)) (by simp)
 | a::l,[],_,_,h=>absurd ((h a).1 (List.mem_cons_self ..)) (by simp)
 | a::l,b::m,hl,hm,h=>by
  obtain⟨l1,l2⟩:=List.pairwise_cons.1 hl
  obtain⟨m1,m2⟩:=List.pairwise_cons.1 hm
  have hab:a=b:=by
   rcases List.mem_cons.1 ((h a).1 (List.mem_cons_self ..)) with h1|h1
   ·exact h1
   rcases List.mem_cons.1 ((h b).2 (List.mem_cons_self ..)) with h2|h2
   ·exact h2.symm
   have:=m1 _ h1;have:=l1 _ h2;omega
  subst hab
  rw[sorted_eq l m l2 m2 fun x=>?_]
  constructor
  ·intro hx
   rcases List.mem_cons.1 ((h x).1 (List.mem_cons_of_mem _ hx)) with h1|h1
   ·have:=l1 _ hx;omega
   ·exact h1
  ·intro hx
   rcases List.mem_cons.1 ((h x).2 (List.mem_cons_of_mem _ hx)) with h1|h1
   ·have:=m1 _ hx;omega
   ·exact h1
section
variable {g:GT}{th:List Int}
theorem mem_ids (G:Gr.Ok g){x:Int}:x∈idsG g↔∃u:Nat,x=(u:Int)∧(vset g.1).getLsbD u=true:=by
 constructor
 ·intro h
  obtain⟨y,hy,rfl⟩:=List.mem_map.1 h
  have h3:=idOk_r (G.rv y hy).1
  exact⟨y.1.toNat,by omega,(mem_vset G).2 ⟨y,hy,by omega⟩⟩
 ·rintro⟨u,rfl,hu⟩
  obtain⟨y,hy,h⟩:=(mem_vset G).1 hu
  exact List.mem_map.2 ⟨y,hy,h⟩
theorem ids_sorted (G:Gr.Ok g):(idsG g).Pairwise (· < ·):=List.pairwise_map.2 (G.sv.imp fun h=>by simpa[lt1] using h)
theorem natE_sorted (S:BS):(natE (elems S)).Pairwise (· < ·):=List.pairwise_map.2 ((elems_pair S).imp fun h=>by omega)
end
def twG (g:GT):Int:=rsR (nbA g) (vset g.1) 0
section
variable {nb nb':Int→BS}{C S S':BS}
theorem reB_sub (h:∀i j:Nat,(nb' (i:Int)).getLsbD j=true→(nb (i:Int)).getLsbD j=true∧C.getLsbD j=true)(hS:∀u,S'.getLsbD u=true↔S.getLsbD u=true∧C.getLsbD u=true){v:Nat}(hv:v<1024) :
  rn nb' S' v≤rn nb S v:=by
 have hm:card (reB nb' S' (v:Int))≤card (reB nb S (v:Int)):=card_mono fun u hu=>by
  obtain⟨k1,k2,k3⟩:=(reB_bit hv).1 hu
  have hC:C.getLsbD u=true:=by
   cases k1 with
   | one h1=>exact (h _ _ h1).2
   | step _ _ h1=>exact (h _ _ h1).2
  have k1':Via nb S v u:=by
   clear hu k2 k3 hC
   induction k1 with
   | one h1=>exact .one (h _ _ h1).1
   | step _ ht h1 ih=>exact .step ih ((hS _).1 ht).1 (h _ _ h1).1
  exact (reB_bit hv).2 ⟨k1',fun hh=>k2 ((hS u).2 ⟨hh,hC⟩),k3⟩
 rw[rn,rn];omega
theorem ins_meet {v:Nat}(hv:v<1024)(hS:∀u,S'.getLsbD u=true↔S.getLsbD u=true∧C.getLsbD u=true)(hC:C.getLsbD v=true):∀u,(ins S' (v:Int)).getLsbD u=true↔(ins S (v:Int)).getLsbD u=true∧C.getLsbD u=true:=fun u=>by
 rw[bit_ins _ hv,bit_ins _ hv,hS]
 constructor
 ·rintro (⟨h1,h2⟩|rfl)
  ·exact⟨.inl h1,h2⟩
  ·exact⟨.inr rfl,hC⟩
 ·rintro⟨h1|h1,h2⟩
  ·exact .inl ⟨h1,h2⟩
  ·exact .inr h1
theorem ins_miss {v:Nat}(hv:v<1024)(hS:∀u,S'.getLsbD u=true↔S.getLsbD u=true∧C.getLsbD u=true)(hC:¬C.getLsbD v=true):∀u,S'.getLsbD u=true↔(ins S (v:Int)).getLsbD u=true∧C.getLsbD u=true:=fun u=>by
 rw[hS,bit_ins _ hv]
 constructor
 ·rintro⟨h1,h2⟩;exact⟨.inl h1,h2⟩
 ·rintro⟨h1|rfl,h2⟩
  ·exact⟨h1,h2⟩
  ·exact absurd h2 hC
theorem widL_sub (h:∀i j:Nat,(nb' (i:Int)).getLsbD j=true→(nb (i:Int)).getLsbD j=true∧C.getLsbD j=true):∀(l:List Nat) (S S':BS),(∀v∈l,v<1024)→(∀u,S'.getLsbD u=true↔S.getLsbD u=true∧C.getLsbD u=true) →
  widL nb' S' (l.filter fun v=>C.getLsbD v)≤widL nb S l
 | [],S,S',_,_=>Int.le_refl _
 | v::l,S,S',hl,hS=>by
  have hv:=hl v (List.mem_cons_self ..)
  have hl':=fun x hx=>hl x (List.mem_cons_of_mem v hx)
  by_cases hC:C.getLsbD v=true
  ·have h1:=widL_sub h l (ins S (v:Int)) (ins S' (v:Int)) hl' (ins_meet hv hS hC)
   have h2:=reB_sub h hS hv
   rw[List.filter_cons,if_pos hC,widL,widL];omega
  ·have h1:=widL_sub h l (ins S (v:Int)) S' hl' (ins_miss hv hS hC)
   rw[List.filter_cons,if_neg hC,widL];omega
end
section
variable {g h:GT}
theorem tw_sub (G:Gr.Ok g)(H:Gr.Ok h)(hl:g.1.length≤12)(hl':h.1.length≤12)(hV:∀i,(vset h.1).getLsbD i=true→(vset g.1).getLsbD i=true)(hE:∀i j:Nat,Adj h i j→Adj g i j):twG h≤twG g:=by
 obtain⟨o1,o2,o3⟩:=widO_ok G hl
 have h1:=widL_sub (nb:=nbA g) (nb':=nbA h) (C:=vset h.1) (fun i j hij=>⟨(nbA_bit G).2 (hE i j ((nbA_bit H).1 hij)),(((nbA_bit H).1 hij).inn H).2.1⟩) (widO g) 0 0 (fun v hv=>bit_lt ((o2 v).1 hv)) fun u=>⟨fun h=>absurd h (bit_zero u),fun h=>absurd h.1 (bit_zero u)⟩
 have h2:=rsR_low (nb:=nbA h) (all:=vset h.1) ((widO g).filter fun v=>(vset h.1).getLsbD v) 0 (o1.filter _) fun i=>by
  rw[diff_zero,List.mem_filter,o2]
  exact⟨fun h=>h.2,fun h=>⟨hV i h,h⟩⟩
 rw[twG,twG,← o3];omega
structure Part (g:GT)(C:BS)(h:GT):Prop where
 ok:Gr.Ok h
 vs:∀i,(vset h.1).getLsbD i=true↔(vset g.1).getLsbD i=true∧C.getLsbD i=true
 es:∀i j:Nat,Adj h i j↔Adj g i j∧C.getLsbD i=true∧C.getLsbD j=true
 len:h.1.length≤g.1.length
theorem Part.le {C:BS}(P:Part g C h)(G:Gr.Ok g)(hl:g.1.length≤12):twG h≤twG g:=
 tw_sub G P.ok hl (Nat.le_trans P.len hl) (fun i hi=>((P.vs i).1 hi).1) fun i j hij=>((P.es i j).1 hij).1
end

section
variable {g h:GT}
theorem ids_elems (G:Gr.Ok g):natE (elems (vset g.1))=idsG g:=sorted_eq _ _ (natE_sorted _) (ids_sorted G) fun x=>by
 rw[mem_ids G,natE,List.mem_map]
 exact⟨fun⟨u,h1,h2⟩=>⟨u,h2.symm,(mem_elems.1 h1).2⟩,fun⟨u,h1,h2⟩=>⟨u,mem_elems.2 ⟨bit_lt h2,h2⟩,h1.symm⟩⟩
theorem card_vs (G:Gr.Ok g):card (vset g.1)=g.1.length:=by
 have h:=congrArg List.length (ids_elems G)
 rw[natE,List.length_map,card_elems,idsG,List.length_map] at h
 exact h
theorem nb_in (G:Gr.Ok g):∀i j:Nat,(nbA g (i:Int)).getLsbD j=true→(vset g.1).getLsbD j=true:=fun i j h=>(((nbA_bit G).1 h).inn G).2.1
end
def indG (g:GT)(C:BS):GT:=(g.1.filter fun x=>has C x.1,g.2.filter fun x=>has C x.1.1&&has C x.1.2)
theorem indG_ok {g:GT}(G:Gr.Ok g)(C:BS):Gr.Ok (indG g C):=by
 refine⟨G.sv.filter _,G.se.filter _,fun x hx=>G.rv x (List.mem_filter.1 hx).1,fun x hx=>?_,Nat.le_trans (List.length_filter_le _ _) G.ne⟩
 obtain⟨h1,h2⟩:=List.mem_filter.1 hx
 rw[Bool.and_eq_true] at h2
 obtain⟨q1,q2,q3,q4⟩:=G.re x h1
 have key:∀n,inV g.1 n=true→has C n=true→inV (indG g C).1 n=true:=fun n hn hC=>by
  rw[inV,List.any_eq_true] at hn ⊢
  obtain⟨y,hy,hyn⟩:=hn
  refine⟨y,List.mem_filter.2 ⟨hy,?_⟩,hyn⟩
  rw[of_decide_eq_true hyn];exact hC
 exact⟨q1,key _ q2 h2.1,key _ q3 h2.2,q4⟩
theorem indG_part {g:GT}(G:Gr.Ok g)(C:BS):Part g C (indG g C):=by
 refine⟨indG_ok G C,fun i=>?_,fun i j=>?_,List.length_filter_le _ _⟩
 ·rw[mem_vset (indG_ok G C),mem_vset G]
  constructor
  ·rintro⟨x,hx,he⟩
   obtain⟨h1,h2⟩:=List.mem_filter.1 hx
   rw[he] at h2
   exact⟨⟨x,h1,he⟩,(has_bit C i).1 h2⟩
  ·rintro⟨⟨x,hx,he⟩,hC⟩
   exact⟨x,List.mem_filter.2 ⟨hx,by rw[he];exact (has_bit C i).2 hC⟩,he⟩
 ·constructor
  ·rintro⟨x,hx,he⟩
   obtain⟨h1,h2⟩:=List.mem_filter.1 hx
   rw[Bool.and_eq_true] at h2
   refine⟨⟨x,h1,he⟩,?_⟩
   rcases he with he|he <;> rw[he] at h2
   ·exact⟨(has_bit C i).1 h2.1,(has_bit C j).1 h2.2⟩
   ·exact⟨(has_bit C i).1 h2.2,(has_bit C j).1 h2.1⟩
  ·rintro⟨⟨x,hx,he⟩,hi,hj⟩
   refine⟨x,List.mem_filter.2 ⟨hx,?_⟩,he⟩
   rw[Bool.and_eq_true]
   rcases he with he|he <;> rw[he]
   ·exact⟨(has_bit C i).2 hi,(has_bit C j).2 hj⟩
   ·exact⟨(has_bit C j).2 hj,(has_bit C i).2 hi⟩
def nxN (nb:Int→BS)(at':BS):BS:=(elems at').foldl (fun (s:BS) (i:Nat)=>s ||| nb (i:Int)) 0
theorem nxTo_bit (nb:Int→BS){j:Nat}:∀(l:List Nat) (s:BS),(l.foldl (fun (s:BS) (i:Nat)=>s ||| nb (i:Int)) s).getLsbD j=true↔s.getLsbD j=true∨∃i∈l,(nb (i:Int)).getLsbD j=true
 | [],s=>by simp
 | i::l,s=>by
  rw[List.foldl_cons,nxTo_bit nb l,bit_or]
  constructor
  ·rintro ((h|h)|⟨k,hk,h⟩)
   ·exact .inl h
   ·exact .inr ⟨i,List.mem_cons_self ..,h⟩
   ·exact .inr ⟨k,List.mem_cons_of_mem _ hk,h⟩
  ·rintro (h|⟨k,hk,h⟩)
   ·exact .inl (.inl h)
   ·rcases List.mem_cons.1 hk with rfl|hk
    ·exact .inl (.inr h)
    ·exact .inr ⟨k,hk,h⟩
theorem nxN_bit {nb:Int→BS}{at':BS}{j:Nat}:(nxN nb at').getLsbD j=true↔∃i,at'.getLsbD i=true∧(nb (i:Int)).getLsbD j=true:=by
 rw[nxN,nxTo_bit]
 constructor
 ·rintro (h|⟨i,hi,h⟩)
  ·exact absurd h (bit_zero j)
  ·exact⟨i,(mem_elems.1 hi).2,h⟩
 ·rintro⟨i,hi,h⟩;exact .inr ⟨i,mem_elems.2 ⟨bit_lt hi,hi⟩,h⟩
def lvF (nb:Int→BS):Nat→BS→BS→List BS
 | 0,_,_=>[]
 | f+1,at',seen=>if at'=0 then [] else at'::lvF nb f (nxN nb at' &&& ~~~seen) (seen ||| (nxN nb at' &&& ~~~seen))
def unL (l:List BS):BS:=l.foldl (fun s r=>s ||| r) 0
theorem unTo_bit {j:Nat}:∀(l:List BS) (s:BS),(l.foldl (fun s r=>s ||| r) s).getLsbD j=true↔s.getLsbD j=true∨∃r∈l,r.getLsbD j=true
 | [],s=>by simp
 | r::l,s=>by
  rw[List.foldl_cons,unTo_bit l,bit_or,or_assoc]
  constructor
  ·rintro (h|h|⟨k,hk,h⟩)
   ·exact .inl h
   ·exact .inr ⟨r,List.mem_cons_self ..,h⟩
   ·exact .inr ⟨k,List.mem_cons_of_mem _ hk,h⟩
  ·rintro (h|⟨k,hk,h⟩)
   ·exact .inl h
   ·rcases List.mem_cons.1 hk with rfl|hk
    ·exact .inr (.inl h)
    ·exact .inr (.inr ⟨k,hk,h⟩)
theorem unL_bit {l:List BS}{j:Nat}:(unL l).getLsbD j=true↔∃r∈l,r.getLsbD j=true:=by
 rw[unL,unTo_bit]
 exact⟨fun h=>h.resolve_left (bit_zero j),.inr⟩
theorem card_le_1024 (S:BS):card S≤1024:=by
 rw[← card_elems,elems]
 have:=List.length_filter_le (fun i=>S.getLsbD i) (List.range 1024)
 rwa [List.length_range] at this
theorem lv_ok {nb:Int→BS}:∀(f:Nat) (at' seen:BS),1024<f+card seen∨at'=0→(∀i,at'.getLsbD i=true→seen.getLsbD i=true)→(∀i j:Nat,seen.getLsbD i=true→¬at'.getLsbD i=true→(nb (i:Int)).getLsbD j=true→seen.getLsbD j=true) →
  (∀i j:Nat,(seen.getLsbD i=true∨(unL (lvF nb f at' seen)).getLsbD i=true)→(nb (i:Int)).getLsbD j=true→seen.getLsbD j=true∨(unL (lvF nb f at' seen)).getLsbD j=true) ∧
  ∀K:BS,(∀i,seen.getLsbD i=true→K.getLsbD i=true)→(∀i j:Nat,K.getLsbD i=true→(nb (i:Int)).getLsbD j=true→K.getLsbD j=true)→∀i,(unL (lvF nb f at' seen)).getLsbD i=true→K.getLsbD i=true:=by
 intro f
 induction f with
 | zero=>
  intro at' seen hf hin hcl
  have h0:at'=0:=by
   rcases hf with h|h
   ·have:=card_le_1024 seen;omega
   ·exact h
  have hno:∀i,¬(unL (lvF nb 0 at' seen)).getLsbD i=true:=fun i h=>by
   obtain⟨r,hr,_⟩:=unL_bit.1 h
   cases hr
  refine⟨fun i j hi hij=>?_,fun K _ _ i h=>absurd h (hno i)⟩
  rcases hi with hi|hi
  ·exact .inl (hcl i j hi (by rw[h0];exact bit_zero i) hij)
  ·exact absurd hi (hno i)
 | succ f ih=>
  intro at' seen hf hin hcl
  by_cases h0:at'=0
  ·have hl:lvF nb (f+1) at' seen=[]:=by rw[lvF,if_pos h0]
   rw[hl]
   have hno:∀i,¬(unL []).getLsbD i=true:=fun i h=>by
    obtain⟨r,hr,_⟩:=unL_bit.1 h
    cases hr
   refine⟨fun i j hi hij=>?_,fun K _ _ i h=>absurd h (hno i)⟩
   rcases hi with hi|hi
   ·exact .inl (hcl i j hi (by rw[h0];exact bit_zero i) hij)
   ·exact absurd hi (hno i)
  ·have hl:lvF nb (f+1) at' seen=at'::lvF nb f (nxN nb at' &&& ~~~seen) (seen ||| (nxN nb at' &&& ~~~seen)):=by rw[lvF,if_neg h0]
   rw[hl]
   obtain⟨a2,ha2⟩:∃a2,a2=nxN nb at' &&& ~~~seen:=⟨_,rfl⟩
   have hb:∀j,a2.getLsbD j=true↔(∃i,at'.getLsbD i=true∧(nb (i:Int)).getLsbD j=true)∧¬seen.getLsbD j=true:=fun j=>by rw[ha2,bit_diff,nxN_bit]
   rw[← ha2]
   have hU:∀i,(unL (at'::lvF nb f a2 (seen ||| a2))).getLsbD i=true↔at'.getLsbD i=true∨(unL (lvF nb f a2 (seen ||| a2))).getLsbD i=true:=fun i=>by
    rw[unL_bit,unL_bit]
    constructor
    ·rintro⟨r,hr,h⟩
     rcases List.mem_cons.1 hr with rfl|hr
     ·exact .inl h
     ·exact .inr ⟨r,hr,h⟩
    ·rintro (h|⟨r,hr,h⟩)
     ·exact⟨at',List.mem_cons_self ..,h⟩
     ·exact⟨r,List.mem_cons_of_mem _ hr,h⟩
   have hfu:1024<f+card (seen ||| a2)∨a2=0:=by
    by_cases h2:a2=0
    ·exact .inr h2
    ·left
     obtain⟨z,hz⟩:∃z,a2.getLsbD z=true:=Classical.byContradiction fun hn=>h2 (set_ext' fun k=>⟨fun h=>absurd ⟨k,h⟩ hn,fun h=>absurd h (bit_zero k)⟩)
     have:=card_lt (S:=seen) (T:=seen ||| a2) (z:=z) (fun i hi=>(bit_or _ _ _).2 (.inl hi)) ((bit_or _ _ _).2 (.inr hz)) ((hb z).1 hz).2
     rcases hf with h|h
     ·omega
     ·exact absurd h h0
   obtain⟨k1,k2⟩:=ih a2 (seen ||| a2) hfu (fun i hi=>(bit_or _ _ _).2 (.inr hi)) fun i j hi hni hij=>by
    rcases (bit_or _ _ _).1 hi with hi|hi
    ·by_cases hat:at'.getLsbD i=true
     ·by_cases hs:seen.getLsbD j=true
      ·exact (bit_or _ _ _).2 (.inl hs)
      ·exact (bit_or _ _ _).2 (.inr ((hb j).2 ⟨⟨i,hat,hij⟩,hs⟩))
     ·exact (bit_or _ _ _).2 (.inl (hcl i j hi hat hij))
    ·exact absurd hi hni
   have hsub:∀i,a2.getLsbD i=true→(unL (lvF nb f a2 (seen ||| a2))).getLsbD i=true:=fun i hi=>by
    have hne:a2≠0:=fun h=>by rw[h] at hi;exact bit_zero _ hi
    cases f with
    | zero=>
     rcases hfu with h|h
     ·have:=card_le_1024 (seen ||| a2);omega
     ·exact absurd h hne
    | succ f=>rw[lvF,if_neg hne,unL_bit];exact⟨a2,List.mem_cons_self ..,hi⟩
   constructor
   ·intro i j hi hij
    rw[hU] at hi ⊢
    have h3:(seen ||| a2).getLsbD i=true∨(unL (lvF nb f a2 (seen ||| a2))).getLsbD i=true:=by
     rcases hi with h|h|h
     ·exact .inl ((bit_or _ _ _).2 (.inl h))
     ·exact .inl ((bit_or _ _ _).2 (.inl (hin i h)))
     ·exact .inr h
    rcases k1 i j h3 hij with h|h
    ·rcases (bit_or _ _ _).1 h with h|h
     ·exact .inl h
     ·exact .inr (.inr (hsub j h))
    ·exact .inr (.inr h)
   ·intro K hK hKc i hi
    rcases (hU i).1 hi with h|h
    ·exact hK i (hin i h)
    ·refine k2 K (fun u hu=>?_) hKc i h
     rcases (bit_or _ _ _).1 hu with hu|hu
     ·exact hK u hu
     ·obtain⟨⟨x,hx,hxu⟩,_⟩:=(hb u).1 hu
      exact hKc x u (hK x (hin x hx)) hxu
def lvB (nb:Int→BS)(a:Nat):List BS:=lvF nb 1025 (ins 0 (a:Int)) (ins 0 (a:Int))
theorem lvB_ok {nb:Int→BS}{a:Nat}(ha:a<1024):(unL (lvB nb a)).getLsbD a=true∧(∀i j:Nat,(unL (lvB nb a)).getLsbD i=true→(nb (i:Int)).getLsbD j=true→(unL (lvB nb a)).getLsbD j=true) ∧
  ∀K:BS,K.getLsbD a=true→(∀i j:Nat,K.getLsbD i=true→(nb (i:Int)).getLsbD j=true→K.getLsbD j=true)→∀i,(unL (lvB nb a)).getLsbD i=true→K.getLsbD i=true:=by
 have h1:∀i,(ins 0 (a:Int)).getLsbD i=true↔i=a:=fun i=>by
  rw[bit_ins _ ha]
  exact⟨fun h=>h.resolve_left (bit_zero i),.inr⟩
 have hne:ins 0 (a:Int)≠0:=fun h=>by
  have:=(h1 a).2 rfl
  rw[h] at this;exact bit_zero _ this
 obtain⟨k1,k2⟩:=lv_ok (nb:=nb) 1025 (ins 0 (a:Int)) (ins 0 (a:Int)) (.inl (by omega)) (fun i h=>h) fun i j h h'=>absurd h h'
 have h2:(unL (lvB nb a)).getLsbD a=true:=by
  rw[lvB,lvF,if_neg hne,unL_bit];exact⟨_,List.mem_cons_self ..,(h1 a).2 rfl⟩
 refine⟨h2,fun i j hi hij=>?_,fun K hK hKc=>k2 K (fun i hi=>by rw[(h1 i).1 hi];exact hK) hKc⟩
 rcases k1 i j (.inr hi) hij with h|h
 ·rw[(h1 j).1 h];exact h2
 ·exact h
def oBL (o:Option Nat)(k:Nat→List BS):List BS:=match o with
 | none=>[]
 | some a=>k a
def prF (nb:Int→BS):Nat→BS→List BS
 | 0,_=>[]
 | f+1,left=>oBL (minOf left) fun a=>unL (lvB nb a)::prF nb f (left &&& ~~~unL (lvB nb a))
theorem prF_none {nb:Int→BS}{left:BS}(h:minOf left=none)(f:Nat):prF nb (f+1) left=[]:=by
 show oBL (minOf left) _=[]
 rw[h];rfl
theorem prF_some {nb:Int→BS}{left:BS}{a:Nat}(h:minOf left=some a)(f:Nat):prF nb (f+1) left=unL (lvB nb a)::prF nb f (left &&& ~~~unL (lvB nb a)):=by
 show oBL (minOf left) _=_
 rw[h];rfl

theorem lvF_zero (nb:Int→BS)(f:Nat)(seen:BS):lvF nb f 0 seen=[]:=by
 cases f with
 | zero=>rfl
 | succ f=>rw[lvF,if_pos rfl]
theorem lv_step {nb:Int→BS}{at' seen:BS}{r:Nat}(h0:at'≠0)(hf:1024<r+card seen∨at'=0) :
  ∃f,r=f+1∧lvF nb r at' seen=at'::lvF nb f (nxN nb at' &&& ~~~seen) (seen ||| (nxN nb at' &&& ~~~seen))∧(1024<f+card (seen ||| (nxN nb at' &&& ~~~seen))∨nxN nb at' &&& ~~~seen=0):=by
 have h1:=hf.resolve_right h0
 have h2:=card_le_1024 seen
 obtain⟨f,rfl⟩:∃f,r=f+1:=⟨r - 1,by omega⟩
 refine⟨f,rfl,by rw[lvF,if_neg h0],?_⟩
 generalize ha2:nxN nb at' &&& ~~~seen=a2
 by_cases h3:a2=0
 ·exact .inr h3
 ·left
  obtain⟨z,hz⟩:∃z,a2.getLsbD z=true:=Classical.byContradiction fun hn=>h3 (set_ext' fun k=>⟨fun h=>absurd ⟨k,h⟩ hn,fun h=>absurd h (bit_zero k)⟩)
  have:=card_lt (S:=seen) (T:=seen ||| a2) (z:=z) (fun i hi=>(bit_or _ _ _).2 (.inl hi)) ((bit_or _ _ _).2 (.inr hz)) (by
   rw[← ha2] at hz;exact ((bit_diff _ _ _).1 hz).2)
  omega
def nxP (nb:Int→BS)(s:List Nat):BS:=s.foldl (fun (s:BS) (i:Nat)=>s ||| nb (i:Int)) 0
theorem nxP_app (nb:Int→BS)(s:List Nat)(y:Nat):nxP nb (s++[y])=nxP nb s ||| nb (y:Int):=by rw[nxP,List.foldl_append];rfl
theorem Ds.gro {D:List Nat}{w w':World}{row:Option Nat}(h:Ds D w)(hg:w.grownBy w' row)(hb:∀d∈D,row≠some d):Ds D w':=⟨h.1,fun d hd=>(hg.block d (h.lt hd) (fun he=>hb d hd he.symm)).trans (h.2 d hd)⟩
structure LvK (W:World)(N0 N:Nat)(S0:BS)(mq:Value)(l:List (Int×BS))(b2 b5 b6:Nat)(u:Value)(out:List BS)(at' seen:BS)(D:List Nat)(w:World):Prop where
 e:Ext W w
 t:Tab w
 hv:(Dv (mpE sKV N0) (GB W G0) l).p mq w
 b2:Blk w b2 (adC S0 mq) 79
 b5:Blk w b5 (setC at') 76
 b6:Blk w b6 (setC seen) 76
 o:OwR setE 76 N G0 w out u
 ds:Ds D w
theorem LvK.kp {W:World}{N0 N:Nat}{S0:BS}{mq:Value}{l:List (Int×BS)}{b2 b5 b6:Nat}{u:Value}{out:List BS}{at' seen:BS}{D:List Nat}{B:Nat}{w w':World}(h:LvK W N0 N S0 mq l b2 b5 b6 u out at' seen D w)(k:Kp B w w')(hW:W.heap.size≤B)(h0:0<B)(l2:b2<B)(l5:b5<B)(l6:b6<B)(lu:∀g,u.ownBlock=some g→g<B)(hD:∀d∈D,d<B) :
  LvK W N0 N S0 mq l b2 b5 b6 u out at' seen D w':=
 have no:∀{b},b<B→¬Hole B b:=fun h hh=>by have:=hh.1;omega
 ⟨h.e.kp k hW,h.t.kp k h0,Dv.ch h.hv k.chg (fun b hb=>.inr (by have:=hb.1;omega)),h.b2.kp k (no l2),h.b5.kp k (no l5),h.b6.kp k (no l6),h.o.chE k.chg fun g hg=>no (lu g hg),h.ds.ch k.chg fun d hd=>no (hD d hd)⟩
theorem levels_spec {G:Nat→Prop}{N0:Nat}(l:List (Int×BS))(S0:BS)(mq:Value)(x:Nat)(W:World)(hT:Tab W)(h:(Dv (mpE sKV N0) G l).p mq W)(hx:x<1024) :
  Calls Tryz.prog 52 #[.agg (adC S0 mq),I (x:Nat)] W (Post (OwA setE 76 W.heap.size G0 (lvB (lkS l) x)) W):=by
 have HV:(Dv (mpE sKV N0) (GB W G0) l).p mq W:=Dv.toB (Dv.weak h fun b _ hb=>hb.elim)
 have hT0:=hT.lt
 refine enterM (args:=[.agg (adC S0 mq),I (x:Nat)]) (As:=[E (.agg (adC S0 mq)),E (I (x:Nat))]) Tryz.func52 rfl Tryz.ntmps52 (Nat.le_of_ble_eq_true rfl) ?_ (fun a hf=>?_) (Nat.le_of_ble_eq_true rfl)
 ·exact arg2 rfl rfl
 dsimp only[params,Nat.reduceAdd] at hf
 have e:=Ext.rfl' W
 refine seq <| regn0 <| tB hf rfl fun a b2 w v2 hv2 e' hb2 hs2 B2 hf=>?_
 obtain⟨hT,HV,e⟩:=up3 e' hT HV e
 refine tA hf rfl fun a hf=>tl_nil ?_
 cases hv2
 replace B2:Blk w b2 (adC S0 mq) 79:=B2
 replace hf:=hf.kp [1,2]
 refine seq <| rgN 6 hf <| st (mv rfl) <| st (bsl1 (e:=intE) (G:=G0) U35 I3 rfl (by decide) rfl (fun b hb=>hb.elim) (isI rfl)) <| st ((call1 En63 rfl (fun v w he h=>of_spec [(x:Int)] v w h (by simp))).eq (congrArg setV (fold1 (x:Int) 0))) <| st (mv rfl) <| st (bsl1 (e:=intE) (G:=G0) U35 I3 rfl (by decide) rfl (fun b hb=>hb.elim) (isI rfl)) <| st ((call1 En63 rfl (fun v w he h=>of_spec [(x:Int)] v w h (by simp))).eq (congrArg setV (fold1 (x:Int) 0))) <| en fun a w e' hf=>?_
 obtain⟨hT,HV,e,B2⟩:=up4 e' hT HV e B2
 refine tL I76 hf fun a b5 w e' hb5 hs5 B5 hf=>?_
 have lt5_B2:=B2.lt
 obtain⟨hT,HV,e,B2⟩:=up4 e' hT HV e B2
 refine tL I76 hf fun a b6 w e' hb6 hs6 B6 hf=>?_
 obtain⟨hT,HV,e,B2,B5⟩:=up5 e' hT HV e B2 B5
 replace hf:=hf.kp [2,5,6,12,15]
 refine tl_stW T76 hf rfl rfl (wordsC_one _) B5 rfl (setC_size _) fun w hg hsz B5 hf=>?_
 obtain⟨e,hT,HV,B2,B6⟩:=gr5 hg e hT HV B2 B6
 refine tl_stW T76 hf rfl rfl (wordsC_one _) B6 rfl (setC_size _) fun w hg hsz B6 hf=>?_
 obtain⟨e,hT,HV,B2,B5⟩:=gr5 hg e hT HV B2 B5
 refine tl_nil ?_
 replace hf:=hf.keep [2,5,6]
 have n6:b2≠b5∧b2≠b6∧b5≠b6∧W.heap.size≤b2∧W.heap.size≤b5∧W.heap.size≤b6:=by omega
 refine seq <| regn0 <| tA hf rfl fun a hf=>tl_nil ?_
 obtain⟨N,hN⟩:∃N,N=w.heap.size:=⟨_,rfl⟩
 have Ho:OwR setE 76 N G0 w [] (.slice none 0 0):=OwR.nil setE _ (Nat.le_of_eq hN) (fun b hb=>hb.elim)
 have hlN:b2<N∧b5<N∧b6<N∧W.heap.size≤N:=by have h1:=B2.lt;have h2:=B5.lt;have h3:=B6.lt;omega
 have hfu0:1024<1025+card (ins 0 (x:Int))∨ins 0 (x:Int)=0:=.inl (by omega)
 replace hf:=hf.keep [2,5,6,7]
 refine seq <| blk (loopN (fun r0 a w=>∃(at' seen:BS) (out:List BS) (u:Value) (D:List Nat),(1024<r0+card seen∨at'=0)∧out.length+r0≤1025∧out++lvF (lkS l) r0 at' seen=lvB (lkS l) x∧FrD 39 (marks D) a w [(2,E (ptr b2)),(5,E (ptr b5)),(6,E (ptr b6)),(7,E u)] ∧
  LvK W N0 N S0 mq l b2 b5 b6 u out at' seen D w∧∀d∈D,W.heap.size≤d) 1025 ⟨ins 0 (x:Int),ins 0 (x:Int),[],.slice none 0 0,[],hfu0,by simp,by rw[List.nil_append,lvB],hf,⟨e,hT,HV,B2,B5,B6,Ho,Ds.nil _⟩,fun d hd=>by cases hd⟩ ?_)
 rintro r0 a w ⟨at',seen,out,u,D,hfu,hle,hR,hf,⟨e,hT,HV,B2,B5,B6,Ho,hD⟩,hDW⟩
 repeat refine seq ?_
 refine rgN 3 hf <| st ((ldW T76 rfl B5 rfl).eq ((rfl:_=setV at'))) <| st (call1 (A:=E (B (at'==0))) En65 rfl (fun v w he h=>by cases h;exact isEmpty_spec _ w)) ?_
 refine st (notp rfl) <| en fun a w e' hf=>?_
 obtain⟨hT,HV,e,B2,B5,B6,hD,Ho⟩:=up8 e' hT HV e B2 B5 B6 hD Ho
 refine tl_nil <| ifc hf rfl (fun hc=>wskip ?_) (fun hc=>wexit ?_)
 rotate_left
 ·have h0:at'=0:=by simpa using hc
  subst h0
  rw[lvF_zero,List.append_nil] at hR
  replace hf:=hf.keep [7]
  refine seq <| rgN 1 hf <| st (mv rfl) <| en fun a w e' hf=>?_
  obtain⟨e,hD,Ho⟩:=up3 e' e hD Ho
  refine tA hf rfl fun a hf=>tl_nil <| wret <| ret1M rfl hf rfl hD ⟨_,rfl,e.shut hDW,?_⟩
  rw[← hR]
  exact (Ho.chE (chg_shut D w) fun b hb hm=>Ho.neDs hD hm hb).low (by omega) fun b hb=>hb.elim
 have hne:at'≠0:=by
  intro h
  simp[h] at hc
 obtain⟨f,rfl,hst,hfu2⟩:=lv_step (nb:=lkS l) hne hfu
 rw[hst] at hR
 refine blk ?_
 replace hf:=hf.kp [2,5,6,7]
 refine seq <| rgN 3 hf <| st (mv rfl) <| st ((ldW T76 rfl B5 rfl).eq ((rfl:_=setV at'))) <| st (bsl1 U83 I76 rfl (by decide) rfl Ho.avs (isS rfl)) <| en fun a w e' hf=>?_
 obtain⟨hT,HV,B2,B5,B6,hD,Ho,e⟩:=up8 e' hT HV B2 B5 B6 hD Ho e
 haveI hin:∀G0,InR (GB W G0) _:=OwR.inGB (W:=W) Ho (by omega)
 refine tl_app U83 I76 rfl rfl hf (by decide) rfl Ho (isR rfl) (by simp only[List.length_singleton];omega) (by simp only[List.length_singleton,maxLen];omega) fun a v w hg hat Hn hf=>?_
 replace e:=e.gro hg (Ho.row (W:=W) (by omega))
 have hrow:=Ho.row (W:=W) (by omega)
 replace hT:=hT.gro hg (fun b hb=>by have:=hrow b hb;omega)
 replace HV:=Dv.gro HV hg (fun b hb=>.inr (hrow b hb))
 replace B2:=B2.gro hg (Ho.neLt (by omega))
 replace B5:=B5.gro hg (Ho.neLt (by omega))
 replace B6:=B6.gro hg (Ho.neLt (by omega))
 replace hD:=hD.gro hg fun d hd=>Ho.neDs hD hd
 replace Ho:=Hn
 replace Ho:=Hn;clear Hn hg hat hin
 refine tA hf rfl fun a hf=>tl_nil ?_
 replace hf:=hf.keep [2,5,6,7]
 refine seq <| regn0 <| tL I76 hf fun a b8 w e' hb8 hs8 B8 hf=>?_
 have hle8:=Nat.le_trans e.size (Nat.le_of_eq hb8.symm)
 have ne8_Ho:=Ho.ne_new hb8
 have lt8_B5:=B5.lt
 have lt8_B6:=B6.lt
 obtain⟨hT,HV,e,B2,B5,B6,hD,Ho⟩:=up8 e' hT HV e B2 B5 B6 hD Ho
 refine tl_nil ?_
 simp only[Value.cells,zeroC] at B8
 have hW8:W.heap.size≤b8:=hle8
 have n8:b2≠b8∧b5≠b8∧b6≠b8:=by have:=B2.lt;have:=B5.lt;have:=B6.lt;omega
 have hu8:=ne8_Ho
 have hD8:¬b8∈D:=hD.ne B8
 replace hf:=hf.keep [2,5,6,7,8]
 obtain⟨Nz,hNz⟩:∃Nz,Nz=w.heap.size:=⟨_,rfl⟩
 repeat refine seq ?_
 refine rgN 2 hf <| st ((ldW T76 rfl B5 rfl).eq ((rfl:_=setV at'))) <| st (call1 (A:=SeqA Nz at') En62 rfl (fun v w' he h=>by cases h;exact Calls.mono (all_spec _ w') (fun en w2 ⟨u,h1,h2,b',h3,h4,h5⟩=>⟨u,h1,h2,b',by have:=he.size;omega,h4,h5⟩))) ?_
 refine en fun a w e' hf=>?_
 obtain⟨hT,HV,e,B2,B5,B6,B8,hD,Ho⟩:=up9 e' hT HV e B2 B5 B6 B8 hD Ho
 refine tl_nil ?_
 obtain⟨vv,⟨b24,h24,rfl,BS⟩,hf⟩:=hf.fix 24 rfl
 replace hf:=hf.kp [2,5,6,7,8,24]
 have l2:=B2.lt
 have l5:=B5.lt
 have l6:=B6.lt
 have l8:=B8.lt
 have lu:∀g,v.ownBlock=some g→g<w.heap.size:=fun g hg=>(Ho.lt hg).2
 have lD:∀d∈D,d<w.heap.size:=fun d hd=>hD.lt hd
 have hBW:W.heap.size≤w.heap.size:=e.size
 have h0w:0<w.heap.size:=hT.lt
 refine blk <| range_all3 (S:=at') hf rfl BS (by decide) (fun s w1=>LvK W N0 N S0 mq l b2 b5 b6 v (out++[at']) at' seen D w1∧Blk w1 b8 (setC (nxP (lkS l) s)) 76) (fun _ _=>False) (fun s w1 h=>h.1.t)
  ⟨⟨e,hT,HV,B2,B5,B6,Ho,hD⟩,B8⟩ (fun s w1 w2 h hs k=>⟨h.1.kp k hBW h0w l2 l5 l6 lu lD,h.2.kp k (fun hh=>by have:=hh.1;omega)⟩) (fun _ _ _ h=>h.elim) ?_ ?_ (fun _ _ _ _ _ _ h=>h.elim)
 ·intro lp s y rest a1 w1 hs hJ hlw hf
  have hy1024:y<1024:=(mem_elems.1 (by rw[hs];simp)).1
  generalize hBz:w.heap.size=Bz at *
  refine regn0 <| tA hf rfl fun a hf=>tl_nil <| ⟨Kh.rfl' _ _,fun w3 k3 hsz3=>?_⟩
  have hJ3:=hJ.1.kp k3 hBW h0w l2 l5 l6 lu lD
  have hJ8:=hJ.2.kp k3 (fun hh=>by have:=hh.1;omega)
  replace hf:=hf.pure w3
  obtain⟨e,hT,HV,B2,B5,B6,Ho,hD⟩:=hJ3
  have B8:=hJ8
  have kh:=Kh.rfl' Bz w3
  obtain⟨X,hX⟩:∃X,X=nxP (lkS l) s:=⟨_,rfl⟩
  rw[← hX] at B8
  replace hf:=hf.kp [2,5,6,7,8,9]
  refine blk <| rgN 6 hf <| st ((ldW T76 rfl B8 rfl).eq ((rfl:_=setV X))) <| st (fA U79 rfl T77 rfl) <| st (ld1 (v:=mq) T77 rfl B2 (adC_map _ _)) <| st (mv rfl) <| st (lkM (l:=l) (i:=(y:Int)) U77 zero_set (isE rfl HV) rfl (wf64 (by omega) (by omega))) <| st (call2 (A:=E (setV (X ||| lkS l (y:Int)))) En73 rfl rfl (fun v u w he h h'=>by cases h;cases h';exact union_spec X _ w)) ?_
  refine en fun a w e' hf=>?_
  obtain⟨hT,HV⟩:=up2 e' hT HV
  replace kh:=kh.tr (Kh.ext e')
  obtain⟨e,B2,B5,B6,B8,hD,Ho⟩:=up7 e' e B2 B5 B6 B8 hD Ho
  refine tl_stW T76 hf rfl rfl (wordsC_one _) B8 rfl (setC_size _) fun w hg hsz B8 hf=>?_
  obtain⟨e,hT,HV,B2,B5,B6⟩:=gr6 hg e hT HV B2 B5 B6
  replace Ho:=Ho.grE hg hu8;replace hD:=hD.gr hg hD8
  replace kh:=kh.tr (Kh.gr hg (fun hh=>by have:=hh.1;omega))
  refine tl_nil ?_
  simp only[Exit.inBlock]
  exact⟨⟨⟨e,hT,HV,B2,B5,B6,Ho,hD⟩,by rw[nxP_app,← hX];exact B8⟩,kh⟩
 ·intro a' w' hf' hJ hsz hDn
  simp only[Exit.inBlock,↓reduceIte,Exit.then]
  have hD2:Ds (w.heap.size::D) w':=hJ.1.ds.cons hDn fun hm=>Nat.lt_irrefl _ (lD _ hm)
  have hf:FrD 39 (marks (w.heap.size::D)) a' w' [(2,E (ptr b2)),(5,E (ptr b5)),(6,E (ptr b6)),(7,E v),(8,E (ptr b8))]:=hf'.keep [2,5,6,7,8]
  have hDW2:∀d∈w.heap.size::D,W.heap.size≤d:=fun d hd=>by
   rcases List.mem_cons.1 hd with rfl|hd
   ·exact hBW
   ·exact hDW d hd
  obtain⟨⟨e,hT,HV,B2,B5,B6,Ho,_⟩,B8⟩:=hJ
  replace hD:=hD2
  generalize w.heap.size::D=D2 at *
  generalize w'=w at *
  replace B8:Blk w b8 (setC (nxN (lkS l) at')) 76:=B8
  obtain⟨nx,hnx⟩:∃nx,nx=nxN (lkS l) at':=⟨_,rfl⟩
  rw[← hnx] at B8 hR hfu2
  obtain⟨a2,ha2⟩:∃a2,a2=nx &&& ~~~seen:=⟨_,rfl⟩
  rw[← ha2] at hR hfu2
  refine seq <| rgN 3 hf <| st ((ldW T76 rfl B8 rfl).eq ((rfl:_=setV nx))) <| st ((ldW T76 rfl B6 rfl).eq ((rfl:_=setV seen))) <| st (call2 (A:=E (setV a2)) En104 rfl rfl (fun v u w he h h'=>by cases h;cases h';rw[ha2];exact minus_spec nx seen w)) ?_
  refine en fun a w e' hf=>?_
  obtain⟨hT,HV,e,B2,B5,B6,B8,hD,Ho⟩:=up9 e' hT HV e B2 B5 B6 B8 hD Ho
  have hD5:=hD.ne B5
  have hD6:=hD.ne B6
  have hu5:v.ownBlock≠some b5:=Ho.neLt (by omega)
  have hu6:v.ownBlock≠some b6:=Ho.neLt (by omega)
  refine tl_stW T76 hf rfl rfl (wordsC_one _) B5 (setC_size _) (setC_size _) fun w hg hsz B5 hf=>?_
  obtain⟨e,hT,HV,B2,B6⟩:=gr5 hg e hT HV B2 B6
  replace Ho:=Ho.grE hg hu5;replace hD:=hD.gr hg hD5
  refine tl_nil ?_
  replace hf:=hf.kp [2,5,6,7]
  refine rgN 3 hf <| st ((ldW T76 rfl B6 rfl).eq ((rfl:_=setV seen))) <| st ((ldW T76 rfl B5 rfl).eq ((rfl:_=setV a2))) <| st (call2 (A:=E (setV (seen ||| a2))) En73 rfl rfl (fun v u w he h h'=>by cases h;cases h';exact union_spec seen a2 w)) ?_
  refine en fun a w e' hf=>?_
  obtain⟨hT,HV,e,B2,B5,B6,hD,Ho⟩:=up8 e' hT HV e B2 B5 B6 hD Ho
  refine tl_stW T76 hf rfl rfl (wordsC_one _) B6 (setC_size _) (setC_size _) fun w hg hsz B6 hf=>?_
  obtain⟨e,hT,HV,B2,B5⟩:=gr5 hg e hT HV B2 B5
  replace Ho:=Ho.grE hg hu6;replace hD:=hD.gr hg hD6
  refine tl_nil ?_
  replace hf:=hf.kp [2,5,6,7]
  exact⟨f,Nat.lt_succ_self _,a2,seen ||| a2,out++[at'],v,D2,hfu2,by rw[List.length_append,List.length_singleton];omega,by rw[List.append_assoc];exact hR,hf,⟨e,hT,HV,B2,B5,B6,Ho,hD⟩,hDW2⟩

theorem unL_app (l:List BS)(r:BS):unL (l++[r])=unL l ||| r:=by rw[unL,List.foldl_append];rfl
theorem lvF_len (nb:Int→BS):∀(f:Nat) (a s:BS),(lvF nb f a s).length≤f:=by
 intro f
 induction f with
 | zero=>intro a s;exact Nat.le_refl _
 | succ f ih=>
  intro a s
  rw[lvF]
  split
  ·exact Nat.zero_le _
  ·rw[List.length_cons];exact Nat.succ_le_succ (ih _ _)
theorem lvB_len (nb:Int→BS)(a:Nat):(lvB nb a).length≤1025:=lvF_len nb 1025 _ _
theorem prF_len (nb:Int→BS):∀(f:Nat) (s:BS),(prF nb f s).length≤f:=by
 intro f
 induction f with
 | zero=>intro s;exact Nat.le_refl _
 | succ f ih=>
  intro s
  cases h:minOf s with
  | none=>rw[prF_none h];exact Nat.zero_le _
  | some a=>rw[prF_some h,List.length_cons];exact Nat.succ_le_succ (ih _)
theorem pr_step {nb:Int→BS}{left:BS}{r a:Nat}(h:minOf left=some a)(hc:card left≤r) :
  ∃f,r=f+1∧prF nb r left=unL (lvB nb a)::prF nb f (left &&& ~~~unL (lvB nb a))∧card (left &&& ~~~unL (lvB nb a))≤f:=by
 have ha:left.getLsbD a=true:=minOf_mem h
 have hp:=(lvB_ok (nb:=nb) (bit_lt ha)).1
 have h1:=card_lt (S:=left &&& ~~~unL (lvB nb a)) (T:=left) (z:=a) (fun i hi=>((bit_diff _ _ _).1 hi).1) ha fun h=>((bit_diff _ _ _).1 h).2 hp
 obtain⟨f,rfl⟩:∃f,r=f+1:=⟨r - 1,by omega⟩
 exact⟨f,rfl,prF_some h f,by omega⟩
theorem pr_stop {nb:Int→BS}{left:BS}{r:Nat}(h:minOf left=none):prF nb r left=[]:=by
 cases r with
 | zero=>rfl
 | succ r=>exact prF_none h r
def cmpB (l:List (Int×BS))(S:BS):List BS:=prF (lkS l) (card S) S
theorem parts_spec {G:Nat→Prop}{N0:Nat}(l:List (Int×BS))(S:BS)(mq:Value)(W:World)(hT:Tab W)(h:(Dv (mpE sKV N0) G l).p mq W) :
  Calls Tryz.prog 54 #[.agg (adC S mq)] W (Post (OwA setE 76 W.heap.size G0 (cmpB l S)) W):=by
 have HV:(Dv (mpE sKV N0) (GB W G0) l).p mq W:=Dv.toB (Dv.weak h fun b _ hb=>hb.elim)
 have hT0:=hT.lt
 refine eN [.agg (adC S mq)] [E (.agg (adC S mq))] Tryz.func54 Tryz.ntmps54 ?_ fun a hf=>?_
 rotate_left
 dsimp only[params,Nat.reduceAdd] at hf
 rotate_right
 ·exact arg1 rfl
 have e:=Ext.rfl' W
 refine seq <| regn0 <| tB hf rfl fun a b1 w v1 hv1 e' hb1 hs1 B1 hf=>?_
 obtain⟨hT,HV,e⟩:=up3 e' hT HV e
 refine tA hf rfl fun a hf=>tl_nil ?_
 cases hv1
 replace B1:Blk w b1 (adC S mq) 79:=B1
 replace hf:=hf.kp [1,2]
 refine seq <| regn0 <| tA hf rfl fun a hf=>tl_nil <| seq <| regn0 <| tP hf (fA U79 rfl T76 rfl) fun a w e' hf=>?_
 obtain⟨hT,HV,e,B1⟩:=up4 e' hT HV e B1
 refine tP hf ((ldP T76 rfl B1 (by rw[adC_size];decide)).eq (congrArg Value.agg (adC_set S mq))) fun a w e' hf=>?_
 obtain⟨hT,HV,e,B1⟩:=up4 e' hT HV e B1
 refine tL I76 hf fun a b4 w e' hb4 hs4 B4 hf=>?_
 have hle4:=Nat.le_trans e.size (Nat.le_of_eq hb4.symm)
 have lt4_B1:=B1.lt
 obtain⟨hT,HV,e,B1⟩:=up4 e' hT HV e B1
 refine tl_stW T76 hf rfl rfl (wordsC_one _) B4 rfl (setC_size _) fun w hg hsz B4 hf=>?_
 obtain⟨e,hT,HV,B1⟩:=gr4 hg e hT HV B1
 refine tl_nil ?_
 replace hf:=hf.keep [1,3,4]
 obtain⟨N,hN⟩:∃N,N=w.heap.size:=⟨_,rfl⟩
 have Ho:OwR setE 76 N G0 w [] (.slice none 0 0):=OwR.nil setE _ (Nat.le_of_eq hN) (fun b hb=>hb.elim)
 have hlN:b1<N∧b4<N∧W.heap.size≤N∧b1≠b4∧W.heap.size≤b1∧W.heap.size≤b4:=by have h1:=B1.lt;have h2:=B4.lt;omega
 refine blk (loopN (fun r0 a w=>∃(left:BS) (out:List BS) (u:Value),card left≤r0∧out.length+r0≤card S∧out++prF (lkS l) r0 left=cmpB l S∧Fr 39 a w [(1,E (ptr b1)),(3,E u),(4,E (ptr b4))]∧Ext W w∧Tab w∧(Dv (mpE sKV N0) (GB W G0) l).p mq w ∧
  Blk w b1 (adC S mq) 79∧Blk w b4 (setC left) 76∧OwR setE 76 N G0 w out u) (card S) ⟨S,[],.slice none 0 0,Nat.le_refl _,by simp,by rw[List.nil_append,cmpB],hf,e,hT,HV,B1,B4,Ho⟩ ?_)
 rintro r0 a w ⟨left,out,u,hfu,hle,hR,hf,e,hT,HV,B1,B4,Ho⟩
 have hcS:=card_le_1024 S
 refine blk ?_
 cases hq:minOf left with
 | none=>
  refine seq <| rgN 7 hf <| st ((ldW T76 rfl B4 rfl).eq ((rfl:_=setV left))) <| st (call1 (A:=minP left) En72 rfl (fun v w he h=>by cases h;exact min_spec _ w (hT.ext he))) ?_
  refine st (mv rfl) <| st (ext_ rfl rfl) <| st (ext_ rfl rfl) <| st (asg rfl) <| st (asg rfl) <| en fun a w e' hf=>?_
  obtain⟨hT,HV,e,B1,B4,Ho⟩:=up6 e' hT HV e B1 B4 Ho
  refine tl_nil ?_
  rw[hq] at hf
  replace hf:=hf.keep [3,5,6]
  repeat refine seq ?_
  refine rgN 2 hf <| st (mv rfl) <| st ((notp rfl).eq (congrArg Value.bool (show (!(none:Option Nat).isSome)=true from rfl))) <| en fun a w e' hf=>?_
  obtain⟨hT,HV,e,B1,B4,Ho⟩:=up6 e' hT HV e B1 B4 Ho
  refine tl_nil <| ifc hf rfl (fun _=>?_) (fun h=>by cases h)
  rw[pr_stop hq,List.append_nil] at hR
  rw[hR] at Ho
  refine seq <| rgN 1 hf <| st (mv rfl) <| en fun a w e' hf=>?_
  obtain⟨hT,HV,e,B1,B4,Ho⟩:=up6 e' hT HV e B1 B4 Ho
  refine tA hf rfl fun a hf=>tl_nil <| wret <| ret1 rfl hf rfl ?_
  rintro _ rfl
  exact⟨_,rfl,e,Ho.low hlN.2.2.1 fun b hb=>hb.elim⟩
 | some k=>
  obtain⟨f,rfl,hst,hcd⟩:=pr_step (nb:=lkS l) hq hfu
  have hk:k<1024:=bit_lt (minOf_mem hq)
  rw[hst] at hR
  obtain⟨lvs,hlvs⟩:∃lvs,lvs=lvB (lkS l) k:=⟨_,rfl⟩
  have hll:lvs.length≤1025:=by rw[hlvs];exact lvB_len _ _
  rw[← hlvs] at hR hcd
  refine seq <| rgN 7 hf <| st ((ldW T76 rfl B4 rfl).eq ((rfl:_=setV left))) <| st (call1 (A:=minP left) En72 rfl (fun v w he h=>by cases h;exact min_spec _ w (hT.ext he))) ?_
  refine st (mv rfl) <| st (ext_ rfl rfl) <| st (ext_ rfl rfl) <| st (asg rfl) <| st (asg rfl) <| en fun a w e' hf=>?_
  obtain⟨hT,HV,e,B1,B4,Ho⟩:=up6 e' hT HV e B1 B4 Ho
  refine tl_nil ?_
  rw[hq] at hf
  replace hf:=hf.upd 5 rfl (B:=E (I (k:Nat))) (fun v h=>h)
  replace hf:=hf.keep [1,3,4,5,6]
  repeat refine seq ?_
  refine rgN 2 hf <| st (mv rfl) <| st ((notp rfl).eq (congrArg Value.bool (show (!(some k).isSome)=false from rfl))) <| en fun a w e' hf=>?_
  obtain⟨hT,HV,e,B1,B4,Ho⟩:=up6 e' hT HV e B1 B4 Ho
  refine tl_nil <| ifc hf rfl (fun h=>by cases h) (fun _=>?_)
  refine wskip ?_
  replace hf:=hf.keep [1,3,4,5]
  refine seq <| regn0 <| tL I76 hf fun a b7 w e' hb7 hs7 B7 hf=>?_
  have ne7_Ho:=Ho.ne_new hb7
  have lt7_B1:=B1.lt
  have lt7_B4:=B4.lt
  obtain⟨hT,HV,e,B1,B4,Ho⟩:=up6 e' hT HV e B1 B4 Ho
  refine tl_nil ?_
  simp only[Value.cells,zeroC] at B7
  have hu7:=ne7_Ho
  have n7:b1≠b7∧b4≠b7∧W.heap.size≤b7:=by have:=B1.lt;have:=B4.lt;omega
  obtain⟨N1,hN1⟩:∃N1,N1=w.heap.size:=⟨_,rfl⟩
  have hN1s:N1≤w.heap.size:=Nat.le_of_eq hN1
  have l7:b7<N1:=by rw[hN1];exact B7.lt
  have lu:∀b,u.ownBlock=some b→b<N1:=fun b hb=>by rw[hN1];exact (Ho.lt hb).2
  repeat refine seq ?_
  refine rgN 5 hf <| st (ldW T79 rfl B1 (adC_size _ _)) <| st (mv rfl) <| st (call2 (A:=OwA setE 76 N1 G0 lvs) (B:=E (.agg (adC S mq))) (C:=E (I (k:Nat))) En52 rfl rfl (fun v u w he k1 k2=>by cases k1;cases k2;exact (levels_spec l S mq k w (hT.ext he) (Dv.ex HV he) hk).mono fun en w' ⟨u,k1,k2,k3⟩=>⟨u,k1,k2,by rw[hlvs];exact OwR.low k3 (Nat.le_trans hN1s he.size) fun b hb=>hb.elim⟩)) ?_
  refine st (lenD U83 ⟨_,rfl,fun v w _ h=>OwR.sl h⟩) <| st (mv rfl) <| en fun a w e' hf=>?_
  obtain⟨hT,HV,e,B1,B4,B7,Ho⟩:=up7 e' hT HV e B1 B4 B7 Ho
  refine tl_nil ?_
  obtain⟨lv,HoL,hf⟩:=hf.opn 22 rfl
  replace HoL:OwR setE 76 N1 G0 w lvs lv:=HoL
  have hr7:lv.ownBlock≠some b7:=HoL.neLt l7
  replace hf:=hf.keep [1,3,4,7,22,23,24]
  replace hf:=hf.keep [1,3,4,7,22,23,24]
  refine blk (loopN (fun r0 a w=>∃(j:Nat) ,r0=lvs.length - j∧j≤lvs.length∧Fr 39 a w [(1,E (ptr b1)),(3,E u),(4,E (ptr b4)),(7,E (ptr b7)),(22,E lv),(23,E (I (lvs.length:Nat))),(24,E (I j))]∧Ext W w∧Tab w∧(Dv (mpE sKV N0) (GB W G0) l).p mq w∧Blk w b1 (adC S mq) 79∧Blk w b4 (setC left) 76∧Blk w b7 (setC (unL (lvs.take j))) 76∧OwR setE 76 N G0 w out u∧OwR setE 76 N1 G0 w lvs lv) lvs.length ⟨0,rfl,by omega,hf,e,⟨hT,HV,B1,B4,B7,Ho,HoL⟩⟩ ?_)
  rintro r0 a w ⟨j,rfl,hj,hf,e,hT,HV,B1,B4,B7,Ho,HoL⟩
  refine seq <| rgN 1 hf <| st (lss rfl rfl) <| en fun a w e' hf=>?_
  obtain⟨hT,HV,Ho,HoL,e,B1,B4,B7⟩:=up8 e' hT HV Ho HoL e B1 B4 B7
  refine tl_nil <| seq <| ifc hf rfl (fun hc=>wskip ?_) (fun hc=>wexit ?_)
  rotate_left
  rotate_left
  ·have hltj:j<lvs.length:=by have:=of_decide_eq_true hc;(try dsimp only at this);omega
   replace hf:=hf.kp [1,3,4,7,22,23,24]
   refine seq <| blk ?_
   have hy:=List.getElem?_eq_getElem hltj
   generalize lvs[j]=y at hy
   have hsc:unL (lvs.take (j+1))=unL (lvs.take j) ||| y:=by rw[take_succ_get hy,unL_app]
   obtain⟨X,hX⟩:∃X,X=unL (lvs.take j):=⟨_,rfl⟩
   rw[← hX] at hsc B7
   refine seq <| regn0 <| tP hf (idxD U83 S76 (isE rfl (HoL.slN (N:=G0) fun b hb hh=>hh)) rfl (by omega) (hy)) fun a w e' hf=>?_
   obtain⟨hT,HV,HoL,e,B1,B4,B7,Ho⟩:=up8 e' hT HV HoL e B1 B4 B7 Ho
   refine tP hf (ldS T76 (isR rfl)) fun a w e' hf=>?_
   obtain⟨hT,HV,HoL,e,B1,B4,B7,Ho⟩:=up8 e' hT HV HoL e B1 B4 B7 Ho
   refine tL I76 hf fun a b9 w e' hb9 hs9 B9 hf=>?_
   have hle9:=Nat.le_trans e.size (Nat.le_of_eq hb9.symm)
   have ne9_Ho:=Ho.ne_new hb9
   have ne9_HoL:=HoL.ne_new hb9
   have lt9_B1:=B1.lt
   have lt9_B4:=B4.lt
   have lt9_B7:=B7.lt
   obtain⟨hT,HV,HoL,e,B1,B4,B7,Ho⟩:=up8 e' hT HV HoL e B1 B4 B7 Ho
   have hu9:=ne9_Ho
   have nr9:=ne9_HoL
   have n9:b1≠b9∧b4≠b9∧b7≠b9∧W.heap.size≤b9:=by omega
   replace hf:=hf.kp [1,3,4,7,9,22,23,24,27]
   refine tl_stW T76 hf rfl rfl (wordsC_one _) B9 rfl (setC_size _) fun w hg hsz B9 hf=>?_
   obtain⟨e,hT,HV,B1,B4,B7⟩:=gr6 hg e hT HV B1 B4 B7
   replace Ho:=Ho.grE hg hu9;replace HoL:=HoL.grE hg nr9
   refine tl_nil ?_
   replace hf:=hf.kp [1,3,4,7,9,22,23,24]
   refine rgN 3 hf <| st ((ldW T76 rfl B7 rfl).eq ((rfl:_=setV X))) <| st ((ldW T76 rfl B9 rfl).eq ((rfl:_=setV y))) <| st (call2 (A:=E (setV (X ||| y))) En73 rfl rfl (fun v u w he h h'=>by cases h;cases h';exact union_spec X y w)) ?_
   refine en fun a w e' hf=>?_
   obtain⟨hT,HV,HoL,e,B1,B4,B7,B9,Ho⟩:=up9 e' hT HV HoL e B1 B4 B7 B9 Ho
   refine tl_stW T76 hf rfl rfl (wordsC_one _) B7 rfl (setC_size _) fun w hg hsz B7 hf=>?_
   obtain⟨e,hT,HV,B1,B4⟩:=gr5 hg e hT HV B1 B4
   replace Ho:=Ho.grE hg hu7;replace HoL:=HoL.grE hg hr7
   refine tl_nil ?_
   rw[← hsc] at B7
   replace hf:=hf.kp [1,3,4,7,22,23,24]
   refine rgN 1 hf <| st ((add rfl rfl (by omega)).eq (congrArg (Value.int .i64) (show (j:Int)+1=((j+1:Nat):Int) from rfl))) <| en fun a w e' hf=>?_
   obtain⟨hT,HV,Ho,HoL,e,B1,B4,B7⟩:=up8 e' hT HV Ho HoL e B1 B4 B7
   refine tP hf (mv rfl) fun a w e' hf=>?_
   obtain⟨hT,HV,Ho,HoL,e,B1,B4,B7⟩:=up8 e' hT HV Ho HoL e B1 B4 B7
   refine tl_nil ?_
   replace hf:=hf.kp [1,3,4,7,22,23,24]
   refine⟨_,?_,j+1,rfl,by omega,hf,e,?_⟩
   ·omega
   exact⟨hT,HV,B1,B4,B7,Ho,HoL⟩
  ·obtain rfl:j=lvs.length:=by have:=of_decide_eq_false hc;(try dsimp only at this);omega
   rw[List.take_length] at B7
   obtain⟨P,hP⟩:∃P,P=unL lvs:=⟨_,rfl⟩
   rw[← hP] at B7 hR hcd
   replace hf:=hf.kp [1,3,4,7]
   refine seq <| rgN 3 hf <| st (mv rfl) <| st ((ldW T76 rfl B7 rfl).eq ((rfl:_=setV P))) <| st (bsl1 U83 I76 rfl (by decide) rfl Ho.avs (isS rfl)) <| en fun a w e' hf=>?_
   obtain⟨hT,HV,B1,B4,B7,Ho,e⟩:=up7 e' hT HV B1 B4 B7 Ho e
   haveI hin:∀G0,InR (GB W G0) _:=OwR.inGB (W:=W) Ho (by omega)
   refine tl_app U83 I76 rfl rfl hf (by decide) rfl Ho (isR rfl) (by simp only[List.length_singleton];omega) (by simp only[List.length_singleton,maxLen];omega) fun a v w hg hat Hn hf=>?_
   replace e:=e.gro hg (Ho.row (W:=W) (by omega))
   have hrow:=Ho.row (W:=W) (by omega)
   replace hT:=hT.gro hg (fun b hb=>by have:=hrow b hb;omega)
   replace HV:=Dv.gro HV hg (fun b hb=>.inr (hrow b hb))
   replace B1:=B1.gro hg (Ho.neLt (by omega))
   replace B4:=B4.gro hg (Ho.neLt (by omega))
   replace B7:=B7.gro hg hu7
   replace Ho:=Hn
   replace Ho:=Hn;clear Hn hg hat hin
   refine tA hf rfl fun a hf=>tl_nil ?_
   replace hf:=hf.kp [1,3,4,7]
   refine rgN 3 hf <| st ((ldW T76 rfl B4 rfl).eq ((rfl:_=setV left))) <| st ((ldW T76 rfl B7 rfl).eq ((rfl:_=setV P))) <| st (call2 (A:=E (setV (left &&& ~~~P))) En104 rfl rfl (fun v u w he h h'=>by cases h;cases h';exact minus_spec left P w)) ?_
   refine en fun a w e' hf=>?_
   obtain⟨hT,HV,e,B1,B4,B7,Ho⟩:=up7 e' hT HV e B1 B4 B7 Ho
   have hu4:v.ownBlock≠some b4:=Ho.neLt (by omega)
   refine tl_stW T76 hf rfl rfl (wordsC_one _) B4 rfl (setC_size _) fun w hg hsz B4 hf=>?_
   obtain⟨e,hT,HV,B1⟩:=gr4 hg e hT HV B1
   replace Ho:=Ho.grE hg hu4
   refine tl_nil ?_
   replace hf:=hf.kp [1,3,4]
   exact⟨f,Nat.lt_succ_self _,left &&& ~~~P,out++[P],v,hcd,by rw[List.length_append,List.length_singleton];omega,by rw[List.append_assoc];exact hR,hf,e,hT,HV,B1,B4,Ho⟩
theorem collectO_spec (S:BS)(b:Nat)(W:World)(hT:Tab W)(hb:Blk W b (setC S) 76) :
  Calls Tryz.prog 106 #[seqV b] W (Post (OwA intE 3 W.heap.size G0 (natE (elems S))) W):=by
 refine eN [seqV b] [E (seqV b)] Tryz.func106 Tryz.ntmps106 ?_ fun a hf=>?_
 rotate_left
 rotate_right
 ·exact arg1 rfl
 have e:=Ext.rfl' W
 refine seq <| regn0 <| tA hf rfl fun a hf=>tl_nil ?_
 have hWN:W.heap.size≤W.heap.size:=Nat.le_refl _
 have hNs:=hWN
 refine seq <| rgN 2 hf <| st (mv rfl) <| st (call2 (A:=OwA intE 3 W.heap.size G0 (natE (elems S))) (B:=E (.slice none 0 0)) (C:=E (seqV b)) En136 rfl rfl (fun v u w he k1 k2=>by cases k1;cases k2;exact (appendSeq_spec S b w (hT.ext he) (hb.ext he)).mono fun en w' ⟨u,k1,k2,k3⟩=>⟨u,k1,k2,OwR.low k3 (Nat.le_trans hNs he.size) fun b hb=>hb.elim⟩)) ?_
 refine en fun a w e' hf=>?_
 obtain⟨hT,e,hb⟩:=up3 e' hT e hb
 refine tA hf rfl fun a hf=>tl_nil <| wret <| ret1 rfl hf rfl ?_
 intro v hv
 exact⟨_,rfl,e,(OwR.low hv hWN fun b hb=>hb.elim)⟩
theorem elementsO_spec (S:BS)(W:World)(hT:Tab W):Calls Tryz.prog 56 #[setV S] W (Post (OwA intE 3 W.heap.size G0 (natE (elems S))) W):=by
 refine eN [setV S] [E (setV S)] Tryz.func56 Tryz.ntmps56 ?_ fun a hf=>?_
 rotate_left
 rotate_right
 ·exact arg1 rfl
 have e:=Ext.rfl' W
 refine seq <| regn0 <| tB hf rfl fun a b1 w v1 hv1 e' hb1 hs1 B1 hf=>?_
 obtain⟨hT,e⟩:=up2 e' hT e
 refine tA hf rfl fun a hf=>tl_nil ?_
 cases hv1
 replace B1:Blk w b1 (setC S) 76:=B1
 obtain⟨N,hN⟩:∃N,N=w.heap.size:=⟨_,rfl⟩
 have hNs:N≤w.heap.size:=Nat.le_of_eq hN
 have hWN:W.heap.size≤N:=by rw[hN];exact e.size
 refine seq <| rgN 3 hf <| st ((ldW T76 rfl B1 rfl).eq ((rfl:_=setV S))) <| st (call1 (A:=SeqA 0 S) En62 rfl (fun v w' he h=>by cases h;exact Calls.mono (all_spec _ w') (fun en w2 ⟨u,h1,h2,b',h3,h4,h5⟩=>⟨u,h1,h2,b',Nat.zero_le _,h4,h5⟩))) ?_
 refine st (call1 (A:=OwA intE 3 N G0 (natE (elems S))) En106 rfl (fun v w he ⟨b,_,hv,hb⟩=>by rw[hv];exact (collectO_spec S b w (hT.ext he) hb).mono fun en w' ⟨u,k1,k2,k3⟩=>⟨u,k1,k2,OwR.low k3 (Nat.le_trans hNs he.size) fun b hb=>hb.elim⟩)) ?_
 refine en fun a w e' hf=>?_
 obtain⟨hT,e,B1⟩:=up3 e' hT e B1
 refine tA hf rfl fun a hf=>tl_nil <| wret <| ret1 rfl hf rfl ?_
 intro v hv
 exact⟨_,rfl,e,(OwR.low hv hWN fun b hb=>hb.elim)⟩
def AdjA (l:List (Int×BS))(S:BS)(N0:Nat):VA:=⟨fun v w=>∃mq,v=.agg (adC S mq)∧(Dv (mpE sKV N0) G0 l).p mq w,fun v w w' e ⟨mq,h1,h2⟩=>⟨mq,h1,Dv.ex h2 e⟩⟩
def elL (C:BS):List Int:=natE (elems C)
theorem elL_len (C:BS):(elL C).length≤1024:=by rw[elL,natE,List.length_map];exact elems_len C
theorem comps_spec {G:Nat→Prop}{N:Nat}(g:GT)(v:Value)(W:World)(hT:Tab W)(h:(Dv (ptE (grE N)) G (some g)).p v W)(gs1:g.1.Pairwise fun x y=>lt1 x.1 y.1=true)(gs2:g.2.Pairwise fun x y=>lt2 x.1 y.1=true)(hl1:g.1.length≤100000)(hl2:g.2.length≤100000)(hN:N≤1000000) :
  Calls Tryz.prog 22 #[v] W (Post (Dv (slE (slE intE)) G0 ((prF (nbA g) (card (vset g.1)) (vset g.1)).map elL)) W):=by
 have hgd:(Dv (ptE (grE N)) G0 (some g)).p v W:=Dv.weak h fun b _ hb=>hb.elim
 obtain⟨l,hl⟩:∃l,l=nbL g (elems (vset g.1)):=⟨_,rfl⟩
 obtain⟨S,hS⟩:∃S,S=vset g.1:=⟨_,rfl⟩
 obtain⟨ps,hps⟩:∃ps,ps=cmpB l S:=⟨_,rfl⟩
 have hpl:ps.length≤1024:=by rw[hps,cmpB];exact Nat.le_trans (prF_len _ _ _) (card_le_1024 S)
 have hgoal:prF (nbA g) (card (vset g.1)) (vset g.1)=ps:=by rw[hps,cmpB,hl,hS,nbA]
 rw[hgoal]
 have hT0:=hT.lt
 refine eN [v] [E v] Tryz.func22 Tryz.ntmps22 ?_ fun a hf=>?_
 rotate_left
 rotate_right
 ·exact arg1 rfl
 have e:=Ext.rfl' W
 refine seq <| regn0 <| tA hf rfl fun a hf=>tl_nil <| seq <| regn0 <| tA hf rfl fun a hf=>tl_nil ?_
 obtain⟨N1,hN1⟩:∃N1,N1=W.heap.size:=⟨_,rfl⟩
 have hN1s:N1≤W.heap.size:=Nat.le_of_eq hN1
 have hWN:W.heap.size≤N1:=by rw[hN1];exact e.size
 have e0:=e
 repeat refine seq ?_
 refine rgN 5 hf <| st (mv rfl) <| st (call1 (A:=AdjA l S 1024) En46 rfl (fun v w he k=>by cases k;rw[hl,hS];exact (of07_spec g _ w (hT.ext he) (VA.st _ _ _ _ (Ext.tr e0 he) hgd) gs1 gs2 hl1 hl2 hN).mono fun en w' ⟨k1,mq,k2,k3⟩=>⟨_,k2,k1,mq,rfl,k3⟩)) ?_
 refine st (call1 (A:=OwA setE 76 N1 G0 ps) (B:=AdjA l S 1024) En54 rfl (fun v w he ⟨mq,k1,k2⟩=>by rw[k1,hps];exact (parts_spec l S mq w (hT.ext he) k2).mono fun en w' ⟨u,k1,k2,k3⟩=>⟨u,k1,k2,OwR.low k3 (Nat.le_trans hN1s he.size) fun b hb=>hb.elim⟩)) ?_
 refine st (lenD U83 ⟨_,rfl,fun v w _ h=>OwR.sl h⟩) <| st (mv rfl) <| en fun a w e' hf=>?_
 obtain⟨hT,e⟩:=up2 e' hT e
 refine tl_nil ?_
 obtain⟨pv,HoL,hf⟩:=hf.opn 8 rfl
 replace HoL:OwR setE 76 N1 G0 w ps pv:=HoL
 obtain⟨N2,hN2⟩:∃N2,N2=w.heap.size:=⟨_,rfl⟩
 have lp:∀b,pv.ownBlock=some b→b<N2:=fun b hb=>by rw[hN2];exact (HoL.lt hb).2
 have X:OwX (slE intE) 35 N2 G0 w [] (.slice none 0 0):=OwX.nil _ _ (Nat.le_of_eq hN2)
 have hWN2:W.heap.size≤N2:=by rw[hN2];exact e.size
 replace hf:=hf.keep [3,8,9,10]
 replace hf:=hf.keep [3,8,9,10]
 refine blk (loopN (fun r0 a w=>∃(j:Nat) (u:Value),r0=ps.length - j∧j≤ps.length∧Fr 21 a w [(3,E u),(8,E pv),(9,E (I (ps.length:Nat))),(10,E (I j))]∧Ext W w∧Tab w∧OwR setE 76 N1 G0 w ps pv∧OwX (slE intE) 35 N2 G0 w ((ps.take j).map elL) u) ps.length ⟨0,.slice none 0 0,rfl,by omega,hf,e,⟨hT,HoL,X⟩⟩ ?_)
 rintro r0 a w ⟨j,u,rfl,hj,hf,e,hT,HoL,X⟩
 refine seq <| rgN 1 hf <| st (lss rfl rfl) <| en fun a w e' hf=>?_
 obtain⟨hT,HoL,X,e⟩:=up4 e' hT HoL X e
 refine tl_nil <| seq <| ifc hf rfl (fun hc=>wskip ?_) (fun hc=>wexit ?_)
 rotate_left
 rotate_left
 ·have hltj:j<ps.length:=by have:=of_decide_eq_true hc;(try dsimp only at this);omega
  replace hf:=hf.keep [3,8,9,10]
  refine seq <| blk ?_
  have hy:=List.getElem?_eq_getElem hltj
  generalize ps[j]=C at hy
  have hsc:(ps.take (j+1)).map elL=(ps.take j).map elL++[elL C]:=by rw[take_succ_get hy,List.map_append];rfl
  have hlo:((ps.take j).map elL).length≤1024:=by rw[List.length_map];exact Nat.le_trans (List.length_take_le' _ _) hpl
  generalize (ps.take j).map elL=out at hsc hlo X
  obtain⟨N3,hN3⟩:∃N3,N3=w.heap.size:=⟨_,rfl⟩
  have hN3s:N3≤w.heap.size:=Nat.le_of_eq hN3
  have lu:∀b,u.ownBlock=some b→b<N3:=fun b hb=>by rw[hN3];exact (X.lt hb).2
  replace X:=X.weak (G':=fun b=>N3≤b) fun b hb h=>by rw[hN3] at h;exact absurd hb (Nat.not_lt.2 h)
  refine seq <| regn0 <| tP hf (idxD U83 S76 (isE rfl (HoL.slN (N:=G0) fun b hb hh=>hh)) rfl (by omega) (hy)) fun a w e' hf=>?_
  obtain⟨hT,X,hN3s,e,HoL⟩:=up5 e' hT X hN3s e HoL
  refine tP hf (ldS T76 (isR rfl)) fun a w e' hf=>?_
  obtain⟨hT,X,hN3s,e,HoL⟩:=up5 e' hT X hN3s e HoL
  refine tL I76 hf fun a b5 w e' hb5 hs5 B5 hf=>?_
  have hle5:=Nat.le_trans e.size (Nat.le_of_eq hb5.symm)
  have lo5_hN3s:=Nat.le_trans hN3s (Nat.le_of_eq hb5.symm)
  have ne5_HoL:=HoL.ne_new hb5
  obtain⟨hT,X,hN3s,e,HoL⟩:=up5 e' hT X hN3s e HoL
  have hr5:=ne5_HoL
  have h5:N3≤b5:=lo5_hN3s
  have hW5:W.heap.size≤b5:=hle5
  have hu5:u.ownBlock≠some b5:=fun h=>by have:=lu b5 h;omega
  replace hf:=hf.kp [3,5,8,9,10,13]
  refine tl_stW T76 hf rfl rfl (wordsC_one _) B5 rfl (setC_size _) fun w hg hsz B5 hf=>?_
  replace X:=X.ch ((Chg.rfl' (fun b=>b=b5) _).gr hg (.inl rfl)) (fun b hb h=>hu5 (by rw[← h];exact hb)) (fun b h=>by rw[h];exact h5)
  obtain⟨e,hT⟩:=gr2 hg e hT
  replace HoL:=HoL.grE hg hr5
  refine tl_nil ?_
  replace X:=X.weak (G':=G0) fun b _ h=>h.elim
  have hlu:∀b,GO G0 u b→b<w.heap.size:=fun b hb=>hb.elim (fun h=>h.elim) fun h=>(X.lt h).2
  replace hf:=hf.kp [3,5,8,9,10]
  refine rgN 4 hf <| st (mv rfl) <| st ((ldW T76 rfl B5 rfl).eq ((rfl:_=setV C))) <| st (call1 (A:=Dv (slE intE) (GO G0 u) (elL C)) En56 rfl (fun v w he h=>by cases h;exact (elementsO_spec C w (hT.ext he)).mono fun en w' ⟨z,k1,k2,k3⟩=>⟨z,k1,k2,OwR.slN k3 fun b hb hh=>by have h1:=hlu b hh;have h2:=(k3.lt hb).1;have h3:=he.size;omega⟩)) ?_
  refine st (bsl1 U39 I35 rfl (by decide) rfl hlu (isR rfl)) <| en fun a w e' hf=>?_
  obtain⟨hT,X,e,B5,HoL⟩:=up5 e' hT X e B5 HoL
  have hrow:∀b,u.ownBlock=some b→N2≤b:=fun b hb=>(X.lt hb).1
  refine tl_appX U39 I35 rfl rfl hf (by decide) rfl X (isR rfl) (by simp only[List.length_singleton];omega) (by simp only[List.length_singleton,maxLen];omega) fun a u' w hg hat Hn hf=>?_
  replace e:=e.gro hg (fun b hb=>by have:=hrow b hb;omega)
  replace hT:=hT.gro hg (fun b hb=>by have:=hrow b hb;omega)
  replace HoL:=HoL.groE hg (fun b hb hh=>by have h1:=hrow b hh;have h2:=lp b hb;omega)
  have X:=Hn
  rw[← hsc] at X
  replace hf:=hf.keep [3,8,9,10,18]
  refine tA hf rfl fun a hf=>tl_nil <| rgN 1 hf <| st ((add rfl rfl (by omega)).eq (congrArg (Value.int .i64) (show (j:Int)+1=((j+1:Nat):Int) from rfl))) <| en fun a w e' hf=>?_
  obtain⟨hT,HoL,X,e⟩:=up4 e' hT HoL X e
  refine tP hf (mv rfl) fun a w e' hf=>?_
  obtain⟨hT,HoL,X,e⟩:=up4 e' hT HoL X e
  refine tl_nil ?_
  replace hf:=hf.keep [3,8,9,10]
  refine⟨_,?_,j+1,_,rfl,by omega,hf,e,?_⟩
  ·omega
  exact⟨hT,HoL,X⟩
 ·obtain rfl:j=ps.length:=by have:=of_decide_eq_false hc;(try dsimp only at this);omega
  rw[List.take_length] at X
  replace hf:=hf.keep [3]
  refine seq <| rgN 1 hf <| st (mv rfl) <| en fun a w e' hf=>?_
  obtain⟨X,e⟩:=up2 e' X e
  refine tA hf rfl fun a hf=>tl_nil <| wret <| ret1 rfl hf rfl ?_
  rintro _ rfl
  exact⟨_,rfl,e,X.sl0⟩
end Go.Mono
namespace Go.Mono
open Go Go.Proofs Go.RowKit

theorem Vals.hi {xs:List RB}(V:Vals xs):∀i,i<xs.length→up xs i<xs.length:=fun i hi=>(V.range i hi).2

end Go.Mono
namespace Go.Mono

theorem fstN_cases (p:Nat→Bool)(n:Nat):(fstN p n = -1∧∀i,i<n→p i=false)∨∃k:Nat,k<n∧fstN p n=(k:Int)∧p k=true∧∀i,i<k→p i=false:=by
 by_cases h:∃k,k<n∧p k=true
 ·obtain⟨k,⟨h1,h2⟩,h3⟩:=least h
  have h4:∀i,i<k→p i=false:=fun i hi=>by
   cases hp:p i
   ·rfl
   ·exact absurd ⟨by omega,hp⟩ (h3 i hi)
  exact .inr ⟨k,h1,fstN_hit h1 h4 h2,h2,h4⟩
 ·have h4:∀i,i<n→p i=false:=fun i hi=>by
   cases hp:p i
   ·rfl
   ·exact absurd ⟨i,hi,hp⟩ h
  exact .inl ⟨fstN_none h4,h4⟩
end Go.Mono
namespace Go.Mono
open Go Go.Proofs Go.RowKit Go.Gr
def wo (nb:Int→BS)(u v:Nat):Int→BS:=fun x=>if x=(u:Int) then del (nb x) (v:Int) else if x=(v:Int) then del (nb x) (u:Int) else nb x
theorem wo_bit {nb:Int→BS}{u v:Nat}(hu:u<1024)(hv:v<1024)(huv:u≠v)(i j:Nat):(wo nb u v (i:Int)).getLsbD j=true↔(nb (i:Int)).getLsbD j=true∧¬(i=u∧j=v)∧¬(i=v∧j=u):=by
 rw[wo]
 by_cases h1:i=u
 ·subst h1
  rw[if_pos rfl,bit_del _ hv]
  exact⟨fun⟨a,b⟩=>⟨a,fun h=>b h.2,fun h=>huv h.1⟩,fun⟨a,b,_⟩=>⟨a,fun h=>b ⟨rfl,h⟩⟩⟩
 ·rw[if_neg (by omega)]
  by_cases h2:i=v
  ·subst h2
   rw[if_pos rfl,bit_del _ hu]
   exact⟨fun⟨a,b⟩=>⟨a,fun h=>h1 h.1,fun h=>b h.2⟩,fun⟨a,_,c⟩=>⟨a,fun h=>c ⟨rfl,h⟩⟩⟩
  ·rw[if_neg (by omega)]
   exact⟨fun a=>⟨a,fun h=>h1 h.1,fun h=>h2 h.1⟩,fun h=>h.1⟩
section
variable {nb:Int→BS}
theorem lvF_nil {at':BS}(h:at'=0)(f:Nat)(seen:BS):lvF nb f at' seen=[]:=by
 cases f with
 | zero=>rfl
 | succ f=>rw[lvF,if_pos h]
theorem lvF_cons {at':BS}(h:at'≠0)(f:Nat)(seen:BS):lvF nb (f+1) at' seen=at'::lvF nb f (nxN nb at' &&& ~~~seen) (seen ||| (nxN nb at' &&& ~~~seen)):=by rw[lvF,if_neg h]
theorem lv_path:∀(f:Nat) (at' seen:BS) (k x:Nat) (S:BS),(lvF nb f at' seen)[k]?=some S→S.getLsbD x=true →
  ∃p:Nat→Nat,at'.getLsbD (p 0)=true∧p k=x∧(∀i,i≤k→∃T,(lvF nb f at' seen)[i]?=some T∧T.getLsbD (p i)=true)∧∀i,i<k→(nb (p i:Int)).getLsbD (p (i+1))=true:=by
 intro f
 induction f with
 | zero=>intro at' seen k x S hS;rw[lvF] at hS;cases hS
 | succ f ih=>
  intro at' seen k x S hS hx
  by_cases h0:at'=0
  ·rw[lvF_nil h0] at hS;cases hS
  rw[lvF_cons h0] at hS ⊢
  cases k with
  | zero=>
   rw[List.getElem?_cons_zero] at hS
   obtain rfl:=Option.some.inj hS
   refine⟨fun _=>x,hx,rfl,fun i hi=>⟨at',?_,hx⟩,fun i hi=>by omega⟩
   rw[show i=0 by omega,List.getElem?_cons_zero]
  | succ k=>
   rw[List.getElem?_cons_succ] at hS
   obtain⟨p,p1,p2,p3,p4⟩:=ih _ _ k x S hS hx
   obtain⟨y,hy,hyp⟩:=nxN_bit.1 ((bit_diff _ _ _).1 p1).1
   refine⟨fun i=>if i=0 then y else p (i - 1),by simpa using hy,by simpa using p2,fun i hi=>?_,fun i hi=>?_⟩
   ·cases i with
    | zero=>exact⟨at',List.getElem?_cons_zero,by simpa using hy⟩
    | succ i=>
     obtain⟨T,h1,h2⟩:=p3 i (by omega)
     exact⟨T,by rw[List.getElem?_cons_succ];exact h1,by simpa using h2⟩
   ·cases i with
    | zero=>simpa using hyp
    | succ i=>simpa using p4 i (by omega)
theorem lv_new:∀(f:Nat) (at' seen:BS) (k x:Nat) (S:BS),(lvF nb f at' seen)[k+1]?=some S→S.getLsbD x=true→¬seen.getLsbD x=true:=by
 intro f
 induction f with
 | zero=>intro at' seen k x S hS;rw[lvF] at hS;cases hS
 | succ f ih=>
  intro at' seen k x S hS hx
  by_cases h0:at'=0
  ·rw[lvF_nil h0] at hS;cases hS
  rw[lvF_cons h0,List.getElem?_cons_succ] at hS
  cases k with
  | zero=>
   cases f with
   | zero=>rw[lvF] at hS;cases hS
   | succ f=>
    by_cases h2:nxN nb at' &&& ~~~seen=0
    ·rw[lvF_nil h2] at hS;cases hS
    ·rw[lvF_cons h2,List.getElem?_cons_zero] at hS
     obtain rfl:=Option.some.inj hS
     exact ((bit_diff _ _ _).1 hx).2
  | succ k=>exact fun h=>ih _ _ k x S hS hx ((bit_or _ _ _).2 (.inl h))
theorem lv_dis:∀(f:Nat) (at' seen:BS),(∀i,at'.getLsbD i=true→seen.getLsbD i=true)→∀(i j x:Nat) (S T:BS),i<j→(lvF nb f at' seen)[i]?=some S→(lvF nb f at' seen)[j]?=some T→S.getLsbD x=true→¬T.getLsbD x=true:=by
 intro f
 induction f with
 | zero=>intro at' seen _ i j x S T _ hS;rw[lvF] at hS;cases hS
 | succ f ih=>
  intro at' seen hin i j x S T hij hS hT hx hxT
  by_cases h0:at'=0
  ·rw[lvF_nil h0] at hS;cases hS
  cases j with
  | zero=>omega
  | succ j=>
   cases i with
   | zero=>
    have h1:=lv_new (f+1) at' seen j x T hT hxT
    rw[lvF_cons h0,List.getElem?_cons_zero] at hS
    obtain rfl:=Option.some.inj hS
    exact h1 (hin x hx)
   | succ i=>
    rw[lvF_cons h0,List.getElem?_cons_succ] at hS hT
    exact ih _ _ (fun k hk=>(bit_or _ _ _).2 (.inr hk)) i j x S T (by omega) hS hT hx hxT
structure Cyc (nb:Int→BS)(p:Nat→Nat)(n:Nat):Prop where
 three:3≤n
 inj:∀i j,i<n→j<n→p i=p j→i=j
 adj:∀i,i+1<n→(nb (p i:Int)).getLsbD (p (i+1))=true
 last:(nb (p (n - 1):Int)).getLsbD (p 0)=true
end
section
variable {nb:Int→BS}
theorem lv_succ:∀(f:Nat) (at' seen:BS),(1024<f+card seen∨at'=0)→∀(k x y:Nat) (S:BS),(lvF nb f at' seen)[k]?=some S→S.getLsbD x=true→(nb (x:Int)).getLsbD y=true →
  seen.getLsbD y=true∨∃k' T,k'≤k+1∧(lvF nb f at' seen)[k']?=some T∧T.getLsbD y=true:=by
 intro f
 induction f with
 | zero=>intro at' seen _ k x y S hS;rw[lvF] at hS;cases hS
 | succ f ih=>
  intro at' seen hf k x y S hS hx hxy
  by_cases h0:at'=0
  ·rw[lvF_nil h0] at hS;cases hS
  rw[lvF_cons h0] at hS ⊢
  obtain⟨a2,ha2⟩:∃a2,a2=nxN nb at' &&& ~~~seen:=⟨_,rfl⟩
  rw[← ha2] at hS ⊢
  have hfu:1024<f+card (seen ||| a2)∨a2=0:=by
   by_cases h2:a2=0
   ·exact .inr h2
   ·left
    obtain⟨z,hz⟩:∃z,a2.getLsbD z=true:=Classical.byContradiction fun hn=>h2 (set_ext' fun k=>⟨fun h=>absurd ⟨k,h⟩ hn,fun h=>absurd h (bit_zero k)⟩)
    have:=card_lt (S:=seen) (T:=seen ||| a2) (z:=z) (fun i hi=>(bit_or _ _ _).2 (.inl hi)) ((bit_or _ _ _).2 (.inr hz)) (by rw[ha2] at hz;exact ((bit_diff _ _ _).1 hz).2)
    rcases hf with h|h
    ·omega
    ·exact absurd h h0
  have hone:∀y,a2.getLsbD y=true→∃T,(at'::lvF nb f a2 (seen ||| a2))[1]?=some T∧T.getLsbD y=true:=fun y hy=>by
   have hne:a2≠0:=fun h=>by rw[h] at hy;exact bit_zero _ hy
   cases f with
   | zero=>
    rcases hfu with h|h
    ·have:=card_le_1024 (seen ||| a2);omega
    ·exact absurd h hne
   | succ f=>exact⟨a2,by rw[List.getElem?_cons_succ,lvF_cons hne,List.getElem?_cons_zero],hy⟩
  cases k with
  | zero=>
   rw[List.getElem?_cons_zero] at hS
   obtain rfl:=Option.some.inj hS
   by_cases hs:seen.getLsbD y=true
   ·exact .inl hs
   ·obtain⟨T,h1,h2⟩:=hone y (by rw[ha2];exact (bit_diff _ _ _).2 ⟨nxN_bit.2 ⟨x,hx,hxy⟩,hs⟩)
    exact .inr ⟨1,T,by omega,h1,h2⟩
  | succ k=>
   rw[List.getElem?_cons_succ] at hS
   rcases ih a2 (seen ||| a2) hfu k x y S hS hx hxy with h|⟨k',T,h1,h2,h3⟩
   ·rcases (bit_or _ _ _).1 h with h|h
    ·exact .inl h
    ·obtain⟨T,h1,h2⟩:=hone y h
     exact .inr ⟨1,T,by omega,h1,h2⟩
   ·exact .inr ⟨k'+1,T,by omega,by rw[List.getElem?_cons_succ];exact h2,h3⟩
theorem lv_far {a:Nat}(ha:a<1024)(q:Nat→Nat)(h0:q 0=a):∀m,(∀i,i<m→(nb (q i:Int)).getLsbD (q (i+1))=true)→∃k T,k≤m∧(lvB nb a)[k]?=some T∧T.getLsbD (q m)=true:=by
 have h1:∀i,(ins 0 (a:Int)).getLsbD i=true↔i=a:=fun i=>by
  rw[bit_ins _ ha]
  exact⟨fun h=>h.resolve_left (bit_zero i),.inr⟩
 have hne:ins 0 (a:Int)≠0:=fun h=>by
  have:=(h1 a).2 rfl
  rw[h] at this;exact bit_zero _ this
 have hz:(lvB nb a)[0]?=some (ins 0 (a:Int)):=by rw[lvB,lvF_cons hne,List.getElem?_cons_zero]
 intro m
 induction m with
 | zero=>intro _;exact⟨0,_,Nat.le_refl _,hz,(h1 _).2 h0⟩
 | succ m ih=>
  intro hw
  obtain⟨k,T,k1,k2,k3⟩:=ih fun i hi=>hw i (by omega)
  rw[lvB] at k2
  rcases lv_succ 1025 _ _ (.inl (by omega)) k (q m) (q (m+1)) T k2 k3 (hw m (Nat.lt_succ_self _)) with h|⟨k',T',m1,m2,m3⟩
  ·exact⟨0,_,by omega,hz,h⟩
  ·exact⟨k',T',by omega,by rw[lvB];exact m2,m3⟩
def farF (L:List BS)(b:Nat):Int:=match L.findIdx? (fun S=>S.getLsbD b) with
 | some i=>(i:Int)
 | none => -1
theorem farF_le {L:List BS}{b k:Nat}{T:BS}(h:L[k]?=some T)(hT:T.getLsbD b=true):0≤farF L b∧farF L b≤k:=by
 rw[farF]
 cases hf:L.findIdx? (fun S=>S.getLsbD b) with
 | none=>
  have:=List.findIdx?_eq_none_iff.1 hf T (List.mem_of_getElem? h)
  rw[hT] at this;cases this
 | some i=>
  obtain⟨h1,h2,h3⟩:=List.findIdx?_eq_some_iff_getElem.1 hf
  refine⟨(show (0:Int)≤(i:Int) by omega),?_⟩
  by_cases hik:i≤k
  ·show (i:Int)≤k;omega
  ·exfalso
   have:=h3 k (by omega)
   obtain⟨hk,he⟩:=List.getElem?_eq_some_iff.1 h
   rw[he,hT] at this
   exact this rfl
theorem farF_some {L:List BS}{b k:Nat}(h:farF L b=(k:Int)):∃T,L[k]?=some T∧T.getLsbD b=true:=by
 rw[farF] at h
 cases hf:L.findIdx? (fun S=>S.getLsbD b) with
 | none=>rw[hf] at h;exact absurd h (by show ¬(-1:Int)=k;omega)
 | some i=>
  obtain⟨h1,h2,_⟩:=List.findIdx?_eq_some_iff_getElem.1 hf
  rw[hf] at h
  have:i=k:=by have h':(i:Int)=k:=h;omega
  subst this
  exact⟨_,List.getElem?_eq_getElem h1,h2⟩
def extF (nb:Int→BS)(a n:Nat):Nat→List Nat→Option (List Nat)
 | 0,_=>none
 | f+1,way=>if way.length=n then (if (nb (way.getLastD 0:Nat)).getLsbD a=true then some way else none)
  else (elems (nb (way.getLastD 0:Nat))).findSome? fun next=>if way.contains next=true∨(n:Int) - way.length<farF (lvB nb a) next then none else extF nb a n f (way++[next])
theorem Cyc.rot {p:Nat→Nat}{n:Nat}(h:Cyc nb p n):Cyc nb (fun i=>if i=n - 1 then p 0 else p (i+1)) n:=by
 have h3:=h.three
 refine⟨h3,fun i j hi hj hij=>?_,fun i hi=>?_,?_⟩
 ·try dsimp only at hij
  split at hij <;> split at hij
  ·omega
  ·have:=h.inj _ _ (by omega) (by omega) hij;omega
  ·have:=h.inj _ _ (by omega) (by omega) hij;omega
  ·have:=h.inj _ _ (by omega) (by omega) hij;omega
 ·try dsimp only
  rw[if_neg (by omega)]
  split
  ·have:=h.last
   rwa [show n - 1=i+1 by omega] at this
  ·exact h.adj (i+1) (by omega)
 ·try dsimp only
  rw[if_pos rfl,if_neg (by omega)]
  exact h.adj 0 (by omega)
theorem Cyc.at {n:Nat}:∀(i:Nat) (p:Nat→Nat),Cyc nb p n→i<n→∃p',Cyc nb p' n∧p' 0=p i∧∀j,j<n→∃j',j'<n∧p' j=p j':=by
 intro i
 induction i with
 | zero=>intro p h _;exact⟨p,h,rfl,fun j hj=>⟨j,hj,rfl⟩⟩
 | succ i ih=>
  intro p h hi
  obtain⟨p',h1,h2,h4⟩:=ih _ h.rot (by omega)
  rw[if_neg (by omega)] at h2
  refine⟨p',h1,h2,fun j hj=>?_⟩
  obtain⟨j',hj',e⟩:=h4 j hj
  split at e
  ·exact⟨0,by omega,e⟩
  ·exact⟨j'+1,by omega,e⟩
theorem least_at (p:Nat→Nat):∀n,0<n→∃i,i<n∧∀j,j<n→p i≤p j:=by
 intro n
 induction n with
 | zero=>intro h;omega
 | succ n ih=>
  intro _
  by_cases h0:n=0
  ·exact⟨0,by omega,fun j hj=>by rw[show j=0 by omega];exact Nat.le_refl _⟩
  obtain⟨i,hi,h⟩:=ih (by omega)
  by_cases hle:p i≤p n
  ·exact⟨i,by omega,fun j hj=>by
    by_cases hjn:j=n
    ·rw[hjn];exact hle
    ·exact h j (by omega)⟩
  ·exact⟨n,by omega,fun j hj=>by
    by_cases hjn:j=n
    ·rw[hjn];exact Nat.le_refl _
    ·have:=h j (by omega);omega⟩
theorem Cyc.least {p:Nat→Nat}{n:Nat}(h:Cyc nb p n):∃p',Cyc nb p' n∧∀j,j<n→p' 0≤p' j:=by
 have h3:=h.three
 obtain⟨i,hi,hm⟩:=least_at p n (by omega)
 obtain⟨p',h1,h2,h4⟩:=Cyc.at i p h hi
 refine⟨p',h1,fun j hj=>?_⟩
 obtain⟨j',hj',e⟩:=h4 j hj
 rw[h2,e]
 exact hm j' hj'
theorem Cyc.within {p:Nat→Nat}{n:Nat}{S:BS}{nb':Int→BS}(h:Cyc nb p n)(hS:∀i,i<n→S.getLsbD (p i)=true)(hn:∀i j:Nat,S.getLsbD i=true→S.getLsbD j=true→(nb (i:Int)).getLsbD j=true→(nb' (i:Int)).getLsbD j=true):Cyc nb' p n:=
 have h3:=h.three
 ⟨h3,h.inj,fun i hi=>hn _ _ (hS i (by omega)) (hS _ hi) (h.adj i hi),hn _ _ (hS _ (by omega)) (hS _ (by omega)) h.last⟩
def girF (nb:Int→BS)(es:List (Nat×Nat)):Int:=es.foldl (fun best e=>let n:=farF (lvB (wo nb e.1 e.2) e.1) e.2;if n ≠ -1∧(best=0∨n+1<best) then n+1 else best) 0
theorem farF_lo (L:List BS)(b:Nat) : -1≤farF L b:=by
 rw[farF];split
 ·show (-1:Int)≤(_:Nat);omega
 ·exact Int.le_refl _
end
theorem farF_none {L:List BS}{b:Nat}:farF L b = -1↔¬(unL L).getLsbD b=true:=by
 constructor
 ·intro h hh
  obtain⟨T,hT,hb⟩:=unL_bit.1 hh
  obtain⟨k,hk,he⟩:=List.getElem_of_mem hT
  have:=farF_le (L:=L) (k:=k) (by rw[List.getElem?_eq_getElem hk,he]) hb
  omega
 ·intro h
  refine Classical.byContradiction fun hn=>?_
  have hlo:=farF_lo L b
  obtain⟨T,hT,hb⟩:=farF_some (L:=L) (b:=b) (k:=(farF L b).toNat) (by omega)
  exact h (unL_bit.2 ⟨T,List.mem_of_getElem? hT,hb⟩)
section
variable {nb:Int→BS}
end
section
variable {g:GT}
def nbW (nb:Int→BS)(S:BS):Int→BS:=fun x=>nb x &&& S
end

def gs (l:List BS)(i:Nat):BS:=(l[i]?).getD 0
theorem gs_get {l:List BS}{i:Nat}(h:i<l.length):l[i]?=some (gs l i):=by simp[gs,h]
def fstS (p:BS→Bool)(l:List BS):Int:=fstN (fun i=>p (gs l i)) l.length
theorem far_fst (L:List BS)(b:Nat):fstS (fun S=>has S (b:Int)) L=farF L b:=by
 rw[fstS,farF]
 rcases fstN_cases (fun i=>has (gs L i) (b:Int)) L.length with ⟨h1,h2⟩|⟨k,hk,h1,h2,h3⟩
 ·have:L.findIdx? (fun S=>S.getLsbD b)=none:=List.findIdx?_eq_none_iff.2 fun S hS=>by
   obtain⟨i,hi,he⟩:=List.getElem_of_mem hS
   have h4:=h2 i hi
   have h5:gs L i=S:=by have:=gs_get hi;rw[List.getElem?_eq_getElem hi,he] at this;exact (Option.some.inj this).symm
   rw[h5] at h4
   cases hb:S.getLsbD b with
   | false=>rfl
   | true=>rw[(has_bit S b).2 hb] at h4;cases h4
  rw[h1,this]
 ·have:L.findIdx? (fun S=>S.getLsbD b)=some k:=by
   rw[List.findIdx?_eq_some_iff_getElem]
   have hg:∀i (hi:i<L.length),L[i]=gs L i:=fun i hi=>by have:=gs_get hi;rw[List.getElem?_eq_getElem hi] at this;exact Option.some.inj this
   refine⟨hk,?_,fun j hj=>?_⟩
   ·rw[hg k hk];exact (has_bit _ b).1 h2
   ·rw[hg j (by omega)]
    intro hh
    have:=h3 j hj
    rw[(has_bit _ b).2 hh] at this;cases this
  rw[h1,this]
theorem indexFuncS_spec {G:Nat→Prop}(l:List BS)(v:Value)(id:FuncId)(caps:Array Value)(p:BS→Bool)(W:World)(hen:Proofs.Enters Tryz.prog id)(h:(Dv (slE setE) G l).p v W)
  (hp:∀w S,Ext W w→Calls Tryz.prog id (#[setV S]++caps) w (Post (E (B (p S))) w)) (hl:l.length≤4096) :
  Calls Tryz.prog 102 #[v,.func (.func id) #[] caps] W (Post (E (I (fstS p l))) W):=by
 refine eN [v,.func (.func id) #[] caps] [Dv (slE setE) G l,E (.func (.func id) #[] caps)] Tryz.func102 Tryz.ntmps102 ?_ fun a hf=>?_
 rotate_left
 rotate_right
 ·exact arg2 h rfl
 have e:=Ext.rfl' W
 refine seq <| regn0 <| tA hf rfl fun a hf=>tl_nil ?_
 repeat refine seq ?_
 refine rgN 3 hf <| st (mv rfl) <| st (lenD U83 (isR rfl)) <| st (mv rfl) <| en fun a w e' hf=>?_
 replace e:=e.tr e'
 refine tl_nil ?_
 replace hf:=hf.keep [0,1,7,8]
 refine blk (loopN (fun r0 a w=>∃(k:Nat) ,r0=l.length - k∧k≤l.length∧Fr 19 a w [(0,Dv (slE setE) G l),(1,E (.func (.func id) #[] caps)),(7,E (I (l.length:Nat))),(8,E (I k))]∧Ext W w∧∀i,i<k→p (gs l i)=false) l.length ⟨0,rfl,by omega,hf,e,(fun i hi=>by omega)⟩ ?_)
 rintro r0 a w ⟨k,rfl,hk,hf,e,Ho⟩
 refine seq <| rgN 1 hf <| st (lss rfl rfl) <| en fun a w e' hf=>?_
 replace e:=e.tr e'
 refine tl_nil <| seq <| ifc hf rfl (fun hc=>wskip ?_) (fun hc=>wexit ?_)
 rotate_left
 rotate_left
 ·have hlt:k<l.length:=by have:=of_decide_eq_true hc;(try dsimp only at this);omega
  replace hf:=hf.keep [0,1,7,8]
  refine seq <| blk <| seq <| rgN 1 hf <| st (mv rfl) <| en fun a w e' hf=>?_
  replace e:=e.tr e'
  refine tA hf rfl fun a hf=>tl_nil <| seq <| rgN 6 hf <| st (mv rfl) <| st (mv rfl) <| st (mv rfl) <| st (idxD U83 S76 (isR rfl) rfl (by omega) (gs_get hlt)) <| st (ldS T76 (isR rfl)) <| st (callV1 hen rfl rfl (fun v w he h=>by cases h;exact hp w _ (Ext.tr e he))) ?_
  refine en fun a w e' hf=>?_
  replace e:=e.tr e'
  refine tl_nil <| ifc hf rfl (fun hb=>?_) (fun hb=>?_)
  ·refine seq <| rgN 1 hf <| st (mv rfl) <| en fun a w e' hf=>?_
   replace e:=e.tr e'
   refine tA hf rfl fun a hf=>tl_nil <| wret <| ret1 rfl hf rfl ?_
   rintro _ rfl
   exact⟨_,rfl,e,congrArg I (fstN_hit hlt Ho hb).symm⟩
  ·refine wskip <| rgN 1 hf <| st ((add rfl rfl (by omega)).eq (congrArg (Value.int .i64) (show (k:Int)+1=((k+1:Nat):Int) from rfl))) <| en fun a w e' hf=>?_
   replace e:=e.tr e'
   refine tP hf (mv rfl) fun a w e' hf=>?_
   replace e:=e.tr e'
   refine tl_nil ?_
   replace hf:=hf.keep [0,1,7,8]
   refine⟨_,?_,k+1,rfl,by omega,hf,e,?_⟩
   ·omega
   intro i hi
   by_cases hk:i=k
   ·subst hk;exact hb
   ·exact Ho i (by omega)
 ·obtain rfl:k=l.length:=by have:=of_decide_eq_false hc;(try dsimp only at this);omega
  refine seq <| regn0 <| tA hf rfl fun a hf=>tl_nil <| wret <| ret1 rfl hf rfl ?_
  rintro _ rfl
  exact⟨_,rfl,e,congrArg I (fstN_none Ho).symm⟩
theorem far1_spec (S:BS)(b:Int)(c:Nat)(W:World)(hc:Blk W c #[I b] 3):Calls Tryz.prog 103 #[setV S,ptr c] W (Post (E (B (has S b))) W):=by
 refine eN [setV S,ptr c] [E (setV S),E (ptr c)] Tryz.func103 Tryz.ntmps103 ?_ fun a hf=>?_
 rotate_left
 rotate_right
 ·exact arg2 rfl rfl
 have e:=Ext.rfl' W
 refine seq <| regn0 <| tB hf rfl fun a b2 w v2 hv2 e' hb2 hs2 B2 hf=>?_
 obtain⟨e,hc⟩:=up2 e' e hc
 refine tA hf rfl fun a hf=>tl_nil ?_
 cases hv2
 replace B2:Blk w b2 (setC S) 76:=B2
 refine seq <| rgN 3 hf <| st ((ldW T76 rfl B2 rfl).eq ((rfl:_=setV S))) <| st (ld1 (v:=I b) T3 rfl hc rfl) <| st (call2 (A:=E (B (has S b))) (B:=E (setV S)) (C:=E (I b)) En75 rfl rfl (fun v u w he h h'=>by cases h;cases h';exact has_spec _ _ w)) ?_
 refine en fun a w e' hf=>?_
 obtain⟨e,hc,B2⟩:=up3 e' e hc B2
 refine tA hf rfl fun a hf=>tl_nil <| wret <| ret1 rfl hf rfl ?_
 rintro _ rfl
 exact⟨_,rfl,e,rfl⟩
theorem far_spec {G:Nat→Prop}(L:List BS)(b:Nat)(v:Value)(W:World)(h:(Dv (slE setE) G L).p v W)(hl:L.length≤4096):Calls Tryz.prog 50 #[v,I (b:Nat)] W (Post (E (I (farF L b))) W):=by
 have hv:(Dv (slE setE) G0 L).p v W:=Dv.weak h fun b _ hb=>hb.elim
 refine eN [v,I (b:Nat)] [E v,E (I (b:Nat))] Tryz.func50 Tryz.ntmps50 ?_ fun a hf=>?_
 rotate_left
 rotate_right
 ·exact arg2 rfl rfl
 have e:=Ext.rfl' W
 refine seq <| regn0 <| tB hf rfl fun a b3 w v3 hv3 e' hb3 hs3 B3 hf=>?_
 replace e:=e.tr e'
 refine tA hf rfl fun a hf=>tl_nil ?_
 cases hv3
 replace B3:Blk w b3 #[I (b:Nat)] 3:=B3
 replace hf:=hf.keep [0,3]
 have e1:=e
 refine seq <| rgN 3 hf <| st (mv rfl) <| st (makeF1 rfl) <| st (call2 (A:=E (I (farF L b))) (B:=E v) (C:=E (.func (.func 103) #[] #[ptr b3])) En102 rfl rfl (fun u u' w he k1 k2=>by cases k1;cases k2;rw[← far_fst];exact indexFuncS_spec L v _ _ (fun S=>has S (b:Int)) w En103 (VA.st _ _ _ _ (Ext.tr e1 he) hv) (fun w' S he'=>far1_spec S (b:Int) b3 w' (B3.ext (Ext.tr he he'))) hl)) ?_
 refine en fun a w e' hf=>?_
 obtain⟨e,B3⟩:=up2 e' e B3
 refine tA hf rfl fun a hf=>tl_nil <| wret <| ret1 rfl hf rfl ?_
 rintro _ rfl
 exact⟨_,rfl,e,rfl⟩
def edV (x:Int×Int):Value:=.agg #[.int .i64 x.1,.int .i64 x.2]
theorem Dv.pr2 {G:Nat→Prop}{w:World}{x:Int×Int}{v:Value}:(Dv edE G x).p v w↔v=edV x:=by
 constructor
 ·rintro⟨cs,⟨c,d,h,h1,h2⟩,hv⟩
  cases h1;cases h2;subst h
  exact hv
 ·rintro rfl
  exact⟨_,⟨_,_,rfl,rfl,rfl⟩,rfl⟩
theorem isE2 {L:Env}{w0:World}{x:Operand}{G:Nat→Prop}{n:Int×Int}(h:opd L x=some (E (edV n))):Is L w0 x (Dv edE G n):=isE h (Dv.pr2.2 rfl)
theorem ldE2 {P:Program}{w0:World}{L:Env}{dst:Option Tmp}{ty:TypeId}{pos:String}{aft:Array Edge}{g:Option (Nat×Bool)}{t:TypeId}{x:Operand}{G:Nat→Prop}{n:Int×Int}(ht:TI P t true 2)(hx:Is L w0 x (Dv (ptE edE) G (some n))):OpC P w0 L ⟨dst,.load t x,ty,pos,aft,g⟩ (E (edV n)):=(ldD (e:=edE) ht hx).conv fun v w=>Dv.pr2.1
theorem bPr (x:Int×Int):Tryz.prog.built 60 [(0,.int .i64 x.1),(1,.int .i64 x.2)]=some #[.int .i64 x.1,.int .i64 x.2]:=by kernel_rfl
theorem ends_spec {G:Nat→Prop}{N:Nat}(g:GT)(v:Value)(W:World)(h:(Dv (ptE (grE N)) G (some g)).p v W)(hs:g.2.Pairwise fun x y=>lt2 x.1 y.1=true)(hl:g.2.length≤100000)(hN:N≤1000000) :
  Calls Tryz.prog 48 #[v] W (Post (OwA edE 60 W.heap.size G0 (g.2.map (·.1))) W):=by
 have hgd:(Dv (ptE (grE N)) G0 (some g)).p v W:=Dv.weak h fun b _ hb=>hb.elim
 refine eN [v] [E v] Tryz.func48 Tryz.ntmps48 ?_ fun a hf=>?_
 rotate_left
 rotate_right
 ·exact arg1 rfl
 have e:=Ext.rfl' W
 refine seq <| regn0 <| tA hf rfl fun a hf=>tl_nil <| seq <| regn0 <| tA hf rfl fun a hf=>tl_nil ?_
 have e0:=e
 obtain⟨N1,hN1⟩:∃N1,N1=W.heap.size:=⟨_,rfl⟩
 have hN1s:N1≤W.heap.size:=Nat.le_of_eq hN1
 have hWN:W.heap.size≤N1:=Nat.le_of_eq hN1.symm
 repeat refine seq ?_
 refine rgN 4 hf <| st (mv rfl) <| st (call1 (A:=OwA etE 62 N1 G0 g.2) En101 rfl (fun v w he k=>by cases k;exact (edges_spec (G:=G0) g _ w (VA.st _ _ _ _ (Ext.tr e0 he) hgd) (fun b hb=>hb.elim) hs hl hN).mono fun en w' ⟨u,k1,k2,k3⟩=>⟨u,k1,k2,OwR.low k3 (Nat.le_trans hN1s he.size) fun b hb=>hb.elim⟩)) ?_
 refine st (lenD U61 ⟨_,rfl,fun v w _ h=>OwR.sl h⟩) <| st (mv rfl) <| en fun a w e' hf=>?_
 replace e:=e.tr e'
 refine tl_nil ?_
 obtain⟨ev,HoE,hf⟩:=hf.opn 7 rfl
 replace HoE:OwR etE 62 N1 G0 w g.2 ev:=HoE
 obtain⟨N2,hN2⟩:∃N2,N2=w.heap.size:=⟨_,rfl⟩
 have lp:∀b,ev.ownBlock=some b→b<N2:=fun b hb=>by rw[hN2];exact (HoE.lt hb).2
 have Ho:OwR edE 60 N2 G0 w [] (.slice none 0 0):=OwR.nil edE _ (Nat.le_of_eq hN2) fun b hb=>hb.elim
 have hWN2:W.heap.size≤N2:=by rw[hN2];exact e.size
 replace hf:=hf.keep [3,7,8,9]
 replace hf:=hf.keep [3,7,8,9]
 refine blk (loopN (fun r0 a w=>∃(j:Nat) (u:Value),r0=g.2.length - j∧j≤g.2.length∧Fr 23 a w [(3,E u),(7,E ev),(8,E (I (g.2.length:Nat))),(9,E (I j))]∧Ext W w∧OwR etE 62 N1 G0 w g.2 ev∧OwR edE 60 N2 G0 w ((g.2.take j).map (·.1)) u) g.2.length ⟨0,.slice none 0 0,rfl,by omega,hf,e,⟨HoE,Ho⟩⟩ ?_)
 rintro r0 a w ⟨j,u,rfl,hj,hf,e,HoE,Ho⟩
 refine seq <| rgN 1 hf <| st (lss rfl rfl) <| en fun a w e' hf=>?_
 obtain⟨HoE,Ho,e⟩:=up3 e' HoE Ho e
 refine tl_nil <| seq <| ifc hf rfl (fun hc=>wskip ?_) (fun hc=>wexit ?_)
 rotate_left
 rotate_left
 ·have hltj:j<g.2.length:=by have:=of_decide_eq_true hc;(try dsimp only at this);omega
  replace hf:=hf.keep [3,7,8,9]
  refine seq <| blk ?_
  have hy:=List.getElem?_eq_getElem hltj
  generalize g.2[j]=x at hy
  have hsc:(g.2.take (j+1)).map (·.1)=(g.2.take j).map (·.1)++[x.1]:=by rw[take_succ_get hy,List.map_append];rfl
  have hlo:((g.2.take j).map (·.1)).length≤100000:=by rw[List.length_map];exact Nat.le_trans (List.length_take_le' _ _) hl
  generalize (g.2.take j).map (·.1)=out at hsc hlo Ho
  refine seq <| regn0 <| tP hf (idxD U61 S62 (isE rfl (HoE.slN (N:=G0) fun b hb hh=>hh)) rfl (by omega) (hy)) fun a w e' hf=>?_
  obtain⟨e,HoE,Ho⟩:=up3 e' e HoE Ho
  refine tP hf (ldEt T62 (isR rfl)) fun a w e' hf=>?_
  obtain⟨e,HoE,Ho⟩:=up3 e' e HoE Ho
  refine tL I62 hf fun a b5 w e' hb5 hs5 B5 hf=>?_
  have hle5:=Nat.le_trans e.size (Nat.le_of_eq hb5.symm)
  have ne5_HoE:=HoE.ne_new hb5
  have ne5_Ho:=Ho.ne_new hb5
  obtain⟨e,HoE,Ho⟩:=up3 e' e HoE Ho
  have hr5:=ne5_HoE
  have hu5:=ne5_Ho
  have hW5:W.heap.size≤b5:=hle5
  replace hf:=hf.kp [3,5,7,8,9,12]
  refine tl_stW T62 hf rfl rfl (etV_one x) B5 rfl rfl fun w hg hsz B5 hf=>?_
  replace e:=e.gr hg (by omega);replace HoE:=HoE.grE hg hr5;replace Ho:=Ho.grE hg hu5;clear hg
  refine tl_nil ?_
  replace hf:=hf.kp [3,5,7,8,9]
  refine rgN 7 hf <| st (mv rfl) <| st (fA U62 rfl T3 rfl) <| st (ld1 T3 rfl B5 rfl) <| st (fA U62 rfl T3 rfl) <| st (ld1 T3 rfl B5 rfl) <| st (bldV [(0,_),(1,_)] rfl (bPr x.1)) <| st (bsl1 U31 I60 rfl (by decide) rfl Ho.avs (isE2 rfl)) <| en fun a w e' hf=>?_
  obtain⟨HoE,B5,Ho,e⟩:=up4 e' HoE B5 Ho e
  haveI hin:∀G0,InR (GB W G0) _:=OwR.inGB (W:=W) Ho (by omega)
  refine tl_app U31 I60 rfl rfl hf (by decide) rfl Ho (isR rfl) (by simp only[List.length_singleton];omega) (by simp only[List.length_singleton,maxLen];omega) fun a v w hg hat Hn hf=>?_
  replace e:=e.gro hg (Ho.row (W:=W) (by omega))
  have hrow:=Ho.row (W:=W) (by omega)
  replace HoE:=HoE.groE hg (fun b hb hh=>by have h1:=hrow b hh;have h2:=lp b hb;have h3:=(Ho.lt hh).1;omega)
  replace B5:=B5.gro hg hu5
  replace Ho:=Hn
  replace Ho:=Hn;clear Hn hg hat hin
  refine tA hf rfl fun a hf=>tl_nil ?_
  rw[← hsc] at Ho
  replace hf:=hf.keep [3,7,8,9]
  refine rgN 1 hf <| st ((add rfl rfl (by omega)).eq (congrArg (Value.int .i64) (show (j:Int)+1=((j+1:Nat):Int) from rfl))) <| en fun a w e' hf=>?_
  obtain⟨HoE,Ho,e⟩:=up3 e' HoE Ho e
  refine tP hf (mv rfl) fun a w e' hf=>?_
  obtain⟨HoE,Ho,e⟩:=up3 e' HoE Ho e
  refine tl_nil ?_
  replace hf:=hf.keep [3,7,8,9]
  refine⟨_,?_,j+1,_,rfl,by omega,hf,e,?_⟩
  ·omega
  exact⟨HoE,Ho⟩
 ·obtain rfl:j=g.2.length:=by have:=of_decide_eq_false hc;(try dsimp only at this);omega
  rw[List.take_length] at Ho
  replace hf:=hf.keep [3]
  refine seq <| rgN 1 hf <| st (mv rfl) <| en fun a w e' hf=>?_
  obtain⟨Ho,e⟩:=up2 e' Ho e
  refine tA hf rfl fun a hf=>tl_nil <| wret <| ret1 rfl hf rfl ?_
  rintro _ rfl
  exact⟨_,rfl,e,Ho.low hWN2 fun b hb=>hb.elim⟩
theorem eq_takeG {α:Type}{xs ys:List α}{k:Nat}{x y:α}(h:xs.take k=ys.take k)(hx:xs[k]?=some x)(hy:ys[k]?=some y):(xs.take (k+1)=ys.take (k+1))↔x=y:=by
 rw[take_succ_get hx,take_succ_get hy,h]
 simp
theorem same07_spec {G G':Nat→Prop}(xs ys:List Int)(v u:Value)(W:World)(h:(Dv (slE intE) G xs).p v W)(h':(Dv (slE intE) G' ys).p u W)(hl:xs.length≤100000)(hl':ys.length≤100000) :
  Calls Tryz.prog 16 #[v,u] W (Post (E (B (decide (xs=ys)))) W):=by
 refine eN [v,u] [Dv (slE intE) G0 xs,Dv (slE intE) G0 ys] Tryz.func16 Tryz.ntmps16 ?_ fun a hf=>?_
 rotate_left
 rotate_right
 ·exact arg2 (Dv.weak h fun b _ hb=>hb.elim) (Dv.weak h' fun b _ hb=>hb.elim)
 have e:=Ext.rfl' W
 refine seq <| regn0 <| tA hf rfl fun a hf=>tl_nil ?_
 repeat refine seq ?_
 refine rgN 5 hf <| st (mv rfl) <| st (lenD U35 (isR rfl)) <| st (mv rfl) <| st (lenD U35 (isR rfl)) <| st (neq rfl rfl) <| en fun a w e' hf=>?_
 replace e:=e.tr e'
 refine tl_nil <| ifc hf rfl (fun hb=>?_) (fun hb=>?_)
 ·have hne:xs≠ys:=fun he=>by rw[he] at hb;simp at hb
  refine seq <| regn0 <| tA hf rfl fun a hf=>tl_nil <| wret <| ret1 rfl hf rfl ?_
  rintro _ rfl
  exact⟨_,rfl,e,congrArg B (decide_eq_false hne).symm⟩
 have hll:xs.length=ys.length:=by simp at hb;omega
 refine wskip ?_
 repeat refine seq ?_
 refine regn0 <| tA hf rfl fun a hf=>tl_nil ?_
 replace hf:=hf.keep [0,1,5]
 refine blk (loopN (fun r0 a w=>∃(k:Nat) ,r0=xs.length - k∧k≤xs.length∧Fr 26 a w [(0,Dv (slE intE) G0 xs),(1,Dv (slE intE) G0 ys),(5,E (I k))]∧Ext W w∧xs.take k=ys.take k) xs.length ⟨0,rfl,by omega,hf,e,rfl⟩ ?_)
 rintro r0 a w ⟨k,rfl,hk,hf,e,ht⟩
 repeat refine seq ?_
 refine rgN 4 hf <| st (mv rfl) <| st (mv rfl) <| st (lenD U35 (isR rfl)) <| st (lss rfl rfl) <| en fun a w e' hf=>?_
 replace e:=e.tr e'
 refine tl_nil <| ifc hf rfl (fun hc=>wskip ?_) (fun hc=>wexit ?_)
 rotate_left
 rotate_left
 ·have hlt:k<xs.length:=by have:=of_decide_eq_true hc;(try dsimp only at this);omega
  replace hf:=hf.keep [0,1,5]
  refine seq <| blk ?_
  have hx:=gi_get hlt
  have hy:=gi_get (show k<ys.length by omega)
  refine seq <| rgG 9 Mix.mix hf <| st (mv rfl) <| st (mv rfl) <| st (idxD U35 S3 (isR rfl) rfl (by omega) (hx)) <| st (ldI T3 (isR rfl)) <| st (mv rfl) <| st (mv rfl) <| st (idxD U35 S3 (isR rfl) rfl (by omega) (hy)) <| st (ldI T3 (isR rfl)) <| st (neq rfl rfl) <| en fun a w e' hf=>?_
  replace e:=e.tr e'
  refine tl_nil <| ifc hf rfl (fun hb=>?_) (fun hb=>?_)
  ·have hne:xs≠ys:=fun he=>by rw[he] at hb;simp at hb
   refine seq <| regn0 <| tA hf rfl fun a hf=>tl_nil <| wret <| ret1 rfl hf rfl ?_
   rintro _ rfl
   exact⟨_,rfl,e,congrArg B (decide_eq_false hne).symm⟩
  ·refine wskip <| rgN 2 hf <| st (mv rfl) <| st ((add rfl rfl (by omega)).eq (congrArg (Value.int .i64) (show (k:Int)+1=((k+1:Nat):Int) from rfl))) <| en fun a w e' hf=>?_
   replace e:=e.tr e'
   refine tA hf rfl fun a hf=>tl_nil ?_
   replace hf:=hf.keep [0,1,5]
   refine⟨_,?_,k+1,rfl,by omega,hf,e,?_⟩
   ·omega
   exact (eq_take ht hlt (by omega)).2 (by simpa using hb)
 ·obtain rfl:k=xs.length:=by have:=of_decide_eq_false hc;(try dsimp only at this);omega
  have he:xs=ys:=by rw[List.take_length,hll,List.take_length] at ht;exact ht
  refine seq <| regn0 <| tA hf rfl fun a hf=>tl_nil <| wret <| ret1 rfl hf rfl ?_
  rintro _ rfl
  exact⟨_,rfl,e,congrArg B (decide_eq_true he).symm⟩
theorem all07_spec {G G':Nat→Prop}(xs ys:List (List Int))(v u:Value)(W:World)(h:(Dv (slE (slE intE)) G xs).p v W)(h':(Dv (slE (slE intE)) G' ys).p u W)(hl:xs.length≤100000)(hl':ys.length≤100000)(hx1:∀x∈xs,x.length≤100000)(hy1:∀x∈ys,x.length≤100000) :
  Calls Tryz.prog 20 #[v,u] W (Post (E (B (decide (xs=ys)))) W):=by
 refine eN [v,u] [Dv (slE (slE intE)) G0 xs,Dv (slE (slE intE)) G0 ys] Tryz.func20 Tryz.ntmps20 ?_ fun a hf=>?_
 rotate_left
 rotate_right
 ·exact arg2 (Dv.weak h fun b _ hb=>hb.elim) (Dv.weak h' fun b _ hb=>hb.elim)
 have e:=Ext.rfl' W
 refine seq <| regn0 <| tA hf rfl fun a hf=>tl_nil ?_
 repeat refine seq ?_
 refine rgN 5 hf <| st (mv rfl) <| st (lenD U39 (isR rfl)) <| st (mv rfl) <| st (lenD U39 (isR rfl)) <| st (neq rfl rfl) <| en fun a w e' hf=>?_
 replace e:=e.tr e'
 refine tl_nil <| ifc hf rfl (fun hb=>?_) (fun hb=>?_)
 ·have hne:xs≠ys:=fun he=>by rw[he] at hb;simp at hb
  refine seq <| regn0 <| tA hf rfl fun a hf=>tl_nil <| wret <| ret1 rfl hf rfl ?_
  rintro _ rfl
  exact⟨_,rfl,e,congrArg B (decide_eq_false hne).symm⟩
 have hll:xs.length=ys.length:=by simp at hb;omega
 refine wskip ?_
 repeat refine seq ?_
 refine regn0 <| tA hf rfl fun a hf=>tl_nil ?_
 replace hf:=hf.keep [0,1,5]
 refine blk (loopN (fun r0 a w=>∃(k:Nat) ,r0=xs.length - k∧k≤xs.length∧Fr 27 a w [(0,Dv (slE (slE intE)) G0 xs),(1,Dv (slE (slE intE)) G0 ys),(5,E (I k))]∧Ext W w∧xs.take k=ys.take k) xs.length ⟨0,rfl,by omega,hf,e,rfl⟩ ?_)
 rintro r0 a w ⟨k,rfl,hk,hf,e,ht⟩
 repeat refine seq ?_
 refine rgN 4 hf <| st (mv rfl) <| st (mv rfl) <| st (lenD U39 (isR rfl)) <| st (lss rfl rfl) <| en fun a w e' hf=>?_
 replace e:=e.tr e'
 refine tl_nil <| ifc hf rfl (fun hc=>wskip ?_) (fun hc=>wexit ?_)
 rotate_left
 rotate_left
 ·have hlt:k<xs.length:=by have:=of_decide_eq_true hc;(try dsimp only at this);omega
  replace hf:=hf.keep [0,1,5]
  refine seq <| blk ?_
  have hx:=List.getElem?_eq_getElem hlt
  have hy:=List.getElem?_eq_getElem (show k<ys.length by omega)
  have hxl:=hx1 _ (List.getElem_mem hlt)
  have hyl:=hy1 _ (List.getElem_mem (show k<ys.length by omega))
  have ha:∀x y,xs[k]?=some x→ys[k]?=some y→((xs.take (k+1)=ys.take (k+1))↔x=y):=fun x y hx hy=>eq_takeG ht hx hy
  generalize xs[k]=x at hx hxl
  generalize ys[k]=y at hy hyl
  have ha:=ha x y hx hy
  refine seq <| rgG 10 Mix.mix hf <| st (mv rfl) <| st (mv rfl) <| st (idxD U39 S35 (isR rfl) rfl (by omega) (hx)) <| st (ldD T35 (isR rfl)) <| st (mv rfl) <| st (mv rfl) <| st (idxD U39 S35 (isR rfl) rfl (by omega) (hy)) <| st (ldD T35 (isR rfl)) <| st (call2 (A:=E (B (decide (x=y)))) (B:=Dv (slE intE) G0 x) (C:=Dv (slE intE) G0 y) En16 rfl rfl (fun v u w he h h'=>same07_spec x y v u w h h' hxl hyl)) <| st (notp rfl) <| en fun a w e' hf=>?_
  replace e:=e.tr e'
  refine tl_nil <| ifc hf rfl (fun hb=>?_) (fun hb=>?_)
  ·have hne:xs≠ys:=fun he=>by
    rw[he] at hx
    rw[hx] at hy
    cases hy
    simp at hb
   refine seq <| regn0 <| tA hf rfl fun a hf=>tl_nil <| wret <| ret1 rfl hf rfl ?_
   rintro _ rfl
   exact⟨_,rfl,e,congrArg B (decide_eq_false hne).symm⟩
  ·refine wskip <| rgN 2 hf <| st (mv rfl) <| st ((add rfl rfl (by omega)).eq (congrArg (Value.int .i64) (show (k:Int)+1=((k+1:Nat):Int) from rfl))) <| en fun a w e' hf=>?_
   replace e:=e.tr e'
   refine tA hf rfl fun a hf=>tl_nil ?_
   replace hf:=hf.keep [0,1,5]
   refine⟨_,?_,k+1,rfl,by omega,hf,e,?_⟩
   ·omega
   exact ha.2 (by simpa using hb)
 ·obtain rfl:k=xs.length:=by have:=of_decide_eq_false hc;(try dsimp only at this);omega
  have he:xs=ys:=by rw[List.take_length,hll,List.take_length] at ht;exact ht
  refine seq <| regn0 <| tA hf rfl fun a hf=>tl_nil <| wret <| ret1 rfl hf rfl ?_
  rintro _ rfl
  exact⟨_,rfl,e,congrArg B (decide_eq_true he).symm⟩
theorem run_eqPr {P:Program}{t e:TypeId}(ht:P.underlying t=some (.array 2 e))(he:P.underlying e=some (.int .i64))(hs:TI P e false 1)(a b:Int×Int)(w:World):(Op.equal t (edV a) (edV b)).run P w=.ok (decide (a=b)) w:=by
 obtain⟨a1,a2⟩:=a
 obtain⟨b1,b2⟩:=b
 have p0:∀x y w,(part e #[x,y] 0).run P w=.ok x w:=fun x y w=>by simp[part,hs.agg]
 have p1:∀x y w,(part e #[x,y] 1).run P w=.ok y w:=fun x y w=>by simp[part,hs.agg]
 have q:∀x y w,(Op.equalIn 9999 e (I x) (I y)).run P w=.ok (x==y) w:=fun x y w=>run_equalIn_int w 9998 e .i64 .i64 x y he
 show (Op.equalIn 10000 t (.agg #[I a1,I a2]) (.agg #[I b1,I b2])).run P w=_
 rw[Op.equalIn]
 simp only[Sem.run_bind,run_underlying ht,Result.andThen_ok,hs.size]
 rw[Std.Legacy.Range.forIn_eq_forIn_range']
 simp only[Std.Legacy.Range.size,Nat.sub_zero,Nat.add_one_sub_one,Nat.div_one,List.range',List.forIn_cons,List.forIn_nil,Sem.run_bind,Nat.mul_one,p0,p1,q,Result.andThen_ok]
 by_cases h1:a1=b1
 ·by_cases h2:a2=b2
  ·rw[decide_eq_true (by rw[h1,h2])];simp[h1,h2,p0,p1,q]
  ·rw[decide_eq_false (fun h=>h2 (Prod.mk.inj h).2)];simp[h1,h2,p0,p1,q]
 ·rw[decide_eq_false (fun h=>h1 (Prod.mk.inj h).1)];simp[h1]
theorem neqPr {P:Program}{w0:World}{L:Env}{dst:Option Tmp}{ty:TypeId}{pos:String}{aft:Array Edge}{g:Option (Nat×Bool)}{t yt e:TypeId}{x y:Operand}{a b:Int×Int}(ht:P.underlying t=some (.array 2 e))(he:P.underlying e=some (.int .i64))(hs:TI P e false 1)(hm:P.eqGuardType P.depth t=false)(hx:opd L x=some (E (edV a)))(hy:opd L y=some (E (edV b))) :
  OpC P w0 L ⟨dst,.binOp .neq t x y yt,ty,pos,aft,g⟩ (E (.bool (!decide (a=b)))):=
 opc_neq hx hy (fun w=>eqGuard_agg _ _ _ _ _ _ hm w) rfl fun w _=>run_eqPr ht he hs a b w
theorem pairs07_spec {G G':Nat→Prop}(xs ys:List (Int×Int))(v u:Value)(W:World)(h:(Dv (slE edE) G xs).p v W)(h':(Dv (slE edE) G' ys).p u W)(hl:xs.length≤100000)(hl':ys.length≤100000) :
  Calls Tryz.prog 13 #[v,u] W (Post (E (B (decide (xs=ys)))) W):=by
 refine eN [v,u] [Dv (slE edE) G0 xs,Dv (slE edE) G0 ys] Tryz.func13 Tryz.ntmps13 ?_ fun a hf=>?_
 rotate_left
 rotate_right
 ·exact arg2 (Dv.weak h fun b _ hb=>hb.elim) (Dv.weak h' fun b _ hb=>hb.elim)
 have e:=Ext.rfl' W
 refine seq <| regn0 <| tA hf rfl fun a hf=>tl_nil ?_
 repeat refine seq ?_
 refine rgN 5 hf <| st (mv rfl) <| st (lenD U31 (isR rfl)) <| st (mv rfl) <| st (lenD U31 (isR rfl)) <| st (neq rfl rfl) <| en fun a w e' hf=>?_
 replace e:=e.tr e'
 refine tl_nil <| ifc hf rfl (fun hb=>?_) (fun hb=>?_)
 ·have hne:xs≠ys:=fun he=>by rw[he] at hb;simp at hb
  refine seq <| regn0 <| tA hf rfl fun a hf=>tl_nil <| wret <| ret1 rfl hf rfl ?_
  rintro _ rfl
  exact⟨_,rfl,e,congrArg B (decide_eq_false hne).symm⟩
 have hll:xs.length=ys.length:=by simp at hb;omega
 refine wskip ?_
 repeat refine seq ?_
 refine regn0 <| tA hf rfl fun a hf=>tl_nil ?_
 replace hf:=hf.keep [0,1,5]
 refine blk (loopN (fun r0 a w=>∃(k:Nat) ,r0=xs.length - k∧k≤xs.length∧Fr 26 a w [(0,Dv (slE edE) G0 xs),(1,Dv (slE edE) G0 ys),(5,E (I k))]∧Ext W w∧xs.take k=ys.take k) xs.length ⟨0,rfl,by omega,hf,e,rfl⟩ ?_)
 rintro r0 a w ⟨k,rfl,hk,hf,e,ht⟩
 repeat refine seq ?_
 refine rgN 4 hf <| st (mv rfl) <| st (mv rfl) <| st (lenD U31 (isR rfl)) <| st (lss rfl rfl) <| en fun a w e' hf=>?_
 replace e:=e.tr e'
 refine tl_nil <| ifc hf rfl (fun hc=>wskip ?_) (fun hc=>wexit ?_)
 rotate_left
 rotate_left
 ·have hlt:k<xs.length:=by have:=of_decide_eq_true hc;(try dsimp only at this);omega
  replace hf:=hf.keep [0,1,5]
  refine seq <| blk ?_
  have hx:=List.getElem?_eq_getElem hlt
  have hy:=List.getElem?_eq_getElem (show k<ys.length by omega)
  have ha:∀x y,xs[k]?=some x→ys[k]?=some y→((xs.take (k+1)=ys.take (k+1))↔x=y):=fun x y hx hy=>eq_takeG ht hx hy
  generalize xs[k]=x at hx
  generalize ys[k]=y at hy
  have ha:=ha x y hx hy
  refine seq <| rgG 9 Mix.mix hf <| st (mv rfl) <| st (mv rfl) <| st (idxD U31 S60 (isR rfl) rfl (by omega) (hx)) <| st (ldE2 T60 (isR rfl)) <| st (mv rfl) <| st (mv rfl) <| st (idxD U31 S60 (isR rfl) rfl (by omega) (hy)) <| st (ldE2 T60 (isR rfl)) <| st (neqPr U60 U3 T3 (by kernel_rfl) rfl rfl) <| en fun a w e' hf=>?_
  replace e:=e.tr e'
  refine tl_nil <| ifc hf rfl (fun hb=>?_) (fun hb=>?_)
  ·have hne:xs≠ys:=fun he=>by
    rw[he] at hx
    rw[hx] at hy
    cases hy
    simp at hb
   refine seq <| regn0 <| tA hf rfl fun a hf=>tl_nil <| wret <| ret1 rfl hf rfl ?_
   rintro _ rfl
   exact⟨_,rfl,e,congrArg B (decide_eq_false hne).symm⟩
  ·refine wskip <| rgN 2 hf <| st (mv rfl) <| st ((add rfl rfl (by omega)).eq (congrArg (Value.int .i64) (show (k:Int)+1=((k+1:Nat):Int) from rfl))) <| en fun a w e' hf=>?_
   replace e:=e.tr e'
   refine tA hf rfl fun a hf=>tl_nil ?_
   replace hf:=hf.keep [0,1,5]
   refine⟨_,?_,k+1,rfl,by omega,hf,e,?_⟩
   ·omega
   exact ha.2 (by simpa using hb)
 ·obtain rfl:k=xs.length:=by have:=of_decide_eq_false hc;(try dsimp only at this);omega
  have he:xs=ys:=by rw[List.take_length,hll,List.take_length] at ht;exact ht
  refine seq <| regn0 <| tA hf rfl fun a hf=>tl_nil <| wret <| ret1 rfl hf rfl ?_
  rintro _ rfl
  exact⟨_,rfl,e,congrArg B (decide_eq_true he).symm⟩
def frM (g:GT):GT×Bool:=if (decide ((7:Int)<(g.1.length:Nat)) || decide ((10:Int)<(g.2.length:Nat)))=true then (g,false) else if (ofR g.1 g.2).2≠0 then (g,false) else ((ofR g.1 g.2).1,true)
noncomputable def FrM (g:GT):VA:=⟨fun v w=>((frM g).2=true→(Dv (ptE (grE 2000)) G0 (some (frM g).1)).p v w)∧((frM g).2=false→v=.pointer none),fun v w w' e h=>⟨fun hc=>Dv.ex (h.1 hc) e,h.2⟩⟩
theorem made07_spec {G:Nat→Prop}(g:GT)(v:Value)(W:World)(h:(Dv gtE G g).p v W)(hV:∀x∈g.1,0≤x.2.1∧x.2.1<256)(hE:∀x∈g.2,0≤x.2.1∧x.2.1<256) :
  Calls Tryz.prog 11 #[v] W (Post (Tup [FrM g,Dv gtE G0 (frM g).1]) W):=by
 obtain⟨u1,u2,rfl,h1,h2⟩:=Dv.gt.1 (Dv.weak (G':=G0) h fun b _ hb=>hb.elim)
 have h1b:=Dv.toB h1
 have h2b:=Dv.toB h2
 have hgb:(Dv gtE (GB W G0) g).p (.agg #[u1,u2]) W:=Dv.gt.2 ⟨_,_,rfl,h1b,h2b⟩
 refine eN [.agg #[u1,u2]] [E (.agg #[u1,u2])] Tryz.func11 Tryz.ntmps11 ?_ fun a hf=>?_
 rotate_left
 dsimp only[params,Nat.reduceAdd] at hf
 rotate_right
 ·exact arg1 rfl
 have e:=Ext.rfl' W
 refine seq <| regn0 <| tB hf rfl fun a b1 w v1 hv1 e' hb1 hs1 B1 hf=>?_
 replace e:=e.tr e'
 refine tA hf rfl fun a hf=>tL I25 hf fun a b3 w e' hb3 hs3 B3 hf=>?_
 obtain⟨e,B1⟩:=up2 e' e B1
 refine tl_nil ?_
 cases hv1
 repeat refine seq ?_
 refine rgN 10 hf <| st (fA U25 rfl T22 rfl) <| st (ld1 T22 rfl (by assumption) rfl) <| st (lenD U22 (isE rfl (VA.st _ _ _ _ e h1))) <| st (gtr rfl rfl) <| st (mv rfl) <| sgE rfl rfl (.k 1 rfl .n) (fun hgd=>fA U25 rfl T23 rfl) <| sgE rfl rfl (.c 17 rfl (fun h=>h) .n) (fun hgd=>ld1 T23 rfl (by assumption) rfl) <| sgE rfl rfl (.c 18 rfl (fun h=>h) .n) (fun hgd=>lenD U23 (isE rfl (VA.st _ _ _ _ e h2))) <| sgE rfl rfl (.c 19 rfl (fun h=>h) .n) (fun hgd=>gtr rfl rfl) <| st (pkOr rfl rfl (fun h=>by rw[h];rfl)) ?_
 refine en fun a w e' hf=>?_
 obtain⟨e,B1,B3⟩:=up3 e' e B1 B3
 refine tl_nil <| ifc hf rfl (fun hb=>?_) (fun hb=>?_)
 ·have hfw:frM g=(g,false):=by rw[frM,if_pos hb]
  have hc2:(#[u1,u2]:Array Value).all (·.oneCell')=true:=one2 (slOne h1) (slOne h2)
  replace hf:=hf.kp [1,2,3]
  refine seq <| regJ 3 [0,1] (Chg fun c=>c=b3) (RelJ.one _) (fun w=>∃cs,Blk w b3 cs 25∧(E (.agg #[u1,u2])).p (.agg cs) w) (fun w w1 k h=>h.imp fun cs h=>⟨h.1.ext k,h.2⟩) Mix.mix hf (by decide +kernel) (by decide +kernel) <| ja ((ldW T25 rfl B1 rfl).eq ((rfl:_=Value.agg #[u1,u2]))) <| jf (fun w1 h1=>asg rfl) <| jx (xstB T25 rfl B3 rfl rfl (fun v w hv=>⟨_,hv,rfl,hc2⟩) (fun v w w' hc hv=>hv)) <| je <| fun a w hc HF hf=>?_
  obtain⟨cs,B3,hcs⟩:=HF
  cases hcs
  replace e:=e.ch hc (fun b hb=>by rw[hb];omega)
  refine tl_nil <| wret (ret2t rfl T25 hf rfl rfl B3 rfl ?_)
  rintro _ rfl
  exact⟨_,rfl,e,by rw[hfw];exact Tup.two ⟨fun h=>(by rw[hfw] at h;cases h),fun _=>rfl⟩ (VA.st _ _ _ _ e (Dv.weak h fun b _ hb=>hb.elim))⟩
 have hfw0:¬(decide ((7:Int)<(g.1.length:Nat)) || decide ((10:Int)<(g.2.length:Nat)))=true:=by simpa using hb
 refine wskip ?_
 have hvl:g.1.length≤100∧g.2.length≤40:=by
  rw[Bool.or_eq_true,not_or,decide_eq_true_eq,decide_eq_true_eq] at hfw0
  omega
 replace hf:=hf.keep [1,2,3]
 obtain⟨N6,hN6⟩:∃N6,N6=w.heap.size:=⟨_,rfl⟩
 have l5:b3<N6:=by rw[hN6];exact B3.lt
 have l2:b1<N6:=by rw[hN6];exact B1.lt
 have hN6s:N6≤w.heap.size:=Nat.le_of_eq hN6
 have hofl:=fun (h0:(ofR g.1 g.2).2=0)=>ofR_len h0
 have hofk:=ofR_ok hV hE
 refine seq <| rgN 8 hf <| st (fA U25 rfl T22 rfl) <| st (ld1 T22 rfl (by assumption) rfl) <| st (fA U25 rfl T23 rfl) <| st (ld1 T23 rfl (by assumption) rfl) <| st (call2 (A:=Tup [Dv gtE (fun b=>b<N6) (ofR g.1 g.2).1,E (I (ofR g.1 g.2).2)]) En45 rfl rfl (fun v u w he k1 k2=>by cases k1;cases k2;exact of05_spec g.1 g.2 _ _ w (VA.st _ _ _ _ (Ext.tr e he) h1) (VA.st _ _ _ _ (Ext.tr e he) h2) (by omega) (by omega) (fun b hb=>Nat.lt_of_lt_of_le hb (Nat.le_trans hN6s he.size)))) ?_
 refine st (mv rfl) <| st (ext_ rfl rfl) <| st (ext_ rfl rfl) <| en fun a w e' hf=>?_
 obtain⟨e,B1,B3⟩:=up3 e' e B1 B3
 obtain⟨z,hz,hf⟩:=hf.opn 29 rfl
 obtain⟨N7,hN7⟩:∃N7,N7=w.heap.size:=⟨_,rfl⟩
 obtain⟨GZ,hGZ⟩:∃GZ:Nat→Prop,GZ=fun b=>b<N6∨N7≤b:=⟨_,rfl⟩
 have hzz:(Dv gtE GZ (ofR g.1 g.2).1).p z w:=by
  rw[hGZ,hN7];exact Dv.toB (Dv.weak hz fun b _ hb=>hb)
 obtain⟨z1,z2,rfl,hz1,hz2⟩:=Dv.gt.1 hzz
 have hzo:(#[z1,z2]:Array Value).all (·.oneCell')=true:=one2 (slOne hz1) (slOne hz2)
 have nZ:∀bb,(bb<N6∨N7≤bb)→GZ bb:=fun bb hb=>by rw[hGZ];exact hb
 replace hf:=hf.keep [1,2,3,29,30]
 refine tL I25 hf fun a b4 w e' hb4 hs4 B4 hf=>?_
 have lt4_B3:=B3.lt
 obtain⟨hz1,hz2,e,B1,B3⟩:=up5 e' hz1 hz2 e B1 B3
 have l6:N7≤b4:=by omega
 have l67:b4<w.heap.size:=B4.lt
 replace hf:=hf.kp [1,2,3,4,29,30]
 refine tl_stW T25 hf rfl rfl hzo B4 rfl rfl fun w hg hsz B4 hf=>?_
 replace e:=e.gr hg (by omega);replace B1:=B1.gr hg (by omega);replace B3:=B3.gr hg (by omega);replace hz1:=Dv.grN hz1 hg (fun bb hb=>nZ bb (by cases hb;omega));replace hz2:=Dv.grN hz2 hg (fun bb hb=>nZ bb (by cases hb;omega));clear hg
 refine tA hf rfl fun a hf=>tl_nil ?_
 replace hf:=hf.kp [1,2,3,4,5]
 repeat refine seq ?_
 refine rgN 2 hf <| st (mv rfl) <| st (neq rfl rfl) <| en fun a w e' hf=>?_
 obtain⟨hz1,hz2,e,B1,B3,B4⟩:=up6 e' hz1 hz2 e B1 B3 B4
 refine tl_nil <| ifc hf rfl (fun hb=>?_) (fun hb=>?_)
 ·have hne:(ofR g.1 g.2).2≠0:=by simpa using hb
  have hfw:frM g=(g,false):=by rw[frM,if_neg hfw0,if_pos hne]
  have hc2:(#[u1,u2]:Array Value).all (·.oneCell')=true:=one2 (slOne h1) (slOne h2)
  replace hf:=hf.kp [1,2,3]
  refine seq <| regJ 3 [0,1] (Chg fun c=>c=b3) (RelJ.one _) (fun w=>∃cs,Blk w b3 cs 25∧(E (.agg #[u1,u2])).p (.agg cs) w) (fun w w1 k h=>h.imp fun cs h=>⟨h.1.ext k,h.2⟩) Mix.mix hf (by decide +kernel) (by decide +kernel) <| ja ((ldW T25 rfl B1 rfl).eq ((rfl:_=Value.agg #[u1,u2]))) <| jf (fun w1 h1=>asg rfl) <| jx (xstB T25 rfl B3 rfl rfl (fun v w hv=>⟨_,hv,rfl,hc2⟩) (fun v w w' hc hv=>hv)) <| je <| fun a w hc HF hf=>?_
  try dsimp only[push] at hf
  obtain⟨cs,B3,hcs⟩:=HF
  cases hcs
  replace e:=e.ch hc (fun b hb=>by rw[hb];omega)
  refine tl_nil <| wret (ret2t rfl T25 hf rfl rfl B3 rfl ?_)
  rintro _ rfl
  exact⟨_,rfl,e,by rw[hfw];exact Tup.two ⟨fun h=>(by rw[hfw] at h;cases h),fun _=>rfl⟩ (VA.st _ _ _ _ e (Dv.weak h fun b _ hb=>hb.elim))⟩
 have hof0:(ofR g.1 g.2).2=0:=by simpa using hb
 have hfw:frM g=((ofR g.1 g.2).1,true):=by rw[frM,if_neg hfw0,if_neg (by simpa using hof0)]
 have hol:=hofl hof0
 obtain⟨gg,hgg⟩:∃gg,gg=(ofR g.1 g.2).1:=⟨_,rfl⟩
 rw[← hgg] at hz1 hz2 hofk hol hfw
 refine wskip ?_
 replace hf:=hf.kp [2,3,4]
 obtain⟨N8,hN8⟩:∃N8,N8=w.heap.size:=⟨_,rfl⟩
 have h78:N7≤N8:=by have:=B4.lt;omega
 have h68:b4<N8:=by rw[hN8];exact B4.lt
 have h58:b3<N8:=by rw[hN8];exact B3.lt
 have hW8:W.heap.size≤N8:=by rw[hN8];exact e.size
 have hN8s:N8≤w.heap.size:=Nat.le_of_eq hN8
 refine seq <| regn0 <| tA hf rfl fun a hf=>tl_nil <| seq <| regn0 <| tA hf rfl fun a hf=>tl_nil ?_
 repeat refine seq ?_
 refine regn0 <| tA hf rfl fun a hf=>tl_nil ?_
 replace hf:=hf.kp [2,3,4,6,7,8]
 refine blk (loopN (fun r0 a w=>∃(k:Nat) (u:Value),r0=gg.1.length - k∧k≤gg.1.length∧Fr 72 a w [(2,E (.pointer none)),(3,E (.pointer (some ⟨b3,0,none⟩))),(4,E (.pointer (some ⟨b4,0,none⟩))),(6,E u),(7,E (.slice none 0 0)),(8,E (I k))]∧Ext W w∧Blk w b3 #[.slice none 0 0,.slice none 0 0] 25∧Blk w b4 #[z1,z2] 25∧(Dv (slE vtE) GZ gg.1).p z1 w∧(Dv (slE etE) GZ gg.2).p z2 w∧OwR vtE 73 N8 G0 w (gg.1.take k) u) gg.1.length ⟨0,.slice none 0 0,rfl,by omega,hf,e,⟨B3,B4,hz1,hz2,OwR.nil vtE _ hN8s fun b hb=>hb.elim⟩⟩ ?_)
 rintro r0 a w ⟨k,u,rfl,hk,hf,e,B3,B4,hz1,hz2,Ho⟩
 repeat refine seq ?_
 refine rgN 5 hf <| st (mv rfl) <| st (fA U25 rfl T22 rfl) <| st (ld1 T22 rfl B4 rfl) <| st (lenD U22 (isE rfl hz1)) <| st (lss rfl rfl) <| en fun a w e' hf=>?_
 obtain⟨hz1,hz2,e,B3,B4,Ho⟩:=up6 e' hz1 hz2 e B3 B4 Ho
 refine tl_nil <| ifc hf rfl (fun hc=>wskip ?_) (fun hc=>wexit ?_)
 rotate_left
 rotate_left
 ·have hlt:k<gg.1.length:=by have:=of_decide_eq_true hc;(try dsimp only at this);omega
  replace hf:=hf.kp [2,3,4,6,7,8]
  refine seq <| blk ?_
  have hg:=List.getElem?_eq_getElem hlt
  generalize gg.1[k]=y at hg
  have hlk:=List.length_take_le k gg.1
  have n1:=Ho.neLt (b:=b4) (by omega)
  have n2:=Ho.neLt (b:=b3) (by omega)
  haveI iu:InR GZ u.ownBlock:=⟨fun b hb=>nZ b (.inr (Nat.le_trans h78 (Ho.lt hb).1))⟩
  refine rgN 7 hf <| st (mv rfl) <| st (fA U25 rfl T22 rfl) <| st (ld1 T22 rfl B4 rfl) <| st (mv rfl) <| st (idxD U22 S45 (isE rfl hz1) rfl (by omega) (hg)) <| st (ldVt T45 (isR rfl)) <| st (bsl1 U66 I73 rfl (by decide) rfl Ho.avs (isVt rfl)) <| en fun a w e' hf=>?_
  obtain⟨hz1,hz2,Ho,e,B3,B4⟩:=up6 e' hz1 hz2 Ho e B3 B4
  haveI hin:∀G0,InR (GB W G0) _:=OwR.inGB (W:=W) Ho (by omega)
  refine tl_app U66 I73 rfl rfl hf (by decide) rfl Ho (isR rfl) (by simp only[List.length_singleton];omega) (by simp only[List.length_singleton,maxLen];omega) fun a v w hg hat Hn hf=>?_
  replace e:=e.gro hg (Ho.row (W:=W) (by omega))
  have hrow:=Ho.row (W:=W) (by omega)
  replace hz1:=Dv.grN hz1 hg (fun bb hb=>nZ bb (.inr (Nat.le_trans h78 (Ho.lt hb).1)))
  replace hz2:=Dv.grN hz2 hg (fun bb hb=>nZ bb (.inr (Nat.le_trans h78 (Ho.lt hb).1)))
  replace Ho:=Hn
  replace B3:=B3.gro hg (by assumption)
  replace B4:=B4.gro hg (by assumption)
  replace Ho:=Hn;clear Hn hg hat hin
  refine tA hf rfl fun a hf=>tl_nil <| rgN 2 hf <| st (mv rfl) <| st ((add rfl rfl (by omega)).eq (congrArg (Value.int .i64) (show (k:Int)+1=((k+1:Nat):Int) from rfl))) <| en fun a w e' hf=>?_
  obtain⟨hz1,hz2,Ho,e,B3,B4⟩:=up6 e' hz1 hz2 Ho e B3 B4
  refine tA hf rfl fun a hf=>tl_nil ?_
  replace hf:=hf.keep [2,3,4,6,7,8]
  refine⟨_,?_,k+1,_,rfl,by omega,hf,e,?_⟩
  ·omega
  rw[take_succ_get hg]
  exact⟨B3,B4,hz1,hz2,Ho⟩
 ·obtain rfl:k=gg.1.length:=by have:=of_decide_eq_false hc;(try dsimp only at this);omega
  rw[List.take_length] at Ho
  obtain⟨av,nv,cv,rfl⟩:=Dv.slF Ho.sl
  obtain⟨NV,hNV⟩:∃NV:Nat→Prop,NV=fun b=>(Value.slice av nv cv).ownBlock≠some b:=⟨_,rfl⟩
  have HD:(Dv (slE vtE) NV gg.1).p (.slice av nv cv) w:=Ho.slN fun b hb=>by rw[hNV];exact fun h=>h hb
  obtain⟨N5,hN5⟩:∃N5,N5=w.heap.size:=⟨_,rfl⟩
  have h89:N8≤N5:=by rw[hN5];exact Ho.base
  have nV:∀bb,(bb<N8∨N5≤bb)→NV bb:=fun bb hb=>by rw[hNV];intro h;have h3:=Ho.lt h;omega
  have hN5s:N5≤w.heap.size:=Nat.le_of_eq hN5
  replace hf:=hf.keep [2,3,4,6,7]
  repeat refine seq ?_
  refine regn0 <| tA hf rfl fun a hf=>tl_nil ?_
  replace hf:=hf.keep [2,3,4,6,7,9]
  refine blk (loopN (fun r0 a w=>∃(k:Nat) (u:Value),r0=gg.2.length - k∧k≤gg.2.length∧Fr 72 a w [(2,E (.pointer none)),(3,E (.pointer (some ⟨b3,0,none⟩))),(4,E (.pointer (some ⟨b4,0,none⟩))),(6,E (.slice av nv cv)),(7,E u),(9,E (I k))]∧Ext W w∧Blk w b3 #[.slice none 0 0,.slice none 0 0] 25∧Blk w b4 #[z1,z2] 25∧(Dv (slE vtE) GZ gg.1).p z1 w∧(Dv (slE etE) GZ gg.2).p z2 w∧(Dv (slE vtE) NV gg.1).p (.slice av nv cv) w∧OwR etE 62 N5 G0 w (gg.2.take k) u∧N5≤w.heap.size) gg.2.length ⟨0,.slice none 0 0,rfl,by omega,hf,e,⟨B3,B4,hz1,hz2,HD,OwR.nil etE _ hN5s fun b hb=>hb.elim,hN5s⟩⟩ ?_)
  rintro r0 a w ⟨k,u,rfl,hk,hf,e,B3,B4,hz1,hz2,HD,Ho,hN5s⟩
  repeat refine seq ?_
  refine rgN 5 hf <| st (mv rfl) <| st (fA U25 rfl T23 rfl) <| st (ld1 T23 rfl B4 rfl) <| st (lenD U23 (isE rfl hz2)) <| st (lss rfl rfl) <| en fun a w e' hf=>?_
  obtain⟨hz1,hz2,HD,hN5s,e,B3,B4,Ho⟩:=up8 e' hz1 hz2 HD hN5s e B3 B4 Ho
  refine tl_nil <| ifc hf rfl (fun hc=>wskip ?_) (fun hc=>wexit ?_)
  rotate_left
  rotate_left
  ·have hlt:k<gg.2.length:=by have:=of_decide_eq_true hc;(try dsimp only at this);omega
   replace hf:=hf.kp [2,3,4,6,7,9]
   refine seq <| blk ?_
   have hg:=List.getElem?_eq_getElem hlt
   generalize gg.2[k]=y at hg
   have hlk:=List.length_take_le k gg.2
   have h79:N7≤N5:=Nat.le_trans h78 h89
   have n1:=Ho.neLt (b:=b4) (by omega)
   have n2:=Ho.neLt (b:=b3) (by omega)
   haveI iu:InR GZ u.ownBlock:=⟨fun b hb=>nZ b (.inr (Nat.le_trans h79 (Ho.lt hb).1))⟩
   refine rgN 7 hf <| st (mv rfl) <| st (fA U25 rfl T23 rfl) <| st (ld1 T23 rfl B4 rfl) <| st (mv rfl) <| st (idxD U23 S51 (isE rfl hz2) rfl (by omega) (hg)) <| st (ldEt T51 (isR rfl)) <| st (bsl1 U61 I62 rfl (by decide) rfl Ho.avs (isEt rfl)) <| en fun a w e' hf=>?_
   obtain⟨hz1,hz2,HD,hN5s,Ho,e,B3,B4⟩:=up8 e' hz1 hz2 HD hN5s Ho e B3 B4
   haveI hin:∀G0,InR (GB W G0) _:=OwR.inGB (W:=W) Ho (by omega)
   refine tl_app U61 I62 rfl rfl hf (by decide) rfl Ho (isR rfl) (by simp only[List.length_singleton];omega) (by simp only[List.length_singleton,maxLen];omega) fun a v w hg hat Hn hf=>?_
   replace e:=e.gro hg (Ho.row (W:=W) (by omega))
   have hrow:=Ho.row (W:=W) (by omega)
   replace hz1:=Dv.grN hz1 hg (fun bb hb=>nZ bb (.inr (Nat.le_trans h79 (Ho.lt hb).1)))
   replace hz2:=Dv.grN hz2 hg (fun bb hb=>nZ bb (.inr (Nat.le_trans h79 (Ho.lt hb).1)))
   replace HD:=Dv.grN HD hg (fun bb hb=>nV bb (.inr (Ho.lt hb).1))
   replace hN5s:=Nat.le_trans hN5s hg.size
   replace Ho:=Hn
   replace B3:=B3.gro hg (by assumption)
   replace B4:=B4.gro hg (by assumption)
   replace Ho:=Hn;clear Hn hg hat hin
   refine tA hf rfl fun a hf=>tl_nil <| rgN 2 hf <| st (mv rfl) <| st ((add rfl rfl (by omega)).eq (congrArg (Value.int .i64) (show (k:Int)+1=((k+1:Nat):Int) from rfl))) <| en fun a w e' hf=>?_
   obtain⟨hz1,hz2,HD,hN5s,Ho,e,B3,B4⟩:=up8 e' hz1 hz2 HD hN5s Ho e B3 B4
   refine tA hf rfl fun a hf=>tl_nil ?_
   replace hf:=hf.kp [2,3,4,6,7,9]
   refine⟨_,?_,k+1,_,rfl,by omega,hf,e,?_⟩
   ·omega
   rw[take_succ_get hg]
   exact⟨B3,B4,hz1,hz2,HD,Ho,hN5s⟩
  ·obtain rfl:k=gg.2.length:=by have:=of_decide_eq_false hc;(try dsimp only at this);omega
   rw[List.take_length] at Ho
   have h65:b4<N5:=by omega
   have h55:b3<N5:=by omega
   have hlg:gg.1.length≤1000∧gg.2.length≤1000:=by omega
   replace hf:=hf.kp [2,3,4,6,7]
   refine seq <| rgN 6 hf <| st (mv rfl) <| st (mv rfl) <| st (call2 (A:=Tup [Dv (ptE (grE 2000)) (fun b=>b<N5) (some gg),E (I 0)]) En40 rfl rfl (fun v u w he k1 k2=>by cases k1;cases k2;exact build_post gg hofk _ _ w (VA.st _ _ _ _ he (Dv.weak HD fun b _ hb=>hb.elim)) (VA.st _ _ _ _ he Ho.sl) hlg.1 hlg.2 (fun b hb=>Nat.lt_of_lt_of_le hb (Nat.le_trans hN5s he.size)))) ?_
   refine st (mv rfl) <| st (ext_ rfl rfl) <| st (ext_ rfl rfl) <| en fun a w e' hf=>?_
   obtain⟨hz1,hz2,e,B3,B4⟩:=up5 e' hz1 hz2 e B3 B4
   refine tA hf rfl fun a hf=>tA hf rfl fun a hf=>tl_nil ?_
   replace hf:=hf.kp [2,3,4,10]
   haveI ik:InR (fun b=>b<N5) (some b3):=⟨fun b hb=>by cases hb;exact h55⟩
   have hzo:(#[z1,z2]:Array Value).all (·.oneCell')=true:=one2 (slOne hz1) (slOne hz2)
   refine seq <| regJ 4 [2,0,1] (Chg fun c=>c=b3) (RelJ.one _) (fun w=>∃cs,Blk w b3 cs 25∧(E (.agg #[z1,z2])).p (.agg cs) w) (fun w w1 k h=>h.imp fun cs h=>⟨h.1.ext k,h.2⟩) Mix.mix hf (by decide +kernel) (by decide +kernel) <| jk (mv rfl) <| ja ((ldW T25 rfl B4 rfl).eq ((rfl:_=Value.agg #[z1,z2]))) <| jf (fun w1 h1=>asg rfl) <| jx (xstB T25 rfl B3 rfl rfl (fun v w hv=>⟨_,hv,rfl,hzo⟩) (fun v w w' hc hv=>hv)) <| je <| fun a w hc HF hf=>?_
   try dsimp only[push] at hf
   obtain⟨cs,B3,hcs⟩:=HF
   cases hcs
   replace e:=e.ch hc (fun b hb=>by rw[hb];omega)
   replace hz1:=Dv.ch hz1 hc (fun b hb=>nZ b (.inl (by rw[hb];exact l5)))
   replace hz2:=Dv.ch hz2 hc (fun b hb=>nZ b (.inl (by rw[hb];exact l5)))
   refine tl_nil <| wret (ret2t rfl T25 hf rfl rfl B3 rfl ?_)
   rintro x hx
   exact⟨_,rfl,e,Tup.two ⟨fun _=>by rw[hfw];exact Dv.weak hx fun b _ hb=>hb.elim,fun h=>by rw[hfw] at h;cases h⟩ (by rw[hfw];exact Dv.gt.2 ⟨_,_,rfl,Dv.weak hz1 fun b _ hb=>hb.elim,Dv.weak hz2 fun b _ hb=>hb.elim⟩)⟩
end Go.Mono
namespace Go.Mono
open Go Go.Proofs Go.RowKit
open Go.WideElems (Fit rd rg pl rd_val elemAt findIdx_arr findIdx_born set_self)
open Go.ChangeMaps (modify_eq_set)
open Go.ChangeMaps (setBlock)
section
variable {P:Program}{α β:Type}{V:KV P α β}{w:World}{b n:Nat}{l:List (α×β)}
theorem setIf_self {γ:Type}{a:Array γ}{i:Nat}{x:γ}(h:a[i]?=some x):a.setIfInBounds i x=a:=by
 apply Array.ext'
 rw[Array.toList_setIfInBounds]
 exact set_self _ _ _ (by simpa using h)
theorem MpR.slot {t:TypeId}(h:MpR V w b n l)(ht:P.underlying t=some (.map V.k V.e)){x:α}{c:β}(hx:V.ok x)(hm:(x,c)∈l) :
  ∃v0 st:Value,(Instr.mapEntry t (.map (some b)) (V.kv x)).run P w=.ok (.tuple #[v0,st]) w ∧
   ∀w2 val,w2.heap[b]?=w.heap[b]?→(Instr.entryStore t (.map (some b)) st val).run P w2=(Instr.mapUpdate t (.map (some b)) (V.kv x) val).run P w2:=by
 obtain⟨es,⟨arr,clock,hb,F,hs,hD⟩,hp,hok,hpw⟩:=h
 have hkey:=V.key x hx
 obtain⟨s1,s2,s3⟩:=F.stamped
 have hthere:∃e0∈arr.toList,e0.key=V.kv x:=by
  have h1:V.enc (x,c)∈es:=hp.mem_iff.2 (List.mem_map.2 ⟨_,hm,rfl⟩)
  cases hD
  have h2:V.enc (x,c)∈arr.toList.map (rg P V.k V.R):=by
   have key:∀(m:List (Lit×DataW Unit)) (p:Lit×DataW Unit),p∈m.foldr DataW.insert []→p∈m:=by
    intro m
    induction m with
    | nil=>intro p h;exact h
    | cons a m ih=>
     intro p h
     rw[List.foldr_cons] at h
     have:=(insert_perm a (m.foldr DataW.insert [])).mem_iff.1 h
     rcases List.mem_cons.1 this with h|h
     ·rw[h];exact List.mem_cons_self ..
     ·exact List.mem_cons_of_mem _ (ih p h)
   exact key _ _ h1
  obtain⟨e0,he0,hr⟩:=List.mem_map.1 h2
  obtain⟨y,hy⟩:=F.reads e0 he0
  have m1:=Go.WideElems.rd_key hy
  rw[Go.WideElems.rg_of hy] at hr
  have m2:y.1=V.kl x:=by rw[hr];rfl
  rw[m2] at m1
  exact⟨e0,he0,V.K.inj m1 hkey⟩
 rcases V.K.find w hkey arr.toList F.keys with ⟨h1,h2⟩|⟨j,e0,h1,h2,h3⟩
 ·obtain⟨e0,he0,hk⟩:=hthere
  exact absurd hk (h2 e0 he0)
 ·have hj:arr[j]?=some e0:=by simpa using h2
  have hsame:arr.modify j (fun e=>{ e with key:=V.kv x })=arr:=by
   apply Array.ext'
   rw[Array.toList_modify,modify_eq_set _ _ _ _ h2]
   have:({ e0 with key:=V.kv x }:MapEntry)=e0:=by rw[← h3]
   rw[this]
   exact set_self _ _ _ h2
  refine⟨e0.val,goInt e0.born,?_,fun w2 val hw2=>?_⟩
  ·have hset:({ w with heap:=w.heap.setIfInBounds b (.map arr clock) }:World)=w:=by rw[setIf_self hb]
   simp[Instr.mapEntry,run_underlying ht,MapKept.run_getObj_map hb,V.K.check w false hkey,h1,hj,h3,V.K.stays w hkey,hsame,MapKept.run_setObj_map _ hb,Result.andThen,hset]
  ·have hb2:=hw2.trans hb
   have hidx:arr.findIdx? (fun e=>((e.born:Nat):Int)==((e0.born:Nat):Int))=some j:=by
    rw[findIdx_arr]
    exact findIdx_born s2 h2
   have hmod:arr.modify j (fun e=>{ e with val:=val })=arr.modify j (fun e'=>{ e' with key:=V.kv x,val:=val }):=by
    apply Array.ext'
    rw[Array.toList_modify,Array.toList_modify,modify_eq_set _ _ _ _ h2,modify_eq_set _ _ _ _ h2,← h3]
   have h1':(Instr.findKey V.k (V.kv x) arr.toList).run P w2=.ok (some (j,e0.val)) w2:=by
    rcases V.K.find w2 hkey arr.toList F.keys with ⟨q1,q2⟩|⟨j',e',q1,q2,q3⟩
    ·exact absurd h3 (q2 e0 (List.mem_of_getElem? h2))
    ·have hee:j'=j∧e'=e0:=by
      have hjl:j'<(arr.toList.map (·.key)).length:=by rw[List.length_map];exact (List.getElem?_eq_some_iff.1 q2).1
      have hjj:j'=j:=(List.getElem?_inj hjl s3).1 (by rw[List.getElem?_map,List.getElem?_map,q2,h2];show some e'.key=some e0.key;rw[q3,h3])
      refine⟨hjj,?_⟩
      rw[hjj,h2] at q2
      exact (Option.some.inj q2).symm
     rw[hee.1,hee.2] at q1
     exact q1
   simp[Instr.entryStore,MapKept.run_getObj_map hb2,asInt,asIntOf,goInt,hidx,hmod,MapKept.run_setObj_map _ hb2,Result.andThen]
   simp[Instr.mapUpdate,run_underlying ht,MapKept.run_getObj_map hb2,V.K.check w2 false hkey,h1',hj,h3,V.K.stays w2 hkey,MapKept.run_setObj_map _ hb2,Result.andThen]
def SlA (P:Program)(t b:Nat)(key:Value):VA:=⟨fun st w=>b<w.heap.size∧∀w2 val,w2.heap[b]?=w.heap[b]?→(Instr.entryStore t (.map (some b)) st val).run P w2=(Instr.mapUpdate t (.map (some b)) key val).run P w2,
 fun v w w' e ⟨h1,h2⟩=>⟨Nat.lt_of_lt_of_le h1 e.size,fun w2 val hw=>h2 w2 val (hw.trans (e.block b h1))⟩⟩
theorem MpR.dvE {N:Nat}(h:MpR V w b n l)(hn:n≤N){G:Nat→Prop}(hG:¬G b):(Dv (mpE V N) G l).p (.map (some b)) w:=⟨[.map (some b)],⟨b,n,rfl,hG,hn,h⟩,rfl⟩
end
section ops
variable {P:Program}{w0:World}{L:Env}{dst:Option Tmp}{ty:TypeId}{pos:String}{aft:Array Edge}{g:Option (Nat×Bool)}{x y s:Operand}{t b n:Nat}
variable {α β:Type}{V:KV P α β}{l:List (α×β)}{i:α}{c:β}
theorem enS (ht:P.underlying t=some (.map V.k V.e))(hx:opd L x=some (E (.map (some b))))(hy:opd L y=some (E (V.kv i)))(hM:MpR V w0 b n l)(hi:V.ok i)(hm:(i,c)∈l) :
  OpC P w0 L ⟨dst,.mapEntry t x y,ty,pos,aft,g⟩ (Tup [Any,SlA P t b (V.kv i)]):=
 opc_pure fun ρ w he hv=>by
  have hxv:ρ x=.map (some b):=hv x (by simp[Op.operands]) _ hx
  have hyv:ρ y=V.kv i:=hv y (by simp[Op.operands]) _ hy
  obtain⟨v0,st,h1,h2⟩:=(hM.ext he).slot ht hi hm
  exact⟨.tuple #[v0,st],by simp only[execOp,hxv,hyv,Sem.run_bind,h1,Result.andThen_ok,Sem.run_pure],Tup.two trivial ⟨(hM.ext he).lt,h2⟩⟩
theorem esJ [DecidableEq α](ht:P.underlying t=some (.map V.k V.e))(hx:opd L x=some (E (.map (some b))))(hs:opd L s=some (SlA P t b (V.kv i)))(hy:opd L y=some (E (V.mv c)))(hM:MpR V w0 b n l)(hi:V.ok i)(hc:V.okv c)(hn:n<maxLen) :
  XOpJ P w0 (Chg fun d=>d=b) (fun w'=>MpR V w' b (n+1) (putP l i c)) L ⟨none,.entryStore t x s y,ty,pos,aft,none⟩ Any:=by
 refine⟨fun ρ w he hv=>?_⟩
 have hxv:ρ x=.map (some b):=hv x (by simp[Op.operands]) _ hx
 have hsv:=hv s (by simp[Op.operands]) _ hs
 have hyv:ρ y=V.mv c:=hv y (by simp[Op.operands]) _ hy
 obtain⟨w',h1,h2,h3⟩:=(hM.ext he).put hi hc ht hn
 have h4:=hsv.2 w (V.mv c) rfl
 rw[h1] at h4
 simp only[OpR,execOp,hxv,hyv,Sem.run_bind,h4,Result.andThen_ok,Sem.run_pure]
 exact⟨⟨h3.os,h3.tape,h3.output,h3.size,fun k hk hn=>h3.block k hk fun hh=>hn (by cases hh;rfl)⟩,trivial,h2⟩
end ops
end Go.Mono
namespace Go.Mono
open Go Go.Proofs Go.RowKit Go.Gr

theorem bAd2 (S:BS)(bm:Nat):Tryz.prog.built 79 [(0,setV S),(1,.map (some bm))]=some (adC S (.map (some bm))):=by kernel_rfl
def wiP (l:List (Int×BS))(S:BS)(s:List Nat):List (Int×BS):=s.map fun n:Nat=>((n:Int),lkS l (n:Int) &&& S)
def wiL (l:List (Int×BS))(S:BS):List (Int×BS):=wiP l S (elems S)
theorem putP_new' {α β:Type}[DecidableEq α]{l:List (α×β)}{x:α}{c:β}(hx:∀c,(x,c) ∉ l):(putP l x c).Perm (l++[(x,c)]):=by
 have hf:l.filter (fun p => !decide (p.1=x))=l:=by
  rw[List.filter_eq_self]
  intro p hp
  have:p.1≠x:=fun e=>hx p.2 (by rw[← e];exact hp)
  simp[this]
 rw[putP,hf]
 exact List.perm_append_comm (l₁:=[(x,c)])
theorem wiP_put {l:List (Int×BS)}{S:BS}{s:List Nat}{x:Nat}(hx:x ∉ s):(putP (wiP l S s) (x:Int) (lkS l (x:Int) &&& S)).Perm (wiP l S (s++[x])):=by
 refine (putP_new' fun c hc=>?_).trans (by rw[wiP,wiP,List.map_append];exact List.Perm.refl _)
 obtain⟨n,hn,he⟩:=List.mem_map.1 hc
 have:n=x:=by have:=congrArg Prod.fst he;simp only at this;omega
 exact hx (by rw[← this];exact hn)
theorem lkS_map (f:Nat→BS):∀(s:List Nat) (x:Nat),lkS (s.map fun n:Nat=>((n:Int),f n)) (x:Int)=if x∈s then f x else 0
 | [],x=>by simp[lkS]
 | n::s,x=>by
  have ih:=lkS_map f s x
  rw[lkS] at ih
  rw[List.map_cons,lkS,List.find?_cons]
  by_cases h:n=x
  ·subst h;simp
  ·have h1:((n:Int)=(x:Int))=False:=by simp;omega
   have h2:(x∈n::s)=(x∈s):=by simp[Ne.symm h]
   simp only[h1,decide_false,h2]
   exact ih
theorem lkS_neg (f:Nat→BS)(s:List Nat){i:Int}(hi:i<0):lkS (s.map fun n:Nat=>((n:Int),f n)) i=0:=by
 refine lkS_no fun c hc=>?_
 obtain⟨n,_,he⟩:=List.mem_map.1 hc
 have:=congrArg Prod.fst he
 simp only at this;omega
def nbWi (nb:Int→BS)(S:BS):Int→BS:=fun i=>if has S i=true then nb i &&& S else 0
theorem lk_wi (l:List (Int×BS))(S:BS):lkS (wiL l S)=nbWi (lkS l) S:=by
 funext i
 rw[nbWi]
 by_cases hi:i<0
 ·have h0:has S i=false:=by
   cases h:has S i with
   | false=>rfl
   | true=>
    have:=h
    unfold has at this
    simp[fitsB_iff] at this
    omega
  rw[wiL,wiP,lkS_neg _ _ hi,h0];rfl
 ·obtain⟨n,rfl⟩:∃n:Nat,i=n:=⟨i.toNat,by omega⟩
  rw[wiL,wiP,lkS_map (fun n=>lkS l (n:Int) &&& S)]
  by_cases h:S.getLsbD n=true
  ·rw[if_pos (mem_elems.2 ⟨bit_lt h,h⟩),if_pos ((has_bit S n).2 h)]
  ·rw[if_neg fun hh=>h (mem_elems.1 hh).2,if_neg fun hh=>h ((has_bit S n).1 hh)]
structure WiJ (W:World)(N0:Nat)(l:List (Int×BS))(S0 S:BS)(mq:Value)(b2 b4 b5 bm:Nat)(c4:Array Value)(s:List Nat)(w:World):Prop where
 e:Ext W w
 t:Tab w
 hv:(Dv (mpE sKV N0) (GB W G0) l).p mq w
 p2:Blk w b2 (adC S0 mq) 79
 p4:Blk w b4 c4 79
 p5:Blk w b5 (adC S (.map (some bm))) 79
 m:MpR sKV w bm s.length (wiP l S s)
theorem WiJ.kp {W:World}{N0:Nat}{l:List (Int×BS)}{S0 S:BS}{mq:Value}{b2 b4 b5 bm:Nat}{c4:Array Value}{s:List Nat}{B:Nat}{w w':World}(h:WiJ W N0 l S0 S mq b2 b4 b5 bm c4 s w)(k:Kp B w w')(hW:W.heap.size≤B)(h0:0<B)(l2:b2<B)(l4:b4<B)(l5:b5<B)(lm:bm<B):WiJ W N0 l S0 S mq b2 b4 b5 bm c4 s w':=
 have no:∀{b},b<B→¬Hole B b:=fun h hh=>by have:=hh.1;omega
 ⟨h.e.kp k hW,h.t.kp k h0,Dv.ch h.hv k.chg (fun b hb=>.inr (by have:=hb.1;omega)),h.p2.kp k (no l2),h.p4.kp k (no l4),h.p5.kp k (no l5),h.m.pres (k.same bm h.m.lt (no lm))⟩
theorem within_spec {G:Nat→Prop}{N0:Nat}(l:List (Int×BS))(S0 C:BS)(mq:Value)(W:World)(hT:Tab W)(h:(Dv (mpE sKV N0) G l).p mq W) :
  Calls Tryz.prog 58 #[.agg (adC S0 mq),setV C] W (Post (AdjA (wiL l (S0 &&& C)) (S0 &&& C) 1024) W):=by
 have HV:(Dv (mpE sKV N0) (GB W G0) l).p mq W:=Dv.toB (Dv.weak h fun b _ hb=>hb.elim)
 obtain⟨S,hS⟩:∃S,S=S0 &&& C:=⟨_,rfl⟩
 rw[← hS]
 have hT0:=hT.lt
 refine enterM (args:=[.agg (adC S0 mq),setV C]) (As:=[E (.agg (adC S0 mq)),E (setV C)]) Tryz.func58 rfl Tryz.ntmps58 (Nat.le_of_ble_eq_true rfl) ?_ (fun a hf=>?_) (Nat.le_of_ble_eq_true rfl)
 ·exact arg2 rfl rfl
 have e:=Ext.rfl' W
 refine seq <| regn0 <| tB hf rfl fun a b2 w v2 hv2 e' hb2 hs2 B2 hf=>?_
 obtain⟨hT,HV,e⟩:=up3 e' hT HV e
 refine tB hf rfl fun a b3 w v3 hv3 e' hb3 hs3 B3 hf=>?_
 obtain⟨hT,HV,e,B2⟩:=up4 e' hT HV e B2
 refine tL I79 hf fun a b4 w e' hb4 hs4 B4 hf=>?_
 obtain⟨hT,HV,e,B2,B3⟩:=up5 e' hT HV e B2 B3
 refine tl_nil ?_
 cases hv2
 cases hv3
 replace B2:Blk w b2 (adC S0 mq) 79:=B2
 replace B3:Blk w b3 (setC C) 76:=B3
 have n234:b2≠b3∧b2≠b4∧b3≠b4∧W.heap.size≤b2∧W.heap.size≤b3∧W.heap.size≤b4:=by omega
 replace hf:=hf.kp [2,3,4]
 refine seq <| rgN 4 hf <| st (fA U79 rfl T76 rfl) <| st ((ldP T76 rfl B2 (by rw[adC_size];decide)).eq (congrArg Value.agg (adC_set S0 mq))) ?_
 refine st ((ldW T76 rfl B3 rfl).eq ((rfl:_=setV C))) <| st (call2 (A:=E (setV S)) (B:=E (setV S0)) (C:=E (setV C)) En74 rfl rfl (fun v u w he h h'=>by cases h;cases h';rw[hS];exact inter_spec S0 C w)) ?_
 refine en fun a w e' hf=>?_
 obtain⟨hT,HV,e,B2,B3,B4⟩:=up6 e' hT HV e B2 B3 B4
 refine tl_mkV sKV hf (by decide) fun a bm w e' hbm hsm HM hf=>?_
 have lb2:=B2.lt
 have lb4:=B4.lt
 have hle:=e.size
 have nm:b2<bm∧b4<bm∧W.heap.size≤bm:=by omega
 replace e:=e.tr e';replace hT:=hT.ext e';replace HV:=Dv.ex HV e';replace B2:=B2.ext e';replace B4:=B4.ext e'
 have hNm:bm+1≤w.heap.size:=HM.lt
 refine tP hf (bldV [(0,_),(1,_)] rfl (bAd2 S bm)) fun a w e' hf=>?_
 obtain⟨hT,HV,HM,hNm,e,B2,B4⟩:=up7 e' hT HV HM hNm e B2 B4
 refine tL I79 hf fun a b5 w e' hb5 hs5 B5 hf=>?_
 obtain⟨hT,HV,HM,hNm,e,B2,B4⟩:=up7 e' hT HV HM hNm e B2 B4
 have n5:b2≠b5∧b4≠b5∧b5≠bm∧W.heap.size≤b5:=by have:=B2.lt;have:=B4.lt;omega
 refine tl_stW T79 hf rfl rfl (adC_one _ _) B5 rfl (adC_size _ _) fun w hg hsz B5 hf=>?_
 replace e:=e.gr hg (by omega);replace hT:=hT.gr hg (by omega);replace HV:=Dv.gr HV hg (.inr (by omega));replace B2:=B2.gr hg (by omega);replace B4:=B4.gr hg (by omega);replace HM:=HM.gr hg (fun h=>by cases h;omega);clear hg hNm
 refine tl_nil ?_
 replace hf:=hf.keep [2,4,5]
 obtain⟨Nz,hNz⟩:∃Nz,Nz=w.heap.size:=⟨_,rfl⟩
 repeat refine seq ?_
 refine rgN 3 hf <| st (fA U79 rfl T76 rfl) <| st ((ldP T76 rfl B5 (by rw[adC_size];decide)).eq (congrArg Value.agg (adC_set S (.map (some bm))))) ?_
 refine st (call1 (A:=SeqA Nz S) En62 rfl (fun v w' he h=>by cases h;exact Calls.mono (all_spec _ w') (fun en w2 ⟨u,h1,h2,b',h3,h4,h5⟩=>⟨u,h1,h2,b',by have:=he.size;omega,h4,h5⟩))) ?_
 refine en fun a w e' hf=>?_
 obtain⟨hT,HV,HM,e,B2,B4,B5⟩:=up7 e' hT HV HM e B2 B4 B5
 refine tl_nil ?_
 obtain⟨v15,⟨b15,h15,rfl,BS⟩,hf⟩:=hf.fix 15 rfl
 replace hf:=hf.kp [2,4,5,15]
 obtain⟨c4,hc4,hB4⟩:∃c4:Array Value,c4.size=17∧Blk w b4 c4 79:=⟨_,by rfl,B4⟩
 have hBW:W.heap.size≤w.heap.size:=e.size
 have h0w:0<w.heap.size:=hT.lt
 have l2:=B2.lt
 have l4:=hB4.lt
 have l5:=B5.lt
 have lm:=HM.lt
 refine blk <| range_all3 (S:=S) hf rfl BS (by decide) (fun s w1=>WiJ W N0 l S0 S mq b2 b4 b5 bm c4 s w1) (fun _ _=>False) (fun s w1 h=>h.t)
  ⟨e,hT,HV,B2,hB4,B5,HM⟩ (fun s w1 w2 h hs k=>h.kp k hBW h0w l2 l4 l5 lm) (fun _ _ _ h=>h.elim) ?_ ?_ (fun _ _ _ _ _ _ h=>h.elim)
 ·intro lp s x rest a1 w1 hs hJ hlw hf
  have hx1024:x<1024:=(mem_elems.1 (by rw[hs];simp)).1
  have hxs:x ∉ s:=by
   have hn:(elems S).Nodup:=List.Nodup.sublist List.filter_sublist List.nodup_range
   rw[hs] at hn
   intro hx
   exact (List.nodup_append.1 hn).2.2 x hx x (by simp) rfl
  have hsl:s.length≤1024:=by have:=elems_len S;rw[hs] at this;simp at this;omega
  generalize hBz:w.heap.size=Bz at *
  refine regn0 <| tA hf rfl fun a hf=>tl_nil <| ⟨Kh.rfl' _ _,fun w3 k3 hsz3=>?_⟩
  have hJ3:=hJ.kp k3 hBW h0w l2 l4 l5 lm
  replace hf:=hf.pure w3
  obtain⟨e,hT,HV,B2,B4,B5,HM⟩:=hJ3
  have kh:=Kh.rfl' Bz w3
  replace hf:=hf.kp [2,4,5,6]
  refine blk ?_
  have hwx:(Lit.int .i64 (x:Int)).wf=true:=wf64 (by omega) (by omega)
  refine rgG 10 Mix.mix hf <| st (fA U79 rfl T77 rfl) <| st (ld1 (v:=.map (some bm)) T77 rfl B5 (adC_map _ _)) <| st (mv rfl) <| st (fA U79 rfl T77 rfl) <| st (ld1 (v:=mq) T77 rfl B2 (adC_map _ _)) <| st (mv rfl) <| st (lkM (l:=l) (i:=(x:Int)) U77 zero_set (isE rfl HV) rfl hwx) <| st (fA U79 rfl T76 rfl) <| st ((ldP T76 rfl B5 (by rw[adC_size];decide)).eq (congrArg Value.agg (adC_set S (.map (some bm))))) ?_
  refine st (call2 (A:=E (setV (lkS l (x:Int) &&& S))) (B:=E (setV (lkS l (x:Int)))) (C:=E (setV S)) En74 rfl rfl (fun v u w he h h'=>by cases h;cases h';exact inter_spec _ S w)) ?_
  refine en fun a w e' hf=>?_
  obtain⟨hT,HV,HM⟩:=up3 e' hT HV HM
  replace kh:=kh.tr (Kh.ext e')
  obtain⟨e,B2,B4,B5⟩:=up4 e' e B2 B4 B5
  refine tl_mputV (V:=sKV) (i:=(x:Int)) (c:=lkS l (x:Int) &&& S) U77 hf rfl rfl rfl HM (by simp only[maxLen];omega) hwx trivial fun w hg HM hf=>?_
  obtain⟨e,hT,HV,B2,B4,B5⟩:=gr6 hg e hT HV B2 B4 B5
  replace kh:=kh.tr (Kh.gr hg (fun hh=>by have:=hh.1;omega))
  refine tl_nil ?_
  simp only[Exit.inBlock]
  exact⟨⟨e,hT,HV,B2,B4,B5,by rw[List.length_append];exact HM.perm (wiP_put hxs)⟩,kh⟩
 ·intro a' w' hf' hJ hsz hDn
  simp only[Exit.inBlock,↓reduceIte,Exit.then]
  have hD:Ds [w.heap.size] w':=(Ds.nil w').cons hDn (by simp)
  have hf:FrD 28 (marks [w.heap.size]) a' w' [(2,E (ptr b2)),(4,E (ptr b4)),(5,E (ptr b5))]:=hf'.keep [2,4,5]
  have hDW:∀d∈[w.heap.size],W.heap.size≤d:=fun d hd=>by rw[List.mem_singleton] at hd;omega
  have hbD:¬bm∈[w.heap.size]:=fun h=>by rw[List.mem_singleton] at h;omega
  have hb4D:¬b4∈[w.heap.size]:=fun h=>by rw[List.mem_singleton] at h;omega
  obtain⟨e,hT,HV,B2,B4,B5,HM⟩:=hJ
  generalize [w.heap.size]=D2 at *
  generalize w'=w at *
  refine seq <| rgN 1 hf <| st (ldW T79 rfl B5 (adC_size _ _)) <| en fun a w e' hf=>?_
  obtain⟨HM,e,B4,B5,hD⟩:=up5 e' HM e B4 B5 hD
  refine tl_stW T79 hf rfl rfl (adC_one _ _) B4 hc4 (adC_size _ _) fun w hg hsz B4 hf=>?_
  replace e:=e.gr hg (by omega)
  replace hD:=hD.gr hg hb4D
  replace HM:=HM.gr hg (fun h=>by cases h;omega)
  refine tl_nil <| wret <| retcM rfl T79 hf rfl B4 (adC_size _ _) hD ⟨_,rfl,e.shut hDW,.map (some bm),rfl,?_⟩
  exact MpR.dvE (HM.pres (shut_heap D2 w bm hbD)) (elems_len S) fun h=>h
end Go.Mono
