/-
  Walks of functions and plain facts.
  No condition.
-/
import Derived.Test.YtbjangoghokneaaGreatDoorEB
import Derived.Maps.RangeWalk
import Derived.Test.YtbjangoghokneaaGreatDoorEA
import Derived.ArgAppend
import Derived.OpenShut
import Derived.Deep.Slices
import Derived.ChangeSame
import Derived.Sort.Grow
import Derived.Great.BuildSlice
import Derived.Deep.Draws
import Derived.Shelf.SlSortCmp.NoneTotal
import Derived.Test.YtbjangoghokneaaGreatDoorProg
set_option linter.unusedVariables false
set_option linter.unusedSimpArgs false
namespace Go.Mono
open Go Go.Proofs Go.RowKit Go.Gr
theorem bTs (id:FuncId)(caps:Array Value)(c:Int):Tryz.prog.built 187 [(0,.func (.func id) #[] caps),(1,.int .i64 c)]=some #[.func (.func id) #[] caps,.int .i64 c]:=by kernel_rfl
theorem xq {l:List (Bool×Int)}{k:Nat}{b:Bool}{c:Int}(h:∀y∈l.take k,y.1=false)(hx:l[k]?=some (b,c))(hb:b=true):eL l=c:=by
 induction l generalizing k with
 | nil=>simp at hx
 | cons y r ih=>
  cases k with
  | zero=>simp at hx;subst hx;subst hb;rfl
  | succ k=>
   have h0:=h y (by simp)
   obtain⟨y1,y2⟩:=y
   simp only at h0
   subst h0
   simp only[eL,Bool.false_eq_true,if_false]
   exact ih (fun z hz=>h z (by rw[List.take_succ_cons];exact List.mem_cons_of_mem _ hz)) (by simpa using hx)
theorem xr {l:List (Bool×Int)}(h:∀y∈l.take l.length,y.1=false):eL l=0:=by
 rw[List.take_length] at h
 induction l with
 | nil=>rfl
 | cons y r ih=>
  have h0:=h y (by simp)
  obtain⟨y1,y2⟩:=y
  simp only at h0
  subst h0
  simp only[eL,Bool.false_eq_true,if_false]
  exact ih fun z hz=>h z (by simp[hz])
theorem xt {m n:Int}(hm:(Lit.int .i64 m).wf=true)(hn:(Lit.int .i64 n).wf=true):(Lit.int .i64 (min m n)).wf=true∧(Lit.int .i64 (max m n)).wf=true:=by
 by_cases h:m≤n
 ·rw[Int.min_eq_left h,Int.max_eq_right h];exact⟨hm,hn⟩
 ·rw[Int.min_eq_right (by omega),Int.max_eq_left (by omega)];exact⟨hn,hm⟩
theorem pz {m n:Int}(hm:(Lit.int .i64 m).wf=true)(hn:(Lit.int .i64 n).wf=true):eKV.ok (Gr.ends m n):=xt hm hn
theorem th0:okT (0,0):=⟨by decide,by decide⟩
theorem Blk.bo {w:World}{b:Nat}{t:TypeId}{c:Bool}(h:Blk w b #[.bool c] t):(Dv (ptE cE) G0 (some c)).p (.pointer (some ⟨b,0,none⟩)) w:=
 Dv.pt.2 ⟨_,rfl,fun h=>h.elim,h.lt,_,rfl,fun i u hu=>by
  have:(Addr.mk b 0 none).add i=⟨b,i,none⟩:=by simp[Addr.add];intro h;exact h.symm
  rw[this,h.cell];simpa using hu⟩
instance (N B:Nat)(z:Value):StJ (ChT N 132) (AlA B z 4):=xp B z (by decide)
theorem xu {G:Nat→Prop}{M:Nat}(g:GT)(d:DT)(v:Value)(W:World)(h:(Dv (ptE (grE M)) G (some g)).p v W)(hw:(Lit.int .i64 d.2.1).wf=true)(hw2:(Lit.int .i64 d.2.2.1).wf=true) :
  Calls Tryz.prog 124 #[v,dtV d] W (Post (E (I (bK g d))) W):=by
 refine eN [v,dtV d] [Dv (ptE (grE M)) G0 (some g),Dv dtE G0 d] Tryz.func124 Tryz.ntmps124 ?_ fun a hf=>?_
 rotate_left
 dsimp only[params,Nat.reduceAdd] at hf
 rotate_right
 ·exact arg2 (Dv.weak h fun b _ hb=>hb.elim) (Dv.dt.2 rfl)
 have e:=Ext.rfl' W
 refine seq <| ab <| eK hf rfl (by decide) (fun _ h=>h.elim) fun a w e' hf=>?_
 replace e:=e.tr e'
 refine eK hf rfl (by decide) (fun _ h=>h.elim) fun a w e' hf=>?_
 replace e:=e.tr e'
 refine tA hf rfl fun a hf=>aa ?_
 obtain⟨N,hN⟩:=eqX w.heap.size
 have hNW:W.heap.size≤N:=by rw[hN];exact e.size
 replace hf:=hf.upd 2 rfl (fun v hv=>Dv.weak (G':=fun b=>N≤b) hv (fun b hb hn=>absurd hb (by omega)))
 replace hf:=hf.upd 3 rfl (fun v hv=>Dv.weak (G':=fun b=>N≤b) hv (fun b hb hn=>absurd hb (by omega)))
 have hNs:N≤w.heap.size:=Nat.le_of_eq hN
 replace hf:=hf.kp [2,3,4]
 refine seq <| cF 13 [1,1,1,1,1,1,1,1,1,1,0,2] (ChT N 132) (ChT.rel _ _) (fun w=>True) (fun w w1 k h=>trivial) Mix.mix hf (by decide +kernel) (by decide +kernel) <| jf (fun w1 h1=>ldD T26 (isR rfl)) <| jf (fun w1 h1=>dj (isR rfl)) <| jf (fun w1 h1=>ax cX rfl cJ (by decide) (Fld.fst Fld.refl) (isR rfl)) <| jf (fun w1 h1=>ldD cJ (isR rfl)) <| jf (fun w1 h1=>ax bE rfl T3 (by decide) (Fld.snd (Fld.fst Fld.refl) rfl) (isR rfl)) <| jf (fun w1 h1=>ldI T3 (isR rfl)) <| jf (fun w1 h1=>ij (V:=vKV) (i:=d.2.1) (z:=(0,0)) fv (eI cL) th0 (isR rfl) rfl hw) <| jf (fun w1 h1=>mv rfl) <| jf (fun w1 h1=>aV rfl rfl) <| jf (fun w1 h1=>aV rfl rfl) <| ja (alD cL) <| jk (alD I4) <| jx (xst cU rfl hNs rfl rfl (fun v w hv=>by obtain⟨c,rfl,_⟩:=hv;exact⟨_,rfl,rfl,bk rfl rfl⟩)) ?_
 refine je <| fun a w hc HF hf=>?_
 try dsimp only[push] at hf
 obtain⟨_,⟨b6,hb6,rfl,B6⟩,hf⟩:=hf.fix 6 rfl
 replace e:=e.ch hc.chg (fun b hb=>by omega);replace hNs:=Nat.le_trans hNs hc.chg.size;clear hc
 haveI:InR (fun b=>N≤b) (some b6):=⟨fun b hb=>by cases hb;omega⟩
 replace hf:=hf.kp [2,3,4,6,22]
 refine aI T4 hf rfl rfl rfl B6 (by decide) fun w hg hsz B6 hf=>?_
 obtain⟨e,hNs⟩:=gr2 hg e hNs
 refine aa ?_
 replace B6:Blk w b6 #[.bool (inV g.1 d.2.1)] 4:=B6
 replace hf:=hf.kp [2,3,4,6]
 have hq2:=hNs
 refine seq <| cF 13 [1,1,1,1,1,1,1,1,1,1,0,2] (ChT N 132) (ChT.rel _ _) (fun w=>True) (fun w w1 k h=>trivial) Mix.mix hf (by decide +kernel) (by decide +kernel) <| jf (fun w1 h1=>ldD T26 (isR rfl)) <| jf (fun w1 h1=>dj (isR rfl)) <| jf (fun w1 h1=>ax cX rfl cJ (by decide) (Fld.fst Fld.refl) (isR rfl)) <| jf (fun w1 h1=>ldD cJ (isR rfl)) <| jf (fun w1 h1=>ax bE rfl T3 (by decide) (Fld.snd (Fld.snd (Fld.fst Fld.refl) rfl) rfl) (isR rfl)) <| jf (fun w1 h1=>ldI T3 (isR rfl)) <| jf (fun w1 h1=>ij (V:=vKV) (i:=d.2.2.1) (z:=(0,0)) fv (eI cL) th0 (isR rfl) rfl hw2) <| jf (fun w1 h1=>mv rfl) <| jf (fun w1 h1=>aV rfl rfl) <| jf (fun w1 h1=>aV rfl rfl) <| ja (alD cL) <| jk (alD I4) <| jx (xst cU rfl hNs rfl rfl (fun v w hv=>by obtain⟨c,rfl,_⟩:=hv;exact⟨_,rfl,rfl,bk rfl rfl⟩)) ?_
 refine je <| fun a w hc HF hf=>?_
 try dsimp only[push] at hf
 obtain⟨_,⟨b8,hb8,rfl,B8⟩,hf⟩:=hf.fix 8 rfl
 have n68:b6≠b8:=by have:=B6.lt;omega
 replace e:=e.ch hc.chg (fun b hb=>by omega);replace hNs:=Nat.le_trans hNs hc.chg.size;replace B6:=B6.chT hc (by decide);clear hc
 haveI:InR (fun b=>N≤b) (some b8):=⟨fun b hb=>by cases hb;omega⟩
 replace hf:=hf.kp [2,3,4,6,8,32]
 refine aI T4 hf rfl rfl rfl B8 (by decide) fun w hg hsz B8 hf=>?_
 obtain⟨e,hNs⟩:=gr2 hg e hNs
 replace B6:=B6.gr hg n68
 refine aa ?_
 replace B8:Blk w b8 #[.bool (inV g.1 d.2.2.1)] 4:=B8
 replace hf:=hf.kp [2,3,4,6,8]
 refine seq <| cF 16 [1,1,1,1,1,1,1,1,1,1,1,1,1,0,2] (ChT N 132) (ChT.rel _ _) (fun w=>True) (fun w w1 k h=>trivial) Mix.mix hf (by decide +kernel) (by decide +kernel) <| jf (fun w1 h1=>ldD T26 (isR rfl)) <| jf (fun w1 h1=>dj (isR rfl)) <| jf (fun w1 h1=>ax cX rfl cK (by decide) (Fld.snd Fld.refl rfl) (isR rfl)) <| jf (fun w1 h1=>ldD cK (isR rfl)) <| jf (fun w1 h1=>ax bE rfl T3 (by decide) (Fld.snd (Fld.fst Fld.refl) rfl) (isR rfl)) <| jf (fun w1 h1=>ldI T3 (isR rfl)) <| jf (fun w1 h1=>ax bE rfl T3 (by decide) (Fld.snd (Fld.snd (Fld.fst Fld.refl) rfl) rfl) (isR rfl)) <| jf (fun w1 h1=>ldI T3 (isR rfl)) <| jf (fun w1 h1=>aw (A:=E (enV (Gr.ends d.2.1 d.2.2.1))) oG rfl rfl (fun v u w he h h'=>by cases h;cases h';exact pk d.2.1 d.2.2.1 w)) ?_
 refine jf (fun w1 h1=>ij (V:=eKV) (i:=Gr.ends d.2.1 d.2.2.1) (z:=(0,0)) eP (eI cL) th0 (isR rfl) rfl (pz hw hw2)) <| jf (fun w1 h1=>mv rfl) <| jf (fun w1 h1=>aV rfl rfl) <| jf (fun w1 h1=>aV rfl rfl) <| ja (alD cL) <| jk (alD I4) <| jx (xst cU rfl hNs rfl rfl (fun v w hv=>by obtain⟨c,rfl,_⟩:=hv;exact⟨_,rfl,rfl,bk rfl rfl⟩)) ?_
 refine je <| fun a w hc HF hf=>?_
 try dsimp only[push] at hf
 obtain⟨_,⟨b10,hb10,rfl,B10⟩,hf⟩:=hf.fix 10 rfl
 have n610:b6≠b10:=by have:=B6.lt;omega
 have n810:b8≠b10:=by have:=B8.lt;omega
 replace e:=e.ch hc.chg (fun b hb=>by omega);replace hNs:=Nat.le_trans hNs hc.chg.size;replace B6:=B6.chT hc (by decide);replace B8:=B8.chT hc (by decide);clear hc
 haveI:InR (fun b=>N≤b) (some b10):=⟨fun b hb=>by cases hb;omega⟩
 replace hf:=hf.kp [2,3,4,6,8,10,45]
 refine aI T4 hf rfl rfl rfl B10 (by decide) fun w hg hsz B10 hf=>?_
 obtain⟨e,hNs⟩:=gr2 hg e hNs
 replace B6:=B6.gr hg n610;replace B8:=B8.gr hg n810
 refine aa ?_
 replace B10:Blk w b10 #[.bool (inE g.2 d.2.1 d.2.2.1)] 4:=B10
 replace hf:=hf.keep [2,3,4,6,8,10]
 obtain⟨p2,hp2,hf⟩:=hf.fix 2 rfl
 obtain⟨p3,hp3,hf⟩:=hf.fix 3 rfl
 refine seq <| seq ?_
 refine rgN 19 hf <| st (fT rfl) <| st (bB [(0,_),(1,_)] rfl (bTs _ _ _)) <| st (fT rfl) <| st (bB [(0,_),(1,_)] rfl (bTs _ _ _)) <| st (fT rfl) <| st (bB [(0,_),(1,_)] rfl (bTs _ _ _)) <| st (gT rfl rfl) <| st (bB [(0,_),(1,_)] rfl (bTs _ _ _)) <| st (wM rfl rfl rfl) <| st (bB [(0,_),(1,_)] rfl (bTs _ _ _)) <| st (gT rfl rfl) <| st (bB [(0,_),(1,_)] rfl (bTs _ _ _)) <| st (gT rfl rfl) <| st (bB [(0,_),(1,_)] rfl (bTs _ _ _)) <| st (gT rfl rfl) <| st (bB [(0,_),(1,_)] rfl (bTs _ _ _)) <| st (eU (e:=tsE Tryz.prog) (G:=G0) (zs:=tests g d) (xs:=[.tmp 47,.tmp 49,.tmp 51,.tmp 53,.tmp 55,.tmp 57,.tmp 59,.tmp 61]) li oa rfl rfl (by decide) (by decide) rfl (fun b hb=>hb.elim)  ⟨isE rfl (Dv.ts' vP (fun w' k=>xa d w' p3 (Dv.hp hp3 k))),isE rfl (Dv.ts' vQ (fun w' k=>xb d w' p3 (Dv.hp hp3 k))),isE rfl (Dv.ts' vT (fun w' k=>xc d w' p3 (Dv.hp hp3 k))), isE rfl (Dv.ts' vU (fun w' k=>xd d w' p3 _ _ (Dv.hp hp3 k) (Dv.hp B6.bo k))),isE rfl (Dv.ts' vV (fun w' k=>xe d w' p3 _ _ _ _ (Dv.hp hp3 k) (Dv.hp B6.bo k) (Dv.hp B8.bo k))),isE rfl (Dv.ts' vW (fun w' k=>xg d w' p3 _ _ (Dv.hp hp3 k) (Dv.hp B10.bo k))), isE rfl (Dv.ts' vX (fun w' k=>xh d w' p3 _ _ (Dv.hp hp3 k) (Dv.hp B10.bo k))),isE rfl (Dv.ts' vY (fun w' k=>xl g d M w' p3 p2 (Dv.hp hp3 k) (Dv.hp hp2 k))),trivial⟩) <| st (aB li (isR rfl)) <| st (mv rfl) <| en fun a w e' hf=>?_
 replace e:=e.tr e'
 refine aa ?_
 obtain⟨W4,hW4⟩:=eqX w
 have hNW4:W.heap.size≤W4.heap.size:=by rw[hW4];exact e.size
 replace hf:=hf.upd 62 rfl (fun v hv=>Dv.weak (G':=GB W4 G0) hv (fun b hb hn=>hn.elim id fun hn=>absurd hb (by rw[← hW4];omega)))
 have hNs4:W4.heap.size≤w.heap.size:=by rw[hW4];exact Nat.le_refl _
 replace hf:=hf.upd (B:=E (I (8:Nat))) 63 rfl (fun v hv=>hv)
 replace hf:=hf.keep [4,62,63,64]
 refine blk (aF (fun r0 a w=>∃(k:Nat) ,r0=8 - k∧k≤8∧Fr 74 a w [(4,E (I 0)),(62,Dv (slE (tsE Tryz.prog)) (GB W4 G0) (tests g d)),(63,E (I (8:Nat))),(64,E (I k))]∧Ext W w∧W4.heap.size≤w.heap.size∧(∀y∈(tests g d).take k,y.1=false)) 8 ⟨0,rfl,by omega,hf,e,⟨hNs4,by simp⟩⟩ ?_)
 rintro r0 a w ⟨k,rfl,hk,hf,e,hNs4,hn⟩
 refine seq <| rgN 1 hf <| st (lss rfl rfl) <| en fun a w e' hf=>?_
 obtain⟨hNs4,e⟩:=up2 e' hNs4 e
 refine aa <| seq <| ifc hf rfl (fun hc=>ah ?_) (fun hc=>aC ?_)
 rotate_left
 rotate_left
 ·have hlt:=ltC hc
  replace hf:=hf.kp [4,62,63,64]
  refine seq <| blk ?_
  have hg:=List.getElem?_eq_getElem (show k<(tests g d).length from hlt)
  generalize (tests g d)[k]'hlt=x at hg
  refine seq <| ab <| tP hf (aD li uG (isR rfl) rfl (by omega) (hg)) fun a w e' hf=>?_
  obtain⟨hNs4,e⟩:=up2 e' hNs4 e
  refine tP hf (ldD nY (isR rfl)) fun a w e' hf=>?_
  obtain⟨hNs4,e⟩:=up2 e' hNs4 e
  obtain⟨v67,h67,hf⟩:=hf.fix 67 rfl
  obtain⟨id0,caps,rfl,hEn,hCa⟩:=Dv.ts h67
  replace hf:=hf.kp [4,62,63,64,67]
  haveI hiW:∀b,W4.heap.size≤b→∀G0,InR (GB W4 G0) (some b):=fun b hb G0=>InR.gb hb
  have e2:=Ext.rfl' w
  refine tL oa hf fun a b12 w e' hb12 hs12 B12 hf=>?_
  obtain⟨hNs4,e2,e⟩:=up3 e' hNs4 e2 e
  haveI hib:=hiW b12 (by omega)
  refine az nY hf rfl rfl (bk rfl rfl) B12 rfl rfl fun w hg' hsz B12 hf=>?_
  replace e2:=e2.gr hg' (by omega)
  have hCa':∀w',Ext w w'→Calls Tryz.prog id0 caps w' (Post (E (.bool x.1)) w'):=fun w' he=>hCa w' (e2.tr he)
  replace e:=e.gr hg' (by omega);replace hNs4:=Nat.le_trans hNs4 hg'.size;clear hg'
  refine aa ?_
  replace hf:=hf.keep [4,12,62,63,64]
  refine seq <| rgN 3 hf <| st (fA oK rfl T29 rfl) <| st ((ld1 T29 rfl (by assumption) rfl).eq ((rfl:_=Value.func (.func id0) #[] caps))) <| st (wN hEn rfl (fun w he=>hCa' w he)) <| en fun a w e' hf=>?_
  obtain⟨hNs4,e,B12⟩:=up3 e' hNs4 e B12
  refine aa <| ifc hf rfl (fun hb=>?_) (fun hb=>?_)
  ·refine seq <| rgN 2 hf <| st (fA oK rfl T63 rfl) <| st (ld1 T63 rfl (by assumption) rfl) <| en fun a w e' hf=>?_
   obtain⟨hNs4,e,B12⟩:=up3 e' hNs4 e B12
   refine tA hf rfl fun a hf=>aa <| ai <| am rfl hf rfl ?_
   rintro _ rfl
   exact⟨_,rfl,e,(congrArg I (by rw[bK];exact (xq hn hg hb).symm))⟩
  ·refine ah <| rgN 1 hf <| st ((add rfl rfl (by omega)).eq (iN k)) <| en fun a w e' hf=>?_
   obtain⟨hNs4,e,B12⟩:=up3 e' hNs4 e B12
   refine tP hf (mv rfl) fun a w e' hf=>?_
   obtain⟨hNs4,e,B12⟩:=up3 e' hNs4 e B12
   refine aa ?_
   replace hf:=hf.keep [4,62,63,64]
   refine⟨_,?_,k+1,rfl,by omega,hf,e,?_⟩
   ·omega
   exact⟨hNs4,lA (p:=fun y:Bool×Int=>y.1) hn hg hb⟩
 ·obtain rfl:=dnE hc hk
  refine seq <| ab <| tA hf rfl fun a hf=>aa <| ai <| am rfl hf rfl ?_
  rintro _ rfl
  exact⟨_,rfl,e,(congrArg I (by rw[bK,xr (show ∀y∈(tests g d).take (tests g d).length,y.1=false from hn)]))⟩
structure GrR (w:World)(bg bv be n:Nat)(g:GT):Prop where
 blk:Blk w bg #[.map (some bv),.map (some be)] 130
 vs:MpR vKV w bv n g.1
 es:MpR eKV w be n g.2
 ne:bv≠be
theorem MpR.neB {P:Program}{α β:Type}[DecidableEq α]{V:KV P α β}{w:World}{b c n:Nat}{l:List (α×β)}{cs:Array Value}{t:TypeId}(h:MpR V w b n l)(k:Blk w c cs t):b≠c:=by
 rintro rfl
 obtain⟨D,⟨es,clock,hb,_⟩,_⟩:=h
 rw[k] at hb;cases hb
section
variable {w w':World}{bg bv be n:Nat}{g:GT}
theorem GrR.n1 (h:GrR w bg bv be n g):bv≠bg∧be≠bg:=⟨h.vs.neB h.blk,h.es.neB h.blk⟩
theorem GrR.ext (h:GrR w bg bv be n g)(e:Ext w w'):GrR w' bg bv be n g:=⟨h.blk.ext e,h.vs.ext e,h.es.ext e,h.ne⟩
instance:Ug w w' (GrR w bg bv be n g) (GrR w' bg bv be n g):=⟨fun e h=>h.ext e⟩
theorem GrR.perm (h:GrR w bg bv be n g){g':GT}(h1:g.1.Perm g'.1)(h2:g.2.Perm g'.2):GrR w bg bv be n g':=⟨h.blk,h.vs.perm h1,h.es.perm h2,h.ne⟩
theorem GrR.mono (h:GrR w bg bv be n g){m:Nat}(hm:n≤m):GrR w bg bv be m g:=⟨h.blk,h.vs.mono hm,h.es.mono hm,h.ne⟩
theorem GrR.dv (h:GrR w bg bv be n g){N:Nat}(hN:n≤N){G:Nat→Prop}(h1:¬G bg)(h2:¬G bv)(h3:¬G be):(Dv (ptE (grE N)) G (some g)).p (.pointer (some ⟨bg,0,none⟩)) w:=
 Dv.pt.2 ⟨_,rfl,h1,h.blk.lt,_,⟨_,_,rfl,⟨bv,n,rfl,h2,hN,h.vs⟩,⟨be,n,rfl,h3,hN,h.es⟩⟩,fun i u hu=>by
  have:(Addr.mk bg 0 none).add i=⟨bg,i,none⟩:=by simp[Addr.add];intro h;exact h.symm
  rw[this,h.blk.cell];simpa using hu⟩
end
theorem bGr (p q:Option Nat):Tryz.prog.built 130 [(0,.map p),(1,.map q)]=some #[.map p,.map q]:=by kernel_rfl
theorem bTh (c:Int×Int):Tryz.prog.built 132 [(0,.int .u8 c.1),(1,.int .i64 c.2)]=some #[.int .u8 c.1,.int .i64 c.2]:=by kernel_rfl
theorem pA (W:World):Calls Tryz.prog 42 #[] W fun en w'=>∃bg bv be,en=.returned (.pointer (some ⟨bg,0,none⟩))∧Ext W w'∧W.heap.size≤bg∧W.heap.size≤bv∧W.heap.size≤be∧GrR w' bg bv be 0 ([],[]):=by
 refine enter (args:=[]) (As:=([]:List VA)) Tryz.func42 rfl Tryz.ntmps42 (Nat.le_of_ble_eq_true rfl) ?_ (fun a hf=>?_) (Nat.le_of_ble_eq_true rfl)
 ·intro i A h;simp at h
 have e:=Ext.rfl' W
 refine seq <| ab <| tA hf rfl fun a hf=>aa <| seq <| rgN 0 hf <| en fun a w e' hf=>?_
 replace e:=e.tr e';clear e'
 refine ep vKV hf (by decide) fun a b1 w e' hb1 hs1 M1 hf=>?_
 have hle1:=Nat.le_trans e.size (Nat.le_of_eq hb1.symm)
 replace e:=e.tr e';clear e'
 refine ep eKV hf (by decide) fun a b2 w e' hb2 hs2 M2 hf=>?_
 have hle2:=Nat.le_trans e.size (Nat.le_of_eq hb2.symm)
 replace e:=e.tr e';replace M1:=M1.ext e';clear e'
 refine tP hf (bB [(0,_),(1,_)] rfl (bGr (some b1) (some b2))) fun a w e' hf=>?_
 replace e:=e.tr e';replace M1:=M1.ext e';replace M2:=M2.ext e';clear e'
 refine tB hf rfl fun a b4 w v4 hv4 e' hb4 hs4 B4 hf=>?_
 cases hv4
 have hle4:=Nat.le_trans e.size (Nat.le_of_eq hb4.symm)
 replace e:=e.tr e';replace M1:=M1.ext e';replace M2:=M2.ext e';clear e'
 refine tA hf rfl fun a hf=>aa <| ai <| am rfl hf rfl ?_
 rintro _ rfl
 exact⟨b4,b1,b2,rfl,e,hle4,hle1,hle2,B4,M1,M2,by omega⟩
theorem xw (g:GT)(d:DT)(bg bv be n:Nat)(W:World)(hg:GrR W bg bv be n g)(hn:n<maxLen)(h1:vKV.ok d.2.1)(h2:okT d.2.2.2) :
  Calls Tryz.prog 162 #[.pointer (some ⟨bg,0,none⟩),dtV d] W fun en w'=>en=.returned (.tuple #[])∧Chg (fun b=>b=bv∨b=be) W w'∧GrR w' bg bv be (n+1) (aT g.1 d.2.1 d.2.2.2,g.2):=by
 refine eN [.pointer (some ⟨bg,0,none⟩),dtV d] [E (.pointer (some ⟨bg,0,none⟩)),E (dtV d)] Tryz.func162 Tryz.ntmps162 ?_ fun a hf=>?_
 rotate_left
 rotate_right
 ·exact arg2 rfl rfl
 have e:=Ext.rfl' W
 have BG:=hg.blk;have MV:=hg.vs;have ME:=hg.es
 refine seq <| ab <| tB hf rfl fun a b3 w v3 hv3 e' hb3 hs3 B3 hf=>?_
 obtain⟨e,BG,MV,ME⟩:=up4 e' e BG MV ME
 refine aa ?_
 cases hv3
 refine rgG 11 Mix.mix hf <| st (mv rfl) <| st (kO rfl) <| st (fA cX rfl cJ rfl) <| st (ld1 cJ rfl BG rfl) <| st (fA bE rfl T3 rfl) <| st (ld1 T3 rfl B3 rfl) <| st (fA bE rfl T5 rfl) <| st (ld1 T5 rfl B3 rfl) <| st (fA bE rfl T3 rfl) <| st (ld1 T3 rfl B3 rfl) <| st (bB [(0,_),(1,_)] rfl (bTh d.2.2.2)) <| en fun a w e' hf=>?_
 obtain⟨e,BG,MV,ME,B3⟩:=up5 e' e BG MV ME B3
 replace hf:=hf.kp [7,9,14]
 refine dW (V:=vKV) (i:=d.2.1) (c:=d.2.2.2) fv hf rfl rfl rfl MV hn h1 h2 fun w hg' MV hf=>aa <| kz rfl hf <| ⟨rfl,(e.chg _).gr hg' (.inl (.inl rfl)),BG.gr hg' hg.n1.1.symm,MV,(ME.gr hg' (fun h=>hg.ne (by cases h;rfl))).mono (Nat.le_succ _),hg.ne⟩
theorem xx (g:GT)(d:DT)(bg bv be n:Nat)(W:World)(hg:GrR W bg bv be n g)(hn:n<maxLen)(h1:eKV.ok (Gr.ends d.2.1 d.2.2.1))(h2:okT d.2.2.2) :
  Calls Tryz.prog 164 #[.pointer (some ⟨bg,0,none⟩),dtV d] W fun en w'=>en=.returned (.tuple #[])∧Chg (fun b=>b=bv∨b=be) W w'∧GrR w' bg bv be (n+1) (g.1,aT g.2 (Gr.ends d.2.1 d.2.2.1) d.2.2.2):=by
 refine eN [.pointer (some ⟨bg,0,none⟩),dtV d] [E (.pointer (some ⟨bg,0,none⟩)),E (dtV d)] Tryz.func164 Tryz.ntmps164 ?_ fun a hf=>?_
 rotate_left
 rotate_right
 ·exact arg2 rfl rfl
 have e:=Ext.rfl' W
 have BG:=hg.blk;have MV:=hg.vs;have ME:=hg.es
 refine seq <| ab <| tB hf rfl fun a b3 w v3 hv3 e' hb3 hs3 B3 hf=>?_
 obtain⟨e,BG,MV,ME⟩:=up4 e' e BG MV ME
 refine aa ?_
 cases hv3
 refine rgG 14 Mix.mix hf <| st (mv rfl) <| st (kO rfl) <| st (fA cX rfl cK rfl) <| st (ld1 cK rfl BG rfl) <| st (fA bE rfl T3 rfl) <| st (ld1 T3 rfl B3 rfl) <| st (fA bE rfl T3 rfl) <| st (ld1 T3 rfl B3 rfl) <| st (aw (A:=E (enV (Gr.ends d.2.1 d.2.2.1))) oG rfl rfl (fun v u w he h h'=>by cases h;cases h';exact pk d.2.1 d.2.2.1 w)) ?_
 refine st (fA bE rfl T5 rfl) <| st (ld1 T5 rfl B3 rfl) <| st (fA bE rfl T3 rfl) <| st (ld1 T3 rfl B3 rfl) <| st (bB [(0,_),(1,_)] rfl (bTh d.2.2.2)) <| en fun a w e' hf=>?_
 obtain⟨e,BG,MV,ME,B3⟩:=up5 e' e BG MV ME B3
 replace hf:=hf.kp [7,12,17]
 refine dW (V:=eKV) (i:=Gr.ends d.2.1 d.2.2.1) (c:=d.2.2.2) eP hf rfl rfl rfl ME hn h1 h2 fun w hg' ME hf=>aa <| kz rfl hf <| ⟨rfl,(e.chg _).gr hg' (.inl (.inr rfl)),BG.gr hg' hg.n1.2.symm,(MV.gr hg' (fun h=>hg.ne (by cases h;rfl))).mono (Nat.le_succ _),ME,hg.ne⟩
def im:Array Value := #[.func (.func 162) #[] #[],.func (.func 163) #[] #[],.func (.func 164) #[] #[],.func (.func 165) #[] #[],.func (.func 166) #[] #[],.func (.func 167) #[] #[],.func (.func 168) #[] #[],.func (.func 169) #[] #[]]
theorem xy:im.all (·.oneCell')=true:=by decide +kernel
theorem bDe:Tryz.prog.built 161 [(0,.func (.func 162) #[] #[]),(1,.func (.func 163) #[] #[]),(2,.func (.func 164) #[] #[]),(3,.func (.func 165) #[] #[]),(4,.func (.func 166) #[] #[]),(5,.func (.func 167) #[] #[]),(6,.func (.func 168) #[] #[]),(7,.func (.func 169) #[] #[])]=some im:=by kernel_rfl
theorem pC (W:World):Calls Tryz.prog 125 #[] W (Post (E (.agg im)) W):=by
 refine enter (args:=[]) (As:=([]:List VA)) Tryz.func125 rfl Tryz.ntmps125 (Nat.le_of_ble_eq_true rfl) ?_ (fun a hf=>?_) (Nat.le_of_ble_eq_true rfl)
 ·intro i A h;simp at h
 dsimp only[params,Nat.reduceAdd] at hf
 have e:=Ext.rfl' W
 refine seq <| ab <| tL uF hf fun a b0 w e' hb0 hs0 B0 hf=>?_
 replace e:=e.tr e'
 refine aa <| seq <| rgN 1 hf <| st (bB [(0,_),(1,_),(2,_),(3,_),(4,_),(5,_),(6,_),(7,_)] rfl bDe) <| en fun a w e' hf=>?_
 obtain⟨e,B0⟩:=up2 e' e B0
 haveI hinr:∀G0,InR (GB W G0) (some b0):=fun G0=>InR.gb (by omega)
 refine az nX hf rfl rfl (xy) B0 rfl (rfl) fun w hg hsz B0 hf=>?_
 replace e:=e.gr hg (by omega)
 refine aa <| ai (dP rfl nX hf rfl B0 rfl ?_)
 exact⟨_,rfl,e,rfl⟩
def doP (g:GT)(d:DT):GT:=if d.1=0 then (aT g.1 d.2.1 d.2.2.2,g.2) else (g.1,aT g.2 (Gr.ends d.2.1 d.2.2.1) d.2.2.2)
def apP (g:GT)(d:DT):GT:=if bK g d=0 then doP g d else g
theorem pD (g:GT)(d:DT)(bg bv be n:Nat)(W:World)(hg:GrR W bg bv be n g)(hn:n<maxLen)(hd:d.1=0∨d.1=2∨bK g d≠0)(hw:(Lit.int .i64 d.2.1).wf=true)(hw2:(Lit.int .i64 d.2.2.1).wf=true)(ho:okT d.2.2.2) :
  Calls Tryz.prog 89 #[.pointer (some ⟨bg,0,none⟩),dtV d] W fun en w'=>en=.returned (I (bK g d))∧Chg (fun b=>b=bv∨b=be) W w'∧GrR w' bg bv be (n+1) (apP g d):=by
 refine eN [.pointer (some ⟨bg,0,none⟩),dtV d] [E (.pointer (some ⟨bg,0,none⟩)),E (dtV d)] Tryz.func89 Tryz.ntmps89 ?_ fun a hf=>?_
 rotate_left
 dsimp only[params,Nat.reduceAdd] at hf
 rotate_right
 ·exact arg2 rfl rfl
 have e:=Ext.rfl' W
 refine seq <| ab <| tB hf rfl fun a b3 w v3 hv3 e' hb3 hs3 B3 hf=>?_
 obtain⟨e,hg⟩:=up2 e' e hg
 refine tA hf rfl fun a hf=>aa ?_
 cases hv3
 refine seq <| seq ?_
 refine rgN 2 hf <| st (mv rfl) <| st (dm U26 (isE rfl (hg.dv (Nat.le_refl _) (G:=G0) id id id))) <| en fun a w e' hf=>?_
 obtain⟨e,hg,B3⟩:=up3 e' e hg B3
 refine aa <| ifF hf rfl ?_
 refine ah ?_
 replace hf:=hf.keep [0,3,4]
 refine seq <| seq ?_
 refine rgN 3 hf <| st (mv rfl) <| st ((ldW kS rfl B3 rfl).eq ((rfl:_=dtV d))) <| st (aw (A:=E (I (bK g d))) vH rfl rfl (fun v u w he h h'=>by cases h;cases h';exact xu (M:=n) (G:=G0) g d _ w ((hg.ext he).dv (Nat.le_refl _) id id id) hw hw2)) ?_
 refine en fun a w e' hf=>?_
 obtain⟨e,hg,B3⟩:=up3 e' e hg B3
 refine tA hf rfl fun a hf=>aa <| seq <| rgN 2 hf <| st (mv rfl) <| st (neq rfl rfl) <| en fun a w e' hf=>?_
 obtain⟨e,hg,B3⟩:=up3 e' e hg B3
 refine aa <| ifc hf rfl (fun hb=>?_) (fun hb=>?_)
 ·have hb':¬bK g d=0:=by simpa using hb
  refine seq <| rgN 1 hf <| st (mv rfl) <| en fun a w e' hf=>?_
  obtain⟨e,hg,B3⟩:=up3 e' e hg B3
  refine tA hf rfl fun a hf=>aa <| ai ?_
  simp only[Exit.then,Exit.inBlock]
  refine am rfl hf rfl ?_
  rintro _ rfl
  exact⟨rfl,e.chg _,by rw[apP,if_neg hb'];exact hg.mono (Nat.le_succ _)⟩
 ·have hb':bK g d=0:=by simpa using hb
  refine ah ?_
  replace hf:=hf.kp [0,3,4]
  have fin:apP g d=doP g d:=by rw[apP,if_pos hb']
  rcases (show d.1=0∨d.1=2 from hd.elim .inl (fun h=>h.elim .inr (fun h=>absurd hb' h))) with hop|hop
  ·refine seq <| cF 7 [0,0,0,0,0,0] (Chg (fun b=>b=bv∨b=be)) (bS.chg _) (fun w=>GrR w bg bv be (n+1) (doP g d)) (fun w w1 k h=>h.ext k) Mix.mix hf (by decide +kernel) (by decide +kernel) <| ja (gN (A:=E (.agg im)) oF (fun w he=>pC w)) <| ja (fA bE rfl T3 rfl) <| ja ((ld1 T3 rfl B3 rfl).eq ((congrArg (Value.int .i64) hop:_=I 0))) <| ja (iX oJ nW rfl rfl (by decide) rfl) <| ja (mv rfl) <| ja ((ldW kS rfl B3 rfl).eq ((rfl:_=dtV d))) <| jx (oX vZ rfl rfl rfl (fun w he=>(xw g d bg bv be n w (hg.ext he) hn hw ho).mono fun en w' ⟨h1,h2,h3⟩=>⟨_,h1,h2,by rw[doP,if_pos hop];exact h3⟩)) ?_
   refine je <| fun a w hc HF hf=>aa ?_
   replace hf:=hf.keep [4]
   refine seq <| ab <| tA hf rfl fun a hf=>aa <| ai <| am rfl hf rfl ?_
   rintro _ rfl
   exact⟨by rw[hb'],(e.chg _).tr hc,by rw[fin];exact HF⟩
  ·refine seq <| cF 7 [0,0,0,0,0,0] (Chg (fun b=>b=bv∨b=be)) (bS.chg _) (fun w=>GrR w bg bv be (n+1) (doP g d)) (fun w w1 k h=>h.ext k) Mix.mix hf (by decide +kernel) (by decide +kernel) <| ja (gN (A:=E (.agg im)) oF (fun w he=>pC w)) <| ja (fA bE rfl T3 rfl) <| ja ((ld1 T3 rfl B3 rfl).eq ((congrArg (Value.int .i64) hop:_=I 2))) <| ja (iX oJ nW rfl rfl (by decide) rfl) <| ja (mv rfl) <| ja ((ldW kS rfl B3 rfl).eq ((rfl:_=dtV d))) <| jx (oX wa rfl rfl rfl (fun w he=>(xx g d bg bv be n w (hg.ext he) hn (pz hw hw2) ho).mono fun en w' ⟨h1,h2,h3⟩=>⟨_,h1,h2,by rw[doP,if_neg (by rw[hop];decide)];exact h3⟩)) ?_
   refine je <| fun a w hc HF hf=>aa ?_
   replace hf:=hf.keep [4]
   refine seq <| ab <| tA hf rfl fun a hf=>aa <| ai <| am rfl hf rfl ?_
   rintro _ rfl
   exact⟨by rw[hb'],(e.chg _).tr hc,by rw[fin];exact HF⟩
def atE (g:GT)(d:DT):Int:=if Gr.pairs d.1=true then ck g.2 d.2.1 d.2.2.1 else -1
def gm (g:GT)(d:DT):GT:=(g.1.filterMap (keepV d),bR d (atE g d) 0 g.2)
def doR (g:GT)(d:DT):GT×Int:=
 if (ct g d != 0)=true then (g,ct g d)
 else if (d.1==0)=true then ((insV g.1 (d.2.1,d.2.2.2),g.2),0)
 else if (d.1==2)=true then ((g.1,fU g.2 (Gr.ends d.2.1 d.2.2.1,d.2.2.2)),0)
 else (gm g d,0)
theorem bVt (x:VT):Tryz.prog.built 45 [(0,.int .i64 x.1),(1,.int .u8 x.2.1),(2,.int .i64 x.2.2)]=some #[.int .i64 x.1,.int .u8 x.2.1,.int .i64 x.2.2]:=by kernel_rfl
theorem bEt (x:ET):Tryz.prog.built 51 [(0,.int .i64 x.1.1),(1,.int .i64 x.1.2),(2,.int .u8 x.2.1),(3,.int .i64 x.2.2)]=some #[.int .i64 x.1.1,.int .i64 x.1.2,.int .u8 x.2.1,.int .i64 x.2.2]:=by kernel_rfl
theorem lI (x:VT):(#[.int .i64 x.1,.int .u8 x.2.1,.int .i64 x.2.2]:Array Value).all (·.oneCell')=true:=by simp[Array.all_eq_true_iff_forall_mem];exact⟨rfl,rfl,rfl⟩
theorem jt (x:ET):(#[.int .i64 x.1.1,.int .i64 x.1.2,.int .u8 x.2.1,.int .i64 x.2.2]:Array Value).all (·.oneCell')=true:=by simp[Array.all_eq_true_iff_forall_mem];exact⟨rfl,rfl,rfl,rfl⟩
theorem ju:Tryz.prog.built 25 []=some #[.slice none 0 0,.slice none 0 0]:=by kernel_rfl
theorem pE {G:Nat→Prop}(g:GT)(d:DT)(v:Value)(W:World)(h:(Dv gtE G g).p v W)(hG:∀b,G b→b<W.heap.size)(hl1:g.1.length≤100000)(hl2:g.2.length≤100000) :
  Calls Tryz.prog 97 #[v,dtV d] W (Post (Tup [Dv gtE G (doR g d).1,E (I (doR g d).2)]) W):=by
 obtain⟨u1,u2,rfl,h1,h2⟩:=Dv.gt.1 h
 obtain⟨a1,n1,c1,rfl⟩:=Dv.slF h1
 obtain⟨a2,n2,c2,rfl⟩:=Dv.slF h2
 have hbb:=Dv.toB h
 have h1b:=Dv.toB h1
 have h2b:=Dv.toB h2
 refine eN [.agg #[.slice a1 n1 c1,.slice a2 n2 c2],dtV d] [E (.agg #[.slice a1 n1 c1,.slice a2 n2 c2]),E (dtV d)] Tryz.func97 Tryz.ntmps97 ?_ fun a hf=>?_
 rotate_left
 dsimp only[params,Nat.reduceAdd] at hf
 rotate_right
 ·exact arg2 rfl rfl
 have e:=Ext.rfl' W
 refine seq <| ab <| tB hf rfl fun a b2 w v2 hv2 e' hb2 hs2 B2 hf=>?_
 replace e:=e.tr e'
 refine tB hf rfl fun a b3 w v3 hv3 e' hb3 hs3 B3 hf=>?_
 have lt3_B2:=B2.lt
 obtain⟨e,B2⟩:=up2 e' e B2
 refine tL I25 hf fun a b4 w e' hb4 hs4 B4 hf=>?_
 have hle4:=Nat.le_trans e.size (Nat.le_of_eq hb4.symm)
 have lt4_B2:=B2.lt
 obtain⟨e,B2,B3⟩:=up3 e' e B2 B3
 refine tA hf rfl fun a hf=>aa ?_
 cases hv2;cases hv3
 have fin:∀(w:World) (g':GT) (c:Int) (z:Value),Ext W w→(Dv gtE G g').p z w→doR g d=(g',c)→(Tup [Dv gtE G (doR g d).1,E (I (doR g d).2)]).p (.tuple #[z,I c]) w:=fun w g' c z e hz hd=>by rw[hd];exact Tup.two hz rfl
 have hG4:∀(w:World),b4<w.heap.size→Ext W w→∀b,G1 G b4 b→b<w.heap.size:=fun w hb4 e b hb=>hb.elim (fun hb=>Nat.lt_of_lt_of_le (hG b hb) e.size) (fun hb=>by rw[hb];exact hb4)
 have hg4:∀w,Ext W w→(Dv gtE (G1 G b4) g).p (.agg #[.slice a1 n1 c1,.slice a2 n2 c2]) w:=fun w e=>Dv.weak (vst e hbb) fun b _ hq=>hq.elim .inl (fun hq=>.inr (by rw[hq];exact hle4))
 refine seq <| seq ?_
 refine rgN 3 hf <| st ((ldW T25 rfl B2 rfl).eq ((rfl:_=Value.agg #[.slice a1 n1 c1,.slice a2 n2 c2]))) <| st ((ldW fW rfl B3 rfl).eq ((rfl:_=dtV d))) <| st (aw vI rfl rfl (fun v u w he k k'=>by cases k;cases k';exact wE g d _ w (vst (e.tr he) h) hl1 hl2)) ?_
 refine en fun a w e' hf=>?_
 obtain⟨e,B2,B3,B4⟩:=up4 e' e B2 B3 B4
 refine tA hf rfl fun a hf=>aa <| seq <| rgN 2 hf <| st (mv rfl) <| st (neq rfl rfl) <| en fun a w e' hf=>?_
 obtain⟨e,B2,B3,B4⟩:=up4 e' e B2 B3 B4
 refine aa <| ifc hf rfl (fun hb=>?_) (fun hb=>?_)
 ·refine seq <| rgN 2 hf <| st ((ldW T25 rfl B2 rfl).eq ((rfl:_=Value.agg #[.slice a1 n1 c1,.slice a2 n2 c2]))) <| st (mv rfl) <| en fun a w e' hf=>?_
  obtain⟨e,B2,B3,B4⟩:=up4 e' e B2 B3 B4
  haveI hinr:∀G0,InR (GB W G0) (some b4):=fun G0=>InR.gb (by omega)
  refine az T25 hf rfl rfl (bk rfl rfl) B4 rfl (rfl) fun w hg hsz B4 hf=>?_
  obtain⟨e,B2,B3⟩:=gr3 hg e B2 B3
  refine tA hf rfl fun a hf=>aa <| ai (fq rfl T25 hf rfl rfl B4 rfl ?_)
  rintro _ rfl
  exact⟨_,rfl,e,fin _ _ _ _ e (vst e h) (by rw[doR,if_pos hb])⟩
 refine ah ?_
 replace hf:=hf.kp [2,3,4]
 have h1n:=aO hb;clear hb
 refine seq <| seq ?_
 refine rgN 3 hf <| st (fA aN rfl T3 rfl) <| st (ld1 T3 rfl B3 rfl) <| st (eql rfl rfl) <| en fun a w e' hf=>?_
 obtain⟨e,B2,B3,B4⟩:=up4 e' e B2 B3 B4
 refine aa <| ifc hf rfl (fun hb=>?_) (fun hb=>?_)
 ·have h2p:=hb;clear hb
  refine seq <| rgN 9 hf <| st ((ldW T25 rfl B2 rfl).eq ((rfl:_=Value.agg #[.slice a1 n1 c1,.slice a2 n2 c2]))) <| st (fA aN rfl T3 rfl) <| st (ld1 T3 rfl B3 rfl) <| st (fA aN rfl T5 rfl) <| st (ld1 T5 rfl B3 rfl) <| st (fA aN rfl T3 rfl) <| st (ld1 T3 rfl B3 rfl) <| st (nR (d.2.1,d.2.2.2) (bVt _) rfl rfl rfl) <| st (aw vJ rfl rfl (fun v u w he k k'=>by cases k;cases k';exact wI (G:=G1 G b4) g _ _ w (hg4 w (e.tr he)) (hG4 w (Nat.lt_of_lt_of_le B4.lt he.size) (e.tr he)) hl1)) ?_
  refine en fun a w e' hf=>?_
  obtain⟨e,B2,B3,B4⟩:=up4 e' e B2 B3 B4
  obtain⟨z,hz,hf⟩:=hf.opn 31 rfl
  obtain⟨z1,z2,rfl,hz1,hz2⟩:=Dv.gt.1 hz
  replace hf:=hf.kp [31,4]
  refine az T25 hf rfl rfl (bk (slOne hz1) (slOne hz2)) B4 rfl rfl fun w hg hsz B4 hf=>?_
  replace e:=e.gr hg hle4;replace hz:=AvR.av (row:=some b4) _ _ _ hg hz;clear hg
  refine tA hf rfl fun a hf=>aa <| ai (fq rfl T25 hf rfl rfl B4 rfl ?_)
  rintro _ rfl
  exact⟨_,rfl,e,fin _ _ _ _ e (Dv.weak hz fun b _=>.inl) (by rw[doR,if_neg h1n,if_pos h2p])⟩
 refine ah ?_
 replace hf:=hf.kp [2,3,4]
 have h2n:=aO hb;clear hb
 refine seq <| seq ?_
 refine rgN 3 hf <| st (fA aN rfl T3 rfl) <| st (ld1 T3 rfl B3 rfl) <| st (eql rfl rfl) <| en fun a w e' hf=>?_
 obtain⟨e,B2,B3,B4⟩:=up4 e' e B2 B3 B4
 refine aa <| ifc hf rfl (fun hb=>?_) (fun hb=>?_)
 ·have h3p:=hb;clear hb
  refine seq <| rgN 17 hf <| st ((ldW T25 rfl B2 rfl).eq ((rfl:_=Value.agg #[.slice a1 n1 c1,.slice a2 n2 c2]))) <| st (fA aN rfl T3 rfl) <| st (ld1 T3 rfl B3 rfl) <| st (fA aN rfl T3 rfl) <| st (ld1 T3 rfl B3 rfl) <| st (min2 rfl rfl) <| st (fA aN rfl T3 rfl) <| st (ld1 T3 rfl B3 rfl) <| st (fA aN rfl T3 rfl) <| st (ld1 T3 rfl B3 rfl) <| st (max2 rfl rfl) <| st (fA aN rfl T5 rfl) <| st (ld1 T5 rfl B3 rfl) <| st (fA aN rfl T3 rfl) <| st (ld1 T3 rfl B3 rfl) <| st (nS (Gr.ends d.2.1 d.2.2.1,d.2.2.2) (bEt _) rfl rfl rfl rfl) <| st (aw vK rfl rfl (fun v u w he k k'=>by cases k;cases k';exact wJ (G:=G1 G b4) g _ _ w (hg4 w (e.tr he)) (hG4 w (Nat.lt_of_lt_of_le B4.lt he.size) (e.tr he)) hl2)) ?_
  refine en fun a w e' hf=>?_
  obtain⟨e,B2,B3,B4⟩:=up4 e' e B2 B3 B4
  obtain⟨z,hz,hf⟩:=hf.opn 51 rfl
  obtain⟨z1,z2,rfl,hz1,hz2⟩:=Dv.gt.1 hz
  replace hf:=hf.kp [51,4]
  refine az T25 hf rfl rfl (bk (slOne hz1) (slOne hz2)) B4 rfl rfl fun w hg hsz B4 hf=>?_
  replace e:=e.gr hg hle4;replace hz:=AvR.av (row:=some b4) _ _ _ hg hz;clear hg
  refine tA hf rfl fun a hf=>aa <| ai (fq rfl T25 hf rfl rfl B4 rfl ?_)
  rintro _ rfl
  exact⟨_,rfl,e,fin _ _ _ _ e (Dv.weak hz fun b _=>.inl) (by rw[doR,if_neg h1n,if_neg h2n,if_pos h3p])⟩
 refine ah ?_
 replace hf:=hf.kp [2,3,4]
 have h3n:=aO hb;clear hb
 have hdo:doR g d=(gm g d,0):=by rw[doR,if_neg h1n,if_neg h2n,if_neg h3n]
 refine seq <| rgN 1 hf <| st (bB [] rfl ju) <| en fun a w e' hf=>?_
 obtain⟨e,B2,B3,B4⟩:=up4 e' e B2 B3 B4
 refine tL I25 hf fun a b7 w e' hb7 hs7 B7 hf=>?_
 have lt7_B3:=B3.lt
 have lt7_B4:=B4.lt
 obtain⟨e,B2,B3,B4⟩:=up4 e' e B2 B3 B4
 haveI hinr:∀G0,InR (GB W G0) (some b7):=fun G0=>InR.gb (by omega)
 refine az T25 hf rfl rfl (bk rfl rfl) B7 rfl (rfl) fun w hg hsz B7 hf=>?_
 obtain⟨e,B2,B3,B4⟩:=gr4 hg e B2 B3 B4
 refine aa ?_
 have hlE:=fun (k:Nat)=>Nat.le_trans (iZ d (atE g d) 0 (g.2.take k)) (List.length_take_le k g.2)
 have hlV:=fun (k:Nat)=>Nat.le_trans (List.length_filterMap_le (keepV d) (g.1.take k)) (List.length_take_le k g.1)
 replace hf:=hf.kp [2,3,4,7]
 refine seq <| seq ?_
 refine ab <| tA hf rfl fun a hf=>aa ?_
 replace hf:=hf.kp [2,3,4,7,8]
 refine blk (aF (fun r0 a w=>∃(k:Nat) (u:Value),r0=g.1.length - k∧k≤g.1.length∧Fr 183 a w [(2,E (.pointer (some ⟨b2,0,none⟩))),(3,E (.pointer (some ⟨b3,0,none⟩))),(4,E (.pointer (some ⟨b4,0,none⟩))),(7,E (.pointer (some ⟨b7,0,none⟩))),(8,E (I k))]∧Ext W w∧Blk w b2 #[.slice a1 n1 c1,.slice a2 n2 c2] 25∧Blk w b3 (dtV d).cells 143∧Blk w b4 #[.slice none 0 0,.slice none 0 0] 25∧Blk w b7 #[u,.slice none 0 0] 25∧OwR vtE 45 (b7+1) G w ((g.1.take k).filterMap (keepV d)) u) g.1.length ⟨0,.slice none 0 0,rfl,by omega,hf,e,⟨B2,B3,B4,B7,OwR.nil vtE _ (by have:=B7.lt;omega) fun b hb=>Nat.lt_of_lt_of_le (hG b hb) (by omega)⟩⟩ ?_)
 rintro r0 a w ⟨k,u,rfl,hk,hf,e,B2,B3,B4,B7,Ho⟩
 refine seq <| seq ?_
 refine rgN 5 hf <| st (mv rfl) <| st (fA U25 rfl T22 rfl) <| st (ld1 T22 rfl (by assumption) rfl) <| st (aB U22 (isE rfl (vst e h1))) <| st (lss rfl rfl) <| en fun a w e' hf=>?_
 obtain⟨e,B2,B3,B4,B7,Ho⟩:=up6 e' e B2 B3 B4 B7 Ho
 refine aa <| ifc hf rfl (fun hc=>ah ?_) (fun hc=>aC ?_)
 rotate_left
 rotate_left
 ·have hlt:=ltC hc
  replace hf:=hf.kp [2,3,4,7,8]
  refine seq <| blk ?_
  have hg:=List.getElem?_eq_getElem hlt
  generalize g.1[k]=y at hg
  have hs:=uB d hg
  have hlk:=hlV k
  refine seq <| ab <| tP hf (fA U25 rfl T22 rfl) fun a w e' hf=>?_
  obtain⟨Ho,e,B2,B3,B4,B7⟩:=up6 e' Ho e B2 B3 B4 B7
  refine tP hf (ld1 T22 rfl B2 rfl) fun a w e' hf=>?_
  obtain⟨Ho,e,B2,B3,B4,B7⟩:=up6 e' Ho e B2 B3 B4 B7
  refine tP hf (mv rfl) fun a w e' hf=>?_
  obtain⟨Ho,e,B2,B3,B4,B7⟩:=up6 e' Ho e B2 B3 B4 B7
  refine tP hf (aD U22 S45 (isE rfl (vst e h1b)) rfl (by omega) (hg)) fun a w e' hf=>?_
  obtain⟨Ho,e,B2,B3,B4,B7⟩:=up6 e' Ho e B2 B3 B4 B7
  refine tP hf (fV T45 (isR rfl)) fun a w e' hf=>?_
  obtain⟨Ho,e,B2,B3,B4,B7⟩:=up6 e' Ho e B2 B3 B4 B7
  refine tL I45 hf fun a b9 w e' hb9 hs9 B9 hf=>?_
  have hle9:=Nat.le_trans e.size (Nat.le_of_eq hb9.symm)
  have ne9_Ho:=Ho.ne_new hb9
  have lt9_B2:=B2.lt
  have lt9_B3:=B3.lt
  have lt9_B4:=B4.lt
  have lt9_B7:=B7.lt
  obtain⟨Ho,e,B2,B3,B4,B7⟩:=up6 e' Ho e B2 B3 B4 B7
  have n9:=ne9_Ho
  replace hf:=hf.kp [2,3,4,7,8,9,64]
  refine az T45 hf rfl rfl (lI y) B9 rfl rfl fun w hg' hsz B9 hf=>?_
  replace e:=e.gr hg' (by omega);replace B2:=B2.gr hg' (by omega);replace B3:=B3.gr hg' (by omega);replace B4:=B4.gr hg' (by omega);replace B7:=B7.gr hg' (by omega);replace Ho:=Ho.grE hg' n9;clear hg'
  refine aa ?_
  replace hf:=hf.kp [2,3,4,7,8,9]
  refine seq <| seq ?_
  refine rgN 10 hf <| st (fA U45 rfl T3 rfl) <| st (ld1 T3 rfl B9 rfl) <| st (fA aN rfl T3 rfl) <| st (ld1 T3 rfl B3 rfl) <| st (eql rfl rfl) <| st (mv rfl) <| sgE rfl rfl (.k 3 rfl .n) (fun hgd=>fA aN rfl T3 rfl) <| sgE rfl rfl (.c 71 rfl (fun h=>h) .n) (fun hgd=>ld1 T3 rfl B3 rfl) <| sgE rfl rfl (.c 72 rfl (fun h=>h) .n) (fun hgd=>eql rfl rfl) <| st (bA rfl rfl (fun h=>by rw[h];rfl)) ?_
  refine en fun a w e' hf=>?_
  obtain⟨Ho,e,B2,B3,B4,B7,B9⟩:=up7 e' Ho e B2 B3 B4 B7 B9
  refine aa <| ifc hf rfl (fun hb=>?_) (fun hb=>?_)
  ·refine aC ?_
   replace hf:=hf.kp [2,3,4,7,8]
   refine rgN 2 hf <| st (mv rfl) <| st ((add rfl rfl (by omega)).eq (iN k)) <| en fun a w e' hf=>?_
   obtain⟨Ho,e,B2,B3,B4,B7⟩:=up6 e' Ho e B2 B3 B4 B7
   refine tA hf rfl fun a hf=>aa ?_
   replace hf:=hf.kp [2,3,4,7,8]
   refine⟨_,?_,k+1,u,rfl,by omega,hf,e,?_⟩
   ·omega
   rw[hs,keepV,if_pos hb]
   exact⟨B2,B3,B4,B7,by simpa using Ho⟩
  refine ah ?_
  have hkv:=aO hb;clear hb
  replace hf:=hf.kp [2,3,4,7,8,9]
  repeat refine seq ?_
  refine rgN 10 hf <| st (fA U45 rfl T3 rfl) <| st (ld1 T3 rfl B9 rfl) <| st (fA aN rfl T3 rfl) <| st (ld1 T3 rfl B3 rfl) <| st (eql rfl rfl) <| st (mv rfl) <| sgE rfl rfl (.k 3 rfl .n) (fun hgd=>fA aN rfl T3 rfl) <| sgE rfl rfl (.c 81 rfl (fun h=>h) .n) (fun hgd=>ld1 T3 rfl B3 rfl) <| sgE rfl rfl (.c 82 rfl (fun h=>h) .n) (fun hgd=>eql rfl rfl) <| st (bA rfl rfl (fun h=>by rw[h];rfl)) ?_
  refine en fun a w e' hf=>?_
  obtain⟨Ho,e,B2,B3,B4,B7,B9⟩:=up7 e' Ho e B2 B3 B4 B7 B9
  refine aa <| cut (J:=fun a w=>Fr 183 a w [(2,E (.pointer (some ⟨b2,0,none⟩))),(3,E (.pointer (some ⟨b3,0,none⟩))),(4,E (.pointer (some ⟨b4,0,none⟩))),(7,E (.pointer (some ⟨b7,0,none⟩))),(8,E (I k)),(9,E (.pointer (some ⟨b9,0,none⟩)))]∧Ext W w∧Blk w b2 #[.slice a1 n1 c1,.slice a2 n2 c2] 25∧Blk w b3 (dtV d).cells 143∧Blk w b4 #[.slice none 0 0,.slice none 0 0] 25∧Blk w b7 #[u,.slice none 0 0] 25∧Blk w b9 #[.int .i64 y.1,.int .u8 (if (y.1==d.2.1&&d.1==4)=true then d.2.2.2.1 else y.2.1),.int .i64 y.2.2] 45∧OwR vtE 45 (b7+1) G w ((g.1.take k).filterMap (keepV d)) u) ?_ (fun a w hJ=>?_)
  ·repeat refine seq ?_
   refine ifc hf rfl (fun hb=>?_) (fun hb=>?_)
   ·replace hf:=hf.kp [2,3,4,7,8,9]
    refine rgN 3 hf <| st (fA aN rfl T5 rfl) <| st (ld1 T5 rfl B3 rfl) <| st (fA U45 rfl T5 rfl) <| en fun a w e' hf=>?_
    obtain⟨Ho,e,B2,B3,B4,B7,B9⟩:=up7 e' Ho e B2 B3 B4 B7 B9
    refine aI T5 hf rfl rfl (rfl) B9 (by simp) fun w hg hsz B9 hf=>?_
    obtain⟨e,B2,B3,B4,B7⟩:=gr5 hg e B2 B3 B4 B7
    replace Ho:=Ho.grE hg n9
    refine aa ?_
    rw[if_pos hb]
    replace hf:=hf.kp [2,3,4,7,8,9]
    exact⟨rfl,hf,e,B2,B3,B4,B7,B9,Ho⟩
   ·refine ah ?_
    rw[if_neg (aO hb)]
    replace hf:=hf.kp [2,3,4,7,8,9]
    exact⟨rfl,hf,e,B2,B3,B4,B7,B9,Ho⟩
  obtain⟨hf,e,B2,B3,B4,B7,B9,Ho⟩:=hJ
  repeat refine seq ?_
  refine rgN 10 hf <| st (fA U45 rfl T3 rfl) <| st (ld1 T3 rfl B9 rfl) <| st (fA aN rfl T3 rfl) <| st (ld1 T3 rfl B3 rfl) <| st (eql rfl rfl) <| st (mv rfl) <| sgE rfl rfl (.k 3 rfl .n) (fun hgd=>fA aN rfl T3 rfl) <| sgE rfl rfl (.c 94 rfl (fun h=>h) .n) (fun hgd=>ld1 T3 rfl B3 rfl) <| sgE rfl rfl (.c 95 rfl (fun h=>h) .n) (fun hgd=>eql rfl rfl) <| st (bA rfl rfl (fun h=>by rw[h];rfl)) ?_
  refine en fun a w e' hf=>?_
  obtain⟨Ho,e,B2,B3,B4,B7,B9⟩:=up7 e' Ho e B2 B3 B4 B7 B9
  refine aa <| cut (J:=fun a w=>Fr 183 a w [(2,E (.pointer (some ⟨b2,0,none⟩))),(3,E (.pointer (some ⟨b3,0,none⟩))),(4,E (.pointer (some ⟨b4,0,none⟩))),(7,E (.pointer (some ⟨b7,0,none⟩))),(8,E (I k)),(9,E (.pointer (some ⟨b9,0,none⟩)))]∧Ext W w∧Blk w b2 #[.slice a1 n1 c1,.slice a2 n2 c2] 25∧Blk w b3 (dtV d).cells 143∧Blk w b4 #[.slice none 0 0,.slice none 0 0] 25∧Blk w b7 #[u,.slice none 0 0] 25∧Blk w b9 #[.int .i64 y.1,.int .u8 (if (y.1==d.2.1&&d.1==4)=true then d.2.2.2.1 else y.2.1),.int .i64 (if (y.1==d.2.1&&d.1==5)=true then d.2.2.2.2 else y.2.2)] 45∧OwR vtE 45 (b7+1) G w ((g.1.take k).filterMap (keepV d)) u) ?_ (fun a w hJ=>?_)
  ·repeat refine seq ?_
   refine ifc hf rfl (fun hb=>?_) (fun hb=>?_)
   ·replace hf:=hf.kp [2,3,4,7,8,9]
    refine rgN 3 hf <| st (fA aN rfl T3 rfl) <| st (ld1 T3 rfl B3 rfl) <| st (fA U45 rfl T3 rfl) <| en fun a w e' hf=>?_
    obtain⟨Ho,e,B2,B3,B4,B7,B9⟩:=up7 e' Ho e B2 B3 B4 B7 B9
    refine aI T3 hf rfl rfl (rfl) B9 (by simp) fun w hg hsz B9 hf=>?_
    obtain⟨e,B2,B3,B4,B7⟩:=gr5 hg e B2 B3 B4 B7
    replace Ho:=Ho.grE hg n9
    refine aa ?_
    rw[if_pos hb]
    replace hf:=hf.kp [2,3,4,7,8,9]
    exact⟨rfl,hf,e,B2,B3,B4,B7,B9,Ho⟩
   ·refine ah ?_
    rw[if_neg (aO hb)]
    replace hf:=hf.kp [2,3,4,7,8,9]
    exact⟨rfl,hf,e,B2,B3,B4,B7,B9,Ho⟩
  obtain⟨hf,e,B2,B3,B4,B7,B9,Ho⟩:=hJ
  rw[keepV,if_neg hkv] at hs
  obtain⟨y',hy'⟩:∃y':VT,y'=(y.1,(if (y.1==d.2.1&&d.1==4)=true then d.2.2.2.1 else y.2.1),(if (y.1==d.2.1&&d.1==5)=true then d.2.2.2.2 else y.2.2)):=⟨_,rfl⟩
  replace B9:Blk w b9 (vtV y').cells 45:=by rw[hy'];exact B9
  rw[← hy'] at hs
  have n2:=Ho.neLt (b:=b2) (by omega);have n3:=Ho.neLt (b:=b3) (by omega);have n4:=Ho.neLt (b:=b4) (by omega);have n7:=Ho.neLt (b:=b7) (by omega)
  refine rgN 4 hf <| st (fA U25 rfl T22 rfl) <| st ((ld1 T22 rfl (by assumption) rfl).eq ((rfl:_=u))) <| st ((ldW T45 rfl B9 rfl).eq ((rfl:_=vtV y'))) <| st (aW U22 I45 rfl (by decide) rfl Ho.avs (eM rfl)) <| en fun a w e' hf=>?_
  obtain⟨Ho,e,B2,B3,B4,B7,B9⟩:=up7 e' Ho e B2 B3 B4 B7 B9
  haveI hin:∀G0,InR (GB W G0) _:=OwR.inGB (W:=W) Ho (by omega)
  refine br U22 I45 rfl rfl hf (by decide) rfl Ho (isR rfl) (by simp only[List.length_singleton];omega) (by simp only[List.length_singleton,maxLen];omega) fun a v w hg hat Hn hf=>?_
  replace e:=e.gro hg (Ho.row (W:=W) (by omega))
  have hrow:=Ho.row (W:=W) (by omega)
  replace Ho:=Hn
  replace B2:=B2.gro hg (by assumption)
  replace B3:=B3.gro hg (by assumption)
  replace B4:=B4.gro hg (by assumption)
  replace B7:=B7.gro hg (by assumption)
  replace B9:=B9.gro hg (by assumption)
  replace Ho:=Hn;clear Hn hg hat hin
  replace hf:=hf.kp [2,3,4,7,8,105]
  refine tP hf (fA U25 rfl T22 rfl) fun a w e' hf=>?_
  obtain⟨Ho,e,B2,B3,B4,B7⟩:=up6 e' Ho e B2 B3 B4 B7
  refine aI T22 hf rfl rfl (slOne Ho.sl) B7 (by simp) fun w hg hsz B7 hf=>?_
  obtain⟨e,B2,B3,B4⟩:=gr4 hg e B2 B3 B4
  replace Ho:=Ho.grE hg (Ho.neLt (by omega))
  refine aa <| rgN 2 hf <| st (mv rfl) <| st ((add rfl rfl (by omega)).eq (iN k)) <| en fun a w e' hf=>?_
  obtain⟨Ho,e,B2,B3,B4,B7⟩:=up6 e' Ho e B2 B3 B4 B7
  refine tA hf rfl fun a hf=>aa ?_
  replace hf:=hf.keep [2,3,4,7,8]
  refine⟨_,?_,k+1,v,rfl,by omega,hf,e,?_⟩
  ·omega
  exact⟨B2,B3,B4,B7,by rw[hs];exact Ho⟩
 ·obtain rfl:=dnE hc hk
  rw[List.take_length] at Ho
  obtain⟨av,nv,cv,rfl⟩:=Dv.slF Ho.sl
  have hown:∀bb,(Value.slice av nv cv).ownBlock=some bb→bb<w.heap.size:=fun bb h=>(Ho.lt h).2
  have HOo:=Ho
  refine seq <| ab <| tA hf rfl fun a hf=>aa ?_
  replace hf:=hf.keep [2,3,4,7,10]
  repeat refine seq ?_
  refine rgN 2 hf <| st ((ldW fW rfl B3 rfl).eq ((rfl:_=dtV d))) <| st (ak jn rfl (fun v w he h=>by cases h;exact oR d w)) ?_
  refine en fun a w e' hf=>?_
  obtain⟨Ho,e,B2,B3,B4,B7⟩:=up6 e' Ho e B2 B3 B4 B7
  refine aa <| cut (J:=fun a w=>Fr 183 a w [(2,E (.pointer (some ⟨b2,0,none⟩))),(3,E (.pointer (some ⟨b3,0,none⟩))),(4,E (.pointer (some ⟨b4,0,none⟩))),(7,E (.pointer (some ⟨b7,0,none⟩))),(10,E (I (atE g d)))]∧Ext W w∧Blk w b2 #[.slice a1 n1 c1,.slice a2 n2 c2] 25∧Blk w b3 (dtV d).cells 143∧Blk w b4 #[.slice none 0 0,.slice none 0 0] 25∧Blk w b7 #[.slice av nv cv,.slice none 0 0] 25∧OwR vtE 45 (b7+1) G w (g.1.filterMap (keepV d)) (.slice av nv cv)) ?_ (fun a w hJ=>?_)
  ·repeat refine seq ?_
   refine ifc hf rfl (fun hb=>?_) (fun hb=>?_)
   ·replace hf:=hf.keep [2,3,4,7]
    refine rgN 6 hf <| st ((ldW T25 rfl B2 rfl).eq ((rfl:_=Value.agg #[.slice a1 n1 c1,.slice a2 n2 c2]))) <| st (fA aN rfl T3 rfl) <| st (ld1 T3 rfl B3 rfl) <| st (fA aN rfl T3 rfl) <| st (ld1 T3 rfl B3 rfl) <| st (bX (A:=E (I (ck g.2 d.2.1 d.2.2.1))) ia rfl rfl rfl (fun v u x w he k k' k''=>by cases k;cases k';cases k'';exact jr g d.2.1 d.2.2.1 _ w (vst (e.tr he) h) hl2)) ?_
    refine en fun a w e' hf=>?_
    obtain⟨Ho,e,B2,B3,B4,B7⟩:=up6 e' Ho e B2 B3 B4 B7
    refine tA hf rfl fun a hf=>aa ?_
    rw[atE,if_pos hb]
    replace hf:=hf.keep [2,3,4,7,10]
    exact⟨rfl,hf,e,B2,B3,B4,B7,Ho⟩
   ·refine ah ?_
    rw[atE,if_neg (aO hb)]
    replace hf:=hf.keep [2,3,4,7,10]
    exact⟨rfl,hf,e,B2,B3,B4,B7,Ho⟩
  obtain⟨hf,e,B2,B3,B4,B7,Ho⟩:=hJ
  rw[gm] at hdo
  generalize atE g d=at' at hf hdo hlE
  obtain⟨NV,hNV⟩:∃NV:Nat→Prop,NV=fun b=>(Value.slice av nv cv).ownBlock≠some b:=⟨_,rfl⟩
  have HD:(Dv (slE vtE) NV (g.1.filterMap (keepV d))).p (.slice av nv cv) w:=Ho.slN fun b hb=>by rw[hNV];exact fun h=>h hb
  obtain⟨N5,hN5⟩:=eqX w.heap.size
  have l7:=B7.lt
  have nV:∀bb,(bb≤b7∨N5≤bb)→NV bb:=fun bb hb=>by rw[hNV];intro h;have h3:=Ho.lt h;omega
  have hNG:∀b,G b→NV b:=fun b hb=>by rw[hNV];intro h;have h3:=Ho.lt h;have:=hG b hb;omega
  have hN7:b7<N5:=by rw[hN5];exact l7
  have hN5s:N5≤w.heap.size:=Nat.le_of_eq hN5
  replace hf:=hf.kp [2,3,4,7,10]
  repeat refine seq ?_
  refine ab <| tA hf rfl fun a hf=>aa ?_
  replace hf:=hf.kp [2,3,4,7,10,11]
  refine blk (aF (fun r0 a w=>∃(k:Nat) (u:Value),r0=g.2.length - k∧k≤g.2.length∧Fr 183 a w [(2,E (.pointer (some ⟨b2,0,none⟩))),(3,E (.pointer (some ⟨b3,0,none⟩))),(4,E (.pointer (some ⟨b4,0,none⟩))),(7,E (.pointer (some ⟨b7,0,none⟩))),(10,E (I at')),(11,E (I k))]∧Ext W w∧Blk w b2 #[.slice a1 n1 c1,.slice a2 n2 c2] 25∧Blk w b3 (dtV d).cells 143∧Blk w b4 #[.slice none 0 0,.slice none 0 0] 25∧Blk w b7 #[.slice av nv cv,u] 25∧(Dv (slE vtE) NV (g.1.filterMap (keepV d))).p (.slice av nv cv) w∧OwR etE 51 N5 G w (bR d at' 0 (g.2.take k)) u∧N5≤w.heap.size) g.2.length ⟨0,.slice none 0 0,rfl,by omega,hf,e,⟨B2,B3,B4,B7,HD,OwR.nil etE _ hN5s fun b hb=>Nat.lt_of_lt_of_le (hG b hb) (by omega),hN5s⟩⟩ ?_)
  rintro r0 a w ⟨k,u,rfl,hk,hf,e,B2,B3,B4,B7,HD,Ho,hN5s⟩
  repeat refine seq ?_
  refine rgN 5 hf <| st (mv rfl) <| st (fA U25 rfl T23 rfl) <| st (ld1 T23 rfl (by assumption) rfl) <| st (aB U23 (isE rfl (vst e h2))) <| st (lss rfl rfl) <| en fun a w e' hf=>?_
  obtain⟨HD,hN5s,e,B2,B3,B4,B7,Ho⟩:=up8 e' HD hN5s e B2 B3 B4 B7 Ho
  refine aa <| ifc hf rfl (fun hc=>ah ?_) (fun hc=>aC ?_)
  rotate_left
  rotate_left
  ·have hlt:=ltC hc
   replace hf:=hf.kp [2,3,4,7,10,11]
   refine seq <| blk ?_
   have hg:=List.getElem?_eq_getElem hlt
   generalize g.2[k]=y at hg
   have hs:=uA d at' hg
   have hlk:=hlE k
   refine seq <| ab <| tP hf (fA U25 rfl T23 rfl) fun a w e' hf=>?_
   obtain⟨HD,hN5s,Ho,e,B2,B3,B4,B7⟩:=up8 e' HD hN5s Ho e B2 B3 B4 B7
   refine tP hf (ld1 T23 rfl B2 rfl) fun a w e' hf=>?_
   obtain⟨HD,hN5s,Ho,e,B2,B3,B4,B7⟩:=up8 e' HD hN5s Ho e B2 B3 B4 B7
   refine tP hf (mv rfl) fun a w e' hf=>?_
   obtain⟨HD,hN5s,Ho,e,B2,B3,B4,B7⟩:=up8 e' HD hN5s Ho e B2 B3 B4 B7
   refine tP hf (aD U23 S51 (isE rfl (vst e h2b)) rfl (by omega) (hg)) fun a w e' hf=>?_
   obtain⟨HD,hN5s,Ho,e,B2,B3,B4,B7⟩:=up8 e' HD hN5s Ho e B2 B3 B4 B7
   refine tP hf (ft T51 (isR rfl)) fun a w e' hf=>?_
   obtain⟨HD,hN5s,Ho,e,B2,B3,B4,B7⟩:=up8 e' HD hN5s Ho e B2 B3 B4 B7
   refine tL I51 hf fun a b12 w e' hb12 hs12 B12 hf=>?_
   have hle12:=Nat.le_trans e.size (Nat.le_of_eq hb12.symm)
   have lo12_hN5s:=Nat.le_trans hN5s (Nat.le_of_eq hb12.symm)
   have ne12_Ho:=Ho.ne_new hb12
   have lt12_B2:=B2.lt
   obtain⟨HD,hN5s,Ho,e,B2,B3,B4,B7⟩:=up8 e' HD hN5s Ho e B2 B3 B4 B7
   have n12:=ne12_Ho
   replace hf:=hf.kp [2,3,4,7,10,11,12,126]
   refine az T51 hf rfl rfl (jt y) B12 rfl rfl fun w hg' hsz B12 hf=>?_
   replace e:=e.gr hg' (by omega);replace B2:=B2.gr hg' (by omega);replace B3:=B3.gr hg' (by omega);replace B4:=B4.gr hg' (by omega);replace B7:=B7.gr hg' (by omega);replace Ho:=Ho.grE hg' n12
   replace HD:=Dv.grN HD hg' (fun bb hb=>nV bb (by cases hb;omega));replace hN5s:=Nat.le_trans hN5s hg'.size;clear hg'
   refine aa ?_
   replace hf:=hf.kp [2,3,4,7,10,11,12]
   repeat refine seq ?_
   refine rgN 27 hf <| st (fA aN rfl T3 rfl) <| st (ld1 T3 rfl B3 rfl) <| st (eql rfl rfl) <| st (mv rfl) <| sgE rfl rfl (.k 12 rfl .n) (fun hgd=>fA U51 rfl T3 rfl) <| sgE rfl rfl (.c 131 rfl (fun h=>h) .n) (fun hgd=>ld1 T3 rfl B12 rfl) <| sgE rfl rfl (.k 3 rfl .n) (fun hgd=>fA aN rfl T3 rfl) <| sgE rfl rfl (.c 133 rfl (fun h=>h) .n) (fun hgd=>ld1 T3 rfl B3 rfl) <| sgE rfl rfl (.c 132 rfl (fun h=>h) (.c 134 rfl (fun h=>h) .n)) (fun hgd=>eql rfl rfl) <| sgE rfl rfl (.c 135 rfl (fun h=>h) .n) (fun hgd=>mv rfl) <| sgC rfl rfl (.k 12 rfl .n) (fun hgd=>fA U51 rfl T3 rfl) <| sgC rfl rfl (.c 137 rfl (fun h=>h) .n) (fun hgd=>ld1 T3 rfl B12 rfl) <| sgC rfl rfl (.k 3 rfl .n) (fun hgd=>fA aN rfl T3 rfl) <| sgC rfl rfl (.c 139 rfl (fun h=>h) .n) (fun hgd=>ld1 T3 rfl B3 rfl) <| sgC rfl rfl (.c 138 rfl (fun h=>h) (.c 140 rfl (fun h=>h) .n)) (fun hgd=>eql rfl rfl) <| sgE rfl rfl (.c 136 rfl (fun h=>h) (.k 141 rfl .n)) (fun hgd=>bD rfl rfl (fun h=>by rw[hgd,h];rfl)) ?_
   refine st (bA rfl rfl (fun h=>by rw[h];rfl)) ?_
   refine st (mv rfl) <| sgE rfl rfl (.k 3 rfl .n) (fun hgd=>fA aN rfl T3 rfl) <| sgE rfl rfl (.c 145 rfl (fun h=>h) .n) (fun hgd=>ld1 T3 rfl B3 rfl) <| sgE rfl rfl (.c 146 rfl (fun h=>h) .n) (fun hgd=>eql rfl rfl) <| sgE rfl rfl (.c 147 rfl (fun h=>h) .n) (fun hgd=>mv rfl) <| sgC rfl rfl (.k 11 rfl .n) (fun hgd=>mv rfl) <| sgC rfl rfl (.k 10 rfl .n) (fun hgd=>mv rfl) <| sgC rfl rfl (.c 149 rfl (fun h=>h) (.c 150 rfl (fun h=>h) .n)) (fun hgd=>eql rfl rfl) <| sgE rfl rfl (.c 148 rfl (fun h=>h) (.k 151 rfl .n)) (fun hgd=>bA rfl rfl (fun h=>by rw[hgd,h];rfl)) ?_
   refine st (bD rfl rfl (fun h=>by rw[h];rfl)) ?_
   refine en fun a w e' hf=>?_
   obtain⟨HD,hN5s,Ho,e,B2,B3,B4,B7,B12⟩:=up9 e' HD hN5s Ho e B2 B3 B4 B7 B12
   refine aa <| ifc hf rfl (fun hb=>?_) (fun hb=>?_)
   ·refine aC ?_
    replace hf:=hf.kp [2,3,4,7,10,11]
    refine rgN 2 hf <| st (mv rfl) <| st ((add rfl rfl (by omega)).eq (iN k)) <| en fun a w e' hf=>?_
    obtain⟨HD,hN5s,Ho,e,B2,B3,B4,B7⟩:=up8 e' HD hN5s Ho e B2 B3 B4 B7
    refine tA hf rfl fun a hf=>aa ?_
    replace hf:=hf.kp [2,3,4,7,10,11]
    refine⟨_,?_,k+1,u,rfl,by omega,hf,e,?_⟩
    ·omega
    rw[hs,dq,if_pos hb]
    exact⟨B2,B3,B4,B7,HD,by simpa using Ho,hN5s⟩
   refine ah ?_
   have hkv:=aO hb;clear hb
   replace hf:=hf.kp [2,3,4,7,10,11,12]
   repeat refine seq ?_
   refine rgN 8 hf <| st (mv rfl) <| st (mv rfl) <| st (eql rfl rfl) <| st (mv rfl) <| sgE rfl rfl (.k 3 rfl .n) (fun hgd=>fA aN rfl T3 rfl) <| sgE rfl rfl (.c 158 rfl (fun h=>h) .n) (fun hgd=>ld1 T3 rfl B3 rfl) <| sgE rfl rfl (.c 159 rfl (fun h=>h) .n) (fun hgd=>eql rfl rfl) <| st (bA rfl rfl (fun h=>by rw[h];rfl)) ?_
   refine en fun a w e' hf=>?_
   obtain⟨HD,hN5s,Ho,e,B2,B3,B4,B7,B12⟩:=up9 e' HD hN5s Ho e B2 B3 B4 B7 B12
   refine aa <| cut (J:=fun a w=>Fr 183 a w [(2,E (.pointer (some ⟨b2,0,none⟩))),(3,E (.pointer (some ⟨b3,0,none⟩))),(4,E (.pointer (some ⟨b4,0,none⟩))),(7,E (.pointer (some ⟨b7,0,none⟩))),(10,E (I at')),(11,E (I k)),(12,E (.pointer (some ⟨b12,0,none⟩)))]∧Ext W w∧Blk w b2 #[.slice a1 n1 c1,.slice a2 n2 c2] 25∧Blk w b3 (dtV d).cells 143∧Blk w b4 #[.slice none 0 0,.slice none 0 0] 25∧Blk w b7 #[.slice av nv cv,u] 25∧(Dv (slE vtE) NV (g.1.filterMap (keepV d))).p (.slice av nv cv) w∧Blk w b12 #[.int .i64 y.1.1,.int .i64 y.1.2,.int .u8 (if ((k:Int)==at'&&d.1==6)=true then d.2.2.2.1 else y.2.1),.int .i64 y.2.2] 51∧OwR etE 51 N5 G w (bR d at' 0 (g.2.take k)) u∧N5≤w.heap.size) ?_ (fun a w hJ=>?_)
   ·repeat refine seq ?_
    refine ifc hf rfl (fun hb=>?_) (fun hb=>?_)
    ·replace hf:=hf.kp [2,3,4,7,10,11,12]
     refine rgN 3 hf <| st (fA aN rfl T5 rfl) <| st (ld1 T5 rfl B3 rfl) <| st (fA U51 rfl T5 rfl) <| en fun a w e' hf=>?_
     obtain⟨HD,hN5s,Ho,e,B2,B3,B4,B7,B12⟩:=up9 e' HD hN5s Ho e B2 B3 B4 B7 B12
     refine aI T5 hf rfl rfl (rfl) B12 (by simp) fun w hg hsz B12 hf=>?_
     replace HD:=Dv.grN HD hg (fun bb hb=>nV bb (by cases hb;omega))
     obtain⟨hN5s,e,B2,B3,B4,B7⟩:=gr6 hg hN5s e B2 B3 B4 B7
     replace Ho:=Ho.grE hg n12
     refine aa ?_
     rw[if_pos hb]
     replace hf:=hf.kp [2,3,4,7,10,11,12]
     exact⟨rfl,hf,e,B2,B3,B4,B7,HD,B12,Ho,hN5s⟩
    ·refine ah ?_
     rw[if_neg (aO hb)]
     replace hf:=hf.kp [2,3,4,7,10,11,12]
     exact⟨rfl,hf,e,B2,B3,B4,B7,HD,B12,Ho,hN5s⟩
   obtain⟨hf,e,B2,B3,B4,B7,HD,B12,Ho,hN5s⟩:=hJ
   repeat refine seq ?_
   refine rgN 8 hf <| st (mv rfl) <| st (mv rfl) <| st (eql rfl rfl) <| st (mv rfl) <| sgE rfl rfl (.k 3 rfl .n) (fun hgd=>fA aN rfl T3 rfl) <| sgE rfl rfl (.c 169 rfl (fun h=>h) .n) (fun hgd=>ld1 T3 rfl B3 rfl) <| sgE rfl rfl (.c 170 rfl (fun h=>h) .n) (fun hgd=>eql rfl rfl) <| st (bA rfl rfl (fun h=>by rw[h];rfl)) ?_
   refine en fun a w e' hf=>?_
   obtain⟨HD,hN5s,Ho,e,B2,B3,B4,B7,B12⟩:=up9 e' HD hN5s Ho e B2 B3 B4 B7 B12
   refine aa <| cut (J:=fun a w=>Fr 183 a w [(2,E (.pointer (some ⟨b2,0,none⟩))),(3,E (.pointer (some ⟨b3,0,none⟩))),(4,E (.pointer (some ⟨b4,0,none⟩))),(7,E (.pointer (some ⟨b7,0,none⟩))),(10,E (I at')),(11,E (I k)),(12,E (.pointer (some ⟨b12,0,none⟩)))]∧Ext W w∧Blk w b2 #[.slice a1 n1 c1,.slice a2 n2 c2] 25∧Blk w b3 (dtV d).cells 143∧Blk w b4 #[.slice none 0 0,.slice none 0 0] 25∧Blk w b7 #[.slice av nv cv,u] 25∧(Dv (slE vtE) NV (g.1.filterMap (keepV d))).p (.slice av nv cv) w∧Blk w b12 #[.int .i64 y.1.1,.int .i64 y.1.2,.int .u8 (if ((k:Int)==at'&&d.1==6)=true then d.2.2.2.1 else y.2.1),.int .i64 (if ((k:Int)==at'&&d.1==7)=true then d.2.2.2.2 else y.2.2)] 51∧OwR etE 51 N5 G w (bR d at' 0 (g.2.take k)) u∧N5≤w.heap.size) ?_ (fun a w hJ=>?_)
   ·repeat refine seq ?_
    refine ifc hf rfl (fun hb=>?_) (fun hb=>?_)
    ·replace hf:=hf.kp [2,3,4,7,10,11,12]
     refine rgN 3 hf <| st (fA aN rfl T3 rfl) <| st (ld1 T3 rfl B3 rfl) <| st (fA U51 rfl T3 rfl) <| en fun a w e' hf=>?_
     obtain⟨HD,hN5s,Ho,e,B2,B3,B4,B7,B12⟩:=up9 e' HD hN5s Ho e B2 B3 B4 B7 B12
     refine aI T3 hf rfl rfl (rfl) B12 (by simp) fun w hg hsz B12 hf=>?_
     replace HD:=Dv.grN HD hg (fun bb hb=>nV bb (by cases hb;omega))
     obtain⟨hN5s,e,B2,B3,B4,B7⟩:=gr6 hg hN5s e B2 B3 B4 B7
     replace Ho:=Ho.grE hg n12
     refine aa ?_
     rw[if_pos hb]
     replace hf:=hf.kp [2,3,4,7,10,11,12]
     exact⟨rfl,hf,e,B2,B3,B4,B7,HD,B12,Ho,hN5s⟩
    ·refine ah ?_
     rw[if_neg (aO hb)]
     replace hf:=hf.kp [2,3,4,7,10,11,12]
     exact⟨rfl,hf,e,B2,B3,B4,B7,HD,B12,Ho,hN5s⟩
   obtain⟨hf,e,B2,B3,B4,B7,HD,B12,Ho,hN5s⟩:=hJ
   rw[dq,if_neg hkv] at hs
   obtain⟨y',hy'⟩:∃y':ET,y'=(y.1,(if ((k:Int)==at'&&d.1==6)=true then d.2.2.2.1 else y.2.1),(if ((k:Int)==at'&&d.1==7)=true then d.2.2.2.2 else y.2.2)):=⟨_,rfl⟩
   replace B12:Blk w b12 (etV y').cells 51:=by rw[hy'];exact B12
   rw[← hy'] at hs
   have n2:=Ho.neLt (b:=b2) (by omega);have n3:=Ho.neLt (b:=b3) (by omega);have n4:=Ho.neLt (b:=b4) (by omega);have n7:=Ho.neLt (b:=b7) (by omega)
   refine rgN 4 hf <| st (fA U25 rfl T23 rfl) <| st ((ld1 T23 rfl (by assumption) rfl).eq ((rfl:_=u))) <| st ((ldW T51 rfl B12 rfl).eq ((rfl:_=etV y'))) <| st (aW U23 I51 rfl (by decide) rfl Ho.avs (dr rfl)) <| en fun a w e' hf=>?_
   obtain⟨HD,hN5s,Ho,e,B2,B3,B4,B7,B12⟩:=up9 e' HD hN5s Ho e B2 B3 B4 B7 B12
   haveI hin:∀G0,InR (GB W G0) _:=OwR.inGB (W:=W) Ho (by omega)
   refine br U23 I51 rfl rfl hf (by decide) rfl Ho (isR rfl) (by simp only[List.length_singleton];omega) (by simp only[List.length_singleton,maxLen];omega) fun a v w hg hat Hn hf=>?_
   replace e:=e.gro hg (Ho.row (W:=W) (by omega))
   have hrow:=Ho.row (W:=W) (by omega)
   replace HD:=Dv.grN HD hg (fun bb hb=>nV bb (.inr (Ho.lt hb).1))
   replace hN5s:=Nat.le_trans hN5s hg.size
   replace Ho:=Hn
   replace B2:=B2.gro hg (by assumption)
   replace B3:=B3.gro hg (by assumption)
   replace B4:=B4.gro hg (by assumption)
   replace B7:=B7.gro hg (by assumption)
   replace B12:=B12.gro hg (by assumption)
   replace Ho:=Hn;clear Hn hg hat hin
   replace hf:=hf.kp [2,3,4,7,10,11,180]
   refine tP hf (fA U25 rfl T23 rfl) fun a w e' hf=>?_
   obtain⟨HD,hN5s,Ho,e,B2,B3,B4,B7⟩:=up8 e' HD hN5s Ho e B2 B3 B4 B7
   refine aI T23 hf rfl rfl (slOne Ho.sl) B7 (by simp) fun w hg hsz B7 hf=>?_
   replace HD:=Dv.grN HD hg (fun bb hb=>nV bb (by cases hb;omega))
   obtain⟨hN5s,e,B2,B3,B4⟩:=gr5 hg hN5s e B2 B3 B4
   replace Ho:=Ho.grE hg (Ho.neLt (by omega))
   refine aa <| rgN 2 hf <| st (mv rfl) <| st ((add rfl rfl (by omega)).eq (iN k)) <| en fun a w e' hf=>?_
   obtain⟨HD,hN5s,Ho,e,B2,B3,B4,B7⟩:=up8 e' HD hN5s Ho e B2 B3 B4 B7
   refine tA hf rfl fun a hf=>aa ?_
   replace hf:=hf.kp [2,3,4,7,10,11]
   refine⟨_,?_,k+1,v,rfl,by omega,hf,e,?_⟩
   ·omega
   exact⟨B2,B3,B4,B7,HD,by rw[hs];exact Ho,hN5s⟩
  ·obtain rfl:=dnE hc hk
   rw[List.take_length] at Ho
   replace hf:=hf.kp [4,7]
   refine seq <| rgN 1 hf <| st ((ldW T25 rfl (by assumption) rfl).eq ((rfl:_=Value.agg #[.slice av nv cv,u]))) <| en fun a w e' hf=>?_
   obtain⟨HD,hN5s,Ho,e,B2,B3,B4,B7⟩:=up8 e' HD hN5s Ho e B2 B3 B4 B7
   haveI hinr:∀G0,InR (GB W G0) (some b4):=fun G0=>InR.gb (by omega)
   refine az T25 hf rfl rfl (bk rfl (slOne Ho.sl)) B4 rfl (rfl) fun w hg hsz B4 hf=>?_
   replace HD:=Dv.grN HD hg (fun bb hb=>nV bb (by cases hb;omega))
   obtain⟨hN5s,e,B2,B3,B7⟩:=gr5 hg hN5s e B2 B3 B7
   replace Ho:=Ho.grE hg (Ho.neLt (by omega))
   refine tA hf rfl fun a hf=>aa <| ai (fq rfl T25 hf rfl rfl B4 rfl ?_)
   rintro _ rfl
   exact⟨_,rfl,e,fin _ _ _ _ e (Dv.gt.2 ⟨_,_,rfl,Dv.weak HD fun b _ hb=>hNG b hb,Ho.sl⟩) hdo⟩
def stepB:Option GT→DT→Option GT
 | none,_=>none
 | some g,d=>if bK g d=0 then some (doP g d) else none
def dX (V:List VT)(E:List ET):Option GT:=(E.map dE).foldl stepB ((V.map dV).foldl stepB (some ([],[])))
theorem pF (l:List DT):l.foldl stepB none=none:=by induction l with
 | nil=>rfl
 | cons d r ih=>exact ih
theorem io {l:List DT}{k:Nat}{d:DT}(s:Option GT)(h:l[k]?=some d):(l.take (k+1)).foldl stepB s=stepB ((l.take k).foldl stepB s) d:=by
 rw[eo h,List.foldl_append];rfl
theorem pG {l:List DT}{k:Nat}{d:DT}(s:Option GT)(h:l[k]?=some d)(hn:stepB ((l.take k).foldl stepB s) d=none):l.foldl stepB s=none:=by
 rw[← List.take_append_drop (k+1) l,List.foldl_append,io s h,hn,pF]
def okD (d:DT):Prop:=(Lit.int .i64 d.2.1).wf=true∧(Lit.int .i64 d.2.2.1).wf=true∧okT d.2.2.2
theorem bD4 (x:DT):Tryz.prog.built 126 [(0,.int .i64 x.1),(1,.int .i64 x.2.1),(3,.int .u8 x.2.2.2.1),(4,.int .i64 x.2.2.2.2)]=some #[.int .i64 x.1,.int .i64 x.2.1,.int .i64 0,.int .u8 x.2.2.2.1,.int .i64 x.2.2.2.2]:=by kernel_rfl
theorem bD5 (x:DT):Tryz.prog.built 126 [(0,.int .i64 x.1),(1,.int .i64 x.2.1),(2,.int .i64 x.2.2.1),(3,.int .u8 x.2.2.2.1),(4,.int .i64 x.2.2.2.2)]=some #[.int .i64 x.1,.int .i64 x.2.1,.int .i64 x.2.2.1,.int .u8 x.2.2.2.1,.int .i64 x.2.2.2.2]:=by kernel_rfl
def xz (V:List VT)(E:List ET)(W:World)(en:Ending)(w':World):Prop:=
 Ext W w'∧((∃g bg bv be,dX V E=some g∧en=.returned (.tuple #[.pointer (some ⟨bg,0,none⟩),I 0])∧W.heap.size≤bg∧W.heap.size≤bv∧W.heap.size≤be∧GrR w' bg bv be (V.length+E.length) g) ∨
  (∃c:Int,c≠0∧dX V E=none∧en=.returned (.tuple #[.pointer none,I c])))
theorem pH {G:Nat→Prop}(V:List VT)(E':List ET)(v u:Value)(W:World)(h1:(Dv (slE vtE) G V).p v W)(h2:(Dv (slE etE) G E').p u W)(hl1:V.length≤100000)(hl2:E'.length≤100000)(hV:∀x∈V,okD (dV x))(hE:∀x∈E',okD (dE x)) :
  Calls Tryz.prog 40 #[v,u] W (xz V E' W):=by
 refine eN [v,u] [E v,E u] Tryz.func40 Tryz.ntmps40 ?_ fun a hf=>?_
 rotate_left
 dsimp only[params,Nat.reduceAdd] at hf
 rotate_right
 ·exact arg2 rfl rfl
 have e:=Ext.rfl' W
 refine seq <| ab <| tA hf rfl fun a hf=>tA hf rfl fun a hf=>aa <| seq <| ab <| em (S:=fun b=>False) (F:=fun z w'=>∃bg bv be,z=.pointer (some ⟨bg,0,none⟩)∧W.heap.size≤bg∧W.heap.size≤bv∧W.heap.size≤be∧GrR w' bg bv be 0 ([],[])) hf (by decide) ol (by simp only[List.map_toArray,List.map_nil];exact (pA _).mono fun en w' ⟨bg,bv,be,k1,k2,k3,k4,k5,k6⟩=>⟨_,k1,k2.chg _,bg,bv,be,rfl,Nat.le_trans e.size k3,Nat.le_trans e.size k4,Nat.le_trans e.size k5,k6⟩) fun a z w hc hF hf=>?_
 obtain⟨bg,bv,be,rfl,hbg,hbv,hbe,hg⟩:=hF
 replace e:=e.ch hc (fun b hb=>hb.elim)
 refine tA hf rfl fun a hf=>aa ?_
 refine seq <| seq ?_
 refine rgN 3 hf <| st (mv rfl) <| st (aB U66 (isE rfl (vst e h1))) <| st (mv rfl) <| en fun a w e' hf=>?_
 obtain⟨e,hg⟩:=up2 e' e hg
 refine aa ?_
 replace hf:=hf.kp [1,4,5,6,14,15,16]
 refine blk (aF (fun r0 a w=>∃(k:Nat) (g:GT),r0=V.length - k∧k≤V.length∧Fr 55 a w [(1,E u),(4,E (.pointer none)),(5,E (I 0)),(6,E (.pointer (some ⟨bg,0,none⟩))),(14,E v),(15,E (I (V.length:Nat))),(16,E (I k))]∧Ext W w∧GrR w bg bv be k g∧((V.map dV).take k).foldl stepB (some ([],[]))=some g) V.length ⟨0,([], []),rfl,by omega,hf,e,⟨hg,rfl⟩⟩ ?_)
 rintro r0 a w ⟨k,g,rfl,hk,hf,e,hg,hfd⟩
 refine seq <| rgN 1 hf <| st (lss rfl rfl) <| en fun a w e' hf=>?_
 obtain⟨e,hg⟩:=up2 e' e hg
 refine aa <| seq <| ifc hf rfl (fun hc=>ah ?_) (fun hc=>aC ?_)
 rotate_left
 rotate_left
 ·have hlt:=ltC hc
  replace hf:=hf.keep [1,4,5,6,14,15,16]
  refine seq <| blk ?_
  have hx:=List.getElem?_eq_getElem hlt
  generalize V[k]=x at hx
  have hxd:(V.map dV)[k]?=some (dV x):=by rw[List.getElem?_map,hx];rfl
  have hok:=hV x (List.mem_of_getElem? hx)
  have hk:k<maxLen:=by simp only[maxLen];omega
  replace hf:=hf.keep [1,4,5,6,14,15,16]
  refine seq <| ab <| tP hf (aD U66 S73 (isE rfl (vst e h1)) rfl (by omega) (hx)) fun a w e' hf=>?_
  obtain⟨e,hg⟩:=up2 e' e hg
  refine tP hf (fV T73 (isR rfl)) fun a w e' hf=>?_
  obtain⟨e,hg⟩:=up2 e' e hg
  refine tL I73 hf fun a b8 w e' hb8 hs8 B8 hf=>?_
  have hle8:=Nat.le_trans e.size (Nat.le_of_eq hb8.symm)
  obtain⟨e,hg⟩:=up2 e' e hg
  replace hf:=hf.kp [1,4,5,6,8,14,15,16,19]
  have nb8:bg≠b8∧bv≠b8∧be≠b8:=⟨hg.blk.ne B8 (by decide),hg.vs.neB B8,hg.es.neB B8⟩
  refine az T73 hf rfl rfl (lI x) B8 rfl rfl fun w hg' hsz B8 hf=>?_
  replace hg:GrR w bg bv be k g:=⟨hg.blk.gr hg' nb8.1,hg.vs.gr hg' (fun h=>nb8.2.1 (by cases h;rfl)),hg.es.gr hg' (fun h=>nb8.2.2 (by cases h;rfl)),hg.ne⟩
  replace e:=e.gr hg' (by omega);clear hg'
  refine aa ?_
  replace hf:=hf.kp [1,4,5,6,8,14,15,16]
  refine seq <| rgN 8 hf <| st (mv rfl) <| st (fA U73 rfl T3 rfl) <| st (ld1 T3 rfl B8 rfl) <| st (fA U73 rfl T5 rfl) <| st (ld1 T5 rfl B8 rfl) <| st (fA U73 rfl T3 rfl) <| st (ld1 T3 rfl B8 rfl) <| st (nT (dV x) rfl (bD4 (dV x)) rfl rfl rfl rfl) <| en fun a w e' hf=>?_
  obtain⟨e,hg,B8⟩:=up3 e' e hg B8
  replace hf:=hf.kp [1,4,5,6,14,15,16,20,27]
  refine em (S:=fun b=>b=bv∨b=be) (F:=fun z w'=>z=I (bK g (dV x))∧GrR w' bg bv be (k+1) (apP g (dV x))) hf (by decide) oA ?_ fun a z w hc hF hf=>?_
  ·have h9:=pD g (dV x) bg bv be k _ hg hk (.inl rfl) hok.1 hok.2.1 hok.2.2
   have e20:a.eval (.tmp 20)=.pointer (some ⟨bg,0,none⟩):=hf.opd (.tmp 20) _ rfl
   have e27:a.eval (.tmp 27)=dtV (dV x):=hf.opd (.tmp 27) _ rfl
   simp only[List.map_toArray,List.map_cons,List.map_nil,e20,e27]
   exact h9.mono fun en w' ⟨k1,k2,k3⟩=>⟨_,k1,k2,rfl,k3⟩
  obtain⟨rfl,hg⟩:=hF
  replace e:=e.ch hc (fun b hb=>by rcases hb with rfl|rfl <;> assumption)
  replace hf:=hf.kp [1,4,5,6,14,15,16,28]
  refine tA hf rfl fun a hf=>aa <| seq <| rgN 2 hf <| st (mv rfl) <| st (neq rfl rfl) <| en fun a w e' hf=>?_
  obtain⟨e,hg⟩:=up2 e' e hg
  refine aa ?_
  have hft:=io (some ([],[])) hxd
  rw[hfd] at hft
  refine ifc hf rfl (fun hb=>?_) (fun hb=>?_)
  ·have hb':¬bK g (dV x)=0:=by simpa using hb
   have hst:stepB (((V.map dV).take k).foldl stepB (some ([],[]))) (dV x)=none:=by rw[hfd,stepB,if_neg hb']
   refine seq <| rgN 1 hf <| st (mv rfl) <| en fun a w e' hf=>?_
   obtain⟨e,hg⟩:=up2 e' e hg
   refine tA hf rfl fun a hf=>tA hf rfl fun a hf=>aa <| ai <| fh rfl hf rfl rfl ?_
   rintro _ _ rfl rfl
   exact⟨e,.inr ⟨_,hb',by rw[dX,pG _ hxd hst,pF],rfl⟩⟩
  ·have hb':bK g (dV x)=0:=by simpa using hb
   refine ah ?_
   rw[stepB,if_pos hb'] at hft
   rw[apP,if_pos hb'] at hg
   refine rgN 1 hf <| st ((add rfl rfl (by omega)).eq (iN k)) <| en fun a w e' hf=>?_
   obtain⟨e,hg⟩:=up2 e' e hg
   refine tP hf (mv rfl) fun a w e' hf=>?_
   obtain⟨e,hg⟩:=up2 e' e hg
   refine aa ?_
   replace hf:=hf.keep [1,4,5,6,14,15,16]
   refine⟨_,?_,k+1,doP g (dV x),rfl,by omega,hf,e,?_⟩
   ·omega
   exact⟨hg,hft⟩
 ·obtain rfl:=dnE hc hk
  rw[List.take_of_length_le (by simp)] at hfd
  refine seq <| seq ?_
  refine rgN 3 hf <| st (mv rfl) <| st (aB U61 (isE rfl (vst e h2))) <| st (mv rfl) <| en fun a w e' hf=>?_
  obtain⟨e,hg⟩:=up2 e' e hg
  refine aa ?_
  replace hf:=hf.keep [4,5,6,33,34,35]
  refine blk (aF (fun r0 a w=>∃(k:Nat) (g:GT),r0=E'.length - k∧k≤E'.length∧Fr 55 a w [(4,E (.pointer none)),(5,E (I 0)),(6,E (.pointer (some ⟨bg,0,none⟩))),(33,E u),(34,E (I (E'.length:Nat))),(35,E (I k))]∧Ext W w∧GrR w bg bv be (V.length+k) g∧((E'.map dE).take k).foldl stepB ((V.map dV).foldl stepB (some ([],[])))=some g) E'.length ⟨0,g,rfl,by omega,hf,e,⟨hg,hfd⟩⟩ ?_)
  rintro r0 a w ⟨k,g,rfl,hk,hf,e,hg,hfd⟩
  refine seq <| rgN 1 hf <| st (lss rfl rfl) <| en fun a w e' hf=>?_
  obtain⟨e,hg⟩:=up2 e' e hg
  refine aa <| seq <| ifc hf rfl (fun hc=>ah ?_) (fun hc=>aC ?_)
  rotate_left
  rotate_left
  ·have hlt:=ltC hc
   replace hf:=hf.keep [4,5,6,33,34,35]
   refine seq <| blk ?_
   have hx:=List.getElem?_eq_getElem hlt
   generalize E'[k]=x at hx
   have hxd:(E'.map dE)[k]?=some (dE x):=by rw[List.getElem?_map,hx];rfl
   have hok:=hE x (List.mem_of_getElem? hx)
   have hk':V.length+k<maxLen:=by simp only[maxLen];omega
   replace hf:=hf.keep [4,5,6,33,34,35]
   refine seq <| ab <| tP hf (aD U61 S62 (isE rfl (vst e h2)) rfl (by omega) (hx)) fun a w e' hf=>?_
   obtain⟨e,hg⟩:=up2 e' e hg
   refine tP hf (ft T62 (isR rfl)) fun a w e' hf=>?_
   obtain⟨e,hg⟩:=up2 e' e hg
   refine tL I62 hf fun a b11 w e' hb11 hs11 B11 hf=>?_
   have hle11:=Nat.le_trans e.size (Nat.le_of_eq hb11.symm)
   obtain⟨e,hg⟩:=up2 e' e hg
   replace hf:=hf.kp [4,5,6,11,33,34,35,38]
   have nb8:bg≠b11∧bv≠b11∧be≠b11:=⟨hg.blk.ne B11 (by decide),hg.vs.neB B11,hg.es.neB B11⟩
   refine az T62 hf rfl rfl (jt x) B11 rfl rfl fun w hg' hsz B11 hf=>?_
   replace hg:GrR w bg bv be (V.length+k) g:=⟨hg.blk.gr hg' nb8.1,hg.vs.gr hg' (fun h=>nb8.2.1 (by cases h;rfl)),hg.es.gr hg' (fun h=>nb8.2.2 (by cases h;rfl)),hg.ne⟩
   replace e:=e.gr hg' (by omega);clear hg'
   refine aa ?_
   replace hf:=hf.kp [4,5,6,11,33,34,35]
   refine seq <| rgN 10 hf <| st (mv rfl) <| st (fA U62 rfl T3 rfl) <| st (ld1 T3 rfl B11 rfl) <| st (fA U62 rfl T3 rfl) <| st (ld1 T3 rfl B11 rfl) <| st (fA U62 rfl T5 rfl) <| st (ld1 T5 rfl B11 rfl) <| st (fA U62 rfl T3 rfl) <| st (ld1 T3 rfl B11 rfl) <| st (nU (dE x) (bD5 (dE x)) rfl rfl rfl rfl rfl) <| en fun a w e' hf=>?_
   obtain⟨e,hg,B11⟩:=up3 e' e hg B11
   replace hf:=hf.kp [4,5,6,33,34,35,39,48]
   refine em (S:=fun b=>b=bv∨b=be) (F:=fun z w'=>z=I (bK g (dE x))∧GrR w' bg bv be (V.length+k+1) (apP g (dE x))) hf (by decide) oA ?_ fun a z w hc hF hf=>?_
   ·have h9:=pD g (dE x) bg bv be (V.length+k) _ hg hk' (.inr (.inl rfl)) hok.1 hok.2.1 hok.2.2
    have e20:a.eval (.tmp 39)=.pointer (some ⟨bg,0,none⟩):=hf.opd (.tmp 39) _ rfl
    have e27:a.eval (.tmp 48)=dtV (dE x):=hf.opd (.tmp 48) _ rfl
    simp only[List.map_toArray,List.map_cons,List.map_nil,e20,e27]
    exact h9.mono fun en w' ⟨k1,k2,k3⟩=>⟨_,k1,k2,rfl,k3⟩
   obtain⟨rfl,hg⟩:=hF
   replace e:=e.ch hc (fun b hb=>by rcases hb with rfl|rfl <;> assumption)
   replace hf:=hf.kp [4,5,6,33,34,35,49]
   refine tA hf rfl fun a hf=>aa <| seq <| rgN 2 hf <| st (mv rfl) <| st (neq rfl rfl) <| en fun a w e' hf=>?_
   obtain⟨e,hg⟩:=up2 e' e hg
   refine aa ?_
   have hft:=io ((V.map dV).foldl stepB (some ([],[]))) hxd
   rw[hfd] at hft
   refine ifc hf rfl (fun hb=>?_) (fun hb=>?_)
   ·have hb':¬bK g (dE x)=0:=by simpa using hb
    have hst:stepB (((E'.map dE).take k).foldl stepB ((V.map dV).foldl stepB (some ([],[])))) (dE x)=none:=by rw[hfd,stepB,if_neg hb']
    refine seq <| rgN 1 hf <| st (mv rfl) <| en fun a w e' hf=>?_
    obtain⟨e,hg⟩:=up2 e' e hg
    refine tA hf rfl fun a hf=>tA hf rfl fun a hf=>aa <| ai <| fh rfl hf rfl rfl ?_
    rintro _ _ rfl rfl
    exact⟨e,.inr ⟨_,hb',by rw[dX,pG _ hxd hst],rfl⟩⟩
   ·have hb':bK g (dE x)=0:=by simpa using hb
    refine ah ?_
    rw[stepB,if_pos hb'] at hft
    rw[apP,if_pos hb'] at hg
    refine rgN 1 hf <| st ((add rfl rfl (by omega)).eq (iN k)) <| en fun a w e' hf=>?_
    obtain⟨e,hg⟩:=up2 e' e hg
    refine tP hf (mv rfl) fun a w e' hf=>?_
    obtain⟨e,hg⟩:=up2 e' e hg
    refine aa ?_
    replace hf:=hf.kp [4,5,6,33,34,35]
    refine⟨_,?_,k+1,doP g (dE x),rfl,by omega,hf,e,?_⟩
    ·omega
    exact⟨hg,hft⟩
  ·obtain rfl:=dnE hc hk
   rw[List.take_of_length_le (by simp)] at hfd
   refine seq <| rgN 1 hf <| st (mv rfl) <| en fun a w e' hf=>?_
   obtain⟨e,hg⟩:=up2 e' e hg
   refine tA hf rfl fun a hf=>tA hf rfl fun a hf=>aa <| ai <| fh rfl hf rfl rfl ?_
   rintro _ _ rfl rfl
   exact⟨e,.inl ⟨g,bg,bv,be,hfd,rfl,hbg,hbv,hbe,hg⟩⟩
theorem lJ {γ:Type}(p:γ→Bool)(x:γ)(l:List γ):(bU p x l).length=l.length+1:=by
 have:=congrArg List.length (List.takeWhile_append_dropWhile (p:=fun y => !p y) (l:=l))
 unfold bU
 simp only[List.length_append,List.length_cons] at *
 omega
theorem lK (g:GT)(d:DT):(doR g d).1.1.length≤g.1.length+1∧(doR g d).1.2.length≤g.2.length+1:=by
 unfold doR
 split
 ·simp
 ·split
  ·simp[insV,lJ]
  ·split
   ·simp[fU,lJ]
   ·have h1:=List.length_filterMap_le (keepV d) g.1
    have h2:=iZ d (atE g d) 0 g.2
    simp only[gm]
    omega
theorem Dv.gtOne {G:Nat→Prop}{g:GT}{v:Value}{w:World}(h:(Dv gtE G g).p v w):∃cs,v=.agg cs∧cs.size=2∧cs.all (·.oneCell')=true:=by
 obtain⟨u1,u2,rfl,h1,h2⟩:=Dv.gt.1 h
 exact⟨_,rfl,rfl,bk (slOne h1) (slOne h2)⟩
end Go.Mono
namespace Go.Mono
open Go Go.Gr
theorem jv {γ:Type}(p:γ→Bool)(x:γ)(l:List γ):(bU p x l).Perm (x::l):=by
 unfold bU
 have h:=List.takeWhile_append_dropWhile (p:=fun y => !p y) (l:=l)
 conv=>rhs;rw[← h]
 exact List.perm_middle
theorem lL {γ κ:Type}{lt:κ→κ→Bool}(key:γ→κ)(tr:∀{a b c},lt a b=true→lt b c=true→lt a c=true)(tot:∀{a b},lt a b=false→a≠b→lt b a=true){x:γ} :
  ∀{l:List γ},l.Pairwise (fun a b=>lt (key a) (key b)=true)→(∀y∈l,key x≠key y)→(bU (fun y=>lt (key x) (key y)) x l).Pairwise fun a b=>lt (key a) (key b)=true
 | [],_,_=>by simp[bU]
 | y::r,hl,hx=>by
  obtain⟨l1,l2⟩:=List.pairwise_cons.1 hl
  unfold bU
  by_cases hy:lt (key x) (key y)=true
  ·simp only[List.takeWhile_cons,List.dropWhile_cons,hy,Bool.not_true,Bool.false_eq_true,if_false,List.nil_append]
   refine List.pairwise_cons.2 ⟨fun z hz=>?_,hl⟩
   rcases List.mem_cons.1 hz with rfl|hz
   ·exact hy
   ·exact tr hy (l1 z hz)
  ·have hy':lt (key x) (key y)=false:=by simpa using hy
   have ih:=lL (γ:=γ) (κ:=κ) (lt:=lt) key (@tr) (@tot) (l:=r) l2 fun z hz=>hx z (by simp[hz])
   have hyx:=tot hy' (hx y (by simp))
   simp only[List.takeWhile_cons,List.dropWhile_cons,hy',Bool.not_false,if_true,List.cons_append]
   refine List.pairwise_cons.2 ⟨fun z hz=>?_,ih⟩
   have:=(jv (fun y=>lt (key x) (key y)) x r).mem_iff.1 hz
   rcases List.mem_cons.1 this with rfl|hz'
   ·exact hyx
   ·exact l1 z hz'
theorem xA {l:List VT}{n:Int}(h:dJ l n<0):∀y∈l,y.1≠n:=by
 unfold dJ at h
 split at h
 ·omega
 ·rename_i hn
  rw[List.findIdx?_eq_none_iff] at hn
  intro y hy
  simpa using hn y hy
theorem pI {l:List VT}{n:Int}(h:¬dJ l n<0):inV l n=true:=by
 unfold dJ at h
 split at h
 ·rename_i i hi
  obtain⟨h1,h2,_⟩:=List.findIdx?_eq_some_iff_getElem.1 hi
  exact List.any_eq_true.2 ⟨_,List.getElem_mem h1,h2⟩
 ·omega
theorem xB {l:List ET}{m n:Int}(h:ck l m n<0):∀y∈l,y.1≠ends m n:=by
 unfold ck at h
 split at h
 ·omega
 ·rename_i hn
  rw[List.findIdx?_eq_none_iff] at hn
  intro y hy he
  have h2:=hn y hy
  obtain⟨⟨p,q⟩,c⟩:=y
  simp only[ends,Prod.mk.injEq] at he
  simp only[gk] at h2
  by_cases hmn:m≤n
  ·rw[Int.min_eq_left hmn,Int.max_eq_right hmn] at he
   rw[he.1,he.2] at h2;simp at h2
  ·rw[Int.min_eq_right (by omega),Int.max_eq_left (by omega)] at he
   rw[he.1,he.2] at h2;simp at h2
theorem pJ {l m:List VT}(h:∀y∈l,∃z∈m,z.1=y.1){n:Int}(hn:inV l n=true):inV m n=true:=by
 obtain⟨y,hy,hyn⟩:=List.any_eq_true.1 hn
 obtain⟨z,hz,hzy⟩:=h y hy
 exact List.any_eq_true.2 ⟨z,hz,by rw[hzy];exact hyn⟩
theorem pK {d:DT}{x y:VT}(h:keepV d x=some y):y.1=x.1:=by
 unfold keepV at h;split at h <;> simp at h;rw[← h]
theorem pL {d:DT}{a:Int}{i:Nat}{x y:ET}(h:dq d a i x=some y):y.1=x.1:=by
 unfold dq at h;split at h <;> simp at h;rw[← h]
theorem lM {d:DT}{a:Int}:∀{i:Nat} {l:List ET} {y:ET},y∈bR d a i l→∃j,∃x∈l,dq d a j x=some y
 | _,[],y,h=>by simp[bR] at h
 | i,x::r,y,h=>by
  rw[bR,List.mem_append] at h
  rcases h with h|h
  ·exact⟨i,x,by simp,by simpa using h⟩
  ·obtain⟨j,z,hz,hj⟩:=lM h
   exact⟨j,z,by simp[hz],hj⟩
theorem pM {d:DT}{a:Int}:∀{i:Nat} {l:List ET},l.Pairwise (fun p q=>lt2 p.1 q.1=true)→(bR d a i l).Pairwise fun p q=>lt2 p.1 q.1=true
 | _,[],_=>by simp[bR]
 | i,x::r,h=>by
  obtain⟨h1,h2⟩:=List.pairwise_cons.1 h
  rw[bR,List.pairwise_append]
  refine⟨by cases dq d a i x <;> simp,pM h2,fun p hp q hq=>?_⟩
  obtain⟨j,z,hz,hj⟩:=lM hq
  have hp':dq d a i x=some p:=by simpa using hp
  rw[pL hp',pL hj];exact h1 z hz
theorem xC {g:GT}(G:Gr.Ok g){d:DT}(hd:0≤d.2.2.2.1∧d.2.2.2.1<256):Gr.Ok (doR g d).1:=by
 unfold doR
 by_cases hw:(ct g d != 0)=true
 ·rw[if_pos hw];exact G
 rw[if_neg hw]
 have hw0:ct g d=0:=by simpa using hw
 unfold ct at hw0
 split at hw0
 ·cases hw0
 rename_i c1
 split at hw0
 ·cases hw0
 rename_i c2
 split at hw0
 ·cases hw0
 rename_i c3
 simp only[Bool.or_eq_true,Bool.and_eq_true,decide_eq_true_eq,not_or,not_and] at c1 c2 c3
 obtain⟨⟨c2a,c2b⟩,c2c⟩:=c2
 by_cases h0:(d.1==0)=true
 ·rw[if_pos h0]
  rw[if_pos h0] at hw0
  have hd0:d.1=0:=by simpa using h0
  split at hw0
  ·cases hw0
  rename_i c4
  have hnot:=xA (l:=g.1) (n:=d.2.1) (by simpa using c4)
  have hp:=jv (fun y:VT=>lt1 d.2.1 y.1) (d.2.1,d.2.2.2) g.1
  have hhv:=c2c (by rw[hd0];decide)
  refine⟨lL (γ:=VT) (κ:=Int) (lt:=lt1) (fun y=>y.1) (fun h k=>nL h k) (fun h k=>ux h k) (x:=(d.2.1,d.2.2.2)) G.sv fun y hy=>(hnot y hy).symm,G.se,fun y hy=>?_,fun y hy=>?_,G.ne⟩
  ·rcases List.mem_cons.1 (hp.mem_iff.1 hy) with rfl|hy
   ·refine⟨by simp[dp];omega,hd,by simp only[heavy,Bool.or_eq_false_iff,decide_eq_false_iff_not];omega⟩
   ·exact G.rv y hy
  ·obtain⟨k1,k2,k3,k4⟩:=G.re y hy
   have hm:∀z∈g.1,∃z'∈insV g.1 (d.2.1,d.2.2.2),z'.1=z.1:=fun z hz=>⟨z,hp.mem_iff.2 (by simp[hz]),rfl⟩
   exact⟨k1,pJ hm k2,pJ hm k3,k4⟩
 rw[if_neg h0]
 rw[if_neg h0] at hw0
 split at hw0
 ·cases hw0
 rename_i c5
 simp only[Bool.or_eq_true,Bool.and_eq_true,decide_eq_true_eq,not_or,not_and] at c5
 by_cases h2:(d.1==2)=true
 ·rw[if_pos h2]
  rw[if_pos h2] at hw0
  have hd2:d.1=2:=by simpa using h2
  split at hw0
  ·cases hw0
  rename_i c6
  split at hw0
  ·cases hw0
  rename_i c7
  have hnot:=xB (l:=g.2) (m:=d.2.1) (n:=d.2.2.1) (by simpa using c6)
  have hp:=jv (fun y:ET=>lt2 (ends d.2.1 d.2.2.1) y.1) (ends d.2.1 d.2.2.1,d.2.2.2) g.2
  have hhv:=c2c (by rw[hd2];decide)
  have hne:=c3 (by rw[hd2];decide)
  have hvv:=pI (c5.2 h2)
  have huv:=pI c5.1
  simp only[beq_iff_eq] at hne
  refine⟨G.sv,lL (γ:=ET) (κ:=Int×Int) (lt:=lt2) (fun y=>y.1) (fun h k=>nK h k) (fun h k=>uw h k) (x:=(ends d.2.1 d.2.2.1,d.2.2.2)) G.se fun y hy=>(hnot y hy).symm,G.rv,fun y hy=>?_,?_⟩
  ·rcases List.mem_cons.1 (hp.mem_iff.1 hy) with rfl|hy
   ·refine⟨by simp only[ends];omega,?_,?_,hd,by simp only[heavy,Bool.or_eq_false_iff,decide_eq_false_iff_not];omega⟩
    ·simp only[ends];by_cases hm:d.2.1≤d.2.2.1
     ·rw[Int.min_eq_left hm];exact huv
     ·rw[Int.min_eq_right (by omega)];exact hvv
    ·simp only[ends];by_cases hm:d.2.1≤d.2.2.1
     ·rw[Int.max_eq_right hm];exact hvv
     ·rw[Int.max_eq_left (by omega)];exact huv
   ·exact G.re y hy
  ·simp only[fU,lJ]
   have:¬((1024:Int)≤(g.2.length:Nat)):=by simpa using c7
   omega
 rw[if_neg h2]
 have hkeep:∀y∈g.1,d.1≠1∨y.1≠d.2.1→∃z∈g.1.filterMap (keepV d),z.1=y.1:=fun y hy hc=>by
  have hn:¬(y.1==d.2.1&&d.1==1)=true:=by simp only[Bool.and_eq_true,beq_iff_eq];omega
  have hk:∃z,keepV d y=some z∧z.1=y.1:=⟨_,if_neg hn,rfl⟩
  obtain⟨z,hz,hzy⟩:=hk
  exact⟨z,List.mem_filterMap.2 ⟨y,hy,hz⟩,hzy⟩
 refine⟨?_,pM G.se,fun y hy=>?_,fun y hy=>?_,Nat.le_trans (iZ _ _ _ _) G.ne⟩
 ·simp only[gm]
  rw[List.pairwise_filterMap]
  exact G.sv.imp fun {a b} h p hp q hq=>by rw[pK hp,pK hq];exact h
 ·obtain⟨x,hx,hxy⟩:=List.mem_filterMap.1 hy
  obtain⟨k1,k2,k3⟩:=G.rv x hx
  unfold keepV at hxy
  split at hxy
  ·cases hxy
  ·simp only[Option.some.injEq] at hxy
   rw[← hxy]
   refine⟨k1,?_,?_⟩
   ·simp only;split
    ·exact hd
    ·exact k2
   ·simp only;split
    ·rename_i h5
     have h5':d.1=5:=by simp only[Bool.and_eq_true,beq_iff_eq] at h5;exact h5.2
     have hhv:=c2c (by rw[h5'];decide)
     simp only[heavy,Bool.or_eq_false_iff,decide_eq_false_iff_not];omega
    ·exact k3
 ·obtain⟨j,x,hx,hxy⟩:=lM hy
  obtain⟨k1,k2,k3,k4,k5⟩:=G.re x hx
  unfold dq at hxy
  split at hxy
  ·cases hxy
  ·rename_i hno
   simp only[Option.some.injEq] at hxy
   have hno':d.1≠1∨(x.1.1≠d.2.1∧x.1.2≠d.2.1):=by
    simp only[Bool.or_eq_true,Bool.and_eq_true,beq_iff_eq,not_or,not_and] at hno
    by_cases h1:d.1=1
    ·exact .inr ⟨fun h=>(hno.1 h1).1 h,fun h=>(hno.1 h1).2 h⟩
    ·exact .inl h1
   have stay:∀n,inV g.1 n=true→(d.1≠1∨n≠d.2.1)→inV (gm g d).1 n=true:=fun n hn hc=>by
    obtain⟨y,hy,hyn⟩:=List.any_eq_true.1 hn
    have hyn':y.1=n:=by simpa using hyn
    obtain⟨z,hz,hzy⟩:=hkeep y hy (by rw[hyn'];exact hc)
    exact List.any_eq_true.2 ⟨z,hz,by rw[hzy];exact hyn⟩
   rw[← hxy]
   refine⟨k1,stay _ k2 (hno'.imp id (·.1)),stay _ k3 (hno'.imp id (·.2)),?_,?_⟩
   ·simp only;split
    ·exact hd
    ·exact k4
   ·simp only;split
    ·rename_i h7
     have h7':d.1=7:=by simp only[Bool.and_eq_true,beq_iff_eq] at h7;exact h7.2
     have hhv:=c2c (by rw[h7'];decide)
     simp only[heavy,Bool.or_eq_false_iff,decide_eq_false_iff_not];omega
    ·exact k5
theorem bH {n:Int}(h1 : -9223372036854775808≤n)(h2:n≤9223372036854775807):(Lit.int .i64 n).wf=true:=by
 have h3:IntKind.i64.min = -9223372036854775808:=by decide
 have h4:IntKind.i64.max=9223372036854775807:=by decide
 simp only[Lit.wf,h3,h4,Bool.and_eq_true,decide_eq_true_eq]
 omega
theorem wf8 {n:Int}(h1:0≤n)(h2:n<256):(Lit.int .u8 n).wf=true:=by
 have h3:IntKind.u8.min=0:=by decide
 have h4:IntKind.u8.max=255:=by decide
 simp only[Lit.wf,h3,h4,Bool.and_eq_true,decide_eq_true_eq]
 omega
theorem gn {n:Int}(h:dp n=true):0≤n∧n<1024:=by simpa[dp] using h
theorem jw {g:GT}(G:Gr.Ok g){n:Int}(h:inV g.1 n=true):0≤n∧n<1024:=by
 obtain⟨y,hy,hyn⟩:=List.any_eq_true.1 h
 have:=gn (G.rv y hy).1
 have hyn':y.1=n:=by simpa using hyn
 rwa [hyn'] at this
theorem pN {n:Int}(h:Gr.heavy n=false) : -1048576≤n∧n≤1048576:=by
 simp only[heavy,Bool.or_eq_false_iff,decide_eq_false_iff_not] at h;omega
theorem xD {g:GT}(G:Gr.Ok g):∀x∈g.1,okD (dV x):=fun x hx=>by
 obtain⟨h1,h2,h3⟩:=G.rv x hx
 have:=gn h1;have:=pN h3
 exact⟨bH (by simp only[dV];omega) (by simp only[dV];omega),bH (by simp only[dV];omega) (by simp only[dV];omega),wf8 h2.1 h2.2,bH (by simp only[dV];omega) (by simp only[dV];omega)⟩
theorem xE {g:GT}(G:Gr.Ok g):∀x∈g.2,okD (dE x):=fun x hx=>by
 obtain⟨h1,h2,h3,h4,h5⟩:=G.re x hx
 have:=jw G h2;have:=jw G h3;have:=pN h5
 exact⟨bH (by simp only[dE];omega) (by simp only[dE];omega),bH (by simp only[dE];omega) (by simp only[dE];omega),wf8 h4.1 h4.2,bH (by simp only[dE];omega) (by simp only[dE];omega)⟩
theorem pO {g h:GT}(h1:g.1.Perm h.1)(h2:g.2.Perm h.2)(d:DT):bK g d=bK h d:=by
 unfold bK tests
 have e1:∀n,inV g.1 n=inV h.1 n:=fun n=>h1.any_eq
 have e2:∀m n,inE g.2 m n=inE h.2 m n:=fun m n=>h2.any_eq
 simp only[e1,e2,h2.length_eq]
theorem pP {α β:Type}[DecidableEq α]{l m:List (α×β)}{k:α}{c:β}(h:l.Perm m)(hk:∀y∈m,y.1≠k):(aT l k c).Perm (m++[(k,c)]):=by
 unfold aT
 have:l.filter (fun p => !decide (p.1=k))=l:=List.filter_eq_self.2 fun p hp=>by simpa using hk p (h.mem_iff.1 hp)
 rw[this]
 exact (h.cons _).trans (List.perm_append_singleton _ _).symm
theorem pQ {g:GT}(G:Gr.Ok g):∀i,i≤g.1.length→∃h:GT,((g.1.map dV).take i).foldl stepB (some ([],[]))=some h∧h.1.Perm (g.1.take i)∧h.2=[]
 | 0,_=>⟨([],[]),by simp,by simp,rfl⟩
 | i+1,hi=>by
  obtain⟨h,k1,k2,k3⟩:=pQ G i (by omega)
  have hx:=List.getElem?_eq_getElem (show i<g.1.length by omega)
  generalize g.1[i]=x at hx
  have hxd:(g.1.map dV)[i]?=some (dV x):=by rw[List.getElem?_map,hx];rfl
  have hw:=(stepV G hx).1
  have hb:=before G.sv hx
  have hpw:bK h (dV x)=0:=by rw[pO (h:=(g.1.take i,[])) k2 (by rw[k3])];exact hw
  refine⟨doP h (dV x),by rw[io _ hxd,k1,stepB,if_pos hpw],?_,?_⟩
  ·rw[eo hx]
   show (aT h.1 x.1 x.2).Perm _
   exact pP k2 fun y hy=>(gW (hb y hy)).2
  ·exact k3
theorem pR {g:GT}(G:Gr.Ok g){h0:GT}(p1:h0.1.Perm g.1)(p2:h0.2=[]):∀i,i≤g.2.length→∃h:GT,((g.2.map dE).take i).foldl stepB (some h0)=some h∧h.1.Perm g.1∧h.2.Perm (g.2.take i)
 | 0,_=>⟨h0,by simp,p1,by rw[p2];simp⟩
 | i+1,hi=>by
  obtain⟨h,k1,k2,k3⟩:=pR G p1 p2 i (by omega)
  have hx:=List.getElem?_eq_getElem (show i<g.2.length by omega)
  generalize g.2[i]=x at hx
  have hxd:(g.2.map dE)[i]?=some (dE x):=by rw[List.getElem?_map,hx];rfl
  have hw:=(uy G hx).1
  have hb:=before G.se hx
  have hpw:bK h (dE x)=0:=by rw[pO (h:=(g.1,g.2.take i)) k2 k3];exact hw
  have he:ends x.1.1 x.1.2=x.1:=nM (G.re x (List.mem_of_getElem? hx)).1
  refine⟨doP h (dE x),by rw[io _ hxd,k1,stepB,if_pos hpw],k2,?_⟩
  rw[eo hx]
  show (aT h.2 (ends x.1.1 x.1.2) x.2).Perm _
  rw[he]
  exact pP k3 fun y hy=>(gV (hb y hy)).2
theorem xF {g:GT}(G:Gr.Ok g):∃g',dX g.1 g.2=some g'∧g'.1.Perm g.1∧g'.2.Perm g.2:=by
 obtain⟨h,k1,k2,k3⟩:=pQ G g.1.length (Nat.le_refl _)
 rw[List.take_of_length_le (by simp)] at k1
 rw[List.take_length] at k2
 obtain⟨h',l1,l2,l3⟩:=pR G k2 k3 g.2.length (Nat.le_refl _)
 rw[List.take_of_length_le (by simp)] at l1
 rw[List.take_length] at l3
 exact⟨h',by rw[dX,k1,l1],l2,l3⟩
end Go.Mono
namespace Go.Mono
open Go Go.RowKit Go.Gr
section
variable {P:Program}{α β:Type}[DecidableEq α]{V:KV P α β}{w w':World}{b r n:Nat}{old rest:List (α×β)}
def RgR (V:KV P α β)(w:World)(b r n:Nat)(old rest:List (α×β)):Prop:=
 ∃es left cnt,w.ranges P V.k V.R b r n (.map es) left cnt∧es.Perm ((old++rest).map V.enc)∧(∀p∈old++rest,V.ok p.1∧V.okv p.2)∧(old++rest).Pairwise (fun p q=>p.1≠q.1) ∧
  (∀x,V.ok x→left (V.kl x)=rest.any fun p=>decide (p.1=x))
theorem RgR.lt (h:RgR V w b r n old rest):b<w.heap.size∧r<w.heap.size∧r≠b:=by
 obtain⟨es,left,cnt,h1,_⟩:=h
 exact⟨h1.owns.lt,h1.lt,h1.ne⟩
theorem RgR.gr (h:RgR V w b r n old rest){row:Option Nat}(hg:w.grownBy w' row)(h1:some b≠row)(h2:some r≠row):RgR V w' b r n old rest:=by
 obtain⟨es,left,cnt,k1,k2⟩:=h
 exact⟨es,left,cnt,k1.kept hg h1 h2,k2⟩
theorem RgR.ext (h:RgR V w b r n old rest)(e:Ext w w'):RgR V w' b r n old rest:=h.gr e.gr0 (by simp) (by simp)
instance:Ug w w' (RgR V w b r n old rest) (RgR V w' b r n old rest):=⟨fun e h=>h.ext e⟩
theorem MpR.range {t:TypeId}{l:List (α×β)}(h:MpR V w b n l)(ht:P.underlying t=some (.map V.k V.e)) :
  ∃w',(Instr.range t (.map (some b))).run P w=.ok (.pointer (some ⟨w.heap.size,0,none⟩)) w'∧RgR V w' b w.heap.size n [] l∧Ext w w'∧w'.heap.size=w.heap.size+1:=by
 obtain⟨es,h1,h2,h3,h4⟩:=h
 obtain⟨w',k1,k2,k3,k4⟩:=h1.range V.K ht
 refine⟨w',k1,⟨es,_,_,k2,h2,h3,h4,fun x hx=>?_⟩,⟨k3.os,k3.tape,k3.output,k3.size,fun b hb=>k3.block b hb (by simp)⟩,k4⟩
 obtain⟨D,h5,h6,_⟩:=MpR.has (V:=V) ⟨es,h1,h2,h3,h4⟩ hx
 show es.any (fun p=>p.1.sameKey (V.kl x))=_
 rw[h2.any_eq,List.any_map,Bool.eq_iff_iff]
 simp only[List.any_eq_true,Function.comp,KV.enc]
 exact⟨fun⟨p,hp,hq⟩=>⟨p,hp,by rwa [V.same hx (h3 p hp).1] at hq⟩,fun⟨p,hp,hq⟩=>⟨p,hp,by rwa [V.same hx (h3 p hp).1]⟩⟩
theorem ip {γ δ:Type}:∀{m:List (γ×δ)},m.Pairwise (fun p q=>p.1≠q.1)→∀{x:γ} {c c':δ},(x,c)∈m→(x,c')∈m→c=c'
 | [],_,_,_,_,h,_=>by simp at h
 | y::r,hm,x,c,c',h,h'=>by
  obtain⟨h6,h7⟩:=List.pairwise_cons.1 hm
  rcases List.mem_cons.1 h with hy|h1 <;> rcases List.mem_cons.1 h' with hy'|h2
  ·rw[← hy] at hy';exact (congrArg Prod.snd hy').symm
  ·exact absurd rfl (by have:=h6 _ h2;rwa [← hy] at this)
  ·exact absurd rfl (by have:=h6 _ h1;rwa [← hy'] at this)
  ·exact ip h7 h1 h2
theorem er:∀{m:List (α×β)},m.Pairwise (fun p q=>p.1≠q.1)→∀{x:α} {c:β},(x,c)∈m→m.Perm ((x,c)::m.filter fun p => !decide (p.1=x))
 | [],_,_,_,h=>by simp at h
 | y::r,hm,x,c,h=>by
  obtain⟨h6,h7⟩:=List.pairwise_cons.1 hm
  rcases List.mem_cons.1 h with hy|h1
  ·subst hy
   rw[List.filter_cons_of_neg (by simp)]
   have:r.filter (fun p => !decide (p.1=x))=r:=List.filter_eq_self.2 fun p hp=>by have:=h6 p hp;simp only[Bool.not_eq_true',decide_eq_false_iff_not];exact fun h=>this h.symm
   rw[this]
  ·have hne:y.1≠x:=fun he=>h6 _ h1 he
   rw[List.filter_cons_of_pos (by simpa using hne)]
   exact ((er h7 h1).cons y).trans (List.Perm.swap _ _ _)
theorem RgR.next (h:RgR V w b r n old rest)(ty:TypeId) :
  (rest=[]∧(Instr.next (.pointer (some ⟨r,0,none⟩)) false ty).run P w=.ok (.tuple #[.bool false]) w) ∨
  ∃x c w',(x,c)∈rest∧(Instr.next (.pointer (some ⟨r,0,none⟩)) false ty).run P w=.ok (.tuple #[.bool true,V.kv x,V.mv c]) w'∧RgR V w' b r n (old++[(x,c)]) (rest.filter fun p => !decide (p.1=x))∧w.grownBy w' (some r) ∧
   (Instr.entry (.pointer (some ⟨r,0,none⟩))).run P w'=.ok (.tuple #[V.kv x,V.mv c]) w':=by
 obtain⟨es,left,cnt,h1,h2,h3,h4,h5⟩:=h
 have hMp:MpR V w b n (old++rest):=⟨es,h1.owns,h2,h3,h4⟩
 rcases h1.next V.K ty with ⟨h0,hl,hrun⟩|⟨key,v,kl,y,w',cnt',hkey,hlk,hv,hat,hrun,hrg,_,hgr,_,hen⟩
 ·refine .inl ⟨?_,hrun⟩
  cases rest with
  | nil=>rfl
  | cons p s=>
   have:=h5 p.1 (h3 p (by simp)).1
   rw[hl] at this
   simp at this
 ·obtain⟨x,hx,rfl,rfl⟩:=V.keyInv _ _ hkey
  obtain⟨c,hc,rfl,rfl⟩:=V.valInv _ _ hv
  rw[h5 x hx,List.any_eq_true] at hlk
  obtain⟨⟨x',c'⟩,hp,hpx⟩:=hlk
  obtain rfl:x'=x:=by simpa using hpx
  obtain⟨D,k1,k2,k3,_⟩:=hMp.has hx
  have hD:∀z,(DataW.map es).atKey (V.kl x') z=V.dv c':=by
   intro z
   have hm:V.enc (x',c')∈es:=h2.mem_iff.2 (List.mem_map_of_mem (by simp[hp]))
   obtain⟨es',hD',hpw,_⟩:=h1.owns.entries V.K
   cases hD'
   have hcm:(x',c')∈old++rest:=by simp[hp]
   simp only[DataW.atKey]
   cases hf:es.find? (fun p=>p.1.sameKey (V.kl x')) with
   | none=>
    have:=List.find?_eq_none.1 hf _ hm
    simp[KV.enc,WideAt.sameKey_self (V.isKey hx)] at this
   | some q=>
    have hq:=List.mem_of_find?_eq_some hf
    have hq2:=List.find?_some hf
    obtain⟨p,hp2,rfl⟩:=List.mem_map.1 (h2.mem_iff.1 hq)
    have hpx':p.1=x':=by rw[KV.enc,V.same hx (h3 p hp2).1] at hq2;simpa using hq2
    have:p=(x',p.2):=by rw[← hpx']
    rw[this] at hp2
    rw[this,ip h4 hp2 hcm];rfl
  have hcc:c=c':=V.dvInj _ _ ((hat .nil).symm.trans (hD .nil))
  subst hcc
  have hperm:=er (List.pairwise_append.1 h4).2.1 hp
  have hp2:(old++rest).Perm (old++[(x',c)]++rest.filter fun p => !decide (p.1=x')):=by
   rw[List.append_assoc];exact (List.Perm.append_left old hperm)
  refine .inr ⟨x',c,w',hp,hrun,⟨es,_,_,hrg,h2.trans (hp2.map _),fun p hp=>h3 p (hp2.mem_iff.2 hp),(hp2.pairwise_iff (fun {_ _} hne=>Ne.symm hne)).1 h4,fun z hz=>?_⟩,hgr,hen⟩
  rw[h5 z hz,V.same hx hz,List.any_filter]
  by_cases hzx:z=x'
  ·subst hzx
   simp only[decide_true,Bool.not_true,Bool.and_false]
   symm
   rw[List.any_eq_false]
   intro p _
   simp
  ·simp only[hzx,decide_false,Bool.not_false,Bool.and_true]
   congr 1
   funext p
   by_cases hpz:p.1=z
   ·simp[hpz,hzx]
   ·simp[hpz]
end
section tail
variable {P:Program}{L:Env}{ty:TypeId}{pos:String}{aft:Array Edge}{ro:Option Nat}{ds:List Deferred}
variable {ops:Array Oper}{rest:List Oper}{Q:Exit→Act→World→Prop}{n:Nat}{a:Act}{w:World}{x y z:Operand}{α β:Type}[DecidableEq α]{V:KV P α β}{d:Nat}
theorem iq {t:TypeId}{b nn:Nat}{l:List (α×β)}(ht:P.underlying t=some (.map V.k V.e))(hf:FrD n ds a w L)(hd:d<n)(hx:opd L x=some (E (.map (some b))))(hM:MpR V w b nn l)
  (k:∀a' r w',Ext w w'→r=w.heap.size→w'.heap.size=r+1→RgR V w' b r nn [] l→FrD n ds a' w' ((d,E (.pointer (some ⟨r,0,none⟩)))::L)→wpListIn (FW ro) 0 P ops Q rest a' w') :
  wpListIn (FW ro) 0 P ops Q (⟨some d,.range t x,ty,pos,aft,none⟩::rest) a w:=
 wpListIn_plain rfl fun K hK=>by
  have hxv:a.eval x=.map (some b):=hf.opd x _ hx
  obtain⟨w',h1,h2,h3,h4⟩:=hM.range ht
  refine OpR.wp (R:=fun v w1=>v=.pointer (some ⟨w.heap.size,0,none⟩)∧w1=w') ?_ ?_
  ·simp only[OpR,execOp,hxv,Sem.run_bind,h1,Result.andThen_ok,Sem.run_pure]
   exact⟨trivial,trivial⟩
  ·rintro v w1 ⟨rfl,rfl⟩
   exact hK _ _ (k _ _ _ h3 rfl h4 h2 (hf.put (d:=some d) h3 (fun k hk=>by cases hk;exact hd) rfl))
theorem ir {b r nn:Nat}{old rem:List (α×β)}(hf:FrD n ds a w L)[hL:AvL r L](hd:d<n)(hx:opd L x=some (E (.pointer (some ⟨r,0,none⟩))))(hR:RgR V w b r nn old rem)
  (k0:∀a',rem=[]→FrD n ds a' w ((d,E (.tuple #[.bool false]))::L)→wpListIn (FW ro) 0 P ops Q rest a' w)
  (k1:∀a' w' i c,(i,c)∈rem→w.grownBy w' (some r)→RgR V w' b r nn (old++[(i,c)]) (rem.filter fun p => !decide (p.1=i))→(Instr.entry (.pointer (some ⟨r,0,none⟩))).run P w'=.ok (.tuple #[V.kv i,V.mv c]) w' →
   FrD n ds a' w' ((d,E (.tuple #[.bool true,V.kv i,V.mv c]))::L)→wpListIn (FW ro) 0 P ops Q rest a' w') :
  wpListIn (FW ro) 0 P ops Q (⟨some d,.next x false,ty,pos,aft,none⟩::rest) a w:=
 wpListIn_plain rfl fun K hK=>by
  have hxv:a.eval x=.pointer (some ⟨r,0,none⟩):=hf.opd x _ hx
  rcases hR.next ty with ⟨h0,hrun⟩|⟨i,c,w',hm,hrun,hR',hg,hen⟩
  ·refine OpR.wp (R:=fun v w1=>v=.tuple #[.bool false]∧w1=w) ?_ ?_
   ·simp only[OpR,execOp,hxv,Sem.run_bind,hrun,Result.andThen_ok,Sem.run_pure]
    exact⟨trivial,trivial⟩
   ·rintro v w1 ⟨rfl,rfl⟩
    exact hK _ _ (k0 _ h0 (hf.put (d:=some d) (Ext.rfl' _) (fun k hk=>by cases hk;exact hd) rfl))
  ·refine OpR.wp (R:=fun v w1=>v=.tuple #[.bool true,V.kv i,V.mv c]∧w1=w') ?_ ?_
   ·simp only[OpR,execOp,hxv,Sem.run_bind,hrun,Result.andThen_ok,Sem.run_pure]
    exact⟨trivial,trivial⟩
   ·rintro v w1 ⟨rfl,rfl⟩
    exact hK _ _ (k1 _ _ _ _ hm hg hR' hen ((hf.gr hg).put (d:=some d) (Ext.rfl' _) (fun k hk=>by cases hk;exact hd) rfl))
theorem iv {r:Nat}{u:Value}(hf:FrD n ds a w L)(hd:d<n)(hx:opd L x=some (E (.pointer (some ⟨r,0,none⟩))))(hen:(Instr.entry (.pointer (some ⟨r,0,none⟩))).run P w=.ok u w)
  (k:∀a',FrD n ds a' w ((d,E u)::L)→wpListIn (FW ro) 0 P ops Q rest a' w) :
  wpListIn (FW ro) 0 P ops Q (⟨some d,.entry x,ty,pos,aft,none⟩::rest) a w:=
 wpListIn_plain rfl fun K hK=>by
  have hxv:a.eval x=.pointer (some ⟨r,0,none⟩):=hf.opd x _ hx
  refine OpR.wp (R:=fun v w1=>v=u∧w1=w) ?_ ?_
  ·simp only[OpR,execOp,hxv,Sem.run_bind,hen,Result.andThen_ok,Sem.run_pure]
   exact⟨trivial,trivial⟩
  ·rintro v w1 ⟨rfl,rfl⟩
   exact hK _ _ (k _ (hf.put (d:=some d) (Ext.rfl' _) (fun k hk=>by cases hk;exact hd) rfl))
theorem ca {vs:Array Value}{i:Nat}{u:Value}(hf:FrD n ds a w L)(hd:d<n)(hx:opd L x=some (E (.tuple vs)))(hi:vs[i]?=some u)
  (k:∀a',FrD n ds a' w ((d,E u)::L)→wpListIn (FW ro) 0 P ops Q rest a' w) :
  wpListIn (FW ro) 0 P ops Q (⟨some d,.extract x i,ty,pos,aft,none⟩::rest) a w:=
 wpListIn_plain rfl fun K hK=>by
  have hxv:a.eval x=.tuple vs:=hf.opd x _ hx
  refine OpR.wp (R:=fun v w1=>v=u∧w1=w) ?_ ?_
  ·simp[OpR,execOp,hxv,Instr.extract,part,hi]
  ·rintro v w1 ⟨rfl,rfl⟩
   exact hK _ _ (k _ (hf.put (d:=some d) (Ext.rfl' _) (fun k hk=>by cases hk;exact hd) rfl))
end tail
end Go.Mono
namespace Go.Mono
open Go Go.Proofs Go.RowKit Go.Gr

def fB (S:BS):DataW Unit:=.lit (.int .i64 (S.toNat:Int))
theorem xG {S S':BS}(h:fB S=fB S'):S=S':=by
 unfold fB at h
 injection h with h
 injection h with _ h
 exact BitVec.eq_of_toNat_eq (by omega)
theorem xH {S S':BS}(h:ac S=ac S'):S=S':=tN (by injection h)
open Classical in
noncomputable def iw (v:Value):Option (DataW Unit×List MemPlace):=if h:∃S,v=ac S then some (fB (Classical.choose h),[]) else none
theorem xI (S:BS):iw (ac S)=some (fB S,[]):=by
 have h:∃S',ac S=ac S':=⟨S,rfl⟩
 unfold iw
 rw[dif_pos h,← xH (Classical.choose_spec h)]
theorem xJ {v:Value}{y:DataW Unit×List MemPlace}(h:iw v=some y):∃S,True∧v=ac S∧y=(fB S,[]):=by
 unfold iw at h
 split at h
 ·rename_i hx;cases h;exact⟨_,trivial,Classical.choose_spec hx,rfl⟩
 ·cases h
noncomputable def sKV:KV Tryz.prog Int BS where
 k:=3
 e:=76
 kv:=fun x=>.int .i64 x
 kl:=fun x=>.int .i64 x
 ok:=fun x=>(Lit.int .i64 x).wf=true
 mv:=ac
 dv:=fB
 okv:=fun _=>True
 R:=iw
 K:=Maps.int_keyed U3
 key:=fun x hx=>Maps.keyOf_int_mk U3 hx
 keyInv:=fun v l h=>by obtain⟨x,h1,h2,h3⟩:=Maps.keyOf_int_inv U3 h;exact⟨x,h3,h1,h2⟩
 kvInj:=fun x y h=>by cases h;rfl
 val:=fun c _=>xI c
 valInv:=fun v y h=>xJ h
 dvInj:=fun c c' h=>xG h
end Go.Mono
namespace Go.Mono
open Go Go.RowKit
theorem OwR.groE {α:Type}{e:Enc α}[FlE e]{ty:TypeId}{B:Nat}{G:Nat→Prop}{w w':World}{xs:List α}{v:Value}{row:Option Nat}(h:OwR e ty B G w xs v)(hg:w.grownBy w' row)(hne:∀b,v.ownBlock=some b→row≠some b):OwR e ty B G w' xs v:=
 h.chE (S:=fun b=>row=some b) ⟨hg.os,hg.tape,hg.output,hg.size,fun b hb hn=>hg.block b hb fun h=>hn h.symm⟩ hne
structure FlF {α:Type}(e:Enc α)(f:α→List Value):Prop where
 r:∀G w x cs,e.r G w x cs↔cs=f x
 len:∀x,(f x).length=e.k
def intF (n:Int):List Value:=[.int .i64 n]
theorem intFF:FlF intE intF:=⟨fun _ _ _ _=>Iff.rfl,fun _=>rfl⟩
def edF (x:Int×Int):List Value:=[.int .i64 x.1,.int .i64 x.2]
theorem lO:FlF edE edF:=⟨fun G w x cs=>⟨fun⟨c,d,h,h1,h2⟩=>by cases h1;cases h2;exact h,fun h=>⟨_,_,h,rfl,rfl⟩⟩,fun _=>rfl⟩
section
variable {α:Type}{e:Enc α}{f:α→List Value}{te:TypeId}{N n cap b:Nat}{cur:Array Value}{w w':World}{G:Nat→Prop}{xs:List α}{v:Value}
theorem FlF.cells (F:FlF e f):∀(xs:List α) (cs:List Value),Cells e G w xs cs↔cs=xs.flatMap f
 | [],cs=>by simp[Cells]
 | x::xs,cs=>by
  constructor
  ·rintro⟨c,d,rfl,h1,h2⟩
   rw[(F.r _ _ _ _).1 h1,(F.cells xs d).1 h2,List.flatMap_cons]
  ·intro h
   exact⟨f x,xs.flatMap f,by rw[h,List.flatMap_cons],(F.r _ _ _ _).2 rfl,(F.cells xs _).2 rfl⟩
theorem FlF.flen (F:FlF e f):∀xs:List α,(xs.flatMap f).length=xs.length * e.k
 | []=>by simp
 | x::r=>by rw[List.flatMap_cons,List.length_append,F.len,F.flen r,List.length_cons,Nat.succ_mul];omega
structure RwR (k:Nat)(te:TypeId)(N cap b:Nat)(cur:Array Value)(w:World):Prop where
 bl:Blk w b cur te
 lo:N≤b
 sz:cur.size=cap * k
 mx:cap≤maxLen
theorem RwR.ext {k:Nat}(h:RwR k te N cap b cur w)(e':Ext w w'):RwR k te N cap b cur w':=⟨h.bl.ext e',h.lo,h.sz,h.mx⟩
instance {k:Nat}:Ug w w' (RwR k te N cap b cur w) (RwR k te N cap b cur w'):=⟨fun e h=>h.ext e⟩
theorem RwR.gr {k d:Nat}(h:RwR k te N cap b cur w)(hg:w.grownBy w' (some d))(hne:b≠d):RwR k te N cap b cur w':=⟨h.bl.gr hg hne,h.lo,h.sz,h.mx⟩
theorem OwR.rw (h:OwR e te N G w xs v)(F:FlF e f):(v=.slice none 0 0∧xs=[])∨∃b cap cur,v=.slice (some ⟨b,0,none⟩) xs.length cap∧xs.length≤cap∧RwR e.k te N cap b cur w∧cur.toList.take (xs.length * e.k)=xs.flatMap f:=by
 obtain⟨cs,⟨hlen,hv⟩,hcs⟩:=h.own
 rw[F.cells] at hcs
 subst hcs
 rcases hv with ⟨rfl,hn⟩|⟨g0,cap,cur,rfl,hB,hheap,hcap,hmax,hcur,htake⟩
 ·exact .inl ⟨rfl,List.length_eq_zero_iff.1 hn⟩
 ·exact .inr ⟨g0,cap,cur,rfl,hcap,⟨hheap,hB,hcur,hmax⟩,htake⟩
theorem RwR.own (h:RwR e.k te N cap b cur w)(F:FlF e f)(hn:xs.length≤cap)(ht:cur.toList.take (xs.length * e.k)=xs.flatMap f)(hG:∀b,G b→b<N):OwR e te N G w xs (.slice (some ⟨b,0,none⟩) xs.length cap):=
 ⟨⟨xs.flatMap f,⟨F.flen xs,.inr ⟨b,cap,cur,rfl,h.lo,h.bl,hn,h.mx,h.sz,ht⟩⟩,(F.cells _ _).2 rfl⟩,hG,Nat.le_trans h.lo (Nat.le_of_lt h.bl.lt)⟩
end
section
variable {α:Type}{f:α→List Value}{k:Nat}
theorem jy (hk:∀x,(f x).length=k):∀(xs:List α) (i:Nat),(xs.flatMap f).take (i * k)=(xs.take i).flatMap f
 | [],i=>by simp
 | x::r,0=>by simp
 | x::r,i+1=>by
  rw[List.flatMap_cons,List.take_succ_cons,List.flatMap_cons,Nat.succ_mul,List.take_append,hk,List.take_of_length_le (by rw[hk];omega),show i * k+k - k=i * k by omega,jy hk r i]
theorem jz (hk:∀x,(f x).length=k):∀(xs:List α) (i:Nat),(xs.flatMap f).drop (i * k)=(xs.drop i).flatMap f
 | [],i=>by simp
 | x::r,0=>by simp
 | x::r,i+1=>by
  rw[List.flatMap_cons,List.drop_succ_cons,Nat.succ_mul,List.drop_append,hk,show i * k+k - k=i * k by omega,jz hk r i,List.drop_of_length_le (by rw[hk];omega),List.nil_append]
theorem pS (hk:∀x,(f x).length=k){cur:List Value}{xs:List α}{j m:Nat}{x:α}(h:(cur.drop (j * k)).take (m * k)=(xs.drop j).flatMap f)(hx:xs[j]?=some x)(hm:0<m):(cur.drop (j * k)).take k=f x:=by
 have h1:xs.drop j=x::xs.drop (j+1):=by
  obtain⟨hj,he⟩:=List.getElem?_eq_some_iff.1 hx
  rw[← he,List.getElem_cons_drop]
 rw[h1,List.flatMap_cons] at h
 have h2:((cur.drop (j * k)).take (m * k)).take k=(cur.drop (j * k)).take k:=by
  rw[List.take_take,Nat.min_eq_left (by exact Nat.le_mul_of_pos_left k hm)]
 rw[← h2,h,List.take_append,hk,Nat.sub_self,List.take_zero,List.append_nil,List.take_of_length_le (by rw[hk];exact Nat.le_refl _)]
theorem pT (hk:∀x,(f x).length=k){cur:List Value}{xs:List α}{j m:Nat}(h:(cur.drop (j * k)).take ((m+1) * k)=(xs.drop j).flatMap f):(cur.drop ((j+1) * k)).take (m * k)=(xs.drop (j+1)).flatMap f:=by
 have h1:=congrArg (List.drop (1 * k)) h
 rw[jz hk,List.drop_drop,List.drop_take,List.drop_drop] at h1
 rw[show (m+1) * k - 1 * k=m * k by rw[← Nat.sub_mul];rfl,show j * k+1 * k=(j+1) * k by rw[← Nat.add_mul]] at h1
 exact h1
theorem pU (hk:∀x,(f x).length=k){cur:List Value}{ys:List α}{x:α}(h:cur.take (ys.length * k)=ys.flatMap f)(hs:(ys.length+1) * k≤cur.length):(cur.take (ys.length * k)++f x++cur.drop (ys.length * k+k)).take ((ys.length+1) * k)=(ys++[x]).flatMap f:=by
 have hl:(cur.take (ys.length * k)).length=ys.length * k:=by rw[List.length_take,Nat.min_eq_left (Nat.le_trans (Nat.mul_le_mul_right k (Nat.le_succ _)) hs)]
 rw[List.take_append,List.take_of_length_le (by rw[List.length_append,hl,hk,Nat.succ_mul];exact Nat.le_refl _),List.length_append,hl,hk,Nat.succ_mul,Nat.sub_self,List.take_zero,List.append_nil,h,List.flatMap_append]
 simp
theorem pV (hk:∀x,(f x).length=k){cur:List Value}{i j:Nat}{x:α}(hs:(i+1) * k≤cur.length)(hij:i<j):(cur.take (i * k)++f x++cur.drop (i * k+k)).drop (j * k)=cur.drop (j * k):=by
 have h1:(i+1) * k≤j * k:=Nat.mul_le_mul_right k hij
 rw[Nat.succ_mul] at h1 hs
 have hl:(cur.take (i * k)).length=i * k:=by rw[List.length_take];omega
 rw[List.drop_append,List.length_append,hl,hk,List.drop_of_length_le (by rw[List.length_append,hl,hk];omega),List.nil_append,List.drop_drop]
 congr 1;omega
end
section ops
variable {P:Program}{w0:World}{L:Env}{dst:Option Tmp}{ty:TypeId}{pos:String}{aft:Array Edge}{g:Option (Nat×Bool)}{x y:Operand}{t te:TypeId}
theorem pW {b o n c i s:Nat}(ht:P.underlying t=some (.slice te))(hs:(P.info? te).map (·.size)=some s)(hx:opd L x=some (E (.slice (some ⟨b,o,none⟩) n c)))(hy:opd L y=some (E (.int .i64 (i:Nat))))(hi:i≤n)(hn:i<c) :
  OpC P w0 L ⟨dst,.slice t x (some y) none none,ty,pos,aft,g⟩ (E (.slice (some ⟨b,o+i * s,none⟩) (n - i) (c - i))):=
 aP fun ρ w _ hv=>by
  have h1:=opE hv (x:=x) (by simp[Op.operands]) hx
  have h2:=opE hv (x:=y) (by simp[Op.operands]) hy
  refine⟨_,?_,rfl⟩
  have hi':(0:Int)≤(i:Int)∧(i:Int)≤(n:Int):=by omega
  have hne:¬c=i:=by omega
  simp[execOp,h1,h2,Instr.sliceAt,Instr.slice,Instr.sliceBounds,Instr.sliceBound,asIntOf,run_underlying ht,hi,gU hs,hne,Addr.add_lit]
theorem lP {b o n c i s:Nat}(ht:P.underlying t=some (.slice te))(hs:(P.info? te).map (·.size)=some s)(hx:opd L x=some (E (.slice (some ⟨b,o,none⟩) n c)))(hy:opd L y=some (E (.int .i64 (i:Nat))))(hi:i≤c) :
  OpC P w0 L ⟨dst,.slice t x none (some y) none,ty,pos,aft,g⟩ (E (.slice (some ⟨b,o,none⟩) i c)):=
 aP fun ρ w _ hv=>by
  have h1:=opE hv (x:=x) (by simp[Op.operands]) hx
  have h2:=opE hv (x:=y) (by simp[Op.operands]) hy
  refine⟨_,?_,rfl⟩
  have hi':(0:Int)≤(i:Int)∧(i:Int)≤(c:Int):=by omega
  simp[execOp,h1,h2,Instr.sliceAt,Instr.slice,Instr.sliceBounds,Instr.sliceBound,asIntOf,run_underlying ht,hi,gU hs,Addr.add_lit]
end ops
section
variable {P:Program}{w0:World}{L:Env}{dst:Option Tmp}{ty:TypeId}{pos:String}{aft:Array Edge}{g:Option (Nat×Bool)}{x:Operand}{t:TypeId}{α:Type}{e:Enc α}{z:α}
theorem xK [FlE e]{B:Nat}{G G0:Nat→Prop}{te:TypeId}{z0:Value}{sz bz:Nat}(ht:P.underlying t=some (.slice te))(hi:(P.info? te).map (fun i=>(i.zero,i.size,i.bytes))=some (some z0,sz,bz))(hk:sz=e.k)(hk2:e.k≤16777216)(hz0:z0.cells.size=e.k)(hx:Is L w0 x (Dv e G0 z))(hB:B≤w0.heap.size)(hG:∀b,G b→b<B) :
  OpC P w0 L ⟨dst,.buildSlice t 1 #[(0,x)],ty,pos,aft,g⟩ (OwA e te B G [z]):=by
 refine⟨fun ρ w he hv=>?_⟩
 obtain⟨c,h1,h1'⟩:=hx.v he hv (by simp[Op.operands])
 obtain⟨it,hit,hiz,hsz,_⟩:=info_parts hi
 subst hk
 have l1:=e.len h1
 have hpos:=e.pos
 have p1:(ρ x).cells=c.toArray:=by rw[h1'];exact e.pack_cells h1
 have hc:∀(c:List Value) (n:Nat) (cells:Array Value),n+c.length=cells.size →
   (c.zipIdx n).foldl (fun cs (p:Value×Nat)=>cs.setIfInBounds (0+p.2) p.1) cells=(cells.toList.take n++c).toArray:=by
  intro c
  induction c with
  | nil=>intro n cells h;simp at h;subst h;rw[← Array.length_toList,List.take_length];simp
  | cons u c ih=>
   intro n cells h
   simp only[List.length_cons] at h
   rw[List.zipIdx_cons,List.foldl_cons,ih (n+1) _ (by simp;omega)]
   simp only[Array.toList_setIfInBounds,Nat.zero_add]
   congr 1
   have hlt:n<cells.toList.length:=by simp;omega
   rw[List.take_succ_eq_append_getElem (by simpa using hlt),List.getElem_set_self,List.take_set_of_le (Nat.le_refl _)]
   simp
 have hr:=run_buildSlice (P:=P) w t te 1 #[(0,ρ x)] c.toArray it z0 ht hit hiz (by rw[hsz];omega) (by rw[hsz];omega) (by
  have n1:¬(0 * e.k+e.k > 1 * e.k):=by omega
  simp only[Instr.fill,p1,List.size_toArray,l1,hsz,ne_eq,not_true_eq_false,decide_false,Bool.false_or,Array.size_map,Array.size_range,n1,Bool.false_eq_true,if_false,kL]
  simp only[Nat.zero_mul]
  rw[hc c 0 _ (by simp;omega)]
  simp)
 have hrun:(execOp ρ ⟨dst,.buildSlice t 1 #[(0,x)],ty,pos,aft,g⟩).run P w=.ok (.value (.slice (some ⟨w.heap.size,0,none⟩) 1 1)) (w.alloc (.cells c.toArray te)):=by
  simp only[execOp,Sem.run_bind,List.map_toArray,List.map_cons,List.map_nil,hr,Result.andThen_ok,Sem.run_pure]
 simp only[OpR,hrun]
 have hx:=cT w (.cells c.toArray te)
 have hBw:B≤w.heap.size:=Nat.le_trans hB he.size
 exact⟨hx,⟨c,⟨by simpa using l1,.inr ⟨w.heap.size,1,c.toArray,rfl,hBw,dO w _ _,Nat.le_refl _,by decide,by simpa using l1,by simp[List.take_of_length_le (Nat.le_of_eq l1)]⟩⟩,⟨c,[],by simp,FlE.fl h1,rfl⟩⟩,hG,Nat.le_trans hBw hx.size⟩
end
section tail
variable {P:Program}{L:Env}{ty:TypeId}{pos:String}{aft:Array Edge}{r:Option Nat}{ds:List Deferred}
variable {ops:Array Oper}{rest:List Oper}{Q:Exit→Act→World→Prop}{n:Nat}{a:Act}{w:World}{x y:Operand}{t te:TypeId}
theorem pX {b off m c sz bz:Nat}{z:Value}{cs:Array Value}{bt:TypeId}{d:Option Nat}(ht:P.underlying t=some (.slice te))(hi:(P.info? te).map (fun i=>(i.zero,i.size,i.bytes))=some (some z,sz,bz))(h1:∀v∈z.cells,v.oneCell'=true)(h0:0<z.cells.size)(hzs:z.cells.size=sz)
  (hf:FrD n ds a w L) [hL:AvL b L] (hx:opd L x=some (E (.slice (some ⟨b,off,none⟩) m c))) (hb:Blk w b cs bt) (hm:0<m) (ho:off+m * sz≤cs.size) (hd:∀k,d=some k→k<n)
  (k:∀a' w' zs,w.grownBy w' (some b)→w'.heap.size=w.heap.size→zs.length=m * sz→Blk w' b (cs.toList.take off++zs++cs.toList.drop (off+m * sz)).toArray bt→FrD n ds a' w' (push d Any L)→wpListIn (FW r) 0 P ops Q rest a' w') :
  wpListIn (FW r) 0 P ops Q (⟨d,.call ⟨.builtin .clear,#[x],#[t]⟩,ty,pos,aft,none⟩::rest) a w:=
 wpListIn_plain rfl fun K hK=>by
  have hxv:a.eval x=.slice (some ⟨b,off,none⟩) m c:=hf.opd x _ hx
  obtain⟨it,hit,hiz,_,_⟩:=info_parts hi
  obtain⟨zc,hzc⟩:=eqX (Builtin.zeroCells z.cells m)
  have hzl:zc.toList.length=m * sz:=by rw[hzc];simp[Builtin.zeroCells,hzs]
  have hz1:∀v∈zc.toList,v.oneCell'=true:=by
   intro v hv
   rw[hzc] at hv
   simp only[Builtin.zeroCells,Array.toList_map,List.mem_map,Array.toList_range,List.mem_range] at hv
   obtain⟨i,hi,rfl⟩:=hv
   have hlt:i % z.cells.size<z.cells.size:=Nat.mod_lt _ h0
   rw[getElem!_pos z.cells _ hlt]
   exact h1 _ (Array.getElem_mem hlt)
  have hst:=run_storeCells_at (P:=P) b off bt zc.toList 0 cs w hb (by rw[hzl];omega) hz1
  simp only[Nat.add_zero,hzl] at hst
  obtain⟨m',rfl⟩:∃k,m=k+1:=⟨m - 1,by omega⟩
  have hzv:(zeroValue te).run P w=.ok z w:=by simp[zeroValue,typeInfo,hit,hiz]
  have hrun:(Builtin.clear_ #[t] ty #[.slice (some ⟨b,off,none⟩) (m'+1) c]).run P w=.ok (.tuple #[]) (w.setRow b (cs.toList.take off++zc.toList++cs.toList.drop (off+(m'+1) * sz)).toArray):=by
   simp[Builtin.clear_,run_underlying ht,hzv,← hzc,hst]
  refine OpR.wp (R:=fun v w'=>v=.tuple #[]∧w'=w.setRow b (cs.toList.take off++zc.toList++cs.toList.drop (off+(m'+1) * sz)).toArray) ?_ ?_
  ·simp only[OpR,execOp,resolve,invoke,builtin,Sem.run_bind,Sem.run_pure,Result.andThen_ok,List.map_toArray,List.map_cons,List.map_nil,hxv,hrun]
   trivial
  ·rintro v w' ⟨rfl,rfl⟩
   refine hK _ _ (k _ _ zc.toList (dC _ _ _) (by simp) hzl (setRow_heap _ _ _ _ _ _ hb) ?_)
   exact (hf.gr (dC _ _ _)).put (d:=d) (A:=Any) (Ext.rfl' _) hd trivial
end tail
theorem MpR.tight0 {P:Program}{α β:Type}{V:KV P α β}{w:World}{b n:Nat}{l:List (α×β)}(h:MpR V w b n l):MpR V w b l.length l:=by
 obtain⟨es,⟨arr,clock,h1,F,hs,hD⟩,hp,hok,hpw⟩:=h
 have key:∀m:List (Lit×DataW Unit),(m.foldr DataW.insert []).Perm m:=by
  intro m
  induction m with
  | nil=>exact List.Perm.refl _
  | cons x m ih=>exact (ii x _).trans (ih.cons x)
 refine⟨es,⟨arr,clock,h1,F,?_,hD⟩,hp,hok,hpw⟩
 cases hD
 have h2:=(key (arr.toList.map (Go.WideElems.rg P V.k V.R))).length_eq
 have h3:=hp.length_eq
 rw[List.length_map] at h3
 rw[h3] at h2
 rw[List.length_map,Array.length_toList] at h2
 exact Nat.le_of_eq h2.symm
end Go.Mono
namespace Go.Mono
open Go Go.Proofs Go.RowKit

section
variable {g:Operand}{p:Nat}{assign body:Code}{Q:Exit→Act→World→Prop}{n b:Nat}{ds:List Deferred}{a:Act}{w:World}{S:BS}{L:Env}{r:Option Nat}

theorem xL (lo:Nat)[ei L]{l:Nat}{mark:List Deferred}{df:Nat}{D:Option Nat}(hf:FrD n ds a w L)(hx:opd L g=some (E (cY b)))(hb:Blk w b (aJ S) 76)(hp:p<n)
  (J:List Nat→World→Prop) (X:Exit→World→Prop)
  (henter:∀fn,∃W1,(Instr.enterLoop fn a.tmps #[p] assign body r).run Tryz.prog w=.ok (l,mark) W1∧W1.heap[l]?=some (.loop { state:=.ready,pending:=none,fn,tmps:=a.tmps,params := #[p],assign,body,defers:=df })∧Ext w W1 ∧
   W1.heap.size≤w.heap.size+2∧w.heap.size+lo≤W1.heap.size∧w.heap.size≤l∧∀d,D=some d→W1.heap[d]?=some (.deferred (some []))∧d≠l∧w.heap.size≤d)
  (hT:∀s w1,J s w1→Tab w1) (h0:J [] w)
  (hJ:∀s w1 w2,J s w1→w.heap.size≤w1.heap.size→Kp w.heap.size w1 w2→J s w2)
  (hX:∀e w1 w2,X e w1→w.heap.size≤w1.heap.size→Kp w.heap.size w1 w2→X e w2)
  (hbody:∀(l s x) (rest:List Nat) (a1:Act) (w1:World),aj S=s++x::rest→J s w1→w.heap.size+lo<w1.heap.size→FrD n [] a1 w1 ((p,E (I (x:Nat)))::L) →
   assign.wpIn (FW (some l)) 0 Tryz.prog (Exit.then (fun a2 w2=>Kh w.heap.size w1 w2∧∀w3,Kp w.heap.size w2 w3→w3.heap.size=w2.heap.size→body.wpIn (FW (some l)) 0 Tryz.prog (Rd J X s x w.heap.size w3) a2 w3) (fun _ _ _=>False)) a1 w1)
  (hdone:∀a' w',FrD n (mark++ds) a' w' L→J (aj S) w'→w.heap.size≤w'.heap.size→(∀d,D=some d→w'.heap[d]?=some (.deferred (some [])))→Q .normal a' w')
  (hexit:∀e c a' w',ls e=some c→FrD n (mark++ds) a' w' L→X e w'→w.heap.size≤w'.heap.size→(∀d,D=some d→w'.heap[d]?=some (.deferred (some [])))→Q e a' w') :
  (Code.rangeFunc g #[p] assign body).wpIn (FW r) 0 Tryz.prog Q a w:=by
 have hxv:a.eval g=cY b:=hf.opd g _ hx
 refine wpIn_rangeFunc fun fn _=>?_
 obtain⟨W1,hrun,hl,he,hsz,hlo,hwl,hD⟩:=henter fn
 have hlt:l<W1.heap.size:=(Array.getElem?_eq_some_iff.1 hl).1
 have hres:(resolve a.eval (rangeCall g l) 0).run Tryz.prog W1=.ok { target:=.fn (.func 110) #[.pointer (some ⟨b,0,none⟩)],args := #[.func (.yield l) #[] #[]] } W1:=by
  have hev:a.eval (.const (.func (.yield l) #[] #[]))=.func (.yield l) #[] #[]:=rfl
  simp[resolve,hxv,hev,cY,Deferred.ofValue]
 refine⟨l,mark,W1,_,W1,110,#[.func (.yield l) #[] #[],.pointer (some ⟨b,0,none⟩)],W1,hrun,hres,fun _ _=>trivial,?_,fun hd=>(by simp[FW] at hd),?_⟩
 ·exact vE _ W1
 generalize hrec:({ state:=.ready,pending:=none,fn,tmps:=a.tmps,params := #[p],assign,body,defers:=df }:Loop)=rec0 at hl
 have hhole:aX w.heap.size l:=⟨hwl,by omega⟩
 have hW3:∀x,x<W1.heap.size→w.heap.size≤x→aX w.heap.size x:=fun x h1 h2=>⟨h2,by omega⟩
 refine nf r ((wy S l b w.heap.size W1
  (fun s w1=>J s w1∧W1.heap.size≤w1.heap.size∧w1.heap[l]?=some (.loop rec0)∧∀d,D=some d→w1.heap[d]?=some (.deferred (some [])))
  (fun w1=>∃e c,ls e=some c∧X e w1∧W1.heap.size≤w1.heap.size∧w1.heap[l]?=some (.loop { rec0 with state:=.done,pending:=some c })∧∀d,D=some d→w1.heap[d]?=some (.deferred (some [])))
  ((hT [] w h0).ext he) (hb.ext he) hb.lt he.size (by omega) ⟨hJ [] w W1 h0 (Nat.le_refl _) (Kp.ext he),Nat.le_refl _,hl,fun d hd=>(hD d hd).1⟩ ?_ ?_ ?_ ?_).mono ?_)
 ·rintro s w1 w2 ⟨j1,j2,j3,j4⟩ k hsz1 hsame
  refine⟨hJ s w1 w2 j1 (Nat.le_trans he.size j2) k,Nat.le_trans j2 k.size,(hsame l hlt).trans j3,fun d hd=>(hsame d ?_).trans (j4 d hd)⟩
  exact (Array.getElem?_eq_some_iff.1 (hD d hd).1).1
 ·rintro w1 w2 ⟨e,c,x1,x2,x3,x4,x5⟩ k
  exact⟨e,c,x1,hX e w1 w2 x2 (Nat.le_trans he.size x3) (Kp.ext k),Nat.le_trans x3 k.size,(k.block l (by omega)).trans x4,fun d hd=>(k.block d (Array.getElem?_eq_some_iff.1 (x5 d hd)).1).trans (x5 d hd)⟩
 ·rintro s w1 ⟨j1,_⟩
  exact hT s w1 j1
 ·rintro s x rest w1 hs ⟨j1,j2,j3,j4⟩ hltW
  have hy:=run_yield (P:=Tryz.prog) (args := #[I (x:Nat)]) j3 (by subst hrec;rfl)
  have htm:(rec0.params.zip #[I (x:Nat)]).foldl (fun tmps (t,a)=>tmps.setIfInBounds t a) rec0.tmps=a.tmps.setIfInBounds p (I (x:Nat)):=by
   subst hrec;simp
  have hfn:rec0.assign=assign∧rec0.body=body∧rec0.fn=fn∧rec0.state=.ready:=by subst hrec;exact⟨rfl,rfl,rfl,rfl⟩
  rw[htm,hfn.1,hfn.2.1] at hy
  refine⟨_,_,_,_,hy,?_⟩
  have hf0:FrD n [] { tmps:=a.tmps,defers:=[] } w1 L:=⟨hf.size,rfl,fun t A ht=>ei.pu t A ht _ _ _ (hf.val t A ht)⟩
  have hf1:FrD n [] { tmps:=a.tmps.setIfInBounds p (I (x:Nat)),defers:=[] } w1 ((p,E (I (x:Nat)))::L):=
   hf0.put (d:=some p) (v:=I (x:Nat)) (A:=E (I (x:Nat))) (Ext.rfl' _) (fun k hk=>by cases hk;exact hp) rfl
  refine roundIn_of_wpIn (F:=Fence.wide) (n:=0) trivial <| wpIn_mono (hbody l s x rest _ w1 hs j1 (by omega) hf1) fun e2 a2 w2 hq=>?_
  cases e2 with
  | normal=>
   obtain⟨kh,hb2⟩:=hq
   have j3':w2.heap[l]?=some (.loop rec0):=(kh.same l (by omega) hhole).trans j3
   refine⟨_,run_beginRound j3' hfn.2.2.2,?_⟩
   refine wpIn_mono (hb2 (w2.putObj l (.loop { rec0 with state:=.busy })) (Kp.put hhole) (by simp)) fun e3 a3 w3 hq3=>?_
   have hl2:l<w2.heap.size:=(Array.getElem?_eq_some_iff.1 j3').1
   have rec3:∀{w3:World},Kh w.heap.size (w2.putObj l (.loop { rec0 with state:=.busy })) w3→w3.heap[l]?=some (.loop { rec0 with state:=.busy }):=fun k=>
    (k.same l (by simpa using hl2) hhole).trans (World.putObj_heap_same hl2)
   have size3:∀{w3:World},Kh w.heap.size (w2.putObj l (.loop { rec0 with state:=.busy })) w3→w1.heap.size≤w3.heap.size:=fun k=>by
    have h1:=k.size
    have h2:=kh.size
    simp at h1
    omega
   have d3:∀{w3:World},Kh w.heap.size (w2.putObj l (.loop { rec0 with state:=.busy })) w3→∀o,∀d,D=some d→(w3.putObj l o).heap[d]?=some (.deferred (some [])):=fun {w3} k o d hd=>by
    have h1:=hD d hd
    have hdlt:d<w1.heap.size:=(Array.getElem?_eq_some_iff.1 (j4 d hd)).1
    have hdh:aX w.heap.size d:=hW3 d (Array.getElem?_eq_some_iff.1 h1.1).1 h1.2.2
    have hk2:=kh.size
    rw[World.putObj_heap_other h1.2.1,k.same d (by simp;omega) hdh,World.putObj_heap_other h1.2.1,kh.same d hdlt hdh]
    exact j4 d hd
   have rb3:∀{w3:World},Kh w.heap.size (w2.putObj l (.loop { rec0 with state:=.busy })) w3→∀o,(w3.putObj l o).heap[W1.heap.size]?=w1.heap[W1.heap.size]?:=fun {w3} k o=>by
    have hne:W1.heap.size≠l:=by omega
    have hr:aX w.heap.size W1.heap.size:=⟨he.size,by omega⟩
    have hk2:=kh.size
    rw[World.putObj_heap_other hne,k.same _ (by simp;omega) hr,World.putObj_heap_other hne,kh.same _ hltW hr]
   cases e3 with
   | normal=>
    obtain⟨q1,q2⟩:=hq3
    refine⟨_,_,run_endRound none (rec3 q2),_,rfl,.inl ⟨rfl,⟨hJ _ _ _ q1 (Nat.le_trans (Nat.le_trans he.size j2) (size3 q2)) (Kp.put hhole),?_,?_,d3 q2 _⟩,by simpa using size3 q2,rb3 q2 _⟩⟩
    ·have:=size3 q2;simp;omega
    ·rw[World.putObj_heap_same (Array.getElem?_eq_some_iff.1 (rec3 q2)).1]
     subst hrec
     rfl
   | ret=>
    obtain⟨q1,q2⟩:=hq3
    refine⟨_,_,run_endRound (some .ret) (rec3 q2),_,rfl,.inr ⟨rfl,.ret,.ret,rfl,hX _ _ _ q1 (Nat.le_trans (Nat.le_trans he.size j2) (size3 q2)) (Kp.put hhole),?_,?_,d3 q2 _⟩⟩
    ·have:=size3 q2;simp;omega
    ·rw[World.putObj_heap_same (Array.getElem?_eq_some_iff.1 (rec3 q2)).1]
     rfl
   | exit id=>
    obtain⟨q1,q2⟩:=hq3
    refine⟨_,_,run_endRound (some (.exit id)) (rec3 q2),_,rfl,.inr ⟨rfl,.exit id,.exit id,rfl,hX _ _ _ q1 (Nat.le_trans (Nat.le_trans he.size j2) (size3 q2)) (Kp.put hhole),?_,?_,d3 q2 _⟩⟩
    ·have:=size3 q2;simp;omega
    ·rw[World.putObj_heap_same (Array.getElem?_eq_some_iff.1 (rec3 q2)).1]
     rfl
   | goto t=>exact hq3.elim
   | panic c=>exact hq3.elim
   | outgrown=>exact hq3.elim
  | _=>exact hq.elim
 ·rintro e w2 ⟨rfl,h|h⟩
  ·obtain⟨j1,j2,j3,j4⟩:=h
   refine⟨none,w2.putObj l (.loop { rec0 with state:=.exhausted }),?_,hdone _ _ (⟨hf.size,by simp[hf.defers],fun t A ht=>ei.pu t A ht _ _ _ (hf.val t A ht)⟩) (hJ _ _ _ j1 (Nat.le_trans he.size j2) (Kp.put hhole)) ?_ ?_⟩
   ·have:=run_endLoop (P:=Tryz.prog) j3 (by subst hrec;simp)
    subst hrec
    exact this
   ·have:=he.size;simp;omega
   ·intro d hd
    rw[World.putObj_heap_other (hD d hd).2.1]
    exact j4 d hd
  ·obtain⟨ex,c,x1,x2,x3,x4,x5⟩:=h
   refine⟨some c,_,run_endLoop (P:=Tryz.prog) x4 (by simp),?_⟩
   have hQ:=hexit ex c { a with defers:=mark++a.defers } (w2.putObj l (.loop { rec0 with state:=.exhausted,pending:=some c })) x1 (⟨hf.size,by simp[hf.defers],fun t A ht=>ei.pu t A ht _ _ _ (hf.val t A ht)⟩)
    (hX _ _ _ x2 (Nat.le_trans he.size x3) (Kp.put hhole)) (by have:=he.size;simp;omega) (fun d hd=>by
     rw[World.putObj_heap_other (hD d hd).2.1]
     exact x5 d hd)
   cases ex with
   | ret=>cases x1;exact wpIn_ret hQ
   | exit id=>cases x1;exact wpIn_exit hQ
   | _=>cases x1
theorem db [ei L](hf:FrD n ds a w L)(hx:opd L g=some (E (cY b)))(hb:Blk w b (aJ S) 76)(hp:p<n)
  (J:List Nat→World→Prop) (X:Exit→World→Prop)
  (hT:∀s w1,J s w1→Tab w1) (h0:J [] w)
  (hJ:∀s w1 w2,J s w1→w.heap.size≤w1.heap.size→Kp w.heap.size w1 w2→J s w2)
  (hX:∀e w1 w2,X e w1→w.heap.size≤w1.heap.size→Kp w.heap.size w1 w2→X e w2)
  (hbody:∀(l s x) (rest:List Nat) (a1:Act) (w1:World),aj S=s++x::rest→J s w1→w.heap.size+3≤w1.heap.size→FrD n [] a1 w1 ((p,E (I (x:Nat)))::L) →
   assign.wpIn (FW (some l)) 0 Tryz.prog (Exit.then (fun a2 w2=>Kh w.heap.size w1 w2∧∀w3,Kp w.heap.size w2 w3→w3.heap.size=w2.heap.size→body.wpIn (FW (some l)) 0 Tryz.prog (Rd J X s x w.heap.size w3) a2 w3) (fun _ _ _=>False)) a1 w1)
  (hdone:∀a' w',FrD n ({ target:=.collected w.heap.size,args := #[] }::ds) a' w' L→J (aj S) w'→w.heap.size≤w'.heap.size→w'.heap[w.heap.size]?=some (.deferred (some []))→Q .normal a' w')
  (hexit:∀e c a' w',ls e=some c→FrD n ({ target:=.collected w.heap.size,args := #[] }::ds) a' w' L→X e w'→w.heap.size≤w'.heap.size→w'.heap[w.heap.size]?=some (.deferred (some []))→Q e a' w') :
  (Code.rangeFunc g #[p] assign body).wpIn (FW none) 0 Tryz.prog Q a w:=by
 refine xL 2 (l:=w.heap.size+1) (mark:=[{ target:=.collected w.heap.size,args := #[] }]) (df:=w.heap.size) (D:=some w.heap.size) hf hx hb hp J X ?_ hT h0 hJ hX (fun l s x rest a1 w1 h1 h2 h3=>hbody l s x rest a1 w1 h1 h2 (by omega))
  (fun a' w' h1 h2 h3 h4=>hdone a' w' h1 h2 h3 (h4 _ rfl)) (fun e c a' w' h1 h2 h3 h4 h5=>hexit e c a' w' h1 h2 h3 h4 (h5 _ rfl))
 intro fn
 refine⟨_,run_enterLoop_outer fn a.tmps #[p] assign body,?_,?_,?_,by simp,by omega,?_⟩
 ·have:=World.alloc_heap_new (w.alloc (.deferred (some []))) (.loop { state:=.ready,pending:=none,fn,tmps:=a.tmps,params := #[p],assign,body,defers:=w.heap.size })
  rwa [World.size_alloc] at this
 ·exact Ext.tr (cT w _) (cT _ _)
 ·simp
 ·rintro d hd
  cases hd
  refine⟨?_,by omega,Nat.le_refl _⟩
  rw[Below.heap_alloc _ _ _ (by simp)]
  exact World.alloc_heap_new w _

end
end Go.Mono
namespace Go.Mono
open Go Go.Proofs Go.RowKit

theorem jA {G:Nat→Prop}(r:List Int)(v:Value)(W:World)(h:(Dv (slE intE) G r).p v W)(hl:r.length≤4096) :
  Calls Tryz.prog 63 #[v] W (Post (E (ac (r.foldl ins 0))) W):=by
 refine eN [v] [Dv (slE intE) (GB W G) r] Tryz.func63 Tryz.ntmps63 ?_ fun a hf=>?_
 rotate_left
 rotate_right
 ·exact arg1 (Dv.toB h)
 have e:=Ext.rfl' W
 refine seq <| ab <| tL I76 hf fun a b2 w e' hb2 hs2 B2 hf=>?_
 replace e:=e.tr e'
 refine aa <| seq <| ab <| tL I76 hf fun a b3 w e' hb3 hs3 B3 hf=>?_
 obtain⟨e,B2⟩:=up2 e' e B2
 refine aa ?_
 simp only[Value.cells,dD] at B2 B3
 refine seq <| seq ?_
 refine rgN 3 hf <| st (mv rfl) <| st (aB U35 (isR rfl)) <| st (mv rfl) <| en fun a w e' hf=>?_
 obtain⟨e,B2,B3⟩:=up3 e' e B2 B3
 refine aa ?_
 replace hf:=hf.keep [2,3,6,7,8]
 refine blk (aF (fun r0 a w=>∃(k:Nat) ,r0=r.length - k∧k≤r.length∧Fr 17 a w [(2,E (.pointer (some ⟨b2,0,none⟩))),(3,E (.pointer (some ⟨b3,0,none⟩))),(6,Dv (slE intE) (GB W G) r),(7,E (I (r.length:Nat))),(8,E (I k))]∧Ext W w∧Blk w b2 (aJ 0) 76∧Blk w b3 (aJ ((r.take k).foldl ins 0)) 76) r.length ⟨0,rfl,by omega,hf,e,B2,B3⟩ ?_)
 rintro r0 a w ⟨k,rfl,hk,hf,e,B2,B3⟩
 refine seq <| rgN 1 hf <| st (lss rfl rfl) <| en fun a w e' hf=>?_
 obtain⟨e,B2,B3⟩:=up3 e' e B2 B3
 refine aa <| seq <| ifc hf rfl (fun hc=>ah ?_) (fun hc=>aC ?_)
 rotate_left
 rotate_left
 ·have hlt:=ltC hc
  replace hf:=hf.kp [2,3,6,7,8]
  refine seq <| blk ?_
  have hx:=cA hlt
  have hS:(r.take (k+1)).foldl ins 0=ins ((r.take k).foldl ins 0) (gi r k):=by rw[uh hlt,List.foldl_append];rfl
  refine seq <| rgN 2 hf <| st (aD U35 S3 (isR rfl) rfl (by omega) (hx)) <| st (ldI T3 (isR rfl)) <| en fun a w e' hf=>?_
  obtain⟨e,B2,B3⟩:=up3 e' e B2 B3
  refine tA hf rfl fun a hf=>aa <| rgN 3 hf <| st (ldW T76 rfl (by assumption) rfl) <| st (mv rfl) <| st (aw jl rfl rfl (fun v u w he h h'=>by cases h;cases h';exact jq _ _ w)) ?_
  refine en fun a w e' hf=>?_
  obtain⟨e,B2,B3⟩:=up3 e' e B2 B3
  haveI hinr:∀G0,InR (GB W G0) (some b3):=fun G0=>InR.gb (by omega)
  refine az T76 hf rfl rfl (bj _) B3 rfl (rfl) fun w hg hsz B3 hf=>?_
  obtain⟨e,B2⟩:=gr2 hg e B2
  refine aa ?_
  rw[← hS] at B3
  refine rgN 1 hf <| st ((add rfl rfl (by omega)).eq (iN k)) <| en fun a w e' hf=>?_
  obtain⟨e,B2,B3⟩:=up3 e' e B2 B3
  refine tP hf (mv rfl) fun a w e' hf=>?_
  obtain⟨e,B2,B3⟩:=up3 e' e B2 B3
  refine aa ?_
  replace hf:=hf.keep [2,3,6,7,8]
  refine⟨_,?_,k+1,rfl,by omega,hf,e,?_⟩
  ·omega
  exact⟨B2,B3⟩
 ·obtain rfl:=dnE hc hk
  rw[List.take_length] at B3
  replace hf:=hf.kp [2,3]
  refine seq <| rgN 1 hf <| st (ldW T76 rfl (by assumption) rfl) <| en fun a w e' hf=>?_
  obtain⟨e,B2,B3⟩:=up3 e' e B2 B3
  haveI hinr:∀G0,InR (GB W G0) (some b2):=fun G0=>InR.gb (by omega)
  refine az T76 hf rfl rfl (bj _) B2 rfl (rfl) fun w hg hsz B2 hf=>?_
  obtain⟨e,B3⟩:=gr2 hg e B3
  refine aa <| ai (eQ rfl T76 hf rfl B2 e rfl)

theorem lQ (p:Int)(S:BS):[p].foldl ins S=ins S p:=by rw[List.foldl_cons,List.foldl_nil]
end Go.Mono
namespace Go.Mono.Pop

theorem xM (k M c z:Nat)(hc:c<2 ^ k):z &&& (2 ^ k * M+c)=2 ^ k * ((z / 2 ^ k) &&& M)+((z % 2 ^ k) &&& c):=by
 have h1:(z % 2 ^ k) &&& c<2 ^ k:=Nat.lt_of_le_of_lt Nat.and_le_right hc
 apply Nat.eq_of_testBit_eq
 intro i
 rw[Nat.testBit_and,Nat.testBit_two_pow_mul_add _ hc,Nat.testBit_two_pow_mul_add _ h1]
 split
 ·rename_i hi
  rw[Nat.testBit_and,Nat.testBit_mod_two_pow]
  simp[hi]
 ·rename_i hi
  rw[Nat.testBit_and,Nat.testBit_div_two_pow]
  congr 2
  omega
theorem ix (M c z:Nat)(hc:c<256):z &&& (256 * M+c)=256 * ((z / 256) &&& M)+((z % 256) &&& c):=xM 8 M c z hc

def mask (c:Nat):Nat→Nat
 | 0=>0
 | n+1=>256 * mask c n+c
def pc (b:Nat):Nat:=(List.range 8).countP fun i=>b.testBit i
def F:Nat→Nat→Nat
 | 0,_=>0
 | n+1,x=>pc (x % 256)+256 * F n (x / 256)
def sA (m x:Nat):Nat:=((x / 2) &&& m)+(x &&& m)
def sB (m x:Nat):Nat:=((x / 4) &&& m)+(x &&& m)
def sC (m x:Nat):Nat:=(x / 16+x) &&& m

theorem kA:∀b,b<256→∀e,e<2→(b / 2+128 * e) &&& 85=(b / 2) &&& 85:=by decide +kernel
theorem kA2:∀b,b<256→sA 85 b<256:=by decide +kernel
theorem kB:∀b,b<256→∀e,e<4→(b / 4+64 * e) &&& 51=(b / 4) &&& 51:=by decide +kernel
theorem kB2:∀b,b<256→sB 51 (sA 85 b)<256∧sB 51 (sA 85 b) % 16<5:=by decide +kernel
theorem kC:∀b,b<256→∀e,e<5→e * 16+(sB 51 (sA 85 b) / 16+sB 51 (sA 85 b))<256∧(e * 16+(sB 51 (sA 85 b) / 16+sB 51 (sA 85 b))) &&& 15=pc b:=by decide +kernel
theorem xN:∀b,b<256→pc b≤8:=by decide +kernel

theorem xO (n x:Nat):sA (mask 85 (n+1)) x=sA 85 (x % 256)+256 * sA (mask 85 n) (x / 256):=by
 unfold sA
 rw[mask,ix _ _ _ (by decide),ix _ _ _ (by decide)]
 have h1:x / 2 / 256=x / 256 / 2:=by omega
 have h2:x / 2 % 256=x % 256 / 2+128 * (x / 256 % 2):=by omega
 rw[h1,h2,kA _ (Nat.mod_lt _ (by decide)) _ (Nat.mod_lt _ (by decide))]
 omega
theorem stepB (n y:Nat):sB (mask 51 (n+1)) y=sB 51 (y % 256)+256 * sB (mask 51 n) (y / 256):=by
 unfold sB
 rw[mask,ix _ _ _ (by decide),ix _ _ _ (by decide)]
 have h1:y / 4 / 256=y / 256 / 4:=by omega
 have h2:y / 4 % 256=y % 256 / 4+64 * (y / 256 % 4):=by omega
 rw[h1,h2,kB _ (Nat.mod_lt _ (by decide)) _ (Nat.mod_lt _ (by decide))]
 omega
theorem AB (n x:Nat):sB (mask 51 (n+1)) (sA (mask 85 (n+1)) x)=sB 51 (sA 85 (x % 256))+256 * sB (mask 51 n) (sA (mask 85 n) (x / 256)):=by
 have h:=kA2 (x % 256) (Nat.mod_lt _ (by decide))
 rw[xO,stepB]
 have h1:(sA 85 (x % 256)+256 * sA (mask 85 n) (x / 256)) % 256=sA 85 (x % 256):=by omega
 have h2:(sA 85 (x % 256)+256 * sA (mask 85 n) (x / 256)) / 256=sA (mask 85 n) (x / 256):=by omega
 rw[h1,h2]
theorem xP:∀(n x:Nat),sB (mask 51 n) (sA (mask 85 n) x) % 16<5
 | 0,x=>by simp[sB,sA,mask]
 | n+1,x=>by
  rw[AB]
  have:=(kB2 (x % 256) (Nat.mod_lt _ (by decide))).2
  omega
theorem ABC:∀(n x:Nat),sC (mask 15 n) (sB (mask 51 n) (sA (mask 85 n) x))=F n x
 | 0,x=>by simp[sC,mask,F]
 | n+1,x=>by
  have hb:=Nat.mod_lt x (show 256 > 0 by decide)
  have hq:=xP n (x / 256)
  have ih:=ABC n (x / 256)
  obtain⟨k1,k2⟩:=kC _ hb _ hq
  rw[AB,F,← ih]
  generalize sB (mask 51 n) (sA (mask 85 n) (x / 256))=q at *
  generalize sB 51 (sA 85 (x % 256))=b at *
  unfold sC
  rw[mask,ix _ _ _ (by decide)]
  have h1:(b+256 * q) / 16+(b+256 * q)=256 * (q / 16+q)+(q % 16 * 16+(b / 16+b)):=by omega
  rw[h1]
  have h2:(256 * (q / 16+q)+(q % 16 * 16+(b / 16+b))) / 256=q / 16+q:=by omega
  have h3:(256 * (q / 16+q)+(q % 16 * 16+(b / 16+b))) % 256=q % 16 * 16+(b / 16+b):=by omega
  rw[h2,h3,k2]
  omega
theorem masks:mask 85 8=6148914691236517205∧mask 51 8=3689348814741910323∧mask 15 8=1085102592571150095:=by decide
def G:Nat→Nat→Nat
 | 0,_=>0
 | n+1,x=>pc (x % 256)+G n (x / 256)
def V:List Nat→Nat
 | []=>0
 | a::l=>a+256 * V l
def addL:List Nat→List Nat→List Nat
 | [],m=>m
 | l,[]=>l
 | a::l,b::m=>(a+b)::addL l m
theorem pY:∀l m,V (addL l m)=V l+V m
 | [],m=>by simp[addL,V]
 | a::l,[]=>by simp[addL,V]
 | a::l,b::m=>by simp only[addL,V,pY l m];omega
theorem pZ:∀(k:Nat) (l:List Nat),(∀a∈l,a<256)→V l / 256 ^ k=V (l.drop k)
 | 0,l,_=>by simp
 | k+1,[],_=>by simp[V]
 | k+1,a::l,h=>by
  have h1:V (a::l) / 256=V l:=by
   have:=h a (by simp)
   simp only[V]
   omega
  rw[Nat.pow_succ,Nat.mul_comm,← Nat.div_div_eq_div_mul,h1,pZ k l (fun x hx=>h x (by simp[hx]))]
  simp
theorem qa:∀(l:List Nat),(∀a∈l,a<256)→V l<256 ^ l.length
 | [],_=>by simp[V]
 | a::l,h=>by
  have h1:=h a (by simp)
  have h2:=qa l (fun x hx=>h x (by simp[hx]))
  simp only[V,List.length_cons,Nat.pow_succ]
  omega
theorem qb (x y:Nat):∀(l m:List Nat),(∀a∈l,a≤x)→(∀a∈m,a≤y)→∀a∈addL l m,a≤x+y
 | [],m,_,h2=>fun a ha=>by have:=h2 a (by simpa[addL] using ha);omega
 | a::l,[],h1,_=>fun b hb=>by have:=h1 b (by simpa[addL] using hb);omega
 | a::l,b::m,h1,h2=>fun c hc=>by
  simp only[addL,List.mem_cons] at hc
  rcases hc with rfl|hc
  ·have:=h1 a (by simp);have:=h2 b (by simp);omega
  ·exact qb x y l m (fun x hx=>h1 x (by simp[hx])) (fun x hx=>h2 x (by simp[hx])) c hc
theorem qc:∀(l m:List Nat),m.length≤l.length→(addL l m).length=l.length
 | [],[],_=>rfl
 | a::l,[],_=>rfl
 | a::l,b::m,h=>by simp only[addL,List.length_cons] at h ⊢;rw[qc l m (by omega)]
theorem stepV (k b:Nat)(l:List Nat)(hl:l.length=8)(hb:∀a∈l,a≤b)(h:b+b<256) :
  (V l+V l / 256 ^ k) % 18446744073709551616=V (addL l (l.drop k))∧(addL l (l.drop k)).length=8∧∀a∈addL l (l.drop k),a≤b+b:=by
 have hd:∀a∈l.drop k,a≤b:=fun a ha=>hb a (List.mem_of_mem_drop ha)
 have h3:=qb b b l (l.drop k) hb hd
 have h2:=qc l (l.drop k) (by simp)
 refine⟨?_,by omega,h3⟩
 rw[pZ k l (fun a ha=>by have:=hb a ha;omega),← pY]
 refine Nat.mod_eq_of_lt ?_
 have:=qa (addL l (l.drop k)) (fun a ha=>by have:=h3 a ha;omega)
 rw[h2,hl] at this
 exact this
def bytes (x:Nat):List Nat:=[pc (x % 256),pc (x / 256 % 256),pc (x / 256 / 256 % 256),pc (x / 256 / 256 / 256 % 256),pc (x / 256 / 256 / 256 / 256 % 256),pc (x / 256 / 256 / 256 / 256 / 256 % 256),
 pc (x / 256 / 256 / 256 / 256 / 256 / 256 % 256),pc (x / 256 / 256 / 256 / 256 / 256 / 256 / 256 % 256)]
theorem F_V (x:Nat):F 8 x=V (bytes x):=rfl
theorem qd (x:Nat):∀a∈bytes x,a≤8:=by
 intro a ha
 simp only[bytes,List.mem_cons,List.not_mem_nil,or_false] at ha
 rcases ha with rfl|rfl|rfl|rfl|rfl|rfl|rfl|rfl <;> exact xN _ (Nat.mod_lt _ (by decide))
theorem xQ:∀p0 p1 p2 p3 p4 p5 p6 p7:Nat,∃t,addL (addL (addL [p0,p1,p2,p3,p4,p5,p6,p7] [p1,p2,p3,p4,p5,p6,p7]) ((addL [p0,p1,p2,p3,p4,p5,p6,p7] [p1,p2,p3,p4,p5,p6,p7]).drop 2)) ((addL (addL [p0,p1,p2,p3,p4,p5,p6,p7] [p1,p2,p3,p4,p5,p6,p7]) ((addL [p0,p1,p2,p3,p4,p5,p6,p7] [p1,p2,p3,p4,p5,p6,p7]).drop 2)).drop 4)=(p0+p1+(p2+p3)+(p4+p5+(p6+p7)))::t:=by
 intros
 exact⟨_,rfl⟩
theorem fold8 (x y4 y5 y6:Nat)(h4:y4=(F 8 x+F 8 x / 256) % 18446744073709551616)(h5:y5=(y4+y4 / 65536) % 18446744073709551616)(h6:y6=(y5+y5 / 4294967296) % 18446744073709551616) :
  y6 % 128=G 8 x:=by
 rw[F_V] at h4
 obtain⟨a1,a2,a3⟩:=stepV 1 8 (bytes x) rfl (qd x) (by decide)
 rw[Nat.pow_one] at a1
 rw[a1] at h4
 obtain⟨b1,b2,b3⟩:=stepV 2 16 _ a2 a3 (by decide)
 rw[h4,show (65536:Nat)=256 ^ 2 from rfl,b1] at h5
 obtain⟨c1,c2,c3⟩:=stepV 4 32 _ b2 b3 (by decide)
 rw[h5,show (4294967296:Nat)=256 ^ 4 from rfl,c1] at h6
 obtain⟨t,ht⟩:=xQ (pc (x % 256)) (pc (x / 256 % 256)) (pc (x / 256 / 256 % 256)) (pc (x / 256 / 256 / 256 % 256)) (pc (x / 256 / 256 / 256 / 256 % 256)) (pc (x / 256 / 256 / 256 / 256 / 256 % 256))
  (pc (x / 256 / 256 / 256 / 256 / 256 / 256 % 256)) (pc (x / 256 / 256 / 256 / 256 / 256 / 256 / 256 % 256))
 have hb:=qd x
 simp only[bytes,List.mem_cons,List.not_mem_nil,or_false,forall_eq_or_imp,forall_eq] at hb
 have h7:y6=V ((pc (x % 256)+pc (x / 256 % 256)+(pc (x / 256 / 256 % 256)+pc (x / 256 / 256 / 256 % 256))+(pc (x / 256 / 256 / 256 / 256 % 256)+pc (x / 256 / 256 / 256 / 256 / 256 % 256) +
  (pc (x / 256 / 256 / 256 / 256 / 256 / 256 % 256)+pc (x / 256 / 256 / 256 / 256 / 256 / 256 / 256 % 256))))::t):=by
  rw[h6,← ht]
  rfl
 rw[h7]
 simp only[V,G]
 obtain⟨g0,g1,g2,g3,g4,g5,g6,g7⟩:=hb
 generalize pc (x % 256)=p0 at *
 generalize pc (x / 256 % 256)=p1 at *
 generalize pc (x / 256 / 256 % 256)=p2 at *
 generalize pc (x / 256 / 256 / 256 % 256)=p3 at *
 generalize pc (x / 256 / 256 / 256 / 256 % 256)=p4 at *
 generalize pc (x / 256 / 256 / 256 / 256 / 256 % 256)=p5 at *
 generalize pc (x / 256 / 256 / 256 / 256 / 256 / 256 % 256)=p6 at *
 generalize pc (x / 256 / 256 / 256 / 256 / 256 / 256 / 256 % 256)=p7 at *
 generalize V t=z
 omega
theorem xR (n:Nat)(f:Nat→Bool):(List.range (8 * (n+1))).countP f=(List.range 8).countP f+(List.range (8 * n)).countP (fun i=>f (i+8)):=by
 rw[show 8 * (n+1)=8+8 * n by omega,List.range_add,List.countP_append,List.countP_map]
 congr 1
 refine List.countP_congr fun i _=>?_
 simp[Function.comp,Nat.add_comm]
theorem count_G:∀(n x:Nat),(List.range (8 * n)).countP (fun i=>x.testBit i)=G n x
 | 0,x=>rfl
 | n+1,x=>by
  rw[xR,G,← count_G n (x / 256)]
  congr 1
  ·unfold pc
   refine List.countP_congr fun i hi=>?_
   have:=List.mem_range.1 hi
   rw[show (256:Nat)=2 ^ 8 from rfl,Nat.testBit_mod_two_pow]
   simp[this]
  ·refine List.countP_congr fun i _=>?_
   rw[show (256:Nat)=2 ^ 8 from rfl,Nat.testBit_div_two_pow]
end Go.Mono.Pop
namespace Go.Mono
open Go Go.Proofs Go.RowKit

def eV (x:BitVec 64):Nat:=(List.range 64).countP fun i=>x.getLsbD i
theorem qe (x:BitVec 64):eV x≤64:=by
 have:=List.countP_le_length (p:=fun i=>x.getLsbD i) (l:=List.range 64)
 simpa[eV] using this
theorem xS (x:BitVec 64):eV x=Pop.G 8 x.toNat:=by
 rw[← Pop.count_G 8 x.toNat]
 rfl
theorem xT (x x1 x2 x3 x4 x5 x6:BitVec 64)(h1:x1=((x >>> 1) &&& 6148914691236517205#64)+(x &&& 6148914691236517205#64))(h2:x2=((x1 >>> 2) &&& 3689348814741910323#64)+(x1 &&& 3689348814741910323#64))
  (h3:x3=((x2 >>> 4)+x2) &&& 1085102592571150095#64) (h4:x4=x3+(x3 >>> 8)) (h5:x5=x4+(x4 >>> 16)) (h6:x6=x5+(x5 >>> 32)):(x6 &&& 127#64).toNat=eV x:=by
 have e1:x1.toNat=Pop.sA (Pop.mask 85 8) x.toNat:=by
  rw[h1,Pop.masks.1,BitVec.toNat_add,BitVec.toNat_and,BitVec.toNat_and,BitVec.toNat_ushiftRight,Nat.shiftRight_eq_div_pow]
  show ((x.toNat / 2 &&& 6148914691236517205)+(x.toNat &&& 6148914691236517205)) % 2 ^ 64=_
  have a1:=@Nat.and_le_right (x.toNat / 2) 6148914691236517205
  have a2:=@Nat.and_le_right x.toNat 6148914691236517205
  rw[Nat.mod_eq_of_lt (by omega)]
  rfl
 have e2:x2.toNat=Pop.sB (Pop.mask 51 8) x1.toNat∧x2.toNat≤7378697629483820646:=by
  rw[h2,Pop.masks.2.1,BitVec.toNat_add,BitVec.toNat_and,BitVec.toNat_and,BitVec.toNat_ushiftRight,Nat.shiftRight_eq_div_pow]
  show ((x1.toNat / 4 &&& 3689348814741910323)+(x1.toNat &&& 3689348814741910323)) % 2 ^ 64=_∧((x1.toNat / 4 &&& 3689348814741910323)+(x1.toNat &&& 3689348814741910323)) % 2 ^ 64≤_
  have a1:=@Nat.and_le_right (x1.toNat / 4) 3689348814741910323
  have a2:=@Nat.and_le_right x1.toNat 3689348814741910323
  rw[Nat.mod_eq_of_lt (by omega)]
  exact⟨rfl,by omega⟩
 have e3:x3.toNat=Pop.sC (Pop.mask 15 8) x2.toNat:=by
  rw[h3,Pop.masks.2.2,BitVec.toNat_and,BitVec.toNat_add,BitVec.toNat_ushiftRight,Nat.shiftRight_eq_div_pow]
  show (x2.toNat / 16+x2.toNat) % 2 ^ 64 &&& 1085102592571150095=_
  rw[Nat.mod_eq_of_lt (by omega)]
  rfl
 have e3':x3.toNat=Pop.F 8 x.toNat:=by rw[e3,e2.1,e1,Pop.ABC]
 have e4:x4.toNat=(Pop.F 8 x.toNat+Pop.F 8 x.toNat / 256) % 18446744073709551616:=by
  rw[h4,BitVec.toNat_add,BitVec.toNat_ushiftRight,Nat.shiftRight_eq_div_pow,e3']
 have e5:x5.toNat=(x4.toNat+x4.toNat / 65536) % 18446744073709551616:=by
  rw[h5,BitVec.toNat_add,BitVec.toNat_ushiftRight,Nat.shiftRight_eq_div_pow]
 have e6:x6.toNat=(x5.toNat+x5.toNat / 4294967296) % 18446744073709551616:=by
  rw[h6,BitVec.toNat_add,BitVec.toNat_ushiftRight,Nat.shiftRight_eq_div_pow]
 have:=Pop.fold8 _ _ _ _ e4 e5 e6
 rw[xS,← this,BitVec.toNat_and]
 exact Nat.and_two_pow_sub_one_eq_mod x6.toNat 7

theorem xU {P:Program}{w0:World}{L:Env}{dst:Option Tmp}{ty:TypeId}{pos:String}{aft:Array Edge}{g:Option (Nat×Bool)}{x y:Operand}{t yt:TypeId}{a b:Int}
  (hx:opd L x=some (E (.int .i64 a))) (hy:opd L y=some (E (.int .i64 b))) :
  OpC P w0 L ⟨dst,.binOp .and t x y yt,ty,pos,aft,g⟩ (E (.int .i64 (IntKind.i64.wrap ((BitVec.ofInt 64 a &&& BitVec.ofInt 64 b).toNat:Int)))):=
 ce rfl hx hy
theorem xV (x:BitVec 64):BitVec.ofInt 64 (IntKind.i64.wrap (x.toNat:Int))=x:=by
 apply BitVec.eq_of_toInt_eq
 rw[BitVec.toInt_ofInt]
 rw[BitVec.toInt_eq_toNat_bmod]
 rw[IntKind.wrap_i64]
 simp only[Int.bmod]
 split <;> split <;> omega
theorem xW {x:BitVec 64}{n:Nat}(h:(x &&& 127#64).toNat=n)(hn:n≤64):IntKind.i64.wrap ((BitVec.ofInt 64 (IntKind.i64.wrap (x.toNat:Int)) &&& BitVec.ofInt 64 127).toNat:Int)=n:=by
 rw[xV]
 have e:BitVec.ofInt 64 127=127#64:=by decide
 rw[e,h]
 exact IntWalk.i64_in _ (by omega)

theorem xX (x:BitVec 64)(W:World):Calls Tryz.prog 117 #[Mono.W x] W (Post (E (I (eV x))) W):=by
 obtain⟨x1,h1⟩:=eqX (((x >>> 1) &&& 6148914691236517205#64)+(x &&& 6148914691236517205#64))
 obtain⟨x2,h2⟩:=eqX (((x1 >>> 2) &&& 3689348814741910323#64)+(x1 &&& 3689348814741910323#64))
 obtain⟨x3,h3⟩:=eqX (((x2 >>> 4)+x2) &&& 1085102592571150095#64)
 obtain⟨x4,h4⟩:=eqX (x3+(x3 >>> 8))
 obtain⟨x5,h5⟩:=eqX (x4+(x4 >>> 16))
 obtain⟨x6,h6⟩:=eqX (x5+(x5 >>> 32))
 have hc:=xW (xT x x1 x2 x3 x4 x5 x6 h1 h2 h3 h4 h5 h6) (qe x)
 refine eN [Mono.W x] [E (Mono.W x)] Tryz.func117 Tryz.ntmps117 ?_ fun a hf=>?_
 rotate_left
 rotate_right
 ·exact arg1 rfl
 have e:=Ext.rfl' W
 refine seq <| ab <| tA hf rfl fun a hf=>aa ?_
 replace hf:=hf.keep [0]
 refine seq <| rgN 6 hf <| st (mv rfl) <| st (fm rfl rfl (by omega)) <| st (eE (v:=6148914691236517205#64) rfl rfl) <| st (mv rfl) <| st (eE (v:=6148914691236517205#64) rfl rfl) <| st ((fQ rfl rfl).eq (show Mono.W _=Mono.W x1 from by rw[h1];rfl)) ?_
 refine en fun a w e' hf=>?_
 replace e:=e.tr e'
 refine tA hf rfl fun a hf=>aa ?_
 replace hf:=hf.keep [0]
 refine seq <| rgN 6 hf <| st (mv rfl) <| st (fm rfl rfl (by omega)) <| st (eE (v:=3689348814741910323#64) rfl rfl) <| st (mv rfl) <| st (eE (v:=3689348814741910323#64) rfl rfl) <| st ((fQ rfl rfl).eq (show Mono.W _=Mono.W x2 from by rw[h2];rfl)) ?_
 refine en fun a w e' hf=>?_
 replace e:=e.tr e'
 refine tA hf rfl fun a hf=>aa ?_
 replace hf:=hf.keep [0]
 refine seq <| rgN 5 hf <| st (mv rfl) <| st (fm rfl rfl (by omega)) <| st (mv rfl) <| st (fQ rfl rfl) <| st ((eE (v:=1085102592571150095#64) rfl rfl).eq (show Mono.W _=Mono.W x3 from by rw[h3];rfl)) ?_
 refine en fun a w e' hf=>?_
 replace e:=e.tr e'
 refine tA hf rfl fun a hf=>aa ?_
 replace hf:=hf.keep [0]
 refine seq <| rgN 4 hf <| st (mv rfl) <| st (mv rfl) <| st (fm rfl rfl (by omega)) <| st ((fQ rfl rfl).eq (show Mono.W _=Mono.W x4 from by rw[h4];rfl)) ?_
 refine en fun a w e' hf=>?_
 replace e:=e.tr e'
 refine tA hf rfl fun a hf=>aa ?_
 replace hf:=hf.keep [0]
 refine seq <| rgN 4 hf <| st (mv rfl) <| st (mv rfl) <| st (fm rfl rfl (by omega)) <| st ((fQ rfl rfl).eq (show Mono.W _=Mono.W x5 from by rw[h5];rfl)) ?_
 refine en fun a w e' hf=>?_
 replace e:=e.tr e'
 refine tA hf rfl fun a hf=>aa ?_
 replace hf:=hf.keep [0]
 refine seq <| rgN 4 hf <| st (mv rfl) <| st (mv rfl) <| st (fm rfl rfl (by omega)) <| st ((fQ rfl rfl).eq (show Mono.W _=Mono.W x6 from by rw[h6];rfl)) ?_
 refine en fun a w e' hf=>?_
 replace e:=e.tr e'
 refine tA hf rfl fun a hf=>aa ?_
 replace hf:=hf.keep [0]
 refine seq <| rgN 3 hf <| st (mv rfl) <| st (nB U74 U3 rfl) <| st ((xU rfl rfl).eq (congrArg (Value.int .i64) hc)) <| en fun a w e' hf=>?_
 replace e:=e.tr e'
 refine tA hf rfl fun a hf=>aa <| ai (am rfl hf rfl ?_)
 rintro v rfl
 exact⟨_,rfl,e,rfl⟩
def card (S:BS):Nat:=(List.range 1024).countP fun i=>S.getLsbD i
def cardTo (S:BS)(k:Nat):Nat:=(List.range (64 * k)).countP fun i=>S.getLsbD i
theorem xY (S:BS)(k:Nat):cardTo S (k+1)=cardTo S k+eV (an S k):=by
 unfold cardTo eV
 rw[show 64 * (k+1)=64 * k+64 by omega,List.range_add,List.countP_append,List.countP_map]
 refine congrArg (fun n=>(List.range (64 * k)).countP (fun i=>S.getLsbD i)+n) (List.countP_congr fun i hi=>?_)
 have:=List.mem_range.1 hi
 simp[dQ _ _ _ this]
theorem xZ (S:BS):cardTo S 16=card S:=by simp only[cardTo,card,Nat.reduceMul]
theorem ya (S:BS)(k:Nat):cardTo S k≤64 * k:=by
 have:=List.countP_le_length (p:=fun i=>S.getLsbD i) (l:=List.range (64 * k))
 simpa[cardTo] using this

theorem lR (S:BS)(W:World):Calls Tryz.prog 78 #[ac S] W (Post (E (I (card S))) W):=by
 refine eN [ac S] [E (ac S)] Tryz.func78 Tryz.ntmps78 ?_ fun a hf=>?_
 rotate_left
 rotate_right
 ·exact arg1 rfl
 have e:=Ext.rfl' W
 refine seq <| ab <| tB hf rfl fun a b1 w v1 hv1 e' hb1 hs1 B1 hf=>?_
 replace e:=e.tr e'
 refine tA hf rfl fun a hf=>aa ?_
 subst hv1
 rw[ek] at B1
 refine seq <| ab <| tA hf rfl fun a hf=>aa ?_
 refine seq <| seq ?_
 refine rgN 2 hf <| st (ldW T76 rfl (by assumption) rfl) <| st (mv rfl) <| en fun a w e' hf=>?_
 obtain⟨e,B1⟩:=up2 e' e B1
 refine aa ?_
 replace hf:=hf.keep [3,6,7]
 refine blk (aF (fun r a w=>∃k:Nat,r=16 - k∧k≤16∧Fr 16 a w [(3,E (I (cardTo S k))),(6,E (ac S)),(7,E (I k))]∧Ext W w) 16 ⟨0,rfl,by omega,hf,e⟩ ?_)
 rintro r a w ⟨k,rfl,hk,hf,e⟩
 by_cases hlt:k<16
 ·refine seq <| rgN 1 hf <| st ((lss rfl rfl).eq (congrArg Value.bool (show decide ((k:Int)<16)=true from decide_eq_true (by omega)))) <| en fun a w e' hf=>?_
  replace e:=e.tr e'
  refine aa <| seq <| ifc hf rfl (fun _=>ah ?_) (fun h=>by cases h)
  refine seq <| blk <| seq <| rgN 1 hf <| st (iX U76 T74 rfl rfl (by omega) (by simpa[aJ] using cz (an S) k hlt)) <| en fun a w e' hf=>?_
  replace e:=e.tr e'
  refine tA hf rfl fun a hf=>aa ?_
  have hp:=qe (an S k)
  have hq:=ya S k
  refine rgN 4 hf <| st (mv rfl) <| st (mv rfl) <| st (ak vG rfl (fun v w' e' h=>by cases h;exact xX _ w')) ?_
  refine st ((add rfl rfl (by omega)).eq (congrArg (Value.int .i64) (show ((cardTo S k:Nat):Int)+(eV (an S k):Nat)=(cardTo S (k+1):Nat) from by rw[xY];omega))) ?_
  refine en fun a w e' hf=>?_
  replace e:=e.tr e'
  refine tA hf rfl fun a hf=>aa <| rgN 1 hf <| st (add rfl rfl (by omega)) <| en fun a w e' hf=>?_
  replace e:=e.tr e'
  refine tP hf (mv rfl) fun a w e' hf=>?_
  replace e:=e.tr e'
  refine aa ?_
  replace hf:=hf.kp [3,6,7]
  exact⟨16 - (k+1),by omega,k+1,rfl,by omega,by simpa using hf,e⟩
 ·obtain rfl:k=16:=by omega
  refine seq <| rgN 1 hf <| st ((lss rfl rfl).eq (congrArg Value.bool (show decide (((16:Nat):Int)<16)=false from rfl))) <| en fun a w e' hf=>?_
  replace e:=e.tr e'
  refine aa <| seq <| ifc hf rfl (fun h=>by cases h) (fun _=>aC ?_)
  refine seq <| rgN 1 hf <| st (mv rfl) <| en fun a w e' hf=>?_
  replace e:=e.tr e'
  refine tA hf rfl fun a hf=>aa <| ai (am rfl hf rfl ?_)
  rintro v rfl
  exact⟨_,rfl,e,by rw[xZ];rfl⟩
end Go.Mono
namespace Go.Mono

theorem aK {S:BS}{i:Nat}(h:S.getLsbD i=true):i<1024:=Classical.byContradiction fun hn=>by
 rw[BitVec.getLsbD_of_ge _ _ (by omega)] at h;cases h
theorem cm (S T:BS)(i:Nat):(S &&& ~~~T).getLsbD i=true↔S.getLsbD i=true∧¬T.getLsbD i=true:=by
 rw[BitVec.getLsbD_and,BitVec.getLsbD_not,Bool.and_eq_true,Bool.and_eq_true]
 constructor
 ·rintro⟨h1,_,h2⟩;exact⟨h1,by simpa using h2⟩
 ·rintro⟨h1,h2⟩;exact⟨h1,by simpa using aK h1,by simpa using h2⟩
theorem qf (S T:BS)(i:Nat):(S &&& T).getLsbD i=true↔S.getLsbD i=true∧T.getLsbD i=true:=by
 rw[BitVec.getLsbD_and,Bool.and_eq_true]
theorem cb (S T:BS)(i:Nat):(S ||| T).getLsbD i=true↔S.getLsbD i=true∨T.getLsbD i=true:=by
 rw[BitVec.getLsbD_or,Bool.or_eq_true]
theorem bF (i:Nat):¬(0:BS).getLsbD i=true:=by simp
theorem de (S:BS){p i:Nat}(hp:p<1024):(ins S (p:Int)).getLsbD i=true↔S.getLsbD i=true∨i=p:=by
 by_cases hi:i<1024
 ·rw[oN _ _ _ hi,Bool.or_eq_true,decide_eq_true_eq]
  constructor
  ·rintro (h|h)
   ·exact .inl h
   ·exact .inr (by omega)
  ·rintro (h|h)
   ·exact .inl h
   ·exact .inr (by omega)
 ·constructor
  ·intro h;exact absurd (aK h) hi
  ·rintro (h|h)
   ·exact absurd (aK h) hi
   ·omega
theorem fC {S T:BS}(h:∀k,S.getLsbD k=true↔T.getLsbD k=true):S=T:=wA fun k _=>h k
theorem cQ (S:BS)(p:Nat):has S (p:Int)=true↔S.getLsbD p=true:=by
 rw[has,Bool.and_eq_true,di,Int.toNat_natCast]
 exact⟨fun h=>h.2,fun h=>⟨by have:=aK h;omega,h⟩⟩

theorem lS {α:Type}{p q:α→Bool}:∀{l:List α},(∀x∈l,p x=true→q x=true)→l.countP p≤l.countP q
 | [],_=>Nat.le_refl _
 | x::l,h=>by
  have ih:=lS (l:=l) fun y hy=>h y (by simp[hy])
  rw[List.countP_cons,List.countP_cons]
  by_cases hx:p x=true
  ·rw[if_pos hx,if_pos (h x (by simp) hx)];omega
  ·rw[if_neg hx];split <;> omega
theorem qg {α:Type}{p q:α→Bool}{z:α}:∀{l:List α},(∀x∈l,p x=true→q x=true)→z∈l→q z=true→¬p z=true→l.countP p<l.countP q
 | [],_,hz,_,_=>by cases hz
 | x::l,h,hz,h1,h2=>by
  have ih:=lS (p:=p) (q:=q) (l:=l) fun y hy=>h y (by simp[hy])
  rw[List.countP_cons,List.countP_cons]
  rcases List.mem_cons.1 hz with rfl|hz
  ·rw[if_neg h2,if_pos h1];omega
  ·have ih:=qg (l:=l) (fun y hy=>h y (by simp[hy])) hz h1 h2
   by_cases hx:p x=true
   ·rw[if_pos hx,if_pos (h x (by simp) hx)];omega
   ·rw[if_neg hx];split <;> omega
theorem lT {S T:BS}(h:∀i,S.getLsbD i=true→T.getLsbD i=true):card S≤card T:=lS fun i _ hi=>h i hi
theorem gp {S T:BS}{z:Nat}(h:∀i,S.getLsbD i=true→T.getLsbD i=true)(h1:T.getLsbD z=true)(h2:¬S.getLsbD z=true):card S<card T:=
 qg (fun i _ hi=>h i hi) (List.mem_range.2 (aK h1)) h1 h2
theorem dL (S:BS):(aj S).length=card S:=by rw[aj,card,List.countP_eq_length_filter]
theorem qh {S:BS}{p:Nat}(h:S.getLsbD p=true):0<card S:=by
 rw[← dL]
 exact List.length_pos_of_mem (aL.2 ⟨aK h,h⟩)
theorem jB {S:BS}{k:Nat}(h:aU S=some k):S.getLsbD k=true:=(eS.1 h).2.1
end Go.Mono
namespace Go.Mono
open Go Go.Proofs Go.RowKit Go.Gr
def lkS (l:List (Int×BS))(i:Int):BS:=((l.find? fun p=>decide (p.1=i)).map (·.2)).getD 0
section
variable {w0:World}{L:Env}{dst:Option Tmp}{ty:TypeId}{pos:String}{aft:Array Edge}{g:Option (Nat×Bool)}{x y:Operand}{t:TypeId}{G:Nat→Prop}{N:Nat}{l:List (Int×BS)}
theorem yb {n:Nat}{b:Nat}{w:World}(h:MpR sKV w b n l){i:Int}{c:BS}(hc:(i,c)∈l):lkS l i=c:=by
 obtain⟨_,_,_,_,hp⟩:=h
 cases hf:l.find? (fun p=>decide (p.1=i)) with
 | none=>have:=List.find?_eq_none.1 hf _ hc;simp at this
 | some p=>
  have h1:=List.find?_some hf
  have h2:=List.mem_of_find?_eq_some hf
  have h3:p.1=i:=by simpa using h1
  have h4:p=(i,p.2):=by rw[← h3]
  rw[h4] at h2
  rw[lkS,hf]
  exact ip hp h2 hc
theorem qi {i:Int}(h:∀c,(i,c) ∉ l):lkS l i=0:=by
 have:l.find? (fun p=>decide (p.1=i))=none:=by
  rw[List.find?_eq_none]
  intro p hp hh
  have h3:p.1=i:=by simpa using hh
  exact h p.2 (by rw[← h3];exact hp)
 rw[lkS,this];rfl
theorem lkM {i:Int}(ht:Tryz.prog.underlying t=some (.map sKV.k sKV.e))(hz:∀w,(zeroValue sKV.e).run Tryz.prog w=.ok (ac 0) w)(hx:Is L w0 x (Dv (mpE sKV N) G l))(hy:opd L y=some (E (I i)))(hi:(Lit.int .i64 i).wf=true) :
  OpC Tryz.prog w0 L ⟨dst,.lookup t x y false,ty,pos,aft,g⟩ (E (ac (lkS l i))):=
 aP fun ρ w he' hv=>by
  obtain⟨cs,⟨b,n,h1,_,_,h2⟩,h4⟩:=hx.v he' hv (by simp[Op.operands])
  subst h1
  have h5:ρ x=.map (some b):=h4
  have h6:=opE hv (x:=y) (by simp[Op.operands]) hy
  obtain⟨D,m1,m2,m3,m4,_⟩:=h2.has (x:=i) hi
  obtain⟨v,ps,r1,r2⟩:=m1.lookup sKV.K ht (hz w) (sKV.val 0 trivial) (sKV.key i hi)
  obtain⟨c,_,rfl,hy2⟩:=sKV.valInv _ _ r2
  have hcc:c=lkS l i:=by
   have h8:=congrArg Prod.fst hy2
   simp only at h8
   by_cases hex:∃c',(i,c')∈l
   ·obtain⟨c',hc'⟩:=hex
    rw[m3 c' hc'] at h8
    rw[yb h2 hc']
    exact (sKV.dvInj _ _ h8).symm
   ·have hno:∀c',(i,c') ∉ l:=fun c' h=>hex ⟨c',h⟩
    rw[m4 hno] at h8
    rw[qi hno]
    exact (sKV.dvInj _ _ h8).symm
  rw[hcc] at r1
  have r1:(Instr.lookup t (.map (some b)) (I i) false).run Tryz.prog w=.ok (ac (lkS l i)) w:=r1
  exact⟨_,by simp only[execOp,h5,h6,Sem.run_bind,r1,Result.andThen_ok,Sem.run_pure],rfl⟩
end
theorem bW (w:World):(zeroValue 76).run Tryz.prog w=.ok (ac 0) w:=by
 rw[← nz];exact eI I76 w
end Go.Mono
namespace Go.Mono
open Go Go.Proofs Go.RowKit Go.ChangeShapes Go.WideShapes

theorem qj:Tryz.prog.cellsOf 3=1:=by kernel_rfl
section
variable {H:Type}{enc:TypeId×Value→H}{w:World}{base:Nat}{spare:Nat→Bool}{held:Bool}
end
end Go.Mono
namespace Go.Mono
open Go Go.RowKit
section
variable {P:Program}{ops:Array Oper}{Q:Exit→Act→World→Prop}{w0:World}{n:Nat}{ds:List Deferred}{r:Option Nat}
end
section
variable {P:Program}{w0:World}{L:Env}{ty:TypeId}{pos:String}{aft:Array Edge}
variable {ops:Array Oper}{rest:List Oper}{K:Env→Prop}{A:VA}{op:Op}{dd:Nat}{S:World→World→Prop}{J:World→Prop}
end
section tail
variable {P:Program}{L:Env}{ty:TypeId}{pos:String}{aft:Array Edge}{r:Option Nat}{ds:List Deferred}
variable {ops:Array Oper}{rest:List Oper}{Q:Exit→Act→World→Prop}{n:Nat}{a:Act}{w:World}{x y z:Operand}{α β:Type}[DecidableEq α]
theorem yc {V:KV P α β}{t:TypeId}{bm nn:Nat}{l:List (α×β)}{i:α}{c:β}(ht:P.underlying t=some (.map V.k V.e))(hf:FrD n ds a w L)[hL:AvL bm L](hx:opd L x=some (E (.map (some bm))))
  (hy:opd L y=some (E (V.kv i))) (hz:opd L z=some (E (V.mv c))) (hM:MpR V w bm nn l) (hn:nn<maxLen) (hi:V.ok i) (hc:V.okv c)
  (kk:∀w',w.grownBy w' (some bm)→MpR V w' bm (nn+1) (aT l i c)→FrD n ds a w' L→wpListIn (FW r) 0 P ops Q rest a w') :
  wpListIn (FW r) 0 P ops Q (⟨none,.insert t x y z,ty,pos,aft,none⟩::rest) a w:=
 wpListIn_plain rfl fun K hK=>by
  have hxv:a.eval x=.map (some bm):=hf.opd x _ hx
  have hyv:a.eval y=V.kv i:=hf.opd y _ hy
  have hzv:a.eval z=V.mv c:=hf.opd z _ hz
  obtain⟨w',h1,h2,h3⟩:=hM.put hi hc ht hn
  refine OpR.wp (R:=fun _ w1=>w1=w') ?_ ?_
  ·simp only[OpR,execOp,hxv,hyv,hzv,Sem.run_bind,h1,Result.andThen_ok,Sem.run_pure]
  ·rintro _ w1 rfl
   exact hK _ _ (kk _ h3 h2 (hf.gr h3))
end tail
end Go.Mono
namespace Go.Mono
open Go Go.Proofs Go.RowKit

theorem MpR.tight {P:Program}{α β:Type}{V:KV P α β}{w:World}{b n:Nat}{l:List (α×β)}(h:MpR V w b n l):MpR V w b l.length l:=by
 obtain⟨es,⟨es',clock,h1,h2,h3,h4⟩,hp,h5,h6⟩:=h
 refine⟨es,⟨es',clock,h1,h2,?_,h4⟩,hp,h5,h6⟩
 have hf:∀m:List (Lit×DataW Unit),(m.foldr DataW.insert []).length=m.length:=by
  intro m
  induction m with
  | nil=>rfl
  | cons x m ih=>rw[List.foldr_cons,(ii x _).length_eq,List.length_cons,List.length_cons,ih]
 injection h4 with h4
 have h7:=congrArg List.length h4
 rw[hf,List.length_map] at h7
 have h8:es'.toList.length=es'.size:=Array.length_toList
 have h9:=hp.length_eq
 rw[List.length_map] at h9
 omega
section
variable {nb:Int→BS}{all:BS}{bm:Nat}{w w':World}
end
section
variable {G G':Nat→Prop}{l0:List (Int×BS)}{all:BS}{b1 b2 b3 b4 bm:Nat}{nv:Value}{w w':World}
end
theorem Chg.kp {S:Nat→Prop}{B:Nat}{W w w':World}(c:Chg S W w)(k:Kp B w w')(h:W.heap.size≤B):Chg S W w':=c.tr2 k.chg fun b hb=>.inr (by have:=hb.1;omega)
theorem Kh.chg {B:Nat}{S:Nat→Prop}{w w':World}(c:Chg S w w')(h:∀b,S b→¬aX B b):Kh B w w':=⟨c.size,fun b hb hh=>c.block b hb fun hs=>h b hs hh⟩
end Go.Mono
namespace Go.MonoD
open Go Go.RowKit Go.Mono
structure Ext (w w':World):Prop extends Below w.heap.size w w' where
 drawn:w.drawn≤w'.drawn
theorem Ext.rfl' (w:World):Ext w w:=⟨Below.refl _ _,Nat.le_refl _⟩
theorem Ext.tr {a b c:World}(h:Ext a b)(k:Ext b c):Ext a c:=⟨Below.trans h.toBelow (Below.mono k.toBelow h.size),Nat.le_trans h.drawn k.drawn⟩
instance:Gro Ext:=⟨Ext.rfl',Ext.tr,fun w=>⟨(Below.refl _ _).drew,Nat.le_succ _⟩,fun w o=>⟨(Below.refl _ w).alloc (Nat.le_refl _) o,Nat.le_refl _⟩,fun h=>h.toBelow⟩
abbrev VA:=VAr Ext
abbrev Env:=aZ Ext
abbrev E (x:Value):VA:=ER x
abbrev Post (A:VA)(w:World):Ending→World→Prop:=fg A w
end Go.MonoD
namespace Go.MonoD
open Go Go.Proofs Go.RowKit Go.Mono
abbrev I (n:Int):Value:=.int .i64 n
theorem Mix.mix:Tryz.prog.follows .mixedOrders=true:=Go.Mono.Mix.mix
theorem T3:TI Tryz.prog 3 false 1:=ti (by decide +kernel)
def cmpI (x y:Int):Int:=if x<y then -1 else if y<x then 1 else 0
theorem arg1 {A:VA}{v:Value}{w:World}(h:A.p v w):∀(i:Nat) (B:VA),[A][i]?=some B→B.p ([v].getD i undef) w:=fun i B hB=>by
 match i with
 | 0=>simp at hB;subst hB;exact h
 | i+1=>simp at hB
theorem arg2 {A B:VA}{u v:Value}{w:World}(h:A.p u w)(h':B.p v w):∀(i:Nat) (C:VA),[A,B][i]?=some C→C.p ([u,v].getD i undef) w:=fun i C hC=>by
 match i with
 | 0=>simp at hC;subst hC;exact h
 | 1=>simp at hC;subst hC;exact h'
 | i+2=>simp at hC
theorem yd (x:Int)(W:World):Calls Tryz.prog 127 #[I x] W (Post (E (.bool false)) W):=by
 refine enter (args:=[I x]) (As:=[E (I x)]) Tryz.func127 rfl Tryz.ntmps127 (Nat.le_of_ble_eq_true rfl) ?_ (fun a hf=>?_) (Nat.le_of_ble_eq_true rfl)
 rotate_left
 rotate_right
 ·exact arg1 rfl
 have e:=Ext.rfl' W
 refine seq <| ab <| aA hf rfl (by decide) fun a hf=>aa <| seq <| ay 3 hf (by decide +kernel) <| st (mv rfl) <| st (mv rfl) <| st ((neq rfl rfl).eq (congrArg Value.bool ((show (x != x)=false by simp)))) <| en fun a w e' hf=>?_
 replace e:=e.tr e'
 refine aA hf rfl (by decide) fun a hf=>aa <| ai <| am rfl hf rfl ?_
 rintro _ rfl
 exact⟨_,rfl,e,rfl⟩
theorem ql (x:Int)(v:Value)(w:World)(h:(E (I x)).p v w):Calls Tryz.prog 127 #[v] w (Post (E (.bool false)) w):=by cases h;exact yd x w
theorem ye (x y:Int)(W:World):Calls Tryz.prog 92 #[I x,I y] W (Post (E (I (cmpI x y))) W):=by
 refine enter (args:=[I x,I y]) (As:=[E (I x),E (I y)]) Tryz.func92 rfl Tryz.ntmps92 (Nat.le_of_ble_eq_true rfl) ?_ (fun a hf=>?_) (Nat.le_of_ble_eq_true rfl)
 rotate_left
 rotate_right
 ·exact arg2 rfl rfl
 have e:=Ext.rfl' W
 refine seq <| ab <| aA hf rfl (by decide) fun a hf=>aa <| seq <| ay 2 hf (by decide +kernel) <| st (mv rfl) <| st (ak Mono.En127 rfl (fun v w he h=>ql x v w h)) <| en fun a w e' hf=>?_
 replace e:=e.tr e'
 refine aA hf rfl (by decide) fun a hf=>aa <| seq <| ay 2 hf (by decide +kernel) <| st (mv rfl) <| st (ak Mono.En127 rfl (fun v w he h=>ql y v w h)) <| en fun a w e' hf=>?_
 replace e:=e.tr e'
 refine aA hf rfl (by decide) fun a hf=>aa ?_
 refine seq <| seq ?_
 refine ay 1 hf (by decide +kernel) <| st (mv rfl) <| en fun a w e' hf=>?_
 replace e:=e.tr e'
 refine aa <| ifF hf rfl ?_
 refine ah ?_
 refine seq <| seq ?_
 refine ay 1 hf (by decide +kernel) <| st (mv rfl) <| en fun a w e' hf=>?_
 replace e:=e.tr e'
 refine aa <| ifF hf rfl ?_
 refine ah ?_
 refine seq <| seq ?_
 refine ay 3 hf (by decide +kernel) <| st (mv rfl) <| st (mv rfl) <| st (lss rfl rfl) <| en fun a w e' hf=>?_
 replace e:=e.tr e'
 refine aa <| ifc hf rfl (fun hb=>?_) (fun hb=>?_)
 ·refine seq <| ab <| aA hf rfl (by decide) fun a hf=>aa <| ai <| am rfl hf rfl ?_
  rintro _ rfl
  exact⟨_,rfl,e,congrArg I (by rw[cmpI,if_pos (of_decide_eq_true hb)])⟩
 ·refine ah ?_
  refine seq <| seq ?_
  refine ay 3 hf (by decide +kernel) <| st (mv rfl) <| st (mv rfl) <| st (gtr rfl rfl) <| en fun a w e' hf=>?_
  replace e:=e.tr e'
  refine aa ?_
  have hb1:=of_decide_eq_false hb
  refine ifc hf rfl (fun hb=>?_) (fun hb=>?_)
  ·refine seq <| ab <| aA hf rfl (by decide) fun a hf=>aa <| ai <| am rfl hf rfl ?_
   rintro _ rfl
   exact⟨_,rfl,e,congrArg I (by rw[cmpI,if_neg hb1,if_pos (of_decide_eq_true hb)])⟩
  ·refine ah <| seq <| ab <| aA hf rfl (by decide) fun a hf=>aa <| ai <| am rfl hf rfl ?_
   rintro _ rfl
   exact⟨_,rfl,e,congrArg I (by rw[cmpI,if_neg hb1,if_neg (of_decide_eq_false hb)])⟩
theorem jC (x y:Int)(v u:Value)(w:World)(h:(E (I x)).p v w)(h':(E (I y)).p u w):Calls Tryz.prog 92 #[v,u] w (Post (E (I (cmpI x y))) w):=by cases h;cases h';exact ye x y w
theorem Ext.grown {W w:World}(e:Ext W w):∃q os,w=Sort.grow (W.drewN q) os:=by
 refine⟨w.drawn - W.drawn,w.heap.extract W.heap.size w.heap.size,?_⟩
 have hh:w.heap=W.heap++w.heap.extract W.heap.size w.heap.size:=by
  apply Array.ext_getElem?
  intro i
  rw[Array.getElem?_append]
  split
  ·rename_i h;exact e.block i h
  ·rename_i h
   rw[Array.getElem?_extract]
   by_cases hi:i<w.heap.size
   ·have e1:W.heap.size+(i - W.heap.size)=i:=by omega
    rw[if_pos (by omega),e1]
   ·rw[if_neg (by omega)]
    simp only[Array.getElem?_eq_none_iff];omega
 have hd:W.drawn+(w.drawn - W.drawn)=w.drawn:=by have:=e.drawn;omega
 cases w
 simp only at hh hd
 have ho:=e.os;have ht:=e.tape;have hp:=e.output
 simp only at ho ht hp
 simp only[Sort.grow,World.drewN,World.mk.injEq]
 exact⟨hh,ht,hd.symm,ho,hp⟩
theorem cmpV_spec (x y:Int×Int×Int)(W:World):Calls Tryz.prog 91 #[.agg #[.int .i64 x.1,.int .u8 x.2.1,.int .i64 x.2.2],.agg #[.int .i64 y.1,.int .u8 y.2.1,.int .i64 y.2.2]] W (Post (E (I (cmpI x.1 y.1))) W):=by
 refine enter (args:=[.agg #[.int .i64 x.1,.int .u8 x.2.1,.int .i64 x.2.2],.agg #[.int .i64 y.1,.int .u8 y.2.1,.int .i64 y.2.2]]) (As:=[E (.agg #[.int .i64 x.1,.int .u8 x.2.1,.int .i64 x.2.2]),E (.agg #[.int .i64 y.1,.int .u8 y.2.1,.int .i64 y.2.2])]) Tryz.func91 rfl Tryz.ntmps91 (Nat.le_of_ble_eq_true rfl) ?_ (fun a hf=>?_) (Nat.le_of_ble_eq_true rfl)
 rotate_left
 rotate_right
 ·exact arg2 rfl rfl
 have e:=Ext.rfl' W
 refine seq <| ab <| fk hf rfl (by decide) fun a b2 w v2 hv2 e' hb2 hs2 B2 hf=>?_
 replace e:=e.tr e'
 refine fk hf rfl (by decide) fun a b3 w v3 hv3 e' hb3 hs3 B3 hf=>?_
 replace e:=e.tr e'
 replace B2:=B2.ext e'.toBelow
 refine aA hf rfl (by decide) fun a hf=>aa ?_
 cases hv2;cases hv3
 refine seq <| ay 5 hf (by decide +kernel) <| st (bJ Tryz.underlying73 rfl T3 (by decide) rfl) <| st (ld1 T3 rfl B2 rfl) <| st (bJ Tryz.underlying73 rfl T3 (by decide) rfl) <| st (ld1 T3 rfl B3 rfl) <| st (aw Mono.En92 rfl rfl (fun v u w he h h'=>jC x.1 y.1 v u w h h')) <| en fun a w e' hf=>?_
 replace e:=e.tr e'
 replace B2:=B2.ext e'.toBelow
 replace B3:=B3.ext e'.toBelow
 refine aA hf rfl (by decide) fun a hf=>aa <| ai <| am rfl hf rfl ?_
 rintro _ rfl
 exact⟨_,rfl,e,rfl⟩
section
variable {P:Program}{w0:World}{L:Env}{dst:Option Tmp}{ty:TypeId}{pos:String}{aft:Array Edge}{g:Option (Nat×Bool)}{t te:TypeId}{x y:Operand}
def Sl2 (t:TypeId)(p q:Int):VA:=⟨fun v w=>∃b,v=.slice (some ⟨b,0,none⟩) 2 2∧Blk w b #[I p,I q] t,fun v w w' e ⟨b,h1,h2⟩=>⟨b,h1,h2.ext e.toBelow⟩⟩
theorem yf {p q:Int}{bz:Nat}{z0:Value}(ht:P.underlying t=some (.slice te))(hi:(P.info? te).map (fun i=>(i.zero,i.size,i.bytes))=some (some z0,1,bz))(hz0:z0.cells.size=1)(hx:opd L x=some (E (I p)))(hy:opd L y=some (E (I q))) :
  OpC P w0 L ⟨dst,.buildSlice t 2 #[(0,x),(1,y)],ty,pos,aft,g⟩ (Sl2 te p q):=by
 refine⟨fun ρ w he hv=>?_⟩
 have hxv:=opE hv (x:=x) (by simp[Op.operands]) hx
 have hyv:=opE hv (x:=y) (by simp[Op.operands]) hy
 obtain⟨it,hit,hiz,hsz,_⟩:=info_parts hi
 have hfl:=Mono.fill_seq (k:=1) [I p,I q] [[I p],[I q]] 0 [] ((Array.range (2 * 1)).map (z0.cells[· % z0.cells.size]!)) rfl (by simp) (by simp) (by simp) (by simp)
 have hr:=run_buildSlice (P:=P) w t te 2 #[(0,I p),(1,I q)] #[I p,I q] it z0 ht hit hiz (by rw[hsz];omega) (by rw[hsz];omega) (by rw[hsz];exact hfl)
 have hrun:(execOp ρ ⟨dst,.buildSlice t 2 #[(0,x),(1,y)],ty,pos,aft,g⟩).run P w=.ok (.value (.slice (some ⟨w.heap.size,0,none⟩) 2 2)) (w.alloc (.cells #[I p,I q] te)):=by
  simp only[execOp,Sem.run_bind,List.map_toArray,List.map_cons,List.map_nil,hxv,hyv,hr,Result.andThen_ok,Sem.run_pure]
 simp only[OpR,hrun]
 exact⟨Gro.alloc w _,_,rfl,dO w _ _⟩
theorem idxS {b:Nat}{k:Nat}(ht:P.underlying t=some (.slice te))(hs:(P.info? te).map (·.size)=some 1)(hx:opd L x=some (E (.slice (some ⟨b,0,none⟩) 2 2)))(hy:opd L y=some (E (I k)))(hk:k<2) :
  OpC P w0 L ⟨dst,.indexAddr t x y,ty,pos,aft,g⟩ (E (.pointer (some ⟨b,k,none⟩))):=
 aP fun ρ w he hv=>by
  have h:=opE hv (x:=x) (by simp[Op.operands]) hx
  have h2:=opE hv (x:=y) (by simp[Op.operands]) hy
  have hsz:∀w,(sizeOf te).run P w=.ok 1 w:=fun w=>by
   cases hi:P.info? te with
   | none=>simp[hi] at hs
   | some i=>simp[hi] at hs;simp[sizeOf,typeInfo,hi,hs]
  have hi':(k:Int)<2:=by omega
  refine⟨_,?_,rfl⟩
  rcases (show k=0∨k=1 by omega) with rfl|rfl <;> simp[execOp,h,h2,Instr.indexAt,asIntOf,run_underlying ht,hsz,Addr.add]
theorem yg {b:Nat}(ht:P.underlying t=some (.slice te))(hx:opd L x=some (E (.slice (some ⟨b,0,none⟩) 2 2))):OpC P w0 L ⟨dst,.call ⟨.builtin .len,#[x],#[t]⟩,ty,pos,aft,g⟩ (E (I 2)):=
 aP fun ρ w he hv=>by
  have h:=opE hv (x:=x) (by simp[Op.operands,Call.operands]) hx
  exact⟨_,by simp[execOp,resolve,invoke,builtin,Builtin.len_,h,run_underlying ht,goInt],rfl⟩
end
def orI (p q:Int):Int:=if p != 0 then p else q
theorem yh (p q:Int)(b:Nat)(W:World)(hB:Blk W b #[I p,I q] 3):Calls Tryz.prog 135 #[.slice (some ⟨b,0,none⟩) 2 2] W (Post (E (I (orI p q))) W):=by
 refine enter (args:=[.slice (some ⟨b,0,none⟩) 2 2]) (As:=[E (.slice (some ⟨b,0,none⟩) 2 2)]) Tryz.func135 rfl Tryz.ntmps135 (Nat.le_of_ble_eq_true rfl) ?_ (fun a hf=>?_) (Nat.le_of_ble_eq_true rfl)
 rotate_left
 rotate_right
 ·exact arg1 rfl
 have e:=Ext.rfl' W
 refine seq <| ab <| aA hf rfl (by decide) fun a hf=>aa <| seq <| ab <| aA hf rfl (by decide) fun a hf=>aa ?_
 refine seq <| seq ?_
 refine ay 3 hf (by decide +kernel) <| st (mv rfl) <| st (yg Tryz.underlying35 rfl) <| st (mv rfl) <| en fun a w e' hf=>?_
 replace e:=e.tr e'
 refine aa ?_
 replace hf:=hf.keep [3,6,7,8]
 refine blk (aF (fun r0 a w=>∃(k:Nat) ,r0=2 - k∧k≤2∧Fr 18 a w [(3,E (I 0)),(6,E (.slice (some ⟨b,0,none⟩) 2 2)),(7,E (I 2)),(8,E (I k))]∧Ext W w∧(k=0∨p=0)∧(k=2→q=0)) 2 ⟨0,rfl,by omega,hf,e,⟨.inl rfl,(fun h=>by cases h)⟩⟩ ?_)
 rintro r0 a w ⟨k,rfl,hk,hf,e,hp⟩
 refine seq <| ay 1 hf (by decide +kernel) <| st (lss rfl rfl) <| en fun a w e' hf=>?_
 replace e:=e.tr e'
 refine aa <| seq <| ifc hf rfl (fun hc=>ah ?_) (fun hc=>aC ?_)
 rotate_left
 rotate_left
 ·have hlt:k<2:=by have:=of_decide_eq_true hc;(try dsimp only at this);omega
  replace hf:=hf.keep [3,6,7,8]
  refine seq <| blk ?_
  have hB':=hB.ext e.toBelow
  have hcell:(#[I p,I q]:Array Value)[k]?=some (I (if k=0 then p else q)):=by
   rcases (show k=0∨k=1 by omega) with rfl|rfl <;> rfl
  refine seq <| ay 2 hf (by decide +kernel) <| st (idxS Tryz.underlying35 Mono.S3 rfl rfl hlt) <| st (ld1 T3 rfl hB' hcell) <| en fun a w e' hf=>?_
  replace e:=e.tr e'
  refine aA hf rfl (by decide) fun a hf=>aa <| seq <| ay 3 hf (by decide +kernel) <| st (mv rfl) <| st (mv rfl) <| st (neq rfl rfl) <| en fun a w e' hf=>?_
  replace e:=e.tr e'
  refine aa <| ifc hf rfl (fun hb=>?_) (fun hb=>?_)
  ·have hb':(if k=0 then p else q)≠0:=by simpa using hb
   have hor:(if k=0 then p else q)=orI p q:=by
    rw[orI]
    rcases (show k=0∨k=1 by omega) with rfl|rfl
    ·simp only[if_true] at hb' ⊢;rw[if_pos (by simpa using hb')]
    ·simp only[Nat.one_ne_zero,if_false] at hb' ⊢;rw[if_neg (by simpa using hp.1)]
   refine seq <| ay 1 hf (by decide +kernel) <| st (mv rfl) <| en fun a w e' hf=>?_
   replace e:=e.tr e'
   refine aA hf rfl (by decide) fun a hf=>aa <| ai <| am rfl hf rfl ?_
   rintro _ rfl
   exact⟨_,rfl,e,congrArg I hor⟩
  ·have hb':(if k=0 then p else q)=0:=by simpa using hb
   refine ah <| ay 1 hf (by decide +kernel) <| st ((add rfl rfl (by omega)).eq (iN k)) <| en fun a w e' hf=>?_
   replace e:=e.tr e'
   refine kx hf (by decide) (mv rfl) fun a w e' hf=>?_
   replace e:=e.tr e'
   refine aa ?_
   replace hf:=hf.keep [3,6,7,8]
   refine⟨_,?_,k+1,rfl,by omega,hf,e,?_⟩
   ·omega
   rcases (show k=0∨k=1 by omega) with rfl|rfl
   ·exact⟨.inr (by simpa using hb'),fun h=>by cases h⟩
   ·exact⟨.inr (by simpa using hp.1),fun _=>by simpa using hb'⟩
 ·obtain rfl:=dnE hc hk
  refine seq <| ay 1 hf (by decide +kernel) <| st (mv rfl) <| en fun a w e' hf=>?_
  replace e:=e.tr e'
  refine aA hf rfl (by decide) fun a hf=>aa <| ai <| am rfl hf rfl ?_
  rintro _ rfl
  exact⟨_,rfl,e,congrArg I (by have h1:p=0:=(by simpa using hp.1);have h2:=hp.2 rfl;rw[orI,h1,h2];rfl)⟩
theorem cmpE_spec (x y:(Int×Int)×(Int×Int))(W:World):Calls Tryz.prog 134 #[.agg #[.int .i64 x.1.1,.int .i64 x.1.2,.int .u8 x.2.1,.int .i64 x.2.2],.agg #[.int .i64 y.1.1,.int .i64 y.1.2,.int .u8 y.2.1,.int .i64 y.2.2]] W (Post (E (I (orI (cmpI x.1.1 y.1.1) (cmpI x.1.2 y.1.2)))) W):=by
 refine enter (args:=[.agg #[.int .i64 x.1.1,.int .i64 x.1.2,.int .u8 x.2.1,.int .i64 x.2.2],.agg #[.int .i64 y.1.1,.int .i64 y.1.2,.int .u8 y.2.1,.int .i64 y.2.2]]) (As:=[E (.agg #[.int .i64 x.1.1,.int .i64 x.1.2,.int .u8 x.2.1,.int .i64 x.2.2]),E (.agg #[.int .i64 y.1.1,.int .i64 y.1.2,.int .u8 y.2.1,.int .i64 y.2.2])]) Tryz.func134 rfl Tryz.ntmps134 (Nat.le_of_ble_eq_true rfl) ?_ (fun a hf=>?_) (Nat.le_of_ble_eq_true rfl)
 rotate_left
 rotate_right
 ·exact arg2 rfl rfl
 have e:=Ext.rfl' W
 refine seq <| ab <| fk hf rfl (by decide) fun a b2 w v2 hv2 e' hb2 hs2 B2 hf=>?_
 replace e:=e.tr e'
 refine fk hf rfl (by decide) fun a b3 w v3 hv3 e' hb3 hs3 B3 hf=>?_
 replace e:=e.tr e'
 replace B2:=B2.ext e'.toBelow
 refine aA hf rfl (by decide) fun a hf=>aa ?_
 cases hv2;cases hv3
 refine seq <| reg 12 Mix.mix hf (by decide +kernel) <| st (bJ Tryz.underlying62 rfl T3 (by decide) rfl) <| st (ld1 T3 rfl B2 rfl) <| st (bJ Tryz.underlying62 rfl T3 (by decide) rfl) <| st (ld1 T3 rfl B3 rfl) <| st (aw Mono.En92 rfl rfl (fun v u w he h h'=>jC x.1.1 y.1.1 v u w h h')) <| st (bJ Tryz.underlying62 rfl T3 (by decide) rfl) <| st (ld1 T3 rfl B2 rfl) <| st (bJ Tryz.underlying62 rfl T3 (by decide) rfl) <| st (ld1 T3 rfl B3 rfl) <| st (aw Mono.En92 rfl rfl (fun v u w he h h'=>jC x.1.2 y.1.2 v u w h h')) <| st (yf Tryz.underlying35 Mono.I3 rfl rfl rfl) <| st (ak Mono.En135 rfl (fun v w he h=>by obtain⟨b,rfl,hB⟩:=h;exact yh _ _ b w hB)) ?_
 refine en fun a w e' hf=>?_
 replace e:=e.tr e'
 replace B2:=B2.ext e'.toBelow
 replace B3:=B3.ext e'.toBelow
 refine aA hf rfl (by decide) fun a hf=>aa <| ai <| am rfl hf rfl ?_
 rintro _ rfl
 exact⟨_,rfl,e,rfl⟩
end Go.MonoD
namespace Go.Mono
open Go Go.Proofs Go.RowKit Go.Shelf Go.Sort
theorem qm {α β:Type}{f:α→List β}{k:Nat}(hk:∀x,(f x).length=k)(h0:0<k):∀(l:List α) (t:Nat),(l.flatMap f)[t]?=(l[t / k]?).bind fun x=>(f x)[t % k]?
 | [],t=>by simp
 | x::r,t=>by
  rw[List.flatMap_cons,List.getElem?_append,hk]
  by_cases ht:t<k
  ·rw[if_pos ht,Nat.div_eq_of_lt ht,Nat.mod_eq_of_lt ht];rfl
  ·rw[if_neg ht,qm hk h0 r]
   have h1:t / k=(t - k) / k+1:=by rw[← Nat.add_div_right _ h0];congr 1;omega
   have h2:t % k=(t - k) % k:=by rw[Nat.mod_eq_sub_mod (by omega)]
   rw[h1,h2,List.getElem?_cons_succ]
theorem qo {α β:Type}{f:α→List β}{k:Nat}(hk:∀x,(f x).length=k):∀(l:List α),(l.flatMap f).length=l.length * k
 | []=>by simp
 | x::r=>by rw[List.flatMap_cons,List.length_append,hk,qo hk r,List.length_cons,Nat.succ_mul];omega
theorem qp {α:Type}[Inhabited α]{f:α→List Value}{k:Nat}(hk:∀x,(f x).length=k)(h0:0<k)(d:Array α):(flatK f k d).toList=d.toList.flatMap f:=by
 apply List.ext_getElem?
 intro t
 rw[qm hk h0,flatK,Array.toList_map,List.getElem?_map,Array.toList_range]
 by_cases ht:t<d.size * k
 ·rw[List.getElem?_range ht,Option.map_some]
  have hd:t / k<d.size:=Nat.div_lt_of_lt_mul (by rw[Nat.mul_comm];exact ht)
  have hm:t % k<k:=Nat.mod_lt _ h0
  rw[Array.getElem?_toList,Array.getElem?_eq_getElem hd,Option.bind_some,getElem!_pos d _ hd]
  have hl:t % k<(f (d[t / k]'hd)).length:=by rw[hk];exact hm
  rw[List.getElem?_eq_getElem hl,getElem!_pos (f (d[t / k]'hd)) (t % k) hl]
 ·rw[List.getElem?_eq_none (by simpa using ht),Option.map_none]
  have hd:¬t / k<d.size:=fun h=>ht (by
   have:=(Nat.div_lt_iff_lt_mul h0).1 h;exact this)
  rw[Array.getElem?_toList,Array.getElem?_eq_none (by omega)];rfl
theorem jD {α:Type}{e:Enc α}{f:α→List Value}(hf:∀G w x cs,e.r G w x cs↔cs=f x){G:Nat→Prop}{w:World}:∀(xs:List α) (cs:List Value),Cells e G w xs cs↔cs=xs.flatMap f
 | [],cs=>by simp[Cells]
 | x::xs,cs=>by
  constructor
  ·rintro⟨c,d,rfl,h1,h2⟩
   rw[(hf _ _ _ _).1 h1,(jD hf xs d).1 h2,List.flatMap_cons]
  ·intro h
   exact⟨f x,xs.flatMap f,by rw[h,List.flatMap_cons],(hf _ _ _ _).2 rfl,(jD hf xs _).2 rfl⟩
theorem qq {P:Program}{ρ:Ren}{α:Type}[Inhabited α]{e:Enc α}{ty:TypeId}{B:Nat}{G:Nat→Prop}{w:World}{xs:List α}{v:Value}(L:SlLaysF0.n6 P ρ)(aE:∀w,(isAgg (ρ.t 24)).run P w=.ok true w)(zE:∀w,(Go.sizeOf (ρ.t 24)).run P w=.ok e.k w)
  (f:α→List Value) (hf:∀G w x cs,e.r G w x cs↔cs=f x) (hk:∀x,(f x).length=e.k) (h1:∀x,∀v∈f x,v.oneCell'=true) (cf:α→α→Int) (hO:SWO (ltOf cf)) (g:Nat)
  (eg:∀args w,(callFunc g args).run P w=.ok (.enter g args) w) (hc:∀x y W,Calls P g #[.agg (f x).toArray,.agg (f y).toArray] W fun en w'=>en=.returned (.int .i64 (cf x y))∧∃q os,w'=grow (W.drewN q) os) (Ho:OwR e ty B G w xs v) (hl:xs.length≤100000) :
  Calls P (ρ.f 6) #[v,.func (.func g) #[] #[]] w fun en w'=>en=.returned (.tuple #[])∧∃xs',xs'.Perm xs∧xs'.Pairwise (fun x y=>ltOf cf y x=false)∧OwR e ty B G w' xs' v∧Chg (fun b=>v.ownBlock=some b) w w':=by
 obtain⟨cs,⟨hlen,hv⟩,hcs⟩:=Ho.own
 rw[jD hf] at hcs
 subst hcs
 rcases hv with ⟨rfl,hn⟩|⟨g0,cap,cur,rfl,hB,hheap,hcap,hmax,hcur,htake⟩
 ·have hx:xs=[]:=List.length_eq_zero_iff.1 hn
  subst hx
  exact (AnyF.slices_SortFunc_none L none 0 _ w).mono fun en w' ⟨h2,h3⟩=>by
   subst h3
   exact⟨h2,[],List.Perm.refl _,List.Pairwise.nil,Ho,Chg.rfl' _ _⟩
 ·have hk0:=e.pos
  have hcell:∀j,(xs.flatMap f)[j]?=cur[j]?∨xs.length * e.k≤j:=fun j=>by
   by_cases hj:j<xs.length * e.k
   ·left
    rw[← htake,List.getElem?_take,if_pos hj];simp
   ·right;omega
  have hH:HoldsK f e.k w g0 0 xs.toArray:=by
   intro j hj
   rw[size_flatK] at hj
   have hj':j<xs.length * e.k:=by simpa using hj
   have h2:(flatK f e.k xs.toArray)[j]?=cur[j]?:=by
    rw[← Array.getElem?_toList,qp hk hk0]
    rcases hcell j with h|h
    ·exact h
    ·omega
   have hjs:j<(flatK f e.k xs.toArray).size:=by rw[size_flatK];exact hj
   have hB1:Blk w g0 cur ty:=hheap
   constructor
   ·rw[Nat.zero_add,hB1.cell,← h2,Array.getElem?_eq_getElem hjs,getElem!_pos _ j hjs];rfl
   ·simp[World.frozen?,hheap]
  have hblk:g0<w.heap.size:=(Array.getElem?_eq_some_iff.1 hheap).1
  have hcmp:CmpLays P g #[] f e.k cf g0 0 xs.toArray.size w:=fun m os dk hd x y=>by simpa using hc x y _
  refine (AnyQ.slices_SortFunc L e.k aE zE f hk h1 cf hO g #[] g0 0 cap xs.toArray w eg hcmp hH hblk (by simp;omega)).mono ?_
  rintro en w' ⟨h2,d',n,os,hp,hs,rfl⟩
  have hds:d'.size=xs.length:=by simpa using hp.1
  have hperm:d'.toList.Perm xs:=by
   have:=hp.2.2
   rw[Array.extract_eq_self_of_le (by simp[hds]),Array.extract_eq_self_of_le (by simp)] at this
   simpa using this
  refine⟨h2,d'.toList,hperm,?_,?_,?_⟩
  ·rw[List.pairwise_iff_getElem]
   intro i j hi hj hij
   have:=hs i j (Nat.zero_le _) hij (by simpa[hds] using hj)
   simp only[Array.length_toList] at hi hj
   rw[getElem!_pos d' j hj,getElem!_pos d' i hi] at this
   simpa using this
  ·have hF:(flatK f e.k d').size=xs.length * e.k:=by rw[size_flatK,hds]
   have hcut:xs.length * e.k≤cur.size:=by rw[hcur];exact Nat.mul_le_mul_right _ hcap
   have hh:(sortWorldK f e.k w g0 0 n d' os).heap[g0]?=some (.cells (putCells id 0 (flatK f e.k d') cur) ty (0,0)):=by
    unfold sortWorldK grow putRowK putRow mapBlock
    simp only
    rw[Array.getElem?_append_left (by simpa[Sort.ahead] using hblk),Array.getElem?_modify,if_pos rfl]
    have:(Sort.ahead w n).heap[g0]?=some (Obj.cells cur ty (0,0)):=hheap
    rw[this];rfl
   have hput:(putCells id 0 (flatK f e.k d') cur).toList.take (xs.length * e.k)=d'.toList.flatMap f:=by
    rw[← qp hk hk0]
    apply List.ext_getElem?
    intro j
    rw[List.getElem?_take]
    by_cases hj:j<xs.length * e.k
    ·rw[if_pos hj,Array.getElem?_toList,Array.getElem?_toList,putCells,Array.getElem?_mapIdx,Array.getElem?_eq_getElem (show j<cur.size by omega),Option.map_some,if_pos ⟨Nat.zero_le _,by rw[Nat.zero_add,hF];exact hj⟩]
     have hjf:j<(flatK f e.k d').size:=by rw[hF];exact hj
     rw[Nat.sub_zero,getElem!_pos _ j hjf,Array.getElem?_eq_getElem hjf];rfl
    ·rw[if_neg hj,List.getElem?_eq_none]
     simp only[Array.length_toList,hF];omega
   refine⟨⟨d'.toList.flatMap f,⟨by rw[qo hk],.inr ⟨g0,cap,_,by simp[hds],hB,hh,by simpa[hds] using hcap,hmax,by simpa[putCells] using hcur,by simpa[hds] using hput⟩⟩,(jD hf _ _).2 rfl⟩,Ho.av,?_⟩
   exact Nat.le_trans Ho.base (size_sortWorldK_c f e.k w g0 0 n d' os)
  ·refine⟨rfl,rfl,rfl,size_sortWorldK_c f e.k w g0 0 n d' os,fun b hb hne=>?_⟩
   have hbg:g0≠b:=fun h=>hne (by subst h;rfl)
   unfold sortWorldK grow putRowK putRow mapBlock
   simp only
   rw[Array.getElem?_append_left (by simpa[Sort.ahead] using hb),Array.getElem?_modify,if_neg hbg]
   rfl
end Go.Mono
namespace Go.Proofs
open Go.Shelf
def Tryz.sortV_ren:Go.Shelf.Ren:=⟨fun|6=>90|15=>113|14=>126|28=>145|29=>146|20=>170|21=>171|22=>172|23=>173|24=>174|25=>175|26=>176|27=>177|46=>188|47=>181|48=>182|49=>189|50=>190|57=>200|n=>n,fun|22=>66|24=>73|25=>135|3=>3|39=>153|0=>0|53=>182|55=>74|4=>4|46=>176|45=>175|50=>106|5=>5|9=>9|66=>196|70=>200|76=>211|77=>212|n=>n,fun|n=>n⟩
theorem Tryz.sortV:Go.Proofs.SlLaysF0.n6 Tryz.prog Tryz.sortV_ren:={
 mixed:=by kernel_rfl
 f6:=⟨Tryz.f90.name,by decide,Tryz.func90.trans (congrArg some (by kernel_rfl))⟩
 f14:=⟨Tryz.f126.name,by decide,Tryz.func126.trans (congrArg some (by kernel_rfl))⟩
 f15:=Tryz.func113.trans (congrArg some (by kernel_rfl))
 f20:=⟨Tryz.f170.name,by decide,Tryz.func170.trans (congrArg some (by kernel_rfl))⟩
 f21:=⟨Tryz.f171.name,by decide,Tryz.func171.trans (congrArg some (by kernel_rfl))⟩
 f22:=⟨Tryz.f172.name,by decide,Tryz.func172.trans (congrArg some (by kernel_rfl))⟩
 f23:=⟨Tryz.f173.name,by decide,Tryz.func173.trans (congrArg some (by kernel_rfl))⟩
 f24:=⟨Tryz.f174.name,by decide,Tryz.func174.trans (congrArg some (by kernel_rfl))⟩
 f25:=⟨Tryz.f175.name,by decide,Tryz.func175.trans (congrArg some (by kernel_rfl))⟩
 f26:=⟨Tryz.f176.name,by decide,Tryz.func176.trans (congrArg some (by kernel_rfl))⟩
 f27:=⟨Tryz.f177.name,by decide,Tryz.func177.trans (congrArg some (by kernel_rfl))⟩
 f28:=Tryz.func145.trans (congrArg some (by kernel_rfl))
 f29:=Tryz.func146.trans (congrArg some (by kernel_rfl))
 f46:=⟨Tryz.f188.name,by decide,Tryz.func188.trans (congrArg some (by kernel_rfl))⟩
 f47:=Tryz.func181.trans (congrArg some (by kernel_rfl))
 f48:=Tryz.func182.trans (congrArg some (by kernel_rfl))
 f49:=⟨Tryz.f189.name,by decide,Tryz.func189.trans (congrArg some (by kernel_rfl))⟩
 f50:=⟨Tryz.f190.name,by decide,Tryz.func190.trans (congrArg some (by kernel_rfl))⟩
 f57:=⟨Tryz.f200.name,by decide,Tryz.func200.trans (congrArg some (by kernel_rfl))⟩
 t0:=Tryz.underlying0
 a0:=Tryz.isAgg0
 z0:=Tryz.sizeOf0
 v0:=Tryz.zeroValue0
 t3:=Tryz.underlying3
 a3:=Tryz.isAgg3
 z3:=Tryz.sizeOf3
 v3:=Tryz.zeroValue3
 t4:=Tryz.underlying4
 a4:=Tryz.isAgg4
 z4:=Tryz.sizeOf4
 v4:=Tryz.zeroValue4
 t5:=Tryz.underlying5
 a5:=Tryz.isAgg5
 z5:=Tryz.sizeOf5
 v5:=Tryz.zeroValue5
 t9:=Tryz.underlying9
 a9:=Tryz.isAgg9
 z9:=Tryz.sizeOf9
 v9:=Tryz.zeroValue9
 t22:=Tryz.underlying66
 a22:=Tryz.isAgg66
 z22:=Tryz.sizeOf66
 v22:=Tryz.zeroValue66
 t25:=Tryz.underlying135
 a25:=Tryz.isAgg135
 z25:=Tryz.sizeOf135
 v25:=Tryz.zeroValue135
 t39:=Tryz.underlying153
 a39:=Tryz.isAgg153
 z39:=Tryz.sizeOf153
 v39:=Tryz.zeroValue153
 t45:=Tryz.underlying175
 a45:=Tryz.isAgg175
 z45:=Tryz.sizeOf175
 v45:=Tryz.zeroValue175
 t46:=Tryz.underlying176
 a46:=Tryz.isAgg176
 z46:=Tryz.sizeOf176
 v46:=Tryz.zeroValue176
 t50:=Tryz.underlying106
 a50:=Tryz.isAgg106
 z50:=Tryz.sizeOf106
 v50:=Tryz.zeroValue106
 t53:=Tryz.underlying182
 a53:=Tryz.isAgg182
 z53:=Tryz.sizeOf182
 v53:=Tryz.zeroValue182
 t55:=Tryz.underlying74
 a55:=Tryz.isAgg74
 z55:=Tryz.sizeOf74
 v55:=Tryz.zeroValue74
 t66:=Tryz.underlying196
 a66:=Tryz.isAgg196
 z66:=Tryz.sizeOf196
 v66:=Tryz.zeroValue196
 t70:=Tryz.underlying200
 a70:=Tryz.isAgg200
 z70:=Tryz.sizeOf200
 v70:=Tryz.zeroValue200
 t76:=Tryz.underlying211
 a76:=Tryz.isAgg211
 z76:=Tryz.sizeOf211
 v76:=Tryz.zeroValue211
 t77:=Tryz.underlying212
 a77:=Tryz.isAgg212
 z77:=Tryz.sizeOf212
 v77:=Tryz.zeroValue212 }
def Tryz.sortE_ren:Go.Shelf.Ren:=⟨fun|6=>133|15=>113|14=>179|28=>145|29=>146|20=>191|21=>192|22=>193|23=>194|24=>195|25=>196|26=>197|27=>198|46=>201|47=>181|48=>182|49=>202|50=>203|57=>204|n=>n,fun|22=>61|24=>62|25=>172|3=>3|39=>153|0=>0|53=>182|55=>74|4=>4|46=>176|45=>175|50=>106|5=>5|9=>9|66=>196|70=>200|76=>211|77=>212|n=>n,fun|n=>n⟩
theorem Tryz.sortE:Go.Proofs.SlLaysF0.n6 Tryz.prog Tryz.sortE_ren:={
 mixed:=by kernel_rfl
 f6:=⟨Tryz.f133.name,by decide,Tryz.func133.trans (congrArg some (by kernel_rfl))⟩
 f14:=⟨Tryz.f179.name,by decide,Tryz.func179.trans (congrArg some (by kernel_rfl))⟩
 f15:=Tryz.func113.trans (congrArg some (by kernel_rfl))
 f20:=⟨Tryz.f191.name,by decide,Tryz.func191.trans (congrArg some (by kernel_rfl))⟩
 f21:=⟨Tryz.f192.name,by decide,Tryz.func192.trans (congrArg some (by kernel_rfl))⟩
 f22:=⟨Tryz.f193.name,by decide,Tryz.func193.trans (congrArg some (by kernel_rfl))⟩
 f23:=⟨Tryz.f194.name,by decide,Tryz.func194.trans (congrArg some (by kernel_rfl))⟩
 f24:=⟨Tryz.f195.name,by decide,Tryz.func195.trans (congrArg some (by kernel_rfl))⟩
 f25:=⟨Tryz.f196.name,by decide,Tryz.func196.trans (congrArg some (by kernel_rfl))⟩
 f26:=⟨Tryz.f197.name,by decide,Tryz.func197.trans (congrArg some (by kernel_rfl))⟩
 f27:=⟨Tryz.f198.name,by decide,Tryz.func198.trans (congrArg some (by kernel_rfl))⟩
 f28:=Tryz.func145.trans (congrArg some (by kernel_rfl))
 f29:=Tryz.func146.trans (congrArg some (by kernel_rfl))
 f46:=⟨Tryz.f201.name,by decide,Tryz.func201.trans (congrArg some (by kernel_rfl))⟩
 f47:=Tryz.func181.trans (congrArg some (by kernel_rfl))
 f48:=Tryz.func182.trans (congrArg some (by kernel_rfl))
 f49:=⟨Tryz.f202.name,by decide,Tryz.func202.trans (congrArg some (by kernel_rfl))⟩
 f50:=⟨Tryz.f203.name,by decide,Tryz.func203.trans (congrArg some (by kernel_rfl))⟩
 f57:=⟨Tryz.f204.name,by decide,Tryz.func204.trans (congrArg some (by kernel_rfl))⟩
 t0:=Tryz.underlying0
 a0:=Tryz.isAgg0
 z0:=Tryz.sizeOf0
 v0:=Tryz.zeroValue0
 t3:=Tryz.underlying3
 a3:=Tryz.isAgg3
 z3:=Tryz.sizeOf3
 v3:=Tryz.zeroValue3
 t4:=Tryz.underlying4
 a4:=Tryz.isAgg4
 z4:=Tryz.sizeOf4
 v4:=Tryz.zeroValue4
 t5:=Tryz.underlying5
 a5:=Tryz.isAgg5
 z5:=Tryz.sizeOf5
 v5:=Tryz.zeroValue5
 t9:=Tryz.underlying9
 a9:=Tryz.isAgg9
 z9:=Tryz.sizeOf9
 v9:=Tryz.zeroValue9
 t22:=Tryz.underlying61
 a22:=Tryz.isAgg61
 z22:=Tryz.sizeOf61
 v22:=Tryz.zeroValue61
 t25:=Tryz.underlying172
 a25:=Tryz.isAgg172
 z25:=Tryz.sizeOf172
 v25:=Tryz.zeroValue172
 t39:=Tryz.underlying153
 a39:=Tryz.isAgg153
 z39:=Tryz.sizeOf153
 v39:=Tryz.zeroValue153
 t45:=Tryz.underlying175
 a45:=Tryz.isAgg175
 z45:=Tryz.sizeOf175
 v45:=Tryz.zeroValue175
 t46:=Tryz.underlying176
 a46:=Tryz.isAgg176
 z46:=Tryz.sizeOf176
 v46:=Tryz.zeroValue176
 t50:=Tryz.underlying106
 a50:=Tryz.isAgg106
 z50:=Tryz.sizeOf106
 v50:=Tryz.zeroValue106
 t53:=Tryz.underlying182
 a53:=Tryz.isAgg182
 z53:=Tryz.sizeOf182
 v53:=Tryz.zeroValue182
 t55:=Tryz.underlying74
 a55:=Tryz.isAgg74
 z55:=Tryz.sizeOf74
 v55:=Tryz.zeroValue74
 t66:=Tryz.underlying196
 a66:=Tryz.isAgg196
 z66:=Tryz.sizeOf196
 v66:=Tryz.zeroValue196
 t70:=Tryz.underlying200
 a70:=Tryz.isAgg200
 z70:=Tryz.sizeOf200
 v70:=Tryz.zeroValue200
 t76:=Tryz.underlying211
 a76:=Tryz.isAgg211
 z76:=Tryz.sizeOf211
 v76:=Tryz.zeroValue211
 t77:=Tryz.underlying212
 a77:=Tryz.isAgg212
 z77:=Tryz.sizeOf212
 v77:=Tryz.zeroValue212 }
end Go.Proofs
namespace Go.Mono
open Go Go.Proofs Go.RowKit Go.Gr Go.Sort
instance:Inhabited VT:=⟨(0,(0,0))⟩
instance:Inhabited ET:=⟨((0,0),(0,0))⟩
theorem yi (x y:Int):decide (MonoD.cmpI x y<0)=decide (x<y):=by
 unfold MonoD.cmpI
 by_cases h1:x<y
 ·simp[h1]
 ·by_cases h2:y<x <;> simp[h1,h2]
theorem jE (x y:VT):ltOf (fun x y:VT=>MonoD.cmpI x.1 y.1) x y=lt1 x.1 y.1:=yi _ _
theorem jF (x y:ET):ltOf (fun x y:ET=>MonoD.orI (MonoD.cmpI x.1.1 y.1.1) (MonoD.cmpI x.1.2 y.1.2)) x y=lt2 x.1 y.1:=by
 unfold ltOf MonoD.orI MonoD.cmpI lt2
 by_cases h1:x.1.1<y.1.1
 ·simp[h1]
 ·by_cases h2:y.1.1<x.1.1
  ·simp[h1,h2];omega
  ·have:x.1.1=y.1.1:=by omega
   by_cases h3:x.1.2<y.1.2
   ·simp[h1,h2,h3,this]
   ·by_cases h4:y.1.2<x.1.2 <;> simp[h1,h2,h3,h4,this]
theorem yk:SWO (ltOf fun x y:VT=>MonoD.cmpI x.1 y.1) where
 irrefl x:=by rw[jE];simp[lt1]
 trans x y z h1 h2:=by rw[jE] at *;exact nL h1 h2
 ntrans x y z h1 h2:=by rw[jE] at *;simp only[lt1,decide_eq_false_iff_not] at *;omega
theorem yl:SWO (ltOf fun x y:ET=>MonoD.orI (MonoD.cmpI x.1.1 y.1.1) (MonoD.cmpI x.1.2 y.1.2)) where
 irrefl x:=by rw[jF];exact uv _
 trans x y z h1 h2:=by rw[jF] at *;exact nK h1 h2
 ntrans x y z h1 h2:=by rw[jF] at *;simp only[lt2,decide_eq_false_iff_not] at *;omega
def vtL (x:VT):List Value:=[.int .i64 x.1,.int .u8 x.2.1,.int .i64 x.2.2]
def etL (x:ET):List Value:=[.int .i64 x.1.1,.int .i64 x.1.2,.int .u8 x.2.1,.int .i64 x.2.2]
theorem ym (G:Nat→Prop)(w:World)(x:VT)(cs:List Value):vtE.r G w x cs↔cs=vtL x:=
 ⟨fun⟨c,d,h,h1,c2,d2,h2,h3,h4⟩=>by cases h1;cases h3;cases h4;subst h2;subst h;rfl,fun h=>⟨_,_,by rw[h];rfl,rfl,_,_,rfl,rfl,rfl⟩⟩
theorem yn (G:Nat→Prop)(w:World)(x:ET)(cs:List Value):etE.r G w x cs↔cs=etL x:=
 ⟨fun⟨c,d,h,⟨c1,d1,h1,h1a,h1b⟩,c2,d2,h2,h3,h4⟩=>by cases h1a;cases h1b;cases h3;cases h4;subst h1;subst h2;subst h;rfl,fun h=>⟨_,_,by rw[h];rfl,⟨_,_,rfl,rfl,rfl⟩,_,_,rfl,rfl,rfl⟩⟩
theorem yo {B:Nat}{G:Nat→Prop}{w:World}{xs:List VT}{v:Value}(Ho:OwR vtE 73 B G w xs v)(hl:xs.length≤100000) :
  Calls Tryz.prog 90 #[v,.func (.func 91) #[] #[]] w fun en w'=>en=.returned (.tuple #[])∧∃xs',xs'.Perm xs∧xs'.Pairwise (fun x y=>lt1 y.1 x.1=false)∧OwR vtE 73 B G w' xs' v∧Chg (fun b=>v.ownBlock=some b) w w':=
 (qq (e:=vtE) Tryz.sortV (fun w=>T73.agg w) (fun w=>T73.size w) vtL ym (fun _=>rfl) (fun x u hu=>by simp[vtL] at hu;rcases hu with rfl|rfl|rfl <;> rfl) _ yk 91 vj
  (fun x y W=>(MonoD.cmpV_spec x y W).mono fun en w' ⟨u,h1,h2,h3⟩=>by cases h3;exact⟨h1,h2.grown⟩) Ho hl).mono fun en w' ⟨h1,xs',h2,h3,h4,h5⟩=>⟨h1,xs',h2,h3.imp fun {a b} h=>by rwa [jE] at h,h4,h5⟩
theorem yp {B:Nat}{G:Nat→Prop}{w:World}{xs:List ET}{v:Value}(Ho:OwR etE 62 B G w xs v)(hl:xs.length≤100000) :
  Calls Tryz.prog 133 #[v,.func (.func 134) #[] #[]] w fun en w'=>en=.returned (.tuple #[])∧∃xs',xs'.Perm xs∧xs'.Pairwise (fun x y=>lt2 y.1 x.1=false)∧OwR etE 62 B G w' xs' v∧Chg (fun b=>v.ownBlock=some b) w w':=
 (qq (e:=etE) Tryz.sortE (fun w=>T62.agg w) (fun w=>T62.size w) etL yn (fun _=>rfl) (fun x u hu=>by simp[etL] at hu;rcases hu with rfl|rfl|rfl|rfl <;> rfl) _ yl 134 vM
  (fun x y W=>(MonoD.cmpE_spec x y W).mono fun en w' ⟨u,h1,h2,h3⟩=>by cases h3;exact⟨h1,h2.grown⟩) Ho hl).mono fun en w' ⟨h1,xs',h2,h3,h4,h5⟩=>⟨h1,xs',h2,h3.imp fun {a b} h=>by rwa [jF] at h,h4,h5⟩
theorem bVx (x:VT):Tryz.prog.built 73 [(0,.int .i64 x.1),(1,.int .u8 x.2.1),(2,.int .i64 x.2.2)]=some #[.int .i64 x.1,.int .u8 x.2.1,.int .i64 x.2.2]:=by kernel_rfl
theorem bEx (x:ET):Tryz.prog.built 62 [(0,.int .i64 x.1.1),(1,.int .i64 x.1.2),(2,.int .u8 x.2.1),(3,.int .i64 x.2.2)]=some #[.int .i64 x.1.1,.int .i64 x.1.2,.int .u8 x.2.1,.int .i64 x.2.2]:=by kernel_rfl
theorem yq {G:Nat→Prop}{N:Nat}(g:GT)(v:Value)(W:World)(h:(Dv (ptE (grE N)) G (some g)).p v W)(hG:∀b,G b→b<W.heap.size)(hs:g.1.Pairwise fun x y=>lt1 x.1 y.1=true)(hl:g.1.length≤100000)(hN:N≤1000000) :
  Calls Tryz.prog 41 #[v] W (Post (OwA vtE 73 W.heap.size G g.1) W):=by
 refine enter (args:=[v]) (As:=[Dv (ptE (grE N)) (GB W G) (some g)]) Tryz.func41 rfl Tryz.ntmps41 (Nat.le_of_ble_eq_true rfl) ?_ (fun a hf=>?_) (Nat.le_of_ble_eq_true rfl)
 rotate_left
 rotate_right
 ·exact arg1 (Dv.toB h)
 have e:=Ext.rfl' W
 refine seq <| ab <| aA hf rfl (by decide) fun a hf=>aa ?_
 refine seq <| seq ?_
 refine ay 2 hf (by decide +kernel) <| st (mv rfl) <| st (dm Tryz.underlying26 (isR rfl)) <| en fun a w e' hf=>?_
 replace e:=e.tr e'
 refine aa <| ifF hf rfl ?_
 refine ah <| seq <| ab <| aA hf rfl (by decide) fun a hf=>aa ?_
 refine seq <| seq ?_
 refine ay 4 hf (by decide +kernel) <| st (mv rfl) <| st (dj (isR rfl)) <| st (ax Tryz.underlying130 rfl cJ (by decide) (Fld.fst Fld.refl) (isR rfl)) <| st (ldD cJ (isR rfl)) <| en fun a w e' hf=>?_
 replace e:=e.tr e'
 obtain⟨_,⟨cs,⟨bm,nm,rfl,hGm,hNm,HM⟩,rfl⟩,hf⟩:=hf.fix 11 rfl
 have hbm:bm<W.heap.size:=Nat.lt_of_not_le fun h=>hGm (.inr h)
 refine iq (V:=vKV) Tryz.underlying127 hf (by decide) rfl HM fun a r w e' hr hsr HR hf=>?_
 have hrW:W.heap.size≤r:=Nat.le_trans e.size (Nat.le_of_eq hr.symm)
 replace e:=e.tr e'
 have hrs:r+1≤w.heap.size:=by omega
 refine aa ?_
 replace hf:=hf.keep [2,3,12]
 refine blk (aF (fun r0 a w=>∃(old rest:List VT) (u:Value),r0=rest.length∧Fr 30 a w [(2,E (.slice none 0 0)),(3,E u),(12,E (.pointer (some ⟨r,0,none⟩)))]∧Ext W w∧RgR vKV w bm r nm old rest∧OwR vtE 73 (r+1) G w old u∧(old++rest).Perm g.1) g.1.length ⟨[],g.1,.slice none 0 0,rfl,hf,e,HR,OwR.nil vtE _ hrs fun b hb=>Nat.lt_of_lt_of_le (hG b hb) (by omega),List.Perm.refl _⟩ ?_)
 rintro r0 a w ⟨old,rest,u,rfl,hf,e,HR,Ho,hp⟩
 refine seq <| ab <| ir hf (by decide) rfl HR (fun a hrest hf=>?_) (fun a w' x c hm hg HR hen hf=>?_)
 ·refine ca hf (by decide) rfl rfl fun a hf=>aa <| seq <| ifF hf rfl ?_
  refine aC ?_
  subst hrest
  rw[List.append_nil] at hp
  replace hf:=hf.kp [2,3]
  refine seq <| ay 1 hf (by decide +kernel) <| st (mv rfl) <| en fun a w e' hf=>?_
  replace Ho:=Ho.ext e'
  replace e:=e.tr e'
  refine em (S:=fun b=>u.ownBlock=some b) (F:=fun z w'=>OwR vtE 73 (r+1) G w' g.1 u) hf (by decide) vi ?_ fun a z w hc hF hf=>?_
  ·have e27:a.eval (.tmp 27)=u:=hf.opd (.tmp 27) _ rfl
   have eF:a.eval (.func 91)=.func (.func 91) #[] #[]:=rfl
   simp only[List.map_toArray,List.map_cons,List.map_nil,e27,eF]
   exact (yo Ho (by rw[hp.length_eq];exact hl)).mono fun en w' ⟨k1,xs',k2,k3,k4,k5⟩=>⟨_,k1,k5,by rw[← kQ (lt:=fun x y:VT=>lt1 x.1 y.1) (k2.trans hp) hs k3];exact k4⟩
  replace e:=e.ch hc (fun b hb=>by have:=(Ho.lt hb).1;omega)
  refine aa ?_
  replace hf:=hf.keep [2,3]
  refine seq <| ay 1 hf (by decide +kernel) <| st (mv rfl) <| en fun a w e' hf=>?_
  replace hF:=hF.ext e'
  replace e:=e.tr e'
  refine aA hf rfl (by decide) fun a hf=>aa <| ai <| am rfl hf rfl ?_
  rintro _ rfl
  exact⟨_,rfl,e,hF.low (by omega) hG⟩
 ·have nr:u.ownBlock≠some r:=Ho.neLt (by omega)
  have HR0:(old++rest).Pairwise (fun p q:VT=>p.1≠q.1):=(hp.pairwise_iff (fun {_ _} hne=>Ne.symm hne)).2 (hs.imp fun {a b} h=>(gW h).2)
  replace e:=e.gr hg hrW;replace Ho:=Ho.grE hg nr;clear hg nr
  refine ca hf (by decide) rfl rfl fun a hf=>aa <| seq <| ifT hf rfl ?_
  refine ah <| blk <| seq <| ab <| iv hf (by decide) rfl hen fun a hf=>?_
  have hlen:old.length+1≤g.1.length:=by
   have h1:=hp.length_eq;have h2:0<rest.length:=List.length_pos_of_mem hm
   rw[List.length_append] at h1;omega
  replace hf:=hf.keep [2,3,12,15]
  refine ca hf (by decide) rfl rfl fun a hf=>ca hf (by decide) rfl rfl fun a hf=>?_
  have lr:=HR.lt
  refine eD cL hf (by decide) fun a b5 w e' hb5 hs5 B5 hf=>?_
  have ne5_Ho:=Ho.ne_new hb5
  replace HR:=HR.ext e'
  replace Ho:=Ho.ext e'
  replace e:=e.tr e'
  refine aA hf rfl (by decide) fun a hf=>?_
  have n5:=ne5_Ho
  replace HR:RgR vKV w bm r nm (old++[(x,c)]) (rest.filter fun p => !decide (p.1=x)):=HR
  replace hf:=hf.kp [2,3,4,5,12,17]
  refine az cU hf rfl rfl (bk rfl rfl) B5 rfl rfl fun w hg' hsz B5 hf=>?_
  replace e:=e.gr hg' (by omega);replace HR:=HR.gr hg' (fun h=>by cases h;omega) (fun h=>by cases h;omega);replace Ho:=Ho.grE hg' n5;clear hg'
  refine aa ?_
  replace hf:=hf.kp [2,3,4,5,12]
  refine ay 8 hf (by decide +kernel) <| st (mv rfl) <| st (mv rfl) <| st (bJ Tryz.underlying132 rfl T5 (by decide) rfl) <| st (ld1 T5 rfl B5 rfl) <| st (bJ Tryz.underlying132 rfl T3 (by decide) rfl) <| st (ld1 T3 rfl B5 rfl) <| st (nR (x,c) (bVx (x,c)) rfl rfl rfl) <| st (aW Tryz.underlying66 I73 rfl (by decide) rfl Ho.avs (eM rfl)) <| en fun a w e' hf=>?_
  replace HR:=HR.ext e'
  replace Ho:=Ho.ext e'
  replace e:=e.tr e'
  replace B5:=B5.ext e'
  haveI hin:∀G0,InR (GB W G0) _:=OwR.inGB (W:=W) Ho (by omega)
  refine br Tryz.underlying66 I73 rfl rfl hf (by decide) rfl Ho (isR rfl) (by simp only[List.length_singleton];omega) (by simp only[List.length_singleton,maxLen];omega) fun a v w hg hat Hn hf=>?_
  replace e:=e.gro hg (Ho.row (W:=W) (by omega))
  replace HR:=HR.gr hg (fun h=>by have:=(Ho.lt h.symm).1;omega) (fun h=>by have:=(Ho.lt h.symm).1;omega)
  replace Ho:=Hn
  replace B5:=B5.gro hg (by assumption)
  replace Ho:=Hn;clear Hn hg hat hin
  refine aA hf rfl (by decide) fun a hf=>aa ?_
  replace hf:=hf.keep [2,3,12]
  refine⟨_,?_,old++[(x,c)],_,_,rfl,hf,e,HR,Ho,?_⟩
  ·have:=(er (List.pairwise_append.1 HR0).2.1 hm).length_eq
   simp only[List.length_cons] at this;omega
  ·rw[List.append_assoc];exact (List.Perm.append_left old (er (List.pairwise_append.1 HR0).2.1 hm).symm).trans hp
theorem qs {G:Nat→Prop}{N:Nat}(g:GT)(v:Value)(W:World)(h:(Dv (ptE (grE N)) G (some g)).p v W)(hG:∀b,G b→b<W.heap.size)(hs:g.2.Pairwise fun x y=>lt2 x.1 y.1=true)(hl:g.2.length≤100000)(hN:N≤1000000) :
  Calls Tryz.prog 101 #[v] W (Post (OwA etE 62 W.heap.size G g.2) W):=by
 refine eN [v] [Dv (ptE (grE N)) (GB W G) (some g)] Tryz.func101 Tryz.ntmps101 ?_ fun a hf=>?_
 rotate_left
 rotate_right
 ·exact arg1 (Dv.toB h)
 have e:=Ext.rfl' W
 refine seq <| ab <| tA hf rfl fun a hf=>aa ?_
 refine seq <| seq ?_
 refine rgN 2 hf <| st (mv rfl) <| st (dm U26 (isR rfl)) <| en fun a w e' hf=>?_
 replace e:=e.tr e'
 refine aa <| ifF hf rfl ?_
 refine ah <| seq <| ab <| tA hf rfl fun a hf=>aa ?_
 refine seq <| seq ?_
 refine rgN 4 hf <| st (mv rfl) <| st (dj (isR rfl)) <| st (ax cX rfl cK (by decide) (Fld.snd Fld.refl rfl) (isR rfl)) <| st (ldD cK (isR rfl)) <| en fun a w e' hf=>?_
 replace e:=e.tr e'
 obtain⟨_,⟨cs,⟨bm,nm,rfl,hGm,hNm,HM⟩,rfl⟩,hf⟩:=hf.fix 11 rfl
 have hbm:bm<W.heap.size:=Nat.lt_of_not_le fun h=>hGm (.inr h)
 refine iq (V:=eKV) eP hf (by decide) rfl HM fun a r w e' hr hsr HR hf=>?_
 have hrW:W.heap.size≤r:=Nat.le_trans e.size (Nat.le_of_eq hr.symm)
 replace e:=e.tr e'
 have hrs:r+1≤w.heap.size:=by omega
 refine aa ?_
 replace hf:=hf.keep [2,3,12]
 refine blk (aF (fun r0 a w=>∃(old rest:List ET) (u:Value),r0=rest.length∧Fr 33 a w [(2,E (.slice none 0 0)),(3,E u),(12,E (.pointer (some ⟨r,0,none⟩)))]∧Ext W w∧RgR eKV w bm r nm old rest∧OwR etE 62 (r+1) G w old u∧(old++rest).Perm g.2) g.2.length ⟨[],g.2,.slice none 0 0,rfl,hf,e,HR,OwR.nil etE _ hrs fun b hb=>Nat.lt_of_lt_of_le (hG b hb) (by omega),List.Perm.refl _⟩ ?_)
 rintro r0 a w ⟨old,rest,u,rfl,hf,e,HR,Ho,hp⟩
 refine seq <| ab <| ir hf (by decide) rfl HR (fun a hrest hf=>?_) (fun a w' x c hm hg HR hen hf=>?_)
 ·refine ca hf (by decide) rfl rfl fun a hf=>aa <| seq <| ifF hf rfl ?_
  refine aC ?_
  subst hrest
  rw[List.append_nil] at hp
  replace hf:=hf.kp [2,3]
  refine seq <| rgN 1 hf <| st (mv rfl) <| en fun a w e' hf=>?_
  obtain⟨Ho,e⟩:=up2 e' Ho e
  refine em (S:=fun b=>u.ownBlock=some b) (F:=fun z w'=>OwR etE 62 (r+1) G w' g.2 u) hf (by decide) vL ?_ fun a z w hc hF hf=>?_
  ·have e30:a.eval (.tmp 30)=u:=hf.opd (.tmp 30) _ rfl
   have eF:a.eval (.func 134)=.func (.func 134) #[] #[]:=rfl
   simp only[List.map_toArray,List.map_cons,List.map_nil,e30,eF]
   exact (yp Ho (by rw[hp.length_eq];exact hl)).mono fun en w' ⟨k1,xs',k2,k3,k4,k5⟩=>⟨_,k1,k5,by rw[← kQ (lt:=fun x y:ET=>lt2 x.1 y.1) (k2.trans hp) hs k3];exact k4⟩
  replace e:=e.ch hc (fun b hb=>by have:=(Ho.lt hb).1;omega)
  refine aa ?_
  replace hf:=hf.keep [2,3]
  refine seq <| rgN 1 hf <| st (mv rfl) <| en fun a w e' hf=>?_
  obtain⟨hF,e⟩:=up2 e' hF e
  refine tA hf rfl fun a hf=>aa <| ai <| am rfl hf rfl ?_
  rintro _ rfl
  exact⟨_,rfl,e,hF.low (by omega) hG⟩
 ·have nr:u.ownBlock≠some r:=Ho.neLt (by omega)
  have HR0:(old++rest).Pairwise (fun p q:ET=>p.1≠q.1):=(hp.pairwise_iff (fun {_ _} hne=>Ne.symm hne)).2 (hs.imp fun {a b} h=>(gV h).2)
  replace e:=e.gr hg hrW;replace Ho:=Ho.grE hg nr;clear hg nr
  refine ca hf (by decide) rfl rfl fun a hf=>aa <| seq <| ifT hf rfl ?_
  refine ah <| blk <| seq <| ab <| iv hf (by decide) rfl hen fun a hf=>?_
  have hlen:old.length+1≤g.2.length:=by
   have h1:=hp.length_eq;have h2:0<rest.length:=List.length_pos_of_mem hm
   rw[List.length_append] at h1;omega
  replace hf:=hf.keep [2,3,12,15]
  refine ca hf (by decide) rfl rfl fun a hf=>ca hf (by decide) rfl rfl fun a hf=>?_
  have lr:=HR.lt
  refine tL kT hf fun a b4 w e' hb4 hs4 B4 hf=>?_
  have ne4_Ho:=Ho.ne_new hb4
  obtain⟨HR,Ho,e⟩:=up3 e' HR Ho e
  refine tL cL hf fun a b5 w e' hb5 hs5 B5 hf=>?_
  have ne5_Ho:=Ho.ne_new hb5
  obtain⟨HR,Ho,e,B4⟩:=up4 e' HR Ho e B4
  have n5:=ne5_Ho
  have n4:=ne4_Ho
  replace HR:RgR eKV w bm r nm (old++[(x,c)]) (rest.filter fun p => !decide (p.1=x)):=HR
  replace hf:=hf.kp [2,3,4,5,12,16,17]
  refine az gX hf rfl rfl (bk rfl rfl) B4 rfl rfl fun w hg' hsz B4 hf=>?_
  replace e:=e.gr hg' (by omega);replace HR:=HR.gr hg' (fun h=>by cases h;omega) (fun h=>by cases h;omega);replace Ho:=Ho.grE hg' n4;replace B5:=B5.gr hg' (by omega);clear hg'
  refine az cU hf rfl rfl (bk rfl rfl) B5 rfl rfl fun w hg' hsz B5 hf=>?_
  replace e:=e.gr hg' (by omega);replace HR:=HR.gr hg' (fun h=>by cases h;omega) (fun h=>by cases h;omega);replace Ho:=Ho.grE hg' n5;replace B4:=B4.gr hg' (by omega);clear hg'
  refine aa ?_
  replace hf:=hf.kp [2,3,4,5,12]
  refine rgN 11 hf <| st (mv rfl) <| st (fA ib rfl T3 rfl) <| st (ld1 T3 rfl B4 rfl) <| st (fA ib rfl T3 rfl) <| st (ld1 T3 rfl B4 rfl) <| st (fA oI rfl T5 rfl) <| st (ld1 T5 rfl B5 rfl) <| st (fA oI rfl T3 rfl) <| st (ld1 T3 rfl B5 rfl) <| st (nS (x,c) (bEx (x,c)) rfl rfl rfl rfl) <| st (aW U61 I62 rfl (by decide) rfl Ho.avs (dr rfl)) <| en fun a w e' hf=>?_
  obtain⟨HR,Ho,e,B4,B5⟩:=up5 e' HR Ho e B4 B5
  haveI hin:∀G0,InR (GB W G0) _:=OwR.inGB (W:=W) Ho (by omega)
  refine br U61 I62 rfl rfl hf (by decide) rfl Ho (isR rfl) (by simp only[List.length_singleton];omega) (by simp only[List.length_singleton,maxLen];omega) fun a v w hg hat Hn hf=>?_
  replace e:=e.gro hg (Ho.row (W:=W) (by omega))
  replace HR:=HR.gr hg (fun h=>by have:=(Ho.lt h.symm).1;omega) (fun h=>by have:=(Ho.lt h.symm).1;omega)
  replace Ho:=Hn
  replace B4:=B4.gro hg (by assumption)
  replace B5:=B5.gro hg (by assumption)
  replace Ho:=Hn;clear Hn hg hat hin
  refine tA hf rfl fun a hf=>aa ?_
  replace hf:=hf.keep [2,3,12]
  refine⟨_,?_,old++[(x,c)],_,_,rfl,hf,e,HR,Ho,?_⟩
  ·have:=(er (List.pairwise_append.1 HR0).2.1 hm).length_eq
   simp only[List.length_cons] at this;omega
  ·rw[List.append_assoc];exact (List.Perm.append_left old (er (List.pairwise_append.1 HR0).2.1 hm).symm).trans hp
end Go.Mono
