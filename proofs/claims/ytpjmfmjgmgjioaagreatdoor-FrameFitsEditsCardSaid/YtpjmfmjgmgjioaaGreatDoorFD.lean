/-
  Walks of functions and plain facts.
  No condition.
-/
import Derived.Test.YtpjmfmjgmgjioaaGreatDoorFC
import Derived.Maps.RangeWalk
import Derived.Test.YtpjmfmjgmgjioaaGreatDoorFA
import Derived.Sort.Grow
import Derived.Great.BuildSlice
import Derived.Deep.Draws
set_option linter.unusedVariables false
set_option linter.unusedSimpArgs false
namespace Go.Mono
open Go Go.Proofs Go.RowKit Go.Gr
theorem bTs (id:FuncId)(caps:Array Value)(c:Int):Tryz.prog.built 152 [(0,.func (.func id) #[] caps),(1,.int .i64 c)]=some #[.func (.func id) #[] caps,.int .i64 c]:=by kernel_rfl
theorem vo {l:List (Bool×Int)}{k:Nat}{b:Bool}{c:Int}(h:∀y∈l.take k,y.1=false)(hx:l[k]?=some (b,c))(hb:b=true):cw l=c:=by
 induction l generalizing k with
 | nil=>simp at hx
 | cons y r ih=>
  cases k with
  | zero=>simp at hx;subst hx;subst hb;rfl
  | succ k=>
   have h0:=h y (by simp)
   obtain⟨y1,y2⟩:=y
   simp only at h0
   subst h0
   simp only[cw,Bool.false_eq_true,if_false]
   exact ih (fun z hz=>h z (by rw[List.take_succ_cons];exact List.mem_cons_of_mem _ hz)) (by simpa using hx)
theorem vp {l:List (Bool×Int)}(h:∀y∈l.take l.length,y.1=false):cw l=0:=by
 rw[List.take_length] at h
 induction l with
 | nil=>rfl
 | cons y r ih=>
  have h0:=h y (by simp)
  obtain⟨y1,y2⟩:=y
  simp only at h0
  subst h0
  simp only[cw,Bool.false_eq_true,if_false]
  exact ih fun z hz=>h z (by simp[hz])
theorem vq {m n:Int}(hm:(Lit.int .i64 m).wf=true)(hn:(Lit.int .i64 n).wf=true):(Lit.int .i64 (min m n)).wf=true∧(Lit.int .i64 (max m n)).wf=true:=by
 by_cases h:m≤n
 ·rw[Int.min_eq_left h,Int.max_eq_right h];exact⟨hm,hn⟩
 ·rw[Int.min_eq_right (by omega),Int.max_eq_left (by omega)];exact⟨hn,hm⟩
theorem jS {m n:Int}(hm:(Lit.int .i64 m).wf=true)(hn:(Lit.int .i64 n).wf=true):eKV.ok (Gr.ends m n):=vq hm hn
theorem th0:okT (0,0):=⟨by decide,by decide⟩
theorem Blk.bo {w:World}{b:Nat}{t:TypeId}{c:Bool}(h:Blk w b #[.bool c] t):(Dv (ptE cq) G0 (some c)).p (.pointer (some ⟨b,0,none⟩)) w:=
 Dv.pt.2 ⟨_,rfl,fun h=>h.elim,h.lt,_,rfl,fun i u hu=>by
  have:(Addr.mk b 0 none).add i=⟨b,i,none⟩:=by simp[Addr.add];intro h;exact h.symm
  rw[this,h.cell];simpa using hu⟩
instance (N B:Nat)(z:Value):StJ (ChT N 126) (AlA B z 4):=vl B z (by decide)
theorem og {G:Nat→Prop}{M:Nat}(g:GT)(d:DT)(v:Value)(W:World)(h:(Dv (ptE (grE M)) G (some g)).p v W)(hw:(Lit.int .i64 d.2.1).wf=true)(hw2:(Lit.int .i64 d.2.2.1).wf=true) :
  Calls Tryz.prog 74 #[v,dtV d] W (Post (E (I (aN g d))) W):=by
 refine enter (args:=[v,dtV d]) (As:=[Dv (ptE (grE M)) G0 (some g),Dv dtE G0 d]) Tryz.func74 rfl Tryz.ntmps74 (Nat.le_of_ble_eq_true rfl) ?_ (fun a hf=>?_) (Nat.le_of_ble_eq_true rfl)
 rotate_left
 dsimp only[params,Nat.reduceAdd] at hf
 rotate_right
 ·exact arg2 (Dv.weak h fun b _ hb=>hb.elim) (Dv.dt.2 rfl)
 have e:=Ext.rfl' W
 refine seq ?_
 refine ah ?_
 refine dr hf rfl (by decide) (fun _ h=>h.elim) fun a w e' hf=>?_
 replace e:=e.tr e'
 clear e'
 refine dr hf rfl (by decide) (fun _ h=>h.elim) fun a w e' hf=>?_
 replace e:=e.tr e'
 refine ae hf rfl (by decide) fun a hf=>?_
 refine aa ?_
 obtain⟨N,hN⟩:∃N,N=w.heap.size:=⟨_,rfl⟩
 have hNW:W.heap.size≤N:=by rw[hN];exact e.size
 replace hf:=hf.upd 2 rfl (fun v hv=>Dv.weak (G':=fun b=>N≤b) hv (fun b hb hn=>absurd hb (by omega)))
 replace hf:=hf.upd 3 rfl (fun v hv=>Dv.weak (G':=fun b=>N≤b) hv (fun b hb hn=>absurd hb (by omega)))
 have hNs:N≤w.heap.size:=Nat.le_of_eq hN
 clear hN
 replace hf:=hf.kp [2,3,4]
 have hq1:=hNs
 refine seq ?_
 refine ew 13 [1,1,1,1,1,1,1,1,1,1,0,2] (ChT N 126) (ChT.rel _ _) (fun w=>True) (fun w w1 k h=>trivial) Mix.mix hf (by decide +kernel) (by decide +kernel) ?_
 refine jf (fun w1 h1=>ldD T38 (isR rfl)) ?_
 refine jf (fun w1 h1=>ct (isR rfl)) ?_
 refine jf (fun w1 h1=>am bP rfl bO (by decide) (Fld.fst Fld.refl) (isR rfl)) ?_
 refine jf (fun w1 h1=>ldD bO (isR rfl)) ?_
 refine jf (fun w1 h1=>am U26 rfl T3 (by decide) (Fld.snd (Fld.fst Fld.refl) rfl) (isR rfl)) ?_
 refine jf (fun w1 h1=>ldI T3 (isR rfl)) ?_
 refine jf (fun w1 h1=>jO (V:=vKV) (i:=d.2.1) (z:=(0,0)) eC (eG cF) th0 (isR rfl) rfl hw) ?_
 refine jf (fun w1 h1=>mv rfl) ?_
 refine jf (fun w1 h1=>aZ rfl rfl) ?_
 refine jf (fun w1 h1=>aZ rfl rfl) ?_
 refine ja (alD cF) ?_
 refine jk (alD I4) ?_
 refine jx (xst eV rfl hNs rfl rfl (fun v w hv=>by obtain⟨c,rfl,_⟩:=hv;exact⟨_,rfl,rfl,aX rfl rfl⟩)) ?_
 refine je ?_
 refine fun a w hc HF hf=>?_
 try dsimp only[push] at hf
 obtain⟨_,⟨b6,hb6,rfl,B6⟩,hf⟩:=hf.fix 6 rfl
 replace e:=e.ch hc.chg (fun b hb=>by omega);replace hNs:=Nat.le_trans hNs hc.chg.size;clear hc
 haveI:InR (fun b=>N≤b) (some b6):=⟨fun b hb=>by cases hb;omega⟩
 replace hf:=hf.kp [2,3,4,6,22]
 refine aP T4 hf rfl rfl rfl B6 (by decide) fun w hg hsz B6 hf=>?_
 replace e:=e.gr hg (by omega);replace hNs:=Nat.le_trans hNs hg.size;clear hg
 refine aa ?_
 replace B6:Blk w b6 #[.bool (inV g.1 d.2.1)] 4:=B6
 replace hf:=hf.kp [2,3,4,6]
 have hq2:=hNs
 refine seq ?_
 refine ew 13 [1,1,1,1,1,1,1,1,1,1,0,2] (ChT N 126) (ChT.rel _ _) (fun w=>True) (fun w w1 k h=>trivial) Mix.mix hf (by decide +kernel) (by decide +kernel) ?_
 refine jf (fun w1 h1=>ldD T38 (isR rfl)) ?_
 refine jf (fun w1 h1=>ct (isR rfl)) ?_
 refine jf (fun w1 h1=>am bP rfl bO (by decide) (Fld.fst Fld.refl) (isR rfl)) ?_
 refine jf (fun w1 h1=>ldD bO (isR rfl)) ?_
 refine jf (fun w1 h1=>am U26 rfl T3 (by decide) (Fld.snd (Fld.snd (Fld.fst Fld.refl) rfl) rfl) (isR rfl)) ?_
 refine jf (fun w1 h1=>ldI T3 (isR rfl)) ?_
 refine jf (fun w1 h1=>jO (V:=vKV) (i:=d.2.2.1) (z:=(0,0)) eC (eG cF) th0 (isR rfl) rfl hw2) ?_
 refine jf (fun w1 h1=>mv rfl) ?_
 refine jf (fun w1 h1=>aZ rfl rfl) ?_
 refine jf (fun w1 h1=>aZ rfl rfl) ?_
 refine ja (alD cF) ?_
 refine jk (alD I4) ?_
 refine jx (xst eV rfl hNs rfl rfl (fun v w hv=>by obtain⟨c,rfl,_⟩:=hv;exact⟨_,rfl,rfl,aX rfl rfl⟩)) ?_
 refine je ?_
 refine fun a w hc HF hf=>?_
 try dsimp only[push] at hf
 obtain⟨_,⟨b8,hb8,rfl,B8⟩,hf⟩:=hf.fix 8 rfl
 have n68:b6≠b8:=by have:=B6.lt;omega
 replace e:=e.ch hc.chg (fun b hb=>by omega);replace hNs:=Nat.le_trans hNs hc.chg.size;replace B6:=B6.chT hc (by decide);clear hc
 haveI:InR (fun b=>N≤b) (some b8):=⟨fun b hb=>by cases hb;omega⟩
 replace hf:=hf.kp [2,3,4,6,8,32]
 refine aP T4 hf rfl rfl rfl B8 (by decide) fun w hg hsz B8 hf=>?_
 replace e:=e.gr hg (by omega);replace hNs:=Nat.le_trans hNs hg.size;replace B6:=B6.gr hg n68;clear hg
 refine aa ?_
 replace B8:Blk w b8 #[.bool (inV g.1 d.2.2.1)] 4:=B8
 replace hf:=hf.kp [2,3,4,6,8]
 have hq3:=hNs
 refine seq ?_
 refine ew 16 [1,1,1,1,1,1,1,1,1,1,1,1,1,0,2] (ChT N 126) (ChT.rel _ _) (fun w=>True) (fun w w1 k h=>trivial) Mix.mix hf (by decide +kernel) (by decide +kernel) ?_
 refine jf (fun w1 h1=>ldD T38 (isR rfl)) ?_
 refine jf (fun w1 h1=>ct (isR rfl)) ?_
 refine jf (fun w1 h1=>am bP rfl bG (by decide) (Fld.snd Fld.refl rfl) (isR rfl)) ?_
 refine jf (fun w1 h1=>ldD bG (isR rfl)) ?_
 refine jf (fun w1 h1=>am U26 rfl T3 (by decide) (Fld.snd (Fld.fst Fld.refl) rfl) (isR rfl)) ?_
 refine jf (fun w1 h1=>ldI T3 (isR rfl)) ?_
 refine jf (fun w1 h1=>am U26 rfl T3 (by decide) (Fld.snd (Fld.snd (Fld.fst Fld.refl) rfl) rfl) (isR rfl)) ?_
 refine jf (fun w1 h1=>ldI T3 (isR rfl)) ?_
 refine jf (fun w1 h1=>ax (A:=E (enV (Gr.ends d.2.1 d.2.2.1))) gk rfl rfl (fun v u w he h h'=>by cases h;cases h';exact gB d.2.1 d.2.2.1 w)) ?_
 refine jf (fun w1 h1=>jO (V:=eKV) (i:=Gr.ends d.2.1 d.2.2.1) (z:=(0,0)) dc (eG cF) th0 (isR rfl) rfl (jS hw hw2)) ?_
 refine jf (fun w1 h1=>mv rfl) ?_
 refine jf (fun w1 h1=>aZ rfl rfl) ?_
 refine jf (fun w1 h1=>aZ rfl rfl) ?_
 refine ja (alD cF) ?_
 refine jk (alD I4) ?_
 refine jx (xst eV rfl hNs rfl rfl (fun v w hv=>by obtain⟨c,rfl,_⟩:=hv;exact⟨_,rfl,rfl,aX rfl rfl⟩)) ?_
 refine je ?_
 refine fun a w hc HF hf=>?_
 try dsimp only[push] at hf
 obtain⟨_,⟨b10,hb10,rfl,B10⟩,hf⟩:=hf.fix 10 rfl
 have n610:b6≠b10:=by have:=B6.lt;omega
 have n810:b8≠b10:=by have:=B8.lt;omega
 replace e:=e.ch hc.chg (fun b hb=>by omega);replace hNs:=Nat.le_trans hNs hc.chg.size;replace B6:=B6.chT hc (by decide);replace B8:=B8.chT hc (by decide);clear hc
 haveI:InR (fun b=>N≤b) (some b10):=⟨fun b hb=>by cases hb;omega⟩
 replace hf:=hf.kp [2,3,4,6,8,10,45]
 refine aP T4 hf rfl rfl rfl B10 (by decide) fun w hg hsz B10 hf=>?_
 replace e:=e.gr hg (by omega);replace hNs:=Nat.le_trans hNs hg.size;replace B6:=B6.gr hg n610;replace B8:=B8.gr hg n810;clear hg
 refine aa ?_
 replace B10:Blk w b10 #[.bool (inE g.2 d.2.1 d.2.2.1)] 4:=B10
 replace hf:=hf.kp [2,3,4,6,8,10]
 obtain⟨p2,hp2,hf⟩:=hf.fix 2 rfl
 obtain⟨p3,hp3,hf⟩:=hf.fix 3 rfl
 repeat refine seq ?_
 refine ac 19 hf (by decide +kernel) ?_
 refine st (er rfl) ?_
 refine st (bh [(0,_),(1,_)] rfl (bTs _ _ _)) ?_
 refine st (er rfl) ?_
 refine st (bh [(0,_),(1,_)] rfl (bTs _ _ _)) ?_
 refine st (er rfl) ?_
 refine st (bh [(0,_),(1,_)] rfl (bTs _ _ _)) ?_
 refine st (eZ rfl rfl) ?_
 refine st (bh [(0,_),(1,_)] rfl (bTs _ _ _)) ?_
 refine st (uL rfl rfl rfl) ?_
 refine st (bh [(0,_),(1,_)] rfl (bTs _ _ _)) ?_
 refine st (eZ rfl rfl) ?_
 refine st (bh [(0,_),(1,_)] rfl (bTs _ _ _)) ?_
 refine st (eZ rfl rfl) ?_
 refine st (bh [(0,_),(1,_)] rfl (bTs _ _ _)) ?_
 refine st (eZ rfl rfl) ?_
 refine st (bh [(0,_),(1,_)] rfl (bTs _ _ _)) ?_
 refine st (jL (e:=tsE Tryz.prog) (G:=G0) (zs:=tests g d) (xs:=[.tmp 47,.tmp 49,.tmp 51,.tmp 53,.tmp 55,.tmp 57,.tmp 59,.tmp 61]) jh lx rfl rfl (by decide) (by decide) rfl (fun b hb=>hb.elim)  ⟨isE rfl (Dv.ts' rI (fun w' k=>uZ d w' p3 (Dv.hp hp3 k))),isE rfl (Dv.ts' rJ (fun w' k=>va d w' p3 (Dv.hp hp3 k))),isE rfl (Dv.ts' rM (fun w' k=>vb d w' p3 (Dv.hp hp3 k))), isE rfl (Dv.ts' rN (fun w' k=>vd d w' p3 _ _ (Dv.hp hp3 k) (Dv.hp B6.bo k))),isE rfl (Dv.ts' rO (fun w' k=>ve d w' p3 _ _ _ _ (Dv.hp hp3 k) (Dv.hp B6.bo k) (Dv.hp B8.bo k))),isE rfl (Dv.ts' rP (fun w' k=>vf d w' p3 _ _ (Dv.hp hp3 k) (Dv.hp B10.bo k))), isE rfl (Dv.ts' rQ (fun w' k=>vg d w' p3 _ _ (Dv.hp hp3 k) (Dv.hp B10.bo k))),isE rfl (Dv.ts' rR (fun w' k=>vh g d M w' p3 p2 (Dv.hp hp3 k) (Dv.hp hp2 k))),trivial⟩) ?_
 refine st (ay jh (isR rfl)) ?_
 refine st (mv rfl) ?_
 refine en fun a w e' hf=>?_
 replace e:=e.tr e'
 refine aa ?_
 obtain⟨W4,hW4⟩:∃W4,W4=w:=⟨_,rfl⟩
 have hNW4:W.heap.size≤W4.heap.size:=by rw[hW4];exact e.size
 replace hf:=hf.upd 62 rfl (fun v hv=>Dv.weak (G':=GB W4 G0) hv (fun b hb hn=>hn.elim id fun hn=>absurd hb (by rw[← hW4];omega)))
 have hNs4:W4.heap.size≤w.heap.size:=by rw[hW4];exact Nat.le_refl _
 replace hf:=hf.upd (B:=E (I (8:Nat))) 63 rfl (fun v hv=>hv)
 clear hW4 hNs hq1 hq2 hq3
 replace hf:=hf.kp [4,62,63,64]
 refine blk (aG (fun r0 a w=>∃(k:Nat) ,r0=8 - k∧k≤8∧Fr 74 a w [(4,E (I 0)),(62,Dv (slE (tsE Tryz.prog)) (GB W4 G0) (tests g d)),(63,E (I (8:Nat))),(64,E (I k))]∧Ext W w∧W4.heap.size≤w.heap.size∧(∀y∈(tests g d).take k,y.1=false)) 8 ⟨0,rfl,by omega,hf,e,⟨hNs4,by simp⟩⟩ ?_)
 clear hf e;try clear hNs4;try clear hn
 rintro r0 a w ⟨k,rfl,hk,hf,e,hNs4,hn⟩
 refine seq ?_
 refine ac 1 hf (by decide +kernel) ?_
 refine st (lss rfl rfl) ?_
 refine en fun a w e' hf=>?_
 replace hNs4:=Nat.le_trans hNs4 e'.size
 replace e:=e.tr e'
 refine aa ?_
 refine seq ?_
 refine ifc hf rfl (fun hc=>ak ?_) (fun hc=>aF ?_)
 rotate_left
 rotate_left
 ·have hlt:k<8:=by have:=of_decide_eq_true hc;(try dsimp only at this);omega
  clear hc
  replace hf:=hf.kp [4,62,63,64]
  refine seq ?_
  refine blk ?_
  have hg:=List.getElem?_eq_getElem (show k<(tests g d).length from hlt)
  generalize (tests g d)[k]'hlt=x at hg
  refine seq ?_
  refine ah ?_
  refine ar hf (by decide) (az jh qB (isR rfl) rfl (by omega) (hg)) fun a w e' hf=>?_
  replace hNs4:=Nat.le_trans hNs4 e'.size
  replace e:=e.tr e'
  clear e'
  refine ar hf (by decide) (ldD lw (isR rfl)) fun a w e' hf=>?_
  replace hNs4:=Nat.le_trans hNs4 e'.size
  replace e:=e.tr e'
  clear e'
  obtain⟨v67,h67,hf⟩:=hf.fix 67 rfl
  obtain⟨id0,caps,rfl,hEn,hCa⟩:=Dv.ts h67
  replace hf:=hf.kp [4,62,63,64,67]
  haveI hiW:∀b,W4.heap.size≤b→∀G0,InR (GB W4 G0) (some b):=fun b hb G0=>InR.gb hb
  have e2:=Ext.rfl' w
  refine aJ lx hf (by decide) fun a b12 w e' hb12 hs12 B12 hf=>?_
  have hle12:=Nat.le_trans e.size (Nat.le_of_eq hb12.symm)
  have lo12_hNs4:=Nat.le_trans hNs4 (Nat.le_of_eq hb12.symm)
  replace hNs4:=Nat.le_trans hNs4 e'.size
  replace e2:=Ext.tr e2 e'
  replace e:=e.tr e'
  clear e'
  haveI hib:=hiW b12 (by omega)
  refine aD lw hf rfl rfl (aX rfl rfl) B12 rfl rfl fun w hg' hsz B12 hf=>?_
  replace e2:=e2.gr hg' (by omega)
  have hCa':∀w',Ext w w'→Calls Tryz.prog id0 caps w' (Post (E (.bool x.1)) w'):=fun w' he=>hCa w' (Ext.tr e2 he)
  clear e2
  replace e:=e.gr hg' (by omega);replace hNs4:=Nat.le_trans hNs4 hg'.size;clear hg'
  refine aa ?_
  replace hf:=hf.kp [4,12,62,63,64]
  refine seq ?_
  refine ac 3 hf (by decide +kernel) ?_
  refine st (ai mb rfl T32 (by decide) rfl) ?_
  refine st ((ld1 T32 rfl (by assumption) rfl).eq ((rfl:_=Value.func (.func id0) #[] caps))) ?_
  refine st (uM hEn rfl (fun w he=>hCa' w he)) ?_
  refine en fun a w e' hf=>?_
  replace hNs4:=Nat.le_trans hNs4 e'.size
  replace e:=e.tr e'
  replace B12:=B12.ext e'
  refine aa ?_
  refine ifc hf rfl (fun hb=>?_) (fun hb=>?_)
  ·refine seq ?_
   refine ac 2 hf (by decide +kernel) ?_
   refine st (ai mb rfl T40 (by decide) rfl) ?_
   refine st (ld1 T40 rfl (by assumption) rfl) ?_
   refine en fun a w e' hf=>?_
   replace hNs4:=Nat.le_trans hNs4 e'.size
   replace e:=e.tr e'
   replace B12:=B12.ext e'
   refine ae hf rfl (by decide) fun a hf=>?_
   refine aa ?_
   refine aj ?_
   simp only[Exit.then,Exit.inBlock]
   refine al rfl hf rfl ?_
   rintro _ rfl
   exact⟨_,rfl,e,(congrArg I (by rw[aN];exact (vo hn hg hb).symm))⟩
  ·refine ak ?_
   simp only[Exit.then,Exit.inBlock,↓reduceIte]
   refine ac 1 hf (by decide +kernel) ?_
   refine st ((add rfl rfl (by omega)).eq (congrArg (Value.int .i64) (show (k:Int)+1=((k+1:Nat):Int) from rfl))) ?_
   refine en fun a w e' hf=>?_
   replace hNs4:=Nat.le_trans hNs4 e'.size
   replace e:=e.tr e'
   replace B12:=B12.ext e'
   clear e'
   refine ar hf (by decide) (mv rfl) fun a w e' hf=>?_
   replace hNs4:=Nat.le_trans hNs4 e'.size
   replace e:=e.tr e'
   replace B12:=B12.ext e'
   refine aa ?_
   replace hf:=hf.kp [4,62,63,64]
   refine⟨_,?_,k+1,rfl,by omega,hf,e,?_⟩
   ·omega
   exact⟨hNs4,fO (p:=fun y:Bool×Int=>y.1) hn hg hb⟩
 ·obtain rfl:k=8:=by have:=of_decide_eq_false hc;(try dsimp only at this);omega
  clear hc
  simp only[Exit.then,Exit.inBlock,↓reduceIte]
  refine seq ?_
  refine ah ?_
  refine ae hf rfl (by decide) fun a hf=>?_
  refine aa ?_
  refine aj ?_
  refine al rfl hf rfl ?_
  rintro _ rfl
  exact⟨_,rfl,e,(congrArg I (by rw[aN,vp (show ∀y∈(tests g d).take (tests g d).length,y.1=false from hn)]))⟩
structure GrR (w:World)(bg bv be n:Nat)(g:GT):Prop where
 blk:Blk w bg #[.map (some bv),.map (some be)] 129
 vs:MpR vKV w bv n g.1
 es:MpR eKV w be n g.2
 ne:bv≠be
theorem MpR.neB {P:Program}{α β:Type}[DecidableEq α]{V:KV P α β}{w:World}{b c n:Nat}{l:List (α×β)}{cs:Array Value}{t:TypeId}(h:MpR V w b n l)(k:Blk w c cs t):b≠c:=by
 rintro rfl
 obtain⟨D,⟨es,clock,hb,_⟩,_⟩:=h
 rw[k] at hb;cases hb
section
variable {w w':World}{bg bv be n:Nat}{g:GT}
theorem GrR.n1 (h:GrR w bg bv be n g):bv≠bg∧be≠bg:=⟨h.vs.neB h.blk,h.es.neB h.blk⟩
theorem GrR.ext (h:GrR w bg bv be n g)(e:Ext w w'):GrR w' bg bv be n g:=⟨h.blk.ext e,h.vs.ext e,h.es.ext e,h.ne⟩
instance:Ug w w' (GrR w bg bv be n g) (GrR w' bg bv be n g):=⟨fun e h=>h.ext e⟩
theorem GrR.perm (h:GrR w bg bv be n g){g':GT}(h1:g.1.Perm g'.1)(h2:g.2.Perm g'.2):GrR w bg bv be n g':=⟨h.blk,h.vs.perm h1,h.es.perm h2,h.ne⟩
theorem GrR.mono (h:GrR w bg bv be n g){m:Nat}(hm:n≤m):GrR w bg bv be m g:=⟨h.blk,h.vs.mono hm,h.es.mono hm,h.ne⟩
theorem GrR.ch (h:GrR w bg bv be n g){S:Nat→Prop}(c:Chg S w w')(h1:¬S bg)(h2:¬S bv)(h3:¬S be):GrR w' bg bv be n g:=⟨h.blk.ch c h1,h.vs.pres (c.block _ h.vs.lt h2),h.es.pres (c.block _ h.es.lt h3),h.ne⟩
theorem GrR.dv (h:GrR w bg bv be n g){N:Nat}(hN:n≤N){G:Nat→Prop}(h1:¬G bg)(h2:¬G bv)(h3:¬G be):(Dv (ptE (grE N)) G (some g)).p (.pointer (some ⟨bg,0,none⟩)) w:=
 Dv.pt.2 ⟨_,rfl,h1,h.blk.lt,_,⟨_,_,rfl,⟨bv,n,rfl,h2,hN,h.vs⟩,⟨be,n,rfl,h3,hN,h.es⟩⟩,fun i u hu=>by
  have:(Addr.mk bg 0 none).add i=⟨bg,i,none⟩:=by simp[Addr.add];intro h;exact h.symm
  rw[this,h.blk.cell];simpa using hu⟩
end
theorem bGr (p q:Option Nat):Tryz.prog.built 129 [(0,.map p),(1,.map q)]=some #[.map p,.map q]:=by kernel_rfl
theorem bTh (c:Int×Int):Tryz.prog.built 126 [(0,.int .u8 c.1),(1,.int .i64 c.2)]=some #[.int .u8 c.1,.int .i64 c.2]:=by kernel_rfl
theorem vr (W:World):Calls Tryz.prog 65 #[] W fun en w'=>∃bg bv be,en=.returned (.pointer (some ⟨bg,0,none⟩))∧Ext W w'∧W.heap.size≤bg∧W.heap.size≤bv∧W.heap.size≤be∧GrR w' bg bv be 0 ([],[]):=by
 refine enter (args:=[]) (As:=([]:List VA)) Tryz.func65 rfl Tryz.ntmps65 (Nat.le_of_ble_eq_true rfl) ?_ (fun a hf=>?_) (Nat.le_of_ble_eq_true rfl)
 ·intro i A h;simp at h
 dsimp only[params,Nat.reduceAdd] at hf
 have e:=Ext.rfl' W
 refine seq ?_
 refine ah ?_
 refine ae hf rfl (by decide) fun a hf=>?_
 refine aa ?_
 refine seq ?_
 refine ac 0 hf (by decide +kernel) ?_
 refine en fun a w e' hf=>?_
 replace e:=e.tr e';clear e'
 refine nW vKV hf (by decide) fun a b1 w e' hb1 hs1 M1 hf=>?_
 have hle1:=Nat.le_trans e.size (Nat.le_of_eq hb1.symm)
 replace e:=e.tr e';clear e'
 refine nW eKV hf (by decide) fun a b2 w e' hb2 hs2 M2 hf=>?_
 have hle2:=Nat.le_trans e.size (Nat.le_of_eq hb2.symm)
 replace e:=e.tr e';replace M1:=M1.ext e';clear e'
 refine ar hf (by decide) (bh [(0,_),(1,_)] rfl (bGr (some b1) (some b2))) fun a w e' hf=>?_
 replace e:=e.tr e';replace M1:=M1.ext e';replace M2:=M2.ext e';clear e'
 refine aH hf rfl (by decide) fun a b4 w v4 hv4 e' hb4 hs4 B4 hf=>?_
 cases hv4
 have hle4:=Nat.le_trans e.size (Nat.le_of_eq hb4.symm)
 replace e:=e.tr e';replace M1:=M1.ext e';replace M2:=M2.ext e';clear e'
 refine ae hf rfl (by decide) fun a hf=>?_
 refine aa ?_
 refine aj ?_
 refine al rfl hf rfl ?_
 rintro _ rfl
 exact⟨b4,b1,b2,rfl,e,hle4,hle1,hle2,B4,M1,M2,by omega⟩
theorem oh (g:GT)(d:DT)(bg bv be n:Nat)(W:World)(hg:GrR W bg bv be n g)(hn:n<maxLen)(h1:vKV.ok d.2.1)(h2:okT d.2.2.2) :
  Calls Tryz.prog 114 #[.pointer (some ⟨bg,0,none⟩),dtV d] W fun en w'=>en=.returned (.tuple #[])∧Chg (fun b=>b=bv∨b=be) W w'∧GrR w' bg bv be (n+1) (bw g.1 d.2.1 d.2.2.2,g.2):=by
 refine enter (args:=[.pointer (some ⟨bg,0,none⟩),dtV d]) (As:=[E (.pointer (some ⟨bg,0,none⟩)),E (dtV d)]) Tryz.func114 rfl Tryz.ntmps114 (Nat.le_of_ble_eq_true rfl) ?_ (fun a hf=>?_) (Nat.le_of_ble_eq_true rfl)
 rotate_left
 dsimp only[params,Nat.reduceAdd] at hf
 rotate_right
 ·exact arg2 rfl rfl
 have e:=Ext.rfl' W
 have BG:=hg.blk;have MV:=hg.vs;have ME:=hg.es
 refine seq ?_
 refine ah ?_
 refine aH hf rfl (by decide) fun a b3 w v3 hv3 e' hb3 hs3 B3 hf=>?_
 have hle3:=Nat.le_trans e.size (Nat.le_of_eq hb3.symm)
 have lt3_BG:=BG.lt
 replace e:=e.tr e'
 replace BG:=BG.ext e'
 replace MV:=MV.ext e'
 replace ME:=ME.ext e'
 refine aa ?_
 cases hv3
 refine reg 11 Mix.mix hf (by decide +kernel) ?_
 refine st (mv rfl) ?_
 refine st (aU rfl) ?_
 refine st (ai bP rfl bO (by decide) rfl) ?_
 refine st (ld1 bO rfl BG rfl) ?_
 refine st (ai U26 rfl T3 (by decide) rfl) ?_
 refine st (ld1 T3 rfl B3 rfl) ?_
 refine st (ai U26 rfl T5 (by decide) rfl) ?_
 refine st (ld1 T5 rfl B3 rfl) ?_
 refine st (ai U26 rfl T3 (by decide) rfl) ?_
 refine st (ld1 T3 rfl B3 rfl) ?_
 refine st (bh [(0,_),(1,_)] rfl (bTh d.2.2.2)) ?_
 refine en fun a w e' hf=>?_
 replace e:=e.tr e'
 replace BG:=BG.ext e'
 replace MV:=MV.ext e'
 replace ME:=ME.ext e'
 replace B3:=B3.ext e'
 clear e'
 replace hf:=hf.kp [7,9,14]
 refine fP (V:=vKV) (i:=d.2.1) (c:=d.2.2.2) eC hf rfl rfl rfl MV hn h1 h2 fun w hg' MV hf=>?_
 refine aa ?_
 refine cE rfl hf ?_
 exact⟨rfl,(e.chg _).gr hg' (.inl (.inl rfl)),BG.gr hg' hg.n1.1.symm,MV,(ME.gr hg' (fun h=>hg.ne (by cases h;rfl))).mono (Nat.le_succ _),hg.ne⟩
theorem oi (g:GT)(d:DT)(bg bv be n:Nat)(W:World)(hg:GrR W bg bv be n g)(hn:n<maxLen)(h1:eKV.ok (Gr.ends d.2.1 d.2.2.1))(h2:okT d.2.2.2) :
  Calls Tryz.prog 116 #[.pointer (some ⟨bg,0,none⟩),dtV d] W fun en w'=>en=.returned (.tuple #[])∧Chg (fun b=>b=bv∨b=be) W w'∧GrR w' bg bv be (n+1) (g.1,bw g.2 (Gr.ends d.2.1 d.2.2.1) d.2.2.2):=by
 refine enter (args:=[.pointer (some ⟨bg,0,none⟩),dtV d]) (As:=[E (.pointer (some ⟨bg,0,none⟩)),E (dtV d)]) Tryz.func116 rfl Tryz.ntmps116 (Nat.le_of_ble_eq_true rfl) ?_ (fun a hf=>?_) (Nat.le_of_ble_eq_true rfl)
 rotate_left
 dsimp only[params,Nat.reduceAdd] at hf
 rotate_right
 ·exact arg2 rfl rfl
 have e:=Ext.rfl' W
 have BG:=hg.blk;have MV:=hg.vs;have ME:=hg.es
 refine seq ?_
 refine ah ?_
 refine aH hf rfl (by decide) fun a b3 w v3 hv3 e' hb3 hs3 B3 hf=>?_
 have hle3:=Nat.le_trans e.size (Nat.le_of_eq hb3.symm)
 have lt3_BG:=BG.lt
 replace e:=e.tr e'
 replace BG:=BG.ext e'
 replace MV:=MV.ext e'
 replace ME:=ME.ext e'
 refine aa ?_
 cases hv3
 refine reg 14 Mix.mix hf (by decide +kernel) ?_
 refine st (mv rfl) ?_
 refine st (aU rfl) ?_
 refine st (ai bP rfl bG (by decide) rfl) ?_
 refine st (ld1 bG rfl BG rfl) ?_
 refine st (ai U26 rfl T3 (by decide) rfl) ?_
 refine st (ld1 T3 rfl B3 rfl) ?_
 refine st (ai U26 rfl T3 (by decide) rfl) ?_
 refine st (ld1 T3 rfl B3 rfl) ?_
 refine st (ax (A:=E (enV (Gr.ends d.2.1 d.2.2.1))) gk rfl rfl (fun v u w he h h'=>by cases h;cases h';exact gB d.2.1 d.2.2.1 w)) ?_
 refine st (ai U26 rfl T5 (by decide) rfl) ?_
 refine st (ld1 T5 rfl B3 rfl) ?_
 refine st (ai U26 rfl T3 (by decide) rfl) ?_
 refine st (ld1 T3 rfl B3 rfl) ?_
 refine st (bh [(0,_),(1,_)] rfl (bTh d.2.2.2)) ?_
 refine en fun a w e' hf=>?_
 replace e:=e.tr e'
 replace BG:=BG.ext e'
 replace MV:=MV.ext e'
 replace ME:=ME.ext e'
 replace B3:=B3.ext e'
 clear e'
 replace hf:=hf.kp [7,12,17]
 refine fP (V:=eKV) (i:=Gr.ends d.2.1 d.2.2.1) (c:=d.2.2.2) dc hf rfl rfl rfl ME hn h1 h2 fun w hg' ME hf=>?_
 refine aa ?_
 refine cE rfl hf ?_
 exact⟨rfl,(e.chg _).gr hg' (.inl (.inr rfl)),BG.gr hg' hg.n1.2.symm,(MV.gr hg' (fun h=>hg.ne (by cases h;rfl))).mono (Nat.le_succ _),ME,hg.ne⟩
def fj:Array Value := #[.func (.func 114) #[] #[],.func (.func 115) #[] #[],.func (.func 116) #[] #[],.func (.func 117) #[] #[],.func (.func 118) #[] #[],.func (.func 119) #[] #[],.func (.func 120) #[] #[],.func (.func 121) #[] #[]]
theorem vu:fj.all (·.oneCell')=true:=by decide +kernel
theorem bDe:Tryz.prog.built 134 [(0,.func (.func 114) #[] #[]),(1,.func (.func 115) #[] #[]),(2,.func (.func 116) #[] #[]),(3,.func (.func 117) #[] #[]),(4,.func (.func 118) #[] #[]),(5,.func (.func 119) #[] #[]),(6,.func (.func 120) #[] #[]),(7,.func (.func 121) #[] #[])]=some fj:=by kernel_rfl
theorem jT (W:World):Calls Tryz.prog 75 #[] W (Post (E (.agg fj)) W):=by
 refine enter (args:=[]) (As:=([]:List VA)) Tryz.func75 rfl Tryz.ntmps75 (Nat.le_of_ble_eq_true rfl) ?_ (fun a hf=>?_) (Nat.le_of_ble_eq_true rfl)
 ·intro i A h;simp at h
 dsimp only[params,Nat.reduceAdd] at hf
 have e:=Ext.rfl' W
 refine seq ?_
 refine ah ?_
 refine aJ qz hf (by decide) fun a b0 w e' hb0 hs0 B0 hf=>?_
 have hle0:=Nat.le_trans e.size (Nat.le_of_eq hb0.symm)
 replace e:=e.tr e'
 refine aa ?_
 refine seq ?_
 refine ac 1 hf (by decide +kernel) ?_
 refine st (bh [(0,_),(1,_),(2,_),(3,_),(4,_),(5,_),(6,_),(7,_)] rfl bDe) ?_
 refine en fun a w e' hf=>?_
 replace e:=e.tr e'
 replace B0:=B0.ext e'
 clear e'
 haveI hinr:∀G0,InR (GB W G0) (some b0):=fun G0=>InR.gb (by omega)
 refine aD lu hf rfl rfl (vu) B0 rfl (rfl) fun w hg hsz B0 hf=>?_
 replace e:=e.gr hg (by omega)
 clear hg
 refine aa ?_
 refine aj (cR rfl lu hf rfl B0 rfl ?_)
 exact⟨_,rfl,e,rfl⟩
end Go.Mono
namespace Go.Mono
open Go Go.RowKit Go.Gr
section
variable {P:Program}{α β:Type}[DecidableEq α]{V:KV P α β}{w w':World}{b r n:Nat}{old rest:List (α×β)}
def RgR (V:KV P α β)(w:World)(b r n:Nat)(old rest:List (α×β)):Prop:=
 ∃es left cnt,w.ranges P V.k V.R b r n (.map es) left cnt∧es.Perm ((old++rest).map V.enc)∧(∀p∈old++rest,V.ok p.1∧V.okv p.2)∧(old++rest).Pairwise (fun p q=>p.1≠q.1) ∧
  (∀x,V.ok x→left (V.kl x)=rest.any fun p=>decide (p.1=x))
theorem RgR.map (h:RgR V w b r n old rest):MpR V w b n (old++rest):=by
 obtain⟨es,left,cnt,h1,h2,h3,h4,_⟩:=h
 exact⟨es,h1.owns,h2,h3,h4⟩
theorem RgR.lt (h:RgR V w b r n old rest):b<w.heap.size∧r<w.heap.size∧r≠b:=by
 obtain⟨es,left,cnt,h1,_⟩:=h
 exact⟨h1.owns.lt,h1.lt,h1.ne⟩
theorem RgR.gr (h:RgR V w b r n old rest){row:Option Nat}(hg:w.grownBy w' row)(h1:some b≠row)(h2:some r≠row):RgR V w' b r n old rest:=by
 obtain⟨es,left,cnt,k1,k2⟩:=h
 exact⟨es,left,cnt,k1.kept hg h1 h2,k2⟩
theorem RgR.ext (h:RgR V w b r n old rest)(e:Ext w w'):RgR V w' b r n old rest:=h.gr e.gr0 (by simp) (by simp)
instance:Ug w w' (RgR V w b r n old rest) (RgR V w' b r n old rest):=⟨fun e h=>h.ext e⟩
theorem MpR.range {t:TypeId}{l:List (α×β)}(h:MpR V w b n l)(ht:P.underlying t=some (.map V.k V.e)) :
  ∃w',(Instr.range t (.map (some b))).run P w=.ok (.pointer (some ⟨w.heap.size,0,none⟩)) w'∧RgR V w' b w.heap.size n [] l∧Ext w w'∧w'.heap.size=w.heap.size+1:=by
 obtain⟨es,h1,h2,h3,h4⟩:=h
 obtain⟨w',k1,k2,k3,k4⟩:=h1.range V.K ht
 refine⟨w',k1,⟨es,_,_,k2,h2,h3,h4,fun x hx=>?_⟩,⟨k3.os,k3.tape,k3.output,k3.size,fun b hb=>k3.block b hb (by simp)⟩,k4⟩
 obtain⟨D,h5,h6,_⟩:=MpR.has (V:=V) ⟨es,h1,h2,h3,h4⟩ hx
 show es.any (fun p=>p.1.sameKey (V.kl x))=_
 rw[h2.any_eq,List.any_map,Bool.eq_iff_iff]
 simp only[List.any_eq_true,Function.comp,KV.enc]
 exact⟨fun⟨p,hp,hq⟩=>⟨p,hp,by rwa [V.same hx (h3 p hp).1] at hq⟩,fun⟨p,hp,hq⟩=>⟨p,hp,by rwa [V.same hx (h3 p hp).1]⟩⟩
theorem oj {γ δ:Type}:∀{m:List (γ×δ)},m.Pairwise (fun p q=>p.1≠q.1)→∀{x:γ} {c c':δ},(x,c)∈m→(x,c')∈m→c=c'
 | [],_,_,_,_,h,_=>by simp at h
 | y::r,hm,x,c,c',h,h'=>by
  obtain⟨h6,h7⟩:=List.pairwise_cons.1 hm
  rcases List.mem_cons.1 h with hy|h1 <;> rcases List.mem_cons.1 h' with hy'|h2
  ·rw[← hy] at hy';exact (congrArg Prod.snd hy').symm
  ·exact absurd rfl (by have:=h6 _ h2;rwa [← hy] at this)
  ·exact absurd rfl (by have:=h6 _ h1;rwa [← hy'] at this)
  ·exact oj h7 h1 h2
theorem eM:∀{m:List (α×β)},m.Pairwise (fun p q=>p.1≠q.1)→∀{x:α} {c:β},(x,c)∈m→m.Perm ((x,c)::m.filter fun p => !decide (p.1=x))
 | [],_,_,_,h=>by simp at h
 | y::r,hm,x,c,h=>by
  obtain⟨h6,h7⟩:=List.pairwise_cons.1 hm
  rcases List.mem_cons.1 h with hy|h1
  ·subst hy
   rw[List.filter_cons_of_neg (by simp)]
   have:r.filter (fun p => !decide (p.1=x))=r:=List.filter_eq_self.2 fun p hp=>by have:=h6 p hp;simp only[Bool.not_eq_true',decide_eq_false_iff_not];exact fun h=>this h.symm
   rw[this]
  ·have hne:y.1≠x:=fun he=>h6 _ h1 he
   rw[List.filter_cons_of_pos (by simpa using hne)]
   exact ((eM h7 h1).cons y).trans (List.Perm.swap _ _ _)
theorem RgR.next (h:RgR V w b r n old rest)(ty:TypeId) :
  (rest=[]∧(Instr.next (.pointer (some ⟨r,0,none⟩)) false ty).run P w=.ok (.tuple #[.bool false]) w) ∨
  ∃x c w',(x,c)∈rest∧(Instr.next (.pointer (some ⟨r,0,none⟩)) false ty).run P w=.ok (.tuple #[.bool true,V.kv x,V.mv c]) w'∧RgR V w' b r n (old++[(x,c)]) (rest.filter fun p => !decide (p.1=x))∧w.grownBy w' (some r) ∧
   (Instr.entry (.pointer (some ⟨r,0,none⟩))).run P w'=.ok (.tuple #[V.kv x,V.mv c]) w':=by
 obtain⟨es,left,cnt,h1,h2,h3,h4,h5⟩:=h
 have hMp:MpR V w b n (old++rest):=⟨es,h1.owns,h2,h3,h4⟩
 rcases h1.next V.K ty with ⟨h0,hl,hrun⟩|⟨key,v,kl,y,w',cnt',hkey,hlk,hv,hat,hrun,hrg,_,hgr,_,hen⟩
 ·refine .inl ⟨?_,hrun⟩
  cases rest with
  | nil=>rfl
  | cons p s=>
   have:=h5 p.1 (h3 p (by simp)).1
   rw[hl] at this
   simp at this
 ·obtain⟨x,hx,rfl,rfl⟩:=V.keyInv _ _ hkey
  obtain⟨c,hc,rfl,rfl⟩:=V.valInv _ _ hv
  rw[h5 x hx,List.any_eq_true] at hlk
  obtain⟨⟨x',c'⟩,hp,hpx⟩:=hlk
  obtain rfl:x'=x:=by simpa using hpx
  obtain⟨D,k1,k2,k3,_⟩:=hMp.has hx
  have hD:∀z,(DataW.map es).atKey (V.kl x') z=V.dv c':=by
   intro z
   have hm:V.enc (x',c')∈es:=h2.mem_iff.2 (List.mem_map_of_mem (by simp[hp]))
   obtain⟨es',hD',hpw,_⟩:=h1.owns.entries V.K
   cases hD'
   have hcm:(x',c')∈old++rest:=by simp[hp]
   simp only[DataW.atKey]
   cases hf:es.find? (fun p=>p.1.sameKey (V.kl x')) with
   | none=>
    have:=List.find?_eq_none.1 hf _ hm
    simp[KV.enc,WideAt.sameKey_self (V.isKey hx)] at this
   | some q=>
    have hq:=List.mem_of_find?_eq_some hf
    have hq2:=List.find?_some hf
    obtain⟨p,hp2,rfl⟩:=List.mem_map.1 (h2.mem_iff.1 hq)
    have hpx':p.1=x':=by rw[KV.enc,V.same hx (h3 p hp2).1] at hq2;simpa using hq2
    have:p=(x',p.2):=by rw[← hpx']
    rw[this] at hp2
    rw[this,oj h4 hp2 hcm];rfl
  have hcc:c=c':=V.dvInj _ _ ((hat .nil).symm.trans (hD .nil))
  subst hcc
  have hperm:=eM (List.pairwise_append.1 h4).2.1 hp
  have hp2:(old++rest).Perm (old++[(x',c)]++rest.filter fun p => !decide (p.1=x')):=by
   rw[List.append_assoc];exact (List.Perm.append_left old hperm)
  refine .inr ⟨x',c,w',hp,hrun,⟨es,_,_,hrg,h2.trans (hp2.map _),fun p hp=>h3 p (hp2.mem_iff.2 hp),(hp2.pairwise_iff (fun {_ _} hne=>Ne.symm hne)).1 h4,fun z hz=>?_⟩,hgr,hen⟩
  rw[h5 z hz,V.same hx hz,List.any_filter]
  by_cases hzx:z=x'
  ·subst hzx
   simp only[decide_true,Bool.not_true,Bool.and_false]
   symm
   rw[List.any_eq_false]
   intro p _
   simp
  ·simp only[hzx,decide_false,Bool.not_false,Bool.and_true]
   congr 1
   funext p
   by_cases hpz:p.1=z
   ·simp[hpz,hzx]
   ·simp[hpz]
end
section tail
variable {P:Program}{L:Env}{ty:TypeId}{pos:String}{aft:Array Edge}{ro:Option Nat}{ds:List Deferred}
variable {ops:Array Oper}{rest:List Oper}{Q:Exit→Act→World→Prop}{n:Nat}{a:Act}{w:World}{x y z:Operand}{α β:Type}[DecidableEq α]{V:KV P α β}{d:Nat}
theorem jU {t:TypeId}{b nn:Nat}{l:List (α×β)}(ht:P.underlying t=some (.map V.k V.e))(hf:FrD n ds a w L)(hd:d<n)(hx:opd L x=some (E (.map (some b))))(hM:MpR V w b nn l)
  (k:∀a' r w',Ext w w'→r=w.heap.size→w'.heap.size=r+1→RgR V w' b r nn [] l→FrD n ds a' w' ((d,E (.pointer (some ⟨r,0,none⟩)))::L)→wpListIn (FW ro) 0 P ops Q rest a' w') :
  wpListIn (FW ro) 0 P ops Q (⟨some d,.range t x,ty,pos,aft,none⟩::rest) a w:=
 wpListIn_plain rfl fun K hK=>by
  have hxv:a.eval x=.map (some b):=hf.opd x _ hx
  obtain⟨w',h1,h2,h3,h4⟩:=hM.range ht
  refine OpR.wp (R:=fun v w1=>v=.pointer (some ⟨w.heap.size,0,none⟩)∧w1=w') ?_ ?_
  ·simp only[OpR,execOp,hxv,Sem.run_bind,h1,Result.andThen_ok,Sem.run_pure]
   exact⟨trivial,trivial⟩
  ·rintro v w1 ⟨rfl,rfl⟩
   exact hK _ _ (k _ _ _ h3 rfl h4 h2 (hf.put (d:=some d) h3 (fun k hk=>by cases hk;exact hd) rfl))
theorem jV {b r nn:Nat}{old rem:List (α×β)}(hf:FrD n ds a w L)[hL:AvL r L](hd:d<n)(hx:opd L x=some (E (.pointer (some ⟨r,0,none⟩))))(hR:RgR V w b r nn old rem)
  (k0:∀a',rem=[]→FrD n ds a' w ((d,E (.tuple #[.bool false]))::L)→wpListIn (FW ro) 0 P ops Q rest a' w)
  (k1:∀a' w' i c,(i,c)∈rem→w.grownBy w' (some r)→RgR V w' b r nn (old++[(i,c)]) (rem.filter fun p => !decide (p.1=i))→(Instr.entry (.pointer (some ⟨r,0,none⟩))).run P w'=.ok (.tuple #[V.kv i,V.mv c]) w' →
   FrD n ds a' w' ((d,E (.tuple #[.bool true,V.kv i,V.mv c]))::L)→wpListIn (FW ro) 0 P ops Q rest a' w') :
  wpListIn (FW ro) 0 P ops Q (⟨some d,.next x false,ty,pos,aft,none⟩::rest) a w:=
 wpListIn_plain rfl fun K hK=>by
  have hxv:a.eval x=.pointer (some ⟨r,0,none⟩):=hf.opd x _ hx
  rcases hR.next ty with ⟨h0,hrun⟩|⟨i,c,w',hm,hrun,hR',hg,hen⟩
  ·refine OpR.wp (R:=fun v w1=>v=.tuple #[.bool false]∧w1=w) ?_ ?_
   ·simp only[OpR,execOp,hxv,Sem.run_bind,hrun,Result.andThen_ok,Sem.run_pure]
    exact⟨trivial,trivial⟩
   ·rintro v w1 ⟨rfl,rfl⟩
    exact hK _ _ (k0 _ h0 (hf.put (d:=some d) (Ext.rfl' _) (fun k hk=>by cases hk;exact hd) rfl))
  ·refine OpR.wp (R:=fun v w1=>v=.tuple #[.bool true,V.kv i,V.mv c]∧w1=w') ?_ ?_
   ·simp only[OpR,execOp,hxv,Sem.run_bind,hrun,Result.andThen_ok,Sem.run_pure]
    exact⟨trivial,trivial⟩
   ·rintro v w1 ⟨rfl,rfl⟩
    exact hK _ _ (k1 _ _ _ _ hm hg hR' hen ((hf.gr hg).put (d:=some d) (Ext.rfl' _) (fun k hk=>by cases hk;exact hd) rfl))
theorem jW {r:Nat}{u:Value}(hf:FrD n ds a w L)(hd:d<n)(hx:opd L x=some (E (.pointer (some ⟨r,0,none⟩))))(hen:(Instr.entry (.pointer (some ⟨r,0,none⟩))).run P w=.ok u w)
  (k:∀a',FrD n ds a' w ((d,E u)::L)→wpListIn (FW ro) 0 P ops Q rest a' w) :
  wpListIn (FW ro) 0 P ops Q (⟨some d,.entry x,ty,pos,aft,none⟩::rest) a w:=
 wpListIn_plain rfl fun K hK=>by
  have hxv:a.eval x=.pointer (some ⟨r,0,none⟩):=hf.opd x _ hx
  refine OpR.wp (R:=fun v w1=>v=u∧w1=w) ?_ ?_
  ·simp only[OpR,execOp,hxv,Sem.run_bind,hen,Result.andThen_ok,Sem.run_pure]
   exact⟨trivial,trivial⟩
  ·rintro v w1 ⟨rfl,rfl⟩
   exact hK _ _ (k _ (hf.put (d:=some d) (Ext.rfl' _) (fun k hk=>by cases hk;exact hd) rfl))
theorem cY {vs:Array Value}{i:Nat}{u:Value}(hf:FrD n ds a w L)(hd:d<n)(hx:opd L x=some (E (.tuple vs)))(hi:vs[i]?=some u)
  (k:∀a',FrD n ds a' w ((d,E u)::L)→wpListIn (FW ro) 0 P ops Q rest a' w) :
  wpListIn (FW ro) 0 P ops Q (⟨some d,.extract x i,ty,pos,aft,none⟩::rest) a w:=
 wpListIn_plain rfl fun K hK=>by
  have hxv:a.eval x=.tuple vs:=hf.opd x _ hx
  refine OpR.wp (R:=fun v w1=>v=u∧w1=w) ?_ ?_
  ·simp[OpR,execOp,hxv,Instr.extract,part,hi]
  ·rintro v w1 ⟨rfl,rfl⟩
   exact hK _ _ (k _ (hf.put (d:=some d) (Ext.rfl' _) (fun k hk=>by cases hk;exact hd) rfl))
end tail
section
variable {α β:Type}[DecidableEq α]
def bS (l:List (α×β))(k:α):List (α×β):=l.filter fun p => !decide (p.1=k)
variable {P:Program}{V:KV P α β}{w w':World}{b r n:Nat}{l old rest:List (α×β)}
theorem ol {x:α}{es:List (Lit×DataW Unit)}(hx:V.ok x)(h2:es.Perm (l.map V.enc))(h3:∀p∈l,V.ok p.1∧V.okv p.2):(es.filter fun p => !p.1.sameKey (V.kl x)).Perm ((bS l x).map V.enc):=by
 refine (h2.filter _).trans ?_
 rw[List.filter_map]
 rw[bS,List.filter_congr (q:=fun p:α×β => !decide (p.1=x)) fun p hp=>by simp only[Function.comp,KV.enc,V.same hx (h3 p hp).1]]
theorem MpR.del {t:TypeId}{x:α}(h:MpR V w b n l)(hx:V.ok x)(ht:P.underlying t=some (.map V.k V.e))(ty:TypeId) :
  ∃w',(Builtin.delete_ #[t,V.k] ty #[.map (some b),V.kv x]).run P w=.ok (.tuple #[]) w'∧MpR V w' b n (bS l x)∧w.grownBy w' (some b):=by
 obtain⟨es,h1,h2,h3,h4⟩:=h
 obtain⟨w',r1,r2,r3⟩:=h1.drop V.K ht (V.key x hx) ty
 exact⟨w',r1,⟨_,r2,ol hx h2 h3,fun p hp=>h3 p (List.mem_filter.1 hp).1,h4.filter _⟩,r3.grown⟩
theorem iq (old rest:List (α×β))(x:α):bS (old++rest) x=bS old x++bS rest x:=List.filter_append ..
theorem RgR.del {t:TypeId}{x:α}(h:RgR V w b r n old rest)(hx:V.ok x)(ht:P.underlying t=some (.map V.k V.e))(ty:TypeId) :
  ∃w',(Builtin.delete_ #[t,V.k] ty #[.map (some b),V.kv x]).run P w=.ok (.tuple #[]) w'∧RgR V w' b r n (bS old x) (bS rest x)∧w.grownBy w' (some b):=by
 obtain⟨es,left,cnt,h1,h2,h3,h4,h5⟩:=h
 obtain⟨w',cnt',r1,r2,_,r3⟩:=h1.drop V.K ht (V.key x hx) ty
 refine⟨w',r1,⟨_,_,cnt',r2,?_,?_,?_,fun z hz=>?_⟩,r3.grown⟩
 ·rw[← iq];exact ol hx h2 h3
 ·rw[← iq];exact fun p hp=>h3 p (List.mem_filter.1 hp).1
 ·rw[← iq];exact h4.filter _
 ·show (left (V.kl z) && !(V.kl z).sameKey (V.kl x))=_
  rw[h5 z hz,V.same hx hz,bS,List.any_filter]
  by_cases hzx:z=x
  ·subst hzx
   simp only[decide_true,Bool.not_true,Bool.and_false]
   symm
   rw[List.any_eq_false]
   intro p _
   simp
  ·simp only[hzx,decide_false,Bool.not_false,Bool.and_true]
   congr 1
   funext p
   by_cases hpz:p.1=z
   ·simp[hpz,hzx]
   ·simp[hpz]
end
section
variable {P:Program}{w0:World}{L:Env}{dst:Option Tmp}{ty:TypeId}{pos:String}{aft:Array Edge}{g:Option (Nat×Bool)}{x y:Operand}{t:TypeId}{α β:Type}[DecidableEq α]{l:List (α×β)}{b n:Nat}
theorem lkM {V:KV P α β}{i:α}{c z:β}(hz:∀w,(zeroValue V.e).run P w=.ok (V.mv z) w)(hz0:V.okv z)(ht:P.underlying t=some (.map V.k V.e))(hx:opd L x=some (E (.map (some b))))(hM:MpR V w0 b n l)(hy:opd L y=some (E (V.kv i)))(hi:V.ok i)(hc:(i,c)∈l) :
  OpC P w0 L ⟨dst,.lookup t x y false,ty,pos,aft,g⟩ (E (V.mv c)):=
 aI fun ρ w he' hv=>by
  have h5:=opE hv (x:=x) (by simp[Op.operands]) hx
  have h6:=opE hv (x:=y) (by simp[Op.operands]) hy
  have h2:=hM.ext he'
  obtain⟨D,m1,m2,m3,m4,_⟩:=h2.has (x:=i) hi
  obtain⟨v,ps,r1,r2⟩:=m1.lookup V.K ht (hz w) (V.val z hz0) (V.key i hi)
  obtain⟨c',_,rfl,hy2⟩:=V.valInv _ _ r2
  have h8:=congrArg Prod.fst hy2
  simp only at h8
  rw[m3 c hc] at h8
  rw[← V.dvInj _ _ h8] at r1
  have r1:(Instr.lookup t (.map (some b)) (V.kv i) false).run P w=.ok (V.mv c) w:=r1
  exact⟨_,by simp only[execOp,h5,h6,Sem.run_bind,r1,Result.andThen_ok,Sem.run_pure],rfl⟩
theorem ir {fs:Array Field}{f:Nat}{fl:Field}{cs:Array Value}{u:Value}(ht:P.underlying t=some (.struct fs))(hf:fs[f]?=some fl)(hs:TI P fl.type false 1)(hx:opd L x=some (E (.agg cs)))(hu:cs[fl.offset]?=some u) :
  OpC P w0 L ⟨dst,.field t x f,ty,pos,aft,g⟩ (E u):=
 aI fun ρ w he hv=>by
  have h2:=opE hv (x:=x) (by simp[Op.operands]) hx
  exact⟨u,by simp[execOp,h2,Instr.field,run_underlying ht,hf,asAgg,part,hs.agg,hu],rfl⟩
end
section tail
variable {P:Program}{L:Env}{ty:TypeId}{pos:String}{aft:Array Edge}{ro:Option Nat}{ds:List Deferred}
variable {ops:Array Oper}{rest:List Oper}{Q:Exit→Act→World→Prop}{n:Nat}{a:Act}{w:World}{x y z:Operand}{α β:Type}[DecidableEq α]
theorem om {V:KV P α β}{t:TypeId}{bm nn:Nat}{l:List (α×β)}{i:α}(ht:P.underlying t=some (.map V.k V.e))(hf:FrD n ds a w L)[hL:AvL bm L](hx:opd L x=some (E (.map (some bm))))
  (hy:opd L y=some (E (V.kv i))) (hM:MpR V w bm nn l) (hi:V.ok i)
  (kk:∀w',w.grownBy w' (some bm)→MpR V w' bm nn (bS l i)→FrD n ds a w' L→wpListIn (FW ro) 0 P ops Q rest a w') :
  wpListIn (FW ro) 0 P ops Q (⟨none,.call ⟨.builtin .delete,#[x,y],#[t,V.k]⟩,ty,pos,aft,none⟩::rest) a w:=
 wpListIn_plain rfl fun K hK=>by
  have hxv:a.eval x=.map (some bm):=hf.opd x _ hx
  have hyv:a.eval y=V.kv i:=hf.opd y _ hy
  obtain⟨w',h1,h2,h3⟩:=hM.del hi ht ty
  refine OpR.wp (R:=fun _ w1=>w1=w') ?_ ?_
  ·simp only[OpR,execOp,resolve,invoke,builtin,Sem.run_bind,Sem.run_pure,Result.andThen_ok,List.map_toArray,List.map_cons,List.map_nil,hxv,hyv,h1]
  ·rintro _ w1 rfl
   exact hK _ _ (kk _ h3 h2 (hf.gr h3))
theorem vv {V:KV P α β}{t:TypeId}{bm r nn:Nat}{old rem:List (α×β)}{i:α}(ht:P.underlying t=some (.map V.k V.e))(hf:FrD n ds a w L)[hL:AvL bm L](hx:opd L x=some (E (.map (some bm))))
  (hy:opd L y=some (E (V.kv i))) (hM:RgR V w bm r nn old rem) (hi:V.ok i)
  (kk:∀w',w.grownBy w' (some bm)→RgR V w' bm r nn (bS old i) (bS rem i)→FrD n ds a w' L→wpListIn (FW ro) 0 P ops Q rest a w') :
  wpListIn (FW ro) 0 P ops Q (⟨none,.call ⟨.builtin .delete,#[x,y],#[t,V.k]⟩,ty,pos,aft,none⟩::rest) a w:=
 wpListIn_plain rfl fun K hK=>by
  have hxv:a.eval x=.map (some bm):=hf.opd x _ hx
  have hyv:a.eval y=V.kv i:=hf.opd y _ hy
  obtain⟨w',h1,h2,h3⟩:=hM.del hi ht ty
  refine OpR.wp (R:=fun _ w1=>w1=w') ?_ ?_
  ·simp only[OpR,execOp,resolve,invoke,builtin,Sem.run_bind,Sem.run_pure,Result.andThen_ok,List.map_toArray,List.map_cons,List.map_nil,hxv,hyv,h1]
  ·rintro _ w1 rfl
   exact hK _ _ (kk _ h3 h2 (hf.gr h3))
end tail
end Go.Mono
namespace Go.Mono
open Go Go.Proofs Go.RowKit Go.Gr
theorem vw (g:GT)(d:DT)(bg bv be n:Nat)(W:World)(hg:GrR W bg bv be n g)(h1:eKV.ok (Gr.ends d.2.1 d.2.2.1)) :
  Calls Tryz.prog 117 #[.pointer (some ⟨bg,0,none⟩),dtV d] W fun en w'=>en=.returned (.tuple #[])∧Chg (fun b=>b=bv∨b=be) W w'∧GrR w' bg bv be n (g.1,bS g.2 (Gr.ends d.2.1 d.2.2.1)):=by
 refine enter (args:=[.pointer (some ⟨bg,0,none⟩),dtV d]) (As:=[E (.pointer (some ⟨bg,0,none⟩)),E (dtV d)]) Tryz.func117 rfl Tryz.ntmps117 (Nat.le_of_ble_eq_true rfl) ?_ (fun a hf=>?_) (Nat.le_of_ble_eq_true rfl)
 rotate_left
 dsimp only[params,Nat.reduceAdd] at hf
 rotate_right
 ·exact arg2 rfl rfl
 have e:=Ext.rfl' W
 have BG:=hg.blk;have MV:=hg.vs;have ME:=hg.es
 refine seq ?_
 refine ah ?_
 refine aH hf rfl (by decide) fun a b3 w v3 hv3 e' hb3 hs3 B3 hf=>?_
 have hle3:=Nat.le_trans e.size (Nat.le_of_eq hb3.symm)
 have lt3_BG:=BG.lt
 replace e:=e.tr e'
 replace BG:=BG.ext e'
 replace MV:=MV.ext e'
 replace ME:=ME.ext e'
 refine aa ?_
 cases hv3
 refine reg 9 Mix.mix hf (by decide +kernel) ?_
 refine st (mv rfl) ?_
 refine st (aU rfl) ?_
 refine st (ai bP rfl bG (by decide) rfl) ?_
 refine st (ld1 bG rfl BG rfl) ?_
 refine st (ai U26 rfl T3 (by decide) rfl) ?_
 refine st (ld1 T3 rfl B3 rfl) ?_
 refine st (ai U26 rfl T3 (by decide) rfl) ?_
 refine st (ld1 T3 rfl B3 rfl) ?_
 refine st (ax (A:=E (enV (Gr.ends d.2.1 d.2.2.1))) gk rfl rfl (fun v u w he h h'=>by cases h;cases h';exact gB d.2.1 d.2.2.1 w)) ?_
 refine en fun a w e' hf=>?_
 replace e:=e.tr e'
 replace BG:=BG.ext e'
 replace MV:=MV.ext e'
 replace ME:=ME.ext e'
 replace B3:=B3.ext e'
 clear e'
 replace hf:=hf.kp [7,12]
 refine om (V:=eKV) (i:=Gr.ends d.2.1 d.2.2.1) dc hf rfl rfl ME h1 fun w hg' ME hf=>?_
 refine aa ?_
 refine cE rfl hf ?_
 exact⟨rfl,(e.chg _).gr hg' (.inl (.inr rfl)),BG.gr hg' hg.n1.2.symm,(MV.gr hg' (fun h=>hg.ne (by cases h;rfl))),ME,hg.ne⟩
theorem vx (g:GT)(d:DT)(bg bv be n:Nat)(W:World)(hg:GrR W bg bv be n g)(c:Int×Int)(hc:(d.2.1,c)∈g.1)(hn:n<maxLen)(h1:vKV.ok d.2.1)(h2:okT (d.2.2.2.1,c.2)) :
  Calls Tryz.prog 118 #[.pointer (some ⟨bg,0,none⟩),dtV d] W fun en w'=>en=.returned (.tuple #[])∧Chg (fun b=>b=bv∨b=be) W w'∧GrR w' bg bv be (n+1) (bw g.1 d.2.1 (d.2.2.2.1,c.2),g.2):=by
 refine enter (args:=[.pointer (some ⟨bg,0,none⟩),dtV d]) (As:=[E (.pointer (some ⟨bg,0,none⟩)),E (dtV d)]) Tryz.func118 rfl Tryz.ntmps118 (Nat.le_of_ble_eq_true rfl) ?_ (fun a hf=>?_) (Nat.le_of_ble_eq_true rfl)
 rotate_left
 dsimp only[params,Nat.reduceAdd] at hf
 rotate_right
 ·exact arg2 rfl rfl
 have e:=Ext.rfl' W
 have BG:=hg.blk;have MV:=hg.vs;have ME:=hg.es
 refine seq ?_
 refine ah ?_
 refine aH hf rfl (by decide) fun a b3 w v3 hv3 e' hb3 hs3 B3 hf=>?_
 have hle3:=Nat.le_trans e.size (Nat.le_of_eq hb3.symm)
 have lt3_BG:=BG.lt
 replace e:=e.tr e'
 replace BG:=BG.ext e'
 replace MV:=MV.ext e'
 replace ME:=ME.ext e'
 refine aa ?_
 cases hv3
 refine reg 17 Mix.mix hf (by decide +kernel) ?_
 refine st (mv rfl) ?_
 refine st (aU rfl) ?_
 refine st (ai bP rfl bO (by decide) rfl) ?_
 refine st (ld1 bO rfl BG rfl) ?_
 refine st (ai U26 rfl T3 (by decide) rfl) ?_
 refine st (ld1 T3 rfl B3 rfl) ?_
 refine st (ai U26 rfl T5 (by decide) rfl) ?_
 refine st (ld1 T5 rfl B3 rfl) ?_
 refine st (mv rfl) ?_
 refine st (aU rfl) ?_
 refine st (ai bP rfl bO (by decide) rfl) ?_
 refine st (ld1 bO rfl BG rfl) ?_
 refine st (ai U26 rfl T3 (by decide) rfl) ?_
 refine st (ld1 T3 rfl B3 rfl) ?_
 refine st (lkM (V:=vKV) (i:=d.2.1) (c:=c) (z:=(0,0)) (eG cF) th0 eC rfl MV rfl h1 hc) ?_
 refine st (ir fD rfl T3 rfl rfl) ?_
 refine st (bh [(0,_),(1,_)] rfl (bTh (d.2.2.2.1,c.2))) ?_
 refine en fun a w e' hf=>?_
 replace e:=e.tr e'
 replace BG:=BG.ext e'
 replace MV:=MV.ext e'
 replace ME:=ME.ext e'
 replace B3:=B3.ext e'
 clear e'
 replace hf:=hf.kp [7,9,20]
 refine fP (V:=vKV) (i:=d.2.1) (c:=(d.2.2.2.1,c.2)) eC hf rfl rfl rfl MV hn h1 h2 fun w hg' MV hf=>?_
 refine aa ?_
 refine cE rfl hf ?_
 exact⟨rfl,(e.chg _).gr hg' (.inl (.inl rfl)),BG.gr hg' hg.n1.1.symm,MV,(ME.gr hg' (fun h=>hg.ne (by cases h;rfl))).mono (Nat.le_succ _),hg.ne⟩
theorem vy (g:GT)(d:DT)(bg bv be n:Nat)(W:World)(hg:GrR W bg bv be n g)(c:Int×Int)(hc:(d.2.1,c)∈g.1)(hn:n<maxLen)(h1:vKV.ok d.2.1)(h2:okT (c.1,d.2.2.2.2)) :
  Calls Tryz.prog 119 #[.pointer (some ⟨bg,0,none⟩),dtV d] W fun en w'=>en=.returned (.tuple #[])∧Chg (fun b=>b=bv∨b=be) W w'∧GrR w' bg bv be (n+1) (bw g.1 d.2.1 (c.1,d.2.2.2.2),g.2):=by
 refine enter (args:=[.pointer (some ⟨bg,0,none⟩),dtV d]) (As:=[E (.pointer (some ⟨bg,0,none⟩)),E (dtV d)]) Tryz.func119 rfl Tryz.ntmps119 (Nat.le_of_ble_eq_true rfl) ?_ (fun a hf=>?_) (Nat.le_of_ble_eq_true rfl)
 rotate_left
 dsimp only[params,Nat.reduceAdd] at hf
 rotate_right
 ·exact arg2 rfl rfl
 have e:=Ext.rfl' W
 have BG:=hg.blk;have MV:=hg.vs;have ME:=hg.es
 refine seq ?_
 refine ah ?_
 refine aH hf rfl (by decide) fun a b3 w v3 hv3 e' hb3 hs3 B3 hf=>?_
 have hle3:=Nat.le_trans e.size (Nat.le_of_eq hb3.symm)
 have lt3_BG:=BG.lt
 replace e:=e.tr e'
 replace BG:=BG.ext e'
 replace MV:=MV.ext e'
 replace ME:=ME.ext e'
 refine aa ?_
 cases hv3
 refine reg 17 Mix.mix hf (by decide +kernel) ?_
 refine st (mv rfl) ?_
 refine st (aU rfl) ?_
 refine st (ai bP rfl bO (by decide) rfl) ?_
 refine st (ld1 bO rfl BG rfl) ?_
 refine st (ai U26 rfl T3 (by decide) rfl) ?_
 refine st (ld1 T3 rfl B3 rfl) ?_
 refine st (mv rfl) ?_
 refine st (aU rfl) ?_
 refine st (ai bP rfl bO (by decide) rfl) ?_
 refine st (ld1 bO rfl BG rfl) ?_
 refine st (ai U26 rfl T3 (by decide) rfl) ?_
 refine st (ld1 T3 rfl B3 rfl) ?_
 refine st (lkM (V:=vKV) (i:=d.2.1) (c:=c) (z:=(0,0)) (eG cF) th0 eC rfl MV rfl h1 hc) ?_
 refine st (ir fD rfl T5 rfl rfl) ?_
 refine st (ai U26 rfl T3 (by decide) rfl) ?_
 refine st (ld1 T3 rfl B3 rfl) ?_
 refine st (bh [(0,_),(1,_)] rfl (bTh (c.1,d.2.2.2.2))) ?_
 refine en fun a w e' hf=>?_
 replace e:=e.tr e'
 replace BG:=BG.ext e'
 replace MV:=MV.ext e'
 replace ME:=ME.ext e'
 replace B3:=B3.ext e'
 clear e'
 replace hf:=hf.kp [7,9,20]
 refine fP (V:=vKV) (i:=d.2.1) (c:=(c.1,d.2.2.2.2)) eC hf rfl rfl rfl MV hn h1 h2 fun w hg' MV hf=>?_
 refine aa ?_
 refine cE rfl hf ?_
 exact⟨rfl,(e.chg _).gr hg' (.inl (.inl rfl)),BG.gr hg' hg.n1.1.symm,MV,(ME.gr hg' (fun h=>hg.ne (by cases h;rfl))).mono (Nat.le_succ _),hg.ne⟩
theorem vz (g:GT)(d:DT)(bg bv be n:Nat)(W:World)(hg:GrR W bg bv be n g)(c:Int×Int)(hc:(Gr.ends d.2.1 d.2.2.1,c)∈g.2)(hn:n<maxLen)(h1:eKV.ok (Gr.ends d.2.1 d.2.2.1))(h2:okT (d.2.2.2.1,c.2)) :
  Calls Tryz.prog 120 #[.pointer (some ⟨bg,0,none⟩),dtV d] W fun en w'=>en=.returned (.tuple #[])∧Chg (fun b=>b=bv∨b=be) W w'∧GrR w' bg bv be (n+1) (g.1,bw g.2 (Gr.ends d.2.1 d.2.2.1) (d.2.2.2.1,c.2)):=by
 refine enter (args:=[.pointer (some ⟨bg,0,none⟩),dtV d]) (As:=[E (.pointer (some ⟨bg,0,none⟩)),E (dtV d)]) Tryz.func120 rfl Tryz.ntmps120 (Nat.le_of_ble_eq_true rfl) ?_ (fun a hf=>?_) (Nat.le_of_ble_eq_true rfl)
 rotate_left
 dsimp only[params,Nat.reduceAdd] at hf
 rotate_right
 ·exact arg2 rfl rfl
 have e:=Ext.rfl' W
 have BG:=hg.blk;have MV:=hg.vs;have ME:=hg.es
 have lg:=BG.lt;have lv:=MV.lt;have lE:=ME.lt
 refine seq ?_
 refine ah ?_
 refine aH hf rfl (by decide) fun a b3 w v3 hv3 e' hb3 hs3 B3 hf=>?_
 have hle3:=Nat.le_trans e.size (Nat.le_of_eq hb3.symm)
 have lt3_BG:=BG.lt
 replace MV:=MV.ext e'
 replace ME:=ME.ext e'
 replace e:=e.tr e'
 replace BG:=BG.ext e'
 refine aa ?_
 cases hv3
 refine seq ?_
 refine ac 5 hf (by decide +kernel) ?_
 refine st (ai U26 rfl T3 (by decide) rfl) ?_
 refine st (ld1 T3 rfl B3 rfl) ?_
 refine st (ai U26 rfl T3 (by decide) rfl) ?_
 refine st (ld1 T3 rfl B3 rfl) ?_
 refine st (ax (A:=E (enV (Gr.ends d.2.1 d.2.2.1))) gk rfl rfl (fun v u w he h h'=>by cases h;cases h';exact gB d.2.1 d.2.2.1 w)) ?_
 refine en fun a w e' hf=>?_
 replace MV:=MV.ext e'
 replace ME:=ME.ext e'
 replace e:=e.tr e'
 replace BG:=BG.ext e'
 replace B3:=B3.ext e'
 clear e'
 refine aJ gf hf (by decide) fun a b4 w e' hb4 hs4 B4 hf=>?_
 have hle4:=Nat.le_trans e.size (Nat.le_of_eq hb4.symm)
 have lt4_BG:=BG.lt
 have lt4_B3:=B3.lt
 replace MV:=MV.ext e'
 replace ME:=ME.ext e'
 replace e:=e.tr e'
 replace BG:=BG.ext e'
 replace B3:=B3.ext e'
 clear e'
 haveI hinr:∀G0,InR (GB W G0) (some b4):=fun G0=>InR.gb (by omega)
 refine aD cT hf rfl rfl (aX rfl rfl) B4 rfl (rfl) fun w hg hsz B4 hf=>?_
 replace MV:=MV.gr hg (fun h=>by cases h;omega)
 replace ME:=ME.gr hg (fun h=>by cases h;omega)
 replace e:=e.gr hg (by omega)
 replace BG:=BG.gr hg (by omega)
 replace B3:=B3.gr hg (by omega)
 clear hg
 refine aa ?_
 refine reg 15 Mix.mix hf (by decide +kernel) ?_
 refine st (mv rfl) ?_
 refine st (aU rfl) ?_
 refine st (ai bP rfl bG (by decide) rfl) ?_
 refine st (ld1 bG rfl BG rfl) ?_
 refine st (ldW cT rfl B4 rfl) ?_
 refine st (ai U26 rfl T5 (by decide) rfl) ?_
 refine st (ld1 T5 rfl B3 rfl) ?_
 refine st (mv rfl) ?_
 refine st (aU rfl) ?_
 refine st (ai bP rfl bG (by decide) rfl) ?_
 refine st (ld1 bG rfl BG rfl) ?_
 refine st (ldW cT rfl B4 rfl) ?_
 refine st (lkM (V:=eKV) (i:=Gr.ends d.2.1 d.2.2.1) (c:=c) (z:=(0,0)) (eG cF) th0 dc rfl ME rfl h1 hc) ?_
 refine st (ir fD rfl T3 rfl rfl) ?_
 refine st (bh [(0,_),(1,_)] rfl (bTh (d.2.2.2.1,c.2))) ?_
 refine en fun a w e' hf=>?_
 replace MV:=MV.ext e'
 replace ME:=ME.ext e'
 replace e:=e.tr e'
 replace BG:=BG.ext e'
 replace B3:=B3.ext e'
 replace B4:=B4.ext e'
 clear e'
 replace hf:=hf.kp [13,14,24]
 refine fP (V:=eKV) (i:=Gr.ends d.2.1 d.2.2.1) (c:=(d.2.2.2.1,c.2)) dc hf rfl rfl rfl ME hn h1 h2 fun w hg' ME hf=>?_
 refine aa ?_
 refine cE rfl hf ?_
 exact⟨rfl,(e.chg _).gr hg' (.inl (.inr rfl)),BG.gr hg' hg.n1.2.symm,(MV.gr hg' (fun h=>hg.ne (by cases h;rfl))).mono (Nat.le_succ _),ME,hg.ne⟩
theorem vA (g:GT)(d:DT)(bg bv be n:Nat)(W:World)(hg:GrR W bg bv be n g)(c:Int×Int)(hc:(Gr.ends d.2.1 d.2.2.1,c)∈g.2)(hn:n<maxLen)(h1:eKV.ok (Gr.ends d.2.1 d.2.2.1))(h2:okT (c.1,d.2.2.2.2)) :
  Calls Tryz.prog 121 #[.pointer (some ⟨bg,0,none⟩),dtV d] W fun en w'=>en=.returned (.tuple #[])∧Chg (fun b=>b=bv∨b=be) W w'∧GrR w' bg bv be (n+1) (g.1,bw g.2 (Gr.ends d.2.1 d.2.2.1) (c.1,d.2.2.2.2)):=by
 refine enter (args:=[.pointer (some ⟨bg,0,none⟩),dtV d]) (As:=[E (.pointer (some ⟨bg,0,none⟩)),E (dtV d)]) Tryz.func121 rfl Tryz.ntmps121 (Nat.le_of_ble_eq_true rfl) ?_ (fun a hf=>?_) (Nat.le_of_ble_eq_true rfl)
 rotate_left
 dsimp only[params,Nat.reduceAdd] at hf
 rotate_right
 ·exact arg2 rfl rfl
 have e:=Ext.rfl' W
 have BG:=hg.blk;have MV:=hg.vs;have ME:=hg.es
 have lg:=BG.lt;have lv:=MV.lt;have lE:=ME.lt
 refine seq ?_
 refine ah ?_
 refine aH hf rfl (by decide) fun a b3 w v3 hv3 e' hb3 hs3 B3 hf=>?_
 have hle3:=Nat.le_trans e.size (Nat.le_of_eq hb3.symm)
 have lt3_BG:=BG.lt
 replace MV:=MV.ext e'
 replace ME:=ME.ext e'
 replace e:=e.tr e'
 replace BG:=BG.ext e'
 refine aa ?_
 cases hv3
 refine seq ?_
 refine ac 5 hf (by decide +kernel) ?_
 refine st (ai U26 rfl T3 (by decide) rfl) ?_
 refine st (ld1 T3 rfl B3 rfl) ?_
 refine st (ai U26 rfl T3 (by decide) rfl) ?_
 refine st (ld1 T3 rfl B3 rfl) ?_
 refine st (ax (A:=E (enV (Gr.ends d.2.1 d.2.2.1))) gk rfl rfl (fun v u w he h h'=>by cases h;cases h';exact gB d.2.1 d.2.2.1 w)) ?_
 refine en fun a w e' hf=>?_
 replace MV:=MV.ext e'
 replace ME:=ME.ext e'
 replace e:=e.tr e'
 replace BG:=BG.ext e'
 replace B3:=B3.ext e'
 clear e'
 refine aJ gf hf (by decide) fun a b4 w e' hb4 hs4 B4 hf=>?_
 have hle4:=Nat.le_trans e.size (Nat.le_of_eq hb4.symm)
 have lt4_BG:=BG.lt
 have lt4_B3:=B3.lt
 replace MV:=MV.ext e'
 replace ME:=ME.ext e'
 replace e:=e.tr e'
 replace BG:=BG.ext e'
 replace B3:=B3.ext e'
 clear e'
 haveI hinr:∀G0,InR (GB W G0) (some b4):=fun G0=>InR.gb (by omega)
 refine aD cT hf rfl rfl (aX rfl rfl) B4 rfl (rfl) fun w hg hsz B4 hf=>?_
 replace MV:=MV.gr hg (fun h=>by cases h;omega)
 replace ME:=ME.gr hg (fun h=>by cases h;omega)
 replace e:=e.gr hg (by omega)
 replace BG:=BG.gr hg (by omega)
 replace B3:=B3.gr hg (by omega)
 clear hg
 refine aa ?_
 refine reg 15 Mix.mix hf (by decide +kernel) ?_
 refine st (mv rfl) ?_
 refine st (aU rfl) ?_
 refine st (ai bP rfl bG (by decide) rfl) ?_
 refine st (ld1 bG rfl BG rfl) ?_
 refine st (ldW cT rfl B4 rfl) ?_
 refine st (mv rfl) ?_
 refine st (aU rfl) ?_
 refine st (ai bP rfl bG (by decide) rfl) ?_
 refine st (ld1 bG rfl BG rfl) ?_
 refine st (ldW cT rfl B4 rfl) ?_
 refine st (lkM (V:=eKV) (i:=Gr.ends d.2.1 d.2.2.1) (c:=c) (z:=(0,0)) (eG cF) th0 dc rfl ME rfl h1 hc) ?_
 refine st (ir fD rfl T5 rfl rfl) ?_
 refine st (ai U26 rfl T3 (by decide) rfl) ?_
 refine st (ld1 T3 rfl B3 rfl) ?_
 refine st (bh [(0,_),(1,_)] rfl (bTh (c.1,d.2.2.2.2))) ?_
 refine en fun a w e' hf=>?_
 replace MV:=MV.ext e'
 replace ME:=ME.ext e'
 replace e:=e.tr e'
 replace BG:=BG.ext e'
 replace B3:=B3.ext e'
 replace B4:=B4.ext e'
 clear e'
 replace hf:=hf.kp [13,14,24]
 refine fP (V:=eKV) (i:=Gr.ends d.2.1 d.2.2.1) (c:=(c.1,d.2.2.2.2)) dc hf rfl rfl rfl ME hn h1 h2 fun w hg' ME hf=>?_
 refine aa ?_
 refine cE rfl hf ?_
 exact⟨rfl,(e.chg _).gr hg' (.inl (.inr rfl)),BG.gr hg' hg.n1.2.symm,(MV.gr hg' (fun h=>hg.ne (by cases h;rfl))).mono (Nat.le_succ _),ME,hg.ne⟩
def atV (u:Int)(k:Int×Int):Bool:=k.1==u || k.2==u
theorem vB (d:DT)(k:Int×Int)(c:Int×Int)(b0:Nat)(W:World)(hb0:Blk W b0 (dtV d).cells 26) :
  Calls Tryz.prog 129 #[enV k,thV c,.pointer (some ⟨b0,0,none⟩)] W (Post (E (B (atV d.2.1 k))) W):=by
 refine enter (args:=[enV k,thV c,.pointer (some ⟨b0,0,none⟩)]) (As:=[E (enV k),E (thV c),E (.pointer (some ⟨b0,0,none⟩))]) Tryz.func129 rfl Tryz.ntmps129 (Nat.le_of_ble_eq_true rfl) ?_ (fun a hf=>?_) (Nat.le_of_ble_eq_true rfl)
 rotate_left
 dsimp only[params,Nat.reduceAdd] at hf
 rotate_right
 ·exact eo rfl rfl rfl
 have e:=Ext.rfl' W
 have B0:=hb0
 refine seq ?_
 refine ah ?_
 refine aH hf rfl (by decide) fun a b3 w v3 hv3 e' hb3 hs3 B3 hf=>?_
 have hle3:=Nat.le_trans e.size (Nat.le_of_eq hb3.symm)
 have lt3_B0:=B0.lt
 replace e:=e.tr e'
 replace B0:=B0.ext e'
 clear e'
 refine aH hf rfl (by decide) fun a b4 w v4 hv4 e' hb4 hs4 B4 hf=>?_
 have hle4:=Nat.le_trans e.size (Nat.le_of_eq hb4.symm)
 have lt4_B0:=B0.lt
 have lt4_B3:=B3.lt
 replace e:=e.tr e'
 replace B0:=B0.ext e'
 replace B3:=B3.ext e'
 refine ae hf rfl (by decide) fun a hf=>?_
 refine aa ?_
 cases hv3;cases hv4
 cases h1:(k.1==d.2.1) <;> cases h2:(k.2==d.2.1)
 all_goals
  refine seq ?_
  refine ac 12 hf (by decide +kernel) ?_
  refine st (ai eW rfl T3 (by decide) rfl) ?_
  refine st (ld1 T3 rfl B3 rfl) ?_
  refine st (ai U26 rfl T3 (by decide) rfl) ?_
  refine st (ld1 T3 rfl B0 rfl) ?_
  refine st ((eql rfl rfl).eq (congrArg Value.bool (h1))) ?_
  refine st (mv rfl) ?_
  first|refine sn rfl rfl rfl ?_|refine sy rfl rfl (ai eW rfl T3 (by decide) rfl) ?_
  first|refine sn rfl rfl rfl ?_|refine sy rfl rfl (ld1 T3 rfl B3 rfl) ?_
  first|refine sn rfl rfl rfl ?_|refine sy rfl rfl (ai U26 rfl T3 (by decide) rfl) ?_
  first|refine sn rfl rfl rfl ?_|refine sy rfl rfl (ld1 T3 rfl B0 rfl) ?_
  first|refine sn rfl rfl rfl ?_|refine sy rfl rfl ((eql rfl rfl).eq (congrArg Value.bool (h2))) ?_
  first|refine st (pkT rfl rfl) ?_|refine st (pkF rfl rfl) ?_
  refine en fun a w e' hf=>?_
  replace e:=e.tr e'
  replace B0:=B0.ext e'
  replace B3:=B3.ext e'
  replace B4:=B4.ext e'
  refine ae hf rfl (by decide) fun a hf=>?_
  refine aa ?_
  refine aj ?_
  refine al rfl hf rfl ?_
  rintro _ rfl
  exact⟨_,rfl,e,by rw[atV,h1,h2];rfl⟩
theorem oo {l:List ET}{x:Int×Int}(h:∀y∈l,y.1≠x):bS l x=l:=List.filter_eq_self.2 fun y hy=>by simpa using h y hy
theorem vC (l:List ET)(x:Int×Int):bS (l.filter fun p => !decide (p.1=x)) x=l.filter fun p => !decide (p.1=x):=oo fun y hy=>by simpa using (List.mem_filter.1 hy).2
theorem vD (d:DT)(b0 bm n:Nat)(l:List ET)(W:World)(hb0:Blk W b0 (dtV d).cells 26)(HM:MpR eKV W bm n l)(hne:b0≠bm) :
  Calls Tryz.prog 128 #[.map (some bm),.func (.func 129) #[] #[.pointer (some ⟨b0,0,none⟩)]] W fun en w'=>∃u,en=.returned u∧Chg (fun b=>b=bm) W w'∧Any.p u w'∧MpR eKV w' bm n (l.filter fun p => !atV d.2.1 p.1):=by
 have Hw:Chg (fun b=>b=bm) W W:=Chg.rfl' _ _
 have hl0:=hb0.lt
 have hlm:=HM.lt
 have HP:l.Pairwise fun p q=>p.1≠q.1:=HM.elim fun _ h=>h.2.2.2
 refine enter (args:=[.map (some bm),.func (.func 129) #[] #[.pointer (some ⟨b0,0,none⟩)]]) (As:=[E (.map (some bm)),E (.func (.func 129) #[] #[.pointer (some ⟨b0,0,none⟩)])]) Tryz.func128 rfl Tryz.ntmps128 (Nat.le_of_ble_eq_true rfl) ?_ (fun a hf=>?_) (Nat.le_of_ble_eq_true rfl)
 rotate_left
 dsimp only[params,Nat.reduceAdd] at hf
 rotate_right
 ·exact arg2 rfl rfl
 have B0:=hb0
 refine seq ?_
 refine ac 1 hf (by decide +kernel) ?_
 refine st (mv rfl) ?_
 refine en fun a w e' hf=>?_
 replace HM:=HM.ext e'
 replace Hw:=Hw.ext e'
 replace B0:=B0.ext e'
 clear e'
 have hsW:=Hw.size
 refine jU (V:=eKV) dc hf (by decide) rfl HM fun a r w e' hr hsr HR hf=>?_
 replace Hw:=Hw.ext e';replace B0:=B0.ext e'
 have hrW:W.heap.size≤r:=by omega
 clear e' HM hsW hr
 refine aa ?_
 replace hf:=hf.kp [0,1,7]
 refine blk (aG (fun r0 a w=>∃(old rest:List ET),r0=rest.length∧Fr 19 a w [(0,E (.map (some bm))),(1,E (.func (.func 129) #[] #[.pointer (some ⟨b0,0,none⟩)])),(7,E (.pointer (some ⟨r,0,none⟩)))]∧Chg (fun b=>b=bm) W w∧Blk w b0 (dtV d).cells 26∧RgR eKV w bm r n (old.filter fun p => !atV d.2.1 p.1) rest∧(old++rest).Perm l) l.length ⟨[],l,rfl,hf,Hw,B0,HR,List.Perm.refl _⟩ ?_)
 clear hf Hw B0 HR hsr
 rintro r0 a w ⟨old,rest,rfl,hf,Hw,B0,HR,hp⟩
 refine seq ?_
 refine ah ?_
 refine jV hf (by decide) rfl HR (fun a hrest hf=>?_) (fun a w' x c hm hg HR hen hf=>?_)
 ·refine cY hf (by decide) rfl rfl fun a hf=>?_
  refine aa ?_
  refine seq ?_
  refine ifc hf rfl (fun h=>by cases h) (fun _=>?_)
  refine aF ?_
  simp only[Exit.then,Exit.inBlock,↓reduceIte]
  subst hrest
  rw[List.append_nil] at hp
  refine cE rfl hf ?_
  have hM:=HR.map
  rw[List.append_nil] at hM
  exact⟨_,rfl,Hw,trivial,hM.perm (hp.filter _)⟩
 ·have HR0:(old++rest).Pairwise (fun p q:ET=>p.1≠q.1):=(hp.pairwise_iff (fun {_ _} hne=>Ne.symm hne)).2 HP
  obtain⟨_,hR2,hR3⟩:=List.pairwise_append.1 HR0
  have hok:eKV.ok x:=(HR.map.elim fun _ h=>h.2.2.1) (x,c) (by simp) |>.1
  replace Hw:=Hw.gr hg (.inr hrW);replace B0:=B0.gr hg (by omega);clear hg
  refine cY hf (by decide) rfl rfl fun a hf=>?_
  refine aa ?_
  refine seq ?_
  refine ifc hf rfl (fun _=>?_) (fun h=>by cases h)
  refine ak ?_
  simp only[Exit.then,Exit.inBlock,↓reduceIte]
  refine blk ?_
  refine seq ?_
  refine ah ?_
  refine jW hf (by decide) rfl hen fun a hf=>?_
  clear hen
  replace hf:=hf.kp [0,1,7,10]
  refine cY hf (by decide) rfl rfl fun a hf=>?_
  refine cY hf (by decide) rfl rfl fun a hf=>?_
  have lr:=HR.lt
  have hsW:=Hw.size
  refine aJ gf hf (by decide) fun a b4 w e' hb4 hs4 B4 hf=>?_
  have lt4_B0:=B0.lt
  replace HR:=HR.ext e'
  replace Hw:=Hw.ext e'
  replace B0:=B0.ext e'
  clear e'
  refine aJ cF hf (by decide) fun a b5 w e' hb5 hs5 B5 hf=>?_
  have lt5_B0:=B0.lt
  have lt5_B4:=B4.lt
  replace HR:=HR.ext e'
  replace Hw:=Hw.ext e'
  replace B0:=B0.ext e'
  replace B4:=B4.ext e'
  clear e'
  have l4:=B4.lt
  have l5:=B5.lt
  replace hf:=hf.kp [0,1,4,5,7,11,12]
  refine aD cT hf rfl rfl (aX rfl rfl) B4 rfl rfl fun w hg' hsz B4 hf=>?_
  replace Hw:=Hw.gr hg' (.inr (by omega));replace HR:=HR.gr hg' (fun h=>by cases h;omega) (fun h=>by cases h;omega);replace B0:=B0.gr hg' (by omega);replace B5:=B5.gr hg' (by omega);clear hg'
  refine aD eV hf rfl rfl (aX rfl rfl) B5 rfl rfl fun w hg' hsz5 B5 hf=>?_
  replace Hw:=Hw.gr hg' (.inr (by omega));replace HR:=HR.gr hg' (fun h=>by cases h;omega) (fun h=>by cases h;omega);replace B0:=B0.gr hg' (by omega);replace B4:=B4.gr hg' (by omega);clear hg'
  refine aa ?_
  replace hf:=hf.kp [0,1,4,5,7]
  refine seq ?_
  refine ac 4 hf (by decide +kernel) ?_
  refine st (mv rfl) ?_
  refine st (ldW cT rfl B4 rfl) ?_
  refine st (ldW eV rfl B5 rfl) ?_
  refine st (sH (A:=E (B (atV d.2.1 x))) (B:=E (enV x)) (C:=E (thV c)) sa rfl rfl rfl (fun v u w he h h'=>by cases h;cases h';exact vB d x c b0 w (B0.ext he))) ?_
  refine en fun a w e' hf=>?_
  replace HR:=HR.ext e'
  replace Hw:=Hw.ext e'
  replace B0:=B0.ext e'
  replace B4:=B4.ext e'
  replace B5:=B5.ext e'
  refine aa ?_
  have hlt:(rest.filter fun p => !decide (p.1=x)).length<rest.length:=by
   have:=(eM hR2 hm).length_eq
   rw[List.length_cons] at this
   exact Nat.lt_of_lt_of_eq (Nat.lt_succ_self _) this.symm
  have hpp:(old++[(x,c)]++rest.filter fun p => !decide (p.1=x)).Perm l:=by
   rw[List.append_assoc];exact (List.Perm.append_left old (eM hR2 hm).symm).trans hp
  have hold:∀y∈old,y.1≠x:=fun y hy=>hR3 y hy (x,c) hm
  refine ifc hf rfl (fun hb=>?_) (fun hb=>?_)
  ·repeat refine seq ?_
   refine ac 2 hf (by decide +kernel) ?_
   refine st (mv rfl) ?_
   refine st (ldW cT rfl B4 rfl) ?_
   refine en fun a w e' hf=>?_
   replace HR:=HR.ext e'
   replace Hw:=Hw.ext e'
   replace B0:=B0.ext e'
   replace B4:=B4.ext e'
   replace B5:=B5.ext e'
   clear e'
   refine vv (V:=eKV) (i:=x) dc hf rfl rfl HR hok fun w hg' HR hf=>?_
   replace Hw:=Hw.gr hg' (.inl rfl);replace B0:=B0.gr hg' hne;clear hg'
   refine aa ?_
   simp only[Exit.then,Exit.inBlock,↓reduceIte]
   replace hf:=hf.kp [0,1,7]
   refine⟨_,hlt,old++[(x,c)],_,rfl,hf,Hw,B0,?_,hpp⟩
   have e1:bS ((old.filter fun p => !atV d.2.1 p.1)++[(x,c)]) x=(old++[(x,c)]).filter fun p => !atV d.2.1 p.1:=by
    rw[iq,oo fun y hy=>hold y (List.mem_filter.1 hy).1,List.filter_append]
    congr 1
    rw[bS,List.filter_cons_of_neg (by simp),List.filter_cons_of_neg (by simp[hb])];rfl
   rw[e1,vC] at HR
   exact HR
  ·refine ak ?_
   simp only[Exit.then,Exit.inBlock,↓reduceIte]
   replace hf:=hf.kp [0,1,7]
   refine⟨_,hlt,old++[(x,c)],_,rfl,hf,Hw,B0,?_,hpp⟩
   have e1:(old.filter fun p => !atV d.2.1 p.1)++[(x,c)]=(old++[(x,c)]).filter fun p => !atV d.2.1 p.1:=by
    rw[List.filter_append,List.filter_cons_of_pos (by simp[hb])];rfl
   rw[← e1]
   exact HR
theorem vE (g:GT)(d:DT)(bg bv be n:Nat)(W:World)(hg:GrR W bg bv be n g)(h1:vKV.ok d.2.1) :
  Calls Tryz.prog 115 #[.pointer (some ⟨bg,0,none⟩),dtV d] W fun en w'=>en=.returned (.tuple #[])∧Chg (fun b=>b=bv∨b=be) W w'∧GrR w' bg bv be n (bS g.1 d.2.1,g.2.filter fun p => !atV d.2.1 p.1):=by
 have n1:=hg.n1
 have n0:=hg.ne
 have lv:=hg.vs.lt
 have le:=hg.es.lt
 refine enter (args:=[.pointer (some ⟨bg,0,none⟩),dtV d]) (As:=[E (.pointer (some ⟨bg,0,none⟩)),E (dtV d)]) Tryz.func115 rfl Tryz.ntmps115 (Nat.le_of_ble_eq_true rfl) ?_ (fun a hf=>?_) (Nat.le_of_ble_eq_true rfl)
 rotate_left
 dsimp only[params,Nat.reduceAdd] at hf
 rotate_right
 ·exact arg2 rfl rfl
 have Hw:Chg (fun b=>b=bv∨b=be) W W:=Chg.rfl' _ _
 have BG:=hg.blk;have MV:=hg.vs;have ME:=hg.es
 refine seq ?_
 refine ah ?_
 refine aH hf rfl (by decide) fun a b3 w v3 hv3 e' hb3 hs3 B3 hf=>?_
 have lt3_BG:=BG.lt
 replace Hw:=Hw.ext e'
 replace BG:=BG.ext e'
 replace MV:=MV.ext e'
 replace ME:=ME.ext e'
 refine aa ?_
 cases hv3
 refine seq ?_
 refine reg 6 Mix.mix hf (by decide +kernel) ?_
 refine st (mv rfl) ?_
 refine st (aU rfl) ?_
 refine st (ai bP rfl bO (by decide) rfl) ?_
 refine st (ld1 bO rfl BG rfl) ?_
 refine st (ai U26 rfl T3 (by decide) rfl) ?_
 refine st (ld1 T3 rfl B3 rfl) ?_
 refine en fun a w e' hf=>?_
 replace Hw:=Hw.ext e'
 replace BG:=BG.ext e'
 replace MV:=MV.ext e'
 replace ME:=ME.ext e'
 replace B3:=B3.ext e'
 clear e'
 replace hf:=hf.kp [0,3,7,9]
 have hb3:b3≠bv∧b3≠be:=by omega
 refine om (V:=vKV) (i:=d.2.1) eC hf rfl rfl MV h1 fun w hg' MV hf=>?_
 replace Hw:=Hw.gr hg' (.inl (.inl rfl));replace BG:=BG.gr hg' n1.1.symm;replace ME:=ME.gr hg' (fun h=>n0 (by cases h;rfl));replace B3:=B3.gr hg' hb3.1;clear hg'
 refine aa ?_
 replace hf:=hf.kp [0,3]
 refine ac 5 hf (by decide +kernel) ?_
 refine st (mv rfl) ?_
 refine st (aU rfl) ?_
 refine st (ai bP rfl bG (by decide) rfl) ?_
 refine st (ld1 bG rfl BG rfl) ?_
 refine st (er rfl) ?_
 refine en fun a w e' hf=>?_
 replace Hw:=Hw.ext e'
 replace B3:=B3.ext e'
 replace BG:=BG.ext e'
 replace MV:=MV.ext e'
 replace ME:=ME.ext e'
 clear e'
 refine jw (S:=fun b=>b=be) (F:=fun w=>MpR eKV w be n (g.2.filter fun p => !atV d.2.1 p.1)) (A:=Any) hf (by decide) rZ ?_ fun a w hc HF hf=>?_
 ·have e7:a.eval (.tmp 13)=.map (some be):=hf.opd (.tmp 13) _ rfl
  have e8:a.eval (.tmp 14)=.func (.func 129) #[] #[.pointer (some ⟨b3,0,none⟩)]:=hf.opd (.tmp 14) _ rfl
  simp only[List.map_toArray,List.map_cons,List.map_nil,e7,e8]
  exact vD d b3 be n g.2 w B3 ME hb3.2
 replace Hw:=Hw.tr (hc.to fun b _ hb=>.inr hb)
 replace BG:=BG.ch hc (fun h=>n1.2 h.symm);replace MV:=MV.pres (hc.block bv MV.lt n0)
 refine aa ?_
 refine cE rfl hf ?_
 exact⟨rfl,Hw,BG,MV,HF,n0⟩
def doP (g:GT)(d:DT):GT:=if d.1=0 then (bw g.1 d.2.1 d.2.2.2,g.2) else (g.1,bw g.2 (Gr.ends d.2.1 d.2.2.1) d.2.2.2)
def apP (g:GT)(d:DT):GT:=if aN g d=0 then doP g d else g
theorem oq (g:GT)(d:DT)(bg bv be n:Nat)(W:World)(hg:GrR W bg bv be n g)(hn:n<maxLen)(hd:d.1=0∨d.1=2∨aN g d≠0)(hw:(Lit.int .i64 d.2.1).wf=true)(hw2:(Lit.int .i64 d.2.2.1).wf=true)(ho:okT d.2.2.2) :
  Calls Tryz.prog 33 #[.pointer (some ⟨bg,0,none⟩),dtV d] W fun en w'=>en=.returned (I (aN g d))∧Chg (fun b=>b=bv∨b=be) W w'∧GrR w' bg bv be (n+1) (apP g d):=by
 refine enter (args:=[.pointer (some ⟨bg,0,none⟩),dtV d]) (As:=[E (.pointer (some ⟨bg,0,none⟩)),E (dtV d)]) Tryz.func33 rfl Tryz.ntmps33 (Nat.le_of_ble_eq_true rfl) ?_ (fun a hf=>?_) (Nat.le_of_ble_eq_true rfl)
 rotate_left
 dsimp only[params,Nat.reduceAdd] at hf
 rotate_right
 ·exact arg2 rfl rfl
 have e:=Ext.rfl' W
 refine seq ?_
 refine ah ?_
 refine aH hf rfl (by decide) fun a b3 w v3 hv3 e' hb3 hs3 B3 hf=>?_
 have hle3:=Nat.le_trans e.size (Nat.le_of_eq hb3.symm)
 replace e:=e.tr e'
 replace hg:=hg.ext e'
 refine ae hf rfl (by decide) fun a hf=>?_
 refine aa ?_
 cases hv3
 repeat refine seq ?_
 refine ac 2 hf (by decide +kernel) ?_
 refine st (mv rfl) ?_
 refine st (dl U38 (isE rfl (hg.dv (Nat.le_refl _) (G:=G0) id id id))) ?_
 refine en fun a w e' hf=>?_
 replace e:=e.tr e'
 replace hg:=hg.ext e'
 replace B3:=B3.ext e'
 refine aa ?_
 refine ifc hf rfl (fun h=>by cases h) (fun _=>?_)
 refine ak ?_
 simp only[Exit.then,Exit.inBlock,↓reduceIte]
 replace hf:=hf.kp [0,3,4]
 repeat refine seq ?_
 refine ac 3 hf (by decide +kernel) ?_
 refine st (mv rfl) ?_
 refine st ((ldW T26 rfl B3 rfl).eq ((rfl:_=dtV d))) ?_
 refine st (ax (A:=E (I (aN g d))) lR rfl rfl (fun v u w he h h'=>by cases h;cases h';exact og (M:=n) (G:=G0) g d _ w ((hg.ext he).dv (Nat.le_refl _) id id id) hw hw2)) ?_
 refine en fun a w e' hf=>?_
 replace e:=e.tr e'
 replace hg:=hg.ext e'
 replace B3:=B3.ext e'
 refine ae hf rfl (by decide) fun a hf=>?_
 refine aa ?_
 refine seq ?_
 refine ac 2 hf (by decide +kernel) ?_
 refine st (mv rfl) ?_
 refine st (neq rfl rfl) ?_
 refine en fun a w e' hf=>?_
 replace e:=e.tr e'
 replace hg:=hg.ext e'
 replace B3:=B3.ext e'
 refine aa ?_
 refine ifc hf rfl (fun hb=>?_) (fun hb=>?_)
 ·have hb':¬aN g d=0:=by simpa using hb
  refine seq ?_
  refine ac 1 hf (by decide +kernel) ?_
  refine st (mv rfl) ?_
  refine en fun a w e' hf=>?_
  replace e:=e.tr e'
  replace hg:=hg.ext e'
  replace B3:=B3.ext e'
  refine ae hf rfl (by decide) fun a hf=>?_
  refine aa ?_
  refine aj ?_
  simp only[Exit.then,Exit.inBlock]
  refine al rfl hf rfl ?_
  rintro _ rfl
  exact⟨rfl,e.chg _,by rw[apP,if_neg hb'];exact hg.mono (Nat.le_succ _)⟩
 ·have hb':aN g d=0:=by simpa using hb
  refine ak ?_
  simp only[Exit.then,Exit.inBlock,↓reduceIte]
  replace hf:=hf.kp [0,3,4]
  have fin:apP g d=doP g d:=by rw[apP,if_pos hb']
  rcases (show d.1=0∨d.1=2 from hd.elim .inl (fun h=>h.elim .inr (fun h=>absurd hb' h))) with hop|hop
  ·refine seq ?_
   refine ew 7 [0,0,0,0,0,0] (Chg (fun b=>b=bv∨b=be)) (cC.chg _) (fun w=>GrR w bg bv be (n+1) (doP g d)) (fun w w1 k h=>h.ext k) Mix.mix hf (by decide +kernel) (by decide +kernel) ?_
   refine ja (fZ (A:=E (.agg fj)) iZ (fun w he=>jT w)) ?_
   refine ja (ai U26 rfl T3 (by decide) rfl) ?_
   refine ja ((ld1 T3 rfl B3 rfl).eq ((congrArg (Value.int .i64) hop:_=I 0))) ?_
   refine ja (ga jg iS rfl rfl (by decide) rfl) ?_
   refine ja (mv rfl) ?_
   refine ja ((ldW T26 rfl B3 rfl).eq ((rfl:_=dtV d))) ?_
   refine jx (jP lY rfl rfl rfl (fun w he=>(oh g d bg bv be n w (hg.ext he) hn hw ho).mono fun en w' ⟨h1,h2,h3⟩=>⟨_,h1,h2,by rw[doP,if_pos hop];exact h3⟩)) ?_
   refine je ?_
   refine fun a w hc HF hf=>?_
   try dsimp only[push] at hf
   refine aa ?_
   replace hf:=hf.kp [4]
   have e3:=Ext.rfl' w
   refine seq ?_
   refine ah ?_
   refine ae hf rfl (by decide) fun a hf=>?_
   refine aa ?_
   refine aj ?_
   refine al rfl hf rfl ?_
   rintro _ rfl
   exact⟨by rw[hb'],(e.chg _).tr hc,by rw[fin];exact HF⟩
  ·refine seq ?_
   refine ew 7 [0,0,0,0,0,0] (Chg (fun b=>b=bv∨b=be)) (cC.chg _) (fun w=>GrR w bg bv be (n+1) (doP g d)) (fun w w1 k h=>h.ext k) Mix.mix hf (by decide +kernel) (by decide +kernel) ?_
   refine ja (fZ (A:=E (.agg fj)) iZ (fun w he=>jT w)) ?_
   refine ja (ai U26 rfl T3 (by decide) rfl) ?_
   refine ja ((ld1 T3 rfl B3 rfl).eq ((congrArg (Value.int .i64) hop:_=I 2))) ?_
   refine ja (ga jg iS rfl rfl (by decide) rfl) ?_
   refine ja (mv rfl) ?_
   refine ja ((ldW T26 rfl B3 rfl).eq ((rfl:_=dtV d))) ?_
   refine jx (jP lZ rfl rfl rfl (fun w he=>(oi g d bg bv be n w (hg.ext he) hn (jS hw hw2) ho).mono fun en w' ⟨h1,h2,h3⟩=>⟨_,h1,h2,by rw[doP,if_neg (by rw[hop];decide)];exact h3⟩)) ?_
   refine je ?_
   refine fun a w hc HF hf=>?_
   try dsimp only[push] at hf
   refine aa ?_
   replace hf:=hf.kp [4]
   have e3:=Ext.rfl' w
   refine seq ?_
   refine ah ?_
   refine ae hf rfl (by decide) fun a hf=>?_
   refine aa ?_
   refine aj ?_
   refine al rfl hf rfl ?_
   rintro _ rfl
   exact⟨by rw[hb'],(e.chg _).tr hc,by rw[fin];exact HF⟩
def atE (g:GT)(d:DT):Int:=if Gr.pairs d.1=true then ci g.2 d.2.1 d.2.2.1 else -1
def cZ (g:GT)(d:DT):GT:=(g.1.filterMap (keepV d),bq d (atE g d) 0 g.2)
def doR (g:GT)(d:DT):GT×Int:=
 if (bD g d != 0)=true then (g,bD g d)
 else if (d.1==0)=true then ((insV g.1 (d.2.1,d.2.2.2),g.2),0)
 else if (d.1==2)=true then ((g.1,fc g.2 (Gr.ends d.2.1 d.2.2.1,d.2.2.2)),0)
 else (cZ g d,0)
theorem bVt (x:VT):Tryz.prog.built 73 [(0,.int .i64 x.1),(1,.int .u8 x.2.1),(2,.int .i64 x.2.2)]=some #[.int .i64 x.1,.int .u8 x.2.1,.int .i64 x.2.2]:=by kernel_rfl
theorem bEt (x:ET):Tryz.prog.built 76 [(0,.int .i64 x.1.1),(1,.int .i64 x.1.2),(2,.int .u8 x.2.1),(3,.int .i64 x.2.2)]=some #[.int .i64 x.1.1,.int .i64 x.1.2,.int .u8 x.2.1,.int .i64 x.2.2]:=by kernel_rfl
theorem jX (x:VT):(#[.int .i64 x.1,.int .u8 x.2.1,.int .i64 x.2.2]:Array Value).all (·.oneCell')=true:=by simp[Array.all_eq_true_iff_forall_mem];exact⟨rfl,rfl,rfl⟩
theorem jY (x:ET):(#[.int .i64 x.1.1,.int .i64 x.1.2,.int .u8 x.2.1,.int .i64 x.2.2]:Array Value).all (·.oneCell')=true:=by simp[Array.all_eq_true_iff_forall_mem];exact⟨rfl,rfl,rfl,rfl⟩
theorem jZ:Tryz.prog.built 36 []=some #[.slice none 0 0,.slice none 0 0]:=by kernel_rfl
theorem ot {G:Nat→Prop}(g:GT)(d:DT)(v:Value)(W:World)(h:(Dv gtE G g).p v W)(hG:∀b,G b→b<W.heap.size)(hl1:g.1.length≤100000)(hl2:g.2.length≤100000) :
  Calls Tryz.prog 26 #[v,dtV d] W (Post (Tup [Dv gtE G (doR g d).1,E (I (doR g d).2)]) W):=by
 obtain⟨u1,u2,rfl,h1,h2⟩:=Dv.gt.1 h
 obtain⟨a1,n1,c1,rfl⟩:=Dv.slF h1
 obtain⟨a2,n2,c2,rfl⟩:=Dv.slF h2
 have hbb:=Dv.toB h
 have h1b:=Dv.toB h1
 have h2b:=Dv.toB h2
 refine enter (args:=[.agg #[.slice a1 n1 c1,.slice a2 n2 c2],dtV d]) (As:=[E (.agg #[.slice a1 n1 c1,.slice a2 n2 c2]),E (dtV d)]) Tryz.func26 rfl Tryz.ntmps26 (Nat.le_of_ble_eq_true rfl) ?_ (fun a hf=>?_) (Nat.le_of_ble_eq_true rfl)
 rotate_left
 dsimp only[params,Nat.reduceAdd] at hf
 rotate_right
 ·exact arg2 rfl rfl
 have e:=Ext.rfl' W
 refine seq ?_
 refine ah ?_
 refine aH hf rfl (by decide) fun a b2 w v2 hv2 e' hb2 hs2 B2 hf=>?_
 have hle2:=Nat.le_trans e.size (Nat.le_of_eq hb2.symm)
 replace e:=e.tr e'
 clear e'
 refine aH hf rfl (by decide) fun a b3 w v3 hv3 e' hb3 hs3 B3 hf=>?_
 have hle3:=Nat.le_trans e.size (Nat.le_of_eq hb3.symm)
 have lt3_B2:=B2.lt
 replace e:=e.tr e'
 replace B2:=B2.ext e'
 clear e'
 refine aJ I36 hf (by decide) fun a b4 w e' hb4 hs4 B4 hf=>?_
 have hle4:=Nat.le_trans e.size (Nat.le_of_eq hb4.symm)
 have lt4_B2:=B2.lt
 have lt4_B3:=B3.lt
 replace e:=e.tr e'
 replace B2:=B2.ext e'
 replace B3:=B3.ext e'
 refine ae hf rfl (by decide) fun a hf=>?_
 refine aa ?_
 cases hv2;cases hv3
 have fin:∀(w:World) (g':GT) (c:Int) (z:Value),Ext W w→(Dv gtE G g').p z w→doR g d=(g',c)→(Tup [Dv gtE G (doR g d).1,E (I (doR g d).2)]).p (.tuple #[z,I c]) w:=fun w g' c z e hz hd=>by rw[hd];exact Tup.two hz rfl
 have hG4:∀(w:World),b4<w.heap.size→Ext W w→∀b,G1 G b4 b→b<w.heap.size:=fun w hb4 e b hb=>hb.elim (fun hb=>Nat.lt_of_lt_of_le (hG b hb) e.size) (fun hb=>by rw[hb];exact hb4)
 have hg4:∀w,Ext W w→(Dv gtE (G1 G b4) g).p (.agg #[.slice a1 n1 c1,.slice a2 n2 c2]) w:=fun w e=>Dv.weak (VA.st _ _ _ _ e hbb) fun b _ hq=>hq.elim .inl (fun hq=>.inr (by rw[hq];exact hle4))
 repeat refine seq ?_
 refine ac 3 hf (by decide +kernel) ?_
 refine st ((ldW T36 rfl B2 rfl).eq ((rfl:_=Value.agg #[.slice a1 n1 c1,.slice a2 n2 c2]))) ?_
 refine st ((ldW T45 rfl B3 rfl).eq ((rfl:_=dtV d))) ?_
 refine st (ax rh rfl rfl (fun v u w he k k'=>by cases k;cases k';exact uA g d _ w (VA.st _ _ _ _ (Ext.tr e he) h) hl1 hl2)) ?_
 refine en fun a w e' hf=>?_
 replace e:=e.tr e'
 replace B2:=B2.ext e'
 replace B3:=B3.ext e'
 replace B4:=B4.ext e'
 refine ae hf rfl (by decide) fun a hf=>?_
 refine aa ?_
 refine seq ?_
 refine ac 2 hf (by decide +kernel) ?_
 refine st (mv rfl) ?_
 refine st (neq rfl rfl) ?_
 refine en fun a w e' hf=>?_
 replace e:=e.tr e'
 replace B2:=B2.ext e'
 replace B3:=B3.ext e'
 replace B4:=B4.ext e'
 refine aa ?_
 refine ifc hf rfl (fun hb=>?_) (fun hb=>?_)
 ·refine seq ?_
  refine ac 2 hf (by decide +kernel) ?_
  refine st ((ldW T36 rfl B2 rfl).eq ((rfl:_=Value.agg #[.slice a1 n1 c1,.slice a2 n2 c2]))) ?_
  refine st (mv rfl) ?_
  refine en fun a w e' hf=>?_
  replace e:=e.tr e'
  replace B2:=B2.ext e'
  replace B3:=B3.ext e'
  replace B4:=B4.ext e'
  clear e'
  haveI hinr:∀G0,InR (GB W G0) (some b4):=fun G0=>InR.gb (by omega)
  refine aD T36 hf rfl rfl (aX rfl rfl) B4 rfl (rfl) fun w hg hsz B4 hf=>?_
  replace e:=e.gr hg (by omega)
  replace B2:=B2.gr hg (by omega)
  replace B3:=B3.gr hg (by omega)
  clear hg
  refine ae hf rfl (by decide) fun a hf=>?_
  refine aa ?_
  refine aj (ib rfl T36 hf rfl rfl B4 rfl ?_)
  rintro _ rfl
  exact⟨_,rfl,e,fin _ _ _ _ e (VA.st _ _ _ _ e h) (by rw[doR,if_pos hb])⟩
 refine ak ?_
 simp only[Exit.then,Exit.inBlock,↓reduceIte]
 replace hf:=hf.kp [2,3,4]
 have h1n:=aC hb;clear hb
 repeat refine seq ?_
 refine ac 3 hf (by decide +kernel) ?_
 refine st (ai U45 rfl T3 (by decide) rfl) ?_
 refine st (ld1 T3 rfl B3 rfl) ?_
 refine st (eql rfl rfl) ?_
 refine en fun a w e' hf=>?_
 replace e:=e.tr e'
 replace B2:=B2.ext e'
 replace B3:=B3.ext e'
 replace B4:=B4.ext e'
 refine aa ?_
 refine ifc hf rfl (fun hb=>?_) (fun hb=>?_)
 ·have h2p:=hb;clear hb
  refine seq ?_
  refine ac 9 hf (by decide +kernel) ?_
  refine st ((ldW T36 rfl B2 rfl).eq ((rfl:_=Value.agg #[.slice a1 n1 c1,.slice a2 n2 c2]))) ?_
  refine st (ai U45 rfl T3 (by decide) rfl) ?_
  refine st (ld1 T3 rfl B3 rfl) ?_
  refine st (ai U45 rfl T5 (by decide) rfl) ?_
  refine st (ld1 T5 rfl B3 rfl) ?_
  refine st (ai U45 rfl T3 (by decide) rfl) ?_
  refine st (ld1 T3 rfl B3 rfl) ?_
  refine st (mU (d.2.1,d.2.2.2) (bVt _) rfl rfl rfl) ?_
  refine st (ax ri rfl rfl (fun v u w he k k'=>by cases k;cases k';exact uG (G:=G1 G b4) g _ _ w (hg4 w (Ext.tr e he)) (hG4 w (Nat.lt_of_lt_of_le B4.lt he.size) (Ext.tr e he)) hl1)) ?_
  refine en fun a w e' hf=>?_
  replace e:=e.tr e'
  replace B2:=B2.ext e'
  replace B3:=B3.ext e'
  replace B4:=B4.ext e'
  clear e'
  obtain⟨z,hz,hf⟩:=hf.opn 31 rfl
  obtain⟨z1,z2,rfl,hz1,hz2⟩:=Dv.gt.1 hz
  replace hf:=hf.kp [31,4]
  refine aD T36 hf rfl rfl (aX (slOne hz1) (slOne hz2)) B4 rfl rfl fun w hg hsz B4 hf=>?_
  replace e:=e.gr hg hle4;replace hz:=AvR.av (row:=some b4) _ _ _ hg hz;clear hg
  refine ae hf rfl (by decide) fun a hf=>?_
  refine aa ?_
  refine aj (ib rfl T36 hf rfl rfl B4 rfl ?_)
  rintro _ rfl
  exact⟨_,rfl,e,fin _ _ _ _ e (Dv.weak hz fun b _=>.inl) (by rw[doR,if_neg h1n,if_pos h2p])⟩
 refine ak ?_
 simp only[Exit.then,Exit.inBlock,↓reduceIte]
 replace hf:=hf.kp [2,3,4]
 have h2n:=aC hb;clear hb
 repeat refine seq ?_
 refine ac 3 hf (by decide +kernel) ?_
 refine st (ai U45 rfl T3 (by decide) rfl) ?_
 refine st (ld1 T3 rfl B3 rfl) ?_
 refine st (eql rfl rfl) ?_
 refine en fun a w e' hf=>?_
 replace e:=e.tr e'
 replace B2:=B2.ext e'
 replace B3:=B3.ext e'
 replace B4:=B4.ext e'
 refine aa ?_
 refine ifc hf rfl (fun hb=>?_) (fun hb=>?_)
 ·have h3p:=hb;clear hb
  refine seq ?_
  refine ac 17 hf (by decide +kernel) ?_
  refine st ((ldW T36 rfl B2 rfl).eq ((rfl:_=Value.agg #[.slice a1 n1 c1,.slice a2 n2 c2]))) ?_
  refine st (ai U45 rfl T3 (by decide) rfl) ?_
  refine st (ld1 T3 rfl B3 rfl) ?_
  refine st (ai U45 rfl T3 (by decide) rfl) ?_
  refine st (ld1 T3 rfl B3 rfl) ?_
  refine st (min2 rfl rfl) ?_
  refine st (ai U45 rfl T3 (by decide) rfl) ?_
  refine st (ld1 T3 rfl B3 rfl) ?_
  refine st (ai U45 rfl T3 (by decide) rfl) ?_
  refine st (ld1 T3 rfl B3 rfl) ?_
  refine st (max2 rfl rfl) ?_
  refine st (ai U45 rfl T5 (by decide) rfl) ?_
  refine st (ld1 T5 rfl B3 rfl) ?_
  refine st (ai U45 rfl T3 (by decide) rfl) ?_
  refine st (ld1 T3 rfl B3 rfl) ?_
  refine st (mV (Gr.ends d.2.1 d.2.2.1,d.2.2.2) (bEt _) rfl rfl rfl rfl) ?_
  refine st (ax rj rfl rfl (fun v u w he k k'=>by cases k;cases k';exact uH (G:=G1 G b4) g _ _ w (hg4 w (Ext.tr e he)) (hG4 w (Nat.lt_of_lt_of_le B4.lt he.size) (Ext.tr e he)) hl2)) ?_
  refine en fun a w e' hf=>?_
  replace e:=e.tr e'
  replace B2:=B2.ext e'
  replace B3:=B3.ext e'
  replace B4:=B4.ext e'
  clear e'
  obtain⟨z,hz,hf⟩:=hf.opn 51 rfl
  obtain⟨z1,z2,rfl,hz1,hz2⟩:=Dv.gt.1 hz
  replace hf:=hf.kp [51,4]
  refine aD T36 hf rfl rfl (aX (slOne hz1) (slOne hz2)) B4 rfl rfl fun w hg hsz B4 hf=>?_
  replace e:=e.gr hg hle4;replace hz:=AvR.av (row:=some b4) _ _ _ hg hz;clear hg
  refine ae hf rfl (by decide) fun a hf=>?_
  refine aa ?_
  refine aj (ib rfl T36 hf rfl rfl B4 rfl ?_)
  rintro _ rfl
  exact⟨_,rfl,e,fin _ _ _ _ e (Dv.weak hz fun b _=>.inl) (by rw[doR,if_neg h1n,if_neg h2n,if_pos h3p])⟩
 refine ak ?_
 simp only[Exit.then,Exit.inBlock,↓reduceIte]
 replace hf:=hf.kp [2,3,4]
 have h3n:=aC hb;clear hb
 have hdo:doR g d=(cZ g d,0):=by rw[doR,if_neg h1n,if_neg h2n,if_neg h3n]
 refine seq ?_
 refine ac 1 hf (by decide +kernel) ?_
 refine st (bh [] rfl jZ) ?_
 refine en fun a w e' hf=>?_
 replace e:=e.tr e'
 replace B2:=B2.ext e'
 replace B3:=B3.ext e'
 replace B4:=B4.ext e'
 clear e'
 refine aJ I36 hf (by decide) fun a b7 w e' hb7 hs7 B7 hf=>?_
 have hle7:=Nat.le_trans e.size (Nat.le_of_eq hb7.symm)
 have lt7_B2:=B2.lt
 have lt7_B3:=B3.lt
 have lt7_B4:=B4.lt
 replace e:=e.tr e'
 replace B2:=B2.ext e'
 replace B3:=B3.ext e'
 replace B4:=B4.ext e'
 clear e'
 haveI hinr:∀G0,InR (GB W G0) (some b7):=fun G0=>InR.gb (by omega)
 refine aD T36 hf rfl rfl (aX rfl rfl) B7 rfl (rfl) fun w hg hsz B7 hf=>?_
 replace e:=e.gr hg (by omega)
 replace B2:=B2.gr hg (by omega)
 replace B3:=B3.gr hg (by omega)
 replace B4:=B4.gr hg (by omega)
 clear hg
 refine aa ?_
 have hlE:=fun (k:Nat)=>Nat.le_trans (ie d (atE g d) 0 (g.2.take k)) (List.length_take_le k g.2)
 have hlV:=fun (k:Nat)=>Nat.le_trans (List.length_filterMap_le (keepV d) (g.1.take k)) (List.length_take_le k g.1)
 replace hf:=hf.kp [2,3,4,7]
 repeat refine seq ?_
 refine ah ?_
 refine ae hf rfl (by decide) fun a hf=>?_
 refine aa ?_
 replace hf:=hf.kp [2,3,4,7,8]
 refine blk (aG (fun r0 a w=>∃(k:Nat) (u:Value),r0=g.1.length - k∧k≤g.1.length∧Fr 183 a w [(2,E (.pointer (some ⟨b2,0,none⟩))),(3,E (.pointer (some ⟨b3,0,none⟩))),(4,E (.pointer (some ⟨b4,0,none⟩))),(7,E (.pointer (some ⟨b7,0,none⟩))),(8,E (I k))]∧Ext W w∧Blk w b2 #[.slice a1 n1 c1,.slice a2 n2 c2] 36∧Blk w b3 (dtV d).cells 45∧Blk w b4 #[.slice none 0 0,.slice none 0 0] 36∧Blk w b7 #[u,.slice none 0 0] 36∧OwR vtE 73 (b7+1) G w ((g.1.take k).filterMap (keepV d)) u) g.1.length ⟨0,.slice none 0 0,rfl,by omega,hf,e,⟨B2,B3,B4,B7,OwR.nil vtE _ (by have:=B7.lt;omega) fun b hb=>Nat.lt_of_lt_of_le (hG b hb) (by omega)⟩⟩ ?_)
 clear hf e;try clear B2;try clear B3;try clear B4;try clear B7;try clear Ho
 rintro r0 a w ⟨k,u,rfl,hk,hf,e,B2,B3,B4,B7,Ho⟩
 repeat refine seq ?_
 refine ac 5 hf (by decide +kernel) ?_
 refine st (mv rfl) ?_
 refine st (ai U36 rfl T33 (by decide) rfl) ?_
 refine st (ld1 T33 rfl (by assumption) rfl) ?_
 refine st (ay U33 (isE rfl (VA.st _ _ _ _ e h1))) ?_
 refine st (lss rfl rfl) ?_
 refine en fun a w e' hf=>?_
 replace e:=e.tr e'
 replace B2:=B2.ext e'
 replace B3:=B3.ext e'
 replace B4:=B4.ext e'
 replace B7:=B7.ext e'
 replace Ho:=Ho.ext e'
 refine aa ?_
 refine ifc hf rfl (fun hc=>ak ?_) (fun hc=>aF ?_)
 rotate_left
 rotate_left
 ·have hlt:k<g.1.length:=by have:=of_decide_eq_true hc;(try dsimp only at this);omega
  clear hc
  replace hf:=hf.kp [2,3,4,7,8]
  refine seq ?_
  refine blk ?_
  have hg:=List.getElem?_eq_getElem hlt
  generalize g.1[k]=y at hg
  have hs:=tI d hg
  have hlk:=hlV k
  refine seq ?_
  refine ah ?_
  refine ar hf (by decide) (ai U36 rfl T33 (by decide) rfl) fun a w e' hf=>?_
  replace Ho:=Ho.ext e'
  replace e:=e.tr e'
  replace B2:=B2.ext e'
  replace B3:=B3.ext e'
  replace B4:=B4.ext e'
  replace B7:=B7.ext e'
  clear e'
  refine ar hf (by decide) (ld1 T33 rfl B2 rfl) fun a w e' hf=>?_
  replace Ho:=Ho.ext e'
  replace e:=e.tr e'
  replace B2:=B2.ext e'
  replace B3:=B3.ext e'
  replace B4:=B4.ext e'
  replace B7:=B7.ext e'
  clear e'
  refine ar hf (by decide) (mv rfl) fun a w e' hf=>?_
  replace Ho:=Ho.ext e'
  replace e:=e.tr e'
  replace B2:=B2.ext e'
  replace B3:=B3.ext e'
  replace B4:=B4.ext e'
  replace B7:=B7.ext e'
  clear e'
  refine ar hf (by decide) (az U33 S73 (isE rfl (VA.st _ _ _ _ e h1b)) rfl (by omega) (hg)) fun a w e' hf=>?_
  replace Ho:=Ho.ext e'
  replace e:=e.tr e'
  replace B2:=B2.ext e'
  replace B3:=B3.ext e'
  replace B4:=B4.ext e'
  replace B7:=B7.ext e'
  clear e'
  refine ar hf (by decide) (ev T73 (isR rfl)) fun a w e' hf=>?_
  replace Ho:=Ho.ext e'
  replace e:=e.tr e'
  replace B2:=B2.ext e'
  replace B3:=B3.ext e'
  replace B4:=B4.ext e'
  replace B7:=B7.ext e'
  clear e'
  refine aJ I73 hf (by decide) fun a b9 w e' hb9 hs9 B9 hf=>?_
  have hle9:=Nat.le_trans e.size (Nat.le_of_eq hb9.symm)
  have ne9_Ho:=Ho.ne_new hb9
  have lt9_B2:=B2.lt
  have lt9_B3:=B3.lt
  have lt9_B4:=B4.lt
  have lt9_B7:=B7.lt
  replace Ho:=Ho.ext e'
  replace e:=e.tr e'
  replace B2:=B2.ext e'
  replace B3:=B3.ext e'
  replace B4:=B4.ext e'
  replace B7:=B7.ext e'
  clear e'
  have n9:=ne9_Ho
  replace hf:=hf.kp [2,3,4,7,8,9,64]
  refine aD T73 hf rfl rfl (jX y) B9 rfl rfl fun w hg' hsz B9 hf=>?_
  replace e:=e.gr hg' (by omega);replace B2:=B2.gr hg' (by omega);replace B3:=B3.gr hg' (by omega);replace B4:=B4.gr hg' (by omega);replace B7:=B7.gr hg' (by omega);replace Ho:=Ho.grE hg' n9;clear hg'
  refine aa ?_
  replace hf:=hf.kp [2,3,4,7,8,9]
  repeat refine seq ?_
  refine ac 10 hf (by decide +kernel) ?_
  refine st (ai U73 rfl T3 (by decide) rfl) ?_
  refine st (ld1 T3 rfl B9 rfl) ?_
  refine st (ai U45 rfl T3 (by decide) rfl) ?_
  refine st (ld1 T3 rfl B3 rfl) ?_
  refine st (eql rfl rfl) ?_
  refine st (mv rfl) ?_
  refine sgE rfl rfl (.k 3 rfl .n) (fun hgd=>ai U45 rfl T3 (by decide) rfl) ?_
  refine sgE rfl rfl (.c 71 rfl (fun h=>h) .n) (fun hgd=>ld1 T3 rfl B3 rfl) ?_
  refine sgE rfl rfl (.c 72 rfl (fun h=>h) .n) (fun hgd=>eql rfl rfl) ?_
  refine st (aW rfl rfl (fun h=>by rw[h];rfl)) ?_
  refine en fun a w e' hf=>?_
  replace Ho:=Ho.ext e'
  replace e:=e.tr e'
  replace B2:=B2.ext e'
  replace B3:=B3.ext e'
  replace B4:=B4.ext e'
  replace B7:=B7.ext e'
  replace B9:=B9.ext e'
  refine aa ?_
  refine ifc hf rfl (fun hb=>?_) (fun hb=>?_)
  ·refine aF ?_
   simp only[Exit.then,Exit.inBlock,↓reduceIte]
   replace hf:=hf.kp [2,3,4,7,8]
   refine ac 2 hf (by decide +kernel) ?_
   refine st (mv rfl) ?_
   refine st ((add rfl rfl (by omega)).eq (congrArg (Value.int .i64) (show (k:Int)+1=((k+1:Nat):Int) from rfl))) ?_
   refine en fun a w e' hf=>?_
   replace Ho:=Ho.ext e'
   replace e:=e.tr e'
   replace B2:=B2.ext e'
   replace B3:=B3.ext e'
   replace B4:=B4.ext e'
   replace B7:=B7.ext e'
   refine ae hf rfl (by decide) fun a hf=>?_
   refine aa ?_
   replace hf:=hf.kp [2,3,4,7,8]
   refine⟨_,?_,k+1,u,rfl,by omega,hf,e,?_⟩
   ·omega
   rw[hs,keepV,if_pos hb]
   exact⟨B2,B3,B4,B7,by simpa using Ho⟩
  refine ak ?_
  simp only[Exit.then,Exit.inBlock,↓reduceIte]
  have hkv:=aC hb;clear hb
  replace hf:=hf.kp [2,3,4,7,8,9]
  repeat refine seq ?_
  refine ac 10 hf (by decide +kernel) ?_
  refine st (ai U73 rfl T3 (by decide) rfl) ?_
  refine st (ld1 T3 rfl B9 rfl) ?_
  refine st (ai U45 rfl T3 (by decide) rfl) ?_
  refine st (ld1 T3 rfl B3 rfl) ?_
  refine st (eql rfl rfl) ?_
  refine st (mv rfl) ?_
  refine sgE rfl rfl (.k 3 rfl .n) (fun hgd=>ai U45 rfl T3 (by decide) rfl) ?_
  refine sgE rfl rfl (.c 81 rfl (fun h=>h) .n) (fun hgd=>ld1 T3 rfl B3 rfl) ?_
  refine sgE rfl rfl (.c 82 rfl (fun h=>h) .n) (fun hgd=>eql rfl rfl) ?_
  refine st (aW rfl rfl (fun h=>by rw[h];rfl)) ?_
  refine en fun a w e' hf=>?_
  replace Ho:=Ho.ext e'
  replace e:=e.tr e'
  replace B2:=B2.ext e'
  replace B3:=B3.ext e'
  replace B4:=B4.ext e'
  replace B7:=B7.ext e'
  replace B9:=B9.ext e'
  refine aa ?_
  refine cut (J:=fun a w=>Fr 183 a w [(2,E (.pointer (some ⟨b2,0,none⟩))),(3,E (.pointer (some ⟨b3,0,none⟩))),(4,E (.pointer (some ⟨b4,0,none⟩))),(7,E (.pointer (some ⟨b7,0,none⟩))),(8,E (I k)),(9,E (.pointer (some ⟨b9,0,none⟩)))]∧Ext W w∧Blk w b2 #[.slice a1 n1 c1,.slice a2 n2 c2] 36∧Blk w b3 (dtV d).cells 45∧Blk w b4 #[.slice none 0 0,.slice none 0 0] 36∧Blk w b7 #[u,.slice none 0 0] 36∧Blk w b9 #[.int .i64 y.1,.int .u8 (if (y.1==d.2.1&&d.1==4)=true then d.2.2.2.1 else y.2.1),.int .i64 y.2.2] 73∧OwR vtE 73 (b7+1) G w ((g.1.take k).filterMap (keepV d)) u) ?_ (fun a w hJ=>?_)
  ·repeat refine seq ?_
   refine ifc hf rfl (fun hb=>?_) (fun hb=>?_)
   ·replace hf:=hf.kp [2,3,4,7,8,9]
    refine ac 3 hf (by decide +kernel) ?_
    refine st (ai U45 rfl T5 (by decide) rfl) ?_
    refine st (ld1 T5 rfl B3 rfl) ?_
    refine st (ai U73 rfl T5 (by decide) rfl) ?_
    refine en fun a w e' hf=>?_
    replace Ho:=Ho.ext e'
    replace e:=e.tr e'
    replace B2:=B2.ext e'
    replace B3:=B3.ext e'
    replace B4:=B4.ext e'
    replace B7:=B7.ext e'
    replace B9:=B9.ext e'
    clear e'
    refine aP T5 hf rfl rfl (rfl) B9 (by simp) fun w hg hsz B9 hf=>?_
    replace Ho:=Ho.grE hg n9
    replace e:=e.gr hg (by omega)
    replace B2:=B2.gr hg (by omega)
    replace B3:=B3.gr hg (by omega)
    replace B4:=B4.gr hg (by omega)
    replace B7:=B7.gr hg (by omega)
    clear hg
    refine aa ?_
    rw[if_pos hb]
    replace hf:=hf.kp [2,3,4,7,8,9]
    exact⟨rfl,hf,e,B2,B3,B4,B7,B9,Ho⟩
   ·refine ak ?_
    rw[if_neg (aC hb)]
    replace hf:=hf.kp [2,3,4,7,8,9]
    exact⟨rfl,hf,e,B2,B3,B4,B7,B9,Ho⟩
  clear hf e B2 B3 B4 B7 B9 Ho
  obtain⟨hf,e,B2,B3,B4,B7,B9,Ho⟩:=hJ
  simp only[Exit.then]
  repeat refine seq ?_
  refine ac 10 hf (by decide +kernel) ?_
  refine st (ai U73 rfl T3 (by decide) rfl) ?_
  refine st (ld1 T3 rfl B9 rfl) ?_
  refine st (ai U45 rfl T3 (by decide) rfl) ?_
  refine st (ld1 T3 rfl B3 rfl) ?_
  refine st (eql rfl rfl) ?_
  refine st (mv rfl) ?_
  refine sgE rfl rfl (.k 3 rfl .n) (fun hgd=>ai U45 rfl T3 (by decide) rfl) ?_
  refine sgE rfl rfl (.c 94 rfl (fun h=>h) .n) (fun hgd=>ld1 T3 rfl B3 rfl) ?_
  refine sgE rfl rfl (.c 95 rfl (fun h=>h) .n) (fun hgd=>eql rfl rfl) ?_
  refine st (aW rfl rfl (fun h=>by rw[h];rfl)) ?_
  refine en fun a w e' hf=>?_
  replace Ho:=Ho.ext e'
  replace e:=e.tr e'
  replace B2:=B2.ext e'
  replace B3:=B3.ext e'
  replace B4:=B4.ext e'
  replace B7:=B7.ext e'
  replace B9:=B9.ext e'
  refine aa ?_
  refine cut (J:=fun a w=>Fr 183 a w [(2,E (.pointer (some ⟨b2,0,none⟩))),(3,E (.pointer (some ⟨b3,0,none⟩))),(4,E (.pointer (some ⟨b4,0,none⟩))),(7,E (.pointer (some ⟨b7,0,none⟩))),(8,E (I k)),(9,E (.pointer (some ⟨b9,0,none⟩)))]∧Ext W w∧Blk w b2 #[.slice a1 n1 c1,.slice a2 n2 c2] 36∧Blk w b3 (dtV d).cells 45∧Blk w b4 #[.slice none 0 0,.slice none 0 0] 36∧Blk w b7 #[u,.slice none 0 0] 36∧Blk w b9 #[.int .i64 y.1,.int .u8 (if (y.1==d.2.1&&d.1==4)=true then d.2.2.2.1 else y.2.1),.int .i64 (if (y.1==d.2.1&&d.1==5)=true then d.2.2.2.2 else y.2.2)] 73∧OwR vtE 73 (b7+1) G w ((g.1.take k).filterMap (keepV d)) u) ?_ (fun a w hJ=>?_)
  ·repeat refine seq ?_
   refine ifc hf rfl (fun hb=>?_) (fun hb=>?_)
   ·replace hf:=hf.kp [2,3,4,7,8,9]
    refine ac 3 hf (by decide +kernel) ?_
    refine st (ai U45 rfl T3 (by decide) rfl) ?_
    refine st (ld1 T3 rfl B3 rfl) ?_
    refine st (ai U73 rfl T3 (by decide) rfl) ?_
    refine en fun a w e' hf=>?_
    replace Ho:=Ho.ext e'
    replace e:=e.tr e'
    replace B2:=B2.ext e'
    replace B3:=B3.ext e'
    replace B4:=B4.ext e'
    replace B7:=B7.ext e'
    replace B9:=B9.ext e'
    clear e'
    refine aP T3 hf rfl rfl (rfl) B9 (by simp) fun w hg hsz B9 hf=>?_
    replace Ho:=Ho.grE hg n9
    replace e:=e.gr hg (by omega)
    replace B2:=B2.gr hg (by omega)
    replace B3:=B3.gr hg (by omega)
    replace B4:=B4.gr hg (by omega)
    replace B7:=B7.gr hg (by omega)
    clear hg
    refine aa ?_
    rw[if_pos hb]
    replace hf:=hf.kp [2,3,4,7,8,9]
    exact⟨rfl,hf,e,B2,B3,B4,B7,B9,Ho⟩
   ·refine ak ?_
    rw[if_neg (aC hb)]
    replace hf:=hf.kp [2,3,4,7,8,9]
    exact⟨rfl,hf,e,B2,B3,B4,B7,B9,Ho⟩
  clear hf e B2 B3 B4 B7 B9 Ho
  obtain⟨hf,e,B2,B3,B4,B7,B9,Ho⟩:=hJ
  simp only[Exit.then]
  rw[keepV,if_neg hkv] at hs
  obtain⟨y',hy'⟩:∃y':VT,y'=(y.1,(if (y.1==d.2.1&&d.1==4)=true then d.2.2.2.1 else y.2.1),(if (y.1==d.2.1&&d.1==5)=true then d.2.2.2.2 else y.2.2)):=⟨_,rfl⟩
  replace B9:Blk w b9 (vtV y').cells 73:=by rw[hy'];exact B9
  rw[← hy'] at hs
  clear hy'
  have n2:=Ho.neLt (b:=b2) (by omega);have n3:=Ho.neLt (b:=b3) (by omega);have n4:=Ho.neLt (b:=b4) (by omega);have n7:=Ho.neLt (b:=b7) (by omega)
  refine ac 4 hf (by decide +kernel) ?_
  refine st (ai U36 rfl T33 (by decide) rfl) ?_
  refine st ((ld1 T33 rfl (by assumption) rfl).eq ((rfl:_=u))) ?_
  refine st ((ldW T73 rfl B9 rfl).eq ((rfl:_=vtV y'))) ?_
  refine st (br U33 I73 rfl (by decide) rfl Ho.avs (eI rfl)) ?_
  refine en fun a w e' hf=>?_
  replace Ho:=Ho.ext e'
  replace e:=e.tr e'
  replace B2:=B2.ext e'
  replace B3:=B3.ext e'
  replace B4:=B4.ext e'
  replace B7:=B7.ext e'
  replace B9:=B9.ext e'
  clear e'
  haveI hin:∀G0,InR (GB W G0) _:=OwR.inGB (W:=W) Ho (by omega)
  refine bs U33 I73 rfl rfl hf (by decide) rfl Ho (isR rfl) (by simp only[List.length_singleton];omega) (by simp only[List.length_singleton,maxLen];omega) fun a v w hg hat Hn hf=>?_
  replace e:=e.gro hg (Ho.row (W:=W) (by omega))
  have hrow:=Ho.row (W:=W) (by omega)
  replace Ho:=Hn
  clear hrow
  replace B2:=B2.gro hg (by assumption)
  replace B3:=B3.gro hg (by assumption)
  replace B4:=B4.gro hg (by assumption)
  replace B7:=B7.gro hg (by assumption)
  replace B9:=B9.gro hg (by assumption)
  replace Ho:=Hn;clear Hn hg hat hin
  replace hf:=hf.kp [2,3,4,7,8,105]
  clear n2 n3 n4 n7 n9
  refine ar hf (by decide) (ai U36 rfl T33 (by decide) rfl) fun a w e' hf=>?_
  replace Ho:=Ho.ext e'
  replace e:=e.tr e'
  replace B2:=B2.ext e'
  replace B3:=B3.ext e'
  replace B4:=B4.ext e'
  replace B7:=B7.ext e'
  clear e'
  refine aP T33 hf rfl rfl (slOne Ho.sl) B7 (by simp) fun w hg hsz B7 hf=>?_
  replace Ho:=Ho.grE hg (Ho.neLt (by omega))
  replace e:=e.gr hg (by omega)
  replace B2:=B2.gr hg (by omega)
  replace B3:=B3.gr hg (by omega)
  replace B4:=B4.gr hg (by omega)
  clear hg
  refine aa ?_
  simp only[Exit.then,Exit.inBlock,↓reduceIte]
  refine ac 2 hf (by decide +kernel) ?_
  refine st (mv rfl) ?_
  refine st ((add rfl rfl (by omega)).eq (congrArg (Value.int .i64) (show (k:Int)+1=((k+1:Nat):Int) from rfl))) ?_
  refine en fun a w e' hf=>?_
  replace Ho:=Ho.ext e'
  replace e:=e.tr e'
  replace B2:=B2.ext e'
  replace B3:=B3.ext e'
  replace B4:=B4.ext e'
  replace B7:=B7.ext e'
  refine ae hf rfl (by decide) fun a hf=>?_
  refine aa ?_
  replace hf:=hf.kp [2,3,4,7,8]
  refine⟨_,?_,k+1,v,rfl,by omega,hf,e,?_⟩
  ·omega
  exact⟨B2,B3,B4,B7,by rw[hs];exact Ho⟩
 ·obtain rfl:k=g.1.length:=by have:=of_decide_eq_false hc;(try dsimp only at this);omega
  clear hc
  simp only[Exit.then,Exit.inBlock,↓reduceIte]
  rw[List.take_length] at Ho
  obtain⟨av,nv,cv,rfl⟩:=Dv.slF Ho.sl
  have hown:∀bb,(Value.slice av nv cv).ownBlock=some bb→bb<w.heap.size:=fun bb h=>(Ho.lt h).2
  have HOo:=Ho
  refine seq ?_
  refine ah ?_
  refine ae hf rfl (by decide) fun a hf=>?_
  refine aa ?_
  replace hf:=hf.kp [2,3,4,7,10]
  repeat refine seq ?_
  refine ac 2 hf (by decide +kernel) ?_
  refine st ((ldW T45 rfl B3 rfl).eq ((rfl:_=dtV d))) ?_
  refine st (aw gX rfl (fun v w he h=>by cases h;exact nP d w)) ?_
  refine en fun a w e' hf=>?_
  replace Ho:=Ho.ext e'
  replace e:=e.tr e'
  replace B2:=B2.ext e'
  replace B3:=B3.ext e'
  replace B4:=B4.ext e'
  replace B7:=B7.ext e'
  refine aa ?_
  refine cut (J:=fun a w=>Fr 183 a w [(2,E (.pointer (some ⟨b2,0,none⟩))),(3,E (.pointer (some ⟨b3,0,none⟩))),(4,E (.pointer (some ⟨b4,0,none⟩))),(7,E (.pointer (some ⟨b7,0,none⟩))),(10,E (I (atE g d)))]∧Ext W w∧Blk w b2 #[.slice a1 n1 c1,.slice a2 n2 c2] 36∧Blk w b3 (dtV d).cells 45∧Blk w b4 #[.slice none 0 0,.slice none 0 0] 36∧Blk w b7 #[.slice av nv cv,.slice none 0 0] 36∧OwR vtE 73 (b7+1) G w (g.1.filterMap (keepV d)) (.slice av nv cv)) ?_ (fun a w hJ=>?_)
  ·repeat refine seq ?_
   refine ifc hf rfl (fun hb=>?_) (fun hb=>?_)
   ·replace hf:=hf.kp [2,3,4,7]
    refine ac 6 hf (by decide +kernel) ?_
    refine st ((ldW T36 rfl B2 rfl).eq ((rfl:_=Value.agg #[.slice a1 n1 c1,.slice a2 n2 c2]))) ?_
    refine st (ai U45 rfl T3 (by decide) rfl) ?_
    refine st (ld1 T3 rfl B3 rfl) ?_
    refine st (ai U45 rfl T3 (by decide) rfl) ?_
    refine st (ld1 T3 rfl B3 rfl) ?_
    refine st (eT (A:=E (I (ci g.2 d.2.1 d.2.2.1))) iY rfl rfl rfl (fun v u x w he k k' k''=>by cases k;cases k';cases k'';exact nO g d.2.1 d.2.2.1 _ w (VA.st _ _ _ _ (Ext.tr e he) h) hl2)) ?_
    refine en fun a w e' hf=>?_
    replace Ho:=Ho.ext e'
    replace e:=e.tr e'
    replace B2:=B2.ext e'
    replace B3:=B3.ext e'
    replace B4:=B4.ext e'
    replace B7:=B7.ext e'
    refine ae hf rfl (by decide) fun a hf=>?_
    refine aa ?_
    rw[atE,if_pos hb]
    replace hf:=hf.kp [2,3,4,7,10]
    exact⟨rfl,hf,e,B2,B3,B4,B7,Ho⟩
   ·refine ak ?_
    rw[atE,if_neg (aC hb)]
    replace hf:=hf.kp [2,3,4,7,10]
    exact⟨rfl,hf,e,B2,B3,B4,B7,Ho⟩
  clear hf e B2 B3 B4 B7 Ho
  obtain⟨hf,e,B2,B3,B4,B7,Ho⟩:=hJ
  simp only[Exit.then]
  rw[cZ] at hdo
  generalize atE g d=at' at hf hdo hlE
  obtain⟨NV,hNV⟩:∃NV:Nat→Prop,NV=fun b=>(Value.slice av nv cv).ownBlock≠some b:=⟨_,rfl⟩
  have HD:(Dv (slE vtE) NV (g.1.filterMap (keepV d))).p (.slice av nv cv) w:=Ho.slN fun b hb=>by rw[hNV];exact fun h=>h hb
  obtain⟨N5,hN5⟩:∃N5,N5=w.heap.size:=⟨_,rfl⟩
  have l7:=B7.lt
  have nV:∀bb,(bb≤b7∨N5≤bb)→NV bb:=fun bb hb=>by rw[hNV];intro h;have h3:=Ho.lt h;omega
  have hNG:∀b,G b→NV b:=fun b hb=>by rw[hNV];intro h;have h3:=Ho.lt h;have:=hG b hb;omega
  have hN7:b7<N5:=by rw[hN5];exact l7
  have hN5s:N5≤w.heap.size:=Nat.le_of_eq hN5
  clear hN5 hNV l7 Ho HOo hown
  replace hf:=hf.kp [2,3,4,7,10]
  repeat refine seq ?_
  refine ah ?_
  refine ae hf rfl (by decide) fun a hf=>?_
  refine aa ?_
  replace hf:=hf.kp [2,3,4,7,10,11]
  refine blk (aG (fun r0 a w=>∃(k:Nat) (u:Value),r0=g.2.length - k∧k≤g.2.length∧Fr 183 a w [(2,E (.pointer (some ⟨b2,0,none⟩))),(3,E (.pointer (some ⟨b3,0,none⟩))),(4,E (.pointer (some ⟨b4,0,none⟩))),(7,E (.pointer (some ⟨b7,0,none⟩))),(10,E (I at')),(11,E (I k))]∧Ext W w∧Blk w b2 #[.slice a1 n1 c1,.slice a2 n2 c2] 36∧Blk w b3 (dtV d).cells 45∧Blk w b4 #[.slice none 0 0,.slice none 0 0] 36∧Blk w b7 #[.slice av nv cv,u] 36∧(Dv (slE vtE) NV (g.1.filterMap (keepV d))).p (.slice av nv cv) w∧OwR etE 76 N5 G w (bq d at' 0 (g.2.take k)) u∧N5≤w.heap.size) g.2.length ⟨0,.slice none 0 0,rfl,by omega,hf,e,⟨B2,B3,B4,B7,HD,OwR.nil etE _ hN5s fun b hb=>Nat.lt_of_lt_of_le (hG b hb) (by omega),hN5s⟩⟩ ?_)
  clear hf e;try clear B2;try clear B3;try clear B4;try clear B7;try clear HD;try clear Ho;try clear hN5s
  rintro r0 a w ⟨k,u,rfl,hk,hf,e,B2,B3,B4,B7,HD,Ho,hN5s⟩
  repeat refine seq ?_
  refine ac 5 hf (by decide +kernel) ?_
  refine st (mv rfl) ?_
  refine st (ai U36 rfl T34 (by decide) rfl) ?_
  refine st (ld1 T34 rfl (by assumption) rfl) ?_
  refine st (ay U34 (isE rfl (VA.st _ _ _ _ e h2))) ?_
  refine st (lss rfl rfl) ?_
  refine en fun a w e' hf=>?_
  replace HD:=VA.st _ _ _ _ e' HD
  replace hN5s:=Nat.le_trans hN5s e'.size
  replace e:=e.tr e'
  replace B2:=B2.ext e'
  replace B3:=B3.ext e'
  replace B4:=B4.ext e'
  replace B7:=B7.ext e'
  replace Ho:=Ho.ext e'
  refine aa ?_
  refine ifc hf rfl (fun hc=>ak ?_) (fun hc=>aF ?_)
  rotate_left
  rotate_left
  ·have hlt:k<g.2.length:=by have:=of_decide_eq_true hc;(try dsimp only at this);omega
   clear hc
   replace hf:=hf.kp [2,3,4,7,10,11]
   refine seq ?_
   refine blk ?_
   have hg:=List.getElem?_eq_getElem hlt
   generalize g.2[k]=y at hg
   have hs:=tH d at' hg
   have hlk:=hlE k
   refine seq ?_
   refine ah ?_
   refine ar hf (by decide) (ai U36 rfl T34 (by decide) rfl) fun a w e' hf=>?_
   replace HD:=VA.st _ _ _ _ e' HD
   replace hN5s:=Nat.le_trans hN5s e'.size
   replace Ho:=Ho.ext e'
   replace e:=e.tr e'
   replace B2:=B2.ext e'
   replace B3:=B3.ext e'
   replace B4:=B4.ext e'
   replace B7:=B7.ext e'
   clear e'
   refine ar hf (by decide) (ld1 T34 rfl B2 rfl) fun a w e' hf=>?_
   replace HD:=VA.st _ _ _ _ e' HD
   replace hN5s:=Nat.le_trans hN5s e'.size
   replace Ho:=Ho.ext e'
   replace e:=e.tr e'
   replace B2:=B2.ext e'
   replace B3:=B3.ext e'
   replace B4:=B4.ext e'
   replace B7:=B7.ext e'
   clear e'
   refine ar hf (by decide) (mv rfl) fun a w e' hf=>?_
   replace HD:=VA.st _ _ _ _ e' HD
   replace hN5s:=Nat.le_trans hN5s e'.size
   replace Ho:=Ho.ext e'
   replace e:=e.tr e'
   replace B2:=B2.ext e'
   replace B3:=B3.ext e'
   replace B4:=B4.ext e'
   replace B7:=B7.ext e'
   clear e'
   refine ar hf (by decide) (az U34 S76 (isE rfl (VA.st _ _ _ _ e h2b)) rfl (by omega) (hg)) fun a w e' hf=>?_
   replace HD:=VA.st _ _ _ _ e' HD
   replace hN5s:=Nat.le_trans hN5s e'.size
   replace Ho:=Ho.ext e'
   replace e:=e.tr e'
   replace B2:=B2.ext e'
   replace B3:=B3.ext e'
   replace B4:=B4.ext e'
   replace B7:=B7.ext e'
   clear e'
   refine ar hf (by decide) (eH T76 (isR rfl)) fun a w e' hf=>?_
   replace HD:=VA.st _ _ _ _ e' HD
   replace hN5s:=Nat.le_trans hN5s e'.size
   replace Ho:=Ho.ext e'
   replace e:=e.tr e'
   replace B2:=B2.ext e'
   replace B3:=B3.ext e'
   replace B4:=B4.ext e'
   replace B7:=B7.ext e'
   clear e'
   refine aJ I76 hf (by decide) fun a b12 w e' hb12 hs12 B12 hf=>?_
   have hle12:=Nat.le_trans e.size (Nat.le_of_eq hb12.symm)
   have lo12_hN5s:=Nat.le_trans hN5s (Nat.le_of_eq hb12.symm)
   have ne12_Ho:=Ho.ne_new hb12
   have lt12_B2:=B2.lt
   have lt12_B3:=B3.lt
   have lt12_B4:=B4.lt
   have lt12_B7:=B7.lt
   replace HD:=VA.st _ _ _ _ e' HD
   replace hN5s:=Nat.le_trans hN5s e'.size
   replace Ho:=Ho.ext e'
   replace e:=e.tr e'
   replace B2:=B2.ext e'
   replace B3:=B3.ext e'
   replace B4:=B4.ext e'
   replace B7:=B7.ext e'
   clear e'
   have n12:=ne12_Ho
   replace hf:=hf.kp [2,3,4,7,10,11,12,126]
   refine aD T76 hf rfl rfl (jY y) B12 rfl rfl fun w hg' hsz B12 hf=>?_
   replace e:=e.gr hg' (by omega);replace B2:=B2.gr hg' (by omega);replace B3:=B3.gr hg' (by omega);replace B4:=B4.gr hg' (by omega);replace B7:=B7.gr hg' (by omega);replace Ho:=Ho.grE hg' n12
   replace HD:=Dv.grN HD hg' (fun bb hb=>nV bb (by cases hb;omega));replace hN5s:=Nat.le_trans hN5s hg'.size;clear hg'
   refine aa ?_
   replace hf:=hf.kp [2,3,4,7,10,11,12]
   repeat refine seq ?_
   refine ac 27 hf (by decide +kernel) ?_
   refine st (ai U45 rfl T3 (by decide) rfl) ?_
   refine st (ld1 T3 rfl B3 rfl) ?_
   refine st (eql rfl rfl) ?_
   refine st (mv rfl) ?_
   refine sgE rfl rfl (.k 12 rfl .n) (fun hgd=>ai U76 rfl T3 (by decide) rfl) ?_
   refine sgE rfl rfl (.c 131 rfl (fun h=>h) .n) (fun hgd=>ld1 T3 rfl B12 rfl) ?_
   refine sgE rfl rfl (.k 3 rfl .n) (fun hgd=>ai U45 rfl T3 (by decide) rfl) ?_
   refine sgE rfl rfl (.c 133 rfl (fun h=>h) .n) (fun hgd=>ld1 T3 rfl B3 rfl) ?_
   refine sgE rfl rfl (.c 132 rfl (fun h=>h) (.c 134 rfl (fun h=>h) .n)) (fun hgd=>eql rfl rfl) ?_
   refine sgE rfl rfl (.c 135 rfl (fun h=>h) .n) (fun hgd=>mv rfl) ?_
   refine sgC rfl rfl (.k 12 rfl .n) (fun hgd=>ai U76 rfl T3 (by decide) rfl) ?_
   refine sgC rfl rfl (.c 137 rfl (fun h=>h) .n) (fun hgd=>ld1 T3 rfl B12 rfl) ?_
   refine sgC rfl rfl (.k 3 rfl .n) (fun hgd=>ai U45 rfl T3 (by decide) rfl) ?_
   refine sgC rfl rfl (.c 139 rfl (fun h=>h) .n) (fun hgd=>ld1 T3 rfl B3 rfl) ?_
   refine sgC rfl rfl (.c 138 rfl (fun h=>h) (.c 140 rfl (fun h=>h) .n)) (fun hgd=>eql rfl rfl) ?_
   refine sgE rfl rfl (.c 136 rfl (fun h=>h) (.k 141 rfl .n)) (fun hgd=>aY rfl rfl (fun h=>by rw[hgd,h];rfl)) ?_
   refine st (aW rfl rfl (fun h=>by rw[h];rfl)) ?_
   refine st (mv rfl) ?_
   refine sgE rfl rfl (.k 3 rfl .n) (fun hgd=>ai U45 rfl T3 (by decide) rfl) ?_
   refine sgE rfl rfl (.c 145 rfl (fun h=>h) .n) (fun hgd=>ld1 T3 rfl B3 rfl) ?_
   refine sgE rfl rfl (.c 146 rfl (fun h=>h) .n) (fun hgd=>eql rfl rfl) ?_
   refine sgE rfl rfl (.c 147 rfl (fun h=>h) .n) (fun hgd=>mv rfl) ?_
   refine sgC rfl rfl (.k 11 rfl .n) (fun hgd=>mv rfl) ?_
   refine sgC rfl rfl (.k 10 rfl .n) (fun hgd=>mv rfl) ?_
   refine sgC rfl rfl (.c 149 rfl (fun h=>h) (.c 150 rfl (fun h=>h) .n)) (fun hgd=>eql rfl rfl) ?_
   refine sgE rfl rfl (.c 148 rfl (fun h=>h) (.k 151 rfl .n)) (fun hgd=>aW rfl rfl (fun h=>by rw[hgd,h];rfl)) ?_
   refine st (aY rfl rfl (fun h=>by rw[h];rfl)) ?_
   refine en fun a w e' hf=>?_
   replace HD:=VA.st _ _ _ _ e' HD
   replace hN5s:=Nat.le_trans hN5s e'.size
   replace Ho:=Ho.ext e'
   replace e:=e.tr e'
   replace B2:=B2.ext e'
   replace B3:=B3.ext e'
   replace B4:=B4.ext e'
   replace B7:=B7.ext e'
   replace B12:=B12.ext e'
   refine aa ?_
   refine ifc hf rfl (fun hb=>?_) (fun hb=>?_)
   ·refine aF ?_
    simp only[Exit.then,Exit.inBlock,↓reduceIte]
    replace hf:=hf.kp [2,3,4,7,10,11]
    refine ac 2 hf (by decide +kernel) ?_
    refine st (mv rfl) ?_
    refine st ((add rfl rfl (by omega)).eq (congrArg (Value.int .i64) (show (k:Int)+1=((k+1:Nat):Int) from rfl))) ?_
    refine en fun a w e' hf=>?_
    replace HD:=VA.st _ _ _ _ e' HD
    replace hN5s:=Nat.le_trans hN5s e'.size
    replace Ho:=Ho.ext e'
    replace e:=e.tr e'
    replace B2:=B2.ext e'
    replace B3:=B3.ext e'
    replace B4:=B4.ext e'
    replace B7:=B7.ext e'
    refine ae hf rfl (by decide) fun a hf=>?_
    refine aa ?_
    replace hf:=hf.kp [2,3,4,7,10,11]
    refine⟨_,?_,k+1,u,rfl,by omega,hf,e,?_⟩
    ·omega
    rw[hs,bN,if_pos hb]
    exact⟨B2,B3,B4,B7,HD,by simpa using Ho,hN5s⟩
   refine ak ?_
   simp only[Exit.then,Exit.inBlock,↓reduceIte]
   have hkv:=aC hb;clear hb
   replace hf:=hf.kp [2,3,4,7,10,11,12]
   repeat refine seq ?_
   refine ac 8 hf (by decide +kernel) ?_
   refine st (mv rfl) ?_
   refine st (mv rfl) ?_
   refine st (eql rfl rfl) ?_
   refine st (mv rfl) ?_
   refine sgE rfl rfl (.k 3 rfl .n) (fun hgd=>ai U45 rfl T3 (by decide) rfl) ?_
   refine sgE rfl rfl (.c 158 rfl (fun h=>h) .n) (fun hgd=>ld1 T3 rfl B3 rfl) ?_
   refine sgE rfl rfl (.c 159 rfl (fun h=>h) .n) (fun hgd=>eql rfl rfl) ?_
   refine st (aW rfl rfl (fun h=>by rw[h];rfl)) ?_
   refine en fun a w e' hf=>?_
   replace HD:=VA.st _ _ _ _ e' HD
   replace hN5s:=Nat.le_trans hN5s e'.size
   replace Ho:=Ho.ext e'
   replace e:=e.tr e'
   replace B2:=B2.ext e'
   replace B3:=B3.ext e'
   replace B4:=B4.ext e'
   replace B7:=B7.ext e'
   replace B12:=B12.ext e'
   refine aa ?_
   refine cut (J:=fun a w=>Fr 183 a w [(2,E (.pointer (some ⟨b2,0,none⟩))),(3,E (.pointer (some ⟨b3,0,none⟩))),(4,E (.pointer (some ⟨b4,0,none⟩))),(7,E (.pointer (some ⟨b7,0,none⟩))),(10,E (I at')),(11,E (I k)),(12,E (.pointer (some ⟨b12,0,none⟩)))]∧Ext W w∧Blk w b2 #[.slice a1 n1 c1,.slice a2 n2 c2] 36∧Blk w b3 (dtV d).cells 45∧Blk w b4 #[.slice none 0 0,.slice none 0 0] 36∧Blk w b7 #[.slice av nv cv,u] 36∧(Dv (slE vtE) NV (g.1.filterMap (keepV d))).p (.slice av nv cv) w∧Blk w b12 #[.int .i64 y.1.1,.int .i64 y.1.2,.int .u8 (if ((k:Int)==at'&&d.1==6)=true then d.2.2.2.1 else y.2.1),.int .i64 y.2.2] 76∧OwR etE 76 N5 G w (bq d at' 0 (g.2.take k)) u∧N5≤w.heap.size) ?_ (fun a w hJ=>?_)
   ·repeat refine seq ?_
    refine ifc hf rfl (fun hb=>?_) (fun hb=>?_)
    ·replace hf:=hf.kp [2,3,4,7,10,11,12]
     refine ac 3 hf (by decide +kernel) ?_
     refine st (ai U45 rfl T5 (by decide) rfl) ?_
     refine st (ld1 T5 rfl B3 rfl) ?_
     refine st (ai U76 rfl T5 (by decide) rfl) ?_
     refine en fun a w e' hf=>?_
     replace HD:=VA.st _ _ _ _ e' HD
     replace hN5s:=Nat.le_trans hN5s e'.size
     replace Ho:=Ho.ext e'
     replace e:=e.tr e'
     replace B2:=B2.ext e'
     replace B3:=B3.ext e'
     replace B4:=B4.ext e'
     replace B7:=B7.ext e'
     replace B12:=B12.ext e'
     clear e'
     refine aP T5 hf rfl rfl (rfl) B12 (by simp) fun w hg hsz B12 hf=>?_
     replace HD:=Dv.grN HD hg (fun bb hb=>nV bb (by cases hb;omega))
     replace hN5s:=Nat.le_trans hN5s hg.size
     replace Ho:=Ho.grE hg n12
     replace e:=e.gr hg (by omega)
     replace B2:=B2.gr hg (by omega)
     replace B3:=B3.gr hg (by omega)
     replace B4:=B4.gr hg (by omega)
     replace B7:=B7.gr hg (by omega)
     clear hg
     refine aa ?_
     rw[if_pos hb]
     replace hf:=hf.kp [2,3,4,7,10,11,12]
     exact⟨rfl,hf,e,B2,B3,B4,B7,HD,B12,Ho,hN5s⟩
    ·refine ak ?_
     rw[if_neg (aC hb)]
     replace hf:=hf.kp [2,3,4,7,10,11,12]
     exact⟨rfl,hf,e,B2,B3,B4,B7,HD,B12,Ho,hN5s⟩
   clear hf e B2 B3 B4 B7 HD B12 Ho hN5s
   obtain⟨hf,e,B2,B3,B4,B7,HD,B12,Ho,hN5s⟩:=hJ
   simp only[Exit.then]
   repeat refine seq ?_
   refine ac 8 hf (by decide +kernel) ?_
   refine st (mv rfl) ?_
   refine st (mv rfl) ?_
   refine st (eql rfl rfl) ?_
   refine st (mv rfl) ?_
   refine sgE rfl rfl (.k 3 rfl .n) (fun hgd=>ai U45 rfl T3 (by decide) rfl) ?_
   refine sgE rfl rfl (.c 169 rfl (fun h=>h) .n) (fun hgd=>ld1 T3 rfl B3 rfl) ?_
   refine sgE rfl rfl (.c 170 rfl (fun h=>h) .n) (fun hgd=>eql rfl rfl) ?_
   refine st (aW rfl rfl (fun h=>by rw[h];rfl)) ?_
   refine en fun a w e' hf=>?_
   replace HD:=VA.st _ _ _ _ e' HD
   replace hN5s:=Nat.le_trans hN5s e'.size
   replace Ho:=Ho.ext e'
   replace e:=e.tr e'
   replace B2:=B2.ext e'
   replace B3:=B3.ext e'
   replace B4:=B4.ext e'
   replace B7:=B7.ext e'
   replace B12:=B12.ext e'
   refine aa ?_
   refine cut (J:=fun a w=>Fr 183 a w [(2,E (.pointer (some ⟨b2,0,none⟩))),(3,E (.pointer (some ⟨b3,0,none⟩))),(4,E (.pointer (some ⟨b4,0,none⟩))),(7,E (.pointer (some ⟨b7,0,none⟩))),(10,E (I at')),(11,E (I k)),(12,E (.pointer (some ⟨b12,0,none⟩)))]∧Ext W w∧Blk w b2 #[.slice a1 n1 c1,.slice a2 n2 c2] 36∧Blk w b3 (dtV d).cells 45∧Blk w b4 #[.slice none 0 0,.slice none 0 0] 36∧Blk w b7 #[.slice av nv cv,u] 36∧(Dv (slE vtE) NV (g.1.filterMap (keepV d))).p (.slice av nv cv) w∧Blk w b12 #[.int .i64 y.1.1,.int .i64 y.1.2,.int .u8 (if ((k:Int)==at'&&d.1==6)=true then d.2.2.2.1 else y.2.1),.int .i64 (if ((k:Int)==at'&&d.1==7)=true then d.2.2.2.2 else y.2.2)] 76∧OwR etE 76 N5 G w (bq d at' 0 (g.2.take k)) u∧N5≤w.heap.size) ?_ (fun a w hJ=>?_)
   ·repeat refine seq ?_
    refine ifc hf rfl (fun hb=>?_) (fun hb=>?_)
    ·replace hf:=hf.kp [2,3,4,7,10,11,12]
     refine ac 3 hf (by decide +kernel) ?_
     refine st (ai U45 rfl T3 (by decide) rfl) ?_
     refine st (ld1 T3 rfl B3 rfl) ?_
     refine st (ai U76 rfl T3 (by decide) rfl) ?_
     refine en fun a w e' hf=>?_
     replace HD:=VA.st _ _ _ _ e' HD
     replace hN5s:=Nat.le_trans hN5s e'.size
     replace Ho:=Ho.ext e'
     replace e:=e.tr e'
     replace B2:=B2.ext e'
     replace B3:=B3.ext e'
     replace B4:=B4.ext e'
     replace B7:=B7.ext e'
     replace B12:=B12.ext e'
     clear e'
     refine aP T3 hf rfl rfl (rfl) B12 (by simp) fun w hg hsz B12 hf=>?_
     replace HD:=Dv.grN HD hg (fun bb hb=>nV bb (by cases hb;omega))
     replace hN5s:=Nat.le_trans hN5s hg.size
     replace Ho:=Ho.grE hg n12
     replace e:=e.gr hg (by omega)
     replace B2:=B2.gr hg (by omega)
     replace B3:=B3.gr hg (by omega)
     replace B4:=B4.gr hg (by omega)
     replace B7:=B7.gr hg (by omega)
     clear hg
     refine aa ?_
     rw[if_pos hb]
     replace hf:=hf.kp [2,3,4,7,10,11,12]
     exact⟨rfl,hf,e,B2,B3,B4,B7,HD,B12,Ho,hN5s⟩
    ·refine ak ?_
     rw[if_neg (aC hb)]
     replace hf:=hf.kp [2,3,4,7,10,11,12]
     exact⟨rfl,hf,e,B2,B3,B4,B7,HD,B12,Ho,hN5s⟩
   clear hf e B2 B3 B4 B7 HD B12 Ho hN5s
   obtain⟨hf,e,B2,B3,B4,B7,HD,B12,Ho,hN5s⟩:=hJ
   simp only[Exit.then]
   rw[bN,if_neg hkv] at hs
   obtain⟨y',hy'⟩:∃y':ET,y'=(y.1,(if ((k:Int)==at'&&d.1==6)=true then d.2.2.2.1 else y.2.1),(if ((k:Int)==at'&&d.1==7)=true then d.2.2.2.2 else y.2.2)):=⟨_,rfl⟩
   replace B12:Blk w b12 (etV y').cells 76:=by rw[hy'];exact B12
   rw[← hy'] at hs
   clear hy'
   have n2:=Ho.neLt (b:=b2) (by omega);have n3:=Ho.neLt (b:=b3) (by omega);have n4:=Ho.neLt (b:=b4) (by omega);have n7:=Ho.neLt (b:=b7) (by omega)
   refine ac 4 hf (by decide +kernel) ?_
   refine st (ai U36 rfl T34 (by decide) rfl) ?_
   refine st ((ld1 T34 rfl (by assumption) rfl).eq ((rfl:_=u))) ?_
   refine st ((ldW T76 rfl B12 rfl).eq ((rfl:_=etV y'))) ?_
   refine st (br U34 I76 rfl (by decide) rfl Ho.avs (eJ rfl)) ?_
   refine en fun a w e' hf=>?_
   replace HD:=VA.st _ _ _ _ e' HD
   replace hN5s:=Nat.le_trans hN5s e'.size
   replace Ho:=Ho.ext e'
   replace e:=e.tr e'
   replace B2:=B2.ext e'
   replace B3:=B3.ext e'
   replace B4:=B4.ext e'
   replace B7:=B7.ext e'
   replace B12:=B12.ext e'
   clear e'
   haveI hin:∀G0,InR (GB W G0) _:=OwR.inGB (W:=W) Ho (by omega)
   refine bs U34 I76 rfl rfl hf (by decide) rfl Ho (isR rfl) (by simp only[List.length_singleton];omega) (by simp only[List.length_singleton,maxLen];omega) fun a v w hg hat Hn hf=>?_
   replace e:=e.gro hg (Ho.row (W:=W) (by omega))
   have hrow:=Ho.row (W:=W) (by omega)
   replace HD:=Dv.grN HD hg (fun bb hb=>nV bb (.inr (Ho.lt hb).1))
   replace hN5s:=Nat.le_trans hN5s hg.size
   replace Ho:=Hn
   clear hrow
   replace B2:=B2.gro hg (by assumption)
   replace B3:=B3.gro hg (by assumption)
   replace B4:=B4.gro hg (by assumption)
   replace B7:=B7.gro hg (by assumption)
   replace B12:=B12.gro hg (by assumption)
   replace Ho:=Hn;clear Hn hg hat hin
   replace hf:=hf.kp [2,3,4,7,10,11,180]
   clear n2 n3 n4 n7 n12
   refine ar hf (by decide) (ai U36 rfl T34 (by decide) rfl) fun a w e' hf=>?_
   replace HD:=VA.st _ _ _ _ e' HD
   replace hN5s:=Nat.le_trans hN5s e'.size
   replace Ho:=Ho.ext e'
   replace e:=e.tr e'
   replace B2:=B2.ext e'
   replace B3:=B3.ext e'
   replace B4:=B4.ext e'
   replace B7:=B7.ext e'
   clear e'
   refine aP T34 hf rfl rfl (slOne Ho.sl) B7 (by simp) fun w hg hsz B7 hf=>?_
   replace HD:=Dv.grN HD hg (fun bb hb=>nV bb (by cases hb;omega))
   replace hN5s:=Nat.le_trans hN5s hg.size
   replace Ho:=Ho.grE hg (Ho.neLt (by omega))
   replace e:=e.gr hg (by omega)
   replace B2:=B2.gr hg (by omega)
   replace B3:=B3.gr hg (by omega)
   replace B4:=B4.gr hg (by omega)
   clear hg
   refine aa ?_
   simp only[Exit.then,Exit.inBlock,↓reduceIte]
   refine ac 2 hf (by decide +kernel) ?_
   refine st (mv rfl) ?_
   refine st ((add rfl rfl (by omega)).eq (congrArg (Value.int .i64) (show (k:Int)+1=((k+1:Nat):Int) from rfl))) ?_
   refine en fun a w e' hf=>?_
   replace HD:=VA.st _ _ _ _ e' HD
   replace hN5s:=Nat.le_trans hN5s e'.size
   replace Ho:=Ho.ext e'
   replace e:=e.tr e'
   replace B2:=B2.ext e'
   replace B3:=B3.ext e'
   replace B4:=B4.ext e'
   replace B7:=B7.ext e'
   refine ae hf rfl (by decide) fun a hf=>?_
   refine aa ?_
   replace hf:=hf.kp [2,3,4,7,10,11]
   refine⟨_,?_,k+1,v,rfl,by omega,hf,e,?_⟩
   ·omega
   exact⟨B2,B3,B4,B7,HD,by rw[hs];exact Ho,hN5s⟩
  ·obtain rfl:k=g.2.length:=by have:=of_decide_eq_false hc;(try dsimp only at this);omega
   clear hc
   simp only[Exit.then,Exit.inBlock,↓reduceIte]
   rw[List.take_length] at Ho
   replace hf:=hf.kp [4,7]
   refine seq ?_
   refine ac 1 hf (by decide +kernel) ?_
   refine st ((ldW T36 rfl (by assumption) rfl).eq ((rfl:_=Value.agg #[.slice av nv cv,u]))) ?_
   refine en fun a w e' hf=>?_
   replace HD:=VA.st _ _ _ _ e' HD
   replace hN5s:=Nat.le_trans hN5s e'.size
   replace Ho:=Ho.ext e'
   replace e:=e.tr e'
   replace B2:=B2.ext e'
   replace B3:=B3.ext e'
   replace B4:=B4.ext e'
   replace B7:=B7.ext e'
   clear e'
   haveI hinr:∀G0,InR (GB W G0) (some b4):=fun G0=>InR.gb (by omega)
   refine aD T36 hf rfl rfl (aX rfl (slOne Ho.sl)) B4 rfl (rfl) fun w hg hsz B4 hf=>?_
   replace HD:=Dv.grN HD hg (fun bb hb=>nV bb (by cases hb;omega))
   replace hN5s:=Nat.le_trans hN5s hg.size
   replace Ho:=Ho.grE hg (Ho.neLt (by omega))
   replace e:=e.gr hg (by omega)
   replace B2:=B2.gr hg (by omega)
   replace B3:=B3.gr hg (by omega)
   replace B7:=B7.gr hg (by omega)
   clear hg
   refine ae hf rfl (by decide) fun a hf=>?_
   refine aa ?_
   refine aj (ib rfl T36 hf rfl rfl B4 rfl ?_)
   rintro _ rfl
   exact⟨_,rfl,e,fin _ _ _ _ e (Dv.gt.2 ⟨_,_,rfl,Dv.weak HD fun b _ hb=>hNG b hb,Ho.sl⟩) hdo⟩
def stepB:Option GT→DT→Option GT
 | none,_=>none
 | some g,d=>if aN g d=0 then some (doP g d) else none
def dO (V:List VT)(E:List ET):Option GT:=(E.map dE).foldl stepB ((V.map dV).foldl stepB (some ([],[])))
theorem ou (l:List DT):l.foldl stepB none=none:=by induction l with
 | nil=>rfl
 | cons d r ih=>exact ih
theorem gD {l:List DT}{k:Nat}{d:DT}(s:Option GT)(h:l[k]?=some d):(l.take (k+1)).foldl stepB s=stepB ((l.take k).foldl stepB s) d:=by
 rw[dM h,List.foldl_append];rfl
theorem ov {l:List DT}{k:Nat}{d:DT}(s:Option GT)(h:l[k]?=some d)(hn:stepB ((l.take k).foldl stepB s) d=none):l.foldl stepB s=none:=by
 rw[← List.take_append_drop (k+1) l,List.foldl_append,gD s h,hn,ou]
def okD (d:DT):Prop:=(Lit.int .i64 d.2.1).wf=true∧(Lit.int .i64 d.2.2.1).wf=true∧okT d.2.2.2
theorem bD4 (x:DT):Tryz.prog.built 26 [(0,.int .i64 x.1),(1,.int .i64 x.2.1),(3,.int .u8 x.2.2.2.1),(4,.int .i64 x.2.2.2.2)]=some #[.int .i64 x.1,.int .i64 x.2.1,.int .i64 0,.int .u8 x.2.2.2.1,.int .i64 x.2.2.2.2]:=by kernel_rfl
theorem bD5 (x:DT):Tryz.prog.built 26 [(0,.int .i64 x.1),(1,.int .i64 x.2.1),(2,.int .i64 x.2.2.1),(3,.int .u8 x.2.2.2.1),(4,.int .i64 x.2.2.2.2)]=some #[.int .i64 x.1,.int .i64 x.2.1,.int .i64 x.2.2.1,.int .u8 x.2.2.2.1,.int .i64 x.2.2.2.2]:=by kernel_rfl
def vF (V:List VT)(E:List ET)(W:World)(en:Ending)(w':World):Prop:=
 Ext W w'∧((∃g bg bv be,dO V E=some g∧en=.returned (.tuple #[.pointer (some ⟨bg,0,none⟩),I 0])∧W.heap.size≤bg∧W.heap.size≤bv∧W.heap.size≤be∧GrR w' bg bv be (V.length+E.length) g) ∨
  (∃c:Int,c≠0∧dO V E=none∧en=.returned (.tuple #[.pointer none,I c])))
theorem vG {G:Nat→Prop}(V:List VT)(E':List ET)(v u:Value)(W:World)(h1:(Dv (slE vtE) G V).p v W)(h2:(Dv (slE etE) G E').p u W)(hl1:V.length≤100000)(hl2:E'.length≤100000)(hV:∀x∈V,okD (dV x))(hE:∀x∈E',okD (dE x)) :
  Calls Tryz.prog 27 #[v,u] W (vF V E' W):=by
 refine enter (args:=[v,u]) (As:=[E v,E u]) Tryz.func27 rfl Tryz.ntmps27 (Nat.le_of_ble_eq_true rfl) ?_ (fun a hf=>?_) (Nat.le_of_ble_eq_true rfl)
 rotate_left
 dsimp only[params,Nat.reduceAdd] at hf
 rotate_right
 ·exact arg2 rfl rfl
 have e:=Ext.rfl' W
 refine seq ?_
 refine ah ?_
 refine ae hf rfl (by decide) fun a hf=>?_
 refine ae hf rfl (by decide) fun a hf=>?_
 refine aa ?_
 refine seq ?_
 refine ah ?_
 refine fM (S:=fun b=>False) (F:=fun z w'=>∃bg bv be,z=.pointer (some ⟨bg,0,none⟩)∧W.heap.size≤bg∧W.heap.size≤bv∧W.heap.size≤be∧GrR w' bg bv be 0 ([],[])) hf (by decide) rk (by simp only[List.map_toArray,List.map_nil];exact (vr _).mono fun en w' ⟨bg,bv,be,k1,k2,k3,k4,k5,k6⟩=>⟨_,k1,k2.chg _,bg,bv,be,rfl,Nat.le_trans e.size k3,Nat.le_trans e.size k4,Nat.le_trans e.size k5,k6⟩) fun a z w hc hF hf=>?_
 obtain⟨bg,bv,be,rfl,hbg,hbv,hbe,hg⟩:=hF
 replace e:=e.ch hc (fun b hb=>hb.elim)
 clear hc
 refine ae hf rfl (by decide) fun a hf=>?_
 refine aa ?_
 repeat refine seq ?_
 refine ac 3 hf (by decide +kernel) ?_
 refine st (mv rfl) ?_
 refine st (ay U69 (isE rfl (VA.st _ _ _ _ e h1))) ?_
 refine st (mv rfl) ?_
 refine en fun a w e' hf=>?_
 replace e:=e.tr e'
 replace hg:=hg.ext e'
 refine aa ?_
 replace hf:=hf.kp [1,4,5,6,14,15,16]
 refine blk (aG (fun r0 a w=>∃(k:Nat) (g:GT),r0=V.length - k∧k≤V.length∧Fr 55 a w [(1,E u),(4,E (.pointer none)),(5,E (I 0)),(6,E (.pointer (some ⟨bg,0,none⟩))),(14,E v),(15,E (I (V.length:Nat))),(16,E (I k))]∧Ext W w∧GrR w bg bv be k g∧((V.map dV).take k).foldl stepB (some ([],[]))=some g) V.length ⟨0,([], []),rfl,by omega,hf,e,⟨hg,rfl⟩⟩ ?_)
 clear hf e;try clear hg;try clear hfd
 rintro r0 a w ⟨k,g,rfl,hk,hf,e,hg,hfd⟩
 refine seq ?_
 refine ac 1 hf (by decide +kernel) ?_
 refine st (lss rfl rfl) ?_
 refine en fun a w e' hf=>?_
 replace e:=e.tr e'
 replace hg:=hg.ext e'
 refine aa ?_
 refine seq ?_
 refine ifc hf rfl (fun hc=>ak ?_) (fun hc=>aF ?_)
 rotate_left
 rotate_left
 ·have hlt:k<V.length:=by have:=of_decide_eq_true hc;(try dsimp only at this);omega
  clear hc
  replace hf:=hf.kp [1,4,5,6,14,15,16]
  refine seq ?_
  refine blk ?_
  have hx:=List.getElem?_eq_getElem hlt
  generalize V[k]=x at hx
  have hxd:(V.map dV)[k]?=some (dV x):=by rw[List.getElem?_map,hx];rfl
  have hok:=hV x (List.mem_of_getElem? hx)
  have hk:k<maxLen:=by simp only[maxLen];omega
  replace hf:=hf.kp [1,4,5,6,14,15,16]
  refine seq ?_
  refine ah ?_
  refine ar hf (by decide) (az U69 S72 (isE rfl (VA.st _ _ _ _ e h1)) rfl (by omega) (hx)) fun a w e' hf=>?_
  replace e:=e.tr e'
  replace hg:=hg.ext e'
  clear e'
  refine ar hf (by decide) (ev T72 (isR rfl)) fun a w e' hf=>?_
  replace e:=e.tr e'
  replace hg:=hg.ext e'
  clear e'
  refine aJ I72 hf (by decide) fun a b8 w e' hb8 hs8 B8 hf=>?_
  have hle8:=Nat.le_trans e.size (Nat.le_of_eq hb8.symm)
  replace e:=e.tr e'
  replace hg:=hg.ext e'
  clear e'
  replace hf:=hf.kp [1,4,5,6,8,14,15,16,19]
  have nb8:bg≠b8∧bv≠b8∧be≠b8:=⟨hg.blk.ne B8 (by decide),hg.vs.neB B8,hg.es.neB B8⟩
  refine aD T72 hf rfl rfl (jX x) B8 rfl rfl fun w hg' hsz B8 hf=>?_
  replace hg:GrR w bg bv be k g:=⟨hg.blk.gr hg' nb8.1,hg.vs.gr hg' (fun h=>nb8.2.1 (by cases h;rfl)),hg.es.gr hg' (fun h=>nb8.2.2 (by cases h;rfl)),hg.ne⟩
  replace e:=e.gr hg' (by omega);clear hg'
  refine aa ?_
  replace hf:=hf.kp [1,4,5,6,8,14,15,16]
  refine seq ?_
  refine ac 8 hf (by decide +kernel) ?_
  refine st (mv rfl) ?_
  refine st (ai U72 rfl T3 (by decide) rfl) ?_
  refine st (ld1 T3 rfl B8 rfl) ?_
  refine st (ai U72 rfl T5 (by decide) rfl) ?_
  refine st (ld1 T5 rfl B8 rfl) ?_
  refine st (ai U72 rfl T3 (by decide) rfl) ?_
  refine st (ld1 T3 rfl B8 rfl) ?_
  refine st (tJ (dV x) rfl (bD4 (dV x)) rfl rfl rfl rfl) ?_
  refine en fun a w e' hf=>?_
  replace e:=e.tr e'
  replace hg:=hg.ext e'
  replace B8:=B8.ext e'
  clear e'
  replace hf:=hf.kp [1,4,5,6,14,15,16,20,27]
  refine fM (S:=fun b=>b=bv∨b=be) (F:=fun z w'=>z=I (aN g (dV x))∧GrR w' bg bv be (k+1) (apP g (dV x))) hf (by decide) iW ?_ fun a z w hc hF hf=>?_
  ·have h9:=oq g (dV x) bg bv be k _ hg hk (.inl rfl) hok.1 hok.2.1 hok.2.2
   have e20:a.eval (.tmp 20)=.pointer (some ⟨bg,0,none⟩):=hf.opd (.tmp 20) _ rfl
   have e27:a.eval (.tmp 27)=dtV (dV x):=hf.opd (.tmp 27) _ rfl
   simp only[List.map_toArray,List.map_cons,List.map_nil,e20,e27]
   exact h9.mono fun en w' ⟨k1,k2,k3⟩=>⟨_,k1,k2,rfl,k3⟩
  obtain⟨rfl,hg⟩:=hF
  replace e:=e.ch hc (fun b hb=>by rcases hb with rfl|rfl <;> assumption)
  clear hc B8
  replace hf:=hf.kp [1,4,5,6,14,15,16,28]
  refine ae hf rfl (by decide) fun a hf=>?_
  refine aa ?_
  refine seq ?_
  refine ac 2 hf (by decide +kernel) ?_
  refine st (mv rfl) ?_
  refine st (neq rfl rfl) ?_
  refine en fun a w e' hf=>?_
  replace e:=e.tr e'
  replace hg:=hg.ext e'
  refine aa ?_
  have hft:=gD (some ([],[])) hxd
  rw[hfd] at hft
  refine ifc hf rfl (fun hb=>?_) (fun hb=>?_)
  ·have hb':¬aN g (dV x)=0:=by simpa using hb
   have hst:stepB (((V.map dV).take k).foldl stepB (some ([],[]))) (dV x)=none:=by rw[hfd,stepB,if_neg hb']
   refine seq ?_
   refine ac 1 hf (by decide +kernel) ?_
   refine st (mv rfl) ?_
   refine en fun a w e' hf=>?_
   replace e:=e.tr e'
   replace hg:=hg.ext e'
   refine ae hf rfl (by decide) fun a hf=>?_
   refine ae hf rfl (by decide) fun a hf=>?_
   refine aa ?_
   refine aj ?_
   simp only[Exit.then,Exit.inBlock]
   refine cb rfl hf rfl rfl ?_
   rintro _ _ rfl rfl
   exact⟨e,.inr ⟨_,hb',by rw[dO,ov _ hxd hst,ou],rfl⟩⟩
  ·have hb':aN g (dV x)=0:=by simpa using hb
   refine ak ?_
   simp only[Exit.then,Exit.inBlock,↓reduceIte]
   rw[stepB,if_pos hb'] at hft
   rw[apP,if_pos hb'] at hg
   refine ac 1 hf (by decide +kernel) ?_
   refine st ((add rfl rfl (by omega)).eq (congrArg (Value.int .i64) (show (k:Int)+1=((k+1:Nat):Int) from rfl))) ?_
   refine en fun a w e' hf=>?_
   replace e:=e.tr e'
   replace hg:=hg.ext e'
   clear e'
   refine ar hf (by decide) (mv rfl) fun a w e' hf=>?_
   replace e:=e.tr e'
   replace hg:=hg.ext e'
   refine aa ?_
   replace hf:=hf.kp [1,4,5,6,14,15,16]
   refine⟨_,?_,k+1,doP g (dV x),rfl,by omega,hf,e,?_⟩
   ·omega
   exact⟨hg,hft⟩
 ·obtain rfl:k=V.length:=by have:=of_decide_eq_false hc;(try dsimp only at this);omega
  clear hc
  simp only[Exit.then,Exit.inBlock,↓reduceIte]
  rw[List.take_of_length_le (by simp)] at hfd
  repeat refine seq ?_
  refine ac 3 hf (by decide +kernel) ?_
  refine st (mv rfl) ?_
  refine st (ay U70 (isE rfl (VA.st _ _ _ _ e h2))) ?_
  refine st (mv rfl) ?_
  refine en fun a w e' hf=>?_
  replace e:=e.tr e'
  replace hg:=hg.ext e'
  refine aa ?_
  replace hf:=hf.kp [4,5,6,33,34,35]
  refine blk (aG (fun r0 a w=>∃(k:Nat) (g:GT),r0=E'.length - k∧k≤E'.length∧Fr 55 a w [(4,E (.pointer none)),(5,E (I 0)),(6,E (.pointer (some ⟨bg,0,none⟩))),(33,E u),(34,E (I (E'.length:Nat))),(35,E (I k))]∧Ext W w∧GrR w bg bv be (V.length+k) g∧((E'.map dE).take k).foldl stepB ((V.map dV).foldl stepB (some ([],[])))=some g) E'.length ⟨0,g,rfl,by omega,hf,e,⟨hg,hfd⟩⟩ ?_)
  clear hf e;try clear hg;try clear hfd
  rintro r0 a w ⟨k,g,rfl,hk,hf,e,hg,hfd⟩
  refine seq ?_
  refine ac 1 hf (by decide +kernel) ?_
  refine st (lss rfl rfl) ?_
  refine en fun a w e' hf=>?_
  replace e:=e.tr e'
  replace hg:=hg.ext e'
  refine aa ?_
  refine seq ?_
  refine ifc hf rfl (fun hc=>ak ?_) (fun hc=>aF ?_)
  rotate_left
  rotate_left
  ·have hlt:k<E'.length:=by have:=of_decide_eq_true hc;(try dsimp only at this);omega
   clear hc
   replace hf:=hf.kp [4,5,6,33,34,35]
   refine seq ?_
   refine blk ?_
   have hx:=List.getElem?_eq_getElem hlt
   generalize E'[k]=x at hx
   have hxd:(E'.map dE)[k]?=some (dE x):=by rw[List.getElem?_map,hx];rfl
   have hok:=hE x (List.mem_of_getElem? hx)
   have hk':V.length+k<maxLen:=by simp only[maxLen];omega
   replace hf:=hf.kp [4,5,6,33,34,35]
   refine seq ?_
   refine ah ?_
   refine ar hf (by decide) (az U70 S75 (isE rfl (VA.st _ _ _ _ e h2)) rfl (by omega) (hx)) fun a w e' hf=>?_
   replace e:=e.tr e'
   replace hg:=hg.ext e'
   clear e'
   refine ar hf (by decide) (eH T75 (isR rfl)) fun a w e' hf=>?_
   replace e:=e.tr e'
   replace hg:=hg.ext e'
   clear e'
   refine aJ I75 hf (by decide) fun a b11 w e' hb11 hs11 B11 hf=>?_
   have hle11:=Nat.le_trans e.size (Nat.le_of_eq hb11.symm)
   replace e:=e.tr e'
   replace hg:=hg.ext e'
   clear e'
   replace hf:=hf.kp [4,5,6,11,33,34,35,38]
   have nb8:bg≠b11∧bv≠b11∧be≠b11:=⟨hg.blk.ne B11 (by decide),hg.vs.neB B11,hg.es.neB B11⟩
   refine aD T75 hf rfl rfl (jY x) B11 rfl rfl fun w hg' hsz B11 hf=>?_
   replace hg:GrR w bg bv be (V.length+k) g:=⟨hg.blk.gr hg' nb8.1,hg.vs.gr hg' (fun h=>nb8.2.1 (by cases h;rfl)),hg.es.gr hg' (fun h=>nb8.2.2 (by cases h;rfl)),hg.ne⟩
   replace e:=e.gr hg' (by omega);clear hg'
   refine aa ?_
   replace hf:=hf.kp [4,5,6,11,33,34,35]
   refine seq ?_
   refine ac 10 hf (by decide +kernel) ?_
   refine st (mv rfl) ?_
   refine st (ai U75 rfl T3 (by decide) rfl) ?_
   refine st (ld1 T3 rfl B11 rfl) ?_
   refine st (ai U75 rfl T3 (by decide) rfl) ?_
   refine st (ld1 T3 rfl B11 rfl) ?_
   refine st (ai U75 rfl T5 (by decide) rfl) ?_
   refine st (ld1 T5 rfl B11 rfl) ?_
   refine st (ai U75 rfl T3 (by decide) rfl) ?_
   refine st (ld1 T3 rfl B11 rfl) ?_
   refine st (tK (dE x) (bD5 (dE x)) rfl rfl rfl rfl rfl) ?_
   refine en fun a w e' hf=>?_
   replace e:=e.tr e'
   replace hg:=hg.ext e'
   replace B11:=B11.ext e'
   clear e'
   replace hf:=hf.kp [4,5,6,33,34,35,39,48]
   refine fM (S:=fun b=>b=bv∨b=be) (F:=fun z w'=>z=I (aN g (dE x))∧GrR w' bg bv be (V.length+k+1) (apP g (dE x))) hf (by decide) iW ?_ fun a z w hc hF hf=>?_
   ·have h9:=oq g (dE x) bg bv be (V.length+k) _ hg hk' (.inr (.inl rfl)) hok.1 hok.2.1 hok.2.2
    have e20:a.eval (.tmp 39)=.pointer (some ⟨bg,0,none⟩):=hf.opd (.tmp 39) _ rfl
    have e27:a.eval (.tmp 48)=dtV (dE x):=hf.opd (.tmp 48) _ rfl
    simp only[List.map_toArray,List.map_cons,List.map_nil,e20,e27]
    exact h9.mono fun en w' ⟨k1,k2,k3⟩=>⟨_,k1,k2,rfl,k3⟩
   obtain⟨rfl,hg⟩:=hF
   replace e:=e.ch hc (fun b hb=>by rcases hb with rfl|rfl <;> assumption)
   clear hc B11
   replace hf:=hf.kp [4,5,6,33,34,35,49]
   refine ae hf rfl (by decide) fun a hf=>?_
   refine aa ?_
   refine seq ?_
   refine ac 2 hf (by decide +kernel) ?_
   refine st (mv rfl) ?_
   refine st (neq rfl rfl) ?_
   refine en fun a w e' hf=>?_
   replace e:=e.tr e'
   replace hg:=hg.ext e'
   refine aa ?_
   have hft:=gD ((V.map dV).foldl stepB (some ([],[]))) hxd
   rw[hfd] at hft
   refine ifc hf rfl (fun hb=>?_) (fun hb=>?_)
   ·have hb':¬aN g (dE x)=0:=by simpa using hb
    have hst:stepB (((E'.map dE).take k).foldl stepB ((V.map dV).foldl stepB (some ([],[])))) (dE x)=none:=by rw[hfd,stepB,if_neg hb']
    refine seq ?_
    refine ac 1 hf (by decide +kernel) ?_
    refine st (mv rfl) ?_
    refine en fun a w e' hf=>?_
    replace e:=e.tr e'
    replace hg:=hg.ext e'
    refine ae hf rfl (by decide) fun a hf=>?_
    refine ae hf rfl (by decide) fun a hf=>?_
    refine aa ?_
    refine aj ?_
    simp only[Exit.then,Exit.inBlock]
    refine cb rfl hf rfl rfl ?_
    rintro _ _ rfl rfl
    exact⟨e,.inr ⟨_,hb',by rw[dO,ov _ hxd hst],rfl⟩⟩
   ·have hb':aN g (dE x)=0:=by simpa using hb
    refine ak ?_
    simp only[Exit.then,Exit.inBlock,↓reduceIte]
    rw[stepB,if_pos hb'] at hft
    rw[apP,if_pos hb'] at hg
    refine ac 1 hf (by decide +kernel) ?_
    refine st ((add rfl rfl (by omega)).eq (congrArg (Value.int .i64) (show (k:Int)+1=((k+1:Nat):Int) from rfl))) ?_
    refine en fun a w e' hf=>?_
    replace e:=e.tr e'
    replace hg:=hg.ext e'
    clear e'
    refine ar hf (by decide) (mv rfl) fun a w e' hf=>?_
    replace e:=e.tr e'
    replace hg:=hg.ext e'
    refine aa ?_
    replace hf:=hf.kp [4,5,6,33,34,35]
    refine⟨_,?_,k+1,doP g (dE x),rfl,by omega,hf,e,?_⟩
    ·omega
    exact⟨hg,hft⟩
  ·obtain rfl:k=E'.length:=by have:=of_decide_eq_false hc;(try dsimp only at this);omega
   clear hc
   simp only[Exit.then,Exit.inBlock,↓reduceIte]
   rw[List.take_of_length_le (by simp)] at hfd
   refine seq ?_
   refine ac 1 hf (by decide +kernel) ?_
   refine st (mv rfl) ?_
   refine en fun a w e' hf=>?_
   replace e:=e.tr e'
   replace hg:=hg.ext e'
   refine ae hf rfl (by decide) fun a hf=>?_
   refine ae hf rfl (by decide) fun a hf=>?_
   refine aa ?_
   refine aj ?_
   refine cb rfl hf rfl rfl ?_
   rintro _ _ rfl rfl
   exact⟨e,.inl ⟨g,bg,bv,be,hfd,rfl,hbg,hbv,hbe,hg⟩⟩
def bI (l:List DT)(k:Nat):GT:=(l.take k).foldl (fun g d=>(doR g d).1) ([],[])
def gE (l:List DT):GT:=bI l 60
theorem ka {γ:Type}(p:γ→Bool)(x:γ)(l:List γ):(bH p x l).length=l.length+1:=by
 have:=congrArg List.length (List.takeWhile_append_dropWhile (p:=fun y => !p y) (l:=l))
 unfold bH
 simp only[List.length_append,List.length_cons] at *
 omega
theorem kb (g:GT)(d:DT):(doR g d).1.1.length≤g.1.length+1∧(doR g d).1.2.length≤g.2.length+1:=by
 unfold doR
 split
 ·simp
 ·split
  ·simp[insV,ka]
  ·split
   ·simp[fc,ka]
   ·have h1:=List.length_filterMap_le (keepV d) g.1
    have h2:=ie d (atE g d) 0 g.2
    simp only[cZ]
    omega
theorem kc {l:List DT}{k:Nat}{d:DT}(h:l[k]?=some d):bI l (k+1)=(doR (bI l k) d).1:=by
 rw[bI,dM h,List.foldl_append];rfl
theorem ke (l:List DT):∀k,(bI l k).1.length≤k∧(bI l k).2.length≤k
 | 0=>by simp[bI]
 | k+1=>by
  have ih:=ke l k
  cases h:l[k]? with
  | none=>
   have:l.take (k+1)=l.take k:=by rw[List.take_of_length_le (by have:=List.getElem?_eq_none_iff.1 h;omega),List.take_of_length_le (List.getElem?_eq_none_iff.1 h)]
   rw[bI,this]
   exact⟨by have:=ih.1;rw[bI] at this;omega,by have:=ih.2;rw[bI] at this;omega⟩
  | some d=>
   rw[kc h]
   have:=kb (bI l k) d
   omega
theorem Dv.gtOne {G:Nat→Prop}{g:GT}{v:Value}{w:World}(h:(Dv gtE G g).p v w):∃cs,v=.agg cs∧cs.size=2∧cs.all (·.oneCell')=true:=by
 obtain⟨u1,u2,rfl,h1,h2⟩:=Dv.gt.1 h
 exact⟨_,rfl,rfl,aX (slOne h1) (slOne h2)⟩
theorem vH {G:Nat→Prop}(l:List DT)(v:Value)(W:World)(h:(Dv (slE dtE) G l).p v W)(hG:∀b,G b→b<W.heap.size) :
  Calls Tryz.prog 6 #[v] W (Post (Dv gtE G (gE l)) W):=by
 have hbb:=Dv.toB h
 obtain⟨N,hN⟩:∃N,N=min l.length 60:=⟨_,rfl⟩
 refine enter (args:=[v]) (As:=[E v]) Tryz.func6 rfl Tryz.ntmps6 (Nat.le_of_ble_eq_true rfl) ?_ (fun a hf=>?_) (Nat.le_of_ble_eq_true rfl)
 rotate_left
 dsimp only[params,Nat.reduceAdd] at hf
 rotate_right
 ·exact arg1 rfl
 have e:=Ext.rfl' W
 refine seq ?_
 refine ah ?_
 refine aJ I36 hf (by decide) fun a b2 w e' hb2 hs2 B2 hf=>?_
 have hle2:=Nat.le_trans e.size (Nat.le_of_eq hb2.symm)
 replace e:=e.tr e'
 refine aa ?_
 refine seq ?_
 refine ac 1 hf (by decide +kernel) ?_
 refine st (bh [] rfl jZ) ?_
 refine en fun a w e' hf=>?_
 replace e:=e.tr e'
 replace B2:=B2.ext e'
 clear e'
 refine aJ I36 hf (by decide) fun a b3 w e' hb3 hs3 B3 hf=>?_
 have hle3:=Nat.le_trans e.size (Nat.le_of_eq hb3.symm)
 have lt3_B2:=B2.lt
 replace e:=e.tr e'
 replace B2:=B2.ext e'
 clear e'
 haveI hinr:∀G0,InR (GB W G0) (some b3):=fun G0=>InR.gb (by omega)
 refine aD T36 hf rfl rfl (aX rfl rfl) B3 rfl (rfl) fun w hg hsz B3 hf=>?_
 replace e:=e.gr hg (by omega)
 replace B2:=B2.gr hg (by omega)
 clear hg
 refine aa ?_
 obtain⟨G',hG'⟩:∃G':Nat→Prop,G'=fun b=>G b∨b=b2∨b=b3:=⟨_,rfl⟩
 haveI i3:InR G' (some b3):=⟨fun b hb=>by rw[hG'];cases hb;exact .inr (.inr rfl)⟩
 have hGb:∀w:World,Ext W w→b2<w.heap.size→b3<w.heap.size→∀b,G' b→b<w.heap.size:=fun w e h2 h3 b hb=>by
  rw[hG'] at hb
  rcases hb with hb|rfl|rfl
  ·exact Nat.lt_of_lt_of_le (hG b hb) e.size
  ·exact h2
  ·exact h3
 repeat refine seq ?_
 refine ah ?_
 refine ae hf rfl (by decide) fun a hf=>?_
 refine aa ?_
 replace hf:=hf.kp [0,2,3,4]
 refine blk (aG (fun r0 a w=>∃(k:Nat) (cs:Array Value),r0=N - k∧k≤N∧Fr 26 a w [(0,E v),(2,E (.pointer (some ⟨b2,0,none⟩))),(3,E (.pointer (some ⟨b3,0,none⟩))),(4,E (I k))]∧Ext W w∧Blk w b2 #[.slice none 0 0,.slice none 0 0] 36∧Blk w b3 cs 36∧(Dv gtE G' (bI l k)).p (.agg cs) w) N ⟨0,#[.slice none 0 0, .slice none 0 0],rfl,by omega,hf,e,⟨B2,B3,Dv.gt.2 ⟨_,_,rfl,Dv.nil,Dv.nil⟩⟩⟩ ?_)
 clear hf e;try clear B2;try clear B3;try clear HD
 rintro r0 a w ⟨k,cs,rfl,hk,hf,e,B2,B3,HD⟩
 repeat refine seq ?_
 refine ac 8 hf (by decide +kernel) ?_
 refine st (mv rfl) ?_
 refine st (mv rfl) ?_
 refine st (ay U24 (isE rfl (VA.st _ _ _ _ e h))) ?_
 refine st (lss rfl rfl) ?_
 refine st (mv rfl) ?_
 refine sgE rfl rfl (.k 4 rfl .n) (fun hgd=>mv rfl) ?_
 refine sgE rfl rfl (.c 11 rfl (fun h=>h) .n) (fun hgd=>lss rfl rfl) ?_
 refine st ((aW rfl rfl (fun h=>by rw[h];rfl)).eq (congrArg Value.bool (show (decide ((k:Int)<(l.length:Nat))&&decide ((k:Int)<60))=decide ((k:Int)<((N:Nat):Int)) from by rw[hN,← Bool.decide_and];congr 1;apply propext;omega))) ?_
 refine en fun a w e' hf=>?_
 replace HD:=VA.st _ _ _ _ e' HD
 replace e:=e.tr e'
 replace B2:=B2.ext e'
 replace B3:=B3.ext e'
 refine aa ?_
 refine ifc hf rfl (fun hc=>ak ?_) (fun hc=>aF ?_)
 rotate_left
 rotate_left
 ·have hlt:k<N:=by have:=of_decide_eq_true hc;(try dsimp only at this);omega
  clear hc
  replace hf:=hf.kp [0,2,3,4]
  refine seq ?_
  refine blk ?_
  have hk:k<l.length∧k<60:=by omega
  have hg:=List.getElem?_eq_getElem hk.1
  generalize l[k]'hk.1=d at hg
  have hs:=kc hg
  have hln:=ke l k
  have hcs:cs.size=2:=by obtain⟨cs',h1',h2',_⟩:=Dv.gtOne HD;cases h1';exact h2'
  have hv:=VA.st _ _ _ _ e h
  have l2:=B2.lt;have l3:=B3.lt
  replace hf:=hf.kp [0,2,3,4]
  refine ew 10 [0,0,0,0,0,0,2,0,1] (Chg fun c=>c=b3) (cC.one _) (fun w=>∃cs,Blk w b3 cs 36∧(Dv gtE G' (doR (bI l k) d).1).p (.agg cs) w) (fun w w1 k h=>h.imp fun cs h=>⟨h.1.ext k,VA.st _ _ _ _ k h.2⟩) Mix.mix hf (by decide +kernel) (by decide +kernel) ?_
  refine ja (ldW T36 rfl B3 hcs) ?_
  refine ja (mv rfl) ?_
  refine ja (mv rfl) ?_
  refine ja (az U24 S26 (isE rfl hv) rfl (by omega) hg) ?_
  refine ja (gx T26 (isR rfl)) ?_
  refine ja (ax (A:=Tup [Dv gtE G' (doR (bI l k) d).1,E (I (doR (bI l k) d).2)]) lA rfl rfl (fun v u w he k1 k2=>by cases k1;cases k2;exact ot (G:=G') (bI l k) d _ w (VA.st _ _ _ _ he HD) (hGb w (Ext.tr e he) (Nat.lt_of_lt_of_le l2 he.size) (Nat.lt_of_lt_of_le l3 he.size)) (by omega) (by omega))) ?_
  refine jk (mv rfl) ?_
  refine ja (aZ rfl rfl) ?_
  refine jf (fun w1 h1=>aZ rfl rfl) ?_
  refine jx (vm T36 rfl B3 hcs rfl (fun v w hv=>Dv.gtOne hv) (fun v w w' hc hv=>Dv.ch hv hc fun b hb=>by rw[hG',hb];exact .inr (.inr rfl))) ?_
  refine je ?_
  refine fun a w hc HF hf=>?_
  try dsimp only[push] at hf
  obtain⟨cs',B3,HD⟩:=HF
  replace e:=e.ch hc (fun b hb=>by rw[hb];omega)
  replace B2:=B2.ch hc (by omega)
  clear hc hv
  refine aa ?_
  replace hf:=hf.kp [0,2,3,4]
  simp only[Exit.then,Exit.inBlock,↓reduceIte]
  refine ac 2 hf (by decide +kernel) ?_
  refine st (mv rfl) ?_
  refine st ((add rfl rfl (by omega)).eq (congrArg (Value.int .i64) (show (k:Int)+1=((k+1:Nat):Int) from rfl))) ?_
  refine en fun a w e' hf=>?_
  replace HD:=VA.st _ _ _ _ e' HD
  replace e:=e.tr e'
  replace B2:=B2.ext e'
  replace B3:=B3.ext e'
  refine ae hf rfl (by decide) fun a hf=>?_
  refine aa ?_
  replace hf:=hf.kp [0,2,3,4]
  refine⟨_,?_,k+1,cs',rfl,by omega,hf,e,?_⟩
  ·omega
  rw[hs]
  exact⟨B2,B3,HD⟩
 ·obtain rfl:k=N:=by have:=of_decide_eq_false hc;(try dsimp only at this);omega
  clear hc
  simp only[Exit.then,Exit.inBlock,↓reduceIte]
  have hfin:bI l k=gE l:=by
   rw[gE,bI,bI,hN]
   by_cases h60:l.length≤60
   ·rw[Nat.min_eq_left h60,List.take_of_length_le (Nat.le_refl _),List.take_of_length_le h60]
   ·rw[Nat.min_eq_right (by omega)]
  rw[hfin] at HD
  obtain⟨cs',h1',hcs,h1one⟩:=Dv.gtOne HD
  cases h1'
  haveI i2:InR G' (some b2):=⟨fun b hb=>by rw[hG'];cases hb;exact .inr (.inl rfl)⟩
  replace hf:=hf.kp [2,3]
  refine seq ?_
  refine ac 1 hf (by decide +kernel) ?_
  refine st (ldW T36 rfl B3 hcs) ?_
  refine en fun a w e' hf=>?_
  replace HD:=VA.st _ _ _ _ e' HD
  replace e:=e.tr e'
  replace B2:=B2.ext e'
  replace B3:=B3.ext e'
  clear e'
  refine aD T36 hf rfl rfl h1one B2 rfl hcs fun w hg hsz B2 hf=>?_
  replace e:=e.gr hg (by omega);replace HD:=AvR.av (row:=some b2) _ _ _ hg HD;clear hg
  refine aa ?_
  refine aj (cR rfl T36 hf rfl B2 hcs ?_)
  exact⟨_,rfl,e,Dv.weak HD fun b _ hb=>by rw[hG'];exact .inl hb⟩
end Go.Mono
namespace Go.Mono
open Go Go.Gr
theorem gF {γ:Type}(p:γ→Bool)(x:γ)(l:List γ):(bH p x l).Perm (x::l):=by
 unfold bH
 have h:=List.takeWhile_append_dropWhile (p:=fun y => !p y) (l:=l)
 conv=>rhs;rw[← h]
 exact List.perm_middle
theorem kf {γ κ:Type}{lt:κ→κ→Bool}(key:γ→κ)(tr:∀{a b c},lt a b=true→lt b c=true→lt a c=true)(tot:∀{a b},lt a b=false→a≠b→lt b a=true){x:γ} :
  ∀{l:List γ},l.Pairwise (fun a b=>lt (key a) (key b)=true)→(∀y∈l,key x≠key y)→(bH (fun y=>lt (key x) (key y)) x l).Pairwise fun a b=>lt (key a) (key b)=true
 | [],_,_=>by simp[bH]
 | y::r,hl,hx=>by
  obtain⟨l1,l2⟩:=List.pairwise_cons.1 hl
  unfold bH
  by_cases hy:lt (key x) (key y)=true
  ·simp only[List.takeWhile_cons,List.dropWhile_cons,hy,Bool.not_true,Bool.false_eq_true,if_false,List.nil_append]
   refine List.pairwise_cons.2 ⟨fun z hz=>?_,hl⟩
   rcases List.mem_cons.1 hz with rfl|hz
   ·exact hy
   ·exact tr hy (l1 z hz)
  ·have hy':lt (key x) (key y)=false:=by simpa using hy
   have ih:=kf (γ:=γ) (κ:=κ) (lt:=lt) key (@tr) (@tot) (l:=r) l2 fun z hz=>hx z (by simp[hz])
   have hyx:=tot hy' (hx y (by simp))
   simp only[List.takeWhile_cons,List.dropWhile_cons,hy',Bool.not_false,if_true,List.cons_append]
   refine List.pairwise_cons.2 ⟨fun z hz=>?_,ih⟩
   have:=(gF (fun y=>lt (key x) (key y)) x r).mem_iff.1 hz
   rcases List.mem_cons.1 this with rfl|hz'
   ·exact hyx
   ·exact l1 z hz'
theorem ow {l:List VT}{n:Int}(h:cB l n<0):∀y∈l,y.1≠n:=by
 unfold cB at h
 split at h
 ·omega
 ·rename_i hn
  rw[List.findIdx?_eq_none_iff] at hn
  intro y hy
  simpa using hn y hy
theorem kg {l:List VT}{n:Int}(h:¬cB l n<0):inV l n=true:=by
 unfold cB at h
 split at h
 ·rename_i i hi
  obtain⟨h1,h2,_⟩:=List.findIdx?_eq_some_iff_getElem.1 hi
  exact List.any_eq_true.2 ⟨_,List.getElem_mem h1,h2⟩
 ·omega
theorem ox {l:List ET}{m n:Int}(h:ci l m n<0):∀y∈l,y.1≠ends m n:=by
 unfold ci at h
 split at h
 ·omega
 ·rename_i hn
  rw[List.findIdx?_eq_none_iff] at hn
  intro y hy he
  have h2:=hn y hy
  obtain⟨⟨p,q⟩,c⟩:=y
  simp only[ends,Prod.mk.injEq] at he
  simp only[fg] at h2
  by_cases hmn:m≤n
  ·rw[Int.min_eq_left hmn,Int.max_eq_right hmn] at he
   rw[he.1,he.2] at h2;simp at h2
  ·rw[Int.min_eq_right (by omega),Int.max_eq_left (by omega)] at he
   rw[he.1,he.2] at h2;simp at h2
theorem oy {l m:List VT}(h:∀y∈l,∃z∈m,z.1=y.1){n:Int}(hn:inV l n=true):inV m n=true:=by
 obtain⟨y,hy,hyn⟩:=List.any_eq_true.1 hn
 obtain⟨z,hz,hzy⟩:=h y hy
 exact List.any_eq_true.2 ⟨z,hz,by rw[hzy];exact hyn⟩
theorem oz {d:DT}{x y:VT}(h:keepV d x=some y):y.1=x.1:=by
 unfold keepV at h;split at h <;> simp at h;rw[← h]
theorem oC {d:DT}{a:Int}{i:Nat}{x y:ET}(h:bN d a i x=some y):y.1=x.1:=by
 unfold bN at h;split at h <;> simp at h;rw[← h]
theorem ki {d:DT}{a:Int}:∀{i:Nat} {l:List ET} {y:ET},y∈bq d a i l→∃j,∃x∈l,bN d a j x=some y
 | _,[],y,h=>by simp[bq] at h
 | i,x::r,y,h=>by
  rw[bq,List.mem_append] at h
  rcases h with h|h
  ·exact⟨i,x,by simp,by simpa using h⟩
  ·obtain⟨j,z,hz,hj⟩:=ki h
   exact⟨j,z,by simp[hz],hj⟩
theorem oD {d:DT}{a:Int}:∀{i:Nat} {l:List ET},l.Pairwise (fun p q=>lt2 p.1 q.1=true)→(bq d a i l).Pairwise fun p q=>lt2 p.1 q.1=true
 | _,[],_=>by simp[bq]
 | i,x::r,h=>by
  obtain⟨h1,h2⟩:=List.pairwise_cons.1 h
  rw[bq,List.pairwise_append]
  refine⟨by cases bN d a i x <;> simp,oD h2,fun p hp q hq=>?_⟩
  obtain⟨j,z,hz,hj⟩:=ki hq
  have hp':bN d a i x=some p:=by simpa using hp
  rw[oC hp',oC hj];exact h1 z hz
theorem kj {g:GT}(G:Gr.Ok g){d:DT}(hd:0≤d.2.2.2.1∧d.2.2.2.1<256):Gr.Ok (doR g d).1:=by
 unfold doR
 by_cases hw:(bD g d != 0)=true
 ·rw[if_pos hw];exact G
 rw[if_neg hw]
 have hw0:bD g d=0:=by simpa using hw
 unfold bD at hw0
 split at hw0
 ·cases hw0
 rename_i c1
 split at hw0
 ·cases hw0
 rename_i c2
 split at hw0
 ·cases hw0
 rename_i c3
 simp only[Bool.or_eq_true,Bool.and_eq_true,decide_eq_true_eq,not_or,not_and] at c1 c2 c3
 obtain⟨⟨c2a,c2b⟩,c2c⟩:=c2
 by_cases h0:(d.1==0)=true
 ·rw[if_pos h0]
  rw[if_pos h0] at hw0
  have hd0:d.1=0:=by simpa using h0
  split at hw0
  ·cases hw0
  rename_i c4
  have hnot:=ow (l:=g.1) (n:=d.2.1) (by simpa using c4)
  have hp:=gF (fun y:VT=>lt1 d.2.1 y.1) (d.2.1,d.2.2.2) g.1
  have hhv:=c2c (by rw[hd0];decide)
  refine⟨kf (γ:=VT) (κ:=Int) (lt:=lt1) (fun y=>y.1) (fun h k=>mM h k) (fun h k=>tE h k) (x:=(d.2.1,d.2.2.2)) G.sv fun y hy=>(hnot y hy).symm,G.se,fun y hy=>?_,fun y hy=>?_,G.ne⟩
  ·rcases List.mem_cons.1 (hp.mem_iff.1 hy) with rfl|hy
   ·refine⟨by simp[cu];omega,hd,by simp only[heavy,Bool.or_eq_false_iff,decide_eq_false_iff_not];omega⟩
   ·exact G.rv y hy
  ·obtain⟨k1,k2,k3,k4⟩:=G.re y hy
   have hm:∀z∈g.1,∃z'∈insV g.1 (d.2.1,d.2.2.2),z'.1=z.1:=fun z hz=>⟨z,hp.mem_iff.2 (by simp[hz]),rfl⟩
   exact⟨k1,oy hm k2,oy hm k3,k4⟩
 rw[if_neg h0]
 rw[if_neg h0] at hw0
 split at hw0
 ·cases hw0
 rename_i c5
 simp only[Bool.or_eq_true,Bool.and_eq_true,decide_eq_true_eq,not_or,not_and] at c5
 by_cases h2:(d.1==2)=true
 ·rw[if_pos h2]
  rw[if_pos h2] at hw0
  have hd2:d.1=2:=by simpa using h2
  split at hw0
  ·cases hw0
  rename_i c6
  split at hw0
  ·cases hw0
  rename_i c7
  have hnot:=ox (l:=g.2) (m:=d.2.1) (n:=d.2.2.1) (by simpa using c6)
  have hp:=gF (fun y:ET=>lt2 (ends d.2.1 d.2.2.1) y.1) (ends d.2.1 d.2.2.1,d.2.2.2) g.2
  have hhv:=c2c (by rw[hd2];decide)
  have hne:=c3 (by rw[hd2];decide)
  have hvv:=kg (c5.2 h2)
  have huv:=kg c5.1
  simp only[beq_iff_eq] at hne
  refine⟨G.sv,kf (γ:=ET) (κ:=Int×Int) (lt:=lt2) (fun y=>y.1) (fun h k=>mL h k) (fun h k=>tD h k) (x:=(ends d.2.1 d.2.2.1,d.2.2.2)) G.se fun y hy=>(hnot y hy).symm,G.rv,fun y hy=>?_,?_⟩
  ·rcases List.mem_cons.1 (hp.mem_iff.1 hy) with rfl|hy
   ·refine⟨by simp only[ends];omega,?_,?_,hd,by simp only[heavy,Bool.or_eq_false_iff,decide_eq_false_iff_not];omega⟩
    ·simp only[ends];by_cases hm:d.2.1≤d.2.2.1
     ·rw[Int.min_eq_left hm];exact huv
     ·rw[Int.min_eq_right (by omega)];exact hvv
    ·simp only[ends];by_cases hm:d.2.1≤d.2.2.1
     ·rw[Int.max_eq_right hm];exact hvv
     ·rw[Int.max_eq_left (by omega)];exact huv
   ·exact G.re y hy
  ·simp only[fc,ka]
   have:¬((1024:Int)≤(g.2.length:Nat)):=by simpa using c7
   omega
 rw[if_neg h2]
 have hkeep:∀y∈g.1,d.1≠1∨y.1≠d.2.1→∃z∈g.1.filterMap (keepV d),z.1=y.1:=fun y hy hc=>by
  have hn:¬(y.1==d.2.1&&d.1==1)=true:=by simp only[Bool.and_eq_true,beq_iff_eq];omega
  have hk:∃z,keepV d y=some z∧z.1=y.1:=⟨_,if_neg hn,rfl⟩
  obtain⟨z,hz,hzy⟩:=hk
  exact⟨z,List.mem_filterMap.2 ⟨y,hy,hz⟩,hzy⟩
 refine⟨?_,oD G.se,fun y hy=>?_,fun y hy=>?_,Nat.le_trans (ie _ _ _ _) G.ne⟩
 ·simp only[cZ]
  rw[List.pairwise_filterMap]
  exact G.sv.imp fun {a b} h p hp q hq=>by rw[oz hp,oz hq];exact h
 ·obtain⟨x,hx,hxy⟩:=List.mem_filterMap.1 hy
  obtain⟨k1,k2,k3⟩:=G.rv x hx
  unfold keepV at hxy
  split at hxy
  ·cases hxy
  ·simp only[Option.some.injEq] at hxy
   rw[← hxy]
   refine⟨k1,?_,?_⟩
   ·simp only;split
    ·exact hd
    ·exact k2
   ·simp only;split
    ·rename_i h5
     have h5':d.1=5:=by simp only[Bool.and_eq_true,beq_iff_eq] at h5;exact h5.2
     have hhv:=c2c (by rw[h5'];decide)
     simp only[heavy,Bool.or_eq_false_iff,decide_eq_false_iff_not];omega
    ·exact k3
 ·obtain⟨j,x,hx,hxy⟩:=ki hy
  obtain⟨k1,k2,k3,k4,k5⟩:=G.re x hx
  unfold bN at hxy
  split at hxy
  ·cases hxy
  ·rename_i hno
   simp only[Option.some.injEq] at hxy
   have hno':d.1≠1∨(x.1.1≠d.2.1∧x.1.2≠d.2.1):=by
    simp only[Bool.or_eq_true,Bool.and_eq_true,beq_iff_eq,not_or,not_and] at hno
    by_cases h1:d.1=1
    ·exact .inr ⟨fun h=>(hno.1 h1).1 h,fun h=>(hno.1 h1).2 h⟩
    ·exact .inl h1
   have stay:∀n,inV g.1 n=true→(d.1≠1∨n≠d.2.1)→inV (cZ g d).1 n=true:=fun n hn hc=>by
    obtain⟨y,hy,hyn⟩:=List.any_eq_true.1 hn
    have hyn':y.1=n:=by simpa using hyn
    obtain⟨z,hz,hzy⟩:=hkeep y hy (by rw[hyn'];exact hc)
    exact List.any_eq_true.2 ⟨z,hz,by rw[hzy];exact hyn⟩
   rw[← hxy]
   refine⟨k1,stay _ k2 (hno'.imp id (·.1)),stay _ k3 (hno'.imp id (·.2)),?_,?_⟩
   ·simp only;split
    ·exact hd
    ·exact k4
   ·simp only;split
    ·rename_i h7
     have h7':d.1=7:=by simp only[Bool.and_eq_true,beq_iff_eq] at h7;exact h7.2
     have hhv:=c2c (by rw[h7'];decide)
     simp only[heavy,Bool.or_eq_false_iff,decide_eq_false_iff_not];omega
    ·exact k5
theorem km {l:List DT}(hl:∀d∈l,0≤d.2.2.2.1∧d.2.2.2.1<256):∀k,Gr.Ok (bI l k)
 | 0=>by rw[bI];simp only[List.take_zero,List.foldl_nil];exact⟨List.Pairwise.nil,List.Pairwise.nil,by simp,by simp,by simp⟩
 | k+1=>by
  cases h:l[k]? with
  | none=>
   have:l.take (k+1)=l.take k:=by rw[List.take_of_length_le (by have:=List.getElem?_eq_none_iff.1 h;omega),List.take_of_length_le (List.getElem?_eq_none_iff.1 h)]
   rw[bI,this]
   exact km hl k
  | some d=>rw[kc h];exact kj (km hl k) (hl d (List.mem_of_getElem? h))
theorem fQ {n:Int}(h1 : -9223372036854775808≤n)(h2:n≤9223372036854775807):(Lit.int .i64 n).wf=true:=by
 have h3:IntKind.i64.min = -9223372036854775808:=by decide
 have h4:IntKind.i64.max=9223372036854775807:=by decide
 simp only[Lit.wf,h3,h4,Bool.and_eq_true,decide_eq_true_eq]
 omega
theorem wf8 {n:Int}(h1:0≤n)(h2:n<256):(Lit.int .u8 n).wf=true:=by
 have h3:IntKind.u8.min=0:=by decide
 have h4:IntKind.u8.max=255:=by decide
 simp only[Lit.wf,h3,h4,Bool.and_eq_true,decide_eq_true_eq]
 omega
theorem kn {n:Int}(h:cu n=true):0≤n∧n<1024:=by simpa[cu] using h
theorem oE {g:GT}(G:Gr.Ok g){n:Int}(h:inV g.1 n=true):0≤n∧n<1024:=by
 obtain⟨y,hy,hyn⟩:=List.any_eq_true.1 h
 have:=kn (G.rv y hy).1
 have hyn':y.1=n:=by simpa using hyn
 rwa [hyn'] at this
theorem oF {n:Int}(h:Gr.heavy n=false) : -1048576≤n∧n≤1048576:=by
 simp only[heavy,Bool.or_eq_false_iff,decide_eq_false_iff_not] at h;omega
theorem vI {g:GT}(G:Gr.Ok g):∀x∈g.1,okD (dV x):=fun x hx=>by
 obtain⟨h1,h2,h3⟩:=G.rv x hx
 have:=kn h1;have:=oF h3
 exact⟨fQ (by simp only[dV];omega) (by simp only[dV];omega),fQ (by simp only[dV];omega) (by simp only[dV];omega),wf8 h2.1 h2.2,fQ (by simp only[dV];omega) (by simp only[dV];omega)⟩
theorem vJ {g:GT}(G:Gr.Ok g):∀x∈g.2,okD (dE x):=fun x hx=>by
 obtain⟨h1,h2,h3,h4,h5⟩:=G.re x hx
 have:=oE G h2;have:=oE G h3;have:=oF h5
 exact⟨fQ (by simp only[dE];omega) (by simp only[dE];omega),fQ (by simp only[dE];omega) (by simp only[dE];omega),wf8 h4.1 h4.2,fQ (by simp only[dE];omega) (by simp only[dE];omega)⟩
theorem oG {g h:GT}(h1:g.1.Perm h.1)(h2:g.2.Perm h.2)(d:DT):aN g d=aN h d:=by
 unfold aN tests
 have e1:∀n,inV g.1 n=inV h.1 n:=fun n=>h1.any_eq
 have e2:∀m n,inE g.2 m n=inE h.2 m n:=fun m n=>h2.any_eq
 simp only[e1,e2,h2.length_eq]
theorem oH {α β:Type}[DecidableEq α]{l m:List (α×β)}{k:α}{c:β}(h:l.Perm m)(hk:∀y∈m,y.1≠k):(bw l k c).Perm (m++[(k,c)]):=by
 unfold bw
 have:l.filter (fun p => !decide (p.1=k))=l:=List.filter_eq_self.2 fun p hp=>by simpa using hk p (h.mem_iff.1 hp)
 rw[this]
 exact (h.cons _).trans (List.perm_append_singleton _ _).symm
theorem oI {g:GT}(G:Gr.Ok g):∀i,i≤g.1.length→∃h:GT,((g.1.map dV).take i).foldl stepB (some ([],[]))=some h∧h.1.Perm (g.1.take i)∧h.2=[]
 | 0,_=>⟨([],[]),by simp,by simp,rfl⟩
 | i+1,hi=>by
  obtain⟨h,k1,k2,k3⟩:=oI G i (by omega)
  have hx:=List.getElem?_eq_getElem (show i<g.1.length by omega)
  generalize g.1[i]=x at hx
  have hxd:(g.1.map dV)[i]?=some (dV x):=by rw[List.getElem?_map,hx];rfl
  have hw:=(stepV G hx).1
  have hb:=before G.sv hx
  have hpw:aN h (dV x)=0:=by rw[oG (h:=(g.1.take i,[])) k2 (by rw[k3])];exact hw
  refine⟨doP h (dV x),by rw[gD _ hxd,k1,stepB,if_pos hpw],?_,?_⟩
  ·rw[dM hx]
   show (bw h.1 x.1 x.2).Perm _
   exact oH k2 fun y hy=>(gw (hb y hy)).2
  ·exact k3
theorem oJ {g:GT}(G:Gr.Ok g){h0:GT}(p1:h0.1.Perm g.1)(p2:h0.2=[]):∀i,i≤g.2.length→∃h:GT,((g.2.map dE).take i).foldl stepB (some h0)=some h∧h.1.Perm g.1∧h.2.Perm (g.2.take i)
 | 0,_=>⟨h0,by simp,p1,by rw[p2];simp⟩
 | i+1,hi=>by
  obtain⟨h,k1,k2,k3⟩:=oJ G p1 p2 i (by omega)
  have hx:=List.getElem?_eq_getElem (show i<g.2.length by omega)
  generalize g.2[i]=x at hx
  have hxd:(g.2.map dE)[i]?=some (dE x):=by rw[List.getElem?_map,hx];rfl
  have hw:=(tF G hx).1
  have hb:=before G.se hx
  have hpw:aN h (dE x)=0:=by rw[oG (h:=(g.1,g.2.take i)) k2 k3];exact hw
  have he:ends x.1.1 x.1.2=x.1:=mN (G.re x (List.mem_of_getElem? hx)).1
  refine⟨doP h (dE x),by rw[gD _ hxd,k1,stepB,if_pos hpw],k2,?_⟩
  rw[dM hx]
  show (bw h.2 (ends x.1.1 x.1.2) x.2).Perm _
  rw[he]
  exact oH k3 fun y hy=>(fe (hb y hy)).2
theorem vK {g:GT}(G:Gr.Ok g):∃g',dO g.1 g.2=some g'∧g'.1.Perm g.1∧g'.2.Perm g.2:=by
 obtain⟨h,k1,k2,k3⟩:=oI G g.1.length (Nat.le_refl _)
 rw[List.take_of_length_le (by simp)] at k1
 rw[List.take_length] at k2
 obtain⟨h',l1,l2,l3⟩:=oJ G k2 k3 g.2.length (Nat.le_refl _)
 rw[List.take_of_length_le (by simp)] at l1
 rw[List.take_length] at l3
 exact⟨h',by rw[dO,k1,l1],l2,l3⟩
end Go.Mono
namespace Go.Mono
open Go Go.Proofs Go.RowKit Go.Gr
theorem oK (l:List VT)(n:Int):decide (0≤cB l n)=inV l n∧decide (cB l n<0) = !inV l n:=by
 by_cases h:cB l n<0
 ·have h1:inV l n=false:=by
   rw[inV,List.any_eq_false]
   exact fun y hy=>by simpa using ow h y hy
  rw[h1];exact⟨decide_eq_false (by omega),decide_eq_true h⟩
 ·rw[kg h];exact⟨decide_eq_true (by omega),decide_eq_false h⟩
theorem vL {g:GT}(G:Gr.Ok g)(u v:Int):decide (0≤ci g.2 u v)=inE g.2 u v∧decide (ci g.2 u v<0) = !inE g.2 u v:=by
 by_cases h:ci g.2 u v<0
 ·have h1:inE g.2 u v=false:=by
   rw[inE,List.any_eq_false]
   exact fun y hy=>by simpa using ox h y hy
  rw[h1];exact⟨decide_eq_false (by omega),decide_eq_true h⟩
 ·have h1:inE g.2 u v=true:=by
   unfold ci at h
   split at h
   ·rename_i i hi
    obtain⟨h1,h2,_⟩:=List.findIdx?_eq_some_iff_getElem.1 hi
    have hm:=List.getElem_mem h1
    generalize g.2[i]=y at h2 hm
    obtain⟨k1,_⟩:=G.re y hm
    refine List.any_eq_true.2 ⟨y,hm,decide_eq_true ?_⟩
    obtain⟨⟨p,q⟩,c⟩:=y
    simp only[fg,Bool.or_eq_true,Bool.and_eq_true,beq_iff_eq] at h2
    simp only[ends,Prod.mk.injEq]
    simp only at k1
    omega
   ·omega
  rw[h1];exact⟨decide_eq_true (by omega),decide_eq_false h⟩
theorem vM {g:GT}(G:Gr.Ok g){u v:Int}(h:inE g.2 u v=true):inV g.1 u=true∧inV g.1 v=true:=by
 obtain⟨y,hy,hh⟩:=List.any_eq_true.1 h
 have hh:=of_decide_eq_true hh
 obtain⟨_,k2,k3,_⟩:=G.re y hy
 rw[hh] at k2 k3
 simp only[ends] at k2 k3
 by_cases huv:u≤v
 ·rw[Int.min_eq_left huv] at k2;rw[Int.max_eq_right huv] at k3;exact⟨k2,k3⟩
 ·rw[Int.min_eq_right (by omega)] at k2;rw[Int.max_eq_left (by omega)] at k3;exact⟨k3,k2⟩
theorem oL {g:GT}(G:Gr.Ok g)(d:DT):aN g d=bD g d:=by
 obtain⟨op,u,v,lb,wt⟩:=d
 obtain⟨a1,a2⟩:=oK g.1 u
 obtain⟨b1,b2⟩:=oK g.1 v
 obtain⟨c1,c2⟩:=vL G u v
 have hc:=vM G (u:=u) (v:=v)
 have e1:decide (7<op)=decide (8≤op):=decide_eq_decide.2 (by omega)
 have e2:∀n,(decide (n<0) || decide (1023<n)) = !cu n:=fun n=>by
  rw[cu,Bool.eq_iff_iff];simp only[Bool.or_eq_true,decide_eq_true_eq,Bool.not_eq_true',Bool.and_eq_false_iff,decide_eq_false_iff_not];omega
 have e3:(decide (wt < -1048576) || decide (1048576<wt))=Gr.heavy wt:=rfl
 simp only[aN,bD,tests,cw,a1,a2,b1,b2,c1,c2,e1,e2,e3]
 generalize inV g.1 u=a at *
 generalize inV g.1 v=b at *
 generalize inE g.2 u v=c at *
 generalize (!cu u)=iu
 generalize (!cu v)=iv
 generalize Gr.heavy wt=hv
 generalize decide ((1024:Int)≤(g.2.length:Nat))=ln
 clear a1 a2 b1 b2 c1 c2 e1 e2 e3
 by_cases h1:(decide (op<0) || decide (8≤op))=true
 ·rw[if_pos h1,if_pos h1]
 rw[if_neg h1,if_neg h1]
 simp only[Bool.or_eq_true,decide_eq_true_eq,not_or,Int.not_lt,Int.not_le] at h1
 by_cases h2:(iu || Gr.pairs op&&iv || Gr.weighs op&&hv)=true
 ·rw[if_pos h2,if_pos h2]
 rw[if_neg h2,if_neg h2]
 by_cases h3:(Gr.pairs op&&u==v)=true
 ·rw[if_pos h3,if_pos h3]
 rw[if_neg h3,if_neg h3]
 clear h2 h3
 rcases (show op=0∨op=1∨op=2∨op=3∨op=4∨op=5∨op=6∨op=7 by omega) with rfl|rfl|rfl|rfl|rfl|rfl|rfl|rfl <;>
  (cases a <;> cases b <;> cases c <;> cases ln <;> first|rfl|(have:=hc rfl;simp at this))
section
variable {α β:Type}[DecidableEq α]
def cD (l:List (α×β))(k:α)(f:β→β):List (α×β):=l.map fun y=>if y.1=k then (y.1,f y.2) else y
theorem vN {l:List (α×β)}{k:α}{f:β→β}(h:∀y∈l,y.1≠k):cD l k f=l:=by
 unfold cD
 conv=>rhs;rw[← List.map_id l]
 exact List.map_congr_left fun y hy=>by rw[if_neg (h y hy)];rfl
theorem gG {k:α}{c:β}{f:β→β}:∀{l:List (α×β)},l.Pairwise (fun p q=>p.1≠q.1)→(k,c)∈l→(bw l k (f c)).Perm (cD l k f)
 | [],_,h=>absurd h (by simp)
 | y::l,hp,h=>by
  obtain⟨h1,h2⟩:=List.pairwise_cons.1 hp
  by_cases hy:y.1=k
  ·have hl:∀z∈l,z.1≠k:=fun z hz e=>h1 z hz (by rw[hy,e])
   have hyc:y=(k,c):=(List.mem_cons.1 h).elim Eq.symm fun hm=>absurd rfl (hl _ hm)
   subst hyc
   have e1:cD ((k,c)::l) k f=(k,f c)::l:=by
    rw[show cD ((k,c)::l) k f=(if (k,c).1=k then ((k,c).1,f (k,c).2) else (k,c))::cD l k f from rfl,if_pos rfl,vN hl]
   rw[e1,bw,List.filter_cons_of_neg (by simp),List.filter_eq_self.2 fun z hz=>by simpa using hl z hz]
  ·have hm:(k,c)∈l:=(List.mem_cons.1 h).resolve_left fun e=>hy (by rw[← e])
   have e1:cD (y::l) k f=y::cD l k f:=by
    rw[show cD (y::l) k f=(if y.1=k then (y.1,f y.2) else y)::cD l k f from rfl,if_neg hy]
   rw[e1,bw,List.filter_cons_of_pos (by simpa using hy)]
   exact (List.Perm.swap _ _ _).trans ((gG (f:=f) h2 hm).cons y)
end
def doA (g:GT)(d:DT):GT:=
 if d.1=0 then (bw g.1 d.2.1 d.2.2.2,g.2)
 else if d.1=1 then (bS g.1 d.2.1,g.2.filter fun p => !(p.1.1==d.2.1 || p.1.2==d.2.1))
 else if d.1=2 then (g.1,bw g.2 (Gr.ends d.2.1 d.2.2.1) d.2.2.2)
 else if d.1=3 then (g.1,bS g.2 (Gr.ends d.2.1 d.2.2.1))
 else if d.1=4 then (cD g.1 d.2.1 fun t=>(d.2.2.2.1,t.2),g.2)
 else if d.1=5 then (cD g.1 d.2.1 fun t=>(t.1,d.2.2.2.2),g.2)
 else if d.1=6 then (g.1,cD g.2 (Gr.ends d.2.1 d.2.2.1) fun t=>(d.2.2.2.1,t.2))
 else (g.1,cD g.2 (Gr.ends d.2.1 d.2.2.1) fun t=>(t.1,d.2.2.2.2))
theorem ko {g:GT}(G:Gr.Ok g)(u v:Int)(i:Nat)(x:ET)(h:g.2[i]?=some x):((i:Int)==ci g.2 u v)=decide (x.1=Gr.ends u v):=by
 have hE:∀y∈g.2,fg y u v=decide (y.1=Gr.ends u v):=fun y hy=>by
  obtain⟨k1,_⟩:=G.re y hy
  obtain⟨⟨p,q⟩,c⟩:=y
  rw[Bool.eq_iff_iff]
  simp only[fg,Bool.or_eq_true,Bool.and_eq_true,beq_iff_eq,decide_eq_true_eq,Gr.ends,Prod.mk.injEq]
  simp only at k1
  omega
 rw[← hE x (List.mem_of_getElem? h)]
 unfold ci
 split
 ·rename_i j hj
  obtain⟨h1,h2,_⟩:=List.findIdx?_eq_some_iff_getElem.1 hj
  by_cases hij:i=j
  ·subst hij
   obtain⟨_,rfl⟩:=List.getElem?_eq_some_iff.1 h
   rw[h2];simp
  ·have:((i:Int)==(j:Int))=false:=beq_eq_false_iff_ne.2 fun h=>hij (by omega)
   rw[this]
   cases hx:fg x u v with
   | false=>rfl
   | true=>
    rw[hE _ (List.mem_of_getElem? h)] at hx
    rw[hE _ (List.getElem_mem h1)] at h2
    have e1:=of_decide_eq_true hx
    have e2:=of_decide_eq_true h2
    obtain⟨hi,rfl⟩:=List.getElem?_eq_some_iff.1 h
    have hs:=List.pairwise_iff_getElem.1 G.se
    rcases Nat.lt_or_gt_of_ne hij with h3|h3
    ·exact absurd (e1.trans e2.symm) (fe (hs _ _ hi h1 h3)).2
    ·exact absurd (e2.trans e1.symm) (fe (hs _ _ h1 hi h3)).2
 ·rename_i hn
  rw[List.findIdx?_eq_none_iff] at hn
  rw[hn x (List.mem_of_getElem? h)]
  exact beq_eq_false_iff_ne.2 (by omega)
theorem fk {d:DT}{a:Int}{f:ET→Option ET}:∀{l:List ET} {i:Nat},(∀j x,l[j]?=some x→bN d a (i+j) x=f x)→bq d a i l=l.filterMap f
 | [],_,_=>rfl
 | x::l,i,h=>by
  have h0:=h 0 x rfl
  rw[Nat.add_zero] at h0
  have ih:=fk (f:=f) (l:=l) (i:=i+1) fun j y hy=>by
   have:=h (j+1) y (by simpa using hy)
   rwa [show i+(j+1)=i+1+j by omega] at this
  rw[bq,ih,h0,List.filterMap_cons]
  cases f x <;> simp
theorem iw {γ:Type}{p:γ→Bool}:∀l:List γ,(l.filterMap fun x=>if p x=true then none else some x)=l.filter fun x => !p x
 | []=>rfl
 | x::l=>by
  rw[List.filterMap_cons,List.filter_cons,iw l]
  cases p x <;> simp
theorem gH {γ:Type}{f:γ→γ}:∀l:List γ,(l.filterMap fun x=>some (f x))=l.map f
 | []=>rfl
 | x::l=>by rw[List.filterMap_cons,List.map_cons,gH l]
theorem vO {g:GT}(G:Gr.Ok g){d:DT}(hw:aN g d=0):(doA g d).1.Perm (doR g d).1.1∧(doA g d).2.Perm (doR g d).1.2:=by
 have hwr:bD g d=0:=by rw[← oL G];exact hw
 obtain⟨op,u,v,lb,wt⟩:=d
 have hop:0≤op∧op≤7:=by
  by_cases h:(decide (op<0) || decide (8≤op))=true
  ·simp only[aN,tests,cw,h,if_pos] at hw;cases hw
  ·simp only[Bool.or_eq_true,decide_eq_true_eq,not_or] at h;omega
 have hn:¬((bD g (op,u,v,lb,wt) != 0)=true):=by rw[hwr];decide
 rcases (show op=0∨op=1∨op=2∨op=3∨op=4∨op=5∨op=6∨op=7 by omega) with rfl|rfl|rfl|rfl|rfl|rfl|rfl|rfl
 ·have e1:(doR g (0,u,v,lb,wt)).1=(insV g.1 (u,lb,wt),g.2):=by rw[doR,if_neg hn];rfl
  rw[e1]
  refine⟨?_,List.Perm.refl _⟩
  have hk:∀y∈g.1,y.1≠u:=by
   have:inV g.1 u=false:=by
    cases hu:inV g.1 u with
    | false=>rfl
    | true=>
     exfalso;revert hw
     simp only[aN,tests,cw,hu]
     simp[Gr.pairs]
     repeat' split
     all_goals simp
   intro y hy;rw[inV,List.any_eq_false] at this;simpa using this y hy
  show (bw g.1 u (lb,wt)).Perm _
  rw[bw,List.filter_eq_self.2 fun p hp=>by simpa using hk p hp]
  exact (gF _ _ _).symm
 ·have e1:(doR g (1,u,v,lb,wt)).1=cZ g (1,u,v,lb,wt):=by rw[doR,if_neg hn];rfl
  rw[e1]
  refine⟨List.Perm.of_eq ?_,List.Perm.of_eq ?_⟩
  ·exact (iw (p:=fun x:VT=>decide (x.1=u)) g.1).symm.trans (congrFun (congrArg List.filterMap (funext fun x=>by simp[keepV])) _)
  ·refine (iw (p:=fun x:ET=>x.1.1==u || x.1.2==u) g.2).symm.trans (fk fun j x hx=>?_).symm
   simp[bN]
 ·have e1:(doR g (2,u,v,lb,wt)).1=(g.1,fc g.2 (Gr.ends u v,lb,wt)):=by rw[doR,if_neg hn];rfl
  rw[e1]
  refine⟨List.Perm.refl _,?_⟩
  have hk:∀y∈g.2,y.1≠Gr.ends u v:=by
   have:inE g.2 u v=false:=by
    cases hu:inE g.2 u v with
    | false=>rfl
    | true=>
     exfalso;revert hw
     simp only[aN,tests,cw,hu]
     simp
     repeat' split
     all_goals simp
   intro y hy;rw[inE,List.any_eq_false] at this;simpa using this y hy
  show (bw g.2 (Gr.ends u v) (lb,wt)).Perm _
  rw[bw,List.filter_eq_self.2 fun p hp=>by simpa using hk p hp]
  exact (gF _ _ _).symm
 ·have e1:(doR g (3,u,v,lb,wt)).1=cZ g (3,u,v,lb,wt):=by rw[doR,if_neg hn];rfl
  rw[e1]
  refine⟨List.Perm.of_eq ?_,List.Perm.of_eq ?_⟩
  ·exact ((congrFun (congrArg List.filterMap (funext fun x=>by simp[keepV])) _).trans List.filterMap_some).symm
  ·refine (iw (p:=fun x:ET=>decide (x.1=Gr.ends u v)) g.2).symm.trans (fk fun j x hx=>?_).symm
   rw[← ko G u v j x hx]
   simp[bN,atE,Gr.pairs]
 ·have e1:(doR g (4,u,v,lb,wt)).1=cZ g (4,u,v,lb,wt):=by rw[doR,if_neg hn];rfl
  rw[e1]
  refine⟨List.Perm.of_eq ?_,List.Perm.of_eq ?_⟩
  ·exact (gH g.1).symm.trans (congrFun (congrArg List.filterMap (funext fun x=>by by_cases h:x.1=u <;> simp[keepV,h])) _)
  ·exact ((fk (f:=some) fun j x hx=>by simp[bN]).trans (List.filterMap_some)).symm
 ·have e1:(doR g (5,u,v,lb,wt)).1=cZ g (5,u,v,lb,wt):=by rw[doR,if_neg hn];rfl
  rw[e1]
  refine⟨List.Perm.of_eq ?_,List.Perm.of_eq ?_⟩
  ·exact (gH g.1).symm.trans (congrFun (congrArg List.filterMap (funext fun x=>by by_cases h:x.1=u <;> simp[keepV,h])) _)
  ·exact ((fk (f:=some) fun j x hx=>by simp[bN]).trans (List.filterMap_some)).symm
 ·have e1:(doR g (6,u,v,lb,wt)).1=cZ g (6,u,v,lb,wt):=by rw[doR,if_neg hn];rfl
  rw[e1]
  refine⟨List.Perm.of_eq ?_,List.Perm.of_eq ?_⟩
  ·exact ((congrFun (congrArg List.filterMap (funext fun x=>by simp[keepV])) _).trans List.filterMap_some).symm
  ·refine (gH g.2).symm.trans (fk fun j x hx=>?_).symm
   have h:=ko G u v j x hx
   by_cases hk:x.1=Gr.ends u v
   ·rw[decide_eq_true hk] at h;simp only[bN,atE,Gr.pairs];simp;rw[beq_iff_eq] at h;rw[if_pos h,if_pos hk]
   ·rw[decide_eq_false hk] at h;simp only[bN,atE,Gr.pairs];simp;rw[beq_eq_false_iff_ne] at h;rw[if_neg h,if_neg hk]
 ·have e1:(doR g (7,u,v,lb,wt)).1=cZ g (7,u,v,lb,wt):=by rw[doR,if_neg hn];rfl
  rw[e1]
  refine⟨List.Perm.of_eq ?_,List.Perm.of_eq ?_⟩
  ·exact ((congrFun (congrArg List.filterMap (funext fun x=>by simp[keepV])) _).trans List.filterMap_some).symm
  ·refine (gH g.2).symm.trans (fk fun j x hx=>?_).symm
   have h:=ko G u v j x hx
   by_cases hk:x.1=Gr.ends u v
   ·rw[decide_eq_true hk] at h;simp only[bN,atE,Gr.pairs];simp;rw[beq_iff_eq] at h;rw[if_pos h,if_pos hk]
   ·rw[decide_eq_false hk] at h;simp only[bN,atE,Gr.pairs];simp;rw[beq_eq_false_iff_ne] at h;rw[if_neg h,if_neg hk]
theorem oO {g:GT}{u v lb wt:Int}:(aN g (4,u,v,lb,wt)=0→inV g.1 u=true)∧(aN g (5,u,v,lb,wt)=0→inV g.1 u=true):=by
 cases h:inV g.1 u with
 | true=>exact⟨fun _=>rfl,fun _=>rfl⟩
 | false=>
  constructor
  all_goals
   intro hw
   exfalso
   revert hw
   simp only[aN,tests,cw,h]
   simp[Gr.pairs]
   repeat' split
   all_goals simp
theorem oP {g:GT}{u v lb wt:Int}:(aN g (6,u,v,lb,wt)=0→inE g.2 u v=true)∧(aN g (7,u,v,lb,wt)=0→inE g.2 u v=true):=by
 cases h:inE g.2 u v with
 | true=>exact⟨fun _=>rfl,fun _=>rfl⟩
 | false=>
  constructor
  all_goals
   intro hw
   exfalso
   revert hw
   simp only[aN,tests,cw,h]
   simp[Gr.pairs]
   repeat' split
   all_goals simp
theorem oQ {l:List VT}{u:Int}(h:inV l u=true):∃c,(u,c)∈l:=by
 obtain⟨y,hy,hh⟩:=List.any_eq_true.1 h
 have:=of_decide_eq_true hh
 exact⟨y.2,by rw[← this];exact hy⟩
theorem oR {l:List ET}{u v:Int}(h:inE l u v=true):∃c,(Gr.ends u v,c)∈l:=by
 obtain⟨y,hy,hh⟩:=List.any_eq_true.1 h
 have:=of_decide_eq_true hh
 exact⟨y.2,by rw[← this];exact hy⟩
theorem MpR.oks {α β:Type}{V:KV Tryz.prog α β}{w:World}{b n:Nat}{l:List (α×β)}(h:MpR V w b n l):(∀p∈l,V.ok p.1∧V.okv p.2)∧l.Pairwise fun p q=>p.1≠q.1:=h.elim fun _ h=>h.2.2
def apA (g:GT)(d:DT):GT:=if aN g d=0 then doA g d else g
def vP (g:GT)(bg bv be n:Nat)(W:World)(en:Ending)(w':World):Prop:=en=.returned (.tuple #[])∧Chg (fun b=>b=bv∨b=be) W w'∧GrR w' bg bv be n g
theorem vQ {g:GT}{d:DT}{bg bv be n:Nat}(hn:n<maxLen)(hb:aN g d=0)(hw:(Lit.int .i64 d.2.1).wf=true)(hw2:(Lit.int .i64 d.2.2.1).wf=true)(ho:okT d.2.2.2) :
  ∃(op:Nat) (f:FuncId),d.1=(op:Int)∧op<8∧fj[op]?=some (.func (.func f) #[] #[])∧Proofs.Enters Tryz.prog f∧∀w,GrR w bg bv be n g→Calls Tryz.prog f #[.pointer (some ⟨bg,0,none⟩),dtV d] w (vP (doA g d) bg bv be (n+1) w):=by
 obtain⟨op,u,v,lb,wt⟩:=d
 have hop:0≤op∧op≤7:=by
  by_cases h:(decide (op<0) || decide (8≤op))=true
  ·simp only[aN,tests,cw,h,if_pos] at hb;cases hb
  ·simp only[Bool.or_eq_true,decide_eq_true_eq,not_or] at h;omega
 have he:=jS hw hw2
 rcases (show op=0∨op=1∨op=2∨op=3∨op=4∨op=5∨op=6∨op=7 by omega) with rfl|rfl|rfl|rfl|rfl|rfl|rfl|rfl
 ·exact⟨0,114,rfl,by decide,rfl,lY,fun w hg=>oh g (0,u,v,lb,wt) bg bv be n w hg hn hw ho⟩
 ·exact⟨1,115,rfl,by decide,rfl,rS,fun w hg=>(vE g (1,u,v,lb,wt) bg bv be n w hg hw).mono fun en w' ⟨h1,h2,h3⟩=>⟨h1,h2,h3.mono (Nat.le_succ _)⟩⟩
 ·exact⟨2,116,rfl,by decide,rfl,lZ,fun w hg=>oi g (2,u,v,lb,wt) bg bv be n w hg hn he ho⟩
 ·exact⟨3,117,rfl,by decide,rfl,rT,fun w hg=>(vw g (3,u,v,lb,wt) bg bv be n w hg he).mono fun en w' ⟨h1,h2,h3⟩=>⟨h1,h2,h3.mono (Nat.le_succ _)⟩⟩
 ·obtain⟨c,hc⟩:=oQ (oO.1 hb)
  exact⟨4,118,rfl,by decide,rfl,rU,fun w hg=>(vx g (4,u,v,lb,wt) bg bv be n w hg c hc hn hw ⟨ho.1,((hg.vs.oks.1 _ hc).2).2⟩).mono fun en w' ⟨h1,h2,h3⟩=>⟨h1,h2,h3.perm (gG (f:=fun t=>(lb,t.2)) hg.vs.oks.2 hc) (List.Perm.refl _)⟩⟩
 ·obtain⟨c,hc⟩:=oQ (oO.2 hb)
  exact⟨5,119,rfl,by decide,rfl,rV,fun w hg=>(vy g (5,u,v,lb,wt) bg bv be n w hg c hc hn hw ⟨((hg.vs.oks.1 _ hc).2).1,ho.2⟩).mono fun en w' ⟨h1,h2,h3⟩=>⟨h1,h2,h3.perm (gG (f:=fun t=>(t.1,wt)) hg.vs.oks.2 hc) (List.Perm.refl _)⟩⟩
 ·obtain⟨c,hc⟩:=oR (oP.1 hb)
  exact⟨6,120,rfl,by decide,rfl,rW,fun w hg=>(vz g (6,u,v,lb,wt) bg bv be n w hg c hc hn he ⟨ho.1,((hg.es.oks.1 _ hc).2).2⟩).mono fun en w' ⟨h1,h2,h3⟩=>⟨h1,h2,h3.perm (List.Perm.refl _) (gG (f:=fun t=>(lb,t.2)) hg.es.oks.2 hc)⟩⟩
 ·obtain⟨c,hc⟩:=oR (oP.2 hb)
  exact⟨7,121,rfl,by decide,rfl,rX,fun w hg=>(vA g (7,u,v,lb,wt) bg bv be n w hg c hc hn he ⟨((hg.es.oks.1 _ hc).2).1,ho.2⟩).mono fun en w' ⟨h1,h2,h3⟩=>⟨h1,h2,h3.perm (List.Perm.refl _) (gG (f:=fun t=>(t.1,wt)) hg.es.oks.2 hc)⟩⟩
theorem vR (g:GT)(d:DT)(bg bv be n:Nat)(W:World)(hg:GrR W bg bv be n g)(hn:n<maxLen)(hw:(Lit.int .i64 d.2.1).wf=true)(hw2:(Lit.int .i64 d.2.2.1).wf=true)(ho:okT d.2.2.2) :
  Calls Tryz.prog 33 #[.pointer (some ⟨bg,0,none⟩),dtV d] W fun en w'=>en=.returned (I (aN g d))∧Chg (fun b=>b=bv∨b=be) W w'∧GrR w' bg bv be (n+1) (apA g d):=by
 refine enter (args:=[.pointer (some ⟨bg,0,none⟩),dtV d]) (As:=[E (.pointer (some ⟨bg,0,none⟩)),E (dtV d)]) Tryz.func33 rfl Tryz.ntmps33 (Nat.le_of_ble_eq_true rfl) ?_ (fun a hf=>?_) (Nat.le_of_ble_eq_true rfl)
 rotate_left
 dsimp only[params,Nat.reduceAdd] at hf
 rotate_right
 ·exact arg2 rfl rfl
 have e:=Ext.rfl' W
 refine seq ?_
 refine ah ?_
 refine aH hf rfl (by decide) fun a b3 w v3 hv3 e' hb3 hs3 B3 hf=>?_
 have hle3:=Nat.le_trans e.size (Nat.le_of_eq hb3.symm)
 replace e:=e.tr e'
 replace hg:=hg.ext e'
 refine ae hf rfl (by decide) fun a hf=>?_
 refine aa ?_
 cases hv3
 repeat refine seq ?_
 refine ac 2 hf (by decide +kernel) ?_
 refine st (mv rfl) ?_
 refine st (dl U38 (isE rfl (hg.dv (Nat.le_refl _) (G:=G0) id id id))) ?_
 refine en fun a w e' hf=>?_
 replace e:=e.tr e'
 replace hg:=hg.ext e'
 replace B3:=B3.ext e'
 refine aa ?_
 refine ifc hf rfl (fun h=>by cases h) (fun _=>?_)
 refine ak ?_
 simp only[Exit.then,Exit.inBlock,↓reduceIte]
 replace hf:=hf.kp [0,3,4]
 repeat refine seq ?_
 refine ac 3 hf (by decide +kernel) ?_
 refine st (mv rfl) ?_
 refine st ((ldW T26 rfl B3 rfl).eq ((rfl:_=dtV d))) ?_
 refine st (ax (A:=E (I (aN g d))) lR rfl rfl (fun v u w he h h'=>by cases h;cases h';exact og (M:=n) (G:=G0) g d _ w ((hg.ext he).dv (Nat.le_refl _) id id id) hw hw2)) ?_
 refine en fun a w e' hf=>?_
 replace e:=e.tr e'
 replace hg:=hg.ext e'
 replace B3:=B3.ext e'
 refine ae hf rfl (by decide) fun a hf=>?_
 refine aa ?_
 refine seq ?_
 refine ac 2 hf (by decide +kernel) ?_
 refine st (mv rfl) ?_
 refine st (neq rfl rfl) ?_
 refine en fun a w e' hf=>?_
 replace e:=e.tr e'
 replace hg:=hg.ext e'
 replace B3:=B3.ext e'
 refine aa ?_
 refine ifc hf rfl (fun hb=>?_) (fun hb=>?_)
 ·have hb':¬aN g d=0:=by simpa using hb
  refine seq ?_
  refine ac 1 hf (by decide +kernel) ?_
  refine st (mv rfl) ?_
  refine en fun a w e' hf=>?_
  replace e:=e.tr e'
  replace hg:=hg.ext e'
  replace B3:=B3.ext e'
  refine ae hf rfl (by decide) fun a hf=>?_
  refine aa ?_
  refine aj ?_
  simp only[Exit.then,Exit.inBlock]
  refine al rfl hf rfl ?_
  rintro _ rfl
  exact⟨rfl,e.chg _,by rw[apA,if_neg hb'];exact hg.mono (Nat.le_succ _)⟩
 ·have hb':aN g d=0:=by simpa using hb
  refine ak ?_
  simp only[Exit.then,Exit.inBlock,↓reduceIte]
  replace hf:=hf.kp [0,3,4]
  have fin:apA g d=doA g d:=by rw[apA,if_pos hb']
  obtain⟨op,f,hop,hop8,hdf,hEf,hsp⟩:=vQ (g:=g) (d:=d) (bg:=bg) (bv:=bv) (be:=be) (n:=n) hn hb' hw hw2 ho
  refine seq ?_
  refine ew 7 [0,0,0,0,0,0] (Chg (fun b=>b=bv∨b=be)) (cC.chg _) (fun w=>GrR w bg bv be (n+1) (doA g d)) (fun w w1 k h=>h.ext k) Mix.mix hf (by decide +kernel) (by decide +kernel) ?_
  refine ja (fZ (A:=E (.agg fj)) iZ (fun w he=>jT w)) ?_
  refine ja (ai U26 rfl T3 (by decide) rfl) ?_
  refine ja ((ld1 T3 rfl B3 rfl).eq ((congrArg (Value.int .i64) hop:_=I (op:Nat)))) ?_
  refine ja (ga jg iS rfl rfl ⟨by omega,by omega⟩ (by rw[Int.toNat_natCast];exact hdf)) ?_
  refine ja (mv rfl) ?_
  refine ja ((ldW T26 rfl B3 rfl).eq ((rfl:_=dtV d))) ?_
  refine jx (jP hEf rfl rfl rfl (fun w he=>(hsp w (hg.ext he)).mono fun en w' ⟨h1,h2,h3⟩=>⟨_,h1,h2,h3⟩)) ?_
  refine je ?_
  refine fun a w hc HF hf=>?_
  try dsimp only[push] at hf
  refine aa ?_
  replace hf:=hf.kp [4]
  have e3:=Ext.rfl' w
  refine seq ?_
  refine ah ?_
  refine ae hf rfl (by decide) fun a hf=>?_
  refine aa ?_
  refine aj ?_
  refine al rfl hf rfl ?_
  rintro _ rfl
  exact⟨by rw[hb'],(e.chg _).tr hc,by rw[fin];exact HF⟩
end Go.Mono
namespace Go.MonoD
open Go Go.RowKit Go.Mono
structure Ext (w w':World):Prop extends Below w.heap.size w w' where
 drawn:w.drawn≤w'.drawn
theorem Ext.rfl' (w:World):Ext w w:=⟨Below.refl _ _,Nat.le_refl _⟩
theorem Ext.tr {a b c:World}(h:Ext a b)(k:Ext b c):Ext a c:=⟨Below.trans h.toBelow (Below.mono k.toBelow h.size),Nat.le_trans h.drawn k.drawn⟩
instance:Gro Ext:=⟨Ext.rfl',Ext.tr,fun w=>⟨(Below.refl _ _).drew,Nat.le_succ _⟩,fun w o=>⟨(Below.refl _ w).alloc (Nat.le_refl _) o,Nat.le_refl _⟩,fun h=>h.toBelow⟩
abbrev VA:=VAr Ext
abbrev Env:=aR Ext
abbrev E (x:Value):VA:=ER x
abbrev Any:VA:=iI
abbrev Post (A:VA)(w:World):Ending→World→Prop:=eS A w
end Go.MonoD
namespace Go.MonoD
open Go Go.Proofs Go.RowKit Go.Mono
abbrev I (n:Int):Value:=.int .i64 n
theorem Mix.mix:Tryz.prog.follows .mixedOrders=true:=Go.Mono.Mix.mix
theorem T3:TI Tryz.prog 3 false 1:=ti (by decide +kernel)
theorem T72:TI Tryz.prog 72 true 3:=ti (by decide +kernel)
theorem T75:TI Tryz.prog 75 true 4:=ti (by decide +kernel)
def cmpI (x y:Int):Int:=if x<y then -1 else if y<x then 1 else 0
theorem arg1 {A:VA}{v:Value}{w:World}(h:A.p v w):∀(i:Nat) (B:VA),[A][i]?=some B→B.p ([v].getD i undef) w:=fun i B hB=>by
 match i with
 | 0=>simp at hB;subst hB;exact h
 | i+1=>simp at hB
theorem arg2 {A B:VA}{u v:Value}{w:World}(h:A.p u w)(h':B.p v w):∀(i:Nat) (C:VA),[A,B][i]?=some C→C.p ([u,v].getD i undef) w:=fun i C hC=>by
 match i with
 | 0=>simp at hC;subst hC;exact h
 | 1=>simp at hC;subst hC;exact h'
 | i+2=>simp at hC
theorem vS (x:Int)(W:World):Calls Tryz.prog 124 #[I x] W (Post (E (.bool false)) W):=by
 refine enter (args:=[I x]) (As:=[E (I x)]) Tryz.func124 rfl Tryz.ntmps124 (Nat.le_of_ble_eq_true rfl) ?_ (fun a hf=>?_) (Nat.le_of_ble_eq_true rfl)
 rotate_left
 dsimp only[params,Nat.reduceAdd] at hf
 rotate_right
 ·exact arg1 rfl
 have e:=Ext.rfl' W
 refine seq ?_
 refine ah ?_
 refine ae hf rfl (by decide) fun a hf=>?_
 refine aa ?_
 refine seq ?_
 refine ac 3 hf (by decide +kernel) ?_
 refine st (mv rfl) ?_
 refine st (mv rfl) ?_
 refine st ((neq rfl rfl).eq (congrArg Value.bool ((show (x != x)=false by simp)))) ?_
 refine en fun a w e' hf=>?_
 replace e:=e.tr e'
 refine ae hf rfl (by decide) fun a hf=>?_
 refine aa ?_
 refine aj ?_
 refine al rfl hf rfl ?_
 rintro _ rfl
 exact⟨_,rfl,e,rfl⟩
theorem oU (x:Int)(v:Value)(w:World)(h:(E (I x)).p v w):Calls Tryz.prog 124 #[v] w (Post (E (.bool false)) w):=by cases h;exact vS x w
theorem vT (x y:Int)(W:World):Calls Tryz.prog 78 #[I x,I y] W (Post (E (I (cmpI x y))) W):=by
 refine enter (args:=[I x,I y]) (As:=[E (I x),E (I y)]) Tryz.func78 rfl Tryz.ntmps78 (Nat.le_of_ble_eq_true rfl) ?_ (fun a hf=>?_) (Nat.le_of_ble_eq_true rfl)
 rotate_left
 dsimp only[params,Nat.reduceAdd] at hf
 rotate_right
 ·exact arg2 rfl rfl
 have e:=Ext.rfl' W
 refine seq ?_
 refine ah ?_
 refine ae hf rfl (by decide) fun a hf=>?_
 refine aa ?_
 refine seq ?_
 refine ac 2 hf (by decide +kernel) ?_
 refine st (mv rfl) ?_
 refine st (aw Mono.En124 rfl (fun v w he h=>oU x v w h)) ?_
 refine en fun a w e' hf=>?_
 replace e:=e.tr e'
 refine ae hf rfl (by decide) fun a hf=>?_
 refine aa ?_
 refine seq ?_
 refine ac 2 hf (by decide +kernel) ?_
 refine st (mv rfl) ?_
 refine st (aw Mono.En124 rfl (fun v w he h=>oU y v w h)) ?_
 refine en fun a w e' hf=>?_
 replace e:=e.tr e'
 refine ae hf rfl (by decide) fun a hf=>?_
 refine aa ?_
 repeat refine seq ?_
 refine ac 1 hf (by decide +kernel) ?_
 refine st (mv rfl) ?_
 refine en fun a w e' hf=>?_
 replace e:=e.tr e'
 refine aa ?_
 refine ifc hf rfl (fun h=>by cases h) (fun _=>?_)
 refine ak ?_
 simp only[Exit.then,Exit.inBlock,↓reduceIte]
 repeat refine seq ?_
 refine ac 1 hf (by decide +kernel) ?_
 refine st (mv rfl) ?_
 refine en fun a w e' hf=>?_
 replace e:=e.tr e'
 refine aa ?_
 refine ifc hf rfl (fun h=>by cases h) (fun _=>?_)
 refine ak ?_
 simp only[Exit.then,Exit.inBlock,↓reduceIte]
 repeat refine seq ?_
 refine ac 3 hf (by decide +kernel) ?_
 refine st (mv rfl) ?_
 refine st (mv rfl) ?_
 refine st (lss rfl rfl) ?_
 refine en fun a w e' hf=>?_
 replace e:=e.tr e'
 refine aa ?_
 refine ifc hf rfl (fun hb=>?_) (fun hb=>?_)
 ·refine seq ?_
  refine ah ?_
  refine ae hf rfl (by decide) fun a hf=>?_
  refine aa ?_
  refine aj ?_
  simp only[Exit.then,Exit.inBlock]
  refine al rfl hf rfl ?_
  rintro _ rfl
  exact⟨_,rfl,e,congrArg I (by rw[cmpI,if_pos (of_decide_eq_true hb)])⟩
 ·refine ak ?_
  simp only[Exit.then,Exit.inBlock,↓reduceIte]
  repeat refine seq ?_
  refine ac 3 hf (by decide +kernel) ?_
  refine st (mv rfl) ?_
  refine st (mv rfl) ?_
  refine st (gtr rfl rfl) ?_
  refine en fun a w e' hf=>?_
  replace e:=e.tr e'
  refine aa ?_
  have hb1:=of_decide_eq_false hb
  refine ifc hf rfl (fun hb=>?_) (fun hb=>?_)
  ·refine seq ?_
   refine ah ?_
   refine ae hf rfl (by decide) fun a hf=>?_
   refine aa ?_
   refine aj ?_
   simp only[Exit.then,Exit.inBlock]
   refine al rfl hf rfl ?_
   rintro _ rfl
   exact⟨_,rfl,e,congrArg I (by rw[cmpI,if_neg hb1,if_pos (of_decide_eq_true hb)])⟩
  ·refine ak ?_
   simp only[Exit.then,Exit.inBlock,↓reduceIte]
   refine seq ?_
   refine ah ?_
   refine ae hf rfl (by decide) fun a hf=>?_
   refine aa ?_
   refine aj ?_
   refine al rfl hf rfl ?_
   rintro _ rfl
   exact⟨_,rfl,e,congrArg I (by rw[cmpI,if_neg hb1,if_neg (of_decide_eq_false hb)])⟩
theorem kq (x y:Int)(v u:Value)(w:World)(h:(E (I x)).p v w)(h':(E (I y)).p u w):Calls Tryz.prog 78 #[v,u] w (Post (E (I (cmpI x y))) w):=by cases h;cases h';exact vT x y w
theorem Ext.grown {W w:World}(e:Ext W w):∃q os,w=Sort.grow (W.drewN q) os:=by
 refine⟨w.drawn - W.drawn,w.heap.extract W.heap.size w.heap.size,?_⟩
 have hh:w.heap=W.heap++w.heap.extract W.heap.size w.heap.size:=by
  apply Array.ext_getElem?
  intro i
  rw[Array.getElem?_append]
  split
  ·rename_i h;exact e.block i h
  ·rename_i h
   rw[Array.getElem?_extract]
   by_cases hi:i<w.heap.size
   ·have e1:W.heap.size+(i - W.heap.size)=i:=by omega
    rw[if_pos (by omega),e1]
   ·rw[if_neg (by omega)]
    simp only[Array.getElem?_eq_none_iff];omega
 have hd:W.drawn+(w.drawn - W.drawn)=w.drawn:=by have:=e.drawn;omega
 cases w
 simp only at hh hd
 have ho:=e.os;have ht:=e.tape;have hp:=e.output
 simp only at ho ht hp
 simp only[Sort.grow,World.drewN,World.mk.injEq]
 exact⟨hh,ht,hd.symm,ho,hp⟩
theorem cmpV_spec (x y:Int×Int×Int)(W:World):Calls Tryz.prog 77 #[.agg #[.int .i64 x.1,.int .u8 x.2.1,.int .i64 x.2.2],.agg #[.int .i64 y.1,.int .u8 y.2.1,.int .i64 y.2.2]] W (Post (E (I (cmpI x.1 y.1))) W):=by
 refine enter (args:=[.agg #[.int .i64 x.1,.int .u8 x.2.1,.int .i64 x.2.2],.agg #[.int .i64 y.1,.int .u8 y.2.1,.int .i64 y.2.2]]) (As:=[E (.agg #[.int .i64 x.1,.int .u8 x.2.1,.int .i64 x.2.2]),E (.agg #[.int .i64 y.1,.int .u8 y.2.1,.int .i64 y.2.2])]) Tryz.func77 rfl Tryz.ntmps77 (Nat.le_of_ble_eq_true rfl) ?_ (fun a hf=>?_) (Nat.le_of_ble_eq_true rfl)
 rotate_left
 dsimp only[params,Nat.reduceAdd] at hf
 rotate_right
 ·exact arg2 rfl rfl
 have e:=Ext.rfl' W
 refine seq ?_
 refine ah ?_
 refine aH hf rfl (by decide) fun a b2 w v2 hv2 e' hb2 hs2 B2 hf=>?_
 have hle2:=Nat.le_trans e.size (Nat.le_of_eq hb2.symm)
 replace e:=e.tr e'
 clear e'
 refine aH hf rfl (by decide) fun a b3 w v3 hv3 e' hb3 hs3 B3 hf=>?_
 have hle3:=Nat.le_trans e.size (Nat.le_of_eq hb3.symm)
 have lt3_B2:=B2.lt
 replace e:=e.tr e'
 replace B2:=B2.ext e'.toBelow
 refine ae hf rfl (by decide) fun a hf=>?_
 refine aa ?_
 cases hv2;cases hv3
 refine seq ?_
 refine ac 5 hf (by decide +kernel) ?_
 refine st (ai Tryz.underlying72 rfl T3 (by decide) rfl) ?_
 refine st (ld1 T3 rfl B2 rfl) ?_
 refine st (ai Tryz.underlying72 rfl T3 (by decide) rfl) ?_
 refine st (ld1 T3 rfl B3 rfl) ?_
 refine st (ax Mono.En78 rfl rfl (fun v u w he h h'=>kq x.1 y.1 v u w h h')) ?_
 refine en fun a w e' hf=>?_
 replace e:=e.tr e'
 replace B2:=B2.ext e'.toBelow
 replace B3:=B3.ext e'.toBelow
 refine ae hf rfl (by decide) fun a hf=>?_
 refine aa ?_
 refine aj ?_
 refine al rfl hf rfl ?_
 rintro _ rfl
 exact⟨_,rfl,e,rfl⟩
section
variable {P:Program}{w0:World}{L:Env}{dst:Option Tmp}{ty:TypeId}{pos:String}{aft:Array Edge}{g:Option (Nat×Bool)}{t te:TypeId}{x y:Operand}
def Sl2 (t:TypeId)(p q:Int):VA:=⟨fun v w=>∃b,v=.slice (some ⟨b,0,none⟩) 2 2∧Blk w b #[I p,I q] t,fun v w w' e ⟨b,h1,h2⟩=>⟨b,h1,h2.ext e.toBelow⟩⟩
theorem vU {p q:Int}{bz:Nat}{z0:Value}(ht:P.underlying t=some (.slice te))(hi:(P.info? te).map (fun i=>(i.zero,i.size,i.bytes))=some (some z0,1,bz))(hz0:z0.cells.size=1)(hx:opd L x=some (E (I p)))(hy:opd L y=some (E (I q))) :
  OpC P w0 L ⟨dst,.buildSlice t 2 #[(0,x),(1,y)],ty,pos,aft,g⟩ (Sl2 te p q):=by
 refine⟨fun ρ w he hv=>?_⟩
 have hxv:=opE hv (x:=x) (by simp[Op.operands]) hx
 have hyv:=opE hv (x:=y) (by simp[Op.operands]) hy
 obtain⟨it,hit,hiz,hsz,_⟩:=info_parts hi
 have hfl:=Mono.fill_seq (k:=1) [I p,I q] [[I p],[I q]] 0 [] ((Array.range (2 * 1)).map (z0.cells[· % z0.cells.size]!)) rfl (by simp) (by simp) (by simp) (by simp)
 have hr:=run_buildSlice (P:=P) w t te 2 #[(0,I p),(1,I q)] #[I p,I q] it z0 ht hit hiz (by rw[hsz];omega) (by rw[hsz];omega) (by rw[hsz];exact hfl)
 have hrun:(execOp ρ ⟨dst,.buildSlice t 2 #[(0,x),(1,y)],ty,pos,aft,g⟩).run P w=.ok (.value (.slice (some ⟨w.heap.size,0,none⟩) 2 2)) (w.alloc (.cells #[I p,I q] te)):=by
  simp only[execOp,Sem.run_bind,List.map_toArray,List.map_cons,List.map_nil,hxv,hyv,hr,Result.andThen_ok,Sem.run_pure]
 simp only[OpR,hrun]
 exact⟨Gro.alloc w _,_,rfl,dZ w _ _⟩
theorem idxS {b:Nat}{k:Nat}(ht:P.underlying t=some (.slice te))(hs:(P.info? te).map (·.size)=some 1)(hx:opd L x=some (E (.slice (some ⟨b,0,none⟩) 2 2)))(hy:opd L y=some (E (I k)))(hk:k<2) :
  OpC P w0 L ⟨dst,.indexAddr t x y,ty,pos,aft,g⟩ (E (.pointer (some ⟨b,k,none⟩))):=
 aI fun ρ w he hv=>by
  have h:=opE hv (x:=x) (by simp[Op.operands]) hx
  have h2:=opE hv (x:=y) (by simp[Op.operands]) hy
  have hi:(0:Int)≤(k:Int)∧(k:Int)<((2:Nat):Int):=by omega
  have hsz:∀w,(sizeOf te).run P w=.ok 1 w:=fun w=>by
   cases hi:P.info? te with
   | none=>simp[hi] at hs
   | some i=>simp[hi] at hs;simp[sizeOf,typeInfo,hi,hs]
  have hi':(k:Int)<2:=by omega
  refine⟨_,?_,rfl⟩
  rcases (show k=0∨k=1 by omega) with rfl|rfl <;> simp[execOp,h,h2,Instr.indexAt,asIntOf,run_underlying ht,hsz,Addr.add]
theorem vV {b:Nat}(ht:P.underlying t=some (.slice te))(hx:opd L x=some (E (.slice (some ⟨b,0,none⟩) 2 2))):OpC P w0 L ⟨dst,.call ⟨.builtin .len,#[x],#[t]⟩,ty,pos,aft,g⟩ (E (I 2)):=
 aI fun ρ w he hv=>by
  have h:=opE hv (x:=x) (by simp[Op.operands,Call.operands]) hx
  exact⟨_,by simp[execOp,resolve,invoke,builtin,Builtin.len_,h,run_underlying ht,goInt],rfl⟩
end
def orI (p q:Int):Int:=if p != 0 then p else q
theorem vW (p q:Int)(b:Nat)(W:World)(hB:Blk W b #[I p,I q] 3):Calls Tryz.prog 81 #[.slice (some ⟨b,0,none⟩) 2 2] W (Post (E (I (orI p q))) W):=by
 refine enter (args:=[.slice (some ⟨b,0,none⟩) 2 2]) (As:=[E (.slice (some ⟨b,0,none⟩) 2 2)]) Tryz.func81 rfl Tryz.ntmps81 (Nat.le_of_ble_eq_true rfl) ?_ (fun a hf=>?_) (Nat.le_of_ble_eq_true rfl)
 rotate_left
 dsimp only[params,Nat.reduceAdd] at hf
 rotate_right
 ·exact arg1 rfl
 have e:=Ext.rfl' W
 refine seq ?_
 refine ah ?_
 refine ae hf rfl (by decide) fun a hf=>?_
 refine aa ?_
 refine seq ?_
 refine ah ?_
 refine ae hf rfl (by decide) fun a hf=>?_
 refine aa ?_
 repeat refine seq ?_
 refine ac 3 hf (by decide +kernel) ?_
 refine st (mv rfl) ?_
 refine st (vV Tryz.underlying63 rfl) ?_
 refine st (mv rfl) ?_
 refine en fun a w e' hf=>?_
 replace e:=e.tr e'
 refine aa ?_
 replace hf:=hf.kp [3,6,7,8]
 refine blk (aG (fun r0 a w=>∃(k:Nat) ,r0=2 - k∧k≤2∧Fr 18 a w [(3,E (I 0)),(6,E (.slice (some ⟨b,0,none⟩) 2 2)),(7,E (I 2)),(8,E (I k))]∧Ext W w∧(k=0∨p=0)∧(k=2→q=0)) 2 ⟨0,rfl,by omega,hf,e,⟨.inl rfl,(fun h=>by cases h)⟩⟩ ?_)
 clear hf e;try clear hp
 rintro r0 a w ⟨k,rfl,hk,hf,e,hp⟩
 refine seq ?_
 refine ac 1 hf (by decide +kernel) ?_
 refine st (lss rfl rfl) ?_
 refine en fun a w e' hf=>?_
 replace e:=e.tr e'
 refine aa ?_
 refine seq ?_
 refine ifc hf rfl (fun hc=>ak ?_) (fun hc=>aF ?_)
 rotate_left
 rotate_left
 ·have hlt:k<2:=by have:=of_decide_eq_true hc;(try dsimp only at this);omega
  clear hc
  replace hf:=hf.kp [3,6,7,8]
  refine seq ?_
  refine blk ?_
  have hB':=hB.ext e.toBelow
  have hcell:(#[I p,I q]:Array Value)[k]?=some (I (if k=0 then p else q)):=by
   rcases (show k=0∨k=1 by omega) with rfl|rfl <;> rfl
  refine seq ?_
  refine ac 2 hf (by decide +kernel) ?_
  refine st (idxS Tryz.underlying63 Mono.S3 rfl rfl hlt) ?_
  refine st (ld1 T3 rfl hB' hcell) ?_
  refine en fun a w e' hf=>?_
  replace e:=e.tr e'
  refine ae hf rfl (by decide) fun a hf=>?_
  refine aa ?_
  refine seq ?_
  refine ac 3 hf (by decide +kernel) ?_
  refine st (mv rfl) ?_
  refine st (mv rfl) ?_
  refine st (neq rfl rfl) ?_
  refine en fun a w e' hf=>?_
  replace e:=e.tr e'
  refine aa ?_
  refine ifc hf rfl (fun hb=>?_) (fun hb=>?_)
  ·have hb':(if k=0 then p else q)≠0:=by simpa using hb
   have hor:(if k=0 then p else q)=orI p q:=by
    rw[orI]
    rcases (show k=0∨k=1 by omega) with rfl|rfl
    ·simp only[if_true] at hb' ⊢;rw[if_pos (by simpa using hb')]
    ·simp only[Nat.one_ne_zero,if_false] at hb' ⊢;rw[if_neg (by simpa using hp.1)]
   refine seq ?_
   refine ac 1 hf (by decide +kernel) ?_
   refine st (mv rfl) ?_
   refine en fun a w e' hf=>?_
   replace e:=e.tr e'
   refine ae hf rfl (by decide) fun a hf=>?_
   refine aa ?_
   refine aj ?_
   simp only[Exit.then,Exit.inBlock]
   refine al rfl hf rfl ?_
   rintro _ rfl
   exact⟨_,rfl,e,congrArg I hor⟩
  ·have hb':(if k=0 then p else q)=0:=by simpa using hb
   refine ak ?_
   simp only[Exit.then,Exit.inBlock,↓reduceIte]
   refine ac 1 hf (by decide +kernel) ?_
   refine st ((add rfl rfl (by omega)).eq (congrArg (Value.int .i64) (show (k:Int)+1=((k+1:Nat):Int) from rfl))) ?_
   refine en fun a w e' hf=>?_
   replace e:=e.tr e'
   clear e'
   refine ar hf (by decide) (mv rfl) fun a w e' hf=>?_
   replace e:=e.tr e'
   refine aa ?_
   replace hf:=hf.kp [3,6,7,8]
   refine⟨_,?_,k+1,rfl,by omega,hf,e,?_⟩
   ·omega
   rcases (show k=0∨k=1 by omega) with rfl|rfl
   ·exact⟨.inr (by simpa using hb'),fun h=>by cases h⟩
   ·exact⟨.inr (by simpa using hp.1),fun _=>by simpa using hb'⟩
 ·obtain rfl:k=2:=by have:=of_decide_eq_false hc;(try dsimp only at this);omega
  clear hc
  simp only[Exit.then,Exit.inBlock,↓reduceIte]
  refine seq ?_
  refine ac 1 hf (by decide +kernel) ?_
  refine st (mv rfl) ?_
  refine en fun a w e' hf=>?_
  replace e:=e.tr e'
  refine ae hf rfl (by decide) fun a hf=>?_
  refine aa ?_
  refine aj ?_
  refine al rfl hf rfl ?_
  rintro _ rfl
  exact⟨_,rfl,e,congrArg I (by have h1:p=0:=(by simpa using hp.1);have h2:=hp.2 rfl;rw[orI,h1,h2];rfl)⟩
theorem cmpE_spec (x y:(Int×Int)×(Int×Int))(W:World):Calls Tryz.prog 80 #[.agg #[.int .i64 x.1.1,.int .i64 x.1.2,.int .u8 x.2.1,.int .i64 x.2.2],.agg #[.int .i64 y.1.1,.int .i64 y.1.2,.int .u8 y.2.1,.int .i64 y.2.2]] W (Post (E (I (orI (cmpI x.1.1 y.1.1) (cmpI x.1.2 y.1.2)))) W):=by
 refine enter (args:=[.agg #[.int .i64 x.1.1,.int .i64 x.1.2,.int .u8 x.2.1,.int .i64 x.2.2],.agg #[.int .i64 y.1.1,.int .i64 y.1.2,.int .u8 y.2.1,.int .i64 y.2.2]]) (As:=[E (.agg #[.int .i64 x.1.1,.int .i64 x.1.2,.int .u8 x.2.1,.int .i64 x.2.2]),E (.agg #[.int .i64 y.1.1,.int .i64 y.1.2,.int .u8 y.2.1,.int .i64 y.2.2])]) Tryz.func80 rfl Tryz.ntmps80 (Nat.le_of_ble_eq_true rfl) ?_ (fun a hf=>?_) (Nat.le_of_ble_eq_true rfl)
 rotate_left
 dsimp only[params,Nat.reduceAdd] at hf
 rotate_right
 ·exact arg2 rfl rfl
 have e:=Ext.rfl' W
 refine seq ?_
 refine ah ?_
 refine aH hf rfl (by decide) fun a b2 w v2 hv2 e' hb2 hs2 B2 hf=>?_
 have hle2:=Nat.le_trans e.size (Nat.le_of_eq hb2.symm)
 replace e:=e.tr e'
 clear e'
 refine aH hf rfl (by decide) fun a b3 w v3 hv3 e' hb3 hs3 B3 hf=>?_
 have hle3:=Nat.le_trans e.size (Nat.le_of_eq hb3.symm)
 have lt3_B2:=B2.lt
 replace e:=e.tr e'
 replace B2:=B2.ext e'.toBelow
 refine ae hf rfl (by decide) fun a hf=>?_
 refine aa ?_
 cases hv2;cases hv3
 refine seq ?_
 refine reg 12 Mix.mix hf (by decide +kernel) ?_
 refine st (ai Tryz.underlying75 rfl T3 (by decide) rfl) ?_
 refine st (ld1 T3 rfl B2 rfl) ?_
 refine st (ai Tryz.underlying75 rfl T3 (by decide) rfl) ?_
 refine st (ld1 T3 rfl B3 rfl) ?_
 refine st (ax Mono.En78 rfl rfl (fun v u w he h h'=>kq x.1.1 y.1.1 v u w h h')) ?_
 refine st (ai Tryz.underlying75 rfl T3 (by decide) rfl) ?_
 refine st (ld1 T3 rfl B2 rfl) ?_
 refine st (ai Tryz.underlying75 rfl T3 (by decide) rfl) ?_
 refine st (ld1 T3 rfl B3 rfl) ?_
 refine st (ax Mono.En78 rfl rfl (fun v u w he h h'=>kq x.1.2 y.1.2 v u w h h')) ?_
 refine st (vU Tryz.underlying63 Mono.I3 rfl rfl rfl) ?_
 refine st (aw Mono.En81 rfl (fun v w he h=>by obtain⟨b,rfl,hB⟩:=h;exact vW _ _ b w hB)) ?_
 refine en fun a w e' hf=>?_
 replace e:=e.tr e'
 replace B2:=B2.ext e'.toBelow
 replace B3:=B3.ext e'.toBelow
 refine ae hf rfl (by decide) fun a hf=>?_
 refine aa ?_
 refine aj ?_
 refine al rfl hf rfl ?_
 rintro _ rfl
 exact⟨_,rfl,e,rfl⟩
end Go.MonoD
