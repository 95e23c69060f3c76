/-
  Walks of functions and plain facts.
  No condition.
-/
import Derived.Test.YtbjangoghokneaaGreatDoorRG
import Derived.Test.YtbjangoghokneaaGreatDoorRC
import Derived.Test.YtbjangoghokneaaGreatDoorRF
import Derived.Test.YtbjangoghokneaaGreatDoorRD
import Derived.Shelf.SlSortCmp.NoneTotal
import Derived.Test.YtbjangoghokneaaGreatDoorProg
import Derived.Shelf.SlSortCmp.Whole1
set_option linter.unusedVariables false
set_option linter.unusedSimpArgs false
namespace Go.Mono
open Go Go.Proofs Go.RowKit Go.Gr
theorem xcallVZ {P:Program}{w0:World}{L:Env}{dst:Option Tmp}{ty:TypeId}{pos:String}{aft:Array Edge}{S:Nat→Prop}{F:World→Prop}{fo x:Operand}{id:FuncId}{caps:Array Value}{tys:Array TypeId}{A B:VA}(hf:Proofs.Enters P id)(hfo:opd L fo=some (E (.func (.func id) #[] caps)))(hx:opd L x=some B)
  (h:∀v w,Ext w0 w→B.p v w→Calls P id (#[v]++caps) w (fun e w'=>∃r,e=.returned r∧Chg S w w'∧A.p r w'∧F w')) :
  XOpZ P w0 S F L ⟨dst,.call ⟨.value fo,#[x],tys⟩,ty,pos,aft,none⟩ A:=by
 refine⟨fun ρ w he hv=>?_⟩
 have hfv:ρ fo=.func (.func id) #[] caps:=hv fo (by simp[Op.operands,Call.operands]) _ hfo
 have hrun:(execOp ρ ⟨dst,.call ⟨.value fo,#[x],tys⟩,ty,pos,aft,none⟩).run P w=.ok (.enter id (#[ρ x]++caps)) w:=by
  have h9:=hf (#[ρ x]++caps) w
  simp[execOp,resolve,hfv,Deferred.ofValue,invoke,h9]
 simp only[OpR,hrun]
 have:=h (ρ x) w he (hv x (by simp[Op.operands,Call.operands]) _ hx)
 simpa using this
def fdF (b2 b5:Nat):Value:=.func (.func 185) #[] #[ptr b2,ptr b5]
def FdQ (bp bu m:Nat)(up:Nat→Nat)(x:Nat)(W:World)(en:Ending)(w':World):Prop:=∃u,en=.returned u∧Chg (fun b=>b=bu) W w'∧(E (I (rt up x:Nat))).p u w'∧PtQ bp bu m (rt up) w'
theorem pfind_spec {bp bu m b2 b5:Nat}(hm:m≤4096):∀(f x:Nat) (up:Nat→Nat) (W:World),x<f→x<m→Dn up→PtB W bp bu m up→Blk W b2 #[ptr bp] 119→Blk W b5 #[fdF b2 b5] 185 →
  Calls Tryz.prog 185 #[I x,ptr b2,ptr b5] W (FdQ bp bu m up x W):=by
 intro f
 induction f with
 | zero=>intro x up W h;omega
 | succ f ih=>
  intro x up W hxf hx hd H h2 h5
  have n2:b2≠bu:=h2.ne H.u (by decide)
  have np:=H.ne
  have hux':=hd x
  have Hw:Chg (fun b=>b=bu) W W:=Chg.rfl' _ _
  refine eN [I x,ptr b2,ptr b5] [E (I x),E (ptr b2),E (ptr b5)] Tryz.func185 Tryz.ntmps185 ?_ fun a hf=>?_
  rotate_left
  dsimp only[params,Nat.reduceAdd] at hf
  rotate_right
  ·exact arg3 rfl rfl rfl
  refine seq <| regn0 <| tA hf rfl fun a hf=>tl_nil ?_
  by_cases hux:up x=x
  ·repeat refine seq ?_
   refine rgN 9 hf <| st (ld1 (v:=ptr bp) T119 rfl h2 rfl) <| st (nilE rfl) <| st (fA U158 rfl T35 rfl) <| st (ld1 (v:=.slice (some ⟨bu,0,none⟩) m m) T35 rfl H.p rfl) <| st (mv rfl) <| st ((idxS U35 S3 rfl rfl (by omega)).eq (atZ)) <| st (ld1 (v:=I (up x:Nat)) T3 rfl H.u (upC_get _ hx)) <| st (mv rfl) <| st ((neq rfl rfl).eq (congrArg Value.bool ((show (((up x:Nat):Int) != ((x:Nat):Int))=false by rw[hux];exact bne_self_eq_false _)))) ?_
   refine en fun a w e' hf=>?_
   obtain⟨H,Hw,h2,h5⟩:=up4 e' H Hw h2 h5
   refine tl_nil <| ifc hf rfl (fun h=>by cases h) (fun _=>?_)
   refine wskip <| seq <| rgN 7 hf <| st (ld1 (v:=ptr bp) T119 rfl h2 rfl) <| st (nilE rfl) <| st (fA U158 rfl T35 rfl) <| st (ld1 (v:=.slice (some ⟨bu,0,none⟩) m m) T35 rfl H.p rfl) <| st (mv rfl) <| st ((idxS U35 S3 rfl rfl (by omega)).eq (atZ)) <| st (ld1 (v:=I (up x:Nat)) T3 rfl H.u (upC_get _ hx)) <| en fun a w e' hf=>?_
   obtain⟨H,Hw,h2,h5⟩:=up4 e' H Hw h2 h5
   refine tA hf rfl fun a hf=>tl_nil <| wret <| ret1 rfl hf rfl ?_
   rintro _ rfl
   exact⟨_,rfl,Hw,by rw[rt_fix hux,hux];rfl,up,H,hd,fun _=>rfl⟩
  ·repeat refine seq ?_
   refine rgN 9 hf <| st (ld1 (v:=ptr bp) T119 rfl h2 rfl) <| st (nilE rfl) <| st (fA U158 rfl T35 rfl) <| st (ld1 (v:=.slice (some ⟨bu,0,none⟩) m m) T35 rfl H.p rfl) <| st (mv rfl) <| st ((idxS U35 S3 rfl rfl (by omega)).eq (atZ)) <| st (ld1 (v:=I (up x:Nat)) T3 rfl H.u (upC_get _ hx)) <| st (mv rfl) <| st ((neq rfl rfl).eq (congrArg Value.bool ((show (((up x:Nat):Int) != ((x:Nat):Int))=true from bne_iff_ne.2 (by omega))))) <| en fun a w e' hf=>?_
   obtain⟨H,Hw,h2,h5⟩:=up4 e' H Hw h2 h5
   refine tl_nil <| ifc hf rfl (fun _=>?_) (fun h=>by cases h)
   replace hf:=hf.kp [0,1,2]
   refine regJ 15 [1,1,1,1,1,0,0,0,0,0,0,0,0] (Chg (fun b=>b=bu)) (RelJ.chg _) (fun w=>PtQ bp bu m (rt up) w) (fun w w1 k h=>h.ext k) Mix.mix hf (by decide +kernel) (by decide +kernel) <| jf (fun w1 h1=>ld1 (v:=ptr bp) T119 rfl (h2.ch h1 (by omega)) rfl) <| jf (fun w1 h1=>nilE rfl) <| jf (fun w1 h1=>fA U158 rfl T35 rfl) <| jf (fun w1 h1=>ld1 (v:=.slice (some ⟨bu,0,none⟩) m m) T35 rfl (H.p.ch h1 (by omega)) rfl) <| jf (fun w1 h1=>mv rfl) <| ja (ld1 (v:=fdF b2 b5) T185 rfl h5 rfl) <| ja (ld1 (v:=ptr bp) T119 rfl h2 rfl) <| ja (nilE rfl) <| ja (fA U158 rfl T35 rfl) <| ja (ld1 (v:=.slice (some ⟨bu,0,none⟩) m m) T35 rfl H.p rfl) <| ja (mv rfl) <| ja ((idxS U35 S3 rfl rfl (by omega)).eq (atZ)) <| ja (ld1 (v:=I (up x:Nat)) T3 rfl H.u (upC_get _ hx)) <| jx (xcallVZ (A:=E (I (rt up (up x):Nat))) (B:=E (I (up x:Nat))) En185 rfl rfl (fun v w he k=>by cases k;exact ih (up x) up w (by omega) (by omega) hd (H.ext he) (h2.ext he) (h5.ext he))) ?_
   refine jp (fun w1 h1 HF1=>(idxS U35 S3 rfl rfl (by omega)).eq (atZ)) <| je <| fun a w hc HF hf=>?_
   try dsimp only[push] at hf
   obtain⟨up1,H1,hd1,hr1⟩:=HF
   have hst:=rt_step hd hux
   obtain⟨r,hr⟩:∃r,r=rt up (up x):=⟨_,rfl⟩
   rw[← hr] at hf
   have hrx:r=rt up1 x:=by rw[hr,← hst,hr1]
   replace h2:=h2.ch hc (by omega)
   replace Hw:=Hw.tr hc
   refine tl_st1 T3 hf rfl rfl rfl H1.u (by rw[upC_size];exact hx) fun w hg hsz Bu hf=>?_
   rw[upC_set] at Bu
   replace h2:=h2.gr hg n2;replace Hw:=Hw.gr hg (.inl rfl)
   have H2:PtB w bp bu m (setU up1 x r):=⟨H1.p.gr hg np,Bu⟩
   refine tl_nil ?_
   replace hf:=hf.keep [0,1,2]
   refine seq <| rgN 7 hf <| st (ld1 (v:=ptr bp) T119 rfl h2 rfl) <| st (nilE rfl) <| st (fA U158 rfl T35 rfl) <| st (ld1 (v:=.slice (some ⟨bu,0,none⟩) m m) T35 rfl H2.p rfl) <| st (mv rfl) <| st ((idxS U35 S3 rfl rfl (by omega)).eq (atZ)) <| st (ld1 (v:=I (setU up1 x r x:Nat)) T3 rfl H2.u (upC_get _ hx)) <| en fun a w e' hf=>?_
   obtain⟨H2,Hw,h2⟩:=up3 e' H2 Hw h2
   refine tA hf rfl fun a hf=>tl_nil <| wret <| ret1 rfl hf rfl ?_
   rintro _ rfl
   refine⟨_,rfl,Hw,?_,_,H2,setU_dn hd1 (by rw[hrx];exact (rt_ok hd1 x).1),fun y=>?_⟩
   ·rw[setU,if_pos rfl,hst,hr];rfl
   ·rw[hrx,rt_comp hd1,hr1]
theorem phead_spec {bp bu m:Nat}{up:Nat→Nat}(x:Nat)(W:World)(hm:m≤4096)(hx:x<m)(hd:Dn up)(H:PtB W bp bu m up):Calls Tryz.prog 148 #[ptr bp,I x] W (FdQ bp bu m up x W):=by
 have Hw:Chg (fun b=>b=bu) W W:=Chg.rfl' _ _
 have hNs:W.heap.size≤W.heap.size:=Nat.le_refl _
 have lu:bp<W.heap.size∧bu<W.heap.size:=⟨H.p.lt,H.u.lt⟩
 refine eN [ptr bp,I x] [E (ptr bp),E (I x)] Tryz.func148 Tryz.ntmps148 ?_ fun a hf=>?_
 rotate_left
 dsimp only[params,Nat.reduceAdd] at hf
 rotate_right
 ·exact arg2 rfl rfl
 refine seq <| regn0 <| tB hf rfl fun a b2 w v2 hv2 e' hb2 hs2 B2 hf=>?_
 have lo2_hNs:=Nat.le_trans hNs (Nat.le_of_eq hb2.symm)
 obtain⟨H,Hw,hNs⟩:=up3 e' H Hw hNs
 refine tA hf rfl fun a hf=>tl_nil ?_
 cases hv2
 replace B2:Blk w b2 #[ptr bp] 119:=B2
 replace hf:=hf.keep [1,2]
 refine seq <| regn0 <| tL I185 hf fun a b5 w e' hb5 hs5 B5 hf=>?_
 have lo5_hNs:=Nat.le_trans hNs (Nat.le_of_eq hb5.symm)
 obtain⟨H,Hw,hNs,B2⟩:=up4 e' H Hw hNs B2
 refine tl_nil ?_
 replace hf:=hf.kp [1,2,5]
 refine seq <| rgN 1 hf <| st (makeF2 rfl rfl) <| en fun a w e' hf=>?_
 obtain⟨H,Hw,B2,B5⟩:=up4 e' H Hw B2 B5
 haveI hinr:∀G0,InR (GB W G0) (some b5):=fun G0=>InR.gb (by omega)
 refine tl_st1 T185 hf rfl rfl rfl B5 (by exact Nat.zero_lt_one) fun w hg hsz B5 hf=>?_
 replace H:=H.gr hg (by omega)
 replace Hw:=Hw.gr hg (.inr (by omega))
 replace B2:=B2.gr hg (by omega)
 refine tl_nil ?_
 replace B5:Blk w b5 #[fdF b2 b5] 185:=B5
 replace hf:=hf.kp [1,5]
 refine seq <| rgN 2 hf <| st (ld1 (v:=fdF b2 b5) T185 rfl B5 rfl) <| st (mv rfl) <| en fun a w e' hf=>?_
 obtain⟨H,Hw,B2,B5⟩:=up4 e' H Hw B2 B5
 refine tl_callV (S:=fun b=>b=bu) (F:=PtQ bp bu m (rt up)) (A:=E (I (rt up x:Nat))) hf (by decide) En185 (hfo:=by exact rfl) ?_ fun a w hc HF hf=>?_
 ·have e8:a.eval (.tmp 8)=I (x:Nat):=hf.opd (.tmp 8) _ rfl
  simp only[List.map_toArray,List.map_cons,List.map_nil,e8]
  exact pfind_spec hm (x+1) x up w (Nat.lt_succ_self _) hx hd H B2 B5
 replace Hw:=Hw.tr hc
 refine tA hf rfl fun a hf=>tl_nil <| wret <| ret1 rfl hf rfl ?_
 rintro _ rfl
 exact⟨_,rfl,Hw,rfl,HF⟩
def JnQ (bp bu m:Nat)(up:Nat→Nat)(x y:Nat)(r:Bool→Value)(W:World)(en:Ending)(w':World):Prop:=∃u,en=.returned u∧Chg (fun b=>b=bu) W w'∧(E (r (decide (rt up x≠rt up y)))).p u w'∧PtQ bp bu m (fun z=>if rt up z=max (rt up x) (rt up y) then min (rt up x) (rt up y) else rt up z) w'
theorem pjoin_spec {bp bu m:Nat}{up:Nat→Nat}(x y:Nat)(W:World)(hm:m≤4096)(hx:x<m)(hy:y<m)(hd:Dn up)(H:PtB W bp bu m up):Calls Tryz.prog 123 #[ptr bp,I x,I y] W (JnQ bp bu m up x y .bool W):=by
 have Hw:Chg (fun b=>b=bu) W W:=Chg.rfl' _ _
 have np:=H.ne
 obtain⟨p,hp⟩:∃p,p=rt up x:=⟨_,rfl⟩
 obtain⟨q,hq⟩:∃q,q=rt up y:=⟨_,rfl⟩
 have hpx:p≤x:=by rw[hp];exact (rt_ok hd x).1
 have hqy:q≤y:=by rw[hq];exact (rt_ok hd y).1
 have hpp:rt up p=p:=by rw[hp];exact (rt_ok hd x).2.2
 have hqq:rt up q=q:=by rw[hq];exact (rt_ok hd y).2.2
 refine eN [ptr bp,I x,I y] [E (ptr bp),E (I x),E (I y)] Tryz.func123 Tryz.ntmps123 ?_ fun a hf=>?_
 rotate_left
 dsimp only[params,Nat.reduceAdd] at hf
 rotate_right
 ·exact arg3 rfl rfl rfl
 refine seq <| regn0 <| tA hf rfl fun a hf=>tl_nil <| seq <| rgN 2 hf <| st (mv rfl) <| st (mv rfl) <| en fun a w e' hf=>?_
 obtain⟨H,Hw⟩:=up2 e' H Hw
 refine tl_callF (S:=fun b=>b=bu) (F:=PtQ bp bu m (rt up)) (A:=E (I (p:Nat))) hf (by decide) En148 ?_ fun a w hc HF hf=>?_
 ·have e7:a.eval (.tmp 7)=ptr bp:=hf.opd (.tmp 7) _ rfl
  have e8:a.eval (.tmp 8)=I (x:Nat):=hf.opd (.tmp 8) _ rfl
  simp only[List.map_toArray,List.map_cons,List.map_nil,e7,e8]
  rw[hp]
  exact phead_spec x w hm hx hd H
 obtain⟨up1,H1,hd1,hr1⟩:=HF
 replace Hw:=Hw.tr hc
 refine tP hf (mv rfl) fun a w e' hf=>?_
 obtain⟨H1,Hw⟩:=up2 e' H1 Hw
 refine tP hf (mv rfl) fun a w e' hf=>?_
 obtain⟨H1,Hw⟩:=up2 e' H1 Hw
 refine tl_callF (S:=fun b=>b=bu) (F:=PtQ bp bu m (rt up1)) (A:=E (I (q:Nat))) hf (by decide) En148 ?_ fun a w hc HF hf=>?_
 ·have e7:a.eval (.tmp 10)=ptr bp:=hf.opd (.tmp 10) _ rfl
  have e8:a.eval (.tmp 11)=I (y:Nat):=hf.opd (.tmp 11) _ rfl
  simp only[List.map_toArray,List.map_cons,List.map_nil,e7,e8]
  rw[hq,← hr1 y]
  exact phead_spec y w hm hy hd1 H1
 obtain⟨up2,H2,hd2,hr2⟩:=HF
 replace Hw:=Hw.tr hc
 have hr3:∀z,rt up2 z=rt up z:=fun z=>(hr2 z).trans (hr1 z)
 have hp2:up2 p=p:=by have h:=(rt_ok hd2 p).2.1;rwa [hr3,hpp] at h
 have hq2:up2 q=q:=by have h:=(rt_ok hd2 q).2.1;rwa [hr3,hqq] at h
 refine tA hf rfl fun a hf=>tA hf rfl fun a hf=>tl_nil ?_
 replace hf:=hf.kp [0,1,2]
 refine seq <| rgN 11 hf <| st (mv rfl) <| st (nilE rfl) <| st (fA U158 rfl T35 rfl) <| st (ld1 (v:=.slice (some ⟨bu,0,none⟩) m m) T35 rfl H2.p rfl) <| st (mv rfl) <| st (mv rfl) <| st ((max2 rfl rfl).eq (congrArg (Value.int .i64) (show max (p:Int) (q:Int)=((max p q:Nat):Int) by omega))) <| st (mv rfl) <| st (mv rfl) <| st ((min2 rfl rfl).eq (congrArg (Value.int .i64) (show min (p:Int) (q:Int)=((min p q:Nat):Int) by omega))) <| st ((idxS U35 S3 rfl rfl (by omega)).eq (atZ)) <| en fun a w e' hf=>?_
 replace H2:=H2.ext e'
 replace Hw:=Hw.ext e'
 refine tl_st1 T3 hf rfl rfl rfl H2.u (by rw[upC_size];omega) fun w hg hsz Bu hf=>?_
 rw[upC_set] at Bu
 replace Hw:=Hw.gr hg (.inl rfl)
 have H3:PtB w bp bu m (setU up2 (max p q) (min p q)):=⟨H2.p.gr hg np,Bu⟩
 refine tl_nil ?_
 replace hf:=hf.keep [1,2]
 refine seq <| rgN 3 hf <| st (mv rfl) <| st (mv rfl) <| st ((neq rfl rfl).eq (congrArg Value.bool ((show ((p:Int) != (q:Int))=decide (p≠q) by rw[Bool.eq_iff_iff,bne_iff_ne,decide_eq_true_eq];omega)))) ?_
 refine en fun a w e' hf=>?_
 replace H3:=H3.ext e'
 replace Hw:=Hw.ext e'
 refine tA hf rfl fun a hf=>tl_nil <| wret <| ret1 rfl hf rfl ?_
 rintro _ rfl
 refine⟨_,rfl,Hw,by rw[← hp,← hq];rfl,_,H3,setU_dn hd2 (by omega),fun z=>?_⟩
 have hmx:up2 (max p q)=max p q:=by rcases Nat.le_total p q with h|h <;> simp only[h,Nat.max_eq_right,Nat.max_eq_left,hp2,hq2]
 have hmn:up2 (min p q)=min p q:=by rcases Nat.le_total p q with h|h <;> simp only[h,Nat.min_eq_right,Nat.min_eq_left,hp2,hq2]
 rw[rt_join hd2 hmx hmn (by omega),hr3,← hp,← hq]
theorem punion_spec {bp bu m:Nat}{up:Nat→Nat}(x y:Nat)(W:World)(hm:m≤4096)(hx:x<m)(hy:y<m)(hd:Dn up)(H:PtB W bp bu m up):Calls Tryz.prog 88 #[ptr bp,I x,I y] W (JnQ bp bu m up x y (fun b=>.tuple #[.bool b,I 0]) W):=by
 have Hw:Chg (fun b=>b=bu) W W:=Chg.rfl' _ _
 refine eN [ptr bp,I x,I y] [E (ptr bp),E (I x),E (I y)] Tryz.func88 Tryz.ntmps88 ?_ fun a hf=>?_
 rotate_left
 dsimp only[params,Nat.reduceAdd] at hf
 rotate_right
 ·exact arg3 rfl rfl rfl
 refine seq <| regn0 <| tA hf rfl fun a hf=>tA hf rfl fun a hf=>tl_nil ?_
 repeat refine seq ?_
 refine rgN 10 hf <| st (mv rfl) <| st (mv rfl) <| st (call2 (A:=E (B true)) (B:=E (ptr bp)) (C:=E (I (x:Nat))) En122 rfl rfl (fun v u w he k k'=>by cases k;cases k';exact pthere_spec x w (H.ext he) hx hm)) ?_
 refine st (notp rfl) <| st (mv rfl) <| sy rfl rfl (mv rfl) <| sy rfl rfl (mv rfl) <| sy rfl rfl (call2 (A:=E (B true)) (B:=E (ptr bp)) (C:=E (I (y:Nat))) En122 rfl rfl (fun v u w he k k'=>by cases k;cases k';exact pthere_spec y w (H.ext he) hy hm)) ?_
 refine sy rfl rfl (notp rfl) <| st (pkF rfl rfl) <| en fun a w e' hf=>?_
 obtain⟨H,Hw⟩:=up2 e' H Hw
 refine tl_nil <| ifc hf rfl (fun h=>by cases h) (fun _=>?_)
 refine wskip ?_
 replace hf:=hf.kp [0,1,2]
 refine seq <| rgN 3 hf <| st (mv rfl) <| st (mv rfl) <| st (mv rfl) <| en fun a w e' hf=>?_
 obtain⟨H,Hw⟩:=up2 e' H Hw
 refine tl_callF (S:=fun b=>b=bu) (F:=PtQ bp bu m (fun z=>if rt up z=max (rt up x) (rt up y) then min (rt up x) (rt up y) else rt up z)) (A:=E (B (decide (rt up x≠rt up y)))) hf (by decide) En123 ?_ fun a w hc HF hf=>?_
 ·have e7:a.eval (.tmp 18)=ptr bp:=hf.opd (.tmp 18) _ rfl
  have e8:a.eval (.tmp 19)=I (x:Nat):=hf.opd (.tmp 19) _ rfl
  have e9:a.eval (.tmp 20)=I (y:Nat):=hf.opd (.tmp 20) _ rfl
  simp only[List.map_toArray,List.map_cons,List.map_nil,e7,e8,e9]
  exact pjoin_spec x y w hm hx hy hd H
 replace Hw:=Hw.tr hc
 refine tA hf rfl fun a hf=>tA hf rfl fun a hf=>tl_nil <| wret <| ret2 rfl hf rfl rfl ?_
 rintro _ _ rfl rfl
 exact⟨_,rfl,Hw,rfl,HF⟩
theorem spf1_spec {bp bu c:Nat}{up:Nat→Nat}(x y:Nat)(W:World)(hx:x<1024)(hy:y<1024)(hd:Dn up)(H:PtB W bp bu 1024 up)(hc:Blk W c #[ptr bp] 119) :
  Calls Tryz.prog 87 #[edV (toI (x,y)),ptr c] W (fun en w'=>∃u,en=.returned u∧Chg (fun b=>b=bu) W w'∧(E (B (decide (rt up x=rt up y)))).p u w'∧PtQ bp bu 1024 (fun z=>if rt up z=max (rt up x) (rt up y) then min (rt up x) (rt up y) else rt up z) w'):=by
 have Hw:Chg (fun b=>b=bu) W W:=Chg.rfl' _ _
 refine eN [edV (toI (x,y)),ptr c] [E (edV (toI (x,y))),E (ptr c)] Tryz.func87 Tryz.ntmps87 ?_ fun a hf=>?_
 rotate_left
 dsimp only[params,Nat.reduceAdd] at hf
 rotate_right
 ·exact arg2 rfl rfl
 refine seq <| regn0 <| tB hf rfl fun a b2 w v2 hv2 e' hb2 hs2 B2 hf=>?_
 obtain⟨H,Hw,hc⟩:=up3 e' H Hw hc
 refine tA hf rfl fun a hf=>tl_nil ?_
 cases hv2
 replace B2:Blk w b2 #[I (x:Nat),I (y:Nat)] 60:=B2
 refine seq <| rgN 5 hf <| st (ld1 (v:=ptr bp) T119 rfl hc rfl) <| st (idxA U60 ⟨_,T3⟩ rfl rfl (by omega)) <| st (ld1 T3 rfl B2 rfl) <| st (idxA U60 ⟨_,T3⟩ rfl rfl (by omega)) <| st (ld1 T3 rfl B2 rfl) <| en fun a w e' hf=>?_
 obtain⟨H,Hw,hc,B2⟩:=up4 e' H Hw hc B2
 refine tl_callF (S:=fun b=>b=bu) (F:=PtQ bp bu 1024 (fun z=>if rt up z=max (rt up x) (rt up y) then min (rt up x) (rt up y) else rt up z)) (A:=E (.tuple #[B (decide (rt up x≠rt up y)),I 0])) hf (by decide) En88 ?_ fun a w h HF hf=>?_
 ·have e7:a.eval (.tmp 7)=ptr bp:=hf.opd (.tmp 7) _ rfl
  have e8:a.eval (.tmp 9)=I (x:Nat):=hf.opd (.tmp 9) _ rfl
  have e9:a.eval (.tmp 11)=I (y:Nat):=hf.opd (.tmp 11) _ rfl
  simp only[List.map_toArray,List.map_cons,List.map_nil,e7,e8,e9]
  exact punion_spec x y w (by decide) hx hy hd H
 replace Hw:=Hw.tr h
 refine tP hf (mv rfl) fun a w e' hf=>?_
 replace HF:=HF.ext e'
 replace Hw:=Hw.ext e'
 refine tP hf (exE rfl rfl) fun a w e' hf=>?_
 replace HF:=HF.ext e'
 replace Hw:=Hw.ext e'
 refine tP hf (exE rfl rfl) fun a w e' hf=>?_
 replace HF:=HF.ext e'
 replace Hw:=Hw.ext e'
 refine tA hf rfl fun a hf=>tA hf rfl fun a hf=>tl_nil <| seq <| rgN 2 hf <| st (mv rfl) <| st ((notp rfl).eq (congrArg Value.bool ((show (!decide (rt up x≠rt up y))=decide (rt up x=rt up y) by rw[decide_not,Bool.not_not])))) <| en fun a w e' hf=>?_
 replace HF:=HF.ext e'
 replace Hw:=Hw.ext e'
 refine tA hf rfl fun a hf=>tl_nil <| wret <| ret1 rfl hf rfl ?_
 rintro _ rfl
 exact⟨_,rfl,Hw,rfl,HF⟩
def sfP (l:List ET)(k:Nat):Bool:=match l[k]? with
 | some x=>decide ((sfF (l.take k)).1 (eU x)=(sfF (l.take k)).1 (eV x))
 | none=>false
theorem sf_step {l:List ET}{k:Nat}{x:ET}(hx:l[k]?=some x):sfF (l.take (k+1))=sfS (sfF (l.take k)) x:=by
 rw[take_succ_get hx,sfF,List.foldl_append];rfl
theorem sf_kp (l:List ET):∀k,k≤l.length→kp (l.map (·.1)) (sfP l) k=(sfF (l.take k)).2.map (·.1)
 | 0,_=>rfl
 | k+1,h=>by
  have hx:=List.getElem?_eq_getElem (show k<l.length by omega)
  generalize l[k]=x at hx
  have hm:(l.map (·.1))[k]?=some x.1:=by rw[List.getElem?_map,hx];rfl
  have hp:sfP l k=decide ((sfF (l.take k)).1 (eU x)=(sfF (l.take k)).1 (eV x)):=by rw[sfP,hx]
  rw[kp_succ hm,sf_kp l k (by omega),sf_step hx,sfS,hp]
  by_cases hh:(sfF (l.take k)).1 (eU x)=(sfF (l.take k)).1 (eV x)
  ·rw[if_pos hh,if_pos (decide_eq_true hh),List.append_nil]
  ·rw[if_neg hh,if_neg (by rw[decide_eq_false hh];decide),List.map_append];rfl
theorem spf_spec {G:Nat→Prop}{N:Nat}(g:GT)(ok:Gr.Ok g)(v:Value)(W:World)(h:(Dv (ptE (grE N)) G (some g)).p v W)(hl2:g.2.length≤100000)(hN:N≤1000000) :
  Calls Tryz.prog 38 #[v] W (Post (Dv (slE edE) G0 ((sfF g.2).2.map (·.1))) W):=by
 have hgd:(Dv (ptE (grE N)) G0 (some g)).p v W:=Dv.weak h fun b _ hb=>hb.elim
 refine eN [v] [E v] Tryz.func38 Tryz.ntmps38 ?_ fun a hf=>?_
 rotate_left
 dsimp only[params,Nat.reduceAdd] at hf
 rotate_right
 ·exact arg1 rfl
 have e:=Ext.rfl' W
 refine seq <| regn0 <| tA hf rfl fun a hf=>tl_nil ?_
 repeat refine seq ?_
 refine rgN 2 hf <| st (mv rfl) <| st (eqlP U26 (isE rfl (VA.st _ _ _ _ e hgd))) <| en fun a w e' hf=>?_
 replace e:=e.tr e'
 refine tl_nil <| ifc hf rfl (fun h=>by cases h) (fun _=>?_)
 refine wskip ?_
 replace hf:=hf.kp [0]
 refine seq <| regn0 ?_
 obtain⟨w1,hw1⟩:∃w1,w1=w:=⟨_,rfl⟩
 refine tl_callE (S:=fun _=>False) (F:=fun z w'=>∃bp bu,z=.tuple #[ptr bp,I 0]∧Ext w1 w'∧w1.heap.size≤bp∧w1.heap.size≤bu∧PtQ bp bu 1024 id w') hf (by decide) En86 ?_ fun a z w hc HF hf=>?_
 ·rw[hw1]
  have e0:a.eval (.const (I 1024))=I 1024:=rfl
  simp only[List.map_toArray,List.map_cons,List.map_nil,e0]
  exact (pnew_spec (m:=1024) (by decide) w).mono fun en w' ⟨bp,bu,k1,k2,k3⟩=>⟨_,k1,k2.chg _,bp,bu,rfl,k2,k3⟩
 obtain⟨bp,bu,rfl,e1,lp,lu,HQ⟩:=HF
 rw[← hw1] at e
 have hWp:W.heap.size≤bp∧W.heap.size≤bu:=by have:=e.size;omega
 have hbp:bp<w.heap.size∧bu<w.heap.size:=by obtain⟨up,h1,_⟩:=HQ;exact⟨h1.p.lt,h1.u.lt⟩
 replace e:=Ext.tr e e1
 obtain⟨w3,hw3⟩:∃w3,w3=w:=⟨_,rfl⟩
 have eb:Ext w3 w:=by rw[hw3];exact Ext.rfl' _
 rw[← hw3] at HQ hbp
 replace hf:=hf.kp [0,8]
 have hN3:w3.heap.size≤w.heap.size:=eb.size
 refine tP hf (mv rfl) fun a w e' hf=>?_
 obtain⟨eb,hN3,e⟩:=up3 e' eb hN3 e
 refine tP hf (exE rfl rfl) fun a w e' hf=>?_
 obtain⟨eb,hN3,e⟩:=up3 e' eb hN3 e
 refine tP hf (exE rfl rfl) fun a w e' hf=>?_
 obtain⟨eb,hN3,e⟩:=up3 e' eb hN3 e
 refine tL I119 hf fun a b3 w e' hb3 hs3 B3 hf=>?_
 have lo3_hN3:=Nat.le_trans hN3 (Nat.le_of_eq hb3.symm)
 obtain⟨eb,hN3,e⟩:=up3 e' eb hN3 e
 have n3:w3.heap.size≤b3:=lo3_hN3
 refine tl_st1 T119 hf rfl rfl rfl B3 Nat.zero_lt_one fun w hg hsz B3 hf=>?_
 replace e:=e.gr hg (by omega);replace eb:=eb.gr hg n3;clear hg
 replace B3:Blk w b3 #[ptr bp] 119:=B3
 replace HQ:=HQ.ext eb
 replace hbp:bp<w.heap.size∧bu<w.heap.size:=by have:=eb.size;omega
 refine tA hf rfl fun a hf=>tl_nil ?_
 replace hf:=hf.keep [0,3]
 have e4:=e
 obtain⟨N2,hN2⟩:∃N2,N2=w.heap.size:=⟨_,rfl⟩
 have hN2s:N2≤w.heap.size:=Nat.le_of_eq hN2
 refine seq <| rgN 3 hf <| st (mv rfl) <| st (call1 (A:=OwA edE 60 N2 G0 (g.2.map (·.1))) (B:=E v) En48 rfl (fun u w he k=>by cases k;exact (ends_spec g v w (VA.st _ _ _ _ (Ext.tr e4 he) hgd) ok.se hl2 hN).mono fun en w' ⟨u,k1,k2,k3⟩=>⟨u,k1,k2,OwR.low k3 (Nat.le_trans hN2s he.size) fun b hb=>hb.elim⟩)) ?_
 refine st (makeF1 rfl) <| en fun a w e' hf=>?_
 replace HQ:=HQ.ext e'
 replace e:=e.tr e'
 replace B3:=B3.ext e'
 obtain⟨ev,HoE,hf⟩:=hf.opn 12 rfl
 replace HoE:OwR edE 60 N2 G0 w (g.2.map (·.1)) ev:=HoE
 replace hf:=hf.kp [12,13]
 refine tl_callE (S:=fun b=>ev.ownBlock=some b∨b=bu) (F:=fun z w'=>OwR edE 60 N2 G0 w' ((sfF g.2).2.map (·.1)) z) hf (by decide) En47 ?_ fun a z w hc hF hf=>?_
 ·have e9:a.eval (.tmp 12)=ev:=hf.opd (.tmp 12) _ rfl
  have e10:a.eval (.tmp 13)=.func (.func 87) #[] #[ptr b3]:=hf.opd (.tmp 13) _ rfl
  simp only[List.map_toArray,List.map_cons,List.map_nil,e9,e10]
  have hk:=sf_kp g.2 g.2.length (Nat.le_refl _)
  rw[List.take_length] at hk
  have hml:(g.2.map (·.1)).length=g.2.length:=List.length_map ..
  refine (deleteS_spec (T:=fun b=>b=bu) (g.2.map (·.1)) ev 87 #[ptr b3] (sfP g.2) (fun k w=>Blk w b3 #[ptr bp] 119∧PtQ bp bu 1024 (sfF (g.2.take k)).1 w) N2 _ En87 HoE (by rw[hml];exact hl2)
   (fun b hb hh=>by have:=(HoE.lt hb).1;omega) (fun b hb=>by have:=HoE.base;have hb':b=bu:=hb;omega) (fun k w w' h he=>⟨h.1.ext he,h.2.ext he⟩) (fun k w w' h hc=>⟨h.1.ch hc fun hh=>by have:=(HoE.lt hh).1;omega,h.2.ch hc (fun hh=>by have:=(HoE.lt hh).1;omega) (fun hh=>by have:=(HoE.lt hh).1;omega)⟩)
   (fun k x w hx hJ=>?_) ⟨B3,HQ⟩).mono fun en w' ⟨u,k1,k2,k3,k4⟩=>⟨u,k1,k2,by rw[hml,hk] at k3;exact k3⟩
  obtain⟨y,hy,rfl⟩:∃y,g.2[k]?=some y∧y.1=x:=by
   rw[List.getElem?_map] at hx
   cases hh:g.2[k]? with
   | none=>rw[hh] at hx;cases hx
   | some y=>rw[hh] at hx;exact⟨y,rfl,Option.some.inj hx⟩
  obtain⟨p,q,hpq,_,hp,hq⟩:=ed_nat ok y (List.mem_of_getElem? hy)
  have hu:eU y=p:=by rw[eU,hpq];exact Int.toNat_natCast _
  have hv:eV y=q:=by rw[eV,hpq];exact Int.toNat_natCast _
  obtain⟨h3,up,H,hd,hr⟩:=hJ
  have hpk:sfP g.2 k=decide (rt up p=rt up q):=by rw[sfP,hy,hr,hr];show decide ((sfF (g.2.take k)).1 (eU y)=(sfF (g.2.take k)).1 (eV y))=_;rw[hu,hv]
  rw[hpq,hpk]
  have hne:b3≠bu:=h3.ne H.u (by decide)
  refine (spf1_spec p q w (bit_lt hp) (bit_lt hq) hd H h3).mono fun en w' ⟨u,k1,k2,k3,k4⟩=>⟨u,k1,k2,k3,h3.ch k2 hne,?_⟩
  rw[sf_step hy,sfS,hu,hv]
  obtain⟨up',m1,m2,m3⟩:=k4
  refine⟨up',m1,m2,fun z=>?_⟩
  rw[m3]
  dsimp only
  rw[hr,hr,hr]
  by_cases hh:(sfF (g.2.take k)).1 p=(sfF (g.2.take k)).1 q
  ·rw[if_pos hh,hh,Nat.max_self,Nat.min_self]
   by_cases hz:(sfF (g.2.take k)).1 z=(sfF (g.2.take k)).1 q
   ·rw[if_pos hz,hz]
   ·rw[if_neg hz]
  ·rw[if_neg hh];rfl
 replace e:=e.ch hc fun b hb=>by
  rcases hb with hb|hb
  ·have:=(HoE.lt hb).1;omega
  ·omega
 have HoE:=hF
 refine tA hf rfl fun a hf=>tl_nil <| wret <| ret1 rfl hf rfl ?_
 rintro _ rfl
 exact⟨_,rfl,e,HoE.sl⟩
end Go.Mono
namespace Go.MonoD
open Go Go.Proofs Go.RowKit Go.Mono
def SlC (xs:List Int)(v:Value)(w:World):Prop:=(v=.slice none 0 0∧xs=[])∨∃ad cap,v=.slice (some ad) xs.length cap∧ad.block<w.heap.size∧∀i z,xs[i]?=some z→w.cell? (ad.add i)=some (I z)
theorem SlC.ext {xs:List Int}{v:Value}{w w':World}(h:SlC xs v w)(e:Ext w w'):SlC xs v w':=by
 rcases h with h|⟨ad,cap,h1,h2,h3⟩
 ·exact .inl h
 ·refine .inr ⟨ad,cap,h1,Nat.lt_of_lt_of_le h2 e.size,fun i z hz=>?_⟩
  rw[World.cell?_of_block (w:=w) (by rw[Mono.add_block];exact e.block _ h2)]
  exact h3 i z hz
theorem flat_int:∀xs:List Int,xs.flatMap Mono.intF=xs.map I
 | []=>rfl
 | x::xs=>by rw[List.flatMap_cons,flat_int xs];rfl
theorem slC_of {G:Nat→Prop}{xs:List Int}{v:Value}{w:World}(h:(Mono.Dv (Mono.slE Mono.intE) G xs).p v w):SlC xs v w:=by
 rcases Mono.Dv.sl.1 h with ⟨h1,h2⟩|⟨ad,cap,cs,h1,_,_,h3,h4,h5⟩
 ·exact .inl ⟨h1,h2⟩
 ·refine .inr ⟨ad,cap,h1,h3,fun i z hz=>h5 i _ ?_⟩
  rw[Mono.intFF.cells] at h4
  rw[h4,flat_int,List.getElem?_map,hz];rfl
def PtC (z:Int):VA:=⟨fun u w=>∃ad,u=.pointer (some ad)∧ad.block<w.heap.size∧w.cell? ad=some (I z),fun u w w' e ⟨ad,h1,h2,h3⟩=>⟨ad,h1,Nat.lt_of_lt_of_le h2 e.size,by rw[World.cell?_of_block (w:=w) (e.block _ h2)];exact h3⟩⟩
section
variable {P:Program}{w0:World}{L:Env}{dst:Option Tmp}{ty:TypeId}{pos:String}{aft:Array Edge}{g:Option (Nat×Bool)}{t te:TypeId}{x y:Operand}{xs:List Int}{v:Value}
theorem lenC (ht:P.underlying t=some (.slice te))(hx:opd L x=some (E v))(h:SlC xs v w0):OpC P w0 L ⟨dst,.call ⟨.builtin .len,#[x],#[t]⟩,ty,pos,aft,g⟩ (E (I (xs.length:Nat))):=
 opc_pure fun ρ w he hv=>by
  have h1:=opE hv (x:=x) (by simp[Op.operands,Call.operands]) hx
  refine⟨_,?_,rfl⟩
  rcases h with ⟨rfl,rfl⟩|⟨ad,cap,rfl,_⟩
  ·simp[execOp,resolve,invoke,builtin,Builtin.len_,h1,run_underlying ht,goInt]
  ·simp[execOp,resolve,invoke,builtin,Builtin.len_,h1,run_underlying ht,goInt]
theorem idxC {j:Nat}{z:Int}(ht:P.underlying t=some (.slice te))(hs:(P.info? te).map (·.size)=some 1)(hx:opd L x=some (E v))(h:SlC xs v w0)(hy:opd L y=some (E (I (j:Nat))))(hz:xs[j]?=some z) :
  OpC P w0 L ⟨dst,.indexAddr t x y,ty,pos,aft,g⟩ (PtC z):=
 opc_pure fun ρ w he hv=>by
  have h1:=opE hv (x:=x) (by simp[Op.operands]) hx
  have h2:=opE hv (x:=y) (by simp[Op.operands]) hy
  have hlt:=(List.getElem?_eq_some_iff.1 hz).1
  rcases h.ext he with ⟨rfl,rfl⟩|⟨ad,cap,rfl,h3,h4⟩
  ·simp at hlt
  ·have hi:(0:Int)≤(j:Int)∧(j:Int)<(xs.length:Int):=by omega
   have hsz:∀w,(sizeOf te).run P w=.ok 1 w:=fun w=>by
    cases hi:P.info? te with
    | none=>simp[hi] at hs
    | some i=>simp[hi] at hs;simp[sizeOf,typeInfo,hi,hs]
   refine⟨.pointer (some (ad.add j)),?_,_,rfl,by rw[Mono.add_block];exact h3,h4 j z hz⟩
   simp[execOp,h1,h2,Instr.indexAt,asIntOf,run_underlying ht,hlt,hsz]
theorem ldC {z:Int}(ht:TI P t false 1)(hx:opd L x=some (PtC z)):OpC P w0 L ⟨dst,.load t x,ty,pos,aft,g⟩ (E (I z)):=
 opc_pure fun ρ w he hv=>by
  obtain⟨ad,h1,h2,h3⟩:=hv x (by simp[Op.operands]) _ hx
  refine⟨_,?_,rfl⟩
  have:=loadVar1 ht (w:=w) (a:=ad) (v:=I z) h3
  simp[execOp,h1,Instr.loadAt,Instr.sureAddr,this]
end
def cmpZ:List Int→List Int→Int
 | [],[]=>0
 | [],_::_ => -1
 | _::_,[]=>1
 | x::xs,y::ys=>if cmpI x y≠0 then cmpI x y else cmpZ xs ys
theorem cmpZ_spec (xs ys:List Int)(v u:Value)(W:World)(h:SlC xs v W)(h':SlC ys u W)(hl:xs.length≤100000):Calls Tryz.prog 67 #[v,u] W (Post (E (I (cmpZ xs ys))) W):=by
 refine enter (args:=[v,u]) (As:=[E v,E u]) Tryz.func67 rfl Tryz.ntmps67 (Nat.le_of_ble_eq_true rfl) ?_ (fun a hf=>?_) (Nat.le_of_ble_eq_true rfl)
 rotate_left
 rotate_right
 ·exact arg2 rfl rfl
 have e:=Ext.rfl' W
 refine seq <| regn0 <| tl_as hf rfl (by decide) fun a hf=>tl_nil ?_
 repeat refine seq ?_
 refine regn 3 hf (by decide +kernel) <| st (mv rfl) <| st (lenC Tryz.underlying35 rfl h) <| st (mv rfl) <| en fun a w e' hf=>?_
 replace h:=h.ext e'
 replace h':=h'.ext e'
 replace e:=e.tr e'
 refine tl_nil ?_
 have hI:cmpZ (xs.drop 0) (ys.drop 0)=cmpZ xs ys∧0≤ys.length:=⟨rfl,Nat.zero_le _⟩
 replace hf:=hf.keep [0,1,9,10,11]
 refine blk (loopN (fun r0 a w=>∃(k:Nat) ,r0=xs.length - k∧k≤xs.length∧Fr 36 a w [(0,E v),(1,E u),(9,E v),(10,E (I (xs.length:Nat))),(11,E (I k))]∧Ext W w∧SlC xs v w∧SlC ys u w∧(cmpZ (xs.drop k) (ys.drop k)=cmpZ xs ys∧k≤ys.length)) xs.length ⟨0,rfl,by omega,hf,e,⟨h,h',hI⟩⟩ ?_)
 rintro r0 a w ⟨k,rfl,hk,hf,e,h,h',hI⟩
 refine seq <| regn 1 hf (by decide +kernel) <| st (lss rfl rfl) <| en fun a w e' hf=>?_
 replace h:=h.ext e'
 replace h':=h'.ext e'
 replace e:=e.tr e'
 refine tl_nil <| seq <| ifc hf rfl (fun hc=>wskip ?_) (fun hc=>wexit ?_)
 rotate_left
 rotate_left
 ·have hlt:k<xs.length:=by have:=of_decide_eq_true hc;(try dsimp only at this);omega
  replace hf:=hf.keep [0,1,9,10,11]
  refine seq <| blk ?_
  have hx:=List.getElem?_eq_getElem hlt
  generalize xs[k]=x at hx
  have hxd:xs.drop k=x::xs.drop (k+1):=by
   obtain⟨hk',he'⟩:=List.getElem?_eq_some_iff.1 hx
   rw[← he',List.getElem_cons_drop]
  obtain⟨hI1,hI2⟩:=hI
  rw[hxd] at hI1
  refine seq <| regn 3 hf (by decide +kernel) <| st (mv rfl) <| st (idxC Tryz.underlying35 Mono.S3 rfl h rfl hx) <| st (ldC T3 rfl) <| en fun a w e' hf=>?_
  replace h:=h.ext e'
  replace h':=h'.ext e'
  replace e:=e.tr e'
  refine tl_as hf rfl (by decide) fun a hf=>tl_as hf rfl (by decide) fun a hf=>tl_nil ?_
  by_cases hky:k<ys.length
  ·have hy:=List.getElem?_eq_getElem hky
   generalize ys[k]=y at hy
   have hyd:ys.drop k=y::ys.drop (k+1):=by
    obtain⟨hk',he'⟩:=List.getElem?_eq_some_iff.1 hy
    rw[← he',List.getElem_cons_drop]
   rw[hyd,cmpZ] at hI1
   repeat refine seq ?_
   refine regn 4 hf (by decide +kernel) <| st (mv rfl) <| st (mv rfl) <| st (lenC Tryz.underlying35 rfl h') <| st ((geq rfl rfl).eq (congrArg Value.bool (decide_eq_false (show ¬((ys.length:Nat):Int)≤(k:Int) by omega)))) <| en fun a w e' hf=>?_
   replace h:=h.ext e'
   replace h':=h'.ext e'
   replace e:=e.tr e'
   refine tl_nil <| ifc hf rfl (fun h=>by cases h) (fun _=>?_)
   refine wskip <| seq <| regn 4 hf (by decide +kernel) <| st (mv rfl) <| st (mv rfl) <| st (idxC Tryz.underlying35 Mono.S3 rfl h' rfl hy) <| st (ldC T3 rfl) <| en fun a w e' hf=>?_
   replace h:=h.ext e'
   replace h':=h'.ext e'
   replace e:=e.tr e'
   refine tl_as hf rfl (by decide) fun a hf=>tl_nil <| seq <| regn 3 hf (by decide +kernel) <| st (mv rfl) <| st (mv rfl) <| st (call2 Mono.En92 rfl rfl (fun v u w he h h'=>cmp_call x y v u w h h')) <| en fun a w e' hf=>?_
   replace h:=h.ext e'
   replace h':=h'.ext e'
   replace e:=e.tr e'
   refine tl_as hf rfl (by decide) fun a hf=>tl_nil <| seq <| regn 2 hf (by decide +kernel) <| st (mv rfl) <| st (neq rfl rfl) <| en fun a w e' hf=>?_
   replace h:=h.ext e'
   replace h':=h'.ext e'
   replace e:=e.tr e'
   refine tl_nil <| ifc hf rfl (fun hb=>?_) (fun hb=>?_)
   ·have hb':cmpI x y≠0:=by simpa using hb
    rw[if_pos hb'] at hI1
    refine seq <| regn 1 hf (by decide +kernel) <| st (mv rfl) <| en fun a w e' hf=>?_
    replace h:=h.ext e'
    replace h':=h'.ext e'
    replace e:=e.tr e'
    refine tl_as hf rfl (by decide) fun a hf=>tl_nil <| wret <| ret1 rfl hf rfl ?_
    rintro _ rfl
    exact⟨_,rfl,e,congrArg I hI1⟩
   ·have hb':¬cmpI x y≠0:=by simpa using hb
    rw[if_neg hb'] at hI1
    refine wskip <| regn 1 hf (by decide +kernel) <| st ((add rfl rfl (by omega)).eq (congrArg (Value.int .i64) (show (k:Int)+1=((k+1:Nat):Int) from rfl))) <| en fun a w e' hf=>?_
    replace h:=h.ext e'
    replace h':=h'.ext e'
    replace e:=e.tr e'
    refine tl_op hf (by decide) (mv rfl) fun a w e' hf=>?_
    replace h:=h.ext e'
    replace h':=h'.ext e'
    replace e:=e.tr e'
    refine tl_nil ?_
    replace hf:=hf.keep [0,1,9,10,11]
    refine⟨_,?_,k+1,rfl,by omega,hf,e,?_⟩
    ·omega
    exact⟨h,h',hI1,by omega⟩
  ·have hke:ys.drop k=[]:=List.drop_of_length_le (by omega)
   rw[hke,cmpZ] at hI1
   repeat refine seq ?_
   refine regn 4 hf (by decide +kernel) <| st (mv rfl) <| st (mv rfl) <| st (lenC Tryz.underlying35 rfl h') <| st ((geq rfl rfl).eq (congrArg Value.bool (decide_eq_true (show ((ys.length:Nat):Int)≤(k:Int) by omega)))) <| en fun a w e' hf=>?_
   replace h:=h.ext e'
   replace h':=h'.ext e'
   replace e:=e.tr e'
   refine tl_nil <| ifc hf rfl (fun _=>?_) (fun h=>by cases h)
   refine seq <| regn0 <| tl_as hf rfl (by decide) fun a hf=>tl_nil <| wret <| ret1 rfl hf rfl ?_
   rintro _ rfl
   exact⟨_,rfl,e,congrArg I hI1⟩
 ·obtain rfl:k=xs.length:=by have:=of_decide_eq_false hc;(try dsimp only at this);omega
  obtain⟨hI1,hI2⟩:=hI
  rw[List.drop_length] at hI1
  by_cases hly:xs.length<ys.length
  ·have:ys.drop xs.length≠[]:=fun hn=>by have:=congrArg List.length hn;rw[List.length_drop,List.length_nil] at this;omega
   have h2:cmpZ [] (ys.drop xs.length) = -1:=by
    cases hd:ys.drop xs.length with
    | nil=>exact absurd hd this
    | cons _ _=>rfl
   rw[h2] at hI1
   repeat refine seq ?_
   refine regn 5 hf (by decide +kernel) <| st (mv rfl) <| st (lenC Tryz.underlying35 rfl h) <| st (mv rfl) <| st (lenC Tryz.underlying35 rfl h') <| st ((lss rfl rfl).eq (congrArg Value.bool (decide_eq_true (show ((xs.length:Nat):Int)<((ys.length:Nat):Int) by omega)))) <| en fun a w e' hf=>?_
   replace h:=h.ext e'
   replace h':=h'.ext e'
   replace e:=e.tr e'
   refine tl_nil <| ifc hf rfl (fun _=>?_) (fun h=>by cases h)
   refine seq <| regn0 <| tl_as hf rfl (by decide) fun a hf=>tl_nil <| wret <| ret1 rfl hf rfl ?_
   rintro _ rfl
   exact⟨_,rfl,e,congrArg I hI1⟩
  ·have hd:ys.drop xs.length=[]:=List.drop_of_length_le (by omega)
   rw[hd,cmpZ] at hI1
   repeat refine seq ?_
   refine regn 5 hf (by decide +kernel) <| st (mv rfl) <| st (lenC Tryz.underlying35 rfl h) <| st (mv rfl) <| st (lenC Tryz.underlying35 rfl h') <| st ((lss rfl rfl).eq (congrArg Value.bool (decide_eq_false (show ¬((xs.length:Nat):Int)<((ys.length:Nat):Int) by omega)))) <| en fun a w e' hf=>?_
   replace h:=h.ext e'
   replace h':=h'.ext e'
   replace e:=e.tr e'
   refine tl_nil <| ifc hf rfl (fun h=>by cases h) (fun _=>?_)
   refine wskip <| seq <| regn0 <| tl_as hf rfl (by decide) fun a hf=>tl_nil <| wret <| ret1 rfl hf rfl ?_
   rintro _ rfl
   exact⟨_,rfl,e,congrArg I hI1⟩
end Go.MonoD
namespace Go.Proofs
open Go.Shelf
def Tryz.sortI_ren:Go.Shelf.Ren:=⟨fun|6=>66|15=>113|14=>112|28=>145|29=>146|20=>137|21=>138|22=>139|23=>140|24=>141|25=>142|26=>143|27=>144|46=>180|47=>181|48=>182|49=>183|50=>184|57=>199|n=>n,fun|22=>39|24=>35|25=>102|3=>3|39=>153|0=>0|53=>182|55=>74|4=>4|46=>176|45=>175|50=>106|5=>5|9=>9|66=>196|70=>200|76=>211|77=>212|n=>n,fun|n=>n⟩
theorem Tryz.sortI:Go.Proofs.SlLaysF.n6 Tryz.prog Tryz.sortI_ren:={
 mixed:=by kernel_rfl
 f6:=⟨Tryz.f66.name,by decide,Tryz.func66.trans (congrArg some (by kernel_rfl))⟩
 f14:=⟨Tryz.f112.name,by decide,Tryz.func112.trans (congrArg some (by kernel_rfl))⟩
 f15:=Tryz.func113.trans (congrArg some (by kernel_rfl))
 f20:=⟨Tryz.f137.name,by decide,Tryz.func137.trans (congrArg some (by kernel_rfl))⟩
 f21:=⟨Tryz.f138.name,by decide,Tryz.func138.trans (congrArg some (by kernel_rfl))⟩
 f22:=⟨Tryz.f139.name,by decide,Tryz.func139.trans (congrArg some (by kernel_rfl))⟩
 f23:=⟨Tryz.f140.name,by decide,Tryz.func140.trans (congrArg some (by kernel_rfl))⟩
 f24:=⟨Tryz.f141.name,by decide,Tryz.func141.trans (congrArg some (by kernel_rfl))⟩
 f25:=⟨Tryz.f142.name,by decide,Tryz.func142.trans (congrArg some (by kernel_rfl))⟩
 f26:=⟨Tryz.f143.name,by decide,Tryz.func143.trans (congrArg some (by kernel_rfl))⟩
 f27:=⟨Tryz.f144.name,by decide,Tryz.func144.trans (congrArg some (by kernel_rfl))⟩
 f28:=Tryz.func145.trans (congrArg some (by kernel_rfl))
 f29:=Tryz.func146.trans (congrArg some (by kernel_rfl))
 f46:=⟨Tryz.f180.name,by decide,Tryz.func180.trans (congrArg some (by kernel_rfl))⟩
 f47:=Tryz.func181.trans (congrArg some (by kernel_rfl))
 f48:=Tryz.func182.trans (congrArg some (by kernel_rfl))
 f49:=⟨Tryz.f183.name,by decide,Tryz.func183.trans (congrArg some (by kernel_rfl))⟩
 f50:=⟨Tryz.f184.name,by decide,Tryz.func184.trans (congrArg some (by kernel_rfl))⟩
 f57:=⟨Tryz.f199.name,by decide,Tryz.func199.trans (congrArg some (by kernel_rfl))⟩
 t0:=Tryz.underlying0
 a0:=Tryz.isAgg0
 z0:=Tryz.sizeOf0
 v0:=Tryz.zeroValue0
 t3:=Tryz.underlying3
 a3:=Tryz.isAgg3
 z3:=Tryz.sizeOf3
 v3:=Tryz.zeroValue3
 t4:=Tryz.underlying4
 a4:=Tryz.isAgg4
 z4:=Tryz.sizeOf4
 v4:=Tryz.zeroValue4
 t5:=Tryz.underlying5
 a5:=Tryz.isAgg5
 z5:=Tryz.sizeOf5
 v5:=Tryz.zeroValue5
 t9:=Tryz.underlying9
 a9:=Tryz.isAgg9
 z9:=Tryz.sizeOf9
 v9:=Tryz.zeroValue9
 t22:=Tryz.underlying39
 a22:=Tryz.isAgg39
 z22:=Tryz.sizeOf39
 v22:=Tryz.zeroValue39
 a24:=Tryz.isAgg35
 z24:=Tryz.sizeOf35
 t25:=Tryz.underlying102
 a25:=Tryz.isAgg102
 z25:=Tryz.sizeOf102
 v25:=Tryz.zeroValue102
 t39:=Tryz.underlying153
 a39:=Tryz.isAgg153
 z39:=Tryz.sizeOf153
 v39:=Tryz.zeroValue153
 t45:=Tryz.underlying175
 a45:=Tryz.isAgg175
 z45:=Tryz.sizeOf175
 v45:=Tryz.zeroValue175
 t46:=Tryz.underlying176
 a46:=Tryz.isAgg176
 z46:=Tryz.sizeOf176
 v46:=Tryz.zeroValue176
 t50:=Tryz.underlying106
 a50:=Tryz.isAgg106
 z50:=Tryz.sizeOf106
 v50:=Tryz.zeroValue106
 t53:=Tryz.underlying182
 a53:=Tryz.isAgg182
 z53:=Tryz.sizeOf182
 v53:=Tryz.zeroValue182
 t55:=Tryz.underlying74
 a55:=Tryz.isAgg74
 z55:=Tryz.sizeOf74
 v55:=Tryz.zeroValue74
 t66:=Tryz.underlying196
 a66:=Tryz.isAgg196
 z66:=Tryz.sizeOf196
 v66:=Tryz.zeroValue196
 t70:=Tryz.underlying200
 a70:=Tryz.isAgg200
 z70:=Tryz.sizeOf200
 v70:=Tryz.zeroValue200
 t76:=Tryz.underlying211
 a76:=Tryz.isAgg211
 z76:=Tryz.sizeOf211
 v76:=Tryz.zeroValue211
 t77:=Tryz.underlying212
 a77:=Tryz.isAgg212
 z77:=Tryz.sizeOf212
 v77:=Tryz.zeroValue212 }
end Go.Proofs
namespace Go.Mono
open Go Go.Proofs Go.RowKit Go.Gr
def SBc (bw bo ma ml:Nat)(vw vo:Value)(b:Nat):Prop:=(b=bw∨b=bo∨b=ma∨b=ml)∨OWN vw vo b
structure BcJ (l:List (Int×BS))(V:BS)(bm nm ba bl bw bg bd bo ma ml N:Nat)(G:Nat→Prop)(W:World)(S0 O0 K:Nat→Prop)(b8 b9 id:Nat)(frm:Int)(s:BcS)(vw vo:Value)(w:World):Prop where
 h:BcW l V bm nm ba bl bw bg bd bo ma ml N G s vw vo w
 c:Chg S0 W w
 b8:Blk w b8 #[I (id:Nat)] 3
 b9:Blk w b9 #[I frm] 3
 own:∀b,OWN vw vo b→(O0 b∨W.heap.size≤b)∧¬K b
theorem BcJ.kp {l:List (Int×BS)}{V:BS}{bm nm ba bl bw bg bd bo ma ml N:Nat}{G:Nat→Prop}{W:World}{S0 O0 K:Nat→Prop}{b8 b9 id:Nat}{frm:Int}{s:BcS}{vw vo:Value}{B:Nat}{w w':World}(h:BcJ l V bm nm ba bl bw bg bd bo ma ml N G W S0 O0 K b8 b9 id frm s vw vo w)
  (D:BcD bm ba bl bw bg bd bo ma ml N) (k:Kp B w w') (hW:W.heap.size≤B) (hN:N≤B) (h8:b8<B) (h9:b9<B) (hK:∀b,Hole B b→K b) (hG:∀b,Hole B b→G b):BcJ l V bm nm ba bl bw bg bd bo ma ml N G W S0 O0 K b8 b9 id frm s vw vo w':=
 ⟨h.h.ch D k.chg (fun b hb=>Nat.le_trans hN hb.1) (fun b hb hh=>(h.own b hb).2 (hK b hh)) hG,h.c.kp k hW,h.b8.kp k (fun hh=>by have:=hh.1;omega),h.b9.kp k (fun hh=>by have:=hh.1;omega),h.own⟩
theorem grow_refl (w:World)(row:Option Nat):w.grownBy w row:=⟨rfl,rfl,rfl,Nat.le_refl _,fun _ _ _=>rfl⟩
theorem bc1_spec {l:List (Int×BS)}{V:BS}{bm nm ba bl bw bg bd bo ma ml N c0:Nat}(D:BcD bm ba bl bw bg bd bo ma ml N)(hc0:c0≤2000)(hnm:nm≤2000)(hnV:∀i j:Nat,(lkS l (i:Int)).getLsbD j=true→V.getLsbD j=true) :
  ∀(f:Nat) (id:Nat) (frm:Int) (s:BcS) (vw vo:Value) (G:Nat→Prop) (W:World),(∀b,G b→b<W.heap.size)→(G bw∧G bo∧G ma∧G ml)→BcW l V bm nm ba bl bw bg bd bo ma ml N G s vw vo W→BcI V c0 s→V.getLsbD id=true→lkI s.la (id:Int)≤0→unv V s.la≤f →
  Calls Tryz.prog 61 #[I (id:Nat),I frm,ptr ba,ptr bl,ptr bw,ptr bg,ptr bd,ptr bo] W (fun en w'=>en=.returned (.tuple #[])∧∃vw' vo',Chg (SBc bw bo ma ml vw vo) W w'∧BcW l V bm nm ba bl bw bg bd bo ma ml N G (bcF (lkS l) f id frm s) vw' vo' w'∧∀b,OWN vw' vo' b→OWN vw vo b∨W.heap.size≤b):=by
 intro f
 induction f with
 | zero=>
  intro id frm s vw vo G W _ _ _ _ hid hi hu
  exfalso
  have hm:id∈(elems V).filter fun v:Nat=>decide (lkI s.la (v:Int)≤0):=List.mem_filter.2 ⟨mem_elems.2 ⟨bit_lt hid,hid⟩,decide_eq_true hi⟩
  have:=List.length_pos_of_mem hm
  rw[unv] at hu
  omega
 | succ f ih=>
  intro id frm s vw vo G W hG hGs H hI hid hi hu
  obtain⟨p1,p2⟩:=hI.push hid hi
  obtain⟨q1,q2,q3⟩:=bc_start hI hid hi
  have hal:=hI.al
  have hll:=hI.ll'
  have hwl:=hI.w
  have hid1:=bit_lt hid
  have hwid:(Lit.int .i64 (id:Int)).wf=true:=wf64 (by omega) (by omega)
  have hwn:=natE_len s.way
  obtain⟨nb,hnb⟩:∃nb,nb=lkS l:=⟨_,rfl⟩
  rw[← hnb] at hnV
  have dn:=D.n
  have dw:=D.w
  have do':=D.o
  have da:=D.a
  have dl:=D.l
  have hNW:N≤W.heap.size:=H.ow.base
  have ho8:∀b,OWN vw vo b→b<W.heap.size:=fun b hb=>hb.elim (fun h=>(H.ow.lt h).2) fun h=>(H.oo.lt h).2
  refine enterM (args:=[I (id:Nat),I frm,ptr ba,ptr bl,ptr bw,ptr bg,ptr bd,ptr bo]) (As:=[E (I (id:Nat)),E (I frm),E (ptr ba),E (ptr bl),E (ptr bw),E (ptr bg),E (ptr bd),E (ptr bo)]) Tryz.func61 rfl Tryz.ntmps61 (Nat.le_of_ble_eq_true rfl) ?_ (fun a hf=>?_) (Nat.le_of_ble_eq_true rfl)
  ·exact argC rfl (argC rfl (argC rfl (argC rfl (argC rfl (argC rfl (argC rfl (argC rfl argZ)))))))
  dsimp only[params,Nat.reduceAdd] at hf
  have e:=Ext.rfl' W
  refine seq <| regn0 <| tB hf rfl fun a b8 w v8 hv8 e' hb8 hs8 B8 hf=>?_
  obtain⟨H,e⟩:=up2 e' H e
  refine tB hf rfl fun a b9 w v9 hv9 e' hb9 hs9 B9 hf=>?_
  obtain⟨H,e,B8⟩:=up3 e' H e B8
  refine tl_nil ?_
  cases hv8
  cases hv9
  replace B8:Blk w b8 #[I (id:Nat)] 3:=B8
  replace B9:Blk w b9 #[I frm] 3:=B9
  have n89:W.heap.size≤b8∧W.heap.size≤b9∧b8≠b9:=by omega
  obtain⟨S0,hS0⟩:∃S0,S0=SBc bw bo ma ml vw vo:=⟨_,rfl⟩
  have c:Chg S0 W w:=e.chg _
  have sw:S0 bw:=by rw[hS0];exact .inl (.inl rfl)
  have so:S0 bo:=by rw[hS0];exact .inl (.inr (.inl rfl))
  have sa:S0 ma:=by rw[hS0];exact .inl (.inr (.inr (.inl rfl)))
  have sl:S0 ml:=by rw[hS0];exact .inl (.inr (.inr (.inr rfl)))
  have sO:∀b,OWN vw vo b→S0 b:=fun b hb=>by rw[hS0];exact .inr hb
  replace hf:=hf.kp [2,3,4,5,6,7,8,9]
  refine seq <| rgN 5 hf <| st (ld1 (v:=.map (some ma)) T43 rfl H.pa rfl) <| st (ld1 T3 rfl B8 rfl) <| st (ld1 (v:=.map (some ma)) T43 rfl H.pa rfl) <| st (lenMM U43 rfl H.ma) <| st (add rfl rfl (by omega)) <| en fun a w e' hf=>?_
  obtain⟨H,c,B8,B9⟩:=up4 e' H c B8 B9
  replace hf:=hf.kp [2,3,4,5,6,7,8,9,12,13,16]
  refine tl_mputV (V:=iKV) (i:=(id:Int)) (c:=((s.la.length:Nat)+1:Int)) U43 hf rfl rfl rfl H.ma (by simp only[maxLen];omega) hwid (wf64 (by omega) (by omega)) fun w hg HM hf=>?_
  replace H:=H.putA D hg HM hGs.2.2.1
  replace c:=c.gr hg (.inl sa);replace B8:=B8.gr hg (by omega);replace B9:=B9.gr hg (by omega);clear hg HM
  refine tl_nil ?_
  replace hf:=hf.kp [2,3,4,5,6,7,8,9]
  obtain⟨la1,hla1⟩:∃la1,la1=putP s.la (id:Int) ((s.la.length:Nat)+1:Int):=⟨_,rfl⟩
  rw[← hla1] at H
  have hs1:bcP id s={ la:=la1,ll:=putP s.ll (id:Int) (lkI la1 (id:Int)),way:=s.way++[id],out:=s.out }:=by rw[hla1];rfl
  have hl1:0≤lkI la1 (id:Int)∧lkI la1 (id:Int)≤1025:=by have:=p1.ar (id:Int);rw[hs1] at this;exact this
  refine seq <| rgN 5 hf <| st (ld1 (v:=.map (some ml)) T43 rfl H.pl rfl) <| st (ld1 T3 rfl B8 rfl) <| st (ld1 (v:=.map (some ma)) T43 rfl H.pa rfl) <| st (ld1 T3 rfl B8 rfl) <| st (lkIM U43 rfl H.ma rfl hwid) <| en fun a w e' hf=>?_
  obtain⟨H,c,B8,B9⟩:=up4 e' H c B8 B9
  replace hf:=hf.kp [2,3,4,5,6,7,8,9,17,18,21]
  refine tl_mputV (V:=iKV) (i:=(id:Int)) (c:=lkI la1 (id:Int)) U43 hf rfl rfl rfl H.ml (by simp only[maxLen];omega) hwid (wf64 (by omega) (by omega)) fun w hg HM hf=>?_
  replace H:=H.putL D hg HM hGs.2.2.2
  replace c:=c.gr hg (.inl sl);replace B8:=B8.gr hg (by omega);replace B9:=B9.gr hg (by omega);clear hg HM
  refine tl_nil ?_
  replace hf:=hf.kp [2,3,4,5,6,7,8,9]
  refine seq <| rgN 3 hf <| st (ld1 (v:=vw) T35 rfl H.pw rfl) <| st (ld1 T3 rfl B8 rfl) <| st (bsl1 (e:=intE) (G:=GO G0 vw) U35 I3 rfl (by decide) rfl H.ow.avs (isI rfl)) <| en fun a w e' hf=>?_
  obtain⟨H,c,B8,B9⟩:=up4 e' H c B8 B9
  replace hf:=hf.kp [2,3,4,5,6,7,8,9,22,24]
  refine tl_app U35 I3 rfl rfl hf (by decide) rfl H.ow (isR rfl) (by rw[hwn];simp only[List.length_singleton];omega) (by rw[hwn];simp only[List.length_singleton,maxLen];omega) fun a vw1 w' hg hat Hn hf=>?_
  have Bw:=H.pw.gro hg (fun h=>by have:=(H.ow.lt h).1;omega)
  have hsz1:=c.size
  have l8:=B8.lt
  have l9:=B9.lt
  replace hf:=hf.kp [2,3,4,5,6,7,8,9,25]
  refine tl_st1 T35 hf rfl rfl Hn.one Bw Nat.zero_lt_one fun w2 hg2 hsz Bw hf=>?_
  rw[show natE s.way++[(id:Int)]=natE (s.way++[id]) from (natE_app _ _).symm] at Hn
  replace H:=H.setW D hg hat Hn hg2 Bw hGs.1
  have ho1:∀b,vw1.ownBlock=some b→vw.ownBlock=some b∨W.heap.size≤b:=fun b hb=>by
   rcases hat with h|h
   ·exact .inl (by rw[← h];exact hb)
   ·rw[h] at hb;cases hb;exact .inr hsz1
  replace c:=(c.tr2 (Chg.row hg) fun b hb=>.inl (sO b (.inl hb))).gr hg2 (.inl sw)
  replace B8:=(B8.gro hg (fun h=>by have:=ho8 _ (.inl h);omega)).gr hg2 (by omega)
  replace B9:=(B9.gro hg (fun h=>by have:=ho8 _ (.inl h);omega)).gr hg2 (by omega)
  have ho1k:∀b,OWN vw1 vo b→(OWN vw vo b∨W.heap.size≤b)∧b≠b8∧b≠b9:=fun b hb=>by
   rcases hb with hb|hb
   ·rcases hat with h|h
    ·have hb':vw.ownBlock=some b:=by rw[← h];exact hb
     have:=ho8 b (.inl hb')
     exact⟨.inl (.inl hb'),by omega,by omega⟩
    ·rw[h] at hb;cases hb
     exact⟨.inr hsz1,by omega,by omega⟩
   ·have:=ho8 b (.inr hb)
    exact⟨.inl (.inr hb),by omega,by omega⟩
  generalize w2=w at *
  refine tl_nil ?_
  replace H:BcW l V bm nm ba bl bw bg bd bo ma ml N G (bcP id s) vw1 vo w:=by rw[hs1];exact H
  obtain⟨s1,hs1'⟩:∃s1,s1=bcP id s:=⟨_,rfl⟩
  rw[← hs1'] at H p1 p2 q1 q2 q3
  have hq0:BcQ V c0 s1 s1:=BcQ.rfl' p1
  obtain⟨Nb,hNb⟩:∃Nb,Nb=nb (id:Int):=⟨_,rfl⟩
  obtain⟨Nz,hNz⟩:∃Nz,Nz=w.heap.size:=⟨_,rfl⟩
  have hlk:lkS l (id:Int)=Nb:=by rw[hNb,hnb]
  replace hf:=hf.kp [2,3,4,5,6,7,8,9]
  have hdv:=MpR.dvE H.m (Nat.le_refl nm) (G:=G0) (fun h=>h)
  refine seq <| rgN 5 hf <| st (fA U79 rfl T77 rfl) <| st (ld1 (v:=.map (some bm)) T77 rfl H.pg (adC_map _ _)) <| st (ld1 T3 rfl B8 rfl) <| st ((lkM (l:=l) (i:=(id:Int)) U77 zero_set (isE rfl hdv) rfl hwid).eq (congrArg setV hlk)) <| st (call1 (A:=SeqA Nz Nb) En62 rfl (fun v w' he h=>by cases h;exact Calls.mono (all_spec _ w') (fun en w2 ⟨u,h1,h2,b',h3,h4,h5⟩=>⟨u,h1,h2,b',by have:=he.size;omega,h4,h5⟩))) ?_
  refine en fun a w e' hf=>?_
  obtain⟨H,c,hdv,B8,B9⟩:=up5 e' H c hdv B8 B9
  refine tl_nil ?_
  obtain⟨vv,⟨b30,h30,rfl,BS⟩,hf⟩:=hf.fix 30 rfl
  replace hf:=hf.kp [2,3,4,5,6,7,8,9,30]
  have hBW:W.heap.size≤w.heap.size:=c.size
  have l8:=B8.lt
  have l9:=B9.lt
  obtain⟨K,hK⟩:∃K:Nat→Prop,K=fun b=>b=b8∨b=b9∨Hole w.heap.size b:=⟨_,rfl⟩
  obtain⟨G1,hG1⟩:∃G1:Nat→Prop,G1=fun b=>G b∨Hole w.heap.size b:=⟨_,rfl⟩
  have hKh:∀b,Hole w.heap.size b→K b:=fun b hb=>by rw[hK];exact .inr (.inr hb)
  have hGh:∀b,Hole w.heap.size b→G1 b:=fun b hb=>by rw[hG1];exact .inr hb
  have hGG:∀b,G b→G1 b:=fun b hb=>by rw[hG1];exact .inl hb
  have hGs1:G1 bw∧G1 bo∧G1 ma∧G1 ml:=⟨hGG _ hGs.1,hGG _ hGs.2.1,hGG _ hGs.2.2.1,hGG _ hGs.2.2.2⟩
  have hKl:∀b,K b→b<w.heap.size+3:=fun b hb=>by
   rw[hK] at hb
   rcases hb with hb|hb|hb
   ·omega
   ·omega
   ·exact hb.2
  have hG1l:∀b,G1 b→b<w.heap.size+3:=fun b hb=>by
   rw[hG1] at hb
   rcases hb with hb|hb
   ·have:=hG b hb;omega
   ·exact hb.2
  have hK8:K b8∧K b9:=by rw[hK];exact⟨.inl rfl,.inr (.inl rfl)⟩
  have hJ0:BcJ l V bm nm ba bl bw bg bd bo ma ml N G1 W S0 (OWN vw vo) K b8 b9 id frm s1 vw1 vo w:=⟨H.weak fun b hb hh=>by
    rw[hG1] at hh
    rcases hh with hh|hh
    ·exact hh
    ·have:=hh.1;omega,c,B8,B9,fun b hb=>⟨(ho1k b hb).1,fun hh=>by
    rw[hK] at hh
    have h1:=ho1k b hb
    have h2:b<w.heap.size:=hb.elim (fun h=>(H.ow.lt h).2) fun h=>(H.oo.lt h).2
    rcases hh with hh|hh|hh
    ·exact h1.2.1 hh
    ·exact h1.2.2 hh
    ·have:=hh.1;omega⟩⟩
  have hNB:N≤w.heap.size:=H.ow.base
  refine blk <| range_all3 (S:=Nb) hf rfl BS (by decide) (fun sl w1=>∃vw1 vo1,BcJ l V bm nm ba bl bw bg bd bo ma ml N G1 W S0 (OWN vw vo) K b8 b9 id frm (sl.foldl (bcT (bcF nb f) id frm) s1) vw1 vo1 w1∧BcQ V c0 s1 (sl.foldl (bcT (bcF nb f) id frm) s1)) (fun _ _=>False) (fun sl w1 ⟨_,_,h,_⟩=>h.h.t)
   ⟨vw1,vo,hJ0,hq0⟩ (fun sl w1 w2 ⟨v1,v2,h,hq⟩ hs k=>⟨v1,v2,h.kp D k hBW hNB l8 l9 hKh hGh,hq⟩) (fun _ _ _ h=>h.elim) ?_ ?_ (fun _ _ _ _ _ _ h=>h.elim)
  ·intro lp sl' x rest a1 w1 hs hJ hlw hf
   have hxV:V.getLsbD x=true:=hnV id x (by rw[← hNb];exact (mem_elems.1 (by rw[hs];simp)).2)
   have hx1024:x<1024:=bit_lt hxV
   have hwx:(Lit.int .i64 (x:Int)).wf=true:=wf64 (by omega) (by omega)
   generalize hBz:w.heap.size=Bz at *
   refine regn0 <| tA hf rfl fun a hf=>tl_nil <| ⟨Kh.rfl' _ _,fun w3 k3 hsz3=>?_⟩
   obtain⟨vx,vy,hJ,hq⟩:=hJ
   have hJ3:=hJ.kp D k3 hBW hNB l8 l9 hKh hGh
   have hw3:Bz+3≤w3.heap.size:=by omega
   replace hf:=hf.pure w3
   obtain⟨H,c,B8,B9,hown⟩:=hJ3
   have kh:=Kh.rfl' Bz w3
   have hstep:((sl'++[x]).foldl (bcT (bcF nb f) id frm) s1)=bcT (bcF nb f) id frm (sl'.foldl (bcT (bcF nb f) id frm) s1) x:=by rw[List.foldl_append];rfl
   obtain⟨sx,hsx⟩:∃sx,sx=sl'.foldl (bcT (bcF nb f) id frm) s1:=⟨_,rfl⟩
   rw[← hsx] at H hq hstep
   obtain⟨tgt,htgt⟩:∃tgt,tgt=bcT (bcF nb f) id frm sx x:=⟨_,rfl⟩
   have fin:∀v1 v2 w1,BcJ l V bm nm ba bl bw bg bd bo ma ml N G1 W S0 (OWN vw vo) K b8 b9 id frm tgt v1 v2 w1→BcQ V c0 s1 tgt→∃v1 v2,BcJ l V bm nm ba bl bw bg bd bo ma ml N G1 W S0 (OWN vw vo) K b8 b9 id frm ((sl'++[x]).foldl (bcT (bcF nb f) id frm) s1) v1 v2 w1∧BcQ V c0 s1 ((sl'++[x]).foldl (bcT (bcF nb f) id frm) s1):=fun v1 v2 w1 h1 h2=>⟨v1,v2,by rw[hstep,← htgt];exact⟨h1,h2⟩⟩
   have hqs:BcQ V c0 s1 tgt:=by rw[htgt];exact bc_step hid hq fun hh=>bc_ok hnV f x (id:Int) sx hq.i hxV hh (by have:=unv_mono (V:=V) hq.m;omega)
   rw[bcT] at htgt
   have hqi:=hq.i
   have hal2:=hqi.al
   have hll2:=hqi.ll'
   have hwl2:=hqi.w
   have hol2:=hqi.o
   have hwn2:=natE_len sx.way
   have hgo:∀b,Hole Bz b→¬(b=bw∨b=bo∨b=ma∨b=ml):=fun b hb hh=>by have:=hb.1;omega
   replace hf:=hf.kp [2,3,4,5,6,7,8,9,10]
   refine blk ?_
   by_cases hxf:(x:Int)=frm
   ·repeat refine seq ?_
    refine rgN 3 hf <| st (mv rfl) <| st (ld1 T3 rfl B9 rfl) <| st ((eql rfl rfl).eq (congrArg Value.bool ((by rw[hxf];exact beq_self_eq_true _:((x:Int)==frm)=true)))) ?_
    refine en fun a w e' hf=>?_
    obtain⟨H,c⟩:=up2 e' H c
    replace kh:=kh.tr (Kh.ext e')
    obtain⟨B8,B9⟩:=up2 e' B8 B9
    refine tl_nil <| ifc hf rfl (fun _=>?_) (fun h=>by cases h)
    refine wexit ?_
    rw[if_pos hxf] at htgt
    subst htgt
    exact⟨fin _ _ _ ⟨H,c,B8,B9,hown⟩ hq,kh⟩
   rw[if_neg hxf] at htgt
   repeat refine seq ?_
   refine rgN 3 hf <| st (mv rfl) <| st (ld1 T3 rfl B9 rfl) <| st ((eql rfl rfl).eq (congrArg Value.bool ((beq_eq_false_iff_ne.2 hxf:((x:Int)==frm)=false)))) <| en fun a w e' hf=>?_
   obtain⟨H,c⟩:=up2 e' H c
   replace kh:=kh.tr (Kh.ext e')
   obtain⟨B8,B9⟩:=up2 e' B8 B9
   refine tl_nil <| ifc hf rfl (fun h=>by cases h) (fun _=>?_)
   refine wskip ?_
   replace hf:=hf.kp [2,3,4,5,6,7,8,9,10]
   by_cases hpo:0<lkI sx.la (x:Int)
   ·repeat refine seq ?_
    refine rgN 4 hf <| st (ld1 (v:=.map (some ma)) T43 rfl H.pa rfl) <| st (mv rfl) <| st (lkIM U43 rfl H.ma rfl hwx) <| st ((gtr rfl rfl).eq (congrArg Value.bool (decide_eq_true hpo))) <| en fun a w e' hf=>?_
    obtain⟨H,c⟩:=up2 e' H c
    replace kh:=kh.tr (Kh.ext e')
    obtain⟨B8,B9⟩:=up2 e' B8 B9
    refine tl_nil <| ifc hf rfl (fun _=>?_) (fun h=>by cases h)
    replace hf:=hf.kp [2,3,4,5,6,7,8,9,10]
    have hmn:0≤min (lkI sx.ll (id:Int)) (lkI sx.la (x:Int))∧min (lkI sx.ll (id:Int)) (lkI sx.la (x:Int))≤1025:=by have h1:=hqi.lr (id:Int);have h2:=hqi.ar (x:Int);omega
    refine seq <| rgN 9 hf <| st (ld1 (v:=.map (some ml)) T43 rfl H.pl rfl) <| st (ld1 T3 rfl B8 rfl) <| st (ld1 (v:=.map (some ml)) T43 rfl H.pl rfl) <| st (ld1 T3 rfl B8 rfl) <| st (lkIM U43 rfl H.ml rfl hwid) <| st (ld1 (v:=.map (some ma)) T43 rfl H.pa rfl) <| st (mv rfl) <| st (lkIM U43 rfl H.ma rfl hwx) <| st (min2 rfl rfl) <| en fun a w e' hf=>?_
    obtain⟨H,c⟩:=up2 e' H c
    replace kh:=kh.tr (Kh.ext e')
    obtain⟨B8,B9⟩:=up2 e' B8 B9
    replace hf:=hf.kp [2,3,4,5,6,7,8,9,10,39,40,47]
    refine tl_mputV (V:=iKV) (i:=(id:Int)) (c:=min (lkI sx.ll (id:Int)) (lkI sx.la (x:Int))) U43 hf rfl rfl rfl H.ml (by simp only[maxLen];omega) hwid (wf64 (by omega) (by omega)) fun w hg HM hf=>?_
    replace H:=H.putL D hg HM hGs1.2.2.2
    replace c:=c.gr hg (.inl sl);replace B8:=B8.gr hg (by omega);replace B9:=B9.gr hg (by omega);replace kh:=kh.tr (Kh.gr hg fun hh=>hgo _ hh (.inr (.inr (.inr rfl))));clear hg HM
    refine tl_nil <| wexit ?_
    rw[if_pos hpo] at htgt
    replace H:BcW l V bm nm ba bl bw bg bd bo ma ml N G1 tgt vx vy w:=by rw[htgt];exact H
    exact⟨fin _ _ _ ⟨H,c,B8,B9,hown⟩ hqs,kh⟩
   repeat refine seq ?_
   refine rgN 4 hf <| st (ld1 (v:=.map (some ma)) T43 rfl H.pa rfl) <| st (mv rfl) <| st (lkIM U43 rfl H.ma rfl hwx) <| st ((gtr rfl rfl).eq (congrArg Value.bool (decide_eq_false hpo))) <| en fun a w e' hf=>?_
   obtain⟨H,c⟩:=up2 e' H c
   replace kh:=kh.tr (Kh.ext e')
   obtain⟨B8,B9⟩:=up2 e' B8 B9
   refine tl_nil <| ifc hf rfl (fun h=>by cases h) (fun _=>?_)
   refine wskip ?_
   replace hf:=hf.kp [2,3,4,5,6,7,8,9,10]
   rw[if_neg hpo] at htgt
   have hu2:unv V sx.la≤f:=by have:=unv_mono (V:=V) hq.m;omega
   have r:=bc_ok hnV f x (id:Int) sx hqi hxV (by omega) hu2
   refine seq <| rgN 2 hf <| st (ld1 (v:=vx) T35 rfl H.pw rfl) <| st (lenD U35 (isE rfl H.ow.sl)) <| en fun a w e' hf=>?_
   obtain⟨H,c⟩:=up2 e' H c
   replace kh:=kh.tr (Kh.ext e')
   obtain⟨B8,B9⟩:=up2 e' B8 B9
   refine tA hf rfl fun a hf=>tl_nil ?_
   rw[hwn2] at hf
   replace hf:=hf.kp [2,3,4,5,6,7,8,9,10,11]
   refine seq <| rgN 3 hf <| st (ld1 (v:=bcV ba bl bw bg bd bo) T95 rfl H.pd rfl) <| st (mv rfl) <| st (ld1 T3 rfl B8 rfl) <| en fun a w e' hf=>?_
   obtain⟨H,c⟩:=up2 e' H c
   replace kh:=kh.tr (Kh.ext e')
   obtain⟨B8,B9⟩:=up2 e' B8 B9
   replace hf:=hf.kp [2,3,4,5,6,7,8,9,10,11,50,51,52]
   refine tl_callV (S:=SBc bw bo ma ml vx vy) (F:=fun w'=>∃vw' vo',BcW l V bm nm ba bl bw bg bd bo ma ml N G1 (bcF (lkS l) f x (id:Int) sx) vw' vo' w'∧∀b,OWN vw' vo' b→OWN vx vy b∨w.heap.size≤b) (A:=E (.tuple #[])) hf (by decide) En61 rfl ?_ fun a w2 hc HF hf=>?_
   ·have e51:a.eval (.tmp 51)=I (x:Nat):=hf.opd (.tmp 51) _ rfl
    have e52:a.eval (.tmp 52)=I (id:Nat):=hf.opd (.tmp 52) _ rfl
    simp only[List.map_toArray,List.map_cons,List.map_nil,e51,e52]
    exact (ih x (id:Int) sx vx vy G1 _ (fun b hb=>by have h1:=hG1l b hb;have h2:=kh.size;omega) hGs1 H hqi hxV (by omega) hu2).mono fun en w' ⟨k1,v1,v2,k2,k3,k4⟩=>⟨_,k1,k2,rfl,v1,v2,k3,k4⟩
   obtain⟨vx2,vy2,H2,hnew⟩:=HF
   have hbs:∀b,b=b8∨b=b9∨Hole Bz b→¬SBc bw bo ma ml vx vy b:=fun b hb hh=>by
    rcases hh with hh|hh
    ·rcases hb with hb|hb|hb
     ·omega
     ·omega
     ·have:=hb.1;omega
    ·have h1:=(hown b hh).2
     rcases hb with hb|hb|hb
     ·rw[hb] at h1;exact h1 hK8.1
     ·rw[hb] at h1;exact h1 hK8.2
     ·exact h1 (hKh b hb)
   have hwsz:=kh.size
   have hSS:∀b,SBc bw bo ma ml vx vy b→S0 b∨W.heap.size≤b:=fun b hb=>by
    rcases hb with hb|hb
    ·rcases hb with rfl|rfl|rfl|rfl
     ·exact .inl sw
     ·exact .inl so
     ·exact .inl sa
     ·exact .inl sl
    ·exact (hown b hb).1.imp (sO b) (fun h=>h)
   replace hown:∀b,OWN vx2 vy2 b→(OWN vw vo b∨W.heap.size≤b)∧¬K b:=fun b hb=>by
    rcases hnew b hb with h|h
    ·exact hown b h
    ·exact⟨.inr (by omega),fun hk=>by have:=hKl b hk;omega⟩
   replace c:=c.tr2 hc hSS
   replace B8:=B8.ch hc (hbs b8 (.inl rfl))
   replace B9:=B9.ch hc (hbs b9 (.inr (.inl rfl)))
   replace kh:=kh.tr (Kh.chg hc fun b hb hh=>hbs b (.inr (.inr hh)) hb)
   generalize w2=w at *
   refine tl_nil ?_
   have H:=H2
   rw[← hnb] at H
   obtain⟨s2,hs2⟩:∃s2,s2=bcF nb f x (id:Int) sx:=⟨_,rfl⟩
   rw[← hs2] at H htgt r
   have ri:=r.i
   have rll:=ri.ll'
   have ral:=ri.al
   have rwl:=ri.w
   have rol:=ri.o
   obtain⟨t2,ht2⟩:=r.w
   obtain⟨t1,ht1⟩:=hq.w
   have hbl:sx.way.length<s2.way.length:=by rw[ht2,List.length_append,List.length_cons];omega
   have hb1:0<sx.way.length:=by
    have:s1.way=s.way++[id]:=by rw[hs1'];rfl
    rw[ht1,this,List.length_append,List.length_append]
    simp only[List.length_singleton];omega
   obtain⟨beh,hbeh⟩:∃beh,beh=sx.way.length:=⟨_,rfl⟩
   rw[← hbeh] at hbl hb1 htgt hf
   replace hf:=hf.kp [2,3,4,5,6,7,8,9,10,11]
   have hmn:0≤min (lkI s2.ll (id:Int)) (lkI s2.ll (x:Int))∧min (lkI s2.ll (id:Int)) (lkI s2.ll (x:Int))≤1025:=by have h1:=ri.lr (id:Int);have h2:=ri.lr (x:Int);omega
   refine seq <| rgN 9 hf <| st (ld1 (v:=.map (some ml)) T43 rfl H.pl rfl) <| st (ld1 T3 rfl B8 rfl) <| st (ld1 (v:=.map (some ml)) T43 rfl H.pl rfl) <| st (ld1 T3 rfl B8 rfl) <| st (lkIM U43 rfl H.ml rfl hwid) <| st (ld1 (v:=.map (some ml)) T43 rfl H.pl rfl) <| st (mv rfl) <| st (lkIM U43 rfl H.ml rfl hwx) <| st (min2 rfl rfl) <| en fun a w e' hf=>?_
   obtain⟨H,c⟩:=up2 e' H c
   replace kh:=kh.tr (Kh.ext e')
   obtain⟨B8,B9⟩:=up2 e' B8 B9
   replace hf:=hf.kp [2,3,4,5,6,7,8,9,10,11,54,55,62]
   refine tl_mputV (V:=iKV) (i:=(id:Int)) (c:=min (lkI s2.ll (id:Int)) (lkI s2.ll (x:Int))) U43 hf rfl rfl rfl H.ml (by simp only[maxLen];omega) hwid (wf64 (by omega) (by omega)) fun w hg HM hf=>?_
   replace H:BcW l V bm nm ba bl bw bg bd bo ma ml N G1 (bcM id x s2) vx2 vy2 w:=H.putL D hg HM hGs1.2.2.2
   replace c:=c.gr hg (.inl sl);replace B8:=B8.gr hg (by omega);replace B9:=B9.gr hg (by omega);replace kh:=kh.tr (Kh.gr hg fun hh=>hgo _ hh (.inr (.inr (.inr rfl))));clear hg HM
   refine tl_nil ?_
   have mi:=ri.setM hid x
   have mway:(bcM id x s2).way=s2.way:=rfl
   have mout:(bcM id x s2).out=s2.out:=rfl
   obtain⟨s3,hs3⟩:∃s3,s3=bcM id x s2:=⟨_,rfl⟩
   rw[← hs3] at H htgt mi mway mout
   have m3w:=mi.w
   have m3a:=mi.al
   have m3o:=mi.o
   have hwn3:=natE_len s3.way
   replace hf:=hf.kp [2,3,4,5,6,7,8,9,10,11]
   by_cases hcm:lkI s3.la (id:Int)≤lkI s3.ll (x:Int)
   ·rw[if_pos hcm] at htgt
    refine seq <| rgN 7 hf <| st (ld1 (v:=.map (some ml)) T43 rfl H.pl rfl) <| st (mv rfl) <| st (lkIM U43 rfl H.ml rfl hwx) <| st (ld1 (v:=.map (some ma)) T43 rfl H.pa rfl) <| st (ld1 T3 rfl B8 rfl) <| st (lkIM U43 rfl H.ma rfl hwid) <| st ((geq rfl rfl).eq (congrArg Value.bool (decide_eq_true hcm))) <| en fun a w e' hf=>?_
    obtain⟨H,c⟩:=up2 e' H c
    replace kh:=kh.tr (Kh.ext e')
    obtain⟨B8,B9⟩:=up2 e' B8 B9
    refine tl_nil <| ifc hf rfl (fun _=>?_) (fun h=>by cases h)
    replace hf:=hf.kp [2,3,4,5,6,7,8,9,10,11]
    have hsz0:=kh.size
    obtain⟨N5,hN5⟩:∃N5,N5=w.heap.size:=⟨_,rfl⟩
    have hN5s:N5≤w.heap.size:=Nat.le_of_eq hN5
    have hN5b:Bz+3≤N5:=by omega
    have h8l:b8<N5∧b9<N5:=by rw[hN5];exact⟨B8.lt,B9.lt⟩
    have hgo2:∀b,GO (fun b=>G1 b∨vx2.ownBlock=some b) vy2 b→b<N5:=fun b hb=>by
     rw[hN5]
     rcases hb with (hb|hb)|hb
     ·have:=hG1l b hb;omega
     ·exact (H.ow.lt hb).2
     ·exact (H.oo.lt hb).2
    obtain⟨cl,hcl⟩:∃cl,cl=natE (s3.way.drop beh):=⟨_,rfl⟩
    have hbl3:beh≤s3.way.length:=by rw[mway];omega
    have hcl1:(natE s3.way).drop beh=cl:=by rw[hcl,natE,natE,List.map_drop]
    have hcll:cl.length=s3.way.length - beh:=by rw[hcl,natE_len,List.length_drop]
    have hclne:cl≠[]:=fun h=>by rw[h] at hcll;simp only[List.length_nil] at hcll;rw[mway] at hcll;omega
    have hcl2:natE (s3.way.drop beh++[id])=cl++[(id:Int)]:=by rw[natE_app,hcl]
    obtain⟨C,hC⟩:∃C,C=(cl++[(id:Int)]).foldl ins 0:=⟨_,rfl⟩
    have hout:s3.out++[elL ((natE (s3.way.drop beh++[id])).foldl ins 0)]=s3.out++[elL C]:=by rw[hcl2,← hC]
    have hdrop:(Dv (slE intE) G0 (natE s3.way)).p vx2 w:=H.ow.sl
    refine seq <| regJ 11 [1,0,0,0,0,0,0] (Chg (fun b=>N5≤b)) (RelJ.chg _) (fun w=>True) (fun w w1 k h=>trivial) Mix.mix hf (by decide +kernel) (by decide +kernel) <| jf (fun w1 h1=>ld1 (v:=vy2) T39 rfl (H.po.ch h1 (by omega)) rfl) <| ja (ld1 (v:=vx2) T35 rfl H.pw rfl) <| ja (mv rfl) <| ja ((slcT U35 S3 (isE rfl hdrop) rfl (by rw[hwn3];exact hbl3)).dv (hcl1)) ?_
    refine ja (call1 (A:=OwA intE 3 N5 G0 cl) (B:=Dv (slE intE) G0 cl) En64 rfl (fun u w he k=>(sclone_spec cl u w k (by omega) hclne).mono fun en w' ⟨u,k1,k2,k3⟩=>⟨u,k1,k2,OwR.low k3 (Nat.le_trans hN5s he.size) fun b hb=>hb.elim⟩)) <| ja (ld1 T3 rfl B8 rfl) <| ja (bsl1 (e:=intE) (G:=G0) U35 I3 rfl (by decide) rfl (fun b hb=>hb.elim) (isI rfl)) <| jx (xappF (G':=G0) U35 I3 rfl rfl rfl (isR rfl) (by simp only[List.length_singleton];omega) (by simp only[List.length_singleton,maxLen];omega) (fun _ _ _ _=>trivial) (fun _ _=>trivial)) ?_
    refine jp (fun w1 h1 HF1=>call1 (A:=E (setV C)) (B:=OwA intE 3 N5 G0 (cl++[(id:Int)])) En63 rfl (fun u w he k=>by rw[hC];exact of_spec (cl++[(id:Int)]) u w (OwR.sl k) (by rw[List.length_append,List.length_singleton];omega))) ?_
    refine jp (fun w1 h1 HF1=>call1 (A:=Dv (slE intE) (GO (fun b=>G1 b∨vx2.ownBlock=some b) vy2) (elL C)) En56 rfl (fun u w he k=>by cases k;exact (elementsO_spec C w ((H.t.ch h1 (by omega)).ext he)).mono fun en w' ⟨z,k1,k2,k3⟩=>⟨z,k1,k2,OwR.slN k3 fun b hb hh=>by have q1:=hgo2 b hh;have q2:=(OwR.lt k3 hb).1;have q3:=h1.size;have q4:=he.size;omega⟩)) ?_
    refine jp (fun w1 h1 HF1=>bsl1 (e:=slE intE) (G:=GO (fun b=>G1 b∨vx2.ownBlock=some b) vy2) U39 I35 rfl (by decide) rfl (fun b hb=>Nat.lt_of_lt_of_le (hgo2 b hb) (Nat.le_trans hN5s h1.size)) (isR rfl)) <| je <| fun a w hc HF hf=>?_
    try dsimp only[push] at hf
    have e':Ext _ w:=⟨hc.os,hc.tape,hc.output,hc.size,fun b hb=>hc.block b hb (by omega)⟩
    replace H:=H.ext e';replace c:=c.ext e';replace B8:=B8.ext e';replace B9:=B9.ext e';replace kh:=kh.tr (Kh.ext e')
    have hcsz:=c.size
    have l8:=B8.lt
    have l9:=B9.lt
    have hksz:=kh.size
    replace hf:=hf.kp [2,3,4,5,6,7,8,9,10,11,70,80]
    refine tl_appX U39 I35 rfl rfl hf (by decide) rfl H.oo (isR rfl) (by simp only[List.length_singleton];omega) (by simp only[List.length_singleton,maxLen];omega) fun a vy3 w' hg hat Hn hf=>?_
    have Bo:=H.po.gro hg (fun h=>by have:=(H.oo.lt h).1;omega)
    replace hf:=hf.kp [2,3,4,5,6,7,8,9,10,11,81]
    refine tl_st1 T39 hf rfl rfl Hn.one Bo Nat.zero_lt_one fun w2 hg2 hsz Bo hf=>?_
    have hvy:∀b,vy2.ownBlock=some b→b≠b8∧b≠b9∧¬Hole Bz b:=fun b hb=>by
     have h1:=(hown b (.inr hb)).2
     exact⟨fun h=>by rw[h] at h1;exact h1 hK8.1,fun h=>by rw[h] at h1;exact h1 hK8.2,fun h=>h1 (hKh b h)⟩
    have hown3:∀b,OWN vx2 vy3 b→(OWN vw vo b∨W.heap.size≤b)∧¬K b:=fun b hb=>by
     rcases hb with hb|hb
     ·exact hown b (.inl hb)
     ·rcases hat with h|h
      ·exact hown b (.inr (by rw[← h];exact hb))
      ·rw[h] at hb;cases hb
       exact⟨.inr hcsz,fun hk=>by have:=hKl _ hk;omega⟩
    replace H:BcW l V bm nm ba bl bw bg bd bo ma ml N G1 { s3 with out:=s3.out++[elL C] } vx2 vy3 w2:=H.setO D hg Hn hg2 Bo hGs1.2.1
    replace c:=(c.tr2 (Chg.row hg) fun b hb=>(hown b (.inr hb)).1.imp (sO b) (fun h=>h)).gr hg2 (.inl so)
    replace B8:=(B8.gro hg (fun h=>(hvy b8 h).1 rfl)).gr hg2 (by omega)
    replace B9:=(B9.gro hg (fun h=>(hvy b9 h).2.1 rfl)).gr hg2 (by omega)
    replace kh:=(kh.tr (Kh.gro hg fun b hb hh=>(hvy b hb).2.2 hh)).tr (Kh.gr hg2 fun hh=>hgo _ hh (.inr (.inl rfl)))
    have hown:=hown3
    generalize w2=w at *
    refine tl_nil ?_
    replace hf:=hf.kp [2,3,4,5,6,7,8,9,10,11]
    obtain⟨bb,cc,hvx,hcc,HC⟩:=H.ow.cut (k:=beh) (by rw[hwn3];exact hbl3) hb1
    replace HC:OwR intE 3 N G0 w (natE (s3.way.take beh)) (.slice (some ⟨bb,0,none⟩) beh cc):=by rw[natE,List.map_take];exact HC
    have hbc:beh≤cc:=by rw[hwn3] at hcc;omega
    refine rgN 3 hf <| st ((ld1 (v:=vx2) T35 rfl H.pw rfl).eq (hvx)) <| st (mv rfl) <| st (slcHiK U35 S3 rfl rfl hbc) <| en fun a w e' hf=>?_
    obtain⟨H,c⟩:=up2 e' H c
    replace kh:=kh.tr (Kh.ext e')
    obtain⟨HC,B8,B9⟩:=up3 e' HC B8 B9
    replace hf:=hf.kp [2,3,4,5,6,7,8,9,10,11,84]
    refine tl_st1 T35 hf rfl rfl rfl H.pw Nat.zero_lt_one fun w2 hg2 hsz Bw hf=>?_
    replace H:BcW l V bm nm ba bl bw bg bd bo ma ml N G1 { s3 with out:=s3.out++[elL C],way:=s3.way.take beh } (.slice (some ⟨bb,0,none⟩) beh cc) vy3 w2:=H.setW D (grow_refl w _) (.inl (by rw[hvx];rfl)) HC hg2 Bw hGs1.1
    replace c:=c.gr hg2 (.inl sw)
    replace B8:=B8.gr hg2 (by omega)
    replace B9:=B9.gr hg2 (by omega)
    replace kh:=kh.tr (Kh.gr hg2 fun hh=>hgo _ hh (.inl rfl))
    refine tl_nil ?_
    simp only[Exit.inBlock]
    replace htgt:tgt={ s3 with out:=s3.out++[elL C],way:=s3.way.take beh }:=by rw[htgt,bcC,hout]
    rw[← htgt] at H
    exact⟨fin _ _ _ ⟨H,c,B8,B9,fun b hb=>hown b (by rw[hvx];exact hb)⟩ hqs,kh⟩
   ·rw[if_neg hcm] at htgt
    refine seq <| rgN 7 hf <| st (ld1 (v:=.map (some ml)) T43 rfl H.pl rfl) <| st (mv rfl) <| st (lkIM U43 rfl H.ml rfl hwx) <| st (ld1 (v:=.map (some ma)) T43 rfl H.pa rfl) <| st (ld1 T3 rfl B8 rfl) <| st (lkIM U43 rfl H.ma rfl hwid) <| st ((geq rfl rfl).eq (congrArg Value.bool (decide_eq_false hcm))) <| en fun a w e' hf=>?_
    obtain⟨H,c⟩:=up2 e' H c
    replace kh:=kh.tr (Kh.ext e')
    obtain⟨B8,B9⟩:=up2 e' B8 B9
    refine tl_nil <| ifc hf rfl (fun h=>by cases h) (fun _=>?_)
    refine wskip ?_
    rw[← htgt] at H
    exact⟨fin _ _ _ ⟨H,c,B8,B9,hown⟩ hqs,kh⟩
  ·intro a' w' hf' hJ hsz hDn
   simp only[Exit.inBlock,↓reduceIte,Exit.then]
   obtain⟨vx,vy,⟨H,c,B8,B9,hown⟩,hq⟩:=hJ
   have hD:Ds [w.heap.size] w':=(Ds.nil w').cons hDn (by simp)
   have hf:FrD 85 (marks [w.heap.size]) a' w' []:=hf'.keep []
   refine ret0M rfl hf hD ⟨rfl,vx,vy,?_,?_,fun b hb=>(hown b hb).1⟩
   ·refine (c.tr2 (chg_shut [w.heap.size] w') fun b hb=>.inr (by rw[List.mem_singleton] at hb;omega)).to fun b _ hb=>by rw[hS0] at hb;exact hb
   ·rw[show bcF (lkS l) (f+1) id frm s=(elems Nb).foldl (bcT (bcF nb f) id frm) s1 by rw[← hnb,bcF,← hNb,← hs1']]
    refine (H.ch D (chg_shut [w.heap.size] w') (fun b hb=>by rw[List.mem_singleton] at hb;omega) (fun b hb hh=>(hown b hb).2 (hKh b (by rw[List.mem_singleton] at hh;rw[hh];exact⟨Nat.le_refl _,by omega⟩))) fun b hb=>hGh b (by rw[List.mem_singleton] at hb;rw[hb];exact⟨Nat.le_refl _,by omega⟩)).weak fun b _ hb=>hGG b hb
end Go.Mono
namespace Go.Mono
open Go Go.Proofs Go.RowKit Go.Gr Go.Shelf Go.Sort
open Go.MonoD (cmpZ cmpI SlC)
theorem cmpI_cases (x y:Int):(x<y∧cmpI x y = -1)∨(y<x∧cmpI x y=1)∨(x=y∧cmpI x y=0):=by
 rw[cmpI]
 by_cases h:x<y
 ·exact .inl ⟨h,if_pos h⟩
 ·rw[if_neg h]
  by_cases h2:y<x
  ·exact .inr (.inl ⟨h2,if_pos h2⟩)
  ·exact .inr (.inr ⟨by omega,if_neg h2⟩)
theorem cmpZ_self:∀xs:List Int,cmpZ xs xs=0
 | []=>rfl
 | x::xs=>by
  have h:cmpI x x=0:=by rcases cmpI_cases x x with h|h|h <;> omega
  rw[cmpZ,if_neg (by rw[h];exact fun h=>h rfl)];exact cmpZ_self xs
theorem cmpZ_eq:∀xs ys:List Int,cmpZ xs ys=0→xs=ys
 | [],[],_=>rfl
 | [],_::_,h=>by cases h
 | _::_,[],h=>by cases h
 | x::xs,y::ys,h=>by
  rw[cmpZ] at h
  rcases cmpI_cases x y with ⟨_,h2⟩|⟨_,h2⟩|⟨h1,h2⟩
  ·rw[h2] at h;cases h
  ·rw[h2] at h;cases h
  ·rw[if_neg (by rw[h2];exact fun h=>h rfl)] at h
   rw[h1,cmpZ_eq xs ys h]
theorem cmpZ_neg:∀xs ys:List Int,cmpZ ys xs = -cmpZ xs ys
 | [],[]=>rfl
 | [],_::_=>rfl
 | _::_,[]=>rfl
 | x::xs,y::ys=>by
  rw[cmpZ,cmpZ]
  rcases cmpI_cases x y with ⟨h1,h2⟩|⟨h1,h2⟩|⟨h1,h2⟩ <;> rcases cmpI_cases y x with ⟨h3,h4⟩|⟨h3,h4⟩|⟨h3,h4⟩ <;> first|omega|(rw[h2,h4];rfl)|skip
  rw[if_neg (by rw[h4];exact fun h=>h rfl),if_neg (by rw[h2];exact fun h=>h rfl)]
  exact cmpZ_neg xs ys
theorem cmpZ_trans:∀xs ys zs:List Int,cmpZ xs ys<0→cmpZ ys zs≤0→cmpZ xs zs<0
 | [],[],zs,h,_=>absurd h (show ¬(0:Int)<0 by decide)
 | [],_::_,[],_,h=>absurd h (show ¬(1:Int)≤0 by decide)
 | [],_::_,_::_,_,_=>(show (-1:Int)<0 by decide)
 | _::_,[],_,h,_=>absurd h (show ¬(1:Int)<0 by decide)
 | x::xs,y::ys,[],_,h=>absurd h (show ¬(1:Int)≤0 by decide)
 | x::xs,y::ys,z::zs,h,h'=>by
  rw[cmpZ] at h h' ⊢
  rcases cmpI_cases x y with ⟨a1,a2⟩|⟨a1,a2⟩|⟨a1,a2⟩ <;> rcases cmpI_cases y z with ⟨b1,b2⟩|⟨b1,b2⟩|⟨b1,b2⟩ <;> rcases cmpI_cases x z with ⟨c1,c2⟩|⟨c1,c2⟩|⟨c1,c2⟩ <;> first
   | omega
   | (rw[a2] at h;exact absurd h (by decide))
   | (rw[b2] at h';exact absurd h' (by decide))
   | (rw[c2];decide)
   | (rw[if_neg (by rw[a2];exact fun h=>h rfl)] at h;rw[if_neg (by rw[b2];exact fun h=>h rfl)] at h';rw[if_neg (by rw[c2];exact fun h=>h rfl)];exact cmpZ_trans xs ys zs h h')
def lxs (out:List (List Int))(i:Nat):List Int:=(out[i]?).getD []
def lcf (out:List (List Int))(i j:Nat):Int:=cmpZ (lxs out i) (lxs out j)
theorem swoL (out:List (List Int)):SWO (ltOf (lcf out)):=by
 refine⟨fun x=>?_,fun x y z h1 h2=>?_,fun x y z h1 h2=>?_⟩
 ·exact decide_eq_false (by rw[lcf,cmpZ_self];decide)
 ·exact decide_eq_true (cmpZ_trans _ _ _ (of_decide_eq_true h1) (by have:=of_decide_eq_true h2;rw[lcf] at this;omega))
 ·refine decide_eq_false fun h=>?_
  have h1':=of_decide_eq_false h1
  have h2':=of_decide_eq_false h2
  rw[lcf] at h h1' h2'
  have n2:=cmpZ_neg (lxs out y) (lxs out z)
  by_cases hz:cmpZ (lxs out y) (lxs out z)=0
  ·have:=cmpZ_eq _ _ hz
   rw[← this] at h;exact h1' h
  ·have:=cmpZ_trans (lxs out x) (lxs out z) (lxs out y) h (by omega)
   exact h1' this
theorem cells_each {G:Nat→Prop}{w:World}:∀(out:List (List Int)) (cs:List Value),Cells (slE intE) G w out cs→cs.length=out.length∧∀i (h:i<out.length),∃v,cs[i]?=some v∧(Dv (slE intE) G (lxs out i)).p v w
 | [],cs,h=>by cases h;exact⟨rfl,fun i h=>absurd h (Nat.not_lt_zero _)⟩
 | xs::out,cs,h=>by
  obtain⟨c,d,rfl,⟨v,rfl,h1⟩,h2⟩:=h
  obtain⟨q1,q2⟩:=cells_each out d h2
  refine⟨by simp[q1],fun i hi=>?_⟩
  cases i with
  | zero=>exact⟨v,rfl,[v],⟨v,rfl,h1⟩,rfl⟩
  | succ i=>
   obtain⟨u,k1,k2⟩:=q2 i (by simpa using hi)
   exact⟨u,by simpa using k1,k2⟩
theorem cells_mk {G:Nat→Prop}{w:World}:∀(out:List (List Int)) (vs:List Value),vs.length=out.length→(∀i (h:i<out.length),∃v,vs[i]?=some v∧(Dv (slE intE) G (lxs out i)).p v w)→Cells (slE intE) G w out vs
 | [],vs,h,_=>List.length_eq_zero_iff.1 h
 | xs::out,[],h,_=>by cases h
 | xs::out,v::vs,h,hh=>by
  obtain⟨u,k1,cs,⟨z,k2,k3⟩,k4⟩:=hh 0 (by simp)
  obtain rfl:v=u:=by simpa using k1
  subst k2
  have k4':v=z:=k4
  subst k4'
  refine⟨[v],vs,rfl,⟨v,rfl,k3⟩,cells_mk out vs (by simpa using h) fun i hi=>?_⟩
  obtain⟨u,m1,m2⟩:=hh (i+1) (by simpa using hi)
  exact⟨u,by simpa using m1,m2⟩
theorem sortL_spec {N:Nat}{G:Nat→Prop}{w:World}{out:List (List Int)}{v:Value}(Ho:OwX (slE intE) 35 N G w out v)(hl:out.length≤100000)(hle:∀xs∈out,xs.length≤100000) :
  Calls Tryz.prog 66 #[v,.func (.func 67) #[] #[]] w fun en w'=>en=.returned (.tuple #[])∧Chg (fun b=>v.ownBlock=some b) w w'∧∃out',out'.Perm out∧out'.Pairwise (fun x y=>¬cmpZ y x<0)∧∀G':Nat→Prop,(∀b,G' b→G b)→(∀b,v.ownBlock=some b→¬G' b)→(Dv (slE (slE intE)) G' out').p v w':=by
 obtain⟨cs,⟨hlen,hv⟩,hcs⟩:=Ho.own
 rcases hv with ⟨rfl,hn⟩|⟨g0,cap,cur,rfl,hB,hheap,hcap,hmax,hcur,htake⟩
 ·have hx:out=[]:=List.length_eq_zero_iff.1 hn
  subst hx
  exact (AnyF.slices_SortFunc_none (L:={ Tryz.sortI with }) none 0 _ w).mono fun en w' ⟨h2,h3⟩=>by
   subst h3
   exact⟨h2,Chg.rfl' _ _,[],List.Perm.refl _,List.Pairwise.nil,fun _ _ _=>Dv.nil⟩
 ·have hk1:(slE intE).k=1:=rfl
  rw[hk1,Nat.mul_one] at hcur htake
  obtain⟨c1,c2⟩:=cells_each out cs hcs
  obtain⟨enc,henc⟩:∃enc:Nat→Value,enc=fun i=>(cs[i]?).getD (.slice none 0 0):=⟨_,rfl⟩
  have hdat:∀i,(Dv (slE intE) (GO G (.slice (some ⟨g0,0,none⟩) out.length cap)) (lxs out i)).p (enc i) w:=fun i=>by
   by_cases hi:i<out.length
   ·obtain⟨u,k1,k2⟩:=c2 i hi
    rw[henc]
    show (Dv _ _ _).p ((cs[i]?).getD _) w
    rw[k1];exact k2
   ·rw[henc,lxs,List.getElem?_eq_none (by omega)]
    show (Dv _ _ _).p ((cs[i]?).getD _) w
    rw[List.getElem?_eq_none (by omega)];exact Dv.nil
  have hlx:∀i,(lxs out i).length≤100000:=fun i=>by
   rw[lxs]
   cases h:out[i]? with
   | none=>exact Nat.zero_le _
   | some xs=>exact hle xs (List.mem_of_getElem? h)
  have h1:OneCell enc:=fun i=>Dv.slOne (hdat i)
  obtain⟨d,hd⟩:∃d:Array Nat,d=Array.range out.length:=⟨_,rfl⟩
  have hds:d.size=out.length:=by rw[hd];simp
  have hdj:∀j,j<out.length→d[j]! = j:=fun j hj=>by rw[hd,getElem!_pos _ j (by simpa using hj)];simp
  have hB1:Blk w g0 cur 35:=hheap
  have hH:Holds enc w g0 0 d:=by
   intro j hj
   rw[hds] at hj
   obtain⟨u,k1,k2⟩:=c2 j hj
   have hcj:cur[j]?=some (enc j):=by
    have:(cur.toList.take out.length)[j]?=cs[j]?:=by rw[htake]
    rw[List.getElem?_take,if_pos hj,Array.getElem?_toList,k1] at this
    rw[this,henc]
    show some u=some ((cs[j]?).getD _)
    rw[k1];rfl
   refine⟨by rw[Nat.zero_add,hB1.cell,hcj,hdj j hj],by simp[World.frozen?,hheap]⟩
  have hblk:g0<w.heap.size:=hB1.lt
  have hchg:∀(m:Nat) (dk:Array Nat) (os:Array Obj),Chg (fun b=>b=g0) w (sortWorld enc w g0 0 m dk os):=fun m dk os=>by
   refine⟨rfl,rfl,rfl,?_,fun b hb hne=>?_⟩
   ·unfold sortWorld grow putRow mapBlock
    simp[Sort.ahead]
   ·unfold sortWorld grow putRow mapBlock
    simp only
    rw[Array.getElem?_append_left (by simpa[Sort.ahead] using hb),Array.getElem?_modify,if_neg (fun h=>hne h.symm)]
    rfl
  have hdat2:∀i w',Chg (fun b=>b=g0) w w'→(Dv (slE intE) (GO G (.slice (some ⟨g0,0,none⟩) out.length cap)) (lxs out i)).p (enc i) w':=fun i w' c=>Dv.ch (hdat i) c fun b hb=>by rw[hb];exact .inr rfl
  have hcmp:CmpLays1 Tryz.prog 67 #[] enc (lcf out) g0 0 d.size w:=fun m os dk hdk x y=>by
   have c:=hchg m dk os
   refine (MonoD.cmpZ_spec (lxs out x) (lxs out y) (enc x) (enc y) _ (MonoD.slC_of (hdat2 x _ c)) (MonoD.slC_of (hdat2 y _ c)) (hlx x)).mono ?_
   rintro en w' ⟨u,k1,k2,k3⟩
   cases k3
   exact⟨k1,k2.grown⟩
  have hsz2:d.size<4611686018427387904:=by rw[hds];omega
  have hS:=Any.slices_SortFunc Tryz.sortI enc h1 (lcf out) (swoL out) 67 #[] g0 0 cap d w En67 hcmp hH hblk hsz2
  rw[hds] at hS
  refine hS.mono ?_
  rintro en w' ⟨h2,d',n,os,hp,hs,rfl⟩
  have hds':d'.size=out.length:=by rw[← hds];exact hp.1
  have hperm:d'.toList.Perm (List.range out.length):=by
   have:=hp.2.2
   rw[Array.extract_eq_self_of_le (by rw[hds'];exact Nat.le_refl _),Array.extract_eq_self_of_le (by rw[hds];exact Nat.le_refl _)] at this
   rw[hd] at this
   simpa using this
  have c:=hchg n d' os
  refine⟨h2,c.to fun b _ hb=>by rw[hb];rfl,d'.toList.map (lxs out),?_,?_,?_⟩
  ·refine (hperm.map (lxs out)).trans <| List.Perm.of_eq (List.ext_getElem? fun i=>?_)
   rw[List.getElem?_map]
   by_cases hi:i<out.length
   ·rw[List.getElem?_range hi,Option.map_some,lxs,List.getElem?_eq_getElem hi];rfl
   ·rw[List.getElem?_eq_none (by simpa using hi),List.getElem?_eq_none (by omega)];rfl
  ·rw[List.pairwise_map,List.pairwise_iff_getElem]
   intro i j hi hj hij
   simp only[Array.length_toList] at hi hj
   have:=hs i j (Nat.zero_le _) hij (by rw[← hds'];exact hj)
   rw[getElem!_pos d' j hj,getElem!_pos d' i hi] at this
   have h3:=of_decide_eq_false this
   simpa[lcf] using h3
  ·intro G' hG1 hG2
   have hh:(sortWorld enc w g0 0 n d' os).heap[g0]?=some (.cells (putCells enc 0 d' cur) 35 (0,0)):=by
    unfold sortWorld grow putRow mapBlock
    simp only
    rw[Array.getElem?_append_left (by simpa[Sort.ahead] using hblk),Array.getElem?_modify,if_pos rfl]
    have:(Sort.ahead w n).heap[g0]?=some (Obj.cells cur 35 (0,0)):=hheap
    rw[this];rfl
   have hlm:(d'.toList.map (lxs out)).length=out.length:=by rw[List.length_map,Array.length_toList,hds']
   refine Dv.sl.2 (.inr ⟨⟨g0,0,none⟩,cap,d'.toList.map enc,by rw[hlm],by rw[hlm];exact hcap,hG2 g0 rfl,Nat.lt_of_lt_of_le hblk c.size,?_,?_⟩)
   ·refine cells_mk _ _ (by simp) fun i hi=>?_
    rw[hlm] at hi
    have hid:i<d'.size:=by rw[hds'];exact hi
    refine⟨enc d'[i],by rw[List.getElem?_map,Array.getElem?_toList,Array.getElem?_eq_getElem hid];rfl,?_⟩
    have:lxs (d'.toList.map (lxs out)) i=lxs out d'[i]:=by
     rw[lxs,List.getElem?_map,Array.getElem?_toList,Array.getElem?_eq_getElem hid];rfl
    rw[this]
    exact Dv.weak (hdat2 _ _ c) fun b _ hb=>.inl (hG1 b hb)
   ·intro i u hu
    have hB2:Blk (sortWorld enc w g0 0 n d' os) g0 (putCells enc 0 d' cur) 35:=hh
    rw[Addr.add_lit,Nat.zero_add,hB2.cell]
    rw[List.getElem?_map,Array.getElem?_toList] at hu
    have hid:i<d'.size:=by
     refine Classical.byContradiction fun hn=>?_
     rw[Array.getElem?_eq_none (by omega)] at hu;cases hu
    rw[Array.getElem?_eq_getElem hid] at hu
    have hic:i<cur.size:=by rw[hcur];omega
    rw[putCells,Array.getElem?_mapIdx,Array.getElem?_eq_getElem hic,Option.map_some,if_pos ⟨Nat.zero_le _,by omega⟩,Nat.sub_zero,getElem!_pos d' i hid]
    exact hu
end Go.Mono
namespace Go.Mono
open Go Go.Proofs Go.RowKit Go.Gr
open Go.MonoD (cmpZ)
def insZ (x:List Int):List (List Int)→List (List Int)
 | []=>[x]
 | y::l=>if cmpZ x y≤0 then x::y::l else y::insZ x l
def srtZ (l:List (List Int)):List (List Int):=l.foldr insZ []
theorem insZ_perm (x:List Int):∀l,(insZ x l).Perm (x::l)
 | []=>List.Perm.refl _
 | y::l=>by
  rw[insZ];split
  ·exact List.Perm.refl _
  ·exact ((insZ_perm x l).cons y).trans (List.Perm.swap x y l)
theorem srtZ_perm:∀l,(srtZ l).Perm l
 | []=>List.Perm.refl _
 | x::l=>(insZ_perm x _).trans ((srtZ_perm l).cons x)
theorem cmpZ_tr {x y z:List Int}(h:¬cmpZ y x<0)(h':¬cmpZ z y<0):¬cmpZ z x<0:=fun hh=>by
 have n1:=cmpZ_neg x y
 by_cases hz:cmpZ x y=0
 ·have:=cmpZ_eq _ _ hz
  rw[this] at hh;exact h' hh
 ·exact h' (cmpZ_trans z x y hh (by omega))
theorem insZ_sorted (x:List Int):∀l,l.Pairwise (fun x y=>¬cmpZ y x<0)→(insZ x l).Pairwise (fun x y=>¬cmpZ y x<0)
 | [],_=>List.pairwise_singleton _ _
 | y::l,h=>by
  obtain⟨h1,h2⟩:=List.pairwise_cons.1 h
  have n1:=cmpZ_neg x y
  rw[insZ];split
  ·rename_i hc
   refine List.pairwise_cons.2 ⟨fun z hz=>?_,h⟩
   rcases List.mem_cons.1 hz with rfl|hz
   ·omega
   ·exact cmpZ_tr (by omega) (h1 z hz)
  ·rename_i hc
   refine List.pairwise_cons.2 ⟨fun z hz=>?_,insZ_sorted x l h2⟩
   rcases List.mem_cons.1 ((insZ_perm x l).mem_iff.1 hz) with rfl|hz
   ·omega
   ·exact h1 z hz
theorem srtZ_sorted:∀l,(srtZ l).Pairwise (fun x y=>¬cmpZ y x<0)
 | []=>List.Pairwise.nil
 | x::l=>insZ_sorted x _ (srtZ_sorted l)
theorem srtZ_of {l m:List (List Int)}(hp:m.Perm l)(hs:m.Pairwise fun x y=>¬cmpZ y x<0):m=srtZ l:=by
 refine List.Perm.eq_of_pairwise (le:=fun x y=>¬cmpZ y x<0) (fun a b _ _ h1 h2=>?_) hs (srtZ_sorted l) (hp.trans (srtZ_perm l).symm)
 have n1:=cmpZ_neg a b
 exact cmpZ_eq _ _ (by omega)
theorem makeF6 {P:Program}{w0:World}{L:Env}{dst:Option Tmp}{ty:TypeId}{pos:String}{aft:Array Edge}{g:Option (Nat×Bool)}{fn:Fn}{x1 x2 x3 x4 x5 x6:Operand}{v1 v2 v3 v4 v5 v6:Value}(h1:opd L x1=some (E v1))(h2:opd L x2=some (E v2))(h3:opd L x3=some (E v3))(h4:opd L x4=some (E v4))(h5:opd L x5=some (E v5))(h6:opd L x6=some (E v6)) :
  OpC P w0 L ⟨dst,.makeFunc fn #[] #[x1,x2,x3,x4,x5,x6],ty,pos,aft,g⟩ (E (.func fn #[] #[v1,v2,v3,v4,v5,v6])):=
 opc_pure fun ρ w _ hv=>⟨_,by
  have a1:=opE hv (x:=x1) (by simp[Op.operands]) h1
  have a2:=opE hv (x:=x2) (by simp[Op.operands]) h2
  have a3:=opE hv (x:=x3) (by simp[Op.operands]) h3
  have a4:=opE hv (x:=x4) (by simp[Op.operands]) h4
  have a5:=opE hv (x:=x5) (by simp[Op.operands]) h5
  have a6:=opE hv (x:=x6) (by simp[Op.operands]) h6
  simp[execOp,Instr.makeFunc,a1,a2,a3,a4,a5,a6],rfl⟩
def bcV1 (nb:Int→BS)(f:Nat)(s:BcS)(id:Nat):BcS:=if lkI s.la (id:Int)=0 then bcF nb f id (-1) s else s
def bcV2 (nb:Int→BS)(s:BcS)(id:Nat):BcS:=if nb (id:Int)=0 then { s with out:=s.out++[[(id:Int)]] } else s
def bcN (nb:Int→BS)(f:Nat)(s:BcS)(id:Nat):BcS:=bcV2 nb (bcV1 nb f s id) id
def bccF (nb:Int→BS)(V:BS):List (List Int):=srtZ ((elems V).foldl (bcN nb (card V)) ⟨[],[],[],[]⟩).out
theorem BcI.mono {V:BS}{c c':Nat}{s:BcS}(h:BcI V c s)(hc:c≤c'):BcI V c' s:=⟨h.ka,h.va,h.na,h.kl,h.vl,h.nl,h.w,h.wm,by have:=h.o;omega⟩
theorem bcV1_ok {V:BS}{c:Nat}{s:BcS}{nb:Int→BS}{id:Nat}(hV:∀i j:Nat,(nb (i:Int)).getLsbD j=true→V.getLsbD j=true)(h:BcI V c s)(hid:V.getLsbD id=true):BcI V c (bcV1 nb (card V) s id):=by
 rw[bcV1];split
 ·rename_i hz
  exact (bc_ok hV (card V) id (-1) s h hid (by omega) (by rw[unv,← card_elems];exact List.length_filter_le _ _)).i
 ·exact h
theorem bcV2_ok {V:BS}{c:Nat}{s:BcS}{nb:Int→BS}{id:Nat}(h:BcI V c s):BcI V (c+1) (bcV2 nb s id):=by
 rw[bcV2];split
 ·exact⟨h.ka,h.va,h.na,h.kl,h.vl,h.nl,h.w,h.wm,by
   show (s.out++[_]).length≤s.la.length+(c+1)
   rw[List.length_append,List.length_singleton];have:=h.o;omega⟩
 ·exact h.mono (Nat.le_succ c)
def OL (s:BcS):Prop:=∀xs∈s.out,xs.length≤1024
theorem ol_app {s:List (List Int)}{x:List Int}(h:∀xs∈s,xs.length≤1024)(hx:x.length≤1024):∀xs∈s++[x],xs.length≤1024:=fun xs hm=>by
 rcases List.mem_append.1 hm with hm|hm
 ·exact h xs hm
 ·rw[List.mem_singleton.1 hm];exact hx
theorem bcF_ol (nb:Int→BS):∀(f id:Nat) (frm:Int) (s:BcS),OL s→OL (bcF nb f id frm s):=by
 intro f
 induction f with
 | zero=>intro id frm s h;exact h
 | succ f ih=>
  intro id frm s h
  have key:∀(l:List Nat) (s':BcS),OL s'→OL (l.foldl (bcT (bcF nb f) id frm) s'):=by
   intro l
   induction l with
   | nil=>intro s' h';exact h'
   | cons x l ihl=>
    intro s' h'
    refine ihl _ ?_
    have h2:OL (bcM id x (bcF nb f x (id:Int) s')):=ih x (id:Int) s' h'
    rw[bcT]
    split
    ·exact h'
    split
    ·exact h'
    split
    ·exact ol_app h2 (elL_len _)
    ·exact h2
  exact key _ (bcP id s) h
theorem bcN_ol (nb:Int→BS)(f:Nat):∀(l:List Nat) (s:BcS),OL s→OL (l.foldl (bcN nb f) s):=by
 intro l
 induction l with
 | nil=>intro s h;exact h
 | cons x l ihl=>
  intro s h
  refine ihl _ ?_
  have h2:OL (bcV1 nb f s x):=by
   rw[bcV1];split
   ·exact bcF_ol nb f x (-1) s h
   ·exact h
  rw[bcN,bcV2];split
  ·exact ol_app h2 (Nat.succ_le_of_lt (Nat.zero_lt_succ _))
  ·exact h2
structure BcO (l:List (Int×BS))(V:BS)(bm nm ba bl bw bg bd bo ma ml N:Nat)(G K:Nat→Prop)(W:World)(s:BcS)(vw vo:Value)(w:World):Prop where
 h:BcW l V bm nm ba bl bw bg bd bo ma ml N G s vw vo w
 e:Ext W w
 own:∀b,OWN vw vo b→¬K b
theorem bcc_spec {G:Nat→Prop}{N0:Nat}(g:GT)(ok:Gr.Ok g)(v:Value)(W:World)(hT:Tab W)(h:(Dv (ptE (grE N0)) G (some g)).p v W)(hl1:g.1.length≤100000)(hl2:g.2.length≤100000)(hN0:N0≤1000000) :
  Calls Tryz.prog 19 #[v] W (Post (Dv (slE (slE intE)) Go.Mono.G0 (bccF (nbA g) (vset g.1))) W):=by
 have hgd:(Dv (ptE (grE N0)) Go.Mono.G0 (some g)).p v W:=Dv.weak h fun b _ hb=>hb.elim
 have hnV:=nb_in ok
 obtain⟨l,hl⟩:∃l,l=nbL g (elems (vset g.1)):=⟨_,rfl⟩
 have hnb:nbA g=lkS l:=by rw[hl,nbA]
 rw[hnb] at hnV ⊢
 obtain⟨V,hV⟩:∃V,V=vset g.1:=⟨_,rfl⟩
 rw[← hV] at hnV ⊢
 have hT0:=hT.lt
 refine enterM (args:=[v]) (As:=[E v]) Tryz.func19 rfl Tryz.ntmps19 (Nat.le_of_ble_eq_true rfl) ?_ (fun a hf=>?_) (Nat.le_of_ble_eq_true rfl)
 ·exact arg1 rfl
 dsimp only[params,Nat.reduceAdd] at hf
 have e:=Ext.rfl' W
 refine seq <| regn0 <| tl_as hf rfl (by decide) fun a hf=>tl_nil ?_
 have e0:=e
 refine seq <| regn 2 hf (by decide +kernel) <| st (mv rfl) <| st (call1 (A:=AdjA l V 1024) En46 rfl (fun v w he k=>by cases k;rw[hl,hV];exact ofA_spec g ok _ w (hT.ext he) (VA.st _ _ _ _ (Ext.tr e0 he) hgd) hl1 hl2 hN0)) ?_
 refine en fun a w e' hf=>?_
 replace hT:=hT.ext e'
 replace e:=e.tr e'
 obtain⟨av,⟨mq,rfl,HV0⟩,hf⟩:=hf.opn 11 rfl
 obtain⟨cs,⟨bm,nm,rfl,_,hnm,HM⟩,hmq⟩:=HV0
 replace hmq:mq=.map (some bm):=hmq
 subst hmq
 obtain⟨N1,hN1⟩:∃N1,N1=w.heap.size:=⟨_,rfl⟩
 have hN1s:N1≤w.heap.size:=Nat.le_of_eq hN1
 have hbm:bm<N1:=by rw[hN1];exact HM.lt
 have hWN1:W.heap.size≤N1:=by rw[hN1];exact e.size
 replace hf:=hf.kp [11]
 refine tl_alloc I79 hf (by decide) fun a b3 w e' hb3 hs3 B3 hf=>?_
 have hle3:=Nat.le_trans e.size (Nat.le_of_eq hb3.symm)
 have lo3_hN1s:=Nat.le_trans hN1s (Nat.le_of_eq hb3.symm)
 replace hT:=hT.ext e'
 replace HM:=HM.ext e'
 replace hN1s:=Nat.le_trans hN1s e'.size
 replace e:=e.tr e'
 have n3:N1≤b3:=lo3_hN1s
 refine tl_stW T79 hf rfl rfl (adC_one _ _) B3 rfl (adC_size _ _) fun w hg hsz B3 hf=>?_
 replace e:=e.gr hg (by omega);replace hT:=hT.gr hg (by omega);replace HM:=HM.gr hg (fun h=>by cases h;omega);replace hN1s:=Nat.le_trans hN1s hg.size;clear hg
 refine tl_nil ?_
 have l3:=B3.lt
 replace hf:=hf.kp [3]
 refine seq <| regn0 <| tl_alloc I39 hf (by decide) fun a b4 w e' hb4 hs4 B4 hf=>?_
 have hle4:=Nat.le_trans e.size (Nat.le_of_eq hb4.symm)
 have lt4_B3:=B3.lt
 replace hT:=hT.ext e'
 replace HM:=HM.ext e'
 replace e:=e.tr e'
 replace B3:=B3.ext e'
 refine tl_nil ?_
 replace B4:Blk w b4 #[.slice none 0 0] 39:=B4
 have n4:b3<b4:=by omega
 have l4:=B4.lt
 replace hf:=hf.kp [3,4]
 refine seq <| regn0 <| tl_mkV iKV hf (by decide) fun a ma w e' hma hsa MA hf=>?_
 replace e:=e.tr e';replace hT:=hT.ext e';replace HM:=HM.ext e';replace B3:=B3.ext e';replace B4:=B4.ext e';clear e'
 have n5:b4<ma:=by omega
 refine tl_mkV iKV hf (by decide) fun a ml w e' hml hsl ML hf=>?_
 replace e:=e.tr e';replace hT:=hT.ext e';replace HM:=HM.ext e';replace B3:=B3.ext e';replace B4:=B4.ext e';replace MA:=MA.ext e';clear e'
 have n6:ma<ml:=by omega
 have lml:=ML.lt
 obtain⟨N2,hN2⟩:∃N2,N2=w.heap.size:=⟨_,rfl⟩
 have hN2s:N2≤w.heap.size:=Nat.le_of_eq hN2
 have hml2:ml<N2:=by omega
 refine tl_alloc I43 hf (by decide) fun a b5 w e' hb5 hs5 B5 hf=>?_
 have hle5:=Nat.le_trans e.size (Nat.le_of_eq hb5.symm)
 have lo5_hN2s:=Nat.le_trans hN2s (Nat.le_of_eq hb5.symm)
 replace hT:=hT.ext e'
 replace HM:=HM.ext e'
 replace MA:=MA.ext e'
 replace ML:=ML.ext e'
 replace hN2s:=Nat.le_trans hN2s e'.size
 replace e:=e.tr e'
 replace B3:=B3.ext e'
 replace B4:=B4.ext e'
 refine tl_alloc I43 hf (by decide) fun a b6 w e' hb6 hs6 B6 hf=>?_
 have lo6_hN2s:=Nat.le_trans hN2s (Nat.le_of_eq hb6.symm)
 have lt6_B3:=B3.lt
 have lt6_B4:=B4.lt
 replace hT:=hT.ext e'
 replace HM:=HM.ext e'
 replace MA:=MA.ext e'
 replace ML:=ML.ext e'
 replace hN2s:=Nat.le_trans hN2s e'.size
 replace e:=e.tr e'
 replace B3:=B3.ext e'
 replace B4:=B4.ext e'
 replace B5:=B5.ext e'
 have n7:N2≤b5:=lo5_hN2s
 have n8:N2≤b6∧b5<b6:=⟨lo6_hN2s,by omega⟩
 replace hf:=hf.kp [3,4,5,6,12,13]
 refine tl_st1 T43 hf rfl rfl rfl B5 Nat.zero_lt_one fun w hg hsz B5 hf=>?_
 replace e:=e.gr hg (by omega);replace hT:=hT.gr hg (by omega);replace HM:=HM.gr hg (fun h=>by cases h;omega);replace MA:=MA.gr hg (fun h=>by cases h;omega);replace ML:=ML.gr hg (fun h=>by cases h;omega);replace B3:=B3.gr hg (by omega);replace B4:=B4.gr hg (by omega);replace B6:=B6.gr hg (by omega);clear hg
 refine tl_st1 T43 hf rfl rfl rfl B6 Nat.zero_lt_one fun w hg hsz B6 hf=>?_
 replace e:=e.gr hg (by omega);replace hT:=hT.gr hg (by omega);replace HM:=HM.gr hg (fun h=>by cases h;omega);replace MA:=MA.gr hg (fun h=>by cases h;omega);replace ML:=ML.gr hg (fun h=>by cases h;omega);replace B3:=B3.gr hg (by omega);replace B4:=B4.gr hg (by omega);replace B5:=B5.gr hg (by omega);clear hg
 refine tl_nil ?_
 replace B5:Blk w b5 #[.map (some ma)] 43:=B5
 replace B6:Blk w b6 #[.map (some ml)] 43:=B6
 have l6:=B6.lt
 replace hf:=hf.keep [3,4,5,6]
 refine seq <| regn0 <| tl_alloc I35 hf (by decide) fun a b7 w e' hb7 hs7 B7 hf=>?_
 replace hT:=hT.ext e'
 replace HM:=HM.ext e'
 replace MA:=MA.ext e'
 replace ML:=ML.ext e'
 replace e:=e.tr e'
 replace B3:=B3.ext e'
 replace B4:=B4.ext e'
 replace B5:=B5.ext e'
 replace B6:=B6.ext e'
 refine tl_nil ?_
 replace B7:Blk w b7 #[.slice none 0 0] 35:=B7
 have n9:b6<b7:=by omega
 have l7:=B7.lt
 replace hf:=hf.keep [3,4,5,6,7]
 refine seq <| regn0 <| tl_alloc I95 hf (by decide) fun a b8 w e' hb8 hs8 B8 hf=>?_
 replace hT:=hT.ext e'
 replace HM:=HM.ext e'
 replace MA:=MA.ext e'
 replace ML:=ML.ext e'
 replace e:=e.tr e'
 replace B3:=B3.ext e'
 replace B4:=B4.ext e'
 replace B5:=B5.ext e'
 replace B6:=B6.ext e'
 replace B7:=B7.ext e'
 refine tl_nil ?_
 have n10:b7<b8:=by omega
 replace hf:=hf.kp [3,4,5,6,7,8]
 refine seq <| regn 1 hf (by decide +kernel) <| st (makeF6 rfl rfl rfl rfl rfl rfl) <| en fun a w e' hf=>?_
 replace hT:=hT.ext e'
 replace HM:=HM.ext e'
 replace MA:=MA.ext e'
 replace ML:=ML.ext e'
 replace e:=e.tr e'
 replace B3:=B3.ext e'
 replace B4:=B4.ext e'
 replace B5:=B5.ext e'
 replace B6:=B6.ext e'
 replace B7:=B7.ext e'
 replace B8:=B8.ext e'
 refine tl_st1 T95 hf rfl rfl rfl B8 Nat.zero_lt_one fun w hg hsz B8 hf=>?_
 replace e:=e.gr hg (by omega);replace hT:=hT.gr hg (by omega);replace HM:=HM.gr hg (fun h=>by cases h;omega);replace MA:=MA.gr hg (fun h=>by cases h;omega);replace ML:=ML.gr hg (fun h=>by cases h;omega);replace B3:=B3.gr hg (by omega);replace B4:=B4.gr hg (by omega);replace B5:=B5.gr hg (by omega);replace B6:=B6.gr hg (by omega);replace B7:=B7.gr hg (by omega);clear hg
 refine tl_nil ?_
 replace B8:Blk w b8 #[bcV b5 b6 b7 b3 b8 b4] 95:=B8
 have l8:=B8.lt
 obtain⟨N,hN⟩:∃N,N=w.heap.size:=⟨_,rfl⟩
 have D:BcD bm b5 b6 b7 b3 b8 b4 ma ml N:=⟨by omega,by omega,by omega,by omega,by omega⟩
 have hWb:W.heap.size≤b3:=by omega
 have H:BcW l V bm nm b5 b6 b7 b3 b8 b4 ma ml N (fun b=>b=b7∨b=b4∨b=ma∨b=ml) ⟨[],[],[],[]⟩ (.slice none 0 0) (.slice none 0 0) w:=
  ⟨hT,HM,B5,B6,B7,B3,B8,B4,MA,ML,OwR.nil intE _ (Nat.le_of_eq hN) fun b hb=>hb.elim,OwX.nil _ _ (Nat.le_of_eq hN)⟩
 have hI0:BcI V 0 ⟨[],[],[],[]⟩:=⟨(fun p hp=>by cases hp),(fun p hp=>by cases hp),List.Pairwise.nil,(fun p hp=>by cases hp),(fun p hp=>by cases hp),List.Pairwise.nil,Nat.le_refl _,(fun p hp=>by cases hp),Nat.le_refl _⟩
 replace hf:=hf.kp [3,4,5,6,7,8]
 obtain⟨Nz,hNz⟩:∃Nz,Nz=w.heap.size:=⟨_,rfl⟩
 repeat refine seq ?_
 refine regn 3 hf (by decide +kernel) <| st (fldA Tryz.underlying79 rfl T76 (by decide) rfl) <| st ((ldP T76 rfl H.pg (by rw[adC_size];decide)).eq (congrArg Value.agg (adC_set V (.map (some bm))))) ?_
 refine st (call1 (A:=SeqA Nz V) En62 rfl (fun v w' he h=>by cases h;exact Calls.mono (all_spec _ w') (fun en w2 ⟨u,h1,h2,b',h3,h4,h5⟩=>⟨u,h1,h2,b',by have:=he.size;omega,h4,h5⟩))) ?_
 refine en fun a w e' hf=>?_
 replace H:=H.ext e'
 replace e:=e.tr e'
 refine tl_nil ?_
 obtain⟨vv,⟨b17,h17,rfl,BS⟩,hf⟩:=hf.fix 17 rfl
 replace hf:=hf.kp [3,4,5,6,7,8,17]
 have hBW:W.heap.size≤w.heap.size:=e.size
 have hNB:N≤w.heap.size:=H.ow.base
 obtain⟨G,hG⟩:∃G:Nat→Prop,G=fun b=>(b=b7∨b=b4∨b=ma∨b=ml)∨Hole w.heap.size b:=⟨_,rfl⟩
 have hGs:G b7∧G b4∧G ma∧G ml:=by rw[hG];exact⟨.inl (.inl rfl),.inl (.inr (.inl rfl)),.inl (.inr (.inr (.inl rfl))),.inl (.inr (.inr (.inr rfl)))⟩
 have hGh:∀b,Hole w.heap.size b→G b:=fun b hb=>by rw[hG];exact .inr hb
 have hGl:∀b,G b→b<w.heap.size+3:=fun b hb=>by
  rw[hG] at hb
  rcases hb with hb|hb
  ·omega
  ·exact hb.2
 have hO0:BcO l V bm nm b5 b6 b7 b3 b8 b4 ma ml N G (Hole w.heap.size) W ⟨[],[],[],[]⟩ (.slice none 0 0) (.slice none 0 0) w:=⟨H.weak fun b hb hh=>by
   rw[hG] at hh
   rcases hh with hh|hh
   ·exact hh
   ·have:=hh.1;omega,e,fun b hb=>by rcases hb with hb|hb <;> cases hb⟩
 obtain⟨nb,hnb'⟩:∃nb,nb=lkS l:=⟨_,rfl⟩
 rw[← hnb'] at hnV ⊢
 refine blk <| range_all3 (S:=V) hf rfl BS (by decide) (fun sl w1=>(∃vw vo,BcO l V bm nm b5 b6 b7 b3 b8 b4 ma ml N G (Hole w.heap.size) W (sl.foldl (bcN nb (card V)) ⟨[],[],[],[]⟩) vw vo w1)∧BcI V sl.length (sl.foldl (bcN nb (card V)) ⟨[],[],[],[]⟩)) (fun _ _=>False) (fun sl w1 ⟨⟨_,_,h⟩,_⟩=>h.h.t)
  ⟨⟨_,_,hO0⟩,hI0⟩ (fun sl w1 w2 ⟨⟨v1,v2,h⟩,hq⟩ hs k=>⟨⟨v1,v2,h.h.ch D k.chg (fun b hb=>Nat.le_trans hNB hb.1) h.own hGh,h.e.kp k hBW,h.own⟩,hq⟩) (fun _ _ _ h=>h.elim) ?_ ?_ (fun _ _ _ _ _ _ h=>h.elim)
 ·intro lp sl' x rest a1 w1 hs hJ hlw hf
  have hxV:V.getLsbD x=true:=(mem_elems.1 (by rw[hs];simp)).2
  have hx1024:x<1024:=bit_lt hxV
  have hsl:sl'.length≤1024:=by have:=elems_len V;rw[hs] at this;simp at this;omega
  have hwx:(Lit.int .i64 (x:Int)).wf=true:=wf64 (by omega) (by omega)
  generalize hBz:w.heap.size=Bz at *
  refine regn0 <| tl_as hf rfl (by decide) fun a hf=>tl_nil <| ⟨Kh.rfl' _ _,fun w3 k3 hsz3=>?_⟩
  obtain⟨⟨vx,vy,hJ⟩,hq⟩:=hJ
  have hJ3:BcO l V bm nm b5 b6 b7 b3 b8 b4 ma ml N G (Hole Bz) W (sl'.foldl (bcN nb (card V)) ⟨[],[],[],[]⟩) vx vy w3:=⟨hJ.h.ch D k3.chg (fun b hb=>Nat.le_trans hNB hb.1) hJ.own hGh,hJ.e.kp k3 hBW,hJ.own⟩
  have hw3:Bz+3≤w3.heap.size:=by omega
  replace hf:=hf.pure w3
  obtain⟨H,e,hown⟩:=hJ3
  have kh:=Kh.rfl' Bz w3
  have hstep:((sl'++[x]).foldl (bcN nb (card V)) ⟨[],[],[],[]⟩)=bcN nb (card V) (sl'.foldl (bcN nb (card V)) ⟨[],[],[],[]⟩) x:=by rw[List.foldl_append];rfl
  obtain⟨sx,hsx⟩:∃sx,sx=sl'.foldl (bcN nb (card V)) ⟨[],[],[],[]⟩:=⟨_,rfl⟩
  rw[← hsx] at H hq hstep
  obtain⟨s2,hs2⟩:∃s2,s2=bcV1 nb (card V) sx x:=⟨_,rfl⟩
  have hq2:BcI V sl'.length s2:=by rw[hs2];exact bcV1_ok hnV hq hxV
  obtain⟨tgt,htgt⟩:∃tgt,tgt=bcV2 nb s2 x:=⟨_,rfl⟩
  have hq3:BcI V (sl'++[x]).length tgt:=by rw[htgt,List.length_append,List.length_singleton];exact bcV2_ok hq2
  have fin:∀v1 v2 w1,BcO l V bm nm b5 b6 b7 b3 b8 b4 ma ml N G (Hole Bz) W tgt v1 v2 w1→(∃v1 v2,BcO l V bm nm b5 b6 b7 b3 b8 b4 ma ml N G (Hole Bz) W ((sl'++[x]).foldl (bcN nb (card V)) ⟨[],[],[],[]⟩) v1 v2 w1)∧BcI V (sl'++[x]).length ((sl'++[x]).foldl (bcN nb (card V)) ⟨[],[],[],[]⟩):=fun v1 v2 w1 h1=>by
   rw[hstep,bcN,← hs2,← htgt];exact⟨⟨v1,v2,h1⟩,hq3⟩
  have hal2:=hq2.al
  have hol2:=hq2.o
  have dn:=D.n
  have hgo:∀b,Hole Bz b→¬(b=b7∨b=b4∨b=ma∨b=ml):=fun b hb hh=>by have:=hb.1;omega
  rw[bcV1] at hs2
  have hlkx:lkS l (x:Int)=nb (x:Int):=by rw[hnb']
  replace hf:=hf.keep [3,4,5,6,7,8,9]
  refine blk ?_
  repeat refine seq ?_
  refine regn 4 hf (by decide +kernel) <| st (ld1 (v:=.map (some ma)) T43 rfl H.pa rfl) <| st (mv rfl) <| st (lkIM Tryz.underlying43 rfl H.ma rfl hwx) <| st (eql rfl rfl) <| en fun a w e' hf=>?_
  replace H:=H.ext e'
  replace kh:=kh.tr (Kh.ext e')
  replace e:=e.tr e'
  refine tl_nil <| cut (J:=fun a w=>Fr 39 a w [(3,E (ptr b3)),(4,E (ptr b4)),(9,E (I (x:Nat)))]∧Ext W w∧Kh Bz w3 w∧(∃vx vy,BcW l V bm nm b5 b6 b7 b3 b8 b4 ma ml N G s2 vx vy w∧∀b,OWN vx vy b→¬Hole Bz b)) ?_ (fun a w hJ=>?_)
  ·by_cases hz:lkI sx.la (x:Int)=0
   ·rw[if_pos hz] at hs2
    rw[show (lkI sx.la (x:Int)==0)=true by rw[hz];rfl] at hf
    refine ifc hf rfl (fun _=>?_) (fun h=>by cases h)
    replace hf:=hf.keep [3,4,5,6,7,8,9]
    refine regn 2 hf (by decide +kernel) <| st (ld1 (v:=bcV b5 b6 b7 b3 b8 b4) T95 rfl H.pd rfl) <| st (mv rfl) <| en fun a w e' hf=>?_
    replace H:=H.ext e'
    replace kh:=kh.tr (Kh.ext e')
    replace e:=e.tr e'
    replace hf:=hf.kp [3,4,5,6,7,8,9,23,24]
    refine tl_callV (S:=SBc b7 b4 ma ml vx vy) (F:=fun w'=>∃vw' vo',BcW l V bm nm b5 b6 b7 b3 b8 b4 ma ml N G (bcF (lkS l) (card V) x (-1) sx) vw' vo' w'∧∀b,OWN vw' vo' b→OWN vx vy b∨w.heap.size≤b) (A:=E (.tuple #[])) hf (by decide) En61 rfl ?_ fun a w2 hc HF hf=>?_
    ·have e24:a.eval (.tmp 24)=I (x:Nat):=hf.opd (.tmp 24) _ rfl
     have eC:a.eval (.const (I (-1)))=I (-1):=rfl
     simp only[List.map_toArray,List.map_cons,List.map_nil,e24,eC]
     exact (bc1_spec D (c0:=sl'.length) (by omega) (by omega) (by rw[← hnb'];exact hnV) (card V) x (-1) sx vx vy G _ (fun b hb=>by have h1:=hGl b hb;have h2:=kh.size;omega) hGs H hq hxV (by omega) (by rw[unv,← card_elems];exact List.length_filter_le _ _)).mono fun en w' ⟨k1,v1,v2,k2,k3,k4⟩=>⟨_,k1,k2,rfl,v1,v2,k3,k4⟩
    obtain⟨vx2,vy2,H2,hnew⟩:=HF
    rw[← hnb',← hs2] at H2
    have hwsz:=kh.size
    have hlt:∀b,OWN vx vy b→W.heap.size≤b:=fun b hb=>hb.elim (fun h=>by have:=(H.ow.lt h).1;omega) fun h=>by have:=(H.oo.lt h).1;omega
    replace e:=e.ch hc fun b hb=>by
     rcases hb with hb|hb
     ·omega
     ·exact hlt b hb
    replace kh:=kh.tr (Kh.chg hc fun b hb hh=>by
     rcases hb with hb|hb
     ·exact hgo b hh hb
     ·exact hown b hb hh)
    have hown2:∀b,OWN vx2 vy2 b→¬Hole Bz b:=fun b hb=>by
     rcases hnew b hb with h|h
     ·exact hown b h
     ·exact fun hh=>by have:=hh.2;omega
    refine tl_nil ?_
    replace hf:=hf.kp [3,4,9]
    exact⟨rfl,hf,e,kh,vx2,vy2,H2,hown2⟩
   ·rw[if_neg hz] at hs2
    rw[show (lkI sx.la (x:Int)==0)=false from beq_eq_false_iff_ne.2 hz] at hf
    refine ifc hf rfl (fun h=>by cases h) (fun _=>?_)
    refine wskip ?_
    simp only[Exit.then,Exit.inBlock,↓reduceIte]
    replace hf:=hf.kp [3,4,9]
    rw[← hs2] at H
    exact⟨trivial,hf,e,kh,vx,vy,H,hown⟩
  obtain⟨hf,e,kh,vx2,vy2,H,hown⟩:=hJ
  rw[bcV2] at htgt
  obtain⟨nx,hnx⟩:∃nx,nx=nb (x:Int):=⟨_,rfl⟩
  rw[← hnx] at htgt hlkx
  have hdv:=MpR.dvE H.m (Nat.le_refl nm) (G:=Go.Mono.G0) (fun h=>h)
  refine seq <| regn 5 hf (by decide +kernel) <| st (fldA Tryz.underlying79 rfl T77 (by decide) rfl) <| st (ld1 (v:=.map (some bm)) T77 rfl H.pg (adC_map _ _)) <| st (mv rfl) <| st ((lkM (l:=l) (i:=(x:Int)) Tryz.underlying77 zero_set (isE rfl hdv) rfl hwx).eq (congrArg setV hlkx)) <| st (call1 (A:=E (B (nx==0))) (B:=E (setV nx)) En65 rfl (fun v w he h=>by cases h;exact isEmpty_spec _ w)) ?_
  refine en fun a w e' hf=>?_
  replace H:=H.ext e'
  replace kh:=kh.tr (Kh.ext e')
  replace e:=e.tr e'
  refine tl_nil ?_
  replace hf:=hf.kp [3,4,9,30]
  by_cases hz:nx=0
  ·rw[if_pos hz] at htgt
   rw[show (nx==0)=true from beq_iff_eq.2 hz] at hf
   refine ifc hf rfl (fun _=>?_) (fun h=>by cases h)
   replace hf:=hf.kp [3,4,9]
   have hkz:=kh.size
   have hgo2:∀b,GO (fun b=>G b∨vx2.ownBlock=some b) vy2 b→b<w.heap.size:=fun b hb=>by
    rcases hb with (hb|hb)|hb
    ·have:=hGl b hb;omega
    ·exact (H.ow.lt hb).2
    ·exact (H.oo.lt hb).2
   have hlt:∀b,vy2.ownBlock=some b→W.heap.size≤b:=fun b hb=>by have:=(H.oo.lt hb).1;omega
   have hesz:=e.size
   refine regn 4 hf (by decide +kernel) <| st (ld1 (v:=vy2) T39 rfl H.po rfl) <| st (mv rfl) <| st (bsl1 (e:=intE) (G:=GO (fun b=>G b∨vx2.ownBlock=some b) vy2) Tryz.underlying35 I3 rfl (by decide) rfl hgo2 (isI rfl)) <| st (bsl1 (e:=slE intE) (G:=GO (fun b=>G b∨vx2.ownBlock=some b) vy2) Tryz.underlying39 I35 rfl (by decide) rfl hgo2 (isR rfl)) <| en fun a w e' hf=>?_
   replace H:=H.ext e'
   replace kh:=kh.tr (Kh.ext e')
   replace e:=e.tr e'
   replace hf:=hf.kp [3,4,9,31,34]
   refine tl_appX Tryz.underlying39 I35 rfl rfl hf (by decide) rfl H.oo (isR rfl) (by simp only[List.length_singleton];omega) (by simp only[List.length_singleton,maxLen];omega) fun a vy3 w' hg hat Hn hf=>?_
   have Bo:=H.po.gro hg (fun h=>by have:=(H.oo.lt h).1;omega)
   have hksz:=kh.size
   replace hf:=hf.kp [3,4,9,35]
   refine tl_st1 T39 hf rfl rfl Hn.one Bo Nat.zero_lt_one fun w2 hg2 hsz Bo hf=>?_
   have hown3:∀b,OWN vx2 vy3 b→¬Hole Bz b:=fun b hb=>by
    rcases hb with hb|hb
    ·exact hown b (.inl hb)
    ·rcases hat with h|h
     ·exact hown b (.inr (by rw[← h];exact hb))
     ·rw[h] at hb;cases hb
      exact fun hh=>by have:=hh.2;omega
   replace H:BcW l V bm nm b5 b6 b7 b3 b8 b4 ma ml N G tgt vx2 vy3 w2:=by rw[htgt];exact H.setO D hg Hn hg2 Bo hGs.2.1
   replace e:=(e.gro hg hlt).gr hg2 (by omega)
   replace kh:=(kh.tr (Kh.gro hg fun b hb hh=>hown b (.inr hb) hh)).tr (Kh.gr hg2 fun hh=>hgo _ hh (.inr (.inl rfl)))
   refine tl_nil ?_
   simp only[Exit.inBlock]
   exact⟨fin _ _ _ ⟨H,e,hown3⟩,kh⟩
  ·rw[if_neg hz] at htgt
   rw[show (nx==0)=false from beq_eq_false_iff_ne.2 hz] at hf
   refine ifc hf rfl (fun h=>by cases h) (fun _=>?_)
   refine wskip ?_
   rw[← htgt] at H
   exact⟨fin _ _ _ ⟨H,e,hown⟩,kh⟩
 ·intro a' w' hf' hJ hsz hDn
  simp only[Exit.inBlock,↓reduceIte,Exit.then]
  obtain⟨⟨vx,vy,⟨H',e',hown⟩⟩,hq⟩:=hJ
  have hD:Ds [w.heap.size] w':=(Ds.nil w').cons hDn (by simp)
  have hf:FrD 39 (marks [w.heap.size]) a' w' [(4,E (ptr b4))]:=hf'.keep [4]
  have hDW:∀d∈[w.heap.size],W.heap.size≤d:=fun d hd=>by rw[List.mem_singleton] at hd;omega
  have hlv:=hq.o
  have hal:=hq.al
  have hvl:=elems_len V
  have dn:=D.n
  rw[bccF]
  obtain⟨sx,hsx⟩:∃sx,sx=(elems V).foldl (bcN nb (card V)) ⟨[],[],[],[]⟩:=⟨_,rfl⟩
  have hln:∀xs∈sx.out,xs.length≤100000:=fun xs hx=>by
   rw[hsx] at hx
   have:=bcN_ol nb (card V) (elems V) ⟨[],[],[],[]⟩ (fun xs hx=>by cases hx) xs hx
   omega
  rw[← hsx] at H' hlv hal ⊢
  have hodn:∀b,vy.ownBlock=some b→¬b∈[w.heap.size]:=fun b hb hd=>by
   rw[List.mem_singleton] at hd
   exact hown b (.inr hb) (by rw[hd];exact⟨Nat.le_refl _,by omega⟩)
  have h4d:¬b4∈[w.heap.size]:=fun hd=>by rw[List.mem_singleton] at hd;omega
  have H:=H'
  have e:=e'
  have hGD:∀d∈[w.heap.size],G d:=fun d hd=>by rw[List.mem_singleton] at hd;rw[hd];exact hGh _ ⟨Nat.le_refl _,by omega⟩
  generalize [w.heap.size]=D2 at *
  generalize w'=w at *
  refine seq <| regn 1 hf (by decide +kernel) <| st (ld1 (v:=vy) T39 rfl H.po rfl) <| en fun a w e' hf=>?_
  replace H:=H.ext e'
  replace e:=e.tr e'
  replace hD:=hD.ext e'
  replace hf:=hf.kp [4,36]
  refine tl_callE (S:=fun b=>vy.ownBlock=some b) (F:=fun z w'=>(Dv (slE (slE intE)) (fun b=>b∈D2) (srtZ sx.out)).p vy w') hf (by decide) En66 ?_ fun a z w2 hc hF hf=>?_
  ·have e36:a.eval (.tmp 36)=vy:=hf.opd (.tmp 36) _ rfl
   have eF:a.eval (.func 67)=.func (.func 67) #[] #[]:=rfl
   simp only[List.map_toArray,List.map_cons,List.map_nil,e36,eF]
   exact (sortL_spec H.oo (by omega) hln).mono fun en w' ⟨k1,k2,out',k3,k4,k5⟩=>⟨_,k1,k2,by rw[← srtZ_of k3 k4];exact k5 _ (fun b hb=>.inl (hGD b hb)) hodn⟩
  have B4:=H.po.ch hc (fun h=>by have:=(H.oo.lt h).1;omega)
  replace hD:=hD.ch hc fun d hd h=>hodn d h hd
  replace e:=e.ch hc fun b hb=>by have:=(H.oo.lt hb).1;omega
  generalize w2=w at *
  refine tl_nil ?_
  replace hf:=hf.kp [4]
  refine seq <| regn 1 hf (by decide +kernel) <| st (ld1 (v:=vy) T39 rfl B4 rfl) <| en fun a w e' hf=>?_
  replace hF:=Dv.ex hF e'
  replace e:=e.tr e'
  replace B4:=B4.ext e'
  replace hD:=hD.ext e'
  refine tl_as hf rfl (by decide) fun a hf=>tl_nil <| wret <| ret1M rfl hf rfl hD ⟨_,rfl,e.shut hDW,?_⟩
  exact Dv.weak (Dv.ch hF (chg_shut D2 w) fun b hb=>hb) fun b _ hb=>hb.elim
end Go.Mono
namespace Go.Mono
open Go Go.Proofs Go.RowKit Go.Gr
def knV:List VT:=[(1,(0,0)),(2,(0,0)),(3,(0,0)),(4,(0,0)),(5,(0,0))]
def knE:List ET:=[((1,2),(0,0)),((2,3),(0,0)),((3,4),(0,0)),((1,4),(0,0)),((4,5),(0,0))]
def knG:GT:=(knV,[((1,2),(0,0)),((1,4),(0,0)),((2,3),(0,0)),((3,4),(0,0)),((4,5),(0,0))])
def knL:List (Int×BS):=[(1,20#1024),(2,10#1024),(3,20#1024),(4,42#1024),(5,16#1024)]
theorem kn_ok:Gr.Ok knG:=gok_of (by decide +kernel)
theorem kn_bld:(match bldM knV knE with
 | some g=>g.1.isPerm knG.1&&g.2.isPerm knG.2
 | none=>false)=true:=by decide +kernel
theorem kn_nb:nbL knG (elems (vset knG.1))=knL:=by decide +kernel
theorem kn_v:vset knG.1=62#1024:=by decide +kernel
theorem kn_es:esN knG=[(1,2),(1,4),(2,3),(3,4),(4,5)]:=by decide +kernel
theorem kn_na:nbA knG=lkS knL:=by rw[nbA,kn_nb]
theorem kn_cp:((prF (nbA knG) (card (vset knG.1)) (vset knG.1)).map elL)=[[1,2,3,4,5]]:=by
 rw[kn_na,kn_v];decide +kernel
theorem kn_br:(brF knG).map toI=[(4,5)]:=by
 rw[brF,kn_na,kn_es];decide +kernel
theorem kn_cv:natE (cvF knG)=[4]:=by
 rw[cvF,kn_na,kn_v];decide +kernel
theorem kn_bc:bccF (nbA knG) (vset knG.1)=[[1,2,3,4],[4,5]]:=by
 rw[kn_na,kn_v];decide +kernel
theorem kn_bl:natE (bpL (nbA knG) (vset knG.1))=[1,3,5]:=by
 rw[kn_na,kn_v];decide +kernel
theorem kn_bb:bpB (nbA knG) (vset knG.1)=true:=by
 rw[kn_na,kn_v];decide +kernel
theorem kn_sc:shcF (nbA knG) (vset knG.1) (esN knG)=some [1,2,3,4]:=by
 rw[kn_na,kn_v,kn_es];decide +kernel
theorem kn_od:oddF (nbA knG) (vset knG.1)=none:=by
 rw[kn_na,kn_v];decide +kernel
theorem kn_sp:natE (spF knG 2 4)=[2,1,4]:=by
 rw[spF,dsF,kn_na,kn_v];decide +kernel
theorem knV_ok:∀x∈knV,okD (dV x):=by
 intro x hx
 simp only[knV,List.mem_cons,List.not_mem_nil,or_false] at hx
 rcases hx with rfl|rfl|rfl|rfl|rfl <;> exact⟨by decide,by decide,by decide,by decide⟩
theorem knE_ok:∀x∈knE,okD (dE x):=by
 intro x hx
 simp only[knE,List.mem_cons,List.not_mem_nil,or_false] at hx
 rcases hx with rfl|rfl|rfl|rfl|rfl <;> exact⟨by decide,by decide,by decide,by decide⟩
theorem kn_bld':∃g',bldM knV knE=some g'∧g'.1.Perm knG.1∧g'.2.Perm knG.2:=by
 have h:=kn_bld
 cases hb:bldM knV knE with
 | none=>rw[hb] at h;cases h
 | some g=>
  rw[hb] at h
  simp only[Bool.and_eq_true,List.isPerm_iff] at h
  exact⟨g,rfl,h.1,h.2⟩
theorem known07_spec (W:World)(hT:Tab W):Calls Tryz.prog 12 #[] W (Post (E (B true)) W):=by
 have hT0:=hT.lt
 have ok:=kn_ok
 have gs1:=ok.sv
 have gs2:=ok.se
 have l1:knG.1.length≤100000:=by decide
 have l2:knG.2.length≤100000:=by decide
 have lN:2000≤1000000:=by decide
 have hVl:knV.length=5:=rfl
 refine enter (args:=[]) (As:=([]:List VA)) Tryz.func12 rfl Tryz.ntmps12 (Nat.le_of_ble_eq_true rfl) (fun i A h=>by simp at h) (fun a hf=>?_) (Nat.le_of_ble_eq_true rfl)
 have e:=Ext.rfl' W
 refine seq <| regn0 <| tA hf rfl fun a hf=>tl_nil <| seq <| regn0 <| tA hf rfl fun a hf=>tl_nil ?_
 repeat refine seq ?_
 refine regn0 <| tA hf rfl fun a hf=>tl_nil ?_
 replace hf:=hf.keep [0,1,2]
 refine blk (loopN (fun r0 a w=>∃(k:Nat) (u:Value),r0=5 - k∧k≤5∧Fr 90 a w [(0,E (B false)),(1,E u),(2,E (I ((k+1:Nat):Int)))]∧Ext W w∧Tab w∧OwR vtE 73 W.heap.size G0 w (knV.take k) u) 5 ⟨0,.slice none 0 0,rfl,by omega,hf,e,⟨hT,OwR.nil vtE _ e.size fun b hb=>hb.elim⟩⟩ ?_)
 rintro r0 a w ⟨k,u,rfl,hk,hf,e,hT,H1⟩
 repeat refine seq ?_
 refine rgN 2 hf <| st (mv rfl) <| st (leq rfl rfl) <| en fun a w e' hf=>?_
 obtain⟨hT,H1,e⟩:=up3 e' hT H1 e
 refine tl_nil <| ifc hf rfl (fun hc=>wskip ?_) (fun hc=>wexit ?_)
 rotate_left
 rotate_left
 ·have hlt:k<5:=by have:=of_decide_eq_true hc;(try dsimp only at this);omega
  replace hf:=hf.kp [0,1,2]
  refine seq <| blk ?_
  have hx:knV[k]?=some ((((k+1:Nat):Int)),(0,0)):=by
   have:∀k<5,knV[k]?=some ((((k+1:Nat):Int)),(0,0)):=by decide
   exact this k hlt
  have hlk:=List.length_take_le k knV
  refine rgN 4 hf <| st (mv rfl) <| st (mv rfl) <| st (bldV1 _ rfl) <| st (bsl1 U66 I73 rfl (by decide) rfl H1.avs (isVt rfl)) <| en fun a w e' hf=>?_
  obtain⟨hT,H1,e⟩:=up3 e' hT H1 e
  haveI hin:∀G0,InR (GB W G0) _:=OwR.inGB (W:=W) H1 (Nat.le_refl _)
  refine tl_app U66 I73 rfl rfl hf (by decide) rfl H1 (isR rfl) (by simp only[List.length_singleton];omega) (by simp only[List.length_singleton,maxLen];omega) fun a v w hg hat Hn hf=>?_
  replace e:=e.gro hg (H1.row (W:=W) (Nat.le_refl _))
  have hrow:=H1.row (W:=W) (Nat.le_refl _)
  replace hT:=hT.gro hg (fun b hb=>by have:=(H1.lt hb).1;omega)
  replace H1:=Hn
  replace H1:=Hn;clear Hn hg hat hin
  refine tA hf rfl fun a hf=>tl_nil ?_
  rw[← take_succ_get hx] at H1
  replace hf:=hf.keep [0,1,2]
  refine rgN 2 hf <| st (mv rfl) <| st ((add rfl rfl (by omega)).eq (congrArg I (show ((k+1:Nat):Int)+1=((k+1+1:Nat):Int) from rfl))) <| en fun a w e' hf=>?_
  obtain⟨hT,H1,e⟩:=up3 e' hT H1 e
  refine tA hf rfl fun a hf=>tl_nil ?_
  replace hf:=hf.keep [0,1,2]
  exact⟨_,by omega,k+1,_,rfl,by omega,hf,e,hT,H1⟩
 ·obtain rfl:k=5:=by have:=of_decide_eq_false hc;(try dsimp only at this);omega
  rw[List.take_of_length_le (by omega)] at H1
  replace hf:=hf.keep [0,1]
  refine seq <| rgN 11 hf <| st (mv rfl) <| st (bldE2 1 2 rfl rfl) <| st (bldE2 2 3 rfl rfl) <| st (bldE2 3 4 rfl rfl) <| st (bldE2 1 4 rfl rfl) <| st (bldE2 4 5 rfl rfl) <| st (bslN (e:=etE) (G:=G0) (zs:=knE) (xs:=[.tmp 18,.tmp 19,.tmp 20,.tmp 21,.tmp 22]) U61 I62 rfl rfl (by decide) (by decide) rfl (fun b hb=>hb.elim) ⟨isEt rfl,isEt rfl,isEt rfl,isEt rfl,isEt rfl,trivial⟩) <| st (call2 (A:=Tup [Dv (ptE (grE 2000)) G0 (some knG),E (I 0)]) (C:=Dv (slE etE) G0 knE) En40 rfl rfl (fun v u w he k1 k2=>by cases k1;exact build_perm knV knE knG kn_bld' knV_ok knE_ok _ _ w (VA.st _ _ _ _ he H1.sl) k2 (by decide) (by decide) (fun b hb=>hb.elim))) ?_
  refine st (mv rfl) <| st (ext_ rfl rfl) <| st (ext_ rfl rfl) <| en fun a w e' hf=>?_
  obtain⟨hT,H1,e⟩:=up3 e' hT H1 e
  refine tA hf rfl fun a hf=>tA hf rfl fun a hf=>tl_nil ?_
  obtain⟨gv,hgv,hf⟩:=hf.opn 3 rfl
  obtain⟨W1,hW1⟩:∃W1,W1=w:=⟨_,rfl⟩
  have e1:Ext W1 w:=by rw[hW1];exact Ext.rfl' _
  replace hgv:(Dv (ptE (grE 2000)) G0 (some knG)).p gv W1:=by rw[hW1];exact hgv
  replace hf:=hf.keep [0,3,4]
  repeat refine seq ?_
  refine rgN 6 hf <| st (mv rfl) <| st (eqlP U26 (isE rfl (VA.st _ _ _ _ e1 hgv))) <| st (mv rfl) <| sy rfl rfl (mv rfl) <| sy rfl rfl (neq rfl rfl) <| st (pkF rfl rfl) <| en fun a w e' hf=>?_
  obtain⟨hT,e1,e⟩:=up3 e' hT e1 e
  refine tl_nil <| ifc hf rfl (fun h=>by cases h) (fun _=>?_)
  refine wskip ?_
  have e9:=e1
  refine seq <| rgN 5 hf <| st (mv rfl) <| st (call1 (A:=Tup [Dv (slE intE) G0 [1,3,5],E (B true)]) En23 rfl (fun v w he k=>by cases k;have:=bip_spec knG ok gv w (hT.ext he) (VA.st _ _ _ _ (Ext.tr e9 he) hgv) l1 l2 lN;rwa [kn_bl,kn_bb] at this)) ?_
  refine st (mv rfl) <| st (ext_ rfl rfl) <| st (ext_ rfl rfl) <| en fun a w e' hf=>?_
  obtain⟨hT,e1,e⟩:=up3 e' hT e1 e
  refine tA hf rfl fun a hf=>tA hf rfl fun a hf=>tl_nil ?_
  replace hf:=hf.keep [0,3,5,6]
  have d1:(decide (([[1,2,3,4,5]]:List (List Int))=[[1,2,3,4,5]]))=true:=by decide
  have d2:(decide (([(4,5)]:List (Int×Int))=[(4,5)]))=true:=by decide
  have d3:(decide (([4]:List Int)=[4]))=true:=by decide
  have d4:(decide (([[1,2,3,4],[4,5]]:List (List Int))=[[1,2,3,4],[4,5]]))=true:=by decide
  have d5:(decide (([1,3,5]:List Int)=[1,3,5]))=true:=by decide
  have d6:(decide (([1,2,3,4]:List Int)=[1,2,3,4]))=true:=by decide
  have d7:(decide (([2,1,4]:List Int)=[2,1,4]))=true:=by decide
  have ec:=e1
  refine seq <| rgN 52 hf <| st (mv rfl) <| st (call1 (A:=Dv (slE (slE intE)) G0 [[1,2,3,4,5]]) En22 rfl (fun v w he k=>by cases k;have:=comps_spec knG gv w (hT.ext he) (VA.st _ _ _ _ (Ext.tr ec he) hgv) gs1 gs2 l1 l2 lN;rwa [kn_cp] at this)) ?_
  refine st (bslN (e:=intE) (G:=G0) (zs:=[1,2,3,4,5]) (xs:=[.const (I 1),.const (I 2),.const (I 3),.const (I 4),.const (I 5)]) U35 I3 rfl rfl (by decide) (by decide) rfl (fun b hb=>hb.elim) ⟨isI rfl,isI rfl,isI rfl,isI rfl,isI rfl,trivial⟩) <| st (bsl1 (e:=slE intE) (G:=G0) U39 I35 rfl (by decide) rfl (fun b hb=>hb.elim) (isR rfl)) <| st (call2 (A:=E (B true)) En20 rfl rfl (fun v u w he k k'=>by have:=all07_spec [[1,2,3,4,5]] [[1,2,3,4,5]] v u w k k' (by decide) (by decide) (by decide) (by decide);rwa [d1] at this)) ?_
  refine st (mv rfl) <| sy rfl rfl (mv rfl) <| sy rfl rfl (call1 (A:=Dv (slE edE) G0 [(4,5)]) En14 rfl (fun v w he k=>by cases k;have:=bridges_spec knG ok gv w (hT.ext he) (VA.st _ _ _ _ (Ext.tr ec he) hgv) l1 l2 lN;rwa [kn_br] at this)) ?_
  refine sy rfl rfl ((bldV [(0,_),(1,_)] rfl (bPr (4,5))).eq ((rfl:_=edV (4,5)))) <| sy rfl rfl (bsl1 (e:=edE) (G:=G0) U31 I60 rfl (by decide) rfl (fun b hb=>hb.elim) (isE rfl (Dv.pr2.2 rfl))) <| sy rfl rfl (call2 (A:=E (B true)) En13 rfl rfl (fun v u w he k k'=>by have:=pairs07_spec [(4,5)] [(4,5)] v u w k k' (by decide) (by decide);rwa [d2] at this)) ?_
  refine st (pkT rfl rfl) <| st (mv rfl) <| sy rfl rfl (mv rfl) <| sy rfl rfl (call1 (A:=Dv (slE intE) G0 [4]) En17 rfl (fun v w he k=>by cases k;have:=cuts_spec knG ok gv w (hT.ext he) (VA.st _ _ _ _ (Ext.tr ec he) hgv) l1 l2 lN;rwa [kn_cv] at this)) ?_
  refine sy rfl rfl (bsl1 (e:=intE) (G:=G0) U35 I3 rfl (by decide) rfl (fun b hb=>hb.elim) (isI rfl)) <| sy rfl rfl (call2 (A:=E (B true)) En16 rfl rfl (fun v u w he k k'=>by have:=same07_spec [4] [4] v u w k k' (by decide) (by decide);rwa [d3] at this)) ?_
  refine st (pkT rfl rfl) <| st (mv rfl) <| sy rfl rfl (mv rfl) <| sy rfl rfl (call1 (A:=Dv (slE (slE intE)) G0 [[1,2,3,4],[4,5]]) En19 rfl (fun v w he k=>by cases k;have:=bcc_spec knG ok gv w (hT.ext he) (VA.st _ _ _ _ (Ext.tr ec he) hgv) l1 l2 lN;rwa [kn_bc] at this)) ?_
  refine sy rfl rfl (bslN (e:=intE) (G:=G0) (zs:=[1,2,3,4]) (xs:=[.const (I 1),.const (I 2),.const (I 3),.const (I 4)]) U35 I3 rfl rfl (by decide) (by decide) rfl (fun b hb=>hb.elim) ⟨isI rfl,isI rfl,isI rfl,isI rfl,trivial⟩) <| sy rfl rfl (bsl2 (e:=intE) (G:=G0) U35 I3 rfl (by decide) rfl (fun b hb=>hb.elim) (isI rfl) (isI rfl)) <| sy rfl rfl (bsl2 (e:=slE intE) (G:=G0) U39 I35 rfl (by decide) rfl (fun b hb=>hb.elim) (isR rfl) (isR rfl)) <| sy rfl rfl (call2 (A:=E (B true)) En20 rfl rfl (fun v u w he k k'=>by have:=all07_spec [[1,2,3,4],[4,5]] [[1,2,3,4],[4,5]] v u w k k' (by decide) (by decide) (by decide) (by decide);rwa [d4] at this)) ?_
  refine st (pkT rfl rfl) <| st (mv rfl) <| sy rfl rfl (mv rfl) <| sy rfl rfl (bsl3 (e:=intE) (G:=G0) U35 I3 rfl (by decide) rfl (fun b hb=>hb.elim) (isI rfl) (isI rfl) (isI rfl)) <| sy rfl rfl (call2 (A:=E (B true)) En16 rfl rfl (fun v u w he k k'=>by have:=same07_spec [1,3,5] [1,3,5] v u w k k' (by decide) (by decide);rwa [d5] at this)) ?_
  refine st (pkT rfl rfl) <| st (mv rfl) <| sy rfl rfl (mv rfl) <| st (pkT rfl rfl) <| st (mv rfl) <| sy rfl rfl (mv rfl) <| sy rfl rfl (call1 (A:=Dv (slE intE) G0 [1,2,3,4]) En36 rfl (fun v w he k=>by cases k;have:=scyc_spec knG ok gv w (hT.ext he) (VA.st _ _ _ _ (Ext.tr ec he) hgv) l1 l2 lN;rw[kn_sc] at this;exact this.mono fun en w' ⟨u,k1,k2,k3⟩=>⟨u,k1,k2,k3.2⟩)) ?_
  refine sy rfl rfl (bslN (e:=intE) (G:=G0) (zs:=[1,2,3,4]) (xs:=[.const (I 1),.const (I 2),.const (I 3),.const (I 4)]) U35 I3 rfl rfl (by decide) (by decide) rfl (fun b hb=>hb.elim) ⟨isI rfl,isI rfl,isI rfl,isI rfl,trivial⟩) <| sy rfl rfl (call2 (A:=E (B true)) En16 rfl rfl (fun v u w he k k'=>by have:=same07_spec [1,2,3,4] [1,2,3,4] v u w k k' (by decide) (by decide);rwa [d6] at this)) ?_
  refine st (pkT rfl rfl) <| st (mv rfl) <| sy rfl rfl (mv rfl) <| sy rfl rfl (call1 (A:=E (.slice none 0 0)) En25 rfl (fun v w he k=>by cases k;have:=sodd_spec knG ok gv w (hT.ext he) (VA.st _ _ _ _ (Ext.tr ec he) hgv) l1 l2 lN;rw[kn_od] at this;exact this)) ?_
  refine sy rfl rfl (lenE U35 rfl) <| sy rfl rfl ((eql rfl rfl).eq (congrArg Value.bool (show (((0:Nat):Int)==0)=true from rfl))) <| st (pkT rfl rfl) <| st (mv rfl) <| sy rfl rfl (mv rfl) <| sy rfl rfl (call3 (A:=Dv (slE intE) G0 [2,1,4]) En32 rfl rfl rfl (fun v u s w he k k' k''=>by cases k;cases k';cases k'';have:=spath_spec knG ok 2 4 gv w (hT.ext he) (VA.st _ _ _ _ (Ext.tr ec he) hgv) l1 l2 lN;rwa [kn_sp] at this)) ?_
  refine sy rfl rfl (bsl3 (e:=intE) (G:=G0) U35 I3 rfl (by decide) rfl (fun b hb=>hb.elim) (isI rfl) (isI rfl) (isI rfl)) <| sy rfl rfl (call2 (A:=E (B true)) En16 rfl rfl (fun v u w he k k'=>by have:=same07_spec [2,1,4] [2,1,4] v u w k k' (by decide) (by decide);rwa [d7] at this)) ?_
  refine st (pkT rfl rfl) <| en fun a w e' hf=>?_
  obtain⟨hT,e1,e⟩:=up3 e' hT e1 e
  refine tA hf rfl fun a hf=>tl_nil <| wret <| ret1 rfl hf rfl ?_
  rintro _ rfl
  exact⟨_,rfl,e,rfl⟩
structure MdOk (g:GT):Prop where
 ok:Gr.Ok g
 l1:g.1.length≤7
 l2:g.2.length≤17
theorem mdOk {g:GT}(h:(frM g).2=true)(hV:∀x∈g.1,0≤x.2.1∧x.2.1<256)(hE:∀x∈g.2,0≤x.2.1∧x.2.1<256):MdOk (frM g).1:=by
 by_cases h1:(decide ((7:Int)<(g.1.length:Nat)) || decide ((10:Int)<(g.2.length:Nat)))=true
 ·rw[frM,if_pos h1] at h;cases h
 ·by_cases h2:(ofR g.1 g.2).2≠0
  ·rw[frM,if_neg h1,if_pos h2] at h;cases h
  ·have e:frM g=((ofR g.1 g.2).1,true):=by rw[frM,if_neg h1,if_neg h2]
   have h3:=ofR_vlen g.1 g.2
   have h4:=ofR_len (V:=g.1) (E:=g.2) (Decidable.not_not.1 h2)
   rw[Bool.or_eq_true,not_or,decide_eq_true_eq,decide_eq_true_eq] at h1
   rw[e]
   exact⟨ofR_ok hV hE,by dsimp only;omega,by dsimp only;omega⟩
theorem CyA_sl {o:Option (List Nat)}{v:Value}{w:World}(h:(CyA G0 o).p v w):(Dv (slE intE) G0 (natE (o.getD []))).p v w:=by
 cases o with
 | none=>obtain rfl:v=.slice none 0 0:=h;exact Dv.nil
 | some out=>exact h.2
theorem law7R_spec {G:Nat→Prop}(g:GT)(v:Value)(W:World)(hT:Tab W)(h:(Dv gtE G g).p v W)(hV:∀x∈g.1,0≤x.2.1∧x.2.1<256)(hE:∀x∈g.2,0≤x.2.1∧x.2.1<256) :
  Calls Tryz.prog 8 #[v] W (Post (E (B true)) W):=by
 have hT0:=hT.lt
 obtain⟨u1,u2,rfl,h1,h2⟩:=Dv.gt.1 (Dv.weak (G':=G0) h fun b _ hb=>hb.elim)
 have hg0:(Dv gtE G0 g).p (.agg #[u1,u2]) W:=Dv.gt.2 ⟨_,_,rfl,h1,h2⟩
 refine enter (args:=[.agg #[u1,u2]]) (As:=[E (.agg #[u1,u2])]) Tryz.func8 rfl Tryz.ntmps8 (Nat.le_of_ble_eq_true rfl) ?_ (fun a hf=>?_) (Nat.le_of_ble_eq_true rfl)
 rotate_left
 dsimp only[params,Nat.reduceAdd] at hf
 rotate_right
 ·exact arg1 rfl
 have e:=Ext.rfl' W
 refine seq ?_
 refine regn0 ?_
 refine tl_box hf rfl (by decide) fun a b1 w v1 hv1 e' hb1 hs1 B1 hf=>?_
 have hle1:=Nat.le_trans e.size (Nat.le_of_eq hb1.symm)
 replace hT:=hT.ext e'
 replace e:=e.tr e'
 refine tl_as hf rfl (by decide) fun a hf=>?_
 refine tl_nil ?_
 cases hv1
 have e1:=e
 refine seq ?_
 refine regn 5 hf (by decide +kernel) ?_
 refine st ((ldW T25 rfl B1 rfl).eq ((rfl:_=Value.agg #[u1,u2]))) ?_
 refine st (call1 (A:=Tup [FrM g,Dv gtE G0 (frM g).1]) En11 rfl (fun v w he k1=>by cases k1;exact made07_spec g _ w (VA.st _ _ _ _ (Ext.tr e1 he) hg0) hV hE)) ?_
 refine st (mv rfl) ?_
 refine st (ext_ rfl rfl) ?_
 refine st (ext_ rfl rfl) ?_
 refine en fun a w e' hf=>?_
 replace hT:=hT.ext e'
 replace e:=e.tr e'
 replace B1:=B1.ext e'
 clear e'
 obtain⟨z,hz,hf⟩:=hf.opn 10 rfl
 obtain⟨z1,z2,rfl,hz1,hz2⟩:=Dv.gt.1 hz
 have hzo:(#[z1,z2]:Array Value).all (·.oneCell')=true:=one2 (slOne hz1) (slOne hz2)
 obtain⟨gv,hgv,hf⟩:=hf.opn 9 rfl
 obtain⟨W1,hW1⟩:∃W1,W1=w:=⟨_,rfl⟩
 have e2:Ext W1 w:=by rw[hW1];exact Ext.rfl' _
 replace hgv:(FrM g).p gv W1:=by rw[hW1];exact hgv
 have hzz:(Dv gtE G0 (frM g).1).p (.agg #[z1,z2]) W1:=by rw[hW1];exact hz
 have hWW:W1.heap.size≤w.heap.size:=e2.size
 have hW0:W.heap.size≤W1.heap.size:=by rw[hW1];exact e.size
 clear hW1 hz hz1 hz2 B1 e1
 replace hf:=hf.kp [9,10]
 refine tl_alloc I25 hf (by decide) fun a b4 w e' hb4 hs4 B4 hf=>?_
 have hle4:=Nat.le_trans e.size (Nat.le_of_eq hb4.symm)
 replace hT:=hT.ext e'
 replace e2:=Ext.tr e2 e'
 replace e:=e.tr e'
 refine tl_as hf rfl (by decide) fun a hf=>?_
 have n4:W1.heap.size≤b4:=by omega
 refine tl_stW T25 hf rfl rfl hzo B4 rfl rfl fun w hg hsz B4 hf=>?_
 replace e:=e.gr hg (by omega);replace hT:=hT.gr hg (by omega);replace e2:=e2.gr hg n4;clear hg
 refine tl_nil ?_
 replace hf:=hf.kp [3,4]
 cases hfr':(frM g).2 with
 | false=>
  obtain rfl:=hgv.2 hfr'
  repeat refine seq ?_
  refine regn 2 hf (by decide +kernel) ?_
  refine st (mv rfl) ?_
  refine st (eqlPP U26 rfl rfl (.inl rfl)) ?_
  refine en fun a w e' hf=>?_
  replace hT:=hT.ext e'
  replace e2:=Ext.tr e2 e'
  replace e:=e.tr e'
  replace B4:=B4.ext e'
  refine tl_nil ?_
  refine ifc hf rfl (fun _=>?_) (fun h=>by cases h)
  refine seq ?_
  refine regn 1 hf (by decide +kernel) ?_
  refine st (call0 (A:=E (B true)) En12 (fun w he=>known07_spec w (hT.ext he))) ?_
  refine en fun a w e' hf=>?_
  replace hT:=hT.ext e'
  replace e2:=Ext.tr e2 e'
  replace e:=e.tr e'
  replace B4:=B4.ext e'
  refine tl_as hf rfl (by decide) fun a hf=>?_
  refine tl_nil ?_
  refine wret ?_
  simp only[Exit.then,Exit.inBlock]
  refine ret1 rfl hf rfl ?_
  rintro _ rfl
  exact⟨_,rfl,e,rfl⟩
 | true=>
  obtain⟨ok,l1,l2⟩:=mdOk hfr' hV hE
  have hgd:=hgv.1 hfr'
  generalize (frM g).1=gg at ok l1 l2 hgd hzz
  have hl1:gg.1.length≤100000:=by omega
  have hl2:gg.2.length≤100000:=by omega
  repeat refine seq ?_
  refine regn 2 hf (by decide +kernel) ?_
  refine st (mv rfl) ?_
  refine st (eqlP U26 (isE rfl (VA.st _ _ _ _ e2 hgd))) ?_
  refine en fun a w e' hf=>?_
  replace hT:=hT.ext e'
  replace e2:=Ext.tr e2 e'
  replace e:=e.tr e'
  replace B4:=B4.ext e'
  refine tl_nil ?_
  refine ifc hf rfl (fun h=>by cases h) (fun _=>?_)
  refine wskip ?_
  simp only[Exit.then,Exit.inBlock,↓reduceIte]
  obtain⟨o,ho⟩:∃o,o=shcF (nbA gg) (vset gg.1) (esN gg):=⟨_,rfl⟩
  have hro:=shc_ring ok
  have hfa:=fo_all ok
  rw[← ho] at hro hfa
  obtain⟨pf,hpf⟩:∃pf,pf=(sfF gg.2).2.map (·.1):=⟨_,rfl⟩
  have hfl:pf.length=(sfF gg.2).2.length:=by rw[hpf,List.length_map]
  rw[← hfl] at hfa
  clear hfl
  have hoe:o=none∨∃c,o=some c∧c≠[]∧c.length≤100000:=by
   cases hh:o with
   | none=>exact .inl rfl
   | some c=>
    have h1:=((shTo false (cyA gg) none).2 c (by rw[← hh,← hro];rfl)).1.resolve_left (by simp)
    exact .inr ⟨c,rfl,(cyA_all ok l1).2 c h1.1⟩
  obtain⟨z,hz⟩:∃z,z=natE (o.getD []):=⟨_,rfl⟩
  have hzl:z.length≤100000:=by
   rcases hoe with h|⟨c,h,_,h1⟩
   ·rw[hz,h];exact Nat.zero_le _
   ·rw[hz,h,natE_len];exact h1
  have hz0:(z.length=0)↔o=none:=by
   rcases hoe with h|⟨c,h,h1,_⟩
   ·rw[hz,h];simp[natE]
   ·rw[hz,h,natE_len]
    exact⟨fun h2=>absurd (List.eq_nil_of_length_eq_zero h2) h1,fun h2=>by cases h2⟩
  have d1:decide (z=z)=true:=decide_eq_true rfl
  have hbb:(((((z.length:Nat):Int)==0))==(((pf.length:Nat):Int)==((gg.2.length:Nat):Int)))=true:=by
   rw[beq_iff_eq,Bool.eq_iff_iff,beq_iff_eq,beq_iff_eq]
   constructor
   ·intro h;have:=hfa.1 (hz0.1 (by omega));omega
   ·intro h;have:=hz0.2 (hfa.2 (by omega));omega
  have hze:(Dv (slE etE) G0 gg.2).p z2 W1:=by
   obtain⟨y1,y2,q0,_,q2⟩:=Dv.gt.1 hzz
   cases q0;exact q2
  have e4:=e2
  refine seq ?_
  refine regn 2 hf (by decide +kernel) ?_
  refine st (mv rfl) ?_
  refine st (call1 (A:=Dv (slE intE) G0 z) (B:=E gv) En36 rfl (fun v w he k=>by cases k;rw[hz];exact (scyc_spec gg ok gv w (hT.ext he) (VA.st _ _ _ _ (Ext.tr e4 he) hgd) hl1 hl2 (by omega)).mono fun en w' ⟨u,k1,k2,k3⟩=>⟨u,k1,k2,CyA_sl (by rw[ho];exact k3)⟩)) ?_
  refine en fun a w e' hf=>?_
  replace hT:=hT.ext e'
  replace e2:=Ext.tr e2 e'
  replace e:=e.tr e'
  replace B4:=B4.ext e'
  refine tl_as hf rfl (by decide) fun a hf=>?_
  refine tl_nil ?_
  replace hf:=hf.kp [3,4,5]
  have e5:=e2
  refine seq ?_
  refine reg 20 Mix.mix hf (by decide +kernel) ?_
  refine st (mv rfl) ?_
  refine st ((ldW T25 rfl B4 rfl).eq ((rfl:_=Value.agg #[z1,z2]))) ?_
  refine st (call1 (A:=Dv (slE intE) G0 z) (B:=E (.agg #[z1,z2])) En37 rfl (fun v w he k=>by cases k;have h9:=ring7_spec gg ok _ w (VA.st _ _ _ _ (Ext.tr e5 he) hzz) l1 hl2;rw[hro] at h9;rw[hz];exact h9.mono fun en w' ⟨u,k1,k2,k3⟩=>⟨u,k1,k2,CyA_sl k3⟩)) ?_
  refine st (call2 (A:=E (B true)) (B:=Dv (slE intE) G0 z) (C:=Dv (slE intE) G0 z) En16 rfl rfl (fun v u w he k k'=>by have:=same07_spec z z v u w k k' (by omega) (by omega);rwa [d1] at this)) ?_
  refine st (mv rfl) ?_
  refine sy rfl rfl (mv rfl) ?_
  refine sy rfl rfl (lenD U35 (isR rfl)) ?_
  refine sy rfl rfl (eql rfl rfl) ?_
  refine sy rfl rfl (mv rfl) ?_
  refine sy rfl rfl (call1 (A:=Dv (slE edE) G0 pf) (B:=E gv) En38 rfl (fun v w he k=>by cases k;rw[hpf];exact spf_spec gg ok gv w (VA.st _ _ _ _ (Ext.tr e5 he) hgd) hl2 (by omega))) ?_
  refine sy rfl rfl (lenD U31 (isR rfl)) ?_
  refine sy rfl rfl (fldA U25 rfl T23 (by decide) rfl) ?_
  refine sy rfl rfl (ld1 T23 rfl B4 rfl) ?_
  refine sy rfl rfl (lenD U23 (isE rfl (VA.st _ _ _ _ e5 hze))) ?_
  refine sy rfl rfl (eql rfl rfl) ?_
  refine sy rfl rfl ((eqlB U4 rfl rfl).eq (congrArg Value.bool (hbb))) ?_
  refine st (pkT rfl rfl) ?_
  refine st (mv rfl) ?_
  refine sy rfl rfl (call0 (A:=E (B true)) En12 (fun w he=>known07_spec w (hT.ext he))) ?_
  refine st (pkT rfl rfl) ?_
  refine en fun a w e' hf=>?_
  replace hT:=hT.ext e'
  replace e2:=Ext.tr e2 e'
  replace e:=e.tr e'
  replace B4:=B4.ext e'
  refine tl_as hf rfl (by decide) fun a hf=>?_
  refine tl_nil ?_
  refine wret ?_
  refine ret1 rfl hf rfl ?_
  rintro _ rfl
  exact⟨_,rfl,e,rfl⟩
end Go.Mono
