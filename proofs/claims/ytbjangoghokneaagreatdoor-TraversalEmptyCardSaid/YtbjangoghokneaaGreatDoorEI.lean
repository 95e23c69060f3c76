/-
  XL7E.
  No condition.
-/
import Derived.Test.YtbjangoghokneaaGreatDoorEG
import Derived.Test.YtbjangoghokneaaGreatDoorEH
set_option linter.unusedVariables false
set_option linter.unusedSimpArgs false
namespace Go.Mono
open Go Go.Proofs Go.RowKit Go.Gr
theorem a2X (W:World):Calls Tryz.prog 14 #[.pointer none] W (Post (Dv (slE edE) G0 []) W):=by
 refine eN [.pointer none] [E (.pointer none)] Tryz.func14 Tryz.ntmps14 ?_ fun a hf=>?_
 rotate_left
 rotate_right
 ·exact arg1 rfl
 have e:=Ext.rfl' W
 refine seq <| ab <| tA hf rfl fun a hf=>aa ?_
 refine seq <| seq ?_
 refine rgN 2 hf <| st (mv rfl) <| st (iz U26 rfl rfl (.inl rfl)) <| en fun a w e' hf=>?_
 replace e:=e.tr e'
 refine aa <| ifT hf rfl ?_
 refine seq <| ab <| tA hf rfl fun a hf=>aa <| ai <| am rfl hf rfl ?_
 rintro _ rfl
 exact⟨_,rfl,e,Dv.nil⟩
theorem a2Y (W:World):Calls Tryz.prog 38 #[.pointer none] W (Post (Dv (slE edE) G0 []) W):=by
 refine eN [.pointer none] [E (.pointer none)] Tryz.func38 Tryz.ntmps38 ?_ fun a hf=>?_
 rotate_left
 rotate_right
 ·exact arg1 rfl
 have e:=Ext.rfl' W
 refine seq <| ab <| tA hf rfl fun a hf=>aa ?_
 refine seq <| seq ?_
 refine rgN 2 hf <| st (mv rfl) <| st (iz U26 rfl rfl (.inl rfl)) <| en fun a w e' hf=>?_
 replace e:=e.tr e'
 refine aa <| ifT hf rfl ?_
 refine seq <| ab <| tA hf rfl fun a hf=>aa <| ai <| am rfl hf rfl ?_
 rintro _ rfl
 exact⟨_,rfl,e,Dv.nil⟩
theorem a2Z (W:World):Calls Tryz.prog 36 #[.pointer none] W (Post (Dv (slE intE) G0 []) W):=by
 refine cO (args:=[.pointer none]) (As:=[E (.pointer none)]) Tryz.func36 rfl Tryz.ntmps36 (Nat.le_of_ble_eq_true rfl) ?_ (fun a hf=>?_) (Nat.le_of_ble_eq_true rfl)
 ·exact arg1 rfl
 have e:=Ext.rfl' W
 refine seq <| ab <| tL I35 hf fun a b2 w e' hb2 hs2 B2 hf=>?_
 replace e:=e.tr e'
 refine aa ?_
 refine seq <| seq ?_
 refine rgN 2 hf <| st (mv rfl) <| st (iz U26 rfl rfl (.inl rfl)) <| en fun a w e' hf=>?_
 obtain⟨e,B2⟩:=up2 e' e B2
 refine aa <| ifT hf rfl ?_
 replace hf:=hf.kp [2]
 refine seq <| ab <| aI T35 hf rfl rfl rfl B2 Nat.zero_lt_one fun w hg hsz B2 hf=>?_
 replace e:=e.gr hg (by omega);clear hg
 refine aa <| ai <| dI (D:=[]) rfl T35 hf rfl B2 (Ds.nil _) ⟨_,rfl,e,Dv.nil⟩
section
variable {N:Nat}{v:Value}{W:World}
theorem a3a (h:(Gn N gE).p v W)(hT:Tab W)(hN:N≤1000000):Calls Tryz.prog 14 #[v] W (Post (Dv (slE edE) G0 []) W):=by
 rcases h with ⟨rfl,_⟩|h
 ·exact a2X W
 ·exact rP gE okE v W hT h (Nat.zero_le _) (Nat.zero_le _) hN
theorem a3b (h:(Gn N gE).p v W)(hN:N≤1000000):Calls Tryz.prog 38 #[v] W (Post (Dv (slE edE) G0 []) W):=by
 rcases h with ⟨rfl,_⟩|h
 ·exact a2Y W
 ·exact a2R v W h hN
theorem a3c (h:(Gn N gE).p v W)(hT:Tab W)(hN:N≤1000000):Calls Tryz.prog 36 #[v] W (Post (Dv (slE intE) G0 []) W):=by
 rcases h with ⟨rfl,_⟩|h
 ·exact a2Z W
 ·have h1:=rz gE okE v W hT h (Nat.zero_le _) (Nat.zero_le _) hN
  rw[a1C] at h1
  exact h1.mono fun en w' ⟨u,k1,k2,k3⟩=>⟨u,k1,k2,by obtain rfl:u=.slice none 0 0:=k3;exact Dv.nil⟩
theorem a3d (h:(Gn N gE).p v W)(hT:Tab W)(hN:N≤1000000):Calls Tryz.prog 25 #[v] W (Post (Dv (slE intE) G0 []) W):=by
 have h1:=mH gE okE v W hT h (Nat.zero_le _) (Nat.zero_le _) hN
 rw[a1B] at h1
 exact h1.mono fun en w' ⟨u,k1,k2,k3⟩=>⟨u,k1,k2,by obtain rfl:u=.slice none 0 0:=k3;exact Dv.nil⟩
end
theorem ShW.put {ty te N n c:Nat}{v:Value}{w w':World}{cs:Array Value}{x:Value}(h:ShW ty te N n v w)(hn:ty≠te)(hc:Blk w c cs te)(hg:w.grownBy w' (some c))(hb:Blk w' c (cs.setIfInBounds 0 x) te)(hs:0<cs.size):ShW ty te N n v w':=by
 rcases h with h|⟨b,cap,cur,rfl,h2,h3,h4,h5,h6⟩
 ·exact .inl h
 ·exact ShW.wr hn h2 h3 h4 h5 h6 hc hg hb hs
theorem ShW.lit {ty te N n:Nat}{v:Value}{w:World}(h:ShW ty te N n v w):∃ad cap,v=.slice ad n cap:=by
 rcases h with ⟨rfl,h⟩|⟨b,cap,cur,h,_⟩
 ·exact⟨_,_,h⟩
 ·exact⟨_,_,h⟩
theorem a3e {w0:World}{L:Env}{dst:Option Tmp}{ty:TypeId}{pos:String}{aft:Array Edge}{g:Option (Nat×Bool)}{x:Operand}{gx:GT}(hx:Is L w0 x (Dv (ptE (grE 0)) G0 (some gx))) :
  OpC Tryz.prog w0 L ⟨dst,.buildSlice 69 2 #[(0,.const (.pointer none)),(1,x)],ty,pos,aft,g⟩ (Dv (slE (ptE (grE 0))) G0 [none,some gx]):=
 eU (e:=ptE (grE 0)) (G:=G0) (zs:=[none,some gx]) (xs:=[.const (.pointer none),x]) U69 I26 rfl rfl (by decide) (by decide) rfl (fun b hb=>hb.elim) ⟨isE rfl (Dv.pt0.2 rfl),hx,trivial⟩
theorem a3f {g:GT}(ok:Gr.Ok g):∀L∈ptF g,L≠[]:=fun L hL h=>by
 obtain⟨v,hv,rfl⟩:=List.mem_map.1 hL
 have hv1:=(aL.1 (List.mem_filter.1 hv).1).1
 have h1:(v:Int)∈elL (cpt (nbA g) v):=dh.2 (aL.2 ⟨hv1,ea hv1⟩)
 rw[h] at h1;cases h1
set_option maxRecDepth 10000 in
set_option maxHeartbeats 1600000 in
theorem law7E_spec {G:Nat→Prop}(g:GT)(a0 c0:Int)(v:Value)(W:World)(hT:Tab W)(h:(Dv gtE G g).p v W)(hV:∀x∈g.1,0≤x.2.1∧x.2.1<256)(hE:∀x∈g.2,0≤x.2.1∧x.2.1<256) :
  Calls Tryz.prog 10 #[v,I a0,I c0] W (Post (E (B true)) W):=by
 have hT0:=hT.lt
 obtain⟨u1,u2,rfl,h1,h2⟩:=Dv.gt.1 (Dv.weak (G':=G0) h fun b _ hb=>hb.elim)
 have hg0:(Dv gtE G0 g).p (.agg #[u1,u2]) W:=Dv.gt.2 ⟨_,_,rfl,h1,h2⟩
 refine eN [.agg #[u1,u2],I a0,I c0] [E (.agg #[u1,u2]),E (I a0),E (I c0)] Tryz.func10 Tryz.ntmps10 ?_ fun a hf=>?_
 rotate_left
 rotate_right
 ·exact dH rfl rfl rfl
 have e:=Ext.rfl' W
 refine seq <| ab <| tB hf rfl fun a b3 w v3 hv3 e' hb3 hs3 B3 hf=>?_
 obtain⟨hT,e⟩:=up2 e' hT e
 refine tA hf rfl fun a hf=>aa ?_
 cases hv3
 replace hf:=hf.keep [1,2,3]
 refine seq <| rgN 2 hf <| st (gN (A:=Dv (ptE (grE 0)) G0 (some gE)) ol (fun w he=>(pA w).mono fun en w' ⟨bg,bv,be,k1,k2,k3,k4,k5,k6⟩=>⟨_,k1,k2,k6.dv (Nat.le_refl _) (fun h=>h) (fun h=>h) (fun h=>h)⟩)) <| st (a3e (isR rfl)) <| en fun a w e' hf=>?_
 obtain⟨hT,e,B3⟩:=up3 e' hT e B3
 refine tA hf rfl fun a hf=>aa ?_
 replace hf:=hf.keep [1,2,3,7]
 refine seq <| seq ?_
 refine ab <| tA hf rfl fun a hf=>aa ?_
 have ln:(0:Nat)≤1000000:=Nat.zero_le _
 have lz:∀n:Nat,n≤100000↔n≤100000:=fun _=>Iff.rfl
 replace hf:=hf.keep [1,2,3,7,8]
 refine blk (aF (fun r0 a w=>∃(k:Nat) ,r0=2 - k∧k≤2∧Fr 171 a w [(1,E (I a0)),(2,E (I c0)),(3,E (ptr b3)),(7,Dv (slE (ptE (grE 0))) G0 [none,some gE]),(8,E (I k))]∧Ext W w∧Blk w b3 #[u1,u2] 25∧Tab w) 2 ⟨0,rfl,by omega,hf,e,⟨B3,hT⟩⟩ ?_)
 rintro r0 a w ⟨k,rfl,hk,hf,e,B3,hT⟩
 refine seq <| seq ?_
 refine rgN 4 hf <| st (mv rfl) <| st (mv rfl) <| st ((aB U69 (isR rfl)).eq ((show Value.int .i64 ((([none,some gE]:List (Option GT)).length:Nat):Int)=Value.int .i64 ((2:Nat):Int) from rfl))) <| st (lss rfl rfl) <| en fun a w e' hf=>?_
 obtain⟨hT,e,B3⟩:=up3 e' hT e B3
 refine aa <| ifc hf rfl (fun hc=>ah ?_) (fun hc=>aC ?_)
 rotate_left
 rotate_left
 ·have hlt:=ltC hc
  replace hf:=hf.keep [1,2,3,7,8]
  refine seq <| blk ?_
  have hx:=List.getElem?_eq_getElem (show k<([none,some gE]:List (Option GT)).length from hlt)
  have ho:∀o,([none,some gE]:List (Option GT))[k]?=some o→o=none∨o=some gE:=fun o h=>by
   have:=List.mem_of_getElem? h
   simpa using this
  generalize ([none,some gE]:List (Option GT))[k]=o at hx
  replace ho:=ho o hx
  refine seq <| rgN 4 hf <| st (mv rfl) <| st (mv rfl) <| st (aD U69 S26 (isR rfl) rfl (by omega) (hx)) <| st (ldD T26 (isR rfl)) <| en fun a w e' hf=>?_
  obtain⟨hT,e,B3⟩:=up3 e' hT e B3
  refine tA hf rfl fun a hf=>aa ?_
  obtain⟨xv,hxv,hf⟩:=hf.opn 9 rfl
  have hgn:(Gn 0 gE).p xv w:=by
   rcases ho with rfl|rfl
   ·exact .inl ⟨Dv.pt0.1 hxv,rfl⟩
   ·exact .inr hxv
  obtain⟨W5,hW5⟩:=eqX w
  have e5:Ext W5 w:=by rw[hW5];exact Ext.rfl' _
  rw[← hW5] at hgn
  replace hf:=hf.keep [1,2,3,7,8,9]
  have e6:=e5
  refine seq <| rgN 5 hf <| st (mv rfl) <| st (ak (A:=Tup [Dv (slE intE) G0 [],E (B true)]) (B:=E xv) oe rfl (fun v w he k=>by cases k;have h9:=sc gE okE xv w (hT.ext he) (vst (e6.tr he) hgn) (Nat.zero_le _) (Nat.zero_le _) ln;rw[sQ.1,sQ.2] at h9;exact h9)) ?_
  refine st (mv rfl) <| st (aV rfl rfl) <| st (aV rfl rfl) <| en fun a w e' hf=>?_
  obtain⟨hT,e5,e,B3⟩:=up4 e' hT e5 e B3
  refine tA hf rfl fun a hf=>tA hf rfl fun a hf=>aa ?_
  replace hf:=hf.keep [1,2,3,7,8,9,10,11]
  have e7:=e5
  refine seq <| rgN 75 hf <| st (mv rfl) <| st (ak (A:=Dv (slE (slE intE)) G0 []) (B:=E xv) jg rfl (fun v w he k=>by cases k;have h9:=tx gE okE xv w (hT.ext he) (vst (e7.tr he) hgn) (Nat.zero_le _) (Nat.zero_le _) ln;rw[a1y] at h9;exact h9)) ?_
  refine st (aB U39 (isR rfl)) <| st ((neq rfl rfl).eq (congrArg Value.bool (bne_self_eq_false _))) <| st (mv rfl) <| sy rfl rfl (mv rfl) <| sy rfl rfl (mv rfl) <| sy rfl rfl (mv rfl) <| sy rfl rfl (bX (A:=E (B false)) (B:=E xv) (C:=E (I a0)) (D:=E (I c0)) uM rfl rfl rfl (fun v u s w he k1 k2 k3=>by cases k1;cases k2;cases k3;have h9:=a2W gE okE a0 c0 xv w (hT.ext he) (vst (e7.tr he) hgn) (Nat.zero_le _) (Nat.zero_le _) ln;rw[a1w] at h9;exact h9)) ?_
  refine st (pkF rfl rfl) <| st (mv rfl) <| sy rfl rfl (mv rfl) <| sy rfl rfl (mv rfl) <| sy rfl rfl (mv rfl) <| sy rfl rfl (bX (A:=E (I (-1))) (B:=E xv) (C:=E (I a0)) (D:=E (I c0)) kV rfl rfl rfl (fun v u s w he k1 k2 k3=>by cases k1;cases k2;cases k3;have h9:=mG gE okE a0 c0 xv w (hT.ext he) (vst (e7.tr he) hgn) (Nat.zero_le _) (Nat.zero_le _) ln;rw[sP] at h9;exact h9)) ?_
  refine sy rfl rfl ((neq rfl rfl).eq (congrArg Value.bool (bne_self_eq_false _))) <| st (pkF rfl rfl) <| st (mv rfl) <| sy rfl rfl (mv rfl) <| sy rfl rfl (mv rfl) <| sy rfl rfl (mv rfl) <| sy rfl rfl (bX (A:=Dv (slE intE) G0 []) (B:=E xv) (C:=E (I a0)) (D:=E (I c0)) og rfl rfl rfl (fun v u s w he k1 k2 k3=>by cases k1;cases k2;cases k3;have h9:=rT gE okE a0 c0 xv w (hT.ext he) (vst (e7.tr he) hgn) (Nat.zero_le _) (Nat.zero_le _) ln;rw[a1x] at h9;exact h9)) ?_
  refine sy rfl rfl (aB U35 (isR rfl)) <| sy rfl rfl ((neq rfl rfl).eq (congrArg Value.bool (bne_self_eq_false _))) <| st (pkF rfl rfl) <| st (mv rfl) <| sy rfl rfl (mv rfl) <| sy rfl rfl (ak (A:=E (I (-1))) (B:=E xv) oh rfl (fun v w he k=>by cases k;have h9:=sH gE okE xv w (hT.ext he) (vst (e7.tr he) hgn) (Nat.zero_le _) (Nat.zero_le _) ln;rw[a1D] at h9;exact h9)) ?_
  refine sy rfl rfl ((neq rfl rfl).eq (congrArg Value.bool (bne_self_eq_false _))) <| st (pkF rfl rfl) <| st (mv rfl) <| sy rfl rfl (mv rfl) <| sy rfl rfl (ak (A:=Dv (slE edE) G0 []) (B:=E xv) oc rfl (fun v w he k=>by cases k;exact a3a (vst (e7.tr he) hgn) (hT.ext he) ln)) ?_
  refine sy rfl rfl (aB U31 (isR rfl)) <| sy rfl rfl ((neq rfl rfl).eq (congrArg Value.bool (bne_self_eq_false _))) <| st (pkF rfl rfl) <| st (mv rfl) <| sy rfl rfl (mv rfl) <| sy rfl rfl (ak (A:=Dv (slE intE) G0 []) (B:=E xv) od rfl (fun v w he k=>by cases k;have h9:=rQ gE okE xv w (hT.ext he) (vst (e7.tr he) hgn) (Nat.zero_le _) (Nat.zero_le _) ln;rw[a1z] at h9;exact h9)) ?_
  refine sy rfl rfl (aB U35 (isR rfl)) <| sy rfl rfl ((neq rfl rfl).eq (congrArg Value.bool (bne_self_eq_false _))) <| st (pkF rfl rfl) <| st (mv rfl) <| sy rfl rfl (mv rfl) <| sy rfl rfl (ak (A:=Dv (slE (slE intE)) G0 []) (B:=E xv) jc rfl (fun v w he k=>by cases k;have h9:=mQ gE okE xv w (hT.ext he) (vst (e7.tr he) hgn) (Nat.zero_le _) (Nat.zero_le _) ln;rw[a1A] at h9;exact h9)) ?_
  refine sy rfl rfl (aB U39 (isR rfl)) <| sy rfl rfl ((neq rfl rfl).eq (congrArg Value.bool (bne_self_eq_false _))) <| st (pkF rfl rfl) <| st (mv rfl) <| sy rfl rfl (mv rfl) <| sy rfl rfl (aB U35 (isR rfl)) <| sy rfl rfl ((neq rfl rfl).eq (congrArg Value.bool (bne_self_eq_false _))) <| st (pkF rfl rfl) <| st (mv rfl) <| sy rfl rfl (mv rfl) <| sy rfl rfl (aY rfl) <| st (pkF rfl rfl) <| st (mv rfl) <| sy rfl rfl (mv rfl) <| sy rfl rfl (ak (A:=Dv (slE intE) G0 []) (B:=E xv) kU rfl (fun v w he k=>by cases k;exact a3d (vst (e7.tr he) hgn) (hT.ext he) ln)) ?_
  refine sy rfl rfl (aB U35 (isR rfl)) <| sy rfl rfl ((neq rfl rfl).eq (congrArg Value.bool (bne_self_eq_false _))) <| st (pkF rfl rfl) <| st (mv rfl) <| sy rfl rfl (mv rfl) <| sy rfl rfl (ak (A:=Dv (slE intE) G0 []) (B:=E xv) oi rfl (fun v w he k=>by cases k;exact a3c (vst (e7.tr he) hgn) (hT.ext he) ln)) ?_
  refine sy rfl rfl (aB U35 (isR rfl)) <| sy rfl rfl ((neq rfl rfl).eq (congrArg Value.bool (bne_self_eq_false _))) <| st (pkF rfl rfl) <| st (mv rfl) <| sy rfl rfl (mv rfl) <| sy rfl rfl (ak (A:=Dv (slE edE) G0 []) (B:=E xv) uN rfl (fun v w he k=>by cases k;exact a3b (vst (e7.tr he) hgn) ln)) ?_
  refine sy rfl rfl (aB U31 (isR rfl)) <| sy rfl rfl ((neq rfl rfl).eq (congrArg Value.bool (bne_self_eq_false _))) <| st (pkF rfl rfl) <| en fun a w e' hf=>?_
  obtain⟨hT,e5,e,B3⟩:=up4 e' hT e5 e B3
  refine aa <| ifF hf rfl ?_
  refine ah <| rgN 2 hf <| st (mv rfl) <| st ((add rfl rfl (by omega)).eq (iN k)) <| en fun a w e' hf=>?_
  obtain⟨hT,e5,e,B3⟩:=up4 e' hT e5 e B3
  refine tA hf rfl fun a hf=>aa ?_
  replace hf:=hf.keep [1,2,3,7,8]
  refine⟨_,?_,k+1,rfl,by omega,hf,e,?_⟩
  ·omega
  exact⟨B3,hT⟩
 ·obtain rfl:=dnE hc hk
  replace hf:=hf.keep [3]
  have e1:=e
  refine seq <| rgN 5 hf <| st ((ldW T25 rfl B3 rfl).eq ((rfl:_=Value.agg #[u1,u2]))) <| st (ak (A:=Tup [FrM g,Dv gtE G0 (frM g).1]) uI rfl (fun v w he k1=>by cases k1;exact a1n g _ w (vst (e1.tr he) hg0) hV hE)) ?_
  refine st (mv rfl) <| st (aV rfl rfl) <| st (aV rfl rfl) <| en fun a w e' hf=>?_
  obtain⟨hT,e,B3⟩:=up3 e' hT e B3
  obtain⟨z,hz,hf⟩:=hf.opn 115 rfl
  obtain⟨z1,z2,rfl,hz1,hz2⟩:=Dv.gt.1 hz
  have hzo:(#[z1,z2]:Array Value).all (·.oneCell')=true:=bk (slOne hz1) (slOne hz2)
  obtain⟨gv,hgv,hf⟩:=hf.opn 114 rfl
  obtain⟨W1,hW1⟩:=eqX w
  have e2:Ext W1 w:=by rw[hW1];exact Ext.rfl' _
  replace hgv:(FrM g).p gv W1:=by rw[hW1];exact hgv
  have hzz:(Dv gtE G0 (frM g).1).p (.agg #[z1,z2]) W1:=by rw[hW1];exact hz
  have hWW:W1.heap.size≤w.heap.size:=e2.size
  have hW0:W.heap.size≤W1.heap.size:=by rw[hW1];exact e.size
  replace hf:=hf.kp [114,115]
  refine tL I25 hf fun a b13 w e' hb13 hs13 B13 hf=>?_
  obtain⟨hT,e2,e⟩:=up3 e' hT e2 e
  refine tA hf rfl fun a hf=>?_
  have n13:W1.heap.size≤b13:=by omega
  refine az T25 hf rfl rfl hzo B13 rfl rfl fun w hg hsz B13 hf=>?_
  obtain⟨e,hT⟩:=gr2 hg e hT
  replace e2:=e2.gr hg n13
  refine aa ?_
  replace hf:=hf.kp [12,13]
  cases hfr':(frM g).2 with
  | false=>
   obtain rfl:=hgv.2 hfr'
   refine seq <| seq ?_
   refine rgN 2 hf <| st (mv rfl) <| st (iz U26 rfl rfl (.inl rfl)) <| en fun a w e' hf=>?_
   obtain⟨hT,e2,e,B13⟩:=up4 e' hT e2 e B13
   refine aa <| ifT hf rfl ?_
   refine seq <| rgN 1 hf <| st (gN (A:=E (B true)) ob (fun w he=>sG w (hT.ext he))) <| en fun a w e' hf=>?_
   obtain⟨hT,e2,e,B13⟩:=up4 e' hT e2 e B13
   refine tA hf rfl fun a hf=>aa <| ai <| am rfl hf rfl ?_
   rintro _ rfl
   exact⟨_,rfl,e,rfl⟩
  | true=>
   obtain⟨ok,l1,l2⟩:=a2T hfr' hV hE
   have hgd:=hgv.1 hfr'
   generalize (frM g).1=gg at ok l1 l2 hgd hzz
   have hl1:gg.1.length≤100000:=by omega
   have hl2:gg.2.length≤100000:=by omega
   refine seq <| seq ?_
   refine rgN 2 hf <| st (mv rfl) <| st (dm U26 (isE rfl (vst e2 hgd))) <| en fun a w e' hf=>?_
   obtain⟨hT,e2,e,B13⟩:=up4 e' hT e2 e B13
   refine aa <| ifF hf rfl ?_
   refine ah ?_
   replace hf:=hf.kp [12,13]
   have e3:=e2
   refine seq <| rgN 2 hf <| st (mv rfl) <| st (ak (A:=Dv (ptE (grE 2000)) G0 (some gg)) (B:=E gv) uP rfl (fun v w he k=>by cases k;exact a2O gg gv w (vst (e3.tr he) hgd))) ?_
   refine en fun a w e' hf=>?_
   obtain⟨hT,e2,e,B13⟩:=up4 e' hT e2 e B13
   refine tA hf rfl fun a hf=>aa ?_
   obtain⟨ov,hov,hf⟩:=hf.opn 14 rfl
   obtain⟨W4,hW4⟩:=eqX w
   have e4:Ext W4 w:=by rw[hW4];exact Ext.rfl' _
   replace hov:(Dv (ptE (grE 2000)) G0 (some gg)).p ov W4:=by rw[hW4];exact hov
   have hg4:(Dv (ptE (grE 2000)) G0 (some gg)).p gv W4:=by rw[hW4];exact vst e2 hgd
   have hn4:(Gn 2000 gg).p gv W4:=Gn.of hg4
   have hz4:(Dv gtE G0 gg).p (.agg #[z1,z2]) W4:=by rw[hW4];exact vst e2 hzz
   have B4:Blk W4 b13 #[z1,z2] 25:=by rw[hW4];exact B13
   have hT4:Tab W4:=by rw[hW4];exact hT
   have hWW4:W.heap.size≤W4.heap.size:=by rw[hW4];exact e.size
   obtain⟨N4,hN4⟩:=eqX W4.heap.size
   have hNe:∀L∈bccF (nbA gg) (vset gg.1),L≠[]:=(a2g ok).2
   have hNp:∀L∈(prF (nbA gg) (card (vset gg.1)) (vset gg.1)).map elL,L≠[]:=by rw[iH ok];exact a3f ok
   obtain⟨hDl,hDe⟩:=a2B ok l1 l2
   have hpl:((prF (nbA gg) (card (vset gg.1)) (vset gg.1)).map elL).length≤100000:=by rw[iH ok];exact Nat.le_trans (tw ok) (by omega)
   obtain⟨D,hD⟩:=eqX (bccF (nbA gg) (vset gg.1))
   obtain⟨ps,hps⟩:=eqX ((prF (nbA gg) (card (vset gg.1)) (vset gg.1)).map elL)
   rw[← hD] at hNe hDl hDe
   rw[← hps] at hNp hpl
   have f4:=e4
   replace hf:=hf.keep [12,13,14]
   refine seq <| rgN 4 hf <| st (mv rfl) <| st (ak (A:=jN (bV 3) 35 N4 (fun b=>b<N4) ps) (B:=E gv) jg rfl (fun v w he k=>by cases k;have hs:=(f4.tr he).size;rw[hps];exact (ra gg gv w (hT4.ext (f4.tr he)) (vst (f4.tr he) hn4) ok.sv ok.se hl1 hl2 (by omega)).mono fun en w' ⟨u,k1,k2,k3⟩=>⟨u,k1,k2,(OwX.low k3 (by omega)).weak fun b _ hb=>by omega⟩)) ?_
   refine st (mv rfl) <| st (ak (A:=jN (bV 3) 35 N4 (fun b=>b<N4) D) (B:=E gv) jc rfl (fun v w he k=>by cases k;have hs:=(f4.tr he).size;rw[hD];exact (sD gg ok gv w (hT4.ext (f4.tr he)) (vst (f4.tr he) hn4) hl1 hl2 (by omega)).mono fun en w' ⟨u,k1,k2,k3⟩=>⟨u,k1,k2,(OwX.low k3 (by omega)).weak fun b _ hb=>by omega⟩)) ?_
   refine en fun a w e' hf=>?_
   obtain⟨e4,e⟩:=up2 e' e4 e
   refine tA hf rfl fun a hf=>tA hf rfl fun a hf=>aa ?_
   obtain⟨pv,hpv,hf⟩:=hf.opn 15 rfl
   obtain⟨qv,hqv,hf⟩:=hf.opn 16 rfl
   have SP:ShW 35 3 N4 ps.length pv w:=OwX.sh hpv (fun b hb=>hb) hNp
   have SQ:ShW 35 3 N4 D.length qv w:=OwX.sh hqv (fun b hb=>hb) hNe
   have n35:(35:Nat)≠3:=by decide
   have href:=tg ok
   rw[← hD] at href
   have hpr:=iH ok
   rw[← hps] at hpr
   obtain⟨pt,hpt⟩:=eqX (ptF gg)
   have hpt1:pt.length≤100000:=by rw[hpt];exact Nat.le_trans (tw ok) (by omega)
   have hpt2:∀x∈pt,x.length≤100000:=by rw[hpt];exact a2V
   have d1:decide (D=D)=true:=decide_eq_true rfl
   have d2:decide (pt=pt)=true:=decide_eq_true rfl
   obtain⟨ap,cp,rfl⟩:=SP.lit
   obtain⟨aq,cq,rfl⟩:=SQ.lit
   obtain⟨np,hnp⟩:=eqX ps.length
   obtain⟨nq,hnq⟩:=eqX D.length
   rw[← hnp] at hpl SP hf
   rw[← hnq] at hDl SQ hf
   have hDl':D.length≤100000:=by omega
   replace hf:=hf.keep [12,13,14,15,16]
   refine seq <| seq ?_
   refine ab <| tA hf rfl fun a hf=>aa ?_
   replace hf:=hf.keep [12,13,14,15,16,17]
   refine blk (aF (fun r0 a w=>∃(k:Nat) ,r0=np - k∧k≤np∧Fr 171 a w [(12,E gv),(13,E (ptr b13)),(14,E ov),(15,E (.slice ap np cp)),(16,E (.slice aq nq cq)),(17,E (I k))]∧Ext W w∧Ext W4 w∧ShW 35 3 N4 np (.slice ap np cp) w∧ShW 35 3 N4 nq (.slice aq nq cq) w) np ⟨0,rfl,by omega,hf,e,⟨e4,SP,SQ⟩⟩ ?_)
   rintro r0 a w ⟨k,rfl,hk,hf,e,e4,SP,SQ⟩
   refine seq <| seq ?_
   refine rgN 4 hf <| st (mv rfl) <| st (mv rfl) <| st (eG U39 rfl) <| st (lss rfl rfl) <| en fun a w e' hf=>?_
   replace e4:=e4.tr e'
   replace SP:=SP.ext e'
   replace SQ:=SQ.ext e'
   replace e:=e.tr e'
   refine aa <| ifc hf rfl (fun hc=>ah ?_) (fun hc=>aC ?_)
   rotate_left
   rotate_left
   ·have hlt:=ltC hc
    replace hf:=hf.kp [12,13,14,15,16,17]
    refine seq <| blk ?_
    have S0:=SP
    rcases S0 with ⟨h0,_⟩|⟨b,cap,cur,hv,h2,h3,h4,h5,h6⟩
    ·omega
    cases hv
    obtain⟨c,m,p,cs,a1,a2,a3,a4,a5⟩:=h6 k hlt
    refine rgN 5 hf <| st (mv rfl) <| st (mv rfl) <| st ((idxS U39 S35 rfl rfl (by omega)).eq (atZ)) <| st (ld1 (v:=.slice (some ⟨c,0,none⟩) m p) T35 rfl h2 a1) <| st ((idxS U35 S3 rfl rfl (by omega)).eq ((show Value.pointer (some ⟨c,0+(0:Int).toNat * 1,none⟩)=Value.pointer (some ⟨c,0,none⟩) from rfl))) <| en fun a w e' hf=>?_
    replace e4:=e4.tr e'
    replace SP:=SP.ext e'
    replace SQ:=SQ.ext e'
    replace a4:=a4.ext e'
    replace e:=e.tr e'
    refine aI T3 hf rfl rfl rfl a4 a5 fun w hg hsz Bc hf=>?_
    replace SP:=SP.put n35 a4 hg Bc a5
    replace SQ:=SQ.put n35 a4 hg Bc a5
    replace e:=e.gr hg (by omega);replace e4:=e4.gr hg (by omega);clear hg a4 Bc
    refine aa <| rgN 2 hf <| st (mv rfl) <| st ((add rfl rfl (by omega)).eq (iN k)) <| en fun a w e' hf=>?_
    replace e4:=e4.tr e'
    replace SP:=SP.ext e'
    replace SQ:=SQ.ext e'
    replace e:=e.tr e'
    refine tA hf rfl fun a hf=>aa ?_
    replace hf:=hf.kp [12,13,14,15,16,17]
    refine⟨_,?_,k+1,rfl,by omega,hf,e,?_⟩
    ·omega
    exact⟨e4,SP,SQ⟩
   ·obtain rfl:np=k:=by have:=of_decide_eq_false hc;(try dsimp only at this);omega
    replace hf:=hf.kp [12,13,14,16]
    refine seq <| seq ?_
    refine ab <| tA hf rfl fun a hf=>aa ?_
    replace hf:=hf.kp [12,13,14,16,18]
    refine blk (aF (fun r0 a w=>∃(k:Nat) ,r0=nq - k∧k≤nq∧Fr 171 a w [(12,E gv),(13,E (ptr b13)),(14,E ov),(16,E (.slice aq nq cq)),(18,E (I k))]∧Ext W w∧Ext W4 w∧ShW 35 3 N4 nq (.slice aq nq cq) w) nq ⟨0,rfl,by omega,hf,e,⟨e4,SQ⟩⟩ ?_)
    rintro r0 a w ⟨k,rfl,hk,hf,e,e4,SQ⟩
    refine seq <| seq ?_
    refine rgN 4 hf <| st (mv rfl) <| st (mv rfl) <| st (eG U39 rfl) <| st (lss rfl rfl) <| en fun a w e' hf=>?_
    replace e4:=e4.tr e'
    replace SQ:=SQ.ext e'
    replace e:=e.tr e'
    refine aa <| ifc hf rfl (fun hc=>ah ?_) (fun hc=>aC ?_)
    rotate_left
    rotate_left
    ·have hlt:=ltC hc
     replace hf:=hf.kp [12,13,14,16,18]
     refine seq <| blk ?_
     have S0:=SQ
     rcases S0 with ⟨h0,_⟩|⟨b,cap,cur,hv,h2,h3,h4,h5,h6⟩
     ·omega
     cases hv
     obtain⟨c,m,p,cs,a1,a2,a3,a4,a5⟩:=h6 k hlt
     refine rgN 5 hf <| st (mv rfl) <| st (mv rfl) <| st ((idxS U39 S35 rfl rfl (by omega)).eq (atZ)) <| st (ld1 (v:=.slice (some ⟨c,0,none⟩) m p) T35 rfl h2 a1) <| st ((idxS U35 S3 rfl rfl (by omega)).eq ((show Value.pointer (some ⟨c,0+(0:Int).toNat * 1,none⟩)=Value.pointer (some ⟨c,0,none⟩) from rfl))) <| en fun a w e' hf=>?_
     replace e4:=e4.tr e'
     replace SQ:=SQ.ext e'
     replace a4:=a4.ext e'
     replace e:=e.tr e'
     refine aI T3 hf rfl rfl rfl a4 a5 fun w hg hsz Bc hf=>?_
     replace SQ:=SQ.put n35 a4 hg Bc a5
     replace e:=e.gr hg (by omega);replace e4:=e4.gr hg (by omega);clear hg a4 Bc
     refine aa <| rgN 2 hf <| st (mv rfl) <| st ((add rfl rfl (by omega)).eq (iN k)) <| en fun a w e' hf=>?_
     replace e4:=e4.tr e'
     replace SQ:=SQ.ext e'
     replace e:=e.tr e'
     refine tA hf rfl fun a hf=>aa ?_
     replace hf:=hf.kp [12,13,14,16,18]
     refine⟨_,?_,k+1,rfl,by omega,hf,e,?_⟩
     ·omega
     exact⟨e4,SQ⟩
    ·obtain rfl:nq=k:=by have:=of_decide_eq_false hc;(try dsimp only at this);omega
     replace hf:=hf.keep [12,13,14]
     have f4:=e4
     refine seq <| rgN 2 hf <| st (mv rfl) <| st (ak (A:=Any) (B:=E gv) kU rfl (fun v w he k=>by cases k;exact (mH gg ok gv w (hT4.ext (f4.tr he)) (vst (f4.tr he) hn4) hl1 hl2 (by omega)).mono fun en w' ⟨u,k1,k2,k3⟩=>⟨u,k1,k2,trivial⟩)) ?_
     refine en fun a w e' hf=>?_
     obtain⟨e4,e⟩:=up2 e' e4 e
     refine aa ?_
     replace hf:=hf.keep [12,13,14]
     have f4:=e4
     refine seq <| rgN 2 hf <| st (mv rfl) <| st (ak (A:=Any) (B:=E gv) oh rfl (fun v w he k=>by cases k;exact (sH gg ok gv w (hT4.ext (f4.tr he)) (vst (f4.tr he) hn4) hl1 hl2 (by omega)).mono fun en w' ⟨u,k1,k2,k3⟩=>⟨u,k1,k2,trivial⟩)) ?_
     refine en fun a w e' hf=>?_
     obtain⟨e4,e⟩:=up2 e' e4 e
     refine aa ?_
     replace hf:=hf.keep [12,13,14]
     have f4:=e4
     refine seq <| rgG 20 Mix.mix hf <| st (mv rfl) <| st (mv rfl) <| st (aw (A:=E (B true)) (B:=E gv) (C:=E ov) uQ rfl rfl (fun v u w he k1 k2=>by cases k1;cases k2;exact a2L gg gg (List.Perm.refl _) (List.Perm.refl _) gv ov w (vst (f4.tr he) hg4) (vst (f4.tr he) hov))) ?_
     refine st (mv rfl) <| sy rfl rfl (mv rfl) <| sy rfl rfl (ak (A:=Dv (slE (slE intE)) G0 pt) (B:=E gv) jg rfl (fun v w he k=>by cases k;rw[hpt];exact tx gg ok gv w (hT4.ext (f4.tr he)) (vst (f4.tr he) hn4) hl1 hl2 (by omega))) ?_
     refine sy rfl rfl ((ldW T25 rfl (B4.ext e4) rfl).eq ((rfl:_=Value.agg #[z1,z2]))) <| sy rfl rfl (ak (A:=Dv (slE (slE intE)) G0 pt) (B:=E (.agg #[z1,z2])) uL rfl (fun v w he k=>by cases k;rw[hpt];exact a1u gg ok _ w (vst (f4.tr he) hz4) hl1 hl2 (fun b hb=>hb.elim))) ?_
     refine sy rfl rfl (aw (A:=E (B true)) (B:=Dv (slE (slE intE)) G0 pt) (C:=Dv (slE (slE intE)) G0 pt) jd rfl rfl (fun v u w he k k'=>by have:=kf pt pt v u w k k' hpt1 hpt1 hpt2 hpt2;rwa [d2] at this)) ?_
     refine st (pkT rfl rfl) <| st (mv rfl) <| sy rfl rfl (mv rfl) <| sy rfl rfl (ak (A:=Dv (slE (slE intE)) G0 D) (B:=E gv) jc rfl (fun v w he k=>by cases k;rw[hD];exact mQ gg ok gv w (hT4.ext (f4.tr he)) (vst (f4.tr he) hn4) hl1 hl2 (by omega))) ?_
     refine sy rfl rfl ((ldW T25 rfl (B4.ext e4) rfl).eq ((rfl:_=Value.agg #[z1,z2]))) <| sy rfl rfl (ak (A:=Dv (slE (slE intE)) G0 D) (B:=E (.agg #[z1,z2])) uK rfl (fun v w he k=>by cases k;rw[href];exact a2C gg ok _ w (vst (f4.tr he) hz4) l1 hl2)) ?_
     refine sy rfl rfl (aw (A:=E (B true)) (B:=Dv (slE (slE intE)) G0 D) (C:=Dv (slE (slE intE)) G0 D) jd rfl rfl (fun v u w he k k'=>by have:=kf D D v u w k k' hDl' hDl' (fun x hx=>by have:=hDe x hx;omega) (fun x hx=>by have:=hDe x hx;omega);rwa [d1] at this)) ?_
     refine st (pkT rfl rfl) <| st (mv rfl) <| sy rfl rfl (gN (A:=E (B true)) ob (fun w he=>sG w (hT4.ext (f4.tr he)))) <| st (pkT rfl rfl) <| en fun a w e' hf=>?_
     obtain⟨e4,e⟩:=up2 e' e4 e
     refine tA hf rfl fun a hf=>aa <| ai <| am rfl hf rfl ?_
     rintro _ rfl
     exact⟨_,rfl,e,rfl⟩
end Go.Mono
