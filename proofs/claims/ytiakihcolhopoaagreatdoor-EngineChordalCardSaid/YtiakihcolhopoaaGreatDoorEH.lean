/-
  Walks of functions and plain facts.
  No condition.
-/
import Derived.Test.YtiakihcolhopoaaGreatDoorEG
import Derived.Test.YtiakihcolhopoaaGreatDoorED
import Derived.Test.YtiakihcolhopoaaGreatDoorEA
import Derived.Test.YtiakihcolhopoaaGreatDoorEB
import Derived.Test.YtiakihcolhopoaaGreatDoorEF
import Derived.Test.YtiakihcolhopoaaGreatDoorEE
import Derived.Test.YtiakihcolhopoaaGreatDoorEC
set_option linter.unusedVariables false
set_option linter.unusedSimpArgs false
namespace Go.Mono
open Go Go.Proofs Go.RowKit Go.Gr Go.Ms
def e25:List ET:=[((0,1),(0,0)),((1,2),(0,0)),((2,3),(0,0)),((0,3),(0,0))]
def sE:Bool:=match cR (ringV 4) e25 with
 | some g=>g.1.isPerm (ap 4).1&&g.2.isPerm (ap 4).2
 | none=>false
theorem a1U:sE=true:=by decide +kernel
theorem a1V:∃g',cR (ringV 4) e25=some g'∧g'.1.Perm (ap 4).1∧g'.2.Perm (ap 4).2:=by
 have h:=a1U
 rw[sE] at h
 cases hb:cR (ringV 4) e25 with
 | none=>rw[hb] at h;cases h
 | some g=>
  rw[hb] at h
  simp only[Bool.and_eq_true,List.isPerm_iff] at h
  exact⟨g,rfl,h⟩
theorem v25:∀x∈ringV 4,okD (dV x):=fun x hx=>by
 have w0:(Lit.int .i64 0).wf=true:=by decide
 have w8:(Lit.int .u8 0).wf=true:=by decide
 obtain⟨i,hi,rfl⟩:=List.mem_map.1 hx
 have:=List.mem_range.1 hi
 exact⟨bH (show -9223372036854775808≤(i:Int) by omega) (show (i:Int)≤9223372036854775807 by omega),w0,w8,w0⟩
theorem x25:∀x∈e25,okD (dE x):=fun x hx=>by
 simp only[e25,List.mem_cons,List.not_mem_nil,or_false] at hx
 rcases hx with rfl|rfl|rfl|rfl <;> exact⟨by decide,by decide,by decide,by decide⟩
theorem a1W:[(0:Int),2].foldl ins 0=5#1024:=by decide +kernel
theorem a1X:[(1:Int),3].foldl ins 0=10#1024:=by decide +kernel
theorem a1Y {w0:World}{L:Env}{dst:Option Tmp}{ty:TypeId}{pos:String}{aft:Array Edge}{g:Option (Nat×Bool)}{x y:Operand}{yt:TypeId}(hx:opd L x=some (E (etV ((1,3),(0,0)))))(hy:opd L y=some (E (etV ((1,3),(0,0))))) :
  OpC Tryz.prog w0 L ⟨dst,.binOp .eql 36 x y yt,ty,pos,aft,g⟩ (E (.bool true)):=
 iV hx hy (fun w=>ji _ _ _ _ _ _ (by kernel_rfl) w) rfl fun w _=>a1w w
theorem a1Z {A A' B:VA}{v:Value}{w:World}(h:(Tup [A,B]).p v w)(hA:∀u,A.p u w→A'.p u w):(Tup [A',B]).p v w:=by
 obtain⟨vs,h1,h2,h3⟩:=h
 refine⟨vs,h1,h2,fun i C hC=>?_⟩
 match i,hC with
 | 0,hC=>simp at hC;subst hC;exact hA _ (h3 0 A rfl)
 | i+1,hC=>exact h3 (i+1) C (by simpa using hC)
set_option maxRecDepth 10000 in
theorem a2a (W:World)(hT:Tab W):Calls Tryz.prog 47 #[] W (Post (E (B true)) W):=by
 have hT0:=hT.lt
 have G4:=yH (n:=4) (by omega) (by omega)
 have hl1:(ap 4).1.length≤12:=by decide
 have hl2:(ap 4).2.length≤1000:=by decide
 have hc4:=c4
 refine enter (args:=[]) (As:=([]:List VA)) Tryz.func47 rfl Tryz.ntmps47 (Nat.le_of_ble_eq_true rfl) (fun i A h=>by simp at h) (fun a hf=>?_) (Nat.le_of_ble_eq_true rfl)
 dsimp only[params,Nat.reduceAdd] at hf
 have e:=Ext.rfl' W
 refine seq ?_
 refine aj ?_
 refine ae hf rfl (by decide) fun a hf=>?_
 refine aa ?_
 refine seq ?_
 refine ac 14 hf (by decide +kernel) ?_
 refine st (jJ _ rfl) ?_
 refine st (jJ _ rfl) ?_
 refine st (jJ _ rfl) ?_
 refine st (jJ _ rfl) ?_
 refine st (js (e:=vtE) (G:=G0) (zs:=ringV 4) (xs:=[.tmp 8,.tmp 9,.tmp 10,.tmp 11]) U53 I55 rfl rfl (by decide) (by decide) rfl (fun b hb=>hb.elim) ⟨dJ rfl,dJ rfl,dJ rfl,dJ rfl,trivial⟩) ?_
 refine st (iL _ _ rfl rfl) ?_
 refine st (iL _ _ rfl rfl) ?_
 refine st (iL _ _ rfl rfl) ?_
 refine st (iL _ _ rfl rfl) ?_
 refine st (js (e:=etE) (G:=G0) (zs:=e25) (xs:=[.tmp 13,.tmp 14,.tmp 15,.tmp 16]) U31 I36 rfl rfl (by decide) (by decide) rfl (fun b hb=>hb.elim) ⟨dq rfl,dq rfl,dq rfl,dq rfl,trivial⟩) ?_
 refine st (aD (A:=Tup [Dv (ptE (grE 2000)) G0 (some (ap 4)),E (I 0)]) na rfl rfl (fun v u w he k1 k2=>yB (ringV 4) e25 (ap 4) a1V v25 x25 _ _ w k1 k2 (by decide) (by decide) (fun b hb=>hb.elim))) ?_
 refine st (mv rfl) ?_
 refine st (aY rfl rfl) ?_
 refine st (aY rfl rfl) ?_
 refine en fun a w e' hf=>?_
 replace hT:=hT.ext e'
 replace e:=e.tr e'
 refine ae hf rfl (by decide) fun a hf=>?_
 refine ae hf rfl (by decide) fun a hf=>?_
 refine aa ?_
 obtain⟨gv,hgv,hf⟩:=hf.opn 1 rfl
 obtain⟨W1,hW1⟩:∃W1,W1=w:=⟨_,rfl⟩
 have e1:Ext W1 w:=by rw[hW1];exact Ext.rfl' _
 replace hgv:(Dv (ptE (grE 2000)) G0 (some (ap 4))).p gv W1:=by rw[hW1];exact hgv
 clear hW1
 replace hf:=hf.kp [0,1,2]
 refine seq ?_
 refine ac 2 hf (by decide +kernel) ?_
 refine st (mv rfl) ?_
 refine st (aw (A:=Dv (slE aA) G0 [2,3,1,0]) tW rfl (fun v w he k=>by cases k;have:=a1P (ap 4) G4 gv w (hT.ext he) (VA.st _ _ _ _ (Ext.tr e1 he) hgv) (by omega) (by omega) (by omega);rwa [m4o] at this)) ?_
 refine en fun a w e' hf=>?_
 replace hT:=hT.ext e'
 replace e1:=Ext.tr e1 e'
 replace e:=e.tr e'
 refine ae hf rfl (by decide) fun a hf=>?_
 refine aa ?_
 replace hf:=hf.kp [0,1,2,3]
 refine seq ?_
 refine ac 2 hf (by decide +kernel) ?_
 refine st (mv rfl) ?_
 refine st (aw (A:=Dv (slE etE) G0 [((1,3),(0,0))]) En7 rfl (fun v w he k=>by cases k;exact (mQ (ap 4) G4 gv w (hT.ext he) (VA.st _ _ _ _ (Ext.tr e1 he) hgv) (by omega) (by omega) (by omega) (by omega)).mono fun en w' ⟨u,k1,k2,F,f1,f2,f3⟩=>⟨u,k1,k2,by rw[m4f] at f1;obtain rfl:=List.perm_singleton.1 f1;exact f2.sl⟩)) ?_
 refine en fun a w e' hf=>?_
 replace hT:=hT.ext e'
 replace e1:=Ext.tr e1 e'
 replace e:=e.tr e'
 refine ae hf rfl (by decide) fun a hf=>?_
 refine aa ?_
 replace hf:=hf.kp [0,1,2,3,4]
 obtain⟨S1,hS1⟩:∃S1:BS,S1=5#1024:=⟨_,rfl⟩
 obtain⟨S2,hS2⟩:∃S2:BS,S2=10#1024:=⟨_,rfl⟩
 have hsp:=sp4
 have hcr:=cr4
 have hcn:=a1r
 have hq1:=a1W
 have hq2:=a1X
 have hso:∀ys:List BS,ys.Perm [S2,S1]→(ys.Pairwise fun S T=>¬T.toNat<S.toNat)→ys=[S1,S2]:=fun ys=>by rw[hS1,hS2];exact a1v
 obtain⟨CL,hCL⟩:∃CL:List BS,CL=[2#1024,8#1024]:=⟨_,rfl⟩
 have hCl:CL.length≤10000:=by rw[hCL];exact (by decide:2≤10000)
 rw[← hS1,← hS2] at hsp
 rw[← hS1,← hCL] at hcr
 rw[← hS2,← hCL] at hcn
 rw[← hS1] at hq1
 rw[← hS2] at hq2
 clear hS1 hS2 hCL
 refine seq ?_
 refine ac 5 hf (by decide +kernel) ?_
 refine st (mv rfl) ?_
 refine st (aD (A:=Tup [Dv (slE aX) G0 [S1,S2],E (I 0)]) (B:=E gv) (C:=E (I 9)) tX rfl rfl (fun v u w he k k'=>by cases k;cases k';exact (a0X (ap 4) G4 gv w (hT.ext he) (VA.st _ _ _ _ (Ext.tr e1 he) hgv) (by omega) (by omega) (by omega) 8 8 12 (by omega) [S2,S1] a1o hsp (show 2≤9 by omega)).mono fun en w' ⟨u,k1,k2,k3⟩=>⟨u,k1,k2,a1Z k3 fun u ⟨ys,y1,y2,y3⟩=>by rw[hso ys y1 y2] at y3;exact y3⟩)) ?_
 refine st (mv rfl) ?_
 refine st (aY rfl rfl) ?_
 refine st (aY rfl rfl) ?_
 refine en fun a w e' hf=>?_
 replace hT:=hT.ext e'
 replace e1:=Ext.tr e1 e'
 replace e:=e.tr e'
 refine ae hf rfl (by decide) fun a hf=>?_
 refine ae hf rfl (by decide) fun a hf=>?_
 refine aa ?_
 replace hf:=hf.kp [0,1,2,3,4,5,6]
 refine seq ?_
 refine reg 78 Mix.mix hf (by decide +kernel) ?_
 refine st (mv rfl) ?_
 refine st ((eql rfl rfl).eq (congrArg Value.bool (show ((0:Int)==0)=true from rfl))) ?_
 refine st (mv rfl) ?_
 refine sy rfl rfl (mv rfl) ?_
 refine sy rfl rfl ((eql rfl rfl).eq (congrArg Value.bool (show ((0:Int)==0)=true from rfl))) ?_
 refine st (pkT rfl rfl) ?_
 refine st (mv rfl) ?_
 refine sy rfl rfl (mv rfl) ?_
 refine sy rfl rfl (bi U39 (isR rfl)) ?_
 refine sy rfl rfl ((eql rfl rfl).eq (congrArg Value.bool (show (((([2,3,1,0]:List Int).length:Nat):Int)==4)=true from rfl))) ?_
 refine st (pkT rfl rfl) ?_
 refine st (mv rfl) ?_
 refine sy rfl rfl (mv rfl) ?_
 refine sy rfl rfl (ba (j:=0) U39 S3 (isR rfl) rfl rfl rfl) ?_
 refine sy rfl rfl (ldI T3 (isR rfl)) ?_
 refine sy rfl rfl ((eql rfl rfl).eq (congrArg Value.bool (show ((2:Int)==2)=true from rfl))) ?_
 refine st (pkT rfl rfl) ?_
 refine st (mv rfl) ?_
 refine sy rfl rfl (mv rfl) ?_
 refine sy rfl rfl (ba (j:=1) U39 S3 (isR rfl) rfl rfl rfl) ?_
 refine sy rfl rfl (ldI T3 (isR rfl)) ?_
 refine sy rfl rfl ((eql rfl rfl).eq (congrArg Value.bool (show ((3:Int)==3)=true from rfl))) ?_
 refine st (pkT rfl rfl) ?_
 refine st (mv rfl) ?_
 refine sy rfl rfl (mv rfl) ?_
 refine sy rfl rfl (ba (j:=2) U39 S3 (isR rfl) rfl rfl rfl) ?_
 refine sy rfl rfl (ldI T3 (isR rfl)) ?_
 refine sy rfl rfl ((eql rfl rfl).eq (congrArg Value.bool (show ((1:Int)==1)=true from rfl))) ?_
 refine st (pkT rfl rfl) ?_
 refine st (mv rfl) ?_
 refine sy rfl rfl (mv rfl) ?_
 refine sy rfl rfl (ba (j:=3) U39 S3 (isR rfl) rfl rfl rfl) ?_
 refine sy rfl rfl (ldI T3 (isR rfl)) ?_
 refine sy rfl rfl ((eql rfl rfl).eq (congrArg Value.bool (show ((0:Int)==0)=true from rfl))) ?_
 refine st (pkT rfl rfl) ?_
 refine st (mv rfl) ?_
 refine sy rfl rfl (mv rfl) ?_
 refine sy rfl rfl (bi U31 (isR rfl)) ?_
 refine sy rfl rfl ((eql rfl rfl).eq (congrArg Value.bool (show (((([((1,3),(0,0))]:List ET).length:Nat):Int)==1)=true from rfl))) ?_
 refine st (pkT rfl rfl) ?_
 refine st (mv rfl) ?_
 refine sy rfl rfl (mv rfl) ?_
 refine sy rfl rfl (ba (j:=0) U31 S36 (isR rfl) rfl rfl rfl) ?_
 refine sy rfl rfl (gA T36 (isR rfl)) ?_
 refine sy rfl rfl (iL 1 3 rfl rfl) ?_
 refine sy rfl rfl (a1Y rfl rfl) ?_
 refine st (pkT rfl rfl) ?_
 refine st (mv rfl) ?_
 refine sy rfl rfl (mv rfl) ?_
 refine sy rfl rfl (bi U42 (isR rfl)) ?_
 refine sy rfl rfl ((eql rfl rfl).eq (congrArg Value.bool (show (((([S1,S2]:List BS).length:Nat):Int)==2)=true from rfl))) ?_
 refine st (pkT rfl rfl) ?_
 refine st (mv rfl) ?_
 refine sy rfl rfl (mv rfl) ?_
 refine sy rfl rfl (ba (j:=0) U42 S47 (isR rfl) rfl rfl rfl) ?_
 refine sy rfl rfl (ldS T47 (isR rfl)) ?_
 refine sy rfl rfl (oM (e:=aA) (G:=G0) U39 I3 rfl (by decide) rfl (fun b hb=>hb.elim) (isI rfl) (isI rfl)) ?_
 refine sy rfl rfl (aw (A:=E (ah S1)) kM rfl (fun v w he h=>by have:=lS [(0:Int),2] v w h (by decide);rwa [hq1] at this)) ?_
 refine sy rfl rfl ((qE U47 U45 T45 (by kernel_rfl) rfl rfl).eq (congrArg Value.bool (beq_self_eq_true S1))) ?_
 refine st (pkT rfl rfl) ?_
 refine st (mv rfl) ?_
 refine sy rfl rfl (mv rfl) ?_
 refine sy rfl rfl (ba (j:=1) U42 S47 (isR rfl) rfl rfl rfl) ?_
 refine sy rfl rfl (ldS T47 (isR rfl)) ?_
 refine sy rfl rfl (oM (e:=aA) (G:=G0) U39 I3 rfl (by decide) rfl (fun b hb=>hb.elim) (isI rfl) (isI rfl)) ?_
 refine sy rfl rfl (aw (A:=E (ah S2)) kM rfl (fun v w he h=>by have:=lS [(1:Int),3] v w h (by decide);rwa [hq2] at this)) ?_
 refine sy rfl rfl ((qE U47 U45 T45 (by kernel_rfl) rfl rfl).eq (congrArg Value.bool (beq_self_eq_true S2))) ?_
 refine st (pkT rfl rfl) ?_
 refine st (mv rfl) ?_
 refine sy rfl rfl (mv rfl) ?_
 refine sy rfl rfl (mv rfl) ?_
 refine sy rfl rfl (ba (j:=0) U42 S47 (isR rfl) rfl rfl rfl) ?_
 refine sy rfl rfl (ldS T47 (isR rfl)) ?_
 refine sy rfl rfl (mv rfl) ?_
 refine sy rfl rfl (ba (j:=1) U42 S47 (isR rfl) rfl rfl rfl) ?_
 refine sy rfl rfl (ldS T47 (isR rfl)) ?_
 refine sy rfl rfl (fI (A:=E (B true)) (B:=E gv) (C:=E (ah S1)) (D:=E (ah S2)) tY rfl rfl rfl (fun v u s w he k k' k''=>by cases k;cases k';cases k'';have:=a0Z (ap 4) G4 gv S1 S2 w (hT.ext he) (VA.st _ _ _ _ (Ext.tr e1 he) hgv) (by omega) (by omega) (by omega) 8 8 (by omega) CL hcr hCl;rwa [hcn] at this)) ?_
 refine st (pkT rfl rfl) ?_
 refine en fun a w e' hf=>?_
 replace hT:=hT.ext e'
 replace e1:=Ext.tr e1 e'
 replace e:=e.tr e'
 refine ae hf rfl (by decide) fun a hf=>?_
 refine aa ?_
 refine an ?_
 refine az rfl hf rfl ?_
 rintro _ rfl
 exact⟨_,rfl,e,rfl⟩
end Go.Mono
namespace Go.Mono
open Go Go.Proofs Go.RowKit
theorem Kh.new {B b:Nat}{a w w':World}(h:Kh B a w)(hg:w.grownBy w' (some b))(hb:a.heap.size≤b):Kh B a w':=
 ⟨Nat.le_trans h.size hg.size,fun x hx hh=>(hg.block x (Nat.lt_of_lt_of_le hx h.size) (fun e=>by cases e;omega)).trans (h.same x hx hh)⟩
theorem a2b {P:Program}{L:Env}{ty:TypeId}{pos:String}{aft:Array Edge}{r:Option Nat}{ds:List Deferred}{ops:Array Oper}{rest:List Oper}{Q:Exit→Act→World→Prop}{n:Nat}{a:Act}{w:World}{x y z:Operand}{tys:Array TypeId}{d l:Nat}{u v:Value}
  {R:Value→World→Prop} (hf:FrD n ds a w L) (hx:opd L x=some (E (.func (.yield l) #[] #[]))) (hy:opd L y=some (E u)) (hz:opd L z=some (E v))
  (h:∃fn tmps assign body,(Instr.yield l #[u,v]).run P w=.ok (.round l fn tmps assign body) w∧RoundIn Fence.wide 0 P l fn tmps assign body w (fun e w2=>∃u,e=.returned u∧R u w2))
  (k:∀u w2,R u w2→wpListIn (FW r) 0 P ops Q rest (a.put (some d) u) w2) :
  wpListIn (FW r) 0 P ops Q (⟨some d,.call ⟨.value x,#[y,z],tys⟩,ty,pos,aft,none⟩::rest) a w:=
 wpListIn_plain rfl fun K hK=>by
  obtain⟨fn,tmps,assign,body,hrun,hR⟩:=h
  have hxv:a.eval x=.func (.yield l) #[] #[]:=hf.opd x _ hx
  have hyv:a.eval y=u:=hf.opd y _ hy
  have hzv:a.eval z=v:=hf.opd z _ hz
  refine OpR.wp (R:=R) ?_ (fun u w2 hu=>hK _ _ (k u w2 hu))
  simp[OpR,execOp,resolve,hxv,hyv,hzv,Deferred.ofValue,invoke,hrun]
  exact hR
def bkV (bs:Nat):Value:=.func (.func 84) #[] #[ptr bs]
theorem a2c (sv:Value)(W:World)(h1:sv.cells = #[sv]):Calls Tryz.prog 34 #[sv] W (Post ⟨fun v w=>∃bs,v=bkV bs∧W.heap.size≤bs∧Blk w bs #[sv] 39,fun _ _ _ e ⟨bs,h1,h2,h3⟩=>⟨bs,h1,h2,h3.ext e⟩⟩ W):=by
 refine enter (args:=[sv]) (As:=[E sv]) Tryz.func34 rfl Tryz.ntmps34 (Nat.le_of_ble_eq_true rfl) ?_ (fun a hf=>?_) (Nat.le_of_ble_eq_true rfl)
 rotate_left
 dsimp only[params,Nat.reduceAdd] at hf
 rotate_right
 ·exact arg1 rfl
 have e:=Ext.rfl' W
 refine seq ?_
 refine aj ?_
 refine aJ hf rfl (by decide) fun a b1 w v1 hv1 e' hb1 hs1 B1 hf=>?_
 have hle1:=Nat.le_trans e.size (Nat.le_of_eq hb1.symm)
 replace e:=e.tr e'
 refine ae hf rfl (by decide) fun a hf=>?_
 refine aa ?_
 cases hv1
 rw[h1] at B1
 refine seq ?_
 refine ac 1 hf (by decide +kernel) ?_
 refine st (io rfl) ?_
 refine en fun a w e' hf=>?_
 replace e:=e.tr e'
 replace B1:=B1.ext e'
 refine ae hf rfl (by decide) fun a hf=>?_
 refine aa ?_
 refine an ?_
 refine az rfl hf rfl ?_
 rintro _ rfl
 exact⟨_,rfl,e,⟨b1,rfl,by omega,B1⟩⟩
theorem a2d (xs:List Int)(sv:Value)(l bs:Nat)(W:World)(I:Nat→World→Prop)(hl:xs.length≤100000)
  (hS:∀k w,I k w→(Dv (slE aA) G0 xs).p sv w∧Blk w bs #[sv] 39) (h0:I 0 W)
  (hI:∀(k:Nat) (w w':World),I k w→Ext w w'→I k w')
  (hy:∀(k:Nat) (x:Int) (w:World),k<xs.length→xs[xs.length - 1 - k]?=some x→I k w→∃fn tmps assign body,(Instr.yield l #[Mono.I ((xs.length - 1 - k:Nat):Int),Mono.I x]).run Tryz.prog w=.ok (.round l fn tmps assign body) w ∧
   RoundIn Fence.wide 0 Tryz.prog l fn tmps assign body w (fun e w2=>∃u,e=.returned u∧u=.bool true∧I (k+1) w2)) :
  Calls Tryz.prog 84 #[.func (.yield l) #[] #[],ptr bs] W (fun e w'=>e=.returned (.tuple #[])∧I xs.length w'):=by
 refine enter (args:=[.func (.yield l) #[] #[],ptr bs]) (As:=[E (.func (.yield l) #[] #[]),E (ptr bs)]) Tryz.func84 rfl Tryz.ntmps84 (Nat.le_of_ble_eq_true rfl) ?_ (fun a hf=>?_) (Nat.le_of_ble_eq_true rfl)
 rotate_left
 dsimp only[params,Nat.reduceAdd] at hf
 rotate_right
 ·exact arg2 rfl rfl
 obtain⟨HD,HB⟩:=hS _ _ h0
 obtain⟨n,hn⟩:∃n,n=xs.length:=⟨_,rfl⟩
 refine seq ?_
 refine ac 3 hf (by decide +kernel) ?_
 refine st (ld1 (v:=sv) T39 rfl HB rfl) ?_
 refine st (bi U39 (isE rfl HD)) ?_
 refine st (sub rfl rfl (by omega)) ?_
 refine en fun a w e' hf=>?_
 replace h0:=hI _ _ _ h0 e'
 refine ae hf rfl (by decide) fun a hf=>?_
 refine aa ?_
 clear HD HB
 replace hf:=hf.upd 3 rfl (B:=E (Mono.I ((n:Int) - 1 - ((0:Nat):Int)))) fun v h=>by rw[show v=_ from h];exact congrArg (Value.int .i64) (by omega)
 replace hf:=hf.kp [0,1,3]
 refine blk (aW (fun r0 a w=>∃k:Nat,n≤r0+k∧k≤n∧Fr 19 a w [(0,E (.func (.yield l) #[] #[])),(1,E (ptr bs)),(3,E (Mono.I ((n:Int) - 1 - (k:Int))))]∧I k w) n ⟨0,Nat.le_refl _,Nat.zero_le _,hf,h0⟩ ?_)
 clear hf h0
 rintro r0 a w ⟨k,hr0,hkn,hf,h0⟩
 obtain⟨HD,HB⟩:=hS _ _ h0
 by_cases hk:k=n
 ·subst hk
  repeat refine seq ?_
  refine ac 2 hf (by decide +kernel) ?_
  refine st (mv rfl) ?_
  refine st ((geq rfl rfl).eq (congrArg Value.bool ((decide_eq_false (by omega):_=false)))) ?_
  refine en fun a w e' hf=>?_
  replace h0:=hI _ _ _ h0 e'
  replace HD:=VA.st _ _ _ _ e' HD
  replace HB:=HB.ext e'
  refine aa ?_
  refine ifc hf rfl (fun h=>by cases h) (fun _=>aR ?_)
  simp only[Exit.then,Exit.inBlock,↓reduceIte]
  exact db rfl hf ⟨rfl,by rw[← hn];exact h0⟩
 ·repeat refine seq ?_
  refine ac 2 hf (by decide +kernel) ?_
  refine st (mv rfl) ?_
  refine st ((geq rfl rfl).eq (congrArg Value.bool ((decide_eq_true (by omega):_=true)))) ?_
  refine en fun a w e' hf=>?_
  replace h0:=hI _ _ _ h0 e'
  replace HD:=VA.st _ _ _ _ e' HD
  replace HB:=HB.ext e'
  refine aa ?_
  refine ifc hf rfl (fun _=>ar ?_) (fun h=>by cases h)
  simp only[Exit.then,Exit.inBlock,↓reduceIte]
  refine seq ?_
  refine blk ?_
  have hj:n - 1 - k<xs.length:=by omega
  have hx:=List.getElem?_eq_getElem hj
  generalize xs[n - 1 - k]=x at hx
  replace hf:=hf.upd 3 rfl (B:=E (Mono.I ((n - 1 - k:Nat):Int))) fun v h=>by rw[show v=_ from h];exact congrArg (Value.int .i64) (by omega)
  replace hf:=hf.kp [0,1,3]
  refine seq ?_
  refine ac 6 hf (by decide +kernel) ?_
  refine st (mv rfl) ?_
  refine st (mv rfl) ?_
  refine st (ld1 (v:=sv) T39 rfl HB rfl) ?_
  refine st (mv rfl) ?_
  refine st (ba U39 S3 (isE rfl HD) rfl (by omega) (hx)) ?_
  refine st (ldI T3 (isR rfl)) ?_
  refine en fun a w e' hf=>?_
  replace h0:=hI _ _ _ h0 e'
  replace HD:=VA.st _ _ _ _ e' HD
  replace HB:=HB.ext e'
  clear e'
  replace hf:=hf.kp [0,1,3,11,12,16]
  refine a2b hf rfl rfl rfl (R:=fun u w2=>u=.bool true∧I (k+1) w2) (by rw[hn] at hx ⊢;exact hy k x w (by omega) hx h0) fun u w2 hu=>?_
  obtain⟨rfl,k0⟩:=hu
  replace hf:=(hf.pure w2).put (d:=some 17) (Ext.rfl' _) (by rintro _ ⟨⟩;decide) (A:=E (.bool true)) rfl
  dsimp only[push] at hf
  clear h0 HD HB
  have h0:=k0
  clear k0
  refine aB hf (by decide) (bj rfl) fun a w e' hf=>?_
  replace h0:=hI _ _ _ h0 e'
  refine aa ?_
  refine ifc hf rfl (fun h=>by cases h) (fun _=>ar ?_)
  simp only[Exit.then,Exit.inBlock,↓reduceIte]
  replace hf:=hf.kp [0,1,3]
  refine ac 2 hf (by decide +kernel) ?_
  refine st (mv rfl) ?_
  refine st ((sub rfl rfl (by omega)).eq (congrArg (Value.int .i64) (show ((n - 1 - k:Nat):Int) - 1=(n:Int) - 1 - ((k+1:Nat):Int) by omega))) ?_
  refine en fun a w e' hf=>?_
  replace h0:=hI _ _ _ h0 e'
  refine ae hf rfl (by decide) fun a hf=>?_
  refine aa ?_
  replace hf:=hf.kp [0,1,3]
  exact⟨r0 - 1,by omega,k+1,by omega,by omega,hf,h0⟩
section
variable {g:Operand}{p0 p1:Nat}{assign body:Code}{Q:Exit→Act→World→Prop}{n bs:Nat}{ds:List Deferred}{a:Act}{w:World}{L:Env}
theorem a2e [cp L]{xs:List Int}{sv:Value}(hf:FrD n ds a w L)(hx:opd L g=some (E (bkV bs)))(hp0:p0<n)(hp1:p1<n)(hl:xs.length≤100000)
  (J:Nat→World→Prop) (hS:∀k w1,J k w1→(Dv (slE aA) G0 xs).p sv w1∧Blk w1 bs #[sv] 39) (h0:J 0 w)
  (hJ:∀k w1 w2,J k w1→w.heap.size≤w1.heap.size→Kp w.heap.size w1 w2→J k w2)
  (hbody:∀(l k:Nat) (x:Int) (a1:Act) (w1:World),k<xs.length→xs[xs.length - 1 - k]?=some x→J k w1→w.heap.size+2≤w1.heap.size→FrD n [] a1 w1 ((p1,E (I x))::(p0,E (I ((xs.length - 1 - k:Nat):Int)))::L) →
   assign.wpIn (FW (some l)) 0 Tryz.prog (Exit.then (fun a2 w2=>Kh w.heap.size w1 w2∧∀w3,Kp w.heap.size w2 w3→w3.heap.size=w2.heap.size→(∃r0,w3.heap[l]?=some (.loop r0))→aT w.heap.size l→body.wpIn (FW (some l)) 0 Tryz.prog (fun ex _ w4=>ex=.normal∧J (k+1) w4∧Kh w.heap.size w3 w4) a2 w3) (fun _ _ _=>False)) a1 w1)
  (hdone:∀a' w',FrD n ({ target:=.collected w.heap.size,args := #[] }::ds) a' w' L→J xs.length w'→w.heap.size≤w'.heap.size→w'.heap[w.heap.size]?=some (.deferred (some []))→Q .normal a' w') :
  (Code.rangeFunc g #[p0,p1] assign body).wpIn (FW none) 0 Tryz.prog Q a w:=by
 have hxv:a.eval g=bkV bs:=hf.opd g _ hx
 refine wpIn_rangeFunc fun fn _=>?_
 obtain⟨df,hdf⟩:∃df,df=w.heap.size:=⟨_,rfl⟩
 obtain⟨l,hl'⟩:∃l,l=w.heap.size+1:=⟨_,rfl⟩
 obtain⟨mark,hmark⟩:∃mark:List Deferred,mark=[{ target:=.collected w.heap.size,args := #[] }]:=⟨_,rfl⟩
 obtain⟨W1,hrun,hlw,he,hsz,hd⟩:∃W1,(Instr.enterLoop fn a.tmps #[p0,p1] assign body none).run Tryz.prog w=.ok (l,mark) W1∧W1.heap[l]?=some (.loop { state:=.ready,pending:=none,fn,tmps:=a.tmps,params := #[p0,p1],assign,body,defers:=df })∧Ext w W1 ∧
   W1.heap.size=w.heap.size+2∧W1.heap[df]?=some (.deferred (some [])):=by
  refine⟨_,by rw[hl',hmark];exact run_enterLoop_outer fn a.tmps #[p0,p1] assign body,?_,?_,by simp,?_⟩
  ·have:=World.alloc_heap_new (w.alloc (.deferred (some []))) (.loop { state:=.ready,pending:=none,fn,tmps:=a.tmps,params := #[p0,p1],assign,body,defers:=w.heap.size })
   rw[World.size_alloc] at this
   rw[hl',hdf];exact this
  ·exact Ext.tr (dA w _) (dA _ _)
  ·rw[hdf,Below.heap_alloc _ _ _ (by simp)]
   exact World.alloc_heap_new w _
 have hlt:l<W1.heap.size:=(Array.getElem?_eq_some_iff.1 hlw).1
 have hres:(resolve a.eval (rangeCall g l) 0).run Tryz.prog W1=.ok { target:=.fn (.func 84) #[ptr bs],args := #[.func (.yield l) #[] #[]] } W1:=by
  have hev:a.eval (.const (.func (.yield l) #[] #[]))=.func (.yield l) #[] #[]:=rfl
  simp[resolve,hxv,hev,bkV,Deferred.ofValue]
 refine⟨l,mark,W1,_,W1,84,#[.func (.yield l) #[] #[],ptr bs],W1,hrun,hres,fun _ _=>trivial,?_,fun hd=>(by simp[FW] at hd),?_⟩
 ·exact tU _ W1
 generalize hrec:({ state:=.ready,pending:=none,fn,tmps:=a.tmps,params := #[p0,p1],assign,body,defers:=df }:Loop)=rec0 at hlw
 have hhole:aT w.heap.size l:=⟨by omega,by omega⟩
 have hholed:aT w.heap.size df:=⟨by omega,by omega⟩
 have hdl:df≠l:=by omega
 refine iT none ((a2d xs sv l bs W1
  (fun k w1=>J k w1∧W1.heap.size≤w1.heap.size∧w1.heap[l]?=some (.loop rec0)∧w1.heap[df]?=some (.deferred (some []))) hl (fun k w1 h=>hS k w1 h.1) ⟨hJ 0 w W1 h0 (Nat.le_refl _) (Kp.ext he),Nat.le_refl _,hlw,hd⟩ ?_ ?_).mono ?_)
 ·rintro k w1 w2 ⟨j1,j2,j3,j4⟩ e2
  exact⟨hJ k w1 w2 j1 (by omega) (Kp.ext e2),Nat.le_trans j2 e2.size,(e2.block l (by omega)).trans j3,(e2.block df (by omega)).trans j4⟩
 ·rintro k x w1 hk hx ⟨j1,j2,j3,j4⟩
  have hy:=run_yield (P:=Tryz.prog) (args := #[I ((xs.length - 1 - k:Nat):Int),I x]) j3 (by subst hrec;rfl)
  have htm:(rec0.params.zip #[I ((xs.length - 1 - k:Nat):Int),I x]).foldl (fun tmps (t,a)=>tmps.setIfInBounds t a) rec0.tmps=(a.tmps.setIfInBounds p0 (I ((xs.length - 1 - k:Nat):Int))).setIfInBounds p1 (I x):=by
   subst hrec;simp
  have hfn:rec0.assign=assign∧rec0.body=body∧rec0.fn=fn∧rec0.state=.ready:=by subst hrec;exact⟨rfl,rfl,rfl,rfl⟩
  rw[htm,hfn.1,hfn.2.1] at hy
  refine⟨_,_,_,_,hy,?_⟩
  have hf0:FrD n [] { tmps:=a.tmps,defers:=[] } w1 L:=⟨hf.size,rfl,fun t A ht=>cp.pu t A ht _ _ _ (hf.val t A ht)⟩
  have hf1:FrD n [] { tmps:=a.tmps.setIfInBounds p0 (I ((xs.length - 1 - k:Nat):Int)),defers:=[] } w1 ((p0,E (I ((xs.length - 1 - k:Nat):Int)))::L):=
   hf0.put (d:=some p0) (v:=I ((xs.length - 1 - k:Nat):Int)) (A:=E (I ((xs.length - 1 - k:Nat):Int))) (Ext.rfl' _) (fun k hk=>by cases hk;exact hp0) rfl
  have hf2:FrD n [] { tmps:=(a.tmps.setIfInBounds p0 (I ((xs.length - 1 - k:Nat):Int))).setIfInBounds p1 (I x),defers:=[] } w1 ((p1,E (I x))::(p0,E (I ((xs.length - 1 - k:Nat):Int)))::L):=
   hf1.put (d:=some p1) (v:=I x) (A:=E (I x)) (Ext.rfl' _) (fun k hk=>by cases hk;exact hp1) rfl
  refine roundIn_of_wpIn (F:=Fence.wide) (n:=0) trivial ?_
  refine wpIn_mono (hbody l k x _ w1 hk hx j1 (by omega) hf2) fun e2 a2 w2 hq=>?_
  cases e2 with
  | normal=>
   obtain⟨kh,hb2⟩:=hq
   have j3':w2.heap[l]?=some (.loop rec0):=(kh.same l (by omega) hhole).trans j3
   have hl2:l<w2.heap.size:=(Array.getElem?_eq_some_iff.1 j3').1
   refine⟨_,run_beginRound j3' hfn.2.2.2,?_⟩
   refine wpIn_mono (hb2 (w2.putObj l (.loop { rec0 with state:=.busy })) (Kp.put hhole) (by simp) ⟨_,World.putObj_heap_same hl2⟩ hhole) fun e3 a3 w3 hq3=>?_
   obtain⟨rfl,q1,q2⟩:=hq3
   have rec3:w3.heap[l]?=some (.loop { rec0 with state:=.busy }):=(q2.same l (by simpa using hl2) hhole).trans (World.putObj_heap_same hl2)
   have size3:w1.heap.size≤w3.heap.size:=by
    have h1:=q2.size
    have h2:=kh.size
    simp at h1
    omega
   have d3:∀o,(w3.putObj l o).heap[df]?=some (.deferred (some [])):=fun o=>by
    have hdlt:df<w1.heap.size:=(Array.getElem?_eq_some_iff.1 j4).1
    have hk2:=kh.size
    rw[World.putObj_heap_other hdl,q2.same df (by simp;omega) hholed,World.putObj_heap_other hdl,kh.same df hdlt hholed]
    exact j4
   refine⟨_,_,run_endRound none rec3,_,rfl,rfl,hJ _ _ _ q1 (by omega) (Kp.put hhole),?_,?_,d3 _⟩
   ·simp;omega
   ·rw[World.putObj_heap_same (Array.getElem?_eq_some_iff.1 rec3).1]
    subst hrec
    rfl
  | _=>exact hq.elim
 ·rintro e w2 ⟨rfl,j1,j2,j3,j4⟩
  refine⟨none,w2.putObj l (.loop { rec0 with state:=.exhausted }),?_,?_⟩
  ·have:=run_endLoop (P:=Tryz.prog) j3 (by subst hrec;simp)
   subst hrec
   exact this
  ·have h1:FrD n (mark++ds) { a with defers:=mark++a.defers } (w2.putObj l (.loop { rec0 with state:=.exhausted })) L:=⟨hf.size,by simp[hf.defers],fun t A ht=>cp.pu t A ht _ _ _ (hf.val t A ht)⟩
   rw[hmark] at h1 ⊢
   refine hdone _ _ h1 (hJ _ _ _ j1 (by omega) (Kp.put hhole)) (by simp;omega) ?_
   rw[World.putObj_heap_other (by omega),← hdf]
   exact j4
end
end Go.Mono
namespace Go.Mono
open Go Go.Proofs Go.RowKit Go.Gr
def inS (l:List Nat):BS:=l.foldl (fun (S:BS) (x:Nat)=>ins S (x:Int)) 0
theorem a2f (p:List Nat)(x:Nat):inS (p++[x])=ins (inS p) (x:Int):=by simp only[inS,List.foldl_append,List.foldl_cons,List.foldl_nil]
theorem sF:∀(l:List Nat) (S:BS) (i:Nat),(∀x∈l,x<1024)→((l.foldl (fun (S:BS) (x:Nat)=>ins S (x:Int)) S).getLsbD i=true↔S.getLsbD i=true∨i∈l)
 | [],S,i,_=>by simp
 | x::l,S,i,h=>by
  rw[List.foldl_cons,sF l _ i fun y hy=>h y (List.mem_cons_of_mem _ hy),aL S (h x (List.mem_cons_self ..)),List.mem_cons,or_assoc]
theorem a2g {l:List Nat}{i:Nat}(h:∀x∈l,x<1024):(inS l).getLsbD i=true↔i∈l:=by
 rw[inS,sF l 0 i h]
 exact⟨fun h=>h.resolve_left (aN i),.inr⟩
theorem sG {nb:Int→BS}{v:Nat}{r:List Nat}:∀(p:List Nat) (S:BS),Peo nb S (p++v::r)→Smp nb (p.foldl (fun (S:BS) (x:Nat)=>ins S (x:Int)) S) v
 | [],S,h=>by
  rw[List.nil_append,Peo] at h
  exact h.1
 | x::p,S,h=>by
  rw[List.cons_append,Peo] at h
  rw[List.foldl_cons]
  exact sG p _ h.2
structure ClK (g:GT)(l:List Nat)(k:Nat)(of:Nat→Nat)(many:Nat)(lc:List (Int×Int)):Prop where
 r:fA (nbA g) (inS (l.take (l.length - k))) (l.drop (l.length - k)) of many
 a:∀x:Nat,(lc.any fun p=>decide (p.1=(x:Int)))=true↔x∈l.drop (l.length - k)
 v:∀x∈l.drop (l.length - k),lkI lc (x:Int)=(of x:Int)
 m:many≤k
theorem ClK.step {g:GT}(ok:Gr.Ok g){l:List Nat}(hn:l.Nodup)(hl:∀i,i∈l↔(ai g.1).getLsbD i=true)(hp:Peo (nbA g) 0 l){k x c:Nat}{of:Nat→Nat}{many:Nat}{lc:List (Int×Int)}(h:ClK g l k of many lc)(hk:k<l.length)(hx:l[l.length - 1 - k]?=some x)
  (h1:∀a∈l.drop (l.length - k),(nbA g (x:Int)).getLsbD a=true→of a≠c) (h2:∀d,d<c→∃a∈l.drop (l.length - k),(nbA g (x:Int)).getLsbD a=true∧of a=d) (hc:c≤many) :
  ClK g l (k+1) (fun y=>if y=x then c else of y) (max many (c+1)) (bB lc (x:Int) (c:Int)):=by
 obtain⟨j,hj⟩:∃j,j=l.length - 1 - k:=⟨_,rfl⟩
 have e1:l.length - k=j+1:=by omega
 have e2:l.length - (k+1)=j:=by omega
 rw[← hj] at hx
 have htk:l.take (j+1)=l.take j++[x]:=dh hx
 have hdr:l.drop j=x::l.drop (j+1):=by
  obtain⟨hjl,he⟩:=List.getElem?_eq_some_iff.1 hx
  rw[← he,List.getElem_cons_drop]
 have hsp:l=l.take j++x::l.drop (j+1):=by rw[← hdr,List.take_append_drop]
 obtain⟨hr,ha,hv,hm⟩:=h
 rw[e1] at hr ha hv h1 h2
 rw[htk,a2f] at hr
 have hn':=hn
 rw[hsp] at hn'
 obtain⟨n1,n2,n3⟩:=List.nodup_append.1 hn'
 obtain⟨n4,n5⟩:=List.nodup_cons.1 n2
 have hlt:∀y∈l,y<1024:=fun y hy=>aG ((hl y).1 hy)
 have htl:∀y∈l.take j,y<1024:=fun y hy=>hlt y (List.mem_of_mem_take hy)
 have hxl:x∈l:=List.mem_of_getElem? hx
 have hpx:Smp (nbA g) (inS (l.take j)) x:=by
  rw[hsp] at hp
  exact sG _ 0 hp
 refine⟨?_,fun y=>?_,fun y hy=>?_,by omega⟩
 ·rw[e2,hdr]
  refine fA.step (fX ok) (hlt x hxl) n4 (fun a h=>(((bN ok).1 h).inn ok).2.2 rfl) (fun a ha'=>?_) hpx hr h1 h2
  have haV:=(hl a).2 (eu ok x a ha')
  rw[hsp] at haV
  rw[a2g htl]
  constructor
  ·intro h3 h4
   exact n3 a h4 a (List.mem_cons_of_mem _ h3) rfl
  ·intro h3
   rcases List.mem_append.1 haV with h4|h4
   ·exact absurd h4 h3
   ·rcases List.mem_cons.1 h4 with rfl|h4
    ·exact absurd ((((bN ok).1 ha').inn ok).2.2 rfl) id
    ·exact h4
 ·rw[e2,hdr,a0i,Bool.or_eq_true,decide_eq_true_eq,ha y,List.mem_cons]
  exact or_congr ⟨fun h=>by omega,fun h=>by omega⟩ Iff.rfl
 ·rw[e2,hdr] at hy
  rw[rD]
  rcases List.mem_cons.1 hy with rfl|hy
  ·rw[if_pos rfl,if_pos rfl]
  ·have:y≠x:=fun e=>n4 (e▸hy)
   rw[if_neg (by omega),if_neg this]
   exact hv y hy
structure CoW (W Wo:World)(v sv:Value)(b1 b7 b8 bc bs:Nat)(many:Nat)(lc:List (Int×Int))(nc:Nat)(w:World):Prop where
 e:Ext W w
 o:Ext Wo w
 t:Tab w
 p1:Blk w b1 #[v] 28
 p7:Blk w b7 #[.map (some bc)] 83
 p8:Blk w b8 #[I (many:Nat)] 3
 ps:Blk w bs #[sv] 39
 m:MpR iKV w bc nc lc
structure CoD (W Wo:World)(b1 b7 b8 bc bs N:Nat):Prop where
 hi:b1<N∧b7<N∧b8<N∧bc<N∧bs<N∧0<N∧W.heap.size≤N∧Wo.heap.size≤N
 lo:W.heap.size≤b8∧W.heap.size≤bc∧Wo.heap.size≤b8∧Wo.heap.size≤bc∧0<b8∧0<bc
 ne:b1≠b8∧b7≠b8∧bs≠b8∧bc≠b8∧b1≠bc∧b7≠bc∧bs≠bc
section
variable {W Wo w w':World}{v sv:Value}{b1 b7 b8 bc bs many nc B N:Nat}{lc:List (Int×Int)}
theorem CoW.ext (h:CoW W Wo v sv b1 b7 b8 bc bs many lc nc w)(e:Ext w w'):CoW W Wo v sv b1 b7 b8 bc bs many lc nc w':=⟨Ext.tr h.e e,Ext.tr h.o e,h.t.ext e,h.p1.ext e,h.p7.ext e,h.p8.ext e,h.ps.ext e,h.m.ext e⟩
theorem CoW.kp (h:CoW W Wo v sv b1 b7 b8 bc bs many lc nc w)(k:Kp B w w')(d:CoD W Wo b1 b7 b8 bc bs N)(hB:N≤B):CoW W Wo v sv b1 b7 b8 bc bs many lc nc w':=by
 obtain⟨q1,q7,q8,qc,qs,q0,qW,qo⟩:=d.hi
 have no:∀{b},b<N→¬aT B b:=fun h hh=>Nat.lt_irrefl _ (Nat.lt_of_lt_of_le h (Nat.le_trans hB hh.1))
 exact⟨h.e.kp k (Nat.le_trans qW hB),h.o.kp k (Nat.le_trans qo hB),h.t.kp k (Nat.lt_of_lt_of_le q0 hB),h.p1.kp k (no q1),h.p7.kp k (no q7),h.p8.kp k (no q8),h.ps.kp k (no qs),h.m.pres (k.same _ h.m.lt (no qc))⟩
theorem CoW.gr {b:Nat}(h:CoW W Wo v sv b1 b7 b8 bc bs many lc nc w)(hg:w.grownBy w' (some b))(d:CoD W Wo b1 b7 b8 bc bs N)(hB:N≤b):CoW W Wo v sv b1 b7 b8 bc bs many lc nc w':=by
 obtain⟨q1,q7,q8,qc,qs,q0,qW,qo⟩:=d.hi
 have no:∀{c},c<N→c≠b:=fun h hh=>Nat.lt_irrefl _ (Nat.lt_of_lt_of_le h (hh▸hB))
 exact⟨h.e.gr hg (Nat.le_trans qW hB),h.o.gr hg (Nat.le_trans qo hB),h.t.gr hg (Nat.lt_of_lt_of_le q0 hB),h.p1.gr hg (no q1),h.p7.gr hg (no q7),h.p8.gr hg (no q8),h.ps.gr hg (no qs),h.m.pres (hg.block _ h.m.lt fun e=>no qc (Option.some.inj e))⟩
theorem CoW.st8 {many':Nat}(h:CoW W Wo v sv b1 b7 b8 bc bs many lc nc w)(hg:w.grownBy w' (some b8))(hB:Blk w' b8 #[I (many':Nat)] 3)(d:CoD W Wo b1 b7 b8 bc bs N):CoW W Wo v sv b1 b7 b8 bc bs many' lc nc w':=by
 obtain⟨l1,l2,l3,l4,l5,l6⟩:=d.lo
 obtain⟨n1,n2,n3,n4,n5,n6,n7⟩:=d.ne
 exact⟨h.e.gr hg l1,h.o.gr hg l3,h.t.gr hg l5,h.p1.gr hg n1,h.p7.gr hg n2,hB,h.ps.gr hg n3,h.m.pres (hg.block _ h.m.lt fun e=>n4 (Option.some.inj e))⟩
theorem CoW.put {lc':List (Int×Int)}{nc':Nat}(h:CoW W Wo v sv b1 b7 b8 bc bs many lc nc w)(hg:w.grownBy w' (some bc))(hM:MpR iKV w' bc nc' lc')(d:CoD W Wo b1 b7 b8 bc bs N):CoW W Wo v sv b1 b7 b8 bc bs many lc' nc' w':=by
 obtain⟨l1,l2,l3,l4,l5,l6⟩:=d.lo
 obtain⟨n1,n2,n3,n4,n5,n6,n7⟩:=d.ne
 exact⟨h.e.gr hg l2,h.o.gr hg l4,h.t.gr hg l6,h.p1.gr hg n5,h.p7.gr hg n6,h.p8.gr hg n4.symm,h.ps.gr hg n7,hM⟩
end
theorem Kh.kp2 {B B2:Nat}{a w w':World}(h:Kh B a w)(k:Kp B2 w w')(hB:a.heap.size≤B2):Kh B a w':=
 ⟨Nat.le_trans h.size k.size,fun x hx hh=>(k.same x (Nat.lt_of_lt_of_le hx h.size) (fun hh2=>by have:=hh2.1;omega)).trans (h.same x hx hh)⟩
set_option maxHeartbeats 800000 in
theorem a2h {G:Nat→Prop}{N:Nat}(g:GT)(ok:Gr.Ok g)(v:Value)(l:List Nat)(W:World)(hT:Tab W)(h:(Dv (ptE (grE N)) G (some g)).p v W)(hl1:g.1.length≤100000)(hl2:g.2.length≤100000)(hN:N≤1000000)(hpo:poF (nbA g) (card (ai g.1)) (ai g.1)=some l)(hnd:l.Nodup)(hlm:∀i,i∈l↔(ai g.1).getLsbD i=true)(hpe:Peo (nbA g) 0 l) :
  Calls Tryz.prog 10 #[v] W (Post (Tup [E (I (pw (nbA g) 0 l+1)),Any,E (I 0)]) W):=by
 have hll:l.length≤1024:=by
  have:=gP l (elems (ai g.1)) hnd fun x hx=>aK.2 ⟨aG ((hlm x).1 hx),(hlm x).1 hx⟩
  exact Nat.le_trans this (cD _)
 have hv:(Dv (ptE (grE N)) G0 (some g)).p v W:=Dv.weak h fun b _ hb=>hb.elim
 clear h
 have hT0:=hT.lt
 have h1c:v.cells = #[v]:=by
  obtain⟨ad,rfl,_⟩:=Dv.pt.1 hv
  rfl
 refine dr (args:=[v]) (As:=[E v]) Tryz.func10 rfl Tryz.ntmps10 (Nat.le_of_ble_eq_true rfl) ?_ (fun a hf=>?_) (Nat.le_of_ble_eq_true rfl)
 ·exact bq rfl dG
 dsimp only[params,Nat.reduceAdd] at hf
 have e:=Ext.rfl' W
 refine seq ?_
 refine aj ?_
 refine aJ hf rfl (by decide) fun a b1 w v1 hv1 e' hb1 hs1 B1 hf=>?_
 have hle1:=Nat.le_trans e.size (Nat.le_of_eq hb1.symm)
 replace hT:=hT.ext e'
 replace e:=e.tr e'
 refine ae hf rfl (by decide) fun a hf=>?_
 refine ae hf rfl (by decide) fun a hf=>?_
 refine ae hf rfl (by decide) fun a hf=>?_
 refine aa ?_
 cases hv1
 rw[h1c] at B1
 replace hf:=hf.kp [1]
 have e0:=e
 refine seq ?_
 refine ac 5 hf (by decide +kernel) ?_
 refine st (ld1 (v:=v) T28 rfl B1 rfl) ?_
 refine st (aw (A:=Tup [Dv (slE aA) G0 (nI l),E (B true)]) (B:=E v) nj rfl (fun u w he k=>by cases k;exact rU g ok v l w (hT.ext he) (VA.st _ _ _ _ (Ext.tr e0 he) hv) hl1 hl2 hN hpo (by omega))) ?_
 refine st (mv rfl) ?_
 refine st (aY rfl rfl) ?_
 refine st (aY rfl rfl) ?_
 refine en fun a w e' hf=>?_
 replace hT:=hT.ext e'
 replace e:=e.tr e'
 replace B1:=B1.ext e'
 refine ae hf rfl (by decide) fun a hf=>?_
 refine ae hf rfl (by decide) fun a hf=>?_
 refine aa ?_
 clear e0
 obtain⟨sv,hord,hf⟩:=hf.opn 5 rfl
 have hsc:sv.cells = #[sv]:=by
  have h1:=Dv.slOne hord
  cases sv <;> simp[Value.cells,Value.oneCell'] at h1 ⊢
 obtain⟨Wo,hWo⟩:∃Wo,Wo=w:=⟨_,rfl⟩
 have eo:Ext Wo w:=by rw[hWo];exact Ext.rfl' _
 have hNo:Wo.heap.size≤w.heap.size:=eo.size
 rw[← hWo] at hord
 have hWo2:W.heap.size≤Wo.heap.size:=by rw[hWo];exact e.size
 have h0o:0<Wo.heap.size:=by omega
 clear hWo
 replace hf:=hf.kp [1,5,6]
 repeat refine seq ?_
 refine ac 2 hf (by decide +kernel) ?_
 refine st (mv rfl) ?_
 refine st (bj rfl) ?_
 refine en fun a w e' hf=>?_
 replace hT:=hT.ext e'
 replace eo:=Ext.tr eo e'
 replace hNo:=Nat.le_trans hNo e'.size
 replace e:=e.tr e'
 replace B1:=B1.ext e'
 refine aa ?_
 refine ifc hf rfl (fun h=>by cases h) (fun _=>?_)
 refine ar ?_
 simp only[Exit.then,Exit.inBlock,↓reduceIte]
 replace hf:=hf.kp [1,5]
 refine seq ?_
 refine aj ?_
 have lb1:=B1.lt
 refine eM iKV hf (by decide) fun a bc w e' hbc hsc' HC hf=>?_
 have hWc:Wo.heap.size≤bc:=by omega
 have lbc:=HC.lt
 replace e:=e.tr e'
 replace eo:=Ext.tr eo e'
 replace hT:=hT.ext e'
 replace B1:=B1.ext e'
 replace hNo:=Nat.le_trans hNo e'.size
 clear e'
 have l1c:b1≠bc:=by omega
 clear lb1 hbc hsc'
 refine aC I83 hf (by decide) fun a b7 w e' hb7 hs7 B7 hf=>?_
 have hle7:=Nat.le_trans e.size (Nat.le_of_eq hb7.symm)
 have lo7_hNo:=Nat.le_trans hNo (Nat.le_of_eq hb7.symm)
 have lt7_B1:=B1.lt
 replace hT:=hT.ext e'
 replace eo:=Ext.tr eo e'
 replace hNo:=Nat.le_trans hNo e'.size
 replace HC:=HC.ext e'
 replace e:=e.tr e'
 replace B1:=B1.ext e'
 clear e'
 haveI hinr:∀G0,InR (GB W G0) (some b7):=fun G0=>InR.gb (by omega)
 refine aO T83 hf rfl rfl rfl B7 (by decide) fun w hg hsz B7 hf=>?_
 replace hT:=hT.gr hg (by omega)
 replace eo:=eo.gr hg (by omega)
 replace hNo:=Nat.le_trans hNo hg.size
 replace HC:=HC.gr hg (fun h=>by cases h;omega)
 replace e:=e.gr hg (by omega)
 replace B1:=B1.gr hg (by omega)
 clear hg
 refine aa ?_
 replace B7:Blk w b7 #[.map (some bc)] 83:=B7
 have n7:b1≠b7∧b7≠bc∧W.heap.size≤b7:=by omega
 replace hf:=hf.kp [1,5,7]
 have lb1:=B1.lt
 have lb7:=B7.lt
 have lbc2:=HC.lt
 refine seq ?_
 refine aj ?_
 refine aC I3 hf (by decide) fun a b8 w e' hb8 hs8 B8 hf=>?_
 have hle8:=Nat.le_trans e.size (Nat.le_of_eq hb8.symm)
 have lo8_hNo:=Nat.le_trans hNo (Nat.le_of_eq hb8.symm)
 have lt8_B1:=B1.lt
 have lt8_B7:=B7.lt
 replace hT:=hT.ext e'
 replace eo:=Ext.tr eo e'
 replace hNo:=Nat.le_trans hNo e'.size
 replace HC:=HC.ext e'
 replace e:=e.tr e'
 replace B1:=B1.ext e'
 replace B7:=B7.ext e'
 clear e'
 haveI hinr:∀G0,InR (GB W G0) (some b8):=fun G0=>InR.gb (by omega)
 refine aO T3 hf rfl rfl rfl B8 (by decide) fun w hg hsz B8 hf=>?_
 replace hT:=hT.gr hg (by omega)
 replace eo:=eo.gr hg (by omega)
 replace hNo:=Nat.le_trans hNo hg.size
 replace HC:=HC.gr hg (fun h=>by cases h;omega)
 replace e:=e.gr hg (by omega)
 replace B1:=B1.gr hg (by omega)
 replace B7:=B7.gr hg (by omega)
 clear hg
 refine aa ?_
 replace B8:Blk w b8 #[I ((0:Nat):Int)] 3:=B8
 have n8:b1≠b8∧b7≠b8∧bc≠b8∧Wo.heap.size≤b8∧W.heap.size≤b8:=by omega
 replace hf:=hf.kp [1,5,7,8]
 have lb8:=B8.lt
 have lb1':=B1.lt
 have lb7':=B7.lt
 have lbc':=HC.lt
 obtain⟨Nw,hNw⟩:∃Nw,Nw=w.heap.size:=⟨_,rfl⟩
 repeat refine seq ?_
 refine ac 2 hf (by decide +kernel) ?_
 refine st (mv rfl) ?_
 refine st (aw (A:=⟨fun v w=>∃bs,v=bkV bs∧Nw≤bs∧Blk w bs #[sv] 39,fun _ _ _ e ⟨bs,h1,h2,h3⟩=>⟨bs,h1,h2,h3.ext e⟩⟩) (B:=E sv) tt rfl (fun u w he k=>by cases k;exact (a2c sv w hsc).mono fun en w' ⟨u,k1,k2,bs,k3,k4,k5⟩=>⟨u,k1,k2,bs,k3,by have:=he.size;omega,k5⟩)) ?_
 refine en fun a w e' hf=>?_
 replace hT:=hT.ext e'
 replace eo:=Ext.tr eo e'
 replace hNo:=Nat.le_trans hNo e'.size
 replace HC:=HC.ext e'
 replace e:=e.tr e'
 replace B1:=B1.ext e'
 replace B7:=B7.ext e'
 replace B8:=B8.ext e'
 refine aa ?_
 obtain⟨vb,⟨bs,rfl,hbs,BS⟩,hf⟩:=hf.opn 27 rfl
 have lbs:=BS.lt
 have hP:CoW W Wo v sv b1 b7 b8 bc bs 0 [] 0 w:=⟨e,eo,hT,B1,B7,B8,BS,HC⟩
 have d:CoD W Wo b1 b7 b8 bc bs w.heap.size:=⟨by have:=e.size;omega,by omega,by omega⟩
 clear e eo hT B1 B7 B8 BS HC hNw lb8 lb1' lb7' lbc' lb1 lb7 lbc2
 replace hf:=hf.kp [1,7,8,27]
 have hI0:ClK g l 0 (fun _=>0) 0 []:=⟨by rw[Nat.sub_zero,List.drop_length,List.take_length];exact fA.nil,fun x=>by rw[Nat.sub_zero,List.drop_length];simp,fun x hx=>by (rw[Nat.sub_zero,List.drop_length] at hx;cases hx),Nat.le_refl _⟩
 have hxl:(nI l).length=l.length:=by rw[nI,List.length_map]
 refine blk ?_
 refine a2e (xs:=nI l) (sv:=sv) hf rfl (by decide) (by decide) (by omega) (fun k w1=>∃of many lc,CoW W Wo v sv b1 b7 b8 bc bs many lc k w1∧ClK g l k of many lc) (fun k w1 ⟨of,many,lc,h1,h2⟩=>⟨VA.st _ _ _ _ h1.o hord,h1.ps⟩) ⟨_,_,_,hP,hI0⟩ (fun k w1 w2 ⟨of,many,lc,h1,h2⟩ hs kk=>⟨of,many,lc,h1.kp kk d (Nat.le_refl _),h2⟩) ?_ ?_
 ·intro lp k x' a1 w1 hk hx' hJ hlw hf
  rw[hxl] at hk hx'
  obtain⟨x,hx,rfl⟩:∃x,l[l.length - 1 - k]?=some x∧x'=(x:Int):=by
   rw[nI,List.getElem?_map] at hx'
   cases hh:l[l.length - 1 - k]? with
   | none=>rw[hh] at hx';cases hx'
   | some x=>rw[hh] at hx';exact⟨x,rfl,(Option.some.inj hx').symm⟩
  have hx1024:x<1024:=aG ((hlm x).1 (List.mem_of_getElem? hx))
  have hwx:(Lit.int .i64 (x:Int)).wf=true:=bH (by omega) (by omega)
  generalize hBz:w.heap.size=Bz at *
  refine aj ?_
  refine ae hf rfl (by decide) fun a hf=>?_
  refine aa ?_
  simp only[Exit.then]
  refine⟨Kh.rfl' _ _,fun w3 k3 hsz3 hloop hhl=>?_⟩
  obtain⟨of,many,lc,hP',hI⟩:=hJ
  have hP3:=hP'.kp k3 d (Nat.le_refl _)
  clear hP hP' hI0
  replace hf:=hf.pure w3
  have hP:=hP3
  clear hP3
  have kh:=Kh.rfl' Bz w3
  have hN3:w3.heap.size≤w3.heap.size:=Nat.le_refl _
  obtain⟨N3,hN3e⟩:∃N3,N3=w3.heap.size:=⟨_,rfl⟩
  have hN3:N3≤w3.heap.size:=Nat.le_of_eq hN3e
  have hBN:Bz+2≤N3:=by omega
  obtain⟨S,hS⟩:∃S,S=nbA g (x:Int):=⟨_,rfl⟩
  replace hf:=hf.kp [1,7,8,10]
  refine blk ?_
  refine seq ?_
  refine aj ?_
  refine eM bKV hf (by decide) fun a bt w e' hbt hst HMt hf=>?_
  replace hP:=hP.ext e'
  replace kh:=kh.tr (Kh.ext e')
  have hbtN:N3≤bt:=by have:=e'.size;omega
  replace hN3:=Nat.le_trans hN3 e'.size
  clear e' hbt hst
  have lbt:=HMt.lt
  refine aC I87 hf (by decide) fun a b11 w e' hb11 hs11 B11 hf=>?_
  have lo11_hN3:=Nat.le_trans hN3 (Nat.le_of_eq hb11.symm)
  replace hP:=hP.ext e'
  replace kh:=kh.tr (Kh.ext e')
  replace HMt:=HMt.ext e'
  replace hN3:=Nat.le_trans hN3 e'.size
  clear e'
  haveI hinr:∀G0,InR (GB W G0) (some b11):=fun G0=>InR.gb (by omega)
  refine aO T87 hf rfl rfl rfl B11 (by exact Nat.zero_lt_one) fun w hg hsz B11 hf=>?_
  replace hP:=hP.gr hg d (by omega)
  replace kh:=kh.new hg (by omega)
  replace HMt:=HMt.gr hg (fun h=>by cases h;omega)
  replace hN3:=Nat.le_trans hN3 hg.size
  clear hg
  refine aa ?_
  replace B11:Blk w b11 #[.map (some bt)] 87:=B11
  have hb11N:N3≤b11∧b11≠bt:=by omega
  replace hf:=hf.kp [1,7,8,10,11]
  have lb11:=B11.lt
  obtain⟨Nz,hNz⟩:∃Nz,Nz=w.heap.size:=⟨_,rfl⟩
  have e0:=hP.e
  repeat refine seq ?_
  refine ac 4 hf (by decide +kernel) ?_
  refine st (ld1 (v:=v) T28 rfl hP.p1 rfl) ?_
  refine st (mv rfl) ?_
  refine st (aD (A:=E (ah S)) (B:=E v) (C:=E (I (x:Nat))) dT rfl rfl (fun v u w he k1 k2=>by cases k1;cases k2;rw[hS,gU ok];exact eT g _ _ w (VA.st _ _ _ _ (Ext.tr e0 he) hv) ok.se hl2 hN)) ?_
  refine st (aw (A:=cC Nz S) cJ rfl (fun v w' he h=>by cases h;exact Calls.mono (cM _ w') (fun en w2 ⟨u,h1,h2,b',h3,h4,h5⟩=>⟨u,h1,h2,b',by have:=he.size;omega,h4,h5⟩))) ?_
  refine en fun a w e' hf=>?_
  replace hP:=hP.ext e'
  replace kh:=kh.tr (Kh.ext e')
  replace HMt:=HMt.ext e'
  replace hN3:=Nat.le_trans hN3 e'.size
  replace B11:=B11.ext e'
  refine aa ?_
  obtain⟨vv,⟨b34,h34,rfl,BS⟩,hf⟩:=hf.fix 34 rfl
  clear e0
  replace hf:=hf.kp [1,7,8,10,11,34]
  obtain⟨r0,hl0⟩:=hloop
  have hll0:lp<w3.heap.size:=(Array.getElem?_eq_some_iff.1 hl0).1
  have hl0w:=(kh.same lp hll0 hhl).trans hl0
  have lbt2:=HMt.lt
  have lb112:=B11.lt
  obtain⟨don,hdon⟩:∃don,don=l.drop (l.length - k):=⟨_,rfl⟩
  have hofd:∀a∈don,of a<many:=fun a ha=>hI.r.low a (by rw[← hdon];exact ha)
  have hia:=hI.a
  have hiv:=hI.v
  have him:=hI.m
  rw[← hdon] at hia hiv
  refine blk ?_
  refine vR hl0w hf rfl BS (by decide) (fun s w1=>∃lt,CoW W Wo v sv b1 b7 b8 bc bs many lc k w1∧Kh Bz w3 w1∧Blk w1 b11 #[.map (some bt)] 87∧MpR bKV w1 bt s.length lt∧N3≤w1.heap.size∧∀c:Int,lkV false lt c=true↔∃a∈s,a∈don∧(of a:Int)=c) (fun _ _=>False) (fun s w1 ⟨_,h,_⟩=>h.t)
   ⟨[],hP,kh,B11,HMt,hN3,fun c=>⟨fun h=>(by cases h),fun⟨a,ha,_⟩=>(by cases ha)⟩⟩ (fun s w1 w2 ⟨lt,h1,h2,h3,h4,h5,h6⟩ hs kk=>⟨lt,h1.kp kk d (by omega),h2.kp2 kk (by omega),h3.kp kk (fun hh=>by have:=hh.1;omega),h4.pres (kk.same bt h4.lt (fun hh=>by have:=hh.1;omega)),Nat.le_trans h5 kk.size,h6⟩) (fun _ _ _ h=>h.elim) ?_ ?_ (fun _ _ _ _ _ _ h=>h.elim)
  ·intro lb s y rest a1 w1 hs hJ hlw hf
   have hy1024:y<1024:=(aK.1 (by rw[hs];simp)).1
   have hwy:(Lit.int .i64 (y:Int)).wf=true:=bH (by omega) (by omega)
   have hsl:s.length≤1024:=by have:=cD S;rw[hs] at this;simp at this;omega
   generalize hBz2:w.heap.size=B2 at *
   refine aj ?_
   refine ae hf rfl (by decide) fun a hf=>?_
   refine aa ?_
   simp only[Exit.then]
   refine⟨Kh.rfl' _ _,fun w4 k4 hsz4=>?_⟩
   obtain⟨lt,h1,h2,h3,h4,h5,h6⟩:=hJ
   have q1:=h1.kp k4 d (by omega)
   have q2:=h2.kp2 k4 (by omega)
   have q3:=h3.kp k4 (fun hh=>by have:=hh.1;omega)
   have q4:=h4.pres (k4.same bt h4.lt (fun hh=>by have:=hh.1;omega))
   have q5:=Nat.le_trans h5 k4.size
   clear hP kh B11 HMt hN3 BS h1 h2 h3 h4 h5
   replace hf:=hf.pure w4
   have kh2:=Kh.rfl' B2 w4
   have hdv:(Dv (mpE iKV k) G0 lc).p (.map (some bc)) w4:=⟨[.map (some bc)],⟨bc,k,rfl,fun h=>h,Nat.le_refl _,q1.m⟩,rfl⟩
   replace hf:=hf.kp [7,11,12]
   refine blk ?_
   refine seq ?_
   refine ac 6 hf (by decide +kernel) ?_
   refine st (ld1 (v:=.map (some bc)) T83 rfl q1.p7 rfl) ?_
   refine st (mv rfl) ?_
   refine st (iv (V:=iKV) (z:=0) U83 (dH I3) (show (Lit.int .i64 0).wf=true by decide) (isE rfl hdv) rfl hwy) ?_
   refine st (mv rfl) ?_
   refine st (aY rfl rfl) ?_
   refine st (aY rfl rfl) ?_
   refine en fun a w e' hf=>?_
   replace q1:=q1.ext e'
   replace q2:=q2.tr (Kh.ext e')
   replace q4:=q4.ext e'
   replace q5:=Nat.le_trans q5 e'.size
   replace kh2:=kh2.tr (Kh.ext e')
   replace q3:=q3.ext e'
   refine ae hf rfl (by decide) fun a hf=>?_
   refine ae hf rfl (by decide) fun a hf=>?_
   refine aa ?_
   clear hdv
   replace hf:=hf.upd 13 rfl (B:=E (I (lkI lc (y:Int)))) fun v h=>a0j q1.m h
   replace hf:=hf.kp [7,11,12,13,14]
   refine seq ?_
   refine ac 1 hf (by decide +kernel) ?_
   refine st (mv rfl) ?_
   refine en fun a w e' hf=>?_
   replace q1:=q1.ext e'
   replace q2:=q2.tr (Kh.ext e')
   replace q4:=q4.ext e'
   replace q5:=Nat.le_trans q5 e'.size
   replace kh2:=kh2.tr (Kh.ext e')
   replace q3:=q3.ext e'
   refine aa ?_
   have hya:=hia y
   obtain⟨q,hq⟩:∃q,q=lc.any fun p=>decide (p.1=(y:Int)):=⟨_,rfl⟩
   rw[← hq] at hf hya
   refine ifc hf rfl (fun hb=>?_) (fun hb=>?_)
   ·replace hb:q=true:=hb
    have hyd:=hya.1 hb
    have hof:=hofd y hyd
    have hlk:=hiv y hyd
    rw[hlk] at hf
    refine ac 2 hf (by decide +kernel) ?_
    refine st (ld1 (v:=.map (some bt)) T87 rfl q3 rfl) ?_
    refine st (mv rfl) ?_
    refine en fun a w e' hf=>?_
    replace q1:=q1.ext e'
    replace q2:=q2.tr (Kh.ext e')
    replace q4:=q4.ext e'
    replace q5:=Nat.le_trans q5 e'.size
    replace kh2:=kh2.tr (Kh.ext e')
    replace q3:=q3.ext e'
    clear e'
    refine eK (V:=bKV) (i:=((of y:Nat):Int)) (c:=true) U87 hf rfl rfl rfl q4 (by simp only[maxLen];omega) (bH (by omega) (by omega)) trivial fun w hg HM hf=>?_
    refine aa ?_
    simp only[Exit.inBlock]
    refine⟨⟨_,q1.gr hg d (by omega),q2.new hg (by omega),q3.gr hg (by omega),by rw[List.length_append];exact HM,Nat.le_trans q5 hg.size,fun c=>?_⟩,kh2.tr (Kh.gr hg fun hh=>by have:=hh.1;omega)⟩
    rw[a0h]
    by_cases hc:c=((of y:Nat):Int)
    ·rw[if_pos hc]
     exact⟨fun _=>⟨y,by simp,hyd,hc.symm⟩,fun _=>rfl⟩
    ·rw[if_neg hc,h6 c]
     constructor
     ·rintro⟨a,a1,a2⟩
      exact⟨a,List.mem_append_left _ a1,a2⟩
     ·rintro⟨a,a1,a2,a3⟩
      rcases List.mem_append.1 a1 with a1|a1
      ·exact⟨a,a1,a2,a3⟩
      ·rw[List.mem_singleton.1 a1] at a3
       exact absurd a3.symm hc
   ·replace hb:q=false:=hb
    refine ar ?_
    simp only[Exit.inBlock]
    refine⟨⟨lt,q1,q2,q3,MpR.mono q4 (by rw[List.length_append];omega),q5,fun c=>(h6 c).trans ?_⟩,kh2⟩
    constructor
    ·rintro⟨a,a1,a2⟩
     exact⟨a,List.mem_append_left _ a1,a2⟩
    ·rintro⟨a,a1,a2,a3⟩
     rcases List.mem_append.1 a1 with a1|a1
     ·exact⟨a,a1,a2,a3⟩
     ·rw[List.mem_singleton.1 a1] at a2
      have:=hya.2 a2
      rw[hb] at this;cases this
  ·intro a' w' hf' hJ hsz
   simp only[Exit.inBlock,↓reduceIte,Exit.then]
   obtain⟨lt,hP',kh',B11',HMt',hN3',hlt⟩:=hJ
   have hf:FrD 69 [] a' w' [(1,E (ptr b1)),(7,E (ptr b7)),(8,E (ptr b8)),(10,E (I (x:Nat))),(11,E (ptr b11))]:=hf'.keep [1,7,8,10,11]
   clear hf' hP kh B11 HMt hN3 BS hl0w hNz lbt2 lb112 lb11
   have hP:=hP'
   have kh:=kh'
   have B11:=B11'
   have HMt:=HMt'
   have hN3:=hN3'
   clear hP' kh' B11' HMt' hN3'
   generalize w'=w at *
   have htk:∀c:Nat,lkV false lt (c:Int)=true↔∃a∈don,S.getLsbD a=true∧of a=c:=fun c=>(hlt c).trans ⟨fun⟨a,a1,a2,a3⟩=>⟨a,a2,(aK.1 a1).2,by omega⟩,fun⟨a,a1,a2,a3⟩=>⟨a,aK.2 ⟨aG a2,a2⟩,a1,by omega⟩⟩
   clear hlt
   refine seq ?_
   refine aj ?_
   refine ae hf rfl (by decide) fun a hf=>?_
   refine aa ?_
   replace hf:=hf.upd 15 rfl (B:=E (I ((0:Nat):Int))) fun v h=>h
   replace hf:=hf.kp [1,7,8,10,11,15]
   refine seq ?_
   refine cut (J:=fun a w=>∃c:Nat,c≤many∧(∀d,d<c→lkV false lt (d:Int)=true)∧lkV false lt (c:Int)=false∧FrD 69 [] a w [(7,E (ptr b7)),(8,E (ptr b8)),(10,E (I (x:Nat))),(15,E (I (c:Nat)))]∧CoW W Wo v sv b1 b7 b8 bc bs many lc k w∧Kh Bz w3 w) ?_ (fun a w hJ=>?_)
   ·refine blk (aW (fun q0 a w=>∃c:Nat,many≤q0+c∧c≤many∧(∀d,d<c→lkV false lt (d:Int)=true)∧FrD 69 [] a w [(7,E (ptr b7)),(8,E (ptr b8)),(10,E (I (x:Nat))),(11,E (ptr b11)),(15,E (I (c:Nat)))]∧CoW W Wo v sv b1 b7 b8 bc bs many lc k w∧Kh Bz w3 w∧Blk w b11 #[.map (some bt)] 87∧MpR bKV w bt (elems S).length lt) many ⟨0,Nat.le_refl _,Nat.zero_le _,fun d hd=>absurd hd (Nat.not_lt_zero d),hf.keep [7,8,10,11,15],hP,kh,B11,HMt⟩ ?_)
    clear hf hP kh B11 HMt
    rintro q0 a w ⟨c,hq0,hcm,hcd,hf,hP,kh,B11,HMt⟩
    have hwc:(Lit.int .i64 (c:Int)).wf=true:=bH (by omega) (by omega)
    repeat refine seq ?_
    obtain⟨q,hq⟩:∃q,q=lkV false lt (c:Int):=⟨_,rfl⟩
    cases q with
    | false=>
     refine ac 3 hf (by decide +kernel) ?_
     refine st (ld1 (v:=.map (some bt)) T87 rfl B11 rfl) ?_
     refine st (mv rfl) ?_
     refine st ((rH (V:=bKV) (z:=false) (dH I4) trivial U87 rfl HMt rfl hwc).eq ((congrArg Value.bool hq.symm:_=B false))) ?_
     refine en fun a w e' hf=>?_
     replace hP:=hP.ext e'
     replace kh:=kh.tr (Kh.ext e')
     replace HMt:=HMt.ext e'
     replace B11:=B11.ext e'
     refine aa ?_
     refine ifc hf rfl (fun h=>by cases h) (fun _=>aR ?_)
     simp only[Exit.then,Exit.inBlock,↓reduceIte]
     exact⟨trivial,c,hcm,hcd,hq.symm,hf.keep [7,8,10,15],hP,kh⟩
    | true=>
     have hh0:=hcm
     obtain⟨a0,a1,a2,a3⟩:=(htk c).1 hq.symm
     have hcl:c<many:=by rw[← a3];exact hofd a0 a1
     refine ac 3 hf (by decide +kernel) ?_
     refine st (ld1 (v:=.map (some bt)) T87 rfl B11 rfl) ?_
     refine st (mv rfl) ?_
     refine st ((rH (V:=bKV) (z:=false) (dH I4) trivial U87 rfl HMt rfl hwc).eq ((congrArg Value.bool hq.symm:_=B true))) ?_
     refine en fun a w e' hf=>?_
     replace hP:=hP.ext e'
     replace kh:=kh.tr (Kh.ext e')
     replace HMt:=HMt.ext e'
     replace B11:=B11.ext e'
     refine aa ?_
     refine ifc hf rfl (fun _=>ar ?_) (fun h=>by cases h)
     simp only[Exit.then,Exit.inBlock,↓reduceIte]
     refine blk ?_
     replace hf:=hf.kp [7,8,10,11,15]
     refine ac 2 hf (by decide +kernel) ?_
     refine st (mv rfl) ?_
     refine st ((add rfl rfl (by omega)).eq (congrArg (Value.int .i64) (show ((c:Nat):Int)+1=((c+1:Nat):Int) from rfl))) ?_
     refine en fun a w e' hf=>?_
     replace hP:=hP.ext e'
     replace kh:=kh.tr (Kh.ext e')
     replace HMt:=HMt.ext e'
     replace B11:=B11.ext e'
     refine ae hf rfl (by decide) fun a hf=>?_
     refine aa ?_
     simp only[Exit.inBlock]
     replace hf:=hf.kp [7,8,10,11,15]
     refine⟨q0 - 1,by omega,c+1,by omega,by omega,fun d' hd'=>?_,hf,hP,kh,B11,HMt⟩
     by_cases h:d'=c
     ·rw[h];exact hq.symm
     ·exact hcd d' (by omega)
   clear hf hP kh B11 HMt
   obtain⟨c,hcm,hcd,hcf,hf,hP,kh⟩:=hJ
   simp only[Exit.then]
   have hlB:bc<Bz∧b8<Bz:=⟨d.hi.2.2.2.1,d.hi.2.2.1⟩
   refine seq ?_
   refine ac 3 hf (by decide +kernel) ?_
   refine st (ld1 (v:=.map (some bc)) T83 rfl hP.p7 rfl) ?_
   refine st (mv rfl) ?_
   refine st (mv rfl) ?_
   refine en fun a w e' hf=>?_
   replace hP:=hP.ext e'
   replace kh:=kh.tr (Kh.ext e')
   clear e'
   refine eK (V:=iKV) (i:=(x:Int)) (c:=((c:Nat):Int)) U83 hf rfl rfl rfl hP.m (by simp only[maxLen];omega) hwx (bH (by omega) (by omega)) fun w hg HM hf=>?_
   replace hP:=hP.put hg HM d
   replace kh:=kh.tr (Kh.gr hg fun hh=>by have:=hh.1;omega)
   clear hg HM
   refine aa ?_
   replace hf:=hf.kp [8,15]
   refine ac 4 hf (by decide +kernel) ?_
   refine st (ld1 (v:=I (many:Nat)) T3 rfl hP.p8 rfl) ?_
   refine st (mv rfl) ?_
   refine st (add rfl rfl (by omega)) ?_
   refine st ((max2 rfl rfl).eq (congrArg (Value.int .i64) (show max ((many:Nat):Int) (((c:Nat):Int)+1)=((max many (c+1):Nat):Int) by omega))) ?_
   refine en fun a w e' hf=>?_
   replace hP:=hP.ext e'
   replace kh:=kh.tr (Kh.ext e')
   clear e'
   refine aO T3 hf rfl rfl rfl hP.p8 Nat.zero_lt_one fun w hg hsz B8 hf=>?_
   replace hP:=hP.st8 hg B8 d
   replace kh:=kh.tr (Kh.gr hg fun hh=>by have:=hh.1;omega)
   refine aa ?_
   simp only[Exit.inBlock]
   refine⟨trivial,⟨fun y=>if y=x then c else of y,_,_,hP,?_⟩,kh⟩
   refine hI.step ok hnd hlm hpe hk hx (fun a ha hna hof=>?_) (fun d' hd'=>?_) hcm
   ·rw[← hdon] at ha
    have:=(htk c).2 ⟨a,ha,by rw[hS];exact hna,hof⟩
    rw[hcf] at this;cases this
   ·obtain⟨a,h1,h2,h3⟩:=(htk d').1 (hcd d' hd')
    rw[← hdon]
    exact⟨a,h1,by rw[← hS];exact h2,h3⟩
 ·intro a' w' hf' hJ hsz hDn
  simp only[Exit.inBlock,↓reduceIte,Exit.then]
  obtain⟨of,many,lc,hP',hI⟩:=hJ
  rw[hxl] at hP' hI
  have hmany:(many:Int)=pw (nbA g) 0 l+1:=by
   have:=hI.r.num
   rw[Nat.sub_self,List.drop_zero,List.take_zero] at this
   exact this
  have hD:Ds [w.heap.size] w':=(Ds.nil w').cons hDn (by simp)
  have hf:FrD 69 (bK [w.heap.size]) a' w' [(1,E (ptr b1)),(7,E (ptr b7)),(8,E (ptr b8))]:=hf'.keep [1,7,8]
  have hDW:∀d∈[w.heap.size],W.heap.size≤d:=fun d hd=>by rw[List.mem_singleton] at hd;have:=hP.e.size;omega
  have hd2:CoD W Wo b1 b7 b8 bc bs w'.heap.size:=⟨by have:=d.hi;omega,d.lo,d.ne⟩
  clear hf' hDn hP hI d hI0
  have hP:=hP'
  clear hP'
  generalize [w.heap.size]=D at *
  generalize w'=w at *
  obtain⟨V,hV⟩:∃V,V=ai g.1:=⟨_,rfl⟩
  have hNw:w.heap.size≤w.heap.size:=Nat.le_refl _
  obtain⟨Nw,hNwe⟩:∃Nw,Nw=w.heap.size:=⟨_,rfl⟩
  rw[← hNwe] at hd2
  have hNw:Nw≤w.heap.size:=Nat.le_of_eq hNwe
  have lD:∀d∈D,d<Nw:=fun d hd=>by rw[hNwe];exact hD.lt hd
  clear hNwe
  refine seq ?_
  refine aj ?_
  refine aC I39 hf (by decide) fun a b16 w e' hb16 hs16 B16 hf=>?_
  have lo16_hNw:=Nat.le_trans hNw (Nat.le_of_eq hb16.symm)
  replace hP:=hP.ext e'
  replace hNw:=Nat.le_trans hNw e'.size
  replace hD:=hD.ext e'
  refine aa ?_
  replace B16:Blk w b16 #[.slice none 0 0] 39:=B16
  have n16:Nw≤b16:=by omega
  replace hf:=hf.kp [1,7,8,16]
  obtain⟨N6,hN6e⟩:∃N6,N6=w.heap.size:=⟨_,rfl⟩
  have hN6:N6≤w.heap.size:=Nat.le_of_eq hN6e
  have lb16:b16<N6:=by rw[hN6e];exact B16.lt
  have hNN:Nw≤N6:=by omega
  have Ho:OwR aA 3 N6 G0 w [] (.slice none 0 0):=OwR.nil aA _ hN6 fun b hb=>hb.elim
  clear hN6e
  obtain⟨Nz,hNz⟩:∃Nz,Nz=w.heap.size:=⟨_,rfl⟩
  have e0:=hP.e
  repeat refine seq ?_
  refine ac 3 hf (by decide +kernel) ?_
  refine st (ld1 (v:=v) T28 rfl hP.p1 rfl) ?_
  refine st (aw (A:=E (ah V)) (B:=E v) fa rfl (fun v w he k=>by cases k;rw[hV];exact fw g _ w (VA.st _ _ _ _ (Ext.tr e0 he) hv) ok.sv hl1 hN)) ?_
  refine st (aw (A:=cC Nz V) cJ rfl (fun v w' he h=>by cases h;exact Calls.mono (cM _ w') (fun en w2 ⟨u,h1,h2,b',h3,h4,h5⟩=>⟨u,h1,h2,b',by have:=he.size;omega,h4,h5⟩))) ?_
  refine en fun a w e' hf=>?_
  replace hP:=hP.ext e'
  replace hN6:=Nat.le_trans hN6 e'.size
  replace Ho:=Ho.ext e'
  replace B16:=B16.ext e'
  replace hD:=hD.ext e'
  refine aa ?_
  clear e0
  obtain⟨vv,⟨b59,h59,rfl,BS⟩,hf⟩:=hf.fix 59 rfl
  replace hf:=hf.kp [7,8,16,59]
  have h0w:0<w.heap.size:=hP.t.lt
  refine blk ?_
  refine cS (S:=V) hf rfl BS (by decide) (fun s w1=>∃ov ys,CoW W Wo v sv b1 b7 b8 bc bs many lc l.length w1∧Blk w1 b16 #[ov] 39∧OwR aA 3 N6 G0 w1 ys ov∧ys.length=s.length∧Ds D w1∧∀b,ov.ownBlock=some b→¬aT w.heap.size b) (fun _ _=>False) (fun s w1 ⟨_,_,h,_⟩=>h.t)
   ⟨.slice none 0 0,[],hP,B16,Ho,rfl,hD,fun b hb=>by simp[Value.ownBlock] at hb⟩ (fun s w1 w2 ⟨ov,ys,h1,h2,h3,h4,h5,h6⟩ hs kk=>⟨ov,ys,h1.kp kk hd2 (by omega),h2.kp kk (fun hh=>by have:=hh.1;omega),h3.chE kk.chg h6,h4,h5.ch kk.chg (fun d hd hh=>by have:=hh.1;have:=lD d hd;omega),h6⟩) (fun _ _ _ h=>h.elim) ?_ ?_ (fun _ _ _ _ _ _ h=>h.elim)
  ·intro lb s x rest a1 w1 hs hJ hlw hf
   have hx1024:x<1024:=(aK.1 (by rw[hs];simp)).1
   have hwx:(Lit.int .i64 (x:Int)).wf=true:=bH (by omega) (by omega)
   have hsl:s.length<1024:=by have:=cD V;rw[hs] at this;simp at this;omega
   generalize hBz:w.heap.size=Bz at *
   refine aj ?_
   refine ae hf rfl (by decide) fun a hf=>?_
   refine aa ?_
   simp only[Exit.then]
   refine⟨Kh.rfl' _ _,fun w3 k3 hsz3=>?_⟩
   obtain⟨ov,ys,h1,h2,h3,h4,h5,h6⟩:=hJ
   have q1:=h1.kp k3 hd2 (by omega)
   have q2:=h2.kp k3 (fun hh=>by have:=hh.1;omega)
   have q3:=h3.chE k3.chg h6
   have q5:=h5.ch k3.chg (fun d hd hh=>by have:=hh.1;have:=lD d hd;omega)
   have hw3:Bz+3≤w3.heap.size:=by omega
   clear hP B16 Ho hD BS h1 h2 h3 h5
   replace hf:=hf.pure w3
   have kh:=Kh.rfl' Bz w3
   replace hf:=hf.kp [7,16,17]
   refine blk ?_
   refine ac 5 hf (by decide +kernel) ?_
   refine st (ld1 (v:=ov) T39 rfl q2 rfl) ?_
   refine st (ld1 (v:=.map (some bc)) T83 rfl q1.p7 rfl) ?_
   refine st (mv rfl) ?_
   refine st (fD U83 rfl q1.m rfl hwx) ?_
   refine st (bL (e:=aA) (G:=GO G0 ov) U39 I3 rfl (by decide) rfl q3.avs (isI rfl)) ?_
   refine en fun a w e' hf=>?_
   replace q1:=q1.ext e'
   replace q3:=q3.ext e'
   replace kh:=kh.tr (Kh.ext e')
   replace hw3:=Nat.le_trans hw3 e'.size
   replace q2:=q2.ext e'
   replace q5:=q5.ext e'
   clear e'
   replace hf:=hf.kp [16,61,65]
   have hn16:=q3.neLt lb16
   have hrow:∀b,ov.ownBlock=some b→N6≤b:=fun b hb=>(q3.lt hb).1
   refine bQ U39 I3 rfl rfl hf (by decide) rfl q3 (isR rfl) (by simp only[List.length_singleton];omega) (by simp only[List.length_singleton,maxLen];omega) fun a ov2 w2 hg hat Hn hf=>?_
   have hcc:=Chg.row hg
   have r1:CoW W Wo v sv b1 b7 b8 bc bs many lc l.length w2:=by
    obtain⟨z1,z7,z8,zc,zs,z0,zW,zo⟩:=hd2.hi
    have no:∀{b},b<Nw→¬(ov.ownBlock=some b):=fun h hh=>by have:=hrow _ hh;omega
    exact⟨q1.e.ch hcc fun b hb=>by have:=hrow b hb;omega,q1.o.ch hcc fun b hb=>by have:=hrow b hb;omega,q1.t.ch hcc (no z0),q1.p1.ch hcc (no z1),q1.p7.ch hcc (no z7),q1.p8.ch hcc (no z8),q1.ps.ch hcc (no zs),q1.m.pres (hcc.block _ q1.m.lt (no zc))⟩
   replace q2:=q2.gro hg hn16
   replace q5:=q5.ch hcc fun d hd hh=>by have:=hrow _ hh;have:=lD d hd;omega
   replace kh:=kh.tr (Kh.gro hg h6)
   have h62:∀b,ov2.ownBlock=some b→¬aT Bz b:=fun b hb=>hat.elim (fun h=>h6 b (by rw[← h];exact hb)) fun h hh=>by rw[h] at hb;cases hb;have:=hh.2;omega
   have hn162:=Hn.neLt lb16
   replace hf:=hf.kp [16,66]
   refine aO T39 hf rfl rfl Hn.one q2 Nat.zero_lt_one fun w4 hg2 hsz q2 hf=>?_
   refine aa ?_
   simp only[Exit.inBlock]
   exact⟨⟨ov2,_,r1.gr hg2 hd2 n16,q2,Hn.grE hg2 hn162,by rw[List.length_append,List.length_append,h4];rfl,q5.gr hg2 (fun hh=>by have:=lD _ hh;omega),h62⟩,kh.tr (Kh.gr hg2 fun hh=>by have:=hh.1;omega)⟩
  ·intro a' w' hf' hJ hsz hDn
   simp only[Exit.inBlock,↓reduceIte,Exit.then]
   obtain⟨ov,ys,h1,h2,h3,h4,h5,h6⟩:=hJ
   have hD2:Ds (w.heap.size::D) w':=h5.cons hDn fun h=>by have:=lD _ h;omega
   have hf:FrD 69 (bK (w.heap.size::D)) a' w' [(8,E (ptr b8)),(16,E (ptr b16))]:=hf'.keep [8,16]
   have hDW2:∀d∈w.heap.size::D,W.heap.size≤d:=fun d hd=>(List.mem_cons.1 hd).elim (fun h=>by have:=hP.e.size;omega) (hDW d)
   clear hf' hP B16 Ho hD BS hDn
   generalize w.heap.size::D=D2 at *
   generalize w'=w at *
   refine seq ?_
   refine reg 5 Mix.mix hf (by decide +kernel) ?_
   refine st (ld1 (v:=I (many:Nat)) T3 rfl h1.p8 rfl) ?_
   refine st (ld1 (v:=ov) T39 rfl h2 rfl) ?_
   refine st (asg rfl) ?_
   refine st (asg rfl) ?_
   refine st (asg rfl) ?_
   refine en fun a w e' hf=>?_
   replace h1:=h1.ext e'
   replace h2:=h2.ext e'
   replace hD2:=hD2.ext e'
   refine aa ?_
   refine an ?_
   exact qA rfl hf rfl rfl rfl hD2 ⟨_,rfl,h1.e.shut hDW2,Tup.three (congrArg (Value.int .i64) hmany) trivial rfl⟩
end Go.Mono
namespace Go.Mono
open Go Go.Proofs Go.RowKit Go.Gr Go.Ms
theorem a2i (W:World)(hT:Tab W):Calls Tryz.prog 15 #[] W (Post (E (B true)) W):=by
 refine enter (args:=[]) (As:=([]:List VA)) Tryz.func15 rfl Tryz.ntmps15 (Nat.le_of_ble_eq_true rfl) (fun i A h=>by simp at h) (fun a hf=>?_) (Nat.le_of_ble_eq_true rfl)
 dsimp only[params,Nat.reduceAdd] at hf
 have e:=Ext.rfl' W
 refine seq ?_
 refine aj ?_
 refine ae hf rfl (by decide) fun a hf=>?_
 refine aa ?_
 refine seq ?_
 refine ac 1 hf (by decide +kernel) ?_
 refine st (gf (A:=E (B true)) tC (fun w he=>a2a w (hT.ext he))) ?_
 refine en fun a w e' hf=>?_
 replace hT:=hT.ext e'
 replace e:=e.tr e'
 refine ae hf rfl (by decide) fun a hf=>?_
 refine aa ?_
 refine an ?_
 refine az rfl hf rfl ?_
 rintro _ rfl
 exact⟨_,rfl,e,rfl⟩
theorem sH (W:World)(hT:Tab W):Calls Tryz.prog 6 #[] W (Post (E (B true)) W):=by
 refine enter (args:=[]) (As:=([]:List VA)) Tryz.func6 rfl Tryz.ntmps6 (Nat.le_of_ble_eq_true rfl) (fun i A h=>by simp at h) (fun a hf=>?_) (Nat.le_of_ble_eq_true rfl)
 dsimp only[params,Nat.reduceAdd] at hf
 have e:=Ext.rfl' W
 refine seq ?_
 refine aj ?_
 refine ae hf rfl (by decide) fun a hf=>?_
 refine aa ?_
 refine seq ?_
 refine ac 1 hf (by decide +kernel) ?_
 refine st (gf (A:=E (B true)) tf (fun w he=>a2i w (hT.ext he))) ?_
 refine en fun a w e' hf=>?_
 replace hT:=hT.ext e'
 replace e:=e.tr e'
 refine ae hf rfl (by decide) fun a hf=>?_
 refine aa ?_
 refine an ?_
 refine az rfl hf rfl ?_
 rintro _ rfl
 exact⟨_,rfl,e,rfl⟩
def mxN (xs:List BS):Nat:=xs.foldl (fun m C=>max m (card C)) 0
theorem a2j (xs:List BS)(C:BS):mxN (xs++[C])=max (mxN xs) (card C):=by rw[mxN,List.foldl_append];rfl
theorem sI:∀(xs:List BS) (m:Nat),(∀C∈xs,card C≤xs.foldl (fun m C=>max m (card C)) m)∧m≤xs.foldl (fun m C=>max m (card C)) m∧(xs.foldl (fun m C=>max m (card C)) m=m∨∃C∈xs,xs.foldl (fun m C=>max m (card C)) m=card C)
 | [],m=>⟨fun C h=>(by cases h),Nat.le_refl _,.inl rfl⟩
 | C::xs,m=>by
  obtain⟨h1,h2,h3⟩:=sI xs (max m (card C))
  rw[List.foldl_cons]
  refine⟨fun D hD=>?_,Nat.le_trans (Nat.le_max_left ..) h2,?_⟩
  ·rcases List.mem_cons.1 hD with rfl|hD
   ·exact Nat.le_trans (Nat.le_max_right ..) h2
   ·exact h1 D hD
  ·rcases h3 with h3|⟨D,hD,h3⟩
   ·rcases Nat.le_total m (card C) with hm|hm
    ·exact .inr ⟨C,List.mem_cons_self ..,by rw[h3];omega⟩
    ·exact .inl (by rw[h3];omega)
   ·exact .inr ⟨D,List.mem_cons_of_mem _ hD,h3⟩
theorem a2k {xs:List BS}{M:Int}(h:∀C∈xs,((card C:Nat):Int)≤M)(h0:0≤M)(hx:M=0∨∃C∈xs,((card C:Nat):Int)=M):((mxN xs:Nat):Int)=M:=by
 obtain⟨h1,h2,h3⟩:=sI xs 0
 have hle:((mxN xs:Nat):Int)≤M:=by
  rcases h3 with h3|⟨C,hC,h3⟩
  ·rw[mxN,h3];exact h0
  ·rw[mxN,h3];exact h C hC
 rcases hx with hx|⟨C,hC,hx⟩
 ·omega
 ·have:card C≤mxN xs:=h1 C hC
  omega
theorem a2l {g:GT}(ok:Gr.Ok g){l:List Nat}(hn:l.Nodup)(hl:∀i,i∈l↔(ai g.1).getLsbD i=true){xs:List BS}(hx:xs.Perm (outF (alF (nbA g) 0 l))):((mxN xs:Nat):Int)=pw (nbA g) 0 l+1:=by
 have hir:∀a:Nat,¬(nbA g (a:Int)).getLsbD a=true:=fun a h=>(((bN ok).1 h).inn ok).2.2 rfl
 obtain⟨p1,p2,p3⟩:=rc hir l 0 (fun v hv=>⟨aG ((hl v).1 hv),aN v⟩) hn
 by_cases he:l=[]
 ·subst he
  have e1:pw (nbA g) 0 [] = -1:=rfl
  have e2:alF (nbA g) 0 []=[]:=rfl
  rw[e2] at hx
  have e3:outF ([]:List BS)=[]:=rfl
  rw[e3] at hx
  rw[List.perm_nil.1 hx,e1];rfl
 ·obtain⟨C,hC,hCm⟩:=p3 he
  obtain⟨q1,D,hD,hDm⟩:=zH p1 p2 ⟨C,hC,hCm⟩
  exact a2k (fun C hC=>q1 C (hx.mem_iff.1 hC)) (by omega) (.inr ⟨D,hx.mem_iff.2 hD,hDm⟩)
theorem a2m (u v:Int):Tryz.prog.built 38 [(0,.int .i64 2),(1,.int .i64 u),(2,.int .i64 v)]=some #[.int .i64 2,.int .i64 u,.int .i64 v,.int .u8 0,.int .i64 0]:=by kernel_rfl
theorem a2n (g:GT)(u v:Int)(bg bv be n:Nat)(W:World)(hg:GrR W bg bv be n g)(hn:n<maxLen)(hu:(Lit.int .i64 u).wf=true)(hv:(Lit.int .i64 v).wf=true) :
  Calls Tryz.prog 8 #[.pointer (some ⟨bg,0,none⟩),dtV (eD u v)] W fun en w'=>en=.returned (I (bu g (eD u v)))∧Chg (fun b=>b=bv∨b=be) W w'∧GrR w' bg bv be (n+1) (apS g u v):=
 (lG g (eD u v) bg bv be n W hg hn (.inr (.inl rfl)) hu hv ⟨(by show (Lit.int .u8 0).wf=true;decide),(by show (Lit.int .i64 0).wf=true;decide)⟩).mono fun en w' ⟨k1,k2,k3⟩=>⟨k1,k2,k3.perm (rk g u v).1 (rk g u v).2⟩
def FrV (N n:Nat)(g:GT):VA:=⟨fun u w=>∃bg bv be,u=ptr bg∧N≤bg∧N≤bv∧N≤be∧GrR w bg bv be n g,fun _ _ _ e ⟨bg,bv,be,h1,h2,h3,h4,h5⟩=>⟨bg,bv,be,h1,h2,h3,h4,h5.ext e⟩⟩
theorem a2o {G:Nat→Prop}(g:GT)(hg:Gr.Ok g)(v:Value)(W:World)(h:(Dv gtE G g).p v W)(hl1:g.1.length≤1000)(hl2:g.2.length≤1000) :
  Calls Tryz.prog 5 #[v] W (Post (FrV W.heap.size 2000 g) W):=
 Calls.mono (yK g v W h (by omega) (by omega) (xc hg) (xd hg)) fun en w' ⟨e,hq⟩=>by
  obtain⟨g',k1,k2,k3⟩:=xf hg
  rcases hq with ⟨g2,b1,b2,b3,q1,rfl,q3,q4,q5,q6⟩|⟨q1,_⟩
  ·rw[k1] at q1;cases q1
   exact⟨_,rfl,e,b1,b2,b3,rfl,q3,q4,q5,(q6.perm k2 k3).mono (by omega)⟩
  ·rw[k1] at q1;cases q1
theorem a2p (g:GT)(F:List (Nat×Nat))(p:Nat×Nat):apL g (F++[p])=apS (apL g F) (p.1:Int) (p.2:Int):=by simp only[apL,List.foldl_append,List.foldl_cons,List.foldl_nil]
theorem lawEC_spec {G:Nat→Prop}(l:List DT)(v:Value)(W:World)(hT:Tab W)(h:(Dv (slE dtE) G l).p v W)(hlab:∀d∈l,0≤d.2.2.2.1∧d.2.2.2.1<256) :
  Calls Tryz.prog 3 #[v] W (Post (E (B true)) W):=by
 have hv:(Dv (slE dtE) G0 l).p v W:=Dv.weak h fun b _ hb=>hb.elim
 clear h
 have hT0:=hT.lt
 have hg0:∀{w:World},∀b,G0 b→b<w.heap.size:=fun b hb=>hb.elim
 have hgO:Gr.Ok (iy l):=lP hlab 60
 have hgl:=lL l 60
 obtain⟨gg,hgg⟩:∃gg,gg=iy l:=⟨_,rfl⟩
 have hg1:gg.1.length≤60:=by rw[hgg];exact hgl.1
 have hg2:gg.2.length≤60:=by rw[hgg];exact hgl.2
 rw[← hgg] at hgO
 clear hgl
 refine enter (args:=[v]) (As:=[E v]) Tryz.func3 rfl Tryz.ntmps3 (Nat.le_of_ble_eq_true rfl) ?_ (fun a hf=>?_) (Nat.le_of_ble_eq_true rfl)
 rotate_left
 dsimp only[params,Nat.reduceAdd] at hf
 rotate_right
 ·exact arg1 rfl
 have e:=Ext.rfl' W
 refine seq ?_
 refine aj ?_
 refine ae hf rfl (by decide) fun a hf=>?_
 refine aa ?_
 have e0:=e
 refine seq ?_
 refine ac 2 hf (by decide +kernel) ?_
 refine st (mv rfl) ?_
 refine st (aw (A:=Dv gtE G0 gg) (B:=E v) En4 rfl (fun v w he k=>by cases k;rw[hgg];exact wY l _ w (VA.st _ _ _ _ (Ext.tr e0 he) hv) hg0)) ?_
 refine en fun a w e' hf=>?_
 replace hT:=hT.ext e'
 replace e:=e.tr e'
 clear e'
 clear e0
 obtain⟨z,hz,hf⟩:=hf.fix 18 rfl
 obtain⟨N,hN⟩:∃N,N=w.heap.size:=⟨_,rfl⟩
 have hNW:W.heap.size≤N:=by rw[hN];exact e.size
 replace hz:(Dv gtE (fun b=>N≤b) gg).p z w:=Dv.weak hz fun b hb hn=>absurd hb (by omega)
 replace hf:=hf.kp [2,18]
 refine aC I26 hf (by decide) fun a b3 w e' hb3 hs3 B3 hf=>?_
 have hle3:=Nat.le_trans e.size (Nat.le_of_eq hb3.symm)
 replace hT:=hT.ext e'
 replace hz:=VA.st _ _ _ _ e' hz
 replace e:=e.tr e'
 clear e'
 obtain⟨z1,z2,rfl,hz1,hz2⟩:=Dv.gt.1 hz
 have l3:N≤b3:=by omega
 haveI hinN:InR (fun b=>N≤b) (some b3):=⟨fun b hb=>by cases hb;exact l3⟩
 refine aF T26 hf rfl rfl (bR (slOne hz1) (slOne hz2)) B3 rfl rfl fun w hg hsz B3 hf=>?_
 replace e:=e.gr hg (by omega);replace hz:=Dv.gr hz hg l3;replace hT:=hT.gr hg (by omega);clear hg hz1 hz2 hN
 refine aa ?_
 replace hf:=hf.kp [2,3]
 have hz0:=hz
 obtain⟨N2,hN2⟩:∃N2,N2=w.heap.size:=⟨_,rfl⟩
 have hN2W:W.heap.size≤N2:=by rw[hN2];exact e.size
 have lb3:b3<N2:=by rw[hN2];exact B3.lt
 refine seq ?_
 refine ac 2 hf (by decide +kernel) ?_
 refine st (ldW T26 rfl B3 rfl) ?_
 refine st (aw (A:=FrV N2 2000 gg) (B:=E (.agg #[z1,z2])) En5 rfl (fun v w he h=>by cases h;exact (a2o gg hgO _ w (VA.st _ _ _ _ he hz0) (by omega) (by omega)).mono fun en w' ⟨u,k1,k2,bg,bv,be,k3,k4,k5,k6,k7⟩=>⟨u,k1,k2,bg,bv,be,k3,by rw[hN2];exact Nat.le_trans he.size k4,by rw[hN2];exact Nat.le_trans he.size k5,by rw[hN2];exact Nat.le_trans he.size k6,k7⟩)) ?_
 refine en fun a w e' hf=>?_
 replace hT:=hT.ext e'
 replace hz:=VA.st _ _ _ _ e' hz
 replace e:=e.tr e'
 replace B3:=B3.ext e'
 refine ae hf rfl (by decide) fun a hf=>?_
 refine aa ?_
 clear hz0 hN2
 obtain⟨gv,⟨bg,bv,be,rfl,n1,n2,n3,GK⟩,hf⟩:=hf.opn 4 rfl
 have lg:bg<w.heap.size∧bv<w.heap.size∧be<w.heap.size:=⟨GK.blk.lt,GK.vs.lt,GK.es.lt⟩
 replace hf:=hf.kp [2,3,4]
 obtain⟨z1',z2',hze,hzV,hzE⟩:=Dv.gt.1 hz
 obtain⟨rfl,rfl⟩:z1=z1'∧z2=z2':=by cases hze;exact⟨rfl,rfl⟩
 clear hze hzE hz
 by_cases h9:gg.1.length≤9
 rotate_left
 ·have hgd:(Dv (ptE (grE 2000)) G0 (some gg)).p (ptr bg) w:=GK.dv (Nat.le_refl _) (G:=G0) id id id
  repeat refine seq ?_
  refine ac 8 hf (by decide +kernel) ?_
  refine st (mv rfl) ?_
  refine st (fh U28 (isE rfl hgd)) ?_
  refine st (mv rfl) ?_
  refine sy rfl rfl (am U26 rfl T23 (by decide) rfl) ?_
  refine sy rfl rfl (ld1 (v:=z1) T23 rfl B3 rfl) ?_
  refine sy rfl rfl (bi U23 (isE rfl hzV)) ?_
  refine sy rfl rfl ((gtr rfl rfl).eq (congrArg Value.bool ((decide_eq_true (by omega):_=true)))) ?_
  refine st (pkF rfl rfl) ?_
  refine en fun a w e' hf=>?_
  replace hT:=hT.ext e'
  replace hgd:=VA.st _ _ _ _ e' hgd
  replace e:=e.tr e'
  replace B3:=B3.ext e'
  refine aa ?_
  refine ifc hf rfl (fun _=>?_) (fun h=>by cases h)
  refine seq ?_
  refine ac 5 hf (by decide +kernel) ?_
  refine st (mv rfl) ?_
  refine st (vi U28 (isE rfl hgd)) ?_
  refine st (mv rfl) ?_
  refine sy rfl rfl (gf (A:=E (B true)) En6 (fun w he=>sH w (hT.ext he))) ?_
  refine st (pkT rfl rfl) ?_
  refine en fun a w e' hf=>?_
  replace hT:=hT.ext e'
  replace hgd:=VA.st _ _ _ _ e' hgd
  replace e:=e.tr e'
  replace B3:=B3.ext e'
  refine ae hf rfl (by decide) fun a hf=>?_
  refine aa ?_
  refine an ?_
  simp only[Exit.then,Exit.inBlock]
  refine az rfl hf rfl ?_
  rintro _ rfl
  exact⟨_,rfl,e,rfl⟩
 ·have hh00:=hT0
  have hgd:(Dv (ptE (grE 2000)) G0 (some gg)).p (ptr bg) w:=GK.dv (Nat.le_refl _) (G:=G0) id id id
  repeat refine seq ?_
  refine ac 8 hf (by decide +kernel) ?_
  refine st (mv rfl) ?_
  refine st (fh U28 (isE rfl hgd)) ?_
  refine st (mv rfl) ?_
  refine sy rfl rfl (am U26 rfl T23 (by decide) rfl) ?_
  refine sy rfl rfl (ld1 (v:=z1) T23 rfl B3 rfl) ?_
  refine sy rfl rfl (bi U23 (isE rfl hzV)) ?_
  refine sy rfl rfl ((gtr rfl rfl).eq (congrArg Value.bool ((decide_eq_false (by omega):_=false)))) ?_
  refine st (pkF rfl rfl) ?_
  refine en fun a w e' hf=>?_
  replace hT:=hT.ext e'
  replace GK:=GK.ext e'
  replace e:=e.tr e'
  replace B3:=B3.ext e'
  refine aa ?_
  refine ifc hf rfl (fun h=>by cases h) (fun _=>?_)
  refine ar ?_
  simp only[Exit.then,Exit.inBlock,↓reduceIte]
  clear hgd hzV B3
  replace hf:=hf.kp [2,4]
  have hc9:card (ai gg.1)≤9:=Nat.le_trans (qB gg) h9
  obtain⟨N3,hN3⟩:∃N3,N3=w.heap.size:=⟨_,rfl⟩
  have lN3:bv<N3∧be<N3:=by rw[hN3];exact⟨GK.vs.lt,GK.es.lt⟩
  have GK0:=GK
  refine seq ?_
  refine ac 2 hf (by decide +kernel) ?_
  refine st (mv rfl) ?_
  refine st (aw (A:=sD gg N3) (B:=E (ptr bg)) En7 rfl (fun v w he k=>by cases k;exact (mQ gg hgO _ w (hT.ext he) ((GK0.ext he).dv (Nat.le_refl _) (G:=G0) id id id) (by omega) (by omega) (by omega) (by omega)).mono fun en w' ⟨u,k1,k2,F,f1,f2,f3⟩=>⟨u,k1,k2,F,f1,f2,fun b hb=>by rw[hN3];exact Nat.le_trans he.size (f3 b hb)⟩)) ?_
  refine en fun a w e' hf=>?_
  replace hT:=hT.ext e'
  replace GK:=GK.ext e'
  replace e:=e.tr e'
  refine ae hf rfl (by decide) fun a hf=>?_
  refine aa ?_
  clear GK0 hN3
  obtain⟨uF,⟨F,hF,HF,hFo⟩,hf⟩:=hf.opn 5 rfl
  replace hf:=hf.kp [2,4,5]
  obtain⟨f1,f2,f3⟩:=mu hgO hc9 hF
  have hchl:=zT hgO hc9 hF
  have hnone:=zU hgO hc9 hF
  obtain⟨k1,k2,k3,k4⟩:=jV F gg hgO (by omega) f3
  have HD:(Dv (slE etE) (fun b=>b=bv∨b=be) (F.map eF)).p uF w:=HF.slN fun b hb hh=>by have:=hFo b hb;omega
  clear HF
  repeat refine seq ?_
  refine aj ?_
  refine ae hf rfl (by decide) fun a hf=>?_
  refine aa ?_
  replace hf:=hf.kp [2,4,5,6]
  refine blk (aW (fun r0 a w=>∃(k:Nat) ,r0=F.length - k∧k≤F.length∧Fr 116 a w [(2,E (B false)),(4,E (ptr bg)),(5,E uF),(6,E (I k))]∧Ext W w∧Tab w∧GrR w bg bv be (2000+k) (apL gg (F.take k))∧(Dv (slE etE) (fun b=>b=bv∨b=be) (F.map eF)).p uF w) F.length ⟨0,rfl,by omega,hf,e,⟨hT,GK,HD⟩⟩ ?_)
  clear hf e;try clear hT;try clear GK;try clear HD
  rintro r0 a w ⟨k,rfl,hk,hf,e,hT,GK,HD⟩
  repeat refine seq ?_
  refine ac 4 hf (by decide +kernel) ?_
  refine st (mv rfl) ?_
  refine st (mv rfl) ?_
  refine st ((bi U31 (isE rfl HD)).eq (congrArg (Value.int .i64) (show (((F.map eF).length:Nat):Int)=((F.length:Nat):Int) by rw[List.length_map]))) ?_
  refine st (lss rfl rfl) ?_
  refine en fun a w e' hf=>?_
  replace hT:=hT.ext e'
  replace GK:=GK.ext e'
  replace HD:=VA.st _ _ _ _ e' HD
  replace e:=e.tr e'
  refine aa ?_
  refine ifc hf rfl (fun hc=>ar ?_) (fun hc=>aR ?_)
  rotate_left
  rotate_left
  ·have hlt:k<F.length:=by have:=of_decide_eq_true hc;(try dsimp only at this);omega
   clear hc
   replace hf:=hf.kp [2,4,5,6]
   refine seq ?_
   refine blk ?_
   have hg:=List.getElem?_eq_getElem hlt
   generalize F[k]=p at hg
   have hpm:=f3 p (List.mem_of_getElem? hg)
   have hp1:p.1<1024:=aG hpm.1
   have hp2:p.2<1024:=aG hpm.2.1
   have hgF:(F.map eF)[k]?=some (eF p):=by rw[List.getElem?_map,hg];rfl
   have htk:F.take (k+1)=F.take k++[p]:=dh hg
   have hap:apL gg (F.take (k+1))=apS (apL gg (F.take k)) (p.1:Int) (p.2:Int):=by rw[htk,a2p]
   obtain⟨gx,hgx⟩:∃gx,gx=apL gg (F.take k):=⟨_,rfl⟩
   rw[← hgx] at GK hap
   refine reg 12 Mix.mix hf (by decide +kernel) ?_
   refine st (mv rfl) ?_
   refine st (mv rfl) ?_
   refine st (mv rfl) ?_
   refine st (ba U31 S36 (isE rfl HD) rfl (by omega) (hgF)) ?_
   refine st (aH U36 rfl T3 (by decide) (Fld.fst (Fld.fst Fld.refl)) (isR rfl)) ?_
   refine st (ldI T3 (isR rfl)) ?_
   refine st (mv rfl) ?_
   refine st (mv rfl) ?_
   refine st (ba U31 S36 (isE rfl HD) rfl (by omega) (hgF)) ?_
   refine st (aH U36 rfl T3 (by decide) (Fld.fst (Fld.snd Fld.refl rfl)) (isR rfl)) ?_
   refine st (ldI T3 (isR rfl)) ?_
   refine st (bG [(0,_),(1,_),(2,_)] rfl (a2m (p.1:Int) (p.2:Int))) ?_
   refine en fun a w e' hf=>?_
   replace hT:=hT.ext e'
   replace GK:=GK.ext e'
   replace HD:=VA.st _ _ _ _ e' HD
   replace e:=e.tr e'
   clear e'
   replace hf:=hf.kp [2,4,5,6,42,53]
   refine cq (S:=fun b=>b=bv∨b=be) (F:=fun z w'=>GrR w' bg bv be (2000+k+1) (apS gx (p.1:Int) (p.2:Int))) hf (by decide) En8 ?_ fun a z w hc GK2 hf=>?_
   ·have e42:a.eval (.tmp 42)=ptr bg:=hf.opd (.tmp 42) _ rfl
    have e53:a.eval (.tmp 53)=dtV (eD (p.1:Int) (p.2:Int)):=hf.opd (.tmp 53) _ rfl
    simp only[List.map_toArray,List.map_cons,List.map_nil,e42,e53]
    exact (a2n gx (p.1:Int) (p.2:Int) bg bv be (2000+k) _ GK (by simp only[maxLen];omega) (bH (by omega) (by omega)) (bH (by omega) (by omega))).mono fun en w' ⟨k1,k2,k3⟩=>⟨_,k1,k2,k3⟩
   replace e:=e.ch hc (fun b hb=>by omega);replace hT:=hT.ch hc (fun hb=>by omega);replace HD:=Dv.ch HD hc (fun b hb=>hb)
   clear hc GK
   have GK:=GK2
   clear GK2
   refine aa ?_
   simp only[Exit.then,Exit.inBlock]
   rw[← hap] at GK
   replace hf:=hf.kp [2,4,5,6]
   refine ac 2 hf (by decide +kernel) ?_
   refine st (mv rfl) ?_
   refine st ((add rfl rfl (by omega)).eq (congrArg (Value.int .i64) (show (k:Int)+1=((k+1:Nat):Int) from rfl))) ?_
   refine en fun a w e' hf=>?_
   replace hT:=hT.ext e'
   replace GK:=GK.ext e'
   replace HD:=VA.st _ _ _ _ e' HD
   replace e:=e.tr e'
   refine ae hf rfl (by decide) fun a hf=>?_
   refine aa ?_
   replace hf:=hf.kp [2,4,5,6]
   refine⟨_,?_,k+1,rfl,by omega,hf,e,?_⟩
   ·omega
   exact⟨hT,GK,HD⟩
  ·obtain rfl:F.length=k:=by have:=of_decide_eq_false hc;(try dsimp only at this);omega
   clear hc
   simp only[Exit.then,Exit.inBlock,↓reduceIte]
   rw[List.take_length] at GK
   clear HD
   obtain⟨hh,hhe⟩:∃hh,hh=apL gg F:=⟨_,rfl⟩
   rw[← hhe] at GK k1 k2 k3 hchl hnone
   rw[← k2] at hc9 h9 hchl hnone
   have hE:hh.2.length≤200:=by omega
   have hlv:hh.1.length≤12:=by omega
   have hsm:=qC k1 hlv (all:=ai hh.1) fun i h=>h
   obtain⟨ls,q1,q2,q3,q4,q5⟩:=zy k1 hlv hchl
   have hll:ls.length≤10000:=by
    have:=gP ls (elems (ai hh.1)) q2 fun x hx=>aK.2 ⟨aG ((q3 x).1 hx),(q3 x).1 hx⟩
    have:=cD (ai hh.1)
    omega
   have hl1024:∀x∈ls,x<1024:=fun x hx=>aG ((q3 x).1 hx)
   obtain⟨P,hP⟩:∃P,P=pw (nbA hh) 0 ls:=⟨_,rfl⟩
   rw[← hP] at q5
   have hPlo : -1≤P:=by rw[← q5];exact qR hh
   have hPhi:P≤12:=by rw[← q5,twG];exact (iJ (nb:=nbA hh) (all:=ai hh.1) 0).2
   have hnd:2000+F.length≤2200:=by omega
   replace hf:=hf.kp [4]
   have GK0:=GK
   refine seq ?_
   refine ac 6 hf (by decide +kernel) ?_
   refine st (mv rfl) ?_
   refine st (aw (A:=Tup [E (I P),Dv (slE aA) G0 (fW (cZ hh)),E (I 0)]) (B:=E (ptr bg)) En9 rfl (fun v w he k=>by cases k;have:=yz hh _ w (hT.ext he) ((GK0.ext he).dv (Nat.le_refl _) (G:=G0) id id id) k1.sv k1.se hlv (by omega) (by omega) hsm (by omega) (K:=G0) fun b hb=>hb.elim;rw[twG] at q5;rwa [q5] at this)) ?_
   refine st (mv rfl) ?_
   refine st (aY rfl rfl) ?_
   refine st (aY rfl rfl) ?_
   refine st (aY rfl rfl) ?_
   refine en fun a w e' hf=>?_
   replace hT:=hT.ext e'
   replace GK:=GK.ext e'
   replace e:=e.tr e'
   refine ae hf rfl (by decide) fun a hf=>?_
   refine ae hf rfl (by decide) fun a hf=>?_
   refine ae hf rfl (by decide) fun a hf=>?_
   refine aa ?_
   replace hf:=hf.kp [4,7,9]
   clear GK0
   have GK0:=GK
   refine seq ?_
   refine ac 6 hf (by decide +kernel) ?_
   refine st (mv rfl) ?_
   refine st (aw (A:=Tup [E (I (P+1)),Any,E (I 0)]) (B:=E (ptr bg)) ta rfl (fun v w he k=>by cases k;rw[hP];exact a2h hh k1 _ ls w (hT.ext he) ((GK0.ext he).dv (Nat.le_refl _) (G:=G0) id id id) (by omega) (by omega) (by omega) q1 q2 q3 q4)) ?_
   refine st (mv rfl) ?_
   refine st (aY rfl rfl) ?_
   refine st (aY rfl rfl) ?_
   refine st (aY rfl rfl) ?_
   refine en fun a w e' hf=>?_
   replace hT:=hT.ext e'
   replace GK:=GK.ext e'
   replace e:=e.tr e'
   refine ae hf rfl (by decide) fun a hf=>?_
   refine ae hf rfl (by decide) fun a hf=>?_
   refine ae hf rfl (by decide) fun a hf=>?_
   refine aa ?_
   replace hf:=hf.kp [4,7,9,10,12]
   clear GK0
   have GK0:=GK
   refine seq ?_
   refine ac 5 hf (by decide +kernel) ?_
   refine st (mv rfl) ?_
   refine st (aw (A:=Tup [⟨fun u w=>∃xs:List BS,xs.Perm (outF (alF (nbA hh) 0 ls))∧(Dv (slE aX) G0 xs).p u w,fun _ _ _ e ⟨xs,h1,h2⟩=>⟨xs,h1,VA.st _ _ _ _ e h2⟩⟩,E (I 0)]) (B:=E (ptr bg)) tc rfl (fun v w he k=>by cases k;exact a0R hh k1 _ ls w (hT.ext he) ((GK0.ext he).dv (Nat.le_refl _) (G:=G0) id id id) (by omega) (by omega) (by omega) q1 hl1024 hll)) ?_
   refine st (mv rfl) ?_
   refine st (aY rfl rfl) ?_
   refine st (aY rfl rfl) ?_
   refine en fun a w e' hf=>?_
   replace hT:=hT.ext e'
   replace GK:=GK.ext e'
   replace e:=e.tr e'
   refine ae hf rfl (by decide) fun a hf=>?_
   refine ae hf rfl (by decide) fun a hf=>?_
   refine aa ?_
   clear GK0
   obtain⟨uc,⟨xs,hxs,HX⟩,hf⟩:=hf.opn 13 rfl
   have hmx:=a2l k1 q2 q3 hxs
   rw[← hP] at hmx
   have hxl:xs.length≤10000:=by
    have h1:(outF (alF (nbA hh) 0 ls)).length≤(alF (nbA hh) 0 ls).length:=mH _ _
    have h2:=ke (nbA hh) ls 0
    have h3:=hxs.length_eq
    omega
   replace hf:=hf.kp [4,7,9,10,12,13,14]
   refine seq ?_
   refine aj ?_
   refine ae hf rfl (by decide) fun a hf=>?_
   refine aa ?_
   repeat refine seq ?_
   refine aj ?_
   refine ae hf rfl (by decide) fun a hf=>?_
   refine aa ?_
   replace hf:=hf.kp [4,7,9,10,12,13,14,15,16]
   refine blk (aW (fun r0 a w=>∃(k:Nat) ,r0=xs.length - k∧k≤xs.length∧Fr 116 a w [(4,E (ptr bg)),(7,E (I P)),(9,E (I 0)),(10,E (I (P+1))),(12,E (I 0)),(13,E uc),(14,E (I 0)),(15,E (I (mxN (xs.take k):Nat))),(16,E (I k))]∧Ext W w∧Tab w∧GrR w bg bv be (2000+F.length) hh∧(Dv (slE aX) G0 xs).p uc w) xs.length ⟨0,rfl,by omega,hf,e,⟨hT,GK,HX⟩⟩ ?_)
   clear hf e;try clear hT;try clear GK;try clear HX
   rintro r0 a w ⟨k,rfl,hk,hf,e,hT,GK,HX⟩
   repeat refine seq ?_
   refine ac 4 hf (by decide +kernel) ?_
   refine st (mv rfl) ?_
   refine st (mv rfl) ?_
   refine st (bi U42 (isE rfl HX)) ?_
   refine st (lss rfl rfl) ?_
   refine en fun a w e' hf=>?_
   replace hT:=hT.ext e'
   replace GK:=GK.ext e'
   replace HX:=VA.st _ _ _ _ e' HX
   replace e:=e.tr e'
   refine aa ?_
   refine ifc hf rfl (fun hc=>ar ?_) (fun hc=>aR ?_)
   rotate_left
   rotate_left
   ·have hlt:k<xs.length:=by have:=of_decide_eq_true hc;(try dsimp only at this);omega
    clear hc
    replace hf:=hf.kp [4,7,9,10,12,13,14,15,16]
    refine seq ?_
    refine blk ?_
    have hg:=List.getElem?_eq_getElem hlt
    generalize xs[k]=C at hg
    have htk:xs.take (k+1)=xs.take k++[C]:=dh hg
    have hap:mxN (xs.take (k+1))=max (mxN (xs.take k)) (card C):=by rw[htk,a2j]
    obtain⟨c,hc⟩:∃c,c=mxN (xs.take k):=⟨_,rfl⟩
    rw[← hc] at hap hf
    refine ac 7 hf (by decide +kernel) ?_
    refine st (mv rfl) ?_
    refine st (mv rfl) ?_
    refine st (mv rfl) ?_
    refine st (ba U42 S47 (isE rfl HX) rfl (by omega) (hg)) ?_
    refine st (ldS T47 (isR rfl)) ?_
    refine st (aw (A:=E (I (card C:Nat))) kG rfl (fun v w he h=>by cases h;exact lT _ w)) ?_
    refine st ((max2 rfl rfl).eq (congrArg (Value.int .i64) (show max ((c:Nat):Int) ((card C:Nat):Int)=((max c (card C):Nat):Int) by omega))) ?_
    refine en fun a w e' hf=>?_
    replace hT:=hT.ext e'
    replace GK:=GK.ext e'
    replace HX:=VA.st _ _ _ _ e' HX
    replace e:=e.tr e'
    refine ae hf rfl (by decide) fun a hf=>?_
    refine aa ?_
    rw[← hap] at hf
    replace hf:=hf.kp [4,7,9,10,12,13,14,15,16]
    simp only[Exit.then,Exit.inBlock,↓reduceIte]
    refine ac 2 hf (by decide +kernel) ?_
    refine st (mv rfl) ?_
    refine st ((add rfl rfl (by omega)).eq (congrArg (Value.int .i64) (show (k:Int)+1=((k+1:Nat):Int) from rfl))) ?_
    refine en fun a w e' hf=>?_
    replace hT:=hT.ext e'
    replace GK:=GK.ext e'
    replace HX:=VA.st _ _ _ _ e' HX
    replace e:=e.tr e'
    refine ae hf rfl (by decide) fun a hf=>?_
    refine aa ?_
    replace hf:=hf.kp [4,7,9,10,12,13,14,15,16]
    refine⟨_,?_,k+1,rfl,by omega,hf,e,?_⟩
    ·omega
    exact⟨hT,GK,HX⟩
   ·obtain rfl:xs.length=k:=by have:=of_decide_eq_false hc;(try dsimp only at this);omega
    clear hc
    simp only[Exit.then,Exit.inBlock,↓reduceIte]
    rw[List.take_length,hmx] at hf
    clear HX
    replace hf:=hf.kp [4,7,9,10,12,14,15]
    have GK0:=GK
    refine seq ?_
    refine ac 31 hf (by decide +kernel) ?_
    refine st (gf (A:=E (B true)) En6 (fun w he=>sH w (hT.ext he))) ?_
    refine st (mv rfl) ?_
    refine sy rfl rfl (mv rfl) ?_
    refine sy rfl rfl ((eql rfl rfl).eq (congrArg Value.bool (show ((0:Int)==0)=true from rfl))) ?_
    refine st (pkT rfl rfl) ?_
    refine st (mv rfl) ?_
    refine sy rfl rfl (mv rfl) ?_
    refine sy rfl rfl ((eql rfl rfl).eq (congrArg Value.bool (show ((0:Int)==0)=true from rfl))) ?_
    refine st (pkT rfl rfl) ?_
    refine st (mv rfl) ?_
    refine sy rfl rfl (mv rfl) ?_
    refine sy rfl rfl ((eql rfl rfl).eq (congrArg Value.bool (show ((0:Int)==0)=true from rfl))) ?_
    refine st (pkT rfl rfl) ?_
    refine st (mv rfl) ?_
    refine sy rfl rfl (mv rfl) ?_
    refine sy rfl rfl (mv rfl) ?_
    refine sy rfl rfl (sub rfl rfl (by omega)) ?_
    refine sy rfl rfl ((eql rfl rfl).eq (congrArg Value.bool ((beq_iff_eq.2 (by omega):(P==P+1 - 1)=true)))) ?_
    refine st (pkT rfl rfl) ?_
    refine st (mv rfl) ?_
    refine sy rfl rfl (mv rfl) ?_
    refine sy rfl rfl (mv rfl) ?_
    refine sy rfl rfl (sub rfl rfl (by omega)) ?_
    refine sy rfl rfl ((eql rfl rfl).eq (congrArg Value.bool ((beq_iff_eq.2 (by omega):(P==P+1 - 1)=true)))) ?_
    refine st (pkT rfl rfl) ?_
    refine st (mv rfl) ?_
    refine sy rfl rfl (mv rfl) ?_
    refine sy rfl rfl (aw (A:=Dv (slE etE) G0 []) (B:=E (ptr bg)) En7 rfl (fun v w he k=>by cases k;exact (mQ hh k1 _ w (hT.ext he) ((GK0.ext he).dv (Nat.le_refl _) (G:=G0) id id id) (by omega) (by omega) (by omega) (by omega)).mono fun en w' ⟨u,k1,k2,F,f1,f2,f3⟩=>⟨u,k1,k2,by rw[hnone] at f1;obtain rfl:=List.perm_nil.1 f1;exact f2.sl⟩)) ?_
    refine sy rfl rfl (bi U31 (isR rfl)) ?_
    refine sy rfl rfl ((eql rfl rfl).eq (congrArg Value.bool (show ((((List.length ([]:List ET)):Nat):Int)==0)=true from rfl))) ?_
    refine st (pkT rfl rfl) ?_
    refine en fun a w e' hf=>?_
    replace hT:=hT.ext e'
    replace GK:=GK.ext e'
    replace e:=e.tr e'
    refine ae hf rfl (by decide) fun a hf=>?_
    refine aa ?_
    refine an ?_
    refine az rfl hf rfl ?_
    rintro _ rfl
    exact⟨_,rfl,e,rfl⟩
end Go.Mono
