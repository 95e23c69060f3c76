/-
  Walks of functions and plain facts.
  No condition.
-/
import Derived.Test.YteildobhcnllmaaGreatDoorTA
import Derived.Laws.Cover3
import Derived.Maps.OwnIn
import Derived.Maps.Views
import Derived.Maps.OwnSet
import Derived.Laws.Pointers
import Derived.Lib.SliceRun
import Derived.Carry
import Derived.Test.YteildobhcnllmaaGreatDoorCards
import Derived.Test.YteildobhcnllmaaGreatDoorTie
import Derived.ProofKit
import Derived.OpenShut
import Derived.ChangeOld
import Derived.Below
import Derived.LaidLaws
import Derived.Handed
import Derived.Lib.LaidTab
import Derived.SevenTiedAt
import Derived.RangeFuncRecord
import Derived.Maps.Range
import Derived.DeepKeys4
set_option linter.unusedVariables false
set_option linter.unusedSimpArgs false
namespace Go.Mono
open Go Go.RowKit
structure Chg (S:Nat→Prop)(w w':World):Prop where
 os:w'.os=w.os
 tape:w'.tape=w.tape
 output:w'.output=w.output
 size:w.heap.size≤w'.heap.size
 block:∀k,k<w.heap.size→¬S k→w'.heap[k]?=w.heap[k]?
section
variable {S S':Nat→Prop}{w w' w'' W:World}
theorem Chg.rfl' (S:Nat→Prop)(w:World):Chg S w w:=⟨rfl,rfl,rfl,Nat.le_refl _,fun _ _ _=>rfl⟩
theorem Chg.tr (h:Chg S w w')(k:Chg S w' w''):Chg S w w'':=
 ⟨k.os.trans h.os,k.tape.trans h.tape,k.output.trans h.output,Nat.le_trans h.size k.size,fun b hb hS=>(k.block b (Nat.lt_of_lt_of_le hb h.size) hS).trans (h.block b hb hS)⟩
theorem Chg.ext (h:Chg S w w')(k:Ext w' w''):Chg S w w'':=
 ⟨k.os.trans h.os,k.tape.trans h.tape,k.output.trans h.output,Nat.le_trans h.size k.size,fun b hb hS=>(k.block b (Nat.lt_of_lt_of_le hb h.size)).trans (h.block b hb hS)⟩
instance {S:Nat→Prop}{W w w':World}:Ug w w' (Chg S W w) (Chg S W w'):=⟨fun e h=>h.ext e⟩
theorem Ext.chg (h:Ext w w')(S:Nat→Prop):Chg S w w':=⟨h.os,h.tape,h.output,h.size,fun b hb _=>h.block b hb⟩
theorem Chg.gr (h:Chg S w w'){b:Nat}(k:w'.grownBy w'' (some b))(hb:S b∨w.heap.size≤b):Chg S w w'':=
 ⟨k.os.trans h.os,k.tape.trans h.tape,k.output.trans h.output,Nat.le_trans h.size k.size,fun c hc hS=>(k.block c (Nat.lt_of_lt_of_le hc h.size) (fun he=>by
  cases he
  rcases hb with hb|hb
  ·exact hS hb
  ·omega)).trans (h.block c hc hS)⟩
theorem Chg.to (h:Chg S w w')(hS:∀b,b<w.heap.size→S b→S' b):Chg S' w w':=⟨h.os,h.tape,h.output,h.size,fun b hb hn=>h.block b hb (fun hs=>hn (hS b hb hs))⟩
theorem Ext.ch (e:Ext W w)(h:Chg S w w')(hS:∀b,S b→W.heap.size≤b):Ext W w':=
 ⟨h.os.trans e.os,h.tape.trans e.tape,h.output.trans e.output,Nat.le_trans e.size h.size,fun b hb=>(h.block b (Nat.lt_of_lt_of_le hb e.size) (fun hs=>by have:=hS b hs;omega)).trans (e.block b hb)⟩
theorem Blk.ch {b:Nat}{cs:Array Value}{t:TypeId}(h:Blk w b cs t)(k:Chg S w w')(hS:¬S b):Blk w' b cs t:=(k.block b h.lt hS).trans h
class InS (G S:Nat→Prop):Prop where
 in':∀b,S b→G b
theorem Dv.ch {α:Type}{e:Enc α}{G:Nat→Prop}{x:α}{v:Value}(h:(Dv e G x).p v w)(k:Chg S w w')(hG:∀b,S b→G b):(Dv e G x).p v w':=by
 obtain⟨cs,h1,h2⟩:=h
 exact⟨cs,e.pres h1 (fun b hb hn=>k.block b hb (fun hs=>hn (hG b hs))) k.size,h2⟩
class AvS (S:Nat→Prop)(A:VA):Prop where
 av:∀v w w',Chg S w w'→A.p v w→A.p v w'
class fU (S:Nat→Prop)(L:Env):Prop where
 av:∀t A,aC L t=some A→∀v w w',Chg S w w'→A.p v w→A.p v w'
instance (S:Nat→Prop)(v:Value):AvS S (E v):=⟨fun _ _ _ _ h=>h⟩
instance (S:Nat→Prop):AvS S Any:=⟨fun _ _ _ _ h=>h⟩
instance (S:Nat→Prop){α:Type}(e:Enc α)(G:Nat→Prop)(x:α)[h:InS G S]:AvS S (Dv e G x):=⟨fun v w w' k h1=>Dv.ch h1 k h.in'⟩
instance (S:Nat→Prop):fU S []:=⟨fun t A h=>by simp[aC] at h⟩
instance (S:Nat→Prop)(k:Nat)(A:VA)(L:Env)[h:AvS S A][hl:fU S L]:fU S ((k,A)::L):=⟨fun t B ht=>by
 by_cases hkt:k=t
 ·subst hkt;rw[cT] at ht;cases ht;exact h.av
 ·rw[cU _ _ hkt] at ht;exact hl.av t B ht⟩
theorem FrD.ch {n:Nat}{ds:List Deferred}{a:Act}{L:Env}[h:fU S L](hf:FrD n ds a w L)(k:Chg S w w'):FrD n ds a w' L:=
 ⟨hf.size,hf.defers,fun t A ht=>h.av t A ht _ _ _ k (hf.val t A ht)⟩
end

section tail
variable {P:Program}{L:Env}{ty:TypeId}{pos:String}{aft:Array Edge}{r:Option Nat}{ds:List Deferred}
variable {ops:Array Oper}{rest:List Oper}{Q:Exit→Act→World→Prop}{n:Nat}{a:Act}{w:World}{x y:Operand}
theorem fu {S:Nat→Prop}{F:World→Prop}{fo:Operand}{id:FuncId}{caps:Array Value}{xs:Array Operand}{tys:Array TypeId}{A:VA}{d:Nat}(hf:FrD n ds a w L)[hL:fU S L](hd:d<n)(he:Proofs.Enters P id)(hfo:opd L fo=some (E (.func (.func id) #[] caps)))
  (h:Calls P id (xs.map a.eval++caps) w (fun e w'=>∃v,e=.returned v∧Chg S w w'∧A.p v w'∧F w'))
  (k:∀a' w',Chg S w w'→F w'→FrD n ds a' w' ((d,A)::L)→wpListIn (FW r) 0 P ops Q rest a' w') :
  wpListIn (FW r) 0 P ops Q (⟨some d,.call ⟨.value fo,xs,tys⟩,ty,pos,aft,none⟩::rest) a w:=
 wpListIn_plain rfl fun K hK=>by
  have hfv:a.eval fo=.func (.func id) #[] caps:=hf.opd fo _ hfo
  have hrun:(execOp a.eval ⟨some d,.call ⟨.value fo,xs,tys⟩,ty,pos,aft,none⟩).run P w=.ok (.enter id (xs.map a.eval++caps)) w:=by
   simp[execOp,resolve,hfv,Deferred.ofValue,invoke,he (xs.map a.eval++caps) w]
  refine OpR.wp (R:=fun v w'=>Chg S w w'∧A.p v w'∧F w') ?_ ?_
  ·simp only[OpR,hrun]
   exact h
  ·rintro v w' ⟨h1,h2,h3⟩
   exact hK _ _ (k _ _ h1 h3 ((hf.ch h1).put (d:=some d) (Ext.rfl' _) (fun k hk=>by cases hk;exact hd) h2))
end tail
def da (l:List Int):Array Value:=(l.map (Value.int .i64)).toArray
theorem ym (l:List Int)(p:Nat)(x:Int):(da l).setIfInBounds p (.int .i64 x)=da (l.set p x):=by
 apply Array.toList_inj.1
 simp[da,List.map_set]
theorem yn (l:List Int):(da l).size=l.length:=by simp[da]
end Go.Mono
namespace Go.Mono
open Go Go.RowKit
theorem Dv.gr {α:Type}{e:Enc α}{G:Nat→Prop}{x:α}{v:Value}{w w':World}{b:Nat}(h:(Dv e G x).p v w)(hg:w.grownBy w' (some b))(hb:G b):(Dv e G x).p v w':=by
 obtain⟨cs,h1,h2⟩:=h
 exact⟨cs,Enc.gro h1 hg (fun c hc=>by cases hc;exact hb),h2⟩
instance {α:Type}{e:Enc α}{W:World}{G:Nat→Prop}{x:α}{v:Value}{w w':World}{b:Nat}:Gg b w w' ((Dv e (GB W G) x).p v w) (W.heap.size≤b) ((Dv e (GB W G) x).p v w'):=⟨fun g s h=>Dv.gr h g (.inr s)⟩
theorem Dv.ex {α:Type}{e:Enc α}{G:Nat→Prop}{x:α}{v:Value}{w w':World}(h:(Dv e G x).p v w)(k:Ext w w'):(Dv e G x).p v w':=(Dv e G x).st _ _ _ k h
section
variable {P:Program}{w0:World}{L:Env}{dst:Option Tmp}{ty:TypeId}{pos:String}{aft:Array Edge}{g:Option (Nat×Bool)}
theorem dM {fn:Fn}{x1:Operand}{v1:Value}(h1:opd L x1=some (E v1)):OpC P w0 L ⟨dst,.makeFunc fn #[] #[x1],ty,pos,aft,g⟩ (E (.func fn #[] #[v1])):=
 aM fun ρ w _ hv=>⟨_,by
  have a1:=opE hv (x:=x1) (by simp[Op.operands]) h1
  simp[execOp,Instr.makeFunc,a1],rfl⟩
theorem ig {fn:Fn}{x1 x2:Operand}{v1 v2:Value}(h1:opd L x1=some (E v1))(h2:opd L x2=some (E v2)):OpC P w0 L ⟨dst,.makeFunc fn #[] #[x1,x2],ty,pos,aft,g⟩ (E (.func fn #[] #[v1,v2])):=
 aM fun ρ w _ hv=>⟨_,by
  have a1:=opE hv (x:=x1) (by simp[Op.operands]) h1
  have a2:=opE hv (x:=x2) (by simp[Op.operands]) h2
  simp[execOp,Instr.makeFunc,a1,a2],rfl⟩
theorem mS {fn:Fn}{x1 x2 x3 x4:Operand}{v1 v2 v3 v4:Value}(h1:opd L x1=some (E v1))(h2:opd L x2=some (E v2))(h3:opd L x3=some (E v3))(h4:opd L x4=some (E v4)):OpC P w0 L ⟨dst,.makeFunc fn #[] #[x1,x2,x3,x4],ty,pos,aft,g⟩ (E (.func fn #[] #[v1,v2,v3,v4])):=
 aM fun ρ w _ hv=>⟨_,by
  have a1:=opE hv (x:=x1) (by simp[Op.operands]) h1
  have a2:=opE hv (x:=x2) (by simp[Op.operands]) h2
  have a3:=opE hv (x:=x3) (by simp[Op.operands]) h3
  have a4:=opE hv (x:=x4) (by simp[Op.operands]) h4
  simp[execOp,Instr.makeFunc,a1,a2,a3,a4],rfl⟩
end
end Go.Mono
namespace Go.Mono
theorem Dv.slOne {α:Type}{e:Enc α}{G:Nat→Prop}{xs:List α}{v:Go.Value}{w:Go.World}(h:(Dv (slE e) G xs).p v w):v.oneCell'=true:=by
 rcases Dv.sl.1 h with ⟨rfl,_⟩|⟨ad,cap,cs,rfl,_⟩ <;> rfl
end Go.Mono
namespace Go.Mono
open Go Go.RowKit
class FlE {α:Type}(e:Enc α):Prop where
 fl:∀{G G' w w' x cs},e.r G w x cs→e.r G' w' x cs
instance {α:Type}(k:Nat)(agg:Bool)(f:α→List Value)(p1 p2 p3 p4):FlE (eL k agg f p1 p2 p3 p4):=⟨fun h=>h⟩
instance:FlE aj:=⟨fun h=>h⟩
instance:FlE cZ:=⟨fun h=>h⟩
instance:FlE bD:=⟨fun h=>h⟩
instance {α β:Type}(e:Enc α)(f:Enc β)[he:FlE e][hf:FlE f]:FlE (prE e f):=⟨fun⟨c,d,h,h1,h2⟩=>⟨c,d,h,he.fl h1,hf.fl h2⟩⟩
theorem Cells.fl {α:Type}{e:Enc α}[he:FlE e]{G G':Nat→Prop}{w w':World}:∀{xs:List α} {cs:List Value},Cells e G w xs cs→Cells e G' w' xs cs
 | [],cs,h=>h
 | x::xs,cs,⟨c,d,h,h1,h2⟩=>⟨c,d,h,he.fl h1,Cells.fl h2⟩
theorem OwR.grE {α:Type}{e:Enc α}[he:FlE e]{ty:TypeId}{B:Nat}{G:Nat→Prop}{w w':World}{xs:List α}{v:Value}{b:Nat}(h:OwR e ty B G w xs v)(hg:w.grownBy w' (some b))(hne:v.ownBlock≠some b):OwR e ty B G w' xs v:=by
 obtain⟨cs,h1,h2⟩:=h.own
 exact⟨⟨cs,h1.kept hg (.inr hne),Cells.fl h2⟩,h.av,Nat.le_trans h.base hg.size⟩
section
variable {P:Program}{w0:World}{L:Env}{dst:Option Tmp}{ty:TypeId}{pos:String}{aft:Array Edge}{g:Option (Nat×Bool)}
theorem yo {x:Operand}{t yt te:TypeId}{ao:Option Addr}{n c:Nat}(ht:P.underlying t=some (.slice te))(hx:opd L x=some (E (.slice ao n c))) :
  OpC P w0 L ⟨dst,.binOp .eql t x (.const (.slice none 0 0)) yt,ty,pos,aft,g⟩ (E (.bool ao.isNone)):=
 jN hx rfl (fun _=>rfl) rfl fun w _=>run_equal_slice_nil w t te ao n c ht
end
end Go.Mono
namespace Go.Mono
open Go Go.RowKit

variable {P:Program}{k e:TypeId}{w w':World}{b n:Nat}{m:Int→Option Int}
theorem fV {t:TypeId}{z:Value}{sz bz:Nat}(h:(P.info? t).map (fun i=>(i.zero,i.size,i.bytes))=some (some z,sz,bz)):∀w,(zeroValue t).run P w=.ok z w:=fun w=>by
 obtain⟨i,hi,hzi,_,_⟩:=info_parts h
 simp[zeroValue,typeInfo,hi,hzi]
section
variable {w0:World}{L:Env}{dst:Option Tmp}{ty:TypeId}{pos:String}{aft:Array Edge}{g:Option (Nat×Bool)}
end
end Go.Mono
namespace Go.Mono
open Go Go.RowKit
variable {P:Program}{w0:World}{L:Env}{dst:Option Tmp}{ty:TypeId}{pos:String}{aft:Array Edge}{g:Option (Nat×Bool)}{x y:Operand}{t yt:TypeId}
variable {α β:Type}{e:Enc α}{G:Nat→Prop}{z:α}

theorem fW (hx:Is L w0 x (Dv (ptE e) G (some z))):OpC P w0 L ⟨dst,.nilCheck x,ty,pos,aft,g⟩ (Dv (ptE e) G (some z)):=
 aM fun ρ w he hv=>by
  have h:=hx.v he hv (by simp[Op.operands])
  obtain⟨ad,h1,h2⟩:=Dv.pt.1 h
  exact⟨ρ x,by simp[execOp,h1],h⟩
theorem eO {ad:Addr}(hx:opd L x=some (E (.pointer (some ad)))):OpC P w0 L ⟨dst,.nilCheck x,ty,pos,aft,g⟩ (E (.pointer (some ad))):=
 aM fun ρ w he hv=>by
  have h1:=opE hv (x:=x) (by simp[Op.operands]) hx
  exact⟨ρ x,by simp[execOp,h1],h1⟩
theorem qu {op:BinOp}{A:VA}{c:Value}{b:Bool}(hx:Is L w0 x A)(h:∀v w,A.p v w→(eqGuard op t x (.const c) v c).run P w=.ok () w∧(binOp op t v c).run P w=.ok (.bool b) w) :
  OpC P w0 L ⟨dst,.binOp op t x (.const c) yt,ty,pos,aft,g⟩ (E (.bool b)):=
 aM fun ρ w he hv=>by
  have h1:=hx.v he hv (by simp[Op.operands])
  have h2:ρ (.const c)=c:=hv (.const c) (by simp[Op.operands]) _ rfl
  obtain⟨h3,h4⟩:=h _ _ h1
  exact⟨_,by simp only[execOp,h2,Sem.run_bind,h3,h4,Result.andThen_ok,Sem.run_pure],rfl⟩
theorem qv {pe:TypeId}(h:P.underlying t=some (.pointer pe)):P.underlying t=some (.pointer (P.pointee t)):=by
 rw[h];simp[Program.pointee,h]
theorem qw {pe:TypeId}(ht0:P.underlying t=some (.pointer pe))(hx:Is L w0 x (Dv (ptE e) G (some z))):OpC P w0 L ⟨dst,.binOp .neq t x (.const (.pointer none)) yt,ty,pos,aft,g⟩ (E (.bool true)):=
 have ht:=qv ht0
 qu hx fun v w h=>by
  obtain⟨ad,h1,_⟩:=Dv.pt.1 h
  subst h1
  exact⟨rfl,run_neq_pointer_nil w t (some ad) ht⟩
theorem dX {pe:TypeId}(ht0:P.underlying t=some (.pointer pe))(hx:Is L w0 x (Dv (ptE e) G (some z))):OpC P w0 L ⟨dst,.binOp .eql t x (.const (.pointer none)) yt,ty,pos,aft,g⟩ (E (.bool false)):=
 have ht:=qv ht0
 qu hx fun v w h=>by
  obtain⟨ad,h1,_⟩:=Dv.pt.1 h
  subst h1
  exact⟨rfl,run_eql_pointer_nil w t (some ad) ht⟩
end Go.Mono
namespace Go.Mono
open Go Go.RowKit
end Go.Mono
namespace Go.Mono
open Go Go.RowKit
end Go.Mono
namespace Go.Mono
open Go Go.RowKit
variable {P:Program}{w0:World}{L:Env}{dst:Option Tmp}{ty:TypeId}{pos:String}{aft:Array Edge}{g:Option (Nat×Bool)}{x y:Operand}{t te:TypeId}

theorem yp {te:TypeId}{s:Nat}(hs:(P.info? te).map (·.size)=some s)(w:World):(sizeOf te).run P w=.ok s w:=by
 cases hi:P.info? te with
 | none=>simp[hi] at hs
 | some i=>simp[hi] at hs;simp[sizeOf,typeInfo,hi,hs]
section tail
variable {r:Option Nat}{ds:List Deferred}{ops:Array Oper}{rest:List Oper}{Q:Exit→Act→World→Prop}{n:Nat}{a:Act}{w:World}
end tail
theorem exE {vs:Array Value}{i:Nat}{u:Value}(hx:opd L x=some (E (.tuple vs)))(hi:vs[i]?=some u):OpC P w0 L ⟨dst,.extract x i,ty,pos,aft,g⟩ (E u):=
 aM fun ρ w he hv=>by
  have h1:=opE hv (x:=x) (by simp[Op.operands]) hx
  exact⟨u,by simp[execOp,h1,Instr.extract,hi],rfl⟩
end Go.Mono
namespace Go.Mono
open Go Go.RowKit

section
variable {P:Program}{ops:Array Oper}{Q:Exit→Act→World→Prop}{w0:World}{n:Nat}{ds:List Deferred}{r:Option Nat}

def eP (A:VA)(As:Nat→VA):Nat→VA
 | 0=>A
 | i+1=>As i
theorem eQ (L:Env)(A:VA)(As:Nat→VA)(k j:Nat):aV ops L (eP A As) k (j+1)=aV ops (push (aR ops k) A L) As (k+1) j:=by
 rw[← iM]
 congr 1
end
end Go.Mono
namespace Go.Mono
open Go Go.RowKit
section
variable {P:Program}{w0:World}{L:Env}{ty:TypeId}{pos:String}{aft:Array Edge}
variable {ops:Array Oper}{rest:List Oper}{K:Env→Prop}{A:VA}{op:Op}{dd:Nat}{row:Option Nat}{F:World→Prop}
end
end Go.Mono
namespace Go.Mono
open Go Go.RowKit

structure eR (P:Program)(w0:World)(S:World→World→Prop)(F:World→Prop)(L:Env)(o:Oper)(A:VA):Prop where
 out:∀ρ w,Ext w0 w→(∀x∈o.op.operands,∀B,opd L x=some B→B.p (ρ x) w)→OpR P o ρ w (fun v w'=>S w w'∧A.p v w'∧F w')
abbrev yq (P:Program)(w0:World)(S:Nat→Prop)(F:World→Prop)(L:Env)(o:Oper)(A:VA):Prop:=eR P w0 (Chg S) F L o A
end Go.Mono
namespace Go.Mono
open Go Go.RowKit
section
variable {P:Program}{w0:World}{L:Env}{dst:Option Tmp}{ty:TypeId}{pos:String}{aft:Array Edge}{S:Nat→Prop}{F:World→Prop}
def OwA {α:Type}(e:Enc α)(ty:TypeId)(B:Nat)(G:Nat→Prop)(xs:List α):VA:=⟨fun v w=>OwR e ty B G w xs v,fun v w w' k h=>h.ext k⟩
end
end Go.Mono
namespace Go.Mono
open Go Go.RowKit
section
variable {P:Program}{k e:TypeId}{w w':World}{b:Nat}{m:Int→Option Int}
end
section tail
variable {P:Program}{L:Env}{ty:TypeId}{pos:String}{aft:Array Edge}{r:Option Nat}{ds:List Deferred}
variable {ops:Array Oper}{rest:List Oper}{Q:Exit→Act→World→Prop}{n:Nat}{a:Act}{w:World}{x y z:Operand}{k e:TypeId}
end tail
end Go.Mono
namespace Go.Mono
open Go Go.RowKit
section
variable {P:Program}{w0:World}{L:Env}{dst:Option Tmp}{ty:TypeId}{pos:String}{aft:Array Edge}{g:Option (Nat×Bool)}{t:TypeId}
theorem Dv.r1 {α:Type}{e:Enc α}{G:Nat→Prop}{x:α}{v:Value}{w:World}(ha:e.agg=false)(h:(Dv e G x).p v w):e.r G w x [v]:=by
 obtain⟨cs,h1,h2⟩:=h
 have hl:=e.len h1
 rw[e.k1 ha] at hl
 match cs,hl with
 | [u],_=>
  rw[Enc.pack,ha] at h2
  have:v=u:=h2
  rw[this];exact h1
theorem Dv.slF {α:Type}{e:Enc α}{G:Nat→Prop}{xs:List α}{v:Value}{w:World}(h:(Dv (slE e) G xs).p v w):∃ao n c,v=.slice ao n c:=by
 rcases Dv.sl.1 h with ⟨rfl,_⟩|⟨ad,cap,cs,rfl,_⟩
 ·exact⟨_,_,_,rfl⟩
 ·exact⟨_,_,_,rfl⟩
end
end Go.Mono
namespace Go.Mono
open Go Go.RowKit
def AlA (B:Nat)(z:Value)(e:TypeId):VA:=⟨fun v w=>∃b,B≤b∧v=.pointer (some ⟨b,0,none⟩)∧Blk w b z.cells e,fun v w w' k ⟨b,h1,h2,h3⟩=>⟨b,h1,h2,h3.ext k⟩⟩
theorem alD {P:Program}{w0:World}{L:Env}{dst:Option Tmp}{ty:TypeId}{pos:String}{aft:Array Edge}{g:Option (Nat×Bool)}{e:TypeId}{z:Value}{sz bz:Nat}(hz:(P.info? e).map (fun i=>(i.zero,i.size,i.bytes))=some (some z,sz,bz)) :
  OpC P w0 L ⟨dst,.alloc e,ty,pos,aft,g⟩ (AlA w0.heap.size z e):=by
 refine⟨fun ρ w he hv=>?_⟩
 obtain⟨i,hi,hzi,_,_⟩:=info_parts hz
 simp only[OpR,execOp,Instr.alloc,zeroValue,typeInfo,hi,hzi,Sem.run_bind,Sem.run_pure,jS,Result.andThen_ok]
 simp[hi,hzi,jS]
 exact⟨cV _ _,_,he.size,rfl,fK _ _ _⟩
theorem Blk.ne {w:World}{a b:Nat}{cs cs':Array Value}{t t':TypeId}(h:Blk w a cs t)(h':Blk w b cs' t')(ht:t≠t'):a≠b:=by
 rintro rfl
 unfold Blk at h h'
 rw[h] at h'
 simp at h'
 exact ht h'.2
end Go.Mono
namespace Go.Mono
open Go Go.Proofs Go.RowKit

theorem OwR.neB {α:Type}{e:Enc α}{ty:TypeId}{B:Nat}{G:Nat→Prop}{w:World}{xs:List α}{v:Value}(h:OwR e ty B G w xs v){b:Nat}{cs:Array Value}{t:TypeId}(hb:Blk w b cs t)(ht:t≠ty):v.ownBlock≠some b:=fun hv=>by
 obtain⟨cs',h1,_⟩:=h.own
 rcases h1.2 with ⟨rfl,_⟩|⟨g,cap,cur,rfl,_,hg,_⟩
 ·simp[Value.ownBlock] at hv
 ·simp only[Value.ownBlock,Option.some.injEq] at hv
  subst hv
  exact (Blk.ne hb hg ht) rfl
theorem OwR.chE {α:Type}{e:Enc α}[FlE e]{ty:TypeId}{B:Nat}{G:Nat→Prop}{w w':World}{xs:List α}{v:Value}{S:Nat→Prop}(h:OwR e ty B G w xs v)(c:Chg S w w')(hS:∀b,v.ownBlock=some b→¬S b):OwR e ty B G w' xs v:=by
 obtain⟨cs,h1,h2⟩:=h.own
 refine⟨⟨cs,⟨h1.1,?_⟩,Cells.fl h2⟩,h.av,Nat.le_trans h.base c.size⟩
 rcases h1.2 with h3|⟨g,cap,cur,a1,a2,a3,a4⟩
 ·exact .inl h3
 ·refine .inr ⟨g,cap,cur,a1,a2,?_,a4⟩
  rw[c.block g (Array.getElem?_eq_some_iff.1 a3).1 (hS g (by rw[a1];rfl))]
  exact a3
theorem yr {P:Program}{w0:World}{L:Env}{dst:Option Tmp}{ty:TypeId}{pos:String}{aft:Array Edge}{g:Option (Nat×Bool)}{f:FuncId}{x y z u:Operand}{tys:Array TypeId}{A B C D F:VA}(hf:Proofs.Enters P f)(hx:opd L x=some B)(hy:opd L y=some C)(hz:opd L z=some D)(hu:opd L u=some F)
  (h:∀v u s t w,Ext w0 w→B.p v w→C.p u w→D.p s w→F.p t w→Calls P f #[v,u,s,t] w (Post A w)) :
  OpC P w0 L ⟨dst,.call ⟨.value (.func f),#[x,y,z,u],tys⟩,ty,pos,aft,g⟩ A:=
 iN hf fun ρ w he hv=>by
  simpa using h (ρ x) (ρ y) (ρ z) (ρ u) w he (hv x (by simp[Op.operands,Call.operands]) _ hx) (hv y (by simp[Op.operands,Call.operands]) _ hy) (hv z (by simp[Op.operands,Call.operands]) _ hz) (hv u (by simp[Op.operands,Call.operands]) _ hu)
theorem kg {P:Program}{fn:Func}{t u s k:Nat}{R:Ending→World→Prop}{n:Nat}{a:Act}{w:World}{L:Env}{b:Nat}{cs:Array Value}{bt:TypeId}{A:VA}(hr:fn.results = #[.cell t u,.tmp s])(ht:TI P u true k)(hf:Fr n a w L)(h:aC L t=some (E (.pointer (some ⟨b,0,none⟩))))(h':aC L s=some A)
  (hb:Blk w b cs bt) (hs:cs.size=k) (hR:∀x,A.p x w→R (.returned (.tuple #[.agg cs,x])) w):bodyPost P fn R .ret a w:=by
 have hv:a.tmps.getD t undef=.pointer (some ⟨b,0,none⟩):=hf.val t _ h
 have hv':a.tmps[t]?.getD undef=.pointer (some ⟨b,0,none⟩):=by simpa using hv
 obtain⟨d,h1,h2⟩:=ht.u
 have hl:=run_loadVar_row (P:=P) w b bt u cs (0,0) d hb h1 (by cases d <;> simp_all) (by rw[ht.s,hs])
 exact⟨hf.defers,.tuple #[.agg cs,a.eval (.tmp s)],by simp[results,hr,Act.eval,hv',asAddr,hl],hR _ (hf.val s A h')⟩
structure OwX {α:Type}(e:Enc α)(ty:TypeId)(B:Nat)(G:Nat→Prop)(w:World)(xs:List α)(v:Value):Prop where
 own:∃cs,w.ownsRow B ty e.k v xs.length cs∧Cells e (GO G v) w xs cs
 base:B≤w.heap.size
section
variable {α β:Type}{e:Enc α}{ty ty':TypeId}{B B':Nat}{G G':Nat→Prop}{w w':World}{xs:List α}{ys:List β}{v u:Value}
theorem OwX.ch (h:OwX e ty B G w xs v){S:Nat→Prop}(c:Chg S w w')(hS:∀b,v.ownBlock=some b→¬S b)(hG:∀b,S b→G b):OwX e ty B G w' xs v:=by
 obtain⟨cs,h1,h2⟩:=h.own
 refine⟨⟨cs,⟨h1.1,?_⟩,h2.pres (fun b hb hn=>c.block b hb fun hs=>hn (.inl (hG b hs))) c.size⟩,Nat.le_trans h.base c.size⟩
 rcases h1.2 with h3|⟨g,cap,cur,a1,a2,a3,a4⟩
 ·exact .inl h3
 ·refine .inr ⟨g,cap,cur,a1,a2,?_,a4⟩
  rw[c.block g (Array.getElem?_eq_some_iff.1 a3).1 (hS g (by rw[a1];rfl))]
  exact a3
theorem OwX.ext (h:OwX e ty B G w xs v)(k:Ext w w'):OwX e ty B G w' xs v:=h.ch (k.chg fun _=>False) (fun _ _ h=>h) fun _ h=>h.elim
instance {B:Nat}:Ug w w' (OwX e ty B G w xs v) (OwX e ty B G w' xs v):=⟨fun e h=>h.ext e⟩
end
section tail
variable {P:Program}{L:Env}{ty:TypeId}{pos:String}{aft:Array Edge}{r:Option Nat}{ds:List Deferred}
variable {ops:Array Oper}{rest:List Oper}{Q:Exit→Act→World→Prop}{n:Nat}{a:Act}{w:World}{x y:Operand}
variable {α:Type}{e:Enc α}{G:Nat→Prop}{xs ys:List α}{v:Value}
theorem bU {S:Nat→Prop}{F:Value→World→Prop}{id:FuncId}{xs:Array Operand}{tys:Array TypeId}{d:Nat}(hf:FrD n ds a w L)[hL:fU S L](hd:d<n)(he:Proofs.Enters P id)
  (h:Calls P id (xs.map a.eval) w (fun e w'=>∃v,e=.returned v∧Chg S w w'∧F v w'))
  (k:∀a' v w',Chg S w w'→F v w'→FrD n ds a' w' ((d,E v)::L)→wpListIn (FW r) 0 P ops Q rest a' w') :
  wpListIn (FW r) 0 P ops Q (⟨some d,.call ⟨.value (.func id),xs,tys⟩,ty,pos,aft,none⟩::rest) a w:=
 wpListIn_plain rfl fun K hK=>by
  have hfv:a.eval (.func id)=.func (.func id) #[] #[]:=rfl
  have hrun:(execOp a.eval ⟨some d,.call ⟨.value (.func id),xs,tys⟩,ty,pos,aft,none⟩).run P w=.ok (.enter id (xs.map a.eval)) w:=by
   have:=he (xs.map a.eval) w
   simp[execOp,resolve,hfv,Deferred.ofValue,invoke,this]
  refine OpR.wp (R:=fun v w'=>Chg S w w'∧F v w') ?_ ?_
  ·simp only[OpR,hrun]
   exact h
  ·rintro v w' ⟨h1,h3⟩
   exact hK _ _ (k _ _ _ h1 h3 ((hf.ch h1).put (d:=some d) (A:=E v) (Ext.rfl' _) (fun k hk=>by cases hk;exact hd) rfl))
end tail
end Go.Mono
namespace Go.Mono
open Go Go.RowKit
def CdP (p:Bool)(A:VA):VA:=⟨fun v w=>(p=true∧A.p v w)∨(p=false∧v=undef),fun v w w' e h=>h.imp (fun h=>⟨h.1,A.st v w w' e h.2⟩) id⟩
instance (row:Option Nat)(p:Bool)(A:VA)[h:AvR row A]:AvR row (CdP p A):=⟨fun v w w' hg hv=>hv.imp (fun hv=>⟨hv.1,h.av v w w' hg hv.2⟩) id⟩
inductive Opn (p:Bool)(L:Env):Env→Prop
 | n:Opn p L []
 | k (t:Nat) {A:VA} {L':Env} (h:aC L t=some A) (r:Opn p L L'):Opn p L ((t,A)::L')
 | c (t:Nat) {q:Bool} {A:VA} {L':Env} (h:aC L t=some (CdP q A)) (hp:p=true→q=true) (r:Opn p L L'):Opn p L ((t,A)::L')
theorem Opn.get {p:Bool}{L L':Env}(h:Opn p L L'):∀t A,aC L' t=some A→∃B,aC L t=some B∧∀v w,p=true→B.p v w→A.p v w:=by
 induction h with
 | n=>intro t A h;simp[aC] at h
 | k t0 h r ih=>
  intro t A hA
  by_cases ht:t0=t
  ·subst ht;rw[cT] at hA;obtain rfl:=Option.some.inj hA;exact⟨_,h,fun _ _ _ h=>h⟩
  ·rw[cU _ _ ht] at hA;exact ih t A hA
 | c t0 h hp r ih=>
  intro t A hA
  by_cases ht:t0=t
  ·subst ht;rw[cT] at hA;obtain rfl:=Option.some.inj hA
   exact⟨_,h,fun v w hpt hB=>by
    rcases hB with ⟨_,hB⟩|⟨hq,_⟩
    ·exact hB
    ·rw[hp hpt] at hq;cases hq⟩
  ·rw[cU _ _ ht] at hA;exact ih t A hA
section
variable {P:Program}{w0:World}{L L':Env}{ty:TypeId}{pos:String}{aft:Array Edge}{ops:Array Oper}{rest:List Oper}{K:Env→Prop}{A:VA}{op:Op}{dd:Nat}
theorem qx {p:Bool}{a:Act}{w:World}{o:Oper}(hL:Opn p L L')(hp:p=true)(hv:∀x∈o.op.operands,∀B,opd L x=some B→B.p (a.eval x) w):∀x∈o.op.operands,∀B,opd L' x=some B→B.p (a.eval x) w:=by
 intro x hx B hB
 cases x with
 | tmp t=>
  obtain⟨C,h1,h2⟩:=hL.get t B hB
  exact h2 _ _ hp (hv _ hx C h1)
 | const v=>exact hv _ hx B hB
 | global g=>exact hv _ hx B hB
 | func f=>exact hv _ hx B hB
theorem sgE {i d:Nat}{want b:Bool}(hd:(ops[i]?).bind (·.dst)=some d)(hl:aC L d=some (E (.bool b)))(hL:Opn (b==want) L L')
  (h:(b==want)=true→OpC P w0 L' ⟨some dd,op,ty,pos,aft,some (i,want)⟩ A) (k:cy P ops w0 rest K ((dd,CdP (b==want) A)::L)):cy P ops w0 (⟨some dd,op,ty,pos,aft,some (i,want)⟩::rest) K L:=
 ⟨CdP (b==want) A,fun a w he hv hgd=>by
  have h1:a.eval (.tmp d)=.bool b:=hgd d _ (by simp[cx,hd]) hl
  have h2:=jO (ops:=ops) hd h1
  cases hb:b==want with
  | true=>
   obtain rfl:b=want:=by simpa using hb
   simp only[Region.wanted,h2,beq_self_eq_true,if_true]
   exact ((h hb).out _ w he (qx hL hb hv)).mono fun v w' ⟨h1,h2⟩=>⟨h1,.inl ⟨rfl,h2⟩⟩
  | false=>
   have h3:(some b==some want)=false:=by cases b <;> cases want <;> simp_all
   simp only[Region.wanted,h2,h3]
   exact .inr ⟨rfl,rfl⟩,k⟩
theorem sgC {i d:Nat}{q want c:Bool}(hd:(ops[i]?).bind (·.dst)=some d)(hl:aC L d=some (CdP q (E (.bool c))))(hL:Opn (q&&c==want) L L')
  (h:(q&&c==want)=true→OpC P w0 L' ⟨some dd,op,ty,pos,aft,some (i,want)⟩ A) (k:cy P ops w0 rest K ((dd,CdP (q&&c==want) A)::L)):cy P ops w0 (⟨some dd,op,ty,pos,aft,some (i,want)⟩::rest) K L:=
 ⟨CdP (q&&c==want) A,fun a w he hv hgd=>by
  have h1:=hgd d _ (by simp[cx,hd]) hl
  rcases h1 with ⟨hq,h1⟩|⟨hq,h1⟩
  ·have h2:=jO (ops:=ops) hd (show a.eval (.tmp d)=.bool c from h1)
   subst hq
   cases hb:c==want with
   | true=>
    have hb':(true&&c==want)=true:=by rw[hb];rfl
    obtain rfl:c=want:=by simpa using hb
    simp only[Region.wanted,h2,beq_self_eq_true,if_true]
    exact ((h hb').out _ w he (qx hL hb' hv)).mono fun v w' ⟨h1,h2⟩=>⟨h1,.inl ⟨rfl,h2⟩⟩
   | false=>
    have h3:(some c==some want)=false:=by cases c <;> cases want <;> simp_all
    simp only[Region.wanted,h2,h3]
    exact .inr ⟨rfl,rfl⟩
  ·subst hq
   have h2:yielded ops a.tmps i=none:=by
    unfold yielded
    rw[hd]
    simp only[Act.eval] at h1
    cases hh:a.tmps[d]? with
    | none=>simp[hh]
    | some v=>simp[hh] at h1;subst h1;simp[hh,undef]
   simp only[Region.wanted,h2]
   exact .inr ⟨rfl,rfl⟩,k⟩
variable {dst:Option Tmp}{g:Option (Nat×Bool)}
theorem bG {c x:Operand}{b q v:Bool}(hc:opd L c=some (E (.bool b)))(hx:opd L x=some (CdP q (E (.bool v))))(hq:b=true→q=true) :
  OpC P w0 L ⟨dst,.pick c x (.const (.bool false)),ty,pos,aft,g⟩ (E (.bool (b&&v))):=by
 refine aM fun ρ w he hv=>?_
 have h1:=opE hv (x:=c) (by simp[Op.operands]) hc
 have h2:=hv x (by simp[Op.operands]) _ hx
 have h3:ρ (.const (.bool false))=.bool false:=hv (.const (.bool false)) (by simp[Op.operands]) _ rfl
 cases hb:b with
 | false=>subst hb;exact⟨_,by simp[execOp,h1,h3,asBool],rfl⟩
 | true=>
  subst hb
  rcases h2 with ⟨_,h2⟩|⟨h2,_⟩
  ·exact⟨_,by simp[execOp,h1,asBool],h2⟩
  ·rw[hq rfl] at h2;cases h2
theorem bO {c x:Operand}{b q v:Bool}(hc:opd L c=some (E (.bool b)))(hx:opd L x=some (CdP q (E (.bool v))))(hq:b=false→q=true) :
  OpC P w0 L ⟨dst,.pick c (.const (.bool true)) x,ty,pos,aft,g⟩ (E (.bool (b || v))):=by
 refine aM fun ρ w he hv=>?_
 have h1:=opE hv (x:=c) (by simp[Op.operands]) hc
 have h2:=hv x (by simp[Op.operands]) _ hx
 have h3:ρ (.const (.bool true))=.bool true:=hv (.const (.bool true)) (by simp[Op.operands]) _ rfl
 cases hb:b with
 | true=>subst hb;exact⟨_,by simp[execOp,h1,h3,asBool],rfl⟩
 | false=>
  subst hb
  rcases h2 with ⟨_,h2⟩|⟨h2,_⟩
  ·exact⟨_,by simp[execOp,h1,asBool],h2⟩
  ·rw[hq rfl] at h2;cases h2
end
theorem fX {P:Program}{r:Option Nat}{ds:List Deferred}{L:Env}{ops:Array Oper}{rest:List Oper}{Q:Exit→Act→World→Prop}{n:Nat}{a:Act}{w:World}{ty:TypeId}{pos:String}{aft:Array Edge}{α:Type}{e:Enc α}{G:Nat→Prop}{z:α}{t:TypeId}{x:Operand}{d:Nat}
  (hf:FrD n ds a w L) (hx:opd L x=some (Dv e G z)) (hd:d<n) (hG:∀b,G b→b<w.heap.size)
  (k:∀a' w',Ext w w'→FrD n ds a' w' ((d,Dv (ptE e) G (some z))::L)→wpListIn (FW r) 0 P ops Q rest a' w') :
  wpListIn (FW r) 0 P ops Q (⟨some d,.box t x,ty,pos,aft,none⟩::rest) a w:=
 dq hf hx hd fun a' b w' v hv e' hb hs hB hf'=>k a' w' e' (by
  obtain⟨cs,h1,rfl⟩:=hv
  have hPt:(Dv (ptE e) G (some z)).p (.pointer (some ⟨b,0,none⟩)) w':=Dv.pt.2 ⟨_,rfl,fun h=>by have:=hG _ h;simp only at this;omega,by simp only;omega,cs,Enc.ext h1 e',fun i u hu=>by
   rw[Enc.pack_cells h1] at hB
   have:(Addr.mk b 0 none).add i=⟨b,i,none⟩:=by simp[Addr.add];intro h;exact h.symm
   rw[this,hB.cell]
   simpa using hu⟩
  exact hf'.weak fun v hv=>by cases hv;exact hPt)
end Go.Mono
namespace Go.Gr
abbrev VT:=Int×(Int×Int)
abbrev ET:=(Int×Int)×(Int×Int)
abbrev DT:=Int×Int×Int×Int×Int
abbrev GT:=List VT×List ET
def lt2 (p q:Int×Int):Bool:=decide (p.1<q.1∨p.1=q.1∧p.2<q.2)
def lt1 (p q:Int):Bool:=decide (p<q)
def bV {γ:Type}(after:γ→Bool)(x:γ)(l:List γ):List γ:=l.takeWhile (fun y => !after y)++x::l.dropWhile (fun y => !after y)
def insV (l:List VT)(x:VT):List VT:=bV (fun y=>lt1 x.1 y.1) x l
def ii (l:List ET)(x:ET):List ET:=bV (fun y=>lt2 x.1 y.1) x l
def ki {α β:Type}[DecidableEq α](lt:α→α→Bool)(l:List (α×β))(k:α)(c:β):List (α×β):=
 if l.any (fun y=>decide (y.1=k)) then l.map (fun y=>if y.1=k then (k,c) else y) else bV (fun y=>lt k y.1) (k,c) l
def pairs (op:Int):Bool:=op==2 || op==3 || op==6 || op==7
def weighs (op:Int):Bool:=op==0 || op==2 || op==5 || op==7
def dY (n:Int):Bool:=decide (0≤n)&&decide (n<1024)
def heavy (n:Int):Bool:=decide (n < -1048576) || decide (1048576<n)
def inV (l:List VT)(n:Int):Bool:=l.any fun y=>decide (y.1=n)
def ends (u v:Int):Int×Int:=(min u v,max u v)
def inE (l:List ET)(u v:Int):Bool:=l.any fun y=>decide (y.1=ends u v)
def tests (g:GT)(d:DT):List (Bool×Int):=
 let (op,u,v,_,x):=d
 [(decide (op<0) || decide (8≤op),11),
  ((!dY u) || (pairs op && !dY v) || (weighs op&&heavy x),2),
  (pairs op&&u==v,15),
  (op==0&&inV g.1 u,7),
  ((op != 0 && !pairs op && !inV g.1 u) || (op==2 && !(inV g.1 u&&inV g.1 v)),9),
  (pairs op&&op != 2 && !inE g.2 u v,9),
  (op==2&&inE g.2 u v,7),
  (op==2&&decide ((1024:Int)≤(g.2.length:Nat)),8)]
def fY:List (Bool×Int)→Int
 | []=>0
 | (b,c)::r=>if b then c else fY r
def bR (g:GT)(d:DT):Int:=fY (tests g d)
def doM (g:GT)(d:DT):GT:=
 if d.1=0 then (ki lt1 g.1 d.2.1 d.2.2.2,g.2) else if d.1=2 then (g.1,ki lt2 g.2 (ends d.2.1 d.2.2.1) d.2.2.2) else g
structure Ok (g:GT):Prop where
 sv:g.1.Pairwise fun a b=>lt1 a.1 b.1=true
 se:g.2.Pairwise fun a b=>lt2 a.1 b.1=true
 rv:∀x∈g.1,dY x.1=true∧(0≤x.2.1∧x.2.1<256)∧heavy x.2.2=false
 re:∀x∈g.2,x.1.1<x.1.2∧inV g.1 x.1.1=true∧inV g.1 x.1.2=true∧(0≤x.2.1∧x.2.1<256)∧heavy x.2.2=false
 ne:g.2.length≤1024
theorem qy {γ:Type}(after:γ→Bool)(x:γ)(l:List γ)(h:∀y∈l,after y=false):bV after x l=l++[x]:=by
 unfold bV
 induction l with
 | nil=>rfl
 | cons y r ih=>
  have hy:=h y (by simp)
  simp only[List.takeWhile_cons,List.dropWhile_cons,hy,Bool.not_false,if_true,List.cons_append]
  rw[ih fun z hz=>h z (by simp[hz])]
theorem qz {α β:Type}[DecidableEq α](lt:α→α→Bool)(l:List (α×β))(k:α)(c:β)(h:∀y∈l,y.1≠k∧lt k y.1=false):ki lt l k c=l++[(k,c)]:=by
 unfold ki
 rw[if_neg]
 ·exact qy _ _ _ fun y hy=>(h y hy).2
 ·simp only[List.any_eq_true,decide_eq_true_eq,not_exists,not_and]
  exact fun y hy=>(h y hy).1
theorem yu (a:Int×Int):lt2 a a=false:=by simp[lt2]
theorem iZ {a b:Int×Int}(h:lt2 a b=true):lt2 b a=false∧a≠b:=by
 obtain⟨a1,a2⟩:=a;obtain⟨b1,b2⟩:=b
 simp only[lt2,decide_eq_true_eq,decide_eq_false_iff_not] at *
 exact⟨by omega,fun h'=>by simp only[Prod.mk.injEq] at h';omega⟩
theorem qA {a b c:Int×Int}(h:lt2 a b=true)(k:lt2 b c=true):lt2 a c=true:=by
 simp only[lt2,decide_eq_true_eq] at *;omega
theorem yv {a b:Int×Int}(h:lt2 a b=false)(k:a≠b):lt2 b a=true:=by
 obtain⟨a1,a2⟩:=a;obtain⟨b1,b2⟩:=b
 simp only[lt2,decide_eq_true_eq,decide_eq_false_iff_not,ne_eq,Prod.mk.injEq] at *;omega
theorem jb {a b:Int}(h:lt1 a b=true):lt1 b a=false∧a≠b:=by
 simp only[lt1,decide_eq_true_eq,decide_eq_false_iff_not] at *;omega
theorem qB {a b c:Int}(h:lt1 a b=true)(k:lt1 b c=true):lt1 a c=true:=by
 simp only[lt1,decide_eq_true_eq] at *;omega
theorem yw {a b:Int}(h:lt1 a b=false)(k:a≠b):lt1 b a=true:=by
 simp only[lt1,decide_eq_true_eq,decide_eq_false_iff_not] at *;omega
def dV (x:VT):DT:=(0,x.1,0,x.2)
def dE (x:ET):DT:=(2,x.1.1,x.1.2,x.2)
theorem before {γ:Type}{R:γ→γ→Prop}{l:List γ}(h:l.Pairwise R){i:Nat}{x:γ}(hx:l[i]?=some x):∀y∈l.take i,R y x:=by
 intro y hy
 obtain⟨j,hj,rfl⟩:=List.getElem_of_mem hy
 obtain⟨hi,rfl⟩:=List.getElem?_eq_some_iff.1 hx
 simp only[List.length_take] at hj
 rw[List.getElem_take]
 exact List.pairwise_iff_getElem.1 h _ _ (by omega) hi (by omega)
theorem eS {γ:Type}{l:List γ}{i:Nat}{x:γ}(hx:l[i]?=some x):l.take (i+1)=l.take i++[x]:=by
 rw[List.take_add_one,hx];rfl
theorem qC {u v:Int}(h:u<v):ends u v=(u,v):=by
 simp only[ends,Prod.mk.injEq];omega
theorem stepV {g:GT}(G:Ok g){i:Nat}{x:VT}(hx:g.1[i]?=some x):bR (g.1.take i,[]) (dV x)=0∧doM (g.1.take i,[]) (dV x)=(g.1.take (i+1),[]):=by
 have hb:=before G.sv hx
 obtain⟨h1,h2,h3⟩:=G.rv x (List.mem_of_getElem? hx)
 have hin:inV (g.1.take i) x.1=false:=by
  simp only[inV,List.any_eq_false,decide_eq_true_eq]
  exact fun y hy=>(jb (hb y hy)).2
 constructor
 ·simp[bR,tests,dV,fY,pairs,weighs,h1,h3,hin]
 ·simp only[doM,dV,if_true]
  rw[qz _ _ _ _ fun y hy=>⟨(jb (hb y hy)).2,(jb (hb y hy)).1⟩,eS hx]
theorem yx {g:GT}(G:Ok g){i:Nat}{x:ET}(hx:g.2[i]?=some x):bR (g.1,g.2.take i) (dE x)=0∧doM (g.1,g.2.take i) (dE x)=(g.1,g.2.take (i+1)):=by
 have hb:=before G.se hx
 obtain⟨h1,h2,h3,h4,h5⟩:=G.re x (List.mem_of_getElem? hx)
 have hid:∀n,inV g.1 n=true→dY n=true:=fun n hn=>by
  simp only[inV,List.any_eq_true,decide_eq_true_eq] at hn
  obtain⟨y,hy,rfl⟩:=hn
  exact (G.rv y hy).1
 have he:ends x.1.1 x.1.2=x.1:=qC h1
 have hin:inE (g.2.take i) x.1.1 x.1.2=false:=by
  simp only[inE,he,List.any_eq_false,decide_eq_true_eq]
  exact fun y hy=>(iZ (hb y hy)).2
 have hil:i<g.2.length:=(List.getElem?_eq_some_iff.1 hx).1
 have hn:=G.ne
 have h6:¬(x.1.1=x.1.2):=by omega
 have h7:¬((1024:Int)≤((g.2.take i).length:Nat)):=by simp only[List.length_take];omega
 constructor
 ·simp only[bR,tests,dE,fY,pairs,weighs,hid _ h2,hid _ h3,h5,h2,h3,hin,h6,h7]
  simp[h6]
 ·simp only[doM,dE]
  rw[if_neg (by decide),if_pos trivial,he,qz _ _ _ _ fun y hy=>⟨(iZ (hb y hy)).2,(iZ (hb y hy)).1⟩,eS hx]
end Go.Gr
namespace Go.Gr
section
variable {γ:Type}(after:γ→Bool)(x:γ)(l:List γ)
def er (k:Nat):List γ:=if (l.take k).any after then bV after x (l.take k) else l.take k
theorem yy {m:List γ}(h:m.any after=true)(r:List γ):bV after x (m++r)=bV after x m++r:=by
 induction m with
 | nil=>simp at h
 | cons y m ih=>
  unfold bV
  by_cases hy:after y=true
  ·simp[List.takeWhile_cons,List.dropWhile_cons,hy]
  ·have hy':after y=false:=by simpa using hy
   have h':m.any after=true:=by simpa[hy'] using h
   have:=ih h'
   unfold bV at this
   simp only[List.cons_append,List.takeWhile_cons,List.dropWhile_cons,hy',Bool.not_false,if_true]
   rw[this]
theorem qE {k:Nat}{y:γ}(h:l[k]?=some y):er after x l (k+1)=(if (!(l.take k).any after&&after y)=true then er after x l k++[x] else er after x l k)++[y]:=by
 unfold er
 rw[eS h,List.any_append]
 cases h1:(l.take k).any after with
 | true=>simp[yy after x h1]
 | false=>
  cases h2:after y with
  | true=>
   simp only[List.any_cons,List.any_nil,h2,Bool.or_false,Bool.or_true,if_true,Bool.not_false,Bool.and_self,Bool.false_eq_true,if_false]
   have hn:∀z∈l.take k,after z=false:=by simpa using h1
   have e1:(l.take k++[y]).takeWhile (fun y => !after y)=l.take k:=by
    rw[List.takeWhile_append_of_pos (fun z hz=>by simp[hn z hz])];simp[h2]
   have e2:(l.take k++[y]).dropWhile (fun y => !after y)=[y]:=by
    rw[List.dropWhile_append_of_pos (fun z hz=>by simp[hn z hz])];simp[h2]
   rw[bV,e1,e2];simp
  | false=>simp[h2]
theorem qF {k:Nat}{y:γ}(h:l[k]?=some y):(l.take (k+1)).any after=((l.take k).any after || after y):=by
 rw[eS h,List.any_append];simp
theorem qG:(if l.any after then er after x l l.length else er after x l l.length++[x])=bV after x l:=by
 unfold er
 rw[List.take_length]
 cases h:l.any after with
 | true=>simp
 | false=>simp only[Bool.false_eq_true,if_false];rw[qy after x l (by simpa using h)]
theorem qH (k:Nat):(er after x l k).length≤l.length+1:=by
 unfold er bV
 split
 ·have:=congrArg List.length (List.takeWhile_append_dropWhile (p:=fun y => !after y) (l:=l.take k))
  simp only[List.length_append,List.length_cons,List.length_take] at *
  omega
 ·simp only[List.length_take];omega
end
end Go.Gr
namespace Go.Gr
def keepV (d:DT)(x:VT):Option VT:=if (x.1==d.2.1&&d.1==1)=true then none else some (x.1,(if (x.1==d.2.1&&d.1==4)=true then d.2.2.2.1 else x.2.1),(if (x.1==d.2.1&&d.1==5)=true then d.2.2.2.2 else x.2.2))
def dZ (d:DT)(at':Int)(i:Nat)(x:ET):Option ET:=
 if ((d.1==1&&(x.1.1==d.2.1 || x.1.2==d.2.1)) || (d.1==3&&(i:Int)==at'))=true then none else some (x.1,(if ((i:Int)==at'&&d.1==6)=true then d.2.2.2.1 else x.2.1),(if ((i:Int)==at'&&d.1==7)=true then d.2.2.2.2 else x.2.2))
def bS (d:DT)(at':Int):Nat→List ET→List ET
 | _,[]=>[]
 | i,x::r=>(dZ d at' i x).toList++bS d at' (i+1) r
theorem qI (d:DT)(at':Int):∀(i:Nat) (l m:List ET),bS d at' i (l++m)=bS d at' i l++bS d at' (i+l.length) m
 | i,[],m=>by simp[bS]
 | i,x::r,m=>by rw[List.cons_append,bS,qI d at' (i+1) r m,bS,List.append_assoc,List.length_cons];congr 3;omega
theorem yz (d:DT)(at':Int){l:List ET}{k:Nat}{x:ET}(h:l[k]?=some x):bS d at' 0 (l.take (k+1))=bS d at' 0 (l.take k)++(dZ d at' k x).toList:=by
 rw[eS h,qI]
 have:0+(l.take k).length=k:=by have:=(List.getElem?_eq_some_iff.1 h).1;simp;omega
 rw[this,bS,bS,List.append_nil]
theorem kj (d:DT)(at':Int):∀(i:Nat) (l:List ET),(bS d at' i l).length≤l.length
 | _,[]=>Nat.le_refl _
 | i,x::r=>by
  have:=kj d at' (i+1) r
  have h2:(dZ d at' i x).toList.length≤1:=by cases dZ d at' i x <;> simp
  rw[bS,List.length_append,List.length_cons];omega
theorem yA (d:DT){l:List VT}{k:Nat}{x:VT}(h:l[k]?=some x):(l.take (k+1)).filterMap (keepV d)=(l.take k).filterMap (keepV d)++(keepV d x).toList:=by
 rw[eS h,List.filterMap_append];cases h:keepV d x <;> simp[h]
end Go.Gr
namespace Go.Gr
theorem mT {γ:Type}{lt:γ→γ→Bool}:∀{xs l:List γ},xs.Perm l→l.Pairwise (fun x y=>lt x y=true)→xs.Pairwise (fun x y=>lt y x=false)→xs=l
 | [],l,hp,_,_=>hp.symm.eq_nil.symm▸rfl
 | x::r,[],hp,_,_=>absurd hp.eq_nil (by simp)
 | x::r,y::s,hp,hl,hx=>by
  obtain⟨l1,l2⟩:=List.pairwise_cons.1 hl
  obtain⟨x1,x2⟩:=List.pairwise_cons.1 hx
  have hxy:x=y:=by
   have hy:y∈x::r:=hp.mem_iff.2 (by simp)
   have hx':x∈y::s:=hp.mem_iff.1 (by simp)
   rcases List.mem_cons.1 hy with h|h
   ·exact h.symm
   ·rcases List.mem_cons.1 hx' with h'|h'
    ·exact h'
    ·have h2:=l1 x h'
     have h3:=x1 y h
     rw[h2] at h3;cases h3
  subst hxy
  rw[mT ((List.perm_cons x).1 hp) l2 x2]
end Go.Gr
namespace Go.Mono
open Go Go.RowKit Go.Gr
def u8E:Enc Int:=eL 1 false (fun n=>[.int .u8 n]) (by decide) (fun _=>rfl) (fun _=>rfl) (fun x u hu=>by simp at hu;subst hu;rfl)
instance:FlE u8E:=⟨fun h=>h⟩
def thE:Enc (Int×Int):=prE u8E aj
def vtE:Enc VT:=prE aj thE
def edE:Enc (Int×Int):=prE aj aj
def etE:Enc ET:=prE edE thE
def dtE:Enc DT:=prE aj (prE aj (prE aj thE))
def gtE:Enc GT:=prE (slE vtE) (slE etE)
instance:FlE thE:=inferInstanceAs (FlE (prE u8E aj))
instance:FlE vtE:=inferInstanceAs (FlE (prE aj thE))
instance:FlE edE:=inferInstanceAs (FlE (prE aj aj))
instance:FlE etE:=inferInstanceAs (FlE (prE edE thE))
instance:FlE dtE:=inferInstanceAs (FlE (prE aj (prE aj (prE aj thE))))
def vtV (x:VT):Value:=.agg #[.int .i64 x.1,.int .u8 x.2.1,.int .i64 x.2.2]
def etV (x:ET):Value:=.agg #[.int .i64 x.1.1,.int .i64 x.1.2,.int .u8 x.2.1,.int .i64 x.2.2]
def dtV (x:DT):Value:=.agg #[.int .i64 x.1,.int .i64 x.2.1,.int .i64 x.2.2.1,.int .u8 x.2.2.2.1,.int .i64 x.2.2.2.2]
section
variable {G:Nat→Prop}{v:Value}{w:World}
theorem Dv.vt {x:VT}:(Dv vtE G x).p v w↔v=vtV x:=
 ⟨fun⟨cs,⟨c,d,h,h1,c2,d2,h2,h3,h4⟩,hv⟩=>by cases h1;cases h3;cases h4;subst h2;subst h;exact hv,fun h=>⟨_,⟨_,_,rfl,rfl,_,_,rfl,rfl,rfl⟩,h⟩⟩
theorem Dv.et {x:ET}:(Dv etE G x).p v w↔v=etV x:=
 ⟨fun⟨cs,⟨c,d,h,⟨c1,d1,h1,h1a,h1b⟩,c2,d2,h2,h3,h4⟩,hv⟩=>by cases h1a;cases h1b;cases h3;cases h4;subst h1;subst h2;subst h;exact hv,fun h=>⟨_,⟨_,_,rfl,⟨_,_,rfl,rfl,rfl⟩,_,_,rfl,rfl,rfl⟩,h⟩⟩
theorem Dv.dt {x:DT}:(Dv dtE G x).p v w↔v=dtV x:=
 ⟨fun⟨cs,⟨c,d,h,h1,c2,d2,h2,h3,c3,d3,h4,h5,c4,d4,h6,h7,h8⟩,hv⟩=>by cases h1;cases h3;cases h5;cases h7;cases h8;subst h6;subst h4;subst h2;subst h;exact hv,fun h=>⟨_,⟨_,_,rfl,rfl,_,_,rfl,rfl,_,_,rfl,rfl,_,_,rfl,rfl,rfl⟩,h⟩⟩
theorem Dv.gt {g:GT}:(Dv gtE G g).p v w↔∃u1 u2,v=.agg #[u1,u2]∧(Dv (slE vtE) G g.1).p u1 w∧(Dv (slE etE) G g.2).p u2 w:=by
 constructor
 ·rintro⟨cs,⟨c,d,h,h1,h2⟩,hv⟩
  have l1:=(slE vtE).len h1
  have l2:=(slE etE).len h2
  match c,l1,d,l2 with
  | [u1],_,[u2],_=>exact⟨u1,u2,by subst h;exact hv,⟨_,h1,rfl⟩,⟨_,h2,rfl⟩⟩
 ·rintro⟨u1,u2,rfl,h1,h2⟩
  exact⟨[u1,u2],⟨[u1],[u2],rfl,Dv.r1 rfl h1,Dv.r1 rfl h2⟩,rfl⟩
end
section
variable {P:Program}{w0:World}{L:Env}{dst:Option Tmp}{ty:TypeId}{pos:String}{aft:Array Edge}{g:Option (Nat×Bool)}{t:TypeId}{G:Nat→Prop}{x:Operand}
theorem ij {n:VT}(ht:TI P t true 3)(hx:Is L w0 x (Dv (ptE vtE) G (some n))):OpC P w0 L ⟨dst,.load t x,ty,pos,aft,g⟩ (E (vtV n)):=(ldD (e:=vtE) ht hx).conv fun v w=>Dv.vt.1
theorem gK {n:ET}(ht:TI P t true 4)(hx:Is L w0 x (Dv (ptE etE) G (some n))):OpC P w0 L ⟨dst,.load t x,ty,pos,aft,g⟩ (E (etV n)):=(ldD (e:=etE) ht hx).conv fun v w=>Dv.et.1
theorem jc {n:DT}(ht:TI P t true 5)(hx:Is L w0 x (Dv (ptE dtE) G (some n))):OpC P w0 L ⟨dst,.load t x,ty,pos,aft,g⟩ (E (dtV n)):=(ldD (e:=dtE) ht hx).conv fun v w=>Dv.dt.1
theorem eu {n:VT}(h:opd L x=some (E (vtV n))):Is L w0 x (Dv vtE G n):=isE h (Dv.vt.2 rfl)
theorem ea {n:ET}(h:opd L x=some (E (etV n))):Is L w0 x (Dv etE G n):=isE h (Dv.et.2 rfl)
theorem bK {fs:Array (Nat×Operand)}(vs:List (Nat×Value)){cs:Array Value}(hv:fs.toList.map (fun p=>(p.1,opd L p.2))=vs.map (fun p=>(p.1,some (E p.2))))(hb:P.built t vs=some cs) :
  OpC P w0 L ⟨dst,.build t fs,ty,pos,aft,g⟩ (E (.agg cs)):=
 aM fun ρ w _ h=>by
  have key:∀(l:List (Nat×Operand)) (us:List (Nat×Value)),(∀p∈l,p∈fs)→l.map (fun p=>(p.1,opd L p.2))=us.map (fun p=>(p.1,some (E p.2)))→l.map (fun p=>(p.1,ρ p.2))=us:=by
   intro l
   induction l with
   | nil=>intro us _ hu;cases us with
    | nil=>rfl
    | cons _ _=>simp at hu
   | cons p r ih=>
    intro us hm hu
    cases us with
    | nil=>simp at hu
    | cons q us=>
     simp only[List.map_cons,List.cons.injEq,Prod.mk.injEq] at hu
     obtain⟨⟨h1,h2⟩,h3⟩:=hu
     have hp:p.2∈(Op.build t fs).operands:=by simp only[Op.operands,List.mem_toArray,List.mem_map];exact⟨p,by simpa using hm p (by simp),rfl⟩
     have h4:ρ p.2=q.2:=h p.2 hp _ h2
     rw[List.map_cons,ih us (fun z hz=>hm z (by simp[hz])) h3,h1,h4]
  have hk:(fs.map fun p=>(p.1,ρ p.2)).toList=vs:=by rw[Array.toList_map];exact key fs.toList vs (fun p hp=>by simpa using hp) hv
  exact⟨_,by simp only[execOp,Sem.run_bind,run_build w t _ cs (by rw[hk];exact hb),Result.andThen_ok,Sem.run_pure],rfl⟩
variable {i0 i1 i2 i3 i4:Operand}
theorem qJ (x:VT)(hb:P.built t [(0,.int .i64 x.1),(1,.int .u8 x.2.1),(2,.int .i64 x.2.2)]=some #[.int .i64 x.1,.int .u8 x.2.1,.int .i64 x.2.2])(h0:opd L i0=some (E (.int .i64 x.1)))(h1:opd L i1=some (E (.int .u8 x.2.1)))(h2:opd L i2=some (E (.int .i64 x.2.2))) :
  OpC P w0 L ⟨dst,.build t #[(0,i0),(1,i1),(2,i2)],ty,pos,aft,g⟩ (E (vtV x)):=bK _ (by simp only[List.map_cons,List.map_nil,h0,h1,h2]) hb
theorem qK (x:ET)(hb:P.built t [(0,.int .i64 x.1.1),(1,.int .i64 x.1.2),(2,.int .u8 x.2.1),(3,.int .i64 x.2.2)]=some #[.int .i64 x.1.1,.int .i64 x.1.2,.int .u8 x.2.1,.int .i64 x.2.2])(h0:opd L i0=some (E (.int .i64 x.1.1)))(h1:opd L i1=some (E (.int .i64 x.1.2)))(h2:opd L i2=some (E (.int .u8 x.2.1)))(h3:opd L i3=some (E (.int .i64 x.2.2))) :
  OpC P w0 L ⟨dst,.build t #[(0,i0),(1,i1),(2,i2),(3,i3)],ty,pos,aft,g⟩ (E (etV x)):=bK _ (by simp only[List.map_cons,List.map_nil,h0,h1,h2,h3]) hb
theorem yB (x:DT)(hx:x.2.2.1=0)(hb:P.built t [(0,.int .i64 x.1),(1,.int .i64 x.2.1),(3,.int .u8 x.2.2.2.1),(4,.int .i64 x.2.2.2.2)]=some #[.int .i64 x.1,.int .i64 x.2.1,.int .i64 0,.int .u8 x.2.2.2.1,.int .i64 x.2.2.2.2])(h0:opd L i0=some (E (.int .i64 x.1)))(h1:opd L i1=some (E (.int .i64 x.2.1)))(h2:opd L i2=some (E (.int .u8 x.2.2.2.1)))(h3:opd L i3=some (E (.int .i64 x.2.2.2.2))) :
  OpC P w0 L ⟨dst,.build t #[(0,i0),(1,i1),(3,i2),(4,i3)],ty,pos,aft,g⟩ (E (dtV x)):=by
 have:dtV x=.agg #[.int .i64 x.1,.int .i64 x.2.1,.int .i64 0,.int .u8 x.2.2.2.1,.int .i64 x.2.2.2.2]:=by rw[dtV,hx]
 rw[this]
 exact bK _ (by simp only[List.map_cons,List.map_nil,h0,h1,h2,h3]) hb
theorem yC (x:DT)(hb:P.built t [(0,.int .i64 x.1),(1,.int .i64 x.2.1),(2,.int .i64 x.2.2.1),(3,.int .u8 x.2.2.2.1),(4,.int .i64 x.2.2.2.2)]=some #[.int .i64 x.1,.int .i64 x.2.1,.int .i64 x.2.2.1,.int .u8 x.2.2.2.1,.int .i64 x.2.2.2.2])(h0:opd L i0=some (E (.int .i64 x.1)))(h1:opd L i1=some (E (.int .i64 x.2.1)))(h2:opd L i2=some (E (.int .i64 x.2.2.1)))(h3:opd L i3=some (E (.int .u8 x.2.2.2.1)))(h4:opd L i4=some (E (.int .i64 x.2.2.2.2))) :
  OpC P w0 L ⟨dst,.build t #[(0,i0),(1,i1),(2,i2),(3,i3),(4,i4)],ty,pos,aft,g⟩ (E (dtV x)):=bK _ (by simp only[List.map_cons,List.map_nil,h0,h1,h2,h3,h4]) hb
end
theorem OwR.neLt {α:Type}{e:Enc α}{ty:TypeId}{B:Nat}{G:Nat→Prop}{w:World}{xs:List α}{v:Value}(h:OwR e ty B G w xs v){b:Nat}(hb:b<B):v.ownBlock≠some b:=fun hv=>by
 have:=(h.lt hv).1;omega
theorem FrD.opn {n:Nat}{ds:List Deferred}{a:Act}{w:World}{L:Env}{A:VA}(h:FrD n ds a w L)(k:Nat)(hk:aC L k=some A):∃v,A.p v w∧FrD n ds a w ((k,E v)::L):=
 ⟨a.eval (.tmp k),h.val k A hk,⟨h.size,h.defers,fun t B ht=>by
  by_cases hkt:k=t
  ·subst hkt;rw[cT] at ht;obtain rfl:=Option.some.inj ht;rfl
  ·rw[cU _ _ hkt] at ht;exact h.val t B ht⟩⟩
theorem Dv.grN {α:Type}{e:Enc α}{G:Nat→Prop}{x:α}{v:Value}{w w':World}{row:Option Nat}(h:(Dv e G x).p v w)(hg:w.grownBy w' row)(hG:∀b,row=some b→G b):(Dv e G x).p v w':=by
 obtain⟨cs,h1,h2⟩:=h
 exact⟨cs,Enc.gro h1 hg hG,h2⟩
theorem OwR.low {α:Type}{e:Enc α}{ty:TypeId}{B B':Nat}{G:Nat→Prop}{w:World}{xs:List α}{v:Value}(h:OwR e ty B G w xs v)(hB:B'≤B)(hG:∀b,G b→b<B'):OwR e ty B' G w xs v:=by
 obtain⟨⟨cs,⟨h1,h2⟩,h3⟩,h4,h5⟩:=h
 refine⟨⟨cs,⟨h1,?_⟩,h3⟩,hG,Nat.le_trans hB h5⟩
 rcases h2 with h2|⟨g,cap,cur,k1,k2,k3⟩
 ·exact .inl h2
 ·exact .inr ⟨g,cap,cur,k1,Nat.le_trans hB k2,k3⟩
end Go.Mono
namespace Go.Mono
open Go Go.Proofs Go.RowKit Go.ChangeShapes Go.WideShapes Go.Gr

theorem qL:Tryz.prog.cellsOf 53=5:=by kernel_rfl
theorem yD:Tryz.prog.cellsOf 5=1:=by kernel_rfl
def edC (d:DT):List Value:=[I d.1,I d.2.1,I d.2.2.1,.int .u8 d.2.2.2.1,I d.2.2.2.2]
def mV (d:DT):Prop:=0≤d.2.2.2.1∧d.2.2.2.1<256
def edW (d:DT):Prop:=(Lit.int .i64 d.2.1).wf=true∧(Lit.int .i64 d.2.2.1).wf=true∧(Lit.int .u8 d.2.2.2.1).wf=true∧(Lit.int .i64 d.2.2.2.2).wf=true
theorem yE {z:Int}(h:(Lit.int .u8 z).wf=true):0≤z∧z<256:=by
 have h1:IntKind.u8.min=0:=by decide
 have h2:IntKind.u8.max=255:=by decide
 simp only[Lit.wf,h1,h2,Bool.and_eq_true,decide_eq_true_eq] at h
 omega
theorem jd {cs:List Value}{j:Nat}{v:Value}(h:(cs.drop j).take 1=[v]):cs[j]?=some v:=by
 have h3:=congrArg (fun l:List Value=>l[0]?) h
 simp only[List.getElem?_cons_zero] at h3
 rw[List.getElem?_take,if_pos (by decide),List.getElem?_drop,Nat.add_zero] at h3
 exact h3
section
variable {H:Type}{enc:TypeId×Value→H}{w:World}{base:Nat}{spare:Nat→Bool}{held:Bool}
theorem yF {n:Nat}{cs:List Value}{x:DataW H×List MemPlace}(h:DataW.trod enc Tryz.prog w base spare held n 53 cs=some x):∃d:DT,cs=edC d∧mV d∧edW d:=by
 obtain⟨xs,m,_,_,hl,hlen,hf⟩:=DataW.trod_struct U53 h
 rw[qL] at hl
 have hx:∀i,i<5→∃y,xs[i]?=some y:=fun i hi=>⟨_,List.getElem?_eq_getElem (by rw[hlen];exact hi)⟩
 obtain⟨y0,e0⟩:=hx 0 (by decide)
 obtain⟨y1,e1⟩:=hx 1 (by decide)
 obtain⟨y2,e2⟩:=hx 2 (by decide)
 obtain⟨y3,e3⟩:=hx 3 (by decide)
 obtain⟨y4,e4⟩:=hx 4 (by decide)
 have h0:=hf 0 _ rfl
 have h1:=hf 1 _ rfl
 have h2:=hf 2 _ rfl
 have h3:=hf 3 _ rfl
 have h4:=hf 4 _ rfl
 rw[e0] at h0;rw[e1] at h1;rw[e2] at h2;rw[e3] at h3;rw[e4] at h4
 change DataW.trod enc Tryz.prog w base spare held m 3 ((cs.drop 0).take (Tryz.prog.cellsOf 3))=some y0 at h0
 change DataW.trod enc Tryz.prog w base spare held m 3 ((cs.drop 1).take (Tryz.prog.cellsOf 3))=some y1 at h1
 change DataW.trod enc Tryz.prog w base spare held m 3 ((cs.drop 2).take (Tryz.prog.cellsOf 3))=some y2 at h2
 change DataW.trod enc Tryz.prog w base spare held m 5 ((cs.drop 3).take (Tryz.prog.cellsOf 5))=some y3 at h3
 change DataW.trod enc Tryz.prog w base spare held m 3 ((cs.drop 4).take (Tryz.prog.cellsOf 3))=some y4 at h4
 rw[yf] at h0 h1 h2 h4
 rw[yD] at h3
 obtain⟨z0,q0,_,_⟩:=DataW.trod_int U3 h0
 obtain⟨z1,q1,_,wf1⟩:=DataW.trod_int U3 h1
 obtain⟨z2,q2,_,wf2⟩:=DataW.trod_int U3 h2
 obtain⟨z3,q3,_,hwf⟩:=DataW.trod_int U5 h3
 obtain⟨z4,q4,_,wf4⟩:=DataW.trod_int U3 h4
 refine⟨(z0,z1,z2,z3,z4),List.ext_getElem? fun j=>?_,yE hwf,wf1,wf2,hwf,wf4⟩
 match j with
 | 0=>rw[jd q0];rfl
 | 1=>rw[jd q1];rfl
 | 2=>rw[jd q2];rfl
 | 3=>rw[jd q3];rfl
 | 4=>rw[jd q4];rfl
 | j+5=>
  rw[List.getElem?_eq_none (by omega),List.getElem?_eq_none]
  show 5≤j+5
  omega
theorem qM {a:Addr}{f:Nat→DT}:∀(n s:Nat),(∀i,s≤i→i<s+n→∀j u,(edC (f i))[j]?=some u→w.cell? (a.add (i * 5+j))=some u)→∀j u,(((List.range' s n).map f).flatMap edC)[j]?=some u→w.cell? (a.add (s * 5+j))=some u
 | 0,s,h,j,u,hu=>by simp at hu
 | n+1,s,h,j,u,hu=>by
  have hln:(edC (f s)).length=5:=rfl
  rw[List.range'_succ,List.map_cons,List.flatMap_cons] at hu
  by_cases hj:j<5
  ·rw[List.getElem?_append_left (by rw[hln];exact hj)] at hu
   exact h s (Nat.le_refl _) (by omega) j u hu
  ·rw[List.getElem?_append_right (by rw[hln];omega),hln] at hu
   have:=qM n (s+1) (fun i h1 h2=>h i (by omega) (by omega)) (j - 5) u hu
   rwa [show (s+1) * 5+(j - 5)=s * 5+j by omega] at this
theorem qN {G:Nat→Prop}:∀l:List DT,Cells dtE G w l (l.flatMap edC)
 | []=>rfl
 | d::l=>⟨edC d,_,rfl,⟨[I d.1],[I d.2.1,I d.2.2.1,.int .u8 d.2.2.2.1,I d.2.2.2.2],rfl,rfl,[I d.2.1],[I d.2.2.1,.int .u8 d.2.2.2.1,I d.2.2.2.2],rfl,rfl,[I d.2.2.1],[.int .u8 d.2.2.2.1,I d.2.2.2.2],rfl,rfl,[.int .u8 d.2.2.2.1],[I d.2.2.2.2],rfl,rfl,rfl⟩,qN l⟩
set_option maxRecDepth 100000 in
theorem open_eds {v:Value}{d:DataW H}{ps:List MemPlace}{b0:Nat}(hok:Value.okWide Tryz.prog w .any b0 22 v)(h:DataW.Trod enc Tryz.prog w 0 spare held 22 v d ps):∃l:List DT,(Dv (slE dtE) G0 l).p v w∧∀d∈l,mV d:=by
 obtain⟨fuel,hf⟩:=h
 obtain⟨a0,n0,c0,rfl⟩:=okWide_slice U22 hok
 rcases Deep.open_slice U22 hf with ⟨hcs,_⟩|⟨a,len,cap,m,n,D,Pl,hcs,_,hlc,_,hm,_,hall⟩
 ·simp[Value.cells] at hcs
  obtain⟨rfl,rfl,rfl⟩:=hcs
  exact⟨[],Dv.nil,by simp⟩
 ·simp[Value.cells] at hcs
  obtain⟨rfl,rfl,rfl⟩:=hcs
  have hlm:n0≤m:=by rw[hm];split <;> omega
  have each:∀i,i<n0→∃b:DT,mV b∧∀j u,(edC b)[j]?=some u→w.cell? (a.add (i * 5+j))=some u:=by
   intro i hi
   obtain⟨cs',h1,h2⟩:=hall i (by omega)
   rw[qL] at h1
   obtain⟨_,hlen,hcell⟩:=World.cells?_some h1
   obtain⟨b,rfl,hb,_⟩:=yF h2
   refine⟨b,hb,fun j u hu=>?_⟩
   have hj:j<5:=(List.getElem?_eq_some_iff.1 hu).1
   have:=hcell j hj
   rw[Deep.add_add] at this
   rw[this];exact hu
  obtain⟨f,hf'⟩:=Deep.choose_lt each
  by_cases h0:n0=0
  ·subst h0
   have hb:a.block<w.heap.size:=by
    have h1:Cell.ok Tryz.prog w .any b0 22 (.slice (some a) 0 c0):=by
     have:=hok
     simpa[Value.okWide,Cell.okWide,U22] using this
    have h2:0≤c0∧(c0:Int)≤IntKind.i64.max∧w.has Tryz.prog .any b0 a 53 c0:=by
     simpa[Cell.ok,U22] using h1
    have h3:=h2.2.2.2.2
    obtain⟨row,h3⟩:=h3
    obtain⟨cells,h3⟩:=h3
    have h4:=h3.1
    apply Classical.byContradiction
    intro hn
    have:w.heap[a.block]?=none:=Array.getElem?_eq_none (by omega)
    simp[World.shape?,this] at h4
   exact⟨[],Dv.sl.2 (.inr ⟨a,c0,[],rfl,by simp,fun hg=>hg.elim,hb,rfl,fun j u hu=>by simp at hu⟩),by simp⟩
  ·refine⟨(List.range n0).map f,Dv.sl.2 (.inr ⟨a,c0,((List.range n0).map f).flatMap edC,by simp,by simpa using hlc,fun hg=>hg.elim,?_,qN _,fun j u hu=>?_⟩),?_⟩
   ·have:=(hf' 0 (by omega)).2 0 (I (f 0).1) rfl
    have:=World.block_lt_of_cell? w _ this
    simpa[ia] using this
   ·rw[List.range_eq_range'] at hu
    have:=qM (w:=w) (a:=a) (f:=f) n0 0 (fun i _ hi j u hu=>(hf' i (by omega)).2 j u hu) j u hu
    simpa using this
   ·intro d hd
    obtain⟨i,hi,rfl⟩:=List.mem_map.1 hd
    exact (hf' i (List.mem_range.1 hi)).1
end
end Go.Mono
namespace Go.Mono
open Go Go.Proofs Go.RowKit
theorem fZ (S T:BS)(W:World):Calls Tryz.prog 40 #[ac S,ac T] W (Post (E (ac (S |||T))) W):=by
 refine eN [ac S,ac T] [E (ac S),E (ac T)] Tryz.func40 Tryz.ntmps40 ?_ fun a hf=>?_
 rotate_left
 rotate_right
 ·exact arg2 rfl rfl
 have e:=Ext.rfl' W
 refine seq <| ae <| tB hf rfl fun a b2 w v2 hv2 e' hb2 hs2 B2 hf=>?_
 replace e:=e.tr e'
 refine tB hf rfl fun a b3 w v3 hv3 e' hb3 hs3 B3 hf=>?_
 obtain⟨e,B2⟩:=up2 e' e B2
 refine tL I68 hf fun a b4 w e' hb4 hs4 B4 hf=>?_
 obtain⟨e,B2,B3⟩:=up3 e' e B2 B3
 refine aa ?_
 subst hv2
 subst hv3
 rw[fp] at B2 B3
 simp only[Value.cells,cE] at B4
 repeat refine seq ?_
 refine rgN 1 hf <| st (mv rfl) <| en fun a w e' hf=>?_
 obtain⟨e,B2,B3,B4⟩:=up4 e' e B2 B3 B4
 refine aa ?_
 replace hf:=hf.keep [2,3,4,6]
 refine blk (aJ (fun r a w=>∃k:Nat,r=16 - k∧k≤16∧Fr 19 a w [(2,E (.pointer (some ⟨b2,0,none⟩))),(3,E (.pointer (some ⟨b3,0,none⟩))),(4,E (.pointer (some ⟨b4,0,none⟩))),(6,E (I k))]∧Ext W w ∧
  Blk w b2 (aU fun i=>if i<k then am S i ||| am T i else am S i) 68∧Blk w b3 (au T) 68∧Blk w b4 (au 0) 68) 16 ⟨0,rfl,by omega,hf,e,?_,B3,B4⟩ ?_)
 ·simpa[au] using B2
 rintro r a w ⟨k,rfl,hk,hf,e,B2,B3,B4⟩
 by_cases hlt:k<16
 ·refine seq <| rgN 1 hf <| st ((lss rfl rfl).eq (congrArg Value.bool (show decide ((k:Int)<16)=true from decide_eq_true (by omega)))) <| en fun a w e' hf=>?_
  obtain⟨e,B2,B3,B4⟩:=up4 e' e B2 B3 B4
  refine aa <| seq <| ifc hf rfl (fun _=>ak ?_) (fun h=>by cases h)
  refine seq <| blk <| seq <| rgN 1 hf <| st (mv rfl) <| en fun a w e' hf=>?_
  obtain⟨e,B2,B3,B4⟩:=up4 e' e B2 B3 B4
  refine tA hf rfl fun a hf=>aa ?_
  have g2:(aU fun i=>if i<k then am S i ||| am T i else am S i)[k]?=some (Mono.W (am S k)):=by rw[cp _ _ hlt];simp
  refine rgG 8 Mix.mix hf <| st (mv rfl) <| st (cD U68 ⟨_,T66⟩ rfl rfl (by omega)) <| st (ld1 T66 rfl B2 (by simpa using g2)) <| st (mv rfl) <| st (cD U68 ⟨_,T66⟩ rfl rfl (by omega)) <| st (ld1 T66 rfl B3 (by simpa[au] using cp (am T) k hlt)) <| st (orW rfl rfl) <| st (cD U68 ⟨_,T66⟩ rfl rfl (by omega)) <| en fun a w e' hf=>?_
  obtain⟨e,B2,B3,B4⟩:=up4 e' e B2 B3 B4
  refine aA T66 hf rfl rfl rfl B2 (by rw[fm];simp;omega) fun w hg hsz B2 hf=>?_
  obtain⟨e,B3,B4⟩:=gr3 hg e B3 B4
  refine aa ?_
  replace B2:Blk w b2 (aU fun i=>if i<k+1 then am S i ||| am T i else am S i) 68:=by
   have:(aU fun i=>if i<k then am S i ||| am T i else am S i).setIfInBounds k (Mono.W (am S k ||| am T k))=aU fun i=>if i<k+1 then am S i ||| am T i else am S i:=by
    rw[hZ]
    refine dK fun i hi=>?_
    by_cases h1:i=k
    ·subst h1;simp
    ·simp only[h1,if_false]
     by_cases h2:i<k
     ·simp[h2,show i<k+1 by omega]
     ·simp[h2,show ¬i<k+1 by omega]
   rw[← this]
   simpa using B2
  replace hf:=hf.keep [2,3,4,6]
  refine rgN 1 hf <| st (add rfl rfl (by omega)) <| en fun a w e' hf=>?_
  obtain⟨e,B2,B3,B4⟩:=up4 e' e B2 B3 B4
  refine tP hf (mv rfl) fun a w e' hf=>?_
  obtain⟨e,B2,B3,B4⟩:=up4 e' e B2 B3 B4
  refine aa ?_
  replace hf:=hf.kp [2,3,4,6]
  exact⟨16 - (k+1),by omega,k+1,rfl,by omega,by simpa using hf,e,B2,B3,B4⟩
 ·obtain rfl:k=16:=by omega
  refine seq <| rgN 1 hf <| st ((lss rfl rfl).eq (congrArg Value.bool (show decide (((16:Nat):Int)<16)=false from rfl))) <| en fun a w e' hf=>?_
  obtain⟨e,B2,B3,B4⟩:=up4 e' e B2 B3 B4
  refine aa <| seq <| ifc hf rfl (fun h=>by cases h) (fun _=>aG ?_)
  have hC:(aU fun i=>if i<16 then am S i ||| am T i else am S i)=au (S |||T):=dK fun i hi=>by
   simp only[hi,if_true,mH]
  rw[hC] at B2
  refine seq <| rgN 1 hf <| st (ldW T68 rfl (by assumption) rfl) <| en fun a w e' hf=>?_
  obtain⟨e,B2,B3,B4⟩:=up4 e' e B2 B3 B4
  haveI hinr:∀G0,InR (GB W G0) (some b4):=fun G0=>InR.gb (by omega)
  refine az T68 hf rfl rfl (aP _) B4 rfl (rfl) fun w hg hsz B4 hf=>?_
  obtain⟨e,B2,B3⟩:=gr3 hg e B2 B3
  refine aa <| ai (ep rfl T68 hf rfl B4 e rfl)

theorem fw (S T:BS)(W:World):Calls Tryz.prog 61 #[ac S,ac T] W (Post (E (ac (S &&&T))) W):=by
 refine eN [ac S,ac T] [E (ac S),E (ac T)] Tryz.func61 Tryz.ntmps61 ?_ fun a hf=>?_
 rotate_left
 rotate_right
 ·exact arg2 rfl rfl
 have e:=Ext.rfl' W
 refine seq <| ae <| tB hf rfl fun a b2 w v2 hv2 e' hb2 hs2 B2 hf=>?_
 replace e:=e.tr e'
 refine tB hf rfl fun a b3 w v3 hv3 e' hb3 hs3 B3 hf=>?_
 obtain⟨e,B2⟩:=up2 e' e B2
 refine tL I68 hf fun a b4 w e' hb4 hs4 B4 hf=>?_
 obtain⟨e,B2,B3⟩:=up3 e' e B2 B3
 refine aa ?_
 subst hv2
 subst hv3
 rw[fp] at B2 B3
 simp only[Value.cells,cE] at B4
 repeat refine seq ?_
 refine rgN 1 hf <| st (mv rfl) <| en fun a w e' hf=>?_
 obtain⟨e,B2,B3,B4⟩:=up4 e' e B2 B3 B4
 refine aa ?_
 replace hf:=hf.keep [2,3,4,6]
 refine blk (aJ (fun r a w=>∃k:Nat,r=16 - k∧k≤16∧Fr 19 a w [(2,E (.pointer (some ⟨b2,0,none⟩))),(3,E (.pointer (some ⟨b3,0,none⟩))),(4,E (.pointer (some ⟨b4,0,none⟩))),(6,E (I k))]∧Ext W w ∧
  Blk w b2 (aU fun i=>if i<k then am S i &&& am T i else am S i) 68∧Blk w b3 (au T) 68∧Blk w b4 (au 0) 68) 16 ⟨0,rfl,by omega,hf,e,?_,B3,B4⟩ ?_)
 ·simpa[au] using B2
 rintro r a w ⟨k,rfl,hk,hf,e,B2,B3,B4⟩
 by_cases hlt:k<16
 ·refine seq <| rgN 1 hf <| st ((lss rfl rfl).eq (congrArg Value.bool (show decide ((k:Int)<16)=true from decide_eq_true (by omega)))) <| en fun a w e' hf=>?_
  obtain⟨e,B2,B3,B4⟩:=up4 e' e B2 B3 B4
  refine aa <| seq <| ifc hf rfl (fun _=>ak ?_) (fun h=>by cases h)
  refine seq <| blk <| seq <| rgN 1 hf <| st (mv rfl) <| en fun a w e' hf=>?_
  obtain⟨e,B2,B3,B4⟩:=up4 e' e B2 B3 B4
  refine tA hf rfl fun a hf=>aa ?_
  have g2:(aU fun i=>if i<k then am S i &&& am T i else am S i)[k]?=some (Mono.W (am S k)):=by rw[cp _ _ hlt];simp
  refine rgG 8 Mix.mix hf <| st (mv rfl) <| st (cD U68 ⟨_,T66⟩ rfl rfl (by omega)) <| st (ld1 T66 rfl B2 (by simpa using g2)) <| st (mv rfl) <| st (cD U68 ⟨_,T66⟩ rfl rfl (by omega)) <| st (ld1 T66 rfl B3 (by simpa[au] using cp (am T) k hlt)) <| st (fL rfl rfl) <| st (cD U68 ⟨_,T66⟩ rfl rfl (by omega)) <| en fun a w e' hf=>?_
  obtain⟨e,B2,B3,B4⟩:=up4 e' e B2 B3 B4
  refine aA T66 hf rfl rfl rfl B2 (by rw[fm];simp;omega) fun w hg hsz B2 hf=>?_
  obtain⟨e,B3,B4⟩:=gr3 hg e B3 B4
  refine aa ?_
  replace B2:Blk w b2 (aU fun i=>if i<k+1 then am S i &&& am T i else am S i) 68:=by
   have:(aU fun i=>if i<k then am S i &&& am T i else am S i).setIfInBounds k (Mono.W (am S k &&& am T k))=aU fun i=>if i<k+1 then am S i &&& am T i else am S i:=by
    rw[hZ]
    refine dK fun i hi=>?_
    by_cases h1:i=k
    ·subst h1;simp
    ·simp only[h1,if_false]
     by_cases h2:i<k
     ·simp[h2,show i<k+1 by omega]
     ·simp[h2,show ¬i<k+1 by omega]
   rw[← this]
   simpa using B2
  replace hf:=hf.keep [2,3,4,6]
  refine rgN 1 hf <| st (add rfl rfl (by omega)) <| en fun a w e' hf=>?_
  obtain⟨e,B2,B3,B4⟩:=up4 e' e B2 B3 B4
  refine tP hf (mv rfl) fun a w e' hf=>?_
  obtain⟨e,B2,B3,B4⟩:=up4 e' e B2 B3 B4
  refine aa ?_
  replace hf:=hf.kp [2,3,4,6]
  exact⟨16 - (k+1),by omega,k+1,rfl,by omega,by simpa using hf,e,B2,B3,B4⟩
 ·obtain rfl:k=16:=by omega
  refine seq <| rgN 1 hf <| st ((lss rfl rfl).eq (congrArg Value.bool (show decide (((16:Nat):Int)<16)=false from rfl))) <| en fun a w e' hf=>?_
  obtain⟨e,B2,B3,B4⟩:=up4 e' e B2 B3 B4
  refine aa <| seq <| ifc hf rfl (fun h=>by cases h) (fun _=>aG ?_)
  have hC:(aU fun i=>if i<16 then am S i &&& am T i else am S i)=au (S &&&T):=dK fun i hi=>by
   simp only[hi,if_true,xM]
  rw[hC] at B2
  refine seq <| rgN 1 hf <| st (ldW T68 rfl (by assumption) rfl) <| en fun a w e' hf=>?_
  obtain⟨e,B2,B3,B4⟩:=up4 e' e B2 B3 B4
  haveI hinr:∀G0,InR (GB W G0) (some b4):=fun G0=>InR.gb (by omega)
  refine az T68 hf rfl rfl (aP _) B4 rfl (rfl) fun w hg hsz B4 hf=>?_
  obtain⟨e,B2,B3⟩:=gr3 hg e B2 B3
  refine aa <| ai (ep rfl T68 hf rfl B4 e rfl)

theorem db (S T:BS)(W:World):Calls Tryz.prog 22 #[ac S,ac T] W (Post (E (ac (S &&& ~~~T))) W):=by
 refine eN [ac S,ac T] [E (ac S),E (ac T)] Tryz.func22 Tryz.ntmps22 ?_ fun a hf=>?_
 rotate_left
 rotate_right
 ·exact arg2 rfl rfl
 have e:=Ext.rfl' W
 refine seq <| ae <| tB hf rfl fun a b2 w v2 hv2 e' hb2 hs2 B2 hf=>?_
 replace e:=e.tr e'
 refine tB hf rfl fun a b3 w v3 hv3 e' hb3 hs3 B3 hf=>?_
 obtain⟨e,B2⟩:=up2 e' e B2
 refine tL I68 hf fun a b4 w e' hb4 hs4 B4 hf=>?_
 obtain⟨e,B2,B3⟩:=up3 e' e B2 B3
 refine aa ?_
 subst hv2
 subst hv3
 rw[fp] at B2 B3
 simp only[Value.cells,cE] at B4
 repeat refine seq ?_
 refine rgN 1 hf <| st (mv rfl) <| en fun a w e' hf=>?_
 obtain⟨e,B2,B3,B4⟩:=up4 e' e B2 B3 B4
 refine aa ?_
 replace hf:=hf.keep [2,3,4,6]
 refine blk (aJ (fun r a w=>∃k:Nat,r=16 - k∧k≤16∧Fr 19 a w [(2,E (.pointer (some ⟨b2,0,none⟩))),(3,E (.pointer (some ⟨b3,0,none⟩))),(4,E (.pointer (some ⟨b4,0,none⟩))),(6,E (I k))]∧Ext W w ∧
  Blk w b2 (aU fun i=>if i<k then am S i &&& ~~~am T i else am S i) 68∧Blk w b3 (au T) 68∧Blk w b4 (au 0) 68) 16 ⟨0,rfl,by omega,hf,e,?_,B3,B4⟩ ?_)
 ·simpa[au] using B2
 rintro r a w ⟨k,rfl,hk,hf,e,B2,B3,B4⟩
 by_cases hlt:k<16
 ·refine seq <| rgN 1 hf <| st ((lss rfl rfl).eq (congrArg Value.bool (show decide ((k:Int)<16)=true from decide_eq_true (by omega)))) <| en fun a w e' hf=>?_
  obtain⟨e,B2,B3,B4⟩:=up4 e' e B2 B3 B4
  refine aa <| seq <| ifc hf rfl (fun _=>ak ?_) (fun h=>by cases h)
  refine seq <| blk <| seq <| rgN 1 hf <| st (mv rfl) <| en fun a w e' hf=>?_
  obtain⟨e,B2,B3,B4⟩:=up4 e' e B2 B3 B4
  refine tA hf rfl fun a hf=>aa ?_
  have g2:(aU fun i=>if i<k then am S i &&& ~~~am T i else am S i)[k]?=some (Mono.W (am S k)):=by rw[cp _ _ hlt];simp
  refine rgG 8 Mix.mix hf <| st (mv rfl) <| st (cD U68 ⟨_,T66⟩ rfl rfl (by omega)) <| st (ld1 T66 rfl B2 (by simpa using g2)) <| st (mv rfl) <| st (cD U68 ⟨_,T66⟩ rfl rfl (by omega)) <| st (ld1 T66 rfl B3 (by simpa[au] using cp (am T) k hlt)) <| st (oX rfl rfl) <| st (cD U68 ⟨_,T66⟩ rfl rfl (by omega)) <| en fun a w e' hf=>?_
  obtain⟨e,B2,B3,B4⟩:=up4 e' e B2 B3 B4
  refine aA T66 hf rfl rfl rfl B2 (by rw[fm];simp;omega) fun w hg hsz B2 hf=>?_
  obtain⟨e,B3,B4⟩:=gr3 hg e B3 B4
  refine aa ?_
  replace B2:Blk w b2 (aU fun i=>if i<k+1 then am S i &&& ~~~am T i else am S i) 68:=by
   have:(aU fun i=>if i<k then am S i &&& ~~~am T i else am S i).setIfInBounds k (Mono.W (am S k &&& ~~~am T k))=aU fun i=>if i<k+1 then am S i &&& ~~~am T i else am S i:=by
    rw[hZ]
    refine dK fun i hi=>?_
    by_cases h1:i=k
    ·subst h1;simp
    ·simp only[h1,if_false]
     by_cases h2:i<k
     ·simp[h2,show i<k+1 by omega]
     ·simp[h2,show ¬i<k+1 by omega]
   rw[← this]
   simpa using B2
  replace hf:=hf.keep [2,3,4,6]
  refine rgN 1 hf <| st (add rfl rfl (by omega)) <| en fun a w e' hf=>?_
  obtain⟨e,B2,B3,B4⟩:=up4 e' e B2 B3 B4
  refine tP hf (mv rfl) fun a w e' hf=>?_
  obtain⟨e,B2,B3,B4⟩:=up4 e' e B2 B3 B4
  refine aa ?_
  replace hf:=hf.kp [2,3,4,6]
  exact⟨16 - (k+1),by omega,k+1,rfl,by omega,by simpa using hf,e,B2,B3,B4⟩
 ·obtain rfl:k=16:=by omega
  refine seq <| rgN 1 hf <| st ((lss rfl rfl).eq (congrArg Value.bool (show decide (((16:Nat):Int)<16)=false from rfl))) <| en fun a w e' hf=>?_
  obtain⟨e,B2,B3,B4⟩:=up4 e' e B2 B3 B4
  refine aa <| seq <| ifc hf rfl (fun h=>by cases h) (fun _=>aG ?_)
  have hC:(aU fun i=>if i<16 then am S i &&& ~~~am T i else am S i)=au (S &&& ~~~T):=dK fun i hi=>by
   simp only[hi,if_true,pV]
  rw[hC] at B2
  refine seq <| rgN 1 hf <| st (ldW T68 rfl (by assumption) rfl) <| en fun a w e' hf=>?_
  obtain⟨e,B2,B3,B4⟩:=up4 e' e B2 B3 B4
  haveI hinr:∀G0,InR (GB W G0) (some b4):=fun G0=>InR.gb (by omega)
  refine az T68 hf rfl rfl (aP _) B4 rfl (rfl) fun w hg hsz B4 hf=>?_
  obtain⟨e,B2,B3⟩:=gr3 hg e B2 B3
  refine aa <| ai (ep rfl T68 hf rfl B4 e rfl)

theorem ga (S:BS)(W:World):Calls Tryz.prog 71 #[ac S] W (Post (E (B (S==0))) W):=by
 refine eN [ac S] [E (ac S)] Tryz.func71 Tryz.ntmps71 ?_ fun a hf=>?_
 rotate_left
 rotate_right
 ·exact arg1 rfl
 have e:=Ext.rfl' W
 refine seq <| ae <| tB hf rfl fun a b1 w v1 hv1 e' hb1 hs1 B1 hf=>?_
 replace e:=e.tr e'
 refine tA hf rfl fun a hf=>aa ?_
 subst hv1
 refine seq <| rgN 3 hf <| st (ldW T68 rfl (by assumption) rfl) <| st ((xV vN).eq (pY)) <| st (eqS (S:=S) (T:=0) U68 U66 T66 (by kernel_rfl) rfl rfl) <| en fun a w e' hf=>?_
 obtain⟨e,B1⟩:=up2 e' e B1
 refine tA hf rfl fun a hf=>aa <| ai (ap rfl hf rfl ?_)
 rintro v rfl
 exact⟨_,rfl,e,rfl⟩

theorem yG (S T:BS)(W:World):Calls Tryz.prog 41 #[ac S,ac T] W (Post (E (B (S &&& ~~~T==0))) W):=by
 refine eN [ac S,ac T] [E (ac S),E (ac T)] Tryz.func41 Tryz.ntmps41 ?_ fun a hf=>?_
 rotate_left
 rotate_right
 ·exact arg2 rfl rfl
 have e:=Ext.rfl' W
 refine seq <| ae <| tB hf rfl fun a b2 w v2 hv2 e' hb2 hs2 B2 hf=>?_
 replace e:=e.tr e'
 refine tB hf rfl fun a b3 w v3 hv3 e' hb3 hs3 B3 hf=>?_
 obtain⟨e,B2⟩:=up2 e' e B2
 refine tA hf rfl fun a hf=>aa ?_
 subst hv2
 subst hv3
 simp only[fp] at B2 B3
 refine seq <| rgN 4 hf <| st (ldW T68 rfl (by assumption) rfl) <| st (ldW T68 rfl (by assumption) rfl) <| st (ar cX rfl rfl (fun v u w _ h h'=>by cases h;cases h';exact db S T w)) ?_
 refine st (an fQ rfl (fun v w _ h=>by cases h;exact ga _ w)) ?_
 refine en fun a w e' hf=>?_
 obtain⟨e,B2,B3⟩:=up3 e' e B2 B3
 refine tA hf rfl fun a hf=>aa <| ai (ap rfl hf rfl ?_)
 rintro v rfl
 exact⟨_,rfl,e,rfl⟩
end Go.Mono
namespace Go.Mono
open Go
def tz (x:BitVec 64):Nat:=((List.range 64).find? fun i=>x.getLsbD i).getD 64
def tabZ:List Nat:=[0,1,56,2,57,49,28,3,61,58,42,50,38,29,17,4,62,47,59,36,45,43,51,22,53,39,33,30,24,18,12,5,63,55,48,27,60,41,37,16,46,35,44,21,52,32,23,11,54,26,40,15,34,20,31,10,25,14,19,9,13,8,7,6]
theorem yH:∀k,k<64→tabZ.getD (((1#64 <<< k) * 285870213051353865#64) >>> 58).toNat 0=k:=by decide
theorem mW {x:BitVec 64}(h:x≠0):∃k,k<64∧tz x=k∧x.getLsbD k=true∧∀j,j<k→x.getLsbD j=false:=by
 cases hf:(List.range 64).find? fun i=>x.getLsbD i with
 | none=>
  exfalso
  apply h
  apply BitVec.eq_of_getLsbD_eq
  intro i hi
  have:=List.find?_eq_none.1 hf i (List.mem_range.2 hi)
  simpa using this
 | some k=>
  have hk:=List.find?_some hf
  have hm:=List.mem_range.1 (List.mem_of_find?_eq_some hf)
  refine⟨k,hm,by simp[tz,hf],hk,fun j hj=>?_⟩
  have:=(List.find?_range_eq_some.1 hf).2.2 j hj
  simpa using this
theorem yI {x:BitVec 64}{k:Nat}(hk:k<64)(h:x.getLsbD k=true)(h0:∀j,j<k→x.getLsbD j=false):x &&& -x=1#64 <<< k:=by
 apply BitVec.eq_of_getLsbD_eq
 intro i hi
 rw[BitVec.getLsbD_and,BitVec.getLsbD_neg,BitVec.getLsbD_shiftLeft,BitVec.getLsbD_one]
 rcases Nat.lt_trichotomy i k with hik|hik|hik
 ·simp[h0 i hik,hik]
 ·subst hik
  have:¬∃j,j<i∧x.getLsbD j=true:=fun⟨j,hj,hb⟩=>by rw[h0 j hj] at hb;cases hb
  rw[decide_eq_false this]
  simp only[h]
  simp[hi]
 ·have:∃j,j<i∧x.getLsbD j=true:=⟨k,hik,h⟩
  rw[decide_eq_true this]
  have hne:i - k≠0:=by omega
  simp only[decide_eq_false hne,hi,decide_true,Bool.true_and,Bool.and_true,Bool.xor_true,Bool.and_false]
  cases x.getLsbD i <;> rfl
theorem yJ {x:BitVec 64}(h:x≠0):(((x &&& -x) * 285870213051353865#64) >>> 58).toNat<64∧tabZ.getD (((x &&& -x) * 285870213051353865#64) >>> 58).toNat 0=tz x:=by
 obtain⟨k,hk,ht,hb,h0⟩:=mW h
 constructor
 ·have:(((x &&& -x) * 285870213051353865#64) >>> 58).toNat<64:=by
   rw[BitVec.toNat_ushiftRight,Nat.shiftRight_eq_div_pow]
   omega
  exact this
 ·rw[yI hk hb h0,yH k hk,ht]
theorem qO {x:BitVec 64}(h:x≠0):tz x<64:=by
 obtain⟨k,hk,ht,_⟩:=mW h
 omega
def bj (S:BS):Option Nat:=(List.range 1024).find? fun i=>S.getLsbD i
theorem jg {S:BS}:bj S=none↔S=0:=by
 constructor
 ·intro h
  apply BitVec.eq_of_getLsbD_eq
  intro i hi
  have:=List.find?_eq_none.1 h i (List.mem_range.2 hi)
  simpa using this
 ·rintro rfl
  exact List.find?_eq_none.2 fun x hx=>by simp
theorem yK {p:Nat→Bool}{n k:Nat}(hk:k<n)(h:p k=true)(h0:∀j,j<k→p j=false):(List.range n).find? p=some k:=by
 rw[List.find?_range_eq_some]
 exact⟨h,List.mem_range.2 hk,fun j hj=>by simp[h0 j hj]⟩
theorem mX {S:BS}{k:Nat}:bj S=some k↔k<1024∧S.getLsbD k=true∧∀j,j<k→S.getLsbD j=false:=by
 constructor
 ·intro h
  have:=List.find?_range_eq_some.1 h
  exact⟨List.mem_range.1 this.2.1,this.1,fun j hj=>by simpa using this.2.2 j hj⟩
 ·rintro⟨h1,h2,h3⟩
  exact yK h1 h2 h3
theorem yL {S:BS}{k:Nat}(hk:k<16)(h0:∀i,i<k→am S i=0)(h:am S k≠0):bj S=some (64 * k+tz (am S k)):=by
 obtain⟨t,ht,e,hb,hz⟩:=mW h
 rw[e]
 refine mX.2 ⟨by omega,?_,fun j hj=>?_⟩
 ·rwa [dR _ _ _ ht] at hb
 ·by_cases hjk:j / 64<k
  ·have h1:=h0 _ hjk
   have h2:=congrArg (fun v=>v.getLsbD (j % 64)) h1
   simp only[dR _ _ _ (Nat.mod_lt j (by decide:0<64)),Nat.div_add_mod] at h2
   simpa using h2
  ·have hj64:j / 64=k:=by omega
   have h1:=hz (j % 64) (by omega)
   rw[dR _ _ _ (Nat.mod_lt j (by decide))] at h1
   rw[← hj64,Nat.div_add_mod] at h1
   exact h1
theorem yM {S:BS}(h:∀i,i<16→am S i=0):S=0:=mF fun i hi=>by rw[h i hi,mI]
end Go.Mono
namespace Go.Mono
open Go Go.Proofs Go.RowKit
def Tab (w:World):Prop:=∀i,i<64→w.cell? ⟨0,i,none⟩=some (.int .u8 (tabZ.getD i 0:Nat))
theorem Tab.ext {w w':World}(h:Tab w)(e:Ext w w'):Tab w':=fun i hi=>
 (Below.cell e (p:=⟨0,i,none⟩) (World.block_lt_of_cell? w ⟨0,i,none⟩ (h i hi))).trans (h i hi)
instance {w w':World}:Ug w w' (Tab w) (Tab w'):=⟨fun e h=>h.ext e⟩
theorem Tab.lt {w:World}(h:Tab w):0<w.heap.size:=World.block_lt_of_cell? w ⟨0,0,none⟩ (h 0 (by decide))

theorem yN (x:BitVec 64)(W:World)(hT:Tab W):Calls Tryz.prog 104 #[Mono.W x] W (Post (E (I (tz x))) W):=by
 refine eN [Mono.W x] [E (Mono.W x)] Tryz.func104 Tryz.ntmps104 ?_ fun a hf=>?_
 rotate_left
 rotate_right
 ·exact arg1 rfl
 have e:=Ext.rfl' W
 refine seq <| ae <| tA hf rfl fun a hf=>aa ?_
 cases hb:(x==0#64)
 ·have hx:x≠0:=by simpa using hb
  obtain⟨h1,h2⟩:=yJ hx
  obtain⟨p,hp⟩:∃p:BitVec 64,p=((x &&& -x) * 285870213051353865#64) >>> 58:=⟨_,rfl⟩
  rw[← hp] at h1 h2
  repeat refine seq ?_
  refine rgN 2 hf <| st (mv rfl) <| st ((oY (v:=0#64) rfl rfl).eq (congrArg Value.bool (hb))) <| en fun a w e' hf=>?_
  replace e:=e.tr e'
  refine aa <| ifc hf rfl (fun h=>by cases h) (fun _=>ak ?_)
  refine seq <| rgN 9 hf <| st (mv rfl) <| st (mv rfl) <| st (xX rfl) <| st (fL rfl rfl) <| st (xW (v:=285870213051353865#64) rfl rfl) <| st ((gF rfl rfl (by omega)).eq (show Mono.W _=Mono.W p from by rw[hp];rfl)) ?_
  refine st (cD xK ⟨_,T5⟩ rfl rfl (by constructor <;> omega)) ?_
  refine st (ldC T5 rfl (v:=.int .u8 (tabZ.getD p.toNat 0:Nat)) (fun w' e'=>by simpa using hT.ext (e.tr e') _ h1)) <| st (qa U5 U3 rfl) <| en fun a w e' hf=>?_
  replace e:=e.tr e'
  refine tA hf rfl fun a hf=>aa <| ai (ap rfl hf rfl ?_)
  rintro v rfl
  refine⟨_,rfl,e,?_⟩
  have h3:=qO hx
  show Value.int .i64 _=Value.int .i64 _
  rw[h2,IntWalk.i64_in _ (by omega)]
 ·have hx:x=0:=by simpa using hb
  repeat refine seq ?_
  refine rgN 2 hf <| st (mv rfl) <| st ((oY (v:=0#64) rfl rfl).eq (congrArg Value.bool (hb))) <| en fun a w e' hf=>?_
  replace e:=e.tr e'
  refine aa <| ifc hf rfl (fun _=>?_) (fun h=>by cases h)
  refine seq <| ae <| tA hf rfl fun a hf=>aa <| ai (ap rfl hf rfl ?_)
  rintro v rfl
  refine⟨_,rfl,e,?_⟩
  subst hx
  rfl
def ge (S:BS):VA:=Tup [E (I ((bj S).getD 0:Nat)),E (B (bj S).isSome)]

theorem fx (S:BS)(W:World)(hT:Tab W):Calls Tryz.prog 59 #[ac S] W (Post (ge S) W):=by
 refine eN [ac S] [E (ac S)] Tryz.func59 Tryz.ntmps59 ?_ fun a hf=>?_
 rotate_left
 rotate_right
 ·exact arg1 rfl
 have e:=Ext.rfl' W
 refine seq <| ae <| tB hf rfl fun a b1 w v1 hv1 e' hb1 hs1 B1 hf=>?_
 replace e:=e.tr e'
 refine tA hf rfl fun a hf=>tA hf rfl fun a hf=>aa ?_
 subst hv1
 rw[fp] at B1
 repeat refine seq ?_
 refine rgN 2 hf <| st (ldW T68 rfl (by assumption) rfl) <| st (mv rfl) <| en fun a w e' hf=>?_
 obtain⟨e,B1⟩:=up2 e' e B1
 refine aa ?_
 replace hf:=hf.keep [6,7]
 refine blk (aJ (fun r a w=>∃k:Nat,r=16 - k∧k≤16∧Fr 19 a w [(6,E (ac S)),(7,E (I k))]∧Ext W w∧∀i,i<k→am S i=0) 16 ⟨0,rfl,by omega,hf,e,fun i hi=>by omega⟩ ?_)
 rintro r a w ⟨k,rfl,hk,hf,e,hz⟩
 by_cases hlt:k<16
 ·refine seq <| rgN 1 hf <| st ((lss rfl rfl).eq (congrArg Value.bool (show decide ((k:Int)<16)=true from decide_eq_true (by omega)))) <| en fun a w e' hf=>?_
  replace e:=e.tr e'
  refine aa <| seq <| ifc hf rfl (fun _=>ak ?_) (fun h=>by cases h)
  refine seq <| blk <| seq <| rgN 2 hf <| st (mv rfl) <| st (jR U68 T66 rfl rfl (by omega) (by simpa[au] using cp (am S) k hlt)) <| en fun a w e' hf=>?_
  replace e:=e.tr e'
  refine tA hf rfl fun a hf=>tA hf rfl fun a hf=>aa ?_
  cases hb:(am S k != 0#64)
  ·have hw:am S k=0:=by simpa using hb
   refine seq <| rgN 2 hf <| st (mv rfl) <| st ((mh (v:=0#64) rfl rfl).eq (congrArg Value.bool (hb))) <| en fun a w e' hf=>?_
   replace e:=e.tr e'
   refine aa <| ifc hf rfl (fun h=>by cases h) (fun _=>ak ?_)
   refine rgN 1 hf <| st (add rfl rfl (by omega)) <| en fun a w e' hf=>?_
   replace e:=e.tr e'
   refine tP hf (mv rfl) fun a w e' hf=>?_
   replace e:=e.tr e'
   refine aa ?_
   replace hf:=hf.kp [6,7]
   exact⟨16 - (k+1),by omega,k+1,rfl,by omega,by simpa using hf,e,fun i hi=>by
    by_cases h:i=k
    ·subst h;exact hw
    ·exact hz i (by omega)⟩
  ·have hw:am S k≠0:=by simpa using hb
   have hm:=yL hlt hz hw
   have htz:=qO hw
   refine seq <| rgN 2 hf <| st (mv rfl) <| st ((mh (v:=0#64) rfl rfl).eq (congrArg Value.bool (hb))) <| en fun a w e' hf=>?_
   replace e:=e.tr e'
   refine aa <| ifc hf rfl (fun _=>?_) (fun h=>by cases h)
   refine seq <| rgN 5 hf <| st (mv rfl) <| st (mul rfl rfl (by omega)) <| st (mv rfl) <| st (an wV rfl (fun v w' e' h=>by cases h;exact yN _ w' (hT.ext (e.tr e')))) ?_
   refine st (add rfl rfl (by omega)) <| en fun a w e' hf=>?_
   replace e:=e.tr e'
   refine tA hf rfl fun a hf=>tA hf rfl fun a hf=>aa <| ai (dF rfl hf rfl rfl ?_)
   rintro u v rfl rfl
   refine⟨_,rfl,e,Tup.two ?_ ?_⟩
   ·rw[hm];simp[E,ER]
   ·rw[hm];rfl
 ·obtain rfl:k=16:=by omega
  have hm:bj S=none:=jg.2 (yM hz)
  refine seq <| rgN 1 hf <| st ((lss rfl rfl).eq (congrArg Value.bool (show decide (((16:Nat):Int)<16)=false from rfl))) <| en fun a w e' hf=>?_
  replace e:=e.tr e'
  refine aa <| seq <| ifc hf rfl (fun h=>by cases h) (fun _=>aG ?_)
  refine seq <| ae <| tA hf rfl fun a hf=>tA hf rfl fun a hf=>aa <| ai (dF rfl hf rfl rfl ?_)
  rintro u v rfl rfl
  refine⟨_,rfl,e,Tup.two ?_ ?_⟩
  ·rw[hm];rfl
  ·rw[hm];rfl
end Go.Mono
namespace Go.Proofs.YteildobhcnllmaaGreatDoor
open Go Go.ChangeShapes Go.WideShapes Go.ChangeAt Go.RowKit

theorem own:ownKnob Tryz.prog.godebug=none:=by kernel_rfl
theorem laidOut:laidOutB Tryz.prog=true:=by kernel_rfl
theorem qP:Tryz.prog.globalNamed "math/bits.deBruijn64tab" = some 0:=by kernel_rfl
theorem yO:(Tryz.prog.globals[0]?).map (·.type)=some 196:=by kernel_rfl
theorem yP:Tryz.prog.cellsOf 196=64:=by kernel_rfl
theorem yQ:Tryz.prog.cellsOf 5=1:=by kernel_rfl
theorem yR {W:World} (h:laidMet Tryz.prog [("math/bits.deBruijn64tab",Rows.laid_math_bits_deBruijn64tab)] W):Mono.Tab W:=by
 have h2:=Lib.tabIs_of_head (k:=.u8) (zs:=Mono.tabZ.map fun n:Nat=>(n:Int)) (rest:=[]) qP yO Tryz.underlying196 Tryz.underlying5 yQ yP (show laidMet Tryz.prog (("math/bits.deBruijn64tab",Lib.tabData .u8 (Mono.tabZ.map fun n:Nat=>(n:Int)))::[]) W from h)
 intro i hi
 rw[h2.cell qP i (by simpa[Mono.tabZ] using hi)]
 congr 2
 simp[List.getD,List.getElem?_map]
 cases Mono.tabZ[i]? <;> rfl
noncomputable def qQ (os:Os):World:=
 let w0:=World.holding Tryz.prog os ⟨#[],#[],[]⟩
 { w0 with heap:=w0.heap.modify 0 fun
   | .cells _ t frozen=>.cells (Mono.tabZ.map fun n:Nat=>Value.int .u8 (n:Int)).toArray t frozen
   | o=>o }
theorem yS (os:Os) (args:Array Value):laidMet Tryz.prog [("math/bits.deBruijn64tab",Rows.laid_math_bits_deBruijn64tab)] ((qQ os).forCall (fun _ _=>0) ⟨#[],args,[]⟩).memory:=
 laidMet_of_run' 8 (by kernel_rfl) (by kernel_rfl)
end Go.Proofs.YteildobhcnllmaaGreatDoor
namespace Go.Mono
open Go Go.Proofs Go.RowKit

structure fy (xs:List RB):Prop where
 range:∀i,i<xs.length → -1≤up xs i∧up xs i<xs.length
 root:(bF (fun i=>decide (up xs i<0)) xs.length).length=1
 loop:∀i,i<xs.length→(dT xs i).isSome=true
 dup:∀i,i<xs.length→∀id∈hs xs i,(ie xs id).length=1
open Classical in
noncomputable def km (xs:List RB):Int:=
 if xs.length<1 then 2 else
 if ¬∀i,i<xs.length → -1≤up xs i∧up xs i<xs.length then 3 else
 if ¬(bF (fun i=>decide (up xs i<0)) xs.length).length=1 then 3 else
 if ¬∀i,i<xs.length→(dT xs i).isSome=true then 15 else
 if ¬∀i,i<xs.length→∀id∈hs xs i,(ie xs id).length=1 then 7 else 0
theorem yT {xs:List RB}:km xs=0↔0<xs.length∧fy xs:=by
 unfold km
 constructor
 ·intro h
  split at h
  ·cases h
  ·split at h
   ·cases h
   ·split at h
    ·cases h
    ·split at h
     ·cases h
     ·split at h
      ·cases h
      ·rename_i h1 h2 h3 h4 h5
       exact⟨by omega,⟨Classical.not_not.1 h2,Classical.not_not.1 h3,Classical.not_not.1 h4,Classical.not_not.1 h5⟩⟩
 ·rintro⟨h0,h⟩
  rw[if_neg (by omega),if_neg (Classical.not_not.2 h.range),if_neg (Classical.not_not.2 h.root),if_neg (Classical.not_not.2 h.loop),if_neg (Classical.not_not.2 h.dup)]

end Go.Mono
namespace Go.Mono

theorem qR {xs:List RB}:∀{f:Nat} {a:Int} {l:List Int},abv xs f a=some l→abv xs (f+1) a=some l
 | 0,a,l,h=>by
  by_cases ha:a<0
  ·rw[abv,if_pos ha] at h;rw[abv,if_pos ha];exact h
  ·rw[abv,if_neg ha] at h;cases h
 | f+1,a,l,h=>by
  by_cases ha:a<0
  ·rw[abv,if_pos ha] at h;rw[abv,if_pos ha];exact h
  ·rw[abv,if_neg ha] at h
   rw[abv,if_neg ha]
   cases hr:abv xs f (up xs a.toNat) with
   | none=>rw[hr] at h;cases h
   | some l'=>rw[qR hr];rw[hr] at h;exact h
def ab (xs:List RB)(i:Nat):List Int:=(dT xs i).getD []
theorem yU {xs:List RB}(V:fy xs){i j:Nat}(hi:i<xs.length)(h:up xs i=(j:Int)):ab xs i=(j:Int)::ab xs j∧j<xs.length:=by
 have hr:=V.range i hi
 have hl:=V.loop i hi
 refine⟨?_,by omega⟩
 unfold ab
 rw[dT,abv,if_neg (by omega)] at hl ⊢
 rw[h,Int.toNat_natCast] at hl ⊢
 cases hx:abv xs xs.length (up xs j) with
 | none=>rw[hx] at hl;cases hl
 | some l=>rw[dT,qR hx];rfl
theorem qS (xs:List RB)(i:Nat):iY xs i=(ab xs i).length:=rfl
theorem yV {xs:List RB}(V:fy xs){i j:Nat}(hi:i<xs.length)(h:up xs i=(j:Int)):iY xs i=iY xs j+1:=by
 rw[qS,qS,(yU V hi h).1];rfl
theorem yW {xs:List RB}(V:fy xs){i:Nat}(hi:i<xs.length):up xs i = -1∨∃j:Nat,j<xs.length∧up xs i=(j:Int):=by
 have:=V.range i hi
 by_cases h:up xs i<0
 ·exact .inl (by omega)
 ·exact .inr ⟨(up xs i).toNat,by omega,by omega⟩
theorem yX {xs:List RB}(V:fy xs){p:Nat→Prop}(root:∀i,i<xs.length→up xs i = -1→p i)(step:∀i j,i<xs.length→j<xs.length→up xs i=(j:Int)→p j→p i):∀i,i<xs.length→p i:=by
 have:∀d i,i<xs.length→iY xs i=d→p i:=by
  intro d
  induction d using Nat.strongRecOn with
  | _ d ih=>
   intro i hi hd
   rcases yW V hi with h|⟨j,hj,h⟩
   ·exact root i hi h
   ·have:=yV V hi h
    exact step i j hi hj h (ih (iY xs j) (by omega) j hj rfl)
 exact fun i hi=>this _ i hi rfl
theorem ik {p:Nat→Bool}{n:Nat}{k:Int}:k∈bF p n↔∃i:Nat,i<n∧p i=true∧k=(i:Int):=by
 unfold bF
 simp only[List.mem_map,List.mem_filter,List.mem_range]
 exact⟨fun⟨i,⟨h1,h2⟩,h3⟩=>⟨i,h1,h2,h3.symm⟩,fun⟨i,h1,h2,h3⟩=>⟨i,⟨h1,h2⟩,h3.symm⟩⟩
def ind (b:Bool):Nat:=if b then 1 else 0
theorem qT {l:List Nat}(h:l.Nodup)(i:Nat):(l.map fun k=>ind (decide (i=k))).sum=ind (decide (i∈l)):=by
 induction l with
 | nil=>rfl
 | cons k l ih=>
  have hn:=List.nodup_cons.1 h
  rw[List.map_cons,List.sum_cons,ih hn.2]
  by_cases hk:i=k
  ·subst hk;simp[ind,hn.1]
  ·simp[ind,hk]
theorem mY {α:Type}(f g:α→Nat):∀l:List α,(l.map fun k=>f k+g k).sum=(l.map f).sum+(l.map g).sum
 | []=>rfl
 | x::l=>by simp[mY f g l];omega
theorem il {α:Type}{f g:α→Nat}:∀{l:List α},(∀x∈l,f x=g x)→(l.map f).sum=(l.map g).sum
 | [],_=>rfl
 | x::l,h=>by
  rw[List.map_cons,List.map_cons,List.sum_cons,List.sum_cons,h x (by simp),il fun y hy=>h y (by simp[hy])]
theorem qU {α β:Type}(f:α→β→Nat)(m:List β):∀l:List α,(l.map fun i=>(m.map fun k=>f i k).sum).sum=(m.map fun k=>(l.map fun i=>f i k).sum).sum
 | []=>by
  simp only[List.map_nil,List.sum_nil]
  induction m with
  | nil=>rfl
  | cons y m ih=>simpa using ih
 | x::l=>by
  rw[List.map_cons,List.sum_cons,qU f m l,← mY]
  simp
end Go.Mono
namespace Go.Mono
open Go Go.Proofs Go.RowKit
def elems (S:BS):List Nat:=(List.range 1024).filter fun i=>S.getLsbD i
theorem aH {S:BS}{i:Nat}:i∈elems S↔i<1024∧S.getLsbD i=true:=by simp[elems,List.mem_filter]
theorem qV:elems 0=[]:=by
 refine List.filter_eq_nil_iff.2 fun i _=>by simp
theorem yY (n k:Nat)(hk:k<n):List.range n=List.range k++k::(List.range (n - (k+1))).map (fun i=>k+1+i):=by
 have h1:List.range n=List.range (k+(1+(n - (k+1)))):=congrArg List.range (by omega)
 rw[h1,List.range_add,List.range_add,List.map_append,List.map_map]
 simp[Function.comp,Nat.add_assoc]
theorem qX {S:BS}{k:Nat}(h:bj S=some k):elems S=k::elems (del S k):=by
 obtain⟨hk,hb,h0⟩:=mX.1 h
 have hfit:cA (k:Int)=true:=cN.2 ⟨by omega,by omega⟩
 have hdel:∀i,(del S (k:Int)).getLsbD i=(S.getLsbD i && !decide (i=k)):=by
  intro i
  rw[del,if_pos hfit,BitVec.getLsbD_and,BitVec.getLsbD_not,Int.toNat_natCast,iV _ _ hk]
  by_cases hi:i<1024
  ·simp[hi]
  ·simp[hi,BitVec.getLsbD_of_ge S i (by omega)]
 unfold elems
 rw[yY 1024 k hk,List.filter_append,List.filter_append,List.filter_cons_of_pos (by simpa using hb),List.filter_cons_of_neg (by simp[hdel])]
 have z1:(List.range k).filter (fun i=>S.getLsbD i)=[]:=List.filter_eq_nil_iff.2 fun i hi=>by simpa using h0 i (List.mem_range.1 hi)
 have z2:(List.range k).filter (fun i=>(del S (k:Int)).getLsbD i)=[]:=List.filter_eq_nil_iff.2 fun i hi=>by simp[hdel,h0 i (List.mem_range.1 hi)]
 rw[z1,z2,List.nil_append,List.nil_append]
 refine congrArg (k :: ·) (List.filter_congr fun i hi=>?_)
 obtain⟨j,_,rfl⟩:=List.mem_map.1 hi
 rw[hdel]
 simp
 omega
theorem yZ {S:BS}(h:bj S=none):elems S=[]:=by rw[jg.1 h];exact qV
def dz (b:Nat):Value:=.func (.func 58) #[] #[.pointer (some ⟨b,0,none⟩)]
def bW (n:Nat)(S:BS):VA:=⟨fun v w=>∃b,n≤b∧v=dz b∧Blk w b (au S) 68,fun v w w' e ⟨b,h1,h2,h3⟩=>⟨b,h1,h2,h3.ext e⟩⟩

theorem cm (S:BS)(W:World):Calls Tryz.prog 23 #[ac S] W (Post (bW W.heap.size S) W):=by
 refine eN [ac S] [E (ac S)] Tryz.func23 Tryz.ntmps23 ?_ fun a hf=>?_
 rotate_left
 rotate_right
 ·exact arg1 rfl
 have e:=Ext.rfl' W
 refine seq <| ae <| tB hf rfl fun a b1 w v1 hv1 e' hb1 hs1 B1 hf=>?_
 have hle1:=Nat.le_trans e.size (Nat.le_of_eq hb1.symm)
 replace e:=e.tr e'
 refine tA hf rfl fun a hf=>aa ?_
 subst hv1
 rw[fp] at B1
 refine seq <| rgN 1 hf <| st (xY (vs:=fun _=>.pointer (some ⟨b1,0,none⟩)) (by intro x hx;simp at hx;subst hx;rfl)) ?_
 refine en fun a w e' hf=>?_
 obtain⟨e,B1⟩:=up2 e' e B1
 refine tA hf rfl fun a hf=>aa <| ai (ap rfl hf rfl ?_)
 rintro v rfl
 exact⟨_,rfl,e,b1,hle1,by simp[dz],B1⟩

def aS (B b:Nat):Prop:=B≤b∧b<B+3
structure Kp (B:Nat)(w w':World):Prop where
 os:w'.os=w.os
 tape:w'.tape=w.tape
 output:w'.output=w.output
 size:w.heap.size≤w'.heap.size
 same:∀b,b<w.heap.size→¬aS B b→w'.heap[b]?=w.heap[b]?
structure Kh (B:Nat)(w w':World):Prop where
 size:w.heap.size≤w'.heap.size
 same:∀b,b<w.heap.size→aS B b→w'.heap[b]?=w.heap[b]?
theorem Kp.ext {B:Nat}{w w':World}(e:Ext w w'):Kp B w w':=⟨e.os,e.tape,e.output,e.size,fun b hb _=>e.block b hb⟩
theorem Kp.gr {B b:Nat}{w w':World}(h:w.grownBy w' (some b))(hb:aS B b):Kp B w w':=
 ⟨h.os,h.tape,h.output,h.size,fun x hx hh=>h.block x hx (fun e=>by cases e;exact hh hb)⟩
theorem Kp.put {B b:Nat}{w:World}{o:Obj}(hb:aS B b):Kp B w (w.putObj b o):=
 ⟨rfl,rfl,rfl,by simp,fun x hx hh=>World.putObj_heap_other (fun e=>by subst e;exact hh hb)⟩
theorem Kh.rfl' (B:Nat)(w:World):Kh B w w:=⟨Nat.le_refl _,fun _ _ _=>rfl⟩
theorem Kh.tr {B:Nat}{a b c:World}(h:Kh B a b)(k:Kh B b c):Kh B a c:=⟨Nat.le_trans h.size k.size,fun x hx hh=>(k.same x (Nat.lt_of_lt_of_le hx h.size) hh).trans (h.same x hx hh)⟩
theorem Kh.ext {B:Nat}{w w':World}(e:Ext w w'):Kh B w w':=⟨e.size,fun b hb _=>e.block b hb⟩
instance {B:Nat}{a w w':World}:Ug w w' (Kh B a w) (Kh B a w'):=⟨fun e h=>h.tr (Kh.ext e)⟩
theorem Kh.gr {B b:Nat}{w w':World}(h:w.grownBy w' (some b))(hb:¬aS B b):Kh B w w':=⟨h.size,fun x hx hh=>h.block x hx (fun e=>by cases e;exact hb hh)⟩
theorem Ext.kp {B:Nat}{W w w':World}(e:Ext W w)(k:Kp B w w')(h:W.heap.size≤B):Ext W w':=
 Below.trans e ⟨k.os,k.tape,k.output,k.size,fun b hb=>k.same b (Nat.lt_of_lt_of_le hb e.size) (fun hh=>by have:=hh.1;omega)⟩
theorem Blk.kp {B b:Nat}{w w':World}{cs:Array Value}{t:TypeId}(h:Blk w b cs t)(k:Kp B w w')(hb:¬aS B b):Blk w' b cs t:=(k.same b h.lt hb).trans h
theorem Tab.kp {B:Nat}{w w':World}(h:Tab w)(k:Kp B w w')(hB:0<B):Tab w':=fun i hi=>
 (World.cell?_of_block (k.same 0 h.lt (fun hh=>by have:=hh.1;omega))).trans (h i hi)
theorem qY {P:Program}{L:Env}{ty:TypeId}{pos:String}{aft:Array Edge}{r:Option Nat}{ds:List Deferred}{ops:Array Oper}{rest:List Oper}{Q:Exit→Act→World→Prop}{n:Nat}{a:Act}{w:World}{x y:Operand}{tys:Array TypeId}{d l:Nat}{v:Value}
  {R:Value→World→Prop} (hf:FrD n ds a w L) (hx:opd L x=some (E (.func (.yield l) #[] #[]))) (hy:opd L y=some (E v))
  (h:∃fn tmps assign body,(Instr.yield l #[v]).run P w=.ok (.round l fn tmps assign body) w∧RoundIn Fence.wide 0 P l fn tmps assign body w (fun e w2=>∃u,e=.returned u∧R u w2))
  (k:∀u w2,R u w2→wpListIn (FW r) 0 P ops Q rest (a.put (some d) u) w2) :
  wpListIn (FW r) 0 P ops Q (⟨some d,.call ⟨.value x,#[y],tys⟩,ty,pos,aft,none⟩::rest) a w:=
 wpListIn_plain rfl fun K hK=>by
  obtain⟨fn,tmps,assign,body,hrun,hR⟩:=h
  have hxv:a.eval x=.func (.yield l) #[] #[]:=hf.opd x _ hx
  have hyv:a.eval y=v:=hf.opd y _ hy
  refine OpR.wp (R:=R) ?_ (fun u w2 hu=>hK _ _ (k u w2 hu))
  simp[OpR,execOp,resolve,hxv,hyv,Deferred.ofValue,invoke,hrun]
  exact hR
theorem za (S:BS)(l b B0:Nat)(W:World)(I:List Nat→World→Prop)(X:World→Prop)(hT:Tab W)(hb:Blk W b (au S) 68)(hB:b<B0)(hBW:B0≤W.heap.size)(hW3:W.heap.size<B0+3)(h0:I [] W)
  (hI:∀(s:List Nat) (w w':World),I s w→Kp B0 w w'→W.heap.size≤w.heap.size→(∀x,x<W.heap.size→w'.heap[x]?=w.heap[x]?)→I s w')
  (hX:∀w w',X w→Ext w w'→X w')
  (hE:∀s w,I s w→Tab w)
  (hy:∀(s:List Nat) (x:Nat) (rest:List Nat) (w:World),elems S=s++x::rest→I s w→W.heap.size<w.heap.size→∃fn tmps assign body,(Instr.yield l #[Mono.I x]).run Tryz.prog w=.ok (.round l fn tmps assign body) w ∧
   RoundIn Fence.wide 0 Tryz.prog l fn tmps assign body w (fun e w2=>∃u,e=.returned u∧((u=.bool true∧I (s++[x]) w2∧w.heap.size≤w2.heap.size∧w2.heap[W.heap.size]?=w.heap[W.heap.size]?)∨(u=.bool false∧X w2)))) :
  Calls Tryz.prog 58 #[.func (.yield l) #[] #[],.pointer (some ⟨b,0,none⟩)] W (fun e w'=>e=.returned (.tuple #[])∧(I (elems S) w'∨X w')):=by
 refine eN [.func (.yield l) #[] #[],.pointer (some ⟨b,0,none⟩)] [E (.func (.yield l) #[] #[]),E (.pointer (some ⟨b,0,none⟩))] Tryz.func58 Tryz.ntmps58 ?_ fun a hf=>?_
 rotate_left
 dsimp only[params,Nat.reduceAdd] at hf
 rotate_right
 ·exact arg2 rfl rfl
 have e:=Ext.rfl' W
 refine seq <| ae <| vz T68 hf rfl hb (aZ _) (by decide) fun a hf=>tL I68 hf fun a b3 w e' hb3 hs3 B3 hf=>?_
 obtain⟨e,hb⟩:=up2 e' e hb
 haveI hinr:∀G0,InR (GB W G0) (some b3):=fun G0=>InR.gb (by omega)
 refine az T68 hf rfl rfl (aP _) B3 rfl (rfl) fun w hg hsz B3 hf=>?_
 obtain⟨e,hb⟩:=gr2 hg e hb
 refine aa ?_
 have k0:I [] w:=hI [] W w h0 (Kp.ext ⟨e.os,e.tape,e.output,e.size,e.block⟩) (Nat.le_refl _) (fun x hx=>e.block x hx)
 obtain rfl:b3=W.heap.size:=by omega
 have hlt3:W.heap.size<w.heap.size:=by omega
 have hT:=hE _ _ k0
 refine seq <| rgN 5 hf <| st (ldW T68 rfl (by assumption) rfl) <| st (an fh rfl (fun v w' e' h=>by cases h;exact fx S w' (hT.ext e'))) ?_
 refine st (mv rfl) <| st (aO rfl rfl) <| st (aO rfl rfl) <| en fun a w e' hf=>?_
 replace hT:=hE _ _ k0
 replace k0:=hI _ _ _ k0 (Kp.ext e') (by omega) (fun x hx=>e'.block x (by omega))
 replace hlt3:=Nat.lt_of_lt_of_le hlt3 e'.size
 replace B3:=B3.ext e'
 refine tA hf rfl fun a hf=>tA hf rfl fun a hf=>aa ?_
 replace hf:=hf.keep [0,3,4,5]
 refine blk (aJ (fun r a w=>∃(T:BS) (s:List Nat),r=(elems T).length∧elems S=s++elems T∧Fr 25 a w [(0,E (.func (.yield l) #[] #[])),(3,E (.pointer (some ⟨W.heap.size,0,none⟩))),(4,E (Mono.I ((bj T).getD 0:Nat))),(5,E (B (bj T).isSome))] ∧
  I s w∧Blk w W.heap.size (au T) 68∧W.heap.size<w.heap.size) (elems S).length ⟨S,[],Eq.refl (elems S).length,(List.nil_append _).symm,hf,k0,B3,hlt3⟩ ?_)
 rintro r a w ⟨T,s,hr,hs,hf,k0,B3,hlt3⟩
 cases hm:bj T with
 | none=>
  rw[hm] at hf
  repeat refine seq ?_
  refine rgN 1 hf <| st (mv rfl) <| en fun a w e' hf=>?_
  replace hT:=hE _ _ k0
  replace k0:=hI _ _ _ k0 (Kp.ext e') (by omega) (fun x hx=>e'.block x (by omega))
  replace hlt3:=Nat.lt_of_lt_of_le hlt3 e'.size
  replace B3:=B3.ext e'
  refine aa <| ifc hf rfl (fun h=>by cases h) (fun _=>aG ?_)
  simp only[Exit.then,Exit.inBlock,↓reduceIte]
  rw[yZ hm,List.append_nil] at hs
  exact dG rfl hf ⟨rfl,.inl (hs▸k0)⟩
 | some k=>
  rw[hm] at hf
  have he:=qX hm
  repeat refine seq ?_
  refine rgN 1 hf <| st (mv rfl) <| en fun a w e' hf=>?_
  replace hT:=hE _ _ k0
  replace k0:=hI _ _ _ k0 (Kp.ext e') (by omega) (fun x hx=>e'.block x (by omega))
  replace hlt3:=Nat.lt_of_lt_of_le hlt3 e'.size
  replace B3:=B3.ext e'
  refine aa <| ifc hf rfl (fun _=>ak ?_) (fun h=>by cases h)
  refine seq <| blk ?_
  repeat refine seq ?_
  refine rgN 2 hf <| st (mv rfl) <| st (mv rfl) <| en fun a w e' hf=>?_
  replace hT:=hE _ _ k0
  replace k0:=hI _ _ _ k0 (Kp.ext e') (by omega) (fun x hx=>e'.block x (by omega))
  replace hlt3:=Nat.lt_of_lt_of_le hlt3 e'.size
  replace B3:=B3.ext e'
  refine qY hf rfl rfl (hy s k (elems (del T k)) w (by rw[hs,he]) k0 hlt3) fun u w2 hu=>?_
  rcases hu with ⟨rfl,kI,hsz,hrb⟩|⟨rfl,kX⟩
  ·replace hf:=(hf.pure w2).put (d:=some 20) (Ext.rfl' _) (by rintro _ ⟨⟩;decide) (A:=E (.bool true)) rfl
   dsimp only[push] at hf
   replace k0:=kI
   replace B3:Blk w2 W.heap.size (au T) 68:=hrb.trans B3
   replace hlt3:=Nat.lt_of_lt_of_le hlt3 hsz
   refine tP hf (bA rfl) fun a w e' hf=>?_
   replace hT:=hE _ _ k0
   replace k0:=hI _ _ _ k0 (Kp.ext e') (by omega) (fun x hx=>e'.block x (by omega))
   replace hlt3:=Nat.lt_of_lt_of_le hlt3 e'.size
   replace B3:=B3.ext e'
   refine aa <| ifc hf rfl (fun h=>by cases h) (fun _=>ak ?_)
   replace hf:=hf.kp [0,3,4]
   refine rgN 2 hf <| st (ldW T68 rfl (by assumption) rfl) <| st (mv rfl) <| en fun a w e' hf=>?_
   replace hT:=hE _ _ k0
   replace k0:=hI _ _ _ k0 (Kp.ext e') (by omega) (fun x hx=>e'.block x (by omega))
   replace hlt3:=Nat.lt_of_lt_of_le hlt3 e'.size
   replace B3:=B3.ext e'
   refine tP hf (ar fi rfl rfl (fun v u w' e' h h'=>by cases h;cases h';exact fq T k w')) fun a w e' hf=>?_
   replace hT:=hE _ _ k0
   replace k0:=hI _ _ _ k0 (Kp.ext e') (by omega) (fun x hx=>e'.block x (by omega))
   replace hlt3:=Nat.lt_of_lt_of_le hlt3 e'.size
   replace B3:=B3.ext e'
   refine az T68 hf rfl rfl (aP _) B3 rfl (rfl) fun w hg hsz B3 hf=>?_
   replace hT:=hE _ _ k0
   replace k0:=hI _ _ _ k0 (Kp.gr hg ⟨hBW,hW3⟩) (by omega) (fun x hx=>hg.block x (by omega) (by simp;omega))
   replace hlt3:=Nat.lt_of_lt_of_le hlt3 hg.size
   refine aa ?_
   replace hf:=hf.keep [0,3]
   have hT:=hE _ _ k0
   refine rgN 5 hf <| st (ldW T68 rfl (by assumption) rfl) <| st (an fh rfl (fun v w' e' h=>by cases h;exact fx _ w' (hT.ext e'))) ?_
   refine st (mv rfl) <| st (aO rfl rfl) <| st (aO rfl rfl) <| en fun a w e' hf=>?_
   replace hT:=hE _ _ k0
   replace k0:=hI _ _ _ k0 (Kp.ext e') (by omega) (fun x hx=>e'.block x (by omega))
   replace hlt3:=Nat.lt_of_lt_of_le hlt3 e'.size
   replace B3:=B3.ext e'
   refine tA hf rfl fun a hf=>tA hf rfl fun a hf=>aa ?_
   replace hf:=hf.keep [0,3,4,5]
   refine⟨(elems (del T k)).length,by rw[hr,he];exact Nat.lt_succ_self _,del T k,s++[k],Eq.refl (elems (del T k)).length,by rw[hs,he,List.append_assoc];exact congrArg (s ++ ·) (List.singleton_append).symm,hf,k0,B3,hlt3⟩
  ·replace hf:=(hf.pure w2).put (d:=some 20) (Ext.rfl' _) (by rintro _ ⟨⟩;decide) (A:=E (.bool false)) rfl
   refine tP hf (bA rfl) fun a w e' hf=>?_
   replace kX:=hX _ _ kX e'
   refine aa <| ifc hf rfl (fun _=>?_) (fun h=>by cases h)
   refine ai ?_
   simp only[Exit.then,Exit.inBlock]
   exact vx rfl hf ⟨rfl,.inr kX⟩
def Rd (J:List Nat→World→Prop)(X:Exit→World→Prop)(s:List Nat)(x B:Nat)(w3:World):Exit→Act→World→Prop
 | .normal,_,w=>J (s++[x]) w∧Kh B w3 w
 | .ret,_,w=>X .ret w∧Kh B w3 w
 | .exit id,_,w=>X (.exit id) w∧Kh B w3 w
 | _,_,_=>False

def jh:Exit→Option Code
 | .ret=>some .ret
 | .exit id=>some (.exit id)
 | _=>none

section
variable {g:Operand}{p:Nat}{assign body:Code}{Q:Exit→Act→World→Prop}{n b:Nat}{ds:List Deferred}{a:Act}{w:World}{S:BS}{L:Env}{r:Option Nat}
theorem cq {f:FuncId}{fn:Func}{c:Code}{n:Nat}{args:List Value}{As:List VA}{w:World}{R:Ending→World→Prop}(hf:Tryz.prog.funcs[f]?=some fn)(hb:fn.body=some c)(hn:fn.ntmps=n)(hl:args.length≤n)
  (hA:∀(i:Nat) (A:VA),As[i]?=some A→A.p (args.getD i undef) w) (h:∀a,Fr n a w (params 0 As)→c.wpIn (FW none) 0 Tryz.prog (bodyPostM (FW none) 0 Tryz.prog fn R) a w) (hlen:As.length≤args.length):Calls Tryz.prog f args.toArray w R:=by
 refine (callsIn_wide (n:=0)).1 (callsIn_of_wp_marks (F:=Fence.wide) hf hb trivial (h _ ⟨?_,rfl,fun t A ht=>?_⟩))
 ·simp[hn];omega
 ·obtain⟨_,h2⟩:=mb As 0 t A ht
  rw[Nat.sub_zero] at h2
  have hlt:t<As.length:=(List.getElem?_eq_some_iff.1 h2).1
  have:=hA t A h2
  have e:(args.toArray++Array.replicate (fn.ntmps - args.toArray.size) undef).getD t undef=args.getD t undef:=by
   have:t<args.length:=by omega
   simp[Array.getElem?_append,this]
  simp only[Act.eval,e]
  exact this
def bq (l:List Nat):List Deferred:=l.map fun D=>{ target:=.collected D,args := #[] }
def Ds (l:List Nat)(w:World):Prop:=l.Nodup∧∀D∈l,w.heap[D]?=some (.deferred (some []))
def shut:List Nat→World→World
 | [],w=>w
 | D::l,w=>shut l (w.putObj D (.deferred none))
theorem fz:∀(l:List Nat) (w:World) (b:Nat),b ∉ l→(shut l w).heap[b]?=w.heap[b]?
 | [],w,b,_=>rfl
 | D::l,w,b,h=>by
  rw[shut,fz l _ b (fun h'=>h (by simp[h'])),World.putObj_heap_other (fun e=>h (by simp[e]))]
theorem mZ:∀(l:List Nat) (w:World),(shut l w).os=w.os∧(shut l w).tape=w.tape∧(shut l w).output=w.output∧(shut l w).heap.size=w.heap.size
 | [],w=>⟨rfl,rfl,rfl,rfl⟩
 | D::l,w=>by
  obtain⟨h1,h2,h3,h4⟩:=mZ l (w.putObj D (.deferred none))
  exact⟨h1,h2,h3,by rw[shut,h4];simp⟩
theorem Ext.shut {W w:World}{l:List Nat}(e:Ext W w)(h:∀D∈l,W.heap.size≤D):Ext W (Mono.shut l w):=by
 obtain⟨h1,h2,h3,h4⟩:=mZ l w
 exact Below.trans e ⟨h1,h2,h3,by rw[h4];exact Nat.le_refl _,fun b hb=>fz l w b (fun hm=>by have:=h b hm;omega)⟩
theorem gL {fn:Func}{tmps:Array Value}{R:Ending→World→Prop}{v:Value}:∀(l:List Nat) (w:World),Ds l w→(results fn tmps).run Tryz.prog (shut l w)=.ok v (shut l w)→R (.returned v) (shut l w) →
  LeavesInM (FW none) 0 Tryz.prog fn tmps R (bq l) .returning w
 | [],w,_,hr,hR=>⟨v,hr,hR⟩
 | D::l,w,hD,hr,hR=>by
  have h1:=hD.2 D (by simp)
  have hnd:=List.nodup_cons.1 hD.1
  refine⟨by simp,.inl ⟨D,_,rfl,run_takeDeferred h1,gL l _ ⟨hnd.2,fun d hd=>?_⟩ hr hR⟩⟩
  rw[World.putObj_heap_other (fun e=>by subst e;exact hnd.1 hd)]
  exact hD.2 d (by simp[hd])
end

theorem Kp.chg {B:Nat}{w w':World}(k:Kp B w w'):Chg (aS B) w w':=⟨k.os,k.tape,k.output,k.size,fun b hb hh=>k.same b hb hh⟩
theorem eb (l:List Nat)(w:World):Chg (fun c=>c∈l) w (shut l w):=by
 obtain⟨h1,h2,h3,h4⟩:=mZ l w
 exact⟨h1,h2,h3,by rw[h4];exact Nat.le_refl _,fun b hb hS=>fz l w b hS⟩
theorem Tab.gr {w w':World}{b:Nat}(h:Tab w)(hg:w.grownBy w' (some b))(hb:0<b):Tab w':=fun i hi=>(World.cell?_of_block (hg.block 0 h.lt (by simp;omega))).trans (h i hi)
instance {w w':World}{b:Nat}:Gg b w w' (Tab w) (0<b) (Tab w'):=⟨fun g s h=>h.gr g s⟩
theorem Tab.ch {w w':World}{S:Nat→Prop}(h:Tab w)(c:Chg S w w')(hS:¬S 0):Tab w':=fun i hi=>(World.cell?_of_block (c.block 0 h.lt hS)).trans (h i hi)
theorem Tab.gro {w w':World}{row:Option Nat}(h:Tab w)(hg:w.grownBy w' row)(hb:∀b,row=some b→0<b):Tab w':=fun i hi=>(World.cell?_of_block (hg.block 0 h.lt (fun e=>by have:=hb 0 e.symm;omega))).trans (h i hi)
theorem Kh.gro {B:Nat}{w w':World}{row:Option Nat}(hg:w.grownBy w' row)(h:∀b,row=some b→¬aS B b):Kh B w w':=⟨hg.size,fun x hx hh=>hg.block x hx (fun e=>h x e.symm hh)⟩
theorem zd {v v':Value}{n B:Nat}(h:v'.ownBlock=v.ownBlock∨v'.ownBlock=some n)(hv:∀g,v.ownBlock=some g→¬aS B g)(hn:B+3≤n):∀g,v'.ownBlock=some g→¬aS B g:=fun g hg=>by
 rcases h with h|h
 ·rw[h] at hg;exact hv g hg
 ·rw[h] at hg
  cases hg
  intro hh
  have:=hh.2
  omega
theorem Chg.tr2 {S T:Nat→Prop}{W w w':World}(h:Chg S W w)(k:Chg T w w')(hT:∀b,T b→S b∨W.heap.size≤b):Chg S W w':=
 ⟨k.os.trans h.os,k.tape.trans h.tape,k.output.trans h.output,Nat.le_trans h.size k.size,fun b hb hS=>(k.block b (Nat.lt_of_lt_of_le hb h.size) (fun ht=>(hT b ht).elim hS (fun h=>by omega))).trans (h.block b hb hS)⟩

theorem bX (S:BS):(elems S).length≤1024:=by
 have:=List.length_filter_le (fun i=>S.getLsbD i) (List.range 1024)
 simpa[elems] using this

theorem ze {P:Program}{w0:World}{L:Env}{dst:Option Tmp}{ty:TypeId}{pos:String}{aft:Array Edge}{g:Option (Nat×Bool)}{x y:Operand}{t yt e:TypeId}{S T:BS}(ht:P.underlying t=some (.array 16 e))(he:P.underlying e=some (.int .u64))(hs:TI P e false 1)(hm:P.eqGuardType P.depth t=false)(hx:opd L x=some (E (ac S)))(hy:opd L y=some (E (ac T))) :
  OpC P w0 L ⟨dst,.binOp .neq t x y yt,ty,pos,aft,g⟩ (E (.bool (!(S==T)))):=
 oV hx hy (fun w=>iW _ _ _ _ _ _ hm w) rfl fun w _=>by
  rw[← kc]
  exact kb ht he hs 9998 (am S) (am T) w
theorem qZ (S:BS)(n:Int)(k:Nat)(hk:k<1024):(ins S n).getLsbD k=(S.getLsbD k || decide (n=(k:Int))):=by
 unfold ins
 by_cases hf:cA n=true
 ·have h:=cN.1 hf
  rw[if_pos hf,BitVec.getLsbD_or,iV _ _ (by omega)]
  congr 1
  rw[decide_eq_decide];omega
 ·rw[if_neg hf]
  have:¬n=(k:Int):=fun h=>hf (cN.2 (by omega))
  simp[this]
theorem ra (k:Nat)(hk:k<1024):∀(l:List Int) (S:BS),(l.foldl ins S).getLsbD k=(S.getLsbD k || decide ((k:Int)∈l))
 | [],S=>by simp
 | x::l,S=>by
  rw[List.foldl_cons,ra k hk l,qZ _ _ _ hk,Bool.or_assoc]
  congr 1
  by_cases h1:x=(k:Int)
  ·simp[h1]
  ·have:¬(k:Int)=x:=Ne.symm h1
   simp[h1,this]
theorem zf {S T:BS}(h:∀k,k<1024→(S.getLsbD k=true↔T.getLsbD k=true)):S=T:=
 BitVec.eq_of_getLsbD_eq fun k hk=>Bool.eq_iff_iff.2 (h k hk)
theorem Ds.ne {D:List Nat}{w:World}(h:Ds D w){b:Nat}{cs:Array Value}{t:TypeId}(hb:Blk w b cs t):¬b∈D:=fun hm=>by
 have h1:=h.2 b hm
 unfold Blk at hb
 rw[hb] at h1
 cases h1
theorem Ds.lt {D:List Nat}{w:World}(h:Ds D w){b:Nat}(hm:b∈D):b<w.heap.size:=(Array.getElem?_eq_some_iff.1 (h.2 b hm)).1
theorem Ds.ch {D:List Nat}{w w':World}{S:Nat→Prop}(h:Ds D w)(c:Chg S w w')(hS:∀d∈D,¬S d):Ds D w':=⟨h.1,fun d hd=>(c.block d (h.lt hd) (hS d hd)).trans (h.2 d hd)⟩
theorem Ds.ext {D:List Nat}{w w':World}(h:Ds D w)(e:Ext w w'):Ds D w':=⟨h.1,fun d hd=>(e.block d (h.lt hd)).trans (h.2 d hd)⟩
instance {D:List Nat}{w w':World}:Ug w w' (Ds D w) (Ds D w'):=⟨fun e h=>h.ext e⟩
theorem Ds.gr {D:List Nat}{w w':World}{b:Nat}(h:Ds D w)(hg:w.grownBy w' (some b))(hb:¬b∈D):Ds D w':=⟨h.1,fun d hd=>(hg.block d (h.lt hd) (fun he=>hb (by cases he;exact hd))).trans (h.2 d hd)⟩
theorem Ds.nil (w:World):Ds [] w:=⟨List.nodup_nil,fun d hd=>by cases hd⟩
theorem Ds.cons {D:List Nat}{w:World}{d:Nat}(h:Ds D w)(hd:w.heap[d]?=some (.deferred (some [])))(hn:¬d∈D):Ds (d::D) w:=
 ⟨List.nodup_cons.2 ⟨hn,h.1⟩,fun x hx=>by rcases List.mem_cons.1 hx with rfl|hx;exact hd;exact h.2 x hx⟩
theorem Blk.shut {w:World}{b:Nat}{cs:Array Value}{t:TypeId}{D:List Nat}(h:Blk w b cs t)(hb:¬b∈D):Blk (shut D w) b cs t:=(fz D w b hb).trans h
theorem zg {fn:Func}{t u s:Nat}{R:Ending→World→Prop}{n:Nat}{a:Act}{w:World}{b:Nat}{cs:Array Value}{bt:TypeId}{L:Env}{D:List Nat}(hr:fn.results = #[.cell t u])(ht:TI Tryz.prog u true s)(hf:FrD n (bq D) a w L)(h:aC L t=some (E (.pointer (some ⟨b,0,none⟩))))
  (hb:Blk w b cs bt) (hs:cs.size=s) (hD:Ds D w) (hR:R (.returned (.agg cs)) (shut D w)):bodyPostM (FW none) 0 Tryz.prog fn R .ret a w:=by
 have hv:a.tmps.getD t undef=.pointer (some ⟨b,0,none⟩):=hf.val t _ h
 obtain⟨d,h1,h2⟩:=ht.u
 show LeavesInM _ _ _ _ _ _ _ _ _
 rw[hf.defers]
 exact gL D w hD (results_cell_row hr a.tmps (shut D w) b bt cs (0,0) d hv (hb.shut (hD.ne hb)) h1 (by cases d <;> simp_all) (by rw[ht.s,hs])) hR
theorem gf {fn:Func}{t:Nat}{R:Ending→World→Prop}{n:Nat}{a:Act}{w:World}{v:Value}{L:Env}{D:List Nat}(hr:fn.results = #[.tmp t])(hf:FrD n (bq D) a w L)(h:aC L t=some (E v))
  (hD:Ds D w) (hR:R (.returned v) (shut D w)):bodyPostM (FW none) 0 Tryz.prog fn R .ret a w:=by
 have hv:a.tmps.getD t undef=v:=hf.val t _ h
 show LeavesInM _ _ _ _ _ _ _ _ _
 rw[hf.defers]
 exact gL D w hD (by rw[← hv];exact results_tmp hr _ _ _) hR
theorem gh {fn:Func}{R:Ending→World→Prop}{n:Nat}{a:Act}{w:World}{L:Env}{D:List Nat}(hr:fn.results = #[])(hf:FrD n (bq D) a w L)(hD:Ds D w)(hR:R (.returned (.tuple #[])) (shut D w)):bodyPostM (FW none) 0 Tryz.prog fn R .normal a w:=by
 show LeavesInM _ _ _ _ _ _ _ _ _
 rw[hf.defers]
 exact gL D w hD (results_none hr _ _ _) hR
end Go.Mono
namespace Go.Mono
open Go Go.Proofs Go.RowKit Go.Gr
def ev (l:List VT)(n:Int):Int:=match l.findIdx? (fun y=>decide (y.1=n)) with
 | some i=>(i:Int)
 | none => -1
def na (y:ET)(u v:Int):Bool:=(y.1.1==u&&y.1.2==v) || (y.1.1==v&&y.1.2==u)
def eT (l:List ET)(u v:Int):Int:=match l.findIdx? (fun y=>na y u v) with
 | some i=>(i:Int)
 | none => -1
theorem rb {α:Type}{p:α→Bool}{l:List α}{k:Nat}{x:α}(h:∀y∈l.take k,p y=false)(hx:l[k]?=some x)(hp:p x=true):l.findIdx? p=some k:=by
 rw[List.findIdx?_eq_some_iff_getElem]
 obtain⟨hk,rfl⟩:=List.getElem?_eq_some_iff.1 hx
 refine⟨hk,hp,fun j hj=>?_⟩
 have:=h (l[j]'(by omega)) (by rw[List.mem_take_iff_getElem];exact⟨j,by omega,rfl⟩)
 simp[this]
theorem rc {α:Type}{p:α→Bool}{l:List α}(h:∀y∈l.take l.length,p y=false):l.findIdx? p=none:=by
 rw[List.findIdx?_eq_none_iff]
 intro y hy
 rw[List.take_length] at h
 simp[h y hy]
theorem kn {α:Type}{p:α→Bool}{l:List α}{k:Nat}{x:α}(h:∀y∈l.take k,p y=false)(hx:l[k]?=some x)(hp:p x=false):∀y∈l.take (k+1),p y=false:=by
 rw[cB hx]
 intro y hy
 rcases List.mem_append.1 hy with h1|h1
 ·exact h y h1
 ·rw[List.mem_singleton] at h1;rw[h1];exact hp
theorem zh {G:Nat→Prop}(g:GT)(n:Int)(v:Value)(W:World)(h:(Dv gtE G g).p v W)(hl:g.1.length≤100000) :
  Calls Tryz.prog 95 #[v,I n] W (Post (E (I (ev g.1 n))) W):=by
 refine eN [v,I n] [Dv gtE G0 g,E (I n)] Tryz.func95 Tryz.ntmps95 ?_ fun a hf=>?_
 rotate_left
 rotate_right
 ·exact arg2 (Dv.weak h fun b _ hb=>hb.elim) rfl
 have e:=Ext.rfl' W
 refine seq <| ae <| fX hf rfl (by decide) (fun _ h=>h.elim) fun a w e' hf=>?_
 replace e:=e.tr e'
 refine tA hf rfl fun a hf=>aa ?_
 repeat refine seq ?_
 refine ae <| tA hf rfl fun a hf=>aa ?_
 replace hf:=hf.keep [1,2,4,5]
 refine blk (aJ (fun r0 a w=>∃(k:Nat) ,r0=g.1.length - k∧k≤g.1.length∧Fr 22 a w [(1,E (I n)),(2,Dv (ptE gtE) G0 (some g)),(4,E (I 0)),(5,E (I k))]∧Ext W w∧(∀y∈g.1.take k,decide (y.1=n)=false)) g.1.length ⟨0,rfl,by omega,hf,e,(by simp)⟩ ?_)
 rintro r0 a w ⟨k,rfl,hk,hf,e,hn⟩
 repeat refine seq ?_
 refine rgN 5 hf <| st (mv rfl) <| st (aB U26 rfl T23 (by decide) (Fld.fst Fld.refl) (isR rfl)) <| st (ldD T23 (isR rfl)) <| st (aF U23 (isR rfl)) <| st (lss rfl rfl) <| en fun a w e' hf=>?_
 replace e:=e.tr e'
 refine aa <| ifc hf rfl (fun hc=>ak ?_) (fun hc=>aG ?_)
 rotate_left
 rotate_left
 ·have hlt:k<g.1.length:=by have:=of_decide_eq_true hc;(try dsimp only at this);omega
  replace hf:=hf.keep [1,2,4,5]
  refine seq <| blk ?_
  have hg:=List.getElem?_eq_getElem hlt
  generalize g.1[k]=x at hg
  refine seq <| rgN 8 hf <| st (aB U26 rfl T23 (by decide) (Fld.fst Fld.refl) (isR rfl)) <| st (ldD T23 (isR rfl)) <| st (mv rfl) <| st (aL U23 S58 (isR rfl) rfl (by omega) (hg)) <| st (aB U58 rfl T3 (by decide) (Fld.fst Fld.refl) (isR rfl)) <| st (ldI T3 (isR rfl)) <| st (mv rfl) <| st (eql rfl rfl) <| en fun a w e' hf=>?_
  replace e:=e.tr e'
  refine aa <| ifc hf rfl (fun hb=>?_) (fun hb=>?_)
  ·refine seq <| rgN 1 hf <| st (mv rfl) <| en fun a w e' hf=>?_
   replace e:=e.tr e'
   refine tA hf rfl fun a hf=>aa <| ai <| ap rfl hf rfl ?_
   rintro _ rfl
   exact⟨_,rfl,e,(congrArg I (by rw[ev,rb hn hg (by simpa using hb)]))⟩
  ·refine ak <| rgN 2 hf <| st (mv rfl) <| st ((add rfl rfl (by omega)).eq (congrArg (Value.int .i64) (show (k:Int)+1=((k+1:Nat):Int) from rfl))) <| en fun a w e' hf=>?_
   replace e:=e.tr e'
   refine tA hf rfl fun a hf=>aa ?_
   replace hf:=hf.keep [1,2,4,5]
   refine⟨_,?_,k+1,rfl,by omega,hf,e,?_⟩
   ·omega
   exact kn hn hg (by simpa using hb)
 ·obtain rfl:k=g.1.length:=by have:=of_decide_eq_false hc;(try dsimp only at this);omega
  refine seq <| ae <| tA hf rfl fun a hf=>aa <| ai <| ap rfl hf rfl ?_
  rintro _ rfl
  exact⟨_,rfl,e,(congrArg I (by rw[ev,rc hn]))⟩
theorem rf {G:Nat→Prop}(g:GT)(m n:Int)(v:Value)(W:World)(h:(Dv gtE G g).p v W)(hl:g.2.length≤100000) :
  Calls Tryz.prog 50 #[v,I m,I n] W (Post (E (I (eT g.2 m n))) W):=by
 refine eN [v,I m,I n] [Dv gtE G0 g,E (I m),E (I n)] Tryz.func50 Tryz.ntmps50 ?_ fun a hf=>?_
 rotate_left
 rotate_right
 ·exact dS (Dv.weak h fun b _ hb=>hb.elim) rfl rfl
 have e:=Ext.rfl' W
 refine seq <| ae <| fX hf rfl (by decide) (fun _ h=>h.elim) fun a w e' hf=>?_
 replace e:=e.tr e'
 refine tA hf rfl fun a hf=>aa ?_
 repeat refine seq ?_
 refine ae <| tA hf rfl fun a hf=>aa ?_
 replace hf:=hf.keep [1,2,3,6,7]
 refine blk (aJ (fun r0 a w=>∃(k:Nat) ,r0=g.2.length - k∧k≤g.2.length∧Fr 54 a w [(1,E (I m)),(2,E (I n)),(3,Dv (ptE gtE) G0 (some g)),(6,E (I 0)),(7,E (I k))]∧Ext W w∧(∀y∈g.2.take k,na y m n=false)) g.2.length ⟨0,rfl,by omega,hf,e,(by simp)⟩ ?_)
 rintro r0 a w ⟨k,rfl,hk,hf,e,hn⟩
 repeat refine seq ?_
 refine rgN 5 hf <| st (mv rfl) <| st (aB U26 rfl T24 (by decide) (Fld.snd Fld.refl rfl) (isR rfl)) <| st (ldD T24 (isR rfl)) <| st (aF U24 (isR rfl)) <| st (lss rfl rfl) <| en fun a w e' hf=>?_
 replace e:=e.tr e'
 refine aa <| ifc hf rfl (fun hc=>ak ?_) (fun hc=>aG ?_)
 rotate_left
 rotate_left
 ·have hlt:k<g.2.length:=by have:=of_decide_eq_true hc;(try dsimp only at this);omega
  replace hf:=hf.keep [1,2,3,6,7]
  refine seq <| blk ?_
  have hg:=List.getElem?_eq_getElem hlt
  generalize g.2[k]=x at hg
  refine seq <| rgN 38 hf <| st (aB U26 rfl T24 (by decide) (Fld.snd Fld.refl rfl) (isR rfl)) <| st (ldD T24 (isR rfl)) <| st (mv rfl) <| st (aL U24 S61 (isR rfl) rfl (by omega) (hg)) <| st (aB U61 rfl T3 (by decide) (Fld.fst (Fld.fst Fld.refl)) (isR rfl)) <| st (ldI T3 (isR rfl)) <| st (mv rfl) <| st (eql rfl rfl) <| st (mv rfl) <| sgE rfl rfl (.k 3 rfl .n) (fun hgd=>aB U26 rfl T24 (by decide) (Fld.snd Fld.refl rfl) (isR rfl)) <| sgE rfl rfl (.c 24 rfl (fun h=>h) .n) (fun hgd=>ldD T24 (isR rfl)) <| sgE rfl rfl (.k 7 rfl .n) (fun hgd=>mv rfl) <| sgE rfl rfl (.c 25 rfl (fun h=>h) (.c 26 rfl (fun h=>h) .n)) (fun hgd=>aL U24 S61 (isR rfl) rfl rfl (hg)) <| sgE rfl rfl (.c 27 rfl (fun h=>h) .n) (fun hgd=>aB U61 rfl T3 (by decide) (Fld.fst (Fld.snd Fld.refl rfl)) (isR rfl)) <| sgE rfl rfl (.c 28 rfl (fun h=>h) .n) (fun hgd=>ldI T3 (isR rfl)) <| sgE rfl rfl (.k 2 rfl .n) (fun hgd=>mv rfl) <| sgE rfl rfl (.c 29 rfl (fun h=>h) (.c 30 rfl (fun h=>h) .n)) (fun hgd=>eql rfl rfl) <| st (bG rfl rfl (fun h=>by rw[h];rfl)) ?_
  refine st (mv rfl) <| sgE rfl rfl (.k 3 rfl .n) (fun hgd=>aB U26 rfl T24 (by decide) (Fld.snd Fld.refl rfl) (isR rfl)) <| sgE rfl rfl (.c 34 rfl (fun h=>h) .n) (fun hgd=>ldD T24 (isR rfl)) <| sgE rfl rfl (.k 7 rfl .n) (fun hgd=>mv rfl) <| sgE rfl rfl (.c 35 rfl (fun h=>h) (.c 36 rfl (fun h=>h) .n)) (fun hgd=>aL U24 S61 (isR rfl) rfl rfl (hg)) <| sgE rfl rfl (.c 37 rfl (fun h=>h) .n) (fun hgd=>aB U61 rfl T3 (by decide) (Fld.fst (Fld.fst Fld.refl)) (isR rfl)) <| sgE rfl rfl (.c 38 rfl (fun h=>h) .n) (fun hgd=>ldI T3 (isR rfl)) <| sgE rfl rfl (.k 2 rfl .n) (fun hgd=>mv rfl) <| sgE rfl rfl (.c 39 rfl (fun h=>h) (.c 40 rfl (fun h=>h) .n)) (fun hgd=>eql rfl rfl) <| sgE rfl rfl (.c 41 rfl (fun h=>h) .n) (fun hgd=>mv rfl) <| sgC rfl rfl (.k 3 rfl .n) (fun hgd=>aB U26 rfl T24 (by decide) (Fld.snd Fld.refl rfl) (isR rfl)) <| sgC rfl rfl (.c 43 rfl (fun h=>h) .n) (fun hgd=>ldD T24 (isR rfl)) <| sgC rfl rfl (.k 7 rfl .n) (fun hgd=>mv rfl) <| sgC rfl rfl (.c 44 rfl (fun h=>h) (.c 45 rfl (fun h=>h) .n)) (fun hgd=>aL U24 S61 (isR rfl) rfl rfl (hg)) <| sgC rfl rfl (.c 46 rfl (fun h=>h) .n) (fun hgd=>aB U61 rfl T3 (by decide) (Fld.fst (Fld.snd Fld.refl rfl)) (isR rfl)) <| sgC rfl rfl (.c 47 rfl (fun h=>h) .n) (fun hgd=>ldI T3 (isR rfl)) <| sgC rfl rfl (.k 1 rfl .n) (fun hgd=>mv rfl) <| sgC rfl rfl (.c 48 rfl (fun h=>h) (.c 49 rfl (fun h=>h) .n)) (fun hgd=>eql rfl rfl) <| sgE rfl rfl (.c 42 rfl (fun h=>h) (.k 50 rfl .n)) (fun hgd=>bG rfl rfl (fun h=>by rw[hgd,h];rfl)) ?_
  refine st (bO rfl rfl (fun h=>by rw[h];rfl)) ?_
  refine en fun a w e' hf=>?_
  replace e:=e.tr e'
  refine aa <| ifc hf rfl (fun hb=>?_) (fun hb=>?_)
  ·refine seq <| rgN 1 hf <| st (mv rfl) <| en fun a w e' hf=>?_
   replace e:=e.tr e'
   refine tA hf rfl fun a hf=>aa <| ai <| ap rfl hf rfl ?_
   rintro _ rfl
   exact⟨_,rfl,e,(congrArg I (by rw[eT,rb hn hg hb]))⟩
  ·refine ak <| rgN 2 hf <| st (mv rfl) <| st ((add rfl rfl (by omega)).eq (congrArg (Value.int .i64) (show (k:Int)+1=((k+1:Nat):Int) from rfl))) <| en fun a w e' hf=>?_
   replace e:=e.tr e'
   refine tA hf rfl fun a hf=>aa ?_
   replace hf:=hf.keep [1,2,3,6,7]
   refine⟨_,?_,k+1,rfl,by omega,hf,e,?_⟩
   ·omega
   exact kn hn hg hb
 ·obtain rfl:k=g.2.length:=by have:=of_decide_eq_false hc;(try dsimp only at this);omega
  refine seq <| ae <| tA hf rfl fun a hf=>aa <| ai <| ap rfl hf rfl ?_
  rintro _ rfl
  exact⟨_,rfl,e,(congrArg I (by rw[eT,rc hn]))⟩
theorem rh (d:DT)(W:World):Calls Tryz.prog 49 #[dtV d] W (Post (E (.bool (Gr.pairs d.1))) W):=by
 refine eN [dtV d] [Dv dtE G0 d] Tryz.func49 Tryz.ntmps49 ?_ fun a hf=>?_
 rotate_left
 rotate_right
 ·exact arg1 (Dv.dt.2 rfl)
 have e:=Ext.rfl' W
 refine seq <| ae <| fX hf rfl (by decide) (fun _ h=>h.elim) fun a w e' hf=>?_
 replace e:=e.tr e'
 refine tA hf rfl fun a hf=>aa <| seq <| rgN 18 hf <| st (aB U52 rfl T3 (by decide) (Fld.fst Fld.refl) (isR rfl)) <| st (ldI T3 (isR rfl)) <| st (eql rfl rfl) <| st (mv rfl) <| sgE rfl rfl (.k 1 rfl .n) (fun hgd=>aB U52 rfl T3 (by decide) (Fld.fst Fld.refl) (isR rfl)) <| sgE rfl rfl (.c 7 rfl (fun h=>h) .n) (fun hgd=>ldI T3 (isR rfl)) <| sgE rfl rfl (.c 8 rfl (fun h=>h) .n) (fun hgd=>eql rfl rfl) <| st (bO rfl rfl (fun h=>by rw[h];rfl)) ?_
 refine st (mv rfl) <| sgE rfl rfl (.k 1 rfl .n) (fun hgd=>aB U52 rfl T3 (by decide) (Fld.fst Fld.refl) (isR rfl)) <| sgE rfl rfl (.c 12 rfl (fun h=>h) .n) (fun hgd=>ldI T3 (isR rfl)) <| sgE rfl rfl (.c 13 rfl (fun h=>h) .n) (fun hgd=>eql rfl rfl) <| st (bO rfl rfl (fun h=>by rw[h];rfl)) ?_
 refine st (mv rfl) <| sgE rfl rfl (.k 1 rfl .n) (fun hgd=>aB U52 rfl T3 (by decide) (Fld.fst Fld.refl) (isR rfl)) <| sgE rfl rfl (.c 17 rfl (fun h=>h) .n) (fun hgd=>ldI T3 (isR rfl)) <| sgE rfl rfl (.c 18 rfl (fun h=>h) .n) (fun hgd=>eql rfl rfl) <| st (bO rfl rfl (fun h=>by rw[h];rfl)) ?_
 refine en fun a w e' hf=>?_
 replace e:=e.tr e'
 refine tA hf rfl fun a hf=>aa <| ai <| ap rfl hf rfl ?_
 rintro _ rfl
 exact⟨_,rfl,e,rfl⟩
theorem zi (d:DT)(W:World):Calls Tryz.prog 94 #[dtV d] W (Post (E (.bool (Gr.weighs d.1))) W):=by
 refine eN [dtV d] [Dv dtE G0 d] Tryz.func94 Tryz.ntmps94 ?_ fun a hf=>?_
 rotate_left
 rotate_right
 ·exact arg1 (Dv.dt.2 rfl)
 have e:=Ext.rfl' W
 refine seq <| ae <| fX hf rfl (by decide) (fun _ h=>h.elim) fun a w e' hf=>?_
 replace e:=e.tr e'
 refine tA hf rfl fun a hf=>aa <| seq <| rgN 18 hf <| st (aB U52 rfl T3 (by decide) (Fld.fst Fld.refl) (isR rfl)) <| st (ldI T3 (isR rfl)) <| st (eql rfl rfl) <| st (mv rfl) <| sgE rfl rfl (.k 1 rfl .n) (fun hgd=>aB U52 rfl T3 (by decide) (Fld.fst Fld.refl) (isR rfl)) <| sgE rfl rfl (.c 7 rfl (fun h=>h) .n) (fun hgd=>ldI T3 (isR rfl)) <| sgE rfl rfl (.c 8 rfl (fun h=>h) .n) (fun hgd=>eql rfl rfl) <| st (bO rfl rfl (fun h=>by rw[h];rfl)) ?_
 refine st (mv rfl) <| sgE rfl rfl (.k 1 rfl .n) (fun hgd=>aB U52 rfl T3 (by decide) (Fld.fst Fld.refl) (isR rfl)) <| sgE rfl rfl (.c 12 rfl (fun h=>h) .n) (fun hgd=>ldI T3 (isR rfl)) <| sgE rfl rfl (.c 13 rfl (fun h=>h) .n) (fun hgd=>eql rfl rfl) <| st (bO rfl rfl (fun h=>by rw[h];rfl)) ?_
 refine st (mv rfl) <| sgE rfl rfl (.k 1 rfl .n) (fun hgd=>aB U52 rfl T3 (by decide) (Fld.fst Fld.refl) (isR rfl)) <| sgE rfl rfl (.c 17 rfl (fun h=>h) .n) (fun hgd=>ldI T3 (isR rfl)) <| sgE rfl rfl (.c 18 rfl (fun h=>h) .n) (fun hgd=>eql rfl rfl) <| st (bO rfl rfl (fun h=>by rw[h];rfl)) ?_
 refine en fun a w e' hf=>?_
 replace e:=e.tr e'
 refine tA hf rfl fun a hf=>aa <| ai <| ap rfl hf rfl ?_
 rintro _ rfl
 exact⟨_,rfl,e,rfl⟩
def cL (g:GT)(d:DT):Int:=
 if (decide (d.1<0) || decide (7<d.1))=true then 11
 else if (((decide (d.2.1<0) || decide (1023<d.2.1)) || (Gr.pairs d.1&&(decide (d.2.2.1<0) || decide (1023<d.2.2.1)))) || (Gr.weighs d.1&&(decide (d.2.2.2.2 < -1048576) || decide (1048576<d.2.2.2.2))))=true then 2
 else if (Gr.pairs d.1&&d.2.1==d.2.2.1)=true then 15
 else if (d.1==0)=true then (if decide (0≤ev g.1 d.2.1)=true then 7 else 0)
 else if (decide (ev g.1 d.2.1<0) || (d.1==2&&decide (ev g.1 d.2.2.1<0)))=true then 9
 else if (d.1==2)=true then (if decide (0≤eT g.2 d.2.1 d.2.2.1)=true then 7 else if decide ((1024:Int)≤(g.2.length:Nat))=true then 8 else 0)
 else if (Gr.pairs d.1&&decide (eT g.2 d.2.1 d.2.2.1<0))=true then 9 else 0
theorem aK {b:Bool}(h:b=false):¬(b=true):=by rw[h];decide
theorem zj {G:Nat→Prop}(g:GT)(d:DT)(v:Value)(W:World)(h:(Dv gtE G g).p v W)(hl1:g.1.length≤100000)(hl2:g.2.length≤100000) :
  Calls Tryz.prog 46 #[v,dtV d] W (Post (E (I (cL g d))) W):=by
 refine eN [v,dtV d] [Dv gtE G0 g,Dv dtE G0 d] Tryz.func46 Tryz.ntmps46 ?_ fun a hf=>?_
 rotate_left
 rotate_right
 ·exact arg2 (Dv.weak h fun b _ hb=>hb.elim) (Dv.dt.2 rfl)
 have e:=Ext.rfl' W
 have hp:∀(v:Value) (w:World),Ext W w→v=dtV d→Calls Tryz.prog 49 #[v] w (Post (E (.bool (Gr.pairs d.1))) w):=fun v w _ hv=>by cases hv;exact rh d w
 have hh:∀(v:Value) (w:World),Ext W w→v=dtV d→Calls Tryz.prog 94 #[v] w (Post (E (.bool (Gr.weighs d.1))) w):=fun v w _ hv=>by cases hv;exact zi d w
 have hF:∀(n:Int) (v u:Value) (w:World),(Dv gtE G0 g).p v w→u=I n→Calls Tryz.prog 95 #[v,u] w (Post (E (I (ev g.1 n))) w):=fun n v u w h1 h2=>by cases h2;exact zh g n v w h1 hl1
 have hE:∀(m n:Int) (v u x:Value) (w:World),(Dv gtE G0 g).p v w→u=I m→x=I n→Calls Tryz.prog 50 #[v,u,x] w (Post (E (I (eT g.2 m n))) w):=fun m n v u x w h1 h2 h3=>by cases h2;cases h3;exact rf g m n v w h1 hl2
 refine seq <| ae <| fX hf rfl (by decide) (fun _ h=>h.elim) fun a w e' hf=>?_
 replace e:=e.tr e'
 refine fX hf rfl (by decide) (fun _ h=>h.elim) fun a w e' hf=>?_
 replace e:=e.tr e'
 refine tA hf rfl fun a hf=>aa ?_
 repeat refine seq ?_
 refine rgN 8 hf <| st (aB U52 rfl T3 (by decide) (Fld.fst Fld.refl) (isR rfl)) <| st (ldI T3 (isR rfl)) <| st (lss rfl rfl) <| st (mv rfl) <| sgE rfl rfl (.k 3 rfl .n) (fun hgd=>aB U52 rfl T3 (by decide) (Fld.fst Fld.refl) (isR rfl)) <| sgE rfl rfl (.c 9 rfl (fun h=>h) .n) (fun hgd=>ldI T3 (isR rfl)) <| sgE rfl rfl (.c 10 rfl (fun h=>h) .n) (fun hgd=>gtr rfl rfl) <| st (bO rfl rfl (fun h=>by rw[h];rfl)) ?_
 refine en fun a w e' hf=>?_
 replace e:=e.tr e'
 refine aa <| ifc hf rfl (fun hb=>?_) (fun hb=>?_)
 ·refine seq <| ae <| tA hf rfl fun a hf=>aa <| ai <| ap rfl hf rfl ?_
  rintro _ rfl
  exact⟨_,rfl,e,(congrArg I (by rw[cL,if_pos hb]))⟩
 refine ak ?_
 replace hf:=hf.keep [2,3,4]
 have h1:=hb;clear hb
 repeat refine seq ?_
 refine rgN 36 hf <| st (aB U52 rfl T3 (by decide) (Fld.snd (Fld.fst Fld.refl) rfl) (isR rfl)) <| st (ldI T3 (isR rfl)) <| st (lss rfl rfl) <| st (mv rfl) <| sgE rfl rfl (.k 3 rfl .n) (fun hgd=>aB U52 rfl T3 (by decide) (Fld.snd (Fld.fst Fld.refl) rfl) (isR rfl)) <| sgE rfl rfl (.c 17 rfl (fun h=>h) .n) (fun hgd=>ldI T3 (isR rfl)) <| sgE rfl rfl (.c 18 rfl (fun h=>h) .n) (fun hgd=>gtr rfl rfl) <| st (bO rfl rfl (fun h=>by rw[h];rfl)) ?_
 refine st (mv rfl) <| sgE rfl rfl (.k 3 rfl .n) (fun hgd=>jc T52 (isR rfl)) <| sgE rfl rfl (.c 22 rfl (fun h=>h) .n) (fun hgd=>an jU rfl (fun v w he h=>hp v w (Ext.tr e he) h)) <| sgE rfl rfl (.c 23 rfl (fun h=>h) .n) (fun hgd=>mv rfl) <| sgC rfl rfl (.k 3 rfl .n) (fun hgd=>aB U52 rfl T3 (by decide) (Fld.snd (Fld.snd (Fld.fst Fld.refl) rfl) rfl) (isR rfl)) <| sgC rfl rfl (.c 25 rfl (fun h=>h) .n) (fun hgd=>ldI T3 (isR rfl)) <| sgC rfl rfl (.c 26 rfl (fun h=>h) .n) (fun hgd=>lss rfl rfl) <| sgC rfl rfl (.c 27 rfl (fun h=>h) .n) (fun hgd=>mv rfl) <| sgC rfl rfl (.k 3 rfl .n) (fun hgd=>aB U52 rfl T3 (by decide) (Fld.snd (Fld.snd (Fld.fst Fld.refl) rfl) rfl) (isR rfl)) <| sgC rfl rfl (.c 29 rfl (fun h=>h) .n) (fun hgd=>ldI T3 (isR rfl)) <| sgC rfl rfl (.c 30 rfl (fun h=>h) .n) (fun hgd=>gtr rfl rfl) <| sgC rfl rfl (.c 28 rfl (fun h=>h) (.k 31 rfl .n)) (fun hgd=>bO rfl rfl (fun h=>by rw[hgd,h];rfl)) ?_
 refine sgE rfl rfl (.c 24 rfl (fun h=>h) (.k 32 rfl .n)) (fun hgd=>bG rfl rfl (fun h=>by rw[hgd,h];rfl)) ?_
 refine st (bO rfl rfl (fun h=>by rw[h];rfl)) ?_
 refine st (mv rfl) <| sgE rfl rfl (.k 3 rfl .n) (fun hgd=>jc T52 (isR rfl)) <| sgE rfl rfl (.c 36 rfl (fun h=>h) .n) (fun hgd=>an wO rfl (fun v w he h=>hh v w (Ext.tr e he) h)) <| sgE rfl rfl (.c 37 rfl (fun h=>h) .n) (fun hgd=>mv rfl) <| sgC rfl rfl (.k 3 rfl .n) (fun hgd=>aB U52 rfl T3 (by decide) (Fld.snd (Fld.snd (Fld.snd (Fld.snd Fld.refl rfl) rfl) rfl) rfl) (isR rfl)) <| sgC rfl rfl (.c 39 rfl (fun h=>h) .n) (fun hgd=>ldI T3 (isR rfl)) <| sgC rfl rfl (.c 40 rfl (fun h=>h) .n) (fun hgd=>lss rfl rfl) <| sgC rfl rfl (.c 41 rfl (fun h=>h) .n) (fun hgd=>mv rfl) <| sgC rfl rfl (.k 3 rfl .n) (fun hgd=>aB U52 rfl T3 (by decide) (Fld.snd (Fld.snd (Fld.snd (Fld.snd Fld.refl rfl) rfl) rfl) rfl) (isR rfl)) <| sgC rfl rfl (.c 43 rfl (fun h=>h) .n) (fun hgd=>ldI T3 (isR rfl)) <| sgC rfl rfl (.c 44 rfl (fun h=>h) .n) (fun hgd=>gtr rfl rfl) <| sgC rfl rfl (.c 42 rfl (fun h=>h) (.k 45 rfl .n)) (fun hgd=>bO rfl rfl (fun h=>by rw[hgd,h];rfl)) ?_
 refine sgE rfl rfl (.c 38 rfl (fun h=>h) (.k 46 rfl .n)) (fun hgd=>bG rfl rfl (fun h=>by rw[hgd,h];rfl)) ?_
 refine st (bO rfl rfl (fun h=>by rw[h];rfl)) ?_
 refine en fun a w e' hf=>?_
 replace e:=e.tr e'
 refine aa <| ifc hf rfl (fun hb=>?_) (fun hb=>?_)
 ·refine seq <| ae <| tA hf rfl fun a hf=>aa <| ai <| ap rfl hf rfl ?_
  rintro _ rfl
  exact⟨_,rfl,e,(congrArg I (by rw[cL,if_neg (aK h1),if_pos hb]))⟩
 refine ak ?_
 replace hf:=hf.keep [2,3,4]
 have h2:=hb;clear hb
 repeat refine seq ?_
 refine rgN 9 hf <| st (jc T52 (isR rfl)) <| st (an jU rfl (fun v w he h=>hp v w (Ext.tr e he) h)) <| st (mv rfl) <| sgE rfl rfl (.k 3 rfl .n) (fun hgd=>aB U52 rfl T3 (by decide) (Fld.snd (Fld.fst Fld.refl) rfl) (isR rfl)) <| sgE rfl rfl (.c 52 rfl (fun h=>h) .n) (fun hgd=>ldI T3 (isR rfl)) <| sgE rfl rfl (.k 3 rfl .n) (fun hgd=>aB U52 rfl T3 (by decide) (Fld.snd (Fld.snd (Fld.fst Fld.refl) rfl) rfl) (isR rfl)) <| sgE rfl rfl (.c 54 rfl (fun h=>h) .n) (fun hgd=>ldI T3 (isR rfl)) <| sgE rfl rfl (.c 53 rfl (fun h=>h) (.c 55 rfl (fun h=>h) .n)) (fun hgd=>eql rfl rfl) <| st (bG rfl rfl (fun h=>by rw[h];rfl)) ?_
 refine en fun a w e' hf=>?_
 replace e:=e.tr e'
 refine aa <| ifc hf rfl (fun hb=>?_) (fun hb=>?_)
 ·refine seq <| ae <| tA hf rfl fun a hf=>aa <| ai <| ap rfl hf rfl ?_
  rintro _ rfl
  exact⟨_,rfl,e,(congrArg I (by rw[cL,if_neg (aK h1),if_neg (aK h2),if_pos hb]))⟩
 refine ak ?_
 replace hf:=hf.keep [2,3,4]
 have h3:=hb;clear hb
 repeat refine seq ?_
 refine rgN 3 hf <| st (aB U52 rfl T3 (by decide) (Fld.fst Fld.refl) (isR rfl)) <| st (ldI T3 (isR rfl)) <| st (eql rfl rfl) <| en fun a w e' hf=>?_
 replace e:=e.tr e'
 refine aa <| ifc hf rfl (fun hb=>?_) (fun hb=>?_)
 ·have h4:=hb;clear hb
  repeat refine seq ?_
  refine rgN 5 hf <| st (ldD T26 (isR rfl)) <| st (aB U52 rfl T3 (by decide) (Fld.snd (Fld.fst Fld.refl) rfl) (isR rfl)) <| st (ldI T3 (isR rfl)) <| st (ar mw rfl rfl (fun v u w he h h'=>hF _ v u w h h')) <| st (geq rfl rfl) <| en fun a w e' hf=>?_
  replace e:=e.tr e'
  refine aa <| ifc hf rfl (fun hb=>?_) (fun hb=>?_)
  ·refine seq <| ae <| tA hf rfl fun a hf=>aa <| ai <| ap rfl hf rfl ?_
   rintro _ rfl
   exact⟨_,rfl,e,(congrArg I (by rw[cL,if_neg (aK h1),if_neg (aK h2),if_neg (aK h3),if_pos h4,if_pos hb]))⟩
  refine ak <| seq <| ae <| tA hf rfl fun a hf=>aa <| ai <| ap rfl hf rfl ?_
  rintro _ rfl
  exact⟨_,rfl,e,(congrArg I (by rw[cL,if_neg (aK h1),if_neg (aK h2),if_neg (aK h3),if_pos h4,if_neg (aK hb)]))⟩
 refine ak ?_
 replace hf:=hf.keep [2,3,4]
 have h4:=hb;clear hb
 repeat refine seq ?_
 refine rgN 17 hf <| st (ldD T26 (isR rfl)) <| st (aB U52 rfl T3 (by decide) (Fld.snd (Fld.fst Fld.refl) rfl) (isR rfl)) <| st (ldI T3 (isR rfl)) <| st (ar mw rfl rfl (fun v u w he h h'=>hF _ v u w h h')) <| st (lss rfl rfl) <| st (mv rfl) <| sgE rfl rfl (.k 3 rfl .n) (fun hgd=>aB U52 rfl T3 (by decide) (Fld.fst Fld.refl) (isR rfl)) <| sgE rfl rfl (.c 72 rfl (fun h=>h) .n) (fun hgd=>ldI T3 (isR rfl)) <| sgE rfl rfl (.c 73 rfl (fun h=>h) .n) (fun hgd=>eql rfl rfl) <| sgE rfl rfl (.c 74 rfl (fun h=>h) .n) (fun hgd=>mv rfl) <| sgC rfl rfl (.k 2 rfl .n) (fun hgd=>ldD T26 (isR rfl)) <| sgC rfl rfl (.k 3 rfl .n) (fun hgd=>aB U52 rfl T3 (by decide) (Fld.snd (Fld.snd (Fld.fst Fld.refl) rfl) rfl) (isR rfl)) <| sgC rfl rfl (.c 77 rfl (fun h=>h) .n) (fun hgd=>ldI T3 (isR rfl)) <| sgC rfl rfl (.c 76 rfl (fun h=>h) (.c 78 rfl (fun h=>h) .n)) (fun hgd=>ar mw rfl rfl (fun v u w he h h'=>hF _ v u w h h')) <| sgC rfl rfl (.c 79 rfl (fun h=>h) .n) (fun hgd=>lss rfl rfl) <| sgE rfl rfl (.c 75 rfl (fun h=>h) (.k 80 rfl .n)) (fun hgd=>bG rfl rfl (fun h=>by rw[hgd,h];rfl)) ?_
 refine st (bO rfl rfl (fun h=>by rw[h];rfl)) ?_
 refine en fun a w e' hf=>?_
 replace e:=e.tr e'
 refine aa <| ifc hf rfl (fun hb=>?_) (fun hb=>?_)
 ·refine seq <| ae <| tA hf rfl fun a hf=>aa <| ai <| ap rfl hf rfl ?_
  rintro _ rfl
  exact⟨_,rfl,e,(congrArg I (by rw[cL,if_neg (aK h1),if_neg (aK h2),if_neg (aK h3),if_neg (aK h4),if_pos hb]))⟩
 refine ak ?_
 replace hf:=hf.keep [2,3,4]
 have h5:=hb;clear hb
 repeat refine seq ?_
 refine rgN 3 hf <| st (aB U52 rfl T3 (by decide) (Fld.fst Fld.refl) (isR rfl)) <| st (ldI T3 (isR rfl)) <| st (eql rfl rfl) <| en fun a w e' hf=>?_
 replace e:=e.tr e'
 refine aa <| ifc hf rfl (fun hb=>?_) (fun hb=>?_)
 ·have h6:=hb;clear hb
  repeat refine seq ?_
  refine rgN 7 hf <| st (ldD T26 (isR rfl)) <| st (aB U52 rfl T3 (by decide) (Fld.snd (Fld.fst Fld.refl) rfl) (isR rfl)) <| st (ldI T3 (isR rfl)) <| st (aB U52 rfl T3 (by decide) (Fld.snd (Fld.snd (Fld.fst Fld.refl) rfl) rfl) (isR rfl)) <| st (ldI T3 (isR rfl)) <| st (gE mq rfl rfl rfl (fun v u x w he h h' h''=>hE _ _ v u x w h h' h'')) <| st (geq rfl rfl) <| en fun a w e' hf=>?_
  replace e:=e.tr e'
  refine aa <| ifc hf rfl (fun hb=>?_) (fun hb=>?_)
  ·refine seq <| ae <| tA hf rfl fun a hf=>aa <| ai <| ap rfl hf rfl ?_
   rintro _ rfl
   exact⟨_,rfl,e,(congrArg I (by rw[cL,if_neg (aK h1),if_neg (aK h2),if_neg (aK h3),if_neg (aK h4),if_neg (aK h5),if_pos h6,if_pos hb]))⟩
  refine ak ?_
  have h7:=hb;clear hb
  replace hf:=hf.keep [2,3,4]
  repeat refine seq ?_
  refine rgN 4 hf <| st (aB U26 rfl T24 (by decide) (Fld.snd Fld.refl rfl) (isR rfl)) <| st (ldD T24 (isR rfl)) <| st (aF U24 (isR rfl)) <| st (geq rfl rfl) <| en fun a w e' hf=>?_
  replace e:=e.tr e'
  refine aa <| ifc hf rfl (fun hb=>?_) (fun hb=>?_)
  ·refine seq <| ae <| tA hf rfl fun a hf=>aa <| ai <| ap rfl hf rfl ?_
   rintro _ rfl
   exact⟨_,rfl,e,(congrArg I (by rw[cL,if_neg (aK h1),if_neg (aK h2),if_neg (aK h3),if_neg (aK h4),if_neg (aK h5),if_pos h6,if_neg (aK h7),if_pos hb]))⟩
  refine ak <| seq <| ae <| tA hf rfl fun a hf=>aa <| ai <| ap rfl hf rfl ?_
  rintro _ rfl
  exact⟨_,rfl,e,(congrArg I (by rw[cL,if_neg (aK h1),if_neg (aK h2),if_neg (aK h3),if_neg (aK h4),if_neg (aK h5),if_pos h6,if_neg (aK h7),if_neg (aK hb)]))⟩
 refine ak ?_
 replace hf:=hf.keep [2,3,4]
 have h6:=hb;clear hb
 repeat refine seq ?_
 refine rgN 11 hf <| st (jc T52 (isR rfl)) <| st (an jU rfl (fun v w he h=>hp v w (Ext.tr e he) h)) <| st (mv rfl) <| sgE rfl rfl (.k 2 rfl .n) (fun hgd=>ldD T26 (isR rfl)) <| sgE rfl rfl (.k 3 rfl .n) (fun hgd=>aB U52 rfl T3 (by decide) (Fld.snd (Fld.fst Fld.refl) rfl) (isR rfl)) <| sgE rfl rfl (.c 101 rfl (fun h=>h) .n) (fun hgd=>ldI T3 (isR rfl)) <| sgE rfl rfl (.k 3 rfl .n) (fun hgd=>aB U52 rfl T3 (by decide) (Fld.snd (Fld.snd (Fld.fst Fld.refl) rfl) rfl) (isR rfl)) <| sgE rfl rfl (.c 103 rfl (fun h=>h) .n) (fun hgd=>ldI T3 (isR rfl)) <| sgE rfl rfl (.c 100 rfl (fun h=>h) (.c 102 rfl (fun h=>h) (.c 104 rfl (fun h=>h) .n))) (fun hgd=>gE mq rfl rfl rfl (fun v u x w he h h' h''=>hE _ _ v u x w h h' h'')) <| sgE rfl rfl (.c 105 rfl (fun h=>h) .n) (fun hgd=>lss rfl rfl) <| st (bG rfl rfl (fun h=>by rw[h];rfl)) ?_
 refine en fun a w e' hf=>?_
 replace e:=e.tr e'
 refine aa <| ifc hf rfl (fun hb=>?_) (fun hb=>?_)
 ·refine seq <| ae <| tA hf rfl fun a hf=>aa <| ai <| ap rfl hf rfl ?_
  rintro _ rfl
  exact⟨_,rfl,e,(congrArg I (by rw[cL,if_neg (aK h1),if_neg (aK h2),if_neg (aK h3),if_neg (aK h4),if_neg (aK h5),if_neg (aK h6),if_pos hb]))⟩
 refine ak <| seq <| ae <| tA hf rfl fun a hf=>aa <| ai <| ap rfl hf rfl ?_
 rintro _ rfl
 exact⟨_,rfl,e,(congrArg I (by rw[cL,if_neg (aK h1),if_neg (aK h2),if_neg (aK h3),if_neg (aK h4),if_neg (aK h5),if_neg (aK h6),if_neg (aK hb)]))⟩
end Go.Mono
namespace Go.Mono
open Go Go.RowKit

theorem zk:∀(c:List Value) (n off:Nat) (cells:Array Value),off+n+c.length≤cells.size →
  (c.zipIdx n).foldl (fun cs (p:Value×Nat)=>cs.setIfInBounds (off+p.2) p.1) cells=(cells.toList.take (off+n)++c++cells.toList.drop (off+n+c.length)).toArray:=by
 intro c
 induction c with
 | nil=>intro n off cells h;simp
 | cons u c ih=>
  intro n off cells h
  simp only[List.length_cons] at h
  rw[List.zipIdx_cons,List.foldl_cons,ih (n+1) off _ (by simp;omega)]
  simp only[Array.toList_setIfInBounds,List.length_cons]
  congr 1
  have hlt:off+n<cells.toList.length:=by simp;omega
  rw[← Nat.add_assoc,List.take_succ_eq_append_getElem (by simpa using hlt),List.getElem_set_self,List.take_set_of_le (Nat.le_refl _),List.drop_set_of_lt (by omega)]
  rw[show off+n+1+c.length=off+n+(c.length+1) by omega]
  simp
def pl {α:Type}:Nat→List α→List (Nat×α)
 | _,[]=>[]
 | n,v::vs=>(n,v)::pl (n+1) vs
theorem ri {α β:Type}(f:α→β):∀(n:Nat) (vs:List α),(pl n vs).map (fun p=>(p.1,f p.2))=pl n (vs.map f)
 | _,[]=>rfl
 | n,v::vs=>by rw[pl,List.map_cons,ri f (n+1) vs];rfl
theorem fill_seq {k:Nat}:∀(vs:List Value) (cs:List (List Value)) (n:Nat) (done:List Value) (cells:Array Value),vs.map Value.cells=cs.map List.toArray→(∀c∈cs,c.length=k)→done.length=n * k→cells.toList.take (n * k)=done→cells.size=(n+vs.length) * k →
  Instr.fill (fun i=>some (i * k,k)) cells (pl n vs)=some (done++cs.flatten).toArray
 | [],cs,n,done,cells,hv,hc,hd,ht,hs=>by
  have:cs=[]:=by cases cs <;> simp at hv ⊢
  subst this
  have:cells.toList=done:=by rw[← ht,List.take_of_length_le];rw[Array.length_toList,hs];simp
  simp[pl,Instr.fill,← this]
 | v::vs,[],n,done,cells,hv,hc,hd,ht,hs=>by simp at hv
 | v::vs,c::cs,n,done,cells,hv,hc,hd,ht,hs=>by
  simp only[List.map_cons,List.cons.injEq] at hv
  have hcl:=hc c (by simp)
  have hsz:v.cells.size=k:=by rw[hv.1,List.size_toArray,hcl]
  rw[List.length_cons] at hs
  have hb:n * k+k≤cells.size:=by rw[hs,Nat.add_mul,Nat.add_mul];omega
  rw[pl,Instr.fill]
  have n1:¬(n * k+k > cells.size):=by omega
  simp only[hsz,ne_eq,not_true_eq_false,decide_false,Bool.false_or,decide_eq_true_eq,n1,if_false,Bool.false_eq_true]
  rw[hv.1]
  have e1:c.toArray.zipIdx.foldl (fun cs (p:Value×Nat)=>cs.setIfInBounds (n * k+p.2) p.1) cells=(cells.toList.take (n * k)++c++cells.toList.drop (n * k+c.length)).toArray:=by
   rw[mJ]
   have:=zk c 0 (n * k) cells (by omega)
   simpa using this
  have e2:=fill_seq vs cs (n+1) (done++c) (cells.toList.take (n * k)++c++cells.toList.drop (n * k+c.length)).toArray hv.2 (fun x hx=>hc x (by simp[hx])) (by rw[List.length_append,hd,hcl,Nat.add_mul,Nat.one_mul]) (by
   rw[ht]
   simp only[List.append_assoc]
   rw[← List.append_assoc,List.take_left' (by rw[List.length_append,hd,hcl,Nat.add_mul,Nat.one_mul])]) (by
   simp only[List.size_toArray,List.length_append,List.length_take,List.length_drop,Array.length_toList,hcl]
   rw[Nat.min_eq_left (by omega),hs]
   have:(n+(vs.length+1)) * k=(n+1+vs.length) * k:=by congr 1;omega
   rw[this] at hs ⊢
   have:n * k+k≤(n+1+vs.length) * k:=by omega
   omega)
  rw[List.flatten_cons,← List.append_assoc,← e2]
  exact congrArg (fun x=>Instr.fill (fun i=>some (i * k,k)) x (pl (n+1) vs)) e1
section
variable {P:Program}{w0:World}{L:Env}{dst:Option Tmp}{ty:TypeId}{pos:String}{aft:Array Edge}{g:Option (Nat×Bool)}{t te:TypeId}
variable {α:Type}{e:Enc α}{G:Nat→Prop}
def IsL (L:Env)(w0:World)(e:Enc α)(G:Nat→Prop):List Operand→List α→Prop
 | [],[]=>True
 | x::xs,z::zs=>Is L w0 x (Dv e G z)∧IsL L w0 e G xs zs
 | _,_=>False
theorem rj {ρ:Operand→Value}{w:World}{xs0:List Operand}(he:Ext w0 w)(hv:∀x∈xs0,∀B,opd L x=some B→B.p (ρ x) w):∀(xs:List Operand) (zs:List α),(∀x∈xs,x∈xs0)→IsL L w0 e G xs zs →
  ∃cs:List (List Value),(xs.map ρ).map Value.cells=cs.map List.toArray∧(∀c∈cs,c.length=e.k)∧Cells e G w zs cs.flatten∧xs.length=zs.length
 | [],[],_,_=>⟨[],rfl,(fun c hc=>by cases hc),rfl,rfl⟩
 | [],_::_,_,h=>h.elim
 | _::_,[],_,h=>h.elim
 | x::xs,z::zs,hm,h=>by
  obtain⟨⟨B,hB,hB2⟩,h2⟩:=h
  obtain⟨c,h3,h4⟩:=hB2 _ _ he (hv x (hm x (by simp)) B hB)
  obtain⟨cs,a1,a2,a3,a4⟩:=rj he hv xs zs (fun y hy=>hm y (by simp[hy])) h2
  refine⟨c::cs,?_,?_,⟨c,cs.flatten,rfl,h3,a3⟩,by simp[a4]⟩
  ·simp only[List.map_cons,a1]
   rw[h4,e.pack_cells h3]
  ·intro d hd
   rcases List.mem_cons.1 hd with rfl|hd
   ·exact e.len h3
   ·exact a2 d hd
theorem ko {z0:Value}{sz bz n:Nat}{xs:List Operand}{zs:List α}(ht:P.underlying t=some (.slice te))(hi:(P.info? te).map (fun i=>(i.zero,i.size,i.bytes))=some (some z0,sz,bz))(hk:sz=e.k)(hn:zs.length=n)(hn0:0<n)(hk2:n * e.k≤16777216)(hz0:z0.cells.size=e.k)(hG:∀b,G b→b<w0.heap.size)
  (hx:IsL L w0 e G xs zs):OpC P w0 L ⟨dst,.buildSlice t n (pl 0 xs).toArray,ty,pos,aft,g⟩ (Dv (slE e) G zs):=by
 refine⟨fun ρ w he hv=>?_⟩
 obtain⟨it,hit,hiz,hsz,_⟩:=info_parts hi
 subst hk
 have hops:(Op.buildSlice t n (pl 0 xs).toArray).operands=xs.toArray:=by
  have:∀(k:Nat) (xs:List Operand),(pl k xs).map (·.2)=xs:=by
   intro k xs
   induction xs generalizing k with
   | nil=>rfl
   | cons x xs ih=>rw[pl,List.map_cons,ih]
  simp[Op.operands,this]
 have hv':∀x∈xs,∀B,opd L x=some B→B.p (ρ x) w:=fun x hx B hB=>hv x (by
  show x∈(Op.buildSlice t n (pl 0 xs).toArray).operands
  rw[hops];simpa using hx) B hB
 obtain⟨cs,a1,a2,a3,a4⟩:=rj he hv' xs zs (fun x h=>h) hx
 have hxl:xs.length=n:=by rw[a4,hn]
 have hpos:=e.pos
 have hnk:0<n * e.k:=Nat.mul_pos hn0 hpos
 have hfl:=fill_seq (k:=e.k) (xs.map ρ) cs 0 [] ((Array.range (n * it.size)).map (z0.cells[· % z0.cells.size]!)) a1 a2 (by simp) (by simp) (by simp[hsz,hxl])
 have hr:=run_buildSlice (P:=P) w t te n (pl 0 (xs.map ρ)).toArray cs.flatten.toArray it z0 ht hit hiz (by rw[hsz];omega) (by rw[hsz];omega) (by rw[hsz] at hfl ⊢;simpa using hfl)
 have hm:((pl 0 xs).toArray.map fun p=>(p.1,ρ p.2))=(pl 0 (xs.map ρ)).toArray:=by
  rw[List.map_toArray,ri]
 have hrun:(execOp ρ ⟨dst,.buildSlice t n (pl 0 xs).toArray,ty,pos,aft,g⟩).run P w=.ok (.value (.slice (some ⟨w.heap.size,0,none⟩) n n)) (w.alloc (.cells cs.flatten.toArray te)):=by
  simp only[execOp,Sem.run_bind]
  rw[show ((pl 0 xs).toArray.map fun (x:Nat×Operand)=>match x with|(i,x)=>(i,ρ x))=(pl 0 (xs.map ρ)).toArray from hm,hr]
  simp only[Result.andThen_ok,Sem.run_pure]
 simp only[OpR,hrun]
 have hx:=cV w (.cells cs.flatten.toArray te)
 refine⟨hx,Dv.sl.2 (.inr ⟨_,n,cs.flatten,by rw[hn],by omega,fun hg=>?_,by simp,a3.pres (fun b hb hn=>hx.block b hb) hx.size,fun i u hu=>?_⟩)⟩
 ·exact absurd (hG _ hg) (Nat.not_lt.2 he.size)
 ·rw[Addr.add_lit,Nat.zero_add,(fK w cs.flatten.toArray te).cell i,List.getElem?_toArray]
  exact hu
theorem rk {z0:Value}{sz bz:Nat}{x y:Operand}{a b:α}(ht:P.underlying t=some (.slice te))(hi:(P.info? te).map (fun i=>(i.zero,i.size,i.bytes))=some (some z0,sz,bz))(hk:sz=e.k)(hk2:2 * e.k≤16777216)(hz0:z0.cells.size=e.k)(hG:∀b,G b→b<w0.heap.size)
  (hx:Is L w0 x (Dv e G a)) (hy:Is L w0 y (Dv e G b)):OpC P w0 L ⟨dst,.buildSlice t 2 #[(0,x),(1,y)],ty,pos,aft,g⟩ (Dv (slE e) G [a,b]):=
 ko (n:=2) (xs:=[x,y]) ht hi hk rfl (by decide) hk2 hz0 hG ⟨hx,hy,trivial⟩
end
theorem zl {P:Program}{w0:World}{L:Env}{dst:Option Tmp}{ty:TypeId}{pos:String}{aft:Array Edge}{g:Option (Nat×Bool)}{t te:TypeId}{x:Operand}{B:Nat}{G:Nat→Prop}{z:Int}{bz:Nat}{z0:Value}(ht:P.underlying t=some (.slice te))(hi:(P.info? te).map (fun i=>(i.zero,i.size,i.bytes))=some (some z0,1,bz))(hz0:z0.cells.size=1)
  (hx:opd L x=some (E (.int .i64 z))) (hB:B≤w0.heap.size) (hG:∀b,G b→b<B):OpC P w0 L ⟨dst,.buildSlice t 1 #[(0,x)],ty,pos,aft,g⟩ (OwA aj te B G [z]):=by
 refine⟨fun ρ w he hv=>?_⟩
 have hxv:=opE hv (x:=x) (by simp[Op.operands]) hx
 obtain⟨it,hit,hiz,hsz,_⟩:=info_parts hi
 have hfl:=fill_seq (k:=1) [Value.int .i64 z] [[Value.int .i64 z]] 0 [] ((Array.range (1 * 1)).map (z0.cells[· % z0.cells.size]!)) rfl (by simp) (by simp) (by simp) (by simp)
 have hr:=run_buildSlice (P:=P) w t te 1 #[(0,.int .i64 z)] #[.int .i64 z] it z0 ht hit hiz (by rw[hsz];omega) (by rw[hsz];omega) (by rw[hsz];exact hfl)
 have hrun:(execOp ρ ⟨dst,.buildSlice t 1 #[(0,x)],ty,pos,aft,g⟩).run P w=.ok (.value (.slice (some ⟨w.heap.size,0,none⟩) 1 1)) (w.alloc (.cells #[.int .i64 z] te)):=by
  simp only[execOp,Sem.run_bind,List.map_toArray,List.map_cons,List.map_nil,hxv,hr,Result.andThen_ok,Sem.run_pure]
 simp only[OpR,hrun]
 have hx:=cV w (.cells #[.int .i64 z] te)
 have hBw:B≤w.heap.size:=Nat.le_trans hB he.size
 refine⟨hx,⟨[.int .i64 z],⟨rfl,.inr ⟨w.heap.size,1,#[.int .i64 z],rfl,hBw,fK w _ _,Nat.le_refl _,by decide,rfl,rfl⟩⟩,⟨[.int .i64 z],[],rfl,rfl,rfl⟩⟩,hG,Nat.le_trans hBw hx.size⟩
theorem OwR.slN {α:Type}{e:Enc α}[FlE e]{ty:TypeId}{B:Nat}{G N:Nat→Prop}{w:World}{xs:List α}{v:Value}(h:OwR e ty B G w xs v)(hN:∀b,v.ownBlock=some b→¬N b):(Dv (slE e) N xs).p v w:=by
 obtain⟨cs,h1,h2⟩:=h.own
 refine Dv.sl.2 ?_
 rcases h1.2 with ⟨hv,hn⟩|⟨g,cap,cur,hv,hB,hg,hn,hm,hs,ht⟩
 ·exact .inl ⟨hv,List.eq_nil_of_length_eq_zero hn⟩
 ·exact .inr ⟨_,cap,cs,hv,hn,hN g (by rw[hv];rfl),(Array.getElem?_eq_some_iff.1 hg).1,Cells.fl h2,h1.cells (by rw[hv];rfl)⟩
end Go.Mono
namespace Go.Mono
open Go Go.Proofs Go.RowKit Go.Gr
theorem zm (ao:Option Addr)(n c:Nat):Tryz.prog.built 26 [(1,.slice ao n c)]=some #[.slice none 0 0,.slice ao n c]:=by kernel_rfl
theorem zn (ao:Option Addr)(n c:Nat):Tryz.prog.built 26 [(0,.slice ao n c)]=some #[.slice ao n c,.slice none 0 0]:=by kernel_rfl
theorem slOne {α:Type}{e:Enc α}{G:Nat→Prop}{xs:List α}{v:Value}{w:World}(h:(Dv (slE e) G xs).p v w):v.oneCell'=true:=by
 obtain⟨ao,n,c,rfl⟩:=Dv.slF h;rfl
theorem bY {u v:Value}(h:u.oneCell'=true)(k:v.oneCell'=true):(#[u,v]:Array Value).all (·.oneCell')=true:=by simp[h,k]
theorem zo {G:Nat→Prop}(g:GT)(x:VT)(v:Value)(W:World)(h:(Dv gtE G g).p v W)(hG:∀b,G b→b<W.heap.size)(hl:g.1.length≤100000) :
  Calls Tryz.prog 47 #[v,vtV x] W (Post (Dv gtE G (insV g.1 x,g.2)) W):=by
 obtain⟨u1,u2,rfl,h1,h2⟩:=Dv.gt.1 h
 obtain⟨a2,n2,c2,rfl⟩:=Dv.slF h2
 have h1b:=Dv.toB h1
 have hl2:=fun k=>qH (fun y:VT=>lt1 x.1 y.1) x g.1 k
 refine eN [.agg #[u1,.slice a2 n2 c2],vtV x] [E (.agg #[u1,.slice a2 n2 c2]),E (vtV x)] Tryz.func47 Tryz.ntmps47 ?_ fun a hf=>?_
 rotate_left
 dsimp only[params,Nat.reduceAdd] at hf
 rotate_right
 ·exact arg2 rfl rfl
 have e:=Ext.rfl' W
 refine seq <| ae <| tB hf rfl fun a b2 w v2 hv2 e' hb2 hs2 B2 hf=>?_
 replace e:=e.tr e'
 refine tB hf rfl fun a b3 w v3 hv3 e' hb3 hs3 B3 hf=>?_
 obtain⟨e,B2⟩:=up2 e' e B2
 refine tL I26 hf fun a b4 w e' hb4 hs4 B4 hf=>?_
 obtain⟨e,B2,B3⟩:=up3 e' e B2 B3
 refine aa ?_
 cases hv2;cases hv3
 refine seq <| rgN 3 hf <| st (fA U26 rfl T24 rfl) <| st (ld1 T24 rfl (by assumption) rfl) <| st (bK [(1,_)] rfl (zm a2 n2 c2)) <| en fun a w e' hf=>?_
 obtain⟨e,B2,B3,B4⟩:=up4 e' e B2 B3 B4
 refine tL I26 hf fun a b5 w e' hb5 hs5 B5 hf=>?_
 have lt5_B3:=B3.lt
 have lt5_B4:=B4.lt
 obtain⟨e,B2,B3,B4⟩:=up4 e' e B2 B3 B4
 haveI hinr:∀G0,InR (GB W G0) (some b5):=fun G0=>InR.gb (by omega)
 refine az T26 hf rfl rfl (bY rfl rfl) B5 rfl (rfl) fun w hg hsz B5 hf=>?_
 obtain⟨e,B2,B3,B4⟩:=gr4 hg e B2 B3 B4
 refine aa <| seq <| ae <| tA hf rfl fun a hf=>aa ?_
 repeat refine seq ?_
 refine ae <| tA hf rfl fun a hf=>aa ?_
 replace hf:=hf.keep [2,3,4,5,6,7]
 refine blk (aJ (fun r0 a w=>∃(k:Nat) (u:Value) (dn:Bool),r0=g.1.length - k∧k≤g.1.length∧Fr 56 a w [(2,E (.pointer (some ⟨b2,0,none⟩))),(3,E (.pointer (some ⟨b3,0,none⟩))),(4,E (.pointer (some ⟨b4,0,none⟩))),(5,E (.pointer (some ⟨b5,0,none⟩))),(6,E (.bool dn)),(7,E (I k))]∧Ext W w∧Blk w b2 #[u1,.slice a2 n2 c2] 26∧Blk w b3 (vtV x).cells 58∧Blk w b4 #[.slice none 0 0,.slice none 0 0] 26∧Blk w b5 #[u,.slice a2 n2 c2] 26∧OwR vtE 58 (b5+1) G w (er (fun y=>lt1 x.1 y.1) x g.1 k) u∧dn=(g.1.take k).any (fun y=>lt1 x.1 y.1)) g.1.length ⟨0,.slice none 0 0, false,rfl,by omega,hf,e,⟨B2,B3,B4,B5,OwR.nil vtE _ (by have:=B5.lt;omega) fun b hb=>Nat.lt_of_lt_of_le (hG b hb) (by omega),by simp⟩⟩ ?_)
 rintro r0 a w ⟨k,u,dn,rfl,hk,hf,e,B2,B3,B4,B5,Ho,hdn⟩
 repeat refine seq ?_
 refine rgN 5 hf <| st (mv rfl) <| st (fA U26 rfl T23 rfl) <| st (ld1 T23 rfl (by assumption) rfl) <| st (aF U23 (isE rfl (VA.st _ _ _ _ e h1))) <| st (lss rfl rfl) <| en fun a w e' hf=>?_
 obtain⟨e,B2,B3,B4,B5,Ho⟩:=up6 e' e B2 B3 B4 B5 Ho
 refine aa <| ifc hf rfl (fun hc=>ak ?_) (fun hc=>aG ?_)
 rotate_left
 rotate_left
 ·have hlt:k<g.1.length:=by have:=of_decide_eq_true hc;(try dsimp only at this);omega
  replace hf:=hf.keep [2,3,4,5,6,7]
  refine seq <| blk ?_
  have hg:=List.getElem?_eq_getElem hlt
  generalize g.1[k]=y at hg
  have hs:=qE (fun y:VT=>lt1 x.1 y.1) x g.1 hg
  have ha:=qF (fun y:VT=>lt1 x.1 y.1) g.1 hg
  have hlk:=hl2 k
  have hlk':=hl2 (k+1)
  repeat refine seq ?_
  refine rgG 13 Mix.mix hf <| st (mv rfl) <| st (bA rfl) <| st (mv rfl) <| sgE rfl rfl (.k 2 rfl .n) (fun hgd=>fA U26 rfl T23 rfl) <| sgE rfl rfl (.c 21 rfl (fun h=>h) .n) (fun hgd=>ld1 T23 rfl B2 rfl) <| sgE rfl rfl (.k 7 rfl .n) (fun hgd=>mv rfl) <| sgE rfl rfl (.c 22 rfl (fun h=>h) (.c 23 rfl (fun h=>h) .n)) (fun hgd=>aL U23 S58 (isE rfl (VA.st _ _ _ _ e h1)) rfl rfl (hg)) <| sgE rfl rfl (.c 24 rfl (fun h=>h) .n) (fun hgd=>aB U58 rfl T3 (by decide) (Fld.fst Fld.refl) (isR rfl)) <| sgE rfl rfl (.c 25 rfl (fun h=>h) .n) (fun hgd=>ldI T3 (isR rfl)) <| sgE rfl rfl (.k 3 rfl .n) (fun hgd=>fA U58 rfl T3 rfl) <| sgE rfl rfl (.c 27 rfl (fun h=>h) .n) (fun hgd=>ld1 T3 rfl B3 rfl) <| sgE rfl rfl (.c 26 rfl (fun h=>h) (.c 28 rfl (fun h=>h) .n)) (fun hgd=>(gtr rfl rfl).eq (congrArg Value.bool ((rfl:_=lt1 x.1 y.1)))) <| st (bG rfl rfl (fun h=>by rw[h];rfl)) ?_
  refine en fun a w e' hf=>?_
  obtain⟨Ho,e,B2,B3,B4,B5⟩:=up6 e' Ho e B2 B3 B4 B5
  refine aa <| ifc hf rfl (fun hb=>?_) (fun hb=>?_)
  ·replace hf:=hf.kp [2,3,4,5,6,7]
   rw[← hdn,if_pos hb] at hs
   have hd:(g.1.take (k+1)).any (fun y=>lt1 x.1 y.1)=true:=by rw[ha];simp only[Bool.and_eq_true] at hb;rw[hb.2,Bool.or_true]
   have n2:=Ho.neLt (b:=b2) (by omega);have n3:=Ho.neLt (b:=b3) (by omega);have n4:=Ho.neLt (b:=b4) (by omega);have n5:=Ho.neLt (b:=b5) (by omega)
   refine seq <| rgN 4 hf <| st (fA U26 rfl T23 rfl) <| st ((ld1 T23 rfl (by assumption) rfl).eq ((rfl:_=u))) <| st ((ldW T58 rfl (by assumption) rfl).eq ((rfl:_=vtV x))) <| st (bB U23 I58 rfl (by decide) rfl Ho.avs (eu rfl)) <| en fun a w e' hf=>?_
   obtain⟨Ho,e,B2,B3,B4,B5⟩:=up6 e' Ho e B2 B3 B4 B5
   haveI hin:∀G0,InR (GB W G0) _:=OwR.inGB (W:=W) Ho (by omega)
   refine bI U23 I58 rfl rfl hf (by decide) rfl Ho (isR rfl) (by simp only[List.length_singleton];omega) (by simp only[List.length_singleton,maxLen];omega) fun a v w hg hat Hn hf=>?_
   replace e:=e.gro hg (Ho.row (W:=W) (by omega))
   have hrow:=Ho.row (W:=W) (by omega)
   replace Ho:=Hn
   replace B2:=B2.gro hg (by assumption)
   replace B3:=B3.gro hg (by assumption)
   replace B4:=B4.gro hg (by assumption)
   replace B5:=B5.gro hg (by assumption)
   replace Ho:=Hn;clear Hn hg hat hin
   replace hf:=hf.kp [2,3,4,5,7,35]
   clear n2 n3 n4 n5
   refine tP hf (fA U26 rfl T23 rfl) fun a w e' hf=>?_
   obtain⟨Ho,e,B2,B3,B4,B5⟩:=up6 e' Ho e B2 B3 B4 B5
   refine aA T23 hf rfl rfl (slOne Ho.sl) B5 (by simp) fun w hg hsz B5 hf=>?_
   replace Ho:=Ho.grE hg (Ho.neLt (by omega))
   replace e:=e.gr hg (by omega)
   replace B2:=B2.gr hg (by omega)
   replace B3:=B3.gr hg (by omega)
   replace B4:=B4.gr hg (by omega)
   clear hg
   refine aa ?_
   replace hf:=hf.kp [2,3,4,5,7]
   refine ae <| tA hf rfl fun a hf=>aa ?_
   replace hf:=hf.kp [2,3,4,5,6,7]
   have n2:=Ho.neLt (b:=b2) (by omega);have n3:=Ho.neLt (b:=b3) (by omega);have n4:=Ho.neLt (b:=b4) (by omega);have n5:=Ho.neLt (b:=b5) (by omega)
   refine rgG 8 Mix.mix hf <| st (fA U26 rfl T23 rfl) <| st ((ld1 T23 rfl (by assumption) rfl).eq ((rfl:_=v))) <| st (fA U26 rfl T23 rfl) <| st (ld1 T23 rfl B2 rfl) <| st (mv rfl) <| st (aL U23 S58 (isE rfl (VA.st _ _ _ _ e h1b)) rfl (by omega) (hg)) <| st (ij T58 (isR rfl)) <| st (bB U23 I58 rfl (by decide) rfl Ho.avs (eu rfl)) <| en fun a w e' hf=>?_
   obtain⟨Ho,e,B2,B3,B4,B5⟩:=up6 e' Ho e B2 B3 B4 B5
   haveI hin:∀G0,InR (GB W G0) _:=OwR.inGB (W:=W) Ho (by omega)
   refine bI U23 I58 rfl rfl hf (by decide) rfl Ho (isR rfl) (by simp only[List.length_singleton,List.length_append];omega) (by simp only[List.length_singleton,List.length_append,maxLen];omega) fun a v w hg hat Hn hf=>?_
   replace e:=e.gro hg (Ho.row (W:=W) (by omega))
   have hrow:=Ho.row (W:=W) (by omega)
   replace Ho:=Hn
   replace B2:=B2.gro hg (by assumption)
   replace B3:=B3.gro hg (by assumption)
   replace B4:=B4.gro hg (by assumption)
   replace B5:=B5.gro hg (by assumption)
   replace Ho:=Hn;clear Hn hg hat hin
   replace hf:=hf.kp [2,3,4,5,6,7,45]
   refine tP hf (fA U26 rfl T23 rfl) fun a w e' hf=>?_
   obtain⟨Ho,e,B2,B3,B4,B5⟩:=up6 e' Ho e B2 B3 B4 B5
   refine aA T23 hf rfl rfl (slOne Ho.sl) B5 (by simp) fun w hg hsz B5 hf=>?_
   obtain⟨e,B2,B3,B4⟩:=gr4 hg e B2 B3 B4
   replace Ho:=Ho.grE hg (Ho.neLt (by omega))
   refine aa <| rgN 2 hf <| st (mv rfl) <| st ((add rfl rfl (by omega)).eq (congrArg (Value.int .i64) (show (k:Int)+1=((k+1:Nat):Int) from rfl))) <| en fun a w e' hf=>?_
   obtain⟨Ho,e,B2,B3,B4,B5⟩:=up6 e' Ho e B2 B3 B4 B5
   refine tA hf rfl fun a hf=>aa ?_
   replace hf:=hf.kp [2,3,4,5,6,7]
   refine⟨_,?_,k+1,v,_,rfl,by omega,hf,e,?_⟩
   ·omega
   exact⟨B2,B3,B4,B5,by rw[hs];exact Ho,hd.symm⟩
  ·replace hf:=hf.kp [2,3,4,5,6,7]
   refine ak ?_
   rw[← hdn,if_neg (aK hb)] at hs
   have hd:(g.1.take (k+1)).any (fun y=>lt1 x.1 y.1)=dn:=by
    rw[ha,← hdn]
    cases hq:dn
    ·rw[hq] at hb;simpa using hb
    ·rfl
   have n2:=Ho.neLt (b:=b2) (by omega);have n3:=Ho.neLt (b:=b3) (by omega);have n4:=Ho.neLt (b:=b4) (by omega);have n5:=Ho.neLt (b:=b5) (by omega)
   refine rgG 8 Mix.mix hf <| st (fA U26 rfl T23 rfl) <| st ((ld1 T23 rfl (by assumption) rfl).eq ((rfl:_=u))) <| st (fA U26 rfl T23 rfl) <| st (ld1 T23 rfl B2 rfl) <| st (mv rfl) <| st (aL U23 S58 (isE rfl (VA.st _ _ _ _ e h1b)) rfl (by omega) (hg)) <| st (ij T58 (isR rfl)) <| st (bB U23 I58 rfl (by decide) rfl Ho.avs (eu rfl)) <| en fun a w e' hf=>?_
   obtain⟨Ho,e,B2,B3,B4,B5⟩:=up6 e' Ho e B2 B3 B4 B5
   haveI hin:∀G0,InR (GB W G0) _:=OwR.inGB (W:=W) Ho (by omega)
   refine bI U23 I58 rfl rfl hf (by decide) rfl Ho (isR rfl) (by simp only[List.length_singleton,List.length_append];omega) (by simp only[List.length_singleton,List.length_append,maxLen];omega) fun a v w hg hat Hn hf=>?_
   replace e:=e.gro hg (Ho.row (W:=W) (by omega))
   have hrow:=Ho.row (W:=W) (by omega)
   replace Ho:=Hn
   replace B2:=B2.gro hg (by assumption)
   replace B3:=B3.gro hg (by assumption)
   replace B4:=B4.gro hg (by assumption)
   replace B5:=B5.gro hg (by assumption)
   replace Ho:=Hn;clear Hn hg hat hin
   replace hf:=hf.kp [2,3,4,5,6,7,45]
   refine tP hf (fA U26 rfl T23 rfl) fun a w e' hf=>?_
   obtain⟨Ho,e,B2,B3,B4,B5⟩:=up6 e' Ho e B2 B3 B4 B5
   refine aA T23 hf rfl rfl (slOne Ho.sl) B5 (by simp) fun w hg hsz B5 hf=>?_
   obtain⟨e,B2,B3,B4⟩:=gr4 hg e B2 B3 B4
   replace Ho:=Ho.grE hg (Ho.neLt (by omega))
   refine aa <| rgN 2 hf <| st (mv rfl) <| st ((add rfl rfl (by omega)).eq (congrArg (Value.int .i64) (show (k:Int)+1=((k+1:Nat):Int) from rfl))) <| en fun a w e' hf=>?_
   obtain⟨Ho,e,B2,B3,B4,B5⟩:=up6 e' Ho e B2 B3 B4 B5
   refine tA hf rfl fun a hf=>aa ?_
   replace hf:=hf.kp [2,3,4,5,6,7]
   refine⟨_,?_,k+1,v,_,rfl,by omega,hf,e,?_⟩
   ·omega
   exact⟨B2,B3,B4,B5,by rw[hs];exact Ho,hd.symm⟩
 ·obtain rfl:k=g.1.length:=by have:=of_decide_eq_false hc;(try dsimp only at this);omega
  rw[List.take_length] at hdn
  have hend:=qG (fun y:VT=>lt1 x.1 y.1) x g.1
  rw[← hdn] at hend
  have fin:∀(w:World) (z:Value) (L:List VT),Ext W w→OwR vtE 58 (b5+1) G w L z→L=bV (fun y=>lt1 x.1 y.1) x g.1→(Dv gtE G (insV g.1 x,g.2)).p (.agg #[z,.slice a2 n2 c2]) w:=fun w z L e Ho hL=>Dv.gt.2 ⟨_,_,rfl,by rw[insV,← hL];exact Ho.sl,VA.st _ _ _ _ e h2⟩
  repeat refine seq ?_
  refine rgN 2 hf <| st (mv rfl) <| st (bA rfl) <| en fun a w e' hf=>?_
  obtain⟨Ho,e,B2,B3,B4,B5⟩:=up6 e' Ho e B2 B3 B4 B5
  refine aa <| ifc hf rfl (fun hb=>?_) (fun hb=>?_)
  ·have hd:dn=false:=by simpa using hb
   rw[hd,if_neg (by decide)] at hend
   have n2:=Ho.neLt (b:=b2) (by omega);have n3:=Ho.neLt (b:=b3) (by omega);have n4:=Ho.neLt (b:=b4) (by omega);have n5:=Ho.neLt (b:=b5) (by omega)
   have hlk:=hl2 g.1.length
   refine rgN 4 hf <| st (fA U26 rfl T23 rfl) <| st ((ld1 T23 rfl (by assumption) rfl).eq ((rfl:_=u))) <| st ((ldW T58 rfl (by assumption) rfl).eq ((rfl:_=vtV x))) <| st (bB U23 I58 rfl (by decide) rfl Ho.avs (eu rfl)) <| en fun a w e' hf=>?_
   obtain⟨Ho,e,B2,B3,B4,B5⟩:=up6 e' Ho e B2 B3 B4 B5
   haveI hin:∀G0,InR (GB W G0) _:=OwR.inGB (W:=W) Ho (by omega)
   refine bI U23 I58 rfl rfl hf (by decide) rfl Ho (isR rfl) (by simp only[List.length_singleton];omega) (by simp only[List.length_singleton,maxLen];omega) fun a v w hg hat Hn hf=>?_
   replace e:=e.gro hg (Ho.row (W:=W) (by omega))
   have hrow:=Ho.row (W:=W) (by omega)
   replace Ho:=Hn
   clear hrow
   replace B2:=B2.gro hg (by assumption)
   replace B3:=B3.gro hg (by assumption)
   replace B4:=B4.gro hg (by assumption)
   replace B5:=B5.gro hg (by assumption)
   replace Ho:=Hn;clear Hn hg hat hin
   replace hf:=hf.kp [2,3,4,5,7,53]
   clear n2 n3 n4 n5
   refine tP hf (fA U26 rfl T23 rfl) fun a w e' hf=>?_
   obtain⟨Ho,e,B2,B3,B4,B5⟩:=up6 e' Ho e B2 B3 B4 B5
   refine aA T23 hf rfl rfl (slOne Ho.sl) B5 (by simp) fun w hg hsz B5 hf=>?_
   obtain⟨e,B2,B3,B4⟩:=gr4 hg e B2 B3 B4
   replace Ho:=Ho.grE hg (Ho.neLt (by omega))
   refine aa ?_
   replace hf:=hf.kp [2,3,4,5,7]
   refine seq <| rgN 1 hf <| st ((ldW T26 rfl (by assumption) rfl).eq ((rfl:_=Value.agg #[v,.slice a2 n2 c2]))) <| en fun a w e' hf=>?_
   obtain⟨Ho,e,B2,B3,B4,B5⟩:=up6 e' Ho e B2 B3 B4 B5
   haveI hinr:∀G0,InR (GB W G0) (some b4):=fun G0=>InR.gb (by omega)
   refine az T26 hf rfl rfl (bY (slOne Ho.sl) rfl) B4 rfl (rfl) fun w hg hsz B4 hf=>?_
   obtain⟨e,B2,B3,B5⟩:=gr4 hg e B2 B3 B5
   replace Ho:=Ho.grE hg (Ho.neLt (by omega))
   refine aa <| ai (dP rfl T26 hf rfl B4 rfl ?_)
   exact⟨_,rfl,e,fin _ _ _ e Ho hend⟩
  ·have hd:dn=true:=by simpa using hb
   rw[hd,if_pos rfl] at hend
   refine ak ?_
   replace hf:=hf.kp [2,3,4,5,7]
   refine seq <| rgN 1 hf <| st ((ldW T26 rfl (by assumption) rfl).eq ((rfl:_=Value.agg #[u,.slice a2 n2 c2]))) <| en fun a w e' hf=>?_
   obtain⟨Ho,e,B2,B3,B4,B5⟩:=up6 e' Ho e B2 B3 B4 B5
   haveI hinr:∀G0,InR (GB W G0) (some b4):=fun G0=>InR.gb (by omega)
   refine az T26 hf rfl rfl (bY (slOne Ho.sl) rfl) B4 rfl (rfl) fun w hg hsz B4 hf=>?_
   obtain⟨e,B2,B3,B5⟩:=gr4 hg e B2 B3 B5
   replace Ho:=Ho.grE hg (Ho.neLt (by omega))
   refine aa <| ai (dP rfl T26 hf rfl B4 rfl ?_)
   exact⟨_,rfl,e,fin _ _ _ e Ho hend⟩
theorem zp {G:Nat→Prop}(g:GT)(x:ET)(v:Value)(W:World)(h:(Dv gtE G g).p v W)(hG:∀b,G b→b<W.heap.size)(hl:g.2.length≤100000) :
  Calls Tryz.prog 48 #[v,etV x] W (Post (Dv gtE G (g.1,ii g.2 x)) W):=by
 obtain⟨u1,u2,rfl,h1,h2⟩:=Dv.gt.1 h
 obtain⟨a2,n2,c2,rfl⟩:=Dv.slF h1
 have h1b:=Dv.toB h2
 have hl2:=fun k=>qH (fun y:ET=>lt2 x.1 y.1) x g.2 k
 refine eN [.agg #[.slice a2 n2 c2,u2],etV x] [E (.agg #[.slice a2 n2 c2,u2]),E (etV x)] Tryz.func48 Tryz.ntmps48 ?_ fun a hf=>?_
 rotate_left
 dsimp only[params,Nat.reduceAdd] at hf
 rotate_right
 ·exact arg2 rfl rfl
 have e:=Ext.rfl' W
 refine seq <| ae <| tB hf rfl fun a b2 w v2 hv2 e' hb2 hs2 B2 hf=>?_
 replace e:=e.tr e'
 refine tB hf rfl fun a b3 w v3 hv3 e' hb3 hs3 B3 hf=>?_
 obtain⟨e,B2⟩:=up2 e' e B2
 refine tL I26 hf fun a b4 w e' hb4 hs4 B4 hf=>?_
 obtain⟨e,B2,B3⟩:=up3 e' e B2 B3
 refine aa ?_
 cases hv2;cases hv3
 refine seq <| rgN 3 hf <| st (fA U26 rfl T23 rfl) <| st (ld1 T23 rfl (by assumption) rfl) <| st (bK [(0,_)] rfl (zn a2 n2 c2)) <| en fun a w e' hf=>?_
 obtain⟨e,B2,B3,B4⟩:=up4 e' e B2 B3 B4
 refine tL I26 hf fun a b5 w e' hb5 hs5 B5 hf=>?_
 have lt5_B3:=B3.lt
 have lt5_B4:=B4.lt
 obtain⟨e,B2,B3,B4⟩:=up4 e' e B2 B3 B4
 haveI hinr:∀G0,InR (GB W G0) (some b5):=fun G0=>InR.gb (by omega)
 refine az T26 hf rfl rfl (bY rfl rfl) B5 rfl (rfl) fun w hg hsz B5 hf=>?_
 obtain⟨e,B2,B3,B4⟩:=gr4 hg e B2 B3 B4
 refine aa <| seq <| ae <| tA hf rfl fun a hf=>aa ?_
 repeat refine seq ?_
 refine ae <| tA hf rfl fun a hf=>aa ?_
 replace hf:=hf.kp [2,3,4,5,6,7]
 refine blk (aJ (fun r0 a w=>∃(k:Nat) (u:Value) (dn:Bool),r0=g.2.length - k∧k≤g.2.length∧Fr 68 a w [(2,E (.pointer (some ⟨b2,0,none⟩))),(3,E (.pointer (some ⟨b3,0,none⟩))),(4,E (.pointer (some ⟨b4,0,none⟩))),(5,E (.pointer (some ⟨b5,0,none⟩))),(6,E (.bool dn)),(7,E (I k))]∧Ext W w∧Blk w b2 #[.slice a2 n2 c2,u2] 26∧Blk w b3 (etV x).cells 61∧Blk w b4 #[.slice none 0 0,.slice none 0 0] 26∧Blk w b5 #[.slice a2 n2 c2,u] 26∧OwR etE 61 (b5+1) G w (er (fun y=>lt2 x.1 y.1) x g.2 k) u∧dn=(g.2.take k).any (fun y=>lt2 x.1 y.1)) g.2.length ⟨0,.slice none 0 0, false,rfl,by omega,hf,e,⟨B2,B3,B4,B5,OwR.nil etE _ (by have:=B5.lt;omega) fun b hb=>Nat.lt_of_lt_of_le (hG b hb) (by omega),by simp⟩⟩ ?_)
 rintro r0 a w ⟨k,u,dn,rfl,hk,hf,e,B2,B3,B4,B5,Ho,hdn⟩
 repeat refine seq ?_
 refine rgN 5 hf <| st (mv rfl) <| st (fA U26 rfl T24 rfl) <| st (ld1 T24 rfl (by assumption) rfl) <| st (aF U24 (isE rfl (VA.st _ _ _ _ e h2))) <| st (lss rfl rfl) <| en fun a w e' hf=>?_
 obtain⟨e,B2,B3,B4,B5,Ho⟩:=up6 e' e B2 B3 B4 B5 Ho
 refine aa <| ifc hf rfl (fun hc=>ak ?_) (fun hc=>aG ?_)
 rotate_left
 rotate_left
 ·have hlt:k<g.2.length:=by have:=of_decide_eq_true hc;(try dsimp only at this);omega
  replace hf:=hf.kp [2,3,4,5,6,7]
  refine seq <| blk ?_
  have hg:=List.getElem?_eq_getElem hlt
  generalize g.2[k]=y at hg
  have hs:=qE (fun y:ET=>lt2 x.1 y.1) x g.2 hg
  have ha:=qF (fun y:ET=>lt2 x.1 y.1) g.2 hg
  have hlk:=hl2 k
  have hlk':=hl2 (k+1)
  refine seq <| ae <| tP hf (fA U26 rfl T24 rfl) fun a w e' hf=>?_
  obtain⟨Ho,e,B2,B3,B4,B5⟩:=up6 e' Ho e B2 B3 B4 B5
  refine tP hf (ld1 T24 rfl B2 rfl) fun a w e' hf=>?_
  obtain⟨Ho,e,B2,B3,B4,B5⟩:=up6 e' Ho e B2 B3 B4 B5
  refine tP hf (mv rfl) fun a w e' hf=>?_
  obtain⟨Ho,e,B2,B3,B4,B5⟩:=up6 e' Ho e B2 B3 B4 B5
  refine tP hf (aL U24 S61 (isE rfl (VA.st _ _ _ _ e h1b)) rfl (by omega) (hg)) fun a w e' hf=>?_
  obtain⟨Ho,e,B2,B3,B4,B5⟩:=up6 e' Ho e B2 B3 B4 B5
  refine tP hf (gK T61 (isR rfl)) fun a w e' hf=>?_
  obtain⟨Ho,e,B2,B3,B4,B5⟩:=up6 e' Ho e B2 B3 B4 B5
  refine tL I61 hf fun a b8 w e' hb8 hs8 B8 hf=>?_
  have hle8:=Nat.le_trans e.size (Nat.le_of_eq hb8.symm)
  have ne8_Ho:=Ho.ne_new hb8
  have lt8_B4:=B4.lt
  have lt8_B5:=B5.lt
  obtain⟨Ho,e,B2,B3,B4,B5⟩:=up6 e' Ho e B2 B3 B4 B5
  have n8:=ne8_Ho
  replace hf:=hf.kp [2,3,4,5,6,7,8,23]
  refine az T61 hf rfl rfl (by simp[Array.all_eq_true_iff_forall_mem];exact⟨rfl,rfl,rfl,rfl⟩) B8 rfl rfl fun w hg' hsz B8 hf=>?_
  replace e:=e.gr hg' (by omega);replace B2:=B2.gr hg' (by omega);replace B3:=B3.gr hg' (by omega);replace B4:=B4.gr hg' (by omega);replace B5:=B5.gr hg' (by omega);replace Ho:=Ho.grE hg' n8;clear hg'
  refine aa ?_
  have hll:lt2 x.1 y.1=(decide (x.1.1<y.1.1) || (y.1.1==x.1.1&&decide (x.1.2<y.1.2))):=by
   rw[Bool.eq_iff_iff];simp only[lt2,decide_eq_true_eq,Bool.or_eq_true,Bool.and_eq_true,beq_iff_eq];omega
  replace hf:=hf.kp [2,3,4,5,6,7,8]
  repeat refine seq ?_
  refine rgN 23 hf <| st (mv rfl) <| st (bA rfl) <| st (mv rfl) <| sgE rfl rfl (.k 8 rfl .n) (fun hgd=>fA U61 rfl T3 rfl) <| sgE rfl rfl (.c 27 rfl (fun h=>h) .n) (fun hgd=>ld1 T3 rfl B8 rfl) <| sgE rfl rfl (.k 3 rfl .n) (fun hgd=>fA U61 rfl T3 rfl) <| sgE rfl rfl (.c 29 rfl (fun h=>h) .n) (fun hgd=>ld1 T3 rfl B3 rfl) <| sgE rfl rfl (.c 28 rfl (fun h=>h) (.c 30 rfl (fun h=>h) .n)) (fun hgd=>gtr rfl rfl) <| sgE rfl rfl (.c 31 rfl (fun h=>h) .n) (fun hgd=>mv rfl) <| sgC rfl rfl (.k 8 rfl .n) (fun hgd=>fA U61 rfl T3 rfl) <| sgC rfl rfl (.c 33 rfl (fun h=>h) .n) (fun hgd=>ld1 T3 rfl B8 rfl) <| sgC rfl rfl (.k 3 rfl .n) (fun hgd=>fA U61 rfl T3 rfl) <| sgC rfl rfl (.c 35 rfl (fun h=>h) .n) (fun hgd=>ld1 T3 rfl B3 rfl) <| sgC rfl rfl (.c 34 rfl (fun h=>h) (.c 36 rfl (fun h=>h) .n)) (fun hgd=>eql rfl rfl) <| sgC rfl rfl (.c 37 rfl (fun h=>h) .n) (fun hgd=>mv rfl) <| sgC rfl rfl (.k 8 rfl .n) (fun hgd=>fA U61 rfl T3 rfl) <| sgC rfl rfl (.c 39 rfl (fun h=>h) .n) (fun hgd=>ld1 T3 rfl B8 rfl) <| sgC rfl rfl (.k 3 rfl .n) (fun hgd=>fA U61 rfl T3 rfl) <| sgC rfl rfl (.c 41 rfl (fun h=>h) .n) (fun hgd=>ld1 T3 rfl B3 rfl) <| sgC rfl rfl (.c 40 rfl (fun h=>h) (.c 42 rfl (fun h=>h) .n)) (fun hgd=>gtr rfl rfl) <| sgC rfl rfl (.c 38 rfl (fun h=>h) (.k 43 rfl .n)) (fun hgd=>bG rfl rfl (fun h=>by rw[hgd,h];rfl)) ?_
  refine sgE rfl rfl (.c 32 rfl (fun h=>h) (.k 44 rfl .n)) (fun hgd=>bO rfl rfl (fun h=>by rw[hgd,h];rfl)) ?_
  refine st (bG rfl rfl (fun h=>by rw[h];rfl)) ?_
  refine en fun a w e' hf=>?_
  obtain⟨Ho,e,B2,B3,B4,B5,B8⟩:=up7 e' Ho e B2 B3 B4 B5 B8
  refine aa <| ifc hf rfl (fun hb=>?_) (fun hb=>?_)
  ·replace hf:=hf.kp [2,3,4,5,6,7,8]
   rw[← hll] at hb
   rw[← hdn,if_pos hb] at hs
   have hd:(g.2.take (k+1)).any (fun y=>lt2 x.1 y.1)=true:=by rw[ha];simp only[Bool.and_eq_true] at hb;rw[hb.2,Bool.or_true]
   have n2:=Ho.neLt (b:=b2) (by omega);have n3:=Ho.neLt (b:=b3) (by omega);have n4:=Ho.neLt (b:=b4) (by omega);have n5:=Ho.neLt (b:=b5) (by omega)
   refine seq <| rgN 4 hf <| st (fA U26 rfl T24 rfl) <| st ((ld1 T24 rfl (by assumption) rfl).eq ((rfl:_=u))) <| st ((ldW T61 rfl B3 rfl).eq ((rfl:_=etV x))) <| st (bB U24 I61 rfl (by decide) rfl Ho.avs (ea rfl)) <| en fun a w e' hf=>?_
   obtain⟨Ho,e,B2,B3,B4,B5,B8⟩:=up7 e' Ho e B2 B3 B4 B5 B8
   haveI hin:∀G0,InR (GB W G0) _:=OwR.inGB (W:=W) Ho (by omega)
   refine bI U24 I61 rfl rfl hf (by decide) rfl Ho (isR rfl) (by simp only[List.length_singleton];omega) (by simp only[List.length_singleton,maxLen];omega) fun a v w hg hat Hn hf=>?_
   replace e:=e.gro hg (Ho.row (W:=W) (by omega))
   have hrow:=Ho.row (W:=W) (by omega)
   replace Ho:=Hn
   have n8':=yc hat n8 B8.lt
   replace B2:=B2.gro hg (by assumption)
   replace B3:=B3.gro hg (by assumption)
   replace B4:=B4.gro hg (by assumption)
   replace B5:=B5.gro hg (by assumption)
   replace B8:=B8.gro hg (by assumption)
   replace n8:=n8';clear n8'
   replace Ho:=Hn;clear Hn hg hat hin
   replace hf:=hf.kp [2,3,4,5,7,8,51]
   refine tP hf (fA U26 rfl T24 rfl) fun a w e' hf=>?_
   obtain⟨Ho,e,B2,B3,B4,B5,B8⟩:=up7 e' Ho e B2 B3 B4 B5 B8
   refine aA T24 hf rfl rfl (slOne Ho.sl) B5 (by simp) fun w hg hsz B5 hf=>?_
   obtain⟨e,B2,B3,B4,B8⟩:=gr5 hg e B2 B3 B4 B8
   replace Ho:=Ho.grE hg (Ho.neLt (by omega))
   refine aa ?_
   replace hf:=hf.kp [2,3,4,5,7,8]
   refine ae <| tA hf rfl fun a hf=>aa ?_
   replace hf:=hf.kp [2,3,4,5,6,7,8]
   have n2:=Ho.neLt (b:=b2) (by omega);have n3:=Ho.neLt (b:=b3) (by omega);have n4:=Ho.neLt (b:=b4) (by omega);have n5:=Ho.neLt (b:=b5) (by omega)
   refine rgN 4 hf <| st (fA U26 rfl T24 rfl) <| st ((ld1 T24 rfl (by assumption) rfl).eq ((rfl:_=v))) <| st ((ldW T61 rfl B8 rfl).eq ((rfl:_=etV y))) <| st (bB U24 I61 rfl (by decide) rfl Ho.avs (ea rfl)) <| en fun a w e' hf=>?_
   obtain⟨Ho,e,B2,B3,B4,B5,B8⟩:=up7 e' Ho e B2 B3 B4 B5 B8
   haveI hin:∀G0,InR (GB W G0) _:=OwR.inGB (W:=W) Ho (by omega)
   refine bI U24 I61 rfl rfl hf (by decide) rfl Ho (isR rfl) (by simp only[List.length_singleton,List.length_append];omega) (by simp only[List.length_singleton,List.length_append,maxLen];omega) fun a v w hg hat Hn hf=>?_
   replace e:=e.gro hg (Ho.row (W:=W) (by omega))
   have hrow:=Ho.row (W:=W) (by omega)
   replace Ho:=Hn
   replace B2:=B2.gro hg (by assumption)
   replace B3:=B3.gro hg (by assumption)
   replace B4:=B4.gro hg (by assumption)
   replace B5:=B5.gro hg (by assumption)
   replace B8:=B8.gro hg (by assumption)
   replace Ho:=Hn;clear Hn hg hat hin
   replace hf:=hf.kp [2,3,4,5,6,7,57]
   refine tP hf (fA U26 rfl T24 rfl) fun a w e' hf=>?_
   obtain⟨Ho,e,B2,B3,B4,B5,B8⟩:=up7 e' Ho e B2 B3 B4 B5 B8
   refine aA T24 hf rfl rfl (slOne Ho.sl) B5 (by simp) fun w hg hsz B5 hf=>?_
   obtain⟨e,B2,B3,B4,B8⟩:=gr5 hg e B2 B3 B4 B8
   replace Ho:=Ho.grE hg (Ho.neLt (by omega))
   refine aa <| rgN 2 hf <| st (mv rfl) <| st ((add rfl rfl (by omega)).eq (congrArg (Value.int .i64) (show (k:Int)+1=((k+1:Nat):Int) from rfl))) <| en fun a w e' hf=>?_
   obtain⟨Ho,e,B2,B3,B4,B5,B8⟩:=up7 e' Ho e B2 B3 B4 B5 B8
   refine tA hf rfl fun a hf=>aa ?_
   replace hf:=hf.kp [2,3,4,5,6,7]
   refine⟨_,?_,k+1,v,_,rfl,by omega,hf,e,?_⟩
   ·omega
   exact⟨B2,B3,B4,B5,by rw[hs];exact Ho,hd.symm⟩
  ·replace hf:=hf.kp [2,3,4,5,6,7,8]
   refine ak ?_
   rw[← hll] at hb
   rw[← hdn,if_neg (aK hb)] at hs
   have hd:(g.2.take (k+1)).any (fun y=>lt2 x.1 y.1)=dn:=by
    rw[ha,← hdn]
    cases hq:dn
    ·rw[hq] at hb;simpa using hb
    ·rfl
   have n2:=Ho.neLt (b:=b2) (by omega);have n3:=Ho.neLt (b:=b3) (by omega);have n4:=Ho.neLt (b:=b4) (by omega);have n5:=Ho.neLt (b:=b5) (by omega)
   refine rgN 4 hf <| st (fA U26 rfl T24 rfl) <| st ((ld1 T24 rfl (by assumption) rfl).eq ((rfl:_=u))) <| st ((ldW T61 rfl B8 rfl).eq ((rfl:_=etV y))) <| st (bB U24 I61 rfl (by decide) rfl Ho.avs (ea rfl)) <| en fun a w e' hf=>?_
   obtain⟨Ho,e,B2,B3,B4,B5,B8⟩:=up7 e' Ho e B2 B3 B4 B5 B8
   haveI hin:∀G0,InR (GB W G0) _:=OwR.inGB (W:=W) Ho (by omega)
   refine bI U24 I61 rfl rfl hf (by decide) rfl Ho (isR rfl) (by simp only[List.length_singleton,List.length_append];omega) (by simp only[List.length_singleton,List.length_append,maxLen];omega) fun a v w hg hat Hn hf=>?_
   replace e:=e.gro hg (Ho.row (W:=W) (by omega))
   have hrow:=Ho.row (W:=W) (by omega)
   replace Ho:=Hn
   replace B2:=B2.gro hg (by assumption)
   replace B3:=B3.gro hg (by assumption)
   replace B4:=B4.gro hg (by assumption)
   replace B5:=B5.gro hg (by assumption)
   replace B8:=B8.gro hg (by assumption)
   replace Ho:=Hn;clear Hn hg hat hin
   replace hf:=hf.kp [2,3,4,5,6,7,57]
   refine tP hf (fA U26 rfl T24 rfl) fun a w e' hf=>?_
   obtain⟨Ho,e,B2,B3,B4,B5,B8⟩:=up7 e' Ho e B2 B3 B4 B5 B8
   refine aA T24 hf rfl rfl (slOne Ho.sl) B5 (by simp) fun w hg hsz B5 hf=>?_
   obtain⟨e,B2,B3,B4,B8⟩:=gr5 hg e B2 B3 B4 B8
   replace Ho:=Ho.grE hg (Ho.neLt (by omega))
   refine aa <| rgN 2 hf <| st (mv rfl) <| st ((add rfl rfl (by omega)).eq (congrArg (Value.int .i64) (show (k:Int)+1=((k+1:Nat):Int) from rfl))) <| en fun a w e' hf=>?_
   obtain⟨Ho,e,B2,B3,B4,B5,B8⟩:=up7 e' Ho e B2 B3 B4 B5 B8
   refine tA hf rfl fun a hf=>aa ?_
   replace hf:=hf.kp [2,3,4,5,6,7]
   refine⟨_,?_,k+1,v,_,rfl,by omega,hf,e,?_⟩
   ·omega
   exact⟨B2,B3,B4,B5,by rw[hs];exact Ho,hd.symm⟩
 ·obtain rfl:k=g.2.length:=by have:=of_decide_eq_false hc;(try dsimp only at this);omega
  rw[List.take_length] at hdn
  have hend:=qG (fun y:ET=>lt2 x.1 y.1) x g.2
  rw[← hdn] at hend
  have fin:∀(w:World) (z:Value) (L:List ET),Ext W w→OwR etE 61 (b5+1) G w L z→L=bV (fun y=>lt2 x.1 y.1) x g.2→(Dv gtE G (g.1,ii g.2 x)).p (.agg #[.slice a2 n2 c2,z]) w:=fun w z L e Ho hL=>Dv.gt.2 ⟨_,_,rfl,VA.st _ _ _ _ e h1,by rw[ii,← hL];exact Ho.sl⟩
  repeat refine seq ?_
  refine rgN 2 hf <| st (mv rfl) <| st (bA rfl) <| en fun a w e' hf=>?_
  obtain⟨Ho,e,B2,B3,B4,B5⟩:=up6 e' Ho e B2 B3 B4 B5
  refine aa <| ifc hf rfl (fun hb=>?_) (fun hb=>?_)
  ·have hd:dn=false:=by simpa using hb
   rw[hd,if_neg (by decide)] at hend
   have n2:=Ho.neLt (b:=b2) (by omega);have n3:=Ho.neLt (b:=b3) (by omega);have n4:=Ho.neLt (b:=b4) (by omega);have n5:=Ho.neLt (b:=b5) (by omega)
   have hlk:=hl2 g.2.length
   refine rgN 4 hf <| st (fA U26 rfl T24 rfl) <| st ((ld1 T24 rfl (by assumption) rfl).eq ((rfl:_=u))) <| st ((ldW T61 rfl B3 rfl).eq ((rfl:_=etV x))) <| st (bB U24 I61 rfl (by decide) rfl Ho.avs (ea rfl)) <| en fun a w e' hf=>?_
   obtain⟨Ho,e,B2,B3,B4,B5⟩:=up6 e' Ho e B2 B3 B4 B5
   haveI hin:∀G0,InR (GB W G0) _:=OwR.inGB (W:=W) Ho (by omega)
   refine bI U24 I61 rfl rfl hf (by decide) rfl Ho (isR rfl) (by simp only[List.length_singleton];omega) (by simp only[List.length_singleton,maxLen];omega) fun a v w hg hat Hn hf=>?_
   replace e:=e.gro hg (Ho.row (W:=W) (by omega))
   have hrow:=Ho.row (W:=W) (by omega)
   replace Ho:=Hn
   clear hrow
   replace B2:=B2.gro hg (by assumption)
   replace B3:=B3.gro hg (by assumption)
   replace B4:=B4.gro hg (by assumption)
   replace B5:=B5.gro hg (by assumption)
   replace Ho:=Hn;clear Hn hg hat hin
   replace hf:=hf.kp [2,3,4,5,7,65]
   clear n2 n3 n4 n5
   refine tP hf (fA U26 rfl T24 rfl) fun a w e' hf=>?_
   obtain⟨Ho,e,B2,B3,B4,B5⟩:=up6 e' Ho e B2 B3 B4 B5
   refine aA T24 hf rfl rfl (slOne Ho.sl) B5 (by simp) fun w hg hsz B5 hf=>?_
   obtain⟨e,B2,B3,B4⟩:=gr4 hg e B2 B3 B4
   replace Ho:=Ho.grE hg (Ho.neLt (by omega))
   refine aa ?_
   replace hf:=hf.kp [2,3,4,5,7]
   refine seq <| rgN 1 hf <| st ((ldW T26 rfl (by assumption) rfl).eq ((rfl:_=Value.agg #[.slice a2 n2 c2,v]))) <| en fun a w e' hf=>?_
   obtain⟨Ho,e,B2,B3,B4,B5⟩:=up6 e' Ho e B2 B3 B4 B5
   haveI hinr:∀G0,InR (GB W G0) (some b4):=fun G0=>InR.gb (by omega)
   refine az T26 hf rfl rfl (bY rfl (slOne Ho.sl)) B4 rfl (rfl) fun w hg hsz B4 hf=>?_
   obtain⟨e,B2,B3,B5⟩:=gr4 hg e B2 B3 B5
   replace Ho:=Ho.grE hg (Ho.neLt (by omega))
   refine aa <| ai (dP rfl T26 hf rfl B4 rfl ?_)
   exact⟨_,rfl,e,fin _ _ _ e Ho hend⟩
  ·have hd:dn=true:=by simpa using hb
   rw[hd,if_pos rfl] at hend
   refine ak ?_
   replace hf:=hf.kp [2,3,4,5,7]
   refine seq <| rgN 1 hf <| st ((ldW T26 rfl (by assumption) rfl).eq ((rfl:_=Value.agg #[.slice a2 n2 c2,u]))) <| en fun a w e' hf=>?_
   obtain⟨Ho,e,B2,B3,B4,B5⟩:=up6 e' Ho e B2 B3 B4 B5
   haveI hinr:∀G0,InR (GB W G0) (some b4):=fun G0=>InR.gb (by omega)
   refine az T26 hf rfl rfl (bY rfl (slOne Ho.sl)) B4 rfl (rfl) fun w hg hsz B4 hf=>?_
   obtain⟨e,B2,B3,B5⟩:=gr4 hg e B2 B3 B5
   replace Ho:=Ho.grE hg (Ho.neLt (by omega))
   refine aa <| ai (dP rfl T26 hf rfl B4 rfl ?_)
   exact⟨_,rfl,e,fin _ _ _ e Ho hend⟩
end Go.Mono
namespace Go.Mono
open Go Go.RowKit Go.Gr
structure KV (P:Program)(α β:Type) where
 k:TypeId
 e:TypeId
 kv:α→Value
 kl:α→Lit
 ok:α→Prop
 mv:β→Value
 dv:β→DataW Unit
 okv:β→Prop
 R:Value→Option (DataW Unit×List MemPlace)
 K:Maps.Keyed P k
 key:∀x,ok x→keyOf P k (kv x)=some (kl x)
 keyInv:∀v l,keyOf P k v=some l→∃x,ok x∧v=kv x∧l=kl x
 kvInj:∀x y,kv x=kv y→x=y
 val:∀c,okv c→R (mv c)=some (dv c,[])
 valInv:∀v y,R v=some y→∃c,okv c∧v=mv c∧y=(dv c,[])
 dvInj:∀c c',dv c=dv c'→c=c'
variable {P:Program}{α β:Type}{V:KV P α β}{w w':World}{b n:Nat}{l:List (α×β)}
def KV.enc (V:KV P α β)(p:α×β):Lit×DataW Unit:=(V.kl p.1,V.dv p.2)
def MpR (V:KV P α β)(w:World)(b n:Nat)(l:List (α×β)):Prop:=
 ∃es,w.ownsMap P V.k V.R b n (.map es)∧es.Perm (l.map V.enc)∧(∀p∈l,V.ok p.1∧V.okv p.2)∧l.Pairwise fun p q=>p.1≠q.1
theorem MpR.lt (h:MpR V w b n l):b<w.heap.size:=by obtain⟨es,h,_⟩:=h;exact h.lt
theorem MpR.pres (h:MpR V w b n l)(hb:w'.heap[b]?=w.heap[b]?):MpR V w' b n l:=by
 obtain⟨D,⟨es,clock,h1,h2⟩,h3⟩:=h
 exact⟨D,⟨es,clock,hb.trans h1,h2⟩,h3⟩
theorem MpR.ext (h:MpR V w b n l)(e':Ext w w'):MpR V w' b n l:=h.pres (e'.block b h.lt)
instance:Ug w w' (MpR V w b n l) (MpR V w' b n l):=⟨fun e h=>h.ext e⟩
theorem MpR.gr (h:MpR V w b n l){c:Option Nat}(hg:w.grownBy w' c)(hne:some b≠c):MpR V w' b n l:=h.pres (hg.block b h.lt hne)
instance {d:Nat}:Gg d w w' (MpR V w b n l) (b≠d) (MpR V w' b n l):=⟨fun g s h=>h.gr g fun e=>s (Option.some.inj e)⟩
theorem MpR.perm {l':List (α×β)}(h:MpR V w b n l)(hp:l.Perm l'):MpR V w b n l':=by
 obtain⟨es,h1,h2,h3,h4⟩:=h
 exact⟨es,h1,h2.trans (hp.map _),fun p hp'=>h3 p (hp.mem_iff.2 hp'),(hp.pairwise_iff (fun {_ _} hne=>Ne.symm hne)).1 h4⟩
theorem MpR.mono {n':Nat}(h:MpR V w b n l)(hn:n≤n'):MpR V w b n' l:=by
 obtain⟨es,h1,h2⟩:=h
 exact⟨es,h1.mono hn,h2⟩
theorem MpR.made (V:KV P α β)(w:World):MpR V (w.alloc (.map #[] 0)) w.heap.size 0 []:=
 ⟨[],World.ownsMap_made w P _ _,List.Perm.refl _,fun p hp=>by simp at hp,List.Pairwise.nil⟩
theorem KV.isKey (V:KV P α β){x:α}(hx:V.ok x):WideAt.IsKeyLit (V.kl x):=V.K.one.key ⟨_,V.key x hx⟩
theorem KV.klInj (V:KV P α β){x y:α}(hx:V.ok x)(hy:V.ok y)(h:V.kl x=V.kl y):x=y:=V.kvInj _ _ (V.K.inj (V.key x hx) (by rw[h];exact V.key y hy))
theorem MpR.len {t e:TypeId}(h:MpR V w b n l)(ht:P.underlying t=some (.map V.k e))(ty:TypeId):(Builtin.len_ #[t] ty #[.map (some b)]).run P w=.ok (.int .i64 (l.length:Nat)) w:=by
 obtain⟨es,h1,h2,_⟩:=h
 have:=h1.len ht ty
 rw[Maps.size_eq,h2.length_eq,List.length_map] at this;exact this
variable [DecidableEq α]
theorem KV.same (V:KV P α β){x y:α}(hx:V.ok x)(hy:V.ok y):(V.kl y).sameKey (V.kl x)=decide (y=x):=by
 by_cases h:y=x
 ·subst h;simp[WideAt.sameKey_self (V.isKey hx)]
 ·rw[Maps.sameKey_ne fun e=>h (V.klInj hy hx e)];simp[h]
theorem MpR.has {x:α}(h:MpR V w b n l)(hx:V.ok x):∃D,w.ownsMap P V.k V.R b n D∧Maps.has D (V.kl x)=l.any (fun p=>decide (p.1=x))∧(∀c,(x,c)∈l→∀z,D.atKey (V.kl x) z=V.dv c)∧((∀c,(x,c) ∉ l)→∀z,D.atKey (V.kl x) z=z)∧Maps.size D=l.length:=by
 obtain⟨es,h1,h2,h3,h4⟩:=h
 have hany:es.any (fun p=>p.1.sameKey (V.kl x))=l.any (fun p=>decide (p.1=x)):=by
  rw[h2.any_eq,List.any_map,Bool.eq_iff_iff]
  simp only[List.any_eq_true,Function.comp,KV.enc]
  exact⟨fun⟨p,hp,hq⟩=>⟨p,hp,by rwa [V.same hx (h3 p hp).1] at hq⟩,fun⟨p,hp,hq⟩=>⟨p,hp,by rwa [V.same hx (h3 p hp).1]⟩⟩
 refine⟨_,h1,hany,fun c hc z=>?_,fun hc z=>?_,by rw[Maps.size_eq,h2.length_eq,List.length_map]⟩
 ·have hm:V.enc (x,c)∈es:=h2.mem_iff.2 (List.mem_map_of_mem hc)
  obtain⟨es',hD,hpw,_⟩:=h1.entries V.K
  cases hD
  simp only[DataW.atKey]
  cases hf:es.find? (fun p=>p.1.sameKey (V.kl x)) with
  | none=>
   have:=List.find?_eq_none.1 hf _ hm
   simp[KV.enc,WideAt.sameKey_self (V.isKey hx)] at this
  | some q=>
   have hq:=List.mem_of_find?_eq_some hf
   have hq2:=List.find?_some hf
   obtain⟨p,hp,rfl⟩:=List.mem_map.1 (h2.mem_iff.1 hq)
   have:p.1=x:=by rw[KV.enc,V.same hx (h3 p hp).1] at hq2;simpa using hq2
   have hpc:p=(x,c):=by
    apply Classical.byContradiction
    intro hne
    have h5:∀{m:List (α×β)},m.Pairwise (fun p q=>p.1≠q.1)→p∈m→(x,c)∈m→False:=by
     intro m
     induction m with
     | nil=>intro _ hp;simp at hp
     | cons y r ih=>
      intro hm hp hc
      obtain⟨h6,h7⟩:=List.pairwise_cons.1 hm
      rcases List.mem_cons.1 hp with rfl|hp' <;> rcases List.mem_cons.1 hc with hy|hc'
      ·exact hne hy.symm
      ·exact h6 _ hc' this
      ·exact h6 _ hp' (by rw[← hy];exact this.symm)
      ·exact ih h7 hp' hc'
    exact h5 h4 hp hc
   rw[hpc];rfl
 ·simp only[DataW.atKey]
  rw[List.find?_eq_none.2 fun p hp=>?_]
  obtain⟨q,hq,rfl⟩:=List.mem_map.1 (h2.mem_iff.1 hp)
  rw[KV.enc,V.same hx (h3 q hq).1]
  simp only[decide_eq_true_eq]
  rintro rfl
  exact hc q.2 hq
theorem kq (x:Lit×DataW Unit):∀l:List (Lit×DataW Unit),(DataW.insert x l).Perm (x::l)
 | []=>by simp[DataW.insert]
 | y::r=>by
  unfold DataW.insert
  split
  ·exact List.Perm.refl _
  ·exact ((kq x r).cons y).trans (List.Perm.swap x y r)
def bE (l:List (α×β))(x:α)(c:β):List (α×β):=(x,c)::l.filter fun p => !decide (p.1=x)
theorem MpR.put {t:TypeId}{x:α}{c:β}(h:MpR V w b n l)(hx:V.ok x)(hc:V.okv c)(ht:P.underlying t=some (.map V.k V.e))(hn:n<maxLen) :
  ∃w',(Instr.mapUpdate t (.map (some b)) (V.kv x) (V.mv c)).run P w=.ok () w'∧MpR V w' b (n+1) (bE l x c)∧w.grownBy w' (some b):=by
 obtain⟨es,h1,h2,h3,h4⟩:=h
 obtain⟨w',r1,r2,r3⟩:=h1.update V.K ht hn (V.key x hx) (V.val c hc)
 refine⟨w',r1,⟨_,r2,?_,?_,?_⟩,r3⟩
 ·refine (kq _ _).trans ?_
  rw[bE,List.map_cons]
  refine List.Perm.cons _ ?_
  have:=h2.filter (fun p => !p.1.sameKey (V.kl x))
  refine this.trans ?_
  rw[List.filter_map]
  rw[List.filter_congr (q:=fun p:α×β => !decide (p.1=x)) fun p hp=>by simp only[Function.comp,KV.enc,V.same hx (h3 p hp).1]]
 ·intro p hp
  rcases List.mem_cons.1 hp with rfl|hp
  ·exact⟨hx,hc⟩
  ·exact h3 p (List.mem_filter.1 hp).1
 ·refine List.pairwise_cons.2 ⟨fun q hq=>?_,h4.filter _⟩
  have:=(List.mem_filter.1 hq).2
  simp only[Bool.not_eq_true',decide_eq_false_iff_not] at this
  exact fun h=>this h.symm
theorem MpR.get {t:TypeId}{x:α}{z:β}(h:MpR V w b n l)(hx:V.ok x)(ht:P.underlying t=some (.map V.k V.e))(hz:(zeroValue V.e).run P w=.ok (V.mv z) w)(hzo:V.okv z) :
  ∃c,(Instr.lookup t (.map (some b)) (V.kv x) true).run P w=.ok (.tuple #[V.mv c,.bool (l.any fun p=>decide (p.1=x))]) w∧((∃c',(x,c')∈l)→(x,c)∈l)∧((∀c',(x,c') ∉ l)→c=z):=by
 obtain⟨D,h1,h2,h3,h4,_⟩:=h.has hx
 obtain⟨v,ps,r1,r2⟩:=h1.look_ok V.K ht hz (V.val z hzo) (V.key x hx)
 obtain⟨c,hc,rfl,hy⟩:=V.valInv _ _ r2
 rw[h2] at r1
 refine⟨c,r1,fun⟨c',hc'⟩=>?_,fun hno=>?_⟩
 ·have:=congrArg Prod.fst hy
  simp only at this
  rw[h3 c' hc'] at this
  rw[← V.dvInj _ _ this];exact hc'
 ·have:=congrArg Prod.fst hy
  simp only at this
  rw[h4 hno] at this
  exact (V.dvInj _ _ this).symm
def mpE (V:KV P α β)(N:Nat):Enc (List (α×β)) where
 k:=1
 agg:=false
 r:=fun G w l cs=>∃b n,cs=[.map (some b)]∧¬G b∧n≤N∧MpR V w b n l
 pos:=by decide
 k1:=fun _=>rfl
 len:=fun⟨b,n,h,_⟩=>by rw[h];rfl
 one:=fun⟨b,n,h,_⟩ u hu=>by rw[h] at hu;simp at hu;subst hu;rfl
 pres:=fun⟨b,n,h1,h2,h3,h4⟩ hk hs=>⟨b,n,h1,h2,h3,h4.pres (hk b h4.lt h2)⟩
 weak:=fun⟨b,n,h1,h2,h3,h4⟩ hk=>⟨b,n,h1,fun hg=>h2 (hk b h4.lt hg),h3,h4⟩
section
variable {w0:World}{L:Env}{dst:Option Tmp}{ty:TypeId}{pos:String}{aft:Array Edge}{g:Option (Nat×Bool)}{x y:Operand}{t:TypeId}{G:Nat→Prop}{N:Nat}
theorem eU {γ δ:Type}{V:KV P γ δ}{l:List (γ×δ)}(ht:P.underlying t=some (.map V.k V.e))(hx:Is L w0 x (Dv (mpE V N) G l)):OpC P w0 L ⟨dst,.call ⟨.builtin .len,#[x],#[t]⟩,ty,pos,aft,g⟩ (E (.int .i64 (l.length:Nat))):=
 aM fun ρ w he hv=>by
  obtain⟨cs,⟨b,n,h1,_,_,h2⟩,h3⟩:=hx.v he hv (by simp[Op.operands,Call.operands])
  subst h1
  have h5:ρ x=.map (some b):=h3
  refine⟨_,?_,rfl⟩
  simp[execOp,resolve,invoke,builtin,h5,h2.len ht]
def rl (V:KV P α β)(l:List (α×β))(i:α)(z:β):VA:=⟨fun v _=>∃c,v=V.mv c∧((∃c',(i,c')∈l)→(i,c)∈l)∧((∀c',(i,c') ∉ l)→c=z),fun _ _ _ _ h=>h⟩
theorem kr {i:α}{z:β}(ht:P.underlying t=some (.map V.k V.e))(hz:∀w,(zeroValue V.e).run P w=.ok (V.mv z) w)(hzo:V.okv z)(hx:Is L w0 x (Dv (mpE V N) G l))(hy:opd L y=some (E (V.kv i)))(hi:V.ok i) :
  OpC P w0 L ⟨dst,.lookup t x y true,ty,pos,aft,g⟩ (Tup [rl V l i z,E (.bool (l.any fun p=>decide (p.1=i)))]):=
 aM fun ρ w he' hv=>by
  obtain⟨cs,⟨b,n,h1,_,_,h2⟩,h4⟩:=hx.v he' hv (by simp[Op.operands])
  subst h1
  have h5:ρ x=.map (some b):=h4
  have h6:=opE hv (x:=y) (by simp[Op.operands]) hy
  obtain⟨c,h7,h8,h9⟩:=h2.get hi ht (hz w) hzo
  exact⟨_,by simp only[execOp,h5,h6,Sem.run_bind,h7,Result.andThen_ok,Sem.run_pure],Tup.two ⟨c,rfl,h8,h9⟩ rfl⟩
end
theorem zq {P:Program} {k t1 m:Nat} {fs:Array Field} {f1 f2:Field} (hu:P.underlying k=some (.struct fs)) (hfs:fs = #[f1,f2]) (h1:f1.type=t1∧f1.offset=0∧(f1.name != "_")=true) (h2:f2.type=t1∧f2.offset=1∧(f2.name != "_")=true)
  (ht:P.underlying t1=some (.int .i64)) (hc1:P.cellsOf t1=1) (hc:P.cellsOf k=2) (hk:P.keyType k=true) (hm:P.types.size=m+1) {a b:Int} (ha:(Lit.int .i64 a).wf=true) (hb:(Lit.int .i64 b).wf=true) :
  keyOf P k (.agg #[.int .i64 a,.int .i64 b])=some (.string (keyBytes [.int .i64 a,.int .i64 b])):=by
 subst hfs
 obtain⟨e1,e2,e3⟩:=h1
 obtain⟨e4,e5,e6⟩:=h2
 simp[keyOf,hu,hk,Value.formed,hc,hm,Program.keyLits,e1,e2,e3,e4,e5,e6,ht,hc1,ha,hb,Value.cells]
theorem zr {P:Program} {k t1 m:Nat} {fs:Array Field} {f1 f2:Field} (hu:P.underlying k=some (.struct fs)) (hfs:fs = #[f1,f2]) (h1:f1.type=t1∧f1.offset=0∧(f1.name != "_")=true) (h2:f2.type=t1∧f2.offset=1∧(f2.name != "_")=true)
  (ht:P.underlying t1=some (.int .i64)) (hc1:P.cellsOf t1=1) (hc:P.cellsOf k=2) (hm:P.types.size=m+1) {v:Value} {l:Lit} (h:keyOf P k v=some l) :
  ∃a b,((Lit.int .i64 a).wf=true∧(Lit.int .i64 b).wf=true)∧v=.agg #[.int .i64 a,.int .i64 b]∧l=.string (keyBytes [.int .i64 a,.int .i64 b]):=by
 subst hfs
 obtain⟨e1,e2,e3⟩:=h1
 obtain⟨e4,e5,e6⟩:=h2
 obtain⟨xs,L,rfl,hL,rfl⟩:=keyOf_top (by simp[hu]) h
 have one:∀cs M,P.keyLits (m+1) t1 cs=some M→∃a,(Lit.int .i64 a).wf=true∧cs=[.int .i64 a]∧M=[.int .i64 a]:=by
  intro cs M hM
  unfold Program.keyLits at hM
  split at hM <;> simp_all
  rename_i n _
  exact⟨n,by simp_all⟩
 obtain⟨xs⟩:=xs
 rw[hm] at hL
 unfold Program.keyLits at hL
 simp only[hu,hc] at hL
 split at hL
 ·rename_i hl
  match xs,hl.1 with
  | [x,y],_=>
   simp only[List.mapM_cons,List.mapM_nil,e1,e2,e4,e5,hc1,List.drop_zero,List.drop_succ_cons,List.take_succ_cons,List.take_zero,Option.map_eq_some_iff,Option.bind_eq_bind,Option.bind_eq_some_iff,Option.pure_def,Option.some.injEq] at hL
   obtain⟨_,⟨M1,hM1,_,⟨M2,hM2,_,rfl,rfl⟩,rfl⟩,rfl⟩:=hL
   obtain⟨a,ha,hxa,rfl⟩:=one _ _ hM1
   obtain⟨b,hb,hyb,rfl⟩:=one _ _ hM2
   simp only[List.cons.injEq,and_true] at hxa hyb
   subst hxa;subst hyb
   exact⟨a,b,⟨ha,hb⟩,rfl,rfl⟩
 ·cases hL
end Go.Mono
namespace Go.Mono
open Go Go.RowKit Go.Gr
section tail
variable {P:Program}{L:Env}{ty:TypeId}{pos:String}{aft:Array Edge}{r:Option Nat}{ds:List Deferred}
variable {ops:Array Oper}{rest:List Oper}{Q:Exit→Act→World→Prop}{n:Nat}{a:Act}{w:World}{x y z:Operand}{α β:Type}[DecidableEq α]
theorem dc {V:KV P α β}{t:TypeId}{bm nn:Nat}{l:List (α×β)}{i:α}{c:β}(ht:P.underlying t=some (.map V.k V.e))(hf:FrD n ds a w L)[hL:AvL bm L](hx:opd L x=some (E (.map (some bm))))
  (hy:opd L y=some (E (V.kv i))) (hz:opd L z=some (E (V.mv c))) (hM:MpR V w bm nn l) (hn:nn<maxLen) (hi:V.ok i) (hc:V.okv c)
  (kk:∀w',w.grownBy w' (some bm)→MpR V w' bm (nn+1) (bE l i c)→FrD n ds a w' L→wpListIn (FW r) 0 P ops Q rest a w') :
  wpListIn (FW r) 0 P ops Q (⟨none,.mapUpdate t x y z,ty,pos,aft,none⟩::rest) a w:=
 wpListIn_plain rfl fun K hK=>by
  have hxv:a.eval x=.map (some bm):=hf.opd x _ hx
  have hyv:a.eval y=V.kv i:=hf.opd y _ hy
  have hzv:a.eval z=V.mv c:=hf.opd z _ hz
  obtain⟨w',h1,h2,h3⟩:=hM.put hi hc ht hn
  refine OpR.wp (R:=fun _ w1=>w1=w') ?_ ?_
  ·simp only[OpR,execOp,hxv,hyv,hzv,Sem.run_bind,h1,Result.andThen_ok,Sem.run_pure]
  ·rintro _ w1 rfl
   exact hK _ _ (kk _ h3 h2 (hf.gr h3))
theorem eV {γ δ:Type}(V:KV P γ δ){t:TypeId}{d:Nat}(hf:FrD n ds a w L)(hd:d<n)
  (k:∀a' b w',Ext w w'→b=w.heap.size→w'.heap.size=b+1→MpR V w' b 0 []→FrD n ds a' w' ((d,E (.map (some b)))::L)→wpListIn (FW r) 0 P ops Q rest a' w') :
  wpListIn (FW r) 0 P ops Q (⟨some d,.makeMap t none,ty,pos,aft,none⟩::rest) a w:=
 wpListIn_plain rfl fun K hK=>by
  refine OpR.wp (R:=fun v w'=>v=.map (some w.heap.size)∧w'=w.alloc (.map #[] 0)) ?_ ?_
  ·simp only[OpR,execOp,Sem.run_bind,Option.map_none,run_makeMap,Result.andThen_ok,Sem.run_pure]
   exact⟨trivial,trivial⟩
  ·rintro v w' ⟨rfl,rfl⟩
   exact hK _ _ (k _ _ _ (cV _ _) rfl (by simp) (MpR.made V w) (hf.put (d:=some d) (cV _ _) (fun k hk=>by cases hk;exact hd) rfl))
end tail
def tsE (P:Program):Enc (Bool×Int) where
 k:=2
 agg:=true
 r:=fun G w x cs=>∃id caps,cs=[.func (.func id) #[] caps,.int .i64 x.2]∧Proofs.Enters P id∧∀w',(∀b,b<w.heap.size→¬G b→w'.heap[b]?=w.heap[b]?)→w.heap.size≤w'.heap.size→Calls P id caps w' (Post (E (.bool x.1)) w')
 pos:=by decide
 k1:=fun h=>by cases h
 len:=fun⟨id,caps,h,_⟩=>by rw[h];rfl
 one:=fun⟨id,caps,h,_⟩ u hu=>by rw[h] at hu;simp at hu;rcases hu with rfl|rfl <;> rfl
 pres:=fun⟨id,caps,h1,h2,h3⟩ hk hs=>⟨id,caps,h1,h2,fun w' h4 h5=>h3 w' (fun b hb hg=>(h4 b (Nat.lt_of_lt_of_le hb hs) hg).trans (hk b hb hg)) (Nat.le_trans hs h5)⟩
 weak:=fun⟨id,caps,h1,h2,h3⟩ hk=>⟨id,caps,h1,h2,fun w' h4 h5=>h3 w' (fun b hb hg=>h4 b hb fun hg'=>hg (hk b hb hg')) h5⟩
section
variable {P:Program}{w0 w:World}{L:Env}{dst:Option Tmp}{ty:TypeId}{pos:String}{aft:Array Edge}{g:Option (Nat×Bool)}
theorem rp {fn:Fn}{x1 x2 x3:Operand}{v1 v2 v3:Value}(h1:opd L x1=some (E v1))(h2:opd L x2=some (E v2))(h3:opd L x3=some (E v3)):OpC P w0 L ⟨dst,.makeFunc fn #[] #[x1,x2,x3],ty,pos,aft,g⟩ (E (.func fn #[] #[v1,v2,v3])):=
 aM fun ρ w _ hv=>⟨_,by
  have a1:=opE hv (x:=x1) (by simp[Op.operands]) h1
  have a2:=opE hv (x:=x2) (by simp[Op.operands]) h2
  have a3:=opE hv (x:=x3) (by simp[Op.operands]) h3
  simp[execOp,Instr.makeFunc,a1,a2,a3],rfl⟩
theorem zt {fo:Operand}{id:FuncId}{caps:Array Value}{tys:Array TypeId}{A:VA}(hf:Proofs.Enters P id)(hfo:opd L fo=some (E (.func (.func id) #[] caps)))
  (h:∀w,Ext w0 w→Calls P id caps w (Post A w)):OpC P w0 L ⟨dst,.call ⟨.value fo,#[],tys⟩,ty,pos,aft,g⟩ A:=
 mK hf hfo fun ρ w he hv=>by simpa using h w he
theorem Dv.ts {G:Nat→Prop}{x:Bool×Int}{v:Value}(h:(Dv (tsE P) G x).p v w):∃id caps,v=.agg #[.func (.func id) #[] caps,.int .i64 x.2]∧Proofs.Enters P id∧∀w',Ext w w'→Calls P id caps w' (Post (E (.bool x.1)) w'):=by
 obtain⟨cs,⟨id,caps,h1,h2,h3⟩,hv⟩:=h
 subst h1
 exact⟨id,caps,hv,h2,fun w' e=>h3 w' (fun b hb _=>e.block b hb) e.size⟩
def Hp (w w':World):Prop:=(∀b,b<w.heap.size→w'.heap[b]?=w.heap[b]?)∧w.heap.size≤w'.heap.size
theorem Dv.hp {α:Type}{e:Enc α}{G:Nat→Prop}{x:α}{v:Value}{w':World}(h:(Dv e G x).p v w)(k:Hp w w'):(Dv e G x).p v w':=by
 obtain⟨cs,h1,h2⟩:=h
 exact⟨cs,e.pres h1 (fun b hb _=>k.1 b hb) k.2,h2⟩
theorem Dv.ts' {id:FuncId}{caps:Array Value}{b:Bool}{c:Int}(h2:Proofs.Enters P id)(h3:∀w',Hp w w'→Calls P id caps w' (Post (E (.bool b)) w')):(Dv (tsE P) G0 (b,c)).p (.agg #[.func (.func id) #[] caps,.int .i64 c]) w:=
 ⟨_,⟨id,caps,rfl,h2,fun w' h4 h5=>h3 w' ⟨fun b hb=>h4 b hb fun h=>h.elim,h5⟩⟩,rfl⟩
end
section
variable {P:Program}{w0:World}{L:Env}{dst:Option Tmp}{ty:TypeId}{pos:String}{aft:Array Edge}{S:Nat→Prop}{F:World→Prop}
theorem rq {f:FuncId}{fo x y:Operand}{u v:Value}{tys:Array TypeId}(hf:Proofs.Enters P f)(hfo:opd L fo=some (E (.func (.func f) #[] #[])))(hx:opd L x=some (E u))(hy:opd L y=some (E v))
  (h:∀w,Ext w0 w→Calls P f #[u,v] w (fun e w'=>∃r,e=.returned r∧Chg S w w'∧F w')) :
  yq P w0 S F L ⟨dst,.call ⟨.value fo,#[x,y],tys⟩,ty,pos,aft,none⟩ Any:=by
 refine⟨fun ρ w he hv=>?_⟩
 have hfv:ρ fo=.func (.func f) #[] #[]:=hv fo (by simp[Op.operands,Call.operands]) _ hfo
 have hxv:ρ x=u:=hv x (by simp[Op.operands,Call.operands]) _ hx
 have hyv:ρ y=v:=hv y (by simp[Op.operands,Call.operands]) _ hy
 have hrun:(execOp ρ ⟨dst,.call ⟨.value fo,#[x,y],tys⟩,ty,pos,aft,none⟩).run P w=.ok (.enter f #[u,v]) w:=by
  have h9:=hf #[u,v] w
  simp[execOp,resolve,hfv,Deferred.ofValue,invoke,hxv,hyv,h9]
 simp only[OpR,hrun]
 exact (h w he).mono fun e w' ⟨r,h1,h2,h3⟩=>⟨r,h1,h2,trivial,h3⟩
end
end Go.Mono
namespace Go.Mono
open Go Go.Proofs Go.RowKit Go.Gr
def thV (c:Int×Int):Value:=.agg #[.int .u8 c.1,.int .i64 c.2]
def okT (c:Int×Int):Prop:=(Lit.int .u8 c.1).wf=true∧(Lit.int .i64 c.2).wf=true
def thD (c:Int×Int):DataW Unit:=.agg [.lit (.int .u8 c.1),.lit (.int .i64 c.2)]
theorem zu {c c':Int×Int}(h:thV c=thV c'):c=c':=by cases c;cases c';cases h;rfl
open Classical in
noncomputable def thR (v:Value):Option (DataW Unit×List MemPlace):=if h:∃c,okT c∧v=thV c then some (thD (Classical.choose h),[]) else none
theorem rr {c:Int×Int}(hc:okT c):thR (thV c)=some (thD c,[]):=by
 have h:∃c',okT c'∧thV c=thV c':=⟨c,hc,rfl⟩
 unfold thR
 rw[dif_pos h,← zu (Classical.choose_spec h).2]
theorem rs {v:Value}{y:DataW Unit×List MemPlace}(h:thR v=some y):∃c,okT c∧v=thV c∧y=(thD c,[]):=by
 unfold thR at h
 split at h
 ·rename_i hx;cases h;exact⟨_,(Classical.choose_spec hx).1,(Classical.choose_spec hx).2,rfl⟩
 ·cases h
noncomputable def vKV:KV Tryz.prog Int (Int×Int) where
 k:=3
 e:=148
 kv:=fun x=>.int .i64 x
 kl:=fun x=>.int .i64 x
 ok:=fun x=>(Lit.int .i64 x).wf=true
 mv:=thV
 dv:=thD
 okv:=okT
 R:=thR
 K:=Maps.int_keyed U3
 key:=fun x hx=>Maps.keyOf_int_mk U3 hx
 keyInv:=fun v l h=>by obtain⟨x,h1,h2,h3⟩:=Maps.keyOf_int_inv U3 h;exact⟨x,h3,h1,h2⟩
 kvInj:=fun x y h=>by cases h;rfl
 val:=fun c hc=>rr hc
 valInv:=fun v y h=>rs h
 dvInj:=fun c c' h=>by cases c;cases c';cases h;rfl
theorem zw:Tryz.prog.keyType 146=true:=by kernel_rfl
theorem rt:Tryz.prog.cellsOf 146=2:=by kernel_rfl
theorem ru:Tryz.prog.cellsOf 3=1:=by kernel_rfl
theorem zx:Tryz.prog.types.size=(Tryz.prog.types.size - 1)+1:=by kernel_rfl
theorem laidOut:laidOutB Tryz.prog=true:=by kernel_rfl
theorem zy:(146:TypeId)<Tryz.prog.types.size:=of_decide_eq_true (by kernel_rfl)
noncomputable def nf:Nat:=Tryz.prog.types.size - 1
theorem kt:Tryz.prog.types.size=nf+1:=zx
theorem zz {p q:Int}(hp:(Lit.int .i64 p).wf=true)(hq:(Lit.int .i64 q).wf=true):keyOf Tryz.prog 146 (.agg #[.int .i64 p,.int .i64 q])=some (.string (keyBytes [.int .i64 p,.int .i64 q])):=
 zq (m:=nf) iU rfl ⟨rfl,rfl,by kernel_rfl⟩ ⟨rfl,rfl,by kernel_rfl⟩ U3 ru rt zw kt hp hq
theorem zA {v:Value}{l:Lit}(h:keyOf Tryz.prog 146 v=some l):∃p q,((Lit.int .i64 p).wf=true∧(Lit.int .i64 q).wf=true)∧v=.agg #[.int .i64 p,.int .i64 q]∧l=.string (keyBytes [.int .i64 p,.int .i64 q]):=
 zr (m:=nf) iU rfl ⟨rfl,rfl,by kernel_rfl⟩ ⟨rfl,rfl,by kernel_rfl⟩ U3 ru rt kt h
theorem zB:Tryz.prog.keyTypeAt 2 146=true:=by kernel_rfl
theorem zC:WideMaps.KeyLaw Tryz.prog 146:=by
 have h1:2+1≤10000:=by omega
 refine deep_law_laid laidOut (m:=2) h1 zy zB ?_
 rw[iU]
def enV (x:Int×Int):Value:=.agg #[.int .i64 x.1,.int .i64 x.2]
noncomputable def eKV:KV Tryz.prog (Int×Int) (Int×Int) where
 k:=146
 e:=148
 kv:=enV
 kl:=fun x=>.string (keyBytes [.int .i64 x.1,.int .i64 x.2])
 ok:=fun x=>(Lit.int .i64 x.1).wf=true∧(Lit.int .i64 x.2).wf=true
 mv:=thV
 dv:=thD
 okv:=okT
 R:=thR
 K:=Maps.Keyed.of_law zC
 key:=fun x hx=>zz hx.1 hx.2
 keyInv:=fun v l h=>by
  obtain⟨p,q,h1,h2,h3⟩:=zA h
  exact⟨(p,q),h1,h2,h3⟩
 kvInj:=fun x y h=>by cases x;cases y;cases h;rfl
 val:=fun c hc=>rr hc
 valInv:=fun v y h=>rs h
 dvInj:=fun c c' h=>by cases c;cases c';cases h;rfl
noncomputable def grE (N:Nat):Enc GT:=prE (mpE vKV N) (mpE eKV N)
theorem zF (n:Int)(W:World):Calls Tryz.prog 128 #[I n] W (Post (E (.bool (Gr.pairs n))) W):=by
 refine eN [I n] [E (I n)] Tryz.func128 Tryz.ntmps128 ?_ fun a hf=>?_
 rotate_left
 rotate_right
 ·exact arg1 rfl
 have e:=Ext.rfl' W
 refine seq <| ae <| tA hf rfl fun a hf=>aa <| seq <| rgN 14 hf <| st (mv rfl) <| st (eql rfl rfl) <| st (mv rfl) <| sgE rfl rfl (.k 0 rfl .n) (fun hgd=>mv rfl) <| sgE rfl rfl (.c 6 rfl (fun h=>h) .n) (fun hgd=>eql rfl rfl) <| st (bO rfl rfl (fun h=>by rw[h];rfl)) ?_
 refine st (mv rfl) <| sgE rfl rfl (.k 0 rfl .n) (fun hgd=>mv rfl) <| sgE rfl rfl (.c 10 rfl (fun h=>h) .n) (fun hgd=>eql rfl rfl) <| st (bO rfl rfl (fun h=>by rw[h];rfl)) ?_
 refine st (mv rfl) <| sgE rfl rfl (.k 0 rfl .n) (fun hgd=>mv rfl) <| sgE rfl rfl (.c 14 rfl (fun h=>h) .n) (fun hgd=>eql rfl rfl) <| st (bO rfl rfl (fun h=>by rw[h];rfl)) ?_
 refine en fun a w e' hf=>?_
 replace e:=e.tr e'
 refine tA hf rfl fun a hf=>aa <| ai <| ap rfl hf rfl ?_
 rintro _ rfl
 exact⟨_,rfl,e,rfl⟩
theorem zG (n:Int)(W:World):Calls Tryz.prog 129 #[I n] W (Post (E (.bool (Gr.weighs n))) W):=by
 refine eN [I n] [E (I n)] Tryz.func129 Tryz.ntmps129 ?_ fun a hf=>?_
 rotate_left
 rotate_right
 ·exact arg1 rfl
 have e:=Ext.rfl' W
 refine seq <| ae <| tA hf rfl fun a hf=>aa <| seq <| rgN 14 hf <| st (mv rfl) <| st (eql rfl rfl) <| st (mv rfl) <| sgE rfl rfl (.k 0 rfl .n) (fun hgd=>mv rfl) <| sgE rfl rfl (.c 6 rfl (fun h=>h) .n) (fun hgd=>eql rfl rfl) <| st (bO rfl rfl (fun h=>by rw[h];rfl)) ?_
 refine st (mv rfl) <| sgE rfl rfl (.k 0 rfl .n) (fun hgd=>mv rfl) <| sgE rfl rfl (.c 10 rfl (fun h=>h) .n) (fun hgd=>eql rfl rfl) <| st (bO rfl rfl (fun h=>by rw[h];rfl)) ?_
 refine st (mv rfl) <| sgE rfl rfl (.k 0 rfl .n) (fun hgd=>mv rfl) <| sgE rfl rfl (.c 14 rfl (fun h=>h) .n) (fun hgd=>eql rfl rfl) <| st (bO rfl rfl (fun h=>by rw[h];rfl)) ?_
 refine en fun a w e' hf=>?_
 replace e:=e.tr e'
 refine tA hf rfl fun a hf=>aa <| ai <| ap rfl hf rfl ?_
 rintro _ rfl
 exact⟨_,rfl,e,rfl⟩
theorem zH (n:Int)(W:World):Calls Tryz.prog 127 #[I n] W (Post (E (.bool (dY n))) W):=by
 refine eN [I n] [E (I n)] Tryz.func127 Tryz.ntmps127 ?_ fun a hf=>?_
 rotate_left
 rotate_right
 ·exact arg1 rfl
 have e:=Ext.rfl' W
 refine seq <| ae <| tA hf rfl fun a hf=>aa <| seq <| rgN 6 hf <| st (mv rfl) <| st (geq rfl rfl) <| st (mv rfl) <| sgE rfl rfl (.k 0 rfl .n) (fun hgd=>mv rfl) <| sgE rfl rfl (.c 6 rfl (fun h=>h) .n) (fun hgd=>lss rfl rfl) <| st (bG rfl rfl (fun h=>by rw[h];rfl)) ?_
 refine en fun a w e' hf=>?_
 replace e:=e.tr e'
 refine tA hf rfl fun a hf=>aa <| ai <| ap rfl hf rfl ?_
 rintro _ rfl
 exact⟨_,rfl,e,rfl⟩
theorem zI (n:Int)(W:World):Calls Tryz.prog 130 #[I n] W (Post (E (.bool (Gr.heavy n))) W):=by
 refine eN [I n] [E (I n)] Tryz.func130 Tryz.ntmps130 ?_ fun a hf=>?_
 rotate_left
 rotate_right
 ·exact arg1 rfl
 have e:=Ext.rfl' W
 refine seq <| ae <| tA hf rfl fun a hf=>aa <| seq <| rgN 6 hf <| st (mv rfl) <| st (lss rfl rfl) <| st (mv rfl) <| sgE rfl rfl (.k 0 rfl .n) (fun hgd=>mv rfl) <| sgE rfl rfl (.c 6 rfl (fun h=>h) .n) (fun hgd=>gtr rfl rfl) <| st (bO rfl rfl (fun h=>by rw[h];rfl)) ?_
 refine en fun a w e' hf=>?_
 replace e:=e.tr e'
 refine tA hf rfl fun a hf=>aa <| ai <| ap rfl hf rfl ?_
 rintro _ rfl
 exact⟨_,rfl,e,rfl⟩
theorem bEn (x:Int×Int):Tryz.prog.built 146 [(0,.int .i64 x.1),(1,.int .i64 x.2)]=some #[.int .i64 x.1,.int .i64 x.2]:=by kernel_rfl
theorem rx (m n:Int)(W:World):Calls Tryz.prog 124 #[I m,I n] W (Post (E (enV (Gr.ends m n))) W):=by
 refine eN [I m,I n] [E (I m),E (I n)] Tryz.func124 Tryz.ntmps124 ?_ fun a hf=>?_
 rotate_left
 dsimp only[params,Nat.reduceAdd] at hf
 rotate_right
 ·exact arg2 rfl rfl
 have e:=Ext.rfl' W
 refine seq <| ae <| tL pk hf fun a b4 w e' hb4 hs4 B4 hf=>?_
 replace e:=e.tr e'
 refine aa <| seq <| rgN 7 hf <| st (mv rfl) <| st (mv rfl) <| st (min2 rfl rfl) <| st (mv rfl) <| st (mv rfl) <| st (max2 rfl rfl) <| st (bK [(0,_),(1,_)] rfl (bEn (Gr.ends m n))) <| en fun a w e' hf=>?_
 obtain⟨e,B4⟩:=up2 e' e B4
 haveI hinr:∀G0,InR (GB W G0) (some b4):=fun G0=>InR.gb (by omega)
 refine az mm hf rfl rfl (bY rfl rfl) B4 rfl (rfl) fun w hg hsz B4 hf=>?_
 replace e:=e.gr hg (by omega)
 refine aa <| ai (dP rfl mm hf rfl B4 rfl ?_)
 exact⟨_,rfl,e,rfl⟩
end Go.Mono
