/-
  Walks of functions and plain facts.
  No condition.
-/
import Derived.OrdersIn
import Derived.TacticsIn
import Derived.RangeFuncIn
import Derived.RangeFuncLeaves
import Derived.RangeFuncRecord
import Derived.RangeFuncCalls
import Derived.Below
import Derived.Shelf.Abstract
import Derived.Tactics
import Derived.IntWalk
import Derived.Laws.Tables
import Derived.Laws.Cells
import Derived.Laws.Rows
import Derived.Laws.CopyRow
import Derived.OwnWalk
import Derived.Laws.StructEq
import Derived.Maps.AppendAt
import Derived.Great.BuildSlice
import Derived.Laws.MakeOwn
import Derived.Laws.Cover3
import Derived.Maps.OwnIn
import Derived.Maps.Views
import Derived.Maps.OwnSet
import Derived.Laws.Pointers
import Derived.Lib.SliceRun
import Derived.Carry
import Derived.Test.YtbjangoghokneaaGreatDoorProg
import Derived.KernelRfl
set_option linter.unusedVariables false
set_option linter.unusedSimpArgs false
namespace Go.Mono
open Go Go.RowKit
def FW (r:Option Nat):Fence:={ fn:=fun _=>True,depth:=none,alive:=false,round:=r }
theorem nf {P:Program}{f:FuncId}{args:Array Value}{w:World}{R:Ending→World→Prop}(r:Option Nat)(h:Calls P f args w R):CallsIn (FW r) 0 P f args w R:=(callsIn_wide (n:=0)).2 h
theorem tC {P:Program}{l:Nat}{f:FuncId}{tmps:Array Value}{assign body:Code}{w:World}{R:Ending→World→Prop}(r:Option Nat)(h:RoundIn Fence.wide 0 P l f tmps assign body w R):RoundIn (FW r) 0 P l f tmps assign body w R:=h
abbrev Ext (w w':World):Prop:=Below w.heap.size w w'
theorem Ext.rfl' (w:World):Ext w w:=Below.refl _ _
theorem Ext.tr {a b c:World}(h:Ext a b)(k:Ext b c):Ext a c:=Below.trans h (Below.mono k h.size)
theorem Ext.drew (w:World):Ext w w.drew:=(Below.refl _ _).drew
class Gro (Γ:World→World→Prop):Prop where
 rfl':∀w,Γ w w
 tr:∀{a b c},Γ a b→Γ b c→Γ a c
 drew:∀w,Γ w w.drew
 alloc:∀w o,Γ w (w.alloc o)
 below:∀{a b},Γ a b→Below a.heap.size a b
instance:Gro Ext:=⟨Ext.rfl',Ext.tr,Ext.drew,fun w o=>(Below.refl _ w).alloc (Nat.le_refl _) o,id⟩
structure VAr (Γ:World→World→Prop) where
 p:Value→World→Prop
 st:∀v w w',Γ w w'→p v w→p v w'
variable {Γ:World→World→Prop}


def ER (x:Value):(VAr Γ):=⟨fun v _=>v=x,fun _ _ _ _ h=>h⟩
def ng:(VAr Γ):=⟨fun _ _=>True,fun _ _ _ _ h=>h⟩
abbrev aZ (Γ:World→World→Prop):=List (Nat×VAr Γ)
abbrev VA:=VAr Ext
abbrev Env:=aZ Ext
theorem VA.st (A:VA):∀v w w',Ext w w'→A.p v w→A.p v w':=VAr.st A
theorem vst {A:VA}{v:Value}{w w':World}(e:Ext w w')(h:A.p v w):A.p v w':=A.st v w w' e h
theorem eqX {α:Type}(a:α):∃x,x=a:=⟨a,rfl⟩
theorem iN (k:Nat):Value.int .i64 ((k:Int)+1)=Value.int .i64 ((k+1:Nat):Int):=rfl
theorem ltC {k n:Nat}(h:decide ((k:Int)<((n:Nat):Int))=true):k<n:=by have:=of_decide_eq_true h;omega
theorem dnE {k n:Nat}(h:decide ((k:Int)<((n:Nat):Int))=false)(hk:k≤n):k=n:=by have:=of_decide_eq_false h;omega
abbrev E (x:Value):VA:=ER x
abbrev Any:VA:=ng
def aG:(aZ Γ)→Nat→Option (VAr Γ)
 | [],_=>none
 | (k,A)::L,t=>match Nat.beq k t with
  | true=>some A
  | false=>aG L t

theorem cB (k:Nat)(A:(VAr Γ))(L:(aZ Γ)):aG ((k,A)::L) k=some A:=by
 simp[aG]
theorem cC {k t:Nat}(A:(VAr Γ))(L:(aZ Γ))(h:k≠t):aG ((k,A)::L) t=aG L t:=by
 have:Nat.beq k t=false:=by
  cases hb:Nat.beq k t with
  | false=>rfl
  | true=>exact absurd (Nat.eq_of_beq_eq_true hb) h
 simp[aG,this]
def opd (L:(aZ Γ)):Operand→Option (VAr Γ)
 | .tmp t=>aG L t
 | .const v=>some (ER v)
 | .global g=>some (ER (.pointer (some ⟨g,0,none⟩)))
 | .func f=>some (ER (.func (.func f) #[] #[]))

structure FrD (n:Nat)(ds:List Deferred)(a:Act)(w:World)(L:(aZ Γ)):Prop where
 size:a.tmps.size=n
 defers:a.defers=ds
 val:∀t A,aG L t=some A→A.p (a.eval (.tmp t)) w
abbrev Fr (n:Nat):=@FrD Γ n []

theorem FrD.opd {n:Nat}{ds:List Deferred}{a:Act}{w:World}{L:(aZ Γ)}(h:FrD n ds a w L):∀x A,opd L x=some A→A.p (a.eval x) w:=by
 intro x A hx
 cases x with
 | tmp t=>exact h.val t A hx
 | const v=>simp[Mono.opd] at hx;subst hx;rfl
 | global g=>simp[Mono.opd] at hx;subst hx;rfl
 | func f=>simp[Mono.opd] at hx;subst hx;rfl

theorem FrD.ext {n:Nat}{ds:List Deferred}{a:Act}{w w':World}{L:(aZ Γ)}(h:FrD n ds a w L)(e:Γ w w'):FrD n ds a w' L:=
 ⟨h.size,h.defers,fun t A ht=>A.st _ _ _ e (h.val t A ht)⟩

theorem gL {a:Act}{d:Nat}{v:Value}(h:d<a.tmps.size):(a.put (some d) v).eval (.tmp d)=v:=by
 simp[Act.put,Act.eval,h]
theorem eh {a:Act}{d t:Nat}{v:Value}(h:d≠t):(a.put (some d) v).eval (.tmp t)=a.eval (.tmp t):=by
 simp[Act.put,Act.eval,Array.getElem?_setIfInBounds_ne h]
@[simp] theorem put_size {a:Act} {d:Option Nat} {v:Value}:(a.put d v).tmps.size=a.tmps.size:=by
 cases d <;> simp[Act.put]
@[simp] theorem put_defers {a:Act} {d:Option Nat} {v:Value}:(a.put d v).defers=a.defers:=by
 cases d <;> simp[Act.put]

def push (d:Option Nat)(A:(VAr Γ))(L:(aZ Γ)):(aZ Γ):=
 match d with
 | some d=>(d,A)::L
 | none=>L

theorem FrD.put {n:Nat}{ds:List Deferred}{a:Act}{w w':World}{L:(aZ Γ)}{d:Option Nat}{v:Value}{A:(VAr Γ)}(h:FrD n ds a w L)(e:Γ w w')(hd:∀k,d=some k→k<n)(hA:A.p v w') :
  FrD n ds (a.put d v) w' (push d A L):=by
 refine⟨by simp[h.size],by simp[h.defers],fun t B ht=>?_⟩
 cases d with
 | none=>exact (h.ext e).val t B ht
 | some d=>
  by_cases hdt:d=t
  ·subst hdt
   rw[push,cB] at ht
   obtain rfl:=Option.some.inj ht
   rw[gL (by rw[h.size];exact hd d rfl)]
   exact hA
  ·rw[push,cC _ _ hdt] at ht
   rw[eh hdt]
   exact (h.ext e).val t B ht
def OpR (P:Program)(o:Oper)(ρ:Operand→Value)(w:World)(R:Value→World→Prop):Prop:=
 match (execOp ρ o).run P w with
 | .ok (.value v) w'=>R v w'
 | .ok .skip w'=>R undef w'
 | .ok (.enter f args) w'=>Calls P f args w' fun e w''=>∃v,e=.returned v∧R v w''
 | .ok (.round l f tmps assign body) w'=>RoundIn Fence.wide 0 P l f tmps assign body w' fun e w''=>∃v,e=.returned v∧R v w''
 | _=>False

theorem OpR.wp {P:Program}{o:Oper}{a:Act}{w:World}{R:Value→World→Prop}{K:Act→World→Prop}{Q:Exit→Act→World→Prop}{r:Option Nat}
  (h:OpR P o a.eval w R) (hK:∀v w',R v w'→K (a.put o.dst v) w'):o.wpIn (FW r) 0 P a w K Q:=by
 refine⟨fun _ _=>trivial,?_⟩
 have hs:o.semAt (FW r).round a.eval=execOp a.eval o:=by
  refine Oper.semAt_eq _ _ _ fun c hc=>?_
  unfold OpR at h
  obtain⟨d,op,t,p,af,g⟩:=o
  simp only at hc
  subst hc
  simp only[execOp,Sem.run_bind] at h
  cases hr:(resolve a.eval c t).run P w with
  | ok x w'=>simp[hr] at h
  | halt x w'=>simp[hr,Result.andThen] at h
 rw[hs]
 unfold OpR at h
 generalize (execOp a.eval o).run P w=r' at h
 cases r' with
 | ok n w'=>
  cases n <;> simp only[Oper.uponIn] at h ⊢ <;> first
   | exact hK _ _ h
   | exact h.elim
   | (
     refine⟨fun hd=>(by simp[FW] at hd),nf r (Calls.mono h ?_)⟩
     rintro e w'' ⟨v,rfl,hv⟩
     exact hK _ _ hv)
   | (
     refine⟨fun hd=>(by simp[FW] at hd),tC r (RoundIn.mono h ?_)⟩
     rintro e w'' ⟨v,rfl,hv⟩
     exact hK _ _ hv)
 | halt x w'=>exact h.elim

theorem OpR.mono {P:Program}{o:Oper}{ρ:Operand→Value}{w:World}{R R':Value→World→Prop}(h:OpR P o ρ w R)(hR:∀v w',R v w'→R' v w'):OpR P o ρ w R':=by
 unfold OpR at *
 generalize (execOp ρ o).run P w=r at h
 cases r with
 | ok n w'=>
  cases n <;> simp only at h ⊢ <;> first
   | exact hR _ _ h
   | exact h
   | exact Calls.mono h (by rintro e w'' ⟨v,rfl,hv⟩;exact⟨v,rfl,hR _ _ hv⟩)
   | exact RoundIn.mono h (by rintro e w'' ⟨v,rfl,hv⟩;exact⟨v,rfl,hR _ _ hv⟩)
 | halt x w'=>exact h
structure OpC (P:Program)(w0:World)(L:(aZ Γ))(o:Oper)(A:(VAr Γ)):Prop where
 out:∀ρ w,Γ w0 w→(∀x∈o.op.operands,∀B,opd L x=some B→B.p (ρ x) w)→OpR P o ρ w (fun v w'=>Γ w w'∧A.p v w')
def bM (ops:Array Oper)(o:Oper):Option Nat:=o.guard.bind fun g=>(ops[g.1]?).bind (·.dst)
def GOp (P:Program)(ops:Array Oper)(w0:World)(L:(aZ Γ))(o:Oper)(A:(VAr Γ)):Prop:=
 ∀(a:Act) w,Γ w0 w→(∀x∈o.op.operands,∀B,opd L x=some B→B.p (a.eval x) w)→(∀d B,bM ops o=some d→aG L d=some B→B.p (a.eval (.tmp d)) w) →
  if Region.wanted o (yielded ops a.tmps) then OpR P o a.eval w (fun v w'=>Γ w w'∧A.p v w') else A.p undef w

def bT (P:Program)(ops:Array Oper)(w0:World):List Oper→((aZ Γ)→Prop)→(aZ Γ)→Prop
 | [],K,L=>K L
 | o::rest,K,L=>∃A,GOp P ops w0 L o A∧bT P ops w0 rest K (push o.dst A L)

section reg
variable {P:Program}{ops:Array Oper}{Q:Exit→Act→World→Prop}{w0:World}{n:Nat}{ds:List Deferred}{r:Option Nat}
theorem kt [Gro Γ](S:List Oper):∀(M:List Oper) (L:(aZ Γ)) (a:Act) (w:World),(∀o∈M,∀k,o.dst=some k→k<n)→Γ w0 w→FrD n ds a w L →
  bT P ops w0 M (fun L'=>∀a' w',Γ w0 w'→FrD n ds a' w' L'→wpListIn (FW r) 0 P ops Q S a' w') L→wpListIn (FW r) 0 P ops Q (M++S) a w
 | [],L,a,w,_,he,hf,h=>h a w he hf
 | o::rest,L,a,w,hd,he,hf,⟨A,hA,hr⟩=>by
  have h1:=hA a w he (fun x _ B hB=>hf.opd x B hB) (fun d B _ hB=>hf.val d B hB)
  have hd':=fun k hk=>hd o (by simp) k hk
  have ih:=kt S rest (push o.dst A L)
  rw[List.cons_append,wpListIn]
  split
  ·rename_i hw
   rw[if_pos hw] at h1
   exact (h1.wp fun v w' hv=>ih _ _ (fun o ho=>hd o (by simp[ho])) (Gro.tr he hv.1) (hf.put hv.1 hd' hv.2) hr)
  ·rename_i hw
   rw[if_neg hw] at h1
   exact⟨fun _ _=>trivial,ih _ _ (fun o ho=>hd o (by simp[ho])) he (hf.put (Gro.rfl' _) hd' h1) hr⟩


def bnd (ops:Array Oper)(i j:Nat):Bool:=match ops[i]? with
 | some o=>o.after.any fun e=>Region.binds .any e&&Nat.beq e.on j
 | none=>false
def cD (ops:Array Oper):Nat→Nat→Nat→Bool
 | 0,_,_=>false
 | f+1,i,j=>bnd ops i j || (List.range i).any fun k=>bnd ops i k&&cD ops f k j

def cj (o:Oper):List Nat:=o.op.operands.toList.filterMap fun|.tmp t=>some t|_=>none
def aQ (ops:Array Oper)(i:Nat):Option Nat:=(ops[i]?).bind (·.dst)

def eA (ops:Array Oper)(m N i:Nat):Bool:=
 match ops[i]? with
 | none=>false
 | some o=>
  (o.after.all fun e => !Region.binds .any e || Nat.blt e.on i) &&
  (match o.dst with|some d=>Nat.blt d N|none=>true) &&
  ((cj o++(bM ops o).toList).all fun t=>(List.range m).all fun j=>(match aQ ops j with|some d => !Nat.beq d t|none=>true) || bnd ops i j) &&
  ((List.range m).all fun j=>Nat.beq j i || (match o.dst,aQ ops j with|some d,some e => !Nat.beq d e|_,_=>true))
def cS (ops:Array Oper)(i:Nat):Bool:=
 match ops[i]? with
 | none=>false
 | some o=>(o.after.all fun e => !Region.binds .any e || Nat.blt e.on i)&&(List.range i).all fun j=>cD ops 12 i j
def chk (ops:Array Oper)(m N:Nat):Bool:=
 Nat.ble m ops.size&&((List.range m).all fun i=>eA ops m N i)&&((List.range ops.size).all fun i=>Nat.blt i m || cS ops i)

theorem iP (m:Nat)(p q:Nat→Bool)(i:Nat)(hi:i<m)(h1:p i=true)(h2:q i=false)(h:∀j,j≠i→p j=q j) :
  (List.range m).countP p=(List.range m).countP q+1:=by
 induction m with
 | zero=>omega
 | succ m ih=>
  rw[List.range_succ,List.countP_append,List.countP_append]
  by_cases him:i=m
  ·subst him
   have:(List.range i).countP p=(List.range i).countP q:=List.countP_congr fun x hx=>by
    have:x≠i:=by have:=List.mem_range.1 hx;omega
    rw[h x this]
   simp[this,h1,h2]
  ·have:=ih (by omega)
   have e:=h m (by omega)
   simp only[this,List.countP_singleton,e]
   omega

def LD (ops:Array Oper)(listed:Array Bool):Prop:=
 ∀i o,listed.getD i false=true→ops[i]?=some o→∀e∈o.after,Region.binds .any e=true→listed.getD e.on false=true

theorem cov {listed:Array Bool}(hld:LD ops listed):∀f i j,cD ops f i j=true→(∀o,ops[i]?=some o→∀e∈o.after,Region.binds .any e=true→listed.getD e.on false=true)→listed.getD j false=true
 | 0,i,j,h,_=>by simp[cD] at h
 | f+1,i,j,h,hp=>by
  have one:∀j,bnd ops i j=true→listed.getD j false=true:=by
   intro j hb
   unfold bnd at hb
   cases ho:ops[i]? with
   | none=>simp[ho] at hb
   | some o=>
    simp only[ho] at hb
    obtain⟨e,he,hb⟩:=Array.any_eq_true'.1 hb
    simp only[Bool.and_eq_true] at hb
    have:=hp o ho e he hb.1
    rwa [Nat.eq_of_beq_eq_true hb.2] at this
  simp only[cD,Bool.or_eq_true,List.any_eq_true,Bool.and_eq_true] at h
  rcases h with h|⟨k,_,hk,hc⟩
  ·exact one j h
  ·exact cov hld f k j hc fun o ho e he hb=>hld k o (one k hk) ho e he hb

theorem cy {listed:Array Bool}{i:Nat}(h:listed.getD i true=false):listed.getD i false=false:=by
 rcases Nat.lt_or_ge i listed.size with h'|h'
 ·simpa[h'] using h
 ·simp[Array.getElem?_eq_none h'] at h

theorem LD.set {listed:Array Bool}(hld:LD ops listed){i:Nat}(hp:∀o,ops[i]?=some o→∀e∈o.after,Region.binds .any e=true→listed.getD e.on false=true) :
  LD ops (listed.setIfInBounds i true):=by
 intro j o hj ho e he hb
 by_cases hij:i=j
 ·subst hij
  exact getD_set_true (hp o ho e he hb)
 ·rw[getD_set_ne false hij] at hj
  exact getD_set_true (hld j o hj ho e he hb)

theorem gM (m:Nat)(hchk:∀i,m≤i→i<ops.size→cS ops i=true):∀(d k:Nat),d+k=ops.size→m≤k→∀(listed:Array Bool) (a:Act) (w:World),
  (∀j,j<k→listed.getD j false=true)→(∀j,k≤j→j<ops.size→listed.getD j true=false)→listed.size=ops.size→LD ops listed →
  wpListIn (FW r) 0 P ops Q (ops.toList.drop k) a w→wpAnyIn (FW r) 0 P .any ops Q d listed a w
 | 0,k,hk,hm,listed,a,w,h1,h2,hsz,hld,h=>by
  have hnil:ops.toList.drop k=[]:=List.drop_eq_nil_of_le (by simp;omega)
  rw[hnil] at h
  refine⟨?_,h⟩
  cases hr:Region.ready .any ops listed with
  | nil=>rfl
  | cons x xs=>
   have hx:x∈Region.ready .any ops listed:=by rw[hr];simp
   obtain⟨hu,o,ho,_⟩:=mem_ready.1 hx
   have hlt:x<ops.size:=(Array.getElem?_eq_some_iff.1 ho).1
   have:=h1 x (by omega)
   rw[cy hu] at this
   cases this
 | d+1,k,hk,hm,listed,a,w,h1,h2,hsz,hld,h=>by
  have hlt:k<ops.size:=by omega
  have hok:ops[k]?=some ops[k]:=by simp[hlt]
  have hc:=hchk k hm hlt
  simp only[cS,hok,Bool.and_eq_true,Array.all_eq_true_iff_forall_mem,Bool.or_eq_true,Bool.not_eq_true'] at hc
  have hready:k∈Region.ready .any ops listed:=by
   refine mem_ready.2 ⟨h2 k (Nat.le_refl _) hlt,_,hok,fun e he hb=>h1 _ ?_⟩
   rcases hc.1 e he with h'|h'
   ·rw[hb] at h';cases h'
   ·simpa[Nat.blt_eq] using h'
  have only:∀j∈Region.ready .any ops listed,j=k:=by
   intro j hj
   obtain⟨hu,o,ho,hall⟩:=mem_ready.1 hj
   have hjlt:j<ops.size:=(Array.getElem?_eq_some_iff.1 ho).1
   rcases Nat.lt_trichotomy j k with hjk|hjk|hjk
   ·have:=h1 j hjk
    rw[cy hu] at this
    cases this
   ·exact hjk
   ·have hcj:=hchk j (by omega) hjlt
    simp only[cS,ho,Bool.and_eq_true,List.all_eq_true,List.mem_range] at hcj
    have:=cov hld 12 j k (hcj.2 k hjk) (fun o' ho' e he hb=>by
     rw[ho] at ho'
     obtain rfl:=Option.some.inj ho'
     exact hall e he hb)
    rw[cy (h2 k (Nat.le_refl _) hlt)] at this
    cases this
  refine⟨fun h0=>(by rw[h0] at hready;cases hready),fun i hi=>?_⟩
  obtain rfl:=only i hi
  obtain⟨_,o,ho,hall⟩:=mem_ready.1 hi
  have hdrop:ops.toList.drop i=ops[i]::ops.toList.drop (i+1):=by
   rw[List.drop_eq_getElem_cons (by simpa using hlt)]
   simp
  rw[hdrop] at h
  have hstep:wpOpIn (FW r) 0 P ops Q i (wpListIn (FW r) 0 P ops Q (ops.toList.drop (i+1))) a w:=by
   unfold wpOpIn
   simp only[hok]
   rw[wpListIn] at h
   exact h
  refine wpOpIn_mono (fun a' w' h'=>gM m hchk d (i+1) (by omega) (by omega) _ a' w' ?_ ?_ (by simpa using hsz) ?_ h') hstep
  ·intro j hj
   by_cases hji:j=i
   ·subst hji
    simp[hsz,hlt]
   ·exact getD_set_true (h1 j (by omega))
  ·intro j hj hj'
   rw[getD_set_ne true (by omega)]
   exact h2 j (by omega) hj'
  ·exact hld.set fun o' ho' e he hb=>by
    rw[ho] at ho'
    obtain rfl:=Option.some.inj ho'
    exact hall e he hb

def aR (ops:Array Oper)(L:(aZ Γ))(As:Nat→(VAr Γ))(k:Nat):Nat→(aZ Γ)
 | 0=>L
 | j+1=>push (aQ ops (k+j)) (As j) (aR ops L As k j)

theorem iQ (ops:Array Oper)(L:(aZ Γ))(A:(VAr Γ))(As:Nat→(VAr Γ))(k:Nat):∀j,
  aR ops L (fun i=>match i with|0=>A|i+1=>As i) k (j+1)=aR ops (push (aQ ops k) A L) As (k+1) j
 | 0=>rfl
 | j+1=>by
  rw[aR,iQ ops L A As k j,aR]
  rw[show k+(j+1)=k+1+j by omega]

theorem ku {K:(aZ Γ)→Prop}:∀(M:List Oper) (k:Nat) (L:(aZ Γ)),(∀j,j<M.length→ops[k+j]?=M[j]?)→bT P ops w0 M K L →
  ∃As:Nat→(VAr Γ),(∀j o,j<M.length→ops[k+j]?=some o→GOp P ops w0 (aR ops L As k j) o (As j))∧K (aR ops L As k M.length)
 | [],k,L,_,h=>⟨fun _=>ng,fun j o hj=>by simp at hj,h⟩
 | o::M,k,L,hM,⟨A,hA,hr⟩=>by
  have h0:ops[k]?=some o:=by simpa using hM 0 (by simp)
  have hd:aQ ops k=o.dst:=by simp[aQ,h0]
  obtain⟨As,h1,h2⟩:=ku M (k+1) (push o.dst A L) (fun j hj=>by
   have:=hM (j+1) (by simpa using hj)
   rw[show k+1+j=k+(j+1) by omega]
   simpa using this) hr
  refine⟨fun i=>match i with|0=>A|i+1=>As i,?_,?_⟩
  ·intro j o' hj ho'
   cases j with
   | zero=>
    rw[Nat.add_zero,h0] at ho'
    obtain rfl:=Option.some.inj ho'
    exact hA
   | succ j=>
    rw[iQ,hd]
    exact h1 j o' (by simpa using hj) (by rw[show k+1+j=k+(j+1) by omega];exact ho')
  ·rw[List.length_cons,iQ,hd]
   exact h2

theorem dB (L:(aZ Γ))(As:Nat→(VAr Γ))(t:Nat)(B:(VAr Γ)):∀i,aG (aR ops L As 0 i) t=some B →
  (∃j,j<i∧aQ ops j=some t∧B=As j)∨((∀j,j<i→aQ ops j≠some t)∧aG L t=some B)
 | 0,h=>.inr ⟨fun j hj=>by omega,h⟩
 | i+1,h=>by
  rw[aR,Nat.zero_add] at h
  have rest:aG (aR ops L As 0 i) t=some B→aQ ops i≠some t→(∃j,j<i+1∧aQ ops j=some t∧B=As j)∨((∀j,j<i+1→aQ ops j≠some t)∧aG L t=some B):=by
   intro h hne
   rcases dB L As t B i h with ⟨j,hj,hd,hB⟩|⟨hn,hl⟩
   ·exact .inl ⟨j,by omega,hd,hB⟩
   ·refine .inr ⟨fun j hj=>?_,hl⟩
    by_cases hji:j=i
    ·subst hji;exact hne
    ·exact hn j (by omega)
  cases hd:aQ ops i with
  | none=>
   rw[hd] at h
   exact rest h (by simp[hd])
  | some d=>
   rw[hd] at h
   by_cases hdt:d=t
   ·subst hdt
    rw[push,cB] at h
    exact .inl ⟨i,by omega,hd,(Option.some.inj h).symm⟩
   ·rw[push,cC _ _ hdt] at h
    exact rest h (by simp[hd,hdt])

structure Inv (ops:Array Oper)(m n:Nat)(ds:List Deferred)(w0:World)(L:(aZ Γ))(As:Nat→(VAr Γ))(listed:Array Bool)(a:Act)(w:World):Prop where
 ext:Γ w0 w
 size:a.tmps.size=n
 defers:a.defers=ds
 hL:∀t A,aG L t=some A→(∀j,j<m→aQ ops j≠some t)→A.p (a.eval (.tmp t)) w
 hA:∀i,i<m→listed.getD i false=true→∀d,aQ ops i=some d→(As i).p (a.eval (.tmp d)) w

theorem nh [Gro Γ]{m:Nat}{L:(aZ Γ)}{As:Nat→(VAr Γ)}(hm:m≤ops.size)(hchk:∀i,i<m→eA ops m n i=true)(hchk2:∀i,m≤i→i<ops.size→cS ops i=true)
  (hops:∀j o,j<m→ops[j]?=some o→GOp P ops w0 (aR ops L As 0 j) o (As j))
  (hend:∀a w,Γ w0 w→FrD n ds a w (aR ops L As 0 m)→wpListIn (FW r) 0 P ops Q (ops.toList.drop m) a w) :
  ∀(c:Nat) (listed:Array Bool) (a:Act) (w:World),(List.range m).countP (fun i => !listed.getD i true)=c→listed.size=ops.size →
   (∀j,m≤j→j<ops.size→listed.getD j true=false)→LD ops listed→Inv ops m n ds w0 L As listed a w→wpAnyIn (FW r) 0 P .any ops Q (c+(ops.size - m)) listed a w
 | 0,listed,a,w,hc,hsz,hun,hld,hi=>by
  have hall:∀j,j<m→listed.getD j false=true:=by
   intro j hj
   have:=(List.countP_eq_zero.1 hc) j (List.mem_range.2 hj)
   have hjl:j<listed.size:=by omega
   simpa[hjl] using this
  rw[Nat.zero_add]
  refine gM m hchk2 (ops.size - m) m (by omega) (Nat.le_refl _) listed a w hall hun hsz hld (hend a w hi.ext ⟨hi.size,hi.defers,fun t A ht=>?_⟩)
  rcases dB L As t A m ht with ⟨j,hj,hd,rfl⟩|⟨hn,hl⟩
  ·exact hi.hA j hj (hall j hj) t hd
  ·exact hi.hL t A hl hn
 | c+1,listed,a,w,hc,hsz,hun,hld,hi=>by
  have facts:∀i o,i<m→ops[i]?=some o→(∀e∈o.after,Region.binds .any e=true→e.on<i)∧(∀d,o.dst=some d→d<n) ∧
    (∀t,t∈cj o∨bM ops o=some t→∀j,j<m→aQ ops j=some t→bnd ops i j=true)∧(∀j,j<m→j≠i→∀d,o.dst=some d→aQ ops j≠some d):=by
   intro i o hlt ho
   have:=hchk i hlt
   simp only[eA,ho,Bool.and_eq_true,Array.all_eq_true_iff_forall_mem,Bool.or_eq_true,Bool.not_eq_true',List.all_eq_true,List.mem_range,List.mem_append,Option.mem_toList] at this
   obtain⟨⟨⟨h1,h2⟩,h3⟩,h4⟩:=this
   refine⟨fun e he hb=>?_,fun d hd=>?_,fun t ht j hj hd=>?_,fun j hj hne d hd hd'=>?_⟩
   ·rcases h1 e he with h|h
    ·rw[hb] at h;cases h
    ·simpa[Nat.blt_eq] using h
   ·simpa[hd,Nat.blt_eq] using h2
   ·have:=h3 t ht j hj
    rcases this with h|h
    ·rw[hd] at h;simp at h
    ·exact h
   ·have:=h4 j hj
    rcases this with h|h
    ·exact hne (Nat.eq_of_beq_eq_true h)
    ·rw[hd,hd'] at h;simp at h
  have prog:∃i,i<m∧listed.getD i true=false∧∀j,j<i→listed.getD j true=true:=by
   have hex:∃i,i<m∧listed.getD i true=false:=by
    have hpos:0<(List.range m).countP (fun i => !listed.getD i true):=by omega
    obtain⟨i,hi,hb⟩:=List.countP_pos_iff.1 hpos
    exact⟨i,List.mem_range.1 hi,by simpa using hb⟩
   obtain⟨i,hlt,hb⟩:=hex
   induction i using Nat.strongRecOn with
   | _ i ih=>
    by_cases h:∃j,j<i∧listed.getD j true=false
    ·obtain⟨j,hj,hjb⟩:=h
     exact ih j hj (by omega) hjb
    ·refine⟨i,hlt,hb,fun j hj=>?_⟩
     cases hjb:listed.getD j true with
     | true=>rfl
     | false=>exact absurd ⟨j,hj,hjb⟩ h
  obtain⟨i0,hi0,hu0,hbelow⟩:=prog
  have hready:i0∈Region.ready .any ops listed:=by
   have ho:ops[i0]?=some (ops[i0]'(by omega)):=by simp
   refine mem_ready.2 ⟨hu0,_,ho,fun e he hb=>?_⟩
   have hlt:=(facts i0 _ hi0 ho).1 e he hb
   have:=hbelow _ hlt
   have hjl:e.on<listed.size:=by omega
   simpa[hjl] using this
  rw[show c+1+(ops.size - m)=(c+(ops.size - m))+1 by omega]
  refine⟨fun h0=>(by rw[h0] at hready;cases hready),fun i hir=>?_⟩
  obtain⟨hu,o,ho,hall⟩:=mem_ready.1 hir
  have hilt:i<ops.size:=(Array.getElem?_eq_some_iff.1 ho).1
  have listed_of_bnd:∀j,bnd ops i j=true→listed.getD j false=true:=by
   intro j hb
   simp only[bnd,ho] at hb
   obtain⟨e,he,hb⟩:=Array.any_eq_true'.1 hb
   simp only[Bool.and_eq_true] at hb
   have:=hall e he hb.1
   rwa [Nat.eq_of_beq_eq_true hb.2] at this
  have him:i<m:=by
   rcases Nat.lt_or_ge i m with h|h
   ·exact h
   ·have hc:=hchk2 i h hilt
    simp only[cS,ho,Bool.and_eq_true,List.all_eq_true,List.mem_range] at hc
    have:=cov hld 12 i i0 (hc.2 i0 (by omega)) (fun o' ho' e he hb=>by
     rw[ho] at ho'
     obtain rfl:=Option.some.inj ho'
     exact hall e he hb)
    rw[cy hu0] at this
    cases this
  obtain⟨f1,f2,f3,f4⟩:=facts i o him ho
  have byLook:∀t,(t∈cj o∨bM ops o=some t)→∀B,aG (aR ops L As 0 i) t=some B→B.p (a.eval (.tmp t)) w:=by
   intro t ht B hB
   rcases dB L As t B i hB with ⟨j,hj,hd,rfl⟩|⟨hn,hl⟩
   ·exact hi.hA j (by omega) (listed_of_bnd j (f3 t ht j (by omega) hd)) t hd
   ·refine hi.hL t B hl fun j hj hd=>?_
    have hb:=f3 t ht j hj hd
    simp only[bnd,ho] at hb
    obtain⟨e,he,hb⟩:=Array.any_eq_true'.1 hb
    simp only[Bool.and_eq_true] at hb
    have hlt:=f1 e he hb.1
    rw[Nat.eq_of_beq_eq_true hb.2] at hlt
    exact hn j hlt hd
  have hg:=hops i o him ho a w hi.ext (fun x hx B hB=>by
   cases x with
   | tmp t=>exact byLook t (.inl (List.mem_filterMap.2 ⟨.tmp t,by simpa using hx,rfl⟩)) B hB
   | const v=>simp[opd] at hB;subst hB;rfl
   | global g=>simp[opd] at hB;subst hB;rfl
   | func f=>simp[opd] at hB;subst hB;rfl) (fun d B hd hB=>byLook d (.inr hd) B hB)
  have hdst:aQ ops i=o.dst:=by simp[aQ,ho]
  have step:∀v w',Γ w w'→(As i).p v w'→wpAnyIn (FW r) 0 P .any ops Q (c+(ops.size - m)) (listed.setIfInBounds i true) (a.put o.dst v) w':=by
   intro v w' hx hv
   refine nh hm hchk hchk2 hops hend c _ _ _ ?_ (by simpa using hsz) ?_ ?_ ?_
   ·have:=iP m (fun j => !listed.getD j true) (fun j => !(listed.setIfInBounds i true).getD j true) i him (by simp only[hu,Bool.not_false])
     (by
       have hjl:i<listed.size:=by omega
       simp[hjl]) (fun j hj=>by simp only[getD_set_ne true (Ne.symm hj)])
    omega
   ·intro j hj hj'
    rw[getD_set_ne true (by omega)]
    exact hun j hj hj'
   ·exact hld.set fun o' ho' e he hb=>by
     rw[ho] at ho'
     obtain rfl:=Option.some.inj ho'
     exact hall e he hb
   ·refine⟨Gro.tr hi.ext hx,by simp[hi.size],by simp[hi.defers],fun t A ht hn=>?_,fun j hj hl d hd=>?_⟩
    ·have h0:=A.st _ _ _ hx (hi.hL t A ht hn)
     cases hod:o.dst with
     | none=>exact h0
     | some d=>
      have:d≠t:=fun e=>hn i him (by rw[hdst,hod,e])
      rw[eh this]
      exact h0
    ·by_cases hji:j=i
     ·subst hji
      rw[hdst] at hd
      rw[hd,gL (by rw[hi.size];exact f2 d hd)]
      exact hv
     ·have hl':listed.getD j false=true:=by rwa [getD_set_ne false (Ne.symm hji)] at hl
      have h0:=(As j).st _ _ _ hx (hi.hA j hj hl' d hd)
      cases hod:o.dst with
      | none=>exact h0
      | some d'=>
       have:d'≠d:=fun e=>f4 j hj hji d' hod (by rw[hd,e])
       rw[eh this]
       exact h0
  unfold wpOpIn
  simp only[ho]
  split
  ·rename_i hw
   rw[if_pos hw] at hg
   exact (hg.wp fun v w' hv=>step v w' hv.1 hv.2)
  ·rename_i hw
   rw[if_neg hw] at hg
   exact⟨fun _ _=>trivial,step undef w (Gro.rfl' _) hg⟩
theorem tD [Gro Γ]{id:Nat}{draw:Bool}{M S:List Oper}{L:(aZ Γ)}{a:Act}{w:World}(hmix:P.follows .mixedOrders=true)(hchk:chk (M++S).toArray M.length n=true)(hf:FrD n ds a w L)
  (h:bT P (M++S).toArray w M (fun L'=>∀a' w',Γ w w'→FrD n ds a' w' L'→wpListIn (FW r) 0 P (M++S).toArray Q S a' w') L):(Code.region id (M++S).toArray draw).wpIn (FW r) 0 P Q a w:=by
 simp only[chk,Bool.and_eq_true,List.all_eq_true,List.mem_range,Bool.or_eq_true] at hchk
 obtain⟨⟨hm,h1⟩,h2⟩:=hchk
 have hm:M.length≤(M++S).toArray.size:=by simp
 cases draw with
 | false=>
  refine wpIn_region_list <| kt S M L a w (fun o ho k hk=>?_) (Gro.rfl' _) hf h
  obtain⟨i,hi,rfl⟩:=List.mem_iff_getElem.1 ho
  have:=h1 i hi
  have ho':(M++S).toArray[i]?=some M[i]:=by rw[List.getElem?_toArray,List.getElem?_append_left hi];simp
  simp only[eA,ho',Bool.and_eq_true,hk,Nat.blt_eq] at this
  exact this.1.1.2
 | true=>
  refine wpIn_region_any hmix ?_
  obtain⟨As,hAs,hK⟩:=ku M 0 L (fun j hj=>by rw[Nat.zero_add,List.getElem?_toArray,List.getElem?_append_left hj]) h
  have hext:Γ w { w with drawn:=w.drawn+1 }:=Gro.drew w
  have:=nh (P:=P) (ops:=(M++S).toArray) (Q:=Q) (w0:=w) (n:=n) (ds:=ds) (m:=M.length) (L:=L) (As:=As) hm h1 (fun i hi hi'=>by
    rcases h2 i hi' with h|h
    ·simp only[Nat.blt_eq] at h;omega
    ·exact h) (fun j o hj ho=>hAs j o hj (by simpa using ho)) (fun a w hx hf=>by simpa using hK a w hx hf) M.length
   (Array.replicate (M++S).toArray.size false) a { w with drawn:=w.drawn+1 } ?_ (by simp) ?_ ?_ ⟨hext,hf.size,hf.defers,fun t A ht _=>A.st _ _ _ hext (hf.val t A ht),fun i hi hl=>?_⟩
  ·rwa [show M.length+((M++S).toArray.size - M.length)=(M++S).toArray.size by simp] at this
  ·have:(List.range M.length).countP (fun i => !(Array.replicate (M++S).toArray.size false).getD i true)=(List.range M.length).length:=by
    refine List.countP_eq_length.2 fun i hi=>?_
    have:=List.mem_range.1 hi
    have hlt:i<M.length+S.length:=by omega
    simp[hlt]
   simpa using this
  ·intro j _ hj
   have hlt:j<M.length+S.length:=by simpa using hj
   simp[hlt]
  ·intro i o hl
   have:(Array.replicate (M++S).toArray.size false).getD i false=false:=by
    by_cases hlt:i<M.length+S.length <;> simp[hlt]
   rw[this] at hl;cases hl
  ·have:(Array.replicate (M++S).toArray.size false).getD i false=false:=by
    by_cases hlt:i<M.length+S.length <;> simp[hlt]
   rw[this] at hl;cases hl
theorem reg [Gro Γ]{id:Nat}{draw:Bool}{ops:Array Oper}{L:(aZ Γ)}{a:Act}{w:World}(m:Nat)(hmix:P.follows .mixedOrders=true)(hf:FrD n ds a w L)(hchk:chk ops m n=true)
  (h:bT P ops w (ops.toList.take m) (fun L'=>∀a' w',Γ w w'→FrD n ds a' w' L'→wpListIn (FW r) 0 P ops Q (ops.toList.drop m) a' w') L):(Code.region id ops draw).wpIn (FW r) 0 P Q a w:=by
 have e:(ops.toList.take m++ops.toList.drop m).toArray=ops:=by simp
 have hl:(ops.toList.take m).length=m:=by
  simp only[chk,Bool.and_eq_true,Nat.ble_eq] at hchk
  simp
  omega
 have:=tD (P:=P) (Q:=Q) (n:=n) (ds:=ds) (id:=id) (draw:=draw) (M:=ops.toList.take m) (S:=ops.toList.drop m) (L:=L) (a:=a) (w:=w) hmix (by rw[e,hl];exact hchk) hf (by rw[e];exact h)
 rwa [e] at this
theorem ay [Gro Γ]{id:Nat}{ops:Array Oper}{L:(aZ Γ)}{a:Act}{w:World}(m:Nat)(hf:FrD n ds a w L)(hchk:((ops.toList.take m).all fun o=>match o.dst with|some d=>Nat.blt d n|none=>true)=true)
  (h:bT P ops w (ops.toList.take m) (fun L'=>∀a' w',Γ w w'→FrD n ds a' w' L'→wpListIn (FW r) 0 P ops Q (ops.toList.drop m) a' w') L):(Code.region id ops false).wpIn (FW r) 0 P Q a w:=by
 have e:ops.toList.take m++ops.toList.drop m=ops.toList:=by simp
 refine wpIn_region_list ?_
 rw[← e]
 refine kt (ops.toList.drop m) (ops.toList.take m) L a w (fun o ho k hk=>?_) (Gro.rfl' _) hf h
 have:=List.all_eq_true.1 hchk o ho
 simpa[hk,Nat.blt_eq] using this
theorem ab {id:Nat}{ops:Array Oper}{a:Act}{w:World}(h:wpListIn (FW r) 0 P ops Q ops.toList a w):(Code.region id ops false).wpIn (FW r) 0 P Q a w:=wpIn_region_list h
theorem rgN [Gro Γ]{id:Nat}{ops:Array Oper}{L:(aZ Γ)}{a:Act}{w:World}(m:Nat)(hf:FrD n ds a w L)
  (h:bT P ops w (ops.toList.take m) (fun L'=>∀a' w',Γ w w'→FrD n ds a' w' L'→wpListIn (FW r) 0 P ops Q (ops.toList.drop m) a' w') L) (hchk:((ops.toList.take m).all fun o=>match o.dst with|some d=>Nat.blt d n|none=>true)=true:=by decide +kernel):(Code.region id ops false).wpIn (FW r) 0 P Q a w:=ay m hf hchk h
theorem rgG [Gro Γ]{id:Nat}{draw:Bool}{ops:Array Oper}{L:(aZ Γ)}{a:Act}{w:World}(m:Nat)(hmix:P.follows .mixedOrders=true)(hf:FrD n ds a w L)
  (h:bT P ops w (ops.toList.take m) (fun L'=>∀a' w',Γ w w'→FrD n ds a' w' L'→wpListIn (FW r) 0 P ops Q (ops.toList.drop m) a' w') L) (hchk:chk ops m n=true:=by decide +kernel):(Code.region id ops draw).wpIn (FW r) 0 P Q a w:=reg m hmix hf hchk h
end reg
class Ug (w w':World)(P:Prop)(P':outParam Prop):Prop where
 up:Ext w w'→P→P'
class Gg (b:Nat)(w w':World)(P:Prop)(S P':outParam Prop):Prop where
 gr:w.grownBy w' (some b)→S→P→P'
section
variable {W w w':World}{b N:Nat}
instance:Ug w w' (Ext W w) (Ext W w'):=⟨fun e h=>h.tr e⟩
instance {A:VA}{v:Value}:Ug w w' (A.p v w) (A.p v w'):=⟨fun e h=>A.st _ _ _ e h⟩
instance:Ug w w' (N≤w.heap.size) (N≤w'.heap.size):=⟨fun e h=>Nat.le_trans h e.size⟩
instance:Gg b w w' (N≤w.heap.size) (0=0) (N≤w'.heap.size):=⟨fun g _ h=>Nat.le_trans h g.size⟩
variable {P1 Q1 P2 Q2 P3 Q3 P4 Q4 P5 Q5 P6 Q6 P7 Q7 P8 Q8 P9 Q9:Prop}
theorem up2 [Ug w w' P1 Q1][Ug w w' P2 Q2](e:Ext w w')(h1:P1)(h2:P2):Q1∧Q2:=⟨Ug.up e h1,Ug.up e h2⟩
theorem up3 [Ug w w' P1 Q1][Ug w w' P2 Q2][Ug w w' P3 Q3](e:Ext w w')(h1:P1)(h2:P2)(h3:P3):Q1∧Q2∧Q3:=⟨Ug.up e h1,Ug.up e h2,Ug.up e h3⟩
theorem up4 [Ug w w' P1 Q1][Ug w w' P2 Q2][Ug w w' P3 Q3][Ug w w' P4 Q4](e:Ext w w')(h1:P1)(h2:P2)(h3:P3)(h4:P4):Q1∧Q2∧Q3∧Q4:=⟨Ug.up e h1,Ug.up e h2,Ug.up e h3,Ug.up e h4⟩
theorem up5 [Ug w w' P1 Q1][Ug w w' P2 Q2][Ug w w' P3 Q3][Ug w w' P4 Q4][Ug w w' P5 Q5](e:Ext w w')(h1:P1)(h2:P2)(h3:P3)(h4:P4)(h5:P5):Q1∧Q2∧Q3∧Q4∧Q5:=⟨Ug.up e h1,Ug.up e h2,Ug.up e h3,Ug.up e h4,Ug.up e h5⟩
theorem up6 [Ug w w' P1 Q1][Ug w w' P2 Q2][Ug w w' P3 Q3][Ug w w' P4 Q4][Ug w w' P5 Q5][Ug w w' P6 Q6](e:Ext w w')(h1:P1)(h2:P2)(h3:P3)(h4:P4)(h5:P5)(h6:P6):Q1∧Q2∧Q3∧Q4∧Q5∧Q6:=⟨Ug.up e h1,Ug.up e h2,Ug.up e h3,Ug.up e h4,Ug.up e h5,Ug.up e h6⟩
theorem up7 [Ug w w' P1 Q1][Ug w w' P2 Q2][Ug w w' P3 Q3][Ug w w' P4 Q4][Ug w w' P5 Q5][Ug w w' P6 Q6][Ug w w' P7 Q7](e:Ext w w')(h1:P1)(h2:P2)(h3:P3)(h4:P4)(h5:P5)(h6:P6)(h7:P7):Q1∧Q2∧Q3∧Q4∧Q5∧Q6∧Q7:=⟨Ug.up e h1,Ug.up e h2,Ug.up e h3,Ug.up e h4,Ug.up e h5,Ug.up e h6,Ug.up e h7⟩
theorem up8 [Ug w w' P1 Q1][Ug w w' P2 Q2][Ug w w' P3 Q3][Ug w w' P4 Q4][Ug w w' P5 Q5][Ug w w' P6 Q6][Ug w w' P7 Q7][Ug w w' P8 Q8](e:Ext w w')(h1:P1)(h2:P2)(h3:P3)(h4:P4)(h5:P5)(h6:P6)(h7:P7)(h8:P8):Q1∧Q2∧Q3∧Q4∧Q5∧Q6∧Q7∧Q8:=⟨Ug.up e h1,Ug.up e h2,Ug.up e h3,Ug.up e h4,Ug.up e h5,Ug.up e h6,Ug.up e h7,Ug.up e h8⟩
theorem up9 [Ug w w' P1 Q1][Ug w w' P2 Q2][Ug w w' P3 Q3][Ug w w' P4 Q4][Ug w w' P5 Q5][Ug w w' P6 Q6][Ug w w' P7 Q7][Ug w w' P8 Q8][Ug w w' P9 Q9](e:Ext w w')(h1:P1)(h2:P2)(h3:P3)(h4:P4)(h5:P5)(h6:P6)(h7:P7)(h8:P8)(h9:P9):Q1∧Q2∧Q3∧Q4∧Q5∧Q6∧Q7∧Q8∧Q9:=⟨Ug.up e h1,Ug.up e h2,Ug.up e h3,Ug.up e h4,Ug.up e h5,Ug.up e h6,Ug.up e h7,Ug.up e h8,Ug.up e h9⟩
variable {S1 S2 S3 S4 S5 S6 S7 S8 S9:Prop}
theorem gr2 [Gg b w w' P1 S1 Q1][Gg b w w' P2 S2 Q2](g:w.grownBy w' (some b))(h1:P1)(h2:P2)(s:S1∧S2:=by omega):Q1∧Q2:=⟨Gg.gr g s.1 h1,Gg.gr g s.2 h2⟩
theorem gr3 [Gg b w w' P1 S1 Q1][Gg b w w' P2 S2 Q2][Gg b w w' P3 S3 Q3](g:w.grownBy w' (some b))(h1:P1)(h2:P2)(h3:P3)(s:S1∧S2∧S3:=by omega):Q1∧Q2∧Q3:=⟨Gg.gr g s.1 h1,Gg.gr g s.2.1 h2,Gg.gr g s.2.2 h3⟩
theorem gr4 [Gg b w w' P1 S1 Q1][Gg b w w' P2 S2 Q2][Gg b w w' P3 S3 Q3][Gg b w w' P4 S4 Q4](g:w.grownBy w' (some b))(h1:P1)(h2:P2)(h3:P3)(h4:P4)(s:S1∧S2∧S3∧S4:=by omega):Q1∧Q2∧Q3∧Q4:=⟨Gg.gr g s.1 h1,Gg.gr g s.2.1 h2,Gg.gr g s.2.2.1 h3,Gg.gr g s.2.2.2 h4⟩
theorem gr5 [Gg b w w' P1 S1 Q1][Gg b w w' P2 S2 Q2][Gg b w w' P3 S3 Q3][Gg b w w' P4 S4 Q4][Gg b w w' P5 S5 Q5](g:w.grownBy w' (some b))(h1:P1)(h2:P2)(h3:P3)(h4:P4)(h5:P5)(s:S1∧S2∧S3∧S4∧S5:=by omega):Q1∧Q2∧Q3∧Q4∧Q5:=⟨Gg.gr g s.1 h1,Gg.gr g s.2.1 h2,Gg.gr g s.2.2.1 h3,Gg.gr g s.2.2.2.1 h4,Gg.gr g s.2.2.2.2 h5⟩
theorem gr6 [Gg b w w' P1 S1 Q1][Gg b w w' P2 S2 Q2][Gg b w w' P3 S3 Q3][Gg b w w' P4 S4 Q4][Gg b w w' P5 S5 Q5][Gg b w w' P6 S6 Q6](g:w.grownBy w' (some b))(h1:P1)(h2:P2)(h3:P3)(h4:P4)(h5:P5)(h6:P6)(s:S1∧S2∧S3∧S4∧S5∧S6:=by omega):Q1∧Q2∧Q3∧Q4∧Q5∧Q6:=⟨Gg.gr g s.1 h1,Gg.gr g s.2.1 h2,Gg.gr g s.2.2.1 h3,Gg.gr g s.2.2.2.1 h4,Gg.gr g s.2.2.2.2.1 h5,Gg.gr g s.2.2.2.2.2 h6⟩
theorem gr7 [Gg b w w' P1 S1 Q1][Gg b w w' P2 S2 Q2][Gg b w w' P3 S3 Q3][Gg b w w' P4 S4 Q4][Gg b w w' P5 S5 Q5][Gg b w w' P6 S6 Q6][Gg b w w' P7 S7 Q7](g:w.grownBy w' (some b))(h1:P1)(h2:P2)(h3:P3)(h4:P4)(h5:P5)(h6:P6)(h7:P7)(s:S1∧S2∧S3∧S4∧S5∧S6∧S7:=by omega):Q1∧Q2∧Q3∧Q4∧Q5∧Q6∧Q7:=⟨Gg.gr g s.1 h1,Gg.gr g s.2.1 h2,Gg.gr g s.2.2.1 h3,Gg.gr g s.2.2.2.1 h4,Gg.gr g s.2.2.2.2.1 h5,Gg.gr g s.2.2.2.2.2.1 h6,Gg.gr g s.2.2.2.2.2.2 h7⟩
end
end Go.Mono
namespace Go.Mono
open Go Go.RowKit
variable {Γ:World→World→Prop}

variable {P:Program}{w0:World}{L:(aZ Γ)}{dst:Option Tmp}{ty:TypeId}{pos:String}{aft:Array Edge}{g:Option (Nat×Bool)}{r:Option Nat}{ds:List Deferred}
theorem aP [Gro Γ]{o:Oper}{A:(VAr Γ)}(h:∀ρ w,Γ w0 w→(∀x∈o.op.operands,∀B,opd L x=some B→B.p (ρ x) w)→∃v,(execOp ρ o).run P w=.ok (.value v) w∧A.p v w):OpC P w0 L o A:=by
 refine⟨fun ρ w he hv=>?_⟩
 obtain⟨v,h1,h2⟩:=h ρ w he hv
 simp only[OpR,h1]
 exact⟨Gro.rfl' _,h2⟩

theorem opE {ρ:Operand→Value}{w:World}{o:Oper}(hv:∀x∈o.op.operands,∀B,opd L x=some B→B.p (ρ x) w){x:Operand}{v:Value}(hx:x∈o.op.operands)(h:opd L x=some (ER v)):ρ x=v:=hv x hx _ h

theorem mv [Gro Γ]{x:Operand}{A:(VAr Γ)}(h:opd L x=some A):OpC P w0 L ⟨dst,.move x,ty,pos,aft,g⟩ A:=
 aP fun ρ w _ hv=>⟨ρ x,rfl,hv x (by simp[Op.operands]) A h⟩
theorem asg [Gro Γ]{x:Operand}{A:(VAr Γ)}(h:opd L x=some A):OpC P w0 L ⟨dst,.assign x,ty,pos,aft,g⟩ A:=
 aP fun ρ w _ hv=>⟨ρ x,rfl,hv x (by simp[Op.operands]) A h⟩

theorem pkT [Gro Γ]{c x y:Operand}{A:(VAr Γ)}(hc:opd L c=some (ER (.bool true)))(hx:opd L x=some A):OpC P w0 L ⟨dst,.pick c x y,ty,pos,aft,g⟩ A:=
 aP fun ρ w _ hv=>by
  have h1:=opE hv (x:=c) (by simp[Op.operands]) hc
  exact⟨ρ x,by simp[execOp,h1,asBool],hv x (by simp[Op.operands]) A hx⟩
theorem pkF [Gro Γ]{c x y:Operand}{A:(VAr Γ)}(hc:opd L c=some (ER (.bool false)))(hy:opd L y=some A):OpC P w0 L ⟨dst,.pick c x y,ty,pos,aft,g⟩ A:=
 aP fun ρ w _ hv=>by
  have h1:=opE hv (x:=c) (by simp[Op.operands]) hc
  exact⟨ρ y,by simp[execOp,h1,asBool],hv y (by simp[Op.operands]) A hy⟩

theorem aY [Gro Γ]{x:Operand}{t:TypeId}{b:Bool}(h:opd L x=some (ER (.bool b))):OpC P w0 L ⟨dst,.unOp .not t x,ty,pos,aft,g⟩ (ER (.bool !b)):=
 aP fun ρ w _ hv=>by
  have h1:=opE hv (x:=x) (by simp[Op.operands]) h
  exact⟨_,by simp[execOp,h1,Op.unary],rfl⟩

section num
variable {x y:Operand}{k:IntKind}{a b:Int}{t yt:TypeId}

theorem ce [Gro Γ]{op:BinOp}{v:Value}(hop:(binOp op t (.int k a) (.int k b))=pure v)(hx:opd L x=some (ER (.int k a)))(hy:opd L y=some (ER (.int k b))) :
  OpC P w0 L ⟨dst,.binOp op t x y yt,ty,pos,aft,g⟩ (ER v):=
 aP fun ρ w _ hv=>by
  have h1:=opE hv (x:=x) (by simp[Op.operands]) hx
  have h2:=opE hv (x:=y) (by simp[Op.operands]) hy
  refine⟨v,?_,rfl⟩
  have hg:(eqGuard op t x y (.int k a) (.int k b)).run P w=.ok () w:=by
   unfold eqGuard
   split <;> rfl
  simp[execOp,h1,h2,hg,hop]

theorem add [Gro Γ](hx:opd L x=some (ER (.int .i64 a)))(hy:opd L y=some (ER (.int .i64 b)))(h : -9223372036854775808≤a+b∧a+b≤9223372036854775807) :
  OpC P w0 L ⟨dst,.binOp .add t x y yt,ty,pos,aft,g⟩ (ER (.int .i64 (a+b))):=
 ce (by simp[binOp,Op.intArith,IntWalk.i64_in _ h]) hx hy
theorem sub [Gro Γ](hx:opd L x=some (ER (.int .i64 a)))(hy:opd L y=some (ER (.int .i64 b)))(h : -9223372036854775808≤a - b∧a - b≤9223372036854775807) :
  OpC P w0 L ⟨dst,.binOp .sub t x y yt,ty,pos,aft,g⟩ (ER (.int .i64 (a - b))):=
 ce (by simp[binOp,Op.intArith,IntWalk.i64_in _ h]) hx hy
theorem mul [Gro Γ](hx:opd L x=some (ER (.int .i64 a)))(hy:opd L y=some (ER (.int .i64 b)))(h : -9223372036854775808≤a * b∧a * b≤9223372036854775807) :
  OpC P w0 L ⟨dst,.binOp .mul t x y yt,ty,pos,aft,g⟩ (ER (.int .i64 (a * b))):=
 ce (by simp[binOp,Op.intArith,IntWalk.i64_in _ h]) hx hy
theorem quo [Gro Γ](hx:opd L x=some (ER (.int .i64 a)))(hy:opd L y=some (ER (.int .i64 b)))(h:0≤a∧a≤9223372036854775807∧0<b) :
  OpC P w0 L ⟨dst,.binOp .quo t x y yt,ty,pos,aft,g⟩ (ER (.int .i64 (a / b))):=by
 refine ce ?_ hx hy
 have h1:a.tdiv b=a / b:=Int.tdiv_eq_ediv_of_nonneg h.1
 have h2:0≤a / b:=Int.ediv_nonneg h.1 (by omega)
 have h3:a / b≤a:=Int.ediv_le_self b h.1
 have hb:b≠0:=by omega
 simp[binOp,Op.intDiv,hb,h1,IntWalk.i64_in (a / b) (by omega)]
theorem rem [Gro Γ](hx:opd L x=some (ER (.int .i64 a)))(hy:opd L y=some (ER (.int .i64 b)))(h:0≤a∧0<b) :
  OpC P w0 L ⟨dst,.binOp .rem t x y yt,ty,pos,aft,g⟩ (ER (.int .i64 (a % b))):=by
 refine ce ?_ hx hy
 have h1:a.tmod b=a % b:=Int.tmod_eq_emod_of_nonneg h.1
 have hb:b≠0:=by omega
 simp[binOp,Op.intDiv,hb,h1]

theorem eql [Gro Γ](hx:opd L x=some (ER (.int k a)))(hy:opd L y=some (ER (.int k b))):OpC P w0 L ⟨dst,.binOp .eql t x y yt,ty,pos,aft,g⟩ (ER (.bool (a==b))):=
 ce (by simp[binOp,Op.intCmp]) hx hy
theorem neq [Gro Γ](hx:opd L x=some (ER (.int k a)))(hy:opd L y=some (ER (.int k b))):OpC P w0 L ⟨dst,.binOp .neq t x y yt,ty,pos,aft,g⟩ (ER (.bool (a != b))):=
 ce (by simp[binOp,Op.intCmp]) hx hy
theorem lss [Gro Γ](hx:opd L x=some (ER (.int k a)))(hy:opd L y=some (ER (.int k b))):OpC P w0 L ⟨dst,.binOp .lss t x y yt,ty,pos,aft,g⟩ (ER (.bool (decide (a<b)))):=
 ce (by simp[binOp,Op.intCmp]) hx hy
theorem leq [Gro Γ](hx:opd L x=some (ER (.int k a)))(hy:opd L y=some (ER (.int k b))):OpC P w0 L ⟨dst,.binOp .leq t x y yt,ty,pos,aft,g⟩ (ER (.bool (decide (a≤b)))):=
 ce (by simp[binOp,Op.intCmp]) hx hy
theorem gtr [Gro Γ](hx:opd L x=some (ER (.int k a)))(hy:opd L y=some (ER (.int k b))):OpC P w0 L ⟨dst,.binOp .gtr t x y yt,ty,pos,aft,g⟩ (ER (.bool (decide (b<a)))):=
 ce (by simp[binOp,Op.intCmp]) hx hy
theorem geq [Gro Γ](hx:opd L x=some (ER (.int k a)))(hy:opd L y=some (ER (.int k b))):OpC P w0 L ⟨dst,.binOp .geq t x y yt,ty,pos,aft,g⟩ (ER (.bool (decide (b≤a)))):=
 ce (by simp[binOp,Op.intCmp]) hx hy
end num

theorem tE (d:Nat){t:TypeId}(a b:Bool)(ht:P.underlying t=some .bool)(w:World):(Op.equalIn (d+1) t (.bool a) (.bool b)).run P w=.ok (a==b) w:=by
 simp[Op.equalIn,run_underlying ht]
theorem tF {t:TypeId}(a b:Bool)(ht:P.underlying t=some .bool)(w:World):(Op.equal t (.bool a) (.bool b)).run P w=.ok (a==b) w:=by
 simp[Op.equal,Op.maxDepth,tE 9999 a b ht w]
theorem iR [Gro Γ]{x y:Operand}{t yt:TypeId}{u v:Value}{b:Bool}(hx:opd L x=some (ER u))(hy:opd L y=some (ER v))(hn:∀w,(eqGuard .eql t x y u v).run P w=.ok () w)
  (hop:binOp .eql t u v=(do pure (.bool (← Op.equal t u v)))) (he:∀w,Γ w0 w→(Op.equal t u v).run P w=.ok b w):OpC P w0 L ⟨dst,.binOp .eql t x y yt,ty,pos,aft,g⟩ (ER (.bool b)):=
 aP fun ρ w hw hv=>by
  have h1:=opE hv (x:=x) (by simp[Op.operands]) hx
  have h2:=opE hv (x:=y) (by simp[Op.operands]) hy
  exact⟨_,by simp only[execOp,h1,h2,Sem.run_bind,hn w,Result.andThen_ok,hop,he w hw,Sem.run_pure],rfl⟩
theorem kw [Gro Γ]{x y:Operand}{t yt:TypeId}{u v:Value}{b:Bool}(hx:opd L x=some (ER u))(hy:opd L y=some (ER v))(hn:∀w,(eqGuard .neq t x y u v).run P w=.ok () w)
  (hop:binOp .neq t u v=(do pure (.bool (!(← Op.equal t u v))))) (he:∀w,Γ w0 w→(Op.equal t u v).run P w=.ok b w):OpC P w0 L ⟨dst,.binOp .neq t x y yt,ty,pos,aft,g⟩ (ER (.bool !b)):=
 aP fun ρ w hw hv=>by
  have h1:=opE hv (x:=x) (by simp[Op.operands]) hx
  have h2:=opE hv (x:=y) (by simp[Op.operands]) hy
  exact⟨_,by simp only[execOp,h1,h2,Sem.run_bind,hn w,Result.andThen_ok,hop,he w hw,Sem.run_pure],rfl⟩
theorem iS [Gro Γ]{x y:Operand}{t yt:TypeId}{a b:Bool}(ht:P.underlying t=some .bool)(hx:opd L x=some (ER (.bool a)))(hy:opd L y=some (ER (.bool b))) :
  OpC P w0 L ⟨dst,.binOp .eql t x y yt,ty,pos,aft,g⟩ (ER (.bool (a==b))):=
 iR hx hy (fun _=>rfl) rfl fun w _=>tF a b ht w
def Tup (As:List (VAr Γ)):(VAr Γ):=⟨fun v w=>∃vs:List Value,v=.tuple vs.toArray∧vs.length=As.length∧∀(i:Nat) (A:(VAr Γ)),As[i]?=some A→A.p (vs.getD i undef) w,
 fun _ w w' e ⟨vs,h1,h2,h3⟩=>⟨vs,h1,h2,fun i (A:(VAr Γ)) h=>A.st _ w w' e (h3 i A h)⟩⟩

theorem aV [Gro Γ]{x:Operand}{As:List (VAr Γ)}{i:Nat}{A:(VAr Γ)}(hx:opd L x=some (Tup As))(hi:As[i]?=some A):OpC P w0 L ⟨dst,.extract x i,ty,pos,aft,g⟩ A:=
 aP fun ρ w _ hv=>by
  obtain⟨vs,h1,h2,h3⟩:=hv x (by simp[Op.operands]) _ hx
  have hlt:i<vs.length:=by have:=(List.getElem?_eq_some_iff.1 hi).1;omega
  exact⟨vs.getD i undef,by simp[execOp,h1,Instr.extract,hlt],h3 i A hi⟩

theorem Tup.two {A B:(VAr Γ)}{u v:Value}{w:World}(h1:A.p u w)(h2:B.p v w):(Tup [A,B]).p (.tuple #[u,v]) w:=
 ⟨[u,v],rfl,rfl,fun i C h=>by
  match i with
  | 0=>simp at h;subst h;exact h1
  | 1=>simp at h;subst h;exact h2
  | i+2=>simp at h⟩
theorem Tup.three {A B C:(VAr Γ)}{u v x:Value}{w:World}(h1:A.p u w)(h2:B.p v w)(h3:C.p x w):(Tup [A,B,C]).p (.tuple #[u,v,x]) w:=
 ⟨[u,v,x],rfl,rfl,fun i D h=>by
  match i with
  | 0=>simp at h;subst h;exact h1
  | 1=>simp at h;subst h;exact h2
  | 2=>simp at h;subst h;exact h3
  | i+3=>simp at h⟩

abbrev fg (A:(VAr Γ))(w:World):Ending→World→Prop:=fun e w'=>∃v,e=.returned v∧Γ w w'∧A.p v w'
abbrev Post (A:VA)(w:World):Ending→World→Prop:=fg A w

theorem iT {f:FuncId}{xs:Array Operand}{tys:Array TypeId}{A:(VAr Γ)}(hf:Proofs.Enters P f)
  (h:∀ρ w,Γ w0 w→(∀x∈(Op.call ⟨.value (.func f),xs,tys⟩).operands,∀B,opd L x=some B→B.p (ρ x) w)→Calls P f (xs.map ρ) w (fg A w)) :
  OpC P w0 L ⟨dst,.call ⟨.value (.func f),xs,tys⟩,ty,pos,aft,g⟩ A:=by
 refine⟨fun ρ w he hv=>?_⟩
 have hfv:ρ (.func f)=.func (.func f) #[] #[]:=hv (.func f) (by simp[Op.operands,Call.operands]) _ rfl
 have hrun:(execOp ρ ⟨dst,.call ⟨.value (.func f),xs,tys⟩,ty,pos,aft,g⟩).run P w=.ok (.enter f (xs.map ρ)) w:=by
  simp[execOp,resolve,hfv,Deferred.ofValue,invoke,hf (xs.map ρ) w]
 simp only[OpR,hrun]
 exact h ρ w he hv

theorem gN {f:FuncId}{tys:Array TypeId}{A:(VAr Γ)}(hf:Proofs.Enters P f)(h:∀w,Γ w0 w→Calls P f #[] w (fg A w)) :
  OpC P w0 L ⟨dst,.call ⟨.value (.func f),#[],tys⟩,ty,pos,aft,g⟩ A:=
 iT hf fun ρ w he hv=>by simpa using h w he
theorem ak {f:FuncId}{x:Operand}{tys:Array TypeId}{A B:(VAr Γ)}(hf:Proofs.Enters P f)(hx:opd L x=some B)(h:∀v w,Γ w0 w→B.p v w→Calls P f #[v] w (fg A w)) :
  OpC P w0 L ⟨dst,.call ⟨.value (.func f),#[x],tys⟩,ty,pos,aft,g⟩ A:=
 iT hf fun ρ w he hv=>by simpa using h (ρ x) w he (hv x (by simp[Op.operands,Call.operands]) _ hx)
theorem aw {f:FuncId}{x y:Operand}{tys:Array TypeId}{A B C:(VAr Γ)}(hf:Proofs.Enters P f)(hx:opd L x=some B)(hy:opd L y=some C)
  (h:∀v u w,Γ w0 w→B.p v w→C.p u w→Calls P f #[v,u] w (fg A w)) :
  OpC P w0 L ⟨dst,.call ⟨.value (.func f),#[x,y],tys⟩,ty,pos,aft,g⟩ A:=
 iT hf fun ρ w he hv=>by simpa using h (ρ x) (ρ y) w he (hv x (by simp[Op.operands,Call.operands]) _ hx) (hv y (by simp[Op.operands,Call.operands]) _ hy)
theorem bX {f:FuncId}{x y z:Operand}{tys:Array TypeId}{A B C D:(VAr Γ)}(hf:Proofs.Enters P f)(hx:opd L x=some B)(hy:opd L y=some C)(hz:opd L z=some D)
  (h:∀v u s w,Γ w0 w→B.p v w→C.p u w→D.p s w→Calls P f #[v,u,s] w (fg A w)) :
  OpC P w0 L ⟨dst,.call ⟨.value (.func f),#[x,y,z],tys⟩,ty,pos,aft,g⟩ A:=
 iT hf fun ρ w he hv=>by
  simpa using h (ρ x) (ρ y) (ρ z) w he (hv x (by simp[Op.operands,Call.operands]) _ hx) (hv y (by simp[Op.operands,Call.operands]) _ hy) (hv z (by simp[Op.operands,Call.operands]) _ hz)

section guards
variable {ops:Array Oper}{rest:List Oper}{K:(aZ Γ)→Prop}{A:(VAr Γ)}{op:Op}{dd:Nat}
theorem st (h:OpC P w0 L ⟨some dd,op,ty,pos,aft,none⟩ A)(k:bT P ops w0 rest K ((dd,A)::L)):bT P ops w0 (⟨some dd,op,ty,pos,aft,none⟩::rest) K L:=
 ⟨A,fun a w he hv _=>by simp only[Region.wanted,if_true];exact h.out _ w he hv,k⟩
theorem iU {a:Act}{d:Nat}{b:Bool}{i:Nat}(hd:(ops[i]?).bind (·.dst)=some d)(h:a.eval (.tmp d)=.bool b):yielded ops a.tmps i=some b:=by
 unfold yielded
 rw[hd]
 simp only[Act.eval] at h
 have:a.tmps[d]?=some (.bool b):=by
  cases hh:a.tmps[d]? with
  | none=>simp[hh,undef] at h
  | some v=>simpa[hh] using h
 simp[this]
theorem sy {i d:Nat}{want:Bool}(hd:(ops[i]?).bind (·.dst)=some d)(hl:aG L d=some (ER (.bool want)))
  (h:OpC P w0 L ⟨some dd,op,ty,pos,aft,some (i,want)⟩ A) (k:bT P ops w0 rest K ((dd,A)::L)):bT P ops w0 (⟨some dd,op,ty,pos,aft,some (i,want)⟩::rest) K L:=
 ⟨A,fun a w he hv hgd=>by
  have h1:a.eval (.tmp d)=.bool want:=hgd d _ (by simp[bM,hd]) hl
  have h2:=iU (ops:=ops) hd h1
  simp only[Region.wanted,h2,beq_self_eq_true,if_true]
  exact h.out _ w he hv,k⟩
theorem sn {i d:Nat}{want b:Bool}(hd:(ops[i]?).bind (·.dst)=some d)(hl:aG L d=some (ER (.bool b)))(hb:b = !want)
  (k:bT P ops w0 rest K ((dd,ER undef)::L)):bT P ops w0 (⟨some dd,op,ty,pos,aft,some (i,want)⟩::rest) K L:=
 ⟨ER undef,fun a w he hv hgd=>by
  have h1:a.eval (.tmp d)=.bool b:=hgd d _ (by simp[bM,hd]) hl
  have h2:=iU (ops:=ops) hd h1
  have h3:(some b==some want)=false:=by subst hb;cases want <;> rfl
  simp only[Region.wanted,h2,h3]
  rfl,k⟩
theorem su {i d:Nat}{want:Bool}(hd:(ops[i]?).bind (·.dst)=some d)(hl:aG L d=some (ER undef))
  (k:bT P ops w0 rest K ((dd,ER undef)::L)):bT P ops w0 (⟨some dd,op,ty,pos,aft,some (i,want)⟩::rest) K L:=
 ⟨ER undef,fun a w he hv hgd=>by
  have h1:a.eval (.tmp d)=undef:=hgd d _ (by simp[bM,hd]) hl
  have h2:yielded ops a.tmps i=none:=by
   unfold yielded
   rw[hd]
   simp only[Act.eval] at h1
   cases hh:a.tmps[d]? with
   | none=>simp[hh]
   | some v=>simp[hh] at h1;subst h1;simp[hh,undef]
  simp only[Region.wanted,h2]
  rfl,k⟩
theorem en (h:K L):bT P ops w0 [] K L:=h
end guards

section tail
variable {ops:Array Oper}{rest:List Oper}{Q:Exit→Act→World→Prop}{n:Nat}{a:Act}{w:World}

theorem aa (h:Q .normal a w):wpListIn (FW r) 0 P ops Q [] a w:=h
theorem kx [Gro Γ]{op:Op}{d:Nat}{A:(VAr Γ)}(hf:FrD n ds a w L)(hd:d<n)(h:OpC P w L ⟨some d,op,ty,pos,aft,none⟩ A)
  (k:∀a' w',Γ w w'→FrD n ds a' w' ((d,A)::L)→wpListIn (FW r) 0 P ops Q rest a' w'):wpListIn (FW r) 0 P ops Q (⟨some d,op,ty,pos,aft,none⟩::rest) a w:=
 wpListIn_plain rfl fun K hK=>(h.out a.eval w (Gro.rfl' _) (fun x _ B hB=>hf.opd x B hB)).wp fun v w' hv=>hK _ _ (k _ _ hv.1 (hf.put (d:=some d) hv.1 (fun k hk=>by cases hk;exact hd) hv.2))
theorem aA [Gro Γ]{x:Operand}{A:(VAr Γ)}{d:Nat}(hf:FrD n ds a w L)(h:opd L x=some A)(hd:d<n)(k:∀a',FrD n ds a' w ((d,A)::L)→wpListIn (FW r) 0 P ops Q rest a' w) :
  wpListIn (FW r) 0 P ops Q (⟨some d,.assign x,ty,pos,aft,none⟩::rest) a w:=
 wpListIn_plain rfl fun K hK=>by
  refine OpR.wp (R:=fun v w'=>w'=w∧v=a.eval x) (by simp[OpR,execOp]) ?_
  rintro v w' ⟨rfl,rfl⟩
  exact hK _ _ (k _ (hf.put (d:=some d) (Gro.rfl' _) (fun k hk=>by cases hk;exact hd) (hf.opd x A h)))
theorem tA [Gro Γ]{x:Operand}{A:(VAr Γ)}{d:Nat}(hf:FrD n ds a w L)(h:opd L x=some A)(k:∀a',FrD n ds a' w ((d,A)::L)→wpListIn (FW r) 0 P ops Q rest a' w)(hd:d<n:=by decide) :
  wpListIn (FW r) 0 P ops Q (⟨some d,.assign x,ty,pos,aft,none⟩::rest) a w:=aA hf h hd k
theorem tP [Gro Γ]{op:Op}{d:Nat}{A:(VAr Γ)}(hf:FrD n ds a w L)(h:OpC P w L ⟨some d,op,ty,pos,aft,none⟩ A)
  (k:∀a' w',Γ w w'→FrD n ds a' w' ((d,A)::L)→wpListIn (FW r) 0 P ops Q rest a' w') (hd:d<n:=by decide):wpListIn (FW r) 0 P ops Q (⟨some d,op,ty,pos,aft,none⟩::rest) a w:=kx hf hd h k
end tail

def keep (ks:List Nat)(L:(aZ Γ)):(aZ Γ):=ks.filterMap fun k=>(aG L k).map fun A=>(k,A)
theorem iV (L:(aZ Γ)):∀(ks:List Nat) t A,aG (keep ks L) t=some A→aG L t=some A
 | [],t,A,h=>by simp[keep,aG] at h
 | k::ks,t,A,h=>by
  simp only[keep,List.filterMap_cons] at h
  cases hk:aG L k with
  | none=>rw[hk] at h;exact iV L ks t A h
  | some B=>
   rw[hk] at h
   simp only[Option.map_some] at h
   by_cases hkt:k=t
   ·subst hkt
    rw[cB] at h
    rw[hk];exact h
   ·rw[cC _ _ hkt] at h
    exact iV L ks t A h
theorem FrD.keep {n:Nat}{a:Act}{w:World}(h:FrD n ds a w L)(ks:List Nat):FrD n ds a w (Mono.keep ks L):=
 ⟨h.size,h.defers,fun t A ht=>h.val t A (iV L ks t A ht)⟩
theorem FrD.kp {n:Nat}{a:Act}{w:World}(h:FrD n ds a w L)(ks:List Nat){L':aZ Γ}(hL:Mono.keep ks L=L':=by dsimp only[keep,List.filterMap,aG,Nat.beq,Option.map] <;> rfl):FrD n ds a w L':=hL▸h.keep ks
theorem FrD.cons {n:Nat}{a:Act}{w:World}{k:Nat}{A:(VAr Γ)}(hv:A.p (a.eval (.tmp k)) w)(h:FrD n ds a w L):FrD n ds a w ((k,A)::L):=
 ⟨h.size,h.defers,fun t B ht=>by
  by_cases hkt:k=t
  ·subst hkt;rw[cB] at ht;cases ht;exact hv
  ·rw[cC _ _ hkt] at ht;exact h.val t B ht⟩
theorem FrD.nil {n:Nat}{a:Act}{w:World}(h:FrD n ds a w L):FrD n ds a w ([]:aZ Γ):=⟨h.size,h.defers,fun t A ht=>by simp[aG] at ht⟩
theorem FrD.weak {n:Nat}{a:Act}{w:World}{k:Nat}{A B:(VAr Γ)}(h:FrD n ds a w ((k,A)::L))(hAB:∀v,A.p v w→B.p v w):FrD n ds a w ((k,B)::L):=
 ⟨h.size,h.defers,fun t C ht=>by
  by_cases hkt:k=t
  ·subst hkt;rw[cB] at ht;cases ht;exact hAB _ (h.val k A (cB _ _ _))
  ·rw[cC _ _ hkt] at ht;exact h.val t C (by rw[cC _ _ hkt];exact ht)⟩

theorem gO {p:Nat→Prop}(h:∃n,p n):∃n,p n∧∀m,m<n→¬p m:=by
 obtain⟨n,hn⟩:=h
 induction n using Nat.strongRecOn with
 | _ n ih=>
  by_cases hm:∃m,m<n∧p m
  ·obtain⟨m,hm,hp⟩:=hm
   exact ih m hm hp
  ·exact⟨n,hn,fun m hlt hp=>hm ⟨m,hlt,hp⟩⟩
open Classical in
theorem aF {ro:Option Nat}{c:Code}{Q:Exit→Act→World→Prop}{a:Act}{w:World}(J:Nat→Act→World→Prop)(k:Nat)(h0:J k a w)
  (round:∀r a w,J r a w→c.wpIn (FW ro) 0 P (Exit.then (fun a' w'=>∃m,m<r∧J m a' w') Q) a w):(Code.loop c).wpIn (FW ro) 0 P Q a w:=by
 refine wpIn_loop (fun a w=>∃r,J r a w) (fun a w=>if h:∃r,J r a w then Classical.choose (gO h) else 0) ⟨k,h0⟩ fun a w hJ=>?_
 have hs:=Classical.choose_spec (gO hJ)
 refine wpIn_mono (round _ a w hs.1) fun e a' w' hq=>?_
 cases e with
 | normal=>
  obtain⟨m,hm,hJm⟩:=hq
  refine⟨⟨m,hJm⟩,?_⟩
  have h':∃r,J r a' w':=⟨m,hJm⟩
  have hs':=Classical.choose_spec (gO h')
  simp only[dif_pos h',dif_pos hJ]
  rcases Nat.lt_or_ge m (Classical.choose (gO h')) with hlt|hge
  ·exact absurd hJm (hs'.2 m hlt)
  ·omega
 | _=>exact hq
theorem blk {c:Code}{id:Nat}{Q:Exit→Act→World→Prop}{a:Act}{w:World}(h:c.wpIn (FW r) 0 P (Exit.inBlock id Q) a w):(Code.block id c).wpIn (FW r) 0 P Q a w:=wpIn_block h

def params:Nat→List (VAr Γ)→(aZ Γ)
 | _,[]=>[]
 | k,A::As=>(k,A)::params (k+1) As
theorem ky:∀(As:List (VAr Γ)) (k t:Nat) (A:(VAr Γ)),aG (params k As) t=some A→k≤t∧As[t - k]?=some A
 | [],k,t,A,h=>by simp[params,aG] at h
 | B::As,k,t,A,h=>by
  by_cases hkt:k=t
  ·subst hkt
   rw[params,cB] at h
   simp[h]
  ·rw[params,cC _ _ hkt] at h
   obtain⟨h1,h2⟩:=ky As (k+1) t A h
   exact⟨by omega,by rw[show t - k=(t - (k+1))+1 by omega];simpa using h2⟩
theorem enter {f:FuncId}{fn:Func}{c:Code}{n:Nat}{args:List Value}{As:List (VAr Γ)}{w:World}{R:Ending→World→Prop}(hf:P.funcs[f]?=some fn)(hb:fn.body=some c)(hn:fn.ntmps=n)(hl:args.length≤n)
  (hA:∀(i:Nat) (A:(VAr Γ)),As[i]?=some A→A.p (args.getD i undef) w) (h:∀a,Fr n a w (params 0 As)→c.wpIn (FW none) 0 P (bodyPost P fn R) a w) (hlen:As.length≤args.length):Calls P f args.toArray w R:=by
 refine calls_of_wp hf hb ((wpIn_wide (n:=0)).1 (h _ ⟨?_,rfl,fun t A ht=>?_⟩))
 ·simp[hn];omega
 ·obtain⟨_,h2⟩:=ky As 0 t A ht
  rw[Nat.sub_zero] at h2
  have hlt:t<As.length:=(List.getElem?_eq_some_iff.1 h2).1
  have:=hA t A h2
  have e:(args.toArray++Array.replicate (fn.ntmps - args.toArray.size) undef).getD t undef=args.getD t undef:=by
   have:t<args.length:=by omega
   simp[Array.getElem?_append,this]
  simp only[Act.eval,e]
  exact this
theorem eN {f:FuncId}{fn:Func}{c:Code}{n:Nat}(args:List Value)(As:List (VAr Γ)){w:World}{R:Ending→World→Prop}(hf:P.funcs[f]?=some fn)(hn:fn.ntmps=n)
  (hA:∀(i:Nat) (A:(VAr Γ)),As[i]?=some A→A.p (args.getD i undef) w) (h:∀a,Fr n a w (params 0 As)→c.wpIn (FW none) 0 P (bodyPost P fn R) a w) (hb:fn.body=some c:=by exact rfl) (hl:args.length≤n:=by exact Nat.le_of_ble_eq_true rfl) (hlen:As.length≤args.length:=by exact Nat.le_of_ble_eq_true rfl):Calls P f args.toArray w R:=enter hf hb hn hl hA h hlen
theorem am {fn:Func}{t:Nat}{R:Ending→World→Prop}{n:Nat}{a:Act}{w:World}{A:(VAr Γ)}(hr:fn.results = #[.tmp t])(hf:Fr n a w L)(h:aG L t=some A)(hR:∀v,A.p v w→R (.returned v) w) :
  bodyPost P fn R .ret a w:=
 ⟨hf.defers,_,results_tmp hr _ _ _,hR _ (hf.val t A h)⟩
theorem fh {fn:Func}{t u:Nat}{R:Ending→World→Prop}{n:Nat}{a:Act}{w:World}{A B:(VAr Γ)}(hr:fn.results = #[.tmp t,.tmp u])(hf:Fr n a w L)(h:aG L t=some A)(h':aG L u=some B)
  (hR:∀v x,A.p v w→B.p x w→R (.returned (.tuple #[v,x])) w):bodyPost P fn R .ret a w:=
 ⟨hf.defers,_,results_tmp2 hr _ _ _,hR _ _ (hf.val t A h) (hf.val u B h')⟩
theorem tG {fn:Func}{R:Ending→World→Prop}{n:Nat}{a:Act}{w:World}(hr:fn.results = #[])(hf:Fr n a w L)(hR:R (.returned (.tuple #[])) w):bodyPost P fn R .ret a w:=
 ⟨hf.defers,_,results_none hr _ _ _,hR⟩
theorem kz {fn:Func}{R:Ending→World→Prop}{n:Nat}{a:Act}{w:World}(hr:fn.results = #[])(hf:Fr n a w L)(hR:R (.returned (.tuple #[])) w):bodyPost P fn R .normal a w:=
 ⟨hf.defers,_,results_none hr _ _ _,hR⟩
theorem ifc {x:Operand}{thn els:Code}{Q:Exit→Act→World→Prop}{n:Nat}{a:Act}{w:World}{b:Bool}(hf:FrD n ds a w L)(h:opd L x=some (ER (.bool b)))
  (ht:b=true→thn.wpIn (FW r) 0 P Q a w) (he:b=false→els.wpIn (FW r) 0 P Q a w):(Code.cond x thn els).wpIn (FW r) 0 P Q a w:=
 wpIn_cond_split (hf.opd x _ h) ht he
theorem ifF {x:Operand}{thn els:Code}{Q:Exit→Act→World→Prop}{n:Nat}{a:Act}{w:World}(hf:FrD n ds a w L)(h:opd L x=some (ER (.bool false)))(he:els.wpIn (FW r) 0 P Q a w):(Code.cond x thn els).wpIn (FW r) 0 P Q a w:=ifc hf h (fun h=>by cases h) fun _=>he
theorem ifT {x:Operand}{thn els:Code}{Q:Exit→Act→World→Prop}{n:Nat}{a:Act}{w:World}(hf:FrD n ds a w L)(h:opd L x=some (ER (.bool true)))(ht:thn.wpIn (FW r) 0 P Q a w):(Code.cond x thn els).wpIn (FW r) 0 P Q a w:=ifc hf h (fun _=>ht) fun h=>by cases h
theorem seq {x y:Code}{Q:Exit→Act→World→Prop}{a:Act}{w:World}(h:x.wpIn (FW r) 0 P (Exit.then (y.wpIn (FW r) 0 P Q) Q) a w):(Code.seq x y).wpIn (FW r) 0 P Q a w:=wpIn_seq h
theorem ah {Q:Exit→Act→World→Prop}{a:Act}{w:World}(h:Q .normal a w):Code.skip.wpIn (FW r) 0 P Q a w:=wpIn_skip h
theorem aC {id:Nat}{Q:Exit→Act→World→Prop}{a:Act}{w:World}(h:Q (.exit id) a w):(Code.exit id).wpIn (FW r) 0 P Q a w:=wpIn_exit h
theorem ai {Q:Exit→Act→World→Prop}{a:Act}{w:World}(h:Q .ret a w):Code.ret.wpIn (FW r) 0 P Q a w:=wpIn_ret h
end Go.Mono
namespace Go.Mono
open Go Go.RowKit

variable {P:Program}{w0:World}{L:Env}{dst:Option Tmp}{ty:TypeId}{pos:String}{aft:Array Edge}{g:Option (Nat×Bool)}{r:Option Nat}{ds:List Deferred}
def Blk (w:World)(b:Nat)(cs:Array Value)(t:TypeId):Prop:=w.heap[b]?=some (.cells cs t (0,0))
theorem Blk.lt {w:World}{b:Nat}{cs:Array Value}{t:TypeId}(h:Blk w b cs t):b<w.heap.size:=(Array.getElem?_eq_some_iff.1 h).1
theorem Blk.ext {w w':World}{b:Nat}{cs:Array Value}{t:TypeId}(h:Blk w b cs t)(e:Ext w w'):Blk w' b cs t:=(e.block b h.lt).trans h
instance {w w':World}{b:Nat}{cs:Array Value}{t:TypeId}:Ug w w' (Blk w b cs t) (Blk w' b cs t):=⟨fun e h=>h.ext e⟩
theorem Blk.gr {w w':World}{b b':Nat}{cs:Array Value}{t:TypeId}(h:Blk w b cs t)(e:w.grownBy w' (some b'))(hne:b≠b'):Blk w' b cs t:=
 (e.block b h.lt (by simpa using hne)).trans h
instance {w w':World}{b d:Nat}{cs:Array Value}{t:TypeId}:Gg d w w' (Blk w b cs t) (b≠d) (Blk w' b cs t):=⟨fun g s h=>h.gr g s⟩
theorem Blk.cell {w:World}{b:Nat}{cs:Array Value}{t:TypeId}(h:Blk w b cs t)(i:Nat):w.cell? ⟨b,i,none⟩=cs[i]?:=by
 unfold Blk at h
 simp[World.cell?,h]
theorem Ext.gr {w w1 w2:World}{b:Nat}(e:Ext w w1)(h:w1.grownBy w2 (some b))(hb:w.heap.size≤b):Ext w w2:=
 Below.grown e h e.size (fun k hk=>by cases hk;exact hb)

instance {W w w':World}{b:Nat}:Gg b w w' (Ext W w) (W.heap.size≤b) (Ext W w'):=⟨fun g s h=>h.gr g s⟩
structure TI (P:Program)(t:TypeId)(agg:Bool)(n:Nat):Prop where
 u:∃d,P.underlying t=some d∧(match d with|.struct _|.array _ _=>true|_=>false)=agg
 s:(P.info? t).map (·.size)=some n
def tiB (P:Program)(t:TypeId)(agg:Bool)(n:Nat):Bool:=
 (match P.underlying t with|some d=>(match d with|.struct _|.array _ _=>true|_=>false)==agg|none=>false)&&(match P.info? t with|some i=>Nat.beq i.size n|none=>false)
theorem ti {t:TypeId}{agg:Bool}{n:Nat}(h:tiB P t agg n=true):TI P t agg n:=by
 simp only[tiB,Bool.and_eq_true] at h
 constructor
 ·cases hu:P.underlying t with
  | none=>simp[hu] at h
  | some d=>exact⟨d,rfl,by simpa[hu] using h.1⟩
 ·cases hi:P.info? t with
  | none=>simp[hi] at h
  | some i=>simpa[hi] using h.2

theorem TI.size {t:TypeId}{agg:Bool}{n:Nat}(h:TI P t agg n)(w:World):(sizeOf t).run P w=.ok n w:=by
 have:=h.s
 cases hi:P.info? t with
 | none=>simp[hi] at this
 | some i=>simp[hi] at this;simp[sizeOf,typeInfo,hi,this]
theorem TI.agg {t:TypeId}{agg:Bool}{n:Nat}(h:TI P t agg n)(w:World):(isAgg t).run P w=.ok agg w:=by
 obtain⟨d,h1,h2⟩:=h.u
 cases d <;> simp_all [isAgg,underlying]

theorem fj {t:TypeId}(h:TI P t false 1){w:World}{a:Addr}{v:Value}(hv:w.cell? a=some v):(loadVar t a).run P w=.ok v w:=by
 simp[loadVar,h.agg w,hv]
theorem iW {t:TypeId}{n:Nat}(h:TI P t true n){w:World}{a:Addr}{cs:List Value}(hl:cs.length=n)(hv:∀j v,cs[j]?=some v→w.cell? (a.add j)=some v) :
  (loadVar t a).run P w=.ok (.agg cs.toArray) w:=by
 have:=run_loadCells_list (P:=P) w a cs hv
 rw[hl] at this
 simp[loadVar,h.agg w,h.size w,this]

section ops
variable {Γ:World→World→Prop}{L:aZ Γ}
variable {x y:Operand}{b off:Nat}{cs:Array Value}{t:TypeId}{v:Value}

theorem ldW [Gro Γ]{n:Nat}(ht:TI P t true n)(hx:opd L x=some (ER (.pointer (some ⟨b,0,none⟩)))){bt:TypeId}(hb:Blk w0 b cs bt)(hn:cs.size=n):OpC P w0 L ⟨dst,.load t x,ty,pos,aft,g⟩ (ER (.agg cs)):=
 aP fun ρ w he hv=>by
  have h1:=opE hv (x:=x) (by simp[Op.operands]) hx
  refine⟨_,?_,rfl⟩
  have:=iW ht (w:=w) (a:=⟨b,0,none⟩) (cs:=cs.toList) (by simpa using hn) (fun j v hj=>by
   rw[Addr.add_lit,Nat.zero_add,(hb.ext (Gro.below he)).cell j];simpa using hj)
  simp[execOp,h1,Instr.loadAt,Instr.sureAddr,this]
theorem ld1 [Gro Γ](ht:TI P t false 1)(hx:opd L x=some (ER (.pointer (some ⟨b,off,none⟩)))){bt:TypeId}(hb:Blk w0 b cs bt)(hc:cs[off]?=some v):OpC P w0 L ⟨dst,.load t x,ty,pos,aft,g⟩ (ER v):=
 aP fun ρ w he hv=>by
  have h1:=opE hv (x:=x) (by simp[Op.operands]) hx
  refine⟨_,?_,rfl⟩
  have:=fj ht (w:=w) (a:=⟨b,off,none⟩) (v:=v) (by rw[(hb.ext (Gro.below he)).cell off];exact hc)
  simp[execOp,h1,Instr.loadAt,Instr.sureAddr,this]
theorem ldP [Gro Γ]{n:Nat}(ht:TI P t true n)(hx:opd L x=some (ER (.pointer (some ⟨b,off,none⟩)))){bt:TypeId}(hb:Blk w0 b cs bt)(hn:off+n≤cs.size) :
  OpC P w0 L ⟨dst,.load t x,ty,pos,aft,g⟩ (ER (.agg (cs.extract off (off+n)))):=
 aP fun ρ w he hv=>by
  have h1:=opE hv (x:=x) (by simp[Op.operands]) hx
  refine⟨_,?_,rfl⟩
  have hx':((cs.toList.drop off).take n).toArray=cs.extract off (off+n):=by
   apply Array.toList_inj.1
   simp[List.take_drop]
  have:=iW ht (w:=w) (a:=⟨b,off,none⟩) (cs:=(cs.toList.drop off).take n) (by simp;omega) (fun j v hj=>by
   rw[Addr.add_lit,(hb.ext (Gro.below he)).cell (off+j)]
   rw[List.getElem?_take] at hj
   split at hj
   ·simpa using hj
   ·cases hj)
  rw[hx'] at this
  simp[execOp,h1,Instr.loadAt,Instr.sureAddr,this]
theorem OpC.as [Gro Γ]{o:Oper}{A:(VAr Γ)}(h:OpC P w0 L o (ER v))(hA:A.p v w0):OpC P w0 L o A:=by
 refine⟨fun ρ w he hv=>?_⟩
 refine (h.out ρ w he hv).mono ?_
 rintro u w' ⟨h1,rfl⟩
 exact⟨h1,A.st _ _ _ (Gro.tr he h1) hA⟩
theorem OpC.eq {o:Oper}{u:Value}(h:OpC P w0 L o (ER v))(hA:v=u):OpC P w0 L o (ER u):=hA▸h

theorem bQ [Gro Γ]{n e s:Nat}{k:IntKind}{i:Int}(ht:P.underlying t=some (.array n e))(hs:∃ag,TI P e ag s)(hx:opd L x=some (ER (.pointer (some ⟨b,off,none⟩))))(hy:opd L y=some (ER (.int k i)))(hi:0≤i∧i<(n:Int)) :
  OpC P w0 L ⟨dst,.indexAddr t x y,ty,pos,aft,g⟩ (ER (.pointer (some ⟨b,off+i.toNat * s,none⟩))):=
 aP fun ρ w _ hv=>by
  have h1:=opE hv (x:=x) (by simp[Op.operands]) hx
  have h2:=opE hv (x:=y) (by simp[Op.operands]) hy
  obtain⟨ag,hs⟩:=hs
  refine⟨_,?_,rfl⟩
  simp[execOp,h1,h2,Instr.indexAt,Instr.sureAddr,asIntOf,run_underlying ht,hi,hs.size,Addr.add_lit]
theorem iX [Gro Γ]{n e:Nat}{k:IntKind}{i:Int}(ht:P.underlying t=some (.array n e))(hs:TI P e false 1)(hx:opd L x=some (ER (.agg cs)))(hy:opd L y=some (ER (.int k i)))(hi:0≤i∧i<(n:Int))(hc:cs[i.toNat]?=some v) :
  OpC P w0 L ⟨dst,.index t x y,ty,pos,aft,g⟩ (ER v):=
 aP fun ρ w _ hv=>by
  have h1:=opE hv (x:=x) (by simp[Op.operands]) hx
  have h2:=opE hv (x:=y) (by simp[Op.operands]) hy
  refine⟨_,?_,rfl⟩
  simp[execOp,h1,h2,Instr.index,asIntOf,run_underlying ht,hi,hs.size,part,hs.agg,hc]
theorem bJ [Gro Γ]{fs:Array Field}{f:Nat}{fl:Field}{s:Nat}{ag:Bool}(ht:P.underlying t=some (.struct fs))(hf:fs[f]?=some fl)(hs:TI P fl.type ag s)(h0:0<s)(hx:opd L x=some (ER (.pointer (some ⟨b,off,none⟩)))) :
  OpC P w0 L ⟨dst,.fieldAddr t x f,ty,pos,aft,g⟩ (ER (.pointer (some ⟨b,off+fl.offset,none⟩))):=
 aP fun ρ w _ hv=>by
  have h1:=opE hv (x:=x) (by simp[Op.operands]) hx
  have hne:s≠0:=by omega
  refine⟨_,?_,rfl⟩
  simp[execOp,h1,Instr.fieldAt,Instr.sureAddr,run_underlying ht,hf,fieldPlace,hs.size,hne,Addr.add_lit]
theorem fA [Gro Γ]{fs:Array Field}{f:Nat}{fl:Field}{s:Nat}{ag:Bool}(ht:P.underlying t=some (.struct fs))(hf:fs[f]?=some fl)(hs:TI P fl.type ag s)(hx:opd L x=some (ER (.pointer (some ⟨b,off,none⟩))))(h0:0<s:=by decide) :
  OpC P w0 L ⟨dst,.fieldAddr t x f,ty,pos,aft,g⟩ (ER (.pointer (some ⟨b,off+fl.offset,none⟩))):=bJ ht hf hs h0 hx
end ops

class AvC (b:Nat)(A:VA):Prop where
 av:∀v w w',w.grownBy w' (some b)→A.p v w→A.p v w'
instance (b:Nat)(v:Value):AvC b (E v):=⟨fun _ _ _ _ h=>h⟩
instance (b:Nat):AvC b Any:=⟨fun _ _ _ _ h=>h⟩
class AvL (b:Nat)(L:Env):Prop where
 av:∀t A,aG L t=some A→∀v w w',w.grownBy w' (some b)→A.p v w→A.p v w'
instance (b:Nat):AvL b []:=⟨fun t A h=>by simp[aG] at h⟩
instance (b k:Nat)(A:VA)(L:Env)[h:AvC b A][hl:AvL b L]:AvL b ((k,A)::L):=⟨fun t B ht=>by
 by_cases hkt:k=t
 ·subst hkt;rw[cB] at ht;cases ht;exact h.av
 ·rw[cC _ _ hkt] at ht;exact hl.av t B ht⟩
theorem FrD.gr {n:Nat}{a:Act}{w w':World}{b:Nat}[h:AvL b L](hf:FrD n ds a w L)(hg:w.grownBy w' (some b)):FrD n ds a w' L:=
 ⟨hf.size,hf.defers,fun t A ht=>h.av t A ht _ _ _ hg (hf.val t A ht)⟩
class kD (A:VA):Prop where
 pu:∀v w w',A.p v w→A.p v w'
instance (v:Value):kD (E v):=⟨fun _ _ _ h=>h⟩
instance:kD Any:=⟨fun _ _ _ h=>h⟩
class ei (L:Env):Prop where
 pu:∀t A,aG L t=some A→∀v w w',A.p v w→A.p v w'
instance:ei []:=⟨fun t A h=>by simp[aG] at h⟩
instance (k:Nat)(A:VA)(L:Env)[h:kD A][hl:ei L]:ei ((k,A)::L):=⟨fun t B ht=>by
 by_cases hkt:k=t
 ·subst hkt;rw[cB] at ht;cases ht;exact h.pu
 ·rw[cC _ _ hkt] at ht;exact hl.pu t B ht⟩
theorem FrD.pure {n:Nat}{a:Act}{w:World}[h:ei L](hf:FrD n ds a w L)(w':World):FrD n ds a w' L:=
 ⟨hf.size,hf.defers,fun t A ht=>h.pu t A ht _ _ _ (hf.val t A ht)⟩

theorem cT (w:World)(o:Obj):Ext w (w.alloc o):=(Below.refl _ w).alloc (Nat.le_refl _) o
theorem dO (w:World)(cs:Array Value)(t:TypeId):Blk (w.alloc (.cells cs t)) w.heap.size cs t:=by
 show (w.heap.push _)[w.heap.size]?=_
 simp
theorem iY (t:TypeId)(v:Value)(w:World):(newVar t v).run P w=.ok ⟨w.heap.size,0,none⟩ (w.alloc (.cells v.cells t)):=by
 simp[newVar,newRow,newObj,Sem.run]
theorem dC (w:World)(b:Nat)(cs:Array Value):w.grownBy (w.setRow b cs) (some b):=
 ⟨rfl,rfl,rfl,by simp,fun k _ hk=>setRow_other w b k cs (by simpa using hk)⟩

section tail
variable {ops:Array Oper}{rest:List Oper}{Q:Exit→Act→World→Prop}{n:Nat}{a:Act}{w:World}{x y:Operand}

section
variable {Γ:World→World→Prop}{L:aZ Γ}
theorem fk [Gro Γ]{e:TypeId}{A:(VAr Γ)}{d:Nat}(hf:FrD n ds a w L)(hx:opd L x=some A)(hd:d<n)
  (k:∀a' b w' v,A.p v w→Γ w w'→b=w.heap.size→w'.heap.size=b+1→Blk w' b v.cells e→FrD n ds a' w' ((d,ER (.pointer (some ⟨b,0,none⟩)))::L)→wpListIn (FW r) 0 P ops Q rest a' w') :
  wpListIn (FW r) 0 P ops Q (⟨some d,.box e x,ty,pos,aft,none⟩::rest) a w:=
 wpListIn_plain rfl fun K hK=>by
  refine OpR.wp (R:=fun v w'=>v=.pointer (some ⟨w.heap.size,0,none⟩)∧w'=w.alloc (.cells (a.eval x).cells e)) ?_ ?_
  ·simp[OpR,execOp,Instr.box,iY]
  ·rintro v w' ⟨rfl,rfl⟩
   exact hK _ _ (k _ _ _ _ (hf.opd x A hx) (Gro.alloc _ _) rfl (by simp) (dO _ _ _) (hf.put (d:=some d) (Gro.alloc _ _) (fun k hk=>by cases hk;exact hd) rfl))

theorem eD [Gro Γ]{e:TypeId}{z:Value}{d sz bz:Nat}(hz:(P.info? e).map (fun i=>(i.zero,i.size,i.bytes))=some (some z,sz,bz))(hf:FrD n ds a w L)(hd:d<n)
  (k:∀a' b w',Γ w w'→b=w.heap.size→w'.heap.size=b+1→Blk w' b z.cells e→FrD n ds a' w' ((d,ER (.pointer (some ⟨b,0,none⟩)))::L)→wpListIn (FW r) 0 P ops Q rest a' w') :
  wpListIn (FW r) 0 P ops Q (⟨some d,.alloc e,ty,pos,aft,none⟩::rest) a w:=
 wpListIn_plain rfl fun K hK=>by
  refine OpR.wp (R:=fun v w'=>v=.pointer (some ⟨w.heap.size,0,none⟩)∧w'=w.alloc (.cells z.cells e)) ?_ ?_
  ·obtain⟨i,hi,hzi,_,_⟩:=info_parts hz
   simp[OpR,execOp,Instr.alloc,zeroValue,typeInfo,hi,hzi,iY]
  ·rintro v w' ⟨rfl,rfl⟩
   exact hK _ _ (k _ _ _ (Gro.alloc _ _) rfl (by simp) (dO _ _ _) (hf.put (d:=some d) (Gro.alloc _ _) (fun k hk=>by cases hk;exact hd) rfl))

theorem tB [Gro Γ]{e:TypeId}{A:(VAr Γ)}{d:Nat}(hf:FrD n ds a w L)(hx:opd L x=some A)
  (k:∀a' b w' v,A.p v w→Γ w w'→b=w.heap.size→w'.heap.size=b+1→Blk w' b v.cells e→FrD n ds a' w' ((d,ER (.pointer (some ⟨b,0,none⟩)))::L)→wpListIn (FW r) 0 P ops Q rest a' w') (hd:d<n:=by decide) :
  wpListIn (FW r) 0 P ops Q (⟨some d,.box e x,ty,pos,aft,none⟩::rest) a w:=fk hf hx hd k
theorem tL [Gro Γ]{e:TypeId}{z:Value}{d sz bz:Nat}(hz:(P.info? e).map (fun i=>(i.zero,i.size,i.bytes))=some (some z,sz,bz))(hf:FrD n ds a w L)
  (k:∀a' b w',Γ w w'→b=w.heap.size→w'.heap.size=b+1→Blk w' b z.cells e→FrD n ds a' w' ((d,ER (.pointer (some ⟨b,0,none⟩)))::L)→wpListIn (FW r) 0 P ops Q rest a' w') (hd:d<n:=by decide) :
  wpListIn (FW r) 0 P ops Q (⟨some d,.alloc e,ty,pos,aft,none⟩::rest) a w:=eD hz hf hd k

end
theorem ni (cs:Array Value)(off:Nat)(v:Value)(h:off<cs.size):(cs.toList.take off++[v]++cs.toList.drop (off+1)).toArray=cs.setIfInBounds off v:=by
 apply Array.toList_inj.1
 rw[Array.toList_setIfInBounds,List.set_eq_take_append_cons_drop]
 simp[h]
theorem aI {t bt:TypeId}{b off:Nat}{v:Value}{cs:Array Value}(ht:TI P t false 1)(hf:FrD n ds a w L)[hL:AvL b L](hx:opd L x=some (E (.pointer (some ⟨b,off,none⟩))))(hy:opd L y=some (E v))(h1:v.oneCell'=true)
  (hb:Blk w b cs bt) (ho:off<cs.size) (k:∀w',w.grownBy w' (some b)→w'.heap.size=w.heap.size→Blk w' b (cs.setIfInBounds off v) bt→FrD n ds a w' L→wpListIn (FW r) 0 P ops Q rest a w') :
  wpListIn (FW r) 0 P ops Q (⟨none,.store t x y,ty,pos,aft,none⟩::rest) a w:=
 wpListIn_plain rfl fun K hK=>by
  have hxv:a.eval x=.pointer (some ⟨b,off,none⟩):=hf.opd x _ hx
  have hyv:a.eval y=v:=hf.opd y _ hy
  have hc:v.cells = #[v]:=by cases v <;> simp[Value.cells,Value.oneCell'] at h1 ⊢
  have hrun:=run_storeCells_at (P:=P) b off bt [v] 0 cs w hb (by simp;omega) (by simpa using h1)
  refine OpR.wp (R:=fun _ w'=>w'=w.setRow b (cs.setIfInBounds off v)) ?_ ?_
  ·have e:=ni cs off v ho
   simp only[List.length_singleton,Nat.add_zero] at hrun
   rw[e] at hrun
   simp[OpR,execOp,Instr.storeAt,Instr.sureAddr,hxv,hyv,storeVar,hc,ht.size,hrun]
  ·rintro _ w' rfl
   exact hK _ _ (k _ (dC _ _ _) (by simp) (setRow_heap _ _ _ _ _ _ hb) (hf.gr (dC _ _ _)))
theorem az {t bt:TypeId}{b s:Nat}{cs new:Array Value}(ht:TI P t true s)(hf:FrD n ds a w L)[hL:AvL b L](hx:opd L x=some (E (.pointer (some ⟨b,0,none⟩))))(hy:opd L y=some (E (.agg new)))(h1:new.all (·.oneCell')=true)
  (hb:Blk w b cs bt) (hs:cs.size=s) (hn:new.size=s) (k:∀w',w.grownBy w' (some b)→w'.heap.size=w.heap.size→Blk w' b new bt→FrD n ds a w' L→wpListIn (FW r) 0 P ops Q rest a w') :
  wpListIn (FW r) 0 P ops Q (⟨none,.store t x y,ty,pos,aft,none⟩::rest) a w:=
 wpListIn_plain rfl fun K hK=>by
  have hxv:a.eval x=.pointer (some ⟨b,0,none⟩):=hf.opd x _ hx
  have hyv:a.eval y=.agg new:=hf.opd y _ hy
  have hrun:=run_storeVar_row (P:=P) w b bt t cs new hb (by rw[ht.s,hn]) (by omega) h1
  refine OpR.wp (R:=fun _ w'=>w'=w.setRow b new) ?_ ?_
  ·simp[OpR,execOp,Instr.storeAt,Instr.sureAddr,hxv,hyv,hrun]
  ·rintro _ w' rfl
   exact hK _ _ (k _ (dC _ _ _) (by simp) (setRow_heap _ _ _ _ _ _ hb) (hf.gr (dC _ _ _)))
end tail
theorem tH {ops:Array Oper}{rest:List Oper}{Q:Exit→Act→World→Prop}{n:Nat}{a:Act}{w:World}{x:Operand}{t bt:TypeId}{b d s:Nat}{cs:Array Value}(ht:TI P t true s)(hf:FrD n ds a w L)(hx:opd L x=some (E (.pointer (some ⟨b,0,none⟩))))(hb:Blk w b cs bt)(hn:cs.size=s)(hd:d<n)
  (k:∀a',FrD n ds a' w ((d,E (.agg cs))::L)→wpListIn (FW r) 0 P ops Q rest a' w):wpListIn (FW r) 0 P ops Q (⟨some d,.load t x,ty,pos,aft,none⟩::rest) a w:=
 wpListIn_plain rfl fun K hK=>by
  have hxv:a.eval x=.pointer (some ⟨b,0,none⟩):=hf.opd x _ hx
  refine OpR.wp (R:=fun v w'=>w'=w∧v=.agg cs) ?_ ?_
  ·have:=iW ht (w:=w) (a:=⟨b,0,none⟩) (cs:=cs.toList) (by simpa using hn) (fun j v hj=>by
    rw[Addr.add_lit,Nat.zero_add,hb.cell j];simpa using hj)
   simp[OpR,execOp,hxv,Instr.loadAt,Instr.sureAddr,this]
  ·rintro v w' ⟨rfl,rfl⟩
   exact hK _ _ (k _ (hf.put (d:=some d) (Ext.rfl' _) (fun k hk=>by cases hk;exact hd) rfl))
theorem dP {fn:Func}{t u s:Nat}{R:Ending→World→Prop}{n:Nat}{a:Act}{w:World}{b:Nat}{cs:Array Value}{bt:TypeId}(hr:fn.results = #[.cell t u])(ht:TI P u true s)(hf:Fr n a w L)(h:aG L t=some (E (.pointer (some ⟨b,0,none⟩))))
  (hb:Blk w b cs bt) (hs:cs.size=s) (hR:R (.returned (.agg cs)) w):bodyPost P fn R .ret a w:=by
 have hv:a.tmps.getD t undef=.pointer (some ⟨b,0,none⟩):=hf.val t _ h
 obtain⟨d,h1,h2⟩:=ht.u
 exact⟨hf.defers,_,results_cell_row hr a.tmps w b bt cs (0,0) d hv hb h1 (by cases d <;> simp_all) (by rw[ht.s,hs]),hR⟩

def W (x:BitVec 64):Value:=.int .u64 (x.toNat:Int)
theorem tI {x y:BitVec 64}(h:W x=W y):x=y:=by
 simp only[W,Value.int.injEq,true_and] at h
 exact BitVec.eq_of_toNat_eq (by omega)
theorem tJ (x:BitVec 64):IntKind.u64.wrap (x.toNat:Int)=x.toNat:=IntWalk.u64_in _ (by have:=x.isLt;omega)
theorem fP (x:BitVec 64):BitVec.ofInt 64 (x.toNat:Int)=x:=by
 rw[BitVec.ofInt_natCast];simp

section words
variable {x y:Operand}{t yt:TypeId}{u v:BitVec 64}
theorem kE (z:BitVec 64):(pure (Value.int .u64 (IntKind.u64.wrap (z.toNat:Int))):Sem Value)=pure (W z):=by rw[tJ];rfl
theorem eE (hx:opd L x=some (E (W u)))(hy:opd L y=some (E (W v))):OpC P w0 L ⟨dst,.binOp .and t x y yt,ty,pos,aft,g⟩ (E (W (u &&& v))):=
 ce (by
  show pure (Value.int .u64 (IntKind.u64.wrap ((BitVec.ofInt 64 (u.toNat:Int) &&& BitVec.ofInt 64 (v.toNat:Int)).toNat:Int)))=_
  rw[fP,fP];exact kE _) hx hy
theorem orW (hx:opd L x=some (E (W u)))(hy:opd L y=some (E (W v))):OpC P w0 L ⟨dst,.binOp .or t x y yt,ty,pos,aft,g⟩ (E (W (u ||| v))):=
 ce (by
  show pure (Value.int .u64 (IntKind.u64.wrap ((BitVec.ofInt 64 (u.toNat:Int) ||| BitVec.ofInt 64 (v.toNat:Int)).toNat:Int)))=_
  rw[fP,fP];exact kE _) hx hy
theorem nj (hx:opd L x=some (E (W u)))(hy:opd L y=some (E (W v))):OpC P w0 L ⟨dst,.binOp .andNot t x y yt,ty,pos,aft,g⟩ (E (W (u &&& ~~~v))):=
 ce (by
  show pure (Value.int .u64 (IntKind.u64.wrap ((BitVec.ofInt 64 (u.toNat:Int) &&& ~~~BitVec.ofInt 64 (v.toNat:Int)).toNat:Int)))=_
  rw[fP,fP];exact kE _) hx hy
theorem kF (u v:BitVec 64):((u.toNat:Int)==(v.toNat:Int))=(u==v):=by
 rw[Bool.eq_iff_iff]
 simp only[beq_iff_eq]
 exact⟨fun h=>BitVec.eq_of_toNat_eq (by omega),fun h=>by rw[h]⟩
theorem kG (hx:opd L x=some (E (W u)))(hy:opd L y=some (E (W v))):OpC P w0 L ⟨dst,.binOp .neq t x y yt,ty,pos,aft,g⟩ (E (.bool (u != v))):=
 ce (by
  show pure (Value.bool ((u.toNat:Int) != (v.toNat:Int)))=_
  simp only[bne,kF]) hx hy
theorem nk (hx:opd L x=some (E (W u)))(hy:opd L y=some (E (W v))):OpC P w0 L ⟨dst,.binOp .eql t x y yt,ty,pos,aft,g⟩ (E (.bool (u==v))):=
 ce (by
  show pure (Value.bool ((u.toNat:Int)==(v.toNat:Int)))=_
  simp only[kF]) hx hy
theorem fQ (hx:opd L x=some (E (W u)))(hy:opd L y=some (E (W v))):OpC P w0 L ⟨dst,.binOp .add t x y yt,ty,pos,aft,g⟩ (E (W (u+v))):=
 ce (by
  show pure (Value.int .u64 (IntKind.u64.wrap ((u.toNat:Int)+(v.toNat:Int))))=_
  have e:IntKind.u64.wrap ((u.toNat:Int)+(v.toNat:Int))=((u+v).toNat:Int):=by
   rw[BitVec.toNat_add]
   simp only[IntKind.wrap,IntKind.bits,IntKind.signed,Bool.false_and,Bool.false_eq_true,if_false]
   omega
  rw[e];rfl) hx hy
theorem tK {k:IntKind}{i:Int}(hx:opd L x=some (E (W u)))(hy:opd L y=some (E (.int k i)))(hi:0≤i):OpC P w0 L ⟨dst,.binOp .shl t x y yt,ty,pos,aft,g⟩ (E (W (u <<< i.toNat))):=
 aP fun ρ w _ hv=>by
  have h1:=opE hv (x:=x) (by simp[Op.operands]) hx
  have h2:=opE hv (x:=y) (by simp[Op.operands]) hy
  refine⟨_,?_,rfl⟩
  have hneg:¬i<0:=by omega
  have e:IntKind.u64.wrap ((u.toNat:Int) * 2 ^ (min i.toNat 64))=((u <<< i.toNat).toNat:Int):=by
   rw[BitVec.toNat_shiftLeft,Nat.shiftLeft_eq]
   simp only[IntKind.wrap,IntKind.bits,IntKind.signed]
   simp only[Bool.false_and,Bool.false_eq_true,if_false]
   by_cases hle:i.toNat≤64
   ·rw[Nat.min_eq_left hle];simp
   ·rw[Nat.min_eq_right (by omega)]
    have:(2:Nat) ^ i.toNat=2 ^ 64 * 2 ^ (i.toNat - 64):=by rw[← Nat.pow_add];congr 1;omega
    rw[this]
    have e1:(u.toNat * (2 ^ 64 * 2 ^ (i.toNat - 64))) % 2 ^ 64=0:=by
     rw[Nat.mul_left_comm];exact Nat.mul_mod_right _ _
    rw[e1]
    simp
  simp[execOp,h1,h2,W,eqGuard,binOp,Op.shift,hneg,IntKind.bits] at e ⊢
  exact e
theorem fm {k:IntKind}{i:Int}(hx:opd L x=some (E (W u)))(hy:opd L y=some (E (.int k i)))(hi:0≤i):OpC P w0 L ⟨dst,.binOp .shr t x y yt,ty,pos,aft,g⟩ (E (W (u >>> i.toNat))):=
 aP fun ρ w _ hv=>by
  have h1:=opE hv (x:=x) (by simp[Op.operands]) hx
  have h2:=opE hv (x:=y) (by simp[Op.operands]) hy
  refine⟨_,?_,rfl⟩
  have hneg:¬i<0:=by omega
  have e:(u.toNat:Int).fdiv (2 ^ (min i.toNat 64))=((u >>> i.toNat).toNat:Int):=by
   rw[BitVec.toNat_ushiftRight,Nat.shiftRight_eq_div_pow]
   rw[Int.fdiv_eq_ediv_of_nonneg _ (by exact Int.le_of_lt (Int.pow_pos (by decide)))]
   by_cases hle:i.toNat≤64
   ·rw[Nat.min_eq_left hle];simp
   ·rw[Nat.min_eq_right (by omega)]
    have hu:=u.isLt
    have h1:u.toNat / 2 ^ i.toNat=0:=Nat.div_eq_of_lt (Nat.lt_of_lt_of_le hu (Nat.pow_le_pow_right (by decide) (by omega)))
    rw[h1]
    have h2:u.toNat / 2 ^ 64=0:=Nat.div_eq_of_lt hu
    have h3:((u.toNat / 2 ^ 64:Nat):Int)=(u.toNat:Int) / 2 ^ 64:=by simp
    rw[← h3,h2]
  simp[execOp,h1,h2,W,eqGuard,binOp,Op.shift,hneg,IntKind.bits] at e ⊢
  exact e
end words
end Go.Mono
namespace Go.Mono
open Go
abbrev ptr (b:Nat):Value:=.pointer (some ⟨b,0,none⟩)

abbrev I (n:Int):Value:=.int .i64 n
abbrev B (b:Bool):Value:=.bool b
abbrev BS:=BitVec 1024
def an (S:BS)(i:Nat):BitVec 64:=S.extractLsb' (64 * i) 64
theorem dQ (S:BS)(i j:Nat)(h:j<64):(an S i).getLsbD j=S.getLsbD (64 * i+j):=by
 simp[an,BitVec.getLsbD_extractLsb',h]
def bc (f:Nat→BitVec 64):Array Value:=((List.range 16).map fun i=>W (f i)).toArray
theorem fp (f:Nat→BitVec 64):(bc f).size=16:=by simp[bc]
theorem cz (f:Nat→BitVec 64)(i:Nat)(h:i<16):(bc f)[i]?=some (W (f i)):=by
 simp[bc,h]
theorem bj (f:Nat→BitVec 64):(bc f).all (·.oneCell')=true:=by
 rw[Array.all_eq_true_iff_forall_mem]
 intro v hv
 simp only[bc,List.mem_toArray,List.mem_map] at hv
 obtain⟨i,_,rfl⟩:=hv
 rfl
theorem gP (f:Nat→BitVec 64)(k:Nat)(x:BitVec 64):(bc f).setIfInBounds k (W x)=bc (fun i=>if i=k then x else f i):=by
 apply Array.ext_getElem?
 intro i
 by_cases hi:i<16
 ·rw[cz _ _ hi]
  by_cases hk:i=k
  ·subst hk
   rw[Array.getElem?_setIfInBounds_self_of_lt (by rw[fp];exact hi)]
   simp
  ·rw[Array.getElem?_setIfInBounds_ne (Ne.symm hk),cz _ _ hi]
   simp[hk]
 ·rw[Array.getElem?_eq_none (by simp[fp];omega),Array.getElem?_eq_none (by simp[fp];omega)]
theorem ej {f g:Nat→BitVec 64}(h:∀i,i<16→f i=g i):bc f=bc g:=by
 unfold bc
 congr 1
 exact List.map_congr_left fun i hi=>by rw[h i (List.mem_range.1 hi)]
theorem tM {f g:Nat→BitVec 64}(h:bc f=bc g):∀i,i<16→f i=g i:=by
 intro i hi
 have h1:=cz f i hi
 rw[h,cz g i hi] at h1
 exact (tI (Option.some.inj h1)).symm
def aJ (S:BS):Array Value:=bc (an S)
def ac (S:BS):Value:=.agg (aJ S)
theorem bh (S:BS):(aJ S).size=16:=fp _
theorem kH {S T:BS}(h:∀i,i<16→an S i=an T i):S=T:=by
 apply BitVec.eq_of_getLsbD_eq
 intro i hi
 have h1:=congrArg (fun v=>v.getLsbD (i % 64)) (h (i / 64) (by omega))
 simp only[dQ _ _ _ (Nat.mod_lt i (by decide:0<64))] at h1
 rwa [Nat.div_add_mod] at h1
theorem tN {S T:BS}(h:aJ S=aJ T):S=T:=kH (tM h)
theorem ns (S T:BS)(i:Nat):an (S ||| T) i=an S i ||| an T i:=by simp[an,BitVec.extractLsb'_or]
theorem tO (S T:BS)(i:Nat):an (S &&& T) i=an S i &&& an T i:=by simp[an,BitVec.extractLsb'_and]
theorem nt (S T:BS)(i:Nat)(hi:i<16):an (S &&& ~~~T) i=an S i &&& ~~~an T i:=by
 apply BitVec.eq_of_getLsbD_eq
 intro j hj
 rw[dQ _ _ _ hj,BitVec.getLsbD_and,BitVec.getLsbD_and,BitVec.getLsbD_not,BitVec.getLsbD_not,dQ _ _ _ hj,dQ _ _ _ hj,decide_eq_true hj,decide_eq_true (show 64 * i+j<1024 by omega)]
theorem nu (i:Nat):an 0 i=0:=by simp[an]
def sgl (n:Nat):BS:=1#1024 <<< n
theorem kJ (n i:Nat)(h:n<1024):(sgl n).getLsbD i=decide (i=n):=by
 simp only[sgl,BitVec.getLsbD_shiftLeft,BitVec.getLsbD_one]
 by_cases hin:i=n
 ·subst hin;simp[h]
 ·by_cases hi:i<1024
  ·by_cases hlt:i<n
   ·simp[hin,hlt]
   ·simp[hin,show i - n≠0 by omega]
  ·simp[hi,hin]
theorem ny (n i:Nat)(h:n<1024):an (sgl n) i=if i=n / 64 then 1#64 <<< (n % 64) else 0:=by
 apply BitVec.eq_of_getLsbD_eq
 intro j hj
 rw[dQ _ _ _ hj,kJ _ _ h]
 split
 ·rename_i hi
  subst hi
  simp only[BitVec.getLsbD_shiftLeft,BitVec.getLsbD_one,hj,decide_true,Bool.true_and]
  by_cases hjn:j=n % 64
  ·have:64 * (n / 64)+j=n:=by omega
   simp[hjn,Nat.div_add_mod]
  ·have h1:64 * (n / 64)+j≠n:=by omega
   by_cases hlt:j<n % 64
   ·simp[h1,hlt]
   ·simp[h1,show j - n % 64≠0 by omega]
 ·rename_i hi
  have:64 * i+j≠n:=by omega
  simp[this]
theorem tQ (u:BitVec 64)(k:Nat)(h:k<64):((u &&& 1#64 <<< k) != 0#64)=u.getLsbD k:=by
 cases hb:u.getLsbD k with
 | true=>
  rw[bne_iff_ne]
  intro h0
  have:=congrArg (fun v=>v.getLsbD k) h0
  simp only[BitVec.getLsbD_and,hb,BitVec.getLsbD_shiftLeft,BitVec.getLsbD_one,BitVec.getLsbD_zero] at this
  simp[h] at this
 | false=>
  rw[bne_eq_false_iff_eq]
  apply BitVec.eq_of_getLsbD_eq
  intro j hj
  simp only[BitVec.getLsbD_and,BitVec.getLsbD_shiftLeft,BitVec.getLsbD_one,BitVec.getLsbD_zero]
  by_cases hjk:j=k
  ·subst hjk;simp[hb]
  ·by_cases hlt:j<k
   ·simp[hlt]
   ·simp[show j - k≠0 by omega]
def co (n:Int):Bool:=decide (0≤n)&&decide (n<1024)
theorem di {n:Int}:co n=true↔0≤n∧n<1024:=by simp[co]
def has (S:BS)(n:Int):Bool:=co n&&S.getLsbD n.toNat
def ins (S:BS)(n:Int):BS:=if co n then S ||| sgl n.toNat else S
def del (S:BS)(n:Int):BS:=if co n then S &&& ~~~sgl n.toNat else S
theorem tR {n:Int}(S:BS)(h:co n=true):∀i,i<16→an (ins S n) i=if i=(n / 64).toNat then an S i ||| 1#64 <<< (n % 64).toNat else an S i:=by
 intro i hi
 have:=di.1 h
 rw[ins,if_pos h,ns,ny _ _ (by omega)]
 have h1:n.toNat / 64=(n / 64).toNat:=by omega
 have h2:n.toNat % 64=(n % 64).toNat:=by omega
 rw[h1,h2]
 split <;> simp
theorem tS {n:Int}(S:BS)(h:co n=true):∀i,i<16→an (del S n) i=if i=(n / 64).toNat then an S i &&& ~~~(1#64 <<< (n % 64).toNat) else an S i:=by
 intro i hi
 have:=di.1 h
 rw[del,if_pos h,nt _ _ _ hi,ny _ _ (by omega)]
 have h1:n.toNat / 64=(n / 64).toNat:=by omega
 have h2:n.toNat % 64=(n % 64).toNat:=by omega
 rw[h1,h2]
 split
 ·rfl
 ·have : ~~~(0:BitVec 64)=BitVec.allOnes 64:=by simp
  rw[this,BitVec.and_allOnes]
theorem tT (S:BS)(n:Int)(h:co n=true):((an S (n / 64).toNat &&& 1#64 <<< (n % 64).toNat) != 0#64)=has S n:=by
 have:=di.1 h
 rw[tQ _ _ (by omega),dQ _ _ _ (by omega),has,h,Bool.true_and]
 congr 1
 omega
theorem ek (S:BS):(ac S).cells=aJ S:=rfl
theorem tU:aJ 0=bc (fun _=>0):=ej fun i _=>nu i
theorem tV {n:Int}(S:BS)(h:co n=true):bc (fun i=>if i=(n / 64).toNat then an S (n / 64).toNat ||| 1#64 <<< (n % 64).toNat else an S i)=aJ (ins S n):=
 ej fun i hi=>by
  rw[tR S h i hi]
  split
  ·rename_i hk;rw[hk]
  ·rfl
theorem tW {n:Int}(S:BS)(h:co n=true):bc (fun i=>if i=(n / 64).toNat then an S (n / 64).toNat &&& ~~~(1#64 <<< (n % 64).toNat) else an S i)=aJ (del S n):=
 ej fun i hi=>by
  rw[tS S h i hi]
  split
  ·rename_i hk;rw[hk]
  ·rfl
def z16:Array Value := #[Value.int .u64 0,.int .u64 0,.int .u64 0,.int .u64 0,.int .u64 0,.int .u64 0,.int .u64 0,.int .u64 0,.int .u64 0,.int .u64 0,.int .u64 0,.int .u64 0,.int .u64 0,.int .u64 0,.int .u64 0,.int .u64 0]
theorem dD : #[Value.int .u64 0,.int .u64 0,.int .u64 0,.int .u64 0,.int .u64 0,.int .u64 0,.int .u64 0,.int .u64 0,.int .u64 0,.int .u64 0,.int .u64 0,.int .u64 0,.int .u64 0,.int .u64 0,.int .u64 0,.int .u64 0]=aJ 0:=by
 rw[tU]
 rfl
theorem nz:Value.agg z16=ac 0:=by
 unfold z16 ac
 rw[dD]
end Go.Mono
namespace Go.Mono
open Go Go.RowKit

variable {P:Program}{w0:World}{L:Env}{dst:Option Tmp}{ty:TypeId}{pos:String}{aft:Array Edge}{g:Option (Nat×Bool)}

theorem tX {e:TypeId}(he:P.underlying e=some (.int .u64))(d:Nat)(u v:BitVec 64)(w:World):(Op.equalIn (d+1) e (W u) (W v)).run P w=.ok (u==v) w:=by
 simp only[Op.equalIn,Sem.run_bind,run_underlying he,Result.andThen_ok,W,if_true]
 rw[kF]
 rfl
theorem nA {e:TypeId}(hs:TI P e false 1)(f:Nat→BitVec 64)(i:Nat)(h:i<16)(w:World):(part e (bc f) i).run P w=.ok (W (f i)) w:=by
 simp[part,hs.agg,cz f i h]

theorem tY {t e:TypeId}(ht:P.underlying t=some (.array 16 e))(he:P.underlying e=some (.int .u64))(hs:TI P e false 1)(d:Nat)(f g:Nat→BitVec 64)(w:World) :
  (Op.equalIn (d+2) t (.agg (bc f)) (.agg (bc g))).run P w=.ok ((List.range 16).all fun i=>f i==g i) w:=by
 have key:∀(l:List Nat),(∀i∈l,i<16)→∀(k:Option Bool×PUnit→Sem Bool) (r:Bool),(k (none,⟨⟩)).run P w=.ok true w→(k (some false,⟨⟩)).run P w=.ok false w →
   ((
     forIn l (none,PUnit.unit) (fun i r=>do
     if !(← Op.equalIn (d+1) e (← part e (bc f) (i * 1)) (← part e (bc g) (i * 1))) then pure (ForInStep.done (some false,PUnit.unit))
     else do pure PUnit.unit;pure (ForInStep.yield (none,PUnit.unit)))) >>= k).run P w=.ok (l.all fun i=>f i==g i) w:=by
  intro l hl k r hk1 hk2
  induction l with
  | nil=>simpa using hk1
  | cons i l ih=>
   have hi:=hl i (by simp)
   have ih:=ih (fun j hj=>hl j (by simp[hj]))
   simp only[List.forIn_cons,Sem.run_bind,Nat.mul_one,nA hs f i hi,nA hs g i hi,Result.andThen_ok,tX he] at ih ⊢
   cases hb:(f i==g i) with
   | false=>simpa[hb] using hk2
   | true=>simpa[hb] using ih
 rw[Op.equalIn]
 simp only[Sem.run_bind,run_underlying ht,Result.andThen_ok,hs.size]
 rw[Std.Legacy.Range.forIn_eq_forIn_range']
 have:=key (List.range 16) (fun i hi=>List.mem_range.1 hi) (fun r=>match r.1 with|some a=>pure a|none=>pure true) true rfl rfl
 simp only[Sem.run_bind] at this
 rw[List.range_eq_range'] at this ⊢
 refine Eq.trans ?_ this
 have e1:(Std.Legacy.Range.size [:16])=16:=rfl
 rw[e1]
 congr 1
 funext a w'
 cases a with
 | mk a b=>cases a <;> rfl
theorem kK (op:BinOp)(t:TypeId)(x y:Operand)(xs ys:Array Value)(hm:P.eqGuardType P.depth t=false)(w:World):(eqGuard op t x y (.agg xs) (.agg ys)).run P w=.ok () w:=run_eqGuard_agg w op t x y xs ys hm

theorem tZ (S T:BS):((List.range 16).all fun i=>an S i==an T i)=(S==T):=by
 rw[Bool.eq_iff_iff]
 simp only[List.all_eq_true,List.mem_range,beq_iff_eq]
 exact⟨fun h=>kH h,fun h=>by subst h;simp⟩
theorem eqS {x y:Operand}{t yt e:TypeId}{S T:BS}(ht:P.underlying t=some (.array 16 e))(he:P.underlying e=some (.int .u64))(hs:TI P e false 1)(hm:P.eqGuardType P.depth t=false)(hx:opd L x=some (E (ac S)))(hy:opd L y=some (E (ac T))) :
  OpC P w0 L ⟨dst,.binOp .eql t x y yt,ty,pos,aft,g⟩ (E (.bool (S==T))):=
 iR hx hy (fun w=>kK _ _ _ _ _ _ hm w) rfl fun w _=>by
  rw[← tZ]
  exact tY ht he hs 9998 (an S) (an T) w
theorem ua {t:TypeId}{ps:Array (Nat×Operand)}{vs:Operand→Value}{cs:Array Value}(hx:∀p∈ps,opd L p.2=some (E (vs p.2)))(hb:P.built t (ps.map fun (i,x)=>(i,vs x)).toList=some cs) :
  OpC P w0 L ⟨dst,.build t ps,ty,pos,aft,g⟩ (E (.agg cs)):=
 aP fun ρ w _ hv=>by
  have e:(ps.map fun (i,x)=>(i,ρ x))=ps.map fun (i,x)=>(i,vs x):=Array.map_congr_left fun p hp=>by
   obtain⟨i,x⟩:=p
   have:=hv x (by simp only[Op.operands,List.mem_toArray,List.mem_map];exact⟨(i,x),by simpa using hp,rfl⟩) _ (hx _ hp)
   have h2:ρ x=vs x:=this
   simp only[h2]
  exact⟨_,by simp only[execOp,e,Sem.run_bind,run_build w t _ cs hb,Result.andThen_ok,Sem.run_pure],rfl⟩
theorem ub {t:TypeId}{cs:Array Value}(hb:P.built t []=some cs):OpC P w0 L ⟨dst,.build t #[],ty,pos,aft,g⟩ (E (.agg cs)):=
 ua (vs:=fun _=>undef) (fun p hp=>by simp at hp) (by simpa using hb)

section more
variable {x y:Operand}{t yt:TypeId}{u v:BitVec 64}
theorem uc (hx:opd L x=some (E (W u)))(hy:opd L y=some (E (W v))):OpC P w0 L ⟨dst,.binOp .mul t x y yt,ty,pos,aft,g⟩ (E (W (u * v))):=
 ce (by
  show pure (Value.int .u64 (IntKind.u64.wrap ((u.toNat:Int) * (v.toNat:Int))))=_
  have e:IntKind.u64.wrap ((u.toNat:Int) * (v.toNat:Int))=((u * v).toNat:Int):=by
   rw[BitVec.toNat_mul]
   simp only[IntKind.wrap,IntKind.bits,IntKind.signed,Bool.false_and,Bool.false_eq_true,if_false]
   simp
  rw[e];rfl) hx hy
theorem ud (hx:opd L x=some (E (W u))):OpC P w0 L ⟨dst,.unOp .neg t x,ty,pos,aft,g⟩ (E (W (-u))):=
 aP fun ρ w _ hv=>by
  have h1:=opE hv (x:=x) (by simp[Op.operands]) hx
  refine⟨_,?_,rfl⟩
  have e:IntKind.u64.wrap (0 - (u.toNat:Int))=((-u).toNat:Int):=by
   rw[BitVec.toNat_neg]
   simp only[IntKind.wrap,IntKind.bits,IntKind.signed,Bool.false_and,Bool.false_eq_true,if_false]
   omega
  have e2:(Op.unary .neg (W u))=pure (Value.int .u64 (IntKind.u64.wrap (0 - (u.toNat:Int)))):=rfl
  simp only[execOp,h1,e2,e,Sem.run_bind,Sem.run_pure,Result.andThen_ok]
  rfl
theorem nB {s d:TypeId}{ks kd:IntKind}{n:Int}(hs:P.underlying s=some (.int ks))(hd:P.underlying d=some (.int kd))(hx:opd L x=some (E (.int ks n))) :
  OpC P w0 L ⟨dst,.convert s d x,ty,pos,aft,g⟩ (E (.int kd (kd.wrap n))):=
 aP fun ρ w _ hv=>by
  have h1:=opE hv (x:=x) (by simp[Op.operands]) hx
  exact⟨_,by simp[execOp,h1,convert,run_underlying hs,run_underlying hd,Conv.intToInt],rfl⟩
theorem ldC {t:TypeId}{ad:Addr}{v:Value}(ht:TI P t false 1)(hx:opd L x=some (E (.pointer (some ad))))(hc:∀w,Ext w0 w→w.cell? ad=some v):OpC P w0 L ⟨dst,.load t x,ty,pos,aft,g⟩ (E v):=
 aP fun ρ w he hv=>by
  have h1:=opE hv (x:=x) (by simp[Op.operands]) hx
  exact⟨_,by simp[execOp,h1,Instr.loadAt,Instr.sureAddr,fj ht (hc w he)],rfl⟩
theorem min2 {tys:Array TypeId}{k:IntKind}{a b:Int}(hx:opd L x=some (E (.int k a)))(hy:opd L y=some (E (.int k b))) :
  OpC P w0 L ⟨dst,.call ⟨.builtin .min,#[x,y],tys⟩,ty,pos,aft,g⟩ (E (.int k (min a b))):=
 aP fun ρ w _ hv=>by
  have h1:=opE hv (x:=x) (by simp[Op.operands,Call.operands]) hx
  have h2:=opE hv (x:=y) (by simp[Op.operands,Call.operands]) hy
  refine⟨_,?_,rfl⟩
  have e:(if b<a then b else a)=min a b:=by rw[Int.min_def];split <;> split <;> omega
  simp[execOp,resolve,invoke,builtin,h1,h2,Builtin.min_,Builtin.min2,e]
theorem max2 {tys:Array TypeId}{k:IntKind}{a b:Int}(hx:opd L x=some (E (.int k a)))(hy:opd L y=some (E (.int k b))) :
  OpC P w0 L ⟨dst,.call ⟨.builtin .max,#[x,y],tys⟩,ty,pos,aft,g⟩ (E (.int k (max a b))):=
 aP fun ρ w _ hv=>by
  have h1:=opE hv (x:=x) (by simp[Op.operands,Call.operands]) hx
  have h2:=opE hv (x:=y) (by simp[Op.operands,Call.operands]) hy
  refine⟨_,?_,rfl⟩
  have e:(if b > a then b else a)=max a b:=by rw[Int.max_def];split <;> split <;> omega
  simp[execOp,resolve,invoke,builtin,h1,h2,Builtin.max_,Builtin.max2,e]
theorem ue {fn:Fn}{xs:Array Operand}{vs:Operand→Value}(hx:∀x∈xs,opd L x=some (E (vs x))) :
  OpC P w0 L ⟨dst,.makeFunc fn #[] xs,ty,pos,aft,g⟩ (E (.func fn #[] (xs.map vs))):=
 aP fun ρ w _ hv=>by
  have e:xs.map ρ=xs.map vs:=Array.map_congr_left fun x h=>hv x (by simp[Op.operands,h]) _ (hx x h)
  exact⟨_,by simp[execOp,Instr.makeFunc,e],rfl⟩
end more
end Go.Mono
namespace Go.Mono
open Go Go.RowKit
structure Enc (α:Type) where
 k:Nat
 agg:Bool
 r:(Nat→Prop)→World→α→List Value→Prop
 pos:0<k
 k1:agg=false→k=1
 len:∀{G w x cs},r G w x cs→cs.length=k
 one:∀{G w x cs},r G w x cs→∀u∈cs,u.oneCell'=true
 pres:∀{G w w' x cs},r G w x cs→(∀b,b<w.heap.size→¬G b→w'.heap[b]?=w.heap[b]?)→w.heap.size≤w'.heap.size→r G w' x cs
 weak:∀{G G' w x cs},r G w x cs→(∀b,b<w.heap.size→G' b→G b)→r G' w x cs

def Enc.pack {α:Type}(e:Enc α)(cs:List Value):Value:=match e.agg with
 | true=>.agg cs.toArray
 | false=>cs.headD undef

section enc
variable {α β:Type}{e:Enc α}{G G':Nat→Prop}{w w':World}{x:α}{cs:List Value}

theorem Enc.ext (h:e.r G w x cs)(k:Ext w w'):e.r G w' x cs:=e.pres h (fun b hb _=>k.block b hb) k.size
theorem Enc.gro {row:Option Nat}(h:e.r G w x cs)(k:w.grownBy w' row)(hG:∀b,row=some b→G b):e.r G w' x cs:=
 e.pres h (fun b hb hn=>k.block b hb (fun he=>hn (hG b he.symm))) k.size
theorem nC {u:Value}(h:u.oneCell'=true):u.cells = #[u]:=by cases u <;> simp[Value.cells,Value.oneCell'] at h ⊢
theorem Enc.pack_cells (h:e.r G w x cs):(e.pack cs).cells=cs.toArray:=by
 unfold Enc.pack
 cases ha:e.agg with
 | true=>rfl
 | false=>
  have hl:=e.len h
  rw[e.k1 ha] at hl
  match cs,hl with
  | [u],_=>simp[nC (e.one h u (by simp))]
def Dv (e:Enc α)(G:Nat→Prop)(x:α):VA:=
 ⟨fun v w=>∃cs,e.r G w x cs∧v=e.pack cs,fun v w w' k ⟨cs,h,hv⟩=>⟨cs,Enc.ext h k,hv⟩⟩
theorem Dv.weak {v:Value}(h:(Dv e G x).p v w)(hG:∀b,b<w.heap.size→G' b→G b):(Dv e G' x).p v w:=by
 obtain⟨cs,h,hv⟩:=h
 exact⟨cs,e.weak h hG,hv⟩
def gQ (k:Nat)(agg:Bool)(f:α→List Value)(pos:0<k)(k1:agg=false→k=1)(hl:∀x,(f x).length=k)(h1:∀x,∀u∈f x,u.oneCell'=true):Enc α where
 k:=k
 agg:=agg
 r:=fun _ _ x cs=>cs=f x
 pos:=pos
 k1:=k1
 len:=fun h=>by rw[h];exact hl _
 one:=fun h=>by rw[h];exact h1 _
 pres:=fun h _ _=>h
 weak:=fun h _=>h
def intE:Enc Int:=gQ 1 false (fun n=>[.int .i64 n]) (by decide) (fun _=>rfl) (fun _=>rfl) (fun x u hu=>by simp at hu;subst hu;rfl)
def cE:Enc Bool:=gQ 1 false (fun b=>[.bool b]) (by decide) (fun _=>rfl) (fun _=>rfl) (fun x u hu=>by simp at hu;subst hu;rfl)
def aM:Enc BS:=gQ 16 true (fun S=>(aJ S).toList) (by decide) (fun h=>by cases h) (fun S=>by rw[Array.length_toList,bh]) (fun S u hu=>by
 have:=bj (an S)
 rw[Array.all_eq_true_iff_forall_mem] at this
 exact this u (by simpa[aJ] using hu))

theorem Dv.int {v:Value}{n:Int}:(Dv intE G n).p v w↔v=.int .i64 n:=⟨fun⟨cs,h,hv⟩=>by cases h;exact hv,fun h=>⟨_,rfl,h⟩⟩
theorem Dv.bool {v:Value}{n:Bool}:(Dv cE G n).p v w↔v=.bool n:=⟨fun⟨cs,h,hv⟩=>by cases h;exact hv,fun h=>⟨_,rfl,h⟩⟩
theorem Dv.set {v:Value}{S:BS}:(Dv aM G S).p v w↔v=ac S:=⟨fun⟨cs,h,hv⟩=>by cases h;exact hv,fun h=>⟨_,rfl,h⟩⟩
def prE (e:Enc α)(f:Enc β):Enc (α×β) where
 k:=e.k+f.k
 agg:=true
 r:=fun G w x cs=>∃c d,cs=c++d∧e.r G w x.1 c∧f.r G w x.2 d
 pos:=by have:=e.pos;omega
 k1:=fun h=>by cases h
 len:=fun⟨c,d,h,h1,h2⟩=>by rw[h,List.length_append,e.len h1,f.len h2]
 one:=fun⟨c,d,h,h1,h2⟩ u hu=>by
  rw[h,List.mem_append] at hu
  exact hu.elim (e.one h1 u) (f.one h2 u)
 pres:=fun⟨c,d,h,h1,h2⟩ k l=>⟨c,d,h,e.pres h1 k l,f.pres h2 k l⟩
 weak:=fun⟨c,d,h,h1,h2⟩ k=>⟨c,d,h,e.weak h1 k,f.weak h2 k⟩
def Cells (e:Enc α)(G:Nat→Prop)(w:World):List α→List Value→Prop
 | [],cs=>cs=[]
 | x::xs,cs=>∃c d,cs=c++d∧e.r G w x c∧Cells e G w xs d

theorem Cells.len:∀{xs:List α} {cs:List Value},Cells e G w xs cs→cs.length=xs.length * e.k
 | [],cs,h=>by cases h;simp
 | x::xs,cs,⟨c,d,h,h1,h2⟩=>by rw[h,List.length_append,e.len h1,Cells.len h2,List.length_cons,Nat.succ_mul];omega
theorem Cells.one:∀{xs:List α} {cs:List Value},Cells e G w xs cs→∀u∈cs,u.oneCell'=true
 | [],cs,h=>by cases h;simp
 | x::xs,cs,⟨c,d,h,h1,h2⟩=>fun u hu=>by
  rw[h,List.mem_append] at hu
  exact hu.elim (e.one h1 u) (Cells.one h2 u)
theorem Cells.pres:∀{xs:List α} {cs:List Value},Cells e G w xs cs→(∀b,b<w.heap.size→¬G b→w'.heap[b]?=w.heap[b]?)→w.heap.size≤w'.heap.size→Cells e G w' xs cs
 | [],cs,h,_,_=>h
 | x::xs,cs,⟨c,d,h,h1,h2⟩,k,l=>⟨c,d,h,e.pres h1 k l,Cells.pres h2 k l⟩
theorem Cells.weak:∀{xs:List α} {cs:List Value},Cells e G w xs cs→(∀b,b<w.heap.size→G' b→G b)→Cells e G' w xs cs
 | [],cs,h,_=>h
 | x::xs,cs,⟨c,d,h,h1,h2⟩,k=>⟨c,d,h,e.weak h1 k,Cells.weak h2 k⟩
theorem Cells.app:∀{xs ys:List α} {cs ds:List Value},Cells e G w xs cs→Cells e G w ys ds→Cells e G w (xs++ys) (cs++ds)
 | [],ys,cs,ds,h,k=>by cases h;exact k
 | x::xs,ys,cs,ds,⟨c,d,h,h1,h2⟩,k=>⟨c,d++ds,by rw[h,List.append_assoc],h1,Cells.app h2 k⟩
theorem Cells.get:∀{xs:List α} {cs:List Value} {j:Nat} {x:α},Cells e G w xs cs→xs[j]?=some x→∃c,e.r G w x c∧∀i u,c[i]?=some u→cs[j * e.k+i]?=some u
 | [],cs,j,x,h,hj=>by simp at hj
 | y::xs,cs,0,x,⟨c,d,h,h1,h2⟩,hj=>by
  simp at hj
  subst hj
  exact⟨c,h1,fun i u hu=>by
   rw[Nat.zero_mul,Nat.zero_add,h,List.getElem?_append_left (List.getElem?_eq_some_iff.1 hu).1];exact hu⟩
 | y::xs,cs,j+1,x,⟨c,d,h,h1,h2⟩,hj=>by
  obtain⟨c',h3,h4⟩:=Cells.get h2 (by simpa using hj)
  refine⟨c',h3,fun i u hu=>?_⟩
  rw[h,List.getElem?_append_right (by rw[e.len h1,Nat.succ_mul];omega),e.len h1,show (j+1) * e.k+i - e.k=j * e.k+i by rw[Nat.succ_mul];omega]
  exact h4 i u hu
theorem Cells.take:∀{xs:List α} {cs:List Value} (n:Nat),Cells e G w xs cs→Cells e G w (xs.take n) (cs.take (n * e.k))
 | [],cs,n,h=>by cases h;simp[Cells]
 | x::xs,cs,0,h=>by simp[Cells]
 | x::xs,cs,n+1,⟨c,d,h,h1,h2⟩=>by
  refine⟨c,d.take (n * e.k),?_,h1,Cells.take n h2⟩
  have:=e.len h1
  have e1:(n+1) * e.k=c.length+n * e.k:=by rw[Nat.succ_mul];omega
  rw[h,e1,List.take_length_add_append]
theorem Cells.drop:∀{xs:List α} {cs:List Value} (n:Nat),Cells e G w xs cs→Cells e G w (xs.drop n) (cs.drop (n * e.k))
 | [],cs,n,h=>by cases h;simp[Cells]
 | x::xs,cs,0,h=>by simpa[Cells] using h
 | x::xs,cs,n+1,⟨c,d,h,h1,h2⟩=>by
  have:=e.len h1
  have e1:(n+1) * e.k=c.length+n * e.k:=by rw[Nat.succ_mul];omega
  rw[h,e1,List.drop_length_add_append]
  exact Cells.drop n h2
def At (w:World)(ad:Addr)(cs:List Value):Prop:=∀i u,cs[i]?=some u→w.cell? (ad.add i)=some u
theorem add_block (ad:Addr)(i:Nat):(ad.add i).block=ad.block:=by unfold Addr.add;split <;> rfl
theorem add_add (ad:Addr)(i j:Nat):(ad.add i).add j=ad.add (i+j):=by
 unfold Addr.add
 by_cases hi:i=0
 ·subst hi;simp
 ·by_cases hj:j=0
  ·subst hj;simp[hi]
  ·have:¬i+j=0:=by omega
   simp[hi,hj,Nat.add_assoc]
theorem At.pres {ad:Addr}(h:At w ad cs)(hb:w'.heap[ad.block]?=w.heap[ad.block]?):At w' ad cs:=fun i u hu=>by
 rw[World.cell?_of_block (w:=w) (by rw[add_block];exact hb)]
 exact h i u hu
theorem At.sub {ad:Addr}{c:List Value}{n:Nat}(h:At w ad cs)(hc:∀i u,c[i]?=some u→cs[n+i]?=some u):At w (ad.add n) c:=fun i u hu=>by
 rw[add_add]
 exact h _ u (hc i u hu)
def SlR (e:Enc α)(G:Nat→Prop)(w:World)(xs:List α)(v:Value):Prop:=
 (v=.slice none 0 0∧xs=[])∨∃ad cap cs,v=.slice (some ad) xs.length cap∧xs.length≤cap∧¬G ad.block∧ad.block<w.heap.size∧Cells e G w xs cs∧At w ad cs
def slE (e:Enc α):Enc (List α) where
 k:=1
 agg:=false
 r:=fun G w xs cs=>∃v,cs=[v]∧SlR e G w xs v
 pos:=by decide
 k1:=fun _=>rfl
 len:=fun⟨v,h,_⟩=>by rw[h];rfl
 one:=fun⟨v,h,hv⟩ u hu=>by
  rw[h] at hu
  simp at hu
  subst hu
  rcases hv with ⟨rfl,_⟩|⟨ad,cap,cs,rfl,_⟩ <;> rfl
 pres:=fun⟨v,h,hv⟩ k l=>⟨v,h,by
  rcases hv with hv|⟨ad,cap,cs,h1,h2,h3,h4,h5,h6⟩
  ·exact .inl hv
  ·exact .inr ⟨ad,cap,cs,h1,h2,h3,Nat.lt_of_lt_of_le h4 l,h5.pres k l,h6.pres (k _ h4 h3)⟩⟩
 weak:=fun⟨v,h,hv⟩ k=>⟨v,h,by
  rcases hv with hv|⟨ad,cap,cs,h1,h2,h3,h4,h5,h6⟩
  ·exact .inl hv
  ·exact .inr ⟨ad,cap,cs,h1,h2,fun hg=>h3 (k _ h4 hg),h4,h5.weak k,h6⟩⟩
theorem Dv.sl {v:Value}{xs:List α}:(Dv (slE e) G xs).p v w↔SlR e G w xs v:=
 ⟨fun⟨cs,⟨u,h,hu⟩,hv⟩=>by subst h;rw[hv];exact hu,fun h=>⟨[v],⟨v,rfl,h⟩,rfl⟩⟩
theorem Dv.nil:(Dv (slE e) G []).p (.slice none 0 0) w:=Dv.sl.2 (.inl ⟨rfl,rfl⟩)
def PtR (e:Enc α)(G:Nat→Prop)(w:World)(x:α)(ad:Addr):Prop:=¬G ad.block∧ad.block<w.heap.size∧∃cs,e.r G w x cs∧At w ad cs
def ptE (e:Enc α):Enc (Option α) where
 k:=1
 agg:=false
 r:=fun G w x cs=>(x=none∧cs=[.pointer none])∨∃y ad,x=some y∧cs=[.pointer (some ad)]∧PtR e G w y ad
 pos:=by decide
 k1:=fun _=>rfl
 len:=fun h=>by rcases h with ⟨_,h⟩|⟨y,ad,_,h,_⟩ <;> rw[h] <;> rfl
 one:=fun h u hu=>by
  rcases h with ⟨_,h⟩|⟨y,ad,_,h,_⟩ <;> (rw[h] at hu;simp at hu;subst hu;rfl)
 pres:=fun h k l=>by
  rcases h with h|⟨y,ad,h1,h2,h3,h4,cs,h5,h6⟩
  ·exact .inl h
  ·exact .inr ⟨y,ad,h1,h2,h3,Nat.lt_of_lt_of_le h4 l,cs,e.pres h5 k l,h6.pres (k _ h4 h3)⟩
 weak:=fun h k=>by
  rcases h with h|⟨y,ad,h1,h2,h3,h4,cs,h5,h6⟩
  ·exact .inl h
  ·exact .inr ⟨y,ad,h1,h2,fun hg=>h3 (k _ h4 hg),h4,cs,e.weak h5 k,h6⟩
theorem Dv.pt {v:Value}:(Dv (ptE e) G (some x)).p v w↔∃ad,v=.pointer (some ad)∧PtR e G w x ad:=
 ⟨fun⟨cs,h,hv⟩=>(by
  rcases h with ⟨h,_⟩|⟨y,ad,h1,h2,h3⟩
  ·cases h
  ·cases h1;subst h2;exact⟨ad,hv,h3⟩),fun⟨ad,h1,h2⟩=>⟨[v],.inr ⟨x,ad,rfl,by rw[h1],h2⟩,rfl⟩⟩
theorem Dv.pt0 {v:Value}:(Dv (ptE e) G none).p v w↔v=.pointer none:=
 ⟨fun⟨cs,h,hv⟩=>(by
  rcases h with ⟨_,h⟩|⟨y,ad,h1,h2,h3⟩
  ·subst h;exact hv
  ·cases h1),fun h=>⟨[v],.inl ⟨rfl,by rw[h]⟩,rfl⟩⟩
structure Fld (e:Enc α)(off:Nat)(f:Enc β)(g:α→β):Prop where
 at':∀{G w x cs},e.r G w x cs→∃c,f.r G w (g x) c∧∀i u,c[i]?=some u→cs[off+i]?=some u
theorem Fld.refl:Fld e 0 e (fun x=>x):=⟨fun h=>⟨_,h,fun i u hu=>by rw[Nat.zero_add];exact hu⟩⟩
theorem Fld.fst {γ:Type}{f:Enc β}{e':Enc γ}{g:α→γ}{off:Nat}(F:Fld e off e' g):Fld (prE e f) off e' (fun x=>g x.1):=⟨fun⟨c,d,h,h1,h2⟩=>by
 obtain⟨c',h3,h4⟩:=F.at' h1
 refine⟨c',h3,fun i u hu=>?_⟩
 have:=h4 i u hu
 rw[h,List.getElem?_append_left (List.getElem?_eq_some_iff.1 this).1]
 exact this⟩
theorem Fld.snd {γ:Type}{f:Enc β}{e':Enc γ}{g:β→γ}{off n:Nat}(F:Fld f off e' g)(hn:n=e.k+off):Fld (prE e f) n e' (fun x=>g x.2):=⟨fun⟨c,d,h,h1,h2⟩=>by
 obtain⟨c',h3,h4⟩:=F.at' h2
 refine⟨c',h3,fun i u hu=>?_⟩
 have:=h4 i u hu
 rw[h,List.getElem?_append_right (by rw[e.len h1];omega),e.len h1,show n+i - e.k=off+i by omega]
 exact this⟩
end enc

theorem kL {γ:Type}(f:γ→Value×Nat→γ)(init:γ)(c:List Value):c.toArray.zipIdx.foldl f init=c.zipIdx.foldl f init:=by
 rw[← Array.foldl_toList,Array.toList_zipIdx]
section ops
variable {P:Program}{w0:World}{L:Env}{dst:Option Tmp}{ty:TypeId}{pos:String}{aft:Array Edge}{g:Option (Nat×Bool)}
variable {α β:Type}{e:Enc α}{G:Nat→Prop}{x y:Operand}{t:TypeId}{xs:List α}{z:α}
def Is (L:Env)(w0:World)(x:Operand)(A:VA):Prop:=∃B,opd L x=some B∧∀v w,Ext w0 w→B.p v w→A.p v w
theorem isR {A:VA}(h:opd L x=some A):Is L w0 x A:=⟨A,h,fun _ _ _ h=>h⟩
theorem isE {A:VA}{v:Value}(h:opd L x=some (E v))(hA:A.p v w0):Is L w0 x A:=⟨_,h,fun u w he hu=>by cases hu;exact A.st _ _ _ he hA⟩
theorem isI {n:Int}(h:opd L x=some (E (.int .i64 n))):Is L w0 x (Dv intE G n):=isE h (Dv.int.2 rfl)
theorem isS {S:BS}(h:opd L x=some (E (ac S))):Is L w0 x (Dv aM G S):=isE h (Dv.set.2 rfl)
theorem Is.v {A:VA}{ρ:Operand→Value}{w:World}{o:Oper}(h:Is L w0 x A)(he:Ext w0 w)(hv:∀x∈o.op.operands,∀B,opd L x=some B→B.p (ρ x) w)(hx:x∈o.op.operands):A.p (ρ x) w:=by
 obtain⟨B,h1,h2⟩:=h
 exact h2 _ _ he (hv x hx _ h1)

theorem aB {te:TypeId}(ht:P.underlying t=some (.slice te))(hx:Is L w0 x (Dv (slE e) G xs)):OpC P w0 L ⟨dst,.call ⟨.builtin .len,#[x],#[t]⟩,ty,pos,aft,g⟩ (E (.int .i64 (xs.length:Nat))):=
 aP fun ρ w he hv=>by
  have h:=Dv.sl.1 (hx.v he hv (by simp[Op.operands,Call.operands]))
  refine⟨_,?_,rfl⟩
  rcases h with ⟨h,rfl⟩|⟨ad,cap,cs,h,_⟩
  ·simp[execOp,resolve,invoke,builtin,Builtin.len_,h,run_underlying ht,goInt]
  ·simp[execOp,resolve,invoke,builtin,Builtin.len_,h,run_underlying ht,goInt]

theorem aD {te:TypeId}{k:IntKind}{i:Int}{j:Nat}(ht:P.underlying t=some (.slice te))(hs:(P.info? te).map (·.size)=some e.k)(hx:Is L w0 x (Dv (slE e) G xs))(hy:opd L y=some (E (.int k i)))(h0:i=(j:Int))(hz:xs[j]?=some z) :
  OpC P w0 L ⟨dst,.indexAddr t x y,ty,pos,aft,g⟩ (Dv (ptE e) G (some z)):=
 aP fun ρ w he hv=>by
  obtain rfl:i.toNat=j:=by omega
  replace h0:0≤i:=by omega
  have h:=Dv.sl.1 (hx.v he hv (by simp[Op.operands]))
  have h2:=opE hv (x:=y) (by simp[Op.operands]) hy
  have hlt:=(List.getElem?_eq_some_iff.1 hz).1
  rcases h with ⟨h,rfl⟩|⟨ad,cap,cs,h,_,h3,h4,h5,h6⟩
  ·simp at hlt
  ·obtain⟨c,h7,h8⟩:=h5.get hz
   have hi:0≤i∧i<(xs.length:Int):=by omega
   have hsz:∀w,(sizeOf te).run P w=.ok e.k w:=fun w=>by
    cases hi:P.info? te with
    | none=>simp[hi] at hs
    | some i=>simp[hi] at hs;simp[sizeOf,typeInfo,hi,hs]
   refine⟨.pointer (some (ad.add (i.toNat * e.k))),?_,Dv.pt.2 ⟨_,rfl,by rw[add_block];exact h3,by rw[add_block];exact h4,c,h7,h6.sub h8⟩⟩
   simp[execOp,h,h2,Instr.indexAt,asIntOf,run_underlying ht,hi,hsz]

theorem ax {fs:Array Field}{f:Nat}{fl:Field}{s:Nat}{ag:Bool}{e':Enc β}{q:α→β}(ht:P.underlying t=some (.struct fs))(hf:fs[f]?=some fl)(hs:TI P fl.type ag s)(h0:0<s)(F:Fld e fl.offset e' q)
  (hx:Is L w0 x (Dv (ptE e) G (some z))):OpC P w0 L ⟨dst,.fieldAddr t x f,ty,pos,aft,g⟩ (Dv (ptE e') G (some (q z))):=
 aP fun ρ w he hv=>by
  obtain⟨ad,h1,h3,h4,cs,h5,h6⟩:=Dv.pt.1 (hx.v he hv (by simp[Op.operands]))
  obtain⟨c,h7,h8⟩:=F.at' h5
  have hne:s≠0:=by omega
  refine⟨.pointer (some (ad.add fl.offset)),?_,Dv.pt.2 ⟨_,rfl,by rw[add_block];exact h3,by rw[add_block];exact h4,c,h7,h6.sub h8⟩⟩
  simp[execOp,h1,Instr.fieldAt,Instr.sureAddr,run_underlying ht,hf,fieldPlace,hs.size,hne]

theorem uf {w:World}{ad:Addr}{cs:List Value}(ht:TI P t e.agg e.k)(h:e.r G w z cs)(ha:At w ad cs):(loadVar t ad).run P w=.ok (e.pack cs) w:=by
 cases hag:e.agg with
 | true=>
  rw[hag] at ht
  rw[iW ht (e.len h) ha,Enc.pack,hag]
 | false=>
  rw[hag,e.k1 hag] at ht
  have hl:=e.len h
  rw[e.k1 hag] at hl
  match cs,hl with
  | [u],_=>
   have:w.cell? ad=some u:=by
    have:=ha 0 u rfl
    simpa[Addr.add] using this
   rw[fj ht this,Enc.pack,hag]
   rfl
theorem ldD (ht:TI P t e.agg e.k)(hx:Is L w0 x (Dv (ptE e) G (some z))):OpC P w0 L ⟨dst,.load t x,ty,pos,aft,g⟩ (Dv e G z):=
 aP fun ρ w he hv=>by
  obtain⟨ad,h1,_,_,cs,h5,h6⟩:=Dv.pt.1 (hx.v he hv (by simp[Op.operands]))
  exact⟨_,by simp[execOp,h1,Instr.loadAt,Instr.sureAddr,uf ht h5 h6],cs,h5,rfl⟩
theorem OpC.conv {o:Oper}{A B:VA}(h:OpC P w0 L o A)(k:∀v w,A.p v w→B.p v w):OpC P w0 L o B:=
 ⟨fun ρ w he hv=>(h.out ρ w he hv).mono fun v w' ⟨h1,h2⟩=>⟨h1,k _ _ h2⟩⟩
theorem ldI {n:Int}(ht:TI P t false 1)(hx:Is L w0 x (Dv (ptE intE) G (some n))):OpC P w0 L ⟨dst,.load t x,ty,pos,aft,g⟩ (E (.int .i64 n)):=(ldD (e:=intE) ht hx).conv fun v w=>Dv.int.1
theorem ldB {n:Bool}(ht:TI P t false 1)(hx:Is L w0 x (Dv (ptE cE) G (some n))):OpC P w0 L ⟨dst,.load t x,ty,pos,aft,g⟩ (E (.bool n)):=(ldD (e:=cE) ht hx).conv fun v w=>Dv.bool.1
theorem ldS {S:BS}(ht:TI P t true 16)(hx:Is L w0 x (Dv (ptE aM) G (some S))):OpC P w0 L ⟨dst,.load t x,ty,pos,aft,g⟩ (E (ac S)):=(ldD (e:=aM) ht hx).conv fun v w=>Dv.set.1
theorem aW {te:TypeId}{z0:Value}{sz bz:Nat}(ht:P.underlying t=some (.slice te))(hi:(P.info? te).map (fun i=>(i.zero,i.size,i.bytes))=some (some z0,sz,bz))(hk:sz=e.k)(hk2:e.k≤16777216)(hz0:z0.cells.size=e.k)(hG:∀b,G b→b<w0.heap.size)(hx:Is L w0 x (Dv e G z)) :
  OpC P w0 L ⟨dst,.buildSlice t 1 #[(0,x)],ty,pos,aft,g⟩ (Dv (slE e) G [z]):=by
 refine⟨fun ρ w he hv=>?_⟩
 obtain⟨c,h1,h1'⟩:=hx.v he hv (by simp[Op.operands])
 obtain⟨it,hit,hiz,hsz,_⟩:=info_parts hi
 subst hk
 have l1:=e.len h1
 have hpos:=e.pos
 have p1:(ρ x).cells=c.toArray:=by rw[h1'];exact e.pack_cells h1
 have hc:∀(c:List Value) (n:Nat) (cells:Array Value),n+c.length=cells.size →
   (c.zipIdx n).foldl (fun cs (p:Value×Nat)=>cs.setIfInBounds (0+p.2) p.1) cells=(cells.toList.take n++c).toArray:=by
  intro c
  induction c with
  | nil=>intro n cells h;simp at h;subst h;rw[← Array.length_toList,List.take_length];simp
  | cons u c ih=>
   intro n cells h
   simp only[List.length_cons] at h
   rw[List.zipIdx_cons,List.foldl_cons,ih (n+1) _ (by simp;omega)]
   simp only[Array.toList_setIfInBounds,Nat.zero_add]
   congr 1
   have hlt:n<cells.toList.length:=by simp;omega
   rw[List.take_succ_eq_append_getElem (by simpa using hlt),List.getElem_set_self,List.take_set_of_le (Nat.le_refl _)]
   simp
 have hr:=run_buildSlice (P:=P) w t te 1 #[(0,ρ x)] c.toArray it z0 ht hit hiz (by rw[hsz];omega) (by rw[hsz];omega) (by
  have n1:¬(0 * e.k+e.k > 1 * e.k):=by omega
  simp only[Instr.fill,p1,List.size_toArray,l1,hsz,ne_eq,not_true_eq_false,decide_false,Bool.false_or,Array.size_map,Array.size_range,n1,Bool.false_eq_true,if_false,kL]
  simp only[Nat.zero_mul]
  rw[hc c 0 _ (by simp;omega)]
  simp)
 have hrun:(execOp ρ ⟨dst,.buildSlice t 1 #[(0,x)],ty,pos,aft,g⟩).run P w=.ok (.value (.slice (some ⟨w.heap.size,0,none⟩) 1 1)) (w.alloc (.cells c.toArray te)):=by
  simp only[execOp,Sem.run_bind,List.map_toArray,List.map_cons,List.map_nil,hr,Result.andThen_ok,Sem.run_pure]
 simp only[OpR,hrun]
 have hx:=cT w (.cells c.toArray te)
 refine⟨hx,Dv.sl.2 (.inr ⟨_,1,c,rfl,Nat.le_refl _,fun hg=>?_,by simp,⟨c,[],by simp,Enc.ext h1 hx,rfl⟩,fun i u hu=>?_⟩)⟩
 ·exact absurd (hG _ hg) (Nat.not_lt.2 he.size)
 ·rw[Addr.add_lit,Nat.zero_add,(dO w c.toArray te).cell i]
  rw[List.getElem?_toArray];exact hu
end ops
end Go.Mono
namespace Go.Mono
open Go Go.RowKit
def GB (W:World)(G:Nat→Prop)(b:Nat):Prop:=G b∨W.heap.size≤b
def GO (G:Nat→Prop)(v:Value)(b:Nat):Prop:=G b∨v.ownBlock=some b
def G1 (G:Nat→Prop)(c:Nat)(b:Nat):Prop:=G b∨b=c
def G0 (_:Nat):Prop:=False

section
variable {α β:Type}{e:Enc α}{G G':Nat→Prop}{w w' W:World}{x:α}{xs:List α}{v:Value}

theorem Dv.toB (h:(Dv e G x).p v W):(Dv e (GB W G) x).p v W:=Dv.weak h fun b hb h=>h.elim id fun h=>absurd hb (Nat.not_lt.2 h)
class AvR (row:Option Nat)(A:VA):Prop where
 av:∀v w w',w.grownBy w' row→A.p v w→A.p v w'
class fR (row:Option Nat)(L:Env):Prop where
 av:∀t A,aG L t=some A→∀v w w',w.grownBy w' row→A.p v w→A.p v w'
class InR (G:Nat→Prop)(row:Option Nat):Prop where
 in':∀b,row=some b→G b
instance (row:Option Nat)(v:Value):AvR row (E v):=⟨fun _ _ _ _ h=>h⟩
instance (row:Option Nat):AvR row Any:=⟨fun _ _ _ _ h=>h⟩
instance (row:Option Nat)(e:Enc α)(G:Nat→Prop)(x:α)[h:InR G row]:AvR row (Dv e G x):=⟨fun v w w' hg ⟨cs,h1,h2⟩=>⟨cs,Enc.gro h1 hg h.in',h2⟩⟩
instance (row:Option Nat):fR row []:=⟨fun t A h=>by simp[aG] at h⟩
instance (row:Option Nat)(k:Nat)(A:VA)(L:Env)[h:AvR row A][hl:fR row L]:fR row ((k,A)::L):=⟨fun t B ht=>by
 by_cases hkt:k=t
 ·subst hkt;rw[cB] at ht;cases ht;exact h.av
 ·rw[cC _ _ hkt] at ht;exact hl.av t B ht⟩
instance (b:Nat)(e:Enc α)(G:Nat→Prop)(x:α)[h:InR G (some b)]:AvC b (Dv e G x):=⟨fun v w w' hg ⟨cs,h1,h2⟩=>⟨cs,Enc.gro h1 hg h.in',h2⟩⟩
instance (G:Nat→Prop)(v:Value):InR (GO G v) v.ownBlock:=⟨fun b h=>.inr h⟩
instance (G:Nat→Prop)(b:Nat):InR (G1 G b) (some b):=⟨fun c h=>.inr (by cases h;rfl)⟩
theorem InR.gb {b:Nat}(h:W.heap.size≤b):InR (GB W G) (some b):=⟨fun c hc=>.inr (by cases hc;exact h)⟩
theorem FrD.gro {n:Nat}{ds:List Deferred}{a:Act}{L:Env}{row:Option Nat}[h:fR row L](hf:FrD n ds a w L)(hg:w.grownBy w' row):FrD n ds a w' L:=
 ⟨hf.size,hf.defers,fun t A ht=>h.av t A ht _ _ _ hg (hf.val t A ht)⟩
theorem Ext.gro {row:Option Nat}(e:Ext W w)(h:w.grownBy w' row)(hb:∀b,row=some b→W.heap.size≤b):Ext W w':=Below.grown e h e.size hb
theorem Blk.gro {row:Option Nat}{b:Nat}{cs:Array Value}{t:TypeId}(h:Blk w b cs t)(hg:w.grownBy w' row)(hne:row≠some b):Blk w' b cs t:=
 (hg.block b h.lt (fun e=>hne e.symm)).trans h
structure OwR (e:Enc α)(ty:TypeId)(B:Nat)(G:Nat→Prop)(w:World)(xs:List α)(v:Value):Prop where
 own:∃cs,w.ownsRow B ty e.k v xs.length cs∧Cells e (GO G v) w xs cs
 av:∀b,G b→b<B
 base:B≤w.heap.size
theorem OwR.lt {ty:TypeId}{B:Nat}(h:OwR e ty B G w xs v){b:Nat}(hb:v.ownBlock=some b):B≤b∧b<w.heap.size:=by
 obtain⟨cs,h1,_⟩:=h.own
 exact h1.lt b hb
theorem OwR.inGB {ty:TypeId}{B:Nat}(h:OwR e ty B G w xs v)(hB:W.heap.size≤B)(G0:Nat→Prop):InR (GB W G0) v.ownBlock:=⟨fun b hb=>.inr (Nat.le_trans hB (h.lt hb).1)⟩
theorem OwR.row {ty:TypeId}{B:Nat}(h:OwR e ty B G w xs v)(hB:W.heap.size≤B):∀b,v.ownBlock=some b→W.heap.size≤b:=fun b hb=>Nat.le_trans hB (h.lt hb).1
theorem OwR.nil (e:Enc α)(ty:TypeId){B:Nat}(hB:B≤w.heap.size)(hG:∀b,G b→b<B):OwR e ty B G w [] (.slice none 0 0):=
 ⟨⟨[],World.ownsRow_nil _ _ _ _,rfl⟩,hG,hB⟩
theorem OwR.pres {ty:TypeId}{B:Nat}(h:OwR e ty B G w xs v){row:Option Nat}(hg:w.grownBy w' row)(hne:v.ownBlock=none∨v.ownBlock≠row)(hG:∀b,row=some b→GO G v b):OwR e ty B G w' xs v:=by
 obtain⟨cs,h1,h2⟩:=h.own
 exact⟨⟨cs,h1.kept hg hne,h2.pres (fun b hb hn=>hg.block b hb (fun e=>hn (hG b e.symm))) hg.size⟩,h.av,Nat.le_trans h.base hg.size⟩
theorem Ext.gr0 (k:Ext w w'):w.grownBy w' none:=⟨k.os,k.tape,k.output,k.size,fun b hb _=>k.block b hb⟩
theorem OwR.ext {ty:TypeId}{B:Nat}(h:OwR e ty B G w xs v)(k:Ext w w'):OwR e ty B G w' xs v:=h.pres k.gr0 (by cases v.ownBlock <;> simp) (fun b hb=>by cases hb)
instance {ty:TypeId}{B:Nat}:Ug w w' (OwR e ty B G w xs v) (OwR e ty B G w' xs v):=⟨fun e h=>h.ext e⟩
theorem OwR.sl {ty:TypeId}{B:Nat}(h:OwR e ty B G w xs v):(Dv (slE e) G xs).p v w:=by
 obtain⟨cs,h1,h2⟩:=h.own
 refine Dv.sl.2 ?_
 rcases h1.2 with ⟨hv,hn⟩|⟨g,cap,cur,hv,hB,hg,hn,hm,hs,ht⟩
 ·exact .inl ⟨hv,List.eq_nil_of_length_eq_zero hn⟩
 ·refine .inr ⟨_,cap,cs,hv,hn,fun hg'=>absurd (h.av _ hg') (Nat.not_lt.2 hB),(Array.getElem?_eq_some_iff.1 hg).1,h2.weak fun b _ hb=>.inl hb,h1.cells (by rw[hv];rfl)⟩
theorem OwR.avs {ty:TypeId}{B:Nat}(h:OwR e ty B G w xs v):∀b,GO G v b→b<w.heap.size:=fun b hb=>hb.elim (fun hb=>Nat.lt_of_lt_of_le (h.av b hb) h.base) (fun hb=>(h.lt hb).2)
end

section tail
variable {P:Program}{L:Env}{ty:TypeId}{pos:String}{aft:Array Edge}{r:Option Nat}{ds:List Deferred}
variable {ops:Array Oper}{rest:List Oper}{Q:Exit→Act→World→Prop}{n:Nat}{a:Act}{w:World}{x y:Operand}
variable {α:Type}{e:Enc α}{G:Nat→Prop}{xs ys:List α}{v:Value}

theorem ug {t te:TypeId}{z0:Value}{sz bz B:Nat}(ht:P.underlying t=some (.slice te))(hi:(P.info? te).map (fun i=>(i.zero,i.size,i.bytes))=some (some z0,sz,bz))(hsz:sz=e.k)(hz0:z0.cells.size=e.k)
  (ho:OwR e te B G w xs v) {u:Value} (hy:(Dv (slE e) (GO G v) ys).p u w) (h63:(xs.length+ys.length)≤maxLen) (hb:(xs.length+ys.length) * bz≤140737488355328) :
  ∃v' w',(Builtin.append_ #[t,t] ty #[v,u]).run P w=.ok v' w'∧OwR e te B G w' (xs++ys) v'∧w.grownBy w' v.ownBlock∧(v'.ownBlock=v.ownBlock∨v'.ownBlock=some w.heap.size):=by
 obtain⟨it,hit,hiz,hsz',hbz⟩:=info_parts hi
 subst hsz
 obtain⟨cs,h1,h2⟩:=ho.own
 rcases Dv.sl.1 hy with ⟨rfl,rfl⟩|⟨ad,cap,ds',rfl,_,h3,h4,h5,h6⟩
 ·refine⟨v,w,run_append_owned_none w B t ty te it e.k ht hit v _ cs h1,by simpa using ho,⟨rfl,rfl,rfl,Nat.le_refl _,fun _ _ _=>rfl⟩,.inl rfl⟩
 ·obtain⟨v',w',h7,h8,h9,_,h10⟩:=run_append_own_at (P:=P) w B t ty te it z0 e.k bz ht hit hiz hsz' hbz hz0 e.pos v _ cs h1 ad ys.length cap ds' h5.len h6 h5.one h63 hb ho.base
  refine⟨v',w',h7,⟨⟨cs++ds',by simpa using h8,?_⟩,ho.av,Nat.le_trans ho.base h9.size⟩,h9,h10⟩
  have hp:∀{zs:List α} {ms:List Value},Cells e (GO G v) w zs ms→Cells e (GO G v') w' zs ms:=fun h=>by
   have h11:Cells e (fun b=>GO G v b∨v'.ownBlock=some b) w _ _:=h.weak fun b hb hb'=>by
    rcases hb' with hb'|hb'
    ·exact hb'
    ·rcases h10 with h|h
     ·exact .inr (by rw[← h];exact hb')
     ·rw[h] at hb';cases hb';omega
   exact (h11.pres (fun b hb hn=>h9.block b hb (fun he=>hn (.inl (.inr he.symm)))) h9.size).weak fun b _ hb=>hb.elim (fun h=>.inl (.inl h)) .inr
  exact (hp h2).app (hp h5)
theorem br {t te:TypeId}{z0:Value}{d sz bz B:Nat}(ht:P.underlying t=some (.slice te))(hi:(P.info? te).map (fun i=>(i.zero,i.size,i.bytes))=some (some z0,sz,bz))(hsz:sz=e.k)(hz0:z0.cells.size=e.k)
  (hf:FrD n ds a w L) [hL:fR v.ownBlock L] (hd:d<n) (hx:opd L x=some (E v)) (ho:OwR e te B G w xs v) (hy:Is L w y (Dv (slE e) (GO G v) ys)) (hb:(xs.length+ys.length) * bz≤140737488355328)
  (h63:xs.length+ys.length≤maxLen)
  (k:∀a' v' w',w.grownBy w' v.ownBlock→(v'.ownBlock=v.ownBlock∨v'.ownBlock=some w.heap.size)→OwR e te B G w' (xs++ys) v'→FrD n ds a' w' ((d,E v')::L)→wpListIn (FW r) 0 P ops Q rest a' w') :
  wpListIn (FW r) 0 P ops Q (⟨some d,.call ⟨.builtin .append,#[x,y],#[t,t]⟩,ty,pos,aft,none⟩::rest) a w:=
 wpListIn_plain rfl fun K hK=>by
  have hxv:a.eval x=v:=hf.opd x _ hx
  obtain⟨C,hy1,hy2⟩:=hy
  have hyv:=hy2 _ _ (Ext.rfl' _) (hf.opd y _ hy1)
  obtain⟨v',w',h1,h2,h3,h4⟩:=ug (P:=P) (ty:=ty) ht hi hsz hz0 ho hyv h63 hb
  refine OpR.wp (R:=fun u w1=>u=v'∧w1=w') ?_ ?_
  ·simp only[OpR,execOp,resolve,invoke,builtin,Sem.run_bind,Sem.run_pure,Result.andThen_ok,List.map_toArray,List.map_cons,List.map_nil,hxv,h1]
   trivial
  ·rintro u w1 ⟨rfl,rfl⟩
   refine hK _ _ (k _ _ _ h3 h4 h2 ?_)
   exact (hf.gro h3).put (d:=some d) (A:=E u) (Ext.rfl' _) (fun k hk=>by cases hk;exact hd) rfl
theorem kM {t te:TypeId}{d k:Nat}(B:Nat)(G:Nat→Prop)(e:Enc α)(ht:P.underlying t=some (.slice te))(hi:(P.info? te).map (·.size)=some k)(hf:FrD n ds a w L)(hd:d<n)(hB:B≤w.heap.size)(hG:∀b,G b→b<B)
  (k:∀a' v' w',Ext w w'→v'.ownBlock=some w.heap.size→OwR e te B G w' [] v'→FrD n ds a' w' ((d,E v')::L)→wpListIn (FW r) 0 P ops Q rest a' w') :
  wpListIn (FW r) 0 P ops Q (⟨some d,.buildSlice t 0 #[],ty,pos,aft,none⟩::rest) a w:=
 wpListIn_plain rfl fun K hK=>by
  refine OpR.wp (R:=fun u w1=>u=.slice (some ⟨w.heap.size,0,none⟩) 0 0∧w1=w.alloc (.cells #[] te)) ?_ ?_
  ·cases hit:P.info? te with
   | none=>simp[hit] at hi
   | some i=>
    simp[OpR,execOp,Instr.buildSlice,run_underlying ht,sizeOf,typeInfo,hit,Instr.fill,newRow,Array.range_zero']
  ·rintro u w1 ⟨rfl,rfl⟩
   have h1:=cT w (.cells #[] te)
   exact hK _ _ (k _ _ _ h1 rfl ⟨⟨[],World.ownsRow_made w #[] 0 hB (Nat.zero_le _) (by simp),rfl⟩,hG,Nat.le_trans hB h1.size⟩ (hf.put (d:=some d) h1 (fun k hk=>by cases hk;exact hd) rfl))
end tail
end Go.Mono
namespace Go.Mono
open Go Go.RowKit
theorem cut {P:Program}{r:Option Nat}{c:Code}{Q:Exit→Act→World→Prop}{a:Act}{w:World}{J:Act→World→Prop}(h:c.wpIn (FW r) 0 P (fun ex a w=>ex=.normal∧J a w) a w)(k:∀a w,J a w→Q .normal a w):c.wpIn (FW r) 0 P Q a w:=
 wpIn_mono h (by rintro ex a w ⟨rfl,hj⟩;exact k a w hj)
theorem bs {α:Type}{xs:List α}{k:Nat}{x:α}(h:xs[k]?=some x):xs.take (k+1)=xs.take k++[x]:=by
 rw[List.take_add_one,h];rfl
def gi (r:List Int)(k:Nat):Int:=match r[k]? with
 | some x=>x
 | none=>0
theorem cA {r:List Int}{k:Nat}(h:k<r.length):r[k]?=some (gi r k):=by simp[gi,h]
theorem uh {r:List Int}{k:Nat}(h:k<r.length):r.take (k+1)=r.take k++[gi r k]:=bs (cA h)
end Go.Mono
namespace Go.Mono
open Go
theorem OpC.dv {P:Program}{w0:World}{L:Env}{o:Oper}{α:Type}{e:Enc α}{G:Nat→Prop}{x y:α}(h:OpC P w0 L o (Dv e G x))(hxy:x=y):OpC P w0 L o (Dv e G y):=hxy▸h
end Go.Mono
namespace Go.Mono
open Go
theorem kN {v v':Value}{n b:Nat}(h:v'.ownBlock=v.ownBlock∨v'.ownBlock=some n)(hne:v.ownBlock≠some b)(hb:b<n):v'.ownBlock≠some b:=by
 rcases h with h|h
 ·rw[h];exact hne
 ·rw[h];simp;omega
end Go.Mono
namespace Go.Mono
open Go Go.RowKit
theorem FrD.upd {n:Nat}{ds:List Deferred}{a:Act}{w:World}{L:Env}{A B:VA}(h:FrD n ds a w L)(k:Nat)(hk:aG L k=some A)(hAB:∀v,A.p v w→B.p v w):FrD n ds a w ((k,B)::L):=
 FrD.cons (hAB _ (h.val k A hk)) h
end Go.Mono
namespace Go.Mono
open Go Go.RowKit
section callv
variable {P:Program}{w0:World}{L:Env}{dst:Option Tmp}{ty:TypeId}{pos:String}{aft:Array Edge}{g:Option (Nat×Bool)}
theorem nD {fo:Operand}{id:FuncId}{caps:Array Value}{xs:Array Operand}{tys:Array TypeId}{A:VA}(hf:Proofs.Enters P id)(hfo:opd L fo=some (E (.func (.func id) #[] caps)))
  (h:∀ρ w,Ext w0 w→(∀x∈(Op.call ⟨.value fo,xs,tys⟩).operands,∀B,opd L x=some B→B.p (ρ x) w)→Calls P id (xs.map ρ++caps) w (Post A w)) :
  OpC P w0 L ⟨dst,.call ⟨.value fo,xs,tys⟩,ty,pos,aft,g⟩ A:=by
 refine⟨fun ρ w he hv=>?_⟩
 have hfv:ρ fo=.func (.func id) #[] caps:=hv fo (by simp[Op.operands,Call.operands]) _ hfo
 have hrun:(execOp ρ ⟨dst,.call ⟨.value fo,xs,tys⟩,ty,pos,aft,g⟩).run P w=.ok (.enter id (xs.map ρ++caps)) w:=by
  simp[execOp,resolve,hfv,Deferred.ofValue,invoke,hf (xs.map ρ++caps) w]
 simp only[OpR,hrun]
 exact h ρ w he hv
theorem gR {fo x:Operand}{id:FuncId}{caps:Array Value}{tys:Array TypeId}{A B:VA}(hf:Proofs.Enters P id)(hfo:opd L fo=some (E (.func (.func id) #[] caps)))(hx:opd L x=some B)
  (h:∀v w,Ext w0 w→B.p v w→Calls P id (#[v]++caps) w (Post A w)):OpC P w0 L ⟨dst,.call ⟨.value fo,#[x],tys⟩,ty,pos,aft,g⟩ A:=
 nD hf hfo fun ρ w he hv=>by simpa using h (ρ x) w he (hv x (by simp[Op.operands,Call.operands]) _ hx)
end callv
end Go.Mono
namespace Go.Mono
open Go Go.RowKit
theorem OwR.ne_new {α:Type}{e:Enc α}{ty:TypeId}{B:Nat}{G:Nat→Prop}{w:World}{xs:List α}{v:Value}(h:OwR e ty B G w xs v){b:Nat}(hb:b=w.heap.size):v.ownBlock≠some b:=fun hv=>by
 have:=(h.lt hv).2
 omega
end Go.Mono
namespace Go.Mono
open Go Go.RowKit

variable {P:Program}{w0:World}{L:Env}{dst:Option Tmp}{ty:TypeId}{pos:String}{aft:Array Edge}{g:Option (Nat×Bool)}{r:Option Nat}{ds:List Deferred}
theorem idxS {x y:Operand}{t te:TypeId}{b off len cap s:Nat}{k:IntKind}{i:Int}(ht:P.underlying t=some (.slice te))(hs:(P.info? te).map (·.size)=some s)(hx:opd L x=some (E (.slice (some ⟨b,off,none⟩) len cap)))(hy:opd L y=some (E (.int k i)))(hi:0≤i∧i<(len:Int)) :
  OpC P w0 L ⟨dst,.indexAddr t x y,ty,pos,aft,g⟩ (E (.pointer (some ⟨b,off+i.toNat * s,none⟩))):=
 aP fun ρ w _ hv=>by
  have h1:=opE hv (x:=x) (by simp[Op.operands]) hx
  have h2:=opE hv (x:=y) (by simp[Op.operands]) hy
  have hsz:∀w,(sizeOf te).run P w=.ok s w:=fun w=>by
   cases hi:P.info? te with
   | none=>simp[hi] at hs
   | some i=>simp[hi] at hs;simp[sizeOf,typeInfo,hi,hs]
  refine⟨_,?_,rfl⟩
  simp[execOp,h1,h2,Instr.indexAt,asIntOf,run_underlying ht,hi,hsz,Addr.add_lit]
theorem eG {x:Operand}{t te:TypeId}{ao:Option Addr}{n cap:Nat}(ht:P.underlying t=some (.slice te))(hx:opd L x=some (E (.slice ao n cap))):OpC P w0 L ⟨dst,.call ⟨.builtin .len,#[x],#[t]⟩,ty,pos,aft,g⟩ (E (.int .i64 (n:Nat))):=
 aP fun ρ w he hv=>by
  have h1:=opE hv (x:=x) (by simp[Op.operands,Call.operands]) hx
  exact⟨_,by simp[execOp,resolve,invoke,builtin,Builtin.len_,h1,run_underlying ht,goInt],rfl⟩

theorem FrD.fix {n:Nat}{a:Act}{w:World}{A:VA}(h:FrD n ds a w L)(k:Nat)(hk:aG L k=some A):∃v,A.p v w∧FrD n ds a w ((k,E v)::L):=
 ⟨_,h.val k A hk,FrD.cons rfl h⟩

section tail
variable {ops:Array Oper}{rest:List Oper}{Q:Exit→Act→World→Prop}{n:Nat}{a:Act}{w:World}{x y:Operand}
theorem ui (z:Value)(n:Nat):madeCells #[z] n=(List.replicate n z).toArray:=by
 unfold madeCells
 apply Array.toList_inj.1
 rw[Array.toList_map,Array.toList_range]
 refine List.ext_getElem (by simp) fun i h1 h2=>?_
 simp[Nat.mod_one]
theorem nE {t te:TypeId}{z:Value}{k:IntKind}{d c bz:Nat}(ht:P.underlying t=some (.slice te))(hi:(P.info? te).map (fun i=>(i.zero,i.size,i.bytes))=some (some z,1,bz))(hz:z.cells = #[z])(hf:FrD n ds a w L)(hd:d<n)
  (hx:opd L x=some (E (.int k (c:Nat)))) (hc:c≤1048576) (hb:bz≤1048576)
  (h:∀a' b w',Ext w w'→b=w.heap.size→w'.heap.size=b+1→Blk w' b (List.replicate c z).toArray te→FrD n ds a' w' ((d,E (.slice (some ⟨b,0,none⟩) c c))::L)→wpListIn (FW r) 0 P ops Q rest a' w') :
  wpListIn (FW r) 0 P ops Q (⟨some d,.makeSlice t x x,ty,pos,aft,none⟩::rest) a w:=
 wpListIn_plain rfl fun K hK=>by
  obtain⟨it,hit,hiz,hs,hby⟩:=info_parts hi
  have hxv:a.eval x=.int k (c:Nat):=hf.opd x _ hx
  have hprod:(bz:Int) * (c:Nat)≤1048576 * 1048576:=Int.mul_le_mul (by omega) (by omega) (by omega) (by omega)
  have hr:=run_make (P:=P) w t te it z ht hit hiz k k (c:Nat) (c:Nat) (by omega) (by omega) (by rw[hby];omega) (by omega)
  rw[hs,Int.toNat_natCast,Nat.mul_one,hz,ui] at hr
  refine OpR.wp (R:=fun v w'=>v=.slice (some ⟨w.heap.size,0,none⟩) c c∧w'=w.alloc (.cells (List.replicate c z).toArray te)) ?_ ?_
  ·simp only[OpR,execOp,hxv,Sem.run_bind,hr,Result.andThen_ok,Sem.run_pure,and_self]
  ·rintro v w' ⟨rfl,rfl⟩
   exact hK _ _ (h _ _ _ (cT _ _) rfl (by simp) (dO _ _ _) (hf.put (d:=some d) (cT _ _) (fun k hk=>by cases hk;exact hd) rfl))
end tail
structure Rows (ety B:Nat)(G:Nat→Prop)(w:World)(bo:Nat)(xss:List (List Int))(vs:List Value):Prop where
 len:vs.length=xss.length
 at':∀(p:Nat) (v:Value) (xs:List Int),vs[p]?=some v→xss[p]?=some xs→OwR intE ety B G w xs v∧v.ownBlock≠some bo
 sep:∀(p q:Nat) (u v:Value),p≠q→vs[p]?=some u→vs[q]?=some v→u.ownBlock=none∨u.ownBlock≠v.ownBlock
variable {ety B bo:Nat}{G:Nat→Prop}{w w':World}{xss:List (List Int)}{vs:List Value}
theorem Rows.ext (h:Rows ety B G w bo xss vs)(k:Ext w w'):Rows ety B G w' bo xss vs:=
 ⟨h.len,fun p v xs h1 h2=>⟨(h.at' p v xs h1 h2).1.ext k,(h.at' p v xs h1 h2).2⟩,h.sep⟩
instance:Ug w w' (Rows ety B G w bo xss vs) (Rows ety B G w' bo xss vs):=⟨fun e h=>h.ext e⟩
theorem Rows.cells (h:Rows ety B G w bo xss vs):Cells (slE intE) G w xss vs:=by
 have hl:=h.len
 have ha:=h.at'
 clear h
 induction xss generalizing vs with
 | nil=>exact List.eq_nil_of_length_eq_zero hl
 | cons xs xss ih=>
  match vs,hl,ha with
  | v::vs,hl,ha=>
   refine⟨[v],vs,rfl,⟨v,rfl,Dv.sl.1 (ha 0 v xs rfl rfl).1.sl⟩,ih (by simpa using hl) fun p u ys h1 h2=>ha (p+1) u ys h1 h2⟩
section
variable {ops:Array Oper}{rest:List Oper}{K:Env→Prop}{A:VA}{op:Op}{dd:Nat}{row:Option Nat}
end
end Go.Mono
namespace Go.Mono
open Go Go.RowKit
end Go.Mono
namespace Go.Mono
open Go Go.RowKit
theorem OwR.one {α:Type}{e:Enc α}{ty:TypeId}{B:Nat}{G:Nat→Prop}{w:World}{xs:List α}{v:Value}(h:OwR e ty B G w xs v):v.oneCell'=true:=by
 rcases Dv.sl.1 h.sl with ⟨rfl,_⟩|⟨ad,cap,cs,rfl,_⟩ <;> rfl
end Go.Mono
namespace Go.Mono
open Go Go.RowKit
structure Chg (S:Nat→Prop)(w w':World):Prop where
 os:w'.os=w.os
 tape:w'.tape=w.tape
 output:w'.output=w.output
 size:w.heap.size≤w'.heap.size
 block:∀k,k<w.heap.size→¬S k→w'.heap[k]?=w.heap[k]?
section
variable {S S':Nat→Prop}{w w' w'' W:World}
theorem Chg.rfl' (S:Nat→Prop)(w:World):Chg S w w:=⟨rfl,rfl,rfl,Nat.le_refl _,fun _ _ _=>rfl⟩
theorem Chg.tr (h:Chg S w w')(k:Chg S w' w''):Chg S w w'':=
 ⟨k.os.trans h.os,k.tape.trans h.tape,k.output.trans h.output,Nat.le_trans h.size k.size,fun b hb hS=>(k.block b (Nat.lt_of_lt_of_le hb h.size) hS).trans (h.block b hb hS)⟩
theorem Chg.ext (h:Chg S w w')(k:Ext w' w''):Chg S w w'':=
 ⟨k.os.trans h.os,k.tape.trans h.tape,k.output.trans h.output,Nat.le_trans h.size k.size,fun b hb hS=>(k.block b (Nat.lt_of_lt_of_le hb h.size)).trans (h.block b hb hS)⟩
instance {S:Nat→Prop}{W w w':World}:Ug w w' (Chg S W w) (Chg S W w'):=⟨fun e h=>h.ext e⟩
theorem Ext.chg (h:Ext w w')(S:Nat→Prop):Chg S w w':=⟨h.os,h.tape,h.output,h.size,fun b hb _=>h.block b hb⟩
theorem Chg.gr (h:Chg S w w'){b:Nat}(k:w'.grownBy w'' (some b))(hb:S b∨w.heap.size≤b):Chg S w w'':=
 ⟨k.os.trans h.os,k.tape.trans h.tape,k.output.trans h.output,Nat.le_trans h.size k.size,fun c hc hS=>(k.block c (Nat.lt_of_lt_of_le hc h.size) (fun he=>by
  cases he
  rcases hb with hb|hb
  ·exact hS hb
  ·omega)).trans (h.block c hc hS)⟩
theorem Chg.to (h:Chg S w w')(hS:∀b,b<w.heap.size→S b→S' b):Chg S' w w':=⟨h.os,h.tape,h.output,h.size,fun b hb hn=>h.block b hb (fun hs=>hn (hS b hb hs))⟩
theorem Ext.ch (e:Ext W w)(h:Chg S w w')(hS:∀b,S b→W.heap.size≤b):Ext W w':=
 ⟨h.os.trans e.os,h.tape.trans e.tape,h.output.trans e.output,Nat.le_trans e.size h.size,fun b hb=>(h.block b (Nat.lt_of_lt_of_le hb e.size) (fun hs=>by have:=hS b hs;omega)).trans (e.block b hb)⟩
theorem Blk.ch {b:Nat}{cs:Array Value}{t:TypeId}(h:Blk w b cs t)(k:Chg S w w')(hS:¬S b):Blk w' b cs t:=(k.block b h.lt hS).trans h
class InS (G S:Nat→Prop):Prop where
 in':∀b,S b→G b
theorem Dv.ch {α:Type}{e:Enc α}{G:Nat→Prop}{x:α}{v:Value}(h:(Dv e G x).p v w)(k:Chg S w w')(hG:∀b,S b→G b):(Dv e G x).p v w':=by
 obtain⟨cs,h1,h2⟩:=h
 exact⟨cs,e.pres h1 (fun b hb hn=>k.block b hb (fun hs=>hn (hG b hs))) k.size,h2⟩
class AvS (S:Nat→Prop)(A:VA):Prop where
 av:∀v w w',Chg S w w'→A.p v w→A.p v w'
class eH (S:Nat→Prop)(L:Env):Prop where
 av:∀t A,aG L t=some A→∀v w w',Chg S w w'→A.p v w→A.p v w'
instance (S:Nat→Prop)(v:Value):AvS S (E v):=⟨fun _ _ _ _ h=>h⟩
instance (S:Nat→Prop):AvS S Any:=⟨fun _ _ _ _ h=>h⟩
instance (S:Nat→Prop){α:Type}(e:Enc α)(G:Nat→Prop)(x:α)[h:InS G S]:AvS S (Dv e G x):=⟨fun v w w' k h1=>Dv.ch h1 k h.in'⟩
instance (S:Nat→Prop):eH S []:=⟨fun t A h=>by simp[aG] at h⟩
instance (S:Nat→Prop)(k:Nat)(A:VA)(L:Env)[h:AvS S A][hl:eH S L]:eH S ((k,A)::L):=⟨fun t B ht=>by
 by_cases hkt:k=t
 ·subst hkt;rw[cB] at ht;cases ht;exact h.av
 ·rw[cC _ _ hkt] at ht;exact hl.av t B ht⟩
theorem FrD.ch {n:Nat}{ds:List Deferred}{a:Act}{L:Env}[h:eH S L](hf:FrD n ds a w L)(k:Chg S w w'):FrD n ds a w' L:=
 ⟨hf.size,hf.defers,fun t A ht=>h.av t A ht _ _ _ k (hf.val t A ht)⟩
end

section tail
variable {P:Program}{L:Env}{ty:TypeId}{pos:String}{aft:Array Edge}{r:Option Nat}{ds:List Deferred}
variable {ops:Array Oper}{rest:List Oper}{Q:Exit→Act→World→Prop}{n:Nat}{a:Act}{w:World}{x y:Operand}
theorem gS {S:Nat→Prop}{F:World→Prop}{fo:Operand}{id:FuncId}{caps:Array Value}{xs:Array Operand}{tys:Array TypeId}{A:VA}{d:Nat}(hf:FrD n ds a w L)[hL:eH S L](hd:d<n)(he:Proofs.Enters P id)(hfo:opd L fo=some (E (.func (.func id) #[] caps)))
  (h:Calls P id (xs.map a.eval++caps) w (fun e w'=>∃v,e=.returned v∧Chg S w w'∧A.p v w'∧F w'))
  (k:∀a' w',Chg S w w'→F w'→FrD n ds a' w' ((d,A)::L)→wpListIn (FW r) 0 P ops Q rest a' w') :
  wpListIn (FW r) 0 P ops Q (⟨some d,.call ⟨.value fo,xs,tys⟩,ty,pos,aft,none⟩::rest) a w:=
 wpListIn_plain rfl fun K hK=>by
  have hfv:a.eval fo=.func (.func id) #[] caps:=hf.opd fo _ hfo
  have hrun:(execOp a.eval ⟨some d,.call ⟨.value fo,xs,tys⟩,ty,pos,aft,none⟩).run P w=.ok (.enter id (xs.map a.eval++caps)) w:=by
   simp[execOp,resolve,hfv,Deferred.ofValue,invoke,he (xs.map a.eval++caps) w]
  refine OpR.wp (R:=fun v w'=>Chg S w w'∧A.p v w'∧F w') ?_ ?_
  ·simp only[OpR,hrun]
   exact h
  ·rintro v w' ⟨h1,h2,h3⟩
   exact hK _ _ (k _ _ h1 h3 ((hf.ch h1).put (d:=some d) (Ext.rfl' _) (fun k hk=>by cases hk;exact hd) h2))
theorem uj {S:Nat→Prop}{F:World→Prop}{id:FuncId}{xs:Array Operand}{tys:Array TypeId}{A:VA}{d:Nat}(hf:FrD n ds a w L)[hL:eH S L](hd:d<n)(he:Proofs.Enters P id)
  (h:Calls P id (xs.map a.eval) w (fun e w'=>∃v,e=.returned v∧Chg S w w'∧A.p v w'∧F w'))
  (k:∀a' w',Chg S w w'→F w'→FrD n ds a' w' ((d,A)::L)→wpListIn (FW r) 0 P ops Q rest a' w') :
  wpListIn (FW r) 0 P ops Q (⟨some d,.call ⟨.value (.func id),xs,tys⟩,ty,pos,aft,none⟩::rest) a w:=by
 refine gS (S:=S) (F:=F) (A:=A) (caps := #[]) hf hd he rfl (by simpa using h) k
end tail
def bY (l:List Int):Array Value:=(l.map (Value.int .i64)).toArray
theorem uk (l:List Int)(p:Nat)(x:Int):(bY l).setIfInBounds p (.int .i64 x)=bY (l.set p x):=by
 apply Array.toList_inj.1
 simp[bY,List.map_set]
theorem um (l:List Int):(bY l).size=l.length:=by simp[bY]
end Go.Mono
namespace Go.Mono
open Go Go.RowKit
theorem Dv.gr {α:Type}{e:Enc α}{G:Nat→Prop}{x:α}{v:Value}{w w':World}{b:Nat}(h:(Dv e G x).p v w)(hg:w.grownBy w' (some b))(hb:G b):(Dv e G x).p v w':=by
 obtain⟨cs,h1,h2⟩:=h
 exact⟨cs,Enc.gro h1 hg (fun c hc=>by cases hc;exact hb),h2⟩
instance {α:Type}{e:Enc α}{W:World}{G:Nat→Prop}{x:α}{v:Value}{w w':World}{b:Nat}:Gg b w w' ((Dv e (GB W G) x).p v w) (W.heap.size≤b) ((Dv e (GB W G) x).p v w'):=⟨fun g s h=>Dv.gr h g (.inr s)⟩
theorem Dv.ex {α:Type}{e:Enc α}{G:Nat→Prop}{x:α}{v:Value}{w w':World}(h:(Dv e G x).p v w)(k:Ext w w'):(Dv e G x).p v w':=(Dv e G x).st _ _ _ k h
section
variable {P:Program}{w0:World}{L:Env}{dst:Option Tmp}{ty:TypeId}{pos:String}{aft:Array Edge}{g:Option (Nat×Bool)}
theorem fT {fn:Fn}{x1:Operand}{v1:Value}(h1:opd L x1=some (E v1)):OpC P w0 L ⟨dst,.makeFunc fn #[] #[x1],ty,pos,aft,g⟩ (E (.func fn #[] #[v1])):=
 aP fun ρ w _ hv=>⟨_,by
  have a1:=opE hv (x:=x1) (by simp[Op.operands]) h1
  simp[execOp,Instr.makeFunc,a1],rfl⟩
theorem gT {fn:Fn}{x1 x2:Operand}{v1 v2:Value}(h1:opd L x1=some (E v1))(h2:opd L x2=some (E v2)):OpC P w0 L ⟨dst,.makeFunc fn #[] #[x1,x2],ty,pos,aft,g⟩ (E (.func fn #[] #[v1,v2])):=
 aP fun ρ w _ hv=>⟨_,by
  have a1:=opE hv (x:=x1) (by simp[Op.operands]) h1
  have a2:=opE hv (x:=x2) (by simp[Op.operands]) h2
  simp[execOp,Instr.makeFunc,a1,a2],rfl⟩
end
end Go.Mono
namespace Go.Mono
theorem Dv.slOne {α:Type}{e:Enc α}{G:Nat→Prop}{xs:List α}{v:Go.Value}{w:Go.World}(h:(Dv (slE e) G xs).p v w):v.oneCell'=true:=by
 rcases Dv.sl.1 h with ⟨rfl,_⟩|⟨ad,cap,cs,rfl,_⟩ <;> rfl
end Go.Mono
namespace Go.Mono
open Go Go.RowKit
class FlE {α:Type}(e:Enc α):Prop where
 fl:∀{G G' w w' x cs},e.r G w x cs→e.r G' w' x cs
instance {α:Type}(k:Nat)(agg:Bool)(f:α→List Value)(p1 p2 p3 p4):FlE (gQ k agg f p1 p2 p3 p4):=⟨fun h=>h⟩
instance:FlE intE:=⟨fun h=>h⟩
instance:FlE cE:=⟨fun h=>h⟩
instance:FlE aM:=⟨fun h=>h⟩
instance {α β:Type}(e:Enc α)(f:Enc β)[he:FlE e][hf:FlE f]:FlE (prE e f):=⟨fun⟨c,d,h,h1,h2⟩=>⟨c,d,h,he.fl h1,hf.fl h2⟩⟩
theorem Cells.fl {α:Type}{e:Enc α}[he:FlE e]{G G':Nat→Prop}{w w':World}:∀{xs:List α} {cs:List Value},Cells e G w xs cs→Cells e G' w' xs cs
 | [],cs,h=>h
 | x::xs,cs,⟨c,d,h,h1,h2⟩=>⟨c,d,h,he.fl h1,Cells.fl h2⟩
theorem OwR.grE {α:Type}{e:Enc α}[he:FlE e]{ty:TypeId}{B:Nat}{G:Nat→Prop}{w w':World}{xs:List α}{v:Value}{b:Nat}(h:OwR e ty B G w xs v)(hg:w.grownBy w' (some b))(hne:v.ownBlock≠some b):OwR e ty B G w' xs v:=by
 obtain⟨cs,h1,h2⟩:=h.own
 exact⟨⟨cs,h1.kept hg (.inr hne),Cells.fl h2⟩,h.av,Nat.le_trans h.base hg.size⟩
section
variable {P:Program}{w0:World}{L:Env}{dst:Option Tmp}{ty:TypeId}{pos:String}{aft:Array Edge}{g:Option (Nat×Bool)}
theorem un {x:Operand}{t yt te:TypeId}{ao:Option Addr}{n c:Nat}(ht:P.underlying t=some (.slice te))(hx:opd L x=some (E (.slice ao n c))) :
  OpC P w0 L ⟨dst,.binOp .eql t x (.const (.slice none 0 0)) yt,ty,pos,aft,g⟩ (E (.bool ao.isNone)):=
 iR hx rfl (fun _=>rfl) rfl fun w _=>run_equal_slice_nil w t te ao n c ht
end
end Go.Mono
namespace Go.Mono
open Go Go.RowKit

variable {P:Program}{k e:TypeId}{w w':World}{b n:Nat}{m:Int→Option Int}
theorem eI {t:TypeId}{z:Value}{sz bz:Nat}(h:(P.info? t).map (fun i=>(i.zero,i.size,i.bytes))=some (some z,sz,bz)):∀w,(zeroValue t).run P w=.ok z w:=fun w=>by
 obtain⟨i,hi,hzi,_,_⟩:=info_parts h
 simp[zeroValue,typeInfo,hi,hzi]
section
variable {w0:World}{L:Env}{dst:Option Tmp}{ty:TypeId}{pos:String}{aft:Array Edge}{g:Option (Nat×Bool)}
end
end Go.Mono
namespace Go.Mono
open Go Go.RowKit
variable {P:Program}{w0:World}{L:Env}{dst:Option Tmp}{ty:TypeId}{pos:String}{aft:Array Edge}{g:Option (Nat×Bool)}{x y:Operand}{t yt:TypeId}
variable {α β:Type}{e:Enc α}{G:Nat→Prop}{z:α}

theorem dj (hx:Is L w0 x (Dv (ptE e) G (some z))):OpC P w0 L ⟨dst,.nilCheck x,ty,pos,aft,g⟩ (Dv (ptE e) G (some z)):=
 aP fun ρ w he hv=>by
  have h:=hx.v he hv (by simp[Op.operands])
  obtain⟨ad,h1,h2⟩:=Dv.pt.1 h
  exact⟨ρ x,by simp[execOp,h1],h⟩
theorem kO {ad:Addr}(hx:opd L x=some (E (.pointer (some ad)))):OpC P w0 L ⟨dst,.nilCheck x,ty,pos,aft,g⟩ (E (.pointer (some ad))):=
 aP fun ρ w he hv=>by
  have h1:=opE hv (x:=x) (by simp[Op.operands]) hx
  exact⟨ρ x,by simp[execOp,h1],h1⟩
theorem uq {op:BinOp}{A:VA}{c:Value}{b:Bool}(hx:Is L w0 x A)(h:∀v w,A.p v w→(eqGuard op t x (.const c) v c).run P w=.ok () w∧(binOp op t v c).run P w=.ok (.bool b) w) :
  OpC P w0 L ⟨dst,.binOp op t x (.const c) yt,ty,pos,aft,g⟩ (E (.bool b)):=
 aP fun ρ w he hv=>by
  have h1:=hx.v he hv (by simp[Op.operands])
  have h2:ρ (.const c)=c:=hv (.const c) (by simp[Op.operands]) _ rfl
  obtain⟨h3,h4⟩:=h _ _ h1
  exact⟨_,by simp only[execOp,h2,Sem.run_bind,h3,h4,Result.andThen_ok,Sem.run_pure],rfl⟩
theorem nF {pe:TypeId}(h:P.underlying t=some (.pointer pe)):P.underlying t=some (.pointer (P.pointee t)):=by
 rw[h];simp[Program.pointee,h]
theorem dm {pe:TypeId}(ht0:P.underlying t=some (.pointer pe))(hx:Is L w0 x (Dv (ptE e) G (some z))):OpC P w0 L ⟨dst,.binOp .eql t x (.const (.pointer none)) yt,ty,pos,aft,g⟩ (E (.bool false)):=
 have ht:=nF ht0
 uq hx fun v w h=>by
  obtain⟨ad,h1,_⟩:=Dv.pt.1 h
  subst h1
  exact⟨rfl,run_eql_pointer_nil w t (some ad) ht⟩
end Go.Mono
namespace Go.Mono
open Go Go.RowKit
end Go.Mono
namespace Go.Mono
open Go Go.RowKit
end Go.Mono
namespace Go.Mono
open Go Go.RowKit
variable {P:Program}{w0:World}{L:Env}{dst:Option Tmp}{ty:TypeId}{pos:String}{aft:Array Edge}{g:Option (Nat×Bool)}{x y:Operand}{t te:TypeId}

theorem gU {te:TypeId}{s:Nat}(hs:(P.info? te).map (·.size)=some s)(w:World):(sizeOf te).run P w=.ok s w:=by
 cases hi:P.info? te with
 | none=>simp[hi] at hs
 | some i=>simp[hi] at hs;simp[sizeOf,typeInfo,hi,hs]
section tail
variable {r:Option Nat}{ds:List Deferred}{ops:Array Oper}{rest:List Oper}{Q:Exit→Act→World→Prop}{n:Nat}{a:Act}{w:World}
end tail
end Go.Mono
namespace Go.Mono
open Go Go.RowKit

section
variable {P:Program}{ops:Array Oper}{Q:Exit→Act→World→Prop}{w0:World}{n:Nat}{ds:List Deferred}{r:Option Nat}

def el (A:VA)(As:Nat→VA):Nat→VA
 | 0=>A
 | i+1=>As i
theorem eJ (L:Env)(A:VA)(As:Nat→VA)(k j:Nat):aR ops L (el A As) k (j+1)=aR ops (push (aQ ops k) A L) As (k+1) j:=by
 rw[← iQ]
 congr 1
end
end Go.Mono
namespace Go.Mono
open Go Go.RowKit
section
variable {P:Program}{w0:World}{L:Env}{ty:TypeId}{pos:String}{aft:Array Edge}
variable {ops:Array Oper}{rest:List Oper}{K:Env→Prop}{A:VA}{op:Op}{dd:Nat}{row:Option Nat}{F:World→Prop}
end
end Go.Mono
namespace Go.Mono
open Go Go.RowKit

structure cG (P:Program)(w0:World)(S:World→World→Prop)(F:World→Prop)(L:Env)(o:Oper)(A:VA):Prop where
 out:∀ρ w,Ext w0 w→(∀x∈o.op.operands,∀B,opd L x=some B→B.p (ρ x) w)→OpR P o ρ w (fun v w'=>S w w'∧A.p v w'∧F w')
abbrev nG (P:Program)(w0:World)(S:Nat→Prop)(F:World→Prop)(L:Env)(o:Oper)(A:VA):Prop:=cG P w0 (Chg S) F L o A
end Go.Mono
namespace Go.Mono
open Go Go.RowKit
section
variable {P:Program}{w0:World}{L:Env}{dst:Option Tmp}{ty:TypeId}{pos:String}{aft:Array Edge}{S:Nat→Prop}{F:World→Prop}
def OwA {α:Type}(e:Enc α)(ty:TypeId)(B:Nat)(G:Nat→Prop)(xs:List α):VA:=⟨fun v w=>OwR e ty B G w xs v,fun v w w' k h=>h.ext k⟩
end
end Go.Mono
namespace Go.Mono
open Go Go.RowKit
section
variable {P:Program}{k e:TypeId}{w w':World}{b:Nat}{m:Int→Option Int}
end
section tail
variable {P:Program}{L:Env}{ty:TypeId}{pos:String}{aft:Array Edge}{r:Option Nat}{ds:List Deferred}
variable {ops:Array Oper}{rest:List Oper}{Q:Exit→Act→World→Prop}{n:Nat}{a:Act}{w:World}{x y z:Operand}{k e:TypeId}
end tail
end Go.Mono
namespace Go.Mono
open Go Go.RowKit
section
variable {P:Program}{w0:World}{L:Env}{dst:Option Tmp}{ty:TypeId}{pos:String}{aft:Array Edge}{g:Option (Nat×Bool)}{t:TypeId}
theorem Dv.r1 {α:Type}{e:Enc α}{G:Nat→Prop}{x:α}{v:Value}{w:World}(ha:e.agg=false)(h:(Dv e G x).p v w):e.r G w x [v]:=by
 obtain⟨cs,h1,h2⟩:=h
 have hl:=e.len h1
 rw[e.k1 ha] at hl
 match cs,hl with
 | [u],_=>
  rw[Enc.pack,ha] at h2
  have:v=u:=h2
  rw[this];exact h1
theorem Dv.slF {α:Type}{e:Enc α}{G:Nat→Prop}{xs:List α}{v:Value}{w:World}(h:(Dv (slE e) G xs).p v w):∃ao n c,v=.slice ao n c:=by
 rcases Dv.sl.1 h with ⟨rfl,_⟩|⟨ad,cap,cs,rfl,_⟩
 ·exact⟨_,_,_,rfl⟩
 ·exact⟨_,_,_,rfl⟩
end
end Go.Mono
namespace Go.Mono
open Go Go.RowKit
def AlA (B:Nat)(z:Value)(e:TypeId):VA:=⟨fun v w=>∃b,B≤b∧v=.pointer (some ⟨b,0,none⟩)∧Blk w b z.cells e,fun v w w' k ⟨b,h1,h2,h3⟩=>⟨b,h1,h2,h3.ext k⟩⟩
theorem alD {P:Program}{w0:World}{L:Env}{dst:Option Tmp}{ty:TypeId}{pos:String}{aft:Array Edge}{g:Option (Nat×Bool)}{e:TypeId}{z:Value}{sz bz:Nat}(hz:(P.info? e).map (fun i=>(i.zero,i.size,i.bytes))=some (some z,sz,bz)) :
  OpC P w0 L ⟨dst,.alloc e,ty,pos,aft,g⟩ (AlA w0.heap.size z e):=by
 refine⟨fun ρ w he hv=>?_⟩
 obtain⟨i,hi,hzi,_,_⟩:=info_parts hz
 simp only[OpR,execOp,Instr.alloc,zeroValue,typeInfo,hi,hzi,Sem.run_bind,Sem.run_pure,iY,Result.andThen_ok]
 simp[hi,hzi,iY]
 exact⟨cT _ _,_,he.size,rfl,dO _ _ _⟩
theorem Blk.ne {w:World}{a b:Nat}{cs cs':Array Value}{t t':TypeId}(h:Blk w a cs t)(h':Blk w b cs' t')(ht:t≠t'):a≠b:=by
 rintro rfl
 unfold Blk at h h'
 rw[h] at h'
 simp at h'
 exact ht h'.2
end Go.Mono
namespace Go.Mono
open Go Go.Proofs Go.RowKit

theorem OwR.neB {α:Type}{e:Enc α}{ty:TypeId}{B:Nat}{G:Nat→Prop}{w:World}{xs:List α}{v:Value}(h:OwR e ty B G w xs v){b:Nat}{cs:Array Value}{t:TypeId}(hb:Blk w b cs t)(ht:t≠ty):v.ownBlock≠some b:=fun hv=>by
 obtain⟨cs',h1,_⟩:=h.own
 rcases h1.2 with ⟨rfl,_⟩|⟨g,cap,cur,rfl,_,hg,_⟩
 ·simp[Value.ownBlock] at hv
 ·simp only[Value.ownBlock,Option.some.injEq] at hv
  subst hv
  exact (Blk.ne hb hg ht) rfl
theorem OwR.chE {α:Type}{e:Enc α}[FlE e]{ty:TypeId}{B:Nat}{G:Nat→Prop}{w w':World}{xs:List α}{v:Value}{S:Nat→Prop}(h:OwR e ty B G w xs v)(c:Chg S w w')(hS:∀b,v.ownBlock=some b→¬S b):OwR e ty B G w' xs v:=by
 obtain⟨cs,h1,h2⟩:=h.own
 refine⟨⟨cs,⟨h1.1,?_⟩,Cells.fl h2⟩,h.av,Nat.le_trans h.base c.size⟩
 rcases h1.2 with h3|⟨g,cap,cur,a1,a2,a3,a4⟩
 ·exact .inl h3
 ·refine .inr ⟨g,cap,cur,a1,a2,?_,a4⟩
  rw[c.block g (Array.getElem?_eq_some_iff.1 a3).1 (hS g (by rw[a1];rfl))]
  exact a3
theorem fq {P:Program}{fn:Func}{t u s k:Nat}{R:Ending→World→Prop}{n:Nat}{a:Act}{w:World}{L:Env}{b:Nat}{cs:Array Value}{bt:TypeId}{A:VA}(hr:fn.results = #[.cell t u,.tmp s])(ht:TI P u true k)(hf:Fr n a w L)(h:aG L t=some (E (.pointer (some ⟨b,0,none⟩))))(h':aG L s=some A)
  (hb:Blk w b cs bt) (hs:cs.size=k) (hR:∀x,A.p x w→R (.returned (.tuple #[.agg cs,x])) w):bodyPost P fn R .ret a w:=by
 have hv:a.tmps.getD t undef=.pointer (some ⟨b,0,none⟩):=hf.val t _ h
 have hv':a.tmps[t]?.getD undef=.pointer (some ⟨b,0,none⟩):=by simpa using hv
 obtain⟨d,h1,h2⟩:=ht.u
 have hl:=run_loadVar_row (P:=P) w b bt u cs (0,0) d hb h1 (by cases d <;> simp_all) (by rw[ht.s,hs])
 exact⟨hf.defers,.tuple #[.agg cs,a.eval (.tmp s)],by simp[results,hr,Act.eval,hv',asAddr,hl],hR _ (hf.val s A h')⟩
theorem ut {P:Program}{w0:World}{L:Env}{dst:Option Tmp}{ty:TypeId}{pos:String}{aft:Array Edge}{g:Option (Nat×Bool)}{fn:Fn}{x1 x2 x3 x4 x5:Operand}{v1 v2 v3 v4 v5:Value}(h1:opd L x1=some (E v1))(h2:opd L x2=some (E v2))(h3:opd L x3=some (E v3))(h4:opd L x4=some (E v4))(h5:opd L x5=some (E v5)) :
  OpC P w0 L ⟨dst,.makeFunc fn #[] #[x1,x2,x3,x4,x5],ty,pos,aft,g⟩ (E (.func fn #[] #[v1,v2,v3,v4,v5])):=
 aP fun ρ w _ hv=>⟨_,by
  have a1:=opE hv (x:=x1) (by simp[Op.operands]) h1
  have a2:=opE hv (x:=x2) (by simp[Op.operands]) h2
  have a3:=opE hv (x:=x3) (by simp[Op.operands]) h3
  have a4:=opE hv (x:=x4) (by simp[Op.operands]) h4
  have a5:=opE hv (x:=x5) (by simp[Op.operands]) h5
  simp[execOp,Instr.makeFunc,a1,a2,a3,a4,a5],rfl⟩
structure OwX {α:Type}(e:Enc α)(ty:TypeId)(B:Nat)(G:Nat→Prop)(w:World)(xs:List α)(v:Value):Prop where
 own:∃cs,w.ownsRow B ty e.k v xs.length cs∧Cells e (GO G v) w xs cs
 base:B≤w.heap.size
section
variable {α β:Type}{e:Enc α}{ty ty':TypeId}{B B':Nat}{G G':Nat→Prop}{w w':World}{xs:List α}{ys:List β}{v u:Value}
theorem OwX.lt (h:OwX e ty B G w xs v){b:Nat}(hb:v.ownBlock=some b):B≤b∧b<w.heap.size:=by
 obtain⟨cs,h1,_⟩:=h.own
 exact h1.lt b hb
theorem OwX.nil (e:Enc α)(ty:TypeId){B:Nat}(hB:B≤w.heap.size):OwX e ty B G w [] (.slice none 0 0):=
 ⟨⟨[],World.ownsRow_nil _ _ _ _,rfl⟩,hB⟩
theorem OwX.weak (h:OwX e ty B G w xs v)(hG:∀b,b<w.heap.size→G' b→G b):OwX e ty B G' w xs v:=by
 obtain⟨cs,h1,h2⟩:=h.own
 exact⟨⟨cs,h1,h2.weak fun b hb h=>h.imp (hG b hb) id⟩,h.base⟩
theorem OwX.ch (h:OwX e ty B G w xs v){S:Nat→Prop}(c:Chg S w w')(hS:∀b,v.ownBlock=some b→¬S b)(hG:∀b,S b→G b):OwX e ty B G w' xs v:=by
 obtain⟨cs,h1,h2⟩:=h.own
 refine⟨⟨cs,⟨h1.1,?_⟩,h2.pres (fun b hb hn=>c.block b hb fun hs=>hn (.inl (hG b hs))) c.size⟩,Nat.le_trans h.base c.size⟩
 rcases h1.2 with h3|⟨g,cap,cur,a1,a2,a3,a4⟩
 ·exact .inl h3
 ·refine .inr ⟨g,cap,cur,a1,a2,?_,a4⟩
  rw[c.block g (Array.getElem?_eq_some_iff.1 a3).1 (hS g (by rw[a1];rfl))]
  exact a3
theorem OwX.ext (h:OwX e ty B G w xs v)(k:Ext w w'):OwX e ty B G w' xs v:=h.ch (k.chg fun _=>False) (fun _ _ h=>h) fun _ h=>h.elim
instance {B:Nat}:Ug w w' (OwX e ty B G w xs v) (OwX e ty B G w' xs v):=⟨fun e h=>h.ext e⟩
theorem OwX.sl (h:OwX e ty B G w xs v)(hG:∀b,v.ownBlock=some b→¬G' b)(hGG:∀b,b<w.heap.size→G' b→G b):(Dv (slE e) G' xs).p v w:=by
 obtain⟨cs,h1,h2⟩:=h.own
 refine Dv.sl.2 ?_
 rcases h1.2 with ⟨hv,hn⟩|⟨g,cap,cur,hv,hB,hg,hn,hm,hs,ht⟩
 ·exact .inl ⟨hv,List.eq_nil_of_length_eq_zero hn⟩
 ·refine .inr ⟨_,cap,cs,hv,hn,hG _ (by rw[hv];rfl),(Array.getElem?_eq_some_iff.1 hg).1,h2.weak fun b hb h=>.inl (hGG b hb h),h1.cells (by rw[hv];rfl)⟩
theorem OwX.sl0 (h:OwX e ty B G w xs v):(Dv (slE e) G0 xs).p v w:=h.sl (fun _ _ h=>h) fun _ _ h=>h.elim
theorem OwX.one (h:OwX e ty B G w xs v):v.oneCell'=true:=by
 rcases Dv.sl.1 h.sl0 with ⟨rfl,_⟩|⟨ad,cap,cs,rfl,_⟩ <;> rfl
theorem OwX.neR {f:Enc β}{G2:Nat→Prop}(h:OwX e ty B G w xs u)(h':OwR f ty' B' G2 w ys v)(ht:ty≠ty'){g:Nat}(hu:u.ownBlock=some g):v.ownBlock≠some g:=by
 obtain⟨cs,h1,_⟩:=h.own
 rcases h1.2 with ⟨rfl,_⟩|⟨g',cap,cur,rfl,_,hg,_⟩
 ·simp[Value.ownBlock] at hu
 ·simp only[Value.ownBlock,Option.some.injEq] at hu
  subst hu
  exact h'.neB (show Blk w g' cur ty from hg) ht
end
section tail
variable {P:Program}{L:Env}{ty:TypeId}{pos:String}{aft:Array Edge}{r:Option Nat}{ds:List Deferred}
variable {ops:Array Oper}{rest:List Oper}{Q:Exit→Act→World→Prop}{n:Nat}{a:Act}{w:World}{x y:Operand}
variable {α:Type}{e:Enc α}{G:Nat→Prop}{xs ys:List α}{v:Value}
theorem uu {t te:TypeId}{z0:Value}{sz bz B:Nat}(ht:P.underlying t=some (.slice te))(hi:(P.info? te).map (fun i=>(i.zero,i.size,i.bytes))=some (some z0,sz,bz))(hsz:sz=e.k)(hz0:z0.cells.size=e.k)
  (ho:OwX e te B G w xs v) {u:Value} (hy:(Dv (slE e) (GO G v) ys).p u w) (h63:(xs.length+ys.length)≤maxLen) (hb:(xs.length+ys.length) * bz≤140737488355328) :
  ∃v' w',(Builtin.append_ #[t,t] ty #[v,u]).run P w=.ok v' w'∧OwX e te B G w' (xs++ys) v'∧w.grownBy w' v.ownBlock∧(v'.ownBlock=v.ownBlock∨v'.ownBlock=some w.heap.size):=by
 obtain⟨it,hit,hiz,hsz',hbz⟩:=info_parts hi
 subst hsz
 obtain⟨cs,h1,h2⟩:=ho.own
 rcases Dv.sl.1 hy with ⟨rfl,rfl⟩|⟨ad,cap,ds',rfl,_,h3,h4,h5,h6⟩
 ·refine⟨v,w,run_append_owned_none w B t ty te it e.k ht hit v _ cs h1,by simpa using ho,⟨rfl,rfl,rfl,Nat.le_refl _,fun _ _ _=>rfl⟩,.inl rfl⟩
 ·obtain⟨v',w',h7,h8,h9,_,h10⟩:=run_append_own_at (P:=P) w B t ty te it z0 e.k bz ht hit hiz hsz' hbz hz0 e.pos v _ cs h1 ad ys.length cap ds' h5.len h6 h5.one h63 hb ho.base
  refine⟨v',w',h7,⟨⟨cs++ds',by simpa using h8,?_⟩,Nat.le_trans ho.base h9.size⟩,h9,h10⟩
  have hp:∀{zs:List α} {ms:List Value},Cells e (GO G v) w zs ms→Cells e (GO G v') w' zs ms:=fun h=>by
   have h11:Cells e (fun b=>GO G v b∨v'.ownBlock=some b) w _ _:=h.weak fun b hb hb'=>by
    rcases hb' with hb'|hb'
    ·exact hb'
    ·rcases h10 with h|h
     ·exact .inr (by rw[← h];exact hb')
     ·rw[h] at hb';cases hb';omega
   exact (h11.pres (fun b hb hn=>h9.block b hb (fun he=>hn (.inl (.inr he.symm)))) h9.size).weak fun b _ hb=>hb.elim (fun h=>.inl (.inl h)) .inr
  exact (hp h2).app (hp h5)
theorem kP {t te:TypeId}{z0:Value}{d sz bz B:Nat}(ht:P.underlying t=some (.slice te))(hi:(P.info? te).map (fun i=>(i.zero,i.size,i.bytes))=some (some z0,sz,bz))(hsz:sz=e.k)(hz0:z0.cells.size=e.k)
  (hf:FrD n ds a w L) [hL:fR v.ownBlock L] (hd:d<n) (hx:opd L x=some (E v)) (ho:OwX e te B G w xs v) (hy:Is L w y (Dv (slE e) (GO G v) ys)) (hb:(xs.length+ys.length) * bz≤140737488355328)
  (h63:xs.length+ys.length≤maxLen)
  (k:∀a' v' w',w.grownBy w' v.ownBlock→(v'.ownBlock=v.ownBlock∨v'.ownBlock=some w.heap.size)→OwX e te B G w' (xs++ys) v'→FrD n ds a' w' ((d,E v')::L)→wpListIn (FW r) 0 P ops Q rest a' w') :
  wpListIn (FW r) 0 P ops Q (⟨some d,.call ⟨.builtin .append,#[x,y],#[t,t]⟩,ty,pos,aft,none⟩::rest) a w:=
 wpListIn_plain rfl fun K hK=>by
  have hxv:a.eval x=v:=hf.opd x _ hx
  obtain⟨C,hy1,hy2⟩:=hy
  have hyv:=hy2 _ _ (Ext.rfl' _) (hf.opd y _ hy1)
  obtain⟨v',w',h1,h2,h3,h4⟩:=uu (P:=P) (ty:=ty) ht hi hsz hz0 ho hyv h63 hb
  refine OpR.wp (R:=fun u w1=>u=v'∧w1=w') ?_ ?_
  ·simp only[OpR,execOp,resolve,invoke,builtin,Sem.run_bind,Sem.run_pure,Result.andThen_ok,List.map_toArray,List.map_cons,List.map_nil,hxv,h1]
   trivial
  ·rintro u w1 ⟨rfl,rfl⟩
   refine hK _ _ (k _ _ _ h3 h4 h2 ?_)
   exact (hf.gro h3).put (d:=some d) (A:=E u) (Ext.rfl' _) (fun k hk=>by cases hk;exact hd) rfl
theorem em {S:Nat→Prop}{F:Value→World→Prop}{id:FuncId}{xs:Array Operand}{tys:Array TypeId}{d:Nat}(hf:FrD n ds a w L)[hL:eH S L](hd:d<n)(he:Proofs.Enters P id)
  (h:Calls P id (xs.map a.eval) w (fun e w'=>∃v,e=.returned v∧Chg S w w'∧F v w'))
  (k:∀a' v w',Chg S w w'→F v w'→FrD n ds a' w' ((d,E v)::L)→wpListIn (FW r) 0 P ops Q rest a' w') :
  wpListIn (FW r) 0 P ops Q (⟨some d,.call ⟨.value (.func id),xs,tys⟩,ty,pos,aft,none⟩::rest) a w:=
 wpListIn_plain rfl fun K hK=>by
  have hfv:a.eval (.func id)=.func (.func id) #[] #[]:=rfl
  have hrun:(execOp a.eval ⟨some d,.call ⟨.value (.func id),xs,tys⟩,ty,pos,aft,none⟩).run P w=.ok (.enter id (xs.map a.eval)) w:=by
   have:=he (xs.map a.eval) w
   simp[execOp,resolve,hfv,Deferred.ofValue,invoke,this]
  refine OpR.wp (R:=fun v w'=>Chg S w w'∧F v w') ?_ ?_
  ·simp only[OpR,hrun]
   exact h
  ·rintro v w' ⟨h1,h3⟩
   exact hK _ _ (k _ _ _ h1 h3 ((hf.ch h1).put (d:=some d) (A:=E v) (Ext.rfl' _) (fun k hk=>by cases hk;exact hd) rfl))
end tail
end Go.Mono
namespace Go.Mono
open Go Go.RowKit
def CdP (p:Bool)(A:VA):VA:=⟨fun v w=>(p=true∧A.p v w)∨(p=false∧v=undef),fun v w w' e h=>h.imp (fun h=>⟨h.1,A.st v w w' e h.2⟩) id⟩
instance (row:Option Nat)(p:Bool)(A:VA)[h:AvR row A]:AvR row (CdP p A):=⟨fun v w w' hg hv=>hv.imp (fun hv=>⟨hv.1,h.av v w w' hg hv.2⟩) id⟩
inductive Opn (p:Bool)(L:Env):Env→Prop
 | n:Opn p L []
 | k (t:Nat) {A:VA} {L':Env} (h:aG L t=some A) (r:Opn p L L'):Opn p L ((t,A)::L')
 | c (t:Nat) {q:Bool} {A:VA} {L':Env} (h:aG L t=some (CdP q A)) (hp:p=true→q=true) (r:Opn p L L'):Opn p L ((t,A)::L')
theorem Opn.get {p:Bool}{L L':Env}(h:Opn p L L'):∀t A,aG L' t=some A→∃B,aG L t=some B∧∀v w,p=true→B.p v w→A.p v w:=by
 induction h with
 | n=>intro t A h;simp[aG] at h
 | k t0 h r ih=>
  intro t A hA
  by_cases ht:t0=t
  ·subst ht;rw[cB] at hA;obtain rfl:=Option.some.inj hA;exact⟨_,h,fun _ _ _ h=>h⟩
  ·rw[cC _ _ ht] at hA;exact ih t A hA
 | c t0 h hp r ih=>
  intro t A hA
  by_cases ht:t0=t
  ·subst ht;rw[cB] at hA;obtain rfl:=Option.some.inj hA
   exact⟨_,h,fun v w hpt hB=>by
    rcases hB with ⟨_,hB⟩|⟨hq,_⟩
    ·exact hB
    ·rw[hp hpt] at hq;cases hq⟩
  ·rw[cC _ _ ht] at hA;exact ih t A hA
section
variable {P:Program}{w0:World}{L L':Env}{ty:TypeId}{pos:String}{aft:Array Edge}{ops:Array Oper}{rest:List Oper}{K:Env→Prop}{A:VA}{op:Op}{dd:Nat}
theorem nH {p:Bool}{a:Act}{w:World}{o:Oper}(hL:Opn p L L')(hp:p=true)(hv:∀x∈o.op.operands,∀B,opd L x=some B→B.p (a.eval x) w):∀x∈o.op.operands,∀B,opd L' x=some B→B.p (a.eval x) w:=by
 intro x hx B hB
 cases x with
 | tmp t=>
  obtain⟨C,h1,h2⟩:=hL.get t B hB
  exact h2 _ _ hp (hv _ hx C h1)
 | const v=>exact hv _ hx B hB
 | global g=>exact hv _ hx B hB
 | func f=>exact hv _ hx B hB
theorem sgE {i d:Nat}{want b:Bool}(hd:(ops[i]?).bind (·.dst)=some d)(hl:aG L d=some (E (.bool b)))(hL:Opn (b==want) L L')
  (h:(b==want)=true→OpC P w0 L' ⟨some dd,op,ty,pos,aft,some (i,want)⟩ A) (k:bT P ops w0 rest K ((dd,CdP (b==want) A)::L)):bT P ops w0 (⟨some dd,op,ty,pos,aft,some (i,want)⟩::rest) K L:=
 ⟨CdP (b==want) A,fun a w he hv hgd=>by
  have h1:a.eval (.tmp d)=.bool b:=hgd d _ (by simp[bM,hd]) hl
  have h2:=iU (ops:=ops) hd h1
  cases hb:b==want with
  | true=>
   obtain rfl:b=want:=by simpa using hb
   simp only[Region.wanted,h2,beq_self_eq_true,if_true]
   exact ((h hb).out _ w he (nH hL hb hv)).mono fun v w' ⟨h1,h2⟩=>⟨h1,.inl ⟨rfl,h2⟩⟩
  | false=>
   have h3:(some b==some want)=false:=by cases b <;> cases want <;> simp_all
   simp only[Region.wanted,h2,h3]
   exact .inr ⟨rfl,rfl⟩,k⟩
theorem sgC {i d:Nat}{q want c:Bool}(hd:(ops[i]?).bind (·.dst)=some d)(hl:aG L d=some (CdP q (E (.bool c))))(hL:Opn (q&&c==want) L L')
  (h:(q&&c==want)=true→OpC P w0 L' ⟨some dd,op,ty,pos,aft,some (i,want)⟩ A) (k:bT P ops w0 rest K ((dd,CdP (q&&c==want) A)::L)):bT P ops w0 (⟨some dd,op,ty,pos,aft,some (i,want)⟩::rest) K L:=
 ⟨CdP (q&&c==want) A,fun a w he hv hgd=>by
  have h1:=hgd d _ (by simp[bM,hd]) hl
  rcases h1 with ⟨hq,h1⟩|⟨hq,h1⟩
  ·have h2:=iU (ops:=ops) hd (show a.eval (.tmp d)=.bool c from h1)
   subst hq
   cases hb:c==want with
   | true=>
    have hb':(true&&c==want)=true:=by rw[hb];rfl
    obtain rfl:c=want:=by simpa using hb
    simp only[Region.wanted,h2,beq_self_eq_true,if_true]
    exact ((h hb').out _ w he (nH hL hb' hv)).mono fun v w' ⟨h1,h2⟩=>⟨h1,.inl ⟨rfl,h2⟩⟩
   | false=>
    have h3:(some c==some want)=false:=by cases c <;> cases want <;> simp_all
    simp only[Region.wanted,h2,h3]
    exact .inr ⟨rfl,rfl⟩
  ·subst hq
   have h2:yielded ops a.tmps i=none:=by
    unfold yielded
    rw[hd]
    simp only[Act.eval] at h1
    cases hh:a.tmps[d]? with
    | none=>simp[hh]
    | some v=>simp[hh] at h1;subst h1;simp[hh,undef]
   simp only[Region.wanted,h2]
   exact .inr ⟨rfl,rfl⟩,k⟩
variable {dst:Option Tmp}{g:Option (Nat×Bool)}
theorem bA {c x:Operand}{b q v:Bool}(hc:opd L c=some (E (.bool b)))(hx:opd L x=some (CdP q (E (.bool v))))(hq:b=true→q=true) :
  OpC P w0 L ⟨dst,.pick c x (.const (.bool false)),ty,pos,aft,g⟩ (E (.bool (b&&v))):=by
 refine aP fun ρ w he hv=>?_
 have h1:=opE hv (x:=c) (by simp[Op.operands]) hc
 have h2:=hv x (by simp[Op.operands]) _ hx
 have h3:ρ (.const (.bool false))=.bool false:=hv (.const (.bool false)) (by simp[Op.operands]) _ rfl
 cases hb:b with
 | false=>subst hb;exact⟨_,by simp[execOp,h1,h3,asBool],rfl⟩
 | true=>
  subst hb
  rcases h2 with ⟨_,h2⟩|⟨h2,_⟩
  ·exact⟨_,by simp[execOp,h1,asBool],h2⟩
  ·rw[hq rfl] at h2;cases h2
theorem bD {c x:Operand}{b q v:Bool}(hc:opd L c=some (E (.bool b)))(hx:opd L x=some (CdP q (E (.bool v))))(hq:b=false→q=true) :
  OpC P w0 L ⟨dst,.pick c (.const (.bool true)) x,ty,pos,aft,g⟩ (E (.bool (b || v))):=by
 refine aP fun ρ w he hv=>?_
 have h1:=opE hv (x:=c) (by simp[Op.operands]) hc
 have h2:=hv x (by simp[Op.operands]) _ hx
 have h3:ρ (.const (.bool true))=.bool true:=hv (.const (.bool true)) (by simp[Op.operands]) _ rfl
 cases hb:b with
 | true=>subst hb;exact⟨_,by simp[execOp,h1,h3,asBool],rfl⟩
 | false=>
  subst hb
  rcases h2 with ⟨_,h2⟩|⟨h2,_⟩
  ·exact⟨_,by simp[execOp,h1,asBool],h2⟩
  ·rw[hq rfl] at h2;cases h2
end
theorem eK {P:Program}{r:Option Nat}{ds:List Deferred}{L:Env}{ops:Array Oper}{rest:List Oper}{Q:Exit→Act→World→Prop}{n:Nat}{a:Act}{w:World}{ty:TypeId}{pos:String}{aft:Array Edge}{α:Type}{e:Enc α}{G:Nat→Prop}{z:α}{t:TypeId}{x:Operand}{d:Nat}
  (hf:FrD n ds a w L) (hx:opd L x=some (Dv e G z)) (hd:d<n) (hG:∀b,G b→b<w.heap.size)
  (k:∀a' w',Ext w w'→FrD n ds a' w' ((d,Dv (ptE e) G (some z))::L)→wpListIn (FW r) 0 P ops Q rest a' w') :
  wpListIn (FW r) 0 P ops Q (⟨some d,.box t x,ty,pos,aft,none⟩::rest) a w:=
 fk hf hx hd fun a' b w' v hv e' hb hs hB hf'=>k a' w' e' (by
  obtain⟨cs,h1,rfl⟩:=hv
  have hPt:(Dv (ptE e) G (some z)).p (.pointer (some ⟨b,0,none⟩)) w':=Dv.pt.2 ⟨_,rfl,fun h=>by have:=hG _ h;simp only at this;omega,by simp only;omega,cs,Enc.ext h1 e',fun i u hu=>by
   rw[Enc.pack_cells h1] at hB
   have:(Addr.mk b 0 none).add i=⟨b,i,none⟩:=by simp[Addr.add];intro h;exact h.symm
   rw[this,hB.cell]
   simpa using hu⟩
  exact hf'.weak fun v hv=>by cases hv;exact hPt)
end Go.Mono
namespace Go.Gr
abbrev VT:=Int×(Int×Int)
abbrev ET:=(Int×Int)×(Int×Int)
abbrev DT:=Int×Int×Int×Int×Int
abbrev GT:=List VT×List ET
def lt2 (p q:Int×Int):Bool:=decide (p.1<q.1∨p.1=q.1∧p.2<q.2)
def lt1 (p q:Int):Bool:=decide (p<q)
def bU {γ:Type}(after:γ→Bool)(x:γ)(l:List γ):List γ:=l.takeWhile (fun y => !after y)++x::l.dropWhile (fun y => !after y)
def insV (l:List VT)(x:VT):List VT:=bU (fun y=>lt1 x.1 y.1) x l
def fU (l:List ET)(x:ET):List ET:=bU (fun y=>lt2 x.1 y.1) x l
def putL {α β:Type}[DecidableEq α](lt:α→α→Bool)(l:List (α×β))(k:α)(c:β):List (α×β):=
 if l.any (fun y=>decide (y.1=k)) then l.map (fun y=>if y.1=k then (k,c) else y) else bU (fun y=>lt k y.1) (k,c) l
def pairs (op:Int):Bool:=op==2 || op==3 || op==6 || op==7
def weighs (op:Int):Bool:=op==0 || op==2 || op==5 || op==7
def dp (n:Int):Bool:=decide (0≤n)&&decide (n<1024)
def heavy (n:Int):Bool:=decide (n < -1048576) || decide (1048576<n)
def inV (l:List VT)(n:Int):Bool:=l.any fun y=>decide (y.1=n)
def ends (u v:Int):Int×Int:=(min u v,max u v)
def inE (l:List ET)(u v:Int):Bool:=l.any fun y=>decide (y.1=ends u v)
def tests (g:GT)(d:DT):List (Bool×Int):=
 let (op,u,v,_,x):=d
 [(decide (op<0) || decide (8≤op),11),
  ((!dp u) || (pairs op && !dp v) || (weighs op&&heavy x),2),
  (pairs op&&u==v,15),
  (op==0&&inV g.1 u,7),
  ((op != 0 && !pairs op && !inV g.1 u) || (op==2 && !(inV g.1 u&&inV g.1 v)),9),
  (pairs op&&op != 2 && !inE g.2 u v,9),
  (op==2&&inE g.2 u v,7),
  (op==2&&decide ((1024:Int)≤(g.2.length:Nat)),8)]
def eL:List (Bool×Int)→Int
 | []=>0
 | (b,c)::r=>if b then c else eL r
def bK (g:GT)(d:DT):Int:=eL (tests g d)
def doM (g:GT)(d:DT):GT:=
 if d.1=0 then (putL lt1 g.1 d.2.1 d.2.2.2,g.2) else if d.1=2 then (g.1,putL lt2 g.2 (ends d.2.1 d.2.2.1) d.2.2.2) else g
structure Ok (g:GT):Prop where
 sv:g.1.Pairwise fun a b=>lt1 a.1 b.1=true
 se:g.2.Pairwise fun a b=>lt2 a.1 b.1=true
 rv:∀x∈g.1,dp x.1=true∧(0≤x.2.1∧x.2.1<256)∧heavy x.2.2=false
 re:∀x∈g.2,x.1.1<x.1.2∧inV g.1 x.1.1=true∧inV g.1 x.1.2=true∧(0≤x.2.1∧x.2.1<256)∧heavy x.2.2=false
 ne:g.2.length≤1024
theorem nI {γ:Type}(after:γ→Bool)(x:γ)(l:List γ)(h:∀y∈l,after y=false):bU after x l=l++[x]:=by
 unfold bU
 induction l with
 | nil=>rfl
 | cons y r ih=>
  have hy:=h y (by simp)
  simp only[List.takeWhile_cons,List.dropWhile_cons,hy,Bool.not_false,if_true,List.cons_append]
  rw[ih fun z hz=>h z (by simp[hz])]
theorem nJ {α β:Type}[DecidableEq α](lt:α→α→Bool)(l:List (α×β))(k:α)(c:β)(h:∀y∈l,y.1≠k∧lt k y.1=false):putL lt l k c=l++[(k,c)]:=by
 unfold putL
 rw[if_neg]
 ·exact nI _ _ _ fun y hy=>(h y hy).2
 ·simp only[List.any_eq_true,decide_eq_true_eq,not_exists,not_and]
  exact fun y hy=>(h y hy).1
theorem uv (a:Int×Int):lt2 a a=false:=by simp[lt2]
theorem gV {a b:Int×Int}(h:lt2 a b=true):lt2 b a=false∧a≠b:=by
 obtain⟨a1,a2⟩:=a;obtain⟨b1,b2⟩:=b
 simp only[lt2,decide_eq_true_eq,decide_eq_false_iff_not] at *
 exact⟨by omega,fun h'=>by simp only[Prod.mk.injEq] at h';omega⟩
theorem nK {a b c:Int×Int}(h:lt2 a b=true)(k:lt2 b c=true):lt2 a c=true:=by
 simp only[lt2,decide_eq_true_eq] at *;omega
theorem uw {a b:Int×Int}(h:lt2 a b=false)(k:a≠b):lt2 b a=true:=by
 obtain⟨a1,a2⟩:=a;obtain⟨b1,b2⟩:=b
 simp only[lt2,decide_eq_true_eq,decide_eq_false_iff_not,ne_eq,Prod.mk.injEq] at *;omega
theorem gW {a b:Int}(h:lt1 a b=true):lt1 b a=false∧a≠b:=by
 simp only[lt1,decide_eq_true_eq,decide_eq_false_iff_not] at *;omega
theorem nL {a b c:Int}(h:lt1 a b=true)(k:lt1 b c=true):lt1 a c=true:=by
 simp only[lt1,decide_eq_true_eq] at *;omega
theorem ux {a b:Int}(h:lt1 a b=false)(k:a≠b):lt1 b a=true:=by
 simp only[lt1,decide_eq_true_eq,decide_eq_false_iff_not] at *;omega
def dV (x:VT):DT:=(0,x.1,0,x.2)
def dE (x:ET):DT:=(2,x.1.1,x.1.2,x.2)
theorem before {γ:Type}{R:γ→γ→Prop}{l:List γ}(h:l.Pairwise R){i:Nat}{x:γ}(hx:l[i]?=some x):∀y∈l.take i,R y x:=by
 intro y hy
 obtain⟨j,hj,rfl⟩:=List.getElem_of_mem hy
 obtain⟨hi,rfl⟩:=List.getElem?_eq_some_iff.1 hx
 simp only[List.length_take] at hj
 rw[List.getElem_take]
 exact List.pairwise_iff_getElem.1 h _ _ (by omega) hi (by omega)
theorem eo {γ:Type}{l:List γ}{i:Nat}{x:γ}(hx:l[i]?=some x):l.take (i+1)=l.take i++[x]:=by
 rw[List.take_add_one,hx];rfl
theorem nM {u v:Int}(h:u<v):ends u v=(u,v):=by
 simp only[ends,Prod.mk.injEq];omega
theorem stepV {g:GT}(G:Ok g){i:Nat}{x:VT}(hx:g.1[i]?=some x):bK (g.1.take i,[]) (dV x)=0∧doM (g.1.take i,[]) (dV x)=(g.1.take (i+1),[]):=by
 have hb:=before G.sv hx
 obtain⟨h1,h2,h3⟩:=G.rv x (List.mem_of_getElem? hx)
 have hin:inV (g.1.take i) x.1=false:=by
  simp only[inV,List.any_eq_false,decide_eq_true_eq]
  exact fun y hy=>(gW (hb y hy)).2
 constructor
 ·simp[bK,tests,dV,eL,pairs,weighs,h1,h3,hin]
 ·simp only[doM,dV,if_true]
  rw[nJ _ _ _ _ fun y hy=>⟨(gW (hb y hy)).2,(gW (hb y hy)).1⟩,eo hx]
theorem uy {g:GT}(G:Ok g){i:Nat}{x:ET}(hx:g.2[i]?=some x):bK (g.1,g.2.take i) (dE x)=0∧doM (g.1,g.2.take i) (dE x)=(g.1,g.2.take (i+1)):=by
 have hb:=before G.se hx
 obtain⟨h1,h2,h3,h4,h5⟩:=G.re x (List.mem_of_getElem? hx)
 have hid:∀n,inV g.1 n=true→dp n=true:=fun n hn=>by
  simp only[inV,List.any_eq_true,decide_eq_true_eq] at hn
  obtain⟨y,hy,rfl⟩:=hn
  exact (G.rv y hy).1
 have he:ends x.1.1 x.1.2=x.1:=nM h1
 have hin:inE (g.2.take i) x.1.1 x.1.2=false:=by
  simp only[inE,he,List.any_eq_false,decide_eq_true_eq]
  exact fun y hy=>(gV (hb y hy)).2
 have hil:i<g.2.length:=(List.getElem?_eq_some_iff.1 hx).1
 have hn:=G.ne
 have h6:¬(x.1.1=x.1.2):=by omega
 have h7:¬((1024:Int)≤((g.2.take i).length:Nat)):=by simp only[List.length_take];omega
 constructor
 ·simp only[bK,tests,dE,eL,pairs,weighs,hid _ h2,hid _ h3,h5,h2,h3,hin,h6,h7]
  simp[h6]
 ·simp only[doM,dE]
  rw[if_neg (by decide),if_pos trivial,he,nJ _ _ _ _ fun y hy=>⟨(gV (hb y hy)).2,(gV (hb y hy)).1⟩,eo hx]
end Go.Gr
namespace Go.Gr
section
variable {γ:Type}(after:γ→Bool)(x:γ)(l:List γ)
def dF (k:Nat):List γ:=if (l.take k).any after then bU after x (l.take k) else l.take k
theorem uz {m:List γ}(h:m.any after=true)(r:List γ):bU after x (m++r)=bU after x m++r:=by
 induction m with
 | nil=>simp at h
 | cons y m ih=>
  unfold bU
  by_cases hy:after y=true
  ·simp[List.takeWhile_cons,List.dropWhile_cons,hy]
  ·have hy':after y=false:=by simpa using hy
   have h':m.any after=true:=by simpa[hy'] using h
   have:=ih h'
   unfold bU at this
   simp only[List.cons_append,List.takeWhile_cons,List.dropWhile_cons,hy',Bool.not_false,if_true]
   rw[this]
theorem nN {k:Nat}{y:γ}(h:l[k]?=some y):dF after x l (k+1)=(if (!(l.take k).any after&&after y)=true then dF after x l k++[x] else dF after x l k)++[y]:=by
 unfold dF
 rw[eo h,List.any_append]
 cases h1:(l.take k).any after with
 | true=>simp[uz after x h1]
 | false=>
  cases h2:after y with
  | true=>
   simp only[List.any_cons,List.any_nil,h2,Bool.or_false,Bool.or_true,if_true,Bool.not_false,Bool.and_self,Bool.false_eq_true,if_false]
   have hn:∀z∈l.take k,after z=false:=by simpa using h1
   have e1:(l.take k++[y]).takeWhile (fun y => !after y)=l.take k:=by
    rw[List.takeWhile_append_of_pos (fun z hz=>by simp[hn z hz])];simp[h2]
   have e2:(l.take k++[y]).dropWhile (fun y => !after y)=[y]:=by
    rw[List.dropWhile_append_of_pos (fun z hz=>by simp[hn z hz])];simp[h2]
   rw[bU,e1,e2];simp
  | false=>simp[h2]
theorem any_succ {k:Nat}{y:γ}(h:l[k]?=some y):(l.take (k+1)).any after=((l.take k).any after || after y):=by
 rw[eo h,List.any_append];simp
theorem nO:(if l.any after then dF after x l l.length else dF after x l l.length++[x])=bU after x l:=by
 unfold dF
 rw[List.take_length]
 cases h:l.any after with
 | true=>simp
 | false=>simp only[Bool.false_eq_true,if_false];rw[nI after x l (by simpa using h)]
theorem nP (k:Nat):(dF after x l k).length≤l.length+1:=by
 unfold dF bU
 split
 ·have:=congrArg List.length (List.takeWhile_append_dropWhile (p:=fun y => !after y) (l:=l.take k))
  simp only[List.length_append,List.length_cons,List.length_take] at *
  omega
 ·simp only[List.length_take];omega
end
end Go.Gr
namespace Go.Gr
def keepV (d:DT)(x:VT):Option VT:=if (x.1==d.2.1&&d.1==1)=true then none else some (x.1,(if (x.1==d.2.1&&d.1==4)=true then d.2.2.2.1 else x.2.1),(if (x.1==d.2.1&&d.1==5)=true then d.2.2.2.2 else x.2.2))
def dq (d:DT)(at':Int)(i:Nat)(x:ET):Option ET:=
 if ((d.1==1&&(x.1.1==d.2.1 || x.1.2==d.2.1)) || (d.1==3&&(i:Int)==at'))=true then none else some (x.1,(if ((i:Int)==at'&&d.1==6)=true then d.2.2.2.1 else x.2.1),(if ((i:Int)==at'&&d.1==7)=true then d.2.2.2.2 else x.2.2))
def bR (d:DT)(at':Int):Nat→List ET→List ET
 | _,[]=>[]
 | i,x::r=>(dq d at' i x).toList++bR d at' (i+1) r
theorem nQ (d:DT)(at':Int):∀(i:Nat) (l m:List ET),bR d at' i (l++m)=bR d at' i l++bR d at' (i+l.length) m
 | i,[],m=>by simp[bR]
 | i,x::r,m=>by rw[List.cons_append,bR,nQ d at' (i+1) r m,bR,List.append_assoc,List.length_cons];congr 3;omega
theorem uA (d:DT)(at':Int){l:List ET}{k:Nat}{x:ET}(h:l[k]?=some x):bR d at' 0 (l.take (k+1))=bR d at' 0 (l.take k)++(dq d at' k x).toList:=by
 rw[eo h,nQ]
 have:0+(l.take k).length=k:=by have:=(List.getElem?_eq_some_iff.1 h).1;simp;omega
 rw[this,bR,bR,List.append_nil]
theorem iZ (d:DT)(at':Int):∀(i:Nat) (l:List ET),(bR d at' i l).length≤l.length
 | _,[]=>Nat.le_refl _
 | i,x::r=>by
  have:=iZ d at' (i+1) r
  have h2:(dq d at' i x).toList.length≤1:=by cases dq d at' i x <;> simp
  rw[bR,List.length_append,List.length_cons];omega
theorem uB (d:DT){l:List VT}{k:Nat}{x:VT}(h:l[k]?=some x):(l.take (k+1)).filterMap (keepV d)=(l.take k).filterMap (keepV d)++(keepV d x).toList:=by
 rw[eo h,List.filterMap_append];cases h:keepV d x <;> simp[h]
end Go.Gr
namespace Go.Gr
theorem kQ {γ:Type}{lt:γ→γ→Bool}:∀{xs l:List γ},xs.Perm l→l.Pairwise (fun x y=>lt x y=true)→xs.Pairwise (fun x y=>lt y x=false)→xs=l
 | [],l,hp,_,_=>hp.symm.eq_nil.symm▸rfl
 | x::r,[],hp,_,_=>absurd hp.eq_nil (by simp)
 | x::r,y::s,hp,hl,hx=>by
  obtain⟨l1,l2⟩:=List.pairwise_cons.1 hl
  obtain⟨x1,x2⟩:=List.pairwise_cons.1 hx
  have hxy:x=y:=by
   have hy:y∈x::r:=hp.mem_iff.2 (by simp)
   have hx':x∈y::s:=hp.mem_iff.1 (by simp)
   rcases List.mem_cons.1 hy with h|h
   ·exact h.symm
   ·rcases List.mem_cons.1 hx' with h'|h'
    ·exact h'
    ·have h2:=l1 x h'
     have h3:=x1 y h
     rw[h2] at h3;cases h3
  subst hxy
  rw[kQ ((List.perm_cons x).1 hp) l2 x2]
end Go.Gr
namespace Go.Mono
open Go Go.RowKit Go.Gr
def u8E:Enc Int:=gQ 1 false (fun n=>[.int .u8 n]) (by decide) (fun _=>rfl) (fun _=>rfl) (fun x u hu=>by simp at hu;subst hu;rfl)
instance:FlE u8E:=⟨fun h=>h⟩
def thE:Enc (Int×Int):=prE u8E intE
def vtE:Enc VT:=prE intE thE
def edE:Enc (Int×Int):=prE intE intE
def etE:Enc ET:=prE edE thE
def dtE:Enc DT:=prE intE (prE intE (prE intE thE))
def gtE:Enc GT:=prE (slE vtE) (slE etE)
instance:FlE thE:=inferInstanceAs (FlE (prE u8E intE))
instance:FlE vtE:=inferInstanceAs (FlE (prE intE thE))
instance:FlE edE:=inferInstanceAs (FlE (prE intE intE))
instance:FlE etE:=inferInstanceAs (FlE (prE edE thE))
instance:FlE dtE:=inferInstanceAs (FlE (prE intE (prE intE (prE intE thE))))
def vtV (x:VT):Value:=.agg #[.int .i64 x.1,.int .u8 x.2.1,.int .i64 x.2.2]
def etV (x:ET):Value:=.agg #[.int .i64 x.1.1,.int .i64 x.1.2,.int .u8 x.2.1,.int .i64 x.2.2]
def dtV (x:DT):Value:=.agg #[.int .i64 x.1,.int .i64 x.2.1,.int .i64 x.2.2.1,.int .u8 x.2.2.2.1,.int .i64 x.2.2.2.2]
section
variable {G:Nat→Prop}{v:Value}{w:World}
theorem Dv.u8 {n:Int}:(Dv u8E G n).p v w↔v=.int .u8 n:=⟨fun⟨cs,h,hv⟩=>by cases h;exact hv,fun h=>⟨_,rfl,h⟩⟩
theorem Dv.vt {x:VT}:(Dv vtE G x).p v w↔v=vtV x:=
 ⟨fun⟨cs,⟨c,d,h,h1,c2,d2,h2,h3,h4⟩,hv⟩=>by cases h1;cases h3;cases h4;subst h2;subst h;exact hv,fun h=>⟨_,⟨_,_,rfl,rfl,_,_,rfl,rfl,rfl⟩,h⟩⟩
theorem Dv.et {x:ET}:(Dv etE G x).p v w↔v=etV x:=
 ⟨fun⟨cs,⟨c,d,h,⟨c1,d1,h1,h1a,h1b⟩,c2,d2,h2,h3,h4⟩,hv⟩=>by cases h1a;cases h1b;cases h3;cases h4;subst h1;subst h2;subst h;exact hv,fun h=>⟨_,⟨_,_,rfl,⟨_,_,rfl,rfl,rfl⟩,_,_,rfl,rfl,rfl⟩,h⟩⟩
theorem Dv.dt {x:DT}:(Dv dtE G x).p v w↔v=dtV x:=
 ⟨fun⟨cs,⟨c,d,h,h1,c2,d2,h2,h3,c3,d3,h4,h5,c4,d4,h6,h7,h8⟩,hv⟩=>by cases h1;cases h3;cases h5;cases h7;cases h8;subst h6;subst h4;subst h2;subst h;exact hv,fun h=>⟨_,⟨_,_,rfl,rfl,_,_,rfl,rfl,_,_,rfl,rfl,_,_,rfl,rfl,rfl⟩,h⟩⟩
theorem Dv.gt {g:GT}:(Dv gtE G g).p v w↔∃u1 u2,v=.agg #[u1,u2]∧(Dv (slE vtE) G g.1).p u1 w∧(Dv (slE etE) G g.2).p u2 w:=by
 constructor
 ·rintro⟨cs,⟨c,d,h,h1,h2⟩,hv⟩
  have l1:=(slE vtE).len h1
  have l2:=(slE etE).len h2
  match c,l1,d,l2 with
  | [u1],_,[u2],_=>exact⟨u1,u2,by subst h;exact hv,⟨_,h1,rfl⟩,⟨_,h2,rfl⟩⟩
 ·rintro⟨u1,u2,rfl,h1,h2⟩
  exact⟨[u1,u2],⟨[u1],[u2],rfl,Dv.r1 rfl h1,Dv.r1 rfl h2⟩,rfl⟩
end
section
variable {P:Program}{w0:World}{L:Env}{dst:Option Tmp}{ty:TypeId}{pos:String}{aft:Array Edge}{g:Option (Nat×Bool)}{t:TypeId}{G:Nat→Prop}{x:Operand}
theorem ldU {n:Int}(ht:TI P t false 1)(hx:Is L w0 x (Dv (ptE u8E) G (some n))):OpC P w0 L ⟨dst,.load t x,ty,pos,aft,g⟩ (E (.int .u8 n)):=(ldD (e:=u8E) ht hx).conv fun v w=>Dv.u8.1
theorem fV {n:VT}(ht:TI P t true 3)(hx:Is L w0 x (Dv (ptE vtE) G (some n))):OpC P w0 L ⟨dst,.load t x,ty,pos,aft,g⟩ (E (vtV n)):=(ldD (e:=vtE) ht hx).conv fun v w=>Dv.vt.1
theorem ft {n:ET}(ht:TI P t true 4)(hx:Is L w0 x (Dv (ptE etE) G (some n))):OpC P w0 L ⟨dst,.load t x,ty,pos,aft,g⟩ (E (etV n)):=(ldD (e:=etE) ht hx).conv fun v w=>Dv.et.1
theorem jb {n:DT}(ht:TI P t true 5)(hx:Is L w0 x (Dv (ptE dtE) G (some n))):OpC P w0 L ⟨dst,.load t x,ty,pos,aft,g⟩ (E (dtV n)):=(ldD (e:=dtE) ht hx).conv fun v w=>Dv.dt.1
theorem eM {n:VT}(h:opd L x=some (E (vtV n))):Is L w0 x (Dv vtE G n):=isE h (Dv.vt.2 rfl)
theorem dr {n:ET}(h:opd L x=some (E (etV n))):Is L w0 x (Dv etE G n):=isE h (Dv.et.2 rfl)
theorem bB {fs:Array (Nat×Operand)}(vs:List (Nat×Value)){cs:Array Value}(hv:fs.toList.map (fun p=>(p.1,opd L p.2))=vs.map (fun p=>(p.1,some (E p.2))))(hb:P.built t vs=some cs) :
  OpC P w0 L ⟨dst,.build t fs,ty,pos,aft,g⟩ (E (.agg cs)):=
 aP fun ρ w _ h=>by
  have key:∀(l:List (Nat×Operand)) (us:List (Nat×Value)),(∀p∈l,p∈fs)→l.map (fun p=>(p.1,opd L p.2))=us.map (fun p=>(p.1,some (E p.2)))→l.map (fun p=>(p.1,ρ p.2))=us:=by
   intro l
   induction l with
   | nil=>intro us _ hu;cases us with
    | nil=>rfl
    | cons _ _=>simp at hu
   | cons p r ih=>
    intro us hm hu
    cases us with
    | nil=>simp at hu
    | cons q us=>
     simp only[List.map_cons,List.cons.injEq,Prod.mk.injEq] at hu
     obtain⟨⟨h1,h2⟩,h3⟩:=hu
     have hp:p.2∈(Op.build t fs).operands:=by simp only[Op.operands,List.mem_toArray,List.mem_map];exact⟨p,by simpa using hm p (by simp),rfl⟩
     have h4:ρ p.2=q.2:=h p.2 hp _ h2
     rw[List.map_cons,ih us (fun z hz=>hm z (by simp[hz])) h3,h1,h4]
  have hk:(fs.map fun p=>(p.1,ρ p.2)).toList=vs:=by rw[Array.toList_map];exact key fs.toList vs (fun p hp=>by simpa using hp) hv
  exact⟨_,by simp only[execOp,Sem.run_bind,run_build w t _ cs (by rw[hk];exact hb),Result.andThen_ok,Sem.run_pure],rfl⟩
variable {i0 i1 i2 i3 i4:Operand}
theorem nR (x:VT)(hb:P.built t [(0,.int .i64 x.1),(1,.int .u8 x.2.1),(2,.int .i64 x.2.2)]=some #[.int .i64 x.1,.int .u8 x.2.1,.int .i64 x.2.2])(h0:opd L i0=some (E (.int .i64 x.1)))(h1:opd L i1=some (E (.int .u8 x.2.1)))(h2:opd L i2=some (E (.int .i64 x.2.2))) :
  OpC P w0 L ⟨dst,.build t #[(0,i0),(1,i1),(2,i2)],ty,pos,aft,g⟩ (E (vtV x)):=bB _ (by simp only[List.map_cons,List.map_nil,h0,h1,h2]) hb
theorem nS (x:ET)(hb:P.built t [(0,.int .i64 x.1.1),(1,.int .i64 x.1.2),(2,.int .u8 x.2.1),(3,.int .i64 x.2.2)]=some #[.int .i64 x.1.1,.int .i64 x.1.2,.int .u8 x.2.1,.int .i64 x.2.2])(h0:opd L i0=some (E (.int .i64 x.1.1)))(h1:opd L i1=some (E (.int .i64 x.1.2)))(h2:opd L i2=some (E (.int .u8 x.2.1)))(h3:opd L i3=some (E (.int .i64 x.2.2))) :
  OpC P w0 L ⟨dst,.build t #[(0,i0),(1,i1),(2,i2),(3,i3)],ty,pos,aft,g⟩ (E (etV x)):=bB _ (by simp only[List.map_cons,List.map_nil,h0,h1,h2,h3]) hb
theorem nT (x:DT)(hx:x.2.2.1=0)(hb:P.built t [(0,.int .i64 x.1),(1,.int .i64 x.2.1),(3,.int .u8 x.2.2.2.1),(4,.int .i64 x.2.2.2.2)]=some #[.int .i64 x.1,.int .i64 x.2.1,.int .i64 0,.int .u8 x.2.2.2.1,.int .i64 x.2.2.2.2])(h0:opd L i0=some (E (.int .i64 x.1)))(h1:opd L i1=some (E (.int .i64 x.2.1)))(h2:opd L i2=some (E (.int .u8 x.2.2.2.1)))(h3:opd L i3=some (E (.int .i64 x.2.2.2.2))) :
  OpC P w0 L ⟨dst,.build t #[(0,i0),(1,i1),(3,i2),(4,i3)],ty,pos,aft,g⟩ (E (dtV x)):=by
 have:dtV x=.agg #[.int .i64 x.1,.int .i64 x.2.1,.int .i64 0,.int .u8 x.2.2.2.1,.int .i64 x.2.2.2.2]:=by rw[dtV,hx]
 rw[this]
 exact bB _ (by simp only[List.map_cons,List.map_nil,h0,h1,h2,h3]) hb
theorem nU (x:DT)(hb:P.built t [(0,.int .i64 x.1),(1,.int .i64 x.2.1),(2,.int .i64 x.2.2.1),(3,.int .u8 x.2.2.2.1),(4,.int .i64 x.2.2.2.2)]=some #[.int .i64 x.1,.int .i64 x.2.1,.int .i64 x.2.2.1,.int .u8 x.2.2.2.1,.int .i64 x.2.2.2.2])(h0:opd L i0=some (E (.int .i64 x.1)))(h1:opd L i1=some (E (.int .i64 x.2.1)))(h2:opd L i2=some (E (.int .i64 x.2.2.1)))(h3:opd L i3=some (E (.int .u8 x.2.2.2.1)))(h4:opd L i4=some (E (.int .i64 x.2.2.2.2))) :
  OpC P w0 L ⟨dst,.build t #[(0,i0),(1,i1),(2,i2),(3,i3),(4,i4)],ty,pos,aft,g⟩ (E (dtV x)):=bB _ (by simp only[List.map_cons,List.map_nil,h0,h1,h2,h3,h4]) hb
end
theorem OwR.neLt {α:Type}{e:Enc α}{ty:TypeId}{B:Nat}{G:Nat→Prop}{w:World}{xs:List α}{v:Value}(h:OwR e ty B G w xs v){b:Nat}(hb:b<B):v.ownBlock≠some b:=fun hv=>by
 have:=(h.lt hv).1;omega
theorem FrD.opn {n:Nat}{ds:List Deferred}{a:Act}{w:World}{L:Env}{A:VA}(h:FrD n ds a w L)(k:Nat)(hk:aG L k=some A):∃v,A.p v w∧FrD n ds a w ((k,E v)::L):=
 ⟨a.eval (.tmp k),h.val k A hk,⟨h.size,h.defers,fun t B ht=>by
  by_cases hkt:k=t
  ·subst hkt;rw[cB] at ht;obtain rfl:=Option.some.inj ht;rfl
  ·rw[cC _ _ hkt] at ht;exact h.val t B ht⟩⟩
theorem Dv.grN {α:Type}{e:Enc α}{G:Nat→Prop}{x:α}{v:Value}{w w':World}{row:Option Nat}(h:(Dv e G x).p v w)(hg:w.grownBy w' row)(hG:∀b,row=some b→G b):(Dv e G x).p v w':=by
 obtain⟨cs,h1,h2⟩:=h
 exact⟨cs,Enc.gro h1 hg hG,h2⟩
theorem OwR.low {α:Type}{e:Enc α}{ty:TypeId}{B B':Nat}{G:Nat→Prop}{w:World}{xs:List α}{v:Value}(h:OwR e ty B G w xs v)(hB:B'≤B)(hG:∀b,G b→b<B'):OwR e ty B' G w xs v:=by
 obtain⟨⟨cs,⟨h1,h2⟩,h3⟩,h4,h5⟩:=h
 refine⟨⟨cs,⟨h1,?_⟩,h3⟩,hG,Nat.le_trans hB h5⟩
 rcases h2 with h2|⟨g,cap,cur,k1,k2,k3⟩
 ·exact .inl h2
 ·exact .inr ⟨g,cap,cur,k1,Nat.le_trans hB k2,k3⟩
end Go.Mono
namespace Go.Mono
open Go Go.Proofs
abbrev If (t:TypeId)(z:Value)(s b:Nat):Prop:=(Tryz.prog.info? t).map (fun i=>(i.zero,i.size,i.bytes))=some (some z,s,b)
abbrev Nn (f:FuncId):Prop:=Proofs.Enters Tryz.prog f
theorem Ee {i:FuncId} {f:Func} {c:Code} (h:Tryz.prog.funcs[i]?=some f) (h2:(f.name == "runtime.NumGoroutine")=false:=by kernel_rfl) (h3:f.body=some c:=by rfl):Nn i:=enters_of h h2 h3
theorem Mix.mix:Tryz.prog.follows .mixedOrders=true:=by kernel_rfl
theorem T3:TI Tryz.prog 3 false 1:=ti (by decide +kernel)
theorem I3:If 3 (.int .i64 0) 1 8:=by unfold If;kernel_rfl
theorem T4:TI Tryz.prog 4 false 1:=ti (by decide +kernel)
theorem I4:If 4 (.bool false) 1 1:=by unfold If;kernel_rfl
theorem T5:TI Tryz.prog 5 false 1:=ti (by decide +kernel)
theorem T22:TI Tryz.prog 22 false 1:=ti (by decide +kernel)
theorem T23:TI Tryz.prog 23 false 1:=ti (by decide +kernel)
theorem T25:TI Tryz.prog 25 true 2:=ti (by decide +kernel)
theorem I25:If 25 (.agg #[.slice none 0 0,.slice none 0 0]) 2 48:=by unfold If;kernel_rfl
theorem T26:TI Tryz.prog 26 false 1:=ti (by decide +kernel)
theorem I26:If 26 (.pointer none) 1 8:=by unfold If;kernel_rfl
theorem T29:TI Tryz.prog 29 false 1:=ti (by decide +kernel)
theorem T35:TI Tryz.prog 35 false 1:=ti (by decide +kernel)
theorem I35:If 35 (.slice none 0 0) 1 24:=by unfold If;kernel_rfl
theorem T39:TI Tryz.prog 39 false 1:=ti (by decide +kernel)
theorem I39:If 39 (.slice none 0 0) 1 24:=by unfold If;kernel_rfl
theorem T43:TI Tryz.prog 43 false 1:=ti (by decide +kernel)
theorem I43:If 43 (.map none) 1 8:=by unfold If;kernel_rfl
theorem T45:TI Tryz.prog 45 true 3:=ti (by decide +kernel)
theorem I45:If 45 (.agg #[.int .i64 0,.int .u8 0,.int .i64 0]) 3 24:=by unfold If;kernel_rfl
theorem T51:TI Tryz.prog 51 true 4:=ti (by decide +kernel)
theorem I51:If 51 (.agg #[.int .i64 0,.int .i64 0,.int .u8 0,.int .i64 0]) 4 32:=by unfold If;kernel_rfl
theorem T60:TI Tryz.prog 60 true 2:=ti (by decide +kernel)
theorem I60:If 60 (.agg #[.int .i64 0,.int .i64 0]) 2 16:=by unfold If;kernel_rfl
theorem T62:TI Tryz.prog 62 true 4:=ti (by decide +kernel)
theorem I62:If 62 (.agg #[.int .i64 0,.int .i64 0,.int .u8 0,.int .i64 0]) 4 32:=by unfold If;kernel_rfl
theorem T63:TI Tryz.prog 63 false 1:=ti (by decide +kernel)
theorem T73:TI Tryz.prog 73 true 3:=ti (by decide +kernel)
theorem I73:If 73 (.agg #[.int .i64 0,.int .u8 0,.int .i64 0]) 3 24:=by unfold If;kernel_rfl
theorem T74:TI Tryz.prog 74 false 1:=ti (by decide +kernel)
theorem T76:TI Tryz.prog 76 true 16:=ti (by decide +kernel)
theorem I76:If 76 (.agg #[.int .u64 0,.int .u64 0,.int .u64 0,.int .u64 0,.int .u64 0,.int .u64 0,.int .u64 0,.int .u64 0,.int .u64 0,.int .u64 0,.int .u64 0,.int .u64 0,.int .u64 0,.int .u64 0,.int .u64 0,.int .u64 0]) 16 128:=by unfold If;kernel_rfl
theorem T77:TI Tryz.prog 77 false 1:=ti (by decide +kernel)
theorem T79:TI Tryz.prog 79 true 17:=ti (by decide +kernel)
theorem I79:If 79 (.agg #[.int .u64 0,.int .u64 0,.int .u64 0,.int .u64 0,.int .u64 0,.int .u64 0,.int .u64 0,.int .u64 0,.int .u64 0,.int .u64 0,.int .u64 0,.int .u64 0,.int .u64 0,.int .u64 0,.int .u64 0,.int .u64 0,.map none]) 17 136:=by unfold If;kernel_rfl
theorem T83:TI Tryz.prog 83 false 1:=ti (by decide +kernel)
theorem I83:If 83 (.slice none 0 0) 1 24:=by unfold If;kernel_rfl
theorem T95:TI Tryz.prog 95 false 1:=ti (by decide +kernel)
theorem I95:If 95 (.nilFunc) 1 8:=by unfold If;kernel_rfl
theorem kR:TI Tryz.prog 100 false 1:=ti (by decide +kernel)
theorem uC:If 100 (.nilFunc) 1 8:=by unfold If;kernel_rfl
theorem uD:TI Tryz.prog 119 false 1:=ti (by decide +kernel)
theorem uE:If 119 (.pointer none) 1 8:=by unfold If;kernel_rfl
theorem kS:TI Tryz.prog 126 true 5:=ti (by decide +kernel)
theorem cJ:TI Tryz.prog 127 false 1:=ti (by decide +kernel)
theorem cK:TI Tryz.prog 128 false 1:=ti (by decide +kernel)
theorem cU:TI Tryz.prog 132 true 2:=ti (by decide +kernel)
theorem cL:If 132 (.agg #[.int .u8 0,.int .i64 0]) 2 16:=by unfold If;kernel_rfl
theorem gX:TI Tryz.prog 139 true 2:=ti (by decide +kernel)
theorem kT:If 139 (.agg #[.int .i64 0,.int .i64 0]) 2 16:=by unfold If;kernel_rfl
theorem fW:TI Tryz.prog 143 true 5:=ti (by decide +kernel)
theorem nW:TI Tryz.prog 160 false 1:=ti (by decide +kernel)
theorem nX:TI Tryz.prog 161 true 8:=ti (by decide +kernel)
theorem uF:If 161 (.agg #[.nilFunc,.nilFunc,.nilFunc,.nilFunc,.nilFunc,.nilFunc,.nilFunc,.nilFunc]) 8 64:=by unfold If;kernel_rfl
theorem nY:TI Tryz.prog 187 true 2:=ti (by decide +kernel)
theorem oa:If 187 (.agg #[.nilFunc,.int .i64 0]) 2 16:=by unfold If;kernel_rfl
theorem S3:(Tryz.prog.info? 3).map (·.size)=some 1:=by kernel_rfl
theorem S4:(Tryz.prog.info? 4).map (·.size)=some 1:=by kernel_rfl
theorem S5:(Tryz.prog.info? 5).map (·.size)=some 1:=by kernel_rfl
theorem S9:(Tryz.prog.info? 9).map (·.size)=some 1:=by kernel_rfl
theorem S26:(Tryz.prog.info? 26).map (·.size)=some 1:=by kernel_rfl
theorem S35:(Tryz.prog.info? 35).map (·.size)=some 1:=by kernel_rfl
theorem S45:(Tryz.prog.info? 45).map (·.size)=some 3:=by kernel_rfl
theorem S51:(Tryz.prog.info? 51).map (·.size)=some 4:=by kernel_rfl
theorem S60:(Tryz.prog.info? 60).map (·.size)=some 2:=by kernel_rfl
theorem S62:(Tryz.prog.info? 62).map (·.size)=some 4:=by kernel_rfl
theorem S73:(Tryz.prog.info? 73).map (·.size)=some 3:=by kernel_rfl
theorem S76:(Tryz.prog.info? 76).map (·.size)=some 16:=by kernel_rfl
theorem uG:(Tryz.prog.info? 187).map (·.size)=some 2:=by kernel_rfl
theorem uH:Tryz.prog.built 76 []=some (#[.int .u64 0,.int .u64 0,.int .u64 0,.int .u64 0,.int .u64 0,.int .u64 0,.int .u64 0,.int .u64 0,.int .u64 0,.int .u64 0,.int .u64 0,.int .u64 0,.int .u64 0,.int .u64 0,.int .u64 0,.int .u64 0]):=by kernel_rfl
theorem uI:Nn 11:=Ee Tryz.func11
theorem ob:Nn 12:=Ee Tryz.func12
theorem uJ:Nn 13:=Ee Tryz.func13
theorem oc:Nn 14:=Ee Tryz.func14
theorem gY:Nn 16:=Ee Tryz.func16
theorem od:Nn 17:=Ee Tryz.func17
theorem jc:Nn 19:=Ee Tryz.func19
theorem jd:Nn 20:=Ee Tryz.func20
theorem uK:Nn 21:=Ee Tryz.func21
theorem jg:Nn 22:=Ee Tryz.func22
theorem oe:Nn 23:=Ee Tryz.func23
theorem kU:Nn 25:=Ee Tryz.func25
theorem uL:Nn 27:=Ee Tryz.func27
theorem uM:Nn 28:=Ee Tryz.func28
theorem kV:Nn 30:=Ee Tryz.func30
theorem og:Nn 32:=Ee Tryz.func32
theorem oh:Nn 34:=Ee Tryz.func34
theorem oi:Nn 36:=Ee Tryz.func36
theorem uN:Nn 38:=Ee Tryz.func38
theorem oj:Nn 40:=Ee Tryz.func40
theorem uO:Nn 41:=Ee Tryz.func41
theorem ol:Nn 42:=Ee Tryz.func42
theorem uP:Nn 43:=Ee Tryz.func43
theorem uQ:Nn 44:=Ee Tryz.func44
theorem uR:Nn 45:=Ee Tryz.func45
theorem dR:Nn 46:=Ee Tryz.func46
theorem om:Nn 47:=Ee Tryz.func47
theorem kW:Nn 48:=Ee Tryz.func48
theorem uS:Nn 49:=Ee Tryz.func49
theorem jh:Nn 50:=Ee Tryz.func50
theorem oq:Nn 51:=Ee Tryz.func51
theorem eO:Nn 52:=Ee Tryz.func52
theorem fX:Nn 54:=Ee Tryz.func54
theorem uT:Nn 55:=Ee Tryz.func55
theorem ji:Nn 56:=Ee Tryz.func56
theorem uU:Nn 57:=Ee Tryz.func57
theorem kY:Nn 58:=Ee Tryz.func58
theorem fY:Nn 59:=Ee Tryz.func59
theorem ot:Nn 61:=Ee Tryz.func61
theorem cV:Nn 62:=Ee Tryz.func62
theorem jj:Nn 63:=Ee Tryz.func63
theorem ou:Nn 64:=Ee Tryz.func64
theorem dG:Nn 65:=Ee Tryz.func65
theorem uV:Nn 66:=Ee Tryz.func66
theorem uW:Nn 67:=Ee Tryz.func67
theorem uX:Nn 68:=Ee Tryz.func68
theorem uY:Nn 69:=Ee Tryz.func69
theorem uZ:Nn 70:=Ee Tryz.func70
theorem vb:Nn 71:=Ee Tryz.func71
theorem fu:Nn 72:=Ee Tryz.func72
theorem gZ:Nn 73:=Ee Tryz.func73
theorem dS:Nn 74:=Ee Tryz.func74
theorem bZ:Nn 75:=Ee Tryz.func75
theorem ox:Nn 76:=Ee Tryz.func76
theorem vc:Nn 77:=Ee Tryz.func77
theorem kZ:Nn 78:=Ee Tryz.func78
theorem oz:Nn 79:=Ee Tryz.func79
theorem vd:Nn 81:=Ee Tryz.func81
theorem ve:Nn 84:=Ee Tryz.func84
theorem vf:Nn 85:=Ee Tryz.func85
theorem vg:Nn 86:=Ee Tryz.func86
theorem vh:Nn 87:=Ee Tryz.func87
theorem oA:Nn 89:=Ee Tryz.func89
theorem vi:Nn 90:=Ee Tryz.func90
theorem vj:Nn 91:=Ee Tryz.func91
theorem En92:Nn 92:=Ee Tryz.func92
theorem vk:Nn 93:=Ee Tryz.func93
theorem vm:Nn 94:=Ee Tryz.func94
theorem vn:Nn 95:=Ee Tryz.func95
theorem vp:Nn 96:=Ee Tryz.func96
theorem oB:Nn 97:=Ee Tryz.func97
theorem vq:Nn 98:=Ee Tryz.func98
theorem vr:Nn 99:=Ee Tryz.func99
theorem vu:Nn 100:=Ee Tryz.func100
theorem oC:Nn 101:=Ee Tryz.func101
theorem vz:Nn 102:=Ee Tryz.func102
theorem vA:Nn 103:=Ee Tryz.func103
theorem lc:Nn 104:=Ee Tryz.func104
theorem vB:Nn 105:=Ee Tryz.func105
theorem vD:Nn 106:=Ee Tryz.func106
theorem fZ:Nn 107:=Ee Tryz.func107
theorem lf:Nn 108:=Ee Tryz.func108
theorem vE:Nn 110:=Ee Tryz.func110
theorem jl:Nn 111:=Ee Tryz.func111
theorem oD:Nn 114:=Ee Tryz.func114
theorem ia:Nn 115:=Ee Tryz.func115
theorem vF:Nn 116:=Ee Tryz.func116
theorem vG:Nn 117:=Ee Tryz.func117
theorem lg:Nn 118:=Ee Tryz.func118
theorem jm:Nn 119:=Ee Tryz.func119
theorem oE:Nn 120:=Ee Tryz.func120
theorem lh:Nn 121:=Ee Tryz.func121
theorem vH:Nn 124:=Ee Tryz.func124
theorem oF:Nn 125:=Ee Tryz.func125
theorem En127:Nn 127:=Ee Tryz.func127
theorem vI:Nn 129:=Ee Tryz.func129
theorem vJ:Nn 130:=Ee Tryz.func130
theorem vK:Nn 131:=Ee Tryz.func131
theorem jn:Nn 132:=Ee Tryz.func132
theorem vL:Nn 133:=Ee Tryz.func133
theorem vM:Nn 134:=Ee Tryz.func134
theorem En135:Nn 135:=Ee Tryz.func135
theorem vN:Nn 136:=Ee Tryz.func136
theorem vO:Nn 147:=Ee Tryz.func147
theorem oG:Nn 149:=Ee Tryz.func149
theorem vP:Nn 150:=Ee Tryz.func150
theorem vQ:Nn 151:=Ee Tryz.func151
theorem oH:Nn 152:=Ee Tryz.func152
theorem jo:Nn 153:=Ee Tryz.func153
theorem vR:Nn 154:=Ee Tryz.func154
theorem vS:Nn 155:=Ee Tryz.func155
theorem vT:Nn 156:=Ee Tryz.func156
theorem vU:Nn 157:=Ee Tryz.func157
theorem vV:Nn 158:=Ee Tryz.func158
theorem vW:Nn 159:=Ee Tryz.func159
theorem vX:Nn 160:=Ee Tryz.func160
theorem vY:Nn 161:=Ee Tryz.func161
theorem vZ:Nn 162:=Ee Tryz.func162
theorem wa:Nn 164:=Ee Tryz.func164
theorem wb:Nn 178:=Ee Tryz.func178
abbrev U3:=@Tryz.underlying3
abbrev U4:=@Tryz.underlying4
abbrev U5:=@Tryz.underlying5
abbrev U22:=@Tryz.underlying22
abbrev U23:=@Tryz.underlying23
abbrev U25:=@Tryz.underlying25
abbrev U26:=@Tryz.underlying26
abbrev U31:=@Tryz.underlying31
abbrev U35:=@Tryz.underlying35
abbrev U39:=@Tryz.underlying39
abbrev U43:=@Tryz.underlying43
abbrev U45:=@Tryz.underlying45
abbrev U49:=@Tryz.underlying49
abbrev U51:=@Tryz.underlying51
abbrev U60:=@Tryz.underlying60
abbrev U61:=@Tryz.underlying61
abbrev U62:=@Tryz.underlying62
abbrev U66:=@Tryz.underlying66
abbrev U69:=@Tryz.underlying69
abbrev U73:=@Tryz.underlying73
abbrev U74:=@Tryz.underlying74
abbrev U76:=@Tryz.underlying76
abbrev U77:=@Tryz.underlying77
abbrev U79:=@Tryz.underlying79
abbrev U83:=@Tryz.underlying83
abbrev bE:=@Tryz.underlying126
abbrev fv:=@Tryz.underlying127
abbrev eP:=@Tryz.underlying128
abbrev cX:=@Tryz.underlying130
abbrev oI:=@Tryz.underlying132
abbrev ib:=@Tryz.underlying139
abbrev aN:=@Tryz.underlying143
abbrev wc:=@Tryz.underlying158
abbrev oJ:=@Tryz.underlying161
abbrev we:=@Tryz.underlying183
abbrev oK:=@Tryz.underlying187
abbrev li:=@Tryz.underlying188
end Go.Mono
