/-
  Walks of functions and plain facts.
  No condition.
-/
import Derived.OrdersIn
import Derived.TacticsIn
import Derived.RangeFuncIn
import Derived.RangeFuncLeaves
import Derived.RangeFuncRecord
import Derived.RangeFuncCalls
import Derived.Below
import Derived.Shelf.Abstract
import Derived.Tactics
import Derived.IntWalk
import Derived.Laws.Tables
import Derived.Laws.Cells
import Derived.Laws.Rows
import Derived.Laws.CopyRow
import Derived.OwnWalk
import Derived.Test.YteildobhcnllmaaGreatDoorProg
import Derived.KernelRfl
import Derived.Laws.StructEq
import Derived.Maps.AppendAt
import Derived.Great.BuildSlice
import Derived.Laws.MakeOwn
import Derived.OpenShut
import Derived.Deep.Slices
import Derived.ChangeSame
set_option linter.unusedVariables false
set_option linter.unusedSimpArgs false
namespace Go.Mono
open Go Go.RowKit
def FW (r:Option Nat):Fence:={ fn:=fun _=>True,depth:=none,alive:=false,round:=r }
theorem lY {P:Program}{f:FuncId}{args:Array Value}{w:World}{R:Ending→World→Prop}(r:Option Nat)(h:Calls P f args w R):CallsIn (FW r) 0 P f args w R:=(callsIn_wide (n:=0)).2 h
theorem vu {P:Program}{l:Nat}{f:FuncId}{tmps:Array Value}{assign body:Code}{w:World}{R:Ending→World→Prop}(r:Option Nat)(h:RoundIn Fence.wide 0 P l f tmps assign body w R):RoundIn (FW r) 0 P l f tmps assign body w R:=h
abbrev Ext (w w':World):Prop:=Below w.heap.size w w'
theorem Ext.rfl' (w:World):Ext w w:=Below.refl _ _
theorem Ext.tr {a b c:World}(h:Ext a b)(k:Ext b c):Ext a c:=Below.trans h (Below.mono k h.size)
theorem Ext.drew (w:World):Ext w w.drew:=(Below.refl _ _).drew
class Gro (Γ:World→World→Prop):Prop where
 rfl':∀w,Γ w w
 tr:∀{a b c},Γ a b→Γ b c→Γ a c
 drew:∀w,Γ w w.drew
 alloc:∀w o,Γ w (w.alloc o)
 below:∀{a b},Γ a b→Below a.heap.size a b
instance:Gro Ext:=⟨Ext.rfl',Ext.tr,Ext.drew,fun w o=>(Below.refl _ w).alloc (Nat.le_refl _) o,id⟩
structure VAr (Γ:World→World→Prop) where
 p:Value→World→Prop
 st:∀v w w',Γ w w'→p v w→p v w'
variable {Γ:World→World→Prop}


def ER (x:Value):(VAr Γ):=⟨fun v _=>v=x,fun _ _ _ _ h=>h⟩
def oS:(VAr Γ):=⟨fun _ _=>True,fun _ _ _ _ h=>h⟩
abbrev aY (Γ:World→World→Prop):=List (Nat×VAr Γ)
abbrev VA:=VAr Ext
abbrev Env:=aY Ext
theorem VA.st (A:VA):∀v w w',Ext w w'→A.p v w→A.p v w':=VAr.st A
abbrev E (x:Value):VA:=ER x
abbrev Any:VA:=oS
def aC:(aY Γ)→Nat→Option (VAr Γ)
 | [],_=>none
 | (k,A)::L,t=>match Nat.beq k t with
  | true=>some A
  | false=>aC L t

theorem cT (k:Nat)(A:(VAr Γ))(L:(aY Γ)):aC ((k,A)::L) k=some A:=by
 simp[aC]
theorem cU {k t:Nat}(A:(VAr Γ))(L:(aY Γ))(h:k≠t):aC ((k,A)::L) t=aC L t:=by
 have:Nat.beq k t=false:=by
  cases hb:Nat.beq k t with
  | false=>rfl
  | true=>exact absurd (Nat.eq_of_beq_eq_true hb) h
 simp[aC,this]
def opd (L:(aY Γ)):Operand→Option (VAr Γ)
 | .tmp t=>aC L t
 | .const v=>some (ER v)
 | .global g=>some (ER (.pointer (some ⟨g,0,none⟩)))
 | .func f=>some (ER (.func (.func f) #[] #[]))

structure FrD (n:Nat)(ds:List Deferred)(a:Act)(w:World)(L:(aY Γ)):Prop where
 size:a.tmps.size=n
 defers:a.defers=ds
 val:∀t A,aC L t=some A→A.p (a.eval (.tmp t)) w
abbrev Fr (n:Nat):=@FrD Γ n []

theorem FrD.opd {n:Nat}{ds:List Deferred}{a:Act}{w:World}{L:(aY Γ)}(h:FrD n ds a w L):∀x A,opd L x=some A→A.p (a.eval x) w:=by
 intro x A hx
 cases x with
 | tmp t=>exact h.val t A hx
 | const v=>simp[Mono.opd] at hx;subst hx;rfl
 | global g=>simp[Mono.opd] at hx;subst hx;rfl
 | func f=>simp[Mono.opd] at hx;subst hx;rfl

theorem FrD.ext {n:Nat}{ds:List Deferred}{a:Act}{w w':World}{L:(aY Γ)}(h:FrD n ds a w L)(e:Γ w w'):FrD n ds a w' L:=
 ⟨h.size,h.defers,fun t A ht=>A.st _ _ _ e (h.val t A ht)⟩

theorem iK {a:Act}{d:Nat}{v:Value}(h:d<a.tmps.size):(a.put (some d) v).eval (.tmp d)=v:=by
 simp[Act.put,Act.eval,h]
theorem fc {a:Act}{d t:Nat}{v:Value}(h:d≠t):(a.put (some d) v).eval (.tmp t)=a.eval (.tmp t):=by
 simp[Act.put,Act.eval,Array.getElem?_setIfInBounds_ne h]
@[simp] theorem put_size {a:Act} {d:Option Nat} {v:Value}:(a.put d v).tmps.size=a.tmps.size:=by
 cases d <;> simp[Act.put]
@[simp] theorem put_defers {a:Act} {d:Option Nat} {v:Value}:(a.put d v).defers=a.defers:=by
 cases d <;> simp[Act.put]

def push (d:Option Nat)(A:(VAr Γ))(L:(aY Γ)):(aY Γ):=
 match d with
 | some d=>(d,A)::L
 | none=>L

theorem FrD.put {n:Nat}{ds:List Deferred}{a:Act}{w w':World}{L:(aY Γ)}{d:Option Nat}{v:Value}{A:(VAr Γ)}(h:FrD n ds a w L)(e:Γ w w')(hd:∀k,d=some k→k<n)(hA:A.p v w') :
  FrD n ds (a.put d v) w' (push d A L):=by
 refine⟨by simp[h.size],by simp[h.defers],fun t B ht=>?_⟩
 cases d with
 | none=>exact (h.ext e).val t B ht
 | some d=>
  by_cases hdt:d=t
  ·subst hdt
   rw[push,cT] at ht
   obtain rfl:=Option.some.inj ht
   rw[iK (by rw[h.size];exact hd d rfl)]
   exact hA
  ·rw[push,cU _ _ hdt] at ht
   rw[fc hdt]
   exact (h.ext e).val t B ht
def OpR (P:Program)(o:Oper)(ρ:Operand→Value)(w:World)(R:Value→World→Prop):Prop:=
 match (execOp ρ o).run P w with
 | .ok (.value v) w'=>R v w'
 | .ok .skip w'=>R undef w'
 | .ok (.enter f args) w'=>Calls P f args w' fun e w''=>∃v,e=.returned v∧R v w''
 | .ok (.round l f tmps assign body) w'=>RoundIn Fence.wide 0 P l f tmps assign body w' fun e w''=>∃v,e=.returned v∧R v w''
 | _=>False

theorem OpR.wp {P:Program}{o:Oper}{a:Act}{w:World}{R:Value→World→Prop}{K:Act→World→Prop}{Q:Exit→Act→World→Prop}{r:Option Nat}
  (h:OpR P o a.eval w R) (hK:∀v w',R v w'→K (a.put o.dst v) w'):o.wpIn (FW r) 0 P a w K Q:=by
 refine⟨fun _ _=>trivial,?_⟩
 have hs:o.semAt (FW r).round a.eval=execOp a.eval o:=by
  refine Oper.semAt_eq _ _ _ fun c hc=>?_
  unfold OpR at h
  obtain⟨d,op,t,p,af,g⟩:=o
  simp only at hc
  subst hc
  simp only[execOp,Sem.run_bind] at h
  cases hr:(resolve a.eval c t).run P w with
  | ok x w'=>simp[hr] at h
  | halt x w'=>simp[hr,Result.andThen] at h
 rw[hs]
 unfold OpR at h
 generalize (execOp a.eval o).run P w=r' at h
 cases r' with
 | ok n w'=>
  cases n <;> simp only[Oper.uponIn] at h ⊢ <;> first
   | exact hK _ _ h
   | exact h.elim
   | (
     refine⟨fun hd=>(by simp[FW] at hd),lY r (Calls.mono h ?_)⟩
     rintro e w'' ⟨v,rfl,hv⟩
     exact hK _ _ hv)
   | (
     refine⟨fun hd=>(by simp[FW] at hd),vu r (RoundIn.mono h ?_)⟩
     rintro e w'' ⟨v,rfl,hv⟩
     exact hK _ _ hv)
 | halt x w'=>exact h.elim

theorem OpR.mono {P:Program}{o:Oper}{ρ:Operand→Value}{w:World}{R R':Value→World→Prop}(h:OpR P o ρ w R)(hR:∀v w',R v w'→R' v w'):OpR P o ρ w R':=by
 unfold OpR at *
 generalize (execOp ρ o).run P w=r at h
 cases r with
 | ok n w'=>
  cases n <;> simp only at h ⊢ <;> first
   | exact hR _ _ h
   | exact h
   | exact Calls.mono h (by rintro e w'' ⟨v,rfl,hv⟩;exact⟨v,rfl,hR _ _ hv⟩)
   | exact RoundIn.mono h (by rintro e w'' ⟨v,rfl,hv⟩;exact⟨v,rfl,hR _ _ hv⟩)
 | halt x w'=>exact h
structure OpC (P:Program)(w0:World)(L:(aY Γ))(o:Oper)(A:(VAr Γ)):Prop where
 out:∀ρ w,Γ w0 w→(∀x∈o.op.operands,∀B,opd L x=some B→B.p (ρ x) w)→OpR P o ρ w (fun v w'=>Γ w w'∧A.p v w')
def cx (ops:Array Oper)(o:Oper):Option Nat:=o.guard.bind fun g=>(ops[g.1]?).bind (·.dst)
def GOp (P:Program)(ops:Array Oper)(w0:World)(L:(aY Γ))(o:Oper)(A:(VAr Γ)):Prop:=
 ∀(a:Act) w,Γ w0 w→(∀x∈o.op.operands,∀B,opd L x=some B→B.p (a.eval x) w)→(∀d B,cx ops o=some d→aC L d=some B→B.p (a.eval (.tmp d)) w) →
  if Region.wanted o (yielded ops a.tmps) then OpR P o a.eval w (fun v w'=>Γ w w'∧A.p v w') else A.p undef w

def cy (P:Program)(ops:Array Oper)(w0:World):List Oper→((aY Γ)→Prop)→(aY Γ)→Prop
 | [],K,L=>K L
 | o::rest,K,L=>∃A,GOp P ops w0 L o A∧cy P ops w0 rest K (push o.dst A L)

section reg
variable {P:Program}{ops:Array Oper}{Q:Exit→Act→World→Prop}{w0:World}{n:Nat}{ds:List Deferred}{r:Option Nat}
theorem lZ [Gro Γ](S:List Oper):∀(M:List Oper) (L:(aY Γ)) (a:Act) (w:World),(∀o∈M,∀k,o.dst=some k→k<n)→Γ w0 w→FrD n ds a w L →
  cy P ops w0 M (fun L'=>∀a' w',Γ w0 w'→FrD n ds a' w' L'→wpListIn (FW r) 0 P ops Q S a' w') L→wpListIn (FW r) 0 P ops Q (M++S) a w
 | [],L,a,w,_,he,hf,h=>h a w he hf
 | o::rest,L,a,w,hd,he,hf,⟨A,hA,hr⟩=>by
  have h1:=hA a w he (fun x _ B hB=>hf.opd x B hB) (fun d B _ hB=>hf.val d B hB)
  have hd':=fun k hk=>hd o (by simp) k hk
  have ih:=lZ S rest (push o.dst A L)
  rw[List.cons_append,wpListIn]
  split
  ·rename_i hw
   rw[if_pos hw] at h1
   exact (h1.wp fun v w' hv=>ih _ _ (fun o ho=>hd o (by simp[ho])) (Gro.tr he hv.1) (hf.put hv.1 hd' hv.2) hr)
  ·rename_i hw
   rw[if_neg hw] at h1
   exact⟨fun _ _=>trivial,ih _ _ (fun o ho=>hd o (by simp[ho])) he (hf.put (Gro.rfl' _) hd' h1) hr⟩


def bnd (ops:Array Oper)(i j:Nat):Bool:=match ops[i]? with
 | some o=>o.after.any fun e=>Region.binds .any e&&Nat.beq e.on j
 | none=>false
def fe (ops:Array Oper):Nat→Nat→Nat→Bool
 | 0,_,_=>false
 | f+1,i,j=>bnd ops i j || (List.range i).any fun k=>bnd ops i k&&fe ops f k j

def dD (o:Oper):List Nat:=o.op.operands.toList.filterMap fun|.tmp t=>some t|_=>none
def aR (ops:Array Oper)(i:Nat):Option Nat:=(ops[i]?).bind (·.dst)

def eD (ops:Array Oper)(m N i:Nat):Bool:=
 match ops[i]? with
 | none=>false
 | some o=>
  (o.after.all fun e => !Region.binds .any e || Nat.blt e.on i) &&
  (match o.dst with|some d=>Nat.blt d N|none=>true) &&
  ((dD o++(cx ops o).toList).all fun t=>(List.range m).all fun j=>(match aR ops j with|some d => !Nat.beq d t|none=>true) || bnd ops i j) &&
  ((List.range m).all fun j=>Nat.beq j i || (match o.dst,aR ops j with|some d,some e => !Nat.beq d e|_,_=>true))
def dO (ops:Array Oper)(i:Nat):Bool:=
 match ops[i]? with
 | none=>false
 | some o=>(o.after.all fun e => !Region.binds .any e || Nat.blt e.on i)&&(List.range i).all fun j=>fe ops 12 i j
def chk (ops:Array Oper)(m N:Nat):Bool:=
 Nat.ble m ops.size&&((List.range m).all fun i=>eD ops m N i)&&((List.range ops.size).all fun i=>Nat.blt i m || dO ops i)

theorem jM (m:Nat)(p q:Nat→Bool)(i:Nat)(hi:i<m)(h1:p i=true)(h2:q i=false)(h:∀j,j≠i→p j=q j) :
  (List.range m).countP p=(List.range m).countP q+1:=by
 induction m with
 | zero=>omega
 | succ m ih=>
  rw[List.range_succ,List.countP_append,List.countP_append]
  by_cases him:i=m
  ·subst him
   have:(List.range i).countP p=(List.range i).countP q:=List.countP_congr fun x hx=>by
    have:x≠i:=by have:=List.mem_range.1 hx;omega
    rw[h x this]
   simp[this,h1,h2]
  ·have:=ih (by omega)
   have e:=h m (by omega)
   simp only[this,List.countP_singleton,e]
   omega

def LD (ops:Array Oper)(listed:Array Bool):Prop:=
 ∀i o,listed.getD i false=true→ops[i]?=some o→∀e∈o.after,Region.binds .any e=true→listed.getD e.on false=true

theorem cov {listed:Array Bool}(hld:LD ops listed):∀f i j,fe ops f i j=true→(∀o,ops[i]?=some o→∀e∈o.after,Region.binds .any e=true→listed.getD e.on false=true)→listed.getD j false=true
 | 0,i,j,h,_=>by simp[fe] at h
 | f+1,i,j,h,hp=>by
  have one:∀j,bnd ops i j=true→listed.getD j false=true:=by
   intro j hb
   unfold bnd at hb
   cases ho:ops[i]? with
   | none=>simp[ho] at hb
   | some o=>
    simp only[ho] at hb
    obtain⟨e,he,hb⟩:=Array.any_eq_true'.1 hb
    simp only[Bool.and_eq_true] at hb
    have:=hp o ho e he hb.1
    rwa [Nat.eq_of_beq_eq_true hb.2] at this
  simp only[fe,Bool.or_eq_true,List.any_eq_true,Bool.and_eq_true] at h
  rcases h with h|⟨k,_,hk,hc⟩
  ·exact one j h
  ·exact cov hld f k j hc fun o ho e he hb=>hld k o (one k hk) ho e he hb

theorem ff {listed:Array Bool}{i:Nat}(h:listed.getD i true=false):listed.getD i false=false:=by
 rcases Nat.lt_or_ge i listed.size with h'|h'
 ·simpa[h'] using h
 ·simp[Array.getElem?_eq_none h'] at h

theorem LD.set {listed:Array Bool}(hld:LD ops listed){i:Nat}(hp:∀o,ops[i]?=some o→∀e∈o.after,Region.binds .any e=true→listed.getD e.on false=true) :
  LD ops (listed.setIfInBounds i true):=by
 intro j o hj ho e he hb
 by_cases hij:i=j
 ·subst hij
  exact getD_set_true (hp o ho e he hb)
 ·rw[getD_set_ne false hij] at hj
  exact getD_set_true (hld j o hj ho e he hb)

theorem iL (m:Nat)(hchk:∀i,m≤i→i<ops.size→dO ops i=true):∀(d k:Nat),d+k=ops.size→m≤k→∀(listed:Array Bool) (a:Act) (w:World),
  (∀j,j<k→listed.getD j false=true)→(∀j,k≤j→j<ops.size→listed.getD j true=false)→listed.size=ops.size→LD ops listed →
  wpListIn (FW r) 0 P ops Q (ops.toList.drop k) a w→wpAnyIn (FW r) 0 P .any ops Q d listed a w
 | 0,k,hk,hm,listed,a,w,h1,h2,hsz,hld,h=>by
  have hnil:ops.toList.drop k=[]:=List.drop_eq_nil_of_le (by simp;omega)
  rw[hnil] at h
  refine⟨?_,h⟩
  cases hr:Region.ready .any ops listed with
  | nil=>rfl
  | cons x xs=>
   have hx:x∈Region.ready .any ops listed:=by rw[hr];simp
   obtain⟨hu,o,ho,_⟩:=mem_ready.1 hx
   have hlt:x<ops.size:=(Array.getElem?_eq_some_iff.1 ho).1
   have:=h1 x (by omega)
   rw[ff hu] at this
   cases this
 | d+1,k,hk,hm,listed,a,w,h1,h2,hsz,hld,h=>by
  have hlt:k<ops.size:=by omega
  have hok:ops[k]?=some ops[k]:=by simp[hlt]
  have hc:=hchk k hm hlt
  simp only[dO,hok,Bool.and_eq_true,Array.all_eq_true_iff_forall_mem,Bool.or_eq_true,Bool.not_eq_true'] at hc
  have hready:k∈Region.ready .any ops listed:=by
   refine mem_ready.2 ⟨h2 k (Nat.le_refl _) hlt,_,hok,fun e he hb=>h1 _ ?_⟩
   rcases hc.1 e he with h'|h'
   ·rw[hb] at h';cases h'
   ·simpa[Nat.blt_eq] using h'
  have only:∀j∈Region.ready .any ops listed,j=k:=by
   intro j hj
   obtain⟨hu,o,ho,hall⟩:=mem_ready.1 hj
   have hjlt:j<ops.size:=(Array.getElem?_eq_some_iff.1 ho).1
   rcases Nat.lt_trichotomy j k with hjk|hjk|hjk
   ·have:=h1 j hjk
    rw[ff hu] at this
    cases this
   ·exact hjk
   ·have hcj:=hchk j (by omega) hjlt
    simp only[dO,ho,Bool.and_eq_true,List.all_eq_true,List.mem_range] at hcj
    have:=cov hld 12 j k (hcj.2 k hjk) (fun o' ho' e he hb=>by
     rw[ho] at ho'
     obtain rfl:=Option.some.inj ho'
     exact hall e he hb)
    rw[ff (h2 k (Nat.le_refl _) hlt)] at this
    cases this
  refine⟨fun h0=>(by rw[h0] at hready;cases hready),fun i hi=>?_⟩
  obtain rfl:=only i hi
  obtain⟨_,o,ho,hall⟩:=mem_ready.1 hi
  have hdrop:ops.toList.drop i=ops[i]::ops.toList.drop (i+1):=by
   rw[List.drop_eq_getElem_cons (by simpa using hlt)]
   simp
  rw[hdrop] at h
  have hstep:wpOpIn (FW r) 0 P ops Q i (wpListIn (FW r) 0 P ops Q (ops.toList.drop (i+1))) a w:=by
   unfold wpOpIn
   simp only[hok]
   rw[wpListIn] at h
   exact h
  refine wpOpIn_mono (fun a' w' h'=>iL m hchk d (i+1) (by omega) (by omega) _ a' w' ?_ ?_ (by simpa using hsz) ?_ h') hstep
  ·intro j hj
   by_cases hji:j=i
   ·subst hji
    simp[hsz,hlt]
   ·exact getD_set_true (h1 j (by omega))
  ·intro j hj hj'
   rw[getD_set_ne true (by omega)]
   exact h2 j (by omega) hj'
  ·exact hld.set fun o' ho' e he hb=>by
    rw[ho] at ho'
    obtain rfl:=Option.some.inj ho'
    exact hall e he hb

def aV (ops:Array Oper)(L:(aY Γ))(As:Nat→(VAr Γ))(k:Nat):Nat→(aY Γ)
 | 0=>L
 | j+1=>push (aR ops (k+j)) (As j) (aV ops L As k j)

theorem iM (ops:Array Oper)(L:(aY Γ))(A:(VAr Γ))(As:Nat→(VAr Γ))(k:Nat):∀j,
  aV ops L (fun i=>match i with|0=>A|i+1=>As i) k (j+1)=aV ops (push (aR ops k) A L) As (k+1) j
 | 0=>rfl
 | j+1=>by
  rw[aV,iM ops L A As k j,aV]
  rw[show k+(j+1)=k+1+j by omega]

theorem oT {K:(aY Γ)→Prop}:∀(M:List Oper) (k:Nat) (L:(aY Γ)),(∀j,j<M.length→ops[k+j]?=M[j]?)→cy P ops w0 M K L →
  ∃As:Nat→(VAr Γ),(∀j o,j<M.length→ops[k+j]?=some o→GOp P ops w0 (aV ops L As k j) o (As j))∧K (aV ops L As k M.length)
 | [],k,L,_,h=>⟨fun _=>oS,fun j o hj=>by simp at hj,h⟩
 | o::M,k,L,hM,⟨A,hA,hr⟩=>by
  have h0:ops[k]?=some o:=by simpa using hM 0 (by simp)
  have hd:aR ops k=o.dst:=by simp[aR,h0]
  obtain⟨As,h1,h2⟩:=oT M (k+1) (push o.dst A L) (fun j hj=>by
   have:=hM (j+1) (by simpa using hj)
   rw[show k+1+j=k+(j+1) by omega]
   simpa using this) hr
  refine⟨fun i=>match i with|0=>A|i+1=>As i,?_,?_⟩
  ·intro j o' hj ho'
   cases j with
   | zero=>
    rw[Nat.add_zero,h0] at ho'
    obtain rfl:=Option.some.inj ho'
    exact hA
   | succ j=>
    rw[iM,hd]
    exact h1 j o' (by simpa using hj) (by rw[show k+1+j=k+(j+1) by omega];exact ho')
  ·rw[List.length_cons,iM,hd]
   exact h2

theorem eE (L:(aY Γ))(As:Nat→(VAr Γ))(t:Nat)(B:(VAr Γ)):∀i,aC (aV ops L As 0 i) t=some B →
  (∃j,j<i∧aR ops j=some t∧B=As j)∨((∀j,j<i→aR ops j≠some t)∧aC L t=some B)
 | 0,h=>.inr ⟨fun j hj=>by omega,h⟩
 | i+1,h=>by
  rw[aV,Nat.zero_add] at h
  have rest:aC (aV ops L As 0 i) t=some B→aR ops i≠some t→(∃j,j<i+1∧aR ops j=some t∧B=As j)∨((∀j,j<i+1→aR ops j≠some t)∧aC L t=some B):=by
   intro h hne
   rcases eE L As t B i h with ⟨j,hj,hd,hB⟩|⟨hn,hl⟩
   ·exact .inl ⟨j,by omega,hd,hB⟩
   ·refine .inr ⟨fun j hj=>?_,hl⟩
    by_cases hji:j=i
    ·subst hji;exact hne
    ·exact hn j (by omega)
  cases hd:aR ops i with
  | none=>
   rw[hd] at h
   exact rest h (by simp[hd])
  | some d=>
   rw[hd] at h
   by_cases hdt:d=t
   ·subst hdt
    rw[push,cT] at h
    exact .inl ⟨i,by omega,hd,(Option.some.inj h).symm⟩
   ·rw[push,cU _ _ hdt] at h
    exact rest h (by simp[hd,hdt])

structure Inv (ops:Array Oper)(m n:Nat)(ds:List Deferred)(w0:World)(L:(aY Γ))(As:Nat→(VAr Γ))(listed:Array Bool)(a:Act)(w:World):Prop where
 ext:Γ w0 w
 size:a.tmps.size=n
 defers:a.defers=ds
 hL:∀t A,aC L t=some A→(∀j,j<m→aR ops j≠some t)→A.p (a.eval (.tmp t)) w
 hA:∀i,i<m→listed.getD i false=true→∀d,aR ops i=some d→(As i).p (a.eval (.tmp d)) w

theorem oU [Gro Γ]{m:Nat}{L:(aY Γ)}{As:Nat→(VAr Γ)}(hm:m≤ops.size)(hchk:∀i,i<m→eD ops m n i=true)(hchk2:∀i,m≤i→i<ops.size→dO ops i=true)
  (hops:∀j o,j<m→ops[j]?=some o→GOp P ops w0 (aV ops L As 0 j) o (As j))
  (hend:∀a w,Γ w0 w→FrD n ds a w (aV ops L As 0 m)→wpListIn (FW r) 0 P ops Q (ops.toList.drop m) a w) :
  ∀(c:Nat) (listed:Array Bool) (a:Act) (w:World),(List.range m).countP (fun i => !listed.getD i true)=c→listed.size=ops.size →
   (∀j,m≤j→j<ops.size→listed.getD j true=false)→LD ops listed→Inv ops m n ds w0 L As listed a w→wpAnyIn (FW r) 0 P .any ops Q (c+(ops.size - m)) listed a w
 | 0,listed,a,w,hc,hsz,hun,hld,hi=>by
  have hall:∀j,j<m→listed.getD j false=true:=by
   intro j hj
   have:=(List.countP_eq_zero.1 hc) j (List.mem_range.2 hj)
   have hjl:j<listed.size:=by omega
   simpa[hjl] using this
  rw[Nat.zero_add]
  refine iL m hchk2 (ops.size - m) m (by omega) (Nat.le_refl _) listed a w hall hun hsz hld (hend a w hi.ext ⟨hi.size,hi.defers,fun t A ht=>?_⟩)
  rcases eE L As t A m ht with ⟨j,hj,hd,rfl⟩|⟨hn,hl⟩
  ·exact hi.hA j hj (hall j hj) t hd
  ·exact hi.hL t A hl hn
 | c+1,listed,a,w,hc,hsz,hun,hld,hi=>by
  have facts:∀i o,i<m→ops[i]?=some o→(∀e∈o.after,Region.binds .any e=true→e.on<i)∧(∀d,o.dst=some d→d<n) ∧
    (∀t,t∈dD o∨cx ops o=some t→∀j,j<m→aR ops j=some t→bnd ops i j=true)∧(∀j,j<m→j≠i→∀d,o.dst=some d→aR ops j≠some d):=by
   intro i o hlt ho
   have:=hchk i hlt
   simp only[eD,ho,Bool.and_eq_true,Array.all_eq_true_iff_forall_mem,Bool.or_eq_true,Bool.not_eq_true',List.all_eq_true,List.mem_range,List.mem_append,Option.mem_toList] at this
   obtain⟨⟨⟨h1,h2⟩,h3⟩,h4⟩:=this
   refine⟨fun e he hb=>?_,fun d hd=>?_,fun t ht j hj hd=>?_,fun j hj hne d hd hd'=>?_⟩
   ·rcases h1 e he with h|h
    ·rw[hb] at h;cases h
    ·simpa[Nat.blt_eq] using h
   ·simpa[hd,Nat.blt_eq] using h2
   ·have:=h3 t ht j hj
    rcases this with h|h
    ·rw[hd] at h;simp at h
    ·exact h
   ·have:=h4 j hj
    rcases this with h|h
    ·exact hne (Nat.eq_of_beq_eq_true h)
    ·rw[hd,hd'] at h;simp at h
  have prog:∃i,i<m∧listed.getD i true=false∧∀j,j<i→listed.getD j true=true:=by
   have hex:∃i,i<m∧listed.getD i true=false:=by
    have hpos:0<(List.range m).countP (fun i => !listed.getD i true):=by omega
    obtain⟨i,hi,hb⟩:=List.countP_pos_iff.1 hpos
    exact⟨i,List.mem_range.1 hi,by simpa using hb⟩
   obtain⟨i,hlt,hb⟩:=hex
   induction i using Nat.strongRecOn with
   | _ i ih=>
    by_cases h:∃j,j<i∧listed.getD j true=false
    ·obtain⟨j,hj,hjb⟩:=h
     exact ih j hj (by omega) hjb
    ·refine⟨i,hlt,hb,fun j hj=>?_⟩
     cases hjb:listed.getD j true with
     | true=>rfl
     | false=>exact absurd ⟨j,hj,hjb⟩ h
  obtain⟨i0,hi0,hu0,hbelow⟩:=prog
  have hready:i0∈Region.ready .any ops listed:=by
   have ho:ops[i0]?=some (ops[i0]'(by omega)):=by simp
   refine mem_ready.2 ⟨hu0,_,ho,fun e he hb=>?_⟩
   have hlt:=(facts i0 _ hi0 ho).1 e he hb
   have:=hbelow _ hlt
   have hjl:e.on<listed.size:=by omega
   simpa[hjl] using this
  rw[show c+1+(ops.size - m)=(c+(ops.size - m))+1 by omega]
  refine⟨fun h0=>(by rw[h0] at hready;cases hready),fun i hir=>?_⟩
  obtain⟨hu,o,ho,hall⟩:=mem_ready.1 hir
  have hilt:i<ops.size:=(Array.getElem?_eq_some_iff.1 ho).1
  have listed_of_bnd:∀j,bnd ops i j=true→listed.getD j false=true:=by
   intro j hb
   simp only[bnd,ho] at hb
   obtain⟨e,he,hb⟩:=Array.any_eq_true'.1 hb
   simp only[Bool.and_eq_true] at hb
   have:=hall e he hb.1
   rwa [Nat.eq_of_beq_eq_true hb.2] at this
  have him:i<m:=by
   rcases Nat.lt_or_ge i m with h|h
   ·exact h
   ·have hc:=hchk2 i h hilt
    simp only[dO,ho,Bool.and_eq_true,List.all_eq_true,List.mem_range] at hc
    have:=cov hld 12 i i0 (hc.2 i0 (by omega)) (fun o' ho' e he hb=>by
     rw[ho] at ho'
     obtain rfl:=Option.some.inj ho'
     exact hall e he hb)
    rw[ff hu0] at this
    cases this
  obtain⟨f1,f2,f3,f4⟩:=facts i o him ho
  have byLook:∀t,(t∈dD o∨cx ops o=some t)→∀B,aC (aV ops L As 0 i) t=some B→B.p (a.eval (.tmp t)) w:=by
   intro t ht B hB
   rcases eE L As t B i hB with ⟨j,hj,hd,rfl⟩|⟨hn,hl⟩
   ·exact hi.hA j (by omega) (listed_of_bnd j (f3 t ht j (by omega) hd)) t hd
   ·refine hi.hL t B hl fun j hj hd=>?_
    have hb:=f3 t ht j hj hd
    simp only[bnd,ho] at hb
    obtain⟨e,he,hb⟩:=Array.any_eq_true'.1 hb
    simp only[Bool.and_eq_true] at hb
    have hlt:=f1 e he hb.1
    rw[Nat.eq_of_beq_eq_true hb.2] at hlt
    exact hn j hlt hd
  have hg:=hops i o him ho a w hi.ext (fun x hx B hB=>by
   cases x with
   | tmp t=>exact byLook t (.inl (List.mem_filterMap.2 ⟨.tmp t,by simpa using hx,rfl⟩)) B hB
   | const v=>simp[opd] at hB;subst hB;rfl
   | global g=>simp[opd] at hB;subst hB;rfl
   | func f=>simp[opd] at hB;subst hB;rfl) (fun d B hd hB=>byLook d (.inr hd) B hB)
  have hdst:aR ops i=o.dst:=by simp[aR,ho]
  have step:∀v w',Γ w w'→(As i).p v w'→wpAnyIn (FW r) 0 P .any ops Q (c+(ops.size - m)) (listed.setIfInBounds i true) (a.put o.dst v) w':=by
   intro v w' hx hv
   refine oU hm hchk hchk2 hops hend c _ _ _ ?_ (by simpa using hsz) ?_ ?_ ?_
   ·have:=jM m (fun j => !listed.getD j true) (fun j => !(listed.setIfInBounds i true).getD j true) i him (by simp only[hu,Bool.not_false])
     (by
       have hjl:i<listed.size:=by omega
       simp[hjl]) (fun j hj=>by simp only[getD_set_ne true (Ne.symm hj)])
    omega
   ·intro j hj hj'
    rw[getD_set_ne true (by omega)]
    exact hun j hj hj'
   ·exact hld.set fun o' ho' e he hb=>by
     rw[ho] at ho'
     obtain rfl:=Option.some.inj ho'
     exact hall e he hb
   ·refine⟨Gro.tr hi.ext hx,by simp[hi.size],by simp[hi.defers],fun t A ht hn=>?_,fun j hj hl d hd=>?_⟩
    ·have h0:=A.st _ _ _ hx (hi.hL t A ht hn)
     cases hod:o.dst with
     | none=>exact h0
     | some d=>
      have:d≠t:=fun e=>hn i him (by rw[hdst,hod,e])
      rw[fc this]
      exact h0
    ·by_cases hji:j=i
     ·subst hji
      rw[hdst] at hd
      rw[hd,iK (by rw[hi.size];exact f2 d hd)]
      exact hv
     ·have hl':listed.getD j false=true:=by rwa [getD_set_ne false (Ne.symm hji)] at hl
      have h0:=(As j).st _ _ _ hx (hi.hA j hj hl' d hd)
      cases hod:o.dst with
      | none=>exact h0
      | some d'=>
       have:d'≠d:=fun e=>f4 j hj hji d' hod (by rw[hd,e])
       rw[fc this]
       exact h0
  unfold wpOpIn
  simp only[ho]
  split
  ·rename_i hw
   rw[if_pos hw] at hg
   exact (hg.wp fun v w' hv=>step v w' hv.1 hv.2)
  ·rename_i hw
   rw[if_neg hw] at hg
   exact⟨fun _ _=>trivial,step undef w (Gro.rfl' _) hg⟩
theorem vw [Gro Γ]{id:Nat}{draw:Bool}{M S:List Oper}{L:(aY Γ)}{a:Act}{w:World}(hmix:P.follows .mixedOrders=true)(hchk:chk (M++S).toArray M.length n=true)(hf:FrD n ds a w L)
  (h:cy P (M++S).toArray w M (fun L'=>∀a' w',Γ w w'→FrD n ds a' w' L'→wpListIn (FW r) 0 P (M++S).toArray Q S a' w') L):(Code.region id (M++S).toArray draw).wpIn (FW r) 0 P Q a w:=by
 simp only[chk,Bool.and_eq_true,List.all_eq_true,List.mem_range,Bool.or_eq_true] at hchk
 obtain⟨⟨hm,h1⟩,h2⟩:=hchk
 have hm:M.length≤(M++S).toArray.size:=by simp
 cases draw with
 | false=>
  refine wpIn_region_list <| lZ S M L a w (fun o ho k hk=>?_) (Gro.rfl' _) hf h
  obtain⟨i,hi,rfl⟩:=List.mem_iff_getElem.1 ho
  have:=h1 i hi
  have ho':(M++S).toArray[i]?=some M[i]:=by rw[List.getElem?_toArray,List.getElem?_append_left hi];simp
  simp only[eD,ho',Bool.and_eq_true,hk,Nat.blt_eq] at this
  exact this.1.1.2
 | true=>
  refine wpIn_region_any hmix ?_
  obtain⟨As,hAs,hK⟩:=oT M 0 L (fun j hj=>by rw[Nat.zero_add,List.getElem?_toArray,List.getElem?_append_left hj]) h
  have hext:Γ w { w with drawn:=w.drawn+1 }:=Gro.drew w
  have:=oU (P:=P) (ops:=(M++S).toArray) (Q:=Q) (w0:=w) (n:=n) (ds:=ds) (m:=M.length) (L:=L) (As:=As) hm h1 (fun i hi hi'=>by
    rcases h2 i hi' with h|h
    ·simp only[Nat.blt_eq] at h;omega
    ·exact h) (fun j o hj ho=>hAs j o hj (by simpa using ho)) (fun a w hx hf=>by simpa using hK a w hx hf) M.length
   (Array.replicate (M++S).toArray.size false) a { w with drawn:=w.drawn+1 } ?_ (by simp) ?_ ?_ ⟨hext,hf.size,hf.defers,fun t A ht _=>A.st _ _ _ hext (hf.val t A ht),fun i hi hl=>?_⟩
  ·rwa [show M.length+((M++S).toArray.size - M.length)=(M++S).toArray.size by simp] at this
  ·have:(List.range M.length).countP (fun i => !(Array.replicate (M++S).toArray.size false).getD i true)=(List.range M.length).length:=by
    refine List.countP_eq_length.2 fun i hi=>?_
    have:=List.mem_range.1 hi
    have hlt:i<M.length+S.length:=by omega
    simp[hlt]
   simpa using this
  ·intro j _ hj
   have hlt:j<M.length+S.length:=by simpa using hj
   simp[hlt]
  ·intro i o hl
   have:(Array.replicate (M++S).toArray.size false).getD i false=false:=by
    by_cases hlt:i<M.length+S.length <;> simp[hlt]
   rw[this] at hl;cases hl
  ·have:(Array.replicate (M++S).toArray.size false).getD i false=false:=by
    by_cases hlt:i<M.length+S.length <;> simp[hlt]
   rw[this] at hl;cases hl
theorem reg [Gro Γ]{id:Nat}{draw:Bool}{ops:Array Oper}{L:(aY Γ)}{a:Act}{w:World}(m:Nat)(hmix:P.follows .mixedOrders=true)(hf:FrD n ds a w L)(hchk:chk ops m n=true)
  (h:cy P ops w (ops.toList.take m) (fun L'=>∀a' w',Γ w w'→FrD n ds a' w' L'→wpListIn (FW r) 0 P ops Q (ops.toList.drop m) a' w') L):(Code.region id ops draw).wpIn (FW r) 0 P Q a w:=by
 have e:(ops.toList.take m++ops.toList.drop m).toArray=ops:=by simp
 have hl:(ops.toList.take m).length=m:=by
  simp only[chk,Bool.and_eq_true,Nat.ble_eq] at hchk
  simp
  omega
 have:=vw (P:=P) (Q:=Q) (n:=n) (ds:=ds) (id:=id) (draw:=draw) (M:=ops.toList.take m) (S:=ops.toList.drop m) (L:=L) (a:=a) (w:=w) hmix (by rw[e,hl];exact hchk) hf (by rw[e];exact h)
 rwa [e] at this
theorem aN [Gro Γ]{id:Nat}{ops:Array Oper}{L:(aY Γ)}{a:Act}{w:World}(m:Nat)(hf:FrD n ds a w L)(hchk:((ops.toList.take m).all fun o=>match o.dst with|some d=>Nat.blt d n|none=>true)=true)
  (h:cy P ops w (ops.toList.take m) (fun L'=>∀a' w',Γ w w'→FrD n ds a' w' L'→wpListIn (FW r) 0 P ops Q (ops.toList.drop m) a' w') L):(Code.region id ops false).wpIn (FW r) 0 P Q a w:=by
 have e:ops.toList.take m++ops.toList.drop m=ops.toList:=by simp
 refine wpIn_region_list ?_
 rw[← e]
 refine lZ (ops.toList.drop m) (ops.toList.take m) L a w (fun o ho k hk=>?_) (Gro.rfl' _) hf h
 have:=List.all_eq_true.1 hchk o ho
 simpa[hk,Nat.blt_eq] using this
theorem ae {id:Nat}{ops:Array Oper}{a:Act}{w:World}(h:wpListIn (FW r) 0 P ops Q ops.toList a w):(Code.region id ops false).wpIn (FW r) 0 P Q a w:=wpIn_region_list h
theorem rgN [Gro Γ]{id:Nat}{ops:Array Oper}{L:(aY Γ)}{a:Act}{w:World}(m:Nat)(hf:FrD n ds a w L)
  (h:cy P ops w (ops.toList.take m) (fun L'=>∀a' w',Γ w w'→FrD n ds a' w' L'→wpListIn (FW r) 0 P ops Q (ops.toList.drop m) a' w') L) (hchk:((ops.toList.take m).all fun o=>match o.dst with|some d=>Nat.blt d n|none=>true)=true:=by decide +kernel):(Code.region id ops false).wpIn (FW r) 0 P Q a w:=aN m hf hchk h
theorem rgG [Gro Γ]{id:Nat}{draw:Bool}{ops:Array Oper}{L:(aY Γ)}{a:Act}{w:World}(m:Nat)(hmix:P.follows .mixedOrders=true)(hf:FrD n ds a w L)
  (h:cy P ops w (ops.toList.take m) (fun L'=>∀a' w',Γ w w'→FrD n ds a' w' L'→wpListIn (FW r) 0 P ops Q (ops.toList.drop m) a' w') L) (hchk:chk ops m n=true:=by decide +kernel):(Code.region id ops draw).wpIn (FW r) 0 P Q a w:=reg m hmix hf hchk h
end reg
class Ug (w w':World)(P:Prop)(P':outParam Prop):Prop where
 up:Ext w w'→P→P'
class Gg (b:Nat)(w w':World)(P:Prop)(S P':outParam Prop):Prop where
 gr:w.grownBy w' (some b)→S→P→P'
section
variable {W w w':World}{b N:Nat}
instance:Ug w w' (Ext W w) (Ext W w'):=⟨fun e h=>h.tr e⟩
instance {A:VA}{v:Value}:Ug w w' (A.p v w) (A.p v w'):=⟨fun e h=>A.st _ _ _ e h⟩
instance:Ug w w' (N≤w.heap.size) (N≤w'.heap.size):=⟨fun e h=>Nat.le_trans h e.size⟩
instance:Gg b w w' (N≤w.heap.size) (0=0) (N≤w'.heap.size):=⟨fun g _ h=>Nat.le_trans h g.size⟩
variable {P1 Q1 P2 Q2 P3 Q3 P4 Q4 P5 Q5 P6 Q6 P7 Q7 P8 Q8 P9 Q9:Prop}
theorem up2 [Ug w w' P1 Q1][Ug w w' P2 Q2](e:Ext w w')(h1:P1)(h2:P2):Q1∧Q2:=⟨Ug.up e h1,Ug.up e h2⟩
theorem up3 [Ug w w' P1 Q1][Ug w w' P2 Q2][Ug w w' P3 Q3](e:Ext w w')(h1:P1)(h2:P2)(h3:P3):Q1∧Q2∧Q3:=⟨Ug.up e h1,Ug.up e h2,Ug.up e h3⟩
theorem up4 [Ug w w' P1 Q1][Ug w w' P2 Q2][Ug w w' P3 Q3][Ug w w' P4 Q4](e:Ext w w')(h1:P1)(h2:P2)(h3:P3)(h4:P4):Q1∧Q2∧Q3∧Q4:=⟨Ug.up e h1,Ug.up e h2,Ug.up e h3,Ug.up e h4⟩
theorem up5 [Ug w w' P1 Q1][Ug w w' P2 Q2][Ug w w' P3 Q3][Ug w w' P4 Q4][Ug w w' P5 Q5](e:Ext w w')(h1:P1)(h2:P2)(h3:P3)(h4:P4)(h5:P5):Q1∧Q2∧Q3∧Q4∧Q5:=⟨Ug.up e h1,Ug.up e h2,Ug.up e h3,Ug.up e h4,Ug.up e h5⟩
theorem up6 [Ug w w' P1 Q1][Ug w w' P2 Q2][Ug w w' P3 Q3][Ug w w' P4 Q4][Ug w w' P5 Q5][Ug w w' P6 Q6](e:Ext w w')(h1:P1)(h2:P2)(h3:P3)(h4:P4)(h5:P5)(h6:P6):Q1∧Q2∧Q3∧Q4∧Q5∧Q6:=⟨Ug.up e h1,Ug.up e h2,Ug.up e h3,Ug.up e h4,Ug.up e h5,Ug.up e h6⟩
theorem up7 [Ug w w' P1 Q1][Ug w w' P2 Q2][Ug w w' P3 Q3][Ug w w' P4 Q4][Ug w w' P5 Q5][Ug w w' P6 Q6][Ug w w' P7 Q7](e:Ext w w')(h1:P1)(h2:P2)(h3:P3)(h4:P4)(h5:P5)(h6:P6)(h7:P7):Q1∧Q2∧Q3∧Q4∧Q5∧Q6∧Q7:=⟨Ug.up e h1,Ug.up e h2,Ug.up e h3,Ug.up e h4,Ug.up e h5,Ug.up e h6,Ug.up e h7⟩
theorem up8 [Ug w w' P1 Q1][Ug w w' P2 Q2][Ug w w' P3 Q3][Ug w w' P4 Q4][Ug w w' P5 Q5][Ug w w' P6 Q6][Ug w w' P7 Q7][Ug w w' P8 Q8](e:Ext w w')(h1:P1)(h2:P2)(h3:P3)(h4:P4)(h5:P5)(h6:P6)(h7:P7)(h8:P8):Q1∧Q2∧Q3∧Q4∧Q5∧Q6∧Q7∧Q8:=⟨Ug.up e h1,Ug.up e h2,Ug.up e h3,Ug.up e h4,Ug.up e h5,Ug.up e h6,Ug.up e h7,Ug.up e h8⟩
theorem up9 [Ug w w' P1 Q1][Ug w w' P2 Q2][Ug w w' P3 Q3][Ug w w' P4 Q4][Ug w w' P5 Q5][Ug w w' P6 Q6][Ug w w' P7 Q7][Ug w w' P8 Q8][Ug w w' P9 Q9](e:Ext w w')(h1:P1)(h2:P2)(h3:P3)(h4:P4)(h5:P5)(h6:P6)(h7:P7)(h8:P8)(h9:P9):Q1∧Q2∧Q3∧Q4∧Q5∧Q6∧Q7∧Q8∧Q9:=⟨Ug.up e h1,Ug.up e h2,Ug.up e h3,Ug.up e h4,Ug.up e h5,Ug.up e h6,Ug.up e h7,Ug.up e h8,Ug.up e h9⟩
variable {S1 S2 S3 S4 S5 S6 S7 S8 S9:Prop}
theorem gr2 [Gg b w w' P1 S1 Q1][Gg b w w' P2 S2 Q2](g:w.grownBy w' (some b))(h1:P1)(h2:P2)(s:S1∧S2:=by omega):Q1∧Q2:=⟨Gg.gr g s.1 h1,Gg.gr g s.2 h2⟩
theorem gr3 [Gg b w w' P1 S1 Q1][Gg b w w' P2 S2 Q2][Gg b w w' P3 S3 Q3](g:w.grownBy w' (some b))(h1:P1)(h2:P2)(h3:P3)(s:S1∧S2∧S3:=by omega):Q1∧Q2∧Q3:=⟨Gg.gr g s.1 h1,Gg.gr g s.2.1 h2,Gg.gr g s.2.2 h3⟩
theorem gr4 [Gg b w w' P1 S1 Q1][Gg b w w' P2 S2 Q2][Gg b w w' P3 S3 Q3][Gg b w w' P4 S4 Q4](g:w.grownBy w' (some b))(h1:P1)(h2:P2)(h3:P3)(h4:P4)(s:S1∧S2∧S3∧S4:=by omega):Q1∧Q2∧Q3∧Q4:=⟨Gg.gr g s.1 h1,Gg.gr g s.2.1 h2,Gg.gr g s.2.2.1 h3,Gg.gr g s.2.2.2 h4⟩
theorem gr5 [Gg b w w' P1 S1 Q1][Gg b w w' P2 S2 Q2][Gg b w w' P3 S3 Q3][Gg b w w' P4 S4 Q4][Gg b w w' P5 S5 Q5](g:w.grownBy w' (some b))(h1:P1)(h2:P2)(h3:P3)(h4:P4)(h5:P5)(s:S1∧S2∧S3∧S4∧S5:=by omega):Q1∧Q2∧Q3∧Q4∧Q5:=⟨Gg.gr g s.1 h1,Gg.gr g s.2.1 h2,Gg.gr g s.2.2.1 h3,Gg.gr g s.2.2.2.1 h4,Gg.gr g s.2.2.2.2 h5⟩
theorem gr6 [Gg b w w' P1 S1 Q1][Gg b w w' P2 S2 Q2][Gg b w w' P3 S3 Q3][Gg b w w' P4 S4 Q4][Gg b w w' P5 S5 Q5][Gg b w w' P6 S6 Q6](g:w.grownBy w' (some b))(h1:P1)(h2:P2)(h3:P3)(h4:P4)(h5:P5)(h6:P6)(s:S1∧S2∧S3∧S4∧S5∧S6:=by omega):Q1∧Q2∧Q3∧Q4∧Q5∧Q6:=⟨Gg.gr g s.1 h1,Gg.gr g s.2.1 h2,Gg.gr g s.2.2.1 h3,Gg.gr g s.2.2.2.1 h4,Gg.gr g s.2.2.2.2.1 h5,Gg.gr g s.2.2.2.2.2 h6⟩
end
end Go.Mono
namespace Go.Mono
open Go Go.RowKit
variable {Γ:World→World→Prop}

variable {P:Program}{w0:World}{L:(aY Γ)}{dst:Option Tmp}{ty:TypeId}{pos:String}{aft:Array Edge}{g:Option (Nat×Bool)}{r:Option Nat}{ds:List Deferred}
theorem aM [Gro Γ]{o:Oper}{A:(VAr Γ)}(h:∀ρ w,Γ w0 w→(∀x∈o.op.operands,∀B,opd L x=some B→B.p (ρ x) w)→∃v,(execOp ρ o).run P w=.ok (.value v) w∧A.p v w):OpC P w0 L o A:=by
 refine⟨fun ρ w he hv=>?_⟩
 obtain⟨v,h1,h2⟩:=h ρ w he hv
 simp only[OpR,h1]
 exact⟨Gro.rfl' _,h2⟩

theorem opE {ρ:Operand→Value}{w:World}{o:Oper}(hv:∀x∈o.op.operands,∀B,opd L x=some B→B.p (ρ x) w){x:Operand}{v:Value}(hx:x∈o.op.operands)(h:opd L x=some (ER v)):ρ x=v:=hv x hx _ h

theorem mv [Gro Γ]{x:Operand}{A:(VAr Γ)}(h:opd L x=some A):OpC P w0 L ⟨dst,.move x,ty,pos,aft,g⟩ A:=
 aM fun ρ w _ hv=>⟨ρ x,rfl,hv x (by simp[Op.operands]) A h⟩
theorem asg [Gro Γ]{x:Operand}{A:(VAr Γ)}(h:opd L x=some A):OpC P w0 L ⟨dst,.assign x,ty,pos,aft,g⟩ A:=
 aM fun ρ w _ hv=>⟨ρ x,rfl,hv x (by simp[Op.operands]) A h⟩

theorem pkT [Gro Γ]{c x y:Operand}{A:(VAr Γ)}(hc:opd L c=some (ER (.bool true)))(hx:opd L x=some A):OpC P w0 L ⟨dst,.pick c x y,ty,pos,aft,g⟩ A:=
 aM fun ρ w _ hv=>by
  have h1:=opE hv (x:=c) (by simp[Op.operands]) hc
  exact⟨ρ x,by simp[execOp,h1,asBool],hv x (by simp[Op.operands]) A hx⟩
theorem pkF [Gro Γ]{c x y:Operand}{A:(VAr Γ)}(hc:opd L c=some (ER (.bool false)))(hy:opd L y=some A):OpC P w0 L ⟨dst,.pick c x y,ty,pos,aft,g⟩ A:=
 aM fun ρ w _ hv=>by
  have h1:=opE hv (x:=c) (by simp[Op.operands]) hc
  exact⟨ρ y,by simp[execOp,h1,asBool],hv y (by simp[Op.operands]) A hy⟩

theorem bA [Gro Γ]{x:Operand}{t:TypeId}{b:Bool}(h:opd L x=some (ER (.bool b))):OpC P w0 L ⟨dst,.unOp .not t x,ty,pos,aft,g⟩ (ER (.bool !b)):=
 aM fun ρ w _ hv=>by
  have h1:=opE hv (x:=x) (by simp[Op.operands]) h
  exact⟨_,by simp[execOp,h1,Op.unary],rfl⟩

section num
variable {x y:Operand}{k:IntKind}{a b:Int}{t yt:TypeId}

theorem ce [Gro Γ]{op:BinOp}{v:Value}(hop:(binOp op t (.int k a) (.int k b))=pure v)(hx:opd L x=some (ER (.int k a)))(hy:opd L y=some (ER (.int k b))) :
  OpC P w0 L ⟨dst,.binOp op t x y yt,ty,pos,aft,g⟩ (ER v):=
 aM fun ρ w _ hv=>by
  have h1:=opE hv (x:=x) (by simp[Op.operands]) hx
  have h2:=opE hv (x:=y) (by simp[Op.operands]) hy
  refine⟨v,?_,rfl⟩
  have hg:(eqGuard op t x y (.int k a) (.int k b)).run P w=.ok () w:=by
   unfold eqGuard
   split <;> rfl
  simp[execOp,h1,h2,hg,hop]

theorem add [Gro Γ](hx:opd L x=some (ER (.int .i64 a)))(hy:opd L y=some (ER (.int .i64 b)))(h : -9223372036854775808≤a+b∧a+b≤9223372036854775807) :
  OpC P w0 L ⟨dst,.binOp .add t x y yt,ty,pos,aft,g⟩ (ER (.int .i64 (a+b))):=
 ce (by simp[binOp,Op.intArith,IntWalk.i64_in _ h]) hx hy
theorem sub [Gro Γ](hx:opd L x=some (ER (.int .i64 a)))(hy:opd L y=some (ER (.int .i64 b)))(h : -9223372036854775808≤a - b∧a - b≤9223372036854775807) :
  OpC P w0 L ⟨dst,.binOp .sub t x y yt,ty,pos,aft,g⟩ (ER (.int .i64 (a - b))):=
 ce (by simp[binOp,Op.intArith,IntWalk.i64_in _ h]) hx hy
theorem mul [Gro Γ](hx:opd L x=some (ER (.int .i64 a)))(hy:opd L y=some (ER (.int .i64 b)))(h : -9223372036854775808≤a * b∧a * b≤9223372036854775807) :
  OpC P w0 L ⟨dst,.binOp .mul t x y yt,ty,pos,aft,g⟩ (ER (.int .i64 (a * b))):=
 ce (by simp[binOp,Op.intArith,IntWalk.i64_in _ h]) hx hy
theorem quo [Gro Γ](hx:opd L x=some (ER (.int .i64 a)))(hy:opd L y=some (ER (.int .i64 b)))(h:0≤a∧a≤9223372036854775807∧0<b) :
  OpC P w0 L ⟨dst,.binOp .quo t x y yt,ty,pos,aft,g⟩ (ER (.int .i64 (a / b))):=by
 refine ce ?_ hx hy
 have h1:a.tdiv b=a / b:=Int.tdiv_eq_ediv_of_nonneg h.1
 have h2:0≤a / b:=Int.ediv_nonneg h.1 (by omega)
 have h3:a / b≤a:=Int.ediv_le_self b h.1
 have hb:b≠0:=by omega
 simp[binOp,Op.intDiv,hb,h1,IntWalk.i64_in (a / b) (by omega)]
theorem rem [Gro Γ](hx:opd L x=some (ER (.int .i64 a)))(hy:opd L y=some (ER (.int .i64 b)))(h:0≤a∧0<b) :
  OpC P w0 L ⟨dst,.binOp .rem t x y yt,ty,pos,aft,g⟩ (ER (.int .i64 (a % b))):=by
 refine ce ?_ hx hy
 have h1:a.tmod b=a % b:=Int.tmod_eq_emod_of_nonneg h.1
 have hb:b≠0:=by omega
 simp[binOp,Op.intDiv,hb,h1]

theorem eql [Gro Γ](hx:opd L x=some (ER (.int k a)))(hy:opd L y=some (ER (.int k b))):OpC P w0 L ⟨dst,.binOp .eql t x y yt,ty,pos,aft,g⟩ (ER (.bool (a==b))):=
 ce (by simp[binOp,Op.intCmp]) hx hy
theorem neq [Gro Γ](hx:opd L x=some (ER (.int k a)))(hy:opd L y=some (ER (.int k b))):OpC P w0 L ⟨dst,.binOp .neq t x y yt,ty,pos,aft,g⟩ (ER (.bool (a != b))):=
 ce (by simp[binOp,Op.intCmp]) hx hy
theorem lss [Gro Γ](hx:opd L x=some (ER (.int k a)))(hy:opd L y=some (ER (.int k b))):OpC P w0 L ⟨dst,.binOp .lss t x y yt,ty,pos,aft,g⟩ (ER (.bool (decide (a<b)))):=
 ce (by simp[binOp,Op.intCmp]) hx hy
theorem leq [Gro Γ](hx:opd L x=some (ER (.int k a)))(hy:opd L y=some (ER (.int k b))):OpC P w0 L ⟨dst,.binOp .leq t x y yt,ty,pos,aft,g⟩ (ER (.bool (decide (a≤b)))):=
 ce (by simp[binOp,Op.intCmp]) hx hy
theorem gtr [Gro Γ](hx:opd L x=some (ER (.int k a)))(hy:opd L y=some (ER (.int k b))):OpC P w0 L ⟨dst,.binOp .gtr t x y yt,ty,pos,aft,g⟩ (ER (.bool (decide (b<a)))):=
 ce (by simp[binOp,Op.intCmp]) hx hy
theorem geq [Gro Γ](hx:opd L x=some (ER (.int k a)))(hy:opd L y=some (ER (.int k b))):OpC P w0 L ⟨dst,.binOp .geq t x y yt,ty,pos,aft,g⟩ (ER (.bool (decide (b≤a)))):=
 ce (by simp[binOp,Op.intCmp]) hx hy
end num
theorem jN [Gro Γ]{x y:Operand}{t yt:TypeId}{u v:Value}{b:Bool}(hx:opd L x=some (ER u))(hy:opd L y=some (ER v))(hn:∀w,(eqGuard .eql t x y u v).run P w=.ok () w)
  (hop:binOp .eql t u v=(do pure (.bool (← Op.equal t u v)))) (he:∀w,Γ w0 w→(Op.equal t u v).run P w=.ok b w):OpC P w0 L ⟨dst,.binOp .eql t x y yt,ty,pos,aft,g⟩ (ER (.bool b)):=
 aM fun ρ w hw hv=>by
  have h1:=opE hv (x:=x) (by simp[Op.operands]) hx
  have h2:=opE hv (x:=y) (by simp[Op.operands]) hy
  exact⟨_,by simp only[execOp,h1,h2,Sem.run_bind,hn w,Result.andThen_ok,hop,he w hw,Sem.run_pure],rfl⟩
theorem oV [Gro Γ]{x y:Operand}{t yt:TypeId}{u v:Value}{b:Bool}(hx:opd L x=some (ER u))(hy:opd L y=some (ER v))(hn:∀w,(eqGuard .neq t x y u v).run P w=.ok () w)
  (hop:binOp .neq t u v=(do pure (.bool (!(← Op.equal t u v))))) (he:∀w,Γ w0 w→(Op.equal t u v).run P w=.ok b w):OpC P w0 L ⟨dst,.binOp .neq t x y yt,ty,pos,aft,g⟩ (ER (.bool !b)):=
 aM fun ρ w hw hv=>by
  have h1:=opE hv (x:=x) (by simp[Op.operands]) hx
  have h2:=opE hv (x:=y) (by simp[Op.operands]) hy
  exact⟨_,by simp only[execOp,h1,h2,Sem.run_bind,hn w,Result.andThen_ok,hop,he w hw,Sem.run_pure],rfl⟩
def Tup (As:List (VAr Γ)):(VAr Γ):=⟨fun v w=>∃vs:List Value,v=.tuple vs.toArray∧vs.length=As.length∧∀(i:Nat) (A:(VAr Γ)),As[i]?=some A→A.p (vs.getD i undef) w,
 fun _ w w' e ⟨vs,h1,h2,h3⟩=>⟨vs,h1,h2,fun i (A:(VAr Γ)) h=>A.st _ w w' e (h3 i A h)⟩⟩

theorem aO [Gro Γ]{x:Operand}{As:List (VAr Γ)}{i:Nat}{A:(VAr Γ)}(hx:opd L x=some (Tup As))(hi:As[i]?=some A):OpC P w0 L ⟨dst,.extract x i,ty,pos,aft,g⟩ A:=
 aM fun ρ w _ hv=>by
  obtain⟨vs,h1,h2,h3⟩:=hv x (by simp[Op.operands]) _ hx
  have hlt:i<vs.length:=by have:=(List.getElem?_eq_some_iff.1 hi).1;omega
  exact⟨vs.getD i undef,by simp[execOp,h1,Instr.extract,hlt],h3 i A hi⟩

theorem Tup.two {A B:(VAr Γ)}{u v:Value}{w:World}(h1:A.p u w)(h2:B.p v w):(Tup [A,B]).p (.tuple #[u,v]) w:=
 ⟨[u,v],rfl,rfl,fun i C h=>by
  match i with
  | 0=>simp at h;subst h;exact h1
  | 1=>simp at h;subst h;exact h2
  | i+2=>simp at h⟩
theorem Tup.three {A B C:(VAr Γ)}{u v x:Value}{w:World}(h1:A.p u w)(h2:B.p v w)(h3:C.p x w):(Tup [A,B,C]).p (.tuple #[u,v,x]) w:=
 ⟨[u,v,x],rfl,rfl,fun i D h=>by
  match i with
  | 0=>simp at h;subst h;exact h1
  | 1=>simp at h;subst h;exact h2
  | 2=>simp at h;subst h;exact h3
  | i+3=>simp at h⟩

abbrev gC (A:(VAr Γ))(w:World):Ending→World→Prop:=fun e w'=>∃v,e=.returned v∧Γ w w'∧A.p v w'
abbrev Post (A:VA)(w:World):Ending→World→Prop:=gC A w

theorem iN {f:FuncId}{xs:Array Operand}{tys:Array TypeId}{A:(VAr Γ)}(hf:Proofs.Enters P f)
  (h:∀ρ w,Γ w0 w→(∀x∈(Op.call ⟨.value (.func f),xs,tys⟩).operands,∀B,opd L x=some B→B.p (ρ x) w)→Calls P f (xs.map ρ) w (gC A w)) :
  OpC P w0 L ⟨dst,.call ⟨.value (.func f),xs,tys⟩,ty,pos,aft,g⟩ A:=by
 refine⟨fun ρ w he hv=>?_⟩
 have hfv:ρ (.func f)=.func (.func f) #[] #[]:=hv (.func f) (by simp[Op.operands,Call.operands]) _ rfl
 have hrun:(execOp ρ ⟨dst,.call ⟨.value (.func f),xs,tys⟩,ty,pos,aft,g⟩).run P w=.ok (.enter f (xs.map ρ)) w:=by
  simp[execOp,resolve,hfv,Deferred.ofValue,invoke,hf (xs.map ρ) w]
 simp only[OpR,hrun]
 exact h ρ w he hv

theorem gD {f:FuncId}{tys:Array TypeId}{A:(VAr Γ)}(hf:Proofs.Enters P f)(h:∀w,Γ w0 w→Calls P f #[] w (gC A w)) :
  OpC P w0 L ⟨dst,.call ⟨.value (.func f),#[],tys⟩,ty,pos,aft,g⟩ A:=
 iN hf fun ρ w he hv=>by simpa using h w he
theorem an {f:FuncId}{x:Operand}{tys:Array TypeId}{A B:(VAr Γ)}(hf:Proofs.Enters P f)(hx:opd L x=some B)(h:∀v w,Γ w0 w→B.p v w→Calls P f #[v] w (gC A w)) :
  OpC P w0 L ⟨dst,.call ⟨.value (.func f),#[x],tys⟩,ty,pos,aft,g⟩ A:=
 iN hf fun ρ w he hv=>by simpa using h (ρ x) w he (hv x (by simp[Op.operands,Call.operands]) _ hx)
theorem ar {f:FuncId}{x y:Operand}{tys:Array TypeId}{A B C:(VAr Γ)}(hf:Proofs.Enters P f)(hx:opd L x=some B)(hy:opd L y=some C)
  (h:∀v u w,Γ w0 w→B.p v w→C.p u w→Calls P f #[v,u] w (gC A w)) :
  OpC P w0 L ⟨dst,.call ⟨.value (.func f),#[x,y],tys⟩,ty,pos,aft,g⟩ A:=
 iN hf fun ρ w he hv=>by simpa using h (ρ x) (ρ y) w he (hv x (by simp[Op.operands,Call.operands]) _ hx) (hv y (by simp[Op.operands,Call.operands]) _ hy)
theorem gE {f:FuncId}{x y z:Operand}{tys:Array TypeId}{A B C D:(VAr Γ)}(hf:Proofs.Enters P f)(hx:opd L x=some B)(hy:opd L y=some C)(hz:opd L z=some D)
  (h:∀v u s w,Γ w0 w→B.p v w→C.p u w→D.p s w→Calls P f #[v,u,s] w (gC A w)) :
  OpC P w0 L ⟨dst,.call ⟨.value (.func f),#[x,y,z],tys⟩,ty,pos,aft,g⟩ A:=
 iN hf fun ρ w he hv=>by
  simpa using h (ρ x) (ρ y) (ρ z) w he (hv x (by simp[Op.operands,Call.operands]) _ hx) (hv y (by simp[Op.operands,Call.operands]) _ hy) (hv z (by simp[Op.operands,Call.operands]) _ hz)

section guards
variable {ops:Array Oper}{rest:List Oper}{K:(aY Γ)→Prop}{A:(VAr Γ)}{op:Op}{dd:Nat}
theorem st (h:OpC P w0 L ⟨some dd,op,ty,pos,aft,none⟩ A)(k:cy P ops w0 rest K ((dd,A)::L)):cy P ops w0 (⟨some dd,op,ty,pos,aft,none⟩::rest) K L:=
 ⟨A,fun a w he hv _=>by simp only[Region.wanted,if_true];exact h.out _ w he hv,k⟩
theorem jO {a:Act}{d:Nat}{b:Bool}{i:Nat}(hd:(ops[i]?).bind (·.dst)=some d)(h:a.eval (.tmp d)=.bool b):yielded ops a.tmps i=some b:=by
 unfold yielded
 rw[hd]
 simp only[Act.eval] at h
 have:a.tmps[d]?=some (.bool b):=by
  cases hh:a.tmps[d]? with
  | none=>simp[hh,undef] at h
  | some v=>simpa[hh] using h
 simp[this]
theorem sy {i d:Nat}{want:Bool}(hd:(ops[i]?).bind (·.dst)=some d)(hl:aC L d=some (ER (.bool want)))
  (h:OpC P w0 L ⟨some dd,op,ty,pos,aft,some (i,want)⟩ A) (k:cy P ops w0 rest K ((dd,A)::L)):cy P ops w0 (⟨some dd,op,ty,pos,aft,some (i,want)⟩::rest) K L:=
 ⟨A,fun a w he hv hgd=>by
  have h1:a.eval (.tmp d)=.bool want:=hgd d _ (by simp[cx,hd]) hl
  have h2:=jO (ops:=ops) hd h1
  simp only[Region.wanted,h2,beq_self_eq_true,if_true]
  exact h.out _ w he hv,k⟩
theorem sn {i d:Nat}{want b:Bool}(hd:(ops[i]?).bind (·.dst)=some d)(hl:aC L d=some (ER (.bool b)))(hb:b = !want)
  (k:cy P ops w0 rest K ((dd,ER undef)::L)):cy P ops w0 (⟨some dd,op,ty,pos,aft,some (i,want)⟩::rest) K L:=
 ⟨ER undef,fun a w he hv hgd=>by
  have h1:a.eval (.tmp d)=.bool b:=hgd d _ (by simp[cx,hd]) hl
  have h2:=jO (ops:=ops) hd h1
  have h3:(some b==some want)=false:=by subst hb;cases want <;> rfl
  simp only[Region.wanted,h2,h3]
  rfl,k⟩
theorem en (h:K L):cy P ops w0 [] K L:=h
end guards

section tail
variable {ops:Array Oper}{rest:List Oper}{Q:Exit→Act→World→Prop}{n:Nat}{a:Act}{w:World}

theorem aa (h:Q .normal a w):wpListIn (FW r) 0 P ops Q [] a w:=h
theorem oW [Gro Γ]{op:Op}{d:Nat}{A:(VAr Γ)}(hf:FrD n ds a w L)(hd:d<n)(h:OpC P w L ⟨some d,op,ty,pos,aft,none⟩ A)
  (k:∀a' w',Γ w w'→FrD n ds a' w' ((d,A)::L)→wpListIn (FW r) 0 P ops Q rest a' w'):wpListIn (FW r) 0 P ops Q (⟨some d,op,ty,pos,aft,none⟩::rest) a w:=
 wpListIn_plain rfl fun K hK=>(h.out a.eval w (Gro.rfl' _) (fun x _ B hB=>hf.opd x B hB)).wp fun v w' hv=>hK _ _ (k _ _ hv.1 (hf.put (d:=some d) hv.1 (fun k hk=>by cases hk;exact hd) hv.2))
theorem aI [Gro Γ]{x:Operand}{A:(VAr Γ)}{d:Nat}(hf:FrD n ds a w L)(h:opd L x=some A)(hd:d<n)(k:∀a',FrD n ds a' w ((d,A)::L)→wpListIn (FW r) 0 P ops Q rest a' w) :
  wpListIn (FW r) 0 P ops Q (⟨some d,.assign x,ty,pos,aft,none⟩::rest) a w:=
 wpListIn_plain rfl fun K hK=>by
  refine OpR.wp (R:=fun v w'=>w'=w∧v=a.eval x) (by simp[OpR,execOp]) ?_
  rintro v w' ⟨rfl,rfl⟩
  exact hK _ _ (k _ (hf.put (d:=some d) (Gro.rfl' _) (fun k hk=>by cases hk;exact hd) (hf.opd x A h)))
theorem tA [Gro Γ]{x:Operand}{A:(VAr Γ)}{d:Nat}(hf:FrD n ds a w L)(h:opd L x=some A)(k:∀a',FrD n ds a' w ((d,A)::L)→wpListIn (FW r) 0 P ops Q rest a' w)(hd:d<n:=by decide) :
  wpListIn (FW r) 0 P ops Q (⟨some d,.assign x,ty,pos,aft,none⟩::rest) a w:=aI hf h hd k
theorem tP [Gro Γ]{op:Op}{d:Nat}{A:(VAr Γ)}(hf:FrD n ds a w L)(h:OpC P w L ⟨some d,op,ty,pos,aft,none⟩ A)
  (k:∀a' w',Γ w w'→FrD n ds a' w' ((d,A)::L)→wpListIn (FW r) 0 P ops Q rest a' w') (hd:d<n:=by decide):wpListIn (FW r) 0 P ops Q (⟨some d,op,ty,pos,aft,none⟩::rest) a w:=oW hf hd h k
end tail

def keep (ks:List Nat)(L:(aY Γ)):(aY Γ):=ks.filterMap fun k=>(aC L k).map fun A=>(k,A)
theorem ma (L:(aY Γ)):∀(ks:List Nat) t A,aC (keep ks L) t=some A→aC L t=some A
 | [],t,A,h=>by simp[keep,aC] at h
 | k::ks,t,A,h=>by
  simp only[keep,List.filterMap_cons] at h
  cases hk:aC L k with
  | none=>rw[hk] at h;exact ma L ks t A h
  | some B=>
   rw[hk] at h
   simp only[Option.map_some] at h
   by_cases hkt:k=t
   ·subst hkt
    rw[cT] at h
    rw[hk];exact h
   ·rw[cU _ _ hkt] at h
    exact ma L ks t A h
theorem FrD.keep {n:Nat}{a:Act}{w:World}(h:FrD n ds a w L)(ks:List Nat):FrD n ds a w (Mono.keep ks L):=
 ⟨h.size,h.defers,fun t A ht=>h.val t A (ma L ks t A ht)⟩
theorem FrD.kp {n:Nat}{a:Act}{w:World}(h:FrD n ds a w L)(ks:List Nat){L':aY Γ}(hL:Mono.keep ks L=L':=by dsimp only[keep,List.filterMap,aC,Nat.beq,Option.map] <;> rfl):FrD n ds a w L':=hL▸h.keep ks
theorem FrD.cons {n:Nat}{a:Act}{w:World}{k:Nat}{A:(VAr Γ)}(hv:A.p (a.eval (.tmp k)) w)(h:FrD n ds a w L):FrD n ds a w ((k,A)::L):=
 ⟨h.size,h.defers,fun t B ht=>by
  by_cases hkt:k=t
  ·subst hkt;rw[cT] at ht;cases ht;exact hv
  ·rw[cU _ _ hkt] at ht;exact h.val t B ht⟩
theorem FrD.nil {n:Nat}{a:Act}{w:World}(h:FrD n ds a w L):FrD n ds a w ([]:aY Γ):=⟨h.size,h.defers,fun t A ht=>by simp[aC] at ht⟩
theorem FrD.weak {n:Nat}{a:Act}{w:World}{k:Nat}{A B:(VAr Γ)}(h:FrD n ds a w ((k,A)::L))(hAB:∀v,A.p v w→B.p v w):FrD n ds a w ((k,B)::L):=
 ⟨h.size,h.defers,fun t C ht=>by
  by_cases hkt:k=t
  ·subst hkt;rw[cT] at ht;cases ht;exact hAB _ (h.val k A (cT _ _ _))
  ·rw[cU _ _ hkt] at ht;exact h.val t C (by rw[cU _ _ hkt];exact ht)⟩

theorem least {p:Nat→Prop}(h:∃n,p n):∃n,p n∧∀m,m<n→¬p m:=by
 obtain⟨n,hn⟩:=h
 induction n using Nat.strongRecOn with
 | _ n ih=>
  by_cases hm:∃m,m<n∧p m
  ·obtain⟨m,hm,hp⟩:=hm
   exact ih m hm hp
  ·exact⟨n,hn,fun m hlt hp=>hm ⟨m,hlt,hp⟩⟩
open Classical in
theorem aJ {ro:Option Nat}{c:Code}{Q:Exit→Act→World→Prop}{a:Act}{w:World}(J:Nat→Act→World→Prop)(k:Nat)(h0:J k a w)
  (round:∀r a w,J r a w→c.wpIn (FW ro) 0 P (Exit.then (fun a' w'=>∃m,m<r∧J m a' w') Q) a w):(Code.loop c).wpIn (FW ro) 0 P Q a w:=by
 refine wpIn_loop (fun a w=>∃r,J r a w) (fun a w=>if h:∃r,J r a w then Classical.choose (least h) else 0) ⟨k,h0⟩ fun a w hJ=>?_
 have hs:=Classical.choose_spec (least hJ)
 refine wpIn_mono (round _ a w hs.1) fun e a' w' hq=>?_
 cases e with
 | normal=>
  obtain⟨m,hm,hJm⟩:=hq
  refine⟨⟨m,hJm⟩,?_⟩
  have h':∃r,J r a' w':=⟨m,hJm⟩
  have hs':=Classical.choose_spec (least h')
  simp only[dif_pos h',dif_pos hJ]
  rcases Nat.lt_or_ge m (Classical.choose (least h')) with hlt|hge
  ·exact absurd hJm (hs'.2 m hlt)
  ·omega
 | _=>exact hq
theorem blk {c:Code}{id:Nat}{Q:Exit→Act→World→Prop}{a:Act}{w:World}(h:c.wpIn (FW r) 0 P (Exit.inBlock id Q) a w):(Code.block id c).wpIn (FW r) 0 P Q a w:=wpIn_block h

def params:Nat→List (VAr Γ)→(aY Γ)
 | _,[]=>[]
 | k,A::As=>(k,A)::params (k+1) As
theorem mb:∀(As:List (VAr Γ)) (k t:Nat) (A:(VAr Γ)),aC (params k As) t=some A→k≤t∧As[t - k]?=some A
 | [],k,t,A,h=>by simp[params,aC] at h
 | B::As,k,t,A,h=>by
  by_cases hkt:k=t
  ·subst hkt
   rw[params,cT] at h
   simp[h]
  ·rw[params,cU _ _ hkt] at h
   obtain⟨h1,h2⟩:=mb As (k+1) t A h
   exact⟨by omega,by rw[show t - k=(t - (k+1))+1 by omega];simpa using h2⟩
theorem enter {f:FuncId}{fn:Func}{c:Code}{n:Nat}{args:List Value}{As:List (VAr Γ)}{w:World}{R:Ending→World→Prop}(hf:P.funcs[f]?=some fn)(hb:fn.body=some c)(hn:fn.ntmps=n)(hl:args.length≤n)
  (hA:∀(i:Nat) (A:(VAr Γ)),As[i]?=some A→A.p (args.getD i undef) w) (h:∀a,Fr n a w (params 0 As)→c.wpIn (FW none) 0 P (bodyPost P fn R) a w) (hlen:As.length≤args.length):Calls P f args.toArray w R:=by
 refine calls_of_wp hf hb ((wpIn_wide (n:=0)).1 (h _ ⟨?_,rfl,fun t A ht=>?_⟩))
 ·simp[hn];omega
 ·obtain⟨_,h2⟩:=mb As 0 t A ht
  rw[Nat.sub_zero] at h2
  have hlt:t<As.length:=(List.getElem?_eq_some_iff.1 h2).1
  have:=hA t A h2
  have e:(args.toArray++Array.replicate (fn.ntmps - args.toArray.size) undef).getD t undef=args.getD t undef:=by
   have:t<args.length:=by omega
   simp[Array.getElem?_append,this]
  simp only[Act.eval,e]
  exact this
theorem eN {f:FuncId}{fn:Func}{c:Code}{n:Nat}(args:List Value)(As:List (VAr Γ)){w:World}{R:Ending→World→Prop}(hf:P.funcs[f]?=some fn)(hn:fn.ntmps=n)
  (hA:∀(i:Nat) (A:(VAr Γ)),As[i]?=some A→A.p (args.getD i undef) w) (h:∀a,Fr n a w (params 0 As)→c.wpIn (FW none) 0 P (bodyPost P fn R) a w) (hb:fn.body=some c:=by exact rfl) (hl:args.length≤n:=by exact Nat.le_of_ble_eq_true rfl) (hlen:As.length≤args.length:=by exact Nat.le_of_ble_eq_true rfl):Calls P f args.toArray w R:=enter hf hb hn hl hA h hlen
theorem ap {fn:Func}{t:Nat}{R:Ending→World→Prop}{n:Nat}{a:Act}{w:World}{A:(VAr Γ)}(hr:fn.results = #[.tmp t])(hf:Fr n a w L)(h:aC L t=some A)(hR:∀v,A.p v w→R (.returned v) w) :
  bodyPost P fn R .ret a w:=
 ⟨hf.defers,_,results_tmp hr _ _ _,hR _ (hf.val t A h)⟩
theorem dF {fn:Func}{t u:Nat}{R:Ending→World→Prop}{n:Nat}{a:Act}{w:World}{A B:(VAr Γ)}(hr:fn.results = #[.tmp t,.tmp u])(hf:Fr n a w L)(h:aC L t=some A)(h':aC L u=some B)
  (hR:∀v x,A.p v w→B.p x w→R (.returned (.tuple #[v,x])) w):bodyPost P fn R .ret a w:=
 ⟨hf.defers,_,results_tmp2 hr _ _ _,hR _ _ (hf.val t A h) (hf.val u B h')⟩
theorem vx {fn:Func}{R:Ending→World→Prop}{n:Nat}{a:Act}{w:World}(hr:fn.results = #[])(hf:Fr n a w L)(hR:R (.returned (.tuple #[])) w):bodyPost P fn R .ret a w:=
 ⟨hf.defers,_,results_none hr _ _ _,hR⟩
theorem dG {fn:Func}{R:Ending→World→Prop}{n:Nat}{a:Act}{w:World}(hr:fn.results = #[])(hf:Fr n a w L)(hR:R (.returned (.tuple #[])) w):bodyPost P fn R .normal a w:=
 ⟨hf.defers,_,results_none hr _ _ _,hR⟩
theorem ifc {x:Operand}{thn els:Code}{Q:Exit→Act→World→Prop}{n:Nat}{a:Act}{w:World}{b:Bool}(hf:FrD n ds a w L)(h:opd L x=some (ER (.bool b)))
  (ht:b=true→thn.wpIn (FW r) 0 P Q a w) (he:b=false→els.wpIn (FW r) 0 P Q a w):(Code.cond x thn els).wpIn (FW r) 0 P Q a w:=
 wpIn_cond_split (hf.opd x _ h) ht he
theorem seq {x y:Code}{Q:Exit→Act→World→Prop}{a:Act}{w:World}(h:x.wpIn (FW r) 0 P (Exit.then (y.wpIn (FW r) 0 P Q) Q) a w):(Code.seq x y).wpIn (FW r) 0 P Q a w:=wpIn_seq h
theorem ak {Q:Exit→Act→World→Prop}{a:Act}{w:World}(h:Q .normal a w):Code.skip.wpIn (FW r) 0 P Q a w:=wpIn_skip h
theorem aG {id:Nat}{Q:Exit→Act→World→Prop}{a:Act}{w:World}(h:Q (.exit id) a w):(Code.exit id).wpIn (FW r) 0 P Q a w:=wpIn_exit h
theorem ai {Q:Exit→Act→World→Prop}{a:Act}{w:World}(h:Q .ret a w):Code.ret.wpIn (FW r) 0 P Q a w:=wpIn_ret h
end Go.Mono
namespace Go.Mono
open Go Go.RowKit

variable {P:Program}{w0:World}{L:Env}{dst:Option Tmp}{ty:TypeId}{pos:String}{aft:Array Edge}{g:Option (Nat×Bool)}{r:Option Nat}{ds:List Deferred}
def Blk (w:World)(b:Nat)(cs:Array Value)(t:TypeId):Prop:=w.heap[b]?=some (.cells cs t (0,0))
theorem Blk.lt {w:World}{b:Nat}{cs:Array Value}{t:TypeId}(h:Blk w b cs t):b<w.heap.size:=(Array.getElem?_eq_some_iff.1 h).1
theorem Blk.ext {w w':World}{b:Nat}{cs:Array Value}{t:TypeId}(h:Blk w b cs t)(e:Ext w w'):Blk w' b cs t:=(e.block b h.lt).trans h
instance {w w':World}{b:Nat}{cs:Array Value}{t:TypeId}:Ug w w' (Blk w b cs t) (Blk w' b cs t):=⟨fun e h=>h.ext e⟩
theorem Blk.gr {w w':World}{b b':Nat}{cs:Array Value}{t:TypeId}(h:Blk w b cs t)(e:w.grownBy w' (some b'))(hne:b≠b'):Blk w' b cs t:=
 (e.block b h.lt (by simpa using hne)).trans h
instance {w w':World}{b d:Nat}{cs:Array Value}{t:TypeId}:Gg d w w' (Blk w b cs t) (b≠d) (Blk w' b cs t):=⟨fun g s h=>h.gr g s⟩
theorem Blk.cell {w:World}{b:Nat}{cs:Array Value}{t:TypeId}(h:Blk w b cs t)(i:Nat):w.cell? ⟨b,i,none⟩=cs[i]?:=by
 unfold Blk at h
 simp[World.cell?,h]
theorem Ext.gr {w w1 w2:World}{b:Nat}(e:Ext w w1)(h:w1.grownBy w2 (some b))(hb:w.heap.size≤b):Ext w w2:=
 Below.grown e h e.size (fun k hk=>by cases hk;exact hb)

instance {W w w':World}{b:Nat}:Gg b w w' (Ext W w) (W.heap.size≤b) (Ext W w'):=⟨fun g s h=>h.gr g s⟩
structure TI (P:Program)(t:TypeId)(agg:Bool)(n:Nat):Prop where
 u:∃d,P.underlying t=some d∧(match d with|.struct _|.array _ _=>true|_=>false)=agg
 s:(P.info? t).map (·.size)=some n
def tiB (P:Program)(t:TypeId)(agg:Bool)(n:Nat):Bool:=
 (match P.underlying t with|some d=>(match d with|.struct _|.array _ _=>true|_=>false)==agg|none=>false)&&(match P.info? t with|some i=>Nat.beq i.size n|none=>false)
theorem ti {t:TypeId}{agg:Bool}{n:Nat}(h:tiB P t agg n=true):TI P t agg n:=by
 simp only[tiB,Bool.and_eq_true] at h
 constructor
 ·cases hu:P.underlying t with
  | none=>simp[hu] at h
  | some d=>exact⟨d,rfl,by simpa[hu] using h.1⟩
 ·cases hi:P.info? t with
  | none=>simp[hi] at h
  | some i=>simpa[hi] using h.2

theorem TI.size {t:TypeId}{agg:Bool}{n:Nat}(h:TI P t agg n)(w:World):(sizeOf t).run P w=.ok n w:=by
 have:=h.s
 cases hi:P.info? t with
 | none=>simp[hi] at this
 | some i=>simp[hi] at this;simp[sizeOf,typeInfo,hi,this]
theorem TI.agg {t:TypeId}{agg:Bool}{n:Nat}(h:TI P t agg n)(w:World):(isAgg t).run P w=.ok agg w:=by
 obtain⟨d,h1,h2⟩:=h.u
 cases d <;> simp_all [isAgg,underlying]

theorem jP {t:TypeId}(h:TI P t false 1){w:World}{a:Addr}{v:Value}(hv:w.cell? a=some v):(loadVar t a).run P w=.ok v w:=by
 simp[loadVar,h.agg w,hv]
theorem jQ {t:TypeId}{n:Nat}(h:TI P t true n){w:World}{a:Addr}{cs:List Value}(hl:cs.length=n)(hv:∀j v,cs[j]?=some v→w.cell? (a.add j)=some v) :
  (loadVar t a).run P w=.ok (.agg cs.toArray) w:=by
 have:=run_loadCells_list (P:=P) w a cs hv
 rw[hl] at this
 simp[loadVar,h.agg w,h.size w,this]

section ops
variable {Γ:World→World→Prop}{L:aY Γ}
variable {x y:Operand}{b off:Nat}{cs:Array Value}{t:TypeId}{v:Value}

theorem ldW [Gro Γ]{n:Nat}(ht:TI P t true n)(hx:opd L x=some (ER (.pointer (some ⟨b,0,none⟩)))){bt:TypeId}(hb:Blk w0 b cs bt)(hn:cs.size=n):OpC P w0 L ⟨dst,.load t x,ty,pos,aft,g⟩ (ER (.agg cs)):=
 aM fun ρ w he hv=>by
  have h1:=opE hv (x:=x) (by simp[Op.operands]) hx
  refine⟨_,?_,rfl⟩
  have:=jQ ht (w:=w) (a:=⟨b,0,none⟩) (cs:=cs.toList) (by simpa using hn) (fun j v hj=>by
   rw[Addr.add_lit,Nat.zero_add,(hb.ext (Gro.below he)).cell j];simpa using hj)
  simp[execOp,h1,Instr.loadAt,Instr.sureAddr,this]
theorem ld1 [Gro Γ](ht:TI P t false 1)(hx:opd L x=some (ER (.pointer (some ⟨b,off,none⟩)))){bt:TypeId}(hb:Blk w0 b cs bt)(hc:cs[off]?=some v):OpC P w0 L ⟨dst,.load t x,ty,pos,aft,g⟩ (ER v):=
 aM fun ρ w he hv=>by
  have h1:=opE hv (x:=x) (by simp[Op.operands]) hx
  refine⟨_,?_,rfl⟩
  have:=jP ht (w:=w) (a:=⟨b,off,none⟩) (v:=v) (by rw[(hb.ext (Gro.below he)).cell off];exact hc)
  simp[execOp,h1,Instr.loadAt,Instr.sureAddr,this]
theorem ldP [Gro Γ]{n:Nat}(ht:TI P t true n)(hx:opd L x=some (ER (.pointer (some ⟨b,off,none⟩)))){bt:TypeId}(hb:Blk w0 b cs bt)(hn:off+n≤cs.size) :
  OpC P w0 L ⟨dst,.load t x,ty,pos,aft,g⟩ (ER (.agg (cs.extract off (off+n)))):=
 aM fun ρ w he hv=>by
  have h1:=opE hv (x:=x) (by simp[Op.operands]) hx
  refine⟨_,?_,rfl⟩
  have hx':((cs.toList.drop off).take n).toArray=cs.extract off (off+n):=by
   apply Array.toList_inj.1
   simp[List.take_drop]
  have:=jQ ht (w:=w) (a:=⟨b,off,none⟩) (cs:=(cs.toList.drop off).take n) (by simp;omega) (fun j v hj=>by
   rw[Addr.add_lit,(hb.ext (Gro.below he)).cell (off+j)]
   rw[List.getElem?_take] at hj
   split at hj
   ·simpa using hj
   ·cases hj)
  rw[hx'] at this
  simp[execOp,h1,Instr.loadAt,Instr.sureAddr,this]
theorem OpC.as [Gro Γ]{o:Oper}{A:(VAr Γ)}(h:OpC P w0 L o (ER v))(hA:A.p v w0):OpC P w0 L o A:=by
 refine⟨fun ρ w he hv=>?_⟩
 refine (h.out ρ w he hv).mono ?_
 rintro u w' ⟨h1,rfl⟩
 exact⟨h1,A.st _ _ _ (Gro.tr he h1) hA⟩
theorem OpC.eq {o:Oper}{u:Value}(h:OpC P w0 L o (ER v))(hA:v=u):OpC P w0 L o (ER u):=hA▸h

theorem cD [Gro Γ]{n e s:Nat}{k:IntKind}{i:Int}(ht:P.underlying t=some (.array n e))(hs:∃ag,TI P e ag s)(hx:opd L x=some (ER (.pointer (some ⟨b,off,none⟩))))(hy:opd L y=some (ER (.int k i)))(hi:0≤i∧i<(n:Int)) :
  OpC P w0 L ⟨dst,.indexAddr t x y,ty,pos,aft,g⟩ (ER (.pointer (some ⟨b,off+i.toNat * s,none⟩))):=
 aM fun ρ w _ hv=>by
  have h1:=opE hv (x:=x) (by simp[Op.operands]) hx
  have h2:=opE hv (x:=y) (by simp[Op.operands]) hy
  obtain⟨ag,hs⟩:=hs
  refine⟨_,?_,rfl⟩
  simp[execOp,h1,h2,Instr.indexAt,Instr.sureAddr,asIntOf,run_underlying ht,hi,hs.size,Addr.add_lit]
theorem jR [Gro Γ]{n e:Nat}{k:IntKind}{i:Int}(ht:P.underlying t=some (.array n e))(hs:TI P e false 1)(hx:opd L x=some (ER (.agg cs)))(hy:opd L y=some (ER (.int k i)))(hi:0≤i∧i<(n:Int))(hc:cs[i.toNat]?=some v) :
  OpC P w0 L ⟨dst,.index t x y,ty,pos,aft,g⟩ (ER v):=
 aM fun ρ w _ hv=>by
  have h1:=opE hv (x:=x) (by simp[Op.operands]) hx
  have h2:=opE hv (x:=y) (by simp[Op.operands]) hy
  refine⟨_,?_,rfl⟩
  simp[execOp,h1,h2,Instr.index,asIntOf,run_underlying ht,hi,hs.size,part,hs.agg,hc]
theorem dH [Gro Γ]{fs:Array Field}{f:Nat}{fl:Field}{s:Nat}{ag:Bool}(ht:P.underlying t=some (.struct fs))(hf:fs[f]?=some fl)(hs:TI P fl.type ag s)(h0:0<s)(hx:opd L x=some (ER (.pointer (some ⟨b,off,none⟩)))) :
  OpC P w0 L ⟨dst,.fieldAddr t x f,ty,pos,aft,g⟩ (ER (.pointer (some ⟨b,off+fl.offset,none⟩))):=
 aM fun ρ w _ hv=>by
  have h1:=opE hv (x:=x) (by simp[Op.operands]) hx
  have hne:s≠0:=by omega
  refine⟨_,?_,rfl⟩
  simp[execOp,h1,Instr.fieldAt,Instr.sureAddr,run_underlying ht,hf,fieldPlace,hs.size,hne,Addr.add_lit]
theorem fA [Gro Γ]{fs:Array Field}{f:Nat}{fl:Field}{s:Nat}{ag:Bool}(ht:P.underlying t=some (.struct fs))(hf:fs[f]?=some fl)(hs:TI P fl.type ag s)(hx:opd L x=some (ER (.pointer (some ⟨b,off,none⟩))))(h0:0<s:=by decide) :
  OpC P w0 L ⟨dst,.fieldAddr t x f,ty,pos,aft,g⟩ (ER (.pointer (some ⟨b,off+fl.offset,none⟩))):=dH ht hf hs h0 hx
end ops

class AvC (b:Nat)(A:VA):Prop where
 av:∀v w w',w.grownBy w' (some b)→A.p v w→A.p v w'
instance (b:Nat)(v:Value):AvC b (E v):=⟨fun _ _ _ _ h=>h⟩
instance (b:Nat):AvC b Any:=⟨fun _ _ _ _ h=>h⟩
class AvL (b:Nat)(L:Env):Prop where
 av:∀t A,aC L t=some A→∀v w w',w.grownBy w' (some b)→A.p v w→A.p v w'
instance (b:Nat):AvL b []:=⟨fun t A h=>by simp[aC] at h⟩
instance (b k:Nat)(A:VA)(L:Env)[h:AvC b A][hl:AvL b L]:AvL b ((k,A)::L):=⟨fun t B ht=>by
 by_cases hkt:k=t
 ·subst hkt;rw[cT] at ht;cases ht;exact h.av
 ·rw[cU _ _ hkt] at ht;exact hl.av t B ht⟩
theorem FrD.gr {n:Nat}{a:Act}{w w':World}{b:Nat}[h:AvL b L](hf:FrD n ds a w L)(hg:w.grownBy w' (some b)):FrD n ds a w' L:=
 ⟨hf.size,hf.defers,fun t A ht=>h.av t A ht _ _ _ hg (hf.val t A ht)⟩
class md (A:VA):Prop where
 pu:∀v w w',A.p v w→A.p v w'
instance (v:Value):md (E v):=⟨fun _ _ _ h=>h⟩
instance:md Any:=⟨fun _ _ _ h=>h⟩
class dm (L:Env):Prop where
 pu:∀t A,aC L t=some A→∀v w w',A.p v w→A.p v w'
instance:dm []:=⟨fun t A h=>by simp[aC] at h⟩
instance (k:Nat)(A:VA)(L:Env)[h:md A][hl:dm L]:dm ((k,A)::L):=⟨fun t B ht=>by
 by_cases hkt:k=t
 ·subst hkt;rw[cT] at ht;cases ht;exact h.pu
 ·rw[cU _ _ hkt] at ht;exact hl.pu t B ht⟩
theorem FrD.pure {n:Nat}{a:Act}{w:World}[h:dm L](hf:FrD n ds a w L)(w':World):FrD n ds a w' L:=
 ⟨hf.size,hf.defers,fun t A ht=>h.pu t A ht _ _ _ (hf.val t A ht)⟩

theorem cV (w:World)(o:Obj):Ext w (w.alloc o):=(Below.refl _ w).alloc (Nat.le_refl _) o
theorem fK (w:World)(cs:Array Value)(t:TypeId):Blk (w.alloc (.cells cs t)) w.heap.size cs t:=by
 show (w.heap.push _)[w.heap.size]?=_
 simp
theorem jS (t:TypeId)(v:Value)(w:World):(newVar t v).run P w=.ok ⟨w.heap.size,0,none⟩ (w.alloc (.cells v.cells t)):=by
 simp[newVar,newRow,newObj,Sem.run]
theorem eG (w:World)(b:Nat)(cs:Array Value):w.grownBy (w.setRow b cs) (some b):=
 ⟨rfl,rfl,rfl,by simp,fun k _ hk=>setRow_other w b k cs (by simpa using hk)⟩

section tail
variable {ops:Array Oper}{rest:List Oper}{Q:Exit→Act→World→Prop}{n:Nat}{a:Act}{w:World}{x y:Operand}

section
variable {Γ:World→World→Prop}{L:aY Γ}
theorem dq [Gro Γ]{e:TypeId}{A:(VAr Γ)}{d:Nat}(hf:FrD n ds a w L)(hx:opd L x=some A)(hd:d<n)
  (k:∀a' b w' v,A.p v w→Γ w w'→b=w.heap.size→w'.heap.size=b+1→Blk w' b v.cells e→FrD n ds a' w' ((d,ER (.pointer (some ⟨b,0,none⟩)))::L)→wpListIn (FW r) 0 P ops Q rest a' w') :
  wpListIn (FW r) 0 P ops Q (⟨some d,.box e x,ty,pos,aft,none⟩::rest) a w:=
 wpListIn_plain rfl fun K hK=>by
  refine OpR.wp (R:=fun v w'=>v=.pointer (some ⟨w.heap.size,0,none⟩)∧w'=w.alloc (.cells (a.eval x).cells e)) ?_ ?_
  ·simp[OpR,execOp,Instr.box,jS]
  ·rintro v w' ⟨rfl,rfl⟩
   exact hK _ _ (k _ _ _ _ (hf.opd x A hx) (Gro.alloc _ _) rfl (by simp) (fK _ _ _) (hf.put (d:=some d) (Gro.alloc _ _) (fun k hk=>by cases hk;exact hd) rfl))

theorem me [Gro Γ]{e:TypeId}{z:Value}{d sz bz:Nat}(hz:(P.info? e).map (fun i=>(i.zero,i.size,i.bytes))=some (some z,sz,bz))(hf:FrD n ds a w L)(hd:d<n)
  (k:∀a' b w',Γ w w'→b=w.heap.size→w'.heap.size=b+1→Blk w' b z.cells e→FrD n ds a' w' ((d,ER (.pointer (some ⟨b,0,none⟩)))::L)→wpListIn (FW r) 0 P ops Q rest a' w') :
  wpListIn (FW r) 0 P ops Q (⟨some d,.alloc e,ty,pos,aft,none⟩::rest) a w:=
 wpListIn_plain rfl fun K hK=>by
  refine OpR.wp (R:=fun v w'=>v=.pointer (some ⟨w.heap.size,0,none⟩)∧w'=w.alloc (.cells z.cells e)) ?_ ?_
  ·obtain⟨i,hi,hzi,_,_⟩:=info_parts hz
   simp[OpR,execOp,Instr.alloc,zeroValue,typeInfo,hi,hzi,jS]
  ·rintro v w' ⟨rfl,rfl⟩
   exact hK _ _ (k _ _ _ (Gro.alloc _ _) rfl (by simp) (fK _ _ _) (hf.put (d:=some d) (Gro.alloc _ _) (fun k hk=>by cases hk;exact hd) rfl))

theorem tB [Gro Γ]{e:TypeId}{A:(VAr Γ)}{d:Nat}(hf:FrD n ds a w L)(hx:opd L x=some A)
  (k:∀a' b w' v,A.p v w→Γ w w'→b=w.heap.size→w'.heap.size=b+1→Blk w' b v.cells e→FrD n ds a' w' ((d,ER (.pointer (some ⟨b,0,none⟩)))::L)→wpListIn (FW r) 0 P ops Q rest a' w') (hd:d<n:=by decide) :
  wpListIn (FW r) 0 P ops Q (⟨some d,.box e x,ty,pos,aft,none⟩::rest) a w:=dq hf hx hd k
theorem tL [Gro Γ]{e:TypeId}{z:Value}{d sz bz:Nat}(hz:(P.info? e).map (fun i=>(i.zero,i.size,i.bytes))=some (some z,sz,bz))(hf:FrD n ds a w L)
  (k:∀a' b w',Γ w w'→b=w.heap.size→w'.heap.size=b+1→Blk w' b z.cells e→FrD n ds a' w' ((d,ER (.pointer (some ⟨b,0,none⟩)))::L)→wpListIn (FW r) 0 P ops Q rest a' w') (hd:d<n:=by decide) :
  wpListIn (FW r) 0 P ops Q (⟨some d,.alloc e,ty,pos,aft,none⟩::rest) a w:=me hz hf hd k

end
theorem vy (cs:Array Value)(off:Nat)(v:Value)(h:off<cs.size):(cs.toList.take off++[v]++cs.toList.drop (off+1)).toArray=cs.setIfInBounds off v:=by
 apply Array.toList_inj.1
 rw[Array.toList_setIfInBounds,List.set_eq_take_append_cons_drop]
 simp[h]
theorem aA {t bt:TypeId}{b off:Nat}{v:Value}{cs:Array Value}(ht:TI P t false 1)(hf:FrD n ds a w L)[hL:AvL b L](hx:opd L x=some (E (.pointer (some ⟨b,off,none⟩))))(hy:opd L y=some (E v))(h1:v.oneCell'=true)
  (hb:Blk w b cs bt) (ho:off<cs.size) (k:∀w',w.grownBy w' (some b)→w'.heap.size=w.heap.size→Blk w' b (cs.setIfInBounds off v) bt→FrD n ds a w' L→wpListIn (FW r) 0 P ops Q rest a w') :
  wpListIn (FW r) 0 P ops Q (⟨none,.store t x y,ty,pos,aft,none⟩::rest) a w:=
 wpListIn_plain rfl fun K hK=>by
  have hxv:a.eval x=.pointer (some ⟨b,off,none⟩):=hf.opd x _ hx
  have hyv:a.eval y=v:=hf.opd y _ hy
  have hc:v.cells = #[v]:=by cases v <;> simp[Value.cells,Value.oneCell'] at h1 ⊢
  have hrun:=run_storeCells_at (P:=P) b off bt [v] 0 cs w hb (by simp;omega) (by simpa using h1)
  refine OpR.wp (R:=fun _ w'=>w'=w.setRow b (cs.setIfInBounds off v)) ?_ ?_
  ·have e:=vy cs off v ho
   simp only[List.length_singleton,Nat.add_zero] at hrun
   rw[e] at hrun
   simp[OpR,execOp,Instr.storeAt,Instr.sureAddr,hxv,hyv,storeVar,hc,ht.size,hrun]
  ·rintro _ w' rfl
   exact hK _ _ (k _ (eG _ _ _) (by simp) (setRow_heap _ _ _ _ _ _ hb) (hf.gr (eG _ _ _)))
theorem az {t bt:TypeId}{b s:Nat}{cs new:Array Value}(ht:TI P t true s)(hf:FrD n ds a w L)[hL:AvL b L](hx:opd L x=some (E (.pointer (some ⟨b,0,none⟩))))(hy:opd L y=some (E (.agg new)))(h1:new.all (·.oneCell')=true)
  (hb:Blk w b cs bt) (hs:cs.size=s) (hn:new.size=s) (k:∀w',w.grownBy w' (some b)→w'.heap.size=w.heap.size→Blk w' b new bt→FrD n ds a w' L→wpListIn (FW r) 0 P ops Q rest a w') :
  wpListIn (FW r) 0 P ops Q (⟨none,.store t x y,ty,pos,aft,none⟩::rest) a w:=
 wpListIn_plain rfl fun K hK=>by
  have hxv:a.eval x=.pointer (some ⟨b,0,none⟩):=hf.opd x _ hx
  have hyv:a.eval y=.agg new:=hf.opd y _ hy
  have hrun:=run_storeVar_row (P:=P) w b bt t cs new hb (by rw[ht.s,hn]) (by omega) h1
  refine OpR.wp (R:=fun _ w'=>w'=w.setRow b new) ?_ ?_
  ·simp[OpR,execOp,Instr.storeAt,Instr.sureAddr,hxv,hyv,hrun]
  ·rintro _ w' rfl
   exact hK _ _ (k _ (eG _ _ _) (by simp) (setRow_heap _ _ _ _ _ _ hb) (hf.gr (eG _ _ _)))
end tail
theorem vz {ops:Array Oper}{rest:List Oper}{Q:Exit→Act→World→Prop}{n:Nat}{a:Act}{w:World}{x:Operand}{t bt:TypeId}{b d s:Nat}{cs:Array Value}(ht:TI P t true s)(hf:FrD n ds a w L)(hx:opd L x=some (E (.pointer (some ⟨b,0,none⟩))))(hb:Blk w b cs bt)(hn:cs.size=s)(hd:d<n)
  (k:∀a',FrD n ds a' w ((d,E (.agg cs))::L)→wpListIn (FW r) 0 P ops Q rest a' w):wpListIn (FW r) 0 P ops Q (⟨some d,.load t x,ty,pos,aft,none⟩::rest) a w:=
 wpListIn_plain rfl fun K hK=>by
  have hxv:a.eval x=.pointer (some ⟨b,0,none⟩):=hf.opd x _ hx
  refine OpR.wp (R:=fun v w'=>w'=w∧v=.agg cs) ?_ ?_
  ·have:=jQ ht (w:=w) (a:=⟨b,0,none⟩) (cs:=cs.toList) (by simpa using hn) (fun j v hj=>by
    rw[Addr.add_lit,Nat.zero_add,hb.cell j];simpa using hj)
   simp[OpR,execOp,hxv,Instr.loadAt,Instr.sureAddr,this]
  ·rintro v w' ⟨rfl,rfl⟩
   exact hK _ _ (k _ (hf.put (d:=some d) (Ext.rfl' _) (fun k hk=>by cases hk;exact hd) rfl))
theorem dP {fn:Func}{t u s:Nat}{R:Ending→World→Prop}{n:Nat}{a:Act}{w:World}{b:Nat}{cs:Array Value}{bt:TypeId}(hr:fn.results = #[.cell t u])(ht:TI P u true s)(hf:Fr n a w L)(h:aC L t=some (E (.pointer (some ⟨b,0,none⟩))))
  (hb:Blk w b cs bt) (hs:cs.size=s) (hR:R (.returned (.agg cs)) w):bodyPost P fn R .ret a w:=by
 have hv:a.tmps.getD t undef=.pointer (some ⟨b,0,none⟩):=hf.val t _ h
 obtain⟨d,h1,h2⟩:=ht.u
 exact⟨hf.defers,_,results_cell_row hr a.tmps w b bt cs (0,0) d hv hb h1 (by cases d <;> simp_all) (by rw[ht.s,hs]),hR⟩

def W (x:BitVec 64):Value:=.int .u64 (x.toNat:Int)
theorem vA {x y:BitVec 64}(h:W x=W y):x=y:=by
 simp only[W,Value.int.injEq,true_and] at h
 exact BitVec.eq_of_toNat_eq (by omega)
theorem vB (x:BitVec 64):IntKind.u64.wrap (x.toNat:Int)=x.toNat:=IntWalk.u64_in _ (by have:=x.isLt;omega)
theorem gW (x:BitVec 64):BitVec.ofInt 64 (x.toNat:Int)=x:=by
 rw[BitVec.ofInt_natCast];simp

section words
variable {x y:Operand}{t yt:TypeId}{u v:BitVec 64}
theorem mf (z:BitVec 64):(pure (Value.int .u64 (IntKind.u64.wrap (z.toNat:Int))):Sem Value)=pure (W z):=by rw[vB];rfl
theorem fL (hx:opd L x=some (E (W u)))(hy:opd L y=some (E (W v))):OpC P w0 L ⟨dst,.binOp .and t x y yt,ty,pos,aft,g⟩ (E (W (u &&& v))):=
 ce (by
  show pure (Value.int .u64 (IntKind.u64.wrap ((BitVec.ofInt 64 (u.toNat:Int) &&& BitVec.ofInt 64 (v.toNat:Int)).toNat:Int)))=_
  rw[gW,gW];exact mf _) hx hy
theorem orW (hx:opd L x=some (E (W u)))(hy:opd L y=some (E (W v))):OpC P w0 L ⟨dst,.binOp .or t x y yt,ty,pos,aft,g⟩ (E (W (u ||| v))):=
 ce (by
  show pure (Value.int .u64 (IntKind.u64.wrap ((BitVec.ofInt 64 (u.toNat:Int) ||| BitVec.ofInt 64 (v.toNat:Int)).toNat:Int)))=_
  rw[gW,gW];exact mf _) hx hy
theorem oX (hx:opd L x=some (E (W u)))(hy:opd L y=some (E (W v))):OpC P w0 L ⟨dst,.binOp .andNot t x y yt,ty,pos,aft,g⟩ (E (W (u &&& ~~~v))):=
 ce (by
  show pure (Value.int .u64 (IntKind.u64.wrap ((BitVec.ofInt 64 (u.toNat:Int) &&& ~~~BitVec.ofInt 64 (v.toNat:Int)).toNat:Int)))=_
  rw[gW,gW];exact mf _) hx hy
theorem mg (u v:BitVec 64):((u.toNat:Int)==(v.toNat:Int))=(u==v):=by
 rw[Bool.eq_iff_iff]
 simp only[beq_iff_eq]
 exact⟨fun h=>BitVec.eq_of_toNat_eq (by omega),fun h=>by rw[h]⟩
theorem mh (hx:opd L x=some (E (W u)))(hy:opd L y=some (E (W v))):OpC P w0 L ⟨dst,.binOp .neq t x y yt,ty,pos,aft,g⟩ (E (.bool (u != v))):=
 ce (by
  show pure (Value.bool ((u.toNat:Int) != (v.toNat:Int)))=_
  simp only[bne,mg]) hx hy
theorem oY (hx:opd L x=some (E (W u)))(hy:opd L y=some (E (W v))):OpC P w0 L ⟨dst,.binOp .eql t x y yt,ty,pos,aft,g⟩ (E (.bool (u==v))):=
 ce (by
  show pure (Value.bool ((u.toNat:Int)==(v.toNat:Int)))=_
  simp only[mg]) hx hy
theorem vC (hx:opd L x=some (E (W u)))(hy:opd L y=some (E (W v))):OpC P w0 L ⟨dst,.binOp .sub t x y yt,ty,pos,aft,g⟩ (E (W (u - v))):=
 ce (by
  show pure (Value.int .u64 (IntKind.u64.wrap ((u.toNat:Int) - (v.toNat:Int))))=_
  have e:IntKind.u64.wrap ((u.toNat:Int) - (v.toNat:Int))=((u - v).toNat:Int):=by
   rw[BitVec.toNat_sub]
   simp only[IntKind.wrap,IntKind.bits,IntKind.signed,Bool.false_and,Bool.false_eq_true,if_false]
   omega
  rw[e];rfl) hx hy
theorem gX (hx:opd L x=some (E (W u)))(hy:opd L y=some (E (W v))):OpC P w0 L ⟨dst,.binOp .add t x y yt,ty,pos,aft,g⟩ (E (W (u+v))):=
 ce (by
  show pure (Value.int .u64 (IntKind.u64.wrap ((u.toNat:Int)+(v.toNat:Int))))=_
  have e:IntKind.u64.wrap ((u.toNat:Int)+(v.toNat:Int))=((u+v).toNat:Int):=by
   rw[BitVec.toNat_add]
   simp only[IntKind.wrap,IntKind.bits,IntKind.signed,Bool.false_and,Bool.false_eq_true,if_false]
   omega
  rw[e];rfl) hx hy
theorem oZ {k:IntKind}{i:Int}(hx:opd L x=some (E (W u)))(hy:opd L y=some (E (.int k i)))(hi:0≤i):OpC P w0 L ⟨dst,.binOp .shl t x y yt,ty,pos,aft,g⟩ (E (W (u <<< i.toNat))):=
 aM fun ρ w _ hv=>by
  have h1:=opE hv (x:=x) (by simp[Op.operands]) hx
  have h2:=opE hv (x:=y) (by simp[Op.operands]) hy
  refine⟨_,?_,rfl⟩
  have hneg:¬i<0:=by omega
  have e:IntKind.u64.wrap ((u.toNat:Int) * 2 ^ (min i.toNat 64))=((u <<< i.toNat).toNat:Int):=by
   rw[BitVec.toNat_shiftLeft,Nat.shiftLeft_eq]
   simp only[IntKind.wrap,IntKind.bits,IntKind.signed]
   simp only[Bool.false_and,Bool.false_eq_true,if_false]
   by_cases hle:i.toNat≤64
   ·rw[Nat.min_eq_left hle];simp
   ·rw[Nat.min_eq_right (by omega)]
    have:(2:Nat) ^ i.toNat=2 ^ 64 * 2 ^ (i.toNat - 64):=by rw[← Nat.pow_add];congr 1;omega
    rw[this]
    have e1:(u.toNat * (2 ^ 64 * 2 ^ (i.toNat - 64))) % 2 ^ 64=0:=by
     rw[Nat.mul_left_comm];exact Nat.mul_mod_right _ _
    rw[e1]
    simp
  simp[execOp,h1,h2,W,eqGuard,binOp,Op.shift,hneg,IntKind.bits] at e ⊢
  exact e
theorem gF {k:IntKind}{i:Int}(hx:opd L x=some (E (W u)))(hy:opd L y=some (E (.int k i)))(hi:0≤i):OpC P w0 L ⟨dst,.binOp .shr t x y yt,ty,pos,aft,g⟩ (E (W (u >>> i.toNat))):=
 aM fun ρ w _ hv=>by
  have h1:=opE hv (x:=x) (by simp[Op.operands]) hx
  have h2:=opE hv (x:=y) (by simp[Op.operands]) hy
  refine⟨_,?_,rfl⟩
  have hneg:¬i<0:=by omega
  have e:(u.toNat:Int).fdiv (2 ^ (min i.toNat 64))=((u >>> i.toNat).toNat:Int):=by
   rw[BitVec.toNat_ushiftRight,Nat.shiftRight_eq_div_pow]
   rw[Int.fdiv_eq_ediv_of_nonneg _ (by exact Int.le_of_lt (Int.pow_pos (by decide)))]
   by_cases hle:i.toNat≤64
   ·rw[Nat.min_eq_left hle];simp
   ·rw[Nat.min_eq_right (by omega)]
    have hu:=u.isLt
    have h1:u.toNat / 2 ^ i.toNat=0:=Nat.div_eq_of_lt (Nat.lt_of_lt_of_le hu (Nat.pow_le_pow_right (by decide) (by omega)))
    rw[h1]
    have h2:u.toNat / 2 ^ 64=0:=Nat.div_eq_of_lt hu
    have h3:((u.toNat / 2 ^ 64:Nat):Int)=(u.toNat:Int) / 2 ^ 64:=by simp
    rw[← h3,h2]
  simp[execOp,h1,h2,W,eqGuard,binOp,Op.shift,hneg,IntKind.bits] at e ⊢
  exact e
end words
end Go.Mono
namespace Go.Mono
open Go Go.Proofs
abbrev If (t:TypeId)(z:Value)(s b:Nat):Prop:=(Tryz.prog.info? t).map (fun i=>(i.zero,i.size,i.bytes))=some (some z,s,b)
abbrev Nn (f:FuncId):Prop:=Proofs.Enters Tryz.prog f
theorem Ee {i:FuncId} {f:Func} {c:Code} (h:Tryz.prog.funcs[i]?=some f) (h2:(f.name == "runtime.NumGoroutine")=false:=by kernel_rfl) (h3:f.body=some c:=by rfl):Nn i:=enters_of h h2 h3
theorem Mix.mix:Tryz.prog.follows .mixedOrders=true:=by kernel_rfl
theorem T3:TI Tryz.prog 3 false 1:=ti (by decide +kernel)
theorem I3:If 3 (.int .i64 0) 1 8:=by unfold If;kernel_rfl
theorem T4:TI Tryz.prog 4 false 1:=ti (by decide +kernel)
theorem I4:If 4 (.bool false) 1 1:=by unfold If;kernel_rfl
theorem T5:TI Tryz.prog 5 false 1:=ti (by decide +kernel)
theorem T23:TI Tryz.prog 23 false 1:=ti (by decide +kernel)
theorem T24:TI Tryz.prog 24 false 1:=ti (by decide +kernel)
theorem T26:TI Tryz.prog 26 true 2:=ti (by decide +kernel)
theorem I26:If 26 (.agg #[.slice none 0 0,.slice none 0 0]) 2 48:=by unfold If;kernel_rfl
theorem T28:TI Tryz.prog 28 false 1:=ti (by decide +kernel)
theorem T30:TI Tryz.prog 30 false 1:=ti (by decide +kernel)
theorem T31:TI Tryz.prog 31 false 1:=ti (by decide +kernel)
theorem I31:If 31 (.slice none 0 0) 1 24:=by unfold If;kernel_rfl
theorem T32:TI Tryz.prog 32 false 1:=ti (by decide +kernel)
theorem T35:TI Tryz.prog 35 false 1:=ti (by decide +kernel)
theorem I35:If 35 (.slice none 0 0) 1 24:=by unfold If;kernel_rfl
theorem T41:TI Tryz.prog 41 false 1:=ti (by decide +kernel)
theorem T52:TI Tryz.prog 52 true 5:=ti (by decide +kernel)
theorem T53:TI Tryz.prog 53 true 5:=ti (by decide +kernel)
theorem T55:TI Tryz.prog 55 false 1:=ti (by decide +kernel)
theorem I55:If 55 (.slice none 0 0) 1 24:=by unfold If;kernel_rfl
theorem T57:TI Tryz.prog 57 true 3:=ti (by decide +kernel)
theorem I57:If 57 (.agg #[.int .i64 0,.int .u8 0,.int .i64 0]) 3 24:=by unfold If;kernel_rfl
theorem T58:TI Tryz.prog 58 true 3:=ti (by decide +kernel)
theorem I58:If 58 (.agg #[.int .i64 0,.int .u8 0,.int .i64 0]) 3 24:=by unfold If;kernel_rfl
theorem T60:TI Tryz.prog 60 true 4:=ti (by decide +kernel)
theorem I60:If 60 (.agg #[.int .i64 0,.int .i64 0,.int .u8 0,.int .i64 0]) 4 32:=by unfold If;kernel_rfl
theorem T61:TI Tryz.prog 61 true 4:=ti (by decide +kernel)
theorem I61:If 61 (.agg #[.int .i64 0,.int .i64 0,.int .u8 0,.int .i64 0]) 4 32:=by unfold If;kernel_rfl
theorem T64:TI Tryz.prog 64 false 1:=ti (by decide +kernel)
theorem I64:If 64 (.map none) 1 8:=by unfold If;kernel_rfl
theorem T66:TI Tryz.prog 66 false 1:=ti (by decide +kernel)
theorem T68:TI Tryz.prog 68 true 16:=ti (by decide +kernel)
theorem I68:If 68 (.agg #[.int .u64 0,.int .u64 0,.int .u64 0,.int .u64 0,.int .u64 0,.int .u64 0,.int .u64 0,.int .u64 0,.int .u64 0,.int .u64 0,.int .u64 0,.int .u64 0,.int .u64 0,.int .u64 0,.int .u64 0,.int .u64 0]) 16 128:=by unfold If;kernel_rfl
theorem T70:TI Tryz.prog 70 false 1:=ti (by decide +kernel)
theorem I70:If 70 (.nilFunc) 1 8:=by unfold If;kernel_rfl
theorem T81:TI Tryz.prog 81 true 17:=ti (by decide +kernel)
theorem I81:If 81 (.agg #[.int .i64 0,.int .u64 0,.int .u64 0,.int .u64 0,.int .u64 0,.int .u64 0,.int .u64 0,.int .u64 0,.int .u64 0,.int .u64 0,.int .u64 0,.int .u64 0,.int .u64 0,.int .u64 0,.int .u64 0,.int .u64 0,.int .u64 0]) 17 136:=by unfold If;kernel_rfl
theorem T82:TI Tryz.prog 82 false 1:=ti (by decide +kernel)
theorem I82:If 82 (.slice none 0 0) 1 24:=by unfold If;kernel_rfl
theorem T84:TI Tryz.prog 84 false 1:=ti (by decide +kernel)
theorem I84:If 84 (.slice none 0 0) 1 24:=by unfold If;kernel_rfl
theorem T88:TI Tryz.prog 88 true 17:=ti (by decide +kernel)
theorem I88:If 88 (.agg #[.int .i64 0,.int .u64 0,.int .u64 0,.int .u64 0,.int .u64 0,.int .u64 0,.int .u64 0,.int .u64 0,.int .u64 0,.int .u64 0,.int .u64 0,.int .u64 0,.int .u64 0,.int .u64 0,.int .u64 0,.int .u64 0,.int .u64 0]) 17 136:=by unfold If;kernel_rfl
theorem T89:TI Tryz.prog 89 false 1:=ti (by decide +kernel)
theorem I89:If 89 (.map none) 1 8:=by unfold If;kernel_rfl
theorem mi:TI Tryz.prog 113 false 1:=ti (by decide +kernel)
theorem vD:If 113 (.map none) 1 8:=by unfold If;kernel_rfl
theorem vE:TI Tryz.prog 119 false 1:=ti (by decide +kernel)
theorem pa:TI Tryz.prog 120 false 1:=ti (by decide +kernel)
theorem bC:TI Tryz.prog 121 false 1:=ti (by decide +kernel)
theorem mj:If 121 (.map none) 1 8:=by unfold If;kernel_rfl
theorem pd:If 123 (.agg #[.int .i64 0,.int .i64 0]) 2 16:=by unfold If;kernel_rfl
theorem pg:TI Tryz.prog 132 true 2:=ti (by decide +kernel)
theorem ml:If 132 (.agg #[.int .i64 0,.int .i64 0]) 2 16:=by unfold If;kernel_rfl
theorem pi:TI Tryz.prog 133 false 1:=ti (by decide +kernel)
theorem vF:If 133 (.slice none 0 0) 1 24:=by unfold If;kernel_rfl
theorem pj:TI Tryz.prog 138 false 1:=ti (by decide +kernel)
theorem eH:TI Tryz.prog 141 false 1:=ti (by decide +kernel)
theorem eI:TI Tryz.prog 142 false 1:=ti (by decide +kernel)
theorem mm:TI Tryz.prog 146 true 2:=ti (by decide +kernel)
theorem pk:If 146 (.agg #[.int .i64 0,.int .i64 0]) 2 16:=by unfold If;kernel_rfl
theorem iO:TI Tryz.prog 148 true 2:=ti (by decide +kernel)
theorem fM:If 148 (.agg #[.int .u8 0,.int .i64 0]) 2 16:=by unfold If;kernel_rfl
theorem pm:TI Tryz.prog 155 false 1:=ti (by decide +kernel)
theorem pn:TI Tryz.prog 156 true 8:=ti (by decide +kernel)
theorem vG:If 156 (.agg #[.nilFunc,.nilFunc,.nilFunc,.nilFunc,.nilFunc,.nilFunc,.nilFunc,.nilFunc]) 8 64:=by unfold If;kernel_rfl
theorem eJ:TI Tryz.prog 159 false 1:=ti (by decide +kernel)
theorem vH:If 159 (.slice none 0 0) 1 24:=by unfold If;kernel_rfl
theorem iP:TI Tryz.prog 167 false 1:=ti (by decide +kernel)
theorem vI:If 167 (.pointer none) 1 8:=by unfold If;kernel_rfl
theorem el:TI Tryz.prog 169 false 1:=ti (by decide +kernel)
theorem eK:TI Tryz.prog 172 true 2:=ti (by decide +kernel)
theorem iQ:If 172 (.agg #[.int .i64 0,.int .i64 0]) 2 16:=by unfold If;kernel_rfl
theorem mn:TI Tryz.prog 173 false 1:=ti (by decide +kernel)
theorem vJ:If 173 (.nilFunc) 1 8:=by unfold If;kernel_rfl
theorem pq:TI Tryz.prog 186 true 2:=ti (by decide +kernel)
theorem pr:If 186 (.agg #[.nilFunc,.int .i64 0]) 2 16:=by unfold If;kernel_rfl
theorem jT:TI Tryz.prog 189 false 1:=ti (by decide +kernel)
theorem vK:If 189 (.map none) 1 8:=by unfold If;kernel_rfl
theorem mo:TI Tryz.prog 192 false 1:=ti (by decide +kernel)
theorem vL:If 192 (.nilFunc) 1 8:=by unfold If;kernel_rfl
theorem S3:(Tryz.prog.info? 3).map (·.size)=some 1:=by kernel_rfl
theorem S4:(Tryz.prog.info? 4).map (·.size)=some 1:=by kernel_rfl
theorem S5:(Tryz.prog.info? 5).map (·.size)=some 1:=by kernel_rfl
theorem S9:(Tryz.prog.info? 9).map (·.size)=some 1:=by kernel_rfl
theorem S31:(Tryz.prog.info? 31).map (·.size)=some 1:=by kernel_rfl
theorem S53:(Tryz.prog.info? 53).map (·.size)=some 5:=by kernel_rfl
theorem S57:(Tryz.prog.info? 57).map (·.size)=some 3:=by kernel_rfl
theorem S58:(Tryz.prog.info? 58).map (·.size)=some 3:=by kernel_rfl
theorem S60:(Tryz.prog.info? 60).map (·.size)=some 4:=by kernel_rfl
theorem S61:(Tryz.prog.info? 61).map (·.size)=some 4:=by kernel_rfl
theorem S68:(Tryz.prog.info? 68).map (·.size)=some 16:=by kernel_rfl
theorem S81:(Tryz.prog.info? 81).map (·.size)=some 17:=by kernel_rfl
theorem S88:(Tryz.prog.info? 88).map (·.size)=some 17:=by kernel_rfl
theorem fg:(Tryz.prog.info? 172).map (·.size)=some 2:=by kernel_rfl
theorem vM:(Tryz.prog.info? 186).map (·.size)=some 2:=by kernel_rfl
theorem vN:Tryz.prog.built 68 []=some (#[.int .u64 0,.int .u64 0,.int .u64 0,.int .u64 0,.int .u64 0,.int .u64 0,.int .u64 0,.int .u64 0,.int .u64 0,.int .u64 0,.int .u64 0,.int .u64 0,.int .u64 0,.int .u64 0,.int .u64 0,.int .u64 0]):=by kernel_rfl
theorem En4:Nn 4:=Ee Tryz.func4
theorem En5:Nn 5:=Ee Tryz.func5
theorem En6:Nn 6:=Ee Tryz.func6
theorem En7:Nn 7:=Ee Tryz.func7
theorem En8:Nn 8:=Ee Tryz.func8
theorem En9:Nn 9:=Ee Tryz.func9
theorem vO:Nn 10:=Ee Tryz.func10
theorem pw:Nn 11:=Ee Tryz.func11
theorem vP:Nn 12:=Ee Tryz.func12
theorem vQ:Nn 13:=Ee Tryz.func13
theorem vR:Nn 14:=Ee Tryz.func14
theorem vS:Nn 15:=Ee Tryz.func15
theorem px:Nn 16:=Ee Tryz.func16
theorem vT:Nn 17:=Ee Tryz.func17
theorem vU:Nn 18:=Ee Tryz.func18
theorem vV:Nn 19:=Ee Tryz.func19
theorem fN:Nn 20:=Ee Tryz.func20
theorem vW:Nn 21:=Ee Tryz.func21
theorem cX:Nn 22:=Ee Tryz.func22
theorem cg:Nn 23:=Ee Tryz.func23
theorem py:Nn 24:=Ee Tryz.func24
theorem gY:Nn 25:=Ee Tryz.func25
theorem dr:Nn 26:=Ee Tryz.func26
theorem vX:Nn 27:=Ee Tryz.func27
theorem vY:Nn 28:=Ee Tryz.func28
theorem vZ:Nn 29:=Ee Tryz.func29
theorem pz:Nn 30:=Ee Tryz.func30
theorem wa:Nn 31:=Ee Tryz.func31
theorem wb:Nn 32:=Ee Tryz.func32
theorem pA:Nn 33:=Ee Tryz.func33
theorem wc:Nn 34:=Ee Tryz.func34
theorem we:Nn 35:=Ee Tryz.func35
theorem wg:Nn 36:=Ee Tryz.func36
theorem wh:Nn 37:=Ee Tryz.func37
theorem wk:Nn 38:=Ee Tryz.func38
theorem wl:Nn 39:=Ee Tryz.func39
theorem fO:Nn 40:=Ee Tryz.func40
theorem wm:Nn 41:=Ee Tryz.func41
theorem pB:Nn 42:=Ee Tryz.func42
theorem mp:Nn 43:=Ee Tryz.func43
theorem wn:Nn 44:=Ee Tryz.func44
theorem iR:Nn 45:=Ee Tryz.func45
theorem wo:Nn 46:=Ee Tryz.func46
theorem wq:Nn 47:=Ee Tryz.func47
theorem ws:Nn 48:=Ee Tryz.func48
theorem jU:Nn 49:=Ee Tryz.func49
theorem mq:Nn 50:=Ee Tryz.func50
theorem wt:Nn 51:=Ee Tryz.func51
theorem pC:Nn 52:=Ee Tryz.func52
theorem wu:Nn 53:=Ee Tryz.func53
theorem pD:Nn 54:=Ee Tryz.func54
theorem fP:Nn 55:=Ee Tryz.func55
theorem wv:Nn 56:=Ee Tryz.func56
theorem mr:Nn 57:=Ee Tryz.func57
theorem ww:Nn 58:=Ee Tryz.func58
theorem fh:Nn 59:=Ee Tryz.func59
theorem fi:Nn 60:=Ee Tryz.func60
theorem fj:Nn 61:=Ee Tryz.func61
theorem wx:Nn 62:=Ee Tryz.func62
theorem gZ:Nn 63:=Ee Tryz.func63
theorem mt:Nn 64:=Ee Tryz.func64
theorem pE:Nn 65:=Ee Tryz.func65
theorem hY:Nn 66:=Ee Tryz.func66
theorem wy:Nn 67:=Ee Tryz.func67
theorem wz:Nn 68:=Ee Tryz.func68
theorem wA:Nn 69:=Ee Tryz.func69
theorem wB:Nn 70:=Ee Tryz.func70
theorem fQ:Nn 71:=Ee Tryz.func71
theorem wC:Nn 72:=Ee Tryz.func72
theorem wD:Nn 73:=Ee Tryz.func73
theorem wE:Nn 74:=Ee Tryz.func74
theorem jV:Nn 75:=Ee Tryz.func75
theorem jW:Nn 76:=Ee Tryz.func76
theorem jX:Nn 77:=Ee Tryz.func77
theorem mu:Nn 78:=Ee Tryz.func78
theorem wF:Nn 79:=Ee Tryz.func79
theorem wG:Nn 80:=Ee Tryz.func80
theorem pF:Nn 81:=Ee Tryz.func81
theorem wH:Nn 82:=Ee Tryz.func82
theorem wI:Nn 83:=Ee Tryz.func83
theorem wJ:Nn 84:=Ee Tryz.func84
theorem pG:Nn 85:=Ee Tryz.func85
theorem pH:Nn 86:=Ee Tryz.func86
theorem wK:Nn 87:=Ee Tryz.func87
theorem wL:Nn 88:=Ee Tryz.func88
theorem pI:Nn 89:=Ee Tryz.func89
theorem wM:Nn 90:=Ee Tryz.func90
theorem En91:Nn 91:=Ee Tryz.func91
theorem En92:Nn 92:=Ee Tryz.func92
theorem wN:Nn 93:=Ee Tryz.func93
theorem wO:Nn 94:=Ee Tryz.func94
theorem mw:Nn 95:=Ee Tryz.func95
theorem wP:Nn 96:=Ee Tryz.func96
theorem pJ:Nn 97:=Ee Tryz.func97
theorem wQ:Nn 98:=Ee Tryz.func98
theorem wR:Nn 99:=Ee Tryz.func99
theorem jY:Nn 100:=Ee Tryz.func100
theorem wS:Nn 101:=Ee Tryz.func101
theorem wT:Nn 102:=Ee Tryz.func102
theorem wU:Nn 103:=Ee Tryz.func103
theorem wV:Nn 104:=Ee Tryz.func104
theorem wW:Nn 105:=Ee Tryz.func105
theorem wX:Nn 106:=Ee Tryz.func106
theorem pK:Nn 107:=Ee Tryz.func107
theorem wY:Nn 108:=Ee Tryz.func108
theorem my:Nn 109:=Ee Tryz.func109
theorem wZ:Nn 110:=Ee Tryz.func110
theorem xa:Nn 111:=Ee Tryz.func111
theorem xb:Nn 112:=Ee Tryz.func112
theorem xc:Nn 113:=Ee Tryz.func113
theorem pL:Nn 114:=Ee Tryz.func114
theorem xd:Nn 115:=Ee Tryz.func115
theorem xf:Nn 116:=Ee Tryz.func116
theorem xg:Nn 117:=Ee Tryz.func117
theorem xh:Nn 118:=Ee Tryz.func118
theorem xi:Nn 119:=Ee Tryz.func119
theorem pM:Nn 120:=Ee Tryz.func120
theorem En123:Nn 123:=Ee Tryz.func123
theorem pN:Nn 124:=Ee Tryz.func124
theorem xj:Nn 125:=Ee Tryz.func125
theorem xk:Nn 126:=Ee Tryz.func126
theorem pO:Nn 127:=Ee Tryz.func127
theorem jZ:Nn 128:=Ee Tryz.func128
theorem xl:Nn 129:=Ee Tryz.func129
theorem xo:Nn 130:=Ee Tryz.func130
theorem xp:Nn 131:=Ee Tryz.func131
theorem xq:Nn 132:=Ee Tryz.func132
theorem xr:Nn 133:=Ee Tryz.func133
theorem xu:Nn 134:=Ee Tryz.func134
theorem xv:Nn 135:=Ee Tryz.func135
theorem xw:Nn 136:=Ee Tryz.func136
theorem xy:Nn 137:=Ee Tryz.func137
theorem xz:Nn 139:=Ee Tryz.func139
theorem xA:Nn 145:=Ee Tryz.func145
theorem xB:Nn 146:=Ee Tryz.func146
theorem pP:Nn 147:=Ee Tryz.func147
theorem pQ:Nn 148:=Ee Tryz.func148
theorem mz:Nn 149:=Ee Tryz.func149
theorem xC:Nn 150:=Ee Tryz.func150
theorem xD:Nn 151:=Ee Tryz.func151
theorem xE:Nn 153:=Ee Tryz.func153
theorem xF:Nn 154:=Ee Tryz.func154
theorem pR:Nn 156:=Ee Tryz.func156
theorem En171:Nn 171:=Ee Tryz.func171
theorem En202:Nn 202:=Ee Tryz.func202
theorem xG:Nn 234:=Ee Tryz.func234
theorem xH:Nn 235:=Ee Tryz.func235
theorem xI:Nn 236:=Ee Tryz.func236
theorem xJ:Nn 237:=Ee Tryz.func237
abbrev U3:=@Tryz.underlying3
abbrev U4:=@Tryz.underlying4
abbrev U5:=@Tryz.underlying5
abbrev U22:=@Tryz.underlying22
abbrev U23:=@Tryz.underlying23
abbrev U24:=@Tryz.underlying24
abbrev U26:=@Tryz.underlying26
abbrev U28:=@Tryz.underlying28
abbrev U31:=@Tryz.underlying31
abbrev U35:=@Tryz.underlying35
abbrev U41:=@Tryz.underlying41
abbrev U52:=@Tryz.underlying52
abbrev U53:=@Tryz.underlying53
abbrev U54:=@Tryz.underlying54
abbrev U55:=@Tryz.underlying55
abbrev U57:=@Tryz.underlying57
abbrev U58:=@Tryz.underlying58
abbrev U60:=@Tryz.underlying60
abbrev U61:=@Tryz.underlying61
abbrev U64:=@Tryz.underlying64
abbrev U66:=@Tryz.underlying66
abbrev U68:=@Tryz.underlying68
abbrev U81:=@Tryz.underlying81
abbrev U82:=@Tryz.underlying82
abbrev U84:=@Tryz.underlying84
abbrev U88:=@Tryz.underlying88
abbrev U89:=@Tryz.underlying89
abbrev U93:=@Tryz.underlying93
abbrev mA:=@Tryz.underlying113
abbrev bP:=@Tryz.underlying121
abbrev iS:=@Tryz.underlying132
abbrev dQ:=@Tryz.underlying133
abbrev ka:=@Tryz.underlying141
abbrev iT:=@Tryz.underlying142
abbrev fk:=@Tryz.underlying144
abbrev iU:=@Tryz.underlying146
abbrev pS:=@Tryz.underlying148
abbrev pT:=@Tryz.underlying156
abbrev cz:=@Tryz.underlying159
abbrev gG:=@Tryz.underlying167
abbrev dI:=@Tryz.underlying169
abbrev cY:=@Tryz.underlying172
abbrev pU:=@Tryz.underlying186
abbrev mB:=@Tryz.underlying187
abbrev mE:=@Tryz.underlying189
abbrev xK:=@Tryz.underlying196
end Go.Mono
namespace Go.Mono
open Go

abbrev I (n:Int):Value:=.int .i64 n
abbrev B (b:Bool):Value:=.bool b
abbrev BS:=BitVec 1024
def am (S:BS)(i:Nat):BitVec 64:=S.extractLsb' (64 * i) 64
theorem dR (S:BS)(i j:Nat)(h:j<64):(am S i).getLsbD j=S.getLsbD (64 * i+j):=by
 simp[am,BitVec.getLsbD_extractLsb',h]
def aU (f:Nat→BitVec 64):Array Value:=((List.range 16).map fun i=>W (f i)).toArray
theorem fm (f:Nat→BitVec 64):(aU f).size=16:=by simp[aU]
theorem cp (f:Nat→BitVec 64)(i:Nat)(h:i<16):(aU f)[i]?=some (W (f i)):=by
 simp[aU,h]
theorem aP (f:Nat→BitVec 64):(aU f).all (·.oneCell')=true:=by
 rw[Array.all_eq_true_iff_forall_mem]
 intro v hv
 simp only[aU,List.mem_toArray,List.mem_map] at hv
 obtain⟨i,_,rfl⟩:=hv
 rfl
theorem hZ (f:Nat→BitVec 64)(k:Nat)(x:BitVec 64):(aU f).setIfInBounds k (W x)=aU (fun i=>if i=k then x else f i):=by
 apply Array.ext_getElem?
 intro i
 by_cases hi:i<16
 ·rw[cp _ _ hi]
  by_cases hk:i=k
  ·subst hk
   rw[Array.getElem?_setIfInBounds_self_of_lt (by rw[fm];exact hi)]
   simp
  ·rw[Array.getElem?_setIfInBounds_ne (Ne.symm hk),cp _ _ hi]
   simp[hk]
 ·rw[Array.getElem?_eq_none (by simp[fm];omega),Array.getElem?_eq_none (by simp[fm];omega)]
theorem dK {f g:Nat→BitVec 64}(h:∀i,i<16→f i=g i):aU f=aU g:=by
 unfold aU
 congr 1
 exact List.map_congr_left fun i hi=>by rw[h i (List.mem_range.1 hi)]
theorem xL {f g:Nat→BitVec 64}(h:aU f=aU g):∀i,i<16→f i=g i:=by
 intro i hi
 have h1:=cp f i hi
 rw[h,cp g i hi] at h1
 exact (vA (Option.some.inj h1)).symm
def au (S:BS):Array Value:=aU (am S)
def ac (S:BS):Value:=.agg (au S)
theorem aZ (S:BS):(au S).size=16:=fm _
theorem mF {S T:BS}(h:∀i,i<16→am S i=am T i):S=T:=by
 apply BitVec.eq_of_getLsbD_eq
 intro i hi
 have h1:=congrArg (fun v=>v.getLsbD (i % 64)) (h (i / 64) (by omega))
 simp only[dR _ _ _ (Nat.mod_lt i (by decide:0<64))] at h1
 rwa [Nat.div_add_mod] at h1
theorem mG {S T:BS}(h:au S=au T):S=T:=mF (xL h)
theorem mH (S T:BS)(i:Nat):am (S ||| T) i=am S i ||| am T i:=by simp[am,BitVec.extractLsb'_or]
theorem xM (S T:BS)(i:Nat):am (S &&& T) i=am S i &&& am T i:=by simp[am,BitVec.extractLsb'_and]
theorem pV (S T:BS)(i:Nat)(hi:i<16):am (S &&& ~~~T) i=am S i &&& ~~~am T i:=by
 apply BitVec.eq_of_getLsbD_eq
 intro j hj
 rw[dR _ _ _ hj,BitVec.getLsbD_and,BitVec.getLsbD_and,BitVec.getLsbD_not,BitVec.getLsbD_not,dR _ _ _ hj,dR _ _ _ hj,decide_eq_true hj,decide_eq_true (show 64 * i+j<1024 by omega)]
theorem mI (i:Nat):am 0 i=0:=by simp[am]
def sgl (n:Nat):BS:=1#1024 <<< n
theorem iV (n i:Nat)(h:n<1024):(sgl n).getLsbD i=decide (i=n):=by
 simp only[sgl,BitVec.getLsbD_shiftLeft,BitVec.getLsbD_one]
 by_cases hin:i=n
 ·subst hin;simp[h]
 ·by_cases hi:i<1024
  ·by_cases hlt:i<n
   ·simp[hin,hlt]
   ·simp[hin,show i - n≠0 by omega]
  ·simp[hi,hin]
theorem pW (n i:Nat)(h:n<1024):am (sgl n) i=if i=n / 64 then 1#64 <<< (n % 64) else 0:=by
 apply BitVec.eq_of_getLsbD_eq
 intro j hj
 rw[dR _ _ _ hj,iV _ _ h]
 split
 ·rename_i hi
  subst hi
  simp only[BitVec.getLsbD_shiftLeft,BitVec.getLsbD_one,hj,decide_true,Bool.true_and]
  by_cases hjn:j=n % 64
  ·have:64 * (n / 64)+j=n:=by omega
   simp[hjn,Nat.div_add_mod]
  ·have h1:64 * (n / 64)+j≠n:=by omega
   by_cases hlt:j<n % 64
   ·simp[h1,hlt]
   ·simp[h1,show j - n % 64≠0 by omega]
 ·rename_i hi
  have:64 * i+j≠n:=by omega
  simp[this]
theorem xN (u:BitVec 64)(k:Nat)(h:k<64):((u &&& 1#64 <<< k) != 0#64)=u.getLsbD k:=by
 cases hb:u.getLsbD k with
 | true=>
  rw[bne_iff_ne]
  intro h0
  have:=congrArg (fun v=>v.getLsbD k) h0
  simp only[BitVec.getLsbD_and,hb,BitVec.getLsbD_shiftLeft,BitVec.getLsbD_one,BitVec.getLsbD_zero] at this
  simp[h] at this
 | false=>
  rw[bne_eq_false_iff_eq]
  apply BitVec.eq_of_getLsbD_eq
  intro j hj
  simp only[BitVec.getLsbD_and,BitVec.getLsbD_shiftLeft,BitVec.getLsbD_one,BitVec.getLsbD_zero]
  by_cases hjk:j=k
  ·subst hjk;simp[hb]
  ·by_cases hlt:j<k
   ·simp[hlt]
   ·simp[show j - k≠0 by omega]
def cA (n:Int):Bool:=decide (0≤n)&&decide (n<1024)
theorem cN {n:Int}:cA n=true↔0≤n∧n<1024:=by simp[cA]
def has (S:BS)(n:Int):Bool:=cA n&&S.getLsbD n.toNat
def ins (S:BS)(n:Int):BS:=if cA n then S ||| sgl n.toNat else S
def del (S:BS)(n:Int):BS:=if cA n then S &&& ~~~sgl n.toNat else S
theorem xO {n:Int}(S:BS)(h:cA n=true):∀i,i<16→am (ins S n) i=if i=(n / 64).toNat then am S i ||| 1#64 <<< (n % 64).toNat else am S i:=by
 intro i hi
 have:=cN.1 h
 rw[ins,if_pos h,mH,pW _ _ (by omega)]
 have h1:n.toNat / 64=(n / 64).toNat:=by omega
 have h2:n.toNat % 64=(n % 64).toNat:=by omega
 rw[h1,h2]
 split <;> simp
theorem xP {n:Int}(S:BS)(h:cA n=true):∀i,i<16→am (del S n) i=if i=(n / 64).toNat then am S i &&& ~~~(1#64 <<< (n % 64).toNat) else am S i:=by
 intro i hi
 have:=cN.1 h
 rw[del,if_pos h,pV _ _ _ hi,pW _ _ (by omega)]
 have h1:n.toNat / 64=(n / 64).toNat:=by omega
 have h2:n.toNat % 64=(n % 64).toNat:=by omega
 rw[h1,h2]
 split
 ·rfl
 ·have : ~~~(0:BitVec 64)=BitVec.allOnes 64:=by simp
  rw[this,BitVec.and_allOnes]
theorem xQ (S:BS)(n:Int)(h:cA n=true):((am S (n / 64).toNat &&& 1#64 <<< (n % 64).toNat) != 0#64)=has S n:=by
 have:=cN.1 h
 rw[xN _ _ (by omega),dR _ _ _ (by omega),has,h,Bool.true_and]
 congr 1
 omega
theorem fp (S:BS):(ac S).cells=au S:=rfl
theorem pX:au 0=aU (fun _=>0):=dK fun i _=>mI i
theorem xR {n:Int}(S:BS)(h:cA n=true):aU (fun i=>if i=(n / 64).toNat then am S (n / 64).toNat ||| 1#64 <<< (n % 64).toNat else am S i)=au (ins S n):=
 dK fun i hi=>by
  rw[xO S h i hi]
  split
  ·rename_i hk;rw[hk]
  ·rfl
theorem xS {n:Int}(S:BS)(h:cA n=true):aU (fun i=>if i=(n / 64).toNat then am S (n / 64).toNat &&& ~~~(1#64 <<< (n % 64).toNat) else am S i)=au (del S n):=
 dK fun i hi=>by
  rw[xP S h i hi]
  split
  ·rename_i hk;rw[hk]
  ·rfl
def z16:Array Value := #[Value.int .u64 0,.int .u64 0,.int .u64 0,.int .u64 0,.int .u64 0,.int .u64 0,.int .u64 0,.int .u64 0,.int .u64 0,.int .u64 0,.int .u64 0,.int .u64 0,.int .u64 0,.int .u64 0,.int .u64 0,.int .u64 0]
theorem cE : #[Value.int .u64 0,.int .u64 0,.int .u64 0,.int .u64 0,.int .u64 0,.int .u64 0,.int .u64 0,.int .u64 0,.int .u64 0,.int .u64 0,.int .u64 0,.int .u64 0,.int .u64 0,.int .u64 0,.int .u64 0,.int .u64 0]=au 0:=by
 rw[pX]
 rfl
theorem pY:Value.agg z16=ac 0:=by
 unfold z16 ac
 rw[cE]
end Go.Mono
namespace Go.Mono
open Go Go.RowKit

variable {P:Program}{w0:World}{L:Env}{dst:Option Tmp}{ty:TypeId}{pos:String}{aft:Array Edge}{g:Option (Nat×Bool)}

theorem xT {e:TypeId}(he:P.underlying e=some (.int .u64))(d:Nat)(u v:BitVec 64)(w:World):(Op.equalIn (d+1) e (W u) (W v)).run P w=.ok (u==v) w:=by
 simp only[Op.equalIn,Sem.run_bind,run_underlying he,Result.andThen_ok,W,if_true]
 rw[mg]
 rfl
theorem pZ {e:TypeId}(hs:TI P e false 1)(f:Nat→BitVec 64)(i:Nat)(h:i<16)(w:World):(part e (aU f) i).run P w=.ok (W (f i)) w:=by
 simp[part,hs.agg,cp f i h]

theorem kb {t e:TypeId}(ht:P.underlying t=some (.array 16 e))(he:P.underlying e=some (.int .u64))(hs:TI P e false 1)(d:Nat)(f g:Nat→BitVec 64)(w:World) :
  (Op.equalIn (d+2) t (.agg (aU f)) (.agg (aU g))).run P w=.ok ((List.range 16).all fun i=>f i==g i) w:=by
 have key:∀(l:List Nat),(∀i∈l,i<16)→∀(k:Option Bool×PUnit→Sem Bool) (r:Bool),(k (none,⟨⟩)).run P w=.ok true w→(k (some false,⟨⟩)).run P w=.ok false w →
   ((
     forIn l (none,PUnit.unit) (fun i r=>do
     if !(← Op.equalIn (d+1) e (← part e (aU f) (i * 1)) (← part e (aU g) (i * 1))) then pure (ForInStep.done (some false,PUnit.unit))
     else do pure PUnit.unit;pure (ForInStep.yield (none,PUnit.unit)))) >>= k).run P w=.ok (l.all fun i=>f i==g i) w:=by
  intro l hl k r hk1 hk2
  induction l with
  | nil=>simpa using hk1
  | cons i l ih=>
   have hi:=hl i (by simp)
   have ih:=ih (fun j hj=>hl j (by simp[hj]))
   simp only[List.forIn_cons,Sem.run_bind,Nat.mul_one,pZ hs f i hi,pZ hs g i hi,Result.andThen_ok,xT he] at ih ⊢
   cases hb:(f i==g i) with
   | false=>simpa[hb] using hk2
   | true=>simpa[hb] using ih
 rw[Op.equalIn]
 simp only[Sem.run_bind,run_underlying ht,Result.andThen_ok,hs.size]
 rw[Std.Legacy.Range.forIn_eq_forIn_range']
 have:=key (List.range 16) (fun i hi=>List.mem_range.1 hi) (fun r=>match r.1 with|some a=>pure a|none=>pure true) true rfl rfl
 simp only[Sem.run_bind] at this
 rw[List.range_eq_range'] at this ⊢
 refine Eq.trans ?_ this
 have e1:(Std.Legacy.Range.size [:16])=16:=rfl
 rw[e1]
 congr 1
 funext a w'
 cases a with
 | mk a b=>cases a <;> rfl
theorem iW (op:BinOp)(t:TypeId)(x y:Operand)(xs ys:Array Value)(hm:P.eqGuardType P.depth t=false)(w:World):(eqGuard op t x y (.agg xs) (.agg ys)).run P w=.ok () w:=run_eqGuard_agg w op t x y xs ys hm

theorem kc (S T:BS):((List.range 16).all fun i=>am S i==am T i)=(S==T):=by
 rw[Bool.eq_iff_iff]
 simp only[List.all_eq_true,List.mem_range,beq_iff_eq]
 exact⟨fun h=>mF h,fun h=>by subst h;simp⟩
theorem eqS {x y:Operand}{t yt e:TypeId}{S T:BS}(ht:P.underlying t=some (.array 16 e))(he:P.underlying e=some (.int .u64))(hs:TI P e false 1)(hm:P.eqGuardType P.depth t=false)(hx:opd L x=some (E (ac S)))(hy:opd L y=some (E (ac T))) :
  OpC P w0 L ⟨dst,.binOp .eql t x y yt,ty,pos,aft,g⟩ (E (.bool (S==T))):=
 jN hx hy (fun w=>iW _ _ _ _ _ _ hm w) rfl fun w _=>by
  rw[← kc]
  exact kb ht he hs 9998 (am S) (am T) w
theorem neS {x y:Operand}{t yt e:TypeId}{S T:BS}(ht:P.underlying t=some (.array 16 e))(he:P.underlying e=some (.int .u64))(hs:TI P e false 1)(hm:P.eqGuardType P.depth t=false)(hx:opd L x=some (E (ac S)))(hy:opd L y=some (E (ac T))) :
  OpC P w0 L ⟨dst,.binOp .neq t x y yt,ty,pos,aft,g⟩ (E (.bool (S != T))):=
 oV hx hy (fun w=>iW _ _ _ _ _ _ hm w) rfl fun w _=>by
  rw[← kc]
  exact kb ht he hs 9998 (am S) (am T) w
theorem xU {t:TypeId}{ps:Array (Nat×Operand)}{vs:Operand→Value}{cs:Array Value}(hx:∀p∈ps,opd L p.2=some (E (vs p.2)))(hb:P.built t (ps.map fun (i,x)=>(i,vs x)).toList=some cs) :
  OpC P w0 L ⟨dst,.build t ps,ty,pos,aft,g⟩ (E (.agg cs)):=
 aM fun ρ w _ hv=>by
  have e:(ps.map fun (i,x)=>(i,ρ x))=ps.map fun (i,x)=>(i,vs x):=Array.map_congr_left fun p hp=>by
   obtain⟨i,x⟩:=p
   have:=hv x (by simp only[Op.operands,List.mem_toArray,List.mem_map];exact⟨(i,x),by simpa using hp,rfl⟩) _ (hx _ hp)
   have h2:ρ x=vs x:=this
   simp only[h2]
  exact⟨_,by simp only[execOp,e,Sem.run_bind,run_build w t _ cs hb,Result.andThen_ok,Sem.run_pure],rfl⟩
theorem xV {t:TypeId}{cs:Array Value}(hb:P.built t []=some cs):OpC P w0 L ⟨dst,.build t #[],ty,pos,aft,g⟩ (E (.agg cs)):=
 xU (vs:=fun _=>undef) (fun p hp=>by simp at hp) (by simpa using hb)

section more
variable {x y:Operand}{t yt:TypeId}{u v:BitVec 64}
theorem xW (hx:opd L x=some (E (W u)))(hy:opd L y=some (E (W v))):OpC P w0 L ⟨dst,.binOp .mul t x y yt,ty,pos,aft,g⟩ (E (W (u * v))):=
 ce (by
  show pure (Value.int .u64 (IntKind.u64.wrap ((u.toNat:Int) * (v.toNat:Int))))=_
  have e:IntKind.u64.wrap ((u.toNat:Int) * (v.toNat:Int))=((u * v).toNat:Int):=by
   rw[BitVec.toNat_mul]
   simp only[IntKind.wrap,IntKind.bits,IntKind.signed,Bool.false_and,Bool.false_eq_true,if_false]
   simp
  rw[e];rfl) hx hy
theorem xX (hx:opd L x=some (E (W u))):OpC P w0 L ⟨dst,.unOp .neg t x,ty,pos,aft,g⟩ (E (W (-u))):=
 aM fun ρ w _ hv=>by
  have h1:=opE hv (x:=x) (by simp[Op.operands]) hx
  refine⟨_,?_,rfl⟩
  have e:IntKind.u64.wrap (0 - (u.toNat:Int))=((-u).toNat:Int):=by
   rw[BitVec.toNat_neg]
   simp only[IntKind.wrap,IntKind.bits,IntKind.signed,Bool.false_and,Bool.false_eq_true,if_false]
   omega
  have e2:(Op.unary .neg (W u))=pure (Value.int .u64 (IntKind.u64.wrap (0 - (u.toNat:Int)))):=rfl
  simp only[execOp,h1,e2,e,Sem.run_bind,Sem.run_pure,Result.andThen_ok]
  rfl
theorem qa {s d:TypeId}{ks kd:IntKind}{n:Int}(hs:P.underlying s=some (.int ks))(hd:P.underlying d=some (.int kd))(hx:opd L x=some (E (.int ks n))) :
  OpC P w0 L ⟨dst,.convert s d x,ty,pos,aft,g⟩ (E (.int kd (kd.wrap n))):=
 aM fun ρ w _ hv=>by
  have h1:=opE hv (x:=x) (by simp[Op.operands]) hx
  exact⟨_,by simp[execOp,h1,convert,run_underlying hs,run_underlying hd,Conv.intToInt],rfl⟩
theorem ldC {t:TypeId}{ad:Addr}{v:Value}(ht:TI P t false 1)(hx:opd L x=some (E (.pointer (some ad))))(hc:∀w,Ext w0 w→w.cell? ad=some v):OpC P w0 L ⟨dst,.load t x,ty,pos,aft,g⟩ (E v):=
 aM fun ρ w he hv=>by
  have h1:=opE hv (x:=x) (by simp[Op.operands]) hx
  exact⟨_,by simp[execOp,h1,Instr.loadAt,Instr.sureAddr,jP ht (hc w he)],rfl⟩
theorem min2 {tys:Array TypeId}{k:IntKind}{a b:Int}(hx:opd L x=some (E (.int k a)))(hy:opd L y=some (E (.int k b))) :
  OpC P w0 L ⟨dst,.call ⟨.builtin .min,#[x,y],tys⟩,ty,pos,aft,g⟩ (E (.int k (min a b))):=
 aM fun ρ w _ hv=>by
  have h1:=opE hv (x:=x) (by simp[Op.operands,Call.operands]) hx
  have h2:=opE hv (x:=y) (by simp[Op.operands,Call.operands]) hy
  refine⟨_,?_,rfl⟩
  have e:(if b<a then b else a)=min a b:=by rw[Int.min_def];split <;> split <;> omega
  simp[execOp,resolve,invoke,builtin,h1,h2,Builtin.min_,Builtin.min2,e]
theorem max2 {tys:Array TypeId}{k:IntKind}{a b:Int}(hx:opd L x=some (E (.int k a)))(hy:opd L y=some (E (.int k b))) :
  OpC P w0 L ⟨dst,.call ⟨.builtin .max,#[x,y],tys⟩,ty,pos,aft,g⟩ (E (.int k (max a b))):=
 aM fun ρ w _ hv=>by
  have h1:=opE hv (x:=x) (by simp[Op.operands,Call.operands]) hx
  have h2:=opE hv (x:=y) (by simp[Op.operands,Call.operands]) hy
  refine⟨_,?_,rfl⟩
  have e:(if b > a then b else a)=max a b:=by rw[Int.max_def];split <;> split <;> omega
  simp[execOp,resolve,invoke,builtin,h1,h2,Builtin.max_,Builtin.max2,e]
theorem xY {fn:Fn}{xs:Array Operand}{vs:Operand→Value}(hx:∀x∈xs,opd L x=some (E (vs x))) :
  OpC P w0 L ⟨dst,.makeFunc fn #[] xs,ty,pos,aft,g⟩ (E (.func fn #[] (xs.map vs))):=
 aM fun ρ w _ hv=>by
  have e:xs.map ρ=xs.map vs:=Array.map_congr_left fun x h=>hv x (by simp[Op.operands,h]) _ (hx x h)
  exact⟨_,by simp[execOp,Instr.makeFunc,e],rfl⟩
end more
end Go.Mono
namespace Go.Mono
open Go Go.RowKit
structure Enc (α:Type) where
 k:Nat
 agg:Bool
 r:(Nat→Prop)→World→α→List Value→Prop
 pos:0<k
 k1:agg=false→k=1
 len:∀{G w x cs},r G w x cs→cs.length=k
 one:∀{G w x cs},r G w x cs→∀u∈cs,u.oneCell'=true
 pres:∀{G w w' x cs},r G w x cs→(∀b,b<w.heap.size→¬G b→w'.heap[b]?=w.heap[b]?)→w.heap.size≤w'.heap.size→r G w' x cs
 weak:∀{G G' w x cs},r G w x cs→(∀b,b<w.heap.size→G' b→G b)→r G' w x cs

def Enc.pack {α:Type}(e:Enc α)(cs:List Value):Value:=match e.agg with
 | true=>.agg cs.toArray
 | false=>cs.headD undef

section enc
variable {α β:Type}{e:Enc α}{G G':Nat→Prop}{w w':World}{x:α}{cs:List Value}

theorem Enc.ext (h:e.r G w x cs)(k:Ext w w'):e.r G w' x cs:=e.pres h (fun b hb _=>k.block b hb) k.size
theorem Enc.gro {row:Option Nat}(h:e.r G w x cs)(k:w.grownBy w' row)(hG:∀b,row=some b→G b):e.r G w' x cs:=
 e.pres h (fun b hb hn=>k.block b hb (fun he=>hn (hG b he.symm))) k.size
theorem qb {u:Value}(h:u.oneCell'=true):u.cells = #[u]:=by cases u <;> simp[Value.cells,Value.oneCell'] at h ⊢
theorem Enc.pack_cells (h:e.r G w x cs):(e.pack cs).cells=cs.toArray:=by
 unfold Enc.pack
 cases ha:e.agg with
 | true=>rfl
 | false=>
  have hl:=e.len h
  rw[e.k1 ha] at hl
  match cs,hl with
  | [u],_=>simp[qb (e.one h u (by simp))]
def Dv (e:Enc α)(G:Nat→Prop)(x:α):VA:=
 ⟨fun v w=>∃cs,e.r G w x cs∧v=e.pack cs,fun v w w' k ⟨cs,h,hv⟩=>⟨cs,Enc.ext h k,hv⟩⟩
theorem Dv.weak {v:Value}(h:(Dv e G x).p v w)(hG:∀b,b<w.heap.size→G' b→G b):(Dv e G' x).p v w:=by
 obtain⟨cs,h,hv⟩:=h
 exact⟨cs,e.weak h hG,hv⟩
def eL (k:Nat)(agg:Bool)(f:α→List Value)(pos:0<k)(k1:agg=false→k=1)(hl:∀x,(f x).length=k)(h1:∀x,∀u∈f x,u.oneCell'=true):Enc α where
 k:=k
 agg:=agg
 r:=fun _ _ x cs=>cs=f x
 pos:=pos
 k1:=k1
 len:=fun h=>by rw[h];exact hl _
 one:=fun h=>by rw[h];exact h1 _
 pres:=fun h _ _=>h
 weak:=fun h _=>h
def aj:Enc Int:=eL 1 false (fun n=>[.int .i64 n]) (by decide) (fun _=>rfl) (fun _=>rfl) (fun x u hu=>by simp at hu;subst hu;rfl)
def cZ:Enc Bool:=eL 1 false (fun b=>[.bool b]) (by decide) (fun _=>rfl) (fun _=>rfl) (fun x u hu=>by simp at hu;subst hu;rfl)
def bD:Enc BS:=eL 16 true (fun S=>(au S).toList) (by decide) (fun h=>by cases h) (fun S=>by rw[Array.length_toList,aZ]) (fun S u hu=>by
 have:=aP (am S)
 rw[Array.all_eq_true_iff_forall_mem] at this
 exact this u (by simpa[au] using hu))

theorem Dv.int {v:Value}{n:Int}:(Dv aj G n).p v w↔v=.int .i64 n:=⟨fun⟨cs,h,hv⟩=>by cases h;exact hv,fun h=>⟨_,rfl,h⟩⟩
theorem Dv.bool {v:Value}{n:Bool}:(Dv cZ G n).p v w↔v=.bool n:=⟨fun⟨cs,h,hv⟩=>by cases h;exact hv,fun h=>⟨_,rfl,h⟩⟩
theorem Dv.set {v:Value}{S:BS}:(Dv bD G S).p v w↔v=ac S:=⟨fun⟨cs,h,hv⟩=>by cases h;exact hv,fun h=>⟨_,rfl,h⟩⟩
def prE (e:Enc α)(f:Enc β):Enc (α×β) where
 k:=e.k+f.k
 agg:=true
 r:=fun G w x cs=>∃c d,cs=c++d∧e.r G w x.1 c∧f.r G w x.2 d
 pos:=by have:=e.pos;omega
 k1:=fun h=>by cases h
 len:=fun⟨c,d,h,h1,h2⟩=>by rw[h,List.length_append,e.len h1,f.len h2]
 one:=fun⟨c,d,h,h1,h2⟩ u hu=>by
  rw[h,List.mem_append] at hu
  exact hu.elim (e.one h1 u) (f.one h2 u)
 pres:=fun⟨c,d,h,h1,h2⟩ k l=>⟨c,d,h,e.pres h1 k l,f.pres h2 k l⟩
 weak:=fun⟨c,d,h,h1,h2⟩ k=>⟨c,d,h,e.weak h1 k,f.weak h2 k⟩
def Cells (e:Enc α)(G:Nat→Prop)(w:World):List α→List Value→Prop
 | [],cs=>cs=[]
 | x::xs,cs=>∃c d,cs=c++d∧e.r G w x c∧Cells e G w xs d

theorem Cells.len:∀{xs:List α} {cs:List Value},Cells e G w xs cs→cs.length=xs.length * e.k
 | [],cs,h=>by cases h;simp
 | x::xs,cs,⟨c,d,h,h1,h2⟩=>by rw[h,List.length_append,e.len h1,Cells.len h2,List.length_cons,Nat.succ_mul];omega
theorem Cells.one:∀{xs:List α} {cs:List Value},Cells e G w xs cs→∀u∈cs,u.oneCell'=true
 | [],cs,h=>by cases h;simp
 | x::xs,cs,⟨c,d,h,h1,h2⟩=>fun u hu=>by
  rw[h,List.mem_append] at hu
  exact hu.elim (e.one h1 u) (Cells.one h2 u)
theorem Cells.pres:∀{xs:List α} {cs:List Value},Cells e G w xs cs→(∀b,b<w.heap.size→¬G b→w'.heap[b]?=w.heap[b]?)→w.heap.size≤w'.heap.size→Cells e G w' xs cs
 | [],cs,h,_,_=>h
 | x::xs,cs,⟨c,d,h,h1,h2⟩,k,l=>⟨c,d,h,e.pres h1 k l,Cells.pres h2 k l⟩
theorem Cells.weak:∀{xs:List α} {cs:List Value},Cells e G w xs cs→(∀b,b<w.heap.size→G' b→G b)→Cells e G' w xs cs
 | [],cs,h,_=>h
 | x::xs,cs,⟨c,d,h,h1,h2⟩,k=>⟨c,d,h,e.weak h1 k,Cells.weak h2 k⟩
theorem Cells.app:∀{xs ys:List α} {cs ds:List Value},Cells e G w xs cs→Cells e G w ys ds→Cells e G w (xs++ys) (cs++ds)
 | [],ys,cs,ds,h,k=>by cases h;exact k
 | x::xs,ys,cs,ds,⟨c,d,h,h1,h2⟩,k=>⟨c,d++ds,by rw[h,List.append_assoc],h1,Cells.app h2 k⟩
theorem Cells.get:∀{xs:List α} {cs:List Value} {j:Nat} {x:α},Cells e G w xs cs→xs[j]?=some x→∃c,e.r G w x c∧∀i u,c[i]?=some u→cs[j * e.k+i]?=some u
 | [],cs,j,x,h,hj=>by simp at hj
 | y::xs,cs,0,x,⟨c,d,h,h1,h2⟩,hj=>by
  simp at hj
  subst hj
  exact⟨c,h1,fun i u hu=>by
   rw[Nat.zero_mul,Nat.zero_add,h,List.getElem?_append_left (List.getElem?_eq_some_iff.1 hu).1];exact hu⟩
 | y::xs,cs,j+1,x,⟨c,d,h,h1,h2⟩,hj=>by
  obtain⟨c',h3,h4⟩:=Cells.get h2 (by simpa using hj)
  refine⟨c',h3,fun i u hu=>?_⟩
  rw[h,List.getElem?_append_right (by rw[e.len h1,Nat.succ_mul];omega),e.len h1,show (j+1) * e.k+i - e.k=j * e.k+i by rw[Nat.succ_mul];omega]
  exact h4 i u hu
def At (w:World)(ad:Addr)(cs:List Value):Prop:=∀i u,cs[i]?=some u→w.cell? (ad.add i)=some u
theorem ia (ad:Addr)(i:Nat):(ad.add i).block=ad.block:=by unfold Addr.add;split <;> rfl
theorem add_add (ad:Addr)(i j:Nat):(ad.add i).add j=ad.add (i+j):=by
 unfold Addr.add
 by_cases hi:i=0
 ·subst hi;simp
 ·by_cases hj:j=0
  ·subst hj;simp[hi]
  ·have:¬i+j=0:=by omega
   simp[hi,hj,Nat.add_assoc]
theorem At.pres {ad:Addr}(h:At w ad cs)(hb:w'.heap[ad.block]?=w.heap[ad.block]?):At w' ad cs:=fun i u hu=>by
 rw[World.cell?_of_block (w:=w) (by rw[ia];exact hb)]
 exact h i u hu
theorem At.sub {ad:Addr}{c:List Value}{n:Nat}(h:At w ad cs)(hc:∀i u,c[i]?=some u→cs[n+i]?=some u):At w (ad.add n) c:=fun i u hu=>by
 rw[add_add]
 exact h _ u (hc i u hu)
def SlR (e:Enc α)(G:Nat→Prop)(w:World)(xs:List α)(v:Value):Prop:=
 (v=.slice none 0 0∧xs=[])∨∃ad cap cs,v=.slice (some ad) xs.length cap∧xs.length≤cap∧¬G ad.block∧ad.block<w.heap.size∧Cells e G w xs cs∧At w ad cs
def slE (e:Enc α):Enc (List α) where
 k:=1
 agg:=false
 r:=fun G w xs cs=>∃v,cs=[v]∧SlR e G w xs v
 pos:=by decide
 k1:=fun _=>rfl
 len:=fun⟨v,h,_⟩=>by rw[h];rfl
 one:=fun⟨v,h,hv⟩ u hu=>by
  rw[h] at hu
  simp at hu
  subst hu
  rcases hv with ⟨rfl,_⟩|⟨ad,cap,cs,rfl,_⟩ <;> rfl
 pres:=fun⟨v,h,hv⟩ k l=>⟨v,h,by
  rcases hv with hv|⟨ad,cap,cs,h1,h2,h3,h4,h5,h6⟩
  ·exact .inl hv
  ·exact .inr ⟨ad,cap,cs,h1,h2,h3,Nat.lt_of_lt_of_le h4 l,h5.pres k l,h6.pres (k _ h4 h3)⟩⟩
 weak:=fun⟨v,h,hv⟩ k=>⟨v,h,by
  rcases hv with hv|⟨ad,cap,cs,h1,h2,h3,h4,h5,h6⟩
  ·exact .inl hv
  ·exact .inr ⟨ad,cap,cs,h1,h2,fun hg=>h3 (k _ h4 hg),h4,h5.weak k,h6⟩⟩
theorem Dv.sl {v:Value}{xs:List α}:(Dv (slE e) G xs).p v w↔SlR e G w xs v:=
 ⟨fun⟨cs,⟨u,h,hu⟩,hv⟩=>by subst h;rw[hv];exact hu,fun h=>⟨[v],⟨v,rfl,h⟩,rfl⟩⟩
theorem Dv.nil:(Dv (slE e) G []).p (.slice none 0 0) w:=Dv.sl.2 (.inl ⟨rfl,rfl⟩)
def PtR (e:Enc α)(G:Nat→Prop)(w:World)(x:α)(ad:Addr):Prop:=¬G ad.block∧ad.block<w.heap.size∧∃cs,e.r G w x cs∧At w ad cs
def ptE (e:Enc α):Enc (Option α) where
 k:=1
 agg:=false
 r:=fun G w x cs=>(x=none∧cs=[.pointer none])∨∃y ad,x=some y∧cs=[.pointer (some ad)]∧PtR e G w y ad
 pos:=by decide
 k1:=fun _=>rfl
 len:=fun h=>by rcases h with ⟨_,h⟩|⟨y,ad,_,h,_⟩ <;> rw[h] <;> rfl
 one:=fun h u hu=>by
  rcases h with ⟨_,h⟩|⟨y,ad,_,h,_⟩ <;> (rw[h] at hu;simp at hu;subst hu;rfl)
 pres:=fun h k l=>by
  rcases h with h|⟨y,ad,h1,h2,h3,h4,cs,h5,h6⟩
  ·exact .inl h
  ·exact .inr ⟨y,ad,h1,h2,h3,Nat.lt_of_lt_of_le h4 l,cs,e.pres h5 k l,h6.pres (k _ h4 h3)⟩
 weak:=fun h k=>by
  rcases h with h|⟨y,ad,h1,h2,h3,h4,cs,h5,h6⟩
  ·exact .inl h
  ·exact .inr ⟨y,ad,h1,h2,fun hg=>h3 (k _ h4 hg),h4,cs,e.weak h5 k,h6⟩
theorem Dv.pt {v:Value}:(Dv (ptE e) G (some x)).p v w↔∃ad,v=.pointer (some ad)∧PtR e G w x ad:=
 ⟨fun⟨cs,h,hv⟩=>(by
  rcases h with ⟨h,_⟩|⟨y,ad,h1,h2,h3⟩
  ·cases h
  ·cases h1;subst h2;exact⟨ad,hv,h3⟩),fun⟨ad,h1,h2⟩=>⟨[v],.inr ⟨x,ad,rfl,by rw[h1],h2⟩,rfl⟩⟩
structure Fld (e:Enc α)(off:Nat)(f:Enc β)(g:α→β):Prop where
 at':∀{G w x cs},e.r G w x cs→∃c,f.r G w (g x) c∧∀i u,c[i]?=some u→cs[off+i]?=some u
theorem Fld.refl:Fld e 0 e (fun x=>x):=⟨fun h=>⟨_,h,fun i u hu=>by rw[Nat.zero_add];exact hu⟩⟩
theorem Fld.fst {γ:Type}{f:Enc β}{e':Enc γ}{g:α→γ}{off:Nat}(F:Fld e off e' g):Fld (prE e f) off e' (fun x=>g x.1):=⟨fun⟨c,d,h,h1,h2⟩=>by
 obtain⟨c',h3,h4⟩:=F.at' h1
 refine⟨c',h3,fun i u hu=>?_⟩
 have:=h4 i u hu
 rw[h,List.getElem?_append_left (List.getElem?_eq_some_iff.1 this).1]
 exact this⟩
theorem Fld.snd {γ:Type}{f:Enc β}{e':Enc γ}{g:β→γ}{off n:Nat}(F:Fld f off e' g)(hn:n=e.k+off):Fld (prE e f) n e' (fun x=>g x.2):=⟨fun⟨c,d,h,h1,h2⟩=>by
 obtain⟨c',h3,h4⟩:=F.at' h2
 refine⟨c',h3,fun i u hu=>?_⟩
 have:=h4 i u hu
 rw[h,List.getElem?_append_right (by rw[e.len h1];omega),e.len h1,show n+i - e.k=off+i by omega]
 exact this⟩
end enc

theorem mJ {γ:Type}(f:γ→Value×Nat→γ)(init:γ)(c:List Value):c.toArray.zipIdx.foldl f init=c.zipIdx.foldl f init:=by
 rw[← Array.foldl_toList,Array.toList_zipIdx]
section ops
variable {P:Program}{w0:World}{L:Env}{dst:Option Tmp}{ty:TypeId}{pos:String}{aft:Array Edge}{g:Option (Nat×Bool)}
variable {α β:Type}{e:Enc α}{G:Nat→Prop}{x y:Operand}{t:TypeId}{xs:List α}{z:α}
def Is (L:Env)(w0:World)(x:Operand)(A:VA):Prop:=∃B,opd L x=some B∧∀v w,Ext w0 w→B.p v w→A.p v w
theorem isR {A:VA}(h:opd L x=some A):Is L w0 x A:=⟨A,h,fun _ _ _ h=>h⟩
theorem isE {A:VA}{v:Value}(h:opd L x=some (E v))(hA:A.p v w0):Is L w0 x A:=⟨_,h,fun u w he hu=>by cases hu;exact A.st _ _ _ he hA⟩
theorem isI {n:Int}(h:opd L x=some (E (.int .i64 n))):Is L w0 x (Dv aj G n):=isE h (Dv.int.2 rfl)
theorem isS {S:BS}(h:opd L x=some (E (ac S))):Is L w0 x (Dv bD G S):=isE h (Dv.set.2 rfl)
theorem Is.v {A:VA}{ρ:Operand→Value}{w:World}{o:Oper}(h:Is L w0 x A)(he:Ext w0 w)(hv:∀x∈o.op.operands,∀B,opd L x=some B→B.p (ρ x) w)(hx:x∈o.op.operands):A.p (ρ x) w:=by
 obtain⟨B,h1,h2⟩:=h
 exact h2 _ _ he (hv x hx _ h1)

theorem aF {te:TypeId}(ht:P.underlying t=some (.slice te))(hx:Is L w0 x (Dv (slE e) G xs)):OpC P w0 L ⟨dst,.call ⟨.builtin .len,#[x],#[t]⟩,ty,pos,aft,g⟩ (E (.int .i64 (xs.length:Nat))):=
 aM fun ρ w he hv=>by
  have h:=Dv.sl.1 (hx.v he hv (by simp[Op.operands,Call.operands]))
  refine⟨_,?_,rfl⟩
  rcases h with ⟨h,rfl⟩|⟨ad,cap,cs,h,_⟩
  ·simp[execOp,resolve,invoke,builtin,Builtin.len_,h,run_underlying ht,goInt]
  ·simp[execOp,resolve,invoke,builtin,Builtin.len_,h,run_underlying ht,goInt]

theorem aL {te:TypeId}{k:IntKind}{i:Int}{j:Nat}(ht:P.underlying t=some (.slice te))(hs:(P.info? te).map (·.size)=some e.k)(hx:Is L w0 x (Dv (slE e) G xs))(hy:opd L y=some (E (.int k i)))(h0:i=(j:Int))(hz:xs[j]?=some z) :
  OpC P w0 L ⟨dst,.indexAddr t x y,ty,pos,aft,g⟩ (Dv (ptE e) G (some z)):=
 aM fun ρ w he hv=>by
  obtain rfl:i.toNat=j:=by omega
  replace h0:0≤i:=by omega
  have h:=Dv.sl.1 (hx.v he hv (by simp[Op.operands]))
  have h2:=opE hv (x:=y) (by simp[Op.operands]) hy
  have hlt:=(List.getElem?_eq_some_iff.1 hz).1
  rcases h with ⟨h,rfl⟩|⟨ad,cap,cs,h,_,h3,h4,h5,h6⟩
  ·simp at hlt
  ·obtain⟨c,h7,h8⟩:=h5.get hz
   have hi:0≤i∧i<(xs.length:Int):=by omega
   have hsz:∀w,(sizeOf te).run P w=.ok e.k w:=fun w=>by
    cases hi:P.info? te with
    | none=>simp[hi] at hs
    | some i=>simp[hi] at hs;simp[sizeOf,typeInfo,hi,hs]
   refine⟨.pointer (some (ad.add (i.toNat * e.k))),?_,Dv.pt.2 ⟨_,rfl,by rw[ia];exact h3,by rw[ia];exact h4,c,h7,h6.sub h8⟩⟩
   simp[execOp,h,h2,Instr.indexAt,asIntOf,run_underlying ht,hi,hsz]

theorem aB {fs:Array Field}{f:Nat}{fl:Field}{s:Nat}{ag:Bool}{e':Enc β}{q:α→β}(ht:P.underlying t=some (.struct fs))(hf:fs[f]?=some fl)(hs:TI P fl.type ag s)(h0:0<s)(F:Fld e fl.offset e' q)
  (hx:Is L w0 x (Dv (ptE e) G (some z))):OpC P w0 L ⟨dst,.fieldAddr t x f,ty,pos,aft,g⟩ (Dv (ptE e') G (some (q z))):=
 aM fun ρ w he hv=>by
  obtain⟨ad,h1,h3,h4,cs,h5,h6⟩:=Dv.pt.1 (hx.v he hv (by simp[Op.operands]))
  obtain⟨c,h7,h8⟩:=F.at' h5
  have hne:s≠0:=by omega
  refine⟨.pointer (some (ad.add fl.offset)),?_,Dv.pt.2 ⟨_,rfl,by rw[ia];exact h3,by rw[ia];exact h4,c,h7,h6.sub h8⟩⟩
  simp[execOp,h1,Instr.fieldAt,Instr.sureAddr,run_underlying ht,hf,fieldPlace,hs.size,hne]

theorem xZ {w:World}{ad:Addr}{cs:List Value}(ht:TI P t e.agg e.k)(h:e.r G w z cs)(ha:At w ad cs):(loadVar t ad).run P w=.ok (e.pack cs) w:=by
 cases hag:e.agg with
 | true=>
  rw[hag] at ht
  rw[jQ ht (e.len h) ha,Enc.pack,hag]
 | false=>
  rw[hag,e.k1 hag] at ht
  have hl:=e.len h
  rw[e.k1 hag] at hl
  match cs,hl with
  | [u],_=>
   have:w.cell? ad=some u:=by
    have:=ha 0 u rfl
    simpa[Addr.add] using this
   rw[jP ht this,Enc.pack,hag]
   rfl
theorem ldD (ht:TI P t e.agg e.k)(hx:Is L w0 x (Dv (ptE e) G (some z))):OpC P w0 L ⟨dst,.load t x,ty,pos,aft,g⟩ (Dv e G z):=
 aM fun ρ w he hv=>by
  obtain⟨ad,h1,_,_,cs,h5,h6⟩:=Dv.pt.1 (hx.v he hv (by simp[Op.operands]))
  exact⟨_,by simp[execOp,h1,Instr.loadAt,Instr.sureAddr,xZ ht h5 h6],cs,h5,rfl⟩
theorem OpC.conv {o:Oper}{A B:VA}(h:OpC P w0 L o A)(k:∀v w,A.p v w→B.p v w):OpC P w0 L o B:=
 ⟨fun ρ w he hv=>(h.out ρ w he hv).mono fun v w' ⟨h1,h2⟩=>⟨h1,k _ _ h2⟩⟩
theorem ldI {n:Int}(ht:TI P t false 1)(hx:Is L w0 x (Dv (ptE aj) G (some n))):OpC P w0 L ⟨dst,.load t x,ty,pos,aft,g⟩ (E (.int .i64 n)):=(ldD (e:=aj) ht hx).conv fun v w=>Dv.int.1
theorem ldB {n:Bool}(ht:TI P t false 1)(hx:Is L w0 x (Dv (ptE cZ) G (some n))):OpC P w0 L ⟨dst,.load t x,ty,pos,aft,g⟩ (E (.bool n)):=(ldD (e:=cZ) ht hx).conv fun v w=>Dv.bool.1
theorem ldS {S:BS}(ht:TI P t true 16)(hx:Is L w0 x (Dv (ptE bD) G (some S))):OpC P w0 L ⟨dst,.load t x,ty,pos,aft,g⟩ (E (ac S)):=(ldD (e:=bD) ht hx).conv fun v w=>Dv.set.1
theorem ya {fs:Array Field}{f1 f2:Field}{i1 i2:Operand}{e1:Enc α}{e2:Enc β}{a:α}{b:β}{zc:Value}{zs zb:Nat}(ht:P.underlying t=some (.struct fs))(hfs:fs = #[f1,f2])(ho1:f1.offset=0)(ho2:f2.offset=e1.k)
  (hs1:(P.info? f1.type).map (·.size)=some e1.k) (hs2:(P.info? f2.type).map (·.size)=some e2.k) (hz:(P.info? t).map (fun i=>(i.zero,i.size,i.bytes))=some (some zc,zs,zb)) (hzs:zc.cells.size=e1.k+e2.k)
  (hx:Is L w0 i1 (Dv e1 G a)) (hy:Is L w0 i2 (Dv e2 G b)) :
  OpC P w0 L ⟨dst,.build t #[(0,i1),(1,i2)],ty,pos,aft,g⟩ (Dv (prE e1 e2) G (a,b)):=
 aM fun ρ w he hv=>by
  obtain⟨c,h1,h1'⟩:=hx.v he hv (by simp[Op.operands])
  obtain⟨d,h2,h2'⟩:=hy.v he hv (by simp[Op.operands])
  have l1:=e1.len h1
  have l2:=e2.len h2
  refine⟨.agg (c++d).toArray,?_,c++d,⟨c,d,rfl,h1,h2⟩,rfl⟩
  have hb:P.built t (#[(0,i1),(1,i2)].map fun (i,x)=>(i,ρ x)).toList=some (c++d).toArray:=by
   subst hfs
   obtain⟨it,hit,hiz,_,_⟩:=info_parts hz
   cases hi1:P.info? f1.type with
   | none=>simp[hi1] at hs1
   | some j1=>
    cases hi2:P.info? f2.type with
    | none=>simp[hi2] at hs2
    | some j2=>
     simp[hi1] at hs1
     simp[hi2] at hs2
     have key:∀(c:List Value) (n off:Nat) (cells:Array Value),off+n+c.length≤cells.size →
       (c.zipIdx n).foldl (fun cs (p:Value×Nat)=>cs.setIfInBounds (off+p.2) p.1) cells=(cells.toList.take (off+n)++c++cells.toList.drop (off+n+c.length)).toArray:=by
      intro c
      induction c with
      | nil=>intro n off cells h;simp
      | cons u c ih=>
       intro n off cells h
       simp only[List.length_cons] at h
       rw[List.zipIdx_cons,List.foldl_cons,ih (n+1) off _ (by simp;omega)]
       simp only[Array.toList_setIfInBounds,List.length_cons]
       congr 1
       have hlt:off+n<cells.toList.length:=by simp;omega
       rw[← Nat.add_assoc,List.take_succ_eq_append_getElem (by simpa using hlt),List.getElem_set_self,List.take_set_of_le (Nat.le_refl _),List.drop_set_of_lt (by omega)]
       rw[show off+n+1+c.length=off+n+(c.length+1) by omega]
       simp
     have k1:(c.zipIdx.foldl (fun cs (p:Value×Nat)=>cs.setIfInBounds (0+p.2) p.1) zc.cells)=(c++zc.cells.toList.drop c.length).toArray:=by
      have:=key c 0 0 zc.cells (by omega)
      simpa using this
     have k2:(d.zipIdx.foldl (fun cs (p:Value×Nat)=>cs.setIfInBounds (e1.k+p.2) p.1) (c++zc.cells.toList.drop c.length).toArray)=(c++d).toArray:=by
      have:=key d 0 e1.k (c++zc.cells.toList.drop c.length).toArray (by simp;omega)
      rw[this]
      congr 1
      have e3:(c++List.drop c.length zc.cells.toList).drop (e1.k+0+d.length)=[]:=by
       apply List.drop_eq_nil_of_le
       simp
       omega
      rw[e3,Nat.add_zero,← l1,List.take_left]
      simp
     have p1:(ρ i1).cells=c.toArray:=by rw[h1'];exact e1.pack_cells h1
     have p2:(ρ i2).cells=d.toArray:=by rw[h2'];exact e2.pack_cells h2
     simp only[Program.built,hit,ht,hiz,List.mapM_cons,List.mapM_nil,hi1,hi2,Option.map_some,ho1,ho2,hs1,hs2]
     simp only[Array.toList_map,List.map_cons,List.map_nil,bind,Option.bind,pure]
     simp only[Instr.fill,List.getElem?_toArray,List.getElem?_cons_zero,List.getElem?_cons_succ,p1,p2,List.size_toArray,l1,l2,ne_eq,not_true_eq_false,decide_false,Bool.false_or,decide_eq_true_eq]
     have n1:¬(0+e1.k > zc.cells.size):=by omega
     simp only[n1,if_false,mJ,k1,decide_false,Bool.false_eq_true]
     have n2:¬(e1.k+e2.k > (c++zc.cells.toList.drop c.length).toArray.size):=by simp;omega
     simp only[n2,if_false,k2,decide_false,Bool.false_eq_true]
  simp only[execOp,Sem.run_bind,run_build w t _ _ hb,Result.andThen_ok,Sem.run_pure]
theorem bB {te:TypeId}{z0:Value}{sz bz:Nat}(ht:P.underlying t=some (.slice te))(hi:(P.info? te).map (fun i=>(i.zero,i.size,i.bytes))=some (some z0,sz,bz))(hk:sz=e.k)(hk2:e.k≤16777216)(hz0:z0.cells.size=e.k)(hG:∀b,G b→b<w0.heap.size)(hx:Is L w0 x (Dv e G z)) :
  OpC P w0 L ⟨dst,.buildSlice t 1 #[(0,x)],ty,pos,aft,g⟩ (Dv (slE e) G [z]):=by
 refine⟨fun ρ w he hv=>?_⟩
 obtain⟨c,h1,h1'⟩:=hx.v he hv (by simp[Op.operands])
 obtain⟨it,hit,hiz,hsz,_⟩:=info_parts hi
 subst hk
 have l1:=e.len h1
 have hpos:=e.pos
 have p1:(ρ x).cells=c.toArray:=by rw[h1'];exact e.pack_cells h1
 have hc:∀(c:List Value) (n:Nat) (cells:Array Value),n+c.length=cells.size →
   (c.zipIdx n).foldl (fun cs (p:Value×Nat)=>cs.setIfInBounds (0+p.2) p.1) cells=(cells.toList.take n++c).toArray:=by
  intro c
  induction c with
  | nil=>intro n cells h;simp at h;subst h;rw[← Array.length_toList,List.take_length];simp
  | cons u c ih=>
   intro n cells h
   simp only[List.length_cons] at h
   rw[List.zipIdx_cons,List.foldl_cons,ih (n+1) _ (by simp;omega)]
   simp only[Array.toList_setIfInBounds,Nat.zero_add]
   congr 1
   have hlt:n<cells.toList.length:=by simp;omega
   rw[List.take_succ_eq_append_getElem (by simpa using hlt),List.getElem_set_self,List.take_set_of_le (Nat.le_refl _)]
   simp
 have hr:=run_buildSlice (P:=P) w t te 1 #[(0,ρ x)] c.toArray it z0 ht hit hiz (by rw[hsz];omega) (by rw[hsz];omega) (by
  have n1:¬(0 * e.k+e.k > 1 * e.k):=by omega
  simp only[Instr.fill,p1,List.size_toArray,l1,hsz,ne_eq,not_true_eq_false,decide_false,Bool.false_or,Array.size_map,Array.size_range,n1,Bool.false_eq_true,if_false,mJ]
  simp only[Nat.zero_mul]
  rw[hc c 0 _ (by simp;omega)]
  simp)
 have hrun:(execOp ρ ⟨dst,.buildSlice t 1 #[(0,x)],ty,pos,aft,g⟩).run P w=.ok (.value (.slice (some ⟨w.heap.size,0,none⟩) 1 1)) (w.alloc (.cells c.toArray te)):=by
  simp only[execOp,Sem.run_bind,List.map_toArray,List.map_cons,List.map_nil,hr,Result.andThen_ok,Sem.run_pure]
 simp only[OpR,hrun]
 have hx:=cV w (.cells c.toArray te)
 refine⟨hx,Dv.sl.2 (.inr ⟨_,1,c,rfl,Nat.le_refl _,fun hg=>?_,by simp,⟨c,[],by simp,Enc.ext h1 hx,rfl⟩,fun i u hu=>?_⟩)⟩
 ·exact absurd (hG _ hg) (Nat.not_lt.2 he.size)
 ·rw[Addr.add_lit,Nat.zero_add,(fK w c.toArray te).cell i]
  rw[List.getElem?_toArray];exact hu
end ops
end Go.Mono
namespace Go.Mono
open Go Go.RowKit
def GB (W:World)(G:Nat→Prop)(b:Nat):Prop:=G b∨W.heap.size≤b
def GO (G:Nat→Prop)(v:Value)(b:Nat):Prop:=G b∨v.ownBlock=some b
def G1 (G:Nat→Prop)(c:Nat)(b:Nat):Prop:=G b∨b=c
def G0 (_:Nat):Prop:=False

section
variable {α β:Type}{e:Enc α}{G G':Nat→Prop}{w w' W:World}{x:α}{xs:List α}{v:Value}

theorem Dv.toB (h:(Dv e G x).p v W):(Dv e (GB W G) x).p v W:=Dv.weak h fun b hb h=>h.elim id fun h=>absurd hb (Nat.not_lt.2 h)
class AvR (row:Option Nat)(A:VA):Prop where
 av:∀v w w',w.grownBy w' row→A.p v w→A.p v w'
class gH (row:Option Nat)(L:Env):Prop where
 av:∀t A,aC L t=some A→∀v w w',w.grownBy w' row→A.p v w→A.p v w'
class InR (G:Nat→Prop)(row:Option Nat):Prop where
 in':∀b,row=some b→G b
instance (row:Option Nat)(v:Value):AvR row (E v):=⟨fun _ _ _ _ h=>h⟩
instance (row:Option Nat):AvR row Any:=⟨fun _ _ _ _ h=>h⟩
instance (row:Option Nat)(e:Enc α)(G:Nat→Prop)(x:α)[h:InR G row]:AvR row (Dv e G x):=⟨fun v w w' hg ⟨cs,h1,h2⟩=>⟨cs,Enc.gro h1 hg h.in',h2⟩⟩
instance (row:Option Nat):gH row []:=⟨fun t A h=>by simp[aC] at h⟩
instance (row:Option Nat)(k:Nat)(A:VA)(L:Env)[h:AvR row A][hl:gH row L]:gH row ((k,A)::L):=⟨fun t B ht=>by
 by_cases hkt:k=t
 ·subst hkt;rw[cT] at ht;cases ht;exact h.av
 ·rw[cU _ _ hkt] at ht;exact hl.av t B ht⟩
instance (b:Nat)(e:Enc α)(G:Nat→Prop)(x:α)[h:InR G (some b)]:AvC b (Dv e G x):=⟨fun v w w' hg ⟨cs,h1,h2⟩=>⟨cs,Enc.gro h1 hg h.in',h2⟩⟩
instance (G:Nat→Prop)(v:Value):InR (GO G v) v.ownBlock:=⟨fun b h=>.inr h⟩
instance (G:Nat→Prop)(b:Nat):InR (G1 G b) (some b):=⟨fun c h=>.inr (by cases h;rfl)⟩
theorem InR.gb {b:Nat}(h:W.heap.size≤b):InR (GB W G) (some b):=⟨fun c hc=>.inr (by cases hc;exact h)⟩
theorem FrD.gro {n:Nat}{ds:List Deferred}{a:Act}{L:Env}{row:Option Nat}[h:gH row L](hf:FrD n ds a w L)(hg:w.grownBy w' row):FrD n ds a w' L:=
 ⟨hf.size,hf.defers,fun t A ht=>h.av t A ht _ _ _ hg (hf.val t A ht)⟩
theorem Ext.gro {row:Option Nat}(e:Ext W w)(h:w.grownBy w' row)(hb:∀b,row=some b→W.heap.size≤b):Ext W w':=Below.grown e h e.size hb
theorem Blk.gro {row:Option Nat}{b:Nat}{cs:Array Value}{t:TypeId}(h:Blk w b cs t)(hg:w.grownBy w' row)(hne:row≠some b):Blk w' b cs t:=
 (hg.block b h.lt (fun e=>hne e.symm)).trans h
structure OwR (e:Enc α)(ty:TypeId)(B:Nat)(G:Nat→Prop)(w:World)(xs:List α)(v:Value):Prop where
 own:∃cs,w.ownsRow B ty e.k v xs.length cs∧Cells e (GO G v) w xs cs
 av:∀b,G b→b<B
 base:B≤w.heap.size
theorem OwR.lt {ty:TypeId}{B:Nat}(h:OwR e ty B G w xs v){b:Nat}(hb:v.ownBlock=some b):B≤b∧b<w.heap.size:=by
 obtain⟨cs,h1,_⟩:=h.own
 exact h1.lt b hb
theorem OwR.inGB {ty:TypeId}{B:Nat}(h:OwR e ty B G w xs v)(hB:W.heap.size≤B)(G0:Nat→Prop):InR (GB W G0) v.ownBlock:=⟨fun b hb=>.inr (Nat.le_trans hB (h.lt hb).1)⟩
theorem OwR.row {ty:TypeId}{B:Nat}(h:OwR e ty B G w xs v)(hB:W.heap.size≤B):∀b,v.ownBlock=some b→W.heap.size≤b:=fun b hb=>Nat.le_trans hB (h.lt hb).1
theorem OwR.nil (e:Enc α)(ty:TypeId){B:Nat}(hB:B≤w.heap.size)(hG:∀b,G b→b<B):OwR e ty B G w [] (.slice none 0 0):=
 ⟨⟨[],World.ownsRow_nil _ _ _ _,rfl⟩,hG,hB⟩
theorem OwR.pres {ty:TypeId}{B:Nat}(h:OwR e ty B G w xs v){row:Option Nat}(hg:w.grownBy w' row)(hne:v.ownBlock=none∨v.ownBlock≠row)(hG:∀b,row=some b→GO G v b):OwR e ty B G w' xs v:=by
 obtain⟨cs,h1,h2⟩:=h.own
 exact⟨⟨cs,h1.kept hg hne,h2.pres (fun b hb hn=>hg.block b hb (fun e=>hn (hG b e.symm))) hg.size⟩,h.av,Nat.le_trans h.base hg.size⟩
theorem Ext.gr0 (k:Ext w w'):w.grownBy w' none:=⟨k.os,k.tape,k.output,k.size,fun b hb _=>k.block b hb⟩
theorem OwR.ext {ty:TypeId}{B:Nat}(h:OwR e ty B G w xs v)(k:Ext w w'):OwR e ty B G w' xs v:=h.pres k.gr0 (by cases v.ownBlock <;> simp) (fun b hb=>by cases hb)
instance {ty:TypeId}{B:Nat}:Ug w w' (OwR e ty B G w xs v) (OwR e ty B G w' xs v):=⟨fun e h=>h.ext e⟩
theorem OwR.grF {k:Nat}{agg:Bool}{f:α→List Value}{p1 p2 p3 p4}{ty:TypeId}{B:Nat}(h:OwR (eL k agg f p1 p2 p3 p4) ty B G w xs v){row:Option Nat}(hg:w.grownBy w' row)(hne:v.ownBlock=none∨v.ownBlock≠row):OwR (eL k agg f p1 p2 p3 p4) ty B G w' xs v:=by
 obtain⟨cs,h1,h2⟩:=h.own
 refine⟨⟨cs,h1.kept hg hne,?_⟩,h.av,Nat.le_trans h.base hg.size⟩
 clear h1 hne
 clear h
 induction xs generalizing cs with
 | nil=>exact h2
 | cons x xs ih=>
  obtain⟨c,d,h3,h4,h5⟩:=h2
  exact⟨c,d,h3,h4,ih d h5⟩
theorem OwR.sl {ty:TypeId}{B:Nat}(h:OwR e ty B G w xs v):(Dv (slE e) G xs).p v w:=by
 obtain⟨cs,h1,h2⟩:=h.own
 refine Dv.sl.2 ?_
 rcases h1.2 with ⟨hv,hn⟩|⟨g,cap,cur,hv,hB,hg,hn,hm,hs,ht⟩
 ·exact .inl ⟨hv,List.eq_nil_of_length_eq_zero hn⟩
 ·refine .inr ⟨_,cap,cs,hv,hn,fun hg'=>absurd (h.av _ hg') (Nat.not_lt.2 hB),(Array.getElem?_eq_some_iff.1 hg).1,h2.weak fun b _ hb=>.inl hb,h1.cells (by rw[hv];rfl)⟩
theorem OwR.avs {ty:TypeId}{B:Nat}(h:OwR e ty B G w xs v):∀b,GO G v b→b<w.heap.size:=fun b hb=>hb.elim (fun hb=>Nat.lt_of_lt_of_le (h.av b hb) h.base) (fun hb=>(h.lt hb).2)
end
def bF (p:Nat→Bool)(n:Nat):List Int:=((List.range n).filter p).map fun i:Nat=>(i:Int)
theorem ib (p:Nat→Bool)(n:Nat):bF p (n+1)=if p n then bF p n++[(n:Int)] else bF p n:=by
 unfold bF
 rw[List.range_succ,List.filter_append,List.map_append]
 cases h:p n <;> simp[h]
theorem qd (p:Nat→Bool)(n:Nat):(bF p n).length≤n:=by
 unfold bF
 rw[List.length_map]
 exact Nat.le_trans (List.length_filter_le _ _) (by simp)
section tail
variable {P:Program}{L:Env}{ty:TypeId}{pos:String}{aft:Array Edge}{r:Option Nat}{ds:List Deferred}
variable {ops:Array Oper}{rest:List Oper}{Q:Exit→Act→World→Prop}{n:Nat}{a:Act}{w:World}{x y:Operand}
variable {α:Type}{e:Enc α}{G:Nat→Prop}{xs ys:List α}{v:Value}

theorem qf {t te:TypeId}{z0:Value}{sz bz B:Nat}(ht:P.underlying t=some (.slice te))(hi:(P.info? te).map (fun i=>(i.zero,i.size,i.bytes))=some (some z0,sz,bz))(hsz:sz=e.k)(hz0:z0.cells.size=e.k)
  (ho:OwR e te B G w xs v) {u:Value} (hy:(Dv (slE e) (GO G v) ys).p u w) (h63:(xs.length+ys.length)≤maxLen) (hb:(xs.length+ys.length) * bz≤140737488355328) :
  ∃v' w',(Builtin.append_ #[t,t] ty #[v,u]).run P w=.ok v' w'∧OwR e te B G w' (xs++ys) v'∧w.grownBy w' v.ownBlock∧(v'.ownBlock=v.ownBlock∨v'.ownBlock=some w.heap.size):=by
 obtain⟨it,hit,hiz,hsz',hbz⟩:=info_parts hi
 subst hsz
 obtain⟨cs,h1,h2⟩:=ho.own
 rcases Dv.sl.1 hy with ⟨rfl,rfl⟩|⟨ad,cap,ds',rfl,_,h3,h4,h5,h6⟩
 ·refine⟨v,w,run_append_owned_none w B t ty te it e.k ht hit v _ cs h1,by simpa using ho,⟨rfl,rfl,rfl,Nat.le_refl _,fun _ _ _=>rfl⟩,.inl rfl⟩
 ·obtain⟨v',w',h7,h8,h9,_,h10⟩:=run_append_own_at (P:=P) w B t ty te it z0 e.k bz ht hit hiz hsz' hbz hz0 e.pos v _ cs h1 ad ys.length cap ds' h5.len h6 h5.one h63 hb ho.base
  refine⟨v',w',h7,⟨⟨cs++ds',by simpa using h8,?_⟩,ho.av,Nat.le_trans ho.base h9.size⟩,h9,h10⟩
  have hp:∀{zs:List α} {ms:List Value},Cells e (GO G v) w zs ms→Cells e (GO G v') w' zs ms:=fun h=>by
   have h11:Cells e (fun b=>GO G v b∨v'.ownBlock=some b) w _ _:=h.weak fun b hb hb'=>by
    rcases hb' with hb'|hb'
    ·exact hb'
    ·rcases h10 with h|h
     ·exact .inr (by rw[← h];exact hb')
     ·rw[h] at hb';cases hb';omega
   exact (h11.pres (fun b hb hn=>h9.block b hb (fun he=>hn (.inl (.inr he.symm)))) h9.size).weak fun b _ hb=>hb.elim (fun h=>.inl (.inl h)) .inr
  exact (hp h2).app (hp h5)
theorem bI {t te:TypeId}{z0:Value}{d sz bz B:Nat}(ht:P.underlying t=some (.slice te))(hi:(P.info? te).map (fun i=>(i.zero,i.size,i.bytes))=some (some z0,sz,bz))(hsz:sz=e.k)(hz0:z0.cells.size=e.k)
  (hf:FrD n ds a w L) [hL:gH v.ownBlock L] (hd:d<n) (hx:opd L x=some (E v)) (ho:OwR e te B G w xs v) (hy:Is L w y (Dv (slE e) (GO G v) ys)) (hb:(xs.length+ys.length) * bz≤140737488355328)
  (h63:xs.length+ys.length≤maxLen)
  (k:∀a' v' w',w.grownBy w' v.ownBlock→(v'.ownBlock=v.ownBlock∨v'.ownBlock=some w.heap.size)→OwR e te B G w' (xs++ys) v'→FrD n ds a' w' ((d,E v')::L)→wpListIn (FW r) 0 P ops Q rest a' w') :
  wpListIn (FW r) 0 P ops Q (⟨some d,.call ⟨.builtin .append,#[x,y],#[t,t]⟩,ty,pos,aft,none⟩::rest) a w:=
 wpListIn_plain rfl fun K hK=>by
  have hxv:a.eval x=v:=hf.opd x _ hx
  obtain⟨C,hy1,hy2⟩:=hy
  have hyv:=hy2 _ _ (Ext.rfl' _) (hf.opd y _ hy1)
  obtain⟨v',w',h1,h2,h3,h4⟩:=qf (P:=P) (ty:=ty) ht hi hsz hz0 ho hyv h63 hb
  refine OpR.wp (R:=fun u w1=>u=v'∧w1=w') ?_ ?_
  ·simp only[OpR,execOp,resolve,invoke,builtin,Sem.run_bind,Sem.run_pure,Result.andThen_ok,List.map_toArray,List.map_cons,List.map_nil,hxv,h1]
   trivial
  ·rintro u w1 ⟨rfl,rfl⟩
   refine hK _ _ (k _ _ _ h3 h4 h2 ?_)
   exact (hf.gro h3).put (d:=some d) (A:=E u) (Ext.rfl' _) (fun k hk=>by cases hk;exact hd) rfl
theorem qg {t te:TypeId}{d k:Nat}(B:Nat)(G:Nat→Prop)(e:Enc α)(ht:P.underlying t=some (.slice te))(hi:(P.info? te).map (·.size)=some k)(hf:FrD n ds a w L)(hd:d<n)(hB:B≤w.heap.size)(hG:∀b,G b→b<B)
  (k:∀a' v' w',Ext w w'→v'.ownBlock=some w.heap.size→OwR e te B G w' [] v'→FrD n ds a' w' ((d,E v')::L)→wpListIn (FW r) 0 P ops Q rest a' w') :
  wpListIn (FW r) 0 P ops Q (⟨some d,.buildSlice t 0 #[],ty,pos,aft,none⟩::rest) a w:=
 wpListIn_plain rfl fun K hK=>by
  refine OpR.wp (R:=fun u w1=>u=.slice (some ⟨w.heap.size,0,none⟩) 0 0∧w1=w.alloc (.cells #[] te)) ?_ ?_
  ·cases hit:P.info? te with
   | none=>simp[hit] at hi
   | some i=>
    simp[OpR,execOp,Instr.buildSlice,run_underlying ht,sizeOf,typeInfo,hit,Instr.fill,newRow,Array.range_zero']
  ·rintro u w1 ⟨rfl,rfl⟩
   have h1:=cV w (.cells #[] te)
   exact hK _ _ (k _ _ _ h1 rfl ⟨⟨[],World.ownsRow_made w #[] 0 hB (Nat.zero_le _) (by simp),rfl⟩,hG,Nat.le_trans hB h1.size⟩ (hf.put (d:=some d) h1 (fun k hk=>by cases hk;exact hd) rfl))
end tail
end Go.Mono
namespace Go.Mono
open Go Go.RowKit
theorem cut {P:Program}{r:Option Nat}{c:Code}{Q:Exit→Act→World→Prop}{a:Act}{w:World}{J:Act→World→Prop}(h:c.wpIn (FW r) 0 P (fun ex a w=>ex=.normal∧J a w) a w)(k:∀a w,J a w→Q .normal a w):c.wpIn (FW r) 0 P Q a w:=
 wpIn_mono h (by rintro ex a w ⟨rfl,hj⟩;exact k a w hj)
theorem cB {α:Type}{xs:List α}{k:Nat}{x:α}(h:xs[k]?=some x):xs.take (k+1)=xs.take k++[x]:=by
 rw[List.take_add_one,h];rfl
def gi (r:List Int)(k:Nat):Int:=match r[k]? with
 | some x=>x
 | none=>0
theorem qh {r:List Int}{k:Nat}(h:k<r.length):r[k]?=some (gi r k):=by simp[gi,h]
theorem yb {r:List Int}{k:Nat}(h:k<r.length):r.take (k+1)=r.take k++[gi r k]:=cB (qh h)
end Go.Mono
namespace Go.Mono
open Go
end Go.Mono
namespace Go.Mono
open Go
theorem yc {v v':Value}{n b:Nat}(h:v'.ownBlock=v.ownBlock∨v'.ownBlock=some n)(hne:v.ownBlock≠some b)(hb:b<n):v'.ownBlock≠some b:=by
 rcases h with h|h
 ·rw[h];exact hne
 ·rw[h];simp;omega
end Go.Mono
namespace Go.Mono
open Go Go.RowKit
theorem FrD.upd {n:Nat}{ds:List Deferred}{a:Act}{w:World}{L:Env}{A B:VA}(h:FrD n ds a w L)(k:Nat)(hk:aC L k=some A)(hAB:∀v,A.p v w→B.p v w):FrD n ds a w ((k,B)::L):=
 FrD.cons (hAB _ (h.val k A hk)) h
end Go.Mono
namespace Go.Mono
open Go Go.RowKit
section callv
variable {P:Program}{w0:World}{L:Env}{dst:Option Tmp}{ty:TypeId}{pos:String}{aft:Array Edge}{g:Option (Nat×Bool)}
theorem mK {fo:Operand}{id:FuncId}{caps:Array Value}{xs:Array Operand}{tys:Array TypeId}{A:VA}(hf:Proofs.Enters P id)(hfo:opd L fo=some (E (.func (.func id) #[] caps)))
  (h:∀ρ w,Ext w0 w→(∀x∈(Op.call ⟨.value fo,xs,tys⟩).operands,∀B,opd L x=some B→B.p (ρ x) w)→Calls P id (xs.map ρ++caps) w (Post A w)) :
  OpC P w0 L ⟨dst,.call ⟨.value fo,xs,tys⟩,ty,pos,aft,g⟩ A:=by
 refine⟨fun ρ w he hv=>?_⟩
 have hfv:ρ fo=.func (.func id) #[] caps:=hv fo (by simp[Op.operands,Call.operands]) _ hfo
 have hrun:(execOp ρ ⟨dst,.call ⟨.value fo,xs,tys⟩,ty,pos,aft,g⟩).run P w=.ok (.enter id (xs.map ρ++caps)) w:=by
  simp[execOp,resolve,hfv,Deferred.ofValue,invoke,hf (xs.map ρ++caps) w]
 simp only[OpR,hrun]
 exact h ρ w he hv
theorem yd {fo x:Operand}{id:FuncId}{caps:Array Value}{tys:Array TypeId}{A B:VA}(hf:Proofs.Enters P id)(hfo:opd L fo=some (E (.func (.func id) #[] caps)))(hx:opd L x=some B)
  (h:∀v w,Ext w0 w→B.p v w→Calls P id (#[v]++caps) w (Post A w)):OpC P w0 L ⟨dst,.call ⟨.value fo,#[x],tys⟩,ty,pos,aft,g⟩ A:=
 mK hf hfo fun ρ w he hv=>by simpa using h (ρ x) w he (hv x (by simp[Op.operands,Call.operands]) _ hx)
theorem ke {fo x y:Operand}{id:FuncId}{caps:Array Value}{tys:Array TypeId}{A B C:VA}(hf:Proofs.Enters P id)(hfo:opd L fo=some (E (.func (.func id) #[] caps)))(hx:opd L x=some B)(hy:opd L y=some C)
  (h:∀v u w,Ext w0 w→B.p v w→C.p u w→Calls P id (#[v,u]++caps) w (Post A w)):OpC P w0 L ⟨dst,.call ⟨.value fo,#[x,y],tys⟩,ty,pos,aft,g⟩ A:=
 mK hf hfo fun ρ w he hv=>by simpa using h (ρ x) (ρ y) w he (hv x (by simp[Op.operands,Call.operands]) _ hx) (hv y (by simp[Op.operands,Call.operands]) _ hy)
end callv
end Go.Mono
namespace Go.Mono
open Go Go.RowKit
theorem OwR.ne_new {α:Type}{e:Enc α}{ty:TypeId}{B:Nat}{G:Nat→Prop}{w:World}{xs:List α}{v:Value}(h:OwR e ty B G w xs v){b:Nat}(hb:b=w.heap.size):v.ownBlock≠some b:=fun hv=>by
 have:=(h.lt hv).2
 omega
theorem OwR.gr {α:Type}{k:Nat}{agg:Bool}{f:α→List Value}{p1 p2 p3 p4}{ty:TypeId}{B:Nat}{G:Nat→Prop}{w w':World}{xs:List α}{v:Value}{b:Nat}(h:OwR (eL k agg f p1 p2 p3 p4) ty B G w xs v)(hg:w.grownBy w' (some b))(hne:v.ownBlock≠some b) :
  OwR (eL k agg f p1 p2 p3 p4) ty B G w' xs v:=h.grF hg (.inr hne)
end Go.Mono
namespace Go.Mono
open Go Go.Proofs Go.RowKit

theorem arg1 {A:VA}{v:Value}{w:World}(h:A.p v w):∀(i:Nat) (B:VA),[A][i]?=some B→B.p ([v].getD i undef) w:=fun i B hB=>by
 match i with
 | 0=>simp at hB;subst hB;exact h
 | i+1=>simp at hB
theorem arg2 {A B:VA}{u v:Value}{w:World}(h:A.p u w)(h':B.p v w):∀(i:Nat) (C:VA),[A,B][i]?=some C→C.p ([u,v].getD i undef) w:=fun i C hC=>by
 match i with
 | 0=>simp at hC;subst hC;exact h
 | 1=>simp at hC;subst hC;exact h'
 | i+2=>simp at hC
theorem dS {A B C:VA}{u v x:Value}{w:World}(h:A.p u w)(h':B.p v w)(h'':C.p x w):∀(i:Nat) (D:VA),[A,B,C][i]?=some D→D.p ([u,v,x].getD i undef) w:=fun i D hD=>by
 match i with
 | 0=>simp at hD;subst hD;exact h
 | 1=>simp at hD;subst hD;exact h'
 | 2=>simp at hD;subst hD;exact h''
 | i+3=>simp at hD
theorem aQ {A:VA}{As:List VA}{v:Value}{vs:List Value}{w:World}(h:A.p v w)(hs:∀(i:Nat) (B:VA),As[i]?=some B→B.p (vs.getD i undef) w):∀(i:Nat) (B:VA),(A::As)[i]?=some B→B.p ((v::vs).getD i undef) w:=fun i B hB=>by
 match i with
 | 0=>simp at hB;subst hB;exact h
 | i+1=>exact hs i B (by simpa using hB)
theorem cO {w:World}:∀(i:Nat) (B:VA),([]:List VA)[i]?=some B→B.p (([]:List Value).getD i undef) w:=fun i B hB=>by simp at hB

theorem ic (n:Int)(W:World):Calls Tryz.prog 63 #[I n] W (Post (E (B (cA n))) W):=by
 refine eN [I n] [E (I n)] Tryz.func63 Tryz.ntmps63 ?_ fun a hf=>?_
 rotate_left
 rotate_right
 ·exact arg1 rfl
 have e:=Ext.rfl' W
 cases hb:decide (0≤n)
 all_goals
  refine seq <| ae <| tA hf rfl fun a hf=>aa <| seq <| rgN 6 hf <| st (mv rfl) <| st ((geq rfl rfl).eq (congrArg Value.bool (hb))) <| st (mv rfl) ?_
  first|refine sn rfl rfl rfl ?_|refine sy rfl rfl (mv rfl) ?_
  first|refine sn rfl rfl rfl ?_|refine sy rfl rfl (lss rfl rfl) ?_
  first|refine st (pkT rfl rfl) ?_|refine st (pkF rfl rfl) ?_
  refine en fun a w e' hf=>?_
  replace e:=e.tr e'
  refine tA hf rfl fun a hf=>aa <| ai (ap rfl hf rfl ?_)
  rintro v rfl
  exact⟨_,rfl,e,by simp[E,ER,cA,hb]⟩

theorem mM (n:Int)(W:World)(h0:0≤n):Calls Tryz.prog 64 #[I n] W (Post (E (Mono.W (1#64 <<< (n % 64).toNat))) W):=by
 refine eN [I n] [E (I n)] Tryz.func64 Tryz.ntmps64 ?_ fun a hf=>?_
 rotate_left
 rotate_right
 ·exact arg1 rfl
 have e:=Ext.rfl' W
 refine seq <| ae <| tA hf rfl fun a hf=>aa <| seq <| rgN 3 hf <| st (mv rfl) <| st (rem rfl rfl (by omega)) <| st (oZ (u:=1#64) rfl rfl (by omega)) <| en fun a w e' hf=>?_
 replace e:=e.tr e'
 refine tA hf rfl fun a hf=>aa <| ai (ap rfl hf rfl ?_)
 rintro v rfl
 exact⟨_,rfl,e,rfl⟩

theorem iX (S:BS)(n:Int)(W:World):Calls Tryz.prog 45 #[ac S,I n] W (Post (E (B (has S n))) W):=by
 refine eN [ac S,I n] [E (ac S),E (I n)] Tryz.func45 Tryz.ntmps45 ?_ fun a hf=>?_
 rotate_left
 rotate_right
 ·exact arg2 rfl rfl
 have e:=Ext.rfl' W
 refine seq <| ae <| tB hf rfl fun a b2 w v2 hv2 e' hb2 hs2 B2 hf=>?_
 replace e:=e.tr e'
 refine tA hf rfl fun a hf=>aa ?_
 subst hv2
 cases hb:cA n
 ·refine seq <| rgG 12 Mix.mix hf <| st (mv rfl) <| st ((an gZ rfl (fun v w _ h=>by cases h;exact ic n w)).eq (congrArg Value.bool (hb))) ?_
  refine st (mv rfl) <| sn rfl rfl rfl <| sn rfl rfl rfl <| sn rfl rfl rfl <| sn rfl rfl rfl <| sn rfl rfl rfl <| sn rfl rfl rfl <| sn rfl rfl rfl <| sn rfl rfl rfl <| st (pkF rfl rfl) <| en fun a w e' hf=>?_
  obtain⟨e,B2⟩:=up2 e' e B2
  refine tA hf rfl fun a hf=>aa <| ai (ap rfl hf rfl ?_)
  rintro v rfl
  exact⟨_,rfl,e,by simp[E,ER,has,hb]⟩
 ·have hn:=cN.1 hb
  refine seq <| rgG 12 Mix.mix hf <| st (mv rfl) <| st ((an gZ rfl (fun v w _ h=>by cases h;exact ic n w)).eq (congrArg Value.bool (hb))) ?_
  refine st (mv rfl) <| sy rfl rfl (mv rfl) <| sy rfl rfl (quo rfl rfl (by omega)) <| sy rfl rfl (cD U68 ⟨_,T66⟩ rfl rfl (by omega)) <| sy rfl rfl (ld1 T66 rfl B2 (by rw[Nat.zero_add,Nat.mul_one];exact cp _ _ (by omega))) ?_
  refine sy rfl rfl (mv rfl) <| sy rfl rfl (an mt rfl (fun v w _ h=>by cases h;exact mM n w hn.1)) ?_
  refine sy rfl rfl (fL rfl rfl) <| sy rfl rfl (mh (v:=0#64) rfl rfl) <| st (pkT rfl rfl) <| en fun a w e' hf=>?_
  obtain⟨e,B2⟩:=up2 e' e B2
  refine tA hf rfl fun a hf=>aa <| ai (ap rfl hf rfl ?_)
  rintro v rfl
  exact⟨_,rfl,e,congrArg B (xQ S n hb)⟩

theorem ep {fn:Func}{t u:Nat}{n:Nat}{a:Act}{w W:World}{b:Nat}{S T:BS}{bt:TypeId}{L:Env}(hr:fn.results = #[.cell t u])(ht:TI Tryz.prog u true 16)(hf:Fr n a w L)(h:aC L t=some (E (.pointer (some ⟨b,0,none⟩))))
  (hb:Blk w b (au S) bt) (e:Ext W w) (hST:S=T):bodyPost Tryz.prog fn (Post (E (ac T)) W) .ret a w:=
 dP hr ht hf h hb (aZ _) ⟨_,rfl,e,by subst hST;rfl⟩

theorem du (S:BS)(n:Int)(W:World):Calls Tryz.prog 26 #[ac S,I n] W (Post (E (ac (ins S n))) W):=by
 refine eN [ac S,I n] [E (ac S),E (I n)] Tryz.func26 Tryz.ntmps26 ?_ fun a hf=>?_
 rotate_left
 dsimp only[params,Nat.reduceAdd] at hf
 rotate_right
 ·exact arg2 rfl rfl
 have e:=Ext.rfl' W
 refine seq <| ae <| tB hf rfl fun a b2 w v2 hv2 e' hb2 hs2 B2 hf=>?_
 replace e:=e.tr e'
 refine tL I68 hf fun a b4 w e' hb4 hs4 B4 hf=>?_
 obtain⟨e,B2⟩:=up2 e' e B2
 refine aa ?_
 subst hv2
 simp only[fp] at B2
 cases hb:cA n
 ·repeat refine seq ?_
  refine rgN 2 hf <| st (mv rfl) <| st ((an gZ rfl (fun v w _ h=>by cases h;exact ic n w)).eq (congrArg Value.bool (hb))) ?_
  refine en fun a w e' hf=>?_
  obtain⟨e,B2,B4⟩:=up3 e' e B2 B4
  refine aa <| ifc hf rfl (fun h=>by cases h) (fun _=>ak ?_)
  refine seq <| rgN 1 hf <| st (ldW T68 rfl (by assumption) rfl) <| en fun a w e' hf=>?_
  obtain⟨e,B2,B4⟩:=up3 e' e B2 B4
  haveI hinr:∀G0,InR (GB W G0) (some b4):=fun G0=>InR.gb (by omega)
  refine az T68 hf rfl rfl (aP _) B4 rfl (rfl) fun w hg hsz B4 hf=>?_
  obtain⟨e,B2⟩:=gr2 hg e B2
  refine aa <| ai (ep rfl T68 hf rfl B4 e ?_)
  simp[ins,hb]
 ·have hn:=cN.1 hb
  repeat refine seq ?_
  refine rgN 2 hf <| st (mv rfl) <| st ((an gZ rfl (fun v w _ h=>by cases h;exact ic n w)).eq (congrArg Value.bool (hb))) ?_
  refine en fun a w e' hf=>?_
  obtain⟨e,B2,B4⟩:=up3 e' e B2 B4
  refine aa <| ifc hf rfl (fun _=>?_) (fun h=>by cases h)
  replace hf:=hf.kp [1,2,4]
  refine rgG 8 Mix.mix hf <| st (mv rfl) <| st (quo rfl rfl (by omega)) <| st (cD U68 ⟨_,T66⟩ rfl rfl (by omega)) <| st (ld1 T66 rfl B2 (by rw[Nat.zero_add,Nat.mul_one];exact cp _ _ (by omega))) ?_
  refine st (mv rfl) <| st (an mt rfl (fun v w _ h=>by cases h;exact mM n w hn.1)) ?_
  refine st (orW rfl rfl) <| st (cD U68 ⟨_,T66⟩ rfl rfl (by omega)) <| en fun a w e' hf=>?_
  obtain⟨e,B2,B4⟩:=up3 e' e B2 B4
  refine aA T66 hf rfl rfl rfl B2 (by rw[aZ];omega) fun w hg hsz B2 hf=>?_
  obtain⟨e,B4⟩:=gr2 hg e B4
  refine aa ?_
  rw[Nat.zero_add,Nat.mul_one,au,hZ,xR S hb] at B2
  refine seq <| rgN 1 hf <| st (ldW T68 rfl (by assumption) rfl) <| en fun a w e' hf=>?_
  obtain⟨e,B2,B4⟩:=up3 e' e B2 B4
  haveI hinr:∀G0,InR (GB W G0) (some b4):=fun G0=>InR.gb (by omega)
  refine az T68 hf rfl rfl (aP _) B4 rfl (rfl) fun w hg hsz B4 hf=>?_
  obtain⟨e,B2⟩:=gr2 hg e B2
  refine aa <| ai (ep rfl T68 hf rfl B4 e rfl)

theorem fq (S:BS)(n:Int)(W:World):Calls Tryz.prog 60 #[ac S,I n] W (Post (E (ac (del S n))) W):=by
 refine eN [ac S,I n] [E (ac S),E (I n)] Tryz.func60 Tryz.ntmps60 ?_ fun a hf=>?_
 rotate_left
 dsimp only[params,Nat.reduceAdd] at hf
 rotate_right
 ·exact arg2 rfl rfl
 have e:=Ext.rfl' W
 refine seq <| ae <| tB hf rfl fun a b2 w v2 hv2 e' hb2 hs2 B2 hf=>?_
 replace e:=e.tr e'
 refine tL I68 hf fun a b4 w e' hb4 hs4 B4 hf=>?_
 obtain⟨e,B2⟩:=up2 e' e B2
 refine aa ?_
 subst hv2
 simp only[fp] at B2
 cases hb:cA n
 ·repeat refine seq ?_
  refine rgN 2 hf <| st (mv rfl) <| st ((an gZ rfl (fun v w _ h=>by cases h;exact ic n w)).eq (congrArg Value.bool (hb))) ?_
  refine en fun a w e' hf=>?_
  obtain⟨e,B2,B4⟩:=up3 e' e B2 B4
  refine aa <| ifc hf rfl (fun h=>by cases h) (fun _=>ak ?_)
  refine seq <| rgN 1 hf <| st (ldW T68 rfl (by assumption) rfl) <| en fun a w e' hf=>?_
  obtain⟨e,B2,B4⟩:=up3 e' e B2 B4
  haveI hinr:∀G0,InR (GB W G0) (some b4):=fun G0=>InR.gb (by omega)
  refine az T68 hf rfl rfl (aP _) B4 rfl (rfl) fun w hg hsz B4 hf=>?_
  obtain⟨e,B2⟩:=gr2 hg e B2
  refine aa <| ai (ep rfl T68 hf rfl B4 e ?_)
  simp[del,hb]
 ·have hn:=cN.1 hb
  repeat refine seq ?_
  refine rgN 2 hf <| st (mv rfl) <| st ((an gZ rfl (fun v w _ h=>by cases h;exact ic n w)).eq (congrArg Value.bool (hb))) ?_
  refine en fun a w e' hf=>?_
  obtain⟨e,B2,B4⟩:=up3 e' e B2 B4
  refine aa <| ifc hf rfl (fun _=>?_) (fun h=>by cases h)
  replace hf:=hf.kp [1,2,4]
  refine rgG 8 Mix.mix hf <| st (mv rfl) <| st (quo rfl rfl (by omega)) <| st (cD U68 ⟨_,T66⟩ rfl rfl (by omega)) <| st (ld1 T66 rfl B2 (by rw[Nat.zero_add,Nat.mul_one];exact cp _ _ (by omega))) ?_
  refine st (mv rfl) <| st (an mt rfl (fun v w _ h=>by cases h;exact mM n w hn.1)) ?_
  refine st (oX rfl rfl) <| st (cD U68 ⟨_,T66⟩ rfl rfl (by omega)) <| en fun a w e' hf=>?_
  obtain⟨e,B2,B4⟩:=up3 e' e B2 B4
  refine aA T66 hf rfl rfl rfl B2 (by rw[aZ];omega) fun w hg hsz B2 hf=>?_
  obtain⟨e,B4⟩:=gr2 hg e B4
  refine aa ?_
  rw[Nat.zero_add,Nat.mul_one,au,hZ,xS S hb] at B2
  refine seq <| rgN 1 hf <| st (ldW T68 rfl (by assumption) rfl) <| en fun a w e' hf=>?_
  obtain⟨e,B2,B4⟩:=up3 e' e B2 B4
  haveI hinr:∀G0,InR (GB W G0) (some b4):=fun G0=>InR.gb (by omega)
  refine az T68 hf rfl rfl (aP _) B4 rfl (rfl) fun w hg hsz B4 hf=>?_
  obtain⟨e,B2⟩:=gr2 hg e B2
  refine aa <| ai (ep rfl T68 hf rfl B4 e rfl)


def eM (r:List Int)(n:Int):Bool:=decide (n∈r)

def toL (S:BS):List Int:=bF (fun i=>S.getLsbD i) 1024
abbrev RB:=Int×List Int
def up (xs:List RB)(i:Nat):Int:=match xs[i]? with
 | some b=>b.1
 | none=>0
def hs (xs:List RB)(i:Nat):List Int:=match xs[i]? with
 | some b=>b.2
 | none=>[]
def gI (p:Nat→Bool):Nat→Int
 | 0 => -1
 | n+1=>if gI p n = -1 then (if p n then (n:Int) else -1) else gI p n
theorem kf {p:Nat→Bool}:∀{n:Nat},(∀i,i<n→p i=false)→gI p n = -1
 | 0,_=>rfl
 | n+1,h=>by
  rw[gI,if_pos (kf fun i hi=>h i (by omega)),h n (by omega)];rfl
theorem mN {p:Nat→Bool}{k:Nat}:∀{n:Nat},k<n→(∀i,i<k→p i=false)→p k=true→gI p n=k
 | 0,h,_,_=>by omega
 | n+1,h,h1,h2=>by
  rw[gI]
  by_cases hk:k=n
  ·subst hk
   rw[if_pos (kf h1),h2];rfl
  ·rw[mN (by omega) h1 h2,if_neg (by omega)]
def cQ (xs:List RB)(id:Int)(i:Nat):Bool:=eM (hs xs i) id&&(decide (up xs i<0) || !eM (hs xs (up xs i).toNat) id)
def ie (xs:List RB)(id:Int):List Int:=bF (cQ xs id) xs.length
def abv (xs:List RB):Nat→Int→Option (List Int)
 | 0,a=>if a<0 then some [] else none
 | f+1,a=>if a<0 then some [] else (abv xs f (up xs a.toNat)).map (a :: ·)
def dT (xs:List RB)(i:Nat):Option (List Int):=abv xs (xs.length+1) (up xs i)

def iY (xs:List RB)(i:Nat):Nat:=((dT xs i).getD []).length

abbrev ck:Enc (Int×BS):=prE aj bD
abbrev bQ:Enc (List (Int×BS)):=slE ck
def toB (b:Int×BS):RB:=(b.1,toL b.2)
def toT (t:List (Int×BS)):List RB:=t.map toB
def bg (t:List (Int×BS))(i:Nat):Int×BS:=match t[i]? with
 | some b=>b
 | none=>(0,0)
theorem fR {t:List (Int×BS)}{i:Nat}(h:i<t.length):t[i]?=some (bg t i):=by simp[bg,h]

def bJ (b:Int×BS):Array Value:=(Value.int .i64 b.1::(au b.2).toList).toArray
abbrev dU (b:Int×BS):Value:=.agg (bJ b)
theorem dw (b:Int×BS):(bJ b).size=17:=by
 simp[bJ,aZ]
theorem ft (b:Int×BS):(bJ b).all (·.oneCell')=true:=by
 have:=aP (am b.2)
 rw[Array.all_eq_true_iff_forall_mem] at this ⊢
 intro u hu
 simp only[bJ,List.mem_toArray,List.mem_cons] at hu
 rcases hu with rfl|hu
 ·rfl
 ·exact this u (by simpa[au] using hu)
theorem dW (b:Int×BS):(bJ b)[0+0]?=some (I b.1):=rfl
theorem dx (b:Int×BS):0+1+16≤(bJ b).size:=by rw[dw];omega
theorem dy (b:Int×BS):Value.agg ((bJ b).extract (0+1) (0+1+16))=ac b.2:=by
 refine congrArg Value.agg (Array.toList_inj.1 ?_)
 simp only[bJ,List.extract_toArray,List.extract_eq_take_drop]
 have:(au b.2).toList.length=16:=by rw[Array.length_toList,aZ]
 simp[List.take_of_length_le (Nat.le_of_eq this)]
section
variable {P:Program}{w0:World}{L:Env}{dst:Option Tmp}{ty:TypeId}{pos:String}{aft:Array Edge}{g:Option (Nat×Bool)}{t:TypeId}{x:Operand}{G:Nat→Prop}{b:Int×BS}
theorem Dv.bag {v:Value}{w:World}:(Dv ck G b).p v w↔v=dU b:=by
 constructor
 ·rintro⟨cs,⟨c,d,h,h1,h2⟩,hv⟩
  cases h1;cases h2;subst h
  exact hv
 ·rintro rfl
  exact⟨_,⟨_,_,rfl,rfl,rfl⟩,rfl⟩
theorem qi (h:opd L x=some (E (dU b))):Is L w0 x (Dv ck G b):=isE h (Dv.bag.2 rfl)
theorem fS (ht:TI P t true 17)(hx:Is L w0 x (Dv (ptE ck) G (some b))):OpC P w0 L ⟨dst,.load t x,ty,pos,aft,g⟩ (E (dU b)):=(ldD (e:=ck) ht hx).conv fun v w=>Dv.bag.1
end
def gJ (p:Int×BS→Bool)(t:List (Int×BS)):Int:=gI (fun i=>p (bg t i)) t.length

theorem ye {G:Nat→Prop}(t:List (Int×BS))(v:Value)(id:FuncId)(caps:Array Value)(p:Int×BS→Bool)(W:World)(hen:Proofs.Enters Tryz.prog id)(h:(Dv bQ G t).p v W)
  (hp:∀w b,Ext W w→Calls Tryz.prog id (#[dU b]++caps) w (Post (E (B (p b))) w)) (hl:t.length≤4096) :
  Calls Tryz.prog 93 #[v,.func (.func id) #[] caps] W (Post (E (I (gJ p t))) W):=by
 refine eN [v,.func (.func id) #[] caps] [Dv bQ G t,E (.func (.func id) #[] caps)] Tryz.func93 Tryz.ntmps93 ?_ fun a hf=>?_
 rotate_left
 rotate_right
 ·exact arg2 h rfl
 have e:=Ext.rfl' W
 refine seq <| ae <| tA hf rfl fun a hf=>aa ?_
 repeat refine seq ?_
 refine rgN 3 hf <| st (mv rfl) <| st (aF U41 (isR rfl)) <| st (mv rfl) <| en fun a w e' hf=>?_
 replace e:=e.tr e'
 refine aa ?_
 replace hf:=hf.keep [0,1,7,8]
 refine blk (aJ (fun r0 a w=>∃(k:Nat) ,r0=t.length - k∧k≤t.length∧Fr 19 a w [(0,Dv bQ G t),(1,E (.func (.func id) #[] caps)),(7,E (I (t.length:Nat))),(8,E (I k))]∧Ext W w∧∀i,i<k→p (bg t i)=false) t.length ⟨0,rfl,by omega,hf,e,(fun i hi=>by omega)⟩ ?_)
 rintro r0 a w ⟨k,rfl,hk,hf,e,Ho⟩
 refine seq <| rgN 1 hf <| st (lss rfl rfl) <| en fun a w e' hf=>?_
 replace e:=e.tr e'
 refine aa <| seq <| ifc hf rfl (fun hc=>ak ?_) (fun hc=>aG ?_)
 rotate_left
 rotate_left
 ·have hlt:k<t.length:=by have:=of_decide_eq_true hc;(try dsimp only at this);omega
  replace hf:=hf.keep [0,1,7,8]
  refine seq <| blk <| seq <| rgN 1 hf <| st (mv rfl) <| en fun a w e' hf=>?_
  replace e:=e.tr e'
  refine tA hf rfl fun a hf=>aa <| seq <| rgN 6 hf <| st (mv rfl) <| st (mv rfl) <| st (mv rfl) <| st (aL U41 S88 (isR rfl) rfl (by omega) (fR hlt)) <| st (fS T88 (isR rfl)) <| st (yd hen rfl rfl (fun v w he h=>by cases h;exact hp w _ (Ext.tr e he))) ?_
  refine en fun a w e' hf=>?_
  replace e:=e.tr e'
  refine aa <| ifc hf rfl (fun hb=>?_) (fun hb=>?_)
  ·refine seq <| rgN 1 hf <| st (mv rfl) <| en fun a w e' hf=>?_
   replace e:=e.tr e'
   refine tA hf rfl fun a hf=>aa <| ai <| ap rfl hf rfl ?_
   rintro _ rfl
   exact⟨_,rfl,e,congrArg I (mN hlt Ho hb).symm⟩
  ·refine ak <| rgN 1 hf <| st ((add rfl rfl (by omega)).eq (congrArg (Value.int .i64) (show (k:Int)+1=((k+1:Nat):Int) from rfl))) <| en fun a w e' hf=>?_
   replace e:=e.tr e'
   refine tP hf (mv rfl) fun a w e' hf=>?_
   replace e:=e.tr e'
   refine aa ?_
   replace hf:=hf.keep [0,1,7,8]
   refine⟨_,?_,k+1,rfl,by omega,hf,e,?_⟩
   ·omega
   intro i hi
   by_cases hk:i=k
   ·subst hk;exact hb
   ·exact Ho i (by omega)
 ·obtain rfl:k=t.length:=by have:=of_decide_eq_false hc;(try dsimp only at this);omega
  refine seq <| ae <| tA hf rfl fun a hf=>aa <| ai <| ap rfl hf rfl ?_
  rintro _ rfl
  exact⟨_,rfl,e,congrArg I (kf Ho).symm⟩

theorem mO {G:Nat→Prop}(t:List (Int×BS))(v:Value)(id:FuncId)(caps:Array Value)(p:Int×BS→Bool)(W:World)(hen:Proofs.Enters Tryz.prog id)(h:(Dv bQ G t).p v W)
  (hp:∀w b,Ext W w→Calls Tryz.prog id (#[dU b]++caps) w (Post (E (B (p b))) w)) (hl:t.length≤4096) :
  Calls Tryz.prog 43 #[v,.func (.func id) #[] caps] W (Post (E (B (decide (0≤gJ p t)))) W):=by
 refine eN [v,.func (.func id) #[] caps] [Dv bQ G t,E (.func (.func id) #[] caps)] Tryz.func43 Tryz.ntmps43 ?_ fun a hf=>?_
 rotate_left
 rotate_right
 ·exact arg2 h rfl
 have e:=Ext.rfl' W
 refine seq <| ae <| tA hf rfl fun a hf=>aa <| seq <| rgN 4 hf <| st (mv rfl) <| st (mv rfl) <| st (ar wN rfl rfl (fun v u w he h h'=>by cases h';exact ye _ _ _ _ p _ hen h (fun w' b he'=>hp w' b (Ext.tr (Ext.tr e he) he')) hl)) ?_
 refine st (geq rfl rfl) <| en fun a w e' hf=>?_
 replace e:=e.tr e'
 refine tA hf rfl fun a hf=>aa <| ai <| ap rfl hf rfl ?_
 rintro _ rfl
 exact⟨_,rfl,e,rfl⟩

def fT (t:List (Int×BS)):List Int:=bF (fun i=>decide ((bg t i).1 = -1)) t.length
theorem qj {G:Nat→Prop}(t:List (Int×BS))(v:Value)(W:World)(h:(Dv bQ G t).p v W)(hG:∀b,G b→b<W.heap.size)(hl:t.length≤4096) :
  Calls Tryz.prog 86 #[v] W (Post (Dv (slE aj) G (fT t)) W):=by
 refine eN [v] [Dv bQ (GB W G) t] Tryz.func86 Tryz.ntmps86 ?_ fun a hf=>?_
 rotate_left
 rotate_right
 ·exact arg1 (Dv.toB h)
 have e:=Ext.rfl' W
 refine seq <| ae <| tA hf rfl fun a hf=>aa <| seq <| ae <| tA hf rfl fun a hf=>aa ?_
 repeat refine seq ?_
 refine rgN 3 hf <| st (mv rfl) <| st (aF U41 (isR rfl)) <| st (mv rfl) <| en fun a w e' hf=>?_
 replace e:=e.tr e'
 refine aa ?_
 replace hf:=hf.keep [3,6,7,8]
 refine blk (aJ (fun r0 a w=>∃(k:Nat) (u:Value),r0=t.length - k∧k≤t.length∧Fr 22 a w [(3,E u),(6,Dv bQ (GB W G) t),(7,E (I (t.length:Nat))),(8,E (I k))]∧Ext W w∧OwR aj 3 W.heap.size G w (bF (fun i=>decide ((bg t i).1 = -1)) k) u) t.length ⟨0,_,rfl,by omega,hf,e,OwR.nil aj _ e.size hG⟩ ?_)
 rintro r0 a w ⟨k,u,rfl,hk,hf,e,Ho⟩
 refine seq <| rgN 1 hf <| st (lss rfl rfl) <| en fun a w e' hf=>?_
 obtain⟨e,Ho⟩:=up2 e' e Ho
 refine aa <| seq <| ifc hf rfl (fun hc=>ak ?_) (fun hc=>aG ?_)
 rotate_left
 rotate_left
 ·have hlt:k<t.length:=by have:=of_decide_eq_true hc;(try dsimp only at this);omega
  replace hf:=hf.kp [3,6,7,8]
  refine seq <| blk ?_
  have hsel:=qd (fun i=>decide ((bg t i).1 = -1)) k
  refine seq <| ae <| tP hf (mv rfl) fun a w e' hf=>?_
  obtain⟨e,Ho⟩:=up2 e' e Ho
  refine tP hf (aL U41 S88 (isR rfl) rfl (by omega) (fR hlt)) fun a w e' hf=>?_
  obtain⟨e,Ho⟩:=up2 e' e Ho
  refine tP hf (fS T88 (isR rfl)) fun a w e' hf=>?_
  obtain⟨e,Ho⟩:=up2 e' e Ho
  refine tL I88 hf fun a b5 w e' hb5 hs5 B5 hf=>?_
  have hle5:=Nat.le_trans e.size (Nat.le_of_eq hb5.symm)
  have ne5_Ho:=Ho.ne_new hb5
  obtain⟨e,Ho⟩:=up2 e' e Ho
  refine tA hf rfl fun a hf=>?_
  haveI hinr:∀G0,InR (GB W G0) (some b5):=fun G0=>InR.gb (by omega)
  refine az T88 hf rfl rfl (ft _) B5 rfl (dw _) fun w hg hsz B5 hf=>?_
  replace e:=e.gr hg (by omega)
  replace Ho:=Ho.gr hg (by assumption)
  refine aa <| seq <| rgN 3 hf <| st (fA U88 rfl T3 rfl) <| st (ld1 T3 rfl B5 (dW _)) <| st (eql rfl rfl) <| en fun a w e' hf=>?_
  obtain⟨e,Ho,B5⟩:=up3 e' e Ho B5
  refine aa <| ifc hf rfl (fun hb=>?_) (fun hb=>?_)
  ·replace hf:=hf.kp [3,4,6,7,8]
   refine rgN 3 hf <| st (mv rfl) <| st (mv rfl) <| st (bB U31 I3 rfl (by decide) rfl Ho.avs (isI rfl)) <| en fun a w e' hf=>?_
   obtain⟨e,Ho,B5⟩:=up3 e' e Ho B5
   haveI hin:∀G0,InR (GB W G0) _:=OwR.inGB (W:=W) Ho (Nat.le_refl _)
   refine bI U31 I3 rfl rfl hf (by decide) rfl Ho (isR rfl) (by simp only[List.length_singleton];omega) (by simp only[List.length_singleton,maxLen];omega) fun a v w hg hat Hn hf=>?_
   replace e:=e.gro hg (Ho.row (W:=W) (Nat.le_refl _))
   replace B5:=B5.gro hg (by assumption)
   replace Ho:=Hn;clear Hn hg hat hin
   refine tA hf rfl fun a hf=>aa <| rgN 1 hf <| st ((add rfl rfl (by omega)).eq (congrArg (Value.int .i64) (show (k:Int)+1=((k+1:Nat):Int) from rfl))) <| en fun a w e' hf=>?_
   obtain⟨e,Ho,B5⟩:=up3 e' e Ho B5
   refine tP hf (mv rfl) fun a w e' hf=>?_
   obtain⟨e,Ho,B5⟩:=up3 e' e Ho B5
   refine aa ?_
   replace hf:=hf.keep [3,6,7,8]
   refine⟨_,?_,k+1,_,rfl,by omega,hf,e,?_⟩
   ·omega
   rw[ib,if_pos (by simpa using hb)];exact Ho
  ·refine ak <| rgN 1 hf <| st ((add rfl rfl (by omega)).eq (congrArg (Value.int .i64) (show (k:Int)+1=((k+1:Nat):Int) from rfl))) <| en fun a w e' hf=>?_
   obtain⟨e,Ho,B5⟩:=up3 e' e Ho B5
   refine tP hf (mv rfl) fun a w e' hf=>?_
   obtain⟨e,Ho,B5⟩:=up3 e' e Ho B5
   refine aa ?_
   replace hf:=hf.keep [3,6,7,8]
   refine⟨_,?_,k+1,_,rfl,by omega,hf,e,?_⟩
   ·omega
   rw[ib,if_neg (by simpa using hb)];exact Ho
 ·obtain rfl:k=t.length:=by have:=of_decide_eq_false hc;(try dsimp only at this);omega
  refine seq <| rgN 1 hf <| st (mv rfl) <| en fun a w e' hf=>?_
  obtain⟨e,Ho⟩:=up2 e' e Ho
  refine tA hf rfl fun a hf=>aa <| ai <| ap rfl hf rfl ?_
  rintro _ rfl
  exact⟨_,rfl,e,Ho.sl⟩

theorem qk {G:Nat→Prop}(b:Int×BS)(c:Nat)(t:List (Int×BS))(u:Value)(W:World)(hB:Blk W c #[u] 41)(h:(Dv bQ G t).p u W)(hl:t.length≤4096) :
  Calls Tryz.prog 85 #[dU b,.pointer (some ⟨c,0,none⟩)] W (Post (E (B (decide (b.1 < -1∨(t.length:Int)≤b.1)))) W):=by
 refine eN [dU b,.pointer (some ⟨c,0,none⟩)] [E (dU b),E (.pointer (some ⟨c,0,none⟩))] Tryz.func85 Tryz.ntmps85 ?_ fun a hf=>?_
 rotate_left
 rotate_right
 ·exact arg2 rfl rfl
 have e:=Ext.rfl' W
 refine seq <| ae <| tB hf rfl fun a b2 w v2 hv2 e' hb2 hs2 B2 hf=>?_
 obtain⟨e,hB⟩:=up2 e' e hB
 refine tA hf rfl fun a hf=>aa ?_
 cases hv2
 cases h1:decide (b.1 < -1)
 ·refine seq <| rgN 10 hf <| st (fA U88 rfl T3 rfl) <| st (ld1 T3 rfl B2 (dW _)) <| st ((lss rfl rfl).eq (congrArg Value.bool (h1))) <| st (mv rfl) <| sy rfl rfl (fA U88 rfl T3 rfl) <| sy rfl rfl (ld1 T3 rfl B2 (dW _)) <| sy rfl rfl ((ld1 T41 rfl hB rfl)) <| sy rfl rfl (aF U41 (isE rfl ((Dv bQ G t).st _ _ _ e h))) <| sy rfl rfl (geq rfl rfl) <| st (pkF rfl rfl) <| en fun a w e' hf=>?_
  obtain⟨e,hB,B2⟩:=up3 e' e hB B2
  refine tA hf rfl fun a hf=>aa ?_
  have h1':=of_decide_eq_false h1
  refine ai <| ap rfl hf rfl ?_
  rintro _ rfl
  exact⟨_,rfl,e,congrArg B (by simp only[h1',false_or])⟩
 ·refine seq <| rgN 10 hf <| st (fA U88 rfl T3 rfl) <| st (ld1 T3 rfl B2 (dW _)) <| st ((lss rfl rfl).eq (congrArg Value.bool (h1))) <| st (mv rfl) <| sn rfl rfl rfl <| sn rfl rfl rfl <| sn rfl rfl rfl <| sn rfl rfl rfl <| sn rfl rfl rfl <| st (pkT rfl rfl) <| en fun a w e' hf=>?_
  obtain⟨e,hB,B2⟩:=up3 e' e hB B2
  refine tA hf rfl fun a hf=>aa ?_
  have h1':=of_decide_eq_true h1
  refine ai <| ap rfl hf rfl ?_
  rintro _ rfl
  exact⟨_,rfl,e,congrArg B (by simp only[h1',true_or,decide_true])⟩
end Go.Mono
namespace Go.Mono
open Go Go.Proofs Go.RowKit Go.ChangeShapes Go.WideShapes

theorem yf:Tryz.prog.cellsOf 3=1:=by kernel_rfl
def ofW (f:Nat→BitVec 64):Nat→BS
 | 0=>0
 | n+1=>ofW f n ||| ((f n).setWidth 1024 <<< (64 * n))
theorem yg (x:BitVec 64)(n i:Nat)(hi:i<16)(hn:n<16):am (x.setWidth 1024 <<< (64 * n)) i=if i=n then x else 0:=by
 refine BitVec.eq_of_getLsbD_eq fun j hj=>?_
 rw[dR _ _ _ hj]
 have e:(x.setWidth 1024 <<< (64 * n)).getLsbD (64 * i+j)=(decide (64 * i+j<1024) && !decide (64 * i+j<64 * n)&&(x.setWidth 1024).getLsbD (64 * i+j - 64 * n)):=BitVec.getLsbD_shiftLeft _ _
 rw[e,BitVec.getLsbD_setWidth]
 by_cases h:i=n
 ·subst h
  have h1:64 * i+j - 64 * i=j:=by omega
  have h2:64 * i+j<1024:=by omega
  have h3:¬64 * i+j<64 * i:=by omega
  have h4:j<1024:=by omega
  simp only[h1,h2,h3,h4,decide_true,decide_false,Bool.not_false,Bool.true_and,if_true]
 ·rw[if_neg h]
  by_cases h3:i<n
  ·have:64 * i+j<64 * n:=by omega
   simp[this]
  ·have h5:64≤64 * i+j - 64 * n:=by omega
   have:x.getLsbD (64 * i+j - 64 * n)=false:=BitVec.getLsbD_of_ge _ _ h5
   simp[this]
theorem ql (f:Nat→BitVec 64):∀n,n≤16→∀i,i<16→am (ofW f n) i=if i<n then f i else 0
 | 0,_,i,hi=>by rw[ofW,mI];simp
 | n+1,hn,i,hi=>by
  rw[ofW,mH,ql f n (by omega) i hi,yg _ _ _ hi (by omega)]
  by_cases h1:i=n
  ·subst h1;simp
  ·by_cases h2:i<n
   ·rw[if_pos h2,if_neg h1,if_pos (by omega)];simp
   ·rw[if_neg h2,if_neg h1,if_neg (by omega)];simp
theorem yh (f:Nat→BitVec 64):au (ofW f 16)=aU f:=dK fun i hi=>by rw[ql f 16 (Nat.le_refl _) i hi,if_pos hi]

section
variable {H:Type}{enc:TypeId×Value→H}{w:World}{base:Nat}{spare:Nat→Bool}{held:Bool}
end
end Go.Mono
namespace Go.Mono
open Go Go.RowKit
structure XOp (P:Program)(w0:World)(row:Option Nat)(L:Env)(o:Oper)(A:VA):Prop where
 out:∀ρ w,Ext w0 w→(∀x∈o.op.operands,∀B,opd L x=some B→B.p (ρ x) w)→OpR P o ρ w (fun v w'=>w.grownBy w' row∧A.p v w')
def dL (P:Program)(ops:Array Oper)(w0:World)(row:Option Nat):Option Nat→List Oper→(Env→Prop)→Env→Prop
 | _,[],K,L=>K L
 | some 0,o::rest,K,L=>o.guard=none∧∃A,XOp P w0 row L o A∧dL P ops w0 row none rest K (push o.dst A L)
 | some (x+1),o::rest,K,L=>∃A,(∀w1,w0.grownBy w1 row→GOp P ops w1 L o A)∧AvR row A∧dL P ops w0 row (some x) rest K (push o.dst A L)
 | none,o::rest,K,L=>∃A,(∀w1,w0.grownBy w1 row→GOp P ops w1 L o A)∧AvR row A∧dL P ops w0 row none rest K (push o.dst A L)

section
variable {P:Program}{ops:Array Oper}{Q:Exit→Act→World→Prop}{w0:World}{n:Nat}{ds:List Deferred}{r:Option Nat}

def qn (A:VA)(As:Nat→VA):Nat→VA
 | 0=>A
 | i+1=>As i
theorem mP (L:Env)(A:VA)(As:Nat→VA)(k j:Nat):aV ops L (qn A As) k (j+1)=aV ops (push (aR ops k) A L) As (k+1) j:=by
 rw[← iM]
 congr 1
theorem qo {row:Option Nat}{K:Env→Prop}:∀(M:List Oper) (k:Nat) (x:Option Nat) (L:Env),(∀j,j<M.length→ops[k+j]?=M[j]?)→dL P ops w0 row x M K L →
  ∃As:Nat→VA,(∀j o,j<M.length→x≠some j→ops[k+j]?=some o→(∀w1,w0.grownBy w1 row→GOp P ops w1 (aV ops L As k j) o (As j))∧AvR row (As j)) ∧
   (∀j o,j<M.length→x=some j→ops[k+j]?=some o→o.guard=none∧XOp P w0 row (aV ops L As k j) o (As j))∧K (aV ops L As k M.length)
 | [],k,x,L,_,h=>⟨fun _=>Any,fun j o hj=>by simp at hj,fun j o hj=>by simp at hj,by
  match x,h with
  | none,h=>exact h
  | some 0,h=>exact h
  | some (x+1),h=>exact h⟩
 | o::M,k,x,L,hM,h=>by
  have h0:ops[k]?=some o:=by simpa using hM 0 (by simp)
  have hd:aR ops k=o.dst:=by simp[aR,h0]
  obtain⟨A,x',hA,hx',hr⟩:∃A x',((x≠some 0→(∀w1,w0.grownBy w1 row→GOp P ops w1 L o A)∧AvR row A)∧(x=some 0→o.guard=none∧XOp P w0 row L o A))∧(∀j,x=some (j+1)↔x'=some j)∧dL P ops w0 row x' M K (push o.dst A L):=by
   match x,h with
   | none,⟨A,h1,h2,h3⟩=>exact⟨A,none,⟨fun _=>⟨h1,h2⟩,fun h=>by cases h⟩,fun j=>by simp,h3⟩
   | some 0,⟨hg,A,h1,h2⟩=>exact⟨A,none,⟨fun h=>absurd rfl h,fun _=>⟨hg,h1⟩⟩,fun j=>by simp,h2⟩
   | some (x+1),⟨A,h1,h2,h3⟩=>exact⟨A,some x,⟨fun _=>⟨h1,h2⟩,fun h=>by cases h⟩,fun j=>by simp,h3⟩
  obtain⟨As,h1,h2,h3⟩:=qo M (k+1) x' (push o.dst A L) (fun j hj=>by
   have:=hM (j+1) (by simpa using hj)
   rw[show k+1+j=k+(j+1) by omega]
   simpa using this) hr
  refine⟨qn A As,?_,?_,?_⟩
  ·intro j o' hj hjx ho'
   cases j with
   | zero=>
    rw[Nat.add_zero,h0] at ho'
    obtain rfl:=Option.some.inj ho'
    exact hA.1 hjx
   | succ j=>
    rw[mP,hd]
    exact h1 j o' (by simpa using hj) (fun h=>hjx ((hx' j).2 h)) (by rw[show k+1+j=k+(j+1) by omega];exact ho')
  ·intro j o' hj hjx ho'
   cases j with
   | zero=>
    rw[Nat.add_zero,h0] at ho'
    obtain rfl:=Option.some.inj ho'
    exact hA.2 hjx
   | succ j=>
    rw[mP,hd]
    exact h2 j o' (by simpa using hj) ((hx' j).1 hjx) (by rw[show k+1+j=k+(j+1) by omega];exact ho')
  ·rw[List.length_cons,mP,hd]
   exact h3

structure yi (ops:Array Oper)(m x:Nat)(row:Option Nat)(n:Nat)(ds:List Deferred)(w0:World)(L:Env)(As:Nat→VA)(listed:Array Bool)(a:Act)(w:World):Prop where
 ext:w0.grownBy w row
 pre:listed.getD x true=false→Ext w0 w
 size:a.tmps.size=n
 defers:a.defers=ds
 hL:∀t A,aC L t=some A→(∀j,j<m→aR ops j≠some t)→A.p (a.eval (.tmp t)) w
 hA:∀i,i<m→listed.getD i false=true→∀d,aR ops i=some d→(As i).p (a.eval (.tmp d)) w

theorem qp {m x:Nat}{row:Option Nat}{L:Env}{As:Nat→VA}(hm:m≤ops.size)(hchk:∀i,i<m→eD ops m n i=true)(hchk2:∀i,m≤i→i<ops.size→dO ops i=true)
  (hops:∀j o,j<m→j≠x→ops[j]?=some o→(∀w1,w0.grownBy w1 row→GOp P ops w1 (aV ops L As 0 j) o (As j))∧AvR row (As j))
  (hX:∀o,ops[x]?=some o→o.guard=none∧XOp P w0 row (aV ops L As 0 x) o (As x)) (hLav:gH row L)
  (hend:∀a w,w0.grownBy w row→FrD n ds a w (aV ops L As 0 m)→wpListIn (FW r) 0 P ops Q (ops.toList.drop m) a w) :
  ∀(c:Nat) (listed:Array Bool) (a:Act) (w:World),(List.range m).countP (fun i => !listed.getD i true)=c→listed.size=ops.size →
   (∀j,m≤j→j<ops.size→listed.getD j true=false)→LD ops listed→yi ops m x row n ds w0 L As listed a w→wpAnyIn (FW r) 0 P .any ops Q (c+(ops.size - m)) listed a w
 | 0,listed,a,w,hc,hsz,hun,hld,hi=>by
  have hall:∀j,j<m→listed.getD j false=true:=by
   intro j hj
   have:=(List.countP_eq_zero.1 hc) j (List.mem_range.2 hj)
   have hjl:j<listed.size:=by omega
   simpa[hjl] using this
  rw[Nat.zero_add]
  refine iL m hchk2 (ops.size - m) m (by omega) (Nat.le_refl _) listed a w hall hun hsz hld (hend a w hi.ext ⟨hi.size,hi.defers,fun t A ht=>?_⟩)
  rcases eE L As t A m ht with ⟨j,hj,hd,rfl⟩|⟨hn,hl⟩
  ·exact hi.hA j hj (hall j hj) t hd
  ·exact hi.hL t A hl hn
 | c+1,listed,a,w,hc,hsz,hun,hld,hi=>by
  have facts:∀i o,i<m→ops[i]?=some o→(∀e∈o.after,Region.binds .any e=true→e.on<i)∧(∀d,o.dst=some d→d<n) ∧
    (∀t,t∈dD o∨cx ops o=some t→∀j,j<m→aR ops j=some t→bnd ops i j=true)∧(∀j,j<m→j≠i→∀d,o.dst=some d→aR ops j≠some d):=by
   intro i o hlt ho
   have:=hchk i hlt
   simp only[eD,ho,Bool.and_eq_true,Array.all_eq_true_iff_forall_mem,Bool.or_eq_true,Bool.not_eq_true',List.all_eq_true,List.mem_range,List.mem_append,Option.mem_toList] at this
   obtain⟨⟨⟨h1,h2⟩,h3⟩,h4⟩:=this
   refine⟨fun e he hb=>?_,fun d hd=>?_,fun t ht j hj hd=>?_,fun j hj hne d hd hd'=>?_⟩
   ·rcases h1 e he with h|h
    ·rw[hb] at h;cases h
    ·simpa[Nat.blt_eq] using h
   ·simpa[hd,Nat.blt_eq] using h2
   ·have:=h3 t ht j hj
    rcases this with h|h
    ·rw[hd] at h;simp at h
    ·exact h
   ·have:=h4 j hj
    rcases this with h|h
    ·exact hne (Nat.eq_of_beq_eq_true h)
    ·rw[hd,hd'] at h;simp at h
  have prog:∃i,i<m∧listed.getD i true=false∧∀j,j<i→listed.getD j true=true:=by
   have hex:∃i,i<m∧listed.getD i true=false:=by
    have hpos:0<(List.range m).countP (fun i => !listed.getD i true):=by omega
    obtain⟨i,hi,hb⟩:=List.countP_pos_iff.1 hpos
    exact⟨i,List.mem_range.1 hi,by simpa using hb⟩
   obtain⟨i,hlt,hb⟩:=hex
   induction i using Nat.strongRecOn with
   | _ i ih=>
    by_cases h:∃j,j<i∧listed.getD j true=false
    ·obtain⟨j,hj,hjb⟩:=h
     exact ih j hj (by omega) hjb
    ·refine⟨i,hlt,hb,fun j hj=>?_⟩
     cases hjb:listed.getD j true with
     | true=>rfl
     | false=>exact absurd ⟨j,hj,hjb⟩ h
  obtain⟨i0,hi0,hu0,hbelow⟩:=prog
  have hready:i0∈Region.ready .any ops listed:=by
   have ho:ops[i0]?=some (ops[i0]'(by omega)):=by simp
   refine mem_ready.2 ⟨hu0,_,ho,fun e he hb=>?_⟩
   have hlt:=(facts i0 _ hi0 ho).1 e he hb
   have:=hbelow _ hlt
   have hjl:e.on<listed.size:=by omega
   simpa[hjl] using this
  rw[show c+1+(ops.size - m)=(c+(ops.size - m))+1 by omega]
  refine⟨fun h0=>(by rw[h0] at hready;cases hready),fun i hir=>?_⟩
  obtain⟨hu,o,ho,hall⟩:=mem_ready.1 hir
  have hilt:i<ops.size:=(Array.getElem?_eq_some_iff.1 ho).1
  have listed_of_bnd:∀j,bnd ops i j=true→listed.getD j false=true:=by
   intro j hb
   simp only[bnd,ho] at hb
   obtain⟨e,he,hb⟩:=Array.any_eq_true'.1 hb
   simp only[Bool.and_eq_true] at hb
   have:=hall e he hb.1
   rwa [Nat.eq_of_beq_eq_true hb.2] at this
  have him:i<m:=by
   rcases Nat.lt_or_ge i m with h|h
   ·exact h
   ·have hc:=hchk2 i h hilt
    simp only[dO,ho,Bool.and_eq_true,List.all_eq_true,List.mem_range] at hc
    have:=cov hld 12 i i0 (hc.2 i0 (by omega)) (fun o' ho' e he hb=>by
     rw[ho] at ho'
     obtain rfl:=Option.some.inj ho'
     exact hall e he hb)
    rw[ff hu0] at this
    cases this
  obtain⟨f1,f2,f3,f4⟩:=facts i o him ho
  have byLook:∀t,(t∈dD o∨cx ops o=some t)→∀B,aC (aV ops L As 0 i) t=some B→B.p (a.eval (.tmp t)) w:=by
   intro t ht B hB
   rcases eE L As t B i hB with ⟨j,hj,hd,rfl⟩|⟨hn,hl⟩
   ·exact hi.hA j (by omega) (listed_of_bnd j (f3 t ht j (by omega) hd)) t hd
   ·refine hi.hL t B hl fun j hj hd=>?_
    have hb:=f3 t ht j hj hd
    simp only[bnd,ho] at hb
    obtain⟨e,he,hb⟩:=Array.any_eq_true'.1 hb
    simp only[Bool.and_eq_true] at hb
    have hlt:=f1 e he hb.1
    rw[Nat.eq_of_beq_eq_true hb.2] at hlt
    exact hn j hlt hd
  have ops1:∀x∈o.op.operands,∀B,opd (aV ops L As 0 i) x=some B→B.p (a.eval x) w:=fun x hx B hB=>by
   cases x with
   | tmp t=>exact byLook t (.inl (List.mem_filterMap.2 ⟨.tmp t,by simpa using hx,rfl⟩)) B hB
   | const v=>simp[opd] at hB;subst hB;rfl
   | global g=>simp[opd] at hB;subst hB;rfl
   | func f=>simp[opd] at hB;subst hB;rfl
  have hdst:aR ops i=o.dst:=by simp[aR,ho]
  have step:∀v w',w.grownBy w' row→(i≠x→Ext w w')→(i=x→∀j,j<m→j≠x→AvR row (As j))→(As i).p v w'→wpAnyIn (FW r) 0 P .any ops Q (c+(ops.size - m)) (listed.setIfInBounds i true) (a.put o.dst v) w':=by
   intro v w' hx hxe hxa hv
   have stab:∀(A:VA) u,AvR row A→A.p u w→A.p u w':=fun A u hA h=>hA.av _ _ _ hx h
   refine qp hm hchk hchk2 hops hX hLav hend c _ _ _ ?_ (by simpa using hsz) ?_ ?_ ?_
   ·have:=jM m (fun j => !listed.getD j true) (fun j => !(listed.setIfInBounds i true).getD j true) i him (by simp only[hu,Bool.not_false])
     (by
       have hjl:i<listed.size:=by omega
       simp[hjl]) (fun j hj=>by simp only[getD_set_ne true (Ne.symm hj)])
    omega
   ·intro j hj hj'
    rw[getD_set_ne true (by omega)]
    exact hun j hj hj'
   ·exact hld.set fun o' ho' e he hb=>by
     rw[ho] at ho'
     obtain rfl:=Option.some.inj ho'
     exact hall e he hb
   ·refine⟨World.grownBy.trans hi.ext hx,fun hl=>?_,by simp[hi.size],by simp[hi.defers],fun t A ht hn=>?_,fun j hj hl d hd=>?_⟩
    ·have hix:i≠x:=by
      rintro rfl
      have hjl:i<listed.size:=by omega
      simp[hjl] at hl
     rw[getD_set_ne true hix] at hl
     exact Ext.tr (hi.pre hl) (hxe hix)
    ·have h0:=stab A _ ⟨hLav.av t A ht⟩ (hi.hL t A ht hn)
     cases hod:o.dst with
     | none=>exact h0
     | some d=>
      have:d≠t:=fun e=>hn i him (by rw[hdst,hod,e])
      rw[fc this]
      exact h0
    ·by_cases hji:j=i
     ·subst hji
      rw[hdst] at hd
      rw[hd,iK (by rw[hi.size];exact f2 d hd)]
      exact hv
     ·have hl':listed.getD j false=true:=by rwa [getD_set_ne false (Ne.symm hji)] at hl
      have h1:=hi.hA j hj hl' d hd
      have h0:(As j).p (a.eval (.tmp d)) w':=by
       by_cases hix:i=x
       ·exact stab _ _ (hxa hix j hj (fun h=>hji (h.trans hix.symm))) h1
       ·exact (As j).st _ _ _ (hxe hix) h1
      cases hod:o.dst with
      | none=>exact h0
      | some d'=>
       have:d'≠d:=fun e=>f4 j hj hji d' hod (by rw[hd,e])
       rw[fc this]
       exact h0
  unfold wpOpIn
  simp only[ho]
  by_cases hix:i=x
  ·obtain⟨hgd,hxo⟩:=hX o (hix▸ho)
   have hw:Region.wanted o (yielded ops a.tmps)=true:=by unfold Region.wanted;rw[hgd]
   rw[if_pos hw]
   have hpre:Ext w0 w:=hi.pre (hix▸hu)
   exact (hxo.out a.eval w hpre (hix▸ops1)).wp fun v w' hv=>step v w' hv.1 (fun h=>absurd hix h) (fun _ j hj hjx=>by
    have hoj:ops[j]?=some (ops[j]'(by omega)):=by simp
    exact (hops j _ hj hjx hoj).2) (hix▸hv.2)
  ·have hg:=(hops i o him hix ho).1 w hi.ext a w (Ext.rfl' w) ops1 (fun d B hd hB=>byLook d (.inr hd) B hB)
   split
   ·rename_i hw
    rw[if_pos hw] at hg
    exact (hg.wp fun v w' hv=>step v w' ⟨hv.1.os,hv.1.tape,hv.1.output,hv.1.size,fun k hk _=>hv.1.block k hk⟩ (fun _=>hv.1) (fun h=>absurd h hix) hv.2)
   ·rename_i hw
    rw[if_neg hw] at hg
    exact⟨fun _ _=>trivial,step undef w ⟨rfl,rfl,rfl,Nat.le_refl _,fun _ _ _=>rfl⟩ (fun _=>Ext.rfl' _) (fun h=>absurd h hix) hg⟩
theorem qq {id:Nat}{ops:Array Oper}{L:Env}{a:Act}{w:World}(m x:Nat)(row:Option Nat)(hx:x<m)(hmix:P.follows .mixedOrders=true)(hf:FrD n ds a w L)[hL:gH row L](hchk:chk ops m n=true)
  (h:dL P ops w row (some x) (ops.toList.take m) (fun L'=>∀a' w',w.grownBy w' row→FrD n ds a' w' L'→wpListIn (FW r) 0 P ops Q (ops.toList.drop m) a' w') L):(Code.region id ops true).wpIn (FW r) 0 P Q a w:=by
 simp only[chk,Bool.and_eq_true,List.all_eq_true,List.mem_range,Bool.or_eq_true,Nat.ble_eq] at hchk
 obtain⟨⟨hm,h1⟩,h2⟩:=hchk
 refine wpIn_region_any hmix ?_
 have hlen:(ops.toList.take m).length=m:=by simp;omega
 obtain⟨As,hAs,hX,hK⟩:=qo (ops:=ops) (ops.toList.take m) 0 (some x) L (fun j hj=>by
  rw[hlen] at hj
  rw[Nat.zero_add,List.getElem?_take,if_pos hj];simp) h
 rw[hlen] at hK hAs hX
 have hext:Ext w { w with drawn:=w.drawn+1 }:=Ext.drew w
 have:=qp (P:=P) (ops:=ops) (Q:=Q) (w0:=w) (n:=n) (ds:=ds) (m:=m) (x:=x) (row:=row) (r:=r) (L:=L) (As:=As) hm h1 (fun i hi hi'=>by
   rcases h2 i hi' with h|h
   ·simp only[Nat.blt_eq] at h;omega
   ·exact h) (fun j o hj hjx ho=>hAs j o hj (by simpa using fun h=>hjx h.symm) (by simpa using ho)) (fun o ho=>hX x o hx rfl (by simpa using ho)) hL (fun a w hx hf=>hK a w hx hf) m
  (Array.replicate ops.size false) a { w with drawn:=w.drawn+1 } ?_ (by simp) ?_ ?_ ⟨⟨rfl,rfl,rfl,Nat.le_refl _,fun _ _ _=>rfl⟩,fun _=>hext,hf.size,hf.defers,fun t A ht _=>A.st _ _ _ hext (hf.val t A ht),fun i hi hl=>?_⟩
 ·rwa [show m+(ops.size - m)=ops.size by omega] at this
 ·have:(List.range m).countP (fun i => !(Array.replicate ops.size false).getD i true)=(List.range m).length:=by
   refine List.countP_eq_length.2 fun i hi=>?_
   have:=List.mem_range.1 hi
   have hlt:i<ops.size:=by omega
   simp[hlt]
  simpa using this
 ·intro j _ hj
  simp[hj]
 ·intro i o hl
  have:(Array.replicate ops.size false).getD i false=false:=by
   by_cases hlt:i<ops.size <;> simp[hlt]
  rw[this] at hl;cases hl
 ·have:(Array.replicate ops.size false).getD i false=false:=by
   by_cases hlt:i<ops.size <;> simp[hlt]
  rw[this] at hl;cases hl
end
end Go.Mono
namespace Go.Mono
open Go Go.RowKit

variable {P:Program}{w0:World}{L:Env}{dst:Option Tmp}{ty:TypeId}{pos:String}{aft:Array Edge}{g:Option (Nat×Bool)}{r:Option Nat}{ds:List Deferred}
theorem idxS {x y:Operand}{t te:TypeId}{b off len cap s:Nat}{k:IntKind}{i:Int}(ht:P.underlying t=some (.slice te))(hs:(P.info? te).map (·.size)=some s)(hx:opd L x=some (E (.slice (some ⟨b,off,none⟩) len cap)))(hy:opd L y=some (E (.int k i)))(hi:0≤i∧i<(len:Int)) :
  OpC P w0 L ⟨dst,.indexAddr t x y,ty,pos,aft,g⟩ (E (.pointer (some ⟨b,off+i.toNat * s,none⟩))):=
 aM fun ρ w _ hv=>by
  have h1:=opE hv (x:=x) (by simp[Op.operands]) hx
  have h2:=opE hv (x:=y) (by simp[Op.operands]) hy
  have hsz:∀w,(sizeOf te).run P w=.ok s w:=fun w=>by
   cases hi:P.info? te with
   | none=>simp[hi] at hs
   | some i=>simp[hi] at hs;simp[sizeOf,typeInfo,hi,hs]
  refine⟨_,?_,rfl⟩
  simp[execOp,h1,h2,Instr.indexAt,asIntOf,run_underlying ht,hi,hsz,Addr.add_lit]
theorem mQ {x:Operand}{t te:TypeId}{ao:Option Addr}{n cap:Nat}(ht:P.underlying t=some (.slice te))(hx:opd L x=some (E (.slice ao n cap))):OpC P w0 L ⟨dst,.call ⟨.builtin .len,#[x],#[t]⟩,ty,pos,aft,g⟩ (E (.int .i64 (n:Nat))):=
 aM fun ρ w he hv=>by
  have h1:=opE hv (x:=x) (by simp[Op.operands,Call.operands]) hx
  exact⟨_,by simp[execOp,resolve,invoke,builtin,Builtin.len_,h1,run_underlying ht,goInt],rfl⟩

theorem FrD.fix {n:Nat}{a:Act}{w:World}{A:VA}(h:FrD n ds a w L)(k:Nat)(hk:aC L k=some A):∃v,A.p v w∧FrD n ds a w ((k,E v)::L):=
 ⟨_,h.val k A hk,FrD.cons rfl h⟩

section tail
variable {ops:Array Oper}{rest:List Oper}{Q:Exit→Act→World→Prop}{n:Nat}{a:Act}{w:World}{x y:Operand}
theorem yj (z:Value)(n:Nat):madeCells #[z] n=(List.replicate n z).toArray:=by
 unfold madeCells
 apply Array.toList_inj.1
 rw[Array.toList_map,Array.toList_range]
 refine List.ext_getElem (by simp) fun i h1 h2=>?_
 simp[Nat.mod_one]
theorem qs {t te:TypeId}{z:Value}{k:IntKind}{d c bz:Nat}(ht:P.underlying t=some (.slice te))(hi:(P.info? te).map (fun i=>(i.zero,i.size,i.bytes))=some (some z,1,bz))(hz:z.cells = #[z])(hf:FrD n ds a w L)(hd:d<n)
  (hx:opd L x=some (E (.int k (c:Nat)))) (hc:c≤1048576) (hb:bz≤1048576)
  (h:∀a' b w',Ext w w'→b=w.heap.size→w'.heap.size=b+1→Blk w' b (List.replicate c z).toArray te→FrD n ds a' w' ((d,E (.slice (some ⟨b,0,none⟩) c c))::L)→wpListIn (FW r) 0 P ops Q rest a' w') :
  wpListIn (FW r) 0 P ops Q (⟨some d,.makeSlice t x x,ty,pos,aft,none⟩::rest) a w:=
 wpListIn_plain rfl fun K hK=>by
  obtain⟨it,hit,hiz,hs,hby⟩:=info_parts hi
  have hxv:a.eval x=.int k (c:Nat):=hf.opd x _ hx
  have hprod:(bz:Int) * (c:Nat)≤1048576 * 1048576:=Int.mul_le_mul (by omega) (by omega) (by omega) (by omega)
  have hr:=run_make (P:=P) w t te it z ht hit hiz k k (c:Nat) (c:Nat) (by omega) (by omega) (by rw[hby];omega) (by omega)
  rw[hs,Int.toNat_natCast,Nat.mul_one,hz,yj] at hr
  refine OpR.wp (R:=fun v w'=>v=.slice (some ⟨w.heap.size,0,none⟩) c c∧w'=w.alloc (.cells (List.replicate c z).toArray te)) ?_ ?_
  ·simp only[OpR,execOp,hxv,Sem.run_bind,hr,Result.andThen_ok,Sem.run_pure,and_self]
  ·rintro v w' ⟨rfl,rfl⟩
   exact hK _ _ (h _ _ _ (cV _ _) rfl (by simp) (fK _ _ _) (hf.put (d:=some d) (cV _ _) (fun k hk=>by cases hk;exact hd) rfl))
end tail
structure Rows (ety B:Nat)(G:Nat→Prop)(w:World)(bo:Nat)(xss:List (List Int))(vs:List Value):Prop where
 len:vs.length=xss.length
 at':∀(p:Nat) (v:Value) (xs:List Int),vs[p]?=some v→xss[p]?=some xs→OwR aj ety B G w xs v∧v.ownBlock≠some bo
 sep:∀(p q:Nat) (u v:Value),p≠q→vs[p]?=some u→vs[q]?=some v→u.ownBlock=none∨u.ownBlock≠v.ownBlock
variable {ety B bo:Nat}{G:Nat→Prop}{w w':World}{xss:List (List Int)}{vs:List Value}
theorem Rows.ext (h:Rows ety B G w bo xss vs)(k:Ext w w'):Rows ety B G w' bo xss vs:=
 ⟨h.len,fun p v xs h1 h2=>⟨(h.at' p v xs h1 h2).1.ext k,(h.at' p v xs h1 h2).2⟩,h.sep⟩
instance:Ug w w' (Rows ety B G w bo xss vs) (Rows ety B G w' bo xss vs):=⟨fun e h=>h.ext e⟩
theorem Rows.lt (h:Rows ety B G w bo xss vs){p:Nat}{v:Value}(hv:vs[p]?=some v){b:Nat}(hb:v.ownBlock=some b):B≤b∧b<w.heap.size:=by
 have hp:=(List.getElem?_eq_some_iff.1 hv).1
 exact (h.at' p v _ hv (List.getElem?_eq_getElem (by rw[← h.len];exact hp))).1.lt hb
theorem Rows.gr (h:Rows ety B G w bo xss vs){b:Nat}(hg:w.grownBy w' (some b))(hb:∀(p:Nat) (v:Value),vs[p]?=some v→v.ownBlock≠some b):Rows ety B G w' bo xss vs:=
 ⟨h.len,fun p v xs h1 h2=>⟨OwR.gr (h.at' p v xs h1 h2).1 hg (hb p v h1),(h.at' p v xs h1 h2).2⟩,h.sep⟩
theorem Rows.nil {n:Nat}(hB:B≤w.heap.size)(hG:∀b,G b→b<B):Rows ety B G w bo (List.replicate n []) (List.replicate n (.slice none 0 0)):=by
 refine⟨by simp,fun p v xs h1 h2=>?_,fun p q u v _ h1 _=>?_⟩
 ·rw[List.getElem?_replicate] at h1 h2
  split at h1
  ·rename_i hp
   rw[if_pos hp] at h2
   cases h1
   cases h2
   exact⟨OwR.nil aj _ hB hG,by simp[Value.ownBlock]⟩
  ·cases h1
 ·rw[List.getElem?_replicate] at h1
  split at h1
  ·cases h1
   exact .inl rfl
  ·cases h1
theorem Rows.upd (h:Rows ety B G w bo xss vs){p:Nat}{v v':Value}{xs':List Int}(hv:vs[p]?=some v)(hg:w.grownBy w' v.ownBlock)(ho:OwR aj ety B G w' xs' v')(hat:v'.ownBlock=v.ownBlock∨∃c,v'.ownBlock=some c∧w.heap.size≤c)(hbo:bo<w.heap.size) :
  Rows ety B G w' bo (xss.set p xs') (vs.set p v'):=by
 have hp:=(List.getElem?_eq_some_iff.1 hv).1
 have hx:∃xs,xss[p]?=some xs:=⟨_,List.getElem?_eq_getElem (by rw[← h.len];exact hp)⟩
 obtain⟨xs,hx⟩:=hx
 refine⟨by simp[h.len],fun q u ys h1 h2=>?_,fun q s u y hqs h1 h2=>?_⟩
 ·by_cases hpq:p=q
  ·subst hpq
   rw[List.getElem?_set_self hp] at h1
   rw[List.getElem?_set_self (by rw[← h.len];exact hp)] at h2
   cases h1;cases h2
   refine⟨ho,?_⟩
   rcases hat with hat|⟨c,hat,hc⟩
   ·rw[hat];exact (h.at' p v xs hv hx).2
   ·rw[hat];simp;omega
  ·rw[List.getElem?_set_ne hpq] at h1 h2
   have:=h.at' q u ys h1 h2
   exact⟨OwR.grF this.1 hg (h.sep q p u v (Ne.symm hpq) h1 hv),this.2⟩
 ·by_cases hpq:p=q
  ·subst hpq
   rw[List.getElem?_set_self hp] at h1
   rw[List.getElem?_set_ne hqs] at h2
   cases h1
   rcases hat with hat|⟨c,hat,hc⟩
   ·rw[hat];exact h.sep p s v y hqs hv h2
   ·refine .inr fun he=>?_
    rw[hat] at he
    have:=h.lt h2 he.symm
    omega
  ·rw[List.getElem?_set_ne hpq] at h1
   by_cases hps:p=s
   ·subst hps
    rw[List.getElem?_set_self hp] at h2
    cases h2
    rcases hat with hat|⟨c,hat,hc⟩
    ·rw[hat];exact h.sep q p u v hqs h1 hv
    ·refine .inr fun he=>?_
     rw[hat] at he
     have:=h.lt h1 he
     omega
   ·rw[List.getElem?_set_ne hps] at h2
    exact h.sep q s u y hqs h1 h2
theorem Rows.cells (h:Rows ety B G w bo xss vs):Cells (slE aj) G w xss vs:=by
 have hl:=h.len
 have ha:=h.at'
 clear h
 induction xss generalizing vs with
 | nil=>exact List.eq_nil_of_length_eq_zero hl
 | cons xs xss ih=>
  match vs,hl,ha with
  | v::vs,hl,ha=>
   refine⟨[v],vs,rfl,⟨v,rfl,Dv.sl.1 (ha 0 v xs rfl rfl).1.sl⟩,ih (by simpa using hl) fun p u ys h1 h2=>ha (p+1) u ys h1 h2⟩
theorem Rows.dv (h:Rows ety B G w bo xss vs){bt:TypeId}(hb:Blk w bo vs.toArray bt)(hG:¬G bo){cap:Nat}(hc:xss.length≤cap):(Dv (slE (slE aj)) G xss).p (.slice (some ⟨bo,0,none⟩) xss.length cap) w:=
 Dv.sl.2 (.inr ⟨_,cap,vs,rfl,hc,hG,hb.lt,h.cells,fun i u hu=>by
  rw[Addr.add_lit,Nat.zero_add,hb.cell i,List.getElem?_toArray];exact hu⟩)
theorem qt {x y:Operand}{t te:TypeId}{z0:Value}{sz bz:Nat}{α:Type}{e:Enc α}{xs ys:List α}{v:Value}(ht:P.underlying t=some (.slice te))(hi:(P.info? te).map (fun i=>(i.zero,i.size,i.bytes))=some (some z0,sz,bz))(hsz:sz=e.k)(hz0:z0.cells.size=e.k)
  (hx:opd L x=some (E v)) (ho:OwR e te B G w0 xs v) (hy:opd L y=some (Dv (slE e) (GO G v) ys)) (hb:(xs.length+ys.length) * bz≤140737488355328) (h63:xs.length+ys.length≤maxLen) :
  XOp P w0 v.ownBlock L ⟨dst,.call ⟨.builtin .append,#[x,y],#[t,t]⟩,ty,pos,aft,none⟩
   ⟨fun v' w'=>OwR e te B G w' (xs++ys) v'∧(v'.ownBlock=v.ownBlock∨∃c,v'.ownBlock=some c∧w0.heap.size≤c),fun v' w1 w2 k h=>⟨h.1.ext k,h.2⟩⟩:=by
 refine⟨fun ρ w he hv=>?_⟩
 have hxv:ρ x=v:=hv x (by simp[Op.operands,Call.operands]) _ hx
 have hyv:=hv y (by simp[Op.operands,Call.operands]) _ hy
 obtain⟨v',w',h1,h2,h3,h4⟩:=qf (P:=P) (ty:=ty) ht hi hsz hz0 (ho.ext he) hyv h63 hb
 simp only[OpR,execOp,resolve,invoke,builtin,Sem.run_bind,Sem.run_pure,Result.andThen_ok,List.map_toArray,List.map_cons,List.map_nil,hxv,h1]
 exact⟨h3,h2,h4.imp id fun h=>⟨_,h,he.size⟩⟩
section
variable {ops:Array Oper}{rest:List Oper}{K:Env→Prop}{A:VA}{op:Op}{dd:Nat}{row:Option Nat}
theorem xm {x:Nat}(h:∀w1,w0.grownBy w1 row→OpC P w1 L ⟨some dd,op,ty,pos,aft,none⟩ A)[hA:AvR row A](k:dL P ops w0 row (some x) rest K ((dd,A)::L)):dL P ops w0 row (some (x+1)) (⟨some dd,op,ty,pos,aft,none⟩::rest) K L:=
 ⟨A,fun w1 h1 a w he hv _=>by simp only[Region.wanted,if_true];exact (h w1 h1).out _ w he hv,hA,k⟩
theorem xn (h:∀w1,w0.grownBy w1 row→OpC P w1 L ⟨some dd,op,ty,pos,aft,none⟩ A)[hA:AvR row A](k:dL P ops w0 row none rest K ((dd,A)::L)):dL P ops w0 row none (⟨some dd,op,ty,pos,aft,none⟩::rest) K L:=
 ⟨A,fun w1 h1 a w he hv _=>by simp only[Region.wanted,if_true];exact (h w1 h1).out _ w he hv,hA,k⟩
theorem xx (h:XOp P w0 row L ⟨some dd,op,ty,pos,aft,none⟩ A)(k:dL P ops w0 row none rest K ((dd,A)::L)):dL P ops w0 row (some 0) (⟨some dd,op,ty,pos,aft,none⟩::rest) K L:=
 ⟨rfl,A,h,k⟩
theorem xe {x:Option Nat}(h:K L):dL P ops w0 row x [] K L:=by
 match x,h with
 | none,h=>exact h
 | some 0,h=>exact h
 | some (x+1),h=>exact h
end
end Go.Mono
namespace Go.Mono
open Go Go.RowKit
theorem Rows.ne_new {ety B bo:Nat}{G:Nat→Prop}{w:World}{xss:List (List Int)}{vs:List Value}(h:Rows ety B G w bo xss vs){b:Nat}(hb:b=w.heap.size):∀(p:Nat) (v:Value),vs[p]?=some v→v.ownBlock≠some b:=fun p v hv hb'=>by
 have:=(h.lt hv hb').2
 omega
end Go.Mono
namespace Go.Mono
open Go Go.RowKit
theorem Rows.ne_bo {ety B bo:Nat}{G:Nat→Prop}{w:World}{xss:List (List Int)}{vs:List Value}(h:Rows ety B G w bo xss vs):∀(p:Nat) (v:Value),vs[p]?=some v→v.ownBlock≠some bo:=fun p v hv=>by
 have hp:=(List.getElem?_eq_some_iff.1 hv).1
 exact (h.at' p v _ hv (List.getElem?_eq_getElem (by rw[← h.len];exact hp))).2
theorem OwR.one {α:Type}{e:Enc α}{ty:TypeId}{B:Nat}{G:Nat→Prop}{w:World}{xs:List α}{v:Value}(h:OwR e ty B G w xs v):v.oneCell'=true:=by
 rcases Dv.sl.1 h.sl with ⟨rfl,_⟩|⟨ad,cap,cs,rfl,_⟩ <;> rfl
theorem yk (vs:List Value)(p:Nat)(v:Value):vs.toArray.setIfInBounds (0+(p:Int).toNat * 1) v=(vs.set p v).toArray:=by simp
theorem yl {vs:List Value}{p:Nat}{v:Value}(h:vs[p]?=some v):vs.toArray[0+(p:Int).toNat * 1]?=some v:=by simpa using h
end Go.Mono
