/-
  Walks of functions and plain facts.
  No condition.
-/
import Derived.OrdersIn
import Derived.TacticsIn
import Derived.RangeFuncIn
import Derived.RangeFuncLeaves
import Derived.RangeFuncRecord
import Derived.RangeFuncCalls
import Derived.Below
import Derived.Shelf.Abstract
import Derived.Tactics
import Derived.IntWalk
import Derived.Laws.Tables
import Derived.Laws.Cells
import Derived.Laws.Rows
import Derived.Laws.CopyRow
import Derived.OwnWalk
import Derived.Test.YtiakihcolhopoaaGreatDoorProg
import Derived.KernelRfl
import Derived.Laws.StructEq
import Derived.Maps.AppendAt
import Derived.Great.BuildSlice
import Derived.Laws.MakeOwn
import Derived.OpenShut
import Derived.Deep.Slices
import Derived.ChangeSame
import Derived.Laws.Cover3
import Derived.Maps.OwnIn
import Derived.Maps.Views
import Derived.Maps.OwnSet
import Derived.Laws.Pointers
import Derived.Lib.SliceRun
import Derived.Carry
set_option linter.unusedVariables false
set_option linter.unusedSimpArgs false
namespace Go.Mono
open Go Go.RowKit
def FW (r:Option Nat):Fence:={ fn:=fun _=>True,depth:=none,alive:=false,round:=r }
theorem iT {P:Program}{f:FuncId}{args:Array Value}{w:World}{R:Ending→World→Prop}(r:Option Nat)(h:Calls P f args w R):CallsIn (FW r) 0 P f args w R:=(callsIn_wide (n:=0)).2 h
theorem sJ {P:Program}{l:Nat}{f:FuncId}{tmps:Array Value}{assign body:Code}{w:World}{R:Ending→World→Prop}(r:Option Nat)(h:RoundIn Fence.wide 0 P l f tmps assign body w R):RoundIn (FW r) 0 P l f tmps assign body w R:=h
abbrev Ext (w w':World):Prop:=Below w.heap.size w w'
theorem Ext.rfl' (w:World):Ext w w:=Below.refl _ _
theorem Ext.tr {a b c:World}(h:Ext a b)(k:Ext b c):Ext a c:=Below.trans h (Below.mono k h.size)
theorem Ext.drew (w:World):Ext w w.drew:=(Below.refl _ _).drew
class Gro (Γ:World→World→Prop):Prop where
 rfl':∀w,Γ w w
 tr:∀{a b c},Γ a b→Γ b c→Γ a c
 drew:∀w,Γ w w.drew
 alloc:∀w o,Γ w (w.alloc o)
 below:∀{a b},Γ a b→Below a.heap.size a b
instance:Gro Ext:=⟨Ext.rfl',Ext.tr,Ext.drew,fun w o=>(Below.refl _ w).alloc (Nat.le_refl _) o,id⟩
structure VAr (Γ:World→World→Prop) where
 p:Value→World→Prop
 st:∀v w w',Γ w w'→p v w→p v w'
variable {Γ:World→World→Prop}


def ER (x:Value):(VAr Γ):=⟨fun v _=>v=x,fun _ _ _ _ h=>h⟩
def ko:(VAr Γ):=⟨fun _ _=>True,fun _ _ _ _ h=>h⟩
abbrev bf (Γ:World→World→Prop):=List (Nat×VAr Γ)
abbrev VA:=VAr Ext
abbrev Env:=bf Ext
theorem VA.st (A:VA):∀v w w',Ext w w'→A.p v w→A.p v w':=VAr.st A
abbrev E (x:Value):VA:=ER x
abbrev Any:VA:=ko
def aI:(bf Γ)→Nat→Option (VAr Γ)
 | [],_=>none
 | (k,A)::L,t=>match Nat.beq k t with
  | true=>some A
  | false=>aI L t

theorem cF (k:Nat)(A:(VAr Γ))(L:(bf Γ)):aI ((k,A)::L) k=some A:=by
 simp[aI]
theorem cG {k t:Nat}(A:(VAr Γ))(L:(bf Γ))(h:k≠t):aI ((k,A)::L) t=aI L t:=by
 have:Nat.beq k t=false:=by
  cases hb:Nat.beq k t with
  | false=>rfl
  | true=>exact absurd (Nat.eq_of_beq_eq_true hb) h
 simp[aI,this]
def opd (L:(bf Γ)):Operand→Option (VAr Γ)
 | .tmp t=>aI L t
 | .const v=>some (ER v)
 | .global g=>some (ER (.pointer (some ⟨g,0,none⟩)))
 | .func f=>some (ER (.func (.func f) #[] #[]))

structure FrD (n:Nat)(ds:List Deferred)(a:Act)(w:World)(L:(bf Γ)):Prop where
 size:a.tmps.size=n
 defers:a.defers=ds
 val:∀t A,aI L t=some A→A.p (a.eval (.tmp t)) w
abbrev Fr (n:Nat):=@FrD Γ n []

theorem FrD.opd {n:Nat}{ds:List Deferred}{a:Act}{w:World}{L:(bf Γ)}(h:FrD n ds a w L):∀x A,opd L x=some A→A.p (a.eval x) w:=by
 intro x A hx
 cases x with
 | tmp t=>exact h.val t A hx
 | const v=>simp[Mono.opd] at hx;subst hx;rfl
 | global g=>simp[Mono.opd] at hx;subst hx;rfl
 | func f=>simp[Mono.opd] at hx;subst hx;rfl

theorem FrD.ext {n:Nat}{ds:List Deferred}{a:Act}{w w':World}{L:(bf Γ)}(h:FrD n ds a w L)(e:Γ w w'):FrD n ds a w' L:=
 ⟨h.size,h.defers,fun t A ht=>A.st _ _ _ e (h.val t A ht)⟩

theorem hY {a:Act}{d:Nat}{v:Value}(h:d<a.tmps.size):(a.put (some d) v).eval (.tmp d)=v:=by
 simp[Act.put,Act.eval,h]
theorem ev {a:Act}{d t:Nat}{v:Value}(h:d≠t):(a.put (some d) v).eval (.tmp t)=a.eval (.tmp t):=by
 simp[Act.put,Act.eval,Array.getElem?_setIfInBounds_ne h]
@[simp] theorem put_size {a:Act} {d:Option Nat} {v:Value}:(a.put d v).tmps.size=a.tmps.size:=by
 cases d <;> simp[Act.put]
@[simp] theorem put_defers {a:Act} {d:Option Nat} {v:Value}:(a.put d v).defers=a.defers:=by
 cases d <;> simp[Act.put]

def push (d:Option Nat)(A:(VAr Γ))(L:(bf Γ)):(bf Γ):=
 match d with
 | some d=>(d,A)::L
 | none=>L

theorem FrD.put {n:Nat}{ds:List Deferred}{a:Act}{w w':World}{L:(bf Γ)}{d:Option Nat}{v:Value}{A:(VAr Γ)}(h:FrD n ds a w L)(e:Γ w w')(hd:∀k,d=some k→k<n)(hA:A.p v w') :
  FrD n ds (a.put d v) w' (push d A L):=by
 refine⟨by simp[h.size],by simp[h.defers],fun t B ht=>?_⟩
 cases d with
 | none=>exact (h.ext e).val t B ht
 | some d=>
  by_cases hdt:d=t
  ·subst hdt
   rw[push,cF] at ht
   obtain rfl:=Option.some.inj ht
   rw[hY (by rw[h.size];exact hd d rfl)]
   exact hA
  ·rw[push,cG _ _ hdt] at ht
   rw[ev hdt]
   exact (h.ext e).val t B ht
def OpR (P:Program)(o:Oper)(ρ:Operand→Value)(w:World)(R:Value→World→Prop):Prop:=
 match (execOp ρ o).run P w with
 | .ok (.value v) w'=>R v w'
 | .ok .skip w'=>R undef w'
 | .ok (.enter f args) w'=>Calls P f args w' fun e w''=>∃v,e=.returned v∧R v w''
 | .ok (.round l f tmps assign body) w'=>RoundIn Fence.wide 0 P l f tmps assign body w' fun e w''=>∃v,e=.returned v∧R v w''
 | _=>False

theorem OpR.wp {P:Program}{o:Oper}{a:Act}{w:World}{R:Value→World→Prop}{K:Act→World→Prop}{Q:Exit→Act→World→Prop}{r:Option Nat}
  (h:OpR P o a.eval w R) (hK:∀v w',R v w'→K (a.put o.dst v) w'):o.wpIn (FW r) 0 P a w K Q:=by
 refine⟨fun _ _=>trivial,?_⟩
 have hs:o.semAt (FW r).round a.eval=execOp a.eval o:=by
  refine Oper.semAt_eq _ _ _ fun c hc=>?_
  unfold OpR at h
  obtain⟨d,op,t,p,af,g⟩:=o
  simp only at hc
  subst hc
  simp only[execOp,Sem.run_bind] at h
  cases hr:(resolve a.eval c t).run P w with
  | ok x w'=>simp[hr] at h
  | halt x w'=>simp[hr,Result.andThen] at h
 rw[hs]
 unfold OpR at h
 generalize (execOp a.eval o).run P w=r' at h
 cases r' with
 | ok n w'=>
  cases n <;> simp only[Oper.uponIn] at h ⊢ <;> first
   | exact hK _ _ h
   | exact h.elim
   | (
     refine⟨fun hd=>(by simp[FW] at hd),iT r (Calls.mono h ?_)⟩
     rintro e w'' ⟨v,rfl,hv⟩
     exact hK _ _ hv)
   | (
     refine⟨fun hd=>(by simp[FW] at hd),sJ r (RoundIn.mono h ?_)⟩
     rintro e w'' ⟨v,rfl,hv⟩
     exact hK _ _ hv)
 | halt x w'=>exact h.elim

theorem OpR.mono {P:Program}{o:Oper}{ρ:Operand→Value}{w:World}{R R':Value→World→Prop}(h:OpR P o ρ w R)(hR:∀v w',R v w'→R' v w'):OpR P o ρ w R':=by
 unfold OpR at *
 generalize (execOp ρ o).run P w=r at h
 cases r with
 | ok n w'=>
  cases n <;> simp only at h ⊢ <;> first
   | exact hR _ _ h
   | exact h
   | exact Calls.mono h (by rintro e w'' ⟨v,rfl,hv⟩;exact⟨v,rfl,hR _ _ hv⟩)
   | exact RoundIn.mono h (by rintro e w'' ⟨v,rfl,hv⟩;exact⟨v,rfl,hR _ _ hv⟩)
 | halt x w'=>exact h
structure OpC (P:Program)(w0:World)(L:(bf Γ))(o:Oper)(A:(VAr Γ)):Prop where
 out:∀ρ w,Γ w0 w→(∀x∈o.op.operands,∀B,opd L x=some B→B.p (ρ x) w)→OpR P o ρ w (fun v w'=>Γ w w'∧A.p v w')
def bV (ops:Array Oper)(o:Oper):Option Nat:=o.guard.bind fun g=>(ops[g.1]?).bind (·.dst)
def GOp (P:Program)(ops:Array Oper)(w0:World)(L:(bf Γ))(o:Oper)(A:(VAr Γ)):Prop:=
 ∀(a:Act) w,Γ w0 w→(∀x∈o.op.operands,∀B,opd L x=some B→B.p (a.eval x) w)→(∀d B,bV ops o=some d→aI L d=some B→B.p (a.eval (.tmp d)) w) →
  if Region.wanted o (yielded ops a.tmps) then OpR P o a.eval w (fun v w'=>Γ w w'∧A.p v w') else A.p undef w

def ce (P:Program)(ops:Array Oper)(w0:World):List Oper→((bf Γ)→Prop)→(bf Γ)→Prop
 | [],K,L=>K L
 | o::rest,K,L=>∃A,GOp P ops w0 L o A∧ce P ops w0 rest K (push o.dst A L)

section reg
variable {P:Program}{ops:Array Oper}{Q:Exit→Act→World→Prop}{w0:World}{n:Nat}{ds:List Deferred}{r:Option Nat}
theorem kq [Gro Γ](S:List Oper):∀(M:List Oper) (L:(bf Γ)) (a:Act) (w:World),(∀o∈M,∀k,o.dst=some k→k<n)→Γ w0 w→FrD n ds a w L →
  ce P ops w0 M (fun L'=>∀a' w',Γ w0 w'→FrD n ds a' w' L'→wpListIn (FW r) 0 P ops Q S a' w') L→wpListIn (FW r) 0 P ops Q (M++S) a w
 | [],L,a,w,_,he,hf,h=>h a w he hf
 | o::rest,L,a,w,hd,he,hf,⟨A,hA,hr⟩=>by
  have h1:=hA a w he (fun x _ B hB=>hf.opd x B hB) (fun d B _ hB=>hf.val d B hB)
  have hd':=fun k hk=>hd o (by simp) k hk
  have ih:=kq S rest (push o.dst A L)
  rw[List.cons_append,wpListIn]
  split
  ·rename_i hw
   rw[if_pos hw] at h1
   exact (h1.wp fun v w' hv=>ih _ _ (fun o ho=>hd o (by simp[ho])) (Gro.tr he hv.1) (hf.put hv.1 hd' hv.2) hr)
  ·rename_i hw
   rw[if_neg hw] at h1
   exact⟨fun _ _=>trivial,ih _ _ (fun o ho=>hd o (by simp[ho])) he (hf.put (Gro.rfl' _) hd' h1) hr⟩


def bnd (ops:Array Oper)(i j:Nat):Bool:=match ops[i]? with
 | some o=>o.after.any fun e=>Region.binds .any e&&Nat.beq e.on j
 | none=>false
def ey (ops:Array Oper):Nat→Nat→Nat→Bool
 | 0,_,_=>false
 | f+1,i,j=>bnd ops i j || (List.range i).any fun k=>bnd ops i k&&ey ops f k j

def cU (o:Oper):List Nat:=o.op.operands.toList.filterMap fun|.tmp t=>some t|_=>none
def aS (ops:Array Oper)(i:Nat):Option Nat:=(ops[i]?).bind (·.dst)

def dN (ops:Array Oper)(m N i:Nat):Bool:=
 match ops[i]? with
 | none=>false
 | some o=>
  (o.after.all fun e => !Region.binds .any e || Nat.blt e.on i) &&
  (match o.dst with|some d=>Nat.blt d N|none=>true) &&
  ((cU o++(bV ops o).toList).all fun t=>(List.range m).all fun j=>(match aS ops j with|some d => !Nat.beq d t|none=>true) || bnd ops i j) &&
  ((List.range m).all fun j=>Nat.beq j i || (match o.dst,aS ops j with|some d,some e => !Nat.beq d e|_,_=>true))
def da (ops:Array Oper)(i:Nat):Bool:=
 match ops[i]? with
 | none=>false
 | some o=>(o.after.all fun e => !Region.binds .any e || Nat.blt e.on i)&&(List.range i).all fun j=>ey ops 12 i j
def chk (ops:Array Oper)(m N:Nat):Bool:=
 Nat.ble m ops.size&&((List.range m).all fun i=>dN ops m N i)&&((List.range ops.size).all fun i=>Nat.blt i m || da ops i)

theorem iU (m:Nat)(p q:Nat→Bool)(i:Nat)(hi:i<m)(h1:p i=true)(h2:q i=false)(h:∀j,j≠i→p j=q j) :
  (List.range m).countP p=(List.range m).countP q+1:=by
 induction m with
 | zero=>omega
 | succ m ih=>
  rw[List.range_succ,List.countP_append,List.countP_append]
  by_cases him:i=m
  ·subst him
   have:(List.range i).countP p=(List.range i).countP q:=List.countP_congr fun x hx=>by
    have:x≠i:=by have:=List.mem_range.1 hx;omega
    rw[h x this]
   simp[this,h1,h2]
  ·have:=ih (by omega)
   have e:=h m (by omega)
   simp only[this,List.countP_singleton,e]
   omega

def LD (ops:Array Oper)(listed:Array Bool):Prop:=
 ∀i o,listed.getD i false=true→ops[i]?=some o→∀e∈o.after,Region.binds .any e=true→listed.getD e.on false=true

theorem cov {listed:Array Bool}(hld:LD ops listed):∀f i j,ey ops f i j=true→(∀o,ops[i]?=some o→∀e∈o.after,Region.binds .any e=true→listed.getD e.on false=true)→listed.getD j false=true
 | 0,i,j,h,_=>by simp[ey] at h
 | f+1,i,j,h,hp=>by
  have one:∀j,bnd ops i j=true→listed.getD j false=true:=by
   intro j hb
   unfold bnd at hb
   cases ho:ops[i]? with
   | none=>simp[ho] at hb
   | some o=>
    simp only[ho] at hb
    obtain⟨e,he,hb⟩:=Array.any_eq_true'.1 hb
    simp only[Bool.and_eq_true] at hb
    have:=hp o ho e he hb.1
    rwa [Nat.eq_of_beq_eq_true hb.2] at this
  simp only[ey,Bool.or_eq_true,List.any_eq_true,Bool.and_eq_true] at h
  rcases h with h|⟨k,_,hk,hc⟩
  ·exact one j h
  ·exact cov hld f k j hc fun o ho e he hb=>hld k o (one k hk) ho e he hb

theorem ez {listed:Array Bool}{i:Nat}(h:listed.getD i true=false):listed.getD i false=false:=by
 rcases Nat.lt_or_ge i listed.size with h'|h'
 ·simpa[h'] using h
 ·simp[Array.getElem?_eq_none h'] at h

theorem LD.set {listed:Array Bool}(hld:LD ops listed){i:Nat}(hp:∀o,ops[i]?=some o→∀e∈o.after,Region.binds .any e=true→listed.getD e.on false=true) :
  LD ops (listed.setIfInBounds i true):=by
 intro j o hj ho e he hb
 by_cases hij:i=j
 ·subst hij
  exact getD_set_true (hp o ho e he hb)
 ·rw[getD_set_ne false hij] at hj
  exact getD_set_true (hld j o hj ho e he hb)

theorem hZ (m:Nat)(hchk:∀i,m≤i→i<ops.size→da ops i=true):∀(d k:Nat),d+k=ops.size→m≤k→∀(listed:Array Bool) (a:Act) (w:World),
  (∀j,j<k→listed.getD j false=true)→(∀j,k≤j→j<ops.size→listed.getD j true=false)→listed.size=ops.size→LD ops listed →
  wpListIn (FW r) 0 P ops Q (ops.toList.drop k) a w→wpAnyIn (FW r) 0 P .any ops Q d listed a w
 | 0,k,hk,hm,listed,a,w,h1,h2,hsz,hld,h=>by
  have hnil:ops.toList.drop k=[]:=List.drop_eq_nil_of_le (by simp;omega)
  rw[hnil] at h
  refine⟨?_,h⟩
  cases hr:Region.ready .any ops listed with
  | nil=>rfl
  | cons x xs=>
   have hx:x∈Region.ready .any ops listed:=by rw[hr];simp
   obtain⟨hu,o,ho,_⟩:=mem_ready.1 hx
   have hlt:x<ops.size:=(Array.getElem?_eq_some_iff.1 ho).1
   have:=h1 x (by omega)
   rw[ez hu] at this
   cases this
 | d+1,k,hk,hm,listed,a,w,h1,h2,hsz,hld,h=>by
  have hlt:k<ops.size:=by omega
  have hok:ops[k]?=some ops[k]:=by simp[hlt]
  have hc:=hchk k hm hlt
  simp only[da,hok,Bool.and_eq_true,Array.all_eq_true_iff_forall_mem,Bool.or_eq_true,Bool.not_eq_true'] at hc
  have hready:k∈Region.ready .any ops listed:=by
   refine mem_ready.2 ⟨h2 k (Nat.le_refl _) hlt,_,hok,fun e he hb=>h1 _ ?_⟩
   rcases hc.1 e he with h'|h'
   ·rw[hb] at h';cases h'
   ·simpa[Nat.blt_eq] using h'
  have only:∀j∈Region.ready .any ops listed,j=k:=by
   intro j hj
   obtain⟨hu,o,ho,hall⟩:=mem_ready.1 hj
   have hjlt:j<ops.size:=(Array.getElem?_eq_some_iff.1 ho).1
   rcases Nat.lt_trichotomy j k with hjk|hjk|hjk
   ·have:=h1 j hjk
    rw[ez hu] at this
    cases this
   ·exact hjk
   ·have hcj:=hchk j (by omega) hjlt
    simp only[da,ho,Bool.and_eq_true,List.all_eq_true,List.mem_range] at hcj
    have:=cov hld 12 j k (hcj.2 k hjk) (fun o' ho' e he hb=>by
     rw[ho] at ho'
     obtain rfl:=Option.some.inj ho'
     exact hall e he hb)
    rw[ez (h2 k (Nat.le_refl _) hlt)] at this
    cases this
  refine⟨fun h0=>(by rw[h0] at hready;cases hready),fun i hi=>?_⟩
  obtain rfl:=only i hi
  obtain⟨_,o,ho,hall⟩:=mem_ready.1 hi
  have hdrop:ops.toList.drop i=ops[i]::ops.toList.drop (i+1):=by
   rw[List.drop_eq_getElem_cons (by simpa using hlt)]
   simp
  rw[hdrop] at h
  have hstep:wpOpIn (FW r) 0 P ops Q i (wpListIn (FW r) 0 P ops Q (ops.toList.drop (i+1))) a w:=by
   unfold wpOpIn
   simp only[hok]
   rw[wpListIn] at h
   exact h
  refine wpOpIn_mono (fun a' w' h'=>hZ m hchk d (i+1) (by omega) (by omega) _ a' w' ?_ ?_ (by simpa using hsz) ?_ h') hstep
  ·intro j hj
   by_cases hji:j=i
   ·subst hji
    simp[hsz,hlt]
   ·exact getD_set_true (h1 j (by omega))
  ·intro j hj hj'
   rw[getD_set_ne true (by omega)]
   exact h2 j (by omega) hj'
  ·exact hld.set fun o' ho' e he hb=>by
    rw[ho] at ho'
    obtain rfl:=Option.some.inj ho'
    exact hall e he hb

def aV (ops:Array Oper)(L:(bf Γ))(As:Nat→(VAr Γ))(k:Nat):Nat→(bf Γ)
 | 0=>L
 | j+1=>push (aS ops (k+j)) (As j) (aV ops L As k j)

theorem ia (ops:Array Oper)(L:(bf Γ))(A:(VAr Γ))(As:Nat→(VAr Γ))(k:Nat):∀j,
  aV ops L (fun i=>match i with|0=>A|i+1=>As i) k (j+1)=aV ops (push (aS ops k) A L) As (k+1) j
 | 0=>rfl
 | j+1=>by
  rw[aV,ia ops L A As k j,aV]
  rw[show k+(j+1)=k+1+j by omega]

theorem mS {K:(bf Γ)→Prop}:∀(M:List Oper) (k:Nat) (L:(bf Γ)),(∀j,j<M.length→ops[k+j]?=M[j]?)→ce P ops w0 M K L →
  ∃As:Nat→(VAr Γ),(∀j o,j<M.length→ops[k+j]?=some o→GOp P ops w0 (aV ops L As k j) o (As j))∧K (aV ops L As k M.length)
 | [],k,L,_,h=>⟨fun _=>ko,fun j o hj=>by simp at hj,h⟩
 | o::M,k,L,hM,⟨A,hA,hr⟩=>by
  have h0:ops[k]?=some o:=by simpa using hM 0 (by simp)
  have hd:aS ops k=o.dst:=by simp[aS,h0]
  obtain⟨As,h1,h2⟩:=mS M (k+1) (push o.dst A L) (fun j hj=>by
   have:=hM (j+1) (by simpa using hj)
   rw[show k+1+j=k+(j+1) by omega]
   simpa using this) hr
  refine⟨fun i=>match i with|0=>A|i+1=>As i,?_,?_⟩
  ·intro j o' hj ho'
   cases j with
   | zero=>
    rw[Nat.add_zero,h0] at ho'
    obtain rfl:=Option.some.inj ho'
    exact hA
   | succ j=>
    rw[ia,hd]
    exact h1 j o' (by simpa using hj) (by rw[show k+1+j=k+(j+1) by omega];exact ho')
  ·rw[List.length_cons,ia,hd]
   exact h2

theorem dO (L:(bf Γ))(As:Nat→(VAr Γ))(t:Nat)(B:(VAr Γ)):∀i,aI (aV ops L As 0 i) t=some B →
  (∃j,j<i∧aS ops j=some t∧B=As j)∨((∀j,j<i→aS ops j≠some t)∧aI L t=some B)
 | 0,h=>.inr ⟨fun j hj=>by omega,h⟩
 | i+1,h=>by
  rw[aV,Nat.zero_add] at h
  have rest:aI (aV ops L As 0 i) t=some B→aS ops i≠some t→(∃j,j<i+1∧aS ops j=some t∧B=As j)∨((∀j,j<i+1→aS ops j≠some t)∧aI L t=some B):=by
   intro h hne
   rcases dO L As t B i h with ⟨j,hj,hd,hB⟩|⟨hn,hl⟩
   ·exact .inl ⟨j,by omega,hd,hB⟩
   ·refine .inr ⟨fun j hj=>?_,hl⟩
    by_cases hji:j=i
    ·subst hji;exact hne
    ·exact hn j (by omega)
  cases hd:aS ops i with
  | none=>
   rw[hd] at h
   exact rest h (by simp[hd])
  | some d=>
   rw[hd] at h
   by_cases hdt:d=t
   ·subst hdt
    rw[push,cF] at h
    exact .inl ⟨i,by omega,hd,(Option.some.inj h).symm⟩
   ·rw[push,cG _ _ hdt] at h
    exact rest h (by simp[hd,hdt])

structure Inv (ops:Array Oper)(m n:Nat)(ds:List Deferred)(w0:World)(L:(bf Γ))(As:Nat→(VAr Γ))(listed:Array Bool)(a:Act)(w:World):Prop where
 ext:Γ w0 w
 size:a.tmps.size=n
 defers:a.defers=ds
 hL:∀t A,aI L t=some A→(∀j,j<m→aS ops j≠some t)→A.p (a.eval (.tmp t)) w
 hA:∀i,i<m→listed.getD i false=true→∀d,aS ops i=some d→(As i).p (a.eval (.tmp d)) w

theorem mT [Gro Γ]{m:Nat}{L:(bf Γ)}{As:Nat→(VAr Γ)}(hm:m≤ops.size)(hchk:∀i,i<m→dN ops m n i=true)(hchk2:∀i,m≤i→i<ops.size→da ops i=true)
  (hops:∀j o,j<m→ops[j]?=some o→GOp P ops w0 (aV ops L As 0 j) o (As j))
  (hend:∀a w,Γ w0 w→FrD n ds a w (aV ops L As 0 m)→wpListIn (FW r) 0 P ops Q (ops.toList.drop m) a w) :
  ∀(c:Nat) (listed:Array Bool) (a:Act) (w:World),(List.range m).countP (fun i => !listed.getD i true)=c→listed.size=ops.size →
   (∀j,m≤j→j<ops.size→listed.getD j true=false)→LD ops listed→Inv ops m n ds w0 L As listed a w→wpAnyIn (FW r) 0 P .any ops Q (c+(ops.size - m)) listed a w
 | 0,listed,a,w,hc,hsz,hun,hld,hi=>by
  have hall:∀j,j<m→listed.getD j false=true:=by
   intro j hj
   have:=(List.countP_eq_zero.1 hc) j (List.mem_range.2 hj)
   have hjl:j<listed.size:=by omega
   simpa[hjl] using this
  rw[Nat.zero_add]
  refine hZ m hchk2 (ops.size - m) m (by omega) (Nat.le_refl _) listed a w hall hun hsz hld (hend a w hi.ext ⟨hi.size,hi.defers,fun t A ht=>?_⟩)
  rcases dO L As t A m ht with ⟨j,hj,hd,rfl⟩|⟨hn,hl⟩
  ·exact hi.hA j hj (hall j hj) t hd
  ·exact hi.hL t A hl hn
 | c+1,listed,a,w,hc,hsz,hun,hld,hi=>by
  have facts:∀i o,i<m→ops[i]?=some o→(∀e∈o.after,Region.binds .any e=true→e.on<i)∧(∀d,o.dst=some d→d<n) ∧
    (∀t,t∈cU o∨bV ops o=some t→∀j,j<m→aS ops j=some t→bnd ops i j=true)∧(∀j,j<m→j≠i→∀d,o.dst=some d→aS ops j≠some d):=by
   intro i o hlt ho
   have:=hchk i hlt
   simp only[dN,ho,Bool.and_eq_true,Array.all_eq_true_iff_forall_mem,Bool.or_eq_true,Bool.not_eq_true',List.all_eq_true,List.mem_range,List.mem_append,Option.mem_toList] at this
   obtain⟨⟨⟨h1,h2⟩,h3⟩,h4⟩:=this
   refine⟨fun e he hb=>?_,fun d hd=>?_,fun t ht j hj hd=>?_,fun j hj hne d hd hd'=>?_⟩
   ·rcases h1 e he with h|h
    ·rw[hb] at h;cases h
    ·simpa[Nat.blt_eq] using h
   ·simpa[hd,Nat.blt_eq] using h2
   ·have:=h3 t ht j hj
    rcases this with h|h
    ·rw[hd] at h;simp at h
    ·exact h
   ·have:=h4 j hj
    rcases this with h|h
    ·exact hne (Nat.eq_of_beq_eq_true h)
    ·rw[hd,hd'] at h;simp at h
  have prog:∃i,i<m∧listed.getD i true=false∧∀j,j<i→listed.getD j true=true:=by
   have hex:∃i,i<m∧listed.getD i true=false:=by
    have hpos:0<(List.range m).countP (fun i => !listed.getD i true):=by omega
    obtain⟨i,hi,hb⟩:=List.countP_pos_iff.1 hpos
    exact⟨i,List.mem_range.1 hi,by simpa using hb⟩
   obtain⟨i,hlt,hb⟩:=hex
   induction i using Nat.strongRecOn with
   | _ i ih=>
    by_cases h:∃j,j<i∧listed.getD j true=false
    ·obtain⟨j,hj,hjb⟩:=h
     exact ih j hj (by omega) hjb
    ·refine⟨i,hlt,hb,fun j hj=>?_⟩
     cases hjb:listed.getD j true with
     | true=>rfl
     | false=>exact absurd ⟨j,hj,hjb⟩ h
  obtain⟨i0,hi0,hu0,hbelow⟩:=prog
  have hready:i0∈Region.ready .any ops listed:=by
   have ho:ops[i0]?=some (ops[i0]'(by omega)):=by simp
   refine mem_ready.2 ⟨hu0,_,ho,fun e he hb=>?_⟩
   have hlt:=(facts i0 _ hi0 ho).1 e he hb
   have:=hbelow _ hlt
   have hjl:e.on<listed.size:=by omega
   simpa[hjl] using this
  rw[show c+1+(ops.size - m)=(c+(ops.size - m))+1 by omega]
  refine⟨fun h0=>(by rw[h0] at hready;cases hready),fun i hir=>?_⟩
  obtain⟨hu,o,ho,hall⟩:=mem_ready.1 hir
  have hilt:i<ops.size:=(Array.getElem?_eq_some_iff.1 ho).1
  have listed_of_bnd:∀j,bnd ops i j=true→listed.getD j false=true:=by
   intro j hb
   simp only[bnd,ho] at hb
   obtain⟨e,he,hb⟩:=Array.any_eq_true'.1 hb
   simp only[Bool.and_eq_true] at hb
   have:=hall e he hb.1
   rwa [Nat.eq_of_beq_eq_true hb.2] at this
  have him:i<m:=by
   rcases Nat.lt_or_ge i m with h|h
   ·exact h
   ·have hc:=hchk2 i h hilt
    simp only[da,ho,Bool.and_eq_true,List.all_eq_true,List.mem_range] at hc
    have:=cov hld 12 i i0 (hc.2 i0 (by omega)) (fun o' ho' e he hb=>by
     rw[ho] at ho'
     obtain rfl:=Option.some.inj ho'
     exact hall e he hb)
    rw[ez hu0] at this
    cases this
  obtain⟨f1,f2,f3,f4⟩:=facts i o him ho
  have byLook:∀t,(t∈cU o∨bV ops o=some t)→∀B,aI (aV ops L As 0 i) t=some B→B.p (a.eval (.tmp t)) w:=by
   intro t ht B hB
   rcases dO L As t B i hB with ⟨j,hj,hd,rfl⟩|⟨hn,hl⟩
   ·exact hi.hA j (by omega) (listed_of_bnd j (f3 t ht j (by omega) hd)) t hd
   ·refine hi.hL t B hl fun j hj hd=>?_
    have hb:=f3 t ht j hj hd
    simp only[bnd,ho] at hb
    obtain⟨e,he,hb⟩:=Array.any_eq_true'.1 hb
    simp only[Bool.and_eq_true] at hb
    have hlt:=f1 e he hb.1
    rw[Nat.eq_of_beq_eq_true hb.2] at hlt
    exact hn j hlt hd
  have hg:=hops i o him ho a w hi.ext (fun x hx B hB=>by
   cases x with
   | tmp t=>exact byLook t (.inl (List.mem_filterMap.2 ⟨.tmp t,by simpa using hx,rfl⟩)) B hB
   | const v=>simp[opd] at hB;subst hB;rfl
   | global g=>simp[opd] at hB;subst hB;rfl
   | func f=>simp[opd] at hB;subst hB;rfl) (fun d B hd hB=>byLook d (.inr hd) B hB)
  have hdst:aS ops i=o.dst:=by simp[aS,ho]
  have step:∀v w',Γ w w'→(As i).p v w'→wpAnyIn (FW r) 0 P .any ops Q (c+(ops.size - m)) (listed.setIfInBounds i true) (a.put o.dst v) w':=by
   intro v w' hx hv
   refine mT hm hchk hchk2 hops hend c _ _ _ ?_ (by simpa using hsz) ?_ ?_ ?_
   ·have:=iU m (fun j => !listed.getD j true) (fun j => !(listed.setIfInBounds i true).getD j true) i him (by simp only[hu,Bool.not_false])
     (by
       have hjl:i<listed.size:=by omega
       simp[hjl]) (fun j hj=>by simp only[getD_set_ne true (Ne.symm hj)])
    omega
   ·intro j hj hj'
    rw[getD_set_ne true (by omega)]
    exact hun j hj hj'
   ·exact hld.set fun o' ho' e he hb=>by
     rw[ho] at ho'
     obtain rfl:=Option.some.inj ho'
     exact hall e he hb
   ·refine⟨Gro.tr hi.ext hx,by simp[hi.size],by simp[hi.defers],fun t A ht hn=>?_,fun j hj hl d hd=>?_⟩
    ·have h0:=A.st _ _ _ hx (hi.hL t A ht hn)
     cases hod:o.dst with
     | none=>exact h0
     | some d=>
      have:d≠t:=fun e=>hn i him (by rw[hdst,hod,e])
      rw[ev this]
      exact h0
    ·by_cases hji:j=i
     ·subst hji
      rw[hdst] at hd
      rw[hd,hY (by rw[hi.size];exact f2 d hd)]
      exact hv
     ·have hl':listed.getD j false=true:=by rwa [getD_set_ne false (Ne.symm hji)] at hl
      have h0:=(As j).st _ _ _ hx (hi.hA j hj hl' d hd)
      cases hod:o.dst with
      | none=>exact h0
      | some d'=>
       have:d'≠d:=fun e=>f4 j hj hji d' hod (by rw[hd,e])
       rw[ev this]
       exact h0
  unfold wpOpIn
  simp only[ho]
  split
  ·rename_i hw
   rw[if_pos hw] at hg
   exact (hg.wp fun v w' hv=>step v w' hv.1 hv.2)
  ·rename_i hw
   rw[if_neg hw] at hg
   exact⟨fun _ _=>trivial,step undef w (Gro.rfl' _) hg⟩
theorem sK [Gro Γ]{id:Nat}{draw:Bool}{M S:List Oper}{L:(bf Γ)}{a:Act}{w:World}(hmix:P.follows .mixedOrders=true)(hchk:chk (M++S).toArray M.length n=true)(hf:FrD n ds a w L)
  (h:ce P (M++S).toArray w M (fun L'=>∀a' w',Γ w w'→FrD n ds a' w' L'→wpListIn (FW r) 0 P (M++S).toArray Q S a' w') L):(Code.region id (M++S).toArray draw).wpIn (FW r) 0 P Q a w:=by
 simp only[chk,Bool.and_eq_true,List.all_eq_true,List.mem_range,Bool.or_eq_true] at hchk
 obtain⟨⟨hm,h1⟩,h2⟩:=hchk
 have hm:M.length≤(M++S).toArray.size:=by simp
 cases draw with
 | false=>
  refine wpIn_region_list ?_
  refine kq S M L a w (fun o ho k hk=>?_) (Gro.rfl' _) hf h
  obtain⟨i,hi,rfl⟩:=List.mem_iff_getElem.1 ho
  have:=h1 i hi
  have ho':(M++S).toArray[i]?=some M[i]:=by rw[List.getElem?_toArray,List.getElem?_append_left hi];simp
  simp only[dN,ho',Bool.and_eq_true,hk,Nat.blt_eq] at this
  exact this.1.1.2
 | true=>
  refine wpIn_region_any hmix ?_
  obtain⟨As,hAs,hK⟩:=mS M 0 L (fun j hj=>by rw[Nat.zero_add,List.getElem?_toArray,List.getElem?_append_left hj]) h
  have hext:Γ w { w with drawn:=w.drawn+1 }:=Gro.drew w
  have:=mT (P:=P) (ops:=(M++S).toArray) (Q:=Q) (w0:=w) (n:=n) (ds:=ds) (m:=M.length) (L:=L) (As:=As) hm h1 (fun i hi hi'=>by
    rcases h2 i hi' with h|h
    ·simp only[Nat.blt_eq] at h;omega
    ·exact h) (fun j o hj ho=>hAs j o hj (by simpa using ho)) (fun a w hx hf=>by simpa using hK a w hx hf) M.length
   (Array.replicate (M++S).toArray.size false) a { w with drawn:=w.drawn+1 } ?_ (by simp) ?_ ?_ ⟨hext,hf.size,hf.defers,fun t A ht _=>A.st _ _ _ hext (hf.val t A ht),fun i hi hl=>?_⟩
  ·rwa [show M.length+((M++S).toArray.size - M.length)=(M++S).toArray.size by simp] at this
  ·have:(List.range M.length).countP (fun i => !(Array.replicate (M++S).toArray.size false).getD i true)=(List.range M.length).length:=by
    refine List.countP_eq_length.2 fun i hi=>?_
    have:=List.mem_range.1 hi
    have hlt:i<M.length+S.length:=by omega
    simp[hlt]
   simpa using this
  ·intro j _ hj
   have hlt:j<M.length+S.length:=by simpa using hj
   simp[hlt]
  ·intro i o hl
   have:(Array.replicate (M++S).toArray.size false).getD i false=false:=by
    by_cases hlt:i<M.length+S.length <;> simp[hlt]
   rw[this] at hl;cases hl
  ·have:(Array.replicate (M++S).toArray.size false).getD i false=false:=by
    by_cases hlt:i<M.length+S.length <;> simp[hlt]
   rw[this] at hl;cases hl
theorem reg [Gro Γ]{id:Nat}{draw:Bool}{ops:Array Oper}{L:(bf Γ)}{a:Act}{w:World}(m:Nat)(hmix:P.follows .mixedOrders=true)(hf:FrD n ds a w L)(hchk:chk ops m n=true)
  (h:ce P ops w (ops.toList.take m) (fun L'=>∀a' w',Γ w w'→FrD n ds a' w' L'→wpListIn (FW r) 0 P ops Q (ops.toList.drop m) a' w') L):(Code.region id ops draw).wpIn (FW r) 0 P Q a w:=by
 have e:(ops.toList.take m++ops.toList.drop m).toArray=ops:=by simp
 have hl:(ops.toList.take m).length=m:=by
  simp only[chk,Bool.and_eq_true,Nat.ble_eq] at hchk
  simp
  omega
 have:=sK (P:=P) (Q:=Q) (n:=n) (ds:=ds) (id:=id) (draw:=draw) (M:=ops.toList.take m) (S:=ops.toList.drop m) (L:=L) (a:=a) (w:=w) hmix (by rw[e,hl];exact hchk) hf (by rw[e];exact h)
 rwa [e] at this
theorem ac [Gro Γ]{id:Nat}{ops:Array Oper}{L:(bf Γ)}{a:Act}{w:World}(m:Nat)(hf:FrD n ds a w L)(hchk:((ops.toList.take m).all fun o=>match o.dst with|some d=>Nat.blt d n|none=>true)=true)
  (h:ce P ops w (ops.toList.take m) (fun L'=>∀a' w',Γ w w'→FrD n ds a' w' L'→wpListIn (FW r) 0 P ops Q (ops.toList.drop m) a' w') L):(Code.region id ops false).wpIn (FW r) 0 P Q a w:=by
 have e:ops.toList.take m++ops.toList.drop m=ops.toList:=by simp
 refine wpIn_region_list ?_
 rw[← e]
 refine kq (ops.toList.drop m) (ops.toList.take m) L a w (fun o ho k hk=>?_) (Gro.rfl' _) hf h
 have:=List.all_eq_true.1 hchk o ho
 simpa[hk,Nat.blt_eq] using this
theorem aj {id:Nat}{ops:Array Oper}{a:Act}{w:World}(h:wpListIn (FW r) 0 P ops Q ops.toList a w):(Code.region id ops false).wpIn (FW r) 0 P Q a w:=wpIn_region_list h
end reg
class Ug (w w':World)(P:Prop)(P':outParam Prop):Prop where
 up:Ext w w'→P→P'
class Gg (b:Nat)(w w':World)(P:Prop)(S P':outParam Prop):Prop where
 gr:w.grownBy w' (some b)→S→P→P'
section
variable {W w w':World}{b N:Nat}
instance:Ug w w' (Ext W w) (Ext W w'):=⟨fun e h=>h.tr e⟩
instance {A:VA}{v:Value}:Ug w w' (A.p v w) (A.p v w'):=⟨fun e h=>A.st _ _ _ e h⟩
instance:Ug w w' (N≤w.heap.size) (N≤w'.heap.size):=⟨fun e h=>Nat.le_trans h e.size⟩
instance:Gg b w w' (N≤w.heap.size) (0=0) (N≤w'.heap.size):=⟨fun g _ h=>Nat.le_trans h g.size⟩
variable {P1 Q1 P2 Q2 P3 Q3 P4 Q4 P5 Q5 P6 Q6 P7 Q7 P8 Q8 P9 Q9:Prop}
variable {S1 S2 S3 S4 S5 S6 S7 S8 S9:Prop}
end
end Go.Mono
namespace Go.Mono
open Go Go.RowKit
variable {Γ:World→World→Prop}

variable {P:Program}{w0:World}{L:(bf Γ)}{dst:Option Tmp}{ty:TypeId}{pos:String}{aft:Array Edge}{g:Option (Nat×Bool)}{r:Option Nat}{ds:List Deferred}
theorem aQ [Gro Γ]{o:Oper}{A:(VAr Γ)}(h:∀ρ w,Γ w0 w→(∀x∈o.op.operands,∀B,opd L x=some B→B.p (ρ x) w)→∃v,(execOp ρ o).run P w=.ok (.value v) w∧A.p v w):OpC P w0 L o A:=by
 refine⟨fun ρ w he hv=>?_⟩
 obtain⟨v,h1,h2⟩:=h ρ w he hv
 simp only[OpR,h1]
 exact⟨Gro.rfl' _,h2⟩

theorem opE {ρ:Operand→Value}{w:World}{o:Oper}(hv:∀x∈o.op.operands,∀B,opd L x=some B→B.p (ρ x) w){x:Operand}{v:Value}(hx:x∈o.op.operands)(h:opd L x=some (ER v)):ρ x=v:=hv x hx _ h

theorem mv [Gro Γ]{x:Operand}{A:(VAr Γ)}(h:opd L x=some A):OpC P w0 L ⟨dst,.move x,ty,pos,aft,g⟩ A:=
 aQ fun ρ w _ hv=>⟨ρ x,rfl,hv x (by simp[Op.operands]) A h⟩
theorem asg [Gro Γ]{x:Operand}{A:(VAr Γ)}(h:opd L x=some A):OpC P w0 L ⟨dst,.assign x,ty,pos,aft,g⟩ A:=
 aQ fun ρ w _ hv=>⟨ρ x,rfl,hv x (by simp[Op.operands]) A h⟩

theorem pkT [Gro Γ]{c x y:Operand}{A:(VAr Γ)}(hc:opd L c=some (ER (.bool true)))(hx:opd L x=some A):OpC P w0 L ⟨dst,.pick c x y,ty,pos,aft,g⟩ A:=
 aQ fun ρ w _ hv=>by
  have h1:=opE hv (x:=c) (by simp[Op.operands]) hc
  exact⟨ρ x,by simp[execOp,h1,asBool],hv x (by simp[Op.operands]) A hx⟩
theorem pkF [Gro Γ]{c x y:Operand}{A:(VAr Γ)}(hc:opd L c=some (ER (.bool false)))(hy:opd L y=some A):OpC P w0 L ⟨dst,.pick c x y,ty,pos,aft,g⟩ A:=
 aQ fun ρ w _ hv=>by
  have h1:=opE hv (x:=c) (by simp[Op.operands]) hc
  exact⟨ρ y,by simp[execOp,h1,asBool],hv y (by simp[Op.operands]) A hy⟩

theorem bj [Gro Γ]{x:Operand}{t:TypeId}{b:Bool}(h:opd L x=some (ER (.bool b))):OpC P w0 L ⟨dst,.unOp .not t x,ty,pos,aft,g⟩ (ER (.bool !b)):=
 aQ fun ρ w _ hv=>by
  have h1:=opE hv (x:=x) (by simp[Op.operands]) h
  exact⟨_,by simp[execOp,h1,Op.unary],rfl⟩

section num
variable {x y:Operand}{k:IntKind}{a b:Int}{t yt:TypeId}

theorem bW [Gro Γ]{op:BinOp}{v:Value}(hop:(binOp op t (.int k a) (.int k b))=pure v)(hx:opd L x=some (ER (.int k a)))(hy:opd L y=some (ER (.int k b))) :
  OpC P w0 L ⟨dst,.binOp op t x y yt,ty,pos,aft,g⟩ (ER v):=
 aQ fun ρ w _ hv=>by
  have h1:=opE hv (x:=x) (by simp[Op.operands]) hx
  have h2:=opE hv (x:=y) (by simp[Op.operands]) hy
  refine⟨v,?_,rfl⟩
  have hg:(eqGuard op t x y (.int k a) (.int k b)).run P w=.ok () w:=by
   unfold eqGuard
   split <;> rfl
  simp[execOp,h1,h2,hg,hop]

theorem add [Gro Γ](hx:opd L x=some (ER (.int .i64 a)))(hy:opd L y=some (ER (.int .i64 b)))(h : -9223372036854775808≤a+b∧a+b≤9223372036854775807) :
  OpC P w0 L ⟨dst,.binOp .add t x y yt,ty,pos,aft,g⟩ (ER (.int .i64 (a+b))):=
 bW (by simp[binOp,Op.intArith,IntWalk.i64_in _ h]) hx hy
theorem sub [Gro Γ](hx:opd L x=some (ER (.int .i64 a)))(hy:opd L y=some (ER (.int .i64 b)))(h : -9223372036854775808≤a - b∧a - b≤9223372036854775807) :
  OpC P w0 L ⟨dst,.binOp .sub t x y yt,ty,pos,aft,g⟩ (ER (.int .i64 (a - b))):=
 bW (by simp[binOp,Op.intArith,IntWalk.i64_in _ h]) hx hy
theorem mul [Gro Γ](hx:opd L x=some (ER (.int .i64 a)))(hy:opd L y=some (ER (.int .i64 b)))(h : -9223372036854775808≤a * b∧a * b≤9223372036854775807) :
  OpC P w0 L ⟨dst,.binOp .mul t x y yt,ty,pos,aft,g⟩ (ER (.int .i64 (a * b))):=
 bW (by simp[binOp,Op.intArith,IntWalk.i64_in _ h]) hx hy
theorem quo [Gro Γ](hx:opd L x=some (ER (.int .i64 a)))(hy:opd L y=some (ER (.int .i64 b)))(h:0≤a∧a≤9223372036854775807∧0<b) :
  OpC P w0 L ⟨dst,.binOp .quo t x y yt,ty,pos,aft,g⟩ (ER (.int .i64 (a / b))):=by
 refine bW ?_ hx hy
 have h1:a.tdiv b=a / b:=Int.tdiv_eq_ediv_of_nonneg h.1
 have h2:0≤a / b:=Int.ediv_nonneg h.1 (by omega)
 have h3:a / b≤a:=Int.ediv_le_self b h.1
 have hb:b≠0:=by omega
 simp[binOp,Op.intDiv,hb,h1,IntWalk.i64_in (a / b) (by omega)]
theorem rem [Gro Γ](hx:opd L x=some (ER (.int .i64 a)))(hy:opd L y=some (ER (.int .i64 b)))(h:0≤a∧0<b) :
  OpC P w0 L ⟨dst,.binOp .rem t x y yt,ty,pos,aft,g⟩ (ER (.int .i64 (a % b))):=by
 refine bW ?_ hx hy
 have h1:a.tmod b=a % b:=Int.tmod_eq_emod_of_nonneg h.1
 have hb:b≠0:=by omega
 simp[binOp,Op.intDiv,hb,h1]

theorem eql [Gro Γ](hx:opd L x=some (ER (.int k a)))(hy:opd L y=some (ER (.int k b))):OpC P w0 L ⟨dst,.binOp .eql t x y yt,ty,pos,aft,g⟩ (ER (.bool (a==b))):=
 bW (by simp[binOp,Op.intCmp]) hx hy
theorem neq [Gro Γ](hx:opd L x=some (ER (.int k a)))(hy:opd L y=some (ER (.int k b))):OpC P w0 L ⟨dst,.binOp .neq t x y yt,ty,pos,aft,g⟩ (ER (.bool (a != b))):=
 bW (by simp[binOp,Op.intCmp]) hx hy
theorem lss [Gro Γ](hx:opd L x=some (ER (.int k a)))(hy:opd L y=some (ER (.int k b))):OpC P w0 L ⟨dst,.binOp .lss t x y yt,ty,pos,aft,g⟩ (ER (.bool (decide (a<b)))):=
 bW (by simp[binOp,Op.intCmp]) hx hy
theorem leq [Gro Γ](hx:opd L x=some (ER (.int k a)))(hy:opd L y=some (ER (.int k b))):OpC P w0 L ⟨dst,.binOp .leq t x y yt,ty,pos,aft,g⟩ (ER (.bool (decide (a≤b)))):=
 bW (by simp[binOp,Op.intCmp]) hx hy
theorem gtr [Gro Γ](hx:opd L x=some (ER (.int k a)))(hy:opd L y=some (ER (.int k b))):OpC P w0 L ⟨dst,.binOp .gtr t x y yt,ty,pos,aft,g⟩ (ER (.bool (decide (b<a)))):=
 bW (by simp[binOp,Op.intCmp]) hx hy
theorem geq [Gro Γ](hx:opd L x=some (ER (.int k a)))(hy:opd L y=some (ER (.int k b))):OpC P w0 L ⟨dst,.binOp .geq t x y yt,ty,pos,aft,g⟩ (ER (.bool (decide (b≤a)))):=
 bW (by simp[binOp,Op.intCmp]) hx hy
end num
theorem iV [Gro Γ]{x y:Operand}{t yt:TypeId}{u v:Value}{b:Bool}(hx:opd L x=some (ER u))(hy:opd L y=some (ER v))(hn:∀w,(eqGuard .eql t x y u v).run P w=.ok () w)
  (hop:binOp .eql t u v=(do pure (.bool (← Op.equal t u v)))) (he:∀w,Γ w0 w→(Op.equal t u v).run P w=.ok b w):OpC P w0 L ⟨dst,.binOp .eql t x y yt,ty,pos,aft,g⟩ (ER (.bool b)):=
 aQ fun ρ w hw hv=>by
  have h1:=opE hv (x:=x) (by simp[Op.operands]) hx
  have h2:=opE hv (x:=y) (by simp[Op.operands]) hy
  exact⟨_,by simp only[execOp,h1,h2,Sem.run_bind,hn w,Result.andThen_ok,hop,he w hw,Sem.run_pure],rfl⟩
theorem sL [Gro Γ]{x y:Operand}{t yt:TypeId}{u v:Value}{b:Bool}(hx:opd L x=some (ER u))(hy:opd L y=some (ER v))(hn:∀w,(eqGuard .neq t x y u v).run P w=.ok () w)
  (hop:binOp .neq t u v=(do pure (.bool (!(← Op.equal t u v))))) (he:∀w,Γ w0 w→(Op.equal t u v).run P w=.ok b w):OpC P w0 L ⟨dst,.binOp .neq t x y yt,ty,pos,aft,g⟩ (ER (.bool !b)):=
 aQ fun ρ w hw hv=>by
  have h1:=opE hv (x:=x) (by simp[Op.operands]) hx
  have h2:=opE hv (x:=y) (by simp[Op.operands]) hy
  exact⟨_,by simp only[execOp,h1,h2,Sem.run_bind,hn w,Result.andThen_ok,hop,he w hw,Sem.run_pure],rfl⟩
def Tup (As:List (VAr Γ)):(VAr Γ):=⟨fun v w=>∃vs:List Value,v=.tuple vs.toArray∧vs.length=As.length∧∀(i:Nat) (A:(VAr Γ)),As[i]?=some A→A.p (vs.getD i undef) w,
 fun _ w w' e ⟨vs,h1,h2,h3⟩=>⟨vs,h1,h2,fun i (A:(VAr Γ)) h=>A.st _ w w' e (h3 i A h)⟩⟩

theorem aY [Gro Γ]{x:Operand}{As:List (VAr Γ)}{i:Nat}{A:(VAr Γ)}(hx:opd L x=some (Tup As))(hi:As[i]?=some A):OpC P w0 L ⟨dst,.extract x i,ty,pos,aft,g⟩ A:=
 aQ fun ρ w _ hv=>by
  obtain⟨vs,h1,h2,h3⟩:=hv x (by simp[Op.operands]) _ hx
  have hlt:i<vs.length:=by have:=(List.getElem?_eq_some_iff.1 hi).1;omega
  exact⟨vs.getD i undef,by simp[execOp,h1,Instr.extract,hlt],h3 i A hi⟩

theorem Tup.two {A B:(VAr Γ)}{u v:Value}{w:World}(h1:A.p u w)(h2:B.p v w):(Tup [A,B]).p (.tuple #[u,v]) w:=
 ⟨[u,v],rfl,rfl,fun i C h=>by
  match i with
  | 0=>simp at h;subst h;exact h1
  | 1=>simp at h;subst h;exact h2
  | i+2=>simp at h⟩
theorem Tup.three {A B C:(VAr Γ)}{u v x:Value}{w:World}(h1:A.p u w)(h2:B.p v w)(h3:C.p x w):(Tup [A,B,C]).p (.tuple #[u,v,x]) w:=
 ⟨[u,v,x],rfl,rfl,fun i D h=>by
  match i with
  | 0=>simp at h;subst h;exact h1
  | 1=>simp at h;subst h;exact h2
  | 2=>simp at h;subst h;exact h3
  | i+3=>simp at h⟩

abbrev fH (A:(VAr Γ))(w:World):Ending→World→Prop:=fun e w'=>∃v,e=.returned v∧Γ w w'∧A.p v w'
abbrev Post (A:VA)(w:World):Ending→World→Prop:=fH A w

theorem ib {f:FuncId}{xs:Array Operand}{tys:Array TypeId}{A:(VAr Γ)}(hf:Proofs.Enters P f)
  (h:∀ρ w,Γ w0 w→(∀x∈(Op.call ⟨.value (.func f),xs,tys⟩).operands,∀B,opd L x=some B→B.p (ρ x) w)→Calls P f (xs.map ρ) w (fH A w)) :
  OpC P w0 L ⟨dst,.call ⟨.value (.func f),xs,tys⟩,ty,pos,aft,g⟩ A:=by
 refine⟨fun ρ w he hv=>?_⟩
 have hfv:ρ (.func f)=.func (.func f) #[] #[]:=hv (.func f) (by simp[Op.operands,Call.operands]) _ rfl
 have hrun:(execOp ρ ⟨dst,.call ⟨.value (.func f),xs,tys⟩,ty,pos,aft,g⟩).run P w=.ok (.enter f (xs.map ρ)) w:=by
  simp[execOp,resolve,hfv,Deferred.ofValue,invoke,hf (xs.map ρ) w]
 simp only[OpR,hrun]
 exact h ρ w he hv

theorem gf {f:FuncId}{tys:Array TypeId}{A:(VAr Γ)}(hf:Proofs.Enters P f)(h:∀w,Γ w0 w→Calls P f #[] w (fH A w)) :
  OpC P w0 L ⟨dst,.call ⟨.value (.func f),#[],tys⟩,ty,pos,aft,g⟩ A:=
 ib hf fun ρ w he hv=>by simpa using h w he
theorem aw {f:FuncId}{x:Operand}{tys:Array TypeId}{A B:(VAr Γ)}(hf:Proofs.Enters P f)(hx:opd L x=some B)(h:∀v w,Γ w0 w→B.p v w→Calls P f #[v] w (fH A w)) :
  OpC P w0 L ⟨dst,.call ⟨.value (.func f),#[x],tys⟩,ty,pos,aft,g⟩ A:=
 ib hf fun ρ w he hv=>by simpa using h (ρ x) w he (hv x (by simp[Op.operands,Call.operands]) _ hx)
theorem aD {f:FuncId}{x y:Operand}{tys:Array TypeId}{A B C:(VAr Γ)}(hf:Proofs.Enters P f)(hx:opd L x=some B)(hy:opd L y=some C)
  (h:∀v u w,Γ w0 w→B.p v w→C.p u w→Calls P f #[v,u] w (fH A w)) :
  OpC P w0 L ⟨dst,.call ⟨.value (.func f),#[x,y],tys⟩,ty,pos,aft,g⟩ A:=
 ib hf fun ρ w he hv=>by simpa using h (ρ x) (ρ y) w he (hv x (by simp[Op.operands,Call.operands]) _ hx) (hv y (by simp[Op.operands,Call.operands]) _ hy)
theorem fI {f:FuncId}{x y z:Operand}{tys:Array TypeId}{A B C D:(VAr Γ)}(hf:Proofs.Enters P f)(hx:opd L x=some B)(hy:opd L y=some C)(hz:opd L z=some D)
  (h:∀v u s w,Γ w0 w→B.p v w→C.p u w→D.p s w→Calls P f #[v,u,s] w (fH A w)) :
  OpC P w0 L ⟨dst,.call ⟨.value (.func f),#[x,y,z],tys⟩,ty,pos,aft,g⟩ A:=
 ib hf fun ρ w he hv=>by
  simpa using h (ρ x) (ρ y) (ρ z) w he (hv x (by simp[Op.operands,Call.operands]) _ hx) (hv y (by simp[Op.operands,Call.operands]) _ hy) (hv z (by simp[Op.operands,Call.operands]) _ hz)

section guards
variable {ops:Array Oper}{rest:List Oper}{K:(bf Γ)→Prop}{A:(VAr Γ)}{op:Op}{dd:Nat}
theorem st (h:OpC P w0 L ⟨some dd,op,ty,pos,aft,none⟩ A)(k:ce P ops w0 rest K ((dd,A)::L)):ce P ops w0 (⟨some dd,op,ty,pos,aft,none⟩::rest) K L:=
 ⟨A,fun a w he hv _=>by simp only[Region.wanted,if_true];exact h.out _ w he hv,k⟩
theorem iW {a:Act}{d:Nat}{b:Bool}{i:Nat}(hd:(ops[i]?).bind (·.dst)=some d)(h:a.eval (.tmp d)=.bool b):yielded ops a.tmps i=some b:=by
 unfold yielded
 rw[hd]
 simp only[Act.eval] at h
 have:a.tmps[d]?=some (.bool b):=by
  cases hh:a.tmps[d]? with
  | none=>simp[hh,undef] at h
  | some v=>simpa[hh] using h
 simp[this]
theorem sy {i d:Nat}{want:Bool}(hd:(ops[i]?).bind (·.dst)=some d)(hl:aI L d=some (ER (.bool want)))
  (h:OpC P w0 L ⟨some dd,op,ty,pos,aft,some (i,want)⟩ A) (k:ce P ops w0 rest K ((dd,A)::L)):ce P ops w0 (⟨some dd,op,ty,pos,aft,some (i,want)⟩::rest) K L:=
 ⟨A,fun a w he hv hgd=>by
  have h1:a.eval (.tmp d)=.bool want:=hgd d _ (by simp[bV,hd]) hl
  have h2:=iW (ops:=ops) hd h1
  simp only[Region.wanted,h2,beq_self_eq_true,if_true]
  exact h.out _ w he hv,k⟩
theorem sn {i d:Nat}{want b:Bool}(hd:(ops[i]?).bind (·.dst)=some d)(hl:aI L d=some (ER (.bool b)))(hb:b = !want)
  (k:ce P ops w0 rest K ((dd,ER undef)::L)):ce P ops w0 (⟨some dd,op,ty,pos,aft,some (i,want)⟩::rest) K L:=
 ⟨ER undef,fun a w he hv hgd=>by
  have h1:a.eval (.tmp d)=.bool b:=hgd d _ (by simp[bV,hd]) hl
  have h2:=iW (ops:=ops) hd h1
  have h3:(some b==some want)=false:=by subst hb;cases want <;> rfl
  simp only[Region.wanted,h2,h3]
  rfl,k⟩
theorem su {i d:Nat}{want:Bool}(hd:(ops[i]?).bind (·.dst)=some d)(hl:aI L d=some (ER undef))
  (k:ce P ops w0 rest K ((dd,ER undef)::L)):ce P ops w0 (⟨some dd,op,ty,pos,aft,some (i,want)⟩::rest) K L:=
 ⟨ER undef,fun a w he hv hgd=>by
  have h1:a.eval (.tmp d)=undef:=hgd d _ (by simp[bV,hd]) hl
  have h2:yielded ops a.tmps i=none:=by
   unfold yielded
   rw[hd]
   simp only[Act.eval] at h1
   cases hh:a.tmps[d]? with
   | none=>simp[hh]
   | some v=>simp[hh] at h1;subst h1;simp[hh,undef]
  simp only[Region.wanted,h2]
  rfl,k⟩
theorem en (h:K L):ce P ops w0 [] K L:=h
end guards

section tail
variable {ops:Array Oper}{rest:List Oper}{Q:Exit→Act→World→Prop}{n:Nat}{a:Act}{w:World}

theorem aa (h:Q .normal a w):wpListIn (FW r) 0 P ops Q [] a w:=h
theorem aB [Gro Γ]{op:Op}{d:Nat}{A:(VAr Γ)}(hf:FrD n ds a w L)(hd:d<n)(h:OpC P w L ⟨some d,op,ty,pos,aft,none⟩ A)
  (k:∀a' w',Γ w w'→FrD n ds a' w' ((d,A)::L)→wpListIn (FW r) 0 P ops Q rest a' w'):wpListIn (FW r) 0 P ops Q (⟨some d,op,ty,pos,aft,none⟩::rest) a w:=
 wpListIn_plain rfl fun K hK=>(h.out a.eval w (Gro.rfl' _) (fun x _ B hB=>hf.opd x B hB)).wp fun v w' hv=>hK _ _ (k _ _ hv.1 (hf.put (d:=some d) hv.1 (fun k hk=>by cases hk;exact hd) hv.2))
theorem ae [Gro Γ]{x:Operand}{A:(VAr Γ)}{d:Nat}(hf:FrD n ds a w L)(h:opd L x=some A)(hd:d<n)(k:∀a',FrD n ds a' w ((d,A)::L)→wpListIn (FW r) 0 P ops Q rest a' w) :
  wpListIn (FW r) 0 P ops Q (⟨some d,.assign x,ty,pos,aft,none⟩::rest) a w:=
 wpListIn_plain rfl fun K hK=>by
  refine OpR.wp (R:=fun v w'=>w'=w∧v=a.eval x) (by simp[OpR,execOp]) ?_
  rintro v w' ⟨rfl,rfl⟩
  exact hK _ _ (k _ (hf.put (d:=some d) (Gro.rfl' _) (fun k hk=>by cases hk;exact hd) (hf.opd x A h)))
end tail

def keep (ks:List Nat)(L:(bf Γ)):(bf Γ):=ks.filterMap fun k=>(aI L k).map fun A=>(k,A)
theorem kr (L:(bf Γ)):∀(ks:List Nat) t A,aI (keep ks L) t=some A→aI L t=some A
 | [],t,A,h=>by simp[keep,aI] at h
 | k::ks,t,A,h=>by
  simp only[keep,List.filterMap_cons] at h
  cases hk:aI L k with
  | none=>rw[hk] at h;exact kr L ks t A h
  | some B=>
   rw[hk] at h
   simp only[Option.map_some] at h
   by_cases hkt:k=t
   ·subst hkt
    rw[cF] at h
    rw[hk];exact h
   ·rw[cG _ _ hkt] at h
    exact kr L ks t A h
theorem FrD.keep {n:Nat}{a:Act}{w:World}(h:FrD n ds a w L)(ks:List Nat):FrD n ds a w (Mono.keep ks L):=
 ⟨h.size,h.defers,fun t A ht=>h.val t A (kr L ks t A ht)⟩
theorem FrD.kp {n:Nat}{a:Act}{w:World}(h:FrD n ds a w L)(ks:List Nat){L':bf Γ}(hL:Mono.keep ks L=L':=by dsimp only[keep,List.filterMap,aI,Nat.beq,Option.map] <;> rfl):FrD n ds a w L':=hL▸h.keep ks
theorem FrD.cons {n:Nat}{a:Act}{w:World}{k:Nat}{A:(VAr Γ)}(hv:A.p (a.eval (.tmp k)) w)(h:FrD n ds a w L):FrD n ds a w ((k,A)::L):=
 ⟨h.size,h.defers,fun t B ht=>by
  by_cases hkt:k=t
  ·subst hkt;rw[cF] at ht;cases ht;exact hv
  ·rw[cG _ _ hkt] at ht;exact h.val t B ht⟩
theorem FrD.nil {n:Nat}{a:Act}{w:World}(h:FrD n ds a w L):FrD n ds a w ([]:bf Γ):=⟨h.size,h.defers,fun t A ht=>by simp[aI] at ht⟩
theorem FrD.weak {n:Nat}{a:Act}{w:World}{k:Nat}{A B:(VAr Γ)}(h:FrD n ds a w ((k,A)::L))(hAB:∀v,A.p v w→B.p v w):FrD n ds a w ((k,B)::L):=
 ⟨h.size,h.defers,fun t C ht=>by
  by_cases hkt:k=t
  ·subst hkt;rw[cF] at ht;cases ht;exact hAB _ (h.val k A (cF _ _ _))
  ·rw[cG _ _ hkt] at ht;exact h.val t C (by rw[cG _ _ hkt];exact ht)⟩

theorem least {p:Nat→Prop}(h:∃n,p n):∃n,p n∧∀m,m<n→¬p m:=by
 obtain⟨n,hn⟩:=h
 induction n using Nat.strongRecOn with
 | _ n ih=>
  by_cases hm:∃m,m<n∧p m
  ·obtain⟨m,hm,hp⟩:=hm
   exact ih m hm hp
  ·exact⟨n,hn,fun m hlt hp=>hm ⟨m,hlt,hp⟩⟩
open Classical in
theorem aW {ro:Option Nat}{c:Code}{Q:Exit→Act→World→Prop}{a:Act}{w:World}(J:Nat→Act→World→Prop)(k:Nat)(h0:J k a w)
  (round:∀r a w,J r a w→c.wpIn (FW ro) 0 P (Exit.then (fun a' w'=>∃m,m<r∧J m a' w') Q) a w):(Code.loop c).wpIn (FW ro) 0 P Q a w:=by
 refine wpIn_loop (fun a w=>∃r,J r a w) (fun a w=>if h:∃r,J r a w then Classical.choose (least h) else 0) ⟨k,h0⟩ fun a w hJ=>?_
 have hs:=Classical.choose_spec (least hJ)
 refine wpIn_mono (round _ a w hs.1) fun e a' w' hq=>?_
 cases e with
 | normal=>
  obtain⟨m,hm,hJm⟩:=hq
  refine⟨⟨m,hJm⟩,?_⟩
  have h':∃r,J r a' w':=⟨m,hJm⟩
  have hs':=Classical.choose_spec (least h')
  simp only[dif_pos h',dif_pos hJ]
  rcases Nat.lt_or_ge m (Classical.choose (least h')) with hlt|hge
  ·exact absurd hJm (hs'.2 m hlt)
  ·omega
 | _=>exact hq
theorem blk {c:Code}{id:Nat}{Q:Exit→Act→World→Prop}{a:Act}{w:World}(h:c.wpIn (FW r) 0 P (Exit.inBlock id Q) a w):(Code.block id c).wpIn (FW r) 0 P Q a w:=wpIn_block h

def params:Nat→List (VAr Γ)→(bf Γ)
 | _,[]=>[]
 | k,A::As=>(k,A)::params (k+1) As
theorem kt:∀(As:List (VAr Γ)) (k t:Nat) (A:(VAr Γ)),aI (params k As) t=some A→k≤t∧As[t - k]?=some A
 | [],k,t,A,h=>by simp[params,aI] at h
 | B::As,k,t,A,h=>by
  by_cases hkt:k=t
  ·subst hkt
   rw[params,cF] at h
   simp[h]
  ·rw[params,cG _ _ hkt] at h
   obtain⟨h1,h2⟩:=kt As (k+1) t A h
   exact⟨by omega,by rw[show t - k=(t - (k+1))+1 by omega];simpa using h2⟩
theorem enter {f:FuncId}{fn:Func}{c:Code}{n:Nat}{args:List Value}{As:List (VAr Γ)}{w:World}{R:Ending→World→Prop}(hf:P.funcs[f]?=some fn)(hb:fn.body=some c)(hn:fn.ntmps=n)(hl:args.length≤n)
  (hA:∀(i:Nat) (A:(VAr Γ)),As[i]?=some A→A.p (args.getD i undef) w) (h:∀a,Fr n a w (params 0 As)→c.wpIn (FW none) 0 P (bodyPost P fn R) a w) (hlen:As.length≤args.length):Calls P f args.toArray w R:=by
 refine calls_of_wp hf hb ((wpIn_wide (n:=0)).1 (h _ ⟨?_,rfl,fun t A ht=>?_⟩))
 ·simp[hn];omega
 ·obtain⟨_,h2⟩:=kt As 0 t A ht
  rw[Nat.sub_zero] at h2
  have hlt:t<As.length:=(List.getElem?_eq_some_iff.1 h2).1
  have:=hA t A h2
  have e:(args.toArray++Array.replicate (fn.ntmps - args.toArray.size) undef).getD t undef=args.getD t undef:=by
   have:t<args.length:=by omega
   simp[Array.getElem?_append,this]
  simp only[Act.eval,e]
  exact this
theorem az {fn:Func}{t:Nat}{R:Ending→World→Prop}{n:Nat}{a:Act}{w:World}{A:(VAr Γ)}(hr:fn.results = #[.tmp t])(hf:Fr n a w L)(h:aI L t=some A)(hR:∀v,A.p v w→R (.returned v) w) :
  bodyPost P fn R .ret a w:=
 ⟨hf.defers,_,results_tmp hr _ _ _,hR _ (hf.val t A h)⟩
theorem fJ {fn:Func}{t u:Nat}{R:Ending→World→Prop}{n:Nat}{a:Act}{w:World}{A B:(VAr Γ)}(hr:fn.results = #[.tmp t,.tmp u])(hf:Fr n a w L)(h:aI L t=some A)(h':aI L u=some B)
  (hR:∀v x,A.p v w→B.p x w→R (.returned (.tuple #[v,x])) w):bodyPost P fn R .ret a w:=
 ⟨hf.defers,_,results_tmp2 hr _ _ _,hR _ _ (hf.val t A h) (hf.val u B h')⟩
theorem sM {fn:Func}{R:Ending→World→Prop}{n:Nat}{a:Act}{w:World}(hr:fn.results = #[])(hf:Fr n a w L)(hR:R (.returned (.tuple #[])) w):bodyPost P fn R .ret a w:=
 ⟨hf.defers,_,results_none hr _ _ _,hR⟩
theorem db {fn:Func}{R:Ending→World→Prop}{n:Nat}{a:Act}{w:World}(hr:fn.results = #[])(hf:Fr n a w L)(hR:R (.returned (.tuple #[])) w):bodyPost P fn R .normal a w:=
 ⟨hf.defers,_,results_none hr _ _ _,hR⟩
theorem ifc {x:Operand}{thn els:Code}{Q:Exit→Act→World→Prop}{n:Nat}{a:Act}{w:World}{b:Bool}(hf:FrD n ds a w L)(h:opd L x=some (ER (.bool b)))
  (ht:b=true→thn.wpIn (FW r) 0 P Q a w) (he:b=false→els.wpIn (FW r) 0 P Q a w):(Code.cond x thn els).wpIn (FW r) 0 P Q a w:=
 wpIn_cond_split (hf.opd x _ h) ht he
theorem seq {x y:Code}{Q:Exit→Act→World→Prop}{a:Act}{w:World}(h:x.wpIn (FW r) 0 P (Exit.then (y.wpIn (FW r) 0 P Q) Q) a w):(Code.seq x y).wpIn (FW r) 0 P Q a w:=wpIn_seq h
theorem ar {Q:Exit→Act→World→Prop}{a:Act}{w:World}(h:Q .normal a w):Code.skip.wpIn (FW r) 0 P Q a w:=wpIn_skip h
theorem aR {id:Nat}{Q:Exit→Act→World→Prop}{a:Act}{w:World}(h:Q (.exit id) a w):(Code.exit id).wpIn (FW r) 0 P Q a w:=wpIn_exit h
theorem an {Q:Exit→Act→World→Prop}{a:Act}{w:World}(h:Q .ret a w):Code.ret.wpIn (FW r) 0 P Q a w:=wpIn_ret h
end Go.Mono
namespace Go.Mono
open Go Go.RowKit

variable {P:Program}{w0:World}{L:Env}{dst:Option Tmp}{ty:TypeId}{pos:String}{aft:Array Edge}{g:Option (Nat×Bool)}{r:Option Nat}{ds:List Deferred}
def Blk (w:World)(b:Nat)(cs:Array Value)(t:TypeId):Prop:=w.heap[b]?=some (.cells cs t (0,0))
theorem Blk.lt {w:World}{b:Nat}{cs:Array Value}{t:TypeId}(h:Blk w b cs t):b<w.heap.size:=(Array.getElem?_eq_some_iff.1 h).1
theorem Blk.ext {w w':World}{b:Nat}{cs:Array Value}{t:TypeId}(h:Blk w b cs t)(e:Ext w w'):Blk w' b cs t:=(e.block b h.lt).trans h
instance {w w':World}{b:Nat}{cs:Array Value}{t:TypeId}:Ug w w' (Blk w b cs t) (Blk w' b cs t):=⟨fun e h=>h.ext e⟩
theorem Blk.gr {w w':World}{b b':Nat}{cs:Array Value}{t:TypeId}(h:Blk w b cs t)(e:w.grownBy w' (some b'))(hne:b≠b'):Blk w' b cs t:=
 (e.block b h.lt (by simpa using hne)).trans h
instance {w w':World}{b d:Nat}{cs:Array Value}{t:TypeId}:Gg d w w' (Blk w b cs t) (b≠d) (Blk w' b cs t):=⟨fun g s h=>h.gr g s⟩
theorem Blk.cell {w:World}{b:Nat}{cs:Array Value}{t:TypeId}(h:Blk w b cs t)(i:Nat):w.cell? ⟨b,i,none⟩=cs[i]?:=by
 unfold Blk at h
 simp[World.cell?,h]
theorem Ext.gr {w w1 w2:World}{b:Nat}(e:Ext w w1)(h:w1.grownBy w2 (some b))(hb:w.heap.size≤b):Ext w w2:=
 Below.grown e h e.size (fun k hk=>by cases hk;exact hb)

instance {W w w':World}{b:Nat}:Gg b w w' (Ext W w) (W.heap.size≤b) (Ext W w'):=⟨fun g s h=>h.gr g s⟩
structure TI (P:Program)(t:TypeId)(agg:Bool)(n:Nat):Prop where
 u:∃d,P.underlying t=some d∧(match d with|.struct _|.array _ _=>true|_=>false)=agg
 s:(P.info? t).map (·.size)=some n
def tiB (P:Program)(t:TypeId)(agg:Bool)(n:Nat):Bool:=
 (match P.underlying t with|some d=>(match d with|.struct _|.array _ _=>true|_=>false)==agg|none=>false)&&(match P.info? t with|some i=>Nat.beq i.size n|none=>false)
theorem ti {t:TypeId}{agg:Bool}{n:Nat}(h:tiB P t agg n=true):TI P t agg n:=by
 simp only[tiB,Bool.and_eq_true] at h
 constructor
 ·cases hu:P.underlying t with
  | none=>simp[hu] at h
  | some d=>exact⟨d,rfl,by simpa[hu] using h.1⟩
 ·cases hi:P.info? t with
  | none=>simp[hi] at h
  | some i=>simpa[hi] using h.2

theorem TI.size {t:TypeId}{agg:Bool}{n:Nat}(h:TI P t agg n)(w:World):(sizeOf t).run P w=.ok n w:=by
 have:=h.s
 cases hi:P.info? t with
 | none=>simp[hi] at this
 | some i=>simp[hi] at this;simp[sizeOf,typeInfo,hi,this]
theorem TI.agg {t:TypeId}{agg:Bool}{n:Nat}(h:TI P t agg n)(w:World):(isAgg t).run P w=.ok agg w:=by
 obtain⟨d,h1,h2⟩:=h.u
 cases d <;> simp_all [isAgg,underlying]

theorem ic {t:TypeId}(h:TI P t false 1){w:World}{a:Addr}{v:Value}(hv:w.cell? a=some v):(loadVar t a).run P w=.ok v w:=by
 simp[loadVar,h.agg w,hv]
theorem iX {t:TypeId}{n:Nat}(h:TI P t true n){w:World}{a:Addr}{cs:List Value}(hl:cs.length=n)(hv:∀j v,cs[j]?=some v→w.cell? (a.add j)=some v) :
  (loadVar t a).run P w=.ok (.agg cs.toArray) w:=by
 have:=run_loadCells_list (P:=P) w a cs hv
 rw[hl] at this
 simp[loadVar,h.agg w,h.size w,this]

section ops
variable {Γ:World→World→Prop}{L:bf Γ}
variable {x y:Operand}{b off:Nat}{cs:Array Value}{t:TypeId}{v:Value}

theorem ldW [Gro Γ]{n:Nat}(ht:TI P t true n)(hx:opd L x=some (ER (.pointer (some ⟨b,0,none⟩)))){bt:TypeId}(hb:Blk w0 b cs bt)(hn:cs.size=n):OpC P w0 L ⟨dst,.load t x,ty,pos,aft,g⟩ (ER (.agg cs)):=
 aQ fun ρ w he hv=>by
  have h1:=opE hv (x:=x) (by simp[Op.operands]) hx
  refine⟨_,?_,rfl⟩
  have:=iX ht (w:=w) (a:=⟨b,0,none⟩) (cs:=cs.toList) (by simpa using hn) (fun j v hj=>by
   rw[Addr.add_lit,Nat.zero_add,(hb.ext (Gro.below he)).cell j];simpa using hj)
  simp[execOp,h1,Instr.loadAt,Instr.sureAddr,this]
theorem ld1 [Gro Γ](ht:TI P t false 1)(hx:opd L x=some (ER (.pointer (some ⟨b,off,none⟩)))){bt:TypeId}(hb:Blk w0 b cs bt)(hc:cs[off]?=some v):OpC P w0 L ⟨dst,.load t x,ty,pos,aft,g⟩ (ER v):=
 aQ fun ρ w he hv=>by
  have h1:=opE hv (x:=x) (by simp[Op.operands]) hx
  refine⟨_,?_,rfl⟩
  have:=ic ht (w:=w) (a:=⟨b,off,none⟩) (v:=v) (by rw[(hb.ext (Gro.below he)).cell off];exact hc)
  simp[execOp,h1,Instr.loadAt,Instr.sureAddr,this]
theorem ldP [Gro Γ]{n:Nat}(ht:TI P t true n)(hx:opd L x=some (ER (.pointer (some ⟨b,off,none⟩)))){bt:TypeId}(hb:Blk w0 b cs bt)(hn:off+n≤cs.size) :
  OpC P w0 L ⟨dst,.load t x,ty,pos,aft,g⟩ (ER (.agg (cs.extract off (off+n)))):=
 aQ fun ρ w he hv=>by
  have h1:=opE hv (x:=x) (by simp[Op.operands]) hx
  refine⟨_,?_,rfl⟩
  have hx':((cs.toList.drop off).take n).toArray=cs.extract off (off+n):=by
   apply Array.toList_inj.1
   simp[List.take_drop]
  have:=iX ht (w:=w) (a:=⟨b,off,none⟩) (cs:=(cs.toList.drop off).take n) (by simp;omega) (fun j v hj=>by
   rw[Addr.add_lit,(hb.ext (Gro.below he)).cell (off+j)]
   rw[List.getElem?_take] at hj
   split at hj
   ·simpa using hj
   ·cases hj)
  rw[hx'] at this
  simp[execOp,h1,Instr.loadAt,Instr.sureAddr,this]
theorem OpC.as [Gro Γ]{o:Oper}{A:(VAr Γ)}(h:OpC P w0 L o (ER v))(hA:A.p v w0):OpC P w0 L o A:=by
 refine⟨fun ρ w he hv=>?_⟩
 refine (h.out ρ w he hv).mono ?_
 rintro u w' ⟨h1,rfl⟩
 exact⟨h1,A.st _ _ _ (Gro.tr he h1) hA⟩
theorem OpC.eq {o:Oper}{u:Value}(h:OpC P w0 L o (ER v))(hA:v=u):OpC P w0 L o (ER u):=hA▸h

theorem co [Gro Γ]{n e s:Nat}{k:IntKind}{i:Int}(ht:P.underlying t=some (.array n e))(hs:∃ag,TI P e ag s)(hx:opd L x=some (ER (.pointer (some ⟨b,off,none⟩))))(hy:opd L y=some (ER (.int k i)))(hi:0≤i∧i<(n:Int)) :
  OpC P w0 L ⟨dst,.indexAddr t x y,ty,pos,aft,g⟩ (ER (.pointer (some ⟨b,off+i.toNat * s,none⟩))):=
 aQ fun ρ w _ hv=>by
  have h1:=opE hv (x:=x) (by simp[Op.operands]) hx
  have h2:=opE hv (x:=y) (by simp[Op.operands]) hy
  obtain⟨ag,hs⟩:=hs
  refine⟨_,?_,rfl⟩
  simp[execOp,h1,h2,Instr.indexAt,Instr.sureAddr,asIntOf,run_underlying ht,hi,hs.size,Addr.add_lit]
theorem iY [Gro Γ]{n e:Nat}{k:IntKind}{i:Int}(ht:P.underlying t=some (.array n e))(hs:TI P e false 1)(hx:opd L x=some (ER (.agg cs)))(hy:opd L y=some (ER (.int k i)))(hi:0≤i∧i<(n:Int))(hc:cs[i.toNat]?=some v) :
  OpC P w0 L ⟨dst,.index t x y,ty,pos,aft,g⟩ (ER v):=
 aQ fun ρ w _ hv=>by
  have h1:=opE hv (x:=x) (by simp[Op.operands]) hx
  have h2:=opE hv (x:=y) (by simp[Op.operands]) hy
  refine⟨_,?_,rfl⟩
  simp[execOp,h1,h2,Instr.index,asIntOf,run_underlying ht,hi,hs.size,part,hs.agg,hc]
theorem am [Gro Γ]{fs:Array Field}{f:Nat}{fl:Field}{s:Nat}{ag:Bool}(ht:P.underlying t=some (.struct fs))(hf:fs[f]?=some fl)(hs:TI P fl.type ag s)(h0:0<s)(hx:opd L x=some (ER (.pointer (some ⟨b,off,none⟩)))) :
  OpC P w0 L ⟨dst,.fieldAddr t x f,ty,pos,aft,g⟩ (ER (.pointer (some ⟨b,off+fl.offset,none⟩))):=
 aQ fun ρ w _ hv=>by
  have h1:=opE hv (x:=x) (by simp[Op.operands]) hx
  have hne:s≠0:=by omega
  refine⟨_,?_,rfl⟩
  simp[execOp,h1,Instr.fieldAt,Instr.sureAddr,run_underlying ht,hf,fieldPlace,hs.size,hne,Addr.add_lit]
end ops

class AvC (b:Nat)(A:VA):Prop where
 av:∀v w w',w.grownBy w' (some b)→A.p v w→A.p v w'
instance (b:Nat)(v:Value):AvC b (E v):=⟨fun _ _ _ _ h=>h⟩
instance (b:Nat):AvC b Any:=⟨fun _ _ _ _ h=>h⟩
class AvL (b:Nat)(L:Env):Prop where
 av:∀t A,aI L t=some A→∀v w w',w.grownBy w' (some b)→A.p v w→A.p v w'
instance (b:Nat):AvL b []:=⟨fun t A h=>by simp[aI] at h⟩
instance (b k:Nat)(A:VA)(L:Env)[h:AvC b A][hl:AvL b L]:AvL b ((k,A)::L):=⟨fun t B ht=>by
 by_cases hkt:k=t
 ·subst hkt;rw[cF] at ht;cases ht;exact h.av
 ·rw[cG _ _ hkt] at ht;exact hl.av t B ht⟩
theorem FrD.gr {n:Nat}{a:Act}{w w':World}{b:Nat}[h:AvL b L](hf:FrD n ds a w L)(hg:w.grownBy w' (some b)):FrD n ds a w' L:=
 ⟨hf.size,hf.defers,fun t A ht=>h.av t A ht _ _ _ hg (hf.val t A ht)⟩
class ku (A:VA):Prop where
 pu:∀v w w',A.p v w→A.p v w'
instance (v:Value):ku (E v):=⟨fun _ _ _ h=>h⟩
instance:ku Any:=⟨fun _ _ _ h=>h⟩
class cp (L:Env):Prop where
 pu:∀t A,aI L t=some A→∀v w w',A.p v w→A.p v w'
instance:cp []:=⟨fun t A h=>by simp[aI] at h⟩
instance (k:Nat)(A:VA)(L:Env)[h:ku A][hl:cp L]:cp ((k,A)::L):=⟨fun t B ht=>by
 by_cases hkt:k=t
 ·subst hkt;rw[cF] at ht;cases ht;exact h.pu
 ·rw[cG _ _ hkt] at ht;exact hl.pu t B ht⟩
theorem FrD.pure {n:Nat}{a:Act}{w:World}[h:cp L](hf:FrD n ds a w L)(w':World):FrD n ds a w' L:=
 ⟨hf.size,hf.defers,fun t A ht=>h.pu t A ht _ _ _ (hf.val t A ht)⟩

theorem dA (w:World)(o:Obj):Ext w (w.alloc o):=(Below.refl _ w).alloc (Nat.le_refl _) o
theorem gh (w:World)(cs:Array Value)(t:TypeId):Blk (w.alloc (.cells cs t)) w.heap.size cs t:=by
 show (w.heap.push _)[w.heap.size]?=_
 simp
theorem iZ (t:TypeId)(v:Value)(w:World):(newVar t v).run P w=.ok ⟨w.heap.size,0,none⟩ (w.alloc (.cells v.cells t)):=by
 simp[newVar,newRow,newObj,Sem.run]
theorem dP (w:World)(b:Nat)(cs:Array Value):w.grownBy (w.setRow b cs) (some b):=
 ⟨rfl,rfl,rfl,by simp,fun k _ hk=>setRow_other w b k cs (by simpa using hk)⟩

section tail
variable {ops:Array Oper}{rest:List Oper}{Q:Exit→Act→World→Prop}{n:Nat}{a:Act}{w:World}{x y:Operand}

section
variable {Γ:World→World→Prop}{L:bf Γ}
theorem aJ [Gro Γ]{e:TypeId}{A:(VAr Γ)}{d:Nat}(hf:FrD n ds a w L)(hx:opd L x=some A)(hd:d<n)
  (k:∀a' b w' v,A.p v w→Γ w w'→b=w.heap.size→w'.heap.size=b+1→Blk w' b v.cells e→FrD n ds a' w' ((d,ER (.pointer (some ⟨b,0,none⟩)))::L)→wpListIn (FW r) 0 P ops Q rest a' w') :
  wpListIn (FW r) 0 P ops Q (⟨some d,.box e x,ty,pos,aft,none⟩::rest) a w:=
 wpListIn_plain rfl fun K hK=>by
  refine OpR.wp (R:=fun v w'=>v=.pointer (some ⟨w.heap.size,0,none⟩)∧w'=w.alloc (.cells (a.eval x).cells e)) ?_ ?_
  ·simp[OpR,execOp,Instr.box,iZ]
  ·rintro v w' ⟨rfl,rfl⟩
   exact hK _ _ (k _ _ _ _ (hf.opd x A hx) (Gro.alloc _ _) rfl (by simp) (gh _ _ _) (hf.put (d:=some d) (Gro.alloc _ _) (fun k hk=>by cases hk;exact hd) rfl))

theorem aC [Gro Γ]{e:TypeId}{z:Value}{d sz bz:Nat}(hz:(P.info? e).map (fun i=>(i.zero,i.size,i.bytes))=some (some z,sz,bz))(hf:FrD n ds a w L)(hd:d<n)
  (k:∀a' b w',Γ w w'→b=w.heap.size→w'.heap.size=b+1→Blk w' b z.cells e→FrD n ds a' w' ((d,ER (.pointer (some ⟨b,0,none⟩)))::L)→wpListIn (FW r) 0 P ops Q rest a' w') :
  wpListIn (FW r) 0 P ops Q (⟨some d,.alloc e,ty,pos,aft,none⟩::rest) a w:=
 wpListIn_plain rfl fun K hK=>by
  refine OpR.wp (R:=fun v w'=>v=.pointer (some ⟨w.heap.size,0,none⟩)∧w'=w.alloc (.cells z.cells e)) ?_ ?_
  ·obtain⟨i,hi,hzi,_,_⟩:=info_parts hz
   simp[OpR,execOp,Instr.alloc,zeroValue,typeInfo,hi,hzi,iZ]
  ·rintro v w' ⟨rfl,rfl⟩
   exact hK _ _ (k _ _ _ (Gro.alloc _ _) rfl (by simp) (gh _ _ _) (hf.put (d:=some d) (Gro.alloc _ _) (fun k hk=>by cases hk;exact hd) rfl))

end
theorem sN (cs:Array Value)(off:Nat)(v:Value)(h:off<cs.size):(cs.toList.take off++[v]++cs.toList.drop (off+1)).toArray=cs.setIfInBounds off v:=by
 apply Array.toList_inj.1
 rw[Array.toList_setIfInBounds,List.set_eq_take_append_cons_drop]
 simp[h]
theorem aO {t bt:TypeId}{b off:Nat}{v:Value}{cs:Array Value}(ht:TI P t false 1)(hf:FrD n ds a w L)[hL:AvL b L](hx:opd L x=some (E (.pointer (some ⟨b,off,none⟩))))(hy:opd L y=some (E v))(h1:v.oneCell'=true)
  (hb:Blk w b cs bt) (ho:off<cs.size) (k:∀w',w.grownBy w' (some b)→w'.heap.size=w.heap.size→Blk w' b (cs.setIfInBounds off v) bt→FrD n ds a w' L→wpListIn (FW r) 0 P ops Q rest a w') :
  wpListIn (FW r) 0 P ops Q (⟨none,.store t x y,ty,pos,aft,none⟩::rest) a w:=
 wpListIn_plain rfl fun K hK=>by
  have hxv:a.eval x=.pointer (some ⟨b,off,none⟩):=hf.opd x _ hx
  have hyv:a.eval y=v:=hf.opd y _ hy
  have hc:v.cells = #[v]:=by cases v <;> simp[Value.cells,Value.oneCell'] at h1 ⊢
  have hrun:=run_storeCells_at (P:=P) b off bt [v] 0 cs w hb (by simp;omega) (by simpa using h1)
  refine OpR.wp (R:=fun _ w'=>w'=w.setRow b (cs.setIfInBounds off v)) ?_ ?_
  ·have e:=sN cs off v ho
   simp only[List.length_singleton,Nat.add_zero] at hrun
   rw[e] at hrun
   simp[OpR,execOp,Instr.storeAt,Instr.sureAddr,hxv,hyv,storeVar,hc,ht.size,hrun]
  ·rintro _ w' rfl
   exact hK _ _ (k _ (dP _ _ _) (by simp) (setRow_heap _ _ _ _ _ _ hb) (hf.gr (dP _ _ _)))
theorem aF {t bt:TypeId}{b s:Nat}{cs new:Array Value}(ht:TI P t true s)(hf:FrD n ds a w L)[hL:AvL b L](hx:opd L x=some (E (.pointer (some ⟨b,0,none⟩))))(hy:opd L y=some (E (.agg new)))(h1:new.all (·.oneCell')=true)
  (hb:Blk w b cs bt) (hs:cs.size=s) (hn:new.size=s) (k:∀w',w.grownBy w' (some b)→w'.heap.size=w.heap.size→Blk w' b new bt→FrD n ds a w' L→wpListIn (FW r) 0 P ops Q rest a w') :
  wpListIn (FW r) 0 P ops Q (⟨none,.store t x y,ty,pos,aft,none⟩::rest) a w:=
 wpListIn_plain rfl fun K hK=>by
  have hxv:a.eval x=.pointer (some ⟨b,0,none⟩):=hf.opd x _ hx
  have hyv:a.eval y=.agg new:=hf.opd y _ hy
  have hrun:=run_storeVar_row (P:=P) w b bt t cs new hb (by rw[ht.s,hn]) (by omega) h1
  refine OpR.wp (R:=fun _ w'=>w'=w.setRow b new) ?_ ?_
  ·simp[OpR,execOp,Instr.storeAt,Instr.sureAddr,hxv,hyv,hrun]
  ·rintro _ w' rfl
   exact hK _ _ (k _ (dP _ _ _) (by simp) (setRow_heap _ _ _ _ _ _ hb) (hf.gr (dP _ _ _)))
end tail
theorem sO {ops:Array Oper}{rest:List Oper}{Q:Exit→Act→World→Prop}{n:Nat}{a:Act}{w:World}{x:Operand}{t bt:TypeId}{b d s:Nat}{cs:Array Value}(ht:TI P t true s)(hf:FrD n ds a w L)(hx:opd L x=some (E (.pointer (some ⟨b,0,none⟩))))(hb:Blk w b cs bt)(hn:cs.size=s)(hd:d<n)
  (k:∀a',FrD n ds a' w ((d,E (.agg cs))::L)→wpListIn (FW r) 0 P ops Q rest a' w):wpListIn (FW r) 0 P ops Q (⟨some d,.load t x,ty,pos,aft,none⟩::rest) a w:=
 wpListIn_plain rfl fun K hK=>by
  have hxv:a.eval x=.pointer (some ⟨b,0,none⟩):=hf.opd x _ hx
  refine OpR.wp (R:=fun v w'=>w'=w∧v=.agg cs) ?_ ?_
  ·have:=iX ht (w:=w) (a:=⟨b,0,none⟩) (cs:=cs.toList) (by simpa using hn) (fun j v hj=>by
    rw[Addr.add_lit,Nat.zero_add,hb.cell j];simpa using hj)
   simp[OpR,execOp,hxv,Instr.loadAt,Instr.sureAddr,this]
  ·rintro v w' ⟨rfl,rfl⟩
   exact hK _ _ (k _ (hf.put (d:=some d) (Ext.rfl' _) (fun k hk=>by cases hk;exact hd) rfl))
theorem dc {fn:Func}{t u s:Nat}{R:Ending→World→Prop}{n:Nat}{a:Act}{w:World}{b:Nat}{cs:Array Value}{bt:TypeId}(hr:fn.results = #[.cell t u])(ht:TI P u true s)(hf:Fr n a w L)(h:aI L t=some (E (.pointer (some ⟨b,0,none⟩))))
  (hb:Blk w b cs bt) (hs:cs.size=s) (hR:R (.returned (.agg cs)) w):bodyPost P fn R .ret a w:=by
 have hv:a.tmps.getD t undef=.pointer (some ⟨b,0,none⟩):=hf.val t _ h
 obtain⟨d,h1,h2⟩:=ht.u
 exact⟨hf.defers,_,results_cell_row hr a.tmps w b bt cs (0,0) d hv hb h1 (by cases d <;> simp_all) (by rw[ht.s,hs]),hR⟩

def W (x:BitVec 64):Value:=.int .u64 (x.toNat:Int)
theorem sP {x y:BitVec 64}(h:W x=W y):x=y:=by
 simp only[W,Value.int.injEq,true_and] at h
 exact BitVec.eq_of_toNat_eq (by omega)
theorem sQ (x:BitVec 64):IntKind.u64.wrap (x.toNat:Int)=x.toNat:=IntWalk.u64_in _ (by have:=x.isLt;omega)
theorem gj (x:BitVec 64):BitVec.ofInt 64 (x.toNat:Int)=x:=by
 rw[BitVec.ofInt_natCast];simp

section words
variable {x y:Operand}{t yt:TypeId}{u v:BitVec 64}
theorem kw (z:BitVec 64):(pure (Value.int .u64 (IntKind.u64.wrap (z.toNat:Int))):Sem Value)=pure (W z):=by rw[sQ];rfl
theorem eY (hx:opd L x=some (E (W u)))(hy:opd L y=some (E (W v))):OpC P w0 L ⟨dst,.binOp .and t x y yt,ty,pos,aft,g⟩ (E (W (u &&& v))):=
 bW (by
  show pure (Value.int .u64 (IntKind.u64.wrap ((BitVec.ofInt 64 (u.toNat:Int) &&& BitVec.ofInt 64 (v.toNat:Int)).toNat:Int)))=_
  rw[gj,gj];exact kw _) hx hy
theorem orW (hx:opd L x=some (E (W u)))(hy:opd L y=some (E (W v))):OpC P w0 L ⟨dst,.binOp .or t x y yt,ty,pos,aft,g⟩ (E (W (u ||| v))):=
 bW (by
  show pure (Value.int .u64 (IntKind.u64.wrap ((BitVec.ofInt 64 (u.toNat:Int) ||| BitVec.ofInt 64 (v.toNat:Int)).toNat:Int)))=_
  rw[gj,gj];exact kw _) hx hy
theorem mV (hx:opd L x=some (E (W u)))(hy:opd L y=some (E (W v))):OpC P w0 L ⟨dst,.binOp .andNot t x y yt,ty,pos,aft,g⟩ (E (W (u &&& ~~~v))):=
 bW (by
  show pure (Value.int .u64 (IntKind.u64.wrap ((BitVec.ofInt 64 (u.toNat:Int) &&& ~~~BitVec.ofInt 64 (v.toNat:Int)).toNat:Int)))=_
  rw[gj,gj];exact kw _) hx hy
theorem kx (u v:BitVec 64):((u.toNat:Int)==(v.toNat:Int))=(u==v):=by
 rw[Bool.eq_iff_iff]
 simp only[beq_iff_eq]
 exact⟨fun h=>BitVec.eq_of_toNat_eq (by omega),fun h=>by rw[h]⟩
theorem ky (hx:opd L x=some (E (W u)))(hy:opd L y=some (E (W v))):OpC P w0 L ⟨dst,.binOp .neq t x y yt,ty,pos,aft,g⟩ (E (.bool (u != v))):=
 bW (by
  show pure (Value.bool ((u.toNat:Int) != (v.toNat:Int)))=_
  simp only[bne,kx]) hx hy
theorem mW (hx:opd L x=some (E (W u)))(hy:opd L y=some (E (W v))):OpC P w0 L ⟨dst,.binOp .eql t x y yt,ty,pos,aft,g⟩ (E (.bool (u==v))):=
 bW (by
  show pure (Value.bool ((u.toNat:Int)==(v.toNat:Int)))=_
  simp only[kx]) hx hy
theorem gk (hx:opd L x=some (E (W u)))(hy:opd L y=some (E (W v))):OpC P w0 L ⟨dst,.binOp .add t x y yt,ty,pos,aft,g⟩ (E (W (u+v))):=
 bW (by
  show pure (Value.int .u64 (IntKind.u64.wrap ((u.toNat:Int)+(v.toNat:Int))))=_
  have e:IntKind.u64.wrap ((u.toNat:Int)+(v.toNat:Int))=((u+v).toNat:Int):=by
   rw[BitVec.toNat_add]
   simp only[IntKind.wrap,IntKind.bits,IntKind.signed,Bool.false_and,Bool.false_eq_true,if_false]
   omega
  rw[e];rfl) hx hy
theorem sR {k:IntKind}{i:Int}(hx:opd L x=some (E (W u)))(hy:opd L y=some (E (.int k i)))(hi:0≤i):OpC P w0 L ⟨dst,.binOp .shl t x y yt,ty,pos,aft,g⟩ (E (W (u <<< i.toNat))):=
 aQ fun ρ w _ hv=>by
  have h1:=opE hv (x:=x) (by simp[Op.operands]) hx
  have h2:=opE hv (x:=y) (by simp[Op.operands]) hy
  refine⟨_,?_,rfl⟩
  have hneg:¬i<0:=by omega
  have e:IntKind.u64.wrap ((u.toNat:Int) * 2 ^ (min i.toNat 64))=((u <<< i.toNat).toNat:Int):=by
   rw[BitVec.toNat_shiftLeft,Nat.shiftLeft_eq]
   simp only[IntKind.wrap,IntKind.bits,IntKind.signed]
   simp only[Bool.false_and,Bool.false_eq_true,if_false]
   by_cases hle:i.toNat≤64
   ·rw[Nat.min_eq_left hle];simp
   ·rw[Nat.min_eq_right (by omega)]
    have:(2:Nat) ^ i.toNat=2 ^ 64 * 2 ^ (i.toNat - 64):=by rw[← Nat.pow_add];congr 1;omega
    rw[this]
    have e1:(u.toNat * (2 ^ 64 * 2 ^ (i.toNat - 64))) % 2 ^ 64=0:=by
     rw[Nat.mul_left_comm];exact Nat.mul_mod_right _ _
    rw[e1]
    simp
  simp[execOp,h1,h2,W,eqGuard,binOp,Op.shift,hneg,IntKind.bits] at e ⊢
  exact e
theorem fK {k:IntKind}{i:Int}(hx:opd L x=some (E (W u)))(hy:opd L y=some (E (.int k i)))(hi:0≤i):OpC P w0 L ⟨dst,.binOp .shr t x y yt,ty,pos,aft,g⟩ (E (W (u >>> i.toNat))):=
 aQ fun ρ w _ hv=>by
  have h1:=opE hv (x:=x) (by simp[Op.operands]) hx
  have h2:=opE hv (x:=y) (by simp[Op.operands]) hy
  refine⟨_,?_,rfl⟩
  have hneg:¬i<0:=by omega
  have e:(u.toNat:Int).fdiv (2 ^ (min i.toNat 64))=((u >>> i.toNat).toNat:Int):=by
   rw[BitVec.toNat_ushiftRight,Nat.shiftRight_eq_div_pow]
   rw[Int.fdiv_eq_ediv_of_nonneg _ (by exact Int.le_of_lt (Int.pow_pos (by decide)))]
   by_cases hle:i.toNat≤64
   ·rw[Nat.min_eq_left hle];simp
   ·rw[Nat.min_eq_right (by omega)]
    have hu:=u.isLt
    have h1:u.toNat / 2 ^ i.toNat=0:=Nat.div_eq_of_lt (Nat.lt_of_lt_of_le hu (Nat.pow_le_pow_right (by decide) (by omega)))
    rw[h1]
    have h2:u.toNat / 2 ^ 64=0:=Nat.div_eq_of_lt hu
    have h3:((u.toNat / 2 ^ 64:Nat):Int)=(u.toNat:Int) / 2 ^ 64:=by simp
    rw[← h3,h2]
  simp[execOp,h1,h2,W,eqGuard,binOp,Op.shift,hneg,IntKind.bits] at e ⊢
  exact e
end words
end Go.Mono
namespace Go.Mono
open Go Go.Proofs
abbrev If (t:TypeId)(z:Value)(s b:Nat):Prop:=(Tryz.prog.info? t).map (fun i=>(i.zero,i.size,i.bytes))=some (some z,s,b)
abbrev Nn (f:FuncId):Prop:=Proofs.Enters Tryz.prog f
theorem Ee {i:FuncId} {f:Func} {c:Code} (h:Tryz.prog.funcs[i]?=some f) (h2:(f.name == "runtime.NumGoroutine")=false:=by kernel_rfl) (h3:f.body=some c:=by rfl):Nn i:=enters_of h h2 h3
theorem Mix.mix:Tryz.prog.follows .mixedOrders=true:=by kernel_rfl
theorem T3:TI Tryz.prog 3 false 1:=ti (by decide +kernel)
theorem I3:If 3 (.int .i64 0) 1 8:=by unfold If;kernel_rfl
theorem T4:TI Tryz.prog 4 false 1:=ti (by decide +kernel)
theorem I4:If 4 (.bool false) 1 1:=by unfold If;kernel_rfl
theorem T5:TI Tryz.prog 5 false 1:=ti (by decide +kernel)
theorem T23:TI Tryz.prog 23 false 1:=ti (by decide +kernel)
theorem T24:TI Tryz.prog 24 false 1:=ti (by decide +kernel)
theorem T26:TI Tryz.prog 26 true 2:=ti (by decide +kernel)
theorem I26:If 26 (.agg #[.slice none 0 0,.slice none 0 0]) 2 48:=by unfold If;kernel_rfl
theorem T28:TI Tryz.prog 28 false 1:=ti (by decide +kernel)
theorem T30:TI Tryz.prog 30 false 1:=ti (by decide +kernel)
theorem T31:TI Tryz.prog 31 false 1:=ti (by decide +kernel)
theorem I31:If 31 (.slice none 0 0) 1 24:=by unfold If;kernel_rfl
theorem T33:TI Tryz.prog 33 false 1:=ti (by decide +kernel)
theorem T36:TI Tryz.prog 36 true 4:=ti (by decide +kernel)
theorem I36:If 36 (.agg #[.int .i64 0,.int .i64 0,.int .u8 0,.int .i64 0]) 4 32:=by unfold If;kernel_rfl
theorem T38:TI Tryz.prog 38 true 5:=ti (by decide +kernel)
theorem T39:TI Tryz.prog 39 false 1:=ti (by decide +kernel)
theorem I39:If 39 (.slice none 0 0) 1 24:=by unfold If;kernel_rfl
theorem T42:TI Tryz.prog 42 false 1:=ti (by decide +kernel)
theorem I42:If 42 (.slice none 0 0) 1 24:=by unfold If;kernel_rfl
theorem T45:TI Tryz.prog 45 false 1:=ti (by decide +kernel)
theorem T47:TI Tryz.prog 47 true 16:=ti (by decide +kernel)
theorem I47:If 47 (.agg #[.int .u64 0,.int .u64 0,.int .u64 0,.int .u64 0,.int .u64 0,.int .u64 0,.int .u64 0,.int .u64 0,.int .u64 0,.int .u64 0,.int .u64 0,.int .u64 0,.int .u64 0,.int .u64 0,.int .u64 0,.int .u64 0]) 16 128:=by unfold If;kernel_rfl
theorem T52:TI Tryz.prog 52 true 5:=ti (by decide +kernel)
theorem T55:TI Tryz.prog 55 true 3:=ti (by decide +kernel)
theorem I55:If 55 (.agg #[.int .i64 0,.int .u8 0,.int .i64 0]) 3 24:=by unfold If;kernel_rfl
theorem T56:TI Tryz.prog 56 true 3:=ti (by decide +kernel)
theorem I56:If 56 (.agg #[.int .i64 0,.int .u8 0,.int .i64 0]) 3 24:=by unfold If;kernel_rfl
theorem T57:TI Tryz.prog 57 true 4:=ti (by decide +kernel)
theorem I57:If 57 (.agg #[.int .i64 0,.int .i64 0,.int .u8 0,.int .i64 0]) 4 32:=by unfold If;kernel_rfl
theorem T71:TI Tryz.prog 71 false 1:=ti (by decide +kernel)
theorem T72:TI Tryz.prog 72 true 8:=ti (by decide +kernel)
theorem I72:If 72 (.agg #[.nilFunc,.nilFunc,.nilFunc,.nilFunc,.nilFunc,.nilFunc,.nilFunc,.nilFunc]) 8 64:=by unfold If;kernel_rfl
theorem T75:TI Tryz.prog 75 false 1:=ti (by decide +kernel)
theorem I75:If 75 (.map none) 1 8:=by unfold If;kernel_rfl
theorem T78:TI Tryz.prog 78 false 1:=ti (by decide +kernel)
theorem I78:If 78 (.nilFunc) 1 8:=by unfold If;kernel_rfl
theorem T83:TI Tryz.prog 83 false 1:=ti (by decide +kernel)
theorem I83:If 83 (.map none) 1 8:=by unfold If;kernel_rfl
theorem T87:TI Tryz.prog 87 false 1:=ti (by decide +kernel)
theorem I87:If 87 (.map none) 1 8:=by unfold If;kernel_rfl
theorem ie:TI Tryz.prog 107 true 2:=ti (by decide +kernel)
theorem eZ:If 107 (.agg #[.int .u8 0,.int .i64 0]) 2 16:=by unfold If;kernel_rfl
theorem dQ:TI Tryz.prog 109 false 1:=ti (by decide +kernel)
theorem dR:TI Tryz.prog 110 false 1:=ti (by decide +kernel)
theorem kz:TI Tryz.prog 114 true 2:=ti (by decide +kernel)
theorem mX:If 114 (.agg #[.int .i64 0,.int .i64 0]) 2 16:=by unfold If;kernel_rfl
theorem mY:TI Tryz.prog 116 true 2:=ti (by decide +kernel)
theorem mZ:If 116 (.agg #[.nilFunc,.int .i64 0]) 2 16:=by unfold If;kernel_rfl
theorem kD:TI Tryz.prog 122 false 1:=ti (by decide +kernel)
theorem sS:If 122 (.map none) 1 8:=by unfold If;kernel_rfl
theorem kE:TI Tryz.prog 129 false 1:=ti (by decide +kernel)
theorem sT:If 129 (.slice none 0 0) 1 24:=by unfold If;kernel_rfl
theorem ig:TI Tryz.prog 134 false 1:=ti (by decide +kernel)
theorem sU:If 134 (.pointer none) 1 8:=by unfold If;kernel_rfl
theorem dB:TI Tryz.prog 136 false 1:=ti (by decide +kernel)
theorem dS:TI Tryz.prog 139 true 2:=ti (by decide +kernel)
theorem ii:If 139 (.agg #[.int .i64 0,.int .i64 0]) 2 16:=by unfold If;kernel_rfl
theorem jb:TI Tryz.prog 164 false 1:=ti (by decide +kernel)
theorem sV:If 164 (.map none) 1 8:=by unfold If;kernel_rfl
theorem kF:TI Tryz.prog 167 false 1:=ti (by decide +kernel)
theorem sX:If 167 (.nilFunc) 1 8:=by unfold If;kernel_rfl
theorem S3:(Tryz.prog.info? 3).map (·.size)=some 1:=by kernel_rfl
theorem S4:(Tryz.prog.info? 4).map (·.size)=some 1:=by kernel_rfl
theorem S5:(Tryz.prog.info? 5).map (·.size)=some 1:=by kernel_rfl
theorem S9:(Tryz.prog.info? 9).map (·.size)=some 1:=by kernel_rfl
theorem S36:(Tryz.prog.info? 36).map (·.size)=some 4:=by kernel_rfl
theorem S38:(Tryz.prog.info? 38).map (·.size)=some 5:=by kernel_rfl
theorem S47:(Tryz.prog.info? 47).map (·.size)=some 16:=by kernel_rfl
theorem S55:(Tryz.prog.info? 55).map (·.size)=some 3:=by kernel_rfl
theorem S56:(Tryz.prog.info? 56).map (·.size)=some 3:=by kernel_rfl
theorem S57:(Tryz.prog.info? 57).map (·.size)=some 4:=by kernel_rfl
theorem sY:(Tryz.prog.info? 116).map (·.size)=some 2:=by kernel_rfl
theorem eA:(Tryz.prog.info? 139).map (·.size)=some 2:=by kernel_rfl
theorem sZ:Tryz.prog.built 47 []=some (#[.int .u64 0,.int .u64 0,.int .u64 0,.int .u64 0,.int .u64 0,.int .u64 0,.int .u64 0,.int .u64 0,.int .u64 0,.int .u64 0,.int .u64 0,.int .u64 0,.int .u64 0,.int .u64 0,.int .u64 0,.int .u64 0]):=by kernel_rfl
theorem En4:Nn 4:=Ee Tryz.func4
theorem En5:Nn 5:=Ee Tryz.func5
theorem En6:Nn 6:=Ee Tryz.func6
theorem En7:Nn 7:=Ee Tryz.func7
theorem En8:Nn 8:=Ee Tryz.func8
theorem En9:Nn 9:=Ee Tryz.func9
theorem ta:Nn 10:=Ee Tryz.func10
theorem tc:Nn 11:=Ee Tryz.func11
theorem kG:Nn 12:=Ee Tryz.func12
theorem td:Nn 13:=Ee Tryz.func13
theorem na:Nn 14:=Ee Tryz.func14
theorem tf:Nn 15:=Ee Tryz.func15
theorem nf:Nn 16:=Ee Tryz.func16
theorem tg:Nn 17:=Ee Tryz.func17
theorem dC:Nn 18:=Ee Tryz.func18
theorem dT:Nn 19:=Ee Tryz.func19
theorem cJ:Nn 20:=Ee Tryz.func20
theorem ng:Nn 21:=Ee Tryz.func21
theorem tj:Nn 22:=Ee Tryz.func22
theorem En23:Nn 23:=Ee Tryz.func23
theorem En24:Nn 24:=Ee Tryz.func24
theorem tk:Nn 25:=Ee Tryz.func25
theorem nh:Nn 26:=Ee Tryz.func26
theorem tm:Nn 27:=Ee Tryz.func27
theorem tn:Nn 28:=Ee Tryz.func28
theorem fa:Nn 29:=Ee Tryz.func29
theorem tq:Nn 30:=Ee Tryz.func30
theorem ni:Nn 31:=Ee Tryz.func31
theorem de:Nn 32:=Ee Tryz.func32
theorem nj:Nn 33:=Ee Tryz.func33
theorem tt:Nn 34:=Ee Tryz.func34
theorem gl:Nn 35:=Ee Tryz.func35
theorem eB:Nn 36:=Ee Tryz.func36
theorem nk:Nn 37:=Ee Tryz.func37
theorem nl:Nn 38:=Ee Tryz.func38
theorem tu:Nn 39:=Ee Tryz.func39
theorem tv:Nn 40:=Ee Tryz.func40
theorem tw:Nn 41:=Ee Tryz.func41
theorem tx:Nn 42:=Ee Tryz.func42
theorem tA:Nn 43:=Ee Tryz.func43
theorem jc:Nn 44:=Ee Tryz.func44
theorem kH:Nn 45:=Ee Tryz.func45
theorem tB:Nn 46:=Ee Tryz.func46
theorem tC:Nn 47:=Ee Tryz.func47
theorem fb:Nn 48:=Ee Tryz.func48
theorem fL:Nn 49:=Ee Tryz.func49
theorem tD:Nn 50:=Ee Tryz.func50
theorem tE:Nn 51:=Ee Tryz.func51
theorem np:Nn 52:=Ee Tryz.func52
theorem En55:Nn 55:=Ee Tryz.func55
theorem nq:Nn 56:=Ee Tryz.func56
theorem tF:Nn 57:=Ee Tryz.func57
theorem tG:Nn 58:=Ee Tryz.func58
theorem ns:Nn 59:=Ee Tryz.func59
theorem jd:Nn 60:=Ee Tryz.func60
theorem tH:Nn 61:=Ee Tryz.func61
theorem tI:Nn 62:=Ee Tryz.func62
theorem tJ:Nn 63:=Ee Tryz.func63
theorem tK:Nn 64:=Ee Tryz.func64
theorem tL:Nn 65:=Ee Tryz.func65
theorem tM:Nn 66:=Ee Tryz.func66
theorem tN:Nn 67:=Ee Tryz.func67
theorem tO:Nn 68:=Ee Tryz.func68
theorem tP:Nn 69:=Ee Tryz.func69
theorem tQ:Nn 71:=Ee Tryz.func71
theorem tR:Nn 77:=Ee Tryz.func77
theorem tS:Nn 78:=Ee Tryz.func78
theorem kJ:Nn 79:=Ee Tryz.func79
theorem jg:Nn 80:=Ee Tryz.func80
theorem gm:Nn 81:=Ee Tryz.func81
theorem kK:Nn 82:=Ee Tryz.func82
theorem tT:Nn 83:=Ee Tryz.func83
theorem tU:Nn 84:=Ee Tryz.func84
theorem En86:Nn 86:=Ee Tryz.func86
theorem tV:Nn 87:=Ee Tryz.func87
theorem kL:Nn 88:=Ee Tryz.func88
theorem tW:Nn 89:=Ee Tryz.func89
theorem tX:Nn 90:=Ee Tryz.func90
theorem kM:Nn 91:=Ee Tryz.func91
theorem tY:Nn 92:=Ee Tryz.func92
theorem tZ:Nn 93:=Ee Tryz.func93
theorem nt:Nn 94:=Ee Tryz.func94
theorem ua:Nn 95:=Ee Tryz.func95
theorem kN:Nn 96:=Ee Tryz.func96
theorem ub:Nn 97:=Ee Tryz.func97
theorem nu:Nn 98:=Ee Tryz.func98
theorem ud:Nn 99:=Ee Tryz.func99
theorem ug:Nn 112:=Ee Tryz.func112
theorem uh:Nn 113:=Ee Tryz.func113
theorem ui:Nn 114:=Ee Tryz.func114
theorem En123:Nn 123:=Ee Tryz.func123
theorem uj:Nn 124:=Ee Tryz.func124
theorem uk:Nn 125:=Ee Tryz.func125
theorem nw:Nn 126:=Ee Tryz.func126
theorem ny:Nn 127:=Ee Tryz.func127
theorem kO:Nn 128:=Ee Tryz.func128
theorem ul:Nn 129:=Ee Tryz.func129
theorem um:Nn 130:=Ee Tryz.func130
theorem un:Nn 140:=Ee Tryz.func140
theorem uq:Nn 141:=Ee Tryz.func141
theorem ut:Nn 173:=Ee Tryz.func173
theorem uu:Nn 174:=Ee Tryz.func174
theorem uv:Nn 175:=Ee Tryz.func175
theorem uw:Nn 176:=Ee Tryz.func176
abbrev U3:=@Tryz.underlying3
abbrev U4:=@Tryz.underlying4
abbrev U5:=@Tryz.underlying5
abbrev U22:=@Tryz.underlying22
abbrev U23:=@Tryz.underlying23
abbrev U24:=@Tryz.underlying24
abbrev U26:=@Tryz.underlying26
abbrev U28:=@Tryz.underlying28
abbrev U31:=@Tryz.underlying31
abbrev U36:=@Tryz.underlying36
abbrev U38:=@Tryz.underlying38
abbrev U39:=@Tryz.underlying39
abbrev U42:=@Tryz.underlying42
abbrev U45:=@Tryz.underlying45
abbrev U47:=@Tryz.underlying47
abbrev U52:=@Tryz.underlying52
abbrev U53:=@Tryz.underlying53
abbrev U55:=@Tryz.underlying55
abbrev U56:=@Tryz.underlying56
abbrev U57:=@Tryz.underlying57
abbrev U72:=@Tryz.underlying72
abbrev U75:=@Tryz.underlying75
abbrev U83:=@Tryz.underlying83
abbrev U87:=@Tryz.underlying87
abbrev nz:=@Tryz.underlying107
abbrev jh:=@Tryz.underlying109
abbrev ij:=@Tryz.underlying110
abbrev eE:=@Tryz.underlying112
abbrev ik:=@Tryz.underlying114
abbrev nA:=@Tryz.underlying116
abbrev kP:=@Tryz.underlying117
abbrev kQ:=@Tryz.underlying122
abbrev dD:=@Tryz.underlying129
abbrev fM:=@Tryz.underlying134
abbrev cV:=@Tryz.underlying136
abbrev cK:=@Tryz.underlying139
abbrev kR:=@Tryz.underlying164
abbrev uy:=@Tryz.underlying168
end Go.Mono
namespace Go.Mono
open Go

abbrev I (n:Int):Value:=.int .i64 n
abbrev B (b:Bool):Value:=.bool b
abbrev BS:=BitVec 1024
def ak (S:BS)(i:Nat):BitVec 64:=S.extractLsb' (64 * i) 64
theorem dF (S:BS)(i j:Nat)(h:j<64):(ak S i).getLsbD j=S.getLsbD (64 * i+j):=by
 simp[ak,BitVec.getLsbD_extractLsb',h]
def aZ (f:Nat→BitVec 64):Array Value:=((List.range 16).map fun i=>W (f i)).toArray
theorem fc (f:Nat→BitVec 64):(aZ f).size=16:=by simp[aZ]
theorem bX (f:Nat→BitVec 64)(i:Nat)(h:i<16):(aZ f)[i]?=some (W (f i)):=by
 simp[aZ,h]
theorem aU (f:Nat→BitVec 64):(aZ f).all (·.oneCell')=true:=by
 rw[Array.all_eq_true_iff_forall_mem]
 intro v hv
 simp only[aZ,List.mem_toArray,List.mem_map] at hv
 obtain⟨i,_,rfl⟩:=hv
 rfl
theorem il (f:Nat→BitVec 64)(k:Nat)(x:BitVec 64):(aZ f).setIfInBounds k (W x)=aZ (fun i=>if i=k then x else f i):=by
 apply Array.ext_getElem?
 intro i
 by_cases hi:i<16
 ·rw[bX _ _ hi]
  by_cases hk:i=k
  ·subst hk
   rw[Array.getElem?_setIfInBounds_self_of_lt (by rw[fc];exact hi)]
   simp
  ·rw[Array.getElem?_setIfInBounds_ne (Ne.symm hk),bX _ _ hi]
   simp[hk]
 ·rw[Array.getElem?_eq_none (by simp[fc];omega),Array.getElem?_eq_none (by simp[fc];omega)]
theorem dU {f g:Nat→BitVec 64}(h:∀i,i<16→f i=g i):aZ f=aZ g:=by
 unfold aZ
 congr 1
 exact List.map_congr_left fun i hi=>by rw[h i (List.mem_range.1 hi)]
theorem uz {f g:Nat→BitVec 64}(h:aZ f=aZ g):∀i,i<16→f i=g i:=by
 intro i hi
 have h1:=bX f i hi
 rw[h,bX g i hi] at h1
 exact (sP (Option.some.inj h1)).symm
def au (S:BS):Array Value:=aZ (ak S)
def ah (S:BS):Value:=.agg (au S)
theorem bh (S:BS):(au S).size=16:=fc _
theorem kS {S T:BS}(h:∀i,i<16→ak S i=ak T i):S=T:=by
 apply BitVec.eq_of_getLsbD_eq
 intro i hi
 have h1:=congrArg (fun v=>v.getLsbD (i % 64)) (h (i / 64) (by omega))
 simp only[dF _ _ _ (Nat.mod_lt i (by decide:0<64))] at h1
 rwa [Nat.div_add_mod] at h1
theorem kT {S T:BS}(h:au S=au T):S=T:=kS (uz h)
theorem kU (S T:BS)(i:Nat):ak (S ||| T) i=ak S i ||| ak T i:=by simp[ak,BitVec.extractLsb'_or]
theorem uA (S T:BS)(i:Nat):ak (S &&& T) i=ak S i &&& ak T i:=by simp[ak,BitVec.extractLsb'_and]
theorem nB (S T:BS)(i:Nat)(hi:i<16):ak (S &&& ~~~T) i=ak S i &&& ~~~ak T i:=by
 apply BitVec.eq_of_getLsbD_eq
 intro j hj
 rw[dF _ _ _ hj,BitVec.getLsbD_and,BitVec.getLsbD_and,BitVec.getLsbD_not,BitVec.getLsbD_not,dF _ _ _ hj,dF _ _ _ hj,decide_eq_true hj,decide_eq_true (show 64 * i+j<1024 by omega)]
theorem kV (i:Nat):ak 0 i=0:=by simp[ak]
def sgl (n:Nat):BS:=1#1024 <<< n
theorem im (n i:Nat)(h:n<1024):(sgl n).getLsbD i=decide (i=n):=by
 simp only[sgl,BitVec.getLsbD_shiftLeft,BitVec.getLsbD_one]
 by_cases hin:i=n
 ·subst hin;simp[h]
 ·by_cases hi:i<1024
  ·by_cases hlt:i<n
   ·simp[hin,hlt]
   ·simp[hin,show i - n≠0 by omega]
  ·simp[hi,hin]
theorem nC (n i:Nat)(h:n<1024):ak (sgl n) i=if i=n / 64 then 1#64 <<< (n % 64) else 0:=by
 apply BitVec.eq_of_getLsbD_eq
 intro j hj
 rw[dF _ _ _ hj,im _ _ h]
 split
 ·rename_i hi
  subst hi
  simp only[BitVec.getLsbD_shiftLeft,BitVec.getLsbD_one,hj,decide_true,Bool.true_and]
  by_cases hjn:j=n % 64
  ·have:64 * (n / 64)+j=n:=by omega
   simp[hjn,Nat.div_add_mod]
  ·have h1:64 * (n / 64)+j≠n:=by omega
   by_cases hlt:j<n % 64
   ·simp[h1,hlt]
   ·simp[h1,show j - n % 64≠0 by omega]
 ·rename_i hi
  have:64 * i+j≠n:=by omega
  simp[this]
theorem uB (u:BitVec 64)(k:Nat)(h:k<64):((u &&& 1#64 <<< k) != 0#64)=u.getLsbD k:=by
 cases hb:u.getLsbD k with
 | true=>
  rw[bne_iff_ne]
  intro h0
  have:=congrArg (fun v=>v.getLsbD k) h0
  simp only[BitVec.getLsbD_and,hb,BitVec.getLsbD_shiftLeft,BitVec.getLsbD_one,BitVec.getLsbD_zero] at this
  simp[h] at this
 | false=>
  rw[bne_eq_false_iff_eq]
  apply BitVec.eq_of_getLsbD_eq
  intro j hj
  simp only[BitVec.getLsbD_and,BitVec.getLsbD_shiftLeft,BitVec.getLsbD_one,BitVec.getLsbD_zero]
  by_cases hjk:j=k
  ·subst hjk;simp[hb]
  ·by_cases hlt:j<k
   ·simp[hlt]
   ·simp[show j - k≠0 by omega]
def ck (n:Int):Bool:=decide (0≤n)&&decide (n<1024)
theorem cX {n:Int}:ck n=true↔0≤n∧n<1024:=by simp[ck]
def has (S:BS)(n:Int):Bool:=ck n&&S.getLsbD n.toNat
def ins (S:BS)(n:Int):BS:=if ck n then S ||| sgl n.toNat else S
def del (S:BS)(n:Int):BS:=if ck n then S &&& ~~~sgl n.toNat else S
theorem uC {n:Int}(S:BS)(h:ck n=true):∀i,i<16→ak (ins S n) i=if i=(n / 64).toNat then ak S i ||| 1#64 <<< (n % 64).toNat else ak S i:=by
 intro i hi
 have:=cX.1 h
 rw[ins,if_pos h,kU,nC _ _ (by omega)]
 have h1:n.toNat / 64=(n / 64).toNat:=by omega
 have h2:n.toNat % 64=(n % 64).toNat:=by omega
 rw[h1,h2]
 split <;> simp
theorem uD {n:Int}(S:BS)(h:ck n=true):∀i,i<16→ak (del S n) i=if i=(n / 64).toNat then ak S i &&& ~~~(1#64 <<< (n % 64).toNat) else ak S i:=by
 intro i hi
 have:=cX.1 h
 rw[del,if_pos h,nB _ _ _ hi,nC _ _ (by omega)]
 have h1:n.toNat / 64=(n / 64).toNat:=by omega
 have h2:n.toNat % 64=(n % 64).toNat:=by omega
 rw[h1,h2]
 split
 ·rfl
 ·have : ~~~(0:BitVec 64)=BitVec.allOnes 64:=by simp
  rw[this,BitVec.and_allOnes]
theorem uE (S:BS)(n:Int)(h:ck n=true):((ak S (n / 64).toNat &&& 1#64 <<< (n % 64).toNat) != 0#64)=has S n:=by
 have:=cX.1 h
 rw[uB _ _ (by omega),dF _ _ _ (by omega),has,h,Bool.true_and]
 congr 1
 omega
theorem dW (S:BS):(ah S).cells=au S:=rfl
theorem uG:au 0=aZ (fun _=>0):=dU fun i _=>kV i
theorem uH {n:Int}(S:BS)(h:ck n=true):aZ (fun i=>if i=(n / 64).toNat then ak S (n / 64).toNat ||| 1#64 <<< (n % 64).toNat else ak S i)=au (ins S n):=
 dU fun i hi=>by
  rw[uC S h i hi]
  split
  ·rename_i hk;rw[hk]
  ·rfl
theorem uI {n:Int}(S:BS)(h:ck n=true):aZ (fun i=>if i=(n / 64).toNat then ak S (n / 64).toNat &&& ~~~(1#64 <<< (n % 64).toNat) else ak S i)=au (del S n):=
 dU fun i hi=>by
  rw[uD S h i hi]
  split
  ·rename_i hk;rw[hk]
  ·rfl
def z16:Array Value := #[Value.int .u64 0,.int .u64 0,.int .u64 0,.int .u64 0,.int .u64 0,.int .u64 0,.int .u64 0,.int .u64 0,.int .u64 0,.int .u64 0,.int .u64 0,.int .u64 0,.int .u64 0,.int .u64 0,.int .u64 0,.int .u64 0]
theorem cm : #[Value.int .u64 0,.int .u64 0,.int .u64 0,.int .u64 0,.int .u64 0,.int .u64 0,.int .u64 0,.int .u64 0,.int .u64 0,.int .u64 0,.int .u64 0,.int .u64 0,.int .u64 0,.int .u64 0,.int .u64 0,.int .u64 0]=au 0:=by
 rw[uG]
 rfl
theorem nD:Value.agg z16=ah 0:=by
 unfold z16 ah
 rw[cm]
end Go.Mono
namespace Go.Mono
open Go Go.RowKit

variable {P:Program}{w0:World}{L:Env}{dst:Option Tmp}{ty:TypeId}{pos:String}{aft:Array Edge}{g:Option (Nat×Bool)}

theorem uJ {e:TypeId}(he:P.underlying e=some (.int .u64))(d:Nat)(u v:BitVec 64)(w:World):(Op.equalIn (d+1) e (W u) (W v)).run P w=.ok (u==v) w:=by
 simp only[Op.equalIn,Sem.run_bind,run_underlying he,Result.andThen_ok,W,if_true]
 rw[kx]
 rfl
theorem nE {e:TypeId}(hs:TI P e false 1)(f:Nat→BitVec 64)(i:Nat)(h:i<16)(w:World):(part e (aZ f) i).run P w=.ok (W (f i)) w:=by
 simp[part,hs.agg,bX f i h]

theorem kW {t e:TypeId}(ht:P.underlying t=some (.array 16 e))(he:P.underlying e=some (.int .u64))(hs:TI P e false 1)(d:Nat)(f g:Nat→BitVec 64)(w:World) :
  (Op.equalIn (d+2) t (.agg (aZ f)) (.agg (aZ g))).run P w=.ok ((List.range 16).all fun i=>f i==g i) w:=by
 have key:∀(l:List Nat),(∀i∈l,i<16)→∀(k:Option Bool×PUnit→Sem Bool) (r:Bool),(k (none,⟨⟩)).run P w=.ok true w→(k (some false,⟨⟩)).run P w=.ok false w →
   ((
     forIn l (none,PUnit.unit) (fun i r=>do
     if !(← Op.equalIn (d+1) e (← part e (aZ f) (i * 1)) (← part e (aZ g) (i * 1))) then pure (ForInStep.done (some false,PUnit.unit))
     else do pure PUnit.unit;pure (ForInStep.yield (none,PUnit.unit)))) >>= k).run P w=.ok (l.all fun i=>f i==g i) w:=by
  intro l hl k r hk1 hk2
  induction l with
  | nil=>simpa using hk1
  | cons i l ih=>
   have hi:=hl i (by simp)
   have ih:=ih (fun j hj=>hl j (by simp[hj]))
   simp only[List.forIn_cons,Sem.run_bind,Nat.mul_one,nE hs f i hi,nE hs g i hi,Result.andThen_ok,uJ he] at ih ⊢
   cases hb:(f i==g i) with
   | false=>simpa[hb] using hk2
   | true=>simpa[hb] using ih
 rw[Op.equalIn]
 simp only[Sem.run_bind,run_underlying ht,Result.andThen_ok,hs.size]
 rw[Std.Legacy.Range.forIn_eq_forIn_range']
 have:=key (List.range 16) (fun i hi=>List.mem_range.1 hi) (fun r=>match r.1 with|some a=>pure a|none=>pure true) true rfl rfl
 simp only[Sem.run_bind] at this
 rw[List.range_eq_range'] at this ⊢
 refine Eq.trans ?_ this
 have e1:(Std.Legacy.Range.size [:16])=16:=rfl
 rw[e1]
 congr 1
 funext a w'
 cases a with
 | mk a b=>cases a <;> rfl
theorem ji (op:BinOp)(t:TypeId)(x y:Operand)(xs ys:Array Value)(hm:P.eqGuardType P.depth t=false)(w:World):(eqGuard op t x y (.agg xs) (.agg ys)).run P w=.ok () w:=run_eqGuard_agg w op t x y xs ys hm

theorem kY (S T:BS):((List.range 16).all fun i=>ak S i==ak T i)=(S==T):=by
 rw[Bool.eq_iff_iff]
 simp only[List.all_eq_true,List.mem_range,beq_iff_eq]
 exact⟨fun h=>kS h,fun h=>by subst h;simp⟩
theorem eqS {x y:Operand}{t yt e:TypeId}{S T:BS}(ht:P.underlying t=some (.array 16 e))(he:P.underlying e=some (.int .u64))(hs:TI P e false 1)(hm:P.eqGuardType P.depth t=false)(hx:opd L x=some (E (ah S)))(hy:opd L y=some (E (ah T))) :
  OpC P w0 L ⟨dst,.binOp .eql t x y yt,ty,pos,aft,g⟩ (E (.bool (S==T))):=
 iV hx hy (fun w=>ji _ _ _ _ _ _ hm w) rfl fun w _=>by
  rw[← kY]
  exact kW ht he hs 9998 (ak S) (ak T) w
theorem uK {t:TypeId}{ps:Array (Nat×Operand)}{vs:Operand→Value}{cs:Array Value}(hx:∀p∈ps,opd L p.2=some (E (vs p.2)))(hb:P.built t (ps.map fun (i,x)=>(i,vs x)).toList=some cs) :
  OpC P w0 L ⟨dst,.build t ps,ty,pos,aft,g⟩ (E (.agg cs)):=
 aQ fun ρ w _ hv=>by
  have e:(ps.map fun (i,x)=>(i,ρ x))=ps.map fun (i,x)=>(i,vs x):=Array.map_congr_left fun p hp=>by
   obtain⟨i,x⟩:=p
   have:=hv x (by simp only[Op.operands,List.mem_toArray,List.mem_map];exact⟨(i,x),by simpa using hp,rfl⟩) _ (hx _ hp)
   have h2:ρ x=vs x:=this
   simp only[h2]
  exact⟨_,by simp only[execOp,e,Sem.run_bind,run_build w t _ cs hb,Result.andThen_ok,Sem.run_pure],rfl⟩
theorem uL {t:TypeId}{cs:Array Value}(hb:P.built t []=some cs):OpC P w0 L ⟨dst,.build t #[],ty,pos,aft,g⟩ (E (.agg cs)):=
 uK (vs:=fun _=>undef) (fun p hp=>by simp at hp) (by simpa using hb)

section more
variable {x y:Operand}{t yt:TypeId}{u v:BitVec 64}
theorem uM (hx:opd L x=some (E (W u)))(hy:opd L y=some (E (W v))):OpC P w0 L ⟨dst,.binOp .mul t x y yt,ty,pos,aft,g⟩ (E (W (u * v))):=
 bW (by
  show pure (Value.int .u64 (IntKind.u64.wrap ((u.toNat:Int) * (v.toNat:Int))))=_
  have e:IntKind.u64.wrap ((u.toNat:Int) * (v.toNat:Int))=((u * v).toNat:Int):=by
   rw[BitVec.toNat_mul]
   simp only[IntKind.wrap,IntKind.bits,IntKind.signed,Bool.false_and,Bool.false_eq_true,if_false]
   simp
  rw[e];rfl) hx hy
theorem uN (hx:opd L x=some (E (W u))):OpC P w0 L ⟨dst,.unOp .neg t x,ty,pos,aft,g⟩ (E (W (-u))):=
 aQ fun ρ w _ hv=>by
  have h1:=opE hv (x:=x) (by simp[Op.operands]) hx
  refine⟨_,?_,rfl⟩
  have e:IntKind.u64.wrap (0 - (u.toNat:Int))=((-u).toNat:Int):=by
   rw[BitVec.toNat_neg]
   have:=u.isLt
   simp only[IntKind.wrap,IntKind.bits,IntKind.signed,Bool.false_and,Bool.false_eq_true,if_false]
   omega
  have e2:(Op.unary .neg (W u))=pure (Value.int .u64 (IntKind.u64.wrap (0 - (u.toNat:Int)))):=rfl
  simp only[execOp,h1,e2,e,Sem.run_bind,Sem.run_pure,Result.andThen_ok]
  rfl
theorem nF {s d:TypeId}{ks kd:IntKind}{n:Int}(hs:P.underlying s=some (.int ks))(hd:P.underlying d=some (.int kd))(hx:opd L x=some (E (.int ks n))) :
  OpC P w0 L ⟨dst,.convert s d x,ty,pos,aft,g⟩ (E (.int kd (kd.wrap n))):=
 aQ fun ρ w _ hv=>by
  have h1:=opE hv (x:=x) (by simp[Op.operands]) hx
  exact⟨_,by simp[execOp,h1,convert,run_underlying hs,run_underlying hd,Conv.intToInt],rfl⟩
theorem ldC {t:TypeId}{ad:Addr}{v:Value}(ht:TI P t false 1)(hx:opd L x=some (E (.pointer (some ad))))(hc:∀w,Ext w0 w→w.cell? ad=some v):OpC P w0 L ⟨dst,.load t x,ty,pos,aft,g⟩ (E v):=
 aQ fun ρ w he hv=>by
  have h1:=opE hv (x:=x) (by simp[Op.operands]) hx
  exact⟨_,by simp[execOp,h1,Instr.loadAt,Instr.sureAddr,ic ht (hc w he)],rfl⟩
theorem min2 {tys:Array TypeId}{k:IntKind}{a b:Int}(hx:opd L x=some (E (.int k a)))(hy:opd L y=some (E (.int k b))) :
  OpC P w0 L ⟨dst,.call ⟨.builtin .min,#[x,y],tys⟩,ty,pos,aft,g⟩ (E (.int k (min a b))):=
 aQ fun ρ w _ hv=>by
  have h1:=opE hv (x:=x) (by simp[Op.operands,Call.operands]) hx
  have h2:=opE hv (x:=y) (by simp[Op.operands,Call.operands]) hy
  refine⟨_,?_,rfl⟩
  have e:(if b<a then b else a)=min a b:=by rw[Int.min_def];split <;> split <;> omega
  simp[execOp,resolve,invoke,builtin,h1,h2,Builtin.min_,Builtin.min2,e]
theorem max2 {tys:Array TypeId}{k:IntKind}{a b:Int}(hx:opd L x=some (E (.int k a)))(hy:opd L y=some (E (.int k b))) :
  OpC P w0 L ⟨dst,.call ⟨.builtin .max,#[x,y],tys⟩,ty,pos,aft,g⟩ (E (.int k (max a b))):=
 aQ fun ρ w _ hv=>by
  have h1:=opE hv (x:=x) (by simp[Op.operands,Call.operands]) hx
  have h2:=opE hv (x:=y) (by simp[Op.operands,Call.operands]) hy
  refine⟨_,?_,rfl⟩
  have e:(if b > a then b else a)=max a b:=by rw[Int.max_def];split <;> split <;> omega
  simp[execOp,resolve,invoke,builtin,h1,h2,Builtin.max_,Builtin.max2,e]
theorem uO {fn:Fn}{xs:Array Operand}{vs:Operand→Value}(hx:∀x∈xs,opd L x=some (E (vs x))) :
  OpC P w0 L ⟨dst,.makeFunc fn #[] xs,ty,pos,aft,g⟩ (E (.func fn #[] (xs.map vs))):=
 aQ fun ρ w _ hv=>by
  have e:xs.map ρ=xs.map vs:=Array.map_congr_left fun x h=>hv x (by simp[Op.operands,h]) _ (hx x h)
  exact⟨_,by simp[execOp,Instr.makeFunc,e],rfl⟩
end more
end Go.Mono
namespace Go.Mono
open Go Go.RowKit
structure Enc (α:Type) where
 k:Nat
 agg:Bool
 r:(Nat→Prop)→World→α→List Value→Prop
 pos:0<k
 k1:agg=false→k=1
 len:∀{G w x cs},r G w x cs→cs.length=k
 one:∀{G w x cs},r G w x cs→∀u∈cs,u.oneCell'=true
 pres:∀{G w w' x cs},r G w x cs→(∀b,b<w.heap.size→¬G b→w'.heap[b]?=w.heap[b]?)→w.heap.size≤w'.heap.size→r G w' x cs
 weak:∀{G G' w x cs},r G w x cs→(∀b,b<w.heap.size→G' b→G b)→r G' w x cs

def Enc.pack {α:Type}(e:Enc α)(cs:List Value):Value:=match e.agg with
 | true=>.agg cs.toArray
 | false=>cs.headD undef

section enc
variable {α β:Type}{e:Enc α}{G G':Nat→Prop}{w w':World}{x:α}{cs:List Value}

theorem Enc.ext (h:e.r G w x cs)(k:Ext w w'):e.r G w' x cs:=e.pres h (fun b hb _=>k.block b hb) k.size
theorem Enc.gro {row:Option Nat}(h:e.r G w x cs)(k:w.grownBy w' row)(hG:∀b,row=some b→G b):e.r G w' x cs:=
 e.pres h (fun b hb hn=>k.block b hb (fun he=>hn (hG b he.symm))) k.size
theorem uP {u:Value}(h:u.oneCell'=true):u.cells = #[u]:=by cases u <;> simp[Value.cells,Value.oneCell'] at h ⊢
theorem Enc.pack_cells (h:e.r G w x cs):(e.pack cs).cells=cs.toArray:=by
 unfold Enc.pack
 cases ha:e.agg with
 | true=>rfl
 | false=>
  have hl:=e.len h
  rw[e.k1 ha] at hl
  match cs,hl with
  | [u],_=>simp[uP (e.one h u (by simp))]
def Dv (e:Enc α)(G:Nat→Prop)(x:α):VA:=
 ⟨fun v w=>∃cs,e.r G w x cs∧v=e.pack cs,fun v w w' k ⟨cs,h,hv⟩=>⟨cs,Enc.ext h k,hv⟩⟩
theorem Dv.weak {v:Value}(h:(Dv e G x).p v w)(hG:∀b,b<w.heap.size→G' b→G b):(Dv e G' x).p v w:=by
 obtain⟨cs,h,hv⟩:=h
 exact⟨cs,e.weak h hG,hv⟩
def dX (k:Nat)(agg:Bool)(f:α→List Value)(pos:0<k)(k1:agg=false→k=1)(hl:∀x,(f x).length=k)(h1:∀x,∀u∈f x,u.oneCell'=true):Enc α where
 k:=k
 agg:=agg
 r:=fun _ _ x cs=>cs=f x
 pos:=pos
 k1:=k1
 len:=fun h=>by rw[h];exact hl _
 one:=fun h=>by rw[h];exact h1 _
 pres:=fun h _ _=>h
 weak:=fun h _=>h
def aA:Enc Int:=dX 1 false (fun n=>[.int .i64 n]) (by decide) (fun _=>rfl) (fun _=>rfl) (fun x u hu=>by simp at hu;subst hu;rfl)
def cL:Enc Bool:=dX 1 false (fun b=>[.bool b]) (by decide) (fun _=>rfl) (fun _=>rfl) (fun x u hu=>by simp at hu;subst hu;rfl)
def aX:Enc BS:=dX 16 true (fun S=>(au S).toList) (by decide) (fun h=>by cases h) (fun S=>by rw[Array.length_toList,bh]) (fun S u hu=>by
 have:=aU (ak S)
 rw[Array.all_eq_true_iff_forall_mem] at this
 exact this u (by simpa[au] using hu))

theorem Dv.int {v:Value}{n:Int}:(Dv aA G n).p v w↔v=.int .i64 n:=⟨fun⟨cs,h,hv⟩=>by cases h;exact hv,fun h=>⟨_,rfl,h⟩⟩
theorem Dv.bool {v:Value}{n:Bool}:(Dv cL G n).p v w↔v=.bool n:=⟨fun⟨cs,h,hv⟩=>by cases h;exact hv,fun h=>⟨_,rfl,h⟩⟩
theorem Dv.set {v:Value}{S:BS}:(Dv aX G S).p v w↔v=ah S:=⟨fun⟨cs,h,hv⟩=>by cases h;exact hv,fun h=>⟨_,rfl,h⟩⟩
def prE (e:Enc α)(f:Enc β):Enc (α×β) where
 k:=e.k+f.k
 agg:=true
 r:=fun G w x cs=>∃c d,cs=c++d∧e.r G w x.1 c∧f.r G w x.2 d
 pos:=by have:=e.pos;omega
 k1:=fun h=>by cases h
 len:=fun⟨c,d,h,h1,h2⟩=>by rw[h,List.length_append,e.len h1,f.len h2]
 one:=fun⟨c,d,h,h1,h2⟩ u hu=>by
  rw[h,List.mem_append] at hu
  exact hu.elim (e.one h1 u) (f.one h2 u)
 pres:=fun⟨c,d,h,h1,h2⟩ k l=>⟨c,d,h,e.pres h1 k l,f.pres h2 k l⟩
 weak:=fun⟨c,d,h,h1,h2⟩ k=>⟨c,d,h,e.weak h1 k,f.weak h2 k⟩
def Cells (e:Enc α)(G:Nat→Prop)(w:World):List α→List Value→Prop
 | [],cs=>cs=[]
 | x::xs,cs=>∃c d,cs=c++d∧e.r G w x c∧Cells e G w xs d

theorem Cells.len:∀{xs:List α} {cs:List Value},Cells e G w xs cs→cs.length=xs.length * e.k
 | [],cs,h=>by cases h;simp
 | x::xs,cs,⟨c,d,h,h1,h2⟩=>by rw[h,List.length_append,e.len h1,Cells.len h2,List.length_cons,Nat.succ_mul];omega
theorem Cells.one:∀{xs:List α} {cs:List Value},Cells e G w xs cs→∀u∈cs,u.oneCell'=true
 | [],cs,h=>by cases h;simp
 | x::xs,cs,⟨c,d,h,h1,h2⟩=>fun u hu=>by
  rw[h,List.mem_append] at hu
  exact hu.elim (e.one h1 u) (Cells.one h2 u)
theorem Cells.pres:∀{xs:List α} {cs:List Value},Cells e G w xs cs→(∀b,b<w.heap.size→¬G b→w'.heap[b]?=w.heap[b]?)→w.heap.size≤w'.heap.size→Cells e G w' xs cs
 | [],cs,h,_,_=>h
 | x::xs,cs,⟨c,d,h,h1,h2⟩,k,l=>⟨c,d,h,e.pres h1 k l,Cells.pres h2 k l⟩
theorem Cells.weak:∀{xs:List α} {cs:List Value},Cells e G w xs cs→(∀b,b<w.heap.size→G' b→G b)→Cells e G' w xs cs
 | [],cs,h,_=>h
 | x::xs,cs,⟨c,d,h,h1,h2⟩,k=>⟨c,d,h,e.weak h1 k,Cells.weak h2 k⟩
theorem Cells.app:∀{xs ys:List α} {cs ds:List Value},Cells e G w xs cs→Cells e G w ys ds→Cells e G w (xs++ys) (cs++ds)
 | [],ys,cs,ds,h,k=>by cases h;exact k
 | x::xs,ys,cs,ds,⟨c,d,h,h1,h2⟩,k=>⟨c,d++ds,by rw[h,List.append_assoc],h1,Cells.app h2 k⟩
theorem Cells.get:∀{xs:List α} {cs:List Value} {j:Nat} {x:α},Cells e G w xs cs→xs[j]?=some x→∃c,e.r G w x c∧∀i u,c[i]?=some u→cs[j * e.k+i]?=some u
 | [],cs,j,x,h,hj=>by simp at hj
 | y::xs,cs,0,x,⟨c,d,h,h1,h2⟩,hj=>by
  simp at hj
  subst hj
  exact⟨c,h1,fun i u hu=>by
   rw[Nat.zero_mul,Nat.zero_add,h,List.getElem?_append_left (List.getElem?_eq_some_iff.1 hu).1];exact hu⟩
 | y::xs,cs,j+1,x,⟨c,d,h,h1,h2⟩,hj=>by
  obtain⟨c',h3,h4⟩:=Cells.get h2 (by simpa using hj)
  refine⟨c',h3,fun i u hu=>?_⟩
  rw[h,List.getElem?_append_right (by rw[e.len h1,Nat.succ_mul];omega),e.len h1,show (j+1) * e.k+i - e.k=j * e.k+i by rw[Nat.succ_mul];omega]
  exact h4 i u hu
theorem Cells.set:∀{xs:List α} {cs c':List Value} {j:Nat} {x:α},Cells e G w xs cs→j<xs.length→e.r G w x c'→Cells e G w (xs.set j x) (cs.take (j * e.k)++c'++cs.drop (j * e.k+e.k))
 | [],cs,c',j,x,h,hj,_=>by simp at hj
 | y::xs,cs,c',0,x,⟨c,d,h,h1,h2⟩,hj,hx=>by
  refine⟨c',d,?_,hx,h2⟩
  have:=e.len h1
  rw[h,Nat.zero_mul,Nat.zero_add,List.take_zero,List.nil_append,← this,List.drop_left]
 | y::xs,cs,c',j+1,x,⟨c,d,h,h1,h2⟩,hj,hx=>by
  refine⟨c,d.take (j * e.k)++c'++d.drop (j * e.k+e.k),?_,h1,Cells.set h2 (by simpa using hj) hx⟩
  have:=e.len h1
  have e1:(j+1) * e.k=c.length+j * e.k:=by rw[Nat.succ_mul];omega
  rw[h,e1,List.take_length_add_append,Nat.add_assoc,List.drop_length_add_append]
  simp
theorem Cells.take:∀{xs:List α} {cs:List Value} (n:Nat),Cells e G w xs cs→Cells e G w (xs.take n) (cs.take (n * e.k))
 | [],cs,n,h=>by cases h;simp[Cells]
 | x::xs,cs,0,h=>by simp[Cells]
 | x::xs,cs,n+1,⟨c,d,h,h1,h2⟩=>by
  refine⟨c,d.take (n * e.k),?_,h1,Cells.take n h2⟩
  have:=e.len h1
  have e1:(n+1) * e.k=c.length+n * e.k:=by rw[Nat.succ_mul];omega
  rw[h,e1,List.take_length_add_append]
theorem Cells.drop:∀{xs:List α} {cs:List Value} (n:Nat),Cells e G w xs cs→Cells e G w (xs.drop n) (cs.drop (n * e.k))
 | [],cs,n,h=>by cases h;simp[Cells]
 | x::xs,cs,0,h=>by simpa[Cells] using h
 | x::xs,cs,n+1,⟨c,d,h,h1,h2⟩=>by
  have:=e.len h1
  have e1:(n+1) * e.k=c.length+n * e.k:=by rw[Nat.succ_mul];omega
  rw[h,e1,List.drop_length_add_append]
  exact Cells.drop n h2
def At (w:World)(ad:Addr)(cs:List Value):Prop:=∀i u,cs[i]?=some u→w.cell? (ad.add i)=some u
theorem gn (ad:Addr)(i:Nat):(ad.add i).block=ad.block:=by unfold Addr.add;split <;> rfl
theorem add_add (ad:Addr)(i j:Nat):(ad.add i).add j=ad.add (i+j):=by
 unfold Addr.add
 by_cases hi:i=0
 ·subst hi;simp
 ·by_cases hj:j=0
  ·subst hj;simp[hi]
  ·have:¬i+j=0:=by omega
   simp[hi,hj,Nat.add_assoc]
theorem At.pres {ad:Addr}(h:At w ad cs)(hb:w'.heap[ad.block]?=w.heap[ad.block]?):At w' ad cs:=fun i u hu=>by
 rw[World.cell?_of_block (w:=w) (by rw[gn];exact hb)]
 exact h i u hu
theorem At.sub {ad:Addr}{c:List Value}{n:Nat}(h:At w ad cs)(hc:∀i u,c[i]?=some u→cs[n+i]?=some u):At w (ad.add n) c:=fun i u hu=>by
 rw[add_add]
 exact h _ u (hc i u hu)
def SlR (e:Enc α)(G:Nat→Prop)(w:World)(xs:List α)(v:Value):Prop:=
 (v=.slice none 0 0∧xs=[])∨∃ad cap cs,v=.slice (some ad) xs.length cap∧xs.length≤cap∧¬G ad.block∧ad.block<w.heap.size∧Cells e G w xs cs∧At w ad cs
def slE (e:Enc α):Enc (List α) where
 k:=1
 agg:=false
 r:=fun G w xs cs=>∃v,cs=[v]∧SlR e G w xs v
 pos:=by decide
 k1:=fun _=>rfl
 len:=fun⟨v,h,_⟩=>by rw[h];rfl
 one:=fun⟨v,h,hv⟩ u hu=>by
  rw[h] at hu
  simp at hu
  subst hu
  rcases hv with ⟨rfl,_⟩|⟨ad,cap,cs,rfl,_⟩ <;> rfl
 pres:=fun⟨v,h,hv⟩ k l=>⟨v,h,by
  rcases hv with hv|⟨ad,cap,cs,h1,h2,h3,h4,h5,h6⟩
  ·exact .inl hv
  ·exact .inr ⟨ad,cap,cs,h1,h2,h3,Nat.lt_of_lt_of_le h4 l,h5.pres k l,h6.pres (k _ h4 h3)⟩⟩
 weak:=fun⟨v,h,hv⟩ k=>⟨v,h,by
  rcases hv with hv|⟨ad,cap,cs,h1,h2,h3,h4,h5,h6⟩
  ·exact .inl hv
  ·exact .inr ⟨ad,cap,cs,h1,h2,fun hg=>h3 (k _ h4 hg),h4,h5.weak k,h6⟩⟩
theorem Dv.sl {v:Value}{xs:List α}:(Dv (slE e) G xs).p v w↔SlR e G w xs v:=
 ⟨fun⟨cs,⟨u,h,hu⟩,hv⟩=>by subst h;rw[hv];exact hu,fun h=>⟨[v],⟨v,rfl,h⟩,rfl⟩⟩
theorem Dv.nil:(Dv (slE e) G []).p (.slice none 0 0) w:=Dv.sl.2 (.inl ⟨rfl,rfl⟩)
def PtR (e:Enc α)(G:Nat→Prop)(w:World)(x:α)(ad:Addr):Prop:=¬G ad.block∧ad.block<w.heap.size∧∃cs,e.r G w x cs∧At w ad cs
def ptE (e:Enc α):Enc (Option α) where
 k:=1
 agg:=false
 r:=fun G w x cs=>(x=none∧cs=[.pointer none])∨∃y ad,x=some y∧cs=[.pointer (some ad)]∧PtR e G w y ad
 pos:=by decide
 k1:=fun _=>rfl
 len:=fun h=>by rcases h with ⟨_,h⟩|⟨y,ad,_,h,_⟩ <;> rw[h] <;> rfl
 one:=fun h u hu=>by
  rcases h with ⟨_,h⟩|⟨y,ad,_,h,_⟩ <;> (rw[h] at hu;simp at hu;subst hu;rfl)
 pres:=fun h k l=>by
  rcases h with h|⟨y,ad,h1,h2,h3,h4,cs,h5,h6⟩
  ·exact .inl h
  ·exact .inr ⟨y,ad,h1,h2,h3,Nat.lt_of_lt_of_le h4 l,cs,e.pres h5 k l,h6.pres (k _ h4 h3)⟩
 weak:=fun h k=>by
  rcases h with h|⟨y,ad,h1,h2,h3,h4,cs,h5,h6⟩
  ·exact .inl h
  ·exact .inr ⟨y,ad,h1,h2,fun hg=>h3 (k _ h4 hg),h4,cs,e.weak h5 k,h6⟩
theorem Dv.pt {v:Value}:(Dv (ptE e) G (some x)).p v w↔∃ad,v=.pointer (some ad)∧PtR e G w x ad:=
 ⟨fun⟨cs,h,hv⟩=>(by
  rcases h with ⟨h,_⟩|⟨y,ad,h1,h2,h3⟩
  ·cases h
  ·cases h1;subst h2;exact⟨ad,hv,h3⟩),fun⟨ad,h1,h2⟩=>⟨[v],.inr ⟨x,ad,rfl,by rw[h1],h2⟩,rfl⟩⟩
structure Fld (e:Enc α)(off:Nat)(f:Enc β)(g:α→β):Prop where
 at':∀{G w x cs},e.r G w x cs→∃c,f.r G w (g x) c∧∀i u,c[i]?=some u→cs[off+i]?=some u
theorem Fld.refl:Fld e 0 e (fun x=>x):=⟨fun h=>⟨_,h,fun i u hu=>by rw[Nat.zero_add];exact hu⟩⟩
theorem Fld.fst {γ:Type}{f:Enc β}{e':Enc γ}{g:α→γ}{off:Nat}(F:Fld e off e' g):Fld (prE e f) off e' (fun x=>g x.1):=⟨fun⟨c,d,h,h1,h2⟩=>by
 obtain⟨c',h3,h4⟩:=F.at' h1
 refine⟨c',h3,fun i u hu=>?_⟩
 have:=h4 i u hu
 rw[h,List.getElem?_append_left (List.getElem?_eq_some_iff.1 this).1]
 exact this⟩
theorem Fld.snd {γ:Type}{f:Enc β}{e':Enc γ}{g:β→γ}{off n:Nat}(F:Fld f off e' g)(hn:n=e.k+off):Fld (prE e f) n e' (fun x=>g x.2):=⟨fun⟨c,d,h,h1,h2⟩=>by
 obtain⟨c',h3,h4⟩:=F.at' h2
 refine⟨c',h3,fun i u hu=>?_⟩
 have:=h4 i u hu
 rw[h,List.getElem?_append_right (by rw[e.len h1];omega),e.len h1,show n+i - e.k=off+i by omega]
 exact this⟩
end enc

theorem nG {γ:Type}(f:γ→Value×Nat→γ)(init:γ)(c:List Value):c.toArray.zipIdx.foldl f init=c.zipIdx.foldl f init:=by
 rw[← Array.foldl_toList,Array.toList_zipIdx]
section ops
variable {P:Program}{w0:World}{L:Env}{dst:Option Tmp}{ty:TypeId}{pos:String}{aft:Array Edge}{g:Option (Nat×Bool)}
variable {α β:Type}{e:Enc α}{G:Nat→Prop}{x y:Operand}{t:TypeId}{xs:List α}{z:α}
def Is (L:Env)(w0:World)(x:Operand)(A:VA):Prop:=∃B,opd L x=some B∧∀v w,Ext w0 w→B.p v w→A.p v w
theorem isR {A:VA}(h:opd L x=some A):Is L w0 x A:=⟨A,h,fun _ _ _ h=>h⟩
theorem isE {A:VA}{v:Value}(h:opd L x=some (E v))(hA:A.p v w0):Is L w0 x A:=⟨_,h,fun u w he hu=>by cases hu;exact A.st _ _ _ he hA⟩
theorem isI {n:Int}(h:opd L x=some (E (.int .i64 n))):Is L w0 x (Dv aA G n):=isE h (Dv.int.2 rfl)
theorem isS {S:BS}(h:opd L x=some (E (ah S))):Is L w0 x (Dv aX G S):=isE h (Dv.set.2 rfl)
theorem Is.v {A:VA}{ρ:Operand→Value}{w:World}{o:Oper}(h:Is L w0 x A)(he:Ext w0 w)(hv:∀x∈o.op.operands,∀B,opd L x=some B→B.p (ρ x) w)(hx:x∈o.op.operands):A.p (ρ x) w:=by
 obtain⟨B,h1,h2⟩:=h
 exact h2 _ _ he (hv x hx _ h1)

theorem bi {te:TypeId}(ht:P.underlying t=some (.slice te))(hx:Is L w0 x (Dv (slE e) G xs)):OpC P w0 L ⟨dst,.call ⟨.builtin .len,#[x],#[t]⟩,ty,pos,aft,g⟩ (E (.int .i64 (xs.length:Nat))):=
 aQ fun ρ w he hv=>by
  have h:=Dv.sl.1 (hx.v he hv (by simp[Op.operands,Call.operands]))
  refine⟨_,?_,rfl⟩
  rcases h with ⟨h,rfl⟩|⟨ad,cap,cs,h,_⟩
  ·simp[execOp,resolve,invoke,builtin,Builtin.len_,h,run_underlying ht,goInt]
  ·simp[execOp,resolve,invoke,builtin,Builtin.len_,h,run_underlying ht,goInt]

theorem ba {te:TypeId}{k:IntKind}{i:Int}{j:Nat}(ht:P.underlying t=some (.slice te))(hs:(P.info? te).map (·.size)=some e.k)(hx:Is L w0 x (Dv (slE e) G xs))(hy:opd L y=some (E (.int k i)))(h0:i=(j:Int))(hz:xs[j]?=some z) :
  OpC P w0 L ⟨dst,.indexAddr t x y,ty,pos,aft,g⟩ (Dv (ptE e) G (some z)):=
 aQ fun ρ w he hv=>by
  obtain rfl:i.toNat=j:=by omega
  replace h0:0≤i:=by omega
  have h:=Dv.sl.1 (hx.v he hv (by simp[Op.operands]))
  have h2:=opE hv (x:=y) (by simp[Op.operands]) hy
  have hlt:=(List.getElem?_eq_some_iff.1 hz).1
  rcases h with ⟨h,rfl⟩|⟨ad,cap,cs,h,_,h3,h4,h5,h6⟩
  ·simp at hlt
  ·obtain⟨c,h7,h8⟩:=h5.get hz
   have hi:0≤i∧i<(xs.length:Int):=by omega
   have hsz:∀w,(sizeOf te).run P w=.ok e.k w:=fun w=>by
    cases hi:P.info? te with
    | none=>simp[hi] at hs
    | some i=>simp[hi] at hs;simp[sizeOf,typeInfo,hi,hs]
   refine⟨.pointer (some (ad.add (i.toNat * e.k))),?_,Dv.pt.2 ⟨_,rfl,by rw[gn];exact h3,by rw[gn];exact h4,c,h7,h6.sub h8⟩⟩
   simp[execOp,h,h2,Instr.indexAt,asIntOf,run_underlying ht,hi,hsz]

theorem aH {fs:Array Field}{f:Nat}{fl:Field}{s:Nat}{ag:Bool}{e':Enc β}{q:α→β}(ht:P.underlying t=some (.struct fs))(hf:fs[f]?=some fl)(hs:TI P fl.type ag s)(h0:0<s)(F:Fld e fl.offset e' q)
  (hx:Is L w0 x (Dv (ptE e) G (some z))):OpC P w0 L ⟨dst,.fieldAddr t x f,ty,pos,aft,g⟩ (Dv (ptE e') G (some (q z))):=
 aQ fun ρ w he hv=>by
  obtain⟨ad,h1,h3,h4,cs,h5,h6⟩:=Dv.pt.1 (hx.v he hv (by simp[Op.operands]))
  obtain⟨c,h7,h8⟩:=F.at' h5
  have hne:s≠0:=by omega
  refine⟨.pointer (some (ad.add fl.offset)),?_,Dv.pt.2 ⟨_,rfl,by rw[gn];exact h3,by rw[gn];exact h4,c,h7,h6.sub h8⟩⟩
  simp[execOp,h1,Instr.fieldAt,Instr.sureAddr,run_underlying ht,hf,fieldPlace,hs.size,hne]

theorem uQ {w:World}{ad:Addr}{cs:List Value}(ht:TI P t e.agg e.k)(h:e.r G w z cs)(ha:At w ad cs):(loadVar t ad).run P w=.ok (e.pack cs) w:=by
 cases hag:e.agg with
 | true=>
  rw[hag] at ht
  rw[iX ht (e.len h) ha,Enc.pack,hag]
 | false=>
  rw[hag,e.k1 hag] at ht
  have hl:=e.len h
  rw[e.k1 hag] at hl
  match cs,hl with
  | [u],_=>
   have:w.cell? ad=some u:=by
    have:=ha 0 u rfl
    simpa[Addr.add] using this
   rw[ic ht this,Enc.pack,hag]
   rfl
theorem ldD (ht:TI P t e.agg e.k)(hx:Is L w0 x (Dv (ptE e) G (some z))):OpC P w0 L ⟨dst,.load t x,ty,pos,aft,g⟩ (Dv e G z):=
 aQ fun ρ w he hv=>by
  obtain⟨ad,h1,_,_,cs,h5,h6⟩:=Dv.pt.1 (hx.v he hv (by simp[Op.operands]))
  exact⟨_,by simp[execOp,h1,Instr.loadAt,Instr.sureAddr,uQ ht h5 h6],cs,h5,rfl⟩
theorem OpC.conv {o:Oper}{A B:VA}(h:OpC P w0 L o A)(k:∀v w,A.p v w→B.p v w):OpC P w0 L o B:=
 ⟨fun ρ w he hv=>(h.out ρ w he hv).mono fun v w' ⟨h1,h2⟩=>⟨h1,k _ _ h2⟩⟩
theorem ldI {n:Int}(ht:TI P t false 1)(hx:Is L w0 x (Dv (ptE aA) G (some n))):OpC P w0 L ⟨dst,.load t x,ty,pos,aft,g⟩ (E (.int .i64 n)):=(ldD (e:=aA) ht hx).conv fun v w=>Dv.int.1
theorem ldB {n:Bool}(ht:TI P t false 1)(hx:Is L w0 x (Dv (ptE cL) G (some n))):OpC P w0 L ⟨dst,.load t x,ty,pos,aft,g⟩ (E (.bool n)):=(ldD (e:=cL) ht hx).conv fun v w=>Dv.bool.1
theorem ldS {S:BS}(ht:TI P t true 16)(hx:Is L w0 x (Dv (ptE aX) G (some S))):OpC P w0 L ⟨dst,.load t x,ty,pos,aft,g⟩ (E (ah S)):=(ldD (e:=aX) ht hx).conv fun v w=>Dv.set.1
theorem bL {te:TypeId}{z0:Value}{sz bz:Nat}(ht:P.underlying t=some (.slice te))(hi:(P.info? te).map (fun i=>(i.zero,i.size,i.bytes))=some (some z0,sz,bz))(hk:sz=e.k)(hk2:e.k≤16777216)(hz0:z0.cells.size=e.k)(hG:∀b,G b→b<w0.heap.size)(hx:Is L w0 x (Dv e G z)) :
  OpC P w0 L ⟨dst,.buildSlice t 1 #[(0,x)],ty,pos,aft,g⟩ (Dv (slE e) G [z]):=by
 refine⟨fun ρ w he hv=>?_⟩
 obtain⟨c,h1,h1'⟩:=hx.v he hv (by simp[Op.operands])
 obtain⟨it,hit,hiz,hsz,_⟩:=info_parts hi
 subst hk
 have l1:=e.len h1
 have hpos:=e.pos
 have p1:(ρ x).cells=c.toArray:=by rw[h1'];exact e.pack_cells h1
 have hc:∀(c:List Value) (n:Nat) (cells:Array Value),n+c.length=cells.size →
   (c.zipIdx n).foldl (fun cs (p:Value×Nat)=>cs.setIfInBounds (0+p.2) p.1) cells=(cells.toList.take n++c).toArray:=by
  intro c
  induction c with
  | nil=>intro n cells h;simp at h;subst h;rw[← Array.length_toList,List.take_length];simp
  | cons u c ih=>
   intro n cells h
   simp only[List.length_cons] at h
   rw[List.zipIdx_cons,List.foldl_cons,ih (n+1) _ (by simp;omega)]
   simp only[Array.toList_setIfInBounds,Nat.zero_add]
   congr 1
   have hlt:n<cells.toList.length:=by simp;omega
   rw[List.take_succ_eq_append_getElem (by simpa using hlt),List.getElem_set_self,List.take_set_of_le (Nat.le_refl _)]
   simp
 have hr:=run_buildSlice (P:=P) w t te 1 #[(0,ρ x)] c.toArray it z0 ht hit hiz (by rw[hsz];omega) (by rw[hsz];omega) (by
  have n1:¬(0 * e.k+e.k > 1 * e.k):=by omega
  simp only[Instr.fill,p1,List.size_toArray,l1,hsz,ne_eq,not_true_eq_false,decide_false,Bool.false_or,Array.size_map,Array.size_range,n1,Bool.false_eq_true,if_false,nG]
  simp only[Nat.zero_mul]
  rw[hc c 0 _ (by simp;omega)]
  simp)
 have hrun:(execOp ρ ⟨dst,.buildSlice t 1 #[(0,x)],ty,pos,aft,g⟩).run P w=.ok (.value (.slice (some ⟨w.heap.size,0,none⟩) 1 1)) (w.alloc (.cells c.toArray te)):=by
  simp only[execOp,Sem.run_bind,List.map_toArray,List.map_cons,List.map_nil,hr,Result.andThen_ok,Sem.run_pure]
 simp only[OpR,hrun]
 have hx:=dA w (.cells c.toArray te)
 refine⟨hx,Dv.sl.2 (.inr ⟨_,1,c,rfl,Nat.le_refl _,fun hg=>?_,by simp,⟨c,[],by simp,Enc.ext h1 hx,rfl⟩,fun i u hu=>?_⟩)⟩
 ·exact absurd (hG _ hg) (Nat.not_lt.2 he.size)
 ·rw[Addr.add_lit,Nat.zero_add,(gh w c.toArray te).cell i]
  rw[List.getElem?_toArray];exact hu
end ops
end Go.Mono
namespace Go.Mono
open Go Go.RowKit
def GB (W:World)(G:Nat→Prop)(b:Nat):Prop:=G b∨W.heap.size≤b
def GO (G:Nat→Prop)(v:Value)(b:Nat):Prop:=G b∨v.ownBlock=some b
def G1 (G:Nat→Prop)(c:Nat)(b:Nat):Prop:=G b∨b=c
def G0 (_:Nat):Prop:=False

section
variable {α β:Type}{e:Enc α}{G G':Nat→Prop}{w w' W:World}{x:α}{xs:List α}{v:Value}

theorem Dv.toB (h:(Dv e G x).p v W):(Dv e (GB W G) x).p v W:=Dv.weak h fun b hb h=>h.elim id fun h=>absurd hb (Nat.not_lt.2 h)
class AvR (row:Option Nat)(A:VA):Prop where
 av:∀v w w',w.grownBy w' row→A.p v w→A.p v w'
class fN (row:Option Nat)(L:Env):Prop where
 av:∀t A,aI L t=some A→∀v w w',w.grownBy w' row→A.p v w→A.p v w'
class InR (G:Nat→Prop)(row:Option Nat):Prop where
 in':∀b,row=some b→G b
instance (row:Option Nat)(v:Value):AvR row (E v):=⟨fun _ _ _ _ h=>h⟩
instance (row:Option Nat):AvR row Any:=⟨fun _ _ _ _ h=>h⟩
instance (row:Option Nat)(e:Enc α)(G:Nat→Prop)(x:α)[h:InR G row]:AvR row (Dv e G x):=⟨fun v w w' hg ⟨cs,h1,h2⟩=>⟨cs,Enc.gro h1 hg h.in',h2⟩⟩
instance (row:Option Nat):fN row []:=⟨fun t A h=>by simp[aI] at h⟩
instance (row:Option Nat)(k:Nat)(A:VA)(L:Env)[h:AvR row A][hl:fN row L]:fN row ((k,A)::L):=⟨fun t B ht=>by
 by_cases hkt:k=t
 ·subst hkt;rw[cF] at ht;cases ht;exact h.av
 ·rw[cG _ _ hkt] at ht;exact hl.av t B ht⟩
instance (b:Nat)(e:Enc α)(G:Nat→Prop)(x:α)[h:InR G (some b)]:AvC b (Dv e G x):=⟨fun v w w' hg ⟨cs,h1,h2⟩=>⟨cs,Enc.gro h1 hg h.in',h2⟩⟩
instance (G:Nat→Prop)(v:Value):InR (GO G v) v.ownBlock:=⟨fun b h=>.inr h⟩
instance (G:Nat→Prop)(b:Nat):InR (G1 G b) (some b):=⟨fun c h=>.inr (by cases h;rfl)⟩
theorem InR.gb {b:Nat}(h:W.heap.size≤b):InR (GB W G) (some b):=⟨fun c hc=>.inr (by cases hc;exact h)⟩
theorem FrD.gro {n:Nat}{ds:List Deferred}{a:Act}{L:Env}{row:Option Nat}[h:fN row L](hf:FrD n ds a w L)(hg:w.grownBy w' row):FrD n ds a w' L:=
 ⟨hf.size,hf.defers,fun t A ht=>h.av t A ht _ _ _ hg (hf.val t A ht)⟩
theorem Ext.gro {row:Option Nat}(e:Ext W w)(h:w.grownBy w' row)(hb:∀b,row=some b→W.heap.size≤b):Ext W w':=Below.grown e h e.size hb
theorem Blk.gro {row:Option Nat}{b:Nat}{cs:Array Value}{t:TypeId}(h:Blk w b cs t)(hg:w.grownBy w' row)(hne:row≠some b):Blk w' b cs t:=
 (hg.block b h.lt (fun e=>hne e.symm)).trans h
structure OwR (e:Enc α)(ty:TypeId)(B:Nat)(G:Nat→Prop)(w:World)(xs:List α)(v:Value):Prop where
 own:∃cs,w.ownsRow B ty e.k v xs.length cs∧Cells e (GO G v) w xs cs
 av:∀b,G b→b<B
 base:B≤w.heap.size
theorem OwR.lt {ty:TypeId}{B:Nat}(h:OwR e ty B G w xs v){b:Nat}(hb:v.ownBlock=some b):B≤b∧b<w.heap.size:=by
 obtain⟨cs,h1,_⟩:=h.own
 exact h1.lt b hb
theorem OwR.inGB {ty:TypeId}{B:Nat}(h:OwR e ty B G w xs v)(hB:W.heap.size≤B)(G0:Nat→Prop):InR (GB W G0) v.ownBlock:=⟨fun b hb=>.inr (Nat.le_trans hB (h.lt hb).1)⟩
theorem OwR.row {ty:TypeId}{B:Nat}(h:OwR e ty B G w xs v)(hB:W.heap.size≤B):∀b,v.ownBlock=some b→W.heap.size≤b:=fun b hb=>Nat.le_trans hB (h.lt hb).1
theorem OwR.nil (e:Enc α)(ty:TypeId){B:Nat}(hB:B≤w.heap.size)(hG:∀b,G b→b<B):OwR e ty B G w [] (.slice none 0 0):=
 ⟨⟨[],World.ownsRow_nil _ _ _ _,rfl⟩,hG,hB⟩
theorem OwR.pres {ty:TypeId}{B:Nat}(h:OwR e ty B G w xs v){row:Option Nat}(hg:w.grownBy w' row)(hne:v.ownBlock=none∨v.ownBlock≠row)(hG:∀b,row=some b→GO G v b):OwR e ty B G w' xs v:=by
 obtain⟨cs,h1,h2⟩:=h.own
 exact⟨⟨cs,h1.kept hg hne,h2.pres (fun b hb hn=>hg.block b hb (fun e=>hn (hG b e.symm))) hg.size⟩,h.av,Nat.le_trans h.base hg.size⟩
theorem Ext.gr0 (k:Ext w w'):w.grownBy w' none:=⟨k.os,k.tape,k.output,k.size,fun b hb _=>k.block b hb⟩
theorem OwR.ext {ty:TypeId}{B:Nat}(h:OwR e ty B G w xs v)(k:Ext w w'):OwR e ty B G w' xs v:=h.pres k.gr0 (by cases v.ownBlock <;> simp) (fun b hb=>by cases hb)
instance {ty:TypeId}{B:Nat}:Ug w w' (OwR e ty B G w xs v) (OwR e ty B G w' xs v):=⟨fun e h=>h.ext e⟩
theorem OwR.grF {k:Nat}{agg:Bool}{f:α→List Value}{p1 p2 p3 p4}{ty:TypeId}{B:Nat}(h:OwR (dX k agg f p1 p2 p3 p4) ty B G w xs v){row:Option Nat}(hg:w.grownBy w' row)(hne:v.ownBlock=none∨v.ownBlock≠row):OwR (dX k agg f p1 p2 p3 p4) ty B G w' xs v:=by
 obtain⟨cs,h1,h2⟩:=h.own
 refine⟨⟨cs,h1.kept hg hne,?_⟩,h.av,Nat.le_trans h.base hg.size⟩
 clear h1 hne
 clear h
 induction xs generalizing cs with
 | nil=>exact h2
 | cons x xs ih=>
  obtain⟨c,d,h3,h4,h5⟩:=h2
  exact⟨c,d,h3,h4,ih d h5⟩
theorem OwR.sl {ty:TypeId}{B:Nat}(h:OwR e ty B G w xs v):(Dv (slE e) G xs).p v w:=by
 obtain⟨cs,h1,h2⟩:=h.own
 refine Dv.sl.2 ?_
 rcases h1.2 with ⟨hv,hn⟩|⟨g,cap,cur,hv,hB,hg,hn,hm,hs,ht⟩
 ·exact .inl ⟨hv,List.eq_nil_of_length_eq_zero hn⟩
 ·refine .inr ⟨_,cap,cs,hv,hn,fun hg'=>absurd (h.av _ hg') (Nat.not_lt.2 hB),(Array.getElem?_eq_some_iff.1 hg).1,h2.weak fun b _ hb=>.inl hb,h1.cells (by rw[hv];rfl)⟩
theorem OwR.avs {ty:TypeId}{B:Nat}(h:OwR e ty B G w xs v):∀b,GO G v b→b<w.heap.size:=fun b hb=>hb.elim (fun hb=>Nat.lt_of_lt_of_le (h.av b hb) h.base) (fun hb=>(h.lt hb).2)
end
def kZ (p:Nat→Bool)(n:Nat):List Int:=((List.range n).filter p).map fun i:Nat=>(i:Int)
section tail
variable {P:Program}{L:Env}{ty:TypeId}{pos:String}{aft:Array Edge}{r:Option Nat}{ds:List Deferred}
variable {ops:Array Oper}{rest:List Oper}{Q:Exit→Act→World→Prop}{n:Nat}{a:Act}{w:World}{x y:Operand}
variable {α:Type}{e:Enc α}{G:Nat→Prop}{xs ys:List α}{v:Value}

theorem nH {t te:TypeId}{z0:Value}{sz bz B:Nat}(ht:P.underlying t=some (.slice te))(hi:(P.info? te).map (fun i=>(i.zero,i.size,i.bytes))=some (some z0,sz,bz))(hsz:sz=e.k)(hz0:z0.cells.size=e.k)
  (ho:OwR e te B G w xs v) {u:Value} (hy:(Dv (slE e) (GO G v) ys).p u w) (h63:(xs.length+ys.length)≤maxLen) (hb:(xs.length+ys.length) * bz≤140737488355328) :
  ∃v' w',(Builtin.append_ #[t,t] ty #[v,u]).run P w=.ok v' w'∧OwR e te B G w' (xs++ys) v'∧w.grownBy w' v.ownBlock∧(v'.ownBlock=v.ownBlock∨v'.ownBlock=some w.heap.size):=by
 obtain⟨it,hit,hiz,hsz',hbz⟩:=info_parts hi
 subst hsz
 obtain⟨cs,h1,h2⟩:=ho.own
 rcases Dv.sl.1 hy with ⟨rfl,rfl⟩|⟨ad,cap,ds',rfl,_,h3,h4,h5,h6⟩
 ·refine⟨v,w,run_append_owned_none w B t ty te it e.k ht hit v _ cs h1,by simpa using ho,⟨rfl,rfl,rfl,Nat.le_refl _,fun _ _ _=>rfl⟩,.inl rfl⟩
 ·obtain⟨v',w',h7,h8,h9,_,h10⟩:=run_append_own_at (P:=P) w B t ty te it z0 e.k bz ht hit hiz hsz' hbz hz0 e.pos v _ cs h1 ad ys.length cap ds' h5.len h6 h5.one h63 hb ho.base
  refine⟨v',w',h7,⟨⟨cs++ds',by simpa using h8,?_⟩,ho.av,Nat.le_trans ho.base h9.size⟩,h9,h10⟩
  have hp:∀{zs:List α} {ms:List Value},Cells e (GO G v) w zs ms→Cells e (GO G v') w' zs ms:=fun h=>by
   have h11:Cells e (fun b=>GO G v b∨v'.ownBlock=some b) w _ _:=h.weak fun b hb hb'=>by
    rcases hb' with hb'|hb'
    ·exact hb'
    ·rcases h10 with h|h
     ·exact .inr (by rw[← h];exact hb')
     ·rw[h] at hb';cases hb';omega
   exact (h11.pres (fun b hb hn=>h9.block b hb (fun he=>hn (.inl (.inr he.symm)))) h9.size).weak fun b _ hb=>hb.elim (fun h=>.inl (.inl h)) .inr
  exact (hp h2).app (hp h5)
theorem bQ {t te:TypeId}{z0:Value}{d sz bz B:Nat}(ht:P.underlying t=some (.slice te))(hi:(P.info? te).map (fun i=>(i.zero,i.size,i.bytes))=some (some z0,sz,bz))(hsz:sz=e.k)(hz0:z0.cells.size=e.k)
  (hf:FrD n ds a w L) [hL:fN v.ownBlock L] (hd:d<n) (hx:opd L x=some (E v)) (ho:OwR e te B G w xs v) (hy:Is L w y (Dv (slE e) (GO G v) ys)) (hb:(xs.length+ys.length) * bz≤140737488355328)
  (h63:xs.length+ys.length≤maxLen)
  (k:∀a' v' w',w.grownBy w' v.ownBlock→(v'.ownBlock=v.ownBlock∨v'.ownBlock=some w.heap.size)→OwR e te B G w' (xs++ys) v'→FrD n ds a' w' ((d,E v')::L)→wpListIn (FW r) 0 P ops Q rest a' w') :
  wpListIn (FW r) 0 P ops Q (⟨some d,.call ⟨.builtin .append,#[x,y],#[t,t]⟩,ty,pos,aft,none⟩::rest) a w:=
 wpListIn_plain rfl fun K hK=>by
  have hxv:a.eval x=v:=hf.opd x _ hx
  obtain⟨C,hy1,hy2⟩:=hy
  have hyv:=hy2 _ _ (Ext.rfl' _) (hf.opd y _ hy1)
  obtain⟨v',w',h1,h2,h3,h4⟩:=nH (P:=P) (ty:=ty) ht hi hsz hz0 ho hyv h63 hb
  refine OpR.wp (R:=fun u w1=>u=v'∧w1=w') ?_ ?_
  ·simp only[OpR,execOp,resolve,invoke,builtin,Sem.run_bind,Sem.run_pure,Result.andThen_ok,List.map_toArray,List.map_cons,List.map_nil,hxv,h1]
   trivial
  ·rintro u w1 ⟨rfl,rfl⟩
   refine hK _ _ (k _ _ _ h3 h4 h2 ?_)
   exact (hf.gro h3).put (d:=some d) (A:=E u) (Ext.rfl' _) (fun k hk=>by cases hk;exact hd) rfl
theorem nJ {t te:TypeId}{d k:Nat}(B:Nat)(G:Nat→Prop)(e:Enc α)(ht:P.underlying t=some (.slice te))(hi:(P.info? te).map (·.size)=some k)(hf:FrD n ds a w L)(hd:d<n)(hB:B≤w.heap.size)(hG:∀b,G b→b<B)
  (k:∀a' v' w',Ext w w'→v'.ownBlock=some w.heap.size→OwR e te B G w' [] v'→FrD n ds a' w' ((d,E v')::L)→wpListIn (FW r) 0 P ops Q rest a' w') :
  wpListIn (FW r) 0 P ops Q (⟨some d,.buildSlice t 0 #[],ty,pos,aft,none⟩::rest) a w:=
 wpListIn_plain rfl fun K hK=>by
  refine OpR.wp (R:=fun u w1=>u=.slice (some ⟨w.heap.size,0,none⟩) 0 0∧w1=w.alloc (.cells #[] te)) ?_ ?_
  ·cases hit:P.info? te with
   | none=>simp[hit] at hi
   | some i=>
    simp[OpR,execOp,Instr.buildSlice,run_underlying ht,sizeOf,typeInfo,hit,Instr.fill,newRow,Array.range_zero']
  ·rintro u w1 ⟨rfl,rfl⟩
   have h1:=dA w (.cells #[] te)
   exact hK _ _ (k _ _ _ h1 rfl ⟨⟨[],World.ownsRow_made w #[] 0 hB (Nat.zero_le _) (by simp),rfl⟩,hG,Nat.le_trans hB h1.size⟩ (hf.put (d:=some d) h1 (fun k hk=>by cases hk;exact hd) rfl))
end tail
end Go.Mono
namespace Go.Mono
open Go Go.RowKit
theorem cut {P:Program}{r:Option Nat}{c:Code}{Q:Exit→Act→World→Prop}{a:Act}{w:World}{J:Act→World→Prop}(h:c.wpIn (FW r) 0 P (fun ex a w=>ex=.normal∧J a w) a w)(k:∀a w,J a w→Q .normal a w):c.wpIn (FW r) 0 P Q a w:=
 wpIn_mono h (by rintro ex a w ⟨rfl,hj⟩;exact k a w hj)
theorem dh {α:Type}{xs:List α}{k:Nat}{x:α}(h:xs[k]?=some x):xs.take (k+1)=xs.take k++[x]:=by
 rw[List.take_add_one,h];rfl
def gi (r:List Int)(k:Nat):Int:=match r[k]? with
 | some x=>x
 | none=>0
theorem nK {r:List Int}{k:Nat}(h:k<r.length):r[k]?=some (gi r k):=by simp[gi,h]
theorem uR {r:List Int}{k:Nat}(h:k<r.length):r.take (k+1)=r.take k++[gi r k]:=dh (nK h)
end Go.Mono
namespace Go.Mono
open Go
theorem OpC.dv {P:Program}{w0:World}{L:Env}{o:Oper}{α:Type}{e:Enc α}{G:Nat→Prop}{x y:α}(h:OpC P w0 L o (Dv e G x))(hxy:x=y):OpC P w0 L o (Dv e G y):=hxy▸h
end Go.Mono
namespace Go.Mono
open Go
theorem uS {v v':Value}{n b:Nat}(h:v'.ownBlock=v.ownBlock∨v'.ownBlock=some n)(hne:v.ownBlock≠some b)(hb:b<n):v'.ownBlock≠some b:=by
 rcases h with h|h
 ·rw[h];exact hne
 ·rw[h];simp;omega
end Go.Mono
namespace Go.Mono
open Go Go.RowKit
theorem FrD.upd {n:Nat}{ds:List Deferred}{a:Act}{w:World}{L:Env}{A B:VA}(h:FrD n ds a w L)(k:Nat)(hk:aI L k=some A)(hAB:∀v,A.p v w→B.p v w):FrD n ds a w ((k,B)::L):=
 FrD.cons (hAB _ (h.val k A hk)) h
theorem Dv.reB {α:Type}{e:Enc α}{G:Nat→Prop}{x:α}{v:Value}{w W:World}(h:(Dv e (GB W G) x).p v w):(Dv e (GB w G) x).p v w:=Dv.weak h fun b hb hg=>hg.elim .inl fun hg=>absurd hb (Nat.not_lt.2 hg)
end Go.Mono
namespace Go.Mono
open Go Go.RowKit
section callv
variable {P:Program}{w0:World}{L:Env}{dst:Option Tmp}{ty:TypeId}{pos:String}{aft:Array Edge}{g:Option (Nat×Bool)}
theorem uT {fo:Operand}{id:FuncId}{caps:Array Value}{xs:Array Operand}{tys:Array TypeId}{A:VA}(hf:Proofs.Enters P id)(hfo:opd L fo=some (E (.func (.func id) #[] caps)))
  (h:∀ρ w,Ext w0 w→(∀x∈(Op.call ⟨.value fo,xs,tys⟩).operands,∀B,opd L x=some B→B.p (ρ x) w)→Calls P id (xs.map ρ++caps) w (Post A w)) :
  OpC P w0 L ⟨dst,.call ⟨.value fo,xs,tys⟩,ty,pos,aft,g⟩ A:=by
 refine⟨fun ρ w he hv=>?_⟩
 have hfv:ρ fo=.func (.func id) #[] caps:=hv fo (by simp[Op.operands,Call.operands]) _ hfo
 have hrun:(execOp ρ ⟨dst,.call ⟨.value fo,xs,tys⟩,ty,pos,aft,g⟩).run P w=.ok (.enter id (xs.map ρ++caps)) w:=by
  simp[execOp,resolve,hfv,Deferred.ofValue,invoke,hf (xs.map ρ++caps) w]
 simp only[OpR,hrun]
 exact h ρ w he hv
end callv
end Go.Mono
namespace Go.Mono
open Go Go.RowKit
theorem OwR.ne_new {α:Type}{e:Enc α}{ty:TypeId}{B:Nat}{G:Nat→Prop}{w:World}{xs:List α}{v:Value}(h:OwR e ty B G w xs v){b:Nat}(hb:b=w.heap.size):v.ownBlock≠some b:=fun hv=>by
 have:=(h.lt hv).2
 omega
theorem OwR.gr {α:Type}{k:Nat}{agg:Bool}{f:α→List Value}{p1 p2 p3 p4}{ty:TypeId}{B:Nat}{G:Nat→Prop}{w w':World}{xs:List α}{v:Value}{b:Nat}(h:OwR (dX k agg f p1 p2 p3 p4) ty B G w xs v)(hg:w.grownBy w' (some b))(hne:v.ownBlock≠some b) :
  OwR (dX k agg f p1 p2 p3 p4) ty B G w' xs v:=h.grF hg (.inr hne)
end Go.Mono
namespace Go.Mono
open Go Go.Proofs Go.RowKit

theorem arg1 {A:VA}{v:Value}{w:World}(h:A.p v w):∀(i:Nat) (B:VA),[A][i]?=some B→B.p ([v].getD i undef) w:=fun i B hB=>by
 match i with
 | 0=>simp at hB;subst hB;exact h
 | i+1=>simp at hB
theorem arg2 {A B:VA}{u v:Value}{w:World}(h:A.p u w)(h':B.p v w):∀(i:Nat) (C:VA),[A,B][i]?=some C→C.p ([u,v].getD i undef) w:=fun i C hC=>by
 match i with
 | 0=>simp at hC;subst hC;exact h
 | 1=>simp at hC;subst hC;exact h'
 | i+2=>simp at hC
theorem eH {A B C:VA}{u v x:Value}{w:World}(h:A.p u w)(h':B.p v w)(h'':C.p x w):∀(i:Nat) (D:VA),[A,B,C][i]?=some D→D.p ([u,v,x].getD i undef) w:=fun i D hD=>by
 match i with
 | 0=>simp at hD;subst hD;exact h
 | 1=>simp at hD;subst hD;exact h'
 | 2=>simp at hD;subst hD;exact h''
 | i+3=>simp at hD
theorem bq {A:VA}{As:List VA}{v:Value}{vs:List Value}{w:World}(h:A.p v w)(hs:∀(i:Nat) (B:VA),As[i]?=some B→B.p (vs.getD i undef) w):∀(i:Nat) (B:VA),(A::As)[i]?=some B→B.p ((v::vs).getD i undef) w:=fun i B hB=>by
 match i with
 | 0=>simp at hB;subst hB;exact h
 | i+1=>exact hs i B (by simpa using hB)
theorem dG {w:World}:∀(i:Nat) (B:VA),([]:List VA)[i]?=some B→B.p (([]:List Value).getD i undef) w:=fun i B hB=>by simp at hB

theorem gp (n:Int)(W:World):Calls Tryz.prog 81 #[I n] W (Post (E (B (ck n))) W):=by
 refine enter (args:=[I n]) (As:=[E (I n)]) Tryz.func81 rfl Tryz.ntmps81 (Nat.le_of_ble_eq_true rfl) ?_ (fun a hf=>?_) (Nat.le_of_ble_eq_true rfl)
 rotate_left
 dsimp only[params,Nat.reduceAdd] at hf
 rotate_right
 ·exact arg1 rfl
 have e:=Ext.rfl' W
 cases hb:decide (0≤n)
 all_goals
  refine seq ?_
  refine aj ?_
  refine ae hf rfl (by decide) fun a hf=>?_
  refine aa ?_
  refine seq ?_
  refine ac 6 hf (by decide +kernel) ?_
  refine st (mv rfl) ?_
  refine st ((geq rfl rfl).eq (congrArg Value.bool (hb))) ?_
  refine st (mv rfl) ?_
  first|refine sn rfl rfl rfl ?_|refine sy rfl rfl (mv rfl) ?_
  first|refine sn rfl rfl rfl ?_|refine sy rfl rfl (lss rfl rfl) ?_
  first|refine st (pkT rfl rfl) ?_|refine st (pkF rfl rfl) ?_
  refine en fun a w e' hf=>?_
  replace e:=e.tr e'
  refine ae hf rfl (by decide) fun a hf=>?_
  refine aa ?_
  refine an (az rfl hf rfl ?_)
  rintro v rfl
  exact⟨_,rfl,e,by simp[E,ER,ck,hb]⟩

theorem lf (n:Int)(W:World)(h0:0≤n):Calls Tryz.prog 82 #[I n] W (Post (E (Mono.W (1#64 <<< (n % 64).toNat))) W):=by
 refine enter (args:=[I n]) (As:=[E (I n)]) Tryz.func82 rfl Tryz.ntmps82 (Nat.le_of_ble_eq_true rfl) ?_ (fun a hf=>?_) (Nat.le_of_ble_eq_true rfl)
 rotate_left
 dsimp only[params,Nat.reduceAdd] at hf
 rotate_right
 ·exact arg1 rfl
 have e:=Ext.rfl' W
 refine seq ?_
 refine aj ?_
 refine ae hf rfl (by decide) fun a hf=>?_
 refine aa ?_
 refine seq ?_
 refine ac 3 hf (by decide +kernel) ?_
 refine st (mv rfl) ?_
 refine st (rem rfl rfl (by omega)) ?_
 refine st (sR (u:=1#64) rfl rfl (by omega)) ?_
 refine en fun a w e' hf=>?_
 replace e:=e.tr e'
 refine ae hf rfl (by decide) fun a hf=>?_
 refine aa ?_
 refine an (az rfl hf rfl ?_)
 rintro v rfl
 exact⟨_,rfl,e,rfl⟩

theorem nL (S:BS)(n:Int)(W:World):Calls Tryz.prog 98 #[ah S,I n] W (Post (E (B (has S n))) W):=by
 refine enter (args:=[ah S,I n]) (As:=[E (ah S),E (I n)]) Tryz.func98 rfl Tryz.ntmps98 (Nat.le_of_ble_eq_true rfl) ?_ (fun a hf=>?_) (Nat.le_of_ble_eq_true rfl)
 rotate_left
 dsimp only[params,Nat.reduceAdd] at hf
 rotate_right
 ·exact arg2 rfl rfl
 have e:=Ext.rfl' W
 refine seq ?_
 refine aj ?_
 refine aJ hf rfl (by decide) fun a b2 w v2 hv2 e' hb2 hs2 B2 hf=>?_
 have hle2:=Nat.le_trans e.size (Nat.le_of_eq hb2.symm)
 replace e:=e.tr e'
 refine ae hf rfl (by decide) fun a hf=>?_
 refine aa ?_
 subst hv2
 cases hb:ck n
 ·refine seq ?_
  refine reg 12 Mix.mix hf (by decide +kernel) ?_
  refine st (mv rfl) ?_
  refine st ((aw gm rfl (fun v w _ h=>by cases h;exact gp n w)).eq (congrArg Value.bool (hb))) ?_
  refine st (mv rfl) ?_
  refine sn rfl rfl rfl ?_
  refine sn rfl rfl rfl ?_
  refine sn rfl rfl rfl ?_
  refine sn rfl rfl rfl ?_
  refine sn rfl rfl rfl ?_
  refine sn rfl rfl rfl ?_
  refine sn rfl rfl rfl ?_
  refine sn rfl rfl rfl ?_
  refine st (pkF rfl rfl) ?_
  refine en fun a w e' hf=>?_
  replace e:=e.tr e'
  replace B2:=B2.ext e'
  refine ae hf rfl (by decide) fun a hf=>?_
  refine aa ?_
  refine an (az rfl hf rfl ?_)
  rintro v rfl
  exact⟨_,rfl,e,by simp[E,ER,has,hb]⟩
 ·have hn:=cX.1 hb
  refine seq ?_
  refine reg 12 Mix.mix hf (by decide +kernel) ?_
  refine st (mv rfl) ?_
  refine st ((aw gm rfl (fun v w _ h=>by cases h;exact gp n w)).eq (congrArg Value.bool (hb))) ?_
  refine st (mv rfl) ?_
  refine sy rfl rfl (mv rfl) ?_
  refine sy rfl rfl (quo rfl rfl (by omega)) ?_
  refine sy rfl rfl (co U47 ⟨_,T45⟩ rfl rfl (by omega)) ?_
  refine sy rfl rfl (ld1 T45 rfl B2 (by rw[Nat.zero_add,Nat.mul_one];exact bX _ _ (by omega))) ?_
  refine sy rfl rfl (mv rfl) ?_
  refine sy rfl rfl (aw kK rfl (fun v w _ h=>by cases h;exact lf n w hn.1)) ?_
  refine sy rfl rfl (eY rfl rfl) ?_
  refine sy rfl rfl (ky (v:=0#64) rfl rfl) ?_
  refine st (pkT rfl rfl) ?_
  refine en fun a w e' hf=>?_
  replace e:=e.tr e'
  replace B2:=B2.ext e'
  refine ae hf rfl (by decide) fun a hf=>?_
  refine aa ?_
  refine an (az rfl hf rfl ?_)
  rintro v rfl
  exact⟨_,rfl,e,congrArg B (uE S n hb)⟩

theorem fe {fn:Func}{t u:Nat}{n:Nat}{a:Act}{w W:World}{b:Nat}{S T:BS}{bt:TypeId}{L:Env}(hr:fn.results = #[.cell t u])(ht:TI Tryz.prog u true 16)(hf:Fr n a w L)(h:aI L t=some (E (.pointer (some ⟨b,0,none⟩))))
  (hb:Blk w b (au S) bt) (e:Ext W w) (hST:S=T):bodyPost Tryz.prog fn (Post (E (ah T)) W) .ret a w:=
 dc hr ht hf h hb (bh _) ⟨_,rfl,e,by subst hST;rfl⟩

theorem di (S:BS)(n:Int)(W:World):Calls Tryz.prog 32 #[ah S,I n] W (Post (E (ah (ins S n))) W):=by
 refine enter (args:=[ah S,I n]) (As:=[E (ah S),E (I n)]) Tryz.func32 rfl Tryz.ntmps32 (Nat.le_of_ble_eq_true rfl) ?_ (fun a hf=>?_) (Nat.le_of_ble_eq_true rfl)
 rotate_left
 dsimp only[params,Nat.reduceAdd] at hf
 rotate_right
 ·exact arg2 rfl rfl
 have e:=Ext.rfl' W
 refine seq ?_
 refine aj ?_
 refine aJ hf rfl (by decide) fun a b2 w v2 hv2 e' hb2 hs2 B2 hf=>?_
 have hle2:=Nat.le_trans e.size (Nat.le_of_eq hb2.symm)
 replace e:=e.tr e'
 clear e'
 refine aC I47 hf (by decide) fun a b4 w e' hb4 hs4 B4 hf=>?_
 have hle4:=Nat.le_trans e.size (Nat.le_of_eq hb4.symm)
 have lt4_B2:=B2.lt
 replace e:=e.tr e'
 replace B2:=B2.ext e'
 refine aa ?_
 subst hv2
 simp only[dW] at B2
 have hne:b2≠b4:=by omega
 simp only[Value.cells,cm] at B4
 cases hb:ck n
 ·repeat refine seq ?_
  refine ac 2 hf (by decide +kernel) ?_
  refine st (mv rfl) ?_
  refine st ((aw gm rfl (fun v w _ h=>by cases h;exact gp n w)).eq (congrArg Value.bool (hb))) ?_
  refine en fun a w e' hf=>?_
  replace e:=e.tr e'
  replace B2:=B2.ext e'
  replace B4:=B4.ext e'
  refine aa ?_
  refine ifc hf rfl (fun h=>by cases h) (fun _=>ar ?_)
  refine seq ?_
  refine ac 1 hf (by decide +kernel) ?_
  refine st (ldW T47 rfl (by assumption) rfl) ?_
  refine en fun a w e' hf=>?_
  replace e:=e.tr e'
  replace B2:=B2.ext e'
  replace B4:=B4.ext e'
  clear e'
  haveI hinr:∀G0,InR (GB W G0) (some b4):=fun G0=>InR.gb (by omega)
  refine aF T47 hf rfl rfl (aU _) B4 rfl (rfl) fun w hg hsz B4 hf=>?_
  replace e:=e.gr hg (by omega)
  replace B2:=B2.gr hg (by omega)
  clear hg
  refine aa ?_
  refine an (fe rfl T47 hf rfl B4 e ?_)
  simp[ins,hb]
 ·have hn:=cX.1 hb
  repeat refine seq ?_
  refine ac 2 hf (by decide +kernel) ?_
  refine st (mv rfl) ?_
  refine st ((aw gm rfl (fun v w _ h=>by cases h;exact gp n w)).eq (congrArg Value.bool (hb))) ?_
  refine en fun a w e' hf=>?_
  replace e:=e.tr e'
  replace B2:=B2.ext e'
  replace B4:=B4.ext e'
  refine aa ?_
  refine ifc hf rfl (fun _=>?_) (fun h=>by cases h)
  replace hf:=hf.kp [1,2,4]
  refine reg 8 Mix.mix hf (by decide +kernel) ?_
  refine st (mv rfl) ?_
  refine st (quo rfl rfl (by omega)) ?_
  refine st (co U47 ⟨_,T45⟩ rfl rfl (by omega)) ?_
  refine st (ld1 T45 rfl B2 (by rw[Nat.zero_add,Nat.mul_one];exact bX _ _ (by omega))) ?_
  refine st (mv rfl) ?_
  refine st (aw kK rfl (fun v w _ h=>by cases h;exact lf n w hn.1)) ?_
  refine st (orW rfl rfl) ?_
  refine st (co U47 ⟨_,T45⟩ rfl rfl (by omega)) ?_
  refine en fun a w e' hf=>?_
  replace e:=e.tr e'
  replace B2:=B2.ext e'
  replace B4:=B4.ext e'
  clear e'
  refine aO T45 hf rfl rfl rfl B2 (by rw[bh];omega) fun w hg hsz B2 hf=>?_
  replace e:=e.gr hg (by omega)
  replace B4:=B4.gr hg (by omega)
  clear hg
  refine aa ?_
  rw[Nat.zero_add,Nat.mul_one,au,il,uH S hb] at B2
  refine seq ?_
  refine ac 1 hf (by decide +kernel) ?_
  refine st (ldW T47 rfl (by assumption) rfl) ?_
  refine en fun a w e' hf=>?_
  replace e:=e.tr e'
  replace B2:=B2.ext e'
  replace B4:=B4.ext e'
  clear e'
  haveI hinr:∀G0,InR (GB W G0) (some b4):=fun G0=>InR.gb (by omega)
  refine aF T47 hf rfl rfl (aU _) B4 rfl (rfl) fun w hg hsz B4 hf=>?_
  replace e:=e.gr hg (by omega)
  replace B2:=B2.gr hg (by omega)
  clear hg
  refine aa ?_
  refine an (fe rfl T47 hf rfl B4 e rfl)

theorem gq (S:BS)(n:Int)(W:World):Calls Tryz.prog 35 #[ah S,I n] W (Post (E (ah (del S n))) W):=by
 refine enter (args:=[ah S,I n]) (As:=[E (ah S),E (I n)]) Tryz.func35 rfl Tryz.ntmps35 (Nat.le_of_ble_eq_true rfl) ?_ (fun a hf=>?_) (Nat.le_of_ble_eq_true rfl)
 rotate_left
 dsimp only[params,Nat.reduceAdd] at hf
 rotate_right
 ·exact arg2 rfl rfl
 have e:=Ext.rfl' W
 refine seq ?_
 refine aj ?_
 refine aJ hf rfl (by decide) fun a b2 w v2 hv2 e' hb2 hs2 B2 hf=>?_
 have hle2:=Nat.le_trans e.size (Nat.le_of_eq hb2.symm)
 replace e:=e.tr e'
 clear e'
 refine aC I47 hf (by decide) fun a b4 w e' hb4 hs4 B4 hf=>?_
 have hle4:=Nat.le_trans e.size (Nat.le_of_eq hb4.symm)
 have lt4_B2:=B2.lt
 replace e:=e.tr e'
 replace B2:=B2.ext e'
 refine aa ?_
 subst hv2
 simp only[dW] at B2
 have hne:b2≠b4:=by omega
 simp only[Value.cells,cm] at B4
 cases hb:ck n
 ·repeat refine seq ?_
  refine ac 2 hf (by decide +kernel) ?_
  refine st (mv rfl) ?_
  refine st ((aw gm rfl (fun v w _ h=>by cases h;exact gp n w)).eq (congrArg Value.bool (hb))) ?_
  refine en fun a w e' hf=>?_
  replace e:=e.tr e'
  replace B2:=B2.ext e'
  replace B4:=B4.ext e'
  refine aa ?_
  refine ifc hf rfl (fun h=>by cases h) (fun _=>ar ?_)
  refine seq ?_
  refine ac 1 hf (by decide +kernel) ?_
  refine st (ldW T47 rfl (by assumption) rfl) ?_
  refine en fun a w e' hf=>?_
  replace e:=e.tr e'
  replace B2:=B2.ext e'
  replace B4:=B4.ext e'
  clear e'
  haveI hinr:∀G0,InR (GB W G0) (some b4):=fun G0=>InR.gb (by omega)
  refine aF T47 hf rfl rfl (aU _) B4 rfl (rfl) fun w hg hsz B4 hf=>?_
  replace e:=e.gr hg (by omega)
  replace B2:=B2.gr hg (by omega)
  clear hg
  refine aa ?_
  refine an (fe rfl T47 hf rfl B4 e ?_)
  simp[del,hb]
 ·have hn:=cX.1 hb
  repeat refine seq ?_
  refine ac 2 hf (by decide +kernel) ?_
  refine st (mv rfl) ?_
  refine st ((aw gm rfl (fun v w _ h=>by cases h;exact gp n w)).eq (congrArg Value.bool (hb))) ?_
  refine en fun a w e' hf=>?_
  replace e:=e.tr e'
  replace B2:=B2.ext e'
  replace B4:=B4.ext e'
  refine aa ?_
  refine ifc hf rfl (fun _=>?_) (fun h=>by cases h)
  replace hf:=hf.kp [1,2,4]
  refine reg 8 Mix.mix hf (by decide +kernel) ?_
  refine st (mv rfl) ?_
  refine st (quo rfl rfl (by omega)) ?_
  refine st (co U47 ⟨_,T45⟩ rfl rfl (by omega)) ?_
  refine st (ld1 T45 rfl B2 (by rw[Nat.zero_add,Nat.mul_one];exact bX _ _ (by omega))) ?_
  refine st (mv rfl) ?_
  refine st (aw kK rfl (fun v w _ h=>by cases h;exact lf n w hn.1)) ?_
  refine st (mV rfl rfl) ?_
  refine st (co U47 ⟨_,T45⟩ rfl rfl (by omega)) ?_
  refine en fun a w e' hf=>?_
  replace e:=e.tr e'
  replace B2:=B2.ext e'
  replace B4:=B4.ext e'
  clear e'
  refine aO T45 hf rfl rfl rfl B2 (by rw[bh];omega) fun w hg hsz B2 hf=>?_
  replace e:=e.gr hg (by omega)
  replace B4:=B4.gr hg (by omega)
  clear hg
  refine aa ?_
  rw[Nat.zero_add,Nat.mul_one,au,il,uI S hb] at B2
  refine seq ?_
  refine ac 1 hf (by decide +kernel) ?_
  refine st (ldW T47 rfl (by assumption) rfl) ?_
  refine en fun a w e' hf=>?_
  replace e:=e.tr e'
  replace B2:=B2.ext e'
  replace B4:=B4.ext e'
  clear e'
  haveI hinr:∀G0,InR (GB W G0) (some b4):=fun G0=>InR.gb (by omega)
  refine aF T47 hf rfl rfl (aU _) B4 rfl (rfl) fun w hg hsz B4 hf=>?_
  replace e:=e.gr hg (by omega)
  replace B2:=B2.gr hg (by omega)
  clear hg
  refine aa ?_
  refine an (fe rfl T47 hf rfl B4 e rfl)


def nM (r:List Int)(n:Int):Bool:=decide (n∈r)

def toL (S:BS):List Int:=kZ (fun i=>S.getLsbD i) 1024
abbrev RB:=Int×List Int
def up (xs:List RB)(i:Nat):Int:=match xs[i]? with
 | some b=>b.1
 | none=>0
def hs (xs:List RB)(i:Nat):List Int:=match xs[i]? with
 | some b=>b.2
 | none=>[]
def uU (xs:List RB)(id:Int)(i:Nat):Bool:=nM (hs xs i) id&&(decide (up xs i<0) || !nM (hs xs (up xs i).toNat) id)
def uV (xs:List RB)(id:Int):List Int:=kZ (uU xs id) xs.length
structure Ok (xs:List RB):Prop where
 up:∀i,i<xs.length→up xs i<xs.length
 hs:∀i,i<xs.length→(hs xs i).length≤4096
def abv (xs:List RB):Nat→Int→Option (List Int)
 | 0,a=>if a<0 then some [] else none
 | f+1,a=>if a<0 then some [] else (abv xs f (up xs a.toNat)).map (a :: ·)
def nN (xs:List RB)(i:Nat):Option (List Int):=abv xs (xs.length+1) (up xs i)


abbrev uW:Enc (Int×BS):=prE aA aX
def toB (b:Int×BS):RB:=(b.1,toL b.2)
def bg (t:List (Int×BS))(i:Nat):Int×BS:=match t[i]? with
 | some b=>b
 | none=>(0,0)

def uX (b:Int×BS):Array Value:=(Value.int .i64 b.1::(au b.2).toList).toArray
abbrev uY (b:Int×BS):Value:=.agg (uX b)
section
variable {P:Program}{w0:World}{L:Env}{dst:Option Tmp}{ty:TypeId}{pos:String}{aft:Array Edge}{g:Option (Nat×Bool)}{t:TypeId}{x:Operand}{G:Nat→Prop}{b:Int×BS}
theorem Dv.bag {v:Value}{w:World}:(Dv uW G b).p v w↔v=uY b:=by
 constructor
 ·rintro⟨cs,⟨c,d,h,h1,h2⟩,hv⟩
  cases h1;cases h2;subst h
  exact hv
 ·rintro rfl
  exact⟨_,⟨_,_,rfl,rfl,rfl⟩,rfl⟩
end

end Go.Mono
namespace Go.Mono
open Go Go.Proofs Go.RowKit Go.ChangeShapes Go.WideShapes

theorem uZ:Tryz.prog.cellsOf 3=1:=by kernel_rfl
def ofW (f:Nat→BitVec 64):Nat→BS
 | 0=>0
 | n+1=>ofW f n ||| ((f n).setWidth 1024 <<< (64 * n))
theorem va (x:BitVec 64)(n i:Nat)(hi:i<16)(hn:n<16):ak (x.setWidth 1024 <<< (64 * n)) i=if i=n then x else 0:=by
 refine BitVec.eq_of_getLsbD_eq fun j hj=>?_
 rw[dF _ _ _ hj]
 have e:(x.setWidth 1024 <<< (64 * n)).getLsbD (64 * i+j)=(decide (64 * i+j<1024) && !decide (64 * i+j<64 * n)&&(x.setWidth 1024).getLsbD (64 * i+j - 64 * n)):=BitVec.getLsbD_shiftLeft _ _
 rw[e,BitVec.getLsbD_setWidth]
 by_cases h:i=n
 ·subst h
  have h1:64 * i+j - 64 * i=j:=by omega
  have h2:64 * i+j<1024:=by omega
  have h3:¬64 * i+j<64 * i:=by omega
  have h4:j<1024:=by omega
  simp only[h1,h2,h3,h4,decide_true,decide_false,Bool.not_false,Bool.true_and,if_true]
 ·rw[if_neg h]
  by_cases h3:i<n
  ·have:64 * i+j<64 * n:=by omega
   simp[this]
  ·have h5:64≤64 * i+j - 64 * n:=by omega
   have:x.getLsbD (64 * i+j - 64 * n)=false:=BitVec.getLsbD_of_ge _ _ h5
   simp[this]
theorem nO (f:Nat→BitVec 64):∀n,n≤16→∀i,i<16→ak (ofW f n) i=if i<n then f i else 0
 | 0,_,i,hi=>by rw[ofW,kV];simp
 | n+1,hn,i,hi=>by
  rw[ofW,kU,nO f n (by omega) i hi,va _ _ _ hi (by omega)]
  by_cases h1:i=n
  ·subst h1;simp
  ·by_cases h2:i<n
   ·rw[if_pos h2,if_neg h1,if_pos (by omega)];simp
   ·rw[if_neg h2,if_neg h1,if_neg (by omega)];simp
theorem vc (f:Nat→BitVec 64):au (ofW f 16)=aZ f:=dU fun i hi=>by rw[nO f 16 (Nat.le_refl _) i hi,if_pos hi]

section
variable {H:Type}{enc:TypeId×Value→H}{w:World}{base:Nat}{spare:Nat→Bool}{held:Bool}
end
end Go.Mono
namespace Go.Mono
open Go Go.RowKit
structure XOp (P:Program)(w0:World)(row:Option Nat)(L:Env)(o:Oper)(A:VA):Prop where
 out:∀ρ w,Ext w0 w→(∀x∈o.op.operands,∀B,opd L x=some B→B.p (ρ x) w)→OpR P o ρ w (fun v w'=>w.grownBy w' row∧A.p v w')
def cY (P:Program)(ops:Array Oper)(w0:World)(row:Option Nat):Option Nat→List Oper→(Env→Prop)→Env→Prop
 | _,[],K,L=>K L
 | some 0,o::rest,K,L=>o.guard=none∧∃A,XOp P w0 row L o A∧cY P ops w0 row none rest K (push o.dst A L)
 | some (x+1),o::rest,K,L=>∃A,(∀w1,w0.grownBy w1 row→GOp P ops w1 L o A)∧AvR row A∧cY P ops w0 row (some x) rest K (push o.dst A L)
 | none,o::rest,K,L=>∃A,(∀w1,w0.grownBy w1 row→GOp P ops w1 L o A)∧AvR row A∧cY P ops w0 row none rest K (push o.dst A L)

section
variable {P:Program}{ops:Array Oper}{Q:Exit→Act→World→Prop}{w0:World}{n:Nat}{ds:List Deferred}{r:Option Nat}

def nP (A:VA)(As:Nat→VA):Nat→VA
 | 0=>A
 | i+1=>As i
theorem lh (L:Env)(A:VA)(As:Nat→VA)(k j:Nat):aV ops L (nP A As) k (j+1)=aV ops (push (aS ops k) A L) As (k+1) j:=by
 rw[← ia]
 congr 1
theorem nQ {row:Option Nat}{K:Env→Prop}:∀(M:List Oper) (k:Nat) (x:Option Nat) (L:Env),(∀j,j<M.length→ops[k+j]?=M[j]?)→cY P ops w0 row x M K L →
  ∃As:Nat→VA,(∀j o,j<M.length→x≠some j→ops[k+j]?=some o→(∀w1,w0.grownBy w1 row→GOp P ops w1 (aV ops L As k j) o (As j))∧AvR row (As j)) ∧
   (∀j o,j<M.length→x=some j→ops[k+j]?=some o→o.guard=none∧XOp P w0 row (aV ops L As k j) o (As j))∧K (aV ops L As k M.length)
 | [],k,x,L,_,h=>⟨fun _=>Any,fun j o hj=>by simp at hj,fun j o hj=>by simp at hj,by
  match x,h with
  | none,h=>exact h
  | some 0,h=>exact h
  | some (x+1),h=>exact h⟩
 | o::M,k,x,L,hM,h=>by
  have h0:ops[k]?=some o:=by simpa using hM 0 (by simp)
  have hd:aS ops k=o.dst:=by simp[aS,h0]
  obtain⟨A,x',hA,hx',hr⟩:∃A x',((x≠some 0→(∀w1,w0.grownBy w1 row→GOp P ops w1 L o A)∧AvR row A)∧(x=some 0→o.guard=none∧XOp P w0 row L o A))∧(∀j,x=some (j+1)↔x'=some j)∧cY P ops w0 row x' M K (push o.dst A L):=by
   match x,h with
   | none,⟨A,h1,h2,h3⟩=>exact⟨A,none,⟨fun _=>⟨h1,h2⟩,fun h=>by cases h⟩,fun j=>by simp,h3⟩
   | some 0,⟨hg,A,h1,h2⟩=>exact⟨A,none,⟨fun h=>absurd rfl h,fun _=>⟨hg,h1⟩⟩,fun j=>by simp,h2⟩
   | some (x+1),⟨A,h1,h2,h3⟩=>exact⟨A,some x,⟨fun _=>⟨h1,h2⟩,fun h=>by cases h⟩,fun j=>by simp,h3⟩
  obtain⟨As,h1,h2,h3⟩:=nQ M (k+1) x' (push o.dst A L) (fun j hj=>by
   have:=hM (j+1) (by simpa using hj)
   rw[show k+1+j=k+(j+1) by omega]
   simpa using this) hr
  refine⟨nP A As,?_,?_,?_⟩
  ·intro j o' hj hjx ho'
   cases j with
   | zero=>
    rw[Nat.add_zero,h0] at ho'
    obtain rfl:=Option.some.inj ho'
    exact hA.1 hjx
   | succ j=>
    rw[lh,hd]
    exact h1 j o' (by simpa using hj) (fun h=>hjx ((hx' j).2 h)) (by rw[show k+1+j=k+(j+1) by omega];exact ho')
  ·intro j o' hj hjx ho'
   cases j with
   | zero=>
    rw[Nat.add_zero,h0] at ho'
    obtain rfl:=Option.some.inj ho'
    exact hA.2 hjx
   | succ j=>
    rw[lh,hd]
    exact h2 j o' (by simpa using hj) ((hx' j).1 hjx) (by rw[show k+1+j=k+(j+1) by omega];exact ho')
  ·rw[List.length_cons,lh,hd]
   exact h3

structure vd (ops:Array Oper)(m x:Nat)(row:Option Nat)(n:Nat)(ds:List Deferred)(w0:World)(L:Env)(As:Nat→VA)(listed:Array Bool)(a:Act)(w:World):Prop where
 ext:w0.grownBy w row
 pre:listed.getD x true=false→Ext w0 w
 size:a.tmps.size=n
 defers:a.defers=ds
 hL:∀t A,aI L t=some A→(∀j,j<m→aS ops j≠some t)→A.p (a.eval (.tmp t)) w
 hA:∀i,i<m→listed.getD i false=true→∀d,aS ops i=some d→(As i).p (a.eval (.tmp d)) w

theorem nR {m x:Nat}{row:Option Nat}{L:Env}{As:Nat→VA}(hm:m≤ops.size)(hchk:∀i,i<m→dN ops m n i=true)(hchk2:∀i,m≤i→i<ops.size→da ops i=true)
  (hops:∀j o,j<m→j≠x→ops[j]?=some o→(∀w1,w0.grownBy w1 row→GOp P ops w1 (aV ops L As 0 j) o (As j))∧AvR row (As j))
  (hX:∀o,ops[x]?=some o→o.guard=none∧XOp P w0 row (aV ops L As 0 x) o (As x)) (hLav:fN row L)
  (hend:∀a w,w0.grownBy w row→FrD n ds a w (aV ops L As 0 m)→wpListIn (FW r) 0 P ops Q (ops.toList.drop m) a w) :
  ∀(c:Nat) (listed:Array Bool) (a:Act) (w:World),(List.range m).countP (fun i => !listed.getD i true)=c→listed.size=ops.size →
   (∀j,m≤j→j<ops.size→listed.getD j true=false)→LD ops listed→vd ops m x row n ds w0 L As listed a w→wpAnyIn (FW r) 0 P .any ops Q (c+(ops.size - m)) listed a w
 | 0,listed,a,w,hc,hsz,hun,hld,hi=>by
  have hall:∀j,j<m→listed.getD j false=true:=by
   intro j hj
   have:=(List.countP_eq_zero.1 hc) j (List.mem_range.2 hj)
   have hjl:j<listed.size:=by omega
   simpa[hjl] using this
  rw[Nat.zero_add]
  refine hZ m hchk2 (ops.size - m) m (by omega) (Nat.le_refl _) listed a w hall hun hsz hld (hend a w hi.ext ⟨hi.size,hi.defers,fun t A ht=>?_⟩)
  rcases dO L As t A m ht with ⟨j,hj,hd,rfl⟩|⟨hn,hl⟩
  ·exact hi.hA j hj (hall j hj) t hd
  ·exact hi.hL t A hl hn
 | c+1,listed,a,w,hc,hsz,hun,hld,hi=>by
  have facts:∀i o,i<m→ops[i]?=some o→(∀e∈o.after,Region.binds .any e=true→e.on<i)∧(∀d,o.dst=some d→d<n) ∧
    (∀t,t∈cU o∨bV ops o=some t→∀j,j<m→aS ops j=some t→bnd ops i j=true)∧(∀j,j<m→j≠i→∀d,o.dst=some d→aS ops j≠some d):=by
   intro i o hlt ho
   have:=hchk i hlt
   simp only[dN,ho,Bool.and_eq_true,Array.all_eq_true_iff_forall_mem,Bool.or_eq_true,Bool.not_eq_true',List.all_eq_true,List.mem_range,List.mem_append,Option.mem_toList] at this
   obtain⟨⟨⟨h1,h2⟩,h3⟩,h4⟩:=this
   refine⟨fun e he hb=>?_,fun d hd=>?_,fun t ht j hj hd=>?_,fun j hj hne d hd hd'=>?_⟩
   ·rcases h1 e he with h|h
    ·rw[hb] at h;cases h
    ·simpa[Nat.blt_eq] using h
   ·simpa[hd,Nat.blt_eq] using h2
   ·have:=h3 t ht j hj
    rcases this with h|h
    ·rw[hd] at h;simp at h
    ·exact h
   ·have:=h4 j hj
    rcases this with h|h
    ·exact hne (Nat.eq_of_beq_eq_true h)
    ·rw[hd,hd'] at h;simp at h
  have prog:∃i,i<m∧listed.getD i true=false∧∀j,j<i→listed.getD j true=true:=by
   have hex:∃i,i<m∧listed.getD i true=false:=by
    have hpos:0<(List.range m).countP (fun i => !listed.getD i true):=by omega
    obtain⟨i,hi,hb⟩:=List.countP_pos_iff.1 hpos
    exact⟨i,List.mem_range.1 hi,by simpa using hb⟩
   obtain⟨i,hlt,hb⟩:=hex
   induction i using Nat.strongRecOn with
   | _ i ih=>
    by_cases h:∃j,j<i∧listed.getD j true=false
    ·obtain⟨j,hj,hjb⟩:=h
     exact ih j hj (by omega) hjb
    ·refine⟨i,hlt,hb,fun j hj=>?_⟩
     cases hjb:listed.getD j true with
     | true=>rfl
     | false=>exact absurd ⟨j,hj,hjb⟩ h
  obtain⟨i0,hi0,hu0,hbelow⟩:=prog
  have hready:i0∈Region.ready .any ops listed:=by
   have ho:ops[i0]?=some (ops[i0]'(by omega)):=by simp
   refine mem_ready.2 ⟨hu0,_,ho,fun e he hb=>?_⟩
   have hlt:=(facts i0 _ hi0 ho).1 e he hb
   have:=hbelow _ hlt
   have hjl:e.on<listed.size:=by omega
   simpa[hjl] using this
  rw[show c+1+(ops.size - m)=(c+(ops.size - m))+1 by omega]
  refine⟨fun h0=>(by rw[h0] at hready;cases hready),fun i hir=>?_⟩
  obtain⟨hu,o,ho,hall⟩:=mem_ready.1 hir
  have hilt:i<ops.size:=(Array.getElem?_eq_some_iff.1 ho).1
  have listed_of_bnd:∀j,bnd ops i j=true→listed.getD j false=true:=by
   intro j hb
   simp only[bnd,ho] at hb
   obtain⟨e,he,hb⟩:=Array.any_eq_true'.1 hb
   simp only[Bool.and_eq_true] at hb
   have:=hall e he hb.1
   rwa [Nat.eq_of_beq_eq_true hb.2] at this
  have him:i<m:=by
   rcases Nat.lt_or_ge i m with h|h
   ·exact h
   ·have hc:=hchk2 i h hilt
    simp only[da,ho,Bool.and_eq_true,List.all_eq_true,List.mem_range] at hc
    have:=cov hld 12 i i0 (hc.2 i0 (by omega)) (fun o' ho' e he hb=>by
     rw[ho] at ho'
     obtain rfl:=Option.some.inj ho'
     exact hall e he hb)
    rw[ez hu0] at this
    cases this
  obtain⟨f1,f2,f3,f4⟩:=facts i o him ho
  have byLook:∀t,(t∈cU o∨bV ops o=some t)→∀B,aI (aV ops L As 0 i) t=some B→B.p (a.eval (.tmp t)) w:=by
   intro t ht B hB
   rcases dO L As t B i hB with ⟨j,hj,hd,rfl⟩|⟨hn,hl⟩
   ·exact hi.hA j (by omega) (listed_of_bnd j (f3 t ht j (by omega) hd)) t hd
   ·refine hi.hL t B hl fun j hj hd=>?_
    have hb:=f3 t ht j hj hd
    simp only[bnd,ho] at hb
    obtain⟨e,he,hb⟩:=Array.any_eq_true'.1 hb
    simp only[Bool.and_eq_true] at hb
    have hlt:=f1 e he hb.1
    rw[Nat.eq_of_beq_eq_true hb.2] at hlt
    exact hn j hlt hd
  have ops1:∀x∈o.op.operands,∀B,opd (aV ops L As 0 i) x=some B→B.p (a.eval x) w:=fun x hx B hB=>by
   cases x with
   | tmp t=>exact byLook t (.inl (List.mem_filterMap.2 ⟨.tmp t,by simpa using hx,rfl⟩)) B hB
   | const v=>simp[opd] at hB;subst hB;rfl
   | global g=>simp[opd] at hB;subst hB;rfl
   | func f=>simp[opd] at hB;subst hB;rfl
  have hdst:aS ops i=o.dst:=by simp[aS,ho]
  have step:∀v w',w.grownBy w' row→(i≠x→Ext w w')→(i=x→∀j,j<m→j≠x→AvR row (As j))→(As i).p v w'→wpAnyIn (FW r) 0 P .any ops Q (c+(ops.size - m)) (listed.setIfInBounds i true) (a.put o.dst v) w':=by
   intro v w' hx hxe hxa hv
   have stab:∀(A:VA) u,AvR row A→A.p u w→A.p u w':=fun A u hA h=>hA.av _ _ _ hx h
   refine nR hm hchk hchk2 hops hX hLav hend c _ _ _ ?_ (by simpa using hsz) ?_ ?_ ?_
   ·have:=iU m (fun j => !listed.getD j true) (fun j => !(listed.setIfInBounds i true).getD j true) i him (by simp only[hu,Bool.not_false])
     (by
       have hjl:i<listed.size:=by omega
       simp[hjl]) (fun j hj=>by simp only[getD_set_ne true (Ne.symm hj)])
    omega
   ·intro j hj hj'
    rw[getD_set_ne true (by omega)]
    exact hun j hj hj'
   ·exact hld.set fun o' ho' e he hb=>by
     rw[ho] at ho'
     obtain rfl:=Option.some.inj ho'
     exact hall e he hb
   ·refine⟨World.grownBy.trans hi.ext hx,fun hl=>?_,by simp[hi.size],by simp[hi.defers],fun t A ht hn=>?_,fun j hj hl d hd=>?_⟩
    ·have hix:i≠x:=by
      rintro rfl
      have hjl:i<listed.size:=by omega
      simp[hjl] at hl
     rw[getD_set_ne true hix] at hl
     exact Ext.tr (hi.pre hl) (hxe hix)
    ·have h0:=stab A _ ⟨hLav.av t A ht⟩ (hi.hL t A ht hn)
     cases hod:o.dst with
     | none=>exact h0
     | some d=>
      have:d≠t:=fun e=>hn i him (by rw[hdst,hod,e])
      rw[ev this]
      exact h0
    ·by_cases hji:j=i
     ·subst hji
      rw[hdst] at hd
      rw[hd,hY (by rw[hi.size];exact f2 d hd)]
      exact hv
     ·have hl':listed.getD j false=true:=by rwa [getD_set_ne false (Ne.symm hji)] at hl
      have h1:=hi.hA j hj hl' d hd
      have h0:(As j).p (a.eval (.tmp d)) w':=by
       by_cases hix:i=x
       ·exact stab _ _ (hxa hix j hj (fun h=>hji (h.trans hix.symm))) h1
       ·exact (As j).st _ _ _ (hxe hix) h1
      cases hod:o.dst with
      | none=>exact h0
      | some d'=>
       have:d'≠d:=fun e=>f4 j hj hji d' hod (by rw[hd,e])
       rw[ev this]
       exact h0
  unfold wpOpIn
  simp only[ho]
  by_cases hix:i=x
  ·obtain⟨hgd,hxo⟩:=hX o (hix▸ho)
   have hw:Region.wanted o (yielded ops a.tmps)=true:=by unfold Region.wanted;rw[hgd]
   rw[if_pos hw]
   have hpre:Ext w0 w:=hi.pre (hix▸hu)
   exact (hxo.out a.eval w hpre (hix▸ops1)).wp fun v w' hv=>step v w' hv.1 (fun h=>absurd hix h) (fun _ j hj hjx=>by
    have hoj:ops[j]?=some (ops[j]'(by omega)):=by simp
    exact (hops j _ hj hjx hoj).2) (hix▸hv.2)
  ·have hg:=(hops i o him hix ho).1 w hi.ext a w (Ext.rfl' w) ops1 (fun d B hd hB=>byLook d (.inr hd) B hB)
   split
   ·rename_i hw
    rw[if_pos hw] at hg
    exact (hg.wp fun v w' hv=>step v w' ⟨hv.1.os,hv.1.tape,hv.1.output,hv.1.size,fun k hk _=>hv.1.block k hk⟩ (fun _=>hv.1) (fun h=>absurd h hix) hv.2)
   ·rename_i hw
    rw[if_neg hw] at hg
    exact⟨fun _ _=>trivial,step undef w ⟨rfl,rfl,rfl,Nat.le_refl _,fun _ _ _=>rfl⟩ (fun _=>Ext.rfl' _) (fun h=>absurd h hix) hg⟩
theorem ve {id:Nat}{ops:Array Oper}{L:Env}{a:Act}{w:World}(m x:Nat)(row:Option Nat)(hx:x<m)(hmix:P.follows .mixedOrders=true)(hf:FrD n ds a w L)[hL:fN row L](hchk:chk ops m n=true)
  (h:cY P ops w row (some x) (ops.toList.take m) (fun L'=>∀a' w',w.grownBy w' row→FrD n ds a' w' L'→wpListIn (FW r) 0 P ops Q (ops.toList.drop m) a' w') L):(Code.region id ops true).wpIn (FW r) 0 P Q a w:=by
 simp only[chk,Bool.and_eq_true,List.all_eq_true,List.mem_range,Bool.or_eq_true,Nat.ble_eq] at hchk
 obtain⟨⟨hm,h1⟩,h2⟩:=hchk
 refine wpIn_region_any hmix ?_
 have hlen:(ops.toList.take m).length=m:=by simp;omega
 obtain⟨As,hAs,hX,hK⟩:=nQ (ops:=ops) (ops.toList.take m) 0 (some x) L (fun j hj=>by
  rw[hlen] at hj
  rw[Nat.zero_add,List.getElem?_take,if_pos hj];simp) h
 rw[hlen] at hK hAs hX
 have hdrew:w.grownBy w.drew none:=⟨rfl,rfl,rfl,Nat.le_refl _,fun _ _ _=>rfl⟩
 have hext:Ext w { w with drawn:=w.drawn+1 }:=Ext.drew w
 have:=nR (P:=P) (ops:=ops) (Q:=Q) (w0:=w) (n:=n) (ds:=ds) (m:=m) (x:=x) (row:=row) (r:=r) (L:=L) (As:=As) hm h1 (fun i hi hi'=>by
   rcases h2 i hi' with h|h
   ·simp only[Nat.blt_eq] at h;omega
   ·exact h) (fun j o hj hjx ho=>hAs j o hj (by simpa using fun h=>hjx h.symm) (by simpa using ho)) (fun o ho=>hX x o hx rfl (by simpa using ho)) hL (fun a w hx hf=>hK a w hx hf) m
  (Array.replicate ops.size false) a { w with drawn:=w.drawn+1 } ?_ (by simp) ?_ ?_ ⟨⟨rfl,rfl,rfl,Nat.le_refl _,fun _ _ _=>rfl⟩,fun _=>hext,hf.size,hf.defers,fun t A ht _=>A.st _ _ _ hext (hf.val t A ht),fun i hi hl=>?_⟩
 ·rwa [show m+(ops.size - m)=ops.size by omega] at this
 ·have:(List.range m).countP (fun i => !(Array.replicate ops.size false).getD i true)=(List.range m).length:=by
   refine List.countP_eq_length.2 fun i hi=>?_
   have:=List.mem_range.1 hi
   have hlt:i<ops.size:=by omega
   simp[hlt]
  simpa using this
 ·intro j _ hj
  simp[hj]
 ·intro i o hl
  have:(Array.replicate ops.size false).getD i false=false:=by
   by_cases hlt:i<ops.size <;> simp[hlt]
  rw[this] at hl;cases hl
 ·have:(Array.replicate ops.size false).getD i false=false:=by
   by_cases hlt:i<ops.size <;> simp[hlt]
  rw[this] at hl;cases hl
end
end Go.Mono
namespace Go.Mono
open Go Go.RowKit

variable {P:Program}{w0:World}{L:Env}{dst:Option Tmp}{ty:TypeId}{pos:String}{aft:Array Edge}{g:Option (Nat×Bool)}{r:Option Nat}{ds:List Deferred}
theorem idxS {x y:Operand}{t te:TypeId}{b off len cap s:Nat}{k:IntKind}{i:Int}(ht:P.underlying t=some (.slice te))(hs:(P.info? te).map (·.size)=some s)(hx:opd L x=some (E (.slice (some ⟨b,off,none⟩) len cap)))(hy:opd L y=some (E (.int k i)))(hi:0≤i∧i<(len:Int)) :
  OpC P w0 L ⟨dst,.indexAddr t x y,ty,pos,aft,g⟩ (E (.pointer (some ⟨b,off+i.toNat * s,none⟩))):=
 aQ fun ρ w _ hv=>by
  have h1:=opE hv (x:=x) (by simp[Op.operands]) hx
  have h2:=opE hv (x:=y) (by simp[Op.operands]) hy
  have hsz:∀w,(sizeOf te).run P w=.ok s w:=fun w=>by
   cases hi:P.info? te with
   | none=>simp[hi] at hs
   | some i=>simp[hi] at hs;simp[sizeOf,typeInfo,hi,hs]
  refine⟨_,?_,rfl⟩
  simp[execOp,h1,h2,Instr.indexAt,asIntOf,run_underlying ht,hi,hsz,Addr.add_lit]
theorem li {x:Operand}{t te:TypeId}{ao:Option Addr}{n cap:Nat}(ht:P.underlying t=some (.slice te))(hx:opd L x=some (E (.slice ao n cap))):OpC P w0 L ⟨dst,.call ⟨.builtin .len,#[x],#[t]⟩,ty,pos,aft,g⟩ (E (.int .i64 (n:Nat))):=
 aQ fun ρ w he hv=>by
  have h1:=opE hv (x:=x) (by simp[Op.operands,Call.operands]) hx
  exact⟨_,by simp[execOp,resolve,invoke,builtin,Builtin.len_,h1,run_underlying ht,goInt],rfl⟩

theorem FrD.fix {n:Nat}{a:Act}{w:World}{A:VA}(h:FrD n ds a w L)(k:Nat)(hk:aI L k=some A):∃v,A.p v w∧FrD n ds a w ((k,E v)::L):=
 ⟨_,h.val k A hk,FrD.cons rfl h⟩

section tail
variable {ops:Array Oper}{rest:List Oper}{Q:Exit→Act→World→Prop}{n:Nat}{a:Act}{w:World}{x y:Operand}
end tail
structure Rows (ety B:Nat)(G:Nat→Prop)(w:World)(bo:Nat)(xss:List (List Int))(vs:List Value):Prop where
 len:vs.length=xss.length
 at':∀(p:Nat) (v:Value) (xs:List Int),vs[p]?=some v→xss[p]?=some xs→OwR aA ety B G w xs v∧v.ownBlock≠some bo
 sep:∀(p q:Nat) (u v:Value),p≠q→vs[p]?=some u→vs[q]?=some v→u.ownBlock=none∨u.ownBlock≠v.ownBlock
variable {ety B bo:Nat}{G:Nat→Prop}{w w':World}{xss:List (List Int)}{vs:List Value}
theorem Rows.ext (h:Rows ety B G w bo xss vs)(k:Ext w w'):Rows ety B G w' bo xss vs:=
 ⟨h.len,fun p v xs h1 h2=>⟨(h.at' p v xs h1 h2).1.ext k,(h.at' p v xs h1 h2).2⟩,h.sep⟩
instance:Ug w w' (Rows ety B G w bo xss vs) (Rows ety B G w' bo xss vs):=⟨fun e h=>h.ext e⟩
theorem Rows.lt (h:Rows ety B G w bo xss vs){p:Nat}{v:Value}(hv:vs[p]?=some v){b:Nat}(hb:v.ownBlock=some b):B≤b∧b<w.heap.size:=by
 have hp:=(List.getElem?_eq_some_iff.1 hv).1
 exact (h.at' p v _ hv (List.getElem?_eq_getElem (by rw[← h.len];exact hp))).1.lt hb
theorem Rows.gr (h:Rows ety B G w bo xss vs){b:Nat}(hg:w.grownBy w' (some b))(hb:∀(p:Nat) (v:Value),vs[p]?=some v→v.ownBlock≠some b):Rows ety B G w' bo xss vs:=
 ⟨h.len,fun p v xs h1 h2=>⟨OwR.gr (h.at' p v xs h1 h2).1 hg (hb p v h1),(h.at' p v xs h1 h2).2⟩,h.sep⟩
theorem Rows.nil {n:Nat}(hB:B≤w.heap.size)(hG:∀b,G b→b<B):Rows ety B G w bo (List.replicate n []) (List.replicate n (.slice none 0 0)):=by
 refine⟨by simp,fun p v xs h1 h2=>?_,fun p q u v _ h1 _=>?_⟩
 ·rw[List.getElem?_replicate] at h1 h2
  split at h1
  ·rename_i hp
   rw[if_pos hp] at h2
   cases h1
   cases h2
   exact⟨OwR.nil aA _ hB hG,by simp[Value.ownBlock]⟩
  ·cases h1
 ·rw[List.getElem?_replicate] at h1
  split at h1
  ·cases h1
   exact .inl rfl
  ·cases h1
theorem Rows.upd (h:Rows ety B G w bo xss vs){p:Nat}{v v':Value}{xs':List Int}(hv:vs[p]?=some v)(hg:w.grownBy w' v.ownBlock)(ho:OwR aA ety B G w' xs' v')(hat:v'.ownBlock=v.ownBlock∨∃c,v'.ownBlock=some c∧w.heap.size≤c)(hbo:bo<w.heap.size) :
  Rows ety B G w' bo (xss.set p xs') (vs.set p v'):=by
 have hp:=(List.getElem?_eq_some_iff.1 hv).1
 have hx:∃xs,xss[p]?=some xs:=⟨_,List.getElem?_eq_getElem (by rw[← h.len];exact hp)⟩
 obtain⟨xs,hx⟩:=hx
 refine⟨by simp[h.len],fun q u ys h1 h2=>?_,fun q s u y hqs h1 h2=>?_⟩
 ·by_cases hpq:p=q
  ·subst hpq
   rw[List.getElem?_set_self hp] at h1
   rw[List.getElem?_set_self (by rw[← h.len];exact hp)] at h2
   cases h1;cases h2
   refine⟨ho,?_⟩
   rcases hat with hat|⟨c,hat,hc⟩
   ·rw[hat];exact (h.at' p v xs hv hx).2
   ·rw[hat];simp;omega
  ·rw[List.getElem?_set_ne hpq] at h1 h2
   have:=h.at' q u ys h1 h2
   exact⟨OwR.grF this.1 hg (h.sep q p u v (Ne.symm hpq) h1 hv),this.2⟩
 ·by_cases hpq:p=q
  ·subst hpq
   rw[List.getElem?_set_self hp] at h1
   rw[List.getElem?_set_ne hqs] at h2
   cases h1
   rcases hat with hat|⟨c,hat,hc⟩
   ·rw[hat];exact h.sep p s v y hqs hv h2
   ·refine .inr fun he=>?_
    rw[hat] at he
    have:=h.lt h2 he.symm
    omega
  ·rw[List.getElem?_set_ne hpq] at h1
   by_cases hps:p=s
   ·subst hps
    rw[List.getElem?_set_self hp] at h2
    cases h2
    rcases hat with hat|⟨c,hat,hc⟩
    ·rw[hat];exact h.sep q p u v hqs h1 hv
    ·refine .inr fun he=>?_
     rw[hat] at he
     have:=h.lt h1 he
     omega
   ·rw[List.getElem?_set_ne hps] at h2
    exact h.sep q s u y hqs h1 h2
theorem Rows.cells (h:Rows ety B G w bo xss vs):Cells (slE aA) G w xss vs:=by
 have hl:=h.len
 have ha:=h.at'
 clear h
 induction xss generalizing vs with
 | nil=>exact List.eq_nil_of_length_eq_zero hl
 | cons xs xss ih=>
  match vs,hl,ha with
  | v::vs,hl,ha=>
   refine⟨[v],vs,rfl,⟨v,rfl,Dv.sl.1 (ha 0 v xs rfl rfl).1.sl⟩,ih (by simpa using hl) fun p u ys h1 h2=>ha (p+1) u ys h1 h2⟩
theorem Rows.dv (h:Rows ety B G w bo xss vs){bt:TypeId}(hb:Blk w bo vs.toArray bt)(hG:¬G bo){cap:Nat}(hc:xss.length≤cap):(Dv (slE (slE aA)) G xss).p (.slice (some ⟨bo,0,none⟩) xss.length cap) w:=
 Dv.sl.2 (.inr ⟨_,cap,vs,rfl,hc,hG,hb.lt,h.cells,fun i u hu=>by
  rw[Addr.add_lit,Nat.zero_add,hb.cell i,List.getElem?_toArray];exact hu⟩)
theorem vf {x y:Operand}{t te:TypeId}{z0:Value}{sz bz:Nat}{α:Type}{e:Enc α}{xs ys:List α}{v:Value}(ht:P.underlying t=some (.slice te))(hi:(P.info? te).map (fun i=>(i.zero,i.size,i.bytes))=some (some z0,sz,bz))(hsz:sz=e.k)(hz0:z0.cells.size=e.k)
  (hx:opd L x=some (E v)) (ho:OwR e te B G w0 xs v) (hy:opd L y=some (Dv (slE e) (GO G v) ys)) (hb:(xs.length+ys.length) * bz≤140737488355328) (h63:xs.length+ys.length≤maxLen) :
  XOp P w0 v.ownBlock L ⟨dst,.call ⟨.builtin .append,#[x,y],#[t,t]⟩,ty,pos,aft,none⟩
   ⟨fun v' w'=>OwR e te B G w' (xs++ys) v'∧(v'.ownBlock=v.ownBlock∨∃c,v'.ownBlock=some c∧w0.heap.size≤c),fun v' w1 w2 k h=>⟨h.1.ext k,h.2⟩⟩:=by
 refine⟨fun ρ w he hv=>?_⟩
 have hxv:ρ x=v:=hv x (by simp[Op.operands,Call.operands]) _ hx
 have hyv:=hv y (by simp[Op.operands,Call.operands]) _ hy
 obtain⟨v',w',h1,h2,h3,h4⟩:=nH (P:=P) (ty:=ty) ht hi hsz hz0 (ho.ext he) hyv h63 hb
 simp only[OpR,execOp,resolve,invoke,builtin,Sem.run_bind,Sem.run_pure,Result.andThen_ok,List.map_toArray,List.map_cons,List.map_nil,hxv,h1]
 exact⟨h3,h2,h4.imp id fun h=>⟨_,h,he.size⟩⟩
section
variable {ops:Array Oper}{rest:List Oper}{K:Env→Prop}{A:VA}{op:Op}{dd:Nat}{row:Option Nat}
theorem xm {x:Nat}(h:∀w1,w0.grownBy w1 row→OpC P w1 L ⟨some dd,op,ty,pos,aft,none⟩ A)[hA:AvR row A](k:cY P ops w0 row (some x) rest K ((dd,A)::L)):cY P ops w0 row (some (x+1)) (⟨some dd,op,ty,pos,aft,none⟩::rest) K L:=
 ⟨A,fun w1 h1 a w he hv _=>by simp only[Region.wanted,if_true];exact (h w1 h1).out _ w he hv,hA,k⟩
theorem xn (h:∀w1,w0.grownBy w1 row→OpC P w1 L ⟨some dd,op,ty,pos,aft,none⟩ A)[hA:AvR row A](k:cY P ops w0 row none rest K ((dd,A)::L)):cY P ops w0 row none (⟨some dd,op,ty,pos,aft,none⟩::rest) K L:=
 ⟨A,fun w1 h1 a w he hv _=>by simp only[Region.wanted,if_true];exact (h w1 h1).out _ w he hv,hA,k⟩
theorem xx (h:XOp P w0 row L ⟨some dd,op,ty,pos,aft,none⟩ A)(k:cY P ops w0 row none rest K ((dd,A)::L)):cY P ops w0 row (some 0) (⟨some dd,op,ty,pos,aft,none⟩::rest) K L:=
 ⟨rfl,A,h,k⟩
theorem xe {x:Option Nat}(h:K L):cY P ops w0 row x [] K L:=by
 match x,h with
 | none,h=>exact h
 | some 0,h=>exact h
 | some (x+1),h=>exact h
end
end Go.Mono
namespace Go.Mono
open Go Go.RowKit
theorem Rows.ne_new {ety B bo:Nat}{G:Nat→Prop}{w:World}{xss:List (List Int)}{vs:List Value}(h:Rows ety B G w bo xss vs){b:Nat}(hb:b=w.heap.size):∀(p:Nat) (v:Value),vs[p]?=some v→v.ownBlock≠some b:=fun p v hv hb'=>by
 have:=(h.lt hv hb').2
 omega
end Go.Mono
namespace Go.Mono
open Go Go.RowKit
theorem OwR.one {α:Type}{e:Enc α}{ty:TypeId}{B:Nat}{G:Nat→Prop}{w:World}{xs:List α}{v:Value}(h:OwR e ty B G w xs v):v.oneCell'=true:=by
 rcases Dv.sl.1 h.sl with ⟨rfl,_⟩|⟨ad,cap,cs,rfl,_⟩ <;> rfl
end Go.Mono
namespace Go.Mono
open Go Go.RowKit
structure Chg (S:Nat→Prop)(w w':World):Prop where
 os:w'.os=w.os
 tape:w'.tape=w.tape
 output:w'.output=w.output
 size:w.heap.size≤w'.heap.size
 block:∀k,k<w.heap.size→¬S k→w'.heap[k]?=w.heap[k]?
section
variable {S S':Nat→Prop}{w w' w'' W:World}
theorem Chg.rfl' (S:Nat→Prop)(w:World):Chg S w w:=⟨rfl,rfl,rfl,Nat.le_refl _,fun _ _ _=>rfl⟩
theorem Chg.tr (h:Chg S w w')(k:Chg S w' w''):Chg S w w'':=
 ⟨k.os.trans h.os,k.tape.trans h.tape,k.output.trans h.output,Nat.le_trans h.size k.size,fun b hb hS=>(k.block b (Nat.lt_of_lt_of_le hb h.size) hS).trans (h.block b hb hS)⟩
theorem Chg.ext (h:Chg S w w')(k:Ext w' w''):Chg S w w'':=
 ⟨k.os.trans h.os,k.tape.trans h.tape,k.output.trans h.output,Nat.le_trans h.size k.size,fun b hb hS=>(k.block b (Nat.lt_of_lt_of_le hb h.size)).trans (h.block b hb hS)⟩
instance {S:Nat→Prop}{W w w':World}:Ug w w' (Chg S W w) (Chg S W w'):=⟨fun e h=>h.ext e⟩
theorem Ext.chg (h:Ext w w')(S:Nat→Prop):Chg S w w':=⟨h.os,h.tape,h.output,h.size,fun b hb _=>h.block b hb⟩
theorem Chg.gr (h:Chg S w w'){b:Nat}(k:w'.grownBy w'' (some b))(hb:S b∨w.heap.size≤b):Chg S w w'':=
 ⟨k.os.trans h.os,k.tape.trans h.tape,k.output.trans h.output,Nat.le_trans h.size k.size,fun c hc hS=>(k.block c (Nat.lt_of_lt_of_le hc h.size) (fun he=>by
  cases he
  rcases hb with hb|hb
  ·exact hS hb
  ·omega)).trans (h.block c hc hS)⟩
theorem Chg.to (h:Chg S w w')(hS:∀b,b<w.heap.size→S b→S' b):Chg S' w w':=⟨h.os,h.tape,h.output,h.size,fun b hb hn=>h.block b hb (fun hs=>hn (hS b hb hs))⟩
theorem Ext.ch (e:Ext W w)(h:Chg S w w')(hS:∀b,S b→W.heap.size≤b):Ext W w':=
 ⟨h.os.trans e.os,h.tape.trans e.tape,h.output.trans e.output,Nat.le_trans e.size h.size,fun b hb=>(h.block b (Nat.lt_of_lt_of_le hb e.size) (fun hs=>by have:=hS b hs;omega)).trans (e.block b hb)⟩
theorem Blk.ch {b:Nat}{cs:Array Value}{t:TypeId}(h:Blk w b cs t)(k:Chg S w w')(hS:¬S b):Blk w' b cs t:=(k.block b h.lt hS).trans h
class InS (G S:Nat→Prop):Prop where
 in':∀b,S b→G b
theorem Dv.ch {α:Type}{e:Enc α}{G:Nat→Prop}{x:α}{v:Value}(h:(Dv e G x).p v w)(k:Chg S w w')(hG:∀b,S b→G b):(Dv e G x).p v w':=by
 obtain⟨cs,h1,h2⟩:=h
 exact⟨cs,e.pres h1 (fun b hb hn=>k.block b hb (fun hs=>hn (hG b hs))) k.size,h2⟩
class AvS (S:Nat→Prop)(A:VA):Prop where
 av:∀v w w',Chg S w w'→A.p v w→A.p v w'
class ff (S:Nat→Prop)(L:Env):Prop where
 av:∀t A,aI L t=some A→∀v w w',Chg S w w'→A.p v w→A.p v w'
instance (S:Nat→Prop)(v:Value):AvS S (E v):=⟨fun _ _ _ _ h=>h⟩
instance (S:Nat→Prop):AvS S Any:=⟨fun _ _ _ _ h=>h⟩
instance (S:Nat→Prop){α:Type}(e:Enc α)(G:Nat→Prop)(x:α)[h:InS G S]:AvS S (Dv e G x):=⟨fun v w w' k h1=>Dv.ch h1 k h.in'⟩
instance (S:Nat→Prop):ff S []:=⟨fun t A h=>by simp[aI] at h⟩
instance (S:Nat→Prop)(k:Nat)(A:VA)(L:Env)[h:AvS S A][hl:ff S L]:ff S ((k,A)::L):=⟨fun t B ht=>by
 by_cases hkt:k=t
 ·subst hkt;rw[cF] at ht;cases ht;exact h.av
 ·rw[cG _ _ hkt] at ht;exact hl.av t B ht⟩
theorem FrD.ch {n:Nat}{ds:List Deferred}{a:Act}{L:Env}[h:ff S L](hf:FrD n ds a w L)(k:Chg S w w'):FrD n ds a w' L:=
 ⟨hf.size,hf.defers,fun t A ht=>h.av t A ht _ _ _ k (hf.val t A ht)⟩
end

section tail
variable {P:Program}{L:Env}{ty:TypeId}{pos:String}{aft:Array Edge}{r:Option Nat}{ds:List Deferred}
variable {ops:Array Oper}{rest:List Oper}{Q:Exit→Act→World→Prop}{n:Nat}{a:Act}{w:World}{x y:Operand}
theorem gu {S:Nat→Prop}{F:World→Prop}{fo:Operand}{id:FuncId}{caps:Array Value}{xs:Array Operand}{tys:Array TypeId}{A:VA}{d:Nat}(hf:FrD n ds a w L)[hL:ff S L](hd:d<n)(he:Proofs.Enters P id)(hfo:opd L fo=some (E (.func (.func id) #[] caps)))
  (h:Calls P id (xs.map a.eval++caps) w (fun e w'=>∃v,e=.returned v∧Chg S w w'∧A.p v w'∧F w'))
  (k:∀a' w',Chg S w w'→F w'→FrD n ds a' w' ((d,A)::L)→wpListIn (FW r) 0 P ops Q rest a' w') :
  wpListIn (FW r) 0 P ops Q (⟨some d,.call ⟨.value fo,xs,tys⟩,ty,pos,aft,none⟩::rest) a w:=
 wpListIn_plain rfl fun K hK=>by
  have hfv:a.eval fo=.func (.func id) #[] caps:=hf.opd fo _ hfo
  have hrun:(execOp a.eval ⟨some d,.call ⟨.value fo,xs,tys⟩,ty,pos,aft,none⟩).run P w=.ok (.enter id (xs.map a.eval++caps)) w:=by
   simp[execOp,resolve,hfv,Deferred.ofValue,invoke,he (xs.map a.eval++caps) w]
  refine OpR.wp (R:=fun v w'=>Chg S w w'∧A.p v w'∧F w') ?_ ?_
  ·simp only[OpR,hrun]
   exact h
  ·rintro v w' ⟨h1,h2,h3⟩
   exact hK _ _ (k _ _ h1 h3 ((hf.ch h1).put (d:=some d) (Ext.rfl' _) (fun k hk=>by cases hk;exact hd) h2))
end tail
end Go.Mono
namespace Go.Mono
open Go Go.RowKit
theorem Dv.gr {α:Type}{e:Enc α}{G:Nat→Prop}{x:α}{v:Value}{w w':World}{b:Nat}(h:(Dv e G x).p v w)(hg:w.grownBy w' (some b))(hb:G b):(Dv e G x).p v w':=by
 obtain⟨cs,h1,h2⟩:=h
 exact⟨cs,Enc.gro h1 hg (fun c hc=>by cases hc;exact hb),h2⟩
instance {α:Type}{e:Enc α}{W:World}{G:Nat→Prop}{x:α}{v:Value}{w w':World}{b:Nat}:Gg b w w' ((Dv e (GB W G) x).p v w) (W.heap.size≤b) ((Dv e (GB W G) x).p v w'):=⟨fun g s h=>Dv.gr h g (.inr s)⟩
theorem Dv.ex {α:Type}{e:Enc α}{G:Nat→Prop}{x:α}{v:Value}{w w':World}(h:(Dv e G x).p v w)(k:Ext w w'):(Dv e G x).p v w':=(Dv e G x).st _ _ _ k h
section
variable {P:Program}{w0:World}{L:Env}{dst:Option Tmp}{ty:TypeId}{pos:String}{aft:Array Edge}{g:Option (Nat×Bool)}
theorem io {fn:Fn}{x1:Operand}{v1:Value}(h1:opd L x1=some (E v1)):OpC P w0 L ⟨dst,.makeFunc fn #[] #[x1],ty,pos,aft,g⟩ (E (.func fn #[] #[v1])):=
 aQ fun ρ w _ hv=>⟨_,by
  have a1:=opE hv (x:=x1) (by simp[Op.operands]) h1
  simp[execOp,Instr.makeFunc,a1],rfl⟩
theorem ip {fn:Fn}{x1 x2:Operand}{v1 v2:Value}(h1:opd L x1=some (E v1))(h2:opd L x2=some (E v2)):OpC P w0 L ⟨dst,.makeFunc fn #[] #[x1,x2],ty,pos,aft,g⟩ (E (.func fn #[] #[v1,v2])):=
 aQ fun ρ w _ hv=>⟨_,by
  have a1:=opE hv (x:=x1) (by simp[Op.operands]) h1
  have a2:=opE hv (x:=x2) (by simp[Op.operands]) h2
  simp[execOp,Instr.makeFunc,a1,a2],rfl⟩
theorem nS {fn:Fn}{x1 x2 x3 x4:Operand}{v1 v2 v3 v4:Value}(h1:opd L x1=some (E v1))(h2:opd L x2=some (E v2))(h3:opd L x3=some (E v3))(h4:opd L x4=some (E v4)):OpC P w0 L ⟨dst,.makeFunc fn #[] #[x1,x2,x3,x4],ty,pos,aft,g⟩ (E (.func fn #[] #[v1,v2,v3,v4])):=
 aQ fun ρ w _ hv=>⟨_,by
  have a1:=opE hv (x:=x1) (by simp[Op.operands]) h1
  have a2:=opE hv (x:=x2) (by simp[Op.operands]) h2
  have a3:=opE hv (x:=x3) (by simp[Op.operands]) h3
  have a4:=opE hv (x:=x4) (by simp[Op.operands]) h4
  simp[execOp,Instr.makeFunc,a1,a2,a3,a4],rfl⟩
end
end Go.Mono
namespace Go.Mono
theorem Dv.slOne {α:Type}{e:Enc α}{G:Nat→Prop}{xs:List α}{v:Go.Value}{w:Go.World}(h:(Dv (slE e) G xs).p v w):v.oneCell'=true:=by
 rcases Dv.sl.1 h with ⟨rfl,_⟩|⟨ad,cap,cs,rfl,_⟩ <;> rfl
end Go.Mono
namespace Go.Mono
open Go Go.RowKit
class FlE {α:Type}(e:Enc α):Prop where
 fl:∀{G G' w w' x cs},e.r G w x cs→e.r G' w' x cs
instance {α:Type}(k:Nat)(agg:Bool)(f:α→List Value)(p1 p2 p3 p4):FlE (dX k agg f p1 p2 p3 p4):=⟨fun h=>h⟩
instance:FlE aA:=⟨fun h=>h⟩
instance:FlE cL:=⟨fun h=>h⟩
instance:FlE aX:=⟨fun h=>h⟩
instance {α β:Type}(e:Enc α)(f:Enc β)[he:FlE e][hf:FlE f]:FlE (prE e f):=⟨fun⟨c,d,h,h1,h2⟩=>⟨c,d,h,he.fl h1,hf.fl h2⟩⟩
theorem Cells.fl {α:Type}{e:Enc α}[he:FlE e]{G G':Nat→Prop}{w w':World}:∀{xs:List α} {cs:List Value},Cells e G w xs cs→Cells e G' w' xs cs
 | [],cs,h=>h
 | x::xs,cs,⟨c,d,h,h1,h2⟩=>⟨c,d,h,he.fl h1,Cells.fl h2⟩
theorem OwR.grE {α:Type}{e:Enc α}[he:FlE e]{ty:TypeId}{B:Nat}{G:Nat→Prop}{w w':World}{xs:List α}{v:Value}{b:Nat}(h:OwR e ty B G w xs v)(hg:w.grownBy w' (some b))(hne:v.ownBlock≠some b):OwR e ty B G w' xs v:=by
 obtain⟨cs,h1,h2⟩:=h.own
 exact⟨⟨cs,h1.kept hg (.inr hne),Cells.fl h2⟩,h.av,Nat.le_trans h.base hg.size⟩
section
variable {P:Program}{w0:World}{L:Env}{dst:Option Tmp}{ty:TypeId}{pos:String}{aft:Array Edge}{g:Option (Nat×Bool)}
theorem vg {x:Operand}{t yt te:TypeId}{ao:Option Addr}{n c:Nat}(ht:P.underlying t=some (.slice te))(hx:opd L x=some (E (.slice ao n c))) :
  OpC P w0 L ⟨dst,.binOp .eql t x (.const (.slice none 0 0)) yt,ty,pos,aft,g⟩ (E (.bool ao.isNone)):=
 iV hx rfl (fun _=>rfl) rfl fun w _=>run_equal_slice_nil w t te ao n c ht
end
end Go.Mono
namespace Go.Mono
open Go Go.RowKit
def cg (P:Program)(k e:TypeId)(w:World)(b n:Nat)(m:Int→Option Int):Prop:=
 ∃D:DataW Unit,w.ownsMap P k (plainElem P e) b n D∧Maps.IsMap D∧∀x:Int,(Lit.int .i64 x).wf=true→Maps.has D (.int .i64 x)=(m x).isSome∧D.atKey (.int .i64 x) (.lit (.int .i64 0))=.lit (.int .i64 ((m x).getD 0))
variable {P:Program}{k e:TypeId}{w w':World}{b n:Nat}{m:Int→Option Int}
theorem cg.pres (h:cg P k e w b n m)(hb:w'.heap[b]?=w.heap[b]?):cg P k e w' b n m:=by
 obtain⟨D,⟨es,clock,h1,h2⟩,h3⟩:=h
 exact⟨D,⟨es,clock,hb.trans h1,h2⟩,h3⟩
theorem cg.lt (h:cg P k e w b n m):b<w.heap.size:=by
 obtain⟨D,h1,_⟩:=h
 exact h1.lt
def vh (P:Program)(k e:TypeId):Enc (Int→Option Int) where
 k:=1
 agg:=false
 r:=fun G w m cs=>∃b n,cs=[.map (some b)]∧¬G b∧cg P k e w b n m
 pos:=by decide
 k1:=fun _=>rfl
 len:=fun⟨b,n,h,_⟩=>by rw[h];rfl
 one:=fun⟨b,n,h,_⟩ u hu=>by rw[h] at hu;simp at hu;subst hu;rfl
 pres:=fun⟨b,n,h1,h2,h3⟩ hk hs=>⟨b,n,h1,h2,h3.pres (hk b h3.lt h2)⟩
 weak:=fun⟨b,n,h1,h2,h3⟩ hk=>⟨b,n,h1,fun hg=>h2 (hk b h3.lt hg),h3⟩
theorem cg.dv (h:cg P k e w b n m){G:Nat→Prop}(hG:¬G b):(Dv (vh P k e) G m).p (.map (some b)) w:=⟨_,⟨b,n,rfl,hG,h⟩,rfl⟩
theorem cg.made (w:World):cg P k e (w.alloc (.map #[] 0)) w.heap.size 0 (fun _=>none):=
 ⟨_,World.ownsMap_made w P k _,Maps.isMap_empty,fun x _=>⟨rfl,rfl⟩⟩
theorem dH {t:TypeId}{z:Value}{sz bz:Nat}(h:(P.info? t).map (fun i=>(i.zero,i.size,i.bytes))=some (some z,sz,bz)):∀w,(zeroValue t).run P w=.ok z w:=fun w=>by
 obtain⟨i,hi,hzi,_,_⟩:=info_parts h
 simp[zeroValue,typeInfo,hi,hzi]
section
variable {w0:World}{L:Env}{dst:Option Tmp}{ty:TypeId}{pos:String}{aft:Array Edge}{g:Option (Nat×Bool)}
end
end Go.Mono
namespace Go.Mono
open Go Go.RowKit
variable {P:Program}{w0:World}{L:Env}{dst:Option Tmp}{ty:TypeId}{pos:String}{aft:Array Edge}{g:Option (Nat×Bool)}{x y:Operand}{t yt:TypeId}
variable {α β:Type}{e:Enc α}{G:Nat→Prop}{z:α}

theorem fg (hx:Is L w0 x (Dv (ptE e) G (some z))):OpC P w0 L ⟨dst,.nilCheck x,ty,pos,aft,g⟩ (Dv (ptE e) G (some z)):=
 aQ fun ρ w he hv=>by
  have h:=hx.v he hv (by simp[Op.operands])
  obtain⟨ad,h1,h2⟩:=Dv.pt.1 h
  exact⟨ρ x,by simp[execOp,h1],h⟩
theorem dY {ad:Addr}(hx:opd L x=some (E (.pointer (some ad)))):OpC P w0 L ⟨dst,.nilCheck x,ty,pos,aft,g⟩ (E (.pointer (some ad))):=
 aQ fun ρ w he hv=>by
  have h1:=opE hv (x:=x) (by simp[Op.operands]) hx
  exact⟨ρ x,by simp[execOp,h1],h1⟩
theorem nT {op:BinOp}{A:VA}{c:Value}{b:Bool}(hx:Is L w0 x A)(h:∀v w,A.p v w→(eqGuard op t x (.const c) v c).run P w=.ok () w∧(binOp op t v c).run P w=.ok (.bool b) w) :
  OpC P w0 L ⟨dst,.binOp op t x (.const c) yt,ty,pos,aft,g⟩ (E (.bool b)):=
 aQ fun ρ w he hv=>by
  have h1:=hx.v he hv (by simp[Op.operands])
  have h2:ρ (.const c)=c:=hv (.const c) (by simp[Op.operands]) _ rfl
  obtain⟨h3,h4⟩:=h _ _ h1
  exact⟨_,by simp only[execOp,h2,Sem.run_bind,h3,h4,Result.andThen_ok,Sem.run_pure],rfl⟩
theorem nU {pe:TypeId}(h:P.underlying t=some (.pointer pe)):P.underlying t=some (.pointer (P.pointee t)):=by
 rw[h];simp[Program.pointee,h]
theorem vi {pe:TypeId}(ht0:P.underlying t=some (.pointer pe))(hx:Is L w0 x (Dv (ptE e) G (some z))):OpC P w0 L ⟨dst,.binOp .neq t x (.const (.pointer none)) yt,ty,pos,aft,g⟩ (E (.bool true)):=
 have ht:=nU ht0
 nT hx fun v w h=>by
  obtain⟨ad,h1,_⟩:=Dv.pt.1 h
  subst h1
  exact⟨rfl,run_neq_pointer_nil w t (some ad) ht⟩
theorem fh {pe:TypeId}(ht0:P.underlying t=some (.pointer pe))(hx:Is L w0 x (Dv (ptE e) G (some z))):OpC P w0 L ⟨dst,.binOp .eql t x (.const (.pointer none)) yt,ty,pos,aft,g⟩ (E (.bool false)):=
 have ht:=nU ht0
 nT hx fun v w h=>by
  obtain⟨ad,h1,_⟩:=Dv.pt.1 h
  subst h1
  exact⟨rfl,run_eql_pointer_nil w t (some ad) ht⟩
end Go.Mono
namespace Go.Mono
open Go Go.RowKit
end Go.Mono
namespace Go.Mono
open Go Go.RowKit
end Go.Mono
namespace Go.Mono
open Go Go.RowKit
variable {P:Program}{w0:World}{L:Env}{dst:Option Tmp}{ty:TypeId}{pos:String}{aft:Array Edge}{g:Option (Nat×Bool)}{x y:Operand}{t te:TypeId}

theorem vj {te:TypeId}{s:Nat}(hs:(P.info? te).map (·.size)=some s)(w:World):(sizeOf te).run P w=.ok s w:=by
 cases hi:P.info? te with
 | none=>simp[hi] at hs
 | some i=>simp[hi] at hs;simp[sizeOf,typeInfo,hi,hs]
section tail
variable {r:Option Nat}{ds:List Deferred}{ops:Array Oper}{rest:List Oper}{Q:Exit→Act→World→Prop}{n:Nat}{a:Act}{w:World}
end tail
theorem exE {vs:Array Value}{i:Nat}{u:Value}(hx:opd L x=some (E (.tuple vs)))(hi:vs[i]?=some u):OpC P w0 L ⟨dst,.extract x i,ty,pos,aft,g⟩ (E u):=
 aQ fun ρ w he hv=>by
  have h1:=opE hv (x:=x) (by simp[Op.operands]) hx
  have hlt:i<vs.size:=(Array.getElem?_eq_some_iff.1 hi).1
  exact⟨u,by simp[execOp,h1,Instr.extract,hi],rfl⟩
end Go.Mono
namespace Go.Mono
open Go Go.RowKit

section
variable {P:Program}{ops:Array Oper}{Q:Exit→Act→World→Prop}{w0:World}{n:Nat}{ds:List Deferred}{r:Option Nat}

def dZ (A:VA)(As:Nat→VA):Nat→VA
 | 0=>A
 | i+1=>As i
theorem ea (L:Env)(A:VA)(As:Nat→VA)(k j:Nat):aV ops L (dZ A As) k (j+1)=aV ops (push (aS ops k) A L) As (k+1) j:=by
 rw[← ia]
 congr 1
end
end Go.Mono
namespace Go.Mono
open Go Go.RowKit
section
variable {P:Program}{w0:World}{L:Env}{ty:TypeId}{pos:String}{aft:Array Edge}
variable {ops:Array Oper}{rest:List Oper}{K:Env→Prop}{A:VA}{op:Op}{dd:Nat}{row:Option Nat}{F:World→Prop}
end
end Go.Mono
namespace Go.Mono
open Go Go.RowKit

structure eb (P:Program)(w0:World)(S:World→World→Prop)(F:World→Prop)(L:Env)(o:Oper)(A:VA):Prop where
 out:∀ρ w,Ext w0 w→(∀x∈o.op.operands,∀B,opd L x=some B→B.p (ρ x) w)→OpR P o ρ w (fun v w'=>S w w'∧A.p v w'∧F w')
abbrev vk (P:Program)(w0:World)(S:Nat→Prop)(F:World→Prop)(L:Env)(o:Oper)(A:VA):Prop:=eb P w0 (Chg S) F L o A
end Go.Mono
namespace Go.Mono
open Go Go.RowKit
section
variable {P:Program}{w0:World}{L:Env}{dst:Option Tmp}{ty:TypeId}{pos:String}{aft:Array Edge}{S:Nat→Prop}{F:World→Prop}
def OwA {α:Type}(e:Enc α)(ty:TypeId)(B:Nat)(G:Nat→Prop)(xs:List α):VA:=⟨fun v w=>OwR e ty B G w xs v,fun v w w' k h=>h.ext k⟩
end
end Go.Mono
namespace Go.Mono
open Go Go.RowKit
section
variable {P:Program}{k e:TypeId}{w w':World}{b:Nat}{m:Int→Option Int}
theorem cg.ext {n:Nat}(h:cg P k e w b n m)(e':Ext w w'):cg P k e w' b n m:=h.pres (e'.block b h.lt)
theorem cg.gr {n:Nat}(h:cg P k e w b n m){c:Nat}(hg:w.grownBy w' (some c))(hne:b≠c):cg P k e w' b n m:=h.pres (hg.block b h.lt (by simpa using hne))
theorem cg.ch {n:Nat}(h:cg P k e w b n m){S:Nat→Prop}(c:Chg S w w')(hS:¬S b):cg P k e w' b n m:=h.pres (c.block b h.lt hS)
end
section tail
variable {P:Program}{L:Env}{ty:TypeId}{pos:String}{aft:Array Edge}{r:Option Nat}{ds:List Deferred}
variable {ops:Array Oper}{rest:List Oper}{Q:Exit→Act→World→Prop}{n:Nat}{a:Act}{w:World}{x y z:Operand}{k e:TypeId}
end tail
end Go.Mono
namespace Go.Mono
open Go Go.RowKit
section
variable {P:Program}{w0:World}{L:Env}{dst:Option Tmp}{ty:TypeId}{pos:String}{aft:Array Edge}{g:Option (Nat×Bool)}{t:TypeId}
theorem Dv.r1 {α:Type}{e:Enc α}{G:Nat→Prop}{x:α}{v:Value}{w:World}(ha:e.agg=false)(h:(Dv e G x).p v w):e.r G w x [v]:=by
 obtain⟨cs,h1,h2⟩:=h
 have hl:=e.len h1
 rw[e.k1 ha] at hl
 match cs,hl with
 | [u],_=>
  rw[Enc.pack,ha] at h2
  have:v=u:=h2
  rw[this];exact h1
theorem Dv.slF {α:Type}{e:Enc α}{G:Nat→Prop}{xs:List α}{v:Value}{w:World}(h:(Dv (slE e) G xs).p v w):∃ao n c,v=.slice ao n c:=by
 rcases Dv.sl.1 h with ⟨rfl,_⟩|⟨ad,cap,cs,rfl,_⟩
 ·exact⟨_,_,_,rfl⟩
 ·exact⟨_,_,_,rfl⟩
end
end Go.Mono
namespace Go.Mono
open Go Go.RowKit
def AlA (B:Nat)(z:Value)(e:TypeId):VA:=⟨fun v w=>∃b,B≤b∧v=.pointer (some ⟨b,0,none⟩)∧Blk w b z.cells e,fun v w w' k ⟨b,h1,h2,h3⟩=>⟨b,h1,h2,h3.ext k⟩⟩
theorem alD {P:Program}{w0:World}{L:Env}{dst:Option Tmp}{ty:TypeId}{pos:String}{aft:Array Edge}{g:Option (Nat×Bool)}{e:TypeId}{z:Value}{sz bz:Nat}(hz:(P.info? e).map (fun i=>(i.zero,i.size,i.bytes))=some (some z,sz,bz)) :
  OpC P w0 L ⟨dst,.alloc e,ty,pos,aft,g⟩ (AlA w0.heap.size z e):=by
 refine⟨fun ρ w he hv=>?_⟩
 obtain⟨i,hi,hzi,_,_⟩:=info_parts hz
 simp only[OpR,execOp,Instr.alloc,zeroValue,typeInfo,hi,hzi,Sem.run_bind,Sem.run_pure,iZ,Result.andThen_ok]
 simp[hi,hzi,iZ]
 exact⟨dA _ _,_,he.size,rfl,gh _ _ _⟩
theorem Blk.ne {w:World}{a b:Nat}{cs cs':Array Value}{t t':TypeId}(h:Blk w a cs t)(h':Blk w b cs' t')(ht:t≠t'):a≠b:=by
 rintro rfl
 unfold Blk at h h'
 rw[h] at h'
 simp at h'
 exact ht h'.2
end Go.Mono
namespace Go.Mono
open Go Go.Proofs Go.RowKit

theorem OwR.neB {α:Type}{e:Enc α}{ty:TypeId}{B:Nat}{G:Nat→Prop}{w:World}{xs:List α}{v:Value}(h:OwR e ty B G w xs v){b:Nat}{cs:Array Value}{t:TypeId}(hb:Blk w b cs t)(ht:t≠ty):v.ownBlock≠some b:=fun hv=>by
 obtain⟨cs',h1,_⟩:=h.own
 rcases h1.2 with ⟨rfl,_⟩|⟨g,cap,cur,rfl,_,hg,_⟩
 ·simp[Value.ownBlock] at hv
 ·simp only[Value.ownBlock,Option.some.injEq] at hv
  subst hv
  exact (Blk.ne hb hg ht) rfl
theorem OwR.chE {α:Type}{e:Enc α}[FlE e]{ty:TypeId}{B:Nat}{G:Nat→Prop}{w w':World}{xs:List α}{v:Value}{S:Nat→Prop}(h:OwR e ty B G w xs v)(c:Chg S w w')(hS:∀b,v.ownBlock=some b→¬S b):OwR e ty B G w' xs v:=by
 obtain⟨cs,h1,h2⟩:=h.own
 refine⟨⟨cs,⟨h1.1,?_⟩,Cells.fl h2⟩,h.av,Nat.le_trans h.base c.size⟩
 rcases h1.2 with h3|⟨g,cap,cur,a1,a2,a3,a4⟩
 ·exact .inl h3
 ·refine .inr ⟨g,cap,cur,a1,a2,?_,a4⟩
  rw[c.block g (Array.getElem?_eq_some_iff.1 a3).1 (hS g (by rw[a1];rfl))]
  exact a3
theorem vl {P:Program}{w0:World}{L:Env}{dst:Option Tmp}{ty:TypeId}{pos:String}{aft:Array Edge}{g:Option (Nat×Bool)}{f:FuncId}{x y z u:Operand}{tys:Array TypeId}{A B C D F:VA}(hf:Proofs.Enters P f)(hx:opd L x=some B)(hy:opd L y=some C)(hz:opd L z=some D)(hu:opd L u=some F)
  (h:∀v u s t w,Ext w0 w→B.p v w→C.p u w→D.p s w→F.p t w→Calls P f #[v,u,s,t] w (Post A w)) :
  OpC P w0 L ⟨dst,.call ⟨.value (.func f),#[x,y,z,u],tys⟩,ty,pos,aft,g⟩ A:=
 ib hf fun ρ w he hv=>by
  simpa using h (ρ x) (ρ y) (ρ z) (ρ u) w he (hv x (by simp[Op.operands,Call.operands]) _ hx) (hv y (by simp[Op.operands,Call.operands]) _ hy) (hv z (by simp[Op.operands,Call.operands]) _ hz) (hv u (by simp[Op.operands,Call.operands]) _ hu)
theorem jj {P:Program}{fn:Func}{t u s k:Nat}{R:Ending→World→Prop}{n:Nat}{a:Act}{w:World}{L:Env}{b:Nat}{cs:Array Value}{bt:TypeId}{A:VA}(hr:fn.results = #[.cell t u,.tmp s])(ht:TI P u true k)(hf:Fr n a w L)(h:aI L t=some (E (.pointer (some ⟨b,0,none⟩))))(h':aI L s=some A)
  (hb:Blk w b cs bt) (hs:cs.size=k) (hR:∀x,A.p x w→R (.returned (.tuple #[.agg cs,x])) w):bodyPost P fn R .ret a w:=by
 have hv:a.tmps.getD t undef=.pointer (some ⟨b,0,none⟩):=hf.val t _ h
 have hv':a.tmps[t]?.getD undef=.pointer (some ⟨b,0,none⟩):=by simpa using hv
 obtain⟨d,h1,h2⟩:=ht.u
 have hl:=run_loadVar_row (P:=P) w b bt u cs (0,0) d hb h1 (by cases d <;> simp_all) (by rw[ht.s,hs])
 exact⟨hf.defers,.tuple #[.agg cs,a.eval (.tmp s)],by simp[results,hr,Act.eval,hv',asAddr,hl],hR _ (hf.val s A h')⟩
structure OwX {α:Type}(e:Enc α)(ty:TypeId)(B:Nat)(G:Nat→Prop)(w:World)(xs:List α)(v:Value):Prop where
 own:∃cs,w.ownsRow B ty e.k v xs.length cs∧Cells e (GO G v) w xs cs
 base:B≤w.heap.size
section
variable {α β:Type}{e:Enc α}{ty ty':TypeId}{B B':Nat}{G G':Nat→Prop}{w w':World}{xs:List α}{ys:List β}{v u:Value}
theorem OwX.lt (h:OwX e ty B G w xs v){b:Nat}(hb:v.ownBlock=some b):B≤b∧b<w.heap.size:=by
 obtain⟨cs,h1,_⟩:=h.own
 exact h1.lt b hb
theorem OwX.nil (e:Enc α)(ty:TypeId){B:Nat}(hB:B≤w.heap.size):OwX e ty B G w [] (.slice none 0 0):=
 ⟨⟨[],World.ownsRow_nil _ _ _ _,rfl⟩,hB⟩
theorem OwX.weak (h:OwX e ty B G w xs v)(hG:∀b,b<w.heap.size→G' b→G b):OwX e ty B G' w xs v:=by
 obtain⟨cs,h1,h2⟩:=h.own
 exact⟨⟨cs,h1,h2.weak fun b hb h=>h.imp (hG b hb) id⟩,h.base⟩
theorem OwX.ch (h:OwX e ty B G w xs v){S:Nat→Prop}(c:Chg S w w')(hS:∀b,v.ownBlock=some b→¬S b)(hG:∀b,S b→G b):OwX e ty B G w' xs v:=by
 obtain⟨cs,h1,h2⟩:=h.own
 refine⟨⟨cs,⟨h1.1,?_⟩,h2.pres (fun b hb hn=>c.block b hb fun hs=>hn (.inl (hG b hs))) c.size⟩,Nat.le_trans h.base c.size⟩
 rcases h1.2 with h3|⟨g,cap,cur,a1,a2,a3,a4⟩
 ·exact .inl h3
 ·refine .inr ⟨g,cap,cur,a1,a2,?_,a4⟩
  rw[c.block g (Array.getElem?_eq_some_iff.1 a3).1 (hS g (by rw[a1];rfl))]
  exact a3
theorem OwX.ext (h:OwX e ty B G w xs v)(k:Ext w w'):OwX e ty B G w' xs v:=h.ch (k.chg fun _=>False) (fun _ _ h=>h) fun _ h=>h.elim
instance {B:Nat}:Ug w w' (OwX e ty B G w xs v) (OwX e ty B G w' xs v):=⟨fun e h=>h.ext e⟩
theorem OwX.sl (h:OwX e ty B G w xs v)(hG:∀b,v.ownBlock=some b→¬G' b)(hGG:∀b,b<w.heap.size→G' b→G b):(Dv (slE e) G' xs).p v w:=by
 obtain⟨cs,h1,h2⟩:=h.own
 refine Dv.sl.2 ?_
 rcases h1.2 with ⟨hv,hn⟩|⟨g,cap,cur,hv,hB,hg,hn,hm,hs,ht⟩
 ·exact .inl ⟨hv,List.eq_nil_of_length_eq_zero hn⟩
 ·refine .inr ⟨_,cap,cs,hv,hn,hG _ (by rw[hv];rfl),(Array.getElem?_eq_some_iff.1 hg).1,h2.weak fun b hb h=>.inl (hGG b hb h),h1.cells (by rw[hv];rfl)⟩
theorem OwX.sl0 (h:OwX e ty B G w xs v):(Dv (slE e) G0 xs).p v w:=h.sl (fun _ _ h=>h) fun _ _ h=>h.elim
theorem OwX.one (h:OwX e ty B G w xs v):v.oneCell'=true:=by
 rcases Dv.sl.1 h.sl0 with ⟨rfl,_⟩|⟨ad,cap,cs,rfl,_⟩ <;> rfl
end
section tail
variable {P:Program}{L:Env}{ty:TypeId}{pos:String}{aft:Array Edge}{r:Option Nat}{ds:List Deferred}
variable {ops:Array Oper}{rest:List Oper}{Q:Exit→Act→World→Prop}{n:Nat}{a:Act}{w:World}{x y:Operand}
variable {α:Type}{e:Enc α}{G:Nat→Prop}{xs ys:List α}{v:Value}
theorem cq {S:Nat→Prop}{F:Value→World→Prop}{id:FuncId}{xs:Array Operand}{tys:Array TypeId}{d:Nat}(hf:FrD n ds a w L)[hL:ff S L](hd:d<n)(he:Proofs.Enters P id)
  (h:Calls P id (xs.map a.eval) w (fun e w'=>∃v,e=.returned v∧Chg S w w'∧F v w'))
  (k:∀a' v w',Chg S w w'→F v w'→FrD n ds a' w' ((d,E v)::L)→wpListIn (FW r) 0 P ops Q rest a' w') :
  wpListIn (FW r) 0 P ops Q (⟨some d,.call ⟨.value (.func id),xs,tys⟩,ty,pos,aft,none⟩::rest) a w:=
 wpListIn_plain rfl fun K hK=>by
  have hfv:a.eval (.func id)=.func (.func id) #[] #[]:=rfl
  have hrun:(execOp a.eval ⟨some d,.call ⟨.value (.func id),xs,tys⟩,ty,pos,aft,none⟩).run P w=.ok (.enter id (xs.map a.eval)) w:=by
   have:=he (xs.map a.eval) w
   simp[execOp,resolve,hfv,Deferred.ofValue,invoke,this]
  refine OpR.wp (R:=fun v w'=>Chg S w w'∧F v w') ?_ ?_
  ·simp only[OpR,hrun]
   exact h
  ·rintro v w' ⟨h1,h3⟩
   exact hK _ _ (k _ _ _ h1 h3 ((hf.ch h1).put (d:=some d) (A:=E v) (Ext.rfl' _) (fun k hk=>by cases hk;exact hd) rfl))
end tail
end Go.Mono
