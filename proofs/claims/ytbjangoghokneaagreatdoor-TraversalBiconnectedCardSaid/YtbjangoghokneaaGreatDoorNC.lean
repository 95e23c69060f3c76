/-
  Walks of functions and plain facts.
  No condition.
-/
import Derived.Test.YtbjangoghokneaaGreatDoorNB
import Derived.Maps.RangeWalk
import Derived.Test.YtbjangoghokneaaGreatDoorNA
import Derived.ArgAppend
set_option linter.unusedVariables false
set_option linter.unusedSimpArgs false
namespace Go.Mono
open Go Go.RowKit
structure cg (S:World→World→Prop):Prop where
 tr:∀{a b c},S a b→S b c→S a c
 ext:∀{a b},Ext a b→S a b
class StJ (S:World→World→Prop)(A:VA):Prop where
 av:∀v w w',S w w'→A.p v w→A.p v w'
class fW (S:World→World→Prop)(L:Env):Prop where
 av:∀t A,aL L t=some A→∀v w w',S w w'→A.p v w→A.p v w'
instance (S:World→World→Prop)(v:Value):StJ S (E v):=⟨fun _ _ _ _ h=>h⟩
instance (S:World→World→Prop):StJ S Any:=⟨fun _ _ _ _ h=>h⟩
instance (S:World→World→Prop):fW S []:=⟨fun t A h=>by simp[aL] at h⟩
instance (S:World→World→Prop)(k:Nat)(A:VA)(L:Env)[h:StJ S A][hl:fW S L]:fW S ((k,A)::L):=⟨fun t B ht=>by
 by_cases hkt:k=t
 ·subst hkt;rw[cL] at ht;cases ht;exact h.av
 ·rw[cM _ _ hkt] at ht;exact hl.av t B ht⟩
end Go.Mono
namespace Go.Mono
open Go Go.RowKit
def fX (P:Program)(ops:Array Oper)(w0:World)(S:World→World→Prop)(F:World→Prop)(pf:List Nat):Nat→List Oper→(Env→Prop)→Env→Prop
 | _,[],K,L2=>K L2
 | k,o::rest,K,L2=>∃A,(∀w1,S w0 w1→(pf.contains k=true∨F w1)→GOp P ops w1 L2 o A)∧(pf.contains k=true→StJ S A)∧fX P ops w0 S F pf (k+1) rest K (push o.dst A L2)
def dQ (P:Program)(ops:Array Oper)(w0:World)(S:World→World→Prop)(F:World→Prop)(pf:List Nat):Nat→List Nat→List Oper→(Env→Prop)→Env→Env→Prop
 | k,[],o::rest,K,L,L2=>o.guard=none∧∃A,eE P w0 S F L o A∧fX P ops w0 S F pf (k+1) rest K (push o.dst A L2)
 | k,c::fr,o::rest,K,L,L2=>∃A,(c≠1→GOp P ops w0 L o A)∧(c=1→∀w1,S w0 w1→GOp P ops w1 L o A)∧(c≠0→StJ S A)∧dQ P ops w0 S F pf (k+1) fr rest K (push o.dst A L) (push o.dst (if c≠0 then A else Any) L2)
 | _,_,_,_,_,_=>False

section
variable {P:Program}{ops:Array Oper}{Q:Exit→Act→World→Prop}{w0:World}{n:Nat}{ds:List Deferred}{r:Option Nat}

theorem qw {S:World→World→Prop}{F:World→Prop}{pf:List Nat}{K:Env→Prop}:∀(M:List Oper) (k:Nat) (L:Env),(∀j,j<M.length→ops[k+j]?=M[j]?)→fX P ops w0 S F pf k M K L →
  ∃As:Nat→VA,(∀j o,j<M.length→ops[k+j]?=some o→(∀w1,S w0 w1→(pf.contains (k+j)=true∨F w1)→GOp P ops w1 (bD ops L As k j) o (As j))∧(pf.contains (k+j)=true→StJ S (As j)))∧K (bD ops L As k M.length)
 | [],k,L,_,h=>⟨fun _=>Any,fun j o hj=>by simp at hj,h⟩
 | o::M,k,L,hM,⟨A,hA,hB,hr⟩=>by
  have h0:ops[k]?=some o:=by simpa using hM 0 (by simp)
  have hd:aY ops k=o.dst:=by simp[aY,h0]
  obtain⟨As,h1,h2⟩:=qw M (k+1) (push o.dst A L) (fun j hj=>by
   have:=hM (j+1) (by simpa using hj)
   rw[show k+1+j=k+(j+1) by omega]
   simpa using this) hr
  refine⟨eD A As,?_,?_⟩
  ·intro j o' hj ho'
   cases j with
   | zero=>
    rw[Nat.add_zero,h0] at ho'
    obtain rfl:=Option.some.inj ho'
    exact⟨hA,hB⟩
   | succ j=>
    rw[fa,hd]
    have:=h1 j o' (by simpa using hj) (by rw[show k+1+j=k+(j+1) by omega];exact ho')
    rwa [show k+1+j=k+(j+1) by omega] at this
  ·rw[List.length_cons,fa,hd]
   exact h2
theorem qx {S:World→World→Prop}{F:World→Prop}{pf:List Nat}{K:Env→Prop}:∀(M:List Oper) (fr:List Nat) (k:Nat) (L L2:Env),(∀j,j<M.length→ops[k+j]?=M[j]?)→dQ P ops w0 S F pf k fr M K L L2 →
  ∃As:Nat→VA,fr.length<M.length∧(∀j o,j<fr.length→ops[k+j]?=some o→(frQ fr j=false→GOp P ops w0 (bD ops L As k j) o (As j))∧(frQ fr j=true→∀w1,S w0 w1→GOp P ops w1 (bD ops L As k j) o (As j))∧(kpQ fr j=true→StJ S (As j))) ∧
   (∀o,ops[k+fr.length]?=some o→o.guard=none∧eE P w0 S F (bD ops L As k fr.length) o (As fr.length)) ∧
   (∀j o,fr.length<j→j<M.length→ops[k+j]?=some o→(∀w1,S w0 w1→(pf.contains (k+j)=true∨F w1)→GOp P ops w1 (bD ops L2 (fun j=>if kpQ fr j=true∨fr.length≤j then As j else Any) k j) o (As j))∧(pf.contains (k+j)=true→StJ S (As j))) ∧
   K (bD ops L2 (fun j=>if kpQ fr j=true∨fr.length≤j then As j else Any) k M.length)
 | [],[],_,_,_,_,h=>h.elim
 | [],_::_,_,_,_,_,h=>h.elim
 | o::M,[],k,L,L2,hM,⟨hg,A,h1,h2⟩=>by
  have h0:ops[k]?=some o:=by simpa using hM 0 (by simp)
  have hd:aY ops k=o.dst:=by simp[aY,h0]
  obtain⟨As,h3,h4⟩:=qw M (k+1) (push o.dst A L2) (fun j hj=>by
   have:=hM (j+1) (by simpa using hj)
   rw[show k+1+j=k+(j+1) by omega]
   simpa using this) h2
  have e:(fun j=>if kpQ [] j=true∨([]:List Nat).length≤j then eD A As j else Any)=eD A As:=by
   funext j
   simp
  refine⟨eD A As,by simp,fun j o hj=>by simp at hj,fun o' ho'=>?_,fun j o' hj hj2 ho'=>?_,?_⟩
  ·rw[List.length_nil,Nat.add_zero,h0] at ho'
   obtain rfl:=Option.some.inj ho'
   exact⟨hg,h1⟩
  ·rw[e]
   cases j with
   | zero=>simp at hj
   | succ j=>
    rw[fa,hd]
    have:=h3 j o' (by simpa using hj2) (by rw[show k+1+j=k+(j+1) by omega];exact ho')
    rwa [show k+1+j=k+(j+1) by omega] at this
  ·rw[e,List.length_cons,fa,hd]
   exact h4
 | o::M,c::fr,k,L,L2,hM,⟨A,hA1,hA2,hA3,hr⟩=>by
  have h0:ops[k]?=some o:=by simpa using hM 0 (by simp)
  have hd:aY ops k=o.dst:=by simp[aY,h0]
  obtain⟨As,h1,h2,h3,h5,h4⟩:=qx M fr (k+1) _ _ (fun j hj=>by
   have:=hM (j+1) (by simpa using hj)
   rw[show k+1+j=k+(j+1) by omega]
   simpa using this) hr
  have hc1:kpQ (c::fr) 0=true↔c≠0:=by
   unfold kpQ
   cases c with
   | zero=>simp
   | succ n=>exact⟨fun _=>Nat.succ_ne_zero n,fun _=>rfl⟩
  have hc2:frQ (c::fr) 0=true↔c=1:=by
   unfold frQ
   simp[Nat.beq_eq]
  have e:(fun j=>if kpQ (c::fr) j=true∨(c::fr).length≤j then eD A As j else Any)=eD (if c≠0 then A else Any) (fun j=>if kpQ fr j=true∨fr.length≤j then As j else Any):=by
   funext j
   cases j with
   | zero=>
    show (if kpQ (c::fr) 0=true∨fr.length+1≤0 then A else Any)=(if c≠0 then A else Any)
    have:¬fr.length+1≤0:=by omega
    simp[this,hc1]
   | succ j=>
    show (if kpQ fr j=true∨fr.length+1≤j+1 then As j else Any)=_
    simp[eD]
  refine⟨eD A As,by simp only[List.length_cons];omega,?_,?_,?_,?_⟩
  ·intro j o' hj ho'
   cases j with
   | zero=>
    rw[Nat.add_zero,h0] at ho'
    obtain rfl:=Option.some.inj ho'
    exact⟨fun h=>hA1 fun hc=>(by rw[hc2.2 hc] at h;cases h),fun h=>hA2 (hc2.1 h),fun h=>hA3 (hc1.1 h)⟩
   | succ j=>
    rw[fa,hd]
    exact h2 j o' (by simpa using hj) (by rw[show k+1+j=k+(j+1) by omega];exact ho')
  ·intro o' ho'
   rw[List.length_cons,fa,hd]
   exact h3 o' (by rw[show k+1+fr.length=k+(fr.length+1) by omega];exact ho')
  ·intro j o' hj hj2 ho'
   rw[e]
   cases j with
   | zero=>simp at hj
   | succ j=>
    rw[fa,hd]
    have:=h5 j o' (by simpa using hj) (by simpa using hj2) (by rw[show k+1+j=k+(j+1) by omega];exact ho')
    rwa [show k+1+j=k+(j+1) by omega] at this
  ·rw[e,List.length_cons,fa,hd]
   exact h4

structure yo (ops:Array Oper)(m x:Nat)(kp:Nat→Bool)(S:World→World→Prop)(F:World→Prop)(n:Nat)(ds:List Deferred)(w0:World)(L:Env)(As:Nat→VA)(listed:Array Bool)(a:Act)(w:World):Prop where
 ext:S w0 w
 pre:listed.getD x true=false→Ext w0 w
 post:listed.getD x false=true→F w
 size:a.tmps.size=n
 defers:a.defers=ds
 hL:∀t A,aL L t=some A→(∀j,j<m→aY ops j≠some t)→A.p (a.eval (.tmp t)) w
 hA:∀i,i<m→listed.getD i false=true→(listed.getD x true=false∨kp i=true∨x≤i)→∀d,aY ops i=some d→(As i).p (a.eval (.tmp d)) w

theorem qy {m x:Nat}{fr kp pf:Nat→Bool}{S:World→World→Prop}(hR:cg S){F:World→Prop}(hx0:x<m)(hFst:∀w w',Ext w w'→F w→F w'){L:Env}{As:Nat→VA}(hm:m≤ops.size)(hchk:∀i,i<m→gw ops m n i=true)(hchk2:∀i,m≤i→i<ops.size→dI ops i=true)
  (hanc:∀j,j<x→fr j=false→dH ops 12 x j=true) (hpo:∀j,x<j→j<m→pf j=true∨dH ops 12 j x=true) (hpk:∀j o,x<j→j<m→ops[j]?=some o→pf j=true→StJ S (As j)) (hfk:∀j,fr j=true→kp j=true)
  (hfree:∀i o,i<x→fr i=true→ops[i]?=some o→∀t,(t∈di o∨co ops o=some t)→∀j,j<m→aY ops j=some t→kp j=true∧j≠x)
  (hopsP:∀j o,x<j→j<m→ops[j]?=some o→∀w1,S w0 w1→(pf j=true∨F w1)→GOp P ops w1 (bD ops L (fun j=>if kp j=true∨x≤j then As j else Any) 0 j) o (As j))
  (hops:∀j o,j<x→ops[j]?=some o→(fr j=false→GOp P ops w0 (bD ops L As 0 j) o (As j))∧(fr j=true→∀w1,S w0 w1→GOp P ops w1 (bD ops L As 0 j) o (As j))∧(kp j=true→StJ S (As j)))
  (hX:∀o,ops[x]?=some o→o.guard=none∧eE P w0 S F (bD ops L As 0 x) o (As x)) (hLav:fW S L)
  (hend:∀a w,S w0 w→F w→FrD n ds a w (bD ops L (fun j=>if kp j=true∨x≤j then As j else Any) 0 m)→wpListIn (FW r) 0 P ops Q (ops.toList.drop m) a w) :
  ∀(c:Nat) (listed:Array Bool) (a:Act) (w:World),(List.range m).countP (fun i => !listed.getD i true)=c→listed.size=ops.size →
   (∀j,m≤j→j<ops.size→listed.getD j true=false)→LD ops listed→yo ops m x kp S F n ds w0 L As listed a w→wpAnyIn (FW r) 0 P .any ops Q (c+(ops.size - m)) listed a w
 | 0,listed,a,w,hc,hsz,hun,hld,hi=>by
  have hall:∀j,j<m→listed.getD j false=true:=by
   intro j hj
   have:=(List.countP_eq_zero.1 hc) j (List.mem_range.2 hj)
   have hjl:j<listed.size:=by omega
   simpa[hjl] using this
  rw[Nat.zero_add]
  refine jj m hchk2 (ops.size - m) m (by omega) (Nat.le_refl _) listed a w hall hun hsz hld (hend a w hi.ext (hi.post (hall x hx0)) ⟨hi.size,hi.defers,fun t A ht=>?_⟩)
  rcases eU L _ t A m ht with ⟨j,hj,hd,rfl⟩|⟨hn,hl⟩
  ·by_cases hk:kp j=true∨x≤j
   ·rw[if_pos hk]
    exact hi.hA j hj (hall j hj) (.inr hk) t hd
   ·rw[if_neg hk];trivial
  ·exact hi.hL t A hl hn
 | c+1,listed,a,w,hc,hsz,hun,hld,hi=>by
  have facts:∀i o,i<m→ops[i]?=some o→(∀e∈o.after,Region.binds .any e=true→e.on<i)∧(∀d,o.dst=some d→d<n) ∧
    (∀t,t∈di o∨co ops o=some t→∀j,j<m→aY ops j=some t→bnd ops i j=true)∧(∀j,j<m→j≠i→∀d,o.dst=some d→aY ops j≠some d):=by
   intro i o hlt ho
   have:=hchk i hlt
   simp only[gw,ho,Bool.and_eq_true,Array.all_eq_true_iff_forall_mem,Bool.or_eq_true,Bool.not_eq_true',List.all_eq_true,List.mem_range,List.mem_append,Option.mem_toList] at this
   obtain⟨⟨⟨h1,h2⟩,h3⟩,h4⟩:=this
   refine⟨fun e he hb=>?_,fun d hd=>?_,fun t ht j hj hd=>?_,fun j hj hne d hd hd'=>?_⟩
   ·rcases h1 e he with h|h
    ·rw[hb] at h;cases h
    ·simpa[Nat.blt_eq] using h
   ·simpa[hd,Nat.blt_eq] using h2
   ·have:=h3 t ht j hj
    rcases this with h|h
    ·rw[hd] at h;simp at h
    ·exact h
   ·have:=h4 j hj
    rcases this with h|h
    ·exact hne (Nat.eq_of_beq_eq_true h)
    ·rw[hd,hd'] at h;simp at h
  have prog:∃i,i<m∧listed.getD i true=false∧∀j,j<i→listed.getD j true=true:=by
   have hex:∃i,i<m∧listed.getD i true=false:=by
    have hpos:0<(List.range m).countP (fun i => !listed.getD i true):=by omega
    obtain⟨i,hi,hb⟩:=List.countP_pos_iff.1 hpos
    exact⟨i,List.mem_range.1 hi,by simpa using hb⟩
   obtain⟨i,hlt,hb⟩:=hex
   induction i using Nat.strongRecOn with
   | _ i ih=>
    by_cases h:∃j,j<i∧listed.getD j true=false
    ·obtain⟨j,hj,hjb⟩:=h
     exact ih j hj (by omega) hjb
    ·refine⟨i,hlt,hb,fun j hj=>?_⟩
     cases hjb:listed.getD j true with
     | true=>rfl
     | false=>exact absurd ⟨j,hj,hjb⟩ h
  obtain⟨i0,hi0,hu0,hbelow⟩:=prog
  have hready:i0∈Region.ready .any ops listed:=by
   have ho:ops[i0]?=some (ops[i0]'(by omega)):=by simp
   refine mem_ready.2 ⟨hu0,_,ho,fun e he hb=>?_⟩
   have hlt:=(facts i0 _ hi0 ho).1 e he hb
   have:=hbelow _ hlt
   have hjl:e.on<listed.size:=by omega
   simpa[hjl] using this
  rw[show c+1+(ops.size - m)=(c+(ops.size - m))+1 by omega]
  refine⟨fun h0=>(by rw[h0] at hready;cases hready),fun i hir=>?_⟩
  obtain⟨hu,o,ho,hall⟩:=mem_ready.1 hir
  have hilt:i<ops.size:=(Array.getElem?_eq_some_iff.1 ho).1
  have listed_of_bnd:∀j,bnd ops i j=true→listed.getD j false=true:=by
   intro j hb
   simp only[bnd,ho] at hb
   obtain⟨e,he,hb⟩:=Array.any_eq_true'.1 hb
   simp only[Bool.and_eq_true] at hb
   have:=hall e he hb.1
   rwa [Nat.eq_of_beq_eq_true hb.2] at this
  have him:i<m:=by
   rcases Nat.lt_or_ge i m with h|h
   ·exact h
   ·have hc:=hchk2 i h hilt
    simp only[dI,ho,Bool.and_eq_true,List.all_eq_true,List.mem_range] at hc
    have:=cov hld 12 i i0 (hc.2 i0 (by omega)) (fun o' ho' e he hb=>by
     rw[ho] at ho'
     obtain rfl:=Option.some.inj ho'
     exact hall e he hb)
    rw[ew hu0] at this
    cases this
  obtain⟨f1,f2,f3,f4⟩:=facts i o him ho
  have hlx:x<i→pf i=true∨listed.getD x false=true:=fun hxi=>(hpo i hxi him).imp id fun hco=>cov hld 12 i x hco (fun o' ho' e he hb=>by
   rw[ho] at ho'
   obtain rfl:=Option.some.inj ho'
   exact hall e he hb)
  have hxun:i<x→fr i=false→listed.getD x true=false:=by
   intro hix hfr
   cases hlx:listed.getD x true with
   | false=>rfl
   | true=>
    have hxl:x<listed.size:=by omega
    have hlx':listed.getD x false=true:=by simpa[hxl] using hlx
    have:=cov hld 12 x i (hanc i hix hfr) (fun o' ho' e he hb=>hld x o' hlx' ho' e he hb)
    rw[ew hu] at this
    cases this
  have hcond:i≤x→∀j,j<m→(∃t,(t∈di o∨co ops o=some t)∧aY ops j=some t)→(listed.getD x true=false∨kp j=true∨x≤j):=by
   rintro hix0 j hj ⟨t,ht,hd⟩
   by_cases hix:i=x
   ·exact .inl (hix▸hu)
   ·cases hfr:fr i with
    | true=>exact .inr (.inl ((hfree i o (by omega) hfr ho t ht j hj hd).1))
    | false=>exact .inl (hxun (by omega) hfr)
  have byLook:i≤x→∀t,(t∈di o∨co ops o=some t)→∀B,aL (bD ops L As 0 i) t=some B→B.p (a.eval (.tmp t)) w:=by
   intro hix t ht B hB
   rcases eU L As t B i hB with ⟨j,hj,hd,rfl⟩|⟨hn,hl⟩
   ·exact hi.hA j (by omega) (listed_of_bnd j (f3 t ht j (by omega) hd)) (hcond hix j (by omega) ⟨t,ht,hd⟩) t hd
   ·refine hi.hL t B hl fun j hj hd=>?_
    have hb:=f3 t ht j hj hd
    simp only[bnd,ho] at hb
    obtain⟨e,he,hb⟩:=Array.any_eq_true'.1 hb
    simp only[Bool.and_eq_true] at hb
    have hlt:=f1 e he hb.1
    rw[Nat.eq_of_beq_eq_true hb.2] at hlt
    exact hn j hlt hd
  have byLookP:∀t,(t∈di o∨co ops o=some t)→∀B,aL (bD ops L (fun j=>if kp j=true∨x≤j then As j else Any) 0 i) t=some B→B.p (a.eval (.tmp t)) w:=by
   intro t ht B hB
   rcases eU L _ t B i hB with ⟨j,hj,hd,rfl⟩|⟨hn,hl⟩
   ·by_cases hk:kp j=true∨x≤j
    ·rw[if_pos hk]
     exact hi.hA j (by omega) (listed_of_bnd j (f3 t ht j (by omega) hd)) (.inr hk) t hd
    ·rw[if_neg hk];trivial
   ·refine hi.hL t B hl fun j hj hd=>?_
    have hb:=f3 t ht j hj hd
    simp only[bnd,ho] at hb
    obtain⟨e,he,hb⟩:=Array.any_eq_true'.1 hb
    simp only[Bool.and_eq_true] at hb
    have hlt:=f1 e he hb.1
    rw[Nat.eq_of_beq_eq_true hb.2] at hlt
    exact hn j hlt hd
  have ops1:i≤x→∀x∈o.op.operands,∀B,opd (bD ops L As 0 i) x=some B→B.p (a.eval x) w:=fun hix x hx B hB=>by
   cases x with
   | tmp t=>exact byLook hix t (.inl (List.mem_filterMap.2 ⟨.tmp t,by simpa using hx,rfl⟩)) B hB
   | const v=>simp[opd] at hB;subst hB;rfl
   | global g=>simp[opd] at hB;subst hB;rfl
   | func f=>simp[opd] at hB;subst hB;rfl
  have ops2:∀x'∈o.op.operands,∀B,opd (bD ops L (fun j=>if kp j=true∨x≤j then As j else Any) 0 i) x'=some B→B.p (a.eval x') w:=fun x' hx B hB=>by
   cases x' with
   | tmp t=>exact byLookP t (.inl (List.mem_filterMap.2 ⟨.tmp t,by simpa using hx,rfl⟩)) B hB
   | const v=>simp[opd] at hB;subst hB;rfl
   | global g=>simp[opd] at hB;subst hB;rfl
   | func f=>simp[opd] at hB;subst hB;rfl
  have hdst:aY ops i=o.dst:=by simp[aY,ho]
  have step:∀v w',S w w'→(i≠x→Ext w w')→(i=x→∀j,j<x→kp j=true→StJ S (As j))→(As i).p v w'→(i=x→F w')→wpAnyIn (FW r) 0 P .any ops Q (c+(ops.size - m)) (listed.setIfInBounds i true) (a.put o.dst v) w':=by
   intro v w' hx hxe hxa hv hvF
   have stab:∀(A:VA) u,StJ S A→A.p u w→A.p u w':=fun A u hA h=>hA.av _ _ _ hx h
   refine qy hR hx0 hFst hm hchk hchk2 hanc hpo hpk hfk hfree hopsP hops hX hLav hend c _ _ _ ?_ (by simpa using hsz) ?_ ?_ ?_
   ·have:=lg m (fun j => !listed.getD j true) (fun j => !(listed.setIfInBounds i true).getD j true) i him (by simp only[hu,Bool.not_false])
     (by
       have hjl:i<listed.size:=by omega
       simp[hjl]) (fun j hj=>by simp only[getD_set_ne true (Ne.symm hj)])
    omega
   ·intro j hj hj'
    rw[getD_set_ne true (by omega)]
    exact hun j hj hj'
   ·exact hld.set fun o' ho' e he hb=>by
     rw[ho] at ho'
     obtain rfl:=Option.some.inj ho'
     exact hall e he hb
   ·refine⟨hR.tr hi.ext hx,fun hl=>?_,fun hl=>?_,by simp[hi.size],by simp[hi.defers],fun t A ht hn=>?_,fun j hj hl hcj d hd=>?_⟩
    ·have hix:i≠x:=by
      rintro rfl
      have hjl:i<listed.size:=by omega
      simp[hjl] at hl
     rw[getD_set_ne true hix] at hl
     exact Ext.tr (hi.pre hl) (hxe hix)
    ·by_cases hix:i=x
     ·exact hvF hix
     ·rw[getD_set_ne false hix] at hl
      exact hFst _ _ (hxe hix) (hi.post hl)
    ·have h0:=stab A _ ⟨hLav.av t A ht⟩ (hi.hL t A ht hn)
     cases hod:o.dst with
     | none=>exact h0
     | some d=>
      have:d≠t:=fun e=>hn i him (by rw[hdst,hod,e])
      rw[fF this]
      exact h0
    ·by_cases hji:j=i
     ·subst hji
      rw[hdst] at hd
      rw[hd,ji (by rw[hi.size];exact f2 d hd)]
      exact hv
     ·have hl':listed.getD j false=true:=by rwa [getD_set_ne false (Ne.symm hji)] at hl
      have hcj':listed.getD x true=false∨kp j=true∨x≤j:=by
       by_cases hix:i=x
       ·exact .inl (hix▸hu)
       ·rw[getD_set_ne true hix] at hcj
        exact hcj
      have h1:=hi.hA j hj hl' hcj' d hd
      have h0:(As j).p (a.eval (.tmp d)) w':=by
       by_cases hix:i=x
       ·rcases Nat.lt_trichotomy j x with hjx|h|h
        rotate_left
        ·exact absurd (h.trans hix.symm) hji
        ·rcases hpo j h hj with hp|hp
         ·exact stab _ _ (hpk j (ops[j]'(by omega)) h hj (by simp) hp) h1
         ·have:=cov hld 12 j x hp (fun o' ho' e he hb=>hld j o' hl' ho' e he hb)
          rw[ew (hix▸hu)] at this
          cases this
        refine stab _ _ (hxa hix j hjx ?_) h1
        rcases hcj with h|h|h
        ·have hxl:x<listed.size:=by omega
         subst hix
         simp[hxl] at h
        ·exact h
        ·omega
       ·exact (As j).st _ _ _ (hxe hix) h1
      cases hod:o.dst with
      | none=>exact h0
      | some d'=>
       have:d'≠d:=fun e=>f4 j hj hji d' hod (by rw[hd,e])
       rw[fF this]
       exact h0
  unfold wpOpIn
  simp only[ho]
  by_cases hix:i=x
  ·obtain⟨hgd,hxo⟩:=hX o (hix▸ho)
   have hw:Region.wanted o (yielded ops a.tmps)=true:=by unfold Region.wanted;rw[hgd]
   rw[if_pos hw]
   have hpre:Ext w0 w:=hi.pre (hix▸hu)
   exact (hxo.out a.eval w hpre (hix▸ops1 (Nat.le_of_eq hix))).wp fun v w' hv=>step v w' hv.1 (fun h=>absurd hix h) (fun _ j hj=>by
    have hoj:ops[j]?=some (ops[j]'(by omega)):=by simp
    exact fun hfj=>(hops j _ hj hoj).2.2 hfj) (hix▸hv.2.1) (fun _=>hv.2.2)
  ·have hg:if Region.wanted o (yielded ops a.tmps) then OpR P o a.eval w (fun v w'=>Ext w w'∧(As i).p v w') else (As i).p undef w:=by
    by_cases hlt:i<x
    ·cases hfr:fr i with
     | true=>exact (hops i o hlt ho).2.1 hfr w hi.ext a w (Ext.rfl' w) (ops1 (by omega)) (fun d B hd hB=>byLook (by omega) d (.inr hd) B hB)
     | false=>exact (hops i o hlt ho).1 hfr a w (hi.pre (hxun hlt hfr)) (ops1 (by omega)) (fun d B hd hB=>byLook (by omega) d (.inr hd) B hB)
    ·exact hopsP i o (by omega) him ho w hi.ext ((hlx (by omega)).imp id hi.post) a w (Ext.rfl' w) ops2 (fun d B hd hB=>byLookP d (.inr hd) B hB)
   split
   ·rename_i hw
    rw[if_pos hw] at hg
    exact (hg.wp fun v w' hv=>step v w' (hR.ext hv.1) (fun _=>hv.1) (fun h=>absurd h hix) hv.2 (fun h=>absurd h hix))
   ·rename_i hw
    rw[if_neg hw] at hg
    exact⟨fun _ _=>trivial,step undef w (hR.ext (Ext.rfl' w)) (fun _=>Ext.rfl' _) (fun h=>absurd h hix) hg (fun h=>absurd h hix)⟩

def mn (ops:Array Oper)(m:Nat)(fr pf:List Nat):Bool:=
 Nat.blt fr.length m&&((List.range fr.length).all fun j=>frQ fr j || dH ops 12 fr.length j)&&((List.range m).all fun j=>(Nat.ble j fr.length || pf.contains j) || dH ops 12 j fr.length) &&
 ((
   List.range fr.length).all fun i => !frQ fr i || match ops[i]? with
   | none=>false
   | some o=>(di o++(co ops o).toList).all fun t=>(List.range m).all fun j=>(match aY ops j with|some d => !Nat.beq d t|none=>true) || (kpQ fr j&&Nat.blt j fr.length))
abbrev yp (ops:Array Oper)(m:Nat)(fr:List Nat):Bool:=mn ops m fr []
theorem yq {id:Nat}{ops:Array Oper}{L:Env}{a:Act}{w:World}(m:Nat)(fr pf:List Nat)(S:World→World→Prop)(hR:cg S)(F:World→Prop)(hFst:∀w w',Ext w w'→F w→F w')(hmix:P.follows .mixedOrders=true)(hf:FrD n ds a w L)[hL:fW S L](hchk:chk ops m n=true)(hchkZ:mn ops m fr pf=true)
  (h:dQ P ops w S F pf 0 fr (ops.toList.take m) (fun L'=>∀a' w',S w w'→F w'→FrD n ds a' w' L'→wpListIn (FW r) 0 P ops Q (ops.toList.drop m) a' w') L L):(Code.region id ops true).wpIn (FW r) 0 P Q a w:=by
 simp only[chk,Bool.and_eq_true,List.all_eq_true,List.mem_range,Bool.or_eq_true,Nat.ble_eq] at hchk
 obtain⟨⟨hm,h1⟩,h2⟩:=hchk
 refine wpIn_region_any hmix ?_
 have hlen:(ops.toList.take m).length=m:=by simp;omega
 obtain⟨As,hfl,hAs,hX,hPo,hK⟩:=qx (ops:=ops) (ops.toList.take m) fr 0 L L (fun j hj=>by
  rw[hlen] at hj
  rw[Nat.zero_add,List.getElem?_take,if_pos hj];simp) h
 rw[hlen] at hK hfl hPo
 simp only[mn,Bool.and_eq_true,List.all_eq_true,List.mem_range,Bool.or_eq_true,Nat.blt_eq,Nat.ble_eq] at hchkZ
 obtain⟨⟨⟨hx,z1⟩,z3⟩,z2⟩:=hchkZ
 have hext:Ext w { w with drawn:=w.drawn+1 }:=Ext.drew w
 have:=qy (P:=P) (ops:=ops) (Q:=Q) (w0:=w) (n:=n) (ds:=ds) (m:=m) (x:=fr.length) (fr:=frQ fr) (kp:=kpQ fr) (pf:=pf.contains) (S:=S) (F:=F) (r:=r) (L:=L) (As:=As) hR hx hFst hm h1 (fun i hi hi'=>by
   rcases h2 i hi' with h|h
   ·simp only[Nat.blt_eq] at h;omega
   ·exact h) (fun j hj hfj=>by
   rcases z1 j hj with h|h
   ·rw[hfj] at h;cases h
   ·exact h) (fun j hj hjm=>by
   rcases z3 j hjm with (h|h)|h
   ·omega
   ·exact .inl h
   ·exact .inr h) (fun j o hj hjm ho hp=>(hPo j o hj hjm (by simpa using ho)).2 (by simpa using hp)) (fun j h=>by
   unfold frQ at h
   unfold kpQ
   rw[Nat.eq_of_beq_eq_true h];rfl) (fun i o hi hfi ho t ht j hj hd=>by
   have:=z2 i hi
   rw[hfi,ho] at this
   simp only[Bool.not_true,Bool.false_eq_true,false_or,List.all_eq_true,List.mem_append,Option.mem_toList,List.mem_range,Bool.or_eq_true] at this
   rcases this t ht j hj with h|h
   ·rw[hd] at h;simp at h
   ·rw[Bool.and_eq_true,Nat.blt_eq] at h
    exact⟨h.1,by omega⟩) (fun j o hj hjm ho w1 a b=>(hPo j o hj hjm (by simpa using ho)).1 w1 a (by simpa using b)) (fun j o hj ho=>hAs j o hj (by simpa using ho)) (fun o ho=>hX o (by simpa using ho)) hL (fun a w hx hF hf=>hK a w hx hF hf) m
  (Array.replicate ops.size false) a { w with drawn:=w.drawn+1 } ?_ (by simp) ?_ ?_ ⟨hR.ext hext,fun _=>hext,fun hl=>?_,hf.size,hf.defers,fun t A ht _=>A.st _ _ _ hext (hf.val t A ht),fun i hi hl=>?_⟩
 ·rwa [show m+(ops.size - m)=ops.size by omega] at this
 ·have:(List.range m).countP (fun i => !(Array.replicate ops.size false).getD i true)=(List.range m).length:=by
   refine List.countP_eq_length.2 fun i hi=>?_
   have:=List.mem_range.1 hi
   have hlt:i<ops.size:=by omega
   simp[hlt]
  simpa using this
 ·intro j _ hj
  simp[hj]
 ·intro i o hl
  have:(Array.replicate ops.size false).getD i false=false:=by
   by_cases hlt:i<ops.size <;> simp[hlt]
  rw[this] at hl;cases hl
 ·have:(Array.replicate ops.size false).getD fr.length false=false:=by
   by_cases hlt:fr.length<ops.size <;> simp[hlt]
  rw[this] at hl;cases hl
 ·have:(Array.replicate ops.size false).getD i false=false:=by
   by_cases hlt:i<ops.size <;> simp[hlt]
  rw[this] at hl;cases hl
theorem cO {id:Nat}{ops:Array Oper}{L:Env}{a:Act}{w:World}(m:Nat)(fr:List Nat)(S:World→World→Prop)(hR:cg S)(F:World→Prop)(hFst:∀w w',Ext w w'→F w→F w')(hmix:P.follows .mixedOrders=true)(hf:FrD n ds a w L)[hL:fW S L](hchk:chk ops m n=true)(hchkZ:yp ops m fr=true)
  (h:dQ P ops w S F [] 0 fr (ops.toList.take m) (fun L'=>∀a' w',S w w'→F w'→FrD n ds a' w' L'→wpListIn (FW r) 0 P ops Q (ops.toList.drop m) a' w') L L):(Code.region id ops true).wpIn (FW r) 0 P Q a w:=yq m fr [] S hR F hFst hmix hf hchk hchkZ h
end
section
variable {P:Program}{w0:World}{L L2:Env}{ty:TypeId}{pos:String}{aft:Array Edge}
variable {ops:Array Oper}{rest:List Oper}{K:Env→Prop}{A:VA}{op:Op}{dd:Nat}{S:World→World→Prop}{F:World→Prop}{fr pf:List Nat}{kk:Nat}
theorem jf (h:∀w1,S w0 w1→OpC P w1 L ⟨some dd,op,ty,pos,aft,none⟩ A)[hA:StJ S A](k:dQ P ops w0 S F pf (kk+1) fr rest K ((dd,A)::L) ((dd,A)::L2)):dQ P ops w0 S F pf kk (1::fr) (⟨some dd,op,ty,pos,aft,none⟩::rest) K L L2:=
 ⟨A,fun h=>absurd rfl h,fun _ w1 h1 a w he hv _=>by simp only[Region.wanted,if_true];exact (h w1 h1).out _ w he hv,fun _=>hA,k⟩
theorem ja (h:OpC P w0 L ⟨some dd,op,ty,pos,aft,none⟩ A)(k:dQ P ops w0 S F pf (kk+1) fr rest K ((dd,A)::L) ((dd,Any)::L2)):dQ P ops w0 S F pf kk (0::fr) (⟨some dd,op,ty,pos,aft,none⟩::rest) K L L2:=
 ⟨A,fun _ a w he hv _=>by simp only[Region.wanted,if_true];exact h.out _ w he hv,fun h=>(by cases h),fun h=>absurd rfl h,k⟩
theorem jk (h:OpC P w0 L ⟨some dd,op,ty,pos,aft,none⟩ A)[hA:StJ S A](k:dQ P ops w0 S F pf (kk+1) fr rest K ((dd,A)::L) ((dd,A)::L2)):dQ P ops w0 S F pf kk (2::fr) (⟨some dd,op,ty,pos,aft,none⟩::rest) K L L2:=
 ⟨A,fun _ a w he hv _=>by simp only[Region.wanted,if_true];exact h.out _ w he hv,fun h=>(by cases h),fun _=>hA,k⟩
theorem jx {d:Option Nat}(h:eE P w0 S F L ⟨d,op,ty,pos,aft,none⟩ A)(k:fX P ops w0 S F pf (kk+1) rest K (push d A L2)):dQ P ops w0 S F pf kk [] (⟨d,op,ty,pos,aft,none⟩::rest) K L L2:=⟨rfl,A,h,k⟩
theorem jp (h:∀w1,S w0 w1→F w1→OpC P w1 L2 ⟨some dd,op,ty,pos,aft,none⟩ A)(k:fX P ops w0 S F pf (kk+1) rest K ((dd,A)::L2))(hk:pf.contains kk=false:=by exact rfl):fX P ops w0 S F pf kk (⟨some dd,op,ty,pos,aft,none⟩::rest) K L2:=
 ⟨A,fun w1 h1 h2 a w he hv _=>by simp only[Region.wanted,if_true];exact (h w1 h1 (h2.resolve_left (by rw[hk];decide))).out _ w he hv,fun h=>(by rw[hk] at h;cases h),k⟩
theorem je (h:K L2):fX P ops w0 S F pf kk [] K L2:=h
end
end Go.Mono
namespace Go.Mono
open Go Go.RowKit
structure ChT (N:Nat)(t:TypeId)(w w':World):Prop where
 chg:Chg (fun b=>N≤b) w w'
 oth:∀(b:Nat) (o:Obj),w.heap[b]?=some o→(∀cs m,o≠.cells cs t m)→w'.heap[b]?=some o
theorem ChT.rel (N:Nat)(t:TypeId):cg (ChT N t):=⟨fun h k=>⟨h.chg.tr k.chg,fun b o hb ho=>k.oth b o (h.oth b o hb ho) ho⟩,fun e=>⟨e.chg _,fun b o hb ho=>(e.block b (Array.getElem?_eq_some_iff.1 hb).1).trans hb⟩⟩
theorem Blk.chT {N:Nat}{t:TypeId}{w w':World}{b:Nat}{cs:Array Value}{t':TypeId}(h:Blk w b cs t')(k:ChT N t w w')(hne:t'≠t):Blk w' b cs t':=k.oth b _ h fun cs m hh=>hne (by cases hh;rfl)
instance (N:Nat)(t:TypeId){α:Type}(e:Enc α)(G:Nat→Prop)(x:α)[h:InS G (fun b=>N≤b)]:StJ (ChT N t) (Dv e G x):=⟨fun v w w' k h1=>Dv.ch h1 k.chg h.in'⟩
instance (N:Nat):InS (fun b=>N≤b) (fun b=>N≤b):=⟨fun _ h=>h⟩
theorem yr {N:Nat}{t t':TypeId}(B:Nat)(z:Value)(hne:t'≠t):StJ (ChT N t) (AlA B z t'):=⟨fun v w w' k ⟨b,h1,h2,h3⟩=>⟨b,h1,h2,h3.chT k hne⟩⟩
theorem xst {P:Program}{w0:World}{L:Env}{ty:TypeId}{pos:String}{aft:Array Edge}{x y:Operand}{t:TypeId}{N B s:Nat}{z:Value}{A:VA}(ht:TI P t true s)(hx:opd L x=some (AlA B z t))(hN:N≤B)(hz:z.cells.size=s)
  (hy:opd L y=some A) (hA:∀v w,A.p v w→∃cs,v=.agg cs∧cs.size=s∧cs.all (·.oneCell')=true):eE P w0 (ChT N t) (fun _=>True) L ⟨none,.store t x y,ty,pos,aft,none⟩ Any:=by
 refine⟨fun ρ w he hv=>?_⟩
 obtain⟨b,hb,hxv,hB⟩:=hv x (by simp[Op.operands]) _ hx
 obtain⟨cs,hyv,hcs,h1⟩:=hA _ _ (hv y (by simp[Op.operands]) _ hy)
 have hc:(Value.agg cs).cells=cs:=rfl
 have hrun:=run_storeCells_at (P:=P) b 0 t cs.toList 0 z.cells w hB (by simp;omega) (fun v hv=>by rw[Array.all_eq_true_iff_forall_mem] at h1;exact h1 v (by simpa using hv))
 have hrun2:OpR P ⟨none,.store t x y,ty,pos,aft,none⟩ ρ w (fun _ w'=>w'=w.setRow b (z.cells.toList.take 0++cs.toList++z.cells.toList.drop (0+s)).toArray):=by
  simp[OpR,execOp,Instr.storeAt,Instr.sureAddr,hxv,hyv,storeVar,hc,ht.size,hcs,hrun]
 refine hrun2.mono ?_
 rintro v w' rfl
 have hg:=dJ w b (z.cells.toList.take 0++cs.toList++z.cells.toList.drop (0+s)).toArray
 refine⟨⟨⟨hg.os,hg.tape,hg.output,hg.size,fun k hk hn=>hg.block k hk fun hh=>hn (by cases hh;omega)⟩,fun c o hc ho=>?_⟩,trivial,trivial⟩
 have hcb:c≠b:=by
  rintro rfl
  rw[hB] at hc
  cases hc
  exact ho _ _ rfl
 exact (hg.block c (Array.getElem?_eq_some_iff.1 hc).1 fun hh=>hcb (by cases hh;rfl)).trans hc
instance (S:World→World→Prop){P:Program}{α β:Type}[DecidableEq α](V:KV P α β)(l:List (α×β))(i:α)(z:β):StJ S (qm V l i z):=⟨fun _ _ _ _ h=>h⟩
instance (S:World→World→Prop)(A B:VA)[hA:StJ S A][hB:StJ S B]:StJ S (Tup [A,B]):=⟨fun v w w' k ⟨vs,h1,h2,h3⟩=>⟨vs,h1,h2,fun i C hC=>by
 have h4:=h3 i C hC
 match i,hC with
 | 0,hC=>simp at hC;subst hC;exact hA.av _ _ _ k h4
 | 1,hC=>simp at hC;subst hC;exact hB.av _ _ _ k h4⟩⟩
instance {S:Nat→Prop}{A:VA}[h:AvS S A]:StJ (Chg S) A:=⟨h.av⟩
instance {S:Nat→Prop}{L:Env}[h:eY S L]:fW (Chg S) L:=⟨h.av⟩
theorem cg.chg (S:Nat→Prop):cg (Chg S):=⟨fun h k=>h.tr k,fun e=>e.chg _⟩
theorem cg.one (b:Nat):cg (Chg fun c=>c=b):=⟨fun h k=>h.tr k,fun e=>e.chg _⟩
instance (b:Nat){α:Type}(e:Enc α)(G:Nat→Prop)(x:α)[h:InR G (some b)]:StJ (Chg fun c=>c=b) (Dv e G x):=⟨fun v w w' k h1=>Dv.ch h1 k fun c hc=>h.in' c (by rw[hc])⟩
theorem iF {P:Program}{w0:World}{L:Env}{ty:TypeId}{pos:String}{aft:Array Edge}{x y:Operand}{t bt:TypeId}{b s:Nat}{cs0:Array Value}{A:VA}(ht:TI P t true s)(hx:opd L x=some (E (.pointer (some ⟨b,0,none⟩))))(hB:Blk w0 b cs0 bt)(hz:cs0.size=s)
  (hy:opd L y=some A) (hA:∀v w,A.p v w→∃cs,v=.agg cs∧cs.size=s∧cs.all (·.oneCell')=true) (hst:∀v w w',Chg (fun c=>c=b) w w'→A.p v w→A.p v w') :
  eE P w0 (Chg fun c=>c=b) (fun w'=>∃cs,Blk w' b cs bt∧A.p (.agg cs) w') L ⟨none,.store t x y,ty,pos,aft,none⟩ Any:=by
 refine⟨fun ρ w he hv=>?_⟩
 have hxv:ρ x=.pointer (some ⟨b,0,none⟩):=hv x (by simp[Op.operands]) _ hx
 have hAy:=hv y (by simp[Op.operands]) _ hy
 obtain⟨cs,hyv,hcs,h1⟩:=hA _ _ hAy
 have hB':=hB.ext he
 have hc:(Value.agg cs).cells=cs:=rfl
 have hrun:=run_storeCells_at (P:=P) b 0 bt cs.toList 0 cs0 w hB' (by simp;omega) (fun v hv=>by rw[Array.all_eq_true_iff_forall_mem] at h1;exact h1 v (by simpa using hv))
 have hfin:(cs0.toList.take 0++cs.toList++cs0.toList.drop (0+s)).toArray=cs:=by
  have:cs0.toList.drop (0+s)=[]:=by rw[List.drop_eq_nil_iff];simp;omega
  rw[this];simp
 have hrun2:OpR P ⟨none,.store t x y,ty,pos,aft,none⟩ ρ w (fun _ w'=>w'=w.setRow b (cs0.toList.take 0++cs.toList++cs0.toList.drop (0+s)).toArray):=by
  simp[OpR,execOp,Instr.storeAt,Instr.sureAddr,hxv,hyv,storeVar,hc,ht.size,hcs,hrun]
 refine hrun2.mono ?_
 rintro v w' rfl
 rw[hfin]
 have hg:=dJ w b cs
 have hch:Chg (fun c=>c=b) w (w.setRow b cs):=⟨hg.os,hg.tape,hg.output,hg.size,fun k hk hn=>hg.block k hk fun hh=>hn (by cases hh;rfl)⟩
 refine⟨hch,trivial,cs,setRow_heap _ _ _ _ _ _ hB',?_⟩
 rw[← hyv]
 exact hst _ _ _ hch hAy
end Go.Mono
namespace Go.Mono
open Go Go.Proofs Go.RowKit Go.Gr
theorem bTs (id:FuncId)(caps:Array Value)(c:Int):Tryz.prog.built 187 [(0,.func (.func id) #[] caps),(1,.int .i64 c)]=some #[.func (.func id) #[] caps,.int .i64 c]:=by kernel_rfl
theorem yu {l:List (Bool×Int)}{k:Nat}{b:Bool}{c:Int}(h:∀y∈l.take k,y.1=false)(hx:l[k]?=some (b,c))(hb:b=true):fe l=c:=by
 induction l generalizing k with
 | nil=>simp at hx
 | cons y r ih=>
  cases k with
  | zero=>simp at hx;subst hx;subst hb;rfl
  | succ k=>
   have h0:=h y (by simp)
   obtain⟨y1,y2⟩:=y
   simp only at h0
   subst h0
   simp only[fe,Bool.false_eq_true,if_false]
   exact ih (fun z hz=>h z (by rw[List.take_succ_cons];exact List.mem_cons_of_mem _ hz)) (by simpa using hx)
theorem yv {l:List (Bool×Int)}(h:∀y∈l.take l.length,y.1=false):fe l=0:=by
 rw[List.take_length] at h
 induction l with
 | nil=>rfl
 | cons y r ih=>
  have h0:=h y (by simp)
  obtain⟨y1,y2⟩:=y
  simp only at h0
  subst h0
  simp only[fe,Bool.false_eq_true,if_false]
  exact ih fun z hz=>h z (by simp[hz])
theorem yw {m n:Int}(hm:(Lit.int .i64 m).wf=true)(hn:(Lit.int .i64 n).wf=true):(Lit.int .i64 (min m n)).wf=true∧(Lit.int .i64 (max m n)).wf=true:=by
 by_cases h:m≤n
 ·rw[Int.min_eq_left h,Int.max_eq_right h];exact⟨hm,hn⟩
 ·rw[Int.min_eq_right (by omega),Int.max_eq_left (by omega)];exact⟨hn,hm⟩
theorem qz {m n:Int}(hm:(Lit.int .i64 m).wf=true)(hn:(Lit.int .i64 n).wf=true):eKV.ok (Gr.ends m n):=yw hm hn
theorem th0:okT (0,0):=⟨by decide,by decide⟩
theorem Blk.bo {w:World}{b:Nat}{t:TypeId}{c:Bool}(h:Blk w b #[.bool c] t):(Dv (ptE cN) G0 (some c)).p (.pointer (some ⟨b,0,none⟩)) w:=
 Dv.pt.2 ⟨_,rfl,fun h=>h.elim,h.lt,_,rfl,fun i u hu=>by
  have:(Addr.mk b 0 none).add i=⟨b,i,none⟩:=by simp[Addr.add];intro h;exact h.symm
  rw[this,h.cell];simpa using hu⟩
instance (N B:Nat)(z:Value):StJ (ChT N 132) (AlA B z 4):=yr B z (by decide)
theorem yx {G:Nat→Prop}{M:Nat}(g:GT)(d:DT)(v:Value)(W:World)(h:(Dv (ptE (grE M)) G (some g)).p v W)(hw:(Lit.int .i64 d.2.1).wf=true)(hw2:(Lit.int .i64 d.2.2.1).wf=true) :
  Calls Tryz.prog 124 #[v,dtV d] W (Post (E (I (bR g d))) W):=by
 refine eN [v,dtV d] [Dv (ptE (grE M)) G0 (some g),Dv dtE G0 d] Tryz.func124 Tryz.ntmps124 ?_ fun a hf=>?_
 rotate_left
 dsimp only[params,Nat.reduceAdd] at hf
 rotate_right
 ·exact arg2 (Dv.weak h fun b _ hb=>hb.elim) (Dv.dt.2 rfl)
 have e:=Ext.rfl' W
 refine seq <| ac <| fc hf rfl (by decide) (fun _ h=>h.elim) fun a w e' hf=>?_
 replace e:=e.tr e'
 refine fc hf rfl (by decide) (fun _ h=>h.elim) fun a w e' hf=>?_
 replace e:=e.tr e'
 refine tA hf rfl fun a hf=>aa ?_
 obtain⟨N,hN⟩:=eqX w.heap.size
 have hNW:W.heap.size≤N:=by rw[hN];exact e.size
 replace hf:=hf.upd 2 rfl (fun v hv=>Dv.weak (G':=fun b=>N≤b) hv (fun b hb hn=>absurd hb (by omega)))
 replace hf:=hf.upd 3 rfl (fun v hv=>Dv.weak (G':=fun b=>N≤b) hv (fun b hb hn=>absurd hb (by omega)))
 have hNs:N≤w.heap.size:=Nat.le_of_eq hN
 replace hf:=hf.kp [2,3,4]
 refine seq <| cO 13 [1,1,1,1,1,1,1,1,1,1,0,2] (ChT N 132) (ChT.rel _ _) (fun w=>True) (fun w w1 k h=>trivial) Mix.mix hf (by decide +kernel) (by decide +kernel) <| jf (fun w1 h1=>ldD T26 (isR rfl)) <| jf (fun w1 h1=>gC (isR rfl)) <| jf (fun w1 h1=>aB fQ rfl fg (by decide) (Fld.fst Fld.refl) (isR rfl)) <| jf (fun w1 h1=>ldD fg (isR rfl)) <| jf (fun w1 h1=>aB bJ rfl T3 (by decide) (Fld.snd (Fld.fst Fld.refl) rfl) (isR rfl)) <| jf (fun w1 h1=>ldI T3 (isR rfl)) <| jf (fun w1 h1=>mh (V:=vKV) (i:=d.2.1) (z:=(0,0)) lW (ip fj) th0 (isR rfl) rfl hw) <| jf (fun w1 h1=>mv rfl) <| jf (fun w1 h1=>bs rfl rfl) <| jf (fun w1 h1=>bs rfl rfl) <| ja (alD fj) <| jk (alD I4) <| jx (xst iw rfl hNs rfl rfl (fun v w hv=>by obtain⟨c,rfl,_⟩:=hv;exact⟨_,rfl,rfl,bK rfl rfl⟩)) ?_
 refine je <| fun a w hc HF hf=>?_
 try dsimp only[push] at hf
 obtain⟨_,⟨b6,hb6,rfl,B6⟩,hf⟩:=hf.fix 6 rfl
 replace e:=e.ch hc.chg (fun b hb=>by omega);replace hNs:=Nat.le_trans hNs hc.chg.size;clear hc
 haveI:InR (fun b=>N≤b) (some b6):=⟨fun b hb=>by cases hb;omega⟩
 replace hf:=hf.kp [2,3,4,6,22]
 refine aO T4 hf rfl rfl rfl B6 (by decide) fun w hg hsz B6 hf=>?_
 obtain⟨e,hNs⟩:=gr2 hg e hNs
 refine aa ?_
 replace B6:Blk w b6 #[.bool (inV g.1 d.2.1)] 4:=B6
 replace hf:=hf.kp [2,3,4,6]
 have hq2:=hNs
 refine seq <| cO 13 [1,1,1,1,1,1,1,1,1,1,0,2] (ChT N 132) (ChT.rel _ _) (fun w=>True) (fun w w1 k h=>trivial) Mix.mix hf (by decide +kernel) (by decide +kernel) <| jf (fun w1 h1=>ldD T26 (isR rfl)) <| jf (fun w1 h1=>gC (isR rfl)) <| jf (fun w1 h1=>aB fQ rfl fg (by decide) (Fld.fst Fld.refl) (isR rfl)) <| jf (fun w1 h1=>ldD fg (isR rfl)) <| jf (fun w1 h1=>aB bJ rfl T3 (by decide) (Fld.snd (Fld.snd (Fld.fst Fld.refl) rfl) rfl) (isR rfl)) <| jf (fun w1 h1=>ldI T3 (isR rfl)) <| jf (fun w1 h1=>mh (V:=vKV) (i:=d.2.2.1) (z:=(0,0)) lW (ip fj) th0 (isR rfl) rfl hw2) <| jf (fun w1 h1=>mv rfl) <| jf (fun w1 h1=>bs rfl rfl) <| jf (fun w1 h1=>bs rfl rfl) <| ja (alD fj) <| jk (alD I4) <| jx (xst iw rfl hNs rfl rfl (fun v w hv=>by obtain⟨c,rfl,_⟩:=hv;exact⟨_,rfl,rfl,bK rfl rfl⟩)) ?_
 refine je <| fun a w hc HF hf=>?_
 try dsimp only[push] at hf
 obtain⟨_,⟨b8,hb8,rfl,B8⟩,hf⟩:=hf.fix 8 rfl
 have n68:b6≠b8:=by have:=B6.lt;omega
 replace e:=e.ch hc.chg (fun b hb=>by omega);replace hNs:=Nat.le_trans hNs hc.chg.size;replace B6:=B6.chT hc (by decide);clear hc
 haveI:InR (fun b=>N≤b) (some b8):=⟨fun b hb=>by cases hb;omega⟩
 replace hf:=hf.kp [2,3,4,6,8,32]
 refine aO T4 hf rfl rfl rfl B8 (by decide) fun w hg hsz B8 hf=>?_
 obtain⟨e,hNs⟩:=gr2 hg e hNs
 replace B6:=B6.gr hg n68
 refine aa ?_
 replace B8:Blk w b8 #[.bool (inV g.1 d.2.2.1)] 4:=B8
 replace hf:=hf.kp [2,3,4,6,8]
 refine seq <| cO 16 [1,1,1,1,1,1,1,1,1,1,1,1,1,0,2] (ChT N 132) (ChT.rel _ _) (fun w=>True) (fun w w1 k h=>trivial) Mix.mix hf (by decide +kernel) (by decide +kernel) <| jf (fun w1 h1=>ldD T26 (isR rfl)) <| jf (fun w1 h1=>gC (isR rfl)) <| jf (fun w1 h1=>aB fQ rfl fh (by decide) (Fld.snd Fld.refl rfl) (isR rfl)) <| jf (fun w1 h1=>ldD fh (isR rfl)) <| jf (fun w1 h1=>aB bJ rfl T3 (by decide) (Fld.snd (Fld.fst Fld.refl) rfl) (isR rfl)) <| jf (fun w1 h1=>ldI T3 (isR rfl)) <| jf (fun w1 h1=>aB bJ rfl T3 (by decide) (Fld.snd (Fld.snd (Fld.fst Fld.refl) rfl) rfl) (isR rfl)) <| jf (fun w1 h1=>ldI T3 (isR rfl)) <| jf (fun w1 h1=>ap (A:=E (enV (Gr.ends d.2.1 d.2.2.1))) pQ rfl rfl (fun v u w he h h'=>by cases h;cases h';exact qu d.2.1 d.2.2.1 w)) ?_
 refine jf (fun w1 h1=>mh (V:=eKV) (i:=Gr.ends d.2.1 d.2.2.1) (z:=(0,0)) jH (ip fj) th0 (isR rfl) rfl (qz hw hw2)) <| jf (fun w1 h1=>mv rfl) <| jf (fun w1 h1=>bs rfl rfl) <| jf (fun w1 h1=>bs rfl rfl) <| ja (alD fj) <| jk (alD I4) <| jx (xst iw rfl hNs rfl rfl (fun v w hv=>by obtain⟨c,rfl,_⟩:=hv;exact⟨_,rfl,rfl,bK rfl rfl⟩)) ?_
 refine je <| fun a w hc HF hf=>?_
 try dsimp only[push] at hf
 obtain⟨_,⟨b10,hb10,rfl,B10⟩,hf⟩:=hf.fix 10 rfl
 have n610:b6≠b10:=by have:=B6.lt;omega
 have n810:b8≠b10:=by have:=B8.lt;omega
 replace e:=e.ch hc.chg (fun b hb=>by omega);replace hNs:=Nat.le_trans hNs hc.chg.size;replace B6:=B6.chT hc (by decide);replace B8:=B8.chT hc (by decide);clear hc
 haveI:InR (fun b=>N≤b) (some b10):=⟨fun b hb=>by cases hb;omega⟩
 replace hf:=hf.kp [2,3,4,6,8,10,45]
 refine aO T4 hf rfl rfl rfl B10 (by decide) fun w hg hsz B10 hf=>?_
 obtain⟨e,hNs⟩:=gr2 hg e hNs
 replace B6:=B6.gr hg n610;replace B8:=B8.gr hg n810
 refine aa ?_
 replace B10:Blk w b10 #[.bool (inE g.2 d.2.1 d.2.2.1)] 4:=B10
 replace hf:=hf.keep [2,3,4,6,8,10]
 obtain⟨p2,hp2,hf⟩:=hf.fix 2 rfl
 obtain⟨p3,hp3,hf⟩:=hf.fix 3 rfl
 refine seq <| seq ?_
 refine rgN 19 hf <| st (im rfl) <| st (bI [(0,_),(1,_)] rfl (bTs _ _ _)) <| st (im rfl) <| st (bI [(0,_),(1,_)] rfl (bTs _ _ _)) <| st (im rfl) <| st (bI [(0,_),(1,_)] rfl (bTs _ _ _)) <| st (io rfl rfl) <| st (bI [(0,_),(1,_)] rfl (bTs _ _ _)) <| st (xQ rfl rfl rfl) <| st (bI [(0,_),(1,_)] rfl (bTs _ _ _)) <| st (io rfl rfl) <| st (bI [(0,_),(1,_)] rfl (bTs _ _ _)) <| st (io rfl rfl) <| st (bI [(0,_),(1,_)] rfl (bTs _ _ _)) <| st (io rfl rfl) <| st (bI [(0,_),(1,_)] rfl (bTs _ _ _)) <| st (fV (e:=tsE Tryz.prog) (G:=G0) (zs:=tests g d) (xs:=[.tmp 47,.tmp 49,.tmp 51,.tmp 53,.tmp 55,.tmp 57,.tmp 59,.tmp 61]) lX pq rfl rfl (by decide) (by decide) rfl (fun b hb=>hb.elim)  ⟨isE rfl (Dv.ts' wV (fun w' k=>ye d w' p3 (Dv.hp hp3 k))),isE rfl (Dv.ts' wW (fun w' k=>yf d w' p3 (Dv.hp hp3 k))),isE rfl (Dv.ts' wZ (fun w' k=>yg d w' p3 (Dv.hp hp3 k))), isE rfl (Dv.ts' xa (fun w' k=>yh d w' p3 _ _ (Dv.hp hp3 k) (Dv.hp B6.bo k))),isE rfl (Dv.ts' xb (fun w' k=>yi d w' p3 _ _ _ _ (Dv.hp hp3 k) (Dv.hp B6.bo k) (Dv.hp B8.bo k))),isE rfl (Dv.ts' xc (fun w' k=>yk d w' p3 _ _ (Dv.hp hp3 k) (Dv.hp B10.bo k))), isE rfl (Dv.ts' xd (fun w' k=>yl d w' p3 _ _ (Dv.hp hp3 k) (Dv.hp B10.bo k))),isE rfl (Dv.ts' xe (fun w' k=>ym g d M w' p3 p2 (Dv.hp hp3 k) (Dv.hp hp2 k))),trivial⟩) <| st (aI lX (isR rfl)) <| st (mv rfl) <| en fun a w e' hf=>?_
 replace e:=e.tr e'
 refine aa ?_
 obtain⟨W4,hW4⟩:=eqX w
 have hNW4:W.heap.size≤W4.heap.size:=by rw[hW4];exact e.size
 replace hf:=hf.upd 62 rfl (fun v hv=>Dv.weak (G':=GB W4 G0) hv (fun b hb hn=>hn.elim id fun hn=>absurd hb (by rw[← hW4];omega)))
 have hNs4:W4.heap.size≤w.heap.size:=by rw[hW4];exact Nat.le_refl _
 replace hf:=hf.upd (B:=E (I (8:Nat))) 63 rfl (fun v hv=>hv)
 replace hf:=hf.keep [4,62,63,64]
 refine blk (aK (fun r0 a w=>∃(k:Nat) ,r0=8 - k∧k≤8∧Fr 74 a w [(4,E (I 0)),(62,Dv (slE (tsE Tryz.prog)) (GB W4 G0) (tests g d)),(63,E (I (8:Nat))),(64,E (I k))]∧Ext W w∧W4.heap.size≤w.heap.size∧(∀y∈(tests g d).take k,y.1=false)) 8 ⟨0,rfl,by omega,hf,e,⟨hNs4,by simp⟩⟩ ?_)
 rintro r0 a w ⟨k,rfl,hk,hf,e,hNs4,hn⟩
 refine seq <| rgN 1 hf <| st (lss rfl rfl) <| en fun a w e' hf=>?_
 obtain⟨hNs4,e⟩:=up2 e' hNs4 e
 refine aa <| seq <| ifc hf rfl (fun hc=>aj ?_) (fun hc=>aH ?_)
 rotate_left
 rotate_left
 ·have hlt:=ltC hc
  replace hf:=hf.kp [4,62,63,64]
  refine seq <| blk ?_
  have hg:=List.getElem?_eq_getElem (show k<(tests g d).length from hlt)
  generalize (tests g d)[k]'hlt=x at hg
  refine seq <| ac <| tP hf (aG lX vT (isR rfl) rfl (by omega) (hg)) fun a w e' hf=>?_
  obtain⟨hNs4,e⟩:=up2 e' hNs4 e
  refine tP hf (ldD pp (isR rfl)) fun a w e' hf=>?_
  obtain⟨hNs4,e⟩:=up2 e' hNs4 e
  obtain⟨v67,h67,hf⟩:=hf.fix 67 rfl
  obtain⟨id0,caps,rfl,hEn,hCa⟩:=Dv.ts h67
  replace hf:=hf.kp [4,62,63,64,67]
  haveI hiW:∀b,W4.heap.size≤b→∀G0,InR (GB W4 G0) (some b):=fun b hb G0=>InR.gb hb
  have e2:=Ext.rfl' w
  refine tL pq hf fun a b12 w e' hb12 hs12 B12 hf=>?_
  obtain⟨hNs4,e2,e⟩:=up3 e' hNs4 e2 e
  haveI hib:=hiW b12 (by omega)
  refine aF pp hf rfl rfl (bK rfl rfl) B12 rfl rfl fun w hg' hsz B12 hf=>?_
  replace e2:=e2.gr hg' (by omega)
  have hCa':∀w',Ext w w'→Calls Tryz.prog id0 caps w' (Post (E (.bool x.1)) w'):=fun w' he=>hCa w' (e2.tr he)
  replace e:=e.gr hg' (by omega);replace hNs4:=Nat.le_trans hNs4 hg'.size;clear hg'
  refine aa ?_
  replace hf:=hf.keep [4,12,62,63,64]
  refine seq <| rgN 3 hf <| st (fA pU rfl T29 rfl) <| st ((ld1 T29 rfl (by assumption) rfl).eq ((rfl:_=Value.func (.func id0) #[] caps))) <| st (xR hEn rfl (fun w he=>hCa' w he)) <| en fun a w e' hf=>?_
  obtain⟨hNs4,e,B12⟩:=up3 e' hNs4 e B12
  refine aa <| ifc hf rfl (fun hb=>?_) (fun hb=>?_)
  ·refine seq <| rgN 2 hf <| st (fA pU rfl T63 rfl) <| st (ld1 T63 rfl (by assumption) rfl) <| en fun a w e' hf=>?_
   obtain⟨hNs4,e,B12⟩:=up3 e' hNs4 e B12
   refine tA hf rfl fun a hf=>aa <| ak <| an rfl hf rfl ?_
   rintro _ rfl
   exact⟨_,rfl,e,(congrArg I (by rw[bR];exact (yu hn hg hb).symm))⟩
  ·refine aj <| rgN 1 hf <| st ((add rfl rfl (by omega)).eq (iN k)) <| en fun a w e' hf=>?_
   obtain⟨hNs4,e,B12⟩:=up3 e' hNs4 e B12
   refine tP hf (mv rfl) fun a w e' hf=>?_
   obtain⟨hNs4,e,B12⟩:=up3 e' hNs4 e B12
   refine aa ?_
   replace hf:=hf.keep [4,62,63,64]
   refine⟨_,?_,k+1,rfl,by omega,hf,e,?_⟩
   ·omega
   exact⟨hNs4,mf (p:=fun y:Bool×Int=>y.1) hn hg hb⟩
 ·obtain rfl:=dnE hc hk
  refine seq <| ac <| tA hf rfl fun a hf=>aa <| ak <| an rfl hf rfl ?_
  rintro _ rfl
  exact⟨_,rfl,e,(congrArg I (by rw[bR,yv (show ∀y∈(tests g d).take (tests g d).length,y.1=false from hn)]))⟩
structure GrR (w:World)(bg bv be n:Nat)(g:GT):Prop where
 blk:Blk w bg #[.map (some bv),.map (some be)] 130
 vs:MpR vKV w bv n g.1
 es:MpR eKV w be n g.2
 ne:bv≠be
theorem MpR.neB {P:Program}{α β:Type}[DecidableEq α]{V:KV P α β}{w:World}{b c n:Nat}{l:List (α×β)}{cs:Array Value}{t:TypeId}(h:MpR V w b n l)(k:Blk w c cs t):b≠c:=by
 rintro rfl
 obtain⟨D,⟨es,clock,hb,_⟩,_⟩:=h
 rw[k] at hb;cases hb
section
variable {w w':World}{bg bv be n:Nat}{g:GT}
theorem GrR.n1 (h:GrR w bg bv be n g):bv≠bg∧be≠bg:=⟨h.vs.neB h.blk,h.es.neB h.blk⟩
theorem GrR.ext (h:GrR w bg bv be n g)(e:Ext w w'):GrR w' bg bv be n g:=⟨h.blk.ext e,h.vs.ext e,h.es.ext e,h.ne⟩
instance:Ug w w' (GrR w bg bv be n g) (GrR w' bg bv be n g):=⟨fun e h=>h.ext e⟩
theorem GrR.perm (h:GrR w bg bv be n g){g':GT}(h1:g.1.Perm g'.1)(h2:g.2.Perm g'.2):GrR w bg bv be n g':=⟨h.blk,h.vs.perm h1,h.es.perm h2,h.ne⟩
theorem GrR.mono (h:GrR w bg bv be n g){m:Nat}(hm:n≤m):GrR w bg bv be m g:=⟨h.blk,h.vs.mono hm,h.es.mono hm,h.ne⟩
theorem GrR.ch (h:GrR w bg bv be n g){S:Nat→Prop}(c:Chg S w w')(h1:¬S bg)(h2:¬S bv)(h3:¬S be):GrR w' bg bv be n g:=⟨h.blk.ch c h1,h.vs.pres (c.block _ h.vs.lt h2),h.es.pres (c.block _ h.es.lt h3),h.ne⟩
theorem GrR.dv (h:GrR w bg bv be n g){N:Nat}(hN:n≤N){G:Nat→Prop}(h1:¬G bg)(h2:¬G bv)(h3:¬G be):(Dv (ptE (grE N)) G (some g)).p (.pointer (some ⟨bg,0,none⟩)) w:=
 Dv.pt.2 ⟨_,rfl,h1,h.blk.lt,_,⟨_,_,rfl,⟨bv,n,rfl,h2,hN,h.vs⟩,⟨be,n,rfl,h3,hN,h.es⟩⟩,fun i u hu=>by
  have:(Addr.mk bg 0 none).add i=⟨bg,i,none⟩:=by simp[Addr.add];intro h;exact h.symm
  rw[this,h.blk.cell];simpa using hu⟩
end
theorem bGr (p q:Option Nat):Tryz.prog.built 130 [(0,.map p),(1,.map q)]=some #[.map p,.map q]:=by kernel_rfl
theorem bTh (c:Int×Int):Tryz.prog.built 132 [(0,.int .u8 c.1),(1,.int .i64 c.2)]=some #[.int .u8 c.1,.int .i64 c.2]:=by kernel_rfl
theorem yy (W:World):Calls Tryz.prog 42 #[] W fun en w'=>∃bg bv be,en=.returned (.pointer (some ⟨bg,0,none⟩))∧Ext W w'∧W.heap.size≤bg∧W.heap.size≤bv∧W.heap.size≤be∧GrR w' bg bv be 0 ([],[]):=by
 refine enter (args:=[]) (As:=([]:List VA)) Tryz.func42 rfl Tryz.ntmps42 (Nat.le_of_ble_eq_true rfl) ?_ (fun a hf=>?_) (Nat.le_of_ble_eq_true rfl)
 ·intro i A h;simp at h
 have e:=Ext.rfl' W
 refine seq <| ac <| tA hf rfl fun a hf=>aa <| seq <| rgN 0 hf <| en fun a w e' hf=>?_
 replace e:=e.tr e';clear e'
 refine eK vKV hf (by decide) fun a b1 w e' hb1 hs1 M1 hf=>?_
 have hle1:=Nat.le_trans e.size (Nat.le_of_eq hb1.symm)
 replace e:=e.tr e';clear e'
 refine eK eKV hf (by decide) fun a b2 w e' hb2 hs2 M2 hf=>?_
 have hle2:=Nat.le_trans e.size (Nat.le_of_eq hb2.symm)
 replace e:=e.tr e';replace M1:=M1.ext e';clear e'
 refine tP hf (bI [(0,_),(1,_)] rfl (bGr (some b1) (some b2))) fun a w e' hf=>?_
 replace e:=e.tr e';replace M1:=M1.ext e';replace M2:=M2.ext e';clear e'
 refine tB hf rfl fun a b4 w v4 hv4 e' hb4 hs4 B4 hf=>?_
 cases hv4
 have hle4:=Nat.le_trans e.size (Nat.le_of_eq hb4.symm)
 replace e:=e.tr e';replace M1:=M1.ext e';replace M2:=M2.ext e';clear e'
 refine tA hf rfl fun a hf=>aa <| ak <| an rfl hf rfl ?_
 rintro _ rfl
 exact⟨b4,b1,b2,rfl,e,hle4,hle1,hle2,B4,M1,M2,by omega⟩
theorem yz (g:GT)(d:DT)(bg bv be n:Nat)(W:World)(hg:GrR W bg bv be n g)(hn:n<maxLen)(h1:vKV.ok d.2.1)(h2:okT d.2.2.2) :
  Calls Tryz.prog 162 #[.pointer (some ⟨bg,0,none⟩),dtV d] W fun en w'=>en=.returned (.tuple #[])∧Chg (fun b=>b=bv∨b=be) W w'∧GrR w' bg bv be (n+1) (aV g.1 d.2.1 d.2.2.2,g.2):=by
 refine eN [.pointer (some ⟨bg,0,none⟩),dtV d] [E (.pointer (some ⟨bg,0,none⟩)),E (dtV d)] Tryz.func162 Tryz.ntmps162 ?_ fun a hf=>?_
 rotate_left
 rotate_right
 ·exact arg2 rfl rfl
 have e:=Ext.rfl' W
 have BG:=hg.blk;have MV:=hg.vs;have ME:=hg.es
 refine seq <| ac <| tB hf rfl fun a b3 w v3 hv3 e' hb3 hs3 B3 hf=>?_
 obtain⟨e,BG,MV,ME⟩:=up4 e' e BG MV ME
 refine aa ?_
 cases hv3
 refine rgG 11 Mix.mix hf <| st (mv rfl) <| st (oI rfl) <| st (fA fQ rfl fg rfl) <| st (ld1 fg rfl BG rfl) <| st (fA bJ rfl T3 rfl) <| st (ld1 T3 rfl B3 rfl) <| st (fA bJ rfl T5 rfl) <| st (ld1 T5 rfl B3 rfl) <| st (fA bJ rfl T3 rfl) <| st (ld1 T3 rfl B3 rfl) <| st (bI [(0,_),(1,_)] rfl (bTh d.2.2.2)) <| en fun a w e' hf=>?_
 obtain⟨e,BG,MV,ME,B3⟩:=up5 e' e BG MV ME B3
 replace hf:=hf.kp [7,9,14]
 refine dP (V:=vKV) (i:=d.2.1) (c:=d.2.2.2) lW hf rfl rfl rfl MV hn h1 h2 fun w hg' MV hf=>aa <| lq rfl hf <| ⟨rfl,(e.chg _).gr hg' (.inl (.inl rfl)),BG.gr hg' hg.n1.1.symm,MV,(ME.gr hg' (fun h=>hg.ne (by cases h;rfl))).mono (Nat.le_succ _),hg.ne⟩
theorem yA (g:GT)(d:DT)(bg bv be n:Nat)(W:World)(hg:GrR W bg bv be n g)(hn:n<maxLen)(h1:eKV.ok (Gr.ends d.2.1 d.2.2.1))(h2:okT d.2.2.2) :
  Calls Tryz.prog 164 #[.pointer (some ⟨bg,0,none⟩),dtV d] W fun en w'=>en=.returned (.tuple #[])∧Chg (fun b=>b=bv∨b=be) W w'∧GrR w' bg bv be (n+1) (g.1,aV g.2 (Gr.ends d.2.1 d.2.2.1) d.2.2.2):=by
 refine eN [.pointer (some ⟨bg,0,none⟩),dtV d] [E (.pointer (some ⟨bg,0,none⟩)),E (dtV d)] Tryz.func164 Tryz.ntmps164 ?_ fun a hf=>?_
 rotate_left
 rotate_right
 ·exact arg2 rfl rfl
 have e:=Ext.rfl' W
 have BG:=hg.blk;have MV:=hg.vs;have ME:=hg.es
 refine seq <| ac <| tB hf rfl fun a b3 w v3 hv3 e' hb3 hs3 B3 hf=>?_
 obtain⟨e,BG,MV,ME⟩:=up4 e' e BG MV ME
 refine aa ?_
 cases hv3
 refine rgG 14 Mix.mix hf <| st (mv rfl) <| st (oI rfl) <| st (fA fQ rfl fh rfl) <| st (ld1 fh rfl BG rfl) <| st (fA bJ rfl T3 rfl) <| st (ld1 T3 rfl B3 rfl) <| st (fA bJ rfl T3 rfl) <| st (ld1 T3 rfl B3 rfl) <| st (ap (A:=E (enV (Gr.ends d.2.1 d.2.2.1))) pQ rfl rfl (fun v u w he h h'=>by cases h;cases h';exact qu d.2.1 d.2.2.1 w)) ?_
 refine st (fA bJ rfl T5 rfl) <| st (ld1 T5 rfl B3 rfl) <| st (fA bJ rfl T3 rfl) <| st (ld1 T3 rfl B3 rfl) <| st (bI [(0,_),(1,_)] rfl (bTh d.2.2.2)) <| en fun a w e' hf=>?_
 obtain⟨e,BG,MV,ME,B3⟩:=up5 e' e BG MV ME B3
 replace hf:=hf.kp [7,12,17]
 refine dP (V:=eKV) (i:=Gr.ends d.2.1 d.2.2.1) (c:=d.2.2.2) jH hf rfl rfl rfl ME hn h1 h2 fun w hg' ME hf=>aa <| lq rfl hf <| ⟨rfl,(e.chg _).gr hg' (.inl (.inr rfl)),BG.gr hg' hg.n1.2.symm,(MV.gr hg' (fun h=>hg.ne (by cases h;rfl))).mono (Nat.le_succ _),ME,hg.ne⟩
def iG:Array Value := #[.func (.func 162) #[] #[],.func (.func 163) #[] #[],.func (.func 164) #[] #[],.func (.func 165) #[] #[],.func (.func 166) #[] #[],.func (.func 167) #[] #[],.func (.func 168) #[] #[],.func (.func 169) #[] #[]]
theorem yB:iG.all (·.oneCell')=true:=by decide +kernel
theorem bDe:Tryz.prog.built 161 [(0,.func (.func 162) #[] #[]),(1,.func (.func 163) #[] #[]),(2,.func (.func 164) #[] #[]),(3,.func (.func 165) #[] #[]),(4,.func (.func 166) #[] #[]),(5,.func (.func 167) #[] #[]),(6,.func (.func 168) #[] #[]),(7,.func (.func 169) #[] #[])]=some iG:=by kernel_rfl
theorem qA (W:World):Calls Tryz.prog 125 #[] W (Post (E (.agg iG)) W):=by
 refine enter (args:=[]) (As:=([]:List VA)) Tryz.func125 rfl Tryz.ntmps125 (Nat.le_of_ble_eq_true rfl) ?_ (fun a hf=>?_) (Nat.le_of_ble_eq_true rfl)
 ·intro i A h;simp at h
 dsimp only[params,Nat.reduceAdd] at hf
 have e:=Ext.rfl' W
 refine seq <| ac <| tL vS hf fun a b0 w e' hb0 hs0 B0 hf=>?_
 replace e:=e.tr e'
 refine aa <| seq <| rgN 1 hf <| st (bI [(0,_),(1,_),(2,_),(3,_),(4,_),(5,_),(6,_),(7,_)] rfl bDe) <| en fun a w e' hf=>?_
 obtain⟨e,B0⟩:=up2 e' e B0
 haveI hinr:∀G0,InR (GB W G0) (some b0):=fun G0=>InR.gb (by omega)
 refine aF pk hf rfl rfl (yB) B0 rfl (rfl) fun w hg hsz B0 hf=>?_
 replace e:=e.gr hg (by omega)
 refine aa <| ak (dX rfl pk hf rfl B0 rfl ?_)
 exact⟨_,rfl,e,rfl⟩
def doP (g:GT)(d:DT):GT:=if d.1=0 then (aV g.1 d.2.1 d.2.2.2,g.2) else (g.1,aV g.2 (Gr.ends d.2.1 d.2.2.1) d.2.2.2)
def apP (g:GT)(d:DT):GT:=if bR g d=0 then doP g d else g
theorem qB (g:GT)(d:DT)(bg bv be n:Nat)(W:World)(hg:GrR W bg bv be n g)(hn:n<maxLen)(hd:d.1=0∨d.1=2∨bR g d≠0)(hw:(Lit.int .i64 d.2.1).wf=true)(hw2:(Lit.int .i64 d.2.2.1).wf=true)(ho:okT d.2.2.2) :
  Calls Tryz.prog 89 #[.pointer (some ⟨bg,0,none⟩),dtV d] W fun en w'=>en=.returned (I (bR g d))∧Chg (fun b=>b=bv∨b=be) W w'∧GrR w' bg bv be (n+1) (apP g d):=by
 refine eN [.pointer (some ⟨bg,0,none⟩),dtV d] [E (.pointer (some ⟨bg,0,none⟩)),E (dtV d)] Tryz.func89 Tryz.ntmps89 ?_ fun a hf=>?_
 rotate_left
 dsimp only[params,Nat.reduceAdd] at hf
 rotate_right
 ·exact arg2 rfl rfl
 have e:=Ext.rfl' W
 refine seq <| ac <| tB hf rfl fun a b3 w v3 hv3 e' hb3 hs3 B3 hf=>?_
 obtain⟨e,hg⟩:=up2 e' e hg
 refine tA hf rfl fun a hf=>aa ?_
 cases hv3
 refine seq <| seq ?_
 refine rgN 2 hf <| st (mv rfl) <| st (eZ U26 (isE rfl (hg.dv (Nat.le_refl _) (G:=G0) id id id))) <| en fun a w e' hf=>?_
 obtain⟨e,hg,B3⟩:=up3 e' e hg B3
 refine aa <| ifF hf rfl ?_
 refine aj ?_
 replace hf:=hf.keep [0,3,4]
 refine seq <| seq ?_
 refine rgN 3 hf <| st (mv rfl) <| st ((ldW lM rfl B3 rfl).eq ((rfl:_=dtV d))) <| st (ap (A:=E (I (bR g d))) wN rfl rfl (fun v u w he h h'=>by cases h;cases h';exact yx (M:=n) (G:=G0) g d _ w ((hg.ext he).dv (Nat.le_refl _) id id id) hw hw2)) ?_
 refine en fun a w e' hf=>?_
 obtain⟨e,hg,B3⟩:=up3 e' e hg B3
 refine tA hf rfl fun a hf=>aa <| seq <| rgN 2 hf <| st (mv rfl) <| st (neq rfl rfl) <| en fun a w e' hf=>?_
 obtain⟨e,hg,B3⟩:=up3 e' e hg B3
 refine aa <| ifc hf rfl (fun hb=>?_) (fun hb=>?_)
 ·have hb':¬bR g d=0:=by simpa using hb
  refine seq <| rgN 1 hf <| st (mv rfl) <| en fun a w e' hf=>?_
  obtain⟨e,hg,B3⟩:=up3 e' e hg B3
  refine tA hf rfl fun a hf=>aa <| ak ?_
  simp only[Exit.then,Exit.inBlock]
  refine an rfl hf rfl ?_
  rintro _ rfl
  exact⟨rfl,e.chg _,by rw[apP,if_neg hb'];exact hg.mono (Nat.le_succ _)⟩
 ·have hb':bR g d=0:=by simpa using hb
  refine aj ?_
  replace hf:=hf.kp [0,3,4]
  have fin:apP g d=doP g d:=by rw[apP,if_pos hb']
  rcases (show d.1=0∨d.1=2 from hd.elim .inl (fun h=>h.elim .inr (fun h=>absurd hb' h))) with hop|hop
  ·refine seq <| cO 7 [0,0,0,0,0,0] (Chg (fun b=>b=bv∨b=be)) (cg.chg _) (fun w=>GrR w bg bv be (n+1) (doP g d)) (fun w w1 k h=>h.ext k) Mix.mix hf (by decide +kernel) (by decide +kernel) <| ja (jq (A:=E (.agg iG)) pP (fun w he=>qA w)) <| ja (fA bJ rfl T3 rfl) <| ja ((ld1 T3 rfl B3 rfl).eq ((congrArg (Value.int .i64) hop:_=I 0))) <| ja (ju pT pj rfl rfl (by decide) rfl) <| ja (mv rfl) <| ja ((ldW lM rfl B3 rfl).eq ((rfl:_=dtV d))) <| jx (qo xg rfl rfl rfl (fun w he=>(yz g d bg bv be n w (hg.ext he) hn hw ho).mono fun en w' ⟨h1,h2,h3⟩=>⟨_,h1,h2,by rw[doP,if_pos hop];exact h3⟩)) ?_
   refine je <| fun a w hc HF hf=>aa ?_
   replace hf:=hf.keep [4]
   refine seq <| ac <| tA hf rfl fun a hf=>aa <| ak <| an rfl hf rfl ?_
   rintro _ rfl
   exact⟨by rw[hb'],(e.chg _).tr hc,by rw[fin];exact HF⟩
  ·refine seq <| cO 7 [0,0,0,0,0,0] (Chg (fun b=>b=bv∨b=be)) (cg.chg _) (fun w=>GrR w bg bv be (n+1) (doP g d)) (fun w w1 k h=>h.ext k) Mix.mix hf (by decide +kernel) (by decide +kernel) <| ja (jq (A:=E (.agg iG)) pP (fun w he=>qA w)) <| ja (fA bJ rfl T3 rfl) <| ja ((ld1 T3 rfl B3 rfl).eq ((congrArg (Value.int .i64) hop:_=I 2))) <| ja (ju pT pj rfl rfl (by decide) rfl) <| ja (mv rfl) <| ja ((ldW lM rfl B3 rfl).eq ((rfl:_=dtV d))) <| jx (qo xh rfl rfl rfl (fun w he=>(yA g d bg bv be n w (hg.ext he) hn (qz hw hw2) ho).mono fun en w' ⟨h1,h2,h3⟩=>⟨_,h1,h2,by rw[doP,if_neg (by rw[hop];decide)];exact h3⟩)) ?_
   refine je <| fun a w hc HF hf=>aa ?_
   replace hf:=hf.keep [4]
   refine seq <| ac <| tA hf rfl fun a hf=>aa <| ak <| an rfl hf rfl ?_
   rintro _ rfl
   exact⟨by rw[hb'],(e.chg _).tr hc,by rw[fin];exact HF⟩
def atE (g:GT)(d:DT):Int:=if Gr.pairs d.1=true then cr g.2 d.2.1 d.2.2.1 else -1
def gN (g:GT)(d:DT):GT:=(g.1.filterMap (keepV d),bV d (atE g d) 0 g.2)
def doR (g:GT)(d:DT):GT×Int:=
 if (cB g d != 0)=true then (g,cB g d)
 else if (d.1==0)=true then ((insV g.1 (d.2.1,d.2.2.2),g.2),0)
 else if (d.1==2)=true then ((g.1,gD g.2 (Gr.ends d.2.1 d.2.2.1,d.2.2.2)),0)
 else (gN g d,0)
theorem bVt (x:VT):Tryz.prog.built 45 [(0,.int .i64 x.1),(1,.int .u8 x.2.1),(2,.int .i64 x.2.2)]=some #[.int .i64 x.1,.int .u8 x.2.1,.int .i64 x.2.2]:=by kernel_rfl
theorem bEt (x:ET):Tryz.prog.built 51 [(0,.int .i64 x.1.1),(1,.int .i64 x.1.2),(2,.int .u8 x.2.1),(3,.int .i64 x.2.2)]=some #[.int .i64 x.1.1,.int .i64 x.1.2,.int .u8 x.2.1,.int .i64 x.2.2]:=by kernel_rfl
theorem mo (x:VT):(#[.int .i64 x.1,.int .u8 x.2.1,.int .i64 x.2.2]:Array Value).all (·.oneCell')=true:=by simp[Array.all_eq_true_iff_forall_mem];exact⟨rfl,rfl,rfl⟩
theorem jM (x:ET):(#[.int .i64 x.1.1,.int .i64 x.1.2,.int .u8 x.2.1,.int .i64 x.2.2]:Array Value).all (·.oneCell')=true:=by simp[Array.all_eq_true_iff_forall_mem];exact⟨rfl,rfl,rfl,rfl⟩
theorem jN:Tryz.prog.built 25 []=some #[.slice none 0 0,.slice none 0 0]:=by kernel_rfl
theorem qC {G:Nat→Prop}(g:GT)(d:DT)(v:Value)(W:World)(h:(Dv gtE G g).p v W)(hG:∀b,G b→b<W.heap.size)(hl1:g.1.length≤100000)(hl2:g.2.length≤100000) :
  Calls Tryz.prog 97 #[v,dtV d] W (Post (Tup [Dv gtE G (doR g d).1,E (I (doR g d).2)]) W):=by
 obtain⟨u1,u2,rfl,h1,h2⟩:=Dv.gt.1 h
 obtain⟨a1,n1,c1,rfl⟩:=Dv.slF h1
 obtain⟨a2,n2,c2,rfl⟩:=Dv.slF h2
 have hbb:=Dv.toB h
 have h1b:=Dv.toB h1
 have h2b:=Dv.toB h2
 refine eN [.agg #[.slice a1 n1 c1,.slice a2 n2 c2],dtV d] [E (.agg #[.slice a1 n1 c1,.slice a2 n2 c2]),E (dtV d)] Tryz.func97 Tryz.ntmps97 ?_ fun a hf=>?_
 rotate_left
 dsimp only[params,Nat.reduceAdd] at hf
 rotate_right
 ·exact arg2 rfl rfl
 have e:=Ext.rfl' W
 refine seq <| ac <| tB hf rfl fun a b2 w v2 hv2 e' hb2 hs2 B2 hf=>?_
 replace e:=e.tr e'
 refine tB hf rfl fun a b3 w v3 hv3 e' hb3 hs3 B3 hf=>?_
 have lt3_B2:=B2.lt
 obtain⟨e,B2⟩:=up2 e' e B2
 refine tL I25 hf fun a b4 w e' hb4 hs4 B4 hf=>?_
 have hle4:=Nat.le_trans e.size (Nat.le_of_eq hb4.symm)
 have lt4_B2:=B2.lt
 obtain⟨e,B2,B3⟩:=up3 e' e B2 B3
 refine tA hf rfl fun a hf=>aa ?_
 cases hv2;cases hv3
 have fin:∀(w:World) (g':GT) (c:Int) (z:Value),Ext W w→(Dv gtE G g').p z w→doR g d=(g',c)→(Tup [Dv gtE G (doR g d).1,E (I (doR g d).2)]).p (.tuple #[z,I c]) w:=fun w g' c z e hz hd=>by rw[hd];exact Tup.two hz rfl
 have hG4:∀(w:World),b4<w.heap.size→Ext W w→∀b,G1 G b4 b→b<w.heap.size:=fun w hb4 e b hb=>hb.elim (fun hb=>Nat.lt_of_lt_of_le (hG b hb) e.size) (fun hb=>by rw[hb];exact hb4)
 have hg4:∀w,Ext W w→(Dv gtE (G1 G b4) g).p (.agg #[.slice a1 n1 c1,.slice a2 n2 c2]) w:=fun w e=>Dv.weak (vst e hbb) fun b _ hq=>hq.elim .inl (fun hq=>.inr (by rw[hq];exact hle4))
 refine seq <| seq ?_
 refine rgN 3 hf <| st ((ldW T25 rfl B2 rfl).eq ((rfl:_=Value.agg #[.slice a1 n1 c1,.slice a2 n2 c2]))) <| st ((ldW gF rfl B3 rfl).eq ((rfl:_=dtV d))) <| st (ap wO rfl rfl (fun v u w he k k'=>by cases k;cases k';exact xI g d _ w (vst (e.tr he) h) hl1 hl2)) ?_
 refine en fun a w e' hf=>?_
 obtain⟨e,B2,B3,B4⟩:=up4 e' e B2 B3 B4
 refine tA hf rfl fun a hf=>aa <| seq <| rgN 2 hf <| st (mv rfl) <| st (neq rfl rfl) <| en fun a w e' hf=>?_
 obtain⟨e,B2,B3,B4⟩:=up4 e' e B2 B3 B4
 refine aa <| ifc hf rfl (fun hb=>?_) (fun hb=>?_)
 ·refine seq <| rgN 2 hf <| st ((ldW T25 rfl B2 rfl).eq ((rfl:_=Value.agg #[.slice a1 n1 c1,.slice a2 n2 c2]))) <| st (mv rfl) <| en fun a w e' hf=>?_
  obtain⟨e,B2,B3,B4⟩:=up4 e' e B2 B3 B4
  haveI hinr:∀G0,InR (GB W G0) (some b4):=fun G0=>InR.gb (by omega)
  refine aF T25 hf rfl rfl (bK rfl rfl) B4 rfl (rfl) fun w hg hsz B4 hf=>?_
  obtain⟨e,B2,B3⟩:=gr3 hg e B2 B3
  refine tA hf rfl fun a hf=>aa <| ak (fM rfl T25 hf rfl rfl B4 rfl ?_)
  rintro _ rfl
  exact⟨_,rfl,e,fin _ _ _ _ e (vst e h) (by rw[doR,if_pos hb])⟩
 refine aj ?_
 replace hf:=hf.kp [2,3,4]
 have h1n:=aR hb;clear hb
 refine seq <| seq ?_
 refine rgN 3 hf <| st (fA aQ rfl T3 rfl) <| st (ld1 T3 rfl B3 rfl) <| st (eql rfl rfl) <| en fun a w e' hf=>?_
 obtain⟨e,B2,B3,B4⟩:=up4 e' e B2 B3 B4
 refine aa <| ifc hf rfl (fun hb=>?_) (fun hb=>?_)
 ·have h2p:=hb;clear hb
  refine seq <| rgN 9 hf <| st ((ldW T25 rfl B2 rfl).eq ((rfl:_=Value.agg #[.slice a1 n1 c1,.slice a2 n2 c2]))) <| st (fA aQ rfl T3 rfl) <| st (ld1 T3 rfl B3 rfl) <| st (fA aQ rfl T5 rfl) <| st (ld1 T5 rfl B3 rfl) <| st (fA aQ rfl T3 rfl) <| st (ld1 T3 rfl B3 rfl) <| st (oW (d.2.1,d.2.2.2) (bVt _) rfl rfl rfl) <| st (ap wP rfl rfl (fun v u w he k k'=>by cases k;cases k';exact xM (G:=G1 G b4) g _ _ w (hg4 w (e.tr he)) (hG4 w (Nat.lt_of_lt_of_le B4.lt he.size) (e.tr he)) hl1)) ?_
  refine en fun a w e' hf=>?_
  obtain⟨e,B2,B3,B4⟩:=up4 e' e B2 B3 B4
  obtain⟨z,hz,hf⟩:=hf.opn 31 rfl
  obtain⟨z1,z2,rfl,hz1,hz2⟩:=Dv.gt.1 hz
  replace hf:=hf.kp [31,4]
  refine aF T25 hf rfl rfl (bK (slOne hz1) (slOne hz2)) B4 rfl rfl fun w hg hsz B4 hf=>?_
  replace e:=e.gr hg hle4;replace hz:=AvR.av (row:=some b4) _ _ _ hg hz;clear hg
  refine tA hf rfl fun a hf=>aa <| ak (fM rfl T25 hf rfl rfl B4 rfl ?_)
  rintro _ rfl
  exact⟨_,rfl,e,fin _ _ _ _ e (Dv.weak hz fun b _=>.inl) (by rw[doR,if_neg h1n,if_pos h2p])⟩
 refine aj ?_
 replace hf:=hf.kp [2,3,4]
 have h2n:=aR hb;clear hb
 refine seq <| seq ?_
 refine rgN 3 hf <| st (fA aQ rfl T3 rfl) <| st (ld1 T3 rfl B3 rfl) <| st (eql rfl rfl) <| en fun a w e' hf=>?_
 obtain⟨e,B2,B3,B4⟩:=up4 e' e B2 B3 B4
 refine aa <| ifc hf rfl (fun hb=>?_) (fun hb=>?_)
 ·have h3p:=hb;clear hb
  refine seq <| rgN 17 hf <| st ((ldW T25 rfl B2 rfl).eq ((rfl:_=Value.agg #[.slice a1 n1 c1,.slice a2 n2 c2]))) <| st (fA aQ rfl T3 rfl) <| st (ld1 T3 rfl B3 rfl) <| st (fA aQ rfl T3 rfl) <| st (ld1 T3 rfl B3 rfl) <| st (min2 rfl rfl) <| st (fA aQ rfl T3 rfl) <| st (ld1 T3 rfl B3 rfl) <| st (fA aQ rfl T3 rfl) <| st (ld1 T3 rfl B3 rfl) <| st (max2 rfl rfl) <| st (fA aQ rfl T5 rfl) <| st (ld1 T5 rfl B3 rfl) <| st (fA aQ rfl T3 rfl) <| st (ld1 T3 rfl B3 rfl) <| st (oX (Gr.ends d.2.1 d.2.2.1,d.2.2.2) (bEt _) rfl rfl rfl rfl) <| st (ap wQ rfl rfl (fun v u w he k k'=>by cases k;cases k';exact xN (G:=G1 G b4) g _ _ w (hg4 w (e.tr he)) (hG4 w (Nat.lt_of_lt_of_le B4.lt he.size) (e.tr he)) hl2)) ?_
  refine en fun a w e' hf=>?_
  obtain⟨e,B2,B3,B4⟩:=up4 e' e B2 B3 B4
  obtain⟨z,hz,hf⟩:=hf.opn 51 rfl
  obtain⟨z1,z2,rfl,hz1,hz2⟩:=Dv.gt.1 hz
  replace hf:=hf.kp [51,4]
  refine aF T25 hf rfl rfl (bK (slOne hz1) (slOne hz2)) B4 rfl rfl fun w hg hsz B4 hf=>?_
  replace e:=e.gr hg hle4;replace hz:=AvR.av (row:=some b4) _ _ _ hg hz;clear hg
  refine tA hf rfl fun a hf=>aa <| ak (fM rfl T25 hf rfl rfl B4 rfl ?_)
  rintro _ rfl
  exact⟨_,rfl,e,fin _ _ _ _ e (Dv.weak hz fun b _=>.inl) (by rw[doR,if_neg h1n,if_neg h2n,if_pos h3p])⟩
 refine aj ?_
 replace hf:=hf.kp [2,3,4]
 have h3n:=aR hb;clear hb
 have hdo:doR g d=(gN g d,0):=by rw[doR,if_neg h1n,if_neg h2n,if_neg h3n]
 refine seq <| rgN 1 hf <| st (bI [] rfl jN) <| en fun a w e' hf=>?_
 obtain⟨e,B2,B3,B4⟩:=up4 e' e B2 B3 B4
 refine tL I25 hf fun a b7 w e' hb7 hs7 B7 hf=>?_
 have lt7_B3:=B3.lt
 have lt7_B4:=B4.lt
 obtain⟨e,B2,B3,B4⟩:=up4 e' e B2 B3 B4
 haveI hinr:∀G0,InR (GB W G0) (some b7):=fun G0=>InR.gb (by omega)
 refine aF T25 hf rfl rfl (bK rfl rfl) B7 rfl (rfl) fun w hg hsz B7 hf=>?_
 obtain⟨e,B2,B3,B4⟩:=gr4 hg e B2 B3 B4
 refine aa ?_
 have hlE:=fun (k:Nat)=>Nat.le_trans (jw d (atE g d) 0 (g.2.take k)) (List.length_take_le k g.2)
 have hlV:=fun (k:Nat)=>Nat.le_trans (List.length_filterMap_le (keepV d) (g.1.take k)) (List.length_take_le k g.1)
 replace hf:=hf.kp [2,3,4,7]
 refine seq <| seq ?_
 refine ac <| tA hf rfl fun a hf=>aa ?_
 replace hf:=hf.kp [2,3,4,7,8]
 refine blk (aK (fun r0 a w=>∃(k:Nat) (u:Value),r0=g.1.length - k∧k≤g.1.length∧Fr 183 a w [(2,E (.pointer (some ⟨b2,0,none⟩))),(3,E (.pointer (some ⟨b3,0,none⟩))),(4,E (.pointer (some ⟨b4,0,none⟩))),(7,E (.pointer (some ⟨b7,0,none⟩))),(8,E (I k))]∧Ext W w∧Blk w b2 #[.slice a1 n1 c1,.slice a2 n2 c2] 25∧Blk w b3 (dtV d).cells 143∧Blk w b4 #[.slice none 0 0,.slice none 0 0] 25∧Blk w b7 #[u,.slice none 0 0] 25∧OwR vtE 45 (b7+1) G w ((g.1.take k).filterMap (keepV d)) u) g.1.length ⟨0,.slice none 0 0,rfl,by omega,hf,e,⟨B2,B3,B4,B7,OwR.nil vtE _ (by have:=B7.lt;omega) fun b hb=>Nat.lt_of_lt_of_le (hG b hb) (by omega)⟩⟩ ?_)
 rintro r0 a w ⟨k,u,rfl,hk,hf,e,B2,B3,B4,B7,Ho⟩
 refine seq <| seq ?_
 refine rgN 5 hf <| st (mv rfl) <| st (fA U25 rfl T22 rfl) <| st (ld1 T22 rfl (by assumption) rfl) <| st (aI U22 (isE rfl (vst e h1))) <| st (lss rfl rfl) <| en fun a w e' hf=>?_
 obtain⟨e,B2,B3,B4,B7,Ho⟩:=up6 e' e B2 B3 B4 B7 Ho
 refine aa <| ifc hf rfl (fun hc=>aj ?_) (fun hc=>aH ?_)
 rotate_left
 rotate_left
 ·have hlt:=ltC hc
  replace hf:=hf.kp [2,3,4,7,8]
  refine seq <| blk ?_
  have hg:=List.getElem?_eq_getElem hlt
  generalize g.1[k]=y at hg
  have hs:=vQ d hg
  have hlk:=hlV k
  refine seq <| ac <| tP hf (fA U25 rfl T22 rfl) fun a w e' hf=>?_
  obtain⟨Ho,e,B2,B3,B4,B7⟩:=up6 e' Ho e B2 B3 B4 B7
  refine tP hf (ld1 T22 rfl B2 rfl) fun a w e' hf=>?_
  obtain⟨Ho,e,B2,B3,B4,B7⟩:=up6 e' Ho e B2 B3 B4 B7
  refine tP hf (mv rfl) fun a w e' hf=>?_
  obtain⟨Ho,e,B2,B3,B4,B7⟩:=up6 e' Ho e B2 B3 B4 B7
  refine tP hf (aG U22 S45 (isE rfl (vst e h1b)) rfl (by omega) (hg)) fun a w e' hf=>?_
  obtain⟨Ho,e,B2,B3,B4,B7⟩:=up6 e' Ho e B2 B3 B4 B7
  refine tP hf (gE T45 (isR rfl)) fun a w e' hf=>?_
  obtain⟨Ho,e,B2,B3,B4,B7⟩:=up6 e' Ho e B2 B3 B4 B7
  refine tL I45 hf fun a b9 w e' hb9 hs9 B9 hf=>?_
  have hle9:=Nat.le_trans e.size (Nat.le_of_eq hb9.symm)
  have ne9_Ho:=Ho.ne_new hb9
  have lt9_B2:=B2.lt
  have lt9_B3:=B3.lt
  have lt9_B4:=B4.lt
  have lt9_B7:=B7.lt
  obtain⟨Ho,e,B2,B3,B4,B7⟩:=up6 e' Ho e B2 B3 B4 B7
  have n9:=ne9_Ho
  replace hf:=hf.kp [2,3,4,7,8,9,64]
  refine aF T45 hf rfl rfl (mo y) B9 rfl rfl fun w hg' hsz B9 hf=>?_
  replace e:=e.gr hg' (by omega);replace B2:=B2.gr hg' (by omega);replace B3:=B3.gr hg' (by omega);replace B4:=B4.gr hg' (by omega);replace B7:=B7.gr hg' (by omega);replace Ho:=Ho.grE hg' n9;clear hg'
  refine aa ?_
  replace hf:=hf.kp [2,3,4,7,8,9]
  refine seq <| seq ?_
  refine rgN 10 hf <| st (fA U45 rfl T3 rfl) <| st (ld1 T3 rfl B9 rfl) <| st (fA aQ rfl T3 rfl) <| st (ld1 T3 rfl B3 rfl) <| st (eql rfl rfl) <| st (mv rfl) <| sgE rfl rfl (.k 3 rfl .n) (fun hgd=>fA aQ rfl T3 rfl) <| sgE rfl rfl (.c 71 rfl (fun h=>h) .n) (fun hgd=>ld1 T3 rfl B3 rfl) <| sgE rfl rfl (.c 72 rfl (fun h=>h) .n) (fun hgd=>eql rfl rfl) <| st (bF rfl rfl (fun h=>by rw[h];rfl)) ?_
  refine en fun a w e' hf=>?_
  obtain⟨Ho,e,B2,B3,B4,B7,B9⟩:=up7 e' Ho e B2 B3 B4 B7 B9
  refine aa <| ifc hf rfl (fun hb=>?_) (fun hb=>?_)
  ·refine aH ?_
   replace hf:=hf.kp [2,3,4,7,8]
   refine rgN 2 hf <| st (mv rfl) <| st ((add rfl rfl (by omega)).eq (iN k)) <| en fun a w e' hf=>?_
   obtain⟨Ho,e,B2,B3,B4,B7⟩:=up6 e' Ho e B2 B3 B4 B7
   refine tA hf rfl fun a hf=>aa ?_
   replace hf:=hf.kp [2,3,4,7,8]
   refine⟨_,?_,k+1,u,rfl,by omega,hf,e,?_⟩
   ·omega
   rw[hs,keepV,if_pos hb]
   exact⟨B2,B3,B4,B7,by simpa using Ho⟩
  refine aj ?_
  have hkv:=aR hb;clear hb
  replace hf:=hf.kp [2,3,4,7,8,9]
  repeat refine seq ?_
  refine rgN 10 hf <| st (fA U45 rfl T3 rfl) <| st (ld1 T3 rfl B9 rfl) <| st (fA aQ rfl T3 rfl) <| st (ld1 T3 rfl B3 rfl) <| st (eql rfl rfl) <| st (mv rfl) <| sgE rfl rfl (.k 3 rfl .n) (fun hgd=>fA aQ rfl T3 rfl) <| sgE rfl rfl (.c 81 rfl (fun h=>h) .n) (fun hgd=>ld1 T3 rfl B3 rfl) <| sgE rfl rfl (.c 82 rfl (fun h=>h) .n) (fun hgd=>eql rfl rfl) <| st (bF rfl rfl (fun h=>by rw[h];rfl)) ?_
  refine en fun a w e' hf=>?_
  obtain⟨Ho,e,B2,B3,B4,B7,B9⟩:=up7 e' Ho e B2 B3 B4 B7 B9
  refine aa <| cut (J:=fun a w=>Fr 183 a w [(2,E (.pointer (some ⟨b2,0,none⟩))),(3,E (.pointer (some ⟨b3,0,none⟩))),(4,E (.pointer (some ⟨b4,0,none⟩))),(7,E (.pointer (some ⟨b7,0,none⟩))),(8,E (I k)),(9,E (.pointer (some ⟨b9,0,none⟩)))]∧Ext W w∧Blk w b2 #[.slice a1 n1 c1,.slice a2 n2 c2] 25∧Blk w b3 (dtV d).cells 143∧Blk w b4 #[.slice none 0 0,.slice none 0 0] 25∧Blk w b7 #[u,.slice none 0 0] 25∧Blk w b9 #[.int .i64 y.1,.int .u8 (if (y.1==d.2.1&&d.1==4)=true then d.2.2.2.1 else y.2.1),.int .i64 y.2.2] 45∧OwR vtE 45 (b7+1) G w ((g.1.take k).filterMap (keepV d)) u) ?_ (fun a w hJ=>?_)
  ·repeat refine seq ?_
   refine ifc hf rfl (fun hb=>?_) (fun hb=>?_)
   ·replace hf:=hf.kp [2,3,4,7,8,9]
    refine rgN 3 hf <| st (fA aQ rfl T5 rfl) <| st (ld1 T5 rfl B3 rfl) <| st (fA U45 rfl T5 rfl) <| en fun a w e' hf=>?_
    obtain⟨Ho,e,B2,B3,B4,B7,B9⟩:=up7 e' Ho e B2 B3 B4 B7 B9
    refine aO T5 hf rfl rfl (rfl) B9 (by simp) fun w hg hsz B9 hf=>?_
    obtain⟨e,B2,B3,B4,B7⟩:=gr5 hg e B2 B3 B4 B7
    replace Ho:=Ho.grE hg n9
    refine aa ?_
    rw[if_pos hb]
    replace hf:=hf.kp [2,3,4,7,8,9]
    exact⟨rfl,hf,e,B2,B3,B4,B7,B9,Ho⟩
   ·refine aj ?_
    rw[if_neg (aR hb)]
    replace hf:=hf.kp [2,3,4,7,8,9]
    exact⟨rfl,hf,e,B2,B3,B4,B7,B9,Ho⟩
  obtain⟨hf,e,B2,B3,B4,B7,B9,Ho⟩:=hJ
  repeat refine seq ?_
  refine rgN 10 hf <| st (fA U45 rfl T3 rfl) <| st (ld1 T3 rfl B9 rfl) <| st (fA aQ rfl T3 rfl) <| st (ld1 T3 rfl B3 rfl) <| st (eql rfl rfl) <| st (mv rfl) <| sgE rfl rfl (.k 3 rfl .n) (fun hgd=>fA aQ rfl T3 rfl) <| sgE rfl rfl (.c 94 rfl (fun h=>h) .n) (fun hgd=>ld1 T3 rfl B3 rfl) <| sgE rfl rfl (.c 95 rfl (fun h=>h) .n) (fun hgd=>eql rfl rfl) <| st (bF rfl rfl (fun h=>by rw[h];rfl)) ?_
  refine en fun a w e' hf=>?_
  obtain⟨Ho,e,B2,B3,B4,B7,B9⟩:=up7 e' Ho e B2 B3 B4 B7 B9
  refine aa <| cut (J:=fun a w=>Fr 183 a w [(2,E (.pointer (some ⟨b2,0,none⟩))),(3,E (.pointer (some ⟨b3,0,none⟩))),(4,E (.pointer (some ⟨b4,0,none⟩))),(7,E (.pointer (some ⟨b7,0,none⟩))),(8,E (I k)),(9,E (.pointer (some ⟨b9,0,none⟩)))]∧Ext W w∧Blk w b2 #[.slice a1 n1 c1,.slice a2 n2 c2] 25∧Blk w b3 (dtV d).cells 143∧Blk w b4 #[.slice none 0 0,.slice none 0 0] 25∧Blk w b7 #[u,.slice none 0 0] 25∧Blk w b9 #[.int .i64 y.1,.int .u8 (if (y.1==d.2.1&&d.1==4)=true then d.2.2.2.1 else y.2.1),.int .i64 (if (y.1==d.2.1&&d.1==5)=true then d.2.2.2.2 else y.2.2)] 45∧OwR vtE 45 (b7+1) G w ((g.1.take k).filterMap (keepV d)) u) ?_ (fun a w hJ=>?_)
  ·repeat refine seq ?_
   refine ifc hf rfl (fun hb=>?_) (fun hb=>?_)
   ·replace hf:=hf.kp [2,3,4,7,8,9]
    refine rgN 3 hf <| st (fA aQ rfl T3 rfl) <| st (ld1 T3 rfl B3 rfl) <| st (fA U45 rfl T3 rfl) <| en fun a w e' hf=>?_
    obtain⟨Ho,e,B2,B3,B4,B7,B9⟩:=up7 e' Ho e B2 B3 B4 B7 B9
    refine aO T3 hf rfl rfl (rfl) B9 (by simp) fun w hg hsz B9 hf=>?_
    obtain⟨e,B2,B3,B4,B7⟩:=gr5 hg e B2 B3 B4 B7
    replace Ho:=Ho.grE hg n9
    refine aa ?_
    rw[if_pos hb]
    replace hf:=hf.kp [2,3,4,7,8,9]
    exact⟨rfl,hf,e,B2,B3,B4,B7,B9,Ho⟩
   ·refine aj ?_
    rw[if_neg (aR hb)]
    replace hf:=hf.kp [2,3,4,7,8,9]
    exact⟨rfl,hf,e,B2,B3,B4,B7,B9,Ho⟩
  obtain⟨hf,e,B2,B3,B4,B7,B9,Ho⟩:=hJ
  rw[keepV,if_neg hkv] at hs
  obtain⟨y',hy'⟩:∃y':VT,y'=(y.1,(if (y.1==d.2.1&&d.1==4)=true then d.2.2.2.1 else y.2.1),(if (y.1==d.2.1&&d.1==5)=true then d.2.2.2.2 else y.2.2)):=⟨_,rfl⟩
  replace B9:Blk w b9 (vtV y').cells 45:=by rw[hy'];exact B9
  rw[← hy'] at hs
  have n2:=Ho.neLt (b:=b2) (by omega);have n3:=Ho.neLt (b:=b3) (by omega);have n4:=Ho.neLt (b:=b4) (by omega);have n7:=Ho.neLt (b:=b7) (by omega)
  refine rgN 4 hf <| st (fA U25 rfl T22 rfl) <| st ((ld1 T22 rfl (by assumption) rfl).eq ((rfl:_=u))) <| st ((ldW T45 rfl B9 rfl).eq ((rfl:_=vtV y'))) <| st (aX U22 I45 rfl (by decide) rfl Ho.avs (ff rfl)) <| en fun a w e' hf=>?_
  obtain⟨Ho,e,B2,B3,B4,B7,B9⟩:=up7 e' Ho e B2 B3 B4 B7 B9
  haveI hin:∀G0,InR (GB W G0) _:=OwR.inGB (W:=W) Ho (by omega)
  refine bG U22 I45 rfl rfl hf (by decide) rfl Ho (isR rfl) (by simp only[List.length_singleton];omega) (by simp only[List.length_singleton,maxLen];omega) fun a v w hg hat Hn hf=>?_
  replace e:=e.gro hg (Ho.row (W:=W) (by omega))
  have hrow:=Ho.row (W:=W) (by omega)
  replace Ho:=Hn
  replace B2:=B2.gro hg (by assumption)
  replace B3:=B3.gro hg (by assumption)
  replace B4:=B4.gro hg (by assumption)
  replace B7:=B7.gro hg (by assumption)
  replace B9:=B9.gro hg (by assumption)
  replace Ho:=Hn;clear Hn hg hat hin
  replace hf:=hf.kp [2,3,4,7,8,105]
  refine tP hf (fA U25 rfl T22 rfl) fun a w e' hf=>?_
  obtain⟨Ho,e,B2,B3,B4,B7⟩:=up6 e' Ho e B2 B3 B4 B7
  refine aO T22 hf rfl rfl (slOne Ho.sl) B7 (by simp) fun w hg hsz B7 hf=>?_
  obtain⟨e,B2,B3,B4⟩:=gr4 hg e B2 B3 B4
  replace Ho:=Ho.grE hg (Ho.neLt (by omega))
  refine aa <| rgN 2 hf <| st (mv rfl) <| st ((add rfl rfl (by omega)).eq (iN k)) <| en fun a w e' hf=>?_
  obtain⟨Ho,e,B2,B3,B4,B7⟩:=up6 e' Ho e B2 B3 B4 B7
  refine tA hf rfl fun a hf=>aa ?_
  replace hf:=hf.keep [2,3,4,7,8]
  refine⟨_,?_,k+1,v,rfl,by omega,hf,e,?_⟩
  ·omega
  exact⟨B2,B3,B4,B7,by rw[hs];exact Ho⟩
 ·obtain rfl:=dnE hc hk
  rw[List.take_length] at Ho
  obtain⟨av,nv,cv,rfl⟩:=Dv.slF Ho.sl
  have hown:∀bb,(Value.slice av nv cv).ownBlock=some bb→bb<w.heap.size:=fun bb h=>(Ho.lt h).2
  have HOo:=Ho
  refine seq <| ac <| tA hf rfl fun a hf=>aa ?_
  replace hf:=hf.keep [2,3,4,7,10]
  repeat refine seq ?_
  refine rgN 2 hf <| st ((ldW gF rfl B3 rfl).eq ((rfl:_=dtV d))) <| st (aw jF rfl (fun v w he h=>by cases h;exact qf d w)) ?_
  refine en fun a w e' hf=>?_
  obtain⟨Ho,e,B2,B3,B4,B7⟩:=up6 e' Ho e B2 B3 B4 B7
  refine aa <| cut (J:=fun a w=>Fr 183 a w [(2,E (.pointer (some ⟨b2,0,none⟩))),(3,E (.pointer (some ⟨b3,0,none⟩))),(4,E (.pointer (some ⟨b4,0,none⟩))),(7,E (.pointer (some ⟨b7,0,none⟩))),(10,E (I (atE g d)))]∧Ext W w∧Blk w b2 #[.slice a1 n1 c1,.slice a2 n2 c2] 25∧Blk w b3 (dtV d).cells 143∧Blk w b4 #[.slice none 0 0,.slice none 0 0] 25∧Blk w b7 #[.slice av nv cv,.slice none 0 0] 25∧OwR vtE 45 (b7+1) G w (g.1.filterMap (keepV d)) (.slice av nv cv)) ?_ (fun a w hJ=>?_)
  ·repeat refine seq ?_
   refine ifc hf rfl (fun hb=>?_) (fun hb=>?_)
   ·replace hf:=hf.keep [2,3,4,7]
    refine rgN 6 hf <| st ((ldW T25 rfl B2 rfl).eq ((rfl:_=Value.agg #[.slice a1 n1 c1,.slice a2 n2 c2]))) <| st (fA aQ rfl T3 rfl) <| st (ld1 T3 rfl B3 rfl) <| st (fA aQ rfl T3 rfl) <| st (ld1 T3 rfl B3 rfl) <| st (cE (A:=E (I (cr g.2 d.2.1 d.2.2.1))) iz rfl rfl rfl (fun v u x w he k k' k''=>by cases k;cases k';cases k'';exact jK g d.2.1 d.2.2.1 _ w (vst (e.tr he) h) hl2)) ?_
    refine en fun a w e' hf=>?_
    obtain⟨Ho,e,B2,B3,B4,B7⟩:=up6 e' Ho e B2 B3 B4 B7
    refine tA hf rfl fun a hf=>aa ?_
    rw[atE,if_pos hb]
    replace hf:=hf.keep [2,3,4,7,10]
    exact⟨rfl,hf,e,B2,B3,B4,B7,Ho⟩
   ·refine aj ?_
    rw[atE,if_neg (aR hb)]
    replace hf:=hf.keep [2,3,4,7,10]
    exact⟨rfl,hf,e,B2,B3,B4,B7,Ho⟩
  obtain⟨hf,e,B2,B3,B4,B7,Ho⟩:=hJ
  rw[gN] at hdo
  generalize atE g d=at' at hf hdo hlE
  obtain⟨NV,hNV⟩:∃NV:Nat→Prop,NV=fun b=>(Value.slice av nv cv).ownBlock≠some b:=⟨_,rfl⟩
  have HD:(Dv (slE vtE) NV (g.1.filterMap (keepV d))).p (.slice av nv cv) w:=Ho.slN fun b hb=>by rw[hNV];exact fun h=>h hb
  obtain⟨N5,hN5⟩:=eqX w.heap.size
  have l7:=B7.lt
  have nV:∀bb,(bb≤b7∨N5≤bb)→NV bb:=fun bb hb=>by rw[hNV];intro h;have h3:=Ho.lt h;omega
  have hNG:∀b,G b→NV b:=fun b hb=>by rw[hNV];intro h;have h3:=Ho.lt h;have:=hG b hb;omega
  have hN7:b7<N5:=by rw[hN5];exact l7
  have hN5s:N5≤w.heap.size:=Nat.le_of_eq hN5
  replace hf:=hf.kp [2,3,4,7,10]
  repeat refine seq ?_
  refine ac <| tA hf rfl fun a hf=>aa ?_
  replace hf:=hf.kp [2,3,4,7,10,11]
  refine blk (aK (fun r0 a w=>∃(k:Nat) (u:Value),r0=g.2.length - k∧k≤g.2.length∧Fr 183 a w [(2,E (.pointer (some ⟨b2,0,none⟩))),(3,E (.pointer (some ⟨b3,0,none⟩))),(4,E (.pointer (some ⟨b4,0,none⟩))),(7,E (.pointer (some ⟨b7,0,none⟩))),(10,E (I at')),(11,E (I k))]∧Ext W w∧Blk w b2 #[.slice a1 n1 c1,.slice a2 n2 c2] 25∧Blk w b3 (dtV d).cells 143∧Blk w b4 #[.slice none 0 0,.slice none 0 0] 25∧Blk w b7 #[.slice av nv cv,u] 25∧(Dv (slE vtE) NV (g.1.filterMap (keepV d))).p (.slice av nv cv) w∧OwR etE 51 N5 G w (bV d at' 0 (g.2.take k)) u∧N5≤w.heap.size) g.2.length ⟨0,.slice none 0 0,rfl,by omega,hf,e,⟨B2,B3,B4,B7,HD,OwR.nil etE _ hN5s fun b hb=>Nat.lt_of_lt_of_le (hG b hb) (by omega),hN5s⟩⟩ ?_)
  rintro r0 a w ⟨k,u,rfl,hk,hf,e,B2,B3,B4,B7,HD,Ho,hN5s⟩
  repeat refine seq ?_
  refine rgN 5 hf <| st (mv rfl) <| st (fA U25 rfl T23 rfl) <| st (ld1 T23 rfl (by assumption) rfl) <| st (aI U23 (isE rfl (vst e h2))) <| st (lss rfl rfl) <| en fun a w e' hf=>?_
  obtain⟨HD,hN5s,e,B2,B3,B4,B7,Ho⟩:=up8 e' HD hN5s e B2 B3 B4 B7 Ho
  refine aa <| ifc hf rfl (fun hc=>aj ?_) (fun hc=>aH ?_)
  rotate_left
  rotate_left
  ·have hlt:=ltC hc
   replace hf:=hf.kp [2,3,4,7,10,11]
   refine seq <| blk ?_
   have hg:=List.getElem?_eq_getElem hlt
   generalize g.2[k]=y at hg
   have hs:=vP d at' hg
   have hlk:=hlE k
   refine seq <| ac <| tP hf (fA U25 rfl T23 rfl) fun a w e' hf=>?_
   obtain⟨HD,hN5s,Ho,e,B2,B3,B4,B7⟩:=up8 e' HD hN5s Ho e B2 B3 B4 B7
   refine tP hf (ld1 T23 rfl B2 rfl) fun a w e' hf=>?_
   obtain⟨HD,hN5s,Ho,e,B2,B3,B4,B7⟩:=up8 e' HD hN5s Ho e B2 B3 B4 B7
   refine tP hf (mv rfl) fun a w e' hf=>?_
   obtain⟨HD,hN5s,Ho,e,B2,B3,B4,B7⟩:=up8 e' HD hN5s Ho e B2 B3 B4 B7
   refine tP hf (aG U23 S51 (isE rfl (vst e h2b)) rfl (by omega) (hg)) fun a w e' hf=>?_
   obtain⟨HD,hN5s,Ho,e,B2,B3,B4,B7⟩:=up8 e' HD hN5s Ho e B2 B3 B4 B7
   refine tP hf (fN T51 (isR rfl)) fun a w e' hf=>?_
   obtain⟨HD,hN5s,Ho,e,B2,B3,B4,B7⟩:=up8 e' HD hN5s Ho e B2 B3 B4 B7
   refine tL I51 hf fun a b12 w e' hb12 hs12 B12 hf=>?_
   have hle12:=Nat.le_trans e.size (Nat.le_of_eq hb12.symm)
   have lo12_hN5s:=Nat.le_trans hN5s (Nat.le_of_eq hb12.symm)
   have ne12_Ho:=Ho.ne_new hb12
   have lt12_B2:=B2.lt
   obtain⟨HD,hN5s,Ho,e,B2,B3,B4,B7⟩:=up8 e' HD hN5s Ho e B2 B3 B4 B7
   have n12:=ne12_Ho
   replace hf:=hf.kp [2,3,4,7,10,11,12,126]
   refine aF T51 hf rfl rfl (jM y) B12 rfl rfl fun w hg' hsz B12 hf=>?_
   replace e:=e.gr hg' (by omega);replace B2:=B2.gr hg' (by omega);replace B3:=B3.gr hg' (by omega);replace B4:=B4.gr hg' (by omega);replace B7:=B7.gr hg' (by omega);replace Ho:=Ho.grE hg' n12
   replace HD:=Dv.grN HD hg' (fun bb hb=>nV bb (by cases hb;omega));replace hN5s:=Nat.le_trans hN5s hg'.size;clear hg'
   refine aa ?_
   replace hf:=hf.kp [2,3,4,7,10,11,12]
   repeat refine seq ?_
   refine rgN 27 hf <| st (fA aQ rfl T3 rfl) <| st (ld1 T3 rfl B3 rfl) <| st (eql rfl rfl) <| st (mv rfl) <| sgE rfl rfl (.k 12 rfl .n) (fun hgd=>fA U51 rfl T3 rfl) <| sgE rfl rfl (.c 131 rfl (fun h=>h) .n) (fun hgd=>ld1 T3 rfl B12 rfl) <| sgE rfl rfl (.k 3 rfl .n) (fun hgd=>fA aQ rfl T3 rfl) <| sgE rfl rfl (.c 133 rfl (fun h=>h) .n) (fun hgd=>ld1 T3 rfl B3 rfl) <| sgE rfl rfl (.c 132 rfl (fun h=>h) (.c 134 rfl (fun h=>h) .n)) (fun hgd=>eql rfl rfl) <| sgE rfl rfl (.c 135 rfl (fun h=>h) .n) (fun hgd=>mv rfl) <| sgC rfl rfl (.k 12 rfl .n) (fun hgd=>fA U51 rfl T3 rfl) <| sgC rfl rfl (.c 137 rfl (fun h=>h) .n) (fun hgd=>ld1 T3 rfl B12 rfl) <| sgC rfl rfl (.k 3 rfl .n) (fun hgd=>fA aQ rfl T3 rfl) <| sgC rfl rfl (.c 139 rfl (fun h=>h) .n) (fun hgd=>ld1 T3 rfl B3 rfl) <| sgC rfl rfl (.c 138 rfl (fun h=>h) (.c 140 rfl (fun h=>h) .n)) (fun hgd=>eql rfl rfl) <| sgE rfl rfl (.c 136 rfl (fun h=>h) (.k 141 rfl .n)) (fun hgd=>bH rfl rfl (fun h=>by rw[hgd,h];rfl)) ?_
   refine st (bF rfl rfl (fun h=>by rw[h];rfl)) ?_
   refine st (mv rfl) <| sgE rfl rfl (.k 3 rfl .n) (fun hgd=>fA aQ rfl T3 rfl) <| sgE rfl rfl (.c 145 rfl (fun h=>h) .n) (fun hgd=>ld1 T3 rfl B3 rfl) <| sgE rfl rfl (.c 146 rfl (fun h=>h) .n) (fun hgd=>eql rfl rfl) <| sgE rfl rfl (.c 147 rfl (fun h=>h) .n) (fun hgd=>mv rfl) <| sgC rfl rfl (.k 11 rfl .n) (fun hgd=>mv rfl) <| sgC rfl rfl (.k 10 rfl .n) (fun hgd=>mv rfl) <| sgC rfl rfl (.c 149 rfl (fun h=>h) (.c 150 rfl (fun h=>h) .n)) (fun hgd=>eql rfl rfl) <| sgE rfl rfl (.c 148 rfl (fun h=>h) (.k 151 rfl .n)) (fun hgd=>bF rfl rfl (fun h=>by rw[hgd,h];rfl)) ?_
   refine st (bH rfl rfl (fun h=>by rw[h];rfl)) ?_
   refine en fun a w e' hf=>?_
   obtain⟨HD,hN5s,Ho,e,B2,B3,B4,B7,B12⟩:=up9 e' HD hN5s Ho e B2 B3 B4 B7 B12
   refine aa <| ifc hf rfl (fun hb=>?_) (fun hb=>?_)
   ·refine aH ?_
    replace hf:=hf.kp [2,3,4,7,10,11]
    refine rgN 2 hf <| st (mv rfl) <| st ((add rfl rfl (by omega)).eq (iN k)) <| en fun a w e' hf=>?_
    obtain⟨HD,hN5s,Ho,e,B2,B3,B4,B7⟩:=up8 e' HD hN5s Ho e B2 B3 B4 B7
    refine tA hf rfl fun a hf=>aa ?_
    replace hf:=hf.kp [2,3,4,7,10,11]
    refine⟨_,?_,k+1,u,rfl,by omega,hf,e,?_⟩
    ·omega
    rw[hs,dm,if_pos hb]
    exact⟨B2,B3,B4,B7,HD,by simpa using Ho,hN5s⟩
   refine aj ?_
   have hkv:=aR hb;clear hb
   replace hf:=hf.kp [2,3,4,7,10,11,12]
   repeat refine seq ?_
   refine rgN 8 hf <| st (mv rfl) <| st (mv rfl) <| st (eql rfl rfl) <| st (mv rfl) <| sgE rfl rfl (.k 3 rfl .n) (fun hgd=>fA aQ rfl T3 rfl) <| sgE rfl rfl (.c 158 rfl (fun h=>h) .n) (fun hgd=>ld1 T3 rfl B3 rfl) <| sgE rfl rfl (.c 159 rfl (fun h=>h) .n) (fun hgd=>eql rfl rfl) <| st (bF rfl rfl (fun h=>by rw[h];rfl)) ?_
   refine en fun a w e' hf=>?_
   obtain⟨HD,hN5s,Ho,e,B2,B3,B4,B7,B12⟩:=up9 e' HD hN5s Ho e B2 B3 B4 B7 B12
   refine aa <| cut (J:=fun a w=>Fr 183 a w [(2,E (.pointer (some ⟨b2,0,none⟩))),(3,E (.pointer (some ⟨b3,0,none⟩))),(4,E (.pointer (some ⟨b4,0,none⟩))),(7,E (.pointer (some ⟨b7,0,none⟩))),(10,E (I at')),(11,E (I k)),(12,E (.pointer (some ⟨b12,0,none⟩)))]∧Ext W w∧Blk w b2 #[.slice a1 n1 c1,.slice a2 n2 c2] 25∧Blk w b3 (dtV d).cells 143∧Blk w b4 #[.slice none 0 0,.slice none 0 0] 25∧Blk w b7 #[.slice av nv cv,u] 25∧(Dv (slE vtE) NV (g.1.filterMap (keepV d))).p (.slice av nv cv) w∧Blk w b12 #[.int .i64 y.1.1,.int .i64 y.1.2,.int .u8 (if ((k:Int)==at'&&d.1==6)=true then d.2.2.2.1 else y.2.1),.int .i64 y.2.2] 51∧OwR etE 51 N5 G w (bV d at' 0 (g.2.take k)) u∧N5≤w.heap.size) ?_ (fun a w hJ=>?_)
   ·repeat refine seq ?_
    refine ifc hf rfl (fun hb=>?_) (fun hb=>?_)
    ·replace hf:=hf.kp [2,3,4,7,10,11,12]
     refine rgN 3 hf <| st (fA aQ rfl T5 rfl) <| st (ld1 T5 rfl B3 rfl) <| st (fA U51 rfl T5 rfl) <| en fun a w e' hf=>?_
     obtain⟨HD,hN5s,Ho,e,B2,B3,B4,B7,B12⟩:=up9 e' HD hN5s Ho e B2 B3 B4 B7 B12
     refine aO T5 hf rfl rfl (rfl) B12 (by simp) fun w hg hsz B12 hf=>?_
     replace HD:=Dv.grN HD hg (fun bb hb=>nV bb (by cases hb;omega))
     obtain⟨hN5s,e,B2,B3,B4,B7⟩:=gr6 hg hN5s e B2 B3 B4 B7
     replace Ho:=Ho.grE hg n12
     refine aa ?_
     rw[if_pos hb]
     replace hf:=hf.kp [2,3,4,7,10,11,12]
     exact⟨rfl,hf,e,B2,B3,B4,B7,HD,B12,Ho,hN5s⟩
    ·refine aj ?_
     rw[if_neg (aR hb)]
     replace hf:=hf.kp [2,3,4,7,10,11,12]
     exact⟨rfl,hf,e,B2,B3,B4,B7,HD,B12,Ho,hN5s⟩
   obtain⟨hf,e,B2,B3,B4,B7,HD,B12,Ho,hN5s⟩:=hJ
   repeat refine seq ?_
   refine rgN 8 hf <| st (mv rfl) <| st (mv rfl) <| st (eql rfl rfl) <| st (mv rfl) <| sgE rfl rfl (.k 3 rfl .n) (fun hgd=>fA aQ rfl T3 rfl) <| sgE rfl rfl (.c 169 rfl (fun h=>h) .n) (fun hgd=>ld1 T3 rfl B3 rfl) <| sgE rfl rfl (.c 170 rfl (fun h=>h) .n) (fun hgd=>eql rfl rfl) <| st (bF rfl rfl (fun h=>by rw[h];rfl)) ?_
   refine en fun a w e' hf=>?_
   obtain⟨HD,hN5s,Ho,e,B2,B3,B4,B7,B12⟩:=up9 e' HD hN5s Ho e B2 B3 B4 B7 B12
   refine aa <| cut (J:=fun a w=>Fr 183 a w [(2,E (.pointer (some ⟨b2,0,none⟩))),(3,E (.pointer (some ⟨b3,0,none⟩))),(4,E (.pointer (some ⟨b4,0,none⟩))),(7,E (.pointer (some ⟨b7,0,none⟩))),(10,E (I at')),(11,E (I k)),(12,E (.pointer (some ⟨b12,0,none⟩)))]∧Ext W w∧Blk w b2 #[.slice a1 n1 c1,.slice a2 n2 c2] 25∧Blk w b3 (dtV d).cells 143∧Blk w b4 #[.slice none 0 0,.slice none 0 0] 25∧Blk w b7 #[.slice av nv cv,u] 25∧(Dv (slE vtE) NV (g.1.filterMap (keepV d))).p (.slice av nv cv) w∧Blk w b12 #[.int .i64 y.1.1,.int .i64 y.1.2,.int .u8 (if ((k:Int)==at'&&d.1==6)=true then d.2.2.2.1 else y.2.1),.int .i64 (if ((k:Int)==at'&&d.1==7)=true then d.2.2.2.2 else y.2.2)] 51∧OwR etE 51 N5 G w (bV d at' 0 (g.2.take k)) u∧N5≤w.heap.size) ?_ (fun a w hJ=>?_)
   ·repeat refine seq ?_
    refine ifc hf rfl (fun hb=>?_) (fun hb=>?_)
    ·replace hf:=hf.kp [2,3,4,7,10,11,12]
     refine rgN 3 hf <| st (fA aQ rfl T3 rfl) <| st (ld1 T3 rfl B3 rfl) <| st (fA U51 rfl T3 rfl) <| en fun a w e' hf=>?_
     obtain⟨HD,hN5s,Ho,e,B2,B3,B4,B7,B12⟩:=up9 e' HD hN5s Ho e B2 B3 B4 B7 B12
     refine aO T3 hf rfl rfl (rfl) B12 (by simp) fun w hg hsz B12 hf=>?_
     replace HD:=Dv.grN HD hg (fun bb hb=>nV bb (by cases hb;omega))
     obtain⟨hN5s,e,B2,B3,B4,B7⟩:=gr6 hg hN5s e B2 B3 B4 B7
     replace Ho:=Ho.grE hg n12
     refine aa ?_
     rw[if_pos hb]
     replace hf:=hf.kp [2,3,4,7,10,11,12]
     exact⟨rfl,hf,e,B2,B3,B4,B7,HD,B12,Ho,hN5s⟩
    ·refine aj ?_
     rw[if_neg (aR hb)]
     replace hf:=hf.kp [2,3,4,7,10,11,12]
     exact⟨rfl,hf,e,B2,B3,B4,B7,HD,B12,Ho,hN5s⟩
   obtain⟨hf,e,B2,B3,B4,B7,HD,B12,Ho,hN5s⟩:=hJ
   rw[dm,if_neg hkv] at hs
   obtain⟨y',hy'⟩:∃y':ET,y'=(y.1,(if ((k:Int)==at'&&d.1==6)=true then d.2.2.2.1 else y.2.1),(if ((k:Int)==at'&&d.1==7)=true then d.2.2.2.2 else y.2.2)):=⟨_,rfl⟩
   replace B12:Blk w b12 (etV y').cells 51:=by rw[hy'];exact B12
   rw[← hy'] at hs
   have n2:=Ho.neLt (b:=b2) (by omega);have n3:=Ho.neLt (b:=b3) (by omega);have n4:=Ho.neLt (b:=b4) (by omega);have n7:=Ho.neLt (b:=b7) (by omega)
   refine rgN 4 hf <| st (fA U25 rfl T23 rfl) <| st ((ld1 T23 rfl (by assumption) rfl).eq ((rfl:_=u))) <| st ((ldW T51 rfl B12 rfl).eq ((rfl:_=etV y'))) <| st (aX U23 I51 rfl (by decide) rfl Ho.avs (dq rfl)) <| en fun a w e' hf=>?_
   obtain⟨HD,hN5s,Ho,e,B2,B3,B4,B7,B12⟩:=up9 e' HD hN5s Ho e B2 B3 B4 B7 B12
   haveI hin:∀G0,InR (GB W G0) _:=OwR.inGB (W:=W) Ho (by omega)
   refine bG U23 I51 rfl rfl hf (by decide) rfl Ho (isR rfl) (by simp only[List.length_singleton];omega) (by simp only[List.length_singleton,maxLen];omega) fun a v w hg hat Hn hf=>?_
   replace e:=e.gro hg (Ho.row (W:=W) (by omega))
   have hrow:=Ho.row (W:=W) (by omega)
   replace HD:=Dv.grN HD hg (fun bb hb=>nV bb (.inr (Ho.lt hb).1))
   replace hN5s:=Nat.le_trans hN5s hg.size
   replace Ho:=Hn
   replace B2:=B2.gro hg (by assumption)
   replace B3:=B3.gro hg (by assumption)
   replace B4:=B4.gro hg (by assumption)
   replace B7:=B7.gro hg (by assumption)
   replace B12:=B12.gro hg (by assumption)
   replace Ho:=Hn;clear Hn hg hat hin
   replace hf:=hf.kp [2,3,4,7,10,11,180]
   refine tP hf (fA U25 rfl T23 rfl) fun a w e' hf=>?_
   obtain⟨HD,hN5s,Ho,e,B2,B3,B4,B7⟩:=up8 e' HD hN5s Ho e B2 B3 B4 B7
   refine aO T23 hf rfl rfl (slOne Ho.sl) B7 (by simp) fun w hg hsz B7 hf=>?_
   replace HD:=Dv.grN HD hg (fun bb hb=>nV bb (by cases hb;omega))
   obtain⟨hN5s,e,B2,B3,B4⟩:=gr5 hg hN5s e B2 B3 B4
   replace Ho:=Ho.grE hg (Ho.neLt (by omega))
   refine aa <| rgN 2 hf <| st (mv rfl) <| st ((add rfl rfl (by omega)).eq (iN k)) <| en fun a w e' hf=>?_
   obtain⟨HD,hN5s,Ho,e,B2,B3,B4,B7⟩:=up8 e' HD hN5s Ho e B2 B3 B4 B7
   refine tA hf rfl fun a hf=>aa ?_
   replace hf:=hf.kp [2,3,4,7,10,11]
   refine⟨_,?_,k+1,v,rfl,by omega,hf,e,?_⟩
   ·omega
   exact⟨B2,B3,B4,B7,HD,by rw[hs];exact Ho,hN5s⟩
  ·obtain rfl:=dnE hc hk
   rw[List.take_length] at Ho
   replace hf:=hf.kp [4,7]
   refine seq <| rgN 1 hf <| st ((ldW T25 rfl (by assumption) rfl).eq ((rfl:_=Value.agg #[.slice av nv cv,u]))) <| en fun a w e' hf=>?_
   obtain⟨HD,hN5s,Ho,e,B2,B3,B4,B7⟩:=up8 e' HD hN5s Ho e B2 B3 B4 B7
   haveI hinr:∀G0,InR (GB W G0) (some b4):=fun G0=>InR.gb (by omega)
   refine aF T25 hf rfl rfl (bK rfl (slOne Ho.sl)) B4 rfl (rfl) fun w hg hsz B4 hf=>?_
   replace HD:=Dv.grN HD hg (fun bb hb=>nV bb (by cases hb;omega))
   obtain⟨hN5s,e,B2,B3,B7⟩:=gr5 hg hN5s e B2 B3 B7
   replace Ho:=Ho.grE hg (Ho.neLt (by omega))
   refine tA hf rfl fun a hf=>aa <| ak (fM rfl T25 hf rfl rfl B4 rfl ?_)
   rintro _ rfl
   exact⟨_,rfl,e,fin _ _ _ _ e (Dv.gt.2 ⟨_,_,rfl,Dv.weak HD fun b _ hb=>hNG b hb,Ho.sl⟩) hdo⟩
def stepB:Option GT→DT→Option GT
 | none,_=>none
 | some g,d=>if bR g d=0 then some (doP g d) else none
def ef (V:List VT)(E:List ET):Option GT:=(E.map dE).foldl stepB ((V.map dV).foldl stepB (some ([],[])))
theorem qD (l:List DT):l.foldl stepB none=none:=by induction l with
 | nil=>rfl
 | cons d r ih=>exact ih
theorem iH {l:List DT}{k:Nat}{d:DT}(s:Option GT)(h:l[k]?=some d):(l.take (k+1)).foldl stepB s=stepB ((l.take k).foldl stepB s) d:=by
 rw[eG h,List.foldl_append];rfl
theorem qE {l:List DT}{k:Nat}{d:DT}(s:Option GT)(h:l[k]?=some d)(hn:stepB ((l.take k).foldl stepB s) d=none):l.foldl stepB s=none:=by
 rw[← List.take_append_drop (k+1) l,List.foldl_append,iH s h,hn,qD]
def okD (d:DT):Prop:=(Lit.int .i64 d.2.1).wf=true∧(Lit.int .i64 d.2.2.1).wf=true∧okT d.2.2.2
theorem bD4 (x:DT):Tryz.prog.built 126 [(0,.int .i64 x.1),(1,.int .i64 x.2.1),(3,.int .u8 x.2.2.2.1),(4,.int .i64 x.2.2.2.2)]=some #[.int .i64 x.1,.int .i64 x.2.1,.int .i64 0,.int .u8 x.2.2.2.1,.int .i64 x.2.2.2.2]:=by kernel_rfl
theorem bD5 (x:DT):Tryz.prog.built 126 [(0,.int .i64 x.1),(1,.int .i64 x.2.1),(2,.int .i64 x.2.2.1),(3,.int .u8 x.2.2.2.1),(4,.int .i64 x.2.2.2.2)]=some #[.int .i64 x.1,.int .i64 x.2.1,.int .i64 x.2.2.1,.int .u8 x.2.2.2.1,.int .i64 x.2.2.2.2]:=by kernel_rfl
def yC (V:List VT)(E:List ET)(W:World)(en:Ending)(w':World):Prop:=
 Ext W w'∧((∃g bg bv be,ef V E=some g∧en=.returned (.tuple #[.pointer (some ⟨bg,0,none⟩),I 0])∧W.heap.size≤bg∧W.heap.size≤bv∧W.heap.size≤be∧GrR w' bg bv be (V.length+E.length) g) ∨
  (∃c:Int,c≠0∧ef V E=none∧en=.returned (.tuple #[.pointer none,I c])))
theorem qF {G:Nat→Prop}(V:List VT)(E':List ET)(v u:Value)(W:World)(h1:(Dv (slE vtE) G V).p v W)(h2:(Dv (slE etE) G E').p u W)(hl1:V.length≤100000)(hl2:E'.length≤100000)(hV:∀x∈V,okD (dV x))(hE:∀x∈E',okD (dE x)) :
  Calls Tryz.prog 40 #[v,u] W (yC V E' W):=by
 refine eN [v,u] [E v,E u] Tryz.func40 Tryz.ntmps40 ?_ fun a hf=>?_
 rotate_left
 dsimp only[params,Nat.reduceAdd] at hf
 rotate_right
 ·exact arg2 rfl rfl
 have e:=Ext.rfl' W
 refine seq <| ac <| tA hf rfl fun a hf=>tA hf rfl fun a hf=>aa <| seq <| ac <| fb (S:=fun b=>False) (F:=fun z w'=>∃bg bv be,z=.pointer (some ⟨bg,0,none⟩)∧W.heap.size≤bg∧W.heap.size≤bv∧W.heap.size≤be∧GrR w' bg bv be 0 ([],[])) hf (by decide) wh (by simp only[List.map_toArray,List.map_nil];exact (yy _).mono fun en w' ⟨bg,bv,be,k1,k2,k3,k4,k5,k6⟩=>⟨_,k1,k2.chg _,bg,bv,be,rfl,Nat.le_trans e.size k3,Nat.le_trans e.size k4,Nat.le_trans e.size k5,k6⟩) fun a z w hc hF hf=>?_
 obtain⟨bg,bv,be,rfl,hbg,hbv,hbe,hg⟩:=hF
 replace e:=e.ch hc (fun b hb=>hb.elim)
 refine tA hf rfl fun a hf=>aa ?_
 refine seq <| seq ?_
 refine rgN 3 hf <| st (mv rfl) <| st (aI U66 (isE rfl (vst e h1))) <| st (mv rfl) <| en fun a w e' hf=>?_
 obtain⟨e,hg⟩:=up2 e' e hg
 refine aa ?_
 replace hf:=hf.kp [1,4,5,6,14,15,16]
 refine blk (aK (fun r0 a w=>∃(k:Nat) (g:GT),r0=V.length - k∧k≤V.length∧Fr 55 a w [(1,E u),(4,E (.pointer none)),(5,E (I 0)),(6,E (.pointer (some ⟨bg,0,none⟩))),(14,E v),(15,E (I (V.length:Nat))),(16,E (I k))]∧Ext W w∧GrR w bg bv be k g∧((V.map dV).take k).foldl stepB (some ([],[]))=some g) V.length ⟨0,([], []),rfl,by omega,hf,e,⟨hg,rfl⟩⟩ ?_)
 rintro r0 a w ⟨k,g,rfl,hk,hf,e,hg,hfd⟩
 refine seq <| rgN 1 hf <| st (lss rfl rfl) <| en fun a w e' hf=>?_
 obtain⟨e,hg⟩:=up2 e' e hg
 refine aa <| seq <| ifc hf rfl (fun hc=>aj ?_) (fun hc=>aH ?_)
 rotate_left
 rotate_left
 ·have hlt:=ltC hc
  replace hf:=hf.keep [1,4,5,6,14,15,16]
  refine seq <| blk ?_
  have hx:=List.getElem?_eq_getElem hlt
  generalize V[k]=x at hx
  have hxd:(V.map dV)[k]?=some (dV x):=by rw[List.getElem?_map,hx];rfl
  have hok:=hV x (List.mem_of_getElem? hx)
  have hk:k<maxLen:=by simp only[maxLen];omega
  replace hf:=hf.keep [1,4,5,6,14,15,16]
  refine seq <| ac <| tP hf (aG U66 S73 (isE rfl (vst e h1)) rfl (by omega) (hx)) fun a w e' hf=>?_
  obtain⟨e,hg⟩:=up2 e' e hg
  refine tP hf (gE T73 (isR rfl)) fun a w e' hf=>?_
  obtain⟨e,hg⟩:=up2 e' e hg
  refine tL I73 hf fun a b8 w e' hb8 hs8 B8 hf=>?_
  have hle8:=Nat.le_trans e.size (Nat.le_of_eq hb8.symm)
  obtain⟨e,hg⟩:=up2 e' e hg
  replace hf:=hf.kp [1,4,5,6,8,14,15,16,19]
  have nb8:bg≠b8∧bv≠b8∧be≠b8:=⟨hg.blk.ne B8 (by decide),hg.vs.neB B8,hg.es.neB B8⟩
  refine aF T73 hf rfl rfl (mo x) B8 rfl rfl fun w hg' hsz B8 hf=>?_
  replace hg:GrR w bg bv be k g:=⟨hg.blk.gr hg' nb8.1,hg.vs.gr hg' (fun h=>nb8.2.1 (by cases h;rfl)),hg.es.gr hg' (fun h=>nb8.2.2 (by cases h;rfl)),hg.ne⟩
  replace e:=e.gr hg' (by omega);clear hg'
  refine aa ?_
  replace hf:=hf.kp [1,4,5,6,8,14,15,16]
  refine seq <| rgN 8 hf <| st (mv rfl) <| st (fA U73 rfl T3 rfl) <| st (ld1 T3 rfl B8 rfl) <| st (fA U73 rfl T5 rfl) <| st (ld1 T5 rfl B8 rfl) <| st (fA U73 rfl T3 rfl) <| st (ld1 T3 rfl B8 rfl) <| st (oY (dV x) rfl (bD4 (dV x)) rfl rfl rfl rfl) <| en fun a w e' hf=>?_
  obtain⟨e,hg,B8⟩:=up3 e' e hg B8
  replace hf:=hf.kp [1,4,5,6,14,15,16,20,27]
  refine fb (S:=fun b=>b=bv∨b=be) (F:=fun z w'=>z=I (bR g (dV x))∧GrR w' bg bv be (k+1) (apP g (dV x))) hf (by decide) pK ?_ fun a z w hc hF hf=>?_
  ·have h9:=qB g (dV x) bg bv be k _ hg hk (.inl rfl) hok.1 hok.2.1 hok.2.2
   have e20:a.eval (.tmp 20)=.pointer (some ⟨bg,0,none⟩):=hf.opd (.tmp 20) _ rfl
   have e27:a.eval (.tmp 27)=dtV (dV x):=hf.opd (.tmp 27) _ rfl
   simp only[List.map_toArray,List.map_cons,List.map_nil,e20,e27]
   exact h9.mono fun en w' ⟨k1,k2,k3⟩=>⟨_,k1,k2,rfl,k3⟩
  obtain⟨rfl,hg⟩:=hF
  replace e:=e.ch hc (fun b hb=>by rcases hb with rfl|rfl <;> assumption)
  replace hf:=hf.kp [1,4,5,6,14,15,16,28]
  refine tA hf rfl fun a hf=>aa <| seq <| rgN 2 hf <| st (mv rfl) <| st (neq rfl rfl) <| en fun a w e' hf=>?_
  obtain⟨e,hg⟩:=up2 e' e hg
  refine aa ?_
  have hft:=iH (some ([],[])) hxd
  rw[hfd] at hft
  refine ifc hf rfl (fun hb=>?_) (fun hb=>?_)
  ·have hb':¬bR g (dV x)=0:=by simpa using hb
   have hst:stepB (((V.map dV).take k).foldl stepB (some ([],[]))) (dV x)=none:=by rw[hfd,stepB,if_neg hb']
   refine seq <| rgN 1 hf <| st (mv rfl) <| en fun a w e' hf=>?_
   obtain⟨e,hg⟩:=up2 e' e hg
   refine tA hf rfl fun a hf=>tA hf rfl fun a hf=>aa <| ak <| gx rfl hf rfl rfl ?_
   rintro _ _ rfl rfl
   exact⟨e,.inr ⟨_,hb',by rw[ef,qE _ hxd hst,qD],rfl⟩⟩
  ·have hb':bR g (dV x)=0:=by simpa using hb
   refine aj ?_
   rw[stepB,if_pos hb'] at hft
   rw[apP,if_pos hb'] at hg
   refine rgN 1 hf <| st ((add rfl rfl (by omega)).eq (iN k)) <| en fun a w e' hf=>?_
   obtain⟨e,hg⟩:=up2 e' e hg
   refine tP hf (mv rfl) fun a w e' hf=>?_
   obtain⟨e,hg⟩:=up2 e' e hg
   refine aa ?_
   replace hf:=hf.keep [1,4,5,6,14,15,16]
   refine⟨_,?_,k+1,doP g (dV x),rfl,by omega,hf,e,?_⟩
   ·omega
   exact⟨hg,hft⟩
 ·obtain rfl:=dnE hc hk
  rw[List.take_of_length_le (by simp)] at hfd
  refine seq <| seq ?_
  refine rgN 3 hf <| st (mv rfl) <| st (aI U61 (isE rfl (vst e h2))) <| st (mv rfl) <| en fun a w e' hf=>?_
  obtain⟨e,hg⟩:=up2 e' e hg
  refine aa ?_
  replace hf:=hf.keep [4,5,6,33,34,35]
  refine blk (aK (fun r0 a w=>∃(k:Nat) (g:GT),r0=E'.length - k∧k≤E'.length∧Fr 55 a w [(4,E (.pointer none)),(5,E (I 0)),(6,E (.pointer (some ⟨bg,0,none⟩))),(33,E u),(34,E (I (E'.length:Nat))),(35,E (I k))]∧Ext W w∧GrR w bg bv be (V.length+k) g∧((E'.map dE).take k).foldl stepB ((V.map dV).foldl stepB (some ([],[])))=some g) E'.length ⟨0,g,rfl,by omega,hf,e,⟨hg,hfd⟩⟩ ?_)
  rintro r0 a w ⟨k,g,rfl,hk,hf,e,hg,hfd⟩
  refine seq <| rgN 1 hf <| st (lss rfl rfl) <| en fun a w e' hf=>?_
  obtain⟨e,hg⟩:=up2 e' e hg
  refine aa <| seq <| ifc hf rfl (fun hc=>aj ?_) (fun hc=>aH ?_)
  rotate_left
  rotate_left
  ·have hlt:=ltC hc
   replace hf:=hf.keep [4,5,6,33,34,35]
   refine seq <| blk ?_
   have hx:=List.getElem?_eq_getElem hlt
   generalize E'[k]=x at hx
   have hxd:(E'.map dE)[k]?=some (dE x):=by rw[List.getElem?_map,hx];rfl
   have hok:=hE x (List.mem_of_getElem? hx)
   have hk':V.length+k<maxLen:=by simp only[maxLen];omega
   replace hf:=hf.keep [4,5,6,33,34,35]
   refine seq <| ac <| tP hf (aG U61 S62 (isE rfl (vst e h2)) rfl (by omega) (hx)) fun a w e' hf=>?_
   obtain⟨e,hg⟩:=up2 e' e hg
   refine tP hf (fN T62 (isR rfl)) fun a w e' hf=>?_
   obtain⟨e,hg⟩:=up2 e' e hg
   refine tL I62 hf fun a b11 w e' hb11 hs11 B11 hf=>?_
   have hle11:=Nat.le_trans e.size (Nat.le_of_eq hb11.symm)
   obtain⟨e,hg⟩:=up2 e' e hg
   replace hf:=hf.kp [4,5,6,11,33,34,35,38]
   have nb8:bg≠b11∧bv≠b11∧be≠b11:=⟨hg.blk.ne B11 (by decide),hg.vs.neB B11,hg.es.neB B11⟩
   refine aF T62 hf rfl rfl (jM x) B11 rfl rfl fun w hg' hsz B11 hf=>?_
   replace hg:GrR w bg bv be (V.length+k) g:=⟨hg.blk.gr hg' nb8.1,hg.vs.gr hg' (fun h=>nb8.2.1 (by cases h;rfl)),hg.es.gr hg' (fun h=>nb8.2.2 (by cases h;rfl)),hg.ne⟩
   replace e:=e.gr hg' (by omega);clear hg'
   refine aa ?_
   replace hf:=hf.kp [4,5,6,11,33,34,35]
   refine seq <| rgN 10 hf <| st (mv rfl) <| st (fA U62 rfl T3 rfl) <| st (ld1 T3 rfl B11 rfl) <| st (fA U62 rfl T3 rfl) <| st (ld1 T3 rfl B11 rfl) <| st (fA U62 rfl T5 rfl) <| st (ld1 T5 rfl B11 rfl) <| st (fA U62 rfl T3 rfl) <| st (ld1 T3 rfl B11 rfl) <| st (oZ (dE x) (bD5 (dE x)) rfl rfl rfl rfl rfl) <| en fun a w e' hf=>?_
   obtain⟨e,hg,B11⟩:=up3 e' e hg B11
   replace hf:=hf.kp [4,5,6,33,34,35,39,48]
   refine fb (S:=fun b=>b=bv∨b=be) (F:=fun z w'=>z=I (bR g (dE x))∧GrR w' bg bv be (V.length+k+1) (apP g (dE x))) hf (by decide) pK ?_ fun a z w hc hF hf=>?_
   ·have h9:=qB g (dE x) bg bv be (V.length+k) _ hg hk' (.inr (.inl rfl)) hok.1 hok.2.1 hok.2.2
    have e20:a.eval (.tmp 39)=.pointer (some ⟨bg,0,none⟩):=hf.opd (.tmp 39) _ rfl
    have e27:a.eval (.tmp 48)=dtV (dE x):=hf.opd (.tmp 48) _ rfl
    simp only[List.map_toArray,List.map_cons,List.map_nil,e20,e27]
    exact h9.mono fun en w' ⟨k1,k2,k3⟩=>⟨_,k1,k2,rfl,k3⟩
   obtain⟨rfl,hg⟩:=hF
   replace e:=e.ch hc (fun b hb=>by rcases hb with rfl|rfl <;> assumption)
   replace hf:=hf.kp [4,5,6,33,34,35,49]
   refine tA hf rfl fun a hf=>aa <| seq <| rgN 2 hf <| st (mv rfl) <| st (neq rfl rfl) <| en fun a w e' hf=>?_
   obtain⟨e,hg⟩:=up2 e' e hg
   refine aa ?_
   have hft:=iH ((V.map dV).foldl stepB (some ([],[]))) hxd
   rw[hfd] at hft
   refine ifc hf rfl (fun hb=>?_) (fun hb=>?_)
   ·have hb':¬bR g (dE x)=0:=by simpa using hb
    have hst:stepB (((E'.map dE).take k).foldl stepB ((V.map dV).foldl stepB (some ([],[])))) (dE x)=none:=by rw[hfd,stepB,if_neg hb']
    refine seq <| rgN 1 hf <| st (mv rfl) <| en fun a w e' hf=>?_
    obtain⟨e,hg⟩:=up2 e' e hg
    refine tA hf rfl fun a hf=>tA hf rfl fun a hf=>aa <| ak <| gx rfl hf rfl rfl ?_
    rintro _ _ rfl rfl
    exact⟨e,.inr ⟨_,hb',by rw[ef,qE _ hxd hst],rfl⟩⟩
   ·have hb':bR g (dE x)=0:=by simpa using hb
    refine aj ?_
    rw[stepB,if_pos hb'] at hft
    rw[apP,if_pos hb'] at hg
    refine rgN 1 hf <| st ((add rfl rfl (by omega)).eq (iN k)) <| en fun a w e' hf=>?_
    obtain⟨e,hg⟩:=up2 e' e hg
    refine tP hf (mv rfl) fun a w e' hf=>?_
    obtain⟨e,hg⟩:=up2 e' e hg
    refine aa ?_
    replace hf:=hf.kp [4,5,6,33,34,35]
    refine⟨_,?_,k+1,doP g (dE x),rfl,by omega,hf,e,?_⟩
    ·omega
    exact⟨hg,hft⟩
  ·obtain rfl:=dnE hc hk
   rw[List.take_of_length_le (by simp)] at hfd
   refine seq <| rgN 1 hf <| st (mv rfl) <| en fun a w e' hf=>?_
   obtain⟨e,hg⟩:=up2 e' e hg
   refine tA hf rfl fun a hf=>tA hf rfl fun a hf=>aa <| ak <| gx rfl hf rfl rfl ?_
   rintro _ _ rfl rfl
   exact⟨e,.inl ⟨g,bg,bv,be,hfd,rfl,hbg,hbv,hbe,hg⟩⟩
theorem mp {γ:Type}(p:γ→Bool)(x:γ)(l:List γ):(bY p x l).length=l.length+1:=by
 have:=congrArg List.length (List.takeWhile_append_dropWhile (p:=fun y => !p y) (l:=l))
 unfold bY
 simp only[List.length_append,List.length_cons] at *
 omega
theorem mr (g:GT)(d:DT):(doR g d).1.1.length≤g.1.length+1∧(doR g d).1.2.length≤g.2.length+1:=by
 unfold doR
 split
 ·simp
 ·split
  ·simp[insV,mp]
  ·split
   ·simp[gD,mp]
   ·have h1:=List.length_filterMap_le (keepV d) g.1
    have h2:=jw d (atE g d) 0 g.2
    simp only[gN]
    omega
theorem Dv.gtOne {G:Nat→Prop}{g:GT}{v:Value}{w:World}(h:(Dv gtE G g).p v w):∃cs,v=.agg cs∧cs.size=2∧cs.all (·.oneCell')=true:=by
 obtain⟨u1,u2,rfl,h1,h2⟩:=Dv.gt.1 h
 exact⟨_,rfl,rfl,bK (slOne h1) (slOne h2)⟩
end Go.Mono
namespace Go.Mono
open Go Go.Gr
theorem jO {γ:Type}(p:γ→Bool)(x:γ)(l:List γ):(bY p x l).Perm (x::l):=by
 unfold bY
 have h:=List.takeWhile_append_dropWhile (p:=fun y => !p y) (l:=l)
 conv=>rhs;rw[← h]
 exact List.perm_middle
theorem mt {γ κ:Type}{lt:κ→κ→Bool}(key:γ→κ)(tr:∀{a b c},lt a b=true→lt b c=true→lt a c=true)(tot:∀{a b},lt a b=false→a≠b→lt b a=true){x:γ} :
  ∀{l:List γ},l.Pairwise (fun a b=>lt (key a) (key b)=true)→(∀y∈l,key x≠key y)→(bY (fun y=>lt (key x) (key y)) x l).Pairwise fun a b=>lt (key a) (key b)=true
 | [],_,_=>by simp[bY]
 | y::r,hl,hx=>by
  obtain⟨l1,l2⟩:=List.pairwise_cons.1 hl
  unfold bY
  by_cases hy:lt (key x) (key y)=true
  ·simp only[List.takeWhile_cons,List.dropWhile_cons,hy,Bool.not_true,Bool.false_eq_true,if_false,List.nil_append]
   refine List.pairwise_cons.2 ⟨fun z hz=>?_,hl⟩
   rcases List.mem_cons.1 hz with rfl|hz
   ·exact hy
   ·exact tr hy (l1 z hz)
  ·have hy':lt (key x) (key y)=false:=by simpa using hy
   have ih:=mt (γ:=γ) (κ:=κ) (lt:=lt) key (@tr) (@tot) (l:=r) l2 fun z hz=>hx z (by simp[hz])
   have hyx:=tot hy' (hx y (by simp))
   simp only[List.takeWhile_cons,List.dropWhile_cons,hy',Bool.not_false,if_true,List.cons_append]
   refine List.pairwise_cons.2 ⟨fun z hz=>?_,ih⟩
   have:=(jO (fun y=>lt (key x) (key y)) x r).mem_iff.1 hz
   rcases List.mem_cons.1 this with rfl|hz'
   ·exact hyx
   ·exact l1 z hz'
theorem yD {l:List VT}{n:Int}(h:dO l n<0):∀y∈l,y.1≠n:=by
 unfold dO at h
 split at h
 ·omega
 ·rename_i hn
  rw[List.findIdx?_eq_none_iff] at hn
  intro y hy
  simpa using hn y hy
theorem qG {l:List VT}{n:Int}(h:¬dO l n<0):inV l n=true:=by
 unfold dO at h
 split at h
 ·rename_i i hi
  obtain⟨h1,h2,_⟩:=List.findIdx?_eq_some_iff_getElem.1 hi
  exact List.any_eq_true.2 ⟨_,List.getElem_mem h1,h2⟩
 ·omega
theorem yE {l:List ET}{m n:Int}(h:cr l m n<0):∀y∈l,y.1≠ends m n:=by
 unfold cr at h
 split at h
 ·omega
 ·rename_i hn
  rw[List.findIdx?_eq_none_iff] at hn
  intro y hy he
  have h2:=hn y hy
  obtain⟨⟨p,q⟩,c⟩:=y
  simp only[ends,Prod.mk.injEq] at he
  simp only[gM] at h2
  by_cases hmn:m≤n
  ·rw[Int.min_eq_left hmn,Int.max_eq_right hmn] at he
   rw[he.1,he.2] at h2;simp at h2
  ·rw[Int.min_eq_right (by omega),Int.max_eq_left (by omega)] at he
   rw[he.1,he.2] at h2;simp at h2
theorem qH {l m:List VT}(h:∀y∈l,∃z∈m,z.1=y.1){n:Int}(hn:inV l n=true):inV m n=true:=by
 obtain⟨y,hy,hyn⟩:=List.any_eq_true.1 hn
 obtain⟨z,hz,hzy⟩:=h y hy
 exact List.any_eq_true.2 ⟨z,hz,by rw[hzy];exact hyn⟩
theorem qI {d:DT}{x y:VT}(h:keepV d x=some y):y.1=x.1:=by
 unfold keepV at h;split at h <;> simp at h;rw[← h]
theorem qJ {d:DT}{a:Int}{i:Nat}{x y:ET}(h:dm d a i x=some y):y.1=x.1:=by
 unfold dm at h;split at h <;> simp at h;rw[← h]
theorem mu {d:DT}{a:Int}:∀{i:Nat} {l:List ET} {y:ET},y∈bV d a i l→∃j,∃x∈l,dm d a j x=some y
 | _,[],y,h=>by simp[bV] at h
 | i,x::r,y,h=>by
  rw[bV,List.mem_append] at h
  rcases h with h|h
  ·exact⟨i,x,by simp,by simpa using h⟩
  ·obtain⟨j,z,hz,hj⟩:=mu h
   exact⟨j,z,by simp[hz],hj⟩
theorem qK {d:DT}{a:Int}:∀{i:Nat} {l:List ET},l.Pairwise (fun p q=>lt2 p.1 q.1=true)→(bV d a i l).Pairwise fun p q=>lt2 p.1 q.1=true
 | _,[],_=>by simp[bV]
 | i,x::r,h=>by
  obtain⟨h1,h2⟩:=List.pairwise_cons.1 h
  rw[bV,List.pairwise_append]
  refine⟨by cases dm d a i x <;> simp,qK h2,fun p hp q hq=>?_⟩
  obtain⟨j,z,hz,hj⟩:=mu hq
  have hp':dm d a i x=some p:=by simpa using hp
  rw[qJ hp',qJ hj];exact h1 z hz
theorem yF {g:GT}(G:Gr.Ok g){d:DT}(hd:0≤d.2.2.2.1∧d.2.2.2.1<256):Gr.Ok (doR g d).1:=by
 unfold doR
 by_cases hw:(cB g d != 0)=true
 ·rw[if_pos hw];exact G
 rw[if_neg hw]
 have hw0:cB g d=0:=by simpa using hw
 unfold cB at hw0
 split at hw0
 ·cases hw0
 rename_i c1
 split at hw0
 ·cases hw0
 rename_i c2
 split at hw0
 ·cases hw0
 rename_i c3
 simp only[Bool.or_eq_true,Bool.and_eq_true,decide_eq_true_eq,not_or,not_and] at c1 c2 c3
 obtain⟨⟨c2a,c2b⟩,c2c⟩:=c2
 by_cases h0:(d.1==0)=true
 ·rw[if_pos h0]
  rw[if_pos h0] at hw0
  have hd0:d.1=0:=by simpa using h0
  split at hw0
  ·cases hw0
  rename_i c4
  have hnot:=yD (l:=g.1) (n:=d.2.1) (by simpa using c4)
  have hp:=jO (fun y:VT=>lt1 d.2.1 y.1) (d.2.1,d.2.2.2) g.1
  have hhv:=c2c (by rw[hd0];decide)
  refine⟨mt (γ:=VT) (κ:=Int) (lt:=lt1) (fun y=>y.1) (fun h k=>oQ h k) (fun h k=>vM h k) (x:=(d.2.1,d.2.2.2)) G.sv fun y hy=>(hnot y hy).symm,G.se,fun y hy=>?_,fun y hy=>?_,G.ne⟩
  ·rcases List.mem_cons.1 (hp.mem_iff.1 hy) with rfl|hy
   ·refine⟨by simp[dj];omega,hd,by simp only[heavy,Bool.or_eq_false_iff,decide_eq_false_iff_not];omega⟩
   ·exact G.rv y hy
  ·obtain⟨k1,k2,k3,k4⟩:=G.re y hy
   have hm:∀z∈g.1,∃z'∈insV g.1 (d.2.1,d.2.2.2),z'.1=z.1:=fun z hz=>⟨z,hp.mem_iff.2 (by simp[hz]),rfl⟩
   exact⟨k1,qH hm k2,qH hm k3,k4⟩
 rw[if_neg h0]
 rw[if_neg h0] at hw0
 split at hw0
 ·cases hw0
 rename_i c5
 simp only[Bool.or_eq_true,Bool.and_eq_true,decide_eq_true_eq,not_or,not_and] at c5
 by_cases h2:(d.1==2)=true
 ·rw[if_pos h2]
  rw[if_pos h2] at hw0
  have hd2:d.1=2:=by simpa using h2
  split at hw0
  ·cases hw0
  rename_i c6
  split at hw0
  ·cases hw0
  rename_i c7
  have hnot:=yE (l:=g.2) (m:=d.2.1) (n:=d.2.2.1) (by simpa using c6)
  have hp:=jO (fun y:ET=>lt2 (ends d.2.1 d.2.2.1) y.1) (ends d.2.1 d.2.2.1,d.2.2.2) g.2
  have hhv:=c2c (by rw[hd2];decide)
  have hne:=c3 (by rw[hd2];decide)
  have hvv:=qG (c5.2 h2)
  have huv:=qG c5.1
  simp only[beq_iff_eq] at hne
  refine⟨G.sv,mt (γ:=ET) (κ:=Int×Int) (lt:=lt2) (fun y=>y.1) (fun h k=>oP h k) (fun h k=>vL h k) (x:=(ends d.2.1 d.2.2.1,d.2.2.2)) G.se fun y hy=>(hnot y hy).symm,G.rv,fun y hy=>?_,?_⟩
  ·rcases List.mem_cons.1 (hp.mem_iff.1 hy) with rfl|hy
   ·refine⟨by simp only[ends];omega,?_,?_,hd,by simp only[heavy,Bool.or_eq_false_iff,decide_eq_false_iff_not];omega⟩
    ·simp only[ends];by_cases hm:d.2.1≤d.2.2.1
     ·rw[Int.min_eq_left hm];exact huv
     ·rw[Int.min_eq_right (by omega)];exact hvv
    ·simp only[ends];by_cases hm:d.2.1≤d.2.2.1
     ·rw[Int.max_eq_right hm];exact hvv
     ·rw[Int.max_eq_left (by omega)];exact huv
   ·exact G.re y hy
  ·simp only[gD,mp]
   have:¬((1024:Int)≤(g.2.length:Nat)):=by simpa using c7
   omega
 rw[if_neg h2]
 have hkeep:∀y∈g.1,d.1≠1∨y.1≠d.2.1→∃z∈g.1.filterMap (keepV d),z.1=y.1:=fun y hy hc=>by
  have hn:¬(y.1==d.2.1&&d.1==1)=true:=by simp only[Bool.and_eq_true,beq_iff_eq];omega
  have hk:∃z,keepV d y=some z∧z.1=y.1:=⟨_,if_neg hn,rfl⟩
  obtain⟨z,hz,hzy⟩:=hk
  exact⟨z,List.mem_filterMap.2 ⟨y,hy,hz⟩,hzy⟩
 refine⟨?_,qK G.se,fun y hy=>?_,fun y hy=>?_,Nat.le_trans (jw _ _ _ _) G.ne⟩
 ·simp only[gN]
  rw[List.pairwise_filterMap]
  exact G.sv.imp fun {a b} h p hp q hq=>by rw[qI hp,qI hq];exact h
 ·obtain⟨x,hx,hxy⟩:=List.mem_filterMap.1 hy
  obtain⟨k1,k2,k3⟩:=G.rv x hx
  unfold keepV at hxy
  split at hxy
  ·cases hxy
  ·simp only[Option.some.injEq] at hxy
   rw[← hxy]
   refine⟨k1,?_,?_⟩
   ·simp only;split
    ·exact hd
    ·exact k2
   ·simp only;split
    ·rename_i h5
     have h5':d.1=5:=by simp only[Bool.and_eq_true,beq_iff_eq] at h5;exact h5.2
     have hhv:=c2c (by rw[h5'];decide)
     simp only[heavy,Bool.or_eq_false_iff,decide_eq_false_iff_not];omega
    ·exact k3
 ·obtain⟨j,x,hx,hxy⟩:=mu hy
  obtain⟨k1,k2,k3,k4,k5⟩:=G.re x hx
  unfold dm at hxy
  split at hxy
  ·cases hxy
  ·rename_i hno
   simp only[Option.some.injEq] at hxy
   have hno':d.1≠1∨(x.1.1≠d.2.1∧x.1.2≠d.2.1):=by
    simp only[Bool.or_eq_true,Bool.and_eq_true,beq_iff_eq,not_or,not_and] at hno
    by_cases h1:d.1=1
    ·exact .inr ⟨fun h=>(hno.1 h1).1 h,fun h=>(hno.1 h1).2 h⟩
    ·exact .inl h1
   have stay:∀n,inV g.1 n=true→(d.1≠1∨n≠d.2.1)→inV (gN g d).1 n=true:=fun n hn hc=>by
    obtain⟨y,hy,hyn⟩:=List.any_eq_true.1 hn
    have hyn':y.1=n:=by simpa using hyn
    obtain⟨z,hz,hzy⟩:=hkeep y hy (by rw[hyn'];exact hc)
    exact List.any_eq_true.2 ⟨z,hz,by rw[hzy];exact hyn⟩
   rw[← hxy]
   refine⟨k1,stay _ k2 (hno'.imp id (·.1)),stay _ k3 (hno'.imp id (·.2)),?_,?_⟩
   ·simp only;split
    ·exact hd
    ·exact k4
   ·simp only;split
    ·rename_i h7
     have h7':d.1=7:=by simp only[Bool.and_eq_true,beq_iff_eq] at h7;exact h7.2
     have hhv:=c2c (by rw[h7'];decide)
     simp only[heavy,Bool.or_eq_false_iff,decide_eq_false_iff_not];omega
    ·exact k5
theorem bP {n:Int}(h1 : -9223372036854775808≤n)(h2:n≤9223372036854775807):(Lit.int .i64 n).wf=true:=by
 have h3:IntKind.i64.min = -9223372036854775808:=by decide
 have h4:IntKind.i64.max=9223372036854775807:=by decide
 simp only[Lit.wf,h3,h4,Bool.and_eq_true,decide_eq_true_eq]
 omega
theorem wf8 {n:Int}(h1:0≤n)(h2:n<256):(Lit.int .u8 n).wf=true:=by
 have h3:IntKind.u8.min=0:=by decide
 have h4:IntKind.u8.max=255:=by decide
 simp only[Lit.wf,h3,h4,Bool.and_eq_true,decide_eq_true_eq]
 omega
theorem gO {n:Int}(h:dj n=true):0≤n∧n<1024:=by simpa[dj] using h
theorem jP {g:GT}(G:Gr.Ok g){n:Int}(h:inV g.1 n=true):0≤n∧n<1024:=by
 obtain⟨y,hy,hyn⟩:=List.any_eq_true.1 h
 have:=gO (G.rv y hy).1
 have hyn':y.1=n:=by simpa using hyn
 rwa [hyn'] at this
theorem qL {n:Int}(h:Gr.heavy n=false) : -1048576≤n∧n≤1048576:=by
 simp only[heavy,Bool.or_eq_false_iff,decide_eq_false_iff_not] at h;omega
theorem yG {g:GT}(G:Gr.Ok g):∀x∈g.1,okD (dV x):=fun x hx=>by
 obtain⟨h1,h2,h3⟩:=G.rv x hx
 have:=gO h1;have:=qL h3
 exact⟨bP (by simp only[dV];omega) (by simp only[dV];omega),bP (by simp only[dV];omega) (by simp only[dV];omega),wf8 h2.1 h2.2,bP (by simp only[dV];omega) (by simp only[dV];omega)⟩
theorem yH {g:GT}(G:Gr.Ok g):∀x∈g.2,okD (dE x):=fun x hx=>by
 obtain⟨h1,h2,h3,h4,h5⟩:=G.re x hx
 have:=jP G h2;have:=jP G h3;have:=qL h5
 exact⟨bP (by simp only[dE];omega) (by simp only[dE];omega),bP (by simp only[dE];omega) (by simp only[dE];omega),wf8 h4.1 h4.2,bP (by simp only[dE];omega) (by simp only[dE];omega)⟩
theorem qM {g h:GT}(h1:g.1.Perm h.1)(h2:g.2.Perm h.2)(d:DT):bR g d=bR h d:=by
 unfold bR tests
 have e1:∀n,inV g.1 n=inV h.1 n:=fun n=>h1.any_eq
 have e2:∀m n,inE g.2 m n=inE h.2 m n:=fun m n=>h2.any_eq
 simp only[e1,e2,h2.length_eq]
theorem qN {α β:Type}[DecidableEq α]{l m:List (α×β)}{k:α}{c:β}(h:l.Perm m)(hk:∀y∈m,y.1≠k):(aV l k c).Perm (m++[(k,c)]):=by
 unfold aV
 have:l.filter (fun p => !decide (p.1=k))=l:=List.filter_eq_self.2 fun p hp=>by simpa using hk p (h.mem_iff.1 hp)
 rw[this]
 exact (h.cons _).trans (List.perm_append_singleton _ _).symm
theorem qO {g:GT}(G:Gr.Ok g):∀i,i≤g.1.length→∃h:GT,((g.1.map dV).take i).foldl stepB (some ([],[]))=some h∧h.1.Perm (g.1.take i)∧h.2=[]
 | 0,_=>⟨([],[]),by simp,by simp,rfl⟩
 | i+1,hi=>by
  obtain⟨h,k1,k2,k3⟩:=qO G i (by omega)
  have hx:=List.getElem?_eq_getElem (show i<g.1.length by omega)
  generalize g.1[i]=x at hx
  have hxd:(g.1.map dV)[i]?=some (dV x):=by rw[List.getElem?_map,hx];rfl
  have hw:=(stepV G hx).1
  have hb:=before G.sv hx
  have hpw:bR h (dV x)=0:=by rw[qM (h:=(g.1.take i,[])) k2 (by rw[k3])];exact hw
  refine⟨doP h (dV x),by rw[iH _ hxd,k1,stepB,if_pos hpw],?_,?_⟩
  ·rw[eG hx]
   show (aV h.1 x.1 x.2).Perm _
   exact qN k2 fun y hy=>(iv (hb y hy)).2
  ·exact k3
theorem qP {g:GT}(G:Gr.Ok g){h0:GT}(p1:h0.1.Perm g.1)(p2:h0.2=[]):∀i,i≤g.2.length→∃h:GT,((g.2.map dE).take i).foldl stepB (some h0)=some h∧h.1.Perm g.1∧h.2.Perm (g.2.take i)
 | 0,_=>⟨h0,by simp,p1,by rw[p2];simp⟩
 | i+1,hi=>by
  obtain⟨h,k1,k2,k3⟩:=qP G p1 p2 i (by omega)
  have hx:=List.getElem?_eq_getElem (show i<g.2.length by omega)
  generalize g.2[i]=x at hx
  have hxd:(g.2.map dE)[i]?=some (dE x):=by rw[List.getElem?_map,hx];rfl
  have hw:=(vN G hx).1
  have hb:=before G.se hx
  have hpw:bR h (dE x)=0:=by rw[qM (h:=(g.1,g.2.take i)) k2 k3];exact hw
  have he:ends x.1.1 x.1.2=x.1:=oR (G.re x (List.mem_of_getElem? hx)).1
  refine⟨doP h (dE x),by rw[iH _ hxd,k1,stepB,if_pos hpw],k2,?_⟩
  rw[eG hx]
  show (aV h.2 (ends x.1.1 x.1.2) x.2).Perm _
  rw[he]
  exact qN k3 fun y hy=>(ir (hb y hy)).2
theorem yI {g:GT}(G:Gr.Ok g):∃g',ef g.1 g.2=some g'∧g'.1.Perm g.1∧g'.2.Perm g.2:=by
 obtain⟨h,k1,k2,k3⟩:=qO G g.1.length (Nat.le_refl _)
 rw[List.take_of_length_le (by simp)] at k1
 rw[List.take_length] at k2
 obtain⟨h',l1,l2,l3⟩:=qP G k2 k3 g.2.length (Nat.le_refl _)
 rw[List.take_of_length_le (by simp)] at l1
 rw[List.take_length] at l3
 exact⟨h',by rw[ef,k1,l1],l2,l3⟩
end Go.Mono
namespace Go.Mono
open Go Go.RowKit Go.Gr
section
variable {P:Program}{α β:Type}[DecidableEq α]{V:KV P α β}{w w':World}{b r n:Nat}{old rest:List (α×β)}
def RgR (V:KV P α β)(w:World)(b r n:Nat)(old rest:List (α×β)):Prop:=
 ∃es left cnt,w.ranges P V.k V.R b r n (.map es) left cnt∧es.Perm ((old++rest).map V.enc)∧(∀p∈old++rest,V.ok p.1∧V.okv p.2)∧(old++rest).Pairwise (fun p q=>p.1≠q.1) ∧
  (∀x,V.ok x→left (V.kl x)=rest.any fun p=>decide (p.1=x))
theorem RgR.map (h:RgR V w b r n old rest):MpR V w b n (old++rest):=by
 obtain⟨es,left,cnt,h1,h2,h3,h4,_⟩:=h
 exact⟨es,h1.owns,h2,h3,h4⟩
theorem RgR.lt (h:RgR V w b r n old rest):b<w.heap.size∧r<w.heap.size∧r≠b:=by
 obtain⟨es,left,cnt,h1,_⟩:=h
 exact⟨h1.owns.lt,h1.lt,h1.ne⟩
theorem RgR.gr (h:RgR V w b r n old rest){row:Option Nat}(hg:w.grownBy w' row)(h1:some b≠row)(h2:some r≠row):RgR V w' b r n old rest:=by
 obtain⟨es,left,cnt,k1,k2⟩:=h
 exact⟨es,left,cnt,k1.kept hg h1 h2,k2⟩
theorem RgR.ext (h:RgR V w b r n old rest)(e:Ext w w'):RgR V w' b r n old rest:=h.gr e.gr0 (by simp) (by simp)
instance:Ug w w' (RgR V w b r n old rest) (RgR V w' b r n old rest):=⟨fun e h=>h.ext e⟩
theorem MpR.range {t:TypeId}{l:List (α×β)}(h:MpR V w b n l)(ht:P.underlying t=some (.map V.k V.e)) :
  ∃w',(Instr.range t (.map (some b))).run P w=.ok (.pointer (some ⟨w.heap.size,0,none⟩)) w'∧RgR V w' b w.heap.size n [] l∧Ext w w'∧w'.heap.size=w.heap.size+1:=by
 obtain⟨es,h1,h2,h3,h4⟩:=h
 obtain⟨w',k1,k2,k3,k4⟩:=h1.range V.K ht
 refine⟨w',k1,⟨es,_,_,k2,h2,h3,h4,fun x hx=>?_⟩,⟨k3.os,k3.tape,k3.output,k3.size,fun b hb=>k3.block b hb (by simp)⟩,k4⟩
 obtain⟨D,h5,h6,_⟩:=MpR.has (V:=V) ⟨es,h1,h2,h3,h4⟩ hx
 show es.any (fun p=>p.1.sameKey (V.kl x))=_
 rw[h2.any_eq,List.any_map,Bool.eq_iff_iff]
 simp only[List.any_eq_true,Function.comp,KV.enc]
 exact⟨fun⟨p,hp,hq⟩=>⟨p,hp,by rwa [V.same hx (h3 p hp).1] at hq⟩,fun⟨p,hp,hq⟩=>⟨p,hp,by rwa [V.same hx (h3 p hp).1]⟩⟩
theorem jQ {γ δ:Type}:∀{m:List (γ×δ)},m.Pairwise (fun p q=>p.1≠q.1)→∀{x:γ} {c c':δ},(x,c)∈m→(x,c')∈m→c=c'
 | [],_,_,_,_,h,_=>by simp at h
 | y::r,hm,x,c,c',h,h'=>by
  obtain⟨h6,h7⟩:=List.pairwise_cons.1 hm
  rcases List.mem_cons.1 h with hy|h1 <;> rcases List.mem_cons.1 h' with hy'|h2
  ·rw[← hy] at hy';exact (congrArg Prod.snd hy').symm
  ·exact absurd rfl (by have:=h6 _ h2;rwa [← hy] at this)
  ·exact absurd rfl (by have:=h6 _ h1;rwa [← hy'] at this)
  ·exact jQ h7 h1 h2
theorem fY:∀{m:List (α×β)},m.Pairwise (fun p q=>p.1≠q.1)→∀{x:α} {c:β},(x,c)∈m→m.Perm ((x,c)::m.filter fun p => !decide (p.1=x))
 | [],_,_,_,h=>by simp at h
 | y::r,hm,x,c,h=>by
  obtain⟨h6,h7⟩:=List.pairwise_cons.1 hm
  rcases List.mem_cons.1 h with hy|h1
  ·subst hy
   rw[List.filter_cons_of_neg (by simp)]
   have:r.filter (fun p => !decide (p.1=x))=r:=List.filter_eq_self.2 fun p hp=>by have:=h6 p hp;simp only[Bool.not_eq_true',decide_eq_false_iff_not];exact fun h=>this h.symm
   rw[this]
  ·have hne:y.1≠x:=fun he=>h6 _ h1 he
   rw[List.filter_cons_of_pos (by simpa using hne)]
   exact ((fY h7 h1).cons y).trans (List.Perm.swap _ _ _)
theorem RgR.next (h:RgR V w b r n old rest)(ty:TypeId) :
  (rest=[]∧(Instr.next (.pointer (some ⟨r,0,none⟩)) false ty).run P w=.ok (.tuple #[.bool false]) w) ∨
  ∃x c w',(x,c)∈rest∧(Instr.next (.pointer (some ⟨r,0,none⟩)) false ty).run P w=.ok (.tuple #[.bool true,V.kv x,V.mv c]) w'∧RgR V w' b r n (old++[(x,c)]) (rest.filter fun p => !decide (p.1=x))∧w.grownBy w' (some r) ∧
   (Instr.entry (.pointer (some ⟨r,0,none⟩))).run P w'=.ok (.tuple #[V.kv x,V.mv c]) w':=by
 obtain⟨es,left,cnt,h1,h2,h3,h4,h5⟩:=h
 have hMp:MpR V w b n (old++rest):=⟨es,h1.owns,h2,h3,h4⟩
 rcases h1.next V.K ty with ⟨h0,hl,hrun⟩|⟨key,v,kl,y,w',cnt',hkey,hlk,hv,hat,hrun,hrg,_,hgr,_,hen⟩
 ·refine .inl ⟨?_,hrun⟩
  cases rest with
  | nil=>rfl
  | cons p s=>
   have:=h5 p.1 (h3 p (by simp)).1
   rw[hl] at this
   simp at this
 ·obtain⟨x,hx,rfl,rfl⟩:=V.keyInv _ _ hkey
  obtain⟨c,hc,rfl,rfl⟩:=V.valInv _ _ hv
  rw[h5 x hx,List.any_eq_true] at hlk
  obtain⟨⟨x',c'⟩,hp,hpx⟩:=hlk
  obtain rfl:x'=x:=by simpa using hpx
  obtain⟨D,k1,k2,k3,_⟩:=hMp.has hx
  have hD:∀z,(DataW.map es).atKey (V.kl x') z=V.dv c':=by
   intro z
   have hm:V.enc (x',c')∈es:=h2.mem_iff.2 (List.mem_map_of_mem (by simp[hp]))
   obtain⟨es',hD',hpw,_⟩:=h1.owns.entries V.K
   cases hD'
   have hcm:(x',c')∈old++rest:=by simp[hp]
   simp only[DataW.atKey]
   cases hf:es.find? (fun p=>p.1.sameKey (V.kl x')) with
   | none=>
    have:=List.find?_eq_none.1 hf _ hm
    simp[KV.enc,WideAt.sameKey_self (V.isKey hx)] at this
   | some q=>
    have hq:=List.mem_of_find?_eq_some hf
    have hq2:=List.find?_some hf
    obtain⟨p,hp2,rfl⟩:=List.mem_map.1 (h2.mem_iff.1 hq)
    have hpx':p.1=x':=by rw[KV.enc,V.same hx (h3 p hp2).1] at hq2;simpa using hq2
    have:p=(x',p.2):=by rw[← hpx']
    rw[this] at hp2
    rw[this,jQ h4 hp2 hcm];rfl
  have hcc:c=c':=V.dvInj _ _ ((hat .nil).symm.trans (hD .nil))
  subst hcc
  have hperm:=fY (List.pairwise_append.1 h4).2.1 hp
  have hp2:(old++rest).Perm (old++[(x',c)]++rest.filter fun p => !decide (p.1=x')):=by
   rw[List.append_assoc];exact (List.Perm.append_left old hperm)
  refine .inr ⟨x',c,w',hp,hrun,⟨es,_,_,hrg,h2.trans (hp2.map _),fun p hp=>h3 p (hp2.mem_iff.2 hp),(hp2.pairwise_iff (fun {_ _} hne=>Ne.symm hne)).1 h4,fun z hz=>?_⟩,hgr,hen⟩
  rw[h5 z hz,V.same hx hz,List.any_filter]
  by_cases hzx:z=x'
  ·subst hzx
   simp only[decide_true,Bool.not_true,Bool.and_false]
   symm
   rw[List.any_eq_false]
   intro p _
   simp
  ·simp only[hzx,decide_false,Bool.not_false,Bool.and_true]
   congr 1
   funext p
   by_cases hpz:p.1=z
   ·simp[hpz,hzx]
   ·simp[hpz]
end
section tail
variable {P:Program}{L:Env}{ty:TypeId}{pos:String}{aft:Array Edge}{ro:Option Nat}{ds:List Deferred}
variable {ops:Array Oper}{rest:List Oper}{Q:Exit→Act→World→Prop}{n:Nat}{a:Act}{w:World}{x y z:Operand}{α β:Type}[DecidableEq α]{V:KV P α β}{d:Nat}
theorem mw {t:TypeId}{b nn:Nat}{l:List (α×β)}(ht:P.underlying t=some (.map V.k V.e))(hf:FrD n ds a w L)(hd:d<n)(hx:opd L x=some (E (.map (some b))))(hM:MpR V w b nn l)
  (k:∀a' r w',Ext w w'→r=w.heap.size→w'.heap.size=r+1→RgR V w' b r nn [] l→FrD n ds a' w' ((d,E (.pointer (some ⟨r,0,none⟩)))::L)→wpListIn (FW ro) 0 P ops Q rest a' w') :
  wpListIn (FW ro) 0 P ops Q (⟨some d,.range t x,ty,pos,aft,none⟩::rest) a w:=
 wpListIn_plain rfl fun K hK=>by
  have hxv:a.eval x=.map (some b):=hf.opd x _ hx
  obtain⟨w',h1,h2,h3,h4⟩:=hM.range ht
  refine OpR.wp (R:=fun v w1=>v=.pointer (some ⟨w.heap.size,0,none⟩)∧w1=w') ?_ ?_
  ·simp only[OpR,execOp,hxv,Sem.run_bind,h1,Result.andThen_ok,Sem.run_pure]
   exact⟨trivial,trivial⟩
  ·rintro v w1 ⟨rfl,rfl⟩
   exact hK _ _ (k _ _ _ h3 rfl h4 h2 (hf.put (d:=some d) h3 (fun k hk=>by cases hk;exact hd) rfl))
theorem my {b r nn:Nat}{old rem:List (α×β)}(hf:FrD n ds a w L)[hL:AvL r L](hd:d<n)(hx:opd L x=some (E (.pointer (some ⟨r,0,none⟩))))(hR:RgR V w b r nn old rem)
  (k0:∀a',rem=[]→FrD n ds a' w ((d,E (.tuple #[.bool false]))::L)→wpListIn (FW ro) 0 P ops Q rest a' w)
  (k1:∀a' w' i c,(i,c)∈rem→w.grownBy w' (some r)→RgR V w' b r nn (old++[(i,c)]) (rem.filter fun p => !decide (p.1=i))→(Instr.entry (.pointer (some ⟨r,0,none⟩))).run P w'=.ok (.tuple #[V.kv i,V.mv c]) w' →
   FrD n ds a' w' ((d,E (.tuple #[.bool true,V.kv i,V.mv c]))::L)→wpListIn (FW ro) 0 P ops Q rest a' w') :
  wpListIn (FW ro) 0 P ops Q (⟨some d,.next x false,ty,pos,aft,none⟩::rest) a w:=
 wpListIn_plain rfl fun K hK=>by
  have hxv:a.eval x=.pointer (some ⟨r,0,none⟩):=hf.opd x _ hx
  rcases hR.next ty with ⟨h0,hrun⟩|⟨i,c,w',hm,hrun,hR',hg,hen⟩
  ·refine OpR.wp (R:=fun v w1=>v=.tuple #[.bool false]∧w1=w) ?_ ?_
   ·simp only[OpR,execOp,hxv,Sem.run_bind,hrun,Result.andThen_ok,Sem.run_pure]
    exact⟨trivial,trivial⟩
   ·rintro v w1 ⟨rfl,rfl⟩
    exact hK _ _ (k0 _ h0 (hf.put (d:=some d) (Ext.rfl' _) (fun k hk=>by cases hk;exact hd) rfl))
  ·refine OpR.wp (R:=fun v w1=>v=.tuple #[.bool true,V.kv i,V.mv c]∧w1=w') ?_ ?_
   ·simp only[OpR,execOp,hxv,Sem.run_bind,hrun,Result.andThen_ok,Sem.run_pure]
    exact⟨trivial,trivial⟩
   ·rintro v w1 ⟨rfl,rfl⟩
    exact hK _ _ (k1 _ _ _ _ hm hg hR' hen ((hf.gr hg).put (d:=some d) (Ext.rfl' _) (fun k hk=>by cases hk;exact hd) rfl))
theorem mz {r:Nat}{u:Value}(hf:FrD n ds a w L)(hd:d<n)(hx:opd L x=some (E (.pointer (some ⟨r,0,none⟩))))(hen:(Instr.entry (.pointer (some ⟨r,0,none⟩))).run P w=.ok u w)
  (k:∀a',FrD n ds a' w ((d,E u)::L)→wpListIn (FW ro) 0 P ops Q rest a' w) :
  wpListIn (FW ro) 0 P ops Q (⟨some d,.entry x,ty,pos,aft,none⟩::rest) a w:=
 wpListIn_plain rfl fun K hK=>by
  have hxv:a.eval x=.pointer (some ⟨r,0,none⟩):=hf.opd x _ hx
  refine OpR.wp (R:=fun v w1=>v=u∧w1=w) ?_ ?_
  ·simp only[OpR,execOp,hxv,Sem.run_bind,hen,Result.andThen_ok,Sem.run_pure]
   exact⟨trivial,trivial⟩
  ·rintro v w1 ⟨rfl,rfl⟩
   exact hK _ _ (k _ (hf.put (d:=some d) (Ext.rfl' _) (fun k hk=>by cases hk;exact hd) rfl))
theorem dy {vs:Array Value}{i:Nat}{u:Value}(hf:FrD n ds a w L)(hd:d<n)(hx:opd L x=some (E (.tuple vs)))(hi:vs[i]?=some u)
  (k:∀a',FrD n ds a' w ((d,E u)::L)→wpListIn (FW ro) 0 P ops Q rest a' w) :
  wpListIn (FW ro) 0 P ops Q (⟨some d,.extract x i,ty,pos,aft,none⟩::rest) a w:=
 wpListIn_plain rfl fun K hK=>by
  have hxv:a.eval x=.tuple vs:=hf.opd x _ hx
  refine OpR.wp (R:=fun v w1=>v=u∧w1=w) ?_ ?_
  ·simp[OpR,execOp,hxv,Instr.extract,part,hi]
  ·rintro v w1 ⟨rfl,rfl⟩
   exact hK _ _ (k _ (hf.put (d:=some d) (Ext.rfl' _) (fun k hk=>by cases hk;exact hd) rfl))
end tail
end Go.Mono
namespace Go.Mono
open Go Go.Proofs Go.RowKit Go.Gr

def fZ (S:BS):DataW Unit:=.lit (.int .i64 (S.toNat:Int))
theorem yJ {S S':BS}(h:fZ S=fZ S'):S=S':=by
 unfold fZ at h
 injection h with h
 injection h with _ h
 exact BitVec.eq_of_toNat_eq (by omega)
theorem yK {S S':BS}(h:ae S=ae S'):S=S':=ox (by injection h)
open Classical in
noncomputable def iI (v:Value):Option (DataW Unit×List MemPlace):=if h:∃S,v=ae S then some (fZ (Classical.choose h),[]) else none
theorem yL (S:BS):iI (ae S)=some (fZ S,[]):=by
 have h:∃S',ae S=ae S':=⟨S,rfl⟩
 unfold iI
 rw[dif_pos h,← yK (Classical.choose_spec h)]
theorem yM {v:Value}{y:DataW Unit×List MemPlace}(h:iI v=some y):∃S,True∧v=ae S∧y=(fZ S,[]):=by
 unfold iI at h
 split at h
 ·rename_i hx;cases h;exact⟨_,trivial,Classical.choose_spec hx,rfl⟩
 ·cases h
noncomputable def sKV:KV Tryz.prog Int BS where
 k:=3
 e:=76
 kv:=fun x=>.int .i64 x
 kl:=fun x=>.int .i64 x
 ok:=fun x=>(Lit.int .i64 x).wf=true
 mv:=ae
 dv:=fZ
 okv:=fun _=>True
 R:=iI
 K:=Maps.int_keyed U3
 key:=fun x hx=>Maps.keyOf_int_mk U3 hx
 keyInv:=fun v l h=>by obtain⟨x,h1,h2,h3⟩:=Maps.keyOf_int_inv U3 h;exact⟨x,h3,h1,h2⟩
 kvInj:=fun x y h=>by cases h;rfl
 val:=fun c _=>yL c
 valInv:=fun v y h=>yM h
 dvInj:=fun c c' h=>yJ h
end Go.Mono
namespace Go.Mono
open Go Go.Proofs Go.RowKit

abbrev yN:Enc (Int×BS):=prE intE aP
def toB (b:Int×BS):RB:=(b.1,toL b.2)
def bg (t:List (Int×BS))(i:Nat):Int×BS:=match t[i]? with
 | some b=>b
 | none=>(0,0)

def yO (b:Int×BS):Array Value:=(Value.int .i64 b.1::(aJ b.2).toList).toArray
abbrev yP (b:Int×BS):Value:=.agg (yO b)
section
variable {P:Program}{w0:World}{L:Env}{dst:Option Tmp}{ty:TypeId}{pos:String}{aft:Array Edge}{g:Option (Nat×Bool)}{t:TypeId}{x:Operand}{G:Nat→Prop}{b:Int×BS}
theorem Dv.bag {v:Value}{w:World}:(Dv yN G b).p v w↔v=yP b:=by
 constructor
 ·rintro⟨cs,⟨c,d,h,h1,h2⟩,hv⟩
  cases h1;cases h2;subst h
  exact hv
 ·rintro rfl
  exact⟨_,⟨_,_,rfl,rfl,rfl⟩,rfl⟩
end

def hgt (ks:Nat→List Nat):Nat→Nat→Prop
 | 0,b=>ks b=[]
 | f+1,b=>∀k∈ks b,hgt ks f k
end Go.Mono
namespace Go.Mono

def pre (ks:Nat→List Nat):Nat→Nat→List Nat
 | 0,b=>[b]
 | f+1,b=>b::(ks b).flatMap (pre ks f)
def upN (t:List (Int×BS))(i:Nat):Option Nat:=if (bg t i).1<0 then none else some (bg t i).1.toNat
def it (t:List (Int×BS)):Nat→Nat→Option Nat
 | 0,i=>some i
 | d+1,i=>(it t d i).bind (upN t)
end Go.Mono
namespace Go.Mono
open Go Go.RowKit
theorem OwR.groE {α:Type}{e:Enc α}[FlE e]{ty:TypeId}{B:Nat}{G:Nat→Prop}{w w':World}{xs:List α}{v:Value}{row:Option Nat}(h:OwR e ty B G w xs v)(hg:w.grownBy w' row)(hne:∀b,v.ownBlock=some b→row≠some b):OwR e ty B G w' xs v:=
 h.chE (S:=fun b=>row=some b) ⟨hg.os,hg.tape,hg.output,hg.size,fun b hb hn=>hg.block b hb fun h=>hn h.symm⟩ hne
structure FlF {α:Type}(e:Enc α)(f:α→List Value):Prop where
 r:∀G w x cs,e.r G w x cs↔cs=f x
 len:∀x,(f x).length=e.k
def intF (n:Int):List Value:=[.int .i64 n]
theorem intFF:FlF intE intF:=⟨fun _ _ _ _=>Iff.rfl,fun _=>rfl⟩
def edF (x:Int×Int):List Value:=[.int .i64 x.1,.int .i64 x.2]
theorem mA:FlF edE edF:=⟨fun G w x cs=>⟨fun⟨c,d,h,h1,h2⟩=>by cases h1;cases h2;exact h,fun h=>⟨_,_,h,rfl,rfl⟩⟩,fun _=>rfl⟩
section
variable {α:Type}{e:Enc α}{f:α→List Value}{te:TypeId}{N n cap b:Nat}{cur:Array Value}{w w':World}{G:Nat→Prop}{xs:List α}{v:Value}
theorem FlF.cells (F:FlF e f):∀(xs:List α) (cs:List Value),Cells e G w xs cs↔cs=xs.flatMap f
 | [],cs=>by simp[Cells]
 | x::xs,cs=>by
  constructor
  ·rintro⟨c,d,rfl,h1,h2⟩
   rw[(F.r _ _ _ _).1 h1,(F.cells xs d).1 h2,List.flatMap_cons]
  ·intro h
   exact⟨f x,xs.flatMap f,by rw[h,List.flatMap_cons],(F.r _ _ _ _).2 rfl,(F.cells xs _).2 rfl⟩
theorem FlF.flen (F:FlF e f):∀xs:List α,(xs.flatMap f).length=xs.length * e.k
 | []=>by simp
 | x::r=>by rw[List.flatMap_cons,List.length_append,F.len,F.flen r,List.length_cons,Nat.succ_mul];omega
structure RwR (k:Nat)(te:TypeId)(N cap b:Nat)(cur:Array Value)(w:World):Prop where
 bl:Blk w b cur te
 lo:N≤b
 sz:cur.size=cap * k
 mx:cap≤maxLen
theorem RwR.ext {k:Nat}(h:RwR k te N cap b cur w)(e':Ext w w'):RwR k te N cap b cur w':=⟨h.bl.ext e',h.lo,h.sz,h.mx⟩
instance {k:Nat}:Ug w w' (RwR k te N cap b cur w) (RwR k te N cap b cur w'):=⟨fun e h=>h.ext e⟩
theorem RwR.gr {k d:Nat}(h:RwR k te N cap b cur w)(hg:w.grownBy w' (some d))(hne:b≠d):RwR k te N cap b cur w':=⟨h.bl.gr hg hne,h.lo,h.sz,h.mx⟩
theorem OwR.rw (h:OwR e te N G w xs v)(F:FlF e f):(v=.slice none 0 0∧xs=[])∨∃b cap cur,v=.slice (some ⟨b,0,none⟩) xs.length cap∧xs.length≤cap∧RwR e.k te N cap b cur w∧cur.toList.take (xs.length * e.k)=xs.flatMap f:=by
 obtain⟨cs,⟨hlen,hv⟩,hcs⟩:=h.own
 rw[F.cells] at hcs
 subst hcs
 rcases hv with ⟨rfl,hn⟩|⟨g0,cap,cur,rfl,hB,hheap,hcap,hmax,hcur,htake⟩
 ·exact .inl ⟨rfl,List.length_eq_zero_iff.1 hn⟩
 ·exact .inr ⟨g0,cap,cur,rfl,hcap,⟨hheap,hB,hcur,hmax⟩,htake⟩
theorem RwR.own (h:RwR e.k te N cap b cur w)(F:FlF e f)(hn:xs.length≤cap)(ht:cur.toList.take (xs.length * e.k)=xs.flatMap f)(hG:∀b,G b→b<N):OwR e te N G w xs (.slice (some ⟨b,0,none⟩) xs.length cap):=
 ⟨⟨xs.flatMap f,⟨F.flen xs,.inr ⟨b,cap,cur,rfl,h.lo,h.bl,hn,h.mx,h.sz,ht⟩⟩,(F.cells _ _).2 rfl⟩,hG,Nat.le_trans h.lo (Nat.le_of_lt h.bl.lt)⟩
end
section
variable {α:Type}{f:α→List Value}{k:Nat}
theorem jR (hk:∀x,(f x).length=k):∀(xs:List α) (i:Nat),(xs.flatMap f).take (i * k)=(xs.take i).flatMap f
 | [],i=>by simp
 | x::r,0=>by simp
 | x::r,i+1=>by
  rw[List.flatMap_cons,List.take_succ_cons,List.flatMap_cons,Nat.succ_mul,List.take_append,hk,List.take_of_length_le (by rw[hk];omega),show i * k+k - k=i * k by omega,jR hk r i]
theorem jS (hk:∀x,(f x).length=k):∀(xs:List α) (i:Nat),(xs.flatMap f).drop (i * k)=(xs.drop i).flatMap f
 | [],i=>by simp
 | x::r,0=>by simp
 | x::r,i+1=>by
  rw[List.flatMap_cons,List.drop_succ_cons,Nat.succ_mul,List.drop_append,hk,show i * k+k - k=i * k by omega,jS hk r i,List.drop_of_length_le (by rw[hk];omega),List.nil_append]
theorem qQ (hk:∀x,(f x).length=k){cur:List Value}{xs:List α}{j m:Nat}{x:α}(h:(cur.drop (j * k)).take (m * k)=(xs.drop j).flatMap f)(hx:xs[j]?=some x)(hm:0<m):(cur.drop (j * k)).take k=f x:=by
 have h1:xs.drop j=x::xs.drop (j+1):=by
  obtain⟨hj,he⟩:=List.getElem?_eq_some_iff.1 hx
  rw[← he,List.getElem_cons_drop]
 rw[h1,List.flatMap_cons] at h
 have h2:((cur.drop (j * k)).take (m * k)).take k=(cur.drop (j * k)).take k:=by
  rw[List.take_take,Nat.min_eq_left (by exact Nat.le_mul_of_pos_left k hm)]
 rw[← h2,h,List.take_append,hk,Nat.sub_self,List.take_zero,List.append_nil,List.take_of_length_le (by rw[hk];exact Nat.le_refl _)]
theorem qR (hk:∀x,(f x).length=k){cur:List Value}{xs:List α}{j m:Nat}(h:(cur.drop (j * k)).take ((m+1) * k)=(xs.drop j).flatMap f):(cur.drop ((j+1) * k)).take (m * k)=(xs.drop (j+1)).flatMap f:=by
 have h1:=congrArg (List.drop (1 * k)) h
 rw[jS hk,List.drop_drop,List.drop_take,List.drop_drop] at h1
 rw[show (m+1) * k - 1 * k=m * k by rw[← Nat.sub_mul];rfl,show j * k+1 * k=(j+1) * k by rw[← Nat.add_mul]] at h1
 exact h1
theorem qS (hk:∀x,(f x).length=k){cur:List Value}{ys:List α}{x:α}(h:cur.take (ys.length * k)=ys.flatMap f)(hs:(ys.length+1) * k≤cur.length):(cur.take (ys.length * k)++f x++cur.drop (ys.length * k+k)).take ((ys.length+1) * k)=(ys++[x]).flatMap f:=by
 have hl:(cur.take (ys.length * k)).length=ys.length * k:=by rw[List.length_take,Nat.min_eq_left (Nat.le_trans (Nat.mul_le_mul_right k (Nat.le_succ _)) hs)]
 rw[List.take_append,List.take_of_length_le (by rw[List.length_append,hl,hk,Nat.succ_mul];exact Nat.le_refl _),List.length_append,hl,hk,Nat.succ_mul,Nat.sub_self,List.take_zero,List.append_nil,h,List.flatMap_append]
 simp
theorem qT (hk:∀x,(f x).length=k){cur:List Value}{i j:Nat}{x:α}(hs:(i+1) * k≤cur.length)(hij:i<j):(cur.take (i * k)++f x++cur.drop (i * k+k)).drop (j * k)=cur.drop (j * k):=by
 have h1:(i+1) * k≤j * k:=Nat.mul_le_mul_right k hij
 rw[Nat.succ_mul] at h1 hs
 have hl:(cur.take (i * k)).length=i * k:=by rw[List.length_take];omega
 rw[List.drop_append,List.length_append,hl,hk,List.drop_of_length_le (by rw[List.length_append,hl,hk];omega),List.nil_append,List.drop_drop]
 congr 1;omega
end
section ops
variable {P:Program}{w0:World}{L:Env}{dst:Option Tmp}{ty:TypeId}{pos:String}{aft:Array Edge}{g:Option (Nat×Bool)}{x y:Operand}{t te:TypeId}
theorem qU {b o n c i s:Nat}(ht:P.underlying t=some (.slice te))(hs:(P.info? te).map (·.size)=some s)(hx:opd L x=some (E (.slice (some ⟨b,o,none⟩) n c)))(hy:opd L y=some (E (.int .i64 (i:Nat))))(hi:i≤n)(hn:i<c) :
  OpC P w0 L ⟨dst,.slice t x (some y) none none,ty,pos,aft,g⟩ (E (.slice (some ⟨b,o+i * s,none⟩) (n - i) (c - i))):=
 aS fun ρ w _ hv=>by
  have h1:=opE hv (x:=x) (by simp[Op.operands]) hx
  have h2:=opE hv (x:=y) (by simp[Op.operands]) hy
  refine⟨_,?_,rfl⟩
  have hi':(0:Int)≤(i:Int)∧(i:Int)≤(n:Int):=by omega
  have hne:¬c=i:=by omega
  simp[execOp,h1,h2,Instr.sliceAt,Instr.slice,Instr.sliceBounds,Instr.sliceBound,asIntOf,run_underlying ht,hi,iq hs,hne,Addr.add_lit]
theorem mB {b o n c i s:Nat}(ht:P.underlying t=some (.slice te))(hs:(P.info? te).map (·.size)=some s)(hx:opd L x=some (E (.slice (some ⟨b,o,none⟩) n c)))(hy:opd L y=some (E (.int .i64 (i:Nat))))(hi:i≤c) :
  OpC P w0 L ⟨dst,.slice t x none (some y) none,ty,pos,aft,g⟩ (E (.slice (some ⟨b,o,none⟩) i c)):=
 aS fun ρ w _ hv=>by
  have h1:=opE hv (x:=x) (by simp[Op.operands]) hx
  have h2:=opE hv (x:=y) (by simp[Op.operands]) hy
  refine⟨_,?_,rfl⟩
  have hi':(0:Int)≤(i:Int)∧(i:Int)≤(c:Int):=by omega
  simp[execOp,h1,h2,Instr.sliceAt,Instr.slice,Instr.sliceBounds,Instr.sliceBound,asIntOf,run_underlying ht,hi,iq hs,Addr.add_lit]
end ops
section
variable {P:Program}{w0:World}{L:Env}{dst:Option Tmp}{ty:TypeId}{pos:String}{aft:Array Edge}{g:Option (Nat×Bool)}{x:Operand}{t:TypeId}{α:Type}{e:Enc α}{z:α}
theorem yQ [FlE e]{B:Nat}{G G0:Nat→Prop}{te:TypeId}{z0:Value}{sz bz:Nat}(ht:P.underlying t=some (.slice te))(hi:(P.info? te).map (fun i=>(i.zero,i.size,i.bytes))=some (some z0,sz,bz))(hk:sz=e.k)(hk2:e.k≤16777216)(hz0:z0.cells.size=e.k)(hx:Is L w0 x (Dv e G0 z))(hB:B≤w0.heap.size)(hG:∀b,G b→b<B) :
  OpC P w0 L ⟨dst,.buildSlice t 1 #[(0,x)],ty,pos,aft,g⟩ (OwA e te B G [z]):=by
 refine⟨fun ρ w he hv=>?_⟩
 obtain⟨c,h1,h1'⟩:=hx.v he hv (by simp[Op.operands])
 obtain⟨it,hit,hiz,hsz,_⟩:=info_parts hi
 subst hk
 have l1:=e.len h1
 have hpos:=e.pos
 have p1:(ρ x).cells=c.toArray:=by rw[h1'];exact e.pack_cells h1
 have hc:∀(c:List Value) (n:Nat) (cells:Array Value),n+c.length=cells.size →
   (c.zipIdx n).foldl (fun cs (p:Value×Nat)=>cs.setIfInBounds (0+p.2) p.1) cells=(cells.toList.take n++c).toArray:=by
  intro c
  induction c with
  | nil=>intro n cells h;simp at h;subst h;rw[← Array.length_toList,List.take_length];simp
  | cons u c ih=>
   intro n cells h
   simp only[List.length_cons] at h
   rw[List.zipIdx_cons,List.foldl_cons,ih (n+1) _ (by simp;omega)]
   simp only[Array.toList_setIfInBounds,Nat.zero_add]
   congr 1
   have hlt:n<cells.toList.length:=by simp;omega
   rw[List.take_succ_eq_append_getElem (by simpa using hlt),List.getElem_set_self,List.take_set_of_le (Nat.le_refl _)]
   simp
 have hr:=run_buildSlice (P:=P) w t te 1 #[(0,ρ x)] c.toArray it z0 ht hit hiz (by rw[hsz];omega) (by rw[hsz];omega) (by
  have n1:¬(0 * e.k+e.k > 1 * e.k):=by omega
  simp only[Instr.fill,p1,List.size_toArray,l1,hsz,ne_eq,not_true_eq_false,decide_false,Bool.false_or,Array.size_map,Array.size_range,n1,Bool.false_eq_true,if_false,lE]
  simp only[Nat.zero_mul]
  rw[hc c 0 _ (by simp;omega)]
  simp)
 have hrun:(execOp ρ ⟨dst,.buildSlice t 1 #[(0,x)],ty,pos,aft,g⟩).run P w=.ok (.value (.slice (some ⟨w.heap.size,0,none⟩) 1 1)) (w.alloc (.cells c.toArray te)):=by
  simp only[execOp,Sem.run_bind,List.map_toArray,List.map_cons,List.map_nil,hr,Result.andThen_ok,Sem.run_pure]
 simp only[OpR,hrun]
 have hx:=db w (.cells c.toArray te)
 have hBw:B≤w.heap.size:=Nat.le_trans hB he.size
 exact⟨hx,⟨c,⟨by simpa using l1,.inr ⟨w.heap.size,1,c.toArray,rfl,hBw,dW w _ _,Nat.le_refl _,by decide,by simpa using l1,by simp[List.take_of_length_le (Nat.le_of_eq l1)]⟩⟩,⟨c,[],by simp,FlE.fl h1,rfl⟩⟩,hG,Nat.le_trans hBw hx.size⟩
end
section tail
variable {P:Program}{L:Env}{ty:TypeId}{pos:String}{aft:Array Edge}{r:Option Nat}{ds:List Deferred}
variable {ops:Array Oper}{rest:List Oper}{Q:Exit→Act→World→Prop}{n:Nat}{a:Act}{w:World}{x y:Operand}{t te:TypeId}
theorem qV {b off m c sz bz:Nat}{z:Value}{cs:Array Value}{bt:TypeId}{d:Option Nat}(ht:P.underlying t=some (.slice te))(hi:(P.info? te).map (fun i=>(i.zero,i.size,i.bytes))=some (some z,sz,bz))(h1:∀v∈z.cells,v.oneCell'=true)(h0:0<z.cells.size)(hzs:z.cells.size=sz)
  (hf:FrD n ds a w L) [hL:AvL b L] (hx:opd L x=some (E (.slice (some ⟨b,off,none⟩) m c))) (hb:Blk w b cs bt) (hm:0<m) (ho:off+m * sz≤cs.size) (hd:∀k,d=some k→k<n)
  (k:∀a' w' zs,w.grownBy w' (some b)→w'.heap.size=w.heap.size→zs.length=m * sz→Blk w' b (cs.toList.take off++zs++cs.toList.drop (off+m * sz)).toArray bt→FrD n ds a' w' (push d Any L)→wpListIn (FW r) 0 P ops Q rest a' w') :
  wpListIn (FW r) 0 P ops Q (⟨d,.call ⟨.builtin .clear,#[x],#[t]⟩,ty,pos,aft,none⟩::rest) a w:=
 wpListIn_plain rfl fun K hK=>by
  have hxv:a.eval x=.slice (some ⟨b,off,none⟩) m c:=hf.opd x _ hx
  obtain⟨it,hit,hiz,_,_⟩:=info_parts hi
  obtain⟨zc,hzc⟩:=eqX (Builtin.zeroCells z.cells m)
  have hzl:zc.toList.length=m * sz:=by rw[hzc];simp[Builtin.zeroCells,hzs]
  have hz1:∀v∈zc.toList,v.oneCell'=true:=by
   intro v hv
   rw[hzc] at hv
   simp only[Builtin.zeroCells,Array.toList_map,List.mem_map,Array.toList_range,List.mem_range] at hv
   obtain⟨i,hi,rfl⟩:=hv
   have hlt:i % z.cells.size<z.cells.size:=Nat.mod_lt _ h0
   rw[getElem!_pos z.cells _ hlt]
   exact h1 _ (Array.getElem_mem hlt)
  have hst:=run_storeCells_at (P:=P) b off bt zc.toList 0 cs w hb (by rw[hzl];omega) hz1
  simp only[Nat.add_zero,hzl] at hst
  obtain⟨m',rfl⟩:∃k,m=k+1:=⟨m - 1,by omega⟩
  have hzv:(zeroValue te).run P w=.ok z w:=by simp[zeroValue,typeInfo,hit,hiz]
  have hrun:(Builtin.clear_ #[t] ty #[.slice (some ⟨b,off,none⟩) (m'+1) c]).run P w=.ok (.tuple #[]) (w.setRow b (cs.toList.take off++zc.toList++cs.toList.drop (off+(m'+1) * sz)).toArray):=by
   simp[Builtin.clear_,run_underlying ht,hzv,← hzc,hst]
  refine OpR.wp (R:=fun v w'=>v=.tuple #[]∧w'=w.setRow b (cs.toList.take off++zc.toList++cs.toList.drop (off+(m'+1) * sz)).toArray) ?_ ?_
  ·simp only[OpR,execOp,resolve,invoke,builtin,Sem.run_bind,Sem.run_pure,Result.andThen_ok,List.map_toArray,List.map_cons,List.map_nil,hxv,hrun]
   trivial
  ·rintro v w' ⟨rfl,rfl⟩
   refine hK _ _ (k _ _ zc.toList (dJ _ _ _) (by simp) hzl (setRow_heap _ _ _ _ _ _ hb) ?_)
   exact (hf.gr (dJ _ _ _)).put (d:=d) (A:=Any) (Ext.rfl' _) hd trivial
end tail
theorem MpR.tight0 {P:Program}{α β:Type}{V:KV P α β}{w:World}{b n:Nat}{l:List (α×β)}(h:MpR V w b n l):MpR V w b l.length l:=by
 obtain⟨es,⟨arr,clock,h1,F,hs,hD⟩,hp,hok,hpw⟩:=h
 have key:∀m:List (Lit×DataW Unit),(m.foldr DataW.insert []).Perm m:=by
  intro m
  induction m with
  | nil=>exact List.Perm.refl _
  | cons x m ih=>exact (iE x _).trans (ih.cons x)
 refine⟨es,⟨arr,clock,h1,F,?_,hD⟩,hp,hok,hpw⟩
 cases hD
 have h2:=(key (arr.toList.map (Go.WideElems.rg P V.k V.R))).length_eq
 have h3:=hp.length_eq
 rw[List.length_map] at h3
 rw[h3] at h2
 rw[List.length_map,Array.length_toList] at h2
 exact Nat.le_of_eq h2.symm
end Go.Mono
namespace Go.Mono
open Go Go.Proofs Go.RowKit
def yR (t:List (Int×BS))(k j:Nat):BS:=
 (List.range k).foldl (fun S i=>if (bg t i).1<0 then S else if (bg t i).1=(j:Int) then ins S (i:Int) else if i=j then ins S (bg t i).1 else S) 0
def iJ (t:List (Int×BS)):List BS:=(List.range t.length).map (yR t t.length)

section
variable {g:Operand}{p:Nat}{assign body:Code}{Q:Exit→Act→World→Prop}{n b:Nat}{ds:List Deferred}{a:Act}{w:World}{S:BS}{L:Env}{r:Option Nat}

theorem yS (lo:Nat)[ey L]{l:Nat}{mark:List Deferred}{df:Nat}{D:Option Nat}(hf:FrD n ds a w L)(hx:opd L g=some (E (de b)))(hb:Blk w b (aJ S) 76)(hp:p<n)
  (J:List Nat→World→Prop) (X:Exit→World→Prop)
  (henter:∀fn,∃W1,(Instr.enterLoop fn a.tmps #[p] assign body r).run Tryz.prog w=.ok (l,mark) W1∧W1.heap[l]?=some (.loop { state:=.ready,pending:=none,fn,tmps:=a.tmps,params := #[p],assign,body,defers:=df })∧Ext w W1 ∧
   W1.heap.size≤w.heap.size+2∧w.heap.size+lo≤W1.heap.size∧w.heap.size≤l∧∀d,D=some d→W1.heap[d]?=some (.deferred (some []))∧d≠l∧w.heap.size≤d)
  (hT:∀s w1,J s w1→Tab w1) (h0:J [] w)
  (hJ:∀s w1 w2,J s w1→w.heap.size≤w1.heap.size→Kp w.heap.size w1 w2→J s w2)
  (hX:∀e w1 w2,X e w1→w.heap.size≤w1.heap.size→Kp w.heap.size w1 w2→X e w2)
  (hbody:∀(l s x) (rest:List Nat) (a1:Act) (w1:World),ai S=s++x::rest→J s w1→w.heap.size+lo<w1.heap.size→FrD n [] a1 w1 ((p,E (I (x:Nat)))::L) →
   assign.wpIn (FW (some l)) 0 Tryz.prog (Exit.then (fun a2 w2=>Kh w.heap.size w1 w2∧∀w3,Kp w.heap.size w2 w3→w3.heap.size=w2.heap.size→body.wpIn (FW (some l)) 0 Tryz.prog (Rd J X s x w.heap.size w3) a2 w3) (fun _ _ _=>False)) a1 w1)
  (hdone:∀a' w',FrD n (mark++ds) a' w' L→J (ai S) w'→w.heap.size≤w'.heap.size→(∀d,D=some d→w'.heap[d]?=some (.deferred (some [])))→Q .normal a' w')
  (hexit:∀e c a' w',mc e=some c→FrD n (mark++ds) a' w' L→X e w'→w.heap.size≤w'.heap.size→(∀d,D=some d→w'.heap[d]?=some (.deferred (some [])))→Q e a' w') :
  (Code.rangeFunc g #[p] assign body).wpIn (FW r) 0 Tryz.prog Q a w:=by
 have hxv:a.eval g=de b:=hf.opd g _ hx
 refine wpIn_rangeFunc fun fn _=>?_
 obtain⟨W1,hrun,hl,he,hsz,hlo,hwl,hD⟩:=henter fn
 have hlt:l<W1.heap.size:=(Array.getElem?_eq_some_iff.1 hl).1
 have hres:(resolve a.eval (rangeCall g l) 0).run Tryz.prog W1=.ok { target:=.fn (.func 110) #[.pointer (some ⟨b,0,none⟩)],args := #[.func (.yield l) #[] #[]] } W1:=by
  have hev:a.eval (.const (.func (.yield l) #[] #[]))=.func (.yield l) #[] #[]:=rfl
  simp[resolve,hxv,hev,de,Deferred.ofValue]
 refine⟨l,mark,W1,_,W1,110,#[.func (.yield l) #[] #[],.pointer (some ⟨b,0,none⟩)],W1,hrun,hres,fun _ _=>trivial,?_,fun hd=>(by simp[FW] at hd),?_⟩
 ·exact wK _ W1
 generalize hrec:({ state:=.ready,pending:=none,fn,tmps:=a.tmps,params := #[p],assign,body,defers:=df }:Loop)=rec0 at hl
 have hhole:aW w.heap.size l:=⟨hwl,by omega⟩
 have hW3:∀x,x<W1.heap.size→w.heap.size≤x→aW w.heap.size x:=fun x h1 h2=>⟨h2,by omega⟩
 refine ol r ((xC S l b w.heap.size W1
  (fun s w1=>J s w1∧W1.heap.size≤w1.heap.size∧w1.heap[l]?=some (.loop rec0)∧∀d,D=some d→w1.heap[d]?=some (.deferred (some [])))
  (fun w1=>∃e c,mc e=some c∧X e w1∧W1.heap.size≤w1.heap.size∧w1.heap[l]?=some (.loop { rec0 with state:=.done,pending:=some c })∧∀d,D=some d→w1.heap[d]?=some (.deferred (some [])))
  ((hT [] w h0).ext he) (hb.ext he) hb.lt he.size (by omega) ⟨hJ [] w W1 h0 (Nat.le_refl _) (Kp.ext he),Nat.le_refl _,hl,fun d hd=>(hD d hd).1⟩ ?_ ?_ ?_ ?_).mono ?_)
 ·rintro s w1 w2 ⟨j1,j2,j3,j4⟩ k hsz1 hsame
  refine⟨hJ s w1 w2 j1 (Nat.le_trans he.size j2) k,Nat.le_trans j2 k.size,(hsame l hlt).trans j3,fun d hd=>(hsame d ?_).trans (j4 d hd)⟩
  exact (Array.getElem?_eq_some_iff.1 (hD d hd).1).1
 ·rintro w1 w2 ⟨e,c,x1,x2,x3,x4,x5⟩ k
  exact⟨e,c,x1,hX e w1 w2 x2 (Nat.le_trans he.size x3) (Kp.ext k),Nat.le_trans x3 k.size,(k.block l (by omega)).trans x4,fun d hd=>(k.block d (Array.getElem?_eq_some_iff.1 (x5 d hd)).1).trans (x5 d hd)⟩
 ·rintro s w1 ⟨j1,_⟩
  exact hT s w1 j1
 ·rintro s x rest w1 hs ⟨j1,j2,j3,j4⟩ hltW
  have hy:=run_yield (P:=Tryz.prog) (args := #[I (x:Nat)]) j3 (by subst hrec;rfl)
  have htm:(rec0.params.zip #[I (x:Nat)]).foldl (fun tmps (t,a)=>tmps.setIfInBounds t a) rec0.tmps=a.tmps.setIfInBounds p (I (x:Nat)):=by
   subst hrec;simp
  have hfn:rec0.assign=assign∧rec0.body=body∧rec0.fn=fn∧rec0.state=.ready:=by subst hrec;exact⟨rfl,rfl,rfl,rfl⟩
  rw[htm,hfn.1,hfn.2.1] at hy
  refine⟨_,_,_,_,hy,?_⟩
  have hf0:FrD n [] { tmps:=a.tmps,defers:=[] } w1 L:=⟨hf.size,rfl,fun t A ht=>ey.pu t A ht _ _ _ (hf.val t A ht)⟩
  have hf1:FrD n [] { tmps:=a.tmps.setIfInBounds p (I (x:Nat)),defers:=[] } w1 ((p,E (I (x:Nat)))::L):=
   hf0.put (d:=some p) (v:=I (x:Nat)) (A:=E (I (x:Nat))) (Ext.rfl' _) (fun k hk=>by cases hk;exact hp) rfl
  refine roundIn_of_wpIn (F:=Fence.wide) (n:=0) trivial <| wpIn_mono (hbody l s x rest _ w1 hs j1 (by omega) hf1) fun e2 a2 w2 hq=>?_
  cases e2 with
  | normal=>
   obtain⟨kh,hb2⟩:=hq
   have j3':w2.heap[l]?=some (.loop rec0):=(kh.same l (by omega) hhole).trans j3
   refine⟨_,run_beginRound j3' hfn.2.2.2,?_⟩
   refine wpIn_mono (hb2 (w2.putObj l (.loop { rec0 with state:=.busy })) (Kp.put hhole) (by simp)) fun e3 a3 w3 hq3=>?_
   have hl2:l<w2.heap.size:=(Array.getElem?_eq_some_iff.1 j3').1
   have rec3:∀{w3:World},Kh w.heap.size (w2.putObj l (.loop { rec0 with state:=.busy })) w3→w3.heap[l]?=some (.loop { rec0 with state:=.busy }):=fun k=>
    (k.same l (by simpa using hl2) hhole).trans (World.putObj_heap_same hl2)
   have size3:∀{w3:World},Kh w.heap.size (w2.putObj l (.loop { rec0 with state:=.busy })) w3→w1.heap.size≤w3.heap.size:=fun k=>by
    have h1:=k.size
    have h2:=kh.size
    simp at h1
    omega
   have d3:∀{w3:World},Kh w.heap.size (w2.putObj l (.loop { rec0 with state:=.busy })) w3→∀o,∀d,D=some d→(w3.putObj l o).heap[d]?=some (.deferred (some [])):=fun {w3} k o d hd=>by
    have h1:=hD d hd
    have hdlt:d<w1.heap.size:=(Array.getElem?_eq_some_iff.1 (j4 d hd)).1
    have hdh:aW w.heap.size d:=hW3 d (Array.getElem?_eq_some_iff.1 h1.1).1 h1.2.2
    have hk2:=kh.size
    rw[World.putObj_heap_other h1.2.1,k.same d (by simp;omega) hdh,World.putObj_heap_other h1.2.1,kh.same d hdlt hdh]
    exact j4 d hd
   have rb3:∀{w3:World},Kh w.heap.size (w2.putObj l (.loop { rec0 with state:=.busy })) w3→∀o,(w3.putObj l o).heap[W1.heap.size]?=w1.heap[W1.heap.size]?:=fun {w3} k o=>by
    have hne:W1.heap.size≠l:=by omega
    have hr:aW w.heap.size W1.heap.size:=⟨he.size,by omega⟩
    have hk2:=kh.size
    rw[World.putObj_heap_other hne,k.same _ (by simp;omega) hr,World.putObj_heap_other hne,kh.same _ hltW hr]
   cases e3 with
   | normal=>
    obtain⟨q1,q2⟩:=hq3
    refine⟨_,_,run_endRound none (rec3 q2),_,rfl,.inl ⟨rfl,⟨hJ _ _ _ q1 (Nat.le_trans (Nat.le_trans he.size j2) (size3 q2)) (Kp.put hhole),?_,?_,d3 q2 _⟩,by simpa using size3 q2,rb3 q2 _⟩⟩
    ·have:=size3 q2;simp;omega
    ·rw[World.putObj_heap_same (Array.getElem?_eq_some_iff.1 (rec3 q2)).1]
     subst hrec
     rfl
   | ret=>
    obtain⟨q1,q2⟩:=hq3
    refine⟨_,_,run_endRound (some .ret) (rec3 q2),_,rfl,.inr ⟨rfl,.ret,.ret,rfl,hX _ _ _ q1 (Nat.le_trans (Nat.le_trans he.size j2) (size3 q2)) (Kp.put hhole),?_,?_,d3 q2 _⟩⟩
    ·have:=size3 q2;simp;omega
    ·rw[World.putObj_heap_same (Array.getElem?_eq_some_iff.1 (rec3 q2)).1]
     rfl
   | exit id=>
    obtain⟨q1,q2⟩:=hq3
    refine⟨_,_,run_endRound (some (.exit id)) (rec3 q2),_,rfl,.inr ⟨rfl,.exit id,.exit id,rfl,hX _ _ _ q1 (Nat.le_trans (Nat.le_trans he.size j2) (size3 q2)) (Kp.put hhole),?_,?_,d3 q2 _⟩⟩
    ·have:=size3 q2;simp;omega
    ·rw[World.putObj_heap_same (Array.getElem?_eq_some_iff.1 (rec3 q2)).1]
     rfl
   | goto t=>exact hq3.elim
   | panic c=>exact hq3.elim
   | outgrown=>exact hq3.elim
  | _=>exact hq.elim
 ·rintro e w2 ⟨rfl,h|h⟩
  ·obtain⟨j1,j2,j3,j4⟩:=h
   refine⟨none,w2.putObj l (.loop { rec0 with state:=.exhausted }),?_,hdone _ _ (⟨hf.size,by simp[hf.defers],fun t A ht=>ey.pu t A ht _ _ _ (hf.val t A ht)⟩) (hJ _ _ _ j1 (Nat.le_trans he.size j2) (Kp.put hhole)) ?_ ?_⟩
   ·have:=run_endLoop (P:=Tryz.prog) j3 (by subst hrec;simp)
    subst hrec
    exact this
   ·have:=he.size;simp;omega
   ·intro d hd
    rw[World.putObj_heap_other (hD d hd).2.1]
    exact j4 d hd
  ·obtain⟨ex,c,x1,x2,x3,x4,x5⟩:=h
   refine⟨some c,_,run_endLoop (P:=Tryz.prog) x4 (by simp),?_⟩
   have hQ:=hexit ex c { a with defers:=mark++a.defers } (w2.putObj l (.loop { rec0 with state:=.exhausted,pending:=some c })) x1 (⟨hf.size,by simp[hf.defers],fun t A ht=>ey.pu t A ht _ _ _ (hf.val t A ht)⟩)
    (hX _ _ _ x2 (Nat.le_trans he.size x3) (Kp.put hhole)) (by have:=he.size;simp;omega) (fun d hd=>by
     rw[World.putObj_heap_other (hD d hd).2.1]
     exact x5 d hd)
   cases ex with
   | ret=>cases x1;exact wpIn_ret hQ
   | exit id=>cases x1;exact wpIn_exit hQ
   | _=>cases x1
theorem dz [ey L](hf:FrD n ds a w L)(hx:opd L g=some (E (de b)))(hb:Blk w b (aJ S) 76)(hp:p<n)
  (J:List Nat→World→Prop) (X:Exit→World→Prop)
  (hT:∀s w1,J s w1→Tab w1) (h0:J [] w)
  (hJ:∀s w1 w2,J s w1→w.heap.size≤w1.heap.size→Kp w.heap.size w1 w2→J s w2)
  (hX:∀e w1 w2,X e w1→w.heap.size≤w1.heap.size→Kp w.heap.size w1 w2→X e w2)
  (hbody:∀(l s x) (rest:List Nat) (a1:Act) (w1:World),ai S=s++x::rest→J s w1→w.heap.size+3≤w1.heap.size→FrD n [] a1 w1 ((p,E (I (x:Nat)))::L) →
   assign.wpIn (FW (some l)) 0 Tryz.prog (Exit.then (fun a2 w2=>Kh w.heap.size w1 w2∧∀w3,Kp w.heap.size w2 w3→w3.heap.size=w2.heap.size→body.wpIn (FW (some l)) 0 Tryz.prog (Rd J X s x w.heap.size w3) a2 w3) (fun _ _ _=>False)) a1 w1)
  (hdone:∀a' w',FrD n ({ target:=.collected w.heap.size,args := #[] }::ds) a' w' L→J (ai S) w'→w.heap.size≤w'.heap.size→w'.heap[w.heap.size]?=some (.deferred (some []))→Q .normal a' w')
  (hexit:∀e c a' w',mc e=some c→FrD n ({ target:=.collected w.heap.size,args := #[] }::ds) a' w' L→X e w'→w.heap.size≤w'.heap.size→w'.heap[w.heap.size]?=some (.deferred (some []))→Q e a' w') :
  (Code.rangeFunc g #[p] assign body).wpIn (FW none) 0 Tryz.prog Q a w:=by
 refine yS 2 (l:=w.heap.size+1) (mark:=[{ target:=.collected w.heap.size,args := #[] }]) (df:=w.heap.size) (D:=some w.heap.size) hf hx hb hp J X ?_ hT h0 hJ hX (fun l s x rest a1 w1 h1 h2 h3=>hbody l s x rest a1 w1 h1 h2 (by omega))
  (fun a' w' h1 h2 h3 h4=>hdone a' w' h1 h2 h3 (h4 _ rfl)) (fun e c a' w' h1 h2 h3 h4 h5=>hexit e c a' w' h1 h2 h3 h4 (h5 _ rfl))
 intro fn
 refine⟨_,run_enterLoop_outer fn a.tmps #[p] assign body,?_,?_,?_,by simp,by omega,?_⟩
 ·have:=World.alloc_heap_new (w.alloc (.deferred (some []))) (.loop { state:=.ready,pending:=none,fn,tmps:=a.tmps,params := #[p],assign,body,defers:=w.heap.size })
  rwa [World.size_alloc] at this
 ·exact Ext.tr (db w _) (db _ _)
 ·simp
 ·rintro d hd
  cases hd
  refine⟨?_,by omega,Nat.le_refl _⟩
  rw[Below.heap_alloc _ _ _ (by simp)]
  exact World.alloc_heap_new w _

end
end Go.Mono
namespace Go.Mono
open Go Go.RowKit
structure QR (te:TypeId)(B:Nat)(w:World)(xs:List Int)(v:Value):Prop where
 own:∃g off cap cur,v=.slice (some ⟨g,off,none⟩) xs.length cap∧B≤g∧Blk w g cur te∧xs.length≤cap∧off+cap≤cur.size∧∀i z,xs[i]?=some z→cur[off+i]?=some (Value.int .i64 z)
theorem QR.ch {te:TypeId}{B:Nat}{w w':World}{xs:List Int}{v:Value}(h:QR te B w xs v){S:Nat→Prop}(c:Chg S w w')(hS:∀b,v.ownBlock=some b→¬S b):QR te B w' xs v:=by
 obtain⟨g,off,cap,cur,rfl,h1,h2,h3⟩:=h.own
 exact⟨g,off,cap,cur,rfl,h1,h2.ch c (hS g rfl),h3⟩
theorem QR.ext {te:TypeId}{B:Nat}{w w':World}{xs:List Int}{v:Value}(h:QR te B w xs v)(e:Ext w w'):QR te B w' xs v:=by
 obtain⟨g,off,cap,cur,rfl,h1,h2,h3⟩:=h.own
 exact⟨g,off,cap,cur,rfl,h1,h2.ext e,h3⟩
theorem QR.gr {te:TypeId}{B:Nat}{w w':World}{xs:List Int}{v:Value}{b:Nat}(h:QR te B w xs v)(hg:w.grownBy w' (some b))(hb:v.ownBlock≠some b):QR te B w' xs v:=by
 obtain⟨g,off,cap,cur,rfl,h1,h2,h3⟩:=h.own
 exact⟨g,off,cap,cur,rfl,h1,h2.gr hg (fun h=>hb (by rw[← h];rfl)),h3⟩
theorem QR.one {te:TypeId}{B:Nat}{w:World}{xs:List Int}{v:Value}(h:QR te B w xs v):v.oneCell'=true:=by
 obtain⟨g,off,cap,cur,rfl,_⟩:=h.own
 rfl
theorem QR.ne {te:TypeId}{B:Nat}{w:World}{xs:List Int}{v:Value}(h:QR te B w xs v){b:Nat}{cs:Array Value}{t:TypeId}(hb:Blk w b cs t)(ht:t≠te):v.ownBlock≠some b:=by
 obtain⟨g,off,cap,cur,rfl,_,h2,_⟩:=h.own
 intro he
 have:g=b:=by simpa[Value.ownBlock] using he
 subst this
 exact (Blk.ne h2 hb (Ne.symm ht)) rfl
theorem QR.lt {te:TypeId}{B:Nat}{w:World}{xs:List Int}{v:Value}(h:QR te B w xs v){b:Nat}(hb:v.ownBlock=some b):B≤b∧b<w.heap.size:=by
 obtain⟨g,off,cap,cur,rfl,h1,h2,_⟩:=h.own
 have:g=b:=by simpa[Value.ownBlock] using hb
 subst this
 exact⟨h1,h2.lt⟩
theorem OwR.queue {te:TypeId}{B:Nat}{G:Nat→Prop}{w:World}{xs:List Int}{v:Value}(h:OwR intE te B G w xs v)(h0:xs≠[]):QR te B w xs v:=by
 obtain⟨cs,⟨hl,hrow⟩,hcs⟩:=h.own
 have hc:∀{l:List Int} {cs:List Value},Cells intE (GO G v) w l cs→cs=l.map (Value.int .i64):=by
  intro l
  induction l with
  | nil=>intro cs h;exact h
  | cons x l ih=>
   rintro cs ⟨c,d,h,h1,h2⟩
   have:c=[.int .i64 x]:=h1
   rw[h,this,ih h2];rfl
 have hcs':=hc hcs
 subst hcs'
 rcases hrow with ⟨_,hn⟩|⟨g,cap,cur,rfl,hB,hg,hn,hm,hs,ht⟩
 ·exact absurd (List.eq_nil_of_length_eq_zero hn) h0
 ·simp only[show (intE).k=1 from rfl,Nat.mul_one] at hs ht
  refine⟨g,0,cap,cur,rfl,hB,hg,hn,by omega,fun i z hz=>?_⟩
  have hlt:=(List.getElem?_eq_some_iff.1 hz).1
  have:(cur.toList.take xs.length)[i]?=(xs.map (Value.int .i64))[i]?:=by rw[ht]
  rw[List.getElem?_take,if_pos hlt,List.getElem?_map,hz] at this
  simpa using this
theorem QR.dv {te:TypeId}{B:Nat}{G:Nat→Prop}{w:World}{xs:List Int}{v:Value}(h:QR te B w xs v)(hG:∀b,v.ownBlock=some b→¬G b):(Dv (slE intE) G xs).p v w:=by
 obtain⟨g,off,cap,cur,rfl,h1,h2,h3,h4,h5⟩:=h.own
 have hc:∀l:List Int,Cells intE G w l (l.map (Value.int .i64)):=by
  intro l
  induction l with
  | nil=>rfl
  | cons x l ih=>exact⟨[.int .i64 x],_,rfl,rfl,ih⟩
 refine Dv.sl.2 (.inr ⟨⟨g,off,none⟩,cap,xs.map (Value.int .i64),rfl,h3,hG g rfl,h2.lt,hc xs,fun i u hu=>?_⟩)
 rw[Addr.add_lit,h2.cell]
 rw[List.getElem?_map] at hu
 cases hz:xs[i]? with
 | none=>rw[hz] at hu;cases hu
 | some z=>rw[hz] at hu;cases hu;exact h5 i z hz

section
variable {P:Program}{w0:World}{L:Env}{dst:Option Tmp}{ty:TypeId}{pos:String}{aft:Array Edge}{g:Option (Nat×Bool)}
end
section tail
variable {P:Program}{L:Env}{ty:TypeId}{pos:String}{aft:Array Edge}{r:Option Nat}{ds:List Deferred}
variable {ops:Array Oper}{rest:List Oper}{Q:Exit→Act→World→Prop}{n:Nat}{a:Act}{w:World}{x y:Operand}
end tail
end Go.Mono
namespace Go.Mono
open Go Go.Proofs Go.RowKit

theorem jT {G:Nat→Prop}(r:List Int)(v:Value)(W:World)(h:(Dv (slE intE) G r).p v W)(hl:r.length≤4096) :
  Calls Tryz.prog 63 #[v] W (Post (E (ae (r.foldl ins 0))) W):=by
 refine eN [v] [Dv (slE intE) (GB W G) r] Tryz.func63 Tryz.ntmps63 ?_ fun a hf=>?_
 rotate_left
 rotate_right
 ·exact arg1 (Dv.toB h)
 have e:=Ext.rfl' W
 refine seq <| ac <| tL I76 hf fun a b2 w e' hb2 hs2 B2 hf=>?_
 replace e:=e.tr e'
 refine aa <| seq <| ac <| tL I76 hf fun a b3 w e' hb3 hs3 B3 hf=>?_
 obtain⟨e,B2⟩:=up2 e' e B2
 refine aa ?_
 simp only[Value.cells,dL] at B2 B3
 refine seq <| seq ?_
 refine rgN 3 hf <| st (mv rfl) <| st (aI U35 (isR rfl)) <| st (mv rfl) <| en fun a w e' hf=>?_
 obtain⟨e,B2,B3⟩:=up3 e' e B2 B3
 refine aa ?_
 replace hf:=hf.keep [2,3,6,7,8]
 refine blk (aK (fun r0 a w=>∃(k:Nat) ,r0=r.length - k∧k≤r.length∧Fr 17 a w [(2,E (.pointer (some ⟨b2,0,none⟩))),(3,E (.pointer (some ⟨b3,0,none⟩))),(6,Dv (slE intE) (GB W G) r),(7,E (I (r.length:Nat))),(8,E (I k))]∧Ext W w∧Blk w b2 (aJ 0) 76∧Blk w b3 (aJ ((r.take k).foldl ins 0)) 76) r.length ⟨0,rfl,by omega,hf,e,B2,B3⟩ ?_)
 rintro r0 a w ⟨k,rfl,hk,hf,e,B2,B3⟩
 refine seq <| rgN 1 hf <| st (lss rfl rfl) <| en fun a w e' hf=>?_
 obtain⟨e,B2,B3⟩:=up3 e' e B2 B3
 refine aa <| seq <| ifc hf rfl (fun hc=>aj ?_) (fun hc=>aH ?_)
 rotate_left
 rotate_left
 ·have hlt:=ltC hc
  replace hf:=hf.kp [2,3,6,7,8]
  refine seq <| blk ?_
  have hx:=cF hlt
  have hS:(r.take (k+1)).foldl ins 0=ins ((r.take k).foldl ins 0) (gi r k):=by rw[vu hlt,List.foldl_append];rfl
  refine seq <| rgN 2 hf <| st (aG U35 S3 (isR rfl) rfl (by omega) (hx)) <| st (ldI T3 (isR rfl)) <| en fun a w e' hf=>?_
  obtain⟨e,B2,B3⟩:=up3 e' e B2 B3
  refine tA hf rfl fun a hf=>aa <| rgN 3 hf <| st (ldW T76 rfl (by assumption) rfl) <| st (mv rfl) <| st (ap jD rfl rfl (fun v u w he h h'=>by cases h;cases h';exact jI _ _ w)) ?_
  refine en fun a w e' hf=>?_
  obtain⟨e,B2,B3⟩:=up3 e' e B2 B3
  haveI hinr:∀G0,InR (GB W G0) (some b3):=fun G0=>InR.gb (by omega)
  refine aF T76 hf rfl rfl (bk _) B3 rfl (rfl) fun w hg hsz B3 hf=>?_
  obtain⟨e,B2⟩:=gr2 hg e B2
  refine aa ?_
  rw[← hS] at B3
  refine rgN 1 hf <| st ((add rfl rfl (by omega)).eq (iN k)) <| en fun a w e' hf=>?_
  obtain⟨e,B2,B3⟩:=up3 e' e B2 B3
  refine tP hf (mv rfl) fun a w e' hf=>?_
  obtain⟨e,B2,B3⟩:=up3 e' e B2 B3
  refine aa ?_
  replace hf:=hf.keep [2,3,6,7,8]
  refine⟨_,?_,k+1,rfl,by omega,hf,e,?_⟩
  ·omega
  exact⟨B2,B3⟩
 ·obtain rfl:=dnE hc hk
  rw[List.take_length] at B3
  replace hf:=hf.kp [2,3]
  refine seq <| rgN 1 hf <| st (ldW T76 rfl (by assumption) rfl) <| en fun a w e' hf=>?_
  obtain⟨e,B2,B3⟩:=up3 e' e B2 B3
  haveI hinr:∀G0,InR (GB W G0) (some b2):=fun G0=>InR.gb (by omega)
  refine aF T76 hf rfl rfl (bk _) B2 rfl (rfl) fun w hg hsz B2 hf=>?_
  obtain⟨e,B3⟩:=gr2 hg e B3
  refine aa <| ak (fk rfl T76 hf rfl B2 e rfl)
def sg (fs:List BS)(j:Nat):BS:=match fs[j]? with
 | some S=>S
 | none=>0
def elI (S:BS):List Int:=(ai S).map fun i:Nat=>(i:Int)
def iK (fs:List BS)(inn:BS):Nat→BS→List Int→Option BS
 | _,S,[]=>some S
 | 0,_,_::_=>none
 | f+1,S,r::R=>let X:=(sg fs r.toNat &&& inn) &&& ~~~S;iK fs inn f (S ||| X) (R++elI X)
theorem yT {S:BS}{k:Nat}(hk:k<1024):((k:Int)∈elI S)↔S.getLsbD k=true:=by
 rw[elI,List.mem_map]
 constructor
 ·rintro⟨i,h1,h2⟩
  obtain rfl:k=i:=by omega
  exact (aD.1 h1).2
 ·intro h;exact⟨k,aD.2 ⟨hk,h⟩,rfl⟩
theorem mC (p:Int)(S:BS):[p].foldl ins S=ins S p:=by rw[List.foldl_cons,List.foldl_nil]
def qW (s:List Nat):List Int:=s.map fun i:Nat=>(i:Int)
structure CMJ (G:Nat→Prop)(W:World)(fs:List BS)(fv:Value)(b5 b6 b7 b8 B:Nat)(inn S:BS)(R:List Int)(D:List Nat)(s:List Nat)(w:World):Prop where
 e:Ext W w
 t:Tab w
 hv:(Dv (slE aP) (GB W G) fs).p fv w
 b5:Blk w b5 (aJ inn) 76
 b6:Blk w b6 (aJ 0) 76
 b7:Blk w b7 (aJ ((qW s).foldl ins S)) 76
 q:∃v,Blk w b8 #[v] 35∧QR 3 W.heap.size w (R++qW s) v∧∀g,v.ownBlock=some g→¬aW B g
 ds:Ds D w
theorem CMJ.kp {G:Nat→Prop}{W:World}{fs:List BS}{fv:Value}{b5 b6 b7 b8 B:Nat}{inn S:BS}{R:List Int}{D:List Nat}{s:List Nat}{w w':World}(h:CMJ G W fs fv b5 b6 b7 b8 B inn S R D s w)(k:Kp B w w')
  (hW:W.heap.size≤B) (h0:0<B) (l5:b5<B) (l6:b6<B) (l7:b7<B) (l8:b8<B) (lD:∀d∈D,d<B):CMJ G W fs fv b5 b6 b7 b8 B inn S R D s w':=by
 have no:∀{b},b<B→¬aW B b:=fun h hh=>by have:=hh.1;omega
 obtain⟨v,q1,q2,q3⟩:=h.q
 exact⟨h.e.kp k hW,h.t.kp k h0,Dv.ch h.hv k.chg (fun b hb=>.inr (by have:=hb.1;omega)),h.b5.kp k (no l5),h.b6.kp k (no l6),h.b7.kp k (no l7),⟨v,q1.kp k (no l8),q2.ch k.chg q3,q3⟩,h.ds.ch k.chg fun d hd=>no (lD d hd)⟩
end Go.Mono
namespace Go.Mono.Pop

theorem yU (k M c z:Nat)(hc:c<2 ^ k):z &&& (2 ^ k * M+c)=2 ^ k * ((z / 2 ^ k) &&& M)+((z % 2 ^ k) &&& c):=by
 have h1:(z % 2 ^ k) &&& c<2 ^ k:=Nat.lt_of_le_of_lt Nat.and_le_right hc
 apply Nat.eq_of_testBit_eq
 intro i
 rw[Nat.testBit_and,Nat.testBit_two_pow_mul_add _ hc,Nat.testBit_two_pow_mul_add _ h1]
 split
 ·rename_i hi
  rw[Nat.testBit_and,Nat.testBit_mod_two_pow]
  simp[hi]
 ·rename_i hi
  rw[Nat.testBit_and,Nat.testBit_div_two_pow]
  congr 2
  omega
theorem iL (M c z:Nat)(hc:c<256):z &&& (256 * M+c)=256 * ((z / 256) &&& M)+((z % 256) &&& c):=yU 8 M c z hc

def mask (c:Nat):Nat→Nat
 | 0=>0
 | n+1=>256 * mask c n+c
def pc (b:Nat):Nat:=(List.range 8).countP fun i=>b.testBit i
def F:Nat→Nat→Nat
 | 0,_=>0
 | n+1,x=>pc (x % 256)+256 * F n (x / 256)
def sA (m x:Nat):Nat:=((x / 2) &&& m)+(x &&& m)
def sB (m x:Nat):Nat:=((x / 4) &&& m)+(x &&& m)
def sC (m x:Nat):Nat:=(x / 16+x) &&& m

theorem kA:∀b,b<256→∀e,e<2→(b / 2+128 * e) &&& 85=(b / 2) &&& 85:=by decide +kernel
theorem kA2:∀b,b<256→sA 85 b<256:=by decide +kernel
theorem kB:∀b,b<256→∀e,e<4→(b / 4+64 * e) &&& 51=(b / 4) &&& 51:=by decide +kernel
theorem kB2:∀b,b<256→sB 51 (sA 85 b)<256∧sB 51 (sA 85 b) % 16<5:=by decide +kernel
theorem kC:∀b,b<256→∀e,e<5→e * 16+(sB 51 (sA 85 b) / 16+sB 51 (sA 85 b))<256∧(e * 16+(sB 51 (sA 85 b) / 16+sB 51 (sA 85 b))) &&& 15=pc b:=by decide +kernel
theorem yV:∀b,b<256→pc b≤8:=by decide +kernel

theorem yW (n x:Nat):sA (mask 85 (n+1)) x=sA 85 (x % 256)+256 * sA (mask 85 n) (x / 256):=by
 unfold sA
 rw[mask,iL _ _ _ (by decide),iL _ _ _ (by decide)]
 have h1:x / 2 / 256=x / 256 / 2:=by omega
 have h2:x / 2 % 256=x % 256 / 2+128 * (x / 256 % 2):=by omega
 rw[h1,h2,kA _ (Nat.mod_lt _ (by decide)) _ (Nat.mod_lt _ (by decide))]
 omega
theorem stepB (n y:Nat):sB (mask 51 (n+1)) y=sB 51 (y % 256)+256 * sB (mask 51 n) (y / 256):=by
 unfold sB
 rw[mask,iL _ _ _ (by decide),iL _ _ _ (by decide)]
 have h1:y / 4 / 256=y / 256 / 4:=by omega
 have h2:y / 4 % 256=y % 256 / 4+64 * (y / 256 % 4):=by omega
 rw[h1,h2,kB _ (Nat.mod_lt _ (by decide)) _ (Nat.mod_lt _ (by decide))]
 omega
theorem AB (n x:Nat):sB (mask 51 (n+1)) (sA (mask 85 (n+1)) x)=sB 51 (sA 85 (x % 256))+256 * sB (mask 51 n) (sA (mask 85 n) (x / 256)):=by
 have h:=kA2 (x % 256) (Nat.mod_lt _ (by decide))
 rw[yW,stepB]
 have h1:(sA 85 (x % 256)+256 * sA (mask 85 n) (x / 256)) % 256=sA 85 (x % 256):=by omega
 have h2:(sA 85 (x % 256)+256 * sA (mask 85 n) (x / 256)) / 256=sA (mask 85 n) (x / 256):=by omega
 rw[h1,h2]
theorem yX:∀(n x:Nat),sB (mask 51 n) (sA (mask 85 n) x) % 16<5
 | 0,x=>by simp[sB,sA,mask]
 | n+1,x=>by
  rw[AB]
  have:=(kB2 (x % 256) (Nat.mod_lt _ (by decide))).2
  omega
theorem ABC:∀(n x:Nat),sC (mask 15 n) (sB (mask 51 n) (sA (mask 85 n) x))=F n x
 | 0,x=>by simp[sC,mask,F]
 | n+1,x=>by
  have hb:=Nat.mod_lt x (show 256 > 0 by decide)
  have hq:=yX n (x / 256)
  have ih:=ABC n (x / 256)
  obtain⟨k1,k2⟩:=kC _ hb _ hq
  rw[AB,F,← ih]
  generalize sB (mask 51 n) (sA (mask 85 n) (x / 256))=q at *
  generalize sB 51 (sA 85 (x % 256))=b at *
  unfold sC
  rw[mask,iL _ _ _ (by decide)]
  have h1:(b+256 * q) / 16+(b+256 * q)=256 * (q / 16+q)+(q % 16 * 16+(b / 16+b)):=by omega
  rw[h1]
  have h2:(256 * (q / 16+q)+(q % 16 * 16+(b / 16+b))) / 256=q / 16+q:=by omega
  have h3:(256 * (q / 16+q)+(q % 16 * 16+(b / 16+b))) % 256=q % 16 * 16+(b / 16+b):=by omega
  rw[h2,h3,k2]
  omega
theorem masks:mask 85 8=6148914691236517205∧mask 51 8=3689348814741910323∧mask 15 8=1085102592571150095:=by decide
def G:Nat→Nat→Nat
 | 0,_=>0
 | n+1,x=>pc (x % 256)+G n (x / 256)
def V:List Nat→Nat
 | []=>0
 | a::l=>a+256 * V l
def addL:List Nat→List Nat→List Nat
 | [],m=>m
 | l,[]=>l
 | a::l,b::m=>(a+b)::addL l m
theorem qX:∀l m,V (addL l m)=V l+V m
 | [],m=>by simp[addL,V]
 | a::l,[]=>by simp[addL,V]
 | a::l,b::m=>by simp only[addL,V,qX l m];omega
theorem qY:∀(k:Nat) (l:List Nat),(∀a∈l,a<256)→V l / 256 ^ k=V (l.drop k)
 | 0,l,_=>by simp
 | k+1,[],_=>by simp[V]
 | k+1,a::l,h=>by
  have h1:V (a::l) / 256=V l:=by
   have:=h a (by simp)
   simp only[V]
   omega
  rw[Nat.pow_succ,Nat.mul_comm,← Nat.div_div_eq_div_mul,h1,qY k l (fun x hx=>h x (by simp[hx]))]
  simp
theorem qZ:∀(l:List Nat),(∀a∈l,a<256)→V l<256 ^ l.length
 | [],_=>by simp[V]
 | a::l,h=>by
  have h1:=h a (by simp)
  have h2:=qZ l (fun x hx=>h x (by simp[hx]))
  simp only[V,List.length_cons,Nat.pow_succ]
  omega
theorem ra (x y:Nat):∀(l m:List Nat),(∀a∈l,a≤x)→(∀a∈m,a≤y)→∀a∈addL l m,a≤x+y
 | [],m,_,h2=>fun a ha=>by have:=h2 a (by simpa[addL] using ha);omega
 | a::l,[],h1,_=>fun b hb=>by have:=h1 b (by simpa[addL] using hb);omega
 | a::l,b::m,h1,h2=>fun c hc=>by
  simp only[addL,List.mem_cons] at hc
  rcases hc with rfl|hc
  ·have:=h1 a (by simp);have:=h2 b (by simp);omega
  ·exact ra x y l m (fun x hx=>h1 x (by simp[hx])) (fun x hx=>h2 x (by simp[hx])) c hc
theorem rf:∀(l m:List Nat),m.length≤l.length→(addL l m).length=l.length
 | [],[],_=>rfl
 | a::l,[],_=>rfl
 | a::l,b::m,h=>by simp only[addL,List.length_cons] at h ⊢;rw[rf l m (by omega)]
theorem stepV (k b:Nat)(l:List Nat)(hl:l.length=8)(hb:∀a∈l,a≤b)(h:b+b<256) :
  (V l+V l / 256 ^ k) % 18446744073709551616=V (addL l (l.drop k))∧(addL l (l.drop k)).length=8∧∀a∈addL l (l.drop k),a≤b+b:=by
 have hd:∀a∈l.drop k,a≤b:=fun a ha=>hb a (List.mem_of_mem_drop ha)
 have h3:=ra b b l (l.drop k) hb hd
 have h2:=rf l (l.drop k) (by simp)
 refine⟨?_,by omega,h3⟩
 rw[qY k l (fun a ha=>by have:=hb a ha;omega),← qX]
 refine Nat.mod_eq_of_lt ?_
 have:=qZ (addL l (l.drop k)) (fun a ha=>by have:=h3 a ha;omega)
 rw[h2,hl] at this
 exact this
def bytes (x:Nat):List Nat:=[pc (x % 256),pc (x / 256 % 256),pc (x / 256 / 256 % 256),pc (x / 256 / 256 / 256 % 256),pc (x / 256 / 256 / 256 / 256 % 256),pc (x / 256 / 256 / 256 / 256 / 256 % 256),
 pc (x / 256 / 256 / 256 / 256 / 256 / 256 % 256),pc (x / 256 / 256 / 256 / 256 / 256 / 256 / 256 % 256)]
theorem F_V (x:Nat):F 8 x=V (bytes x):=rfl
theorem rh (x:Nat):∀a∈bytes x,a≤8:=by
 intro a ha
 simp only[bytes,List.mem_cons,List.not_mem_nil,or_false] at ha
 rcases ha with rfl|rfl|rfl|rfl|rfl|rfl|rfl|rfl <;> exact yV _ (Nat.mod_lt _ (by decide))
theorem yY:∀p0 p1 p2 p3 p4 p5 p6 p7:Nat,∃t,addL (addL (addL [p0,p1,p2,p3,p4,p5,p6,p7] [p1,p2,p3,p4,p5,p6,p7]) ((addL [p0,p1,p2,p3,p4,p5,p6,p7] [p1,p2,p3,p4,p5,p6,p7]).drop 2)) ((addL (addL [p0,p1,p2,p3,p4,p5,p6,p7] [p1,p2,p3,p4,p5,p6,p7]) ((addL [p0,p1,p2,p3,p4,p5,p6,p7] [p1,p2,p3,p4,p5,p6,p7]).drop 2)).drop 4)=(p0+p1+(p2+p3)+(p4+p5+(p6+p7)))::t:=by
 intros
 exact⟨_,rfl⟩
theorem fold8 (x y4 y5 y6:Nat)(h4:y4=(F 8 x+F 8 x / 256) % 18446744073709551616)(h5:y5=(y4+y4 / 65536) % 18446744073709551616)(h6:y6=(y5+y5 / 4294967296) % 18446744073709551616) :
  y6 % 128=G 8 x:=by
 rw[F_V] at h4
 obtain⟨a1,a2,a3⟩:=stepV 1 8 (bytes x) rfl (rh x) (by decide)
 rw[Nat.pow_one] at a1
 rw[a1] at h4
 obtain⟨b1,b2,b3⟩:=stepV 2 16 _ a2 a3 (by decide)
 rw[h4,show (65536:Nat)=256 ^ 2 from rfl,b1] at h5
 obtain⟨c1,c2,c3⟩:=stepV 4 32 _ b2 b3 (by decide)
 rw[h5,show (4294967296:Nat)=256 ^ 4 from rfl,c1] at h6
 obtain⟨t,ht⟩:=yY (pc (x % 256)) (pc (x / 256 % 256)) (pc (x / 256 / 256 % 256)) (pc (x / 256 / 256 / 256 % 256)) (pc (x / 256 / 256 / 256 / 256 % 256)) (pc (x / 256 / 256 / 256 / 256 / 256 % 256))
  (pc (x / 256 / 256 / 256 / 256 / 256 / 256 % 256)) (pc (x / 256 / 256 / 256 / 256 / 256 / 256 / 256 % 256))
 have hb:=rh x
 simp only[bytes,List.mem_cons,List.not_mem_nil,or_false,forall_eq_or_imp,forall_eq] at hb
 have h7:y6=V ((pc (x % 256)+pc (x / 256 % 256)+(pc (x / 256 / 256 % 256)+pc (x / 256 / 256 / 256 % 256))+(pc (x / 256 / 256 / 256 / 256 % 256)+pc (x / 256 / 256 / 256 / 256 / 256 % 256) +
  (pc (x / 256 / 256 / 256 / 256 / 256 / 256 % 256)+pc (x / 256 / 256 / 256 / 256 / 256 / 256 / 256 % 256))))::t):=by
  rw[h6,← ht]
  rfl
 rw[h7]
 simp only[V,G]
 obtain⟨g0,g1,g2,g3,g4,g5,g6,g7⟩:=hb
 generalize pc (x % 256)=p0 at *
 generalize pc (x / 256 % 256)=p1 at *
 generalize pc (x / 256 / 256 % 256)=p2 at *
 generalize pc (x / 256 / 256 / 256 % 256)=p3 at *
 generalize pc (x / 256 / 256 / 256 / 256 % 256)=p4 at *
 generalize pc (x / 256 / 256 / 256 / 256 / 256 % 256)=p5 at *
 generalize pc (x / 256 / 256 / 256 / 256 / 256 / 256 % 256)=p6 at *
 generalize pc (x / 256 / 256 / 256 / 256 / 256 / 256 / 256 % 256)=p7 at *
 generalize V t=z
 omega
theorem yZ (n:Nat)(f:Nat→Bool):(List.range (8 * (n+1))).countP f=(List.range 8).countP f+(List.range (8 * n)).countP (fun i=>f (i+8)):=by
 rw[show 8 * (n+1)=8+8 * n by omega,List.range_add,List.countP_append,List.countP_map]
 congr 1
 refine List.countP_congr fun i _=>?_
 simp[Function.comp,Nat.add_comm]
theorem count_G:∀(n x:Nat),(List.range (8 * n)).countP (fun i=>x.testBit i)=G n x
 | 0,x=>rfl
 | n+1,x=>by
  rw[yZ,G,← count_G n (x / 256)]
  congr 1
  ·unfold pc
   refine List.countP_congr fun i hi=>?_
   have:=List.mem_range.1 hi
   rw[show (256:Nat)=2 ^ 8 from rfl,Nat.testBit_mod_two_pow]
   simp[this]
  ·refine List.countP_congr fun i _=>?_
   rw[show (256:Nat)=2 ^ 8 from rfl,Nat.testBit_div_two_pow]
end Go.Mono.Pop
namespace Go.Mono
open Go Go.Proofs Go.RowKit

def ft (x:BitVec 64):Nat:=(List.range 64).countP fun i=>x.getLsbD i
theorem rj (x:BitVec 64):ft x≤64:=by
 have:=List.countP_le_length (p:=fun i=>x.getLsbD i) (l:=List.range 64)
 simpa[ft] using this
theorem za (x:BitVec 64):ft x=Pop.G 8 x.toNat:=by
 rw[← Pop.count_G 8 x.toNat]
 rfl
theorem zb (x x1 x2 x3 x4 x5 x6:BitVec 64)(h1:x1=((x >>> 1) &&& 6148914691236517205#64)+(x &&& 6148914691236517205#64))(h2:x2=((x1 >>> 2) &&& 3689348814741910323#64)+(x1 &&& 3689348814741910323#64))
  (h3:x3=((x2 >>> 4)+x2) &&& 1085102592571150095#64) (h4:x4=x3+(x3 >>> 8)) (h5:x5=x4+(x4 >>> 16)) (h6:x6=x5+(x5 >>> 32)):(x6 &&& 127#64).toNat=ft x:=by
 have e1:x1.toNat=Pop.sA (Pop.mask 85 8) x.toNat:=by
  rw[h1,Pop.masks.1,BitVec.toNat_add,BitVec.toNat_and,BitVec.toNat_and,BitVec.toNat_ushiftRight,Nat.shiftRight_eq_div_pow]
  show ((x.toNat / 2 &&& 6148914691236517205)+(x.toNat &&& 6148914691236517205)) % 2 ^ 64=_
  have a1:=@Nat.and_le_right (x.toNat / 2) 6148914691236517205
  have a2:=@Nat.and_le_right x.toNat 6148914691236517205
  rw[Nat.mod_eq_of_lt (by omega)]
  rfl
 have e2:x2.toNat=Pop.sB (Pop.mask 51 8) x1.toNat∧x2.toNat≤7378697629483820646:=by
  rw[h2,Pop.masks.2.1,BitVec.toNat_add,BitVec.toNat_and,BitVec.toNat_and,BitVec.toNat_ushiftRight,Nat.shiftRight_eq_div_pow]
  show ((x1.toNat / 4 &&& 3689348814741910323)+(x1.toNat &&& 3689348814741910323)) % 2 ^ 64=_∧((x1.toNat / 4 &&& 3689348814741910323)+(x1.toNat &&& 3689348814741910323)) % 2 ^ 64≤_
  have a1:=@Nat.and_le_right (x1.toNat / 4) 3689348814741910323
  have a2:=@Nat.and_le_right x1.toNat 3689348814741910323
  rw[Nat.mod_eq_of_lt (by omega)]
  exact⟨rfl,by omega⟩
 have e3:x3.toNat=Pop.sC (Pop.mask 15 8) x2.toNat:=by
  rw[h3,Pop.masks.2.2,BitVec.toNat_and,BitVec.toNat_add,BitVec.toNat_ushiftRight,Nat.shiftRight_eq_div_pow]
  show (x2.toNat / 16+x2.toNat) % 2 ^ 64 &&& 1085102592571150095=_
  rw[Nat.mod_eq_of_lt (by omega)]
  rfl
 have e3':x3.toNat=Pop.F 8 x.toNat:=by rw[e3,e2.1,e1,Pop.ABC]
 have e4:x4.toNat=(Pop.F 8 x.toNat+Pop.F 8 x.toNat / 256) % 18446744073709551616:=by
  rw[h4,BitVec.toNat_add,BitVec.toNat_ushiftRight,Nat.shiftRight_eq_div_pow,e3']
 have e5:x5.toNat=(x4.toNat+x4.toNat / 65536) % 18446744073709551616:=by
  rw[h5,BitVec.toNat_add,BitVec.toNat_ushiftRight,Nat.shiftRight_eq_div_pow]
 have e6:x6.toNat=(x5.toNat+x5.toNat / 4294967296) % 18446744073709551616:=by
  rw[h6,BitVec.toNat_add,BitVec.toNat_ushiftRight,Nat.shiftRight_eq_div_pow]
 have:=Pop.fold8 _ _ _ _ e4 e5 e6
 rw[za,← this,BitVec.toNat_and]
 exact Nat.and_two_pow_sub_one_eq_mod x6.toNat 7

theorem zd {P:Program}{w0:World}{L:Env}{dst:Option Tmp}{ty:TypeId}{pos:String}{aft:Array Edge}{g:Option (Nat×Bool)}{x y:Operand}{t yt:TypeId}{a b:Int}
  (hx:opd L x=some (E (.int .i64 a))) (hy:opd L y=some (E (.int .i64 b))) :
  OpC P w0 L ⟨dst,.binOp .and t x y yt,ty,pos,aft,g⟩ (E (.int .i64 (IntKind.i64.wrap ((BitVec.ofInt 64 a &&& BitVec.ofInt 64 b).toNat:Int)))):=
 ck rfl hx hy
theorem ze (x:BitVec 64):BitVec.ofInt 64 (IntKind.i64.wrap (x.toNat:Int))=x:=by
 apply BitVec.eq_of_toInt_eq
 rw[BitVec.toInt_ofInt]
 rw[BitVec.toInt_eq_toNat_bmod]
 rw[IntKind.wrap_i64]
 simp only[Int.bmod]
 split <;> split <;> omega
theorem zf {x:BitVec 64}{n:Nat}(h:(x &&& 127#64).toNat=n)(hn:n≤64):IntKind.i64.wrap ((BitVec.ofInt 64 (IntKind.i64.wrap (x.toNat:Int)) &&& BitVec.ofInt 64 127).toNat:Int)=n:=by
 rw[ze]
 have e:BitVec.ofInt 64 127=127#64:=by decide
 rw[e,h]
 exact IntWalk.i64_in _ (by omega)

theorem zg (x:BitVec 64)(W:World):Calls Tryz.prog 117 #[Mono.W x] W (Post (E (I (ft x))) W):=by
 obtain⟨x1,h1⟩:=eqX (((x >>> 1) &&& 6148914691236517205#64)+(x &&& 6148914691236517205#64))
 obtain⟨x2,h2⟩:=eqX (((x1 >>> 2) &&& 3689348814741910323#64)+(x1 &&& 3689348814741910323#64))
 obtain⟨x3,h3⟩:=eqX (((x2 >>> 4)+x2) &&& 1085102592571150095#64)
 obtain⟨x4,h4⟩:=eqX (x3+(x3 >>> 8))
 obtain⟨x5,h5⟩:=eqX (x4+(x4 >>> 16))
 obtain⟨x6,h6⟩:=eqX (x5+(x5 >>> 32))
 have hc:=zf (zb x x1 x2 x3 x4 x5 x6 h1 h2 h3 h4 h5 h6) (rj x)
 refine eN [Mono.W x] [E (Mono.W x)] Tryz.func117 Tryz.ntmps117 ?_ fun a hf=>?_
 rotate_left
 rotate_right
 ·exact arg1 rfl
 have e:=Ext.rfl' W
 refine seq <| ac <| tA hf rfl fun a hf=>aa ?_
 replace hf:=hf.keep [0]
 refine seq <| rgN 6 hf <| st (mv rfl) <| st (fL rfl rfl (by omega)) <| st (eW (v:=6148914691236517205#64) rfl rfl) <| st (mv rfl) <| st (eW (v:=6148914691236517205#64) rfl rfl) <| st ((gz rfl rfl).eq (show Mono.W _=Mono.W x1 from by rw[h1];rfl)) ?_
 refine en fun a w e' hf=>?_
 replace e:=e.tr e'
 refine tA hf rfl fun a hf=>aa ?_
 replace hf:=hf.keep [0]
 refine seq <| rgN 6 hf <| st (mv rfl) <| st (fL rfl rfl (by omega)) <| st (eW (v:=3689348814741910323#64) rfl rfl) <| st (mv rfl) <| st (eW (v:=3689348814741910323#64) rfl rfl) <| st ((gz rfl rfl).eq (show Mono.W _=Mono.W x2 from by rw[h2];rfl)) ?_
 refine en fun a w e' hf=>?_
 replace e:=e.tr e'
 refine tA hf rfl fun a hf=>aa ?_
 replace hf:=hf.keep [0]
 refine seq <| rgN 5 hf <| st (mv rfl) <| st (fL rfl rfl (by omega)) <| st (mv rfl) <| st (gz rfl rfl) <| st ((eW (v:=1085102592571150095#64) rfl rfl).eq (show Mono.W _=Mono.W x3 from by rw[h3];rfl)) ?_
 refine en fun a w e' hf=>?_
 replace e:=e.tr e'
 refine tA hf rfl fun a hf=>aa ?_
 replace hf:=hf.keep [0]
 refine seq <| rgN 4 hf <| st (mv rfl) <| st (mv rfl) <| st (fL rfl rfl (by omega)) <| st ((gz rfl rfl).eq (show Mono.W _=Mono.W x4 from by rw[h4];rfl)) ?_
 refine en fun a w e' hf=>?_
 replace e:=e.tr e'
 refine tA hf rfl fun a hf=>aa ?_
 replace hf:=hf.keep [0]
 refine seq <| rgN 4 hf <| st (mv rfl) <| st (mv rfl) <| st (fL rfl rfl (by omega)) <| st ((gz rfl rfl).eq (show Mono.W _=Mono.W x5 from by rw[h5];rfl)) ?_
 refine en fun a w e' hf=>?_
 replace e:=e.tr e'
 refine tA hf rfl fun a hf=>aa ?_
 replace hf:=hf.keep [0]
 refine seq <| rgN 4 hf <| st (mv rfl) <| st (mv rfl) <| st (fL rfl rfl (by omega)) <| st ((gz rfl rfl).eq (show Mono.W _=Mono.W x6 from by rw[h6];rfl)) ?_
 refine en fun a w e' hf=>?_
 replace e:=e.tr e'
 refine tA hf rfl fun a hf=>aa ?_
 replace hf:=hf.keep [0]
 refine seq <| rgN 3 hf <| st (mv rfl) <| st (oF U74 U3 rfl) <| st ((zd rfl rfl).eq (congrArg (Value.int .i64) hc)) <| en fun a w e' hf=>?_
 replace e:=e.tr e'
 refine tA hf rfl fun a hf=>aa <| ak (an rfl hf rfl ?_)
 rintro v rfl
 exact⟨_,rfl,e,rfl⟩
def card (S:BS):Nat:=(List.range 1024).countP fun i=>S.getLsbD i
def cardTo (S:BS)(k:Nat):Nat:=(List.range (64 * k)).countP fun i=>S.getLsbD i
theorem zh (S:BS)(k:Nat):cardTo S (k+1)=cardTo S k+ft (am S k):=by
 unfold cardTo ft
 rw[show 64 * (k+1)=64 * k+64 by omega,List.range_add,List.countP_append,List.countP_map]
 refine congrArg (fun n=>(List.range (64 * k)).countP (fun i=>S.getLsbD i)+n) (List.countP_congr fun i hi=>?_)
 have:=List.mem_range.1 hi
 simp[dK _ _ _ this]
theorem zi (S:BS):cardTo S 16=card S:=by simp only[cardTo,card,Nat.reduceMul]
theorem zj (S:BS)(k:Nat):cardTo S k≤64 * k:=by
 have:=List.countP_le_length (p:=fun i=>S.getLsbD i) (l:=List.range (64 * k))
 simpa[cardTo] using this

theorem mD (S:BS)(W:World):Calls Tryz.prog 78 #[ae S] W (Post (E (I (card S))) W):=by
 refine eN [ae S] [E (ae S)] Tryz.func78 Tryz.ntmps78 ?_ fun a hf=>?_
 rotate_left
 rotate_right
 ·exact arg1 rfl
 have e:=Ext.rfl' W
 refine seq <| ac <| tB hf rfl fun a b1 w v1 hv1 e' hb1 hs1 B1 hf=>?_
 replace e:=e.tr e'
 refine tA hf rfl fun a hf=>aa ?_
 subst hv1
 rw[ez] at B1
 refine seq <| ac <| tA hf rfl fun a hf=>aa ?_
 refine seq <| seq ?_
 refine rgN 2 hf <| st (ldW T76 rfl (by assumption) rfl) <| st (mv rfl) <| en fun a w e' hf=>?_
 obtain⟨e,B1⟩:=up2 e' e B1
 refine aa ?_
 replace hf:=hf.keep [3,6,7]
 refine blk (aK (fun r a w=>∃k:Nat,r=16 - k∧k≤16∧Fr 16 a w [(3,E (I (cardTo S k))),(6,E (ae S)),(7,E (I k))]∧Ext W w) 16 ⟨0,rfl,by omega,hf,e⟩ ?_)
 rintro r a w ⟨k,rfl,hk,hf,e⟩
 by_cases hlt:k<16
 ·refine seq <| rgN 1 hf <| st ((lss rfl rfl).eq (congrArg Value.bool (show decide ((k:Int)<16)=true from decide_eq_true (by omega)))) <| en fun a w e' hf=>?_
  replace e:=e.tr e'
  refine aa <| seq <| ifc hf rfl (fun _=>aj ?_) (fun h=>by cases h)
  refine seq <| blk <| seq <| rgN 1 hf <| st (ju U76 T74 rfl rfl (by omega) (by simpa[aJ] using cp (am S) k hlt)) <| en fun a w e' hf=>?_
  replace e:=e.tr e'
  refine tA hf rfl fun a hf=>aa ?_
  have hp:=rj (am S k)
  have hq:=zj S k
  refine rgN 4 hf <| st (mv rfl) <| st (mv rfl) <| st (aw wM rfl (fun v w' e' h=>by cases h;exact zg _ w')) ?_
  refine st ((add rfl rfl (by omega)).eq (congrArg (Value.int .i64) (show ((cardTo S k:Nat):Int)+(ft (am S k):Nat)=(cardTo S (k+1):Nat) from by rw[zh];omega))) ?_
  refine en fun a w e' hf=>?_
  replace e:=e.tr e'
  refine tA hf rfl fun a hf=>aa <| rgN 1 hf <| st (add rfl rfl (by omega)) <| en fun a w e' hf=>?_
  replace e:=e.tr e'
  refine tP hf (mv rfl) fun a w e' hf=>?_
  replace e:=e.tr e'
  refine aa ?_
  replace hf:=hf.kp [3,6,7]
  exact⟨16 - (k+1),by omega,k+1,rfl,by omega,by simpa using hf,e⟩
 ·obtain rfl:k=16:=by omega
  refine seq <| rgN 1 hf <| st ((lss rfl rfl).eq (congrArg Value.bool (show decide (((16:Nat):Int)<16)=false from rfl))) <| en fun a w e' hf=>?_
  replace e:=e.tr e'
  refine aa <| seq <| ifc hf rfl (fun h=>by cases h) (fun _=>aH ?_)
  refine seq <| rgN 1 hf <| st (mv rfl) <| en fun a w e' hf=>?_
  replace e:=e.tr e'
  refine tA hf rfl fun a hf=>aa <| ak (an rfl hf rfl ?_)
  rintro v rfl
  exact⟨_,rfl,e,by rw[zi];rfl⟩
end Go.Mono
namespace Go.Mono
open Classical
structure Tr where
 n:Nat
 par:Nat→Option Nat
 dep:Nat→Nat
 lt:∀{i j},i<n→par i=some j→j<n
 dp:∀{i j},i<n→par i=some j→dep i=dep j+1
 one:∀{i j},i<n→j<n→par i=none→par j=none→i=j

namespace Tr
variable (T:Tr)

noncomputable def topF (A:Nat→Prop):Nat→Nat→Nat
 | 0,x=>x
 | f+1,x=>match T.par x with
  | some p=>if A p then topF A f p else x
  | none=>x
noncomputable def tp (A:Nat→Prop)(x:Nat):Nat:=T.topF A (T.dep x) x
variable {T}{A B C D:Nat→Prop}{x y z u c k m:Nat}
theorem ga (hx:x<T.n){p:Nat}(h:T.par x=some p)(hp:A p):T.tp A x=T.tp A p:=by
 unfold tp
 rw[T.dp hx h,topF,h]
 simp[hp]
theorem eh (h:∀p,T.par x=some p→¬A p):T.tp A x=x:=by
 unfold tp
 cases T.dep x with
 | zero=>rfl
 | succ d=>
  rw[topF]
  cases hp:T.par x with
  | none=>rfl
  | some p=>simp[h p hp]
theorem ind {p:Nat→Prop}(step:∀i,i<T.n→(∀j,T.par i=some j→p j)→p i):∀i,i<T.n→p i:=by
 have:∀d i,i<T.n→T.dep i=d→p i:=by
  intro d
  induction d using Nat.strongRecOn with
  | _ d ih=>
   intro i hi hd
   refine step i hi fun j hj=>?_
   have:=T.dp hi hj
   exact ih (T.dep j) (by omega) j (T.lt hi hj) rfl
 exact fun i hi=>this _ i hi rfl
theorem iM (x:Nat):(∃p,T.par x=some p∧A p)∨∀p,T.par x=some p→¬A p:=by
 by_cases h:∃p,T.par x=some p∧A p
 ·exact .inl h
 ·exact .inr fun p hp ha=>h ⟨p,hp,ha⟩
theorem gd:∀x,x<T.n→A x→A (T.tp A x)∧T.tp A x<T.n∧T.dep (T.tp A x)≤T.dep x∧(∀p,T.par (T.tp A x)=some p→¬A p)∧(T.dep (T.tp A x)=T.dep x→T.tp A x=x):=by
 refine T.ind fun x hx ih ha=>?_
 rcases iM (T:=T) (A:=A) x with ⟨p,h,hp⟩|h
 ·rw[ga hx h hp]
  obtain⟨h1,h2,h3,h4,h5⟩:=ih p h hp
  have:=T.dp hx h
  exact⟨h1,h2,by omega,h4,fun h=>by omega⟩
 ·rw[eh h]
  exact⟨ha,hx,Nat.le_refl _,h,fun _=>rfl⟩
def adj (T:Tr)(a b:Nat):Prop:=T.par a=some b∨T.par b=some a
theorem adj.symm {a b:Nat}(h:T.adj a b):T.adj b a:=Or.symm h
theorem adj.ne {a b:Nat}(ha:a<T.n)(h:T.adj a b):a≠b:=fun e=>by
 subst e
 rcases h with h|h <;> have:=T.dp ha h <;> omega
def cn (T:Tr)(A:Nat→Prop)(x y:Nat):Prop:=x<T.n∧y<T.n∧A x∧A y∧T.tp A x=T.tp A y
theorem cn.refl (hx:x<T.n)(ha:A x):T.cn A x x:=⟨hx,hx,ha,ha,rfl⟩
theorem cn.symm (h:T.cn A x y):T.cn A y x:=⟨h.2.1,h.1,h.2.2.2.1,h.2.2.1,h.2.2.2.2.symm⟩
theorem cn.trans (h:T.cn A x y)(h':T.cn A y z):T.cn A x z:=⟨h.1,h'.2.1,h.2.2.1,h'.2.2.2.1,h.2.2.2.2.trans h'.2.2.2.2⟩
theorem cn.of_adj (hx:x<T.n)(hy:y<T.n)(ha:A x)(hb:A y)(h:T.adj x y):T.cn A x y:=by
 refine⟨hx,hy,ha,hb,?_⟩
 rcases h with h|h
 ·exact ga hx h hb
 ·exact (ga hy h ha).symm
theorem cn.ind {S:Nat→Prop}(h:T.cn A x y)(h0:S x)(st:∀a b,a<T.n→b<T.n→A a→A b→S a→T.adj a b→S b):S y:=by
 have up:∀x,x<T.n→A x→S x→S (T.tp A x):=by
  refine T.ind fun x hx ih ha hs=>?_
  rcases iM (T:=T) (A:=A) x with ⟨p,h,hp⟩|h
  ·rw[ga hx h hp]
   exact ih p h hp (st x p hx (T.lt hx h) ha hp hs (.inl h))
  ·rw[eh h];exact hs
 have dn:∀y,y<T.n→A y→S (T.tp A y)→S y:=by
  refine T.ind fun y hy ih ha hs=>?_
  rcases iM (T:=T) (A:=A) y with ⟨p,h,hp⟩|h
  ·rw[ga hy h hp] at hs
   exact st p y (T.lt hy h) hy hp ha (ih p h hp hs) (.inr h)
  ·rw[eh h] at hs;exact hs
 obtain⟨hx,hy,ha,hb,he⟩:=h
 have:=up x hx ha h0
 rw[he] at this
 exact dn y hy hb this
theorem cn.mono (h:T.cn A x y)(hAB:∀i,i<T.n→A i→B i):T.cn B x y:=
 h.ind (S:=fun i=>T.cn B x i) (cn.refl h.1 (hAB _ h.1 h.2.2.1)) fun a b ha hb _ hB hs hab=>hs.trans (cn.of_adj ha hb (hAB _ ha ‹_›) (hAB _ hb hB) hab)
def conn (T:Tr)(C:Nat→Prop):Prop:=∀x y,x<T.n→y<T.n→C x→C y→T.cn C x y
theorem conn_comp:T.conn fun y=>T.cn A x y:=by
 have key:∀y,y<T.n→T.cn A x y→T.tp (fun y=>T.cn A x y) y=T.tp A y:=by
  refine T.ind fun y hy ih hc=>?_
  rcases iM (T:=T) (A:=A) y with ⟨p,h,hp⟩|h
  ·have hcp:T.cn A x p:=hc.trans (cn.of_adj hy (T.lt hy h) hc.2.2.2.1 hp (.inl h))
   rw[ga hy h hp,ga hy h hcp,ih p h hcp]
  ·rw[eh h,eh fun p hp hh=>h p hp hh.2.2.2.1]
 intro y z hy hz h1 h2
 exact⟨hy,hz,h1,h2,by rw[key y hy h1,key z hz h2,← h1.2.2.2.2,← h2.2.2.2.2]⟩
theorem conn_all:T.conn fun i=>i<T.n:=by
 intro x y hx hy _ _
 refine⟨hx,hy,hx,hy,?_⟩
 obtain⟨h1,h2,_,h3,_⟩:=gd (T:=T) (A:=fun i=>i<T.n) x hx hx
 obtain⟨k1,k2,_,k3,_⟩:=gd (T:=T) (A:=fun i=>i<T.n) y hy hy
 refine T.one h1 k1 ?_ ?_
 ·cases h:T.par (T.tp (fun i=>i<T.n) x) with
  | none=>rfl
  | some p=>exact absurd (T.lt h1 h) (h3 p h)
 ·cases h:T.par (T.tp (fun i=>i<T.n) y) with
  | none=>rfl
  | some p=>exact absurd (T.lt k1 h) (k3 p h)
theorem conn.inter (hC:T.conn C)(hD:T.conn D):T.conn fun i=>C i∧D i:=by
 intro x y hx hy h1 h2
 refine⟨hx,hy,h1,h2,?_⟩
 obtain⟨a1,a2,_,a3,_⟩:=gd (T:=T) (A:=fun i=>C i∧D i) x hx h1
 obtain⟨b1,b2,_,b3,_⟩:=gd (T:=T) (A:=fun i=>C i∧D i) y hy h2
 generalize T.tp (fun i=>C i∧D i) x=a at *
 generalize T.tp (fun i=>C i∧D i) y=b at *
 have stop:∀a,(∀p,T.par a=some p→¬(C p∧D p))→T.tp C a=a∨T.tp D a=a:=by
  intro a h
  rcases iM (T:=T) (A:=C) a with ⟨p,hp,hc⟩|h'
  ·refine .inr (eh fun q hq hd=>?_)
   rw[hp] at hq;cases hq
   exact h p hp ⟨hc,hd⟩
  ·exact .inl (eh h')
 have two:∀{C D:Nat→Prop},T.conn C→T.conn D→∀a b,a<T.n→b<T.n→C a→C b→D a→D b→T.tp C a=a→T.tp D b=b→a=b:=by
  intro C D hC hD a b ha hb c1 c2 d1 d2 e1 e2
  have h1:=(hC a b ha hb c1 c2).2.2.2.2
  have h2:=(hD a b ha hb d1 d2).2.2.2.2
  rw[e1] at h1
  rw[e2] at h2
  have m1:=(gd b hb c2).2.2
  have m2:=(gd a ha d1).2.2
  rw[← h1] at m1
  rw[h2] at m2
  exact m1.2.2 (by omega)
 rcases stop a a3 with e1|e1 <;> rcases stop b b3 with e2|e2
 ·exact two hC hC a b a2 b2 a1.1 b1.1 a1.1 b1.1 e1 e2
 ·exact two hC hD a b a2 b2 a1.1 b1.1 a1.2 b1.2 e1 e2
 ·exact two hD hC a b a2 b2 a1.2 b1.2 a1.1 b1.1 e1 e2
 ·exact two hD hD a b a2 b2 a1.2 b1.2 a1.2 b1.2 e1 e2
theorem conn.nb (hC:T.conn C){b:Nat}(hb:b<T.n)(hbC:¬C b)(hx:x<T.n)(hy:y<T.n)(cx:C x)(cy:C y)(ax:T.adj x b)(ay:T.adj y b):x=y:=by
 have key:∀x y,x<T.n→y<T.n→C x→C y→T.par x=some b→T.par b=some y→False:=by
  intro x y hx hy cx cy h1 h2
  have e1:T.tp C x=x:=eh fun p hp hc=>hbC (by rw[h1] at hp;cases hp;exact hc)
  have e2:=(hC x y hx hy cx cy).2.2.2.2
  have e3:=(gd y hy cy).2.2.1
  rw[← e2,e1] at e3
  have:=T.dp hx h1
  have:=T.dp hb h2
  omega
 rcases ax with ax|ax <;> rcases ay with ay|ay
 ·have e1:T.tp C x=x:=eh fun p hp hc=>hbC (by rw[ax] at hp;cases hp;exact hc)
  have e2:T.tp C y=y:=eh fun p hp hc=>hbC (by rw[ay] at hp;cases hp;exact hc)
  rw[← e1,← e2]
  exact (hC x y hx hy cx cy).2.2.2.2
 ·exact (key x y hx hy cx cy ax ay).elim
 ·exact (key y x hy hx cy cx ay ax).elim
 ·rw[ax] at ay;cases ay;rfl
abbrev wo (A:Nat→Prop)(z:Nat):Nat→Prop:=fun i=>A i∧i≠z
theorem hop (hC:T.conn C)(hz:z<T.n)(hx:x<T.n)(cz:C z)(cx:C x)(hne:x≠z):∃k,T.adj k z∧T.cn (wo C z) k x:=by
 have:=(hC z x hz hx cz cx).ind (S:=fun y=>y=z∨∃k,T.adj k z∧T.cn (wo C z) k y) (.inl rfl) fun a b ha hb ca cb hs hab=>by
  by_cases hbz:b=z
  ·exact .inl hbz
  ·right
   rcases hs with rfl|⟨k,h1,h2⟩
   ·exact⟨b,hab.symm,cn.refl hb ⟨cb,hbz⟩⟩
   ·exact⟨k,h1,h2.trans (cn.of_adj ha hb h2.2.2.2.1 ⟨cb,hbz⟩ hab)⟩
 exact this.resolve_left hne
theorem hop_one {k':Nat}(hz:z<T.n)(h1:T.adj k z)(h2:T.adj k' z)(h:T.cn (wo A z) k k'):k=k':=
 (conn_comp (T:=T) (A:=wo A z) (x:=k)).nb hz (fun hh=>hh.2.2.2.1.2 rfl) h.1 h.2.1 (cn.refl h.1 h.2.2.1) h h1 h2
def P (T:Tr)(z x y:Nat):Prop:=¬T.cn (wo (fun i=>i<T.n) z) x y
theorem P.left:T.P x x y:=fun h=>h.2.2.1.2 rfl
theorem P.right:T.P y x y:=fun h=>h.2.2.2.1.2 rfl
theorem P.symm (h:T.P z x y):T.P z y x:=fun h'=>h h'.symm
theorem P.lt (hx:x<T.n)(hy:y<T.n)(h:T.P z x y):z<T.n:=by
 apply Classical.byContradiction
 intro hz
 refine h ((conn_all x y hx hy hx hy).mono fun i hi _=>⟨hi,fun e=>hz (e▸hi)⟩)
theorem zk (hC:T.conn C)(hx:x<T.n)(hy:y<T.n)(cx:C x)(cy:C y):T.cn (wo C z) x y↔¬T.P z x y:=by
 unfold P
 rw[Classical.not_not]
 constructor
 ·exact fun h=>h.mono fun i hi h=>⟨hi,h.2⟩
 ·intro h
  have hD:=conn_comp (T:=T) (A:=wo (fun i=>i<T.n) z) (x:=x)
  exact ((hC.inter hD) x y hx hy ⟨cx,cn.refl hx h.2.2.1⟩ ⟨cy,h⟩).mono fun i _ hi=>⟨hi.1,hi.2.2.2.2.1.2⟩
theorem P.mem (hC:T.conn C)(hx:x<T.n)(hy:y<T.n)(cx:C x)(cy:C y)(h:T.P z x y):C z:=by
 apply Classical.byContradiction
 intro hz
 exact (zk hC hx hy cx cy).1 ((hC x y hx hy cx cy).mono fun i _ hi=>⟨hi,fun e=>hz (by rw[← e];exact hi)⟩) h
theorem P.split (z:Nat)(h:T.P u x y):T.P u x z∨T.P u z y:=by
 by_cases h1:T.P u x z
 ·exact .inl h1
 ·refine .inr fun h2=>h ((Classical.not_not.1 h1).trans h2)
theorem P.sub (h:T.P z x y)(h':T.P u x z):T.P u x y:=fun hc=>
 h ((conn_comp (T:=T) (A:=wo (fun i=>i<T.n) u) (x:=x) x y hc.1 hc.2.1 (cn.refl hc.1 hc.2.2.1) hc).mono fun i hi hh=>⟨hi,fun e=>h' (e▸hh)⟩)
theorem P.sub' (h:T.P z x y)(h':T.P u z y):T.P u x y:=(h.symm.sub h'.symm).symm
theorem rk (hz:z<T.n)(hx:x<T.n)(hne:u≠z)(h:T.P z u x)(hu:u<T.n):¬T.P u x z:=by
 intro hh
 by_cases hxz:x=z
 ·subst hxz
  exact hh (cn.refl hx ⟨hx,Ne.symm hne⟩)
 ·obtain⟨k,k1,k2⟩:=hop (conn_all (T:=T)) hz hx hz hx hxz
  have h1:T.cn (wo (fun i=>i<T.n) u) x k:=by
   refine (conn_comp (T:=T) (A:=wo (fun i=>i<T.n) z) (x:=x) x k hx k2.1 (cn.refl hx k2.2.2.2.1) k2.symm).mono fun i hi hc=>⟨hi,fun e=>?_⟩
   subst e
   exact h hc.symm
  exact hh (h1.trans (cn.of_adj k2.1 hz h1.2.2.2.1 ⟨hz,Ne.symm hne⟩ k1))
theorem P.meet (hx:x<T.n)(hy:y<T.n)(h:T.P z x y)(h1:T.P u x z)(h2:T.P u z y):u=z:=by
 apply Classical.byContradiction
 intro hne
 have hz:=h.lt hx hy
 have hu:=h1.lt hx hz
 rcases h.split u with h3|h3
 ·exact rk hz hx hne h3.symm hu h1
 ·exact rk hz hy hne h3 hu h2.symm
theorem hop_P (hm:m<T.n)(hk:T.adj k m)(h:T.cn (wo (fun i=>i<T.n) m) k x):T.P k m x:=by
 intro hc
 have hxm:x≠m:=h.2.2.2.1.2
 obtain⟨k',h1,h2⟩:=hop (conn_comp (T:=T) (A:=wo (fun i=>i<T.n) k) (x:=m)) hm h.2.1 (cn.refl hm hc.2.2.1) hc hxm
 have h3:T.cn (wo (fun i=>i<T.n) m) k' x:=h2.mono fun i hi hh=>⟨hi,hh.2⟩
 have:=hop_one hm hk h1 (h.trans h3.symm)
 subst this
 exact h2.2.2.1.1.2.2.2.1.2 rfl
noncomputable def dist (T:Tr)(x y:Nat):Nat:=(List.range T.n).countP fun z=>decide (T.P z x y)
theorem dist_lt (hz:z<T.n)(h:∀u,u<T.n→T.P u x y→T.P u c m)(h1:T.P z c m)(h2:¬T.P z x y):T.dist x y<T.dist c m:=by
 unfold dist
 have hle:∀l:List Nat,(∀u∈l,u<T.n)→l.countP (fun z=>decide (T.P z x y))+(if z∈l then 1 else 0)≤l.countP fun z=>decide (T.P z c m):=by
  intro l
  induction l with
  | nil=>intro _;simp
  | cons a l ih=>
   intro hl
   have:=ih fun u hu=>hl u (by simp[hu])
   have ha:=hl a (by simp)
   rw[List.countP_cons,List.countP_cons]
   by_cases haz:z=a
   ·subst haz
    simp only[h1,h2,decide_true,decide_false,List.mem_cons,true_or,if_true,Bool.false_eq_true,if_false]
    omega
   ·have e1:(z∈a::l)↔z∈l:=by simp[haz]
    simp only[e1]
    by_cases hp:T.P a x y
    ·have:=h a ha hp
     simp only[hp,this,decide_true,if_true]
     omega
    ·by_cases hq:T.P a c m
     ·simp only[hp,hq,decide_true,decide_false,if_true,Bool.false_eq_true,if_false]
      omega
     ·simp only[hp,hq,decide_false,Bool.false_eq_true,if_false]
      omega
 have:=hle (List.range T.n) (by simp)
 simp only[List.mem_range,hz,if_true] at this
 omega
theorem median (hx:x<T.n)(hy:y<T.n)(hc:c<T.n):∃m,T.P m x y∧T.P m x c∧T.P m y c:=by
 have:∀d m,T.P m x y→T.dist m c=d→∃m,T.P m x y∧T.P m x c∧T.P m y c:=by
  intro d
  induction d using Nat.strongRecOn with
  | _ d ih=>
   intro m hm hd
   have hml:=hm.lt hx hy
   have step:∀x y,x<T.n→y<T.n→T.P m x y→¬T.P m x c→∃k,T.P k x y∧T.dist k c<T.dist m c:=by
    intro x y hx hy hm h
    have h':=Classical.not_not.1 h
    obtain⟨k,k1,k2⟩:=hop (conn_all (T:=T)) hml hc hml hc h'.2.2.2.1.2
    have k3:T.cn (wo (fun i=>i<T.n) m) k x:=k2.trans h'.symm
    have p1:=hop_P hml k1 k3
    have p2:=hop_P hml k1 k2
    exact⟨k,hm.sub p1.symm,dist_lt hml (fun u _ hu=>p2.sub' hu) P.left fun h=>h k2⟩
   by_cases h1:T.P m x c
   ·by_cases h2:T.P m y c
    ·exact⟨m,hm,h1,h2⟩
    ·obtain⟨k,k1,k2⟩:=step y x hy hx hm.symm h2
     exact ih _ (by omega) k k1.symm rfl
   ·obtain⟨k,k1,k2⟩:=step x y hx hy hm h1
    exact ih _ (by omega) k k1 rfl
 exact this _ x P.left rfl
theorem near (hx:x<T.n)(hy:y<T.n)(hc:c<T.n)(hm:T.P m x y)(m1:T.P m x c)(m2:T.P m y c){n:Nat}(hn:T.P n x y):T.P m n c:=by
 have hml:=hm.lt hx hy
 rcases hn.split m with h|h
 ·-- n between x and m
  rcases m1.split n with h4|h4
  ·have:m=n:=by
    have:=P.meet hx hml h h4 (P.right (T:=T) (x:=n) (y:=m))
    exact this
   subst this
   exact P.left
  ·exact h4
 ·have h3:T.P n y c:=m2.sub h.symm
  rcases m2.split n with h4|h4
  ·have:m=n:=P.meet hy hml h.symm h4 (P.right (T:=T) (x:=n) (y:=m))
   subst this
   exact P.left
  ·exact h4
end Tr
end Go.Mono
