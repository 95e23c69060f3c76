/-
  Walks of functions and plain facts.
  No condition.
-/
import Derived.Test.YteildobhcnllmaaGreatDoorTC
import Derived.Test.YteildobhcnllmaaGreatDoorTB
import Derived.Test.YteildobhcnllmaaGreatDoorTA
import Derived.Test.YteildobhcnllmaaGreatDoorTD
import Derived.ArgAppend
import Derived.Deep.Upon
import Derived.Deep.Slices
set_option linter.unusedVariables false
set_option linter.unusedSimpArgs false
namespace Go.Mono
open Go Go.RowKit
structure kU (S:World→World→Prop)(J:World→Prop):Prop where
 rel:cR S
 st:∀{w w'},Ext w w'→J w→J w'
def nS (P:Program)(ops:Array Oper)(w0:World)(S:World→World→Prop)(J:World→Prop)(L:Env)(o:Oper)(A:VA):Prop:=
 ∀(a:Act) w,S w0 w→J w→(∀x∈o.op.operands,∀B,opd L x=some B→B.p (a.eval x) w)→(∀d B,cx ops o=some d→aC L d=some B→B.p (a.eval (.tmp d)) w) →
  if Region.wanted o (yielded ops a.tmps) then OpR P o a.eval w (fun v w'=>S w w'∧J w'∧A.p v w') else A.p undef w
structure tj (P:Program)(w0:World)(S:World→World→Prop)(J:World→Prop)(L:Env)(o:Oper)(A:VA):Prop where
 out:∀ρ w,S w0 w→J w→(∀x∈o.op.operands,∀B,opd L x=some B→B.p (ρ x) w)→OpR P o ρ w (fun v w'=>S w w'∧J w'∧A.p v w')
def gu (P:Program)(ops:Array Oper)(w0:World)(S:World→World→Prop)(J:World→Prop):List Oper→(Env→Prop)→Env→Prop
 | [],K,L=>K L
 | o::rest,K,L=>∃A,nS P ops w0 S J L o A∧StJ S A∧gu P ops w0 S J rest K (push o.dst A L)
section
variable {P:Program}{ops:Array Oper}{Q:Exit→Act→World→Prop}{w0:World}{n:Nat}{ds:List Deferred}{r:Option Nat}
theorem tk {S:World→World→Prop}{J:World→Prop}{K:Env→Prop}:∀(M:List Oper) (k:Nat) (L:Env),(∀j,j<M.length→ops[k+j]?=M[j]?)→gu P ops w0 S J M K L →
  ∃As:Nat→VA,(∀j o,j<M.length→ops[k+j]?=some o→nS P ops w0 S J (aV ops L As k j) o (As j)∧StJ S (As j))∧K (aV ops L As k M.length)
 | [],k,L,_,h=>⟨fun _=>Any,fun j o hj=>by simp at hj,h⟩
 | o::M,k,L,hM,⟨A,hA,hst,hr⟩=>by
  have h0:ops[k]?=some o:=by simpa using hM 0 (by simp)
  have hd:aR ops k=o.dst:=by simp[aR,h0]
  obtain⟨As,h1,h2⟩:=tk M (k+1) (push o.dst A L) (fun j hj=>by
   have:=hM (j+1) (by simpa using hj)
   rw[show k+1+j=k+(j+1) by omega]
   simpa using this) hr
  refine⟨eP A As,?_,?_⟩
  ·intro j o' hj ho'
   cases j with
   | zero=>
    rw[Nat.add_zero,h0] at ho'
    obtain rfl:=Option.some.inj ho'
    exact⟨hA,hst⟩
   | succ j=>
    rw[eQ,hd]
    exact h1 j o' (by simpa using hj) (by rw[show k+1+j=k+(j+1) by omega];exact ho')
  ·rw[List.length_cons,eQ,hd]
   exact h2
structure a1C (ops:Array Oper)(m n:Nat)(ds:List Deferred)(S:World→World→Prop)(J:World→Prop)(w0:World)(L:Env)(As:Nat→VA)(listed:Array Bool)(a:Act)(w:World):Prop where
 ext:S w0 w
 jw:J w
 size:a.tmps.size=n
 defers:a.defers=ds
 hL:∀t A,aC L t=some A→(∀j,j<m→aR ops j≠some t)→A.p (a.eval (.tmp t)) w
 hA:∀i,i<m→listed.getD i false=true→∀d,aR ops i=some d→(As i).p (a.eval (.tmp d)) w

theorem tm {S:World→World→Prop}{J:World→Prop}(hR:kU S J){m:Nat}{L:Env}{As:Nat→VA}(hm:m≤ops.size)(hchk:∀i,i<m→eD ops m n i=true)(hchk2:∀i,m≤i→i<ops.size→dO ops i=true)
  (hops:∀j o,j<m→ops[j]?=some o→nS P ops w0 S J (aV ops L As 0 j) o (As j)∧StJ S (As j)) (hLav:fB S L)
  (hend:∀a w,S w0 w→J w→FrD n ds a w (aV ops L As 0 m)→wpListIn (FW r) 0 P ops Q (ops.toList.drop m) a w) :
  ∀(c:Nat) (listed:Array Bool) (a:Act) (w:World),(List.range m).countP (fun i => !listed.getD i true)=c→listed.size=ops.size →
   (∀j,m≤j→j<ops.size→listed.getD j true=false)→LD ops listed→a1C ops m n ds S J w0 L As listed a w→wpAnyIn (FW r) 0 P .any ops Q (c+(ops.size - m)) listed a w
 | 0,listed,a,w,hc,hsz,hun,hld,hi=>by
  have hall:∀j,j<m→listed.getD j false=true:=by
   intro j hj
   have:=(List.countP_eq_zero.1 hc) j (List.mem_range.2 hj)
   have hjl:j<listed.size:=by omega
   simpa[hjl] using this
  rw[Nat.zero_add]
  refine iL m hchk2 (ops.size - m) m (by omega) (Nat.le_refl _) listed a w hall hun hsz hld (hend a w hi.ext hi.jw ⟨hi.size,hi.defers,fun t A ht=>?_⟩)
  rcases eE L As t A m ht with ⟨j,hj,hd,rfl⟩|⟨hn,hl⟩
  ·exact hi.hA j hj (hall j hj) t hd
  ·exact hi.hL t A hl hn
 | c+1,listed,a,w,hc,hsz,hun,hld,hi=>by
  have facts:∀i o,i<m→ops[i]?=some o→(∀e∈o.after,Region.binds .any e=true→e.on<i)∧(∀d,o.dst=some d→d<n) ∧
    (∀t,t∈dD o∨cx ops o=some t→∀j,j<m→aR ops j=some t→bnd ops i j=true)∧(∀j,j<m→j≠i→∀d,o.dst=some d→aR ops j≠some d):=by
   intro i o hlt ho
   have:=hchk i hlt
   simp only[eD,ho,Bool.and_eq_true,Array.all_eq_true_iff_forall_mem,Bool.or_eq_true,Bool.not_eq_true',List.all_eq_true,List.mem_range,List.mem_append,Option.mem_toList] at this
   obtain⟨⟨⟨h1,h2⟩,h3⟩,h4⟩:=this
   refine⟨fun e he hb=>?_,fun d hd=>?_,fun t ht j hj hd=>?_,fun j hj hne d hd hd'=>?_⟩
   ·rcases h1 e he with h|h
    ·rw[hb] at h;cases h
    ·simpa[Nat.blt_eq] using h
   ·simpa[hd,Nat.blt_eq] using h2
   ·have:=h3 t ht j hj
    rcases this with h|h
    ·rw[hd] at h;simp at h
    ·exact h
   ·have:=h4 j hj
    rcases this with h|h
    ·exact hne (Nat.eq_of_beq_eq_true h)
    ·rw[hd,hd'] at h;simp at h
  have prog:∃i,i<m∧listed.getD i true=false∧∀j,j<i→listed.getD j true=true:=by
   have hex:∃i,i<m∧listed.getD i true=false:=by
    have hpos:0<(List.range m).countP (fun i => !listed.getD i true):=by omega
    obtain⟨i,hi,hb⟩:=List.countP_pos_iff.1 hpos
    exact⟨i,List.mem_range.1 hi,by simpa using hb⟩
   obtain⟨i,hlt,hb⟩:=hex
   induction i using Nat.strongRecOn with
   | _ i ih=>
    by_cases h:∃j,j<i∧listed.getD j true=false
    ·obtain⟨j,hj,hjb⟩:=h
     exact ih j hj (by omega) hjb
    ·refine⟨i,hlt,hb,fun j hj=>?_⟩
     cases hjb:listed.getD j true with
     | true=>rfl
     | false=>exact absurd ⟨j,hj,hjb⟩ h
  obtain⟨i0,hi0,hu0,hbelow⟩:=prog
  have hready:i0∈Region.ready .any ops listed:=by
   have ho:ops[i0]?=some (ops[i0]'(by omega)):=by simp
   refine mem_ready.2 ⟨hu0,_,ho,fun e he hb=>?_⟩
   have hlt:=(facts i0 _ hi0 ho).1 e he hb
   have:=hbelow _ hlt
   have hjl:e.on<listed.size:=by omega
   simpa[hjl] using this
  rw[show c+1+(ops.size - m)=(c+(ops.size - m))+1 by omega]
  refine⟨fun h0=>(by rw[h0] at hready;cases hready),fun i hir=>?_⟩
  obtain⟨hu,o,ho,hall⟩:=mem_ready.1 hir
  have hilt:i<ops.size:=(Array.getElem?_eq_some_iff.1 ho).1
  have listed_of_bnd:∀j,bnd ops i j=true→listed.getD j false=true:=by
   intro j hb
   simp only[bnd,ho] at hb
   obtain⟨e,he,hb⟩:=Array.any_eq_true'.1 hb
   simp only[Bool.and_eq_true] at hb
   have:=hall e he hb.1
   rwa [Nat.eq_of_beq_eq_true hb.2] at this
  have him:i<m:=by
   rcases Nat.lt_or_ge i m with h|h
   ·exact h
   ·have hc:=hchk2 i h hilt
    simp only[dO,ho,Bool.and_eq_true,List.all_eq_true,List.mem_range] at hc
    have:=cov hld 12 i i0 (hc.2 i0 (by omega)) (fun o' ho' e he hb=>by
     rw[ho] at ho'
     obtain rfl:=Option.some.inj ho'
     exact hall e he hb)
    rw[ff hu0] at this
    cases this
  obtain⟨f1,f2,f3,f4⟩:=facts i o him ho
  have byLook:∀t,(t∈dD o∨cx ops o=some t)→∀B,aC (aV ops L As 0 i) t=some B→B.p (a.eval (.tmp t)) w:=by
   intro t ht B hB
   rcases eE L As t B i hB with ⟨j,hj,hd,rfl⟩|⟨hn,hl⟩
   ·exact hi.hA j (by omega) (listed_of_bnd j (f3 t ht j (by omega) hd)) t hd
   ·refine hi.hL t B hl fun j hj hd=>?_
    have hb:=f3 t ht j hj hd
    simp only[bnd,ho] at hb
    obtain⟨e,he,hb⟩:=Array.any_eq_true'.1 hb
    simp only[Bool.and_eq_true] at hb
    have hlt:=f1 e he hb.1
    rw[Nat.eq_of_beq_eq_true hb.2] at hlt
    exact hn j hlt hd
  have hg:=(hops i o him ho).1 a w hi.ext hi.jw (fun x hx B hB=>by
   cases x with
   | tmp t=>exact byLook t (.inl (List.mem_filterMap.2 ⟨.tmp t,by simpa using hx,rfl⟩)) B hB
   | const v=>simp[opd] at hB;subst hB;rfl
   | global g=>simp[opd] at hB;subst hB;rfl
   | func f=>simp[opd] at hB;subst hB;rfl) (fun d B hd hB=>byLook d (.inr hd) B hB)
  have hdst:aR ops i=o.dst:=by simp[aR,ho]
  have step:∀v w',S w w'→J w'→(As i).p v w'→wpAnyIn (FW r) 0 P .any ops Q (c+(ops.size - m)) (listed.setIfInBounds i true) (a.put o.dst v) w':=by
   intro v w' hx hj' hv
   refine tm hR hm hchk hchk2 hops hLav hend c _ _ _ ?_ (by simpa using hsz) ?_ ?_ ?_
   ·have:=jM m (fun j => !listed.getD j true) (fun j => !(listed.setIfInBounds i true).getD j true) i him (by simp only[hu,Bool.not_false])
     (by
       have hjl:i<listed.size:=by omega
       simp[hjl]) (fun j hj=>by simp only[getD_set_ne true (Ne.symm hj)])
    omega
   ·intro j hj hj'
    rw[getD_set_ne true (by omega)]
    exact hun j hj hj'
   ·exact hld.set fun o' ho' e he hb=>by
     rw[ho] at ho'
     obtain rfl:=Option.some.inj ho'
     exact hall e he hb
   ·refine⟨hR.rel.tr hi.ext hx,hj',by simp[hi.size],by simp[hi.defers],fun t A ht hn=>?_,fun j hj hl d hd=>?_⟩
    ·have h0:=hLav.av t A ht _ _ _ hx (hi.hL t A ht hn)
     cases hod:o.dst with
     | none=>exact h0
     | some d=>
      have:d≠t:=fun e=>hn i him (by rw[hdst,hod,e])
      rw[fc this]
      exact h0
    ·by_cases hji:j=i
     ·subst hji
      rw[hdst] at hd
      rw[hd,iK (by rw[hi.size];exact f2 d hd)]
      exact hv
     ·have hl':listed.getD j false=true:=by rwa [getD_set_ne false (Ne.symm hji)] at hl
      have h0:=(hops j (ops[j]'(by omega)) hj (by simp)).2.av _ _ _ hx (hi.hA j hj hl' d hd)
      cases hod:o.dst with
      | none=>exact h0
      | some d'=>
       have:d'≠d:=fun e=>f4 j hj hji d' hod (by rw[hd,e])
       rw[fc this]
       exact h0
  unfold wpOpIn
  simp only[ho]
  split
  ·rename_i hw
   rw[if_pos hw] at hg
   exact (hg.wp fun v w' hv=>step v w' hv.1 hv.2.1 hv.2.2)
  ·rename_i hw
   rw[if_neg hw] at hg
   exact⟨fun _ _=>trivial,step undef w (hR.rel.ext (Ext.rfl' _)) hi.jw hg⟩
theorem tn {id:Nat}{ops:Array Oper}{L:Env}{a:Act}{w:World}(m:Nat)(S:World→World→Prop)(J:World→Prop)(hR:kU S J)(hJ:J w)(hmix:P.follows .mixedOrders=true)(hf:FrD n ds a w L)[hL:fB S L](hchk:chk ops m n=true)
  (h:gu P ops w S J (ops.toList.take m) (fun L'=>∀a' w',S w w'→J w'→FrD n ds a' w' L'→wpListIn (FW r) 0 P ops Q (ops.toList.drop m) a' w') L):(Code.region id ops true).wpIn (FW r) 0 P Q a w:=by
 simp only[chk,Bool.and_eq_true,List.all_eq_true,List.mem_range,Bool.or_eq_true,Nat.ble_eq] at hchk
 obtain⟨⟨hm,h1⟩,h2⟩:=hchk
 refine wpIn_region_any hmix ?_
 have hlen:(ops.toList.take m).length=m:=by simp;omega
 obtain⟨As,hAs,hK⟩:=tk (ops:=ops) (ops.toList.take m) 0 L (fun j hj=>by
  rw[hlen] at hj
  rw[Nat.zero_add,List.getElem?_take,if_pos hj];simp) h
 rw[hlen] at hK hAs
 have hext:Ext w { w with drawn:=w.drawn+1 }:=Ext.drew w
 have:=tm (P:=P) (ops:=ops) (Q:=Q) (w0:=w) (n:=n) (ds:=ds) (m:=m) (S:=S) (J:=J) (r:=r) (L:=L) (As:=As) hR hm h1 (fun i hi hi'=>by
   rcases h2 i hi' with h|h
   ·simp only[Nat.blt_eq] at h;omega
   ·exact h) (fun j o hj ho=>hAs j o hj (by simpa using ho)) hL (fun a w hx hF hf=>hK a w hx hF hf) m
  (Array.replicate ops.size false) a { w with drawn:=w.drawn+1 } ?_ (by simp) ?_ ?_ ⟨hR.rel.ext hext,hR.st hext hJ,hf.size,hf.defers,fun t A ht _=>A.st _ _ _ hext (hf.val t A ht),fun i hi hl=>?_⟩
 ·rwa [show m+(ops.size - m)=ops.size by omega] at this
 ·have:(List.range m).countP (fun i => !(Array.replicate ops.size false).getD i true)=(List.range m).length:=by
   refine List.countP_eq_length.2 fun i hi=>?_
   have:=List.mem_range.1 hi
   have hlt:i<ops.size:=by omega
   simp[hlt]
  simpa using this
 ·intro j _ hj
  simp[hj]
 ·intro i o hl
  have:(Array.replicate ops.size false).getD i false=false:=by
   by_cases hlt:i<ops.size <;> simp[hlt]
  rw[this] at hl;cases hl
 ·have:(Array.replicate ops.size false).getD i false=false:=by
   by_cases hlt:i<ops.size <;> simp[hlt]
  rw[this] at hl;cases hl
end
section
variable {P:Program}{w0:World}{L:Env}{ty:TypeId}{pos:String}{aft:Array Edge}
variable {ops:Array Oper}{rest:List Oper}{K:Env→Prop}{A:VA}{op:Op}{dd:Nat}{S:World→World→Prop}{J:World→Prop}
theorem uf (hR:kU S J)(h:∀w1,S w0 w1→J w1→OpC P w1 L ⟨some dd,op,ty,pos,aft,none⟩ A)[hA:StJ S A](k:gu P ops w0 S J rest K ((dd,A)::L)):gu P ops w0 S J (⟨some dd,op,ty,pos,aft,none⟩::rest) K L:=
 ⟨A,fun a w h1 h2 hv _=>by
  simp only[Region.wanted,if_true]
  exact ((h w h1 h2).out _ w (Ext.rfl' w) hv).mono fun v w' ⟨e,k⟩=>⟨hR.rel.ext e,hR.st e h2,k⟩,hA,k⟩
theorem ux {d:Option Nat}(h:tj P w0 S J L ⟨d,op,ty,pos,aft,none⟩ A)[hA:StJ S A](k:gu P ops w0 S J rest K (push d A L)):gu P ops w0 S J (⟨d,op,ty,pos,aft,none⟩::rest) K L:=
 ⟨A,fun a w h1 h2 hv _=>by
  simp only[Region.wanted,if_true]
  exact h.out _ w h1 h2 hv,hA,k⟩
theorem ue (h:K L):gu P ops w0 S J [] K L:=h
theorem tp {dst:Option Tmp}{fo x:Operand}{id:FuncId}{caps al:Array Value}{u:Value}{tys:Array TypeId}{A:VA}(hf:Proofs.Enters P id)(hfo:opd L fo=some (E (.func (.func id) #[] caps)))(hx:opd L x=some (E u))(ha : #[u]++caps=al)
  (h:∀w,S w0 w→J w→Calls P id al w (fun e w'=>∃v,e=.returned v∧S w w'∧J w'∧A.p v w')) :
  tj P w0 S J L ⟨dst,.call ⟨.value fo,#[x],tys⟩,ty,pos,aft,none⟩ A:=by
 subst ha
 refine⟨fun ρ w h1 h2 hv=>?_⟩
 have hfv:ρ fo=.func (.func id) #[] caps:=hv fo (by simp[Op.operands,Call.operands]) _ hfo
 have hxv:ρ x=u:=hv x (by simp[Op.operands,Call.operands]) _ hx
 have hrun:(execOp ρ ⟨dst,.call ⟨.value fo,#[x],tys⟩,ty,pos,aft,none⟩).run P w=.ok (.enter id (#[u]++caps)) w:=by
  have h9:=hf (#[u]++caps) w
  simp[execOp,resolve,hfv,Deferred.ofValue,invoke,hxv,h9]
 simp only[OpR,hrun]
 exact (h w h1 h2).mono fun e w' ⟨r,k1,k2,k3,k4⟩=>⟨r,k1,k2,k3,k4⟩
end
section tail
variable {P:Program}{L:Env}{ty:TypeId}{pos:String}{aft:Array Edge}{r:Option Nat}{ds:List Deferred}
variable {ops:Array Oper}{rest:List Oper}{Q:Exit→Act→World→Prop}{n:Nat}{a:Act}{w:World}{x y z:Operand}{α β:Type}[DecidableEq α]
theorem a1D {V:KV P α β}{t:TypeId}{bm nn:Nat}{l:List (α×β)}{i:α}{c:β}(ht:P.underlying t=some (.map V.k V.e))(hf:FrD n ds a w L)[hL:AvL bm L](hx:opd L x=some (E (.map (some bm))))
  (hy:opd L y=some (E (V.kv i))) (hz:opd L z=some (E (V.mv c))) (hM:MpR V w bm nn l) (hn:nn<maxLen) (hi:V.ok i) (hc:V.okv c)
  (kk:∀w',w.grownBy w' (some bm)→MpR V w' bm (nn+1) (bE l i c)→FrD n ds a w' L→wpListIn (FW r) 0 P ops Q rest a w') :
  wpListIn (FW r) 0 P ops Q (⟨none,.insert t x y z,ty,pos,aft,none⟩::rest) a w:=
 wpListIn_plain rfl fun K hK=>by
  have hxv:a.eval x=.map (some bm):=hf.opd x _ hx
  have hyv:a.eval y=V.kv i:=hf.opd y _ hy
  have hzv:a.eval z=V.mv c:=hf.opd z _ hz
  obtain⟨w',h1,h2,h3⟩:=hM.put hi hc ht hn
  refine OpR.wp (R:=fun _ w1=>w1=w') ?_ ?_
  ·simp only[OpR,execOp,hxv,hyv,hzv,Sem.run_bind,h1,Result.andThen_ok,Sem.run_pure]
  ·rintro _ w1 rfl
   exact hK _ _ (kk _ h3 h2 (hf.gr h3))
end tail
end Go.Mono
namespace Go.Mono
open Go Go.Proofs Go.RowKit
theorem tq {α β:Type}{f:α→Option β}:∀{l:List α},(∀x∈l,∃y,f x=some y)→∃ys,l.mapM f=some ys
 | [],_=>⟨[],rfl⟩
 | x::l,h=>by
  obtain⟨y,hy⟩:=h x (by simp)
  obtain⟨ys,hys⟩:=tq (l:=l) fun z hz=>h z (by simp[hz])
  exact⟨y::ys,by simp[List.mapM_cons,hy,hys]⟩
theorem tt {α β:Type}{f:α→Option β}:∀{l:List α} {ys:List β},l.mapM f=some ys→∀x∈l,∃y,f x=some y
 | [],_,_,x,hx=>by cases hx
 | a::l,ys,h,x,hx=>by
  rw[List.mapM_cons] at h
  cases hfa:f a with
  | none=>rw[hfa] at h;cases h
  | some y=>
   rw[hfa] at h
   cases hl:l.mapM f with
   | none=>rw[hl] at h;cases h
   | some zs=>
    rcases List.mem_cons.1 hx with rfl|hx
    ·exact⟨y,hfa⟩
    ·exact tt hl x hx
theorem a1E:Tryz.prog.keyType 68=true:=by kernel_rfl
theorem nT:Tryz.prog.cellsOf 68=16:=by kernel_rfl
theorem tu:Tryz.prog.cellsOf 66=1:=by kernel_rfl
theorem a1F:(68:TypeId)<Tryz.prog.types.size:=of_decide_eq_true (by kernel_rfl)
theorem a1G:Tryz.prog.keyTypeAt 2 68=true:=by kernel_rfl
theorem tw:WideMaps.KeyLaw Tryz.prog 68:=by
 have h1:2+1≤10000:=by omega
 refine deep_law_laid laidOut (m:=2) h1 a1F a1G ?_
 rw[U68]
theorem a1H (x:BitVec 64):(Lit.int .u64 (x.toNat:Int)).wf=true:=by
 have h1:IntKind.u64.min=0:=by decide
 have h2:IntKind.u64.max=18446744073709551615:=by decide
 simp only[Lit.wf,h1,h2,Bool.and_eq_true,decide_eq_true_eq]
 omega
theorem a1I {z:Int}(h:(Lit.int .u64 z).wf=true):Value.int .u64 z=Mono.W (BitVec.ofNat 64 z.toNat):=by
 have h1:IntKind.u64.min=0:=by decide
 have h2:IntKind.u64.max=18446744073709551615:=by decide
 simp only[Lit.wf,h1,h2,Bool.and_eq_true,decide_eq_true_eq] at h
 rw[Mono.W,BitVec.toNat_ofNat,Nat.mod_eq_of_lt (by omega),Int.toNat_of_nonneg h.1]
theorem a1J (S:BS):∃L,Tryz.prog.keyLits (Tryz.prog.types.size+1) 68 (au S).toList=some L:=by
 have hl:(au S).toList.length=16:=by rw[Array.length_toList,aZ]
 have hm:∃ys,(List.range 16).mapM (fun i=>Tryz.prog.keyLits Tryz.prog.types.size 66 (((au S).toList.drop (i * Tryz.prog.cellsOf 66)).take (Tryz.prog.cellsOf 66)))=some ys:=by
  refine tq fun i hi=>?_
  have hi:=List.mem_range.1 hi
  have hc:((au S).toList.drop (i * Tryz.prog.cellsOf 66)).take (Tryz.prog.cellsOf 66)=[W (am S i)]:=by
   rw[tu,Nat.mul_one]
   refine List.ext_getElem? fun j=>?_
   rw[List.getElem?_take]
   cases j with
   | zero=>
    rw[if_pos (by omega),List.getElem?_drop,Array.getElem?_toList]
    exact cp _ i hi
   | succ j=>rw[if_neg (by omega)];rfl
  rw[hc,kt]
  refine⟨[.int .u64 ((am S i).toNat:Int)],?_⟩
  unfold Program.keyLits
  simp only[U66,W]
  rw[if_pos ⟨trivial,a1H _⟩]
 obtain⟨ys,hy⟩:=hm
 unfold Program.keyLits
 simp only[U68]
 rw[if_pos (by rw[hl,nT]),hy]
 exact⟨_,rfl⟩
theorem iw (S:BS):∃l,keyOf Tryz.prog 68 (ac S)=some l:=by
 obtain⟨L,hL⟩:=a1J S
 refine⟨.string (keyBytes L),?_⟩
 have hf:(ac S).formed Tryz.prog 68=true:=by
  simp only[ac,Value.formed,U68,nT,aZ];rfl
 unfold keyOf
 simp only[U68]
 rw[a1E,hf]
 have hc:(ac S).cells=au S:=rfl
 rw[hc,hL]
 rfl
theorem tx {v:Value}{l:Lit}(h:keyOf Tryz.prog 68 v=some l):∃S,v=ac S:=by
 obtain⟨xs,L,rfl,hL,_⟩:=keyOf_top (by simp[U68]) h
 unfold Program.keyLits at hL
 simp only[U68] at hL
 split at hL
 ·rename_i hlen
  rw[nT,Array.length_toList] at hlen
  cases hq:(List.range 16).mapM (fun i=>Tryz.prog.keyLits Tryz.prog.types.size 66 ((xs.toList.drop (i * Tryz.prog.cellsOf 66)).take (Tryz.prog.cellsOf 66))) with
  | none=>rw[hq] at hL;cases hL
  | some ys=>
   have hw:∀i,i<16→∃y:BitVec 64,xs[i]?=some (W y):=by
    intro i hi
    obtain⟨y,hy⟩:=tt hq i (List.mem_range.2 hi)
    obtain⟨x,hx⟩:∃x,xs[i]?=some x:=⟨_,Array.getElem?_eq_getElem (by omega)⟩
    have hc:(xs.toList.drop (i * Tryz.prog.cellsOf 66)).take (Tryz.prog.cellsOf 66)=[x]:=by
     rw[tu,Nat.mul_one]
     refine List.ext_getElem? fun j=>?_
     rw[List.getElem?_take]
     cases j with
     | zero=>
      rw[if_pos (by omega),List.getElem?_drop,Array.getElem?_toList]
      exact hx
     | succ j=>rw[if_neg (by omega)];rfl
    rw[hc,kt] at hy
    unfold Program.keyLits at hy
    simp only[U66] at hy
    cases x with
    | int q z=>
     simp only at hy
     split at hy
     ·rename_i hwf
      obtain⟨rfl,h2⟩:=hwf
      exact⟨_,by rw[hx,a1I h2]⟩
     ·cases hy
    | _=>cases hy
   obtain⟨f,hf⟩:∃f:Nat→BitVec 64,∀i,i<16→xs[i]?=some (W (f i)):=⟨fun i=>if h:i<16 then Classical.choose (hw i h) else 0,fun i hi=>by
    simp only
    rw[dif_pos hi];exact Classical.choose_spec (hw i hi)⟩
   refine⟨ofW f 16,?_⟩
   rw[ac,yh]
   refine congrArg Value.agg (Array.ext_getElem? fun i=>?_)
   by_cases hi:i<16
   ·rw[hf i hi,cp _ _ hi]
   ·rw[Array.getElem?_eq_none (by omega),Array.getElem?_eq_none (by rw[fm];omega)]
 ·cases hL
noncomputable def kKV:KV Tryz.prog BS Int where
 k:=68
 e:=3
 kv:=ac
 kl:=fun S=>Classical.choose (iw S)
 ok:=fun _=>True
 mv:=fun c=>.int .i64 c
 dv:=fun c=>.lit (.int .i64 c)
 okv:=fun c=>(Lit.int .i64 c).wf=true
 R:=plainElem Tryz.prog 3
 K:=Maps.Keyed.of_law tw
 key:=fun S _=>Classical.choose_spec (iw S)
 keyInv:=fun v l h=>by
  obtain⟨S,rfl⟩:=tx h
  exact⟨S,trivial,rfl,Option.some.inj (h.symm.trans (Classical.choose_spec (iw S)))⟩
 kvInj:=fun x y h=>mG (by injection h)
 val:=fun c hc=>plainElem_int U3 hc
 valInv:=fun v y h=>by
  obtain⟨c,h1,h2,h3⟩:=plainElem_int_inv U3 h
  exact⟨c,h3,h1,h2⟩
 dvInj:=fun c c' h=>by cases h;rfl

theorem MpR.tight {P:Program}{α β:Type}{V:KV P α β}{w:World}{b n:Nat}{l:List (α×β)}(h:MpR V w b n l):MpR V w b l.length l:=by
 obtain⟨es,⟨es',clock,h1,h2,h3,h4⟩,hp,h5,h6⟩:=h
 refine⟨es,⟨es',clock,h1,h2,?_,h4⟩,hp,h5,h6⟩
 have hf:∀m:List (Lit×DataW Unit),(m.foldr DataW.insert []).length=m.length:=by
  intro m
  induction m with
  | nil=>rfl
  | cons x m ih=>rw[List.foldr_cons,(kq x _).length_eq,List.length_cons,List.length_cons,ih]
 injection h4 with h4
 have h7:=congrArg List.length h4
 rw[hf,List.length_map] at h7
 have h8:es'.toList.length=es'.size:=Array.length_toList
 have h9:=hp.length_eq
 rw[List.length_map] at h9
 omega
theorem a1K:∀(k:Nat) (T:BS) (l:List BS),card T=k→l.Nodup→(∀S∈l,∀i,S.getLsbD i=true→T.getLsbD i=true)→l.length≤2 ^ k:=by
 intro k
 induction k with
 | zero=>
  intro T l hc hn hs
  have hz:∀S∈l,S=0:=fun S hS=>bT fun i=>⟨fun h=>by have:=jy (hs S hS i h);omega,fun h=>absurd h (aW i)⟩
  match l with
  | []=>simp
  | [_]=>simp
  | a::b::r=>
   have h1:=hz a (by simp)
   have h2:=hz b (by simp)
   rw[h1,h2] at hn
   simp at hn
 | succ k ih=>
  intro T l hc hn hs
  have hex:∃v,T.getLsbD v=true:=Classical.byContradiction fun hn=>by
   have h0:T=0:=bT fun k=>⟨fun hk=>absurd ⟨k,hk⟩ hn,fun hk=>absurd hk (aW k)⟩
   rw[h0,gn] at hc;cases hc
  obtain⟨v,hv⟩:=hex
  have hv':=ay hv
  have e0:T=T &&& ~~~(0:BS):=bT fun i=>⟨fun h=>(bH _ _ _).2 ⟨h,aW i⟩,fun h=>((bH _ _ _).1 h).1⟩
  have hT':card (del T (v:Int))=k:=by
   have h1:=gq (all:=T) (S:=0) (v:=v) (by rw[← e0];exact hv)
   have h2:(T &&& ~~~(ins 0 (v:Int)))=del T (v:Int):=bT fun i=>by
    rw[iv hv',← e0,bu _ hv']
   rw[← e0,h2] at h1
   omega
  have hlen:l.length=(l.filter fun S=>S.getLsbD v).length+(l.filter fun S => !S.getLsbD v).length:=by
   clear hn hs
   induction l with
   | nil=>rfl
   | cons a l ih2=>cases h:a.getLsbD v <;> simp[h,ih2] <;> omega
  have h1:(l.filter fun S => !S.getLsbD v).length≤2 ^ k:=by
   refine ih (del T (v:Int)) _ hT' (hn.sublist List.filter_sublist) fun S hS i hi=>?_
   obtain⟨q1,q2⟩:=List.mem_filter.1 hS
   refine (bu _ hv').2 ⟨hs S q1 i hi,fun e=>?_⟩
   rw[e] at hi
   rw[hi] at q2;cases q2
  have h2:((l.filter fun S=>S.getLsbD v).map fun S=>del S (v:Int)).length≤2 ^ k:=by
   refine ih (del T (v:Int)) _ hT' ?_ fun S hS i hi=>?_
   ·have hn2:=hn.sublist (List.filter_sublist (p:=fun S=>S.getLsbD v))
    have hm:∀S∈l.filter fun S=>S.getLsbD v,S.getLsbD v=true:=fun S hS=>(List.mem_filter.1 hS).2
    generalize (l.filter fun S=>S.getLsbD v)=m at hn2 hm
    induction m with
    | nil=>exact List.nodup_nil
    | cons a m ihm=>
     rw[List.map_cons,List.nodup_cons]
     obtain⟨p1,p2⟩:=List.nodup_cons.1 hn2
     refine⟨fun h=>?_,ihm p2 fun S hS=>hm S (by simp[hS])⟩
     obtain⟨b,hb,hab⟩:=List.mem_map.1 h
     have hba:b=a:=bT fun i=>by
      by_cases hi:i=v
      ·rw[hi];simp[hm a (by simp),hm b (by simp[hb])]
      ·have h5:=congrArg (fun S:BS=>S.getLsbD i=true) hab
       simp only[bu _ hv',eq_iff_iff] at h5
       exact⟨fun h=>(h5.1 ⟨h,hi⟩).1,fun h=>(h5.2 ⟨h,hi⟩).1⟩
     rw[hba] at hb
     exact p1 hb
   ·obtain⟨S',q1,rfl⟩:=List.mem_map.1 hS
    obtain⟨q3,q4⟩:=(bu _ hv').1 hi
    exact (bu _ hv').2 ⟨hs S' (List.mem_filter.1 q1).1 i q3,q4⟩
  rw[List.length_map] at h2
  rw[Nat.pow_succ];omega
def Mm (nb:Int→BS)(all:BS)(bm:Nat)(w:World):Prop:=
 ∃l,MpR kKV w bm l.length l∧(all,(-1:Int))∈l∧∀p∈l,p.2=rsR nb all p.1∧∀i,p.1.getLsbD i=true→all.getLsbD i=true
section
variable {nb:Int→BS}{all:BS}{bm:Nat}{w w':World}
theorem Mm.lt (h:Mm nb all bm w):bm<w.heap.size:=by obtain⟨l,h1,_⟩:=h;exact h1.lt
theorem Mm.pres (h:Mm nb all bm w)(hb:w'.heap[bm]?=w.heap[bm]?):Mm nb all bm w':=by obtain⟨l,h1,h2⟩:=h;exact⟨l,h1.pres hb,h2⟩
theorem Mm.ext (h:Mm nb all bm w)(e:Ext w w'):Mm nb all bm w':=h.pres (e.block bm h.lt)
theorem Mm.gr {b:Nat}(h:Mm nb all bm w)(hg:w.grownBy w' (some b))(hb:bm≠b):Mm nb all bm w':=h.pres (hg.block bm h.lt (fun e=>hb (by cases e;rfl)))
theorem Mm.kp {B:Nat}(h:Mm nb all bm w)(k:Kp B w w')(hb:bm<B):Mm nb all bm w':=h.pres (k.same bm h.lt fun hh=>by have:=hh.1;omega)
end
def fF (b1 b2 b3 b4:Nat):Value:=.func (.func 57) #[] #[ptr b1,ptr b2,ptr b3,ptr b4]
structure RC (G:Nat→Prop)(l0:List (Int×BS))(all:BS)(b1 b2 b3 b4 bm:Nat)(nv:Value)(w:World):Prop where
 t:Tab w
 k:Blk w b1 #[.map (some bm)] 113
 a:Blk w b2 (au all) 68
 n:Blk w b3 #[nv] 64
 o:Blk w b4 #[fF b1 b2 b3 b4] 70
 nd:(Dv (mpE sKV 1024) G l0).p nv w
 g:G bm
 ne:0<bm∧b1≠bm∧b2≠bm∧b3≠bm∧b4≠bm
section
variable {G G':Nat→Prop}{l0:List (Int×BS)}{all:BS}{b1 b2 b3 b4 bm:Nat}{nv:Value}{w w':World}
theorem RC.ch (h:RC G l0 all b1 b2 b3 b4 bm nv w)(c:Chg (fun b=>b=bm) w w'):RC G l0 all b1 b2 b3 b4 bm nv w':=by
 obtain⟨n0,n1,n2,n3,n4⟩:=h.ne
 exact⟨h.t.ch c (by omega),h.k.ch c n1,h.a.ch c n2,h.n.ch c n3,h.o.ch c n4,Dv.ch h.nd c (fun b hb=>by rw[hb];exact h.g),h.g,h.ne⟩
theorem RC.ext (h:RC G l0 all b1 b2 b3 b4 bm nv w)(e:Ext w w'):RC G l0 all b1 b2 b3 b4 bm nv w':=h.ch (e.chg _)
theorem RC.gr (h:RC G l0 all b1 b2 b3 b4 bm nv w){b:Nat}(hg:w.grownBy w' (some b))(hG:G b)(hb:b≠b1∧b≠b2∧b≠b3∧b≠b4)(h0:0<b):RC G l0 all b1 b2 b3 b4 bm nv w':=
 ⟨h.t.gr hg h0,h.k.gr hg (fun e=>by cases e;omega),h.a.gr hg (fun e=>by cases e;omega),h.n.gr hg (fun e=>by cases e;omega),h.o.gr hg (fun e=>by cases e;omega),Dv.grN h.nd hg (fun c hc=>by cases hc;exact hG),h.g,h.ne⟩
theorem RC.kp {B:Nat}(h:RC G l0 all b1 b2 b3 b4 bm nv w)(k:Kp B w w')(hG:∀b,aS B b→G b)(hb:b1<B∧b2<B∧b3<B∧b4<B):RC G l0 all b1 b2 b3 b4 bm nv w':=
 ⟨h.t.kp k (by omega),h.k.kp k (fun hh=>by have:=hh.1;omega),h.a.kp k (fun hh=>by have:=hh.1;omega),h.n.kp k (fun hh=>by have:=hh.1;omega),h.o.kp k (fun hh=>by have:=hh.1;omega),Dv.ch h.nd k.chg hG,h.g,h.ne⟩
theorem RC.weak (h:RC G l0 all b1 b2 b3 b4 bm nv w)(hG:∀b,b<w.heap.size→G' b→G b)(hg:G' bm):RC G' l0 all b1 b2 b3 b4 bm nv w:=
 ⟨h.t,h.k,h.a,h.n,h.o,Dv.weak h.nd hG,hg,h.ne⟩
theorem RC.lt (h:RC G l0 all b1 b2 b3 b4 bm nv w):b1<w.heap.size∧b2<w.heap.size∧b3<w.heap.size∧b4<w.heap.size:=⟨h.k.lt,h.a.lt,h.n.lt,h.o.lt⟩
end
theorem Chg.kp {S:Nat→Prop}{B:Nat}{W w w':World}(c:Chg S W w)(k:Kp B w w')(h:W.heap.size≤B):Chg S W w':=c.tr2 k.chg fun b hb=>.inr (by have:=hb.1;omega)
theorem Kh.chg {B:Nat}{S:Nat→Prop}{w w':World}(c:Chg S w w')(h:∀b,S b→¬aS B b):Kh B w w':=⟨c.size,fun b hb hh=>c.block b hb fun hs=>h b hs hh⟩
theorem Mm.put {nb:Int→BS}{all S:BS}{bm n:Nat}{l:List (BS×Int)}{w:World}(h:MpR kKV w bm n (bE l S (rsR nb all S)))(hal:(all,(-1:Int))∈l)(hl:∀p∈l,p.2=rsR nb all p.1∧∀i,p.1.getLsbD i=true→all.getLsbD i=true)(hne:S≠all)(hS:∀i,S.getLsbD i=true→all.getLsbD i=true):Mm nb all bm w:=by
 refine⟨_,h.tight,?_,?_⟩
 ·rw[bE]
  exact List.mem_cons_of_mem _ (List.mem_filter.2 ⟨hal,by rw[decide_eq_false (show ¬(all,(-1:Int)).1=S from fun e=>hne e.symm)];rfl⟩)
 ·intro p hp
  rw[bE] at hp
  rcases List.mem_cons.1 hp with rfl|hp
  ·exact⟨by dsimp only,hS⟩
  ·exact hl p (List.mem_filter.1 hp).1
theorem Mm.few {nb:Int→BS}{all:BS}{bm n:Nat}{l:List (BS×Int)}{w:World}(h:MpR kKV w bm n l)(hl:∀p∈l,p.2=rsR nb all p.1∧∀i,p.1.getLsbD i=true→all.getLsbD i=true)(hc:card all≤12):l.length≤4096:=by
 obtain⟨_,_,_,_,hp⟩:=h
 have h1:(l.map (·.1)).Nodup:=List.pairwise_map.2 (hp.imp fun h=>h)
 have h2:=a1K (card all) all (l.map (·.1)) rfl h1 fun S hS i hi=>by
  obtain⟨p,hp,rfl⟩:=List.mem_map.1 hS
  exact (hl p hp).2 i hi
 rw[List.length_map] at h2
 exact Nat.le_trans h2 (Nat.le_trans (Nat.pow_le_pow_right (by omega) hc) (by decide))

structure RsJ (W:World)(l0:List (Int×BS))(all S:BS)(b1 b2 b3 b4 bm b5 b9:Nat)(nv:Value)(s:List Nat)(w:World):Prop where
 c:Chg (fun b=>b=bm) W w
 r:RC (GB W fun b=>b=bm) l0 all b1 b2 b3 b4 bm nv w
 m:Mm (lkS l0) all bm w
 p5:Blk w b5 (au S) 68
 p9:Blk w b9 #[I (s.foldl (rsS (lkS l0) (rsR (lkS l0) all) S) 12)] 3
theorem RsJ.kp {W:World}{l0:List (Int×BS)}{all S:BS}{b1 b2 b3 b4 bm b5 b9:Nat}{nv:Value}{s:List Nat}{B:Nat}{w w':World}(h:RsJ W l0 all S b1 b2 b3 b4 bm b5 b9 nv s w)(k:Kp B w w')(hW:W.heap.size≤B)(l4:b1<B∧b2<B∧b3<B∧b4<B)(lm:bm<B)(l5:b5<B)(l9:b9<B):RsJ W l0 all S b1 b2 b3 b4 bm b5 b9 nv s w':=
 ⟨h.c.kp k hW,h.r.kp k (fun b hb=>.inr (by have:=hb.1;omega)) l4,h.m.kp k lm,h.p5.kp k (fun hh=>by have:=hh.1;omega),h.p9.kp k (fun hh=>by have:=hh.1;omega)⟩
theorem cb (nb:Int→BS)(all:BS)(bm:Nat):kU (Chg fun b=>b=bm) (Mm nb all bm):=⟨cR.one bm,fun e h=>h.ext e⟩
theorem tC (l0:List (Int×BS))(all:BS)(b1 b2 b3 b4 bm:Nat)(nv:Value)(hc12:card all≤12):∀(f:Nat) (S:BS) (W:World),card (all &&& ~~~S)=f→(∀i,S.getLsbD i=true→all.getLsbD i=true) →
  RC (fun b=>b=bm) l0 all b1 b2 b3 b4 bm nv W→Mm (lkS l0) all bm W →
  Calls Tryz.prog 57 #[ac S,ptr b1,ptr b2,ptr b3,ptr b4] W (fun e w'=>∃v,e=.returned v∧Chg (fun b=>b=bm) W w'∧Mm (lkS l0) all bm w'∧(E (I (rsR (lkS l0) all S))).p v w'):=by
 intro f
 induction f using Nat.strongRecOn with
 | _ f ih=>
  intro S W hcf hSa R M
  have hT0:=R.t.lt
  obtain⟨n0,n1,n2,n3,n4⟩:=R.ne
  obtain⟨r1,r2,r3,r4⟩:=R.lt
  have rm:=M.lt
  replace R:=R.weak (G':=GB W fun b=>b=bm) (fun b hb h=>h.elim id fun h=>absurd hb (Nat.not_lt.2 h)) (.inl rfl)
  refine cq (args:=[ac S,ptr b1,ptr b2,ptr b3,ptr b4]) (As:=[E (ac S),E (ptr b1),E (ptr b2),E (ptr b3),E (ptr b4)]) Tryz.func57 rfl Tryz.ntmps57 (Nat.le_of_ble_eq_true rfl) ?_ (fun a hf=>?_) (Nat.le_of_ble_eq_true rfl)
  ·exact aQ rfl (aQ rfl (aQ rfl (aQ rfl (aQ rfl cO))))
  dsimp only[params,Nat.reduceAdd] at hf
  have e:=Ext.rfl' W
  refine seq <| ae <| tB hf rfl fun a b5 w v5 hv5 e' hb5 hs5 B5 hf=>?_
  replace R:=R.ext e'
  replace M:=M.ext e'
  replace e:=e.tr e'
  refine tA hf rfl fun a hf=>aa ?_
  cases hv5
  replace B5:Blk w b5 (au S) 68:=B5
  replace hf:=hf.keep [1,2,3,4,5]
  obtain⟨l,hM,hal,hl⟩:=id M
  repeat refine seq ?_
  refine rgN 6 hf <| st (ld1 (v:=.map (some bm)) mi rfl R.k rfl) <| st ((ldW T68 rfl B5 rfl).eq ((rfl:_=ac S))) <| st (kr (V:=kKV) (l:=l) (N:=l.length) (G:=G0) (i:=S) (z:=0) mA (fV I3) (show (Lit.int .i64 0).wf=true by decide) (isE rfl ⟨[.map (some bm)],⟨bm,l.length,rfl,fun h=>h.elim,Nat.le_refl _,hM⟩,rfl⟩) rfl trivial) <| st (mv rfl) <| st (aO rfl rfl) <| st (aO rfl rfl) <| en fun a w e' hf=>?_
  replace R:=R.ext e'
  replace M:=M.ext e'
  replace e:=e.tr e'
  replace B5:=B5.ext e'
  refine tA hf rfl fun a hf=>tA hf rfl fun a hf=>aa ?_
  cases hk:l.any (fun p=>decide (p.1=S)) with
  | true=>
   rw[hk] at hf
   obtain⟨v7,⟨c0,rfl,q1,q2⟩,hf⟩:=hf.opn 7 rfl
   have hc0:c0=rsR (lkS l0) all S:=by
    rw[List.any_eq_true] at hk
    obtain⟨p,hp,hp2⟩:=hk
    have hp3:p.1=S:=by simpa using hp2
    exact (hl _ (q1 ⟨p.2,by rw[← hp3];exact hp⟩)).1
   refine seq <| rgN 1 hf <| st (mv rfl) <| en fun a w e' hf=>?_
   replace R:=R.ext e'
   replace M:=M.ext e'
   replace e:=e.tr e'
   replace B5:=B5.ext e'
   refine aa <| ifc hf rfl (fun _=>?_) (fun h=>by cases h)
   refine seq <| rgN 1 hf <| st (mv rfl) <| en fun a w e' hf=>?_
   replace R:=R.ext e'
   replace M:=M.ext e'
   replace e:=e.tr e'
   replace B5:=B5.ext e'
   refine tA hf rfl fun a hf=>aa <| ai <| gf (D:=[]) rfl hf rfl (Ds.nil _) ⟨_,rfl,e.chg _,M,by rw[← hc0];rfl⟩
  | false=>
   rw[hk] at hf
   have hno:∀c,(S,c) ∉ l:=fun c hc=>by
    have:=List.any_eq_false.1 hk _ hc
    simp at this
   have hne:S≠all:=fun h=>hno (-1) (by rw[h];exact hal)
   refine seq <| rgN 1 hf <| st (mv rfl) <| en fun a w e' hf=>?_
   replace R:=R.ext e'
   replace M:=M.ext e'
   replace e:=e.tr e'
   replace B5:=B5.ext e'
   refine aa <| ifc hf rfl (fun h=>by cases h) (fun _=>?_)
   refine ak ?_
   replace hf:=hf.kp [1,2,3,4,5]
   refine seq <| ae <| tL I3 hf fun a b9 w e' hb9 hs9 B9 hf=>?_
   have lt9_B5:=B5.lt
   replace R:=R.ext e'
   replace M:=M.ext e'
   replace e:=e.tr e'
   replace B5:=B5.ext e'
   haveI hinr:∀G0,InR (GB W G0) (some b9):=fun G0=>InR.gb (by omega)
   refine aA T3 hf rfl rfl rfl B9 (by decide) fun w hg hsz B9 hf=>?_
   replace R:=R.gr hg (.inr (by omega)) (by omega) (by omega)
   replace M:=M.gr hg (by omega)
   replace e:=e.gr hg (by omega)
   replace B5:=B5.gr hg (by omega)
   refine aa ?_
   replace B9:Blk w b9 #[I 12] 3:=B9
   replace hf:=hf.kp [1,2,3,4,5,9]
   obtain⟨D,hD⟩:∃D,D=all &&& ~~~S:=⟨_,rfl⟩
   repeat refine seq ?_
   refine rgN 4 hf <| st ((ldW T68 rfl R.a rfl).eq ((rfl:_=ac all))) <| st ((ldW T68 rfl B5 rfl).eq ((rfl:_=ac S))) <| st (ar (A:=E (ac D)) cX rfl rfl (fun v u w he h h'=>by cases h;cases h';rw[hD];exact db all S w)) ?_
   refine st (an (A:=bW 0 D) cg rfl (fun v w' he h=>by cases h;exact Calls.mono (cm _ w') (fun en w2 ⟨u,h1,h2,b',h3,h4,h5⟩=>⟨u,h1,h2,b',Nat.zero_le _,h4,h5⟩))) ?_
   refine en fun a w e' hf=>?_
   replace R:=R.ext e'
   replace M:=M.ext e'
   replace e:=e.tr e'
   replace B5:=B5.ext e'
   replace B9:=B9.ext e'
   refine aa ?_
   obtain⟨v23,⟨b23,h23,rfl,BS⟩,hf⟩:=hf.fix 23 rfl
   replace hf:=hf.kp [1,2,3,4,5,9,23]
   have hBW:W.heap.size≤w.heap.size:=e.size
   have l5:=B5.lt
   have l9:=B9.lt
   have lm:=M.lt
   have l4:=R.lt
   have n5:b5≠bm∧b9≠bm∧b9≠b5∧W.heap.size≤b5∧W.heap.size≤b9:=by omega
   refine blk <| cC (S:=D) hf rfl BS (by decide) (fun s w1=>RsJ W l0 all S b1 b2 b3 b4 bm b5 b9 nv s w1) (fun _ _=>False) (fun s w1 h=>h.r.t)
    ⟨e.chg _,R,M,B5,B9⟩ (fun s w1 w2 h hs k=>h.kp k hBW l4 lm l5 l9) (fun _ _ _ h=>h.elim) ?_ ?_ (fun _ _ _ _ _ _ h=>h.elim)
   ·intro lp s x rest a1 w1 hs hJ hlw hf
    have hxD:=(aH.1 (show x∈elems D by rw[hs];simp)).2
    rw[hD] at hxD
    have hx1024:=ay hxD
    have hwx:(Lit.int .i64 (x:Int)).wf=true:=bh (by omega) (by omega)
    have hcd:=gq hxD
    have hSx:∀i,(ins S (x:Int)).getLsbD i=true→all.getLsbD i=true:=fun i hi=>((aX S hx1024).1 hi).elim (hSa i) fun h=>by rw[h];exact ((bH _ _ _).1 hxD).1
    have hstep:(s++[x]).foldl (rsS (lkS l0) (rsR (lkS l0) all) S) 12=rsS (lkS l0) (rsR (lkS l0) all) S (s.foldl (rsS (lkS l0) (rsR (lkS l0) all) S) 12) x:=by rw[List.foldl_append];rfl
    generalize hBz:w.heap.size=Bz at *
    refine ae <| tA hf rfl fun a hf=>aa <| ⟨Kh.rfl' _ _,fun w3 k3 hsz3=>?_⟩
    have hJ3:=hJ.kp k3 hBW l4 lm l5 l9
    replace hf:=hf.pure w3
    obtain⟨c,R,M,B5,B9⟩:=hJ3
    obtain⟨best,hbest⟩:∃best,best=s.foldl (rsS (lkS l0) (rsR (lkS l0) all) S) 12:=⟨_,rfl⟩
    rw[← hbest] at B9 hstep
    have kh:=Kh.rfl' Bz w3
    replace hf:=hf.keep [1,2,3,4,5,9,10]
    refine blk <| seq <| rgN 5 hf <| st (ld1 (v:=nv) T64 rfl R.n rfl) <| st ((ldW T68 rfl B5 rfl).eq ((rfl:_=ac S))) <| st (mv rfl) <| st (gE (A:=E (ac (reB (lkS l0) S (x:Int)))) py rfl rfl rfl (fun v u s w he h h' h''=>by cases h;cases h';cases h'';exact tb l0 S (x:Int) nv w (R.t.ext he) (VA.st _ _ _ _ he R.nd) hwx)) ?_
    refine st (an (A:=E (I (rn (lkS l0) S x))) gY rfl (fun v w he h=>by cases h;exact ir _ w)) ?_
    refine en fun a w e' hf=>?_
    replace R:=R.ext e'
    replace M:=M.ext e'
    replace c:=c.ext e'
    replace kh:=kh.tr (Kh.ext e')
    obtain⟨B5,B9⟩:=up2 e' B5 B9
    refine tA hf rfl fun a hf=>aa ?_
    replace hf:=hf.keep [1,2,3,4,5,9,10,11]
    refine seq <| rgN 3 hf <| st (mv rfl) <| st (ld1 T3 rfl (by assumption) rfl) <| st (lss rfl rfl) <| en fun a w e' hf=>?_
    replace R:=R.ext e'
    replace M:=M.ext e'
    replace c:=c.ext e'
    replace kh:=kh.tr (Kh.ext e')
    obtain⟨B5,B9⟩:=up2 e' B5 B9
    refine aa <| ifc hf rfl (fun hb=>?_) (fun hb=>?_)
    ·have hlt:rn (lkS l0) S x<best:=of_decide_eq_true hb
     obtain⟨q0,q1,q2,q3,q4⟩:=R.ne
     replace hf:=hf.kp [1,2,3,4,5,9,10,11]
     refine tn 9 (Chg fun b=>b=bm) (Mm (lkS l0) all bm) (cb (lkS l0) all bm) M Mix.mix hf (by decide +kernel) <| uf (cb (lkS l0) all bm) (fun w1 h1 HJ1=>ld1 T3 rfl (B9.ch h1 n5.2.1) rfl) <| uf (cb (lkS l0) all bm) (fun w1 h1 HJ1=>mv rfl) <| uf (cb (lkS l0) all bm) (fun w1 h1 HJ1=>ld1 (v:=fF b1 b2 b3 b4) T70 rfl (R.ch h1).o rfl) <| uf (cb (lkS l0) all bm) (fun w1 h1 HJ1=>(ldW T68 rfl (B5.ch h1 n5.1) (aZ _)).eq ((rfl:_=ac S))) <| uf (cb (lkS l0) all bm) (fun w1 h1 HJ1=>mv rfl) <| uf (cb (lkS l0) all bm) (fun w1 h1 HJ1=>ar (A:=E (ac (ins S (x:Int)))) dr rfl rfl (fun v u w he h h'=>by cases h;cases h';exact du S (x:Int) w)) ?_
     refine ux (tp (A:=E (I (rsR (lkS l0) all (ins S (x:Int))))) mr rfl rfl (by simp) (fun w h1 HJ1=>(ih (card (all &&& ~~~(ins S (x:Int)))) (by omega) (ins S (x:Int)) w rfl hSx ((R.ch h1).weak (fun b hb h=>.inl h) rfl) HJ1))) <| uf (cb (lkS l0) all bm) (fun w1 h1 HJ1=>max2 rfl rfl) <| uf (cb (lkS l0) all bm) (fun w1 h1 HJ1=>(min2 rfl rfl).eq (congrArg I (show min best (max (rn (lkS l0) S x) (rsR (lkS l0) all (ins S (x:Int))))=rsS (lkS l0) (rsR (lkS l0) all) S best x by rw[rsS,if_pos hlt]))) <| ue <| fun a w hc HF hf=>?_
     try dsimp only[push] at hf
     replace R:=R.ch hc
     replace c:=c.tr hc
     replace B5:=B5.ch hc n5.1
     replace B9:=B9.ch hc n5.2.1
     replace kh:=kh.tr (Kh.chg hc fun b hb hh=>by have:=hh.1;omega)
     replace M:=HF
     haveI hinr:∀G0,InR (GB W G0) (some b9):=fun G0=>InR.gb (by omega)
     refine aA T3 hf rfl rfl rfl B9 (by simp) fun w hg hsz B9 hf=>?_
     replace R:=R.gr hg (.inr (by omega)) (by omega) (by omega)
     replace M:=M.gr hg (by omega)
     replace c:=c.gr hg (.inr (by omega))
     replace kh:=kh.tr (Kh.gr hg (fun hh=>by have:=hh.1;omega))
     replace B5:=B5.gr hg (by omega)
     refine aa ?_
     simp only[Exit.inBlock]
     exact⟨⟨c,R,M,B5,by rw[hstep];exact B9⟩,kh⟩
    ·have hlt:¬rn (lkS l0) S x<best:=of_decide_eq_false hb
     refine ak ?_
     simp only[Exit.inBlock]
     exact⟨⟨c,R,M,B5,by rw[hstep,rsS,if_neg hlt];exact B9⟩,kh⟩
   ·intro a' w' hf' hJ hsz hDn
    simp only[Exit.inBlock,↓reduceIte,Exit.then]
    have hDs:Ds [w.heap.size] w':=(Ds.nil w').cons hDn (by simp)
    have hf:FrD 46 (bq [w.heap.size]) a' w' [(1,E (ptr b1)),(5,E (ptr b5)),(9,E (ptr b9))]:=hf'.keep [1,5,9]
    have hDW:∀d∈[w.heap.size],W.heap.size≤d:=fun d hd=>by rw[List.mem_singleton] at hd;omega
    obtain⟨c,R,M,B5,B9⟩:=hJ
    have hbD:¬bm∈[w.heap.size]:=fun h=>by rw[List.mem_singleton] at h;omega
    generalize [w.heap.size]=D2 at *
    generalize w'=w at *
    have hex:∃v,(all &&& ~~~S).getLsbD v=true:=Classical.byContradiction fun hn=>hne (bT fun i=>⟨hSa i,fun h=>Classical.byContradiction fun hi=>hn ⟨i,(bH _ _ _).2 ⟨h,hi⟩⟩⟩)
    obtain⟨u,hu⟩:=hex
    rw[hD,← jz hu] at B9
    obtain⟨l,hM,hal,hl⟩:=M
    have hlen:=Mm.few hM hl hc12
    refine seq <| rgN 3 hf <| st (ld1 (v:=.map (some bm)) mi rfl R.k rfl) <| st ((ldW T68 rfl B5 rfl).eq ((rfl:_=ac S))) <| st (ld1 T3 rfl B9 rfl) <| en fun a w e' hf=>?_
    replace R:=R.ext e'
    replace hM:=hM.ext e'
    replace c:=c.ext e'
    replace B5:=B5.ext e'
    replace B9:=B9.ext e'
    replace hDs:=hDs.ext e'
    refine dc (V:=kKV) (i:=S) (c:=rsR (lkS l0) all S) mA hf rfl rfl rfl hM (by simp only[maxLen];omega) trivial ?_ fun w hg HM hf=>?_
    ·have:=kT (nb:=lkS l0) (all:=all) S
     exact bh (by omega) (by omega)
    replace c:=c.gr hg (.inl rfl);replace B9:=B9.gr hg (by omega);replace hDs:=hDs.gr hg hbD
    have M:=Mm.put HM hal hl hne hSa
    refine aa ?_
    replace hf:=hf.kp [9]
    refine seq <| rgN 1 hf <| st (ld1 T3 rfl B9 rfl) <| en fun a w e' hf=>?_
    replace c:=c.ext e'
    replace M:=M.ext e'
    replace B9:=B9.ext e'
    replace hDs:=hDs.ext e'
    refine tA hf rfl fun a hf=>aa <| ai <| gf rfl hf rfl hDs ⟨_,rfl,c.tr2 (eb D2 w) (fun b hb=>.inr (hDW b hb)),M.pres (fz D2 w bm hbD),rfl⟩
def tD (N:Nat)(l0:List (Int×BS))(all:BS):VA:=⟨fun v w=>∃b1 b2 b3 b4 bm nv,v=fF b1 b2 b3 b4∧N≤bm∧RC (fun b=>b=bm) l0 all b1 b2 b3 b4 bm nv w∧Mm (lkS l0) all bm w,
 fun v w w' e ⟨b1,b2,b3,b4,bm,nv,h1,h2,h3,h4⟩=>⟨b1,b2,b3,b4,bm,nv,h1,h2,h3.ext e,h4.ext e⟩⟩
theorem a1L {G:Nat→Prop}(l0:List (Int×BS))(all:BS)(v:Value)(W:World)(hT:Tab W)(h:(Dv (mpE sKV 1024) G l0).p v W) :
  Calls Tryz.prog 21 #[v,ac all] W (Post (tD W.heap.size l0 all) W):=by
 have hv0:(Dv (mpE sKV 1024) (GB W G0) l0).p v W:=Dv.toB (Dv.weak h fun b _ hb=>hb.elim)
 have h1c:v.cells = #[v]:=by
  obtain⟨cs,⟨b,n,h1,_⟩,h2⟩:=h
  subst h1
  have:v=.map (some b):=h2
  rw[this];rfl
 refine eN [v,ac all] [E v,E (ac all)] Tryz.func21 Tryz.ntmps21 ?_ fun a hf=>?_
 rotate_left
 rotate_right
 ·exact arg2 rfl rfl
 have e:=Ext.rfl' W
 refine seq <| ae <| tB hf rfl fun a b2 w v2 hv2 e' hb2 hs2 B2 hf=>?_
 obtain⟨hT,e⟩:=up2 e' hT e
 refine tB hf rfl fun a b3 w v3 hv3 e' hb3 hs3 B3 hf=>?_
 obtain⟨hT,e,B2⟩:=up3 e' hT e B2
 refine tA hf rfl fun a hf=>aa ?_
 cases hv2
 cases hv3
 rw[h1c] at B2
 replace B3:Blk w b3 (au all) 68:=B3
 replace hf:=hf.kp [2,3]
 refine seq <| ae <| eV kKV hf (by decide) fun a bm w e' hbm hsm HM hf=>?_
 obtain⟨e,hT,B2,B3⟩:=up4 e' e hT B2 B3
 have lm:=HM.lt
 have hWm:W.heap.size≤bm:=by have:=e.size;omega
 have hNm:bm+1≤w.heap.size:=lm
 refine tP hf ((ldW T68 rfl B3 (aZ _)).eq ((rfl:_=ac all))) fun a w e' hf=>?_
 obtain⟨hT,HM,hNm,e,B2,B3⟩:=up6 e' hT HM hNm e B2 B3
 refine a1D (V:=kKV) (i:=all) (c := -1) mA hf rfl rfl rfl HM (by decide) trivial (show (Lit.int .i64 (-1)).wf=true by decide) fun w hg HM hf=>?_
 obtain⟨e,hT,B2,B3,hNm⟩:=gr5 hg e hT B2 B3 hNm
 refine tP hf (mv rfl) fun a w e' hf=>?_
 obtain⟨hT,HM,hNm,e,B2,B3⟩:=up6 e' hT HM hNm e B2 B3
 refine tL vD hf fun a b5 w e' hb5 hs5 B5 hf=>?_
 obtain⟨hT,HM,hNm,e,B2,B3⟩:=up6 e' hT HM hNm e B2 B3
 haveI hinr:∀G0,InR (GB W G0) (some b5):=fun G0=>InR.gb (by omega)
 refine aA mi hf rfl rfl rfl B5 (by decide) fun w hg hsz B5 hf=>?_
 replace hT:=hT.gr hg (by omega)
 replace HM:=HM.gr hg (fun h=>by cases h;omega)
 obtain⟨hNm,e,B2,B3⟩:=gr4 hg hNm e B2 B3
 refine aa ?_
 replace B5:Blk w b5 #[.map (some bm)] 113:=B5
 replace hf:=hf.keep [2,3,5]
 refine seq <| ae <| tL I70 hf fun a b6 w e' hb6 hs6 B6 hf=>?_
 obtain⟨hT,HM,hNm,e,B2,B3,B5⟩:=up7 e' hT HM hNm e B2 B3 B5
 refine aa ?_
 replace hf:=hf.kp [2,3,5,6]
 have hvv:=fun (w:World) (e:Ext W w)=>VA.st _ _ _ _ e hv0
 refine seq <| rgN 1 hf <| st (mS rfl rfl rfl rfl) <| en fun a w e' hf=>?_
 obtain⟨hT,HM,hNm,e,B2,B3,B5,B6⟩:=up8 e' hT HM hNm e B2 B3 B5 B6
 haveI hinr:∀G0,InR (GB W G0) (some b6):=fun G0=>InR.gb (by omega)
 refine aA T70 hf rfl rfl rfl B6 (by decide) fun w hg hsz B6 hf=>?_
 replace hT:=hT.gr hg (by omega)
 replace HM:=HM.gr hg (fun h=>by cases h;omega)
 obtain⟨hNm,e,B2,B3,B5⟩:=gr5 hg hNm e B2 B3 B5
 refine aa ?_
 replace B6:Blk w b6 #[fF b5 b3 b2 b6] 70:=B6
 replace hf:=hf.keep [2,3,5,6]
 refine seq <| rgN 1 hf <| st (ld1 (v:=fF b5 b3 b2 b6) T70 rfl B6 rfl) <| en fun a w e' hf=>?_
 obtain⟨hT,HM,hNm,e,B2,B3,B5,B6⟩:=up8 e' hT HM hNm e B2 B3 B5 B6
 refine tA hf rfl fun a hf=>aa <| ai (ap rfl hf rfl ?_)
 rintro _ rfl
 refine⟨_,rfl,e,b5,b3,b2,b6,bm,v,rfl,hWm,⟨hT,B5,B3,B2,B6,Dv.weak (hvv w e) fun b hb hh=>.inr (by rw[hh];exact hWm),rfl,by omega⟩,?_⟩
 have hp:bE ([]:List (BS×Int)) all (-1)=[(all,-1)]:=rfl
 rw[hp] at HM
 refine⟨_,HM.tight,List.mem_singleton.2 rfl,fun p hp=>?_⟩
 rw[List.mem_singleton.1 hp]
 refine⟨?_,fun i h=>h⟩
 exact (kS fun i hi=>((bH _ _ _).1 hi).2 ((bH _ _ _).1 hi).1).symm
end Go.Mono
namespace Go.Mono
open Go Go.Proofs Go.RowKit Go.Gr

theorem OwR.neDs {α:Type}{e:Enc α}{ty:TypeId}{B:Nat}{G:Nat→Prop}{w:World}{xs:List α}{u:Value}(h:OwR e ty B G w xs u){D:List Nat}(hD:Ds D w){d:Nat}(hd:d∈D):u.ownBlock≠some d:=fun hu=>by
 obtain⟨cs,h1,_⟩:=h.own
 rcases h1.2 with ⟨rfl,_⟩|⟨g',cap,cur,rfl,_,hg,_⟩
 ·simp[Value.ownBlock] at hu
 ·simp only[Value.ownBlock,Option.some.injEq] at hu
  subst hu
  exact hD.ne (show Blk w g' cur ty from hg) hd
theorem a1M {fn:Func}{t u s:Nat}{R:Ending→World→Prop}{n:Nat}{a:Act}{w:World}{v x y:Value}{L:Env}{D:List Nat}(hr:fn.results = #[.tmp t,.tmp u,.tmp s])(hf:FrD n (bq D) a w L)(h:aC L t=some (E v))(h':aC L u=some (E x))(h'':aC L s=some (E y))
  (hD:Ds D w) (hR:R (.returned (.tuple #[v,x,y])) (shut D w)):bodyPostM (FW none) 0 Tryz.prog fn R .ret a w:=by
 have hv:a.eval (.tmp t)=v:=hf.val t _ h
 have hx:a.eval (.tmp u)=x:=hf.val u _ h'
 have hy:a.eval (.tmp s)=y:=hf.val s _ h''
 show LeavesInM _ _ _ _ _ _ _ _ _
 rw[hf.defers]
 refine gL D w hD ?_ hR
 rw[← hv,← hx,← hy]
 simp[results,hr,Act.eval]
theorem Chg.row {w w':World}{row:Option Nat}(hg:w.grownBy w' row):Chg (fun b=>row=some b) w w':=⟨hg.os,hg.tape,hg.output,hg.size,fun b hb hn=>hg.block b hb fun he=>hn he.symm⟩
theorem a1N {nb:Int→BS}{all:BS}{W:Int}:∀(f:Nat) (S:BS),(grF nb all W f S).length≤f:=by
 intro f
 induction f with
 | zero=>intro S;exact Nat.le_refl _
 | succ f ih=>
  intro S
  cases hq:nxt nb all W S with
  | none=>rw[a1A hq];exact Nat.zero_le _
  | some v=>rw[nQ hq,List.length_cons];have:=ih (ins S (v:Int));omega
structure WC (W:World)(N:Nat)(l0:List (Int×BS))(all:BS)(wd:Int)(b1 b2 b3 b4 bm:Nat)(nv:Value)(b6 b7 b8 b9:Nat)(nv6:Value)(w:World):Prop where
 e:Ext W w
 r:RC (fun b=>b=bm∨N≤b) l0 all b1 b2 b3 b4 bm nv w
 m:Mm (lkS l0) all bm w
 nd:(Dv (mpE sKV 1024) (fun b=>b=bm∨N≤b) l0).p nv6 w
 p6:Blk w b6 #[nv6] 64
 p7:Blk w b7 (au all) 68
 p8:Blk w b8 #[fF b1 b2 b3 b4] 70
 p9:Blk w b9 #[I wd] 3
 ne:W.heap.size≤bm∧W.heap.size≤N∧bm<N∧(b1<N∧b2<N∧b3<N∧b4<N)∧(b6<N∧b7<N∧b8<N∧b9<N)∧b6≠bm∧b7≠bm∧b8≠bm∧b9≠bm
section
variable {W:World}{N:Nat}{l0:List (Int×BS)}{all:BS}{wd:Int}{b1 b2 b3 b4 bm:Nat}{nv:Value}{b6 b7 b8 b9:Nat}{nv6:Value}{w w':World}
theorem RC.chN {G:Nat→Prop}(h:RC G l0 all b1 b2 b3 b4 bm nv w){S:Nat→Prop}(c:Chg S w w')(hG:∀b,S b→G b)(hb:¬S 0∧¬S b1∧¬S b2∧¬S b3∧¬S b4):RC G l0 all b1 b2 b3 b4 bm nv w':=
 ⟨h.t.ch c hb.1,h.k.ch c hb.2.1,h.a.ch c hb.2.2.1,h.n.ch c hb.2.2.2.1,h.o.ch c hb.2.2.2.2,Dv.ch h.nd c hG,h.g,h.ne⟩
theorem WC.chN (h:WC W N l0 all wd b1 b2 b3 b4 bm nv b6 b7 b8 b9 nv6 w)(c:Chg (fun b=>N≤b) w w'):WC W N l0 all wd b1 b2 b3 b4 bm nv b6 b7 b8 b9 nv6 w':=by
 obtain⟨n1,n2,n3,n4,n5,n6⟩:=h.ne
 exact⟨h.e.ch c (fun b hb=>by omega),h.r.chN c (fun b hb=>.inr hb) ⟨by omega,by omega,by omega,by omega,by omega⟩,h.m.pres (c.block _ h.m.lt (by omega)),Dv.ch h.nd c (fun b hb=>.inr hb),h.p6.ch c (by omega),h.p7.ch c (by omega),h.p8.ch c (by omega),h.p9.ch c (by omega),h.ne⟩
theorem WC.ch (h:WC W N l0 all wd b1 b2 b3 b4 bm nv b6 b7 b8 b9 nv6 w)(c:Chg (fun b=>b=bm) w w')(hm:Mm (lkS l0) all bm w'):WC W N l0 all wd b1 b2 b3 b4 bm nv b6 b7 b8 b9 nv6 w':=by
 obtain⟨n1,n2,n3,n4,n5,n6⟩:=h.ne
 exact⟨h.e.ch c (fun b hb=>by omega),h.r.ch c,hm,Dv.ch h.nd c (fun b hb=>.inl hb),h.p6.ch c (by omega),h.p7.ch c (by omega),h.p8.ch c (by omega),h.p9.ch c (by omega),h.ne⟩
theorem WC.ext (h:WC W N l0 all wd b1 b2 b3 b4 bm nv b6 b7 b8 b9 nv6 w)(e:Ext w w'):WC W N l0 all wd b1 b2 b3 b4 bm nv b6 b7 b8 b9 nv6 w':=h.chN (e.chg _)
theorem WC.gro (h:WC W N l0 all wd b1 b2 b3 b4 bm nv b6 b7 b8 b9 nv6 w){row:Option Nat}(hg:w.grownBy w' row)(hr:∀b,row=some b→N≤b):WC W N l0 all wd b1 b2 b3 b4 bm nv b6 b7 b8 b9 nv6 w':=
 h.chN ⟨hg.os,hg.tape,hg.output,hg.size,fun b hb hn=>hg.block b hb fun he=>hn (hr b he.symm)⟩
theorem WC.gr (h:WC W N l0 all wd b1 b2 b3 b4 bm nv b6 b7 b8 b9 nv6 w){b:Nat}(hg:w.grownBy w' (some b))(hb:N≤b):WC W N l0 all wd b1 b2 b3 b4 bm nv b6 b7 b8 b9 nv6 w':=h.gro hg fun c hc=>by cases hc;exact hb
theorem WC.kp {B:Nat}(h:WC W N l0 all wd b1 b2 b3 b4 bm nv b6 b7 b8 b9 nv6 w)(k:Kp B w w')(hB:N≤B):WC W N l0 all wd b1 b2 b3 b4 bm nv b6 b7 b8 b9 nv6 w':=
 h.chN (k.chg.to fun b _ hb=>by have:=hb.1;omega)
end
structure WJ (W:World)(N:Nat)(l0:List (Int×BS))(all:BS)(wd:Int)(b1 b2 b3 b4 bm:Nat)(nv:Value)(b6 b7 b8 b9:Nat)(nv6:Value)(b10 b11:Nat)(D:List Nat)(B:Nat)(ord:List Int)(S:BS)(w:World):Prop where
 c:WC W N l0 all wd b1 b2 b3 b4 bm nv b6 b7 b8 b9 nv6 w
 p10:∃u,Blk w b10 #[u] 31∧OwR aj 3 N G0 w ord u∧∀g,u.ownBlock=some g→¬aS B g
 p11:Blk w b11 (au S) 68
 ds:Ds D w
theorem WJ.kp {W:World}{N:Nat}{l0:List (Int×BS)}{all:BS}{wd:Int}{b1 b2 b3 b4 bm:Nat}{nv:Value}{b6 b7 b8 b9:Nat}{nv6:Value}{b10 b11:Nat}{D:List Nat}{B:Nat}{ord:List Int}{S:BS}{w w':World}(h:WJ W N l0 all wd b1 b2 b3 b4 bm nv b6 b7 b8 b9 nv6 b10 b11 D B ord S w)(k:Kp B w w')
  (hB:N≤B) (l10:b10<B) (l11:b11<B) (lD:∀d∈D,d<B):WJ W N l0 all wd b1 b2 b3 b4 bm nv b6 b7 b8 b9 nv6 b10 b11 D B ord S w':=by
 have no:∀{b},b<B→¬aS B b:=fun h hh=>by have:=hh.1;omega
 obtain⟨u,q1,q2,q3⟩:=h.p10
 exact⟨h.c.kp k hB,⟨u,q1.kp k (no l10),q2.chE k.chg q3,q3⟩,h.p11.kp k (no l11),h.ds.ch k.chg fun d hd=>no (lD d hd)⟩
def nbA (g:GT):Int→BS:=lkS (nbL g (elems (ah g.1)))
def aD (l:List Nat):List Int:=l.map fun i:Nat=>(i:Int)
def ef (g:GT):List Nat:=grF (nbA g) (ah g.1) (rsR (nbA g) (ah g.1) 0) (card (ah g.1)) 0
theorem a1O {G:Nat→Prop}{N0:Nat}(g:GT)(v:Value)(W:World)(hT:Tab W)(h:(Dv (ptE (grE N0)) G (some g)).p v W)(gs1:g.1.Pairwise fun x y=>lt1 x.1 y.1=true)(gs2:g.2.Pairwise fun x y=>lt2 x.1 y.1=true)(hl1:g.1.length≤12)(hl2:g.2.length≤100000)(hN:N0≤1000000)(hs:Sml (nbA g) (ah g.1))(hc:card (ah g.1)≤12)
  {K:Nat→Prop} (hK:∀b,K b→b<W.heap.size) :
  Calls Tryz.prog 7 #[v] W (Post (Tup [E (I (rsR (nbA g) (ah g.1) 0)),Dv (slE aj) K (aD (ef g)),E (I 0)]) W):=by
 have hv:(Dv (ptE (grE N0)) G0 (some g)).p v W:=Dv.weak h fun b _ hb=>hb.elim
 have hT0:=hT.lt
 obtain⟨l0,hl0⟩:∃l0,l0=nbL g (elems (ah g.1)):=⟨_,rfl⟩
 obtain⟨all,hall⟩:∃all,all=ah g.1:=⟨_,rfl⟩
 have hnb:nbA g=lkS l0:=by rw[hl0,nbA]
 rw[ef,hnb,← hall]
 rw[hnb,← hall] at hs
 rw[← hall] at hc
 refine cq (args:=[v]) (As:=[E v]) Tryz.func7 rfl Tryz.ntmps7 (Nat.le_of_ble_eq_true rfl) ?_ (fun a hf=>?_) (Nat.le_of_ble_eq_true rfl)
 ·exact arg1 rfl
 dsimp only[params,Nat.reduceAdd] at hf
 have e:=Ext.rfl' W
 have hck:ckW g=0:=by rw[ckW,if_neg (by omega)]
 refine seq <| ae <| tA hf rfl fun a hf=>tA hf rfl fun a hf=>tA hf rfl fun a hf=>aa ?_
 repeat refine seq ?_
 refine rgN 2 hf <| st (mv rfl) <| st (an (A:=E (I 0)) vU rfl (fun v w he h=>by cases h;rw[← hck];exact a0H g _ w (VA.st _ _ _ _ (Ext.tr e he) hv))) ?_
 refine en fun a w e' hf=>?_
 obtain⟨hT,e⟩:=up2 e' hT e
 refine tA hf rfl fun a hf=>aa <| seq <| rgN 2 hf <| st (mv rfl) <| st (neq rfl rfl) <| en fun a w e' hf=>?_
 obtain⟨hT,e⟩:=up2 e' hT e
 refine aa <| ifc hf rfl (fun h=>by cases h) (fun _=>?_)
 refine ak ?_
 replace hf:=hf.kp [0]
 have e0:=e
 refine seq <| rgN 4 hf <| st (mv rfl) <| st (an (A:=Dv (mpE sKV 1024) G0 l0) vV rfl (fun v w he k=>by cases k;rw[hl0];exact a0T g _ w (hT.ext he) (VA.st _ _ _ _ (Ext.tr e0 he) hv) gs1 gs2 (by omega) hl2 hN)) ?_
 refine st (mv rfl) <| st (an (A:=E (ac all)) fN rfl (fun v w he k=>by cases k;rw[hall];exact gk g _ w (VA.st _ _ _ _ (Ext.tr e0 he) hv) gs1 (by omega) hN)) ?_
 refine en fun a w e' hf=>?_
 obtain⟨hT,e⟩:=up2 e' hT e
 obtain⟨nv6,Hn,hf⟩:=hf.opn 19 rfl
 obtain⟨q6,hq6⟩:∃q,nv6=.map (some q):=by
  obtain⟨cs,⟨q,n,h1,_⟩,h2⟩:=Hn
  subst h1
  exact⟨q,h2⟩
 have ho6:nv6.oneCell'=true:=by rw[hq6];rfl
 obtain⟨N4,hN4⟩:∃N4,N4=w.heap.size:=⟨_,rfl⟩
 have hN4s:N4≤w.heap.size:=Nat.le_of_eq hN4
 have hW4:W.heap.size≤N4:=by rw[hN4];exact e.size
 have HN:(Dv (mpE sKV 1024) (fun b=>N4≤b) l0).p nv6 w:=Dv.weak Hn fun b hb hh=>by omega
 replace hf:=hf.kp [0,19,21]
 refine tL I64 hf fun a b6 w e' hb6 hs6 B6 hf=>?_
 obtain⟨hT,HN,hN4s,e⟩:=up4 e' hT HN hN4s e
 refine tL I68 hf fun a b7 w e' hb7 hs7 B7 hf=>?_
 obtain⟨hT,HN,hN4s,e,B6⟩:=up5 e' hT HN hN4s e B6
 replace B6:Blk w b6 (Value.cells (.map none)) 64:=B6
 simp only[Value.cells] at B6 B7
 have n67:b6≠b7:=by omega
 haveI hinr:∀G0,InR (GB W G0) (some b6):=fun G0=>InR.gb (by omega)
 refine aA T64 hf rfl rfl (ho6) B6 (by decide) fun w hg hsz B6 hf=>?_
 replace hT:=hT.gr hg (by omega)
 replace HN:=Dv.grN HN hg (fun bb hb=>by cases hb;omega)
 obtain⟨hN4s,e,B7⟩:=gr3 hg hN4s e B7
 replace B6:Blk w b6 #[nv6] 64:=B6
 refine az T68 hf rfl rfl (aP _) B7 rfl rfl fun w hg hsz B7 hf=>?_
 replace e:=e.gr hg (by omega);replace hT:=hT.gr hg (by omega);replace B6:=B6.gr hg (by omega);replace HN:=Dv.grN HN hg (fun bb hb=>by cases hb;omega);replace hN4s:=Nat.le_trans hN4s hg.size;clear hg
 refine aa ?_
 replace hf:=hf.kp [6,7]
 obtain⟨N5,hN5⟩:∃N5,N5=w.heap.size:=⟨_,rfl⟩
 have l6:b6<N5:=by rw[hN5];exact B6.lt
 have l7:b7<N5:=by rw[hN5];exact B7.lt
 have hN5s:N5≤w.heap.size:=Nat.le_of_eq hN5
 have hN45:N4≤N5:=by omega
 refine seq <| rgN 3 hf <| st (ld1 (v:=nv6) T64 rfl B6 rfl) <| st ((ldW T68 rfl B7 rfl).eq ((rfl:_=ac all))) <| st (ar (A:=tD N5 l0 all) vW rfl rfl (fun v u w he k1 k2=>by cases k1;cases k2;exact (a1L l0 all _ w (hT.ext he) (VA.st _ _ _ _ he HN)).mono fun en w' ⟨u,k1,k2,b1,b2,b3,b4,bm,nv,k3,k4,k5⟩=>⟨u,k1,k2,b1,b2,b3,b4,bm,nv,k3,Nat.le_trans (Nat.le_trans hN5s he.size) k4,k5⟩)) ?_
 refine en fun a w e' hf=>?_
 obtain⟨hT,HN,e,B6,B7⟩:=up5 e' hT HN e B6 B7
 obtain⟨v24,⟨b1,b2,b3,b4,bm,nv,rfl,hNm,R,M⟩,hf⟩:=hf.opn 24 rfl
 have lR:=R.lt
 have lM:=M.lt
 obtain⟨N6,hN6⟩:∃N6,N6=w.heap.size:=⟨_,rfl⟩
 have hN6s:N6≤w.heap.size:=Nat.le_of_eq hN6
 have l4:b1<N6∧b2<N6∧b3<N6∧b4<N6∧bm<N6∧b6<N6∧b7<N6:=by have:=B6.lt;have:=B7.lt;omega
 have hWN:W.heap.size≤N5∧N5≤N6∧W.heap.size≤bm:=by omega
 replace R:=R.weak (G':=fun b=>b=bm∨N6≤b) (fun b hb hh=>hh.elim id fun h=>by omega) (.inl rfl)
 replace HN:(Dv (mpE sKV 1024) (fun b=>b=bm∨N6≤b) l0).p nv6 w:=Dv.weak HN fun b hb hh=>by omega
 replace hf:=hf.kp [6,7,24]
 refine tL I70 hf fun a b8 w e' hb8 hs8 B8 hf=>?_
 replace R:=R.ext e'
 replace M:=M.ext e'
 replace HN:=VA.st _ _ _ _ e' HN
 replace hN6s:=Nat.le_trans hN6s e'.size
 replace e:=e.tr e'
 replace B6:=B6.ext e'
 replace B7:=B7.ext e'
 have n8:N6≤b8:=by omega
 have l78:b8<w.heap.size:=B8.lt
 haveI hinr:∀G0,InR (GB W G0) (some b8):=fun G0=>InR.gb (by omega)
 refine aA T70 hf rfl rfl (rfl) B8 (by decide) fun w hg hsz B8 hf=>?_
 replace R:=R.gr hg (.inr (by omega)) (by omega) (by omega)
 replace M:=M.gr hg (by omega)
 replace HN:=Dv.grN HN hg (fun bb hb=>.inr (by cases hb;omega))
 obtain⟨hN6s,e,B6,B7⟩:=gr4 hg hN6s e B6 B7
 refine aa ?_
 replace B8:Blk w b8 #[fF b1 b2 b3 b4] 70:=B8
 replace hf:=hf.kp [6,7,8]
 refine seq <| rgN 2 hf <| st (ld1 (v:=fF b1 b2 b3 b4) T70 rfl B8 rfl) <| st (bK [] rfl ta) <| en fun a w e' hf=>?_
 replace R:=R.ext e'
 replace M:=M.ext e'
 replace HN:=VA.st _ _ _ _ e' HN
 replace hN6s:=Nat.le_trans hN6s e'.size
 replace e:=e.tr e'
 replace B6:=B6.ext e'
 replace B7:=B7.ext e'
 replace B8:=B8.ext e'
 have v26:a.eval (.tmp 26)=ac 0:=hf.val 26 _ rfl
 refine fu (S:=fun b=>b=bm) (F:=Mm (lkS l0) all bm) (caps := #[ptr b1,ptr b2,ptr b3,ptr b4]) (A:=E (I (rsR (lkS l0) all 0))) hf (by decide) mr rfl ?_ fun a w hc' hF hf=>?_
 ·have:=tC l0 all b1 b2 b3 b4 bm nv hc (card (all &&& ~~~(0:BS))) 0 w rfl (fun i hi=>absurd hi (aW i)) (R.weak (fun b hb h=>.inl h) rfl) M
  simp only[List.map_toArray,List.map_cons,List.map_nil,v26]
  exact Calls.mono this fun en w' ⟨u,k1,k2,k3,k4⟩=>⟨u,k1,k2,k4,k3⟩
 obtain⟨wd,hwd⟩:∃wd,wd=rsR (lkS l0) all 0:=⟨_,rfl⟩
 rw[← hwd] at hf ⊢
 have hwb:=kT (nb:=lkS l0) (all:=all) 0
 rw[← hwd] at hwb
 replace R:=R.ch hc';replace M:=hF;replace HN:=Dv.ch HN hc' (fun b hb=>.inl hb);replace e:=e.ch hc' (fun b hb=>by omega);replace B6:=B6.ch hc' (by omega);replace B7:=B7.ch hc' (by omega);replace B8:=B8.ch hc' (by omega);replace hN6s:=Nat.le_trans hN6s hc'.size
 have l8:=B8.lt
 refine tL I3 hf fun a b9 w e' hb9 hs9 B9 hf=>?_
 replace R:=R.ext e'
 replace M:=M.ext e'
 replace HN:=VA.st _ _ _ _ e' HN
 replace hN6s:=Nat.le_trans hN6s e'.size
 replace e:=e.tr e'
 replace B6:=B6.ext e'
 replace B7:=B7.ext e'
 replace B8:=B8.ext e'
 have n9:N6≤b9∧b8<b9:=by omega
 haveI hinr:∀G0,InR (GB W G0) (some b9):=fun G0=>InR.gb (by omega)
 refine aA T3 hf rfl rfl rfl B9 (by decide) fun w hg hsz B9 hf=>?_
 replace R:=R.gr hg (.inr (by omega)) (by omega) (by omega)
 replace M:=M.gr hg (by omega)
 replace HN:=Dv.grN HN hg (fun bb hb=>.inr (by cases hb;omega))
 obtain⟨hN6s,e,B6,B7,B8⟩:=gr5 hg hN6s e B6 B7 B8
 refine aa ?_
 replace B9:Blk w b9 #[I wd] 3:=B9
 replace hf:=hf.kp [6,7,8,9]
 obtain⟨N,hNN⟩:∃N,N=w.heap.size:=⟨_,rfl⟩
 have hNs:N≤w.heap.size:=Nat.le_of_eq hNN
 have l9:=B9.lt
 have hne:W.heap.size≤bm∧W.heap.size≤N∧bm<N∧(b1<N∧b2<N∧b3<N∧b4<N)∧(b6<N∧b7<N∧b8<N∧b9<N)∧b6≠bm∧b7≠bm∧b8≠bm∧b9≠bm:=by have:=e.size;omega
 have C:WC W N l0 all wd b1 b2 b3 b4 bm nv b6 b7 b8 b9 nv6 w:=⟨e,R.weak (fun b hb hh=>hh.imp id fun h=>by omega) (.inl rfl),M,Dv.weak HN (fun b hb hh=>hh.imp id fun h=>by omega),B6,B7,B8,B9,hne⟩
 refine seq <| ae <| tL I31 hf fun a b10 w e' hb10 hs10 B10 hf=>?_
 replace C:=C.ext e'
 replace hNs:=Nat.le_trans hNs e'.size
 replace e:=e.tr e'
 refine aa ?_
 replace B10:Blk w b10 #[.slice none 0 0] 31:=B10
 have n10:N≤b10:=by omega
 have l10:=B10.lt
 refine seq <| ae <| tL I68 hf fun a b11 w e' hb11 hs11 B11 hf=>?_
 replace C:=C.ext e'
 replace hNs:=Nat.le_trans hNs e'.size
 replace e:=e.tr e'
 replace B10:=B10.ext e'
 refine aa ?_
 simp only[Value.cells,cE] at B11
 have n11:N≤b11∧b11≠b10:=by omega
 replace hf:=hf.keep [6,7,8,9,10,11]
 have hz0:card (all &&& ~~~(0:BS))=card all:=by rw[show all &&& ~~~(0:BS)=all from bT fun i=>⟨fun h=>((bH _ _ _).1 h).1,fun h=>(bH _ _ _).2 ⟨h,aW i⟩⟩]
 have hwd0:rsR (lkS l0) all 0≤wd:=by rw[hwd];exact Int.le_refl _
 refine seq <| blk (aJ (fun r0 a w=>∃(S:BS) (ord:List Int) (u:Value) (D:List Nat),r0=card (all &&& ~~~S)∧(∀i,S.getLsbD i=true→all.getLsbD i=true)∧rsR (lkS l0) all S≤wd∧ord++aD (grF (lkS l0) all wd r0 S)=aD (grF (lkS l0) all wd (card all) 0) ∧
  FrD 58 (bq D) a w [(6,E (ptr b6)),(7,E (ptr b7)),(8,E (ptr b8)),(9,E (ptr b9)),(10,E (ptr b10)),(11,E (ptr b11))]∧WC W N l0 all wd b1 b2 b3 b4 bm nv b6 b7 b8 b9 nv6 w∧Blk w b10 #[u] 31∧OwR aj 3 N G0 w ord u∧Blk w b11 (au S) 68∧Ds D w∧∀d∈D,N≤d) (card (all &&& ~~~(0:BS)))
  ⟨0,[],.slice none 0 0,[],rfl,(fun i hi=>absurd hi (aW i)),hwd0,by rw[hz0,List.nil_append],hf,C,B10,OwR.nil aj _ hNs fun b hb=>hb.elim,B11,Ds.nil _,fun d hd=>nomatch hd⟩ ?_)
 rintro r0 a w ⟨S,ord,u,D,hr0,hSa,hSw,hord,hf,C,B10,Ho,B11,hD,hDW⟩
 have hgl:=a1N (nb:=lkS l0) (all:=all) (W:=wd) (card all) 0
 have hol:ord.length≤12:=by
  have:=congrArg List.length hord
  simp only[List.length_append,aD,List.length_map] at this
  omega
 repeat refine seq ?_
 refine rgN 3 hf <| st ((ldW T68 rfl B11 rfl).eq ((rfl:_=ac S))) <| st ((ldW T68 rfl C.p7 rfl).eq ((rfl:_=ac all))) <| st (ze U68 U66 T66 (by kernel_rfl) rfl rfl) <| en fun a w e' hf=>?_
 replace C:=C.ext e'
 replace B10:=B10.ext e'
 replace B11:=B11.ext e'
 replace hD:=hD.ext e'
 replace Ho:=Ho.ext e'
 refine aa <| ifc hf rfl (fun hc=>ak ?_) (fun hc=>aG ?_)
 rotate_left
 ·have hSA:S=all:=by simpa using hc
  have hr00:r0=0:=by
   rw[hr0,hSA,show all &&& ~~~all=0 from bT fun i=>⟨fun h=>absurd ((bH _ _ _).1 h).1 ((bH _ _ _).1 h).2,fun h=>absurd h (aW i)⟩,gn]
  rw[hr00,grF,aD,List.map_nil,List.append_nil] at hord
  replace hf:=hf.kp [9,10]
  refine seq <| rgG 5 Mix.mix hf <| st (ld1 T3 rfl C.p9 rfl) <| st (ld1 (v:=u) T31 rfl B10 rfl) <| st (asg rfl) <| st (asg rfl) <| st (asg rfl) <| en fun a w e' hf=>?_
  replace C:=C.ext e'
  replace B10:=B10.ext e'
  replace hD:=hD.ext e'
  replace Ho:=Ho.ext e'
  refine aa <| ai <| a1M rfl hf rfl rfl rfl hD ⟨_,rfl,C.e.shut (fun d hd=>Nat.le_trans hne.2.1 (hDW d hd)),Tup.three rfl ?_ rfl⟩
  rw[← hord]
  exact Dv.weak (Dv.ch (Ho.slN (N:=fun b=>b∈D∨K b) fun b hb hh=>hh.elim (fun h=>Ho.neDs hD h hb) fun h=>by have:=hK b h;have:=(Ho.lt hb).1;have:=hne.2.1;omega) (eb D w) fun b hb=>.inl hb) fun b _ hb=>.inr hb
 have hSA:S≠all:=by simpa using hc
 clear hc
 have hex:∃z,(all &&& ~~~S).getLsbD z=true:=Classical.byContradiction fun hn=>hSA (bT fun i=>⟨hSa i,fun h=>Classical.byContradiction fun hi=>hn ⟨i,(bH _ _ _).2 ⟨h,hi⟩⟩⟩)
 obtain⟨z0,hz0'⟩:=hex
 obtain⟨nx,hnx⟩:=tf hs hSw hz0'
 obtain⟨X,hX⟩:∃X,X=all &&& ~~~S:=⟨_,rfl⟩
 refine blk <| seq <| rgN 4 hf <| st ((ldW T68 rfl C.p7 rfl).eq ((rfl:_=ac all))) <| st ((ldW T68 rfl B11 rfl).eq ((rfl:_=ac S))) <| st (ar (A:=E (ac X)) cX rfl rfl (fun v u w he h h'=>by cases h;cases h';rw[hX];exact db all S w)) ?_
 refine st (an (A:=bW 0 X) cg rfl (fun v w' he h=>by cases h;exact Calls.mono (cm _ w') (fun en w2 ⟨u,h1,h2,b',h3,h4,h5⟩=>⟨u,h1,h2,b',Nat.zero_le _,h4,h5⟩))) ?_
 refine en fun a w e' hf=>?_
 replace C:=C.ext e'
 replace B10:=B10.ext e'
 replace B11:=B11.ext e'
 replace hD:=hD.ext e'
 replace Ho:=Ho.ext e'
 refine aa ?_
 obtain⟨v34,⟨b34,h34,rfl,BSq⟩,hf⟩:=hf.fix 34 rfl
 replace hf:=hf.kp [6,7,8,9,10,11,34]
 have l10:=B10.lt
 have l11:=B11.lt
 have lD:∀d∈D,d<w.heap.size:=fun d hd=>hD.lt hd
 have lN:N≤w.heap.size:=Ho.base
 have lH:∀g,u.ownBlock=some g→¬aS w.heap.size g:=fun g hg hh=>by have:=(Ho.lt hg).2;have:=hh.1;omega
 refine blk <| cC (S:=X) hf rfl BSq (by decide) (fun s w1=>WJ W N l0 all wd b1 b2 b3 b4 bm nv b6 b7 b8 b9 nv6 b10 b11 D w.heap.size ord S w1∧∀y∈s,¬max (rn (lkS l0) S y) (rsR (lkS l0) all (ins S (y:Int)))≤wd)
  (fun ex w1=>ex=.exit 2∧WJ W N l0 all wd b1 b2 b3 b4 bm nv b6 b7 b8 b9 nv6 b10 b11 D w.heap.size (ord++[(nx:Int)]) (ins S (nx:Int)) w1) (fun s w1 h=>h.1.c.r.t)
  ⟨⟨C,⟨u,B10,Ho,lH⟩,B11,hD⟩,fun y hy=>nomatch hy⟩ (fun s w1 w2 h hs k=>⟨h.1.kp k lN l10 l11 lD,h.2⟩) (fun ex w1 w2 h hs k=>⟨h.1,h.2.kp k lN l10 l11 lD⟩) ?_ ?_ ?_
 ·rintro lp s x rest a1 w1 hsx ⟨hJ,hno⟩ hlw hf
  have hxX:=(aH.1 (show x∈elems X by rw[hsx];simp)).2
  rw[hX] at hxX
  have hx1024:=ay hxX
  have hwx:(Lit.int .i64 (x:Int)).wf=true:=bh (by omega) (by omega)
  have hSx:∀i,(ins S (x:Int)).getLsbD i=true→all.getLsbD i=true:=fun i hi=>((aX S hx1024).1 hi).elim (hSa i) fun h=>by rw[h];exact ((bH _ _ _).1 hxX).1
  generalize hBz:w.heap.size=Bz at *
  refine ae <| tA hf rfl fun a hf=>aa <| ⟨Kh.rfl' _ _,fun w3 k3 hsz3=>?_⟩
  have hJ3:=hJ.kp k3 lN l10 l11 lD
  have hw3:Bz+3≤w3.heap.size:=by omega
  replace hf:=hf.pure w3
  obtain⟨C,⟨u,B10,Ho,lH⟩,B11,hD⟩:=hJ3
  have kh:=Kh.rfl' Bz w3
  obtain⟨m1,m2,m3,m4,m5,m6⟩:=hne
  replace hf:=hf.kp [6,7,8,9,10,11,12]
  refine blk ?_
  have x11:b11≠bm:=by omega
  have x10:b10≠bm:=by omega
  refine seq <| tn 13 (Chg fun b=>b=bm) (Mm (lkS l0) all bm) (cb (lkS l0) all bm) C.m Mix.mix hf (by decide +kernel) <| uf (cb (lkS l0) all bm) (fun w1 h1 HJ1=>ld1 (v:=nv6) T64 rfl (C.p6.ch h1 m6.1) rfl) <| uf (cb (lkS l0) all bm) (fun w1 h1 HJ1=>(ldW T68 rfl (B11.ch h1 x11) (aZ _)).eq ((rfl:_=ac S))) <| uf (cb (lkS l0) all bm) (fun w1 h1 HJ1=>mv rfl) <| uf (cb (lkS l0) all bm) (fun w1 h1 HJ1=>gE (A:=E (ac (reB (lkS l0) S (x:Int)))) py rfl rfl rfl (fun v u s w he h h' h''=>by cases h;cases h';cases h'';exact tb l0 S (x:Int) nv6 w ((C.r.ch h1).t.ext he) (VA.st _ _ _ _ he (Dv.ch C.nd h1 fun b hb=>.inl hb)) hwx)) ?_
  refine uf (cb (lkS l0) all bm) (fun w1 h1 HJ1=>an (A:=E (I (rn (lkS l0) S x))) gY rfl (fun v w he h=>by cases h;exact ir _ w)) ?_
  refine uf (cb (lkS l0) all bm) (fun w1 h1 HJ1=>ld1 (v:=fF b1 b2 b3 b4) T70 rfl (C.p8.ch h1 m6.2.2.1) rfl) <| uf (cb (lkS l0) all bm) (fun w1 h1 HJ1=>(ldW T68 rfl (B11.ch h1 x11) (aZ _)).eq ((rfl:_=ac S))) <| uf (cb (lkS l0) all bm) (fun w1 h1 HJ1=>mv rfl) <| uf (cb (lkS l0) all bm) (fun w1 h1 HJ1=>ar (A:=E (ac (ins S (x:Int)))) dr rfl rfl (fun v u w he h h'=>by cases h;cases h';exact du S (x:Int) w)) ?_
  refine ux (tp (A:=E (I (rsR (lkS l0) all (ins S (x:Int))))) mr rfl rfl (by simp) (fun w h1 HJ1=>(tC l0 all b1 b2 b3 b4 bm nv hc (card (all &&& ~~~(ins S (x:Int)))) (ins S (x:Int)) w rfl hSx ((C.r.ch h1).weak (fun b hb h=>.inl h) rfl) HJ1))) <| uf (cb (lkS l0) all bm) (fun w1 h1 HJ1=>max2 rfl rfl) <| uf (cb (lkS l0) all bm) (fun w1 h1 HJ1=>ld1 T3 rfl (C.p9.ch h1 m6.2.2.2) rfl) <| uf (cb (lkS l0) all bm) (fun w1 h1 HJ1=>leq rfl rfl) <| ue <| fun a w hc HF hf=>?_
  try dsimp only[push] at hf
  refine aa ?_
  replace C:=C.ch hc HF
  replace B10:=B10.ch hc x10
  replace B11:=B11.ch hc x11
  replace Ho:=Ho.chE hc (fun b hb hh=>by have:=(Ho.lt hb).1;omega)
  replace hD:=hD.ch hc (fun d hd hh=>by have:=hDW d hd;omega)
  replace kh:=kh.tr (Kh.chg hc fun b hb hh=>by have:=hh.1;omega)
  have hw4:Bz+3≤w.heap.size:=Nat.le_trans hw3 hc.size
  refine ifc hf rfl (fun hb=>?_) (fun hb=>?_)
  ·have hok:max (rn (lkS l0) S x) (rsR (lkS l0) all (ins S (x:Int)))≤wd:=of_decide_eq_true hb
   have hxn:x=nx:=by
    have h1:nxt (lkS l0) all wd S=some x:=by
     rw[nxt,← hX,hsx,List.find?_append,List.find?_eq_none.2 fun y hy=>by simpa using hno y hy,List.find?_cons_of_pos (by simpa using hok)]
     rfl
    rw[h1] at hnx;exact Option.some.inj hnx
   subst hxn
   replace hf:=hf.kp [10,11,12]
   have z10:u.ownBlock≠some b10:=Ho.neB B10 (by decide)
   have z11:u.ownBlock≠some b11:=Ho.neB B11 (by decide)
   have zD:∀d∈D,u.ownBlock≠some d:=fun d hd=>Ho.neDs hD hd
   refine seq <| qq 7 3 u.ownBlock (by decide) Mix.mix hf (by decide +kernel) <| xm (fun w1 h1=>ld1 (v:=u) T31 rfl (B10.gro h1 z10) rfl) <| xm (fun w1 h1=>mv rfl) <| xm (fun w1 h1=>bB U31 I3 rfl (by decide) rfl (fun b hb=>Nat.lt_of_lt_of_le (Ho.avs b hb) h1.size) (isI rfl)) <| xx (qt U31 I3 rfl rfl rfl Ho rfl (by simp only[List.length_singleton];omega) (by simp only[List.length_singleton,maxLen];omega)) ?_
   refine xn (fun w1 h1=>(ldW T68 rfl (B11.gro h1 z11) (aZ _)).eq ((rfl:_=ac S))) <| xn (fun w1 h1=>mv rfl) <| xn (fun w1 h1=>ar (A:=E (ac (ins S (x:Int)))) dr rfl rfl (fun v u w he h h'=>by cases h;cases h';exact du S (x:Int) w)) ?_
   refine xe fun a w hg hf=>?_
   obtain⟨v',⟨Hn,hat⟩,hf⟩:=hf.fix 52 rfl
   replace C:=C.gro hg (fun b hb=>(Ho.lt hb).1)
   replace B10:=B10.gro hg z10
   replace B11:=B11.gro hg z11
   replace hD:=hD.ch (Chg.row hg) (fun d hd hh=>zD d hd hh)
   replace kh:=kh.tr (Kh.gro hg lH)
   have lH':∀g,v'.ownBlock=some g→¬aS Bz g:=fun g hg'=>by
    rcases hat with h|⟨c,h,hc'⟩
    ·rw[h] at hg';exact lH g hg'
    ·rw[h] at hg';cases hg'
     intro hh
     have:=hh.2;omega
   have z10':v'.ownBlock≠some b10:=Hn.neB B10 (by decide)
   have z11':v'.ownBlock≠some b11:=Hn.neB B11 (by decide)
   have noH:∀{b:Nat},b<Bz→¬aS Bz b:=fun h hh=>by have:=hh.1;omega
   have d10:¬b10∈D:=hD.ne B10
   have d11:¬b11∈D:=hD.ne B11
   have hone:=Hn.one
   replace hf:=hf.kp [10,11,52,55]
   refine aA T31 hf rfl rfl hone B10 Nat.zero_lt_one fun w hg hsz B10 hf=>?_
   replace B10:Blk w b10 #[v'] 31:=B10
   replace C:=C.gr hg n10
   replace B11:=B11.gr hg n11.2
   replace hD:=hD.gr hg d10
   replace kh:=kh.tr (Kh.gr hg (noH l10))
   replace Hn:=Hn.grE hg z10'
   refine az T68 hf rfl rfl (aP _) B11 rfl (aZ _) fun w hg hsz B11 hf=>?_
   replace C:=C.gr hg n11.1
   replace B10:=B10.gr hg (Ne.symm n11.2)
   replace hD:=hD.gr hg d11
   replace kh:=kh.tr (Kh.gr hg (noH l11))
   replace Hn:=Hn.grE hg z11'
   refine aa <| aG ?_
   simp only[Exit.inBlock]
   exact⟨⟨rfl,C,⟨v',B10,Hn,lH'⟩,B11,hD⟩,kh⟩
  ·have hok:¬max (rn (lkS l0) S x) (rsR (lkS l0) all (ins S (x:Int)))≤wd:=of_decide_eq_false hb
   refine ak ?_
   simp only[Exit.inBlock]
   refine⟨⟨⟨C,⟨u,B10,Ho,lH⟩,B11,hD⟩,fun y hy=>?_⟩,kh⟩
   rcases List.mem_append.1 hy with h|h
   ·exact hno y h
   ·rw[List.mem_singleton.1 h];exact hok
 ·intro a' w' hf' hJ hsz hDn
  obtain⟨q1,q2,q3⟩:=nR hnx
  refine absurd ?_ (hJ.2 nx (aH.2 ⟨ay q1,by rw[hX];exact q1⟩))
  omega
 ·rintro ex cd a' w' hcd hf' ⟨rfl,hJ⟩ hsz hDn
  simp only[Exit.inBlock,↓reduceIte,Exit.then]
  have hD2:Ds (w.heap.size::D) w':=hJ.ds.cons hDn fun hm=>Nat.lt_irrefl _ (lD _ hm)
  have hf:FrD 58 (bq (w.heap.size::D)) a' w' [(6,E (ptr b6)),(7,E (ptr b7)),(8,E (ptr b8)),(9,E (ptr b9)),(10,E (ptr b10)),(11,E (ptr b11))]:=hf'.keep [6,7,8,9,10,11]
  obtain⟨C',⟨u',B10',Ho',_⟩,B11',_⟩:=hJ
  obtain⟨q1,q2,q3⟩:=nR hnx
  have hq1:=ay q1
  have hcd:=gq q1
  refine⟨card (all &&& ~~~(ins S (nx:Int))),by omega,ins S (nx:Int),ord++[(nx:Int)],u',w.heap.size::D,rfl,fun i hi=>((aX S hq1).1 hi).elim (hSa i) fun h=>by rw[h];exact ((bH _ _ _).1 q1).1,q3,?_,hf,C',B10',Ho',B11',hD2,fun d hd=>?_⟩
  ·rw[← hord,hr0,hcd,nQ hnx]
   simp only[aD,List.map_cons,List.append_assoc,List.singleton_append]
  ·rcases List.mem_cons.1 hd with rfl|hd
   ·exact lN
   ·exact hDW d hd
end Go.Mono
namespace Go.Mono
open Go Go.Proofs Go.RowKit Go.Gr

def ringV (n:Nat):List VT:=(List.range n).map fun i:Nat=>((i:Int),(0,0))
def a1P (n:Nat):List ET:=((0,1),(0,0))::((0,(n:Int) - 1),(0,0))::((List.range (n - 2)).map fun i:Nat=>(((i:Int)+1,(i:Int)+2),(0,0)))
def ax (n:Nat):GT:=(ringV n,a1P n)
theorem a1Q {G:Nat→Prop}(V:List VT)(E':List ET)(g:GT)(hb:∃g',dA V E'=some g'∧g'.1.Perm g.1∧g'.2.Perm g.2)(hV:∀x∈V,okD (dV x))(hE:∀x∈E',okD (dE x))(v u:Value)(W:World)(h1:(Dv (slE vtE) G V).p v W)(h2:(Dv (slE etE) G E').p u W)(hl1:V.length≤1000)(hl2:E'.length≤1000){K:Nat→Prop}(hK:∀b,K b→b<W.heap.size) :
  Calls Tryz.prog 16 #[v,u] W (Post (Tup [Dv (ptE (grE 2000)) K (some g),E (I 0)]) W):=
 Calls.mono (rS V E' v u W h1 h2 (by omega) (by omega) hV hE) fun en w' ⟨e,hq⟩=>by
  obtain⟨g',k1,k2,k3⟩:=hb
  rcases hq with ⟨g2,b1,b2,b3,q1,rfl,q3,q4,q5,q6⟩|⟨c,q0,q1,_⟩
  ·rw[k1] at q1;cases q1
   exact⟨_,rfl,e,Tup.two ((q6.perm k2 k3).dv (by omega) (fun h=>by have:=hK _ h;omega) (fun h=>by have:=hK _ h;omega) (fun h=>by have:=hK _ h;omega)) rfl⟩
  ·rw[k1] at q1;cases q1
theorem bV1 (i:Int):Tryz.prog.built 57 [(0,.int .i64 i)]=some #[.int .i64 i,.int .u8 0,.int .i64 0]:=by kernel_rfl
theorem bE2 (i j:Int):Tryz.prog.built 60 [(0,.int .i64 i),(1,.int .i64 j)]=some #[.int .i64 i,.int .i64 j,.int .u8 0,.int .i64 0]:=by kernel_rfl
theorem kV {w0:World}{L:Env}{dst:Option Tmp}{ty:TypeId}{pos:String}{aft:Array Edge}{g:Option (Nat×Bool)}{x:Operand}(i:Int)(h:opd L x=some (E (I i))):OpC Tryz.prog w0 L ⟨dst,.build 57 #[(0,x)],ty,pos,aft,g⟩ (E (vtV (i,(0,0)))):=
 bK [(0,_)] (by simp only[List.map_cons,List.map_nil,h]) (bV1 i)
theorem jA {w0:World}{L:Env}{dst:Option Tmp}{ty:TypeId}{pos:String}{aft:Array Edge}{g:Option (Nat×Bool)}{x y:Operand}(i j:Int)(h:opd L x=some (E (I i)))(h':opd L y=some (E (I j))):OpC Tryz.prog w0 L ⟨dst,.build 60 #[(0,x),(1,y)],ty,pos,aft,g⟩ (E (etV ((i,j),(0,0)))):=
 bK [(0,_),(1,_)] (by simp only[List.map_cons,List.map_nil,h,h']) (bE2 i j)
theorem nU {g:GT}{i:Nat}(G:Gr.Ok g):(ah g.1).getLsbD i=true↔∃x∈g.1,x.1=(i:Int):=by
 by_cases hi:i<1024
 ·rw[ah,ra i hi,Bool.or_eq_true,decide_eq_true_eq,List.mem_map]
  exact⟨fun h=>h.elim (fun h=>absurd h (aW i)) id,.inr⟩
 ·constructor
  ·intro h;exact absurd (ay h) hi
  ·rintro⟨x,hx,h⟩
   have:=kJ (G.rv x hx).1
   omega
theorem kW {g:GT}{i:Nat}(G:Gr.Ok g):(ah g.1).getLsbD i=true↔inV g.1 (i:Int)=true:=by
 rw[nU G,inV,List.any_eq_true]
 exact⟨fun⟨x,h1,h2⟩=>⟨x,h1,by simpa using h2⟩,fun⟨x,h1,h2⟩=>⟨x,h1,by simpa using h2⟩⟩
def Adj (g:GT)(i j:Nat):Prop:=∃x∈g.2,x.1=((i:Int),(j:Int))∨x.1=((j:Int),(i:Int))
theorem Adj.symm {g:GT}{i j:Nat}(h:Adj g i j):Adj g j i:=by obtain⟨x,h1,h2⟩:=h;exact⟨x,h1,h2.symm⟩
theorem Adj.inn {g:GT}{i j:Nat}(G:Gr.Ok g)(h:Adj g i j):(ah g.1).getLsbD i=true∧(ah g.1).getLsbD j=true∧i≠j:=by
 obtain⟨x,h1,h2⟩:=h
 obtain⟨q1,q2,q3,_⟩:=G.re x h1
 rcases h2 with h2|h2 <;> rw[h2] at q1 q2 q3 <;> dsimp only at q1 q2 q3
 ·exact⟨(kW G).2 q2,(kW G).2 q3,by omega⟩
 ·exact⟨(kW G).2 q3,(kW G).2 q2,by omega⟩
theorem nW {E:List ET}(h:∀x∈E,x.1.1<x.1.2∧(0≤x.1.1∧x.1.1<1024)∧(0≤x.1.2∧x.1.2<1024))(i j:Nat):(nbG E (i:Int)).getLsbD j=true↔∃x∈E,x.1=((i:Int),(j:Int))∨x.1=((j:Int),(i:Int)):=by
 have key:∀(E:List ET) (S:BS),(∀x∈E,x.1.1<x.1.2∧(0≤x.1.1∧x.1.1<1024)∧(0≤x.1.2∧x.1.2<1024))→((E.foldl (nbI (i:Int)) S).getLsbD j=true↔S.getLsbD j=true∨∃x∈E,x.1=((i:Int),(j:Int))∨x.1=((j:Int),(i:Int))):=by
  intro E
  induction E with
  | nil=>intro S _;simp
  | cons x E ih=>
   intro S hE
   rw[List.foldl_cons,ih _ fun y hy=>hE y (by simp[hy])]
   obtain⟨⟨p,q⟩,c⟩:=x
   obtain⟨h1,h2,h3⟩:=hE _ (List.mem_cons_self)
   dsimp only at h1 h2 h3
   obtain⟨p',rfl⟩:=Int.eq_ofNat_of_zero_le h2.1
   obtain⟨q',rfl⟩:=Int.eq_ofNat_of_zero_le h3.1
   have hn:(nbI (i:Int) S (((p':Int),(q':Int)),c)).getLsbD j=true↔S.getLsbD j=true∨(i=p'∧j=q')∨(i=q'∧j=p'):=by
    unfold nbI
    by_cases e1:(i:Int)=(p':Int)
    ·rw[if_pos e1,aX S (by omega)]
     constructor
     ·rintro (h|h)
      ·exact .inl h
      ·exact .inr (.inl ⟨by omega,h⟩)
     ·rintro (h|h|h)
      ·exact .inl h
      ·exact .inr h.2
      ·omega
    ·rw[if_neg e1]
     by_cases e2:(i:Int)=(q':Int)
     ·rw[if_pos e2,aX S (by omega)]
      constructor
      ·rintro (h|h)
       ·exact .inl h
       ·exact .inr (.inr ⟨by omega,h⟩)
      ·rintro (h|h|h)
       ·exact .inl h
       ·omega
       ·exact .inr h.2
     ·rw[if_neg e2]
      constructor
      ·exact .inl
      ·rintro (h|h|h)
       ·exact h
       ·omega
       ·omega
   rw[hn]
   simp only[List.mem_cons,exists_eq_or_imp,Prod.mk.injEq,Int.ofNat_eq_natCast]
   constructor
   ·rintro ((h|h)|h)
    ·exact .inl h
    ·exact .inr (.inl (by omega))
    ·exact .inr (.inr h)
   ·rintro (h|h|h)
    ·exact .inl (.inl h)
    ·exact .inl (.inr (by omega))
    ·exact .inr h
 rw[nbG,key E 0 h]
 exact⟨fun h=>h.elim (fun h=>absurd h (aW j)) id,.inr⟩
theorem kY {g:GT}(G:Gr.Ok g):∀x∈g.2,x.1.1<x.1.2∧(0≤x.1.1∧x.1.1<1024)∧(0≤x.1.2∧x.1.2<1024):=fun x hx=>by
 obtain⟨h1,h2,h3,_⟩:=G.re x hx
 exact⟨h1,kK G h2,kK G h3⟩
theorem nX {g:GT}{i:Nat}:nbA g (i:Int)=if (ah g.1).getLsbD i=true then nbG g.2 (i:Int) else 0:=by
 have hl:∀(s:List Nat),lkS (nbL g s) (i:Int)=if i∈s then nbG g.2 (i:Int) else 0:=by
  intro s
  induction s with
  | nil=>rfl
  | cons a s ih=>
   rw[lkS,nbL,List.map_cons,List.find?_cons] at *
   by_cases ha:a=i
   ·subst ha;simp
   ·have h1:decide (((a:Int),nbG g.2 (a:Int)).1=(i:Int))=false:=decide_eq_false fun h=>ha (by dsimp only at h;omega)
    rw[h1]
    have h2:(i∈a::s)↔i∈s:=by rw[List.mem_cons];exact⟨fun h=>h.elim (fun h=>absurd h.symm ha) id,.inr⟩
    simp only[h2]
    exact ih
 rw[nbA,hl]
 by_cases h:(ah g.1).getLsbD i=true
 ·rw[if_pos h,if_pos (aH.2 ⟨ay h,h⟩)]
 ·rw[if_neg h,if_neg fun hh=>h (aH.1 hh).2]
theorem eB {g:GT}(G:Gr.Ok g){i j:Nat}:(nbA g (i:Int)).getLsbD j=true↔Adj g i j:=by
 rw[nX]
 constructor
 ·intro h
  split at h
  ·exact (nW (kY G) i j).1 h
  ·exact absurd h (aW j)
 ·intro h
  rw[if_pos (h.inn G).1]
  exact (nW (kY G) i j).2 h
theorem a1R (S:BS)(n:Int):card (ins S n)≤card S+1:=by
 by_cases hf:cA n=true
 ·obtain⟨h1,h2⟩:=cN.1 hf
  obtain⟨p,rfl⟩:=Int.eq_ofNat_of_zero_le h1
  have hp:p<1024:=by omega
  by_cases hb:S.getLsbD p=true
  ·have:ins S (p:Int)=S:=bT fun i=>by rw[aX S hp];exact⟨fun h=>h.elim id fun h=>by rw[h];exact hb,.inl⟩
   rw[this];omega
  ·have h1:card (ins (0:BS) (p:Int))=1:=nM (p:=p) fun i=>by
    rw[aX 0 hp];exact⟨fun h=>h.elim (fun h=>absurd h (aW i)) id,.inr⟩
   rw[nL (S:=S) (T:=ins 0 (p:Int)) (U:=ins S (p:Int)) (fun i=>by
    rw[aX S hp,aX 0 hp]
    exact⟨fun h=>h.imp id .inr,fun h=>h.imp id fun h=>h.elim (fun h=>absurd h (aW i)) id⟩) (fun i hi=>by
    rw[aX 0 hp] at hi
    obtain⟨h3,h4⟩:=hi
    rcases h4 with h4|h4
    ·exact aW i h4
    ·rw[h4] at h3;exact hb h3),h1]
   exact Nat.le_refl _
 ·rw[ins,if_neg hf];omega
theorem a1S (l:List Int):∀S:BS,card (l.foldl ins S)≤card S+l.length:=by
 induction l with
 | nil=>intro S;rw[List.foldl_nil,List.length_nil,Nat.add_zero];exact Nat.le_refl _
 | cons n l ih=>
  intro S
  have h1:=ih (ins S n)
  have h2:=a1R S n
  rw[List.foldl_cons,List.length_cons];omega
theorem tE (g:GT):card (ah g.1)≤g.1.length:=by
 have h0:card ((g.1.map (·.1)).foldl ins 0)≤card (0:BS)+(g.1.map (·.1)).length:=a1S _ 0
 rw[List.length_map,gn,Nat.zero_add] at h0
 exact h0
theorem tF {g:GT}(G:Gr.Ok g)(hl:g.1.length≤12){all:BS}(ha:∀i,all.getLsbD i=true→(ah g.1).getLsbD i=true):Sml (nbA g) all:=
 a1y (V:=ah g.1) (fun i j h=>(((eB G).1 h).inn G).2.1) (Nat.le_trans (tE g) hl) ha
def nY (g:GT):Bool:=decide (g.1.Pairwise fun x y=>lt1 x.1 y.1=true)&&decide (g.2.Pairwise fun x y=>lt2 x.1 y.1=true)&&g.1.all (fun x=>dY x.1&&decide (0≤x.2.1∧x.2.1<256) && !Gr.heavy x.2.2) &&
 g.2.all (fun x=>decide (x.1.1<x.1.2)&&inV g.1 x.1.1&&inV g.1 x.1.2&&decide (0≤x.2.1∧x.2.1<256) && !Gr.heavy x.2.2)&&decide (g.2.length≤1024)
theorem a1T {g:GT}(h:nY g=true):Gr.Ok g:=by
 simp only[nY,Bool.and_eq_true,decide_eq_true_eq,List.all_eq_true,Bool.not_eq_true'] at h
 obtain⟨⟨⟨⟨h1,h2⟩,h3⟩,h4⟩,h5⟩:=h
 exact⟨h1,h2,fun x hx=>by have:=h3 x hx;exact⟨this.1.1,this.1.2,this.2⟩,fun x hx=>by have:=h4 x hx;exact⟨this.1.1.1.1,this.1.1.1.2,this.1.1.2,this.1.2,this.2⟩,h5⟩
theorem a1U:(List.range 12).all (fun i=>nY (ax (i+3)))=true:=by decide +kernel
theorem a1V {n:Nat}(h3:3≤n)(hn:n≤14):Gr.Ok (ax n):=by
 have h:=List.all_eq_true.1 a1U (n - 3) (List.mem_range.2 (by omega))
 rw[show n - 3+3=n by omega] at h
 exact a1T h
def l4:List (Int×BS):=[(0,10#1024),(1,5#1024),(2,10#1024),(3,5#1024)]
theorem nb4:nbL (ax 4) (elems (ah (ax 4).1))=l4:=by decide +kernel
theorem v4:ah (ax 4).1=15#1024:=by decide +kernel
theorem na4:nbA (ax 4)=lkS l4:=by rw[nbA,nb4]
theorem tG {P:Program}{w0:World}{L:Env}{dst:Option Tmp}{ty:TypeId}{pos:String}{aft:Array Edge}{g:Option (Nat×Bool)}{x y:Operand}{t yt e:TypeId}{S T:BS}(ht:P.underlying t=some (.array 16 e))(he:P.underlying e=some (.int .u64))(hs:TI P e false 1)(hm:P.eqGuardType P.depth t=false)(hx:opd L x=some (E (ac S)))(hy:opd L y=some (E (ac T))) :
  OpC P w0 L ⟨dst,.binOp .eql t x y yt,ty,pos,aft,g⟩ (E (.bool (S==T))):=
 jN hx hy (fun w=>iW _ _ _ _ _ _ hm w) rfl fun w _=>by
  rw[← kc]
  exact kb ht he hs 9998 (am S) (am T) w
end Go.Mono
namespace Go.Mono
open Go Go.Proofs Go.RowKit Go.Gr
def a1W (g:GT)(W:World)(en:Ending)(w':World):Prop:=
 Ext W w'∧((∃g' bg bv be,dA g.1 g.2=some g'∧en=.returned (.pointer (some ⟨bg,0,none⟩))∧W.heap.size≤bg∧W.heap.size≤bv∧W.heap.size≤be∧GrR w' bg bv be (g.1.length+g.2.length) g')∨(dA g.1 g.2=none∧en=.returned (.pointer none)))
theorem a1X {G:Nat→Prop}(g:GT)(v:Value)(W:World)(h:(Dv gtE G g).p v W)(hl1:g.1.length≤100000)(hl2:g.2.length≤100000)(hV:∀x∈g.1,okD (dV x))(hE:∀x∈g.2,okD (dE x)) :
  Calls Tryz.prog 5 #[v] W (a1W g W):=by
 obtain⟨u1,u2,rfl,h1,h2⟩:=Dv.gt.1 (Dv.weak (G':=G0) h fun b _ hb=>hb.elim)
 have h1b:=Dv.toB h1
 have h2b:=Dv.toB h2
 refine eN [.agg #[u1,u2]] [E (.agg #[u1,u2])] Tryz.func5 Tryz.ntmps5 ?_ fun a hf=>?_
 rotate_left
 rotate_right
 ·exact arg1 rfl
 have e:=Ext.rfl' W
 refine seq <| ae <| tB hf rfl fun a b1 w v1 hv1 e' hb1 hs1 B1 hf=>?_
 replace e:=e.tr e'
 refine tA hf rfl fun a hf=>aa ?_
 cases hv1
 refine seq <| ae <| tA hf rfl fun a hf=>aa <| seq <| ae <| tA hf rfl fun a hf=>aa ?_
 repeat refine seq ?_
 refine ae <| tA hf rfl fun a hf=>aa ?_
 replace hf:=hf.keep [1,2,3,4,5]
 refine blk (aJ (fun r0 a w=>∃(k:Nat) (u:Value),r0=g.1.length - k∧k≤g.1.length∧Fr 48 a w [(1,E (.pointer (some ⟨b1,0,none⟩))),(2,E (.pointer none)),(3,E u),(4,E (.slice none 0 0)),(5,E (I k))]∧Ext W w∧Blk w b1 #[u1,u2] 26∧OwR vtE 57 (b1+1) G0 w (g.1.take k) u) g.1.length ⟨0,.slice none 0 0,rfl,by omega,hf,e,⟨B1,OwR.nil vtE _ (by have:=B1.lt;omega) fun b hb=>hb.elim⟩⟩ ?_)
 rintro r0 a w ⟨k,u,rfl,hk,hf,e,B1,Ho⟩
 repeat refine seq ?_
 refine rgN 5 hf <| st (mv rfl) <| st (fA U26 rfl T23 rfl) <| st (ld1 T23 rfl (by assumption) rfl) <| st (aF U23 (isE rfl (VA.st _ _ _ _ e h1))) <| st (lss rfl rfl) <| en fun a w e' hf=>?_
 obtain⟨e,B1,Ho⟩:=up3 e' e B1 Ho
 refine aa <| ifc hf rfl (fun hc=>ak ?_) (fun hc=>aG ?_)
 rotate_left
 rotate_left
 ·have hlt:k<g.1.length:=by have:=of_decide_eq_true hc;(try dsimp only at this);omega
  replace hf:=hf.kp [1,2,3,4,5]
  refine seq <| blk ?_
  have hg:=List.getElem?_eq_getElem hlt
  generalize g.1[k]=y at hg
  have hlk:=List.length_take_le k g.1
  have n1:=Ho.neLt (b:=b1) (by omega)
  refine rgN 7 hf <| st (mv rfl) <| st (fA U26 rfl T23 rfl) <| st (ld1 T23 rfl B1 rfl) <| st (mv rfl) <| st (aL U23 S58 (isE rfl (VA.st _ _ _ _ e h1b)) rfl (by omega) (hg)) <| st (ij T58 (isR rfl)) <| st (bB U54 I57 rfl (by decide) rfl Ho.avs (eu rfl)) <| en fun a w e' hf=>?_
  obtain⟨Ho,e,B1⟩:=up3 e' Ho e B1
  haveI hin:∀G0,InR (GB W G0) _:=OwR.inGB (W:=W) Ho (by omega)
  refine bI U54 I57 rfl rfl hf (by decide) rfl Ho (isR rfl) (by simp only[List.length_singleton];omega) (by simp only[List.length_singleton,maxLen];omega) fun a v w hg hat Hn hf=>?_
  replace e:=e.gro hg (Ho.row (W:=W) (by omega))
  have hrow:=Ho.row (W:=W) (by omega)
  replace Ho:=Hn
  replace B1:=B1.gro hg (by assumption)
  replace Ho:=Hn;clear Hn hg hat hin
  refine tA hf rfl fun a hf=>aa <| rgN 2 hf <| st (mv rfl) <| st ((add rfl rfl (by omega)).eq (congrArg (Value.int .i64) (show (k:Int)+1=((k+1:Nat):Int) from rfl))) <| en fun a w e' hf=>?_
  obtain⟨Ho,e,B1⟩:=up3 e' Ho e B1
  refine tA hf rfl fun a hf=>aa ?_
  replace hf:=hf.keep [1,2,3,4,5]
  refine⟨_,?_,k+1,_,rfl,by omega,hf,e,?_⟩
  ·omega
  rw[cB hg]
  exact⟨B1,Ho⟩
 ·obtain rfl:k=g.1.length:=by have:=of_decide_eq_false hc;(try dsimp only at this);omega
  rw[List.take_length] at Ho
  obtain⟨av,nv,cv,rfl⟩:=Dv.slF Ho.sl
  obtain⟨NV,hNV⟩:∃NV:Nat→Prop,NV=fun b=>(Value.slice av nv cv).ownBlock≠some b:=⟨_,rfl⟩
  have HD:(Dv (slE vtE) NV g.1).p (.slice av nv cv) w:=Ho.slN fun b hb=>by rw[hNV];exact fun h=>h hb
  obtain⟨N5,hN5⟩:∃N5,N5=w.heap.size:=⟨_,rfl⟩
  have hN1:b1<N5:=by rw[hN5];exact B1.lt
  have nV:∀bb,N5≤bb→NV bb:=fun bb hb=>by rw[hNV];intro h;have h3:=Ho.lt h;omega
  have hN5s:N5≤w.heap.size:=Nat.le_of_eq hN5
  repeat refine seq ?_
  refine ae <| tA hf rfl fun a hf=>aa ?_
  replace hf:=hf.keep [1,2,3,4,6]
  refine blk (aJ (fun r0 a w=>∃(k:Nat) (u:Value),r0=g.2.length - k∧k≤g.2.length∧Fr 48 a w [(1,E (.pointer (some ⟨b1,0,none⟩))),(2,E (.pointer none)),(3,E (.slice av nv cv)),(4,E u),(6,E (I k))]∧Ext W w∧Blk w b1 #[u1,u2] 26∧(Dv (slE vtE) NV g.1).p (.slice av nv cv) w∧OwR etE 60 N5 G0 w (g.2.take k) u∧N5≤w.heap.size) g.2.length ⟨0,.slice none 0 0,rfl,by omega,hf,e,⟨B1,HD,OwR.nil etE _ hN5s fun b hb=>hb.elim,hN5s⟩⟩ ?_)
  rintro r0 a w ⟨k,u,rfl,hk,hf,e,B1,HD,Ho,hN5s⟩
  repeat refine seq ?_
  refine rgN 5 hf <| st (mv rfl) <| st (fA U26 rfl T24 rfl) <| st (ld1 T24 rfl (by assumption) rfl) <| st (aF U24 (isE rfl (VA.st _ _ _ _ e h2))) <| st (lss rfl rfl) <| en fun a w e' hf=>?_
  obtain⟨HD,hN5s,e,B1,Ho⟩:=up5 e' HD hN5s e B1 Ho
  refine aa <| ifc hf rfl (fun hc=>ak ?_) (fun hc=>aG ?_)
  rotate_left
  rotate_left
  ·have hlt:k<g.2.length:=by have:=of_decide_eq_true hc;(try dsimp only at this);omega
   replace hf:=hf.kp [1,2,3,4,6]
   refine seq <| blk ?_
   have hg:=List.getElem?_eq_getElem hlt
   generalize g.2[k]=y at hg
   have hlk:=List.length_take_le k g.2
   have n1:=Ho.neLt (b:=b1) (by omega)
   refine rgN 7 hf <| st (mv rfl) <| st (fA U26 rfl T24 rfl) <| st (ld1 T24 rfl B1 rfl) <| st (mv rfl) <| st (aL U24 S61 (isE rfl (VA.st _ _ _ _ e h2b)) rfl (by omega) (hg)) <| st (gK T61 (isR rfl)) <| st (bB U55 I60 rfl (by decide) rfl Ho.avs (ea rfl)) <| en fun a w e' hf=>?_
   obtain⟨HD,hN5s,Ho,e,B1⟩:=up5 e' HD hN5s Ho e B1
   haveI hin:∀G0,InR (GB W G0) _:=OwR.inGB (W:=W) Ho (by omega)
   refine bI U55 I60 rfl rfl hf (by decide) rfl Ho (isR rfl) (by simp only[List.length_singleton];omega) (by simp only[List.length_singleton,maxLen];omega) fun a v w hg hat Hn hf=>?_
   replace e:=e.gro hg (Ho.row (W:=W) (by omega))
   have hrow:=Ho.row (W:=W) (by omega)
   replace HD:=Dv.grN HD hg (fun bb hb=>nV bb (Ho.lt hb).1)
   replace hN5s:=Nat.le_trans hN5s hg.size
   replace Ho:=Hn
   replace B1:=B1.gro hg (by assumption)
   replace Ho:=Hn;clear Hn hg hat hin
   refine tA hf rfl fun a hf=>aa <| rgN 2 hf <| st (mv rfl) <| st ((add rfl rfl (by omega)).eq (congrArg (Value.int .i64) (show (k:Int)+1=((k+1:Nat):Int) from rfl))) <| en fun a w e' hf=>?_
   obtain⟨HD,hN5s,Ho,e,B1⟩:=up5 e' HD hN5s Ho e B1
   refine tA hf rfl fun a hf=>aa ?_
   replace hf:=hf.keep [1,2,3,4,6]
   refine⟨_,?_,k+1,_,rfl,by omega,hf,e,?_⟩
   ·omega
   rw[cB hg]
   exact⟨B1,HD,Ho,hN5s⟩
  ·obtain rfl:k=g.2.length:=by have:=of_decide_eq_false hc;(try dsimp only at this);omega
   rw[List.take_length] at Ho
   replace hf:=hf.kp [2,3,4]
   refine seq <| rgN 2 hf <| st (mv rfl) <| st (mv rfl) <| en fun a w e' hf=>?_
   obtain⟨HD,Ho,e⟩:=up3 e' HD Ho e
   refine bU (S:=fun b=>False) (F:=fun z w'=>(∃g' bg bv be,dA g.1 g.2=some g'∧z=.tuple #[.pointer (some ⟨bg,0,none⟩),I 0]∧W.heap.size≤bg∧W.heap.size≤bv∧W.heap.size≤be∧GrR w' bg bv be (g.1.length+g.2.length) g')∨(∃c:Int,c≠0∧dA g.1 g.2=none∧z=.tuple #[.pointer none,I c])) hf (by decide) px ?_ fun a z w hc hF hf=>?_
   ·have e40:a.eval (.tmp 40)=.slice av nv cv:=hf.opd (.tmp 40) _ rfl
    have e41:a.eval (.tmp 41)=u:=hf.opd (.tmp 41) _ rfl
    simp only[List.map_toArray,List.map_cons,List.map_nil,e40,e41]
    refine (rS (G:=G0) g.1 g.2 _ _ _ (Dv.weak HD fun b _ hb=>hb.elim) Ho.sl hl1 hl2 hV hE).mono ?_
    rintro en w' ⟨k1,⟨g',bg,bv,be,k2,rfl,k4,k5,k6,k7⟩|⟨c,k2,k3,rfl⟩⟩
    ·exact⟨_,rfl,k1.chg _,.inl ⟨g',bg,bv,be,k2,rfl,Nat.le_trans e.size k4,Nat.le_trans e.size k5,Nat.le_trans e.size k6,k7⟩⟩
    ·exact⟨_,rfl,k1.chg _,.inr ⟨c,k2,k3,rfl⟩⟩
   replace e:=e.ch hc (fun b hb=>hb.elim)
   rcases hF with ⟨g',bg,bv,be,k2,rfl,k4,k5,k6,k7⟩|⟨c,k2,k3,rfl⟩
   ·have _:=k2
    refine tP hf (mv rfl) fun a w e' hf=>?_
    obtain⟨e,k7⟩:=up2 e' e k7
    refine tP hf (exE rfl rfl) fun a w e' hf=>?_
    obtain⟨e,k7⟩:=up2 e' e k7
    refine tP hf (exE rfl rfl) fun a w e' hf=>?_
    obtain⟨e,k7⟩:=up2 e' e k7
    refine tA hf rfl fun a hf=>tA hf rfl fun a hf=>aa ?_
    repeat refine seq ?_
    refine rgN 2 hf <| st (mv rfl) <| st (neq rfl rfl) <| en fun a w e' hf=>?_
    obtain⟨e,k7⟩:=up2 e' e k7
    refine aa <| ifc hf rfl (fun h=>by cases h) (fun _=>?_)
    refine ak <| seq <| rgN 1 hf <| st (mv rfl) <| en fun a w e' hf=>?_
    obtain⟨e,k7⟩:=up2 e' e k7
    refine tA hf rfl fun a hf=>aa <| ai <| ap rfl hf rfl ?_
    rintro _ rfl
    exact⟨e,.inl ⟨g',bg,bv,be,k2,rfl,k4,k5,k6,k7⟩⟩
   ·have _:=k2
    refine tP hf (mv rfl) fun a w e' hf=>?_
    replace e:=e.tr e'
    refine tP hf (exE rfl rfl) fun a w e' hf=>?_
    replace e:=e.tr e'
    refine tP hf (exE rfl rfl) fun a w e' hf=>?_
    replace e:=e.tr e'
    refine tA hf rfl fun a hf=>tA hf rfl fun a hf=>aa ?_
    repeat refine seq ?_
    refine rgN 2 hf <| st (mv rfl) <| st ((neq rfl rfl).eq (congrArg Value.bool (show (c != 0)=true from by simpa using k2))) <| en fun a w e' hf=>?_
    replace e:=e.tr e'
    refine aa <| ifc hf rfl (fun _=>?_) (fun h=>by cases h)
    refine seq <| ae <| tA hf rfl fun a hf=>aa <| ai <| ap rfl hf rfl ?_
    rintro _ rfl
    exact⟨e,.inr ⟨k3,rfl⟩⟩
end Go.Mono
namespace Go.Mono
open Go Go.Proofs Go.RowKit Go.Gr

def kZ (g:GT):List Int:=g.1.map (·.1)
end Go.Mono
namespace Go.Mono
open Go Go.RowKit
theorem nZ {G:Nat→Prop}{w:World}:∀l:List Int,Cells aj G w l (l.map (Value.int .i64))
 | []=>rfl
 | d::l=>⟨[.int .i64 d],l.map (Value.int .i64),rfl,rfl,nZ l⟩
theorem tH {G:Nat→Prop}{w:World}:∀{l:List Int} {cs:List Value},Cells aj G w l cs→cs=l.map (Value.int .i64)
 | [],cs,h=>h
 | x::l,cs,⟨c,d,h,h1,h2⟩=>by
  have:c=[.int .i64 x]:=h1
  rw[h,this,tH h2];rfl
section
variable {P:Program}{w0:World}{L:Env}{dst:Option Tmp}{ty:TypeId}{pos:String}{aft:Array Edge}{g:Option (Nat×Bool)}{t te:TypeId}{N:Nat}
end
end Go.Mono
namespace Go.Mono
open Go Go.Proofs Go.RowKit Go.Gr

section
variable {g:GT}
theorem gw (G:Gr.Ok g):∀i j:Nat,(nbA g (i:Int)).getLsbD j=true→(nbA g (j:Int)).getLsbD i=true:=fun i j h=>(eB G).2 ((eB G).1 h).symm
theorem tI (nb:Int→BS):∀(l:List Nat) (S:BS),-1≤bi nb S l
 | [],S=>Int.le_refl _
 | v::l,S=>by have:=tI nb l (ins S (v:Int));rw[bi];omega
end
end Go.Mono
namespace Go.Mono
open Go Go.Proofs Go.RowKit Go.Gr
theorem lf (V:BS)(i:Nat):(V &&& ~~~(0:BS)).getLsbD i=true↔V.getLsbD i=true:=by
 rw[bH]
 exact⟨fun h=>h.1,fun h=>⟨h,aW i⟩⟩
theorem a1Y (V:BS):V &&& ~~~(0:BS)=V:=bT (lf V)
section
variable {g:GT}
theorem oa (G:Gr.Ok g)(hl:g.1.length≤12):(ef g).Nodup∧(∀i,i∈ef g↔(ah g.1).getLsbD i=true)∧bi (nbA g) 0 (ef g)=rsR (nbA g) (ah g.1) 0:=by
 have hs:=tF G hl (all:=ah g.1) fun i h=>h
 have hb:=kT (nb:=nbA g) (all:=ah g.1) 0
 obtain⟨h1,h2,h3⟩:=a1B hs hb.1 (card (ah g.1)) 0 (by rw[a1Y]) (Int.le_refl _)
 have h2':∀i,i∈ef g↔(ah g.1).getLsbD i=true:=fun i=>by rw[ef,h2,lf]
 have h4:=nP (nb:=nbA g) (all:=ah g.1) (ef g) 0 h1 fun i=>by rw[h2',lf]
 refine⟨h1,h2',?_⟩
 have h3':bi (nbA g) 0 (ef g)≤rsR (nbA g) (ah g.1) 0:=h3
 omega
end
end Go.Mono
namespace Go.Mono
open Go Go.Proofs Go.RowKit

def cc (l:List Nat):List Int:=l.map fun i:Nat=>(i:Int)
structure AqJ (W:World)(N b2 B:Nat)(s:List Nat)(w:World):Prop where
 e:Ext W w
 t:Tab w
 p:∃u,Blk w b2 #[u] 31∧OwR aj 3 N G0 w (cc s) u∧∀g,u.ownBlock=some g→¬aS B g
theorem AqJ.kp {W:World}{N b2 B:Nat}{s:List Nat}{w w':World}(h:AqJ W N b2 B s w)(k:Kp B w w')(hW:W.heap.size≤B)(h0:0<B)(l2:b2<B):AqJ W N b2 B s w':=by
 obtain⟨u,q1,q2,q3⟩:=h.p
 exact⟨h.e.kp k hW,h.t.kp k h0,⟨u,q1.kp k (fun hh=>by have:=hh.1;omega),q2.chE k.chg q3,q3⟩⟩
theorem a1Z (S:BS)(b:Nat)(W:World)(hT:Tab W)(hb:Blk W b (au S) 68) :
  Calls Tryz.prog 156 #[.slice none 0 0,dz b] W (Post (OwA aj 3 W.heap.size G0 (cc (elems S))) W):=by
 have hT0:=hT.lt
 refine cq (args:=[.slice none 0 0,dz b]) (As:=[E (.slice none 0 0),E (dz b)]) Tryz.func156 rfl Tryz.ntmps156 (Nat.le_of_ble_eq_true rfl) ?_ (fun a hf=>?_) (Nat.le_of_ble_eq_true rfl)
 ·exact arg2 rfl rfl
 dsimp only[params,Nat.reduceAdd] at hf
 have e:=Ext.rfl' W
 refine seq <| ae <| tB hf rfl fun a b2 w v2 hv2 e' hb2 hs2 B2 hf=>?_
 have hle2:=Nat.le_trans e.size (Nat.le_of_eq hb2.symm)
 obtain⟨hT,e,hb⟩:=up3 e' hT e hb
 refine tA hf rfl fun a hf=>aa ?_
 cases hv2
 replace B2:Blk w b2 #[.slice none 0 0] 31:=B2
 replace hf:=hf.keep [1,2]
 repeat refine seq ?_
 refine rgN 1 hf <| st (mv rfl) <| en fun a w e' hf=>?_
 obtain⟨hT,e,hb,B2⟩:=up4 e' hT e hb B2
 refine aa ?_
 replace hf:=hf.kp [2,6]
 have n2:W.heap.size≤b2:=hle2
 have hBW:W.heap.size≤w.heap.size:=e.size
 have h0w:0<w.heap.size:=hT.lt
 have l2:=B2.lt
 have hel:=bX S
 obtain⟨N,hN⟩:∃N,N=w.heap.size:=⟨_,rfl⟩
 have hNs:N≤w.heap.size:=Nat.le_of_eq hN
 have l2N:b2<N:=by omega
 have hWN:W.heap.size≤N:=by omega
 refine blk <| cC (S:=S) hf rfl hb (by decide) (fun s w1=>AqJ W N b2 w.heap.size s w1) (fun _ _=>False) (fun s w1 h=>h.t)
  ⟨e,hT,⟨_,B2,OwR.nil aj _ hNs (fun b hb=>hb.elim),fun g hg=>by cases hg⟩⟩ (fun s w1 w2 h hs k=>h.kp k hBW h0w l2) (fun _ _ _ h=>h.elim) ?_ ?_ (fun _ _ _ _ _ _ h=>h.elim)
 ·intro lp s x rest a1 w1 hs hJ hlw hf
  have hsl:s.length≤1024:=by rw[hs] at hel;simp at hel;omega
  generalize hBz:w.heap.size=Bz at *
  refine ae <| tA hf rfl fun a hf=>aa <| ⟨Kh.rfl' _ _,fun w3 k3 hsz3=>?_⟩
  have hJ3:=hJ.kp k3 hBW h0w l2
  have hw3:Bz+3≤w3.heap.size:=by omega
  replace hf:=hf.pure w3
  obtain⟨e,hT,⟨u,B2,Ho,lH⟩⟩:=hJ3
  have kh:=Kh.rfl' Bz w3
  replace hf:=hf.kp [2,5]
  refine blk ?_
  have hln:(cc s).length=s.length:=by simp[cc]
  refine rgN 3 hf <| st (ld1 (v:=u) T31 rfl B2 rfl) <| st (mv rfl) <| st (bB U31 I3 rfl (by decide) rfl Ho.avs (isI rfl)) <| en fun a w e' hf=>?_
  replace hT:=hT.ext e'
  replace kh:=kh.tr (Kh.ext e')
  obtain⟨hw3,e,B2,Ho⟩:=up4 e' hw3 e B2 Ho
  have hrow:∀b,u.ownBlock=some b→N≤b:=fun b hb=>(Ho.lt hb).1
  refine bI U31 I3 rfl rfl hf (by decide) rfl Ho (isR rfl) (by rw[hln,List.length_singleton];omega) (by rw[hln,List.length_singleton];simp only[maxLen];omega) fun a u' w hg hat Hn hf=>?_
  replace B2:=B2.gro hg (Ho.neB B2 (by decide))
  replace e:=e.gro hg (fun b hb=>by have:=hrow b hb;omega)
  replace hT:=hT.gro hg (fun b hb=>by have:=hrow b hb;omega)
  replace kh:=kh.tr (Kh.gro hg lH)
  have lH':=zd hat lH hw3
  have z2:u'.ownBlock≠some b2:=Hn.neB B2 (by decide)
  have hone:=Hn.one
  replace hf:=hf.kp [2,5,11]
  refine aA T31 hf rfl rfl hone B2 Nat.zero_lt_one fun w hg hsz B2 hf=>?_
  replace B2:Blk w b2 #[u'] 31:=B2
  obtain⟨e,hT⟩:=gr2 hg e hT
  replace kh:=kh.tr (Kh.gr hg (fun hh=>by have:=hh.1;omega))
  replace Hn:=Hn.grE hg z2
  refine aa ?_
  simp only[Exit.inBlock]
  exact⟨⟨e,hT,⟨u',B2,by rw[cc,List.map_append];exact Hn,lH'⟩⟩,kh⟩
 ·intro a' w' hf' hJ hsz hDn
  simp only[Exit.inBlock,↓reduceIte,Exit.then]
  have hD:Ds [w.heap.size] w':=(Ds.nil w').cons hDn (by simp)
  have hf:FrD 13 (bq [w.heap.size]) a' w' [(2,E (ptr b2))]:=hf'.keep [2]
  have hDW:∀d∈[w.heap.size],W.heap.size≤d:=fun d hd=>by rw[List.mem_singleton] at hd;omega
  obtain⟨e,hT,⟨u,B2,Ho,_⟩⟩:=hJ
  generalize [w.heap.size]=D2 at *
  generalize w'=w at *
  refine seq <| rgN 1 hf <| st (ld1 (v:=u) T31 rfl B2 rfl) <| en fun a w e' hf=>?_
  obtain⟨e,B2,hD,Ho⟩:=up4 e' e B2 hD Ho
  refine tA hf rfl fun a hf=>aa <| ai <| gf rfl hf rfl hD ⟨_,rfl,e.shut hDW,?_⟩
  exact (Ho.chE (eb D2 w) fun b hb hm=>Ho.neDs hD hm hb).low hWN fun b hb=>hb.elim
theorem a2a (S:BS)(b:Nat)(W:World)(hT:Tab W)(hb:Blk W b (au S) 68) :
  Calls Tryz.prog 114 #[dz b] W (Post (Dv (slE aj) G0 (cc (elems S))) W):=by
 refine eN [dz b] [E (dz b)] Tryz.func114 Tryz.ntmps114 ?_ fun a hf=>?_
 rotate_left
 rotate_right
 ·exact arg1 rfl
 have e:=Ext.rfl' W
 refine seq <| ae <| tA hf rfl fun a hf=>aa <| seq <| rgN 2 hf <| st (mv rfl) <| st (ar (A:=Dv (slE aj) G0 (cc (elems S))) pR rfl rfl (fun v u w he k1 k2=>by cases k1;cases k2;exact (a1Z S b w (hT.ext he) (hb.ext he)).mono fun en w' ⟨u,k1,k2,k3⟩=>⟨u,k1,k2,OwR.sl k3⟩)) ?_
 refine en fun a w e' hf=>?_
 obtain⟨hT,e,hb⟩:=up3 e' hT e hb
 refine tA hf rfl fun a hf=>aa <| ai <| ap rfl hf rfl ?_
 intro v hv
 exact⟨_,rfl,e,hv⟩
theorem a2b (S:BS)(W:World)(hT:Tab W):Calls Tryz.prog 79 #[ac S] W (Post (Dv (slE aj) G0 (cc (elems S))) W):=by
 refine eN [ac S] [E (ac S)] Tryz.func79 Tryz.ntmps79 ?_ fun a hf=>?_
 rotate_left
 rotate_right
 ·exact arg1 rfl
 have e:=Ext.rfl' W
 refine seq <| ae <| tB hf rfl fun a b1 w v1 hv1 e' hb1 hs1 B1 hf=>?_
 obtain⟨hT,e⟩:=up2 e' hT e
 refine tA hf rfl fun a hf=>aa ?_
 cases hv1
 replace B1:Blk w b1 (au S) 68:=B1
 refine seq <| rgN 3 hf <| st ((ldW T68 rfl B1 rfl).eq ((rfl:_=ac S))) <| st (an (A:=bW 0 S) cg rfl (fun v w' he h=>by cases h;exact Calls.mono (cm _ w') (fun en w2 ⟨u,h1,h2,b',h3,h4,h5⟩=>⟨u,h1,h2,b',Nat.zero_le _,h4,h5⟩))) ?_
 refine st (an (A:=Dv (slE aj) G0 (cc (elems S))) pL rfl (fun v w he ⟨b,_,hv,hb⟩=>by rw[hv];exact a2a S b w (hT.ext he) hb)) ?_
 refine en fun a w e' hf=>?_
 obtain⟨hT,e,B1⟩:=up3 e' hT e B1
 refine tA hf rfl fun a hf=>aa <| ai <| ap rfl hf rfl ?_
 intro v hv
 exact⟨_,rfl,e,hv⟩
end Go.Mono
namespace Go.Mono

section
variable {fs:List BS}{T:Tr}
theorem gR {S:BS}{p:Nat}(h:S.getLsbD p=true):card S=card (del S (p:Int))+1:=by
 have hp:=ay h
 have hone:∀i,(ins 0 (p:Int)).getLsbD i=true↔i=p:=fun i=>by
  rw[aX 0 hp];exact⟨fun h=>h.resolve_left (aW i),.inr⟩
 rw[← nM hone]
 refine nL (fun i=>?_) fun i hi=>((bu S hp).1 hi.1).2 ((hone i).1 hi.2)
 rw[bu S hp,hone]
 constructor
 ·intro hi
  by_cases hip:i=p
  ·exact .inr hip
  ·exact .inl ⟨hi,hip⟩
 ·rintro (hi|rfl)
  ·exact hi.1
  ·exact h
end
section
variable {fs:List BS}{T:Tr}
end
end Go.Mono
namespace Go.Mono
open Go Go.Proofs Go.RowKit

def cJ (n:Nat):BS:=BitVec.ofNat 1024 (2 ^ n - 1)
theorem a2c (n i:Nat)(hi:i<1024):(cJ n).getLsbD i=decide (i<n):=by
 rw[cJ,BitVec.getLsbD_ofNat,Nat.testBit_two_pow_sub_one]
 simp[hi]
theorem a2d:∀m,m≤64→∀j,j<64→((1#64 <<< m) - 1#64).getLsbD j=decide (j<m):=by decide +kernel
theorem a2e (n i:Nat)(hi:i<16):am (cJ n) i=(1#64 <<< (max 0 (min ((n:Int) - 64 * (i:Int)) 64)).toNat) - 1#64:=by
 refine BitVec.eq_of_getLsbD_eq fun j hj=>?_
 rw[dR _ _ _ hj,a2c _ _ (by omega),a2d _ (by omega) j hj,decide_eq_decide]
 omega

theorem a2f (n:Nat)(W:World)(hn:n≤1024):Calls Tryz.prog 69 #[I (n:Nat)] W (Post (E (ac (cJ n))) W):=by
 refine eN [I (n:Nat)] [E (I (n:Nat))] Tryz.func69 Tryz.ntmps69 ?_ fun a hf=>?_
 rotate_left
 rotate_right
 ·exact arg1 rfl
 have e:=Ext.rfl' W
 refine seq <| ae <| tL I68 hf fun a b2 w e' hb2 hs2 B2 hf=>?_
 replace e:=e.tr e'
 refine aa ?_
 simp only[Value.cells,cE] at B2
 refine seq <| ae <| tL I68 hf fun a b3 w e' hb3 hs3 B3 hf=>?_
 obtain⟨e,B2⟩:=up2 e' e B2
 refine aa ?_
 simp only[Value.cells,cE] at B3
 replace hf:=hf.keep [0,2,3]
 refine seq <| rgN 3 hf <| st (mv rfl) <| st (min2 rfl rfl) <| st ((max2 rfl rfl).eq (congrArg (Value.int .i64) (show max (0:Int) (min (n:Int) 1024)=(n:Int) by omega))) <| en fun a w e' hf=>?_
 obtain⟨e,B2,B3⟩:=up3 e' e B2 B3
 refine tA hf rfl fun a hf=>aa ?_
 repeat refine seq ?_
 refine rgN 1 hf <| st (mv rfl) <| en fun a w e' hf=>?_
 obtain⟨e,B2,B3⟩:=up3 e' e B2 B3
 refine aa ?_
 replace hf:=hf.keep [0,2,3,8]
 refine blk (aJ (fun r a w=>∃k:Nat,r=16 - k∧k≤16∧Fr 23 a w [(0,E (I (n:Nat))),(2,E (.pointer (some ⟨b2,0,none⟩))),(3,E (.pointer (some ⟨b3,0,none⟩))),(8,E (I k))]∧Ext W w ∧
  Blk w b2 (au 0) 68∧Blk w b3 (aU fun i=>if i<k then am (cJ n) i else 0) 68) 16 ⟨0,rfl,by omega,hf,e,B2,?_⟩ ?_)
 ·have e0:(aU fun i=>if i<0 then am (cJ n) i else 0)=au 0:=by
   rw[pX]
   exact dK fun i _=>if_neg (Nat.not_lt_zero i)
  rw[e0];exact B3
 rintro r a w ⟨k,rfl,hk,hf,e,B2,B3⟩
 by_cases hlt:k<16
 ·refine seq <| rgN 1 hf <| st ((lss rfl rfl).eq (congrArg Value.bool (show decide ((k:Int)<16)=true from decide_eq_true (by omega)))) <| en fun a w e' hf=>?_
  obtain⟨e,B2,B3⟩:=up3 e' e B2 B3
  refine aa <| seq <| ifc hf rfl (fun _=>ak ?_) (fun h=>by cases h)
  refine seq <| blk <| seq <| rgN 1 hf <| st (mv rfl) <| en fun a w e' hf=>?_
  obtain⟨e,B2,B3⟩:=up3 e' e B2 B3
  refine tA hf rfl fun a hf=>aa ?_
  have hwb:=a2e n k hlt
  refine rgN 10 hf <| st (mv rfl) <| st (mv rfl) <| st (mv rfl) <| st (mul rfl rfl (by omega)) <| st (sub rfl rfl (by omega)) <| st (min2 rfl rfl) <| st (max2 rfl rfl) <| st (oZ (u:=1#64) rfl rfl (by omega)) <| st ((vC (v:=1#64) rfl rfl).eq (show Mono.W _=Mono.W (am (cJ n) k) from by rw[hwb])) <| st (cD U68 ⟨_,T66⟩ rfl rfl (by omega)) <| en fun a w e' hf=>?_
  obtain⟨e,B2,B3⟩:=up3 e' e B2 B3
  refine aA T66 hf rfl rfl rfl B3 (by rw[fm];simp;omega) fun w hg hsz B3 hf=>?_
  obtain⟨e,B2⟩:=gr2 hg e B2
  refine aa ?_
  replace B3:Blk w b3 (aU fun i=>if i<k+1 then am (cJ n) i else 0) 68:=by
   have:(aU fun i=>if i<k then am (cJ n) i else 0).setIfInBounds k (Mono.W (am (cJ n) k))=aU fun i=>if i<k+1 then am (cJ n) i else 0:=by
    rw[hZ]
    refine dK fun i hi=>?_
    by_cases h1:i=k
    ·subst h1;simp
    ·simp only[h1,if_false]
     by_cases h2:i<k
     ·simp[h2,show i<k+1 by omega]
     ·simp[h2,show ¬i<k+1 by omega]
   rw[← this]
   simpa using B3
  replace hf:=hf.keep [0,2,3,8]
  refine rgN 1 hf <| st (add rfl rfl (by omega)) <| en fun a w e' hf=>?_
  obtain⟨e,B2,B3⟩:=up3 e' e B2 B3
  refine tP hf (mv rfl) fun a w e' hf=>?_
  obtain⟨e,B2,B3⟩:=up3 e' e B2 B3
  refine aa ?_
  replace hf:=hf.kp [0,2,3,8]
  exact⟨16 - (k+1),by omega,k+1,rfl,by omega,by simpa using hf,e,B2,B3⟩
 ·obtain rfl:k=16:=by omega
  refine seq <| rgN 1 hf <| st ((lss rfl rfl).eq (congrArg Value.bool (show decide (((16:Nat):Int)<16)=false from rfl))) <| en fun a w e' hf=>?_
  obtain⟨e,B2,B3⟩:=up3 e' e B2 B3
  refine aa <| seq <| ifc hf rfl (fun h=>by cases h) (fun _=>aG ?_)
  have hC:(aU fun i=>if i<16 then am (cJ n) i else 0)=au (cJ n):=dK fun i hi=>by
   simp only[hi,if_true]
  rw[hC] at B3
  refine seq <| rgN 1 hf <| st (ldW T68 rfl (by assumption) rfl) <| en fun a w e' hf=>?_
  obtain⟨e,B2,B3⟩:=up3 e' e B2 B3
  haveI hinr:∀G0,InR (GB W G0) (some b2):=fun G0=>InR.gb (by omega)
  refine az T68 hf rfl rfl (aP _) B2 rfl (rfl) fun w hg hsz B2 hf=>?_
  obtain⟨e,B3⟩:=gr2 hg e B3
  refine aa <| ai (ep rfl T68 hf rfl B2 e rfl)
end Go.Mono
namespace Go.Mono

section
variable {t:List (Int×BS)}{T:Tr}
end
def dN (t:List (Int×BS))(k:Nat):Int:=(t.take k).foldl (fun m b=>max m ((card b.2:Int) - 1)) (-1)
def lg (t:List (Int×BS)):Int:=dN t t.length
theorem ob {t:List (Int×BS)}{k:Nat}(h:k<t.length):dN t (k+1)=max (dN t k) ((card (bg t k).2:Int) - 1):=by
 rw[dN,List.take_add_one,fR h,List.foldl_append];rfl
theorem tJ (t:List (Int×BS)):∀k,k≤t.length → -1≤dN t k∧dN t k≤1024∧(∀i,i<k→(card (bg t i).2:Int) - 1≤dN t k)∧∀B:Int,-1≤B→(∀i,i<k→(card (bg t i).2:Int) - 1≤B)→dN t k≤B
 | 0,_=>⟨by simp[dN],by simp[dN],fun i hi=>by omega,fun B hB _=>by simpa[dN] using hB⟩
 | k+1,h=>by
  obtain⟨h1,h2,h3,h4⟩:=tJ t k (by omega)
  rw[ob (by omega)]
  have hc:=fE (S:=(bg t k).2) (n:=1024) fun i hi=>ay hi
  refine⟨by omega,by omega,fun i hi=>?_,fun B hB hb=>?_⟩
  ·by_cases hik:i=k
   ·subst hik;omega
   ·have:=h3 i (by omega);omega
  ·have:=h4 B hB fun i hi=>hb i (by omega)
   have:=hb k (by omega)
   omega
end Go.Mono
namespace Go.Mono

theorem a2g (S:BS):(elems S).Pairwise (· < ·):=List.Pairwise.filter _ (List.pairwise_lt_range (n:=1024))
section
variable {t:List (Int×BS)}{S:BS}
end
end Go.Mono
namespace Go.Mono
open Go Go.Proofs Go.RowKit Go.Gr

theorem tK:∀(l m:List Int),l.Pairwise (· < ·)→m.Pairwise (· < ·)→(∀x,x∈l↔x∈m)→l=m
 | [],[],_,_,_=>rfl
 | [],b::m,_,_,h=>absurd ((h b).2 (List.mem_cons_self ..)) (by simp)
 | a::l,[],_,_,h=>absurd ((h a).1 (List.mem_cons_self ..)) (by simp)
 | a::l,b::m,hl,hm,h=>by
  obtain⟨l1,l2⟩:=List.pairwise_cons.1 hl
  obtain⟨m1,m2⟩:=List.pairwise_cons.1 hm
  have hab:a=b:=by
   rcases List.mem_cons.1 ((h a).1 (List.mem_cons_self ..)) with h1|h1
   ·exact h1
   rcases List.mem_cons.1 ((h b).2 (List.mem_cons_self ..)) with h2|h2
   ·exact h2.symm
   have:=m1 _ h1;have:=l1 _ h2;omega
  subst hab
  rw[tK l m l2 m2 fun x=>?_]
  constructor
  ·intro hx
   rcases List.mem_cons.1 ((h x).1 (List.mem_cons_of_mem _ hx)) with h1|h1
   ·have:=l1 _ hx;omega
   ·exact h1
  ·intro hx
   rcases List.mem_cons.1 ((h x).2 (List.mem_cons_of_mem _ hx)) with h1|h1
   ·have:=m1 _ hx;omega
   ·exact h1
section
variable {g:GT}{th:List Int}
theorem a2h (G:Gr.Ok g){x:Int}:x∈kZ g↔∃u:Nat,x=(u:Int)∧(ah g.1).getLsbD u=true:=by
 constructor
 ·intro h
  obtain⟨y,hy,rfl⟩:=List.mem_map.1 h
  have h3:=kJ (G.rv y hy).1
  exact⟨y.1.toNat,by omega,(nU G).2 ⟨y,hy,by omega⟩⟩
 ·rintro⟨u,rfl,hu⟩
  obtain⟨y,hy,h⟩:=(nU G).1 hu
  exact List.mem_map.2 ⟨y,hy,h⟩
theorem a2i (G:Gr.Ok g):(kZ g).Pairwise (· < ·):=List.pairwise_map.2 (G.sv.imp fun h=>by simpa[lt1] using h)
theorem a2j (S:BS):(cc (elems S)).Pairwise (· < ·):=List.pairwise_map.2 ((a2g S).imp fun h=>by omega)
def aT (S:BS)(l:List Nat):BS:=l.foldl (fun (s:BS) (v:Nat)=>ins s (v:Int)) S
theorem lh (S:BS)(v:Nat)(l:List Nat):aT S (v::l)=aT (ins S (v:Int)) l:=by rw[aT,aT,List.foldl_cons]
theorem gS:∀(l:List Nat) (S:BS),(∀v∈l,v<1024)→∀u,(aT S l).getLsbD u=true↔S.getLsbD u=true∨u∈l
 | [],S,_,u=>by simp[aT]
 | v::l,S,h,u=>by
  rw[lh,gS l _ (fun x hx=>h x (List.mem_cons_of_mem _ hx)) u,aX S (h v (List.mem_cons_self ..)),List.mem_cons,or_assoc]
theorem oc (nb:Int→BS)(v:Nat):∀(l:List Nat) (S:BS),bi nb S (l++[v])=max (bi nb S l) (rn nb (aT S l) v)
 | [],S=>by
  rw[List.nil_append,bi,bi,bi,aT,List.foldl_nil,Int.max_comm]
 | u::l,S=>by
  rw[List.cons_append,bi,oc nb v l,bi,lh,Int.max_assoc]
end
def twG (g:GT):Int:=rsR (nbA g) (ah g.1) 0
theorem tM (g:GT) : -1≤twG g:=(kT (nb:=nbA g) (all:=ah g.1) 0).1
section
variable {nb nb':Int→BS}{C S S':BS}
theorem a2k (l m:List Nat)(S:BS):aT S (l++m)=aT (aT S l) m:=by rw[aT,List.foldl_append];rfl
theorem tN (nb:Int→BS)(m:List Nat):∀(l:List Nat) (S:BS),bi nb S (l++m)=max (bi nb S l) (bi nb (aT S l) m)
 | [],S=>by
  have:=tI nb m S
  rw[List.nil_append,bi,aT,List.foldl_nil];omega
 | u::l,S=>by rw[List.cons_append,bi,tN nb m l,bi,lh,Int.max_assoc]
end
section
variable {g h:GT}
end

section
variable {g h:GT}
theorem a2l (G:Gr.Ok g):cc (elems (ah g.1))=kZ g:=tK _ _ (a2j _) (a2i G) fun x=>by
 rw[a2h G,cc,List.mem_map]
 exact⟨fun⟨u,h1,h2⟩=>⟨u,h2.symm,(aH.1 h1).2⟩,fun⟨u,h1,h2⟩=>⟨u,aH.2 ⟨ay h2,h2⟩,h1.symm⟩⟩
theorem tO (G:Gr.Ok g):card (ah g.1)=g.1.length:=by
 have h:=congrArg List.length (a2l G)
 rw[cc,List.length_map,eA,kZ,List.length_map] at h
 exact h
theorem a2m (G:Gr.Ok g)(hl:g.1.length≤12){C:BS}{k:Nat}(hC:∀i,C.getLsbD i=true→(ah g.1).getLsbD i=true∧k≤card (nbA g (i:Int) &&& C)){c:Nat}(hc:C.getLsbD c=true):(k:Int)≤twG g:=by
 obtain⟨o1,o2,o3⟩:=oa G hl
 have key:∀(l:List Nat) (S:BS),(∀i,C.getLsbD i=true→i∈l∧¬S.getLsbD i=true)→(∀v∈l,v<1024)→(k:Int)≤bi (nbA g) S l:=by
  intro l
  induction l with
  | nil=>intro S h _;exact absurd (h c hc).1 (by simp)
  | cons v l ih=>
   intro S h hv1
   have hv:=hv1 v (List.mem_cons_self ..)
   rw[bi]
   by_cases hCv:C.getLsbD v=true
   ·have h1:card (nbA g (v:Int) &&& C)≤card (reB (nbA g) S (v:Int)):=nK fun u hu=>by
     obtain⟨k1,k2⟩:=(ed _ _ _).1 hu
     exact (ee hv).2 ⟨.one k1,(h u k2).2,fun e=>(((eB G).1 k1).inn G).2.2 e.symm⟩
    have h2:=(hC v hCv).2
    rw[rn];omega
   ·have h1:=ih (ins S (v:Int)) (fun i hi=>by
     obtain⟨k1,k2⟩:=h i hi
     have hiv:i≠v:=fun e=>hCv (e▸hi)
     refine⟨(List.mem_cons.1 k1).resolve_left hiv,fun hh=>?_⟩
     rcases (aX S hv).1 hh with h'|h'
     ·exact k2 h'
     ·exact hiv h') fun x hx=>hv1 x (List.mem_cons_of_mem v hx)
    omega
 have h1:=key (ef g) 0 (fun i hi=>⟨(o2 i).2 (hC i hi).1,aW i⟩) fun v hv=>ay ((o2 v).1 hv)
 rw[o3] at h1
 exact h1
theorem fG (G:Gr.Ok g):∀i j:Nat,(nbA g (i:Int)).getLsbD j=true→(ah g.1).getLsbD j=true:=fun i j h=>(((eB G).1 h).inn G).2.1
end
section
variable {nb:Int→BS}
end
section
variable {g:GT}
theorem a2n (G:Gr.Ok g)(hl:g.1.length≤12){C:BS}{c:Nat}(hc:C.getLsbD c=true)(hC:∀i,C.getLsbD i=true→(ah g.1).getLsbD i=true∧∀j,C.getLsbD j=true→i≠j→(nbA g (i:Int)).getLsbD j=true):((card C:Nat):Int)≤twG g+1:=by
 have:=a2m G hl (C:=C) (k:=card C - 1) (fun i hi=>by
  refine⟨(hC i hi).1,?_⟩
  have h2:=gR hi
  have h3:card (del C (i:Int))≤card (nbA g (i:Int) &&& C):=nK fun j hj=>by
   obtain⟨j1,j2⟩:=(bu C (ay hi)).1 hj
   exact (ed _ _ _).2 ⟨(hC i hi).2 j j1 (Ne.symm j2),j1⟩
  omega) hc
 omega
end
end Go.Mono
namespace Go.Mono
open Go Go.Proofs Go.RowKit Go.Gr
theorem jB {α:Type}[DecidableEq α]:∀(l m:List α),l.Nodup→(∀x∈l,x∈m)→l.length≤m.length
 | [],m,_,_=>Nat.zero_le _
 | x::l,m,hn,hs=>by
  obtain⟨n1,n2⟩:=List.nodup_cons.1 hn
  have hx:=hs x (List.mem_cons_self ..)
  have h1:=jB l (m.erase x) n2 fun y hy=>by
   have hyx:y≠x:=fun e=>n1 (e▸hy)
   exact (List.mem_erase_of_ne hyx).2 (hs y (List.mem_cons_of_mem _ hy))
  have h2:=List.length_erase_of_mem hx
  have h3:=List.length_pos_of_mem hx
  rw[List.length_cons];omega
theorem tQ {α β:Type}{f:α→β}:∀{l:List α},l.Nodup→(∀a∈l,∀b∈l,f a=f b→a=b)→(l.map f).Nodup
 | [],_,_=>List.nodup_nil
 | x::l,hn,hf=>by
  obtain⟨n1,n2⟩:=List.nodup_cons.1 hn
  rw[List.map_cons]
  refine List.nodup_cons.2 ⟨fun h=>?_,tQ n2 fun a ha b hb=>hf a (List.mem_cons_of_mem _ ha) b (List.mem_cons_of_mem _ hb)⟩
  obtain⟨y,hy,e⟩:=List.mem_map.1 h
  exact n1 (hf y (List.mem_cons_of_mem _ hy) x (List.mem_cons_self ..) e▸hy)
theorem a2o (S:BS):(elems S).Nodup:=List.Nodup.sublist List.filter_sublist List.nodup_range
inductive Cn (nb:Int→BS)(B:Nat→Prop)(a:Nat):Nat→Prop
 | refl:Cn nb B a a
 | step {y u:Nat}:Cn nb B a y→(nb (y:Int)).getLsbD u=true→B u→Cn nb B a u
theorem Cn.trans {nb:Int→BS}{B:Nat→Prop}{a y b:Nat}(h:Cn nb B a y)(k:Cn nb B y b):Cn nb B a b:=by
 induction k with
 | refl=>exact h
 | step _ h1 h2 ih=>exact .step ih h1 h2
theorem Cn.mono {nb:Int→BS}{B B':Nat→Prop}{a b:Nat}(h:Cn nb B a b)(hB:∀x,B x→B' x):Cn nb B' a b:=by
 induction h with
 | refl=>exact .refl
 | step _ h1 h2 ih=>exact .step ih h1 (hB _ h2)
structure Mnr (nb:Int→BS)(V J:BS)(nh:Nat→BS)(B:Nat→Nat→Prop):Prop where
 ne:∀j,J.getLsbD j=true→∃x,B j x
 inn:∀j x,J.getLsbD j=true→B j x→V.getLsbD x=true
 dis:∀i j x,J.getLsbD i=true→J.getLsbD j=true→B i x→B j x→i=j
 con:∀j x y,J.getLsbD j=true→B j x→B j y→Cn nb (B j) x y
 adj:∀j i,J.getLsbD j=true→(nh j).getLsbD i=true→J.getLsbD i=true∧i≠j∧∃x y,B j x∧B i y∧(nb (x:Int)).getLsbD y=true
section
variable {nb:Int→BS}{V J:BS}{nh:Nat→BS}{B:Nat→Nat→Prop}
theorem Mnr.first (M:Mnr nb V J nh B){j:Nat}(hj:J.getLsbD j=true):∀(r p:List Nat),(∀x,V.getLsbD x=true→x∈p++r)→(∀i,J.getLsbD i=true→∃x,B i x∧x ∉ p) →
  ∃p' t r',p++r=p'++t::r'∧(∀i,J.getLsbD i=true→∃x,B i x∧x ∉ p')∧∃i,J.getLsbD i=true∧B i t∧∀x,B i x→x∈p'∨x=t
 | [],p,hV,hp=>by
  obtain⟨x,h1,h2⟩:=hp j hj
  have:=hV x (M.inn j x hj h1)
  rw[List.append_nil] at this
  exact absurd this h2
 | t::r,p,hV,hp=>by
  by_cases h:∀i,J.getLsbD i=true→∃x,B i x∧x ∉ p++[t]
  ·obtain⟨p',t',r',h1,h2⟩:=Mnr.first M hj r (p++[t]) (fun x hx=>by rw[List.append_assoc];exact hV x hx) h
   exact⟨p',t',r',by rw[← h1,List.append_assoc];rfl,h2⟩
  ·refine⟨p,t,r,rfl,hp,?_⟩
   have ⟨i,hi⟩:=Classical.not_forall.1 h
   have ⟨hiJ,hn⟩:=Classical.not_imp.1 hi
   have hall:∀x,B i x→x∈p∨x=t:=fun x hx=>by
    have:x∈p++[t]:=Classical.byContradiction fun hh=>hn ⟨x,hx,hh⟩
    rcases List.mem_append.1 this with h|h
    ·exact .inl h
    ·exact .inr (List.mem_singleton.1 h)
   refine⟨i,hiJ,?_,hall⟩
   obtain⟨x,h1,h2⟩:=hp i hiJ
   rcases hall x h1 with h3|h3
   ·exact absurd h3 h2
   ·rwa [← h3]
theorem Mnr.hits (M:Mnr nb V J nh B){S:BS}{p:List Nat}(hS:∀x,S.getLsbD x=true↔x∈p)(hp:∀i,J.getLsbD i=true→∃x,B i x∧x ∉ p){j t:Nat}(hj:J.getLsbD j=true)(ht:B j t)(hall:∀x,B j x→x∈p∨x=t){i:Nat}(hi:(nh j).getLsbD i=true) :
  ∃w,B i w∧w ∉ p∧Via nb S t w:=by
 obtain⟨hiJ,hne,x,y,hx,hy,hxy⟩:=M.adj j i hj hi
 obtain⟨z,hz,hzp⟩:=hp i hiJ
 have s1:∀u,Cn nb (B j) t u→u=t∨(Via nb S t u∧B j u):=fun u h=>by
  induction h with
  | refl=>exact .inl rfl
  | step _ h1 h2 ih=>
   refine .inr ⟨?_,h2⟩
   rcases ih with ih|⟨ih,ihB⟩
   ·rw[ih] at h1;exact .one h1
   ·rcases hall _ ihB with h3|h3
    ·exact .step ih ((hS _).2 h3) h1
    ·rw[h3] at h1;exact .one h1
 have s2:Via nb S t y:=by
  rcases s1 x (M.con j t x hj ht hx) with h|⟨h,hB⟩
  ·rw[h] at hxy;exact .one hxy
  ·rcases hall _ hB with h3|h3
   ·exact .step h ((hS _).2 h3) hxy
   ·rw[h3] at hxy;exact .one hxy
 have s3:∀u,Cn nb (B i) y u→B i u→(∃w,B i w∧w ∉ p∧Via nb S t w)∨Via nb S t u:=fun u h=>by
  induction h with
  | refl=>exact fun _=>.inr s2
  | @step y' u' h0 h1 h2 ih=>
   intro _
   have hB:B i y':=by
    cases h0 with
    | refl=>exact hy
    | step _ _ h=>exact h
   rcases ih hB with ih|ih
   ·exact .inl ih
   ·by_cases hyp:y'∈p
    ·exact .inr (.step ih ((hS _).2 hyp) h1)
    ·exact .inl ⟨y',hB,hyp,ih⟩
 rcases s3 z (M.con i y z hiJ hy hz) hz with h|h
 ·exact h
 ·exact⟨z,hz,hzp,h⟩
end
theorem a2p {g:GT}(G:Gr.Ok g)(hl:g.1.length≤12){J:BS}{nh:Nat→BS}{B:Nat→Nat→Prop}(M:Mnr (nbA g) (ah g.1) J nh B){k:Nat}{j:Nat}(hj:J.getLsbD j=true)(hk:∀j,J.getLsbD j=true→k≤card (nh j)):(k:Int)≤twG g:=by
 obtain⟨o1,o2,o3⟩:=oa G hl
 obtain⟨p,t,r,he,hp,i,hi,hit,hall⟩:=M.first hj (ef g) [] (fun x hx=>by rw[List.nil_append];exact (o2 x).2 hx) fun i hi=>by
  obtain⟨x,hx⟩:=M.ne i hi
  exact⟨x,hx,by simp⟩
 rw[List.nil_append] at he
 have hlt:∀x∈p,x<1024:=fun x hx=>ay ((o2 x).1 (by rw[he];exact List.mem_append_left _ hx))
 have htV:(ah g.1).getLsbD t=true:=(o2 t).1 (by rw[he];simp)
 have ht:=ay htV
 have hS:∀x,(aT 0 p).getLsbD x=true↔x∈p:=fun x=>by
  rw[gS p 0 hlt x]
  exact⟨fun h=>h.resolve_left (aW x),.inr⟩
 have hw:∀i',(nh i).getLsbD i'=true→∃w,B i' w∧(reB (nbA g) (aT 0 p) (t:Int)).getLsbD w=true:=fun i' hi'=>by
  obtain⟨w,h1,h2,h3⟩:=M.hits hS hp hi hit hall hi'
  have hq:=M.adj i i' hi hi'
  refine⟨w,h1,(ee ht).2 ⟨h3,fun h=>h2 ((hS w).1 h),fun e=>?_⟩⟩
  rw[e] at h1
  exact hq.2.1 (M.dis i' i t hq.1 hi h1 hit)
 have hcard:card (nh i)≤card (reB (nbA g) (aT 0 p) (t:Int)):=by
  rw[← eA,← eA]
  have hch:∀i',∃w,(nh i).getLsbD i'=true→B i' w∧(reB (nbA g) (aT 0 p) (t:Int)).getLsbD w=true:=fun i'=>by
   by_cases h:(nh i).getLsbD i'=true
   ·obtain⟨w,hw⟩:=hw i' h;exact⟨w,fun _=>hw⟩
   ·exact⟨0,fun h'=>absurd h' h⟩
  have hf:∀i',(nh i).getLsbD i'=true→B i' (Classical.choose (hch i'))∧(reB (nbA g) (aT 0 p) (t:Int)).getLsbD (Classical.choose (hch i'))=true:=fun i'=>Classical.choose_spec (hch i')
  have h1:=jB ((elems (nh i)).map fun i'=>Classical.choose (hch i')) (elems (reB (nbA g) (aT 0 p) (t:Int))) ?_ ?_
  ·rwa [List.length_map] at h1
  ·refine tQ (a2o _) fun a ha b hb e=>?_
   have ha':=(aH.1 ha).2
   have hb':=(aH.1 hb).2
   exact M.dis a b _ (M.adj i a hi ha').1 (M.adj i b hi hb').1 (hf a ha').1 (by rw[e];exact (hf b hb').1)
  ·intro x hx
   obtain⟨a,ha,rfl⟩:=List.mem_map.1 hx
   have:=(hf a (aH.1 ha).2).2
   exact aH.2 ⟨ay this,this⟩
 have hle:rn (nbA g) (aT 0 p) t≤twG g:=by
  rw[twG,← o3,he,tN]
  exact Int.le_trans (Int.le_max_left _ _) (Int.le_max_right _ _)
 have:=hk i hi
 have e1:rn (nbA g) (aT 0 p) t=(card (reB (nbA g) (aT 0 p) (t:Int)):Nat):=rfl
 omega
theorem tR {g:GT}(G:Gr.Ok g):Mnr (nbA g) (ah g.1) (ah g.1) (fun j=>nbA g (j:Int)) (fun j x=>x=j) where
 ne j _:=⟨j,rfl⟩
 inn j x hj hx:=by rw[hx];exact hj
 dis i j x _ _ h1 h2:=by rw[← h1,← h2]
 con j x y _ h1 h2:=by rw[h1,h2];exact .refl
 adj j i _ h:=⟨fG G j i h,fun e=>by rw[e] at h;exact (((eB G).1 h).inn G).2.2 rfl,j,i,rfl,rfl,h⟩
section
variable {nb:Int→BS}{V J J':BS}{nh nh':Nat→BS}{B:Nat→Nat→Prop}
theorem Mnr.less (M:Mnr nb V J nh B)(hJ:∀j,J'.getLsbD j=true→J.getLsbD j=true)(hn:∀j i,J'.getLsbD j=true→(nh' j).getLsbD i=true→(nh j).getLsbD i=true∧J'.getLsbD i=true):Mnr nb V J' nh' B where
 ne j h:=M.ne j (hJ j h)
 inn j x h:=M.inn j x (hJ j h)
 dis i j x h h':=M.dis i j x (hJ i h) (hJ j h')
 con j x y h:=M.con j x y (hJ j h)
 adj j i h h':=by
  obtain⟨q1,q2⟩:=hn j i h h'
  have q3:=M.adj j i (hJ j h) q1
  exact⟨q2,q3.2⟩
theorem Mnr.into (M:Mnr nb V J nh B)(hs:∀i j:Nat,(nb (i:Int)).getLsbD j=true→(nb (j:Int)).getLsbD i=true){id d:Nat}(hid:J.getLsbD id=true)(hd:(nh id).getLsbD d=true)(hJ:∀j,J'.getLsbD j=true↔J.getLsbD j=true∧j≠id)
  (hn:∀j i,J'.getLsbD j=true→(nh' j).getLsbD i=true→i≠id∧((nh j).getLsbD i=true∨(i=d∧j≠d∧(nh id).getLsbD j=true)∨(j=d∧i≠d∧(nh id).getLsbD i=true))) :
  Mnr nb V J' nh' (fun j x=>B j x∨(j=d∧B id x)):=by
 obtain⟨dJ,dne,x0,y0,hx0,hy0,hxy⟩:=M.adj id d hid hd
 have hJ1:∀{j},J'.getLsbD j=true→J.getLsbD j=true:=fun h=>((hJ _).1 h).1
 have hJ2:∀{j},J'.getLsbD j=true→j≠id:=fun h=>((hJ _).1 h).2
 refine⟨fun j h=>?_,fun j x h hx=>?_,fun i j x h h' hx hx'=>?_,fun j x y h hx hy=>?_,fun j i h h'=>?_⟩
 ·obtain⟨x,hx⟩:=M.ne j (hJ1 h)
  exact⟨x,.inl hx⟩
 ·rcases hx with hx|⟨_,hx⟩
  ·exact M.inn j x (hJ1 h) hx
  ·exact M.inn id x hid hx
 ·rcases hx with hx|⟨hi,hx⟩ <;> rcases hx' with hx'|⟨hj,hx'⟩
  ·exact M.dis i j x (hJ1 h) (hJ1 h') hx hx'
  ·exact absurd (M.dis i id x (hJ1 h) hid hx hx') (hJ2 h)
  ·exact absurd (M.dis j id x (hJ1 h') hid hx' hx) (hJ2 h')
  ·rw[hi,hj]
 ·have c1:∀{x y},B j x→B j y→Cn nb (fun x=>B j x∨(j=d∧B id x)) x y:=fun h1 h2=>(M.con j _ _ (hJ1 h) h1 h2).mono fun x h=>.inl h
  have c2:j=d→∀{x y},B id x→B id y→Cn nb (fun x=>B j x∨(j=d∧B id x)) x y:=fun hj x y h1 h2=>(M.con id _ _ hid h1 h2).mono fun x h=>.inr ⟨hj,h⟩
  rcases hx with hx|⟨hj,hx⟩ <;> rcases hy with hy|⟨hj',hy⟩
  ·exact c1 hx hy
  ·have hyd:B j y0:=by rw[hj'];exact hy0
   exact ((c1 hx hyd).step (hs _ _ hxy) (.inr ⟨hj',hx0⟩)).trans (c2 hj' hx0 hy)
  ·have hyd:B j y0:=by rw[hj];exact hy0
   exact ((c2 hj hx hx0).step hxy (.inl hyd)).trans (c1 hyd hy)
  ·exact c2 hj hx hy
 ·obtain⟨n1,n2⟩:=hn j i h h'
  rcases n2 with n2|⟨e1,e2,n2⟩|⟨e1,e2,n2⟩
  ·obtain⟨q1,q2,x,y,q3,q4,q5⟩:=M.adj j i (hJ1 h) n2
   exact⟨(hJ i).2 ⟨q1,n1⟩,q2,x,y,.inl q3,.inl q4,q5⟩
  ·obtain⟨q1,q2,x,y,q3,q4,q5⟩:=M.adj id j hid n2
   rw[e1]
   exact⟨(hJ d).2 ⟨dJ,dne⟩,fun e=>e2 e.symm,y,x,.inl q4,.inr ⟨rfl,q3⟩,hs _ _ q5⟩
  ·obtain⟨q1,q2,x,y,q3,q4,q5⟩:=M.adj id i hid n2
   rw[e1]
   exact⟨(hJ i).2 ⟨q1,n1⟩,e2,x,y,.inr ⟨rfl,q3⟩,.inl q4,q5⟩
end
def egS (near:Nat→BS)(t:Nat)(u:Nat):BS:=if (near t).getLsbD u=true then del (del (near u ||| near t) (u:Int)) (t:Int) else near u
def egL (near:Nat→BS)(p:List Nat):Nat→BS:=p.foldl egS near
theorem tS (near:Nat→BS)(p:List Nat)(t:Nat):egL near (p++[t])=egS (egL near p) t:=by simp only[egL,List.foldl_append,List.foldl_cons,List.foldl_nil]
section
variable {nb:Int→BS}(hs:∀i j:Nat,(nb (i:Int)).getLsbD j=true→(nb (j:Int)).getLsbD i=true)
include hs
theorem a2q {S:BS}{t v:Nat}(ht:t<1024)(hv:v<1024)(htS:¬S.getLsbD t=true)(hvt:v≠t)(hvS:¬S.getLsbD v=true) :
  reB nb (ins S (t:Int)) (v:Int)=if (reB nb S (t:Int)).getLsbD v=true then del (del (reB nb S (v:Int) ||| reB nb S (t:Int)) (v:Int)) (t:Int) else reB nb S (v:Int):=by
 have hsym:(reB nb S (t:Int)).getLsbD v=true↔Via nb S v t:=by
  rw[ee ht]
  exact⟨fun h=>h.1.symm hs,fun h=>⟨h.symm hs,hvS,hvt⟩⟩
 refine bT fun u=>?_
 rw[ee hv,Via.ins ht,aX S ht]
 by_cases h:(reB nb S (t:Int)).getLsbD v=true
 ·rw[if_pos h,bu _ ht,bu _ hv,ez,ee hv,ee ht]
  have hvt':=hsym.1 h
  constructor
  ·rintro⟨h1,h2,h3⟩
   have h4:¬S.getLsbD u=true:=fun hh=>h2 (.inl hh)
   have h5:u≠t:=fun hh=>h2 (.inr hh)
   refine⟨⟨?_,h3⟩,h5⟩
   rcases h1 with h1|⟨_,h1⟩
   ·exact .inl ⟨h1,h4,h3⟩
   ·exact .inr ⟨h1,h4,h5⟩
  ·rintro⟨⟨h1,h3⟩,h5⟩
   rcases h1 with ⟨h1,h4,_⟩|⟨h1,h4,_⟩
   ·exact⟨.inl h1,fun hh=>hh.elim h4 h5,h3⟩
   ·exact⟨.inr ⟨hvt',h1⟩,fun hh=>hh.elim h4 h5,h3⟩
 ·rw[if_neg h,ee hv]
  have hn:¬Via nb S v t:=fun hh=>h (hsym.2 hh)
  constructor
  ·rintro⟨h1,h2,h3⟩
   rcases h1 with h1|⟨h1,_⟩
   ·exact⟨h1,fun hh=>h2 (.inl hh),h3⟩
   ·exact absurd h1 hn
  ·rintro⟨h1,h2,h3⟩
   exact⟨.inl h1,fun hh=>hh.elim h2 fun e=>hn (e▸h1),h3⟩
theorem od (hi:∀a:Nat,¬(nb (a:Int)).getLsbD a=true)(p:List Nat)(hn:p.Nodup)(hp:∀x∈p,x<1024):∀k,k≤p.length→∀v,v<1024→v ∉ p.take k→egL (fun i=>nb (i:Int)) (p.take k) v=reB nb (aT 0 (p.take k)) (v:Int)
 | 0,_,v,hv,_=>by
  rw[List.take_zero]
  refine bT fun u=>?_
  rw[ee hv]
  show (nb (v:Int)).getLsbD u=true↔_
  constructor
  ·intro h
   exact⟨.one h,fun hh=>aW u hh,fun e=>hi v (by rw[e] at h;exact h)⟩
  ·rintro⟨h,_,_⟩
   cases h with
   | one h=>exact h
   | step _ h _=>exact absurd h (aW _)
 | k+1,hk,v,hv,hvn=>by
  have hg:=List.getElem?_eq_getElem (show k<p.length by omega)
  generalize p[k]'(by omega)=t at hg
  have htk:p.take (k+1)=p.take k++[t]:=cB hg
  rw[htk] at hvn ⊢
  have hvn1:v ∉ p.take k:=fun h=>hvn (List.mem_append_left _ h)
  have hvt:v≠t:=fun e=>hvn (by rw[e];simp)
  have htp:t∈p:=List.mem_of_getElem? hg
  have ht:=hp t htp
  have htn:t ∉ p.take k:=by
   have h1:(p.take (k+1)).Nodup:=hn.sublist (List.take_sublist _ _)
   rw[htk] at h1
   obtain⟨_,_,h3⟩:=List.nodup_append.1 h1
   exact fun h=>h3 t h t (List.mem_singleton.2 rfl) rfl
  have hpk:∀x∈p.take k,x<1024:=fun x hx=>hp x (List.mem_of_mem_take hx)
  have hS:∀u,(aT 0 (p.take k)).getLsbD u=true↔u∈p.take k:=fun u=>by
   rw[gS _ 0 hpk u]
   exact⟨fun h=>h.resolve_left (aW u),.inr⟩
  have e1:aT 0 (p.take k++[t])=ins (aT 0 (p.take k)) (t:Int):=by simp only[aT,List.foldl_append,List.foldl_cons,List.foldl_nil]
  have i1:=od hi p hn hp k (by omega) v hv hvn1
  have i2:=od hi p hn hp k (by omega) t ht htn
  rw[tS,egS,i1,i2,e1]
  exact (a2q hs ht hv (fun h=>htn ((hS t).1 h)) hvt (fun h=>hvn1 ((hS v).1 h))).symm
end
def Nr (J:BS)(nh:Nat→BS):Prop:=∀i j,J.getLsbD i=true→(nh i).getLsbD j=true→J.getLsbD j=true∧(nh j).getLsbD i=true∧j≠i
def awN (nh:Nat→BS)(id:Nat)(o:Nat):BS:=if (nh id).getLsbD o=true then del (nh o) (id:Int) else nh o
def ctN (nh:Nat→BS)(id d:Nat)(o:Nat):BS:=if o=d then nh d ||| del (nh id) (d:Int) else if (nh id).getLsbD o=true then ins (nh o) (d:Int) else nh o
section
variable {J:BS}{nh:Nat→BS}
theorem li (h:Nr J nh){id:Nat}(hid:J.getLsbD id=true){j i:Nat}(hj:J.getLsbD j=true):(awN nh id j).getLsbD i=true↔(nh j).getLsbD i=true∧i≠id:=by
 have hid':=ay hid
 rw[awN]
 by_cases hc:(nh id).getLsbD j=true
 ·rw[if_pos hc,bu _ hid']
 ·rw[if_neg hc]
  exact⟨fun hh=>⟨hh,fun e=>hc (by rw[e] at hh;exact (h j id hj hh).2.1)⟩,fun hh=>hh.1⟩
theorem Nr.aw (h:Nr J nh){id:Nat}(hid:J.getLsbD id=true):Nr (del J (id:Int)) (awN nh id):=fun i j hi hij=>by
 have hid':=ay hid
 obtain⟨hi1,hi2⟩:=(bu J hid').1 hi
 obtain⟨h1,h2⟩:=(li h hid hi1).1 hij
 obtain⟨q1,q2,q3⟩:=h i j hi1 h1
 exact⟨(bu J hid').2 ⟨q1,h2⟩,(li h hid q1).2 ⟨q2,hi2⟩,q3⟩
theorem jC (h:Nr J nh){id d:Nat}(hid:J.getLsbD id=true)(hd:(nh id).getLsbD d=true){j i:Nat}:(ctN nh id d j).getLsbD i=true↔(nh j).getLsbD i=true∨(i=d∧j≠d∧(nh id).getLsbD j=true)∨(j=d∧i≠d∧(nh id).getLsbD i=true):=by
 have hd':=ay hd
 rw[ctN]
 by_cases hj:j=d
 ·rw[if_pos hj,ez,bu _ hd',hj]
  constructor
  ·rintro (h1|⟨h1,h2⟩)
   ·exact .inl h1
   ·exact .inr (.inr ⟨rfl,h2,h1⟩)
  ·rintro (h1|⟨_,h2,_⟩|⟨_,h2,h3⟩)
   ·exact .inl h1
   ·exact absurd rfl h2
   ·exact .inr ⟨h3,h2⟩
 ·rw[if_neg hj]
  by_cases hc:(nh id).getLsbD j=true
  ·rw[if_pos hc,aX _ hd']
   constructor
   ·rintro (h1|h1)
    ·exact .inl h1
    ·exact .inr (.inl ⟨h1,hj,hc⟩)
   ·rintro (h1|⟨h1,_,_⟩|⟨h1,_,_⟩)
    ·exact .inl h1
    ·exact .inr h1
    ·exact absurd h1 hj
  ·rw[if_neg hc]
   constructor
   ·exact .inl
   ·rintro (h1|⟨_,_,h3⟩|⟨h1,_,_⟩)
    ·exact h1
    ·exact absurd h3 hc
    ·exact absurd h1 hj
theorem Nr.ct (h:Nr J nh){id d:Nat}(hid:J.getLsbD id=true)(hd:(nh id).getLsbD d=true):Nr J (ctN nh id d):=fun i j hi hij=>by
 obtain⟨dJ,d1,d2⟩:=h id d hid hd
 rcases (jC h hid hd).1 hij with h1|⟨h1,h2,h3⟩|⟨h1,h2,h3⟩
 ·obtain⟨q1,q2,q3⟩:=h i j hi h1
  exact⟨q1,(jC h hid hd).2 (.inl q2),q3⟩
 ·rw[h1]
  exact⟨dJ,(jC h hid hd).2 (.inr (.inr ⟨rfl,h2,h3⟩)),fun e=>h2 e.symm⟩
 ·rw[h1]
  obtain⟨q1,_,_⟩:=h id j hid h3
  exact⟨q1,(jC h hid hd).2 (.inr (.inl ⟨rfl,h2,h3⟩)),h2⟩
theorem tT {nb:Int→BS}{V:BS}{B:Nat→Nat→Prop}(M:Mnr nb V J nh B)(h:Nr J nh){id:Nat}(hid:J.getLsbD id=true):Mnr nb V (del J (id:Int)) (awN nh id) B:=by
 have hid':=ay hid
 refine M.less (fun j hj=>((bu J hid').1 hj).1) fun j i hj hji=>?_
 obtain⟨j1,j2⟩:=(bu J hid').1 hj
 obtain⟨h1,h2⟩:=(li h hid j1).1 hji
 exact⟨h1,(bu J hid').2 ⟨(h j i j1 h1).1,h2⟩⟩
theorem a2r {nb:Int→BS}(hs:∀i j:Nat,(nb (i:Int)).getLsbD j=true→(nb (j:Int)).getLsbD i=true){V:BS}{B:Nat→Nat→Prop}(M:Mnr nb V J nh B)(h:Nr J nh){id d:Nat}(hid:J.getLsbD id=true)(hd:(nh id).getLsbD d=true) :
  Mnr nb V (del J (id:Int)) (awN (ctN nh id d) id) (fun j x=>B j x∨(j=d∧B id x)):=by
 have hid':=ay hid
 refine M.into hs hid hd (fun j=>bu J hid') fun j i hj hji=>?_
 obtain⟨j1,j2⟩:=(bu J hid').1 hj
 obtain⟨h1,h2⟩:=(li (h.ct hid hd) hid j1).1 hji
 exact⟨h2,(jC h hid hd).1 h1⟩
end
theorem oe {g:GT}(G:Gr.Ok g):Nr (ah g.1) (fun j=>nbA g (j:Int)):=fun i j _ h=>⟨fG G i j h,gw G i j h,fun e=>by rw[e] at h;exact (((eB G).1 h).inn G).2.2 rfl⟩
theorem tU {g:GT}(G:Gr.Ok g)(hl:g.1.length≤12){J:BS}{nh:Nat→BS}{B:Nat→Nat→Prop}(M:Mnr (nbA g) (ah g.1) J nh B){id:Nat}(hid:J.getLsbD id=true)(hm:∀j,J.getLsbD j=true→card (nh id)≤card (nh j)):((card (nh id):Nat):Int)≤twG g:=
 a2p G hl M hid hm
end Go.Mono
namespace Go.Mono
open Go Go.RowKit Go.Gr
section
variable {α β:Type}[DecidableEq α]
def fH (l:List (α×β))(k:α):List (α×β):=l.filter fun p => !decide (p.1=k)
variable {P:Program}{V:KV P α β}{w w':World}{b r n:Nat}{l old rest:List (α×β)}
theorem a2s {x:α}{es:List (Lit×DataW Unit)}(hx:V.ok x)(h2:es.Perm (l.map V.enc))(h3:∀p∈l,V.ok p.1∧V.okv p.2):(es.filter fun p => !p.1.sameKey (V.kl x)).Perm ((fH l x).map V.enc):=by
 refine (h2.filter _).trans ?_
 rw[List.filter_map]
 rw[fH,List.filter_congr (q:=fun p:α×β => !decide (p.1=x)) fun p hp=>by simp only[Function.comp,KV.enc,V.same hx (h3 p hp).1]]
theorem MpR.del {t:TypeId}{x:α}(h:MpR V w b n l)(hx:V.ok x)(ht:P.underlying t=some (.map V.k V.e))(ty:TypeId) :
  ∃w',(Builtin.delete_ #[t,V.k] ty #[.map (some b),V.kv x]).run P w=.ok (.tuple #[]) w'∧MpR V w' b n (fH l x)∧w.grownBy w' (some b):=by
 obtain⟨es,h1,h2,h3,h4⟩:=h
 obtain⟨w',r1,r2,r3⟩:=h1.drop V.K ht (V.key x hx) ty
 exact⟨w',r1,⟨_,r2,a2s hx h2 h3,fun p hp=>h3 p (List.mem_filter.1 hp).1,h4.filter _⟩,r3.grown⟩
end
section
variable {P:Program}{w0:World}{L:Env}{dst:Option Tmp}{ty:TypeId}{pos:String}{aft:Array Edge}{g:Option (Nat×Bool)}{x y:Operand}{t:TypeId}{α β:Type}[DecidableEq α]{l:List (α×β)}{b n:Nat}
end
section tail
variable {P:Program}{L:Env}{ty:TypeId}{pos:String}{aft:Array Edge}{ro:Option Nat}{ds:List Deferred}
variable {ops:Array Oper}{rest:List Oper}{Q:Exit→Act→World→Prop}{n:Nat}{a:Act}{w:World}{x y z:Operand}{α β:Type}[DecidableEq α]
theorem a2t {V:KV P α β}{t:TypeId}{bm nn:Nat}{l:List (α×β)}{i:α}(ht:P.underlying t=some (.map V.k V.e))(hf:FrD n ds a w L)[hL:AvL bm L](hx:opd L x=some (E (.map (some bm))))
  (hy:opd L y=some (E (V.kv i))) (hM:MpR V w bm nn l) (hi:V.ok i)
  (kk:∀w',w.grownBy w' (some bm)→MpR V w' bm nn (fH l i)→FrD n ds a w' L→wpListIn (FW ro) 0 P ops Q rest a w') :
  wpListIn (FW ro) 0 P ops Q (⟨none,.call ⟨.builtin .delete,#[x,y],#[t,V.k]⟩,ty,pos,aft,none⟩::rest) a w:=
 wpListIn_plain rfl fun K hK=>by
  have hxv:a.eval x=.map (some bm):=hf.opd x _ hx
  have hyv:a.eval y=V.kv i:=hf.opd y _ hy
  obtain⟨w',h1,h2,h3⟩:=hM.del hi ht ty
  refine OpR.wp (R:=fun _ w1=>w1=w') ?_ ?_
  ·simp only[OpR,execOp,resolve,invoke,builtin,Sem.run_bind,Sem.run_pure,Result.andThen_ok,List.map_toArray,List.map_cons,List.map_nil,hxv,hyv,h1]
  ·rintro _ w1 rfl
   exact hK _ _ (kk _ h3 h2 (hf.gr h3))
end tail
end Go.Mono
namespace Go.Mono
open Go Go.Proofs Go.RowKit Go.Gr
structure NrM (l:List (Int×BS))(J:BS)(nh:Nat→BS):Prop where
 key:∀x:Int,(∃c,(x,c)∈l)↔∃i:Nat,x=(i:Int)∧J.getLsbD i=true
 val:∀i:Nat,J.getLsbD i=true→lkS l (i:Int)=nh i
theorem lj (x i:Int)(h:x≠i):∀l:List (Int×BS),(l.filter fun p => !decide (p.1=x)).find? (fun p=>decide (p.1=i))=l.find? (fun p=>decide (p.1=i))
 | []=>rfl
 | p::l=>by
  rw[List.filter_cons]
  by_cases hp:p.1=x
  ·have h2:decide (p.1=i)=false:=by rw[hp];simp[h]
   rw[if_neg (by simp[hp]),lj x i h l,List.find?_cons,h2]
  ·rw[if_pos (by simp[hp]),List.find?_cons,List.find?_cons,lj x i h l]
theorem tV (l:List (Int×BS))(x:Int)(c:BS)(i:Int):lkS (bE l x c) i=if i=x then c else lkS l i:=by
 rw[lkS,bE,List.find?_cons]
 by_cases h:x=i
 ·rw[if_pos h.symm];simp[h]
 ·have h1:decide ((x,c).1=i)=false:=by simp[h]
  rw[h1,if_neg (Ne.symm h),lkS]
  rw[lj x i h l]
theorem a2u (l:List (Int×BS))(x i:Int)(h:i≠x):lkS (fH l x) i=lkS l i:=by
 rw[lkS,fH,lj x i (Ne.symm h) l,lkS]
theorem tW {l:List (Int×BS)}{x:Int}{c:BS}{y:Int}:(∃d,(y,d)∈bE l x c)↔y=x∨∃d,(y,d)∈l:=by
 constructor
 ·rintro⟨d,h⟩
  rw[bE] at h
  rcases List.mem_cons.1 h with h|h
  ·exact .inl (congrArg Prod.fst h)
  ·exact .inr ⟨d,(List.mem_filter.1 h).1⟩
 ·rintro (h|⟨d,h⟩)
  ·exact⟨c,by rw[h];exact List.mem_cons_self ..⟩
  ·by_cases hy:y=x
   ·exact⟨c,by rw[hy];exact List.mem_cons_self ..⟩
   ·exact⟨d,List.mem_cons_of_mem _ (List.mem_filter.2 ⟨h,by simp[hy]⟩)⟩
theorem NrM.put {l:List (Int×BS)}{J:BS}{nh:Nat→BS}(h:NrM l J nh){x:Nat}(hx:J.getLsbD x=true)(c:BS):NrM (bE l (x:Int) c) J (fun o=>if o=x then c else nh o) where
 key y:=by
  rw[tW,h.key]
  exact⟨fun hh=>hh.elim (fun e=>⟨x,e,hx⟩) id,.inr⟩
 val i hi:=by
  rw[tV]
  by_cases he:i=x
  ·rw[if_pos (by rw[he]),if_pos he]
  ·rw[if_neg (by omega),if_neg he]
   exact h.val i hi
theorem NrM.eq {l:List (Int×BS)}{J:BS}{nh nh':Nat→BS}(h:NrM l J nh)(he:∀i,J.getLsbD i=true→nh i=nh' i):NrM l J nh':=⟨h.key,fun i hi=>(h.val i hi).trans (he i hi)⟩
theorem NrM.len {l:List (Int×BS)}{J:BS}{nh:Nat→BS}(h:NrM l J nh)(hp:l.Pairwise fun p q=>p.1≠q.1):l.length≤1024:=by
 have h1:=jB (l.map fun p=>p.1.toNat) (elems J) ?_ ?_
 ·rw[List.length_map] at h1
  exact Nat.le_trans h1 (bX J)
 ·show List.Pairwise (fun a b=>a≠b) _
  rw[List.pairwise_map]
  refine hp.imp_of_mem fun {p q} hpm hqm hne e=>?_
  obtain⟨i,hi,_⟩:=(h.key p.1).1 ⟨p.2,hpm⟩
  obtain⟨j,hj,_⟩:=(h.key q.1).1 ⟨q.2,hqm⟩
  omega
 ·intro x hx
  obtain⟨p,hp1,rfl⟩:=List.mem_map.1 hx
  obtain⟨i,hi,hJ⟩:=(h.key p.1).1 ⟨p.2,hp1⟩
  have:p.1.toNat=i:=by omega
  rw[this]
  exact aH.2 ⟨ay hJ,hJ⟩
theorem NrM.del {l:List (Int×BS)}{J:BS}{nh:Nat→BS}(h:NrM l J nh){x:Nat}(hx:x<1024):NrM (fH l (x:Int)) (Mono.del J (x:Int)) nh where
 key y:=by
  have e1:(∃c,(y,c)∈fH l (x:Int))↔y≠(x:Int)∧∃c,(y,c)∈l:=by
   simp only[fH,List.mem_filter]
   constructor
   ·rintro⟨c,h1,h2⟩
    exact⟨by simpa using h2,c,h1⟩
   ·rintro⟨h1,c,h2⟩
    exact⟨c,h2,by simpa using h1⟩
  rw[e1,h.key]
  constructor
  ·rintro⟨h1,i,h2,h3⟩
   exact⟨i,h2,(bu J hx).2 ⟨h3,fun e=>h1 (by rw[h2,e])⟩⟩
  ·rintro⟨i,h2,h3⟩
   obtain⟨h4,h5⟩:=(bu J hx).1 h3
   exact⟨by omega,i,h2,h4⟩
 val i hi:=by
  obtain⟨h4,h5⟩:=(bu J hx).1 hi
  rw[a2u l _ _ (by omega),h.val i h4]
theorem ll {g:GT}(G:Gr.Ok g):NrM (nbL g (elems (ah g.1))) (ah g.1) (fun j=>nbA g (j:Int)) where
 key y:=by
  simp only[nbL,List.mem_map]
  constructor
  ·rintro⟨c,n,hn,he⟩
   exact⟨n,(congrArg Prod.fst he).symm,(aH.1 hn).2⟩
  ·rintro⟨i,rfl,hi⟩
   exact⟨_,i,aH.2 ⟨ay hi,hi⟩,rfl⟩
 val i _:=rfl
end Go.Mono
namespace Go.Ms
def cst (xs:List (Int×Nat))(k:Nat):Int:=(xs.getD k (0,0)).1
def swp (xs:List (Int×Nat))(i j:Nat):List (Int×Nat):=(xs.set i (xs.getD j (0,0))).set j (xs.getD i (0,0))
def swc (c:Nat→Int)(i j k:Nat):Int:=if k=j then c i else if k=i then c j else c k
theorem gx (xs:List (Int×Nat))(i j:Nat):(swp xs i j).length=xs.length:=by rw[swp,List.length_set,List.length_set]
theorem gy {xs:List (Int×Nat)}{i j:Nat}(hi:i<xs.length)(hj:j<xs.length)(k:Nat):(swp xs i j).getD k (0,0)=if k=j then xs.getD i (0,0) else if k=i then xs.getD j (0,0) else xs.getD k (0,0):=by
 simp only[swp,List.getD_eq_getElem?_getD,List.getElem?_set,List.length_set]
 by_cases h1:k=j
 ·simp[h1,hj]
 ·by_cases h2:k=i
  ·subst h2
   simp[h1,hi,Ne.symm h1]
  ·simp[h1,h2,Ne.symm h1,Ne.symm h2]
theorem tX {xs:List (Int×Nat)}{i j:Nat}(hi:i<xs.length)(hj:j<xs.length)(k:Nat):cst (swp xs i j) k=swc (cst xs) i j k:=by
 unfold cst swc
 rw[gy hi hj]
 by_cases h1:k=j
 ·simp only[h1,if_true]
 ·by_cases h2:k=i
  ·rw[if_neg h1,if_neg h1,if_pos h2,if_pos h2]
  ·rw[if_neg h1,if_neg h1,if_neg h2,if_neg h2]
theorem og {xs:List (Int×Nat)}{e:Int×Nat}:e∈xs↔∃k,k<xs.length∧xs.getD k (0,0)=e:=by
 rw[List.mem_iff_getElem]
 constructor
 ·rintro⟨k,hk,h⟩
  exact⟨k,hk,by rw[List.getD_eq_getElem?_getD,List.getElem?_eq_getElem hk];exact h⟩
 ·rintro⟨k,hk,h⟩
  exact⟨k,hk,by rw[List.getD_eq_getElem?_getD,List.getElem?_eq_getElem hk] at h;exact h⟩
theorem oh {xs:List (Int×Nat)}{i j:Nat}(hi:i<xs.length)(hj:j<xs.length)(e:Int×Nat):e∈swp xs i j↔e∈xs:=by
 rw[og,og,gx]
 constructor
 ·rintro⟨k,hk,h⟩
  rw[gy hi hj] at h
  by_cases h1:k=j
  ·rw[if_pos h1] at h;exact⟨i,hi,h⟩
  ·rw[if_neg h1] at h
   by_cases h2:k=i
   ·rw[if_pos h2] at h;exact⟨j,hj,h⟩
   ·rw[if_neg h2] at h;exact⟨k,hk,h⟩
 ·rintro⟨k,hk,h⟩
  by_cases h1:k=j
  ·refine⟨i,hi,?_⟩
   rw[gy hi hj]
   by_cases h2:i=j
   ·rw[if_pos h2,h2,← h1];exact h
   ·rw[if_neg h2,if_pos rfl,← h1];exact h
  ·by_cases h2:k=i
   ·refine⟨j,hj,?_⟩
    rw[gy hi hj,if_pos rfl,← h2];exact h
   ·refine⟨k,hk,?_⟩
    rw[gy hi hj,if_neg h1,if_neg h2];exact h
def HpC (n:Nat)(c:Nat→Int):Prop:=∀k,k<n→0<k→c ((k - 1) / 2)≤c k
structure UpI (n:Nat)(c:Nat→Int)(j:Nat):Prop where
 o:∀k,k<n→0<k→k≠j→c ((k - 1) / 2)≤c k
 s:0<j→∀k,k<n→0<k→(k - 1) / 2=j→c ((j - 1) / 2)≤c k
structure DnI (n:Nat)(c:Nat→Int)(i:Nat):Prop where
 o:∀k,k<n→0<k→(k - 1) / 2≠i→c ((k - 1) / 2)≤c k
 s:0<i→∀k,k<n→0<k→(k - 1) / 2=i→c ((i - 1) / 2)≤c k
theorem UpI.stop {n:Nat}{c:Nat→Int}{j:Nat}(h:UpI n c j)(hs:j=0∨¬c j<c ((j - 1) / 2)):HpC n c:=fun k hk h0=>by
 by_cases hj:k=j
 ·rw[hj];rw[hj] at h0
  rcases hs with hs|hs
  ·omega
  ·exact Int.not_lt.1 hs
 ·exact h.o k hk h0 hj
theorem UpI.go {n:Nat}{c:Nat→Int}{i j:Nat}(h:UpI n c j)(h0:0<j)(hj:j<n)(hi:i=(j - 1) / 2)(hlt:c j<c i):UpI n (swc c i j) i:=by
 refine⟨fun k hk k0 hki=>?_,fun i0 k hk k0 hp=>?_⟩
 ·by_cases hkj:k=j
  ·have e1:swc c i j k=c i:=if_pos hkj
   have e2:swc c i j ((k - 1) / 2)=c j:=by unfold swc;rw[if_neg (by omega),if_pos (by omega)]
   rw[e1,e2];omega
  ·have e1:swc c i j k=c k:=by unfold swc;rw[if_neg hkj,if_neg hki]
   rw[e1]
   by_cases hpj:(k - 1) / 2=j
   ·have e2:swc c i j ((k - 1) / 2)=c i:=if_pos hpj
    rw[e2,hi]
    exact h.s h0 k hk k0 hpj
   ·by_cases hpi:(k - 1) / 2=i
    ·have e2:swc c i j ((k - 1) / 2)=c j:=by unfold swc;rw[if_neg hpj,if_pos hpi]
     have:=h.o k hk k0 hkj
     rw[hpi] at this
     rw[e2];omega
    ·have e2:swc c i j ((k - 1) / 2)=c ((k - 1) / 2):=by unfold swc;rw[if_neg hpj,if_neg hpi]
     rw[e2];exact h.o k hk k0 hkj
 ·have e2:swc c i j ((i - 1) / 2)=c ((i - 1) / 2):=by unfold swc;rw[if_neg (by omega),if_neg (by omega)]
  have h1:=h.o i (by omega) i0 (by omega)
  rw[e2]
  by_cases hkj:k=j
  ·have e1:swc c i j k=c i:=if_pos hkj
   rw[e1];exact h1
  ·have e1:swc c i j k=c k:=by unfold swc;rw[if_neg hkj,if_neg (by omega)]
   have h2:=h.o k hk k0 hkj
   rw[hp] at h2
   rw[e1];omega
theorem DnI.stop {n:Nat}{c:Nat→Int}{i:Nat}(h:DnI n c i)(hs:∀k,k<n→0<k→(k - 1) / 2=i→c i≤c k):HpC n c:=fun k hk h0=>by
 by_cases hj:(k - 1) / 2=i
 ·rw[hj];exact hs k hk h0 hj
 ·exact h.o k hk h0 hj
theorem DnI.go {n:Nat}{c:Nat→Int}{i j:Nat}(h:DnI n c i)(j0:0<j)(hj:j<n)(hi:(j - 1) / 2=i)(hlt:c j<c i)(hmin:∀k,k<n→0<k→(k - 1) / 2=i→c j≤c k):DnI n (swc c i j) j:=by
 have ej:swc c i j j=c i:=if_pos rfl
 have ei:swc c i j i=c j:=by unfold swc;rw[if_neg (by omega),if_pos rfl]
 have eo:∀k,k≠i→k≠j→swc c i j k=c k:=fun k h1 h2=>by unfold swc;rw[if_neg h2,if_neg h1]
 refine⟨fun k hk k0 hkp=>?_,fun _ k hk k0 hp=>?_⟩
 ·by_cases hkj:k=j
  ·rw[hkj,hi,ej,ei];omega
  ·by_cases hki:k=i
   ·have:=h.s (by omega) j hj j0 hi
    rw[hki,ei,eo _ (by omega) (by omega)];exact this
   ·rw[eo k hki hkj]
    by_cases hpi:(k - 1) / 2=i
    ·rw[hpi,ei];exact hmin k hk k0 hpi
    ·rw[eo _ hpi hkp];exact h.o k hk k0 hpi
 ·have:=h.o k hk k0 (by omega)
  rw[hp] at this
  rw[hi,ei,eo k (by omega) (by omega)]
  exact this
theorem HpC.top {n:Nat}{c:Nat→Int}(h:HpC n c):∀k,k<n→c 0≤c k
 | 0,_=>Int.le_refl _
 | k+1,hk=>Int.le_trans (h.top ((k+1 - 1) / 2) (by omega)) (h (k+1) hk (by omega))
termination_by k=>k
theorem HpC.congr {n:Nat}{c c':Nat→Int}(h:HpC n c)(he:∀k,k<n→c' k=c k):HpC n c':=fun k hk h0=>by rw[he k hk,he _ (by omega)];exact h k hk h0
theorem a2v {xs:List (Int×Nat)}(e:Int×Nat)(h:HpC xs.length (cst xs)):UpI (xs++[e]).length (cst (xs++[e])) xs.length:=by
 have hc:∀k,k<xs.length→cst (xs++[e]) k=cst xs k:=fun k hk=>by unfold cst;rw[List.getD_eq_getElem?_getD,List.getD_eq_getElem?_getD,List.getElem?_append_left hk]
 refine⟨fun k hk k0 hki=>?_,fun i0 k hk k0 hp=>?_⟩
 ·rw[List.length_append,List.length_singleton] at hk
  rw[hc k (by omega),hc _ (by omega)];exact h k (by omega) k0
 ·rw[List.length_append,List.length_singleton] at hk
  omega
theorem a2w {xs:List (Int×Nat)}(h0:xs≠[])(h:HpC xs.length (cst xs)):DnI (xs.length - 1) (cst (swp xs 0 (xs.length - 1))) 0:=by
 have hl:0<xs.length:=List.length_pos_iff.2 h0
 have hc:=tX (i:=0) (j:=xs.length - 1) hl (by omega)
 refine⟨fun k hk k0 hki=>?_,fun i0=>absurd i0 (Nat.lt_irrefl 0)⟩
 have eo:∀k,k≠0→k≠xs.length - 1→cst (swp xs 0 (xs.length - 1)) k=cst xs k:=fun k h1 h2=>by rw[hc,swc,if_neg h2,if_neg h1]
 rw[eo k (by omega) (by omega),eo _ hki (by omega)]
 exact h k (by omega) k0
theorem a2x {xs:List (Int×Nat)}{m k:Nat}(h:k<m):cst (xs.take m) k=cst xs k:=by
 unfold cst;rw[List.getD_eq_getElem?_getD,List.getD_eq_getElem?_getD,List.getElem?_take,if_pos h]
end Go.Ms
namespace Go.Mono
open Go Go.Proofs Go.RowKit
def Mth (P:Program)(T:TypeId)(v r:Value)(name:String)(id:FuncId)(w0:World):Prop:=∀args w,Ext w0 w→(callMethod (.iface T v) name args).run P w=.ok (.enter id (#[r]++args)) w
def ln (P:Program)(T:TypeId)(name:String)(id:FuncId)(ptr:Bool):Bool:=match P.info? T with
 | some i=>(match i.methods.find? (·.name==name) with
  | some m=>m.path.isEmpty&&(match m.func with|some (f,p)=>Nat.beq f id&&p==ptr|none=>false)
  | none=>false)
 | none=>false
theorem tY {P:Program}{T:TypeId}{name:String}{id:FuncId}{ptr:Bool}(h:ln P T name id ptr=true){n:Nat}{v:Value}{w:World} :
  (method (n+1) T v name).run P w=(do let x ← receiverAt T (.val v) ptr (some ((name.splitOn ".").getLastD name));pure (id,x):Sem (FuncId×Value)).run P w:=by
 unfold ln at h
 cases hi:P.info? T with
 | none=>rw[hi] at h;cases h
 | some i=>
  rw[hi] at h
  dsimp only at h
  cases hm:i.methods.find? (·.name==name) with
  | none=>rw[hm] at h;cases h
  | some m=>
   rw[hm] at h
   rw[Bool.and_eq_true] at h
   obtain⟨h1,h2⟩:=h
   have hp:m.path = #[]:=Array.isEmpty_iff.1 h1
   cases hf:m.func with
   | none=>rw[hf] at h2;cases h2
   | some q=>
    obtain⟨f,p⟩:=q
    rw[hf] at h2
    rw[Bool.and_eq_true] at h2
    obtain rfl:f=id:=Nat.eq_of_beq_eq_true h2.1
    obtain rfl:p=ptr:=by simpa using h2.2
    simp[method,typeInfo,hi,hm,hf,hp,follow]
theorem tZ {P:Program}{T e:TypeId}{name:String}{id:FuncId}{v:Value}{w0:World}(h:ln P T name id true=true)(hu:P.underlying T=some (.pointer e))(he:Proofs.Enters P id):Mth P T v v name id w0:=fun args w _=>by
 simp only[callMethod,Sem.run_bind,run_program,Result.andThen_ok]
 have h1:(method (P.types.size+Made.depth) T v name).run P w=.ok (id,v) w:=by
  rw[show P.types.size+Made.depth=(P.types.size+99)+1 from rfl,tY h]
  simp[receiverAt,run_underlying hu,Place.get]
 rw[h1]
 exact he (#[v]++args) w
theorem a2y {P:Program} {tys:Array TypeId} {t:TypeId} {ad:Addr} {n:String} {w:World}:(Builtin.ssaWrapNilChk_ tys t #[.pointer (some ad),strVal "",strVal n]).run P w=.ok (.pointer (some ad)) w:=rfl
theorem oi {P:Program}{T e:TypeId}{name:String}{id b:Nat}{bt:TypeId}{r:Value}{w0:World}(h:ln P T name id false=true)(hu:P.underlying T=some (.pointer e))(ht:TI P e false 1)(he:Proofs.Enters P id)(hb:Blk w0 b #[r] bt) :
  Mth P T (.pointer (some ⟨b,0,none⟩)) r name id w0:=fun args w ew=>by
 simp only[callMethod,Sem.run_bind,run_program,Result.andThen_ok]
 have hl:=jP ht (w:=w) (a:=⟨b,0,none⟩) (v:=r) (by rw[(hb.ext ew).cell 0];rfl)
 have h1:(method (P.types.size+Made.depth) T (.pointer (some ⟨b,0,none⟩)) name).run P w=.ok (id,r) w:=by
  rw[show P.types.size+Made.depth=(P.types.size+99)+1 from rfl,tY h]
  simp[receiverAt,run_underlying hu,Place.get,a2y,asAddr,hl]
 rw[h1]
 exact he (#[r]++args) w
theorem ua (x:Value)(name:String)(args:Array Value):invoke (.fn (.method name) #[]) (#[x]++args)=callMethod x name args:=by
 have h0:(#[x]++args)[0]?=some x:=by rw[Array.getElem?_append_left (by simp)];rfl
 have h1:(#[x]++args).extract 1 (#[x]++args).size=args:=by
  apply Array.toList_inj.1
  simp
 simp only[invoke,h0,h1]
section
variable {P:Program}{w0:World}{L:Env}{dst:Option Tmp}{ty:TypeId}{pos:String}{aft:Array Edge}{g:Option (Nat×Bool)}{x:Operand}{v r:Value}
def ub:TypeDesc→Bool
 | .interface _=>false
 | _=>true
theorem mkI {T:TypeId}{d:TypeDesc}(ht:P.underlying T=some d)(hd:ub d=true)(hx:opd L x=some (E v)):OpC P w0 L ⟨dst,.makeInterface T x,ty,pos,aft,g⟩ (E (.iface T v)):=
 aM fun ρ w he hv=>by
  have h1:=opE hv (x:=x) (by simp[Op.operands]) hx
  refine⟨_,?_,rfl⟩
  cases d with
  | interface m=>cases hd
  | _=>simp[execOp,h1,Instr.makeInterface,run_underlying ht]
theorem asI {T xt:TypeId}{d:TypeDesc}(ht:P.underlying T=some d)(hd:ub d=true)(hx:opd L x=some (E (.iface T v))):OpC P w0 L ⟨dst,.typeAssert x xt T true,ty,pos,aft,g⟩ (E (.tuple #[v,.bool true])):=
 aM fun ρ w he hv=>by
  have h1:=opE hv (x:=x) (by simp[Op.operands]) hx
  refine⟨_,?_,rfl⟩
  cases d with
  | interface m=>cases hd
  | _=>simp[execOp,h1,Instr.typeAssert,run_underlying ht]
theorem uc {fo:Operand}{name:String}{T:TypeId}{id:FuncId}{xs:Array Operand}{tys:Array TypeId}{A:VA}(hm:Mth P T v r name id w0)(hfo:opd L fo=some (E (.iface T v)))
  (h:∀ρ w,Ext w0 w→(∀x∈(Op.call ⟨.invoke fo name,xs,tys⟩).operands,∀B,opd L x=some B→B.p (ρ x) w)→Calls P id (#[r]++xs.map ρ) w (Post A w)) :
  OpC P w0 L ⟨dst,.call ⟨.invoke fo name,xs,tys⟩,ty,pos,aft,g⟩ A:=by
 refine⟨fun ρ w he hv=>?_⟩
 have hfv:ρ fo=.iface T v:=hv fo (by simp[Op.operands,Call.operands]) _ hfo
 have hrun:(execOp ρ ⟨dst,.call ⟨.invoke fo name,xs,tys⟩,ty,pos,aft,g⟩).run P w=.ok (.enter id (#[r]++xs.map ρ)) w:=by
  have:=hm (xs.map ρ) w he
  simp only[execOp,resolve,hfv,ua,this,Sem.run_bind,Sem.run_pure,Result.andThen_ok]
 simp only[OpR,hrun]
 exact h ρ w he hv
theorem ud {fo:Operand}{name:String}{T:TypeId}{id:FuncId}{tys:Array TypeId}{A:VA}(hm:Mth P T v r name id w0)(hfo:opd L fo=some (E (.iface T v)))
  (h:∀w,Ext w0 w→Calls P id #[r] w (Post A w)):OpC P w0 L ⟨dst,.call ⟨.invoke fo name,#[],tys⟩,ty,pos,aft,g⟩ A:=
 uc hm hfo fun ρ w he hv=>by simpa using h w he
theorem jD {fo x y:Operand}{name:String}{T:TypeId}{id:FuncId}{tys:Array TypeId}{A B C:VA}(hm:Mth P T v r name id w0)(hfo:opd L fo=some (E (.iface T v)))(hx:opd L x=some B)(hy:opd L y=some C)
  (h:∀a b w,Ext w0 w→B.p a w→C.p b w→Calls P id #[r,a,b] w (Post A w)):OpC P w0 L ⟨dst,.call ⟨.invoke fo name,#[x,y],tys⟩,ty,pos,aft,g⟩ A:=
 uc hm hfo fun ρ w he hv=>by simpa using h (ρ x) (ρ y) w he (hv x (by simp[Op.operands,Call.operands]) _ hx) (hv y (by simp[Op.operands,Call.operands]) _ hy)
end
section tail
variable {P:Program}{L:Env}{ty:TypeId}{pos:String}{aft:Array Edge}{r:Option Nat}{ds:List Deferred}
variable {ops:Array Oper}{rest:List Oper}{Q:Exit→Act→World→Prop}{n:Nat}{a:Act}{w:World}
theorem jE {S:Nat→Prop}{F:Value→World→Prop}{fo:Operand}{name:String}{T:TypeId}{v rv:Value}{id:FuncId}{xs:Array Operand}{tys:Array TypeId}{d:Nat}(hf:FrD n ds a w L)[hL:fU S L](hd:d<n)(hm:Mth P T v rv name id w)(hfo:opd L fo=some (E (.iface T v)))
  (h:Calls P id (#[rv]++xs.map a.eval) w (fun e w'=>∃v,e=.returned v∧Chg S w w'∧F v w'))
  (k:∀a' v w',Chg S w w'→F v w'→FrD n ds a' w' ((d,E v)::L)→wpListIn (FW r) 0 P ops Q rest a' w') :
  wpListIn (FW r) 0 P ops Q (⟨some d,.call ⟨.invoke fo name,xs,tys⟩,ty,pos,aft,none⟩::rest) a w:=
 wpListIn_plain rfl fun K hK=>by
  have hfv:a.eval fo=.iface T v:=hf.opd fo _ hfo
  have hrun:(execOp a.eval ⟨some d,.call ⟨.invoke fo name,xs,tys⟩,ty,pos,aft,none⟩).run P w=.ok (.enter id (#[rv]++xs.map a.eval)) w:=by
   have:=hm (xs.map a.eval) w (Ext.rfl' _)
   simp only[execOp,resolve,hfv,ua,this,Sem.run_bind,Sem.run_pure,Result.andThen_ok]
  refine OpR.wp (R:=fun v w'=>Chg S w w'∧F v w') ?_ ?_
  ·simp only[OpR,hrun]
   exact h
  ·rintro v w' ⟨h1,h3⟩
   exact hK _ _ (k _ _ _ h1 h3 ((hf.ch h1).put (d:=some d) (A:=E v) (Ext.rfl' _) (fun k hk=>by cases hk;exact hd) rfl))
end tail
end Go.Mono
namespace Go.Mono
open Go Go.Proofs Go.RowKit
def bL (cs:Array Value)(off:Nat)(new:Array Value):Array Value:=(cs.toList.take off++new.toList++cs.toList.drop (off+new.size)).toArray
theorem ix {cs new:Array Value}{off:Nat}(h:off+new.size≤cs.size):(bL cs off new).size=cs.size:=by
 simp[bL];omega
theorem ug {cs new:Array Value}{off:Nat}(h:off+new.size≤cs.size)(j:Nat):(bL cs off new)[j]?=if j<off then cs[j]? else if j<off+new.size then new[j - off]? else cs[j]?:=by
 rw[bL,List.getElem?_toArray,List.append_assoc,List.getElem?_append]
 have hl:(cs.toList.take off).length=off:=by simp;omega
 rw[hl]
 by_cases h1:j<off
 ·rw[if_pos h1,if_pos h1,List.getElem?_take,if_pos h1,Array.getElem?_toList]
 ·rw[if_neg h1,if_neg h1,List.getElem?_append]
  by_cases h2:j<off+new.size
  ·rw[if_pos h2,if_pos (by simp;omega),Array.getElem?_toList]
  ·rw[if_neg h2,if_neg (by simp;omega),List.getElem?_drop,Array.getElem?_toList]
   congr 1
   simp;omega
theorem uh {cs:Array Value}{off:Nat}{a b:Value}(h:off+2≤cs.size)(j:Nat):(bL cs off #[a,b])[j]?=if j=off then some a else if j=off+1 then some b else cs[j]?:=by
 rw[ug (show off+(#[a,b]:Array Value).size≤cs.size from h),show (#[a,b]:Array Value).size=2 from rfl]
 by_cases h1:j=off
 ·rw[if_pos h1,if_neg (by omega),if_pos (by omega),h1,Nat.sub_self];rfl
 ·rw[if_neg h1]
  by_cases h2:j=off+1
  ·rw[if_pos h2,if_neg (by omega),if_pos (by omega),h2,Nat.add_sub_cancel_left];rfl
  ·rw[if_neg h2]
   by_cases h3:j<off
   ·rw[if_pos h3]
   ·rw[if_neg h3,if_neg (by omega)]
theorem a2z {P:Program}{w0:World}{L:Env}{ty:TypeId}{pos:String}{aft:Array Edge}{x y:Operand}{t bt:TypeId}{b off s:Nat}{cs new:Array Value}(ht:TI P t true s)(hx:opd L x=some (E (.pointer (some ⟨b,off,none⟩))))(hy:opd L y=some (E (.agg new)))(h1:new.all (·.oneCell')=true)(hb:Blk w0 b cs bt)(hn:new.size=s)(ho:off+s≤cs.size) :
  eR P w0 (Chg fun c=>c=b) (fun w'=>Blk w' b (bL cs off new) bt) L ⟨none,.store t x y,ty,pos,aft,none⟩ Any:=by
 refine⟨fun ρ w he hv=>?_⟩
 have hxv:ρ x=.pointer (some ⟨b,off,none⟩):=hv x (by simp[Op.operands]) _ hx
 have hyv:ρ y=.agg new:=hv y (by simp[Op.operands]) _ hy
 have hb':=hb.ext he
 have hrun:=run_storeCells_at (P:=P) b off bt new.toList 0 cs w hb' (by simp;omega) (fun v hv=>by rw[Array.all_eq_true_iff_forall_mem] at h1;exact h1 v (by simpa using hv))
 have hc:(Value.agg new).cells=new:=rfl
 have hrun2:OpR P ⟨none,.store t x y,ty,pos,aft,none⟩ ρ w (fun _ w'=>w'=w.setRow b (bL cs off new)):=by
  simp[OpR,execOp,Instr.storeAt,Instr.sureAddr,hxv,hyv,storeVar,hc,ht.size,hn,hrun,bL]
 refine hrun2.mono ?_
 rintro u w' rfl
 have hg:=eG w b (bL cs off new)
 refine⟨⟨hg.os,hg.tape,hg.output,hg.size,fun c hc hne=>hg.block c hc fun he=>hne (Option.some.inj he)⟩,trivial,setRow_heap _ _ _ _ _ _ hb'⟩
end Go.Mono
namespace Go.Mono
open Go Go.Proofs Go.RowKit
def OwB {α:Type}(e:Enc α)(te B:Nat)(G:Nat→Prop)(xs:List α)(v:Value)(N:Nat):VA:=⟨fun u w=>OwR e te B G w xs u∧∀b,u.ownBlock=some b→v.ownBlock=some b∨N≤b,fun _ _ _ e h=>⟨h.1.ext e,h.2⟩⟩
theorem a2A {P:Program}{w0:World}{L:Env}{dst:Option Tmp}{ty:TypeId}{pos:String}{aft:Array Edge}{α:Type}{e:Enc α}[FlE e]{x y:Operand}{t te:TypeId}{z0:Value}{sz bz B:Nat}{G G':Nat→Prop}{xs ys:List α}{v:Value}(ht:P.underlying t=some (.slice te))(hi:(P.info? te).map (fun i=>(i.zero,i.size,i.bytes))=some (some z0,sz,bz))(hsz:sz=e.k)(hz0:z0.cells.size=e.k)
  (hx:opd L x=some (E v)) (ho:OwR e te B G w0 xs v) (hy:Is L w0 y (Dv (slE e) G' ys)) (hb:(xs.length+ys.length) * bz≤140737488355328) (h63:xs.length+ys.length≤maxLen) :
  eR P w0 (Chg fun b=>v.ownBlock=some b) (fun _=>True) L ⟨dst,.call ⟨.builtin .append,#[x,y],#[t,t]⟩,ty,pos,aft,none⟩ (OwB e te B G (xs++ys) v w0.heap.size):=by
 refine⟨fun ρ w he hv=>?_⟩
 have hxv:ρ x=v:=hv x (by simp[Op.operands,Call.operands]) _ hx
 have hyv:=hy.v he hv (by simp[Op.operands,Call.operands])
 obtain⟨v',w',h1,h2,h3,h4⟩:=zS (P:=P) (ty:=ty) ht hi hsz hz0 (ho.ext he) hyv h63 hb
 simp only[OpR,execOp,resolve,invoke,builtin,Sem.run_bind,Sem.run_pure,Result.andThen_ok,List.map_toArray,List.map_cons,List.map_nil,hxv,h1]
 exact⟨⟨h3.os,h3.tape,h3.output,h3.size,fun b hb hS=>h3.block b hb fun hbb=>hS hbb.symm⟩,⟨h2,fun b hb=>h4.elim (fun h=>.inl (h▸hb)) fun h=>.inr (by rw[h] at hb;cases hb;exact he.size)⟩,trivial⟩
end Go.Mono
namespace Go.Mono
open Go Go.Proofs Go.RowKit
theorem a2B {cs:Array Value}{off:Nat}{a:Value}(h:off<cs.size)(j:Nat):(bL cs off #[a])[j]?=if j=off then some a else cs[j]?:=by
 rw[ug (show off+(#[a]:Array Value).size≤cs.size from h),show (#[a]:Array Value).size=1 from rfl]
 by_cases h1:j=off
 ·rw[if_pos h1,if_neg (by omega),if_pos (by omega),h1,Nat.sub_self];rfl
 ·rw[if_neg h1]
  by_cases h3:j<off
  ·rw[if_pos h3]
  ·rw[if_neg h3,if_neg (by omega)]
theorem a2C {P:Program}{w0:World}{L:Env}{ty:TypeId}{pos:String}{aft:Array Edge}{x y:Operand}{t bt:TypeId}{b off:Nat}{v:Value}{cs:Array Value}(ht:TI P t false 1)(hx:opd L x=some (E (.pointer (some ⟨b,off,none⟩))))(hy:opd L y=some (E v))(h1:v.oneCell'=true)(hb:Blk w0 b cs bt)(ho:off<cs.size) :
  eR P w0 (Chg fun c=>c=b) (fun w'=>Blk w' b (bL cs off #[v]) bt) L ⟨none,.store t x y,ty,pos,aft,none⟩ Any:=by
 refine⟨fun ρ w he hv=>?_⟩
 have hxv:ρ x=.pointer (some ⟨b,off,none⟩):=hv x (by simp[Op.operands]) _ hx
 have hyv:ρ y=v:=hv y (by simp[Op.operands]) _ hy
 have hc:v.cells = #[v]:=by cases v <;> simp[Value.cells,Value.oneCell'] at h1 ⊢
 have hb':=hb.ext he
 have hrun:=run_storeCells_at (P:=P) b off bt [v] 0 cs w hb' (by simp;omega) (by simpa using h1)
 have hrun2:OpR P ⟨none,.store t x y,ty,pos,aft,none⟩ ρ w (fun _ w'=>w'=w.setRow b (bL cs off #[v])):=by
  simp[OpR,execOp,Instr.storeAt,Instr.sureAddr,hxv,hyv,storeVar,hc,ht.size,hrun,bL]
 refine hrun2.mono ?_
 rintro u w' rfl
 have hg:=eG w b (bL cs off #[v])
 exact⟨⟨hg.os,hg.tape,hg.output,hg.size,fun k hk hn=>hg.block k hk fun hh=>hn (by cases hh;rfl)⟩,trivial,setRow_heap _ _ _ _ _ _ hb'⟩
end Go.Mono
namespace Go.Mono
open Go Go.Proofs Go.RowKit Go.Ms
def wyF (x:Int×Nat):List Value:=[I x.1,I (x.2:Nat)]
def wyE:Enc (Int×Nat):=eL 2 true wyF (by decide) (fun h=>by cases h) (fun _=>rfl) (fun x u hu=>by simp[wyF] at hu;rcases hu with rfl|rfl <;> rfl)
instance:FlE wyE:=⟨fun h=>h⟩
theorem iy:FlF wyE wyF:=⟨fun _ _ _ _=>Iff.rfl,fun _=>rfl⟩
def wyV (x:Int×Nat):Value:=.agg #[I x.1,I (x.2:Nat)]
theorem lq:∀(xs:List (Int×Nat)) (t:Nat),(xs.flatMap wyF)[t]?=(xs[t / 2]?).bind fun x=>(wyF x)[t % 2]?
 | [],t=>by simp
 | x::r,t=>by
  rw[List.flatMap_cons,List.getElem?_append,show (wyF x).length=2 from rfl]
  by_cases ht:t<2
  ·rw[if_pos ht,Nat.div_eq_of_lt ht,Nat.mod_eq_of_lt ht];rfl
  ·rw[if_neg ht,lq r,show t / 2=(t - 2) / 2+1 by omega,show t % 2=(t - 2) % 2 by omega,List.getElem?_cons_succ]
theorem lx {xs:List (Int×Nat)}{i:Nat}(h:i<xs.length):xs[i]?=some (xs.getD i (0,0)):=by rw[List.getD_eq_getElem?_getD,List.getElem?_eq_getElem h];rfl
theorem iz {cur:Array Value}{xs:List (Int×Nat)}(ht:cur.toList.take (xs.length * 2)=xs.flatMap wyF){i:Nat}(hi:i<xs.length):cur[2 * i]?=some (I (xs.getD i (0,0)).1)∧cur[2 * i+1]?=some (I ((xs.getD i (0,0)).2:Nat)):=by
 have key:∀t,t<xs.length * 2→cur[t]?=(xs.flatMap wyF)[t]?:=fun t h=>by rw[← ht,List.getElem?_take,if_pos h,Array.getElem?_toList]
 constructor
 ·rw[key _ (by omega),lq,show 2 * i / 2=i by omega,show 2 * i % 2=0 by omega,lx hi];rfl
 ·rw[key _ (by omega),lq,show (2 * i+1) / 2=i by omega,show (2 * i+1) % 2=1 by omega,lx hi];rfl
theorem a2D {cur:Array Value}{xs:List (Int×Nat)}(hs:xs.length * 2≤cur.size)(h:∀i,i<xs.length→cur[2 * i]?=some (I (xs.getD i (0,0)).1)∧cur[2 * i+1]?=some (I ((xs.getD i (0,0)).2:Nat))):cur.toList.take (xs.length * 2)=xs.flatMap wyF:=by
 refine List.ext_getElem? fun t=>?_
 rw[List.getElem?_take,lq]
 by_cases ht:t<xs.length * 2
 ·rw[if_pos ht,Array.getElem?_toList,lx (show t / 2<xs.length by omega)]
  obtain⟨h1,h2⟩:=h (t / 2) (by omega)
  rcases Nat.mod_two_eq_zero_or_one t with hm|hm
  ·rw[show t=2 * (t / 2) by omega,h1,show 2 * (t / 2) / 2=t / 2 by omega,show 2 * (t / 2) % 2=0 by omega];rfl
  ·rw[show t=2 * (t / 2)+1 by omega,h2,show (2 * (t / 2)+1) / 2=t / 2 by omega,show (2 * (t / 2)+1) % 2=1 by omega];rfl
 ·rw[if_neg ht,List.getElem?_eq_none (by omega)];rfl
theorem oj {cur:Array Value}{off:Nat}{a b:Value}(h1:cur[off]?=some a)(h2:cur[off+1]?=some b):cur.extract off (off+2) = #[a,b]:=by
 have l2:=(Array.getElem?_eq_some_iff.1 h2).1
 apply Array.ext_getElem?
 intro j
 rw[Array.getElem?_extract]
 match j with
 | 0=>rw[if_pos (by omega),Nat.add_zero,h1];rfl
 | 1=>rw[if_pos (by omega),h2];rfl
 | j+2=>rw[if_neg (by omega)];rfl
theorem wat {b i:Nat}:Value.pointer (some ⟨b,0+((i:Nat):Int).toNat * 2,none⟩)=Value.pointer (some ⟨b,2 * i,none⟩):=by rw[Int.toNat_natCast,Nat.zero_add,Nat.mul_comm]
theorem ly {N:Nat}{G:Nat→Prop}{ty:TypeId}(xs:List (Int×Nat))(v:Value)(W:World)(h:OwR wyE ty N G W xs v):Calls Tryz.prog 109 #[v] W (Post (E (I (xs.length:Nat))) W):=by
 have hd:=h.sl
 refine eN [v] [E v] Tryz.func109 Tryz.ntmps109 ?_ fun a hf=>?_
 rotate_left
 rotate_right
 ·exact arg1 rfl
 have e:=Ext.rfl' W
 refine seq <| ae <| tA hf rfl fun a hf=>aa <| seq <| rgN 2 hf <| st (mv rfl) <| st (aF dI (isE rfl (VA.st _ _ _ _ e hd))) <| en fun a w e' hf=>?_
 replace e:=e.tr e'
 refine tA hf rfl fun a hf=>aa <| ai <| ap rfl hf rfl ?_
 rintro _ rfl
 exact⟨_,rfl,e,rfl⟩
theorem jF {N:Nat}{G:Nat→Prop}(xs:List (Int×Nat))(i k:Nat)(v:Value)(W:World)(h:OwR wyE 172 N G W xs v)(hi:i<xs.length)(hk:k<xs.length):Calls Tryz.prog 234 #[v,I (i:Nat),I (k:Nat)] W (Post (E (B (decide (cst xs i<cst xs k)))) W):=by
 rcases h.rw iy with ⟨rfl,rfl⟩|⟨b,cap,cur,rfl,hc,HR,ht⟩
 ·simp at hi
 have c1:=(iz ht hi).1
 have c2:=(iz ht hk).1
 have hB:=HR.bl
 refine eN [.slice (some ⟨b,0,none⟩) xs.length cap,I (i:Nat),I (k:Nat)] [E (.slice (some ⟨b,0,none⟩) xs.length cap),E (I (i:Nat)),E (I (k:Nat))] Tryz.func234 Tryz.ntmps234 ?_ fun a hf=>?_
 rotate_left
 rotate_right
 ·exact dS rfl rfl rfl
 have e:=Ext.rfl' W
 refine seq <| ae <| tA hf rfl fun a hf=>aa <| seq <| rgG 11 Mix.mix hf <| st (mv rfl) <| st (mv rfl) <| st ((idxS dI fg rfl rfl (by omega)).eq (wat)) <| st (fA cY rfl T3 rfl) <| st (ld1 T3 rfl hB c1) <| st (mv rfl) <| st (mv rfl) <| st ((idxS dI fg rfl rfl (by omega)).eq (wat)) <| st (fA cY rfl T3 rfl) <| st (ld1 T3 rfl hB c2) <| st (lss rfl rfl) <| en fun a w e' hf=>?_
 obtain⟨e,hB⟩:=up2 e' e hB
 refine tA hf rfl fun a hf=>aa <| ai <| ap rfl hf rfl ?_
 rintro _ rfl
 exact⟨_,rfl,e,rfl⟩
theorem a2E {cur:Array Value}{xs:List (Int×Nat)}{i k:Nat}(hi:i<xs.length)(hk:k<xs.length)(hs:xs.length * 2≤cur.size)(ht:cur.toList.take (xs.length * 2)=xs.flatMap wyF) :
  (bL (bL cur (2 * i) #[I (xs.getD k (0,0)).1,I ((xs.getD k (0,0)).2:Nat)]) (2 * k) #[I (xs.getD i (0,0)).1,I ((xs.getD i (0,0)).2:Nat)]).toList.take ((swp xs i k).length * 2)=(swp xs i k).flatMap wyF:=by
 have z1:(bL cur (2 * i) #[I (xs.getD k (0,0)).1,I ((xs.getD k (0,0)).2:Nat)]).size=cur.size:=ix (by show 2 * i+2≤_;omega)
 have z2:(bL (bL cur (2 * i) #[I (xs.getD k (0,0)).1,I ((xs.getD k (0,0)).2:Nat)]) (2 * k) #[I (xs.getD i (0,0)).1,I ((xs.getD i (0,0)).2:Nat)]).size=cur.size:=(ix (by rw[z1];show 2 * k+2≤_;omega)).trans z1
 refine a2D (by rw[gx,z2];exact hs) fun j hj=>?_
 rw[gx] at hj
 obtain⟨a1,a2⟩:=iz ht hj
 have g0:=fun t=>uh (cs:=bL cur (2 * i) #[I (xs.getD k (0,0)).1,I ((xs.getD k (0,0)).2:Nat)]) (off:=2 * k) (a:=I (xs.getD i (0,0)).1) (b:=I ((xs.getD i (0,0)).2:Nat)) (by omega) t
 have g1:=fun t=>uh (cs:=cur) (off:=2 * i) (a:=I (xs.getD k (0,0)).1) (b:=I ((xs.getD k (0,0)).2:Nat)) (by omega) t
 rw[gy hi hk]
 by_cases h1:j=k
 ·subst h1
  rw[if_pos rfl]
  exact⟨by rw[g0,if_pos rfl],by rw[g0,if_neg (by omega),if_pos rfl]⟩
 ·rw[if_neg h1]
  by_cases h2:j=i
  ·subst h2
   rw[if_pos rfl]
   exact⟨by rw[g0,if_neg (by omega),if_neg (by omega),g1,if_pos rfl],by rw[g0,if_neg (by omega),if_neg (by omega),g1,if_neg (by omega),if_pos rfl]⟩
  ·rw[if_neg h2]
   exact⟨by rw[g0,if_neg (by omega),if_neg (by omega),g1,if_neg (by omega),if_neg (by omega)];exact a1,by rw[g0,if_neg (by omega),if_neg (by omega),g1,if_neg (by omega),if_neg (by omega)];exact a2⟩
theorem ol (x:Int×Nat):(#[I x.1,I (x.2:Nat)]:Array Value).all (·.oneCell')=true:=by simp[Value.oneCell']
theorem om {N:Nat}{G:Nat→Prop}(xs:List (Int×Nat))(i k:Nat)(v:Value)(W:World)(h:OwR wyE 172 N G W xs v)(hi:i<xs.length)(hk:k<xs.length):Calls Tryz.prog 237 #[v,I (i:Nat),I (k:Nat)] W (fun en w'=>en=.returned (.tuple #[])∧Chg (fun b=>v.ownBlock=some b) W w'∧OwR wyE 172 N G w' (swp xs i k) v):=by
 have hG:=h.av
 rcases h.rw iy with ⟨rfl,rfl⟩|⟨b,cap,cur,rfl,hc,HR,ht⟩
 ·simp at hi
 have c1:=iz ht hi
 have c2:=iz ht hk
 have hsz:xs.length * 2≤cur.size:=by rw[HR.sz];exact Nat.mul_le_mul_right 2 hc
 have hfin:=a2E hi hk hsz ht
 have hB:=HR.bl
 have hmx:=HR.mx
 have hlo:=HR.lo
 have hcs:=HR.sz
 refine eN [.slice (some ⟨b,0,none⟩) xs.length cap,I (i:Nat),I (k:Nat)] [E (.slice (some ⟨b,0,none⟩) xs.length cap),E (I (i:Nat)),E (I (k:Nat))] Tryz.func237 Tryz.ntmps237 ?_ fun a hf=>?_
 rotate_left
 dsimp only[params,Nat.reduceAdd] at hf
 rotate_right
 ·exact dS rfl rfl rfl
 have Hw:Chg (fun c=>c=b) W W:=Chg.rfl' _ _
 refine fD 15 [2,2,1,1,2,2,2,2,2,2,2,2,2] (Chg fun c=>c=b) (cR.one _) (fun w=>Blk w b (bL cur (2 * i) #[I (xs.getD k (0,0)).1,I ((xs.getD k (0,0)).2:Nat)]) 172) (fun w w1 k h=>h.ext k) Mix.mix hf (by decide +kernel) (by decide +kernel) <| jk (mv rfl) <| jk (mv rfl) <| jf (fun w1 h1=>mv rfl) <| jf (fun w1 h1=>mv rfl) <| jk (mv rfl) <| jk (mv rfl) <| jk ((idxS dI fg rfl rfl (by omega)).eq (wat)) <| jk ((ldP eK rfl hB (by omega)).eq (congrArg Value.agg (oj c2.1 c2.2))) <| jk (mv rfl) <| jk (mv rfl) <| jk ((idxS dI fg rfl rfl (by omega)).eq (wat)) <| jk ((ldP eK rfl hB (by omega)).eq (congrArg Value.agg (oj c1.1 c1.2))) <| jk ((idxS dI fg rfl rfl (by omega)).eq (wat)) <| jx (a2z (new := #[I (xs.getD k (0,0)).1,I ((xs.getD k (0,0)).2:Nat)]) eK rfl rfl (ol _) hB rfl (by omega)) <| jp (fun w1 h1 HF1=>(idxS dI fg rfl rfl (by omega)).eq (wat)) <| je <| fun a w hc HF hf=>?_
 try dsimp only[push] at hf
 replace Hw:=Hw.tr hc
 clear hc
 refine zR (cs:=bL cur (2 * i) #[I (xs.getD k (0,0)).1,I ((xs.getD k (0,0)).2:Nat)]) eK hf rfl rfl (ol (xs.getD i (0,0))) HF rfl (by rw[ix (by show 2 * i+2≤_;omega)];omega) fun w hg hsz' HB hf=>?_
 replace Hw:=Hw.gr hg (.inl rfl)
 refine aa ?_
 have z1:(bL cur (2 * i) #[I (xs.getD k (0,0)).1,I ((xs.getD k (0,0)).2:Nat)]).size=cur.size:=ix (by show 2 * i+2≤_;omega)
 have z2:(bL (bL cur (2 * i) #[I (xs.getD k (0,0)).1,I ((xs.getD k (0,0)).2:Nat)]) (2 * k) #[I (xs.getD i (0,0)).1,I ((xs.getD i (0,0)).2:Nat)]).size=cur.size:=(ix (by rw[z1];show 2 * k+2≤_;omega)).trans z1
 have HR:RwR wyE.k 172 N cap b (bL (bL cur (2 * i) #[I (xs.getD k (0,0)).1,I ((xs.getD k (0,0)).2:Nat)]) (2 * k) #[I (xs.getD i (0,0)).1,I ((xs.getD i (0,0)).2:Nat)]) w:=⟨HB,hlo,z2.trans hcs,hmx⟩
 have hO:=HR.own (xs:=swp xs i k) (G:=G) iy (by rw[gx];exact hc) hfin hG
 rw[gx] at hO
 exact dG rfl hf ⟨rfl,Hw.to fun c _ h=>by rw[h];rfl,hO⟩
structure HpW (bw:Nat)(v:Value)(xs:List (Int×Nat))(w:World):Prop where
 p:Blk w bw #[v] 169
 o:OwR wyE 172 1 G0 w xs v
def HpS (bw:Nat)(v:Value)(b:Nat):Prop:=b=bw∨v.ownBlock=some b
def OwL (W:World)(v v':Value):Prop:=∀b,v'.ownBlock=some b→v.ownBlock=some b∨W.heap.size≤b
theorem HpW.ext {bw:Nat}{v:Value}{xs:List (Int×Nat)}{w w':World}(h:HpW bw v xs w)(e:Ext w w'):HpW bw v xs w':=⟨h.p.ext e,h.o.ext e⟩
theorem HpW.ne {bw:Nat}{v:Value}{xs:List (Int×Nat)}{w:World}(h:HpW bw v xs w):v.ownBlock≠some bw:=h.o.neB h.p (by decide)
theorem OwL.tr {W w:World}{v v1 v2:Value}(h:OwL W v v1)(k:OwL w v1 v2)(hs:W.heap.size≤w.heap.size):OwL W v v2:=fun b hb=>(k b hb).elim (h b) fun hh=>.inr (Nat.le_trans hs hh)
theorem HpS.tr {W w1 w2:World}{bw:Nat}{v v1:Value}(h:Chg (HpS bw v) W w1)(hl:OwL W v v1)(k:Chg (HpS bw v1) w1 w2):Chg (HpS bw v) W w2:=
 ⟨k.os.trans h.os,k.tape.trans h.tape,k.output.trans h.output,Nat.le_trans h.size k.size,fun b hb hS=>(k.block b (Nat.lt_of_lt_of_le hb h.size) fun hh=>hh.elim (fun hh=>hS (.inl hh)) fun hh=>(hl b hh).elim (fun hh=>hS (.inr hh)) fun hh=>by omega).trans (h.block b hb hS)⟩
theorem a2F {G:Nat→Prop}{x:Int×Nat}{v:Value}{w:World}:(Dv wyE G x).p v w↔v=wyV x:=⟨fun⟨cs,h,hv⟩=>by subst h;exact hv,fun h=>⟨_,rfl,h⟩⟩
theorem a2G {L:Env}{w0:World}{x:Operand}{z:Int×Nat}{G:Nat→Prop}(h:opd L x=some (E (wyV z))):Is L w0 x (Dv wyE G z):=⟨_,h,fun v w _ hv=>a2F.2 hv⟩
theorem oo (x:Int×Nat):(#[I x.1,I (x.2:Nat)]:Array Value).all (·.oneCell')=true:=ol x
theorem a2H (xs:List (Int×Nat))(x:Int×Nat)(bw:Nat)(v:Value)(W:World)(H:HpW bw v xs W)(hl:xs.length≤100000000) :
  Calls Tryz.prog 236 #[ptr bw,.iface 172 (wyV x)] W (fun en w'=>en=.returned (.tuple #[])∧∃v',Chg (HpS bw v) W w'∧HpW bw v' (xs++[x]) w'∧OwL W v v'):=by
 have H0:=H
 refine eN [ptr bw,.iface 172 (wyV x)] [E (ptr bw),E (.iface 172 (wyV x))] Tryz.func236 Tryz.ntmps236 ?_ fun a hf=>?_
 rotate_left
 dsimp only[params,Nat.reduceAdd] at hf
 rotate_right
 ·exact arg2 rfl rfl
 have e:=Ext.rfl' W
 refine seq <| rgN 5 hf <| st (mv rfl) <| st (asI cY rfl rfl) <| st (mv rfl) <| st (exE rfl rfl) <| st (exE rfl rfl) <| en fun a w e' hf=>?_
 replace H:=H.ext e'
 replace e:=e.tr e'
 refine tL iQ hf fun a b4 w e' hb4 hs4 B4 hf=>?_
 have hle4:=Nat.le_trans e.size (Nat.le_of_eq hb4.symm)
 replace H:=H.ext e'
 replace e:=e.tr e'
 have n4:W.heap.size≤b4∧bw<W.heap.size∧∀b,v.ownBlock=some b→b<b4:=⟨by omega,H0.p.lt,fun b hb=>by have:=(H0.o.lt hb).2;omega⟩
 refine az eK hf rfl rfl (oo x) B4 rfl rfl fun w hg hsz B4 hf=>?_
 replace e:=e.gr hg n4.1
 replace H:HpW bw v xs w:=⟨H.p.gr hg (by omega),H.o.grE hg (fun h=>by have:=n4.2.2 _ h;omega)⟩
 refine tA hf rfl fun a hf=>aa <| seq <| rgN 1 hf <| st (mv rfl) <| en fun a w e' hf=>?_
 replace H:=H.ext e'
 replace e:=e.tr e'
 replace B4:=B4.ext e'
 refine aa <| ifc hf rfl (fun _=>?_) (fun h=>by cases h)
 replace hf:=hf.kp [0,4]
 have c:Chg (HpS bw v) W w:=e.chg _
 have hl0:W.heap.size≤w.heap.size:=e.size
 refine fD 8 [1,0,0,0,0,0] (Chg (fun b=>v.ownBlock=some b)) (cR.chg _) (fun w=>True) (fun w w1 k h=>trivial) Mix.mix hf (by decide +kernel) (by decide +kernel) <| jf (fun w1 h1=>mv rfl) <| ja (mv rfl) <| ja (eO rfl) <| ja (ld1 (v:=v) el rfl H.p rfl) <| ja ((ldW eK rfl B4 rfl).eq ((rfl:_=wyV x))) <| ja (bB (e:=wyE) (G:=G0) dI iQ rfl (by decide) rfl (fun b hb=>hb.elim) (a2G rfl)) <| jx (a2A dI iQ rfl rfl rfl H.o (isR rfl) (by simp only[List.length_singleton];omega) (by simp only[List.length_singleton,maxLen];omega)) ?_
 refine jp (fun w1 h1 HF1=>eO rfl) <| je <| fun a w hc HF hf=>?_
 have hbw:=H.p.ch hc H.ne
 obtain⟨v',⟨Ho,hle⟩,hf⟩:=hf.opn 18 rfl
 replace hf:=hf.kp [18,19]
 refine aA el hf rfl rfl Ho.one hbw Nat.zero_lt_one fun w hg hsz Bw hf=>aa <| dG rfl hf ⟨rfl,v',(c.tr (hc.to fun b _ h=>.inr h)).gr hg (.inl (.inl rfl)),⟨Bw,Ho.grE hg (Ho.neB hbw (by decide))⟩,fun b hb=>(hle b hb).imp id fun h=>Nat.le_trans hl0 h⟩
theorem a2I (xs:List (Int×Nat))(x:Int×Nat)(bw:Nat)(v:Value)(W:World)(H:HpW bw v (xs++[x]) W)(hl:xs.length≤100000000) :
  Calls Tryz.prog 235 #[ptr bw] W (fun en w'=>en=.returned (.iface 172 (wyV x))∧∃v',Chg (HpS bw v) W w'∧HpW bw v' xs w'∧OwL W v v'):=by
 rcases H.o.rw iy with ⟨_,h0⟩|⟨b,cap,cur,rfl,hc,HR,ht⟩
 ·simp at h0
 have hn:(xs++[x]).length=xs.length+1:=by rw[List.length_append];rfl
 have hx:(xs++[x]).getD xs.length (0,0)=x:=by rw[List.getD_eq_getElem?_getD,List.getElem?_append_right (Nat.le_refl _),Nat.sub_self];rfl
 have c1:=iz ht (show xs.length<(xs++[x]).length by omega)
 rw[hx] at c1
 have hB:=HR.bl
 have Hp:=H.p
 rw[hn] at Hp
 have hnb:bw≠b:=fun h=>H.ne (by rw[h];rfl)
 refine eN [ptr bw] [E (ptr bw)] Tryz.func235 Tryz.ntmps235 ?_ fun a hf=>?_
 rotate_left
 dsimp only[params,Nat.reduceAdd] at hf
 rotate_right
 ·exact arg1 rfl
 have e:=Ext.rfl' W
 refine seq <| ae <| tA hf rfl fun a hf=>aa <| seq <| rgN 5 hf <| st (mv rfl) <| st (eO rfl) <| st (ld1 (v:=.slice (some ⟨b,0,none⟩) (xs.length+1) cap) el rfl Hp rfl) <| st (mQ dI rfl) <| st ((sub rfl rfl (by omega)).eq (congrArg (Value.int .i64) (show ((xs.length+1:Nat):Int) - 1=((xs.length:Nat):Int) by omega))) <| en fun a w e' hf=>?_
 obtain⟨e,hB,Hp⟩:=up3 e' e hB Hp
 refine tA hf rfl fun a hf=>aa <| seq <| rgN 6 hf <| st (mv rfl) <| st (eO rfl) <| st (ld1 (v:=.slice (some ⟨b,0,none⟩) (xs.length+1) cap) el rfl Hp rfl) <| st (mv rfl) <| st ((idxS dI fg rfl rfl (by omega)).eq (wat)) <| st ((ldP eK rfl hB (by have:=(Array.getElem?_eq_some_iff.1 c1.2).1;omega)).eq ((congrArg Value.agg (oj c1.1 c1.2):_=wyV x))) ?_
 refine en fun a w e' hf=>?_
 obtain⟨e,hB,Hp⟩:=up3 e' e hB Hp
 refine tL iQ hf fun a b4 w e' hb4 hs4 B4 hf=>?_
 have hle4:=Nat.le_trans e.size (Nat.le_of_eq hb4.symm)
 obtain⟨e,hB,Hp⟩:=up3 e' e hB Hp
 have n4:W.heap.size≤b4:=by omega
 have n5:bw<W.heap.size:=H.p.lt
 have n6:b<W.heap.size:=HR.bl.lt
 refine az eK hf rfl rfl (oo x) B4 rfl rfl fun w hg hsz B4 hf=>?_
 obtain⟨hB,Hp⟩:=gr2 hg hB Hp
 replace e:=e.gr hg n4
 refine aa ?_
 replace hf:=hf.kp [0,3,4]
 refine seq <| rgN 7 hf <| st (mv rfl) <| st (mv rfl) <| st (eO rfl) <| st (ld1 (v:=.slice (some ⟨b,0,none⟩) (xs.length+1) cap) el rfl Hp rfl) <| st (mv rfl) <| st (a1d dI fg rfl rfl (by omega)) <| st (eO rfl) <| en fun a w e' hf=>?_
 obtain⟨e,hB,Hp,B4⟩:=up4 e' e hB Hp B4
 refine aA el hf rfl rfl rfl Hp Nat.zero_lt_one fun w hg hsz Hp hf=>?_
 have c:Chg (HpS bw (.slice (some ⟨b,0,none⟩) (xs++[x]).length cap)) W w:=(e.chg _).gr hg (.inl (.inl rfl))
 obtain⟨hB,B4⟩:=gr2 hg hB B4
 refine aa ?_
 replace hf:=hf.keep [4]
 refine seq <| rgN 2 hf <| st ((ldW eK rfl B4 rfl).eq ((rfl:_=wyV x))) <| st (mkI cY rfl rfl) <| en fun a w e' hf=>?_
 obtain⟨c,hB,Hp,B4⟩:=up4 e' c hB Hp B4
 refine tA hf rfl fun a hf=>aa <| ai <| ap rfl hf rfl ?_
 rintro _ rfl
 have ht2:cur.toList.take (xs.length * 2)=xs.flatMap wyF:=by
  have h1:=congrArg (List.take (xs.length * 2)) ht
  have h2:wyE.k=2:=rfl
  have h3:((xs++[x]).flatMap wyF).take (xs.length * 2)=xs.flatMap wyF:=by rw[sM (k:=2) (fun _=>rfl),List.take_append,Nat.sub_self,List.take_zero,List.append_nil,List.take_length]
  rw[List.take_take,hn,h2,Nat.min_eq_left (by omega),h3] at h1
  exact h1
 have HR2:RwR wyE.k 172 1 cap b cur w:=⟨hB,HR.lo,HR.sz,HR.mx⟩
 refine⟨rfl,.slice (some ⟨b,0,none⟩) xs.length cap,c,⟨Hp,HR2.own iy (by omega) ht2 fun b hb=>hb.elim⟩,fun b hb=>.inl hb⟩
end Go.Mono
