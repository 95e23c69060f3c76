/-
  Walks of functions and plain facts.
  No condition.
-/
import Derived.Test.YtpjmfmjgmgjioaaGreatDoorFB
import Derived.RangeFuncRecord
import Derived.Test.YtpjmfmjgmgjioaaGreatDoorFA
import Derived.Maps.Range
import Derived.DeepKeys4
set_option linter.unusedVariables false
set_option linter.unusedSimpArgs false
namespace Go.Mono
open Go Go.Proofs Go.RowKit
def bj (S:BS):List Nat:=(List.range 1024).filter fun i=>S.getLsbD i
theorem jI {S:BS}{i:Nat}:i∈bj S↔i<1024∧S.getLsbD i=true:=by simp[bj,List.mem_filter]
theorem ug:bj 0=[]:=by
 refine List.filter_eq_nil_iff.2 fun i _=>by simp
theorem uh (n k:Nat)(hk:k<n):List.range n=List.range k++k::(List.range (n - (k+1))).map (fun i=>k+1+i):=by
 have h1:List.range n=List.range (k+(1+(n - (k+1)))):=congrArg List.range (by omega)
 rw[h1,List.range_add,List.range_add,List.map_append,List.map_map]
 simp[Function.comp,Nat.add_assoc]
theorem ui {S:BS}{k:Nat}(h:dw S=some k):bj S=k::bj (del S k):=by
 obtain⟨hk,hb,h0⟩:=ng.1 h
 have hfit:bQ (k:Int)=true:=cp.2 ⟨by omega,by omega⟩
 have hdel:∀i,(del S (k:Int)).getLsbD i=(S.getLsbD i && !decide (i=k)):=by
  intro i
  rw[del,if_pos hfit,BitVec.getLsbD_and,BitVec.getLsbD_not,Int.toNat_natCast,jl _ _ hk]
  by_cases hi:i<1024
  ·simp[hi]
  ·simp[hi,BitVec.getLsbD_of_ge S i (by omega)]
 unfold bj
 rw[uh 1024 k hk,List.filter_append,List.filter_append,List.filter_cons_of_pos (by simpa using hb),List.filter_cons_of_neg (by simp[hdel])]
 have z1:(List.range k).filter (fun i=>S.getLsbD i)=[]:=List.filter_eq_nil_iff.2 fun i hi=>by simpa using h0 i (List.mem_range.1 hi)
 have z2:(List.range k).filter (fun i=>(del S (k:Int)).getLsbD i)=[]:=List.filter_eq_nil_iff.2 fun i hi=>by simp[hdel,h0 i (List.mem_range.1 hi)]
 rw[z1,z2,List.nil_append,List.nil_append]
 refine congrArg (k :: ·) (List.filter_congr fun i hi=>?_)
 obtain⟨j,_,rfl⟩:=List.mem_map.1 hi
 rw[hdel]
 simp
 omega
theorem uj {S:BS}(h:dw S=none):bj S=[]:=by rw[nf.1 h];exact ug
def fN (b:Nat):Value:=.func (.func 91) #[] #[.pointer (some ⟨b,0,none⟩)]
def nG (n:Nat)(S:BS):VA:=⟨fun v w=>∃b,n≤b∧v=fN b∧Blk w b (aM S) 56,fun v w w' e ⟨b,h1,h2,h3⟩=>⟨b,h1,h2,h3.ext e⟩⟩

theorem uk (S:BS)(W:World):Calls Tryz.prog 47 #[au S] W (Post (nG W.heap.size S) W):=by
 refine enter (args:=[au S]) (As:=[E (au S)]) Tryz.func47 rfl Tryz.ntmps47 (Nat.le_of_ble_eq_true rfl) ?_ (fun a hf=>?_) (Nat.le_of_ble_eq_true rfl)
 rotate_left
 dsimp only[params,Nat.reduceAdd] at hf
 rotate_right
 ·exact arg1 rfl
 have e:=Ext.rfl' W
 refine seq ?_
 refine ah ?_
 refine aH hf rfl (by decide) fun a b1 w v1 hv1 e' hb1 hs1 B1 hf=>?_
 have hle1:=Nat.le_trans e.size (Nat.le_of_eq hb1.symm)
 replace e:=e.tr e'
 refine ae hf rfl (by decide) fun a hf=>?_
 refine aa ?_
 subst hv1
 rw[dh] at B1
 refine seq ?_
 refine ac 1 hf (by decide +kernel) ?_
 refine st (sF (vs:=fun _=>.pointer (some ⟨b1,0,none⟩)) (by intro x hx;simp at hx;subst hx;rfl)) ?_
 refine en fun a w e' hf=>?_
 replace e:=e.tr e'
 replace B1:=B1.ext e'
 refine ae hf rfl (by decide) fun a hf=>?_
 refine aa ?_
 refine aj (al rfl hf rfl ?_)
 rintro v rfl
 exact⟨_,rfl,e,b1,hle1,by simp[fN],B1⟩

def cA (B b:Nat):Prop:=B≤b∧b<B+3
structure Kp (B:Nat)(w w':World):Prop where
 os:w'.os=w.os
 tape:w'.tape=w.tape
 output:w'.output=w.output
 size:w.heap.size≤w'.heap.size
 same:∀b,b<w.heap.size→¬cA B b→w'.heap[b]?=w.heap[b]?
structure Kh (B:Nat)(w w':World):Prop where
 size:w.heap.size≤w'.heap.size
 same:∀b,b<w.heap.size→cA B b→w'.heap[b]?=w.heap[b]?
theorem Kp.rfl' (B:Nat)(w:World):Kp B w w:=⟨rfl,rfl,rfl,Nat.le_refl _,fun _ _ _=>rfl⟩
theorem Kp.tr {B:Nat}{a b c:World}(h:Kp B a b)(k:Kp B b c):Kp B a c:=
 ⟨k.os.trans h.os,k.tape.trans h.tape,k.output.trans h.output,Nat.le_trans h.size k.size,fun x hx hh=>(k.same x (Nat.lt_of_lt_of_le hx h.size) hh).trans (h.same x hx hh)⟩
theorem Kp.ext {B:Nat}{w w':World}(e:Ext w w'):Kp B w w':=⟨e.os,e.tape,e.output,e.size,fun b hb _=>e.block b hb⟩
theorem Kp.gr {B b:Nat}{w w':World}(h:w.grownBy w' (some b))(hb:cA B b):Kp B w w':=
 ⟨h.os,h.tape,h.output,h.size,fun x hx hh=>h.block x hx (fun e=>by cases e;exact hh hb)⟩
theorem Kp.put {B b:Nat}{w:World}{o:Obj}(hb:cA B b):Kp B w (w.putObj b o):=
 ⟨rfl,rfl,rfl,by simp,fun x hx hh=>World.putObj_heap_other (fun e=>by subst e;exact hh hb)⟩
theorem Kh.rfl' (B:Nat)(w:World):Kh B w w:=⟨Nat.le_refl _,fun _ _ _=>rfl⟩
theorem Kh.tr {B:Nat}{a b c:World}(h:Kh B a b)(k:Kh B b c):Kh B a c:=⟨Nat.le_trans h.size k.size,fun x hx hh=>(k.same x (Nat.lt_of_lt_of_le hx h.size) hh).trans (h.same x hx hh)⟩
theorem Kh.ext {B:Nat}{w w':World}(e:Ext w w'):Kh B w w':=⟨e.size,fun b hb _=>e.block b hb⟩
instance {B:Nat}{a w w':World}:Ug w w' (Kh B a w) (Kh B a w'):=⟨fun e h=>h.tr (Kh.ext e)⟩
theorem Kh.gr {B b:Nat}{w w':World}(h:w.grownBy w' (some b))(hb:¬cA B b):Kh B w w':=⟨h.size,fun x hx hh=>h.block x hx (fun e=>by cases e;exact hb hh)⟩
theorem Ext.kp {B:Nat}{W w w':World}(e:Ext W w)(k:Kp B w w')(h:W.heap.size≤B):Ext W w':=
 Below.trans e ⟨k.os,k.tape,k.output,k.size,fun b hb=>k.same b (Nat.lt_of_lt_of_le hb e.size) (fun hh=>by have:=hh.1;omega)⟩
theorem Blk.kp {B b:Nat}{w w':World}{cs:Array Value}{t:TypeId}(h:Blk w b cs t)(k:Kp B w w')(hb:¬cA B b):Blk w' b cs t:=(k.same b h.lt hb).trans h
theorem Blk.kh {B b:Nat}{w w':World}{cs:Array Value}{t:TypeId}(h:Blk w b cs t)(k:Kh B w w')(hb:cA B b):Blk w' b cs t:=(k.same b h.lt hb).trans h
theorem Tab.kp {B:Nat}{w w':World}(h:Tab w)(k:Kp B w w')(hB:0<B):Tab w':=fun i hi=>
 (World.cell?_of_block (k.same 0 h.lt (fun hh=>by have:=hh.1;omega))).trans (h i hi)
theorem ul {P:Program}{L:Env}{ty:TypeId}{pos:String}{aft:Array Edge}{r:Option Nat}{ds:List Deferred}{ops:Array Oper}{rest:List Oper}{Q:Exit→Act→World→Prop}{n:Nat}{a:Act}{w:World}{x y:Operand}{tys:Array TypeId}{d l:Nat}{v:Value}
  {R:Value→World→Prop} (hf:FrD n ds a w L) (hx:opd L x=some (E (.func (.yield l) #[] #[]))) (hy:opd L y=some (E v))
  (h:∃fn tmps assign body,(Instr.yield l #[v]).run P w=.ok (.round l fn tmps assign body) w∧RoundIn Fence.wide 0 P l fn tmps assign body w (fun e w2=>∃u,e=.returned u∧R u w2))
  (k:∀u w2,R u w2→wpListIn (FW r) 0 P ops Q rest (a.put (some d) u) w2) :
  wpListIn (FW r) 0 P ops Q (⟨some d,.call ⟨.value x,#[y],tys⟩,ty,pos,aft,none⟩::rest) a w:=
 wpListIn_plain rfl fun K hK=>by
  obtain⟨fn,tmps,assign,body,hrun,hR⟩:=h
  have hxv:a.eval x=.func (.yield l) #[] #[]:=hf.opd x _ hx
  have hyv:a.eval y=v:=hf.opd y _ hy
  refine OpR.wp (R:=R) ?_ (fun u w2 hu=>hK _ _ (k u w2 hu))
  simp[OpR,execOp,resolve,hxv,hyv,Deferred.ofValue,invoke,hrun]
  exact hR
theorem um (S:BS)(l b B0:Nat)(W:World)(I:List Nat→World→Prop)(X:World→Prop)(hT:Tab W)(hb:Blk W b (aM S) 56)(hB:b<B0)(hBW:B0≤W.heap.size)(hW3:W.heap.size<B0+3)(h0:I [] W)
  (hI:∀(s:List Nat) (w w':World),I s w→Kp B0 w w'→W.heap.size≤w.heap.size→(∀x,x<W.heap.size→w'.heap[x]?=w.heap[x]?)→I s w')
  (hX:∀w w',X w→Ext w w'→X w')
  (hE:∀s w,I s w→Tab w)
  (hy:∀(s:List Nat) (x:Nat) (rest:List Nat) (w:World),bj S=s++x::rest→I s w→W.heap.size<w.heap.size→∃fn tmps assign body,(Instr.yield l #[Mono.I x]).run Tryz.prog w=.ok (.round l fn tmps assign body) w ∧
   RoundIn Fence.wide 0 Tryz.prog l fn tmps assign body w (fun e w2=>∃u,e=.returned u∧((u=.bool true∧I (s++[x]) w2∧w.heap.size≤w2.heap.size∧w2.heap[W.heap.size]?=w.heap[W.heap.size]?)∨(u=.bool false∧X w2)))) :
  Calls Tryz.prog 91 #[.func (.yield l) #[] #[],.pointer (some ⟨b,0,none⟩)] W (fun e w'=>e=.returned (.tuple #[])∧(I (bj S) w'∨X w')):=by
 refine enter (args:=[.func (.yield l) #[] #[],.pointer (some ⟨b,0,none⟩)]) (As:=[E (.func (.yield l) #[] #[]),E (.pointer (some ⟨b,0,none⟩))]) Tryz.func91 rfl Tryz.ntmps91 (Nat.le_of_ble_eq_true rfl) ?_ (fun a hf=>?_) (Nat.le_of_ble_eq_true rfl)
 rotate_left
 dsimp only[params,Nat.reduceAdd] at hf
 rotate_right
 ·exact arg2 rfl rfl
 have e:=Ext.rfl' W
 refine seq ?_
 refine ah ?_
 refine qv T56 hf rfl hb (dF _) (by decide) fun a hf=>?_
 refine aJ I56 hf (by decide) fun a b3 w e' hb3 hs3 B3 hf=>?_
 have hle3:=Nat.le_trans e.size (Nat.le_of_eq hb3.symm)
 replace e:=e.tr e'
 replace hb:=hb.ext e'
 clear e'
 haveI hinr:∀G0,InR (GB W G0) (some b3):=fun G0=>InR.gb (by omega)
 refine aD T56 hf rfl rfl (bL _) B3 rfl (rfl) fun w hg hsz B3 hf=>?_
 replace e:=e.gr hg (by omega)
 replace hb:=hb.gr hg (by omega)
 clear hg
 refine aa ?_
 have k0:I [] w:=hI [] W w h0 (Kp.ext ⟨e.os,e.tape,e.output,e.size,e.block⟩) (Nat.le_refl _) (fun x hx=>e.block x hx)
 obtain rfl:b3=W.heap.size:=by omega
 have hlt3:W.heap.size<w.heap.size:=by omega
 clear hb hT
 have hT:=hE _ _ k0
 clear e
 refine seq ?_
 refine ac 5 hf (by decide +kernel) ?_
 refine st (ldW T56 rfl (by assumption) rfl) ?_
 refine st (aw lW rfl (fun v w' e' h=>by cases h;exact nh S w' (hT.ext e'))) ?_
 refine st (mv rfl) ?_
 refine st (aZ rfl rfl) ?_
 refine st (aZ rfl rfl) ?_
 refine en fun a w e' hf=>?_
 replace hT:=hE _ _ k0
 replace k0:=hI _ _ _ k0 (Kp.ext e') (by omega) (fun x hx=>e'.block x (by omega))
 replace hlt3:=Nat.lt_of_lt_of_le hlt3 e'.size
 replace B3:=B3.ext e'
 refine ae hf rfl (by decide) fun a hf=>?_
 refine ae hf rfl (by decide) fun a hf=>?_
 refine aa ?_
 replace hf:=hf.kp [0,3,4,5]
 refine blk (aG (fun r a w=>∃(T:BS) (s:List Nat),r=(bj T).length∧bj S=s++bj T∧Fr 25 a w [(0,E (.func (.yield l) #[] #[])),(3,E (.pointer (some ⟨W.heap.size,0,none⟩))),(4,E (Mono.I ((dw T).getD 0:Nat))),(5,E (B (dw T).isSome))] ∧
  I s w∧Blk w W.heap.size (aM T) 56∧W.heap.size<w.heap.size) (bj S).length ⟨S,[],Eq.refl (bj S).length,(List.nil_append _).symm,hf,k0,B3,hlt3⟩ ?_)
 clear hf k0 B3 hlt3 hT
 rintro r a w ⟨T,s,hr,hs,hf,k0,B3,hlt3⟩
 have hT:=hE _ _ k0
 cases hm:dw T with
 | none=>
  rw[hm] at hf
  repeat refine seq ?_
  refine ac 1 hf (by decide +kernel) ?_
  refine st (mv rfl) ?_
  refine en fun a w e' hf=>?_
  replace hT:=hE _ _ k0
  replace k0:=hI _ _ _ k0 (Kp.ext e') (by omega) (fun x hx=>e'.block x (by omega))
  replace hlt3:=Nat.lt_of_lt_of_le hlt3 e'.size
  replace B3:=B3.ext e'
  refine aa ?_
  refine ifc hf rfl (fun h=>by cases h) (fun _=>aF ?_)
  simp only[Exit.then,Exit.inBlock,↓reduceIte]
  rw[uj hm,List.append_nil] at hs
  exact cE rfl hf ⟨rfl,.inl (hs▸k0)⟩
 | some k=>
  rw[hm] at hf
  have he:=ui hm
  repeat refine seq ?_
  refine ac 1 hf (by decide +kernel) ?_
  refine st (mv rfl) ?_
  refine en fun a w e' hf=>?_
  replace hT:=hE _ _ k0
  replace k0:=hI _ _ _ k0 (Kp.ext e') (by omega) (fun x hx=>e'.block x (by omega))
  replace hlt3:=Nat.lt_of_lt_of_le hlt3 e'.size
  replace B3:=B3.ext e'
  refine aa ?_
  refine ifc hf rfl (fun _=>ak ?_) (fun h=>by cases h)
  refine seq ?_
  refine blk ?_
  repeat refine seq ?_
  refine ac 2 hf (by decide +kernel) ?_
  refine st (mv rfl) ?_
  refine st (mv rfl) ?_
  refine en fun a w e' hf=>?_
  replace hT:=hE _ _ k0
  replace k0:=hI _ _ _ k0 (Kp.ext e') (by omega) (fun x hx=>e'.block x (by omega))
  replace hlt3:=Nat.lt_of_lt_of_le hlt3 e'.size
  replace B3:=B3.ext e'
  clear e'
  refine ul hf rfl rfl (hy s k (bj (del T k)) w (by rw[hs,he]) k0 hlt3) fun u w2 hu=>?_
  rcases hu with ⟨rfl,kI,hsz,hrb⟩|⟨rfl,kX⟩
  ·replace hf:=(hf.pure w2).put (d:=some 20) (Ext.rfl' _) (by rintro _ ⟨⟩;decide) (A:=E (.bool true)) rfl
   dsimp only[push] at hf
   replace k0:=kI
   replace B3:Blk w2 W.heap.size (aM T) 56:=hrb.trans B3
   replace hlt3:=Nat.lt_of_lt_of_le hlt3 hsz
   clear kI hrb hT
   refine ar hf (by decide) (aS rfl) fun a w e' hf=>?_
   replace hT:=hE _ _ k0
   replace k0:=hI _ _ _ k0 (Kp.ext e') (by omega) (fun x hx=>e'.block x (by omega))
   replace hlt3:=Nat.lt_of_lt_of_le hlt3 e'.size
   replace B3:=B3.ext e'
   refine aa ?_
   refine ifc hf rfl (fun h=>by cases h) (fun _=>ak ?_)
   replace hf:=hf.kp [0,3,4]
   refine ac 2 hf (by decide +kernel) ?_
   refine st (ldW T56 rfl (by assumption) rfl) ?_
   refine st (mv rfl) ?_
   refine en fun a w e' hf=>?_
   replace hT:=hE _ _ k0
   replace k0:=hI _ _ _ k0 (Kp.ext e') (by omega) (fun x hx=>e'.block x (by omega))
   replace hlt3:=Nat.lt_of_lt_of_le hlt3 e'.size
   replace B3:=B3.ext e'
   clear e'
   refine ar hf (by decide) (ax rE rfl rfl (fun v u w' e' h h'=>by cases h;cases h';exact sI T k w')) fun a w e' hf=>?_
   replace hT:=hE _ _ k0
   replace k0:=hI _ _ _ k0 (Kp.ext e') (by omega) (fun x hx=>e'.block x (by omega))
   replace hlt3:=Nat.lt_of_lt_of_le hlt3 e'.size
   replace B3:=B3.ext e'
   clear e'
   refine aD T56 hf rfl rfl (bL _) B3 rfl (rfl) fun w hg hsz B3 hf=>?_
   replace hT:=hE _ _ k0
   replace k0:=hI _ _ _ k0 (Kp.gr hg ⟨hBW,hW3⟩) (by omega) (fun x hx=>hg.block x (by omega) (by simp;omega))
   replace hlt3:=Nat.lt_of_lt_of_le hlt3 hg.size
   clear hg
   refine aa ?_
   replace hf:=hf.kp [0,3]
   have hT:=hE _ _ k0
   refine ac 5 hf (by decide +kernel) ?_
   refine st (ldW T56 rfl (by assumption) rfl) ?_
   refine st (aw lW rfl (fun v w' e' h=>by cases h;exact nh _ w' (hT.ext e'))) ?_
   refine st (mv rfl) ?_
   refine st (aZ rfl rfl) ?_
   refine st (aZ rfl rfl) ?_
   refine en fun a w e' hf=>?_
   replace hT:=hE _ _ k0
   replace k0:=hI _ _ _ k0 (Kp.ext e') (by omega) (fun x hx=>e'.block x (by omega))
   replace hlt3:=Nat.lt_of_lt_of_le hlt3 e'.size
   replace B3:=B3.ext e'
   refine ae hf rfl (by decide) fun a hf=>?_
   refine ae hf rfl (by decide) fun a hf=>?_
   refine aa ?_
   replace hf:=hf.kp [0,3,4,5]
   refine⟨(bj (del T k)).length,by rw[hr,he];exact Nat.lt_succ_self _,del T k,s++[k],Eq.refl (bj (del T k)).length,by rw[hs,he,List.append_assoc];exact congrArg (s ++ ·) (List.singleton_append).symm,hf,k0,B3,hlt3⟩
  ·replace hf:=(hf.pure w2).put (d:=some 20) (Ext.rfl' _) (by rintro _ ⟨⟩;decide) (A:=E (.bool false)) rfl
   dsimp only[push] at hf
   refine ar hf (by decide) (aS rfl) fun a w e' hf=>?_
   replace kX:=hX _ _ kX e'
   refine aa ?_
   refine ifc hf rfl (fun _=>?_) (fun h=>by cases h)
   refine aj ?_
   simp only[Exit.then,Exit.inBlock]
   exact qu rfl hf ⟨rfl,.inr kX⟩
def Rd (J:List Nat→World→Prop)(X:Exit→World→Prop)(s:List Nat)(x B:Nat)(w3:World):Exit→Act→World→Prop
 | .normal,_,w=>J (s++[x]) w∧Kh B w3 w
 | .ret,_,w=>X .ret w∧Kh B w3 w
 | .exit id,_,w=>X (.exit id) w∧Kh B w3 w
 | _,_,_=>False

def jJ:Exit→Option Code
 | .ret=>some .ret
 | .exit id=>some (.exit id)
 | _=>none

section
variable {g:Operand}{p:Nat}{assign body:Code}{Q:Exit→Act→World→Prop}{n b:Nat}{ds:List Deferred}{a:Act}{w:World}{S:BS}{L:Env}{r:Option Nat}

theorem uq [dY L]{l:Nat}{mark:List Deferred}{df:Nat}{D:Option Nat}(hf:FrD n ds a w L)(hx:opd L g=some (E (fN b)))(hb:Blk w b (aM S) 56)(hp:p<n)
  (J:List Nat→World→Prop) (X:Exit→World→Prop)
  (henter:∀fn,∃W1,(Instr.enterLoop fn a.tmps #[p] assign body r).run Tryz.prog w=.ok (l,mark) W1∧W1.heap[l]?=some (.loop { state:=.ready,pending:=none,fn,tmps:=a.tmps,params := #[p],assign,body,defers:=df })∧Ext w W1 ∧
   W1.heap.size≤w.heap.size+2∧w.heap.size≤l∧∀d,D=some d→W1.heap[d]?=some (.deferred (some []))∧d≠l∧w.heap.size≤d)
  (hT:∀s w1,J s w1→Tab w1) (h0:J [] w)
  (hJ:∀s w1 w2,J s w1→w.heap.size≤w1.heap.size→Kp w.heap.size w1 w2→J s w2)
  (hX:∀e w1 w2,X e w1→w.heap.size≤w1.heap.size→Kp w.heap.size w1 w2→X e w2)
  (hbody:∀(l s x) (rest:List Nat) (a1:Act) (w1:World),bj S=s++x::rest→J s w1→w.heap.size<w1.heap.size→FrD n [] a1 w1 ((p,E (I (x:Nat)))::L) →
   assign.wpIn (FW (some l)) 0 Tryz.prog (Exit.then (fun a2 w2=>Kh w.heap.size w1 w2∧∀w3,Kp w.heap.size w2 w3→w3.heap.size=w2.heap.size→body.wpIn (FW (some l)) 0 Tryz.prog (Rd J X s x w.heap.size w3) a2 w3) (fun _ _ _=>False)) a1 w1)
  (hdone:∀a' w',FrD n (mark++ds) a' w' L→J (bj S) w'→w.heap.size≤w'.heap.size→(∀d,D=some d→w'.heap[d]?=some (.deferred (some [])))→Q .normal a' w')
  (hexit:∀e c a' w',jJ e=some c→FrD n (mark++ds) a' w' L→X e w'→w.heap.size≤w'.heap.size→(∀d,D=some d→w'.heap[d]?=some (.deferred (some [])))→Q e a' w') :
  (Code.rangeFunc g #[p] assign body).wpIn (FW r) 0 Tryz.prog Q a w:=by
 have hxv:a.eval g=fN b:=hf.opd g _ hx
 refine wpIn_rangeFunc fun fn _=>?_
 obtain⟨W1,hrun,hl,he,hsz,hwl,hD⟩:=henter fn
 have hlt:l<W1.heap.size:=(Array.getElem?_eq_some_iff.1 hl).1
 have hres:(resolve a.eval (rangeCall g l) 0).run Tryz.prog W1=.ok { target:=.fn (.func 91) #[.pointer (some ⟨b,0,none⟩)],args := #[.func (.yield l) #[] #[]] } W1:=by
  have hev:a.eval (.const (.func (.yield l) #[] #[]))=.func (.yield l) #[] #[]:=rfl
  simp[resolve,hxv,hev,fN,Deferred.ofValue]
 refine⟨l,mark,W1,_,W1,91,#[.func (.yield l) #[] #[],.pointer (some ⟨b,0,none⟩)],W1,hrun,hres,fun _ _=>trivial,?_,fun hd=>(by simp[FW] at hd),?_⟩
 ·exact rD _ W1
 generalize hrec:({ state:=.ready,pending:=none,fn,tmps:=a.tmps,params := #[p],assign,body,defers:=df }:Loop)=rec0 at hl
 have hhole:cA w.heap.size l:=⟨hwl,by omega⟩
 have hW3:∀x,x<W1.heap.size→w.heap.size≤x→cA w.heap.size x:=fun x h1 h2=>⟨h2,by omega⟩
 refine lh r ((um S l b w.heap.size W1
  (fun s w1=>J s w1∧W1.heap.size≤w1.heap.size∧w1.heap[l]?=some (.loop rec0)∧∀d,D=some d→w1.heap[d]?=some (.deferred (some [])))
  (fun w1=>∃e c,jJ e=some c∧X e w1∧W1.heap.size≤w1.heap.size∧w1.heap[l]?=some (.loop { rec0 with state:=.done,pending:=some c })∧∀d,D=some d→w1.heap[d]?=some (.deferred (some [])))
  ((hT [] w h0).ext he) (hb.ext he) hb.lt he.size (by omega) ⟨hJ [] w W1 h0 (Nat.le_refl _) (Kp.ext he),Nat.le_refl _,hl,fun d hd=>(hD d hd).1⟩ ?_ ?_ ?_ ?_).mono ?_)
 ·rintro s w1 w2 ⟨j1,j2,j3,j4⟩ k hsz1 hsame
  refine⟨hJ s w1 w2 j1 (Nat.le_trans he.size j2) k,Nat.le_trans j2 k.size,(hsame l hlt).trans j3,fun d hd=>(hsame d ?_).trans (j4 d hd)⟩
  exact (Array.getElem?_eq_some_iff.1 (hD d hd).1).1
 ·rintro w1 w2 ⟨e,c,x1,x2,x3,x4,x5⟩ k
  exact⟨e,c,x1,hX e w1 w2 x2 (Nat.le_trans he.size x3) (Kp.ext k),Nat.le_trans x3 k.size,(k.block l (by omega)).trans x4,fun d hd=>(k.block d (Array.getElem?_eq_some_iff.1 (x5 d hd)).1).trans (x5 d hd)⟩
 ·rintro s w1 ⟨j1,_⟩
  exact hT s w1 j1
 ·rintro s x rest w1 hs ⟨j1,j2,j3,j4⟩ hltW
  have hy:=run_yield (P:=Tryz.prog) (args := #[I (x:Nat)]) j3 (by subst hrec;rfl)
  have htm:(rec0.params.zip #[I (x:Nat)]).foldl (fun tmps (t,a)=>tmps.setIfInBounds t a) rec0.tmps=a.tmps.setIfInBounds p (I (x:Nat)):=by
   subst hrec;simp
  have hfn:rec0.assign=assign∧rec0.body=body∧rec0.fn=fn∧rec0.state=.ready:=by subst hrec;exact⟨rfl,rfl,rfl,rfl⟩
  rw[htm,hfn.1,hfn.2.1] at hy
  refine⟨_,_,_,_,hy,?_⟩
  have hf0:FrD n [] { tmps:=a.tmps,defers:=[] } w1 L:=⟨hf.size,rfl,fun t A ht=>dY.pu t A ht _ _ _ (hf.val t A ht)⟩
  have hf1:FrD n [] { tmps:=a.tmps.setIfInBounds p (I (x:Nat)),defers:=[] } w1 ((p,E (I (x:Nat)))::L):=
   hf0.put (d:=some p) (v:=I (x:Nat)) (A:=E (I (x:Nat))) (Ext.rfl' _) (fun k hk=>by cases hk;exact hp) rfl
  refine roundIn_of_wpIn (F:=Fence.wide) (n:=0) trivial ?_
  refine wpIn_mono (hbody l s x rest _ w1 hs j1 (by omega) hf1) fun e2 a2 w2 hq=>?_
  cases e2 with
  | normal=>
   obtain⟨kh,hb2⟩:=hq
   have j3':w2.heap[l]?=some (.loop rec0):=(kh.same l (by omega) hhole).trans j3
   refine⟨_,run_beginRound j3' hfn.2.2.2,?_⟩
   refine wpIn_mono (hb2 (w2.putObj l (.loop { rec0 with state:=.busy })) (Kp.put hhole) (by simp)) fun e3 a3 w3 hq3=>?_
   have hl2:l<w2.heap.size:=(Array.getElem?_eq_some_iff.1 j3').1
   have rec3:∀{w3:World},Kh w.heap.size (w2.putObj l (.loop { rec0 with state:=.busy })) w3→w3.heap[l]?=some (.loop { rec0 with state:=.busy }):=fun k=>
    (k.same l (by simpa using hl2) hhole).trans (World.putObj_heap_same hl2)
   have size3:∀{w3:World},Kh w.heap.size (w2.putObj l (.loop { rec0 with state:=.busy })) w3→w1.heap.size≤w3.heap.size:=fun k=>by
    have h1:=k.size
    have h2:=kh.size
    simp at h1
    omega
   have d3:∀{w3:World},Kh w.heap.size (w2.putObj l (.loop { rec0 with state:=.busy })) w3→∀o,∀d,D=some d→(w3.putObj l o).heap[d]?=some (.deferred (some [])):=fun {w3} k o d hd=>by
    have h1:=hD d hd
    have hdlt:d<w1.heap.size:=(Array.getElem?_eq_some_iff.1 (j4 d hd)).1
    have hdh:cA w.heap.size d:=hW3 d (Array.getElem?_eq_some_iff.1 h1.1).1 h1.2.2
    have hk2:=kh.size
    rw[World.putObj_heap_other h1.2.1,k.same d (by simp;omega) hdh,World.putObj_heap_other h1.2.1,kh.same d hdlt hdh]
    exact j4 d hd
   have rb3:∀{w3:World},Kh w.heap.size (w2.putObj l (.loop { rec0 with state:=.busy })) w3→∀o,(w3.putObj l o).heap[W1.heap.size]?=w1.heap[W1.heap.size]?:=fun {w3} k o=>by
    have hne:W1.heap.size≠l:=by omega
    have hr:cA w.heap.size W1.heap.size:=⟨he.size,by omega⟩
    have hk2:=kh.size
    rw[World.putObj_heap_other hne,k.same _ (by simp;omega) hr,World.putObj_heap_other hne,kh.same _ hltW hr]
   cases e3 with
   | normal=>
    obtain⟨q1,q2⟩:=hq3
    refine⟨_,_,run_endRound none (rec3 q2),_,rfl,.inl ⟨rfl,⟨hJ _ _ _ q1 (Nat.le_trans (Nat.le_trans he.size j2) (size3 q2)) (Kp.put hhole),?_,?_,d3 q2 _⟩,by simpa using size3 q2,rb3 q2 _⟩⟩
    ·have:=size3 q2;simp;omega
    ·rw[World.putObj_heap_same (Array.getElem?_eq_some_iff.1 (rec3 q2)).1]
     subst hrec
     rfl
   | ret=>
    obtain⟨q1,q2⟩:=hq3
    refine⟨_,_,run_endRound (some .ret) (rec3 q2),_,rfl,.inr ⟨rfl,.ret,.ret,rfl,hX _ _ _ q1 (Nat.le_trans (Nat.le_trans he.size j2) (size3 q2)) (Kp.put hhole),?_,?_,d3 q2 _⟩⟩
    ·have:=size3 q2;simp;omega
    ·rw[World.putObj_heap_same (Array.getElem?_eq_some_iff.1 (rec3 q2)).1]
     rfl
   | exit id=>
    obtain⟨q1,q2⟩:=hq3
    refine⟨_,_,run_endRound (some (.exit id)) (rec3 q2),_,rfl,.inr ⟨rfl,.exit id,.exit id,rfl,hX _ _ _ q1 (Nat.le_trans (Nat.le_trans he.size j2) (size3 q2)) (Kp.put hhole),?_,?_,d3 q2 _⟩⟩
    ·have:=size3 q2;simp;omega
    ·rw[World.putObj_heap_same (Array.getElem?_eq_some_iff.1 (rec3 q2)).1]
     rfl
   | goto t=>exact hq3.elim
   | panic c=>exact hq3.elim
   | outgrown=>exact hq3.elim
  | _=>exact hq.elim
 ·rintro e w2 ⟨rfl,h|h⟩
  ·obtain⟨j1,j2,j3,j4⟩:=h
   refine⟨none,w2.putObj l (.loop { rec0 with state:=.exhausted }),?_,hdone _ _ (⟨hf.size,by simp[hf.defers],fun t A ht=>dY.pu t A ht _ _ _ (hf.val t A ht)⟩) (hJ _ _ _ j1 (Nat.le_trans he.size j2) (Kp.put hhole)) ?_ ?_⟩
   ·have:=run_endLoop (P:=Tryz.prog) j3 (by subst hrec;simp)
    subst hrec
    exact this
   ·have:=he.size;simp;omega
   ·intro d hd
    rw[World.putObj_heap_other (hD d hd).2.1]
    exact j4 d hd
  ·obtain⟨ex,c,x1,x2,x3,x4,x5⟩:=h
   refine⟨some c,_,run_endLoop (P:=Tryz.prog) x4 (by simp),?_⟩
   have hQ:=hexit ex c { a with defers:=mark++a.defers } (w2.putObj l (.loop { rec0 with state:=.exhausted,pending:=some c })) x1 (⟨hf.size,by simp[hf.defers],fun t A ht=>dY.pu t A ht _ _ _ (hf.val t A ht)⟩)
    (hX _ _ _ x2 (Nat.le_trans he.size x3) (Kp.put hhole)) (by have:=he.size;simp;omega) (fun d hd=>by
     rw[World.putObj_heap_other (hD d hd).2.1]
     exact x5 d hd)
   cases ex with
   | ret=>cases x1;exact wpIn_ret hQ
   | exit id=>cases x1;exact wpIn_exit hQ
   | _=>cases x1
theorem ut [dY L](hf:FrD n ds a w L)(hx:opd L g=some (E (fN b)))(hb:Blk w b (aM S) 56)(hp:p<n)
  (J:List Nat→World→Prop) (X:Exit→World→Prop)
  (hT:∀s w1,J s w1→Tab w1) (h0:J [] w)
  (hJ:∀s w1 w2,J s w1→w.heap.size≤w1.heap.size→Kp w.heap.size w1 w2→J s w2)
  (hX:∀e w1 w2,X e w1→w.heap.size≤w1.heap.size→Kp w.heap.size w1 w2→X e w2)
  (hbody:∀(l s x) (rest:List Nat) (a1:Act) (w1:World),bj S=s++x::rest→J s w1→w.heap.size<w1.heap.size→FrD n [] a1 w1 ((p,E (I (x:Nat)))::L) →
   assign.wpIn (FW (some l)) 0 Tryz.prog (Exit.then (fun a2 w2=>Kh w.heap.size w1 w2∧∀w3,Kp w.heap.size w2 w3→w3.heap.size=w2.heap.size→body.wpIn (FW (some l)) 0 Tryz.prog (Rd J X s x w.heap.size w3) a2 w3) (fun _ _ _=>False)) a1 w1)
  (hdone:∀a' w',FrD n ({ target:=.collected w.heap.size,args := #[] }::ds) a' w' L→J (bj S) w'→w.heap.size≤w'.heap.size→w'.heap[w.heap.size]?=some (.deferred (some []))→Q .normal a' w')
  (hexit:∀e c a' w',jJ e=some c→FrD n ({ target:=.collected w.heap.size,args := #[] }::ds) a' w' L→X e w'→w.heap.size≤w'.heap.size→w'.heap[w.heap.size]?=some (.deferred (some []))→Q e a' w') :
  (Code.rangeFunc g #[p] assign body).wpIn (FW none) 0 Tryz.prog Q a w:=by
 refine uq (l:=w.heap.size+1) (mark:=[{ target:=.collected w.heap.size,args := #[] }]) (df:=w.heap.size) (D:=some w.heap.size) hf hx hb hp J X ?_ hT h0 hJ hX hbody
  (fun a' w' h1 h2 h3 h4=>hdone a' w' h1 h2 h3 (h4 _ rfl)) (fun e c a' w' h1 h2 h3 h4 h5=>hexit e c a' w' h1 h2 h3 h4 (h5 _ rfl))
 intro fn
 refine⟨_,run_enterLoop_outer fn a.tmps #[p] assign body,?_,?_,?_,by omega,?_⟩
 ·have:=World.alloc_heap_new (w.alloc (.deferred (some []))) (.loop { state:=.ready,pending:=none,fn,tmps:=a.tmps,params := #[p],assign,body,defers:=w.heap.size })
  rwa [World.size_alloc] at this
 ·exact Ext.tr (cy w _) (cy _ _)
 ·simp
 ·rintro d hd
  cases hd
  refine⟨?_,by omega,Nat.le_refl _⟩
  rw[Below.heap_alloc _ _ _ (by simp)]
  exact World.alloc_heap_new w _
theorem uu {f:FuncId}{fn:Func}{c:Code}{n:Nat}{args:List Value}{As:List VA}{w:World}{R:Ending→World→Prop}(hf:Tryz.prog.funcs[f]?=some fn)(hb:fn.body=some c)(hn:fn.ntmps=n)(hl:args.length≤n)
  (hA:∀(i:Nat) (A:VA),As[i]?=some A→A.p (args.getD i undef) w) (h:∀a,Fr n a w (params 0 As)→c.wpIn (FW none) 0 Tryz.prog (bodyPostM (FW none) 0 Tryz.prog fn R) a w) (hlen:As.length≤args.length):Calls Tryz.prog f args.toArray w R:=by
 refine (callsIn_wide (n:=0)).1 (callsIn_of_wp_marks (F:=Fence.wide) hf hb trivial (h _ ⟨?_,rfl,fun t A ht=>?_⟩))
 ·simp[hn];omega
 ·obtain⟨_,h2⟩:=iL As 0 t A ht
  rw[Nat.sub_zero] at h2
  have hlt:t<As.length:=(List.getElem?_eq_some_iff.1 h2).1
  have:=hA t A h2
  have e:(args.toArray++Array.replicate (fn.ntmps - args.toArray.size) undef).getD t undef=args.getD t undef:=by
   have:t<args.length:=by omega
   simp[Array.getElem?_append,this]
  simp only[Act.eval,e]
  exact this
def uv (l:List Nat):List Deferred:=l.map fun D=>{ target:=.collected D,args := #[] }
def Ds (l:List Nat)(w:World):Prop:=l.Nodup∧∀D∈l,w.heap[D]?=some (.deferred (some []))
def shut:List Nat→World→World
 | [],w=>w
 | D::l,w=>shut l (w.putObj D (.deferred none))
theorem ip:∀(l:List Nat) (w:World) (b:Nat),b ∉ l→(shut l w).heap[b]?=w.heap[b]?
 | [],w,b,_=>rfl
 | D::l,w,b,h=>by
  rw[shut,ip l _ b (fun h'=>h (by simp[h'])),World.putObj_heap_other (fun e=>h (by simp[e]))]
theorem jK:∀(l:List Nat) (w:World),(shut l w).os=w.os∧(shut l w).tape=w.tape∧(shut l w).output=w.output∧(shut l w).heap.size=w.heap.size
 | [],w=>⟨rfl,rfl,rfl,rfl⟩
 | D::l,w=>by
  obtain⟨h1,h2,h3,h4⟩:=jK l (w.putObj D (.deferred none))
  exact⟨h1,h2,h3,by rw[shut,h4];simp⟩
theorem Ext.shut {W w:World}{l:List Nat}(e:Ext W w)(h:∀D∈l,W.heap.size≤D):Ext W (Mono.shut l w):=by
 obtain⟨h1,h2,h3,h4⟩:=jK l w
 exact Below.trans e ⟨h1,h2,h3,by rw[h4];exact Nat.le_refl _,fun b hb=>ip l w b (fun hm=>by have:=h b hm;omega)⟩
theorem nH {fn:Func}{tmps:Array Value}{R:Ending→World→Prop}{v:Value}:∀(l:List Nat) (w:World),Ds l w→(results fn tmps).run Tryz.prog (shut l w)=.ok v (shut l w)→R (.returned v) (shut l w) →
  LeavesInM (FW none) 0 Tryz.prog fn tmps R (uv l) .returning w
 | [],w,_,hr,hR=>⟨v,hr,hR⟩
 | D::l,w,hD,hr,hR=>by
  have h1:=hD.2 D (by simp)
  have hnd:=List.nodup_cons.1 hD.1
  refine⟨by simp,.inl ⟨D,_,rfl,run_takeDeferred h1,nH l _ ⟨hnd.2,fun d hd=>?_⟩ hr hR⟩⟩
  rw[World.putObj_heap_other (fun e=>by subst e;exact hnd.1 hd)]
  exact hD.2 d (by simp[hd])
end

theorem Kp.chg {B:Nat}{w w':World}(k:Kp B w w'):Chg (cA B) w w':=⟨k.os,k.tape,k.output,k.size,fun b hb hh=>k.same b hb hh⟩
theorem uw (l:List Nat)(w:World):Chg (fun c=>c∈l) w (shut l w):=by
 obtain⟨h1,h2,h3,h4⟩:=jK l w
 exact⟨h1,h2,h3,by rw[h4];exact Nat.le_refl _,fun b hb hS=>ip l w b hS⟩
theorem Tab.gr {w w':World}{b:Nat}(h:Tab w)(hg:w.grownBy w' (some b))(hb:0<b):Tab w':=fun i hi=>(World.cell?_of_block (hg.block 0 h.lt (by simp;omega))).trans (h i hi)
instance {w w':World}{b:Nat}:Gg b w w' (Tab w) (0<b) (Tab w'):=⟨fun g s h=>h.gr g s⟩
theorem Tab.ch {w w':World}{S:Nat→Prop}(h:Tab w)(c:Chg S w w')(hS:¬S 0):Tab w':=fun i hi=>(World.cell?_of_block (c.block 0 h.lt hS)).trans (h i hi)
theorem Tab.gro {w w':World}{row:Option Nat}(h:Tab w)(hg:w.grownBy w' row)(hb:∀b,row=some b→0<b):Tab w':=fun i hi=>(World.cell?_of_block (hg.block 0 h.lt (fun e=>by have:=hb 0 e.symm;omega))).trans (h i hi)
theorem Dv.gro {α:Type}{e:Enc α}{G:Nat→Prop}{x:α}{v:Value}{w w':World}{row:Option Nat}(h:(Dv e G x).p v w)(hg:w.grownBy w' row)(hG:∀b,row=some b→G b):(Dv e G x).p v w':=by
 obtain⟨cs,h1,h2⟩:=h
 exact⟨cs,Enc.gro h1 hg hG,h2⟩
theorem Kh.gro {B:Nat}{w w':World}{row:Option Nat}(hg:w.grownBy w' row)(h:∀b,row=some b→¬cA B b):Kh B w w':=⟨hg.size,fun x hx hh=>hg.block x hx (fun e=>h x e.symm hh)⟩
theorem Chg.tr2 {S T:Nat→Prop}{W w w':World}(h:Chg S W w)(k:Chg T w w')(hT:∀b,T b→S b∨W.heap.size≤b):Chg S W w':=
 ⟨k.os.trans h.os,k.tape.trans h.tape,k.output.trans h.output,Nat.le_trans h.size k.size,fun b hb hS=>(k.block b (Nat.lt_of_lt_of_le hb h.size) (fun ht=>(hT b ht).elim hS (fun h=>by omega))).trans (h.block b hb hS)⟩

theorem nI {S:BS}{y:Int}:y∈(bj S).map (fun i:Nat=>(i:Int))↔has S y=true:=by
 rw[has,Bool.and_eq_true,cp,List.mem_map]
 constructor
 ·rintro⟨i,h,rfl⟩
  have:=jI.1 h
  exact⟨⟨by omega,by omega⟩,by simpa using this.2⟩
 ·rintro⟨⟨h1,h2⟩,h3⟩
  exact⟨y.toNat,jI.2 ⟨by omega,h3⟩,by omega⟩
theorem nJ (S:BS):(bj S).length≤1024:=by
 have:=List.length_filter_le (fun i=>S.getLsbD i) (List.range 1024)
 simpa[bj] using this

theorem ux (S:BS)(n:Int)(k:Nat)(hk:k<1024):(ins S n).getLsbD k=(S.getLsbD k || decide (n=(k:Int))):=by
 unfold ins
 by_cases hf:bQ n=true
 ·have h:=cp.1 hf
  rw[if_pos hf,BitVec.getLsbD_or,jl _ _ (by omega)]
  congr 1
  rw[decide_eq_decide];omega
 ·rw[if_neg hf]
  have:¬n=(k:Int):=fun h=>hf (cp.2 (by omega))
  simp[this]
theorem nL (k:Nat)(hk:k<1024):∀(l:List Int) (S:BS),(l.foldl ins S).getLsbD k=(S.getLsbD k || decide ((k:Int)∈l))
 | [],S=>by simp
 | x::l,S=>by
  rw[List.foldl_cons,nL k hk l,ux _ _ _ hk,Bool.or_assoc]
  congr 1
  by_cases h1:x=(k:Int)
  ·simp[h1]
  ·have:¬(k:Int)=x:=Ne.symm h1
   simp[h1,this]
theorem Ds.ne {D:List Nat}{w:World}(h:Ds D w){b:Nat}{cs:Array Value}{t:TypeId}(hb:Blk w b cs t):¬b∈D:=fun hm=>by
 have h1:=h.2 b hm
 unfold Blk at hb
 rw[hb] at h1
 cases h1
theorem Ds.lt {D:List Nat}{w:World}(h:Ds D w){b:Nat}(hm:b∈D):b<w.heap.size:=(Array.getElem?_eq_some_iff.1 (h.2 b hm)).1
theorem Ds.ch {D:List Nat}{w w':World}{S:Nat→Prop}(h:Ds D w)(c:Chg S w w')(hS:∀d∈D,¬S d):Ds D w':=⟨h.1,fun d hd=>(c.block d (h.lt hd) (hS d hd)).trans (h.2 d hd)⟩
theorem Ds.ext {D:List Nat}{w w':World}(h:Ds D w)(e:Ext w w'):Ds D w':=⟨h.1,fun d hd=>(e.block d (h.lt hd)).trans (h.2 d hd)⟩
instance {D:List Nat}{w w':World}:Ug w w' (Ds D w) (Ds D w'):=⟨fun e h=>h.ext e⟩
theorem Ds.gr {D:List Nat}{w w':World}{b:Nat}(h:Ds D w)(hg:w.grownBy w' (some b))(hb:¬b∈D):Ds D w':=⟨h.1,fun d hd=>(hg.block d (h.lt hd) (fun he=>hb (by cases he;exact hd))).trans (h.2 d hd)⟩
theorem Ds.nil (w:World):Ds [] w:=⟨List.nodup_nil,fun d hd=>by cases hd⟩
theorem Ds.cons {D:List Nat}{w:World}{d:Nat}(h:Ds D w)(hd:w.heap[d]?=some (.deferred (some [])))(hn:¬d∈D):Ds (d::D) w:=
 ⟨List.nodup_cons.2 ⟨hn,h.1⟩,fun x hx=>by rcases List.mem_cons.1 hx with rfl|hx;exact hd;exact h.2 x hx⟩
theorem Blk.shut {w:World}{b:Nat}{cs:Array Value}{t:TypeId}{D:List Nat}(h:Blk w b cs t)(hb:¬b∈D):Blk (shut D w) b cs t:=(ip D w b hb).trans h
end Go.Mono
namespace Go.Mono
open Go Go.Proofs Go.RowKit Go.Gr
def cB (l:List VT)(n:Int):Int:=match l.findIdx? (fun y=>decide (y.1=n)) with
 | some i=>(i:Int)
 | none => -1
def fg (y:ET)(u v:Int):Bool:=(y.1.1==u&&y.1.2==v) || (y.1.1==v&&y.1.2==u)
def ci (l:List ET)(u v:Int):Int:=match l.findIdx? (fun y=>fg y u v) with
 | some i=>(i:Int)
 | none => -1
theorem nM {α:Type}{p:α→Bool}{l:List α}{k:Nat}{x:α}(h:∀y∈l.take k,p y=false)(hx:l[k]?=some x)(hp:p x=true):l.findIdx? p=some k:=by
 rw[List.findIdx?_eq_some_iff_getElem]
 obtain⟨hk,rfl⟩:=List.getElem?_eq_some_iff.1 hx
 refine⟨hk,hp,fun j hj=>?_⟩
 have:=h (l[j]'(by omega)) (by rw[List.mem_take_iff_getElem];exact⟨j,by omega,rfl⟩)
 simp[this]
theorem nN {α:Type}{p:α→Bool}{l:List α}(h:∀y∈l.take l.length,p y=false):l.findIdx? p=none:=by
 rw[List.findIdx?_eq_none_iff]
 intro y hy
 rw[List.take_length] at h
 simp[h y hy]
theorem fO {α:Type}{p:α→Bool}{l:List α}{k:Nat}{x:α}(h:∀y∈l.take k,p y=false)(hx:l[k]?=some x)(hp:p x=false):∀y∈l.take (k+1),p y=false:=by
 rw[cG hx]
 intro y hy
 rcases List.mem_append.1 hy with h1|h1
 ·exact h y h1
 ·rw[List.mem_singleton] at h1;rw[h1];exact hp
theorem uy {G:Nat→Prop}(g:GT)(n:Int)(v:Value)(W:World)(h:(Dv gtE G g).p v W)(hl:g.1.length≤100000) :
  Calls Tryz.prog 99 #[v,I n] W (Post (E (I (cB g.1 n))) W):=by
 refine enter (args:=[v,I n]) (As:=[Dv gtE G0 g,E (I n)]) Tryz.func99 rfl Tryz.ntmps99 (Nat.le_of_ble_eq_true rfl) ?_ (fun a hf=>?_) (Nat.le_of_ble_eq_true rfl)
 rotate_left
 dsimp only[params,Nat.reduceAdd] at hf
 rotate_right
 ·exact arg2 (Dv.weak h fun b _ hb=>hb.elim) rfl
 have e:=Ext.rfl' W
 refine seq ?_
 refine ah ?_
 refine dr hf rfl (by decide) (fun _ h=>h.elim) fun a w e' hf=>?_
 replace e:=e.tr e'
 refine ae hf rfl (by decide) fun a hf=>?_
 refine aa ?_
 repeat refine seq ?_
 refine ah ?_
 refine ae hf rfl (by decide) fun a hf=>?_
 refine aa ?_
 replace hf:=hf.kp [1,2,4,5]
 refine blk (aG (fun r0 a w=>∃(k:Nat) ,r0=g.1.length - k∧k≤g.1.length∧Fr 22 a w [(1,E (I n)),(2,Dv (ptE gtE) G0 (some g)),(4,E (I 0)),(5,E (I k))]∧Ext W w∧(∀y∈g.1.take k,decide (y.1=n)=false)) g.1.length ⟨0,rfl,by omega,hf,e,(by simp)⟩ ?_)
 clear hf e;try clear hn
 rintro r0 a w ⟨k,rfl,hk,hf,e,hn⟩
 repeat refine seq ?_
 refine ac 5 hf (by decide +kernel) ?_
 refine st (mv rfl) ?_
 refine st (am U36 rfl T33 (by decide) (Fld.fst Fld.refl) (isR rfl)) ?_
 refine st (ldD T33 (isR rfl)) ?_
 refine st (ay U33 (isR rfl)) ?_
 refine st (lss rfl rfl) ?_
 refine en fun a w e' hf=>?_
 replace e:=e.tr e'
 refine aa ?_
 refine ifc hf rfl (fun hc=>ak ?_) (fun hc=>aF ?_)
 rotate_left
 rotate_left
 ·have hlt:k<g.1.length:=by have:=of_decide_eq_true hc;(try dsimp only at this);omega
  clear hc
  replace hf:=hf.kp [1,2,4,5]
  refine seq ?_
  refine blk ?_
  have hg:=List.getElem?_eq_getElem hlt
  generalize g.1[k]=x at hg
  refine seq ?_
  refine ac 8 hf (by decide +kernel) ?_
  refine st (am U36 rfl T33 (by decide) (Fld.fst Fld.refl) (isR rfl)) ?_
  refine st (ldD T33 (isR rfl)) ?_
  refine st (mv rfl) ?_
  refine st (az U33 S73 (isR rfl) rfl (by omega) (hg)) ?_
  refine st (am U73 rfl T3 (by decide) (Fld.fst Fld.refl) (isR rfl)) ?_
  refine st (ldI T3 (isR rfl)) ?_
  refine st (mv rfl) ?_
  refine st (eql rfl rfl) ?_
  refine en fun a w e' hf=>?_
  replace e:=e.tr e'
  refine aa ?_
  refine ifc hf rfl (fun hb=>?_) (fun hb=>?_)
  ·refine seq ?_
   refine ac 1 hf (by decide +kernel) ?_
   refine st (mv rfl) ?_
   refine en fun a w e' hf=>?_
   replace e:=e.tr e'
   refine ae hf rfl (by decide) fun a hf=>?_
   refine aa ?_
   refine aj ?_
   simp only[Exit.then,Exit.inBlock]
   refine al rfl hf rfl ?_
   rintro _ rfl
   exact⟨_,rfl,e,(congrArg I (by rw[cB,nM hn hg (by simpa using hb)]))⟩
  ·refine ak ?_
   simp only[Exit.then,Exit.inBlock,↓reduceIte]
   refine ac 2 hf (by decide +kernel) ?_
   refine st (mv rfl) ?_
   refine st ((add rfl rfl (by omega)).eq (congrArg (Value.int .i64) (show (k:Int)+1=((k+1:Nat):Int) from rfl))) ?_
   refine en fun a w e' hf=>?_
   replace e:=e.tr e'
   refine ae hf rfl (by decide) fun a hf=>?_
   refine aa ?_
   replace hf:=hf.kp [1,2,4,5]
   refine⟨_,?_,k+1,rfl,by omega,hf,e,?_⟩
   ·omega
   exact fO hn hg (by simpa using hb)
 ·obtain rfl:k=g.1.length:=by have:=of_decide_eq_false hc;(try dsimp only at this);omega
  clear hc
  simp only[Exit.then,Exit.inBlock,↓reduceIte]
  refine seq ?_
  refine ah ?_
  refine ae hf rfl (by decide) fun a hf=>?_
  refine aa ?_
  refine aj ?_
  refine al rfl hf rfl ?_
  rintro _ rfl
  exact⟨_,rfl,e,(congrArg I (by rw[cB,nN hn]))⟩
theorem nO {G:Nat→Prop}(g:GT)(m n:Int)(v:Value)(W:World)(h:(Dv gtE G g).p v W)(hl:g.2.length≤100000) :
  Calls Tryz.prog 64 #[v,I m,I n] W (Post (E (I (ci g.2 m n))) W):=by
 refine enter (args:=[v,I m,I n]) (As:=[Dv gtE G0 g,E (I m),E (I n)]) Tryz.func64 rfl Tryz.ntmps64 (Nat.le_of_ble_eq_true rfl) ?_ (fun a hf=>?_) (Nat.le_of_ble_eq_true rfl)
 rotate_left
 dsimp only[params,Nat.reduceAdd] at hf
 rotate_right
 ·exact eo (Dv.weak h fun b _ hb=>hb.elim) rfl rfl
 have e:=Ext.rfl' W
 refine seq ?_
 refine ah ?_
 refine dr hf rfl (by decide) (fun _ h=>h.elim) fun a w e' hf=>?_
 replace e:=e.tr e'
 refine ae hf rfl (by decide) fun a hf=>?_
 refine aa ?_
 repeat refine seq ?_
 refine ah ?_
 refine ae hf rfl (by decide) fun a hf=>?_
 refine aa ?_
 replace hf:=hf.kp [1,2,3,6,7]
 refine blk (aG (fun r0 a w=>∃(k:Nat) ,r0=g.2.length - k∧k≤g.2.length∧Fr 54 a w [(1,E (I m)),(2,E (I n)),(3,Dv (ptE gtE) G0 (some g)),(6,E (I 0)),(7,E (I k))]∧Ext W w∧(∀y∈g.2.take k,fg y m n=false)) g.2.length ⟨0,rfl,by omega,hf,e,(by simp)⟩ ?_)
 clear hf e;try clear hn
 rintro r0 a w ⟨k,rfl,hk,hf,e,hn⟩
 repeat refine seq ?_
 refine ac 5 hf (by decide +kernel) ?_
 refine st (mv rfl) ?_
 refine st (am U36 rfl T34 (by decide) (Fld.snd Fld.refl rfl) (isR rfl)) ?_
 refine st (ldD T34 (isR rfl)) ?_
 refine st (ay U34 (isR rfl)) ?_
 refine st (lss rfl rfl) ?_
 refine en fun a w e' hf=>?_
 replace e:=e.tr e'
 refine aa ?_
 refine ifc hf rfl (fun hc=>ak ?_) (fun hc=>aF ?_)
 rotate_left
 rotate_left
 ·have hlt:k<g.2.length:=by have:=of_decide_eq_true hc;(try dsimp only at this);omega
  clear hc
  replace hf:=hf.kp [1,2,3,6,7]
  refine seq ?_
  refine blk ?_
  have hg:=List.getElem?_eq_getElem hlt
  generalize g.2[k]=x at hg
  refine seq ?_
  refine ac 38 hf (by decide +kernel) ?_
  refine st (am U36 rfl T34 (by decide) (Fld.snd Fld.refl rfl) (isR rfl)) ?_
  refine st (ldD T34 (isR rfl)) ?_
  refine st (mv rfl) ?_
  refine st (az U34 S76 (isR rfl) rfl (by omega) (hg)) ?_
  refine st (am U76 rfl T3 (by decide) (Fld.fst (Fld.fst Fld.refl)) (isR rfl)) ?_
  refine st (ldI T3 (isR rfl)) ?_
  refine st (mv rfl) ?_
  refine st (eql rfl rfl) ?_
  refine st (mv rfl) ?_
  refine sgE rfl rfl (.k 3 rfl .n) (fun hgd=>am U36 rfl T34 (by decide) (Fld.snd Fld.refl rfl) (isR rfl)) ?_
  refine sgE rfl rfl (.c 24 rfl (fun h=>h) .n) (fun hgd=>ldD T34 (isR rfl)) ?_
  refine sgE rfl rfl (.k 7 rfl .n) (fun hgd=>mv rfl) ?_
  refine sgE rfl rfl (.c 25 rfl (fun h=>h) (.c 26 rfl (fun h=>h) .n)) (fun hgd=>az U34 S76 (isR rfl) rfl rfl (hg)) ?_
  refine sgE rfl rfl (.c 27 rfl (fun h=>h) .n) (fun hgd=>am U76 rfl T3 (by decide) (Fld.fst (Fld.snd Fld.refl rfl)) (isR rfl)) ?_
  refine sgE rfl rfl (.c 28 rfl (fun h=>h) .n) (fun hgd=>ldI T3 (isR rfl)) ?_
  refine sgE rfl rfl (.k 2 rfl .n) (fun hgd=>mv rfl) ?_
  refine sgE rfl rfl (.c 29 rfl (fun h=>h) (.c 30 rfl (fun h=>h) .n)) (fun hgd=>eql rfl rfl) ?_
  refine st (aW rfl rfl (fun h=>by rw[h];rfl)) ?_
  refine st (mv rfl) ?_
  refine sgE rfl rfl (.k 3 rfl .n) (fun hgd=>am U36 rfl T34 (by decide) (Fld.snd Fld.refl rfl) (isR rfl)) ?_
  refine sgE rfl rfl (.c 34 rfl (fun h=>h) .n) (fun hgd=>ldD T34 (isR rfl)) ?_
  refine sgE rfl rfl (.k 7 rfl .n) (fun hgd=>mv rfl) ?_
  refine sgE rfl rfl (.c 35 rfl (fun h=>h) (.c 36 rfl (fun h=>h) .n)) (fun hgd=>az U34 S76 (isR rfl) rfl rfl (hg)) ?_
  refine sgE rfl rfl (.c 37 rfl (fun h=>h) .n) (fun hgd=>am U76 rfl T3 (by decide) (Fld.fst (Fld.fst Fld.refl)) (isR rfl)) ?_
  refine sgE rfl rfl (.c 38 rfl (fun h=>h) .n) (fun hgd=>ldI T3 (isR rfl)) ?_
  refine sgE rfl rfl (.k 2 rfl .n) (fun hgd=>mv rfl) ?_
  refine sgE rfl rfl (.c 39 rfl (fun h=>h) (.c 40 rfl (fun h=>h) .n)) (fun hgd=>eql rfl rfl) ?_
  refine sgE rfl rfl (.c 41 rfl (fun h=>h) .n) (fun hgd=>mv rfl) ?_
  refine sgC rfl rfl (.k 3 rfl .n) (fun hgd=>am U36 rfl T34 (by decide) (Fld.snd Fld.refl rfl) (isR rfl)) ?_
  refine sgC rfl rfl (.c 43 rfl (fun h=>h) .n) (fun hgd=>ldD T34 (isR rfl)) ?_
  refine sgC rfl rfl (.k 7 rfl .n) (fun hgd=>mv rfl) ?_
  refine sgC rfl rfl (.c 44 rfl (fun h=>h) (.c 45 rfl (fun h=>h) .n)) (fun hgd=>az U34 S76 (isR rfl) rfl rfl (hg)) ?_
  refine sgC rfl rfl (.c 46 rfl (fun h=>h) .n) (fun hgd=>am U76 rfl T3 (by decide) (Fld.fst (Fld.snd Fld.refl rfl)) (isR rfl)) ?_
  refine sgC rfl rfl (.c 47 rfl (fun h=>h) .n) (fun hgd=>ldI T3 (isR rfl)) ?_
  refine sgC rfl rfl (.k 1 rfl .n) (fun hgd=>mv rfl) ?_
  refine sgC rfl rfl (.c 48 rfl (fun h=>h) (.c 49 rfl (fun h=>h) .n)) (fun hgd=>eql rfl rfl) ?_
  refine sgE rfl rfl (.c 42 rfl (fun h=>h) (.k 50 rfl .n)) (fun hgd=>aW rfl rfl (fun h=>by rw[hgd,h];rfl)) ?_
  refine st (aY rfl rfl (fun h=>by rw[h];rfl)) ?_
  refine en fun a w e' hf=>?_
  replace e:=e.tr e'
  refine aa ?_
  refine ifc hf rfl (fun hb=>?_) (fun hb=>?_)
  ·refine seq ?_
   refine ac 1 hf (by decide +kernel) ?_
   refine st (mv rfl) ?_
   refine en fun a w e' hf=>?_
   replace e:=e.tr e'
   refine ae hf rfl (by decide) fun a hf=>?_
   refine aa ?_
   refine aj ?_
   simp only[Exit.then,Exit.inBlock]
   refine al rfl hf rfl ?_
   rintro _ rfl
   exact⟨_,rfl,e,(congrArg I (by rw[ci,nM hn hg hb]))⟩
  ·refine ak ?_
   simp only[Exit.then,Exit.inBlock,↓reduceIte]
   refine ac 2 hf (by decide +kernel) ?_
   refine st (mv rfl) ?_
   refine st ((add rfl rfl (by omega)).eq (congrArg (Value.int .i64) (show (k:Int)+1=((k+1:Nat):Int) from rfl))) ?_
   refine en fun a w e' hf=>?_
   replace e:=e.tr e'
   refine ae hf rfl (by decide) fun a hf=>?_
   refine aa ?_
   replace hf:=hf.kp [1,2,3,6,7]
   refine⟨_,?_,k+1,rfl,by omega,hf,e,?_⟩
   ·omega
   exact fO hn hg hb
 ·obtain rfl:k=g.2.length:=by have:=of_decide_eq_false hc;(try dsimp only at this);omega
  clear hc
  simp only[Exit.then,Exit.inBlock,↓reduceIte]
  refine seq ?_
  refine ah ?_
  refine ae hf rfl (by decide) fun a hf=>?_
  refine aa ?_
  refine aj ?_
  refine al rfl hf rfl ?_
  rintro _ rfl
  exact⟨_,rfl,e,(congrArg I (by rw[ci,nN hn]))⟩
theorem nP (d:DT)(W:World):Calls Tryz.prog 63 #[dtV d] W (Post (E (.bool (Gr.pairs d.1))) W):=by
 refine enter (args:=[dtV d]) (As:=[Dv dtE G0 d]) Tryz.func63 rfl Tryz.ntmps63 (Nat.le_of_ble_eq_true rfl) ?_ (fun a hf=>?_) (Nat.le_of_ble_eq_true rfl)
 rotate_left
 dsimp only[params,Nat.reduceAdd] at hf
 rotate_right
 ·exact arg1 (Dv.dt.2 rfl)
 have e:=Ext.rfl' W
 refine seq ?_
 refine ah ?_
 refine dr hf rfl (by decide) (fun _ h=>h.elim) fun a w e' hf=>?_
 replace e:=e.tr e'
 refine ae hf rfl (by decide) fun a hf=>?_
 refine aa ?_
 refine seq ?_
 refine ac 18 hf (by decide +kernel) ?_
 refine st (am U45 rfl T3 (by decide) (Fld.fst Fld.refl) (isR rfl)) ?_
 refine st (ldI T3 (isR rfl)) ?_
 refine st (eql rfl rfl) ?_
 refine st (mv rfl) ?_
 refine sgE rfl rfl (.k 1 rfl .n) (fun hgd=>am U45 rfl T3 (by decide) (Fld.fst Fld.refl) (isR rfl)) ?_
 refine sgE rfl rfl (.c 7 rfl (fun h=>h) .n) (fun hgd=>ldI T3 (isR rfl)) ?_
 refine sgE rfl rfl (.c 8 rfl (fun h=>h) .n) (fun hgd=>eql rfl rfl) ?_
 refine st (aY rfl rfl (fun h=>by rw[h];rfl)) ?_
 refine st (mv rfl) ?_
 refine sgE rfl rfl (.k 1 rfl .n) (fun hgd=>am U45 rfl T3 (by decide) (Fld.fst Fld.refl) (isR rfl)) ?_
 refine sgE rfl rfl (.c 12 rfl (fun h=>h) .n) (fun hgd=>ldI T3 (isR rfl)) ?_
 refine sgE rfl rfl (.c 13 rfl (fun h=>h) .n) (fun hgd=>eql rfl rfl) ?_
 refine st (aY rfl rfl (fun h=>by rw[h];rfl)) ?_
 refine st (mv rfl) ?_
 refine sgE rfl rfl (.k 1 rfl .n) (fun hgd=>am U45 rfl T3 (by decide) (Fld.fst Fld.refl) (isR rfl)) ?_
 refine sgE rfl rfl (.c 17 rfl (fun h=>h) .n) (fun hgd=>ldI T3 (isR rfl)) ?_
 refine sgE rfl rfl (.c 18 rfl (fun h=>h) .n) (fun hgd=>eql rfl rfl) ?_
 refine st (aY rfl rfl (fun h=>by rw[h];rfl)) ?_
 refine en fun a w e' hf=>?_
 replace e:=e.tr e'
 refine ae hf rfl (by decide) fun a hf=>?_
 refine aa ?_
 refine aj ?_
 refine al rfl hf rfl ?_
 rintro _ rfl
 exact⟨_,rfl,e,rfl⟩
theorem uz (d:DT)(W:World):Calls Tryz.prog 98 #[dtV d] W (Post (E (.bool (Gr.weighs d.1))) W):=by
 refine enter (args:=[dtV d]) (As:=[Dv dtE G0 d]) Tryz.func98 rfl Tryz.ntmps98 (Nat.le_of_ble_eq_true rfl) ?_ (fun a hf=>?_) (Nat.le_of_ble_eq_true rfl)
 rotate_left
 dsimp only[params,Nat.reduceAdd] at hf
 rotate_right
 ·exact arg1 (Dv.dt.2 rfl)
 have e:=Ext.rfl' W
 refine seq ?_
 refine ah ?_
 refine dr hf rfl (by decide) (fun _ h=>h.elim) fun a w e' hf=>?_
 replace e:=e.tr e'
 refine ae hf rfl (by decide) fun a hf=>?_
 refine aa ?_
 refine seq ?_
 refine ac 18 hf (by decide +kernel) ?_
 refine st (am U45 rfl T3 (by decide) (Fld.fst Fld.refl) (isR rfl)) ?_
 refine st (ldI T3 (isR rfl)) ?_
 refine st (eql rfl rfl) ?_
 refine st (mv rfl) ?_
 refine sgE rfl rfl (.k 1 rfl .n) (fun hgd=>am U45 rfl T3 (by decide) (Fld.fst Fld.refl) (isR rfl)) ?_
 refine sgE rfl rfl (.c 7 rfl (fun h=>h) .n) (fun hgd=>ldI T3 (isR rfl)) ?_
 refine sgE rfl rfl (.c 8 rfl (fun h=>h) .n) (fun hgd=>eql rfl rfl) ?_
 refine st (aY rfl rfl (fun h=>by rw[h];rfl)) ?_
 refine st (mv rfl) ?_
 refine sgE rfl rfl (.k 1 rfl .n) (fun hgd=>am U45 rfl T3 (by decide) (Fld.fst Fld.refl) (isR rfl)) ?_
 refine sgE rfl rfl (.c 12 rfl (fun h=>h) .n) (fun hgd=>ldI T3 (isR rfl)) ?_
 refine sgE rfl rfl (.c 13 rfl (fun h=>h) .n) (fun hgd=>eql rfl rfl) ?_
 refine st (aY rfl rfl (fun h=>by rw[h];rfl)) ?_
 refine st (mv rfl) ?_
 refine sgE rfl rfl (.k 1 rfl .n) (fun hgd=>am U45 rfl T3 (by decide) (Fld.fst Fld.refl) (isR rfl)) ?_
 refine sgE rfl rfl (.c 17 rfl (fun h=>h) .n) (fun hgd=>ldI T3 (isR rfl)) ?_
 refine sgE rfl rfl (.c 18 rfl (fun h=>h) .n) (fun hgd=>eql rfl rfl) ?_
 refine st (aY rfl rfl (fun h=>by rw[h];rfl)) ?_
 refine en fun a w e' hf=>?_
 replace e:=e.tr e'
 refine ae hf rfl (by decide) fun a hf=>?_
 refine aa ?_
 refine aj ?_
 refine al rfl hf rfl ?_
 rintro _ rfl
 exact⟨_,rfl,e,rfl⟩
def bD (g:GT)(d:DT):Int:=
 if (decide (d.1<0) || decide (7<d.1))=true then 11
 else if (((decide (d.2.1<0) || decide (1023<d.2.1)) || (Gr.pairs d.1&&(decide (d.2.2.1<0) || decide (1023<d.2.2.1)))) || (Gr.weighs d.1&&(decide (d.2.2.2.2 < -1048576) || decide (1048576<d.2.2.2.2))))=true then 2
 else if (Gr.pairs d.1&&d.2.1==d.2.2.1)=true then 15
 else if (d.1==0)=true then (if decide (0≤cB g.1 d.2.1)=true then 7 else 0)
 else if (decide (cB g.1 d.2.1<0) || (d.1==2&&decide (cB g.1 d.2.2.1<0)))=true then 9
 else if (d.1==2)=true then (if decide (0≤ci g.2 d.2.1 d.2.2.1)=true then 7 else if decide ((1024:Int)≤(g.2.length:Nat))=true then 8 else 0)
 else if (Gr.pairs d.1&&decide (ci g.2 d.2.1 d.2.2.1<0))=true then 9 else 0
theorem aC {b:Bool}(h:b=false):¬(b=true):=by rw[h];decide
theorem uA {G:Nat→Prop}(g:GT)(d:DT)(v:Value)(W:World)(h:(Dv gtE G g).p v W)(hl1:g.1.length≤100000)(hl2:g.2.length≤100000) :
  Calls Tryz.prog 60 #[v,dtV d] W (Post (E (I (bD g d))) W):=by
 refine enter (args:=[v,dtV d]) (As:=[Dv gtE G0 g,Dv dtE G0 d]) Tryz.func60 rfl Tryz.ntmps60 (Nat.le_of_ble_eq_true rfl) ?_ (fun a hf=>?_) (Nat.le_of_ble_eq_true rfl)
 rotate_left
 dsimp only[params,Nat.reduceAdd] at hf
 rotate_right
 ·exact arg2 (Dv.weak h fun b _ hb=>hb.elim) (Dv.dt.2 rfl)
 have e:=Ext.rfl' W
 have hp:∀(v:Value) (w:World),Ext W w→v=dtV d→Calls Tryz.prog 63 #[v] w (Post (E (.bool (Gr.pairs d.1))) w):=fun v w _ hv=>by cases hv;exact nP d w
 have hh:∀(v:Value) (w:World),Ext W w→v=dtV d→Calls Tryz.prog 98 #[v] w (Post (E (.bool (Gr.weighs d.1))) w):=fun v w _ hv=>by cases hv;exact uz d w
 have hF:∀(n:Int) (v u:Value) (w:World),(Dv gtE G0 g).p v w→u=I n→Calls Tryz.prog 99 #[v,u] w (Post (E (I (cB g.1 n))) w):=fun n v u w h1 h2=>by cases h2;exact uy g n v w h1 hl1
 have hE:∀(m n:Int) (v u x:Value) (w:World),(Dv gtE G0 g).p v w→u=I m→x=I n→Calls Tryz.prog 64 #[v,u,x] w (Post (E (I (ci g.2 m n))) w):=fun m n v u x w h1 h2 h3=>by cases h2;cases h3;exact nO g m n v w h1 hl2
 refine seq ?_
 refine ah ?_
 refine dr hf rfl (by decide) (fun _ h=>h.elim) fun a w e' hf=>?_
 replace e:=e.tr e'
 clear e'
 refine dr hf rfl (by decide) (fun _ h=>h.elim) fun a w e' hf=>?_
 replace e:=e.tr e'
 refine ae hf rfl (by decide) fun a hf=>?_
 refine aa ?_
 repeat refine seq ?_
 refine ac 8 hf (by decide +kernel) ?_
 refine st (am U45 rfl T3 (by decide) (Fld.fst Fld.refl) (isR rfl)) ?_
 refine st (ldI T3 (isR rfl)) ?_
 refine st (lss rfl rfl) ?_
 refine st (mv rfl) ?_
 refine sgE rfl rfl (.k 3 rfl .n) (fun hgd=>am U45 rfl T3 (by decide) (Fld.fst Fld.refl) (isR rfl)) ?_
 refine sgE rfl rfl (.c 9 rfl (fun h=>h) .n) (fun hgd=>ldI T3 (isR rfl)) ?_
 refine sgE rfl rfl (.c 10 rfl (fun h=>h) .n) (fun hgd=>gtr rfl rfl) ?_
 refine st (aY rfl rfl (fun h=>by rw[h];rfl)) ?_
 refine en fun a w e' hf=>?_
 replace e:=e.tr e'
 refine aa ?_
 refine ifc hf rfl (fun hb=>?_) (fun hb=>?_)
 ·refine seq ?_
  refine ah ?_
  refine ae hf rfl (by decide) fun a hf=>?_
  refine aa ?_
  refine aj ?_
  simp only[Exit.then,Exit.inBlock]
  refine al rfl hf rfl ?_
  rintro _ rfl
  exact⟨_,rfl,e,(congrArg I (by rw[bD,if_pos hb]))⟩
 refine ak ?_
 simp only[Exit.then,Exit.inBlock,↓reduceIte]
 replace hf:=hf.kp [2,3,4]
 have h1:=hb;clear hb
 repeat refine seq ?_
 refine ac 36 hf (by decide +kernel) ?_
 refine st (am U45 rfl T3 (by decide) (Fld.snd (Fld.fst Fld.refl) rfl) (isR rfl)) ?_
 refine st (ldI T3 (isR rfl)) ?_
 refine st (lss rfl rfl) ?_
 refine st (mv rfl) ?_
 refine sgE rfl rfl (.k 3 rfl .n) (fun hgd=>am U45 rfl T3 (by decide) (Fld.snd (Fld.fst Fld.refl) rfl) (isR rfl)) ?_
 refine sgE rfl rfl (.c 17 rfl (fun h=>h) .n) (fun hgd=>ldI T3 (isR rfl)) ?_
 refine sgE rfl rfl (.c 18 rfl (fun h=>h) .n) (fun hgd=>gtr rfl rfl) ?_
 refine st (aY rfl rfl (fun h=>by rw[h];rfl)) ?_
 refine st (mv rfl) ?_
 refine sgE rfl rfl (.k 3 rfl .n) (fun hgd=>gx T45 (isR rfl)) ?_
 refine sgE rfl rfl (.c 22 rfl (fun h=>h) .n) (fun hgd=>aw gX rfl (fun v w he h=>hp v w (Ext.tr e he) h)) ?_
 refine sgE rfl rfl (.c 23 rfl (fun h=>h) .n) (fun hgd=>mv rfl) ?_
 refine sgC rfl rfl (.k 3 rfl .n) (fun hgd=>am U45 rfl T3 (by decide) (Fld.snd (Fld.snd (Fld.fst Fld.refl) rfl) rfl) (isR rfl)) ?_
 refine sgC rfl rfl (.c 25 rfl (fun h=>h) .n) (fun hgd=>ldI T3 (isR rfl)) ?_
 refine sgC rfl rfl (.c 26 rfl (fun h=>h) .n) (fun hgd=>lss rfl rfl) ?_
 refine sgC rfl rfl (.c 27 rfl (fun h=>h) .n) (fun hgd=>mv rfl) ?_
 refine sgC rfl rfl (.k 3 rfl .n) (fun hgd=>am U45 rfl T3 (by decide) (Fld.snd (Fld.snd (Fld.fst Fld.refl) rfl) rfl) (isR rfl)) ?_
 refine sgC rfl rfl (.c 29 rfl (fun h=>h) .n) (fun hgd=>ldI T3 (isR rfl)) ?_
 refine sgC rfl rfl (.c 30 rfl (fun h=>h) .n) (fun hgd=>gtr rfl rfl) ?_
 refine sgC rfl rfl (.c 28 rfl (fun h=>h) (.k 31 rfl .n)) (fun hgd=>aY rfl rfl (fun h=>by rw[hgd,h];rfl)) ?_
 refine sgE rfl rfl (.c 24 rfl (fun h=>h) (.k 32 rfl .n)) (fun hgd=>aW rfl rfl (fun h=>by rw[hgd,h];rfl)) ?_
 refine st (aY rfl rfl (fun h=>by rw[h];rfl)) ?_
 refine st (mv rfl) ?_
 refine sgE rfl rfl (.k 3 rfl .n) (fun hgd=>gx T45 (isR rfl)) ?_
 refine sgE rfl rfl (.c 36 rfl (fun h=>h) .n) (fun hgd=>aw rH rfl (fun v w he h=>hh v w (Ext.tr e he) h)) ?_
 refine sgE rfl rfl (.c 37 rfl (fun h=>h) .n) (fun hgd=>mv rfl) ?_
 refine sgC rfl rfl (.k 3 rfl .n) (fun hgd=>am U45 rfl T3 (by decide) (Fld.snd (Fld.snd (Fld.snd (Fld.snd Fld.refl rfl) rfl) rfl) rfl) (isR rfl)) ?_
 refine sgC rfl rfl (.c 39 rfl (fun h=>h) .n) (fun hgd=>ldI T3 (isR rfl)) ?_
 refine sgC rfl rfl (.c 40 rfl (fun h=>h) .n) (fun hgd=>lss rfl rfl) ?_
 refine sgC rfl rfl (.c 41 rfl (fun h=>h) .n) (fun hgd=>mv rfl) ?_
 refine sgC rfl rfl (.k 3 rfl .n) (fun hgd=>am U45 rfl T3 (by decide) (Fld.snd (Fld.snd (Fld.snd (Fld.snd Fld.refl rfl) rfl) rfl) rfl) (isR rfl)) ?_
 refine sgC rfl rfl (.c 43 rfl (fun h=>h) .n) (fun hgd=>ldI T3 (isR rfl)) ?_
 refine sgC rfl rfl (.c 44 rfl (fun h=>h) .n) (fun hgd=>gtr rfl rfl) ?_
 refine sgC rfl rfl (.c 42 rfl (fun h=>h) (.k 45 rfl .n)) (fun hgd=>aY rfl rfl (fun h=>by rw[hgd,h];rfl)) ?_
 refine sgE rfl rfl (.c 38 rfl (fun h=>h) (.k 46 rfl .n)) (fun hgd=>aW rfl rfl (fun h=>by rw[hgd,h];rfl)) ?_
 refine st (aY rfl rfl (fun h=>by rw[h];rfl)) ?_
 refine en fun a w e' hf=>?_
 replace e:=e.tr e'
 refine aa ?_
 refine ifc hf rfl (fun hb=>?_) (fun hb=>?_)
 ·refine seq ?_
  refine ah ?_
  refine ae hf rfl (by decide) fun a hf=>?_
  refine aa ?_
  refine aj ?_
  simp only[Exit.then,Exit.inBlock]
  refine al rfl hf rfl ?_
  rintro _ rfl
  exact⟨_,rfl,e,(congrArg I (by rw[bD,if_neg (aC h1),if_pos hb]))⟩
 refine ak ?_
 simp only[Exit.then,Exit.inBlock,↓reduceIte]
 replace hf:=hf.kp [2,3,4]
 have h2:=hb;clear hb
 repeat refine seq ?_
 refine ac 9 hf (by decide +kernel) ?_
 refine st (gx T45 (isR rfl)) ?_
 refine st (aw gX rfl (fun v w he h=>hp v w (Ext.tr e he) h)) ?_
 refine st (mv rfl) ?_
 refine sgE rfl rfl (.k 3 rfl .n) (fun hgd=>am U45 rfl T3 (by decide) (Fld.snd (Fld.fst Fld.refl) rfl) (isR rfl)) ?_
 refine sgE rfl rfl (.c 52 rfl (fun h=>h) .n) (fun hgd=>ldI T3 (isR rfl)) ?_
 refine sgE rfl rfl (.k 3 rfl .n) (fun hgd=>am U45 rfl T3 (by decide) (Fld.snd (Fld.snd (Fld.fst Fld.refl) rfl) rfl) (isR rfl)) ?_
 refine sgE rfl rfl (.c 54 rfl (fun h=>h) .n) (fun hgd=>ldI T3 (isR rfl)) ?_
 refine sgE rfl rfl (.c 53 rfl (fun h=>h) (.c 55 rfl (fun h=>h) .n)) (fun hgd=>eql rfl rfl) ?_
 refine st (aW rfl rfl (fun h=>by rw[h];rfl)) ?_
 refine en fun a w e' hf=>?_
 replace e:=e.tr e'
 refine aa ?_
 refine ifc hf rfl (fun hb=>?_) (fun hb=>?_)
 ·refine seq ?_
  refine ah ?_
  refine ae hf rfl (by decide) fun a hf=>?_
  refine aa ?_
  refine aj ?_
  simp only[Exit.then,Exit.inBlock]
  refine al rfl hf rfl ?_
  rintro _ rfl
  exact⟨_,rfl,e,(congrArg I (by rw[bD,if_neg (aC h1),if_neg (aC h2),if_pos hb]))⟩
 refine ak ?_
 simp only[Exit.then,Exit.inBlock,↓reduceIte]
 replace hf:=hf.kp [2,3,4]
 have h3:=hb;clear hb
 repeat refine seq ?_
 refine ac 3 hf (by decide +kernel) ?_
 refine st (am U45 rfl T3 (by decide) (Fld.fst Fld.refl) (isR rfl)) ?_
 refine st (ldI T3 (isR rfl)) ?_
 refine st (eql rfl rfl) ?_
 refine en fun a w e' hf=>?_
 replace e:=e.tr e'
 refine aa ?_
 refine ifc hf rfl (fun hb=>?_) (fun hb=>?_)
 ·have h4:=hb;clear hb
  repeat refine seq ?_
  refine ac 5 hf (by decide +kernel) ?_
  refine st (ldD T36 (isR rfl)) ?_
  refine st (am U45 rfl T3 (by decide) (Fld.snd (Fld.fst Fld.refl) rfl) (isR rfl)) ?_
  refine st (ldI T3 (isR rfl)) ?_
  refine st (ax jd rfl rfl (fun v u w he h h'=>hF _ v u w h h')) ?_
  refine st (geq rfl rfl) ?_
  refine en fun a w e' hf=>?_
  replace e:=e.tr e'
  refine aa ?_
  refine ifc hf rfl (fun hb=>?_) (fun hb=>?_)
  ·refine seq ?_
   refine ah ?_
   refine ae hf rfl (by decide) fun a hf=>?_
   refine aa ?_
   refine aj ?_
   simp only[Exit.then,Exit.inBlock]
   refine al rfl hf rfl ?_
   rintro _ rfl
   exact⟨_,rfl,e,(congrArg I (by rw[bD,if_neg (aC h1),if_neg (aC h2),if_neg (aC h3),if_pos h4,if_pos hb]))⟩
  refine ak ?_
  simp only[Exit.then,Exit.inBlock,↓reduceIte]
  refine seq ?_
  refine ah ?_
  refine ae hf rfl (by decide) fun a hf=>?_
  refine aa ?_
  refine aj ?_
  simp only[Exit.then,Exit.inBlock]
  refine al rfl hf rfl ?_
  rintro _ rfl
  exact⟨_,rfl,e,(congrArg I (by rw[bD,if_neg (aC h1),if_neg (aC h2),if_neg (aC h3),if_pos h4,if_neg (aC hb)]))⟩
 refine ak ?_
 simp only[Exit.then,Exit.inBlock,↓reduceIte]
 replace hf:=hf.kp [2,3,4]
 have h4:=hb;clear hb
 repeat refine seq ?_
 refine ac 17 hf (by decide +kernel) ?_
 refine st (ldD T36 (isR rfl)) ?_
 refine st (am U45 rfl T3 (by decide) (Fld.snd (Fld.fst Fld.refl) rfl) (isR rfl)) ?_
 refine st (ldI T3 (isR rfl)) ?_
 refine st (ax jd rfl rfl (fun v u w he h h'=>hF _ v u w h h')) ?_
 refine st (lss rfl rfl) ?_
 refine st (mv rfl) ?_
 refine sgE rfl rfl (.k 3 rfl .n) (fun hgd=>am U45 rfl T3 (by decide) (Fld.fst Fld.refl) (isR rfl)) ?_
 refine sgE rfl rfl (.c 72 rfl (fun h=>h) .n) (fun hgd=>ldI T3 (isR rfl)) ?_
 refine sgE rfl rfl (.c 73 rfl (fun h=>h) .n) (fun hgd=>eql rfl rfl) ?_
 refine sgE rfl rfl (.c 74 rfl (fun h=>h) .n) (fun hgd=>mv rfl) ?_
 refine sgC rfl rfl (.k 2 rfl .n) (fun hgd=>ldD T36 (isR rfl)) ?_
 refine sgC rfl rfl (.k 3 rfl .n) (fun hgd=>am U45 rfl T3 (by decide) (Fld.snd (Fld.snd (Fld.fst Fld.refl) rfl) rfl) (isR rfl)) ?_
 refine sgC rfl rfl (.c 77 rfl (fun h=>h) .n) (fun hgd=>ldI T3 (isR rfl)) ?_
 refine sgC rfl rfl (.c 76 rfl (fun h=>h) (.c 78 rfl (fun h=>h) .n)) (fun hgd=>ax jd rfl rfl (fun v u w he h h'=>hF _ v u w h h')) ?_
 refine sgC rfl rfl (.c 79 rfl (fun h=>h) .n) (fun hgd=>lss rfl rfl) ?_
 refine sgE rfl rfl (.c 75 rfl (fun h=>h) (.k 80 rfl .n)) (fun hgd=>aW rfl rfl (fun h=>by rw[hgd,h];rfl)) ?_
 refine st (aY rfl rfl (fun h=>by rw[h];rfl)) ?_
 refine en fun a w e' hf=>?_
 replace e:=e.tr e'
 refine aa ?_
 refine ifc hf rfl (fun hb=>?_) (fun hb=>?_)
 ·refine seq ?_
  refine ah ?_
  refine ae hf rfl (by decide) fun a hf=>?_
  refine aa ?_
  refine aj ?_
  simp only[Exit.then,Exit.inBlock]
  refine al rfl hf rfl ?_
  rintro _ rfl
  exact⟨_,rfl,e,(congrArg I (by rw[bD,if_neg (aC h1),if_neg (aC h2),if_neg (aC h3),if_neg (aC h4),if_pos hb]))⟩
 refine ak ?_
 simp only[Exit.then,Exit.inBlock,↓reduceIte]
 replace hf:=hf.kp [2,3,4]
 have h5:=hb;clear hb
 repeat refine seq ?_
 refine ac 3 hf (by decide +kernel) ?_
 refine st (am U45 rfl T3 (by decide) (Fld.fst Fld.refl) (isR rfl)) ?_
 refine st (ldI T3 (isR rfl)) ?_
 refine st (eql rfl rfl) ?_
 refine en fun a w e' hf=>?_
 replace e:=e.tr e'
 refine aa ?_
 refine ifc hf rfl (fun hb=>?_) (fun hb=>?_)
 ·have h6:=hb;clear hb
  repeat refine seq ?_
  refine ac 7 hf (by decide +kernel) ?_
  refine st (ldD T36 (isR rfl)) ?_
  refine st (am U45 rfl T3 (by decide) (Fld.snd (Fld.fst Fld.refl) rfl) (isR rfl)) ?_
  refine st (ldI T3 (isR rfl)) ?_
  refine st (am U45 rfl T3 (by decide) (Fld.snd (Fld.snd (Fld.fst Fld.refl) rfl) rfl) (isR rfl)) ?_
  refine st (ldI T3 (isR rfl)) ?_
  refine st (eT iY rfl rfl rfl (fun v u x w he h h' h''=>hE _ _ v u x w h h' h'')) ?_
  refine st (geq rfl rfl) ?_
  refine en fun a w e' hf=>?_
  replace e:=e.tr e'
  refine aa ?_
  refine ifc hf rfl (fun hb=>?_) (fun hb=>?_)
  ·refine seq ?_
   refine ah ?_
   refine ae hf rfl (by decide) fun a hf=>?_
   refine aa ?_
   refine aj ?_
   simp only[Exit.then,Exit.inBlock]
   refine al rfl hf rfl ?_
   rintro _ rfl
   exact⟨_,rfl,e,(congrArg I (by rw[bD,if_neg (aC h1),if_neg (aC h2),if_neg (aC h3),if_neg (aC h4),if_neg (aC h5),if_pos h6,if_pos hb]))⟩
  refine ak ?_
  simp only[Exit.then,Exit.inBlock,↓reduceIte]
  have h7:=hb;clear hb
  replace hf:=hf.kp [2,3,4]
  repeat refine seq ?_
  refine ac 4 hf (by decide +kernel) ?_
  refine st (am U36 rfl T34 (by decide) (Fld.snd Fld.refl rfl) (isR rfl)) ?_
  refine st (ldD T34 (isR rfl)) ?_
  refine st (ay U34 (isR rfl)) ?_
  refine st (geq rfl rfl) ?_
  refine en fun a w e' hf=>?_
  replace e:=e.tr e'
  refine aa ?_
  refine ifc hf rfl (fun hb=>?_) (fun hb=>?_)
  ·refine seq ?_
   refine ah ?_
   refine ae hf rfl (by decide) fun a hf=>?_
   refine aa ?_
   refine aj ?_
   simp only[Exit.then,Exit.inBlock]
   refine al rfl hf rfl ?_
   rintro _ rfl
   exact⟨_,rfl,e,(congrArg I (by rw[bD,if_neg (aC h1),if_neg (aC h2),if_neg (aC h3),if_neg (aC h4),if_neg (aC h5),if_pos h6,if_neg (aC h7),if_pos hb]))⟩
  refine ak ?_
  simp only[Exit.then,Exit.inBlock,↓reduceIte]
  refine seq ?_
  refine ah ?_
  refine ae hf rfl (by decide) fun a hf=>?_
  refine aa ?_
  refine aj ?_
  simp only[Exit.then,Exit.inBlock]
  refine al rfl hf rfl ?_
  rintro _ rfl
  exact⟨_,rfl,e,(congrArg I (by rw[bD,if_neg (aC h1),if_neg (aC h2),if_neg (aC h3),if_neg (aC h4),if_neg (aC h5),if_pos h6,if_neg (aC h7),if_neg (aC hb)]))⟩
 refine ak ?_
 simp only[Exit.then,Exit.inBlock,↓reduceIte]
 replace hf:=hf.kp [2,3,4]
 have h6:=hb;clear hb
 repeat refine seq ?_
 refine ac 11 hf (by decide +kernel) ?_
 refine st (gx T45 (isR rfl)) ?_
 refine st (aw gX rfl (fun v w he h=>hp v w (Ext.tr e he) h)) ?_
 refine st (mv rfl) ?_
 refine sgE rfl rfl (.k 2 rfl .n) (fun hgd=>ldD T36 (isR rfl)) ?_
 refine sgE rfl rfl (.k 3 rfl .n) (fun hgd=>am U45 rfl T3 (by decide) (Fld.snd (Fld.fst Fld.refl) rfl) (isR rfl)) ?_
 refine sgE rfl rfl (.c 101 rfl (fun h=>h) .n) (fun hgd=>ldI T3 (isR rfl)) ?_
 refine sgE rfl rfl (.k 3 rfl .n) (fun hgd=>am U45 rfl T3 (by decide) (Fld.snd (Fld.snd (Fld.fst Fld.refl) rfl) rfl) (isR rfl)) ?_
 refine sgE rfl rfl (.c 103 rfl (fun h=>h) .n) (fun hgd=>ldI T3 (isR rfl)) ?_
 refine sgE rfl rfl (.c 100 rfl (fun h=>h) (.c 102 rfl (fun h=>h) (.c 104 rfl (fun h=>h) .n))) (fun hgd=>eT iY rfl rfl rfl (fun v u x w he h h' h''=>hE _ _ v u x w h h' h'')) ?_
 refine sgE rfl rfl (.c 105 rfl (fun h=>h) .n) (fun hgd=>lss rfl rfl) ?_
 refine st (aW rfl rfl (fun h=>by rw[h];rfl)) ?_
 refine en fun a w e' hf=>?_
 replace e:=e.tr e'
 refine aa ?_
 refine ifc hf rfl (fun hb=>?_) (fun hb=>?_)
 ·refine seq ?_
  refine ah ?_
  refine ae hf rfl (by decide) fun a hf=>?_
  refine aa ?_
  refine aj ?_
  simp only[Exit.then,Exit.inBlock]
  refine al rfl hf rfl ?_
  rintro _ rfl
  exact⟨_,rfl,e,(congrArg I (by rw[bD,if_neg (aC h1),if_neg (aC h2),if_neg (aC h3),if_neg (aC h4),if_neg (aC h5),if_neg (aC h6),if_pos hb]))⟩
 refine ak ?_
 simp only[Exit.then,Exit.inBlock,↓reduceIte]
 refine seq ?_
 refine ah ?_
 refine ae hf rfl (by decide) fun a hf=>?_
 refine aa ?_
 refine aj ?_
 refine al rfl hf rfl ?_
 rintro _ rfl
 exact⟨_,rfl,e,(congrArg I (by rw[bD,if_neg (aC h1),if_neg (aC h2),if_neg (aC h3),if_neg (aC h4),if_neg (aC h5),if_neg (aC h6),if_neg (aC hb)]))⟩
end Go.Mono
namespace Go.Mono
open Go Go.RowKit

theorem uB:∀(c:List Value) (n off:Nat) (cells:Array Value),off+n+c.length≤cells.size →
  (c.zipIdx n).foldl (fun cs (p:Value×Nat)=>cs.setIfInBounds (off+p.2) p.1) cells=(cells.toList.take (off+n)++c++cells.toList.drop (off+n+c.length)).toArray:=by
 intro c
 induction c with
 | nil=>intro n off cells h;simp
 | cons u c ih=>
  intro n off cells h
  simp only[List.length_cons] at h
  rw[List.zipIdx_cons,List.foldl_cons,ih (n+1) off _ (by simp;omega)]
  simp only[Array.toList_setIfInBounds,List.length_cons]
  congr 1
  have hlt:off+n<cells.toList.length:=by simp;omega
  rw[← Nat.add_assoc,List.take_succ_eq_append_getElem (by simpa using hlt),List.getElem_set_self,List.take_set_of_le (Nat.le_refl _),List.drop_set_of_lt (by omega)]
  rw[show off+n+1+c.length=off+n+(c.length+1) by omega]
  simp
def pl {α:Type}:Nat→List α→List (Nat×α)
 | _,[]=>[]
 | n,v::vs=>(n,v)::pl (n+1) vs
theorem nQ {α β:Type}(f:α→β):∀(n:Nat) (vs:List α),(pl n vs).map (fun p=>(p.1,f p.2))=pl n (vs.map f)
 | _,[]=>rfl
 | n,v::vs=>by rw[pl,List.map_cons,nQ f (n+1) vs];rfl
theorem fill_seq {k:Nat}:∀(vs:List Value) (cs:List (List Value)) (n:Nat) (done:List Value) (cells:Array Value),vs.map Value.cells=cs.map List.toArray→(∀c∈cs,c.length=k)→done.length=n * k→cells.toList.take (n * k)=done→cells.size=(n+vs.length) * k →
  Instr.fill (fun i=>some (i * k,k)) cells (pl n vs)=some (done++cs.flatten).toArray
 | [],cs,n,done,cells,hv,hc,hd,ht,hs=>by
  have:cs=[]:=by cases cs <;> simp at hv ⊢
  subst this
  have:cells.toList=done:=by rw[← ht,List.take_of_length_le];rw[Array.length_toList,hs];simp
  simp[pl,Instr.fill,← this]
 | v::vs,[],n,done,cells,hv,hc,hd,ht,hs=>by simp at hv
 | v::vs,c::cs,n,done,cells,hv,hc,hd,ht,hs=>by
  simp only[List.map_cons,List.cons.injEq] at hv
  have hcl:=hc c (by simp)
  have hsz:v.cells.size=k:=by rw[hv.1,List.size_toArray,hcl]
  rw[List.length_cons] at hs
  have hb:n * k+k≤cells.size:=by rw[hs,Nat.add_mul,Nat.add_mul];omega
  rw[pl,Instr.fill]
  have n1:¬(n * k+k > cells.size):=by omega
  simp only[hsz,ne_eq,not_true_eq_false,decide_false,Bool.false_or,decide_eq_true_eq,n1,if_false,Bool.false_eq_true]
  rw[hv.1]
  have e1:c.toArray.zipIdx.foldl (fun cs (p:Value×Nat)=>cs.setIfInBounds (n * k+p.2) p.1) cells=(cells.toList.take (n * k)++c++cells.toList.drop (n * k+c.length)).toArray:=by
   rw[jo]
   have:=uB c 0 (n * k) cells (by omega)
   simpa using this
  have e2:=fill_seq vs cs (n+1) (done++c) (cells.toList.take (n * k)++c++cells.toList.drop (n * k+c.length)).toArray hv.2 (fun x hx=>hc x (by simp[hx])) (by rw[List.length_append,hd,hcl,Nat.add_mul,Nat.one_mul]) (by
   rw[ht]
   simp only[List.append_assoc]
   rw[← List.append_assoc,List.take_left' (by rw[List.length_append,hd,hcl,Nat.add_mul,Nat.one_mul])]) (by
   simp only[List.size_toArray,List.length_append,List.length_take,List.length_drop,Array.length_toList,hcl]
   rw[Nat.min_eq_left (by omega),hs]
   have:(n+(vs.length+1)) * k=(n+1+vs.length) * k:=by congr 1;omega
   rw[this] at hs ⊢
   have:n * k+k≤(n+1+vs.length) * k:=by omega
   omega)
  rw[List.flatten_cons,← List.append_assoc,← e2]
  exact congrArg (fun x=>Instr.fill (fun i=>some (i * k,k)) x (pl (n+1) vs)) e1
section
variable {P:Program}{w0:World}{L:Env}{dst:Option Tmp}{ty:TypeId}{pos:String}{aft:Array Edge}{g:Option (Nat×Bool)}{t te:TypeId}
variable {α:Type}{e:Enc α}{G:Nat→Prop}
def IsL (L:Env)(w0:World)(e:Enc α)(G:Nat→Prop):List Operand→List α→Prop
 | [],[]=>True
 | x::xs,z::zs=>Is L w0 x (Dv e G z)∧IsL L w0 e G xs zs
 | _,_=>False
theorem nR {ρ:Operand→Value}{w:World}{xs0:List Operand}(he:Ext w0 w)(hv:∀x∈xs0,∀B,opd L x=some B→B.p (ρ x) w):∀(xs:List Operand) (zs:List α),(∀x∈xs,x∈xs0)→IsL L w0 e G xs zs →
  ∃cs:List (List Value),(xs.map ρ).map Value.cells=cs.map List.toArray∧(∀c∈cs,c.length=e.k)∧Cells e G w zs cs.flatten∧xs.length=zs.length
 | [],[],_,_=>⟨[],rfl,(fun c hc=>by cases hc),rfl,rfl⟩
 | [],_::_,_,h=>h.elim
 | _::_,[],_,h=>h.elim
 | x::xs,z::zs,hm,h=>by
  obtain⟨⟨B,hB,hB2⟩,h2⟩:=h
  obtain⟨c,h3,h4⟩:=hB2 _ _ he (hv x (hm x (by simp)) B hB)
  obtain⟨cs,a1,a2,a3,a4⟩:=nR he hv xs zs (fun y hy=>hm y (by simp[hy])) h2
  refine⟨c::cs,?_,?_,⟨c,cs.flatten,rfl,h3,a3⟩,by simp[a4]⟩
  ·simp only[List.map_cons,a1]
   rw[h4,e.pack_cells h3]
  ·intro d hd
   rcases List.mem_cons.1 hd with rfl|hd
   ·exact e.len h3
   ·exact a2 d hd
theorem jL {z0:Value}{sz bz n:Nat}{xs:List Operand}{zs:List α}(ht:P.underlying t=some (.slice te))(hi:(P.info? te).map (fun i=>(i.zero,i.size,i.bytes))=some (some z0,sz,bz))(hk:sz=e.k)(hn:zs.length=n)(hn0:0<n)(hk2:n * e.k≤16777216)(hz0:z0.cells.size=e.k)(hG:∀b,G b→b<w0.heap.size)
  (hx:IsL L w0 e G xs zs):OpC P w0 L ⟨dst,.buildSlice t n (pl 0 xs).toArray,ty,pos,aft,g⟩ (Dv (slE e) G zs):=by
 refine⟨fun ρ w he hv=>?_⟩
 obtain⟨it,hit,hiz,hsz,_⟩:=info_parts hi
 subst hk
 have hops:(Op.buildSlice t n (pl 0 xs).toArray).operands=xs.toArray:=by
  have:∀(k:Nat) (xs:List Operand),(pl k xs).map (·.2)=xs:=by
   intro k xs
   induction xs generalizing k with
   | nil=>rfl
   | cons x xs ih=>rw[pl,List.map_cons,ih]
  simp[Op.operands,this]
 have hv':∀x∈xs,∀B,opd L x=some B→B.p (ρ x) w:=fun x hx B hB=>hv x (by
  show x∈(Op.buildSlice t n (pl 0 xs).toArray).operands
  rw[hops];simpa using hx) B hB
 obtain⟨cs,a1,a2,a3,a4⟩:=nR he hv' xs zs (fun x h=>h) hx
 have hxl:xs.length=n:=by rw[a4,hn]
 have hpos:=e.pos
 have hnk:0<n * e.k:=Nat.mul_pos hn0 hpos
 have hfl:=fill_seq (k:=e.k) (xs.map ρ) cs 0 [] ((Array.range (n * it.size)).map (z0.cells[· % z0.cells.size]!)) a1 a2 (by simp) (by simp) (by simp[hsz,hxl])
 have hr:=run_buildSlice (P:=P) w t te n (pl 0 (xs.map ρ)).toArray cs.flatten.toArray it z0 ht hit hiz (by rw[hsz];omega) (by rw[hsz];omega) (by rw[hsz] at hfl ⊢;simpa using hfl)
 have hm:((pl 0 xs).toArray.map fun p=>(p.1,ρ p.2))=(pl 0 (xs.map ρ)).toArray:=by
  rw[List.map_toArray,nQ]
 have hrun:(execOp ρ ⟨dst,.buildSlice t n (pl 0 xs).toArray,ty,pos,aft,g⟩).run P w=.ok (.value (.slice (some ⟨w.heap.size,0,none⟩) n n)) (w.alloc (.cells cs.flatten.toArray te)):=by
  simp only[execOp,Sem.run_bind]
  rw[show ((pl 0 xs).toArray.map fun (x:Nat×Operand)=>match x with|(i,x)=>(i,ρ x))=(pl 0 (xs.map ρ)).toArray from hm,hr]
  simp only[Result.andThen_ok,Sem.run_pure]
 simp only[OpR,hrun]
 have hx:=cy w (.cells cs.flatten.toArray te)
 refine⟨hx,Dv.sl.2 (.inr ⟨_,n,cs.flatten,by rw[hn],by omega,fun hg=>?_,by simp,a3.pres (fun b hb hn=>hx.block b hb) hx.size,fun i u hu=>?_⟩)⟩
 ·exact absurd (hG _ hg) (Nat.not_lt.2 he.size)
 ·rw[Addr.add_lit,Nat.zero_add,(dZ w cs.flatten.toArray te).cell i,List.getElem?_toArray]
  exact hu
theorem jM {z0:Value}{sz bz:Nat}{x y:Operand}{a b:α}(ht:P.underlying t=some (.slice te))(hi:(P.info? te).map (fun i=>(i.zero,i.size,i.bytes))=some (some z0,sz,bz))(hk:sz=e.k)(hk2:2 * e.k≤16777216)(hz0:z0.cells.size=e.k)(hG:∀b,G b→b<w0.heap.size)
  (hx:Is L w0 x (Dv e G a)) (hy:Is L w0 y (Dv e G b)):OpC P w0 L ⟨dst,.buildSlice t 2 #[(0,x),(1,y)],ty,pos,aft,g⟩ (Dv (slE e) G [a,b]):=
 jL (n:=2) (xs:=[x,y]) ht hi hk rfl (by decide) hk2 hz0 hG ⟨hx,hy,trivial⟩
theorem uC {z0:Value}{sz bz:Nat}{x y z:Operand}{a b c:α}(ht:P.underlying t=some (.slice te))(hi:(P.info? te).map (fun i=>(i.zero,i.size,i.bytes))=some (some z0,sz,bz))(hk:sz=e.k)(hk2:3 * e.k≤16777216)(hz0:z0.cells.size=e.k)(hG:∀b,G b→b<w0.heap.size)
  (hx:Is L w0 x (Dv e G a)) (hy:Is L w0 y (Dv e G b)) (hz:Is L w0 z (Dv e G c)):OpC P w0 L ⟨dst,.buildSlice t 3 #[(0,x),(1,y),(2,z)],ty,pos,aft,g⟩ (Dv (slE e) G [a,b,c]):=
 jL (n:=3) (xs:=[x,y,z]) ht hi hk rfl (by decide) hk2 hz0 hG ⟨hx,hy,hz,trivial⟩
theorem uD {x y:Operand}{xs:List α}{i:Nat}(ht:P.underlying t=some (.slice te))(hs:(P.info? te).map (·.size)=some e.k)(hx:Is L w0 x (Dv (slE e) G xs))(hy:opd L y=some (E (.int .i64 (i:Nat))))(hi:i≤xs.length) :
  OpC P w0 L ⟨dst,.slice t x none (some y) none,ty,pos,aft,g⟩ (Dv (slE e) G (xs.take i)):=
 aI fun ρ w he hv=>by
  have h:=Dv.sl.1 (hx.v he hv (by simp[Op.operands]))
  have h2:=opE hv (x:=y) (by simp[Op.operands]) hy
  rcases h with ⟨h,rfl⟩|⟨ad,cap,cs,h,hc,h3,h4,h5,h6⟩
  ·have hi0:i=0:=by simpa using hi
   subst hi0
   refine⟨.slice none 0 0,?_,Dv.nil⟩
   simp[execOp,h,h2,Instr.sliceAt,Instr.slice,Instr.sliceBounds,Instr.sliceBound,asIntOf,run_underlying ht,ia hs]
  ·have h8:=h5.take i
   have hic:(i:Nat)≤cap:=Nat.le_trans hi hc
   refine⟨.slice (some ad) i cap,?_,Dv.sl.2 (.inr ⟨ad,cap,cs.take (i * e.k),by rw[List.length_take,Nat.min_eq_left hi],by rw[List.length_take,Nat.min_eq_left hi];exact hic,h3,h4,h8,fun j u hu=>h6 j u (by rw[List.getElem?_take] at hu;split at hu;exact hu;cases hu)⟩)⟩
   simp[execOp,h,h2,Instr.sliceAt,Instr.slice,Instr.sliceBounds,Instr.sliceBound,asIntOf,run_underlying ht,ia hs,hic,Addr.add]
end
theorem nT {P:Program}{fn:Func}{t u s:Nat}{R:Ending→World→Prop}{n:Nat}{a:Act}{w:World}{L:Env}{A B C:VA}(hr:fn.results = #[.tmp t,.tmp u,.tmp s])(hf:Fr n a w L)(h:aA L t=some A)(h':aA L u=some B)(h'':aA L s=some C)
  (hR:∀v x y,A.p v w→B.p x w→C.p y w→R (.returned (.tuple #[v,x,y])) w):bodyPost P fn R .ret a w:=
 ⟨hf.defers,.tuple #[a.eval (.tmp t),a.eval (.tmp u),a.eval (.tmp s)],by simp[results,hr,Act.eval],hR _ _ _ (hf.val t A h) (hf.val u B h') (hf.val s C h'')⟩
theorem OwR.slN {α:Type}{e:Enc α}[FlE e]{ty:TypeId}{B:Nat}{G N:Nat→Prop}{w:World}{xs:List α}{v:Value}(h:OwR e ty B G w xs v)(hN:∀b,v.ownBlock=some b→¬N b):(Dv (slE e) N xs).p v w:=by
 obtain⟨cs,h1,h2⟩:=h.own
 refine Dv.sl.2 ?_
 rcases h1.2 with ⟨hv,hn⟩|⟨g,cap,cur,hv,hB,hg,hn,hm,hs,ht⟩
 ·exact .inl ⟨hv,List.eq_nil_of_length_eq_zero hn⟩
 ·exact .inr ⟨_,cap,cs,hv,hn,hN g (by rw[hv];rfl),(Array.getElem?_eq_some_iff.1 hg).1,Cells.fl h2,h1.cells (by rw[hv];rfl)⟩
end Go.Mono
namespace Go.Mono
open Go Go.Proofs Go.RowKit Go.Gr
theorem uE (ao:Option Addr)(n c:Nat):Tryz.prog.built 36 [(1,.slice ao n c)]=some #[.slice none 0 0,.slice ao n c]:=by kernel_rfl
theorem uF (ao:Option Addr)(n c:Nat):Tryz.prog.built 36 [(0,.slice ao n c)]=some #[.slice ao n c,.slice none 0 0]:=by kernel_rfl
theorem slOne {α:Type}{e:Enc α}{G:Nat→Prop}{xs:List α}{v:Value}{w:World}(h:(Dv (slE e) G xs).p v w):v.oneCell'=true:=by
 obtain⟨ao,n,c,rfl⟩:=Dv.slF h;rfl
theorem aX {u v:Value}(h:u.oneCell'=true)(k:v.oneCell'=true):(#[u,v]:Array Value).all (·.oneCell')=true:=by simp[h,k]
theorem uG {G:Nat→Prop}(g:GT)(x:VT)(v:Value)(W:World)(h:(Dv gtE G g).p v W)(hG:∀b,G b→b<W.heap.size)(hl:g.1.length≤100000) :
  Calls Tryz.prog 61 #[v,vtV x] W (Post (Dv gtE G (insV g.1 x,g.2)) W):=by
 obtain⟨u1,u2,rfl,h1,h2⟩:=Dv.gt.1 h
 obtain⟨a2,n2,c2,rfl⟩:=Dv.slF h2
 have h1b:=Dv.toB h1
 have hl2:=fun k=>mR (fun y:VT=>lt1 x.1 y.1) x g.1 k
 refine enter (args:=[.agg #[u1,.slice a2 n2 c2],vtV x]) (As:=[E (.agg #[u1,.slice a2 n2 c2]),E (vtV x)]) Tryz.func61 rfl Tryz.ntmps61 (Nat.le_of_ble_eq_true rfl) ?_ (fun a hf=>?_) (Nat.le_of_ble_eq_true rfl)
 rotate_left
 dsimp only[params,Nat.reduceAdd] at hf
 rotate_right
 ·exact arg2 rfl rfl
 have e:=Ext.rfl' W
 refine seq ?_
 refine ah ?_
 refine aH hf rfl (by decide) fun a b2 w v2 hv2 e' hb2 hs2 B2 hf=>?_
 have hle2:=Nat.le_trans e.size (Nat.le_of_eq hb2.symm)
 replace e:=e.tr e'
 clear e'
 refine aH hf rfl (by decide) fun a b3 w v3 hv3 e' hb3 hs3 B3 hf=>?_
 have hle3:=Nat.le_trans e.size (Nat.le_of_eq hb3.symm)
 have lt3_B2:=B2.lt
 replace e:=e.tr e'
 replace B2:=B2.ext e'
 clear e'
 refine aJ I36 hf (by decide) fun a b4 w e' hb4 hs4 B4 hf=>?_
 have hle4:=Nat.le_trans e.size (Nat.le_of_eq hb4.symm)
 have lt4_B2:=B2.lt
 have lt4_B3:=B3.lt
 replace e:=e.tr e'
 replace B2:=B2.ext e'
 replace B3:=B3.ext e'
 refine aa ?_
 cases hv2;cases hv3
 refine seq ?_
 refine ac 3 hf (by decide +kernel) ?_
 refine st (ai U36 rfl T34 (by decide) rfl) ?_
 refine st (ld1 T34 rfl (by assumption) rfl) ?_
 refine st (bh [(1,_)] rfl (uE a2 n2 c2)) ?_
 refine en fun a w e' hf=>?_
 replace e:=e.tr e'
 replace B2:=B2.ext e'
 replace B3:=B3.ext e'
 replace B4:=B4.ext e'
 clear e'
 refine aJ I36 hf (by decide) fun a b5 w e' hb5 hs5 B5 hf=>?_
 have hle5:=Nat.le_trans e.size (Nat.le_of_eq hb5.symm)
 have lt5_B2:=B2.lt
 have lt5_B3:=B3.lt
 have lt5_B4:=B4.lt
 replace e:=e.tr e'
 replace B2:=B2.ext e'
 replace B3:=B3.ext e'
 replace B4:=B4.ext e'
 clear e'
 haveI hinr:∀G0,InR (GB W G0) (some b5):=fun G0=>InR.gb (by omega)
 refine aD T36 hf rfl rfl (aX rfl rfl) B5 rfl (rfl) fun w hg hsz B5 hf=>?_
 replace e:=e.gr hg (by omega)
 replace B2:=B2.gr hg (by omega)
 replace B3:=B3.gr hg (by omega)
 replace B4:=B4.gr hg (by omega)
 clear hg
 refine aa ?_
 refine seq ?_
 refine ah ?_
 refine ae hf rfl (by decide) fun a hf=>?_
 refine aa ?_
 repeat refine seq ?_
 refine ah ?_
 refine ae hf rfl (by decide) fun a hf=>?_
 refine aa ?_
 replace hf:=hf.kp [2,3,4,5,6,7]
 refine blk (aG (fun r0 a w=>∃(k:Nat) (u:Value) (dn:Bool),r0=g.1.length - k∧k≤g.1.length∧Fr 56 a w [(2,E (.pointer (some ⟨b2,0,none⟩))),(3,E (.pointer (some ⟨b3,0,none⟩))),(4,E (.pointer (some ⟨b4,0,none⟩))),(5,E (.pointer (some ⟨b5,0,none⟩))),(6,E (.bool dn)),(7,E (I k))]∧Ext W w∧Blk w b2 #[u1,.slice a2 n2 c2] 36∧Blk w b3 (vtV x).cells 73∧Blk w b4 #[.slice none 0 0,.slice none 0 0] 36∧Blk w b5 #[u,.slice a2 n2 c2] 36∧OwR vtE 73 (b5+1) G w (du (fun y=>lt1 x.1 y.1) x g.1 k) u∧dn=(g.1.take k).any (fun y=>lt1 x.1 y.1)) g.1.length ⟨0,.slice none 0 0, false,rfl,by omega,hf,e,⟨B2,B3,B4,B5,OwR.nil vtE _ (by have:=B5.lt;omega) fun b hb=>Nat.lt_of_lt_of_le (hG b hb) (by omega),by simp⟩⟩ ?_)
 clear hf e;try clear B2;try clear B3;try clear B4;try clear B5;try clear Ho;try clear hdn
 rintro r0 a w ⟨k,u,dn,rfl,hk,hf,e,B2,B3,B4,B5,Ho,hdn⟩
 repeat refine seq ?_
 refine ac 5 hf (by decide +kernel) ?_
 refine st (mv rfl) ?_
 refine st (ai U36 rfl T33 (by decide) rfl) ?_
 refine st (ld1 T33 rfl (by assumption) rfl) ?_
 refine st (ay U33 (isE rfl (VA.st _ _ _ _ e h1))) ?_
 refine st (lss rfl rfl) ?_
 refine en fun a w e' hf=>?_
 replace e:=e.tr e'
 replace B2:=B2.ext e'
 replace B3:=B3.ext e'
 replace B4:=B4.ext e'
 replace B5:=B5.ext e'
 replace Ho:=Ho.ext e'
 refine aa ?_
 refine ifc hf rfl (fun hc=>ak ?_) (fun hc=>aF ?_)
 rotate_left
 rotate_left
 ·have hlt:k<g.1.length:=by have:=of_decide_eq_true hc;(try dsimp only at this);omega
  clear hc
  replace hf:=hf.kp [2,3,4,5,6,7]
  refine seq ?_
  refine blk ?_
  have hg:=List.getElem?_eq_getElem hlt
  generalize g.1[k]=y at hg
  have hs:=mO (fun y:VT=>lt1 x.1 y.1) x g.1 hg
  have ha:=mP (fun y:VT=>lt1 x.1 y.1) g.1 hg
  have hlk:=hl2 k
  have hlk':=hl2 (k+1)
  repeat refine seq ?_
  refine reg 13 Mix.mix hf (by decide +kernel) ?_
  refine st (mv rfl) ?_
  refine st (aS rfl) ?_
  refine st (mv rfl) ?_
  refine sgE rfl rfl (.k 2 rfl .n) (fun hgd=>ai U36 rfl T33 (by decide) rfl) ?_
  refine sgE rfl rfl (.c 21 rfl (fun h=>h) .n) (fun hgd=>ld1 T33 rfl B2 rfl) ?_
  refine sgE rfl rfl (.k 7 rfl .n) (fun hgd=>mv rfl) ?_
  refine sgE rfl rfl (.c 22 rfl (fun h=>h) (.c 23 rfl (fun h=>h) .n)) (fun hgd=>az U33 S73 (isE rfl (VA.st _ _ _ _ e h1)) rfl rfl (hg)) ?_
  refine sgE rfl rfl (.c 24 rfl (fun h=>h) .n) (fun hgd=>am U73 rfl T3 (by decide) (Fld.fst Fld.refl) (isR rfl)) ?_
  refine sgE rfl rfl (.c 25 rfl (fun h=>h) .n) (fun hgd=>ldI T3 (isR rfl)) ?_
  refine sgE rfl rfl (.k 3 rfl .n) (fun hgd=>ai U73 rfl T3 (by decide) rfl) ?_
  refine sgE rfl rfl (.c 27 rfl (fun h=>h) .n) (fun hgd=>ld1 T3 rfl B3 rfl) ?_
  refine sgE rfl rfl (.c 26 rfl (fun h=>h) (.c 28 rfl (fun h=>h) .n)) (fun hgd=>(gtr rfl rfl).eq (congrArg Value.bool ((rfl:_=lt1 x.1 y.1)))) ?_
  refine st (aW rfl rfl (fun h=>by rw[h];rfl)) ?_
  refine en fun a w e' hf=>?_
  replace Ho:=Ho.ext e'
  replace e:=e.tr e'
  replace B2:=B2.ext e'
  replace B3:=B3.ext e'
  replace B4:=B4.ext e'
  replace B5:=B5.ext e'
  refine aa ?_
  refine ifc hf rfl (fun hb=>?_) (fun hb=>?_)
  ·replace hf:=hf.kp [2,3,4,5,6,7]
   rw[← hdn,if_pos hb] at hs
   have hd:(g.1.take (k+1)).any (fun y=>lt1 x.1 y.1)=true:=by rw[ha];simp only[Bool.and_eq_true] at hb;rw[hb.2,Bool.or_true]
   have n2:=Ho.neLt (b:=b2) (by omega);have n3:=Ho.neLt (b:=b3) (by omega);have n4:=Ho.neLt (b:=b4) (by omega);have n5:=Ho.neLt (b:=b5) (by omega)
   refine seq ?_
   refine ac 4 hf (by decide +kernel) ?_
   refine st (ai U36 rfl T33 (by decide) rfl) ?_
   refine st ((ld1 T33 rfl (by assumption) rfl).eq ((rfl:_=u))) ?_
   refine st ((ldW T73 rfl (by assumption) rfl).eq ((rfl:_=vtV x))) ?_
   refine st (br U33 I73 rfl (by decide) rfl Ho.avs (eI rfl)) ?_
   refine en fun a w e' hf=>?_
   replace Ho:=Ho.ext e'
   replace e:=e.tr e'
   replace B2:=B2.ext e'
   replace B3:=B3.ext e'
   replace B4:=B4.ext e'
   replace B5:=B5.ext e'
   clear e'
   haveI hin:∀G0,InR (GB W G0) _:=OwR.inGB (W:=W) Ho (by omega)
   refine bs U33 I73 rfl rfl hf (by decide) rfl Ho (isR rfl) (by simp only[List.length_singleton];omega) (by simp only[List.length_singleton,maxLen];omega) fun a v w hg hat Hn hf=>?_
   replace e:=e.gro hg (Ho.row (W:=W) (by omega))
   have hrow:=Ho.row (W:=W) (by omega)
   replace Ho:=Hn
   clear hrow
   replace B2:=B2.gro hg (by assumption)
   replace B3:=B3.gro hg (by assumption)
   replace B4:=B4.gro hg (by assumption)
   replace B5:=B5.gro hg (by assumption)
   replace Ho:=Hn;clear Hn hg hat hin
   replace hf:=hf.kp [2,3,4,5,7,35]
   clear n2 n3 n4 n5
   refine ar hf (by decide) (ai U36 rfl T33 (by decide) rfl) fun a w e' hf=>?_
   replace Ho:=Ho.ext e'
   replace e:=e.tr e'
   replace B2:=B2.ext e'
   replace B3:=B3.ext e'
   replace B4:=B4.ext e'
   replace B5:=B5.ext e'
   clear e'
   refine aP T33 hf rfl rfl (slOne Ho.sl) B5 (by simp) fun w hg hsz B5 hf=>?_
   replace Ho:=Ho.grE hg (Ho.neLt (by omega))
   replace e:=e.gr hg (by omega)
   replace B2:=B2.gr hg (by omega)
   replace B3:=B3.gr hg (by omega)
   replace B4:=B4.gr hg (by omega)
   clear hg
   refine aa ?_
   replace hf:=hf.kp [2,3,4,5,7]
   refine ah ?_
   refine ae hf rfl (by decide) fun a hf=>?_
   refine aa ?_
   replace hf:=hf.kp [2,3,4,5,6,7]
   have n2:=Ho.neLt (b:=b2) (by omega);have n3:=Ho.neLt (b:=b3) (by omega);have n4:=Ho.neLt (b:=b4) (by omega);have n5:=Ho.neLt (b:=b5) (by omega)
   refine reg 8 Mix.mix hf (by decide +kernel) ?_
   refine st (ai U36 rfl T33 (by decide) rfl) ?_
   refine st ((ld1 T33 rfl (by assumption) rfl).eq ((rfl:_=v))) ?_
   refine st (ai U36 rfl T33 (by decide) rfl) ?_
   refine st (ld1 T33 rfl B2 rfl) ?_
   refine st (mv rfl) ?_
   refine st (az U33 S73 (isE rfl (VA.st _ _ _ _ e h1b)) rfl (by omega) (hg)) ?_
   refine st (ev T73 (isR rfl)) ?_
   refine st (br U33 I73 rfl (by decide) rfl Ho.avs (eI rfl)) ?_
   refine en fun a w e' hf=>?_
   replace Ho:=Ho.ext e'
   replace e:=e.tr e'
   replace B2:=B2.ext e'
   replace B3:=B3.ext e'
   replace B4:=B4.ext e'
   replace B5:=B5.ext e'
   clear e'
   haveI hin:∀G0,InR (GB W G0) _:=OwR.inGB (W:=W) Ho (by omega)
   refine bs U33 I73 rfl rfl hf (by decide) rfl Ho (isR rfl) (by simp only[List.length_singleton,List.length_append];omega) (by simp only[List.length_singleton,List.length_append,maxLen];omega) fun a v w hg hat Hn hf=>?_
   replace e:=e.gro hg (Ho.row (W:=W) (by omega))
   have hrow:=Ho.row (W:=W) (by omega)
   replace Ho:=Hn
   clear hrow
   replace B2:=B2.gro hg (by assumption)
   replace B3:=B3.gro hg (by assumption)
   replace B4:=B4.gro hg (by assumption)
   replace B5:=B5.gro hg (by assumption)
   replace Ho:=Hn;clear Hn hg hat hin
   replace hf:=hf.kp [2,3,4,5,6,7,45]
   clear n2 n3 n4 n5
   refine ar hf (by decide) (ai U36 rfl T33 (by decide) rfl) fun a w e' hf=>?_
   replace Ho:=Ho.ext e'
   replace e:=e.tr e'
   replace B2:=B2.ext e'
   replace B3:=B3.ext e'
   replace B4:=B4.ext e'
   replace B5:=B5.ext e'
   clear e'
   refine aP T33 hf rfl rfl (slOne Ho.sl) B5 (by simp) fun w hg hsz B5 hf=>?_
   replace Ho:=Ho.grE hg (Ho.neLt (by omega))
   replace e:=e.gr hg (by omega)
   replace B2:=B2.gr hg (by omega)
   replace B3:=B3.gr hg (by omega)
   replace B4:=B4.gr hg (by omega)
   clear hg
   refine aa ?_
   simp only[Exit.then,Exit.inBlock,↓reduceIte]
   refine ac 2 hf (by decide +kernel) ?_
   refine st (mv rfl) ?_
   refine st ((add rfl rfl (by omega)).eq (congrArg (Value.int .i64) (show (k:Int)+1=((k+1:Nat):Int) from rfl))) ?_
   refine en fun a w e' hf=>?_
   replace Ho:=Ho.ext e'
   replace e:=e.tr e'
   replace B2:=B2.ext e'
   replace B3:=B3.ext e'
   replace B4:=B4.ext e'
   replace B5:=B5.ext e'
   refine ae hf rfl (by decide) fun a hf=>?_
   refine aa ?_
   replace hf:=hf.kp [2,3,4,5,6,7]
   refine⟨_,?_,k+1,v,_,rfl,by omega,hf,e,?_⟩
   ·omega
   exact⟨B2,B3,B4,B5,by rw[hs];exact Ho,hd.symm⟩
  ·replace hf:=hf.kp [2,3,4,5,6,7]
   refine ak ?_
   simp only[Exit.then,Exit.inBlock,↓reduceIte]
   rw[← hdn,if_neg (aC hb)] at hs
   have hd:(g.1.take (k+1)).any (fun y=>lt1 x.1 y.1)=dn:=by
    rw[ha,← hdn]
    cases hq:dn
    ·rw[hq] at hb;simpa using hb
    ·rfl
   have n2:=Ho.neLt (b:=b2) (by omega);have n3:=Ho.neLt (b:=b3) (by omega);have n4:=Ho.neLt (b:=b4) (by omega);have n5:=Ho.neLt (b:=b5) (by omega)
   refine reg 8 Mix.mix hf (by decide +kernel) ?_
   refine st (ai U36 rfl T33 (by decide) rfl) ?_
   refine st ((ld1 T33 rfl (by assumption) rfl).eq ((rfl:_=u))) ?_
   refine st (ai U36 rfl T33 (by decide) rfl) ?_
   refine st (ld1 T33 rfl B2 rfl) ?_
   refine st (mv rfl) ?_
   refine st (az U33 S73 (isE rfl (VA.st _ _ _ _ e h1b)) rfl (by omega) (hg)) ?_
   refine st (ev T73 (isR rfl)) ?_
   refine st (br U33 I73 rfl (by decide) rfl Ho.avs (eI rfl)) ?_
   refine en fun a w e' hf=>?_
   replace Ho:=Ho.ext e'
   replace e:=e.tr e'
   replace B2:=B2.ext e'
   replace B3:=B3.ext e'
   replace B4:=B4.ext e'
   replace B5:=B5.ext e'
   clear e'
   haveI hin:∀G0,InR (GB W G0) _:=OwR.inGB (W:=W) Ho (by omega)
   refine bs U33 I73 rfl rfl hf (by decide) rfl Ho (isR rfl) (by simp only[List.length_singleton,List.length_append];omega) (by simp only[List.length_singleton,List.length_append,maxLen];omega) fun a v w hg hat Hn hf=>?_
   replace e:=e.gro hg (Ho.row (W:=W) (by omega))
   have hrow:=Ho.row (W:=W) (by omega)
   replace Ho:=Hn
   clear hrow
   replace B2:=B2.gro hg (by assumption)
   replace B3:=B3.gro hg (by assumption)
   replace B4:=B4.gro hg (by assumption)
   replace B5:=B5.gro hg (by assumption)
   replace Ho:=Hn;clear Hn hg hat hin
   replace hf:=hf.kp [2,3,4,5,6,7,45]
   clear n2 n3 n4 n5
   refine ar hf (by decide) (ai U36 rfl T33 (by decide) rfl) fun a w e' hf=>?_
   replace Ho:=Ho.ext e'
   replace e:=e.tr e'
   replace B2:=B2.ext e'
   replace B3:=B3.ext e'
   replace B4:=B4.ext e'
   replace B5:=B5.ext e'
   clear e'
   refine aP T33 hf rfl rfl (slOne Ho.sl) B5 (by simp) fun w hg hsz B5 hf=>?_
   replace Ho:=Ho.grE hg (Ho.neLt (by omega))
   replace e:=e.gr hg (by omega)
   replace B2:=B2.gr hg (by omega)
   replace B3:=B3.gr hg (by omega)
   replace B4:=B4.gr hg (by omega)
   clear hg
   refine aa ?_
   simp only[Exit.then,Exit.inBlock,↓reduceIte]
   refine ac 2 hf (by decide +kernel) ?_
   refine st (mv rfl) ?_
   refine st ((add rfl rfl (by omega)).eq (congrArg (Value.int .i64) (show (k:Int)+1=((k+1:Nat):Int) from rfl))) ?_
   refine en fun a w e' hf=>?_
   replace Ho:=Ho.ext e'
   replace e:=e.tr e'
   replace B2:=B2.ext e'
   replace B3:=B3.ext e'
   replace B4:=B4.ext e'
   replace B5:=B5.ext e'
   refine ae hf rfl (by decide) fun a hf=>?_
   refine aa ?_
   replace hf:=hf.kp [2,3,4,5,6,7]
   refine⟨_,?_,k+1,v,_,rfl,by omega,hf,e,?_⟩
   ·omega
   exact⟨B2,B3,B4,B5,by rw[hs];exact Ho,hd.symm⟩
 ·obtain rfl:k=g.1.length:=by have:=of_decide_eq_false hc;(try dsimp only at this);omega
  clear hc
  simp only[Exit.then,Exit.inBlock,↓reduceIte]
  rw[List.take_length] at hdn
  have hend:=mQ (fun y:VT=>lt1 x.1 y.1) x g.1
  rw[← hdn] at hend
  have fin:∀(w:World) (z:Value) (L:List VT),Ext W w→OwR vtE 73 (b5+1) G w L z→L=bH (fun y=>lt1 x.1 y.1) x g.1→(Dv gtE G (insV g.1 x,g.2)).p (.agg #[z,.slice a2 n2 c2]) w:=fun w z L e Ho hL=>Dv.gt.2 ⟨_,_,rfl,by rw[insV,← hL];exact Ho.sl,VA.st _ _ _ _ e h2⟩
  repeat refine seq ?_
  refine ac 2 hf (by decide +kernel) ?_
  refine st (mv rfl) ?_
  refine st (aS rfl) ?_
  refine en fun a w e' hf=>?_
  replace Ho:=Ho.ext e'
  replace e:=e.tr e'
  replace B2:=B2.ext e'
  replace B3:=B3.ext e'
  replace B4:=B4.ext e'
  replace B5:=B5.ext e'
  refine aa ?_
  refine ifc hf rfl (fun hb=>?_) (fun hb=>?_)
  ·have hd:dn=false:=by simpa using hb
   rw[hd,if_neg (by decide)] at hend
   have n2:=Ho.neLt (b:=b2) (by omega);have n3:=Ho.neLt (b:=b3) (by omega);have n4:=Ho.neLt (b:=b4) (by omega);have n5:=Ho.neLt (b:=b5) (by omega)
   have hlk:=hl2 g.1.length
   refine ac 4 hf (by decide +kernel) ?_
   refine st (ai U36 rfl T33 (by decide) rfl) ?_
   refine st ((ld1 T33 rfl (by assumption) rfl).eq ((rfl:_=u))) ?_
   refine st ((ldW T73 rfl (by assumption) rfl).eq ((rfl:_=vtV x))) ?_
   refine st (br U33 I73 rfl (by decide) rfl Ho.avs (eI rfl)) ?_
   refine en fun a w e' hf=>?_
   replace Ho:=Ho.ext e'
   replace e:=e.tr e'
   replace B2:=B2.ext e'
   replace B3:=B3.ext e'
   replace B4:=B4.ext e'
   replace B5:=B5.ext e'
   clear e'
   haveI hin:∀G0,InR (GB W G0) _:=OwR.inGB (W:=W) Ho (by omega)
   refine bs U33 I73 rfl rfl hf (by decide) rfl Ho (isR rfl) (by simp only[List.length_singleton];omega) (by simp only[List.length_singleton,maxLen];omega) fun a v w hg hat Hn hf=>?_
   replace e:=e.gro hg (Ho.row (W:=W) (by omega))
   have hrow:=Ho.row (W:=W) (by omega)
   replace Ho:=Hn
   clear hrow
   replace B2:=B2.gro hg (by assumption)
   replace B3:=B3.gro hg (by assumption)
   replace B4:=B4.gro hg (by assumption)
   replace B5:=B5.gro hg (by assumption)
   replace Ho:=Hn;clear Hn hg hat hin
   replace hf:=hf.kp [2,3,4,5,7,53]
   clear n2 n3 n4 n5
   refine ar hf (by decide) (ai U36 rfl T33 (by decide) rfl) fun a w e' hf=>?_
   replace Ho:=Ho.ext e'
   replace e:=e.tr e'
   replace B2:=B2.ext e'
   replace B3:=B3.ext e'
   replace B4:=B4.ext e'
   replace B5:=B5.ext e'
   clear e'
   refine aP T33 hf rfl rfl (slOne Ho.sl) B5 (by simp) fun w hg hsz B5 hf=>?_
   replace Ho:=Ho.grE hg (Ho.neLt (by omega))
   replace e:=e.gr hg (by omega)
   replace B2:=B2.gr hg (by omega)
   replace B3:=B3.gr hg (by omega)
   replace B4:=B4.gr hg (by omega)
   clear hg
   refine aa ?_
   replace hf:=hf.kp [2,3,4,5,7]
   refine seq ?_
   refine ac 1 hf (by decide +kernel) ?_
   refine st ((ldW T36 rfl (by assumption) rfl).eq ((rfl:_=Value.agg #[v,.slice a2 n2 c2]))) ?_
   refine en fun a w e' hf=>?_
   replace Ho:=Ho.ext e'
   replace e:=e.tr e'
   replace B2:=B2.ext e'
   replace B3:=B3.ext e'
   replace B4:=B4.ext e'
   replace B5:=B5.ext e'
   clear e'
   haveI hinr:∀G0,InR (GB W G0) (some b4):=fun G0=>InR.gb (by omega)
   refine aD T36 hf rfl rfl (aX (slOne Ho.sl) rfl) B4 rfl (rfl) fun w hg hsz B4 hf=>?_
   replace Ho:=Ho.grE hg (Ho.neLt (by omega))
   replace e:=e.gr hg (by omega)
   replace B2:=B2.gr hg (by omega)
   replace B3:=B3.gr hg (by omega)
   replace B5:=B5.gr hg (by omega)
   clear hg
   refine aa ?_
   refine aj (cR rfl T36 hf rfl B4 rfl ?_)
   exact⟨_,rfl,e,fin _ _ _ e Ho hend⟩
  ·have hd:dn=true:=by simpa using hb
   rw[hd,if_pos rfl] at hend
   refine ak ?_
   simp only[Exit.then,Exit.inBlock,↓reduceIte]
   replace hf:=hf.kp [2,3,4,5,7]
   refine seq ?_
   refine ac 1 hf (by decide +kernel) ?_
   refine st ((ldW T36 rfl (by assumption) rfl).eq ((rfl:_=Value.agg #[u,.slice a2 n2 c2]))) ?_
   refine en fun a w e' hf=>?_
   replace Ho:=Ho.ext e'
   replace e:=e.tr e'
   replace B2:=B2.ext e'
   replace B3:=B3.ext e'
   replace B4:=B4.ext e'
   replace B5:=B5.ext e'
   clear e'
   haveI hinr:∀G0,InR (GB W G0) (some b4):=fun G0=>InR.gb (by omega)
   refine aD T36 hf rfl rfl (aX (slOne Ho.sl) rfl) B4 rfl (rfl) fun w hg hsz B4 hf=>?_
   replace Ho:=Ho.grE hg (Ho.neLt (by omega))
   replace e:=e.gr hg (by omega)
   replace B2:=B2.gr hg (by omega)
   replace B3:=B3.gr hg (by omega)
   replace B5:=B5.gr hg (by omega)
   clear hg
   refine aa ?_
   refine aj (cR rfl T36 hf rfl B4 rfl ?_)
   exact⟨_,rfl,e,fin _ _ _ e Ho hend⟩
theorem uH {G:Nat→Prop}(g:GT)(x:ET)(v:Value)(W:World)(h:(Dv gtE G g).p v W)(hG:∀b,G b→b<W.heap.size)(hl:g.2.length≤100000) :
  Calls Tryz.prog 62 #[v,etV x] W (Post (Dv gtE G (g.1,fc g.2 x)) W):=by
 obtain⟨u1,u2,rfl,h1,h2⟩:=Dv.gt.1 h
 obtain⟨a2,n2,c2,rfl⟩:=Dv.slF h1
 have h1b:=Dv.toB h2
 have hl2:=fun k=>mR (fun y:ET=>lt2 x.1 y.1) x g.2 k
 refine enter (args:=[.agg #[.slice a2 n2 c2,u2],etV x]) (As:=[E (.agg #[.slice a2 n2 c2,u2]),E (etV x)]) Tryz.func62 rfl Tryz.ntmps62 (Nat.le_of_ble_eq_true rfl) ?_ (fun a hf=>?_) (Nat.le_of_ble_eq_true rfl)
 rotate_left
 dsimp only[params,Nat.reduceAdd] at hf
 rotate_right
 ·exact arg2 rfl rfl
 have e:=Ext.rfl' W
 refine seq ?_
 refine ah ?_
 refine aH hf rfl (by decide) fun a b2 w v2 hv2 e' hb2 hs2 B2 hf=>?_
 have hle2:=Nat.le_trans e.size (Nat.le_of_eq hb2.symm)
 replace e:=e.tr e'
 clear e'
 refine aH hf rfl (by decide) fun a b3 w v3 hv3 e' hb3 hs3 B3 hf=>?_
 have hle3:=Nat.le_trans e.size (Nat.le_of_eq hb3.symm)
 have lt3_B2:=B2.lt
 replace e:=e.tr e'
 replace B2:=B2.ext e'
 clear e'
 refine aJ I36 hf (by decide) fun a b4 w e' hb4 hs4 B4 hf=>?_
 have hle4:=Nat.le_trans e.size (Nat.le_of_eq hb4.symm)
 have lt4_B2:=B2.lt
 have lt4_B3:=B3.lt
 replace e:=e.tr e'
 replace B2:=B2.ext e'
 replace B3:=B3.ext e'
 refine aa ?_
 cases hv2;cases hv3
 refine seq ?_
 refine ac 3 hf (by decide +kernel) ?_
 refine st (ai U36 rfl T33 (by decide) rfl) ?_
 refine st (ld1 T33 rfl (by assumption) rfl) ?_
 refine st (bh [(0,_)] rfl (uF a2 n2 c2)) ?_
 refine en fun a w e' hf=>?_
 replace e:=e.tr e'
 replace B2:=B2.ext e'
 replace B3:=B3.ext e'
 replace B4:=B4.ext e'
 clear e'
 refine aJ I36 hf (by decide) fun a b5 w e' hb5 hs5 B5 hf=>?_
 have hle5:=Nat.le_trans e.size (Nat.le_of_eq hb5.symm)
 have lt5_B2:=B2.lt
 have lt5_B3:=B3.lt
 have lt5_B4:=B4.lt
 replace e:=e.tr e'
 replace B2:=B2.ext e'
 replace B3:=B3.ext e'
 replace B4:=B4.ext e'
 clear e'
 haveI hinr:∀G0,InR (GB W G0) (some b5):=fun G0=>InR.gb (by omega)
 refine aD T36 hf rfl rfl (aX rfl rfl) B5 rfl (rfl) fun w hg hsz B5 hf=>?_
 replace e:=e.gr hg (by omega)
 replace B2:=B2.gr hg (by omega)
 replace B3:=B3.gr hg (by omega)
 replace B4:=B4.gr hg (by omega)
 clear hg
 refine aa ?_
 refine seq ?_
 refine ah ?_
 refine ae hf rfl (by decide) fun a hf=>?_
 refine aa ?_
 repeat refine seq ?_
 refine ah ?_
 refine ae hf rfl (by decide) fun a hf=>?_
 refine aa ?_
 replace hf:=hf.kp [2,3,4,5,6,7]
 refine blk (aG (fun r0 a w=>∃(k:Nat) (u:Value) (dn:Bool),r0=g.2.length - k∧k≤g.2.length∧Fr 68 a w [(2,E (.pointer (some ⟨b2,0,none⟩))),(3,E (.pointer (some ⟨b3,0,none⟩))),(4,E (.pointer (some ⟨b4,0,none⟩))),(5,E (.pointer (some ⟨b5,0,none⟩))),(6,E (.bool dn)),(7,E (I k))]∧Ext W w∧Blk w b2 #[.slice a2 n2 c2,u2] 36∧Blk w b3 (etV x).cells 76∧Blk w b4 #[.slice none 0 0,.slice none 0 0] 36∧Blk w b5 #[.slice a2 n2 c2,u] 36∧OwR etE 76 (b5+1) G w (du (fun y=>lt2 x.1 y.1) x g.2 k) u∧dn=(g.2.take k).any (fun y=>lt2 x.1 y.1)) g.2.length ⟨0,.slice none 0 0, false,rfl,by omega,hf,e,⟨B2,B3,B4,B5,OwR.nil etE _ (by have:=B5.lt;omega) fun b hb=>Nat.lt_of_lt_of_le (hG b hb) (by omega),by simp⟩⟩ ?_)
 clear hf e;try clear B2;try clear B3;try clear B4;try clear B5;try clear Ho;try clear hdn
 rintro r0 a w ⟨k,u,dn,rfl,hk,hf,e,B2,B3,B4,B5,Ho,hdn⟩
 repeat refine seq ?_
 refine ac 5 hf (by decide +kernel) ?_
 refine st (mv rfl) ?_
 refine st (ai U36 rfl T34 (by decide) rfl) ?_
 refine st (ld1 T34 rfl (by assumption) rfl) ?_
 refine st (ay U34 (isE rfl (VA.st _ _ _ _ e h2))) ?_
 refine st (lss rfl rfl) ?_
 refine en fun a w e' hf=>?_
 replace e:=e.tr e'
 replace B2:=B2.ext e'
 replace B3:=B3.ext e'
 replace B4:=B4.ext e'
 replace B5:=B5.ext e'
 replace Ho:=Ho.ext e'
 refine aa ?_
 refine ifc hf rfl (fun hc=>ak ?_) (fun hc=>aF ?_)
 rotate_left
 rotate_left
 ·have hlt:k<g.2.length:=by have:=of_decide_eq_true hc;(try dsimp only at this);omega
  clear hc
  replace hf:=hf.kp [2,3,4,5,6,7]
  refine seq ?_
  refine blk ?_
  have hg:=List.getElem?_eq_getElem hlt
  generalize g.2[k]=y at hg
  have hs:=mO (fun y:ET=>lt2 x.1 y.1) x g.2 hg
  have ha:=mP (fun y:ET=>lt2 x.1 y.1) g.2 hg
  have hlk:=hl2 k
  have hlk':=hl2 (k+1)
  refine seq ?_
  refine ah ?_
  refine ar hf (by decide) (ai U36 rfl T34 (by decide) rfl) fun a w e' hf=>?_
  replace Ho:=Ho.ext e'
  replace e:=e.tr e'
  replace B2:=B2.ext e'
  replace B3:=B3.ext e'
  replace B4:=B4.ext e'
  replace B5:=B5.ext e'
  clear e'
  refine ar hf (by decide) (ld1 T34 rfl B2 rfl) fun a w e' hf=>?_
  replace Ho:=Ho.ext e'
  replace e:=e.tr e'
  replace B2:=B2.ext e'
  replace B3:=B3.ext e'
  replace B4:=B4.ext e'
  replace B5:=B5.ext e'
  clear e'
  refine ar hf (by decide) (mv rfl) fun a w e' hf=>?_
  replace Ho:=Ho.ext e'
  replace e:=e.tr e'
  replace B2:=B2.ext e'
  replace B3:=B3.ext e'
  replace B4:=B4.ext e'
  replace B5:=B5.ext e'
  clear e'
  refine ar hf (by decide) (az U34 S76 (isE rfl (VA.st _ _ _ _ e h1b)) rfl (by omega) (hg)) fun a w e' hf=>?_
  replace Ho:=Ho.ext e'
  replace e:=e.tr e'
  replace B2:=B2.ext e'
  replace B3:=B3.ext e'
  replace B4:=B4.ext e'
  replace B5:=B5.ext e'
  clear e'
  refine ar hf (by decide) (eH T76 (isR rfl)) fun a w e' hf=>?_
  replace Ho:=Ho.ext e'
  replace e:=e.tr e'
  replace B2:=B2.ext e'
  replace B3:=B3.ext e'
  replace B4:=B4.ext e'
  replace B5:=B5.ext e'
  clear e'
  refine aJ I76 hf (by decide) fun a b8 w e' hb8 hs8 B8 hf=>?_
  have hle8:=Nat.le_trans e.size (Nat.le_of_eq hb8.symm)
  have ne8_Ho:=Ho.ne_new hb8
  have lt8_B2:=B2.lt
  have lt8_B3:=B3.lt
  have lt8_B4:=B4.lt
  have lt8_B5:=B5.lt
  replace Ho:=Ho.ext e'
  replace e:=e.tr e'
  replace B2:=B2.ext e'
  replace B3:=B3.ext e'
  replace B4:=B4.ext e'
  replace B5:=B5.ext e'
  clear e'
  have n8:=ne8_Ho
  replace hf:=hf.kp [2,3,4,5,6,7,8,23]
  refine aD T76 hf rfl rfl (by simp[Array.all_eq_true_iff_forall_mem];exact⟨rfl,rfl,rfl,rfl⟩) B8 rfl rfl fun w hg' hsz B8 hf=>?_
  replace e:=e.gr hg' (by omega);replace B2:=B2.gr hg' (by omega);replace B3:=B3.gr hg' (by omega);replace B4:=B4.gr hg' (by omega);replace B5:=B5.gr hg' (by omega);replace Ho:=Ho.grE hg' n8;clear hg'
  refine aa ?_
  have hll:lt2 x.1 y.1=(decide (x.1.1<y.1.1) || (y.1.1==x.1.1&&decide (x.1.2<y.1.2))):=by
   rw[Bool.eq_iff_iff];simp only[lt2,decide_eq_true_eq,Bool.or_eq_true,Bool.and_eq_true,beq_iff_eq];omega
  replace hf:=hf.kp [2,3,4,5,6,7,8]
  repeat refine seq ?_
  refine ac 23 hf (by decide +kernel) ?_
  refine st (mv rfl) ?_
  refine st (aS rfl) ?_
  refine st (mv rfl) ?_
  refine sgE rfl rfl (.k 8 rfl .n) (fun hgd=>ai U76 rfl T3 (by decide) rfl) ?_
  refine sgE rfl rfl (.c 27 rfl (fun h=>h) .n) (fun hgd=>ld1 T3 rfl B8 rfl) ?_
  refine sgE rfl rfl (.k 3 rfl .n) (fun hgd=>ai U76 rfl T3 (by decide) rfl) ?_
  refine sgE rfl rfl (.c 29 rfl (fun h=>h) .n) (fun hgd=>ld1 T3 rfl B3 rfl) ?_
  refine sgE rfl rfl (.c 28 rfl (fun h=>h) (.c 30 rfl (fun h=>h) .n)) (fun hgd=>gtr rfl rfl) ?_
  refine sgE rfl rfl (.c 31 rfl (fun h=>h) .n) (fun hgd=>mv rfl) ?_
  refine sgC rfl rfl (.k 8 rfl .n) (fun hgd=>ai U76 rfl T3 (by decide) rfl) ?_
  refine sgC rfl rfl (.c 33 rfl (fun h=>h) .n) (fun hgd=>ld1 T3 rfl B8 rfl) ?_
  refine sgC rfl rfl (.k 3 rfl .n) (fun hgd=>ai U76 rfl T3 (by decide) rfl) ?_
  refine sgC rfl rfl (.c 35 rfl (fun h=>h) .n) (fun hgd=>ld1 T3 rfl B3 rfl) ?_
  refine sgC rfl rfl (.c 34 rfl (fun h=>h) (.c 36 rfl (fun h=>h) .n)) (fun hgd=>eql rfl rfl) ?_
  refine sgC rfl rfl (.c 37 rfl (fun h=>h) .n) (fun hgd=>mv rfl) ?_
  refine sgC rfl rfl (.k 8 rfl .n) (fun hgd=>ai U76 rfl T3 (by decide) rfl) ?_
  refine sgC rfl rfl (.c 39 rfl (fun h=>h) .n) (fun hgd=>ld1 T3 rfl B8 rfl) ?_
  refine sgC rfl rfl (.k 3 rfl .n) (fun hgd=>ai U76 rfl T3 (by decide) rfl) ?_
  refine sgC rfl rfl (.c 41 rfl (fun h=>h) .n) (fun hgd=>ld1 T3 rfl B3 rfl) ?_
  refine sgC rfl rfl (.c 40 rfl (fun h=>h) (.c 42 rfl (fun h=>h) .n)) (fun hgd=>gtr rfl rfl) ?_
  refine sgC rfl rfl (.c 38 rfl (fun h=>h) (.k 43 rfl .n)) (fun hgd=>aW rfl rfl (fun h=>by rw[hgd,h];rfl)) ?_
  refine sgE rfl rfl (.c 32 rfl (fun h=>h) (.k 44 rfl .n)) (fun hgd=>aY rfl rfl (fun h=>by rw[hgd,h];rfl)) ?_
  refine st (aW rfl rfl (fun h=>by rw[h];rfl)) ?_
  refine en fun a w e' hf=>?_
  replace Ho:=Ho.ext e'
  replace e:=e.tr e'
  replace B2:=B2.ext e'
  replace B3:=B3.ext e'
  replace B4:=B4.ext e'
  replace B5:=B5.ext e'
  replace B8:=B8.ext e'
  refine aa ?_
  refine ifc hf rfl (fun hb=>?_) (fun hb=>?_)
  ·replace hf:=hf.kp [2,3,4,5,6,7,8]
   rw[← hll] at hb
   rw[← hdn,if_pos hb] at hs
   have hd:(g.2.take (k+1)).any (fun y=>lt2 x.1 y.1)=true:=by rw[ha];simp only[Bool.and_eq_true] at hb;rw[hb.2,Bool.or_true]
   have n2:=Ho.neLt (b:=b2) (by omega);have n3:=Ho.neLt (b:=b3) (by omega);have n4:=Ho.neLt (b:=b4) (by omega);have n5:=Ho.neLt (b:=b5) (by omega)
   refine seq ?_
   refine ac 4 hf (by decide +kernel) ?_
   refine st (ai U36 rfl T34 (by decide) rfl) ?_
   refine st ((ld1 T34 rfl (by assumption) rfl).eq ((rfl:_=u))) ?_
   refine st ((ldW T76 rfl B3 rfl).eq ((rfl:_=etV x))) ?_
   refine st (br U34 I76 rfl (by decide) rfl Ho.avs (eJ rfl)) ?_
   refine en fun a w e' hf=>?_
   replace Ho:=Ho.ext e'
   replace e:=e.tr e'
   replace B2:=B2.ext e'
   replace B3:=B3.ext e'
   replace B4:=B4.ext e'
   replace B5:=B5.ext e'
   replace B8:=B8.ext e'
   clear e'
   haveI hin:∀G0,InR (GB W G0) _:=OwR.inGB (W:=W) Ho (by omega)
   refine bs U34 I76 rfl rfl hf (by decide) rfl Ho (isR rfl) (by simp only[List.length_singleton];omega) (by simp only[List.length_singleton,maxLen];omega) fun a v w hg hat Hn hf=>?_
   replace e:=e.gro hg (Ho.row (W:=W) (by omega))
   have hrow:=Ho.row (W:=W) (by omega)
   replace Ho:=Hn
   clear hrow
   have n8':=mi hat n8 B8.lt
   replace B2:=B2.gro hg (by assumption)
   replace B3:=B3.gro hg (by assumption)
   replace B4:=B4.gro hg (by assumption)
   replace B5:=B5.gro hg (by assumption)
   replace B8:=B8.gro hg (by assumption)
   replace n8:=n8';clear n8'
   replace Ho:=Hn;clear Hn hg hat hin
   replace hf:=hf.kp [2,3,4,5,7,8,51]
   clear n2 n3 n4 n5
   refine ar hf (by decide) (ai U36 rfl T34 (by decide) rfl) fun a w e' hf=>?_
   replace Ho:=Ho.ext e'
   replace e:=e.tr e'
   replace B2:=B2.ext e'
   replace B3:=B3.ext e'
   replace B4:=B4.ext e'
   replace B5:=B5.ext e'
   replace B8:=B8.ext e'
   clear e'
   refine aP T34 hf rfl rfl (slOne Ho.sl) B5 (by simp) fun w hg hsz B5 hf=>?_
   replace Ho:=Ho.grE hg (Ho.neLt (by omega))
   replace e:=e.gr hg (by omega)
   replace B2:=B2.gr hg (by omega)
   replace B3:=B3.gr hg (by omega)
   replace B4:=B4.gr hg (by omega)
   replace B8:=B8.gr hg (by omega)
   clear hg
   refine aa ?_
   replace hf:=hf.kp [2,3,4,5,7,8]
   refine ah ?_
   refine ae hf rfl (by decide) fun a hf=>?_
   refine aa ?_
   replace hf:=hf.kp [2,3,4,5,6,7,8]
   have n2:=Ho.neLt (b:=b2) (by omega);have n3:=Ho.neLt (b:=b3) (by omega);have n4:=Ho.neLt (b:=b4) (by omega);have n5:=Ho.neLt (b:=b5) (by omega)
   refine ac 4 hf (by decide +kernel) ?_
   refine st (ai U36 rfl T34 (by decide) rfl) ?_
   refine st ((ld1 T34 rfl (by assumption) rfl).eq ((rfl:_=v))) ?_
   refine st ((ldW T76 rfl B8 rfl).eq ((rfl:_=etV y))) ?_
   refine st (br U34 I76 rfl (by decide) rfl Ho.avs (eJ rfl)) ?_
   refine en fun a w e' hf=>?_
   replace Ho:=Ho.ext e'
   replace e:=e.tr e'
   replace B2:=B2.ext e'
   replace B3:=B3.ext e'
   replace B4:=B4.ext e'
   replace B5:=B5.ext e'
   replace B8:=B8.ext e'
   clear e'
   haveI hin:∀G0,InR (GB W G0) _:=OwR.inGB (W:=W) Ho (by omega)
   refine bs U34 I76 rfl rfl hf (by decide) rfl Ho (isR rfl) (by simp only[List.length_singleton,List.length_append];omega) (by simp only[List.length_singleton,List.length_append,maxLen];omega) fun a v w hg hat Hn hf=>?_
   replace e:=e.gro hg (Ho.row (W:=W) (by omega))
   have hrow:=Ho.row (W:=W) (by omega)
   replace Ho:=Hn
   clear hrow
   replace B2:=B2.gro hg (by assumption)
   replace B3:=B3.gro hg (by assumption)
   replace B4:=B4.gro hg (by assumption)
   replace B5:=B5.gro hg (by assumption)
   replace B8:=B8.gro hg (by assumption)
   replace Ho:=Hn;clear Hn hg hat hin
   replace hf:=hf.kp [2,3,4,5,6,7,57]
   clear n2 n3 n4 n5
   refine ar hf (by decide) (ai U36 rfl T34 (by decide) rfl) fun a w e' hf=>?_
   replace Ho:=Ho.ext e'
   replace e:=e.tr e'
   replace B2:=B2.ext e'
   replace B3:=B3.ext e'
   replace B4:=B4.ext e'
   replace B5:=B5.ext e'
   replace B8:=B8.ext e'
   clear e'
   refine aP T34 hf rfl rfl (slOne Ho.sl) B5 (by simp) fun w hg hsz B5 hf=>?_
   replace Ho:=Ho.grE hg (Ho.neLt (by omega))
   replace e:=e.gr hg (by omega)
   replace B2:=B2.gr hg (by omega)
   replace B3:=B3.gr hg (by omega)
   replace B4:=B4.gr hg (by omega)
   replace B8:=B8.gr hg (by omega)
   clear hg
   refine aa ?_
   simp only[Exit.then,Exit.inBlock,↓reduceIte]
   refine ac 2 hf (by decide +kernel) ?_
   refine st (mv rfl) ?_
   refine st ((add rfl rfl (by omega)).eq (congrArg (Value.int .i64) (show (k:Int)+1=((k+1:Nat):Int) from rfl))) ?_
   refine en fun a w e' hf=>?_
   replace Ho:=Ho.ext e'
   replace e:=e.tr e'
   replace B2:=B2.ext e'
   replace B3:=B3.ext e'
   replace B4:=B4.ext e'
   replace B5:=B5.ext e'
   replace B8:=B8.ext e'
   refine ae hf rfl (by decide) fun a hf=>?_
   refine aa ?_
   replace hf:=hf.kp [2,3,4,5,6,7]
   refine⟨_,?_,k+1,v,_,rfl,by omega,hf,e,?_⟩
   ·omega
   exact⟨B2,B3,B4,B5,by rw[hs];exact Ho,hd.symm⟩
  ·replace hf:=hf.kp [2,3,4,5,6,7,8]
   refine ak ?_
   simp only[Exit.then,Exit.inBlock,↓reduceIte]
   rw[← hll] at hb
   rw[← hdn,if_neg (aC hb)] at hs
   have hd:(g.2.take (k+1)).any (fun y=>lt2 x.1 y.1)=dn:=by
    rw[ha,← hdn]
    cases hq:dn
    ·rw[hq] at hb;simpa using hb
    ·rfl
   have n2:=Ho.neLt (b:=b2) (by omega);have n3:=Ho.neLt (b:=b3) (by omega);have n4:=Ho.neLt (b:=b4) (by omega);have n5:=Ho.neLt (b:=b5) (by omega)
   refine ac 4 hf (by decide +kernel) ?_
   refine st (ai U36 rfl T34 (by decide) rfl) ?_
   refine st ((ld1 T34 rfl (by assumption) rfl).eq ((rfl:_=u))) ?_
   refine st ((ldW T76 rfl B8 rfl).eq ((rfl:_=etV y))) ?_
   refine st (br U34 I76 rfl (by decide) rfl Ho.avs (eJ rfl)) ?_
   refine en fun a w e' hf=>?_
   replace Ho:=Ho.ext e'
   replace e:=e.tr e'
   replace B2:=B2.ext e'
   replace B3:=B3.ext e'
   replace B4:=B4.ext e'
   replace B5:=B5.ext e'
   replace B8:=B8.ext e'
   clear e'
   haveI hin:∀G0,InR (GB W G0) _:=OwR.inGB (W:=W) Ho (by omega)
   refine bs U34 I76 rfl rfl hf (by decide) rfl Ho (isR rfl) (by simp only[List.length_singleton,List.length_append];omega) (by simp only[List.length_singleton,List.length_append,maxLen];omega) fun a v w hg hat Hn hf=>?_
   replace e:=e.gro hg (Ho.row (W:=W) (by omega))
   have hrow:=Ho.row (W:=W) (by omega)
   replace Ho:=Hn
   clear hrow
   replace B2:=B2.gro hg (by assumption)
   replace B3:=B3.gro hg (by assumption)
   replace B4:=B4.gro hg (by assumption)
   replace B5:=B5.gro hg (by assumption)
   replace B8:=B8.gro hg (by assumption)
   replace Ho:=Hn;clear Hn hg hat hin
   replace hf:=hf.kp [2,3,4,5,6,7,57]
   clear n2 n3 n4 n5
   refine ar hf (by decide) (ai U36 rfl T34 (by decide) rfl) fun a w e' hf=>?_
   replace Ho:=Ho.ext e'
   replace e:=e.tr e'
   replace B2:=B2.ext e'
   replace B3:=B3.ext e'
   replace B4:=B4.ext e'
   replace B5:=B5.ext e'
   replace B8:=B8.ext e'
   clear e'
   refine aP T34 hf rfl rfl (slOne Ho.sl) B5 (by simp) fun w hg hsz B5 hf=>?_
   replace Ho:=Ho.grE hg (Ho.neLt (by omega))
   replace e:=e.gr hg (by omega)
   replace B2:=B2.gr hg (by omega)
   replace B3:=B3.gr hg (by omega)
   replace B4:=B4.gr hg (by omega)
   replace B8:=B8.gr hg (by omega)
   clear hg
   refine aa ?_
   simp only[Exit.then,Exit.inBlock,↓reduceIte]
   refine ac 2 hf (by decide +kernel) ?_
   refine st (mv rfl) ?_
   refine st ((add rfl rfl (by omega)).eq (congrArg (Value.int .i64) (show (k:Int)+1=((k+1:Nat):Int) from rfl))) ?_
   refine en fun a w e' hf=>?_
   replace Ho:=Ho.ext e'
   replace e:=e.tr e'
   replace B2:=B2.ext e'
   replace B3:=B3.ext e'
   replace B4:=B4.ext e'
   replace B5:=B5.ext e'
   replace B8:=B8.ext e'
   refine ae hf rfl (by decide) fun a hf=>?_
   refine aa ?_
   replace hf:=hf.kp [2,3,4,5,6,7]
   refine⟨_,?_,k+1,v,_,rfl,by omega,hf,e,?_⟩
   ·omega
   exact⟨B2,B3,B4,B5,by rw[hs];exact Ho,hd.symm⟩
 ·obtain rfl:k=g.2.length:=by have:=of_decide_eq_false hc;(try dsimp only at this);omega
  clear hc
  simp only[Exit.then,Exit.inBlock,↓reduceIte]
  rw[List.take_length] at hdn
  have hend:=mQ (fun y:ET=>lt2 x.1 y.1) x g.2
  rw[← hdn] at hend
  have fin:∀(w:World) (z:Value) (L:List ET),Ext W w→OwR etE 76 (b5+1) G w L z→L=bH (fun y=>lt2 x.1 y.1) x g.2→(Dv gtE G (g.1,fc g.2 x)).p (.agg #[.slice a2 n2 c2,z]) w:=fun w z L e Ho hL=>Dv.gt.2 ⟨_,_,rfl,VA.st _ _ _ _ e h1,by rw[fc,← hL];exact Ho.sl⟩
  repeat refine seq ?_
  refine ac 2 hf (by decide +kernel) ?_
  refine st (mv rfl) ?_
  refine st (aS rfl) ?_
  refine en fun a w e' hf=>?_
  replace Ho:=Ho.ext e'
  replace e:=e.tr e'
  replace B2:=B2.ext e'
  replace B3:=B3.ext e'
  replace B4:=B4.ext e'
  replace B5:=B5.ext e'
  refine aa ?_
  refine ifc hf rfl (fun hb=>?_) (fun hb=>?_)
  ·have hd:dn=false:=by simpa using hb
   rw[hd,if_neg (by decide)] at hend
   have n2:=Ho.neLt (b:=b2) (by omega);have n3:=Ho.neLt (b:=b3) (by omega);have n4:=Ho.neLt (b:=b4) (by omega);have n5:=Ho.neLt (b:=b5) (by omega)
   have hlk:=hl2 g.2.length
   refine ac 4 hf (by decide +kernel) ?_
   refine st (ai U36 rfl T34 (by decide) rfl) ?_
   refine st ((ld1 T34 rfl (by assumption) rfl).eq ((rfl:_=u))) ?_
   refine st ((ldW T76 rfl B3 rfl).eq ((rfl:_=etV x))) ?_
   refine st (br U34 I76 rfl (by decide) rfl Ho.avs (eJ rfl)) ?_
   refine en fun a w e' hf=>?_
   replace Ho:=Ho.ext e'
   replace e:=e.tr e'
   replace B2:=B2.ext e'
   replace B3:=B3.ext e'
   replace B4:=B4.ext e'
   replace B5:=B5.ext e'
   clear e'
   haveI hin:∀G0,InR (GB W G0) _:=OwR.inGB (W:=W) Ho (by omega)
   refine bs U34 I76 rfl rfl hf (by decide) rfl Ho (isR rfl) (by simp only[List.length_singleton];omega) (by simp only[List.length_singleton,maxLen];omega) fun a v w hg hat Hn hf=>?_
   replace e:=e.gro hg (Ho.row (W:=W) (by omega))
   have hrow:=Ho.row (W:=W) (by omega)
   replace Ho:=Hn
   clear hrow
   replace B2:=B2.gro hg (by assumption)
   replace B3:=B3.gro hg (by assumption)
   replace B4:=B4.gro hg (by assumption)
   replace B5:=B5.gro hg (by assumption)
   replace Ho:=Hn;clear Hn hg hat hin
   replace hf:=hf.kp [2,3,4,5,7,65]
   clear n2 n3 n4 n5
   refine ar hf (by decide) (ai U36 rfl T34 (by decide) rfl) fun a w e' hf=>?_
   replace Ho:=Ho.ext e'
   replace e:=e.tr e'
   replace B2:=B2.ext e'
   replace B3:=B3.ext e'
   replace B4:=B4.ext e'
   replace B5:=B5.ext e'
   clear e'
   refine aP T34 hf rfl rfl (slOne Ho.sl) B5 (by simp) fun w hg hsz B5 hf=>?_
   replace Ho:=Ho.grE hg (Ho.neLt (by omega))
   replace e:=e.gr hg (by omega)
   replace B2:=B2.gr hg (by omega)
   replace B3:=B3.gr hg (by omega)
   replace B4:=B4.gr hg (by omega)
   clear hg
   refine aa ?_
   replace hf:=hf.kp [2,3,4,5,7]
   refine seq ?_
   refine ac 1 hf (by decide +kernel) ?_
   refine st ((ldW T36 rfl (by assumption) rfl).eq ((rfl:_=Value.agg #[.slice a2 n2 c2,v]))) ?_
   refine en fun a w e' hf=>?_
   replace Ho:=Ho.ext e'
   replace e:=e.tr e'
   replace B2:=B2.ext e'
   replace B3:=B3.ext e'
   replace B4:=B4.ext e'
   replace B5:=B5.ext e'
   clear e'
   haveI hinr:∀G0,InR (GB W G0) (some b4):=fun G0=>InR.gb (by omega)
   refine aD T36 hf rfl rfl (aX rfl (slOne Ho.sl)) B4 rfl (rfl) fun w hg hsz B4 hf=>?_
   replace Ho:=Ho.grE hg (Ho.neLt (by omega))
   replace e:=e.gr hg (by omega)
   replace B2:=B2.gr hg (by omega)
   replace B3:=B3.gr hg (by omega)
   replace B5:=B5.gr hg (by omega)
   clear hg
   refine aa ?_
   refine aj (cR rfl T36 hf rfl B4 rfl ?_)
   exact⟨_,rfl,e,fin _ _ _ e Ho hend⟩
  ·have hd:dn=true:=by simpa using hb
   rw[hd,if_pos rfl] at hend
   refine ak ?_
   simp only[Exit.then,Exit.inBlock,↓reduceIte]
   replace hf:=hf.kp [2,3,4,5,7]
   refine seq ?_
   refine ac 1 hf (by decide +kernel) ?_
   refine st ((ldW T36 rfl (by assumption) rfl).eq ((rfl:_=Value.agg #[.slice a2 n2 c2,u]))) ?_
   refine en fun a w e' hf=>?_
   replace Ho:=Ho.ext e'
   replace e:=e.tr e'
   replace B2:=B2.ext e'
   replace B3:=B3.ext e'
   replace B4:=B4.ext e'
   replace B5:=B5.ext e'
   clear e'
   haveI hinr:∀G0,InR (GB W G0) (some b4):=fun G0=>InR.gb (by omega)
   refine aD T36 hf rfl rfl (aX rfl (slOne Ho.sl)) B4 rfl (rfl) fun w hg hsz B4 hf=>?_
   replace Ho:=Ho.grE hg (Ho.neLt (by omega))
   replace e:=e.gr hg (by omega)
   replace B2:=B2.gr hg (by omega)
   replace B3:=B3.gr hg (by omega)
   replace B5:=B5.gr hg (by omega)
   clear hg
   refine aa ?_
   refine aj (cR rfl T36 hf rfl B4 rfl ?_)
   exact⟨_,rfl,e,fin _ _ _ e Ho hend⟩
end Go.Mono
namespace Go.Mono
open Go Go.RowKit Go.Gr
structure KV (P:Program)(α β:Type) where
 k:TypeId
 e:TypeId
 kv:α→Value
 kl:α→Lit
 ok:α→Prop
 mv:β→Value
 dv:β→DataW Unit
 okv:β→Prop
 R:Value→Option (DataW Unit×List MemPlace)
 K:Maps.Keyed P k
 key:∀x,ok x→keyOf P k (kv x)=some (kl x)
 keyInv:∀v l,keyOf P k v=some l→∃x,ok x∧v=kv x∧l=kl x
 kvInj:∀x y,kv x=kv y→x=y
 val:∀c,okv c→R (mv c)=some (dv c,[])
 valInv:∀v y,R v=some y→∃c,okv c∧v=mv c∧y=(dv c,[])
 dvInj:∀c c',dv c=dv c'→c=c'
variable {P:Program}{α β:Type}{V:KV P α β}{w w':World}{b n:Nat}{l:List (α×β)}
def KV.enc (V:KV P α β)(p:α×β):Lit×DataW Unit:=(V.kl p.1,V.dv p.2)
def MpR (V:KV P α β)(w:World)(b n:Nat)(l:List (α×β)):Prop:=
 ∃es,w.ownsMap P V.k V.R b n (.map es)∧es.Perm (l.map V.enc)∧(∀p∈l,V.ok p.1∧V.okv p.2)∧l.Pairwise fun p q=>p.1≠q.1
theorem MpR.lt (h:MpR V w b n l):b<w.heap.size:=by obtain⟨es,h,_⟩:=h;exact h.lt
theorem MpR.pres (h:MpR V w b n l)(hb:w'.heap[b]?=w.heap[b]?):MpR V w' b n l:=by
 obtain⟨D,⟨es,clock,h1,h2⟩,h3⟩:=h
 exact⟨D,⟨es,clock,hb.trans h1,h2⟩,h3⟩
theorem MpR.ext (h:MpR V w b n l)(e':Ext w w'):MpR V w' b n l:=h.pres (e'.block b h.lt)
instance:Ug w w' (MpR V w b n l) (MpR V w' b n l):=⟨fun e h=>h.ext e⟩
theorem MpR.gr (h:MpR V w b n l){c:Option Nat}(hg:w.grownBy w' c)(hne:some b≠c):MpR V w' b n l:=h.pres (hg.block b h.lt hne)
instance {d:Nat}:Gg d w w' (MpR V w b n l) (b≠d) (MpR V w' b n l):=⟨fun g s h=>h.gr g fun e=>s (Option.some.inj e)⟩
theorem MpR.perm {l':List (α×β)}(h:MpR V w b n l)(hp:l.Perm l'):MpR V w b n l':=by
 obtain⟨es,h1,h2,h3,h4⟩:=h
 exact⟨es,h1,h2.trans (hp.map _),fun p hp'=>h3 p (hp.mem_iff.2 hp'),(hp.pairwise_iff (fun {_ _} hne=>Ne.symm hne)).1 h4⟩
theorem MpR.mono {n':Nat}(h:MpR V w b n l)(hn:n≤n'):MpR V w b n' l:=by
 obtain⟨es,h1,h2⟩:=h
 exact⟨es,h1.mono hn,h2⟩
theorem MpR.made (V:KV P α β)(w:World):MpR V (w.alloc (.map #[] 0)) w.heap.size 0 []:=
 ⟨[],World.ownsMap_made w P _ _,List.Perm.refl _,fun p hp=>by simp at hp,List.Pairwise.nil⟩
theorem KV.isKey (V:KV P α β){x:α}(hx:V.ok x):WideAt.IsKeyLit (V.kl x):=V.K.one.key ⟨_,V.key x hx⟩
theorem KV.klInj (V:KV P α β){x y:α}(hx:V.ok x)(hy:V.ok y)(h:V.kl x=V.kl y):x=y:=V.kvInj _ _ (V.K.inj (V.key x hx) (by rw[h];exact V.key y hy))
theorem MpR.len {t e:TypeId}(h:MpR V w b n l)(ht:P.underlying t=some (.map V.k e))(ty:TypeId):(Builtin.len_ #[t] ty #[.map (some b)]).run P w=.ok (.int .i64 (l.length:Nat)) w:=by
 obtain⟨es,h1,h2,_⟩:=h
 have:=h1.len ht ty
 rw[Maps.size_eq,h2.length_eq,List.length_map] at this;exact this
variable [DecidableEq α]
theorem KV.same (V:KV P α β){x y:α}(hx:V.ok x)(hy:V.ok y):(V.kl y).sameKey (V.kl x)=decide (y=x):=by
 by_cases h:y=x
 ·subst h;simp[WideAt.sameKey_self (V.isKey hx)]
 ·rw[Maps.sameKey_ne fun e=>h (V.klInj hy hx e)];simp[h]
theorem MpR.has {x:α}(h:MpR V w b n l)(hx:V.ok x):∃D,w.ownsMap P V.k V.R b n D∧Maps.has D (V.kl x)=l.any (fun p=>decide (p.1=x))∧(∀c,(x,c)∈l→∀z,D.atKey (V.kl x) z=V.dv c)∧((∀c,(x,c) ∉ l)→∀z,D.atKey (V.kl x) z=z)∧Maps.size D=l.length:=by
 obtain⟨es,h1,h2,h3,h4⟩:=h
 have hany:es.any (fun p=>p.1.sameKey (V.kl x))=l.any (fun p=>decide (p.1=x)):=by
  rw[h2.any_eq,List.any_map,Bool.eq_iff_iff]
  simp only[List.any_eq_true,Function.comp,KV.enc]
  exact⟨fun⟨p,hp,hq⟩=>⟨p,hp,by rwa [V.same hx (h3 p hp).1] at hq⟩,fun⟨p,hp,hq⟩=>⟨p,hp,by rwa [V.same hx (h3 p hp).1]⟩⟩
 refine⟨_,h1,hany,fun c hc z=>?_,fun hc z=>?_,by rw[Maps.size_eq,h2.length_eq,List.length_map]⟩
 ·have hm:V.enc (x,c)∈es:=h2.mem_iff.2 (List.mem_map_of_mem hc)
  obtain⟨es',hD,hpw,_⟩:=h1.entries V.K
  cases hD
  simp only[DataW.atKey]
  cases hf:es.find? (fun p=>p.1.sameKey (V.kl x)) with
  | none=>
   have:=List.find?_eq_none.1 hf _ hm
   simp[KV.enc,WideAt.sameKey_self (V.isKey hx)] at this
  | some q=>
   have hq:=List.mem_of_find?_eq_some hf
   have hq2:=List.find?_some hf
   obtain⟨p,hp,rfl⟩:=List.mem_map.1 (h2.mem_iff.1 hq)
   have:p.1=x:=by rw[KV.enc,V.same hx (h3 p hp).1] at hq2;simpa using hq2
   have hpc:p=(x,c):=by
    apply Classical.byContradiction
    intro hne
    have h5:∀{m:List (α×β)},m.Pairwise (fun p q=>p.1≠q.1)→p∈m→(x,c)∈m→False:=by
     intro m
     induction m with
     | nil=>intro _ hp;simp at hp
     | cons y r ih=>
      intro hm hp hc
      obtain⟨h6,h7⟩:=List.pairwise_cons.1 hm
      rcases List.mem_cons.1 hp with rfl|hp' <;> rcases List.mem_cons.1 hc with hy|hc'
      ·exact hne hy.symm
      ·exact h6 _ hc' this
      ·exact h6 _ hp' (by rw[← hy];exact this.symm)
      ·exact ih h7 hp' hc'
    exact h5 h4 hp hc
   rw[hpc];rfl
 ·simp only[DataW.atKey]
  rw[List.find?_eq_none.2 fun p hp=>?_]
  obtain⟨q,hq,rfl⟩:=List.mem_map.1 (h2.mem_iff.1 hp)
  rw[KV.enc,V.same hx (h3 q hq).1]
  simp only[decide_eq_true_eq]
  rintro rfl
  exact hc q.2 hq
theorem jN (x:Lit×DataW Unit):∀l:List (Lit×DataW Unit),(DataW.insert x l).Perm (x::l)
 | []=>by simp[DataW.insert]
 | y::r=>by
  unfold DataW.insert
  split
  ·exact List.Perm.refl _
  ·exact ((jN x r).cons y).trans (List.Perm.swap x y r)
def bw (l:List (α×β))(x:α)(c:β):List (α×β):=(x,c)::l.filter fun p => !decide (p.1=x)
theorem MpR.put {t:TypeId}{x:α}{c:β}(h:MpR V w b n l)(hx:V.ok x)(hc:V.okv c)(ht:P.underlying t=some (.map V.k V.e))(hn:n<maxLen) :
  ∃w',(Instr.mapUpdate t (.map (some b)) (V.kv x) (V.mv c)).run P w=.ok () w'∧MpR V w' b (n+1) (bw l x c)∧w.grownBy w' (some b):=by
 obtain⟨es,h1,h2,h3,h4⟩:=h
 obtain⟨w',r1,r2,r3⟩:=h1.update V.K ht hn (V.key x hx) (V.val c hc)
 refine⟨w',r1,⟨_,r2,?_,?_,?_⟩,r3⟩
 ·refine (jN _ _).trans ?_
  rw[bw,List.map_cons]
  refine List.Perm.cons _ ?_
  have:=h2.filter (fun p => !p.1.sameKey (V.kl x))
  refine this.trans ?_
  rw[List.filter_map]
  rw[List.filter_congr (q:=fun p:α×β => !decide (p.1=x)) fun p hp=>by simp only[Function.comp,KV.enc,V.same hx (h3 p hp).1]]
 ·intro p hp
  rcases List.mem_cons.1 hp with rfl|hp
  ·exact⟨hx,hc⟩
  ·exact h3 p (List.mem_filter.1 hp).1
 ·refine List.pairwise_cons.2 ⟨fun q hq=>?_,h4.filter _⟩
  have:=(List.mem_filter.1 hq).2
  simp only[Bool.not_eq_true',decide_eq_false_iff_not] at this
  exact fun h=>this h.symm
theorem MpR.get {t:TypeId}{x:α}{z:β}(h:MpR V w b n l)(hx:V.ok x)(ht:P.underlying t=some (.map V.k V.e))(hz:(zeroValue V.e).run P w=.ok (V.mv z) w)(hzo:V.okv z) :
  ∃c,(Instr.lookup t (.map (some b)) (V.kv x) true).run P w=.ok (.tuple #[V.mv c,.bool (l.any fun p=>decide (p.1=x))]) w∧((∃c',(x,c')∈l)→(x,c)∈l)∧((∀c',(x,c') ∉ l)→c=z):=by
 obtain⟨D,h1,h2,h3,h4,_⟩:=h.has hx
 obtain⟨v,ps,r1,r2⟩:=h1.look_ok V.K ht hz (V.val z hzo) (V.key x hx)
 obtain⟨c,hc,rfl,hy⟩:=V.valInv _ _ r2
 rw[h2] at r1
 refine⟨c,r1,fun⟨c',hc'⟩=>?_,fun hno=>?_⟩
 ·have:=congrArg Prod.fst hy
  simp only at this
  rw[h3 c' hc'] at this
  rw[← V.dvInj _ _ this];exact hc'
 ·have:=congrArg Prod.fst hy
  simp only at this
  rw[h4 hno] at this
  exact (V.dvInj _ _ this).symm
def mpE (V:KV P α β)(N:Nat):Enc (List (α×β)) where
 k:=1
 agg:=false
 r:=fun G w l cs=>∃b n,cs=[.map (some b)]∧¬G b∧n≤N∧MpR V w b n l
 pos:=by decide
 k1:=fun _=>rfl
 len:=fun⟨b,n,h,_⟩=>by rw[h];rfl
 one:=fun⟨b,n,h,_⟩ u hu=>by rw[h] at hu;simp at hu;subst hu;rfl
 pres:=fun⟨b,n,h1,h2,h3,h4⟩ hk hs=>⟨b,n,h1,h2,h3,h4.pres (hk b h4.lt h2)⟩
 weak:=fun⟨b,n,h1,h2,h3,h4⟩ hk=>⟨b,n,h1,fun hg=>h2 (hk b h4.lt hg),h3,h4⟩
section
variable {w0:World}{L:Env}{dst:Option Tmp}{ty:TypeId}{pos:String}{aft:Array Edge}{g:Option (Nat×Bool)}{x y:Operand}{t:TypeId}{G:Nat→Prop}{N:Nat}
theorem uI {γ δ:Type}{V:KV P γ δ}{l:List (γ×δ)}(ht:P.underlying t=some (.map V.k V.e))(hx:Is L w0 x (Dv (mpE V N) G l)):OpC P w0 L ⟨dst,.call ⟨.builtin .len,#[x],#[t]⟩,ty,pos,aft,g⟩ (E (.int .i64 (l.length:Nat))):=
 aI fun ρ w he hv=>by
  obtain⟨cs,⟨b,n,h1,_,_,h2⟩,h3⟩:=hx.v he hv (by simp[Op.operands,Call.operands])
  subst h1
  have h5:ρ x=.map (some b):=h3
  refine⟨_,?_,rfl⟩
  simp[execOp,resolve,invoke,builtin,h5,h2.len ht]
def nU (V:KV P α β)(l:List (α×β))(i:α)(z:β):VA:=⟨fun v _=>∃c,v=V.mv c∧((∃c',(i,c')∈l)→(i,c)∈l)∧((∀c',(i,c') ∉ l)→c=z),fun _ _ _ _ h=>h⟩
theorem jO {i:α}{z:β}(ht:P.underlying t=some (.map V.k V.e))(hz:∀w,(zeroValue V.e).run P w=.ok (V.mv z) w)(hzo:V.okv z)(hx:Is L w0 x (Dv (mpE V N) G l))(hy:opd L y=some (E (V.kv i)))(hi:V.ok i) :
  OpC P w0 L ⟨dst,.lookup t x y true,ty,pos,aft,g⟩ (Tup [nU V l i z,E (.bool (l.any fun p=>decide (p.1=i)))]):=
 aI fun ρ w he' hv=>by
  obtain⟨cs,⟨b,n,h1,_,_,h2⟩,h4⟩:=hx.v he' hv (by simp[Op.operands])
  subst h1
  have h5:ρ x=.map (some b):=h4
  have h6:=opE hv (x:=y) (by simp[Op.operands]) hy
  obtain⟨c,h7,h8,h9⟩:=h2.get hi ht (hz w) hzo
  exact⟨_,by simp only[execOp,h5,h6,Sem.run_bind,h7,Result.andThen_ok,Sem.run_pure],Tup.two ⟨c,rfl,h8,h9⟩ rfl⟩
end
theorem uJ {P:Program} {k t1 m:Nat} {fs:Array Field} {f1 f2:Field} (hu:P.underlying k=some (.struct fs)) (hfs:fs = #[f1,f2]) (h1:f1.type=t1∧f1.offset=0∧(f1.name != "_")=true) (h2:f2.type=t1∧f2.offset=1∧(f2.name != "_")=true)
  (ht:P.underlying t1=some (.int .i64)) (hc1:P.cellsOf t1=1) (hc:P.cellsOf k=2) (hk:P.keyType k=true) (hm:P.types.size=m+1) {a b:Int} (ha:(Lit.int .i64 a).wf=true) (hb:(Lit.int .i64 b).wf=true) :
  keyOf P k (.agg #[.int .i64 a,.int .i64 b])=some (.string (keyBytes [.int .i64 a,.int .i64 b])):=by
 subst hfs
 obtain⟨e1,e2,e3⟩:=h1
 obtain⟨e4,e5,e6⟩:=h2
 simp[keyOf,hu,hk,Value.formed,hc,hm,Program.keyLits,e1,e2,e3,e4,e5,e6,ht,hc1,ha,hb,Value.cells]
theorem uK {P:Program} {k t1 m:Nat} {fs:Array Field} {f1 f2:Field} (hu:P.underlying k=some (.struct fs)) (hfs:fs = #[f1,f2]) (h1:f1.type=t1∧f1.offset=0∧(f1.name != "_")=true) (h2:f2.type=t1∧f2.offset=1∧(f2.name != "_")=true)
  (ht:P.underlying t1=some (.int .i64)) (hc1:P.cellsOf t1=1) (hc:P.cellsOf k=2) (hm:P.types.size=m+1) {v:Value} {l:Lit} (h:keyOf P k v=some l) :
  ∃a b,((Lit.int .i64 a).wf=true∧(Lit.int .i64 b).wf=true)∧v=.agg #[.int .i64 a,.int .i64 b]∧l=.string (keyBytes [.int .i64 a,.int .i64 b]):=by
 subst hfs
 obtain⟨e1,e2,e3⟩:=h1
 obtain⟨e4,e5,e6⟩:=h2
 obtain⟨xs,L,rfl,hL,rfl⟩:=keyOf_top (by simp[hu]) h
 have one:∀cs M,P.keyLits (m+1) t1 cs=some M→∃a,(Lit.int .i64 a).wf=true∧cs=[.int .i64 a]∧M=[.int .i64 a]:=by
  intro cs M hM
  unfold Program.keyLits at hM
  simp only[ht] at hM
  split at hM <;> simp_all
  rename_i n _
  exact⟨n,by simp_all⟩
 obtain⟨xs⟩:=xs
 rw[hm] at hL
 unfold Program.keyLits at hL
 simp only[hu,hc] at hL
 split at hL
 ·rename_i hl
  match xs,hl.1 with
  | [x,y],_=>
   simp only[List.mapM_cons,List.mapM_nil,e1,e2,e4,e5,hc1,List.drop_zero,List.drop_succ_cons,List.take_succ_cons,List.take_zero,Option.map_eq_some_iff,Option.bind_eq_bind,Option.bind_eq_some_iff,Option.pure_def,Option.some.injEq] at hL
   obtain⟨_,⟨M1,hM1,_,⟨M2,hM2,_,rfl,rfl⟩,rfl⟩,rfl⟩:=hL
   obtain⟨a,ha,hxa,rfl⟩:=one _ _ hM1
   obtain⟨b,hb,hyb,rfl⟩:=one _ _ hM2
   simp only[List.cons.injEq,and_true] at hxa hyb
   subst hxa;subst hyb
   exact⟨a,b,⟨ha,hb⟩,rfl,rfl⟩
 ·cases hL
end Go.Mono
namespace Go.Mono
open Go Go.RowKit Go.Gr
section tail
variable {P:Program}{L:Env}{ty:TypeId}{pos:String}{aft:Array Edge}{r:Option Nat}{ds:List Deferred}
variable {ops:Array Oper}{rest:List Oper}{Q:Exit→Act→World→Prop}{n:Nat}{a:Act}{w:World}{x y z:Operand}{α β:Type}[DecidableEq α]
theorem fP {V:KV P α β}{t:TypeId}{bm nn:Nat}{l:List (α×β)}{i:α}{c:β}(ht:P.underlying t=some (.map V.k V.e))(hf:FrD n ds a w L)[hL:AvL bm L](hx:opd L x=some (E (.map (some bm))))
  (hy:opd L y=some (E (V.kv i))) (hz:opd L z=some (E (V.mv c))) (hM:MpR V w bm nn l) (hn:nn<maxLen) (hi:V.ok i) (hc:V.okv c)
  (kk:∀w',w.grownBy w' (some bm)→MpR V w' bm (nn+1) (bw l i c)→FrD n ds a w' L→wpListIn (FW r) 0 P ops Q rest a w') :
  wpListIn (FW r) 0 P ops Q (⟨none,.mapUpdate t x y z,ty,pos,aft,none⟩::rest) a w:=
 wpListIn_plain rfl fun K hK=>by
  have hxv:a.eval x=.map (some bm):=hf.opd x _ hx
  have hyv:a.eval y=V.kv i:=hf.opd y _ hy
  have hzv:a.eval z=V.mv c:=hf.opd z _ hz
  obtain⟨w',h1,h2,h3⟩:=hM.put hi hc ht hn
  refine OpR.wp (R:=fun _ w1=>w1=w') ?_ ?_
  ·simp only[OpR,execOp,hxv,hyv,hzv,Sem.run_bind,h1,Result.andThen_ok,Sem.run_pure]
  ·rintro _ w1 rfl
   exact hK _ _ (kk _ h3 h2 (hf.gr h3))
theorem nW {γ δ:Type}(V:KV P γ δ){t:TypeId}{d:Nat}(hf:FrD n ds a w L)(hd:d<n)
  (k:∀a' b w',Ext w w'→b=w.heap.size→w'.heap.size=b+1→MpR V w' b 0 []→FrD n ds a' w' ((d,E (.map (some b)))::L)→wpListIn (FW r) 0 P ops Q rest a' w') :
  wpListIn (FW r) 0 P ops Q (⟨some d,.makeMap t none,ty,pos,aft,none⟩::rest) a w:=
 wpListIn_plain rfl fun K hK=>by
  refine OpR.wp (R:=fun v w'=>v=.map (some w.heap.size)∧w'=w.alloc (.map #[] 0)) ?_ ?_
  ·simp only[OpR,execOp,Sem.run_bind,Option.map_none,run_makeMap,Result.andThen_ok,Sem.run_pure]
   exact⟨trivial,trivial⟩
  ·rintro v w' ⟨rfl,rfl⟩
   exact hK _ _ (k _ _ _ (cy _ _) rfl (by simp) (MpR.made V w) (hf.put (d:=some d) (cy _ _) (fun k hk=>by cases hk;exact hd) rfl))
end tail
def tsE (P:Program):Enc (Bool×Int) where
 k:=2
 agg:=true
 r:=fun G w x cs=>∃id caps,cs=[.func (.func id) #[] caps,.int .i64 x.2]∧Proofs.Enters P id∧∀w',(∀b,b<w.heap.size→¬G b→w'.heap[b]?=w.heap[b]?)→w.heap.size≤w'.heap.size→Calls P id caps w' (Post (E (.bool x.1)) w')
 pos:=by decide
 k1:=fun h=>by cases h
 len:=fun⟨id,caps,h,_⟩=>by rw[h];rfl
 one:=fun⟨id,caps,h,_⟩ u hu=>by rw[h] at hu;simp at hu;rcases hu with rfl|rfl <;> rfl
 pres:=fun⟨id,caps,h1,h2,h3⟩ hk hs=>⟨id,caps,h1,h2,fun w' h4 h5=>h3 w' (fun b hb hg=>(h4 b (Nat.lt_of_lt_of_le hb hs) hg).trans (hk b hb hg)) (Nat.le_trans hs h5)⟩
 weak:=fun⟨id,caps,h1,h2,h3⟩ hk=>⟨id,caps,h1,h2,fun w' h4 h5=>h3 w' (fun b hb hg=>h4 b hb fun hg'=>hg (hk b hb hg')) h5⟩
section
variable {P:Program}{w0 w:World}{L:Env}{dst:Option Tmp}{ty:TypeId}{pos:String}{aft:Array Edge}{g:Option (Nat×Bool)}
theorem uL {fn:Fn}{x1 x2 x3:Operand}{v1 v2 v3:Value}(h1:opd L x1=some (E v1))(h2:opd L x2=some (E v2))(h3:opd L x3=some (E v3)):OpC P w0 L ⟨dst,.makeFunc fn #[] #[x1,x2,x3],ty,pos,aft,g⟩ (E (.func fn #[] #[v1,v2,v3])):=
 aI fun ρ w _ hv=>⟨_,by
  have a1:=opE hv (x:=x1) (by simp[Op.operands]) h1
  have a2:=opE hv (x:=x2) (by simp[Op.operands]) h2
  have a3:=opE hv (x:=x3) (by simp[Op.operands]) h3
  simp[execOp,Instr.makeFunc,a1,a2,a3],rfl⟩
theorem uM {fo:Operand}{id:FuncId}{caps:Array Value}{tys:Array TypeId}{A:VA}(hf:Proofs.Enters P id)(hfo:opd L fo=some (E (.func (.func id) #[] caps)))
  (h:∀w,Ext w0 w→Calls P id caps w (Post A w)):OpC P w0 L ⟨dst,.call ⟨.value fo,#[],tys⟩,ty,pos,aft,g⟩ A:=
 jp hf hfo fun ρ w he hv=>by simpa using h w he
theorem Dv.ts {G:Nat→Prop}{x:Bool×Int}{v:Value}(h:(Dv (tsE P) G x).p v w):∃id caps,v=.agg #[.func (.func id) #[] caps,.int .i64 x.2]∧Proofs.Enters P id∧∀w',Ext w w'→Calls P id caps w' (Post (E (.bool x.1)) w'):=by
 obtain⟨cs,⟨id,caps,h1,h2,h3⟩,hv⟩:=h
 subst h1
 exact⟨id,caps,hv,h2,fun w' e=>h3 w' (fun b hb _=>e.block b hb) e.size⟩
def Hp (w w':World):Prop:=(∀b,b<w.heap.size→w'.heap[b]?=w.heap[b]?)∧w.heap.size≤w'.heap.size
theorem Dv.hp {α:Type}{e:Enc α}{G:Nat→Prop}{x:α}{v:Value}{w':World}(h:(Dv e G x).p v w)(k:Hp w w'):(Dv e G x).p v w':=by
 obtain⟨cs,h1,h2⟩:=h
 exact⟨cs,e.pres h1 (fun b hb _=>k.1 b hb) k.2,h2⟩
theorem Dv.ts' {id:FuncId}{caps:Array Value}{b:Bool}{c:Int}(h2:Proofs.Enters P id)(h3:∀w',Hp w w'→Calls P id caps w' (Post (E (.bool b)) w')):(Dv (tsE P) G0 (b,c)).p (.agg #[.func (.func id) #[] caps,.int .i64 c]) w:=
 ⟨_,⟨id,caps,rfl,h2,fun w' h4 h5=>h3 w' ⟨fun b hb=>h4 b hb fun h=>h.elim,h5⟩⟩,rfl⟩
end
section
variable {P:Program}{w0:World}{L:Env}{dst:Option Tmp}{ty:TypeId}{pos:String}{aft:Array Edge}{S:Nat→Prop}{F:World→Prop}
theorem jP {f:FuncId}{fo x y:Operand}{u v:Value}{tys:Array TypeId}(hf:Proofs.Enters P f)(hfo:opd L fo=some (E (.func (.func f) #[] #[])))(hx:opd L x=some (E u))(hy:opd L y=some (E v))
  (h:∀w,Ext w0 w→Calls P f #[u,v] w (fun e w'=>∃r,e=.returned r∧Chg S w w'∧F w')) :
  jA P w0 S F L ⟨dst,.call ⟨.value fo,#[x,y],tys⟩,ty,pos,aft,none⟩ Any:=by
 refine⟨fun ρ w he hv=>?_⟩
 have hfv:ρ fo=.func (.func f) #[] #[]:=hv fo (by simp[Op.operands,Call.operands]) _ hfo
 have hxv:ρ x=u:=hv x (by simp[Op.operands,Call.operands]) _ hx
 have hyv:ρ y=v:=hv y (by simp[Op.operands,Call.operands]) _ hy
 have hrun:(execOp ρ ⟨dst,.call ⟨.value fo,#[x,y],tys⟩,ty,pos,aft,none⟩).run P w=.ok (.enter f #[u,v]) w:=by
  have h9:=hf #[u,v] w
  simp[execOp,resolve,hfv,Deferred.ofValue,invoke,hxv,hyv,h9]
 simp only[OpR,hrun]
 exact (h w he).mono fun e w' ⟨r,h1,h2,h3⟩=>⟨r,h1,h2,trivial,h3⟩
end
end Go.Mono
namespace Go.Mono
open Go Go.Proofs Go.RowKit Go.Gr
def thV (c:Int×Int):Value:=.agg #[.int .u8 c.1,.int .i64 c.2]
def okT (c:Int×Int):Prop:=(Lit.int .u8 c.1).wf=true∧(Lit.int .i64 c.2).wf=true
def thD (c:Int×Int):DataW Unit:=.agg [.lit (.int .u8 c.1),.lit (.int .i64 c.2)]
theorem uN {c c':Int×Int}(h:thV c=thV c'):c=c':=by cases c;cases c';cases h;rfl
open Classical in
noncomputable def thR (v:Value):Option (DataW Unit×List MemPlace):=if h:∃c,okT c∧v=thV c then some (thD (Classical.choose h),[]) else none
theorem nX {c:Int×Int}(hc:okT c):thR (thV c)=some (thD c,[]):=by
 have h:∃c',okT c'∧thV c=thV c':=⟨c,hc,rfl⟩
 unfold thR
 rw[dif_pos h,← uN (Classical.choose_spec h).2]
theorem nY {v:Value}{y:DataW Unit×List MemPlace}(h:thR v=some y):∃c,okT c∧v=thV c∧y=(thD c,[]):=by
 unfold thR at h
 split at h
 ·rename_i hx;cases h;exact⟨_,(Classical.choose_spec hx).1,(Classical.choose_spec hx).2,rfl⟩
 ·cases h
noncomputable def vKV:KV Tryz.prog Int (Int×Int) where
 k:=3
 e:=126
 kv:=fun x=>.int .i64 x
 kl:=fun x=>.int .i64 x
 ok:=fun x=>(Lit.int .i64 x).wf=true
 mv:=thV
 dv:=thD
 okv:=okT
 R:=thR
 K:=Maps.int_keyed U3
 key:=fun x hx=>Maps.keyOf_int_mk U3 hx
 keyInv:=fun v l h=>by obtain⟨x,h1,h2,h3⟩:=Maps.keyOf_int_inv U3 h;exact⟨x,h3,h1,h2⟩
 kvInj:=fun x y h=>by cases h;rfl
 val:=fun c hc=>nX hc
 valInv:=fun v y h=>nY h
 dvInj:=fun c c' h=>by cases c;cases c';cases h;rfl
theorem uO:Tryz.prog.keyType 132=true:=by kernel_rfl
theorem nZ:Tryz.prog.cellsOf 132=2:=by kernel_rfl
theorem oa:Tryz.prog.cellsOf 3=1:=by kernel_rfl
theorem uP:Tryz.prog.types.size=(Tryz.prog.types.size - 1)+1:=by kernel_rfl
theorem laidOut:laidOutB Tryz.prog=true:=by kernel_rfl
theorem uQ:(132:TypeId)<Tryz.prog.types.size:=of_decide_eq_true (by kernel_rfl)
noncomputable def jQ:Nat:=Tryz.prog.types.size - 1
theorem ob:Tryz.prog.types.size=jQ+1:=uP
theorem uR {p q:Int}(hp:(Lit.int .i64 p).wf=true)(hq:(Lit.int .i64 q).wf=true):keyOf Tryz.prog 132 (.agg #[.int .i64 p,.int .i64 q])=some (.string (keyBytes [.int .i64 p,.int .i64 q])):=
 uJ (m:=jQ) eW rfl ⟨rfl,rfl,by kernel_rfl⟩ ⟨rfl,rfl,by kernel_rfl⟩ U3 oa nZ uO ob hp hq
theorem uS {v:Value}{l:Lit}(h:keyOf Tryz.prog 132 v=some l):∃p q,((Lit.int .i64 p).wf=true∧(Lit.int .i64 q).wf=true)∧v=.agg #[.int .i64 p,.int .i64 q]∧l=.string (keyBytes [.int .i64 p,.int .i64 q]):=
 uK (m:=jQ) eW rfl ⟨rfl,rfl,by kernel_rfl⟩ ⟨rfl,rfl,by kernel_rfl⟩ U3 oa nZ ob h
theorem uT:Tryz.prog.keyTypeAt 2 132=true:=by kernel_rfl
theorem uU:WideMaps.KeyLaw Tryz.prog 132:=by
 have h1:2+1≤10000:=by omega
 refine deep_law_laid laidOut (m:=2) h1 uQ uT ?_
 rw[eW]
def enV (x:Int×Int):Value:=.agg #[.int .i64 x.1,.int .i64 x.2]
noncomputable def eKV:KV Tryz.prog (Int×Int) (Int×Int) where
 k:=132
 e:=126
 kv:=enV
 kl:=fun x=>.string (keyBytes [.int .i64 x.1,.int .i64 x.2])
 ok:=fun x=>(Lit.int .i64 x.1).wf=true∧(Lit.int .i64 x.2).wf=true
 mv:=thV
 dv:=thD
 okv:=okT
 R:=thR
 K:=Maps.Keyed.of_law uU
 key:=fun x hx=>uR hx.1 hx.2
 keyInv:=fun v l h=>by
  obtain⟨p,q,h1,h2,h3⟩:=uS h
  exact⟨(p,q),h1,h2,h3⟩
 kvInj:=fun x y h=>by cases x;cases y;cases h;rfl
 val:=fun c hc=>nX hc
 valInv:=fun v y h=>nY h
 dvInj:=fun c c' h=>by cases c;cases c';cases h;rfl
noncomputable def grE (N:Nat):Enc GT:=prE (mpE vKV N) (mpE eKV N)
theorem uV (n:Int)(W:World):Calls Tryz.prog 105 #[I n] W (Post (E (.bool (Gr.pairs n))) W):=by
 refine enter (args:=[I n]) (As:=[E (I n)]) Tryz.func105 rfl Tryz.ntmps105 (Nat.le_of_ble_eq_true rfl) ?_ (fun a hf=>?_) (Nat.le_of_ble_eq_true rfl)
 rotate_left
 dsimp only[params,Nat.reduceAdd] at hf
 rotate_right
 ·exact arg1 rfl
 have e:=Ext.rfl' W
 refine seq ?_
 refine ah ?_
 refine ae hf rfl (by decide) fun a hf=>?_
 refine aa ?_
 refine seq ?_
 refine ac 14 hf (by decide +kernel) ?_
 refine st (mv rfl) ?_
 refine st (eql rfl rfl) ?_
 refine st (mv rfl) ?_
 refine sgE rfl rfl (.k 0 rfl .n) (fun hgd=>mv rfl) ?_
 refine sgE rfl rfl (.c 6 rfl (fun h=>h) .n) (fun hgd=>eql rfl rfl) ?_
 refine st (aY rfl rfl (fun h=>by rw[h];rfl)) ?_
 refine st (mv rfl) ?_
 refine sgE rfl rfl (.k 0 rfl .n) (fun hgd=>mv rfl) ?_
 refine sgE rfl rfl (.c 10 rfl (fun h=>h) .n) (fun hgd=>eql rfl rfl) ?_
 refine st (aY rfl rfl (fun h=>by rw[h];rfl)) ?_
 refine st (mv rfl) ?_
 refine sgE rfl rfl (.k 0 rfl .n) (fun hgd=>mv rfl) ?_
 refine sgE rfl rfl (.c 14 rfl (fun h=>h) .n) (fun hgd=>eql rfl rfl) ?_
 refine st (aY rfl rfl (fun h=>by rw[h];rfl)) ?_
 refine en fun a w e' hf=>?_
 replace e:=e.tr e'
 refine ae hf rfl (by decide) fun a hf=>?_
 refine aa ?_
 refine aj ?_
 refine al rfl hf rfl ?_
 rintro _ rfl
 exact⟨_,rfl,e,rfl⟩
theorem uW (n:Int)(W:World):Calls Tryz.prog 106 #[I n] W (Post (E (.bool (Gr.weighs n))) W):=by
 refine enter (args:=[I n]) (As:=[E (I n)]) Tryz.func106 rfl Tryz.ntmps106 (Nat.le_of_ble_eq_true rfl) ?_ (fun a hf=>?_) (Nat.le_of_ble_eq_true rfl)
 rotate_left
 dsimp only[params,Nat.reduceAdd] at hf
 rotate_right
 ·exact arg1 rfl
 have e:=Ext.rfl' W
 refine seq ?_
 refine ah ?_
 refine ae hf rfl (by decide) fun a hf=>?_
 refine aa ?_
 refine seq ?_
 refine ac 14 hf (by decide +kernel) ?_
 refine st (mv rfl) ?_
 refine st (eql rfl rfl) ?_
 refine st (mv rfl) ?_
 refine sgE rfl rfl (.k 0 rfl .n) (fun hgd=>mv rfl) ?_
 refine sgE rfl rfl (.c 6 rfl (fun h=>h) .n) (fun hgd=>eql rfl rfl) ?_
 refine st (aY rfl rfl (fun h=>by rw[h];rfl)) ?_
 refine st (mv rfl) ?_
 refine sgE rfl rfl (.k 0 rfl .n) (fun hgd=>mv rfl) ?_
 refine sgE rfl rfl (.c 10 rfl (fun h=>h) .n) (fun hgd=>eql rfl rfl) ?_
 refine st (aY rfl rfl (fun h=>by rw[h];rfl)) ?_
 refine st (mv rfl) ?_
 refine sgE rfl rfl (.k 0 rfl .n) (fun hgd=>mv rfl) ?_
 refine sgE rfl rfl (.c 14 rfl (fun h=>h) .n) (fun hgd=>eql rfl rfl) ?_
 refine st (aY rfl rfl (fun h=>by rw[h];rfl)) ?_
 refine en fun a w e' hf=>?_
 replace e:=e.tr e'
 refine ae hf rfl (by decide) fun a hf=>?_
 refine aa ?_
 refine aj ?_
 refine al rfl hf rfl ?_
 rintro _ rfl
 exact⟨_,rfl,e,rfl⟩
theorem uX (n:Int)(W:World):Calls Tryz.prog 104 #[I n] W (Post (E (.bool (cu n))) W):=by
 refine enter (args:=[I n]) (As:=[E (I n)]) Tryz.func104 rfl Tryz.ntmps104 (Nat.le_of_ble_eq_true rfl) ?_ (fun a hf=>?_) (Nat.le_of_ble_eq_true rfl)
 rotate_left
 dsimp only[params,Nat.reduceAdd] at hf
 rotate_right
 ·exact arg1 rfl
 have e:=Ext.rfl' W
 refine seq ?_
 refine ah ?_
 refine ae hf rfl (by decide) fun a hf=>?_
 refine aa ?_
 refine seq ?_
 refine ac 6 hf (by decide +kernel) ?_
 refine st (mv rfl) ?_
 refine st (geq rfl rfl) ?_
 refine st (mv rfl) ?_
 refine sgE rfl rfl (.k 0 rfl .n) (fun hgd=>mv rfl) ?_
 refine sgE rfl rfl (.c 6 rfl (fun h=>h) .n) (fun hgd=>lss rfl rfl) ?_
 refine st (aW rfl rfl (fun h=>by rw[h];rfl)) ?_
 refine en fun a w e' hf=>?_
 replace e:=e.tr e'
 refine ae hf rfl (by decide) fun a hf=>?_
 refine aa ?_
 refine aj ?_
 refine al rfl hf rfl ?_
 rintro _ rfl
 exact⟨_,rfl,e,rfl⟩
theorem uY (n:Int)(W:World):Calls Tryz.prog 107 #[I n] W (Post (E (.bool (Gr.heavy n))) W):=by
 refine enter (args:=[I n]) (As:=[E (I n)]) Tryz.func107 rfl Tryz.ntmps107 (Nat.le_of_ble_eq_true rfl) ?_ (fun a hf=>?_) (Nat.le_of_ble_eq_true rfl)
 rotate_left
 dsimp only[params,Nat.reduceAdd] at hf
 rotate_right
 ·exact arg1 rfl
 have e:=Ext.rfl' W
 refine seq ?_
 refine ah ?_
 refine ae hf rfl (by decide) fun a hf=>?_
 refine aa ?_
 refine seq ?_
 refine ac 6 hf (by decide +kernel) ?_
 refine st (mv rfl) ?_
 refine st (lss rfl rfl) ?_
 refine st (mv rfl) ?_
 refine sgE rfl rfl (.k 0 rfl .n) (fun hgd=>mv rfl) ?_
 refine sgE rfl rfl (.c 6 rfl (fun h=>h) .n) (fun hgd=>gtr rfl rfl) ?_
 refine st (aY rfl rfl (fun h=>by rw[h];rfl)) ?_
 refine en fun a w e' hf=>?_
 replace e:=e.tr e'
 refine ae hf rfl (by decide) fun a hf=>?_
 refine aa ?_
 refine aj ?_
 refine al rfl hf rfl ?_
 rintro _ rfl
 exact⟨_,rfl,e,rfl⟩
theorem bEn (x:Int×Int):Tryz.prog.built 132 [(0,.int .i64 x.1),(1,.int .i64 x.2)]=some #[.int .i64 x.1,.int .i64 x.2]:=by kernel_rfl
theorem gB (m n:Int)(W:World):Calls Tryz.prog 101 #[I m,I n] W (Post (E (enV (Gr.ends m n))) W):=by
 refine enter (args:=[I m,I n]) (As:=[E (I m),E (I n)]) Tryz.func101 rfl Tryz.ntmps101 (Nat.le_of_ble_eq_true rfl) ?_ (fun a hf=>?_) (Nat.le_of_ble_eq_true rfl)
 rotate_left
 dsimp only[params,Nat.reduceAdd] at hf
 rotate_right
 ·exact arg2 rfl rfl
 have e:=Ext.rfl' W
 refine seq ?_
 refine ah ?_
 refine aJ gf hf (by decide) fun a b4 w e' hb4 hs4 B4 hf=>?_
 have hle4:=Nat.le_trans e.size (Nat.le_of_eq hb4.symm)
 replace e:=e.tr e'
 refine aa ?_
 refine seq ?_
 refine ac 7 hf (by decide +kernel) ?_
 refine st (mv rfl) ?_
 refine st (mv rfl) ?_
 refine st (min2 rfl rfl) ?_
 refine st (mv rfl) ?_
 refine st (mv rfl) ?_
 refine st (max2 rfl rfl) ?_
 refine st (bh [(0,_),(1,_)] rfl (bEn (Gr.ends m n))) ?_
 refine en fun a w e' hf=>?_
 replace e:=e.tr e'
 replace B4:=B4.ext e'
 clear e'
 haveI hinr:∀G0,InR (GB W G0) (some b4):=fun G0=>InR.gb (by omega)
 refine aD cT hf rfl rfl (aX rfl rfl) B4 rfl (rfl) fun w hg hsz B4 hf=>?_
 replace e:=e.gr hg (by omega)
 clear hg
 refine aa ?_
 refine aj (cR rfl cT hf rfl B4 rfl ?_)
 exact⟨_,rfl,e,rfl⟩
end Go.Mono
namespace Go.Mono
open Go Go.Proofs Go.RowKit Go.Gr
section
variable {G G2 G3:Nat→Prop}(g:GT)(d:DT)(N:Nat)(W:World)(v v1 v2:Value)
theorem cP (n:Int)(v:Value)(w:World)(h:(E (I n)).p v w):Calls Tryz.prog 105 #[v] w (Post (E (.bool (Gr.pairs n))) w):=by cases h;exact uV n w
theorem cW (n:Int)(v:Value)(w:World)(h:(E (I n)).p v w):Calls Tryz.prog 106 #[v] w (Post (E (.bool (Gr.weighs n))) w):=by cases h;exact uW n w
theorem cI (n:Int)(v:Value)(w:World)(h:(E (I n)).p v w):Calls Tryz.prog 104 #[v] w (Post (E (.bool (cu n))) w):=by cases h;exact uX n w
theorem cH (n:Int)(v:Value)(w:World)(h:(E (I n)).p v w):Calls Tryz.prog 107 #[v] w (Post (E (.bool (Gr.heavy n))) w):=by cases h;exact uY n w
theorem uZ (h:(Dv (ptE dtE) G (some d)).p v W):Calls Tryz.prog 102 #[v] W (Post (E (.bool (decide (d.1<0) || decide (8≤d.1)))) W):=by
 refine enter (args:=[v]) (As:=[Dv (ptE dtE) G (some d)]) Tryz.func102 rfl Tryz.ntmps102 (Nat.le_of_ble_eq_true rfl) ?_ (fun a hf=>?_) (Nat.le_of_ble_eq_true rfl)
 rotate_left
 dsimp only[params,Nat.reduceAdd] at hf
 rotate_right
 ·exact arg1 h
 have e:=Ext.rfl' W
 refine seq ?_
 refine ah ?_
 refine ae hf rfl (by decide) fun a hf=>?_
 refine aa ?_
 refine seq ?_
 refine ac 8 hf (by decide +kernel) ?_
 refine st (am U26 rfl T3 (by decide) (Fld.fst Fld.refl) (isR rfl)) ?_
 refine st (ldI T3 (isR rfl)) ?_
 refine st (lss rfl rfl) ?_
 refine st (mv rfl) ?_
 refine sgE rfl rfl (.k 0 rfl .n) (fun hgd=>am U26 rfl T3 (by decide) (Fld.fst Fld.refl) (isR rfl)) ?_
 refine sgE rfl rfl (.c 6 rfl (fun h=>h) .n) (fun hgd=>ldI T3 (isR rfl)) ?_
 refine sgE rfl rfl (.c 7 rfl (fun h=>h) .n) (fun hgd=>geq rfl rfl) ?_
 refine st (aY rfl rfl (fun h=>by rw[h];rfl)) ?_
 refine en fun a w e' hf=>?_
 replace e:=e.tr e'
 refine ae hf rfl (by decide) fun a hf=>?_
 refine aa ?_
 refine aj ?_
 refine al rfl hf rfl ?_
 rintro _ rfl
 exact⟨_,rfl,e,rfl⟩
theorem va (h:(Dv (ptE dtE) G (some d)).p v W):Calls Tryz.prog 103 #[v] W (Post (E (.bool ((!cu d.2.1) || (Gr.pairs d.1 && !cu d.2.2.1) || (Gr.weighs d.1&&Gr.heavy d.2.2.2.2)))) W):=by
 refine enter (args:=[v]) (As:=[Dv (ptE dtE) G (some d)]) Tryz.func103 rfl Tryz.ntmps103 (Nat.le_of_ble_eq_true rfl) ?_ (fun a hf=>?_) (Nat.le_of_ble_eq_true rfl)
 rotate_left
 dsimp only[params,Nat.reduceAdd] at hf
 rotate_right
 ·exact arg1 h
 have e:=Ext.rfl' W
 refine seq ?_
 refine ah ?_
 refine ae hf rfl (by decide) fun a hf=>?_
 refine aa ?_
 refine seq ?_
 refine ac 25 hf (by decide +kernel) ?_
 refine st (am U26 rfl T3 (by decide) (Fld.snd (Fld.fst Fld.refl) rfl) (isR rfl)) ?_
 refine st (ldI T3 (isR rfl)) ?_
 refine st (aw lX rfl (fun v w he h=>cI _ v w h)) ?_
 refine st (aS rfl) ?_
 refine st (mv rfl) ?_
 refine sgE rfl rfl (.k 0 rfl .n) (fun hgd=>am U26 rfl T3 (by decide) (Fld.fst Fld.refl) (isR rfl)) ?_
 refine sgE rfl rfl (.c 7 rfl (fun h=>h) .n) (fun hgd=>ldI T3 (isR rfl)) ?_
 refine sgE rfl rfl (.c 8 rfl (fun h=>h) .n) (fun hgd=>aw gY rfl (fun v w he h=>cP _ v w h)) ?_
 refine sgE rfl rfl (.c 9 rfl (fun h=>h) .n) (fun hgd=>mv rfl) ?_
 refine sgC rfl rfl (.k 0 rfl .n) (fun hgd=>am U26 rfl T3 (by decide) (Fld.snd (Fld.snd (Fld.fst Fld.refl) rfl) rfl) (isR rfl)) ?_
 refine sgC rfl rfl (.c 11 rfl (fun h=>h) .n) (fun hgd=>ldI T3 (isR rfl)) ?_
 refine sgC rfl rfl (.c 12 rfl (fun h=>h) .n) (fun hgd=>aw lX rfl (fun v w he h=>cI _ v w h)) ?_
 refine sgC rfl rfl (.c 13 rfl (fun h=>h) .n) (fun hgd=>aS rfl) ?_
 refine sgE rfl rfl (.c 10 rfl (fun h=>h) (.k 14 rfl .n)) (fun hgd=>aW rfl rfl (fun h=>by rw[hgd,h];rfl)) ?_
 refine st (aY rfl rfl (fun h=>by rw[h];rfl)) ?_
 refine st (mv rfl) ?_
 refine sgE rfl rfl (.k 0 rfl .n) (fun hgd=>am U26 rfl T3 (by decide) (Fld.fst Fld.refl) (isR rfl)) ?_
 refine sgE rfl rfl (.c 18 rfl (fun h=>h) .n) (fun hgd=>ldI T3 (isR rfl)) ?_
 refine sgE rfl rfl (.c 19 rfl (fun h=>h) .n) (fun hgd=>aw rK rfl (fun v w he h=>cW _ v w h)) ?_
 refine sgE rfl rfl (.c 20 rfl (fun h=>h) .n) (fun hgd=>mv rfl) ?_
 refine sgC rfl rfl (.k 0 rfl .n) (fun hgd=>am U26 rfl T3 (by decide) (Fld.snd (Fld.snd (Fld.snd (Fld.snd Fld.refl rfl) rfl) rfl) rfl) (isR rfl)) ?_
 refine sgC rfl rfl (.c 22 rfl (fun h=>h) .n) (fun hgd=>ldI T3 (isR rfl)) ?_
 refine sgC rfl rfl (.c 23 rfl (fun h=>h) .n) (fun hgd=>aw rL rfl (fun v w he h=>cH _ v w h)) ?_
 refine sgE rfl rfl (.c 21 rfl (fun h=>h) (.k 24 rfl .n)) (fun hgd=>aW rfl rfl (fun h=>by rw[hgd,h];rfl)) ?_
 refine st (aY rfl rfl (fun h=>by rw[h];rfl)) ?_
 refine en fun a w e' hf=>?_
 replace e:=e.tr e'
 refine ae hf rfl (by decide) fun a hf=>?_
 refine aa ?_
 refine aj ?_
 refine al rfl hf rfl ?_
 rintro _ rfl
 exact⟨_,rfl,e,rfl⟩
theorem vb (h:(Dv (ptE dtE) G (some d)).p v W):Calls Tryz.prog 108 #[v] W (Post (E (.bool (Gr.pairs d.1&&d.2.1==d.2.2.1))) W):=by
 refine enter (args:=[v]) (As:=[Dv (ptE dtE) G (some d)]) Tryz.func108 rfl Tryz.ntmps108 (Nat.le_of_ble_eq_true rfl) ?_ (fun a hf=>?_) (Nat.le_of_ble_eq_true rfl)
 rotate_left
 dsimp only[params,Nat.reduceAdd] at hf
 rotate_right
 ·exact arg1 h
 have e:=Ext.rfl' W
 refine seq ?_
 refine ah ?_
 refine ae hf rfl (by decide) fun a hf=>?_
 refine aa ?_
 refine seq ?_
 refine ac 10 hf (by decide +kernel) ?_
 refine st (am U26 rfl T3 (by decide) (Fld.fst Fld.refl) (isR rfl)) ?_
 refine st (ldI T3 (isR rfl)) ?_
 refine st (aw gY rfl (fun v w he h=>cP _ v w h)) ?_
 refine st (mv rfl) ?_
 refine sgE rfl rfl (.k 0 rfl .n) (fun hgd=>am U26 rfl T3 (by decide) (Fld.snd (Fld.fst Fld.refl) rfl) (isR rfl)) ?_
 refine sgE rfl rfl (.c 6 rfl (fun h=>h) .n) (fun hgd=>ldI T3 (isR rfl)) ?_
 refine sgE rfl rfl (.k 0 rfl .n) (fun hgd=>am U26 rfl T3 (by decide) (Fld.snd (Fld.snd (Fld.fst Fld.refl) rfl) rfl) (isR rfl)) ?_
 refine sgE rfl rfl (.c 8 rfl (fun h=>h) .n) (fun hgd=>ldI T3 (isR rfl)) ?_
 refine sgE rfl rfl (.c 7 rfl (fun h=>h) (.c 9 rfl (fun h=>h) .n)) (fun hgd=>eql rfl rfl) ?_
 refine st (aW rfl rfl (fun h=>by rw[h];rfl)) ?_
 refine en fun a w e' hf=>?_
 replace e:=e.tr e'
 refine ae hf rfl (by decide) fun a hf=>?_
 refine aa ?_
 refine aj ?_
 refine al rfl hf rfl ?_
 rintro _ rfl
 exact⟨_,rfl,e,rfl⟩
theorem vd (u:Bool)(h:(Dv (ptE dtE) G (some d)).p v W)(h1:(Dv (ptE cq) G2 (some u)).p v1 W):Calls Tryz.prog 109 #[v,v1] W (Post (E (.bool (d.1==0&&u))) W):=by
 refine enter (args:=[v,v1]) (As:=[Dv (ptE dtE) G (some d),Dv (ptE cq) G2 (some u)]) Tryz.func109 rfl Tryz.ntmps109 (Nat.le_of_ble_eq_true rfl) ?_ (fun a hf=>?_) (Nat.le_of_ble_eq_true rfl)
 rotate_left
 dsimp only[params,Nat.reduceAdd] at hf
 rotate_right
 ·exact arg2 h h1
 have e:=Ext.rfl' W
 refine seq ?_
 refine ah ?_
 refine ae hf rfl (by decide) fun a hf=>?_
 refine aa ?_
 refine seq ?_
 refine ac 6 hf (by decide +kernel) ?_
 refine st (am U26 rfl T3 (by decide) (Fld.fst Fld.refl) (isR rfl)) ?_
 refine st (ldI T3 (isR rfl)) ?_
 refine st (eql rfl rfl) ?_
 refine st (mv rfl) ?_
 refine sgE rfl rfl (.k 1 rfl .n) (fun hgd=>ldB T4 (isR rfl)) ?_
 refine st (aW rfl rfl (fun h=>by rw[h];rfl)) ?_
 refine en fun a w e' hf=>?_
 replace e:=e.tr e'
 refine ae hf rfl (by decide) fun a hf=>?_
 refine aa ?_
 refine aj ?_
 refine al rfl hf rfl ?_
 rintro _ rfl
 exact⟨_,rfl,e,rfl⟩
theorem ve (u u2:Bool)(h:(Dv (ptE dtE) G (some d)).p v W)(h1:(Dv (ptE cq) G2 (some u)).p v1 W)(h2:(Dv (ptE cq) G3 (some u2)).p v2 W) :
  Calls Tryz.prog 110 #[v,v1,v2] W (Post (E (.bool ((d.1 != 0 && !Gr.pairs d.1 && !u) || (d.1==2 && !(u&&u2))))) W):=by
 refine enter (args:=[v,v1,v2]) (As:=[Dv (ptE dtE) G (some d),Dv (ptE cq) G2 (some u),Dv (ptE cq) G3 (some u2)]) Tryz.func110 rfl Tryz.ntmps110 (Nat.le_of_ble_eq_true rfl) ?_ (fun a hf=>?_) (Nat.le_of_ble_eq_true rfl)
 rotate_left
 dsimp only[params,Nat.reduceAdd] at hf
 rotate_right
 ·exact eo h h1 h2
 have e:=Ext.rfl' W
 refine seq ?_
 refine ah ?_
 refine ae hf rfl (by decide) fun a hf=>?_
 refine aa ?_
 refine seq ?_
 refine ac 25 hf (by decide +kernel) ?_
 refine st (am U26 rfl T3 (by decide) (Fld.fst Fld.refl) (isR rfl)) ?_
 refine st (ldI T3 (isR rfl)) ?_
 refine st (neq rfl rfl) ?_
 refine st (mv rfl) ?_
 refine sgE rfl rfl (.k 0 rfl .n) (fun hgd=>am U26 rfl T3 (by decide) (Fld.fst Fld.refl) (isR rfl)) ?_
 refine sgE rfl rfl (.c 8 rfl (fun h=>h) .n) (fun hgd=>ldI T3 (isR rfl)) ?_
 refine sgE rfl rfl (.c 9 rfl (fun h=>h) .n) (fun hgd=>aw gY rfl (fun v w he h=>cP _ v w h)) ?_
 refine sgE rfl rfl (.c 10 rfl (fun h=>h) .n) (fun hgd=>aS rfl) ?_
 refine st (aW rfl rfl (fun h=>by rw[h];rfl)) ?_
 refine st (mv rfl) ?_
 refine sgE rfl rfl (.k 1 rfl .n) (fun hgd=>ldB T4 (isR rfl)) ?_
 refine sgE rfl rfl (.c 14 rfl (fun h=>h) .n) (fun hgd=>aS rfl) ?_
 refine st (aW rfl rfl (fun h=>by rw[h];rfl)) ?_
 refine st (mv rfl) ?_
 refine sgE rfl rfl (.k 0 rfl .n) (fun hgd=>am U26 rfl T3 (by decide) (Fld.fst Fld.refl) (isR rfl)) ?_
 refine sgE rfl rfl (.c 18 rfl (fun h=>h) .n) (fun hgd=>ldI T3 (isR rfl)) ?_
 refine sgE rfl rfl (.c 19 rfl (fun h=>h) .n) (fun hgd=>eql rfl rfl) ?_
 refine sgE rfl rfl (.c 20 rfl (fun h=>h) .n) (fun hgd=>mv rfl) ?_
 refine sgC rfl rfl (.k 1 rfl .n) (fun hgd=>ldB T4 (isR rfl)) ?_
 refine sgC rfl rfl (.c 22 rfl (fun h=>h) .n) (fun hgd=>mv rfl) ?_
 refine sgC rfl rfl (.k 2 rfl .n) (fun hgd=>ldB T4 (isR rfl)) ?_
 refine sgC rfl rfl (.c 23 rfl (fun h=>h) (.k 24 rfl .n)) (fun hgd=>aW rfl rfl (fun h=>by rw[hgd,h];rfl)) ?_
 refine sgC rfl rfl (.c 25 rfl (fun h=>h) .n) (fun hgd=>aS rfl) ?_
 refine sgE rfl rfl (.c 21 rfl (fun h=>h) (.k 26 rfl .n)) (fun hgd=>aW rfl rfl (fun h=>by rw[hgd,h];rfl)) ?_
 refine st (aY rfl rfl (fun h=>by rw[h];rfl)) ?_
 refine en fun a w e' hf=>?_
 replace e:=e.tr e'
 refine ae hf rfl (by decide) fun a hf=>?_
 refine aa ?_
 refine aj ?_
 refine al rfl hf rfl ?_
 rintro _ rfl
 exact⟨_,rfl,e,rfl⟩
theorem vf (u:Bool)(h:(Dv (ptE dtE) G (some d)).p v W)(h1:(Dv (ptE cq) G2 (some u)).p v1 W):Calls Tryz.prog 111 #[v,v1] W (Post (E (.bool (Gr.pairs d.1&&d.1 != 2 && !u))) W):=by
 refine enter (args:=[v,v1]) (As:=[Dv (ptE dtE) G (some d),Dv (ptE cq) G2 (some u)]) Tryz.func111 rfl Tryz.ntmps111 (Nat.le_of_ble_eq_true rfl) ?_ (fun a hf=>?_) (Nat.le_of_ble_eq_true rfl)
 rotate_left
 dsimp only[params,Nat.reduceAdd] at hf
 rotate_right
 ·exact arg2 h h1
 have e:=Ext.rfl' W
 refine seq ?_
 refine ah ?_
 refine ae hf rfl (by decide) fun a hf=>?_
 refine aa ?_
 refine seq ?_
 refine ac 12 hf (by decide +kernel) ?_
 refine st (am U26 rfl T3 (by decide) (Fld.fst Fld.refl) (isR rfl)) ?_
 refine st (ldI T3 (isR rfl)) ?_
 refine st (aw gY rfl (fun v w he h=>cP _ v w h)) ?_
 refine st (mv rfl) ?_
 refine sgE rfl rfl (.k 0 rfl .n) (fun hgd=>am U26 rfl T3 (by decide) (Fld.fst Fld.refl) (isR rfl)) ?_
 refine sgE rfl rfl (.c 7 rfl (fun h=>h) .n) (fun hgd=>ldI T3 (isR rfl)) ?_
 refine sgE rfl rfl (.c 8 rfl (fun h=>h) .n) (fun hgd=>neq rfl rfl) ?_
 refine st (aW rfl rfl (fun h=>by rw[h];rfl)) ?_
 refine st (mv rfl) ?_
 refine sgE rfl rfl (.k 1 rfl .n) (fun hgd=>ldB T4 (isR rfl)) ?_
 refine sgE rfl rfl (.c 12 rfl (fun h=>h) .n) (fun hgd=>aS rfl) ?_
 refine st (aW rfl rfl (fun h=>by rw[h];rfl)) ?_
 refine en fun a w e' hf=>?_
 replace e:=e.tr e'
 refine ae hf rfl (by decide) fun a hf=>?_
 refine aa ?_
 refine aj ?_
 refine al rfl hf rfl ?_
 rintro _ rfl
 exact⟨_,rfl,e,rfl⟩
theorem vg (u:Bool)(h:(Dv (ptE dtE) G (some d)).p v W)(h1:(Dv (ptE cq) G2 (some u)).p v1 W):Calls Tryz.prog 112 #[v,v1] W (Post (E (.bool (d.1==2&&u))) W):=by
 refine enter (args:=[v,v1]) (As:=[Dv (ptE dtE) G (some d),Dv (ptE cq) G2 (some u)]) Tryz.func112 rfl Tryz.ntmps112 (Nat.le_of_ble_eq_true rfl) ?_ (fun a hf=>?_) (Nat.le_of_ble_eq_true rfl)
 rotate_left
 dsimp only[params,Nat.reduceAdd] at hf
 rotate_right
 ·exact arg2 h h1
 have e:=Ext.rfl' W
 refine seq ?_
 refine ah ?_
 refine ae hf rfl (by decide) fun a hf=>?_
 refine aa ?_
 refine seq ?_
 refine ac 6 hf (by decide +kernel) ?_
 refine st (am U26 rfl T3 (by decide) (Fld.fst Fld.refl) (isR rfl)) ?_
 refine st (ldI T3 (isR rfl)) ?_
 refine st (eql rfl rfl) ?_
 refine st (mv rfl) ?_
 refine sgE rfl rfl (.k 1 rfl .n) (fun hgd=>ldB T4 (isR rfl)) ?_
 refine st (aW rfl rfl (fun h=>by rw[h];rfl)) ?_
 refine en fun a w e' hf=>?_
 replace e:=e.tr e'
 refine ae hf rfl (by decide) fun a hf=>?_
 refine aa ?_
 refine aj ?_
 refine al rfl hf rfl ?_
 rintro _ rfl
 exact⟨_,rfl,e,rfl⟩
theorem vh (h:(Dv (ptE dtE) G (some d)).p v W)(h1:(Dv (ptE (ptE (grE N))) G2 (some (some g))).p v1 W):Calls Tryz.prog 113 #[v,v1] W (Post (E (.bool (d.1==2&&decide ((1024:Int)≤(g.2.length:Nat))))) W):=by
 refine enter (args:=[v,v1]) (As:=[Dv (ptE dtE) G (some d),Dv (ptE (ptE (grE N))) G2 (some (some g))]) Tryz.func113 rfl Tryz.ntmps113 (Nat.le_of_ble_eq_true rfl) ?_ (fun a hf=>?_) (Nat.le_of_ble_eq_true rfl)
 rotate_left
 dsimp only[params,Nat.reduceAdd] at hf
 rotate_right
 ·exact arg2 h h1
 have e:=Ext.rfl' W
 refine seq ?_
 refine ah ?_
 refine ae hf rfl (by decide) fun a hf=>?_
 refine aa ?_
 refine seq ?_
 refine ac 11 hf (by decide +kernel) ?_
 refine st (am U26 rfl T3 (by decide) (Fld.fst Fld.refl) (isR rfl)) ?_
 refine st (ldI T3 (isR rfl)) ?_
 refine st (eql rfl rfl) ?_
 refine st (mv rfl) ?_
 refine sgE rfl rfl (.k 1 rfl .n) (fun hgd=>ldD T38 (isR rfl)) ?_
 refine sgE rfl rfl (.c 7 rfl (fun h=>h) .n) (fun hgd=>ct (isR rfl)) ?_
 refine sgE rfl rfl (.c 8 rfl (fun h=>h) .n) (fun hgd=>am bP rfl bG (by decide) (Fld.snd Fld.refl rfl) (isR rfl)) ?_
 refine sgE rfl rfl (.c 9 rfl (fun h=>h) .n) (fun hgd=>ldD bG (isR rfl)) ?_
 refine sgE rfl rfl (.c 10 rfl (fun h=>h) .n) (fun hgd=>uI dc (isR rfl)) ?_
 refine sgE rfl rfl (.c 11 rfl (fun h=>h) .n) (fun hgd=>geq rfl rfl) ?_
 refine st (aW rfl rfl (fun h=>by rw[h];rfl)) ?_
 refine en fun a w e' hf=>?_
 replace e:=e.tr e'
 refine ae hf rfl (by decide) fun a hf=>?_
 refine aa ?_
 refine aj ?_
 refine al rfl hf rfl ?_
 rintro _ rfl
 exact⟨_,rfl,e,rfl⟩
end
end Go.Mono
namespace Go.Mono
open Go Go.RowKit

def frQ (fr:List Nat)(j:Nat):Bool:=Nat.beq (fr.getD j 0) 1
def kpQ (fr:List Nat)(j:Nat):Bool := !Nat.beq (fr.getD j 0) 0
end Go.Mono
namespace Go.Mono
open Go Go.RowKit
structure cC (S:World→World→Prop):Prop where
 tr:∀{a b c},S a b→S b c→S a c
 ext:∀{a b},Ext a b→S a b
class StJ (S:World→World→Prop)(A:VA):Prop where
 av:∀v w w',S w w'→A.p v w→A.p v w'
class fh (S:World→World→Prop)(L:Env):Prop where
 av:∀t A,aA L t=some A→∀v w w',S w w'→A.p v w→A.p v w'
instance (S:World→World→Prop)(v:Value):StJ S (E v):=⟨fun _ _ _ _ h=>h⟩
instance (S:World→World→Prop):StJ S Any:=⟨fun _ _ _ _ h=>h⟩
instance (S:World→World→Prop):fh S []:=⟨fun t A h=>by simp[aA] at h⟩
instance (S:World→World→Prop)(k:Nat)(A:VA)(L:Env)[h:StJ S A][hl:fh S L]:fh S ((k,A)::L):=⟨fun t B ht=>by
 by_cases hkt:k=t
 ·subst hkt;rw[cj] at ht;cases ht;exact h.av
 ·rw[ck _ _ hkt] at ht;exact hl.av t B ht⟩
end Go.Mono
namespace Go.Mono
open Go Go.RowKit
def gC (P:Program)(ops:Array Oper)(w0:World)(S:World→World→Prop)(F:World→Prop)(pf:List Nat):Nat→List Oper→(Env→Prop)→Env→Prop
 | _,[],K,L2=>K L2
 | k,o::rest,K,L2=>∃A,(∀w1,S w0 w1→(pf.contains k=true∨F w1)→GOp P ops w1 L2 o A)∧(pf.contains k=true→StJ S A)∧gC P ops w0 S F pf (k+1) rest K (push o.dst A L2)
def dx (P:Program)(ops:Array Oper)(w0:World)(S:World→World→Prop)(F:World→Prop)(pf:List Nat):Nat→List Nat→List Oper→(Env→Prop)→Env→Env→Prop
 | k,[],o::rest,K,L,L2=>o.guard=none∧∃A,fa P w0 S F L o A∧gC P ops w0 S F pf (k+1) rest K (push o.dst A L2)
 | k,c::fr,o::rest,K,L,L2=>∃A,(c≠1→GOp P ops w0 L o A)∧(c=1→∀w1,S w0 w1→GOp P ops w1 L o A)∧(c≠0→StJ S A)∧dx P ops w0 S F pf (k+1) fr rest K (push o.dst A L) (push o.dst (if c≠0 then A else Any) L2)
 | _,_,_,_,_,_=>False

section
variable {P:Program}{ops:Array Oper}{Q:Exit→Act→World→Prop}{w0:World}{n:Nat}{ds:List Deferred}{r:Option Nat}

theorem oc {S:World→World→Prop}{F:World→Prop}{pf:List Nat}{K:Env→Prop}:∀(M:List Oper) (k:Nat) (L:Env),(∀j,j<M.length→ops[k+j]?=M[j]?)→gC P ops w0 S F pf k M K L →
  ∃As:Nat→VA,(∀j o,j<M.length→ops[k+j]?=some o→(∀w1,S w0 w1→(pf.contains (k+j)=true∨F w1)→GOp P ops w1 (aK ops L As k j) o (As j))∧(pf.contains (k+j)=true→StJ S (As j)))∧K (aK ops L As k M.length)
 | [],k,L,_,h=>⟨fun _=>Any,fun j o hj=>by simp at hj,h⟩
 | o::M,k,L,hM,⟨A,hA,hB,hr⟩=>by
  have h0:ops[k]?=some o:=by simpa using hM 0 (by simp)
  have hd:aB ops k=o.dst:=by simp[aB,h0]
  obtain⟨As,h1,h2⟩:=oc M (k+1) (push o.dst A L) (fun j hj=>by
   have:=hM (j+1) (by simpa using hj)
   rw[show k+1+j=k+(j+1) by omega]
   simpa using this) hr
  refine⟨dL A As,?_,?_⟩
  ·intro j o' hj ho'
   cases j with
   | zero=>
    rw[Nat.add_zero,h0] at ho'
    obtain rfl:=Option.some.inj ho'
    exact⟨hA,hB⟩
   | succ j=>
    rw[dq,hd]
    have:=h1 j o' (by simpa using hj) (by rw[show k+1+j=k+(j+1) by omega];exact ho')
    rwa [show k+1+j=k+(j+1) by omega] at this
  ·rw[List.length_cons,dq,hd]
   exact h2
theorem od {S:World→World→Prop}{F:World→Prop}{pf:List Nat}{K:Env→Prop}:∀(M:List Oper) (fr:List Nat) (k:Nat) (L L2:Env),(∀j,j<M.length→ops[k+j]?=M[j]?)→dx P ops w0 S F pf k fr M K L L2 →
  ∃As:Nat→VA,fr.length<M.length∧(∀j o,j<fr.length→ops[k+j]?=some o→(frQ fr j=false→GOp P ops w0 (aK ops L As k j) o (As j))∧(frQ fr j=true→∀w1,S w0 w1→GOp P ops w1 (aK ops L As k j) o (As j))∧(kpQ fr j=true→StJ S (As j))) ∧
   (∀o,ops[k+fr.length]?=some o→o.guard=none∧fa P w0 S F (aK ops L As k fr.length) o (As fr.length)) ∧
   (∀j o,fr.length<j→j<M.length→ops[k+j]?=some o→(∀w1,S w0 w1→(pf.contains (k+j)=true∨F w1)→GOp P ops w1 (aK ops L2 (fun j=>if kpQ fr j=true∨fr.length≤j then As j else Any) k j) o (As j))∧(pf.contains (k+j)=true→StJ S (As j))) ∧
   K (aK ops L2 (fun j=>if kpQ fr j=true∨fr.length≤j then As j else Any) k M.length)
 | [],[],_,_,_,_,h=>h.elim
 | [],_::_,_,_,_,_,h=>h.elim
 | o::M,[],k,L,L2,hM,⟨hg,A,h1,h2⟩=>by
  have h0:ops[k]?=some o:=by simpa using hM 0 (by simp)
  have hd:aB ops k=o.dst:=by simp[aB,h0]
  obtain⟨As,h3,h4⟩:=oc M (k+1) (push o.dst A L2) (fun j hj=>by
   have:=hM (j+1) (by simpa using hj)
   rw[show k+1+j=k+(j+1) by omega]
   simpa using this) h2
  have e:(fun j=>if kpQ [] j=true∨([]:List Nat).length≤j then dL A As j else Any)=dL A As:=by
   funext j
   simp
  refine⟨dL A As,by simp,fun j o hj=>by simp at hj,fun o' ho'=>?_,fun j o' hj hj2 ho'=>?_,?_⟩
  ·rw[List.length_nil,Nat.add_zero,h0] at ho'
   obtain rfl:=Option.some.inj ho'
   exact⟨hg,h1⟩
  ·rw[e]
   cases j with
   | zero=>simp at hj
   | succ j=>
    rw[dq,hd]
    have:=h3 j o' (by simpa using hj2) (by rw[show k+1+j=k+(j+1) by omega];exact ho')
    rwa [show k+1+j=k+(j+1) by omega] at this
  ·rw[e,List.length_cons,dq,hd]
   exact h4
 | o::M,c::fr,k,L,L2,hM,⟨A,hA1,hA2,hA3,hr⟩=>by
  have h0:ops[k]?=some o:=by simpa using hM 0 (by simp)
  have hd:aB ops k=o.dst:=by simp[aB,h0]
  obtain⟨As,h1,h2,h3,h5,h4⟩:=od M fr (k+1) _ _ (fun j hj=>by
   have:=hM (j+1) (by simpa using hj)
   rw[show k+1+j=k+(j+1) by omega]
   simpa using this) hr
  have hc1:kpQ (c::fr) 0=true↔c≠0:=by
   unfold kpQ
   cases c with
   | zero=>simp
   | succ n=>exact⟨fun _=>Nat.succ_ne_zero n,fun _=>rfl⟩
  have hc2:frQ (c::fr) 0=true↔c=1:=by
   unfold frQ
   simp[Nat.beq_eq]
  have e:(fun j=>if kpQ (c::fr) j=true∨(c::fr).length≤j then dL A As j else Any)=dL (if c≠0 then A else Any) (fun j=>if kpQ fr j=true∨fr.length≤j then As j else Any):=by
   funext j
   cases j with
   | zero=>
    show (if kpQ (c::fr) 0=true∨fr.length+1≤0 then A else Any)=(if c≠0 then A else Any)
    have:¬fr.length+1≤0:=by omega
    simp[this,hc1]
   | succ j=>
    show (if kpQ fr j=true∨fr.length+1≤j+1 then As j else Any)=_
    simp[dL]
  refine⟨dL A As,by simp only[List.length_cons];omega,?_,?_,?_,?_⟩
  ·intro j o' hj ho'
   cases j with
   | zero=>
    rw[Nat.add_zero,h0] at ho'
    obtain rfl:=Option.some.inj ho'
    exact⟨fun h=>hA1 fun hc=>(by rw[hc2.2 hc] at h;cases h),fun h=>hA2 (hc2.1 h),fun h=>hA3 (hc1.1 h)⟩
   | succ j=>
    rw[dq,hd]
    exact h2 j o' (by simpa using hj) (by rw[show k+1+j=k+(j+1) by omega];exact ho')
  ·intro o' ho'
   rw[List.length_cons,dq,hd]
   exact h3 o' (by rw[show k+1+fr.length=k+(fr.length+1) by omega];exact ho')
  ·intro j o' hj hj2 ho'
   rw[e]
   cases j with
   | zero=>simp at hj
   | succ j=>
    rw[dq,hd]
    have:=h5 j o' (by simpa using hj) (by simpa using hj2) (by rw[show k+1+j=k+(j+1) by omega];exact ho')
    rwa [show k+1+j=k+(j+1) by omega] at this
  ·rw[e,List.length_cons,dq,hd]
   exact h4

structure vi (ops:Array Oper)(m x:Nat)(kp:Nat→Bool)(S:World→World→Prop)(F:World→Prop)(n:Nat)(ds:List Deferred)(w0:World)(L:Env)(As:Nat→VA)(listed:Array Bool)(a:Act)(w:World):Prop where
 ext:S w0 w
 pre:listed.getD x true=false→Ext w0 w
 post:listed.getD x false=true→F w
 size:a.tmps.size=n
 defers:a.defers=ds
 hL:∀t A,aA L t=some A→(∀j,j<m→aB ops j≠some t)→A.p (a.eval (.tmp t)) w
 hA:∀i,i<m→listed.getD i false=true→(listed.getD x true=false∨kp i=true∨x≤i)→∀d,aB ops i=some d→(As i).p (a.eval (.tmp d)) w

theorem oe {m x:Nat}{fr kp pf:Nat→Bool}{S:World→World→Prop}(hR:cC S){F:World→Prop}(hx0:x<m)(hFst:∀w w',Ext w w'→F w→F w'){L:Env}{As:Nat→VA}(hm:m≤ops.size)(hchk:∀i,i<m→cO ops m n i=true)(hchk2:∀i,m≤i→i<ops.size→cx ops i=true)
  (hanc:∀j,j<x→fr j=false→dX ops 12 x j=true) (hpo:∀j,x<j→j<m→pf j=true∨dX ops 12 j x=true) (hpk:∀j o,x<j→j<m→ops[j]?=some o→pf j=true→StJ S (As j)) (hfk:∀j,fr j=true→kp j=true)
  (hfree:∀i o,i<x→fr i=true→ops[i]?=some o→∀t,(t∈co o∨bE ops o=some t)→∀j,j<m→aB ops j=some t→kp j=true∧j≠x)
  (hopsP:∀j o,x<j→j<m→ops[j]?=some o→∀w1,S w0 w1→(pf j=true∨F w1)→GOp P ops w1 (aK ops L (fun j=>if kp j=true∨x≤j then As j else Any) 0 j) o (As j))
  (hops:∀j o,j<x→ops[j]?=some o→(fr j=false→GOp P ops w0 (aK ops L As 0 j) o (As j))∧(fr j=true→∀w1,S w0 w1→GOp P ops w1 (aK ops L As 0 j) o (As j))∧(kp j=true→StJ S (As j)))
  (hX:∀o,ops[x]?=some o→o.guard=none∧fa P w0 S F (aK ops L As 0 x) o (As x)) (hLav:fh S L)
  (hend:∀a w,S w0 w→F w→FrD n ds a w (aK ops L (fun j=>if kp j=true∨x≤j then As j else Any) 0 m)→wpListIn (FW r) 0 P ops Q (ops.toList.drop m) a w) :
  ∀(c:Nat) (listed:Array Bool) (a:Act) (w:World),(List.range m).countP (fun i => !listed.getD i true)=c→listed.size=ops.size →
   (∀j,m≤j→j<ops.size→listed.getD j true=false)→LD ops listed→vi ops m x kp S F n ds w0 L As listed a w→wpAnyIn (FW r) 0 P .any ops Q (c+(ops.size - m)) listed a w
 | 0,listed,a,w,hc,hsz,hun,hld,hi=>by
  have hall:∀j,j<m→listed.getD j false=true:=by
   intro j hj
   have:=(List.countP_eq_zero.1 hc) j (List.mem_range.2 hj)
   have hjl:j<listed.size:=by omega
   simpa[hjl] using this
  rw[Nat.zero_add]
  refine fx m hchk2 (ops.size - m) m (by omega) (Nat.le_refl _) listed a w hall hun hsz hld (hend a w hi.ext (hi.post (hall x hx0)) ⟨hi.size,hi.defers,fun t A ht=>?_⟩)
  rcases cQ L _ t A m ht with ⟨j,hj,hd,rfl⟩|⟨hn,hl⟩
  ·by_cases hk:kp j=true∨x≤j
   ·rw[if_pos hk]
    exact hi.hA j hj (hall j hj) (.inr hk) t hd
   ·rw[if_neg hk];trivial
  ·exact hi.hL t A hl hn
 | c+1,listed,a,w,hc,hsz,hun,hld,hi=>by
  have facts:∀i o,i<m→ops[i]?=some o→(∀e∈o.after,Region.binds .any e=true→e.on<i)∧(∀d,o.dst=some d→d<n) ∧
    (∀t,t∈co o∨bE ops o=some t→∀j,j<m→aB ops j=some t→bnd ops i j=true)∧(∀j,j<m→j≠i→∀d,o.dst=some d→aB ops j≠some d):=by
   intro i o hlt ho
   have:=hchk i hlt
   simp only[cO,ho,Bool.and_eq_true,Array.all_eq_true_iff_forall_mem,Bool.or_eq_true,Bool.not_eq_true',List.all_eq_true,List.mem_range,List.mem_append,Option.mem_toList] at this
   obtain⟨⟨⟨h1,h2⟩,h3⟩,h4⟩:=this
   refine⟨fun e he hb=>?_,fun d hd=>?_,fun t ht j hj hd=>?_,fun j hj hne d hd hd'=>?_⟩
   ·rcases h1 e he with h|h
    ·rw[hb] at h;cases h
    ·simpa[Nat.blt_eq] using h
   ·simpa[hd,Nat.blt_eq] using h2
   ·have:=h3 t ht j hj
    rcases this with h|h
    ·rw[hd] at h;simp at h
    ·exact h
   ·have:=h4 j hj
    rcases this with h|h
    ·exact hne (Nat.eq_of_beq_eq_true h)
    ·rw[hd,hd'] at h;simp at h
  have prog:∃i,i<m∧listed.getD i true=false∧∀j,j<i→listed.getD j true=true:=by
   have hex:∃i,i<m∧listed.getD i true=false:=by
    have hpos:0<(List.range m).countP (fun i => !listed.getD i true):=by omega
    obtain⟨i,hi,hb⟩:=List.countP_pos_iff.1 hpos
    exact⟨i,List.mem_range.1 hi,by simpa using hb⟩
   obtain⟨i,hlt,hb⟩:=hex
   induction i using Nat.strongRecOn with
   | _ i ih=>
    by_cases h:∃j,j<i∧listed.getD j true=false
    ·obtain⟨j,hj,hjb⟩:=h
     exact ih j hj (by omega) hjb
    ·refine⟨i,hlt,hb,fun j hj=>?_⟩
     cases hjb:listed.getD j true with
     | true=>rfl
     | false=>exact absurd ⟨j,hj,hjb⟩ h
  obtain⟨i0,hi0,hu0,hbelow⟩:=prog
  have hready:i0∈Region.ready .any ops listed:=by
   have ho:ops[i0]?=some (ops[i0]'(by omega)):=by simp
   refine mem_ready.2 ⟨hu0,_,ho,fun e he hb=>?_⟩
   have hlt:=(facts i0 _ hi0 ho).1 e he hb
   have:=hbelow _ hlt
   have hjl:e.on<listed.size:=by omega
   simpa[hjl] using this
  rw[show c+1+(ops.size - m)=(c+(ops.size - m))+1 by omega]
  refine⟨fun h0=>(by rw[h0] at hready;cases hready),fun i hir=>?_⟩
  obtain⟨hu,o,ho,hall⟩:=mem_ready.1 hir
  have hilt:i<ops.size:=(Array.getElem?_eq_some_iff.1 ho).1
  have listed_of_bnd:∀j,bnd ops i j=true→listed.getD j false=true:=by
   intro j hb
   simp only[bnd,ho] at hb
   obtain⟨e,he,hb⟩:=Array.any_eq_true'.1 hb
   simp only[Bool.and_eq_true] at hb
   have:=hall e he hb.1
   rwa [Nat.eq_of_beq_eq_true hb.2] at this
  have him:i<m:=by
   rcases Nat.lt_or_ge i m with h|h
   ·exact h
   ·have hc:=hchk2 i h hilt
    simp only[cx,ho,Bool.and_eq_true,List.all_eq_true,List.mem_range] at hc
    have:=cov hld 12 i i0 (hc.2 i0 (by omega)) (fun o' ho' e he hb=>by
     rw[ho] at ho'
     obtain rfl:=Option.some.inj ho'
     exact hall e he hb)
    rw[dC hu0] at this
    cases this
  obtain⟨f1,f2,f3,f4⟩:=facts i o him ho
  have hlx:x<i→pf i=true∨listed.getD x false=true:=fun hxi=>(hpo i hxi him).imp id fun hco=>cov hld 12 i x hco (fun o' ho' e he hb=>by
   rw[ho] at ho'
   obtain rfl:=Option.some.inj ho'
   exact hall e he hb)
  have hxun:i<x→fr i=false→listed.getD x true=false:=by
   intro hix hfr
   cases hlx:listed.getD x true with
   | false=>rfl
   | true=>
    have hxl:x<listed.size:=by omega
    have hlx':listed.getD x false=true:=by simpa[hxl] using hlx
    have:=cov hld 12 x i (hanc i hix hfr) (fun o' ho' e he hb=>hld x o' hlx' ho' e he hb)
    rw[dC hu] at this
    cases this
  have hcond:i≤x→∀j,j<m→(∃t,(t∈co o∨bE ops o=some t)∧aB ops j=some t)→(listed.getD x true=false∨kp j=true∨x≤j):=by
   rintro hix0 j hj ⟨t,ht,hd⟩
   by_cases hix:i=x
   ·exact .inl (hix▸hu)
   ·cases hfr:fr i with
    | true=>exact .inr (.inl ((hfree i o (by omega) hfr ho t ht j hj hd).1))
    | false=>exact .inl (hxun (by omega) hfr)
  have byLook:i≤x→∀t,(t∈co o∨bE ops o=some t)→∀B,aA (aK ops L As 0 i) t=some B→B.p (a.eval (.tmp t)) w:=by
   intro hix t ht B hB
   rcases cQ L As t B i hB with ⟨j,hj,hd,rfl⟩|⟨hn,hl⟩
   ·exact hi.hA j (by omega) (listed_of_bnd j (f3 t ht j (by omega) hd)) (hcond hix j (by omega) ⟨t,ht,hd⟩) t hd
   ·refine hi.hL t B hl fun j hj hd=>?_
    have hb:=f3 t ht j hj hd
    simp only[bnd,ho] at hb
    obtain⟨e,he,hb⟩:=Array.any_eq_true'.1 hb
    simp only[Bool.and_eq_true] at hb
    have hlt:=f1 e he hb.1
    rw[Nat.eq_of_beq_eq_true hb.2] at hlt
    exact hn j hlt hd
  have byLookP:∀t,(t∈co o∨bE ops o=some t)→∀B,aA (aK ops L (fun j=>if kp j=true∨x≤j then As j else Any) 0 i) t=some B→B.p (a.eval (.tmp t)) w:=by
   intro t ht B hB
   rcases cQ L _ t B i hB with ⟨j,hj,hd,rfl⟩|⟨hn,hl⟩
   ·by_cases hk:kp j=true∨x≤j
    ·rw[if_pos hk]
     exact hi.hA j (by omega) (listed_of_bnd j (f3 t ht j (by omega) hd)) (.inr hk) t hd
    ·rw[if_neg hk];trivial
   ·refine hi.hL t B hl fun j hj hd=>?_
    have hb:=f3 t ht j hj hd
    simp only[bnd,ho] at hb
    obtain⟨e,he,hb⟩:=Array.any_eq_true'.1 hb
    simp only[Bool.and_eq_true] at hb
    have hlt:=f1 e he hb.1
    rw[Nat.eq_of_beq_eq_true hb.2] at hlt
    exact hn j hlt hd
  have ops1:i≤x→∀x∈o.op.operands,∀B,opd (aK ops L As 0 i) x=some B→B.p (a.eval x) w:=fun hix x hx B hB=>by
   cases x with
   | tmp t=>exact byLook hix t (.inl (List.mem_filterMap.2 ⟨.tmp t,by simpa using hx,rfl⟩)) B hB
   | const v=>simp[opd] at hB;subst hB;rfl
   | global g=>simp[opd] at hB;subst hB;rfl
   | func f=>simp[opd] at hB;subst hB;rfl
  have ops2:∀x'∈o.op.operands,∀B,opd (aK ops L (fun j=>if kp j=true∨x≤j then As j else Any) 0 i) x'=some B→B.p (a.eval x') w:=fun x' hx B hB=>by
   cases x' with
   | tmp t=>exact byLookP t (.inl (List.mem_filterMap.2 ⟨.tmp t,by simpa using hx,rfl⟩)) B hB
   | const v=>simp[opd] at hB;subst hB;rfl
   | global g=>simp[opd] at hB;subst hB;rfl
   | func f=>simp[opd] at hB;subst hB;rfl
  have hdst:aB ops i=o.dst:=by simp[aB,ho]
  have step:∀v w',S w w'→(i≠x→Ext w w')→(i=x→∀j,j<x→kp j=true→StJ S (As j))→(As i).p v w'→(i=x→F w')→wpAnyIn (FW r) 0 P .any ops Q (c+(ops.size - m)) (listed.setIfInBounds i true) (a.put o.dst v) w':=by
   intro v w' hx hxe hxa hv hvF
   have stab:∀(A:VA) u,StJ S A→A.p u w→A.p u w':=fun A u hA h=>hA.av _ _ _ hx h
   refine oe hR hx0 hFst hm hchk hchk2 hanc hpo hpk hfk hfree hopsP hops hX hLav hend c _ _ _ ?_ (by simpa using hsz) ?_ ?_ ?_
   ·have:=fX m (fun j => !listed.getD j true) (fun j => !(listed.setIfInBounds i true).getD j true) i him (by simp only[hu,Bool.not_false])
     (by
       have hjl:i<listed.size:=by omega
       simp[hjl]) (fun j hj=>by simp only[getD_set_ne true (Ne.symm hj)])
    omega
   ·intro j hj hj'
    rw[getD_set_ne true (by omega)]
    exact hun j hj hj'
   ·exact hld.set fun o' ho' e he hb=>by
     rw[ho] at ho'
     obtain rfl:=Option.some.inj ho'
     exact hall e he hb
   ·refine⟨hR.tr hi.ext hx,fun hl=>?_,fun hl=>?_,by simp[hi.size],by simp[hi.defers],fun t A ht hn=>?_,fun j hj hl hcj d hd=>?_⟩
    ·have hix:i≠x:=by
      rintro rfl
      have hjl:i<listed.size:=by omega
      simp[hjl] at hl
     rw[getD_set_ne true hix] at hl
     exact Ext.tr (hi.pre hl) (hxe hix)
    ·by_cases hix:i=x
     ·exact hvF hix
     ·rw[getD_set_ne false hix] at hl
      exact hFst _ _ (hxe hix) (hi.post hl)
    ·have h0:=stab A _ ⟨hLav.av t A ht⟩ (hi.hL t A ht hn)
     cases hod:o.dst with
     | none=>exact h0
     | some d=>
      have:d≠t:=fun e=>hn i him (by rw[hdst,hod,e])
      rw[cN this]
      exact h0
    ·by_cases hji:j=i
     ·subst hji
      rw[hdst] at hd
      rw[hd,dW (by rw[hi.size];exact f2 d hd)]
      exact hv
     ·have hl':listed.getD j false=true:=by rwa [getD_set_ne false (Ne.symm hji)] at hl
      have hcj':listed.getD x true=false∨kp j=true∨x≤j:=by
       by_cases hix:i=x
       ·exact .inl (hix▸hu)
       ·rw[getD_set_ne true hix] at hcj
        exact hcj
      have h1:=hi.hA j hj hl' hcj' d hd
      have h0:(As j).p (a.eval (.tmp d)) w':=by
       by_cases hix:i=x
       ·rcases Nat.lt_trichotomy j x with hjx|h|h
        rotate_left
        ·exact absurd (h.trans hix.symm) hji
        ·rcases hpo j h hj with hp|hp
         ·exact stab _ _ (hpk j (ops[j]'(by omega)) h hj (by simp) hp) h1
         ·have:=cov hld 12 j x hp (fun o' ho' e he hb=>hld j o' hl' ho' e he hb)
          rw[dC (hix▸hu)] at this
          cases this
        refine stab _ _ (hxa hix j hjx ?_) h1
        rcases hcj with h|h|h
        ·have hxl:x<listed.size:=by omega
         subst hix
         simp[hxl] at h
        ·exact h
        ·omega
       ·exact (As j).st _ _ _ (hxe hix) h1
      cases hod:o.dst with
      | none=>exact h0
      | some d'=>
       have:d'≠d:=fun e=>f4 j hj hji d' hod (by rw[hd,e])
       rw[cN this]
       exact h0
  unfold wpOpIn
  simp only[ho]
  by_cases hix:i=x
  ·obtain⟨hgd,hxo⟩:=hX o (hix▸ho)
   have hw:Region.wanted o (yielded ops a.tmps)=true:=by unfold Region.wanted;rw[hgd]
   rw[if_pos hw]
   have hpre:Ext w0 w:=hi.pre (hix▸hu)
   exact (hxo.out a.eval w hpre (hix▸ops1 (Nat.le_of_eq hix))).wp fun v w' hv=>step v w' hv.1 (fun h=>absurd hix h) (fun _ j hj=>by
    have hoj:ops[j]?=some (ops[j]'(by omega)):=by simp
    exact fun hfj=>(hops j _ hj hoj).2.2 hfj) (hix▸hv.2.1) (fun _=>hv.2.2)
  ·have hg:if Region.wanted o (yielded ops a.tmps) then OpR P o a.eval w (fun v w'=>Ext w w'∧(As i).p v w') else (As i).p undef w:=by
    by_cases hlt:i<x
    ·cases hfr:fr i with
     | true=>exact (hops i o hlt ho).2.1 hfr w hi.ext a w (Ext.rfl' w) (ops1 (by omega)) (fun d B hd hB=>byLook (by omega) d (.inr hd) B hB)
     | false=>exact (hops i o hlt ho).1 hfr a w (hi.pre (hxun hlt hfr)) (ops1 (by omega)) (fun d B hd hB=>byLook (by omega) d (.inr hd) B hB)
    ·exact hopsP i o (by omega) him ho w hi.ext ((hlx (by omega)).imp id hi.post) a w (Ext.rfl' w) ops2 (fun d B hd hB=>byLookP d (.inr hd) B hB)
   split
   ·rename_i hw
    rw[if_pos hw] at hg
    exact (hg.wp fun v w' hv=>step v w' (hR.ext hv.1) (fun _=>hv.1) (fun h=>absurd h hix) hv.2 (fun h=>absurd h hix))
   ·rename_i hw
    rw[if_neg hw] at hg
    exact⟨fun _ _=>trivial,step undef w (hR.ext (Ext.rfl' w)) (fun _=>Ext.rfl' _) (fun h=>absurd h hix) hg (fun h=>absurd h hix)⟩

def jR (ops:Array Oper)(m:Nat)(fr pf:List Nat):Bool:=
 Nat.blt fr.length m&&((List.range fr.length).all fun j=>frQ fr j || dX ops 12 fr.length j)&&((List.range m).all fun j=>(Nat.ble j fr.length || pf.contains j) || dX ops 12 j fr.length) &&
 ((
   List.range fr.length).all fun i => !frQ fr i || match ops[i]? with
   | none=>false
   | some o=>(co o++(bE ops o).toList).all fun t=>(List.range m).all fun j=>(match aB ops j with|some d => !Nat.beq d t|none=>true) || (kpQ fr j&&Nat.blt j fr.length))
abbrev vj (ops:Array Oper)(m:Nat)(fr:List Nat):Bool:=jR ops m fr []
theorem vk {id:Nat}{ops:Array Oper}{L:Env}{a:Act}{w:World}(m:Nat)(fr pf:List Nat)(S:World→World→Prop)(hR:cC S)(F:World→Prop)(hFst:∀w w',Ext w w'→F w→F w')(hmix:P.follows .mixedOrders=true)(hf:FrD n ds a w L)[hL:fh S L](hchk:chk ops m n=true)(hchkZ:jR ops m fr pf=true)
  (h:dx P ops w S F pf 0 fr (ops.toList.take m) (fun L'=>∀a' w',S w w'→F w'→FrD n ds a' w' L'→wpListIn (FW r) 0 P ops Q (ops.toList.drop m) a' w') L L):(Code.region id ops true).wpIn (FW r) 0 P Q a w:=by
 simp only[chk,Bool.and_eq_true,List.all_eq_true,List.mem_range,Bool.or_eq_true,Nat.ble_eq] at hchk
 obtain⟨⟨hm,h1⟩,h2⟩:=hchk
 refine wpIn_region_any hmix ?_
 have hlen:(ops.toList.take m).length=m:=by simp;omega
 obtain⟨As,hfl,hAs,hX,hPo,hK⟩:=od (ops:=ops) (ops.toList.take m) fr 0 L L (fun j hj=>by
  rw[hlen] at hj
  rw[Nat.zero_add,List.getElem?_take,if_pos hj];simp) h
 rw[hlen] at hK hfl hPo
 simp only[jR,Bool.and_eq_true,List.all_eq_true,List.mem_range,Bool.or_eq_true,Nat.blt_eq,Nat.ble_eq] at hchkZ
 obtain⟨⟨⟨hx,z1⟩,z3⟩,z2⟩:=hchkZ
 have hext:Ext w { w with drawn:=w.drawn+1 }:=Ext.drew w
 have:=oe (P:=P) (ops:=ops) (Q:=Q) (w0:=w) (n:=n) (ds:=ds) (m:=m) (x:=fr.length) (fr:=frQ fr) (kp:=kpQ fr) (pf:=pf.contains) (S:=S) (F:=F) (r:=r) (L:=L) (As:=As) hR hx hFst hm h1 (fun i hi hi'=>by
   rcases h2 i hi' with h|h
   ·simp only[Nat.blt_eq] at h;omega
   ·exact h) (fun j hj hfj=>by
   rcases z1 j hj with h|h
   ·rw[hfj] at h;cases h
   ·exact h) (fun j hj hjm=>by
   rcases z3 j hjm with (h|h)|h
   ·omega
   ·exact .inl h
   ·exact .inr h) (fun j o hj hjm ho hp=>(hPo j o hj hjm (by simpa using ho)).2 (by simpa using hp)) (fun j h=>by
   unfold frQ at h
   unfold kpQ
   rw[Nat.eq_of_beq_eq_true h];rfl) (fun i o hi hfi ho t ht j hj hd=>by
   have:=z2 i hi
   rw[hfi,ho] at this
   simp only[Bool.not_true,Bool.false_eq_true,false_or,List.all_eq_true,List.mem_append,Option.mem_toList,List.mem_range,Bool.or_eq_true] at this
   rcases this t ht j hj with h|h
   ·rw[hd] at h;simp at h
   ·rw[Bool.and_eq_true,Nat.blt_eq] at h
    exact⟨h.1,by omega⟩) (fun j o hj hjm ho w1 a b=>(hPo j o hj hjm (by simpa using ho)).1 w1 a (by simpa using b)) (fun j o hj ho=>hAs j o hj (by simpa using ho)) (fun o ho=>hX o (by simpa using ho)) hL (fun a w hx hF hf=>hK a w hx hF hf) m
  (Array.replicate ops.size false) a { w with drawn:=w.drawn+1 } ?_ (by simp) ?_ ?_ ⟨hR.ext hext,fun _=>hext,fun hl=>?_,hf.size,hf.defers,fun t A ht _=>A.st _ _ _ hext (hf.val t A ht),fun i hi hl=>?_⟩
 ·rwa [show m+(ops.size - m)=ops.size by omega] at this
 ·have:(List.range m).countP (fun i => !(Array.replicate ops.size false).getD i true)=(List.range m).length:=by
   refine List.countP_eq_length.2 fun i hi=>?_
   have:=List.mem_range.1 hi
   have hlt:i<ops.size:=by omega
   simp[hlt]
  simpa using this
 ·intro j _ hj
  simp[hj]
 ·intro i o hl
  have:(Array.replicate ops.size false).getD i false=false:=by
   by_cases hlt:i<ops.size <;> simp[hlt]
  rw[this] at hl;cases hl
 ·have:(Array.replicate ops.size false).getD fr.length false=false:=by
   by_cases hlt:fr.length<ops.size <;> simp[hlt]
  rw[this] at hl;cases hl
 ·have:(Array.replicate ops.size false).getD i false=false:=by
   by_cases hlt:i<ops.size <;> simp[hlt]
  rw[this] at hl;cases hl
theorem ew {id:Nat}{ops:Array Oper}{L:Env}{a:Act}{w:World}(m:Nat)(fr:List Nat)(S:World→World→Prop)(hR:cC S)(F:World→Prop)(hFst:∀w w',Ext w w'→F w→F w')(hmix:P.follows .mixedOrders=true)(hf:FrD n ds a w L)[hL:fh S L](hchk:chk ops m n=true)(hchkZ:vj ops m fr=true)
  (h:dx P ops w S F [] 0 fr (ops.toList.take m) (fun L'=>∀a' w',S w w'→F w'→FrD n ds a' w' L'→wpListIn (FW r) 0 P ops Q (ops.toList.drop m) a' w') L L):(Code.region id ops true).wpIn (FW r) 0 P Q a w:=vk m fr [] S hR F hFst hmix hf hchk hchkZ h
end
section
variable {P:Program}{w0:World}{L L2:Env}{ty:TypeId}{pos:String}{aft:Array Edge}
variable {ops:Array Oper}{rest:List Oper}{K:Env→Prop}{A:VA}{op:Op}{dd:Nat}{S:World→World→Prop}{F:World→Prop}{fr pf:List Nat}{kk:Nat}
theorem jf (h:∀w1,S w0 w1→OpC P w1 L ⟨some dd,op,ty,pos,aft,none⟩ A)[hA:StJ S A](k:dx P ops w0 S F pf (kk+1) fr rest K ((dd,A)::L) ((dd,A)::L2)):dx P ops w0 S F pf kk (1::fr) (⟨some dd,op,ty,pos,aft,none⟩::rest) K L L2:=
 ⟨A,fun h=>absurd rfl h,fun _ w1 h1 a w he hv _=>by simp only[Region.wanted,if_true];exact (h w1 h1).out _ w he hv,fun _=>hA,k⟩
theorem ja (h:OpC P w0 L ⟨some dd,op,ty,pos,aft,none⟩ A)(k:dx P ops w0 S F pf (kk+1) fr rest K ((dd,A)::L) ((dd,Any)::L2)):dx P ops w0 S F pf kk (0::fr) (⟨some dd,op,ty,pos,aft,none⟩::rest) K L L2:=
 ⟨A,fun _ a w he hv _=>by simp only[Region.wanted,if_true];exact h.out _ w he hv,fun h=>(by cases h),fun h=>absurd rfl h,k⟩
theorem jk (h:OpC P w0 L ⟨some dd,op,ty,pos,aft,none⟩ A)[hA:StJ S A](k:dx P ops w0 S F pf (kk+1) fr rest K ((dd,A)::L) ((dd,A)::L2)):dx P ops w0 S F pf kk (2::fr) (⟨some dd,op,ty,pos,aft,none⟩::rest) K L L2:=
 ⟨A,fun _ a w he hv _=>by simp only[Region.wanted,if_true];exact h.out _ w he hv,fun h=>(by cases h),fun _=>hA,k⟩
theorem jx {d:Option Nat}(h:fa P w0 S F L ⟨d,op,ty,pos,aft,none⟩ A)(k:gC P ops w0 S F pf (kk+1) rest K (push d A L2)):dx P ops w0 S F pf kk [] (⟨d,op,ty,pos,aft,none⟩::rest) K L L2:=⟨rfl,A,h,k⟩
theorem je (h:K L2):gC P ops w0 S F pf kk [] K L2:=h
end
end Go.Mono
namespace Go.Mono
open Go Go.RowKit
structure ChT (N:Nat)(t:TypeId)(w w':World):Prop where
 chg:Chg (fun b=>N≤b) w w'
 oth:∀(b:Nat) (o:Obj),w.heap[b]?=some o→(∀cs m,o≠.cells cs t m)→w'.heap[b]?=some o
theorem ChT.rel (N:Nat)(t:TypeId):cC (ChT N t):=⟨fun h k=>⟨h.chg.tr k.chg,fun b o hb ho=>k.oth b o (h.oth b o hb ho) ho⟩,fun e=>⟨e.chg _,fun b o hb ho=>(e.block b (Array.getElem?_eq_some_iff.1 hb).1).trans hb⟩⟩
theorem Blk.chT {N:Nat}{t:TypeId}{w w':World}{b:Nat}{cs:Array Value}{t':TypeId}(h:Blk w b cs t')(k:ChT N t w w')(hne:t'≠t):Blk w' b cs t':=k.oth b _ h fun cs m hh=>hne (by cases hh;rfl)
instance (N:Nat)(t:TypeId){α:Type}(e:Enc α)(G:Nat→Prop)(x:α)[h:InS G (fun b=>N≤b)]:StJ (ChT N t) (Dv e G x):=⟨fun v w w' k h1=>Dv.ch h1 k.chg h.in'⟩
instance (N:Nat):InS (fun b=>N≤b) (fun b=>N≤b):=⟨fun _ h=>h⟩
theorem vl {N:Nat}{t t':TypeId}(B:Nat)(z:Value)(hne:t'≠t):StJ (ChT N t) (AlA B z t'):=⟨fun v w w' k ⟨b,h1,h2,h3⟩=>⟨b,h1,h2,h3.chT k hne⟩⟩
theorem xst {P:Program}{w0:World}{L:Env}{ty:TypeId}{pos:String}{aft:Array Edge}{x y:Operand}{t:TypeId}{N B s:Nat}{z:Value}{A:VA}(ht:TI P t true s)(hx:opd L x=some (AlA B z t))(hN:N≤B)(hz:z.cells.size=s)
  (hy:opd L y=some A) (hA:∀v w,A.p v w→∃cs,v=.agg cs∧cs.size=s∧cs.all (·.oneCell')=true):fa P w0 (ChT N t) (fun _=>True) L ⟨none,.store t x y,ty,pos,aft,none⟩ Any:=by
 refine⟨fun ρ w he hv=>?_⟩
 obtain⟨b,hb,hxv,hB⟩:=hv x (by simp[Op.operands]) _ hx
 obtain⟨cs,hyv,hcs,h1⟩:=hA _ _ (hv y (by simp[Op.operands]) _ hy)
 have hc:(Value.agg cs).cells=cs:=rfl
 have hrun:=run_storeCells_at (P:=P) b 0 t cs.toList 0 z.cells w hB (by simp;omega) (fun v hv=>by rw[Array.all_eq_true_iff_forall_mem] at h1;exact h1 v (by simpa using hv))
 simp only[Nat.add_zero,Array.length_toList,hcs] at hrun
 have hrun2:OpR P ⟨none,.store t x y,ty,pos,aft,none⟩ ρ w (fun _ w'=>w'=w.setRow b (z.cells.toList.take 0++cs.toList++z.cells.toList.drop (0+s)).toArray):=by
  simp[OpR,execOp,Instr.storeAt,Instr.sureAddr,hxv,hyv,storeVar,hc,ht.size,hcs,hrun]
 refine hrun2.mono ?_
 rintro v w' rfl
 have hg:=eb w b (z.cells.toList.take 0++cs.toList++z.cells.toList.drop (0+s)).toArray
 refine⟨⟨⟨hg.os,hg.tape,hg.output,hg.size,fun k hk hn=>hg.block k hk fun hh=>hn (by cases hh;omega)⟩,fun c o hc ho=>?_⟩,trivial,trivial⟩
 have hcb:c≠b:=by
  rintro rfl
  rw[hB] at hc
  cases hc
  exact ho _ _ rfl
 exact (hg.block c (Array.getElem?_eq_some_iff.1 hc).1 fun hh=>hcb (by cases hh;rfl)).trans hc
instance (S:World→World→Prop){P:Program}{α β:Type}[DecidableEq α](V:KV P α β)(l:List (α×β))(i:α)(z:β):StJ S (nU V l i z):=⟨fun _ _ _ _ h=>h⟩
instance (S:World→World→Prop)(A B:VA)[hA:StJ S A][hB:StJ S B]:StJ S (Tup [A,B]):=⟨fun v w w' k ⟨vs,h1,h2,h3⟩=>⟨vs,h1,h2,fun i C hC=>by
 have h4:=h3 i C hC
 match i,hC with
 | 0,hC=>simp at hC;subst hC;exact hA.av _ _ _ k h4
 | 1,hC=>simp at hC;subst hC;exact hB.av _ _ _ k h4⟩⟩
instance {S:Nat→Prop}{A:VA}[h:AvS S A]:StJ (Chg S) A:=⟨h.av⟩
instance {S:Nat→Prop}{L:Env}[h:eE S L]:fh (Chg S) L:=⟨h.av⟩
theorem cC.chg (S:Nat→Prop):cC (Chg S):=⟨fun h k=>h.tr k,fun e=>e.chg _⟩
theorem cC.one (b:Nat):cC (Chg fun c=>c=b):=⟨fun h k=>h.tr k,fun e=>e.chg _⟩
instance (b:Nat){α:Type}(e:Enc α)(G:Nat→Prop)(x:α)[h:InR G (some b)]:StJ (Chg fun c=>c=b) (Dv e G x):=⟨fun v w w' k h1=>Dv.ch h1 k fun c hc=>h.in' c (by rw[hc])⟩
theorem vm {P:Program}{w0:World}{L:Env}{ty:TypeId}{pos:String}{aft:Array Edge}{x y:Operand}{t bt:TypeId}{b s:Nat}{cs0:Array Value}{A:VA}(ht:TI P t true s)(hx:opd L x=some (E (.pointer (some ⟨b,0,none⟩))))(hB:Blk w0 b cs0 bt)(hz:cs0.size=s)
  (hy:opd L y=some A) (hA:∀v w,A.p v w→∃cs,v=.agg cs∧cs.size=s∧cs.all (·.oneCell')=true) (hst:∀v w w',Chg (fun c=>c=b) w w'→A.p v w→A.p v w') :
  fa P w0 (Chg fun c=>c=b) (fun w'=>∃cs,Blk w' b cs bt∧A.p (.agg cs) w') L ⟨none,.store t x y,ty,pos,aft,none⟩ Any:=by
 refine⟨fun ρ w he hv=>?_⟩
 have hxv:ρ x=.pointer (some ⟨b,0,none⟩):=hv x (by simp[Op.operands]) _ hx
 have hAy:=hv y (by simp[Op.operands]) _ hy
 obtain⟨cs,hyv,hcs,h1⟩:=hA _ _ hAy
 have hB':=hB.ext he
 have hc:(Value.agg cs).cells=cs:=rfl
 have hrun:=run_storeCells_at (P:=P) b 0 bt cs.toList 0 cs0 w hB' (by simp;omega) (fun v hv=>by rw[Array.all_eq_true_iff_forall_mem] at h1;exact h1 v (by simpa using hv))
 simp only[Nat.add_zero,Array.length_toList,hcs] at hrun
 have hfin:(cs0.toList.take 0++cs.toList++cs0.toList.drop (0+s)).toArray=cs:=by
  have:cs0.toList.drop (0+s)=[]:=by rw[List.drop_eq_nil_iff];simp;omega
  rw[this];simp
 have hrun2:OpR P ⟨none,.store t x y,ty,pos,aft,none⟩ ρ w (fun _ w'=>w'=w.setRow b (cs0.toList.take 0++cs.toList++cs0.toList.drop (0+s)).toArray):=by
  simp[OpR,execOp,Instr.storeAt,Instr.sureAddr,hxv,hyv,storeVar,hc,ht.size,hcs,hrun]
 refine hrun2.mono ?_
 rintro v w' rfl
 rw[hfin]
 have hg:=eb w b cs
 have hch:Chg (fun c=>c=b) w (w.setRow b cs):=⟨hg.os,hg.tape,hg.output,hg.size,fun k hk hn=>hg.block k hk fun hh=>hn (by cases hh;rfl)⟩
 refine⟨hch,trivial,cs,setRow_heap _ _ _ _ _ _ hB',?_⟩
 rw[← hyv]
 exact hst _ _ _ hch hAy
end Go.Mono
