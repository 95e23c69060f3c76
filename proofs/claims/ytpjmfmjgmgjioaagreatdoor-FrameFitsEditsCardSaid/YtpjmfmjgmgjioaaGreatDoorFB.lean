/-
  Walks of functions and plain facts.
  No condition.
-/
import Derived.Test.YtpjmfmjgmgjioaaGreatDoorFA
import Derived.OpenShut
import Derived.Deep.Slices
import Derived.ChangeSame
import Derived.Laws.Cover3
import Derived.Maps.OwnIn
import Derived.Maps.Views
import Derived.Maps.OwnSet
import Derived.Laws.Pointers
import Derived.Lib.SliceRun
import Derived.Carry
import Derived.Test.YtpjmfmjgmgjioaaGreatDoorCards
import Derived.Test.YtpjmfmjgmgjioaaGreatDoorTie
import Derived.ProofKit
import Derived.ChangeOld
import Derived.Below
import Derived.LaidLaws
import Derived.Handed
import Derived.Lib.LaidTab
import Derived.SevenTiedAt
set_option linter.unusedVariables false
set_option linter.unusedSimpArgs false
namespace Go.Mono
open Go Go.Proofs Go.RowKit Go.ChangeShapes Go.WideShapes

theorem mo:Tryz.prog.cellsOf 59=17:=by kernel_rfl
theorem mq:Tryz.prog.cellsOf 3=1:=by kernel_rfl
theorem sR:Tryz.prog.cellsOf 56=16:=by kernel_rfl
theorem sS:Tryz.prog.cellsOf 54=1:=by kernel_rfl
def ofW (f:Nat→BitVec 64):Nat→BS
 | 0=>0
 | n+1=>ofW f n ||| ((f n).setWidth 1024 <<< (64 * n))
theorem sT (x:BitVec 64)(n i:Nat)(hi:i<16)(hn:n<16):an (x.setWidth 1024 <<< (64 * n)) i=if i=n then x else 0:=by
 refine BitVec.eq_of_getLsbD_eq fun j hj=>?_
 rw[cU _ _ _ hj]
 have e:(x.setWidth 1024 <<< (64 * n)).getLsbD (64 * i+j)=(decide (64 * i+j<1024) && !decide (64 * i+j<64 * n)&&(x.setWidth 1024).getLsbD (64 * i+j - 64 * n)):=BitVec.getLsbD_shiftLeft _ _
 rw[e,BitVec.getLsbD_setWidth]
 by_cases h:i=n
 ·subst h
  have h1:64 * i+j - 64 * i=j:=by omega
  have h2:64 * i+j<1024:=by omega
  have h3:¬64 * i+j<64 * i:=by omega
  have h4:j<1024:=by omega
  simp only[h1,h2,h3,h4,decide_true,decide_false,Bool.not_false,Bool.true_and,if_true]
 ·rw[if_neg h]
  by_cases h3:i<n
  ·have:64 * i+j<64 * n:=by omega
   simp[this]
  ·have h5:64≤64 * i+j - 64 * n:=by omega
   have:x.getLsbD (64 * i+j - 64 * n)=false:=BitVec.getLsbD_of_ge _ _ h5
   simp[this]
theorem mr (f:Nat→BitVec 64):∀n,n≤16→∀i,i<16→an (ofW f n) i=if i<n then f i else 0
 | 0,_,i,hi=>by rw[ofW,jj];simp
 | n+1,hn,i,hi=>by
  rw[ofW,ji,mr f n (by omega) i hi,sT _ _ _ hi (by omega)]
  by_cases h1:i=n
  ·subst h1;simp
  ·by_cases h2:i<n
   ·rw[if_pos h2,if_neg h1,if_pos (by omega)];simp
   ·rw[if_neg h2,if_neg h1,if_neg (by omega)];simp
theorem sU (f:Nat→BitVec 64):aM (ofW f 16)=aQ f:=dD fun i hi=>by rw[mr f 16 (Nat.le_refl _) i hi,if_pos hi]

section
variable {H:Type}{enc:TypeId×Value→H}{w:World}{base:Nat}{spare:Nat→Bool}{held:Bool}
theorem sV {z:Int}(h:(Lit.int .u64 z).wf=true):Value.int .u64 z=Mono.W (BitVec.ofNat 64 z.toNat):=by
 have h1:IntKind.u64.min=0:=by decide
 have h2:IntKind.u64.max=18446744073709551615:=by decide
 simp only[Lit.wf,h1,h2,Bool.and_eq_true,decide_eq_true_eq] at h
 rw[Mono.W,BitVec.toNat_ofNat,Nat.mod_eq_of_lt (by omega),Int.toNat_of_nonneg h.1]
theorem sW {n:Nat}{cs:List Value}{x:DataW H×List MemPlace}(h:DataW.trod enc Tryz.prog w base spare held n 59 cs=some x):∃b:Int×BS,cs=(bX b).toList:=by
 obtain⟨y0,y1,m,_,hl,h0,h1⟩:=trod_struct2 U59 h
 rw[mo] at hl
 change DataW.trod enc Tryz.prog w base spare held m 3 ((cs.drop 0).take (Tryz.prog.cellsOf 3))=some y0 at h0
 change DataW.trod enc Tryz.prog w base spare held m 56 ((cs.drop 1).take (Tryz.prog.cellsOf 56))=some y1 at h1
 rw[mq] at h0
 rw[sR] at h1
 obtain⟨z,hz,_,_⟩:=DataW.trod_int U3 h0
 obtain⟨xs,m2,_,_,hl2,hxl,hall⟩:=DataW.trod_array U56 h1
 have hw:∀i,i<16→∃y:BitVec 64,cs[1+i]?=some (Mono.W y):=by
  intro i hi
  have:=hall i hi
  rw[sS,Nat.mul_one] at this
  obtain⟨b,hb⟩:∃b,xs[i]?=some b:=⟨_,List.getElem?_eq_getElem (by omega)⟩
  rw[hb] at this
  obtain⟨u,hu,_,hwf⟩:=DataW.trod_int U54 this
  refine⟨BitVec.ofNat 64 u.toNat,?_⟩
  rw[← sV hwf]
  have h3:=congrArg (fun l:List Value=>l[0]?) hu
  simp only[List.getElem?_cons_zero] at h3
  rw[List.getElem?_take,if_pos (by decide),List.getElem?_drop,Nat.add_zero,List.getElem?_take,if_pos hi,List.getElem?_drop] at h3
  exact h3
 obtain⟨f,hf⟩:=Deep.choose_lt (n:=16) (p:=fun i (y:BitVec 64)=>cs[1+i]?=some (Mono.W y)) hw
 refine⟨(z,ofW f 16),?_⟩
 apply List.ext_getElem?
 intro j
 simp only[bX,sU]
 cases j with
 | zero=>
  have h3:=congrArg (fun l:List Value=>l[0]?) hz
  simp only[List.getElem?_cons_zero] at h3
  rw[List.getElem?_take,if_pos (by decide),List.getElem?_drop] at h3
  simpa using h3
 | succ j=>
  simp only[List.getElem?_cons_succ,Array.getElem?_toList]
  by_cases hj:j<16
  ·rw[cg _ _ hj,Nat.add_comm];exact hf j hj
  ·rw[List.getElem?_eq_none (by omega),Array.getElem?_eq_none (by rw[eD];omega)]
theorem hP (b:Int×BS):(bX b).toList.length=17:=by rw[Array.length_toList,eY]
theorem mt {a:Addr}{f:Nat→Int×BS}:∀(n s:Nat),(∀i,s≤i→i<s+n→∀j u,(bX (f i)).toList[j]?=some u→w.cell? (a.add (i * 17+j))=some u)→∀j u,(((List.range' s n).map f).flatMap fun b=>(bX b).toList)[j]?=some u→w.cell? (a.add (s * 17+j))=some u
 | 0,s,h,j,u,hu=>by simp at hu
 | n+1,s,h,j,u,hu=>by
  rw[List.range'_succ,List.map_cons,List.flatMap_cons] at hu
  by_cases hj:j<17
  ·rw[List.getElem?_append_left (by rw[hP];exact hj)] at hu
   exact h s (Nat.le_refl _) (by omega) j u hu
  ·rw[List.getElem?_append_right (by rw[hP];omega),hP] at hu
   have:=mt n (s+1) (fun i h1 h2=>h i (by omega) (by omega)) (j - 17) u hu
   rwa [show (s+1) * 17+(j - 17)=s * 17+j by omega] at this
theorem mu {G:Nat→Prop}:∀t:List (Int×BS),Cells bR G w t (t.flatMap fun b=>(bX b).toList)
 | []=>rfl
 | b::t=>⟨(bX b).toList,_,rfl,⟨[I b.1],(aM b.2).toList,rfl,rfl,rfl⟩,mu t⟩
set_option maxRecDepth 100000 in
theorem open_tree {v:Value}{d:DataW H}{ps:List MemPlace}{b0:Nat}(hok:Value.okWide Tryz.prog w .any b0 23 v)(h:DataW.Trod enc Tryz.prog w 0 spare held 23 v d ps):∃t,(Dv aL G0 t).p v w:=by
 obtain⟨fuel,hf⟩:=h
 obtain⟨a0,n0,c0,rfl⟩:=okWide_slice U23 hok
 rcases Deep.open_slice U23 hf with ⟨hcs,_⟩|⟨a,len,cap,m,n,D,Pl,hcs,_,hlc,_,hm,_,hall⟩
 ·simp[Value.cells] at hcs
  obtain⟨rfl,rfl,rfl⟩:=hcs
  exact⟨[],Dv.nil⟩
 ·simp[Value.cells] at hcs
  obtain⟨rfl,rfl,rfl⟩:=hcs
  have hlm:n0≤m:=by rw[hm];split <;> omega
  have each:∀i,i<n0→∃b:Int×BS,∀j u,(bX b).toList[j]?=some u→w.cell? (a.add (i * 17+j))=some u:=by
   intro i hi
   obtain⟨cs',h1,h2⟩:=hall i (by omega)
   rw[mo] at h1
   obtain⟨_,hlen,hcell⟩:=World.cells?_some h1
   obtain⟨b,rfl⟩:=sW h2
   refine⟨b,fun j u hu=>?_⟩
   have hj:j<17:=by have:=(List.getElem?_eq_some_iff.1 hu).1;rw[hP] at this;exact this
   have:=hcell j hj
   rw[Deep.add_add] at this
   rw[this];exact hu
  obtain⟨f,hf'⟩:=Deep.choose_lt each
  by_cases h0:n0=0
  ·subst h0
   have hb:a.block<w.heap.size:=by
    have h1:Cell.ok Tryz.prog w .any b0 23 (.slice (some a) 0 c0):=by
     have:=hok
     simpa[Value.okWide,Cell.okWide,U23] using this
    have h2:0≤c0∧(c0:Int)≤IntKind.i64.max∧w.has Tryz.prog .any b0 a 59 c0:=by
     simpa[Cell.ok,U23] using h1
    have h3:=h2.2.2.2.2
    obtain⟨row,h3⟩:=h3
    obtain⟨cells,h3⟩:=h3
    have h4:=h3.1
    apply Classical.byContradiction
    intro hn
    have:w.heap[a.block]?=none:=Array.getElem?_eq_none (by omega)
    simp[World.shape?,this] at h4
   exact⟨[],Dv.sl.2 (.inr ⟨a,c0,[],rfl,by simp,fun hg=>hg.elim,hb,rfl,fun j u hu=>by simp at hu⟩)⟩
  ·refine⟨(List.range n0).map f,Dv.sl.2 (.inr ⟨a,c0,((List.range n0).map f).flatMap fun b=>(bX b).toList,by simp,by simpa using hlc,fun hg=>hg.elim,?_,mu _,fun j u hu=>?_⟩)⟩
   ·have:=hf' 0 (by omega) 0 (I (f 0).1) rfl
    have:=World.block_lt_of_cell? w _ this
    simpa[eX] using this
   ·rw[List.range_eq_range'] at hu
    have:=mt (w:=w) (a:=a) (f:=f) n0 0 (fun i _ hi j u hu=>hf' i (by omega) j u hu) j u hu
    simpa using this
end
end Go.Mono
namespace Go.Mono
open Go Go.RowKit
structure XOp (P:Program)(w0:World)(row:Option Nat)(L:Env)(o:Oper)(A:VA):Prop where
 out:∀ρ w,Ext w0 w→(∀x∈o.op.operands,∀B,opd L x=some B→B.p (ρ x) w)→OpR P o ρ w (fun v w'=>w.grownBy w' row∧A.p v w')
def cL (P:Program)(ops:Array Oper)(w0:World)(row:Option Nat):Option Nat→List Oper→(Env→Prop)→Env→Prop
 | _,[],K,L=>K L
 | some 0,o::rest,K,L=>o.guard=none∧∃A,XOp P w0 row L o A∧cL P ops w0 row none rest K (push o.dst A L)
 | some (x+1),o::rest,K,L=>∃A,(∀w1,w0.grownBy w1 row→GOp P ops w1 L o A)∧AvR row A∧cL P ops w0 row (some x) rest K (push o.dst A L)
 | none,o::rest,K,L=>∃A,(∀w1,w0.grownBy w1 row→GOp P ops w1 L o A)∧AvR row A∧cL P ops w0 row none rest K (push o.dst A L)

section
variable {P:Program}{ops:Array Oper}{Q:Exit→Act→World→Prop}{w0:World}{n:Nat}{ds:List Deferred}{r:Option Nat}

def ju (A:VA)(As:Nat→VA):Nat→VA
 | 0=>A
 | i+1=>As i
theorem gu (L:Env)(A:VA)(As:Nat→VA)(k j:Nat):aK ops L (ju A As) k (j+1)=aK ops (push (aB ops k) A L) As (k+1) j:=by
 rw[← fY]
 congr 1
theorem mw {row:Option Nat}{K:Env→Prop}:∀(M:List Oper) (k:Nat) (x:Option Nat) (L:Env),(∀j,j<M.length→ops[k+j]?=M[j]?)→cL P ops w0 row x M K L →
  ∃As:Nat→VA,(∀j o,j<M.length→x≠some j→ops[k+j]?=some o→(∀w1,w0.grownBy w1 row→GOp P ops w1 (aK ops L As k j) o (As j))∧AvR row (As j)) ∧
   (∀j o,j<M.length→x=some j→ops[k+j]?=some o→o.guard=none∧XOp P w0 row (aK ops L As k j) o (As j))∧K (aK ops L As k M.length)
 | [],k,x,L,_,h=>⟨fun _=>Any,fun j o hj=>by simp at hj,fun j o hj=>by simp at hj,by
  match x,h with
  | none,h=>exact h
  | some 0,h=>exact h
  | some (x+1),h=>exact h⟩
 | o::M,k,x,L,hM,h=>by
  have h0:ops[k]?=some o:=by simpa using hM 0 (by simp)
  have hd:aB ops k=o.dst:=by simp[aB,h0]
  obtain⟨A,x',hA,hx',hr⟩:∃A x',((x≠some 0→(∀w1,w0.grownBy w1 row→GOp P ops w1 L o A)∧AvR row A)∧(x=some 0→o.guard=none∧XOp P w0 row L o A))∧(∀j,x=some (j+1)↔x'=some j)∧cL P ops w0 row x' M K (push o.dst A L):=by
   match x,h with
   | none,⟨A,h1,h2,h3⟩=>exact⟨A,none,⟨fun _=>⟨h1,h2⟩,fun h=>by cases h⟩,fun j=>by simp,h3⟩
   | some 0,⟨hg,A,h1,h2⟩=>exact⟨A,none,⟨fun h=>absurd rfl h,fun _=>⟨hg,h1⟩⟩,fun j=>by simp,h2⟩
   | some (x+1),⟨A,h1,h2,h3⟩=>exact⟨A,some x,⟨fun _=>⟨h1,h2⟩,fun h=>by cases h⟩,fun j=>by simp,h3⟩
  obtain⟨As,h1,h2,h3⟩:=mw M (k+1) x' (push o.dst A L) (fun j hj=>by
   have:=hM (j+1) (by simpa using hj)
   rw[show k+1+j=k+(j+1) by omega]
   simpa using this) hr
  refine⟨ju A As,?_,?_,?_⟩
  ·intro j o' hj hjx ho'
   cases j with
   | zero=>
    rw[Nat.add_zero,h0] at ho'
    obtain rfl:=Option.some.inj ho'
    exact hA.1 hjx
   | succ j=>
    rw[gu,hd]
    exact h1 j o' (by simpa using hj) (fun h=>hjx ((hx' j).2 h)) (by rw[show k+1+j=k+(j+1) by omega];exact ho')
  ·intro j o' hj hjx ho'
   cases j with
   | zero=>
    rw[Nat.add_zero,h0] at ho'
    obtain rfl:=Option.some.inj ho'
    exact hA.2 hjx
   | succ j=>
    rw[gu,hd]
    exact h2 j o' (by simpa using hj) ((hx' j).1 hjx) (by rw[show k+1+j=k+(j+1) by omega];exact ho')
  ·rw[List.length_cons,gu,hd]
   exact h3

structure sX (ops:Array Oper)(m x:Nat)(row:Option Nat)(n:Nat)(ds:List Deferred)(w0:World)(L:Env)(As:Nat→VA)(listed:Array Bool)(a:Act)(w:World):Prop where
 ext:w0.grownBy w row
 pre:listed.getD x true=false→Ext w0 w
 size:a.tmps.size=n
 defers:a.defers=ds
 hL:∀t A,aA L t=some A→(∀j,j<m→aB ops j≠some t)→A.p (a.eval (.tmp t)) w
 hA:∀i,i<m→listed.getD i false=true→∀d,aB ops i=some d→(As i).p (a.eval (.tmp d)) w

theorem my {m x:Nat}{row:Option Nat}{L:Env}{As:Nat→VA}(hm:m≤ops.size)(hchk:∀i,i<m→cO ops m n i=true)(hchk2:∀i,m≤i→i<ops.size→cx ops i=true)
  (hops:∀j o,j<m→j≠x→ops[j]?=some o→(∀w1,w0.grownBy w1 row→GOp P ops w1 (aK ops L As 0 j) o (As j))∧AvR row (As j))
  (hX:∀o,ops[x]?=some o→o.guard=none∧XOp P w0 row (aK ops L As 0 x) o (As x)) (hLav:ej row L)
  (hend:∀a w,w0.grownBy w row→FrD n ds a w (aK ops L As 0 m)→wpListIn (FW r) 0 P ops Q (ops.toList.drop m) a w) :
  ∀(c:Nat) (listed:Array Bool) (a:Act) (w:World),(List.range m).countP (fun i => !listed.getD i true)=c→listed.size=ops.size →
   (∀j,m≤j→j<ops.size→listed.getD j true=false)→LD ops listed→sX ops m x row n ds w0 L As listed a w→wpAnyIn (FW r) 0 P .any ops Q (c+(ops.size - m)) listed a w
 | 0,listed,a,w,hc,hsz,hun,hld,hi=>by
  have hall:∀j,j<m→listed.getD j false=true:=by
   intro j hj
   have:=(List.countP_eq_zero.1 hc) j (List.mem_range.2 hj)
   have hjl:j<listed.size:=by omega
   simpa[hjl] using this
  rw[Nat.zero_add]
  refine fx m hchk2 (ops.size - m) m (by omega) (Nat.le_refl _) listed a w hall hun hsz hld (hend a w hi.ext ⟨hi.size,hi.defers,fun t A ht=>?_⟩)
  rcases cQ L As t A m ht with ⟨j,hj,hd,rfl⟩|⟨hn,hl⟩
  ·exact hi.hA j hj (hall j hj) t hd
  ·exact hi.hL t A hl hn
 | c+1,listed,a,w,hc,hsz,hun,hld,hi=>by
  have facts:∀i o,i<m→ops[i]?=some o→(∀e∈o.after,Region.binds .any e=true→e.on<i)∧(∀d,o.dst=some d→d<n) ∧
    (∀t,t∈co o∨bE ops o=some t→∀j,j<m→aB ops j=some t→bnd ops i j=true)∧(∀j,j<m→j≠i→∀d,o.dst=some d→aB ops j≠some d):=by
   intro i o hlt ho
   have:=hchk i hlt
   simp only[cO,ho,Bool.and_eq_true,Array.all_eq_true_iff_forall_mem,Bool.or_eq_true,Bool.not_eq_true',List.all_eq_true,List.mem_range,List.mem_append,Option.mem_toList] at this
   obtain⟨⟨⟨h1,h2⟩,h3⟩,h4⟩:=this
   refine⟨fun e he hb=>?_,fun d hd=>?_,fun t ht j hj hd=>?_,fun j hj hne d hd hd'=>?_⟩
   ·rcases h1 e he with h|h
    ·rw[hb] at h;cases h
    ·simpa[Nat.blt_eq] using h
   ·simpa[hd,Nat.blt_eq] using h2
   ·have:=h3 t ht j hj
    rcases this with h|h
    ·rw[hd] at h;simp at h
    ·exact h
   ·have:=h4 j hj
    rcases this with h|h
    ·exact hne (Nat.eq_of_beq_eq_true h)
    ·rw[hd,hd'] at h;simp at h
  have prog:∃i,i<m∧listed.getD i true=false∧∀j,j<i→listed.getD j true=true:=by
   have hex:∃i,i<m∧listed.getD i true=false:=by
    have hpos:0<(List.range m).countP (fun i => !listed.getD i true):=by omega
    obtain⟨i,hi,hb⟩:=List.countP_pos_iff.1 hpos
    exact⟨i,List.mem_range.1 hi,by simpa using hb⟩
   obtain⟨i,hlt,hb⟩:=hex
   induction i using Nat.strongRecOn with
   | _ i ih=>
    by_cases h:∃j,j<i∧listed.getD j true=false
    ·obtain⟨j,hj,hjb⟩:=h
     exact ih j hj (by omega) hjb
    ·refine⟨i,hlt,hb,fun j hj=>?_⟩
     cases hjb:listed.getD j true with
     | true=>rfl
     | false=>exact absurd ⟨j,hj,hjb⟩ h
  obtain⟨i0,hi0,hu0,hbelow⟩:=prog
  have hready:i0∈Region.ready .any ops listed:=by
   have ho:ops[i0]?=some (ops[i0]'(by omega)):=by simp
   refine mem_ready.2 ⟨hu0,_,ho,fun e he hb=>?_⟩
   have hlt:=(facts i0 _ hi0 ho).1 e he hb
   have:=hbelow _ hlt
   have hjl:e.on<listed.size:=by omega
   simpa[hjl] using this
  rw[show c+1+(ops.size - m)=(c+(ops.size - m))+1 by omega]
  refine⟨fun h0=>(by rw[h0] at hready;cases hready),fun i hir=>?_⟩
  obtain⟨hu,o,ho,hall⟩:=mem_ready.1 hir
  have hilt:i<ops.size:=(Array.getElem?_eq_some_iff.1 ho).1
  have listed_of_bnd:∀j,bnd ops i j=true→listed.getD j false=true:=by
   intro j hb
   simp only[bnd,ho] at hb
   obtain⟨e,he,hb⟩:=Array.any_eq_true'.1 hb
   simp only[Bool.and_eq_true] at hb
   have:=hall e he hb.1
   rwa [Nat.eq_of_beq_eq_true hb.2] at this
  have him:i<m:=by
   rcases Nat.lt_or_ge i m with h|h
   ·exact h
   ·have hc:=hchk2 i h hilt
    simp only[cx,ho,Bool.and_eq_true,List.all_eq_true,List.mem_range] at hc
    have:=cov hld 12 i i0 (hc.2 i0 (by omega)) (fun o' ho' e he hb=>by
     rw[ho] at ho'
     obtain rfl:=Option.some.inj ho'
     exact hall e he hb)
    rw[dC hu0] at this
    cases this
  obtain⟨f1,f2,f3,f4⟩:=facts i o him ho
  have byLook:∀t,(t∈co o∨bE ops o=some t)→∀B,aA (aK ops L As 0 i) t=some B→B.p (a.eval (.tmp t)) w:=by
   intro t ht B hB
   rcases cQ L As t B i hB with ⟨j,hj,hd,rfl⟩|⟨hn,hl⟩
   ·exact hi.hA j (by omega) (listed_of_bnd j (f3 t ht j (by omega) hd)) t hd
   ·refine hi.hL t B hl fun j hj hd=>?_
    have hb:=f3 t ht j hj hd
    simp only[bnd,ho] at hb
    obtain⟨e,he,hb⟩:=Array.any_eq_true'.1 hb
    simp only[Bool.and_eq_true] at hb
    have hlt:=f1 e he hb.1
    rw[Nat.eq_of_beq_eq_true hb.2] at hlt
    exact hn j hlt hd
  have ops1:∀x∈o.op.operands,∀B,opd (aK ops L As 0 i) x=some B→B.p (a.eval x) w:=fun x hx B hB=>by
   cases x with
   | tmp t=>exact byLook t (.inl (List.mem_filterMap.2 ⟨.tmp t,by simpa using hx,rfl⟩)) B hB
   | const v=>simp[opd] at hB;subst hB;rfl
   | global g=>simp[opd] at hB;subst hB;rfl
   | func f=>simp[opd] at hB;subst hB;rfl
  have hdst:aB ops i=o.dst:=by simp[aB,ho]
  have step:∀v w',w.grownBy w' row→(i≠x→Ext w w')→(i=x→∀j,j<m→j≠x→AvR row (As j))→(As i).p v w'→wpAnyIn (FW r) 0 P .any ops Q (c+(ops.size - m)) (listed.setIfInBounds i true) (a.put o.dst v) w':=by
   intro v w' hx hxe hxa hv
   have stab:∀(A:VA) u,AvR row A→A.p u w→A.p u w':=fun A u hA h=>hA.av _ _ _ hx h
   refine my hm hchk hchk2 hops hX hLav hend c _ _ _ ?_ (by simpa using hsz) ?_ ?_ ?_
   ·have:=fX m (fun j => !listed.getD j true) (fun j => !(listed.setIfInBounds i true).getD j true) i him (by simp only[hu,Bool.not_false])
     (by
       have hjl:i<listed.size:=by omega
       simp[hjl]) (fun j hj=>by simp only[getD_set_ne true (Ne.symm hj)])
    omega
   ·intro j hj hj'
    rw[getD_set_ne true (by omega)]
    exact hun j hj hj'
   ·exact hld.set fun o' ho' e he hb=>by
     rw[ho] at ho'
     obtain rfl:=Option.some.inj ho'
     exact hall e he hb
   ·refine⟨World.grownBy.trans hi.ext hx,fun hl=>?_,by simp[hi.size],by simp[hi.defers],fun t A ht hn=>?_,fun j hj hl d hd=>?_⟩
    ·have hix:i≠x:=by
      rintro rfl
      have hjl:i<listed.size:=by omega
      simp[hjl] at hl
     rw[getD_set_ne true hix] at hl
     exact Ext.tr (hi.pre hl) (hxe hix)
    ·have h0:=stab A _ ⟨hLav.av t A ht⟩ (hi.hL t A ht hn)
     cases hod:o.dst with
     | none=>exact h0
     | some d=>
      have:d≠t:=fun e=>hn i him (by rw[hdst,hod,e])
      rw[cN this]
      exact h0
    ·by_cases hji:j=i
     ·subst hji
      rw[hdst] at hd
      rw[hd,dW (by rw[hi.size];exact f2 d hd)]
      exact hv
     ·have hl':listed.getD j false=true:=by rwa [getD_set_ne false (Ne.symm hji)] at hl
      have h1:=hi.hA j hj hl' d hd
      have h0:(As j).p (a.eval (.tmp d)) w':=by
       by_cases hix:i=x
       ·exact stab _ _ (hxa hix j hj (fun h=>hji (h.trans hix.symm))) h1
       ·exact (As j).st _ _ _ (hxe hix) h1
      cases hod:o.dst with
      | none=>exact h0
      | some d'=>
       have:d'≠d:=fun e=>f4 j hj hji d' hod (by rw[hd,e])
       rw[cN this]
       exact h0
  unfold wpOpIn
  simp only[ho]
  by_cases hix:i=x
  ·obtain⟨hgd,hxo⟩:=hX o (hix▸ho)
   have hw:Region.wanted o (yielded ops a.tmps)=true:=by unfold Region.wanted;rw[hgd]
   rw[if_pos hw]
   have hpre:Ext w0 w:=hi.pre (hix▸hu)
   exact (hxo.out a.eval w hpre (hix▸ops1)).wp fun v w' hv=>step v w' hv.1 (fun h=>absurd hix h) (fun _ j hj hjx=>by
    have hoj:ops[j]?=some (ops[j]'(by omega)):=by simp
    exact (hops j _ hj hjx hoj).2) (hix▸hv.2)
  ·have hg:=(hops i o him hix ho).1 w hi.ext a w (Ext.rfl' w) ops1 (fun d B hd hB=>byLook d (.inr hd) B hB)
   split
   ·rename_i hw
    rw[if_pos hw] at hg
    exact (hg.wp fun v w' hv=>step v w' ⟨hv.1.os,hv.1.tape,hv.1.output,hv.1.size,fun k hk _=>hv.1.block k hk⟩ (fun _=>hv.1) (fun h=>absurd h hix) hv.2)
   ·rename_i hw
    rw[if_neg hw] at hg
    exact⟨fun _ _=>trivial,step undef w ⟨rfl,rfl,rfl,Nat.le_refl _,fun _ _ _=>rfl⟩ (fun _=>Ext.rfl' _) (fun h=>absurd h hix) hg⟩
theorem hU {id:Nat}{ops:Array Oper}{L:Env}{a:Act}{w:World}(m x:Nat)(row:Option Nat)(hx:x<m)(hmix:P.follows .mixedOrders=true)(hf:FrD n ds a w L)[hL:ej row L](hchk:chk ops m n=true)
  (h:cL P ops w row (some x) (ops.toList.take m) (fun L'=>∀a' w',w.grownBy w' row→FrD n ds a' w' L'→wpListIn (FW r) 0 P ops Q (ops.toList.drop m) a' w') L):(Code.region id ops true).wpIn (FW r) 0 P Q a w:=by
 simp only[chk,Bool.and_eq_true,List.all_eq_true,List.mem_range,Bool.or_eq_true,Nat.ble_eq] at hchk
 obtain⟨⟨hm,h1⟩,h2⟩:=hchk
 refine wpIn_region_any hmix ?_
 have hlen:(ops.toList.take m).length=m:=by simp;omega
 obtain⟨As,hAs,hX,hK⟩:=mw (ops:=ops) (ops.toList.take m) 0 (some x) L (fun j hj=>by
  rw[hlen] at hj
  rw[Nat.zero_add,List.getElem?_take,if_pos hj];simp) h
 rw[hlen] at hK hAs hX
 have hdrew:w.grownBy w.drew none:=⟨rfl,rfl,rfl,Nat.le_refl _,fun _ _ _=>rfl⟩
 have hext:Ext w { w with drawn:=w.drawn+1 }:=Ext.drew w
 have:=my (P:=P) (ops:=ops) (Q:=Q) (w0:=w) (n:=n) (ds:=ds) (m:=m) (x:=x) (row:=row) (r:=r) (L:=L) (As:=As) hm h1 (fun i hi hi'=>by
   rcases h2 i hi' with h|h
   ·simp only[Nat.blt_eq] at h;omega
   ·exact h) (fun j o hj hjx ho=>hAs j o hj (by simpa using fun h=>hjx h.symm) (by simpa using ho)) (fun o ho=>hX x o hx rfl (by simpa using ho)) hL (fun a w hx hf=>hK a w hx hf) m
  (Array.replicate ops.size false) a { w with drawn:=w.drawn+1 } ?_ (by simp) ?_ ?_ ⟨⟨rfl,rfl,rfl,Nat.le_refl _,fun _ _ _=>rfl⟩,fun _=>hext,hf.size,hf.defers,fun t A ht _=>A.st _ _ _ hext (hf.val t A ht),fun i hi hl=>?_⟩
 ·rwa [show m+(ops.size - m)=ops.size by omega] at this
 ·have:(List.range m).countP (fun i => !(Array.replicate ops.size false).getD i true)=(List.range m).length:=by
   refine List.countP_eq_length.2 fun i hi=>?_
   have:=List.mem_range.1 hi
   have hlt:i<ops.size:=by omega
   simp[hlt]
  simpa using this
 ·intro j _ hj
  simp[hj]
 ·intro i o hl
  have:(Array.replicate ops.size false).getD i false=false:=by
   by_cases hlt:i<ops.size <;> simp[hlt]
  rw[this] at hl;cases hl
 ·have:(Array.replicate ops.size false).getD i false=false:=by
   by_cases hlt:i<ops.size <;> simp[hlt]
  rw[this] at hl;cases hl
end
end Go.Mono
namespace Go.Mono
open Go Go.RowKit

variable {P:Program}{w0:World}{L:Env}{dst:Option Tmp}{ty:TypeId}{pos:String}{aft:Array Edge}{g:Option (Nat×Bool)}{r:Option Nat}{ds:List Deferred}
theorem idxS {x y:Operand}{t te:TypeId}{b off len cap s:Nat}{k:IntKind}{i:Int}(ht:P.underlying t=some (.slice te))(hs:(P.info? te).map (·.size)=some s)(hx:opd L x=some (E (.slice (some ⟨b,off,none⟩) len cap)))(hy:opd L y=some (E (.int k i)))(hi:0≤i∧i<(len:Int)) :
  OpC P w0 L ⟨dst,.indexAddr t x y,ty,pos,aft,g⟩ (E (.pointer (some ⟨b,off+i.toNat * s,none⟩))):=
 aI fun ρ w _ hv=>by
  have h1:=opE hv (x:=x) (by simp[Op.operands]) hx
  have h2:=opE hv (x:=y) (by simp[Op.operands]) hy
  have hsz:∀w,(sizeOf te).run P w=.ok s w:=fun w=>by
   cases hi:P.info? te with
   | none=>simp[hi] at hs
   | some i=>simp[hi] at hs;simp[sizeOf,typeInfo,hi,hs]
  refine⟨_,?_,rfl⟩
  simp[execOp,h1,h2,Instr.indexAt,asIntOf,run_underlying ht,hi,hsz,Addr.add_lit]
theorem sY {x:Operand}{t te:TypeId}{ao:Option Addr}{n cap:Nat}(ht:P.underlying t=some (.slice te))(hx:opd L x=some (E (.slice ao n cap))):OpC P w0 L ⟨dst,.call ⟨.builtin .len,#[x],#[t]⟩,ty,pos,aft,g⟩ (E (.int .i64 (n:Nat))):=
 aI fun ρ w he hv=>by
  have h1:=opE hv (x:=x) (by simp[Op.operands,Call.operands]) hx
  exact⟨_,by simp[execOp,resolve,invoke,builtin,Builtin.len_,h1,run_underlying ht,goInt],rfl⟩

theorem FrD.fix {n:Nat}{a:Act}{w:World}{A:VA}(h:FrD n ds a w L)(k:Nat)(hk:aA L k=some A):∃v,A.p v w∧FrD n ds a w ((k,E v)::L):=
 ⟨_,h.val k A hk,FrD.cons rfl h⟩

section tail
variable {ops:Array Oper}{rest:List Oper}{Q:Exit→Act→World→Prop}{n:Nat}{a:Act}{w:World}{x y:Operand}
theorem sZ (z:Value)(n:Nat):madeCells #[z] n=(List.replicate n z).toArray:=by
 unfold madeCells
 apply Array.toList_inj.1
 rw[Array.toList_map,Array.toList_range]
 refine List.ext_getElem (by simp) fun i h1 h2=>?_
 simp[Nat.mod_one]
theorem jv {t te:TypeId}{z:Value}{k:IntKind}{d c bz:Nat}(ht:P.underlying t=some (.slice te))(hi:(P.info? te).map (fun i=>(i.zero,i.size,i.bytes))=some (some z,1,bz))(hz:z.cells = #[z])(hf:FrD n ds a w L)(hd:d<n)
  (hx:opd L x=some (E (.int k (c:Nat)))) (hc:c≤1048576) (hb:bz≤1048576)
  (h:∀a' b w',Ext w w'→b=w.heap.size→w'.heap.size=b+1→Blk w' b (List.replicate c z).toArray te→FrD n ds a' w' ((d,E (.slice (some ⟨b,0,none⟩) c c))::L)→wpListIn (FW r) 0 P ops Q rest a' w') :
  wpListIn (FW r) 0 P ops Q (⟨some d,.makeSlice t x x,ty,pos,aft,none⟩::rest) a w:=
 wpListIn_plain rfl fun K hK=>by
  obtain⟨it,hit,hiz,hs,hby⟩:=info_parts hi
  have hxv:a.eval x=.int k (c:Nat):=hf.opd x _ hx
  have hprod:(bz:Int) * (c:Nat)≤1048576 * 1048576:=Int.mul_le_mul (by omega) (by omega) (by omega) (by omega)
  have hr:=run_make (P:=P) w t te it z ht hit hiz k k (c:Nat) (c:Nat) (by omega) (by omega) (by rw[hby];omega) (by omega)
  rw[hs,Int.toNat_natCast,Nat.mul_one,hz,sZ] at hr
  refine OpR.wp (R:=fun v w'=>v=.slice (some ⟨w.heap.size,0,none⟩) c c∧w'=w.alloc (.cells (List.replicate c z).toArray te)) ?_ ?_
  ·simp only[OpR,execOp,hxv,Sem.run_bind,hr,Result.andThen_ok,Sem.run_pure,and_self]
  ·rintro v w' ⟨rfl,rfl⟩
   exact hK _ _ (h _ _ _ (cy _ _) rfl (by simp) (dZ _ _ _) (hf.put (d:=some d) (cy _ _) (fun k hk=>by cases hk;exact hd) rfl))
end tail
structure Rows (ety B:Nat)(G:Nat→Prop)(w:World)(bo:Nat)(xss:List (List Int))(vs:List Value):Prop where
 len:vs.length=xss.length
 at':∀(p:Nat) (v:Value) (xs:List Int),vs[p]?=some v→xss[p]?=some xs→OwR ap ety B G w xs v∧v.ownBlock≠some bo
 sep:∀(p q:Nat) (u v:Value),p≠q→vs[p]?=some u→vs[q]?=some v→u.ownBlock=none∨u.ownBlock≠v.ownBlock
variable {ety B bo:Nat}{G:Nat→Prop}{w w':World}{xss:List (List Int)}{vs:List Value}
theorem Rows.ext (h:Rows ety B G w bo xss vs)(k:Ext w w'):Rows ety B G w' bo xss vs:=
 ⟨h.len,fun p v xs h1 h2=>⟨(h.at' p v xs h1 h2).1.ext k,(h.at' p v xs h1 h2).2⟩,h.sep⟩
instance:Ug w w' (Rows ety B G w bo xss vs) (Rows ety B G w' bo xss vs):=⟨fun e h=>h.ext e⟩
theorem Rows.lt (h:Rows ety B G w bo xss vs){p:Nat}{v:Value}(hv:vs[p]?=some v){b:Nat}(hb:v.ownBlock=some b):B≤b∧b<w.heap.size:=by
 have hp:=(List.getElem?_eq_some_iff.1 hv).1
 exact (h.at' p v _ hv (List.getElem?_eq_getElem (by rw[← h.len];exact hp))).1.lt hb
theorem Rows.gr (h:Rows ety B G w bo xss vs){b:Nat}(hg:w.grownBy w' (some b))(hb:∀(p:Nat) (v:Value),vs[p]?=some v→v.ownBlock≠some b):Rows ety B G w' bo xss vs:=
 ⟨h.len,fun p v xs h1 h2=>⟨OwR.gr (h.at' p v xs h1 h2).1 hg (hb p v h1),(h.at' p v xs h1 h2).2⟩,h.sep⟩
theorem Rows.nil {n:Nat}(hB:B≤w.heap.size)(hG:∀b,G b→b<B):Rows ety B G w bo (List.replicate n []) (List.replicate n (.slice none 0 0)):=by
 refine⟨by simp,fun p v xs h1 h2=>?_,fun p q u v _ h1 _=>?_⟩
 ·rw[List.getElem?_replicate] at h1 h2
  split at h1
  ·rename_i hp
   rw[if_pos hp] at h2
   cases h1
   cases h2
   exact⟨OwR.nil ap _ hB hG,by simp[Value.ownBlock]⟩
  ·cases h1
 ·rw[List.getElem?_replicate] at h1
  split at h1
  ·cases h1
   exact .inl rfl
  ·cases h1
theorem Rows.upd (h:Rows ety B G w bo xss vs){p:Nat}{v v':Value}{xs':List Int}(hv:vs[p]?=some v)(hg:w.grownBy w' v.ownBlock)(ho:OwR ap ety B G w' xs' v')(hat:v'.ownBlock=v.ownBlock∨∃c,v'.ownBlock=some c∧w.heap.size≤c)(hbo:bo<w.heap.size) :
  Rows ety B G w' bo (xss.set p xs') (vs.set p v'):=by
 have hp:=(List.getElem?_eq_some_iff.1 hv).1
 have hx:∃xs,xss[p]?=some xs:=⟨_,List.getElem?_eq_getElem (by rw[← h.len];exact hp)⟩
 obtain⟨xs,hx⟩:=hx
 refine⟨by simp[h.len],fun q u ys h1 h2=>?_,fun q s u y hqs h1 h2=>?_⟩
 ·by_cases hpq:p=q
  ·subst hpq
   rw[List.getElem?_set_self hp] at h1
   rw[List.getElem?_set_self (by rw[← h.len];exact hp)] at h2
   cases h1;cases h2
   refine⟨ho,?_⟩
   rcases hat with hat|⟨c,hat,hc⟩
   ·rw[hat];exact (h.at' p v xs hv hx).2
   ·rw[hat];simp;omega
  ·rw[List.getElem?_set_ne hpq] at h1 h2
   have:=h.at' q u ys h1 h2
   exact⟨OwR.grF this.1 hg (h.sep q p u v (Ne.symm hpq) h1 hv),this.2⟩
 ·by_cases hpq:p=q
  ·subst hpq
   rw[List.getElem?_set_self hp] at h1
   rw[List.getElem?_set_ne hqs] at h2
   cases h1
   rcases hat with hat|⟨c,hat,hc⟩
   ·rw[hat];exact h.sep p s v y hqs hv h2
   ·refine .inr fun he=>?_
    rw[hat] at he
    have:=h.lt h2 he.symm
    omega
  ·rw[List.getElem?_set_ne hpq] at h1
   by_cases hps:p=s
   ·subst hps
    rw[List.getElem?_set_self hp] at h2
    cases h2
    rcases hat with hat|⟨c,hat,hc⟩
    ·rw[hat];exact h.sep q p u v hqs h1 hv
    ·refine .inr fun he=>?_
     rw[hat] at he
     have:=h.lt h1 he
     omega
   ·rw[List.getElem?_set_ne hps] at h2
    exact h.sep q s u y hqs h1 h2
theorem Rows.cells (h:Rows ety B G w bo xss vs):Cells (slE ap) G w xss vs:=by
 have hl:=h.len
 have ha:=h.at'
 clear h
 induction xss generalizing vs with
 | nil=>exact List.eq_nil_of_length_eq_zero hl
 | cons xs xss ih=>
  match vs,hl,ha with
  | v::vs,hl,ha=>
   refine⟨[v],vs,rfl,⟨v,rfl,Dv.sl.1 (ha 0 v xs rfl rfl).1.sl⟩,ih (by simpa using hl) fun p u ys h1 h2=>ha (p+1) u ys h1 h2⟩
theorem Rows.dv (h:Rows ety B G w bo xss vs){bt:TypeId}(hb:Blk w bo vs.toArray bt)(hG:¬G bo){cap:Nat}(hc:xss.length≤cap):(Dv (slE (slE ap)) G xss).p (.slice (some ⟨bo,0,none⟩) xss.length cap) w:=
 Dv.sl.2 (.inr ⟨_,cap,vs,rfl,hc,hG,hb.lt,h.cells,fun i u hu=>by
  rw[Addr.add_lit,Nat.zero_add,hb.cell i,List.getElem?_toArray];exact hu⟩)
theorem hY {x y:Operand}{t te:TypeId}{z0:Value}{sz bz:Nat}{α:Type}{e:Enc α}{xs ys:List α}{v:Value}(ht:P.underlying t=some (.slice te))(hi:(P.info? te).map (fun i=>(i.zero,i.size,i.bytes))=some (some z0,sz,bz))(hsz:sz=e.k)(hz0:z0.cells.size=e.k)
  (hx:opd L x=some (E v)) (ho:OwR e te B G w0 xs v) (hy:opd L y=some (Dv (slE e) (GO G v) ys)) (hb:(xs.length+ys.length) * bz≤140737488355328) (h63:xs.length+ys.length≤maxLen) :
  XOp P w0 v.ownBlock L ⟨dst,.call ⟨.builtin .append,#[x,y],#[t,t]⟩,ty,pos,aft,none⟩
   ⟨fun v' w'=>OwR e te B G w' (xs++ys) v'∧(v'.ownBlock=v.ownBlock∨∃c,v'.ownBlock=some c∧w0.heap.size≤c),fun v' w1 w2 k h=>⟨h.1.ext k,h.2⟩⟩:=by
 refine⟨fun ρ w he hv=>?_⟩
 have hxv:ρ x=v:=hv x (by simp[Op.operands,Call.operands]) _ hx
 have hyv:=hv y (by simp[Op.operands,Call.operands]) _ hy
 obtain⟨v',w',h1,h2,h3,h4⟩:=mh (P:=P) (ty:=ty) ht hi hsz hz0 (ho.ext he) hyv h63 hb
 simp only[OpR,execOp,resolve,invoke,builtin,Sem.run_bind,Sem.run_pure,Result.andThen_ok,List.map_toArray,List.map_cons,List.map_nil,hxv,h1]
 exact⟨h3,h2,h4.imp id fun h=>⟨_,h,he.size⟩⟩
section
variable {ops:Array Oper}{rest:List Oper}{K:Env→Prop}{A:VA}{op:Op}{dd:Nat}{row:Option Nat}
theorem xm {x:Nat}(h:∀w1,w0.grownBy w1 row→OpC P w1 L ⟨some dd,op,ty,pos,aft,none⟩ A)[hA:AvR row A](k:cL P ops w0 row (some x) rest K ((dd,A)::L)):cL P ops w0 row (some (x+1)) (⟨some dd,op,ty,pos,aft,none⟩::rest) K L:=
 ⟨A,fun w1 h1 a w he hv _=>by simp only[Region.wanted,if_true];exact (h w1 h1).out _ w he hv,hA,k⟩
theorem xn (h:∀w1,w0.grownBy w1 row→OpC P w1 L ⟨some dd,op,ty,pos,aft,none⟩ A)[hA:AvR row A](k:cL P ops w0 row none rest K ((dd,A)::L)):cL P ops w0 row none (⟨some dd,op,ty,pos,aft,none⟩::rest) K L:=
 ⟨A,fun w1 h1 a w he hv _=>by simp only[Region.wanted,if_true];exact (h w1 h1).out _ w he hv,hA,k⟩
theorem xx (h:XOp P w0 row L ⟨some dd,op,ty,pos,aft,none⟩ A)(k:cL P ops w0 row none rest K ((dd,A)::L)):cL P ops w0 row (some 0) (⟨some dd,op,ty,pos,aft,none⟩::rest) K L:=
 ⟨rfl,A,h,k⟩
theorem xe {x:Option Nat}(h:K L):cL P ops w0 row x [] K L:=by
 match x,h with
 | none,h=>exact h
 | some 0,h=>exact h
 | some (x+1),h=>exact h
end
end Go.Mono
namespace Go.Mono
open Go Go.RowKit
theorem Rows.ne_new {ety B bo:Nat}{G:Nat→Prop}{w:World}{xss:List (List Int)}{vs:List Value}(h:Rows ety B G w bo xss vs){b:Nat}(hb:b=w.heap.size):∀(p:Nat) (v:Value),vs[p]?=some v→v.ownBlock≠some b:=fun p v hv hb'=>by
 have:=(h.lt hv hb').2
 omega
end Go.Mono
namespace Go.Mono
open Go Go.RowKit
theorem Rows.ne_bo {ety B bo:Nat}{G:Nat→Prop}{w:World}{xss:List (List Int)}{vs:List Value}(h:Rows ety B G w bo xss vs):∀(p:Nat) (v:Value),vs[p]?=some v→v.ownBlock≠some bo:=fun p v hv=>by
 have hp:=(List.getElem?_eq_some_iff.1 hv).1
 exact (h.at' p v _ hv (List.getElem?_eq_getElem (by rw[← h.len];exact hp))).2
theorem OwR.one {α:Type}{e:Enc α}{ty:TypeId}{B:Nat}{G:Nat→Prop}{w:World}{xs:List α}{v:Value}(h:OwR e ty B G w xs v):v.oneCell'=true:=by
 rcases Dv.sl.1 h.sl with ⟨rfl,_⟩|⟨ad,cap,cs,rfl,_⟩ <;> rfl
theorem mz (vs:List Value)(p:Nat)(v:Value):vs.toArray.setIfInBounds (0+(p:Int).toNat * 1) v=(vs.set p v).toArray:=by simp
theorem mA {vs:List Value}{p:Nat}{v:Value}(h:vs[p]?=some v):vs.toArray[0+(p:Int).toNat * 1]?=some v:=by simpa using h
end Go.Mono
namespace Go.Mono
open Go Go.RowKit
structure Chg (S:Nat→Prop)(w w':World):Prop where
 os:w'.os=w.os
 tape:w'.tape=w.tape
 output:w'.output=w.output
 size:w.heap.size≤w'.heap.size
 block:∀k,k<w.heap.size→¬S k→w'.heap[k]?=w.heap[k]?
section
variable {S S':Nat→Prop}{w w' w'' W:World}
theorem Chg.rfl' (S:Nat→Prop)(w:World):Chg S w w:=⟨rfl,rfl,rfl,Nat.le_refl _,fun _ _ _=>rfl⟩
theorem Chg.tr (h:Chg S w w')(k:Chg S w' w''):Chg S w w'':=
 ⟨k.os.trans h.os,k.tape.trans h.tape,k.output.trans h.output,Nat.le_trans h.size k.size,fun b hb hS=>(k.block b (Nat.lt_of_lt_of_le hb h.size) hS).trans (h.block b hb hS)⟩
theorem Chg.ext (h:Chg S w w')(k:Ext w' w''):Chg S w w'':=
 ⟨k.os.trans h.os,k.tape.trans h.tape,k.output.trans h.output,Nat.le_trans h.size k.size,fun b hb hS=>(k.block b (Nat.lt_of_lt_of_le hb h.size)).trans (h.block b hb hS)⟩
instance {S:Nat→Prop}{W w w':World}:Ug w w' (Chg S W w) (Chg S W w'):=⟨fun e h=>h.ext e⟩
theorem Ext.chg (h:Ext w w')(S:Nat→Prop):Chg S w w':=⟨h.os,h.tape,h.output,h.size,fun b hb _=>h.block b hb⟩
theorem Chg.gr (h:Chg S w w'){b:Nat}(k:w'.grownBy w'' (some b))(hb:S b∨w.heap.size≤b):Chg S w w'':=
 ⟨k.os.trans h.os,k.tape.trans h.tape,k.output.trans h.output,Nat.le_trans h.size k.size,fun c hc hS=>(k.block c (Nat.lt_of_lt_of_le hc h.size) (fun he=>by
  cases he
  rcases hb with hb|hb
  ·exact hS hb
  ·omega)).trans (h.block c hc hS)⟩
theorem Chg.to (h:Chg S w w')(hS:∀b,b<w.heap.size→S b→S' b):Chg S' w w':=⟨h.os,h.tape,h.output,h.size,fun b hb hn=>h.block b hb (fun hs=>hn (hS b hb hs))⟩
theorem Ext.ch (e:Ext W w)(h:Chg S w w')(hS:∀b,S b→W.heap.size≤b):Ext W w':=
 ⟨h.os.trans e.os,h.tape.trans e.tape,h.output.trans e.output,Nat.le_trans e.size h.size,fun b hb=>(h.block b (Nat.lt_of_lt_of_le hb e.size) (fun hs=>by have:=hS b hs;omega)).trans (e.block b hb)⟩
theorem Blk.ch {b:Nat}{cs:Array Value}{t:TypeId}(h:Blk w b cs t)(k:Chg S w w')(hS:¬S b):Blk w' b cs t:=(k.block b h.lt hS).trans h
class InS (G S:Nat→Prop):Prop where
 in':∀b,S b→G b
theorem Dv.ch {α:Type}{e:Enc α}{G:Nat→Prop}{x:α}{v:Value}(h:(Dv e G x).p v w)(k:Chg S w w')(hG:∀b,S b→G b):(Dv e G x).p v w':=by
 obtain⟨cs,h1,h2⟩:=h
 exact⟨cs,e.pres h1 (fun b hb hn=>k.block b hb (fun hs=>hn (hG b hs))) k.size,h2⟩
class AvS (S:Nat→Prop)(A:VA):Prop where
 av:∀v w w',Chg S w w'→A.p v w→A.p v w'
class eE (S:Nat→Prop)(L:Env):Prop where
 av:∀t A,aA L t=some A→∀v w w',Chg S w w'→A.p v w→A.p v w'
instance (S:Nat→Prop)(v:Value):AvS S (E v):=⟨fun _ _ _ _ h=>h⟩
instance (S:Nat→Prop):AvS S Any:=⟨fun _ _ _ _ h=>h⟩
instance (S:Nat→Prop){α:Type}(e:Enc α)(G:Nat→Prop)(x:α)[h:InS G S]:AvS S (Dv e G x):=⟨fun v w w' k h1=>Dv.ch h1 k h.in'⟩
instance (S:Nat→Prop):eE S []:=⟨fun t A h=>by simp[aA] at h⟩
instance (S:Nat→Prop)(k:Nat)(A:VA)(L:Env)[h:AvS S A][hl:eE S L]:eE S ((k,A)::L):=⟨fun t B ht=>by
 by_cases hkt:k=t
 ·subst hkt;rw[cj] at ht;cases ht;exact h.av
 ·rw[ck _ _ hkt] at ht;exact hl.av t B ht⟩
theorem FrD.ch {n:Nat}{ds:List Deferred}{a:Act}{L:Env}[h:eE S L](hf:FrD n ds a w L)(k:Chg S w w'):FrD n ds a w' L:=
 ⟨hf.size,hf.defers,fun t A ht=>h.av t A ht _ _ _ k (hf.val t A ht)⟩
end

section tail
variable {P:Program}{L:Env}{ty:TypeId}{pos:String}{aft:Array Edge}{r:Option Nat}{ds:List Deferred}
variable {ops:Array Oper}{rest:List Oper}{Q:Exit→Act→World→Prop}{n:Nat}{a:Act}{w:World}{x y:Operand}
theorem gv {S:Nat→Prop}{F:World→Prop}{fo:Operand}{id:FuncId}{caps:Array Value}{xs:Array Operand}{tys:Array TypeId}{A:VA}{d:Nat}(hf:FrD n ds a w L)[hL:eE S L](hd:d<n)(he:Proofs.Enters P id)(hfo:opd L fo=some (E (.func (.func id) #[] caps)))
  (h:Calls P id (xs.map a.eval++caps) w (fun e w'=>∃v,e=.returned v∧Chg S w w'∧A.p v w'∧F w'))
  (k:∀a' w',Chg S w w'→F w'→FrD n ds a' w' ((d,A)::L)→wpListIn (FW r) 0 P ops Q rest a' w') :
  wpListIn (FW r) 0 P ops Q (⟨some d,.call ⟨.value fo,xs,tys⟩,ty,pos,aft,none⟩::rest) a w:=
 wpListIn_plain rfl fun K hK=>by
  have hfv:a.eval fo=.func (.func id) #[] caps:=hf.opd fo _ hfo
  have hrun:(execOp a.eval ⟨some d,.call ⟨.value fo,xs,tys⟩,ty,pos,aft,none⟩).run P w=.ok (.enter id (xs.map a.eval++caps)) w:=by
   simp[execOp,resolve,hfv,Deferred.ofValue,invoke,he (xs.map a.eval++caps) w]
  refine OpR.wp (R:=fun v w'=>Chg S w w'∧A.p v w'∧F w') ?_ ?_
  ·simp only[OpR,hrun]
   exact h
  ·rintro v w' ⟨h1,h2,h3⟩
   exact hK _ _ (k _ _ h1 h3 ((hf.ch h1).put (d:=some d) (Ext.rfl' _) (fun k hk=>by cases hk;exact hd) h2))
theorem jw {S:Nat→Prop}{F:World→Prop}{id:FuncId}{xs:Array Operand}{tys:Array TypeId}{A:VA}{d:Nat}(hf:FrD n ds a w L)[hL:eE S L](hd:d<n)(he:Proofs.Enters P id)
  (h:Calls P id (xs.map a.eval) w (fun e w'=>∃v,e=.returned v∧Chg S w w'∧A.p v w'∧F w'))
  (k:∀a' w',Chg S w w'→F w'→FrD n ds a' w' ((d,A)::L)→wpListIn (FW r) 0 P ops Q rest a' w') :
  wpListIn (FW r) 0 P ops Q (⟨some d,.call ⟨.value (.func id),xs,tys⟩,ty,pos,aft,none⟩::rest) a w:=by
 refine gv (S:=S) (F:=F) (A:=A) (caps := #[]) hf hd he rfl (by simpa using h) k
end tail
def cr (l:List Int):Array Value:=(l.map (Value.int .i64)).toArray
theorem ta (l:List Int)(p:Nat)(x:Int):(cr l).setIfInBounds p (.int .i64 x)=cr (l.set p x):=by
 apply Array.toList_inj.1
 simp[cr,List.map_set]
theorem tb (l:List Int):(cr l).size=l.length:=by simp[cr]
end Go.Mono
namespace Go.Mono
open Go Go.RowKit
theorem Dv.gr {α:Type}{e:Enc α}{G:Nat→Prop}{x:α}{v:Value}{w w':World}{b:Nat}(h:(Dv e G x).p v w)(hg:w.grownBy w' (some b))(hb:G b):(Dv e G x).p v w':=by
 obtain⟨cs,h1,h2⟩:=h
 exact⟨cs,Enc.gro h1 hg (fun c hc=>by cases hc;exact hb),h2⟩
instance {α:Type}{e:Enc α}{W:World}{G:Nat→Prop}{x:α}{v:Value}{w w':World}{b:Nat}:Gg b w w' ((Dv e (GB W G) x).p v w) (W.heap.size≤b) ((Dv e (GB W G) x).p v w'):=⟨fun g s h=>Dv.gr h g (.inr s)⟩
theorem Dv.ex {α:Type}{e:Enc α}{G:Nat→Prop}{x:α}{v:Value}{w w':World}(h:(Dv e G x).p v w)(k:Ext w w'):(Dv e G x).p v w':=(Dv e G x).st _ _ _ k h
section
variable {P:Program}{w0:World}{L:Env}{dst:Option Tmp}{ty:TypeId}{pos:String}{aft:Array Edge}{g:Option (Nat×Bool)}
theorem er {fn:Fn}{x1:Operand}{v1:Value}(h1:opd L x1=some (E v1)):OpC P w0 L ⟨dst,.makeFunc fn #[] #[x1],ty,pos,aft,g⟩ (E (.func fn #[] #[v1])):=
 aI fun ρ w _ hv=>⟨_,by
  have a1:=opE hv (x:=x1) (by simp[Op.operands]) h1
  simp[execOp,Instr.makeFunc,a1],rfl⟩
theorem eZ {fn:Fn}{x1 x2:Operand}{v1 v2:Value}(h1:opd L x1=some (E v1))(h2:opd L x2=some (E v2)):OpC P w0 L ⟨dst,.makeFunc fn #[] #[x1,x2],ty,pos,aft,g⟩ (E (.func fn #[] #[v1,v2])):=
 aI fun ρ w _ hv=>⟨_,by
  have a1:=opE hv (x:=x1) (by simp[Op.operands]) h1
  have a2:=opE hv (x:=x2) (by simp[Op.operands]) h2
  simp[execOp,Instr.makeFunc,a1,a2],rfl⟩
theorem tc {fn:Fn}{x1 x2 x3 x4:Operand}{v1 v2 v3 v4:Value}(h1:opd L x1=some (E v1))(h2:opd L x2=some (E v2))(h3:opd L x3=some (E v3))(h4:opd L x4=some (E v4)):OpC P w0 L ⟨dst,.makeFunc fn #[] #[x1,x2,x3,x4],ty,pos,aft,g⟩ (E (.func fn #[] #[v1,v2,v3,v4])):=
 aI fun ρ w _ hv=>⟨_,by
  have a1:=opE hv (x:=x1) (by simp[Op.operands]) h1
  have a2:=opE hv (x:=x2) (by simp[Op.operands]) h2
  have a3:=opE hv (x:=x3) (by simp[Op.operands]) h3
  have a4:=opE hv (x:=x4) (by simp[Op.operands]) h4
  simp[execOp,Instr.makeFunc,a1,a2,a3,a4],rfl⟩
end
end Go.Mono
namespace Go.Mono
theorem Dv.slOne {α:Type}{e:Enc α}{G:Nat→Prop}{xs:List α}{v:Go.Value}{w:Go.World}(h:(Dv (slE e) G xs).p v w):v.oneCell'=true:=by
 rcases Dv.sl.1 h with ⟨rfl,_⟩|⟨ad,cap,cs,rfl,_⟩ <;> rfl
end Go.Mono
namespace Go.Mono
open Go Go.RowKit
class FlE {α:Type}(e:Enc α):Prop where
 fl:∀{G G' w w' x cs},e.r G w x cs→e.r G' w' x cs
instance {α:Type}(k:Nat)(agg:Bool)(f:α→List Value)(p1 p2 p3 p4):FlE (ef k agg f p1 p2 p3 p4):=⟨fun h=>h⟩
instance:FlE ap:=⟨fun h=>h⟩
instance:FlE cq:=⟨fun h=>h⟩
instance:FlE ei:=⟨fun h=>h⟩
instance {α β:Type}(e:Enc α)(f:Enc β)[he:FlE e][hf:FlE f]:FlE (prE e f):=⟨fun⟨c,d,h,h1,h2⟩=>⟨c,d,h,he.fl h1,hf.fl h2⟩⟩
theorem Cells.fl {α:Type}{e:Enc α}[he:FlE e]{G G':Nat→Prop}{w w':World}:∀{xs:List α} {cs:List Value},Cells e G w xs cs→Cells e G' w' xs cs
 | [],cs,h=>h
 | x::xs,cs,⟨c,d,h,h1,h2⟩=>⟨c,d,h,he.fl h1,Cells.fl h2⟩
theorem OwR.reG {α:Type}{e:Enc α}[he:FlE e]{ty:TypeId}{B:Nat}{G G':Nat→Prop}{w:World}{xs:List α}{v:Value}(h:OwR e ty B G w xs v)(hG:∀b,G' b→b<B):OwR e ty B G' w xs v:=by
 obtain⟨cs,h1,h2⟩:=h.own
 exact⟨⟨cs,h1,Cells.fl h2⟩,hG,h.base⟩
theorem OwR.grE {α:Type}{e:Enc α}[he:FlE e]{ty:TypeId}{B:Nat}{G:Nat→Prop}{w w':World}{xs:List α}{v:Value}{b:Nat}(h:OwR e ty B G w xs v)(hg:w.grownBy w' (some b))(hne:v.ownBlock≠some b):OwR e ty B G w' xs v:=by
 obtain⟨cs,h1,h2⟩:=h.own
 exact⟨⟨cs,h1.kept hg (.inr hne),Cells.fl h2⟩,h.av,Nat.le_trans h.base hg.size⟩
section
variable {P:Program}{w0:World}{L:Env}{dst:Option Tmp}{ty:TypeId}{pos:String}{aft:Array Edge}{g:Option (Nat×Bool)}
theorem hZ {x:Operand}{t yt te:TypeId}{ao:Option Addr}{n c:Nat}(ht:P.underlying t=some (.slice te))(hx:opd L x=some (E (.slice ao n c))) :
  OpC P w0 L ⟨dst,.binOp .eql t x (.const (.slice none 0 0)) yt,ty,pos,aft,g⟩ (E (.bool ao.isNone)):=
 lk hx rfl (fun _=>rfl) rfl fun w _=>run_equal_slice_nil w t te ao n c ht
end
end Go.Mono
namespace Go.Mono
open Go Go.RowKit
def aT (P:Program)(k e:TypeId)(w:World)(b n:Nat)(m:Int→Option Int):Prop:=
 ∃D:DataW Unit,w.ownsMap P k (plainElem P e) b n D∧Maps.IsMap D∧∀x:Int,(Lit.int .i64 x).wf=true→Maps.has D (.int .i64 x)=(m x).isSome∧D.atKey (.int .i64 x) (.lit (.int .i64 0))=.lit (.int .i64 ((m x).getD 0))
variable {P:Program}{k e:TypeId}{w w':World}{b n:Nat}{m:Int→Option Int}
theorem aT.pres (h:aT P k e w b n m)(hb:w'.heap[b]?=w.heap[b]?):aT P k e w' b n m:=by
 obtain⟨D,⟨es,clock,h1,h2⟩,h3⟩:=h
 exact⟨D,⟨es,clock,hb.trans h1,h2⟩,h3⟩
theorem aT.lt (h:aT P k e w b n m):b<w.heap.size:=by
 obtain⟨D,h1,_⟩:=h
 exact h1.lt
def jy (P:Program)(k e:TypeId):Enc (Int→Option Int) where
 k:=1
 agg:=false
 r:=fun G w m cs=>∃b n,cs=[.map (some b)]∧¬G b∧aT P k e w b n m
 pos:=by decide
 k1:=fun _=>rfl
 len:=fun⟨b,n,h,_⟩=>by rw[h];rfl
 one:=fun⟨b,n,h,_⟩ u hu=>by rw[h] at hu;simp at hu;subst hu;rfl
 pres:=fun⟨b,n,h1,h2,h3⟩ hk hs=>⟨b,n,h1,h2,h3.pres (hk b h3.lt h2)⟩
 weak:=fun⟨b,n,h1,h2,h3⟩ hk=>⟨b,n,h1,fun hg=>h2 (hk b h3.lt hg),h3⟩
theorem aT.dv (h:aT P k e w b n m){G:Nat→Prop}(hG:¬G b):(Dv (jy P k e) G m).p (.map (some b)) w:=⟨_,⟨b,n,rfl,hG,h⟩,rfl⟩
theorem aT.made (w:World):aT P k e (w.alloc (.map #[] 0)) w.heap.size 0 (fun _=>none):=
 ⟨_,World.ownsMap_made w P k _,Maps.isMap_empty,fun x _=>⟨rfl,rfl⟩⟩
theorem td {t:TypeId}(h:aT P k e w b n m)(hk:P.underlying k=some (.int .i64))(he:P.underlying e=some (.int .i64))(ht:P.underlying t=some (.map k e))(hn:n<maxLen){x c:Int}(hx:(Lit.int .i64 x).wf=true)(hc:(Lit.int .i64 c).wf=true) :
  ∃w',(Instr.mapUpdate t (.map (some b)) (.int .i64 x) (.int .i64 c)).run P w=.ok () w'∧aT P k e w' b (n+1) (fun y=>if y=x then some c else m y)∧w.grownBy w' (some b):=by
 obtain⟨D,h1,h2,h3⟩:=h
 obtain⟨w',r1,r2,r3⟩:=h1.update (Maps.int_keyed hk) ht hn (Maps.keyOf_int_mk hk hx) (plainElem_int he hc)
 have hkl:WideAt.IsKeyLit (.int .i64 x):=(Maps.int_keyed hk).one.key ⟨_,Maps.keyOf_int_mk hk hx⟩
 refine⟨w',r1,⟨_,r2,h2.put _ _,fun y hy=>?_⟩,r3⟩
 by_cases hyx:y=x
 ·subst hyx
  rw[Maps.has_put_same h2 hkl,Maps.atKey_put_same h2 hkl]
  simp
 ·have hne:(Lit.int .i64 y)≠(Lit.int .i64 x):=by simp[hyx]
  rw[Maps.has_put_other hne,Maps.atKey_put_other hne]
  simp[hyx,h3 y hy]
theorem tf {t:TypeId}(h:aT P k e w b n m)(hk:P.underlying k=some (.int .i64))(he:P.underlying e=some (.int .i64))(ht:P.underlying t=some (.map k e))(hz:(zeroValue e).run P w=.ok (.int .i64 0) w){x:Int}(hx:(Lit.int .i64 x).wf=true) :
  (Instr.lookup t (.map (some b)) (.int .i64 x) true).run P w=.ok (.tuple #[.int .i64 ((m x).getD 0),.bool (m x).isSome]) w:=by
 obtain⟨D,h1,h2,h3⟩:=h
 obtain⟨v,ps,r1,r2⟩:=h1.look_ok (Maps.int_keyed hk) ht hz (plainElem_int he (by decide)) (Maps.keyOf_int_mk hk hx)
 obtain⟨a,rfl,ha,_⟩:=plainElem_int_inv he r2
 obtain⟨h4,h5⟩:=h3 x hx
 have h6:=congrArg Prod.fst ha
 simp only at h6
 rw[h5] at h6
 cases h6
 rw[r1,h4]
theorem eG {t:TypeId}{z:Value}{sz bz:Nat}(h:(P.info? t).map (fun i=>(i.zero,i.size,i.bytes))=some (some z,sz,bz)):∀w,(zeroValue t).run P w=.ok z w:=fun w=>by
 obtain⟨i,hi,hzi,_,_⟩:=info_parts h
 simp[zeroValue,typeInfo,hi,hzi]
section
variable {w0:World}{L:Env}{dst:Option Tmp}{ty:TypeId}{pos:String}{aft:Array Edge}{g:Option (Nat×Bool)}
theorem tg {x y:Operand}{t:TypeId}{G:Nat→Prop}{i:Int}(hk:P.underlying k=some (.int .i64))(he:P.underlying e=some (.int .i64))(ht:P.underlying t=some (.map k e))(hz:∀w,(zeroValue e).run P w=.ok (.int .i64 0) w)
  (hx:Is L w0 x (Dv (jy P k e) G m)) (hy:opd L y=some (E (.int .i64 i))) (hi:(Lit.int .i64 i).wf=true):OpC P w0 L ⟨dst,.lookup t x y true,ty,pos,aft,g⟩ (Tup [E (.int .i64 ((m i).getD 0)),E (.bool (m i).isSome)]):=
 aI fun ρ w he' hv=>by
  obtain⟨cs,⟨b,n,h1,h2,h3⟩,h4⟩:=hx.v he' hv (by simp[Op.operands])
  subst h1
  have h5:ρ x=.map (some b):=h4
  have h6:=opE hv (x:=y) (by simp[Op.operands]) hy
  exact⟨_,by simp only[execOp,h5,h6,Sem.run_bind,tf h3 hk he ht (hz w) hi,Result.andThen_ok,Sem.run_pure],Tup.two rfl rfl⟩
end
end Go.Mono
namespace Go.Mono
open Go Go.RowKit
variable {P:Program}{w0:World}{L:Env}{dst:Option Tmp}{ty:TypeId}{pos:String}{aft:Array Edge}{g:Option (Nat×Bool)}{x y:Operand}{t yt:TypeId}
variable {α β:Type}{e:Enc α}{G:Nat→Prop}{z:α}

theorem ct (hx:Is L w0 x (Dv (ptE e) G (some z))):OpC P w0 L ⟨dst,.nilCheck x,ty,pos,aft,g⟩ (Dv (ptE e) G (some z)):=
 aI fun ρ w he hv=>by
  have h:=hx.v he hv (by simp[Op.operands])
  obtain⟨ad,h1,h2⟩:=Dv.pt.1 h
  exact⟨ρ x,by simp[execOp,h1],h⟩
theorem aU {ad:Addr}(hx:opd L x=some (E (.pointer (some ad)))):OpC P w0 L ⟨dst,.nilCheck x,ty,pos,aft,g⟩ (E (.pointer (some ad))):=
 aI fun ρ w he hv=>by
  have h1:=opE hv (x:=x) (by simp[Op.operands]) hx
  exact⟨ρ x,by simp[execOp,h1],h1⟩
theorem mB {op:BinOp}{A:VA}{c:Value}{b:Bool}(hx:Is L w0 x A)(h:∀v w,A.p v w→(eqGuard op t x (.const c) v c).run P w=.ok () w∧(binOp op t v c).run P w=.ok (.bool b) w) :
  OpC P w0 L ⟨dst,.binOp op t x (.const c) yt,ty,pos,aft,g⟩ (E (.bool b)):=
 aI fun ρ w he hv=>by
  have h1:=hx.v he hv (by simp[Op.operands])
  have h2:ρ (.const c)=c:=hv (.const c) (by simp[Op.operands]) _ rfl
  obtain⟨h3,h4⟩:=h _ _ h1
  exact⟨_,by simp only[execOp,h2,Sem.run_bind,h3,h4,Result.andThen_ok,Sem.run_pure],rfl⟩
theorem mC {pe:TypeId}(h:P.underlying t=some (.pointer pe)):P.underlying t=some (.pointer (P.pointee t)):=by
 rw[h];simp[Program.pointee,h]
theorem mD {pe:TypeId}(ht0:P.underlying t=some (.pointer pe))(hx:Is L w0 x (Dv (ptE e) G (some z))):OpC P w0 L ⟨dst,.binOp .neq t x (.const (.pointer none)) yt,ty,pos,aft,g⟩ (E (.bool true)):=
 have ht:=mC ht0
 mB hx fun v w h=>by
  obtain⟨ad,h1,_⟩:=Dv.pt.1 h
  subst h1
  exact⟨rfl,run_neq_pointer_nil w t (some ad) ht⟩
theorem dl {pe:TypeId}(ht0:P.underlying t=some (.pointer pe))(hx:Is L w0 x (Dv (ptE e) G (some z))):OpC P w0 L ⟨dst,.binOp .eql t x (.const (.pointer none)) yt,ty,pos,aft,g⟩ (E (.bool false)):=
 have ht:=mC ht0
 mB hx fun v w h=>by
  obtain⟨ad,h1,_⟩:=Dv.pt.1 h
  subst h1
  exact⟨rfl,run_eql_pointer_nil w t (some ad) ht⟩
theorem mE {fs:Array Field}{f:Nat}{fl:Field}{e':Enc β}{q:α→β}(ha:e.agg=true)(ht:P.underlying t=some (.struct fs))(hf:fs[f]?=some fl)(hs:TI P fl.type false 1)(ha':e'.agg=false)(F:Fld e fl.offset e' q)
  (hx:Is L w0 x (Dv e G z)):OpC P w0 L ⟨dst,.field t x f,ty,pos,aft,g⟩ (Dv e' G (q z)):=
 aI fun ρ w he hv=>by
  obtain⟨cs,h1,h2⟩:=hx.v he hv (by simp[Op.operands])
  obtain⟨c,h3,h4⟩:=F.at' h1
  have hl:=e'.len h3
  rw[e'.k1 ha'] at hl
  match c,hl with
  | [u],_=>
   have h5:=h4 0 u rfl
   rw[Enc.pack,ha] at h2
   have h2':ρ x=.agg cs.toArray:=h2
   refine⟨u,?_,[u],h3,?_⟩
   ·have h6:cs[fl.offset]?=some u:=by simpa using h5
    simp[execOp,h2',Instr.field,run_underlying ht,hf,asAgg,part,hs.agg,h6]
   ·rw[Enc.pack,ha'];rfl
theorem jz {fs:Array Field}{f:Nat}{fl:Field}{q:α→Int}(ha:e.agg=true)(ht:P.underlying t=some (.struct fs))(hf:fs[f]?=some fl)(hs:TI P fl.type false 1)(F:Fld e fl.offset ap q)
  (hx:Is L w0 x (Dv e G z)):OpC P w0 L ⟨dst,.field t x f,ty,pos,aft,g⟩ (E (.int .i64 (q z))):=(mE (e':=ap) ha ht hf hs rfl F hx).conv fun v w=>Dv.int.1
end Go.Mono
namespace Go.Mono
open Go Go.RowKit
theorem tj {P:Program}{w0:World}{L:Env}{dst:Option Tmp}{ty:TypeId}{pos:String}{aft:Array Edge}{g:Option (Nat×Bool)}{t:TypeId}{i:Nat}{c:Value}{cs:Array Value}(hb:P.built t [(i,c)]=some cs) :
  OpC P w0 L ⟨dst,.build t #[(i,.const c)],ty,pos,aft,g⟩ (E (.agg cs)):=
 aI fun ρ w _ hv=>by
  have h2:ρ (.const c)=c:=hv (.const c) (by simp[Op.operands]) _ rfl
  exact⟨_,by simp only[execOp,List.map_toArray,List.map_cons,List.map_nil,h2,Sem.run_bind,run_build w t _ cs (by simpa using hb),Result.andThen_ok,Sem.run_pure],rfl⟩
end Go.Mono
namespace Go.Mono
open Go Go.RowKit
end Go.Mono
namespace Go.Mono
open Go Go.RowKit
variable {P:Program}{w0:World}{L:Env}{dst:Option Tmp}{ty:TypeId}{pos:String}{aft:Array Edge}{g:Option (Nat×Bool)}{x y:Operand}{t te:TypeId}

theorem ia {te:TypeId}{s:Nat}(hs:(P.info? te).map (·.size)=some s)(w:World):(sizeOf te).run P w=.ok s w:=by
 cases hi:P.info? te with
 | none=>simp[hi] at hs
 | some i=>simp[hi] at hs;simp[sizeOf,typeInfo,hi,hs]
theorem tk {b o n c i:Nat}(ht:P.underlying t=some (.slice te))(hs:(P.info? te).map (·.size)=some 1)(hx:opd L x=some (E (.slice (some ⟨b,o,none⟩) n c)))(hy:opd L y=some (E (.int .i64 (i:Nat))))(hi:i≤n)(hn:i<c) :
  OpC P w0 L ⟨dst,.slice t x (some y) none none,ty,pos,aft,g⟩ (E (.slice (some ⟨b,o+i,none⟩) (n - i) (c - i))):=
 aI fun ρ w _ hv=>by
  have h1:=opE hv (x:=x) (by simp[Op.operands]) hx
  have h2:=opE hv (x:=y) (by simp[Op.operands]) hy
  refine⟨_,?_,rfl⟩
  have hi':(0:Int)≤(i:Int)∧(i:Int)≤(n:Int):=by omega
  have hne:¬c=i:=by omega
  simp[execOp,h1,h2,Instr.sliceAt,Instr.slice,Instr.sliceBounds,Instr.sliceBound,asIntOf,run_underlying ht,hi,ia hs,hne,Addr.add_lit]
theorem tl {b o n c i:Nat}(ht:P.underlying t=some (.slice te))(hs:(P.info? te).map (·.size)=some 1)(hx:opd L x=some (E (.slice (some ⟨b,o,none⟩) n c)))(hy:opd L y=some (E (.int .i64 (i:Nat))))(hi:i≤c) :
  OpC P w0 L ⟨dst,.slice t x none (some y) none,ty,pos,aft,g⟩ (E (.slice (some ⟨b,o,none⟩) i c)):=
 aI fun ρ w _ hv=>by
  have h1:=opE hv (x:=x) (by simp[Op.operands]) hx
  have h2:=opE hv (x:=y) (by simp[Op.operands]) hy
  refine⟨_,?_,rfl⟩
  have hi':(0:Int)≤(i:Int)∧(i:Int)≤(c:Int):=by omega
  simp[execOp,h1,h2,Instr.sliceAt,Instr.slice,Instr.sliceBounds,Instr.sliceBound,asIntOf,run_underlying ht,hi,ia hs,Addr.add_lit]
section tail
variable {r:Option Nat}{ds:List Deferred}{ops:Array Oper}{rest:List Oper}{Q:Exit→Act→World→Prop}{n:Nat}{a:Act}{w:World}
theorem tm {b off m c sz bz:Nat}{z:Value}{cs:Array Value}{bt:TypeId}{d:Option Nat}(ht:P.underlying t=some (.slice te))(hi:(P.info? te).map (fun i=>(i.zero,i.size,i.bytes))=some (some z,sz,bz))(hz:z.cells = #[z])(h1:z.oneCell'=true)
  (hf:FrD n ds a w L) [hL:AvL b L] (hx:opd L x=some (E (.slice (some ⟨b,off,none⟩) m c))) (hb:Blk w b cs bt) (hm:0<m) (ho:off+m≤cs.size) (hd:∀k,d=some k→k<n)
  (k:∀a' w',w.grownBy w' (some b)→w'.heap.size=w.heap.size→Blk w' b (cs.toList.take off++List.replicate m z++cs.toList.drop (off+m)).toArray bt→FrD n ds a' w' (push d Any L)→wpListIn (FW r) 0 P ops Q rest a' w') :
  wpListIn (FW r) 0 P ops Q (⟨d,.call ⟨.builtin .clear,#[x],#[t]⟩,ty,pos,aft,none⟩::rest) a w:=
 wpListIn_plain rfl fun K hK=>by
  have hxv:a.eval x=.slice (some ⟨b,off,none⟩) m c:=hf.opd x _ hx
  obtain⟨it,hit,hiz,_,_⟩:=info_parts hi
  have hzc:(Builtin.zeroCells z.cells m).toList=List.replicate m z:=by
   rw[hz]
   simp[Builtin.zeroCells]
   apply List.ext_getElem
   ·simp
   ·intro i h1 h2
    simp[Nat.mod_one]
  have hst:=run_storeCells_at (P:=P) b off bt (List.replicate m z) 0 cs w hb (by simpa using ho) (by intro v hv';rw[List.eq_of_mem_replicate hv'];exact h1)
  simp only[Nat.add_zero,List.length_replicate] at hst
  obtain⟨m',rfl⟩:∃k,m=k+1:=⟨m - 1,by omega⟩
  have hzv:(zeroValue te).run P w=.ok z w:=by simp[zeroValue,typeInfo,hit,hiz]
  have hrun:(Builtin.clear_ #[t] ty #[.slice (some ⟨b,off,none⟩) (m'+1) c]).run P w=.ok (.tuple #[]) (w.setRow b (cs.toList.take off++List.replicate (m'+1) z++cs.toList.drop (off+(m'+1))).toArray):=by
   simp[Builtin.clear_,run_underlying ht,hzv,hzc,hst]
  refine OpR.wp (R:=fun v w'=>v=.tuple #[]∧w'=w.setRow b (cs.toList.take off++List.replicate (m'+1) z++cs.toList.drop (off+(m'+1))).toArray) ?_ ?_
  ·simp only[OpR,execOp,resolve,invoke,builtin,Sem.run_bind,Sem.run_pure,Result.andThen_ok,List.map_toArray,List.map_cons,List.map_nil,hxv,hrun]
   trivial
  ·rintro v w' ⟨rfl,rfl⟩
   refine hK _ _ (k _ _ (eb _ _ _) (by simp) (setRow_heap _ _ _ _ _ _ hb) ?_)
   exact (hf.gr (eb _ _ _)).put (d:=d) (A:=Any) (Ext.rfl' _) hd trivial
end tail
def MkA (B n:Nat)(cs:Array Value)(te:TypeId):VA:=⟨fun v w=>∃b,B≤b∧v=.slice (some ⟨b,0,none⟩) n n∧Blk w b cs te,fun v w w' e ⟨b,h1,h2,h3⟩=>⟨b,h1,h2,h3.ext e⟩⟩
theorem mkS {z:Value}{k:IntKind}{c sz bz:Nat}(ht:P.underlying t=some (.slice te))(hi:(P.info? te).map (fun i=>(i.zero,i.size,i.bytes))=some (some z,sz,bz))(hx:opd L x=some (E (.int k (c:Nat))))(hc:c≤1048576)(hb:bz≤1048576) :
  OpC P w0 L ⟨dst,.makeSlice t x x,ty,pos,aft,g⟩ (MkA w0.heap.size c (madeCells z.cells (c * sz)) te):=by
 refine⟨fun ρ w he hv=>?_⟩
 have hxv:ρ x=.int k (c:Nat):=opE hv (x:=x) (by simp[Op.operands]) hx
 obtain⟨it,hit,hiz,hs,hby⟩:=info_parts hi
 have hprod:(bz:Int) * (c:Nat)≤1048576 * 1048576:=Int.mul_le_mul (by omega) (by omega) (by omega) (by omega)
 have hr:=run_make (P:=P) w t te it z ht hit hiz k k (c:Nat) (c:Nat) (by omega) (by omega) (by rw[hby];omega) (by omega)
 rw[hs,Int.toNat_natCast] at hr
 simp only[OpR,execOp,hxv,Sem.run_bind,hr,Result.andThen_ok,Sem.run_pure]
 exact⟨cy _ _,_,he.size,rfl,dZ _ _ _⟩
def MpA (P:Program)(k e:TypeId)(B:Nat):VA:=⟨fun v w=>∃b,B≤b∧v=.map (some b)∧aT P k e w b 0 (fun _=>none),fun v w w' e ⟨b,h1,h2,h3⟩=>⟨b,h1,h2,h3.pres (e.block b h3.lt)⟩⟩
theorem mkM {k e:TypeId}:OpC P w0 L ⟨dst,.makeMap t none,ty,pos,aft,g⟩ (MpA P k e w0.heap.size):=by
 refine⟨fun ρ w he hv=>?_⟩
 simp only[OpR,execOp,Sem.run_bind,Option.map_none,run_makeMap,Result.andThen_ok,Sem.run_pure]
 exact⟨cy _ _,_,he.size,rfl,aT.made w⟩
def BxA (B:Nat)(A:VA)(e:TypeId):VA:=⟨fun v w=>∃b u,B≤b∧v=.pointer (some ⟨b,0,none⟩)∧A.p u w∧Blk w b u.cells e,fun v w w' e ⟨b,u,h1,h2,h3,h4⟩=>⟨b,u,h1,h2,A.st _ _ _ e h3,h4.ext e⟩⟩
theorem bxD {e:TypeId}{A:VA}(hx:opd L x=some A):OpC P w0 L ⟨dst,.box e x,ty,pos,aft,g⟩ (BxA w0.heap.size A e):=by
 refine⟨fun ρ w he hv=>?_⟩
 have hxv:=hv x (by simp[Op.operands]) _ hx
 simp only[OpR,execOp,Instr.box,Sem.run_bind,gd,Result.andThen_ok,Sem.run_pure]
 exact⟨cy _ _,_,_,he.size,rfl,A.st _ _ _ (cy _ _) hxv,dZ _ _ _⟩
theorem exE {vs:Array Value}{i:Nat}{u:Value}(hx:opd L x=some (E (.tuple vs)))(hi:vs[i]?=some u):OpC P w0 L ⟨dst,.extract x i,ty,pos,aft,g⟩ (E u):=
 aI fun ρ w he hv=>by
  have h1:=opE hv (x:=x) (by simp[Op.operands]) hx
  have hlt:i<vs.size:=(Array.getElem?_eq_some_iff.1 hi).1
  exact⟨u,by simp[execOp,h1,Instr.extract,hi],rfl⟩
end Go.Mono
namespace Go.Mono
open Go Go.RowKit
structure fL (P:Program)(w0:World)(row:Option Nat)(F:World→Prop)(L:Env)(o:Oper)(A:VA):Prop where
 out:∀ρ w,Ext w0 w→(∀x∈o.op.operands,∀B,opd L x=some B→B.p (ρ x) w)→OpR P o ρ w (fun v w'=>w.grownBy w' row∧A.p v w'∧F w')
def dp (P:Program)(ops:Array Oper)(w0:World)(row:Option Nat)(F:World→Prop):Option Nat→List Oper→(Env→Prop)→Env→Prop
 | _,[],K,L=>K L
 | some 0,o::rest,K,L=>o.guard=none∧∃A,fL P w0 row F L o A∧dp P ops w0 row F none rest K (push o.dst A L)
 | some (x+1),o::rest,K,L=>∃A,(∀w1,w0.grownBy w1 row→GOp P ops w1 L o A)∧AvR row A∧dp P ops w0 row F (some x) rest K (push o.dst A L)
 | none,o::rest,K,L=>∃A,(∀w1,w0.grownBy w1 row→GOp P ops w1 L o A)∧AvR row A∧dp P ops w0 row F none rest K (push o.dst A L)

section
variable {P:Program}{ops:Array Oper}{Q:Exit→Act→World→Prop}{w0:World}{n:Nat}{ds:List Deferred}{r:Option Nat}

def dL (A:VA)(As:Nat→VA):Nat→VA
 | 0=>A
 | i+1=>As i
theorem dq (L:Env)(A:VA)(As:Nat→VA)(k j:Nat):aK ops L (dL A As) k (j+1)=aK ops (push (aB ops k) A L) As (k+1) j:=by
 rw[← fY]
 congr 1
theorem mF {row:Option Nat}{F:World→Prop}{K:Env→Prop}:∀(M:List Oper) (k:Nat) (x:Option Nat) (L:Env),(∀j,j<M.length→ops[k+j]?=M[j]?)→dp P ops w0 row F x M K L →
  ∃As:Nat→VA,(∀j o,j<M.length→x≠some j→ops[k+j]?=some o→(∀w1,w0.grownBy w1 row→GOp P ops w1 (aK ops L As k j) o (As j))∧AvR row (As j)) ∧
   (∀j o,j<M.length→x=some j→ops[k+j]?=some o→o.guard=none∧fL P w0 row F (aK ops L As k j) o (As j))∧K (aK ops L As k M.length)
 | [],k,x,L,_,h=>⟨fun _=>Any,fun j o hj=>by simp at hj,fun j o hj=>by simp at hj,by
  match x,h with
  | none,h=>exact h
  | some 0,h=>exact h
  | some (x+1),h=>exact h⟩
 | o::M,k,x,L,hM,h=>by
  have h0:ops[k]?=some o:=by simpa using hM 0 (by simp)
  have hd:aB ops k=o.dst:=by simp[aB,h0]
  obtain⟨A,x',hA,hx',hr⟩:∃A x',((x≠some 0→(∀w1,w0.grownBy w1 row→GOp P ops w1 L o A)∧AvR row A)∧(x=some 0→o.guard=none∧fL P w0 row F L o A))∧(∀j,x=some (j+1)↔x'=some j)∧dp P ops w0 row F x' M K (push o.dst A L):=by
   match x,h with
   | none,⟨A,h1,h2,h3⟩=>exact⟨A,none,⟨fun _=>⟨h1,h2⟩,fun h=>by cases h⟩,fun j=>by simp,h3⟩
   | some 0,⟨hg,A,h1,h2⟩=>exact⟨A,none,⟨fun h=>absurd rfl h,fun _=>⟨hg,h1⟩⟩,fun j=>by simp,h2⟩
   | some (x+1),⟨A,h1,h2,h3⟩=>exact⟨A,some x,⟨fun _=>⟨h1,h2⟩,fun h=>by cases h⟩,fun j=>by simp,h3⟩
  obtain⟨As,h1,h2,h3⟩:=mF M (k+1) x' (push o.dst A L) (fun j hj=>by
   have:=hM (j+1) (by simpa using hj)
   rw[show k+1+j=k+(j+1) by omega]
   simpa using this) hr
  refine⟨dL A As,?_,?_,?_⟩
  ·intro j o' hj hjx ho'
   cases j with
   | zero=>
    rw[Nat.add_zero,h0] at ho'
    obtain rfl:=Option.some.inj ho'
    exact hA.1 hjx
   | succ j=>
    rw[dq,hd]
    exact h1 j o' (by simpa using hj) (fun h=>hjx ((hx' j).2 h)) (by rw[show k+1+j=k+(j+1) by omega];exact ho')
  ·intro j o' hj hjx ho'
   cases j with
   | zero=>
    rw[Nat.add_zero,h0] at ho'
    obtain rfl:=Option.some.inj ho'
    exact hA.2 hjx
   | succ j=>
    rw[dq,hd]
    exact h2 j o' (by simpa using hj) ((hx' j).1 hjx) (by rw[show k+1+j=k+(j+1) by omega];exact ho')
  ·rw[List.length_cons,dq,hd]
   exact h3

structure tn (ops:Array Oper)(m x:Nat)(row:Option Nat)(F:World→Prop)(n:Nat)(ds:List Deferred)(w0:World)(L:Env)(As:Nat→VA)(listed:Array Bool)(a:Act)(w:World):Prop where
 ext:w0.grownBy w row
 pre:listed.getD x true=false→Ext w0 w
 post:listed.getD x false=true→F w
 size:a.tmps.size=n
 defers:a.defers=ds
 hL:∀t A,aA L t=some A→(∀j,j<m→aB ops j≠some t)→A.p (a.eval (.tmp t)) w
 hA:∀i,i<m→listed.getD i false=true→∀d,aB ops i=some d→(As i).p (a.eval (.tmp d)) w

theorem mG {m x:Nat}{row:Option Nat}{F:World→Prop}(hx0:x<m)(hFst:∀w w',Ext w w'→F w→F w'){L:Env}{As:Nat→VA}(hm:m≤ops.size)(hchk:∀i,i<m→cO ops m n i=true)(hchk2:∀i,m≤i→i<ops.size→cx ops i=true)
  (hops:∀j o,j<m→j≠x→ops[j]?=some o→(∀w1,w0.grownBy w1 row→GOp P ops w1 (aK ops L As 0 j) o (As j))∧AvR row (As j))
  (hX:∀o,ops[x]?=some o→o.guard=none∧fL P w0 row F (aK ops L As 0 x) o (As x)) (hLav:ej row L)
  (hend:∀a w,w0.grownBy w row→F w→FrD n ds a w (aK ops L As 0 m)→wpListIn (FW r) 0 P ops Q (ops.toList.drop m) a w) :
  ∀(c:Nat) (listed:Array Bool) (a:Act) (w:World),(List.range m).countP (fun i => !listed.getD i true)=c→listed.size=ops.size →
   (∀j,m≤j→j<ops.size→listed.getD j true=false)→LD ops listed→tn ops m x row F n ds w0 L As listed a w→wpAnyIn (FW r) 0 P .any ops Q (c+(ops.size - m)) listed a w
 | 0,listed,a,w,hc,hsz,hun,hld,hi=>by
  have hall:∀j,j<m→listed.getD j false=true:=by
   intro j hj
   have:=(List.countP_eq_zero.1 hc) j (List.mem_range.2 hj)
   have hjl:j<listed.size:=by omega
   simpa[hjl] using this
  rw[Nat.zero_add]
  refine fx m hchk2 (ops.size - m) m (by omega) (Nat.le_refl _) listed a w hall hun hsz hld (hend a w hi.ext (hi.post (hall x hx0)) ⟨hi.size,hi.defers,fun t A ht=>?_⟩)
  rcases cQ L As t A m ht with ⟨j,hj,hd,rfl⟩|⟨hn,hl⟩
  ·exact hi.hA j hj (hall j hj) t hd
  ·exact hi.hL t A hl hn
 | c+1,listed,a,w,hc,hsz,hun,hld,hi=>by
  have facts:∀i o,i<m→ops[i]?=some o→(∀e∈o.after,Region.binds .any e=true→e.on<i)∧(∀d,o.dst=some d→d<n) ∧
    (∀t,t∈co o∨bE ops o=some t→∀j,j<m→aB ops j=some t→bnd ops i j=true)∧(∀j,j<m→j≠i→∀d,o.dst=some d→aB ops j≠some d):=by
   intro i o hlt ho
   have:=hchk i hlt
   simp only[cO,ho,Bool.and_eq_true,Array.all_eq_true_iff_forall_mem,Bool.or_eq_true,Bool.not_eq_true',List.all_eq_true,List.mem_range,List.mem_append,Option.mem_toList] at this
   obtain⟨⟨⟨h1,h2⟩,h3⟩,h4⟩:=this
   refine⟨fun e he hb=>?_,fun d hd=>?_,fun t ht j hj hd=>?_,fun j hj hne d hd hd'=>?_⟩
   ·rcases h1 e he with h|h
    ·rw[hb] at h;cases h
    ·simpa[Nat.blt_eq] using h
   ·simpa[hd,Nat.blt_eq] using h2
   ·have:=h3 t ht j hj
    rcases this with h|h
    ·rw[hd] at h;simp at h
    ·exact h
   ·have:=h4 j hj
    rcases this with h|h
    ·exact hne (Nat.eq_of_beq_eq_true h)
    ·rw[hd,hd'] at h;simp at h
  have prog:∃i,i<m∧listed.getD i true=false∧∀j,j<i→listed.getD j true=true:=by
   have hex:∃i,i<m∧listed.getD i true=false:=by
    have hpos:0<(List.range m).countP (fun i => !listed.getD i true):=by omega
    obtain⟨i,hi,hb⟩:=List.countP_pos_iff.1 hpos
    exact⟨i,List.mem_range.1 hi,by simpa using hb⟩
   obtain⟨i,hlt,hb⟩:=hex
   induction i using Nat.strongRecOn with
   | _ i ih=>
    by_cases h:∃j,j<i∧listed.getD j true=false
    ·obtain⟨j,hj,hjb⟩:=h
     exact ih j hj (by omega) hjb
    ·refine⟨i,hlt,hb,fun j hj=>?_⟩
     cases hjb:listed.getD j true with
     | true=>rfl
     | false=>exact absurd ⟨j,hj,hjb⟩ h
  obtain⟨i0,hi0,hu0,hbelow⟩:=prog
  have hready:i0∈Region.ready .any ops listed:=by
   have ho:ops[i0]?=some (ops[i0]'(by omega)):=by simp
   refine mem_ready.2 ⟨hu0,_,ho,fun e he hb=>?_⟩
   have hlt:=(facts i0 _ hi0 ho).1 e he hb
   have:=hbelow _ hlt
   have hjl:e.on<listed.size:=by omega
   simpa[hjl] using this
  rw[show c+1+(ops.size - m)=(c+(ops.size - m))+1 by omega]
  refine⟨fun h0=>(by rw[h0] at hready;cases hready),fun i hir=>?_⟩
  obtain⟨hu,o,ho,hall⟩:=mem_ready.1 hir
  have hilt:i<ops.size:=(Array.getElem?_eq_some_iff.1 ho).1
  have listed_of_bnd:∀j,bnd ops i j=true→listed.getD j false=true:=by
   intro j hb
   simp only[bnd,ho] at hb
   obtain⟨e,he,hb⟩:=Array.any_eq_true'.1 hb
   simp only[Bool.and_eq_true] at hb
   have:=hall e he hb.1
   rwa [Nat.eq_of_beq_eq_true hb.2] at this
  have him:i<m:=by
   rcases Nat.lt_or_ge i m with h|h
   ·exact h
   ·have hc:=hchk2 i h hilt
    simp only[cx,ho,Bool.and_eq_true,List.all_eq_true,List.mem_range] at hc
    have:=cov hld 12 i i0 (hc.2 i0 (by omega)) (fun o' ho' e he hb=>by
     rw[ho] at ho'
     obtain rfl:=Option.some.inj ho'
     exact hall e he hb)
    rw[dC hu0] at this
    cases this
  obtain⟨f1,f2,f3,f4⟩:=facts i o him ho
  have byLook:∀t,(t∈co o∨bE ops o=some t)→∀B,aA (aK ops L As 0 i) t=some B→B.p (a.eval (.tmp t)) w:=by
   intro t ht B hB
   rcases cQ L As t B i hB with ⟨j,hj,hd,rfl⟩|⟨hn,hl⟩
   ·exact hi.hA j (by omega) (listed_of_bnd j (f3 t ht j (by omega) hd)) t hd
   ·refine hi.hL t B hl fun j hj hd=>?_
    have hb:=f3 t ht j hj hd
    simp only[bnd,ho] at hb
    obtain⟨e,he,hb⟩:=Array.any_eq_true'.1 hb
    simp only[Bool.and_eq_true] at hb
    have hlt:=f1 e he hb.1
    rw[Nat.eq_of_beq_eq_true hb.2] at hlt
    exact hn j hlt hd
  have ops1:∀x∈o.op.operands,∀B,opd (aK ops L As 0 i) x=some B→B.p (a.eval x) w:=fun x hx B hB=>by
   cases x with
   | tmp t=>exact byLook t (.inl (List.mem_filterMap.2 ⟨.tmp t,by simpa using hx,rfl⟩)) B hB
   | const v=>simp[opd] at hB;subst hB;rfl
   | global g=>simp[opd] at hB;subst hB;rfl
   | func f=>simp[opd] at hB;subst hB;rfl
  have hdst:aB ops i=o.dst:=by simp[aB,ho]
  have step:∀v w',w.grownBy w' row→(i≠x→Ext w w')→(i=x→∀j,j<m→j≠x→AvR row (As j))→(As i).p v w'→(i=x→F w')→wpAnyIn (FW r) 0 P .any ops Q (c+(ops.size - m)) (listed.setIfInBounds i true) (a.put o.dst v) w':=by
   intro v w' hx hxe hxa hv hvF
   have stab:∀(A:VA) u,AvR row A→A.p u w→A.p u w':=fun A u hA h=>hA.av _ _ _ hx h
   refine mG hx0 hFst hm hchk hchk2 hops hX hLav hend c _ _ _ ?_ (by simpa using hsz) ?_ ?_ ?_
   ·have:=fX m (fun j => !listed.getD j true) (fun j => !(listed.setIfInBounds i true).getD j true) i him (by simp only[hu,Bool.not_false])
     (by
       have hjl:i<listed.size:=by omega
       simp[hjl]) (fun j hj=>by simp only[getD_set_ne true (Ne.symm hj)])
    omega
   ·intro j hj hj'
    rw[getD_set_ne true (by omega)]
    exact hun j hj hj'
   ·exact hld.set fun o' ho' e he hb=>by
     rw[ho] at ho'
     obtain rfl:=Option.some.inj ho'
     exact hall e he hb
   ·refine⟨World.grownBy.trans hi.ext hx,fun hl=>?_,fun hl=>?_,by simp[hi.size],by simp[hi.defers],fun t A ht hn=>?_,fun j hj hl d hd=>?_⟩
    ·have hix:i≠x:=by
      rintro rfl
      have hjl:i<listed.size:=by omega
      simp[hjl] at hl
     rw[getD_set_ne true hix] at hl
     exact Ext.tr (hi.pre hl) (hxe hix)
    ·by_cases hix:i=x
     ·exact hvF hix
     ·rw[getD_set_ne false hix] at hl
      exact hFst _ _ (hxe hix) (hi.post hl)
    ·have h0:=stab A _ ⟨hLav.av t A ht⟩ (hi.hL t A ht hn)
     cases hod:o.dst with
     | none=>exact h0
     | some d=>
      have:d≠t:=fun e=>hn i him (by rw[hdst,hod,e])
      rw[cN this]
      exact h0
    ·by_cases hji:j=i
     ·subst hji
      rw[hdst] at hd
      rw[hd,dW (by rw[hi.size];exact f2 d hd)]
      exact hv
     ·have hl':listed.getD j false=true:=by rwa [getD_set_ne false (Ne.symm hji)] at hl
      have h1:=hi.hA j hj hl' d hd
      have h0:(As j).p (a.eval (.tmp d)) w':=by
       by_cases hix:i=x
       ·exact stab _ _ (hxa hix j hj (fun h=>hji (h.trans hix.symm))) h1
       ·exact (As j).st _ _ _ (hxe hix) h1
      cases hod:o.dst with
      | none=>exact h0
      | some d'=>
       have:d'≠d:=fun e=>f4 j hj hji d' hod (by rw[hd,e])
       rw[cN this]
       exact h0
  unfold wpOpIn
  simp only[ho]
  by_cases hix:i=x
  ·obtain⟨hgd,hxo⟩:=hX o (hix▸ho)
   have hw:Region.wanted o (yielded ops a.tmps)=true:=by unfold Region.wanted;rw[hgd]
   rw[if_pos hw]
   have hpre:Ext w0 w:=hi.pre (hix▸hu)
   exact (hxo.out a.eval w hpre (hix▸ops1)).wp fun v w' hv=>step v w' hv.1 (fun h=>absurd hix h) (fun _ j hj hjx=>by
    have hoj:ops[j]?=some (ops[j]'(by omega)):=by simp
    exact (hops j _ hj hjx hoj).2) (hix▸hv.2.1) (fun _=>hv.2.2)
  ·have hg:=(hops i o him hix ho).1 w hi.ext a w (Ext.rfl' w) ops1 (fun d B hd hB=>byLook d (.inr hd) B hB)
   split
   ·rename_i hw
    rw[if_pos hw] at hg
    exact (hg.wp fun v w' hv=>step v w' ⟨hv.1.os,hv.1.tape,hv.1.output,hv.1.size,fun k hk _=>hv.1.block k hk⟩ (fun _=>hv.1) (fun h=>absurd h hix) hv.2 (fun h=>absurd h hix))
   ·rename_i hw
    rw[if_neg hw] at hg
    exact⟨fun _ _=>trivial,step undef w ⟨rfl,rfl,rfl,Nat.le_refl _,fun _ _ _=>rfl⟩ (fun _=>Ext.rfl' _) (fun h=>absurd h hix) hg (fun h=>absurd h hix)⟩
theorem tp {id:Nat}{ops:Array Oper}{L:Env}{a:Act}{w:World}(m x:Nat)(row:Option Nat)(F:World→Prop)(hFst:∀w w',Ext w w'→F w→F w')(hx:x<m)(hmix:P.follows .mixedOrders=true)(hf:FrD n ds a w L)[hL:ej row L](hchk:chk ops m n=true)
  (h:dp P ops w row F (some x) (ops.toList.take m) (fun L'=>∀a' w',w.grownBy w' row→F w'→FrD n ds a' w' L'→wpListIn (FW r) 0 P ops Q (ops.toList.drop m) a' w') L):(Code.region id ops true).wpIn (FW r) 0 P Q a w:=by
 simp only[chk,Bool.and_eq_true,List.all_eq_true,List.mem_range,Bool.or_eq_true,Nat.ble_eq] at hchk
 obtain⟨⟨hm,h1⟩,h2⟩:=hchk
 refine wpIn_region_any hmix ?_
 have hlen:(ops.toList.take m).length=m:=by simp;omega
 obtain⟨As,hAs,hX,hK⟩:=mF (ops:=ops) (ops.toList.take m) 0 (some x) L (fun j hj=>by
  rw[hlen] at hj
  rw[Nat.zero_add,List.getElem?_take,if_pos hj];simp) h
 rw[hlen] at hK hAs hX
 have hdrew:w.grownBy w.drew none:=⟨rfl,rfl,rfl,Nat.le_refl _,fun _ _ _=>rfl⟩
 have hext:Ext w { w with drawn:=w.drawn+1 }:=Ext.drew w
 have:=mG (P:=P) (ops:=ops) (Q:=Q) (w0:=w) (n:=n) (ds:=ds) (m:=m) (x:=x) (row:=row) (r:=r) (L:=L) (As:=As) hx hFst hm h1 (fun i hi hi'=>by
   rcases h2 i hi' with h|h
   ·simp only[Nat.blt_eq] at h;omega
   ·exact h) (fun j o hj hjx ho=>hAs j o hj (by simpa using fun h=>hjx h.symm) (by simpa using ho)) (fun o ho=>hX x o hx rfl (by simpa using ho)) hL (fun a w hx hF hf=>hK a w hx hF hf) m
  (Array.replicate ops.size false) a { w with drawn:=w.drawn+1 } ?_ (by simp) ?_ ?_ ⟨⟨rfl,rfl,rfl,Nat.le_refl _,fun _ _ _=>rfl⟩,fun _=>hext,fun hl=>?_,hf.size,hf.defers,fun t A ht _=>A.st _ _ _ hext (hf.val t A ht),fun i hi hl=>?_⟩
 ·rwa [show m+(ops.size - m)=ops.size by omega] at this
 ·have:(List.range m).countP (fun i => !(Array.replicate ops.size false).getD i true)=(List.range m).length:=by
   refine List.countP_eq_length.2 fun i hi=>?_
   have:=List.mem_range.1 hi
   have hlt:i<ops.size:=by omega
   simp[hlt]
  simpa using this
 ·intro j _ hj
  simp[hj]
 ·intro i o hl
  have:(Array.replicate ops.size false).getD i false=false:=by
   by_cases hlt:i<ops.size <;> simp[hlt]
  rw[this] at hl;cases hl
 ·have:(Array.replicate ops.size false).getD x false=false:=by
   by_cases hlt:x<ops.size <;> simp[hlt]
  rw[this] at hl;cases hl
 ·have:(Array.replicate ops.size false).getD i false=false:=by
   by_cases hlt:i<ops.size <;> simp[hlt]
  rw[this] at hl;cases hl
end
end Go.Mono
namespace Go.Mono
open Go Go.RowKit
section
variable {P:Program}{w0:World}{L:Env}{ty:TypeId}{pos:String}{aft:Array Edge}
variable {ops:Array Oper}{rest:List Oper}{K:Env→Prop}{A:VA}{op:Op}{dd:Nat}{row:Option Nat}{F:World→Prop}
theorem ym {x:Nat}(h:∀w1,w0.grownBy w1 row→OpC P w1 L ⟨some dd,op,ty,pos,aft,none⟩ A)[hA:AvR row A](k:dp P ops w0 row F (some x) rest K ((dd,A)::L)):dp P ops w0 row F (some (x+1)) (⟨some dd,op,ty,pos,aft,none⟩::rest) K L:=
 ⟨A,fun w1 h1 a w he hv _=>by simp only[Region.wanted,if_true];exact (h w1 h1).out _ w he hv,hA,k⟩
theorem yx {d:Option Nat}(h:fL P w0 row F L ⟨d,op,ty,pos,aft,none⟩ A)(k:dp P ops w0 row F none rest K (push d A L)):dp P ops w0 row F (some 0) (⟨d,op,ty,pos,aft,none⟩::rest) K L:=
 ⟨rfl,A,h,k⟩
theorem ye {x:Option Nat}(h:K L):dp P ops w0 row F x [] K L:=by
 match x,h with
 | none,h=>exact h
 | some 0,h=>exact h
 | some (x+1),h=>exact h
theorem tq {x y:Operand}{t bt:TypeId}{b off:Nat}{v:Value}{cs:Array Value}(ht:TI P t false 1)(hx:opd L x=some (E (.pointer (some ⟨b,off,none⟩))))(hy:opd L y=some (E v))(h1:v.oneCell'=true)(hb:Blk w0 b cs bt)(ho:off<cs.size) :
  fL P w0 (some b) (fun w=>Blk w b (cs.setIfInBounds off v) bt) L ⟨none,.store t x y,ty,pos,aft,none⟩ Any:=by
 refine⟨fun ρ w he hv=>?_⟩
 have hxv:ρ x=.pointer (some ⟨b,off,none⟩):=hv x (by simp[Op.operands]) _ hx
 have hyv:ρ y=v:=hv y (by simp[Op.operands]) _ hy
 have hb':=hb.ext he
 have hc:v.cells = #[v]:=by cases v <;> simp[Value.cells,Value.oneCell'] at h1 ⊢
 have hrun:=run_storeCells_at (P:=P) b off bt [v] 0 cs w hb' (by simp;omega) (by simpa using h1)
 have e:=lp cs off v ho
 simp only[List.length_singleton,Nat.add_zero] at hrun
 rw[e] at hrun
 simp only[OpR,execOp,Sem.run_bind,Instr.storeAt,Instr.sureAddr,hxv,hyv,storeVar,hc,ht.size,hrun,Result.andThen_ok,Sem.run_pure]
 simp[ht.size,hrun]
 exact⟨eb _ _ _,trivial,setRow_heap _ _ _ _ _ _ hb'⟩
end
end Go.Mono
namespace Go.Mono
open Go Go.RowKit

structure fa (P:Program)(w0:World)(S:World→World→Prop)(F:World→Prop)(L:Env)(o:Oper)(A:VA):Prop where
 out:∀ρ w,Ext w0 w→(∀x∈o.op.operands,∀B,opd L x=some B→B.p (ρ x) w)→OpR P o ρ w (fun v w'=>S w w'∧A.p v w'∧F w')
abbrev jA (P:Program)(w0:World)(S:Nat→Prop)(F:World→Prop)(L:Env)(o:Oper)(A:VA):Prop:=fa P w0 (Chg S) F L o A
end Go.Mono
namespace Go.Mono
open Go Go.RowKit
section
variable {P:Program}{w0:World}{L:Env}{dst:Option Tmp}{ty:TypeId}{pos:String}{aft:Array Edge}{S:Nat→Prop}{F:World→Prop}
theorem tu {f:FuncId}{x y:Operand}{tys:Array TypeId}{A B C:VA}(hf:Proofs.Enters P f)(hx:opd L x=some B)(hy:opd L y=some C)
  (h:∀v u w,Ext w0 w→B.p v w→C.p u w→Calls P f #[v,u] w (fun e w'=>∃r,e=.returned r∧Chg S w w'∧A.p r w'∧F w')) :
  jA P w0 S F L ⟨dst,.call ⟨.value (.func f),#[x,y],tys⟩,ty,pos,aft,none⟩ A:=by
 refine⟨fun ρ w he hv=>?_⟩
 have hfv:ρ (.func f)=.func (.func f) #[] #[]:=hv (.func f) (by simp[Op.operands,Call.operands]) _ rfl
 have hrun:(execOp ρ ⟨dst,.call ⟨.value (.func f),#[x,y],tys⟩,ty,pos,aft,none⟩).run P w=.ok (.enter f (#[x,y].map ρ)) w:=by
  simp[execOp,resolve,hfv,Deferred.ofValue,invoke,hf #[ρ x,ρ y] w]
 simp only[OpR,hrun]
 have:=h (ρ x) (ρ y) w he (hv x (by simp[Op.operands,Call.operands]) _ hx) (hv y (by simp[Op.operands,Call.operands]) _ hy)
 simpa using this
def OwA {α:Type}(e:Enc α)(ty:TypeId)(B:Nat)(G:Nat→Prop)(xs:List α):VA:=⟨fun v w=>OwR e ty B G w xs v,fun v w w' k h=>h.ext k⟩
end
end Go.Mono
namespace Go.Mono
open Go Go.RowKit
theorem mH {n:Nat}(h:n≤1000000):(Lit.int .i64 (n:Int)).wf=true:=by
 have h1:IntKind.i64.min = -9223372036854775808:=by decide
 have h2:IntKind.i64.max=9223372036854775807:=by decide
 simp only[Lit.wf,h1,h2,Bool.and_eq_true,decide_eq_true_eq]
 omega
section
variable {P:Program}{k e:TypeId}{w w':World}{b:Nat}{m:Int→Option Int}
theorem aT.ext {n:Nat}(h:aT P k e w b n m)(e':Ext w w'):aT P k e w' b n m:=h.pres (e'.block b h.lt)
theorem aT.gr {n:Nat}(h:aT P k e w b n m){c:Nat}(hg:w.grownBy w' (some c))(hne:b≠c):aT P k e w' b n m:=h.pres (hg.block b h.lt (by simpa using hne))
theorem aT.ch {n:Nat}(h:aT P k e w b n m){S:Nat→Prop}(c:Chg S w w')(hS:¬S b):aT P k e w' b n m:=h.pres (c.block b h.lt hS)
end
section tail
variable {P:Program}{L:Env}{ty:TypeId}{pos:String}{aft:Array Edge}{r:Option Nat}{ds:List Deferred}
variable {ops:Array Oper}{rest:List Oper}{Q:Exit→Act→World→Prop}{n:Nat}{a:Act}{w:World}{x y z:Operand}{k e:TypeId}
theorem tw {t:TypeId}{bm nn:Nat}{m:Int→Option Int}{i c:Int}(hk:P.underlying k=some (.int .i64))(he:P.underlying e=some (.int .i64))(ht:P.underlying t=some (.map k e))(hf:FrD n ds a w L)[hL:AvL bm L](hx:opd L x=some (E (.map (some bm))))
  (hy:opd L y=some (E (.int .i64 i))) (hz:opd L z=some (E (.int .i64 c))) (hM:aT P k e w bm nn m) (hn:nn<maxLen) (hi:(Lit.int .i64 i).wf=true) (hc:(Lit.int .i64 c).wf=true)
  (kk:∀w',w.grownBy w' (some bm)→aT P k e w' bm (nn+1) (fun y=>if y=i then some c else m y)→FrD n ds a w' L→wpListIn (FW r) 0 P ops Q rest a w') :
  wpListIn (FW r) 0 P ops Q (⟨none,.mapUpdate t x y z,ty,pos,aft,none⟩::rest) a w:=
 wpListIn_plain rfl fun K hK=>by
  have hxv:a.eval x=.map (some bm):=hf.opd x _ hx
  have hyv:a.eval y=.int .i64 i:=hf.opd y _ hy
  have hzv:a.eval z=.int .i64 c:=hf.opd z _ hz
  obtain⟨w',h1,h2,h3⟩:=td hM hk he ht hn hi hc
  refine OpR.wp (R:=fun _ w1=>w1=w') ?_ ?_
  ·simp only[OpR,execOp,hxv,hyv,hzv,Sem.run_bind,h1,Result.andThen_ok,Sem.run_pure]
  ·rintro _ w1 rfl
   exact hK _ _ (kk _ h3 h2 (hf.gr h3))
end tail
end Go.Mono
namespace Go.Mono
open Go Go.RowKit
section
variable {P:Program}{w0:World}{L:Env}{dst:Option Tmp}{ty:TypeId}{pos:String}{aft:Array Edge}{g:Option (Nat×Bool)}{t:TypeId}
def B3A (A0 A1 A2:VA):VA:=⟨fun v w=>∃u0 u1 u2,v=.agg #[u0,u1,u2]∧A0.p u0 w∧A1.p u1 w∧A2.p u2 w,fun v w w' e ⟨u0,u1,u2,h,h0,h1,h2⟩=>⟨u0,u1,u2,h,A0.st _ _ _ e h0,A1.st _ _ _ e h1,A2.st _ _ _ e h2⟩⟩
theorem tx {i0 i1 i2:Operand}{A0 A1 A2:VA}(h0:opd L i0=some A0)(h1:opd L i1=some A1)(h2:opd L i2=some A2)(hb:∀u0 u1 u2 w,A0.p u0 w→A1.p u1 w→A2.p u2 w→P.built t [(0,u0),(1,u1),(2,u2)]=some #[u0,u1,u2]) :
  OpC P w0 L ⟨dst,.build t #[(0,i0),(1,i1),(2,i2)],ty,pos,aft,g⟩ (B3A A0 A1 A2):=
 aI fun ρ w he hv=>by
  have a0:=hv i0 (by simp[Op.operands]) _ h0
  have a1:=hv i1 (by simp[Op.operands]) _ h1
  have a2:=hv i2 (by simp[Op.operands]) _ h2
  refine⟨.agg #[ρ i0,ρ i1,ρ i2],?_,_,_,_,rfl,a0,a1,a2⟩
  simp only[execOp,List.map_toArray,List.map_cons,List.map_nil,Sem.run_bind,run_build w t _ _ (by simpa using hb _ _ _ _ a0 a1 a2),Result.andThen_ok,Sem.run_pure]
theorem tA {S:Nat→Prop}{F:World→Prop}{f:FuncId}{x y z u:Operand}{tys:Array TypeId}{A B C D E':VA}(hf:Proofs.Enters P f)(hx:opd L x=some B)(hy:opd L y=some C)(hz:opd L z=some D)(hu:opd L u=some E')
  (h:∀v1 v2 v3 v4 w,Ext w0 w→B.p v1 w→C.p v2 w→D.p v3 w→E'.p v4 w→Calls P f #[v1,v2,v3,v4] w (fun e w'=>∃r,e=.returned r∧Chg S w w'∧A.p r w'∧F w')) :
  jA P w0 S F L ⟨dst,.call ⟨.value (.func f),#[x,y,z,u],tys⟩,ty,pos,aft,none⟩ A:=by
 refine⟨fun ρ w he hv=>?_⟩
 have hfv:ρ (.func f)=.func (.func f) #[] #[]:=hv (.func f) (by simp[Op.operands,Call.operands]) _ rfl
 have hrun:(execOp ρ ⟨dst,.call ⟨.value (.func f),#[x,y,z,u],tys⟩,ty,pos,aft,none⟩).run P w=.ok (.enter f (#[x,y,z,u].map ρ)) w:=by
  simp[execOp,resolve,hfv,Deferred.ofValue,invoke,hf #[ρ x,ρ y,ρ z,ρ u] w]
 simp only[OpR,hrun]
 have:=h (ρ x) (ρ y) (ρ z) (ρ u) w he (hv x (by simp[Op.operands,Call.operands]) _ hx) (hv y (by simp[Op.operands,Call.operands]) _ hy) (hv z (by simp[Op.operands,Call.operands]) _ hz) (hv u (by simp[Op.operands,Call.operands]) _ hu)
 simpa using this
theorem Dv.r1 {α:Type}{e:Enc α}{G:Nat→Prop}{x:α}{v:Value}{w:World}(ha:e.agg=false)(h:(Dv e G x).p v w):e.r G w x [v]:=by
 obtain⟨cs,h1,h2⟩:=h
 have hl:=e.len h1
 rw[e.k1 ha] at hl
 match cs,hl with
 | [u],_=>
  rw[Enc.pack,ha] at h2
  have:v=u:=h2
  rw[this];exact h1
theorem Dv.slF {α:Type}{e:Enc α}{G:Nat→Prop}{xs:List α}{v:Value}{w:World}(h:(Dv (slE e) G xs).p v w):∃ao n c,v=.slice ao n c:=by
 rcases Dv.sl.1 h with ⟨rfl,_⟩|⟨ad,cap,cs,rfl,_⟩
 ·exact⟨_,_,_,rfl⟩
 ·exact⟨_,_,_,rfl⟩
end
theorem tB {z:Array Value}{k n i f:Nat}(hz:z.size=k)(hf:f<k)(hi:i<n):(madeCells z (n * k))[0+i * k+f]?=z[f]?:=by
 have hlt:i * k+f<n * k:=by
  have:(i+1) * k≤n * k:=Nat.mul_le_mul_right _ hi
  rw[Nat.add_mul,Nat.one_mul] at this
  omega
 have hm:(0+i * k+f) % z.size=f:=by rw[hz,Nat.zero_add,Nat.mul_comm,Nat.mul_add_mod];exact Nat.mod_eq_of_lt hf
 have hfz:f<z.size:=by omega
 rw[madeCells,Array.getElem?_map,Array.getElem?_range,if_pos (by omega)]
 simp only[Option.map_some,hm]
 simp[hfz]
end Go.Mono
namespace Go.Mono
open Go Go.RowKit
def AlA (B:Nat)(z:Value)(e:TypeId):VA:=⟨fun v w=>∃b,B≤b∧v=.pointer (some ⟨b,0,none⟩)∧Blk w b z.cells e,fun v w w' k ⟨b,h1,h2,h3⟩=>⟨b,h1,h2,h3.ext k⟩⟩
theorem alD {P:Program}{w0:World}{L:Env}{dst:Option Tmp}{ty:TypeId}{pos:String}{aft:Array Edge}{g:Option (Nat×Bool)}{e:TypeId}{z:Value}{sz bz:Nat}(hz:(P.info? e).map (fun i=>(i.zero,i.size,i.bytes))=some (some z,sz,bz)) :
  OpC P w0 L ⟨dst,.alloc e,ty,pos,aft,g⟩ (AlA w0.heap.size z e):=by
 refine⟨fun ρ w he hv=>?_⟩
 obtain⟨i,hi,hzi,_,_⟩:=info_parts hz
 simp only[OpR,execOp,Instr.alloc,zeroValue,typeInfo,hi,hzi,Sem.run_bind,Sem.run_pure,gd,Result.andThen_ok]
 simp[hi,hzi,gd]
 exact⟨cy _ _,_,he.size,rfl,dZ _ _ _⟩
theorem Blk.ne {w:World}{a b:Nat}{cs cs':Array Value}{t t':TypeId}(h:Blk w a cs t)(h':Blk w b cs' t')(ht:t≠t'):a≠b:=by
 rintro rfl
 unfold Blk at h h'
 rw[h] at h'
 simp at h'
 exact ht h'.2
theorem Blk.neM {P:Program}{w:World}{a b:Nat}{cs:Array Value}{t k e:TypeId}{n:Nat}{m:Int→Option Int}(h:Blk w a cs t)(h':aT P k e w b n m):a≠b:=by
 rintro rfl
 obtain⟨D,⟨es,clock,h3,_⟩,_⟩:=h'
 unfold Blk at h
 rw[h] at h3;cases h3
end Go.Mono
namespace Go.Mono
open Go Go.Proofs Go.RowKit

theorem OwR.neB {α:Type}{e:Enc α}{ty:TypeId}{B:Nat}{G:Nat→Prop}{w:World}{xs:List α}{v:Value}(h:OwR e ty B G w xs v){b:Nat}{cs:Array Value}{t:TypeId}(hb:Blk w b cs t)(ht:t≠ty):v.ownBlock≠some b:=fun hv=>by
 obtain⟨cs',h1,_⟩:=h.own
 rcases h1.2 with ⟨rfl,_⟩|⟨g,cap,cur,rfl,_,hg,_⟩
 ·simp[Value.ownBlock] at hv
 ·simp only[Value.ownBlock,Option.some.injEq] at hv
  subst hv
  exact (Blk.ne hb hg ht) rfl
theorem OwR.neM {α:Type}{e:Enc α}{ty:TypeId}{B:Nat}{G:Nat→Prop}{w:World}{xs:List α}{v:Value}(h:OwR e ty B G w xs v){P:Program}{b n:Nat}{k el:TypeId}{m:Int→Option Int}(hb:aT P k el w b n m):v.ownBlock≠some b:=fun hv=>by
 obtain⟨cs',h1,_⟩:=h.own
 rcases h1.2 with ⟨rfl,_⟩|⟨g,cap,cur,rfl,_,hg,_⟩
 ·simp[Value.ownBlock] at hv
 ·simp only[Value.ownBlock,Option.some.injEq] at hv
  subst hv
  exact (Blk.neM (t:=ty) (cs:=cur) hg hb) rfl
theorem OwR.chE {α:Type}{e:Enc α}[FlE e]{ty:TypeId}{B:Nat}{G:Nat→Prop}{w w':World}{xs:List α}{v:Value}{S:Nat→Prop}(h:OwR e ty B G w xs v)(c:Chg S w w')(hS:∀b,v.ownBlock=some b→¬S b):OwR e ty B G w' xs v:=by
 obtain⟨cs,h1,h2⟩:=h.own
 refine⟨⟨cs,⟨h1.1,?_⟩,Cells.fl h2⟩,h.av,Nat.le_trans h.base c.size⟩
 rcases h1.2 with h3|⟨g,cap,cur,a1,a2,a3,a4⟩
 ·exact .inl h3
 ·refine .inr ⟨g,cap,cur,a1,a2,?_,a4⟩
  rw[c.block g (Array.getElem?_eq_some_iff.1 a3).1 (hS g (by rw[a1];rfl))]
  exact a3
theorem ib {P:Program}{fn:Func}{t u s k:Nat}{R:Ending→World→Prop}{n:Nat}{a:Act}{w:World}{L:Env}{b:Nat}{cs:Array Value}{bt:TypeId}{A:VA}(hr:fn.results = #[.cell t u,.tmp s])(ht:TI P u true k)(hf:Fr n a w L)(h:aA L t=some (E (.pointer (some ⟨b,0,none⟩))))(h':aA L s=some A)
  (hb:Blk w b cs bt) (hs:cs.size=k) (hR:∀x,A.p x w→R (.returned (.tuple #[.agg cs,x])) w):bodyPost P fn R .ret a w:=by
 have hv:a.tmps.getD t undef=.pointer (some ⟨b,0,none⟩):=hf.val t _ h
 have hv':a.tmps[t]?.getD undef=.pointer (some ⟨b,0,none⟩):=by simpa using hv
 obtain⟨d,h1,h2⟩:=ht.u
 have hl:=run_loadVar_row (P:=P) w b bt u cs (0,0) d hb h1 (by cases d <;> simp_all) (by rw[ht.s,hs])
 exact⟨hf.defers,.tuple #[.agg cs,a.eval (.tmp s)],by simp[results,hr,Act.eval,hv',asAddr,hl],hR _ (hf.val s A h')⟩
structure OwX {α:Type}(e:Enc α)(ty:TypeId)(B:Nat)(G:Nat→Prop)(w:World)(xs:List α)(v:Value):Prop where
 own:∃cs,w.ownsRow B ty e.k v xs.length cs∧Cells e (GO G v) w xs cs
 base:B≤w.heap.size
section
variable {α β:Type}{e:Enc α}{ty ty':TypeId}{B B':Nat}{G G':Nat→Prop}{w w':World}{xs:List α}{ys:List β}{v u:Value}
theorem OwX.lt (h:OwX e ty B G w xs v){b:Nat}(hb:v.ownBlock=some b):B≤b∧b<w.heap.size:=by
 obtain⟨cs,h1,_⟩:=h.own
 exact h1.lt b hb
theorem OwX.nil (e:Enc α)(ty:TypeId){B:Nat}(hB:B≤w.heap.size):OwX e ty B G w [] (.slice none 0 0):=
 ⟨⟨[],World.ownsRow_nil _ _ _ _,rfl⟩,hB⟩
theorem OwX.weak (h:OwX e ty B G w xs v)(hG:∀b,b<w.heap.size→G' b→G b):OwX e ty B G' w xs v:=by
 obtain⟨cs,h1,h2⟩:=h.own
 exact⟨⟨cs,h1,h2.weak fun b hb h=>h.imp (hG b hb) id⟩,h.base⟩
theorem OwX.ch (h:OwX e ty B G w xs v){S:Nat→Prop}(c:Chg S w w')(hS:∀b,v.ownBlock=some b→¬S b)(hG:∀b,S b→G b):OwX e ty B G w' xs v:=by
 obtain⟨cs,h1,h2⟩:=h.own
 refine⟨⟨cs,⟨h1.1,?_⟩,h2.pres (fun b hb hn=>c.block b hb fun hs=>hn (.inl (hG b hs))) c.size⟩,Nat.le_trans h.base c.size⟩
 rcases h1.2 with h3|⟨g,cap,cur,a1,a2,a3,a4⟩
 ·exact .inl h3
 ·refine .inr ⟨g,cap,cur,a1,a2,?_,a4⟩
  rw[c.block g (Array.getElem?_eq_some_iff.1 a3).1 (hS g (by rw[a1];rfl))]
  exact a3
theorem OwX.ext (h:OwX e ty B G w xs v)(k:Ext w w'):OwX e ty B G w' xs v:=h.ch (k.chg fun _=>False) (fun _ _ h=>h) fun _ h=>h.elim
instance {B:Nat}:Ug w w' (OwX e ty B G w xs v) (OwX e ty B G w' xs v):=⟨fun e h=>h.ext e⟩
theorem OwX.sl (h:OwX e ty B G w xs v)(hG:∀b,v.ownBlock=some b→¬G' b)(hGG:∀b,b<w.heap.size→G' b→G b):(Dv (slE e) G' xs).p v w:=by
 obtain⟨cs,h1,h2⟩:=h.own
 refine Dv.sl.2 ?_
 rcases h1.2 with ⟨hv,hn⟩|⟨g,cap,cur,hv,hB,hg,hn,hm,hs,ht⟩
 ·exact .inl ⟨hv,List.eq_nil_of_length_eq_zero hn⟩
 ·refine .inr ⟨_,cap,cs,hv,hn,hG _ (by rw[hv];rfl),(Array.getElem?_eq_some_iff.1 hg).1,h2.weak fun b hb h=>.inl (hGG b hb h),h1.cells (by rw[hv];rfl)⟩
theorem OwX.sl0 (h:OwX e ty B G w xs v):(Dv (slE e) G0 xs).p v w:=h.sl (fun _ _ h=>h) fun _ _ h=>h.elim
theorem OwX.one (h:OwX e ty B G w xs v):v.oneCell'=true:=by
 rcases Dv.sl.1 h.sl0 with ⟨rfl,_⟩|⟨ad,cap,cs,rfl,_⟩ <;> rfl
end
section tail
variable {P:Program}{L:Env}{ty:TypeId}{pos:String}{aft:Array Edge}{r:Option Nat}{ds:List Deferred}
variable {ops:Array Oper}{rest:List Oper}{Q:Exit→Act→World→Prop}{n:Nat}{a:Act}{w:World}{x y:Operand}
variable {α:Type}{e:Enc α}{G:Nat→Prop}{xs ys:List α}{v:Value}
theorem fM {S:Nat→Prop}{F:Value→World→Prop}{id:FuncId}{xs:Array Operand}{tys:Array TypeId}{d:Nat}(hf:FrD n ds a w L)[hL:eE S L](hd:d<n)(he:Proofs.Enters P id)
  (h:Calls P id (xs.map a.eval) w (fun e w'=>∃v,e=.returned v∧Chg S w w'∧F v w'))
  (k:∀a' v w',Chg S w w'→F v w'→FrD n ds a' w' ((d,E v)::L)→wpListIn (FW r) 0 P ops Q rest a' w') :
  wpListIn (FW r) 0 P ops Q (⟨some d,.call ⟨.value (.func id),xs,tys⟩,ty,pos,aft,none⟩::rest) a w:=
 wpListIn_plain rfl fun K hK=>by
  have hfv:a.eval (.func id)=.func (.func id) #[] #[]:=rfl
  have hrun:(execOp a.eval ⟨some d,.call ⟨.value (.func id),xs,tys⟩,ty,pos,aft,none⟩).run P w=.ok (.enter id (xs.map a.eval)) w:=by
   have:=he (xs.map a.eval) w
   simp[execOp,resolve,hfv,Deferred.ofValue,invoke,this]
  refine OpR.wp (R:=fun v w'=>Chg S w w'∧F v w') ?_ ?_
  ·simp only[OpR,hrun]
   exact h
  ·rintro v w' ⟨h1,h3⟩
   exact hK _ _ (k _ _ _ h1 h3 ((hf.ch h1).put (d:=some d) (A:=E v) (Ext.rfl' _) (fun k hk=>by cases hk;exact hd) rfl))
end tail
end Go.Mono
namespace Go.Mono
open Go Go.RowKit
def CdP (p:Bool)(A:VA):VA:=⟨fun v w=>(p=true∧A.p v w)∨(p=false∧v=undef),fun v w w' e h=>h.imp (fun h=>⟨h.1,A.st v w w' e h.2⟩) id⟩
instance (row:Option Nat)(p:Bool)(A:VA)[h:AvR row A]:AvR row (CdP p A):=⟨fun v w w' hg hv=>hv.imp (fun hv=>⟨hv.1,h.av v w w' hg hv.2⟩) id⟩
inductive Opn (p:Bool)(L:Env):Env→Prop
 | n:Opn p L []
 | k (t:Nat) {A:VA} {L':Env} (h:aA L t=some A) (r:Opn p L L'):Opn p L ((t,A)::L')
 | c (t:Nat) {q:Bool} {A:VA} {L':Env} (h:aA L t=some (CdP q A)) (hp:p=true→q=true) (r:Opn p L L'):Opn p L ((t,A)::L')
theorem Opn.get {p:Bool}{L L':Env}(h:Opn p L L'):∀t A,aA L' t=some A→∃B,aA L t=some B∧∀v w,p=true→B.p v w→A.p v w:=by
 induction h with
 | n=>intro t A h;simp[aA] at h
 | k t0 h r ih=>
  intro t A hA
  by_cases ht:t0=t
  ·subst ht;rw[cj] at hA;obtain rfl:=Option.some.inj hA;exact⟨_,h,fun _ _ _ h=>h⟩
  ·rw[ck _ _ ht] at hA;exact ih t A hA
 | c t0 h hp r ih=>
  intro t A hA
  by_cases ht:t0=t
  ·subst ht;rw[cj] at hA;obtain rfl:=Option.some.inj hA
   exact⟨_,h,fun v w hpt hB=>by
    rcases hB with ⟨_,hB⟩|⟨hq,_⟩
    ·exact hB
    ·rw[hp hpt] at hq;cases hq⟩
  ·rw[ck _ _ ht] at hA;exact ih t A hA
section
variable {P:Program}{w0:World}{L L':Env}{ty:TypeId}{pos:String}{aft:Array Edge}{ops:Array Oper}{rest:List Oper}{K:Env→Prop}{A:VA}{op:Op}{dd:Nat}
theorem mI {p:Bool}{a:Act}{w:World}{o:Oper}(hL:Opn p L L')(hp:p=true)(hv:∀x∈o.op.operands,∀B,opd L x=some B→B.p (a.eval x) w):∀x∈o.op.operands,∀B,opd L' x=some B→B.p (a.eval x) w:=by
 intro x hx B hB
 cases x with
 | tmp t=>
  obtain⟨C,h1,h2⟩:=hL.get t B hB
  exact h2 _ _ hp (hv _ hx C h1)
 | const v=>exact hv _ hx B hB
 | global g=>exact hv _ hx B hB
 | func f=>exact hv _ hx B hB
theorem sgE {i d:Nat}{want b:Bool}(hd:(ops[i]?).bind (·.dst)=some d)(hl:aA L d=some (E (.bool b)))(hL:Opn (b==want) L L')
  (h:(b==want)=true→OpC P w0 L' ⟨some dd,op,ty,pos,aft,some (i,want)⟩ A) (k:bW P ops w0 rest K ((dd,CdP (b==want) A)::L)):bW P ops w0 (⟨some dd,op,ty,pos,aft,some (i,want)⟩::rest) K L:=
 ⟨CdP (b==want) A,fun a w he hv hgd=>by
  have h1:a.eval (.tmp d)=.bool b:=hgd d _ (by simp[bE,hd]) hl
  have h2:=gT (ops:=ops) hd h1
  cases hb:b==want with
  | true=>
   obtain rfl:b=want:=by simpa using hb
   simp only[Region.wanted,h2,beq_self_eq_true,if_true]
   exact ((h hb).out _ w he (mI hL hb hv)).mono fun v w' ⟨h1,h2⟩=>⟨h1,.inl ⟨rfl,h2⟩⟩
  | false=>
   have h3:(some b==some want)=false:=by cases b <;> cases want <;> simp_all
   simp only[Region.wanted,h2,h3]
   exact .inr ⟨rfl,rfl⟩,k⟩
theorem sgC {i d:Nat}{q want c:Bool}(hd:(ops[i]?).bind (·.dst)=some d)(hl:aA L d=some (CdP q (E (.bool c))))(hL:Opn (q&&c==want) L L')
  (h:(q&&c==want)=true→OpC P w0 L' ⟨some dd,op,ty,pos,aft,some (i,want)⟩ A) (k:bW P ops w0 rest K ((dd,CdP (q&&c==want) A)::L)):bW P ops w0 (⟨some dd,op,ty,pos,aft,some (i,want)⟩::rest) K L:=
 ⟨CdP (q&&c==want) A,fun a w he hv hgd=>by
  have h1:=hgd d _ (by simp[bE,hd]) hl
  rcases h1 with ⟨hq,h1⟩|⟨hq,h1⟩
  ·have h2:=gT (ops:=ops) hd (show a.eval (.tmp d)=.bool c from h1)
   subst hq
   cases hb:c==want with
   | true=>
    have hb':(true&&c==want)=true:=by rw[hb];rfl
    obtain rfl:c=want:=by simpa using hb
    simp only[Region.wanted,h2,beq_self_eq_true,if_true]
    exact ((h hb').out _ w he (mI hL hb' hv)).mono fun v w' ⟨h1,h2⟩=>⟨h1,.inl ⟨rfl,h2⟩⟩
   | false=>
    have h3:(some c==some want)=false:=by cases c <;> cases want <;> simp_all
    simp only[Region.wanted,h2,h3]
    exact .inr ⟨rfl,rfl⟩
  ·subst hq
   have h2:yielded ops a.tmps i=none:=by
    unfold yielded
    rw[hd]
    simp only[Act.eval] at h1
    cases hh:a.tmps[d]? with
    | none=>simp[hh]
    | some v=>simp[hh] at h1;subst h1;simp[hh,undef]
   simp only[Region.wanted,h2]
   exact .inr ⟨rfl,rfl⟩,k⟩
variable {dst:Option Tmp}{g:Option (Nat×Bool)}
theorem aW {c x:Operand}{b q v:Bool}(hc:opd L c=some (E (.bool b)))(hx:opd L x=some (CdP q (E (.bool v))))(hq:b=true→q=true) :
  OpC P w0 L ⟨dst,.pick c x (.const (.bool false)),ty,pos,aft,g⟩ (E (.bool (b&&v))):=by
 refine aI fun ρ w he hv=>?_
 have h1:=opE hv (x:=c) (by simp[Op.operands]) hc
 have h2:=hv x (by simp[Op.operands]) _ hx
 have h3:ρ (.const (.bool false))=.bool false:=hv (.const (.bool false)) (by simp[Op.operands]) _ rfl
 cases hb:b with
 | false=>subst hb;exact⟨_,by simp[execOp,h1,h3,asBool],rfl⟩
 | true=>
  subst hb
  rcases h2 with ⟨_,h2⟩|⟨h2,_⟩
  ·exact⟨_,by simp[execOp,h1,asBool],h2⟩
  ·rw[hq rfl] at h2;cases h2
theorem aY {c x:Operand}{b q v:Bool}(hc:opd L c=some (E (.bool b)))(hx:opd L x=some (CdP q (E (.bool v))))(hq:b=false→q=true) :
  OpC P w0 L ⟨dst,.pick c (.const (.bool true)) x,ty,pos,aft,g⟩ (E (.bool (b || v))):=by
 refine aI fun ρ w he hv=>?_
 have h1:=opE hv (x:=c) (by simp[Op.operands]) hc
 have h2:=hv x (by simp[Op.operands]) _ hx
 have h3:ρ (.const (.bool true))=.bool true:=hv (.const (.bool true)) (by simp[Op.operands]) _ rfl
 cases hb:b with
 | true=>subst hb;exact⟨_,by simp[execOp,h1,h3,asBool],rfl⟩
 | false=>
  subst hb
  rcases h2 with ⟨_,h2⟩|⟨h2,_⟩
  ·exact⟨_,by simp[execOp,h1,asBool],h2⟩
  ·rw[hq rfl] at h2;cases h2
end
theorem dr {P:Program}{r:Option Nat}{ds:List Deferred}{L:Env}{ops:Array Oper}{rest:List Oper}{Q:Exit→Act→World→Prop}{n:Nat}{a:Act}{w:World}{ty:TypeId}{pos:String}{aft:Array Edge}{α:Type}{e:Enc α}{G:Nat→Prop}{z:α}{t:TypeId}{x:Operand}{d:Nat}
  (hf:FrD n ds a w L) (hx:opd L x=some (Dv e G z)) (hd:d<n) (hG:∀b,G b→b<w.heap.size)
  (k:∀a' w',Ext w w'→FrD n ds a' w' ((d,Dv (ptE e) G (some z))::L)→wpListIn (FW r) 0 P ops Q rest a' w') :
  wpListIn (FW r) 0 P ops Q (⟨some d,.box t x,ty,pos,aft,none⟩::rest) a w:=
 aH hf hx hd fun a' b w' v hv e' hb hs hB hf'=>k a' w' e' (by
  obtain⟨cs,h1,rfl⟩:=hv
  have hPt:(Dv (ptE e) G (some z)).p (.pointer (some ⟨b,0,none⟩)) w':=Dv.pt.2 ⟨_,rfl,fun h=>by have:=hG _ h;simp only at this;omega,by simp only;omega,cs,Enc.ext h1 e',fun i u hu=>by
   rw[Enc.pack_cells h1] at hB
   have:(Addr.mk b 0 none).add i=⟨b,i,none⟩:=by simp[Addr.add];intro h;exact h.symm
   rw[this,hB.cell]
   simpa using hu⟩
  exact hf'.weak fun v hv=>by cases hv;exact hPt)
end Go.Mono
namespace Go.Gr
abbrev VT:=Int×(Int×Int)
abbrev ET:=(Int×Int)×(Int×Int)
abbrev DT:=Int×Int×Int×Int×Int
abbrev GT:=List VT×List ET
def lt2 (p q:Int×Int):Bool:=decide (p.1<q.1∨p.1=q.1∧p.2<q.2)
def lt1 (p q:Int):Bool:=decide (p<q)
def bH {γ:Type}(after:γ→Bool)(x:γ)(l:List γ):List γ:=l.takeWhile (fun y => !after y)++x::l.dropWhile (fun y => !after y)
def insV (l:List VT)(x:VT):List VT:=bH (fun y=>lt1 x.1 y.1) x l
def fc (l:List ET)(x:ET):List ET:=bH (fun y=>lt2 x.1 y.1) x l
def ic {α β:Type}[DecidableEq α](lt:α→α→Bool)(l:List (α×β))(k:α)(c:β):List (α×β):=
 if l.any (fun y=>decide (y.1=k)) then l.map (fun y=>if y.1=k then (k,c) else y) else bH (fun y=>lt k y.1) (k,c) l
def pairs (op:Int):Bool:=op==2 || op==3 || op==6 || op==7
def weighs (op:Int):Bool:=op==0 || op==2 || op==5 || op==7
def cu (n:Int):Bool:=decide (0≤n)&&decide (n<1024)
def heavy (n:Int):Bool:=decide (n < -1048576) || decide (1048576<n)
def inV (l:List VT)(n:Int):Bool:=l.any fun y=>decide (y.1=n)
def ends (u v:Int):Int×Int:=(min u v,max u v)
def inE (l:List ET)(u v:Int):Bool:=l.any fun y=>decide (y.1=ends u v)
def tests (g:GT)(d:DT):List (Bool×Int):=
 let (op,u,v,_,x):=d
 [(decide (op<0) || decide (8≤op),11),
  ((!cu u) || (pairs op && !cu v) || (weighs op&&heavy x),2),
  (pairs op&&u==v,15),
  (op==0&&inV g.1 u,7),
  ((op != 0 && !pairs op && !inV g.1 u) || (op==2 && !(inV g.1 u&&inV g.1 v)),9),
  (pairs op&&op != 2 && !inE g.2 u v,9),
  (op==2&&inE g.2 u v,7),
  (op==2&&decide ((1024:Int)≤(g.2.length:Nat)),8)]
def cw:List (Bool×Int)→Int
 | []=>0
 | (b,c)::r=>if b then c else cw r
def aN (g:GT)(d:DT):Int:=cw (tests g d)
def doM (g:GT)(d:DT):GT:=
 if d.1=0 then (ic lt1 g.1 d.2.1 d.2.2.2,g.2) else if d.1=2 then (g.1,ic lt2 g.2 (ends d.2.1 d.2.2.1) d.2.2.2) else g
structure Ok (g:GT):Prop where
 sv:g.1.Pairwise fun a b=>lt1 a.1 b.1=true
 se:g.2.Pairwise fun a b=>lt2 a.1 b.1=true
 rv:∀x∈g.1,cu x.1=true∧(0≤x.2.1∧x.2.1<256)∧heavy x.2.2=false
 re:∀x∈g.2,x.1.1<x.1.2∧inV g.1 x.1.1=true∧inV g.1 x.1.2=true∧(0≤x.2.1∧x.2.1<256)∧heavy x.2.2=false
 ne:g.2.length≤1024
theorem mJ {γ:Type}(after:γ→Bool)(x:γ)(l:List γ)(h:∀y∈l,after y=false):bH after x l=l++[x]:=by
 unfold bH
 induction l with
 | nil=>rfl
 | cons y r ih=>
  have hy:=h y (by simp)
  simp only[List.takeWhile_cons,List.dropWhile_cons,hy,Bool.not_false,if_true,List.cons_append]
  rw[ih fun z hz=>h z (by simp[hz])]
theorem mK {α β:Type}[DecidableEq α](lt:α→α→Bool)(l:List (α×β))(k:α)(c:β)(h:∀y∈l,y.1≠k∧lt k y.1=false):ic lt l k c=l++[(k,c)]:=by
 unfold ic
 rw[if_neg]
 ·exact mJ _ _ _ fun y hy=>(h y hy).2
 ·simp only[List.any_eq_true,decide_eq_true_eq,not_exists,not_and]
  exact fun y hy=>(h y hy).1
theorem tC (a:Int×Int):lt2 a a=false:=by simp[lt2]
theorem fe {a b:Int×Int}(h:lt2 a b=true):lt2 b a=false∧a≠b:=by
 obtain⟨a1,a2⟩:=a;obtain⟨b1,b2⟩:=b
 simp only[lt2,decide_eq_true_eq,decide_eq_false_iff_not] at *
 exact⟨by omega,fun h'=>by simp only[Prod.mk.injEq] at h';omega⟩
theorem mL {a b c:Int×Int}(h:lt2 a b=true)(k:lt2 b c=true):lt2 a c=true:=by
 simp only[lt2,decide_eq_true_eq] at *;omega
theorem tD {a b:Int×Int}(h:lt2 a b=false)(k:a≠b):lt2 b a=true:=by
 obtain⟨a1,a2⟩:=a;obtain⟨b1,b2⟩:=b
 simp only[lt2,decide_eq_true_eq,decide_eq_false_iff_not,ne_eq,Prod.mk.injEq] at *;omega
theorem gw {a b:Int}(h:lt1 a b=true):lt1 b a=false∧a≠b:=by
 simp only[lt1,decide_eq_true_eq,decide_eq_false_iff_not] at *;omega
theorem mM {a b c:Int}(h:lt1 a b=true)(k:lt1 b c=true):lt1 a c=true:=by
 simp only[lt1,decide_eq_true_eq] at *;omega
theorem tE {a b:Int}(h:lt1 a b=false)(k:a≠b):lt1 b a=true:=by
 simp only[lt1,decide_eq_true_eq,decide_eq_false_iff_not] at *;omega
def dV (x:VT):DT:=(0,x.1,0,x.2)
def dE (x:ET):DT:=(2,x.1.1,x.1.2,x.2)
theorem before {γ:Type}{R:γ→γ→Prop}{l:List γ}(h:l.Pairwise R){i:Nat}{x:γ}(hx:l[i]?=some x):∀y∈l.take i,R y x:=by
 intro y hy
 obtain⟨j,hj,rfl⟩:=List.getElem_of_mem hy
 obtain⟨hi,rfl⟩:=List.getElem?_eq_some_iff.1 hx
 simp only[List.length_take] at hj
 rw[List.getElem_take]
 exact List.pairwise_iff_getElem.1 h _ _ (by omega) hi (by omega)
theorem dM {γ:Type}{l:List γ}{i:Nat}{x:γ}(hx:l[i]?=some x):l.take (i+1)=l.take i++[x]:=by
 rw[List.take_add_one,hx];rfl
theorem mN {u v:Int}(h:u<v):ends u v=(u,v):=by
 simp only[ends,Prod.mk.injEq];omega
theorem stepV {g:GT}(G:Ok g){i:Nat}{x:VT}(hx:g.1[i]?=some x):aN (g.1.take i,[]) (dV x)=0∧doM (g.1.take i,[]) (dV x)=(g.1.take (i+1),[]):=by
 have hb:=before G.sv hx
 obtain⟨h1,h2,h3⟩:=G.rv x (List.mem_of_getElem? hx)
 have hin:inV (g.1.take i) x.1=false:=by
  simp only[inV,List.any_eq_false,decide_eq_true_eq]
  exact fun y hy=>(gw (hb y hy)).2
 constructor
 ·simp[aN,tests,dV,cw,pairs,weighs,h1,h3,hin]
 ·simp only[doM,dV,if_true]
  rw[mK _ _ _ _ fun y hy=>⟨(gw (hb y hy)).2,(gw (hb y hy)).1⟩,dM hx]
theorem tF {g:GT}(G:Ok g){i:Nat}{x:ET}(hx:g.2[i]?=some x):aN (g.1,g.2.take i) (dE x)=0∧doM (g.1,g.2.take i) (dE x)=(g.1,g.2.take (i+1)):=by
 have hb:=before G.se hx
 obtain⟨h1,h2,h3,h4,h5⟩:=G.re x (List.mem_of_getElem? hx)
 have hid:∀n,inV g.1 n=true→cu n=true:=fun n hn=>by
  simp only[inV,List.any_eq_true,decide_eq_true_eq] at hn
  obtain⟨y,hy,rfl⟩:=hn
  exact (G.rv y hy).1
 have he:ends x.1.1 x.1.2=x.1:=mN h1
 have hin:inE (g.2.take i) x.1.1 x.1.2=false:=by
  simp only[inE,he,List.any_eq_false,decide_eq_true_eq]
  exact fun y hy=>(fe (hb y hy)).2
 have hil:i<g.2.length:=(List.getElem?_eq_some_iff.1 hx).1
 have hn:=G.ne
 have h6:¬(x.1.1=x.1.2):=by omega
 have h7:¬((1024:Int)≤((g.2.take i).length:Nat)):=by simp only[List.length_take];omega
 constructor
 ·simp only[aN,tests,dE,cw,pairs,weighs,hid _ h2,hid _ h3,h5,h2,h3,hin,h6,h7]
  simp[h6]
 ·simp only[doM,dE]
  rw[if_neg (by decide),if_pos trivial,he,mK _ _ _ _ fun y hy=>⟨(fe (hb y hy)).2,(fe (hb y hy)).1⟩,dM hx]
end Go.Gr
namespace Go.Gr
section
variable {γ:Type}(after:γ→Bool)(x:γ)(l:List γ)
def du (k:Nat):List γ:=if (l.take k).any after then bH after x (l.take k) else l.take k
theorem tG {m:List γ}(h:m.any after=true)(r:List γ):bH after x (m++r)=bH after x m++r:=by
 induction m with
 | nil=>simp at h
 | cons y m ih=>
  unfold bH
  by_cases hy:after y=true
  ·simp[List.takeWhile_cons,List.dropWhile_cons,hy]
  ·have hy':after y=false:=by simpa using hy
   have h':m.any after=true:=by simpa[hy'] using h
   have:=ih h'
   unfold bH at this
   simp only[List.cons_append,List.takeWhile_cons,List.dropWhile_cons,hy',Bool.not_false,if_true]
   rw[this]
theorem mO {k:Nat}{y:γ}(h:l[k]?=some y):du after x l (k+1)=(if (!(l.take k).any after&&after y)=true then du after x l k++[x] else du after x l k)++[y]:=by
 unfold du
 rw[dM h,List.any_append]
 cases h1:(l.take k).any after with
 | true=>simp[tG after x h1]
 | false=>
  cases h2:after y with
  | true=>
   simp only[List.any_cons,List.any_nil,h2,Bool.or_false,Bool.or_true,if_true,Bool.not_false,Bool.and_self,Bool.false_eq_true,if_false]
   have hn:∀z∈l.take k,after z=false:=by simpa using h1
   have e1:(l.take k++[y]).takeWhile (fun y => !after y)=l.take k:=by
    rw[List.takeWhile_append_of_pos (fun z hz=>by simp[hn z hz])];simp[h2]
   have e2:(l.take k++[y]).dropWhile (fun y => !after y)=[y]:=by
    rw[List.dropWhile_append_of_pos (fun z hz=>by simp[hn z hz])];simp[h2]
   rw[bH,e1,e2];simp
  | false=>simp[h2]
theorem mP {k:Nat}{y:γ}(h:l[k]?=some y):(l.take (k+1)).any after=((l.take k).any after || after y):=by
 rw[dM h,List.any_append];simp
theorem mQ:(if l.any after then du after x l l.length else du after x l l.length++[x])=bH after x l:=by
 unfold du
 rw[List.take_length]
 cases h:l.any after with
 | true=>simp
 | false=>simp only[Bool.false_eq_true,if_false];rw[mJ after x l (by simpa using h)]
theorem mR (k:Nat):(du after x l k).length≤l.length+1:=by
 unfold du bH
 split
 ·have:=congrArg List.length (List.takeWhile_append_dropWhile (p:=fun y => !after y) (l:=l.take k))
  simp only[List.length_append,List.length_cons,List.length_take] at *
  omega
 ·simp only[List.length_take];omega
end
end Go.Gr
namespace Go.Gr
def keepV (d:DT)(x:VT):Option VT:=if (x.1==d.2.1&&d.1==1)=true then none else some (x.1,(if (x.1==d.2.1&&d.1==4)=true then d.2.2.2.1 else x.2.1),(if (x.1==d.2.1&&d.1==5)=true then d.2.2.2.2 else x.2.2))
def bN (d:DT)(at':Int)(i:Nat)(x:ET):Option ET:=
 if ((d.1==1&&(x.1.1==d.2.1 || x.1.2==d.2.1)) || (d.1==3&&(i:Int)==at'))=true then none else some (x.1,(if ((i:Int)==at'&&d.1==6)=true then d.2.2.2.1 else x.2.1),(if ((i:Int)==at'&&d.1==7)=true then d.2.2.2.2 else x.2.2))
def bq (d:DT)(at':Int):Nat→List ET→List ET
 | _,[]=>[]
 | i,x::r=>(bN d at' i x).toList++bq d at' (i+1) r
theorem mT (d:DT)(at':Int):∀(i:Nat) (l m:List ET),bq d at' i (l++m)=bq d at' i l++bq d at' (i+l.length) m
 | i,[],m=>by simp[bq]
 | i,x::r,m=>by rw[List.cons_append,bq,mT d at' (i+1) r m,bq,List.append_assoc,List.length_cons];congr 3;omega
theorem tH (d:DT)(at':Int){l:List ET}{k:Nat}{x:ET}(h:l[k]?=some x):bq d at' 0 (l.take (k+1))=bq d at' 0 (l.take k)++(bN d at' k x).toList:=by
 rw[dM h,mT]
 have:0+(l.take k).length=k:=by have:=(List.getElem?_eq_some_iff.1 h).1;simp;omega
 rw[this,bq,bq,List.append_nil]
theorem ie (d:DT)(at':Int):∀(i:Nat) (l:List ET),(bq d at' i l).length≤l.length
 | _,[]=>Nat.le_refl _
 | i,x::r=>by
  have:=ie d at' (i+1) r
  have h2:(bN d at' i x).toList.length≤1:=by cases bN d at' i x <;> simp
  rw[bq,List.length_append,List.length_cons];omega
theorem tI (d:DT){l:List VT}{k:Nat}{x:VT}(h:l[k]?=some x):(l.take (k+1)).filterMap (keepV d)=(l.take k).filterMap (keepV d)++(keepV d x).toList:=by
 rw[dM h,List.filterMap_append];cases h:keepV d x <;> simp[h]
end Go.Gr
namespace Go.Gr
theorem jB {γ:Type}{lt:γ→γ→Bool}:∀{xs l:List γ},xs.Perm l→l.Pairwise (fun x y=>lt x y=true)→xs.Pairwise (fun x y=>lt y x=false)→xs=l
 | [],l,hp,_,_=>hp.symm.eq_nil.symm▸rfl
 | x::r,[],hp,_,_=>absurd hp.eq_nil (by simp)
 | x::r,y::s,hp,hl,hx=>by
  obtain⟨l1,l2⟩:=List.pairwise_cons.1 hl
  obtain⟨x1,x2⟩:=List.pairwise_cons.1 hx
  have hxy:x=y:=by
   have hy:y∈x::r:=hp.mem_iff.2 (by simp)
   have hx':x∈y::s:=hp.mem_iff.1 (by simp)
   rcases List.mem_cons.1 hy with h|h
   ·exact h.symm
   ·rcases List.mem_cons.1 hx' with h'|h'
    ·exact h'
    ·have h2:=l1 x h'
     have h3:=x1 y h
     rw[h2] at h3;cases h3
  subst hxy
  rw[jB ((List.perm_cons x).1 hp) l2 x2]
end Go.Gr
namespace Go.Mono
open Go Go.RowKit Go.Gr
def u8E:Enc Int:=ef 1 false (fun n=>[.int .u8 n]) (by decide) (fun _=>rfl) (fun _=>rfl) (fun x u hu=>by simp at hu;subst hu;rfl)
instance:FlE u8E:=⟨fun h=>h⟩
def thE:Enc (Int×Int):=prE u8E ap
def vtE:Enc VT:=prE ap thE
def edE:Enc (Int×Int):=prE ap ap
def etE:Enc ET:=prE edE thE
def dtE:Enc DT:=prE ap (prE ap (prE ap thE))
def gtE:Enc GT:=prE (slE vtE) (slE etE)
instance:FlE thE:=inferInstanceAs (FlE (prE u8E ap))
instance:FlE vtE:=inferInstanceAs (FlE (prE ap thE))
instance:FlE edE:=inferInstanceAs (FlE (prE ap ap))
instance:FlE etE:=inferInstanceAs (FlE (prE edE thE))
instance:FlE dtE:=inferInstanceAs (FlE (prE ap (prE ap (prE ap thE))))
def vtV (x:VT):Value:=.agg #[.int .i64 x.1,.int .u8 x.2.1,.int .i64 x.2.2]
def etV (x:ET):Value:=.agg #[.int .i64 x.1.1,.int .i64 x.1.2,.int .u8 x.2.1,.int .i64 x.2.2]
def dtV (x:DT):Value:=.agg #[.int .i64 x.1,.int .i64 x.2.1,.int .i64 x.2.2.1,.int .u8 x.2.2.2.1,.int .i64 x.2.2.2.2]
section
variable {G:Nat→Prop}{v:Value}{w:World}
theorem Dv.u8 {n:Int}:(Dv u8E G n).p v w↔v=.int .u8 n:=⟨fun⟨cs,h,hv⟩=>by cases h;exact hv,fun h=>⟨_,rfl,h⟩⟩
theorem Dv.vt {x:VT}:(Dv vtE G x).p v w↔v=vtV x:=
 ⟨fun⟨cs,⟨c,d,h,h1,c2,d2,h2,h3,h4⟩,hv⟩=>by cases h1;cases h3;cases h4;subst h2;subst h;exact hv,fun h=>⟨_,⟨_,_,rfl,rfl,_,_,rfl,rfl,rfl⟩,h⟩⟩
theorem Dv.et {x:ET}:(Dv etE G x).p v w↔v=etV x:=
 ⟨fun⟨cs,⟨c,d,h,⟨c1,d1,h1,h1a,h1b⟩,c2,d2,h2,h3,h4⟩,hv⟩=>by cases h1a;cases h1b;cases h3;cases h4;subst h1;subst h2;subst h;exact hv,fun h=>⟨_,⟨_,_,rfl,⟨_,_,rfl,rfl,rfl⟩,_,_,rfl,rfl,rfl⟩,h⟩⟩
theorem Dv.dt {x:DT}:(Dv dtE G x).p v w↔v=dtV x:=
 ⟨fun⟨cs,⟨c,d,h,h1,c2,d2,h2,h3,c3,d3,h4,h5,c4,d4,h6,h7,h8⟩,hv⟩=>by cases h1;cases h3;cases h5;cases h7;cases h8;subst h6;subst h4;subst h2;subst h;exact hv,fun h=>⟨_,⟨_,_,rfl,rfl,_,_,rfl,rfl,_,_,rfl,rfl,_,_,rfl,rfl,rfl⟩,h⟩⟩
theorem Dv.gt {g:GT}:(Dv gtE G g).p v w↔∃u1 u2,v=.agg #[u1,u2]∧(Dv (slE vtE) G g.1).p u1 w∧(Dv (slE etE) G g.2).p u2 w:=by
 constructor
 ·rintro⟨cs,⟨c,d,h,h1,h2⟩,hv⟩
  have l1:=(slE vtE).len h1
  have l2:=(slE etE).len h2
  match c,l1,d,l2 with
  | [u1],_,[u2],_=>exact⟨u1,u2,by subst h;exact hv,⟨_,h1,rfl⟩,⟨_,h2,rfl⟩⟩
 ·rintro⟨u1,u2,rfl,h1,h2⟩
  exact⟨[u1,u2],⟨[u1],[u2],rfl,Dv.r1 rfl h1,Dv.r1 rfl h2⟩,rfl⟩
end
section
variable {P:Program}{w0:World}{L:Env}{dst:Option Tmp}{ty:TypeId}{pos:String}{aft:Array Edge}{g:Option (Nat×Bool)}{t:TypeId}{G:Nat→Prop}{x:Operand}
theorem ev {n:VT}(ht:TI P t true 3)(hx:Is L w0 x (Dv (ptE vtE) G (some n))):OpC P w0 L ⟨dst,.load t x,ty,pos,aft,g⟩ (E (vtV n)):=(ldD (e:=vtE) ht hx).conv fun v w=>Dv.vt.1
theorem eH {n:ET}(ht:TI P t true 4)(hx:Is L w0 x (Dv (ptE etE) G (some n))):OpC P w0 L ⟨dst,.load t x,ty,pos,aft,g⟩ (E (etV n)):=(ldD (e:=etE) ht hx).conv fun v w=>Dv.et.1
theorem gx {n:DT}(ht:TI P t true 5)(hx:Is L w0 x (Dv (ptE dtE) G (some n))):OpC P w0 L ⟨dst,.load t x,ty,pos,aft,g⟩ (E (dtV n)):=(ldD (e:=dtE) ht hx).conv fun v w=>Dv.dt.1
theorem eI {n:VT}(h:opd L x=some (E (vtV n))):Is L w0 x (Dv vtE G n):=isE h (Dv.vt.2 rfl)
theorem eJ {n:ET}(h:opd L x=some (E (etV n))):Is L w0 x (Dv etE G n):=isE h (Dv.et.2 rfl)
theorem bh {fs:Array (Nat×Operand)}(vs:List (Nat×Value)){cs:Array Value}(hv:fs.toList.map (fun p=>(p.1,opd L p.2))=vs.map (fun p=>(p.1,some (E p.2))))(hb:P.built t vs=some cs) :
  OpC P w0 L ⟨dst,.build t fs,ty,pos,aft,g⟩ (E (.agg cs)):=
 aI fun ρ w _ h=>by
  have key:∀(l:List (Nat×Operand)) (us:List (Nat×Value)),(∀p∈l,p∈fs)→l.map (fun p=>(p.1,opd L p.2))=us.map (fun p=>(p.1,some (E p.2)))→l.map (fun p=>(p.1,ρ p.2))=us:=by
   intro l
   induction l with
   | nil=>intro us _ hu;cases us with
    | nil=>rfl
    | cons _ _=>simp at hu
   | cons p r ih=>
    intro us hm hu
    cases us with
    | nil=>simp at hu
    | cons q us=>
     simp only[List.map_cons,List.cons.injEq,Prod.mk.injEq] at hu
     obtain⟨⟨h1,h2⟩,h3⟩:=hu
     have hp:p.2∈(Op.build t fs).operands:=by simp only[Op.operands,List.mem_toArray,List.mem_map];exact⟨p,by simpa using hm p (by simp),rfl⟩
     have h4:ρ p.2=q.2:=h p.2 hp _ h2
     rw[List.map_cons,ih us (fun z hz=>hm z (by simp[hz])) h3,h1,h4]
  have hk:(fs.map fun p=>(p.1,ρ p.2)).toList=vs:=by rw[Array.toList_map];exact key fs.toList vs (fun p hp=>by simpa using hp) hv
  exact⟨_,by simp only[execOp,Sem.run_bind,run_build w t _ cs (by rw[hk];exact hb),Result.andThen_ok,Sem.run_pure],rfl⟩
variable {i0 i1 i2 i3 i4:Operand}
theorem mU (x:VT)(hb:P.built t [(0,.int .i64 x.1),(1,.int .u8 x.2.1),(2,.int .i64 x.2.2)]=some #[.int .i64 x.1,.int .u8 x.2.1,.int .i64 x.2.2])(h0:opd L i0=some (E (.int .i64 x.1)))(h1:opd L i1=some (E (.int .u8 x.2.1)))(h2:opd L i2=some (E (.int .i64 x.2.2))) :
  OpC P w0 L ⟨dst,.build t #[(0,i0),(1,i1),(2,i2)],ty,pos,aft,g⟩ (E (vtV x)):=bh _ (by simp only[List.map_cons,List.map_nil,h0,h1,h2]) hb
theorem mV (x:ET)(hb:P.built t [(0,.int .i64 x.1.1),(1,.int .i64 x.1.2),(2,.int .u8 x.2.1),(3,.int .i64 x.2.2)]=some #[.int .i64 x.1.1,.int .i64 x.1.2,.int .u8 x.2.1,.int .i64 x.2.2])(h0:opd L i0=some (E (.int .i64 x.1.1)))(h1:opd L i1=some (E (.int .i64 x.1.2)))(h2:opd L i2=some (E (.int .u8 x.2.1)))(h3:opd L i3=some (E (.int .i64 x.2.2))) :
  OpC P w0 L ⟨dst,.build t #[(0,i0),(1,i1),(2,i2),(3,i3)],ty,pos,aft,g⟩ (E (etV x)):=bh _ (by simp only[List.map_cons,List.map_nil,h0,h1,h2,h3]) hb
theorem tJ (x:DT)(hx:x.2.2.1=0)(hb:P.built t [(0,.int .i64 x.1),(1,.int .i64 x.2.1),(3,.int .u8 x.2.2.2.1),(4,.int .i64 x.2.2.2.2)]=some #[.int .i64 x.1,.int .i64 x.2.1,.int .i64 0,.int .u8 x.2.2.2.1,.int .i64 x.2.2.2.2])(h0:opd L i0=some (E (.int .i64 x.1)))(h1:opd L i1=some (E (.int .i64 x.2.1)))(h2:opd L i2=some (E (.int .u8 x.2.2.2.1)))(h3:opd L i3=some (E (.int .i64 x.2.2.2.2))) :
  OpC P w0 L ⟨dst,.build t #[(0,i0),(1,i1),(3,i2),(4,i3)],ty,pos,aft,g⟩ (E (dtV x)):=by
 have:dtV x=.agg #[.int .i64 x.1,.int .i64 x.2.1,.int .i64 0,.int .u8 x.2.2.2.1,.int .i64 x.2.2.2.2]:=by rw[dtV,hx]
 rw[this]
 exact bh _ (by simp only[List.map_cons,List.map_nil,h0,h1,h2,h3]) hb
theorem tK (x:DT)(hb:P.built t [(0,.int .i64 x.1),(1,.int .i64 x.2.1),(2,.int .i64 x.2.2.1),(3,.int .u8 x.2.2.2.1),(4,.int .i64 x.2.2.2.2)]=some #[.int .i64 x.1,.int .i64 x.2.1,.int .i64 x.2.2.1,.int .u8 x.2.2.2.1,.int .i64 x.2.2.2.2])(h0:opd L i0=some (E (.int .i64 x.1)))(h1:opd L i1=some (E (.int .i64 x.2.1)))(h2:opd L i2=some (E (.int .i64 x.2.2.1)))(h3:opd L i3=some (E (.int .u8 x.2.2.2.1)))(h4:opd L i4=some (E (.int .i64 x.2.2.2.2))) :
  OpC P w0 L ⟨dst,.build t #[(0,i0),(1,i1),(2,i2),(3,i3),(4,i4)],ty,pos,aft,g⟩ (E (dtV x)):=bh _ (by simp only[List.map_cons,List.map_nil,h0,h1,h2,h3,h4]) hb
end
theorem OwR.neLt {α:Type}{e:Enc α}{ty:TypeId}{B:Nat}{G:Nat→Prop}{w:World}{xs:List α}{v:Value}(h:OwR e ty B G w xs v){b:Nat}(hb:b<B):v.ownBlock≠some b:=fun hv=>by
 have:=(h.lt hv).1;omega
theorem FrD.opn {n:Nat}{ds:List Deferred}{a:Act}{w:World}{L:Env}{A:VA}(h:FrD n ds a w L)(k:Nat)(hk:aA L k=some A):∃v,A.p v w∧FrD n ds a w ((k,E v)::L):=
 ⟨a.eval (.tmp k),h.val k A hk,⟨h.size,h.defers,fun t B ht=>by
  by_cases hkt:k=t
  ·subst hkt;rw[cj] at ht;obtain rfl:=Option.some.inj ht;rfl
  ·rw[ck _ _ hkt] at ht;exact h.val t B ht⟩⟩
theorem Dv.grN {α:Type}{e:Enc α}{G:Nat→Prop}{x:α}{v:Value}{w w':World}{row:Option Nat}(h:(Dv e G x).p v w)(hg:w.grownBy w' row)(hG:∀b,row=some b→G b):(Dv e G x).p v w':=by
 obtain⟨cs,h1,h2⟩:=h
 exact⟨cs,Enc.gro h1 hg hG,h2⟩
theorem OwR.low {α:Type}{e:Enc α}{ty:TypeId}{B B':Nat}{G:Nat→Prop}{w:World}{xs:List α}{v:Value}(h:OwR e ty B G w xs v)(hB:B'≤B)(hG:∀b,G b→b<B'):OwR e ty B' G w xs v:=by
 obtain⟨⟨cs,⟨h1,h2⟩,h3⟩,h4,h5⟩:=h
 refine⟨⟨cs,⟨h1,?_⟩,h3⟩,hG,Nat.le_trans hB h5⟩
 rcases h2 with h2|⟨g,cap,cur,k1,k2,k3⟩
 ·exact .inl h2
 ·exact .inr ⟨g,cap,cur,k1,Nat.le_trans hB k2,k3⟩
end Go.Mono
namespace Go.Mono
open Go Go.Proofs Go.RowKit Go.ChangeShapes Go.WideShapes Go.Gr

theorem mW:Tryz.prog.cellsOf 26=5:=by kernel_rfl
theorem tL:Tryz.prog.cellsOf 5=1:=by kernel_rfl
def edC (d:DT):List Value:=[I d.1,I d.2.1,I d.2.2.1,.int .u8 d.2.2.2.1,I d.2.2.2.2]
def ig (d:DT):Prop:=0≤d.2.2.2.1∧d.2.2.2.1<256
def edW (d:DT):Prop:=(Lit.int .i64 d.2.1).wf=true∧(Lit.int .i64 d.2.2.1).wf=true∧(Lit.int .u8 d.2.2.2.1).wf=true∧(Lit.int .i64 d.2.2.2.2).wf=true
theorem tM {z:Int}(h:(Lit.int .u8 z).wf=true):0≤z∧z<256:=by
 have h1:IntKind.u8.min=0:=by decide
 have h2:IntKind.u8.max=255:=by decide
 simp only[Lit.wf,h1,h2,Bool.and_eq_true,decide_eq_true_eq] at h
 omega
theorem gy {cs:List Value}{j:Nat}{v:Value}(h:(cs.drop j).take 1=[v]):cs[j]?=some v:=by
 have h3:=congrArg (fun l:List Value=>l[0]?) h
 simp only[List.getElem?_cons_zero] at h3
 rw[List.getElem?_take,if_pos (by decide),List.getElem?_drop,Nat.add_zero] at h3
 exact h3
section
variable {H:Type}{enc:TypeId×Value→H}{w:World}{base:Nat}{spare:Nat→Bool}{held:Bool}
theorem mX {n:Nat}{cs:List Value}{x:DataW H×List MemPlace}(h:DataW.trod enc Tryz.prog w base spare held n 26 cs=some x):∃d:DT,cs=edC d∧ig d∧edW d:=by
 obtain⟨xs,m,_,_,hl,hlen,hf⟩:=DataW.trod_struct U26 h
 rw[mW] at hl
 have hx:∀i,i<5→∃y,xs[i]?=some y:=fun i hi=>⟨_,List.getElem?_eq_getElem (by rw[hlen];exact hi)⟩
 obtain⟨y0,e0⟩:=hx 0 (by decide)
 obtain⟨y1,e1⟩:=hx 1 (by decide)
 obtain⟨y2,e2⟩:=hx 2 (by decide)
 obtain⟨y3,e3⟩:=hx 3 (by decide)
 obtain⟨y4,e4⟩:=hx 4 (by decide)
 have h0:=hf 0 _ rfl
 have h1:=hf 1 _ rfl
 have h2:=hf 2 _ rfl
 have h3:=hf 3 _ rfl
 have h4:=hf 4 _ rfl
 rw[e0] at h0;rw[e1] at h1;rw[e2] at h2;rw[e3] at h3;rw[e4] at h4
 change DataW.trod enc Tryz.prog w base spare held m 3 ((cs.drop 0).take (Tryz.prog.cellsOf 3))=some y0 at h0
 change DataW.trod enc Tryz.prog w base spare held m 3 ((cs.drop 1).take (Tryz.prog.cellsOf 3))=some y1 at h1
 change DataW.trod enc Tryz.prog w base spare held m 3 ((cs.drop 2).take (Tryz.prog.cellsOf 3))=some y2 at h2
 change DataW.trod enc Tryz.prog w base spare held m 5 ((cs.drop 3).take (Tryz.prog.cellsOf 5))=some y3 at h3
 change DataW.trod enc Tryz.prog w base spare held m 3 ((cs.drop 4).take (Tryz.prog.cellsOf 3))=some y4 at h4
 rw[mq] at h0 h1 h2 h4
 rw[tL] at h3
 obtain⟨z0,q0,_,_⟩:=DataW.trod_int U3 h0
 obtain⟨z1,q1,_,wf1⟩:=DataW.trod_int U3 h1
 obtain⟨z2,q2,_,wf2⟩:=DataW.trod_int U3 h2
 obtain⟨z3,q3,_,hwf⟩:=DataW.trod_int U5 h3
 obtain⟨z4,q4,_,wf4⟩:=DataW.trod_int U3 h4
 refine⟨(z0,z1,z2,z3,z4),List.ext_getElem? fun j=>?_,tM hwf,wf1,wf2,hwf,wf4⟩
 match j with
 | 0=>rw[gy q0];rfl
 | 1=>rw[gy q1];rfl
 | 2=>rw[gy q2];rfl
 | 3=>rw[gy q3];rfl
 | 4=>rw[gy q4];rfl
 | j+5=>
  rw[List.getElem?_eq_none (by omega),List.getElem?_eq_none]
  show 5≤j+5
  omega
theorem tO {P:Program}{t:TypeId}{fs:Array Field}(ht:P.underlying t=some (.struct fs)){r:Reach}{b0:Nat}{v:Value}(h:Value.okWide P w r b0 t v):∃cs,v=.agg cs:=by
 simp only[Value.okWide,ht] at h
 obtain⟨cs,h1,_⟩:=h
 exact⟨cs,h1⟩
set_option maxRecDepth 100000 in
theorem open_ed {v:Value}{d:DataW H}{ps:List MemPlace}{b0:Nat}(hok:Value.okWide Tryz.prog w .any b0 26 v)(h:DataW.Trod enc Tryz.prog w 0 spare held 26 v d ps):∃d,v=dtV d∧ig d∧edW d:=by
 obtain⟨fuel,hf⟩:=h
 obtain⟨cs,rfl⟩:=tO U26 hok
 have hf:DataW.trod enc Tryz.prog w 0 spare held fuel 26 cs.toList=some (d,ps):=hf
 obtain⟨b,h1,h2⟩:=mX hf
 exact⟨b,congrArg Value.agg (Array.toList_inj.1 h1),h2⟩
theorem mY {a:Addr}{f:Nat→DT}:∀(n s:Nat),(∀i,s≤i→i<s+n→∀j u,(edC (f i))[j]?=some u→w.cell? (a.add (i * 5+j))=some u)→∀j u,(((List.range' s n).map f).flatMap edC)[j]?=some u→w.cell? (a.add (s * 5+j))=some u
 | 0,s,h,j,u,hu=>by simp at hu
 | n+1,s,h,j,u,hu=>by
  have hln:(edC (f s)).length=5:=rfl
  rw[List.range'_succ,List.map_cons,List.flatMap_cons] at hu
  by_cases hj:j<5
  ·rw[List.getElem?_append_left (by rw[hln];exact hj)] at hu
   exact h s (Nat.le_refl _) (by omega) j u hu
  ·rw[List.getElem?_append_right (by rw[hln];omega),hln] at hu
   have:=mY n (s+1) (fun i h1 h2=>h i (by omega) (by omega)) (j - 5) u hu
   rwa [show (s+1) * 5+(j - 5)=s * 5+j by omega] at this
theorem mZ {G:Nat→Prop}:∀l:List DT,Cells dtE G w l (l.flatMap edC)
 | []=>rfl
 | d::l=>⟨edC d,_,rfl,⟨[I d.1],[I d.2.1,I d.2.2.1,.int .u8 d.2.2.2.1,I d.2.2.2.2],rfl,rfl,[I d.2.1],[I d.2.2.1,.int .u8 d.2.2.2.1,I d.2.2.2.2],rfl,rfl,[I d.2.2.1],[.int .u8 d.2.2.2.1,I d.2.2.2.2],rfl,rfl,[.int .u8 d.2.2.2.1],[I d.2.2.2.2],rfl,rfl,rfl⟩,mZ l⟩
set_option maxRecDepth 100000 in
theorem open_eds {v:Value}{d:DataW H}{ps:List MemPlace}{b0:Nat}(hok:Value.okWide Tryz.prog w .any b0 24 v)(h:DataW.Trod enc Tryz.prog w 0 spare held 24 v d ps):∃l:List DT,(Dv (slE dtE) G0 l).p v w∧∀d∈l,ig d:=by
 obtain⟨fuel,hf⟩:=h
 obtain⟨a0,n0,c0,rfl⟩:=okWide_slice U24 hok
 rcases Deep.open_slice U24 hf with ⟨hcs,_⟩|⟨a,len,cap,m,n,D,Pl,hcs,_,hlc,_,hm,_,hall⟩
 ·simp[Value.cells] at hcs
  obtain⟨rfl,rfl,rfl⟩:=hcs
  exact⟨[],Dv.nil,by simp⟩
 ·simp[Value.cells] at hcs
  obtain⟨rfl,rfl,rfl⟩:=hcs
  have hlm:n0≤m:=by rw[hm];split <;> omega
  have each:∀i,i<n0→∃b:DT,ig b∧∀j u,(edC b)[j]?=some u→w.cell? (a.add (i * 5+j))=some u:=by
   intro i hi
   obtain⟨cs',h1,h2⟩:=hall i (by omega)
   rw[mW] at h1
   obtain⟨_,hlen,hcell⟩:=World.cells?_some h1
   obtain⟨b,rfl,hb,_⟩:=mX h2
   refine⟨b,hb,fun j u hu=>?_⟩
   have hj:j<5:=(List.getElem?_eq_some_iff.1 hu).1
   have:=hcell j hj
   rw[Deep.add_add] at this
   rw[this];exact hu
  obtain⟨f,hf'⟩:=Deep.choose_lt each
  by_cases h0:n0=0
  ·subst h0
   have hb:a.block<w.heap.size:=by
    have h1:Cell.ok Tryz.prog w .any b0 24 (.slice (some a) 0 c0):=by
     have:=hok
     simpa[Value.okWide,Cell.okWide,U24] using this
    have h2:0≤c0∧(c0:Int)≤IntKind.i64.max∧w.has Tryz.prog .any b0 a 26 c0:=by
     simpa[Cell.ok,U24] using h1
    have h3:=h2.2.2.2.2
    obtain⟨row,h3⟩:=h3
    obtain⟨cells,h3⟩:=h3
    have h4:=h3.1
    apply Classical.byContradiction
    intro hn
    have:w.heap[a.block]?=none:=Array.getElem?_eq_none (by omega)
    simp[World.shape?,this] at h4
   exact⟨[],Dv.sl.2 (.inr ⟨a,c0,[],rfl,by simp,fun hg=>hg.elim,hb,rfl,fun j u hu=>by simp at hu⟩),by simp⟩
  ·refine⟨(List.range n0).map f,Dv.sl.2 (.inr ⟨a,c0,((List.range n0).map f).flatMap edC,by simp,by simpa using hlc,fun hg=>hg.elim,?_,mZ _,fun j u hu=>?_⟩),?_⟩
   ·have:=(hf' 0 (by omega)).2 0 (I (f 0).1) rfl
    have:=World.block_lt_of_cell? w _ this
    simpa[eX] using this
   ·rw[List.range_eq_range'] at hu
    have:=mY (w:=w) (a:=a) (f:=f) n0 0 (fun i _ hi j u hu=>(hf' i (by omega)).2 j u hu) j u hu
    simpa using this
   ·intro d hd
    obtain⟨i,hi,rfl⟩:=List.mem_map.1 hd
    exact (hf' i (List.mem_range.1 hi)).1
end
end Go.Mono
namespace Go.Mono
open Go Go.Proofs Go.RowKit
theorem na (S T:BS)(W:World):Calls Tryz.prog 66 #[au S,au T] W (Post (E (au (S |||T))) W):=by
 refine enter (args:=[au S,au T]) (As:=[E (au S),E (au T)]) Tryz.func66 rfl Tryz.ntmps66 (Nat.le_of_ble_eq_true rfl) ?_ (fun a hf=>?_) (Nat.le_of_ble_eq_true rfl)
 rotate_left
 dsimp only[params,Nat.reduceAdd] at hf
 rotate_right
 ·exact arg2 rfl rfl
 have e:=Ext.rfl' W
 refine seq ?_
 refine ah ?_
 refine aH hf rfl (by decide) fun a b2 w v2 hv2 e' hb2 hs2 B2 hf=>?_
 have hle2:=Nat.le_trans e.size (Nat.le_of_eq hb2.symm)
 replace e:=e.tr e'
 clear e'
 refine aH hf rfl (by decide) fun a b3 w v3 hv3 e' hb3 hs3 B3 hf=>?_
 have hle3:=Nat.le_trans e.size (Nat.le_of_eq hb3.symm)
 have lt3_B2:=B2.lt
 replace e:=e.tr e'
 replace B2:=B2.ext e'
 clear e'
 refine aJ I56 hf (by decide) fun a b4 w e' hb4 hs4 B4 hf=>?_
 have hle4:=Nat.le_trans e.size (Nat.le_of_eq hb4.symm)
 have lt4_B2:=B2.lt
 have lt4_B3:=B3.lt
 replace e:=e.tr e'
 replace B2:=B2.ext e'
 replace B3:=B3.ext e'
 refine aa ?_
 subst hv2
 subst hv3
 rw[dh] at B2 B3
 simp only[Value.cells,cV] at B4
 repeat refine seq ?_
 refine ac 1 hf (by decide +kernel) ?_
 refine st (mv rfl) ?_
 refine en fun a w e' hf=>?_
 replace e:=e.tr e'
 replace B2:=B2.ext e'
 replace B3:=B3.ext e'
 replace B4:=B4.ext e'
 refine aa ?_
 replace hf:=hf.kp [2,3,4,6]
 refine blk (aG (fun r a w=>∃k:Nat,r=16 - k∧k≤16∧Fr 19 a w [(2,E (.pointer (some ⟨b2,0,none⟩))),(3,E (.pointer (some ⟨b3,0,none⟩))),(4,E (.pointer (some ⟨b4,0,none⟩))),(6,E (I k))]∧Ext W w ∧
  Blk w b2 (aQ fun i=>if i<k then an S i ||| an T i else an S i) 56∧Blk w b3 (aM T) 56∧Blk w b4 (aM 0) 56) 16 ⟨0,rfl,by omega,hf,e,?_,B3,B4⟩ ?_)
 ·simpa[aM] using B2
 clear hf e B2 B3 B4
 rintro r a w ⟨k,rfl,hk,hf,e,B2,B3,B4⟩
 by_cases hlt:k<16
 ·refine seq ?_
  refine ac 1 hf (by decide +kernel) ?_
  refine st ((lss rfl rfl).eq (congrArg Value.bool (show decide ((k:Int)<16)=true from decide_eq_true (by omega)))) ?_
  refine en fun a w e' hf=>?_
  replace e:=e.tr e'
  replace B2:=B2.ext e'
  replace B3:=B3.ext e'
  replace B4:=B4.ext e'
  refine aa ?_
  refine seq ?_
  refine ifc hf rfl (fun _=>ak ?_) (fun h=>by cases h)
  refine seq ?_
  refine blk ?_
  refine seq ?_
  refine ac 1 hf (by decide +kernel) ?_
  refine st (mv rfl) ?_
  refine en fun a w e' hf=>?_
  replace e:=e.tr e'
  replace B2:=B2.ext e'
  replace B3:=B3.ext e'
  replace B4:=B4.ext e'
  refine ae hf rfl (by decide) fun a hf=>?_
  refine aa ?_
  have g2:(aQ fun i=>if i<k then an S i ||| an T i else an S i)[k]?=some (Mono.W (an S k)):=by rw[cg _ _ hlt];simp
  refine reg 8 Mix.mix hf (by decide +kernel) ?_
  refine st (mv rfl) ?_
  refine st (ce U56 ⟨_,T54⟩ rfl rfl (by omega)) ?_
  refine st (ld1 T54 rfl B2 (by simpa using g2)) ?_
  refine st (mv rfl) ?_
  refine st (ce U56 ⟨_,T54⟩ rfl rfl (by omega)) ?_
  refine st (ld1 T54 rfl B3 (by simpa[aM] using cg (an T) k hlt)) ?_
  refine st (orW rfl rfl) ?_
  refine st (ce U56 ⟨_,T54⟩ rfl rfl (by omega)) ?_
  refine en fun a w e' hf=>?_
  replace e:=e.tr e'
  replace B2:=B2.ext e'
  replace B3:=B3.ext e'
  replace B4:=B4.ext e'
  clear e'
  refine aP T54 hf rfl rfl rfl B2 (by rw[eD];simp;omega) fun w hg hsz B2 hf=>?_
  replace e:=e.gr hg (by omega)
  replace B3:=B3.gr hg (by omega)
  replace B4:=B4.gr hg (by omega)
  clear hg
  refine aa ?_
  replace B2:Blk w b2 (aQ fun i=>if i<k+1 then an S i ||| an T i else an S i) 56:=by
   have:(aQ fun i=>if i<k then an S i ||| an T i else an S i).setIfInBounds k (Mono.W (an S k ||| an T k))=aQ fun i=>if i<k+1 then an S i ||| an T i else an S i:=by
    rw[gl]
    refine dD fun i hi=>?_
    by_cases h1:i=k
    ·subst h1;simp
    ·simp only[h1,if_false]
     by_cases h2:i<k
     ·simp[h2,show i<k+1 by omega]
     ·simp[h2,show ¬i<k+1 by omega]
   rw[← this]
   simpa using B2
  replace hf:=hf.kp [2,3,4,6]
  refine ac 1 hf (by decide +kernel) ?_
  refine st (add rfl rfl (by omega)) ?_
  refine en fun a w e' hf=>?_
  replace e:=e.tr e'
  replace B2:=B2.ext e'
  replace B3:=B3.ext e'
  replace B4:=B4.ext e'
  clear e'
  refine ar hf (by decide) (mv rfl) fun a w e' hf=>?_
  replace e:=e.tr e'
  replace B2:=B2.ext e'
  replace B3:=B3.ext e'
  replace B4:=B4.ext e'
  refine aa ?_
  replace hf:=hf.kp [2,3,4,6]
  exact⟨16 - (k+1),by omega,k+1,rfl,by omega,by simpa using hf,e,B2,B3,B4⟩
 ·obtain rfl:k=16:=by omega
  refine seq ?_
  refine ac 1 hf (by decide +kernel) ?_
  refine st ((lss rfl rfl).eq (congrArg Value.bool (show decide (((16:Nat):Int)<16)=false from rfl))) ?_
  refine en fun a w e' hf=>?_
  replace e:=e.tr e'
  replace B2:=B2.ext e'
  replace B3:=B3.ext e'
  replace B4:=B4.ext e'
  refine aa ?_
  refine seq ?_
  refine ifc hf rfl (fun h=>by cases h) (fun _=>aF ?_)
  simp only[Exit.then,Exit.inBlock,↓reduceIte]
  have hC:(aQ fun i=>if i<16 then an S i ||| an T i else an S i)=aM (S |||T):=dD fun i hi=>by
   simp only[hi,if_true,ji]
  rw[hC] at B2
  refine seq ?_
  refine ac 1 hf (by decide +kernel) ?_
  refine st (ldW T56 rfl (by assumption) rfl) ?_
  refine en fun a w e' hf=>?_
  replace e:=e.tr e'
  replace B2:=B2.ext e'
  replace B3:=B3.ext e'
  replace B4:=B4.ext e'
  clear e'
  haveI hinr:∀G0,InR (GB W G0) (some b4):=fun G0=>InR.gb (by omega)
  refine aD T56 hf rfl rfl (bL _) B4 rfl (rfl) fun w hg hsz B4 hf=>?_
  replace e:=e.gr hg (by omega)
  replace B2:=B2.gr hg (by omega)
  replace B3:=B3.gr hg (by omega)
  clear hg
  refine aa ?_
  refine aj (dH rfl T56 hf rfl B4 e rfl)

theorem tP (S T:BS)(W:World):Calls Tryz.prog 86 #[au S,au T] W (Post (E (au (S &&&T))) W):=by
 refine enter (args:=[au S,au T]) (As:=[E (au S),E (au T)]) Tryz.func86 rfl Tryz.ntmps86 (Nat.le_of_ble_eq_true rfl) ?_ (fun a hf=>?_) (Nat.le_of_ble_eq_true rfl)
 rotate_left
 dsimp only[params,Nat.reduceAdd] at hf
 rotate_right
 ·exact arg2 rfl rfl
 have e:=Ext.rfl' W
 refine seq ?_
 refine ah ?_
 refine aH hf rfl (by decide) fun a b2 w v2 hv2 e' hb2 hs2 B2 hf=>?_
 have hle2:=Nat.le_trans e.size (Nat.le_of_eq hb2.symm)
 replace e:=e.tr e'
 clear e'
 refine aH hf rfl (by decide) fun a b3 w v3 hv3 e' hb3 hs3 B3 hf=>?_
 have hle3:=Nat.le_trans e.size (Nat.le_of_eq hb3.symm)
 have lt3_B2:=B2.lt
 replace e:=e.tr e'
 replace B2:=B2.ext e'
 clear e'
 refine aJ I56 hf (by decide) fun a b4 w e' hb4 hs4 B4 hf=>?_
 have hle4:=Nat.le_trans e.size (Nat.le_of_eq hb4.symm)
 have lt4_B2:=B2.lt
 have lt4_B3:=B3.lt
 replace e:=e.tr e'
 replace B2:=B2.ext e'
 replace B3:=B3.ext e'
 refine aa ?_
 subst hv2
 subst hv3
 rw[dh] at B2 B3
 simp only[Value.cells,cV] at B4
 repeat refine seq ?_
 refine ac 1 hf (by decide +kernel) ?_
 refine st (mv rfl) ?_
 refine en fun a w e' hf=>?_
 replace e:=e.tr e'
 replace B2:=B2.ext e'
 replace B3:=B3.ext e'
 replace B4:=B4.ext e'
 refine aa ?_
 replace hf:=hf.kp [2,3,4,6]
 refine blk (aG (fun r a w=>∃k:Nat,r=16 - k∧k≤16∧Fr 19 a w [(2,E (.pointer (some ⟨b2,0,none⟩))),(3,E (.pointer (some ⟨b3,0,none⟩))),(4,E (.pointer (some ⟨b4,0,none⟩))),(6,E (I k))]∧Ext W w ∧
  Blk w b2 (aQ fun i=>if i<k then an S i &&& an T i else an S i) 56∧Blk w b3 (aM T) 56∧Blk w b4 (aM 0) 56) 16 ⟨0,rfl,by omega,hf,e,?_,B3,B4⟩ ?_)
 ·simpa[aM] using B2
 clear hf e B2 B3 B4
 rintro r a w ⟨k,rfl,hk,hf,e,B2,B3,B4⟩
 by_cases hlt:k<16
 ·refine seq ?_
  refine ac 1 hf (by decide +kernel) ?_
  refine st ((lss rfl rfl).eq (congrArg Value.bool (show decide ((k:Int)<16)=true from decide_eq_true (by omega)))) ?_
  refine en fun a w e' hf=>?_
  replace e:=e.tr e'
  replace B2:=B2.ext e'
  replace B3:=B3.ext e'
  replace B4:=B4.ext e'
  refine aa ?_
  refine seq ?_
  refine ifc hf rfl (fun _=>ak ?_) (fun h=>by cases h)
  refine seq ?_
  refine blk ?_
  refine seq ?_
  refine ac 1 hf (by decide +kernel) ?_
  refine st (mv rfl) ?_
  refine en fun a w e' hf=>?_
  replace e:=e.tr e'
  replace B2:=B2.ext e'
  replace B3:=B3.ext e'
  replace B4:=B4.ext e'
  refine ae hf rfl (by decide) fun a hf=>?_
  refine aa ?_
  have g2:(aQ fun i=>if i<k then an S i &&& an T i else an S i)[k]?=some (Mono.W (an S k)):=by rw[cg _ _ hlt];simp
  refine reg 8 Mix.mix hf (by decide +kernel) ?_
  refine st (mv rfl) ?_
  refine st (ce U56 ⟨_,T54⟩ rfl rfl (by omega)) ?_
  refine st (ld1 T54 rfl B2 (by simpa using g2)) ?_
  refine st (mv rfl) ?_
  refine st (ce U56 ⟨_,T54⟩ rfl rfl (by omega)) ?_
  refine st (ld1 T54 rfl B3 (by simpa[aM] using cg (an T) k hlt)) ?_
  refine st (ec rfl rfl) ?_
  refine st (ce U56 ⟨_,T54⟩ rfl rfl (by omega)) ?_
  refine en fun a w e' hf=>?_
  replace e:=e.tr e'
  replace B2:=B2.ext e'
  replace B3:=B3.ext e'
  replace B4:=B4.ext e'
  clear e'
  refine aP T54 hf rfl rfl rfl B2 (by rw[eD];simp;omega) fun w hg hsz B2 hf=>?_
  replace e:=e.gr hg (by omega)
  replace B3:=B3.gr hg (by omega)
  replace B4:=B4.gr hg (by omega)
  clear hg
  refine aa ?_
  replace B2:Blk w b2 (aQ fun i=>if i<k+1 then an S i &&& an T i else an S i) 56:=by
   have:(aQ fun i=>if i<k then an S i &&& an T i else an S i).setIfInBounds k (Mono.W (an S k &&& an T k))=aQ fun i=>if i<k+1 then an S i &&& an T i else an S i:=by
    rw[gl]
    refine dD fun i hi=>?_
    by_cases h1:i=k
    ·subst h1;simp
    ·simp only[h1,if_false]
     by_cases h2:i<k
     ·simp[h2,show i<k+1 by omega]
     ·simp[h2,show ¬i<k+1 by omega]
   rw[← this]
   simpa using B2
  replace hf:=hf.kp [2,3,4,6]
  refine ac 1 hf (by decide +kernel) ?_
  refine st (add rfl rfl (by omega)) ?_
  refine en fun a w e' hf=>?_
  replace e:=e.tr e'
  replace B2:=B2.ext e'
  replace B3:=B3.ext e'
  replace B4:=B4.ext e'
  clear e'
  refine ar hf (by decide) (mv rfl) fun a w e' hf=>?_
  replace e:=e.tr e'
  replace B2:=B2.ext e'
  replace B3:=B3.ext e'
  replace B4:=B4.ext e'
  refine aa ?_
  replace hf:=hf.kp [2,3,4,6]
  exact⟨16 - (k+1),by omega,k+1,rfl,by omega,by simpa using hf,e,B2,B3,B4⟩
 ·obtain rfl:k=16:=by omega
  refine seq ?_
  refine ac 1 hf (by decide +kernel) ?_
  refine st ((lss rfl rfl).eq (congrArg Value.bool (show decide (((16:Nat):Int)<16)=false from rfl))) ?_
  refine en fun a w e' hf=>?_
  replace e:=e.tr e'
  replace B2:=B2.ext e'
  replace B3:=B3.ext e'
  replace B4:=B4.ext e'
  refine aa ?_
  refine seq ?_
  refine ifc hf rfl (fun h=>by cases h) (fun _=>aF ?_)
  simp only[Exit.then,Exit.inBlock,↓reduceIte]
  have hC:(aQ fun i=>if i<16 then an S i &&& an T i else an S i)=aM (S &&&T):=dD fun i hi=>by
   simp only[hi,if_true,sc]
  rw[hC] at B2
  refine seq ?_
  refine ac 1 hf (by decide +kernel) ?_
  refine st (ldW T56 rfl (by assumption) rfl) ?_
  refine en fun a w e' hf=>?_
  replace e:=e.tr e'
  replace B2:=B2.ext e'
  replace B3:=B3.ext e'
  replace B4:=B4.ext e'
  clear e'
  haveI hinr:∀G0,InR (GB W G0) (some b4):=fun G0=>InR.gb (by omega)
  refine aD T56 hf rfl rfl (bL _) B4 rfl (rfl) fun w hg hsz B4 hf=>?_
  replace e:=e.gr hg (by omega)
  replace B2:=B2.gr hg (by omega)
  replace B3:=B3.gr hg (by omega)
  clear hg
  refine aa ?_
  refine aj (dH rfl T56 hf rfl B4 e rfl)

theorem jC (S T:BS)(W:World):Calls Tryz.prog 46 #[au S,au T] W (Post (E (au (S &&& ~~~T))) W):=by
 refine enter (args:=[au S,au T]) (As:=[E (au S),E (au T)]) Tryz.func46 rfl Tryz.ntmps46 (Nat.le_of_ble_eq_true rfl) ?_ (fun a hf=>?_) (Nat.le_of_ble_eq_true rfl)
 rotate_left
 dsimp only[params,Nat.reduceAdd] at hf
 rotate_right
 ·exact arg2 rfl rfl
 have e:=Ext.rfl' W
 refine seq ?_
 refine ah ?_
 refine aH hf rfl (by decide) fun a b2 w v2 hv2 e' hb2 hs2 B2 hf=>?_
 have hle2:=Nat.le_trans e.size (Nat.le_of_eq hb2.symm)
 replace e:=e.tr e'
 clear e'
 refine aH hf rfl (by decide) fun a b3 w v3 hv3 e' hb3 hs3 B3 hf=>?_
 have hle3:=Nat.le_trans e.size (Nat.le_of_eq hb3.symm)
 have lt3_B2:=B2.lt
 replace e:=e.tr e'
 replace B2:=B2.ext e'
 clear e'
 refine aJ I56 hf (by decide) fun a b4 w e' hb4 hs4 B4 hf=>?_
 have hle4:=Nat.le_trans e.size (Nat.le_of_eq hb4.symm)
 have lt4_B2:=B2.lt
 have lt4_B3:=B3.lt
 replace e:=e.tr e'
 replace B2:=B2.ext e'
 replace B3:=B3.ext e'
 refine aa ?_
 subst hv2
 subst hv3
 rw[dh] at B2 B3
 simp only[Value.cells,cV] at B4
 repeat refine seq ?_
 refine ac 1 hf (by decide +kernel) ?_
 refine st (mv rfl) ?_
 refine en fun a w e' hf=>?_
 replace e:=e.tr e'
 replace B2:=B2.ext e'
 replace B3:=B3.ext e'
 replace B4:=B4.ext e'
 refine aa ?_
 replace hf:=hf.kp [2,3,4,6]
 refine blk (aG (fun r a w=>∃k:Nat,r=16 - k∧k≤16∧Fr 19 a w [(2,E (.pointer (some ⟨b2,0,none⟩))),(3,E (.pointer (some ⟨b3,0,none⟩))),(4,E (.pointer (some ⟨b4,0,none⟩))),(6,E (I k))]∧Ext W w ∧
  Blk w b2 (aQ fun i=>if i<k then an S i &&& ~~~an T i else an S i) 56∧Blk w b3 (aM T) 56∧Blk w b4 (aM 0) 56) 16 ⟨0,rfl,by omega,hf,e,?_,B3,B4⟩ ?_)
 ·simpa[aM] using B2
 clear hf e B2 B3 B4
 rintro r a w ⟨k,rfl,hk,hf,e,B2,B3,B4⟩
 by_cases hlt:k<16
 ·refine seq ?_
  refine ac 1 hf (by decide +kernel) ?_
  refine st ((lss rfl rfl).eq (congrArg Value.bool (show decide ((k:Int)<16)=true from decide_eq_true (by omega)))) ?_
  refine en fun a w e' hf=>?_
  replace e:=e.tr e'
  replace B2:=B2.ext e'
  replace B3:=B3.ext e'
  replace B4:=B4.ext e'
  refine aa ?_
  refine seq ?_
  refine ifc hf rfl (fun _=>ak ?_) (fun h=>by cases h)
  refine seq ?_
  refine blk ?_
  refine seq ?_
  refine ac 1 hf (by decide +kernel) ?_
  refine st (mv rfl) ?_
  refine en fun a w e' hf=>?_
  replace e:=e.tr e'
  replace B2:=B2.ext e'
  replace B3:=B3.ext e'
  replace B4:=B4.ext e'
  refine ae hf rfl (by decide) fun a hf=>?_
  refine aa ?_
  have g2:(aQ fun i=>if i<k then an S i &&& ~~~an T i else an S i)[k]?=some (Mono.W (an S k)):=by rw[cg _ _ hlt];simp
  refine reg 8 Mix.mix hf (by decide +kernel) ?_
  refine st (mv rfl) ?_
  refine st (ce U56 ⟨_,T54⟩ rfl rfl (by omega)) ?_
  refine st (ld1 T54 rfl B2 (by simpa using g2)) ?_
  refine st (mv rfl) ?_
  refine st (ce U56 ⟨_,T54⟩ rfl rfl (by omega)) ?_
  refine st (ld1 T54 rfl B3 (by simpa[aM] using cg (an T) k hlt)) ?_
  refine st (lq rfl rfl) ?_
  refine st (ce U56 ⟨_,T54⟩ rfl rfl (by omega)) ?_
  refine en fun a w e' hf=>?_
  replace e:=e.tr e'
  replace B2:=B2.ext e'
  replace B3:=B3.ext e'
  replace B4:=B4.ext e'
  clear e'
  refine aP T54 hf rfl rfl rfl B2 (by rw[eD];simp;omega) fun w hg hsz B2 hf=>?_
  replace e:=e.gr hg (by omega)
  replace B3:=B3.gr hg (by omega)
  replace B4:=B4.gr hg (by omega)
  clear hg
  refine aa ?_
  replace B2:Blk w b2 (aQ fun i=>if i<k+1 then an S i &&& ~~~an T i else an S i) 56:=by
   have:(aQ fun i=>if i<k then an S i &&& ~~~an T i else an S i).setIfInBounds k (Mono.W (an S k &&& ~~~an T k))=aQ fun i=>if i<k+1 then an S i &&& ~~~an T i else an S i:=by
    rw[gl]
    refine dD fun i hi=>?_
    by_cases h1:i=k
    ·subst h1;simp
    ·simp only[h1,if_false]
     by_cases h2:i<k
     ·simp[h2,show i<k+1 by omega]
     ·simp[h2,show ¬i<k+1 by omega]
   rw[← this]
   simpa using B2
  replace hf:=hf.kp [2,3,4,6]
  refine ac 1 hf (by decide +kernel) ?_
  refine st (add rfl rfl (by omega)) ?_
  refine en fun a w e' hf=>?_
  replace e:=e.tr e'
  replace B2:=B2.ext e'
  replace B3:=B3.ext e'
  replace B4:=B4.ext e'
  clear e'
  refine ar hf (by decide) (mv rfl) fun a w e' hf=>?_
  replace e:=e.tr e'
  replace B2:=B2.ext e'
  replace B3:=B3.ext e'
  replace B4:=B4.ext e'
  refine aa ?_
  replace hf:=hf.kp [2,3,4,6]
  exact⟨16 - (k+1),by omega,k+1,rfl,by omega,by simpa using hf,e,B2,B3,B4⟩
 ·obtain rfl:k=16:=by omega
  refine seq ?_
  refine ac 1 hf (by decide +kernel) ?_
  refine st ((lss rfl rfl).eq (congrArg Value.bool (show decide (((16:Nat):Int)<16)=false from rfl))) ?_
  refine en fun a w e' hf=>?_
  replace e:=e.tr e'
  replace B2:=B2.ext e'
  replace B3:=B3.ext e'
  replace B4:=B4.ext e'
  refine aa ?_
  refine seq ?_
  refine ifc hf rfl (fun h=>by cases h) (fun _=>aF ?_)
  simp only[Exit.then,Exit.inBlock,↓reduceIte]
  have hC:(aQ fun i=>if i<16 then an S i &&& ~~~an T i else an S i)=aM (S &&& ~~~T):=dD fun i hi=>by
   simp only[hi,if_true,md]
  rw[hC] at B2
  refine seq ?_
  refine ac 1 hf (by decide +kernel) ?_
  refine st (ldW T56 rfl (by assumption) rfl) ?_
  refine en fun a w e' hf=>?_
  replace e:=e.tr e'
  replace B2:=B2.ext e'
  replace B3:=B3.ext e'
  replace B4:=B4.ext e'
  clear e'
  haveI hinr:∀G0,InR (GB W G0) (some b4):=fun G0=>InR.gb (by omega)
  refine aD T56 hf rfl rfl (bL _) B4 rfl (rfl) fun w hg hsz B4 hf=>?_
  replace e:=e.gr hg (by omega)
  replace B2:=B2.gr hg (by omega)
  replace B3:=B3.gr hg (by omega)
  clear hg
  refine aa ?_
  refine aj (dH rfl T56 hf rfl B4 e rfl)

theorem nb (S:BS)(W:World):Calls Tryz.prog 87 #[au S] W (Post (E (B (S==0))) W):=by
 refine enter (args:=[au S]) (As:=[E (au S)]) Tryz.func87 rfl Tryz.ntmps87 (Nat.le_of_ble_eq_true rfl) ?_ (fun a hf=>?_) (Nat.le_of_ble_eq_true rfl)
 rotate_left
 dsimp only[params,Nat.reduceAdd] at hf
 rotate_right
 ·exact arg1 rfl
 have e:=Ext.rfl' W
 refine seq ?_
 refine ah ?_
 refine aH hf rfl (by decide) fun a b1 w v1 hv1 e' hb1 hs1 B1 hf=>?_
 have hle1:=Nat.le_trans e.size (Nat.le_of_eq hb1.symm)
 replace e:=e.tr e'
 refine ae hf rfl (by decide) fun a hf=>?_
 refine aa ?_
 subst hv1
 simp only[dh] at B1
 refine seq ?_
 refine ac 3 hf (by decide +kernel) ?_
 refine st (ldW T56 rfl (by assumption) rfl) ?_
 refine st ((sx qC).eq (sp)) ?_
 refine st (eqS (S:=S) (T:=0) U56 U54 T54 (by kernel_rfl) rfl rfl) ?_
 refine en fun a w e' hf=>?_
 replace e:=e.tr e'
 replace B1:=B1.ext e'
 refine ae hf rfl (by decide) fun a hf=>?_
 refine aa ?_
 refine aj (al rfl hf rfl ?_)
 rintro v rfl
 exact⟨_,rfl,e,rfl⟩

theorem tQ (S T:BS)(W:World):Calls Tryz.prog 68 #[au S,au T] W (Post (E (B (S &&& ~~~T==0))) W):=by
 refine enter (args:=[au S,au T]) (As:=[E (au S),E (au T)]) Tryz.func68 rfl Tryz.ntmps68 (Nat.le_of_ble_eq_true rfl) ?_ (fun a hf=>?_) (Nat.le_of_ble_eq_true rfl)
 rotate_left
 dsimp only[params,Nat.reduceAdd] at hf
 rotate_right
 ·exact arg2 rfl rfl
 have e:=Ext.rfl' W
 refine seq ?_
 refine ah ?_
 refine aH hf rfl (by decide) fun a b2 w v2 hv2 e' hb2 hs2 B2 hf=>?_
 have hle2:=Nat.le_trans e.size (Nat.le_of_eq hb2.symm)
 replace e:=e.tr e'
 clear e'
 refine aH hf rfl (by decide) fun a b3 w v3 hv3 e' hb3 hs3 B3 hf=>?_
 have hle3:=Nat.le_trans e.size (Nat.le_of_eq hb3.symm)
 have lt3_B2:=B2.lt
 replace e:=e.tr e'
 replace B2:=B2.ext e'
 refine ae hf rfl (by decide) fun a hf=>?_
 refine aa ?_
 subst hv2
 subst hv3
 simp only[dh] at B2 B3
 refine seq ?_
 refine ac 4 hf (by decide +kernel) ?_
 refine st (ldW T56 rfl (by assumption) rfl) ?_
 refine st (ldW T56 rfl (by assumption) rfl) ?_
 refine st (ax iX rfl rfl (fun v u w _ h h'=>by cases h;cases h';exact jC S T w)) ?_
 refine st (aw lT rfl (fun v w _ h=>by cases h;exact nb _ w)) ?_
 refine en fun a w e' hf=>?_
 replace e:=e.tr e'
 replace B2:=B2.ext e'
 replace B3:=B3.ext e'
 refine ae hf rfl (by decide) fun a hf=>?_
 refine aa ?_
 refine aj (al rfl hf rfl ?_)
 rintro v rfl
 exact⟨_,rfl,e,rfl⟩
end Go.Mono
namespace Go.Mono
open Go
def tz (x:BitVec 64):Nat:=((List.range 64).find? fun i=>x.getLsbD i).getD 64
def tabZ:List Nat:=[0,1,56,2,57,49,28,3,61,58,42,50,38,29,17,4,62,47,59,36,45,43,51,22,53,39,33,30,24,18,12,5,63,55,48,27,60,41,37,16,46,35,44,21,52,32,23,11,54,26,40,15,34,20,31,10,25,14,19,9,13,8,7,6]
theorem tR:∀k,k<64→tabZ.getD (((1#64 <<< k) * 285870213051353865#64) >>> 58).toNat 0=k:=by decide
theorem jD {x:BitVec 64}(h:x≠0):∃k,k<64∧tz x=k∧x.getLsbD k=true∧∀j,j<k→x.getLsbD j=false:=by
 cases hf:(List.range 64).find? fun i=>x.getLsbD i with
 | none=>
  exfalso
  apply h
  apply BitVec.eq_of_getLsbD_eq
  intro i hi
  have:=List.find?_eq_none.1 hf i (List.mem_range.2 hi)
  simpa using this
 | some k=>
  have hk:=List.find?_some hf
  have hm:=List.mem_range.1 (List.mem_of_find?_eq_some hf)
  refine⟨k,hm,by simp[tz,hf],hk,fun j hj=>?_⟩
  have:=(List.find?_range_eq_some.1 hf).2.2 j hj
  simpa using this
theorem tS {x:BitVec 64}{k:Nat}(hk:k<64)(h:x.getLsbD k=true)(h0:∀j,j<k→x.getLsbD j=false):x &&& -x=1#64 <<< k:=by
 apply BitVec.eq_of_getLsbD_eq
 intro i hi
 rw[BitVec.getLsbD_and,BitVec.getLsbD_neg,BitVec.getLsbD_shiftLeft,BitVec.getLsbD_one]
 rcases Nat.lt_trichotomy i k with hik|hik|hik
 ·simp[h0 i hik,hik]
 ·subst hik
  have:¬∃j,j<i∧x.getLsbD j=true:=fun⟨j,hj,hb⟩=>by rw[h0 j hj] at hb;cases hb
  rw[decide_eq_false this]
  simp only[h]
  simp[hi]
 ·have:∃j,j<i∧x.getLsbD j=true:=⟨k,hik,h⟩
  rw[decide_eq_true this]
  have hne:i - k≠0:=by omega
  simp only[decide_eq_false hne,hi,decide_true,Bool.true_and,Bool.and_true,Bool.xor_true,Bool.and_false]
  cases x.getLsbD i <;> rfl
theorem tT {x:BitVec 64}(h:x≠0):(((x &&& -x) * 285870213051353865#64) >>> 58).toNat<64∧tabZ.getD (((x &&& -x) * 285870213051353865#64) >>> 58).toNat 0=tz x:=by
 obtain⟨k,hk,ht,hb,h0⟩:=jD h
 constructor
 ·have:(((x &&& -x) * 285870213051353865#64) >>> 58).toNat<64:=by
   rw[BitVec.toNat_ushiftRight,Nat.shiftRight_eq_div_pow]
   have:=((x &&& -x) * 285870213051353865#64).isLt
   omega
  exact this
 ·rw[tS hk hb h0,tR k hk,ht]
theorem nc {x:BitVec 64}(h:x≠0):tz x<64:=by
 obtain⟨k,hk,ht,_⟩:=jD h
 omega
def dw (S:BS):Option Nat:=(List.range 1024).find? fun i=>S.getLsbD i
theorem nf {S:BS}:dw S=none↔S=0:=by
 constructor
 ·intro h
  apply BitVec.eq_of_getLsbD_eq
  intro i hi
  have:=List.find?_eq_none.1 h i (List.mem_range.2 hi)
  simpa using this
 ·rintro rfl
  exact List.find?_eq_none.2 fun x hx=>by simp
theorem tU {p:Nat→Bool}{n k:Nat}(hk:k<n)(h:p k=true)(h0:∀j,j<k→p j=false):(List.range n).find? p=some k:=by
 rw[List.find?_range_eq_some]
 exact⟨h,List.mem_range.2 hk,fun j hj=>by simp[h0 j hj]⟩
theorem ng {S:BS}{k:Nat}:dw S=some k↔k<1024∧S.getLsbD k=true∧∀j,j<k→S.getLsbD j=false:=by
 constructor
 ·intro h
  have:=List.find?_range_eq_some.1 h
  exact⟨List.mem_range.1 this.2.1,this.1,fun j hj=>by simpa using this.2.2 j hj⟩
 ·rintro⟨h1,h2,h3⟩
  exact tU h1 h2 h3
theorem tV {S:BS}{k:Nat}(hk:k<16)(h0:∀i,i<k→an S i=0)(h:an S k≠0):dw S=some (64 * k+tz (an S k)):=by
 obtain⟨t,ht,e,hb,hz⟩:=jD h
 rw[e]
 refine ng.2 ⟨by omega,?_,fun j hj=>?_⟩
 ·rwa [cU _ _ _ ht] at hb
 ·by_cases hjk:j / 64<k
  ·have h1:=h0 _ hjk
   have h2:=congrArg (fun v=>v.getLsbD (j % 64)) h1
   simp only[cU _ _ _ (Nat.mod_lt j (by decide:0<64)),Nat.div_add_mod] at h2
   simpa using h2
  ·have hj64:j / 64=k:=by omega
   have h1:=hz (j % 64) (by omega)
   rw[cU _ _ _ (Nat.mod_lt j (by decide))] at h1
   rw[← hj64,Nat.div_add_mod] at h1
   exact h1
theorem tW {S:BS}(h:∀i,i<16→an S i=0):S=0:=mc fun i hi=>by rw[h i hi,jj]
end Go.Mono
namespace Go.Mono
open Go Go.Proofs Go.RowKit
def Tab (w:World):Prop:=∀i,i<64→w.cell? ⟨0,i,none⟩=some (.int .u8 (tabZ.getD i 0:Nat))
theorem Tab.ext {w w':World}(h:Tab w)(e:Ext w w'):Tab w':=fun i hi=>
 (Below.cell e (p:=⟨0,i,none⟩) (World.block_lt_of_cell? w ⟨0,i,none⟩ (h i hi))).trans (h i hi)
instance {w w':World}:Ug w w' (Tab w) (Tab w'):=⟨fun e h=>h.ext e⟩
theorem Tab.lt {w:World}(h:Tab w):0<w.heap.size:=World.block_lt_of_cell? w ⟨0,0,none⟩ (h 0 (by decide))

theorem tX (x:BitVec 64)(W:World)(hT:Tab W):Calls Tryz.prog 127 #[Mono.W x] W (Post (E (I (tz x))) W):=by
 refine enter (args:=[Mono.W x]) (As:=[E (Mono.W x)]) Tryz.func127 rfl Tryz.ntmps127 (Nat.le_of_ble_eq_true rfl) ?_ (fun a hf=>?_) (Nat.le_of_ble_eq_true rfl)
 rotate_left
 dsimp only[params,Nat.reduceAdd] at hf
 rotate_right
 ·exact arg1 rfl
 have e:=Ext.rfl' W
 refine seq ?_
 refine ah ?_
 refine ae hf rfl (by decide) fun a hf=>?_
 refine aa ?_
 cases hb:(x==0#64)
 ·have hx:x≠0:=by simpa using hb
  obtain⟨h1,h2⟩:=tT hx
  obtain⟨p,hp⟩:∃p:BitVec 64,p=((x &&& -x) * 285870213051353865#64) >>> 58:=⟨_,rfl⟩
  rw[← hp] at h1 h2
  repeat refine seq ?_
  refine ac 2 hf (by decide +kernel) ?_
  refine st (mv rfl) ?_
  refine st ((iR (v:=0#64) rfl rfl).eq (congrArg Value.bool (hb))) ?_
  refine en fun a w e' hf=>?_
  replace e:=e.tr e'
  refine aa ?_
  refine ifc hf rfl (fun h=>by cases h) (fun _=>ak ?_)
  refine seq ?_
  refine ac 9 hf (by decide +kernel) ?_
  refine st (mv rfl) ?_
  refine st (mv rfl) ?_
  refine st (sE rfl) ?_
  refine st (ec rfl rfl) ?_
  refine st (sD (v:=285870213051353865#64) rfl rfl) ?_
  refine st ((eB rfl rfl (by omega)).eq (show Mono.W _=Mono.W p from by rw[hp];rfl)) ?_
  refine st (ce sb ⟨_,T5⟩ rfl rfl (by constructor <;> omega)) ?_
  refine st (ldC T5 rfl (v:=.int .u8 (tabZ.getD p.toNat 0:Nat)) (fun w' e'=>by simpa using hT.ext (e.tr e') _ h1)) ?_
  refine st (mg U5 U3 rfl) ?_
  refine en fun a w e' hf=>?_
  replace e:=e.tr e'
  refine ae hf rfl (by decide) fun a hf=>?_
  refine aa ?_
  refine aj (al rfl hf rfl ?_)
  rintro v rfl
  refine⟨_,rfl,e,?_⟩
  have h3:=nc hx
  show Value.int .i64 _=Value.int .i64 _
  rw[h2,IntWalk.i64_in _ (by omega)]
 ·have hx:x=0:=by simpa using hb
  repeat refine seq ?_
  refine ac 2 hf (by decide +kernel) ?_
  refine st (mv rfl) ?_
  refine st ((iR (v:=0#64) rfl rfl).eq (congrArg Value.bool (hb))) ?_
  refine en fun a w e' hf=>?_
  replace e:=e.tr e'
  refine aa ?_
  refine ifc hf rfl (fun _=>?_) (fun h=>by cases h)
  refine seq ?_
  refine ah ?_
  refine ae hf rfl (by decide) fun a hf=>?_
  refine aa ?_
  refine aj (al rfl hf rfl ?_)
  rintro v rfl
  refine⟨_,rfl,e,?_⟩
  subst hx
  rfl
def tY (S:BS):VA:=Tup [E (I ((dw S).getD 0:Nat)),E (B (dw S).isSome)]

theorem nh (S:BS)(W:World)(hT:Tab W):Calls Tryz.prog 92 #[au S] W (Post (tY S) W):=by
 refine enter (args:=[au S]) (As:=[E (au S)]) Tryz.func92 rfl Tryz.ntmps92 (Nat.le_of_ble_eq_true rfl) ?_ (fun a hf=>?_) (Nat.le_of_ble_eq_true rfl)
 rotate_left
 dsimp only[params,Nat.reduceAdd] at hf
 rotate_right
 ·exact arg1 rfl
 have e:=Ext.rfl' W
 refine seq ?_
 refine ah ?_
 refine aH hf rfl (by decide) fun a b1 w v1 hv1 e' hb1 hs1 B1 hf=>?_
 have hle1:=Nat.le_trans e.size (Nat.le_of_eq hb1.symm)
 replace e:=e.tr e'
 refine ae hf rfl (by decide) fun a hf=>?_
 refine ae hf rfl (by decide) fun a hf=>?_
 refine aa ?_
 subst hv1
 rw[dh] at B1
 repeat refine seq ?_
 refine ac 2 hf (by decide +kernel) ?_
 refine st (ldW T56 rfl (by assumption) rfl) ?_
 refine st (mv rfl) ?_
 refine en fun a w e' hf=>?_
 replace e:=e.tr e'
 replace B1:=B1.ext e'
 refine aa ?_
 replace hf:=hf.kp [6,7]
 refine blk (aG (fun r a w=>∃k:Nat,r=16 - k∧k≤16∧Fr 19 a w [(6,E (au S)),(7,E (I k))]∧Ext W w∧∀i,i<k→an S i=0) 16 ⟨0,rfl,by omega,hf,e,fun i hi=>by omega⟩ ?_)
 clear hf e B1
 rintro r a w ⟨k,rfl,hk,hf,e,hz⟩
 by_cases hlt:k<16
 ·refine seq ?_
  refine ac 1 hf (by decide +kernel) ?_
  refine st ((lss rfl rfl).eq (congrArg Value.bool (show decide ((k:Int)<16)=true from decide_eq_true (by omega)))) ?_
  refine en fun a w e' hf=>?_
  replace e:=e.tr e'
  refine aa ?_
  refine seq ?_
  refine ifc hf rfl (fun _=>ak ?_) (fun h=>by cases h)
  refine seq ?_
  refine blk ?_
  refine seq ?_
  refine ac 2 hf (by decide +kernel) ?_
  refine st (mv rfl) ?_
  refine st (ga U56 T54 rfl rfl (by omega) (by simpa[aM] using cg (an S) k hlt)) ?_
  refine en fun a w e' hf=>?_
  replace e:=e.tr e'
  refine ae hf rfl (by decide) fun a hf=>?_
  refine ae hf rfl (by decide) fun a hf=>?_
  refine aa ?_
  cases hb:(an S k != 0#64)
  ·have hw:an S k=0:=by simpa using hb
   refine seq ?_
   refine ac 2 hf (by decide +kernel) ?_
   refine st (mv rfl) ?_
   refine st ((iQ (v:=0#64) rfl rfl).eq (congrArg Value.bool (hb))) ?_
   refine en fun a w e' hf=>?_
   replace e:=e.tr e'
   refine aa ?_
   refine ifc hf rfl (fun h=>by cases h) (fun _=>ak ?_)
   refine ac 1 hf (by decide +kernel) ?_
   refine st (add rfl rfl (by omega)) ?_
   refine en fun a w e' hf=>?_
   replace e:=e.tr e'
   clear e'
   refine ar hf (by decide) (mv rfl) fun a w e' hf=>?_
   replace e:=e.tr e'
   refine aa ?_
   replace hf:=hf.kp [6,7]
   exact⟨16 - (k+1),by omega,k+1,rfl,by omega,by simpa using hf,e,fun i hi=>by
    by_cases h:i=k
    ·subst h;exact hw
    ·exact hz i (by omega)⟩
  ·have hw:an S k≠0:=by simpa using hb
   have hm:=tV hlt hz hw
   have htz:=nc hw
   refine seq ?_
   refine ac 2 hf (by decide +kernel) ?_
   refine st (mv rfl) ?_
   refine st ((iQ (v:=0#64) rfl rfl).eq (congrArg Value.bool (hb))) ?_
   refine en fun a w e' hf=>?_
   replace e:=e.tr e'
   refine aa ?_
   refine ifc hf rfl (fun _=>?_) (fun h=>by cases h)
   refine seq ?_
   refine ac 5 hf (by decide +kernel) ?_
   refine st (mv rfl) ?_
   refine st (mul rfl rfl (by omega)) ?_
   refine st (mv rfl) ?_
   refine st (aw rY rfl (fun v w' e' h=>by cases h;exact tX _ w' (hT.ext (e.tr e')))) ?_
   refine st (add rfl rfl (by omega)) ?_
   refine en fun a w e' hf=>?_
   replace e:=e.tr e'
   refine ae hf rfl (by decide) fun a hf=>?_
   refine ae hf rfl (by decide) fun a hf=>?_
   refine aa ?_
   refine aj (cb rfl hf rfl rfl ?_)
   rintro u v rfl rfl
   refine⟨_,rfl,e,Tup.two ?_ ?_⟩
   ·rw[hm];simp[E,ER]
   ·rw[hm];rfl
 ·obtain rfl:k=16:=by omega
  have hm:dw S=none:=nf.2 (tW hz)
  refine seq ?_
  refine ac 1 hf (by decide +kernel) ?_
  refine st ((lss rfl rfl).eq (congrArg Value.bool (show decide (((16:Nat):Int)<16)=false from rfl))) ?_
  refine en fun a w e' hf=>?_
  replace e:=e.tr e'
  refine aa ?_
  refine seq ?_
  refine ifc hf rfl (fun h=>by cases h) (fun _=>aF ?_)
  simp only[Exit.then,Exit.inBlock,↓reduceIte]
  refine seq ?_
  refine ah ?_
  refine ae hf rfl (by decide) fun a hf=>?_
  refine ae hf rfl (by decide) fun a hf=>?_
  refine aa ?_
  refine aj (cb rfl hf rfl rfl ?_)
  rintro u v rfl rfl
  refine⟨_,rfl,e,Tup.two ?_ ?_⟩
  ·rw[hm];rfl
  ·rw[hm];rfl
end Go.Mono
namespace Go.Proofs.YtpjmfmjgmgjioaaGreatDoor
open Go Go.ChangeShapes Go.WideShapes Go.ChangeAt Go.RowKit

theorem own:ownKnob Tryz.prog.godebug=none:=by kernel_rfl
theorem laidOut:laidOutB Tryz.prog=true:=by kernel_rfl
theorem nj:Tryz.prog.globalNamed "math/bits.deBruijn64tab" = some 0:=by kernel_rfl
theorem tZ:(Tryz.prog.globals[0]?).map (·.type)=some 176:=by kernel_rfl
theorem ua:Tryz.prog.cellsOf 176=64:=by kernel_rfl
theorem ub:Tryz.prog.cellsOf 5=1:=by kernel_rfl
theorem uc {W:World} (h:laidMet Tryz.prog [("math/bits.deBruijn64tab",Rows.laid_math_bits_deBruijn64tab)] W):Mono.Tab W:=by
 have h2:=Lib.tabIs_of_head (k:=.u8) (zs:=Mono.tabZ.map fun n:Nat=>(n:Int)) (rest:=[]) nj tZ Tryz.underlying176 Tryz.underlying5 ub ua (show laidMet Tryz.prog (("math/bits.deBruijn64tab",Lib.tabData .u8 (Mono.tabZ.map fun n:Nat=>(n:Int)))::[]) W from h)
 intro i hi
 rw[h2.cell nj i (by simpa[Mono.tabZ] using hi)]
 congr 2
 simp[List.getD,List.getElem?_map]
 cases Mono.tabZ[i]? <;> rfl
noncomputable def nk (os:Os):World:=
 let w0:=World.holding Tryz.prog os ⟨#[],#[],[]⟩
 { w0 with heap:=w0.heap.modify 0 fun
   | .cells _ t frozen=>.cells (Mono.tabZ.map fun n:Nat=>Value.int .u8 (n:Int)).toArray t frozen
   | o=>o }
theorem ud (os:Os) (args:Array Value):laidMet Tryz.prog [("math/bits.deBruijn64tab",Rows.laid_math_bits_deBruijn64tab)] ((nk os).forCall (fun _ _=>0) ⟨#[],args,[]⟩).memory:=
 laidMet_of_run' 8 (by kernel_rfl) (by kernel_rfl)
end Go.Proofs.YtpjmfmjgmgjioaaGreatDoor
namespace Go.Mono
open Go Go.Proofs Go.RowKit

structure aV (xs:List RB):Prop where
 range:∀i,i<xs.length → -1≤up xs i∧up xs i<xs.length
 root:(aO (fun i=>decide (up xs i<0)) xs.length).length=1
 loop:∀i,i<xs.length→(bM xs i).isSome=true
 dup:∀i,i<xs.length→∀id∈hs xs i,(cJ xs id).length=1
open Classical in
noncomputable def bi (xs:List RB):Int:=
 if xs.length<1 then 2 else
 if ¬∀i,i<xs.length → -1≤up xs i∧up xs i<xs.length then 3 else
 if ¬(aO (fun i=>decide (up xs i<0)) xs.length).length=1 then 3 else
 if ¬∀i,i<xs.length→(bM xs i).isSome=true then 15 else
 if ¬∀i,i<xs.length→∀id∈hs xs i,(cJ xs id).length=1 then 7 else 0
theorem jE {xs:List RB}:bi xs=0↔0<xs.length∧aV xs:=by
 unfold bi
 constructor
 ·intro h
  split at h
  ·cases h
  ·split at h
   ·cases h
   ·split at h
    ·cases h
    ·split at h
     ·cases h
     ·split at h
      ·cases h
      ·rename_i h1 h2 h3 h4 h5
       exact⟨by omega,⟨Classical.not_not.1 h2,Classical.not_not.1 h3,Classical.not_not.1 h4,Classical.not_not.1 h5⟩⟩
 ·rintro⟨h0,h⟩
  rw[if_neg (by omega),if_neg (Classical.not_not.2 h.range),if_neg (Classical.not_not.2 h.root),if_neg (Classical.not_not.2 h.loop),if_neg (Classical.not_not.2 h.dup)]

theorem nl {G:Nat→Prop}(xs:List RB)(v:Value)(W:World)(h:(Dv rtE G xs).p v W)(hl:xs.length≤4096)(hh:∀i,i<xs.length→(hs xs i).length≤4096) :
  Calls Tryz.prog 29 #[v] W (Post (E (I (bi xs))) W):=by
 refine enter (args:=[v]) (As:=[Dv rtE G0 xs]) Tryz.func29 rfl Tryz.ntmps29 (Nat.le_of_ble_eq_true rfl) ?_ (fun a hf=>?_) (Nat.le_of_ble_eq_true rfl)
 rotate_left
 dsimp only[params,Nat.reduceAdd] at hf
 rotate_right
 ·exact arg1 (Dv.weak h fun b _ hb=>hb.elim)
 have e:=Ext.rfl' W
 refine seq ?_
 refine ah ?_
 refine ae hf rfl (by decide) fun a hf=>?_
 refine aa ?_
 cases h0:decide (((xs.length:Nat):Int)<1)
 rotate_left
 ·repeat refine seq ?_
  refine ac 8 hf (by decide +kernel) ?_
  refine st (mv rfl) ?_
  refine st (ay U29 (isR rfl)) ?_
  refine st ((lss rfl rfl).eq (congrArg Value.bool (h0))) ?_
  refine st (mv rfl) ?_
  refine sn rfl rfl rfl ?_
  refine sn rfl rfl rfl ?_
  refine sn rfl rfl rfl ?_
  refine st (pkT rfl rfl) ?_
  refine en fun a w e' hf=>?_
  replace e:=e.tr e'
  refine aa ?_
  have h0':=of_decide_eq_true h0
  refine ifc hf rfl (fun _=>?_) (fun h=>by cases h)
  refine seq ?_
  refine ah ?_
  refine ae hf rfl (by decide) fun a hf=>?_
  refine aa ?_
  refine aj ?_
  simp only[Exit.then,Exit.inBlock]
  refine al rfl hf rfl ?_
  rintro _ rfl
  exact⟨_,rfl,e,congrArg I (by rw[bi,if_pos (by omega)])⟩
 have h0':=of_decide_eq_false h0
 repeat refine seq ?_
 refine ac 8 hf (by decide +kernel) ?_
 refine st (mv rfl) ?_
 refine st (ay U29 (isR rfl)) ?_
 refine st ((lss rfl rfl).eq (congrArg Value.bool (h0))) ?_
 refine st (mv rfl) ?_
 refine sy rfl rfl (mv rfl) ?_
 refine sy rfl rfl (ay U29 (isR rfl)) ?_
 refine sy rfl rfl ((gtr rfl rfl).eq (congrArg Value.bool (show decide ((4096:Int)<(xs.length:Nat))=false from decide_eq_false (by omega)))) ?_
 refine st (pkF rfl rfl) ?_
 refine en fun a w e' hf=>?_
 replace e:=e.tr e'
 refine aa ?_
 refine ifc hf rfl (fun h=>by cases h) (fun _=>?_)
 refine ak ?_
 simp only[Exit.then,Exit.inBlock,↓reduceIte]
 refine seq ?_
 refine ah ?_
 refine ae hf rfl (by decide) fun a hf=>?_
 refine aa ?_
 repeat refine seq ?_
 refine ah ?_
 refine ae hf rfl (by decide) fun a hf=>?_
 refine aa ?_
 replace hf:=hf.kp [0,3,4]
 refine blk (aG (fun r0 a w=>∃(k:Nat) ,r0=xs.length - k∧k≤xs.length∧Fr 92 a w [(0,Dv rtE G0 xs),(3,E (I ((aO (fun i=>decide (up xs i<0)) k).length:Nat))),(4,E (I k))]∧Ext W w∧∀i,i<k → -1≤up xs i∧up xs i<xs.length) xs.length ⟨0,rfl,by omega,hf,e,(fun i hi=>by omega)⟩ ?_)
 clear hf e;try clear Ho
 rintro r0 a w ⟨k,rfl,hk,hf,e,Ho⟩
 repeat refine seq ?_
 refine ac 4 hf (by decide +kernel) ?_
 refine st (mv rfl) ?_
 refine st (mv rfl) ?_
 refine st (ay U29 (isR rfl)) ?_
 refine st (lss rfl rfl) ?_
 refine en fun a w e' hf=>?_
 replace e:=e.tr e'
 refine aa ?_
 refine ifc hf rfl (fun hc=>ak ?_) (fun hc=>aF ?_)
 rotate_left
 rotate_left
 ·have hlt:k<xs.length:=by have:=of_decide_eq_true hc;(try dsimp only at this);omega
  clear hc
  replace hf:=hf.kp [0,3,4]
  refine seq ?_
  refine blk ?_
  have g:=ep hlt
  have hsel:=ek (fun i=>decide (up xs i<0)) k
  cases h1:decide (up xs k < -1)
  ·repeat refine seq ?_
   refine ac 16 hf (by decide +kernel) ?_
   refine st (mv rfl) ?_
   refine st (mv rfl) ?_
   refine st (az U29 S87 (isR rfl) rfl (by omega) (g)) ?_
   refine st (am U87 rfl T3 (by decide) (Fld.fst Fld.refl) (isR rfl)) ?_
   refine st (ldI T3 (isR rfl)) ?_
   refine st ((lss rfl rfl).eq (congrArg Value.bool (h1))) ?_
   refine st (mv rfl) ?_
   refine sy rfl rfl (mv rfl) ?_
   refine sy rfl rfl (mv rfl) ?_
   refine sy rfl rfl (az U29 S87 (isR rfl) rfl (by omega) (g)) ?_
   refine sy rfl rfl (am U87 rfl T3 (by decide) (Fld.fst Fld.refl) (isR rfl)) ?_
   refine sy rfl rfl (ldI T3 (isR rfl)) ?_
   refine sy rfl rfl (mv rfl) ?_
   refine sy rfl rfl (ay U29 (isR rfl)) ?_
   refine sy rfl rfl (geq rfl rfl) ?_
   refine st (pkF rfl rfl) ?_
   refine en fun a w e' hf=>?_
   replace e:=e.tr e'
   refine aa ?_
   have h1':=of_decide_eq_false h1
   refine ifc hf rfl (fun hb=>?_) (fun hb=>?_)
   ·have hb':=of_decide_eq_true hb
    refine seq ?_
    refine ah ?_
    refine ae hf rfl (by decide) fun a hf=>?_
    refine aa ?_
    refine aj ?_
    simp only[Exit.then,Exit.inBlock]
    refine al rfl hf rfl ?_
    rintro _ rfl
    exact⟨_,rfl,e,congrArg I (by rw[bi,if_neg (by omega),if_pos (fun h=>by have:=(h k hlt).2;omega)])⟩
   ·have hb':=of_decide_eq_false hb
    have Ho':∀i,i<k+1 → -1≤up xs i∧up xs i<xs.length:=by
     intro i hi
     by_cases hk:i=k
     ·subst hk;exact⟨by omega,by omega⟩
     ·exact Ho i (by omega)
    refine ak ?_
    simp only[Exit.then,Exit.inBlock,↓reduceIte]
    replace hf:=hf.kp [0,3,4]
    refine seq ?_
    refine ac 6 hf (by decide +kernel) ?_
    refine st (mv rfl) ?_
    refine st (mv rfl) ?_
    refine st (az U29 S87 (isR rfl) rfl (by omega) (g)) ?_
    refine st (am U87 rfl T3 (by decide) (Fld.fst Fld.refl) (isR rfl)) ?_
    refine st (ldI T3 (isR rfl)) ?_
    refine st (lss rfl rfl) ?_
    refine en fun a w e' hf=>?_
    replace e:=e.tr e'
    refine aa ?_
    refine ifc hf rfl (fun hb=>?_) (fun hb=>?_)
    ·repeat refine seq ?_
     refine ac 2 hf (by decide +kernel) ?_
     refine st (mv rfl) ?_
     refine st ((add rfl rfl (by omega)).eq (congrArg (Value.int .i64) (show ((aO (fun i=>decide (up xs i<0)) k).length:Int)+1=((aO (fun i=>decide (up xs i<0)) (k+1)).length:Nat) from by rw[cz,if_pos hb];simp))) ?_
     refine en fun a w e' hf=>?_
     replace e:=e.tr e'
     refine ae hf rfl (by decide) fun a hf=>?_
     refine aa ?_
     simp only[Exit.then,Exit.inBlock,↓reduceIte]
     refine ac 2 hf (by decide +kernel) ?_
     refine st (mv rfl) ?_
     refine st ((add rfl rfl (by omega)).eq (congrArg (Value.int .i64) (show (k:Int)+1=((k+1:Nat):Int) from rfl))) ?_
     refine en fun a w e' hf=>?_
     replace e:=e.tr e'
     refine ae hf rfl (by decide) fun a hf=>?_
     refine aa ?_
     replace hf:=hf.kp [0,3,4]
     refine⟨_,?_,k+1,rfl,by omega,hf,e,?_⟩
     ·omega
     exact Ho'
    ·have hs':(aO (fun i=>decide (up xs i<0)) k).length=(aO (fun i=>decide (up xs i<0)) (k+1)).length:=by rw[cz,if_neg (by rw[hb];decide)]
     rw[hs'] at hf
     refine ak ?_
     simp only[Exit.then,Exit.inBlock,↓reduceIte]
     refine ac 2 hf (by decide +kernel) ?_
     refine st (mv rfl) ?_
     refine st ((add rfl rfl (by omega)).eq (congrArg (Value.int .i64) (show (k:Int)+1=((k+1:Nat):Int) from rfl))) ?_
     refine en fun a w e' hf=>?_
     replace e:=e.tr e'
     refine ae hf rfl (by decide) fun a hf=>?_
     refine aa ?_
     replace hf:=hf.kp [0,3,4]
     refine⟨_,?_,k+1,rfl,by omega,hf,e,?_⟩
     ·omega
     exact Ho'
  ·repeat refine seq ?_
   refine ac 16 hf (by decide +kernel) ?_
   refine st (mv rfl) ?_
   refine st (mv rfl) ?_
   refine st (az U29 S87 (isR rfl) rfl (by omega) (g)) ?_
   refine st (am U87 rfl T3 (by decide) (Fld.fst Fld.refl) (isR rfl)) ?_
   refine st (ldI T3 (isR rfl)) ?_
   refine st ((lss rfl rfl).eq (congrArg Value.bool (h1))) ?_
   refine st (mv rfl) ?_
   refine sn rfl rfl rfl ?_
   refine sn rfl rfl rfl ?_
   refine sn rfl rfl rfl ?_
   refine sn rfl rfl rfl ?_
   refine sn rfl rfl rfl ?_
   refine sn rfl rfl rfl ?_
   refine sn rfl rfl rfl ?_
   refine sn rfl rfl rfl ?_
   refine st (pkT rfl rfl) ?_
   refine en fun a w e' hf=>?_
   replace e:=e.tr e'
   refine aa ?_
   have h1':=of_decide_eq_true h1
   refine ifc hf rfl (fun _=>?_) (fun h=>by cases h)
   refine seq ?_
   refine ah ?_
   refine ae hf rfl (by decide) fun a hf=>?_
   refine aa ?_
   refine aj ?_
   simp only[Exit.then,Exit.inBlock]
   refine al rfl hf rfl ?_
   rintro _ rfl
   exact⟨_,rfl,e,congrArg I (by rw[bi,if_neg (by omega),if_pos (fun h=>by have:=(h k hlt).1;omega)])⟩
 ·obtain rfl:k=xs.length:=by have:=of_decide_eq_false hc;(try dsimp only at this);omega
  clear hc
  simp only[Exit.then,Exit.inBlock,↓reduceIte]
  have c1:=Classical.not_not.2 Ho
  repeat refine seq ?_
  refine ac 2 hf (by decide +kernel) ?_
  refine st (mv rfl) ?_
  refine st (neq rfl rfl) ?_
  refine en fun a w e' hf=>?_
  replace e:=e.tr e'
  refine aa ?_
  refine ifc hf rfl (fun hb=>?_) (fun hb=>?_)
  ·have hb':¬(aO (fun i=>decide (up xs i<0)) xs.length).length=1:=by
    have:((aO (fun i=>decide (up xs i<0)) xs.length).length:Int)≠1:=by simpa using hb
    omega
   refine seq ?_
   refine ah ?_
   refine ae hf rfl (by decide) fun a hf=>?_
   refine aa ?_
   refine aj ?_
   simp only[Exit.then,Exit.inBlock]
   refine al rfl hf rfl ?_
   rintro _ rfl
   exact⟨_,rfl,e,congrArg I (by rw[bi,if_neg (by omega),if_neg c1,if_pos hb'])⟩
  ·have c2:¬¬(aO (fun i=>decide (up xs i<0)) xs.length).length=1:=by
    have:((aO (fun i=>decide (up xs i<0)) xs.length).length:Int)=1:=by simpa using hb
    omega
   refine ak ?_
   simp only[Exit.then,Exit.inBlock,↓reduceIte]
   repeat refine seq ?_
   refine ah ?_
   refine ae hf rfl (by decide) fun a hf=>?_
   refine aa ?_
   have hr:=Ho
   clear Ho
   replace hf:=hf.kp [0,5]
   refine blk (aG (fun r0 a w=>∃(k:Nat) ,r0=xs.length - k∧k≤xs.length∧Fr 92 a w [(0,Dv rtE G0 xs),(5,E (I k))]∧Ext W w∧∀i,i<k→(bM xs i).isSome=true) xs.length ⟨0,rfl,by omega,hf,e,(fun i hi=>by omega)⟩ ?_)
   clear hf e;try clear Ho
   rintro r0 a w ⟨k,rfl,hk,hf,e,Ho⟩
   repeat refine seq ?_
   refine ac 4 hf (by decide +kernel) ?_
   refine st (mv rfl) ?_
   refine st (mv rfl) ?_
   refine st (ay U29 (isR rfl)) ?_
   refine st (lss rfl rfl) ?_
   refine en fun a w e' hf=>?_
   replace e:=e.tr e'
   refine aa ?_
   refine ifc hf rfl (fun hc=>ak ?_) (fun hc=>aF ?_)
   rotate_left
   rotate_left
   ·have hlt:k<xs.length:=by have:=of_decide_eq_true hc;(try dsimp only at this);omega
    clear hc
    replace hf:=hf.kp [0,5]
    refine seq ?_
    refine blk ?_
    refine seq ?_
    refine ac 6 hf (by decide +kernel) ?_
    refine st (mv rfl) ?_
    refine st (mv rfl) ?_
    refine st (ax rp rfl rfl (fun v u w he h h'=>by cases h';exact sO (G:=G0) _ _ _ _ h (fun b hb=>hb.elim) hl (fun i hi=>(hr i hi).2) hlt)) ?_
    refine st (mv rfl) ?_
    refine st (aZ rfl rfl) ?_
    refine st (aZ rfl rfl) ?_
    refine en fun a w e' hf=>?_
    replace e:=e.tr e'
    refine ae hf rfl (by decide) fun a hf=>?_
    refine ae hf rfl (by decide) fun a hf=>?_
    refine aa ?_
    refine seq ?_
    refine ac 2 hf (by decide +kernel) ?_
    refine st (mv rfl) ?_
    refine st (aS rfl) ?_
    refine en fun a w e' hf=>?_
    replace e:=e.tr e'
    refine aa ?_
    refine ifc hf rfl (fun hb=>?_) (fun hb=>?_)
    ·have hb':¬(bM xs k).isSome=true:=by simpa using hb
     refine seq ?_
     refine ah ?_
     refine ae hf rfl (by decide) fun a hf=>?_
     refine aa ?_
     refine aj ?_
     simp only[Exit.then,Exit.inBlock]
     refine al rfl hf rfl ?_
     rintro _ rfl
     exact⟨_,rfl,e,congrArg I (by rw[bi,if_neg (by omega),if_neg c1,if_neg c2,if_pos (fun h=>hb' (h k hlt))])⟩
    ·have hb':(bM xs k).isSome=true:=by simpa using hb
     refine ak ?_
     simp only[Exit.then,Exit.inBlock,↓reduceIte]
     refine ac 2 hf (by decide +kernel) ?_
     refine st (mv rfl) ?_
     refine st ((add rfl rfl (by omega)).eq (congrArg (Value.int .i64) (show (k:Int)+1=((k+1:Nat):Int) from rfl))) ?_
     refine en fun a w e' hf=>?_
     replace e:=e.tr e'
     refine ae hf rfl (by decide) fun a hf=>?_
     refine aa ?_
     replace hf:=hf.kp [0,5]
     refine⟨_,?_,k+1,rfl,by omega,hf,e,?_⟩
     ·omega
     intro i hi
     by_cases hk:i=k
     ·subst hk;exact hb'
     ·exact Ho i (by omega)
   ·obtain rfl:k=xs.length:=by have:=of_decide_eq_false hc;(try dsimp only at this);omega
    clear hc
    simp only[Exit.then,Exit.inBlock,↓reduceIte]
    have c3:=Classical.not_not.2 Ho
    clear Ho
    repeat refine seq ?_
    refine ah ?_
    refine ae hf rfl (by decide) fun a hf=>?_
    refine aa ?_
    replace hf:=hf.kp [0,8]
    refine blk (aG (fun r0 a w=>∃(k:Nat) ,r0=xs.length - k∧k≤xs.length∧Fr 92 a w [(0,Dv rtE G0 xs),(8,E (I k))]∧Ext W w∧∀i,i<k→∀id∈hs xs i,(cJ xs id).length=1) xs.length ⟨0,rfl,by omega,hf,e,(fun i hi=>by omega)⟩ ?_)
    clear hf e;try clear Ho
    rintro r0 a w ⟨k,rfl,hk,hf,e,Ho⟩
    repeat refine seq ?_
    refine ac 4 hf (by decide +kernel) ?_
    refine st (mv rfl) ?_
    refine st (mv rfl) ?_
    refine st (ay U29 (isR rfl)) ?_
    refine st (lss rfl rfl) ?_
    refine en fun a w e' hf=>?_
    replace e:=e.tr e'
    refine aa ?_
    refine ifc hf rfl (fun hc=>ak ?_) (fun hc=>aF ?_)
    rotate_left
    rotate_left
    ·have hlt:k<xs.length:=by have:=of_decide_eq_true hc;(try dsimp only at this);omega
     clear hc
     replace hf:=hf.kp [0,8]
     refine seq ?_
     refine blk ?_
     have g:=ep hlt
     have hlk:=hh k hlt
     refine seq ?_
     refine ah ?_
     refine ae hf rfl (by decide) fun a hf=>?_
     refine aa ?_
     have Ho1:∀id∈(hs xs k).take 0,(cJ xs id).length=1:=by simp
     replace hf:=hf.kp [0,8,9]
     refine blk (aG (fun r0 a w=>∃(j:Nat) ,r0=(hs xs k).length - j∧j≤(hs xs k).length∧Fr 92 a w [(0,Dv rtE G0 xs),(8,E (I k)),(9,E (I j))]∧Ext W w∧∀id∈(hs xs k).take j,(cJ xs id).length=1) (hs xs k).length ⟨0,rfl,by omega,hf,e,Ho1⟩ ?_)
     clear hf e;try clear Ho1
     rintro r0 a w ⟨j,rfl,hj,hf,e,Ho1⟩
     repeat refine seq ?_
     refine ac 8 hf (by decide +kernel) ?_
     refine st (mv rfl) ?_
     refine st (mv rfl) ?_
     refine st (mv rfl) ?_
     refine st (az U29 S87 (isR rfl) rfl (by omega) (g)) ?_
     refine st (am U87 rfl T85 (by decide) (Fld.snd Fld.refl rfl) (isR rfl)) ?_
     refine st (ldD T85 (isR rfl)) ?_
     refine st (ay U85 (isR rfl)) ?_
     refine st (lss rfl rfl) ?_
     refine en fun a w e' hf=>?_
     replace e:=e.tr e'
     refine aa ?_
     refine ifc hf rfl (fun hc=>ak ?_) (fun hc=>aF ?_)
     rotate_left
     rotate_left
     ·have hltj:j<(hs xs k).length:=by have:=of_decide_eq_true hc;(try dsimp only at this);omega
      clear hc
      replace hf:=hf.kp [0,8,9]
      refine seq ?_
      refine blk ?_
      have g2:=em hltj
      refine seq ?_
      refine ac 12 hf (by decide +kernel) ?_
      refine st (mv rfl) ?_
      refine st (mv rfl) ?_
      refine st (mv rfl) ?_
      refine st (az U29 S87 (isR rfl) rfl (by omega) (g)) ?_
      refine st (am U87 rfl T85 (by decide) (Fld.snd Fld.refl rfl) (isR rfl)) ?_
      refine st (ldD T85 (isR rfl)) ?_
      refine st (mv rfl) ?_
      refine st (az U85 S3 (isR rfl) rfl (by omega) (g2)) ?_
      refine st (ldI T3 (isR rfl)) ?_
      refine st (ax rq rfl rfl (fun v u w he h h'=>by cases h';exact sN (G:=G0) _ _ _ _ h (fun b hb=>hb.elim) hl ⟨fun i hi=>(hr i hi).2,hh⟩)) ?_
      refine st (ay U63 (isR rfl)) ?_
      refine st (neq rfl rfl) ?_
      refine en fun a w e' hf=>?_
      replace e:=e.tr e'
      refine aa ?_
      refine ifc hf rfl (fun hb=>?_) (fun hb=>?_)
      ·have hb':¬(cJ xs (gi (hs xs k) j)).length=1:=by
        have:((cJ xs (gi (hs xs k) j)).length:Int)≠1:=by simpa using hb
        omega
       refine seq ?_
       refine ah ?_
       refine ae hf rfl (by decide) fun a hf=>?_
       refine aa ?_
       refine aj ?_
       simp only[Exit.then,Exit.inBlock]
       refine al rfl hf rfl ?_
       rintro _ rfl
       exact⟨_,rfl,e,congrArg I (by rw[bi,if_neg (by omega),if_neg c1,if_neg c2,if_neg c3,if_pos (fun h=>hb' (h k hlt _ (List.mem_of_getElem? g2)))])⟩
      ·have hb':(cJ xs (gi (hs xs k) j)).length=1:=by
        have:((cJ xs (gi (hs xs k) j)).length:Int)=1:=by simpa using hb
        omega
       refine ak ?_
       simp only[Exit.then,Exit.inBlock,↓reduceIte]
       refine ac 2 hf (by decide +kernel) ?_
       refine st (mv rfl) ?_
       refine st ((add rfl rfl (by omega)).eq (congrArg (Value.int .i64) (show (j:Int)+1=((j+1:Nat):Int) from rfl))) ?_
       refine en fun a w e' hf=>?_
       replace e:=e.tr e'
       refine ae hf rfl (by decide) fun a hf=>?_
       refine aa ?_
       replace hf:=hf.kp [0,8,9]
       refine⟨_,?_,j+1,rfl,by omega,hf,e,?_⟩
       ·omega
       rw[fE hltj]
       intro id hid
       rcases List.mem_append.1 hid with hid|hid
       ·exact Ho1 id hid
       ·rw[List.mem_singleton.1 hid];exact hb'
     ·obtain rfl:j=(hs xs k).length:=by have:=of_decide_eq_false hc;(try dsimp only at this);omega
      clear hc
      simp only[Exit.then,Exit.inBlock,↓reduceIte]
      rw[List.take_length] at Ho1
      refine ac 2 hf (by decide +kernel) ?_
      refine st (mv rfl) ?_
      refine st ((add rfl rfl (by omega)).eq (congrArg (Value.int .i64) (show (k:Int)+1=((k+1:Nat):Int) from rfl))) ?_
      refine en fun a w e' hf=>?_
      replace e:=e.tr e'
      refine ae hf rfl (by decide) fun a hf=>?_
      refine aa ?_
      replace hf:=hf.kp [0,8]
      refine⟨_,?_,k+1,rfl,by omega,hf,e,?_⟩
      ·omega
      intro i hi
      by_cases hk:i=k
      ·subst hk;exact Ho1
      ·exact Ho i (by omega)
    ·obtain rfl:k=xs.length:=by have:=of_decide_eq_false hc;(try dsimp only at this);omega
     clear hc
     simp only[Exit.then,Exit.inBlock,↓reduceIte]
     refine seq ?_
     refine ah ?_
     refine ae hf rfl (by decide) fun a hf=>?_
     refine aa ?_
     refine aj ?_
     refine al rfl hf rfl ?_
     rintro _ rfl
     exact⟨_,rfl,e,congrArg I (by rw[bi,if_neg (by omega),if_neg c1,if_neg c2,if_neg c3,if_neg (Classical.not_not.2 Ho)])⟩
end Go.Mono
namespace Go.Mono

theorem np {xs:List RB}:∀{f:Nat} {a:Int} {l:List Int},abv xs f a=some l→abv xs (f+1) a=some l
 | 0,a,l,h=>by
  by_cases ha:a<0
  ·rw[abv,if_pos ha] at h;rw[abv,if_pos ha];exact h
  ·rw[abv,if_neg ha] at h;cases h
 | f+1,a,l,h=>by
  by_cases ha:a<0
  ·rw[abv,if_pos ha] at h;rw[abv,if_pos ha];exact h
  ·rw[abv,if_neg ha] at h
   rw[abv,if_neg ha]
   cases hr:abv xs f (up xs a.toNat) with
   | none=>rw[hr] at h;cases h
   | some l'=>rw[np hr];rw[hr] at h;exact h
theorem nq {xs:List RB}:∀{f:Nat} {a:Int} {l:List Int},abv xs f a=some l→l.length≤f
 | 0,a,l,h=>by
  by_cases ha:a<0
  ·rw[abv,if_pos ha] at h;cases h;simp
  ·rw[abv,if_neg ha] at h;cases h
 | f+1,a,l,h=>by
  by_cases ha:a<0
  ·rw[abv,if_pos ha] at h;cases h;simp
  ·rw[abv,if_neg ha] at h
   cases hr:abv xs f (up xs a.toNat) with
   | none=>rw[hr] at h;cases h
   | some l'=>
    rw[hr] at h
    simp at h
    subst h
    have:=nq hr
    simp;exact this
def ab (xs:List RB)(i:Nat):List Int:=(bM xs i).getD []
theorem nt {xs:List RB}{i:Nat}(h:up xs i<0):ab xs i=[]:=by
 rw[ab,bM,abv,if_pos h];rfl
theorem nu {xs:List RB}(V:aV xs){i j:Nat}(hi:i<xs.length)(h:up xs i=(j:Int)):ab xs i=(j:Int)::ab xs j∧j<xs.length:=by
 have hr:=V.range i hi
 have hl:=V.loop i hi
 refine⟨?_,by omega⟩
 unfold ab
 rw[bM,abv,if_neg (by omega)] at hl ⊢
 rw[h,Int.toNat_natCast] at hl ⊢
 cases hx:abv xs xs.length (up xs j) with
 | none=>rw[hx] at hl;cases hl
 | some l=>rw[bM,np hx];rfl
theorem ii (xs:List RB)(i:Nat):depthR xs i=(ab xs i).length:=rfl
theorem eK {xs:List RB}(V:aV xs){i j:Nat}(hi:i<xs.length)(h:up xs i=(j:Int)):depthR xs i=depthR xs j+1:=by
 rw[ii,ii,(nu V hi h).1];rfl
theorem ij {xs:List RB}(V:aV xs){i:Nat}(hi:i<xs.length):depthR xs i≤xs.length+1:=by
 have:=V.loop i hi
 rw[ii,ab]
 cases hx:bM xs i with
 | none=>rw[hx] at this;cases this
 | some l=>exact nq hx
theorem nw {xs:List RB}(V:aV xs){i:Nat}(hi:i<xs.length):up xs i = -1∨∃j:Nat,j<xs.length∧up xs i=(j:Int):=by
 have:=V.range i hi
 by_cases h:up xs i<0
 ·exact .inl (by omega)
 ·exact .inr ⟨(up xs i).toNat,by omega,by omega⟩
theorem ik {xs:List RB}(V:aV xs){p:Nat→Prop}(root:∀i,i<xs.length→up xs i = -1→p i)(step:∀i j,i<xs.length→j<xs.length→up xs i=(j:Int)→p j→p i):∀i,i<xs.length→p i:=by
 have:∀d i,i<xs.length→depthR xs i=d→p i:=by
  intro d
  induction d using Nat.strongRecOn with
  | _ d ih=>
   intro i hi hd
   rcases nw V hi with h|⟨j,hj,h⟩
   ·exact root i hi h
   ·have:=eK V hi h
    exact step i j hi hj h (ih (depthR xs j) (by omega) j hj rfl)
 exact fun i hi=>this _ i hi rfl
theorem nx {xs:List RB}(V:aV xs){p:Nat→Prop}(step:∀j,j<xs.length→(∀i,i<xs.length→up xs i=(j:Int)→p i)→p j):∀i,i<xs.length→p i:=by
 have:∀d i,i<xs.length→xs.length+1 - depthR xs i=d→p i:=by
  intro d
  induction d using Nat.strongRecOn with
  | _ d ih=>
   intro j hj hd
   refine step j hj fun i hi h=>?_
   have h1:=eK V hi h
   have h2:=ij V hi
   exact ih (xs.length+1 - depthR xs i) (by omega) i hi rfl
 exact fun i hi=>this _ i hi rfl

theorem ff {p:Nat→Bool}{n:Nat}{k:Int}:k∈aO p n↔∃i:Nat,i<n∧p i=true∧k=(i:Int):=by
 unfold aO
 simp only[List.mem_map,List.mem_filter,List.mem_range]
 exact⟨fun⟨i,⟨h1,h2⟩,h3⟩=>⟨i,h1,h2,h3.symm⟩,fun⟨i,h1,h2,h3⟩=>⟨i,⟨h1,h2⟩,h3.symm⟩⟩
theorem ny {xs:List RB}{b k:Int}:k∈kids xs b↔∃i:Nat,i<xs.length∧up xs i=b∧k=(i:Int):=by
 rw[kids,ff]
 simp only[decide_eq_true_eq]
def szF (xs:List RB):Nat→Int→Int
 | 0,_=>1
 | f+1,b=>(kids xs b).foldl (fun n k=>n+szF xs f k) 1
def bu (xs:List RB)(b:Int):Int:=szF xs (xs.length+2) b
theorem nz {α β:Type}{f g:β→α→β}:∀{l:List α} {b:β},(∀b,∀x∈l,f b x=g b x)→l.foldl f b=l.foldl g b
 | [],b,_=>rfl
 | x::l,b,h=>by
  rw[List.foldl_cons,List.foldl_cons,h b x (by simp)]
  exact nz fun b y hy=>h b y (by simp[hy])
theorem ue {xs:List RB}(V:aV xs):∀(d j:Nat),j<xs.length→xs.length+1 - depthR xs j=d→∀f g,d≤f→d≤g→szF xs f (j:Nat)=szF xs g (j:Nat):=by
 intro d
 induction d using Nat.strongRecOn with
 | _ d ih=>
  intro j hj hd f g hf hg
  have kid:∀k∈kids xs (j:Nat),∃i:Nat,i<xs.length∧k=(i:Int)∧xs.length+1 - depthR xs i<d∧xs.length+1 - depthR xs i+1=d:=by
   intro k hk
   obtain⟨i,h1,h2,h3⟩:=ny.1 hk
   have h4:=eK V h1 h2
   have h5:=ij V h1
   exact⟨i,h1,h3,by omega,by omega⟩
  have z:∀f,d≤f→szF xs f (j:Nat)=(kids xs (j:Nat)).foldl (fun n k=>n+szF xs (f - 1) k) 1:=by
   intro f hf
   cases f with
   | zero=>
    have:kids xs (j:Nat)=[]:=by
     cases hk:kids xs (j:Nat) with
     | nil=>rfl
     | cons k l=>
      obtain⟨i,_,_,h3,_⟩:=kid k (by rw[hk];simp)
      omega
    rw[this];rfl
   | succ f=>rfl
  rw[z f hf,z g hg]
  refine nz fun n k hk=>?_
  obtain⟨i,h1,h2,h3,h4⟩:=kid k hk
  subst h2
  rw[ih _ h3 i h1 rfl (f - 1) (g - 1) (by omega) (by omega)]
theorem nA {xs:List RB}(V:aV xs){j:Nat}(hj:j<xs.length):bu xs (j:Nat)=(kids xs (j:Nat)).foldl (fun n k=>n+bu xs k) 1:=by
 have h:=ij V hj
 rw[bu,show szF xs (xs.length+2) (j:Nat)=szF xs (xs.length+3) (j:Nat) from ue V _ j hj rfl _ _ (by omega) (by omega)]
 rfl
def dsc (xs:List RB)(b i:Nat):Bool:=decide (i=b) || decide ((b:Int)∈ab xs i)
theorem jF {xs:List RB}{b i:Nat}(h:up xs i<0):dsc xs b i=decide (i=b):=by
 rw[dsc,nt h];simp
theorem il {xs:List RB}(V:aV xs){b i j:Nat}(hi:i<xs.length)(h:up xs i=(j:Int)):dsc xs b i=(decide (i=b) || dsc xs b j):=by
 rw[dsc,(nu V hi h).1,dsc]
 congr 1
 have e:decide (((b:Nat):Int)=(j:Nat))=decide (j=b):=by
  by_cases hb:j=b
  ·subst hb;simp
  ·simp[hb];omega
 simp only[List.mem_cons,Bool.decide_or,e]
theorem nB {xs:List RB}(V:aV xs){b:Nat}:∀i,i<xs.length→dsc xs b i=true→depthR xs b≤depthR xs i:=by
 refine ik V (fun i hi h hd=>?_) (fun i j hi hj h ih hd=>?_)
 ·rw[jF (by omega)] at hd
  rw[of_decide_eq_true hd];exact Nat.le_refl _
 ·rw[il V hi h,Bool.or_eq_true] at hd
  have:=eK V hi h
  rcases hd with hd|hd
  ·rw[of_decide_eq_true hd];exact Nat.le_refl _
  ·have:=ih hd;omega
def ind (b:Bool):Nat:=if b then 1 else 0
def kidN (xs:List RB)(b:Nat):List Nat:=(List.range xs.length).filter fun i=>decide (up xs i=(b:Int))
theorem im (xs:List RB)(b:Nat):kids xs (b:Nat)=(kidN xs b).map fun i:Nat=>(i:Int):=rfl
theorem eL {xs:List RB}{b k:Nat}:k∈kidN xs b↔k<xs.length∧up xs k=(b:Int):=by simp[kidN]
theorem nC (xs:List RB)(b:Nat):(kidN xs b).Nodup:=List.Nodup.sublist List.filter_sublist List.nodup_range
theorem gz {l:List Nat}(h:l.Nodup)(i:Nat):(l.map fun k=>ind (decide (i=k))).sum=ind (decide (i∈l)):=by
 induction l with
 | nil=>rfl
 | cons k l ih=>
  have hn:=List.nodup_cons.1 h
  rw[List.map_cons,List.sum_cons,ih hn.2]
  by_cases hk:i=k
  ·subst hk;simp[ind,hn.1]
  ·simp[ind,hk]
theorem gA {α:Type}(f g:α→Nat):∀l:List α,(l.map fun k=>f k+g k).sum=(l.map f).sum+(l.map g).sum
 | []=>rfl
 | x::l=>by simp[gA f g l];omega
theorem dN {α:Type}{f g:α→Nat}:∀{l:List α},(∀x∈l,f x=g x)→(l.map f).sum=(l.map g).sum
 | [],_=>rfl
 | x::l,h=>by
  rw[List.map_cons,List.map_cons,List.sum_cons,List.sum_cons,h x (by simp),dN fun y hy=>h y (by simp[hy])]
theorem nD {a b:Bool}(h:a=true→b=true→False):ind (a || b)=ind a+ind b:=by
 cases a <;> cases b <;> simp[ind] at h ⊢
theorem nE {xs:List RB}(V:aV xs){b:Nat}:∀i,i<xs.length→ind (dsc xs b i)=ind (decide (i=b))+((kidN xs b).map fun k=>ind (dsc xs k i)).sum:=by
 refine ik V (fun i hi h=>?_) (fun i j hi hj h ih=>?_)
 ·rw[jF (by omega)]
  have:((kidN xs b).map fun k=>ind (dsc xs k i)).sum=((kidN xs b).map fun k=>ind (decide (i=k))).sum:=dN fun k _=>by rw[jF (by omega)]
  rw[this,gz (nC xs b)]
  have hm:¬i∈kidN xs b:=fun hm=>by have:=(eL.1 hm).2;omega
  simp[ind,hm]
 ·have d1:=eK V hi h
  rw[il V hi h,nD (fun h1 h2=>by
   have:=nB V j hj h2
   rw[← of_decide_eq_true h1] at this
   omega),ih]
  have:((kidN xs b).map fun k=>ind (dsc xs k i)).sum=((kidN xs b).map fun k=>ind (decide (i=k))+ind (dsc xs k j)).sum:=dN fun k hk=>by
   rw[il V hi h,nD (fun h1 h2=>by
    have:=nB V j hj h2
    rw[← of_decide_eq_true h1] at this
    omega)]
  rw[this,gA,gz (nC xs b)]
  congr 1
  congr 1
  have:decide (i∈kidN xs b)=decide (j=b):=by
   by_cases hb:j=b
   ·subst hb;simp[eL,hi,h]
   ·simp[eL,hi,h,hb];omega
  rw[this]
def cnt (xs:List RB)(b:Nat):Nat:=((List.range xs.length).map fun i=>ind (dsc xs b i)).sum
theorem jG {α β:Type}(f:α→β→Nat)(m:List β):∀l:List α,(l.map fun i=>(m.map fun k=>f i k).sum).sum=(m.map fun k=>(l.map fun i=>f i k).sum).sum
 | []=>by
  simp only[List.map_nil,List.sum_nil]
  induction m with
  | nil=>rfl
  | cons y m ih=>simpa using ih
 | x::l=>by
  rw[List.map_cons,List.sum_cons,jG f m l,← gA]
  simp
theorem io {xs:List RB}(V:aV xs){b:Nat}(hb:b<xs.length):cnt xs b=1+((kidN xs b).map fun k=>cnt xs k).sum:=by
 unfold cnt
 rw[show ((List.range xs.length).map fun i=>ind (dsc xs b i)).sum=((List.range xs.length).map fun i=>ind (decide (i=b))+((kidN xs b).map fun k=>ind (dsc xs k i)).sum).sum from
  dN fun i hi=>nE V i (List.mem_range.1 hi),gA,jG (fun i k=>ind (dsc xs k i))]
 congr 1
 have:=gz (l:=List.range xs.length) List.nodup_range b
 have e:((List.range xs.length).map fun i=>ind (decide (i=b))).sum=((List.range xs.length).map fun k=>ind (decide (b=k))).sum:=dN fun i _=>by
  congr 1
  by_cases h:i=b
  ·subst h;rfl
  ·rw[decide_eq_false h,decide_eq_false (Ne.symm h)]
 rw[e,this]
 simp[ind,hb]
theorem jH {f:Int→Int}{g:Nat→Nat}:∀{l:List Nat} {s:Int},(∀k∈l,f (k:Int)=(g k:Nat))→(l.map fun i:Nat=>(i:Int)).foldl (fun n k=>n+f k) s=s+((l.map g).sum:Nat)
 | [],s,_=>by simp
 | k::l,s,h=>by
  rw[List.map_cons,List.foldl_cons,jH (fun j hj=>h j (by simp[hj])),h k (by simp),List.map_cons,List.sum_cons]
  omega
theorem uf {xs:List RB}(V:aV xs):∀b,b<xs.length→bu xs (b:Nat)=(cnt xs b:Nat):=by
 refine nx V fun j hj ih=>?_
 rw[nA V hj,io V hj,im,jH (g:=cnt xs) fun k hk=>ih k (eL.1 hk).1 (eL.1 hk).2]
 show 1+(((kidN xs j).map fun k=>cnt xs k).sum:Int)=_
 omega
theorem nF (xs:List RB)(b:Nat):cnt xs b≤xs.length:=by
 have:∀l:List Nat,(l.map fun i=>ind (dsc xs b i)).sum≤l.length:=by
  intro l
  induction l with
  | nil=>simp
  | cons x l ih=>
   have:ind (dsc xs b x)≤1:=by unfold ind;split <;> omega
   simp;omega
 have:=this (List.range xs.length)
 simpa[cnt] using this
end Go.Mono
