/-
  Walks of functions and plain facts.
  No condition.
-/
import Derived.Test.YtiakihcolhopoaaGreatDoorEE
import Derived.Test.YtiakihcolhopoaaGreatDoorED
import Derived.Test.YtiakihcolhopoaaGreatDoorEC
import Derived.Test.YtiakihcolhopoaaGreatDoorEB
import Derived.Test.YtiakihcolhopoaaGreatDoorEA
import Derived.Shelf.SlSortCmp.NoneTotal
import Derived.Test.YtiakihcolhopoaaGreatDoorProg
set_option linter.unusedVariables false
set_option linter.unusedSimpArgs false
namespace Go.Mono
open Go Go.Proofs Go.RowKit Go.Gr Go.Ms
theorem rr:∀(l:List Nat) (S:BS) (i:Nat),(∀x∈l,x<1024)→((l.foldl (fun (S:BS) (x:Nat)=>ins S (x:Int)) S).getLsbD i=true↔S.getLsbD i=true∨i∈l)
 | [],S,i,_=>by simp
 | x::l,S,i,h=>by
  rw[List.foldl_cons,rr l _ i fun y hy=>h y (List.mem_cons_of_mem _ hy),aL S (h x (List.mem_cons_self ..)),List.mem_cons,or_assoc]
open Classical in
noncomputable def ofP (p:Nat→Prop):BS:=((List.range 1024).filter fun i=>decide (p i)).foldl (fun (S:BS) (x:Nat)=>ins S (x:Int)) 0
open Classical in
theorem zO (p:Nat→Prop)(i:Nat):(ofP p).getLsbD i=true↔i<1024∧p i:=by
 rw[ofP,rr _ _ _ fun x hx=>List.mem_range.1 (List.mem_filter.1 hx).1,List.mem_filter,List.mem_range,decide_eq_true_eq]
 exact⟨fun h=>h.elim (fun h=>absurd h (aN i)) id,.inr⟩
noncomputable def mL (nb:Int→BS)(V:BS)(k:Nat):BS:=(msT (bO nb) V k).1
noncomputable def mC (nb:Int→BS)(V:BS)(k:Nat):Nat→Nat:=(msT (bO nb) V k).2
noncomputable def mU (nb:Int→BS)(V:BS)(k:Nat):Nat:=bsA (mC nb V k) (mL nb V k)
def MR (nb:Int→BS)(V:BS)(k v:Nat):Prop:=Rc (bO nb) (mU nb V) (fun k v=>(mL nb V k).getLsbD v=true) (mC nb V) k v
noncomputable def mR (nb:Int→BS)(V:BS)(k:Nat):BS:=ofP (MR nb V k)
theorem cT {nb:Int→BS}{V:BS}{k v:Nat}:(mR nb V k).getLsbD v=true↔MR nb V k v:=by
 rw[mR,zO]
 exact⟨fun h=>h.2,fun h=>⟨aG h.1,h⟩⟩
theorem fB (nb:Int→BS)(V:BS)(k:Nat):mL nb V (k+1)=del (mL nb V k) (mU nb V k:Nat):=jQ
theorem rs (nb:Int→BS)(V:BS):mL nb V 0=V:=by rw[mL,msT]
theorem rt (nb:Int→BS)(V:BS):∀k,k≤card V→card (mL nb V k)+k=card V
 | 0,_=>by rw[rs,Nat.add_zero]
 | k+1,h=>by
  have ih:=rt nb V k (by omega)
  have h1:=fy (mo (c:=mC nb V k) (L:=mL nb V k) (fun e=>by omega)).1
  rw[fB,mU]
  omega
theorem jT (nb:Int→BS)(V:BS):mL nb V 0=V:=by rw[mL,msT]
theorem gQ (nb:Int→BS)(V:BS)(v:Nat):mC nb V 0 v=0:=by rw[mC,msT]
theorem gR (nb:Int→BS)(V:BS)(k v:Nat):mC nb V (k+1) v=mC nb V k v+(if (mR nb V k).getLsbD v=true then 1 else 0):=by
 have e1:=gO (bO nb) V k
 by_cases h:MR nb V k v
 ·rw[if_pos (cT.2 h)]
  have h1:=h.1
  have h2:=h.2
  have h3:=qX (adj:=bO nb) (s:=msT (bO nb) V k) (v:=v) (by rw[← e1];exact h1) (by rw[← e1];exact h2)
  rw[← e1] at h3
  exact h3
 ·rw[if_neg fun hh=>h (cT.1 hh)]
  by_cases h1:(mL nb V (k+1)).getLsbD v=true
  ·have h3:=qY (adj:=bO nb) (s:=msT (bO nb) V k) (v:=v) (by rw[← e1];exact fun h2=>h ⟨h1,h2⟩)
   rw[← e1] at h3
   exact h3
  ·have h3:=zB (adj:=bO nb) (s:=msT (bO nb) V k) (v:=v) (by rw[← e1];exact h1)
   rw[← e1] at h3
   exact h3
theorem ru (nb:Int→BS)(V:BS)(v:Nat):∀k,mC nb V k v≤k
 | 0=>by rw[gQ];exact Nat.le_refl _
 | k+1=>by
  have:=ru nb V v k
  rw[gR]
  split <;> omega
section
variable {nb:Int→BS}{V:BS}(hs:∀i j:Nat,(nb (i:Int)).getLsbD j=true→(nb (j:Int)).getLsbD i=true)(hi:∀i j:Nat,(nb (i:Int)).getLsbD j=true→V.getLsbD i=true)
include hs hi
theorem gS:Run (bO nb) (card V) (mU nb V) (fun k v=>(mL nb V k).getLsbD v=true) (mC nb V):=zG hs hi
theorem rx {k:Nat}(hk:k<card V):V.getLsbD (mU nb V k)=true:=by
 have H:=gS hs hi
 have:=H.sub (Nat.zero_le k) (by omega) (H.mem k hk)
 rw[jT] at this
 exact this
theorem ry {k v:Nat}(hk:k<card V)(h:(mR nb V k).getLsbD v=true):V.getLsbD v=true∧v≠mU nb V k:=by
 have H:=gS hs hi
 have h1:=(cT.1 h).1
 have:=H.sub (Nat.zero_le (k+1)) (by omega) h1
 rw[jT] at this
 exact⟨this,((H.next k hk v).1 h1).2⟩
end
noncomputable def flP (nb:Int→BS)(V:BS)(k:Nat):List (Nat×Nat):=(elems (mR nb V k &&& ~~~nb (mU nb V k:Nat))).map fun v=>(min (mU nb V k) v,max (mU nb V k) v)
noncomputable def flL (nb:Int→BS)(V:BS)(m:Nat):List (Nat×Nat):=(List.range m).flatMap (flP nb V)
theorem gT (nb:Int→BS)(V:BS)(m:Nat):flL nb V (m+1)=flL nb V m++flP nb V m:=by
 rw[flL,flL,List.range_succ,List.flatMap_append,List.flatMap_singleton]
theorem rz {nb:Int→BS}{V:BS}{k:Nat}{p:Nat×Nat}:p∈flP nb V k↔∃v,MR nb V k v∧¬(nb (mU nb V k:Nat)).getLsbD v=true∧p=(min (mU nb V k) v,max (mU nb V k) v):=by
 rw[flP,List.mem_map]
 constructor
 ·rintro⟨v,hv,rfl⟩
  obtain⟨h1,h2⟩:=(aP _ _ _).1 (aK.1 hv).2
  exact⟨v,cT.1 h1,h2,rfl⟩
 ·rintro⟨v,h1,h2,rfl⟩
  exact⟨v,aK.2 ⟨aG h1.1,(aP _ _ _).2 ⟨cT.2 h1,h2⟩⟩,rfl⟩
theorem mt {nb:Int→BS}{V:BS}{m:Nat}{p:Nat×Nat}:p∈flL nb V m↔∃k,k<m∧∃v,MR nb V k v∧¬(nb (mU nb V k:Nat)).getLsbD v=true∧p=(min (mU nb V k) v,max (mU nb V k) v):=by
 rw[flL,List.mem_flatMap]
 constructor
 ·rintro⟨k,hk,h⟩
  exact⟨k,List.mem_range.1 hk,rz.1 h⟩
 ·rintro⟨k,hk,h⟩
  exact⟨k,List.mem_range.2 hk,rz.2 h⟩
theorem zP {nb:Int→BS}{V:BS}(hs:∀i j:Nat,(nb (i:Int)).getLsbD j=true→(nb (j:Int)).getLsbD i=true)(hi:∀i j:Nat,(nb (i:Int)).getLsbD j=true→V.getLsbD i=true){k:Nat}(hk:k<card V):(flP nb V k).length≤card V:=by
 rw[flP,List.length_map,du]
 exact gH fun v h=>(ry hs hi hk ((aP _ _ _).1 h).1).1
theorem jU {nb:Int→BS}{V:BS}(hs:∀i j:Nat,(nb (i:Int)).getLsbD j=true→(nb (j:Int)).getLsbD i=true)(hi:∀i j:Nat,(nb (i:Int)).getLsbD j=true→V.getLsbD i=true):∀m,m≤card V→(flL nb V m).length≤m * card V
 | 0,_=>Nat.zero_le _
 | m+1,h=>by
  have:=jU hs hi m (by omega)
  have:=zP hs hi (k:=m) (by omega)
  rw[gT,List.length_append,Nat.succ_mul];omega
theorem zQ {adj adj2:Nat→Nat→Prop}{n:Nat}{u:Nat→Nat}{R:Nat→Nat→Prop}{cnt:Nat→Nat→Nat}(H:Run adj n u R cnt)(hir:∀a,¬adj a a){F:List (Nat×Nat)}(hm:∀p,p∈F↔∃k,k<n∧∃v,Rc adj u R cnt k v∧¬adj (u k) v∧p=(min (u k) v,max (u k) v))(h2:∀a b,adj2 a b↔adj a b∨(a,b)∈F∨(b,a)∈F)(a b:Nat):adj2 a b↔Hd adj n u R cnt a b:=by
 rw[h2]
 have key:∀a b,(a,b)∈F→Hd adj n u R cnt a b∧Hd adj n u R cnt b a:=fun a b h=>by
  obtain⟨k,hk,v,h1,h2,h3⟩:=(hm _).1 h
  simp only[Prod.mk.injEq] at h3
  obtain⟨rfl,rfl⟩:=h3
  rcases Nat.le_total (u k) v with hle|hle
  ·rw[Nat.min_eq_left hle,Nat.max_eq_right hle];exact⟨.inl ⟨k,hk,rfl,h1⟩,.inr ⟨k,hk,rfl,h1⟩⟩
  ·rw[Nat.min_eq_right hle,Nat.max_eq_left hle];exact⟨.inr ⟨k,hk,rfl,h1⟩,.inl ⟨k,hk,rfl,h1⟩⟩
 constructor
 ·rintro (h|h|h)
  ·exact H.adj_hd h fun e=>hir a (by rw[e] at h ⊢;exact h)
  ·exact (key a b h).1
  ·exact (key b a h).2
 ·have back:∀k v,k<n→Rc adj u R cnt k v→adj (u k) v∨(u k,v)∈F∨(v,u k)∈F:=fun k v hk h=>by
   by_cases hn:adj (u k) v
   ·exact .inl hn
   ·rcases Nat.le_total (u k) v with hle|hle
    ·exact .inr (.inl ((hm _).2 ⟨k,hk,v,h,hn,by rw[Nat.min_eq_left hle,Nat.max_eq_right hle]⟩))
    ·exact .inr (.inr ((hm _).2 ⟨k,hk,v,h,hn,by rw[Nat.min_eq_right hle,Nat.max_eq_left hle]⟩))
  rintro (⟨k,hk,rfl,h⟩|⟨k,hk,rfl,h⟩)
  ·exact back k b hk h
  ·rcases back k a hk h with h|h|h
   ·exact .inl (H.sym _ _ h)
   ·exact .inr (.inr h)
   ·exact .inr (.inl h)
def apL (g:GT)(F:List (Nat×Nat)):GT:=F.foldl (fun g p=>apS g (p.1:Int) (p.2:Int)) g
theorem zR {g:GT}(G:Gr.Ok g)(hl:g.2.length<1024){p q:Nat}(hp:(ai g.1).getLsbD p=true)(hq:(ai g.1).getLsbD q=true)(hpq:p≠q)(i j:Nat):Adj (apS g (p:Int) (q:Int)) i j↔Adj g i j∨(i=p∧j=q)∨(i=q∧j=p):=by
 constructor
 ·intro h
  by_cases hw:bu g (eD (p:Int) (q:Int))=0
  ·obtain⟨p',q',hu,hv,_,he,_⟩:=mr hw
   obtain rfl:p=p':=by omega
   obtain rfl:q=q':=by omega
   rw[he,mq] at h
   exact h
  ·rw[apS,if_neg hw] at h;exact .inl h
 ·rintro (h|⟨rfl,rfl⟩|⟨rfl,rfl⟩)
  ·exact rp h
  ·exact rq G hl hp hq hpq
  ·exact (rq G hl hp hq hpq).symm
theorem jV:∀(F:List (Nat×Nat)) (g:GT),Gr.Ok g→g.2.length+F.length<1024→(∀p∈F,(ai g.1).getLsbD p.1=true∧(ai g.1).getLsbD p.2=true∧p.1≠p.2) →
  Gr.Ok (apL g F)∧(apL g F).1=g.1∧(apL g F).2.length≤g.2.length+F.length∧∀i j,Adj (apL g F) i j↔Adj g i j∨(i,j)∈F∨(j,i)∈F
 | [],g,G,_,_=>⟨G,rfl,Nat.le_refl _,fun i j=>by rw[apL,List.foldl_nil];simp⟩
 | p::F,g,G,hl,h=>by
  rw[List.length_cons] at hl
  obtain⟨h1,h2,h3⟩:=h p (List.mem_cons_self ..)
  have hle:=zM g (p.1:Int) (p.2:Int)
  obtain⟨k1,k2,k3,k4⟩:=jV F (apS g (p.1:Int) (p.2:Int)) (zN G _ _) (by omega) fun q hq=>by rw[ri];exact h q (List.mem_cons_of_mem _ hq)
  have e:apL g (p::F)=apL (apS g (p.1:Int) (p.2:Int)) F:=by rw[apL,apL,List.foldl_cons]
  rw[e]
  refine⟨k1,k2.trans (ri _ _ _),by rw[List.length_cons];exact Nat.le_trans k3 (by omega),fun i j=>?_⟩
  rw[k4 i j,zR G (by omega) h1 h2 h3,List.mem_cons,List.mem_cons]
  obtain⟨a,b⟩:=p
  simp only[Prod.mk.injEq]
  constructor
  ·rintro ((h|⟨h1,h2⟩|⟨h1,h2⟩)|h|h)
   ·exact .inl h
   ·exact .inr (.inl (.inl ⟨h1,h2⟩))
   ·exact .inr (.inr (.inl ⟨h2,h1⟩))
   ·exact .inr (.inl (.inr h))
   ·exact .inr (.inr (.inr h))
  ·rintro (h|(⟨h1,h2⟩|h)|(⟨h1,h2⟩|h))
   ·exact .inl (.inl h)
   ·exact .inl (.inr (.inl ⟨h1,h2⟩))
   ·exact .inr (.inl h)
   ·exact .inl (.inr (.inr ⟨h2,h1⟩))
   ·exact .inr (.inr h)
theorem zS {g:GT}(G:Gr.Ok g):g.2.length≤card (ai g.1) * card (ai g.1):=by
 have h1:=gP (g.2.map (·.1)) ((elems (ai g.1)).flatMap fun a:Nat=>(elems (ai g.1)).map fun b:Nat=>((a:Int),(b:Int))) ?_ ?_
 ·rw[List.length_map] at h1
  refine Nat.le_trans h1 ?_
  have:∀l m:List Nat,(l.flatMap fun a:Nat=>m.map fun b:Nat=>((a:Int),(b:Int))).length=l.length * m.length:=fun l m=>by
   induction l with
   | nil=>simp
   | cons a l ih=>rw[List.flatMap_cons,List.length_append,ih,List.length_map,List.length_cons,Nat.succ_mul,Nat.add_comm]
  rw[this,du];exact Nat.le_refl _
 ·refine List.pairwise_map.2 (G.se.imp fun h e=>?_)
  exact (gw h).2 e
 ·intro x hx
  obtain⟨y,hy,rfl⟩:=List.mem_map.1 hx
  obtain⟨h1,⟨h2,h3⟩,h4,h5⟩:=jK G y hy
  obtain⟨_,r1,r2,_⟩:=G.re y hy
  obtain⟨a,ha⟩:=Int.eq_ofNat_of_zero_le h2
  obtain⟨b,hb⟩:=Int.eq_ofNat_of_zero_le h4
  rw[ha] at r1;rw[hb] at r2
  have r1:=(fx G).2 r1
  have r2:=(fx G).2 r2
  exact List.mem_flatMap.2 ⟨a,aK.2 ⟨aG r1,r1⟩,List.mem_map.2 ⟨b,aK.2 ⟨aG r2,r2⟩,by rw[← ha,← hb]⟩⟩
section
variable {g:GT}(G:Gr.Ok g)(hc:card (ai g.1)≤9){F:List (Nat×Nat)}(hF:F.Perm (flL (nbA g) (ai g.1) (card (ai g.1))))
include G hc hF
theorem mu:F.length≤81∧g.2.length≤81∧∀p∈F,(ai g.1).getLsbD p.1=true∧(ai g.1).getLsbD p.2=true∧p.1≠p.2:=by
 have hs:=fX G
 have hi:∀i j:Nat,(nbA g (i:Int)).getLsbD j=true→(ai g.1).getLsbD i=true:=fun i j h=>eu G j i (hs i j h)
 have h1:=jU hs hi _ (Nat.le_refl _)
 have h2:=zS G
 have h3:=Nat.mul_le_mul hc hc
 refine⟨by rw[hF.length_eq];exact Nat.le_trans h1 h3,Nat.le_trans h2 h3,fun p hp=>?_⟩
 obtain⟨k,hk,v,h4,h5,rfl⟩:=mt.1 (hF.mem_iff.1 hp)
 obtain⟨h6,h7⟩:=ry hs hi hk (cT.2 h4)
 have h8:=rx hs hi hk
 dsimp only
 rcases Nat.le_total (mU (nbA g) (ai g.1) k) v with hle|hle
 ·rw[Nat.min_eq_left hle,Nat.max_eq_right hle];exact⟨h8,h6,Ne.symm h7⟩
 ·rw[Nat.min_eq_right hle,Nat.max_eq_left hle];exact⟨h6,h8,h7⟩
theorem jW (a b:Nat):(nbA (apL g F) (a:Int)).getLsbD b=true↔Hd (bO (nbA g)) (card (ai g.1)) (mU (nbA g) (ai g.1)) (fun k v=>(mL (nbA g) (ai g.1) k).getLsbD v=true) (mC (nbA g) (ai g.1)) a b:=by
 have hs:=fX G
 have hi:∀i j:Nat,(nbA g (i:Int)).getLsbD j=true→(ai g.1).getLsbD i=true:=fun i j h=>eu G j i (hs i j h)
 obtain⟨f1,f2,f3⟩:=mu G hc hF
 obtain⟨k1,k2,k3,k4⟩:=jV F g G (by omega) f3
 refine (bN k1).trans (zQ (gS hs hi) (fun a h=>(((bN G).1 h).inn G).2.2 rfl) (adj2:=Adj (apL g F)) (F:=F) (fun p=>hF.mem_iff.trans mt) (fun a b=>(k4 a b).trans (or_congr (bN G).symm Iff.rfl)) a b)
theorem zT:Chl (nbA (apL g F)) (ai g.1):=by
 have hs:=fX G
 have hi:∀i j:Nat,(nbA g (i:Int)).getLsbD j=true→(ai g.1).getLsbD i=true:=fun i j h=>eu G j i (hs i j h)
 obtain⟨f1,f2,f3⟩:=mu G hc hF
 obtain⟨k1,k2,k3,k4⟩:=jV F g G (by omega) f3
 exact zA (gS hs hi) (fun i h=>by rw[jT];exact h) (fun a h=>(((bN k1).1 h).inn k1).2.2 rfl) (jW G hc hF)
theorem mw:∀k,k≤card (ai g.1)→msT (bO (nbA (apL g F))) (ai g.1) k=msT (bO (nbA g)) (ai g.1) k
 | 0,_=>by rw[msT,msT]
 | k+1,hk=>by
  have ih:=mw k (by omega)
  have hs:=fX G
  have hi:∀i j:Nat,(nbA g (i:Int)).getLsbD j=true→(ai g.1).getLsbD i=true:=fun i j h=>eu G j i (hs i j h)
  have e1:=gO (bO (nbA g)) (ai g.1) k
  have e2:=gO (bO (nbA (apL g F))) (ai g.1) k
  have eU:mU (nbA (apL g F)) (ai g.1) k=mU (nbA g) (ai g.1) k:=by rw[mU,mU,mC,mC,mL,mL,ih]
  have eL:mL (nbA (apL g F)) (ai g.1) (k+1)=mL (nbA g) (ai g.1) (k+1):=by rw[fB,fB,eU,mL,mL,ih]
  have eC:mC (nbA (apL g F)) (ai g.1) k=mC (nbA g) (ai g.1) k:=by rw[mC,mC,ih]
  have eR:∀v,MR (nbA (apL g F)) (ai g.1) k v↔MR (nbA g) (ai g.1) k v:=fun v=>by
   have hcv:=(gS hs hi).conv (fun a h=>(((bN G).1 h).inn G).2.2 rfl) (k:=k) (v:=v) (by omega)
   have ha:bO (nbA (apL g F))=Hd (bO (nbA g)) (card (ai g.1)) (mU (nbA g) (ai g.1)) (fun k v=>(mL (nbA g) (ai g.1) k).getLsbD v=true) (mC (nbA g) (ai g.1)):=funext fun a=>funext fun b=>propext (jW G hc hF a b)
   rw[← ha] at hcv
   refine Iff.trans ?_ hcv
   unfold MR Rc
   dsimp only
   rw[eU,eL,eC]
  have eR':mR (nbA (apL g F)) (ai g.1) k=mR (nbA g) (ai g.1) k:=bI fun v=>by rw[cT,cT,eR v]
  refine Prod.ext eL (funext fun v=>?_)
  have h1:=gR (nbA (apL g F)) (ai g.1) k v
  have h2:=gR (nbA g) (ai g.1) k v
  rw[eR',eC,← h2] at h1
  exact h1
theorem zU:flL (nbA (apL g F)) (ai g.1) (card (ai g.1))=[]:=by
 refine List.eq_nil_iff_forall_not_mem.2 fun p hp=>?_
 obtain⟨k,hk,v,h1,h2,_⟩:=mt.1 hp
 have hs:=fX G
 have hi:∀i j:Nat,(nbA g (i:Int)).getLsbD j=true→(ai g.1).getLsbD i=true:=fun i j h=>eu G j i (hs i j h)
 have ih:=mw G hc hF k (by omega)
 have ih1:=mw G hc hF (k+1) (by omega)
 have eU:mU (nbA (apL g F)) (ai g.1) k=mU (nbA g) (ai g.1) k:=by rw[mU,mU,mC,mC,mL,mL,ih]
 have eL:mL (nbA (apL g F)) (ai g.1) (k+1)=mL (nbA g) (ai g.1) (k+1):=by rw[mL,mL,ih1]
 have eC:mC (nbA (apL g F)) (ai g.1) k=mC (nbA g) (ai g.1) k:=by rw[mC,mC,ih]
 have hcv:=(gS hs hi).conv (fun a h=>(((bN G).1 h).inn G).2.2 rfl) (k:=k) (v:=v) (by omega)
 have ha:bO (nbA (apL g F))=Hd (bO (nbA g)) (card (ai g.1)) (mU (nbA g) (ai g.1)) (fun k v=>(mL (nbA g) (ai g.1) k).getLsbD v=true) (mC (nbA g) (ai g.1)):=funext fun a=>funext fun b=>propext (jW G hc hF a b)
 rw[← ha] at hcv
 have h3:MR (nbA g) (ai g.1) k v:=by
  refine hcv.1 ?_
  unfold MR Rc at h1
  dsimp only at h1
  rw[eU,eL,eC] at h1
  exact h1
 rw[eU] at h2
 exact h2 ((jW G hc hF _ _).2 (.inl ⟨k,hk,rfl,h3⟩))
end
end Go.Mono
namespace Go.Mono
open Go Go.Proofs Go.RowKit Go.Gr
theorem zV {P:Program}{c:Code}{Q:Exit→Act→World→Prop}{a:Act}{w:World}(h:c.wpIn (FW none) 0 P (Exit.noGoto Q) a w):(Code.scope c).wpIn (FW none) 0 P Q a w:=by
 intro b k cs hro hb hr
 have hn:b.roundOf=none:=hro
 have e1:∀a k,b.atR a k=b.at a k:=fun a k=>by rw[Frame.atR_of_none hn]
 have h0:(lone (b.atR a (.code (.scope c)::k)) cs w).fenced P (FW none):=fenced_calm hb hr rfl
 have s1:step P (lone (b.atR a (.code (.scope c)::k)) cs w)=.next (lone (b.atR a (.code c::.inScope c::k)) cs w):=by rw[e1,e1];exact step_scope
 have s2:∀a w,step P (lone (b.atR a (.inScope c::k)) cs w)=.next (lone (b.atR a k) cs w):=fun a w=>by rw[e1,e1];exact step_inScope
 obtain⟨e,a₁,w₁,hq,harr⟩:=h b (.inScope c::k) cs hro hb hr
 cases e with
 | normal=>exact⟨.normal,a₁,w₁,hq,.head h0 s1 (StepsIn.trans harr (.one (fenced_calm hb hr rfl) (s2 _ _)))⟩
 | exit id=>
  have hx:exitTo id (.inScope c::k)=exitTo id k:=by simp[exitTo]
  exact⟨.exit id,a₁,w₁,hq,fun k' hk=>.head h0 s1 (harr.1 k' (by rw[hx];exact hk)),fun hr' hk=>by rw[hn] at hr';cases hr'⟩
 | goto l=>exact hq.elim
 | ret=>exact⟨_,a₁,w₁,hq,.of_steps (.one h0 s1) harr⟩
 | panic ch=>exact⟨_,a₁,w₁,hq,.of_steps (.one h0 s1) harr⟩
 | outgrown=>exact⟨_,a₁,w₁,hq,.of_steps (.one h0 s1) harr⟩
theorem gU {g:GT}(ok:Gr.Ok g)(i:Nat):nbA g (i:Int)=nbG g.2 (i:Int):=by
 rw[md]
 by_cases h:(ai g.1).getLsbD i=true
 ·rw[if_pos h]
 ·rw[if_neg h]
  refine bI fun j=>⟨fun hh=>absurd hh (aN j),fun hh=>?_⟩
  have:Adj g i j:=(mb (jK ok) i j).1 hh
  exact absurd (this.inn ok).1 h
theorem zX {G:Nat→Prop}{N:Nat}(g:GT)(ok:Gr.Ok g)(v:Value)(X:BS)(W:World)(hT:Tab W)(h:(Dv (ptE (grE N)) G (some g)).p v W)(hl2:g.2.length≤100000)(hN:N≤1000000) :
  Calls Tryz.prog 114 #[v,ah X] W (Post (E (B (cE (nbA g) X))) W):=by
 have hv:(Dv (ptE (grE N)) G0 (some g)).p v W:=Dv.weak h fun b _ hb=>hb.elim
 clear h
 have gs2:=ok.se
 have hT0:=hT.lt
 have h1c:v.cells = #[v]:=by
  obtain⟨ad,rfl,_⟩:=Dv.pt.1 hv
  rfl
 refine dr (args:=[v,ah X]) (As:=[E v,E (ah X)]) Tryz.func114 rfl Tryz.ntmps114 (Nat.le_of_ble_eq_true rfl) ?_ (fun a hf=>?_) (Nat.le_of_ble_eq_true rfl)
 ·exact bq rfl (bq rfl dG)
 dsimp only[params,Nat.reduceAdd] at hf
 have e:=Ext.rfl' W
 refine seq ?_
 refine aj ?_
 refine aJ hf rfl (by decide) fun a b2 w v2 hv2 e' hb2 hs2 B2 hf=>?_
 have hle2:=Nat.le_trans e.size (Nat.le_of_eq hb2.symm)
 replace hT:=hT.ext e'
 replace e:=e.tr e'
 clear e'
 refine aJ hf rfl (by decide) fun a b3 w v3 hv3 e' hb3 hs3 B3 hf=>?_
 have hle3:=Nat.le_trans e.size (Nat.le_of_eq hb3.symm)
 have lt3_B2:=B2.lt
 replace hT:=hT.ext e'
 replace e:=e.tr e'
 replace B2:=B2.ext e'
 clear e'
 refine aC I4 hf (by decide) fun a b4 w e' hb4 hs4 B4 hf=>?_
 have hle4:=Nat.le_trans e.size (Nat.le_of_eq hb4.symm)
 have lt4_B2:=B2.lt
 have lt4_B3:=B3.lt
 replace hT:=hT.ext e'
 replace e:=e.tr e'
 replace B2:=B2.ext e'
 replace B3:=B3.ext e'
 refine aa ?_
 cases hv2;cases hv3
 rw[h1c] at B2
 replace B3:Blk w b3 (au X) 47:=B3
 replace B4:Blk w b4 #[B false] 4:=B4
 replace hf:=hf.kp [2,3,4]
 obtain⟨Nz,hNz⟩:∃Nz,Nz=w.heap.size:=⟨_,rfl⟩
 repeat refine seq ?_
 refine ac 2 hf (by decide +kernel) ?_
 refine st ((ldW T47 rfl B3 rfl).eq ((rfl:_=ah X))) ?_
 refine st (aw (A:=cC Nz X) cJ rfl (fun v w' he h=>by cases h;exact Calls.mono (cM _ w') (fun en w2 ⟨u,h1,h2,b',h3,h4,h5⟩=>⟨u,h1,h2,b',by have:=he.size;omega,h4,h5⟩))) ?_
 refine en fun a w e' hf=>?_
 replace hT:=hT.ext e'
 replace e:=e.tr e'
 replace B2:=B2.ext e'
 replace B3:=B3.ext e'
 replace B4:=B4.ext e'
 refine aa ?_
 obtain⟨vv,⟨b7,h7,rfl,BS⟩,hf⟩:=hf.fix 7 rfl
 replace hf:=hf.kp [2,3,4,7]
 have hBW:W.heap.size≤w.heap.size:=e.size
 have h0w:0<w.heap.size:=hT.lt
 have l2:=B2.lt
 have l3:=B3.lt
 have l4:=B4.lt
 have n4:W.heap.size≤b4∧b2≠b4∧b3≠b4:=by omega
 let tst:Nat→Bool:=fun a=>decide (del X (a:Int) &&& ~~~nbA g (a:Int)=0)
 have htst:∀a:Nat,(del X (a:Int) &&& ~~~nbG g.2 (a:Int)==0)=tst a:=fun a=>by
  show _=decide _
  rw[gU ok];rfl
 have hall:cE (nbA g) X=(elems X).all tst:=rfl
 rw[hall]
 generalize tst=tst at htst
 clear hall
 refine blk ?_
 refine cS (S:=X) hf rfl BS (by decide) (fun s w1=>(Ext W w1∧Tab w1∧Blk w1 b2 #[v] 28∧Blk w1 b3 (au X) 47∧Blk w1 b4 #[B false] 4)∧s.all tst=true) (fun ex w1=>ex=.ret∧(Ext W w1∧Blk w1 b4 #[B false] 4)∧(elems X).all tst=false) (fun s w1 h=>h.1.2.1)
  ⟨⟨e,hT,B2,B3,B4⟩,rfl⟩ (fun s w1 w2 h hs k=>⟨⟨h.1.1.kp k hBW,h.1.2.1.kp k h0w,h.1.2.2.1.kp k (fun hh=>by have:=hh.1;omega),h.1.2.2.2.1.kp k (fun hh=>by have:=hh.1;omega),h.1.2.2.2.2.kp k (fun hh=>by have:=hh.1;omega)⟩,h.2⟩) (fun ex w1 w2 h hs k=>⟨h.1,⟨h.2.1.1.kp k hBW,h.2.1.2.kp k (fun hh=>by have:=hh.1;omega)⟩,h.2.2⟩) ?_ ?_ ?_
 ·intro lb s x rest a1 w1 hs hJ hlw hf
  have hx1024:x<1024:=(aK.1 (by rw[hs];simp)).1
  generalize hBz:w.heap.size=Bz at *
  refine aj ?_
  refine ae hf rfl (by decide) fun a hf=>?_
  refine aa ?_
  simp only[Exit.then]
  refine⟨Kh.rfl' _ _,fun w3 k3 hsz3=>?_⟩
  obtain⟨⟨e',hT',B2',B3',B4'⟩,hall⟩:=hJ
  have hJ3:Ext W w3∧Tab w3∧Blk w3 b2 #[v] 28∧Blk w3 b3 (au X) 47∧Blk w3 b4 #[B false] 4:=⟨e'.kp k3 hBW,hT'.kp k3 h0w,B2'.kp k3 (fun hh=>by have:=hh.1;omega),B3'.kp k3 (fun hh=>by have:=hh.1;omega),B4'.kp k3 (fun hh=>by have:=hh.1;omega)⟩
  clear e hT B2 B3 B4 BS e' hT' B2' B3' B4'
  replace hf:=hf.pure w3
  obtain⟨e,hT,B2,B3,B4⟩:=hJ3
  have kh:=Kh.rfl' Bz w3
  have e0:=e
  replace hf:=hf.kp [2,3,4,5]
  refine blk ?_
  refine seq ?_
  refine reg 8 Mix.mix hf (by decide +kernel) ?_
  refine st ((ldW T47 rfl B3 rfl).eq ((rfl:_=ah X))) ?_
  refine st (mv rfl) ?_
  refine st (aD (A:=E (ah (del X (x:Int)))) gl rfl rfl (fun v u w he k1 k2=>by cases k1;cases k2;exact gq X _ w)) ?_
  refine st (ld1 (v:=v) T28 rfl B2 rfl) ?_
  refine st (mv rfl) ?_
  refine st (aD (A:=E (ah (nbG g.2 (x:Int)))) dT rfl rfl (fun v u w he k1 k2=>by cases k1;cases k2;exact eT g _ _ w (VA.st _ _ _ _ (Ext.tr e0 he) hv) gs2 hl2 hN)) ?_
  refine st (aD (A:=E (B (tst x))) nk rfl rfl (fun v u w he k1 k2=>by cases k1;cases k2;rw[← htst];exact oq _ _ w)) ?_
  refine st (bj rfl) ?_
  refine en fun a w e' hf=>?_
  replace hT:=hT.ext e'
  replace kh:=kh.tr (Kh.ext e')
  replace e:=e.tr e'
  replace B2:=B2.ext e'
  replace B3:=B3.ext e'
  replace B4:=B4.ext e'
  refine aa ?_
  refine ifc hf rfl (fun hb=>?_) (fun hb=>?_)
  ·replace hb:(!tst x)=true:=hb
   refine seq ?_
   refine aj ?_
   haveI hinr:∀G0,InR (GB W G0) (some b4):=fun G0=>InR.gb (by omega)
   refine aO T4 hf rfl rfl rfl B4 (by exact Nat.zero_lt_one) fun w hg hsz B4 hf=>?_
   replace hT:=hT.gr hg (by omega)
   replace kh:=kh.tr (Kh.gr hg (fun hh=>by have:=hh.1;omega))
   replace e:=e.gr hg (by omega)
   replace B2:=B2.gr hg (by omega)
   replace B3:=B3.gr hg (by omega)
   clear hg
   refine aa ?_
   refine an ?_
   simp only[Exit.inBlock]
   refine⟨⟨rfl,⟨e,B4⟩,?_⟩,kh⟩
   rw[hs,List.all_append,List.all_cons,hall]
   simp only[Bool.not_eq_true'] at hb
   rw[hb];rfl
  ·replace hb:(!tst x)=false:=hb
   refine ar ?_
   simp only[Exit.then,Exit.inBlock,↓reduceIte]
   refine⟨⟨⟨e,hT,B2,B3,B4⟩,?_⟩,kh⟩
   rw[List.all_append,hall,List.all_cons]
   simp only[Bool.not_eq_false'] at hb
   rw[hb];rfl
 ·intro a' w' hf' hJ hsz hDn
  simp only[Exit.inBlock,↓reduceIte,Exit.then]
  have hD:Ds [w.heap.size] w':=(Ds.nil w').cons hDn (by simp)
  have hf:FrD 17 (bK [w.heap.size]) a' w' [(4,E (ptr b4))]:=hf'.keep [4]
  have hDW:∀d∈[w.heap.size],W.heap.size≤d:=fun d hd=>by rw[List.mem_singleton] at hd;omega
  clear hf' e hT B2 B3 B4 BS hDn
  obtain⟨⟨e,hT,B2,B3,B4⟩,hall⟩:=hJ
  have hbD:¬b4∈[w.heap.size]:=fun h=>by rw[List.mem_singleton] at h;omega
  generalize [w.heap.size]=D2 at *
  generalize w'=w at *
  refine seq ?_
  refine aj ?_
  refine aO T4 hf rfl rfl rfl B4 (by decide) fun w hg hsz B4 hf=>?_
  refine aa ?_
  replace B4:Blk w b4 #[B true] 4:=B4
  replace e:=e.gr hg n4.1
  replace hD:=hD.gr hg hbD
  refine an ?_
  refine oE rfl T4 hf rfl B4 hD ⟨_,rfl,e.shut hDW,?_⟩
  rw[hall];rfl
 ·intro ex c a' w' hc hf' hX hsz hDn
  obtain⟨rfl,⟨e',B4'⟩,hall⟩:=hX
  simp only[Exit.inBlock,↓reduceIte,Exit.then]
  have hD:Ds [w.heap.size] w':=(Ds.nil w').cons hDn (by simp)
  have hf:FrD 17 (bK [w.heap.size]) a' w' [(4,E (ptr b4))]:=hf'.keep [4]
  have hDW:∀d∈[w.heap.size],W.heap.size≤d:=fun d hd=>by rw[List.mem_singleton] at hd;omega
  refine oE rfl T4 hf rfl B4' hD ⟨_,rfl,e'.shut hDW,?_⟩
  rw[hall];rfl
theorem zY {G:Nat→Prop}{N:Nat}(g:GT)(ok:Gr.Ok g)(v:Value)(id:Nat)(L:BS)(W:World)(hT:Tab W)(h:(Dv (ptE (grE N)) G (some g)).p v W)(hl2:g.2.length≤100000)(hN:N≤1000000) :
  Calls Tryz.prog 83 #[v,I (id:Nat),ah L] W (Post (E (B (cE (nbA g) (nbA g (id:Int) &&& L)))) W):=by
 refine enter (args:=[v,I (id:Nat),ah L]) (As:=[E v,E (I (id:Nat)),E (ah L)]) Tryz.func83 rfl Tryz.ntmps83 (Nat.le_of_ble_eq_true rfl) ?_ (fun a hf=>?_) (Nat.le_of_ble_eq_true rfl)
 rotate_left
 dsimp only[params,Nat.reduceAdd] at hf
 rotate_right
 ·exact eH rfl rfl rfl
 have e:=Ext.rfl' W
 refine seq ?_
 refine aj ?_
 refine aJ hf rfl (by decide) fun a b5 w v5 hv5 e' hb5 hs5 B5 hf=>?_
 have hle5:=Nat.le_trans e.size (Nat.le_of_eq hb5.symm)
 replace hT:=hT.ext e'
 replace e:=e.tr e'
 refine ae hf rfl (by decide) fun a hf=>?_
 refine aa ?_
 cases hv5
 replace B5:Blk w b5 (au L) 47:=B5
 have e0:=e
 refine seq ?_
 refine reg 7 Mix.mix hf (by decide +kernel) ?_
 refine st (mv rfl) ?_
 refine st (mv rfl) ?_
 refine st (mv rfl) ?_
 refine st (aD (A:=E (ah (nbA g (id:Int)))) (B:=E v) (C:=E (I (id:Nat))) dT rfl rfl (fun v u w he k1 k2=>by cases k1;cases k2;rw[gU ok];exact eT g _ _ w (VA.st _ _ _ _ (Ext.tr e0 he) h) ok.se hl2 hN)) ?_
 refine st ((ldW T47 rfl B5 rfl).eq ((rfl:_=ah L))) ?_
 refine st (aD (A:=E (ah (nbA g (id:Int) &&& L))) eB rfl rfl (fun v u w he h h'=>by cases h;cases h';exact eJ _ L w)) ?_
 refine st (aD (A:=E (B (cE (nbA g) (nbA g (id:Int) &&& L)))) (B:=E v) ui rfl rfl (fun v u w he k1 k2=>by cases k1;cases k2;exact zX g ok v _ w (hT.ext he) (VA.st _ _ _ _ (Ext.tr e0 he) h) hl2 hN)) ?_
 refine en fun a w e' hf=>?_
 replace hT:=hT.ext e'
 replace e:=e.tr e'
 replace B5:=B5.ext e'
 refine ae hf rfl (by decide) fun a hf=>?_
 refine aa ?_
 refine an ?_
 refine az rfl hf rfl ?_
 rintro _ rfl
 exact⟨_,rfl,e,rfl⟩
def bsO (nb:Int→BS)(s:List Nat):BS:=s.foldl (fun (o:BS) (v:Nat)=>o ||| nb (v:Int)) 0
def cB (nb:Int→BS)(S:BS):BS:=bsO nb (elems S) &&& ~~~S
theorem zZ (nb:Int→BS)(s:List Nat)(x:Nat):bsO nb (s++[x])=bsO nb s ||| nb (x:Int):=by simp only[bsO,List.foldl_append,List.foldl_cons,List.foldl_nil]
theorem rA {G:Nat→Prop}{N:Nat}(g:GT)(ok:Gr.Ok g)(v:Value)(X:BS)(W:World)(hT:Tab W)(h:(Dv (ptE (grE N)) G (some g)).p v W)(hl2:g.2.length≤100000)(hN:N≤1000000) :
  Calls Tryz.prog 128 #[v,ah X] W (Post (E (ah (cB (nbA g) X))) W):=by
 have hv:(Dv (ptE (grE N)) G0 (some g)).p v W:=Dv.weak h fun b _ hb=>hb.elim
 clear h
 have gs2:=ok.se
 have hT0:=hT.lt
 have h1c:v.cells = #[v]:=by
  obtain⟨ad,rfl,_⟩:=Dv.pt.1 hv
  rfl
 refine dr (args:=[v,ah X]) (As:=[E v,E (ah X)]) Tryz.func128 rfl Tryz.ntmps128 (Nat.le_of_ble_eq_true rfl) ?_ (fun a hf=>?_) (Nat.le_of_ble_eq_true rfl)
 ·exact bq rfl (bq rfl dG)
 dsimp only[params,Nat.reduceAdd] at hf
 have e:=Ext.rfl' W
 refine seq ?_
 refine aj ?_
 refine aJ hf rfl (by decide) fun a b2 w v2 hv2 e' hb2 hs2 B2 hf=>?_
 have hle2:=Nat.le_trans e.size (Nat.le_of_eq hb2.symm)
 replace hT:=hT.ext e'
 replace e:=e.tr e'
 clear e'
 refine aJ hf rfl (by decide) fun a b3 w v3 hv3 e' hb3 hs3 B3 hf=>?_
 have hle3:=Nat.le_trans e.size (Nat.le_of_eq hb3.symm)
 have lt3_B2:=B2.lt
 replace hT:=hT.ext e'
 replace e:=e.tr e'
 replace B2:=B2.ext e'
 clear e'
 refine aC I47 hf (by decide) fun a b4 w e' hb4 hs4 B4 hf=>?_
 have hle4:=Nat.le_trans e.size (Nat.le_of_eq hb4.symm)
 have lt4_B2:=B2.lt
 have lt4_B3:=B3.lt
 replace hT:=hT.ext e'
 replace e:=e.tr e'
 replace B2:=B2.ext e'
 replace B3:=B3.ext e'
 refine aa ?_
 cases hv2;cases hv3
 rw[h1c] at B2
 replace B3:Blk w b3 (au X) 47:=B3
 simp only[Value.cells,cm] at B4
 replace hf:=hf.kp [2,3,4]
 refine seq ?_
 refine aj ?_
 refine aC I47 hf (by decide) fun a b5 w e' hb5 hs5 B5 hf=>?_
 have hle5:=Nat.le_trans e.size (Nat.le_of_eq hb5.symm)
 have lt5_B2:=B2.lt
 have lt5_B3:=B3.lt
 have lt5_B4:=B4.lt
 replace hT:=hT.ext e'
 replace e:=e.tr e'
 replace B2:=B2.ext e'
 replace B3:=B3.ext e'
 replace B4:=B4.ext e'
 refine aa ?_
 simp only[Value.cells,cm] at B5
 replace hf:=hf.kp [2,3,4,5]
 have n5:W.heap.size≤b4∧W.heap.size≤b5∧b2≠b5∧b3≠b5∧b4≠b5∧b2≠b4∧b3≠b4:=by omega
 obtain⟨Nz,hNz⟩:∃Nz,Nz=w.heap.size:=⟨_,rfl⟩
 repeat refine seq ?_
 refine ac 2 hf (by decide +kernel) ?_
 refine st ((ldW T47 rfl B3 rfl).eq ((rfl:_=ah X))) ?_
 refine st (aw (A:=cC Nz X) cJ rfl (fun v w' he h=>by cases h;exact Calls.mono (cM _ w') (fun en w2 ⟨u,h1,h2,b',h3,h4,h5⟩=>⟨u,h1,h2,b',by have:=he.size;omega,h4,h5⟩))) ?_
 refine en fun a w e' hf=>?_
 replace hT:=hT.ext e'
 replace e:=e.tr e'
 replace B2:=B2.ext e'
 replace B3:=B3.ext e'
 replace B4:=B4.ext e'
 replace B5:=B5.ext e'
 refine aa ?_
 obtain⟨vv,⟨b8,h8,rfl,BS⟩,hf⟩:=hf.fix 8 rfl
 replace hf:=hf.kp [2,3,4,5,8]
 have hBW:W.heap.size≤w.heap.size:=e.size
 have h0w:0<w.heap.size:=hT.lt
 have l2:=B2.lt
 have l3:=B3.lt
 have l4:=B4.lt
 have l5:=B5.lt
 refine blk ?_
 refine cS (S:=X) hf rfl BS (by decide) (fun s w1=>Ext W w1∧Tab w1∧Blk w1 b2 #[v] 28∧Blk w1 b3 (au X) 47∧Blk w1 b4 (au 0) 47∧Blk w1 b5 (au (bsO (nbA g) s)) 47) (fun ex w1=>False) (fun s w1 h=>h.2.1)
  ⟨e,hT,B2,B3,B4,B5⟩ (fun s w1 w2 h hs k=>⟨h.1.kp k hBW,h.2.1.kp k h0w,h.2.2.1.kp k (fun hh=>by have:=hh.1;omega),h.2.2.2.1.kp k (fun hh=>by have:=hh.1;omega),h.2.2.2.2.1.kp k (fun hh=>by have:=hh.1;omega),h.2.2.2.2.2.kp k (fun hh=>by have:=hh.1;omega)⟩) (fun _ _ _ h=>h.elim) ?_ ?_ (fun _ _ _ _ _ _ h=>h.elim)
 ·intro lb s x rest a1 w1 hs hJ hlw hf
  have hx1024:x<1024:=(aK.1 (by rw[hs];simp)).1
  generalize hBz:w.heap.size=Bz at *
  refine aj ?_
  refine ae hf rfl (by decide) fun a hf=>?_
  refine aa ?_
  simp only[Exit.then]
  refine⟨Kh.rfl' _ _,fun w3 k3 hsz3=>?_⟩
  obtain⟨e',hT',B2',B3',B4',B5'⟩:=hJ
  have hJ3:Ext W w3∧Tab w3∧Blk w3 b2 #[v] 28∧Blk w3 b3 (au X) 47∧Blk w3 b4 (au 0) 47∧Blk w3 b5 (au (bsO (nbA g) s)) 47:=⟨e'.kp k3 hBW,hT'.kp k3 h0w,B2'.kp k3 (fun hh=>by have:=hh.1;omega),B3'.kp k3 (fun hh=>by have:=hh.1;omega),B4'.kp k3 (fun hh=>by have:=hh.1;omega),B5'.kp k3 (fun hh=>by have:=hh.1;omega)⟩
  clear e hT B2 B3 B4 B5 BS e' hT' B2' B3' B4' B5'
  replace hf:=hf.pure w3
  obtain⟨e,hT,B2,B3,B4,B5⟩:=hJ3
  have kh:=Kh.rfl' Bz w3
  obtain⟨O,hO⟩:∃O,O=bsO (nbA g) s:=⟨_,rfl⟩
  have hO2:O ||| nbA g (x:Int)=bsO (nbA g) (s++[x]):=by rw[zZ,hO]
  rw[← hO] at B5
  have e0:=e
  replace hf:=hf.kp [2,3,4,5,6]
  refine blk ?_
  refine reg 5 Mix.mix hf (by decide +kernel) ?_
  refine st ((ldW T47 rfl B5 rfl).eq ((rfl:_=ah O))) ?_
  refine st (ld1 (v:=v) T28 rfl B2 rfl) ?_
  refine st (mv rfl) ?_
  refine st (aD (A:=E (ah (nbA g (x:Int)))) dT rfl rfl (fun v u w he k1 k2=>by cases k1;cases k2;rw[gU ok];exact eT g _ _ w (VA.st _ _ _ _ (Ext.tr e0 he) hv) gs2 hl2 hN)) ?_
  refine st (aD (A:=E (ah (O ||| nbA g (x:Int)))) jg rfl rfl (fun v u w he k1 k2=>by cases k1;cases k2;exact jn _ _ w)) ?_
  refine en fun a w e' hf=>?_
  replace hT:=hT.ext e'
  replace kh:=kh.tr (Kh.ext e')
  replace e:=e.tr e'
  replace B2:=B2.ext e'
  replace B3:=B3.ext e'
  replace B4:=B4.ext e'
  replace B5:=B5.ext e'
  clear e'
  replace hf:=hf.kp [2,3,4,5,14]
  refine aF T47 hf rfl rfl (aU _) B5 rfl (bh _) fun w hg hsz B5 hf=>?_
  replace e:=e.gr hg n5.2.1;replace hT:=hT.gr hg (by omega);replace B2:=B2.gr hg n5.2.2.1;replace B3:=B3.gr hg n5.2.2.2.1;replace B4:=B4.gr hg n5.2.2.2.2.1
  replace kh:=kh.tr (Kh.gr hg fun hh=>by have:=hh.1;omega)
  refine aa ?_
  simp only[Exit.inBlock]
  rw[hO2] at B5
  exact⟨⟨e,hT,B2,B3,B4,B5⟩,kh⟩
 ·intro a' w' hf' hJ hsz hDn
  simp only[Exit.inBlock,↓reduceIte,Exit.then]
  have hD:Ds [w.heap.size] w':=(Ds.nil w').cons hDn (by simp)
  have hf:FrD 18 (bK [w.heap.size]) a' w' [(3,E (ptr b3)),(4,E (ptr b4)),(5,E (ptr b5))]:=hf'.keep [3,4,5]
  have hDW:∀d∈[w.heap.size],W.heap.size≤d:=fun d hd=>by rw[List.mem_singleton] at hd;omega
  clear hf' e hT B2 B3 B4 B5 BS hDn
  obtain⟨e,hT,B2,B3,B4,B5⟩:=hJ
  have hbD:¬b4∈[w.heap.size]:=fun h=>by rw[List.mem_singleton] at h;omega
  generalize [w.heap.size]=D2 at *
  generalize w'=w at *
  obtain⟨O,hO⟩:∃O,O=bsO (nbA g) (elems X):=⟨_,rfl⟩
  rw[← hO] at B5
  refine seq ?_
  refine ac 3 hf (by decide +kernel) ?_
  refine st ((ldW T47 rfl B5 rfl).eq ((rfl:_=ah O))) ?_
  refine st ((ldW T47 rfl B3 rfl).eq ((rfl:_=ah X))) ?_
  refine st (aD (A:=E (ah (O &&& ~~~X))) dC rfl rfl (fun v u w he h h'=>by cases h;cases h';exact dK _ _ w)) ?_
  refine en fun a w e' hf=>?_
  replace e:=e.tr e'
  replace B3:=B3.ext e'
  replace B4:=B4.ext e'
  replace B5:=B5.ext e'
  replace hD:=hD.ext e'
  clear e'
  refine aF T47 hf rfl rfl (aU _) B4 rfl (bh _) fun w hg hsz B4 hf=>?_
  refine aa ?_
  replace e:=e.gr hg n5.1
  replace hD:=hD.gr hg hbD
  refine an ?_
  refine vU rfl T47 hf rfl B4 (bh _) hD ⟨_,rfl,e.shut hDW,?_⟩
  rw[hO];rfl
def eX (nb:Int→BS)(R:BS):Nat→BS→Option BS
 | 0,_=>none
 | k+1,p=>if cB nb p &&& R=0 then some p else eX nb R k (p ||| (cB nb p &&& R))
def my (o:Option Nat)(f:Nat→Option BS)(c:BS→Option (List BS)):Option (List BS):=match o with
 | none=>some []
 | some i=>match f i with
  | none=>none
  | some p=>(c p).map (p :: ·)
def cc (nb:Int→BS)(m:Nat):Nat→BS→Option (List BS)
 | 0,_=>none
 | k+1,R=>my (bd R) (fun i=>eX nb R m (ins 0 (i:Int))) fun p=>cc nb m k (R &&& ~~~p)
theorem a0a (nb:Int→BS)(m:Nat)(R:BS):cc nb m 0 R=none:=rfl
theorem rB (nb:Int→BS)(m k:Nat)(R:BS):cc nb m (k+1) R=my (bd R) (fun i=>eX nb R m (ins 0 (i:Int))) fun p=>cc nb m k (R &&& ~~~p):=rfl
theorem a0b (nb:Int→BS)(m k:Nat){R:BS}(h:bd R=none):cc nb m (k+1) R=some []:=by
 rw[rB,h];rfl
theorem a0c (nb:Int→BS)(m k:Nat){R:BS}{i:Nat}(h:bd R=some i){tl:List BS}(hc:cc nb m (k+1) R=some tl):∃p tl2,eX nb R m (ins 0 (i:Int))=some p∧cc nb m k (R &&& ~~~p)=some tl2∧tl=p::tl2:=by
 rw[rB,h] at hc
 generalize hg:eX nb R m (ins 0 (i:Int))=q at *
 simp only[my] at hc
 rw[hg] at hc
 cases q with
 | none=>cases hc
 | some p=>
  obtain⟨tl2,h1,h2⟩:=Option.map_eq_some_iff.1 hc
  exact⟨p,tl2,rfl,h1,h2.symm⟩
theorem a0d (nb:Int→BS)(R p:BS):eX nb R 0 p=none:=rfl
theorem a0e (nb:Int→BS)(R p:BS)(k:Nat):eX nb R (k+1) p=if cB nb p &&& R=0 then some p else eX nb R k (p ||| (cB nb p &&& R)):=rfl
theorem a0f (S:BS)(x:Int):[x].foldl ins S=ins S x:=rfl
theorem rC {G:Nat→Prop}{N:Nat}(g:GT)(ok:Gr.Ok g)(gv:Value)(X:BS)(W:World)(hT:Tab W)(h:(Dv (ptE (grE N)) G (some g)).p gv W)(hl1:g.1.length≤100000)(hl2:g.2.length≤100000)(hN:N≤1000000)(m K:Nat)(hK:K≤10000)(L:List BS)(hL:cc (nbA g) m K (ai g.1 &&& ~~~X)=some L) :
  Calls Tryz.prog 127 #[gv,ah X] W (Post (OwA aX 47 W.heap.size G0 L) W):=by
 have hv:(Dv (ptE (grE N)) G0 (some g)).p gv W:=Dv.weak h fun b _ hb=>hb.elim
 clear h
 have hT0:=hT.lt
 refine enter (args:=[gv,ah X]) (As:=[E gv,E (ah X)]) Tryz.func127 rfl Tryz.ntmps127 (Nat.le_of_ble_eq_true rfl) ?_ (fun a hf=>?_) (Nat.le_of_ble_eq_true rfl)
 rotate_left
 dsimp only[params,Nat.reduceAdd] at hf
 rotate_right
 ·exact arg2 rfl rfl
 have e:=Ext.rfl' W
 refine seq ?_
 refine aj ?_
 refine aJ hf rfl (by decide) fun a b3 w v3 hv3 e' hb3 hs3 B3 hf=>?_
 have hle3:=Nat.le_trans e.size (Nat.le_of_eq hb3.symm)
 replace hT:=hT.ext e'
 replace e:=e.tr e'
 refine ae hf rfl (by decide) fun a hf=>?_
 refine aa ?_
 cases hv3
 replace B3:Blk w b3 (au X) 47:=B3
 replace hf:=hf.kp [0,3]
 refine seq ?_
 refine aj ?_
 refine ae hf rfl (by decide) fun a hf=>?_
 refine aa ?_
 replace hf:=hf.kp [0,3,5]
 have e0:=e
 obtain⟨V,hV⟩:∃V,V=ai g.1:=⟨_,rfl⟩
 obtain⟨R0,hR0⟩:∃R0,R0=V &&& ~~~X:=⟨_,rfl⟩
 rw[← hV,← hR0] at hL
 obtain⟨nb,hnb⟩:∃nb,nb=nbA g:=⟨_,rfl⟩
 rw[← hnb] at hL
 have fBs:∀(p:BS) (w:World),Ext W w→Tab w→Calls Tryz.prog 128 #[gv,ah p] w (Post (E (ah (cB nb p))) w):=fun p w e hT=>by rw[hnb];exact rA g ok gv p w hT (VA.st _ _ _ _ e hv) hl2 hN
 obtain⟨No,hNo⟩:∃No,No=w.heap.size:=⟨_,rfl⟩
 have hWo:W.heap.size≤No:=by rw[hNo];exact e.size
 refine seq ?_
 refine reg 5 Mix.mix hf (by decide +kernel) ?_
 refine st (mv rfl) ?_
 refine st (aw (A:=E (ah V)) (B:=E gv) fa rfl (fun u w he k=>by cases k;rw[hV];exact fw g _ w (VA.st _ _ _ _ (Ext.tr e0 he) hv) ok.sv hl1 hN)) ?_
 refine st ((ldW T47 rfl B3 rfl).eq ((rfl:_=ah X))) ?_
 refine st (aD (A:=E (ah R0)) (B:=E (ah V)) (C:=E (ah X)) dC rfl rfl (fun v u w he h h'=>by cases h;cases h';rw[hR0];exact dK _ _ w)) ?_
 refine st (alD I47) ?_
 refine en fun a w e' hf=>?_
 replace hT:=hT.ext e'
 replace e:=e.tr e'
 replace B3:=B3.ext e'
 clear e'
 clear e0
 obtain⟨_,⟨b6,hb6,rfl,B6⟩,hf⟩:=hf.fix 6 rfl
 rw[← hNo] at hb6
 simp only[Value.cells,cm] at B6
 have n6:W.heap.size≤b6:=by omega
 replace hf:=hf.kp [0,5,6,14]
 clear hNo
 refine aF T47 hf rfl rfl (aU _) B6 rfl rfl fun w hg hsz B6 hf=>?_
 replace e:=e.gr hg (by omega);replace hT:=hT.gr hg (by omega)
 clear hg hsz B3
 refine aa ?_
 replace hf:=hf.kp [0,5,6]
 obtain⟨N1,hN1⟩:∃N1,N1=w.heap.size:=⟨_,rfl⟩
 have hN1s:N1≤w.heap.size:=Nat.le_of_eq hN1
 have l6:b6<N1:=by rw[hN1];exact B6.lt
 have hWN:W.heap.size≤N1:=by rw[hN1];exact e.size
 have Ho:OwR aX 47 N1 G0 w [] (.slice none 0 0):=OwR.nil aX _ hN1s fun b hb=>hb.elim
 clear hN1
 repeat refine seq ?_
 refine ac 7 hf (by decide +kernel) ?_
 refine st ((ldW T47 rfl B6 rfl).eq ((rfl:_=ah R0))) ?_
 refine st (aw (A:=gB R0) fL rfl (fun v w he h=>by cases h;exact fP _ w (hT.ext he))) ?_
 refine st (mv rfl) ?_
 refine st (aY rfl rfl) ?_
 refine st (aY rfl rfl) ?_
 refine st (asg rfl) ?_
 refine st (asg rfl) ?_
 refine en fun a w e' hf=>?_
 replace hT:=hT.ext e'
 replace Ho:=Ho.ext e'
 replace hN1s:=Nat.le_trans hN1s e'.size
 replace e:=e.tr e'
 replace B6:=B6.ext e'
 refine aa ?_
 replace hf:=hf.kp [0,5,6,7,8]
 refine blk (aW (fun r0 a w=>∃(R:BS) (ps tl:List BS) (u:Value),cc nb m r0 R=some tl∧ps++tl=L∧ps.length+r0≤K∧Fr 54 a w [(0,E gv),(5,E u),(6,E (ptr b6)),(7,E (I ((bd R).getD 0:Nat))),(8,E (B (bd R).isSome))]∧Ext W w∧Tab w∧N1≤w.heap.size∧Blk w b6 (au R) 47∧OwR aX 47 N1 G0 w ps u) K ⟨R0,[],L,.slice none 0 0,hL,rfl,by simp,hf,e,hT,hN1s,B6,Ho⟩ ?_)
 clear hf e hT hN1s B6 Ho
 rintro r0 a w ⟨R,ps,tl,u,hc,hps,hpl,hf,e,hT,hN1s,B6,Ho⟩
 obtain⟨r,rfl⟩:∃r,r0=r+1:=by
  cases r0 with
  | zero=>rw[a0a] at hc;cases hc
  | succ r=>exact⟨r,rfl⟩
 repeat refine seq ?_
 cases hq:bd R with
 | none=>
  rw[hq] at hf
  rw[a0b _ _ _ hq] at hc
  cases hc
  rw[List.append_nil] at hps
  refine ac 1 hf (by decide +kernel) ?_
  refine st (mv rfl) ?_
  refine en fun a w e' hf=>?_
  replace e:=e.tr e'
  replace Ho:=Ho.ext e'
  refine aa ?_
  refine ifc hf rfl (fun h=>by cases h) (fun _=>aR ?_)
  simp only[Exit.then,Exit.inBlock,↓reduceIte]
  replace hf:=hf.kp [5]
  rw[hps] at Ho
  refine seq ?_
  refine ac 1 hf (by decide +kernel) ?_
  refine st (mv rfl) ?_
  refine en fun a w e' hf=>?_
  replace e:=e.tr e'
  replace Ho:=Ho.ext e'
  refine ae hf rfl (by decide) fun a hf=>?_
  refine aa ?_
  refine an ?_
  refine az rfl hf rfl ?_
  rintro _ rfl
  exact⟨_,rfl,e,Ho.low hWN fun b hb=>hb.elim⟩
 | some i=>
  have hi:i<1024:=aG (eQ hq)
  have hwi:(Lit.int .i64 (i:Int)).wf=true:=bH (by omega) (by omega)
  rw[hq] at hf
  obtain⟨pf,tl2,hgo,hc2,rfl⟩:=a0c _ _ _ hq hc
  clear hc
  replace hf:=hf.upd 7 rfl (B:=E (I (i:Nat))) fun v h=>h
  replace hf:=hf.upd 8 rfl (B:=E (B true)) fun v h=>h
  obtain⟨p0,hp0⟩:∃p0,p0=ins 0 (i:Int):=⟨_,rfl⟩
  rw[← hp0] at hgo
  refine ac 1 hf (by decide +kernel) ?_
  refine st (mv rfl) ?_
  refine en fun a w e' hf=>?_
  replace hT:=hT.ext e'
  replace Ho:=Ho.ext e'
  replace hN1s:=Nat.le_trans hN1s e'.size
  replace e:=e.tr e'
  replace B6:=B6.ext e'
  refine aa ?_
  refine ifc hf rfl (fun _=>ar ?_) (fun h=>by cases h)
  simp only[Exit.then,Exit.inBlock,↓reduceIte]
  replace hf:=hf.kp [0,5,6,7]
  refine seq ?_
  refine blk ?_
  refine seq ?_
  refine ac 3 hf (by decide +kernel) ?_
  refine st (mv rfl) ?_
  refine st (bL (e:=aA) (G:=G0) (z:=(i:Int)) U39 I3 rfl (by decide) rfl (fun b hb=>hb.elim) (isI rfl)) ?_
  refine st (aw (A:=E (ah p0)) (B:=Dv (slE aA) G0 [(i:Int)]) kM rfl (fun v w he k=>by have:=lS [(i:Int)] v w k (by simp);rw[a0f] at this;rw[hp0];exact this)) ?_
  refine en fun a w e' hf=>?_
  replace hT:=hT.ext e'
  replace Ho:=Ho.ext e'
  replace hN1s:=Nat.le_trans hN1s e'.size
  replace e:=e.tr e'
  replace B6:=B6.ext e'
  clear e'
  refine aC I47 hf (by decide) fun a b9 w e' hb9 hs9 B9 hf=>?_
  have hle9:=Nat.le_trans e.size (Nat.le_of_eq hb9.symm)
  have lo9_hN1s:=Nat.le_trans hN1s (Nat.le_of_eq hb9.symm)
  have ne9_Ho:=Ho.ne_new hb9
  have lt9_B6:=B6.lt
  replace hT:=hT.ext e'
  replace Ho:=Ho.ext e'
  replace hN1s:=Nat.le_trans hN1s e'.size
  replace e:=e.tr e'
  replace B6:=B6.ext e'
  clear e'
  have n9:N1≤b9∧b6≠b9:=⟨lo9_hN1s,by have:=lo9_hN1s;omega⟩
  have hu9:=ne9_Ho
  replace hf:=hf.kp [0,5,6,9,28]
  refine aF T47 hf rfl rfl (aU _) B9 rfl rfl fun w hg hsz B9 hf=>?_
  replace e:=e.gr hg (by omega);replace hT:=hT.gr hg (by omega);replace B6:=B6.gr hg n9.2;replace Ho:=Ho.grE hg hu9;replace hN1s:=Nat.le_trans hN1s hg.size
  clear hg hsz
  refine aa ?_
  replace hf:=hf.kp [0,5,6,9]
  have lu:∀b,u.ownBlock=some b→b<w.heap.size:=fun b hb=>(Ho.lt hb).2
  have e0:=e
  have hT1:=hT
  obtain⟨No,hNo⟩:∃No,No=w.heap.size:=⟨_,rfl⟩
  have lbs:b6<No∧b9<No∧N1≤No∧∀b,u.ownBlock=some b→b<No:=by rw[hNo];exact⟨B6.lt,B9.lt,hN1s,fun b hb=>(Ho.lt hb).2⟩
  repeat refine seq ?_
  refine reg 6 Mix.mix hf (by decide +kernel) ?_
  refine st (mv rfl) ?_
  refine st ((ldW T47 rfl B9 rfl).eq ((rfl:_=ah p0))) ?_
  refine st (aD (A:=E (ah (cB nb p0))) (B:=E gv) (C:=E (ah p0)) kO rfl rfl (fun v u w he h h'=>by cases h;cases h';exact fBs p0 w (Ext.tr e0 he) (hT1.ext he))) ?_
  refine st ((ldW T47 rfl B6 rfl).eq ((rfl:_=ah R))) ?_
  refine st (aD (A:=E (ah (cB nb p0 &&& R))) (B:=E (ah (cB nb p0))) (C:=E (ah R)) eB rfl rfl (fun v u w he h h'=>by cases h;cases h';exact eJ _ _ w)) ?_
  refine st (alD I47) ?_
  refine en fun a w e' hf=>?_
  replace hT:=hT.ext e'
  replace Ho:=Ho.ext e'
  replace hN1s:=Nat.le_trans hN1s e'.size
  replace e:=e.tr e'
  replace B6:=B6.ext e'
  replace B9:=B9.ext e'
  clear e'
  clear e0 hT1 lu
  obtain⟨_,⟨b10,hb10,rfl,B10⟩,hf⟩:=hf.fix 10 rfl
  rw[← hNo] at hb10
  simp only[Value.cells,cm] at B10
  have n10:N1≤b10∧b6≠b10:=by omega
  have n910:b9≠b10:=by omega
  have hu10:u.ownBlock≠some b10:=fun h=>by have:=lbs.2.2.2 _ h;omega
  replace hf:=hf.kp [0,5,6,9,10,33]
  refine aF T47 hf rfl rfl (aU _) B10 rfl rfl fun w hg hsz B10 hf=>?_
  replace e:=e.gr hg (by omega);replace hT:=hT.gr hg (by omega);replace B6:=B6.gr hg n10.2;replace B9:=B9.gr hg n910;replace Ho:=Ho.grE hg hu10;replace hN1s:=Nat.le_trans hN1s hg.size
  clear hg hsz
  refine aa ?_
  replace hf:=hf.kp [0,5,6,9,10]
  refine cut (J:=fun a w=>Fr 54 a w [(0,E gv),(5,E u),(6,E (ptr b6)),(9,E (ptr b9))]∧Ext W w∧Tab w∧N1≤w.heap.size∧Blk w b6 (au R) 47∧Blk w b9 (au pf) 47∧OwR aX 47 N1 G0 w ps u) ?_ (fun a w hJ=>?_)
  ·refine blk (aW (fun q0 a w=>∃(p:BS) (b10:Nat),eX nb R q0 p=some pf∧Fr 54 a w [(0,E gv),(5,E u),(6,E (ptr b6)),(9,E (ptr b9)),(10,E (ptr b10))]∧Ext W w∧Tab w∧N1≤w.heap.size∧Blk w b6 (au R) 47∧Blk w b9 (au p) 47∧Blk w b10 (au (cB nb p &&& R)) 47∧(N1≤b10∧b6≠b10)∧b9≠b10∧u.ownBlock≠some b10∧OwR aX 47 N1 G0 w ps u) m ⟨p0,b10,hgo,hf,e,hT,hN1s,B6,B9,B10,n10,n910,hu10,Ho⟩ ?_)
   clear hf e hT hN1s B6 B9 B10 Ho hgo n10 n910 hu10
   rintro q0 a w ⟨p,b10,hgo,hf,e,hT,hN1s,B6,B9,B10,n10,n910,hu10,Ho⟩
   obtain⟨q,rfl⟩:∃q,q0=q+1:=by
    cases q0 with
    | zero=>rw[a0d] at hgo;cases hgo
    | succ q=>exact⟨q,rfl⟩
   rw[a0e] at hgo
   obtain⟨M,hM⟩:∃M,M=cB nb p &&& R:=⟨_,rfl⟩
   rw[← hM] at hgo B10
   repeat refine seq ?_
   obtain⟨em,hem⟩:∃em,em=(M==0):=⟨_,rfl⟩
   refine ac 3 hf (by decide +kernel) ?_
   refine st ((ldW T47 rfl B10 rfl).eq ((rfl:_=ah M))) ?_
   refine st (aw (A:=E (B em)) (B:=E (ah M)) fb rfl (fun v w he h=>by cases h;rw[hem];exact fj M w)) ?_
   refine st (bj rfl) ?_
   refine en fun a w e' hf=>?_
   replace hT:=hT.ext e'
   replace Ho:=Ho.ext e'
   replace hN1s:=Nat.le_trans hN1s e'.size
   replace e:=e.tr e'
   replace B6:=B6.ext e'
   replace B9:=B9.ext e'
   replace B10:=B10.ext e'
   refine aa ?_
   refine ifc hf rfl (fun hb=>ar ?_) (fun hb=>aR ?_)
   ·replace hb:(!em)=true:=hb
    rw[hem] at hb
    have hMn:M≠0:=by simpa using hb
    rw[if_neg hMn] at hgo
    simp only[Exit.then,Exit.inBlock,↓reduceIte]
    replace hf:=hf.kp [0,5,6,9,10]
    refine seq ?_
    refine blk ?_
    refine ac 3 hf (by decide +kernel) ?_
    refine st ((ldW T47 rfl B9 rfl).eq ((rfl:_=ah p))) ?_
    refine st ((ldW T47 rfl B10 rfl).eq ((rfl:_=ah M))) ?_
    refine st (aD (A:=E (ah (p ||| M))) jg rfl rfl (fun v u w he k1 k2=>by cases k1;cases k2;exact jn _ _ w)) ?_
    refine en fun a w e' hf=>?_
    replace hT:=hT.ext e'
    replace Ho:=Ho.ext e'
    replace hN1s:=Nat.le_trans hN1s e'.size
    replace e:=e.tr e'
    replace B6:=B6.ext e'
    replace B9:=B9.ext e'
    replace B10:=B10.ext e'
    clear e'
    refine aF T47 hf rfl rfl (aU _) B9 rfl (bh _) fun w hg hsz B9 hf=>?_
    replace e:=e.gr hg (by omega);replace hT:=hT.gr hg (by omega);replace B6:=B6.gr hg n9.2;replace B10:=B10.gr hg n910.symm;replace Ho:=Ho.grE hg hu9;replace hN1s:=Nat.le_trans hN1s hg.size
    clear hg hsz
    refine aa ?_
    simp only[Exit.inBlock]
    replace hf:=hf.kp [0,5,6,9,10]
    obtain⟨p2,hp2⟩:∃p2,p2=p ||| M:=⟨_,rfl⟩
    rw[← hp2] at hgo B9
    repeat refine seq ?_
    refine ac 1 hf (by decide +kernel) ?_
    refine st ((ldW T47 rfl B10 rfl).eq ((rfl:_=ah M))) ?_
    refine en fun a w e' hf=>?_
    replace hT:=hT.ext e'
    replace Ho:=Ho.ext e'
    replace hN1s:=Nat.le_trans hN1s e'.size
    replace e:=e.tr e'
    replace B6:=B6.ext e'
    replace B9:=B9.ext e'
    replace B10:=B10.ext e'
    refine aa ?_
    clear B10 n10 n910 hu10
    replace hf:=hf.kp [0,5,6,9,45]
    refine aj ?_
    refine aC I47 hf (by decide) fun a b10 w e' hb10 hs10 B10 hf=>?_
    have hle10:=Nat.le_trans e.size (Nat.le_of_eq hb10.symm)
    have lo10_hN1s:=Nat.le_trans hN1s (Nat.le_of_eq hb10.symm)
    have ne10_Ho:=Ho.ne_new hb10
    have lt10_B6:=B6.lt
    have lt10_B9:=B9.lt
    replace hT:=hT.ext e'
    replace Ho:=Ho.ext e'
    replace hN1s:=Nat.le_trans hN1s e'.size
    replace e:=e.tr e'
    replace B6:=B6.ext e'
    replace B9:=B9.ext e'
    clear e'
    have n10:N1≤b10∧b6≠b10:=⟨lo10_hN1s,by have:=lo10_hN1s;omega⟩
    have n910:b9≠b10:=by omega
    have hu10:=ne10_Ho
    refine aF T47 hf rfl rfl (aU _) B10 rfl rfl fun w hg hsz B10 hf=>?_
    replace e:=e.gr hg (by omega);replace hT:=hT.gr hg (by omega);replace B6:=B6.gr hg n10.2;replace B9:=B9.gr hg n910;replace Ho:=Ho.grE hg hu10;replace hN1s:=Nat.le_trans hN1s hg.size
    clear hg hsz
    refine aa ?_
    replace hf:=hf.kp [0,5,6,9,10]
    have e0:=e
    have hT1:=hT
    refine reg 5 Mix.mix hf (by decide +kernel) ?_
    refine st (mv rfl) ?_
    refine st ((ldW T47 rfl B9 rfl).eq ((rfl:_=ah p2))) ?_
    refine st (aD (A:=E (ah (cB nb p2))) (B:=E gv) (C:=E (ah p2)) kO rfl rfl (fun v u w he h h'=>by cases h;cases h';exact fBs p2 w (Ext.tr e0 he) (hT1.ext he))) ?_
    refine st ((ldW T47 rfl B6 rfl).eq ((rfl:_=ah R))) ?_
    refine st (aD (A:=E (ah (cB nb p2 &&& R))) (B:=E (ah (cB nb p2))) (C:=E (ah R)) eB rfl rfl (fun v u w he h h'=>by cases h;cases h';exact eJ _ _ w)) ?_
    refine en fun a w e' hf=>?_
    replace hT:=hT.ext e'
    replace Ho:=Ho.ext e'
    replace hN1s:=Nat.le_trans hN1s e'.size
    replace e:=e.tr e'
    replace B6:=B6.ext e'
    replace B9:=B9.ext e'
    replace B10:=B10.ext e'
    clear e'
    refine aF T47 hf rfl rfl (aU _) B10 rfl (bh _) fun w hg hsz B10 hf=>?_
    replace e:=e.gr hg (by omega);replace hT:=hT.gr hg (by omega);replace B6:=B6.gr hg n10.2;replace B9:=B9.gr hg n910;replace Ho:=Ho.grE hg hu10;replace hN1s:=Nat.le_trans hN1s hg.size
    clear hg hsz
    refine aa ?_
    replace hf:=hf.kp [0,5,6,9,10]
    exact⟨q,by omega,p2,b10,hgo,hf,e,hT,hN1s,B6,B9,B10,n10,n910,hu10,Ho⟩
   ·replace hb:(!em)=false:=hb
    rw[hem] at hb
    have hM0:M=0:=by simpa using hb
    rw[if_pos hM0] at hgo
    cases hgo
    simp only[Exit.then,Exit.inBlock,↓reduceIte]
    replace hf:=hf.kp [0,5,6,9]
    exact⟨trivial,hf,e,hT,hN1s,B6,B9,Ho⟩
  clear hf e hT hN1s B6 B9 B10 Ho hgo n10 n910 hu10
  obtain⟨hf,e,hT,hN1s,B6,B9,Ho⟩:=hJ
  simp only[Exit.then]
  refine seq ?_
  refine ac 3 hf (by decide +kernel) ?_
  refine st (mv rfl) ?_
  refine st ((ldW T47 rfl B9 rfl).eq ((rfl:_=ah pf))) ?_
  refine st (bL U42 I47 rfl (by decide) rfl Ho.avs (isS rfl)) ?_
  refine en fun a w e' hf=>?_
  replace hT:=hT.ext e'
  replace hN1s:=Nat.le_trans hN1s e'.size
  replace B9:=B9.ext e'
  replace B6:=B6.ext e'
  replace Ho:=Ho.ext e'
  replace e:=e.tr e'
  clear e'
  haveI hin:∀G0,InR (GB W G0) _:=OwR.inGB (W:=W) Ho (by omega)
  refine bQ U42 I47 rfl rfl hf (by decide) rfl Ho (isR rfl) (by simp only[List.length_singleton];omega) (by simp only[List.length_singleton,maxLen];omega) fun a v w hg hat Hn hf=>?_
  replace e:=e.gro hg (Ho.row (W:=W) (by omega))
  have hrow:=Ho.row (W:=W) (by omega)
  replace hT:=hT.gro hg (fun b hb=>by have:=(Ho.lt hb).1;omega)
  replace hN1s:=Nat.le_trans hN1s hg.size
  replace B9:=B9.gro hg hu9
  replace B6:=B6.gro hg (Ho.neLt l6)
  replace Ho:=Hn
  clear hrow
  replace Ho:=Hn;clear Hn hg hat hin
  refine ae hf rfl (by decide) fun a hf=>?_
  refine aa ?_
  replace hf:=hf.kp [0,5,6,9]
  obtain⟨u2,hu2⟩:∃u2,u2=v:=⟨_,rfl⟩
  rw[← hu2] at hf Ho
  clear hu2
  refine ac 3 hf (by decide +kernel) ?_
  refine st ((ldW T47 rfl B6 rfl).eq ((rfl:_=ah R))) ?_
  refine st ((ldW T47 rfl B9 rfl).eq ((rfl:_=ah pf))) ?_
  refine st (aD (A:=E (ah (R &&& ~~~pf))) (B:=E (ah R)) (C:=E (ah pf)) dC rfl rfl (fun v u w he h h'=>by cases h;cases h';exact dK _ _ w)) ?_
  refine en fun a w e' hf=>?_
  replace hT:=hT.ext e'
  replace hN1s:=Nat.le_trans hN1s e'.size
  replace Ho:=Ho.ext e'
  replace e:=e.tr e'
  replace B6:=B6.ext e'
  replace B9:=B9.ext e'
  clear e'
  have hn6:=Ho.neLt l6
  refine aF T47 hf rfl rfl (aU _) B6 rfl (bh _) fun w hg hsz B6 hf=>?_
  replace e:=e.gr hg (by omega);replace hT:=hT.gr hg (by omega);replace Ho:=Ho.grE hg hn6;replace hN1s:=Nat.le_trans hN1s hg.size
  clear hg hsz B9
  refine aa ?_
  simp only[Exit.inBlock]
  replace hf:=hf.kp [0,5,6]
  obtain⟨R2,hR2⟩:∃R2,R2=R &&& ~~~pf:=⟨_,rfl⟩
  rw[← hR2] at hc2 B6
  refine ac 7 hf (by decide +kernel) ?_
  refine st ((ldW T47 rfl B6 rfl).eq ((rfl:_=ah R2))) ?_
  refine st (aw (A:=gB R2) fL rfl (fun v w he h=>by cases h;exact fP _ w (hT.ext he))) ?_
  refine st (mv rfl) ?_
  refine st (aY rfl rfl) ?_
  refine st (aY rfl rfl) ?_
  refine st (asg rfl) ?_
  refine st (asg rfl) ?_
  refine en fun a w e' hf=>?_
  replace hT:=hT.ext e'
  replace hN1s:=Nat.le_trans hN1s e'.size
  replace Ho:=Ho.ext e'
  replace e:=e.tr e'
  replace B6:=B6.ext e'
  refine aa ?_
  replace hf:=hf.kp [0,5,6,7,8]
  exact⟨r,by omega,R2,ps++[pf],tl2,u2,hc2,by rw[List.append_assoc];exact hps,by rw[List.length_append,List.length_singleton];omega,hf,e,hT,hN1s,B6,Ho⟩
def lkI (l:List (Int×Int))(i:Int):Int:=((l.find? fun p=>decide (p.1=i)).map (·.2)).getD 0
theorem rD (l:List (Int×Int))(x:Int)(c:Int)(i:Int):lkI (bB l x c) i=if i=x then c else lkI l i:=by
 rw[lkI,bB,List.find?_cons]
 by_cases h:x=i
 ·subst h;simp
 ·have h1:decide ((x,c).1=i)=false:=by simp[h]
  rw[h1,if_neg (Ne.symm h),lkI]
  dsimp only
  congr 2
  induction l with
  | nil=>rfl
  | cons p l ih=>
   rw[List.filter_cons]
   by_cases hp:p.1=x
   ·have h2:decide (p.1=i)=false:=by rw[hp];simp[h]
    rw[if_neg (by simp[hp]),List.find?_cons,h2];exact ih
   ·rw[if_pos (by simp[hp]),List.find?_cons,List.find?_cons]
    cases decide (p.1=i) <;> simp[ih]
noncomputable def iKV:KV Tryz.prog Int Int where
 k:=3
 e:=3
 kv:=fun x=>.int .i64 x
 kl:=fun x=>.int .i64 x
 ok:=fun x=>(Lit.int .i64 x).wf=true
 mv:=fun c=>.int .i64 c
 dv:=fun c=>.lit (.int .i64 c)
 okv:=fun c=>(Lit.int .i64 c).wf=true
 R:=plainElem Tryz.prog 3
 K:=Maps.int_keyed U3
 key:=fun x hx=>Maps.keyOf_int_mk U3 hx
 keyInv:=fun v l h=>by obtain⟨x,h1,h2,h3⟩:=Maps.keyOf_int_inv U3 h;exact⟨x,h3,h1,h2⟩
 kvInj:=fun x y h=>by cases h;rfl
 val:=fun c hc=>plainElem_int U3 hc
 valInv:=fun v y h=>by
  obtain⟨c,h1,h2,h3⟩:=plainElem_int_inv U3 h
  exact⟨c,h3,h1,h2⟩
 dvInj:=fun c c' h=>by cases h;rfl
theorem rE {l:List (Int×Int)}{i:Int}(h:∀c,(i,c) ∉ l):lkI l i=0:=by
 have:l.find? (fun p=>decide (p.1=i))=none:=by
  rw[List.find?_eq_none]
  intro p hp hh
  have h3:p.1=i:=by simpa using hh
  exact h p.2 (by rw[← h3];exact hp)
 rw[lkI,this];rfl
section
variable {w0:World}{L:Env}{dst:Option Tmp}{ty:TypeId}{pos:String}{aft:Array Edge}{g:Option (Nat×Bool)}{x y:Operand}{t:TypeId}{l:List (Int×Int)}{b n:Nat}
theorem fD {i:Int}(ht:Tryz.prog.underlying t=some (.map iKV.k iKV.e))(hx:opd L x=some (E (.map (some b))))(hM:MpR iKV w0 b n l)(hy:opd L y=some (E (I i)))(hi:(Lit.int .i64 i).wf=true) :
  OpC Tryz.prog w0 L ⟨dst,.lookup t x y false,ty,pos,aft,g⟩ (E (I (lkI l i))):=
 aQ fun ρ w he' hv=>by
  have h5:=opE hv (x:=x) (by simp[Op.operands]) hx
  have h6:=opE hv (x:=y) (by simp[Op.operands]) hy
  have h2:=hM.ext he'
  obtain⟨D,m1,m2,m3,m4,_⟩:=h2.has (x:=i) hi
  have hz0:(Lit.int .i64 0).wf=true:=by decide
  obtain⟨v,ps,r1,r2⟩:=m1.lookup iKV.K ht (dH I3 w) (iKV.val 0 hz0) (iKV.key i hi)
  obtain⟨c,_,rfl,hy2⟩:=iKV.valInv _ _ r2
  have hcc:c=lkI l i:=by
   have h8:=congrArg Prod.fst hy2
   simp only at h8
   by_cases hex:∃c',(i,c')∈l
   ·obtain⟨c',hc'⟩:=hex
    rw[m3 c' hc'] at h8
    have h9:lkI l i=c':=by
     obtain⟨_,_,_,_,hp⟩:=h2
     cases hf:l.find? (fun p=>decide (p.1=i)) with
     | none=>have:=List.find?_eq_none.1 hf _ hc';simp at this
     | some p=>
      have k1:=List.find?_some hf
      have k2:=List.mem_of_find?_eq_some hf
      have k3:p.1=i:=by simpa using k1
      have k4:p=(i,p.2):=by rw[← k3]
      rw[k4] at k2
      rw[lkI,hf]
      exact gF hp k2 hc'
    rw[h9]
    exact (iKV.dvInj _ _ h8).symm
   ·have hno:∀c',(i,c') ∉ l:=fun c' h=>hex ⟨c',h⟩
    rw[m4 hno] at h8
    rw[rE hno]
    exact (iKV.dvInj _ _ h8).symm
  rw[hcc] at r1
  have r1:(Instr.lookup t (.map (some b)) (I i) false).run Tryz.prog w=.ok (I (lkI l i)) w:=r1
  exact⟨_,by simp only[execOp,h5,h6,Sem.run_bind,r1,Result.andThen_ok,Sem.run_pure],rfl⟩
end
theorem rF {H:Type}{P:Program}{e:TypeId}(he:P.underlying e=some .bool){v:Value}{z:DataW H×List MemPlace}(h:plainElem P e v=some z):∃c,v=.bool c∧z=(.lit (.bool c),[]):=by
 unfold plainElem at h
 rw[he] at h
 cases v <;> simp at h
 rename_i c
 exact⟨c,rfl,h.symm⟩
noncomputable def bKV:KV Tryz.prog Int Bool where
 k:=3
 e:=4
 kv:=fun x=>.int .i64 x
 kl:=fun x=>.int .i64 x
 ok:=fun x=>(Lit.int .i64 x).wf=true
 mv:=fun c=>.bool c
 dv:=fun c=>.lit (.bool c)
 okv:=fun _=>True
 R:=plainElem Tryz.prog 4
 K:=Maps.int_keyed U3
 key:=fun x hx=>Maps.keyOf_int_mk U3 hx
 keyInv:=fun v l h=>by obtain⟨x,h1,h2,h3⟩:=Maps.keyOf_int_inv U3 h;exact⟨x,h3,h1,h2⟩
 kvInj:=fun x y h=>by cases h;rfl
 val:=fun c hc=>plainElem_bool U4 c
 valInv:=fun v y h=>by
  obtain⟨c,h1,h2⟩:=rF U4 h
  exact⟨c,trivial,h1,h2⟩
 dvInj:=fun c c' h=>by cases h;rfl
def lkV {β:Type}(z:β)(l:List (Int×β))(i:Int):β:=((l.find? fun p=>decide (p.1=i)).map (·.2)).getD z
theorem a0g {β:Type}{z:β}{l:List (Int×β)}{i:Int}(h:∀c,(i,c) ∉ l):lkV z l i=z:=by
 have:l.find? (fun p=>decide (p.1=i))=none:=by
  rw[List.find?_eq_none]
  intro p hp hh
  have h3:p.1=i:=by simpa using hh
  exact h p.2 (by rw[← h3];exact hp)
 rw[lkV,this];rfl
theorem rG {β:Type}{z c:β}{l:List (Int×β)}{i:Int}(hp:l.Pairwise fun p q=>p.1≠q.1)(h:(i,c)∈l):lkV z l i=c:=by
 cases hf:l.find? (fun p=>decide (p.1=i)) with
 | none=>have:=List.find?_eq_none.1 hf _ h;simp at this
 | some p=>
  have k1:=List.find?_some hf
  have k2:=List.mem_of_find?_eq_some hf
  have k3:p.1=i:=by simpa using k1
  have k4:p=(i,p.2):=by rw[← k3]
  rw[k4] at k2
  rw[lkV,hf]
  exact gF hp k2 h
section
variable {w0:World}{L:Env}{dst:Option Tmp}{ty:TypeId}{pos:String}{aft:Array Edge}{g:Option (Nat×Bool)}{x y:Operand}{t:TypeId}{β:Type}{l:List (Int×β)}{b n:Nat}
theorem rH {V:KV Tryz.prog Int β}{i:Int}{z:β}(hz:∀w,(zeroValue V.e).run Tryz.prog w=.ok (V.mv z) w)(hz0:V.okv z)(ht:Tryz.prog.underlying t=some (.map V.k V.e))(hx:opd L x=some (E (.map (some b))))(hM:MpR V w0 b n l)(hy:opd L y=some (E (V.kv i)))(hi:V.ok i) :
  OpC Tryz.prog w0 L ⟨dst,.lookup t x y false,ty,pos,aft,g⟩ (E (V.mv (lkV z l i))):=
 aQ fun ρ w he' hv=>by
  have h5:=opE hv (x:=x) (by simp[Op.operands]) hx
  have h6:=opE hv (x:=y) (by simp[Op.operands]) hy
  have h2:=hM.ext he'
  obtain⟨D,m1,m2,m3,m4,_⟩:=h2.has (x:=i) hi
  obtain⟨v,ps,r1,r2⟩:=m1.lookup V.K ht (hz w) (V.val z hz0) (V.key i hi)
  obtain⟨c,_,rfl,hy2⟩:=V.valInv _ _ r2
  have hcc:c=lkV z l i:=by
   have h8:=congrArg Prod.fst hy2
   simp only at h8
   by_cases hex:∃c',(i,c')∈l
   ·obtain⟨c',hc'⟩:=hex
    rw[m3 c' hc'] at h8
    obtain⟨_,_,_,_,hp⟩:=h2
    rw[rG hp hc']
    exact (V.dvInj _ _ h8).symm
   ·have hno:∀c',(i,c') ∉ l:=fun c' h=>hex ⟨c',h⟩
    rw[m4 hno] at h8
    rw[a0g hno]
    exact (V.dvInj _ _ h8).symm
  rw[hcc] at r1
  have r1:(Instr.lookup t (.map (some b)) (V.kv i) false).run Tryz.prog w=.ok (V.mv (lkV z l i)) w:=r1
  exact⟨_,by simp only[execOp,h5,h6,Sem.run_bind,r1,Result.andThen_ok,Sem.run_pure],rfl⟩
end
theorem a0h {β:Type}(z:β)(l:List (Int×β))(x:Int)(c:β)(i:Int):lkV z (bB l x c) i=if i=x then c else lkV z l i:=by
 rw[lkV,bB,List.find?_cons]
 by_cases h:x=i
 ·subst h;simp
 ·have h1:decide ((x,c).1=i)=false:=by simp[h]
  rw[h1,if_neg (Ne.symm h),lkV]
  dsimp only
  congr 2
  induction l with
  | nil=>rfl
  | cons p l ih=>
   rw[List.filter_cons]
   by_cases hp:p.1=x
   ·have h2:decide (p.1=i)=false:=by rw[hp];simp[h]
    rw[List.find?_cons,h2]
    simpa[hp] using ih
   ·rw[if_pos (by simp[hp]),List.find?_cons,List.find?_cons,ih]
theorem a0i {β:Type}(l:List (Int×β))(x:Int)(c:β)(i:Int):(bB l x c).any (fun p=>decide (p.1=i))=(decide (x=i) || l.any fun p=>decide (p.1=i)):=by
 rw[bB,List.any_cons]
 by_cases h:x=i
 ·simp[h]
 ·have h1:decide ((x,c).1=i)=false:=by simp[h]
  simp only[h,decide_false,Bool.false_or]
  induction l with
  | nil=>rfl
  | cons p l ih=>
   rw[List.filter_cons,List.any_cons]
   by_cases hp:p.1=x
   ·have h2:decide (p.1=i)=false:=by rw[hp];simp[h]
    rw[h2,Bool.false_or]
    simpa[hp] using ih
   ·rw[if_pos (by simp[hp]),List.any_cons,ih]
theorem a0j {l:List (Int×Int)}{b n:Nat}{w:World}{i:Int}{v:Value}(hM:MpR iKV w b n l)(h:(lC iKV l i 0).p v w):v=I (lkI l i):=by
 obtain⟨c,rfl,h1,h2⟩:=h
 show I c=_
 by_cases hex:∃c',(i,c')∈l
 ·obtain⟨_,_,_,_,hp⟩:=hM
  have:=rG (z:=0) hp (h1 hex)
  rw[← this];rfl
 ·have hno:∀c',(i,c') ∉ l:=fun c' h=>hex ⟨c',h⟩
  rw[h2 hno,rE hno]
noncomputable def gV:KV Tryz.prog BS Bool where
 k:=47
 e:=4
 kv:=ah
 kl:=fun S=>Classical.choose (gK S)
 ok:=fun _=>True
 mv:=fun c=>.bool c
 dv:=fun c=>.lit (.bool c)
 okv:=fun _=>True
 R:=plainElem Tryz.prog 4
 K:=Maps.Keyed.of_law qk
 key:=fun S _=>Classical.choose_spec (gK S)
 keyInv:=fun v l h=>by
  obtain⟨S,rfl⟩:=ql h
  exact⟨S,trivial,rfl,Option.some.inj (h.symm.trans (Classical.choose_spec (gK S)))⟩
 kvInj:=fun x y h=>kT (by injection h)
 val:=fun c hc=>plainElem_bool U4 c
 valInv:=fun v y h=>by
  obtain⟨c,h1,h2⟩:=rF U4 h
  exact⟨c,trivial,h1,h2⟩
 dvInj:=fun c c' h=>by cases h;rfl
def lkB {β:Type}(z:β)(l:List (BS×β))(i:BS):β:=((l.find? fun p=>decide (p.1=i)).map (·.2)).getD z
theorem a0k {β:Type}{z:β}{l:List (BS×β)}{i:BS}(h:∀c,(i,c) ∉ l):lkB z l i=z:=by
 have:l.find? (fun p=>decide (p.1=i))=none:=by
  rw[List.find?_eq_none]
  intro p hp hh
  have h3:p.1=i:=by simpa using hh
  exact h p.2 (by rw[← h3];exact hp)
 rw[lkB,this];rfl
theorem a0l {β:Type}{z c:β}{l:List (BS×β)}{i:BS}(hp:l.Pairwise fun p q=>p.1≠q.1)(h:(i,c)∈l):lkB z l i=c:=by
 cases hf:l.find? (fun p=>decide (p.1=i)) with
 | none=>have:=List.find?_eq_none.1 hf _ h;simp at this
 | some p=>
  have k1:=List.find?_some hf
  have k2:=List.mem_of_find?_eq_some hf
  have k3:p.1=i:=by simpa using k1
  have k4:p=(i,p.2):=by rw[← k3]
  rw[k4] at k2
  rw[lkB,hf]
  exact gF hp k2 h
section
variable {w0:World}{L:Env}{dst:Option Tmp}{ty:TypeId}{pos:String}{aft:Array Edge}{g:Option (Nat×Bool)}{x y:Operand}{t:TypeId}{β:Type}{l:List (BS×β)}{b n:Nat}
theorem rI {V:KV Tryz.prog BS β}{i:BS}{z:β}(hz:∀w,(zeroValue V.e).run Tryz.prog w=.ok (V.mv z) w)(hz0:V.okv z)(ht:Tryz.prog.underlying t=some (.map V.k V.e))(hx:opd L x=some (E (.map (some b))))(hM:MpR V w0 b n l)(hy:opd L y=some (E (V.kv i)))(hi:V.ok i) :
  OpC Tryz.prog w0 L ⟨dst,.lookup t x y false,ty,pos,aft,g⟩ (E (V.mv (lkB z l i))):=
 aQ fun ρ w he' hv=>by
  have h5:=opE hv (x:=x) (by simp[Op.operands]) hx
  have h6:=opE hv (x:=y) (by simp[Op.operands]) hy
  have h2:=hM.ext he'
  obtain⟨D,m1,m2,m3,m4,_⟩:=h2.has (x:=i) hi
  obtain⟨v,ps,r1,r2⟩:=m1.lookup V.K ht (hz w) (V.val z hz0) (V.key i hi)
  obtain⟨c,_,rfl,hy2⟩:=V.valInv _ _ r2
  have hcc:c=lkB z l i:=by
   have h8:=congrArg Prod.fst hy2
   simp only at h8
   by_cases hex:∃c',(i,c')∈l
   ·obtain⟨c',hc'⟩:=hex
    rw[m3 c' hc'] at h8
    obtain⟨_,_,_,_,hp⟩:=h2
    rw[a0l hp hc']
    exact (V.dvInj _ _ h8).symm
   ·have hno:∀c',(i,c') ∉ l:=fun c' h=>hex ⟨c',h⟩
    rw[m4 hno] at h8
    rw[a0k hno]
    exact (V.dvInj _ _ h8).symm
  rw[hcc] at r1
  have r1:(Instr.lookup t (.map (some b)) (V.kv i) false).run Tryz.prog w=.ok (V.mv (lkB z l i)) w:=r1
  exact⟨_,by simp only[execOp,h5,h6,Sem.run_bind,r1,Result.andThen_ok,Sem.run_pure],rfl⟩
end
theorem a0m {β:Type}(z:β)(l:List (BS×β))(x:BS)(c:β)(i:BS):lkB z (bB l x c) i=if i=x then c else lkB z l i:=by
 rw[lkB,bB,List.find?_cons]
 by_cases h:x=i
 ·subst h;simp
 ·have h1:decide ((x,c).1=i)=false:=by simp[h]
  rw[h1,if_neg (Ne.symm h),lkB]
  dsimp only
  congr 2
  induction l with
  | nil=>rfl
  | cons p l ih=>
   rw[List.filter_cons]
   by_cases hp:p.1=x
   ·have h2:decide (p.1=i)=false:=by rw[hp];simp[h]
    rw[List.find?_cons,h2]
    simpa[hp] using ih
   ·rw[if_pos (by simp[hp]),List.find?_cons,List.find?_cons,ih]
end Go.Mono
namespace Go.Ms
def cst (xs:List (Int×Nat))(k:Nat):Int:=(xs.getD k (0,0)).1
def swp (xs:List (Int×Nat))(i j:Nat):List (Int×Nat):=(xs.set i (xs.getD j (0,0))).set j (xs.getD i (0,0))
def swc (c:Nat→Int)(i j k:Nat):Int:=if k=j then c i else if k=i then c j else c k
theorem fE (xs:List (Int×Nat))(i j:Nat):(swp xs i j).length=xs.length:=by rw[swp,List.length_set,List.length_set]
theorem fF {xs:List (Int×Nat)}{i j:Nat}(hi:i<xs.length)(hj:j<xs.length)(k:Nat):(swp xs i j).getD k (0,0)=if k=j then xs.getD i (0,0) else if k=i then xs.getD j (0,0) else xs.getD k (0,0):=by
 simp only[swp,List.getD_eq_getElem?_getD,List.getElem?_set,List.length_set]
 by_cases h1:k=j
 ·simp[h1,hj]
 ·by_cases h2:k=i
  ·subst h2
   simp[h1,hi,Ne.symm h1]
  ·simp[h1,h2,Ne.symm h1,Ne.symm h2]
theorem rJ {xs:List (Int×Nat)}{i j:Nat}(hi:i<xs.length)(hj:j<xs.length)(k:Nat):cst (swp xs i j) k=swc (cst xs) i j k:=by
 unfold cst swc
 rw[fF hi hj]
 by_cases h1:k=j
 ·simp only[h1,if_true]
 ·by_cases h2:k=i
  ·rw[if_neg h1,if_neg h1,if_pos h2,if_pos h2]
  ·rw[if_neg h1,if_neg h1,if_neg h2,if_neg h2]
theorem mz {xs:List (Int×Nat)}{e:Int×Nat}:e∈xs↔∃k,k<xs.length∧xs.getD k (0,0)=e:=by
 rw[List.mem_iff_getElem]
 constructor
 ·rintro⟨k,hk,h⟩
  exact⟨k,hk,by rw[List.getD_eq_getElem?_getD,List.getElem?_eq_getElem hk];exact h⟩
 ·rintro⟨k,hk,h⟩
  exact⟨k,hk,by rw[List.getD_eq_getElem?_getD,List.getElem?_eq_getElem hk] at h;exact h⟩
theorem mA {xs:List (Int×Nat)}{i j:Nat}(hi:i<xs.length)(hj:j<xs.length)(e:Int×Nat):e∈swp xs i j↔e∈xs:=by
 rw[mz,mz,fE]
 constructor
 ·rintro⟨k,hk,h⟩
  rw[fF hi hj] at h
  by_cases h1:k=j
  ·rw[if_pos h1] at h;exact⟨i,hi,h⟩
  ·rw[if_neg h1] at h
   by_cases h2:k=i
   ·rw[if_pos h2] at h;exact⟨j,hj,h⟩
   ·rw[if_neg h2] at h;exact⟨k,hk,h⟩
 ·rintro⟨k,hk,h⟩
  by_cases h1:k=j
  ·refine⟨i,hi,?_⟩
   rw[fF hi hj]
   by_cases h2:i=j
   ·rw[if_pos h2,h2,← h1];exact h
   ·rw[if_neg h2,if_pos rfl,← h1];exact h
  ·by_cases h2:k=i
   ·refine⟨j,hj,?_⟩
    rw[fF hi hj,if_pos rfl,← h2];exact h
   ·refine⟨k,hk,?_⟩
    rw[fF hi hj,if_neg h1,if_neg h2];exact h
def HpC (n:Nat)(c:Nat→Int):Prop:=∀k,k<n→0<k→c ((k - 1) / 2)≤c k
structure UpI (n:Nat)(c:Nat→Int)(j:Nat):Prop where
 o:∀k,k<n→0<k→k≠j→c ((k - 1) / 2)≤c k
 s:0<j→∀k,k<n→0<k→(k - 1) / 2=j→c ((j - 1) / 2)≤c k
structure DnI (n:Nat)(c:Nat→Int)(i:Nat):Prop where
 o:∀k,k<n→0<k→(k - 1) / 2≠i→c ((k - 1) / 2)≤c k
 s:0<i→∀k,k<n→0<k→(k - 1) / 2=i→c ((i - 1) / 2)≤c k
theorem UpI.stop {n:Nat}{c:Nat→Int}{j:Nat}(h:UpI n c j)(hs:j=0∨¬c j<c ((j - 1) / 2)):HpC n c:=fun k hk h0=>by
 by_cases hj:k=j
 ·rw[hj];rw[hj] at h0
  rcases hs with hs|hs
  ·omega
  ·exact Int.not_lt.1 hs
 ·exact h.o k hk h0 hj
theorem UpI.go {n:Nat}{c:Nat→Int}{i j:Nat}(h:UpI n c j)(h0:0<j)(hj:j<n)(hi:i=(j - 1) / 2)(hlt:c j<c i):UpI n (swc c i j) i:=by
 have hij:i<j:=by omega
 refine⟨fun k hk k0 hki=>?_,fun i0 k hk k0 hp=>?_⟩
 ·by_cases hkj:k=j
  ·have e1:swc c i j k=c i:=if_pos hkj
   have e2:swc c i j ((k - 1) / 2)=c j:=by unfold swc;rw[if_neg (by omega),if_pos (by omega)]
   rw[e1,e2];omega
  ·have e1:swc c i j k=c k:=by unfold swc;rw[if_neg hkj,if_neg hki]
   rw[e1]
   by_cases hpj:(k - 1) / 2=j
   ·have e2:swc c i j ((k - 1) / 2)=c i:=if_pos hpj
    rw[e2,hi]
    exact h.s h0 k hk k0 hpj
   ·by_cases hpi:(k - 1) / 2=i
    ·have e2:swc c i j ((k - 1) / 2)=c j:=by unfold swc;rw[if_neg hpj,if_pos hpi]
     have:=h.o k hk k0 hkj
     rw[hpi] at this
     rw[e2];omega
    ·have e2:swc c i j ((k - 1) / 2)=c ((k - 1) / 2):=by unfold swc;rw[if_neg hpj,if_neg hpi]
     rw[e2];exact h.o k hk k0 hkj
 ·have e2:swc c i j ((i - 1) / 2)=c ((i - 1) / 2):=by unfold swc;rw[if_neg (by omega),if_neg (by omega)]
  have h1:=h.o i (by omega) i0 (by omega)
  rw[e2]
  by_cases hkj:k=j
  ·have e1:swc c i j k=c i:=if_pos hkj
   rw[e1];exact h1
  ·have e1:swc c i j k=c k:=by unfold swc;rw[if_neg hkj,if_neg (by omega)]
   have h2:=h.o k hk k0 hkj
   rw[hp] at h2
   rw[e1];omega
theorem DnI.stop {n:Nat}{c:Nat→Int}{i:Nat}(h:DnI n c i)(hs:∀k,k<n→0<k→(k - 1) / 2=i→c i≤c k):HpC n c:=fun k hk h0=>by
 by_cases hj:(k - 1) / 2=i
 ·rw[hj];exact hs k hk h0 hj
 ·exact h.o k hk h0 hj
theorem DnI.go {n:Nat}{c:Nat→Int}{i j:Nat}(h:DnI n c i)(j0:0<j)(hj:j<n)(hi:(j - 1) / 2=i)(hlt:c j<c i)(hmin:∀k,k<n→0<k→(k - 1) / 2=i→c j≤c k):DnI n (swc c i j) j:=by
 have hij:i<j:=by omega
 have ej:swc c i j j=c i:=if_pos rfl
 have ei:swc c i j i=c j:=by unfold swc;rw[if_neg (by omega),if_pos rfl]
 have eo:∀k,k≠i→k≠j→swc c i j k=c k:=fun k h1 h2=>by unfold swc;rw[if_neg h2,if_neg h1]
 refine⟨fun k hk k0 hkp=>?_,fun _ k hk k0 hp=>?_⟩
 ·by_cases hkj:k=j
  ·rw[hkj,hi,ej,ei];omega
  ·by_cases hki:k=i
   ·have:=h.s (by omega) j hj j0 hi
    rw[hki,ei,eo _ (by omega) (by omega)];exact this
   ·rw[eo k hki hkj]
    by_cases hpi:(k - 1) / 2=i
    ·rw[hpi,ei];exact hmin k hk k0 hpi
    ·rw[eo _ hpi hkp];exact h.o k hk k0 hpi
 ·have:=h.o k hk k0 (by omega)
  rw[hp] at this
  rw[hi,ei,eo k (by omega) (by omega)]
  exact this
theorem HpC.top {n:Nat}{c:Nat→Int}(h:HpC n c):∀k,k<n→c 0≤c k
 | 0,_=>Int.le_refl _
 | k+1,hk=>Int.le_trans (h.top ((k+1 - 1) / 2) (by omega)) (h (k+1) hk (by omega))
termination_by k=>k
theorem HpC.congr {n:Nat}{c c':Nat→Int}(h:HpC n c)(he:∀k,k<n→c' k=c k):HpC n c':=fun k hk h0=>by rw[he k hk,he _ (by omega)];exact h k hk h0
theorem a0n {xs:List (Int×Nat)}(e:Int×Nat)(h:HpC xs.length (cst xs)):UpI (xs++[e]).length (cst (xs++[e])) xs.length:=by
 have hc:∀k,k<xs.length→cst (xs++[e]) k=cst xs k:=fun k hk=>by unfold cst;rw[List.getD_eq_getElem?_getD,List.getD_eq_getElem?_getD,List.getElem?_append_left hk]
 refine⟨fun k hk k0 hki=>?_,fun i0 k hk k0 hp=>?_⟩
 ·rw[List.length_append,List.length_singleton] at hk
  rw[hc k (by omega),hc _ (by omega)];exact h k (by omega) k0
 ·rw[List.length_append,List.length_singleton] at hk
  omega
theorem a0o {xs:List (Int×Nat)}(h0:xs≠[])(h:HpC xs.length (cst xs)):DnI (xs.length - 1) (cst (swp xs 0 (xs.length - 1))) 0:=by
 have hl:0<xs.length:=List.length_pos_iff.2 h0
 have hc:=rJ (i:=0) (j:=xs.length - 1) hl (by omega)
 refine⟨fun k hk k0 hki=>?_,fun i0=>absurd i0 (Nat.lt_irrefl 0)⟩
 have eo:∀k,k≠0→k≠xs.length - 1→cst (swp xs 0 (xs.length - 1)) k=cst xs k:=fun k h1 h2=>by rw[hc,swc,if_neg h2,if_neg h1]
 rw[eo k (by omega) (by omega),eo _ hki (by omega)]
 exact h k (by omega) k0
theorem a0p {xs:List (Int×Nat)}{m k:Nat}(h:k<m):cst (xs.take m) k=cst xs k:=by
 unfold cst;rw[List.getD_eq_getElem?_getD,List.getD_eq_getElem?_getD,List.getElem?_take,if_pos h]
end Go.Ms
namespace Go.Mono
open Go Go.Proofs Go.RowKit
def Mth (P:Program)(T:TypeId)(v r:Value)(name:String)(id:FuncId)(w0:World):Prop:=∀args w,Ext w0 w→(callMethod (.iface T v) name args).run P w=.ok (.enter id (#[r]++args)) w
theorem Mth.ext {P:Program}{T:TypeId}{v r:Value}{name:String}{id:FuncId}{w0 w:World}(h:Mth P T v r name id w0)(e:Ext w0 w):Mth P T v r name id w:=fun args w' e'=>h args w' (e.tr e')
def jX (P:Program)(T:TypeId)(name:String)(id:FuncId)(ptr:Bool):Bool:=match P.info? T with
 | some i=>(match i.methods.find? (·.name==name) with
  | some m=>m.path.isEmpty&&(match m.func with|some (f,p)=>Nat.beq f id&&p==ptr|none=>false)
  | none=>false)
 | none=>false
theorem rK {P:Program}{T:TypeId}{name:String}{id:FuncId}{ptr:Bool}(h:jX P T name id ptr=true){n:Nat}{v:Value}{w:World} :
  (method (n+1) T v name).run P w=(do let x ← receiverAt T (.val v) ptr (some ((name.splitOn ".").getLastD name));pure (id,x):Sem (FuncId×Value)).run P w:=by
 unfold jX at h
 cases hi:P.info? T with
 | none=>rw[hi] at h;cases h
 | some i=>
  rw[hi] at h
  dsimp only at h
  cases hm:i.methods.find? (·.name==name) with
  | none=>rw[hm] at h;cases h
  | some m=>
   rw[hm] at h
   dsimp only at h
   rw[Bool.and_eq_true] at h
   obtain⟨h1,h2⟩:=h
   have hp:m.path = #[]:=Array.isEmpty_iff.1 h1
   cases hf:m.func with
   | none=>rw[hf] at h2;cases h2
   | some q=>
    obtain⟨f,p⟩:=q
    rw[hf] at h2
    dsimp only at h2
    rw[Bool.and_eq_true] at h2
    obtain rfl:f=id:=Nat.eq_of_beq_eq_true h2.1
    obtain rfl:p=ptr:=by simpa using h2.2
    simp[method,typeInfo,hi,hm,hf,hp,follow]
theorem rL {P:Program}{T e:TypeId}{name:String}{id:FuncId}{v:Value}{w0:World}(h:jX P T name id true=true)(hu:P.underlying T=some (.pointer e))(he:Proofs.Enters P id):Mth P T v v name id w0:=fun args w _=>by
 simp only[callMethod,Sem.run_bind,run_program,Result.andThen_ok]
 have h1:(method (P.types.size+Made.depth) T v name).run P w=.ok (id,v) w:=by
  rw[show P.types.size+Made.depth=(P.types.size+99)+1 from rfl,rK h]
  simp[receiverAt,run_underlying hu,Place.get]
 rw[h1]
 exact he (#[v]++args) w
theorem a0q {P:Program} {tys:Array TypeId} {t:TypeId} {ad:Addr} {n:String} {w:World}:(Builtin.ssaWrapNilChk_ tys t #[.pointer (some ad),strVal "",strVal n]).run P w=.ok (.pointer (some ad)) w:=rfl
theorem mB {P:Program}{T e:TypeId}{name:String}{id b:Nat}{bt:TypeId}{r:Value}{w0:World}(h:jX P T name id false=true)(hu:P.underlying T=some (.pointer e))(ht:TI P e false 1)(he:Proofs.Enters P id)(hb:Blk w0 b #[r] bt) :
  Mth P T (.pointer (some ⟨b,0,none⟩)) r name id w0:=fun args w ew=>by
 simp only[callMethod,Sem.run_bind,run_program,Result.andThen_ok]
 have hl:=ic ht (w:=w) (a:=⟨b,0,none⟩) (v:=r) (by rw[(hb.ext ew).cell 0];rfl)
 have h1:(method (P.types.size+Made.depth) T (.pointer (some ⟨b,0,none⟩)) name).run P w=.ok (id,r) w:=by
  rw[show P.types.size+Made.depth=(P.types.size+99)+1 from rfl,rK h]
  simp[receiverAt,run_underlying hu,Place.get,a0q,asAddr,hl]
 rw[h1]
 exact he (#[r]++args) w
theorem rM (x:Value)(name:String)(args:Array Value):invoke (.fn (.method name) #[]) (#[x]++args)=callMethod x name args:=by
 have h0:(#[x]++args)[0]?=some x:=by rw[Array.getElem?_append_left (by simp)];rfl
 have h1:(#[x]++args).extract 1 (#[x]++args).size=args:=by
  apply Array.toList_inj.1
  simp
 simp only[invoke,h0,h1]
section
variable {P:Program}{w0:World}{L:Env}{dst:Option Tmp}{ty:TypeId}{pos:String}{aft:Array Edge}{g:Option (Nat×Bool)}{x:Operand}{v r:Value}
def rN:TypeDesc→Bool
 | .interface _=>false
 | _=>true
theorem mkI {T:TypeId}{d:TypeDesc}(ht:P.underlying T=some d)(hd:rN d=true)(hx:opd L x=some (E v)):OpC P w0 L ⟨dst,.makeInterface T x,ty,pos,aft,g⟩ (E (.iface T v)):=
 aQ fun ρ w he hv=>by
  have h1:=opE hv (x:=x) (by simp[Op.operands]) hx
  refine⟨_,?_,rfl⟩
  cases d with
  | interface m=>cases hd
  | _=>simp[execOp,h1,Instr.makeInterface,run_underlying ht]
theorem asI {T xt:TypeId}{d:TypeDesc}(ht:P.underlying T=some d)(hd:rN d=true)(hx:opd L x=some (E (.iface T v))):OpC P w0 L ⟨dst,.typeAssert x xt T true,ty,pos,aft,g⟩ (E (.tuple #[v,.bool true])):=
 aQ fun ρ w he hv=>by
  have h1:=opE hv (x:=x) (by simp[Op.operands]) hx
  refine⟨_,?_,rfl⟩
  cases d with
  | interface m=>cases hd
  | _=>simp[execOp,h1,Instr.typeAssert,run_underlying ht]
theorem rO {fo:Operand}{name:String}{T:TypeId}{id:FuncId}{xs:Array Operand}{tys:Array TypeId}{A:VA}(hm:Mth P T v r name id w0)(hfo:opd L fo=some (E (.iface T v)))
  (h:∀ρ w,Ext w0 w→(∀x∈(Op.call ⟨.invoke fo name,xs,tys⟩).operands,∀B,opd L x=some B→B.p (ρ x) w)→Calls P id (#[r]++xs.map ρ) w (Post A w)) :
  OpC P w0 L ⟨dst,.call ⟨.invoke fo name,xs,tys⟩,ty,pos,aft,g⟩ A:=by
 refine⟨fun ρ w he hv=>?_⟩
 have hfv:ρ fo=.iface T v:=hv fo (by simp[Op.operands,Call.operands]) _ hfo
 have hrun:(execOp ρ ⟨dst,.call ⟨.invoke fo name,xs,tys⟩,ty,pos,aft,g⟩).run P w=.ok (.enter id (#[r]++xs.map ρ)) w:=by
  have:=hm (xs.map ρ) w he
  simp only[execOp,resolve,hfv,rM,this,Sem.run_bind,Sem.run_pure,Result.andThen_ok]
 simp only[OpR,hrun]
 exact h ρ w he hv
theorem rP {fo:Operand}{name:String}{T:TypeId}{id:FuncId}{tys:Array TypeId}{A:VA}(hm:Mth P T v r name id w0)(hfo:opd L fo=some (E (.iface T v)))
  (h:∀w,Ext w0 w→Calls P id #[r] w (Post A w)):OpC P w0 L ⟨dst,.call ⟨.invoke fo name,#[],tys⟩,ty,pos,aft,g⟩ A:=
 rO hm hfo fun ρ w he hv=>by simpa using h w he
theorem iN {fo x y:Operand}{name:String}{T:TypeId}{id:FuncId}{tys:Array TypeId}{A B C:VA}(hm:Mth P T v r name id w0)(hfo:opd L fo=some (E (.iface T v)))(hx:opd L x=some B)(hy:opd L y=some C)
  (h:∀a b w,Ext w0 w→B.p a w→C.p b w→Calls P id #[r,a,b] w (Post A w)):OpC P w0 L ⟨dst,.call ⟨.invoke fo name,#[x,y],tys⟩,ty,pos,aft,g⟩ A:=
 rO hm hfo fun ρ w he hv=>by simpa using h (ρ x) (ρ y) w he (hv x (by simp[Op.operands,Call.operands]) _ hx) (hv y (by simp[Op.operands,Call.operands]) _ hy)
end
section tail
variable {P:Program}{L:Env}{ty:TypeId}{pos:String}{aft:Array Edge}{r:Option Nat}{ds:List Deferred}
variable {ops:Array Oper}{rest:List Oper}{Q:Exit→Act→World→Prop}{n:Nat}{a:Act}{w:World}
theorem iO {S:Nat→Prop}{F:Value→World→Prop}{fo:Operand}{name:String}{T:TypeId}{v rv:Value}{id:FuncId}{xs:Array Operand}{tys:Array TypeId}{d:Nat}(hf:FrD n ds a w L)[hL:ff S L](hd:d<n)(hm:Mth P T v rv name id w)(hfo:opd L fo=some (E (.iface T v)))
  (h:Calls P id (#[rv]++xs.map a.eval) w (fun e w'=>∃v,e=.returned v∧Chg S w w'∧F v w'))
  (k:∀a' v w',Chg S w w'→F v w'→FrD n ds a' w' ((d,E v)::L)→wpListIn (FW r) 0 P ops Q rest a' w') :
  wpListIn (FW r) 0 P ops Q (⟨some d,.call ⟨.invoke fo name,xs,tys⟩,ty,pos,aft,none⟩::rest) a w:=
 wpListIn_plain rfl fun K hK=>by
  have hfv:a.eval fo=.iface T v:=hf.opd fo _ hfo
  have hrun:(execOp a.eval ⟨some d,.call ⟨.invoke fo name,xs,tys⟩,ty,pos,aft,none⟩).run P w=.ok (.enter id (#[rv]++xs.map a.eval)) w:=by
   have:=hm (xs.map a.eval) w (Ext.rfl' _)
   simp only[execOp,resolve,hfv,rM,this,Sem.run_bind,Sem.run_pure,Result.andThen_ok]
  refine OpR.wp (R:=fun v w'=>Chg S w w'∧F v w') ?_ ?_
  ·simp only[OpR,hrun]
   exact h
  ·rintro v w' ⟨h1,h3⟩
   exact hK _ _ (k _ _ _ h1 h3 ((hf.ch h1).put (d:=some d) (A:=E v) (Ext.rfl' _) (fun k hk=>by cases hk;exact hd) rfl))
end tail
end Go.Mono
namespace Go.Mono
open Go Go.Proofs Go.RowKit
def bD (cs:Array Value)(off:Nat)(new:Array Value):Array Value:=(cs.toList.take off++new.toList++cs.toList.drop (off+new.size)).toArray
theorem gW {cs new:Array Value}{off:Nat}(h:off+new.size≤cs.size):(bD cs off new).size=cs.size:=by
 simp[bD];omega
theorem rQ {cs new:Array Value}{off:Nat}(h:off+new.size≤cs.size)(j:Nat):(bD cs off new)[j]?=if j<off then cs[j]? else if j<off+new.size then new[j - off]? else cs[j]?:=by
 rw[bD,List.getElem?_toArray,List.append_assoc,List.getElem?_append]
 have hl:(cs.toList.take off).length=off:=by simp;omega
 rw[hl]
 by_cases h1:j<off
 ·rw[if_pos h1,if_pos h1,List.getElem?_take,if_pos h1,Array.getElem?_toList]
 ·rw[if_neg h1,if_neg h1,List.getElem?_append]
  by_cases h2:j<off+new.size
  ·rw[if_pos h2,if_pos (by simp;omega),Array.getElem?_toList]
  ·rw[if_neg h2,if_neg (by simp;omega),List.getElem?_drop,Array.getElem?_toList]
   congr 1
   simp;omega
theorem rR {cs:Array Value}{off:Nat}{a b:Value}(h:off+2≤cs.size)(j:Nat):(bD cs off #[a,b])[j]?=if j=off then some a else if j=off+1 then some b else cs[j]?:=by
 rw[rQ (show off+(#[a,b]:Array Value).size≤cs.size from h),show (#[a,b]:Array Value).size=2 from rfl]
 by_cases h1:j=off
 ·rw[if_pos h1,if_neg (by omega),if_pos (by omega),h1,Nat.sub_self];rfl
 ·rw[if_neg h1]
  by_cases h2:j=off+1
  ·rw[if_pos h2,if_neg (by omega),if_pos (by omega),h2,Nat.add_sub_cancel_left];rfl
  ·rw[if_neg h2]
   by_cases h3:j<off
   ·rw[if_pos h3]
   ·rw[if_neg h3,if_neg (by omega)]
theorem a0r {P:Program}{w0:World}{L:Env}{ty:TypeId}{pos:String}{aft:Array Edge}{x y:Operand}{t bt:TypeId}{b off s:Nat}{cs new:Array Value}(ht:TI P t true s)(hx:opd L x=some (E (.pointer (some ⟨b,off,none⟩))))(hy:opd L y=some (E (.agg new)))(h1:new.all (·.oneCell')=true)(hb:Blk w0 b cs bt)(hn:new.size=s)(ho:off+s≤cs.size) :
  eb P w0 (Chg fun c=>c=b) (fun w'=>Blk w' b (bD cs off new) bt) L ⟨none,.store t x y,ty,pos,aft,none⟩ Any:=by
 refine⟨fun ρ w he hv=>?_⟩
 have hxv:ρ x=.pointer (some ⟨b,off,none⟩):=hv x (by simp[Op.operands]) _ hx
 have hyv:ρ y=.agg new:=hv y (by simp[Op.operands]) _ hy
 have hb':=hb.ext he
 have hrun:=run_storeCells_at (P:=P) b off bt new.toList 0 cs w hb' (by simp;omega) (fun v hv=>by rw[Array.all_eq_true_iff_forall_mem] at h1;exact h1 v (by simpa using hv))
 simp only[Nat.add_zero,Array.length_toList] at hrun
 have hc:(Value.agg new).cells=new:=rfl
 have hrun2:OpR P ⟨none,.store t x y,ty,pos,aft,none⟩ ρ w (fun _ w'=>w'=w.setRow b (bD cs off new)):=by
  simp[OpR,execOp,Instr.storeAt,Instr.sureAddr,hxv,hyv,storeVar,hc,ht.size,hn,hrun,bD]
 refine hrun2.mono ?_
 rintro u w' rfl
 have hg:=dP w b (bD cs off new)
 refine⟨⟨hg.os,hg.tape,hg.output,hg.size,fun c hc hne=>hg.block c hc fun he=>hne (Option.some.inj he)⟩,trivial,setRow_heap _ _ _ _ _ _ hb'⟩
end Go.Mono
namespace Go.Mono
open Go Go.Proofs Go.RowKit
def OwB {α:Type}(e:Enc α)(te B:Nat)(G:Nat→Prop)(xs:List α)(v:Value)(N:Nat):VA:=⟨fun u w=>OwR e te B G w xs u∧∀b,u.ownBlock=some b→v.ownBlock=some b∨N≤b,fun _ _ _ e h=>⟨h.1.ext e,h.2⟩⟩
theorem rS {P:Program}{w0:World}{L:Env}{dst:Option Tmp}{ty:TypeId}{pos:String}{aft:Array Edge}{α:Type}{e:Enc α}[FlE e]{x y:Operand}{t te:TypeId}{z0:Value}{sz bz B:Nat}{G G':Nat→Prop}{xs ys:List α}{v:Value}(ht:P.underlying t=some (.slice te))(hi:(P.info? te).map (fun i=>(i.zero,i.size,i.bytes))=some (some z0,sz,bz))(hsz:sz=e.k)(hz0:z0.cells.size=e.k)
  (hx:opd L x=some (E v)) (ho:OwR e te B G w0 xs v) (hy:Is L w0 y (Dv (slE e) G' ys)) (hb:(xs.length+ys.length) * bz≤140737488355328) (h63:xs.length+ys.length≤maxLen) :
  eb P w0 (Chg fun b=>v.ownBlock=some b) (fun _=>True) L ⟨dst,.call ⟨.builtin .append,#[x,y],#[t,t]⟩,ty,pos,aft,none⟩ (OwB e te B G (xs++ys) v w0.heap.size):=by
 refine⟨fun ρ w he hv=>?_⟩
 have hxv:ρ x=v:=hv x (by simp[Op.operands,Call.operands]) _ hx
 have hyv:=hy.v he hv (by simp[Op.operands,Call.operands])
 obtain⟨v',w',h1,h2,h3,h4⟩:=wI (P:=P) (ty:=ty) ht hi hsz hz0 (ho.ext he) hyv h63 hb
 simp only[OpR,execOp,resolve,invoke,builtin,Sem.run_bind,Sem.run_pure,Result.andThen_ok,List.map_toArray,List.map_cons,List.map_nil,hxv,h1]
 exact⟨⟨h3.os,h3.tape,h3.output,h3.size,fun b hb hS=>h3.block b hb fun hbb=>hS hbb.symm⟩,⟨h2,fun b hb=>h4.elim (fun h=>.inl (h▸hb)) fun h=>.inr (by rw[h] at hb;cases hb;exact he.size)⟩,trivial⟩
end Go.Mono
namespace Go.Mono
open Go Go.Proofs Go.RowKit
theorem a0s {cs:Array Value}{off:Nat}{a:Value}(h:off<cs.size)(j:Nat):(bD cs off #[a])[j]?=if j=off then some a else cs[j]?:=by
 rw[rQ (show off+(#[a]:Array Value).size≤cs.size from h),show (#[a]:Array Value).size=1 from rfl]
 by_cases h1:j=off
 ·rw[if_pos h1,if_neg (by omega),if_pos (by omega),h1,Nat.sub_self];rfl
 ·rw[if_neg h1]
  by_cases h3:j<off
  ·rw[if_pos h3]
  ·rw[if_neg h3,if_neg (by omega)]
theorem a0t {P:Program}{w0:World}{L:Env}{ty:TypeId}{pos:String}{aft:Array Edge}{x y:Operand}{t bt:TypeId}{b off:Nat}{v:Value}{cs:Array Value}(ht:TI P t false 1)(hx:opd L x=some (E (.pointer (some ⟨b,off,none⟩))))(hy:opd L y=some (E v))(h1:v.oneCell'=true)(hb:Blk w0 b cs bt)(ho:off<cs.size) :
  eb P w0 (Chg fun c=>c=b) (fun w'=>Blk w' b (bD cs off #[v]) bt) L ⟨none,.store t x y,ty,pos,aft,none⟩ Any:=by
 refine⟨fun ρ w he hv=>?_⟩
 have hxv:ρ x=.pointer (some ⟨b,off,none⟩):=hv x (by simp[Op.operands]) _ hx
 have hyv:ρ y=v:=hv y (by simp[Op.operands]) _ hy
 have hc:v.cells = #[v]:=by cases v <;> simp[Value.cells,Value.oneCell'] at h1 ⊢
 have hb':=hb.ext he
 have hrun:=run_storeCells_at (P:=P) b off bt [v] 0 cs w hb' (by simp;omega) (by simpa using h1)
 simp only[List.length_singleton,Nat.add_zero] at hrun
 have hrun2:OpR P ⟨none,.store t x y,ty,pos,aft,none⟩ ρ w (fun _ w'=>w'=w.setRow b (bD cs off #[v])):=by
  simp[OpR,execOp,Instr.storeAt,Instr.sureAddr,hxv,hyv,storeVar,hc,ht.size,hrun,bD]
 refine hrun2.mono ?_
 rintro u w' rfl
 have hg:=dP w b (bD cs off #[v])
 exact⟨⟨hg.os,hg.tape,hg.output,hg.size,fun k hk hn=>hg.block k hk fun hh=>hn (by cases hh;rfl)⟩,trivial,setRow_heap _ _ _ _ _ _ hb'⟩
end Go.Mono
namespace Go.Mono
open Go Go.Proofs Go.RowKit Go.Ms
def wyF (x:Int×Nat):List Value:=[I x.1,I (x.2:Nat)]
def wyE:Enc (Int×Nat):=dX 2 true wyF (by decide) (fun h=>by cases h) (fun _=>rfl) (fun x u hu=>by simp[wyF] at hu;rcases hu with rfl|rfl <;> rfl)
instance:FlE wyE:=⟨fun h=>h⟩
theorem gX:FlF wyE wyF:=⟨fun _ _ _ _=>Iff.rfl,fun _=>rfl⟩
def wyV (x:Int×Nat):Value:=.agg #[I x.1,I (x.2:Nat)]
theorem jY:∀(xs:List (Int×Nat)) (t:Nat),(xs.flatMap wyF)[t]?=(xs[t / 2]?).bind fun x=>(wyF x)[t % 2]?
 | [],t=>by simp
 | x::r,t=>by
  rw[List.flatMap_cons,List.getElem?_append,show (wyF x).length=2 from rfl]
  by_cases ht:t<2
  ·rw[if_pos ht,Nat.div_eq_of_lt ht,Nat.mod_eq_of_lt ht];rfl
  ·rw[if_neg ht,jY r,show t / 2=(t - 2) / 2+1 by omega,show t % 2=(t - 2) % 2 by omega,List.getElem?_cons_succ]
theorem getD_some {xs:List (Int×Nat)}{i:Nat}(h:i<xs.length):xs[i]?=some (xs.getD i (0,0)):=by rw[List.getD_eq_getElem?_getD,List.getElem?_eq_getElem h];rfl
theorem gY {cur:Array Value}{xs:List (Int×Nat)}(ht:cur.toList.take (xs.length * 2)=xs.flatMap wyF){i:Nat}(hi:i<xs.length):cur[2 * i]?=some (I (xs.getD i (0,0)).1)∧cur[2 * i+1]?=some (I ((xs.getD i (0,0)).2:Nat)):=by
 have key:∀t,t<xs.length * 2→cur[t]?=(xs.flatMap wyF)[t]?:=fun t h=>by rw[← ht,List.getElem?_take,if_pos h,Array.getElem?_toList]
 constructor
 ·rw[key _ (by omega),jY,show 2 * i / 2=i by omega,show 2 * i % 2=0 by omega,getD_some hi];rfl
 ·rw[key _ (by omega),jY,show (2 * i+1) / 2=i by omega,show (2 * i+1) % 2=1 by omega,getD_some hi];rfl
theorem a0u {cur:Array Value}{xs:List (Int×Nat)}(hs:xs.length * 2≤cur.size)(h:∀i,i<xs.length→cur[2 * i]?=some (I (xs.getD i (0,0)).1)∧cur[2 * i+1]?=some (I ((xs.getD i (0,0)).2:Nat))):cur.toList.take (xs.length * 2)=xs.flatMap wyF:=by
 refine List.ext_getElem? fun t=>?_
 rw[List.getElem?_take,jY]
 by_cases ht:t<xs.length * 2
 ·rw[if_pos ht,Array.getElem?_toList,getD_some (show t / 2<xs.length by omega)]
  obtain⟨h1,h2⟩:=h (t / 2) (by omega)
  rcases Nat.mod_two_eq_zero_or_one t with hm|hm
  ·rw[show t=2 * (t / 2) by omega,h1,show 2 * (t / 2) / 2=t / 2 by omega,show 2 * (t / 2) % 2=0 by omega];rfl
  ·rw[show t=2 * (t / 2)+1 by omega,h2,show (2 * (t / 2)+1) / 2=t / 2 by omega,show (2 * (t / 2)+1) % 2=1 by omega];rfl
 ·rw[if_neg ht,List.getElem?_eq_none (by omega)];rfl
theorem mD {cur:Array Value}{off:Nat}{a b:Value}(h1:cur[off]?=some a)(h2:cur[off+1]?=some b):cur.extract off (off+2) = #[a,b]:=by
 have l2:=(Array.getElem?_eq_some_iff.1 h2).1
 apply Array.ext_getElem?
 intro j
 rw[Array.getElem?_extract]
 match j with
 | 0=>rw[if_pos (by omega),Nat.add_zero,h1];rfl
 | 1=>rw[if_pos (by omega),h2];rfl
 | j+2=>rw[if_neg (by omega)];rfl
theorem wat {b i:Nat}:Value.pointer (some ⟨b,0+((i:Nat):Int).toNat * 2,none⟩)=Value.pointer (some ⟨b,2 * i,none⟩):=by rw[Int.toNat_natCast,Nat.zero_add,Nat.mul_comm]
theorem jZ {N:Nat}{G:Nat→Prop}{ty:TypeId}(xs:List (Int×Nat))(v:Value)(W:World)(h:OwR wyE ty N G W xs v):Calls Tryz.prog 96 #[v] W (Post (E (I (xs.length:Nat))) W):=by
 have hd:=h.sl
 refine enter (args:=[v]) (As:=[E v]) Tryz.func96 rfl Tryz.ntmps96 (Nat.le_of_ble_eq_true rfl) ?_ (fun a hf=>?_) (Nat.le_of_ble_eq_true rfl)
 rotate_left
 dsimp only[params,Nat.reduceAdd] at hf
 rotate_right
 ·exact arg1 rfl
 have e:=Ext.rfl' W
 refine seq ?_
 refine aj ?_
 refine ae hf rfl (by decide) fun a hf=>?_
 refine aa ?_
 refine seq ?_
 refine ac 2 hf (by decide +kernel) ?_
 refine st (mv rfl) ?_
 refine st (bi cV (isE rfl (VA.st _ _ _ _ e hd))) ?_
 refine en fun a w e' hf=>?_
 replace e:=e.tr e'
 refine ae hf rfl (by decide) fun a hf=>?_
 refine aa ?_
 refine an ?_
 refine az rfl hf rfl ?_
 rintro _ rfl
 exact⟨_,rfl,e,rfl⟩
theorem iP {N:Nat}{G:Nat→Prop}(xs:List (Int×Nat))(i k:Nat)(v:Value)(W:World)(h:OwR wyE 139 N G W xs v)(hi:i<xs.length)(hk:k<xs.length):Calls Tryz.prog 173 #[v,I (i:Nat),I (k:Nat)] W (Post (E (B (decide (cst xs i<cst xs k)))) W):=by
 rcases h.rw gX with ⟨rfl,rfl⟩|⟨b,cap,cur,rfl,hc,HR,ht⟩
 ·simp at hi
 have c1:=(gY ht hi).1
 have c2:=(gY ht hk).1
 have hB:=HR.bl
 refine enter (args:=[.slice (some ⟨b,0,none⟩) xs.length cap,I (i:Nat),I (k:Nat)]) (As:=[E (.slice (some ⟨b,0,none⟩) xs.length cap),E (I (i:Nat)),E (I (k:Nat))]) Tryz.func173 rfl Tryz.ntmps173 (Nat.le_of_ble_eq_true rfl) ?_ (fun a hf=>?_) (Nat.le_of_ble_eq_true rfl)
 rotate_left
 dsimp only[params,Nat.reduceAdd] at hf
 rotate_right
 ·exact eH rfl rfl rfl
 have e:=Ext.rfl' W
 refine seq ?_
 refine aj ?_
 refine ae hf rfl (by decide) fun a hf=>?_
 refine aa ?_
 refine seq ?_
 refine reg 11 Mix.mix hf (by decide +kernel) ?_
 refine st (mv rfl) ?_
 refine st (mv rfl) ?_
 refine st ((idxS cV eA rfl rfl (by omega)).eq (wat)) ?_
 refine st (am cK rfl T3 (by decide) rfl) ?_
 refine st (ld1 T3 rfl hB c1) ?_
 refine st (mv rfl) ?_
 refine st (mv rfl) ?_
 refine st ((idxS cV eA rfl rfl (by omega)).eq (wat)) ?_
 refine st (am cK rfl T3 (by decide) rfl) ?_
 refine st (ld1 T3 rfl hB c2) ?_
 refine st (lss rfl rfl) ?_
 refine en fun a w e' hf=>?_
 replace e:=e.tr e'
 replace hB:=hB.ext e'
 refine ae hf rfl (by decide) fun a hf=>?_
 refine aa ?_
 refine an ?_
 refine az rfl hf rfl ?_
 rintro _ rfl
 exact⟨_,rfl,e,rfl⟩
theorem a0v {cur:Array Value}{xs:List (Int×Nat)}{i k:Nat}(hi:i<xs.length)(hk:k<xs.length)(hs:xs.length * 2≤cur.size)(ht:cur.toList.take (xs.length * 2)=xs.flatMap wyF) :
  (bD (bD cur (2 * i) #[I (xs.getD k (0,0)).1,I ((xs.getD k (0,0)).2:Nat)]) (2 * k) #[I (xs.getD i (0,0)).1,I ((xs.getD i (0,0)).2:Nat)]).toList.take ((swp xs i k).length * 2)=(swp xs i k).flatMap wyF:=by
 have z1:(bD cur (2 * i) #[I (xs.getD k (0,0)).1,I ((xs.getD k (0,0)).2:Nat)]).size=cur.size:=gW (by show 2 * i+2≤_;omega)
 have z2:(bD (bD cur (2 * i) #[I (xs.getD k (0,0)).1,I ((xs.getD k (0,0)).2:Nat)]) (2 * k) #[I (xs.getD i (0,0)).1,I ((xs.getD i (0,0)).2:Nat)]).size=cur.size:=(gW (by rw[z1];show 2 * k+2≤_;omega)).trans z1
 refine a0u (by rw[fE,z2];exact hs) fun j hj=>?_
 rw[fE] at hj
 obtain⟨a1,a2⟩:=gY ht hj
 have g0:=fun t=>rR (cs:=bD cur (2 * i) #[I (xs.getD k (0,0)).1,I ((xs.getD k (0,0)).2:Nat)]) (off:=2 * k) (a:=I (xs.getD i (0,0)).1) (b:=I ((xs.getD i (0,0)).2:Nat)) (by omega) t
 have g1:=fun t=>rR (cs:=cur) (off:=2 * i) (a:=I (xs.getD k (0,0)).1) (b:=I ((xs.getD k (0,0)).2:Nat)) (by omega) t
 rw[fF hi hk]
 by_cases h1:j=k
 ·subst h1
  rw[if_pos rfl]
  exact⟨by rw[g0,if_pos rfl],by rw[g0,if_neg (by omega),if_pos rfl]⟩
 ·rw[if_neg h1]
  by_cases h2:j=i
  ·subst h2
   rw[if_pos rfl]
   exact⟨by rw[g0,if_neg (by omega),if_neg (by omega),g1,if_pos rfl],by rw[g0,if_neg (by omega),if_neg (by omega),g1,if_neg (by omega),if_pos rfl]⟩
  ·rw[if_neg h2]
   exact⟨by rw[g0,if_neg (by omega),if_neg (by omega),g1,if_neg (by omega),if_neg (by omega)];exact a1,by rw[g0,if_neg (by omega),if_neg (by omega),g1,if_neg (by omega),if_neg (by omega)];exact a2⟩
theorem mE (x:Int×Nat):(#[I x.1,I (x.2:Nat)]:Array Value).all (·.oneCell')=true:=by simp[Value.oneCell']
theorem mF {N:Nat}{G:Nat→Prop}(xs:List (Int×Nat))(i k:Nat)(v:Value)(W:World)(h:OwR wyE 139 N G W xs v)(hi:i<xs.length)(hk:k<xs.length):Calls Tryz.prog 176 #[v,I (i:Nat),I (k:Nat)] W (fun en w'=>en=.returned (.tuple #[])∧Chg (fun b=>v.ownBlock=some b) W w'∧OwR wyE 139 N G w' (swp xs i k) v):=by
 have hG:=h.av
 rcases h.rw gX with ⟨rfl,rfl⟩|⟨b,cap,cur,rfl,hc,HR,ht⟩
 ·simp at hi
 have c1:=gY ht hi
 have c2:=gY ht hk
 have hsz:xs.length * 2≤cur.size:=by rw[HR.sz];exact Nat.mul_le_mul_right 2 hc
 have hfin:=a0v hi hk hsz ht
 have hB:=HR.bl
 have hmx:=HR.mx
 have hlo:=HR.lo
 have hcs:=HR.sz
 clear h HR
 refine enter (args:=[.slice (some ⟨b,0,none⟩) xs.length cap,I (i:Nat),I (k:Nat)]) (As:=[E (.slice (some ⟨b,0,none⟩) xs.length cap),E (I (i:Nat)),E (I (k:Nat))]) Tryz.func176 rfl Tryz.ntmps176 (Nat.le_of_ble_eq_true rfl) ?_ (fun a hf=>?_) (Nat.le_of_ble_eq_true rfl)
 rotate_left
 dsimp only[params,Nat.reduceAdd] at hf
 rotate_right
 ·exact eH rfl rfl rfl
 have Hw:Chg (fun c=>c=b) W W:=Chg.rfl' _ _
 refine eP 15 [2,2,1,1,2,2,2,2,2,2,2,2,2] (Chg fun c=>c=b) (ct.one _) (fun w=>Blk w b (bD cur (2 * i) #[I (xs.getD k (0,0)).1,I ((xs.getD k (0,0)).2:Nat)]) 139) (fun w w1 k h=>h.ext k) Mix.mix hf (by decide +kernel) (by decide +kernel) ?_
 refine jk (mv rfl) ?_
 refine jk (mv rfl) ?_
 refine jf (fun w1 h1=>mv rfl) ?_
 refine jf (fun w1 h1=>mv rfl) ?_
 refine jk (mv rfl) ?_
 refine jk (mv rfl) ?_
 refine jk ((idxS cV eA rfl rfl (by omega)).eq (wat)) ?_
 refine jk ((ldP dS rfl hB (by omega)).eq (congrArg Value.agg (mD c2.1 c2.2))) ?_
 refine jk (mv rfl) ?_
 refine jk (mv rfl) ?_
 refine jk ((idxS cV eA rfl rfl (by omega)).eq (wat)) ?_
 refine jk ((ldP dS rfl hB (by omega)).eq (congrArg Value.agg (mD c1.1 c1.2))) ?_
 refine jk ((idxS cV eA rfl rfl (by omega)).eq (wat)) ?_
 refine jx (a0r (new := #[I (xs.getD k (0,0)).1,I ((xs.getD k (0,0)).2:Nat)]) dS rfl rfl (mE _) hB rfl (by omega)) ?_
 refine jp (fun w1 h1 HF1=>(idxS cV eA rfl rfl (by omega)).eq (wat)) ?_
 refine je ?_
 refine fun a w hc HF hf=>?_
 try dsimp only[push] at hf
 replace Hw:=Hw.tr hc
 clear hc
 refine wH (cs:=bD cur (2 * i) #[I (xs.getD k (0,0)).1,I ((xs.getD k (0,0)).2:Nat)]) dS hf rfl rfl (mE (xs.getD i (0,0))) HF rfl (by rw[gW (by show 2 * i+2≤_;omega)];omega) fun w hg hsz' HB hf=>?_
 replace Hw:=Hw.gr hg (.inl rfl)
 refine aa ?_
 have z1:(bD cur (2 * i) #[I (xs.getD k (0,0)).1,I ((xs.getD k (0,0)).2:Nat)]).size=cur.size:=gW (by show 2 * i+2≤_;omega)
 have z2:(bD (bD cur (2 * i) #[I (xs.getD k (0,0)).1,I ((xs.getD k (0,0)).2:Nat)]) (2 * k) #[I (xs.getD i (0,0)).1,I ((xs.getD i (0,0)).2:Nat)]).size=cur.size:=(gW (by rw[z1];show 2 * k+2≤_;omega)).trans z1
 have HR:RwR wyE.k 139 N cap b (bD (bD cur (2 * i) #[I (xs.getD k (0,0)).1,I ((xs.getD k (0,0)).2:Nat)]) (2 * k) #[I (xs.getD i (0,0)).1,I ((xs.getD i (0,0)).2:Nat)]) w:=⟨HB,hlo,z2.trans hcs,hmx⟩
 have hO:=HR.own (xs:=swp xs i k) (G:=G) gX (by rw[fE];exact hc) hfin hG
 rw[fE] at hO
 exact db rfl hf ⟨rfl,Hw.to fun c _ h=>by rw[h];rfl,hO⟩
structure HpW (bw:Nat)(v:Value)(xs:List (Int×Nat))(w:World):Prop where
 p:Blk w bw #[v] 136
 o:OwR wyE 139 1 G0 w xs v
def HpS (bw:Nat)(v:Value)(b:Nat):Prop:=b=bw∨v.ownBlock=some b
def OwL (W:World)(v v':Value):Prop:=∀b,v'.ownBlock=some b→v.ownBlock=some b∨W.heap.size≤b
theorem HpW.ext {bw:Nat}{v:Value}{xs:List (Int×Nat)}{w w':World}(h:HpW bw v xs w)(e:Ext w w'):HpW bw v xs w':=⟨h.p.ext e,h.o.ext e⟩
theorem HpW.ne {bw:Nat}{v:Value}{xs:List (Int×Nat)}{w:World}(h:HpW bw v xs w):v.ownBlock≠some bw:=h.o.neB h.p (by decide)
theorem OwL.tr {W w:World}{v v1 v2:Value}(h:OwL W v v1)(k:OwL w v1 v2)(hs:W.heap.size≤w.heap.size):OwL W v v2:=fun b hb=>(k b hb).elim (h b) fun hh=>.inr (Nat.le_trans hs hh)
theorem HpS.tr {W w1 w2:World}{bw:Nat}{v v1:Value}(h:Chg (HpS bw v) W w1)(hl:OwL W v v1)(k:Chg (HpS bw v1) w1 w2):Chg (HpS bw v) W w2:=
 ⟨k.os.trans h.os,k.tape.trans h.tape,k.output.trans h.output,Nat.le_trans h.size k.size,fun b hb hS=>(k.block b (Nat.lt_of_lt_of_le hb h.size) fun hh=>hh.elim (fun hh=>hS (.inl hh)) fun hh=>(hl b hh).elim (fun hh=>hS (.inr hh)) fun hh=>by omega).trans (h.block b hb hS)⟩
theorem a0w {G:Nat→Prop}{x:Int×Nat}{v:Value}{w:World}:(Dv wyE G x).p v w↔v=wyV x:=⟨fun⟨cs,h,hv⟩=>by subst h;exact hv,fun h=>⟨_,rfl,h⟩⟩
theorem a0x {L:Env}{w0:World}{x:Operand}{z:Int×Nat}{G:Nat→Prop}(h:opd L x=some (E (wyV z))):Is L w0 x (Dv wyE G z):=⟨_,h,fun v w _ hv=>a0w.2 hv⟩
theorem mG (x:Int×Nat):(#[I x.1,I (x.2:Nat)]:Array Value).all (·.oneCell')=true:=mE x
theorem a0y (xs:List (Int×Nat))(x:Int×Nat)(bw:Nat)(v:Value)(W:World)(H:HpW bw v xs W)(hl:xs.length≤100000000) :
  Calls Tryz.prog 175 #[ptr bw,.iface 139 (wyV x)] W (fun en w'=>en=.returned (.tuple #[])∧∃v',Chg (HpS bw v) W w'∧HpW bw v' (xs++[x]) w'∧OwL W v v'):=by
 have H0:=H
 refine enter (args:=[ptr bw,.iface 139 (wyV x)]) (As:=[E (ptr bw),E (.iface 139 (wyV x))]) Tryz.func175 rfl Tryz.ntmps175 (Nat.le_of_ble_eq_true rfl) ?_ (fun a hf=>?_) (Nat.le_of_ble_eq_true rfl)
 rotate_left
 dsimp only[params,Nat.reduceAdd] at hf
 rotate_right
 ·exact arg2 rfl rfl
 have e:=Ext.rfl' W
 refine seq ?_
 refine ac 5 hf (by decide +kernel) ?_
 refine st (mv rfl) ?_
 refine st (asI cK rfl rfl) ?_
 refine st (mv rfl) ?_
 refine st (exE rfl rfl) ?_
 refine st (exE rfl rfl) ?_
 refine en fun a w e' hf=>?_
 replace H:=H.ext e'
 replace e:=e.tr e'
 clear e'
 refine aC ii hf (by decide) fun a b4 w e' hb4 hs4 B4 hf=>?_
 have hle4:=Nat.le_trans e.size (Nat.le_of_eq hb4.symm)
 replace H:=H.ext e'
 replace e:=e.tr e'
 clear e'
 have n4:W.heap.size≤b4∧bw<W.heap.size∧∀b,v.ownBlock=some b→b<b4:=⟨by omega,H0.p.lt,fun b hb=>by have:=(H0.o.lt hb).2;omega⟩
 refine aF dS hf rfl rfl (mG x) B4 rfl rfl fun w hg hsz B4 hf=>?_
 replace e:=e.gr hg n4.1
 replace H:HpW bw v xs w:=⟨H.p.gr hg (by omega),H.o.grE hg (fun h=>by have:=n4.2.2 _ h;omega)⟩
 clear hg
 refine ae hf rfl (by decide) fun a hf=>?_
 refine aa ?_
 refine seq ?_
 refine ac 1 hf (by decide +kernel) ?_
 refine st (mv rfl) ?_
 refine en fun a w e' hf=>?_
 replace H:=H.ext e'
 replace e:=e.tr e'
 replace B4:=B4.ext e'
 refine aa ?_
 refine ifc hf rfl (fun _=>?_) (fun h=>by cases h)
 replace hf:=hf.kp [0,4]
 have c:Chg (HpS bw v) W w:=e.chg _
 have hl0:W.heap.size≤w.heap.size:=e.size
 refine eP 8 [1,0,0,0,0,0] (Chg (fun b=>v.ownBlock=some b)) (ct.chg _) (fun w=>True) (fun w w1 k h=>trivial) Mix.mix hf (by decide +kernel) (by decide +kernel) ?_
 refine jf (fun w1 h1=>mv rfl) ?_
 refine ja (mv rfl) ?_
 refine ja (dY rfl) ?_
 refine ja (ld1 (v:=v) dB rfl H.p rfl) ?_
 refine ja ((ldW dS rfl B4 rfl).eq ((rfl:_=wyV x))) ?_
 refine ja (bL (e:=wyE) (G:=G0) cV ii rfl (by decide) rfl (fun b hb=>hb.elim) (a0x rfl)) ?_
 refine jx (rS cV ii rfl rfl rfl H.o (isR rfl) (by simp only[List.length_singleton];omega) (by simp only[List.length_singleton,maxLen];omega)) ?_
 refine jp (fun w1 h1 HF1=>dY rfl) ?_
 refine je ?_
 refine fun a w hc HF hf=>?_
 try dsimp only[push] at hf
 have hbw:=H.p.ch hc H.ne
 obtain⟨v',⟨Ho,hle⟩,hf⟩:=hf.opn 18 rfl
 replace hf:=hf.kp [18,19]
 refine aO dB hf rfl rfl Ho.one hbw Nat.zero_lt_one fun w hg hsz Bw hf=>?_
 refine aa ?_
 refine db rfl hf ⟨rfl,v',(c.tr (hc.to fun b _ h=>.inr h)).gr hg (.inl (.inl rfl)),⟨Bw,Ho.grE hg (Ho.neB hbw (by decide))⟩,fun b hb=>(hle b hb).imp id fun h=>Nat.le_trans hl0 h⟩
theorem a0z (xs:List (Int×Nat))(x:Int×Nat)(bw:Nat)(v:Value)(W:World)(H:HpW bw v (xs++[x]) W)(hl:xs.length≤100000000) :
  Calls Tryz.prog 174 #[ptr bw] W (fun en w'=>en=.returned (.iface 139 (wyV x))∧∃v',Chg (HpS bw v) W w'∧HpW bw v' xs w'∧OwL W v v'):=by
 rcases H.o.rw gX with ⟨_,h0⟩|⟨b,cap,cur,rfl,hc,HR,ht⟩
 ·simp at h0
 have hn:(xs++[x]).length=xs.length+1:=by rw[List.length_append];rfl
 have hx:(xs++[x]).getD xs.length (0,0)=x:=by rw[List.getD_eq_getElem?_getD,List.getElem?_append_right (Nat.le_refl _),Nat.sub_self];rfl
 have c1:=gY ht (show xs.length<(xs++[x]).length by omega)
 rw[hx] at c1
 have hB:=HR.bl
 have Hp:=H.p
 rw[hn] at Hp
 have hnb:bw≠b:=fun h=>H.ne (by rw[h];rfl)
 refine enter (args:=[ptr bw]) (As:=[E (ptr bw)]) Tryz.func174 rfl Tryz.ntmps174 (Nat.le_of_ble_eq_true rfl) ?_ (fun a hf=>?_) (Nat.le_of_ble_eq_true rfl)
 rotate_left
 dsimp only[params,Nat.reduceAdd] at hf
 rotate_right
 ·exact arg1 rfl
 have e:=Ext.rfl' W
 refine seq ?_
 refine aj ?_
 refine ae hf rfl (by decide) fun a hf=>?_
 refine aa ?_
 refine seq ?_
 refine ac 5 hf (by decide +kernel) ?_
 refine st (mv rfl) ?_
 refine st (dY rfl) ?_
 refine st (ld1 (v:=.slice (some ⟨b,0,none⟩) (xs.length+1) cap) dB rfl Hp rfl) ?_
 refine st (li cV rfl) ?_
 refine st ((sub rfl rfl (by omega)).eq (congrArg (Value.int .i64) (show ((xs.length+1:Nat):Int) - 1=((xs.length:Nat):Int) by omega))) ?_
 refine en fun a w e' hf=>?_
 replace e:=e.tr e'
 replace hB:=hB.ext e'
 replace Hp:=Hp.ext e'
 refine ae hf rfl (by decide) fun a hf=>?_
 refine aa ?_
 refine seq ?_
 refine ac 6 hf (by decide +kernel) ?_
 refine st (mv rfl) ?_
 refine st (dY rfl) ?_
 refine st (ld1 (v:=.slice (some ⟨b,0,none⟩) (xs.length+1) cap) dB rfl Hp rfl) ?_
 refine st (mv rfl) ?_
 refine st ((idxS cV eA rfl rfl (by omega)).eq (wat)) ?_
 refine st ((ldP dS rfl hB (by have:=(Array.getElem?_eq_some_iff.1 c1.2).1;omega)).eq ((congrArg Value.agg (mD c1.1 c1.2):_=wyV x))) ?_
 refine en fun a w e' hf=>?_
 replace e:=e.tr e'
 replace hB:=hB.ext e'
 replace Hp:=Hp.ext e'
 clear e'
 refine aC ii hf (by decide) fun a b4 w e' hb4 hs4 B4 hf=>?_
 have hle4:=Nat.le_trans e.size (Nat.le_of_eq hb4.symm)
 replace e:=e.tr e'
 replace hB:=hB.ext e'
 replace Hp:=Hp.ext e'
 clear e'
 have n4:W.heap.size≤b4:=by omega
 have n5:bw<W.heap.size:=H.p.lt
 have n6:b<W.heap.size:=HR.bl.lt
 refine aF dS hf rfl rfl (mG x) B4 rfl rfl fun w hg hsz B4 hf=>?_
 replace e:=e.gr hg n4;replace hB:=hB.gr hg (by omega);replace Hp:=Hp.gr hg (by omega)
 clear hg
 refine aa ?_
 replace hf:=hf.kp [0,3,4]
 refine seq ?_
 refine ac 7 hf (by decide +kernel) ?_
 refine st (mv rfl) ?_
 refine st (mv rfl) ?_
 refine st (dY rfl) ?_
 refine st (ld1 (v:=.slice (some ⟨b,0,none⟩) (xs.length+1) cap) dB rfl Hp rfl) ?_
 refine st (mv rfl) ?_
 refine st (xk cV eA rfl rfl (by omega)) ?_
 refine st (dY rfl) ?_
 refine en fun a w e' hf=>?_
 replace e:=e.tr e'
 replace hB:=hB.ext e'
 replace Hp:=Hp.ext e'
 replace B4:=B4.ext e'
 clear e'
 refine aO dB hf rfl rfl rfl Hp Nat.zero_lt_one fun w hg hsz Hp hf=>?_
 have c:Chg (HpS bw (.slice (some ⟨b,0,none⟩) (xs++[x]).length cap)) W w:=(e.chg _).gr hg (.inl (.inl rfl))
 replace hB:=hB.gr hg (by omega);replace B4:=B4.gr hg (by omega)
 clear hg e
 refine aa ?_
 replace hf:=hf.kp [4]
 refine seq ?_
 refine ac 2 hf (by decide +kernel) ?_
 refine st ((ldW dS rfl B4 rfl).eq ((rfl:_=wyV x))) ?_
 refine st (mkI cK rfl rfl) ?_
 refine en fun a w e' hf=>?_
 replace c:=c.ext e'
 replace hB:=hB.ext e'
 replace Hp:=Hp.ext e'
 replace B4:=B4.ext e'
 refine ae hf rfl (by decide) fun a hf=>?_
 refine aa ?_
 refine an ?_
 refine az rfl hf rfl ?_
 rintro _ rfl
 have ht2:cur.toList.take (xs.length * 2)=xs.flatMap wyF:=by
  have h1:=congrArg (List.take (xs.length * 2)) ht
  have h2:wyE.k=2:=rfl
  have h3:((xs++[x]).flatMap wyF).take (xs.length * 2)=xs.flatMap wyF:=by rw[pD (k:=2) (fun _=>rfl),List.take_append,Nat.sub_self,List.take_zero,List.append_nil,List.take_length]
  rw[List.take_take,hn,h2,Nat.min_eq_left (by omega),h3] at h1
  exact h1
 have HR2:RwR wyE.k 139 1 cap b cur w:=⟨hB,HR.lo,HR.sz,HR.mx⟩
 refine⟨rfl,.slice (some ⟨b,0,none⟩) xs.length cap,c,⟨Hp,HR2.own gX (by omega) ht2 fun b hb=>hb.elim⟩,fun b hb=>.inl hb⟩
end Go.Mono
namespace Go.Mono
open Go Go.Proofs Go.RowKit Go.Gr
def cO (nb:Int→BS)(l:List BS)(p:BS):List BS:=if cB nb p∈l then l else l++[cB nb p]
def bE (nb:Int→BS)(l L:List BS):List BS:=L.foldl (cO nb) l
theorem a0A (nb:Int→BS)(l L:List BS)(p:BS):bE nb l (L++[p])=cO nb (bE nb l L) p:=by rw[bE,List.foldl_append];rfl
theorem gZ (nb:Int→BS):∀(L l:List BS),(bE nb l L).length≤l.length+L.length
 | [],l=>Nat.le_refl _
 | p::L,l=>by
  have h1:=gZ nb L (cO nb l p)
  have h2:(cO nb l p).length≤l.length+1:=by
   rw[cO];split
   ·omega
   ·rw[List.length_append];exact Nat.le_refl _
  have h3:bE nb l (p::L)=bE nb (cO nb l p) L:=rfl
  rw[h3,List.length_cons];omega
theorem OwR.neMp {α γ δ:Type}[DecidableEq γ]{e:Enc α}{ty:TypeId}{B:Nat}{G:Nat→Prop}{w:World}{xs:List α}{v:Value}(h:OwR e ty B G w xs v){P:Program}{V:KV P γ δ}{b n:Nat}{l:List (γ×δ)}(hb:MpR V w b n l):v.ownBlock≠some b:=fun hv=>by
 obtain⟨cs',h1,_⟩:=h.own
 rcases h1.2 with ⟨rfl,_⟩|⟨g,cap,cur,rfl,_,hg,_⟩
 ·simp[Value.ownBlock] at hv
 ·simp only[Value.ownBlock,Option.some.injEq] at hv
  subst hv
  exact hb.neB (show Blk w g cur ty from hg) rfl
def SpS (bm b3:Nat)(v0:Value):Nat→Prop:=fun b=>b=bm∨b=b3∨v0.ownBlock=some b
structure SpW (W:World)(gv:Value)(b1 b2 b3 bm:Nat)(v0 v:Value)(lp:List (BS×Bool))(xs:List BS)(w:World):Prop where
 c:Chg (SpS bm b3 v0) W w
 t:Tab w
 p1:Blk w b1 #[gv] 28
 p2:Blk w b2 #[.map (some bm)] 164
 p3:Blk w b3 #[v] 42
 m:MpR gV w bm xs.length lp
 o:OwR aX 47 1 G0 w xs v
 k:∀s,lkB false lp s=decide (s∈xs)
 l:OwL W v0 v
structure SpD (W:World)(b1 b2 b3 bm:Nat):Prop where
 hi:b1<W.heap.size∧b2<W.heap.size∧b3<W.heap.size∧bm<W.heap.size∧0<W.heap.size
 ne:b1≠b3∧b2≠b3∧b1≠bm∧b2≠bm∧b3≠bm∧0<b3∧0<bm
section
variable {W w w':World}{gv v0 v:Value}{b1 b2 b3 bm:Nat}{lp:List (BS×Bool)}{xs:List BS}
theorem SpW.ext (h:SpW W gv b1 b2 b3 bm v0 v lp xs w)(e:Ext w w'):SpW W gv b1 b2 b3 bm v0 v lp xs w':=⟨h.c.ext e,h.t.ext e,h.p1.ext e,h.p2.ext e,h.p3.ext e,h.m.ext e,h.o.ext e,h.k,h.l⟩
theorem SpW.new {b N:Nat}(h:SpW W gv b1 b2 b3 bm v0 v lp xs w)(d:SpD W b1 b2 b3 bm)(hN:N≤b)(hW:W.heap.size≤N)(ho:∀c,v.ownBlock=some c→c<N)(hg:w.grownBy w' (some b)):SpW W gv b1 b2 b3 bm v0 v lp xs w':=by
 obtain⟨h1,h2,h3,hm,h0⟩:=d.hi
 exact⟨h.c.gr hg (.inr (by omega)),h.t.gr hg (by omega),h.p1.gr hg (by omega),h.p2.gr hg (by omega),h.p3.gr hg (by omega),h.m.pres (hg.block _ h.m.lt fun e=>by cases e;omega),h.o.grE hg (fun hh=>by have:=ho _ hh;omega),h.k,h.l⟩
end
theorem a0B {G:Nat→Prop}{N:Nat}(g:GT)(ok:Gr.Ok g)(gv:Value)(X:BS)(xs:List BS)(lp:List (BS×Bool))(b1 b2 b3 bm:Nat)(v:Value)(W:World)(hG:(Dv (ptE (grE N)) G (some g)).p gv W)(hGS:∀b,SpS bm b3 v b→G b)(h:SpW W gv b1 b2 b3 bm v v lp xs W)(d:SpD W b1 b2 b3 bm)
  (hl1:g.1.length≤100000) (hl2:g.2.length≤100000) (hN:N≤1000000) (m K:Nat) (hK:K≤10000) (L:List BS) (hL:cc (nbA g) m K (ai g.1 &&& ~~~X)=some L) (hLl:L.length≤10000) (hxl:xs.length≤20000) :
  Calls Tryz.prog 126 #[ah X,ptr b1,ptr b2,ptr b3] W (fun en w'=>en=.returned (.tuple #[])∧∃v' lp',SpW W gv b1 b2 b3 bm v v' lp' (bE (nbA g) xs L) w'):=by
 have h0:=h
 have hownW:∀b,v.ownBlock=some b→b<W.heap.size:=fun b hb=>(h.o.lt hb).2
 refine dr (args:=[ah X,ptr b1,ptr b2,ptr b3]) (As:=[E (ah X),E (ptr b1),E (ptr b2),E (ptr b3)]) Tryz.func126 rfl Tryz.ntmps126 (Nat.le_of_ble_eq_true rfl) ?_ (fun a hf=>?_) (Nat.le_of_ble_eq_true rfl)
 ·exact bq rfl (bq rfl (bq rfl (bq rfl dG)))
 dsimp only[params,Nat.reduceAdd] at hf
 have e:=Ext.rfl' W
 refine seq ?_
 refine aj ?_
 refine aJ hf rfl (by decide) fun a b4 w v4 hv4 e' hb4 hs4 B4 hf=>?_
 have hle4:=Nat.le_trans e.size (Nat.le_of_eq hb4.symm)
 replace h:=h.ext e'
 replace e:=e.tr e'
 refine aa ?_
 cases hv4
 replace B4:Blk w b4 (au X) 47:=B4
 replace hf:=hf.kp [1,2,3,4]
 obtain⟨nb,hnb⟩:∃nb,nb=nbA g:=⟨_,rfl⟩
 have e0:=e
 have h1:=h
 obtain⟨N1,hN1⟩:∃N1,N1=w.heap.size:=⟨_,rfl⟩
 have hW1:W.heap.size≤N1:=by rw[hN1];exact e.size
 refine seq ?_
 refine ac 5 hf (by decide +kernel) ?_
 refine st (ld1 (v:=gv) T28 rfl h.p1 rfl) ?_
 refine st ((ldW T47 rfl B4 rfl).eq ((rfl:_=ah X))) ?_
 refine st (aD (A:=OwA aX 47 N1 G0 L) (B:=E gv) (C:=E (ah X)) ny rfl rfl (fun v u w he k1 k2=>by cases k1;cases k2;rw[hN1];exact (rC g ok gv X w (h1.t.ext he) (VA.st _ _ _ _ (Ext.tr e0 he) hG) hl1 hl2 hN m K hK L hL).mono fun en w' ⟨u,k1,k2,k3⟩=>⟨u,k1,k2,OwR.low k3 he.size fun b hb=>hb.elim⟩)) ?_
 refine st (bi U42 ⟨_,rfl,fun v w _ h=>OwR.sl h⟩) ?_
 refine st (mv rfl) ?_
 refine en fun a w e' hf=>?_
 replace h:=h.ext e'
 replace e:=e.tr e'
 replace B4:=B4.ext e'
 refine aa ?_
 obtain⟨u,Ho,hf⟩:=hf.opn 10 rfl
 replace Ho:OwR aX 47 N1 G0 w L u:=Ho
 clear e0 h1
 rw[← hnb]
 replace hf:=hf.kp [1,2,3,10,11,12]
 obtain⟨W2,hW2⟩:∃W2,W2=w:=⟨_,rfl⟩
 have HD2:(Dv (slE aX) (SpS bm b3 v) L).p u W2:=by
  rw[hW2]
  refine Ho.slN fun b hb hh=>?_
  have q:=(Ho.lt hb).1
  obtain⟨q1,q2,q3,q4,q5⟩:=d.hi
  rcases hh with rfl|rfl|hh
  ·omega
  ·omega
  ·have:=hownW _ hh;omega
 have hG2:(Dv (ptE (grE N)) G (some g)).p gv W2:=by rw[hW2];exact VA.st _ _ _ _ e hG
 have hWW:W.heap.size≤W2.heap.size:=by rw[hW2];exact e.size
 have h2:SpW W2 gv b1 b2 b3 bm v v lp xs w:=by rw[hW2];exact⟨(Ext.rfl' _).chg _,h.t,h.p1,h.p2,h.p3,h.m,h.o,h.k,fun b hb=>.inl hb⟩
 have hc1:=h.c
 rw[← hW2] at hc1
 have d2:SpD W2 b1 b2 b3 bm:=⟨by have:=d.hi;omega,d.ne⟩
 clear hW2 h Ho B4 hN1 e h0
 refine blk (aW (fun r0 a w=>∃(k:Nat) (v':Value) (lp':List (BS×Bool)),k≤L.length∧L.length≤r0+k∧FrD 30 [] a w [(1,E (ptr b1)),(2,E (ptr b2)),(3,E (ptr b3)),(10,E u),(11,E (I (L.length:Nat))),(12,E (I (k:Nat)))]∧SpW W2 gv b1 b2 b3 bm v v' lp' (bE nb xs (L.take k)) w) L.length ⟨0,v,lp,Nat.zero_le _,by omega,hf,h2⟩ ?_)
 clear hf h2
 rintro r0 a w ⟨k,v1,lp1,hk,hr,hf,h⟩
 refine seq ?_
 by_cases hlt:k<L.length
 ·have hg:=List.getElem?_eq_getElem hlt
  generalize L[k]=p at hg
  have htk:L.take (k+1)=L.take k++[p]:=dh hg
  obtain⟨ys,hys⟩:∃ys,ys=bE nb xs (L.take k):=⟨_,rfl⟩
  have hyl:ys.length≤30000:=by
   have h1:=gZ nb (L.take k) xs
   have h2:=List.length_take_le k L
   rw[← hys] at h1;omega
  have hyn:bE nb xs (L.take (k+1))=cO nb ys p:=by rw[htk,a0A,hys]
  rw[← hys] at h
  obtain⟨N0,hN0⟩:∃N0,N0=w.heap.size:=⟨_,rfl⟩
  have hN0s:N0≤w.heap.size:=Nat.le_of_eq hN0
  have hWN0:W2.heap.size≤N0:=by rw[hN0];exact h.c.size
  have hoN:∀c,v1.ownBlock=some c→c<N0:=fun c hc=>by rw[hN0];exact (h.o.lt hc).2
  clear hN0
  have HD:=Dv.ch HD2 h.c fun b hb=>hb
  have hGw:=Dv.ch hG2 h.c hGS
  refine ac 1 hf (by decide +kernel) ?_
  refine st ((lss rfl rfl).eq (congrArg Value.bool ((decide_eq_true (by omega):_=true)))) ?_
  refine en fun a w e' hf=>?_
  replace h:=h.ext e'
  replace HD:=VA.st _ _ _ _ e' HD
  replace hGw:=VA.st _ _ _ _ e' hGw
  replace hN0s:=Nat.le_trans hN0s e'.size
  refine aa ?_
  refine seq ?_
  refine ifc hf rfl (fun _=>ar ?_) (fun h=>by cases h)
  simp only[Exit.then,Exit.inBlock,↓reduceIte]
  replace hf:=hf.kp [1,2,3,10,11,12]
  refine seq ?_
  refine blk ?_
  refine seq ?_
  refine aj ?_
  refine aB hf (by decide) (ba U42 S47 (isE rfl HD) rfl (by omega) (hg)) fun a w e' hf=>?_
  replace h:=h.ext e'
  replace HD:=VA.st _ _ _ _ e' HD
  replace hGw:=VA.st _ _ _ _ e' hGw
  replace hN0s:=Nat.le_trans hN0s e'.size
  clear e'
  refine aB hf (by decide) (ldS T47 (isR rfl)) fun a w e' hf=>?_
  replace h:=h.ext e'
  replace HD:=VA.st _ _ _ _ e' HD
  replace hGw:=VA.st _ _ _ _ e' hGw
  replace hN0s:=Nat.le_trans hN0s e'.size
  clear e'
  refine aC I47 hf (by decide) fun a b6 w e' hb6 hs6 B6 hf=>?_
  have lo6_hN0s:=Nat.le_trans hN0s (Nat.le_of_eq hb6.symm)
  replace h:=h.ext e'
  replace HD:=VA.st _ _ _ _ e' HD
  replace hGw:=VA.st _ _ _ _ e' hGw
  replace hN0s:=Nat.le_trans hN0s e'.size
  clear e'
  have n6:N0≤b6:=lo6_hN0s
  replace hf:=hf.kp [1,2,3,6,10,11,12,15]
  refine aF T47 hf rfl rfl (aU _) B6 rfl rfl fun w hg' hsz B6 hf=>?_
  replace h:=h.new d2 n6 hWN0 hoN hg'
  replace hN0s:=Nat.le_trans hN0s hg'.size
  clear hg' hsz HD hGw
  refine aa ?_
  replace hf:=hf.kp [1,2,3,6,10,11,12]
  have l6:=B6.lt
  have hGw:=Dv.ch hG2 h.c hGS
  have h1:=h
  obtain⟨s,hs⟩:∃s,s=cB nb p:=⟨_,rfl⟩
  refine seq ?_
  refine ac 3 hf (by decide +kernel) ?_
  refine st (ld1 (v:=gv) T28 rfl h.p1 rfl) ?_
  refine st ((ldW T47 rfl B6 rfl).eq ((rfl:_=ah p))) ?_
  refine st (aD (A:=E (ah s)) (B:=E gv) (C:=E (ah p)) kO rfl rfl (fun v u w he k1 k2=>by cases k1;cases k2;rw[hs,hnb];exact rA g ok gv p w (h1.t.ext he) (VA.st _ _ _ _ he hGw) hl2 hN)) ?_
  refine en fun a w e' hf=>?_
  replace h:=h.ext e'
  replace hN0s:=Nat.le_trans hN0s e'.size
  replace B6:=B6.ext e'
  clear e'
  refine aC I47 hf (by decide) fun a b7 w e' hb7 hs7 B7 hf=>?_
  have lo7_hN0s:=Nat.le_trans hN0s (Nat.le_of_eq hb7.symm)
  have lt7_B6:=B6.lt
  replace h:=h.ext e'
  replace hN0s:=Nat.le_trans hN0s e'.size
  replace B6:=B6.ext e'
  clear e'
  clear h1 hGw
  have n7:N0≤b7:=lo7_hN0s
  replace hf:=hf.kp [1,2,3,7,11,12,10,18]
  refine aF T47 hf rfl rfl (aU _) B7 rfl rfl fun w hg' hsz B7 hf=>?_
  replace h:=h.new d2 n7 hWN0 hoN hg'
  clear hg' hsz B6
  refine aa ?_
  replace hf:=hf.kp [1,2,3,7,10,11,12]
  obtain⟨q,hq⟩:∃q,q=lkB false lp1 s:=⟨_,rfl⟩
  have hqm:=h.k s
  rw[← hq] at hqm
  cases q with
  | true=>
   refine seq ?_
   refine ac 4 hf (by decide +kernel) ?_
   refine st (ld1 (v:=.map (some bm)) jb rfl h.p2 rfl) ?_
   refine st ((ldW T47 rfl B7 rfl).eq ((rfl:_=ah s))) ?_
   refine st ((rI (V:=gV) (z:=false) (dH I4) trivial kR rfl h.m rfl trivial).eq ((congrArg Value.bool hq.symm:_=B true))) ?_
   refine st (bj rfl) ?_
   refine en fun a w e' hf=>?_
   replace h:=h.ext e'
   replace B7:=B7.ext e'
   refine aa ?_
   refine ifc hf rfl (fun h=>by cases h) (fun _=>ar ?_)
   simp only[Exit.then,Exit.inBlock,↓reduceIte]
   replace hf:=hf.kp [1,2,3,10,11,12]
   refine ac 1 hf (by decide +kernel) ?_
   refine st ((add rfl rfl (by omega)).eq (congrArg (Value.int .i64) (show ((k:Nat):Int)+1=((k+1:Nat):Int) from rfl))) ?_
   refine en fun a w e' hf=>?_
   replace h:=h.ext e'
   clear e'
   refine aB hf (by decide) (mv rfl) fun a w e' hf=>?_
   replace h:=h.ext e'
   refine aa ?_
   replace hf:=hf.kp [1,2,3,10,11,12]
   refine⟨r0 - 1,by omega,k+1,v1,lp1,by omega,by omega,hf,?_⟩
   rw[hyn,cO,← hs,if_pos (of_decide_eq_true hqm.symm)]
   exact h
  | false=>
   have hh0:=hWN0
   refine seq ?_
   refine ac 4 hf (by decide +kernel) ?_
   refine st (ld1 (v:=.map (some bm)) jb rfl h.p2 rfl) ?_
   refine st ((ldW T47 rfl B7 rfl).eq ((rfl:_=ah s))) ?_
   refine st ((rI (V:=gV) (z:=false) (dH I4) trivial kR rfl h.m rfl trivial).eq ((congrArg Value.bool hq.symm:_=B false))) ?_
   refine st (bj rfl) ?_
   refine en fun a w e' hf=>?_
   replace h:=h.ext e'
   replace B7:=B7.ext e'
   refine aa ?_
   refine ifc hf rfl (fun _=>?_) (fun h=>by cases h)
   replace hf:=hf.kp [1,2,3,7,10,11,12]
   have hns:s ∉ ys:=of_decide_eq_false hqm.symm
   have n7m:b7≠bm∧b7≠b3:=by have:=d2.hi;omega
   have hn7:v1.ownBlock≠some b7:=fun hh=>by have:=hoN _ hh;omega
   obtain⟨q1,q2,q3,q4,q5,q6,q7⟩:=d2.ne
   refine seq ?_
   refine ac 2 hf (by decide +kernel) ?_
   refine st (ld1 (v:=.map (some bm)) jb rfl h.p2 rfl) ?_
   refine st ((ldW T47 rfl B7 rfl).eq ((rfl:_=ah s))) ?_
   refine en fun a w e' hf=>?_
   replace h:=h.ext e'
   replace B7:=B7.ext e'
   clear e'
   refine eK (V:=gV) (i:=s) (c:=true) kR hf rfl rfl rfl h.m (by simp only[maxLen];omega) trivial trivial fun w hg' HM hf=>?_
   refine aa ?_
   have hom:=h.o.neMp h.m
   replace B7:=B7.gr hg' n7m.1
   have c:=h.c.gr hg' (.inl (.inl rfl))
   have t:=h.t.gr hg' (by omega)
   have p1:=h.p1.gr hg' q3
   have p2:=h.p2.gr hg' q4
   have p3:=h.p3.gr hg' q5
   have o:=h.o.grE hg' hom
   have hkl:=h.k
   have hl:=h.l
   clear hg' h
   replace hf:=hf.kp [1,2,3,7,10,11,12]
   refine ac 3 hf (by decide +kernel) ?_
   refine st (ld1 (v:=v1) T42 rfl p3 rfl) ?_
   refine st ((ldW T47 rfl B7 rfl).eq ((rfl:_=ah s))) ?_
   refine st (bL (e:=aX) (z:=s) (G:=GO G0 v1) U42 I47 rfl (by decide) rfl o.avs (isS rfl)) ?_
   refine en fun a w e' hf=>?_
   replace c:=c.ext e'
   replace t:=t.ext e'
   replace o:=o.ext e'
   replace HM:=HM.ext e'
   replace p1:=p1.ext e'
   replace p2:=p2.ext e'
   replace p3:=p3.ext e'
   replace B7:=B7.ext e'
   clear e'
   have hn1:=o.neB p1 (by decide)
   have hn2:=o.neB p2 (by decide)
   have hn3:=o.neB p3 (by decide)
   have hnm:=o.neMp HM
   replace hf:=hf.kp [1,2,3,10,11,12,25,27]
   refine bQ U42 I47 rfl rfl hf (by decide) rfl o (isR rfl) (by simp only[List.length_singleton];omega) (by simp only[List.length_singleton,maxLen];omega) fun a v2 w2 hg' hat Hn hf=>?_
   have c2:=c.tr2 (Chg.row hg') fun b hb=>(hl b hb).elim (fun hh=>.inl (.inr (.inr hh))) .inr
   replace t:=t.gro hg' fun b hb=>(o.lt hb).1
   replace p1:=p1.gro hg' hn1
   replace p2:=p2.gro hg' hn2
   replace p3:=p3.gro hg' hn3
   replace HM:=HM.pres (hg'.block _ HM.lt fun e=>hnm e.symm)
   have hl2:OwL W2 v v2:=fun b hb=>hat.elim (fun hh=>hl b (by rw[← hh];exact hb)) fun hh=>.inr (by rw[hh] at hb;cases hb;exact c.size)
   clear c o hg' hat
   have hn3:=Hn.neB p3 (by decide)
   replace hf:=hf.kp [1,2,3,10,11,12,28]
   refine aO T42 hf rfl rfl Hn.one p3 Nat.zero_lt_one fun w4 hg2 hsz p3 hf=>?_
   refine aa ?_
   simp only[Exit.then,Exit.inBlock,↓reduceIte]
   have h:SpW W2 gv b1 b2 b3 bm v v2 (bB lp1 s true) (ys++[s]) w4:=by
    refine⟨c2.gr hg2 (.inl (.inr (.inl rfl))),t.gr hg2 (by omega),p1.gr hg2 q1,p2.gr hg2 q2,p3,by rw[List.length_append];exact HM.pres (hg2.block _ HM.lt fun e=>by cases e;omega),Hn.grE hg2 hn3,fun z=>?_,hl2⟩
    rw[a0m,hkl]
    by_cases hz:z=s
    ·rw[if_pos hz];exact (decide_eq_true (List.mem_append_right _ (List.mem_singleton.2 hz))).symm
    ·rw[if_neg hz]
     exact decide_eq_decide.2 ⟨List.mem_append_left _,fun hh=>(List.mem_append.1 hh).resolve_right fun hh=>hz (List.mem_singleton.1 hh)⟩
   clear c2 t p1 p2 p3 HM Hn hg2
   replace hf:=hf.kp [1,2,3,10,11,12]
   refine ac 1 hf (by decide +kernel) ?_
   refine st ((add rfl rfl (by omega)).eq (congrArg (Value.int .i64) (show ((k:Nat):Int)+1=((k+1:Nat):Int) from rfl))) ?_
   refine en fun a w e' hf=>?_
   replace h:=h.ext e'
   clear e'
   refine aB hf (by decide) (mv rfl) fun a w e' hf=>?_
   replace h:=h.ext e'
   refine aa ?_
   replace hf:=hf.kp [1,2,3,10,11,12]
   refine⟨r0 - 1,by omega,k+1,v2,bB lp1 s true,by omega,by omega,hf,?_⟩
   rw[hyn,cO,← hs,if_neg hns]
   exact h
 ·have hke:k=L.length:=by omega
  refine ac 1 hf (by decide +kernel) ?_
  refine st ((lss rfl rfl).eq (congrArg Value.bool ((decide_eq_false (by omega):_=false)))) ?_
  refine en fun a w e' hf=>?_
  replace h:=h.ext e'
  refine aa ?_
  refine seq ?_
  refine ifc hf rfl (fun h=>by cases h) (fun _=>aR ?_)
  simp only[Exit.then,Exit.inBlock,↓reduceIte]
  rw[hke,List.take_length] at h
  exact jr rfl (D:=[]) hf (Ds.nil _) ⟨rfl,v1,lp1,hc1.tr2 h.c fun b hb=>.inl hb,h.t,h.p1,h.p2,h.p3,h.m,h.o,h.k,fun b hb=>(h.l b hb).imp (fun h=>h) fun h=>Nat.le_trans hWW h⟩
def nI (l:List Nat):List Int:=l.map fun i:Nat=>(i:Int)
theorem a0C {nb:Int→BS}{R:BS→Option (List Nat)}{L:BS}{l:List Nat}(h:poS nb R L=some l):∃v r,(elems L).find? (fun v:Nat=>cE nb (nb (v:Int) &&& L))=some v∧R (del L (v:Int))=some r∧l=v::r:=by
 unfold poS at h
 split at h
 ·cases h
 ·rename_i v hv
  cases hr:R (del L (v:Int)) with
  | none=>rw[hr] at h;cases h
  | some r=>
   rw[hr] at h
   exact⟨v,r,hv,hr,(Option.some.inj h).symm⟩
theorem a0D (nb:Int→BS)(f:Nat)(L:BS):poF nb (f+1) L=poS nb (poF nb f) L:=by rw[poF]
theorem a0E (nb:Int→BS)(L:BS):poF nb 0 L=some []:=by rw[poF]
theorem a0F {nb:Int→BS}{L:BS}{l:List Nat}(h:poF nb (card L) L=some l):(L=0∧l=[])∨∃v r,(elems L).find? (fun v:Nat=>cE nb (nb (v:Int) &&& L))=some v∧L.getLsbD v=true∧v<1024∧poF nb (card (del L (v:Int))) (del L (v:Int))=some r∧l=v::r:=by
 cases hc:card L with
 | zero=>
  rw[hc,a0E] at h
  refine .inl ⟨?_,(Option.some.inj h).symm⟩
  refine bI fun i=>⟨fun hi=>?_,fun hi=>absurd hi (aN i)⟩
  have:=el hi
  omega
 | succ f=>
  rw[hc,a0D] at h
  obtain⟨v,r,h1,h2,h3⟩:=a0C h
  obtain⟨m1,m2⟩:=aK.1 (List.mem_of_find?_eq_some h1)
  have:=fy m2
  exact .inr ⟨v,r,h1,m2,m1,by rw[show card (del L (v:Int))=f by omega];exact h2,h3⟩
structure PoW (W:World)(v:Value)(b1 b4 b5:Nat)(L:BS)(out:List Nat)(ov:Value)(D:List Nat)(w:World):Prop where
 e:Ext W w
 t:Tab w
 p1:Blk w b1 #[v] 28
 p4:Blk w b4 (au L) 47
 p5:Blk w b5 #[ov] 39
 o:OwR aA 3 W.heap.size G0 w (nI out) ov
 d:Ds D w
section
variable {W w w':World}{v ov:Value}{b1 b4 b5 B:Nat}{L:BS}{out:List Nat}{D:List Nat}
theorem PoW.ext (h:PoW W v b1 b4 b5 L out ov D w)(e:Ext w w'):PoW W v b1 b4 b5 L out ov D w':=⟨Ext.tr h.e e,h.t.ext e,h.p1.ext e,h.p4.ext e,h.p5.ext e,h.o.ext e,h.d.ext e⟩
theorem PoW.kp (h:PoW W v b1 b4 b5 L out ov D w)(k:Kp B w w')(hW:W.heap.size≤B)(h0:0<B)(l1:b1<B)(l4:b4<B)(l5:b5<B)(lo:∀b,ov.ownBlock=some b→¬aT B b)(lD:∀d∈D,d<B):PoW W v b1 b4 b5 L out ov D w':=
 ⟨h.e.kp k hW,h.t.kp k h0,h.p1.kp k (fun hh=>by have:=hh.1;omega),h.p4.kp k (fun hh=>by have:=hh.1;omega),h.p5.kp k (fun hh=>by have:=hh.1;omega),h.o.chE k.chg lo,h.d.ch k.chg fun d hd hh=>by have:=hh.1;have:=lD d hd;omega⟩
end
theorem rT {fn:Func}{t u:Nat}{R:Ending→World→Prop}{n:Nat}{a:Act}{w:World}{v x:Value}{L:Env}{D:List Nat}(hr:fn.results = #[.tmp t,.tmp u])(hf:FrD n (bK D) a w L)(h:aI L t=some (E v))(h':aI L u=some (E x))
  (hD:Ds D w) (hR:R (.returned (.tuple #[v,x])) (shut D w)):bodyPostM (FW none) 0 Tryz.prog fn R .ret a w:=by
 have hv:a.eval (.tmp t)=v:=hf.val t _ h
 have hx:a.eval (.tmp u)=x:=hf.val u _ h'
 show LeavesInM _ _ _ _ _ _ _ _ _
 rw[hf.defers]
 refine fQ D w hD ?_ hR
 rw[← hv,← hx]
 simp[results,hr,Act.eval]
theorem a0G {p:Nat→Bool}{x x0:Nat}{s r:List Nat}(h:(s++x::r).find? p=some x0)(hs:∀y∈s,p y=false)(hx:p x=true):x=x0:=by
 rw[List.find?_append,List.find?_eq_none.2 (fun y hy=>by rw[hs y hy];decide),List.find?_cons,hx] at h
 exact Option.some.inj h
theorem rU {G:Nat→Prop}{N:Nat}(g:GT)(ok:Gr.Ok g)(v:Value)(l:List Nat)(W:World)(hT:Tab W)(h:(Dv (ptE (grE N)) G (some g)).p v W)(hl1:g.1.length≤100000)(hl2:g.2.length≤100000)(hN:N≤1000000)(hpo:poF (nbA g) (card (ai g.1)) (ai g.1)=some l)(hll:l.length≤100000) :
  Calls Tryz.prog 33 #[v] W (Post (Tup [Dv (slE aA) G0 (nI l),E (B true)]) W):=by
 have hv:(Dv (ptE (grE N)) G0 (some g)).p v W:=Dv.weak h fun b _ hb=>hb.elim
 clear h
 have hT0:=hT.lt
 have h1c:v.cells = #[v]:=by
  obtain⟨ad,rfl,_⟩:=Dv.pt.1 hv
  rfl
 refine dr (args:=[v]) (As:=[E v]) Tryz.func33 rfl Tryz.ntmps33 (Nat.le_of_ble_eq_true rfl) ?_ (fun a hf=>?_) (Nat.le_of_ble_eq_true rfl)
 ·exact bq rfl dG
 dsimp only[params,Nat.reduceAdd] at hf
 have e:=Ext.rfl' W
 refine seq ?_
 refine aj ?_
 refine aJ hf rfl (by decide) fun a b1 w v1 hv1 e' hb1 hs1 B1 hf=>?_
 have hle1:=Nat.le_trans e.size (Nat.le_of_eq hb1.symm)
 replace hT:=hT.ext e'
 replace e:=e.tr e'
 refine ae hf rfl (by decide) fun a hf=>?_
 refine ae hf rfl (by decide) fun a hf=>?_
 refine aa ?_
 cases hv1
 rw[h1c] at B1
 replace hf:=hf.kp [1]
 simp only[Exit.then]
 refine zV ?_
 obtain⟨V,hV⟩:∃V,V=ai g.1:=⟨_,rfl⟩
 have e0:=e
 refine seq ?_
 refine ac 2 hf (by decide +kernel) ?_
 refine st (ld1 (v:=v) T28 rfl B1 rfl) ?_
 refine st (aw (A:=E (ah V)) fa rfl (fun v w he k=>by cases k;rw[hV];exact fw g _ w (VA.st _ _ _ _ (Ext.tr e0 he) hv) ok.sv hl1 hN)) ?_
 refine en fun a w e' hf=>?_
 replace hT:=hT.ext e'
 replace e:=e.tr e'
 replace B1:=B1.ext e'
 clear e'
 clear e0
 refine aC I47 hf (by decide) fun a b4 w e' hb4 hs4 B4 hf=>?_
 have hle4:=Nat.le_trans e.size (Nat.le_of_eq hb4.symm)
 have lt4_B1:=B1.lt
 replace hT:=hT.ext e'
 replace e:=e.tr e'
 replace B1:=B1.ext e'
 clear e'
 have n4:b1≠b4∧W.heap.size≤b4:=by omega
 refine aF T47 hf rfl rfl (aU _) B4 rfl rfl fun w hg hsz B4 hf=>?_
 replace e:=e.gr hg (by omega);replace hT:=hT.gr hg (by omega);replace B1:=B1.gr hg (by omega)
 clear hg hsz
 refine aa ?_
 replace hf:=hf.kp [1,4]
 refine seq ?_
 refine aj ?_
 refine aC I39 hf (by decide) fun a b5 w e' hb5 hs5 B5 hf=>?_
 have hle5:=Nat.le_trans e.size (Nat.le_of_eq hb5.symm)
 have lt5_B1:=B1.lt
 have lt5_B4:=B4.lt
 replace hT:=hT.ext e'
 replace e:=e.tr e'
 replace B1:=B1.ext e'
 replace B4:=B4.ext e'
 refine aa ?_
 replace B5:Blk w b5 #[.slice none 0 0] 39:=B5
 replace hf:=hf.kp [1,4,5]
 have n5:b1≠b5∧b4≠b5∧W.heap.size≤b5∧W.heap.size≤b1:=by omega
 have hP:PoW W v b1 b4 b5 V [] (.slice none 0 0) [] w:=⟨e,hT,B1,B4,B5,OwR.nil aA _ e.size (fun b hb=>hb.elim),Ds.nil w⟩
 clear e hT B1 B4 B5
 rw[← hV] at hpo
 have hVm:∀i,V.getLsbD i=true→(ai g.1).getLsbD i=true:=fun i hi=>by rw[hV] at hi;exact hi
 have hcV:card V≤1024:=ek fun i hi=>aG hi
 clear hV
 refine seq ?_
 refine wpIn_label ?_
 simp only[Exit.then]
 refine seq ?_
 refine blk (aW (fun r0 a w=>∃(L:BS) (out rest:List Nat) (ov:Value) (D:List Nat),card L≤r0∧poF (nbA g) (card L) L=some rest∧out++rest=l∧FrD 27 (bK D) a w [(1,E (ptr b1)),(4,E (ptr b4)),(5,E (ptr b5))]∧PoW W v b1 b4 b5 L out ov D w∧∀d∈D,W.heap.size≤d) (card V) ⟨V,[],l,.slice none 0 0,[],Nat.le_refl _,hpo,rfl,hf,hP,fun d hd=>by cases hd⟩ ?_)
 clear hf hP hpo
 rintro r0 a w ⟨L,out,rest,ov,D,hr0,hpo,hor,hf,hP,hDW⟩
 have hol:out.length≤100000:=by rw[← hor,List.length_append] at hll;omega
 repeat refine seq ?_
 rcases a0F hpo with ⟨hL0,rfl⟩|⟨x0,rst,hfind,hx0,hx1,hpo2,rfl⟩
 ·have hb0:(L==0)=true:=by rw[hL0];exact beq_self_eq_true _
  refine ac 3 hf (by decide +kernel) ?_
  refine st ((ldW T47 rfl hP.p4 rfl).eq ((rfl:_=ah L))) ?_
  refine st (aw (A:=E (B true)) (B:=E (ah L)) fb rfl (fun v w he h=>by cases h;have:=fj L w;rwa [hb0] at this)) ?_
  refine st (bj rfl) ?_
  refine en fun a w e' hf=>?_
  replace hP:=hP.ext e'
  refine aa ?_
  refine ifc hf rfl (fun h=>by cases h) (fun _=>aR ?_)
  simp only[Exit.then,Exit.inBlock,↓reduceIte]
  rw[List.append_nil] at hor
  subst hor
  replace hf:=hf.kp [5]
  refine seq ?_
  refine ac 1 hf (by decide +kernel) ?_
  refine st (ld1 (v:=ov) T39 rfl hP.p5 rfl) ?_
  refine en fun a w e' hf=>?_
  replace hP:=hP.ext e'
  refine ae hf rfl (by decide) fun a hf=>?_
  refine ae hf rfl (by decide) fun a hf=>?_
  refine aa ?_
  refine an ?_
  simp only[Exit.noGoto]
  refine rT rfl hf rfl rfl hP.d ⟨_,rfl,hP.e.shut hDW,Tup.two ?_ rfl⟩
  exact (hP.o.chE (fR D w) fun b hb hh=>hP.o.neDs hP.d hh hb).sl
 ·have hLne:L≠0:=fun e=>by rw[e] at hx0;exact aN _ hx0
  have hb0:(L==0)=false:=beq_eq_false_iff_ne.2 hLne
  refine ac 3 hf (by decide +kernel) ?_
  refine st ((ldW T47 rfl hP.p4 rfl).eq ((rfl:_=ah L))) ?_
  refine st (aw (A:=E (B false)) (B:=E (ah L)) fb rfl (fun v w he h=>by cases h;have:=fj L w;rwa [hb0] at this)) ?_
  refine st (bj rfl) ?_
  refine en fun a w e' hf=>?_
  replace hP:=hP.ext e'
  refine aa ?_
  refine ifc hf rfl (fun _=>ar ?_) (fun h=>by cases h)
  simp only[Exit.then,Exit.inBlock,↓reduceIte]
  refine blk ?_
  replace hf:=hf.kp [1,4,5]
  obtain⟨Nz,hNz⟩:∃Nz,Nz=w.heap.size:=⟨_,rfl⟩
  repeat refine seq ?_
  refine ac 2 hf (by decide +kernel) ?_
  refine st ((ldW T47 rfl hP.p4 rfl).eq ((rfl:_=ah L))) ?_
  refine st (aw (A:=cC Nz L) cJ rfl (fun v w' he h=>by cases h;exact Calls.mono (cM _ w') (fun en w2 ⟨u,h1,h2,b',h3,h4,h5⟩=>⟨u,h1,h2,b',by have:=he.size;omega,h4,h5⟩))) ?_
  refine en fun a w e' hf=>?_
  replace hP:=hP.ext e'
  refine aa ?_
  obtain⟨vv,⟨b13,h13,rfl,BS⟩,hf⟩:=hf.fix 13 rfl
  replace hf:=hf.kp [1,4,5,13]
  have hBW:W.heap.size≤w.heap.size:=hP.e.size
  have h0w:0<w.heap.size:=hP.t.lt
  have l1:=hP.p1.lt
  have l4:=hP.p4.lt
  have l5:=hP.p5.lt
  have lo:∀b,ov.ownBlock=some b→b<w.heap.size:=fun b hb=>(hP.o.lt hb).2
  have loh:∀b,ov.ownBlock=some b→¬aT w.heap.size b:=fun b hb hh=>by have:=lo b hb;have:=hh.1;omega
  have lD:∀d∈D,d<w.heap.size:=fun d hd=>hP.d.lt hd
  obtain⟨tst,htst⟩:∃tst:Nat→Bool,tst=fun v:Nat=>cE (nbA g) (nbA g (v:Int) &&& L):=⟨_,rfl⟩
  rw[← htst] at hfind
  have htx:∀x:Nat,tst x=cE (nbA g) (nbA g (x:Int) &&& L):=fun x=>by rw[htst]
  clear htst
  refine blk ?_
  refine cS (S:=L) hf rfl BS (by decide) (fun s w1=>PoW W v b1 b4 b5 L out ov D w1∧∀y∈s,tst y=false) (fun ex w1=>ex=.exit 1∧∃ov',PoW W v b1 b4 b5 (del L (x0:Int)) (out++[x0]) ov' D w1∧∀b,ov'.ownBlock=some b→¬aT w.heap.size b) (fun s w1 h=>h.1.t)
   ⟨hP,fun y hy=>by cases hy⟩ (fun s w1 w2 h hs k=>⟨h.1.kp k hBW h0w l1 l4 l5 loh lD,h.2⟩) (fun ex w1 w2 ⟨he,ov',h,ho⟩ hs k=>⟨he,ov',h.kp k hBW h0w l1 l4 l5 ho lD,ho⟩) ?_ ?_ ?_
  ·intro lb s x rest' a1 w1 hs hJ hlw hf
   have hx1024:x<1024:=(aK.1 (by rw[hs];simp)).1
   rw[hs] at hfind
   generalize hBz:w.heap.size=Bz at *
   refine aj ?_
   refine ae hf rfl (by decide) fun a hf=>?_
   refine aa ?_
   simp only[Exit.then]
   refine⟨Kh.rfl' _ _,fun w3 k3 hsz3=>?_⟩
   obtain⟨hJ1,hJ2⟩:=hJ
   have hJ3:=hJ1.kp k3 hBW h0w l1 l4 l5 loh lD
   have hw3:Bz+3≤w3.heap.size:=by omega
   clear hP BS hJ1
   replace hf:=hf.pure w3
   have hP:=hJ3
   clear hJ3
   have kh:=Kh.rfl' Bz w3
   replace hf:=hf.kp [1,4,5,6]
   refine blk ?_
   have e0:=hP.e
   refine seq ?_
   refine ac 4 hf (by decide +kernel) ?_
   refine st (ld1 (v:=v) T28 rfl hP.p1 rfl) ?_
   refine st (mv rfl) ?_
   refine st ((ldW T47 rfl hP.p4 rfl).eq ((rfl:_=ah L))) ?_
   refine st (fI (A:=E (B (tst x))) (B:=E v) (C:=E (I (x:Nat))) (D:=E (ah L)) tT rfl rfl rfl (fun v1 v2 v3 w he k1 k2 k3=>by cases k1;cases k2;cases k3;rw[htx];exact zY g ok v x L w (hP.t.ext he) (VA.st _ _ _ _ (Ext.tr e0 he) hv) hl2 hN)) ?_
   refine en fun a w e' hf=>?_
   replace hP:=hP.ext e'
   replace kh:=kh.tr (Kh.ext e')
   replace hw3:=Nat.le_trans hw3 e'.size
   refine aa ?_
   refine ifc hf rfl (fun hb=>?_) (fun hb=>?_)
   ·replace hb:tst x=true:=hb
    have hxx:=a0G hfind hJ2 hb
    subst hxx
    replace hf:=hf.kp [4,5,6]
    have hn4:=hP.o.neB hP.p4 (by decide)
    have hn5:=hP.o.neB hP.p5 (by decide)
    have hn1:=hP.o.neB hP.p1 (by decide)
    have hsz6:=hP.e.size
    refine seq ?_
    refine oX 7 [0,0,0] [4,5] (Chg (fun b=>ov.ownBlock=some b)) (ct.chg _) (fun w=>True) (fun w w1 k h=>trivial) Mix.mix hf (by decide +kernel) (by decide +kernel) ?_
    refine ja (ld1 (v:=ov) T39 rfl hP.p5 rfl) ?_
    refine ja (mv rfl) ?_
    refine ja (bL (e:=aA) (G:=G0) U39 I3 rfl (by decide) rfl (fun b hb=>hb.elim) (isI rfl)) ?_
    refine jx (rS (G':=G0) U39 I3 rfl rfl rfl hP.o (isR rfl) (by simp only[nI,List.length_map,List.length_singleton];omega) (by simp only[nI,List.length_map,List.length_singleton,maxLen];omega)) ?_
    refine jq (fun w1 h1=>(ldW T47 rfl (hP.p4.ch h1 hn4) rfl).eq ((rfl:_=ah L))) ?_
    refine jq (fun w1 h1=>mv rfl) ?_
    refine jp (fun w1 h1 HF1=>aD (A:=E (ah (del L (x:Int)))) gl rfl rfl (fun v u w he k1 k2=>by cases k1;cases k2;exact gq L _ w)) ?_
    refine je ?_
    refine fun a w hc HF hf=>?_
    try dsimp only[push] at hf
    obtain⟨ov2,⟨Ho,hle⟩,hf⟩:=hf.opn 22 rfl
    have hoW:∀b,ov.ownBlock=some b→W.heap.size≤b:=fun b hb=>(hP.o.lt hb).1
    have e1:=hP.e.ch hc hoW
    have t1:=hP.t.ch hc fun hh=>by have:=hoW _ hh;omega
    have p1:=hP.p1.ch hc hn1
    have p4:=hP.p4.ch hc hn4
    have p5:=hP.p5.ch hc hn5
    have d1:=hP.d.ch hc fun d hd hh=>hP.o.neDs hP.d hd hh
    have kh1:=kh.tr (Kh.chg hc fun b hb=>loh b hb)
    clear kh
    replace hf:=hf.kp [4,5,22,25]
    refine aO T39 hf rfl rfl Ho.one p5 Nat.zero_lt_one fun w hg hsz p5 hf=>?_
    have hnn4:=Ho.neB p4 (by decide)
    have hnn5:ov2.ownBlock≠some b5:=Ho.neB (show Blk _ b5 _ _ from hP.p5.ch hc hn5) (by decide)
    replace e1:=e1.gr hg (by omega);replace t1:=t1.gr hg (by omega);replace p1:=p1.gr hg (by omega);replace p4:=p4.gr hg (by omega)
    replace d1:=d1.gr hg (fun hh=>(hP.d.ne hP.p5) hh)
    have Ho1:=Ho.grE hg hnn5
    replace kh1:=kh1.tr (Kh.gr hg (fun hh=>by have:=hh.1;omega))
    clear hg hsz
    refine aF T47 hf rfl rfl (aU _) p4 rfl (bh _) fun w hg hsz p4 hf=>?_
    replace e1:=e1.gr hg (by omega);replace t1:=t1.gr hg (by omega);replace p1:=p1.gr hg (by omega);replace p5:=p5.gr hg (by omega)
    replace d1:=d1.gr hg (fun hh=>(hP.d.ne hP.p4) hh)
    have Ho2:=Ho1.grE hg hnn4
    replace kh1:=kh1.tr (Kh.gr hg (fun hh=>by have:=hh.1;omega))
    clear hg hsz
    refine aa ?_
    refine aR ?_
    simp only[Exit.inBlock]
    refine⟨⟨rfl,ov2,⟨e1,t1,p1,p4,p5,?_,d1⟩,fun b hb hh=>(hle b hb).elim (fun h=>loh b h hh) fun h=>by have:=hh.2;omega⟩,kh1⟩
    rw[nI,List.map_append]
    exact Ho2
   ·replace hb:tst x=false:=hb
    refine ar ?_
    simp only[Exit.then,Exit.inBlock,↓reduceIte]
    exact⟨⟨hP,fun y hy=>(List.mem_append.1 hy).elim (hJ2 y) fun h=>by rw[List.mem_singleton.1 h];exact hb⟩,kh⟩
  ·intro a' w' hf' hJ hsz hDn
   exfalso
   have h1:=List.mem_of_find?_eq_some hfind
   have h2:=List.find?_some hfind
   rw[hJ.2 _ h1] at h2
   cases h2
  ·intro ex c a' w' hc hf' hX hsz hDn
   obtain⟨rfl,ov',hP',ho'⟩:=hX
   simp only[Exit.inBlock,↓reduceIte,Exit.then]
   have hD:Ds (w.heap.size::D) w':=hP'.d.cons hDn fun h=>by have:=lD _ h;omega
   have hf:FrD 27 (bK (w.heap.size::D)) a' w' [(1,E (ptr b1)),(4,E (ptr b4)),(5,E (ptr b5))]:=hf'.keep [1,4,5]
   have hcd:=fy hx0
   rw[if_neg (show ¬(1:Nat)=2 by decide)]
   refine⟨r0 - 1,by have:=el hx0;omega,del L (x0:Int),out++[x0],rst,ov',w.heap.size::D,by omega,hpo2,by rw[List.append_assoc];exact hor,hf,⟨hP'.e,hP'.t,hP'.p1,hP'.p4,hP'.p5,hP'.o,hD⟩,fun d hd=>(List.mem_cons.1 hd).elim (fun h=>by omega) (hDW d)⟩
end Go.Mono
namespace Go.MonoD
open Go Go.Proofs Go.RowKit Go.Mono
def Uw (n:Int):Value:=.int .u64 n
def hiW (S:BS)(i:Nat):Nat:=S.toNat / 2 ^ (64 * i)
theorem rV (S:BS):hiW S 16=0:=by
 rw[hiW,show 64 * 16=1024 from rfl]
 exact Nat.div_eq_of_lt S.isLt
theorem rW (S:BS):hiW S 0=S.toNat:=by rw[hiW,Nat.mul_zero,Nat.pow_zero,Nat.div_one]
theorem ka (S:BS)(i:Nat):(ak S i).toNat=hiW S i % 2 ^ 64:=by
 rw[ak,BitVec.extractLsb'_toNat,Nat.shiftRight_eq_div_pow,hiW]
theorem kb (S:BS)(i:Nat):hiW S (i+1)=hiW S i / 2 ^ 64:=by
 rw[hiW,hiW,Nat.div_div_eq_div_mul,← Nat.pow_add,Nat.mul_succ]
theorem rX {S T:BS}{i:Nat}(h:hiW S (i+1)=hiW T (i+1))(hw:(ak S i).toNat<(ak T i).toNat):S.toNat<T.toNat:=by
 rw[ka,ka] at hw
 rw[kb,kb] at h
 have h1:hiW S i<hiW T i:=by omega
 refine Classical.byContradiction fun hn=>?_
 have:hiW T i≤hiW S i:=Nat.div_le_div_right (Nat.le_of_not_lt hn)
 omega
theorem a0H {S T:BS}{i:Nat}(h:hiW S (i+1)=hiW T (i+1))(hw:(ak S i).toNat=(ak T i).toNat):hiW S i=hiW T i:=by
 rw[ka,ka] at hw
 rw[kb,kb] at h
 omega
theorem a0I (x:Int)(W:World):Calls Tryz.prog 123 #[Uw x] W (Post (E (.bool false)) W):=by
 refine enter (args:=[Uw x]) (As:=[E (Uw x)]) Tryz.func123 rfl Tryz.ntmps123 (Nat.le_of_ble_eq_true rfl) ?_ (fun a hf=>?_) (Nat.le_of_ble_eq_true rfl)
 rotate_left
 dsimp only[params,Nat.reduceAdd] at hf
 rotate_right
 ·exact arg1 rfl
 have e:=Ext.rfl' W
 refine seq ?_
 refine aj ?_
 refine ae hf rfl (by decide) fun a hf=>?_
 refine aa ?_
 refine seq ?_
 refine ac 3 hf (by decide +kernel) ?_
 refine st (mv rfl) ?_
 refine st (mv rfl) ?_
 refine st ((neq rfl rfl).eq (congrArg Value.bool ((show (x != x)=false by simp)))) ?_
 refine en fun a w e' hf=>?_
 replace e:=e.tr e'
 refine ae hf rfl (by decide) fun a hf=>?_
 refine aa ?_
 refine an ?_
 refine az rfl hf rfl ?_
 rintro _ rfl
 exact⟨_,rfl,e,rfl⟩
theorem rY (x:Int)(v:Value)(w:World)(h:(E (Uw x)).p v w):Calls Tryz.prog 123 #[v] w (Post (E (.bool false)) w):=by cases h;exact a0I x w
theorem a0J (x y:Int)(W:World):Calls Tryz.prog 86 #[Uw x,Uw y] W (Post (E (I (cmpI x y))) W):=by
 refine enter (args:=[Uw x,Uw y]) (As:=[E (Uw x),E (Uw y)]) Tryz.func86 rfl Tryz.ntmps86 (Nat.le_of_ble_eq_true rfl) ?_ (fun a hf=>?_) (Nat.le_of_ble_eq_true rfl)
 rotate_left
 dsimp only[params,Nat.reduceAdd] at hf
 rotate_right
 ·exact arg2 rfl rfl
 have e:=Ext.rfl' W
 refine seq ?_
 refine aj ?_
 refine ae hf rfl (by decide) fun a hf=>?_
 refine aa ?_
 refine seq ?_
 refine ac 2 hf (by decide +kernel) ?_
 refine st (mv rfl) ?_
 refine st (aw Mono.En123 rfl (fun v w he h=>rY x v w h)) ?_
 refine en fun a w e' hf=>?_
 replace e:=e.tr e'
 refine ae hf rfl (by decide) fun a hf=>?_
 refine aa ?_
 refine seq ?_
 refine ac 2 hf (by decide +kernel) ?_
 refine st (mv rfl) ?_
 refine st (aw Mono.En123 rfl (fun v w he h=>rY y v w h)) ?_
 refine en fun a w e' hf=>?_
 replace e:=e.tr e'
 refine ae hf rfl (by decide) fun a hf=>?_
 refine aa ?_
 repeat refine seq ?_
 refine ac 1 hf (by decide +kernel) ?_
 refine st (mv rfl) ?_
 refine en fun a w e' hf=>?_
 replace e:=e.tr e'
 refine aa ?_
 refine ifc hf rfl (fun h=>by cases h) (fun _=>?_)
 refine ar ?_
 simp only[Exit.then,Exit.inBlock,↓reduceIte]
 repeat refine seq ?_
 refine ac 1 hf (by decide +kernel) ?_
 refine st (mv rfl) ?_
 refine en fun a w e' hf=>?_
 replace e:=e.tr e'
 refine aa ?_
 refine ifc hf rfl (fun h=>by cases h) (fun _=>?_)
 refine ar ?_
 simp only[Exit.then,Exit.inBlock,↓reduceIte]
 repeat refine seq ?_
 refine ac 3 hf (by decide +kernel) ?_
 refine st (mv rfl) ?_
 refine st (mv rfl) ?_
 refine st (lss rfl rfl) ?_
 refine en fun a w e' hf=>?_
 replace e:=e.tr e'
 refine aa ?_
 refine ifc hf rfl (fun hb=>?_) (fun hb=>?_)
 ·refine seq ?_
  refine aj ?_
  refine ae hf rfl (by decide) fun a hf=>?_
  refine aa ?_
  refine an ?_
  simp only[Exit.then,Exit.inBlock]
  refine az rfl hf rfl ?_
  rintro _ rfl
  exact⟨_,rfl,e,congrArg I (by rw[cmpI,if_pos (of_decide_eq_true hb)])⟩
 ·refine ar ?_
  simp only[Exit.then,Exit.inBlock,↓reduceIte]
  repeat refine seq ?_
  refine ac 3 hf (by decide +kernel) ?_
  refine st (mv rfl) ?_
  refine st (mv rfl) ?_
  refine st (gtr rfl rfl) ?_
  refine en fun a w e' hf=>?_
  replace e:=e.tr e'
  refine aa ?_
  have hb1:=of_decide_eq_false hb
  refine ifc hf rfl (fun hb=>?_) (fun hb=>?_)
  ·refine seq ?_
   refine aj ?_
   refine ae hf rfl (by decide) fun a hf=>?_
   refine aa ?_
   refine an ?_
   simp only[Exit.then,Exit.inBlock]
   refine az rfl hf rfl ?_
   rintro _ rfl
   exact⟨_,rfl,e,congrArg I (by rw[cmpI,if_neg hb1,if_pos (of_decide_eq_true hb)])⟩
  ·refine ar ?_
   simp only[Exit.then,Exit.inBlock,↓reduceIte]
   refine seq ?_
   refine aj ?_
   refine ae hf rfl (by decide) fun a hf=>?_
   refine aa ?_
   refine an ?_
   refine az rfl hf rfl ?_
   rintro _ rfl
   exact⟨_,rfl,e,congrArg I (by rw[cmpI,if_neg hb1,if_neg (of_decide_eq_false hb)])⟩
theorem a0K (x y:Int)(v u:Value)(w:World)(h:(E (Uw x)).p v w)(h':(E (Uw y)).p u w):Calls Tryz.prog 86 #[v,u] w (Post (E (I (cmpI x y))) w):=by cases h;cases h';exact a0J x y w
theorem rZ {b i:Nat}:Value.pointer (some ⟨b,0+((i:Nat):Int).toNat * 1,none⟩)=Value.pointer (some ⟨b,i,none⟩):=by rw[Int.toNat_natCast,Nat.zero_add,Nat.mul_one]
theorem cmpS_spec (S T:BS)(W:World):Calls Tryz.prog 39 #[ah S,ah T] W (Post (E (I (cmpI (S.toNat:Int) (T.toNat:Int)))) W):=by
 refine enter (args:=[ah S,ah T]) (As:=[E (ah S),E (ah T)]) Tryz.func39 rfl Tryz.ntmps39 (Nat.le_of_ble_eq_true rfl) ?_ (fun a hf=>?_) (Nat.le_of_ble_eq_true rfl)
 rotate_left
 dsimp only[params,Nat.reduceAdd] at hf
 rotate_right
 ·exact arg2 rfl rfl
 have e:=Ext.rfl' W
 refine seq ?_
 refine aj ?_
 refine aJ hf rfl (by decide) fun a b2 w v2 hv2 e' hb2 hs2 B2 hf=>?_
 have hle2:=Nat.le_trans e.size (Nat.le_of_eq hb2.symm)
 replace e:=e.tr e'
 clear e'
 refine aJ hf rfl (by decide) fun a b3 w v3 hv3 e' hb3 hs3 B3 hf=>?_
 have hle3:=Nat.le_trans e.size (Nat.le_of_eq hb3.symm)
 have lt3_B2:=B2.lt
 replace e:=e.tr e'
 replace B2:=B2.ext e'.toBelow
 refine ae hf rfl (by decide) fun a hf=>?_
 refine aa ?_
 cases hv2;cases hv3
 replace B2:Blk w b2 (au S) 47:=B2
 replace B3:Blk w b3 (au T) 47:=B3
 replace hf:=hf.kp [2,3,4]
 repeat refine seq ?_
 refine aj ?_
 refine ae hf rfl (by decide) fun a hf=>?_
 refine aa ?_
 replace hf:=hf.kp [2,3,5]
 replace hf:=FrD.cons (k:=5) (A:=E (I (((16:Nat):Int) - 1))) (hf.val 5 _ rfl) hf
 replace hf:=hf.kp [2,3,5]
 refine blk (aW (fun r0 a w=>∃i:Nat,i≤r0∧i≤16∧hiW S i=hiW T i∧Fr 21 a w [(2,E (.pointer (some ⟨b2,0,none⟩))),(3,E (.pointer (some ⟨b3,0,none⟩))),(5,E (I ((i:Int) - 1)))]∧Ext W w∧Blk w b2 (au S) 47∧Blk w b3 (au T) 47) 16 ⟨16,Nat.le_refl _,Nat.le_refl _,(rV S).trans (rV T).symm,hf,e,B2,B3⟩ ?_)
 clear hf e B2 B3
 rintro r0 a w ⟨i,hr0,hi16,heq,hf,e,B2,B3⟩
 repeat refine seq ?_
 by_cases hi:i=0
 ·subst hi
  refine ac 2 hf (by decide +kernel) ?_
  refine st (mv rfl) ?_
  refine st ((geq rfl rfl).eq (congrArg Value.bool ((decide_eq_false (by omega):_=false)))) ?_
  refine en fun a w e' hf=>?_
  replace e:=e.tr e'
  replace B2:=B2.ext e'.toBelow
  replace B3:=B3.ext e'.toBelow
  refine aa ?_
  refine ifc hf rfl (fun h=>by cases h) (fun _=>aR ?_)
  simp only[Exit.then,Exit.inBlock,↓reduceIte]
  rw[rW,rW] at heq
  refine seq ?_
  refine aj ?_
  refine ae hf rfl (by decide) fun a hf=>?_
  refine aa ?_
  refine an ?_
  refine az rfl hf rfl ?_
  rintro _ rfl
  exact⟨_,rfl,e,congrArg I (by rw[heq,cmpI,if_neg (Int.lt_irrefl _),if_neg (Int.lt_irrefl _)])⟩
 ·obtain⟨j,rfl⟩:∃j,i=j+1:=⟨i - 1,by omega⟩
  refine ac 2 hf (by decide +kernel) ?_
  refine st (mv rfl) ?_
  refine st ((geq rfl rfl).eq (congrArg Value.bool ((decide_eq_true (by omega):_=true)))) ?_
  refine en fun a w e' hf=>?_
  replace e:=e.tr e'
  replace B2:=B2.ext e'.toBelow
  replace B3:=B3.ext e'.toBelow
  refine aa ?_
  refine ifc hf rfl (fun _=>ar ?_) (fun h=>by cases h)
  simp only[Exit.then,Exit.inBlock,↓reduceIte]
  refine seq ?_
  refine blk ?_
  have c1:(au S)[j]?=some (Uw ((ak S j).toNat:Int)):=bX _ j (by omega)
  have c2:(au T)[j]?=some (Uw ((ak T j).toNat:Int)):=bX _ j (by omega)
  replace hf:=FrD.cons (k:=5) (A:=E (I ((j:Nat):Int))) (by rw[show ((j:Nat):Int)=((j+1:Nat):Int) - 1 by omega];exact hf.val 5 _ rfl) hf
  replace hf:=hf.kp [2,3,5]
  refine seq ?_
  refine reg 7 Mix.mix hf (by decide +kernel) ?_
  refine st (mv rfl) ?_
  refine st ((co Tryz.underlying47 ⟨_,Mono.T45⟩ rfl rfl (by omega)).eq (rZ)) ?_
  refine st (ld1 Mono.T45 rfl B2 c1) ?_
  refine st (mv rfl) ?_
  refine st ((co Tryz.underlying47 ⟨_,Mono.T45⟩ rfl rfl (by omega)).eq (rZ)) ?_
  refine st (ld1 Mono.T45 rfl B3 c2) ?_
  refine st (aD Mono.En86 rfl rfl (fun v u w he h h'=>a0K _ _ v u w h h')) ?_
  refine en fun a w e' hf=>?_
  replace e:=e.tr e'
  replace B2:=B2.ext e'.toBelow
  replace B3:=B3.ext e'.toBelow
  refine ae hf rfl (by decide) fun a hf=>?_
  refine aa ?_
  replace hf:=hf.kp [2,3,5,6]
  refine seq ?_
  refine ac 2 hf (by decide +kernel) ?_
  refine st (mv rfl) ?_
  refine st (neq rfl rfl) ?_
  refine en fun a w e' hf=>?_
  replace e:=e.tr e'
  replace B2:=B2.ext e'.toBelow
  replace B3:=B3.ext e'.toBelow
  refine aa ?_
  refine ifc hf rfl (fun hb=>?_) (fun hb=>?_)
  ·have hb':cmpI ((ak S j).toNat:Int) ((ak T j).toNat:Int)≠0:=by simpa using hb
   have hfin:cmpI ((ak S j).toNat:Int) ((ak T j).toNat:Int)=cmpI (S.toNat:Int) (T.toNat:Int):=by
    unfold cmpI at hb' ⊢
    by_cases h1:((ak S j).toNat:Int)<((ak T j).toNat:Int)
    ·have h2:=rX heq (by omega)
     rw[if_pos h1,if_pos (by omega)]
    ·rw[if_neg h1] at hb' ⊢
     by_cases h2:((ak T j).toNat:Int)<((ak S j).toNat:Int)
     ·have h3:=rX heq.symm (by omega)
      rw[if_pos h2,if_neg (by omega),if_pos (by omega)]
     ·rw[if_neg h2] at hb'
      exact absurd rfl hb'
   refine seq ?_
   refine ac 1 hf (by decide +kernel) ?_
   refine st (mv rfl) ?_
   refine en fun a w e' hf=>?_
   replace e:=e.tr e'
   replace B2:=B2.ext e'.toBelow
   replace B3:=B3.ext e'.toBelow
   refine ae hf rfl (by decide) fun a hf=>?_
   refine aa ?_
   refine an ?_
   simp only[Exit.then,Exit.inBlock]
   refine az rfl hf rfl ?_
   rintro _ rfl
   exact⟨_,rfl,e,congrArg I hfin⟩
  ·have hb':cmpI ((ak S j).toNat:Int) ((ak T j).toNat:Int)=0:=by simpa using hb
   refine ar ?_
   simp only[Exit.then,Exit.inBlock,↓reduceIte]
   have hww:(ak S j).toNat=(ak T j).toNat:=by
    unfold cmpI at hb'
    by_cases h1:((ak S j).toNat:Int)<((ak T j).toNat:Int)
    ·rw[if_pos h1] at hb';cases hb'
    ·rw[if_neg h1] at hb'
     by_cases h2:((ak T j).toNat:Int)<((ak S j).toNat:Int)
     ·rw[if_pos h2] at hb';cases hb'
     ·omega
   replace hf:=hf.kp [2,3,5]
   refine ac 2 hf (by decide +kernel) ?_
   refine st (mv rfl) ?_
   refine st (sub rfl rfl (by omega)) ?_
   refine en fun a w e' hf=>?_
   replace e:=e.tr e'
   replace B2:=B2.ext e'.toBelow
   replace B3:=B3.ext e'.toBelow
   refine ae hf rfl (by decide) fun a hf=>?_
   refine aa ?_
   replace hf:=hf.kp [2,3,5]
   exact⟨r0 - 1,by omega,j,by omega,by omega,a0H heq hww,hf,e,B2,B3⟩
end Go.MonoD
namespace Go.Proofs
open Go.Shelf
def Tryz.sortS_ren:Go.Shelf.Ren:=⟨fun|6=>38|15=>54|14=>85|28=>108|29=>109|20=>115|21=>116|22=>117|23=>118|24=>119|25=>120|26=>121|27=>122|46=>137|47=>132|48=>133|49=>138|50=>139|57=>151|n=>n,fun|22=>42|24=>47|25=>91|3=>3|39=>105|0=>0|53=>151|55=>45|4=>4|46=>145|45=>144|50=>88|5=>5|9=>9|66=>175|70=>179|76=>186|77=>119|n=>n,fun|n=>n⟩
theorem Tryz.sortS:Go.Proofs.SlLaysF0.n6 Tryz.prog Tryz.sortS_ren:={
 mixed:=by kernel_rfl
 f6:=⟨Tryz.f38.name,by decide,Tryz.func38.trans (congrArg some (by kernel_rfl))⟩
 f14:=⟨Tryz.f85.name,by decide,Tryz.func85.trans (congrArg some (by kernel_rfl))⟩
 f15:=Tryz.func54.trans (congrArg some (by kernel_rfl))
 f20:=⟨Tryz.f115.name,by decide,Tryz.func115.trans (congrArg some (by kernel_rfl))⟩
 f21:=⟨Tryz.f116.name,by decide,Tryz.func116.trans (congrArg some (by kernel_rfl))⟩
 f22:=⟨Tryz.f117.name,by decide,Tryz.func117.trans (congrArg some (by kernel_rfl))⟩
 f23:=⟨Tryz.f118.name,by decide,Tryz.func118.trans (congrArg some (by kernel_rfl))⟩
 f24:=⟨Tryz.f119.name,by decide,Tryz.func119.trans (congrArg some (by kernel_rfl))⟩
 f25:=⟨Tryz.f120.name,by decide,Tryz.func120.trans (congrArg some (by kernel_rfl))⟩
 f26:=⟨Tryz.f121.name,by decide,Tryz.func121.trans (congrArg some (by kernel_rfl))⟩
 f27:=⟨Tryz.f122.name,by decide,Tryz.func122.trans (congrArg some (by kernel_rfl))⟩
 f28:=Tryz.func108.trans (congrArg some (by kernel_rfl))
 f29:=Tryz.func109.trans (congrArg some (by kernel_rfl))
 f46:=⟨Tryz.f137.name,by decide,Tryz.func137.trans (congrArg some (by kernel_rfl))⟩
 f47:=Tryz.func132.trans (congrArg some (by kernel_rfl))
 f48:=Tryz.func133.trans (congrArg some (by kernel_rfl))
 f49:=⟨Tryz.f138.name,by decide,Tryz.func138.trans (congrArg some (by kernel_rfl))⟩
 f50:=⟨Tryz.f139.name,by decide,Tryz.func139.trans (congrArg some (by kernel_rfl))⟩
 f57:=⟨Tryz.f151.name,by decide,Tryz.func151.trans (congrArg some (by kernel_rfl))⟩
 t0:=Tryz.underlying0
 a0:=Tryz.isAgg0
 z0:=Tryz.sizeOf0
 v0:=Tryz.zeroValue0
 t3:=Tryz.underlying3
 a3:=Tryz.isAgg3
 z3:=Tryz.sizeOf3
 v3:=Tryz.zeroValue3
 t4:=Tryz.underlying4
 a4:=Tryz.isAgg4
 z4:=Tryz.sizeOf4
 v4:=Tryz.zeroValue4
 t5:=Tryz.underlying5
 a5:=Tryz.isAgg5
 z5:=Tryz.sizeOf5
 v5:=Tryz.zeroValue5
 t9:=Tryz.underlying9
 a9:=Tryz.isAgg9
 z9:=Tryz.sizeOf9
 v9:=Tryz.zeroValue9
 t22:=Tryz.underlying42
 a22:=Tryz.isAgg42
 z22:=Tryz.sizeOf42
 v22:=Tryz.zeroValue42
 t25:=Tryz.underlying91
 a25:=Tryz.isAgg91
 z25:=Tryz.sizeOf91
 v25:=Tryz.zeroValue91
 t39:=Tryz.underlying105
 a39:=Tryz.isAgg105
 z39:=Tryz.sizeOf105
 v39:=Tryz.zeroValue105
 t45:=Tryz.underlying144
 a45:=Tryz.isAgg144
 z45:=Tryz.sizeOf144
 v45:=Tryz.zeroValue144
 t46:=Tryz.underlying145
 a46:=Tryz.isAgg145
 z46:=Tryz.sizeOf145
 v46:=Tryz.zeroValue145
 t50:=Tryz.underlying88
 a50:=Tryz.isAgg88
 z50:=Tryz.sizeOf88
 v50:=Tryz.zeroValue88
 t53:=Tryz.underlying151
 a53:=Tryz.isAgg151
 z53:=Tryz.sizeOf151
 v53:=Tryz.zeroValue151
 t55:=Tryz.underlying45
 a55:=Tryz.isAgg45
 z55:=Tryz.sizeOf45
 v55:=Tryz.zeroValue45
 t66:=Tryz.underlying175
 a66:=Tryz.isAgg175
 z66:=Tryz.sizeOf175
 v66:=Tryz.zeroValue175
 t70:=Tryz.underlying179
 a70:=Tryz.isAgg179
 z70:=Tryz.sizeOf179
 v70:=Tryz.zeroValue179
 t76:=Tryz.underlying186
 a76:=Tryz.isAgg186
 z76:=Tryz.sizeOf186
 v76:=Tryz.zeroValue186
 t77:=Tryz.underlying119
 a77:=Tryz.isAgg119
 z77:=Tryz.sizeOf119
 v77:=Tryz.zeroValue119 }
end Go.Proofs
namespace Go.Mono
open Go Go.Proofs Go.RowKit Go.Gr Go.Sort
theorem a0L (x y:Int):decide (MonoD.cmpI x y<0)=decide (x<y):=by
 unfold MonoD.cmpI
 by_cases h1:x<y
 ·simp[h1]
 ·by_cases h2:y<x <;> simp[h1,h2]
theorem kc (S T:BS):ltOf (fun S T:BS=>MonoD.cmpI (S.toNat:Int) (T.toNat:Int)) S T=decide ((S.toNat:Int)<(T.toNat:Int)):=a0L _ _
theorem a0M:SWO (ltOf fun S T:BS=>MonoD.cmpI (S.toNat:Int) (T.toNat:Int)) where
 irrefl x:=by rw[kc];exact decide_eq_false (Int.lt_irrefl _)
 trans x y z h1 h2:=by rw[kc] at *;exact decide_eq_true (Int.lt_trans (of_decide_eq_true h1) (of_decide_eq_true h2))
 ntrans x y z h1 h2:=by
  rw[kc] at *
  have h1:=of_decide_eq_false h1
  have h2:=of_decide_eq_false h2
  exact decide_eq_false (by omega)
instance:Inhabited BS:=⟨0⟩
theorem sc {B:Nat}{G:Nat→Prop}{w:World}{xs:List BS}{v:Value}(Ho:OwR aX 47 B G w xs v)(hl:xs.length≤100000) :
  Calls Tryz.prog 38 #[v,.func (.func 39) #[] #[]] w fun en w'=>en=.returned (.tuple #[])∧∃xs',xs'.Perm xs∧xs'.Pairwise (fun S T=>¬T.toNat<S.toNat)∧OwR aX 47 B G w' xs' v∧Chg (fun b=>v.ownBlock=some b) w w':=
 (jG (e:=aX) Tryz.sortS (fun w=>T47.agg w) (fun w=>T47.size w) (fun S=>(au S).toList) (fun _ _ _ _=>Iff.rfl) (fun S=>by rw[Array.length_toList,bh];rfl) (fun S u hu=>aX.one (G:=Go.Mono.G0) (w:=w) (x:=S) rfl u hu) _ a0M 39 tu
  (fun x y W=>(MonoD.cmpS_spec x y W).mono fun en w' ⟨u,h1,h2,h3⟩=>by cases h3;exact⟨h1,h2.grown⟩) Ho hl).mono fun en w' ⟨h1,xs',h2,h3,h4,h5⟩=>⟨h1,xs',h2,h3.imp fun {a b} h=>by rw[kc] at h;have:=of_decide_eq_false h;omega,h4,h5⟩
def inF (l:List Nat):BS:=l.foldl (fun (S:BS) (x:Nat)=>ins S (x:Int)) 0
def dlF (V:BS)(l:List Nat):BS:=l.foldl (fun (S:BS) (x:Nat)=>del S (x:Int)) V
theorem sd:∀(l:List Nat) (V:BS) (i:Nat),(∀x∈l,x<1024)→((dlF V l).getLsbD i=true↔V.getLsbD i=true∧i ∉ l)
 | [],V,i,_=>by simp[dlF]
 | x::l,V,i,h=>by
  have:=sd l (del V (x:Int)) i fun y hy=>h y (List.mem_cons_of_mem _ hy)
  rw[dlF] at this ⊢
  rw[List.foldl_cons,this,bT V (h x (List.mem_cons_self ..)),List.mem_cons,not_or,and_assoc]
theorem sf:∀(l:List Nat) (S:BS) (i:Nat),(∀x∈l,x<1024)→((l.foldl (fun (S:BS) (x:Nat)=>ins S (x:Int)) S).getLsbD i=true↔S.getLsbD i=true∨i∈l)
 | [],S,i,_=>by simp
 | x::l,S,i,h=>by
  rw[List.foldl_cons,sf l _ i fun y hy=>h y (List.mem_cons_of_mem _ hy),aL S (h x (List.mem_cons_self ..)),List.mem_cons,or_assoc]
theorem sh (nb:Int→BS)(v:Nat):∀(l:List Nat) (S:BS),alF nb S (l++[v])=alF nb S l++[ins (ltr nb (l.foldl (fun (S:BS) (x:Nat)=>ins S (x:Int)) S) v) (v:Int)]
 | [],S=>rfl
 | x::l,S=>by rw[List.cons_append,alF,alF,sh nb v l,List.foldl_cons,List.cons_append]
theorem ke (nb:Int→BS):∀(l:List Nat) (S:BS),(alF nb S l).length=l.length
 | [],_=>rfl
 | v::l,S=>by rw[alF,List.length_cons,List.length_cons,ke nb l]
theorem a0N (V:BS)(p:List Nat)(x:Nat):dlF V (p++[x])=del (dlF V p) (x:Int):=by simp only[dlF,List.foldl_append,List.foldl_cons,List.foldl_nil]
theorem a0O {g:GT}(ok:Gr.Ok g){p:List Nat}{v:Nat}(hp:∀x∈p,x<1024)(hv:v<1024):ins (nbA g (v:Int) &&& del (dlF (ai g.1) p) (v:Int)) (v:Int)=ins (ltr (nbA g) (inF p) v) (v:Int):=bI fun i=>by
 rw[aL _ hv,aL _ hv,bZ,bT _ hv,sd p _ i hp,ltr,aP,inF,sf p 0 i hp]
 constructor
 ·rintro (⟨h1,⟨h2,h3⟩,h4⟩|h)
  ·exact .inl ⟨h1,fun h=>h.elim (fun h=>aN i h) h3⟩
  ·exact .inr h
 ·rintro (⟨h1,h2⟩|h)
  ·exact .inl ⟨h1,⟨eu ok v i h1,fun h=>h2 (.inr h)⟩,fun e=>by rw[e] at h1;exact (((bN ok).1 h1).inn ok).2.2 rfl⟩
  ·exact .inr h
def dx (L:List BS)(i:Nat):List BS:=((List.range i).filter fun i => !ga L i).map fun i=>L.getD i 0
def gd (L:List BS)(i k:Nat):Bool:=(List.range k).any fun k=>decide (i≠k)&&decide (L.getD i 0 &&& ~~~L.getD k 0=0)
theorem a0P (L:List BS)(i:Nat):dx L (i+1)=if ga L i then dx L i else dx L i++[L.getD i 0]:=by
 rw[dx,List.range_succ,List.filter_append,List.map_append]
 cases h:ga L i with
 | true=>simp[h,dx]
 | false=>simp[h,dx]
theorem a0Q (L:List BS)(i k:Nat):gd L i (k+1)=(gd L i k || (decide (i≠k)&&decide (L.getD i 0 &&& ~~~L.getD k 0=0))):=by
 rw[gd,List.range_succ,List.any_append,List.any_cons,List.any_nil,Bool.or_false];rfl
theorem mH (L:List BS)(i:Nat):(dx L i).length≤i:=by
 rw[dx,List.length_map]
 exact Nat.le_trans (List.length_filter_le _ _) (by rw[List.length_range];exact Nat.le_refl _)
theorem a0R {G:Nat→Prop}{N:Nat}(g:GT)(ok:Gr.Ok g)(v:Value)(l:List Nat)(W:World)(hT:Tab W)(h:(Dv (ptE (grE N)) G (some g)).p v W)(hl1:g.1.length≤100000)(hl2:g.2.length≤100000)(hN:N≤1000000)(hpo:poF (nbA g) (card (ai g.1)) (ai g.1)=some l)(hl1024:∀x∈l,x<1024)(hll:l.length≤10000) :
  Calls Tryz.prog 11 #[v] W (Post (Tup [⟨fun u w=>∃xs:List BS,xs.Perm (outF (alF (nbA g) 0 l))∧(Dv (slE aX) Go.Mono.G0 xs).p u w,fun _ _ _ e ⟨xs,h1,h2⟩=>⟨xs,h1,VA.st _ _ _ _ e h2⟩⟩,E (I 0)]) W):=by
 have hv:(Dv (ptE (grE N)) Go.Mono.G0 (some g)).p v W:=Dv.weak h fun b _ hb=>hb.elim
 clear h
 have hT0:=hT.lt
 refine enter (args:=[v]) (As:=[E v]) Tryz.func11 rfl Tryz.ntmps11 (Nat.le_of_ble_eq_true rfl) ?_ (fun a hf=>?_) (Nat.le_of_ble_eq_true rfl)
 rotate_left
 dsimp only[params,Nat.reduceAdd] at hf
 rotate_right
 ·exact arg1 rfl
 have e:=Ext.rfl' W
 refine seq ?_
 refine aj ?_
 refine ae hf rfl (by decide) fun a hf=>?_
 refine ae hf rfl (by decide) fun a hf=>?_
 refine aa ?_
 have e0:=e
 refine seq ?_
 refine ac 5 hf (by decide +kernel) ?_
 refine st (mv rfl) ?_
 refine st (aw (A:=Tup [Dv (slE aA) Go.Mono.G0 (nI l),E (B true)]) (B:=E v) nj rfl (fun u w he k=>by cases k;exact rU g ok v l w (hT.ext he) (VA.st _ _ _ _ (Ext.tr e0 he) hv) hl1 hl2 hN hpo (by omega))) ?_
 refine st (mv rfl) ?_
 refine st (aY rfl rfl) ?_
 refine st (aY rfl rfl) ?_
 refine en fun a w e' hf=>?_
 replace hT:=hT.ext e'
 replace e:=e.tr e'
 refine ae hf rfl (by decide) fun a hf=>?_
 refine ae hf rfl (by decide) fun a hf=>?_
 refine aa ?_
 obtain⟨uo,hord,hf⟩:=hf.opn 4 rfl
 clear e0
 obtain⟨Wo,hWo⟩:∃Wo,Wo=w:=⟨_,rfl⟩
 have eo:Ext Wo w:=by rw[hWo];exact Ext.rfl' _
 rw[← hWo] at hord
 have hWo2:W.heap.size≤Wo.heap.size:=by rw[hWo];exact e.size
 clear hWo
 replace hf:=hf.kp [0,4,5]
 repeat refine seq ?_
 refine ac 2 hf (by decide +kernel) ?_
 refine st (mv rfl) ?_
 refine st (bj rfl) ?_
 refine en fun a w e' hf=>?_
 replace hT:=hT.ext e'
 replace eo:=Ext.tr eo e'
 replace e:=e.tr e'
 refine aa ?_
 refine ifc hf rfl (fun h=>by cases h) (fun _=>?_)
 refine ar ?_
 simp only[Exit.then,Exit.inBlock,↓reduceIte]
 replace hf:=hf.kp [0,4]
 obtain⟨V,hV⟩:∃V,V=ai g.1:=⟨_,rfl⟩
 have e0:=e
 refine seq ?_
 refine ac 2 hf (by decide +kernel) ?_
 refine st (mv rfl) ?_
 refine st (aw (A:=E (ah V)) (B:=E v) fa rfl (fun u w he k=>by cases k;rw[hV];exact fw g _ w (VA.st _ _ _ _ (Ext.tr e0 he) hv) ok.sv hl1 hN)) ?_
 refine en fun a w e' hf=>?_
 replace hT:=hT.ext e'
 replace eo:=Ext.tr eo e'
 replace e:=e.tr e'
 clear e'
 clear e0
 have hNo:Wo.heap.size≤w.heap.size:=eo.size
 refine aC I47 hf (by decide) fun a b6 w e' hb6 hs6 B6 hf=>?_
 have hle6:=Nat.le_trans e.size (Nat.le_of_eq hb6.symm)
 have lo6_hNo:=Nat.le_trans hNo (Nat.le_of_eq hb6.symm)
 replace hT:=hT.ext e'
 replace eo:=Ext.tr eo e'
 replace hNo:=Nat.le_trans hNo e'.size
 replace e:=e.tr e'
 clear e'
 have n6:W.heap.size≤b6∧Wo.heap.size≤b6:=⟨hle6,lo6_hNo⟩
 clear hNo
 refine aF T47 hf rfl rfl (aU _) B6 rfl rfl fun w hg hsz B6 hf=>?_
 replace e:=e.gr hg (by omega);replace hT:=hT.gr hg (by omega);replace eo:=eo.gr hg (by omega)
 clear hg hsz
 refine aa ?_
 replace hf:=hf.kp [0,4,6]
 refine seq ?_
 refine aj ?_
 refine ae hf rfl (by decide) fun a hf=>?_
 refine aa ?_
 replace hf:=hf.kp [0,4,6,7]
 obtain⟨N1,hN1⟩:∃N1,N1=w.heap.size:=⟨_,rfl⟩
 have hN1s:N1≤w.heap.size:=Nat.le_of_eq hN1
 have l6:b6<N1:=by rw[hN1];exact B6.lt
 have hWN:W.heap.size≤N1:=by rw[hN1];exact e.size
 have hoN:Wo.heap.size≤N1:=by rw[hN1];exact eo.size
 clear hN1
 repeat refine seq ?_
 refine ac 3 hf (by decide +kernel) ?_
 refine st (mv rfl) ?_
 refine st ((bi Tryz.underlying39 (isE rfl (VA.st _ _ _ _ eo hord))).eq (congrArg (Value.int .i64) (show (((nI l).length:Nat):Int)=((l.length:Nat):Int) by rw[nI,List.length_map]))) ?_
 refine st (mv rfl) ?_
 refine en fun a w e' hf=>?_
 replace hT:=hT.ext e'
 replace eo:=Ext.tr eo e'
 replace hN1s:=Nat.le_trans hN1s e'.size
 replace e:=e.tr e'
 replace B6:=B6.ext e'
 refine aa ?_
 replace hf:=hf.kp [0,6,7,25,26,27]
 refine blk (aW (fun r0 a w=>∃(k:Nat) (u:Value),r0=l.length - k∧k≤l.length∧Fr 81 a w [(0,E v),(6,E (ptr b6)),(7,E u),(25,E uo),(26,E (I (l.length:Nat))),(27,E (I k))]∧Ext W w∧Tab w∧Ext Wo w∧N1≤w.heap.size∧Blk w b6 (au (dlF V (l.take k))) 47∧OwR aX 47 N1 Go.Mono.G0 w (alF (nbA g) 0 (l.take k)) u) l.length ⟨0,.slice none 0 0,rfl,by omega,hf,e,⟨hT,eo,hN1s,B6,OwR.nil aX _ hN1s fun b hb=>hb.elim⟩⟩ ?_)
 clear hf e;try clear hT;try clear eo;try clear hN1s;try clear B6;try clear Ho
 rintro r0 a w ⟨k,u,rfl,hk,hf,e,hT,eo,hN1s,B6,Ho⟩
 refine seq ?_
 refine ac 1 hf (by decide +kernel) ?_
 refine st (lss rfl rfl) ?_
 refine en fun a w e' hf=>?_
 replace hT:=hT.ext e'
 replace eo:=Ext.tr eo e'
 replace hN1s:=Nat.le_trans hN1s e'.size
 replace e:=e.tr e'
 replace B6:=B6.ext e'
 replace Ho:=Ho.ext e'
 refine aa ?_
 refine seq ?_
 refine ifc hf rfl (fun hc=>ar ?_) (fun hc=>aR ?_)
 rotate_left
 rotate_left
 ·have hlt:k<l.length:=by have:=of_decide_eq_true hc;(try dsimp only at this);omega
  clear hc
  replace hf:=hf.kp [0,6,7,25,26,27]
  refine seq ?_
  refine blk ?_
  have hg:=List.getElem?_eq_getElem hlt
  generalize l[k]=x at hg
  have hxm:=List.mem_of_getElem? hg
  have hx1024:=hl1024 x hxm
  have htk:l.take (k+1)=l.take k++[x]:=dh hg
  have hgI:(nI l)[k]?=some (x:Int):=by rw[nI,List.getElem?_map,hg];rfl
  have hlk:=List.length_take_le k l
  have hal:(alF (nbA g) 0 (l.take k)).length≤10000:=by rw[ke];omega
  have hp1024:∀y∈l.take k,y<1024:=fun y hy=>hl1024 y (List.mem_of_mem_take hy)
  obtain⟨L,hL⟩:∃L,L=dlF V (l.take k):=⟨_,rfl⟩
  rw[← hL] at B6
  have hL2:del L (x:Int)=dlF V (l.take (k+1)):=by rw[htk,hL,a0N]
  refine seq ?_
  refine ac 2 hf (by decide +kernel) ?_
  refine st (ba Tryz.underlying39 S3 (isE rfl (VA.st _ _ _ _ eo hord)) rfl (by omega) (hgI)) ?_
  refine st (ldI T3 (isR rfl)) ?_
  refine en fun a w e' hf=>?_
  replace hT:=hT.ext e'
  replace eo:=Ext.tr eo e'
  replace hN1s:=Nat.le_trans hN1s e'.size
  replace Ho:=Ho.ext e'
  replace e:=e.tr e'
  replace B6:=B6.ext e'
  refine ae hf rfl (by decide) fun a hf=>?_
  refine aa ?_
  replace hf:=hf.kp [0,6,7,9,25,26,27]
  refine seq ?_
  refine ac 3 hf (by decide +kernel) ?_
  refine st ((ldW T47 rfl B6 rfl).eq ((rfl:_=ah L))) ?_
  refine st (mv rfl) ?_
  refine st (aD (A:=E (ah (del L (x:Int)))) gl rfl rfl (fun v u w he h h'=>by cases h;cases h';exact gq L _ w)) ?_
  refine en fun a w e' hf=>?_
  replace hT:=hT.ext e'
  replace eo:=Ext.tr eo e'
  replace hN1s:=Nat.le_trans hN1s e'.size
  replace Ho:=Ho.ext e'
  replace e:=e.tr e'
  replace B6:=B6.ext e'
  clear e'
  have hn6:=Ho.neLt l6
  refine aF T47 hf rfl rfl (aU _) B6 rfl (bh _) fun w hg hsz B6 hf=>?_
  replace e:=e.gr hg (by omega);replace hT:=hT.gr hg (by omega);replace eo:=eo.gr hg (by omega);replace Ho:=Ho.grE hg hn6
  replace hN1s:=Nat.le_trans hN1s hg.size
  clear hg hsz hn6
  refine aa ?_
  replace hf:=hf.kp [0,6,7,9,25,26,27]
  have e0:=e
  have hce:ins (nbA g (x:Int) &&& del L (x:Int)) (x:Int)=ins (ltr (nbA g) (inF (l.take k)) x) (x:Int):=by rw[hL,hV];exact a0O ok hp1024 hx1024
  obtain⟨C,hC⟩:∃C,C=ins (nbA g (x:Int) &&& del L (x:Int)) (x:Int):=⟨_,rfl⟩
  have hal2:alF (nbA g) 0 (l.take (k+1))=alF (nbA g) 0 (l.take k)++[C]:=by rw[htk,sh,hC,hce];rfl
  refine reg 9 Mix.mix hf (by decide +kernel) ?_
  refine st (mv rfl) ?_
  refine st (mv rfl) ?_
  refine st (mv rfl) ?_
  refine st (aD (A:=E (ah (nbA g (x:Int)))) (B:=E v) (C:=E (I (x:Nat))) dT rfl rfl (fun v u w he k1 k2=>by cases k1;cases k2;rw[gU ok];exact eT g _ _ w (VA.st _ _ _ _ (Ext.tr e0 he) hv) ok.se hl2 hN)) ?_
  refine st ((ldW T47 rfl B6 rfl).eq ((rfl:_=ah (del L (x:Int))))) ?_
  refine st (aD (A:=E (ah (nbA g (x:Int) &&& del L (x:Int)))) eB rfl rfl (fun v u w he h h'=>by cases h;cases h';exact eJ _ _ w)) ?_
  refine st (mv rfl) ?_
  refine st (aD (A:=E (ah C)) de rfl rfl (fun v u w he h h'=>by cases h;cases h';rw[hC];exact di _ _ w)) ?_
  refine st (bL Tryz.underlying42 I47 rfl (by decide) rfl Ho.avs (isS rfl)) ?_
  refine en fun a w e' hf=>?_
  replace hT:=hT.ext e'
  replace eo:=Ext.tr eo e'
  replace hN1s:=Nat.le_trans hN1s e'.size
  replace B6:=B6.ext e'
  replace Ho:=Ho.ext e'
  replace e:=e.tr e'
  clear e'
  haveI hin:∀G0,InR (GB W G0) _:=OwR.inGB (W:=W) Ho (by omega)
  refine bQ Tryz.underlying42 I47 rfl rfl hf (by decide) rfl Ho (isR rfl) (by simp only[List.length_singleton];omega) (by simp only[List.length_singleton,maxLen];omega) fun a v w hg hat Hn hf=>?_
  replace e:=e.gro hg (Ho.row (W:=W) (by omega))
  have hrow:=Ho.row (W:=W) (by omega)
  replace hT:=hT.gro hg (fun b hb=>by have:=(Ho.lt hb).1;omega)
  replace eo:=eo.gro hg (fun b hb=>Nat.le_trans hoN (Ho.lt hb).1)
  replace hN1s:=Nat.le_trans hN1s hg.size
  replace B6:=B6.gro hg (Ho.neLt l6)
  replace Ho:=Hn
  clear hrow
  replace Ho:=Hn;clear Hn hg hat hin
  refine ae hf rfl (by decide) fun a hf=>?_
  refine aa ?_
  simp only[Exit.then,Exit.inBlock,↓reduceIte]
  refine ac 1 hf (by decide +kernel) ?_
  refine st ((add rfl rfl (by omega)).eq (congrArg (Value.int .i64) (show (k:Int)+1=((k+1:Nat):Int) from rfl))) ?_
  refine en fun a w e' hf=>?_
  replace hT:=hT.ext e'
  replace eo:=Ext.tr eo e'
  replace hN1s:=Nat.le_trans hN1s e'.size
  replace B6:=B6.ext e'
  replace Ho:=Ho.ext e'
  replace e:=e.tr e'
  clear e'
  refine aB hf (by decide) (mv rfl) fun a w e' hf=>?_
  replace hT:=hT.ext e'
  replace eo:=Ext.tr eo e'
  replace hN1s:=Nat.le_trans hN1s e'.size
  replace B6:=B6.ext e'
  replace Ho:=Ho.ext e'
  replace e:=e.tr e'
  refine aa ?_
  replace hf:=hf.kp [0,6,7,25,26,27]
  refine⟨_,?_,k+1,_,rfl,by omega,hf,e,?_⟩
  ·omega
  rw[hal2,← hL2]
  exact⟨hT,eo,hN1s,B6,Ho⟩
 ·obtain rfl:l.length=k:=by have:=of_decide_eq_false hc;(try dsimp only at this);omega
  clear hc
  simp only[Exit.then,Exit.inBlock,↓reduceIte]
  rw[List.take_length] at Ho
  obtain⟨A,hA⟩:∃A,A=alF (nbA g) 0 l:=⟨_,rfl⟩
  have hAl:A.length=l.length:=by rw[hA,ke]
  rw[← hA] at Ho
  replace hf:=hf.kp [7]
  obtain⟨N5,hN5⟩:∃N5,N5=w.heap.size:=⟨_,rfl⟩
  have HD:(Dv (slE aX) (fun b=>N5≤b) A).p u w:=Ho.slN fun b hb hh=>by have:=(Ho.lt hb).2;omega
  have hN5s:N5≤w.heap.size:=Nat.le_of_eq hN5
  have hWN5:W.heap.size≤N5:=by rw[hN5];exact e.size
  clear hN5 Ho B6 hT eo hN1s
  refine seq ?_
  refine aj ?_
  refine ae hf rfl (by decide) fun a hf=>?_
  refine aa ?_
  repeat refine seq ?_
  refine ac 3 hf (by decide +kernel) ?_
  refine st (mv rfl) ?_
  refine st (bi Tryz.underlying42 (isE rfl HD)) ?_
  refine st (mv rfl) ?_
  refine en fun a w e' hf=>?_
  replace HD:=VA.st _ _ _ _ e' HD
  replace hN5s:=Nat.le_trans hN5s e'.size
  replace e:=e.tr e'
  refine aa ?_
  replace hf:=hf.kp [7,10,45,46,47]
  refine blk (aW (fun r0 a w=>∃(k:Nat) (o:Value),r0=A.length - k∧k≤A.length∧Fr 81 a w [(7,E u),(10,E o),(45,E u),(46,E (I (A.length:Nat))),(47,E (I k))]∧Ext W w∧(Dv (slE aX) (fun b=>N5≤b) A).p u w∧N5≤w.heap.size∧OwR aX 47 N5 Go.Mono.G0 w (dx A k) o) A.length ⟨0,.slice none 0 0,rfl,by omega,hf,e,⟨HD,hN5s,OwR.nil aX _ hN5s fun b hb=>hb.elim⟩⟩ ?_)
  clear hf e;try clear HD;try clear hN5s;try clear Ho
  rintro r0 a w ⟨k,o,rfl,hk,hf,e,HD,hN5s,Ho⟩
  refine seq ?_
  refine ac 1 hf (by decide +kernel) ?_
  refine st (lss rfl rfl) ?_
  refine en fun a w e' hf=>?_
  replace HD:=VA.st _ _ _ _ e' HD
  replace hN5s:=Nat.le_trans hN5s e'.size
  replace e:=e.tr e'
  replace Ho:=Ho.ext e'
  refine aa ?_
  refine seq ?_
  refine ifc hf rfl (fun hc=>ar ?_) (fun hc=>aR ?_)
  rotate_left
  rotate_left
  ·have hlt:k<A.length:=by have:=of_decide_eq_true hc;(try dsimp only at this);omega
   clear hc
   replace hf:=hf.kp [7,10,45,46,47]
   refine seq ?_
   refine blk ?_
   have hg:=List.getElem?_eq_getElem hlt
   have hgD:A.getD k 0=A[k]:=by rw[List.getD_eq_getElem?_getD,hg];rfl
   rw[← hgD] at hg
   obtain⟨C,hC⟩:∃C,C=A.getD k 0:=⟨_,rfl⟩
   rw[← hC] at hg
   clear hgD
   have hoP:=mH A k
   refine seq ?_
   refine ac 3 hf (by decide +kernel) ?_
   refine st (mv rfl) ?_
   refine st (ba Tryz.underlying42 S47 (isE rfl HD) rfl (by omega) (hg)) ?_
   refine st (ldS T47 (isR rfl)) ?_
   refine en fun a w e' hf=>?_
   replace HD:=VA.st _ _ _ _ e' HD
   replace hN5s:=Nat.le_trans hN5s e'.size
   replace Ho:=Ho.ext e'
   replace e:=e.tr e'
   clear e'
   refine aC I47 hf (by decide) fun a b12 w e' hb12 hs12 B12 hf=>?_
   have hle12:=Nat.le_trans e.size (Nat.le_of_eq hb12.symm)
   have lo12_hN5s:=Nat.le_trans hN5s (Nat.le_of_eq hb12.symm)
   have ne12_Ho:=Ho.ne_new hb12
   replace HD:=VA.st _ _ _ _ e' HD
   replace hN5s:=Nat.le_trans hN5s e'.size
   replace Ho:=Ho.ext e'
   replace e:=e.tr e'
   refine ae hf rfl (by decide) fun a hf=>?_
   have n12:N5≤b12:=lo12_hN5s
   have ho12:=ne12_Ho
   replace hf:=hf.kp [7,10,11,12,45,46,47,51]
   refine aF T47 hf rfl rfl (aU _) B12 rfl rfl fun w hg' hsz B12 hf=>?_
   replace e:=e.gr hg' (by omega);replace HD:=Dv.gr HD hg' n12;replace Ho:=Ho.grE hg' ho12;replace hN5s:=Nat.le_trans hN5s hg'.size
   clear hg' hsz
   refine aa ?_
   replace hf:=hf.kp [7,10,11,12,45,46,47]
   refine seq ?_
   refine aj ?_
   refine ae hf rfl (by decide) fun a hf=>?_
   refine aa ?_
   repeat refine seq ?_
   refine ac 3 hf (by decide +kernel) ?_
   refine st (mv rfl) ?_
   refine st (bi Tryz.underlying42 (isE rfl HD)) ?_
   refine st (mv rfl) ?_
   refine en fun a w e' hf=>?_
   replace HD:=VA.st _ _ _ _ e' HD
   replace hN5s:=Nat.le_trans hN5s e'.size
   replace Ho:=Ho.ext e'
   replace B12:=B12.ext e'
   replace e:=e.tr e'
   refine aa ?_
   replace hf:=hf.kp [7,10,11,12,13,45,46,47,52,53,54]
   refine blk (aW (fun r0 a w=>∃(j:Nat) ,r0=A.length - j∧j≤A.length∧Fr 81 a w [(7,E u),(10,E o),(11,E (I (k:Nat))),(12,E (ptr b12)),(13,E (B (gd A k j))),(45,E u),(46,E (I (A.length:Nat))),(47,E (I (k:Nat))),(52,E u),(53,E (I (A.length:Nat))),(54,E (I j))]∧Ext W w∧(Dv (slE aX) (fun b=>N5≤b) A).p u w∧N5≤w.heap.size∧OwR aX 47 N5 Go.Mono.G0 w (dx A k) o∧Blk w b12 (au C) 47∧o.ownBlock≠some b12) A.length ⟨0,rfl,by omega,hf,e,⟨HD,hN5s,Ho,B12,ho12⟩⟩ ?_)
   clear hf e;try clear HD;try clear hN5s;try clear Ho;try clear B12;try clear ho12
   rintro r0 a w ⟨j,rfl,hj,hf,e,HD,hN5s,Ho,B12,ho12⟩
   refine seq ?_
   refine ac 1 hf (by decide +kernel) ?_
   refine st (lss rfl rfl) ?_
   refine en fun a w e' hf=>?_
   replace HD:=VA.st _ _ _ _ e' HD
   replace hN5s:=Nat.le_trans hN5s e'.size
   replace Ho:=Ho.ext e'
   replace B12:=B12.ext e'
   replace e:=e.tr e'
   refine aa ?_
   refine seq ?_
   refine ifc hf rfl (fun hc=>ar ?_) (fun hc=>aR ?_)
   rotate_left
   rotate_left
   ·have hltj:j<A.length:=by have:=of_decide_eq_true hc;(try dsimp only at this);omega
    clear hc
    replace hf:=hf.kp [7,10,11,12,13,45,46,47,52,53,54]
    refine seq ?_
    refine blk ?_
    have hgj:=List.getElem?_eq_getElem hltj
    have hgjD:A.getD j 0=A[j]:=by rw[List.getD_eq_getElem?_getD,hgj];rfl
    rw[← hgjD] at hgj
    obtain⟨D',hD'⟩:∃D',D'=A.getD j 0:=⟨_,rfl⟩
    rw[← hD'] at hgj
    clear hgjD
    refine seq ?_
    refine ac 3 hf (by decide +kernel) ?_
    refine st (mv rfl) ?_
    refine st (ba Tryz.underlying42 S47 (isE rfl HD) rfl (by omega) (hgj)) ?_
    refine st (ldS T47 (isR rfl)) ?_
    refine en fun a w e' hf=>?_
    replace HD:=VA.st _ _ _ _ e' HD
    replace hN5s:=Nat.le_trans hN5s e'.size
    replace Ho:=Ho.ext e'
    replace B12:=B12.ext e'
    replace e:=e.tr e'
    clear e'
    have hlt12:=B12.lt
    refine aC I47 hf (by decide) fun a b15 w e' hb15 hs15 B15 hf=>?_
    have hle15:=Nat.le_trans e.size (Nat.le_of_eq hb15.symm)
    have lo15_hN5s:=Nat.le_trans hN5s (Nat.le_of_eq hb15.symm)
    have ne15_Ho:=Ho.ne_new hb15
    replace HD:=VA.st _ _ _ _ e' HD
    replace hN5s:=Nat.le_trans hN5s e'.size
    replace Ho:=Ho.ext e'
    replace B12:=B12.ext e'
    replace e:=e.tr e'
    refine ae hf rfl (by decide) fun a hf=>?_
    have n15:N5≤b15:=lo15_hN5s
    have ho15:=ne15_Ho
    have n1512:b12≠b15:=by omega
    replace hf:=hf.kp [7,10,11,12,13,14,15,45,46,47,52,53,54,58]
    refine aF T47 hf rfl rfl (aU _) B15 rfl rfl fun w hg' hsz B15 hf=>?_
    replace e:=e.gr hg' (by omega);replace HD:=Dv.gr HD hg' n15;replace Ho:=Ho.grE hg' ho15;replace hN5s:=Nat.le_trans hN5s hg'.size;replace B12:=B12.gr hg' n1512
    clear hg' hsz
    refine aa ?_
    replace hf:=hf.kp [7,10,11,12,13,14,15,45,46,47,52,53,54]
    have hps:=a0Q A k j
    rw[← hC,← hD'] at hps
    obtain⟨q,hq⟩:∃q,q=gd A k j:=⟨_,rfl⟩
    rw[← hq] at hf hps
    refine cut (J:=fun a w=>Fr 81 a w [(7,E u),(10,E o),(11,E (I (k:Nat))),(12,E (ptr b12)),(13,E (B (gd A k (j+1)))),(45,E u),(46,E (I (A.length:Nat))),(47,E (I (k:Nat))),(52,E u),(53,E (I (A.length:Nat))),(54,E (I (j:Nat)))]∧Ext W w∧(Dv (slE aX) (fun b=>N5≤b) A).p u w∧N5≤w.heap.size∧OwR aX 47 N5 Go.Mono.G0 w (dx A k) o∧Blk w b12 (au C) 47) ?_ (fun a w hJ=>?_)
    ·have hps0:=hps
     cases q with
     | true=>
      refine ac 11 hf (by decide +kernel) ?_
      refine st (mv rfl) ?_
      refine st (mv rfl) ?_
      refine sn rfl rfl rfl ?_
      refine sn rfl rfl rfl ?_
      refine sn rfl rfl rfl ?_
      refine sn rfl rfl rfl ?_
      refine su rfl rfl ?_
      refine su rfl rfl ?_
      refine su rfl rfl ?_
      refine sn rfl rfl rfl ?_
      refine st (pkT rfl rfl) ?_
      refine en fun a w e' hf=>?_
      replace HD:=VA.st _ _ _ _ e' HD
      replace hN5s:=Nat.le_trans hN5s e'.size
      replace Ho:=Ho.ext e'
      replace B12:=B12.ext e'
      replace e:=e.tr e'
      replace B15:=B15.ext e'
      refine ae hf rfl (by decide) fun a hf=>?_
      refine aa ?_
      replace hf:=hf.kp [7,10,11,12,13,45,46,47,52,53,54]
      rw[Bool.true_or] at hps
      rw[hps]
      exact⟨rfl,hf,e,HD,hN5s,Ho,B12⟩
     | false=>
      rw[Bool.false_or] at hps
      by_cases hkj:k=j
      ·repeat refine seq ?_
       refine ac 11 hf (by decide +kernel) ?_
       refine st (mv rfl) ?_
       refine st (mv rfl) ?_
       refine sy rfl rfl (mv rfl) ?_
       refine sy rfl rfl (mv rfl) ?_
       refine sy rfl rfl ((neq rfl rfl).eq (congrArg Value.bool ((by rw[hkj];exact bne_self_eq_false _:_=false)))) ?_
       refine sy rfl rfl (mv rfl) ?_
       refine sn rfl rfl rfl ?_
       refine sn rfl rfl rfl ?_
       refine sn rfl rfl rfl ?_
       refine sy rfl rfl (pkF rfl rfl) ?_
       refine st (pkF rfl rfl) ?_
       refine en fun a w e' hf=>?_
       replace HD:=VA.st _ _ _ _ e' HD
       replace hN5s:=Nat.le_trans hN5s e'.size
       replace Ho:=Ho.ext e'
       replace B12:=B12.ext e'
       replace e:=e.tr e'
       replace B15:=B15.ext e'
       refine ae hf rfl (by decide) fun a hf=>?_
       refine aa ?_
       replace hf:=hf.kp [7,10,11,12,13,45,46,47,52,53,54]
       rw[decide_eq_false (fun h=>h hkj),Bool.false_and] at hps
       rw[hps]
       exact⟨rfl,hf,e,HD,hN5s,Ho,B12⟩
      ·repeat refine seq ?_
       refine ac 11 hf (by decide +kernel) ?_
       refine st (mv rfl) ?_
       refine st (mv rfl) ?_
       refine sy rfl rfl (mv rfl) ?_
       refine sy rfl rfl (mv rfl) ?_
       refine sy rfl rfl ((neq rfl rfl).eq (congrArg Value.bool ((bne_iff_ne.2 (by omega):_=true)))) ?_
       refine sy rfl rfl (mv rfl) ?_
       refine sy rfl rfl ((ldW T47 rfl B12 rfl).eq ((rfl:_=ah C))) ?_
       refine sy rfl rfl ((ldW T47 rfl B15 rfl).eq ((rfl:_=ah D'))) ?_
       refine sy rfl rfl (aD (A:=E (B (C &&& ~~~D'==0))) nk rfl rfl (fun v u w he h h'=>by cases h;cases h';exact oq C D' w)) ?_
       refine sy rfl rfl (pkT rfl rfl) ?_
       refine st (pkF rfl rfl) ?_
       refine en fun a w e' hf=>?_
       replace HD:=VA.st _ _ _ _ e' HD
       replace hN5s:=Nat.le_trans hN5s e'.size
       replace Ho:=Ho.ext e'
       replace B12:=B12.ext e'
       replace e:=e.tr e'
       replace B15:=B15.ext e'
       refine ae hf rfl (by decide) fun a hf=>?_
       refine aa ?_
       replace hf:=hf.kp [7,10,11,12,13,45,46,47,52,53,54]
       rw[decide_eq_true hkj,Bool.true_and] at hps
       rw[hps]
       exact⟨rfl,hf,e,HD,hN5s,Ho,B12⟩
    clear hf e HD hN5s Ho B12 hq
    obtain⟨hf,e,HD,hN5s,Ho,B12⟩:=hJ
    simp only[Exit.then,Exit.inBlock,↓reduceIte]
    refine ac 1 hf (by decide +kernel) ?_
    refine st ((add rfl rfl (by omega)).eq (congrArg (Value.int .i64) (show (j:Int)+1=((j+1:Nat):Int) from rfl))) ?_
    refine en fun a w e' hf=>?_
    replace HD:=VA.st _ _ _ _ e' HD
    replace hN5s:=Nat.le_trans hN5s e'.size
    replace Ho:=Ho.ext e'
    replace B12:=B12.ext e'
    replace e:=e.tr e'
    clear e'
    refine aB hf (by decide) (mv rfl) fun a w e' hf=>?_
    replace HD:=VA.st _ _ _ _ e' HD
    replace hN5s:=Nat.le_trans hN5s e'.size
    replace Ho:=Ho.ext e'
    replace B12:=B12.ext e'
    replace e:=e.tr e'
    refine aa ?_
    replace hf:=hf.kp [7,10,11,12,13,45,46,47,52,53,54]
    refine⟨_,?_,j+1,rfl,by omega,hf,e,?_⟩
    ·omega
    exact⟨HD,hN5s,Ho,B12,ho12⟩
   ·obtain rfl:A.length=j:=by have:=of_decide_eq_false hc;(try dsimp only at this);omega
    clear hc
    simp only[Exit.then,Exit.inBlock,↓reduceIte]
    have hin:gd A k A.length=ga A k:=rfl
    have hos:=a0P A k
    rw[← hC] at hos
    obtain⟨q,hq⟩:∃q,q=ga A k:=⟨_,rfl⟩
    rw[hin,← hq] at hf
    rw[← hq] at hos
    clear hin hq
    replace hf:=hf.kp [7,10,12,13,45,46,47]
    cases q with
    | true=>
     refine seq ?_
     refine ac 2 hf (by decide +kernel) ?_
     refine st (mv rfl) ?_
     refine st (bj rfl) ?_
     refine en fun a w e' hf=>?_
     replace HD:=VA.st _ _ _ _ e' HD
     replace hN5s:=Nat.le_trans hN5s e'.size
     replace Ho:=Ho.ext e'
     replace e:=e.tr e'
     replace B12:=B12.ext e'
     refine aa ?_
     refine ifc hf rfl (fun h=>by cases h) (fun _=>?_)
     refine ar ?_
     simp only[Exit.then,Exit.inBlock,↓reduceIte]
     rw[if_pos rfl] at hos
     refine ac 1 hf (by decide +kernel) ?_
     refine st ((add rfl rfl (by omega)).eq (congrArg (Value.int .i64) (show (k:Int)+1=((k+1:Nat):Int) from rfl))) ?_
     refine en fun a w e' hf=>?_
     replace HD:=VA.st _ _ _ _ e' HD
     replace hN5s:=Nat.le_trans hN5s e'.size
     replace Ho:=Ho.ext e'
     replace e:=e.tr e'
     clear e'
     refine aB hf (by decide) (mv rfl) fun a w e' hf=>?_
     replace HD:=VA.st _ _ _ _ e' HD
     replace hN5s:=Nat.le_trans hN5s e'.size
     replace Ho:=Ho.ext e'
     replace e:=e.tr e'
     refine aa ?_
     replace hf:=hf.kp [7,10,45,46,47]
     refine⟨_,?_,k+1,_,rfl,by omega,hf,e,?_⟩
     ·omega
     rw[hos]
     exact⟨HD,hN5s,Ho⟩
    | false=>
     have hh0:=hWN5
     refine seq ?_
     refine ac 2 hf (by decide +kernel) ?_
     refine st (mv rfl) ?_
     refine st (bj rfl) ?_
     refine en fun a w e' hf=>?_
     replace HD:=VA.st _ _ _ _ e' HD
     replace hN5s:=Nat.le_trans hN5s e'.size
     replace Ho:=Ho.ext e'
     replace e:=e.tr e'
     replace B12:=B12.ext e'
     refine aa ?_
     refine ifc hf rfl (fun _=>?_) (fun h=>by cases h)
     rw[if_neg (by decide)] at hos
     replace hf:=hf.kp [7,10,12,45,46,47]
     refine ac 3 hf (by decide +kernel) ?_
     refine st (mv rfl) ?_
     refine st ((ldW T47 rfl B12 rfl).eq ((rfl:_=ah C))) ?_
     refine st (bL Tryz.underlying42 I47 rfl (by decide) rfl Ho.avs (isS rfl)) ?_
     refine en fun a w e' hf=>?_
     replace HD:=VA.st _ _ _ _ e' HD
     replace hN5s:=Nat.le_trans hN5s e'.size
     replace B12:=B12.ext e'
     replace Ho:=Ho.ext e'
     replace e:=e.tr e'
     clear e'
     haveI hin:∀G0,InR (GB W G0) _:=OwR.inGB (W:=W) Ho (by omega)
     refine bQ Tryz.underlying42 I47 rfl rfl hf (by decide) rfl Ho (isR rfl) (by simp only[List.length_singleton];omega) (by simp only[List.length_singleton,maxLen];omega) fun a v w hg hat Hn hf=>?_
     replace e:=e.gro hg (Ho.row (W:=W) (by omega))
     have hrow:=Ho.row (W:=W) (by omega)
     replace HD:=Dv.gro HD hg fun b hb=>(Ho.lt hb).1
     replace hN5s:=Nat.le_trans hN5s hg.size
     replace B12:=B12
     replace Ho:=Hn
     clear hrow
     replace Ho:=Hn;clear Hn hg hat hin
     refine ae hf rfl (by decide) fun a hf=>?_
     refine aa ?_
     simp only[Exit.then,Exit.inBlock,↓reduceIte]
     refine ac 1 hf (by decide +kernel) ?_
     refine st ((add rfl rfl (by omega)).eq (congrArg (Value.int .i64) (show (k:Int)+1=((k+1:Nat):Int) from rfl))) ?_
     refine en fun a w e' hf=>?_
     replace HD:=VA.st _ _ _ _ e' HD
     replace hN5s:=Nat.le_trans hN5s e'.size
     replace Ho:=Ho.ext e'
     replace e:=e.tr e'
     clear e'
     refine aB hf (by decide) (mv rfl) fun a w e' hf=>?_
     replace HD:=VA.st _ _ _ _ e' HD
     replace hN5s:=Nat.le_trans hN5s e'.size
     replace Ho:=Ho.ext e'
     replace e:=e.tr e'
     refine aa ?_
     replace hf:=hf.kp [7,10,45,46,47]
     refine⟨_,?_,k+1,_,rfl,by omega,hf,e,?_⟩
     ·omega
     rw[hos]
     exact⟨HD,hN5s,Ho⟩
  ·obtain rfl:A.length=k:=by have:=of_decide_eq_false hc;(try dsimp only at this);omega
   clear hc
   simp only[Exit.then,Exit.inBlock,↓reduceIte]
   have hout:dx A A.length=outF A:=rfl
   rw[hout] at Ho
   have hoP:=mH A A.length
   rw[hout] at hoP
   replace hf:=hf.kp [10]
   refine seq ?_
   refine ac 1 hf (by decide +kernel) ?_
   refine st (mv rfl) ?_
   refine en fun a w e' hf=>?_
   replace Ho:=Ho.ext e'
   replace e:=e.tr e'
   clear e'
   refine cq (S:=fun b=>o.ownBlock=some b) (F:=fun z w'=>z=.tuple #[]∧∃xs,xs.Perm (outF A)∧OwR aX 47 N5 Go.Mono.G0 w' xs o) hf (by decide) nl ?_ fun a z w hc hF hf=>?_
   ·have e1:a.eval (.tmp 78)=o:=hf.opd (.tmp 78) _ rfl
    have e2:a.eval (.func 39)=.func (.func 39) #[] #[]:=rfl
    simp only[List.map_toArray,List.map_cons,List.map_nil,e1,e2]
    exact (sc Ho (by omega)).mono fun en w' ⟨k1,xs',k2,k3,k4,k5⟩=>⟨_,k1,k5,rfl,xs',k2,k4⟩
   obtain⟨rfl,xs,hxs,Ho2⟩:=hF
   replace e:=e.ch hc fun b hb=>Nat.le_trans hWN5 (Ho.lt hb).1
   clear hc Ho
   refine aa ?_
   replace hf:=hf.kp [10]
   refine seq ?_
   refine ac 1 hf (by decide +kernel) ?_
   refine st (mv rfl) ?_
   refine en fun a w e' hf=>?_
   replace Ho2:=Ho2.ext e'
   replace e:=e.tr e'
   refine ae hf rfl (by decide) fun a hf=>?_
   refine ae hf rfl (by decide) fun a hf=>?_
   refine aa ?_
   refine an ?_
   refine fJ rfl hf rfl rfl ?_
   rintro _ _ rfl rfl
   exact⟨_,rfl,e,Tup.two ⟨xs,by rw[← hA];exact hxs,Ho2.sl⟩ rfl⟩
end Go.Mono
