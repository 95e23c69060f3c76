/-
  Walks of functions and plain facts.
  No condition.
-/
import Derived.Test.YtbjangoghokneaaGreatDoorNC
import Derived.Test.YtbjangoghokneaaGreatDoorNB
import Derived.OpenShut
import Derived.Deep.Slices
import Derived.ChangeSame
import Derived.Test.YtbjangoghokneaaGreatDoorNA
import Derived.Sort.Grow
import Derived.Great.BuildSlice
import Derived.Deep.Draws
import Derived.Shelf.SlSortCmp.NoneTotal
import Derived.Test.YtbjangoghokneaaGreatDoorProg
import Derived.Test.YtbjangoghokneaaGreatDoorCards
import Derived.Test.YtbjangoghokneaaGreatDoorTie
import Derived.ProofKit
import Derived.ChangeOld
import Derived.Below
import Derived.LaidLaws
import Derived.Handed
import Derived.Lib.LaidTab
import Derived.SevenTiedAt
import Derived.ArgAppend
import Derived.Deep.Upon
set_option linter.unusedVariables false
set_option linter.unusedSimpArgs false
namespace Go.Mono

abbrev bits (S:BS):Nat→Prop:=fun i=>S.getLsbD i=true
theorem aA {S:BS}{i:Nat}(h:S.getLsbD i=true):i<1024:=Classical.byContradiction fun hn=>by
 rw[BitVec.getLsbD_of_ge _ _ (by omega)] at h;cases h
theorem br (S T:BS)(i:Nat):(S &&& ~~~T).getLsbD i=true↔S.getLsbD i=true∧¬T.getLsbD i=true:=by
 rw[BitVec.getLsbD_and,BitVec.getLsbD_not,Bool.and_eq_true,Bool.and_eq_true]
 constructor
 ·rintro⟨h1,_,h2⟩;exact⟨h1,by simpa using h2⟩
 ·rintro⟨h1,h2⟩;exact⟨h1,by simpa using aA h1,by simpa using h2⟩
theorem cY (S T:BS)(i:Nat):(S &&& T).getLsbD i=true↔S.getLsbD i=true∧T.getLsbD i=true:=by
 rw[BitVec.getLsbD_and,Bool.and_eq_true]
theorem bL (S T:BS)(i:Nat):(S ||| T).getLsbD i=true↔S.getLsbD i=true∨T.getLsbD i=true:=by
 rw[BitVec.getLsbD_or,Bool.or_eq_true]
theorem aU (i:Nat):¬(0:BS).getLsbD i=true:=by simp
theorem bE (S:BS){p i:Nat}(hp:p<1024):(ins S (p:Int)).getLsbD i=true↔S.getLsbD i=true∨i=p:=by
 by_cases hi:i<1024
 ·rw[qb _ _ _ hi,Bool.or_eq_true,decide_eq_true_eq]
  constructor
  ·rintro (h|h)
   ·exact .inl h
   ·exact .inr (by omega)
  ·rintro (h|h)
   ·exact .inl h
   ·exact .inr (by omega)
 ·constructor
  ·intro h;exact absurd (aA h) hi
  ·rintro (h|h)
   ·exact absurd (aA h) hi
   ·omega
theorem iO (S:BS){p i:Nat}(hp:p<1024):(del S (p:Int)).getLsbD i=true↔S.getLsbD i=true∧i≠p:=by
 unfold del
 rw[if_pos (cV.2 (by omega)),br,Int.toNat_natCast]
 constructor
 ·rintro⟨h1,h2⟩
  refine⟨h1,fun e=>h2 ?_⟩
  rw[ii _ _ hp,e];simp
 ·rintro⟨h1,h2⟩
  refine⟨h1,fun h=>h2 ?_⟩
  rw[ii _ _ hp] at h
  exact of_decide_eq_true h
theorem cG {S T:BS}(h:∀k,S.getLsbD k=true↔T.getLsbD k=true):S=T:=xE fun k _=>h k
theorem dR (S:BS)(p:Nat):has S (p:Int)=true↔S.getLsbD p=true:=by
 rw[has,Bool.and_eq_true,cV,Int.toNat_natCast]
 exact⟨fun h=>h.2,fun h=>⟨by have:=aA h;omega,h⟩⟩

theorem jU {α:Type}{p q:α→Bool}:∀{l:List α},(∀x∈l,p x=true→q x=true)→l.countP p≤l.countP q
 | [],_=>Nat.le_refl _
 | x::l,h=>by
  have ih:=jU (l:=l) fun y hy=>h y (by simp[hy])
  rw[List.countP_cons,List.countP_cons]
  by_cases hx:p x=true
  ·rw[if_pos hx,if_pos (h x (by simp) hx)];omega
  ·rw[if_neg hx];split <;> omega
theorem rp {α:Type}{p q:α→Bool}{z:α}:∀{l:List α},(∀x∈l,p x=true→q x=true)→z∈l→q z=true→¬p z=true→l.countP p<l.countP q
 | [],_,hz,_,_=>by cases hz
 | x::l,h,hz,h1,h2=>by
  have ih:=jU (p:=p) (q:=q) (l:=l) fun y hy=>h y (by simp[hy])
  rw[List.countP_cons,List.countP_cons]
  rcases List.mem_cons.1 hz with rfl|hz
  ·rw[if_neg h2,if_pos h1];omega
  ·have ih:=rp (l:=l) (fun y hy=>h y (by simp[hy])) hz h1 h2
   by_cases hx:p x=true
   ·rw[if_pos hx,if_pos (h x (by simp) hx)];omega
   ·rw[if_neg hx];split <;> omega
theorem rq {α:Type}{p q r:α→Bool}:∀{l:List α},(∀x∈l,r x=true↔p x=true∨q x=true)→(∀x∈l,¬(p x=true∧q x=true))→l.countP r=l.countP p+l.countP q
 | [],_,_=>rfl
 | x::l,h,hd=>by
  have ih:=rq (l:=l) (p:=p) (q:=q) (r:=r) (fun y hy=>h y (by simp[hy])) fun y hy=>hd y (by simp[hy])
  rw[List.countP_cons,List.countP_cons,List.countP_cons,ih]
  have h1:=h x (by simp)
  have h2:=hd x (by simp)
  by_cases hp:p x=true
  ·have hq:¬q x=true:=fun hq=>h2 ⟨hp,hq⟩
   rw[if_pos hp,if_neg hq,if_pos (h1.2 (.inl hp))];omega
  ·by_cases hq:q x=true
   ·rw[if_neg hp,if_pos hq,if_pos (h1.2 (.inr hq))];omega
   ·rw[if_neg hp,if_neg hq,if_neg (fun hr=>(h1.1 hr).elim hp hq)];omega
theorem mE {S T:BS}(h:∀i,S.getLsbD i=true→T.getLsbD i=true):card S≤card T:=jU fun i _ hi=>h i hi
theorem ei {S T:BS}{z:Nat}(h:∀i,S.getLsbD i=true→T.getLsbD i=true)(h1:T.getLsbD z=true)(h2:¬S.getLsbD z=true):card S<card T:=
 rp (fun i _ hi=>h i hi) (List.mem_range.2 (aA h1)) h1 h2
theorem jV {S T U:BS}(h:∀i,U.getLsbD i=true↔S.getLsbD i=true∨T.getLsbD i=true)(hd:∀i,¬(S.getLsbD i=true∧T.getLsbD i=true)):card U=card S+card T:=
 rq (fun i _=>h i) fun i _=>hd i
theorem cJ (S:BS):(ai S).length=card S:=by rw[ai,card,List.countP_eq_length_filter]
theorem iP:card 0=0:=by rw[← cJ,qa];rfl
theorem rs (n:Nat):∀m,(List.range m).countP (fun i=>decide (i<n))≤n
 | 0=>by simp
 | m+1=>by
  rw[List.range_succ,List.countP_append]
  have ih:=rs n m
  by_cases h:m<n
  ·have:=List.countP_le_length (p:=fun i=>decide (i<n)) (l:=List.range m)
   rw[List.length_range] at this
   simp[h];omega
  ·simp[h];omega
theorem jW {S:BS}{n:Nat}(h:∀i,S.getLsbD i=true→i<n):card S≤n:=
 Nat.le_trans (jU fun i _ hi=>decide_eq_true (h i hi)) (rs n 1024)
theorem gP {S:BS}{p:Nat}(h:∀i,S.getLsbD i=true↔i=p):card S=1:=by
 have hp:p<1024:=aA ((h p).2 rfl)
 have:∀m,(List.range m).countP (fun i=>S.getLsbD i)=if p<m then 1 else 0:=by
  intro m
  induction m with
  | zero=>simp
  | succ m ih=>
   rw[List.range_succ,List.countP_append,ih]
   by_cases hm:m=p
   ·subst hm
    simp[(h m).2 rfl]
   ·have:¬S.getLsbD m=true:=fun hh=>hm ((h m).1 hh)
    rw[List.countP_singleton,if_neg this]
    split <;> split <;> omega
 rw[card,this,if_pos hp]
theorem jX {S:BS}{p:Nat}(h:S.getLsbD p=true):0<card S:=by
 rw[← cJ]
 exact List.length_pos_of_mem (aD.2 ⟨aA h,h⟩)
theorem fu {S:BS}{k:Nat}(h:aN S=some k):S.getLsbD k=true:=(fp.1 h).2.1
theorem zl {S:BS}{p:Nat}(h:S.getLsbD p=true):∃k,aN S=some k∧k≤p:=by
 cases hm:aN S with
 | none=>rw[eJ.1 hm] at h;exact absurd h (aU p)
 | some k=>
  refine⟨k,rfl,Classical.byContradiction fun hn=>?_⟩
  have:=(fp.1 hm).2.2 p (by omega)
  rw[this] at h;cases h

structure Fo (fs:List BS)(T:Tr):Prop where
 len:fs.length=T.n
 le:T.n≤1000
 adj:∀{j i},j<T.n→((sg fs j).getLsbD i=true↔i<T.n∧T.adj j i)
theorem Fo.lt {fs:List BS}{T:Tr}(F:Fo fs T){j:Nat}(hj:j<fs.length):∀i,(sg fs j).getLsbD i=true→i<fs.length:=fun i h=>by
 rw[F.len] at hj ⊢
 exact ((F.adj hj).1 h).1

theorem zm {fs:List BS}{T:Tr}(F:Fo fs T){inn:BS}{p:Nat}(hin:∀i,inn.getLsbD i=true→i<T.n):∀(f:Nat) (S:BS) (R:List Int),S.getLsbD p=true→(∀i,S.getLsbD i=true→T.cn (bits inn) p i) →
  (∀r∈R,∃q:Nat,r=(q:Int)∧S.getLsbD q=true)→(∀i,S.getLsbD i=true→(i:Int) ∉ R→∀k,T.adj i k→inn.getLsbD k=true→S.getLsbD k=true)→R.length+T.n≤f+card S →
  ∃Z,iK fs inn f S R=some Z∧∀i,Z.getLsbD i=true↔T.cn (bits inn) p i:=by
 intro f
 induction f with
 | zero=>
  intro S R h1 h2 h3 h4 h5
  have hc:=jW fun i hi=>(h2 i hi).2.1
  have:R=[]:=List.eq_nil_of_length_eq_zero (by omega)
  subst this
  refine⟨S,rfl,fun i=>⟨h2 i,fun h=>h.ind (S:=bits S) h1 fun a b ha hb pa pb hs hab=>h4 a hs (by simp) b hab pb⟩⟩
 | succ f ih=>
  intro S R h1 h2 h3 h4 h5
  cases R with
  | nil=>exact⟨S,rfl,fun i=>⟨h2 i,fun h=>h.ind (S:=bits S) h1 fun a b ha hb pa pb hs hab=>h4 a hs (by simp) b hab pb⟩⟩
  | cons r R=>
   obtain⟨q,rfl,hq⟩:=h3 r (by simp)
   have hqn:=(h2 q hq).2.1
   have hX:∀i,(((sg fs q &&& inn) &&& ~~~S)).getLsbD i=true↔(i<T.n∧T.adj q i)∧inn.getLsbD i=true∧¬S.getLsbD i=true:=fun i=>by
    rw[br,cY,F.adj hqn,and_assoc]
   rw[iK,Int.toNat_natCast]
   generalize (sg fs q &&& inn) &&& ~~~S=X at hX
   have hU:∀i,(S ||| X).getLsbD i=true↔S.getLsbD i=true∨X.getLsbD i=true:=bL S X
   have hel:∀i:Nat,(i:Int)∈elI X↔X.getLsbD i=true:=fun i=>by
    by_cases hi:i<1024
    ·exact yT hi
    ·constructor
     ·intro h
      rw[elI,List.mem_map] at h
      obtain⟨j,hj,he⟩:=h
      have:=(aD.1 hj).1
      omega
     ·intro h;exact absurd (aA h) hi
   refine ih (S ||| X) (R++elI X) ((hU p).2 (.inl h1)) (fun i hi=>?_) (fun x hx=>?_) (fun i hi hn k hk hik=>?_) ?_
   ·rcases (hU i).1 hi with h|h
    ·exact h2 i h
    ·have:=(hX i).1 h
     exact (h2 q hq).trans (Tr.cn.of_adj hqn this.1.1 (h2 q hq).2.2.2.1 this.2.1 this.1.2)
   ·rcases List.mem_append.1 hx with h|h
    ·obtain⟨q',e,h'⟩:=h3 x (by simp[h])
     exact⟨q',e,(hU q').2 (.inl h')⟩
    ·rw[elI,List.mem_map] at h
     obtain⟨j,hj,rfl⟩:=h
     exact⟨j,rfl,(hU j).2 (.inr (aD.1 hj).2)⟩
   ·have hiX:¬X.getLsbD i=true:=fun h=>hn (List.mem_append.2 (.inr ((hel i).2 h)))
    have hiS:=((hU i).1 hi).resolve_right hiX
    by_cases hiq:i=q
    ·subst hiq
     by_cases hkS:S.getLsbD k=true
     ·exact (hU k).2 (.inl hkS)
     ·exact (hU k).2 (.inr ((hX k).2 ⟨⟨hin k hik,hk⟩,hik,hkS⟩))
    ·refine (hU k).2 (.inl (h4 i hiS (fun h=>?_) k hk hik))
     rcases List.mem_cons.1 h with h|h
     ·omega
     ·exact hn (List.mem_append.2 (.inl h))
   ·have hc:=jV hU (fun i h=>((hX i).1 h.2).2.2 h.1)
    have hl:(elI X).length=card X:=by rw[elI,List.length_map,cJ]
    rw[List.length_append,hl,hc]
    simp only[List.length_cons] at h5
    omega
def compB (fs:List BS)(inn:BS)(p:Nat):BS:=(iK fs inn (1+fs.length) (ins 0 (p:Int)) [(p:Int)]).getD 0
theorem ej {fs:List BS}{T:Tr}(F:Fo fs T){inn:BS}{p:Nat}(hin:∀i,inn.getLsbD i=true→i<T.n)(hp:inn.getLsbD p=true) :
  iK fs inn (1+fs.length) (ins 0 (p:Int)) [(p:Int)]=some (compB fs inn p)∧∀i,(compB fs inn p).getLsbD i=true↔T.cn (bits inn) p i:=by
 have hpn:=hin p hp
 have hle:=F.le
 have hb:∀i,(ins 0 (p:Int)).getLsbD i=true↔i=p:=fun i=>by
  rw[bE 0 (by omega)]
  exact⟨fun h=>h.resolve_left (aU i),.inr⟩
 obtain⟨Z,h1,h2⟩:=zm F hin (1+fs.length) (ins 0 (p:Int)) [(p:Int)] ((hb p).2 rfl) (fun i hi=>by rw[(hb i).1 hi];exact Tr.cn.refl hpn hp)
  (fun r hr=>⟨p,by simpa using hr,(hb p).2 rfl⟩) (fun i hi hn=>by rw[(hb i).1 hi] at hn;simp at hn) (by have:=F.len;simp;omega)
 have:compB fs inn p=Z:=by rw[compB,h1];rfl
 rw[this]
 exact⟨h1,h2⟩
theorem zn {fs:List BS}{T:Tr}(F:Fo fs T){inn:BS}{p:Nat}(hin:∀i,inn.getLsbD i=true→i<T.n)(hp:inn.getLsbD p=true):∀i,(compB fs inn p).getLsbD i=true→inn.getLsbD i=true:=
 fun i hi=>(((ej F hin hp).2 i).1 hi).2.2.2.1
theorem ru {fs:List BS}{T:Tr}(F:Fo fs T){inn:BS}{p:Nat}(hin:∀i,inn.getLsbD i=true→i<T.n)(hp:inn.getLsbD p=true):(compB fs inn p).getLsbD p=true:=
 ((ej F hin hp).2 p).2 (Tr.cn.refl (hin p hp) hp)
def oEl {α:Type}(o:Option Nat)(a:α)(g:Nat→α):α:=match o with
 | none=>a
 | some k=>g k
def ek (fs:List BS):Nat→BS→Option (List BS)
 | 0,left=>oEl (aN left) (some []) fun _=>none
 | f+1,left=>oEl (aN left) (some []) fun k=>(ek fs f (left &&& ~~~compB fs left k)).map (compB fs left k :: ·)
theorem ry {fs:List BS}{left:BS}(h:aN left=none)(f:Nat):ek fs f left=some []:=by
 cases f with
 | zero=>rw[ek,h];rfl
 | succ f=>rw[ek,h];rfl
theorem zo {fs:List BS}{left:BS}{k:Nat}(h:aN left=some k)(f:Nat):ek fs (f+1) left=(ek fs f (left &&& ~~~compB fs left k)).map (compB fs left k :: ·):=by
 rw[ek,h,oEl]
theorem zp {fs:List BS}{T:Tr}(F:Fo fs T){left:BS}{k x y:Nat}(hin:∀i,left.getLsbD i=true→i<T.n)(hk:left.getLsbD k=true)(hx:(left &&& ~~~compB fs left k).getLsbD x=true) :
  T.cn (bits (left &&& ~~~compB fs left k)) x y↔T.cn (bits left) x y:=by
 have hC:=(ej F hin hk).2
 constructor
 ·intro h;exact h.mono fun i _ hi=>((br _ _ i).1 hi).1
 ·intro h
  refine h.ind (S:=fun i=>T.cn (bits (left &&& ~~~compB fs left k)) x i) (Tr.cn.refl h.1 hx) fun a b ha hb pa pb hs hab=>?_
  have ha':=(br _ _ a).1 hs.2.2.2.1
  have hb':(left &&& ~~~compB fs left k).getLsbD b=true:=(br _ _ b).2 ⟨pb,fun hh=>ha'.2 ((hC a).2 (((hC b).1 hh).trans (Tr.cn.of_adj hb ha pb pa hab.symm)))⟩
  exact hs.trans (Tr.cn.of_adj ha hb hs.2.2.2.1 hb' hab)
theorem zq {fs:List BS}{T:Tr}(F:Fo fs T):∀(f:Nat) (left:BS),(∀i,left.getLsbD i=true→i<T.n)→card left≤f →
  ∃l,ek fs f left=some l∧l.length≤card left∧(∀C∈l,∃k,left.getLsbD k=true∧C=compB fs left k)∧∀k,left.getLsbD k=true→compB fs left k∈l:=by
 intro f
 induction f with
 | zero=>
  intro left hin hc
  cases hm:aN left with
  | none=>
   refine⟨[],ry hm _,by simp,fun C hC=>by (cases hC),fun k hk=>?_⟩
   rw[eJ.1 hm] at hk;exact absurd hk (aU k)
  | some k=>have:=jX (fu hm);omega
 | succ f ih=>
  intro left hin hc
  cases hm:aN left with
  | none=>
   refine⟨[],ry hm _,by simp,fun C hC=>by (cases hC),fun k hk=>?_⟩
   rw[eJ.1 hm] at hk;exact absurd hk (aU k)
  | some k=>
   have hk:=fu hm
   have hlt:card (left &&& ~~~compB fs left k)<card left:=ei (fun i hi=>((br _ _ i).1 hi).1) hk fun h=>((br _ _ k).1 h).2 (ru F hin hk)
   have hin':∀i,(left &&& ~~~compB fs left k).getLsbD i=true→i<T.n:=fun i hi=>hin i ((br _ _ i).1 hi).1
   have same:∀x,(left &&& ~~~compB fs left k).getLsbD x=true→compB fs (left &&& ~~~compB fs left k) x=compB fs left x:=fun x hx=>by
    have hxl:=((br _ _ x).1 hx).1
    refine cG fun i=>?_
    rw[(ej F hin' hx).2 i,(ej F hin hxl).2 i]
    exact zp F hin hk hx
   obtain⟨l,h1,h2,h3,h4⟩:=ih _ hin' (by omega)
   refine⟨compB fs left k::l,by rw[zo hm,h1];rfl,by simp;omega,fun C hC=>?_,fun x hx=>?_⟩
   ·rcases List.mem_cons.1 hC with rfl|hC
    ·exact⟨k,hk,rfl⟩
    ·obtain⟨x,hx,rfl⟩:=h3 C hC
     exact⟨x,((br _ _ x).1 hx).1,same x hx⟩
   ·by_cases hxC:(compB fs left k).getLsbD x=true
    ·have:compB fs left x=compB fs left k:=by
      have hkx:=((ej F hin hk).2 x).1 hxC
      refine cG fun i=>?_
      rw[(ej F hin hk).2 i,(ej F hin hx).2 i]
      exact⟨fun h=>hkx.trans h,fun h=>hkx.symm.trans h⟩
     rw[this];simp
    ·have hx':=(br _ _ x).2 ⟨hx,hxC⟩
     rw[← same x hx']
     exact List.mem_cons_of_mem _ (h4 x hx')
end Go.Mono
namespace Go.Mono
open Go Go.Proofs Go.RowKit

def oB (o:Option Nat)(a:BS)(g:Nat→BS):BS:=match o with
 | none=>a
 | some k=>g k
def reF (nb:Int→BS)(th:BS):Nat→BS→BS→BS
 | 0,s,_=>s
 | f+1,s,d=>oB (aN (s &&& th &&& ~~~d)) s fun k=>reF nb th f (s ||| nb (k:Int)) (ins d (k:Int))
def reB (nb:Int→BS)(th:BS)(v:Int):BS:=del (reF nb th 1024 (nb v) 0 &&& ~~~th) v
theorem zr {nb:Int→BS}{th s d:BS}(h:aN (s &&& th &&& ~~~d)=none)(f:Nat):reF nb th f s d=s:=by
 cases f with
 | zero=>rfl
 | succ f=>
  show oB (aN (s &&& th &&& ~~~d)) s _=s
  rw[h];rfl
theorem zt {nb:Int→BS}{th s d:BS}{k:Nat}(h:aN (s &&& th &&& ~~~d)=some k)(f:Nat):reF nb th (f+1) s d=reF nb th f (s ||| nb (k:Int)) (ins d (k:Int)):=by
 show oB (aN (s &&& th &&& ~~~d)) s _=_
 rw[h];rfl
end Go.Mono
namespace Go.Mono
open Go Go.Proofs Go.RowKit Go.Gr
def lkS (l:List (Int×BS))(i:Int):BS:=((l.find? fun p=>decide (p.1=i)).map (·.2)).getD 0
section
variable {w0:World}{L:Env}{dst:Option Tmp}{ty:TypeId}{pos:String}{aft:Array Edge}{g:Option (Nat×Bool)}{x y:Operand}{t:TypeId}{G:Nat→Prop}{N:Nat}{l:List (Int×BS)}
theorem zu {n:Nat}{b:Nat}{w:World}(h:MpR sKV w b n l){i:Int}{c:BS}(hc:(i,c)∈l):lkS l i=c:=by
 obtain⟨_,_,_,_,hp⟩:=h
 cases hf:l.find? (fun p=>decide (p.1=i)) with
 | none=>have:=List.find?_eq_none.1 hf _ hc;simp at this
 | some p=>
  have h1:=List.find?_some hf
  have h2:=List.mem_of_find?_eq_some hf
  have h3:p.1=i:=by simpa using h1
  have h4:p=(i,p.2):=by rw[← h3]
  rw[h4] at h2
  rw[lkS,hf]
  exact jQ hp h2 hc
theorem rz {i:Int}(h:∀c,(i,c) ∉ l):lkS l i=0:=by
 have:l.find? (fun p=>decide (p.1=i))=none:=by
  rw[List.find?_eq_none]
  intro p hp hh
  have h3:p.1=i:=by simpa using hh
  exact h p.2 (by rw[← h3];exact hp)
 rw[lkS,this];rfl
theorem lkM {i:Int}(ht:Tryz.prog.underlying t=some (.map sKV.k sKV.e))(hz:∀w,(zeroValue sKV.e).run Tryz.prog w=.ok (ae 0) w)(hx:Is L w0 x (Dv (mpE sKV N) G l))(hy:opd L y=some (E (I i)))(hi:(Lit.int .i64 i).wf=true) :
  OpC Tryz.prog w0 L ⟨dst,.lookup t x y false,ty,pos,aft,g⟩ (E (ae (lkS l i))):=
 aS fun ρ w he' hv=>by
  obtain⟨cs,⟨b,n,h1,_,_,h2⟩,h4⟩:=hx.v he' hv (by simp[Op.operands])
  subst h1
  have h5:ρ x=.map (some b):=h4
  have h6:=opE hv (x:=y) (by simp[Op.operands]) hy
  obtain⟨D,m1,m2,m3,m4,_⟩:=h2.has (x:=i) hi
  obtain⟨v,ps,r1,r2⟩:=m1.lookup sKV.K ht (hz w) (sKV.val 0 trivial) (sKV.key i hi)
  obtain⟨c,_,rfl,hy2⟩:=sKV.valInv _ _ r2
  have hcc:c=lkS l i:=by
   have h8:=congrArg Prod.fst hy2
   simp only at h8
   by_cases hex:∃c',(i,c')∈l
   ·obtain⟨c',hc'⟩:=hex
    rw[m3 c' hc'] at h8
    rw[zu h2 hc']
    exact (sKV.dvInj _ _ h8).symm
   ·have hno:∀c',(i,c') ∉ l:=fun c' h=>hex ⟨c',h⟩
    rw[m4 hno] at h8
    rw[rz hno]
    exact (sKV.dvInj _ _ h8).symm
  rw[hcc] at r1
  have r1:(Instr.lookup t (.map (some b)) (I i) false).run Tryz.prog w=.ok (ae (lkS l i)) w:=r1
  exact⟨_,by simp only[execOp,h5,h6,Sem.run_bind,r1,Result.andThen_ok,Sem.run_pure],rfl⟩
end
theorem bZ (w:World):(zeroValue 76).run Tryz.prog w=.ok (ae 0) w:=by
 rw[← oA];exact ip I76 w
end Go.Mono
namespace Go.Mono
open Go Go.Proofs Go.RowKit
inductive Via (nb:Int→BS)(th:BS)(v:Nat):Nat→Prop
 | one {u:Nat}:(nb (v:Int)).getLsbD u=true→Via nb th v u
 | step {t u:Nat}:Via nb th v t→th.getLsbD t=true→(nb (t:Int)).getLsbD u=true→Via nb th v u
section
variable {nb:Int→BS}{S T th:BS}{a b t u v x:Nat}
theorem zv:∀(f:Nat) (s d:BS),1024≤f+card d→(∀u,s.getLsbD u=true→Via nb th v u)→(∀u,(nb (v:Int)).getLsbD u=true→s.getLsbD u=true) →
  (∀t,d.getLsbD t=true→∀u,(nb (t:Int)).getLsbD u=true→s.getLsbD u=true)→∀u,(reF nb th f s d).getLsbD u=true↔Via nb th v u:=by
 intro f
 induction f with
 | zero=>
  intro s d hc h1 h2 h3 u
  have hall:∀t,t<1024→d.getLsbD t=true:=fun t ht=>Classical.byContradiction fun hn=>by
   have h4:=ei (S:=d) (T:=ins d (t:Int)) (z:=t) (fun i hi=>(bE d ht).2 (.inl hi)) ((bE d ht).2 (.inr rfl)) hn
   have h5:card (ins d (t:Int))≤1024:=jW fun i hi=>aA hi
   omega
  refine⟨h1 u,fun h=>?_⟩
  induction h with
  | one h=>exact h2 _ h
  | step _ ht hu ih=>exact h3 _ (hall _ (aA ht)) _ hu
 | succ f ih=>
  intro s d hc h1 h2 h3 u
  cases hq:aN (s &&& th &&& ~~~d) with
  | none=>
   rw[zr hq]
   refine⟨h1 u,fun h=>?_⟩
   induction h with
   | one h=>exact h2 _ h
   | @step t u _ ht hu ih=>
    have hz:=eJ.1 hq
    have hd:d.getLsbD t=true:=Classical.byContradiction fun hn=>by
     have h5:(s &&& th &&& ~~~d).getLsbD t=true:=(br _ _ _).2 ⟨(cY _ _ _).2 ⟨ih,ht⟩,hn⟩
     rw[hz] at h5;exact aU _ h5
    exact h3 _ hd _ hu
  | some k=>
   have hkb:=(br _ _ _).1 (fu hq)
   have hst:=(cY _ _ _).1 hkb.1
   have hk:=aA hst.1
   rw[zt hq]
   refine ih _ _ ?_ ?_ ?_ ?_ u
   ·have:=ei (S:=d) (T:=ins d (k:Int)) (z:=k) (fun i hi=>(bE d hk).2 (.inl hi)) ((bE d hk).2 (.inr rfl)) hkb.2
    omega
   ·intro u hu
    rcases (bL _ _ _).1 hu with h|h
    ·exact h1 u h
    ·exact .step (h1 k hst.1) hst.2 h
   ·exact fun u hu=>(bL _ _ _).2 (.inl (h2 u hu))
   ·intro t ht u hu
    rcases (bE d hk).1 ht with h|rfl
    ·exact (bL _ _ _).2 (.inl (h3 t h u hu))
    ·exact (bL _ _ _).2 (.inr hu)
theorem jY (hv:v<1024):(reB nb th (v:Int)).getLsbD u=true↔Via nb th v u∧¬th.getLsbD u=true∧u≠v:=by
 rw[reB,iO _ hv,br,zv 1024 (nb v) 0 (Nat.le_add_right _ _) (fun u h=>.one h) (fun u h=>h) (fun t h=>absurd h (aU t))]
 exact and_assoc
theorem Via.mono (h:Via nb S a b)(hs:∀i,S.getLsbD i=true→T.getLsbD i=true):Via nb T a b:=by
 induction h with
 | one h=>exact .one h
 | step _ ht hu ih=>exact .step ih (hs _ ht) hu
theorem Via.cat (h:Via nb S a t)(ht:S.getLsbD t=true)(k:Via nb S t b):Via nb S a b:=by
 induction k with
 | one k=>exact .step h ht k
 | step _ h1 h2 ih=>exact .step ih h1 h2
theorem Via.symm (hs:∀i j:Nat,(nb (i:Int)).getLsbD j=true→(nb (j:Int)).getLsbD i=true)(h:Via nb S a b):Via nb S b a:=by
 induction h with
 | one h=>exact .one (hs _ _ h)
 | step _ ht hu ih=>exact Via.cat (.one (hs _ _ hu)) ht ih
theorem Via.ins (hx:x<1024):Via nb (Mono.ins S (x:Int)) a b↔Via nb S a b∨(Via nb S a x∧Via nb S x b):=by
 constructor
 ·intro h
  induction h with
  | one h=>exact .inl (.one h)
  | @step t u _ ht hu ih=>
   rcases (bE S hx).1 ht with hS|rfl
   ·rcases ih with h|⟨h1,h2⟩
    ·exact .inl (.step h hS hu)
    ·exact .inr ⟨h1,.step h2 hS hu⟩
   ·rcases ih with h|⟨h1,_⟩
    ·exact .inr ⟨h,.one hu⟩
    ·exact .inr ⟨h1,.one hu⟩
 ·have hm:∀i,S.getLsbD i=true→(Mono.ins S (x:Int)).getLsbD i=true:=fun i hi=>(bE S hx).2 (.inl hi)
  rintro (h|⟨h1,h2⟩)
  ·exact h.mono hm
  ·exact (h1.mono hm).cat ((bE S hx).2 (.inr rfl)) (h2.mono hm)
theorem Via.inn {V:BS}(hV:∀i j:Nat,(nb (i:Int)).getLsbD j=true→V.getLsbD j=true)(h:Via nb S a b):V.getLsbD b=true:=by
 cases h with
 | one h=>exact hV _ _ h
 | step _ _ hu=>exact hV _ _ hu
end
def rn (nb:Int→BS)(S:BS)(v:Nat):Int:=(card (reB nb S (v:Int)):Nat)
def dA (nb:Int→BS):BS→List Nat→Int
 | _,[] => -1
 | S,v::r=>max (rn nb S v) (dA nb (ins S (v:Int)) r)
def rsS (nb:Int→BS)(R:BS→Int)(S:BS)(best:Int)(v:Nat):Int:=if rn nb S v<best then min best (max (rn nb S v) (R (ins S (v:Int)))) else best
def rsF (nb:Int→BS)(all:BS):Nat→BS→Int
 | 0,_ => -1
 | f+1,S=>(ai (all &&& ~~~S)).foldl (rsS nb (rsF nb all f) S) 12
def rsR (nb:Int→BS)(all S:BS):Int:=rsF nb all (card (all &&& ~~~S)) S
section
variable {nb:Int→BS}{all S:BS}{v:Nat}
theorem iQ (hv:v<1024)(i:Nat):(all &&& ~~~(ins S (v:Int))).getLsbD i=true↔(all &&& ~~~S).getLsbD i=true∧i≠v:=by
 rw[br,br,bE S hv]
 exact⟨fun⟨h1,h2⟩=>⟨⟨h1,fun h=>h2 (.inl h)⟩,fun h=>h2 (.inr h)⟩,fun⟨⟨h1,h2⟩,h3⟩=>⟨h1,fun h=>h.elim h2 h3⟩⟩
theorem iR (hv:(all &&& ~~~S).getLsbD v=true):card (all &&& ~~~S)=card (all &&& ~~~(ins S (v:Int)))+1:=by
 have hv':=aA hv
 have h1:card (ins (0:BS) (v:Int))=1:=gP (p:=v) fun i=>by
  rw[bE 0 hv'];exact⟨fun h=>h.elim (fun h=>absurd h (aU i)) id,.inr⟩
 rw[jV (S:=all &&& ~~~(ins S (v:Int))) (T:=ins 0 (v:Int)) (U:=all &&& ~~~S),h1]
 ·intro i
  rw[iQ hv',bE 0 hv']
  constructor
  ·intro h
   by_cases hi:i=v
   ·exact .inr (.inr hi)
   ·exact .inl ⟨h,hi⟩
  ·rintro (h|h|rfl)
   ·exact h.1
   ·exact absurd h (aU i)
   ·exact hv
 ·rintro i ⟨h1,h2⟩
  rw[iQ hv'] at h1
  rw[bE 0 hv'] at h2
  rcases h2 with h|h
  ·exact aU i h
  ·exact h1.2 h
theorem rA {α β:Type}{f g:β→α→β}:∀{l:List α} {z:β},(∀a∈l,∀b,f b a=g b a)→l.foldl f z=l.foldl g z
 | [],_,_=>rfl
 | a::l,z,h=>by rw[List.foldl_cons,List.foldl_cons,h a (by simp),rA fun a ha=>h a (by simp[ha])]
theorem jZ (hv:(all &&& ~~~S).getLsbD v=true):rsR nb all S=(ai (all &&& ~~~S)).foldl (rsS nb (rsR nb all) S) 12:=by
 unfold rsR
 rw[iR hv,rsF]
 refine rA fun a ha b=>?_
 have ha:=(aD.1 ha).2
 have h1:=iR hv
 have h2:=iR ha
 unfold rsS
 rw[show card (all &&& ~~~(ins S (v:Int)))=card (all &&& ~~~(ins S (a:Int))) by omega]
theorem mF (h:∀i,¬(all &&& ~~~S).getLsbD i=true):rsR nb all S = -1:=by
 have:card (all &&& ~~~S)=0:=Classical.byContradiction fun hn=>by
  have:=iP
  have h0:(all &&& ~~~S)=0:=cG fun k=>⟨fun hk=>absurd hk (h k),fun hk=>absurd hk (aU k)⟩
  rw[h0] at hn;exact hn this
 rw[rsR,this];rfl
theorem zw {R:BS→Int}{b:Int}:rsS nb R S b v≤b∧rsS nb R S b v≤max (rn nb S v) (R (ins S (v:Int))):=by
 unfold rsS;split <;> omega
theorem zx {R:BS→Int}{b:Int}:rsS nb R S b v=b∨rsS nb R S b v=max (rn nb S v) (R (ins S (v:Int))):=by
 unfold rsS;split <;> omega
theorem mG {R:BS→Int}:∀(l:List Nat) (b:Int),l.foldl (rsS nb R S) b≤b∧∀v∈l,l.foldl (rsS nb R S) b≤max (rn nb S v) (R (ins S (v:Int)))
 | [],b=>⟨Int.le_refl _,fun v hv=>by cases hv⟩
 | x::l,b=>by
  obtain⟨h1,h2⟩:=mG (R:=R) l (rsS nb R S b x)
  have h3:=zw (nb:=nb) (S:=S) (v:=x) (R:=R) (b:=b)
  rw[List.foldl_cons]
  refine⟨by omega,fun v hv=>?_⟩
  rcases List.mem_cons.1 hv with rfl|hv
  ·omega
  ·exact h2 v hv
theorem mH {R:BS→Int}:∀(l:List Nat) (b:Int),l.foldl (rsS nb R S) b=b∨∃v∈l,l.foldl (rsS nb R S) b=max (rn nb S v) (R (ins S (v:Int)))
 | [],b=>.inl rfl
 | x::l,b=>by
  rw[List.foldl_cons]
  rcases mH (R:=R) l (rsS nb R S b x) with h|⟨v,hv,h⟩
  ·rw[h]
   rcases zx (nb:=nb) (S:=S) (v:=x) (R:=R) (b:=b) with h'|h'
   ·exact .inl h'
   ·exact .inr ⟨x,by simp,h'⟩
  ·exact .inr ⟨v,by simp[hv],h⟩
theorem rB (hv:(all &&& ~~~S).getLsbD v=true):rsR nb all S≤max (rn nb S v) (rsR nb all (ins S (v:Int))):=by
 rw[jZ hv]
 exact (mG _ _).2 v (aD.2 ⟨aA hv,hv⟩)
theorem zy (S:BS) : -1≤rsR nb all S∧rsR nb all S≤12:=by
 by_cases hex:∃v,(all &&& ~~~S).getLsbD v=true
 ·obtain⟨v,hv⟩:=hex
  rw[jZ hv]
  have h1:=(mG (nb:=nb) (S:=S) (R:=rsR nb all) (ai (all &&& ~~~S)) 12).1
  rcases mH (nb:=nb) (S:=S) (R:=rsR nb all) (ai (all &&& ~~~S)) 12 with h|⟨u,_,h⟩
  ·omega
  ·have:0≤rn nb S u:=by unfold rn;omega
   omega
 ·rw[mF fun i hi=>hex ⟨i,hi⟩];omega
def Sml (nb:Int→BS)(all:BS):Prop:=∀(S:BS) (v:Nat),all.getLsbD v=true→rn nb S v<12
theorem zz {V:BS}(hV:∀i j:Nat,(nb (i:Int)).getLsbD j=true→V.getLsbD j=true)(hc:card V≤12)(ha:∀i,all.getLsbD i=true→V.getLsbD i=true):Sml nb all:=fun S v hv=>by
 have hv':=aA hv
 have h1:card (reB nb S (v:Int))<card V:=ei (z:=v) (fun i hi=>((jY hv').1 hi).1.inn hV) (ha v hv) fun h=>((jY hv').1 h).2.2 rfl
 unfold rn;omega
theorem zA (hs:Sml nb all):∀(n:Nat) (S:BS),card (all &&& ~~~S)=n→rsR nb all S<12 ∧ -1≤rsR nb all S∧∀v,(all &&& ~~~S).getLsbD v=true→∃v,(all &&& ~~~S).getLsbD v=true∧rsR nb all S=max (rn nb S v) (rsR nb all (ins S (v:Int))):=by
 intro n
 induction n with
 | zero=>
  intro S hc
  have hno:∀i,¬(all &&& ~~~S).getLsbD i=true:=fun i hi=>by have:=jX hi;omega
  rw[mF hno]
  exact⟨by omega,by omega,fun v hv=>absurd hv (hno v)⟩
 | succ n ih=>
  intro S hc
  have hex:∃v,(all &&& ~~~S).getLsbD v=true:=Classical.byContradiction fun hn=>by
   have h0:(all &&& ~~~S)=0:=cG fun k=>⟨fun hk=>absurd ⟨k,hk⟩ hn,fun hk=>absurd hk (aU k)⟩
   rw[h0,iP] at hc;cases hc
  obtain⟨v,hv⟩:=hex
  have lt:∀v,(all &&& ~~~S).getLsbD v=true→max (rn nb S v) (rsR nb all (ins S (v:Int)))<12:=fun v hv=>by
   have h1:=hs S v ((br _ _ _).1 hv).1
   have h2:=(ih (ins S (v:Int)) (by have:=iR hv;omega)).1
   omega
  have hm:rsR nb all S<12:=by have:=rB (nb:=nb) hv;have:=lt v hv;omega
  have hw:∃v,(all &&& ~~~S).getLsbD v=true∧rsR nb all S=max (rn nb S v) (rsR nb all (ins S (v:Int))):=by
   rcases mH (nb:=nb) (S:=S) (R:=rsR nb all) (ai (all &&& ~~~S)) 12 with h|⟨u,hu,h⟩
   ·rw[← jZ hv] at h;omega
   ·rw[← jZ hv] at h;exact⟨u,(aD.1 hu).2,h⟩
  refine⟨hm,?_,fun _ _=>hw⟩
  obtain⟨u,_,h⟩:=hw
  have:0≤rn nb S u:=by unfold rn;omega
  omega
theorem mI:∀(l:List Nat) (S:BS),l.Nodup→(∀i,i∈l↔(all &&& ~~~S).getLsbD i=true)→rsR nb all S≤dA nb S l
 | [],S,_,h=>by rw[mF fun i hi=>by have:=(h i).2 hi;cases this];exact Int.le_refl _
 | v::r,S,hn,h=>by
  have hv:=(h v).1 (by simp)
  have hv':=aA hv
  obtain⟨h1,h2⟩:=List.nodup_cons.1 hn
  have h3:=mI r (ins S (v:Int)) h2 fun i=>by
   rw[iQ hv',← h i,List.mem_cons]
   constructor
   ·intro hi;exact⟨.inr hi,fun e=>h1 (e▸hi)⟩
   ·rintro⟨rfl|hi,hne⟩
    ·exact absurd rfl hne
    ·exact hi
  have h4:=rB (nb:=nb) hv
  rw[dA];omega
def nxt (nb:Int→BS)(all:BS)(W:Int)(S:BS):Option Nat:=(ai (all &&& ~~~S)).find? fun v=>decide (max (rn nb S v) (rsR nb all (ins S (v:Int)))≤W)
def oL (o:Option Nat)(g:Nat→List Nat):List Nat:=match o with
 | none=>[]
 | some k=>g k
def grF (nb:Int→BS)(all:BS)(W:Int):Nat→BS→List Nat
 | 0,_=>[]
 | f+1,S=>oL (nxt nb all W S) fun v=>v::grF nb all W f (ins S (v:Int))
theorem zB {W:Int}{f v:Nat}(h:nxt nb all W S=some v):grF nb all W (f+1) S=v::grF nb all W f (ins S (v:Int)):=by
 show oL (nxt nb all W S) _=_
 rw[h];rfl
theorem zC {W:Int}{v:Nat}(h:nxt nb all W S=some v):(all &&& ~~~S).getLsbD v=true∧rn nb S v≤W∧rsR nb all (ins S (v:Int))≤W:=by
 have h1:=List.find?_some h
 have h2:=List.mem_of_find?_eq_some h
 simp only[decide_eq_true_eq] at h1
 exact⟨(aD.1 h2).2,by omega,by omega⟩
theorem zD {W:Int}(hs:Sml nb all)(hW:rsR nb all S≤W){u:Nat}(hu:(all &&& ~~~S).getLsbD u=true):∃v,nxt nb all W S=some v:=by
 obtain⟨v,hv,h⟩:=(zA hs _ S rfl).2.2 u hu
 cases hq:nxt nb all W S with
 | some v=>exact⟨v,rfl⟩
 | none=>
  have:=List.find?_eq_none.1 hq v (aD.2 ⟨aA hv,hv⟩)
  simp only[decide_eq_true_eq] at this
  omega
theorem zF {W:Int}(hs:Sml nb all)(hW0 : -1≤W):∀(f:Nat) (S:BS),card (all &&& ~~~S)=f→rsR nb all S≤W →
  (grF nb all W f S).Nodup∧(∀i,i∈grF nb all W f S↔(all &&& ~~~S).getLsbD i=true)∧dA nb S (grF nb all W f S)≤W:=by
 intro f
 induction f with
 | zero=>
  intro S hc hW
  have hno:∀i,¬(all &&& ~~~S).getLsbD i=true:=fun i hi=>by have:=jX hi;omega
  exact⟨List.nodup_nil,fun i=>⟨fun h=>(nomatch h),fun h=>absurd h (hno i)⟩,hW0⟩
 | succ f ih=>
  intro S hc hW
  have hex:∃v,(all &&& ~~~S).getLsbD v=true:=Classical.byContradiction fun hn=>by
   have h0:(all &&& ~~~S)=0:=cG fun k=>⟨fun hk=>absurd ⟨k,hk⟩ hn,fun hk=>absurd hk (aU k)⟩
   rw[h0,iP] at hc;cases hc
  obtain⟨u,hu⟩:=hex
  obtain⟨v,hv⟩:=zD hs hW hu
  obtain⟨h1,h2,h3⟩:=zC hv
  have hv':=aA h1
  have hcd:=iR h1
  obtain⟨k1,k2,k3⟩:=ih (ins S (v:Int)) (by omega) h3
  rw[zB hv]
  refine⟨List.nodup_cons.2 ⟨fun h=>((iQ hv' v).1 ((k2 v).1 h)).2 rfl,k1⟩,fun i=>?_,?_⟩
  ·rw[List.mem_cons,k2 i,iQ hv']
   constructor
   ·rintro (rfl|h)
    ·exact h1
    ·exact h.1
   ·intro h
    by_cases hi:i=v
    ·exact .inl hi
    ·exact .inr ⟨h,hi⟩
  ·rw[dA];omega
end
end Go.Mono
namespace Go.Mono
open Go Go.Proofs Go.RowKit Go.ChangeShapes Go.WideShapes

theorem rC:Tryz.prog.cellsOf 3=1:=by kernel_rfl
def ofW (f:Nat→BitVec 64):Nat→BS
 | 0=>0
 | n+1=>ofW f n ||| ((f n).setWidth 1024 <<< (64 * n))
theorem zG (x:BitVec 64)(n i:Nat)(hi:i<16)(hn:n<16):am (x.setWidth 1024 <<< (64 * n)) i=if i=n then x else 0:=by
 refine BitVec.eq_of_getLsbD_eq fun j hj=>?_
 rw[dK _ _ _ hj]
 have e:(x.setWidth 1024 <<< (64 * n)).getLsbD (64 * i+j)=(decide (64 * i+j<1024) && !decide (64 * i+j<64 * n)&&(x.setWidth 1024).getLsbD (64 * i+j - 64 * n)):=BitVec.getLsbD_shiftLeft _ _
 rw[e,BitVec.getLsbD_setWidth]
 by_cases h:i=n
 ·subst h
  have h1:64 * i+j - 64 * i=j:=by omega
  have h2:64 * i+j<1024:=by omega
  have h3:¬64 * i+j<64 * i:=by omega
  have h4:j<1024:=by omega
  simp only[h1,h2,h3,h4,decide_true,decide_false,Bool.not_false,Bool.true_and,if_true]
 ·rw[if_neg h]
  by_cases h3:i<n
  ·have:64 * i+j<64 * n:=by omega
   simp[this]
  ·have h5:64≤64 * i+j - 64 * n:=by omega
   have:x.getLsbD (64 * i+j - 64 * n)=false:=BitVec.getLsbD_of_ge _ _ h5
   simp[this]
theorem rD (f:Nat→BitVec 64):∀n,n≤16→∀i,i<16→am (ofW f n) i=if i<n then f i else 0
 | 0,_,i,hi=>by rw[ofW,lC];simp
 | n+1,hn,i,hi=>by
  rw[ofW,lB,rD f n (by omega) i hi,zG _ _ _ hi (by omega)]
  by_cases h1:i=n
  ·subst h1;simp
  ·by_cases h2:i<n
   ·rw[if_pos h2,if_neg h1,if_pos (by omega)];simp
   ·rw[if_neg h2,if_neg h1,if_neg (by omega)];simp
theorem zH (f:Nat→BitVec 64):aJ (ofW f 16)=bh f:=dY fun i hi=>by rw[rD f 16 (Nat.le_refl _) i hi,if_pos hi]

section
variable {H:Type}{enc:TypeId×Value→H}{w:World}{base:Nat}{spare:Nat→Bool}{held:Bool}
end
end Go.Mono
namespace Go.Mono
open Go Go.Proofs Go.RowKit
theorem rE {α β:Type}{f:α→Option β}:∀{l:List α},(∀x∈l,∃y,f x=some y)→∃ys,l.mapM f=some ys
 | [],_=>⟨[],rfl⟩
 | x::l,h=>by
  obtain⟨y,hy⟩:=h x (by simp)
  obtain⟨ys,hys⟩:=rE (l:=l) fun z hz=>h z (by simp[hz])
  exact⟨y::ys,by simp[List.mapM_cons,hy,hys]⟩
theorem rF {α β:Type}{f:α→Option β}:∀{l:List α} {ys:List β},l.mapM f=some ys→∀x∈l,∃y,f x=some y
 | [],_,_,x,hx=>by cases hx
 | a::l,ys,h,x,hx=>by
  rw[List.mapM_cons] at h
  cases hfa:f a with
  | none=>rw[hfa] at h;cases h
  | some y=>
   rw[hfa] at h
   cases hl:l.mapM f with
   | none=>rw[hl] at h;cases h
   | some zs=>
    rcases List.mem_cons.1 hx with rfl|hx
    ·exact⟨y,hfa⟩
    ·exact rF hl x hx
theorem zI:Tryz.prog.keyType 76=true:=by kernel_rfl
theorem mJ:Tryz.prog.cellsOf 76=16:=by kernel_rfl
theorem rG:Tryz.prog.cellsOf 74=1:=by kernel_rfl
theorem zJ:(76:TypeId)<Tryz.prog.types.size:=of_decide_eq_true (by kernel_rfl)
theorem zK:Tryz.prog.keyTypeAt 2 76=true:=by kernel_rfl
theorem zL:WideMaps.KeyLaw Tryz.prog 76:=by
 have h1:2+1≤10000:=by omega
 refine deep_law_laid laidOut (m:=2) h1 zJ zK ?_
 rw[U76]
theorem zM (x:BitVec 64):(Lit.int .u64 (x.toNat:Int)).wf=true:=by
 have h1:IntKind.u64.min=0:=by decide
 have h2:IntKind.u64.max=18446744073709551615:=by decide
 simp only[Lit.wf,h1,h2,Bool.and_eq_true,decide_eq_true_eq]
 omega
theorem zN {z:Int}(h:(Lit.int .u64 z).wf=true):Value.int .u64 z=Mono.W (BitVec.ofNat 64 z.toNat):=by
 have h1:IntKind.u64.min=0:=by decide
 have h2:IntKind.u64.max=18446744073709551615:=by decide
 simp only[Lit.wf,h1,h2,Bool.and_eq_true,decide_eq_true_eq] at h
 rw[Mono.W,BitVec.toNat_ofNat,Nat.mod_eq_of_lt (by omega),Int.toNat_of_nonneg h.1]
theorem zO (S:BS):∃L,Tryz.prog.keyLits (Tryz.prog.types.size+1) 76 (aJ S).toList=some L:=by
 have hl:(aJ S).toList.length=16:=by rw[Array.length_toList,bc]
 have hm:∃ys,(List.range 16).mapM (fun i=>Tryz.prog.keyLits Tryz.prog.types.size 74 (((aJ S).toList.drop (i * Tryz.prog.cellsOf 74)).take (Tryz.prog.cellsOf 74)))=some ys:=by
  refine rE fun i hi=>?_
  have hi:=List.mem_range.1 hi
  have hc:((aJ S).toList.drop (i * Tryz.prog.cellsOf 74)).take (Tryz.prog.cellsOf 74)=[W (am S i)]:=by
   rw[rG,Nat.mul_one]
   refine List.ext_getElem? fun j=>?_
   rw[List.getElem?_take]
   cases j with
   | zero=>
    rw[if_pos (by omega),List.getElem?_drop,Array.getElem?_toList]
    exact cp _ i hi
   | succ j=>rw[if_neg (by omega)];rfl
  rw[hc,jL]
  refine⟨[.int .u64 ((am S i).toNat:Int)],?_⟩
  unfold Program.keyLits
  simp only[U74,W]
  rw[if_pos ⟨trivial,zM _⟩]
 obtain⟨ys,hy⟩:=hm
 unfold Program.keyLits
 simp only[U76]
 rw[if_pos (by rw[hl,mJ]),hy]
 exact⟨_,rfl⟩
theorem mK (S:BS):∃l,keyOf Tryz.prog 76 (ae S)=some l:=by
 obtain⟨L,hL⟩:=zO S
 refine⟨.string (keyBytes L),?_⟩
 have hf:(ae S).formed Tryz.prog 76=true:=by
  simp only[ae,Value.formed,U76,mJ,bc];rfl
 unfold keyOf
 simp only[U76]
 rw[zI,hf]
 have hc:(ae S).cells=aJ S:=rfl
 rw[hc,hL]
 rfl
theorem zP {v:Value}{l:Lit}(h:keyOf Tryz.prog 76 v=some l):∃S,v=ae S:=by
 obtain⟨xs,L,rfl,hL,_⟩:=keyOf_top (by simp[U76]) h
 unfold Program.keyLits at hL
 simp only[U76] at hL
 split at hL
 ·rename_i hlen
  rw[mJ,Array.length_toList] at hlen
  cases hq:(List.range 16).mapM (fun i=>Tryz.prog.keyLits Tryz.prog.types.size 74 ((xs.toList.drop (i * Tryz.prog.cellsOf 74)).take (Tryz.prog.cellsOf 74))) with
  | none=>rw[hq] at hL;cases hL
  | some ys=>
   have hw:∀i,i<16→∃y:BitVec 64,xs[i]?=some (W y):=by
    intro i hi
    obtain⟨y,hy⟩:=rF hq i (List.mem_range.2 hi)
    obtain⟨x,hx⟩:∃x,xs[i]?=some x:=⟨_,Array.getElem?_eq_getElem (by omega)⟩
    have hc:(xs.toList.drop (i * Tryz.prog.cellsOf 74)).take (Tryz.prog.cellsOf 74)=[x]:=by
     rw[rG,Nat.mul_one]
     refine List.ext_getElem? fun j=>?_
     rw[List.getElem?_take]
     cases j with
     | zero=>
      rw[if_pos (by omega),List.getElem?_drop,Array.getElem?_toList]
      exact hx
     | succ j=>rw[if_neg (by omega)];rfl
    rw[hc,jL] at hy
    unfold Program.keyLits at hy
    simp only[U74] at hy
    cases x with
    | int q z=>
     simp only at hy
     split at hy
     ·rename_i hwf
      obtain⟨rfl,h2⟩:=hwf
      exact⟨_,by rw[hx,zN h2]⟩
     ·cases hy
    | _=>cases hy
   obtain⟨f,hf⟩:∃f:Nat→BitVec 64,∀i,i<16→xs[i]?=some (W (f i)):=⟨fun i=>if h:i<16 then Classical.choose (hw i h) else 0,fun i hi=>by
    simp only
    rw[dif_pos hi];exact Classical.choose_spec (hw i hi)⟩
   refine⟨ofW f 16,?_⟩
   rw[ae,zH]
   refine congrArg Value.agg (Array.ext_getElem? fun i=>?_)
   by_cases hi:i<16
   ·rw[hf i hi,cp _ _ hi]
   ·rw[Array.getElem?_eq_none (by omega),Array.getElem?_eq_none (by rw[eX];omega)]
 ·cases hL
noncomputable def kKV:KV Tryz.prog BS Int where
 k:=76
 e:=3
 kv:=ae
 kl:=fun S=>Classical.choose (mK S)
 ok:=fun _=>True
 mv:=fun c=>.int .i64 c
 dv:=fun c=>.lit (.int .i64 c)
 okv:=fun c=>(Lit.int .i64 c).wf=true
 R:=plainElem Tryz.prog 3
 K:=Maps.Keyed.of_law zL
 key:=fun S _=>Classical.choose_spec (mK S)
 keyInv:=fun v l h=>by
  obtain⟨S,rfl⟩:=zP h
  exact⟨S,trivial,rfl,Option.some.inj (h.symm.trans (Classical.choose_spec (mK S)))⟩
 kvInj:=fun x y h=>ox (by injection h)
 val:=fun c hc=>plainElem_int U3 hc
 valInv:=fun v y h=>by
  obtain⟨c,h1,h2,h3⟩:=plainElem_int_inv U3 h
  exact⟨c,h3,h1,h2⟩
 dvInj:=fun c c' h=>by cases h;rfl

theorem MpR.tight {P:Program}{α β:Type}{V:KV P α β}{w:World}{b n:Nat}{l:List (α×β)}(h:MpR V w b n l):MpR V w b l.length l:=by
 obtain⟨es,⟨es',clock,h1,h2,h3,h4⟩,hp,h5,h6⟩:=h
 refine⟨es,⟨es',clock,h1,h2,?_,h4⟩,hp,h5,h6⟩
 have hf:∀m:List (Lit×DataW Unit),(m.foldr DataW.insert []).length=m.length:=by
  intro m
  induction m with
  | nil=>rfl
  | cons x m ih=>rw[List.foldr_cons,(iE x _).length_eq,List.length_cons,List.length_cons,ih]
 injection h4 with h4
 have h7:=congrArg List.length h4
 rw[hf,List.length_map] at h7
 have h8:es'.toList.length=es'.size:=Array.length_toList
 have h9:=hp.length_eq
 rw[List.length_map] at h9
 omega
def Mm (nb:Int→BS)(all:BS)(bm:Nat)(w:World):Prop:=
 ∃l,MpR kKV w bm l.length l∧(all,(-1:Int))∈l∧∀p∈l,p.2=rsR nb all p.1∧∀i,p.1.getLsbD i=true→all.getLsbD i=true
section
variable {nb:Int→BS}{all:BS}{bm:Nat}{w w':World}
theorem Mm.lt (h:Mm nb all bm w):bm<w.heap.size:=by obtain⟨l,h1,_⟩:=h;exact h1.lt
theorem Mm.pres (h:Mm nb all bm w)(hb:w'.heap[bm]?=w.heap[bm]?):Mm nb all bm w':=by obtain⟨l,h1,h2⟩:=h;exact⟨l,h1.pres hb,h2⟩
theorem Mm.ext (h:Mm nb all bm w)(e:Ext w w'):Mm nb all bm w':=h.pres (e.block bm h.lt)
theorem Mm.gr {b:Nat}(h:Mm nb all bm w)(hg:w.grownBy w' (some b))(hb:bm≠b):Mm nb all bm w':=h.pres (hg.block bm h.lt (fun e=>hb (by cases e;rfl)))
theorem Mm.kp {B:Nat}(h:Mm nb all bm w)(k:Kp B w w')(hb:bm<B):Mm nb all bm w':=h.pres (k.same bm h.lt fun hh=>by have:=hh.1;omega)
end
section
variable {G G':Nat→Prop}{l0:List (Int×BS)}{all:BS}{b1 b2 b3 b4 bm:Nat}{nv:Value}{w w':World}
end
theorem Chg.kp {S:Nat→Prop}{B:Nat}{W w w':World}(c:Chg S W w)(k:Kp B w w')(h:W.heap.size≤B):Chg S W w':=c.tr2 k.chg fun b hb=>.inr (by have:=hb.1;omega)
theorem Kh.chg {B:Nat}{S:Nat→Prop}{w w':World}(c:Chg S w w')(h:∀b,S b→¬aW B b):Kh B w w':=⟨c.size,fun b hb hh=>c.block b hb fun hs=>h b hs hh⟩
theorem Mm.put {nb:Int→BS}{all S:BS}{bm n:Nat}{l:List (BS×Int)}{w:World}(h:MpR kKV w bm n (aV l S (rsR nb all S)))(hal:(all,(-1:Int))∈l)(hl:∀p∈l,p.2=rsR nb all p.1∧∀i,p.1.getLsbD i=true→all.getLsbD i=true)(hne:S≠all)(hS:∀i,S.getLsbD i=true→all.getLsbD i=true):Mm nb all bm w:=by
 refine⟨_,h.tight,?_,?_⟩
 ·rw[aV]
  exact List.mem_cons_of_mem _ (List.mem_filter.2 ⟨hal,by rw[decide_eq_false (show ¬(all,(-1:Int)).1=S from fun e=>hne e.symm)];rfl⟩)
 ·intro p hp
  rw[aV] at hp
  rcases List.mem_cons.1 hp with rfl|hp
  ·exact⟨by dsimp only,hS⟩
  ·exact hl p (List.mem_filter.1 hp).1
end Go.Mono
namespace Go.MonoD
open Go Go.RowKit Go.Mono
structure Ext (w w':World):Prop extends Below w.heap.size w w' where
 drawn:w.drawn≤w'.drawn
theorem Ext.rfl' (w:World):Ext w w:=⟨Below.refl _ _,Nat.le_refl _⟩
theorem Ext.tr {a b c:World}(h:Ext a b)(k:Ext b c):Ext a c:=⟨Below.trans h.toBelow (Below.mono k.toBelow h.size),Nat.le_trans h.drawn k.drawn⟩
instance:Gro Ext:=⟨Ext.rfl',Ext.tr,fun w=>⟨(Below.refl _ _).drew,Nat.le_succ _⟩,fun w o=>⟨(Below.refl _ w).alloc (Nat.le_refl _) o,Nat.le_refl _⟩,fun h=>h.toBelow⟩
abbrev VA:=VAr Ext
abbrev Env:=bj Ext
abbrev E (x:Value):VA:=ER x
abbrev Any:VA:=lc
abbrev Post (A:VA)(w:World):Ending→World→Prop:=fG A w
end Go.MonoD
namespace Go.MonoD
open Go Go.Proofs Go.RowKit Go.Mono
abbrev I (n:Int):Value:=.int .i64 n
theorem Mix.mix:Tryz.prog.follows .mixedOrders=true:=Go.Mono.Mix.mix
theorem T3:TI Tryz.prog 3 false 1:=ti (by decide +kernel)
theorem T73:TI Tryz.prog 73 true 3:=ti (by decide +kernel)
theorem T62:TI Tryz.prog 62 true 4:=ti (by decide +kernel)
def cmpI (x y:Int):Int:=if x<y then -1 else if y<x then 1 else 0
theorem arg1 {A:VA}{v:Value}{w:World}(h:A.p v w):∀(i:Nat) (B:VA),[A][i]?=some B→B.p ([v].getD i undef) w:=fun i B hB=>by
 match i with
 | 0=>simp at hB;subst hB;exact h
 | i+1=>simp at hB
theorem arg2 {A B:VA}{u v:Value}{w:World}(h:A.p u w)(h':B.p v w):∀(i:Nat) (C:VA),[A,B][i]?=some C→C.p ([u,v].getD i undef) w:=fun i C hC=>by
 match i with
 | 0=>simp at hC;subst hC;exact h
 | 1=>simp at hC;subst hC;exact h'
 | i+2=>simp at hC
theorem zQ (x:Int)(W:World):Calls Tryz.prog 127 #[I x] W (Post (E (.bool false)) W):=by
 refine enter (args:=[I x]) (As:=[E (I x)]) Tryz.func127 rfl Tryz.ntmps127 (Nat.le_of_ble_eq_true rfl) ?_ (fun a hf=>?_) (Nat.le_of_ble_eq_true rfl)
 rotate_left
 rotate_right
 ·exact arg1 rfl
 have e:=Ext.rfl' W
 refine seq <| ac <| aC hf rfl (by decide) fun a hf=>aa <| seq <| az 3 hf (by decide +kernel) <| st (mv rfl) <| st (mv rfl) <| st ((neq rfl rfl).eq (congrArg Value.bool ((show (x != x)=false by simp)))) <| en fun a w e' hf=>?_
 replace e:=e.tr e'
 refine aC hf rfl (by decide) fun a hf=>aa <| ak <| an rfl hf rfl ?_
 rintro _ rfl
 exact⟨_,rfl,e,rfl⟩
theorem rH (x:Int)(v:Value)(w:World)(h:(E (I x)).p v w):Calls Tryz.prog 127 #[v] w (Post (E (.bool false)) w):=by cases h;exact zQ x w
theorem zR (x y:Int)(W:World):Calls Tryz.prog 92 #[I x,I y] W (Post (E (I (cmpI x y))) W):=by
 refine enter (args:=[I x,I y]) (As:=[E (I x),E (I y)]) Tryz.func92 rfl Tryz.ntmps92 (Nat.le_of_ble_eq_true rfl) ?_ (fun a hf=>?_) (Nat.le_of_ble_eq_true rfl)
 rotate_left
 rotate_right
 ·exact arg2 rfl rfl
 have e:=Ext.rfl' W
 refine seq <| ac <| aC hf rfl (by decide) fun a hf=>aa <| seq <| az 2 hf (by decide +kernel) <| st (mv rfl) <| st (aw Mono.En127 rfl (fun v w he h=>rH x v w h)) <| en fun a w e' hf=>?_
 replace e:=e.tr e'
 refine aC hf rfl (by decide) fun a hf=>aa <| seq <| az 2 hf (by decide +kernel) <| st (mv rfl) <| st (aw Mono.En127 rfl (fun v w he h=>rH y v w h)) <| en fun a w e' hf=>?_
 replace e:=e.tr e'
 refine aC hf rfl (by decide) fun a hf=>aa ?_
 refine seq <| seq ?_
 refine az 1 hf (by decide +kernel) <| st (mv rfl) <| en fun a w e' hf=>?_
 replace e:=e.tr e'
 refine aa <| ifF hf rfl ?_
 refine aj ?_
 refine seq <| seq ?_
 refine az 1 hf (by decide +kernel) <| st (mv rfl) <| en fun a w e' hf=>?_
 replace e:=e.tr e'
 refine aa <| ifF hf rfl ?_
 refine aj ?_
 refine seq <| seq ?_
 refine az 3 hf (by decide +kernel) <| st (mv rfl) <| st (mv rfl) <| st (lss rfl rfl) <| en fun a w e' hf=>?_
 replace e:=e.tr e'
 refine aa <| ifc hf rfl (fun hb=>?_) (fun hb=>?_)
 ·refine seq <| ac <| aC hf rfl (by decide) fun a hf=>aa <| ak <| an rfl hf rfl ?_
  rintro _ rfl
  exact⟨_,rfl,e,congrArg I (by rw[cmpI,if_pos (of_decide_eq_true hb)])⟩
 ·refine aj ?_
  refine seq <| seq ?_
  refine az 3 hf (by decide +kernel) <| st (mv rfl) <| st (mv rfl) <| st (gtr rfl rfl) <| en fun a w e' hf=>?_
  replace e:=e.tr e'
  refine aa ?_
  have hb1:=of_decide_eq_false hb
  refine ifc hf rfl (fun hb=>?_) (fun hb=>?_)
  ·refine seq <| ac <| aC hf rfl (by decide) fun a hf=>aa <| ak <| an rfl hf rfl ?_
   rintro _ rfl
   exact⟨_,rfl,e,congrArg I (by rw[cmpI,if_neg hb1,if_pos (of_decide_eq_true hb)])⟩
  ·refine aj <| seq <| ac <| aC hf rfl (by decide) fun a hf=>aa <| ak <| an rfl hf rfl ?_
   rintro _ rfl
   exact⟨_,rfl,e,congrArg I (by rw[cmpI,if_neg hb1,if_neg (of_decide_eq_false hb)])⟩
theorem kb (x y:Int)(v u:Value)(w:World)(h:(E (I x)).p v w)(h':(E (I y)).p u w):Calls Tryz.prog 92 #[v,u] w (Post (E (I (cmpI x y))) w):=by cases h;cases h';exact zR x y w
theorem Ext.grown {W w:World}(e:Ext W w):∃q os,w=Sort.grow (W.drewN q) os:=by
 refine⟨w.drawn - W.drawn,w.heap.extract W.heap.size w.heap.size,?_⟩
 have hh:w.heap=W.heap++w.heap.extract W.heap.size w.heap.size:=by
  apply Array.ext_getElem?
  intro i
  rw[Array.getElem?_append]
  split
  ·rename_i h;exact e.block i h
  ·rename_i h
   rw[Array.getElem?_extract]
   by_cases hi:i<w.heap.size
   ·have e1:W.heap.size+(i - W.heap.size)=i:=by omega
    rw[if_pos (by omega),e1]
   ·rw[if_neg (by omega)]
    simp only[Array.getElem?_eq_none_iff];omega
 have hd:W.drawn+(w.drawn - W.drawn)=w.drawn:=by have:=e.drawn;omega
 cases w
 simp only at hh hd
 have ho:=e.os;have ht:=e.tape;have hp:=e.output
 simp only at ho ht hp
 simp only[Sort.grow,World.drewN,World.mk.injEq]
 exact⟨hh,ht,hd.symm,ho,hp⟩
theorem cmpV_spec (x y:Int×Int×Int)(W:World):Calls Tryz.prog 91 #[.agg #[.int .i64 x.1,.int .u8 x.2.1,.int .i64 x.2.2],.agg #[.int .i64 y.1,.int .u8 y.2.1,.int .i64 y.2.2]] W (Post (E (I (cmpI x.1 y.1))) W):=by
 refine enter (args:=[.agg #[.int .i64 x.1,.int .u8 x.2.1,.int .i64 x.2.2],.agg #[.int .i64 y.1,.int .u8 y.2.1,.int .i64 y.2.2]]) (As:=[E (.agg #[.int .i64 x.1,.int .u8 x.2.1,.int .i64 x.2.2]),E (.agg #[.int .i64 y.1,.int .u8 y.2.1,.int .i64 y.2.2])]) Tryz.func91 rfl Tryz.ntmps91 (Nat.le_of_ble_eq_true rfl) ?_ (fun a hf=>?_) (Nat.le_of_ble_eq_true rfl)
 rotate_left
 rotate_right
 ·exact arg2 rfl rfl
 have e:=Ext.rfl' W
 refine seq <| ac <| fK hf rfl (by decide) fun a b2 w v2 hv2 e' hb2 hs2 B2 hf=>?_
 replace e:=e.tr e'
 refine fK hf rfl (by decide) fun a b3 w v3 hv3 e' hb3 hs3 B3 hf=>?_
 replace e:=e.tr e'
 replace B2:=B2.ext e'.toBelow
 refine aC hf rfl (by decide) fun a hf=>aa ?_
 cases hv2;cases hv3
 refine seq <| az 5 hf (by decide +kernel) <| st (bQ Tryz.underlying73 rfl T3 (by decide) rfl) <| st (ld1 T3 rfl B2 rfl) <| st (bQ Tryz.underlying73 rfl T3 (by decide) rfl) <| st (ld1 T3 rfl B3 rfl) <| st (ap Mono.En92 rfl rfl (fun v u w he h h'=>kb x.1 y.1 v u w h h')) <| en fun a w e' hf=>?_
 replace e:=e.tr e'
 replace B2:=B2.ext e'.toBelow
 replace B3:=B3.ext e'.toBelow
 refine aC hf rfl (by decide) fun a hf=>aa <| ak <| an rfl hf rfl ?_
 rintro _ rfl
 exact⟨_,rfl,e,rfl⟩
section
variable {P:Program}{w0:World}{L:Env}{dst:Option Tmp}{ty:TypeId}{pos:String}{aft:Array Edge}{g:Option (Nat×Bool)}{t te:TypeId}{x y:Operand}
def Sl2 (t:TypeId)(p q:Int):VA:=⟨fun v w=>∃b,v=.slice (some ⟨b,0,none⟩) 2 2∧Blk w b #[I p,I q] t,fun v w w' e ⟨b,h1,h2⟩=>⟨b,h1,h2.ext e.toBelow⟩⟩
theorem zS {p q:Int}{bz:Nat}{z0:Value}(ht:P.underlying t=some (.slice te))(hi:(P.info? te).map (fun i=>(i.zero,i.size,i.bytes))=some (some z0,1,bz))(hz0:z0.cells.size=1)(hx:opd L x=some (E (I p)))(hy:opd L y=some (E (I q))) :
  OpC P w0 L ⟨dst,.buildSlice t 2 #[(0,x),(1,y)],ty,pos,aft,g⟩ (Sl2 te p q):=by
 refine⟨fun ρ w he hv=>?_⟩
 have hxv:=opE hv (x:=x) (by simp[Op.operands]) hx
 have hyv:=opE hv (x:=y) (by simp[Op.operands]) hy
 obtain⟨it,hit,hiz,hsz,_⟩:=info_parts hi
 have hfl:=Mono.fill_seq (k:=1) [I p,I q] [[I p],[I q]] 0 [] ((Array.range (2 * 1)).map (z0.cells[· % z0.cells.size]!)) rfl (by simp) (by simp) (by simp) (by simp)
 have hr:=run_buildSlice (P:=P) w t te 2 #[(0,I p),(1,I q)] #[I p,I q] it z0 ht hit hiz (by rw[hsz];omega) (by rw[hsz];omega) (by rw[hsz];exact hfl)
 have hrun:(execOp ρ ⟨dst,.buildSlice t 2 #[(0,x),(1,y)],ty,pos,aft,g⟩).run P w=.ok (.value (.slice (some ⟨w.heap.size,0,none⟩) 2 2)) (w.alloc (.cells #[I p,I q] te)):=by
  simp only[execOp,Sem.run_bind,List.map_toArray,List.map_cons,List.map_nil,hxv,hyv,hr,Result.andThen_ok,Sem.run_pure]
 simp only[OpR,hrun]
 exact⟨Gro.alloc w _,_,rfl,dW w _ _⟩
theorem idxS {b:Nat}{k:Nat}(ht:P.underlying t=some (.slice te))(hs:(P.info? te).map (·.size)=some 1)(hx:opd L x=some (E (.slice (some ⟨b,0,none⟩) 2 2)))(hy:opd L y=some (E (I k)))(hk:k<2) :
  OpC P w0 L ⟨dst,.indexAddr t x y,ty,pos,aft,g⟩ (E (.pointer (some ⟨b,k,none⟩))):=
 aS fun ρ w he hv=>by
  have h:=opE hv (x:=x) (by simp[Op.operands]) hx
  have h2:=opE hv (x:=y) (by simp[Op.operands]) hy
  have hsz:∀w,(sizeOf te).run P w=.ok 1 w:=fun w=>by
   cases hi:P.info? te with
   | none=>simp[hi] at hs
   | some i=>simp[hi] at hs;simp[sizeOf,typeInfo,hi,hs]
  have hi':(k:Int)<2:=by omega
  refine⟨_,?_,rfl⟩
  rcases (show k=0∨k=1 by omega) with rfl|rfl <;> simp[execOp,h,h2,Instr.indexAt,asIntOf,run_underlying ht,hsz,Addr.add]
theorem zT {b:Nat}(ht:P.underlying t=some (.slice te))(hx:opd L x=some (E (.slice (some ⟨b,0,none⟩) 2 2))):OpC P w0 L ⟨dst,.call ⟨.builtin .len,#[x],#[t]⟩,ty,pos,aft,g⟩ (E (I 2)):=
 aS fun ρ w he hv=>by
  have h:=opE hv (x:=x) (by simp[Op.operands,Call.operands]) hx
  exact⟨_,by simp[execOp,resolve,invoke,builtin,Builtin.len_,h,run_underlying ht,goInt],rfl⟩
end
def orI (p q:Int):Int:=if p != 0 then p else q
theorem zU (p q:Int)(b:Nat)(W:World)(hB:Blk W b #[I p,I q] 3):Calls Tryz.prog 135 #[.slice (some ⟨b,0,none⟩) 2 2] W (Post (E (I (orI p q))) W):=by
 refine enter (args:=[.slice (some ⟨b,0,none⟩) 2 2]) (As:=[E (.slice (some ⟨b,0,none⟩) 2 2)]) Tryz.func135 rfl Tryz.ntmps135 (Nat.le_of_ble_eq_true rfl) ?_ (fun a hf=>?_) (Nat.le_of_ble_eq_true rfl)
 rotate_left
 rotate_right
 ·exact arg1 rfl
 have e:=Ext.rfl' W
 refine seq <| ac <| aC hf rfl (by decide) fun a hf=>aa <| seq <| ac <| aC hf rfl (by decide) fun a hf=>aa ?_
 refine seq <| seq ?_
 refine az 3 hf (by decide +kernel) <| st (mv rfl) <| st (zT Tryz.underlying35 rfl) <| st (mv rfl) <| en fun a w e' hf=>?_
 replace e:=e.tr e'
 refine aa ?_
 replace hf:=hf.keep [3,6,7,8]
 refine blk (aK (fun r0 a w=>∃(k:Nat) ,r0=2 - k∧k≤2∧Fr 18 a w [(3,E (I 0)),(6,E (.slice (some ⟨b,0,none⟩) 2 2)),(7,E (I 2)),(8,E (I k))]∧Ext W w∧(k=0∨p=0)∧(k=2→q=0)) 2 ⟨0,rfl,by omega,hf,e,⟨.inl rfl,(fun h=>by cases h)⟩⟩ ?_)
 rintro r0 a w ⟨k,rfl,hk,hf,e,hp⟩
 refine seq <| az 1 hf (by decide +kernel) <| st (lss rfl rfl) <| en fun a w e' hf=>?_
 replace e:=e.tr e'
 refine aa <| seq <| ifc hf rfl (fun hc=>aj ?_) (fun hc=>aH ?_)
 rotate_left
 rotate_left
 ·have hlt:k<2:=by have:=of_decide_eq_true hc;(try dsimp only at this);omega
  replace hf:=hf.keep [3,6,7,8]
  refine seq <| blk ?_
  have hB':=hB.ext e.toBelow
  have hcell:(#[I p,I q]:Array Value)[k]?=some (I (if k=0 then p else q)):=by
   rcases (show k=0∨k=1 by omega) with rfl|rfl <;> rfl
  refine seq <| az 2 hf (by decide +kernel) <| st (idxS Tryz.underlying35 Mono.S3 rfl rfl hlt) <| st (ld1 T3 rfl hB' hcell) <| en fun a w e' hf=>?_
  replace e:=e.tr e'
  refine aC hf rfl (by decide) fun a hf=>aa <| seq <| az 3 hf (by decide +kernel) <| st (mv rfl) <| st (mv rfl) <| st (neq rfl rfl) <| en fun a w e' hf=>?_
  replace e:=e.tr e'
  refine aa <| ifc hf rfl (fun hb=>?_) (fun hb=>?_)
  ·have hb':(if k=0 then p else q)≠0:=by simpa using hb
   have hor:(if k=0 then p else q)=orI p q:=by
    rw[orI]
    rcases (show k=0∨k=1 by omega) with rfl|rfl
    ·simp only[if_true] at hb' ⊢;rw[if_pos (by simpa using hb')]
    ·simp only[Nat.one_ne_zero,if_false] at hb' ⊢;rw[if_neg (by simpa using hp.1)]
   refine seq <| az 1 hf (by decide +kernel) <| st (mv rfl) <| en fun a w e' hf=>?_
   replace e:=e.tr e'
   refine aC hf rfl (by decide) fun a hf=>aa <| ak <| an rfl hf rfl ?_
   rintro _ rfl
   exact⟨_,rfl,e,congrArg I hor⟩
  ·have hb':(if k=0 then p else q)=0:=by simpa using hb
   refine aj <| az 1 hf (by decide +kernel) <| st ((add rfl rfl (by omega)).eq (iN k)) <| en fun a w e' hf=>?_
   replace e:=e.tr e'
   refine lj hf (by decide) (mv rfl) fun a w e' hf=>?_
   replace e:=e.tr e'
   refine aa ?_
   replace hf:=hf.keep [3,6,7,8]
   refine⟨_,?_,k+1,rfl,by omega,hf,e,?_⟩
   ·omega
   rcases (show k=0∨k=1 by omega) with rfl|rfl
   ·exact⟨.inr (by simpa using hb'),fun h=>by cases h⟩
   ·exact⟨.inr (by simpa using hp.1),fun _=>by simpa using hb'⟩
 ·obtain rfl:=dnE hc hk
  refine seq <| az 1 hf (by decide +kernel) <| st (mv rfl) <| en fun a w e' hf=>?_
  replace e:=e.tr e'
  refine aC hf rfl (by decide) fun a hf=>aa <| ak <| an rfl hf rfl ?_
  rintro _ rfl
  exact⟨_,rfl,e,congrArg I (by have h1:p=0:=(by simpa using hp.1);have h2:=hp.2 rfl;rw[orI,h1,h2];rfl)⟩
theorem cmpE_spec (x y:(Int×Int)×(Int×Int))(W:World):Calls Tryz.prog 134 #[.agg #[.int .i64 x.1.1,.int .i64 x.1.2,.int .u8 x.2.1,.int .i64 x.2.2],.agg #[.int .i64 y.1.1,.int .i64 y.1.2,.int .u8 y.2.1,.int .i64 y.2.2]] W (Post (E (I (orI (cmpI x.1.1 y.1.1) (cmpI x.1.2 y.1.2)))) W):=by
 refine enter (args:=[.agg #[.int .i64 x.1.1,.int .i64 x.1.2,.int .u8 x.2.1,.int .i64 x.2.2],.agg #[.int .i64 y.1.1,.int .i64 y.1.2,.int .u8 y.2.1,.int .i64 y.2.2]]) (As:=[E (.agg #[.int .i64 x.1.1,.int .i64 x.1.2,.int .u8 x.2.1,.int .i64 x.2.2]),E (.agg #[.int .i64 y.1.1,.int .i64 y.1.2,.int .u8 y.2.1,.int .i64 y.2.2])]) Tryz.func134 rfl Tryz.ntmps134 (Nat.le_of_ble_eq_true rfl) ?_ (fun a hf=>?_) (Nat.le_of_ble_eq_true rfl)
 rotate_left
 rotate_right
 ·exact arg2 rfl rfl
 have e:=Ext.rfl' W
 refine seq <| ac <| fK hf rfl (by decide) fun a b2 w v2 hv2 e' hb2 hs2 B2 hf=>?_
 replace e:=e.tr e'
 refine fK hf rfl (by decide) fun a b3 w v3 hv3 e' hb3 hs3 B3 hf=>?_
 replace e:=e.tr e'
 replace B2:=B2.ext e'.toBelow
 refine aC hf rfl (by decide) fun a hf=>aa ?_
 cases hv2;cases hv3
 refine seq <| reg 12 Mix.mix hf (by decide +kernel) <| st (bQ Tryz.underlying62 rfl T3 (by decide) rfl) <| st (ld1 T3 rfl B2 rfl) <| st (bQ Tryz.underlying62 rfl T3 (by decide) rfl) <| st (ld1 T3 rfl B3 rfl) <| st (ap Mono.En92 rfl rfl (fun v u w he h h'=>kb x.1.1 y.1.1 v u w h h')) <| st (bQ Tryz.underlying62 rfl T3 (by decide) rfl) <| st (ld1 T3 rfl B2 rfl) <| st (bQ Tryz.underlying62 rfl T3 (by decide) rfl) <| st (ld1 T3 rfl B3 rfl) <| st (ap Mono.En92 rfl rfl (fun v u w he h h'=>kb x.1.2 y.1.2 v u w h h')) <| st (zS Tryz.underlying35 Mono.I3 rfl rfl rfl) <| st (aw Mono.En135 rfl (fun v w he h=>by obtain⟨b,rfl,hB⟩:=h;exact zU _ _ b w hB)) ?_
 refine en fun a w e' hf=>?_
 replace e:=e.tr e'
 replace B2:=B2.ext e'.toBelow
 replace B3:=B3.ext e'.toBelow
 refine aC hf rfl (by decide) fun a hf=>aa <| ak <| an rfl hf rfl ?_
 rintro _ rfl
 exact⟨_,rfl,e,rfl⟩
end Go.MonoD
namespace Go.Mono
open Go Go.Proofs Go.RowKit Go.Shelf Go.Sort
theorem rI {α β:Type}{f:α→List β}{k:Nat}(hk:∀x,(f x).length=k)(h0:0<k):∀(l:List α) (t:Nat),(l.flatMap f)[t]?=(l[t / k]?).bind fun x=>(f x)[t % k]?
 | [],t=>by simp
 | x::r,t=>by
  rw[List.flatMap_cons,List.getElem?_append,hk]
  by_cases ht:t<k
  ·rw[if_pos ht,Nat.div_eq_of_lt ht,Nat.mod_eq_of_lt ht];rfl
  ·rw[if_neg ht,rI hk h0 r]
   have h1:t / k=(t - k) / k+1:=by rw[← Nat.add_div_right _ h0];congr 1;omega
   have h2:t % k=(t - k) % k:=by rw[Nat.mod_eq_sub_mod (by omega)]
   rw[h1,h2,List.getElem?_cons_succ]
theorem rJ {α β:Type}{f:α→List β}{k:Nat}(hk:∀x,(f x).length=k):∀(l:List α),(l.flatMap f).length=l.length * k
 | []=>by simp
 | x::r=>by rw[List.flatMap_cons,List.length_append,hk,rJ hk r,List.length_cons,Nat.succ_mul];omega
theorem rK {α:Type}[Inhabited α]{f:α→List Value}{k:Nat}(hk:∀x,(f x).length=k)(h0:0<k)(d:Array α):(flatK f k d).toList=d.toList.flatMap f:=by
 apply List.ext_getElem?
 intro t
 rw[rI hk h0,flatK,Array.toList_map,List.getElem?_map,Array.toList_range]
 by_cases ht:t<d.size * k
 ·rw[List.getElem?_range ht,Option.map_some]
  have hd:t / k<d.size:=Nat.div_lt_of_lt_mul (by rw[Nat.mul_comm];exact ht)
  have hm:t % k<k:=Nat.mod_lt _ h0
  rw[Array.getElem?_toList,Array.getElem?_eq_getElem hd,Option.bind_some,getElem!_pos d _ hd]
  have hl:t % k<(f (d[t / k]'hd)).length:=by rw[hk];exact hm
  rw[List.getElem?_eq_getElem hl,getElem!_pos (f (d[t / k]'hd)) (t % k) hl]
 ·rw[List.getElem?_eq_none (by simpa using ht),Option.map_none]
  have hd:¬t / k<d.size:=fun h=>ht (by
   have:=(Nat.div_lt_iff_lt_mul h0).1 h;exact this)
  rw[Array.getElem?_toList,Array.getElem?_eq_none (by omega)];rfl
theorem kc {α:Type}{e:Enc α}{f:α→List Value}(hf:∀G w x cs,e.r G w x cs↔cs=f x){G:Nat→Prop}{w:World}:∀(xs:List α) (cs:List Value),Cells e G w xs cs↔cs=xs.flatMap f
 | [],cs=>by simp[Cells]
 | x::xs,cs=>by
  constructor
  ·rintro⟨c,d,rfl,h1,h2⟩
   rw[(hf _ _ _ _).1 h1,(kc hf xs d).1 h2,List.flatMap_cons]
  ·intro h
   exact⟨f x,xs.flatMap f,by rw[h,List.flatMap_cons],(hf _ _ _ _).2 rfl,(kc hf xs _).2 rfl⟩
theorem rL {P:Program}{ρ:Ren}{α:Type}[Inhabited α]{e:Enc α}{ty:TypeId}{B:Nat}{G:Nat→Prop}{w:World}{xs:List α}{v:Value}(L:SlLaysF0.n6 P ρ)(aE:∀w,(isAgg (ρ.t 24)).run P w=.ok true w)(zE:∀w,(Go.sizeOf (ρ.t 24)).run P w=.ok e.k w)
  (f:α→List Value) (hf:∀G w x cs,e.r G w x cs↔cs=f x) (hk:∀x,(f x).length=e.k) (h1:∀x,∀v∈f x,v.oneCell'=true) (cf:α→α→Int) (hO:SWO (ltOf cf)) (g:Nat)
  (eg:∀args w,(callFunc g args).run P w=.ok (.enter g args) w) (hc:∀x y W,Calls P g #[.agg (f x).toArray,.agg (f y).toArray] W fun en w'=>en=.returned (.int .i64 (cf x y))∧∃q os,w'=grow (W.drewN q) os) (Ho:OwR e ty B G w xs v) (hl:xs.length≤100000) :
  Calls P (ρ.f 6) #[v,.func (.func g) #[] #[]] w fun en w'=>en=.returned (.tuple #[])∧∃xs',xs'.Perm xs∧xs'.Pairwise (fun x y=>ltOf cf y x=false)∧OwR e ty B G w' xs' v∧Chg (fun b=>v.ownBlock=some b) w w':=by
 obtain⟨cs,⟨hlen,hv⟩,hcs⟩:=Ho.own
 rw[kc hf] at hcs
 subst hcs
 rcases hv with ⟨rfl,hn⟩|⟨g0,cap,cur,rfl,hB,hheap,hcap,hmax,hcur,htake⟩
 ·have hx:xs=[]:=List.length_eq_zero_iff.1 hn
  subst hx
  exact (AnyF.slices_SortFunc_none L none 0 _ w).mono fun en w' ⟨h2,h3⟩=>by
   subst h3
   exact⟨h2,[],List.Perm.refl _,List.Pairwise.nil,Ho,Chg.rfl' _ _⟩
 ·have hk0:=e.pos
  have hcell:∀j,(xs.flatMap f)[j]?=cur[j]?∨xs.length * e.k≤j:=fun j=>by
   by_cases hj:j<xs.length * e.k
   ·left
    rw[← htake,List.getElem?_take,if_pos hj];simp
   ·right;omega
  have hH:HoldsK f e.k w g0 0 xs.toArray:=by
   intro j hj
   rw[size_flatK] at hj
   have hj':j<xs.length * e.k:=by simpa using hj
   have h2:(flatK f e.k xs.toArray)[j]?=cur[j]?:=by
    rw[← Array.getElem?_toList,rK hk hk0]
    rcases hcell j with h|h
    ·exact h
    ·omega
   have hjs:j<(flatK f e.k xs.toArray).size:=by rw[size_flatK];exact hj
   have hB1:Blk w g0 cur ty:=hheap
   constructor
   ·rw[Nat.zero_add,hB1.cell,← h2,Array.getElem?_eq_getElem hjs,getElem!_pos _ j hjs];rfl
   ·simp[World.frozen?,hheap]
  have hblk:g0<w.heap.size:=(Array.getElem?_eq_some_iff.1 hheap).1
  have hcmp:CmpLays P g #[] f e.k cf g0 0 xs.toArray.size w:=fun m os dk hd x y=>by simpa using hc x y _
  refine (AnyQ.slices_SortFunc L e.k aE zE f hk h1 cf hO g #[] g0 0 cap xs.toArray w eg hcmp hH hblk (by simp;omega)).mono ?_
  rintro en w' ⟨h2,d',n,os,hp,hs,rfl⟩
  have hds:d'.size=xs.length:=by simpa using hp.1
  have hperm:d'.toList.Perm xs:=by
   have:=hp.2.2
   rw[Array.extract_eq_self_of_le (by simp[hds]),Array.extract_eq_self_of_le (by simp)] at this
   simpa using this
  refine⟨h2,d'.toList,hperm,?_,?_,?_⟩
  ·rw[List.pairwise_iff_getElem]
   intro i j hi hj hij
   have:=hs i j (Nat.zero_le _) hij (by simpa[hds] using hj)
   simp only[Array.length_toList] at hi hj
   rw[getElem!_pos d' j hj,getElem!_pos d' i hi] at this
   simpa using this
  ·have hF:(flatK f e.k d').size=xs.length * e.k:=by rw[size_flatK,hds]
   have hcut:xs.length * e.k≤cur.size:=by rw[hcur];exact Nat.mul_le_mul_right _ hcap
   have hh:(sortWorldK f e.k w g0 0 n d' os).heap[g0]?=some (.cells (putCells id 0 (flatK f e.k d') cur) ty (0,0)):=by
    unfold sortWorldK grow putRowK putRow mapBlock
    simp only
    rw[Array.getElem?_append_left (by simpa[Sort.ahead] using hblk),Array.getElem?_modify,if_pos rfl]
    have:(Sort.ahead w n).heap[g0]?=some (Obj.cells cur ty (0,0)):=hheap
    rw[this];rfl
   have hput:(putCells id 0 (flatK f e.k d') cur).toList.take (xs.length * e.k)=d'.toList.flatMap f:=by
    rw[← rK hk hk0]
    apply List.ext_getElem?
    intro j
    rw[List.getElem?_take]
    by_cases hj:j<xs.length * e.k
    ·rw[if_pos hj,Array.getElem?_toList,Array.getElem?_toList,putCells,Array.getElem?_mapIdx,Array.getElem?_eq_getElem (show j<cur.size by omega),Option.map_some,if_pos ⟨Nat.zero_le _,by rw[Nat.zero_add,hF];exact hj⟩]
     have hjf:j<(flatK f e.k d').size:=by rw[hF];exact hj
     rw[Nat.sub_zero,getElem!_pos _ j hjf,Array.getElem?_eq_getElem hjf];rfl
    ·rw[if_neg hj,List.getElem?_eq_none]
     simp only[Array.length_toList,hF];omega
   refine⟨⟨d'.toList.flatMap f,⟨by rw[rJ hk],.inr ⟨g0,cap,_,by simp[hds],hB,hh,by simpa[hds] using hcap,hmax,by simpa[putCells] using hcur,by simpa[hds] using hput⟩⟩,(kc hf _ _).2 rfl⟩,Ho.av,?_⟩
   exact Nat.le_trans Ho.base (size_sortWorldK_c f e.k w g0 0 n d' os)
  ·refine⟨rfl,rfl,rfl,size_sortWorldK_c f e.k w g0 0 n d' os,fun b hb hne=>?_⟩
   have hbg:g0≠b:=fun h=>hne (by subst h;rfl)
   unfold sortWorldK grow putRowK putRow mapBlock
   simp only
   rw[Array.getElem?_append_left (by simpa[Sort.ahead] using hb),Array.getElem?_modify,if_neg hbg]
   rfl
end Go.Mono
namespace Go.Proofs
open Go.Shelf
def Tryz.sortV_ren:Go.Shelf.Ren:=⟨fun|6=>90|15=>113|14=>126|28=>145|29=>146|20=>170|21=>171|22=>172|23=>173|24=>174|25=>175|26=>176|27=>177|46=>188|47=>181|48=>182|49=>189|50=>190|57=>200|n=>n,fun|22=>66|24=>73|25=>135|3=>3|39=>153|0=>0|53=>182|55=>74|4=>4|46=>176|45=>175|50=>106|5=>5|9=>9|66=>196|70=>200|76=>211|77=>212|n=>n,fun|n=>n⟩
theorem Tryz.sortV:Go.Proofs.SlLaysF0.n6 Tryz.prog Tryz.sortV_ren:={
 mixed:=by kernel_rfl
 f6:=⟨Tryz.f90.name,by decide,Tryz.func90.trans (congrArg some (by kernel_rfl))⟩
 f14:=⟨Tryz.f126.name,by decide,Tryz.func126.trans (congrArg some (by kernel_rfl))⟩
 f15:=Tryz.func113.trans (congrArg some (by kernel_rfl))
 f20:=⟨Tryz.f170.name,by decide,Tryz.func170.trans (congrArg some (by kernel_rfl))⟩
 f21:=⟨Tryz.f171.name,by decide,Tryz.func171.trans (congrArg some (by kernel_rfl))⟩
 f22:=⟨Tryz.f172.name,by decide,Tryz.func172.trans (congrArg some (by kernel_rfl))⟩
 f23:=⟨Tryz.f173.name,by decide,Tryz.func173.trans (congrArg some (by kernel_rfl))⟩
 f24:=⟨Tryz.f174.name,by decide,Tryz.func174.trans (congrArg some (by kernel_rfl))⟩
 f25:=⟨Tryz.f175.name,by decide,Tryz.func175.trans (congrArg some (by kernel_rfl))⟩
 f26:=⟨Tryz.f176.name,by decide,Tryz.func176.trans (congrArg some (by kernel_rfl))⟩
 f27:=⟨Tryz.f177.name,by decide,Tryz.func177.trans (congrArg some (by kernel_rfl))⟩
 f28:=Tryz.func145.trans (congrArg some (by kernel_rfl))
 f29:=Tryz.func146.trans (congrArg some (by kernel_rfl))
 f46:=⟨Tryz.f188.name,by decide,Tryz.func188.trans (congrArg some (by kernel_rfl))⟩
 f47:=Tryz.func181.trans (congrArg some (by kernel_rfl))
 f48:=Tryz.func182.trans (congrArg some (by kernel_rfl))
 f49:=⟨Tryz.f189.name,by decide,Tryz.func189.trans (congrArg some (by kernel_rfl))⟩
 f50:=⟨Tryz.f190.name,by decide,Tryz.func190.trans (congrArg some (by kernel_rfl))⟩
 f57:=⟨Tryz.f200.name,by decide,Tryz.func200.trans (congrArg some (by kernel_rfl))⟩
 t0:=Tryz.underlying0
 a0:=Tryz.isAgg0
 z0:=Tryz.sizeOf0
 v0:=Tryz.zeroValue0
 t3:=Tryz.underlying3
 a3:=Tryz.isAgg3
 z3:=Tryz.sizeOf3
 v3:=Tryz.zeroValue3
 t4:=Tryz.underlying4
 a4:=Tryz.isAgg4
 z4:=Tryz.sizeOf4
 v4:=Tryz.zeroValue4
 t5:=Tryz.underlying5
 a5:=Tryz.isAgg5
 z5:=Tryz.sizeOf5
 v5:=Tryz.zeroValue5
 t9:=Tryz.underlying9
 a9:=Tryz.isAgg9
 z9:=Tryz.sizeOf9
 v9:=Tryz.zeroValue9
 t22:=Tryz.underlying66
 a22:=Tryz.isAgg66
 z22:=Tryz.sizeOf66
 v22:=Tryz.zeroValue66
 t25:=Tryz.underlying135
 a25:=Tryz.isAgg135
 z25:=Tryz.sizeOf135
 v25:=Tryz.zeroValue135
 t39:=Tryz.underlying153
 a39:=Tryz.isAgg153
 z39:=Tryz.sizeOf153
 v39:=Tryz.zeroValue153
 t45:=Tryz.underlying175
 a45:=Tryz.isAgg175
 z45:=Tryz.sizeOf175
 v45:=Tryz.zeroValue175
 t46:=Tryz.underlying176
 a46:=Tryz.isAgg176
 z46:=Tryz.sizeOf176
 v46:=Tryz.zeroValue176
 t50:=Tryz.underlying106
 a50:=Tryz.isAgg106
 z50:=Tryz.sizeOf106
 v50:=Tryz.zeroValue106
 t53:=Tryz.underlying182
 a53:=Tryz.isAgg182
 z53:=Tryz.sizeOf182
 v53:=Tryz.zeroValue182
 t55:=Tryz.underlying74
 a55:=Tryz.isAgg74
 z55:=Tryz.sizeOf74
 v55:=Tryz.zeroValue74
 t66:=Tryz.underlying196
 a66:=Tryz.isAgg196
 z66:=Tryz.sizeOf196
 v66:=Tryz.zeroValue196
 t70:=Tryz.underlying200
 a70:=Tryz.isAgg200
 z70:=Tryz.sizeOf200
 v70:=Tryz.zeroValue200
 t76:=Tryz.underlying211
 a76:=Tryz.isAgg211
 z76:=Tryz.sizeOf211
 v76:=Tryz.zeroValue211
 t77:=Tryz.underlying212
 a77:=Tryz.isAgg212
 z77:=Tryz.sizeOf212
 v77:=Tryz.zeroValue212 }
def Tryz.sortE_ren:Go.Shelf.Ren:=⟨fun|6=>133|15=>113|14=>179|28=>145|29=>146|20=>191|21=>192|22=>193|23=>194|24=>195|25=>196|26=>197|27=>198|46=>201|47=>181|48=>182|49=>202|50=>203|57=>204|n=>n,fun|22=>61|24=>62|25=>172|3=>3|39=>153|0=>0|53=>182|55=>74|4=>4|46=>176|45=>175|50=>106|5=>5|9=>9|66=>196|70=>200|76=>211|77=>212|n=>n,fun|n=>n⟩
theorem Tryz.sortE:Go.Proofs.SlLaysF0.n6 Tryz.prog Tryz.sortE_ren:={
 mixed:=by kernel_rfl
 f6:=⟨Tryz.f133.name,by decide,Tryz.func133.trans (congrArg some (by kernel_rfl))⟩
 f14:=⟨Tryz.f179.name,by decide,Tryz.func179.trans (congrArg some (by kernel_rfl))⟩
 f15:=Tryz.func113.trans (congrArg some (by kernel_rfl))
 f20:=⟨Tryz.f191.name,by decide,Tryz.func191.trans (congrArg some (by kernel_rfl))⟩
 f21:=⟨Tryz.f192.name,by decide,Tryz.func192.trans (congrArg some (by kernel_rfl))⟩
 f22:=⟨Tryz.f193.name,by decide,Tryz.func193.trans (congrArg some (by kernel_rfl))⟩
 f23:=⟨Tryz.f194.name,by decide,Tryz.func194.trans (congrArg some (by kernel_rfl))⟩
 f24:=⟨Tryz.f195.name,by decide,Tryz.func195.trans (congrArg some (by kernel_rfl))⟩
 f25:=⟨Tryz.f196.name,by decide,Tryz.func196.trans (congrArg some (by kernel_rfl))⟩
 f26:=⟨Tryz.f197.name,by decide,Tryz.func197.trans (congrArg some (by kernel_rfl))⟩
 f27:=⟨Tryz.f198.name,by decide,Tryz.func198.trans (congrArg some (by kernel_rfl))⟩
 f28:=Tryz.func145.trans (congrArg some (by kernel_rfl))
 f29:=Tryz.func146.trans (congrArg some (by kernel_rfl))
 f46:=⟨Tryz.f201.name,by decide,Tryz.func201.trans (congrArg some (by kernel_rfl))⟩
 f47:=Tryz.func181.trans (congrArg some (by kernel_rfl))
 f48:=Tryz.func182.trans (congrArg some (by kernel_rfl))
 f49:=⟨Tryz.f202.name,by decide,Tryz.func202.trans (congrArg some (by kernel_rfl))⟩
 f50:=⟨Tryz.f203.name,by decide,Tryz.func203.trans (congrArg some (by kernel_rfl))⟩
 f57:=⟨Tryz.f204.name,by decide,Tryz.func204.trans (congrArg some (by kernel_rfl))⟩
 t0:=Tryz.underlying0
 a0:=Tryz.isAgg0
 z0:=Tryz.sizeOf0
 v0:=Tryz.zeroValue0
 t3:=Tryz.underlying3
 a3:=Tryz.isAgg3
 z3:=Tryz.sizeOf3
 v3:=Tryz.zeroValue3
 t4:=Tryz.underlying4
 a4:=Tryz.isAgg4
 z4:=Tryz.sizeOf4
 v4:=Tryz.zeroValue4
 t5:=Tryz.underlying5
 a5:=Tryz.isAgg5
 z5:=Tryz.sizeOf5
 v5:=Tryz.zeroValue5
 t9:=Tryz.underlying9
 a9:=Tryz.isAgg9
 z9:=Tryz.sizeOf9
 v9:=Tryz.zeroValue9
 t22:=Tryz.underlying61
 a22:=Tryz.isAgg61
 z22:=Tryz.sizeOf61
 v22:=Tryz.zeroValue61
 t25:=Tryz.underlying172
 a25:=Tryz.isAgg172
 z25:=Tryz.sizeOf172
 v25:=Tryz.zeroValue172
 t39:=Tryz.underlying153
 a39:=Tryz.isAgg153
 z39:=Tryz.sizeOf153
 v39:=Tryz.zeroValue153
 t45:=Tryz.underlying175
 a45:=Tryz.isAgg175
 z45:=Tryz.sizeOf175
 v45:=Tryz.zeroValue175
 t46:=Tryz.underlying176
 a46:=Tryz.isAgg176
 z46:=Tryz.sizeOf176
 v46:=Tryz.zeroValue176
 t50:=Tryz.underlying106
 a50:=Tryz.isAgg106
 z50:=Tryz.sizeOf106
 v50:=Tryz.zeroValue106
 t53:=Tryz.underlying182
 a53:=Tryz.isAgg182
 z53:=Tryz.sizeOf182
 v53:=Tryz.zeroValue182
 t55:=Tryz.underlying74
 a55:=Tryz.isAgg74
 z55:=Tryz.sizeOf74
 v55:=Tryz.zeroValue74
 t66:=Tryz.underlying196
 a66:=Tryz.isAgg196
 z66:=Tryz.sizeOf196
 v66:=Tryz.zeroValue196
 t70:=Tryz.underlying200
 a70:=Tryz.isAgg200
 z70:=Tryz.sizeOf200
 v70:=Tryz.zeroValue200
 t76:=Tryz.underlying211
 a76:=Tryz.isAgg211
 z76:=Tryz.sizeOf211
 v76:=Tryz.zeroValue211
 t77:=Tryz.underlying212
 a77:=Tryz.isAgg212
 z77:=Tryz.sizeOf212
 v77:=Tryz.zeroValue212 }
end Go.Proofs
namespace Go.Mono
open Go Go.Proofs Go.RowKit Go.Gr Go.Sort
instance:Inhabited VT:=⟨(0,(0,0))⟩
instance:Inhabited ET:=⟨((0,0),(0,0))⟩
theorem zV (x y:Int):decide (MonoD.cmpI x y<0)=decide (x<y):=by
 unfold MonoD.cmpI
 by_cases h1:x<y
 ·simp[h1]
 ·by_cases h2:y<x <;> simp[h1,h2]
theorem ke (x y:VT):ltOf (fun x y:VT=>MonoD.cmpI x.1 y.1) x y=lt1 x.1 y.1:=zV _ _
theorem kf (x y:ET):ltOf (fun x y:ET=>MonoD.orI (MonoD.cmpI x.1.1 y.1.1) (MonoD.cmpI x.1.2 y.1.2)) x y=lt2 x.1 y.1:=by
 unfold ltOf MonoD.orI MonoD.cmpI lt2
 by_cases h1:x.1.1<y.1.1
 ·simp[h1]
 ·by_cases h2:y.1.1<x.1.1
  ·simp[h1,h2];omega
  ·have:x.1.1=y.1.1:=by omega
   by_cases h3:x.1.2<y.1.2
   ·simp[h1,h2,h3,this]
   ·by_cases h4:y.1.2<x.1.2 <;> simp[h1,h2,h3,h4,this]
theorem zW:SWO (ltOf fun x y:VT=>MonoD.cmpI x.1 y.1) where
 irrefl x:=by rw[ke];simp[lt1]
 trans x y z h1 h2:=by rw[ke] at *;exact oQ h1 h2
 ntrans x y z h1 h2:=by rw[ke] at *;simp only[lt1,decide_eq_false_iff_not] at *;omega
theorem zX:SWO (ltOf fun x y:ET=>MonoD.orI (MonoD.cmpI x.1.1 y.1.1) (MonoD.cmpI x.1.2 y.1.2)) where
 irrefl x:=by rw[kf];exact vK _
 trans x y z h1 h2:=by rw[kf] at *;exact oP h1 h2
 ntrans x y z h1 h2:=by rw[kf] at *;simp only[lt2,decide_eq_false_iff_not] at *;omega
def vtL (x:VT):List Value:=[.int .i64 x.1,.int .u8 x.2.1,.int .i64 x.2.2]
def etL (x:ET):List Value:=[.int .i64 x.1.1,.int .i64 x.1.2,.int .u8 x.2.1,.int .i64 x.2.2]
theorem zY (G:Nat→Prop)(w:World)(x:VT)(cs:List Value):vtE.r G w x cs↔cs=vtL x:=
 ⟨fun⟨c,d,h,h1,c2,d2,h2,h3,h4⟩=>by cases h1;cases h3;cases h4;subst h2;subst h;rfl,fun h=>⟨_,_,by rw[h];rfl,rfl,_,_,rfl,rfl,rfl⟩⟩
theorem zZ (G:Nat→Prop)(w:World)(x:ET)(cs:List Value):etE.r G w x cs↔cs=etL x:=
 ⟨fun⟨c,d,h,⟨c1,d1,h1,h1a,h1b⟩,c2,d2,h2,h3,h4⟩=>by cases h1a;cases h1b;cases h3;cases h4;subst h1;subst h2;subst h;rfl,fun h=>⟨_,_,by rw[h];rfl,⟨_,_,rfl,rfl,rfl⟩,_,_,rfl,rfl,rfl⟩⟩
theorem a0a {B:Nat}{G:Nat→Prop}{w:World}{xs:List VT}{v:Value}(Ho:OwR vtE 73 B G w xs v)(hl:xs.length≤100000) :
  Calls Tryz.prog 90 #[v,.func (.func 91) #[] #[]] w fun en w'=>en=.returned (.tuple #[])∧∃xs',xs'.Perm xs∧xs'.Pairwise (fun x y=>lt1 y.1 x.1=false)∧OwR vtE 73 B G w' xs' v∧Chg (fun b=>v.ownBlock=some b) w w':=
 (rL (e:=vtE) Tryz.sortV (fun w=>T73.agg w) (fun w=>T73.size w) vtL zY (fun _=>rfl) (fun x u hu=>by simp[vtL] at hu;rcases hu with rfl|rfl|rfl <;> rfl) _ zW 91 wC
  (fun x y W=>(MonoD.cmpV_spec x y W).mono fun en w' ⟨u,h1,h2,h3⟩=>by cases h3;exact⟨h1,h2.grown⟩) Ho hl).mono fun en w' ⟨h1,xs',h2,h3,h4,h5⟩=>⟨h1,xs',h2,h3.imp fun {a b} h=>by rwa [ke] at h,h4,h5⟩
theorem a0b {B:Nat}{G:Nat→Prop}{w:World}{xs:List ET}{v:Value}(Ho:OwR etE 62 B G w xs v)(hl:xs.length≤100000) :
  Calls Tryz.prog 133 #[v,.func (.func 134) #[] #[]] w fun en w'=>en=.returned (.tuple #[])∧∃xs',xs'.Perm xs∧xs'.Pairwise (fun x y=>lt2 y.1 x.1=false)∧OwR etE 62 B G w' xs' v∧Chg (fun b=>v.ownBlock=some b) w w':=
 (rL (e:=etE) Tryz.sortE (fun w=>T62.agg w) (fun w=>T62.size w) etL zZ (fun _=>rfl) (fun x u hu=>by simp[etL] at hu;rcases hu with rfl|rfl|rfl|rfl <;> rfl) _ zX 134 wS
  (fun x y W=>(MonoD.cmpE_spec x y W).mono fun en w' ⟨u,h1,h2,h3⟩=>by cases h3;exact⟨h1,h2.grown⟩) Ho hl).mono fun en w' ⟨h1,xs',h2,h3,h4,h5⟩=>⟨h1,xs',h2,h3.imp fun {a b} h=>by rwa [kf] at h,h4,h5⟩
theorem bVx (x:VT):Tryz.prog.built 73 [(0,.int .i64 x.1),(1,.int .u8 x.2.1),(2,.int .i64 x.2.2)]=some #[.int .i64 x.1,.int .u8 x.2.1,.int .i64 x.2.2]:=by kernel_rfl
theorem bEx (x:ET):Tryz.prog.built 62 [(0,.int .i64 x.1.1),(1,.int .i64 x.1.2),(2,.int .u8 x.2.1),(3,.int .i64 x.2.2)]=some #[.int .i64 x.1.1,.int .i64 x.1.2,.int .u8 x.2.1,.int .i64 x.2.2]:=by kernel_rfl
theorem a0c {G:Nat→Prop}{N:Nat}(g:GT)(v:Value)(W:World)(h:(Dv (ptE (grE N)) G (some g)).p v W)(hG:∀b,G b→b<W.heap.size)(hs:g.1.Pairwise fun x y=>lt1 x.1 y.1=true)(hl:g.1.length≤100000)(hN:N≤1000000) :
  Calls Tryz.prog 41 #[v] W (Post (OwA vtE 73 W.heap.size G g.1) W):=by
 refine enter (args:=[v]) (As:=[Dv (ptE (grE N)) (GB W G) (some g)]) Tryz.func41 rfl Tryz.ntmps41 (Nat.le_of_ble_eq_true rfl) ?_ (fun a hf=>?_) (Nat.le_of_ble_eq_true rfl)
 rotate_left
 rotate_right
 ·exact arg1 (Dv.toB h)
 have e:=Ext.rfl' W
 refine seq <| ac <| aC hf rfl (by decide) fun a hf=>aa ?_
 refine seq <| seq ?_
 refine az 2 hf (by decide +kernel) <| st (mv rfl) <| st (eZ Tryz.underlying26 (isR rfl)) <| en fun a w e' hf=>?_
 replace e:=e.tr e'
 refine aa <| ifF hf rfl ?_
 refine aj <| seq <| ac <| aC hf rfl (by decide) fun a hf=>aa ?_
 refine seq <| seq ?_
 refine az 4 hf (by decide +kernel) <| st (mv rfl) <| st (gC (isR rfl)) <| st (aB Tryz.underlying130 rfl fg (by decide) (Fld.fst Fld.refl) (isR rfl)) <| st (ldD fg (isR rfl)) <| en fun a w e' hf=>?_
 replace e:=e.tr e'
 obtain⟨_,⟨cs,⟨bm,nm,rfl,hGm,hNm,HM⟩,rfl⟩,hf⟩:=hf.fix 11 rfl
 have hbm:bm<W.heap.size:=Nat.lt_of_not_le fun h=>hGm (.inr h)
 refine mw (V:=vKV) Tryz.underlying127 hf (by decide) rfl HM fun a r w e' hr hsr HR hf=>?_
 have hrW:W.heap.size≤r:=Nat.le_trans e.size (Nat.le_of_eq hr.symm)
 replace e:=e.tr e'
 have hrs:r+1≤w.heap.size:=by omega
 refine aa ?_
 replace hf:=hf.keep [2,3,12]
 refine blk (aK (fun r0 a w=>∃(old rest:List VT) (u:Value),r0=rest.length∧Fr 30 a w [(2,E (.slice none 0 0)),(3,E u),(12,E (.pointer (some ⟨r,0,none⟩)))]∧Ext W w∧RgR vKV w bm r nm old rest∧OwR vtE 73 (r+1) G w old u∧(old++rest).Perm g.1) g.1.length ⟨[],g.1,.slice none 0 0,rfl,hf,e,HR,OwR.nil vtE _ hrs fun b hb=>Nat.lt_of_lt_of_le (hG b hb) (by omega),List.Perm.refl _⟩ ?_)
 rintro r0 a w ⟨old,rest,u,rfl,hf,e,HR,Ho,hp⟩
 refine seq <| ac <| my hf (by decide) rfl HR (fun a hrest hf=>?_) (fun a w' x c hm hg HR hen hf=>?_)
 ·refine dy hf (by decide) rfl rfl fun a hf=>aa <| seq <| ifF hf rfl ?_
  refine aH ?_
  subst hrest
  rw[List.append_nil] at hp
  replace hf:=hf.kp [2,3]
  refine seq <| az 1 hf (by decide +kernel) <| st (mv rfl) <| en fun a w e' hf=>?_
  replace Ho:=Ho.ext e'
  replace e:=e.tr e'
  refine fb (S:=fun b=>u.ownBlock=some b) (F:=fun z w'=>OwR vtE 73 (r+1) G w' g.1 u) hf (by decide) wB ?_ fun a z w hc hF hf=>?_
  ·have e27:a.eval (.tmp 27)=u:=hf.opd (.tmp 27) _ rfl
   have eF:a.eval (.func 91)=.func (.func 91) #[] #[]:=rfl
   simp only[List.map_toArray,List.map_cons,List.map_nil,e27,eF]
   exact (a0a Ho (by rw[hp.length_eq];exact hl)).mono fun en w' ⟨k1,xs',k2,k3,k4,k5⟩=>⟨_,k1,k5,by rw[← lK (lt:=fun x y:VT=>lt1 x.1 y.1) (k2.trans hp) hs k3];exact k4⟩
  replace e:=e.ch hc (fun b hb=>by have:=(Ho.lt hb).1;omega)
  refine aa ?_
  replace hf:=hf.keep [2,3]
  refine seq <| az 1 hf (by decide +kernel) <| st (mv rfl) <| en fun a w e' hf=>?_
  replace hF:=hF.ext e'
  replace e:=e.tr e'
  refine aC hf rfl (by decide) fun a hf=>aa <| ak <| an rfl hf rfl ?_
  rintro _ rfl
  exact⟨_,rfl,e,hF.low (by omega) hG⟩
 ·have nr:u.ownBlock≠some r:=Ho.neLt (by omega)
  have HR0:(old++rest).Pairwise (fun p q:VT=>p.1≠q.1):=(hp.pairwise_iff (fun {_ _} hne=>Ne.symm hne)).2 (hs.imp fun {a b} h=>(iv h).2)
  replace e:=e.gr hg hrW;replace Ho:=Ho.grE hg nr;clear hg nr
  refine dy hf (by decide) rfl rfl fun a hf=>aa <| seq <| ifT hf rfl ?_
  refine aj <| blk <| seq <| ac <| mz hf (by decide) rfl hen fun a hf=>?_
  have hlen:old.length+1≤g.1.length:=by
   have h1:=hp.length_eq;have h2:0<rest.length:=List.length_pos_of_mem hm
   rw[List.length_append] at h1;omega
  replace hf:=hf.keep [2,3,12,15]
  refine dy hf (by decide) rfl rfl fun a hf=>dy hf (by decide) rfl rfl fun a hf=>?_
  have lr:=HR.lt
  refine eV fj hf (by decide) fun a b5 w e' hb5 hs5 B5 hf=>?_
  have ne5_Ho:=Ho.ne_new hb5
  replace HR:=HR.ext e'
  replace Ho:=Ho.ext e'
  replace e:=e.tr e'
  refine aC hf rfl (by decide) fun a hf=>?_
  have n5:=ne5_Ho
  replace HR:RgR vKV w bm r nm (old++[(x,c)]) (rest.filter fun p => !decide (p.1=x)):=HR
  replace hf:=hf.kp [2,3,4,5,12,17]
  refine aF iw hf rfl rfl (bK rfl rfl) B5 rfl rfl fun w hg' hsz B5 hf=>?_
  replace e:=e.gr hg' (by omega);replace HR:=HR.gr hg' (fun h=>by cases h;omega) (fun h=>by cases h;omega);replace Ho:=Ho.grE hg' n5;clear hg'
  refine aa ?_
  replace hf:=hf.kp [2,3,4,5,12]
  refine az 8 hf (by decide +kernel) <| st (mv rfl) <| st (mv rfl) <| st (bQ Tryz.underlying132 rfl T5 (by decide) rfl) <| st (ld1 T5 rfl B5 rfl) <| st (bQ Tryz.underlying132 rfl T3 (by decide) rfl) <| st (ld1 T3 rfl B5 rfl) <| st (oW (x,c) (bVx (x,c)) rfl rfl rfl) <| st (aX Tryz.underlying66 I73 rfl (by decide) rfl Ho.avs (ff rfl)) <| en fun a w e' hf=>?_
  replace HR:=HR.ext e'
  replace Ho:=Ho.ext e'
  replace e:=e.tr e'
  replace B5:=B5.ext e'
  haveI hin:∀G0,InR (GB W G0) _:=OwR.inGB (W:=W) Ho (by omega)
  refine bG Tryz.underlying66 I73 rfl rfl hf (by decide) rfl Ho (isR rfl) (by simp only[List.length_singleton];omega) (by simp only[List.length_singleton,maxLen];omega) fun a v w hg hat Hn hf=>?_
  replace e:=e.gro hg (Ho.row (W:=W) (by omega))
  replace HR:=HR.gr hg (fun h=>by have:=(Ho.lt h.symm).1;omega) (fun h=>by have:=(Ho.lt h.symm).1;omega)
  replace Ho:=Hn
  replace B5:=B5.gro hg (by assumption)
  replace Ho:=Hn;clear Hn hg hat hin
  refine aC hf rfl (by decide) fun a hf=>aa ?_
  replace hf:=hf.keep [2,3,12]
  refine⟨_,?_,old++[(x,c)],_,_,rfl,hf,e,HR,Ho,?_⟩
  ·have:=(fY (List.pairwise_append.1 HR0).2.1 hm).length_eq
   simp only[List.length_cons] at this;omega
  ·rw[List.append_assoc];exact (List.Perm.append_left old (fY (List.pairwise_append.1 HR0).2.1 hm).symm).trans hp
theorem rM {G:Nat→Prop}{N:Nat}(g:GT)(v:Value)(W:World)(h:(Dv (ptE (grE N)) G (some g)).p v W)(hG:∀b,G b→b<W.heap.size)(hs:g.2.Pairwise fun x y=>lt2 x.1 y.1=true)(hl:g.2.length≤100000)(hN:N≤1000000) :
  Calls Tryz.prog 101 #[v] W (Post (OwA etE 62 W.heap.size G g.2) W):=by
 refine eN [v] [Dv (ptE (grE N)) (GB W G) (some g)] Tryz.func101 Tryz.ntmps101 ?_ fun a hf=>?_
 rotate_left
 rotate_right
 ·exact arg1 (Dv.toB h)
 have e:=Ext.rfl' W
 refine seq <| ac <| tA hf rfl fun a hf=>aa ?_
 refine seq <| seq ?_
 refine rgN 2 hf <| st (mv rfl) <| st (eZ U26 (isR rfl)) <| en fun a w e' hf=>?_
 replace e:=e.tr e'
 refine aa <| ifF hf rfl ?_
 refine aj <| seq <| ac <| tA hf rfl fun a hf=>aa ?_
 refine seq <| seq ?_
 refine rgN 4 hf <| st (mv rfl) <| st (gC (isR rfl)) <| st (aB fQ rfl fh (by decide) (Fld.snd Fld.refl rfl) (isR rfl)) <| st (ldD fh (isR rfl)) <| en fun a w e' hf=>?_
 replace e:=e.tr e'
 obtain⟨_,⟨cs,⟨bm,nm,rfl,hGm,hNm,HM⟩,rfl⟩,hf⟩:=hf.fix 11 rfl
 have hbm:bm<W.heap.size:=Nat.lt_of_not_le fun h=>hGm (.inr h)
 refine mw (V:=eKV) jH hf (by decide) rfl HM fun a r w e' hr hsr HR hf=>?_
 have hrW:W.heap.size≤r:=Nat.le_trans e.size (Nat.le_of_eq hr.symm)
 replace e:=e.tr e'
 have hrs:r+1≤w.heap.size:=by omega
 refine aa ?_
 replace hf:=hf.keep [2,3,12]
 refine blk (aK (fun r0 a w=>∃(old rest:List ET) (u:Value),r0=rest.length∧Fr 33 a w [(2,E (.slice none 0 0)),(3,E u),(12,E (.pointer (some ⟨r,0,none⟩)))]∧Ext W w∧RgR eKV w bm r nm old rest∧OwR etE 62 (r+1) G w old u∧(old++rest).Perm g.2) g.2.length ⟨[],g.2,.slice none 0 0,rfl,hf,e,HR,OwR.nil etE _ hrs fun b hb=>Nat.lt_of_lt_of_le (hG b hb) (by omega),List.Perm.refl _⟩ ?_)
 rintro r0 a w ⟨old,rest,u,rfl,hf,e,HR,Ho,hp⟩
 refine seq <| ac <| my hf (by decide) rfl HR (fun a hrest hf=>?_) (fun a w' x c hm hg HR hen hf=>?_)
 ·refine dy hf (by decide) rfl rfl fun a hf=>aa <| seq <| ifF hf rfl ?_
  refine aH ?_
  subst hrest
  rw[List.append_nil] at hp
  replace hf:=hf.kp [2,3]
  refine seq <| rgN 1 hf <| st (mv rfl) <| en fun a w e' hf=>?_
  obtain⟨Ho,e⟩:=up2 e' Ho e
  refine fb (S:=fun b=>u.ownBlock=some b) (F:=fun z w'=>OwR etE 62 (r+1) G w' g.2 u) hf (by decide) wR ?_ fun a z w hc hF hf=>?_
  ·have e30:a.eval (.tmp 30)=u:=hf.opd (.tmp 30) _ rfl
   have eF:a.eval (.func 134)=.func (.func 134) #[] #[]:=rfl
   simp only[List.map_toArray,List.map_cons,List.map_nil,e30,eF]
   exact (a0b Ho (by rw[hp.length_eq];exact hl)).mono fun en w' ⟨k1,xs',k2,k3,k4,k5⟩=>⟨_,k1,k5,by rw[← lK (lt:=fun x y:ET=>lt2 x.1 y.1) (k2.trans hp) hs k3];exact k4⟩
  replace e:=e.ch hc (fun b hb=>by have:=(Ho.lt hb).1;omega)
  refine aa ?_
  replace hf:=hf.keep [2,3]
  refine seq <| rgN 1 hf <| st (mv rfl) <| en fun a w e' hf=>?_
  obtain⟨hF,e⟩:=up2 e' hF e
  refine tA hf rfl fun a hf=>aa <| ak <| an rfl hf rfl ?_
  rintro _ rfl
  exact⟨_,rfl,e,hF.low (by omega) hG⟩
 ·have nr:u.ownBlock≠some r:=Ho.neLt (by omega)
  have HR0:(old++rest).Pairwise (fun p q:ET=>p.1≠q.1):=(hp.pairwise_iff (fun {_ _} hne=>Ne.symm hne)).2 (hs.imp fun {a b} h=>(ir h).2)
  replace e:=e.gr hg hrW;replace Ho:=Ho.grE hg nr;clear hg nr
  refine dy hf (by decide) rfl rfl fun a hf=>aa <| seq <| ifT hf rfl ?_
  refine aj <| blk <| seq <| ac <| mz hf (by decide) rfl hen fun a hf=>?_
  have hlen:old.length+1≤g.2.length:=by
   have h1:=hp.length_eq;have h2:0<rest.length:=List.length_pos_of_mem hm
   rw[List.length_append] at h1;omega
  replace hf:=hf.keep [2,3,12,15]
  refine dy hf (by decide) rfl rfl fun a hf=>dy hf (by decide) rfl rfl fun a hf=>?_
  have lr:=HR.lt
  refine tL pi hf fun a b4 w e' hb4 hs4 B4 hf=>?_
  have ne4_Ho:=Ho.ne_new hb4
  obtain⟨HR,Ho,e⟩:=up3 e' HR Ho e
  refine tL fj hf fun a b5 w e' hb5 hs5 B5 hf=>?_
  have ne5_Ho:=Ho.ne_new hb5
  obtain⟨HR,Ho,e,B4⟩:=up4 e' HR Ho e B4
  have n5:=ne5_Ho
  have n4:=ne4_Ho
  replace HR:RgR eKV w bm r nm (old++[(x,c)]) (rest.filter fun p => !decide (p.1=x)):=HR
  replace hf:=hf.kp [2,3,4,5,12,16,17]
  refine aF lO hf rfl rfl (bK rfl rfl) B4 rfl rfl fun w hg' hsz B4 hf=>?_
  replace e:=e.gr hg' (by omega);replace HR:=HR.gr hg' (fun h=>by cases h;omega) (fun h=>by cases h;omega);replace Ho:=Ho.grE hg' n4;replace B5:=B5.gr hg' (by omega);clear hg'
  refine aF iw hf rfl rfl (bK rfl rfl) B5 rfl rfl fun w hg' hsz B5 hf=>?_
  replace e:=e.gr hg' (by omega);replace HR:=HR.gr hg' (fun h=>by cases h;omega) (fun h=>by cases h;omega);replace Ho:=Ho.grE hg' n5;replace B4:=B4.gr hg' (by omega);clear hg'
  refine aa ?_
  replace hf:=hf.kp [2,3,4,5,12]
  refine rgN 11 hf <| st (mv rfl) <| st (fA iA rfl T3 rfl) <| st (ld1 T3 rfl B4 rfl) <| st (fA iA rfl T3 rfl) <| st (ld1 T3 rfl B4 rfl) <| st (fA pS rfl T5 rfl) <| st (ld1 T5 rfl B5 rfl) <| st (fA pS rfl T3 rfl) <| st (ld1 T3 rfl B5 rfl) <| st (oX (x,c) (bEx (x,c)) rfl rfl rfl rfl) <| st (aX U61 I62 rfl (by decide) rfl Ho.avs (dq rfl)) <| en fun a w e' hf=>?_
  obtain⟨HR,Ho,e,B4,B5⟩:=up5 e' HR Ho e B4 B5
  haveI hin:∀G0,InR (GB W G0) _:=OwR.inGB (W:=W) Ho (by omega)
  refine bG U61 I62 rfl rfl hf (by decide) rfl Ho (isR rfl) (by simp only[List.length_singleton];omega) (by simp only[List.length_singleton,maxLen];omega) fun a v w hg hat Hn hf=>?_
  replace e:=e.gro hg (Ho.row (W:=W) (by omega))
  replace HR:=HR.gr hg (fun h=>by have:=(Ho.lt h.symm).1;omega) (fun h=>by have:=(Ho.lt h.symm).1;omega)
  replace Ho:=Hn
  replace B4:=B4.gro hg (by assumption)
  replace B5:=B5.gro hg (by assumption)
  replace Ho:=Hn;clear Hn hg hat hin
  refine tA hf rfl fun a hf=>aa ?_
  replace hf:=hf.keep [2,3,12]
  refine⟨_,?_,old++[(x,c)],_,_,rfl,hf,e,HR,Ho,?_⟩
  ·have:=(fY (List.pairwise_append.1 HR0).2.1 hm).length_eq
   simp only[List.length_cons] at this;omega
  ·rw[List.append_assoc];exact (List.Perm.append_left old (fY (List.pairwise_append.1 HR0).2.1 hm).symm).trans hp
end Go.Mono
namespace Go.Mono
open Go Go.Proofs Go.RowKit Go.Gr
def vset (l:List VT):BS:=(l.map (·.1)).foldl ins 0
theorem a0d {G:Nat→Prop}{N:Nat}(g:GT)(v:Value)(W:World)(h:(Dv (ptE (grE N)) G (some g)).p v W)(hs:g.1.Pairwise fun x y=>lt1 x.1 y.1=true)(hl:g.1.length≤100000)(hN:N≤1000000) :
  Calls Tryz.prog 98 #[v] W (Post (E (ae (vset g.1))) W):=by
 have h0:(Dv (ptE (grE N)) G0 (some g)).p v W:=Dv.weak h fun b _ hb=>hb.elim
 refine eN [v] [E v] Tryz.func98 Tryz.ntmps98 ?_ fun a hf=>?_
 rotate_left
 rotate_right
 ·exact arg1 rfl
 have e:=Ext.rfl' W
 refine seq <| ac <| tL I76 hf fun a b2 w e' hb2 hs2 B2 hf=>?_
 replace e:=e.tr e'
 refine aa <| seq <| ac <| tL I76 hf fun a b3 w e' hb3 hs3 B3 hf=>?_
 obtain⟨e,B2⟩:=up2 e' e B2
 refine aa ?_
 simp only[Value.cells,dL] at B2 B3
 obtain⟨N0,hN0⟩:=eqX w.heap.size
 have l3:b3<N0:=by rw[hN0];exact B3.lt
 have hN0':N0≤w.heap.size:=Nat.le_of_eq hN0
 have e0:=e
 refine seq <| seq ?_
 refine rgN 2 hf <| st (mv rfl) <| st (aw (A:=OwA vtE 73 N0 G0 g.1) wg rfl (fun v w he k=>by cases k;exact (a0c (G:=G0) g _ w (vst (e0.tr he) h0) (fun b hb=>hb.elim) hs hl hN).mono fun en w' ⟨u,k1,k2,k3⟩=>⟨u,k1,k2,OwR.low k3 (Nat.le_trans hN0' he.size) fun b hb=>hb.elim⟩)) ?_
 refine en fun a w e' hf=>?_
 obtain⟨e,B2,B3⟩:=up3 e' e B2 B3
 obtain⟨u,Ho,hf⟩:=hf.fix 7 rfl
 replace Ho:OwR vtE 73 N0 G0 w g.1 u:=Ho
 obtain⟨NV,hNV⟩:∃NV:Nat→Prop,NV=fun b=>u.ownBlock≠some b:=⟨_,rfl⟩
 have HD:(Dv (slE vtE) NV g.1).p u w:=Ho.slN fun b hb=>by rw[hNV];exact fun h=>h hb
 obtain⟨N5,hN5⟩:=eqX w.heap.size
 have nV:∀bb,(bb<N0∨N5≤bb)→NV bb:=fun bb hb=>by rw[hNV];intro h;have h3:=Ho.lt h;omega
 have hN5s:N5≤w.heap.size:=Nat.le_of_eq hN5
 have hNN:N0≤N5:=by rw[hN5];exact Ho.base
 refine tP hf (aI U66 (isE rfl HD)) fun a w e' hf=>?_
 obtain⟨HD,hN5s,e,B2,B3⟩:=up5 e' HD hN5s e B2 B3
 refine tP hf (mv rfl) fun a w e' hf=>?_
 obtain⟨HD,hN5s,e,B2,B3⟩:=up5 e' HD hN5s e B2 B3
 refine aa ?_
 replace hf:=hf.keep [2,3,7,8,9]
 refine blk (aK (fun r0 a w=>∃(k:Nat) ,r0=g.1.length - k∧k≤g.1.length∧Fr 19 a w [(2,E (.pointer (some ⟨b2,0,none⟩))),(3,E (.pointer (some ⟨b3,0,none⟩))),(7,E u),(8,E (I (g.1.length:Nat))),(9,E (I k))]∧Ext W w∧Blk w b2 (aJ 0) 76∧Blk w b3 (aJ (((g.1.take k).map (·.1)).foldl ins 0)) 76∧(Dv (slE vtE) NV g.1).p u w∧N5≤w.heap.size) g.1.length ⟨0,rfl,by omega,hf,e,⟨B2,B3,HD,hN5s⟩⟩ ?_)
 rintro r0 a w ⟨k,rfl,hk,hf,e,B2,B3,HD,hN5s⟩
 refine seq <| rgN 1 hf <| st (lss rfl rfl) <| en fun a w e' hf=>?_
 obtain⟨HD,hN5s,e,B2,B3⟩:=up5 e' HD hN5s e B2 B3
 refine aa <| seq <| ifc hf rfl (fun hc=>aj ?_) (fun hc=>aH ?_)
 rotate_left
 rotate_left
 ·have hlt:=ltC hc
  replace hf:=hf.keep [2,3,7,8,9]
  refine seq <| blk ?_
  have hg:=List.getElem?_eq_getElem hlt
  generalize g.1[k]=y at hg
  have hS:((g.1.take (k+1)).map (·.1)).foldl ins 0=ins (((g.1.take k).map (·.1)).foldl ins 0) y.1:=by rw[bA hg,List.map_append,List.foldl_append];rfl
  obtain⟨S,hS0⟩:=eqX (((g.1.take k).map (·.1)).foldl ins 0)
  rw[← hS0] at B3 hS
  refine seq <| ac <| tP hf (aG U66 S73 (isE rfl HD) rfl (by omega) (hg)) fun a w e' hf=>?_
  obtain⟨HD,hN5s,e,B2,B3⟩:=up5 e' HD hN5s e B2 B3
  refine tP hf (gE T73 (isR rfl)) fun a w e' hf=>?_
  obtain⟨HD,hN5s,e,B2,B3⟩:=up5 e' HD hN5s e B2 B3
  refine tL I73 hf fun a b5 w e' hb5 hs5 B5 hf=>?_
  obtain⟨HD,hN5s,e,B2,B3⟩:=up5 e' HD hN5s e B2 B3
  replace hf:=hf.kp [2,3,5,7,8,9,12]
  refine aF T73 hf rfl rfl (mo y) B5 rfl rfl fun w hg' hsz B5 hf=>?_
  replace e:=e.gr hg' (by omega);replace B2:=B2.gr hg' (by omega);replace B3:=B3.gr hg' (by omega);replace HD:=Dv.grN HD hg' (fun bb hb=>nV bb (by cases hb;omega));replace hN5s:=Nat.le_trans hN5s hg'.size;clear hg'
  refine aa ?_
  replace hf:=hf.keep [2,3,5,7,8,9]
  refine rgN 4 hf <| st ((ldW T76 rfl B3 rfl).eq ((rfl:_=ae S))) <| st (fA U73 rfl T3 rfl) <| st (ld1 T3 rfl B5 rfl) <| st (ap (A:=E (ae (ins S y.1))) jD rfl rfl (fun v u w he h h'=>by cases h;cases h';exact jI S y.1 w)) ?_
  refine en fun a w e' hf=>?_
  obtain⟨HD,hN5s,e,B2,B3,B5⟩:=up6 e' HD hN5s e B2 B3 B5
  replace hf:=hf.kp [2,3,7,8,9,16]
  refine aF T76 hf rfl rfl (bk _) B3 rfl (bc _) fun w hg' hsz B3 hf=>?_
  replace e:=e.gr hg' (by omega);replace B2:=B2.gr hg' (by omega);replace HD:=Dv.grN HD hg' (fun bb hb=>nV bb (by cases hb;omega));replace hN5s:=Nat.le_trans hN5s hg'.size;clear hg' B5
  refine aa <| rgN 1 hf <| st ((add rfl rfl (by omega)).eq (iN k)) <| en fun a w e' hf=>?_
  obtain⟨HD,hN5s,e,B2,B3⟩:=up5 e' HD hN5s e B2 B3
  refine tP hf (mv rfl) fun a w e' hf=>?_
  obtain⟨HD,hN5s,e,B2,B3⟩:=up5 e' HD hN5s e B2 B3
  refine aa ?_
  replace hf:=hf.keep [2,3,7,8,9]
  refine⟨_,?_,k+1,rfl,by omega,hf,e,?_⟩
  ·omega
  rw[hS]
  exact⟨B2,B3,HD,hN5s⟩
 ·obtain rfl:=dnE hc hk
  rw[List.take_length] at B3
  replace hf:=hf.kp [2,3]
  refine seq <| rgN 1 hf <| st ((ldW T76 rfl B3 rfl).eq ((rfl:_=ae (vset g.1)))) <| en fun a w e' hf=>?_
  obtain⟨HD,hN5s,e,B2,B3⟩:=up5 e' HD hN5s e B2 B3
  haveI hinr:∀G0,InR (GB W G0) (some b2):=fun G0=>InR.gb (by omega)
  refine aF T76 hf rfl rfl (bk _) B2 rfl (rfl) fun w hg hsz B2 hf=>?_
  replace HD:=Dv.grN HD hg (fun bb hb=>nV bb (by cases hb;omega))
  obtain⟨hN5s,e,B3⟩:=gr3 hg hN5s e B3
  refine aa <| ak (dX rfl T76 hf rfl B2 (bc _) ?_)
  exact⟨_,rfl,e,rfl⟩

theorem a0e {xs ys:List Int}{k:Nat}(h:xs.take k=ys.take k)(hk:k<xs.length)(hk':k<ys.length):(xs.take (k+1)=ys.take (k+1))↔gi xs k=gi ys k:=by
 rw[bA (cF hk),bA (cF hk'),h]
 simp
def nbI (id:Int)(S:BS)(x:ET):BS:=if id=x.1.1 then ins S x.1.2 else if id=x.1.2 then ins S x.1.1 else S
def nbG (E:List ET)(id:Int):BS:=E.foldl (nbI id) 0
theorem a0f {G:Nat→Prop}{N:Nat}(g:GT)(id:Int)(v:Value)(W:World)(h:(Dv (ptE (grE N)) G (some g)).p v W)(hs:g.2.Pairwise fun x y=>lt2 x.1 y.1=true)(hl:g.2.length≤100000)(hN:N≤1000000) :
  Calls Tryz.prog 99 #[v,I id] W (Post (E (ae (nbG g.2 id))) W):=by
 have h0:(Dv (ptE (grE N)) G0 (some g)).p v W:=Dv.weak h fun b _ hb=>hb.elim
 refine eN [v,I id] [E v,E (I id)] Tryz.func99 Tryz.ntmps99 ?_ fun a hf=>?_
 rotate_left
 rotate_right
 ·exact arg2 rfl rfl
 have e:=Ext.rfl' W
 refine seq <| ac <| tL I76 hf fun a b4 w e' hb4 hs4 B4 hf=>?_
 replace e:=e.tr e'
 refine aa <| seq <| ac <| tL I76 hf fun a b5 w e' hb5 hs5 B5 hf=>?_
 obtain⟨e,B4⟩:=up2 e' e B4
 refine aa ?_
 simp only[Value.cells,dL] at B4 B5
 obtain⟨N0,hN0⟩:=eqX w.heap.size
 have l5:b5<N0:=by rw[hN0];exact B5.lt
 have hN0':N0≤w.heap.size:=Nat.le_of_eq hN0
 have e0:=e
 refine seq <| seq ?_
 refine rgN 2 hf <| st (mv rfl) <| st (aw (A:=OwA etE 62 N0 G0 g.2) pM rfl (fun v w he k=>by cases k;exact (rM (G:=G0) g _ w (vst (e0.tr he) h0) (fun b hb=>hb.elim) hs hl hN).mono fun en w' ⟨u,k1,k2,k3⟩=>⟨u,k1,k2,OwR.low k3 (Nat.le_trans hN0' he.size) fun b hb=>hb.elim⟩)) ?_
 refine en fun a w e' hf=>?_
 obtain⟨e,B4,B5⟩:=up3 e' e B4 B5
 obtain⟨u,Ho,hf⟩:=hf.fix 9 rfl
 replace Ho:OwR etE 62 N0 G0 w g.2 u:=Ho
 obtain⟨NV,hNV⟩:∃NV:Nat→Prop,NV=fun b=>u.ownBlock≠some b:=⟨_,rfl⟩
 have HD:(Dv (slE etE) NV g.2).p u w:=Ho.slN fun b hb=>by rw[hNV];exact fun h=>h hb
 obtain⟨N5,hN5⟩:=eqX w.heap.size
 have nV:∀bb,(bb<N0∨N5≤bb)→NV bb:=fun bb hb=>by rw[hNV];intro h;have h3:=Ho.lt h;omega
 have hN5s:N5≤w.heap.size:=Nat.le_of_eq hN5
 have hNN:N0≤N5:=by rw[hN5];exact Ho.base
 refine tP hf (aI U61 (isE rfl HD)) fun a w e' hf=>?_
 obtain⟨HD,hN5s,e,B4,B5⟩:=up5 e' HD hN5s e B4 B5
 refine tP hf (mv rfl) fun a w e' hf=>?_
 obtain⟨HD,hN5s,e,B4,B5⟩:=up5 e' HD hN5s e B4 B5
 refine aa ?_
 replace hf:=hf.keep [1,4,5,9,10,11]
 refine blk (aK (fun r0 a w=>∃(k:Nat) ,r0=g.2.length - k∧k≤g.2.length∧Fr 34 a w [(1,E (I id)),(4,E (.pointer (some ⟨b4,0,none⟩))),(5,E (.pointer (some ⟨b5,0,none⟩))),(9,E u),(10,E (I (g.2.length:Nat))),(11,E (I k))]∧Ext W w∧Blk w b4 (aJ 0) 76∧Blk w b5 (aJ (nbG (g.2.take k) id)) 76∧(Dv (slE etE) NV g.2).p u w∧N5≤w.heap.size) g.2.length ⟨0,rfl,by omega,hf,e,⟨B4,B5,HD,hN5s⟩⟩ ?_)
 rintro r0 a w ⟨k,rfl,hk,hf,e,B4,B5,HD,hN5s⟩
 refine seq <| rgN 1 hf <| st (lss rfl rfl) <| en fun a w e' hf=>?_
 obtain⟨HD,hN5s,e,B4,B5⟩:=up5 e' HD hN5s e B4 B5
 refine aa <| seq <| ifc hf rfl (fun hc=>aj ?_) (fun hc=>aH ?_)
 rotate_left
 rotate_left
 ·have hlt:=ltC hc
  replace hf:=hf.keep [1,4,5,9,10,11]
  refine seq <| blk ?_
  have hg:=List.getElem?_eq_getElem hlt
  generalize g.2[k]=y at hg
  have hS:nbG (g.2.take (k+1)) id=nbI id (nbG (g.2.take k) id) y:=by rw[nbG,bA hg,List.foldl_append];rfl
  obtain⟨S,hS0⟩:=eqX (nbG (g.2.take k) id)
  rw[← hS0] at B5 hS
  refine seq <| ac <| tP hf (aG U61 S62 (isE rfl HD) rfl (by omega) (hg)) fun a w e' hf=>?_
  obtain⟨HD,hN5s,e,B4,B5⟩:=up5 e' HD hN5s e B4 B5
  refine tP hf (fN T62 (isR rfl)) fun a w e' hf=>?_
  obtain⟨HD,hN5s,e,B4,B5⟩:=up5 e' HD hN5s e B4 B5
  refine tL I62 hf fun a b7 w e' hb7 hs7 B7 hf=>?_
  obtain⟨HD,hN5s,e,B4,B5⟩:=up5 e' HD hN5s e B4 B5
  replace hf:=hf.kp [1,4,5,7,9,10,11,14]
  refine aF T62 hf rfl rfl (jM y) B7 rfl rfl fun w hg' hsz B7 hf=>?_
  replace e:=e.gr hg' (by omega);replace B4:=B4.gr hg' (by omega);replace B5:=B5.gr hg' (by omega);replace HD:=Dv.grN HD hg' (fun bb hb=>nV bb (by cases hb;omega));replace hN5s:=Nat.le_trans hN5s hg'.size;clear hg'
  refine aa ?_
  replace hf:=hf.kp [1,4,5,7,9,10,11]
  refine seq <| rgN 1 hf <| st (mv rfl) <| en fun a w e' hf=>?_
  obtain⟨HD,hN5s,e,B4,B5,B7⟩:=up6 e' HD hN5s e B4 B5 B7
  refine aa <| blk ?_
  by_cases h1:id=y.1.1
  ·have hS':nbI id S y=ins S y.1.2:=by rw[nbI,if_pos h1]
   rw[hS'] at hS
   refine seq <| rgN 3 hf <| st (fA U62 rfl T3 rfl) <| st (ld1 T3 rfl B7 rfl) <| st ((eql rfl rfl).eq (congrArg Value.bool (decide_eq_true h1))) <| en fun a w e' hf=>?_
   obtain⟨HD,hN5s,e,B4,B5,B7⟩:=up6 e' HD hN5s e B4 B5 B7
   refine tA hf rfl fun a hf=>aa <| ifT hf rfl ?_
   refine rgN 4 hf <| st ((ldW T76 rfl B5 rfl).eq ((rfl:_=ae S))) <| st (fA U62 rfl T3 rfl) <| st (ld1 T3 rfl B7 rfl) <| st (ap (A:=E (ae (ins S y.1.2))) jD rfl rfl (fun v u w he h h'=>by cases h;cases h';exact jI S y.1.2 w)) ?_
   refine en fun a w e' hf=>?_
   obtain⟨HD,hN5s,e,B4,B5,B7⟩:=up6 e' HD hN5s e B4 B5 B7
   replace hf:=hf.kp [1,4,5,9,10,11,23]
   refine aF T76 hf rfl rfl (bk _) B5 rfl (bc _) fun w hg' hsz B5 hf=>?_
   replace e:=e.gr hg' (by omega);replace B4:=B4.gr hg' (by omega);replace HD:=Dv.grN HD hg' (fun bb hb=>nV bb (by cases hb;omega));replace hN5s:=Nat.le_trans hN5s hg'.size;clear hg' B7
   refine aa <| rgN 1 hf <| st ((add rfl rfl (by omega)).eq (iN k)) <| en fun a w e' hf=>?_
   obtain⟨HD,hN5s,e,B4,B5⟩:=up5 e' HD hN5s e B4 B5
   refine tP hf (mv rfl) fun a w e' hf=>?_
   obtain⟨HD,hN5s,e,B4,B5⟩:=up5 e' HD hN5s e B4 B5
   refine aa ?_
   replace hf:=hf.kp [1,4,5,9,10,11]
   refine⟨_,?_,k+1,rfl,by omega,hf,e,?_⟩
   ·omega
   rw[hS]
   exact⟨B4,B5,HD,hN5s⟩
  by_cases h2:id=y.1.2
  ·have hS':nbI id S y=ins S y.1.1:=by rw[nbI,if_neg h1,if_pos h2]
   rw[hS'] at hS
   refine seq <| rgN 3 hf <| st (fA U62 rfl T3 rfl) <| st (ld1 T3 rfl B7 rfl) <| st ((eql rfl rfl).eq (congrArg Value.bool (decide_eq_false h1))) <| en fun a w e' hf=>?_
   obtain⟨HD,hN5s,e,B4,B5,B7⟩:=up6 e' HD hN5s e B4 B5 B7
   refine tA hf rfl fun a hf=>aa <| ifF hf rfl ?_
   refine seq <| rgN 3 hf <| st (fA U62 rfl T3 rfl) <| st (ld1 T3 rfl B7 rfl) <| st ((eql rfl rfl).eq (congrArg Value.bool (decide_eq_true h2))) <| en fun a w e' hf=>?_
   obtain⟨HD,hN5s,e,B4,B5,B7⟩:=up6 e' HD hN5s e B4 B5 B7
   refine tA hf rfl fun a hf=>aa <| ifT hf rfl ?_
   refine rgN 4 hf <| st ((ldW T76 rfl B5 rfl).eq ((rfl:_=ae S))) <| st (fA U62 rfl T3 rfl) <| st (ld1 T3 rfl B7 rfl) <| st (ap (A:=E (ae (ins S y.1.1))) jD rfl rfl (fun v u w he h h'=>by cases h;cases h';exact jI S y.1.1 w)) ?_
   refine en fun a w e' hf=>?_
   obtain⟨HD,hN5s,e,B4,B5,B7⟩:=up6 e' HD hN5s e B4 B5 B7
   replace hf:=hf.kp [1,4,5,9,10,11,31]
   refine aF T76 hf rfl rfl (bk _) B5 rfl (bc _) fun w hg' hsz B5 hf=>?_
   replace e:=e.gr hg' (by omega);replace B4:=B4.gr hg' (by omega);replace HD:=Dv.grN HD hg' (fun bb hb=>nV bb (by cases hb;omega));replace hN5s:=Nat.le_trans hN5s hg'.size;clear hg' B7
   refine aa <| rgN 1 hf <| st ((add rfl rfl (by omega)).eq (iN k)) <| en fun a w e' hf=>?_
   obtain⟨HD,hN5s,e,B4,B5⟩:=up5 e' HD hN5s e B4 B5
   refine tP hf (mv rfl) fun a w e' hf=>?_
   obtain⟨HD,hN5s,e,B4,B5⟩:=up5 e' HD hN5s e B4 B5
   refine aa ?_
   replace hf:=hf.keep [1,4,5,9,10,11]
   refine⟨_,?_,k+1,rfl,by omega,hf,e,?_⟩
   ·omega
   rw[hS]
   exact⟨B4,B5,HD,hN5s⟩
  ·have hS':nbI id S y=S:=by rw[nbI,if_neg h1,if_neg h2]
   rw[hS'] at hS
   refine seq <| rgN 3 hf <| st (fA U62 rfl T3 rfl) <| st (ld1 T3 rfl B7 rfl) <| st ((eql rfl rfl).eq (congrArg Value.bool (decide_eq_false h1))) <| en fun a w e' hf=>?_
   obtain⟨HD,hN5s,e,B4,B5,B7⟩:=up6 e' HD hN5s e B4 B5 B7
   refine tA hf rfl fun a hf=>aa <| ifF hf rfl ?_
   refine seq <| rgN 3 hf <| st (fA U62 rfl T3 rfl) <| st (ld1 T3 rfl B7 rfl) <| st ((eql rfl rfl).eq (congrArg Value.bool (decide_eq_false h2))) <| en fun a w e' hf=>?_
   obtain⟨HD,hN5s,e,B4,B5,B7⟩:=up6 e' HD hN5s e B4 B5 B7
   refine tA hf rfl fun a hf=>aa <| ifF hf rfl ?_
   refine aj <| rgN 1 hf <| st ((add rfl rfl (by omega)).eq (iN k)) <| en fun a w e' hf=>?_
   obtain⟨HD,hN5s,e,B4,B5⟩:=up5 e' HD hN5s e B4 B5
   refine tP hf (mv rfl) fun a w e' hf=>?_
   obtain⟨HD,hN5s,e,B4,B5⟩:=up5 e' HD hN5s e B4 B5
   refine aa ?_
   replace hf:=hf.kp [1,4,5,9,10,11]
   refine⟨_,?_,k+1,rfl,by omega,hf,e,?_⟩
   ·omega
   rw[hS]
   exact⟨B4,B5,HD,hN5s⟩
 ·obtain rfl:=dnE hc hk
  rw[List.take_length] at B5
  replace hf:=hf.kp [4,5]
  refine seq <| rgN 1 hf <| st ((ldW T76 rfl B5 rfl).eq ((rfl:_=ae (nbG g.2 id)))) <| en fun a w e' hf=>?_
  obtain⟨HD,hN5s,e,B4,B5⟩:=up5 e' HD hN5s e B4 B5
  haveI hinr:∀G0,InR (GB W G0) (some b4):=fun G0=>InR.gb (by omega)
  refine aF T76 hf rfl rfl (bk _) B4 rfl (rfl) fun w hg hsz B4 hf=>?_
  replace HD:=Dv.grN HD hg (fun bb hb=>nV bb (by cases hb;omega))
  obtain⟨hN5s,e,B5⟩:=gr3 hg hN5s e B5
  refine aa <| ak (dX rfl T76 hf rfl B4 (bc _) ?_)
  exact⟨_,rfl,e,rfl⟩
def nbL (g:GT)(s:List Nat):List (Int×BS):=s.map fun n:Nat=>((n:Int),nbG g.2 (n:Int))
theorem a0g {g:GT}{s:List Nat}{x:Nat}(hx:x ∉ s):(aV (nbL g s) (x:Int) (nbG g.2 x)).Perm (nbL g (s++[x])):=by
 have hf:(nbL g s).filter (fun p => !decide (p.1=(x:Int)))=nbL g s:=by
  rw[List.filter_eq_self]
  intro p hp
  obtain⟨n,hn,rfl⟩:=List.mem_map.1 hp
  have:n≠x:=fun e=>hx (by rw[← e];exact hn)
  simp;omega
 rw[aV,hf,nbL,nbL,List.map_append]
 exact List.perm_append_comm (l₁:=[((x:Int),nbG g.2 x)])
structure NJ (W:World)(g:GT)(v:Value)(b1 b3 bm:Nat)(s:List Nat)(w:World):Prop where
 e:Ext W w
 t:Tab w
 p1:Blk w b1 #[v] 26
 p3:Blk w b3 #[.map (some bm)] 77
 m:MpR sKV w bm s.length (nbL g s)
theorem NJ.kp {W:World}{g:GT}{v:Value}{b1 b3 bm:Nat}{s:List Nat}{B:Nat}{w w':World}(h:NJ W g v b1 b3 bm s w)(k:Kp B w w')(hW:W.heap.size≤B)(h0:0<B)(l1:b1<B)(l3:b3<B)(lm:bm<B):NJ W g v b1 b3 bm s w':=
 ⟨h.e.kp k hW,h.t.kp k h0,h.p1.kp k (fun hh=>by have:=hh.1;omega),h.p3.kp k (fun hh=>by have:=hh.1;omega),h.m.pres (k.same bm h.m.lt (fun hh=>by have:=hh.1;omega))⟩

theorem OwR.neDs {α:Type}{e:Enc α}{ty:TypeId}{B:Nat}{G:Nat→Prop}{w:World}{xs:List α}{u:Value}(h:OwR e ty B G w xs u){D:List Nat}(hD:Ds D w){d:Nat}(hd:d∈D):u.ownBlock≠some d:=fun hu=>by
 obtain⟨cs,h1,_⟩:=h.own
 rcases h1.2 with ⟨rfl,_⟩|⟨g',cap,cur,rfl,_,hg,_⟩
 ·simp[Value.ownBlock] at hu
 ·simp only[Value.ownBlock,Option.some.injEq] at hu
  subst hu
  exact hD.ne (show Blk w g' cur ty from hg) hd
theorem Chg.row {w w':World}{row:Option Nat}(hg:w.grownBy w' row):Chg (fun b=>row=some b) w w':=⟨hg.os,hg.tape,hg.output,hg.size,fun b hb hn=>hg.block b hb fun he=>hn he.symm⟩
section
variable {W:World}{N:Nat}{l0:List (Int×BS)}{all:BS}{wd:Int}{b1 b2 b3 b4 bm:Nat}{nv:Value}{b6 b7 b8 b9:Nat}{nv6:Value}{w w':World}
end
def nbA (g:GT):Int→BS:=lkS (nbL g (ai (vset g.1)))
def rN (l:List Nat):List Int:=l.map fun i:Nat=>(i:Int)
def dS (g:GT):List Nat:=grF (nbA g) (vset g.1) (rsR (nbA g) (vset g.1) 0) (card (vset g.1)) 0

def a0h (n:Nat):List VT:=(List.range n).map fun i:Nat=>((i:Int),(0,0))
def a0i (n:Nat):List ET:=((0,1),(0,0))::((0,(n:Int) - 1),(0,0))::((List.range (n - 2)).map fun i:Nat=>(((i:Int)+1,(i:Int)+2),(0,0)))
def eL (n:Nat):GT:=(a0h n,a0i n)
theorem a0j {G:Nat→Prop}(V:List VT)(E':List ET)(g:GT)(hb:∃g',ef V E'=some g'∧g'.1.Perm g.1∧g'.2.Perm g.2)(hV:∀x∈V,okD (dV x))(hE:∀x∈E',okD (dE x))(v u:Value)(W:World)(h1:(Dv (slE vtE) G V).p v W)(h2:(Dv (slE etE) G E').p u W)(hl1:V.length≤1000)(hl2:E'.length≤1000){K:Nat→Prop}(hK:∀b,K b→b<W.heap.size) :
  Calls Tryz.prog 40 #[v,u] W (Post (Tup [Dv (ptE (grE 2000)) K (some g),E (I 0)]) W):=
 Calls.mono (qF V E' v u W h1 h2 (by omega) (by omega) hV hE) fun en w' ⟨e,hq⟩=>by
  obtain⟨g',k1,k2,k3⟩:=hb
  rcases hq with ⟨g2,b1,b2,b3,q1,rfl,q3,q4,q5,q6⟩|⟨c,q0,q1,_⟩
  ·rw[k1] at q1;cases q1
   exact⟨_,rfl,e,Tup.two ((q6.perm k2 k3).dv (by omega) (fun h=>by have:=hK _ h;omega) (fun h=>by have:=hK _ h;omega) (fun h=>by have:=hK _ h;omega)) rfl⟩
  ·rw[k1] at q1;cases q1
theorem bV1 (i:Int):Tryz.prog.built 73 [(0,.int .i64 i)]=some #[.int .i64 i,.int .u8 0,.int .i64 0]:=by kernel_rfl
theorem bE2 (i j:Int):Tryz.prog.built 62 [(0,.int .i64 i),(1,.int .i64 j)]=some #[.int .i64 i,.int .i64 j,.int .u8 0,.int .i64 0]:=by kernel_rfl
theorem a0k {w0:World}{L:Env}{dst:Option Tmp}{ty:TypeId}{pos:String}{aft:Array Edge}{g:Option (Nat×Bool)}{x:Operand}(i:Int)(h:opd L x=some (E (I i))):OpC Tryz.prog w0 L ⟨dst,.build 73 #[(0,x)],ty,pos,aft,g⟩ (E (vtV (i,(0,0)))):=
 bI [(0,_)] (by simp only[List.map_cons,List.map_nil,h]) (bV1 i)
theorem iS {w0:World}{L:Env}{dst:Option Tmp}{ty:TypeId}{pos:String}{aft:Array Edge}{g:Option (Nat×Bool)}{x y:Operand}(i j:Int)(h:opd L x=some (E (I i)))(h':opd L y=some (E (I j))):OpC Tryz.prog w0 L ⟨dst,.build 62 #[(0,x),(1,y)],ty,pos,aft,g⟩ (E (etV ((i,j),(0,0)))):=
 bI [(0,_),(1,_)] (by simp only[List.map_cons,List.map_nil,h,h']) (bE2 i j)
theorem mL {g:GT}{i:Nat}(G:Gr.Ok g):(vset g.1).getLsbD i=true↔∃x∈g.1,x.1=(i:Int):=by
 by_cases hi:i<1024
 ·rw[vset,qc i hi,Bool.or_eq_true,decide_eq_true_eq,List.mem_map]
  exact⟨fun h=>h.elim (fun h=>absurd h (aU i)) id,.inr⟩
 ·constructor
  ·intro h;exact absurd (aA h) hi
  ·rintro⟨x,hx,h⟩
   have:=gO (G.rv x hx).1
   omega
theorem gQ {g:GT}{i:Nat}(G:Gr.Ok g):(vset g.1).getLsbD i=true↔inV g.1 (i:Int)=true:=by
 rw[mL G,inV,List.any_eq_true]
 exact⟨fun⟨x,h1,h2⟩=>⟨x,h1,by simpa using h2⟩,fun⟨x,h1,h2⟩=>⟨x,h1,by simpa using h2⟩⟩
def Adj (g:GT)(i j:Nat):Prop:=∃x∈g.2,x.1=((i:Int),(j:Int))∨x.1=((j:Int),(i:Int))
theorem Adj.symm {g:GT}{i j:Nat}(h:Adj g i j):Adj g j i:=by obtain⟨x,h1,h2⟩:=h;exact⟨x,h1,h2.symm⟩
theorem Adj.inn {g:GT}{i j:Nat}(G:Gr.Ok g)(h:Adj g i j):(vset g.1).getLsbD i=true∧(vset g.1).getLsbD j=true∧i≠j:=by
 obtain⟨x,h1,h2⟩:=h
 obtain⟨q1,q2,q3,_⟩:=G.re x h1
 rcases h2 with h2|h2 <;> rw[h2] at q1 q2 q3 <;> dsimp only at q1 q2 q3
 ·exact⟨(gQ G).2 q2,(gQ G).2 q3,by omega⟩
 ·exact⟨(gQ G).2 q3,(gQ G).2 q2,by omega⟩
theorem rO {E:List ET}(h:∀x∈E,x.1.1<x.1.2∧(0≤x.1.1∧x.1.1<1024)∧(0≤x.1.2∧x.1.2<1024))(i j:Nat):(nbG E (i:Int)).getLsbD j=true↔∃x∈E,x.1=((i:Int),(j:Int))∨x.1=((j:Int),(i:Int)):=by
 have key:∀(E:List ET) (S:BS),(∀x∈E,x.1.1<x.1.2∧(0≤x.1.1∧x.1.1<1024)∧(0≤x.1.2∧x.1.2<1024))→((E.foldl (nbI (i:Int)) S).getLsbD j=true↔S.getLsbD j=true∨∃x∈E,x.1=((i:Int),(j:Int))∨x.1=((j:Int),(i:Int))):=by
  intro E
  induction E with
  | nil=>intro S _;simp
  | cons x E ih=>
   intro S hE
   rw[List.foldl_cons,ih _ fun y hy=>hE y (by simp[hy])]
   obtain⟨⟨p,q⟩,c⟩:=x
   obtain⟨h1,h2,h3⟩:=hE _ (List.mem_cons_self)
   dsimp only at h1 h2 h3
   obtain⟨p',rfl⟩:=Int.eq_ofNat_of_zero_le h2.1
   obtain⟨q',rfl⟩:=Int.eq_ofNat_of_zero_le h3.1
   have hn:(nbI (i:Int) S (((p':Int),(q':Int)),c)).getLsbD j=true↔S.getLsbD j=true∨(i=p'∧j=q')∨(i=q'∧j=p'):=by
    unfold nbI
    by_cases e1:(i:Int)=(p':Int)
    ·rw[if_pos e1,bE S (by omega)]
     constructor
     ·rintro (h|h)
      ·exact .inl h
      ·exact .inr (.inl ⟨by omega,h⟩)
     ·rintro (h|h|h)
      ·exact .inl h
      ·exact .inr h.2
      ·omega
    ·rw[if_neg e1]
     by_cases e2:(i:Int)=(q':Int)
     ·rw[if_pos e2,bE S (by omega)]
      constructor
      ·rintro (h|h)
       ·exact .inl h
       ·exact .inr (.inr ⟨by omega,h⟩)
      ·rintro (h|h|h)
       ·exact .inl h
       ·omega
       ·exact .inr h.2
     ·rw[if_neg e2]
      constructor
      ·exact .inl
      ·rintro (h|h|h)
       ·exact h
       ·omega
       ·omega
   rw[hn]
   simp only[List.mem_cons,exists_eq_or_imp,Prod.mk.injEq,Int.ofNat_eq_natCast]
   constructor
   ·rintro ((h|h)|h)
    ·exact .inl h
    ·exact .inr (.inl (by omega))
    ·exact .inr (.inr h)
   ·rintro (h|h|h)
    ·exact .inl (.inl h)
    ·exact .inl (.inr (by omega))
    ·exact .inr h
 rw[nbG,key E 0 h]
 exact⟨fun h=>h.elim (fun h=>absurd h (aU j)) id,.inr⟩
theorem rP {g:GT}(G:Gr.Ok g):∀x∈g.2,x.1.1<x.1.2∧(0≤x.1.1∧x.1.1<1024)∧(0≤x.1.2∧x.1.2<1024):=fun x hx=>by
 obtain⟨h1,h2,h3,_⟩:=G.re x hx
 exact⟨h1,jP G h2,jP G h3⟩
theorem a0l {g:GT}{i:Nat}:nbA g (i:Int)=if (vset g.1).getLsbD i=true then nbG g.2 (i:Int) else 0:=by
 have hl:∀(s:List Nat),lkS (nbL g s) (i:Int)=if i∈s then nbG g.2 (i:Int) else 0:=by
  intro s
  induction s with
  | nil=>rfl
  | cons a s ih=>
   rw[lkS,nbL,List.map_cons,List.find?_cons] at *
   by_cases ha:a=i
   ·subst ha;simp
   ·have h1:decide (((a:Int),nbG g.2 (a:Int)).1=(i:Int))=false:=decide_eq_false fun h=>ha (by dsimp only at h;omega)
    rw[h1]
    have h2:(i∈a::s)↔i∈s:=by rw[List.mem_cons];exact⟨fun h=>h.elim (fun h=>absurd h.symm ha) id,.inr⟩
    simp only[h2]
    exact ih
 rw[nbA,hl]
 by_cases h:(vset g.1).getLsbD i=true
 ·rw[if_pos h,if_pos (aD.2 ⟨aA h,h⟩)]
 ·rw[if_neg h,if_neg fun hh=>h (aD.1 hh).2]
theorem cQ {g:GT}(G:Gr.Ok g){i j:Nat}:(nbA g (i:Int)).getLsbD j=true↔Adj g i j:=by
 rw[a0l]
 constructor
 ·intro h
  split at h
  ·exact (rO (rP G) i j).1 h
  ·exact absurd h (aU j)
 ·intro h
  rw[if_pos (h.inn G).1]
  exact (rO (rP G) i j).2 h
theorem a0m (S:BS)(n:Int):card (ins S n)≤card S+1:=by
 by_cases hf:cq n=true
 ·obtain⟨h1,h2⟩:=cV.1 hf
  obtain⟨p,rfl⟩:=Int.eq_ofNat_of_zero_le h1
  have hp:p<1024:=by omega
  by_cases hb:S.getLsbD p=true
  ·have:ins S (p:Int)=S:=cG fun i=>by rw[bE S hp];exact⟨fun h=>h.elim id fun h=>by rw[h];exact hb,.inl⟩
   rw[this];omega
  ·have h1:card (ins (0:BS) (p:Int))=1:=gP (p:=p) fun i=>by
    rw[bE 0 hp];exact⟨fun h=>h.elim (fun h=>absurd h (aU i)) id,.inr⟩
   rw[jV (S:=S) (T:=ins 0 (p:Int)) (U:=ins S (p:Int)) (fun i=>by
    rw[bE S hp,bE 0 hp]
    exact⟨fun h=>h.imp id .inr,fun h=>h.imp id fun h=>h.elim (fun h=>absurd h (aU i)) id⟩) (fun i hi=>by
    rw[bE 0 hp] at hi
    obtain⟨h3,h4⟩:=hi
    rcases h4 with h4|h4
    ·exact aU i h4
    ·rw[h4] at h3;exact hb h3),h1]
   exact Nat.le_refl _
 ·rw[ins,if_neg hf];omega
theorem a0n (l:List Int):∀S:BS,card (l.foldl ins S)≤card S+l.length:=by
 induction l with
 | nil=>intro S;rw[List.foldl_nil,List.length_nil,Nat.add_zero];exact Nat.le_refl _
 | cons n l ih=>
  intro S
  have h1:=ih (ins S n)
  have h2:=a0m S n
  rw[List.foldl_cons,List.length_cons];omega
theorem a0o (g:GT):card (vset g.1)≤g.1.length:=by
 have h0:card ((g.1.map (·.1)).foldl ins 0)≤card (0:BS)+(g.1.map (·.1)).length:=a0n _ 0
 rw[List.length_map,iP,Nat.zero_add] at h0
 exact h0
theorem a0p {g:GT}(G:Gr.Ok g)(hl:g.1.length≤12){all:BS}(ha:∀i,all.getLsbD i=true→(vset g.1).getLsbD i=true):Sml (nbA g) all:=
 zz (V:=vset g.1) (fun i j h=>(((cQ G).1 h).inn G).2.1) (Nat.le_trans (a0o g) hl) ha
def rQ (g:GT):Bool:=decide (g.1.Pairwise fun x y=>lt1 x.1 y.1=true)&&decide (g.2.Pairwise fun x y=>lt2 x.1 y.1=true)&&g.1.all (fun x=>dj x.1&&decide (0≤x.2.1∧x.2.1<256) && !Gr.heavy x.2.2) &&
 g.2.all (fun x=>decide (x.1.1<x.1.2)&&inV g.1 x.1.1&&inV g.1 x.1.2&&decide (0≤x.2.1∧x.2.1<256) && !Gr.heavy x.2.2)&&decide (g.2.length≤1024)
theorem a0q {g:GT}(h:rQ g=true):Gr.Ok g:=by
 simp only[rQ,Bool.and_eq_true,decide_eq_true_eq,List.all_eq_true,Bool.not_eq_true'] at h
 obtain⟨⟨⟨⟨h1,h2⟩,h3⟩,h4⟩,h5⟩:=h
 exact⟨h1,h2,fun x hx=>by have:=h3 x hx;exact⟨this.1.1,this.1.2,this.2⟩,fun x hx=>by have:=h4 x hx;exact⟨this.1.1.1.1,this.1.1.1.2,this.1.1.2,this.1.2,this.2⟩,h5⟩
def l4:List (Int×BS):=[(0,10#1024),(1,5#1024),(2,10#1024),(3,5#1024)]
def s02:BS:=[(0:Int),2].foldl ins 0
def s0:BS:=[(0:Int)].foldl ins 0
theorem nb4:nbL (eL 4) (ai (vset (eL 4).1))=l4:=by decide +kernel
theorem v4:vset (eL 4).1=15#1024:=by decide +kernel
theorem na4:nbA (eL 4)=lkS l4:=by rw[nbA,nb4]
theorem w4':rsR (lkS l4) 15#1024 0=2:=by decide +kernel
theorem w4:rsR (nbA (eL 4)) (vset (eL 4).1) 0=2:=by rw[na4,v4];exact w4'
theorem p4':rsR (lkS l4) s02 0=2:=by decide +kernel
theorem p4:rsR (nbA (eL 4)) s02 0=2:=by rw[na4];exact p4'
theorem q4:s02 &&& ~~~(vset (eL 4).1)=0:=by decide +kernel
theorem o4':rN (grF (lkS l4) 15#1024 2 (card 15#1024) 0)=[0,1,2,3]:=by decide +kernel
theorem o4:rN (dS (eL 4))=[0,1,2,3]:=by rw[dS,w4,na4,v4];exact o4'
end Go.Mono
namespace Go.Mono
open Go Go.Proofs Go.RowKit Go.ChangeShapes Go.WideShapes Go.Gr

theorem rR:Tryz.prog.cellsOf 5=1:=by kernel_rfl
theorem rS:Tryz.prog.cellsOf 45=3:=by kernel_rfl
theorem rT:Tryz.prog.cellsOf 51=4:=by kernel_rfl
theorem a0r:Tryz.prog.cellsOf 22=1:=by kernel_rfl
theorem a0s:Tryz.prog.cellsOf 23=1:=by kernel_rfl
theorem a0t:Tryz.prog.cellsOf 25=2:=by kernel_rfl
theorem a0u:Tryz.prog.cellTypes Tryz.prog.depth 25=some [22,23]:=by kernel_rfl
theorem rU {z:Int}(h:(Lit.int .u8 z).wf=true):0≤z∧z<256:=by
 have h1:IntKind.u8.min=0:=by decide
 have h2:IntKind.u8.max=255:=by decide
 simp only[Lit.wf,h1,h2,Bool.and_eq_true,decide_eq_true_eq] at h
 omega
theorem ge {cs:List Value}{j:Nat}{v:Value}(h:(cs.drop j).take 1=[v]):cs[j]?=some v:=by
 have h3:=congrArg (fun l:List Value=>l[0]?) h
 simp only[List.getElem?_cons_zero] at h3
 rw[List.getElem?_take,if_pos (by decide),List.getElem?_drop,Nat.add_zero] at h3
 exact h3
def vC (x:VT):List Value:=[I x.1,.int .u8 x.2.1,I x.2.2]
def eC (x:ET):List Value:=[I x.1.1,I x.1.2,.int .u8 x.2.1,I x.2.2]
section
variable {H:Type}{enc:TypeId×Value→H}{w:World}{base:Nat}{spare:Nat→Bool}{held:Bool}
theorem a0v {n:Nat}{cs:List Value}{x:DataW H×List MemPlace}(h:DataW.trod enc Tryz.prog w base spare held n 45 cs=some x):∃d:VT,cs=vC d∧(0≤d.2.1∧d.2.1<256):=by
 obtain⟨xs,m,_,_,hl,hlen,hf⟩:=DataW.trod_struct U45 h
 rw[rS] at hl
 have hx:∀i,i<3→∃y,xs[i]?=some y:=fun i hi=>⟨_,List.getElem?_eq_getElem (by rw[hlen];exact hi)⟩
 obtain⟨y0,e0⟩:=hx 0 (by decide)
 obtain⟨y1,e1⟩:=hx 1 (by decide)
 obtain⟨y2,e2⟩:=hx 2 (by decide)
 have h0:=hf 0 _ rfl
 have h1:=hf 1 _ rfl
 have h2:=hf 2 _ rfl
 rw[e0] at h0;rw[e1] at h1;rw[e2] at h2
 change DataW.trod enc Tryz.prog w base spare held m 3 ((cs.drop 0).take (Tryz.prog.cellsOf 3))=some y0 at h0
 change DataW.trod enc Tryz.prog w base spare held m 5 ((cs.drop 1).take (Tryz.prog.cellsOf 5))=some y1 at h1
 change DataW.trod enc Tryz.prog w base spare held m 3 ((cs.drop 2).take (Tryz.prog.cellsOf 3))=some y2 at h2
 rw[rC] at h0 h2
 rw[rR] at h1
 obtain⟨z0,q0,_,_⟩:=DataW.trod_int U3 h0
 obtain⟨z1,q1,_,hwf⟩:=DataW.trod_int U5 h1
 obtain⟨z2,q2,_,_⟩:=DataW.trod_int U3 h2
 refine⟨(z0,z1,z2),List.ext_getElem? fun j=>?_,rU hwf⟩
 match j with
 | 0=>rw[ge q0];rfl
 | 1=>rw[ge q1];rfl
 | 2=>rw[ge q2];rfl
 | j+3=>
  rw[List.getElem?_eq_none (by omega),List.getElem?_eq_none]
  show 3≤j+3
  omega
theorem a0w {n:Nat}{cs:List Value}{x:DataW H×List MemPlace}(h:DataW.trod enc Tryz.prog w base spare held n 51 cs=some x):∃d:ET,cs=eC d∧(0≤d.2.1∧d.2.1<256):=by
 obtain⟨xs,m,_,_,hl,hlen,hf⟩:=DataW.trod_struct U51 h
 rw[rT] at hl
 have hx:∀i,i<4→∃y,xs[i]?=some y:=fun i hi=>⟨_,List.getElem?_eq_getElem (by rw[hlen];exact hi)⟩
 obtain⟨y0,e0⟩:=hx 0 (by decide)
 obtain⟨y1,e1⟩:=hx 1 (by decide)
 obtain⟨y2,e2⟩:=hx 2 (by decide)
 obtain⟨y3,e3⟩:=hx 3 (by decide)
 have h0:=hf 0 _ rfl
 have h1:=hf 1 _ rfl
 have h2:=hf 2 _ rfl
 have h3:=hf 3 _ rfl
 rw[e0] at h0;rw[e1] at h1;rw[e2] at h2;rw[e3] at h3
 change DataW.trod enc Tryz.prog w base spare held m 3 ((cs.drop 0).take (Tryz.prog.cellsOf 3))=some y0 at h0
 change DataW.trod enc Tryz.prog w base spare held m 3 ((cs.drop 1).take (Tryz.prog.cellsOf 3))=some y1 at h1
 change DataW.trod enc Tryz.prog w base spare held m 5 ((cs.drop 2).take (Tryz.prog.cellsOf 5))=some y2 at h2
 change DataW.trod enc Tryz.prog w base spare held m 3 ((cs.drop 3).take (Tryz.prog.cellsOf 3))=some y3 at h3
 rw[rC] at h0 h1 h3
 rw[rR] at h2
 obtain⟨z0,q0,_,_⟩:=DataW.trod_int U3 h0
 obtain⟨z1,q1,_,_⟩:=DataW.trod_int U3 h1
 obtain⟨z2,q2,_,hwf⟩:=DataW.trod_int U5 h2
 obtain⟨z3,q3,_,_⟩:=DataW.trod_int U3 h3
 refine⟨((z0,z1),(z2,z3)),List.ext_getElem? fun j=>?_,rU hwf⟩
 match j with
 | 0=>rw[ge q0];rfl
 | 1=>rw[ge q1];rfl
 | 2=>rw[ge q2];rfl
 | 3=>rw[ge q3];rfl
 | j+4=>
  rw[List.getElem?_eq_none (by omega),List.getElem?_eq_none]
  show 4≤j+4
  omega
theorem rV {α:Type}{c:α→List Value}{k:Nat}(hk:∀x,(c x).length=k){a:Addr}{f:Nat→α}:∀(n s:Nat),(∀i,s≤i→i<s+n→∀j u,(c (f i))[j]?=some u→w.cell? (a.add (i * k+j))=some u)→∀j u,(((List.range' s n).map f).flatMap c)[j]?=some u→w.cell? (a.add (s * k+j))=some u
 | 0,s,h,j,u,hu=>by simp at hu
 | n+1,s,h,j,u,hu=>by
  have hln:=hk (f s)
  rw[List.range'_succ,List.map_cons,List.flatMap_cons] at hu
  by_cases hj:j<k
  ·rw[List.getElem?_append_left (by rw[hln];exact hj)] at hu
   exact h s (Nat.le_refl _) (by omega) j u hu
  ·rw[List.getElem?_append_right (by rw[hln];omega),hln] at hu
   have:=rV hk n (s+1) (fun i h1 h2=>h i (by omega) (by omega)) (j - k) u hu
   rwa [show (s+1) * k+(j - k)=s * k+j by rw[Nat.succ_mul];omega] at this
theorem rW {G:Nat→Prop}:∀l:List VT,Cells vtE G w l (l.flatMap vC)
 | []=>rfl
 | d::l=>⟨vC d,_,rfl,⟨[I d.1],[.int .u8 d.2.1,I d.2.2],rfl,rfl,[.int .u8 d.2.1],[I d.2.2],rfl,rfl,rfl⟩,rW l⟩
theorem rX {G:Nat→Prop}:∀l:List ET,Cells etE G w l (l.flatMap eC)
 | []=>rfl
 | d::l=>⟨eC d,_,rfl,⟨[I d.1.1,I d.1.2],[.int .u8 d.2.1,I d.2.2],rfl,⟨[I d.1.1],[I d.1.2],rfl,rfl,rfl⟩,[.int .u8 d.2.1],[I d.2.2],rfl,rfl,rfl⟩,rX l⟩
set_option maxRecDepth 100000 in
theorem rY {α:Type}[Inhabited α]{e:Enc α}{c:α→List Value}{Q:α→Prop}{k:Nat}{t te:TypeId}(ht:Tryz.prog.underlying t=some (.slice te))(hte:Tryz.prog.cellsOf te=k)(hk0:0<k)(hk:∀x,(c x).length=k)
  (hel:∀(n:Nat) (cs:List Value) (x:DataW H×List MemPlace),DataW.trod enc Tryz.prog w 0 spare held n te cs=some x→∃d,cs=c d∧Q d) (hall':∀l:List α,Cells e G0 w l (l.flatMap c))
  {v:Value} {x:DataW H×List MemPlace} {fuel b0:Nat} (hok:Value.okWide Tryz.prog w .any b0 t v) (hf:DataW.trod enc Tryz.prog w 0 spare held fuel t v.cells.toList=some x):∃l:List α,(Dv (slE e) G0 l).p v w∧∀d∈l,Q d:=by
 obtain⟨a0,n0,c0,rfl⟩:=okWide_slice ht hok
 rcases Deep.open_slice ht hf with ⟨hcs,_⟩|⟨a,len,cap,m,n,D,Pl,hcs,_,hlc,_,hm,_,hall⟩
 ·simp[Value.cells] at hcs
  obtain⟨rfl,rfl,rfl⟩:=hcs
  exact⟨[],Dv.nil,by simp⟩
 ·simp[Value.cells] at hcs
  obtain⟨rfl,rfl,rfl⟩:=hcs
  have hlm:n0≤m:=by rw[hm];split <;> omega
  have each:∀i,i<n0→∃b:α,Q b∧∀j u,(c b)[j]?=some u→w.cell? (a.add (i * k+j))=some u:=by
   intro i hi
   obtain⟨cs',h1,h2⟩:=hall i (by omega)
   rw[hte] at h1
   obtain⟨_,hlen,hcell⟩:=World.cells?_some h1
   obtain⟨b,rfl,hb⟩:=hel _ _ _ h2
   refine⟨b,hb,fun j u hu=>?_⟩
   have hj:j<k:=by have:=(List.getElem?_eq_some_iff.1 hu).1;rwa [hk] at this
   have:=hcell j hj
   rw[Deep.add_add] at this
   rw[this];exact hu
  obtain⟨f,hf'⟩:=Deep.choose_lt each
  by_cases h0:n0=0
  ·subst h0
   have hb:a.block<w.heap.size:=by
    have h1:Cell.ok Tryz.prog w .any b0 t (.slice (some a) 0 c0):=by
     have:=hok
     simpa[Value.okWide,Cell.okWide,ht] using this
    have h2:0≤c0∧(c0:Int)≤IntKind.i64.max∧w.has Tryz.prog .any b0 a te c0:=by
     simpa[Cell.ok,ht] using h1
    have h3:=h2.2.2.2.2
    obtain⟨row,h3⟩:=h3
    obtain⟨cells,h3⟩:=h3
    have h4:=h3.1
    apply Classical.byContradiction
    intro hn
    have:w.heap[a.block]?=none:=Array.getElem?_eq_none (by omega)
    simp[World.shape?,this] at h4
   exact⟨[],Dv.sl.2 (.inr ⟨a,c0,[],rfl,by simp,fun hg=>hg.elim,hb,rfl,fun j u hu=>by simp at hu⟩),by simp⟩
  ·refine⟨(List.range n0).map f,Dv.sl.2 (.inr ⟨a,c0,((List.range n0).map f).flatMap c,by simp,by simpa using hlc,fun hg=>hg.elim,?_,hall' _,fun j u hu=>?_⟩),?_⟩
   ·obtain⟨u,hu⟩:∃u,(c (f 0))[0]?=some u:=⟨_,List.getElem?_eq_getElem (by rw[hk];exact hk0)⟩
    have:=(hf' 0 (by omega)).2 0 u hu
    have:=World.block_lt_of_cell? w _ this
    simpa[add_block] using this
   ·rw[List.range_eq_range'] at hu
    have:=rV (w:=w) hk (a:=a) (f:=f) n0 0 (fun i _ hi j u hu=>(hf' i (by omega)).2 j u hu) j u hu
    simpa using this
   ·intro d hd
    obtain⟨i,hi,rfl⟩:=List.mem_map.1 hd
    exact (hf' i (List.mem_range.1 hi)).1
theorem a0x {P:Program}{t:TypeId}{fs:Array Field}(ht:P.underlying t=some (.struct fs)){r:Reach}{b0:Nat}{v:Value}(h:Value.okWide P w r b0 t v):∃cs,v=.agg cs∧cs.size=P.cellsOf t∧Row.okWide P w r b0 t cs:=by
 simp only[Value.okWide,ht] at h
 exact h
theorem kg {P:Program}{t te:TypeId}(ht:P.underlying t=some (.slice te)){r:Reach}{b0:Nat}{v:Value}(h:Cell.okWide P w r b0 t v):Value.okWide P w r b0 t v:=by
 simp only[Value.okWide,ht]
 exact h
set_option maxRecDepth 100000 in
theorem open_g {v:Value}{d:DataW H}{ps:List MemPlace}{b0:Nat}(hok:Value.okWide Tryz.prog w .any b0 25 v)(h:DataW.Trod enc Tryz.prog w 0 spare held 25 v d ps):∃g:GT,(Dv gtE G0 g).p v w∧(∀x∈g.1,0≤x.2.1∧x.2.1<256)∧∀x∈g.2,0≤x.2.1∧x.2.1<256:=by
 obtain⟨fuel,hf⟩:=h
 obtain⟨cs,rfl,hsz,ts,hts,_,hrow⟩:=a0x U25 hok
 rw[a0u] at hts
 cases hts
 rw[a0t] at hsz
 obtain⟨u1,u2,rfl⟩:∃u1 u2,cs = #[u1,u2]:=by
  obtain⟨cs⟩:=cs
  match cs,hsz with
  | [u1,u2],_=>exact⟨u1,u2,rfl⟩
 obtain⟨t1,q1,k1⟩:=hrow 0 u1 rfl
 obtain⟨t2,q2,k2⟩:=hrow 1 u2 rfl
 cases q1;cases q2
 obtain⟨y0,y1,n,_,_,h0,h1⟩:=trod_struct2 U25 hf
 have e1:u1.cells.toList=[u1]:=by
  obtain⟨a0,n0,c0,rfl⟩:=okWide_slice U22 (kg U22 k1)
  rfl
 have e2:u2.cells.toList=[u2]:=by
  obtain⟨a0,n0,c0,rfl⟩:=okWide_slice U23 (kg U23 k2)
  rfl
 have h0':DataW.trod enc Tryz.prog w 0 spare held n 22 u1.cells.toList=some y0:=by
  rw[e1]
  change DataW.trod enc Tryz.prog w 0 spare held n 22 (([u1,u2].drop 0).take (Tryz.prog.cellsOf 22))=some y0 at h0
  rw[a0r] at h0
  exact h0
 have h1':DataW.trod enc Tryz.prog w 0 spare held n 23 u2.cells.toList=some y1:=by
  rw[e2]
  change DataW.trod enc Tryz.prog w 0 spare held n 23 (([u1,u2].drop 1).take (Tryz.prog.cellsOf 23))=some y1 at h1
  rw[a0s] at h1
  exact h1
 obtain⟨V,g1,g2⟩:=rY (e:=vtE) (c:=vC) (k:=3) U22 rS (by decide) (fun _=>rfl) (fun n cs x h=>a0v h) rW (kg U22 k1) h0'
 obtain⟨E',g3,g4⟩:=rY (e:=etE) (c:=eC) (k:=4) U23 rT (by decide) (fun _=>rfl) (fun n cs x h=>a0w h) rX (kg U23 k2) h1'
 exact⟨(V,E'),Dv.gt.2 ⟨_,_,rfl,g1,g3⟩,g2,g4⟩
end
end Go.Mono
namespace Go.Proofs.YtbjangoghokneaaGreatDoor
open Go Go.ChangeShapes Go.WideShapes Go.ChangeAt Go.RowKit

theorem own:ownKnob Tryz.prog.godebug=none:=by kernel_rfl
theorem laidOut:laidOutB Tryz.prog=true:=by kernel_rfl
theorem rZ:Tryz.prog.globalNamed "math/bits.deBruijn64tab" = some 0:=by kernel_rfl
theorem a0y:(Tryz.prog.globals[0]?).map (·.type)=some 183:=by kernel_rfl
theorem a0z:Tryz.prog.cellsOf 183=64:=by kernel_rfl
theorem a0A:Tryz.prog.cellsOf 5=1:=by kernel_rfl
theorem a0B {W:World} (h:laidMet Tryz.prog [("math/bits.deBruijn64tab",Rows.laid_math_bits_deBruijn64tab)] W):Mono.Tab W:=by
 have h2:=Lib.tabIs_of_head (k:=.u8) (zs:=Mono.tabZ.map fun n:Nat=>(n:Int)) (rest:=[]) rZ a0y Tryz.underlying183 Tryz.underlying5 a0A a0z (show laidMet Tryz.prog (("math/bits.deBruijn64tab",Lib.tabData .u8 (Mono.tabZ.map fun n:Nat=>(n:Int)))::[]) W from h)
 intro i hi
 rw[h2.cell rZ i (by simpa[Mono.tabZ] using hi)]
 congr 2
 simp[List.getD,List.getElem?_map]
 cases Mono.tabZ[i]? <;> rfl
noncomputable def sb (os:Os):World:=
 let w0:=World.holding Tryz.prog os ⟨#[],#[],[]⟩
 { w0 with heap:=w0.heap.modify 0 fun
   | .cells _ t frozen=>.cells (Mono.tabZ.map fun n:Nat=>Value.int .u8 (n:Int)).toArray t frozen
   | o=>o }
theorem a0C (os:Os) (args:Array Value):laidMet Tryz.prog [("math/bits.deBruijn64tab",Rows.laid_math_bits_deBruijn64tab)] ((sb os).forCall (fun _ _=>0) ⟨#[],args,[]⟩).memory:=
 laidMet_of_run' 8 (by kernel_rfl) (by kernel_rfl)
end Go.Proofs.YtbjangoghokneaaGreatDoor
namespace Go.Mono
open Go Go.RowKit
theorem a0D {P:Program}(w:World)(d:Nat)(t:TypeId)(p q:Option Addr)(h:P.underlying t=some (.pointer (P.pointee t)))(hpq:p=none∨q=none):(Op.equalIn (d+1) t (.pointer p) (.pointer q)).run P w=.ok (p.isNone&&q.isNone) w:=by
 rcases hpq with rfl|rfl
 ·cases q <;> simp[Op.equalIn,run_underlying h]
 ·cases p <;> simp[Op.equalIn,run_underlying h]
theorem a0E {P:Program}(w:World)(t:TypeId)(p q:Option Addr)(h:P.underlying t=some (.pointer (P.pointee t)))(hpq:p=none∨q=none):(Op.equal t (.pointer p) (.pointer q)).run P w=.ok (p.isNone&&q.isNone) w:=a0D w 9999 t p q h hpq
theorem sc {P:Program}{w0:World}{L:Env}{dst:Option Tmp}{ty:TypeId}{pos:String}{aft:Array Edge}{g:Option (Nat×Bool)}{x y:Operand}{t yt pe:TypeId}{p q:Option Addr}(ht0:P.underlying t=some (.pointer pe))(hx:opd L x=some (E (.pointer p)))(hy:opd L y=some (E (.pointer q)))(hpq:p=none∨q=none) :
  OpC P w0 L ⟨dst,.binOp .eql t x y yt,ty,pos,aft,g⟩ (E (.bool (p.isNone&&q.isNone))):=
 jm hx hy (fun w=>rfl) rfl fun w _=>a0E w t p q (oJ ht0) hpq
end Go.Mono
namespace Go.Mono
open Go Go.Proofs Go.RowKit Go.Gr
def adC (S:BS)(m:Value):Array Value:=((aJ S).toList++[m]).toArray
theorem bAd (bm:Nat):Tryz.prog.built 79 [(1,.map (some bm))]=some (adC 0 (.map (some bm))):=by kernel_rfl
theorem aM (S:BS)(m:Value):(adC S m).size=17:=by rw[adC,List.size_toArray,List.length_append,Array.length_toList,bc];rfl
theorem a0F (S T:BS)(m:Value):(((adC S m).toList.take 0++(aJ T).toList++(adC S m).toList.drop (0+16)).toArray)=adC T m:=by
 rw[List.take_zero,List.nil_append,adC,adC]
 simp only[List.drop_append,Array.length_toList,bc]
 simp[bc]
theorem ct (S:BS)(bm:Nat):(adC S (.map (some bm))).all (·.oneCell')=true:=by
 have h:(aJ S).all (·.oneCell')=true:=bk _
 rw[adC,Array.all_eq_true_iff_forall_mem] at *
 intro x hx
 rcases List.mem_append.1 (List.mem_toArray.1 hx) with hx|hx
 ·exact h x (by simpa using hx)
 ·rw[List.mem_singleton.1 hx];rfl
theorem bN (S:BS)(m:Value):(adC S m)[16]?=some m:=by
 rw[adC,List.getElem?_toArray,List.getElem?_append_right (by rw[Array.length_toList,bc];exact Nat.le_refl _),Array.length_toList,bc];rfl
theorem bW (S:BS)(m:Value):(adC S m).extract 0 (0+16)=aJ S:=by
 apply Array.ext'
 rw[adC,Array.toList_extract]
 simp[List.extract,bc]
structure OJ (W:World)(g:GT)(S:BS)(v:Value)(b1 b2 b3 bm:Nat)(c2:Array Value)(s:List Nat)(w:World):Prop where
 e:Ext W w
 t:Tab w
 p1:Blk w b1 #[v] 26
 p2:Blk w b2 c2 79
 p3:Blk w b3 (adC S (.map (some bm))) 79
 m:MpR sKV w bm s.length (nbL g s)
theorem OJ.kp {W:World}{g:GT}{S:BS}{v:Value}{b1 b2 b3 bm:Nat}{c2:Array Value}{s:List Nat}{B:Nat}{w w':World}(h:OJ W g S v b1 b2 b3 bm c2 s w)(k:Kp B w w')(hW:W.heap.size≤B)(h0:0<B)(l1:b1<B)(l2:b2<B)(l3:b3<B)(lm:bm<B):OJ W g S v b1 b2 b3 bm c2 s w':=
 ⟨h.e.kp k hW,h.t.kp k h0,h.p1.kp k (fun hh=>by have:=hh.1;omega),h.p2.kp k (fun hh=>by have:=hh.1;omega),h.p3.kp k (fun hh=>by have:=hh.1;omega),h.m.pres (k.same bm h.m.lt (fun hh=>by have:=hh.1;omega))⟩
theorem mM {G:Nat→Prop}{N:Nat}(g:GT)(v:Value)(W:World)(hT:Tab W)(h:(Dv (ptE (grE N)) G (some g)).p v W)(gs1:g.1.Pairwise fun x y=>lt1 x.1 y.1=true)(gs2:g.2.Pairwise fun x y=>lt2 x.1 y.1=true)(hl1:g.1.length≤100000)(hl2:g.2.length≤100000)(hN:N≤1000000) :
  Calls Tryz.prog 46 #[v] W fun en w'=>Ext W w'∧∃mv,en=.returned (.agg (adC (vset g.1) mv))∧(Dv (mpE sKV 1024) G0 (nbL g (ai (vset g.1)))).p mv w':=by
 have hv:(Dv (ptE (grE N)) G0 (some g)).p v W:=Dv.weak h fun b _ hb=>hb.elim
 have hT0:=hT.lt
 have h1c:v.cells = #[v]:=by
  obtain⟨ad,rfl,_⟩:=Dv.pt.1 hv
  rfl
 refine dx (args:=[v]) (As:=[E v]) Tryz.func46 rfl Tryz.ntmps46 (Nat.le_of_ble_eq_true rfl) ?_ (fun a hf=>?_) (Nat.le_of_ble_eq_true rfl)
 ·exact arg1 rfl
 have e:=Ext.rfl' W
 refine seq <| ac <| tB hf rfl fun a b1 w v1 hv1 e' hb1 hs1 B1 hf=>?_
 obtain⟨hT,e⟩:=up2 e' hT e
 refine tL I79 hf fun a b2 w e' hb2 hs2 B2 hf=>?_
 obtain⟨hT,e,B1⟩:=up3 e' hT e B1
 refine aa ?_
 cases hv1
 rw[h1c] at B1
 replace hf:=hf.kp [1,2]
 refine seq <| ac <| eK sKV hf (by decide) fun a bm w e' hbm hsm HM hf=>?_
 obtain⟨e,hT⟩:=up2 e' e hT
 obtain⟨B1,B2⟩:=up2 e' B1 B2
 have hWm:W.heap.size≤bm:=by have:=e.size;omega
 have n12m:b1≠bm∧b2≠bm:=by omega
 have hNm:bm+1≤w.heap.size:=HM.lt
 refine tP hf (bI [(1,_)] rfl (bAd bm)) fun a w e' hf=>?_
 obtain⟨hT,HM,hNm,e,B1,B2⟩:=up6 e' hT HM hNm e B1 B2
 refine tL I79 hf fun a b3 w e' hb3 hs3 B3 hf=>?_
 obtain⟨hT,HM,hNm,e,B1,B2⟩:=up6 e' hT HM hNm e B1 B2
 have n3:b1≠b3∧b2≠b3∧b3≠bm∧W.heap.size≤b3:=by omega
 refine aF T79 hf rfl rfl (ct _ _) B3 rfl (aM _ _) fun w hg hsz B3 hf=>?_
 replace e:=e.gr hg (by omega);replace hT:=hT.gr hg (by omega);replace B1:=B1.gr hg (by omega);replace B2:=B2.gr hg (by omega);replace HM:=HM.gr hg (fun h=>by cases h;omega);clear hg
 refine aa ?_
 replace hf:=hf.kp [1,2,3]
 refine seq <| seq ?_
 refine rgN 2 hf <| st (ld1 (v:=v) T26 rfl B1 rfl) <| st (eZ U26 (isE rfl (vst e hv))) <| en fun a w e' hf=>?_
 obtain⟨hT,HM,e,B1,B2,B3⟩:=up6 e' hT HM e B1 B2 B3
 refine aa <| ifF hf rfl ?_
 refine aj ?_
 obtain⟨S,hS⟩:=eqX (vset g.1)
 have e0:=e
 refine seq <| rgN 3 hf <| st (ld1 (v:=v) T26 rfl B1 rfl) <| st (aw (A:=E (ae S)) wD rfl (fun v w he k=>by cases k;rw[hS];exact a0d g _ w (vst (e0.tr he) hv) gs1 hl1 hN)) ?_
 refine st (fA U79 rfl T76 rfl) <| en fun a w e' hf=>?_
 obtain⟨hT,HM,e,B1,B2,B3⟩:=up6 e' hT HM e B1 B2 B3
 refine qv T76 hf rfl rfl (bk _) B3 (bc _) (by rw[aM];decide) fun w hg hsz B3 hf=>?_
 have B3':Blk w b3 (((adC 0 (.map (some bm))).toList.take 0++(aJ S).toList++(adC 0 (.map (some bm))).toList.drop (0+16)).toArray) 79:=B3
 rw[a0F] at B3'
 replace B3:=B3'
 replace e:=e.gr hg (by omega);replace hT:=hT.gr hg (by omega);replace B1:=B1.gr hg (by omega);replace B2:=B2.gr hg (by omega);replace HM:=HM.gr hg (fun h=>by cases h;omega);clear hg
 refine aa ?_
 replace hf:=hf.keep [1,2,3]
 obtain⟨Nz,hNz⟩:=eqX w.heap.size
 have e1:=e
 have l1:=B1.lt
 have l2:=B2.lt
 have l3:=B3.lt
 have lm2:=HM.lt
 refine seq <| seq ?_
 refine rgN 3 hf <| st (fA U79 rfl T76 rfl) <| st ((ldP T76 rfl B3 (by rw[aM];decide)).eq (congrArg Value.agg (bW S (.map (some bm))))) ?_
 refine st (aw (A:=dh Nz S) dr rfl (fun v w' he h=>by cases h;exact Calls.mono (du _ w') (fun en w2 ⟨u,h1,h2,b',h3,h4,h5⟩=>⟨u,h1,h2,b',by have:=he.size;omega,h4,h5⟩))) ?_
 refine en fun a w e' hf=>?_
 obtain⟨HM,hT,e,B1,B2,B3⟩:=up6 e' HM hT e B1 B2 B3
 refine aa ?_
 obtain⟨v15,⟨b8,h8,rfl,BS⟩,hf⟩:=hf.fix 15 rfl
 replace hf:=hf.kp [1,2,3,15]
 obtain⟨c2,hc2,hB2⟩:∃c2:Array Value,c2.size=17∧Blk w b2 c2 79:=⟨_,by rfl,B2⟩
 have hBW:W.heap.size≤w.heap.size:=e.size
 have h0w:0<w.heap.size:=hT.lt
 have l1':=B1.lt
 have l2':=hB2.lt
 have l3':=B3.lt
 have lm':=HM.lt
 refine blk <| dz (S:=S) hf rfl BS (by decide) (fun s w1=>OJ W g S v b1 b2 b3 bm c2 s w1) (fun _ _=>False) (fun s w1 h=>h.t)
  ⟨e,hT,B1,hB2,B3,HM⟩ (fun s w1 w2 h hs k=>h.kp k hBW h0w l1' l2' l3' lm') (fun _ _ _ h=>h.elim) ?_ ?_ (fun _ _ _ _ _ _ h=>h.elim)
 ·intro l s x rest a1 w1 hs hJ hlw hf
  have hx1024:x<1024:=(aD.1 (by rw[hs];simp)).1
  have hxs:x ∉ s:=by
   have hn:(ai S).Nodup:=List.Nodup.sublist List.filter_sublist List.nodup_range
   rw[hs] at hn
   intro hx
   exact (List.nodup_append.1 hn).2.2 x hx x (by simp) rfl
  have hsl:s.length≤1024:=by have:=fq S;rw[hs] at this;simp at this;omega
  generalize hBz:w.heap.size=Bz at *
  refine ac <| tA hf rfl fun a hf=>aa <| ⟨Kh.rfl' _ _,fun w3 k3 hsz3=>?_⟩
  have hJ3:=hJ.kp k3 hBW h0w l1' l2' l3' lm'
  replace hf:=hf.pure w3
  obtain⟨e,hT,B1,B2,B3,HM⟩:=hJ3
  have kh:=Kh.rfl' Bz w3
  have e0:=e
  replace hf:=hf.kp [1,2,3,4]
  refine blk <| rgG 6 Mix.mix hf <| st (fA U79 rfl T77 rfl) <| st (ld1 (v:=.map (some bm)) T77 rfl B3 (bN _ _)) <| st (mv rfl) <| st (ld1 (v:=v) T26 rfl B1 rfl) <| st (mv rfl) <| st (ap (A:=E (ae (nbG g.2 (x:Int)))) wE rfl rfl (fun v u w he k1 k2=>by cases k1;cases k2;exact a0f g _ _ w (vst (e0.tr he) hv) gs2 hl2 hN)) ?_
  refine en fun a w e' hf=>?_
  obtain⟨HM,hT⟩:=up2 e' HM hT
  replace kh:=kh.tr (Kh.ext e')
  obtain⟨e,B1,B2,B3⟩:=up4 e' e B1 B2 B3
  refine dP (V:=sKV) (i:=(x:Int)) (c:=nbG g.2 (x:Int)) U77 hf rfl rfl rfl HM (by simp only[maxLen];omega) (bP (by omega) (by omega)) trivial fun w hg HM hf=>?_
  obtain⟨e,hT,B1,B2,B3⟩:=gr5 hg e hT B1 B2 B3
  replace kh:=kh.tr (Kh.gr hg (fun hh=>by have:=hh.1;omega))
  refine aa ?_
  simp only[Exit.inBlock]
  exact⟨⟨e,hT,B1,B2,B3,by rw[List.length_append];exact HM.perm (a0g hxs)⟩,kh⟩
 ·intro a' w' hf' hJ hsz hDn
  simp only[Exit.inBlock,↓reduceIte,Exit.then]
  have hD:Ds [w.heap.size] w':=(Ds.nil w').cons hDn (by simp)
  have hf:FrD 24 (bS [w.heap.size]) a' w' [(1,E (.pointer (some ⟨b1,0,none⟩))),(2,E (.pointer (some ⟨b2,0,none⟩))),(3,E (.pointer (some ⟨b3,0,none⟩)))]:=hf'.keep [1,2,3]
  have hDW:∀d∈[w.heap.size],W.heap.size≤d:=fun d hd=>by rw[List.mem_singleton] at hd;omega
  obtain⟨e,hT,B1,B2,B3,HM⟩:=hJ
  have hbD:¬bm∈[w.heap.size]:=fun h=>by rw[List.mem_singleton] at h;omega
  have hb2D:¬b2∈[w.heap.size]:=fun h=>by rw[List.mem_singleton] at h;omega
  generalize [w.heap.size]=D2 at *
  generalize w'=w at *
  refine seq <| rgN 1 hf <| st (ldW T79 rfl B3 (aM _ _)) <| en fun a w e' hf=>?_
  obtain⟨HM,e,B2,B3,hD⟩:=up5 e' HM e B2 B3 hD
  refine aF T79 hf rfl rfl (ct _ _) B2 hc2 (aM _ _) fun w hg hsz B2 hf=>?_
  replace e:=e.gr hg (by omega)
  replace hD:=hD.gr hg hb2D
  replace HM:=HM.gr hg (fun h=>by cases h;omega)
  refine aa <| ak <| me rfl T79 hf rfl B2 (aM _ _) hD ⟨e.shut hDW,.map (some bm),?_⟩
  rw[← hS]
  exact⟨rfl,[.map (some bm)],⟨bm,_,rfl,fun h=>h.elim,fq S,HM.pres (fU D2 w bm hbD)⟩,rfl⟩
def Gn (N:Nat)(g:GT):VA:=⟨fun v w=>(v=.pointer none∧g=([],[]))∨(Dv (ptE (grE N)) G0 (some g)).p v w,fun v w w' k h=>h.imp id fun h=>vst k h⟩
theorem Gn.of {G:Nat→Prop}{N:Nat}{g:GT}{v:Value}{w:World}(h:(Dv (ptE (grE N)) G (some g)).p v w):(Gn N g).p v w:=.inr (Dv.weak h fun b _ hb=>hb.elim)
theorem a0G (W:World):Calls Tryz.prog 46 #[.pointer none] W fun en w'=>Ext W w'∧∃mv,en=.returned (.agg (adC 0 mv))∧(Dv (mpE sKV 1024) G0 []).p mv w':=by
 refine dx (args:=[.pointer none]) (As:=[E (.pointer none)]) Tryz.func46 rfl Tryz.ntmps46 (Nat.le_of_ble_eq_true rfl) ?_ (fun a hf=>?_) (Nat.le_of_ble_eq_true rfl)
 ·exact arg1 rfl
 have e:=Ext.rfl' W
 refine seq <| ac <| tB hf rfl fun a b1 w v1 hv1 e' hb1 hs1 B1 hf=>?_
 replace e:=e.tr e'
 refine tL I79 hf fun a b2 w e' hb2 hs2 B2 hf=>?_
 obtain⟨e,B1⟩:=up2 e' e B1
 refine aa ?_
 cases hv1
 replace B1:Blk w b1 #[.pointer none] 26:=B1
 replace hf:=hf.kp [1,2]
 refine seq <| ac <| eK sKV hf (by decide) fun a bm w e' hbm hsm HM hf=>?_
 replace e:=e.tr e'
 obtain⟨B1,B2⟩:=up2 e' B1 B2
 have hNm:bm+1≤w.heap.size:=HM.lt
 refine tP hf (bI [(1,_)] rfl (bAd bm)) fun a w e' hf=>?_
 obtain⟨HM,hNm,e,B1,B2⟩:=up5 e' HM hNm e B1 B2
 refine tL I79 hf fun a b3 w e' hb3 hs3 B3 hf=>?_
 obtain⟨HM,hNm,e,B1,B2⟩:=up5 e' HM hNm e B1 B2
 refine aF T79 hf rfl rfl (ct _ _) B3 rfl (aM _ _) fun w hg hsz B3 hf=>?_
 replace e:=e.gr hg (by omega);replace B1:=B1.gr hg (by omega);replace B2:=B2.gr hg (by omega);replace HM:=HM.gr hg (fun h=>by cases h;omega);clear hg
 refine aa ?_
 replace hf:=hf.keep [1,2,3]
 refine seq <| seq ?_
 refine rgN 2 hf <| st (ld1 (v:=.pointer none) T26 rfl B1 rfl) <| st (sc U26 rfl rfl (.inl rfl)) <| en fun a w e' hf=>?_
 obtain⟨HM,e,B1,B2,B3⟩:=up5 e' HM e B1 B2 B3
 refine aa <| ifT hf rfl ?_
 replace hf:=hf.kp [2,3]
 refine seq <| rgN 1 hf <| st (ldW T79 rfl B3 (aM _ _)) <| en fun a w e' hf=>?_
 obtain⟨HM,e,B1,B2,B3⟩:=up5 e' HM e B1 B2 B3
 refine aF T79 hf rfl rfl (ct _ _) B2 rfl (aM _ _) fun w hg hsz B2 hf=>?_
 replace e:=e.gr hg (by omega);replace HM:=HM.gr hg (fun h=>by cases h;omega);clear hg
 refine aa <| ak <| me rfl T79 hf rfl B2 (aM _ _) (Ds.nil w) ⟨e.shut (fun d hd=>by cases hd),.map (some bm),rfl,[.map (some bm)],⟨bm,_,rfl,fun h=>h.elim,Nat.zero_le _,?_⟩,rfl⟩
 exact HM.pres (fU [] w bm (by simp))
theorem mN {N:Nat}(g:GT)(v:Value)(W:World)(hT:Tab W)(h:(Gn N g).p v W)(gs1:g.1.Pairwise fun x y=>lt1 x.1 y.1=true)(gs2:g.2.Pairwise fun x y=>lt2 x.1 y.1=true)(hl1:g.1.length≤100000)(hl2:g.2.length≤100000)(hN:N≤1000000) :
  Calls Tryz.prog 46 #[v] W fun en w'=>Ext W w'∧∃mv,en=.returned (.agg (adC (vset g.1) mv))∧(Dv (mpE sKV 1024) G0 (nbL g (ai (vset g.1)))).p mv w':=by
 rcases h with ⟨rfl,rfl⟩|h
 ·have h0:ai (vset ([]:List VT))=[]:=by
   refine List.eq_nil_iff_forall_not_mem.2 fun x hx=>aU x (aD.1 hx).2
  rw[h0]
  exact a0G W
 ·exact mM g v W hT h gs1 gs2 hl1 hl2 hN
def ofS (s:GT×Int)(d:DT):GT×Int:=if s.2≠0 then s else if (doR s.1 d).2≠0 then (([],[]),(doR s.1 d).2) else ((doR s.1 d).1,0)
def ofR (V:List VT)(E:List ET):GT×Int:=(V.map dV++E.map dE).foldl ofS (([],[]),0)
theorem mO {s:GT×Int}(h:s.2≠0)(l:List DT):l.foldl ofS s=s:=by
 induction l generalizing s with
 | nil=>rfl
 | cons d l ih=>rw[List.foldl_cons,ofS,if_pos h];exact ih h
theorem sd {l:List DT}{k:Nat}{d:DT}{s0:GT×Int}{g:GT}(h:l[k]?=some d)(hg:(l.take k).foldl ofS s0=(g,0)):(l.take (k+1)).foldl ofS s0=ofS (g,0) d:=by
 rw[bA h,List.foldl_append,hg];rfl
theorem sf {l:List DT}{k:Nat}{s0:GT×Int}{s:GT×Int}(hg:(l.take k).foldl ofS s0=s)(hs:s.2≠0):l.foldl ofS s0=s:=by
 rw[← List.take_append_drop k l,List.foldl_append,hg,mO hs]
theorem bR4 (x:DT):Tryz.prog.built 143 [(0,.int .i64 x.1),(1,.int .i64 x.2.1),(3,.int .u8 x.2.2.2.1),(4,.int .i64 x.2.2.2.2)]=some #[.int .i64 x.1,.int .i64 x.2.1,.int .i64 0,.int .u8 x.2.2.2.1,.int .i64 x.2.2.2.2]:=by kernel_rfl
theorem bR5 (x:DT):Tryz.prog.built 143 [(0,.int .i64 x.1),(1,.int .i64 x.2.1),(2,.int .i64 x.2.2.1),(3,.int .u8 x.2.2.2.1),(4,.int .i64 x.2.2.2.2)]=some #[.int .i64 x.1,.int .i64 x.2.1,.int .i64 x.2.2.1,.int .u8 x.2.2.2.1,.int .i64 x.2.2.2.2]:=by kernel_rfl
theorem a0H {G:Nat→Prop}(V:List VT)(E':List ET)(v u:Value)(W:World)(h1:(Dv (slE vtE) G V).p v W)(h2:(Dv (slE etE) G E').p u W)(hl1:V.length≤1000)(hl2:E'.length≤1000){K:Nat→Prop}(hK:∀b,K b→b<W.heap.size) :
  Calls Tryz.prog 45 #[v,u] W (Post (Tup [Dv gtE K (ofR V E').1,E (I (ofR V E').2)]) W):=by
 replace h1:(Dv (slE vtE) G0 V).p v W:=Dv.weak h1 fun b _ hb=>hb.elim
 replace h2:(Dv (slE etE) G0 E').p u W:=Dv.weak h2 fun b _ hb=>hb.elim
 refine eN [v,u] [E v,E u] Tryz.func45 Tryz.ntmps45 ?_ fun a hf=>?_
 rotate_left
 dsimp only[params,Nat.reduceAdd] at hf
 rotate_right
 ·exact arg2 rfl rfl
 have e:=Ext.rfl' W
 refine seq <| ac <| tL I25 hf fun a b4 w e' hb4 hs4 B4 hf=>?_
 replace e:=e.tr e'
 refine tA hf rfl fun a hf=>aa <| seq <| rgN 1 hf <| st (bI [] rfl jN) <| en fun a w e' hf=>?_
 obtain⟨e,B4⟩:=up2 e' e B4
 refine tL I25 hf fun a b6 w e' hb6 hs6 B6 hf=>?_
 have lt6_B4:=B4.lt
 obtain⟨e,B4⟩:=up2 e' e B4
 haveI hinr:∀G0,InR (GB W G0) (some b6):=fun G0=>InR.gb (by omega)
 refine aF T25 hf rfl rfl (bK rfl rfl) B6 rfl (rfl) fun w hg hsz B6 hf=>?_
 obtain⟨e,B4⟩:=gr2 hg e B4
 refine aa ?_
 obtain⟨G',hG'⟩:∃G':Nat→Prop,G'=fun b=>K b∨b=b4∨b=b6:=⟨_,rfl⟩
 haveI i6:InR G' (some b6):=⟨fun b hb=>by rw[hG'];cases hb;exact .inr (.inr rfl)⟩
 have hGb:∀w:World,Ext W w→b4<w.heap.size→b6<w.heap.size→∀b,G' b→b<w.heap.size:=fun w e h2 h3 b hb=>by
  rw[hG'] at hb
  rcases hb with hb|rfl|rfl
  ·exact Nat.lt_of_lt_of_le (hK b hb) e.size
  ·exact h2
  ·exact h3
 refine seq <| ac <| tA hf rfl fun a hf=>aa ?_
 refine seq <| seq ?_
 refine ac <| tA hf rfl fun a hf=>aa ?_
 replace hf:=hf.keep [0,1,4,6,7,8]
 refine blk (aK (fun r0 a w=>∃(k:Nat) (gc:GT×Array Value),r0=V.length - k∧k≤V.length∧Fr 79 a w [(0,E v),(1,E u),(4,E (.pointer (some ⟨b4,0,none⟩))),(6,E (.pointer (some ⟨b6,0,none⟩))),(7,E (I 0)),(8,E (I k))]∧Ext W w∧Blk w b4 #[.slice none 0 0,.slice none 0 0] 25∧Blk w b6 gc.2 25∧(Dv gtE G' gc.1).p (.agg gc.2) w∧((V.map dV).take k).foldl ofS (([],[]),0)=(gc.1,0)∧gc.1.1.length≤k∧gc.1.2.length≤k) V.length ⟨0,(([], []), #[.slice none 0 0, .slice none 0 0]),rfl,by omega,hf,e,⟨B4,B6,Dv.gt.2 ⟨_,_,rfl,Dv.nil,Dv.nil⟩,rfl,Nat.le_refl _,Nat.le_refl _⟩⟩ ?_)
 rintro r0 a w ⟨k,gc,rfl,hk,hf,e,B4,B6,HD,hfd,hn1,hn2⟩
 refine seq <| seq ?_
 refine rgN 4 hf <| st (mv rfl) <| st (mv rfl) <| st (aI U22 (isE rfl (vst e h1))) <| st (lss rfl rfl) <| en fun a w e' hf=>?_
 obtain⟨HD,e,B4,B6⟩:=up4 e' HD e B4 B6
 refine aa <| ifc hf rfl (fun hc=>aj ?_) (fun hc=>aH ?_)
 rotate_left
 rotate_left
 ·have hlt:=ltC hc
  replace hf:=hf.keep [0,1,4,6,7,8]
  refine seq <| blk ?_
  obtain⟨g,cs⟩:=gc
  dsimp only at *
  have hx:=List.getElem?_eq_getElem hlt
  generalize V[k]=x at hx
  have hxd:(V.map dV)[k]?=some (dV x):=by rw[List.getElem?_map,hx];rfl
  have hnx:=sd hxd hfd
  have hln:=mr g (dV x)
  have hcs:cs.size=2:=by obtain⟨cs',h1',h2',_⟩:=Dv.gtOne HD;cases h1';exact h2'
  have hv:=vst e h1
  have l4:=B4.lt;have l6:=B6.lt
  replace hf:=hf.kp [0,1,4,6,7,8]
  refine seq <| cO 22 [0,0,0,0,0,0,0,0,0,0,0,0,0,0,0,0,0,0,2,0,1] (Chg fun c=>c=b6) (cg.one _) (fun w=>∃cs,Blk w b6 cs 25∧(Dv gtE G' (doR g (dV x)).1).p (.agg cs) w) (fun w w1 k h=>h.imp fun cs h=>⟨h.1.ext k,vst k h.2⟩) Mix.mix hf (by decide +kernel) (by decide +kernel) <| ja (ldW T25 rfl B6 hcs) <| ja (mv rfl) <| ja (mv rfl) <| ja (aG U22 S45 (isE rfl hv) rfl (by omega) (hx)) <| ja (aB U45 rfl T3 (by decide) (Fld.fst Fld.refl) (isR rfl)) <| ja (ldI T3 (isR rfl)) <| ja (mv rfl) <| ja (mv rfl) <| ja (aG U22 S45 (isE rfl hv) rfl (by omega) (hx)) <| ja (aB U45 rfl T5 (by decide) (Fld.snd (Fld.fst Fld.refl) rfl) (isR rfl)) <| ja (ldU T5 (isR rfl)) <| ja (mv rfl) <| ja (mv rfl) <| ja (aG U22 S45 (isE rfl hv) rfl (by omega) (hx)) <| ja (aB U45 rfl T3 (by decide) (Fld.snd (Fld.snd Fld.refl rfl) rfl) (isR rfl)) <| ja (ldI T3 (isR rfl)) <| ja (oY (dV x) rfl (bR4 (dV x)) rfl rfl rfl rfl) <| ja (ap (A:=Tup [Dv gtE G' (doR g (dV x)).1,E (I (doR g (dV x)).2)]) pL rfl rfl (fun v u w he k1 k2=>by cases k1;cases k2;exact qC (G:=G') g (dV x) _ w (vst he HD) (hGb w (e.tr he) (Nat.lt_of_lt_of_le l4 he.size) (Nat.lt_of_lt_of_le l6 he.size)) (by omega) (by omega))) ?_
  refine jk (mv rfl) <| ja (bs rfl rfl) <| jf (fun w1 h1=>bs rfl rfl) <| jx (iF T25 rfl B6 hcs rfl (fun v w hv=>Dv.gtOne hv) (fun v w w' hc hv=>Dv.ch hv hc fun b hb=>by rw[hG',hb];exact .inr (.inr rfl))) ?_
  refine je <| fun a w hc HF hf=>?_
  try dsimp only[push] at hf
  obtain⟨cs',B6,HD⟩:=HF
  replace e:=e.ch hc (fun b hb=>by rw[hb];omega)
  replace B4:=B4.ch hc (by omega)
  refine tA hf rfl fun a hf=>aa ?_
  replace hf:=hf.kp [0,1,4,6,7,8]
  refine seq <| rgN 2 hf <| st (mv rfl) <| st (neq rfl rfl) <| en fun a w e' hf=>?_
  obtain⟨HD,e,B4,B6⟩:=up4 e' HD e B4 B6
  refine aa <| ifc hf rfl (fun hb=>?_) (fun hb=>?_)
  ·have hb':(doR g (dV x)).2≠0:=by simpa using hb
   rw[ofS,if_neg (by simp),if_pos hb'] at hnx
   have hall:ofR V E'=(([],[]),(doR g (dV x)).2):=by rw[ofR,List.foldl_append,sf hnx hb'];exact mO (s:=(([],[]),(doR g (dV x)).2)) hb' _
   refine seq <| rgN 2 hf <| st (bI [] rfl jN) <| st (mv rfl) <| en fun a w e' hf=>?_
   obtain⟨HD,e,B4,B6⟩:=up4 e' HD e B4 B6
   haveI hinr:∀G0,InR (GB W G0) (some b4):=fun G0=>InR.gb (by omega)
   refine aF T25 hf rfl rfl (bK rfl rfl) B4 rfl (rfl) fun w hg hsz B4 hf=>?_
   replace HD:=HD
   obtain⟨e,B6⟩:=gr2 hg e B6
   refine tA hf rfl fun a hf=>aa <| ak <| fM rfl T25 hf rfl rfl B4 rfl ?_
   rintro _ rfl
   exact⟨_,rfl,e,by rw[hall];exact Tup.two (Dv.gt.2 ⟨_,_,rfl,Dv.nil,Dv.nil⟩) rfl⟩
  ·have hb':(doR g (dV x)).2=0:=by simpa using hb
   refine aj ?_
   rw[hb'] at hf
   rw[ofS,if_neg (by simp),if_neg (by simpa using hb')] at hnx
   refine rgN 2 hf <| st (mv rfl) <| st ((add rfl rfl (by omega)).eq (iN k)) <| en fun a w e' hf=>?_
   obtain⟨HD,e,B4,B6⟩:=up4 e' HD e B4 B6
   refine tA hf rfl fun a hf=>aa ?_
   replace hf:=hf.kp [0,1,4,6,7,8]
   refine⟨_,?_,k+1,((doR g (dV x)).1,cs'),rfl,by omega,hf,e,?_⟩
   ·omega
   exact⟨B4,B6,HD,hnx,by show (doR g (dV x)).1.1.length≤k+1;omega,by show (doR g (dV x)).1.2.length≤k+1;omega⟩
 ·obtain rfl:=dnE hc hk
  obtain⟨g0,cs0⟩:=gc
  dsimp only at *
  rw[List.take_of_length_le (by simp)] at hfd
  replace hf:=hf.keep [1,4,6,7]
  refine seq <| seq ?_
  refine ac <| tA hf rfl fun a hf=>aa ?_
  replace hf:=hf.keep [1,4,6,7,9]
  refine blk (aK (fun r0 a w=>∃(k:Nat) (gc:GT×Array Value),r0=E'.length - k∧k≤E'.length∧Fr 79 a w [(1,E u),(4,E (.pointer (some ⟨b4,0,none⟩))),(6,E (.pointer (some ⟨b6,0,none⟩))),(7,E (I 0)),(9,E (I k))]∧Ext W w∧Blk w b4 #[.slice none 0 0,.slice none 0 0] 25∧Blk w b6 gc.2 25∧(Dv gtE G' gc.1).p (.agg gc.2) w∧((E'.map dE).take k).foldl ofS (g0,0)=(gc.1,0)∧gc.1.1.length≤V.length+k∧gc.1.2.length≤V.length+k) E'.length ⟨0,(g0, cs0),rfl,by omega,hf,e,⟨B4,B6,HD,rfl,hn1,hn2⟩⟩ ?_)
  rintro r0 a w ⟨k,gc,rfl,hk,hf,e,B4,B6,HD,hfe,hm1,hm2⟩
  refine seq <| seq ?_
  refine rgN 4 hf <| st (mv rfl) <| st (mv rfl) <| st (aI U23 (isE rfl (vst e h2))) <| st (lss rfl rfl) <| en fun a w e' hf=>?_
  obtain⟨HD,e,B4,B6⟩:=up4 e' HD e B4 B6
  refine aa <| ifc hf rfl (fun hc=>aj ?_) (fun hc=>aH ?_)
  rotate_left
  rotate_left
  ·have hlt:=ltC hc
   replace hf:=hf.kp [1,4,6,7,9]
   refine seq <| blk ?_
   obtain⟨g,cs⟩:=gc
   dsimp only at *
   have hx:=List.getElem?_eq_getElem hlt
   generalize E'[k]=x at hx
   have hxd:(E'.map dE)[k]?=some (dE x):=by rw[List.getElem?_map,hx];rfl
   have hnx:=sd hxd hfe
   have hln:=mr g (dE x)
   have hcs:cs.size=2:=by obtain⟨cs',h1',h2',_⟩:=Dv.gtOne HD;cases h1';exact h2'
   have hv:=vst e h2
   have l4:=B4.lt;have l6:=B6.lt
   replace hf:=hf.kp [1,4,6,7,9]
   refine seq <| cO 27 [0,0,0,0,0,0,0,0,0,0,0,0,0,0,0,0,0,0,0,0,0,0,0,2,0,1] (Chg fun c=>c=b6) (cg.one _) (fun w=>∃cs,Blk w b6 cs 25∧(Dv gtE G' (doR g (dE x)).1).p (.agg cs) w) (fun w w1 k h=>h.imp fun cs h=>⟨h.1.ext k,vst k h.2⟩) Mix.mix hf (by decide +kernel) (by decide +kernel) <| ja (ldW T25 rfl B6 hcs) <| ja (mv rfl) <| ja (mv rfl) <| ja (aG U23 S51 (isE rfl hv) rfl (by omega) (hx)) <| ja (aB U51 rfl T3 (by decide) (Fld.fst (Fld.fst Fld.refl)) (isR rfl)) <| ja (ldI T3 (isR rfl)) <| ja (mv rfl) <| ja (mv rfl) <| ja (aG U23 S51 (isE rfl hv) rfl (by omega) (hx)) <| ja (aB U51 rfl T3 (by decide) (Fld.fst (Fld.snd Fld.refl rfl)) (isR rfl)) <| ja (ldI T3 (isR rfl)) <| ja (mv rfl) <| ja (mv rfl) <| ja (aG U23 S51 (isE rfl hv) rfl (by omega) (hx)) <| ja (aB U51 rfl T5 (by decide) (Fld.snd (Fld.fst Fld.refl) rfl) (isR rfl)) <| ja (ldU T5 (isR rfl)) <| ja (mv rfl) <| ja (mv rfl) <| ja (aG U23 S51 (isE rfl hv) rfl (by omega) (hx)) <| ja (aB U51 rfl T3 (by decide) (Fld.snd (Fld.snd Fld.refl rfl) rfl) (isR rfl)) <| ja (ldI T3 (isR rfl)) <| ja (oZ (dE x) (bR5 (dE x)) rfl rfl rfl rfl rfl) <| ja (ap (A:=Tup [Dv gtE G' (doR g (dE x)).1,E (I (doR g (dE x)).2)]) pL rfl rfl (fun v u w he k1 k2=>by cases k1;cases k2;exact qC (G:=G') g (dE x) _ w (vst he HD) (hGb w (e.tr he) (Nat.lt_of_lt_of_le l4 he.size) (Nat.lt_of_lt_of_le l6 he.size)) (by omega) (by omega))) ?_
   refine jk (mv rfl) <| ja (bs rfl rfl) <| jf (fun w1 h1=>bs rfl rfl) <| jx (iF T25 rfl B6 hcs rfl (fun v w hv=>Dv.gtOne hv) (fun v w w' hc hv=>Dv.ch hv hc fun b hb=>by rw[hG',hb];exact .inr (.inr rfl))) ?_
   refine je <| fun a w hc HF hf=>?_
   try dsimp only[push] at hf
   obtain⟨cs',B6,HD⟩:=HF
   replace e:=e.ch hc (fun b hb=>by rw[hb];omega)
   replace B4:=B4.ch hc (by omega)
   refine tA hf rfl fun a hf=>aa ?_
   replace hf:=hf.kp [1,4,6,7,9]
   refine seq <| rgN 2 hf <| st (mv rfl) <| st (neq rfl rfl) <| en fun a w e' hf=>?_
   obtain⟨HD,e,B4,B6⟩:=up4 e' HD e B4 B6
   refine aa <| ifc hf rfl (fun hb=>?_) (fun hb=>?_)
   ·have hb':(doR g (dE x)).2≠0:=by simpa using hb
    rw[ofS,if_neg (by simp),if_pos hb'] at hnx
    have hall:ofR V E'=(([],[]),(doR g (dE x)).2):=by rw[ofR,List.foldl_append,hfd,sf hnx hb']
    refine seq <| rgN 2 hf <| st (bI [] rfl jN) <| st (mv rfl) <| en fun a w e' hf=>?_
    obtain⟨HD,e,B4,B6⟩:=up4 e' HD e B4 B6
    haveI hinr:∀G0,InR (GB W G0) (some b4):=fun G0=>InR.gb (by omega)
    refine aF T25 hf rfl rfl (bK rfl rfl) B4 rfl (rfl) fun w hg hsz B4 hf=>?_
    replace HD:=HD
    obtain⟨e,B6⟩:=gr2 hg e B6
    refine tA hf rfl fun a hf=>aa <| ak <| fM rfl T25 hf rfl rfl B4 rfl ?_
    rintro _ rfl
    exact⟨_,rfl,e,by rw[hall];exact Tup.two (Dv.gt.2 ⟨_,_,rfl,Dv.nil,Dv.nil⟩) rfl⟩
   ·have hb':(doR g (dE x)).2=0:=by simpa using hb
    refine aj ?_
    rw[hb'] at hf
    rw[ofS,if_neg (by simp),if_neg (by simpa using hb')] at hnx
    refine rgN 2 hf <| st (mv rfl) <| st ((add rfl rfl (by omega)).eq (iN k)) <| en fun a w e' hf=>?_
    obtain⟨HD,e,B4,B6⟩:=up4 e' HD e B4 B6
    refine tA hf rfl fun a hf=>aa ?_
    replace hf:=hf.kp [1,4,6,7,9]
    refine⟨_,?_,k+1,((doR g (dE x)).1,cs'),rfl,by omega,hf,e,?_⟩
    ·omega
    exact⟨B4,B6,HD,hnx,by show (doR g (dE x)).1.1.length≤V.length+(k+1);omega,by show (doR g (dE x)).1.2.length≤V.length+(k+1);omega⟩
  ·obtain rfl:=dnE hc hk
   obtain⟨g,cs⟩:=gc
   dsimp only at *
   rw[List.take_of_length_le (by simp)] at hfe
   have hall:ofR V E'=(g,0):=by rw[ofR,List.foldl_append,hfd,hfe]
   obtain⟨cs',h1',hcs,h1one⟩:=Dv.gtOne HD
   cases h1'
   haveI i4:InR G' (some b4):=⟨fun b hb=>by rw[hG'];cases hb;exact .inr (.inl rfl)⟩
   replace hf:=hf.kp [4,6]
   refine seq <| rgN 1 hf <| st (ldW T25 rfl B6 hcs) <| en fun a w e' hf=>?_
   obtain⟨HD,e,B4,B6⟩:=up4 e' HD e B4 B6
   refine aF T25 hf rfl rfl h1one B4 rfl hcs fun w hg hsz B4 hf=>?_
   replace e:=e.gr hg (by omega);replace HD:=AvR.av (row:=some b4) _ _ _ hg HD;clear hg
   refine tA hf rfl fun a hf=>aa <| ak (fM rfl T25 hf rfl rfl B4 hcs ?_)
   rintro _ rfl
   exact⟨_,rfl,e,by rw[hall];exact Tup.two (Dv.weak HD fun b _ hb=>by rw[hG'];exact .inl hb) rfl⟩
theorem mP {P:Program}{fn:Func}{t u s k:Nat}{R:Ending→World→Prop}{n:Nat}{a:Act}{w:World}{L:Env}{b:Nat}{cs:Array Value}{bt:TypeId}{A:VA}(hr:fn.results = #[.tmp s,.cell t u])(ht:TI P u true k)(hf:Fr n a w L)(h:aL L t=some (E (.pointer (some ⟨b,0,none⟩))))(h':aL L s=some A)
  (hb:Blk w b cs bt) (hs:cs.size=k) (hR:∀x,A.p x w→R (.returned (.tuple #[x,.agg cs])) w):bodyPost P fn R .ret a w:=by
 have hv:a.tmps.getD t undef=.pointer (some ⟨b,0,none⟩):=hf.val t _ h
 have hv':a.tmps[t]?.getD undef=.pointer (some ⟨b,0,none⟩):=by simpa using hv
 obtain⟨d,h1,h2⟩:=ht.u
 have hl:=run_loadVar_row (P:=P) w b bt u cs (0,0) d hb h1 (by cases d <;> simp_all) (by rw[ht.s,hs])
 exact⟨hf.defers,.tuple #[a.eval (.tmp s),.agg cs],by simp[results,hr,Act.eval,hv',asAddr,hl],hR _ (hf.val s A h')⟩
theorem sh {V:List VT}{E:List ET}(h:(ofR V E).2=0):(ofR V E).1.1.length≤V.length+E.length∧(ofR V E).1.2.length≤V.length+E.length:=by
 have:∀(l:List DT) (g:GT) (m:Nat),g.1.length≤m→g.2.length≤m→(l.foldl ofS (g,0)).2=0→(l.foldl ofS (g,0)).1.1.length≤m+l.length∧(l.foldl ofS (g,0)).1.2.length≤m+l.length:=by
  intro l
  induction l with
  | nil=>intro g m h1 h2 _;exact⟨h1,h2⟩
  | cons d l ih=>
   intro g m h1 h2 h3
   rw[List.foldl_cons] at h3 ⊢
   by_cases hd:(doR g d).2=0
   ·have e1:ofS (g,0) d=((doR g d).1,0):=by rw[ofS,if_neg (by simp),if_neg (by simpa using hd)]
    rw[e1] at h3 ⊢
    have:=mr g d
    have h5:=ih (doR g d).1 (m+1) (by omega) (by omega) h3
    rw[List.length_cons];omega
   ·have e1:ofS (g,0) d=(([],[]),(doR g d).2):=by rw[ofS,if_neg (by simp),if_pos hd]
    rw[e1,mO (s:=(([],[]),(doR g d).2)) hd] at h3
    exact absurd h3 hd
 have h2:=this (V.map dV++E.map dE) ([],[]) 0 (Nat.le_refl _) (Nat.le_refl _) h
 simpa[ofR] using h2
theorem si {V:List VT}{E:List ET}(hV:∀x∈V,0≤x.2.1∧x.2.1<256)(hE:∀x∈E,0≤x.2.1∧x.2.1<256):Gr.Ok (ofR V E).1:=by
 have z:Gr.Ok (([],[]):GT):=⟨List.Pairwise.nil,List.Pairwise.nil,by simp,by simp,by simp⟩
 have:∀(l:List DT) (s:GT×Int),Gr.Ok s.1→(∀d∈l,0≤d.2.2.2.1∧d.2.2.2.1<256)→Gr.Ok (l.foldl ofS s).1:=by
  intro l
  induction l with
  | nil=>intro s h _;exact h
  | cons d l ih=>
   intro s h hl
   rw[List.foldl_cons]
   refine ih _ ?_ fun d hd=>hl d (by simp[hd])
   unfold ofS
   split
   ·exact h
   ·split
    ·exact z
    ·exact yF h (hl d (by simp))
 refine this _ _ z fun d hd=>?_
 rcases List.mem_append.1 hd with h|h
 ·obtain⟨x,hx,rfl⟩:=List.mem_map.1 h;exact hV x hx
 ·obtain⟨x,hx,rfl⟩:=List.mem_map.1 h;exact hE x hx
theorem a0I {G:Nat→Prop}(g:GT)(hg:Gr.Ok g)(v u:Value)(W:World)(h1:(Dv (slE vtE) G g.1).p v W)(h2:(Dv (slE etE) G g.2).p u W)(hl1:g.1.length≤1000)(hl2:g.2.length≤1000){K:Nat→Prop}(hK:∀b,K b→b<W.heap.size) :
  Calls Tryz.prog 40 #[v,u] W (Post (Tup [Dv (ptE (grE 2000)) K (some g),E (I 0)]) W):=
 Calls.mono (qF g.1 g.2 v u W h1 h2 (by omega) (by omega) (yG hg) (yH hg)) fun en w' ⟨e,hq⟩=>by
  obtain⟨g',k1,k2,k3⟩:=yI hg
  rcases hq with ⟨g2,b1,b2,b3,q1,rfl,q3,q4,q5,q6⟩|⟨c,q0,q1,_⟩
  ·rw[k1] at q1;cases q1
   exact⟨_,rfl,e,Tup.two ((q6.perm k2 k3).dv (by omega) (fun h=>by have:=hK _ h;omega) (fun h=>by have:=hK _ h;omega) (fun h=>by have:=hK _ h;omega)) rfl⟩
  ·rw[k1] at q1;cases q1
theorem a0J (l:List VT)(x:VT):(insV l x).length=l.length+1:=by
 have:=(jO (fun y=>lt1 x.1 y.1) x l).length_eq
 rw[List.length_cons] at this
 exact this
theorem a0K (g:GT)(x:VT):(doR g (dV x)).1.1.length≤g.1.length+1:=by
 unfold doR
 split
 ·exact Nat.le_succ _
 ·rw[if_pos (by rfl)]
  rw[a0J]
  exact Nat.le_refl _
theorem a0L (g:GT)(x:ET):(doR g (dE x)).1.1=g.1:=by
 unfold doR
 split
 ·rfl
 ·rw[if_neg (show ¬((dE x).1==0)=true from (by decide:¬((2:Int)==0)=true)),if_pos (by rfl)]
theorem a0M:∀(l:List VT) (s:GT×Int),((l.map dV).foldl ofS s).1.1.length≤s.1.1.length+l.length:=by
 intro l
 induction l with
 | nil=>intro s;exact Nat.le_refl _
 | cons x l ih=>
  intro s
  rw[List.map_cons,List.foldl_cons]
  refine Nat.le_trans (ih _) ?_
  have h:(ofS s (dV x)).1.1.length≤s.1.1.length+1:=by
   unfold ofS
   split
   ·exact Nat.le_succ _
   ·split
    ·exact Nat.zero_le _
    ·exact a0K s.1 x
  rw[List.length_cons];omega
theorem a0N:∀(l:List ET) (s:GT×Int),((l.map dE).foldl ofS s).1.1.length≤s.1.1.length:=by
 intro l
 induction l with
 | nil=>intro s;exact Nat.le_refl _
 | cons x l ih=>
  intro s
  rw[List.map_cons,List.foldl_cons]
  refine Nat.le_trans (ih _) ?_
  unfold ofS
  split
  ·exact Nat.le_refl _
  ·split
   ·exact Nat.zero_le _
   ·dsimp only;rw[a0L];exact Nat.le_refl _
theorem a0O (V:List VT)(E':List ET):(ofR V E').1.1.length≤V.length:=by
 rw[ofR,List.foldl_append]
 refine Nat.le_trans (a0N _ _) (Nat.le_trans (a0M V _) ?_)
 simp
end Go.Mono
namespace Go.Mono
open Go Go.RowKit
def bC (n:Nat)(f:Nat→Bool):Array Value:=((List.range n).map fun j=>Value.bool (f j)).toArray
theorem mQ (n:Nat)(f:Nat→Bool):(bC n f).size=n:=by simp[bC]
theorem sj {n i:Nat}{f:Nat→Bool}(h:i<n):(bC n f)[i]?=some (.bool (f i)):=by simp[bC,h]
theorem a0P {n:Nat}{f g:Nat→Bool}(h:∀i,i<n→f i=g i):bC n f=bC n g:=by
 unfold bC
 congr 1
 exact List.map_congr_left fun i hi=>by rw[h i (List.mem_range.1 hi)]
theorem a0Q (n:Nat)(f:Nat→Bool)(j:Nat)(b:Bool):(bC n f).setIfInBounds j (.bool b)=bC n (fun i=>if i=j then b else f i):=by
 apply Array.ext_getElem?
 intro i
 by_cases hi:i<n
 ·rw[sj hi]
  by_cases hk:i=j
  ·subst hk
   rw[Array.getElem?_setIfInBounds_self_of_lt (by rw[mQ];exact hi)]
   simp
  ·rw[Array.getElem?_setIfInBounds_ne (Ne.symm hk),sj hi]
   simp[hk]
 ·rw[Array.getElem?_eq_none (by simp[mQ];omega),Array.getElem?_eq_none (by simp[mQ];omega)]
def oC (n k:Nat)(rb:Nat→Nat):Array Value:=((List.range n).map fun i=>if i<k then Value.slice (some ⟨rb i,0,none⟩) n n else .slice none 0 0).toArray
theorem mR (n k:Nat)(rb:Nat→Nat):(oC n k rb).size=n:=by simp[oC]
theorem mS {n k i:Nat}{rb:Nat→Nat}(h:i<k)(hk:k≤n):(oC n k rb)[i]?=some (.slice (some ⟨rb i,0,none⟩) n n):=by
 have:i<n:=by omega
 simp[oC,h,this]
def adB (rb:Nat→Nat)(k b:Nat):Nat→Nat:=fun i=>if i=k then b else rb i
theorem a0R {n k b:Nat}{rb:Nat→Nat}(hk:k<n):(oC n k rb).setIfInBounds k (.slice (some ⟨b,0,none⟩) n n)=oC n (k+1) (adB rb k b):=by
 apply Array.ext_getElem?
 intro i
 by_cases hi:i<n
 ·by_cases hik:i=k
  ·subst hik
   rw[Array.getElem?_setIfInBounds_self_of_lt (by rw[mR];exact hi),mS (Nat.lt_succ_self _) hi]
   simp[adB]
  ·rw[Array.getElem?_setIfInBounds_ne (Ne.symm hik)]
   by_cases h:i<k
   ·rw[mS h (by omega),mS (show i<k+1 by omega) (by omega)]
    simp[adB,hik]
   ·have h':¬i<k+1:=by omega
    simp[oC,hi,h,h']
 ·rw[Array.getElem?_eq_none (by simp[mR];omega),Array.getElem?_eq_none (by simp[mR];omega)]
structure cC (tr tb:TypeId)(N n k:Nat)(rb:Nat→Nat)(M:Nat→Nat→Bool)(bo:Nat)(w:World):Prop where
 o:Blk w bo (oC n k rb) tr
 r:∀i,i<k→Blk w (rb i) (bC n (M i)) tb
 d:∀i j,i<k→j<k→rb i=rb j→i=j
 lo:N≤bo∧∀i,i<k→N≤rb i
 ty:tr≠tb
section
variable {tr tb:TypeId}{N n k:Nat}{rb:Nat→Nat}{M M':Nat→Nat→Bool}{bo:Nat}{w w':World}
theorem Blk.tyNe {a b:Nat}{cs cs':Array Value}{t t':TypeId}(h:Blk w a cs t)(h':Blk w b cs' t')(ht:t≠t'):a≠b:=by
 rintro rfl
 unfold Blk at h h'
 rw[h] at h'
 cases h';exact ht rfl
theorem cC.gro (h:cC tr tb N n k rb M bo w){row:Option Nat}(hg:w.grownBy w' row)(h0:row≠some bo)(h1:∀i,i<k→row≠some (rb i)):cC tr tb N n k rb M bo w':=
 ⟨(hg.block bo h.o.lt (fun e=>h0 e.symm)).trans h.o,fun i hi=>(hg.block _ (h.r i hi).lt (fun e=>h1 i hi e.symm)).trans (h.r i hi),h.d,h.lo,h.ty⟩
theorem cC.ext (h:cC tr tb N n k rb M bo w)(e:Ext w w'):cC tr tb N n k rb M bo w':=⟨h.o.ext e,fun i hi=>(h.r i hi).ext e,h.d,h.lo,h.ty⟩
theorem cC.congr (h:cC tr tb N n k rb M bo w)(hM:∀i,i<k→∀j,j<n→M i j=M' i j):cC tr tb N n k rb M' bo w:=
 ⟨h.o,fun i hi=>by rw[← a0P (hM i hi)];exact h.r i hi,h.d,h.lo,h.ty⟩
theorem cC.add (h:cC tr tb N n k rb M bo w){b:Nat}{f:Nat→Bool}(hb:Blk w b (bC n f) tb)(hn:∀i,i<k→rb i≠b)(hN:N≤b)(hk:k<n)(hg:w.grownBy w' (some bo))(ho:Blk w' bo ((oC n k rb).setIfInBounds k (.slice (some ⟨b,0,none⟩) n n)) tr) :
  cC tr tb N n (k+1) (adB rb k b) (fun i=>if i=k then f else M i) bo w':=by
 refine⟨by rw[← a0R hk];exact ho,fun i hi=>?_,fun i j hi hj hij=>?_,⟨h.lo.1,fun i hi=>?_⟩,h.ty⟩
 ·by_cases hik:i=k
  ·subst hik
   simp only[adB,if_true]
   exact hb.gr hg fun e=>h.o.tyNe hb h.ty e.symm
  ·simp only[adB,if_neg hik]
   exact (h.r i (by omega)).gr hg fun e=>h.o.tyNe (h.r i (by omega)) h.ty e.symm
 ·by_cases hik:i=k <;> by_cases hjk:j=k
  ·omega
  ·simp only[adB,if_neg hjk,hik,if_true] at hij
   exact absurd hij.symm (hn j (by omega))
  ·simp only[adB,if_neg hik,hjk,if_true] at hij
   exact absurd hij (hn i (by omega))
  ·simp only[adB,if_neg hik,if_neg hjk] at hij
   exact h.d i j (by omega) (by omega) hij
 ·by_cases hik:i=k
  ·simp only[adB,hik,if_true];exact hN
  ·simp only[adB,if_neg hik];exact h.lo.2 i (by omega)
def upM (M:Nat→Nat→Bool)(i j:Nat)(b:Bool):Nat→Nat→Bool:=fun a c=>if a=i∧c=j then b else M a c
theorem cC.put (h:cC tr tb N n k rb M bo w){i j:Nat}{b:Bool}(hi:i<k)(hg:w.grownBy w' (some (rb i)))(hb:Blk w' (rb i) ((bC n (M i)).setIfInBounds j (.bool b)) tb):cC tr tb N n k rb (upM M i j b) bo w':=by
 refine⟨h.o.gr hg (h.o.tyNe (h.r i hi) h.ty),fun a ha=>?_,h.d,h.lo,h.ty⟩
 by_cases hai:a=i
 ·subst hai
  rw[a0Q] at hb
  rw[show (upM M a j b a)=fun c=>if c=j then b else M a c from funext fun c=>by simp[upM]]
  exact hb
 ·rw[show upM M i j b a=M a from funext fun c=>by simp[upM,hai]]
  exact (h.r a ha).gr hg fun e=>hai (h.d a i ha hi e)
theorem cC.ne (h:cC tr tb N n k rb M bo w){b:Nat}{cs:Array Value}{t:TypeId}(hb:Blk w b cs t)(h1:t≠tr)(h2:t≠tb):b≠bo∧∀i,i<k→b≠rb i:=
 ⟨hb.tyNe h.o h1,fun i hi=>hb.tyNe (h.r i hi) h2⟩
end
end Go.Mono
namespace Go.Mono
open Go Go.Proofs Go.RowKit Go.Gr

def dB (g:GT):List Int:=g.1.map (·.1)

theorem a0S {x y:Value}{N:Nat}(h:∀b,x.ownBlock=some b→b<N)(hy:y.ownBlock=some N):∀b,y.ownBlock=some b→x.ownBlock≠some b:=fun b hb hx=>by
 have:=h b hx
 rw[hy] at hb;cases hb;omega
def fw (g:GT)(n:Int)(k:Nat):List Int:=((dB g).take k).filter fun x=>decide (0≤cr g.2 x n)
def el (g:GT)(n:Int):List Int:=(dB g).filter fun x=>decide (0≤cr g.2 x n)
def onP (g:GT)(n:Int)(j:Nat):Bool:=match g.2[j]? with
 | some y=>y.1.1==n || y.1.2==n
 | none=>false
def eM (g:GT)(n:Int)(k:Nat):List Int:=((List.range k).filter (onP g n)).map fun j:Nat=>(j:Int)
theorem a0T {g:GT}{k:Nat}{x:Int}(n:Int)(h:(dB g)[k]?=some x):fw g n (k+1)=fw g n k++if decide (0≤cr g.2 x n)=true then [x] else []:=by
 rw[fw,bA h,List.filter_append,fw,List.filter_cons,List.filter_nil]
theorem a0U {g:GT}{k:Nat}{y:ET}(n:Int)(h:g.2[k]?=some y):eM g n (k+1)=eM g n k++if (y.1.1==n || y.1.2==n)=true then [(k:Int)] else []:=by
 rw[eM,List.range_succ,List.filter_append,List.map_append,← eM,List.filter_cons,List.filter_nil,show onP g n k=(y.1.1==n || y.1.2==n) by rw[onP,h]]
 split <;> rfl
theorem a0V (g:GT)(n:Int)(k:Nat):(fw g n k).length≤k:=Nat.le_trans (List.length_filter_le _ _) (List.length_take_le _ _)
theorem a0W (g:GT)(n:Int)(k:Nat):(eM g n k).length≤k:=by
 rw[eM,List.length_map]
 have:=List.length_filter_le (onP g n) (List.range k)
 rwa [List.length_range] at this
theorem a0X {G:Nat→Prop}(g:GT)(n:Int)(v:Value)(W:World)(h:(Dv gtE G g).p v W)(hl:g.1.length≤100000)(hl2:g.2.length≤100000){M:Nat}(hM:M≤W.heap.size) :
  Calls Tryz.prog 70 #[v,I n] W (Post (Tup [OwA intE 3 M G0 (el g n),Dv (slE intE) G0 (eM g n g.2.length)]) W):=by
 obtain⟨p1,p2,rfl,h1,h2⟩:=Dv.gt.1 (Dv.weak (G':=G0) h fun b _ hb=>hb.elim)
 have hg0:(Dv gtE G0 g).p (.agg #[p1,p2]) W:=Dv.gt.2 ⟨_,_,rfl,h1,h2⟩
 have h1b:=Dv.toB h1
 have h2b:=Dv.toB h2
 have hG:∀b,G0 b→b<W.heap.size:=fun b hb=>hb.elim
 refine eN [.agg #[p1,p2],I n] [E (.agg #[p1,p2]),E (I n)] Tryz.func70 Tryz.ntmps70 ?_ fun a hf=>?_
 rotate_left
 rotate_right
 ·exact arg2 rfl rfl
 have e:=Ext.rfl' W
 refine seq <| ac <| tB hf rfl fun a b2 w v2 hv2 e' hb2 hs2 B2 hf=>?_
 replace e:=e.tr e'
 refine tA hf rfl fun a hf=>tA hf rfl fun a hf=>aa ?_
 cases hv2
 replace B2:Blk w b2 #[p1,p2] 25:=B2
 obtain⟨N,hN⟩:=eqX w.heap.size
 have l2:b2<N:=by rw[hN];exact B2.lt
 have hNs:N≤w.heap.size:=Nat.le_of_eq hN
 have hWN:W.heap.size≤N:=by rw[hN];exact e.size
 refine seq (ac ?_)
 refine lG N G0 intE U35 S3 hf (by decide) hNs (fun b hb=>hb.elim) fun a q1 w e' hov1 H1 hf=>?_
 replace B2:=B2.ext e';replace hNs:=Nat.le_trans hNs e'.size;replace e:=e.tr e';clear e'
 have hlt1:∀b,q1.ownBlock=some b→b<w.heap.size:=fun b hb=>(H1.lt hb).2
 refine lG N G0 intE U35 S3 hf (by decide) hNs (fun b hb=>hb.elim) fun a q2 w e' hov2 H2 hf=>?_
 have hne:=a0S hlt1 hov2
 replace H1:=H1.ext e';replace B2:=B2.ext e';replace hNs:=Nat.le_trans hNs e'.size;replace e:=e.tr e';clear e'
 refine tA hf rfl fun a hf=>tA hf rfl fun a hf=>aa ?_
 replace hf:=hf.keep [1,2,6,7]
 obtain⟨N2,hN2⟩:=eqX w.heap.size
 have hlt2:∀b,q2.ownBlock=some b→b<N2:=fun b hb=>by rw[hN2];exact (H2.lt hb).2
 have hN2s:N2≤w.heap.size:=Nat.le_of_eq hN2
 refine seq <| seq ?_
 refine ac <| tA hf rfl fun a hf=>aa ?_
 replace hf:=hf.keep [1,2,6,7,8]
 refine blk (aK (fun r0 a w=>∃(k:Nat) (u1:Value),r0=g.1.length - k∧k≤g.1.length∧Fr 69 a w [(1,E (I n)),(2,E (ptr b2)),(6,E u1),(7,E q2),(8,E (I k))]∧Ext W w∧Blk w b2 #[p1,p2] 25∧OwR intE 3 N G0 w (fw g n k) u1∧OwR intE 3 N G0 w [] q2∧(∀b,q2.ownBlock=some b→u1.ownBlock≠some b)∧N2≤w.heap.size) g.1.length ⟨0,q1,rfl,by omega,hf,e,⟨B2,H1,H2,hne,hN2s⟩⟩ ?_)
 rintro r0 a w ⟨k,u1,rfl,hk,hf,e,B2,H1,H2,hne,hN2s⟩
 refine seq <| seq ?_
 refine rgN 5 hf <| st (mv rfl) <| st (fA U25 rfl T22 rfl) <| st (ld1 T22 rfl B2 rfl) <| st (aI U22 (isE rfl (vst e h1))) <| st (lss rfl rfl) <| en fun a w e' hf=>?_
 obtain⟨H1,H2,hN2s,e,B2⟩:=up5 e' H1 H2 hN2s e B2
 refine aa <| ifc hf rfl (fun hc=>aj ?_) (fun hc=>aH ?_)
 rotate_left
 rotate_left
 ·have hlt:=ltC hc
  replace hf:=hf.kp [1,2,6,7,8]
  refine seq <| blk ?_
  have hx:=List.getElem?_eq_getElem hlt
  generalize g.1[k]=y at hx
  have hxi:(dB g)[k]?=some y.1:=by rw[dB,List.getElem?_map,hx];rfl
  have hsc:=a0T n hxi
  have hlk:=a0V g n k
  have e0:=e
  refine seq <| rgG 10 Mix.mix hf <| st ((ldW T25 rfl B2 rfl).eq ((rfl:_=Value.agg #[p1,p2]))) <| st (fA U25 rfl T22 rfl) <| st (ld1 T22 rfl B2 rfl) <| st (mv rfl) <| st (aG U22 S45 (isE rfl (vst e h1b)) rfl (by omega) (hx)) <| st (aB U45 rfl T3 (by decide) (Fld.fst Fld.refl) (isR rfl)) <| st (ldI T3 (isR rfl)) <| st (mv rfl) <| st (cE (A:=E (I (cr g.2 y.1 n))) iz rfl rfl rfl (fun v u s w he k1 k2 k3=>by cases k1;cases k2;cases k3;exact jK g _ _ _ w (vst (e0.tr he) hg0) hl2)) ?_
  refine st (geq rfl rfl) <| en fun a w e' hf=>?_
  obtain⟨H1,H2,hN2s,e,B2⟩:=up5 e' H1 H2 hN2s e B2
  refine aa <| ifc hf rfl (fun hb=>?_) (fun hb=>?_)
  ·have hb':=of_decide_eq_true hb
   rw[if_pos (decide_eq_true hb')] at hsc
   replace hf:=hf.kp [1,2,6,7,8]
   refine rgN 8 hf <| st (mv rfl) <| st (fA U25 rfl T22 rfl) <| st (ld1 T22 rfl B2 rfl) <| st (mv rfl) <| st (aG U22 S45 (isE rfl (vst e h1b)) rfl (by omega) (hx)) <| st (aB U45 rfl T3 (by decide) (Fld.fst Fld.refl) (isR rfl)) <| st (ldI T3 (isR rfl)) <| st (aX U35 I3 rfl (by decide) rfl H1.avs (isI rfl)) <| en fun a w e' hf=>?_
   obtain⟨B2,H2⟩:=up2 e' B2 H2
   replace hne:=hne
   obtain⟨hN2s,H1,e⟩:=up3 e' hN2s H1 e
   haveI hin:∀G0,InR (GB W G0) _:=OwR.inGB (W:=W) H1 hWN
   refine bG U35 I3 rfl rfl hf (by decide) rfl H1 (isR rfl) (by simp only[List.length_singleton];omega) (by simp only[List.length_singleton,maxLen];omega) fun a v w hg hat Hn hf=>?_
   replace e:=e.gro hg (H1.row (W:=W) hWN)
   have hrow:=H1.row (W:=W) hWN
   replace B2:=B2.gro hg (H1.neLt l2)
   replace H2:=H2.groE hg hne
   replace hne:=fun b hb=>lI hat (hne b hb) (Nat.lt_of_lt_of_le (hlt2 b hb) hN2s)
   replace hN2s:=Nat.le_trans hN2s hg.size
   replace H1:=Hn
   replace H1:=Hn;clear Hn hg hat hin
   refine tA hf rfl fun a hf=>aa ?_
   rw[← hsc] at H1
   refine rgN 2 hf <| st (mv rfl) <| st ((add rfl rfl (by omega)).eq (iN k)) <| en fun a w e' hf=>?_
   obtain⟨B2,H2⟩:=up2 e' B2 H2
   replace hne:=hne
   obtain⟨hN2s,H1,e⟩:=up3 e' hN2s H1 e
   refine tA hf rfl fun a hf=>aa ?_
   replace hf:=hf.keep [1,2,6,7,8]
   refine⟨_,?_,k+1,_,rfl,by omega,hf,e,?_⟩
   ·omega
   exact⟨B2,H1,H2,hne,hN2s⟩
  ·have hb':=of_decide_eq_false hb
   rw[if_neg (by simpa using hb'),List.append_nil] at hsc
   rw[← hsc] at H1
   refine aj <| rgN 2 hf <| st (mv rfl) <| st ((add rfl rfl (by omega)).eq (iN k)) <| en fun a w e' hf=>?_
   obtain⟨B2,H2⟩:=up2 e' B2 H2
   replace hne:=hne
   obtain⟨hN2s,H1,e⟩:=up3 e' hN2s H1 e
   refine tA hf rfl fun a hf=>aa ?_
   replace hf:=hf.keep [1,2,6,7,8]
   refine⟨_,?_,k+1,_,rfl,by omega,hf,e,?_⟩
   ·omega
   exact⟨B2,H1,H2,hne,hN2s⟩
 ·obtain rfl:=dnE hc hk
  rw[show fw g n g.1.length=el g n by rw[fw,el,show g.1.length=(dB g).length by simp[dB],List.take_length]] at H1
  obtain⟨N1,hN1⟩:=eqX w.heap.size
  have hlt1:∀b,u1.ownBlock=some b→b<N1:=fun b hb=>by rw[hN1];exact (H1.lt hb).2
  have hN1s:N1≤w.heap.size:=Nat.le_of_eq hN1
  have hne1:∀b,u1.ownBlock=some b→q2.ownBlock≠some b:=fun b h1 h2=>hne b h2 h1
  replace hf:=hf.keep [1,2,6,7]
  refine seq <| seq ?_
  refine ac <| tA hf rfl fun a hf=>aa ?_
  replace hf:=hf.keep [1,2,6,7,9]
  refine blk (aK (fun r0 a w=>∃(k:Nat) (u2:Value),r0=g.2.length - k∧k≤g.2.length∧Fr 69 a w [(1,E (I n)),(2,E (ptr b2)),(6,E u1),(7,E u2),(9,E (I k))]∧Ext W w∧Blk w b2 #[p1,p2] 25∧OwR intE 3 N G0 w (el g n) u1∧OwR intE 3 N G0 w (eM g n k) u2∧(∀b,u1.ownBlock=some b→u2.ownBlock≠some b)∧N1≤w.heap.size) g.2.length ⟨0,q2,rfl,by omega,hf,e,⟨B2,H1,H2,hne1,hN1s⟩⟩ ?_)
  rintro r0 a w ⟨k,u2,rfl,hk,hf,e,B2,H1,H2,hne1,hN1s⟩
  refine seq <| seq ?_
  refine rgN 5 hf <| st (mv rfl) <| st (fA U25 rfl T23 rfl) <| st (ld1 T23 rfl B2 rfl) <| st (aI U23 (isE rfl (vst e h2))) <| st (lss rfl rfl) <| en fun a w e' hf=>?_
  obtain⟨H1,H2,hN1s,e,B2⟩:=up5 e' H1 H2 hN1s e B2
  refine aa <| ifc hf rfl (fun hc=>aj ?_) (fun hc=>aH ?_)
  rotate_left
  rotate_left
  ·have hlt:=ltC hc
   replace hf:=hf.keep [1,2,6,7,9]
   refine seq <| blk ?_
   have hx:=List.getElem?_eq_getElem hlt
   generalize g.2[k]=y at hx
   have hsc:=a0U n hx
   have hlk:=a0W g n k
   refine seq <| rgN 18 hf <| st (fA U25 rfl T23 rfl) <| st (ld1 T23 rfl B2 rfl) <| st (mv rfl) <| st (aG U23 S51 (isE rfl (vst e h2b)) rfl (by omega) (hx)) <| st (aB U51 rfl T3 (by decide) (Fld.fst (Fld.fst Fld.refl)) (isR rfl)) <| st (ldI T3 (isR rfl)) <| st (mv rfl) <| st (eql rfl rfl) <| st (mv rfl) <| sgE rfl rfl (.k 2 rfl .n) (fun hgd=>fA U25 rfl T23 rfl) <| sgE rfl rfl (.c 54 rfl (fun h=>h) .n) (fun hgd=>ld1 T23 rfl B2 rfl) <| sgE rfl rfl (.k 9 rfl .n) (fun hgd=>mv rfl) <| sgE rfl rfl (.c 55 rfl (fun h=>h) (.c 56 rfl (fun h=>h) .n)) (fun hgd=>aG U23 S51 (isE rfl (vst e h2b)) rfl rfl (hx)) <| sgE rfl rfl (.c 57 rfl (fun h=>h) .n) (fun hgd=>aB U51 rfl T3 (by decide) (Fld.fst (Fld.snd Fld.refl rfl)) (isR rfl)) <| sgE rfl rfl (.c 58 rfl (fun h=>h) .n) (fun hgd=>ldI T3 (isR rfl)) <| sgE rfl rfl (.k 1 rfl .n) (fun hgd=>mv rfl) <| sgE rfl rfl (.c 59 rfl (fun h=>h) (.c 60 rfl (fun h=>h) .n)) (fun hgd=>eql rfl rfl) <| st (bH rfl rfl (fun h=>by rw[h];rfl)) ?_
   refine en fun a w e' hf=>?_
   obtain⟨H1,H2,hN1s,e,B2⟩:=up5 e' H1 H2 hN1s e B2
   refine aa <| ifc hf rfl (fun hb=>?_) (fun hb=>?_)
   ·rw[if_pos hb] at hsc
    replace hf:=hf.kp [1,2,6,7,9]
    refine rgN 3 hf <| st (mv rfl) <| st (mv rfl) <| st (aX U35 I3 rfl (by decide) rfl H2.avs (isI rfl)) <| en fun a w e' hf=>?_
    obtain⟨B2,H1⟩:=up2 e' B2 H1
    replace hne1:=hne1
    obtain⟨hN1s,H2,e⟩:=up3 e' hN1s H2 e
    haveI hin:∀G0,InR (GB W G0) _:=OwR.inGB (W:=W) H2 hWN
    refine bG U35 I3 rfl rfl hf (by decide) rfl H2 (isR rfl) (by simp only[List.length_singleton];omega) (by simp only[List.length_singleton,maxLen];omega) fun a v w hg hat Hn hf=>?_
    replace e:=e.gro hg (H2.row (W:=W) hWN)
    have hrow:=H2.row (W:=W) hWN
    replace B2:=B2.gro hg (H2.neLt l2)
    replace H1:=H1.groE hg hne1
    replace hne1:=fun b hb=>lI hat (hne1 b hb) (Nat.lt_of_lt_of_le (hlt1 b hb) hN1s)
    replace hN1s:=Nat.le_trans hN1s hg.size
    replace H2:=Hn
    replace H2:=Hn;clear Hn hg hat hin
    refine tA hf rfl fun a hf=>aa ?_
    rw[← hsc] at H2
    refine rgN 2 hf <| st (mv rfl) <| st ((add rfl rfl (by omega)).eq (iN k)) <| en fun a w e' hf=>?_
    obtain⟨B2,H1⟩:=up2 e' B2 H1
    replace hne1:=hne1
    obtain⟨hN1s,H2,e⟩:=up3 e' hN1s H2 e
    refine tA hf rfl fun a hf=>aa ?_
    replace hf:=hf.kp [1,2,6,7,9]
    refine⟨_,?_,k+1,_,rfl,by omega,hf,e,?_⟩
    ·omega
    exact⟨B2,H1,H2,hne1,hN1s⟩
   ·rw[if_neg (by simpa using hb),List.append_nil] at hsc
    rw[← hsc] at H2
    refine aj <| rgN 2 hf <| st (mv rfl) <| st ((add rfl rfl (by omega)).eq (iN k)) <| en fun a w e' hf=>?_
    obtain⟨B2,H1⟩:=up2 e' B2 H1
    replace hne1:=hne1
    obtain⟨hN1s,H2,e⟩:=up3 e' hN1s H2 e
    refine tA hf rfl fun a hf=>aa ?_
    replace hf:=hf.keep [1,2,6,7,9]
    refine⟨_,?_,k+1,_,rfl,by omega,hf,e,?_⟩
    ·omega
    exact⟨B2,H1,H2,hne1,hN1s⟩
  ·obtain rfl:=dnE hc hk
   replace hf:=hf.keep [6,7]
   refine seq <| rgN 2 hf <| st (mv rfl) <| st (mv rfl) <| en fun a w e' hf=>?_
   obtain⟨H1,H2,e⟩:=up3 e' H1 H2 e
   refine tA hf rfl fun a hf=>tA hf rfl fun a hf=>aa <| ak (gx rfl hf rfl rfl ?_)
   rintro _ _ rfl rfl
   exact⟨_,rfl,e,Tup.two (H1.low (Nat.le_trans hM hWN) fun b hb=>hb.elim) (Dv.weak H2.sl fun b _ hb=>hb.elim)⟩
end Go.Mono
namespace Go.Mono
open Go Go.RowKit
def FuA (te:TypeId)(N:Nat)(xs:List Int):VA:=⟨fun v w=>∃b,N≤b∧v=.slice (some ⟨b,0,none⟩) xs.length xs.length∧Blk w b (xs.map (Value.int .i64)).toArray te,fun v w w' e ⟨b,h1,h2,h3⟩=>⟨b,h1,h2,h3.ext e⟩⟩
theorem mT {G:Nat→Prop}{w:World}:∀l:List Int,Cells intE G w l (l.map (Value.int .i64))
 | []=>rfl
 | d::l=>⟨[.int .i64 d],l.map (Value.int .i64),rfl,rfl,mT l⟩
theorem sk {G:Nat→Prop}{w:World}:∀{l:List Int} {cs:List Value},Cells intE G w l cs→cs=l.map (Value.int .i64)
 | [],cs,h=>h
 | x::l,cs,⟨c,d,h,h1,h2⟩=>by
  have:c=[.int .i64 x]:=h1
  rw[h,this,sk h2];rfl
section
variable {P:Program}{w0:World}{L:Env}{dst:Option Tmp}{ty:TypeId}{pos:String}{aft:Array Edge}{g:Option (Nat×Bool)}{t te:TypeId}{N:Nat}
theorem sp {s:Nat}(ht:P.underlying t=some (.slice te))(hi:(P.info? te).map (·.size)=some s)(hN:N≤w0.heap.size):OpC P w0 L ⟨dst,.buildSlice t 0 #[],ty,pos,aft,g⟩ (FuA te N []):=by
 refine⟨fun ρ w he hv=>?_⟩
 have hrun:(execOp ρ ⟨dst,.buildSlice t 0 #[],ty,pos,aft,g⟩).run P w=.ok (.value (.slice (some ⟨w.heap.size,0,none⟩) 0 0)) (w.alloc (.cells #[] te)):=by
  cases hit:P.info? te with
  | none=>simp[hit] at hi
  | some i=>simp[execOp,Instr.buildSlice,run_underlying ht,sizeOf,typeInfo,hit,Instr.fill,newRow,Array.range_zero']
 simp only[OpR,hrun]
 exact⟨db _ _,w.heap.size,Nat.le_trans hN he.size,rfl,dW w _ _⟩
theorem sq {x y:Operand}{G:Nat→Prop}{xs ys:List Int}{bz:Nat}{z0:Value}(ht:P.underlying t=some (.slice te))(hi:(P.info? te).map (fun i=>(i.zero,i.size,i.bytes))=some (some z0,1,bz))(hz0:z0.cells.size=1)
  (hx:opd L x=some (FuA te N xs)) (hy:Is L w0 y (Dv (slE intE) G ys)) (hN:N≤w0.heap.size) (h63:xs.length+ys.length≤maxLen) (hb:(xs.length+ys.length) * bz≤140737488355328) :
  OpC P w0 L ⟨dst,.call ⟨.builtin .append,#[x,y],#[t,t]⟩,ty,pos,aft,g⟩ (OwA intE te N (fun _=>False) (xs++ys)):=by
 refine⟨fun ρ w he hv=>?_⟩
 obtain⟨it,hit,hiz,hsz',hbz⟩:=info_parts hi
 obtain⟨b,hNb,hxv,hB⟩:=hv x (by simp[Op.operands,Call.operands]) _ hx
 have hyv:=hy.v he hv (by simp[Op.operands,Call.operands])
 have hcx:∀j u,(xs.map (Value.int .i64))[j]?=some u→w.cell? ((⟨b,0,none⟩:Addr).add j)=some u:=fun j u hu=>by
  rw[Addr.add_lit,hB.cell,List.getElem?_toArray,Nat.zero_add];exact hu
 have own:w.ownsRow N te 1 (.slice (some ⟨b,0,none⟩) xs.length xs.length) xs.length (xs.map (Value.int .i64)):=by
  refine⟨by simp,.inr ⟨b,xs.length,_,rfl,hNb,hB,Nat.le_refl _,?_,by simp,?_⟩⟩
  ·exact Nat.le_trans (Nat.le_add_right _ _) h63
  ·rw[Nat.mul_one,List.take_of_length_le (by simp)]
 have nothing:∀u,Src P it.size t u 0 [] w→ys=[]→ρ y=u→OpR P ⟨dst,.call ⟨.builtin .append,#[x,y],#[t,t]⟩,ty,pos,aft,g⟩ ρ w (fun v w'=>Ext w w'∧(OwA intE te N (fun _=>False) (xs++ys)).p v w'):=fun u hs hys hu=>by
  have h1:=run_append_nothing (P:=P) w t t ty te it ht hit (some ⟨b,0,none⟩) xs.length xs.length (Nat.le_refl _) u hs
  simp only[OpR,execOp,resolve,invoke,builtin,Sem.run_bind,Sem.run_pure,Result.andThen_ok,List.map_toArray,List.map_cons,List.map_nil,hxv,hu,h1]
  refine⟨Ext.rfl' _,?_⟩
  rw[hys,List.append_nil]
  exact⟨⟨_,own,mT _⟩,fun b hb=>hb.elim,Nat.le_trans hN he.size⟩
 rcases Dv.sl.1 hyv with ⟨hy0,hys⟩|⟨ad,cap,ds,hy0,_,h3,h4,h5,h6⟩
 ·refine nothing _ ⟨.inl ⟨_,ht⟩,fun w'=>?_,?_,?_,by simp,by simp⟩ hys hy0
  ·simp[Builtin.lenOf]
  ·simp[Builtin.firstCells]
  ·simp[Builtin.firstCells]
 ·have hds:=sk h5
  subst hds
  by_cases hys:ys=[]
  ·subst hys
   refine nothing _ ⟨.inl ⟨_,ht⟩,fun w'=>?_,?_,?_,by simp,by simp⟩ rfl hy0
   ·simp[Builtin.lenOf]
   ·exact run_firstCells_some (P:=P) w it.size 0 ad 0 cap [] (by simp) (fun j u hu=>by simp at hu)
   ·exact run_firstCells_some (P:=P) w.drew it.size 0 ad 0 cap [] (by simp) (fun j u hu=>by simp at hu)
  ·have hpos:0<ys.length:=List.length_pos_iff.2 hys
   obtain⟨v',w',r1,r2,r3⟩:=run_append_arg_grows (P:=P) w t ty te it z0 1 bz ht hit hiz hsz' hbz hz0 (by decide) ⟨b,0,none⟩ xs.length xs.length (xs.map (Value.int .i64)) (by simp) hcx ad ys.length cap (ys.map (Value.int .i64)) (by simp) h6 (by omega) h63 hb
   simp only[OpR,execOp,resolve,invoke,builtin,Sem.run_bind,Sem.run_pure,Result.andThen_ok,List.map_toArray,List.map_cons,List.map_nil,hxv,hy0,r1]
   refine⟨⟨r3.os,r3.tape,r3.output,r3.size,fun b hb=>r3.block b hb (by simp)⟩,⟨_,?_,by have:=mT (G:=GO (fun _=>False) v') (w:=w') (xs++ys);rwa [List.map_append] at this⟩,fun b hb=>hb.elim,Nat.le_trans (Nat.le_trans hN he.size) r3.size⟩
   obtain⟨q1,q2⟩:=r2
   refine⟨by simp[show intE.k=1 from rfl],?_⟩
   rcases q2 with ⟨k1,k2⟩|⟨gg,cap2,cur,k1,k2,k3,k4,k5,k6,k7⟩
   ·omega
   ·exact .inr ⟨gg,cap2,cur,by rw[List.length_append];exact k1,Nat.le_trans (Nat.le_trans hN he.size) k2,k3,by rw[List.length_append];exact k4,k5,k6,by rw[List.length_append];exact k7⟩
theorem a0Y {α:Type}{e:Enc α}{G:Nat→Prop}{x y:Operand}{xs:List α}{i:Nat}(ht:P.underlying t=some (.slice te))(hs:(P.info? te).map (·.size)=some e.k)(hx:Is L w0 x (Dv (slE e) G xs))(hy:opd L y=some (E (.int .i64 (i:Nat))))(hi:i≤xs.length) :
  OpC P w0 L ⟨dst,.slice t x (some y) none none,ty,pos,aft,g⟩ (Dv (slE e) G (xs.drop i)):=
 aS fun ρ w he hv=>by
  have h:=Dv.sl.1 (hx.v he hv (by simp[Op.operands]))
  have h2:=opE hv (x:=y) (by simp[Op.operands]) hy
  rcases h with ⟨h,rfl⟩|⟨ad,cap,cs,h,hc,h3,h4,h5,h6⟩
  ·have hi0:i=0:=by simpa using hi
   subst hi0
   refine⟨.slice none 0 0,?_,Dv.nil⟩
   simp[execOp,h,h2,Instr.sliceAt,Instr.slice,Instr.sliceBounds,Instr.sliceBound,asIntOf,run_underlying ht,iq hs]
  ·have h8:=h5.drop i
   have hxl:(xs.drop i).length=xs.length - i:=List.length_drop
   by_cases hcap:(cap:Int)=(i:Nat)
   ·have hl0:xs.length - i=0:=by omega
    have hd0:xs.drop i=[]:=List.drop_eq_nil_of_le (by omega)
    rw[hd0]
    refine⟨.slice (some ad) 0 0,?_,Dv.sl.2 (.inr ⟨ad,0,[],rfl,Nat.le_refl _,h3,h4,rfl,fun j u hu=>by simp at hu⟩)⟩
    have hi1:(0:Int)≤(i:Int)∧(i:Int)≤(xs.length:Int):=by omega
    have hl1:xs.length=i:=by omega
    have hc1:cap=i:=by omega
    subst hc1
    simp[execOp,h,h2,Instr.sliceAt,Instr.slice,Instr.sliceBounds,Instr.sliceBound,asIntOf,run_underlying ht,iq hs,hl1]
   ·refine⟨.slice (some (ad.add (i * e.k))) (xs.drop i).length (cap - i),?_,Dv.sl.2 (.inr ⟨ad.add (i * e.k),cap - i,cs.drop (i * e.k),rfl,by rw[hxl];omega,by simpa[add_block] using h3,by simpa[add_block] using h4,h8,fun j u hu=>?_⟩)⟩
    ·have hne:¬cap=i:=fun hh=>hcap (by rw[hh])
     have hne2:¬cap - i=0:=by omega
     have hle:(i:Int)≤(xs.length:Int):=by omega
     have hle2:i≤cap:=by omega
     have hle3:i≤xs.length:=hi
     simp[execOp,h,h2,Instr.sliceAt,Instr.slice,Instr.sliceBounds,Instr.sliceBound,asIntOf,run_underlying ht,iq hs,hne,hne2,hle,hle2,hle3,hc]
    ·rw[Go.Deep.add_add]
     rw[List.getElem?_drop] at hu
     exact h6 _ _ hu
end
end Go.Mono
namespace Go.Mono
open Go Go.Proofs Go.RowKit Go.Gr

theorem sr:∀(l m:List Int),l.Nodup→(∀x∈l,x∈m)→l.length≤m.length
 | [],m,_,_=>Nat.zero_le _
 | x::l,m,hn,hs=>by
  have hx:=hs x (List.mem_cons_self ..)
  have h1:=sr l (m.erase x) (List.nodup_cons.1 hn).2 fun y hy=>(List.mem_erase_of_ne (fun h=>(List.nodup_cons.1 hn).1 (by rw[← h];exact hy))).2 (hs y (List.mem_cons_of_mem _ hy))
  have h2:=List.length_erase_of_mem hx
  have h3:=List.length_pos_of_mem hx
  rw[List.length_cons];omega
inductive RV (nbr:Int→List Int)(th:List Int)(v:Int):Int→Prop
 | one {u:Int}:u∈nbr v→RV nbr th v u
 | step {t u:Int}:RV nbr th v t→t∈th→u∈nbr t→RV nbr th v u
def eO (s:List Int)(x:Int):List Int:=if x∈s then s else s++[x]
def addL (s l:List Int):List Int:=l.foldl eO s
theorem a0Z (s:List Int)(x:Int):∃t,eO s x=s++t:=by
 unfold eO;split
 ·exact⟨[],(List.append_nil _).symm⟩
 ·exact⟨[x],rfl⟩
theorem ss:∀(l s:List Int),∃t,addL s l=s++t
 | [],s=>⟨[],(List.append_nil _).symm⟩
 | x::l,s=>by
  obtain⟨t,h⟩:=a0Z s x
  obtain⟨t',h'⟩:=ss l (eO s x)
  exact⟨t++t',by rw[← List.append_assoc,← h];exact h'⟩
theorem a1a {s:List Int}{x y:Int}:y∈eO s x↔y∈s∨y=x:=by
 unfold eO;split
 ·rename_i h
  exact⟨.inl,fun hh=>hh.elim id fun e=>e▸h⟩
 ·rw[List.mem_append,List.mem_singleton]
theorem gR {y:Int}:∀(l s:List Int),y∈addL s l↔y∈s∨y∈l
 | [],s=>by simp[addL]
 | x::l,s=>by
  rw[show addL s (x::l)=addL (eO s x) l from rfl,gR l,a1a,List.mem_cons,or_assoc]
theorem a1b {s:List Int}{x:Int}(h:s.Nodup):(eO s x).Nodup:=by
 unfold eO;split
 ·exact h
 ·rename_i hx
  rw[List.nodup_append]
  exact⟨h,by simp,fun a ha b hb e=>hx (by rw[List.mem_singleton] at hb;rw[← hb,← e];exact ha)⟩
theorem sD:∀(l s:List Int),s.Nodup→(addL s l).Nodup
 | [],s,h=>h
 | x::l,s,h=>sD l _ (a1b h)
structure RcI (ids:List Int)(nbr:Int→List Int)(th:List Int)(v:Int)(sn:List Int)(k:Nat):Prop where
 nd:sn.Nodup
 vin:v∈sn
 sub:∀x∈sn,x∈ids
 rch:∀x∈sn,x=v∨RV nbr th v x
 cl:∀j,j<k→∀x,sn[j]?=some x→(x=v∨x∈th)→∀y∈nbr x,y∈sn
section
variable {ids th sn:List Int}{nbr:Int→List Int}{v x:Int}{k:Nat}
theorem RcI.len (h:RcI ids nbr th v sn k):sn.length≤ids.length:=sr _ _ h.nd h.sub
theorem RcI.zero (hv:v∈ids):RcI ids nbr th v [v] 0:=
 ⟨by simp,by simp,fun x hx=>by rw[List.mem_singleton.1 hx];exact hv,fun x hx=>.inl (List.mem_singleton.1 hx),fun j hj=>by omega⟩
theorem RcI.skip (h:RcI ids nbr th v sn k)(hx:sn[k]?=some x)(hn:¬(x=v∨x∈th)):RcI ids nbr th v sn (k+1):=
 ⟨h.nd,h.vin,h.sub,h.rch,fun j hj y hy hyy=>by
  by_cases hjk:j=k
  ·subst hjk;rw[hx] at hy;cases hy;exact absurd hyy hn
  ·exact h.cl j (by omega) y hy hyy⟩
theorem RcI.step (h:RcI ids nbr th v sn k)(hs:∀a,∀y∈nbr a,y∈ids)(hx:sn[k]?=some x)(hn:x=v∨x∈th):RcI ids nbr th v (addL sn (nbr x)) (k+1):=by
 obtain⟨t,ht⟩:=ss (nbr x) sn
 have hkl:k<sn.length:=(List.getElem?_eq_some_iff.1 hx).1
 refine⟨sD _ _ h.nd,(gR _ _).2 (.inl h.vin),fun y hy=>?_,fun y hy=>?_,fun j hj y hy hyy z hz=>?_⟩
 ·exact ((gR _ _).1 hy).elim (h.sub y) (hs x y)
 ·rcases (gR _ _).1 hy with hy|hy
  ·exact h.rch y hy
  ·rcases h.rch x (List.mem_of_getElem? hx) with rfl|hr
   ·exact .inr (.one hy)
   ·rcases hn with rfl|hn
    ·exact .inr (.one hy)
    ·exact .inr (.step hr hn hy)
 ·rw[ht,List.getElem?_append_left (by omega)] at hy
  by_cases hjk:j=k
  ·subst hjk;rw[hx] at hy;cases hy;exact (gR _ _).2 (.inr hz)
  ·exact (gR _ _).2 (.inl (h.cl j (by omega) y hy hyy z hz))
theorem RcI.done (h:RcI ids nbr th v sn k)(hk:sn.length≤k):x∈sn↔x=v∨RV nbr th v x:=by
 have hc:∀a∈sn,(a=v∨a∈th)→∀y∈nbr a,y∈sn:=fun a ha=>by
  obtain⟨j,hj,hja⟩:=List.getElem_of_mem ha
  exact h.cl j (by omega) a (by rw[List.getElem?_eq_getElem hj,hja])
 refine⟨h.rch x,?_⟩
 rintro (rfl|hr)
 ·exact h.vin
 ·induction hr with
  | one h1=>exact hc _ h.vin (.inl rfl) _ h1
  | step _ ht hu ih=>exact hc _ ih (.inr ht) _ hu
end

section
variable {g:GT}
theorem mU (G:Gr.Ok g)(i j:Nat):0≤cr g.2 (i:Int) (j:Int)↔Adj g i j:=by
 unfold cr
 cases hf:g.2.findIdx? (fun y=>gM y (i:Int) (j:Int)) with
 | none=>
  refine⟨fun h=>by simp at h,fun⟨x,hx,h⟩=>?_⟩
  have h1:=List.findIdx?_eq_none_iff.1 hf x hx
  rw[gM] at h1
  rcases h with h|h <;> rw[h] at h1 <;> simp at h1
 | some p=>
  obtain⟨hp,h1,_⟩:=List.findIdx?_eq_some_iff_getElem.1 hf
  refine⟨fun _=>⟨g.2[p],List.getElem_mem hp,?_⟩,fun _=>by simp⟩
  rw[gM,Bool.or_eq_true,Bool.and_eq_true,Bool.and_eq_true,beq_iff_eq,beq_iff_eq,beq_iff_eq,beq_iff_eq] at h1
  rcases h1 with ⟨h1,h2⟩|⟨h1,h2⟩
  ·exact .inl (Prod.ext h1 h2)
  ·exact .inr (Prod.ext h1 h2)
theorem dT (G:Gr.Ok g):∀i j:Nat,(nbA g (i:Int)).getLsbD j=true→(nbA g (j:Int)).getLsbD i=true:=fun i j h=>(cQ G).2 ((cQ G).1 h).symm
end
theorem ki (V:BS)(i:Nat):(V &&& ~~~(0:BS)).getLsbD i=true↔V.getLsbD i=true:=by
 rw[br]
 exact⟨fun h=>h.1,fun h=>⟨h,aU i⟩⟩
theorem a1c (V:BS):V &&& ~~~(0:BS)=V:=cG (ki V)
section
variable {g:GT}
theorem a1d (G:Gr.Ok g)(hl:g.1.length≤12):(dS g).Nodup∧(∀i,i∈dS g↔(vset g.1).getLsbD i=true)∧dA (nbA g) 0 (dS g)=rsR (nbA g) (vset g.1) 0:=by
 have hs:=a0p G hl (all:=vset g.1) fun i h=>h
 have hb:=zy (nb:=nbA g) (all:=vset g.1) 0
 obtain⟨h1,h2,h3⟩:=zF hs hb.1 (card (vset g.1)) 0 (by rw[a1c]) (Int.le_refl _)
 have h2':∀i,i∈dS g↔(vset g.1).getLsbD i=true:=fun i=>by rw[dS,h2,ki]
 have h4:=mI (nb:=nbA g) (all:=vset g.1) (dS g) 0 h1 fun i=>by rw[h2',ki]
 refine⟨h1,h2',?_⟩
 have h3':dA (nbA g) 0 (dS g)≤rsR (nbA g) (vset g.1) 0:=h3
 omega
end
theorem a1e {P:Program}{w0:World}{L:Env}{ty:TypeId}{pos:String}{aft:Array Edge}{x y:Operand}{t bt:TypeId}{b off:Nat}{v:Value}{cs:Array Value}(ht:TI P t false 1)(hx:opd L x=some (E (.pointer (some ⟨b,off,none⟩))))(hy:opd L y=some (E v))(h1:v.oneCell'=true)(hb:Blk w0 b cs bt)(ho:off<cs.size) :
  eE P w0 (Chg fun c=>c=b) (fun w'=>Blk w' b (cs.setIfInBounds off v) bt) L ⟨none,.store t x y,ty,pos,aft,none⟩ Any:=by
 refine⟨fun ρ w he hv=>?_⟩
 have hxv:ρ x=.pointer (some ⟨b,off,none⟩):=hv x (by simp[Op.operands]) _ hx
 have hyv:ρ y=v:=hv y (by simp[Op.operands]) _ hy
 have hc:v.cells = #[v]:=by cases v <;> simp[Value.cells,Value.oneCell'] at h1 ⊢
 have hb':=hb.ext he
 have hrun:=run_storeCells_at (P:=P) b off bt [v] 0 cs w hb' (by simp;omega) (by simpa using h1)
 have e:=ot cs off v ho
 simp only[List.length_singleton,Nat.add_zero] at hrun
 rw[e] at hrun
 have hrun2:OpR P ⟨none,.store t x y,ty,pos,aft,none⟩ ρ w (fun _ w'=>w'=w.setRow b (cs.setIfInBounds off v)):=by
  simp[OpR,execOp,Instr.storeAt,Instr.sureAddr,hxv,hyv,storeVar,hc,ht.size,hrun]
 refine hrun2.mono ?_
 rintro u w' rfl
 have hg:=dJ w b (cs.setIfInBounds off v)
 exact⟨⟨hg.os,hg.tape,hg.output,hg.size,fun k hk hn=>hg.block k hk fun hh=>hn (by cases hh;rfl)⟩,trivial,setRow_heap _ _ _ _ _ _ hb'⟩
end Go.Mono
namespace Go.Mono
open Go Go.Proofs Go.RowKit

def ah (l:List Nat):List Int:=l.map fun i:Nat=>(i:Int)
structure AqJ (W:World)(N b2 B:Nat)(s:List Nat)(w:World):Prop where
 e:Ext W w
 t:Tab w
 p:∃u,Blk w b2 #[u] 35∧OwR intE 3 N G0 w (ah s) u∧∀g,u.ownBlock=some g→¬aW B g
theorem AqJ.kp {W:World}{N b2 B:Nat}{s:List Nat}{w w':World}(h:AqJ W N b2 B s w)(k:Kp B w w')(hW:W.heap.size≤B)(h0:0<B)(l2:b2<B):AqJ W N b2 B s w':=by
 obtain⟨u,q1,q2,q3⟩:=h.p
 exact⟨h.e.kp k hW,h.t.kp k h0,⟨u,q1.kp k (fun hh=>by have:=hh.1;omega),q2.chE k.chg q3,q3⟩⟩
theorem a1f (S:BS)(b:Nat)(W:World)(hT:Tab W)(hb:Blk W b (aJ S) 76) :
  Calls Tryz.prog 136 #[.slice none 0 0,de b] W (Post (OwA intE 3 W.heap.size G0 (ah (ai S))) W):=by
 have hT0:=hT.lt
 refine dx (args:=[.slice none 0 0,de b]) (As:=[E (.slice none 0 0),E (de b)]) Tryz.func136 rfl Tryz.ntmps136 (Nat.le_of_ble_eq_true rfl) ?_ (fun a hf=>?_) (Nat.le_of_ble_eq_true rfl)
 ·exact arg2 rfl rfl
 dsimp only[params,Nat.reduceAdd] at hf
 have e:=Ext.rfl' W
 refine seq <| ac <| tB hf rfl fun a b2 w v2 hv2 e' hb2 hs2 B2 hf=>?_
 have hle2:=Nat.le_trans e.size (Nat.le_of_eq hb2.symm)
 obtain⟨hT,e,hb⟩:=up3 e' hT e hb
 refine tA hf rfl fun a hf=>aa ?_
 cases hv2
 replace B2:Blk w b2 #[.slice none 0 0] 35:=B2
 replace hf:=hf.keep [1,2]
 refine seq <| seq ?_
 refine rgN 1 hf <| st (mv rfl) <| en fun a w e' hf=>?_
 obtain⟨hT,e,hb,B2⟩:=up4 e' hT e hb B2
 refine aa ?_
 replace hf:=hf.kp [2,6]
 have n2:W.heap.size≤b2:=hle2
 have hBW:W.heap.size≤w.heap.size:=e.size
 have h0w:0<w.heap.size:=hT.lt
 have l2:=B2.lt
 have hel:=fq S
 obtain⟨N,hN⟩:=eqX w.heap.size
 have hNs:N≤w.heap.size:=Nat.le_of_eq hN
 have l2N:b2<N:=by omega
 have hWN:W.heap.size≤N:=by omega
 refine blk <| dz (S:=S) hf rfl hb (by decide) (fun s w1=>AqJ W N b2 w.heap.size s w1) (fun _ _=>False) (fun s w1 h=>h.t)
  ⟨e,hT,⟨_,B2,OwR.nil intE _ hNs (fun b hb=>hb.elim),fun g hg=>by cases hg⟩⟩ (fun s w1 w2 h hs k=>h.kp k hBW h0w l2) (fun _ _ _ h=>h.elim) ?_ ?_ (fun _ _ _ _ _ _ h=>h.elim)
 ·intro lp s x rest a1 w1 hs hJ hlw hf
  have hsl:s.length≤1024:=by rw[hs] at hel;simp at hel;omega
  generalize hBz:w.heap.size=Bz at *
  refine ac <| tA hf rfl fun a hf=>aa <| ⟨Kh.rfl' _ _,fun w3 k3 hsz3=>?_⟩
  have hJ3:=hJ.kp k3 hBW h0w l2
  have hw3:Bz+3≤w3.heap.size:=by omega
  replace hf:=hf.pure w3
  obtain⟨e,hT,⟨u,B2,Ho,lH⟩⟩:=hJ3
  have kh:=Kh.rfl' Bz w3
  replace hf:=hf.kp [2,5]
  refine blk ?_
  have hln:(ah s).length=s.length:=by simp[ah]
  refine rgN 3 hf <| st (ld1 (v:=u) T35 rfl B2 rfl) <| st (mv rfl) <| st (aX U35 I3 rfl (by decide) rfl Ho.avs (isI rfl)) <| en fun a w e' hf=>?_
  replace hT:=hT.ext e'
  replace kh:=kh.tr (Kh.ext e')
  obtain⟨hw3,e,B2,Ho⟩:=up4 e' hw3 e B2 Ho
  have hrow:∀b,u.ownBlock=some b→N≤b:=fun b hb=>(Ho.lt hb).1
  refine bG U35 I3 rfl rfl hf (by decide) rfl Ho (isR rfl) (by rw[hln,List.length_singleton];omega) (by rw[hln,List.length_singleton];simp only[maxLen];omega) fun a u' w hg hat Hn hf=>?_
  replace B2:=B2.gro hg (Ho.neB B2 (by decide))
  replace e:=e.gro hg (fun b hb=>by have:=hrow b hb;omega)
  replace hT:=hT.gro hg (fun b hb=>by have:=hrow b hb;omega)
  replace kh:=kh.tr (Kh.gro hg lH)
  have lH':=xD hat lH hw3
  have z2:u'.ownBlock≠some b2:=Hn.neB B2 (by decide)
  have hone:=Hn.one
  replace hf:=hf.kp [2,5,11]
  refine aO T35 hf rfl rfl hone B2 Nat.zero_lt_one fun w hg hsz B2 hf=>?_
  replace B2:Blk w b2 #[u'] 35:=B2
  obtain⟨e,hT⟩:=gr2 hg e hT
  replace kh:=kh.tr (Kh.gr hg (fun hh=>by have:=hh.1;omega))
  replace Hn:=Hn.grE hg z2
  refine aa ?_
  simp only[Exit.inBlock]
  exact⟨⟨e,hT,⟨u',B2,by rw[ah,List.map_append];exact Hn,lH'⟩⟩,kh⟩
 ·intro a' w' hf' hJ hsz hDn
  simp only[Exit.inBlock,↓reduceIte,Exit.then]
  have hD:Ds [w.heap.size] w':=(Ds.nil w').cons hDn (by simp)
  have hf:FrD 13 (bS [w.heap.size]) a' w' [(2,E (ptr b2))]:=hf'.keep [2]
  have hDW:∀d∈[w.heap.size],W.heap.size≤d:=fun d hd=>by rw[List.mem_singleton] at hd;omega
  obtain⟨e,hT,⟨u,B2,Ho,_⟩⟩:=hJ
  generalize [w.heap.size]=D2 at *
  generalize w'=w at *
  refine seq <| rgN 1 hf <| st (ld1 (v:=u) T35 rfl B2 rfl) <| en fun a w e' hf=>?_
  obtain⟨e,B2,hD,Ho⟩:=up4 e' e B2 hD Ho
  refine tA hf rfl fun a hf=>aa <| ak <| jJ rfl hf rfl hD ⟨_,rfl,e.shut hDW,?_⟩
  exact (Ho.chE (ed D2 w) fun b hb hm=>Ho.neDs hD hm hb).low hWN fun b hb=>hb.elim
def eP (w:World):List (Nat×Array Value×TypeId)→Prop
 | []=>True
 | x::K=>Blk w x.1 x.2.1 x.2.2∧eP w K
def LtL (B:Nat):List (Nat×Array Value×TypeId)→Prop
 | []=>True
 | x::K=>x.1<B∧LtL B K
theorem eP.kp {B:Nat}{w w':World}(k:Kp B w w'):∀{K:List (Nat×Array Value×TypeId)},eP w K→LtL B K→eP w' K
 | [],_,_=>trivial
 | x::K,h,l=>⟨h.1.kp k (fun hh=>by have:=hh.1;have:=l.1;omega),eP.kp k h.2 l.2⟩
theorem eP.lt {w:World}:∀{K:List (Nat×Array Value×TypeId)},eP w K→LtL w.heap.size K
 | [],_=>trivial
 | x::K,h=>⟨h.1.lt,eP.lt h.2⟩
structure RJ (W:World)(fs:List BS)(fv:Value)(K:List (Nat×Array Value×TypeId))(D:List Nat)(w:World):Prop where
 e:Ext W w
 t:Tab w
 hv:(Dv (slE aP) (GB W G0) fs).p fv w
 bl:eP w K
 ds:Ds D w
theorem RJ.kp {W:World}{fs:List BS}{fv:Value}{K:List (Nat×Array Value×TypeId)}{D:List Nat}{B:Nat}{w w':World}(h:RJ W fs fv K D w)(k:Kp B w w')(hW:W.heap.size≤B)(h0:0<B)(hK:LtL B K)(hD:∀d∈D,d<B):RJ W fs fv K D w':=
 ⟨h.e.kp k hW,h.t.kp k h0,Dv.ch h.hv k.chg (fun b hb=>.inr (by have:=hb.1;omega)),h.bl.kp k hK,h.ds.ch k.chg fun d hd hh=>by have:=hh.1;have:=hD d hd;omega⟩

def sE (fs:List BS)(s:List Nat):BS:=s.foldl (fun r n=>r ||| sg fs n) 0
def bM (fs:List BS)(part:BS):BS:=sE fs (ai part) &&& ~~~part

end Go.Mono
