/-
  Walks of functions and plain facts.
  No condition.
-/
import Derived.Test.YtbjangoghokneaaGreatDoorND
import Derived.Test.YtbjangoghokneaaGreatDoorNB
import Derived.Test.YtbjangoghokneaaGreatDoorNC
import Derived.Test.YtbjangoghokneaaGreatDoorNA
import Derived.WideKeyEntry
set_option linter.unusedVariables false
set_option linter.unusedSimpArgs false
namespace Go.Mono
def partsB (fs:List BS)(left:BS):List BS:=(ek fs (1+fs.length) left).getD []
def mostB (fs:List BS)(part:BS)(n:Nat):Nat:=(partsB fs (del part (n:Int))).foldl (fun m C=>max m (card C)) 0
def gf (fs:List BS)(part:BS)(s:Int×Int)(n:Nat):Int×Int:=if s.1<0∨(mostB fs part n:Int)<s.2 then ((n:Int),(mostB fs part n:Int)) else s
def sF (fs:List BS)(part:BS)(s:List Nat):Int×Int:=s.foldl (gf fs part) (-1,0)
def cenB (fs:List BS)(part:BS):Nat:=(sF fs part (ai part)).1.toNat

def gh (fs:List BS)(part:BS)(to:Nat):Nat→BS→Nat→Option BS
 | 0,r,x=>if x=to then some r else none
 | f+1,r,x=>if x=to then some r else
   oEl ((ai ((sg fs x &&& part) &&& ~~~r)).find? fun n=>(compB fs (del part (x:Int)) n).getLsbD to) none fun n=>gh fs part to f (ins r (n:Int)) n
def dC (fs:List BS)(part:BS)(x y:Nat):BS:=(gh fs part y (1+fs.length) (ins 0 (x:Int)) x).getD 0
def cR (fs:List BS)(part:BS)(n:Nat):Nat:=(aN (sg fs n &&& part)).getD 0
def kj (fs:List BS)(part between:BS)(c n:Nat):Bool:=between.getLsbD n&&decide (card (dC fs part c n &&& between)=1)
def gS (fs:List BS)(part out:BS):Nat:=
 if card out<2 then cenB fs part
 else match (ai out).map (cR fs part) with
  | e0::e1::_=>((ai (dC fs part (cenB fs part) e0)).find? (kj fs part (dC fs part e0 e1) (cenB fs part))).getD (cenB fs part)
  | _=>cenB fs part

section
variable {fs:List BS}{T:Tr}{part:BS}

theorem a1g {x k i:Nat}(hx:x<T.n)(hk:k<T.n)(h:T.adj k x)(hP:T.P i x k):i=x∨i=k:=by
 apply Classical.byContradiction
 intro hn
 exact hP (Tr.cn.of_adj hx hk ⟨hx,fun e=>hn (.inl e.symm)⟩ ⟨hk,fun e=>hn (.inr e.symm)⟩ h.symm)
theorem mV {p:Nat→Bool}{k:Nat}:∀{l:List Nat},k∈l→p k=true→(∀n∈l,p n=true→n=k)→l.find? p=some k
 | [],h,_,_=>by cases h
 | x::l,h,hk,h1=>by
  rw[List.find?_cons]
  cases hx:p x with
  | true=>rw[h1 x (by simp) hx]
  | false=>
   rcases List.mem_cons.1 h with rfl|h
   ·rw[hk] at hx;cases hx
   ·exact mV h hk fun n hn=>h1 n (by simp[hn])
theorem sG (F:Fo fs T)(hin:∀i,part.getLsbD i=true→i<T.n)(hC:T.conn (bits part)){x y z:Nat}{r:BS}(hx:part.getLsbD x=true)(hy:part.getLsbD y=true)(hz:part.getLsbD z=true)(hr:∀i,r.getLsbD i=true↔T.P i x z)(hP:T.P z x y)(hne:z≠y) :
  ∃k,(ai ((sg fs z &&& part) &&& ~~~r)).find? (fun n=>(compB fs (del part (z:Int)) n).getLsbD y)=some k∧part.getLsbD k=true∧(∀i,(ins r (k:Int)).getLsbD i=true↔T.P i x k)∧T.P k x y∧T.dist k y<T.dist z y:=by
 have hxn:=hin x hx
 have hyn:=hin y hy
 have hzn:=hin z hz
 have hle:=F.le
 obtain⟨k,k1,k2⟩:=Tr.hop hC hzn hyn hz hy (Ne.symm hne)
 have hkp:part.getLsbD k=true:=k2.2.2.1.1
 have hkn:=k2.1
 have hV:T.cn (Tr.wo (fun i=>i<T.n) z) k y:=k2.mono fun i hi h=>⟨hi,h.2⟩
 have p1:T.P k z y:=Tr.hop_P hzn k1 hV
 have p2:T.P k x y:=hP.sub' p1
 have p3:T.P z x k:=(hP.split k).resolve_right fun h=>h hV
 have hkz:k≠z:=k2.2.2.1.2
 have hdel:∀i,(del part (z:Int)).getLsbD i=true↔part.getLsbD i=true∧i≠z:=fun i=>iO part (by omega)
 have hbits:(bits (del part (z:Int)))=Tr.wo (bits part) z:=by funext i;exact propext (hdel i)
 have hind:∀i,(del part (z:Int)).getLsbD i=true→i<T.n:=fun i hi=>hin i ((hdel i).1 hi).1
 have hcand:∀n,n∈ai ((sg fs z &&& part) &&& ~~~r)↔T.adj z n∧part.getLsbD n=true∧¬r.getLsbD n=true:=fun n=>by
  rw[aD,br,cY,F.adj hzn]
  constructor
  ·rintro⟨_,⟨⟨_,h1⟩,h2⟩,h3⟩;exact⟨h1,h2,h3⟩
  ·rintro⟨h1,h2,h3⟩;exact⟨aA h2,⟨⟨hin n h2,h1⟩,h2⟩,h3⟩
 have hcmp:∀n,T.adj z n→part.getLsbD n=true→((compB fs (del part (z:Int)) n).getLsbD y=true↔T.cn (Tr.wo (bits part) z) n y):=fun n hn hp=>by
  have hnd:(del part (z:Int)).getLsbD n=true:=(hdel n).2 ⟨hp,fun e=>(hn.ne hzn) e.symm⟩
  rw[(ej F hind hnd).2 y,hbits]
 refine⟨k,mV ((hcand k).2 ⟨k1.symm,hkp,fun h=>hkz (Tr.P.meet hxn hyn hP ((hr k).1 h) p1)⟩) ((hcmp k k1.symm hkp).2 k2) (fun n hn hpn=>?_),hkp,fun i=>?_,p2,?_⟩
 ·obtain⟨h1,h2,_⟩:=(hcand n).1 hn
  exact Tr.hop_one hzn h1.symm k1 (((hcmp n h1 h2).1 hpn).trans k2.symm)
 ·rw[bE r (by omega),hr]
  constructor
  ·rintro (h|rfl)
   ·exact p3.sub h
   ·exact Tr.P.right
  ·intro h
   rcases h.split z with h|h
   ·exact .inl h
   ·rcases a1g hzn hkn k1 h with rfl|rfl
    ·exact .inl Tr.P.right
    ·exact .inr rfl
 ·exact Tr.dist_lt hzn (fun u _ hu=>p1.sub' hu) Tr.P.left fun h=>h hV
theorem a1h (F:Fo fs T)(hin:∀i,part.getLsbD i=true→i<T.n)(hC:T.conn (bits part)){x y:Nat}(hx:part.getLsbD x=true)(hy:part.getLsbD y=true):∀(f:Nat) (r:BS) (z:Nat),part.getLsbD z=true→(∀i,r.getLsbD i=true↔T.P i x z)→T.P z x y→T.dist z y≤f →
  ∃Z,gh fs part y f r z=some Z∧∀i,Z.getLsbD i=true↔T.P i x y:=by
 intro f
 induction f with
 | zero=>
  intro r z hz hr hP hd
  by_cases h:z=y
  ·subst h;exact⟨r,by rw[gh,if_pos rfl],hr⟩
  ·obtain⟨k,_,_,_,_,h5⟩:=sG F hin hC hx hy hz hr hP h
   omega
 | succ f ih=>
  intro r z hz hr hP hd
  by_cases h:z=y
  ·subst h;exact⟨r,by rw[gh,if_pos rfl],hr⟩
  ·obtain⟨k,h1,h2,h3,h4,h5⟩:=sG F hin hC hx hy hz hr hP h
   obtain⟨Z,h6,h7⟩:=ih _ k h2 h3 h4 (by omega)
   exact⟨Z,by rw[gh,if_neg h,h1,oEl];exact h6,h7⟩
theorem a1i (x y:Nat):T.dist x y≤T.n:=by
 unfold Tr.dist
 have:=List.countP_le_length (p:=fun z=>@decide (T.P z x y) (Classical.propDecidable _)) (l:=List.range T.n)
 rwa [List.length_range] at this
theorem a1j {i x:Nat}(hx:x<T.n):T.P i x x↔i=x:=by
 constructor
 ·intro h
  apply Classical.byContradiction
  intro hn
  exact h (Tr.cn.refl hx ⟨hx,Ne.symm hn⟩)
 ·rintro rfl;exact Tr.P.left
theorem gT (F:Fo fs T)(hin:∀i,part.getLsbD i=true→i<T.n)(hC:T.conn (bits part)){x y:Nat}(hx:part.getLsbD x=true)(hy:part.getLsbD y=true) :
  gh fs part y (1+fs.length) (ins 0 (x:Int)) x=some (dC fs part x y)∧∀i,(dC fs part x y).getLsbD i=true↔T.P i x y:=by
 have hle:=F.le
 have hd:=a1i (T:=T) x y
 obtain⟨Z,h1,h2⟩:=a1h F hin hC hx hy (1+fs.length) (ins 0 (x:Int)) x hx (fun i=>by
  rw[bE 0 (by have:=hin x hx;omega),a1j (hin x hx)]
  exact⟨fun h=>h.resolve_left (aU i),.inr⟩) Tr.P.left (by have:=F.len;omega)
 have:dC fs part x y=Z:=by rw[dC,h1];rfl
 rw[this]
 exact⟨h1,h2⟩
theorem a1k (F:Fo fs T)(hin:∀i,part.getLsbD i=true→i<T.n)(hC:T.conn (bits part)){x y i:Nat}(hx:part.getLsbD x=true)(hy:part.getLsbD y=true)(h:(dC fs part x y).getLsbD i=true):part.getLsbD i=true:=
 Tr.P.mem hC (hin x hx) (hin y hy) hx hy (((gT F hin hC hx hy).2 i).1 h)

theorem km (hin:∀i,part.getLsbD i=true→i<T.n)(z:Int):∀i,(del part z).getLsbD i=true→i<T.n:=fun i h=>by
 unfold del at h
 split at h
 ·exact hin i ((br _ _ i).1 h).1
 ·exact hin i h
theorem a1l (F:Fo fs T){left:BS}(hin:∀i,left.getLsbD i=true→i<T.n):ek fs (1+fs.length) left=some (partsB fs left)∧(partsB fs left).length≤card left∧(∀C∈partsB fs left,∃k,left.getLsbD k=true∧C=compB fs left k)∧∀k,left.getLsbD k=true→compB fs left k∈partsB fs left:=by
 have:=jW hin
 obtain⟨l,h1,h2⟩:=zq F (1+fs.length) left hin (by have:=F.len;omega)
 have e:partsB fs left=l:=by rw[partsB,h1];rfl
 rw[e]
 exact⟨h1,h2⟩
theorem mW (fs:List BS)(part:BS):∀(l:List Nat) (s:Int×Int),(0≤s.1→∃n:Nat,s.1=(n:Int)∧s.2=(mostB fs part n:Int)) →
  (l≠[]∨0≤s.1)→∃n:Nat,(l.foldl (gf fs part) s).1=(n:Int)∧(n∈l∨s.1=(n:Int))∧(l.foldl (gf fs part) s).2=(mostB fs part n:Int)∧(∀m∈l,mostB fs part n≤mostB fs part m)∧(0≤s.1→(mostB fs part n:Int)≤s.2)
 | [],s,h,h0=>by
  have h1:=h0.resolve_left (by simp)
  obtain⟨n,h2,h3⟩:=h h1
  exact⟨n,h2,.inr h2,h3,by simp,fun _=>by omega⟩
 | m::l,s,h,_=>by
  rw[List.foldl_cons]
  by_cases hc:s.1<0∨(mostB fs part m:Int)<s.2
  ·have e:gf fs part s m=((m:Int),(mostB fs part m:Int)):=if_pos hc
   obtain⟨n,h1,h2,h3,h4,h5⟩:=mW fs part l (gf fs part s m) (fun _=>⟨m,by rw[e],by rw[e]⟩) (.inr (by rw[e];exact Int.natCast_nonneg m))
   have h5':=h5 (by rw[e];exact Int.natCast_nonneg m)
   rw[e] at h5' h2
   refine⟨n,h1,.inl ?_,h3,fun x hx=>?_,fun h0=>?_⟩
   ·rcases h2 with h2|h2
    ·exact List.mem_cons_of_mem _ h2
    ·simp only at h2
     have:n=m:=by omega
     subst this;simp
   ·rcases List.mem_cons.1 hx with rfl|hx
    ·simp only at h5';omega
    ·exact h4 x hx
   ·simp only at h5';omega
  ·have e:gf fs part s m=s:=if_neg hc
   have h0:0≤s.1:=by omega
   rw[e]
   obtain⟨n,h1,h2,h3,h4,h5⟩:=mW fs part l s h (.inr h0)
   have:=h5 h0
   refine⟨n,h1,h2.imp (List.mem_cons_of_mem _) id,h3,fun x hx=>?_,fun _=>this⟩
   rcases List.mem_cons.1 hx with rfl|hx
   ·omega
   ·exact h4 x hx
theorem a1m {p:Nat}(hp:part.getLsbD p=true):part.getLsbD (cenB fs part)=true∧(sF fs part (ai part)).1=(cenB fs part:Int)∧∀m,part.getLsbD m=true→mostB fs part (cenB fs part)≤mostB fs part m:=by
 have hpe:=aD.2 ⟨aA hp,hp⟩
 obtain⟨n,h1,h2,h3,h4,_⟩:=mW fs part (ai part) (-1,0) (fun h=>by simp at h) (.inl (List.ne_nil_of_mem hpe))
 have e:cenB fs part=n:=by
  show (List.foldl (gf fs part) (-1,0) (ai part)).1.toNat=n
  rw[h1];exact Int.toNat_natCast n
 rw[e]
 refine⟨?_,h1,fun m hm=>h4 m (aD.2 ⟨aA hm,hm⟩)⟩
 rcases h2 with h2|h2
 ·exact (aD.1 h2).2
 ·simp only at h2;omega
end

section
variable {fs:List BS}{T:Tr}{part:BS}

theorem sH (i:Nat):∀(s:List Nat) (r:BS),(s.foldl (fun r n=>r ||| sg fs n) r).getLsbD i=true↔r.getLsbD i=true∨∃n∈s,(sg fs n).getLsbD i=true
 | [],r=>by simp
 | n::s,r=>by
  rw[List.foldl_cons,sH i s,bL]
  constructor
  ·rintro ((h|h)|⟨m,hm,h⟩)
   ·exact .inl h
   ·exact .inr ⟨n,by simp,h⟩
   ·exact .inr ⟨m,by simp[hm],h⟩
  ·rintro (h|⟨m,hm,h⟩)
   ·exact .inl (.inl h)
   ·rcases List.mem_cons.1 hm with rfl|hm
    ·exact .inl (.inr h)
    ·exact .inr ⟨m,hm,h⟩
theorem iT (F:Fo fs T)(hin:∀i,part.getLsbD i=true→i<T.n)(i:Nat):(bM fs part).getLsbD i=true↔i<T.n∧¬part.getLsbD i=true∧∃j,part.getLsbD j=true∧T.adj j i:=by
 rw[bM,br,sE,sH]
 constructor
 ·rintro⟨h|⟨j,hj,h⟩,h2⟩
  ·exact absurd h (aU i)
  ·have hj':=(aD.1 hj).2
   have:=(F.adj (hin j hj')).1 h
   exact⟨this.1,h2,j,hj',this.2⟩
 ·rintro⟨h1,h2,j,hj,h⟩
  exact⟨.inr ⟨j,aD.2 ⟨aA hj,hj⟩,(F.adj (hin j hj)).2 ⟨h1,h⟩⟩,h2⟩
theorem mX (F:Fo fs T)(hin:∀i,part.getLsbD i=true→i<T.n)(hC:T.conn (bits part)){b:Nat}(hb:(bM fs part).getLsbD b=true) :
  part.getLsbD (cR fs part b)=true∧T.adj (cR fs part b) b∧∀j,part.getLsbD j=true→T.adj j b→j=cR fs part b:=by
 obtain⟨hbn,hbp,j,hj,hjb⟩:=(iT F hin b).1 hb
 have hbit:(sg fs b &&& part).getLsbD j=true:=(cY _ _ j).2 ⟨(F.adj hbn).2 ⟨hin j hj,hjb.symm⟩,hj⟩
 obtain⟨k,hk,_⟩:=zl hbit
 have hk2:=(cY _ _ k).1 (fu hk)
 have e:cR fs part b=k:=by rw[cR,hk];rfl
 rw[e]
 have hkb:T.adj k b:=((F.adj hbn).1 hk2.1).2.symm
 exact⟨hk2.2,hkb,fun x hx hxb=>hC.nb hbn hbp (hin x hx) (hin k hk2.2) hx hk2.2 hxb hkb⟩
theorem sI {S:BS}(h:¬card S<2):∃a b l,ai S=a::b::l∧a≠b∧S.getLsbD a=true∧S.getLsbD b=true:=by
 rw[← cJ] at h
 have hn:(ai S).Nodup:=List.Nodup.sublist List.filter_sublist List.nodup_range
 match hl:ai S with
 | []=>rw[hl] at h;simp at h
 | [a]=>rw[hl] at h;simp at h
 | a::b::l=>
  rw[hl] at hn
  exact⟨a,b,l,rfl,fun e=>by subst e;simp at hn,(aD.1 (by rw[hl];simp)).2,(aD.1 (by rw[hl];simp)).2⟩
structure Spl (fs:List BS)(T:Tr)(part:BS)(s:Nat):Prop where
 mem:part.getLsbD s=true
 one:card (bM fs part)<2→s=cenB fs part
 two:∀{a b l},ai (bM fs part)=a::b::l→T.P s (cR fs part a) (cR fs part b)∧T.P s (cR fs part a) (cenB fs part)∧T.P s (cR fs part b) (cenB fs part)
theorem a1n {S:BS}{a b:Nat}(h:card S=1)(ha:S.getLsbD a=true)(hb:S.getLsbD b=true):a=b:=by
 rw[← cJ] at h
 match hl:ai S with
 | []=>rw[hl] at h;simp at h
 | [x]=>
  have h1:=aD.2 ⟨aA ha,ha⟩
  have h2:=aD.2 ⟨aA hb,hb⟩
  rw[hl] at h1 h2
  simp at h1 h2
  omega
 | x::y::l=>rw[hl] at h;simp at h
theorem sJ (F:Fo fs T)(hin:∀i,part.getLsbD i=true→i<T.n)(hC:T.conn (bits part)){x y c m n:Nat}(hx:part.getLsbD x=true)(hy:part.getLsbD y=true)(hc:part.getLsbD c=true)
  (h1:T.P m x y) (h2:T.P m x c) (h3:T.P m y c) (hn:part.getLsbD n=true):kj fs part (dC fs part x y) c n=true↔n=m:=by
 have hxn:=hin x hx
 have hyn:=hin y hy
 have hcn:=hin c hc
 have pb:=fun i=>(gT F hin hC hx hy).2 i
 rw[kj,Bool.and_eq_true,decide_eq_true_eq,pb]
 constructor
 ·rintro⟨h4,h5⟩
  have hmn:T.P m n c:=Tr.near hxn hyn hcn h1 h2 h3 h4
  exact a1n h5 ((cY _ _ n).2 ⟨((gT F hin hC hc hn).2 n).2 Tr.P.right,(pb n).2 h4⟩) ((cY _ _ m).2 ⟨((gT F hin hC hc hn).2 m).2 hmn.symm,(pb m).2 h1⟩)
 ·rintro rfl
  refine⟨h1,gP (p:=n) fun i=>?_⟩
  rw[cY,(gT F hin hC hc hn).2 i,pb]
  constructor
  ·rintro⟨h4,h5⟩
   have:=Tr.near hxn hyn hcn h1 h2 h3 h5
   exact (Tr.P.meet hcn (hin n hn) h4 this.symm Tr.P.right).symm
  ·rintro rfl
   exact⟨Tr.P.right,h1⟩
theorem a1o (F:Fo fs T)(hin:∀i,part.getLsbD i=true→i<T.n)(hC:T.conn (bits part)){p:Nat}(hp:part.getLsbD p=true):Spl fs T part (gS fs part (bM fs part)):=by
 obtain⟨hc,_,_⟩:=a1m (fs:=fs) hp
 by_cases hcard:card (bM fs part)<2
 ·have e:gS fs part (bM fs part)=cenB fs part:=by rw[gS,if_pos hcard]
  rw[e]
  refine⟨hc,fun _=>rfl,fun {a b l} h=>?_⟩
  have:=cJ (bM fs part)
  rw[h] at this
  simp at this
  omega
 ·obtain⟨a,b,l,he,hab,ha,hb⟩:=sI hcard
  obtain⟨a1,a2,a3⟩:=mX F hin hC ha
  obtain⟨b1,b2,b3⟩:=mX F hin hC hb
  obtain⟨m,m1,m2,m3⟩:=Tr.median (hin _ a1) (hin _ b1) (hin _ hc)
  have hm:part.getLsbD m=true:=Tr.P.mem hC (hin _ a1) (hin _ b1) a1 b1 m1
  have hf:(ai (dC fs part (cenB fs part) (cR fs part a))).find? (kj fs part (dC fs part (cR fs part a) (cR fs part b)) (cenB fs part))=some m:=by
   have hpm:(dC fs part (cenB fs part) (cR fs part a)).getLsbD m=true:=((gT F hin hC hc a1).2 m).2 m2.symm
   refine mV (aD.2 ⟨aA hpm,hpm⟩) ((sJ F hin hC a1 b1 hc m1 m2 m3 hm).2 rfl) fun n hn hpn=>?_
   have hn':=a1k F hin hC hc a1 (aD.1 hn).2
   exact (sJ F hin hC a1 b1 hc m1 m2 m3 hn').1 hpn
  have e:gS fs part (bM fs part)=m:=by
   rw[gS,if_neg hcard,he]
   simp only[List.map_cons,hf,Option.getD_some]
  rw[e]
  refine⟨hm,fun h=>absurd h hcard,fun {a' b' l'} h=>?_⟩
  rw[he] at h
  cases h
  exact⟨m1,m2,m3⟩

structure Sub (fs:List BS)(T:Tr)(part:BS)(s:Nat)(C:BS):Prop where
 ne:∃k,C.getLsbD k=true
 sub:∀i,C.getLsbD i=true→part.getLsbD i=true∧i≠s
 conn:T.conn (bits C)
 clo:∀i j,C.getLsbD i=true→part.getLsbD j=true→j≠s→T.adj i j→C.getLsbD j=true
theorem a1p (F:Fo fs T)(hin:∀i,part.getLsbD i=true→i<T.n){s:Nat}(hs:s<T.n){C:BS}(h:C∈partsB fs (del part (s:Int))):Sub fs T part s C:=by
 have hle:=F.le
 have hdel:∀i,(del part (s:Int)).getLsbD i=true↔part.getLsbD i=true∧i≠s:=fun i=>iO part (by omega)
 obtain⟨k,hk,rfl⟩:=(a1l F (km (part:=part) hin (s:Int))).2.2.1 C h
 have hb:=(ej F (km hin _) hk).2
 refine⟨⟨k,ru F (km hin _) hk⟩,fun i hi=>(hdel i).1 (zn F (km hin _) hk i hi),?_,fun i j hi hj hjs hij=>?_⟩
 ·have:=Tr.conn_comp (T:=T) (A:=bits (del part (s:Int))) (x:=k)
  have e:(fun y=>T.cn (bits (del part (s:Int))) k y)=bits (compB fs (del part (s:Int)) k):=by
   funext y
   exact propext (hb y).symm
  rwa [e] at this
 ·have h1:=(hb i).1 hi
  exact (hb j).2 (h1.trans (Tr.cn.of_adj h1.2.1 (hin j hj) h1.2.2.2.1 ((hdel j).2 ⟨hj,hjs⟩) hij))
theorem a1q (F:Fo fs T)(hin:∀i,part.getLsbD i=true→i<T.n){s:Nat}{C:BS}(h:Sub fs T part s C){i:Nat}(hi:(bM fs C).getLsbD i=true):i=s∨(bM fs part).getLsbD i=true:=by
 obtain⟨h1,h2,j,hj,hji⟩:=(iT F (fun i hi=>hin i (h.sub i hi).1) i).1 hi
 by_cases his:i=s
 ·exact .inl his
 ·refine .inr ((iT F hin i).2 ⟨h1,fun hp=>h2 (h.clo j i hj hp his hji),j,(h.sub j hj).1,hji⟩)
theorem sK (F:Fo fs T)(hin:∀i,part.getLsbD i=true→i<T.n)(hC:T.conn (bits part)){s:Nat}{C:BS}(h:Sub fs T part s C){b:Nat}(hb:(bM fs part).getLsbD b=true)(hb':(bM fs C).getLsbD b=true):C.getLsbD (cR fs part b)=true:=by
 obtain⟨h1,h2,j,hj,hji⟩:=(iT F (fun i hi=>hin i (h.sub i hi).1) b).1 hb'
 rw[← (mX F hin hC hb).2.2 j (h.sub j hj).1 hji];exact hj
theorem mY {S A:BS}{s:Nat}(hs:s<1024)(h:∀i,S.getLsbD i=true→i=s∨A.getLsbD i=true):card S≤card A+1:=by
 by_cases hA:A.getLsbD s=true
 ·have:card S≤card A:=mE fun i hi=>by
   rcases h i hi with rfl|h
   ·exact hA
   ·exact h
  omega
 ·have hone:∀i,(ins 0 (s:Int)).getLsbD i=true↔i=s:=fun i=>by
   rw[bE 0 hs];exact⟨fun h=>h.resolve_left (aU i),.inr⟩
  have h1:=jV (S:=A) (T:=ins 0 (s:Int)) (U:=A ||| ins 0 (s:Int)) (bL _ _) (by
   rintro i ⟨h1,h2⟩
   rw[(hone i).1 h2] at h1
   exact hA h1)
  rw[gP hone] at h1
  rw[← h1]
  exact mE fun i hi=>(bL _ _ i).2 ((h i hi).elim (fun h=>.inr ((hone i).2 h)) .inl)
theorem a1r (F:Fo fs T)(hin:∀i,part.getLsbD i=true→i<T.n)(hC:T.conn (bits part))(h2:card (bM fs part)≤2){s:Nat}(S:Spl fs T part s){C:BS}(h:Sub fs T part s C):card (bM fs C)≤2:=by
 have hle:=F.le
 have hs1:s<1024:=by have:=hin s S.mem;omega
 have hsub:=fun i=>a1q F hin h (i:=i)
 by_cases hc:card (bM fs part)<2
 ·have:=mY hs1 fun i hi=>hsub i hi
  omega
 ·obtain⟨a,b,l,he,hab,ha,hb⟩:=sI hc
  have hl:l=[]:=by
   have:=cJ (bM fs part)
   rw[he] at this
   simp at this
   exact List.eq_nil_of_length_eq_zero (by omega)
  have hall:∀i,(bM fs part).getLsbD i=true→i=a∨i=b:=fun i hi=>by
   have:=aD.2 ⟨aA hi,hi⟩
   rw[he,hl] at this
   simpa using this
  have hnot:¬((bM fs C).getLsbD a=true∧(bM fs C).getLsbD b=true):=by
   rintro⟨h1,h2⟩
   have c1:=sK F hin hC h ha h1
   have c2:=sK F hin hC h hb h2
   have:=h.conn _ _ (hin _ (h.sub _ c1).1) (hin _ (h.sub _ c2).1) c1 c2
   refine (S.two he).1 (this.mono fun i hi hh=>⟨hi,(h.sub i hh).2⟩)
  have hone:∀x,(bM fs part).getLsbD x=true→∀i,(ins 0 (x:Int)).getLsbD i=true↔i=x:=fun x hx i=>by
   rw[bE 0 (aA hx)];exact⟨fun h=>h.resolve_left (aU i),.inr⟩
  by_cases hCa:(bM fs C).getLsbD a=true
  ·have:=mY (S:=bM fs C) (A:=ins 0 (a:Int)) hs1 fun i hi=>by
    rcases hsub i hi with h|h
    ·exact .inl h
    ·rcases hall i h with rfl|rfl
     ·exact .inr ((hone i ha i).2 rfl)
     ·exact absurd ⟨hCa,hi⟩ hnot
   rw[gP (hone a ha)] at this
   omega
  ·have:=mY (S:=bM fs C) (A:=ins 0 (b:Int)) hs1 fun i hi=>by
    rcases hsub i hi with h|h
    ·exact .inl h
    ·rcases hall i h with rfl|rfl
     ·exact absurd hi hCa
     ·exact .inr ((hone i hb i).2 rfl)
   rw[gP (hone b hb)] at this
   omega
end
def bl:Nat→Nat→Nat
 | 0,_=>0
 | f+1,n=>if n=0 then 0 else bl f (n / 2)+1
def splitter (fs:List BS)(part:BS):Nat:=gS fs part (bM fs part)
def subs (fs:List BS)(part:BS):List BS:=partsB fs (del part (splitter fs part:Int))
section
variable {fs:List BS}{T:Tr}
structure Pt (fs:List BS)(T:Tr)(part:BS):Prop where
 inn:∀i,part.getLsbD i=true→i<T.n
 conn:T.conn (bits part)
 ne:∃k,part.getLsbD k=true
 two:card (bM fs part)≤2
theorem Pt.spl {part:BS}(F:Fo fs T)(h:Pt fs T part):Spl fs T part (splitter fs part):=by
 obtain⟨k,hk⟩:=h.ne
 exact a1o F h.inn h.conn hk
theorem Pt.sub {part:BS}(F:Fo fs T)(h:Pt fs T part){C:BS}(hC:C∈subs fs part):Sub fs T part (splitter fs part) C:=a1p F h.inn (h.inn _ (h.spl F).mem) hC
theorem Pt.step {part:BS}(F:Fo fs T)(h:Pt fs T part){C:BS}(hC:C∈subs fs part):Pt fs T C∧card C<card part:=by
 have S:=h.sub F hC
 exact⟨⟨fun i hi=>h.inn i (S.sub i hi).1,S.conn,S.ne,a1r F h.inn h.conn h.two (h.spl F) S⟩,ei (fun i hi=>(S.sub i hi).1) (h.spl F).mem fun hh=>(S.sub _ hh).2 rfl⟩
structure BNd (fs:List BS)(T:Tr)(L:List (Int×BS))(i:Nat)(up:Int)(P:BS):Prop where
 at':L[i]?=some (up,P)
 pt:Pt fs T P
 kid:∀C∈subs fs P,∃k,i<k∧L[k]?=some ((i:Int),C)
theorem BNd.app {i:Nat}{L M:List (Int×BS)}{up:Int}{P:BS}(h:BNd fs T L i up P):BNd fs T (L++M) i up P:=by
 have k1:∀{k:Nat} {x:Int×BS},L[k]?=some x→(L++M)[k]?=some x:=fun {k x} h=>by
  rw[List.getElem?_append_left (List.getElem?_eq_some_iff.1 h).1];exact h
 exact⟨k1 h.at',h.pt,fun C hC=>by obtain⟨k,h1,h2⟩:=h.kid C hC;exact⟨k,h1,k1 h2⟩⟩
def Ab (fs:List BS)(L:List (Int×BS))(i:Nat)(up:Int)(P:BS):Prop:=∃p u Q,up=((p:Nat):Int)∧p<i∧L[p]?=some (u,Q)∧P∈subs fs Q
theorem Ab.app {i:Nat}{L M:List (Int×BS)}{up:Int}{P:BS}(h:Ab fs L i up P):Ab fs (L++M) i up P:=by
 obtain⟨p,u,Q,h1,h2,h3,h4⟩:=h
 exact⟨p,u,Q,h1,h2,by rw[List.getElem?_append_left (List.getElem?_eq_some_iff.1 h3).1];exact h3,h4⟩
end
section
variable {fs:List BS}{T:Tr}
end
end Go.Mono
namespace Go.Mono
open Go Go.Proofs Go.RowKit

def fx (n:Nat):BS:=BitVec.ofNat 1024 (2 ^ n - 1)
theorem a1s (n i:Nat)(hi:i<1024):(fx n).getLsbD i=decide (i<n):=by
 rw[fx,BitVec.getLsbD_ofNat,Nat.testBit_two_pow_sub_one]
 simp[hi]

theorem a1t (t:List (Int×BS)):(iJ t).length=t.length:=by simp[iJ]

theorem a1u (n i:Nat)(hn:n≤1024):(fx n).getLsbD i=true↔i<n:=by
 by_cases hi:i<1024
 ·rw[a1s _ _ hi,decide_eq_true_eq]
 ·constructor
  ·intro h;exact absurd (aA h) hi
  ·intro h;omega
theorem Pt.all {t:List (Int×BS)}{T:Tr}(F:Fo (iJ t) T)(h0:0<t.length):Pt (iJ t) T (fx t.length)∧card (fx t.length)≤t.length:=by
 have hn:T.n=t.length:=by rw[← F.len,a1t]
 have hle:=F.le
 have hb:∀i,(fx t.length).getLsbD i=true↔i<T.n:=fun i=>by rw[a1u _ _ (by omega),hn]
 have hbits:bits (fx t.length)=fun i=>i<T.n:=by funext i;exact propext (hb i)
 refine⟨⟨fun i hi=>(hb i).1 hi,by rw[hbits];exact Tr.conn_all,⟨0,(hb 0).2 (by omega)⟩,?_⟩,jW fun i hi=>by rw[← hn];exact (hb i).1 hi⟩
 have:bM (iJ t) (fx t.length)=0:=cG fun k=>by
  rw[iT F (fun i hi=>(hb i).1 hi)]
  constructor
  ·rintro⟨h1,h2,_⟩;exact absurd ((hb k).2 h1) h2
  ·intro h;exact absurd h (aU k)
 rw[this,iP];omega

end Go.Mono
namespace Go.Mono

inductive Und (o:List (Int×BS)):Nat→Nat→Prop
 | refl (k:Nat):Und o k k
 | step {k p i:Nat} (h:(bg o k).1=(p:Int)) (hu:Und o p i):Und o k i
theorem Und.trans {o:List (Int×BS)}{k j i:Nat}(h:Und o k j)(h':Und o j i):Und o k i:=by
 induction h with
 | refl=>exact h'
 | step h _ ih=>exact .step h (ih h')
section
variable {t:List (Int×BS)}{T:Tr}
end

theorem cS (S:BS):(ai S).Pairwise (· < ·):=List.Pairwise.filter _ (List.pairwise_lt_range (n:=1024))
section
variable {t:List (Int×BS)}{S:BS}
end
end Go.Mono
namespace Go.Mono
open Go Go.Proofs Go.RowKit Go.Gr

theorem mZ:∀(l m:List Int),l.Pairwise (· < ·)→m.Pairwise (· < ·)→(∀x,x∈l↔x∈m)→l=m
 | [],[],_,_,_=>rfl
 | [],b::m,_,_,h=>absurd ((h b).2 (List.mem_cons_self ..)) (by simp)
 | a::l,[],_,_,h=>absurd ((h a).1 (List.mem_cons_self ..)) (by simp)
 | a::l,b::m,hl,hm,h=>by
  obtain⟨l1,l2⟩:=List.pairwise_cons.1 hl
  obtain⟨m1,m2⟩:=List.pairwise_cons.1 hm
  have hab:a=b:=by
   rcases List.mem_cons.1 ((h a).1 (List.mem_cons_self ..)) with h1|h1
   ·exact h1
   rcases List.mem_cons.1 ((h b).2 (List.mem_cons_self ..)) with h2|h2
   ·exact h2.symm
   have:=m1 _ h1;have:=l1 _ h2;omega
  subst hab
  rw[mZ l m l2 m2 fun x=>?_]
  constructor
  ·intro hx
   rcases List.mem_cons.1 ((h x).1 (List.mem_cons_of_mem _ hx)) with h1|h1
   ·have:=l1 _ hx;omega
   ·exact h1
  ·intro hx
   rcases List.mem_cons.1 ((h x).2 (List.mem_cons_of_mem _ hx)) with h1|h1
   ·have:=m1 _ hx;omega
   ·exact h1
section
variable {g:GT}{th:List Int}
theorem nc (G:Gr.Ok g){x:Int}:x∈dB g↔∃u:Nat,x=(u:Int)∧(vset g.1).getLsbD u=true:=by
 constructor
 ·intro h
  obtain⟨y,hy,rfl⟩:=List.mem_map.1 h
  have h3:=gO (G.rv y hy).1
  exact⟨y.1.toNat,by omega,(mL G).2 ⟨y,hy,by omega⟩⟩
 ·rintro⟨u,rfl,hu⟩
  obtain⟨y,hy,h⟩:=(mL G).1 hu
  exact List.mem_map.2 ⟨y,hy,h⟩
theorem sL (G:Gr.Ok g){a:Nat}{x:Int}:x∈el g (a:Int)↔∃u:Nat,x=(u:Int)∧(nbA g (a:Int)).getLsbD u=true:=by
 rw[el,List.mem_filter,nc G,decide_eq_true_eq]
 constructor
 ·rintro⟨⟨u,rfl,hu⟩,h⟩
  exact⟨u,rfl,(cQ G).2 ((mU G u a).1 h).symm⟩
 ·rintro⟨u,rfl,hu⟩
  have h:=(cQ G).1 hu
  exact⟨⟨u,rfl,(h.inn G).2.1⟩,(mU G u a).2 h.symm⟩
theorem a1v (G:Gr.Ok g):(dB g).Pairwise (· < ·):=List.pairwise_map.2 (G.sv.imp fun h=>by simpa[lt1] using h)
theorem a1w (S:BS):(ah (ai S)).Pairwise (· < ·):=List.pairwise_map.2 ((cS S).imp fun h=>by omega)
end
def twG (g:GT):Int:=rsR (nbA g) (vset g.1) 0
section
variable {nb nb':Int→BS}{C S S':BS}
theorem a1x (h:∀i j:Nat,(nb' (i:Int)).getLsbD j=true→(nb (i:Int)).getLsbD j=true∧C.getLsbD j=true)(hS:∀u,S'.getLsbD u=true↔S.getLsbD u=true∧C.getLsbD u=true){v:Nat}(hv:v<1024) :
  rn nb' S' v≤rn nb S v:=by
 have hm:card (reB nb' S' (v:Int))≤card (reB nb S (v:Int)):=mE fun u hu=>by
  obtain⟨k1,k2,k3⟩:=(jY hv).1 hu
  have hC:C.getLsbD u=true:=by
   cases k1 with
   | one h1=>exact (h _ _ h1).2
   | step _ _ h1=>exact (h _ _ h1).2
  have k1':Via nb S v u:=by
   clear hu k2 k3 hC
   induction k1 with
   | one h1=>exact .one (h _ _ h1).1
   | step _ ht h1 ih=>exact .step ih ((hS _).1 ht).1 (h _ _ h1).1
  exact (jY hv).2 ⟨k1',fun hh=>k2 ((hS u).2 ⟨hh,hC⟩),k3⟩
 rw[rn,rn];omega
theorem a1y {v:Nat}(hv:v<1024)(hS:∀u,S'.getLsbD u=true↔S.getLsbD u=true∧C.getLsbD u=true)(hC:C.getLsbD v=true):∀u,(ins S' (v:Int)).getLsbD u=true↔(ins S (v:Int)).getLsbD u=true∧C.getLsbD u=true:=fun u=>by
 rw[bE _ hv,bE _ hv,hS]
 constructor
 ·rintro (⟨h1,h2⟩|rfl)
  ·exact⟨.inl h1,h2⟩
  ·exact⟨.inr rfl,hC⟩
 ·rintro⟨h1|h1,h2⟩
  ·exact .inl ⟨h1,h2⟩
  ·exact .inr h1
theorem a1z {v:Nat}(hv:v<1024)(hS:∀u,S'.getLsbD u=true↔S.getLsbD u=true∧C.getLsbD u=true)(hC:¬C.getLsbD v=true):∀u,S'.getLsbD u=true↔(ins S (v:Int)).getLsbD u=true∧C.getLsbD u=true:=fun u=>by
 rw[hS,bE _ hv]
 constructor
 ·rintro⟨h1,h2⟩;exact⟨.inl h1,h2⟩
 ·rintro⟨h1|rfl,h2⟩
  ·exact⟨h1,h2⟩
  ·exact absurd h2 hC
theorem nf (h:∀i j:Nat,(nb' (i:Int)).getLsbD j=true→(nb (i:Int)).getLsbD j=true∧C.getLsbD j=true):∀(l:List Nat) (S S':BS),(∀v∈l,v<1024)→(∀u,S'.getLsbD u=true↔S.getLsbD u=true∧C.getLsbD u=true) →
  dA nb' S' (l.filter fun v=>C.getLsbD v)≤dA nb S l
 | [],S,S',_,_=>Int.le_refl _
 | v::l,S,S',hl,hS=>by
  have hv:=hl v (List.mem_cons_self ..)
  have hl':=fun x hx=>hl x (List.mem_cons_of_mem v hx)
  by_cases hC:C.getLsbD v=true
  ·have h1:=nf h l (ins S (v:Int)) (ins S' (v:Int)) hl' (a1y hv hS hC)
   have h2:=a1x h hS hv
   rw[List.filter_cons,if_pos hC,dA,dA];omega
  ·have h1:=nf h l (ins S (v:Int)) S' hl' (a1z hv hS hC)
   rw[List.filter_cons,if_neg hC,dA];omega
end
section
variable {g h:GT}
theorem a1A (G:Gr.Ok g)(H:Gr.Ok h)(hl:g.1.length≤12)(hl':h.1.length≤12)(hV:∀i,(vset h.1).getLsbD i=true→(vset g.1).getLsbD i=true)(hE:∀i j:Nat,Adj h i j→Adj g i j):twG h≤twG g:=by
 obtain⟨o1,o2,o3⟩:=a1d G hl
 have h1:=nf (nb:=nbA g) (nb':=nbA h) (C:=vset h.1) (fun i j hij=>⟨(cQ G).2 (hE i j ((cQ H).1 hij)),(((cQ H).1 hij).inn H).2.1⟩) (dS g) 0 0 (fun v hv=>aA ((o2 v).1 hv)) fun u=>⟨fun h=>absurd h (aU u),fun h=>absurd h.1 (aU u)⟩
 have h2:=mI (nb:=nbA h) (all:=vset h.1) ((dS g).filter fun v=>(vset h.1).getLsbD v) 0 (o1.filter _) fun i=>by
  rw[ki,List.mem_filter,o2]
  exact⟨fun h=>h.2,fun h=>⟨hV i h,h⟩⟩
 rw[twG,twG,← o3];omega
structure sM (g:GT)(C:BS)(h:GT):Prop where
 ok:Gr.Ok h
 vs:∀i,(vset h.1).getLsbD i=true↔(vset g.1).getLsbD i=true∧C.getLsbD i=true
 es:∀i j:Nat,Adj h i j↔Adj g i j∧C.getLsbD i=true∧C.getLsbD j=true
 len:h.1.length≤g.1.length
theorem sM.le {C:BS}(P:sM g C h)(G:Gr.Ok g)(hl:g.1.length≤12):twG h≤twG g:=
 a1A G P.ok hl (Nat.le_trans P.len hl) (fun i hi=>((P.vs i).1 hi).1) fun i j hij=>((P.es i j).1 hij).1
end

section
variable {g h:GT}
theorem sN (G:Gr.Ok g):ah (ai (vset g.1))=dB g:=mZ _ _ (a1w _) (a1v G) fun x=>by
 rw[nc G,ah,List.mem_map]
 exact⟨fun⟨u,h1,h2⟩=>⟨u,h2.symm,(aD.1 h1).2⟩,fun⟨u,h1,h2⟩=>⟨u,aD.2 ⟨aA h2,h2⟩,h1.symm⟩⟩
theorem ng (G:Gr.Ok g):card (vset g.1)=g.1.length:=by
 have h:=congrArg List.length (sN G)
 rw[ah,List.length_map,cJ,dB,List.length_map] at h
 exact h
theorem eQ (G:Gr.Ok g):∀i j:Nat,(nbA g (i:Int)).getLsbD j=true→(vset g.1).getLsbD j=true:=fun i j h=>(((cQ G).1 h).inn G).2.1
end

def nxN (nb:Int→BS)(at':BS):BS:=(ai at').foldl (fun (s:BS) (i:Nat)=>s ||| nb (i:Int)) 0
theorem sP (nb:Int→BS){j:Nat}:∀(l:List Nat) (s:BS),(l.foldl (fun (s:BS) (i:Nat)=>s ||| nb (i:Int)) s).getLsbD j=true↔s.getLsbD j=true∨∃i∈l,(nb (i:Int)).getLsbD j=true
 | [],s=>by simp
 | i::l,s=>by
  rw[List.foldl_cons,sP nb l,bL]
  constructor
  ·rintro ((h|h)|⟨k,hk,h⟩)
   ·exact .inl h
   ·exact .inr ⟨i,List.mem_cons_self ..,h⟩
   ·exact .inr ⟨k,List.mem_cons_of_mem _ hk,h⟩
  ·rintro (h|⟨k,hk,h⟩)
   ·exact .inl (.inl h)
   ·rcases List.mem_cons.1 hk with rfl|hk
    ·exact .inl (.inr h)
    ·exact .inr ⟨k,hk,h⟩
theorem nh {nb:Int→BS}{at':BS}{j:Nat}:(nxN nb at').getLsbD j=true↔∃i,at'.getLsbD i=true∧(nb (i:Int)).getLsbD j=true:=by
 rw[nxN,sP]
 constructor
 ·rintro (h|⟨i,hi,h⟩)
  ·exact absurd h (aU j)
  ·exact⟨i,(aD.1 hi).2,h⟩
 ·rintro⟨i,hi,h⟩;exact .inr ⟨i,aD.2 ⟨aA hi,hi⟩,h⟩
def lvF (nb:Int→BS):Nat→BS→BS→List BS
 | 0,_,_=>[]
 | f+1,at',seen=>if at'=0 then [] else at'::lvF nb f (nxN nb at' &&& ~~~seen) (seen ||| (nxN nb at' &&& ~~~seen))
def unL (l:List BS):BS:=l.foldl (fun s r=>s ||| r) 0
theorem sQ {j:Nat}:∀(l:List BS) (s:BS),(l.foldl (fun s r=>s ||| r) s).getLsbD j=true↔s.getLsbD j=true∨∃r∈l,r.getLsbD j=true
 | [],s=>by simp
 | r::l,s=>by
  rw[List.foldl_cons,sQ l,bL,or_assoc]
  constructor
  ·rintro (h|h|⟨k,hk,h⟩)
   ·exact .inl h
   ·exact .inr ⟨r,List.mem_cons_self ..,h⟩
   ·exact .inr ⟨k,List.mem_cons_of_mem _ hk,h⟩
  ·rintro (h|⟨k,hk,h⟩)
   ·exact .inl h
   ·rcases List.mem_cons.1 hk with rfl|hk
    ·exact .inr (.inl h)
    ·exact .inr (.inr ⟨k,hk,h⟩)
theorem gU {l:List BS}{j:Nat}:(unL l).getLsbD j=true↔∃r∈l,r.getLsbD j=true:=by
 rw[unL,sQ]
 exact⟨fun h=>h.resolve_left (aU j),.inr⟩
theorem em (S:BS):card S≤1024:=by
 rw[← cJ,ai]
 have:=List.length_filter_le (fun i=>S.getLsbD i) (List.range 1024)
 rwa [List.length_range] at this
theorem a1B {nb:Int→BS}:∀(f:Nat) (at' seen:BS),1024<f+card seen∨at'=0→(∀i,at'.getLsbD i=true→seen.getLsbD i=true)→(∀i j:Nat,seen.getLsbD i=true→¬at'.getLsbD i=true→(nb (i:Int)).getLsbD j=true→seen.getLsbD j=true) →
  (∀i j:Nat,(seen.getLsbD i=true∨(unL (lvF nb f at' seen)).getLsbD i=true)→(nb (i:Int)).getLsbD j=true→seen.getLsbD j=true∨(unL (lvF nb f at' seen)).getLsbD j=true) ∧
  ∀K:BS,(∀i,seen.getLsbD i=true→K.getLsbD i=true)→(∀i j:Nat,K.getLsbD i=true→(nb (i:Int)).getLsbD j=true→K.getLsbD j=true)→∀i,(unL (lvF nb f at' seen)).getLsbD i=true→K.getLsbD i=true:=by
 intro f
 induction f with
 | zero=>
  intro at' seen hf hin hcl
  have h0:at'=0:=by
   rcases hf with h|h
   ·have:=em seen;omega
   ·exact h
  have hno:∀i,¬(unL (lvF nb 0 at' seen)).getLsbD i=true:=fun i h=>by
   obtain⟨r,hr,_⟩:=gU.1 h
   cases hr
  refine⟨fun i j hi hij=>?_,fun K _ _ i h=>absurd h (hno i)⟩
  rcases hi with hi|hi
  ·exact .inl (hcl i j hi (by rw[h0];exact aU i) hij)
  ·exact absurd hi (hno i)
 | succ f ih=>
  intro at' seen hf hin hcl
  by_cases h0:at'=0
  ·have hl:lvF nb (f+1) at' seen=[]:=by rw[lvF,if_pos h0]
   rw[hl]
   have hno:∀i,¬(unL []).getLsbD i=true:=fun i h=>by
    obtain⟨r,hr,_⟩:=gU.1 h
    cases hr
   refine⟨fun i j hi hij=>?_,fun K _ _ i h=>absurd h (hno i)⟩
   rcases hi with hi|hi
   ·exact .inl (hcl i j hi (by rw[h0];exact aU i) hij)
   ·exact absurd hi (hno i)
  ·have hl:lvF nb (f+1) at' seen=at'::lvF nb f (nxN nb at' &&& ~~~seen) (seen ||| (nxN nb at' &&& ~~~seen)):=by rw[lvF,if_neg h0]
   rw[hl]
   obtain⟨a2,ha2⟩:=eqX (nxN nb at' &&& ~~~seen)
   have hb:∀j,a2.getLsbD j=true↔(∃i,at'.getLsbD i=true∧(nb (i:Int)).getLsbD j=true)∧¬seen.getLsbD j=true:=fun j=>by rw[ha2,br,nh]
   rw[← ha2]
   have hU:∀i,(unL (at'::lvF nb f a2 (seen ||| a2))).getLsbD i=true↔at'.getLsbD i=true∨(unL (lvF nb f a2 (seen ||| a2))).getLsbD i=true:=fun i=>by
    rw[gU,gU]
    constructor
    ·rintro⟨r,hr,h⟩
     rcases List.mem_cons.1 hr with rfl|hr
     ·exact .inl h
     ·exact .inr ⟨r,hr,h⟩
    ·rintro (h|⟨r,hr,h⟩)
     ·exact⟨at',List.mem_cons_self ..,h⟩
     ·exact⟨r,List.mem_cons_of_mem _ hr,h⟩
   have hfu:1024<f+card (seen ||| a2)∨a2=0:=by
    by_cases h2:a2=0
    ·exact .inr h2
    ·left
     obtain⟨z,hz⟩:∃z,a2.getLsbD z=true:=Classical.byContradiction fun hn=>h2 (cG fun k=>⟨fun h=>absurd ⟨k,h⟩ hn,fun h=>absurd h (aU k)⟩)
     have:=ei (S:=seen) (T:=seen ||| a2) (z:=z) (fun i hi=>(bL _ _ _).2 (.inl hi)) ((bL _ _ _).2 (.inr hz)) ((hb z).1 hz).2
     rcases hf with h|h
     ·omega
     ·exact absurd h h0
   obtain⟨k1,k2⟩:=ih a2 (seen ||| a2) hfu (fun i hi=>(bL _ _ _).2 (.inr hi)) fun i j hi hni hij=>by
    rcases (bL _ _ _).1 hi with hi|hi
    ·by_cases hat:at'.getLsbD i=true
     ·by_cases hs:seen.getLsbD j=true
      ·exact (bL _ _ _).2 (.inl hs)
      ·exact (bL _ _ _).2 (.inr ((hb j).2 ⟨⟨i,hat,hij⟩,hs⟩))
     ·exact (bL _ _ _).2 (.inl (hcl i j hi hat hij))
    ·exact absurd hi hni
   have hsub:∀i,a2.getLsbD i=true→(unL (lvF nb f a2 (seen ||| a2))).getLsbD i=true:=fun i hi=>by
    have hne:a2≠0:=fun h=>by rw[h] at hi;exact aU _ hi
    cases f with
    | zero=>
     rcases hfu with h|h
     ·have:=em (seen ||| a2);omega
     ·exact absurd h hne
    | succ f=>rw[lvF,if_neg hne,gU];exact⟨a2,List.mem_cons_self ..,hi⟩
   constructor
   ·intro i j hi hij
    rw[hU] at hi ⊢
    have h3:(seen ||| a2).getLsbD i=true∨(unL (lvF nb f a2 (seen ||| a2))).getLsbD i=true:=by
     rcases hi with h|h|h
     ·exact .inl ((bL _ _ _).2 (.inl h))
     ·exact .inl ((bL _ _ _).2 (.inl (hin i h)))
     ·exact .inr h
    rcases k1 i j h3 hij with h|h
    ·rcases (bL _ _ _).1 h with h|h
     ·exact .inl h
     ·exact .inr (.inr (hsub j h))
    ·exact .inr (.inr h)
   ·intro K hK hKc i hi
    rcases (hU i).1 hi with h|h
    ·exact hK i (hin i h)
    ·refine k2 K (fun u hu=>?_) hKc i h
     rcases (bL _ _ _).1 hu with hu|hu
     ·exact hK u hu
     ·obtain⟨⟨x,hx,hxu⟩,_⟩:=(hb u).1 hu
      exact hKc x u (hK x (hin x hx)) hxu
def lvB (nb:Int→BS)(a:Nat):List BS:=lvF nb 1025 (ins 0 (a:Int)) (ins 0 (a:Int))
theorem kn {nb:Int→BS}{a:Nat}(ha:a<1024):(unL (lvB nb a)).getLsbD a=true∧(∀i j:Nat,(unL (lvB nb a)).getLsbD i=true→(nb (i:Int)).getLsbD j=true→(unL (lvB nb a)).getLsbD j=true) ∧
  ∀K:BS,K.getLsbD a=true→(∀i j:Nat,K.getLsbD i=true→(nb (i:Int)).getLsbD j=true→K.getLsbD j=true)→∀i,(unL (lvB nb a)).getLsbD i=true→K.getLsbD i=true:=by
 have h1:∀i,(ins 0 (a:Int)).getLsbD i=true↔i=a:=fun i=>by
  rw[bE _ ha]
  exact⟨fun h=>h.resolve_left (aU i),.inr⟩
 have hne:ins 0 (a:Int)≠0:=fun h=>by
  have:=(h1 a).2 rfl
  rw[h] at this;exact aU _ this
 obtain⟨k1,k2⟩:=a1B (nb:=nb) 1025 (ins 0 (a:Int)) (ins 0 (a:Int)) (.inl (by omega)) (fun i h=>h) fun i j h h'=>absurd h h'
 have h2:(unL (lvB nb a)).getLsbD a=true:=by
  rw[lvB,lvF,if_neg hne,gU];exact⟨_,List.mem_cons_self ..,(h1 a).2 rfl⟩
 refine⟨h2,fun i j hi hij=>?_,fun K hK hKc=>k2 K (fun i hi=>by rw[(h1 i).1 hi];exact hK) hKc⟩
 rcases k1 i j (.inr hi) hij with h|h
 ·rw[(h1 j).1 h];exact h2
 ·exact h
def oBL (o:Option Nat)(k:Nat→List BS):List BS:=match o with
 | none=>[]
 | some a=>k a
def prF (nb:Int→BS):Nat→BS→List BS
 | 0,_=>[]
 | f+1,left=>oBL (aN left) fun a=>unL (lvB nb a)::prF nb f (left &&& ~~~unL (lvB nb a))
theorem ni {nb:Int→BS}{left:BS}(h:aN left=none)(f:Nat):prF nb (f+1) left=[]:=by
 show oBL (aN left) _=[]
 rw[h];rfl
theorem nj {nb:Int→BS}{left:BS}{a:Nat}(h:aN left=some a)(f:Nat):prF nb (f+1) left=unL (lvB nb a)::prF nb f (left &&& ~~~unL (lvB nb a)):=by
 show oBL (aN left) _=_
 rw[h];rfl

theorem a1C (nb:Int→BS)(f:Nat)(seen:BS):lvF nb f 0 seen=[]:=by
 cases f with
 | zero=>rfl
 | succ f=>rw[lvF,if_pos rfl]
theorem a1D {nb:Int→BS}{at' seen:BS}{r:Nat}(h0:at'≠0)(hf:1024<r+card seen∨at'=0) :
  ∃f,r=f+1∧lvF nb r at' seen=at'::lvF nb f (nxN nb at' &&& ~~~seen) (seen ||| (nxN nb at' &&& ~~~seen))∧(1024<f+card (seen ||| (nxN nb at' &&& ~~~seen))∨nxN nb at' &&& ~~~seen=0):=by
 have h1:=hf.resolve_right h0
 have h2:=em seen
 obtain⟨f,rfl⟩:∃f,r=f+1:=⟨r - 1,by omega⟩
 refine⟨f,rfl,by rw[lvF,if_neg h0],?_⟩
 generalize ha2:nxN nb at' &&& ~~~seen=a2
 by_cases h3:a2=0
 ·exact .inr h3
 ·left
  obtain⟨z,hz⟩:∃z,a2.getLsbD z=true:=Classical.byContradiction fun hn=>h3 (cG fun k=>⟨fun h=>absurd ⟨k,h⟩ hn,fun h=>absurd h (aU k)⟩)
  have:=ei (S:=seen) (T:=seen ||| a2) (z:=z) (fun i hi=>(bL _ _ _).2 (.inl hi)) ((bL _ _ _).2 (.inr hz)) (by
   rw[← ha2] at hz;exact ((br _ _ _).1 hz).2)
  omega
def nxP (nb:Int→BS)(s:List Nat):BS:=s.foldl (fun (s:BS) (i:Nat)=>s ||| nb (i:Int)) 0
theorem sR (nb:Int→BS)(s:List Nat)(y:Nat):nxP nb (s++[y])=nxP nb s ||| nb (y:Int):=by rw[nxP,List.foldl_append];rfl
theorem Ds.gro {D:List Nat}{w w':World}{row:Option Nat}(h:Ds D w)(hg:w.grownBy w' row)(hb:∀d∈D,row≠some d):Ds D w':=⟨h.1,fun d hd=>(hg.block d (h.lt hd) (fun he=>hb d hd he.symm)).trans (h.2 d hd)⟩
structure LvK (W:World)(N0 N:Nat)(S0:BS)(mq:Value)(l:List (Int×BS))(b2 b5 b6:Nat)(u:Value)(out:List BS)(at' seen:BS)(D:List Nat)(w:World):Prop where
 e:Ext W w
 t:Tab w
 hv:(Dv (mpE sKV N0) (GB W G0) l).p mq w
 b2:Blk w b2 (adC S0 mq) 79
 b5:Blk w b5 (aJ at') 76
 b6:Blk w b6 (aJ seen) 76
 o:OwR aP 76 N G0 w out u
 ds:Ds D w
theorem LvK.kp {W:World}{N0 N:Nat}{S0:BS}{mq:Value}{l:List (Int×BS)}{b2 b5 b6:Nat}{u:Value}{out:List BS}{at' seen:BS}{D:List Nat}{B:Nat}{w w':World}(h:LvK W N0 N S0 mq l b2 b5 b6 u out at' seen D w)(k:Kp B w w')(hW:W.heap.size≤B)(h0:0<B)(l2:b2<B)(l5:b5<B)(l6:b6<B)(lu:∀g,u.ownBlock=some g→g<B)(hD:∀d∈D,d<B) :
  LvK W N0 N S0 mq l b2 b5 b6 u out at' seen D w':=
 have no:∀{b},b<B→¬aW B b:=fun h hh=>by have:=hh.1;omega
 ⟨h.e.kp k hW,h.t.kp k h0,Dv.ch h.hv k.chg (fun b hb=>.inr (by have:=hb.1;omega)),h.b2.kp k (no l2),h.b5.kp k (no l5),h.b6.kp k (no l6),h.o.chE k.chg fun g hg=>no (lu g hg),h.ds.ch k.chg fun d hd=>no (hD d hd)⟩
theorem gj {G:Nat→Prop}{N0:Nat}(l:List (Int×BS))(S0:BS)(mq:Value)(x:Nat)(W:World)(hT:Tab W)(h:(Dv (mpE sKV N0) G l).p mq W)(hx:x<1024) :
  Calls Tryz.prog 52 #[.agg (adC S0 mq),I (x:Nat)] W (Post (OwA aP 76 W.heap.size G0 (lvB (lkS l) x)) W):=by
 have HV:(Dv (mpE sKV N0) (GB W G0) l).p mq W:=Dv.toB (Dv.weak h fun b _ hb=>hb.elim)
 have hT0:=hT.lt
 refine dx (args:=[.agg (adC S0 mq),I (x:Nat)]) (As:=[E (.agg (adC S0 mq)),E (I (x:Nat))]) Tryz.func52 rfl Tryz.ntmps52 (Nat.le_of_ble_eq_true rfl) ?_ (fun a hf=>?_) (Nat.le_of_ble_eq_true rfl)
 ·exact arg2 rfl rfl
 dsimp only[params,Nat.reduceAdd] at hf
 have e:=Ext.rfl' W
 refine seq <| ac <| tB hf rfl fun a b2 w v2 hv2 e' hb2 hs2 B2 hf=>?_
 obtain⟨hT,HV,e⟩:=up3 e' hT HV e
 refine tA hf rfl fun a hf=>aa ?_
 cases hv2
 replace B2:Blk w b2 (adC S0 mq) 79:=B2
 replace hf:=hf.kp [1,2]
 refine seq <| rgN 6 hf <| st (mv rfl) <| st (aX (e:=intE) (G:=G0) U35 I3 rfl (by decide) rfl (fun b hb=>hb.elim) (isI rfl)) <| st ((aw jC rfl (fun v w he h=>jT [(x:Int)] v w h (by simp))).eq (congrArg ae (mC (x:Int) 0))) <| st (mv rfl) <| st (aX (e:=intE) (G:=G0) U35 I3 rfl (by decide) rfl (fun b hb=>hb.elim) (isI rfl)) <| st ((aw jC rfl (fun v w he h=>jT [(x:Int)] v w h (by simp))).eq (congrArg ae (mC (x:Int) 0))) <| en fun a w e' hf=>?_
 obtain⟨hT,HV,e,B2⟩:=up4 e' hT HV e B2
 refine tL I76 hf fun a b5 w e' hb5 hs5 B5 hf=>?_
 have lt5_B2:=B2.lt
 obtain⟨hT,HV,e,B2⟩:=up4 e' hT HV e B2
 refine tL I76 hf fun a b6 w e' hb6 hs6 B6 hf=>?_
 obtain⟨hT,HV,e,B2,B5⟩:=up5 e' hT HV e B2 B5
 replace hf:=hf.kp [2,5,6,12,15]
 refine aF T76 hf rfl rfl (bk _) B5 rfl (bc _) fun w hg hsz B5 hf=>?_
 obtain⟨e,hT,HV,B2,B6⟩:=gr5 hg e hT HV B2 B6
 refine aF T76 hf rfl rfl (bk _) B6 rfl (bc _) fun w hg hsz B6 hf=>?_
 obtain⟨e,hT,HV,B2,B5⟩:=gr5 hg e hT HV B2 B5
 refine aa ?_
 replace hf:=hf.keep [2,5,6]
 have n6:b2≠b5∧b2≠b6∧b5≠b6∧W.heap.size≤b2∧W.heap.size≤b5∧W.heap.size≤b6:=by omega
 refine seq <| ac <| tA hf rfl fun a hf=>aa ?_
 obtain⟨N,hN⟩:=eqX w.heap.size
 have Ho:OwR aP 76 N G0 w [] (.slice none 0 0):=OwR.nil aP _ (Nat.le_of_eq hN) (fun b hb=>hb.elim)
 have hlN:b2<N∧b5<N∧b6<N∧W.heap.size≤N:=by have h1:=B2.lt;have h2:=B5.lt;have h3:=B6.lt;omega
 have hfu0:1024<1025+card (ins 0 (x:Int))∨ins 0 (x:Int)=0:=.inl (by omega)
 replace hf:=hf.keep [2,5,6,7]
 refine seq <| blk (aK (fun r0 a w=>∃(at' seen:BS) (out:List BS) (u:Value) (D:List Nat),(1024<r0+card seen∨at'=0)∧out.length+r0≤1025∧out++lvF (lkS l) r0 at' seen=lvB (lkS l) x∧FrD 39 (bS D) a w [(2,E (ptr b2)),(5,E (ptr b5)),(6,E (ptr b6)),(7,E u)] ∧
  LvK W N0 N S0 mq l b2 b5 b6 u out at' seen D w∧∀d∈D,W.heap.size≤d) 1025 ⟨ins 0 (x:Int),ins 0 (x:Int),[],.slice none 0 0,[],hfu0,by simp,by rw[List.nil_append,lvB],hf,⟨e,hT,HV,B2,B5,B6,Ho,Ds.nil _⟩,fun d hd=>by cases hd⟩ ?_)
 rintro r0 a w ⟨at',seen,out,u,D,hfu,hle,hR,hf,⟨e,hT,HV,B2,B5,B6,Ho,hD⟩,hDW⟩
 refine seq <| seq ?_
 refine rgN 3 hf <| st ((ldW T76 rfl B5 rfl).eq ((rfl:_=ae at'))) <| st (aw (A:=E (B (at'==0))) dN rfl (fun v w he h=>by cases h;exact iD _ w)) ?_
 refine st (aZ rfl) <| en fun a w e' hf=>?_
 obtain⟨hT,HV,e,B2,B5,B6,hD,Ho⟩:=up8 e' hT HV e B2 B5 B6 hD Ho
 refine aa <| ifc hf rfl (fun hc=>aj ?_) (fun hc=>aH ?_)
 rotate_left
 ·have h0:at'=0:=by simpa using hc
  subst h0
  rw[a1C,List.append_nil] at hR
  replace hf:=hf.keep [7]
  refine seq <| rgN 1 hf <| st (mv rfl) <| en fun a w e' hf=>?_
  obtain⟨e,hD,Ho⟩:=up3 e' e hD Ho
  refine tA hf rfl fun a hf=>aa <| ak <| jJ rfl hf rfl hD ⟨_,rfl,e.shut hDW,?_⟩
  rw[← hR]
  exact (Ho.chE (ed D w) fun b hb hm=>Ho.neDs hD hm hb).low (by omega) fun b hb=>hb.elim
 have hne:at'≠0:=by
  intro h
  simp[h] at hc
 obtain⟨f,rfl,hst,hfu2⟩:=a1D (nb:=lkS l) hne hfu
 rw[hst] at hR
 refine blk ?_
 replace hf:=hf.kp [2,5,6,7]
 refine seq <| rgN 3 hf <| st (mv rfl) <| st ((ldW T76 rfl B5 rfl).eq ((rfl:_=ae at'))) <| st (aX U83 I76 rfl (by decide) rfl Ho.avs (isS rfl)) <| en fun a w e' hf=>?_
 obtain⟨hT,HV,B2,B5,B6,hD,Ho,e⟩:=up8 e' hT HV B2 B5 B6 hD Ho e
 haveI hin:∀G0,InR (GB W G0) _:=OwR.inGB (W:=W) Ho (by omega)
 refine bG U83 I76 rfl rfl hf (by decide) rfl Ho (isR rfl) (by simp only[List.length_singleton];omega) (by simp only[List.length_singleton,maxLen];omega) fun a v w hg hat Hn hf=>?_
 replace e:=e.gro hg (Ho.row (W:=W) (by omega))
 have hrow:=Ho.row (W:=W) (by omega)
 replace hT:=hT.gro hg (fun b hb=>by have:=hrow b hb;omega)
 replace HV:=Dv.gro HV hg (fun b hb=>.inr (hrow b hb))
 replace B2:=B2.gro hg (Ho.neLt (by omega))
 replace B5:=B5.gro hg (Ho.neLt (by omega))
 replace B6:=B6.gro hg (Ho.neLt (by omega))
 replace hD:=hD.gro hg fun d hd=>Ho.neDs hD hd
 replace Ho:=Hn
 replace Ho:=Hn;clear Hn hg hat hin
 refine tA hf rfl fun a hf=>aa ?_
 replace hf:=hf.keep [2,5,6,7]
 refine seq <| ac <| tL I76 hf fun a b8 w e' hb8 hs8 B8 hf=>?_
 have hle8:=Nat.le_trans e.size (Nat.le_of_eq hb8.symm)
 have ne8_Ho:=Ho.ne_new hb8
 have lt8_B5:=B5.lt
 have lt8_B6:=B6.lt
 obtain⟨hT,HV,e,B2,B5,B6,hD,Ho⟩:=up8 e' hT HV e B2 B5 B6 hD Ho
 refine aa ?_
 simp only[Value.cells,dL] at B8
 have hW8:W.heap.size≤b8:=hle8
 have n8:b2≠b8∧b5≠b8∧b6≠b8:=by have:=B2.lt;have:=B5.lt;have:=B6.lt;omega
 have hu8:=ne8_Ho
 have hD8:¬b8∈D:=hD.ne B8
 replace hf:=hf.keep [2,5,6,7,8]
 obtain⟨Nz,hNz⟩:=eqX w.heap.size
 refine seq <| seq ?_
 refine rgN 2 hf <| st ((ldW T76 rfl B5 rfl).eq ((rfl:_=ae at'))) <| st (aw (A:=dh Nz at') dr rfl (fun v w' he h=>by cases h;exact Calls.mono (du _ w') (fun en w2 ⟨u,h1,h2,b',h3,h4,h5⟩=>⟨u,h1,h2,b',by have:=he.size;omega,h4,h5⟩))) ?_
 refine en fun a w e' hf=>?_
 obtain⟨hT,HV,e,B2,B5,B6,B8,hD,Ho⟩:=up9 e' hT HV e B2 B5 B6 B8 hD Ho
 refine aa ?_
 obtain⟨vv,⟨b24,h24,rfl,BS⟩,hf⟩:=hf.fix 24 rfl
 replace hf:=hf.kp [2,5,6,7,8,24]
 have l2:=B2.lt
 have l5:=B5.lt
 have l6:=B6.lt
 have l8:=B8.lt
 have lu:∀g,v.ownBlock=some g→g<w.heap.size:=fun g hg=>(Ho.lt hg).2
 have lD:∀d∈D,d<w.heap.size:=fun d hd=>hD.lt hd
 have hBW:W.heap.size≤w.heap.size:=e.size
 have h0w:0<w.heap.size:=hT.lt
 refine blk <| dz (S:=at') hf rfl BS (by decide) (fun s w1=>LvK W N0 N S0 mq l b2 b5 b6 v (out++[at']) at' seen D w1∧Blk w1 b8 (aJ (nxP (lkS l) s)) 76) (fun _ _=>False) (fun s w1 h=>h.1.t)
  ⟨⟨e,hT,HV,B2,B5,B6,Ho,hD⟩,B8⟩ (fun s w1 w2 h hs k=>⟨h.1.kp k hBW h0w l2 l5 l6 lu lD,h.2.kp k (fun hh=>by have:=hh.1;omega)⟩) (fun _ _ _ h=>h.elim) ?_ ?_ (fun _ _ _ _ _ _ h=>h.elim)
 ·intro lp s y rest a1 w1 hs hJ hlw hf
  have hy1024:y<1024:=(aD.1 (by rw[hs];simp)).1
  generalize hBz:w.heap.size=Bz at *
  refine ac <| tA hf rfl fun a hf=>aa <| ⟨Kh.rfl' _ _,fun w3 k3 hsz3=>?_⟩
  have hJ3:=hJ.1.kp k3 hBW h0w l2 l5 l6 lu lD
  have hJ8:=hJ.2.kp k3 (fun hh=>by have:=hh.1;omega)
  replace hf:=hf.pure w3
  obtain⟨e,hT,HV,B2,B5,B6,Ho,hD⟩:=hJ3
  have B8:=hJ8
  have kh:=Kh.rfl' Bz w3
  obtain⟨X,hX⟩:=eqX (nxP (lkS l) s)
  rw[← hX] at B8
  replace hf:=hf.kp [2,5,6,7,8,9]
  refine blk <| rgN 6 hf <| st ((ldW T76 rfl B8 rfl).eq ((rfl:_=ae X))) <| st (fA U79 rfl T77 rfl) <| st (ld1 (v:=mq) T77 rfl B2 (bN _ _)) <| st (mv rfl) <| st (lkM (l:=l) (i:=(y:Int)) U77 bZ (isE rfl HV) rfl (bP (by omega) (by omega))) <| st (ap (A:=E (ae (X ||| lkS l (y:Int)))) iy rfl rfl (fun v u w he h h'=>by cases h;cases h';exact iB X _ w)) ?_
  refine en fun a w e' hf=>?_
  obtain⟨hT,HV⟩:=up2 e' hT HV
  replace kh:=kh.tr (Kh.ext e')
  obtain⟨e,B2,B5,B6,B8,hD,Ho⟩:=up7 e' e B2 B5 B6 B8 hD Ho
  refine aF T76 hf rfl rfl (bk _) B8 rfl (bc _) fun w hg hsz B8 hf=>?_
  obtain⟨e,hT,HV,B2,B5,B6⟩:=gr6 hg e hT HV B2 B5 B6
  replace Ho:=Ho.grE hg hu8;replace hD:=hD.gr hg hD8
  replace kh:=kh.tr (Kh.gr hg (fun hh=>by have:=hh.1;omega))
  refine aa ?_
  simp only[Exit.inBlock]
  exact⟨⟨⟨e,hT,HV,B2,B5,B6,Ho,hD⟩,by rw[sR,← hX];exact B8⟩,kh⟩
 ·intro a' w' hf' hJ hsz hDn
  simp only[Exit.inBlock,↓reduceIte,Exit.then]
  have hD2:Ds (w.heap.size::D) w':=hJ.1.ds.cons hDn fun hm=>Nat.lt_irrefl _ (lD _ hm)
  have hf:FrD 39 (bS (w.heap.size::D)) a' w' [(2,E (ptr b2)),(5,E (ptr b5)),(6,E (ptr b6)),(7,E v),(8,E (ptr b8))]:=hf'.keep [2,5,6,7,8]
  have hDW2:∀d∈w.heap.size::D,W.heap.size≤d:=fun d hd=>by
   rcases List.mem_cons.1 hd with rfl|hd
   ·exact hBW
   ·exact hDW d hd
  obtain⟨⟨e,hT,HV,B2,B5,B6,Ho,_⟩,B8⟩:=hJ
  replace hD:=hD2
  generalize w.heap.size::D=D2 at *
  generalize w'=w at *
  replace B8:Blk w b8 (aJ (nxN (lkS l) at')) 76:=B8
  obtain⟨nx,hnx⟩:=eqX (nxN (lkS l) at')
  rw[← hnx] at B8 hR hfu2
  obtain⟨a2,ha2⟩:=eqX (nx &&& ~~~seen)
  rw[← ha2] at hR hfu2
  refine seq <| rgN 3 hf <| st ((ldW T76 rfl B8 rfl).eq ((rfl:_=ae nx))) <| st ((ldW T76 rfl B6 rfl).eq ((rfl:_=ae seen))) <| st (ap (A:=E (ae a2)) lS rfl rfl (fun v u w he h h'=>by cases h;cases h';rw[ha2];exact lZ nx seen w)) ?_
  refine en fun a w e' hf=>?_
  obtain⟨hT,HV,e,B2,B5,B6,B8,hD,Ho⟩:=up9 e' hT HV e B2 B5 B6 B8 hD Ho
  have hD5:=hD.ne B5
  have hD6:=hD.ne B6
  have hu5:v.ownBlock≠some b5:=Ho.neLt (by omega)
  have hu6:v.ownBlock≠some b6:=Ho.neLt (by omega)
  refine aF T76 hf rfl rfl (bk _) B5 (bc _) (bc _) fun w hg hsz B5 hf=>?_
  obtain⟨e,hT,HV,B2,B6⟩:=gr5 hg e hT HV B2 B6
  replace Ho:=Ho.grE hg hu5;replace hD:=hD.gr hg hD5
  refine aa ?_
  replace hf:=hf.kp [2,5,6,7]
  refine rgN 3 hf <| st ((ldW T76 rfl B6 rfl).eq ((rfl:_=ae seen))) <| st ((ldW T76 rfl B5 rfl).eq ((rfl:_=ae a2))) <| st (ap (A:=E (ae (seen ||| a2))) iy rfl rfl (fun v u w he h h'=>by cases h;cases h';exact iB seen a2 w)) ?_
  refine en fun a w e' hf=>?_
  obtain⟨hT,HV,e,B2,B5,B6,hD,Ho⟩:=up8 e' hT HV e B2 B5 B6 hD Ho
  refine aF T76 hf rfl rfl (bk _) B6 (bc _) (bc _) fun w hg hsz B6 hf=>?_
  obtain⟨e,hT,HV,B2,B5⟩:=gr5 hg e hT HV B2 B5
  replace Ho:=Ho.grE hg hu6;replace hD:=hD.gr hg hD6
  refine aa ?_
  replace hf:=hf.kp [2,5,6,7]
  exact⟨f,Nat.lt_succ_self _,a2,seen ||| a2,out++[at'],v,D2,hfu2,by rw[List.length_append,List.length_singleton];omega,by rw[List.append_assoc];exact hR,hf,⟨e,hT,HV,B2,B5,B6,Ho,hD⟩,hDW2⟩
end Go.Mono
namespace Go.Mono
open Go Go.Proofs Go.RowKit
def ko (te:TypeId)(G:Nat→Prop)(w:World)(xs:List Int)(v:Value):Prop:=
 (v=.slice none 0 0∧xs=[])∨∃b cap cur,v=.slice (some ⟨b,0,none⟩) xs.length cap∧xs.length≤cap∧¬G b∧Blk w b cur te∧cur.toList.take xs.length=xs.map (Value.int .i64)
def cu (te:TypeId):Enc (List Int) where
 k:=1
 agg:=false
 r:=fun G w xs cs=>∃v,cs=[v]∧ko te G w xs v
 pos:=by decide
 k1:=fun _=>rfl
 len:=fun⟨v,h,_⟩=>by rw[h];rfl
 one:=fun⟨v,h,hv⟩ u hu=>by
  rw[h] at hu
  simp at hu
  subst hu
  rcases hv with ⟨rfl,_⟩|⟨b,cap,cur,rfl,_⟩ <;> rfl
 pres:=fun⟨v,h,hv⟩ k l=>⟨v,h,by
  rcases hv with hv|⟨b,cap,cur,h1,h2,h3,h4,h5⟩
  ·exact .inl hv
  ·exact .inr ⟨b,cap,cur,h1,h2,h3,(k b h4.lt h3).trans h4,h5⟩⟩
 weak:=fun⟨v,h,hv⟩ k=>⟨v,h,by
  rcases hv with hv|⟨b,cap,cur,h1,h2,h3,h4,h5⟩
  ·exact .inl hv
  ·exact .inr ⟨b,cap,cur,h1,h2,fun hg=>h3 (k _ h4.lt hg),h4,h5⟩⟩
section
variable {te ty B B':Nat}{G G':Nat→Prop}{w w':World}{xs:List Int}{v:Value}{out:List (List Int)}
theorem Dv.own {v:Value}{xs:List Int}:(Dv (cu te) G xs).p v w↔ko te G w xs v:=
 ⟨fun⟨cs,⟨u,h,hu⟩,hv⟩=>by subst h;rw[hv];exact hu,fun h=>⟨[v],⟨v,rfl,h⟩,rfl⟩⟩
theorem sS:∀l:List Int,Cells intE G w l (l.map (Value.int .i64))
 | []=>rfl
 | x::l=>⟨[.int .i64 x],l.map (Value.int .i64),rfl,rfl,sS l⟩
theorem sT:∀(l:List Int) (cs:List Value),Cells intE G w l cs→cs=l.map (Value.int .i64)
 | [],cs,h=>h
 | x::l,cs,⟨c,d,h,h1,h2⟩=>by rw[h,h1,sT l d h2];rfl
theorem ko.sl (h:ko te G w xs v):SlR intE G w xs v:=by
 rcases h with h|⟨b,cap,cur,h1,h2,h3,h4,h5⟩
 ·exact .inl h
 ·refine .inr ⟨_,cap,xs.map (Value.int .i64),h1,h2,h3,h4.lt,sS xs,fun i u hu=>?_⟩
  have hi:i<xs.length:=by have:=(List.getElem?_eq_some_iff.1 hu).1;rwa [List.length_map] at this
  rw[← h5,List.getElem?_take_of_lt hi,Array.getElem?_toList] at hu
  rw[Addr.add_lit,Nat.zero_add,h4.cell i];exact hu
theorem Dv.ownSl (h:(Dv (cu te) G xs).p v w):(Dv (slE intE) G xs).p v w:=Dv.sl.2 (Dv.own.1 h).sl
theorem OwR.own' (h:OwR intE te B G w xs v)(hN:∀b,v.ownBlock=some b→¬G' b):(Dv (cu te) G' xs).p v w:=by
 obtain⟨cs,h1,h2⟩:=h.own
 refine Dv.own.2 ?_
 rcases h1.2 with ⟨hv,hn⟩|⟨g,cap,cur,hv,hB,hg,hn,hm,hs,ht⟩
 ·exact .inl ⟨hv,List.eq_nil_of_length_eq_zero hn⟩
 ·have hk:intE.k=1:=rfl
  rw[hk,Nat.mul_one] at ht
  exact .inr ⟨g,cap,cur,hv,hn,hN g (by rw[hv];rfl),hg,by rw[ht];exact sT xs cs h2⟩
theorem sU:∀{out:List (List Int)} {cs:List Value},Cells (cu te) G w out cs→Cells (slE intE) G w out cs
 | [],cs,h=>h
 | x::out,cs,⟨c,d,h,⟨v,h1,h2⟩,h3⟩=>⟨c,d,h,⟨v,h1,h2.sl⟩,sU h3⟩
theorem Dv.ownSlS (h:(Dv (slE (cu te)) G out).p v w):(Dv (slE (slE intE)) G out).p v w:=by
 rcases Dv.sl.1 h with h|⟨ad,cap,cs,h1,h2,h3,h4,h5,h6⟩
 ·exact Dv.sl.2 (.inl h)
 ·exact Dv.sl.2 (.inr ⟨ad,cap,cs,h1,h2,h3,h4,sU h5,h6⟩)
theorem OwX.low {α:Type}{e:Enc α}{xs:List α}(h:OwX e ty B G w xs v)(hB:B'≤B):OwX e ty B' G w xs v:=by
 obtain⟨cs,⟨h1,h2⟩,h3⟩:=h.own
 refine⟨⟨cs,⟨h1,?_⟩,h3⟩,Nat.le_trans hB h.base⟩
 rcases h2 with h2|⟨g,cap,cur,a1,a2,a3⟩
 ·exact .inl h2
 ·exact .inr ⟨g,cap,cur,a1,Nat.le_trans hB a2,a3⟩
def sV {α:Type}(e:Enc α)(ty:TypeId)(B:Nat)(G:Nat→Prop)(xs:List α):VA:=⟨fun v w=>OwX e ty B G w xs v,fun v w w' k h=>h.ext k⟩
def ShW (ty te N n:Nat)(v:Value)(w:World):Prop:=n=0∧v=.slice none 0 0∨∃b cap cur,v=.slice (some ⟨b,0,none⟩) n cap∧Blk w b cur ty∧N≤b∧n≤cap∧n≤cur.size ∧
 ∀i,i<n→∃c m p cs,cur[i]?=some (.slice (some ⟨c,0,none⟩) m p)∧1≤m∧N≤c∧Blk w c cs te∧0<cs.size
theorem ShW.ext {ty te N n:Nat}(h:ShW ty te N n v w)(e:Ext w w'):ShW ty te N n v w':=by
 rcases h with h|⟨b,cap,cur,h1,h2,h3,h4,h5,h6⟩
 ·exact .inl h
 ·exact .inr ⟨b,cap,cur,h1,h2.ext e,h3,h4,h5,fun i hi=>by
   obtain⟨c,m,p,cs,a1,a2,a3,a4,a5⟩:=h6 i hi
   exact⟨c,m,p,cs,a1,a2,a3,a4.ext e,a5⟩⟩
end
end Go.Mono
namespace Go.Mono
open Go Go.Proofs Go.RowKit Go.Gr

theorem a1E (l:List BS)(r:BS):unL (l++[r])=unL l ||| r:=by rw[unL,List.foldl_append];rfl
theorem a1F (nb:Int→BS):∀(f:Nat) (a s:BS),(lvF nb f a s).length≤f:=by
 intro f
 induction f with
 | zero=>intro a s;exact Nat.le_refl _
 | succ f ih=>
  intro a s
  rw[lvF]
  split
  ·exact Nat.zero_le _
  ·rw[List.length_cons];exact Nat.succ_le_succ (ih _ _)
theorem eR (nb:Int→BS)(a:Nat):(lvB nb a).length≤1025:=a1F nb 1025 _ _
theorem sW (nb:Int→BS):∀(f:Nat) (s:BS),(prF nb f s).length≤f:=by
 intro f
 induction f with
 | zero=>intro s;exact Nat.le_refl _
 | succ f ih=>
  intro s
  cases h:aN s with
  | none=>rw[ni h];exact Nat.zero_le _
  | some a=>rw[nj h,List.length_cons];exact Nat.succ_le_succ (ih _)
theorem a1G {nb:Int→BS}{left:BS}{r a:Nat}(h:aN left=some a)(hc:card left≤r) :
  ∃f,r=f+1∧prF nb r left=unL (lvB nb a)::prF nb f (left &&& ~~~unL (lvB nb a))∧card (left &&& ~~~unL (lvB nb a))≤f:=by
 have ha:left.getLsbD a=true:=fu h
 have hp:=(kn (nb:=nb) (aA ha)).1
 have h1:=ei (S:=left &&& ~~~unL (lvB nb a)) (T:=left) (z:=a) (fun i hi=>((br _ _ _).1 hi).1) ha fun h=>((br _ _ _).1 h).2 hp
 obtain⟨f,rfl⟩:∃f,r=f+1:=⟨r - 1,by omega⟩
 exact⟨f,rfl,nj h f,by omega⟩
theorem a1H {nb:Int→BS}{left:BS}{r:Nat}(h:aN left=none):prF nb r left=[]:=by
 cases r with
 | zero=>rfl
 | succ r=>exact ni h r
def cT (l:List (Int×BS))(S:BS):List BS:=prF (lkS l) (card S) S
theorem kq {G:Nat→Prop}{N0:Nat}(l:List (Int×BS))(S:BS)(mq:Value)(W:World)(hT:Tab W)(h:(Dv (mpE sKV N0) G l).p mq W) :
  Calls Tryz.prog 54 #[.agg (adC S mq)] W (Post (OwA aP 76 W.heap.size G0 (cT l S)) W):=by
 have HV:(Dv (mpE sKV N0) (GB W G0) l).p mq W:=Dv.toB (Dv.weak h fun b _ hb=>hb.elim)
 have hT0:=hT.lt
 refine eN [.agg (adC S mq)] [E (.agg (adC S mq))] Tryz.func54 Tryz.ntmps54 ?_ fun a hf=>?_
 rotate_left
 dsimp only[params,Nat.reduceAdd] at hf
 rotate_right
 ·exact arg1 rfl
 have e:=Ext.rfl' W
 refine seq <| ac <| tB hf rfl fun a b1 w v1 hv1 e' hb1 hs1 B1 hf=>?_
 obtain⟨hT,HV,e⟩:=up3 e' hT HV e
 refine tA hf rfl fun a hf=>aa ?_
 cases hv1
 replace B1:Blk w b1 (adC S mq) 79:=B1
 replace hf:=hf.kp [1,2]
 refine seq <| ac <| tA hf rfl fun a hf=>aa <| seq <| ac <| tP hf (fA U79 rfl T76 rfl) fun a w e' hf=>?_
 obtain⟨hT,HV,e,B1⟩:=up4 e' hT HV e B1
 refine tP hf ((ldP T76 rfl B1 (by rw[aM];decide)).eq (congrArg Value.agg (bW S mq))) fun a w e' hf=>?_
 obtain⟨hT,HV,e,B1⟩:=up4 e' hT HV e B1
 refine tL I76 hf fun a b4 w e' hb4 hs4 B4 hf=>?_
 have hle4:=Nat.le_trans e.size (Nat.le_of_eq hb4.symm)
 have lt4_B1:=B1.lt
 obtain⟨hT,HV,e,B1⟩:=up4 e' hT HV e B1
 refine aF T76 hf rfl rfl (bk _) B4 rfl (bc _) fun w hg hsz B4 hf=>?_
 obtain⟨e,hT,HV,B1⟩:=gr4 hg e hT HV B1
 refine aa ?_
 replace hf:=hf.keep [1,3,4]
 obtain⟨N,hN⟩:=eqX w.heap.size
 have Ho:OwR aP 76 N G0 w [] (.slice none 0 0):=OwR.nil aP _ (Nat.le_of_eq hN) (fun b hb=>hb.elim)
 have hlN:b1<N∧b4<N∧W.heap.size≤N∧b1≠b4∧W.heap.size≤b1∧W.heap.size≤b4:=by have h1:=B1.lt;have h2:=B4.lt;omega
 refine blk (aK (fun r0 a w=>∃(left:BS) (out:List BS) (u:Value),card left≤r0∧out.length+r0≤card S∧out++prF (lkS l) r0 left=cT l S∧Fr 39 a w [(1,E (ptr b1)),(3,E u),(4,E (ptr b4))]∧Ext W w∧Tab w∧(Dv (mpE sKV N0) (GB W G0) l).p mq w ∧
  Blk w b1 (adC S mq) 79∧Blk w b4 (aJ left) 76∧OwR aP 76 N G0 w out u) (card S) ⟨S,[],.slice none 0 0,Nat.le_refl _,by simp,by rw[List.nil_append,cT],hf,e,hT,HV,B1,B4,Ho⟩ ?_)
 rintro r0 a w ⟨left,out,u,hfu,hle,hR,hf,e,hT,HV,B1,B4,Ho⟩
 have hcS:=em S
 refine blk ?_
 cases hq:aN left with
 | none=>
  refine seq <| rgN 7 hf <| st ((ldW T76 rfl B4 rfl).eq ((rfl:_=ae left))) <| st (aw (A:=gK left) fP rfl (fun v w he h=>by cases h;exact fT _ w (hT.ext he))) ?_
  refine st (mv rfl) <| st (bs rfl rfl) <| st (bs rfl rfl) <| st (asg rfl) <| st (asg rfl) <| en fun a w e' hf=>?_
  obtain⟨hT,HV,e,B1,B4,Ho⟩:=up6 e' hT HV e B1 B4 Ho
  refine aa ?_
  rw[hq] at hf
  replace hf:=hf.keep [3,5,6]
  refine seq <| seq ?_
  refine rgN 2 hf <| st (mv rfl) <| st ((aZ rfl).eq (congrArg Value.bool (show (!(none:Option Nat).isSome)=true from rfl))) <| en fun a w e' hf=>?_
  obtain⟨hT,HV,e,B1,B4,Ho⟩:=up6 e' hT HV e B1 B4 Ho
  refine aa <| ifT hf rfl ?_
  rw[a1H hq,List.append_nil] at hR
  rw[hR] at Ho
  refine seq <| rgN 1 hf <| st (mv rfl) <| en fun a w e' hf=>?_
  obtain⟨hT,HV,e,B1,B4,Ho⟩:=up6 e' hT HV e B1 B4 Ho
  refine tA hf rfl fun a hf=>aa <| ak <| an rfl hf rfl ?_
  rintro _ rfl
  exact⟨_,rfl,e,Ho.low hlN.2.2.1 fun b hb=>hb.elim⟩
 | some k=>
  obtain⟨f,rfl,hst,hcd⟩:=a1G (nb:=lkS l) hq hfu
  have hk:k<1024:=aA (fu hq)
  rw[hst] at hR
  obtain⟨lvs,hlvs⟩:=eqX (lvB (lkS l) k)
  have hll:lvs.length≤1025:=by rw[hlvs];exact eR _ _
  rw[← hlvs] at hR hcd
  refine seq <| rgN 7 hf <| st ((ldW T76 rfl B4 rfl).eq ((rfl:_=ae left))) <| st (aw (A:=gK left) fP rfl (fun v w he h=>by cases h;exact fT _ w (hT.ext he))) ?_
  refine st (mv rfl) <| st (bs rfl rfl) <| st (bs rfl rfl) <| st (asg rfl) <| st (asg rfl) <| en fun a w e' hf=>?_
  obtain⟨hT,HV,e,B1,B4,Ho⟩:=up6 e' hT HV e B1 B4 Ho
  refine aa ?_
  rw[hq] at hf
  replace hf:=hf.upd 5 rfl (B:=E (I (k:Nat))) (fun v h=>h)
  replace hf:=hf.keep [1,3,4,5,6]
  refine seq <| seq ?_
  refine rgN 2 hf <| st (mv rfl) <| st ((aZ rfl).eq (congrArg Value.bool (show (!(some k).isSome)=false from rfl))) <| en fun a w e' hf=>?_
  obtain⟨hT,HV,e,B1,B4,Ho⟩:=up6 e' hT HV e B1 B4 Ho
  refine aa <| ifF hf rfl ?_
  refine aj ?_
  replace hf:=hf.keep [1,3,4,5]
  refine seq <| ac <| tL I76 hf fun a b7 w e' hb7 hs7 B7 hf=>?_
  have ne7_Ho:=Ho.ne_new hb7
  have lt7_B1:=B1.lt
  have lt7_B4:=B4.lt
  obtain⟨hT,HV,e,B1,B4,Ho⟩:=up6 e' hT HV e B1 B4 Ho
  refine aa ?_
  simp only[Value.cells,dL] at B7
  have hu7:=ne7_Ho
  have n7:b1≠b7∧b4≠b7∧W.heap.size≤b7:=by have:=B1.lt;have:=B4.lt;omega
  obtain⟨N1,hN1⟩:=eqX w.heap.size
  have hN1s:N1≤w.heap.size:=Nat.le_of_eq hN1
  have l7:b7<N1:=by rw[hN1];exact B7.lt
  have lu:∀b,u.ownBlock=some b→b<N1:=fun b hb=>by rw[hN1];exact (Ho.lt hb).2
  refine seq <| seq ?_
  refine rgN 5 hf <| st (ldW T79 rfl B1 (aM _ _)) <| st (mv rfl) <| st (ap (A:=OwA aP 76 N1 G0 lvs) (B:=E (.agg (adC S mq))) (C:=E (I (k:Nat))) fO rfl rfl (fun v u w he k1 k2=>by cases k1;cases k2;exact (gj l S mq k w (hT.ext he) (Dv.ex HV he) hk).mono fun en w' ⟨u,k1,k2,k3⟩=>⟨u,k1,k2,by rw[hlvs];exact OwR.low k3 (Nat.le_trans hN1s he.size) fun b hb=>hb.elim⟩)) ?_
  refine st (aI U83 ⟨_,rfl,fun v w _ h=>OwR.sl h⟩) <| st (mv rfl) <| en fun a w e' hf=>?_
  obtain⟨hT,HV,e,B1,B4,B7,Ho⟩:=up7 e' hT HV e B1 B4 B7 Ho
  refine aa ?_
  obtain⟨lv,HoL,hf⟩:=hf.opn 22 rfl
  replace HoL:OwR aP 76 N1 G0 w lvs lv:=HoL
  have hr7:lv.ownBlock≠some b7:=HoL.neLt l7
  replace hf:=hf.keep [1,3,4,7,22,23,24]
  replace hf:=hf.keep [1,3,4,7,22,23,24]
  refine blk (aK (fun r0 a w=>∃(j:Nat) ,r0=lvs.length - j∧j≤lvs.length∧Fr 39 a w [(1,E (ptr b1)),(3,E u),(4,E (ptr b4)),(7,E (ptr b7)),(22,E lv),(23,E (I (lvs.length:Nat))),(24,E (I j))]∧Ext W w∧Tab w∧(Dv (mpE sKV N0) (GB W G0) l).p mq w∧Blk w b1 (adC S mq) 79∧Blk w b4 (aJ left) 76∧Blk w b7 (aJ (unL (lvs.take j))) 76∧OwR aP 76 N G0 w out u∧OwR aP 76 N1 G0 w lvs lv) lvs.length ⟨0,rfl,by omega,hf,e,⟨hT,HV,B1,B4,B7,Ho,HoL⟩⟩ ?_)
  rintro r0 a w ⟨j,rfl,hj,hf,e,hT,HV,B1,B4,B7,Ho,HoL⟩
  refine seq <| rgN 1 hf <| st (lss rfl rfl) <| en fun a w e' hf=>?_
  obtain⟨hT,HV,Ho,HoL,e,B1,B4,B7⟩:=up8 e' hT HV Ho HoL e B1 B4 B7
  refine aa <| seq <| ifc hf rfl (fun hc=>aj ?_) (fun hc=>aH ?_)
  rotate_left
  rotate_left
  ·have hltj:=ltC hc
   replace hf:=hf.kp [1,3,4,7,22,23,24]
   refine seq <| blk ?_
   have hy:=List.getElem?_eq_getElem hltj
   generalize lvs[j]=y at hy
   have hsc:unL (lvs.take (j+1))=unL (lvs.take j) ||| y:=by rw[bA hy,a1E]
   obtain⟨X,hX⟩:=eqX (unL (lvs.take j))
   rw[← hX] at hsc B7
   refine seq <| ac <| tP hf (aG U83 S76 (isE rfl (HoL.slN (N:=G0) fun b hb hh=>hh)) rfl (by omega) (hy)) fun a w e' hf=>?_
   obtain⟨hT,HV,HoL,e,B1,B4,B7,Ho⟩:=up8 e' hT HV HoL e B1 B4 B7 Ho
   refine tP hf (ldS T76 (isR rfl)) fun a w e' hf=>?_
   obtain⟨hT,HV,HoL,e,B1,B4,B7,Ho⟩:=up8 e' hT HV HoL e B1 B4 B7 Ho
   refine tL I76 hf fun a b9 w e' hb9 hs9 B9 hf=>?_
   have hle9:=Nat.le_trans e.size (Nat.le_of_eq hb9.symm)
   have ne9_Ho:=Ho.ne_new hb9
   have ne9_HoL:=HoL.ne_new hb9
   have lt9_B1:=B1.lt
   have lt9_B4:=B4.lt
   have lt9_B7:=B7.lt
   obtain⟨hT,HV,HoL,e,B1,B4,B7,Ho⟩:=up8 e' hT HV HoL e B1 B4 B7 Ho
   have hu9:=ne9_Ho
   have nr9:=ne9_HoL
   have n9:b1≠b9∧b4≠b9∧b7≠b9∧W.heap.size≤b9:=by omega
   replace hf:=hf.kp [1,3,4,7,9,22,23,24,27]
   refine aF T76 hf rfl rfl (bk _) B9 rfl (bc _) fun w hg hsz B9 hf=>?_
   obtain⟨e,hT,HV,B1,B4,B7⟩:=gr6 hg e hT HV B1 B4 B7
   replace Ho:=Ho.grE hg hu9;replace HoL:=HoL.grE hg nr9
   refine aa ?_
   replace hf:=hf.kp [1,3,4,7,9,22,23,24]
   refine rgN 3 hf <| st ((ldW T76 rfl B7 rfl).eq ((rfl:_=ae X))) <| st ((ldW T76 rfl B9 rfl).eq ((rfl:_=ae y))) <| st (ap (A:=E (ae (X ||| y))) iy rfl rfl (fun v u w he h h'=>by cases h;cases h';exact iB X y w)) ?_
   refine en fun a w e' hf=>?_
   obtain⟨hT,HV,HoL,e,B1,B4,B7,B9,Ho⟩:=up9 e' hT HV HoL e B1 B4 B7 B9 Ho
   refine aF T76 hf rfl rfl (bk _) B7 rfl (bc _) fun w hg hsz B7 hf=>?_
   obtain⟨e,hT,HV,B1,B4⟩:=gr5 hg e hT HV B1 B4
   replace Ho:=Ho.grE hg hu7;replace HoL:=HoL.grE hg hr7
   refine aa ?_
   rw[← hsc] at B7
   replace hf:=hf.kp [1,3,4,7,22,23,24]
   refine rgN 1 hf <| st ((add rfl rfl (by omega)).eq (iN j)) <| en fun a w e' hf=>?_
   obtain⟨hT,HV,Ho,HoL,e,B1,B4,B7⟩:=up8 e' hT HV Ho HoL e B1 B4 B7
   refine tP hf (mv rfl) fun a w e' hf=>?_
   obtain⟨hT,HV,Ho,HoL,e,B1,B4,B7⟩:=up8 e' hT HV Ho HoL e B1 B4 B7
   refine aa ?_
   replace hf:=hf.kp [1,3,4,7,22,23,24]
   refine⟨_,?_,j+1,rfl,by omega,hf,e,?_⟩
   ·omega
   exact⟨hT,HV,B1,B4,B7,Ho,HoL⟩
  ·obtain rfl:=dnE hc hj
   rw[List.take_length] at B7
   obtain⟨P,hP⟩:=eqX (unL lvs)
   rw[← hP] at B7 hR hcd
   replace hf:=hf.kp [1,3,4,7]
   refine seq <| rgN 3 hf <| st (mv rfl) <| st ((ldW T76 rfl B7 rfl).eq ((rfl:_=ae P))) <| st (aX U83 I76 rfl (by decide) rfl Ho.avs (isS rfl)) <| en fun a w e' hf=>?_
   obtain⟨hT,HV,B1,B4,B7,Ho,e⟩:=up7 e' hT HV B1 B4 B7 Ho e
   haveI hin:∀G0,InR (GB W G0) _:=OwR.inGB (W:=W) Ho (by omega)
   refine bG U83 I76 rfl rfl hf (by decide) rfl Ho (isR rfl) (by simp only[List.length_singleton];omega) (by simp only[List.length_singleton,maxLen];omega) fun a v w hg hat Hn hf=>?_
   replace e:=e.gro hg (Ho.row (W:=W) (by omega))
   have hrow:=Ho.row (W:=W) (by omega)
   replace hT:=hT.gro hg (fun b hb=>by have:=hrow b hb;omega)
   replace HV:=Dv.gro HV hg (fun b hb=>.inr (hrow b hb))
   replace B1:=B1.gro hg (Ho.neLt (by omega))
   replace B4:=B4.gro hg (Ho.neLt (by omega))
   replace B7:=B7.gro hg hu7
   replace Ho:=Hn
   replace Ho:=Hn;clear Hn hg hat hin
   refine tA hf rfl fun a hf=>aa ?_
   replace hf:=hf.kp [1,3,4,7]
   refine rgN 3 hf <| st ((ldW T76 rfl B4 rfl).eq ((rfl:_=ae left))) <| st ((ldW T76 rfl B7 rfl).eq ((rfl:_=ae P))) <| st (ap (A:=E (ae (left &&& ~~~P))) lS rfl rfl (fun v u w he h h'=>by cases h;cases h';exact lZ left P w)) ?_
   refine en fun a w e' hf=>?_
   obtain⟨hT,HV,e,B1,B4,B7,Ho⟩:=up7 e' hT HV e B1 B4 B7 Ho
   have hu4:v.ownBlock≠some b4:=Ho.neLt (by omega)
   refine aF T76 hf rfl rfl (bk _) B4 rfl (bc _) fun w hg hsz B4 hf=>?_
   obtain⟨e,hT,HV,B1⟩:=gr4 hg e hT HV B1
   replace Ho:=Ho.grE hg hu4
   refine aa ?_
   replace hf:=hf.kp [1,3,4]
   exact⟨f,Nat.lt_succ_self _,left &&& ~~~P,out++[P],v,hcd,by rw[List.length_append,List.length_singleton];omega,by rw[List.append_assoc];exact hR,hf,e,hT,HV,B1,B4,Ho⟩
theorem a1I (S:BS)(b:Nat)(W:World)(hT:Tab W)(hb:Blk W b (aJ S) 76) :
  Calls Tryz.prog 106 #[de b] W (Post (OwA intE 3 W.heap.size G0 (ah (ai S))) W):=by
 refine eN [de b] [E (de b)] Tryz.func106 Tryz.ntmps106 ?_ fun a hf=>?_
 rotate_left
 rotate_right
 ·exact arg1 rfl
 have e:=Ext.rfl' W
 refine seq <| ac <| tA hf rfl fun a hf=>aa ?_
 have hWN:W.heap.size≤W.heap.size:=Nat.le_refl _
 have hNs:=hWN
 refine seq <| rgN 2 hf <| st (mv rfl) <| st (ap (A:=OwA intE 3 W.heap.size G0 (ah (ai S))) (B:=E (.slice none 0 0)) (C:=E (de b)) wT rfl rfl (fun v u w he k1 k2=>by cases k1;cases k2;exact (a1f S b w (hT.ext he) (hb.ext he)).mono fun en w' ⟨u,k1,k2,k3⟩=>⟨u,k1,k2,OwR.low k3 (Nat.le_trans hNs he.size) fun b hb=>hb.elim⟩)) ?_
 refine en fun a w e' hf=>?_
 obtain⟨hT,e,hb⟩:=up3 e' hT e hb
 refine tA hf rfl fun a hf=>aa <| ak <| an rfl hf rfl ?_
 intro v hv
 exact⟨_,rfl,e,(OwR.low hv hWN fun b hb=>hb.elim)⟩
theorem kr (S:BS)(W:World)(hT:Tab W):Calls Tryz.prog 56 #[ae S] W (Post (OwA intE 3 W.heap.size G0 (ah (ai S))) W):=by
 refine eN [ae S] [E (ae S)] Tryz.func56 Tryz.ntmps56 ?_ fun a hf=>?_
 rotate_left
 rotate_right
 ·exact arg1 rfl
 have e:=Ext.rfl' W
 refine seq <| ac <| tB hf rfl fun a b1 w v1 hv1 e' hb1 hs1 B1 hf=>?_
 obtain⟨hT,e⟩:=up2 e' hT e
 refine tA hf rfl fun a hf=>aa ?_
 cases hv1
 replace B1:Blk w b1 (aJ S) 76:=B1
 obtain⟨N,hN⟩:=eqX w.heap.size
 have hNs:N≤w.heap.size:=Nat.le_of_eq hN
 have hWN:W.heap.size≤N:=by rw[hN];exact e.size
 refine seq <| rgN 3 hf <| st ((ldW T76 rfl B1 rfl).eq ((rfl:_=ae S))) <| st (aw (A:=dh 0 S) dr rfl (fun v w' he h=>by cases h;exact Calls.mono (du _ w') (fun en w2 ⟨u,h1,h2,b',h3,h4,h5⟩=>⟨u,h1,h2,b',Nat.zero_le _,h4,h5⟩))) ?_
 refine st (aw (A:=OwA intE 3 N G0 (ah (ai S))) wJ rfl (fun v w he ⟨b,_,hv,hb⟩=>by rw[hv];exact (a1I S b w (hT.ext he) hb).mono fun en w' ⟨u,k1,k2,k3⟩=>⟨u,k1,k2,OwR.low k3 (Nat.le_trans hNs he.size) fun b hb=>hb.elim⟩)) ?_
 refine en fun a w e' hf=>?_
 obtain⟨hT,e,B1⟩:=up3 e' hT e B1
 refine tA hf rfl fun a hf=>aa <| ak <| an rfl hf rfl ?_
 intro v hv
 exact⟨_,rfl,e,(OwR.low hv hWN fun b hb=>hb.elim)⟩
def cw (l:List (Int×BS))(S:BS)(N0:Nat):VA:=⟨fun v w=>∃mq,v=.agg (adC S mq)∧(Dv (mpE sKV N0) G0 l).p mq w,fun v w w' e ⟨mq,h1,h2⟩=>⟨mq,h1,Dv.ex h2 e⟩⟩
def elL (C:BS):List Int:=ah (ai C)
theorem sX (C:BS):(elL C).length≤1024:=by rw[elL,ah,List.length_map];exact fq C
theorem a1J {N:Nat}(g:GT)(v:Value)(W:World)(hT:Tab W)(h:(Gn N g).p v W)(gs1:g.1.Pairwise fun x y=>lt1 x.1 y.1=true)(gs2:g.2.Pairwise fun x y=>lt2 x.1 y.1=true)(hl1:g.1.length≤100000)(hl2:g.2.length≤100000)(hN:N≤1000000) :
  Calls Tryz.prog 22 #[v] W (Post (sV (cu 3) 35 W.heap.size (fun b=>b<W.heap.size) ((prF (nbA g) (card (vset g.1)) (vset g.1)).map elL)) W):=by
 have hgd:=h
 obtain⟨l,hl⟩:=eqX (nbL g (ai (vset g.1)))
 obtain⟨S,hS⟩:=eqX (vset g.1)
 obtain⟨ps,hps⟩:=eqX (cT l S)
 have hpl:ps.length≤1024:=by rw[hps,cT];exact Nat.le_trans (sW _ _ _) (em S)
 have hgoal:prF (nbA g) (card (vset g.1)) (vset g.1)=ps:=by rw[hps,cT,hl,hS,nbA]
 rw[hgoal]
 have hT0:=hT.lt
 refine eN [v] [E v] Tryz.func22 Tryz.ntmps22 ?_ fun a hf=>?_
 rotate_left
 rotate_right
 ·exact arg1 rfl
 have e:=Ext.rfl' W
 refine seq <| ac <| tA hf rfl fun a hf=>aa <| seq <| ac <| tA hf rfl fun a hf=>aa ?_
 obtain⟨N1,hN1⟩:=eqX W.heap.size
 have hN1s:N1≤W.heap.size:=Nat.le_of_eq hN1
 have hWN:W.heap.size≤N1:=by rw[hN1];exact e.size
 have e0:=e
 refine seq <| seq ?_
 refine rgN 5 hf <| st (mv rfl) <| st (aw (A:=cw l S 1024) eH rfl (fun v w he k=>by cases k;rw[hl,hS];exact (mN g _ w (hT.ext he) (vst (e0.tr he) hgd) gs1 gs2 hl1 hl2 hN).mono fun en w' ⟨k1,mq,k2,k3⟩=>⟨_,k2,k1,mq,rfl,k3⟩)) ?_
 refine st (aw (A:=OwA aP 76 N1 G0 ps) (B:=cw l S 1024) jA rfl (fun v w he ⟨mq,k1,k2⟩=>by rw[k1,hps];exact (kq l S mq w (hT.ext he) k2).mono fun en w' ⟨u,k1,k2,k3⟩=>⟨u,k1,k2,OwR.low k3 (Nat.le_trans hN1s he.size) fun b hb=>hb.elim⟩)) ?_
 refine st (aI U83 ⟨_,rfl,fun v w _ h=>OwR.sl h⟩) <| st (mv rfl) <| en fun a w e' hf=>?_
 obtain⟨hT,e⟩:=up2 e' hT e
 refine aa ?_
 obtain⟨pv,HoL,hf⟩:=hf.opn 8 rfl
 replace HoL:OwR aP 76 N1 G0 w ps pv:=HoL
 obtain⟨N2,hN2⟩:=eqX w.heap.size
 have lp:∀b,pv.ownBlock=some b→b<N2:=fun b hb=>by rw[hN2];exact (HoL.lt hb).2
 have X:OwX (cu 3) 35 N2 (fun b=>b<W.heap.size) w [] (.slice none 0 0):=OwX.nil _ _ (Nat.le_of_eq hN2)
 have hWN2:W.heap.size≤N2:=by rw[hN2];exact e.size
 replace hf:=hf.keep [3,8,9,10]
 replace hf:=hf.keep [3,8,9,10]
 refine blk (aK (fun r0 a w=>∃(j:Nat) (u:Value),r0=ps.length - j∧j≤ps.length∧Fr 21 a w [(3,E u),(8,E pv),(9,E (I (ps.length:Nat))),(10,E (I j))]∧Ext W w∧Tab w∧OwR aP 76 N1 G0 w ps pv∧OwX (cu 3) 35 N2 (fun b=>b<W.heap.size) w ((ps.take j).map elL) u) ps.length ⟨0,.slice none 0 0,rfl,by omega,hf,e,⟨hT,HoL,X⟩⟩ ?_)
 rintro r0 a w ⟨j,u,rfl,hj,hf,e,hT,HoL,X⟩
 refine seq <| rgN 1 hf <| st (lss rfl rfl) <| en fun a w e' hf=>?_
 obtain⟨hT,HoL,X,e⟩:=up4 e' hT HoL X e
 refine aa <| seq <| ifc hf rfl (fun hc=>aj ?_) (fun hc=>aH ?_)
 rotate_left
 rotate_left
 ·have hltj:=ltC hc
  replace hf:=hf.keep [3,8,9,10]
  refine seq <| blk ?_
  have hy:=List.getElem?_eq_getElem hltj
  generalize ps[j]=C at hy
  have hsc:(ps.take (j+1)).map elL=(ps.take j).map elL++[elL C]:=by rw[bA hy,List.map_append];rfl
  have hlo:((ps.take j).map elL).length≤1024:=by rw[List.length_map];exact Nat.le_trans (List.length_take_le' _ _) hpl
  generalize (ps.take j).map elL=out at hsc hlo X
  obtain⟨N3,hN3⟩:=eqX w.heap.size
  have hN3s:N3≤w.heap.size:=Nat.le_of_eq hN3
  have lu:∀b,u.ownBlock=some b→b<N3:=fun b hb=>by rw[hN3];exact (X.lt hb).2
  replace X:=X.weak (G':=fun b=>b<W.heap.size∨N3≤b) fun b hb h=>h.elim id fun h=>by rw[hN3] at h;exact absurd hb (Nat.not_lt.2 h)
  refine seq <| ac <| tP hf (aG U83 S76 (isE rfl (HoL.slN (N:=G0) fun b hb hh=>hh)) rfl (by omega) (hy)) fun a w e' hf=>?_
  obtain⟨hT,X,hN3s,e,HoL⟩:=up5 e' hT X hN3s e HoL
  refine tP hf (ldS T76 (isR rfl)) fun a w e' hf=>?_
  obtain⟨hT,X,hN3s,e,HoL⟩:=up5 e' hT X hN3s e HoL
  refine tL I76 hf fun a b5 w e' hb5 hs5 B5 hf=>?_
  have hle5:=Nat.le_trans e.size (Nat.le_of_eq hb5.symm)
  have lo5_hN3s:=Nat.le_trans hN3s (Nat.le_of_eq hb5.symm)
  have ne5_HoL:=HoL.ne_new hb5
  obtain⟨hT,X,hN3s,e,HoL⟩:=up5 e' hT X hN3s e HoL
  have hr5:=ne5_HoL
  have h5:N3≤b5:=lo5_hN3s
  have hW5:W.heap.size≤b5:=hle5
  have hu5:u.ownBlock≠some b5:=fun h=>by have:=lu b5 h;omega
  replace hf:=hf.kp [3,5,8,9,10,13]
  refine aF T76 hf rfl rfl (bk _) B5 rfl (bc _) fun w hg hsz B5 hf=>?_
  replace X:=X.ch ((Chg.rfl' (fun b=>b=b5) _).gr hg (.inl rfl)) (fun b hb h=>hu5 (by rw[← h];exact hb)) (fun b h=>by rw[h];exact .inr h5)
  obtain⟨e,hT⟩:=gr2 hg e hT
  replace HoL:=HoL.grE hg hr5
  refine aa ?_
  replace X:=X.weak (G':=fun b=>b<W.heap.size) fun b _ h=>.inl h
  have hlu:∀b,GO (fun b=>b<W.heap.size) u b→b<w.heap.size:=fun b hb=>hb.elim (fun h=>Nat.lt_of_lt_of_le h e.size) fun h=>(X.lt h).2
  replace hf:=hf.kp [3,5,8,9,10]
  refine rgN 4 hf <| st (mv rfl) <| st ((ldW T76 rfl B5 rfl).eq ((rfl:_=ae C))) <| st (aw (A:=Dv (cu 3) (GO (fun b=>b<W.heap.size) u) (elL C)) jB rfl (fun v w he h=>by cases h;exact (kr C w (hT.ext he)).mono fun en w' ⟨z,k1,k2,k3⟩=>⟨z,k1,k2,OwR.own' k3 fun b hb hh=>by have h1:=hlu b hh;have h2:=(k3.lt hb).1;have h3:=he.size;omega⟩)) ?_
  refine st (aX U39 I35 rfl (by decide) rfl hlu (isR rfl)) <| en fun a w e' hf=>?_
  obtain⟨hT,X,e,B5,HoL⟩:=up5 e' hT X e B5 HoL
  have hrow:∀b,u.ownBlock=some b→N2≤b:=fun b hb=>(X.lt hb).1
  refine lJ U39 I35 rfl rfl hf (by decide) rfl X (isR rfl) (by simp only[List.length_singleton];omega) (by simp only[List.length_singleton,maxLen];omega) fun a u' w hg hat Hn hf=>?_
  replace e:=e.gro hg (fun b hb=>by have:=hrow b hb;omega)
  replace hT:=hT.gro hg (fun b hb=>by have:=hrow b hb;omega)
  replace HoL:=HoL.groE hg (fun b hb hh=>by have h1:=hrow b hh;have h2:=lp b hb;omega)
  have X:=Hn
  rw[← hsc] at X
  replace hf:=hf.keep [3,8,9,10,18]
  refine tA hf rfl fun a hf=>aa <| rgN 1 hf <| st ((add rfl rfl (by omega)).eq (iN j)) <| en fun a w e' hf=>?_
  obtain⟨hT,HoL,X,e⟩:=up4 e' hT HoL X e
  refine tP hf (mv rfl) fun a w e' hf=>?_
  obtain⟨hT,HoL,X,e⟩:=up4 e' hT HoL X e
  refine aa ?_
  replace hf:=hf.keep [3,8,9,10]
  refine⟨_,?_,j+1,_,rfl,by omega,hf,e,?_⟩
  ·omega
  exact⟨hT,HoL,X⟩
 ·obtain rfl:=dnE hc hj
  rw[List.take_length] at X
  replace hf:=hf.keep [3]
  refine seq <| rgN 1 hf <| st (mv rfl) <| en fun a w e' hf=>?_
  obtain⟨X,e⟩:=up2 e' X e
  refine tA hf rfl fun a hf=>aa <| ak <| an rfl hf rfl ?_
  rintro _ rfl
  exact⟨_,rfl,e,OwX.low X hWN2⟩
theorem sY {N:Nat}(g:GT)(v:Value)(W:World)(hT:Tab W)(h:(Gn N g).p v W)(gs1:g.1.Pairwise fun x y=>lt1 x.1 y.1=true)(gs2:g.2.Pairwise fun x y=>lt2 x.1 y.1=true)(hl1:g.1.length≤100000)(hl2:g.2.length≤100000)(hN:N≤1000000) :
  Calls Tryz.prog 22 #[v] W (Post (Dv (slE (slE intE)) G0 ((prF (nbA g) (card (vset g.1)) (vset g.1)).map elL)) W):=
 (a1J g v W hT h gs1 gs2 hl1 hl2 hN).mono fun en w' ⟨u,k1,k2,k3⟩=>⟨u,k1,k2,Dv.ownSlS (OwX.sl0 k3)⟩
end Go.Mono
namespace Go.Mono
open Go Go.Proofs Go.RowKit

theorem pY.hi {xs:List RB}(V:pY xs):∀i,i<xs.length→up xs i<xs.length:=fun i hi=>(V.range i hi).2

end Go.Mono
namespace Go.Mono

theorem iU (p:Nat→Bool)(n:Nat):(cA p n = -1∧∀i,i<n→p i=false)∨∃k:Nat,k<n∧cA p n=(k:Int)∧p k=true∧∀i,i<k→p i=false:=by
 by_cases h:∃k,k<n∧p k=true
 ·obtain⟨k,⟨h1,h2⟩,h3⟩:=least h
  have h4:∀i,i<k→p i=false:=fun i hi=>by
   cases hp:p i
   ·rfl
   ·exact absurd ⟨by omega,hp⟩ (h3 i hi)
  exact .inr ⟨k,h1,fR h1 h4 h2,h2,h4⟩
 ·have h4:∀i,i<n→p i=false:=fun i hi=>by
   cases hp:p i
   ·rfl
   ·exact absurd ⟨i,hi,hp⟩ h
  exact .inl ⟨fm h4,h4⟩
end Go.Mono
namespace Go.Mono
open Go Go.Proofs Go.RowKit Go.Gr
def wo (nb:Int→BS)(u v:Nat):Int→BS:=fun x=>if x=(u:Int) then del (nb x) (v:Int) else if x=(v:Int) then del (nb x) (u:Int) else nb x
def nC (nb:Int→BS)(C:BS)(u v:Nat):Int→BS:=fun x=>wo nb u v x &&& C
section
variable {nb:Int→BS}
theorem iV {at':BS}(h:at'=0)(f:Nat)(seen:BS):lvF nb f at' seen=[]:=by
 cases f with
 | zero=>rfl
 | succ f=>rw[lvF,if_pos h]
theorem fy {at':BS}(h:at'≠0)(f:Nat)(seen:BS):lvF nb (f+1) at' seen=at'::lvF nb f (nxN nb at' &&& ~~~seen) (seen ||| (nxN nb at' &&& ~~~seen)):=by rw[lvF,if_neg h]
theorem a1K:∀(f:Nat) (at' seen:BS) (k x:Nat) (S:BS),(lvF nb f at' seen)[k]?=some S→S.getLsbD x=true →
  ∃p:Nat→Nat,at'.getLsbD (p 0)=true∧p k=x∧(∀i,i≤k→∃T,(lvF nb f at' seen)[i]?=some T∧T.getLsbD (p i)=true)∧∀i,i<k→(nb (p i:Int)).getLsbD (p (i+1))=true:=by
 intro f
 induction f with
 | zero=>intro at' seen k x S hS;rw[lvF] at hS;cases hS
 | succ f ih=>
  intro at' seen k x S hS hx
  by_cases h0:at'=0
  ·rw[iV h0] at hS;cases hS
  rw[fy h0] at hS ⊢
  cases k with
  | zero=>
   rw[List.getElem?_cons_zero] at hS
   obtain rfl:=Option.some.inj hS
   refine⟨fun _=>x,hx,rfl,fun i hi=>⟨at',?_,hx⟩,fun i hi=>by omega⟩
   rw[show i=0 by omega,List.getElem?_cons_zero]
  | succ k=>
   rw[List.getElem?_cons_succ] at hS
   obtain⟨p,p1,p2,p3,p4⟩:=ih _ _ k x S hS hx
   obtain⟨y,hy,hyp⟩:=nh.1 ((br _ _ _).1 p1).1
   refine⟨fun i=>if i=0 then y else p (i - 1),by simpa using hy,by simpa using p2,fun i hi=>?_,fun i hi=>?_⟩
   ·cases i with
    | zero=>exact⟨at',List.getElem?_cons_zero,by simpa using hy⟩
    | succ i=>
     obtain⟨T,h1,h2⟩:=p3 i (by omega)
     exact⟨T,by rw[List.getElem?_cons_succ];exact h1,by simpa using h2⟩
   ·cases i with
    | zero=>simpa using hyp
    | succ i=>simpa using p4 i (by omega)
theorem a1L:∀(f:Nat) (at' seen:BS) (k x:Nat) (S:BS),(lvF nb f at' seen)[k+1]?=some S→S.getLsbD x=true→¬seen.getLsbD x=true:=by
 intro f
 induction f with
 | zero=>intro at' seen k x S hS;rw[lvF] at hS;cases hS
 | succ f ih=>
  intro at' seen k x S hS hx
  by_cases h0:at'=0
  ·rw[iV h0] at hS;cases hS
  rw[fy h0,List.getElem?_cons_succ] at hS
  cases k with
  | zero=>
   cases f with
   | zero=>rw[lvF] at hS;cases hS
   | succ f=>
    by_cases h2:nxN nb at' &&& ~~~seen=0
    ·rw[iV h2] at hS;cases hS
    ·rw[fy h2,List.getElem?_cons_zero] at hS
     obtain rfl:=Option.some.inj hS
     exact ((br _ _ _).1 hx).2
  | succ k=>exact fun h=>ih _ _ k x S hS hx ((bL _ _ _).2 (.inl h))
theorem a1M:∀(f:Nat) (at' seen:BS),(∀i,at'.getLsbD i=true→seen.getLsbD i=true)→∀(i j x:Nat) (S T:BS),i<j→(lvF nb f at' seen)[i]?=some S→(lvF nb f at' seen)[j]?=some T→S.getLsbD x=true→¬T.getLsbD x=true:=by
 intro f
 induction f with
 | zero=>intro at' seen _ i j x S T _ hS;rw[lvF] at hS;cases hS
 | succ f ih=>
  intro at' seen hin i j x S T hij hS hT hx hxT
  by_cases h0:at'=0
  ·rw[iV h0] at hS;cases hS
  cases j with
  | zero=>omega
  | succ j=>
   cases i with
   | zero=>
    have h1:=a1L (f+1) at' seen j x T hT hxT
    rw[fy h0,List.getElem?_cons_zero] at hS
    obtain rfl:=Option.some.inj hS
    exact h1 (hin x hx)
   | succ i=>
    rw[fy h0,List.getElem?_cons_succ] at hS hT
    exact ih _ _ (fun k hk=>(bL _ _ _).2 (.inr hk)) i j x S T (by omega) hS hT hx hxT
structure Cyc (nb:Int→BS)(p:Nat→Nat)(n:Nat):Prop where
 three:3≤n
 inj:∀i j,i<n→j<n→p i=p j→i=j
 adj:∀i,i+1<n→(nb (p i:Int)).getLsbD (p (i+1))=true
 last:(nb (p (n - 1):Int)).getLsbD (p 0)=true
end
section
variable {nb:Int→BS}
theorem a1N:∀(f:Nat) (at' seen:BS),(1024<f+card seen∨at'=0)→∀(k x y:Nat) (S:BS),(lvF nb f at' seen)[k]?=some S→S.getLsbD x=true→(nb (x:Int)).getLsbD y=true →
  seen.getLsbD y=true∨∃k' T,k'≤k+1∧(lvF nb f at' seen)[k']?=some T∧T.getLsbD y=true:=by
 intro f
 induction f with
 | zero=>intro at' seen _ k x y S hS;rw[lvF] at hS;cases hS
 | succ f ih=>
  intro at' seen hf k x y S hS hx hxy
  by_cases h0:at'=0
  ·rw[iV h0] at hS;cases hS
  rw[fy h0] at hS ⊢
  obtain⟨a2,ha2⟩:=eqX (nxN nb at' &&& ~~~seen)
  rw[← ha2] at hS ⊢
  have hfu:1024<f+card (seen ||| a2)∨a2=0:=by
   by_cases h2:a2=0
   ·exact .inr h2
   ·left
    obtain⟨z,hz⟩:∃z,a2.getLsbD z=true:=Classical.byContradiction fun hn=>h2 (cG fun k=>⟨fun h=>absurd ⟨k,h⟩ hn,fun h=>absurd h (aU k)⟩)
    have:=ei (S:=seen) (T:=seen ||| a2) (z:=z) (fun i hi=>(bL _ _ _).2 (.inl hi)) ((bL _ _ _).2 (.inr hz)) (by rw[ha2] at hz;exact ((br _ _ _).1 hz).2)
    rcases hf with h|h
    ·omega
    ·exact absurd h h0
  have hone:∀y,a2.getLsbD y=true→∃T,(at'::lvF nb f a2 (seen ||| a2))[1]?=some T∧T.getLsbD y=true:=fun y hy=>by
   have hne:a2≠0:=fun h=>by rw[h] at hy;exact aU _ hy
   cases f with
   | zero=>
    rcases hfu with h|h
    ·have:=em (seen ||| a2);omega
    ·exact absurd h hne
   | succ f=>exact⟨a2,by rw[List.getElem?_cons_succ,fy hne,List.getElem?_cons_zero],hy⟩
  cases k with
  | zero=>
   rw[List.getElem?_cons_zero] at hS
   obtain rfl:=Option.some.inj hS
   by_cases hs:seen.getLsbD y=true
   ·exact .inl hs
   ·obtain⟨T,h1,h2⟩:=hone y (by rw[ha2];exact (br _ _ _).2 ⟨nh.2 ⟨x,hx,hxy⟩,hs⟩)
    exact .inr ⟨1,T,by omega,h1,h2⟩
  | succ k=>
   rw[List.getElem?_cons_succ] at hS
   rcases ih a2 (seen ||| a2) hfu k x y S hS hx hxy with h|⟨k',T,h1,h2,h3⟩
   ·rcases (bL _ _ _).1 h with h|h
    ·exact .inl h
    ·obtain⟨T,h1,h2⟩:=hone y h
     exact .inr ⟨1,T,by omega,h1,h2⟩
   ·exact .inr ⟨k'+1,T,by omega,by rw[List.getElem?_cons_succ];exact h2,h3⟩
theorem a1O {a:Nat}(ha:a<1024)(q:Nat→Nat)(h0:q 0=a):∀m,(∀i,i<m→(nb (q i:Int)).getLsbD (q (i+1))=true)→∃k T,k≤m∧(lvB nb a)[k]?=some T∧T.getLsbD (q m)=true:=by
 have h1:∀i,(ins 0 (a:Int)).getLsbD i=true↔i=a:=fun i=>by
  rw[bE _ ha]
  exact⟨fun h=>h.resolve_left (aU i),.inr⟩
 have hne:ins 0 (a:Int)≠0:=fun h=>by
  have:=(h1 a).2 rfl
  rw[h] at this;exact aU _ this
 have hz:(lvB nb a)[0]?=some (ins 0 (a:Int)):=by rw[lvB,fy hne,List.getElem?_cons_zero]
 intro m
 induction m with
 | zero=>intro _;exact⟨0,_,Nat.le_refl _,hz,(h1 _).2 h0⟩
 | succ m ih=>
  intro hw
  obtain⟨k,T,k1,k2,k3⟩:=ih fun i hi=>hw i (by omega)
  rw[lvB] at k2
  rcases a1N 1025 _ _ (.inl (by omega)) k (q m) (q (m+1)) T k2 k3 (hw m (Nat.lt_succ_self _)) with h|⟨k',T',m1,m2,m3⟩
  ·exact⟨0,_,by omega,hz,h⟩
  ·exact⟨k',T',by omega,by rw[lvB];exact m2,m3⟩
def bO (L:List BS)(b:Nat):Int:=match L.findIdx? (fun S=>S.getLsbD b) with
 | some i=>(i:Int)
 | none => -1
theorem sZ {L:List BS}{b k:Nat}{T:BS}(h:L[k]?=some T)(hT:T.getLsbD b=true):0≤bO L b∧bO L b≤k:=by
 rw[bO]
 cases hf:L.findIdx? (fun S=>S.getLsbD b) with
 | none=>
  have:=List.findIdx?_eq_none_iff.1 hf T (List.mem_of_getElem? h)
  rw[hT] at this;cases this
 | some i=>
  obtain⟨h1,h2,h3⟩:=List.findIdx?_eq_some_iff_getElem.1 hf
  refine⟨(show (0:Int)≤(i:Int) by omega),?_⟩
  by_cases hik:i≤k
  ·show (i:Int)≤k;omega
  ·exfalso
   have:=h3 k (by omega)
   obtain⟨hk,he⟩:=List.getElem?_eq_some_iff.1 h
   rw[he,hT] at this
   exact this rfl
theorem nk {L:List BS}{b k:Nat}(h:bO L b=(k:Int)):∃T,L[k]?=some T∧T.getLsbD b=true:=by
 rw[bO] at h
 cases hf:L.findIdx? (fun S=>S.getLsbD b) with
 | none=>rw[hf] at h;exact absurd h (by show ¬(-1:Int)=k;omega)
 | some i=>
  obtain⟨h1,h2,_⟩:=List.findIdx?_eq_some_iff_getElem.1 hf
  rw[hf] at h
  have:i=k:=by have h':(i:Int)=k:=h;omega
  subst this
  exact⟨_,List.getElem?_eq_getElem h1,h2⟩
def cZ (nb:Int→BS)(a n:Nat):Nat→List Nat→Option (List Nat)
 | 0,_=>none
 | f+1,way=>if way.length=n then (if (nb (way.getLastD 0:Nat)).getLsbD a=true then some way else none)
  else (ai (nb (way.getLastD 0:Nat))).findSome? fun next=>if way.contains next=true∨(n:Int) - way.length<bO (lvB nb a) next then none else cZ nb a n f (way++[next])
theorem Cyc.rot {p:Nat→Nat}{n:Nat}(h:Cyc nb p n):Cyc nb (fun i=>if i=n - 1 then p 0 else p (i+1)) n:=by
 have h3:=h.three
 refine⟨h3,fun i j hi hj hij=>?_,fun i hi=>?_,?_⟩
 ·try dsimp only at hij
  split at hij <;> split at hij
  ·omega
  ·have:=h.inj _ _ (by omega) (by omega) hij;omega
  ·have:=h.inj _ _ (by omega) (by omega) hij;omega
  ·have:=h.inj _ _ (by omega) (by omega) hij;omega
 ·try dsimp only
  rw[if_neg (by omega)]
  split
  ·have:=h.last
   rwa [show n - 1=i+1 by omega] at this
  ·exact h.adj (i+1) (by omega)
 ·try dsimp only
  rw[if_pos rfl,if_neg (by omega)]
  exact h.adj 0 (by omega)
theorem Cyc.at {n:Nat}:∀(i:Nat) (p:Nat→Nat),Cyc nb p n→i<n→∃p',Cyc nb p' n∧p' 0=p i∧∀j,j<n→∃j',j'<n∧p' j=p j':=by
 intro i
 induction i with
 | zero=>intro p h _;exact⟨p,h,rfl,fun j hj=>⟨j,hj,rfl⟩⟩
 | succ i ih=>
  intro p h hi
  obtain⟨p',h1,h2,h4⟩:=ih _ h.rot (by omega)
  rw[if_neg (by omega)] at h2
  refine⟨p',h1,h2,fun j hj=>?_⟩
  obtain⟨j',hj',e⟩:=h4 j hj
  split at e
  ·exact⟨0,by omega,e⟩
  ·exact⟨j'+1,by omega,e⟩
theorem ta (p:Nat→Nat):∀n,0<n→∃i,i<n∧∀j,j<n→p i≤p j:=by
 intro n
 induction n with
 | zero=>intro h;omega
 | succ n ih=>
  intro _
  by_cases h0:n=0
  ·exact⟨0,by omega,fun j hj=>by rw[show j=0 by omega];exact Nat.le_refl _⟩
  obtain⟨i,hi,h⟩:=ih (by omega)
  by_cases hle:p i≤p n
  ·exact⟨i,by omega,fun j hj=>by
    by_cases hjn:j=n
    ·rw[hjn];exact hle
    ·exact h j (by omega)⟩
  ·exact⟨n,by omega,fun j hj=>by
    by_cases hjn:j=n
    ·rw[hjn];exact Nat.le_refl _
    ·have:=h j (by omega);omega⟩
theorem Cyc.least {p:Nat→Nat}{n:Nat}(h:Cyc nb p n):∃p',Cyc nb p' n∧∀j,j<n→p' 0≤p' j:=by
 have h3:=h.three
 obtain⟨i,hi,hm⟩:=ta p n (by omega)
 obtain⟨p',h1,h2,h4⟩:=Cyc.at i p h hi
 refine⟨p',h1,fun j hj=>?_⟩
 obtain⟨j',hj',e⟩:=h4 j hj
 rw[h2,e]
 exact hm j' hj'
theorem Cyc.within {p:Nat→Nat}{n:Nat}{S:BS}{nb':Int→BS}(h:Cyc nb p n)(hS:∀i,i<n→S.getLsbD (p i)=true)(hn:∀i j:Nat,S.getLsbD i=true→S.getLsbD j=true→(nb (i:Int)).getLsbD j=true→(nb' (i:Int)).getLsbD j=true):Cyc nb' p n:=
 have h3:=h.three
 ⟨h3,h.inj,fun i hi=>hn _ _ (hS i (by omega)) (hS _ hi) (h.adj i hi),hn _ _ (hS _ (by omega)) (hS _ (by omega)) h.last⟩
def ci (nb:Int→BS)(es:List (Nat×Nat)):Int:=es.foldl (fun best e=>let n:=bO (lvB (wo nb e.1 e.2) e.1) e.2;if n ≠ -1∧(best=0∨n+1<best) then n+1 else best) 0
theorem kt (L:List BS)(b:Nat) : -1≤bO L b:=by
 rw[bO];split
 ·show (-1:Int)≤(_:Nat);omega
 ·exact Int.le_refl _
end

def gs (l:List BS)(i:Nat):BS:=(l[i]?).getD 0
theorem iW {l:List BS}{i:Nat}(h:i<l.length):l[i]?=some (gs l i):=by simp[gs,h]
def ku (p:BS→Bool)(l:List BS):Int:=cA (fun i=>p (gs l i)) l.length
theorem tc (L:List BS)(b:Nat):ku (fun S=>has S (b:Int)) L=bO L b:=by
 rw[ku,bO]
 rcases iU (fun i=>has (gs L i) (b:Int)) L.length with ⟨h1,h2⟩|⟨k,hk,h1,h2,h3⟩
 ·have:L.findIdx? (fun S=>S.getLsbD b)=none:=List.findIdx?_eq_none_iff.2 fun S hS=>by
   obtain⟨i,hi,he⟩:=List.getElem_of_mem hS
   have h4:=h2 i hi
   have h5:gs L i=S:=by have:=iW hi;rw[List.getElem?_eq_getElem hi,he] at this;exact (Option.some.inj this).symm
   rw[h5] at h4
   cases hb:S.getLsbD b with
   | false=>rfl
   | true=>rw[(dR S b).2 hb] at h4;cases h4
  rw[h1,this]
 ·have:L.findIdx? (fun S=>S.getLsbD b)=some k:=by
   rw[List.findIdx?_eq_some_iff_getElem]
   have hg:∀i (hi:i<L.length),L[i]=gs L i:=fun i hi=>by have:=iW hi;rw[List.getElem?_eq_getElem hi] at this;exact Option.some.inj this
   refine⟨hk,?_,fun j hj=>?_⟩
   ·rw[hg k hk];exact (dR _ b).1 h2
   ·rw[hg j (by omega)]
    intro hh
    have:=h3 j hj
    rw[(dR _ b).2 hh] at this;cases this
  rw[h1,this]
theorem a1P {G:Nat→Prop}(l:List BS)(v:Value)(id:FuncId)(caps:Array Value)(p:BS→Bool)(W:World)(hen:Proofs.Enters Tryz.prog id)(h:(Dv (slE aP) G l).p v W)
  (hp:∀w S,Ext W w→Calls Tryz.prog id (#[ae S]++caps) w (Post (E (B (p S))) w)) (hl:l.length≤4096) :
  Calls Tryz.prog 102 #[v,.func (.func id) #[] caps] W (Post (E (I (ku p l))) W):=by
 refine eN [v,.func (.func id) #[] caps] [Dv (slE aP) G l,E (.func (.func id) #[] caps)] Tryz.func102 Tryz.ntmps102 ?_ fun a hf=>?_
 rotate_left
 rotate_right
 ·exact arg2 h rfl
 have e:=Ext.rfl' W
 refine seq <| ac <| tA hf rfl fun a hf=>aa ?_
 refine seq <| seq ?_
 refine rgN 3 hf <| st (mv rfl) <| st (aI U83 (isR rfl)) <| st (mv rfl) <| en fun a w e' hf=>?_
 replace e:=e.tr e'
 refine aa ?_
 replace hf:=hf.keep [0,1,7,8]
 refine blk (aK (fun r0 a w=>∃(k:Nat) ,r0=l.length - k∧k≤l.length∧Fr 19 a w [(0,Dv (slE aP) G l),(1,E (.func (.func id) #[] caps)),(7,E (I (l.length:Nat))),(8,E (I k))]∧Ext W w∧∀i,i<k→p (gs l i)=false) l.length ⟨0,rfl,by omega,hf,e,(fun i hi=>by omega)⟩ ?_)
 rintro r0 a w ⟨k,rfl,hk,hf,e,Ho⟩
 refine seq <| rgN 1 hf <| st (lss rfl rfl) <| en fun a w e' hf=>?_
 replace e:=e.tr e'
 refine aa <| seq <| ifc hf rfl (fun hc=>aj ?_) (fun hc=>aH ?_)
 rotate_left
 rotate_left
 ·have hlt:=ltC hc
  replace hf:=hf.keep [0,1,7,8]
  refine seq <| blk <| seq <| rgN 1 hf <| st (mv rfl) <| en fun a w e' hf=>?_
  replace e:=e.tr e'
  refine tA hf rfl fun a hf=>aa <| seq <| rgN 6 hf <| st (mv rfl) <| st (mv rfl) <| st (mv rfl) <| st (aG U83 S76 (isR rfl) rfl (by omega) (iW hlt)) <| st (ldS T76 (isR rfl)) <| st (ij hen rfl rfl (fun v w he h=>by cases h;exact hp w _ (e.tr he))) ?_
  refine en fun a w e' hf=>?_
  replace e:=e.tr e'
  refine aa <| ifc hf rfl (fun hb=>?_) (fun hb=>?_)
  ·refine seq <| rgN 1 hf <| st (mv rfl) <| en fun a w e' hf=>?_
   replace e:=e.tr e'
   refine tA hf rfl fun a hf=>aa <| ak <| an rfl hf rfl ?_
   rintro _ rfl
   exact⟨_,rfl,e,congrArg I (fR hlt Ho hb).symm⟩
  ·refine aj <| rgN 1 hf <| st ((add rfl rfl (by omega)).eq (iN k)) <| en fun a w e' hf=>?_
   replace e:=e.tr e'
   refine tP hf (mv rfl) fun a w e' hf=>?_
   replace e:=e.tr e'
   refine aa ?_
   replace hf:=hf.keep [0,1,7,8]
   refine⟨_,?_,k+1,rfl,by omega,hf,e,?_⟩
   ·omega
   intro i hi
   by_cases hk:i=k
   ·subst hk;exact hb
   ·exact Ho i (by omega)
 ·obtain rfl:=dnE hc hk
  refine seq <| ac <| tA hf rfl fun a hf=>aa <| ak <| an rfl hf rfl ?_
  rintro _ rfl
  exact⟨_,rfl,e,congrArg I (fm Ho).symm⟩
theorem a1Q (S:BS)(b:Int)(c:Nat)(W:World)(hc:Blk W c #[I b] 3):Calls Tryz.prog 103 #[ae S,ptr c] W (Post (E (B (has S b))) W):=by
 refine eN [ae S,ptr c] [E (ae S),E (ptr c)] Tryz.func103 Tryz.ntmps103 ?_ fun a hf=>?_
 rotate_left
 rotate_right
 ·exact arg2 rfl rfl
 have e:=Ext.rfl' W
 refine seq <| ac <| tB hf rfl fun a b2 w v2 hv2 e' hb2 hs2 B2 hf=>?_
 obtain⟨e,hc⟩:=up2 e' e hc
 refine tA hf rfl fun a hf=>aa ?_
 cases hv2
 replace B2:Blk w b2 (aJ S) 76:=B2
 refine seq <| rgN 3 hf <| st ((ldW T76 rfl B2 rfl).eq ((rfl:_=ae S))) <| st (ld1 (v:=I b) T3 rfl hc rfl) <| st (ap (A:=E (B (has S b))) (B:=E (ae S)) (C:=E (I b)) ce rfl rfl (fun v u w he h h'=>by cases h;cases h';exact ea _ _ w)) ?_
 refine en fun a w e' hf=>?_
 obtain⟨e,hc,B2⟩:=up3 e' e hc B2
 refine tA hf rfl fun a hf=>aa <| ak <| an rfl hf rfl ?_
 rintro _ rfl
 exact⟨_,rfl,e,rfl⟩
theorem kw {G:Nat→Prop}(L:List BS)(b:Nat)(v:Value)(W:World)(h:(Dv (slE aP) G L).p v W)(hl:L.length≤4096):Calls Tryz.prog 50 #[v,I (b:Nat)] W (Post (E (I (bO L b))) W):=by
 have hv:(Dv (slE aP) G0 L).p v W:=Dv.weak h fun b _ hb=>hb.elim
 refine eN [v,I (b:Nat)] [E v,E (I (b:Nat))] Tryz.func50 Tryz.ntmps50 ?_ fun a hf=>?_
 rotate_left
 rotate_right
 ·exact arg2 rfl rfl
 have e:=Ext.rfl' W
 refine seq <| ac <| tB hf rfl fun a b3 w v3 hv3 e' hb3 hs3 B3 hf=>?_
 replace e:=e.tr e'
 refine tA hf rfl fun a hf=>aa ?_
 cases hv3
 replace B3:Blk w b3 #[I (b:Nat)] 3:=B3
 replace hf:=hf.keep [0,3]
 have e1:=e
 refine seq <| rgN 3 hf <| st (mv rfl) <| st (im rfl) <| st (ap (A:=E (I (bO L b))) (B:=E v) (C:=E (.func (.func 103) #[] #[ptr b3])) wG rfl rfl (fun u u' w he k1 k2=>by cases k1;cases k2;rw[← tc];exact a1P L v _ _ (fun S=>has S (b:Int)) w wH (vst (e1.tr he) hv) (fun w' S he'=>a1Q S (b:Int) b3 w' (B3.ext (he.tr he'))) hl)) ?_
 refine en fun a w e' hf=>?_
 obtain⟨e,B3⟩:=up2 e' e B3
 refine tA hf rfl fun a hf=>aa <| ak <| an rfl hf rfl ?_
 rintro _ rfl
 exact⟨_,rfl,e,rfl⟩
def edV (x:Int×Int):Value:=.agg #[.int .i64 x.1,.int .i64 x.2]
theorem Dv.pr2 {G:Nat→Prop}{w:World}{x:Int×Int}{v:Value}:(Dv edE G x).p v w↔v=edV x:=by
 constructor
 ·rintro⟨cs,⟨c,d,h,h1,h2⟩,hv⟩
  cases h1;cases h2;subst h
  exact hv
 ·rintro rfl
  exact⟨_,⟨_,_,rfl,rfl,rfl⟩,rfl⟩
theorem a1R {L:Env}{w0:World}{x:Operand}{G:Nat→Prop}{n:Int×Int}(h:opd L x=some (E (edV n))):Is L w0 x (Dv edE G n):=isE h (Dv.pr2.2 rfl)
theorem kx {P:Program}{w0:World}{L:Env}{dst:Option Tmp}{ty:TypeId}{pos:String}{aft:Array Edge}{g:Option (Nat×Bool)}{t:TypeId}{x:Operand}{G:Nat→Prop}{n:Int×Int}(ht:TI P t true 2)(hx:Is L w0 x (Dv (ptE edE) G (some n))):OpC P w0 L ⟨dst,.load t x,ty,pos,aft,g⟩ (E (edV n)):=(ldD (e:=edE) ht hx).conv fun v w=>Dv.pr2.1
theorem bPr (x:Int×Int):Tryz.prog.built 60 [(0,.int .i64 x.1),(1,.int .i64 x.2)]=some #[.int .i64 x.1,.int .i64 x.2]:=by kernel_rfl
theorem td {G:Nat→Prop}{N:Nat}(g:GT)(v:Value)(W:World)(h:(Dv (ptE (grE N)) G (some g)).p v W)(hs:g.2.Pairwise fun x y=>lt2 x.1 y.1=true)(hl:g.2.length≤100000)(hN:N≤1000000) :
  Calls Tryz.prog 48 #[v] W (Post (OwA edE 60 W.heap.size G0 (g.2.map (·.1))) W):=by
 have hgd:(Dv (ptE (grE N)) G0 (some g)).p v W:=Dv.weak h fun b _ hb=>hb.elim
 refine eN [v] [E v] Tryz.func48 Tryz.ntmps48 ?_ fun a hf=>?_
 rotate_left
 rotate_right
 ·exact arg1 rfl
 have e:=Ext.rfl' W
 refine seq <| ac <| tA hf rfl fun a hf=>aa <| seq <| ac <| tA hf rfl fun a hf=>aa ?_
 have e0:=e
 obtain⟨N1,hN1⟩:=eqX W.heap.size
 have hN1s:N1≤W.heap.size:=Nat.le_of_eq hN1
 have hWN:W.heap.size≤N1:=Nat.le_of_eq hN1.symm
 refine seq <| seq ?_
 refine rgN 4 hf <| st (mv rfl) <| st (aw (A:=OwA etE 62 N1 G0 g.2) pM rfl (fun v w he k=>by cases k;exact (rM (G:=G0) g _ w (vst (e0.tr he) hgd) (fun b hb=>hb.elim) hs hl hN).mono fun en w' ⟨u,k1,k2,k3⟩=>⟨u,k1,k2,OwR.low k3 (Nat.le_trans hN1s he.size) fun b hb=>hb.elim⟩)) ?_
 refine st (aI U61 ⟨_,rfl,fun v w _ h=>OwR.sl h⟩) <| st (mv rfl) <| en fun a w e' hf=>?_
 replace e:=e.tr e'
 refine aa ?_
 obtain⟨ev,HoE,hf⟩:=hf.opn 7 rfl
 replace HoE:OwR etE 62 N1 G0 w g.2 ev:=HoE
 obtain⟨N2,hN2⟩:=eqX w.heap.size
 have lp:∀b,ev.ownBlock=some b→b<N2:=fun b hb=>by rw[hN2];exact (HoE.lt hb).2
 have Ho:OwR edE 60 N2 G0 w [] (.slice none 0 0):=OwR.nil edE _ (Nat.le_of_eq hN2) fun b hb=>hb.elim
 have hWN2:W.heap.size≤N2:=by rw[hN2];exact e.size
 replace hf:=hf.keep [3,7,8,9]
 replace hf:=hf.keep [3,7,8,9]
 refine blk (aK (fun r0 a w=>∃(j:Nat) (u:Value),r0=g.2.length - j∧j≤g.2.length∧Fr 23 a w [(3,E u),(7,E ev),(8,E (I (g.2.length:Nat))),(9,E (I j))]∧Ext W w∧OwR etE 62 N1 G0 w g.2 ev∧OwR edE 60 N2 G0 w ((g.2.take j).map (·.1)) u) g.2.length ⟨0,.slice none 0 0,rfl,by omega,hf,e,⟨HoE,Ho⟩⟩ ?_)
 rintro r0 a w ⟨j,u,rfl,hj,hf,e,HoE,Ho⟩
 refine seq <| rgN 1 hf <| st (lss rfl rfl) <| en fun a w e' hf=>?_
 obtain⟨HoE,Ho,e⟩:=up3 e' HoE Ho e
 refine aa <| seq <| ifc hf rfl (fun hc=>aj ?_) (fun hc=>aH ?_)
 rotate_left
 rotate_left
 ·have hltj:=ltC hc
  replace hf:=hf.keep [3,7,8,9]
  refine seq <| blk ?_
  have hy:=List.getElem?_eq_getElem hltj
  generalize g.2[j]=x at hy
  have hsc:(g.2.take (j+1)).map (·.1)=(g.2.take j).map (·.1)++[x.1]:=by rw[bA hy,List.map_append];rfl
  have hlo:((g.2.take j).map (·.1)).length≤100000:=by rw[List.length_map];exact Nat.le_trans (List.length_take_le' _ _) hl
  generalize (g.2.take j).map (·.1)=out at hsc hlo Ho
  refine seq <| ac <| tP hf (aG U61 S62 (isE rfl (HoE.slN (N:=G0) fun b hb hh=>hh)) rfl (by omega) (hy)) fun a w e' hf=>?_
  obtain⟨e,HoE,Ho⟩:=up3 e' e HoE Ho
  refine tP hf (fN T62 (isR rfl)) fun a w e' hf=>?_
  obtain⟨e,HoE,Ho⟩:=up3 e' e HoE Ho
  refine tL I62 hf fun a b5 w e' hb5 hs5 B5 hf=>?_
  have hle5:=Nat.le_trans e.size (Nat.le_of_eq hb5.symm)
  have ne5_HoE:=HoE.ne_new hb5
  have ne5_Ho:=Ho.ne_new hb5
  obtain⟨e,HoE,Ho⟩:=up3 e' e HoE Ho
  have hr5:=ne5_HoE
  have hu5:=ne5_Ho
  have hW5:W.heap.size≤b5:=hle5
  replace hf:=hf.kp [3,5,7,8,9,12]
  refine aF T62 hf rfl rfl (jM x) B5 rfl rfl fun w hg hsz B5 hf=>?_
  replace e:=e.gr hg (by omega);replace HoE:=HoE.grE hg hr5;replace Ho:=Ho.grE hg hu5;clear hg
  refine aa ?_
  replace hf:=hf.kp [3,5,7,8,9]
  refine rgN 7 hf <| st (mv rfl) <| st (fA U62 rfl T3 rfl) <| st (ld1 T3 rfl B5 rfl) <| st (fA U62 rfl T3 rfl) <| st (ld1 T3 rfl B5 rfl) <| st (bI [(0,_),(1,_)] rfl (bPr x.1)) <| st (aX U31 I60 rfl (by decide) rfl Ho.avs (a1R rfl)) <| en fun a w e' hf=>?_
  obtain⟨HoE,B5,Ho,e⟩:=up4 e' HoE B5 Ho e
  haveI hin:∀G0,InR (GB W G0) _:=OwR.inGB (W:=W) Ho (by omega)
  refine bG U31 I60 rfl rfl hf (by decide) rfl Ho (isR rfl) (by simp only[List.length_singleton];omega) (by simp only[List.length_singleton,maxLen];omega) fun a v w hg hat Hn hf=>?_
  replace e:=e.gro hg (Ho.row (W:=W) (by omega))
  have hrow:=Ho.row (W:=W) (by omega)
  replace HoE:=HoE.groE hg (fun b hb hh=>by have h1:=hrow b hh;have h2:=lp b hb;have h3:=(Ho.lt hh).1;omega)
  replace B5:=B5.gro hg hu5
  replace Ho:=Hn
  replace Ho:=Hn;clear Hn hg hat hin
  refine tA hf rfl fun a hf=>aa ?_
  rw[← hsc] at Ho
  replace hf:=hf.keep [3,7,8,9]
  refine rgN 1 hf <| st ((add rfl rfl (by omega)).eq (iN j)) <| en fun a w e' hf=>?_
  obtain⟨HoE,Ho,e⟩:=up3 e' HoE Ho e
  refine tP hf (mv rfl) fun a w e' hf=>?_
  obtain⟨HoE,Ho,e⟩:=up3 e' HoE Ho e
  refine aa ?_
  replace hf:=hf.keep [3,7,8,9]
  refine⟨_,?_,j+1,_,rfl,by omega,hf,e,?_⟩
  ·omega
  exact⟨HoE,Ho⟩
 ·obtain rfl:=dnE hc hj
  rw[List.take_length] at Ho
  replace hf:=hf.keep [3]
  refine seq <| rgN 1 hf <| st (mv rfl) <| en fun a w e' hf=>?_
  obtain⟨Ho,e⟩:=up2 e' Ho e
  refine tA hf rfl fun a hf=>aa <| ak <| an rfl hf rfl ?_
  rintro _ rfl
  exact⟨_,rfl,e,Ho.low hWN2 fun b hb=>hb.elim⟩
theorem tf {α:Type}{xs ys:List α}{k:Nat}{x y:α}(h:xs.take k=ys.take k)(hx:xs[k]?=some x)(hy:ys[k]?=some y):(xs.take (k+1)=ys.take (k+1))↔x=y:=by
 rw[bA hx,bA hy,h]
 simp
theorem iX {G G':Nat→Prop}(xs ys:List Int)(v u:Value)(W:World)(h:(Dv (slE intE) G xs).p v W)(h':(Dv (slE intE) G' ys).p u W)(hl:xs.length≤100000)(hl':ys.length≤100000) :
  Calls Tryz.prog 16 #[v,u] W (Post (E (B (decide (xs=ys)))) W):=by
 refine eN [v,u] [Dv (slE intE) G0 xs,Dv (slE intE) G0 ys] Tryz.func16 Tryz.ntmps16 ?_ fun a hf=>?_
 rotate_left
 rotate_right
 ·exact arg2 (Dv.weak h fun b _ hb=>hb.elim) (Dv.weak h' fun b _ hb=>hb.elim)
 have e:=Ext.rfl' W
 refine seq <| ac <| tA hf rfl fun a hf=>aa ?_
 refine seq <| seq ?_
 refine rgN 5 hf <| st (mv rfl) <| st (aI U35 (isR rfl)) <| st (mv rfl) <| st (aI U35 (isR rfl)) <| st (neq rfl rfl) <| en fun a w e' hf=>?_
 replace e:=e.tr e'
 refine aa <| ifc hf rfl (fun hb=>?_) (fun hb=>?_)
 ·have hne:xs≠ys:=fun he=>by rw[he] at hb;simp at hb
  refine seq <| ac <| tA hf rfl fun a hf=>aa <| ak <| an rfl hf rfl ?_
  rintro _ rfl
  exact⟨_,rfl,e,congrArg B (decide_eq_false hne).symm⟩
 have hll:xs.length=ys.length:=by simp at hb;omega
 refine aj ?_
 refine seq <| seq ?_
 refine ac <| tA hf rfl fun a hf=>aa ?_
 replace hf:=hf.keep [0,1,5]
 refine blk (aK (fun r0 a w=>∃(k:Nat) ,r0=xs.length - k∧k≤xs.length∧Fr 26 a w [(0,Dv (slE intE) G0 xs),(1,Dv (slE intE) G0 ys),(5,E (I k))]∧Ext W w∧xs.take k=ys.take k) xs.length ⟨0,rfl,by omega,hf,e,rfl⟩ ?_)
 rintro r0 a w ⟨k,rfl,hk,hf,e,ht⟩
 refine seq <| seq ?_
 refine rgN 4 hf <| st (mv rfl) <| st (mv rfl) <| st (aI U35 (isR rfl)) <| st (lss rfl rfl) <| en fun a w e' hf=>?_
 replace e:=e.tr e'
 refine aa <| ifc hf rfl (fun hc=>aj ?_) (fun hc=>aH ?_)
 rotate_left
 rotate_left
 ·have hlt:=ltC hc
  replace hf:=hf.keep [0,1,5]
  refine seq <| blk ?_
  have hx:=cF hlt
  have hy:=cF (show k<ys.length by omega)
  refine seq <| rgG 9 Mix.mix hf <| st (mv rfl) <| st (mv rfl) <| st (aG U35 S3 (isR rfl) rfl (by omega) (hx)) <| st (ldI T3 (isR rfl)) <| st (mv rfl) <| st (mv rfl) <| st (aG U35 S3 (isR rfl) rfl (by omega) (hy)) <| st (ldI T3 (isR rfl)) <| st (neq rfl rfl) <| en fun a w e' hf=>?_
  replace e:=e.tr e'
  refine aa <| ifc hf rfl (fun hb=>?_) (fun hb=>?_)
  ·have hne:xs≠ys:=fun he=>by rw[he] at hb;simp at hb
   refine seq <| ac <| tA hf rfl fun a hf=>aa <| ak <| an rfl hf rfl ?_
   rintro _ rfl
   exact⟨_,rfl,e,congrArg B (decide_eq_false hne).symm⟩
  ·refine aj <| rgN 2 hf <| st (mv rfl) <| st ((add rfl rfl (by omega)).eq (iN k)) <| en fun a w e' hf=>?_
   replace e:=e.tr e'
   refine tA hf rfl fun a hf=>aa ?_
   replace hf:=hf.keep [0,1,5]
   refine⟨_,?_,k+1,rfl,by omega,hf,e,?_⟩
   ·omega
   exact (a0e ht hlt (by omega)).2 (by simpa using hb)
 ·obtain rfl:=dnE hc hk
  have he:xs=ys:=by rw[List.take_length,hll,List.take_length] at ht;exact ht
  refine seq <| ac <| tA hf rfl fun a hf=>aa <| ak <| an rfl hf rfl ?_
  rintro _ rfl
  exact⟨_,rfl,e,congrArg B (decide_eq_true he).symm⟩
theorem np {G G':Nat→Prop}(xs ys:List (List Int))(v u:Value)(W:World)(h:(Dv (slE (slE intE)) G xs).p v W)(h':(Dv (slE (slE intE)) G' ys).p u W)(hl:xs.length≤100000)(hl':ys.length≤100000)(hx1:∀x∈xs,x.length≤100000)(hy1:∀x∈ys,x.length≤100000) :
  Calls Tryz.prog 20 #[v,u] W (Post (E (B (decide (xs=ys)))) W):=by
 refine eN [v,u] [Dv (slE (slE intE)) G0 xs,Dv (slE (slE intE)) G0 ys] Tryz.func20 Tryz.ntmps20 ?_ fun a hf=>?_
 rotate_left
 rotate_right
 ·exact arg2 (Dv.weak h fun b _ hb=>hb.elim) (Dv.weak h' fun b _ hb=>hb.elim)
 have e:=Ext.rfl' W
 refine seq <| ac <| tA hf rfl fun a hf=>aa ?_
 refine seq <| seq ?_
 refine rgN 5 hf <| st (mv rfl) <| st (aI U39 (isR rfl)) <| st (mv rfl) <| st (aI U39 (isR rfl)) <| st (neq rfl rfl) <| en fun a w e' hf=>?_
 replace e:=e.tr e'
 refine aa <| ifc hf rfl (fun hb=>?_) (fun hb=>?_)
 ·have hne:xs≠ys:=fun he=>by rw[he] at hb;simp at hb
  refine seq <| ac <| tA hf rfl fun a hf=>aa <| ak <| an rfl hf rfl ?_
  rintro _ rfl
  exact⟨_,rfl,e,congrArg B (decide_eq_false hne).symm⟩
 have hll:xs.length=ys.length:=by simp at hb;omega
 refine aj ?_
 refine seq <| seq ?_
 refine ac <| tA hf rfl fun a hf=>aa ?_
 replace hf:=hf.keep [0,1,5]
 refine blk (aK (fun r0 a w=>∃(k:Nat) ,r0=xs.length - k∧k≤xs.length∧Fr 27 a w [(0,Dv (slE (slE intE)) G0 xs),(1,Dv (slE (slE intE)) G0 ys),(5,E (I k))]∧Ext W w∧xs.take k=ys.take k) xs.length ⟨0,rfl,by omega,hf,e,rfl⟩ ?_)
 rintro r0 a w ⟨k,rfl,hk,hf,e,ht⟩
 refine seq <| seq ?_
 refine rgN 4 hf <| st (mv rfl) <| st (mv rfl) <| st (aI U39 (isR rfl)) <| st (lss rfl rfl) <| en fun a w e' hf=>?_
 replace e:=e.tr e'
 refine aa <| ifc hf rfl (fun hc=>aj ?_) (fun hc=>aH ?_)
 rotate_left
 rotate_left
 ·have hlt:=ltC hc
  replace hf:=hf.keep [0,1,5]
  refine seq <| blk ?_
  have hx:=List.getElem?_eq_getElem hlt
  have hy:=List.getElem?_eq_getElem (show k<ys.length by omega)
  have hxl:=hx1 _ (List.getElem_mem hlt)
  have hyl:=hy1 _ (List.getElem_mem (show k<ys.length by omega))
  have ha:∀x y,xs[k]?=some x→ys[k]?=some y→((xs.take (k+1)=ys.take (k+1))↔x=y):=fun x y hx hy=>tf ht hx hy
  generalize xs[k]=x at hx hxl
  generalize ys[k]=y at hy hyl
  have ha:=ha x y hx hy
  refine seq <| rgG 10 Mix.mix hf <| st (mv rfl) <| st (mv rfl) <| st (aG U39 S35 (isR rfl) rfl (by omega) (hx)) <| st (ldD T35 (isR rfl)) <| st (mv rfl) <| st (mv rfl) <| st (aG U39 S35 (isR rfl) rfl (by omega) (hy)) <| st (ldD T35 (isR rfl)) <| st (ap (A:=E (B (decide (x=y)))) (B:=Dv (slE intE) G0 x) (C:=Dv (slE intE) G0 y) ix rfl rfl (fun v u w he h h'=>iX x y v u w h h' hxl hyl)) <| st (aZ rfl) <| en fun a w e' hf=>?_
  replace e:=e.tr e'
  refine aa <| ifc hf rfl (fun hb=>?_) (fun hb=>?_)
  ·have hne:xs≠ys:=fun he=>by
    rw[he] at hx
    rw[hx] at hy
    cases hy
    simp at hb
   refine seq <| ac <| tA hf rfl fun a hf=>aa <| ak <| an rfl hf rfl ?_
   rintro _ rfl
   exact⟨_,rfl,e,congrArg B (decide_eq_false hne).symm⟩
  ·refine aj <| rgN 2 hf <| st (mv rfl) <| st ((add rfl rfl (by omega)).eq (iN k)) <| en fun a w e' hf=>?_
   replace e:=e.tr e'
   refine tA hf rfl fun a hf=>aa ?_
   replace hf:=hf.keep [0,1,5]
   refine⟨_,?_,k+1,rfl,by omega,hf,e,?_⟩
   ·omega
   exact ha.2 (by simpa using hb)
 ·obtain rfl:=dnE hc hk
  have he:xs=ys:=by rw[List.take_length,hll,List.take_length] at ht;exact ht
  refine seq <| ac <| tA hf rfl fun a hf=>aa <| ak <| an rfl hf rfl ?_
  rintro _ rfl
  exact⟨_,rfl,e,congrArg B (decide_eq_true he).symm⟩
theorem a1S {P:Program}{t e:TypeId}(ht:P.underlying t=some (.array 2 e))(he:P.underlying e=some (.int .i64))(hs:TI P e false 1)(a b:Int×Int)(w:World):(Op.equal t (edV a) (edV b)).run P w=.ok (decide (a=b)) w:=by
 obtain⟨a1,a2⟩:=a
 obtain⟨b1,b2⟩:=b
 have p0:∀x y w,(part e #[x,y] 0).run P w=.ok x w:=fun x y w=>by simp[part,hs.agg]
 have p1:∀x y w,(part e #[x,y] 1).run P w=.ok y w:=fun x y w=>by simp[part,hs.agg]
 have q:∀x y w,(Op.equalIn 9999 e (I x) (I y)).run P w=.ok (x==y) w:=fun x y w=>run_equalIn_int w 9998 e .i64 .i64 x y he
 show (Op.equalIn 10000 t (.agg #[I a1,I a2]) (.agg #[I b1,I b2])).run P w=_
 rw[Op.equalIn]
 simp only[Sem.run_bind,run_underlying ht,Result.andThen_ok,hs.size]
 rw[Std.Legacy.Range.forIn_eq_forIn_range']
 simp only[Std.Legacy.Range.size,Nat.sub_zero,Nat.add_one_sub_one,Nat.div_one,List.range',List.forIn_cons,List.forIn_nil,Sem.run_bind,Nat.mul_one,p0,p1,q,Result.andThen_ok]
 by_cases h1:a1=b1
 ·by_cases h2:a2=b2
  ·rw[decide_eq_true (by rw[h1,h2])];simp[h1,h2,p0,p1,q]
  ·rw[decide_eq_false (fun h=>h2 (Prod.mk.inj h).2)];simp[h1,h2,p0,p1,q]
 ·rw[decide_eq_false (fun h=>h1 (Prod.mk.inj h).1)];simp[h1]
theorem a1T {P:Program}{w0:World}{L:Env}{dst:Option Tmp}{ty:TypeId}{pos:String}{aft:Array Edge}{g:Option (Nat×Bool)}{t yt e:TypeId}{x y:Operand}{a b:Int×Int}(ht:P.underlying t=some (.array 2 e))(he:P.underlying e=some (.int .i64))(hs:TI P e false 1)(hm:P.eqGuardType P.depth t=false)(hx:opd L x=some (E (edV a)))(hy:opd L y=some (E (edV b))) :
  OpC P w0 L ⟨dst,.binOp .neq t x y yt,ty,pos,aft,g⟩ (E (.bool (!decide (a=b)))):=
 li hx hy (fun w=>oE _ _ _ _ _ _ hm w) rfl fun w _=>a1S ht he hs a b w
theorem a1U {G G':Nat→Prop}(xs ys:List (Int×Int))(v u:Value)(W:World)(h:(Dv (slE edE) G xs).p v W)(h':(Dv (slE edE) G' ys).p u W)(hl:xs.length≤100000)(hl':ys.length≤100000) :
  Calls Tryz.prog 13 #[v,u] W (Post (E (B (decide (xs=ys)))) W):=by
 refine eN [v,u] [Dv (slE edE) G0 xs,Dv (slE edE) G0 ys] Tryz.func13 Tryz.ntmps13 ?_ fun a hf=>?_
 rotate_left
 rotate_right
 ·exact arg2 (Dv.weak h fun b _ hb=>hb.elim) (Dv.weak h' fun b _ hb=>hb.elim)
 have e:=Ext.rfl' W
 refine seq <| ac <| tA hf rfl fun a hf=>aa ?_
 refine seq <| seq ?_
 refine rgN 5 hf <| st (mv rfl) <| st (aI U31 (isR rfl)) <| st (mv rfl) <| st (aI U31 (isR rfl)) <| st (neq rfl rfl) <| en fun a w e' hf=>?_
 replace e:=e.tr e'
 refine aa <| ifc hf rfl (fun hb=>?_) (fun hb=>?_)
 ·have hne:xs≠ys:=fun he=>by rw[he] at hb;simp at hb
  refine seq <| ac <| tA hf rfl fun a hf=>aa <| ak <| an rfl hf rfl ?_
  rintro _ rfl
  exact⟨_,rfl,e,congrArg B (decide_eq_false hne).symm⟩
 have hll:xs.length=ys.length:=by simp at hb;omega
 refine aj ?_
 refine seq <| seq ?_
 refine ac <| tA hf rfl fun a hf=>aa ?_
 replace hf:=hf.keep [0,1,5]
 refine blk (aK (fun r0 a w=>∃(k:Nat) ,r0=xs.length - k∧k≤xs.length∧Fr 26 a w [(0,Dv (slE edE) G0 xs),(1,Dv (slE edE) G0 ys),(5,E (I k))]∧Ext W w∧xs.take k=ys.take k) xs.length ⟨0,rfl,by omega,hf,e,rfl⟩ ?_)
 rintro r0 a w ⟨k,rfl,hk,hf,e,ht⟩
 refine seq <| seq ?_
 refine rgN 4 hf <| st (mv rfl) <| st (mv rfl) <| st (aI U31 (isR rfl)) <| st (lss rfl rfl) <| en fun a w e' hf=>?_
 replace e:=e.tr e'
 refine aa <| ifc hf rfl (fun hc=>aj ?_) (fun hc=>aH ?_)
 rotate_left
 rotate_left
 ·have hlt:=ltC hc
  replace hf:=hf.keep [0,1,5]
  refine seq <| blk ?_
  have hx:=List.getElem?_eq_getElem hlt
  have hy:=List.getElem?_eq_getElem (show k<ys.length by omega)
  have ha:∀x y,xs[k]?=some x→ys[k]?=some y→((xs.take (k+1)=ys.take (k+1))↔x=y):=fun x y hx hy=>tf ht hx hy
  generalize xs[k]=x at hx
  generalize ys[k]=y at hy
  have ha:=ha x y hx hy
  refine seq <| rgG 9 Mix.mix hf <| st (mv rfl) <| st (mv rfl) <| st (aG U31 S60 (isR rfl) rfl (by omega) (hx)) <| st (kx T60 (isR rfl)) <| st (mv rfl) <| st (mv rfl) <| st (aG U31 S60 (isR rfl) rfl (by omega) (hy)) <| st (kx T60 (isR rfl)) <| st (a1T U60 U3 T3 (by kernel_rfl) rfl rfl) <| en fun a w e' hf=>?_
  replace e:=e.tr e'
  refine aa <| ifc hf rfl (fun hb=>?_) (fun hb=>?_)
  ·have hne:xs≠ys:=fun he=>by
    rw[he] at hx
    rw[hx] at hy
    cases hy
    simp at hb
   refine seq <| ac <| tA hf rfl fun a hf=>aa <| ak <| an rfl hf rfl ?_
   rintro _ rfl
   exact⟨_,rfl,e,congrArg B (decide_eq_false hne).symm⟩
  ·refine aj <| rgN 2 hf <| st (mv rfl) <| st ((add rfl rfl (by omega)).eq (iN k)) <| en fun a w e' hf=>?_
   replace e:=e.tr e'
   refine tA hf rfl fun a hf=>aa ?_
   replace hf:=hf.keep [0,1,5]
   refine⟨_,?_,k+1,rfl,by omega,hf,e,?_⟩
   ·omega
   exact ha.2 (by simpa using hb)
 ·obtain rfl:=dnE hc hk
  have he:xs=ys:=by rw[List.take_length,hll,List.take_length] at ht;exact ht
  refine seq <| ac <| tA hf rfl fun a hf=>aa <| ak <| an rfl hf rfl ?_
  rintro _ rfl
  exact⟨_,rfl,e,congrArg B (decide_eq_true he).symm⟩
def frM (g:GT):GT×Bool:=if (decide ((7:Int)<(g.1.length:Nat)) || decide ((10:Int)<(g.2.length:Nat)))=true then (g,false) else if (ofR g.1 g.2).2≠0 then (g,false) else ((ofR g.1 g.2).1,true)
noncomputable def FrM (g:GT):VA:=⟨fun v w=>((frM g).2=true→(Dv (ptE (grE 2000)) G0 (some (frM g).1)).p v w)∧((frM g).2=false→v=.pointer none),fun v w w' e h=>⟨fun hc=>Dv.ex (h.1 hc) e,h.2⟩⟩
theorem a1V {G:Nat→Prop}(g:GT)(v:Value)(W:World)(h:(Dv gtE G g).p v W)(hV:∀x∈g.1,0≤x.2.1∧x.2.1<256)(hE:∀x∈g.2,0≤x.2.1∧x.2.1<256) :
  Calls Tryz.prog 11 #[v] W (Post (Tup [FrM g,Dv gtE G0 (frM g).1]) W):=by
 obtain⟨u1,u2,rfl,h1,h2⟩:=Dv.gt.1 (Dv.weak (G':=G0) h fun b _ hb=>hb.elim)
 have h1b:=Dv.toB h1
 have h2b:=Dv.toB h2
 have hgb:(Dv gtE (GB W G0) g).p (.agg #[u1,u2]) W:=Dv.gt.2 ⟨_,_,rfl,h1b,h2b⟩
 refine eN [.agg #[u1,u2]] [E (.agg #[u1,u2])] Tryz.func11 Tryz.ntmps11 ?_ fun a hf=>?_
 rotate_left
 dsimp only[params,Nat.reduceAdd] at hf
 rotate_right
 ·exact arg1 rfl
 have e:=Ext.rfl' W
 refine seq <| ac <| tB hf rfl fun a b1 w v1 hv1 e' hb1 hs1 B1 hf=>?_
 replace e:=e.tr e'
 refine tA hf rfl fun a hf=>tL I25 hf fun a b3 w e' hb3 hs3 B3 hf=>?_
 obtain⟨e,B1⟩:=up2 e' e B1
 refine aa ?_
 cases hv1
 refine seq <| seq ?_
 refine rgN 10 hf <| st (fA U25 rfl T22 rfl) <| st (ld1 T22 rfl (by assumption) rfl) <| st (aI U22 (isE rfl (vst e h1))) <| st (gtr rfl rfl) <| st (mv rfl) <| sgE rfl rfl (.k 1 rfl .n) (fun hgd=>fA U25 rfl T23 rfl) <| sgE rfl rfl (.c 17 rfl (fun h=>h) .n) (fun hgd=>ld1 T23 rfl (by assumption) rfl) <| sgE rfl rfl (.c 18 rfl (fun h=>h) .n) (fun hgd=>aI U23 (isE rfl (vst e h2))) <| sgE rfl rfl (.c 19 rfl (fun h=>h) .n) (fun hgd=>gtr rfl rfl) <| st (bH rfl rfl (fun h=>by rw[h];rfl)) ?_
 refine en fun a w e' hf=>?_
 obtain⟨e,B1,B3⟩:=up3 e' e B1 B3
 refine aa <| ifc hf rfl (fun hb=>?_) (fun hb=>?_)
 ·have hfw:frM g=(g,false):=by rw[frM,if_pos hb]
  have hc2:(#[u1,u2]:Array Value).all (·.oneCell')=true:=bK (slOne h1) (slOne h2)
  replace hf:=hf.kp [1,2,3]
  refine seq <| cO 3 [0,1] (Chg fun c=>c=b3) (cg.one _) (fun w=>∃cs,Blk w b3 cs 25∧(E (.agg #[u1,u2])).p (.agg cs) w) (fun w w1 k h=>h.imp fun cs h=>⟨h.1.ext k,h.2⟩) Mix.mix hf (by decide +kernel) (by decide +kernel) <| ja ((ldW T25 rfl B1 rfl).eq ((rfl:_=Value.agg #[u1,u2]))) <| jf (fun w1 h1=>asg rfl) <| jx (iF T25 rfl B3 rfl rfl (fun v w hv=>⟨_,hv,rfl,hc2⟩) (fun v w w' hc hv=>hv)) <| je <| fun a w hc HF hf=>?_
  obtain⟨cs,B3,hcs⟩:=HF
  cases hcs
  replace e:=e.ch hc (fun b hb=>by rw[hb];omega)
  refine aa <| ak (mP rfl T25 hf rfl rfl B3 rfl ?_)
  rintro _ rfl
  exact⟨_,rfl,e,by rw[hfw];exact Tup.two ⟨fun h=>(by rw[hfw] at h;cases h),fun _=>rfl⟩ (vst e (Dv.weak h fun b _ hb=>hb.elim))⟩
 have hfw0:¬(decide ((7:Int)<(g.1.length:Nat)) || decide ((10:Int)<(g.2.length:Nat)))=true:=by simpa using hb
 refine aj ?_
 have hvl:g.1.length≤100∧g.2.length≤40:=by
  rw[Bool.or_eq_true,not_or,decide_eq_true_eq,decide_eq_true_eq] at hfw0
  omega
 replace hf:=hf.keep [1,2,3]
 obtain⟨N6,hN6⟩:=eqX w.heap.size
 have l5:b3<N6:=by rw[hN6];exact B3.lt
 have l2:b1<N6:=by rw[hN6];exact B1.lt
 have hN6s:N6≤w.heap.size:=Nat.le_of_eq hN6
 have hofl:=fun (h0:(ofR g.1 g.2).2=0)=>sh h0
 have hofk:=si hV hE
 refine seq <| rgN 8 hf <| st (fA U25 rfl T22 rfl) <| st (ld1 T22 rfl (by assumption) rfl) <| st (fA U25 rfl T23 rfl) <| st (ld1 T23 rfl (by assumption) rfl) <| st (ap (A:=Tup [Dv gtE (fun b=>b<N6) (ofR g.1 g.2).1,E (I (ofR g.1 g.2).2)]) wi rfl rfl (fun v u w he k1 k2=>by cases k1;cases k2;exact a0H g.1 g.2 _ _ w (vst (e.tr he) h1) (vst (e.tr he) h2) (by omega) (by omega) (fun b hb=>Nat.lt_of_lt_of_le hb (Nat.le_trans hN6s he.size)))) ?_
 refine st (mv rfl) <| st (bs rfl rfl) <| st (bs rfl rfl) <| en fun a w e' hf=>?_
 obtain⟨e,B1,B3⟩:=up3 e' e B1 B3
 obtain⟨z,hz,hf⟩:=hf.opn 29 rfl
 obtain⟨N7,hN7⟩:=eqX w.heap.size
 obtain⟨GZ,hGZ⟩:∃GZ:Nat→Prop,GZ=fun b=>b<N6∨N7≤b:=⟨_,rfl⟩
 have hzz:(Dv gtE GZ (ofR g.1 g.2).1).p z w:=by
  rw[hGZ,hN7];exact Dv.toB (Dv.weak hz fun b _ hb=>hb)
 obtain⟨z1,z2,rfl,hz1,hz2⟩:=Dv.gt.1 hzz
 have hzo:(#[z1,z2]:Array Value).all (·.oneCell')=true:=bK (slOne hz1) (slOne hz2)
 have nZ:∀bb,(bb<N6∨N7≤bb)→GZ bb:=fun bb hb=>by rw[hGZ];exact hb
 replace hf:=hf.keep [1,2,3,29,30]
 refine tL I25 hf fun a b4 w e' hb4 hs4 B4 hf=>?_
 have lt4_B3:=B3.lt
 obtain⟨hz1,hz2,e,B1,B3⟩:=up5 e' hz1 hz2 e B1 B3
 have l6:N7≤b4:=by omega
 have l67:b4<w.heap.size:=B4.lt
 replace hf:=hf.kp [1,2,3,4,29,30]
 refine aF T25 hf rfl rfl hzo B4 rfl rfl fun w hg hsz B4 hf=>?_
 replace e:=e.gr hg (by omega);replace B1:=B1.gr hg (by omega);replace B3:=B3.gr hg (by omega);replace hz1:=Dv.grN hz1 hg (fun bb hb=>nZ bb (by cases hb;omega));replace hz2:=Dv.grN hz2 hg (fun bb hb=>nZ bb (by cases hb;omega));clear hg
 refine tA hf rfl fun a hf=>aa ?_
 replace hf:=hf.kp [1,2,3,4,5]
 refine seq <| seq ?_
 refine rgN 2 hf <| st (mv rfl) <| st (neq rfl rfl) <| en fun a w e' hf=>?_
 obtain⟨hz1,hz2,e,B1,B3,B4⟩:=up6 e' hz1 hz2 e B1 B3 B4
 refine aa <| ifc hf rfl (fun hb=>?_) (fun hb=>?_)
 ·have hne:(ofR g.1 g.2).2≠0:=by simpa using hb
  have hfw:frM g=(g,false):=by rw[frM,if_neg hfw0,if_pos hne]
  have hc2:(#[u1,u2]:Array Value).all (·.oneCell')=true:=bK (slOne h1) (slOne h2)
  replace hf:=hf.kp [1,2,3]
  refine seq <| cO 3 [0,1] (Chg fun c=>c=b3) (cg.one _) (fun w=>∃cs,Blk w b3 cs 25∧(E (.agg #[u1,u2])).p (.agg cs) w) (fun w w1 k h=>h.imp fun cs h=>⟨h.1.ext k,h.2⟩) Mix.mix hf (by decide +kernel) (by decide +kernel) <| ja ((ldW T25 rfl B1 rfl).eq ((rfl:_=Value.agg #[u1,u2]))) <| jf (fun w1 h1=>asg rfl) <| jx (iF T25 rfl B3 rfl rfl (fun v w hv=>⟨_,hv,rfl,hc2⟩) (fun v w w' hc hv=>hv)) <| je <| fun a w hc HF hf=>?_
  try dsimp only[push] at hf
  obtain⟨cs,B3,hcs⟩:=HF
  cases hcs
  replace e:=e.ch hc (fun b hb=>by rw[hb];omega)
  refine aa <| ak (mP rfl T25 hf rfl rfl B3 rfl ?_)
  rintro _ rfl
  exact⟨_,rfl,e,by rw[hfw];exact Tup.two ⟨fun h=>(by rw[hfw] at h;cases h),fun _=>rfl⟩ (vst e (Dv.weak h fun b _ hb=>hb.elim))⟩
 have hof0:(ofR g.1 g.2).2=0:=by simpa using hb
 have hfw:frM g=((ofR g.1 g.2).1,true):=by rw[frM,if_neg hfw0,if_neg (by simpa using hof0)]
 have hol:=hofl hof0
 obtain⟨gg,hgg⟩:=eqX ((ofR g.1 g.2).1)
 rw[← hgg] at hz1 hz2 hofk hol hfw
 refine aj ?_
 replace hf:=hf.kp [2,3,4]
 obtain⟨N8,hN8⟩:=eqX w.heap.size
 have h78:N7≤N8:=by have:=B4.lt;omega
 have h68:b4<N8:=by rw[hN8];exact B4.lt
 have h58:b3<N8:=by rw[hN8];exact B3.lt
 have hW8:W.heap.size≤N8:=by rw[hN8];exact e.size
 have hN8s:N8≤w.heap.size:=Nat.le_of_eq hN8
 refine seq <| ac <| tA hf rfl fun a hf=>aa <| seq <| ac <| tA hf rfl fun a hf=>aa ?_
 refine seq <| seq ?_
 refine ac <| tA hf rfl fun a hf=>aa ?_
 replace hf:=hf.kp [2,3,4,6,7,8]
 refine blk (aK (fun r0 a w=>∃(k:Nat) (u:Value),r0=gg.1.length - k∧k≤gg.1.length∧Fr 72 a w [(2,E (.pointer none)),(3,E (.pointer (some ⟨b3,0,none⟩))),(4,E (.pointer (some ⟨b4,0,none⟩))),(6,E u),(7,E (.slice none 0 0)),(8,E (I k))]∧Ext W w∧Blk w b3 #[.slice none 0 0,.slice none 0 0] 25∧Blk w b4 #[z1,z2] 25∧(Dv (slE vtE) GZ gg.1).p z1 w∧(Dv (slE etE) GZ gg.2).p z2 w∧OwR vtE 73 N8 G0 w (gg.1.take k) u) gg.1.length ⟨0,.slice none 0 0,rfl,by omega,hf,e,⟨B3,B4,hz1,hz2,OwR.nil vtE _ hN8s fun b hb=>hb.elim⟩⟩ ?_)
 rintro r0 a w ⟨k,u,rfl,hk,hf,e,B3,B4,hz1,hz2,Ho⟩
 refine seq <| seq ?_
 refine rgN 5 hf <| st (mv rfl) <| st (fA U25 rfl T22 rfl) <| st (ld1 T22 rfl B4 rfl) <| st (aI U22 (isE rfl hz1)) <| st (lss rfl rfl) <| en fun a w e' hf=>?_
 obtain⟨hz1,hz2,e,B3,B4,Ho⟩:=up6 e' hz1 hz2 e B3 B4 Ho
 refine aa <| ifc hf rfl (fun hc=>aj ?_) (fun hc=>aH ?_)
 rotate_left
 rotate_left
 ·have hlt:=ltC hc
  replace hf:=hf.kp [2,3,4,6,7,8]
  refine seq <| blk ?_
  have hg:=List.getElem?_eq_getElem hlt
  generalize gg.1[k]=y at hg
  have hlk:=List.length_take_le k gg.1
  have n1:=Ho.neLt (b:=b4) (by omega)
  have n2:=Ho.neLt (b:=b3) (by omega)
  haveI iu:InR GZ u.ownBlock:=⟨fun b hb=>nZ b (.inr (Nat.le_trans h78 (Ho.lt hb).1))⟩
  refine rgN 7 hf <| st (mv rfl) <| st (fA U25 rfl T22 rfl) <| st (ld1 T22 rfl B4 rfl) <| st (mv rfl) <| st (aG U22 S45 (isE rfl hz1) rfl (by omega) (hg)) <| st (gE T45 (isR rfl)) <| st (aX U66 I73 rfl (by decide) rfl Ho.avs (ff rfl)) <| en fun a w e' hf=>?_
  obtain⟨hz1,hz2,Ho,e,B3,B4⟩:=up6 e' hz1 hz2 Ho e B3 B4
  haveI hin:∀G0,InR (GB W G0) _:=OwR.inGB (W:=W) Ho (by omega)
  refine bG U66 I73 rfl rfl hf (by decide) rfl Ho (isR rfl) (by simp only[List.length_singleton];omega) (by simp only[List.length_singleton,maxLen];omega) fun a v w hg hat Hn hf=>?_
  replace e:=e.gro hg (Ho.row (W:=W) (by omega))
  have hrow:=Ho.row (W:=W) (by omega)
  replace hz1:=Dv.grN hz1 hg (fun bb hb=>nZ bb (.inr (Nat.le_trans h78 (Ho.lt hb).1)))
  replace hz2:=Dv.grN hz2 hg (fun bb hb=>nZ bb (.inr (Nat.le_trans h78 (Ho.lt hb).1)))
  replace Ho:=Hn
  replace B3:=B3.gro hg (by assumption)
  replace B4:=B4.gro hg (by assumption)
  replace Ho:=Hn;clear Hn hg hat hin
  refine tA hf rfl fun a hf=>aa <| rgN 2 hf <| st (mv rfl) <| st ((add rfl rfl (by omega)).eq (iN k)) <| en fun a w e' hf=>?_
  obtain⟨hz1,hz2,Ho,e,B3,B4⟩:=up6 e' hz1 hz2 Ho e B3 B4
  refine tA hf rfl fun a hf=>aa ?_
  replace hf:=hf.keep [2,3,4,6,7,8]
  refine⟨_,?_,k+1,_,rfl,by omega,hf,e,?_⟩
  ·omega
  rw[bA hg]
  exact⟨B3,B4,hz1,hz2,Ho⟩
 ·obtain rfl:=dnE hc hk
  rw[List.take_length] at Ho
  obtain⟨av,nv,cv,rfl⟩:=Dv.slF Ho.sl
  obtain⟨NV,hNV⟩:∃NV:Nat→Prop,NV=fun b=>(Value.slice av nv cv).ownBlock≠some b:=⟨_,rfl⟩
  have HD:(Dv (slE vtE) NV gg.1).p (.slice av nv cv) w:=Ho.slN fun b hb=>by rw[hNV];exact fun h=>h hb
  obtain⟨N5,hN5⟩:=eqX w.heap.size
  have h89:N8≤N5:=by rw[hN5];exact Ho.base
  have nV:∀bb,(bb<N8∨N5≤bb)→NV bb:=fun bb hb=>by rw[hNV];intro h;have h3:=Ho.lt h;omega
  have hN5s:N5≤w.heap.size:=Nat.le_of_eq hN5
  replace hf:=hf.keep [2,3,4,6,7]
  refine seq <| seq ?_
  refine ac <| tA hf rfl fun a hf=>aa ?_
  replace hf:=hf.keep [2,3,4,6,7,9]
  refine blk (aK (fun r0 a w=>∃(k:Nat) (u:Value),r0=gg.2.length - k∧k≤gg.2.length∧Fr 72 a w [(2,E (.pointer none)),(3,E (.pointer (some ⟨b3,0,none⟩))),(4,E (.pointer (some ⟨b4,0,none⟩))),(6,E (.slice av nv cv)),(7,E u),(9,E (I k))]∧Ext W w∧Blk w b3 #[.slice none 0 0,.slice none 0 0] 25∧Blk w b4 #[z1,z2] 25∧(Dv (slE vtE) GZ gg.1).p z1 w∧(Dv (slE etE) GZ gg.2).p z2 w∧(Dv (slE vtE) NV gg.1).p (.slice av nv cv) w∧OwR etE 62 N5 G0 w (gg.2.take k) u∧N5≤w.heap.size) gg.2.length ⟨0,.slice none 0 0,rfl,by omega,hf,e,⟨B3,B4,hz1,hz2,HD,OwR.nil etE _ hN5s fun b hb=>hb.elim,hN5s⟩⟩ ?_)
  rintro r0 a w ⟨k,u,rfl,hk,hf,e,B3,B4,hz1,hz2,HD,Ho,hN5s⟩
  refine seq <| seq ?_
  refine rgN 5 hf <| st (mv rfl) <| st (fA U25 rfl T23 rfl) <| st (ld1 T23 rfl B4 rfl) <| st (aI U23 (isE rfl hz2)) <| st (lss rfl rfl) <| en fun a w e' hf=>?_
  obtain⟨hz1,hz2,HD,hN5s,e,B3,B4,Ho⟩:=up8 e' hz1 hz2 HD hN5s e B3 B4 Ho
  refine aa <| ifc hf rfl (fun hc=>aj ?_) (fun hc=>aH ?_)
  rotate_left
  rotate_left
  ·have hlt:=ltC hc
   replace hf:=hf.kp [2,3,4,6,7,9]
   refine seq <| blk ?_
   have hg:=List.getElem?_eq_getElem hlt
   generalize gg.2[k]=y at hg
   have hlk:=List.length_take_le k gg.2
   have h79:N7≤N5:=Nat.le_trans h78 h89
   have n1:=Ho.neLt (b:=b4) (by omega)
   have n2:=Ho.neLt (b:=b3) (by omega)
   haveI iu:InR GZ u.ownBlock:=⟨fun b hb=>nZ b (.inr (Nat.le_trans h79 (Ho.lt hb).1))⟩
   refine rgN 7 hf <| st (mv rfl) <| st (fA U25 rfl T23 rfl) <| st (ld1 T23 rfl B4 rfl) <| st (mv rfl) <| st (aG U23 S51 (isE rfl hz2) rfl (by omega) (hg)) <| st (fN T51 (isR rfl)) <| st (aX U61 I62 rfl (by decide) rfl Ho.avs (dq rfl)) <| en fun a w e' hf=>?_
   obtain⟨hz1,hz2,HD,hN5s,Ho,e,B3,B4⟩:=up8 e' hz1 hz2 HD hN5s Ho e B3 B4
   haveI hin:∀G0,InR (GB W G0) _:=OwR.inGB (W:=W) Ho (by omega)
   refine bG U61 I62 rfl rfl hf (by decide) rfl Ho (isR rfl) (by simp only[List.length_singleton];omega) (by simp only[List.length_singleton,maxLen];omega) fun a v w hg hat Hn hf=>?_
   replace e:=e.gro hg (Ho.row (W:=W) (by omega))
   have hrow:=Ho.row (W:=W) (by omega)
   replace hz1:=Dv.grN hz1 hg (fun bb hb=>nZ bb (.inr (Nat.le_trans h79 (Ho.lt hb).1)))
   replace hz2:=Dv.grN hz2 hg (fun bb hb=>nZ bb (.inr (Nat.le_trans h79 (Ho.lt hb).1)))
   replace HD:=Dv.grN HD hg (fun bb hb=>nV bb (.inr (Ho.lt hb).1))
   replace hN5s:=Nat.le_trans hN5s hg.size
   replace Ho:=Hn
   replace B3:=B3.gro hg (by assumption)
   replace B4:=B4.gro hg (by assumption)
   replace Ho:=Hn;clear Hn hg hat hin
   refine tA hf rfl fun a hf=>aa <| rgN 2 hf <| st (mv rfl) <| st ((add rfl rfl (by omega)).eq (iN k)) <| en fun a w e' hf=>?_
   obtain⟨hz1,hz2,HD,hN5s,Ho,e,B3,B4⟩:=up8 e' hz1 hz2 HD hN5s Ho e B3 B4
   refine tA hf rfl fun a hf=>aa ?_
   replace hf:=hf.kp [2,3,4,6,7,9]
   refine⟨_,?_,k+1,_,rfl,by omega,hf,e,?_⟩
   ·omega
   rw[bA hg]
   exact⟨B3,B4,hz1,hz2,HD,Ho,hN5s⟩
  ·obtain rfl:=dnE hc hk
   rw[List.take_length] at Ho
   have h65:b4<N5:=by omega
   have h55:b3<N5:=by omega
   have hlg:gg.1.length≤1000∧gg.2.length≤1000:=by omega
   replace hf:=hf.kp [2,3,4,6,7]
   refine seq <| rgN 6 hf <| st (mv rfl) <| st (mv rfl) <| st (ap (A:=Tup [Dv (ptE (grE 2000)) (fun b=>b<N5) (some gg),E (I 0)]) pC rfl rfl (fun v u w he k1 k2=>by cases k1;cases k2;exact a0I gg hofk _ _ w (vst he (Dv.weak HD fun b _ hb=>hb.elim)) (vst he Ho.sl) hlg.1 hlg.2 (fun b hb=>Nat.lt_of_lt_of_le hb (Nat.le_trans hN5s he.size)))) ?_
   refine st (mv rfl) <| st (bs rfl rfl) <| st (bs rfl rfl) <| en fun a w e' hf=>?_
   obtain⟨hz1,hz2,e,B3,B4⟩:=up5 e' hz1 hz2 e B3 B4
   refine tA hf rfl fun a hf=>tA hf rfl fun a hf=>aa ?_
   replace hf:=hf.kp [2,3,4,10]
   haveI ik:InR (fun b=>b<N5) (some b3):=⟨fun b hb=>by cases hb;exact h55⟩
   have hzo:(#[z1,z2]:Array Value).all (·.oneCell')=true:=bK (slOne hz1) (slOne hz2)
   refine seq <| cO 4 [2,0,1] (Chg fun c=>c=b3) (cg.one _) (fun w=>∃cs,Blk w b3 cs 25∧(E (.agg #[z1,z2])).p (.agg cs) w) (fun w w1 k h=>h.imp fun cs h=>⟨h.1.ext k,h.2⟩) Mix.mix hf (by decide +kernel) (by decide +kernel) <| jk (mv rfl) <| ja ((ldW T25 rfl B4 rfl).eq ((rfl:_=Value.agg #[z1,z2]))) <| jf (fun w1 h1=>asg rfl) <| jx (iF T25 rfl B3 rfl rfl (fun v w hv=>⟨_,hv,rfl,hzo⟩) (fun v w w' hc hv=>hv)) <| je <| fun a w hc HF hf=>?_
   try dsimp only[push] at hf
   obtain⟨cs,B3,hcs⟩:=HF
   cases hcs
   replace e:=e.ch hc (fun b hb=>by rw[hb];omega)
   replace hz1:=Dv.ch hz1 hc (fun b hb=>nZ b (.inl (by rw[hb];exact l5)))
   replace hz2:=Dv.ch hz2 hc (fun b hb=>nZ b (.inl (by rw[hb];exact l5)))
   refine aa <| ak (mP rfl T25 hf rfl rfl B3 rfl ?_)
   rintro x hx
   exact⟨_,rfl,e,Tup.two ⟨fun _=>by rw[hfw];exact Dv.weak hx fun b _ hb=>hb.elim,fun h=>by rw[hfw] at h;cases h⟩ (by rw[hfw];exact Dv.gt.2 ⟨_,_,rfl,Dv.weak hz1 fun b _ hb=>hb.elim,Dv.weak hz2 fun b _ hb=>hb.elim⟩)⟩
end Go.Mono
namespace Go.Mono
open Go Go.Proofs Go.RowKit
open Go.WideElems (Fit rd rg pl rd_val elemAt findIdx_arr findIdx_born set_self)
open Go.ChangeMaps (modify_eq_set)
open Go.ChangeMaps (setBlock)
section
variable {P:Program}{α β:Type}{V:KV P α β}{w:World}{b n:Nat}{l:List (α×β)}
theorem a1W {γ:Type}{a:Array γ}{i:Nat}{x:γ}(h:a[i]?=some x):a.setIfInBounds i x=a:=by
 apply Array.ext'
 rw[Array.toList_setIfInBounds]
 exact set_self _ _ _ (by simpa using h)
theorem MpR.slot {t:TypeId}(h:MpR V w b n l)(ht:P.underlying t=some (.map V.k V.e)){x:α}{c:β}(hx:V.ok x)(hm:(x,c)∈l) :
  ∃v0 st:Value,(Instr.mapEntry t (.map (some b)) (V.kv x)).run P w=.ok (.tuple #[v0,st]) w ∧
   ∀w2 val,w2.heap[b]?=w.heap[b]?→(Instr.entryStore t (.map (some b)) st val).run P w2=(Instr.mapUpdate t (.map (some b)) (V.kv x) val).run P w2:=by
 obtain⟨es,⟨arr,clock,hb,F,hs,hD⟩,hp,hok,hpw⟩:=h
 have hkey:=V.key x hx
 obtain⟨s1,s2,s3⟩:=F.stamped
 have hthere:∃e0∈arr.toList,e0.key=V.kv x:=by
  have h1:V.enc (x,c)∈es:=hp.mem_iff.2 (List.mem_map.2 ⟨_,hm,rfl⟩)
  cases hD
  have h2:V.enc (x,c)∈arr.toList.map (rg P V.k V.R):=by
   have key:∀(m:List (Lit×DataW Unit)) (p:Lit×DataW Unit),p∈m.foldr DataW.insert []→p∈m:=by
    intro m
    induction m with
    | nil=>intro p h;exact h
    | cons a m ih=>
     intro p h
     rw[List.foldr_cons] at h
     have:=(iE a (m.foldr DataW.insert [])).mem_iff.1 h
     rcases List.mem_cons.1 this with h|h
     ·rw[h];exact List.mem_cons_self ..
     ·exact List.mem_cons_of_mem _ (ih p h)
   exact key _ _ h1
  obtain⟨e0,he0,hr⟩:=List.mem_map.1 h2
  obtain⟨y,hy⟩:=F.reads e0 he0
  have m1:=Go.WideElems.rd_key hy
  rw[Go.WideElems.rg_of hy] at hr
  have m2:y.1=V.kl x:=by rw[hr];rfl
  rw[m2] at m1
  exact⟨e0,he0,V.K.inj m1 hkey⟩
 rcases V.K.find w hkey arr.toList F.keys with ⟨h1,h2⟩|⟨j,e0,h1,h2,h3⟩
 ·obtain⟨e0,he0,hk⟩:=hthere
  exact absurd hk (h2 e0 he0)
 ·have hj:arr[j]?=some e0:=by simpa using h2
  have hsame:arr.modify j (fun e=>{ e with key:=V.kv x })=arr:=by
   apply Array.ext'
   rw[Array.toList_modify,modify_eq_set _ _ _ _ h2]
   have:({ e0 with key:=V.kv x }:MapEntry)=e0:=by rw[← h3]
   rw[this]
   exact set_self _ _ _ h2
  refine⟨e0.val,goInt e0.born,?_,fun w2 val hw2=>?_⟩
  ·have hset:({ w with heap:=w.heap.setIfInBounds b (.map arr clock) }:World)=w:=by rw[a1W hb]
   simp[Instr.mapEntry,run_underlying ht,MapKept.run_getObj_map hb,V.K.check w false hkey,h1,hj,h3,V.K.stays w hkey,hsame,MapKept.run_setObj_map _ hb,Result.andThen,hset]
  ·have hb2:=hw2.trans hb
   have hidx:arr.findIdx? (fun e=>((e.born:Nat):Int)==((e0.born:Nat):Int))=some j:=by
    rw[findIdx_arr]
    exact findIdx_born s2 h2
   have hmod:arr.modify j (fun e=>{ e with val:=val })=arr.modify j (fun e'=>{ e' with key:=V.kv x,val:=val }):=by
    apply Array.ext'
    rw[Array.toList_modify,Array.toList_modify,modify_eq_set _ _ _ _ h2,modify_eq_set _ _ _ _ h2,← h3]
   have h1':(Instr.findKey V.k (V.kv x) arr.toList).run P w2=.ok (some (j,e0.val)) w2:=by
    rcases V.K.find w2 hkey arr.toList F.keys with ⟨q1,q2⟩|⟨j',e',q1,q2,q3⟩
    ·exact absurd h3 (q2 e0 (List.mem_of_getElem? h2))
    ·have hee:j'=j∧e'=e0:=by
      have hjl:j'<(arr.toList.map (·.key)).length:=by rw[List.length_map];exact (List.getElem?_eq_some_iff.1 q2).1
      have hjj:j'=j:=(List.getElem?_inj hjl s3).1 (by rw[List.getElem?_map,List.getElem?_map,q2,h2];show some e'.key=some e0.key;rw[q3,h3])
      refine⟨hjj,?_⟩
      rw[hjj,h2] at q2
      exact (Option.some.inj q2).symm
     rw[hee.1,hee.2] at q1
     exact q1
   simp[Instr.entryStore,MapKept.run_getObj_map hb2,asInt,asIntOf,goInt,hidx,hmod,MapKept.run_setObj_map _ hb2,Result.andThen]
   simp[Instr.mapUpdate,run_underlying ht,MapKept.run_getObj_map hb2,V.K.check w2 false hkey,h1',hj,h3,V.K.stays w2 hkey,MapKept.run_setObj_map _ hb2,Result.andThen]
def SlA (P:Program)(t b:Nat)(key:Value):VA:=⟨fun st w=>b<w.heap.size∧∀w2 val,w2.heap[b]?=w.heap[b]?→(Instr.entryStore t (.map (some b)) st val).run P w2=(Instr.mapUpdate t (.map (some b)) key val).run P w2,
 fun v w w' e ⟨h1,h2⟩=>⟨Nat.lt_of_lt_of_le h1 e.size,fun w2 val hw=>h2 w2 val (hw.trans (e.block b h1))⟩⟩
theorem MpR.dvE {N:Nat}(h:MpR V w b n l)(hn:n≤N){G:Nat→Prop}(hG:¬G b):(Dv (mpE V N) G l).p (.map (some b)) w:=⟨[.map (some b)],⟨b,n,rfl,hG,hn,h⟩,rfl⟩
end
section ops
variable {P:Program}{w0:World}{L:Env}{dst:Option Tmp}{ty:TypeId}{pos:String}{aft:Array Edge}{g:Option (Nat×Bool)}{x y s:Operand}{t b n:Nat}
variable {α β:Type}{V:KV P α β}{l:List (α×β)}{i:α}{c:β}
theorem enS (ht:P.underlying t=some (.map V.k V.e))(hx:opd L x=some (E (.map (some b))))(hy:opd L y=some (E (V.kv i)))(hM:MpR V w0 b n l)(hi:V.ok i)(hm:(i,c)∈l) :
  OpC P w0 L ⟨dst,.mapEntry t x y,ty,pos,aft,g⟩ (Tup [Any,SlA P t b (V.kv i)]):=
 aS fun ρ w he hv=>by
  have hxv:ρ x=.map (some b):=hv x (by simp[Op.operands]) _ hx
  have hyv:ρ y=V.kv i:=hv y (by simp[Op.operands]) _ hy
  obtain⟨v0,st,h1,h2⟩:=(hM.ext he).slot ht hi hm
  exact⟨.tuple #[v0,st],by simp only[execOp,hxv,hyv,Sem.run_bind,h1,Result.andThen_ok,Sem.run_pure],Tup.two trivial ⟨(hM.ext he).lt,h2⟩⟩
theorem esJ [DecidableEq α](ht:P.underlying t=some (.map V.k V.e))(hx:opd L x=some (E (.map (some b))))(hs:opd L s=some (SlA P t b (V.kv i)))(hy:opd L y=some (E (V.mv c)))(hM:MpR V w0 b n l)(hi:V.ok i)(hc:V.okv c)(hn:n<maxLen) :
  eE P w0 (Chg fun d=>d=b) (fun w'=>MpR V w' b (n+1) (aV l i c)) L ⟨none,.entryStore t x s y,ty,pos,aft,none⟩ Any:=by
 refine⟨fun ρ w he hv=>?_⟩
 have hxv:ρ x=.map (some b):=hv x (by simp[Op.operands]) _ hx
 have hsv:=hv s (by simp[Op.operands]) _ hs
 have hyv:ρ y=V.mv c:=hv y (by simp[Op.operands]) _ hy
 obtain⟨w',h1,h2,h3⟩:=(hM.ext he).put hi hc ht hn
 have h4:=hsv.2 w (V.mv c) rfl
 rw[h1] at h4
 simp only[OpR,execOp,hxv,hyv,Sem.run_bind,h4,Result.andThen_ok,Sem.run_pure]
 exact⟨⟨h3.os,h3.tape,h3.output,h3.size,fun k hk hn=>h3.block k hk fun hh=>hn (by cases hh;rfl)⟩,trivial,h2⟩
end ops
end Go.Mono
namespace Go.Mono
open Go Go.Proofs Go.RowKit Go.Gr

theorem tg (S:BS)(bm:Nat):Tryz.prog.built 79 [(0,ae S),(1,.map (some bm))]=some (adC S (.map (some bm))):=by kernel_rfl
def wiP (l:List (Int×BS))(S:BS)(s:List Nat):List (Int×BS):=s.map fun n:Nat=>((n:Int),lkS l (n:Int) &&& S)
def wiL (l:List (Int×BS))(S:BS):List (Int×BS):=wiP l S (ai S)
theorem tj {α β:Type}[DecidableEq α]{l:List (α×β)}{x:α}{c:β}(hx:∀c,(x,c) ∉ l):(aV l x c).Perm (l++[(x,c)]):=by
 have hf:l.filter (fun p => !decide (p.1=x))=l:=by
  rw[List.filter_eq_self]
  intro p hp
  have:p.1≠x:=fun e=>hx p.2 (by rw[← e];exact hp)
  simp[this]
 rw[aV,hf]
 exact List.perm_append_comm (l₁:=[(x,c)])
theorem a1X {l:List (Int×BS)}{S:BS}{s:List Nat}{x:Nat}(hx:x ∉ s):(aV (wiP l S s) (x:Int) (lkS l (x:Int) &&& S)).Perm (wiP l S (s++[x])):=by
 refine (tj fun c hc=>?_).trans (by rw[wiP,wiP,List.map_append];exact List.Perm.refl _)
 obtain⟨n,hn,he⟩:=List.mem_map.1 hc
 have:n=x:=by have:=congrArg Prod.fst he;simp only at this;omega
 exact hx (by rw[← this];exact hn)
theorem ky (f:Nat→BS):∀(s:List Nat) (x:Nat),lkS (s.map fun n:Nat=>((n:Int),f n)) (x:Int)=if x∈s then f x else 0
 | [],x=>by simp[lkS]
 | n::s,x=>by
  have ih:=ky f s x
  rw[lkS] at ih
  rw[List.map_cons,lkS,List.find?_cons]
  by_cases h:n=x
  ·subst h;simp
  ·have h1:((n:Int)=(x:Int))=False:=by simp;omega
   have h2:(x∈n::s)=(x∈s):=by simp[Ne.symm h]
   simp only[h1,decide_false,h2]
   exact ih
theorem a1Y (f:Nat→BS)(s:List Nat){i:Int}(hi:i<0):lkS (s.map fun n:Nat=>((n:Int),f n)) i=0:=by
 refine rz fun c hc=>?_
 obtain⟨n,_,he⟩:=List.mem_map.1 hc
 have:=congrArg Prod.fst he
 simp only at this;omega
def cj (nb:Int→BS)(S:BS):Int→BS:=fun i=>if has S i=true then nb i &&& S else 0
theorem nq (l:List (Int×BS))(S:BS):lkS (wiL l S)=cj (lkS l) S:=by
 funext i
 rw[cj]
 by_cases hi:i<0
 ·have h0:has S i=false:=by
   cases h:has S i with
   | false=>rfl
   | true=>
    have:=h
    unfold has at this
    simp[cV] at this
    omega
  rw[wiL,wiP,a1Y _ _ hi,h0];rfl
 ·obtain⟨n,rfl⟩:∃n:Nat,i=n:=⟨i.toNat,by omega⟩
  rw[wiL,wiP,ky (fun n=>lkS l (n:Int) &&& S)]
  by_cases h:S.getLsbD n=true
  ·rw[if_pos (aD.2 ⟨aA h,h⟩),if_pos ((dR S n).2 h)]
  ·rw[if_neg fun hh=>h (aD.1 hh).2,if_neg fun hh=>h ((dR S n).1 hh)]
structure WiJ (W:World)(N0:Nat)(l:List (Int×BS))(S0 S:BS)(mq:Value)(b2 b4 b5 bm:Nat)(c4:Array Value)(s:List Nat)(w:World):Prop where
 e:Ext W w
 t:Tab w
 hv:(Dv (mpE sKV N0) (GB W G0) l).p mq w
 p2:Blk w b2 (adC S0 mq) 79
 p4:Blk w b4 c4 79
 p5:Blk w b5 (adC S (.map (some bm))) 79
 m:MpR sKV w bm s.length (wiP l S s)
theorem WiJ.kp {W:World}{N0:Nat}{l:List (Int×BS)}{S0 S:BS}{mq:Value}{b2 b4 b5 bm:Nat}{c4:Array Value}{s:List Nat}{B:Nat}{w w':World}(h:WiJ W N0 l S0 S mq b2 b4 b5 bm c4 s w)(k:Kp B w w')(hW:W.heap.size≤B)(h0:0<B)(l2:b2<B)(l4:b4<B)(l5:b5<B)(lm:bm<B):WiJ W N0 l S0 S mq b2 b4 b5 bm c4 s w':=
 have no:∀{b},b<B→¬aW B b:=fun h hh=>by have:=hh.1;omega
 ⟨h.e.kp k hW,h.t.kp k h0,Dv.ch h.hv k.chg (fun b hb=>.inr (by have:=hb.1;omega)),h.p2.kp k (no l2),h.p4.kp k (no l4),h.p5.kp k (no l5),h.m.pres (k.same bm h.m.lt (no lm))⟩
theorem ns {G:Nat→Prop}{N0:Nat}(l:List (Int×BS))(S0 C:BS)(mq:Value)(W:World)(hT:Tab W)(h:(Dv (mpE sKV N0) G l).p mq W) :
  Calls Tryz.prog 58 #[.agg (adC S0 mq),ae C] W (Post (cw (wiL l (S0 &&& C)) (S0 &&& C) 1024) W):=by
 have HV:(Dv (mpE sKV N0) (GB W G0) l).p mq W:=Dv.toB (Dv.weak h fun b _ hb=>hb.elim)
 obtain⟨S,hS⟩:=eqX (S0 &&& C)
 rw[← hS]
 have hT0:=hT.lt
 refine dx (args:=[.agg (adC S0 mq),ae C]) (As:=[E (.agg (adC S0 mq)),E (ae C)]) Tryz.func58 rfl Tryz.ntmps58 (Nat.le_of_ble_eq_true rfl) ?_ (fun a hf=>?_) (Nat.le_of_ble_eq_true rfl)
 ·exact arg2 rfl rfl
 have e:=Ext.rfl' W
 refine seq <| ac <| tB hf rfl fun a b2 w v2 hv2 e' hb2 hs2 B2 hf=>?_
 obtain⟨hT,HV,e⟩:=up3 e' hT HV e
 refine tB hf rfl fun a b3 w v3 hv3 e' hb3 hs3 B3 hf=>?_
 obtain⟨hT,HV,e,B2⟩:=up4 e' hT HV e B2
 refine tL I79 hf fun a b4 w e' hb4 hs4 B4 hf=>?_
 obtain⟨hT,HV,e,B2,B3⟩:=up5 e' hT HV e B2 B3
 refine aa ?_
 cases hv2
 cases hv3
 replace B2:Blk w b2 (adC S0 mq) 79:=B2
 replace B3:Blk w b3 (aJ C) 76:=B3
 have n234:b2≠b3∧b2≠b4∧b3≠b4∧W.heap.size≤b2∧W.heap.size≤b3∧W.heap.size≤b4:=by omega
 replace hf:=hf.kp [2,3,4]
 refine seq <| rgN 4 hf <| st (fA U79 rfl T76 rfl) <| st ((ldP T76 rfl B2 (by rw[aM];decide)).eq (congrArg Value.agg (bW S0 mq))) ?_
 refine st ((ldW T76 rfl B3 rfl).eq ((rfl:_=ae C))) <| st (ap (A:=E (ae S)) (B:=E (ae S0)) (C:=E (ae C)) dZ rfl rfl (fun v u w he h h'=>by cases h;cases h';rw[hS];exact iC S0 C w)) ?_
 refine en fun a w e' hf=>?_
 obtain⟨hT,HV,e,B2,B3,B4⟩:=up6 e' hT HV e B2 B3 B4
 refine eK sKV hf (by decide) fun a bm w e' hbm hsm HM hf=>?_
 have lb2:=B2.lt
 have lb4:=B4.lt
 have hle:=e.size
 have nm:b2<bm∧b4<bm∧W.heap.size≤bm:=by omega
 replace e:=e.tr e';replace hT:=hT.ext e';replace HV:=Dv.ex HV e';replace B2:=B2.ext e';replace B4:=B4.ext e'
 have hNm:bm+1≤w.heap.size:=HM.lt
 refine tP hf (bI [(0,_),(1,_)] rfl (tg S bm)) fun a w e' hf=>?_
 obtain⟨hT,HV,HM,hNm,e,B2,B4⟩:=up7 e' hT HV HM hNm e B2 B4
 refine tL I79 hf fun a b5 w e' hb5 hs5 B5 hf=>?_
 obtain⟨hT,HV,HM,hNm,e,B2,B4⟩:=up7 e' hT HV HM hNm e B2 B4
 have n5:b2≠b5∧b4≠b5∧b5≠bm∧W.heap.size≤b5:=by have:=B2.lt;have:=B4.lt;omega
 refine aF T79 hf rfl rfl (ct _ _) B5 rfl (aM _ _) fun w hg hsz B5 hf=>?_
 replace e:=e.gr hg (by omega);replace hT:=hT.gr hg (by omega);replace HV:=Dv.gr HV hg (.inr (by omega));replace B2:=B2.gr hg (by omega);replace B4:=B4.gr hg (by omega);replace HM:=HM.gr hg (fun h=>by cases h;omega);clear hg hNm
 refine aa ?_
 replace hf:=hf.keep [2,4,5]
 obtain⟨Nz,hNz⟩:=eqX w.heap.size
 refine seq <| seq ?_
 refine rgN 3 hf <| st (fA U79 rfl T76 rfl) <| st ((ldP T76 rfl B5 (by rw[aM];decide)).eq (congrArg Value.agg (bW S (.map (some bm))))) ?_
 refine st (aw (A:=dh Nz S) dr rfl (fun v w' he h=>by cases h;exact Calls.mono (du _ w') (fun en w2 ⟨u,h1,h2,b',h3,h4,h5⟩=>⟨u,h1,h2,b',by have:=he.size;omega,h4,h5⟩))) ?_
 refine en fun a w e' hf=>?_
 obtain⟨hT,HV,HM,e,B2,B4,B5⟩:=up7 e' hT HV HM e B2 B4 B5
 refine aa ?_
 obtain⟨v15,⟨b15,h15,rfl,BS⟩,hf⟩:=hf.fix 15 rfl
 replace hf:=hf.kp [2,4,5,15]
 obtain⟨c4,hc4,hB4⟩:∃c4:Array Value,c4.size=17∧Blk w b4 c4 79:=⟨_,by rfl,B4⟩
 have hBW:W.heap.size≤w.heap.size:=e.size
 have h0w:0<w.heap.size:=hT.lt
 have l2:=B2.lt
 have l4:=hB4.lt
 have l5:=B5.lt
 have lm:=HM.lt
 refine blk <| dz (S:=S) hf rfl BS (by decide) (fun s w1=>WiJ W N0 l S0 S mq b2 b4 b5 bm c4 s w1) (fun _ _=>False) (fun s w1 h=>h.t)
  ⟨e,hT,HV,B2,hB4,B5,HM⟩ (fun s w1 w2 h hs k=>h.kp k hBW h0w l2 l4 l5 lm) (fun _ _ _ h=>h.elim) ?_ ?_ (fun _ _ _ _ _ _ h=>h.elim)
 ·intro lp s x rest a1 w1 hs hJ hlw hf
  have hx1024:x<1024:=(aD.1 (by rw[hs];simp)).1
  have hxs:x ∉ s:=by
   have hn:(ai S).Nodup:=List.Nodup.sublist List.filter_sublist List.nodup_range
   rw[hs] at hn
   intro hx
   exact (List.nodup_append.1 hn).2.2 x hx x (by simp) rfl
  have hsl:s.length≤1024:=by have:=fq S;rw[hs] at this;simp at this;omega
  generalize hBz:w.heap.size=Bz at *
  refine ac <| tA hf rfl fun a hf=>aa <| ⟨Kh.rfl' _ _,fun w3 k3 hsz3=>?_⟩
  have hJ3:=hJ.kp k3 hBW h0w l2 l4 l5 lm
  replace hf:=hf.pure w3
  obtain⟨e,hT,HV,B2,B4,B5,HM⟩:=hJ3
  have kh:=Kh.rfl' Bz w3
  replace hf:=hf.kp [2,4,5,6]
  refine blk ?_
  have hwx:(Lit.int .i64 (x:Int)).wf=true:=bP (by omega) (by omega)
  refine rgG 10 Mix.mix hf <| st (fA U79 rfl T77 rfl) <| st (ld1 (v:=.map (some bm)) T77 rfl B5 (bN _ _)) <| st (mv rfl) <| st (fA U79 rfl T77 rfl) <| st (ld1 (v:=mq) T77 rfl B2 (bN _ _)) <| st (mv rfl) <| st (lkM (l:=l) (i:=(x:Int)) U77 bZ (isE rfl HV) rfl hwx) <| st (fA U79 rfl T76 rfl) <| st ((ldP T76 rfl B5 (by rw[aM];decide)).eq (congrArg Value.agg (bW S (.map (some bm))))) ?_
  refine st (ap (A:=E (ae (lkS l (x:Int) &&& S))) (B:=E (ae (lkS l (x:Int)))) (C:=E (ae S)) dZ rfl rfl (fun v u w he h h'=>by cases h;cases h';exact iC _ S w)) ?_
  refine en fun a w e' hf=>?_
  obtain⟨hT,HV,HM⟩:=up3 e' hT HV HM
  replace kh:=kh.tr (Kh.ext e')
  obtain⟨e,B2,B4,B5⟩:=up4 e' e B2 B4 B5
  refine dP (V:=sKV) (i:=(x:Int)) (c:=lkS l (x:Int) &&& S) U77 hf rfl rfl rfl HM (by simp only[maxLen];omega) hwx trivial fun w hg HM hf=>?_
  obtain⟨e,hT,HV,B2,B4,B5⟩:=gr6 hg e hT HV B2 B4 B5
  replace kh:=kh.tr (Kh.gr hg (fun hh=>by have:=hh.1;omega))
  refine aa ?_
  simp only[Exit.inBlock]
  exact⟨⟨e,hT,HV,B2,B4,B5,by rw[List.length_append];exact HM.perm (a1X hxs)⟩,kh⟩
 ·intro a' w' hf' hJ hsz hDn
  simp only[Exit.inBlock,↓reduceIte,Exit.then]
  have hD:Ds [w.heap.size] w':=(Ds.nil w').cons hDn (by simp)
  have hf:FrD 28 (bS [w.heap.size]) a' w' [(2,E (ptr b2)),(4,E (ptr b4)),(5,E (ptr b5))]:=hf'.keep [2,4,5]
  have hDW:∀d∈[w.heap.size],W.heap.size≤d:=fun d hd=>by rw[List.mem_singleton] at hd;omega
  have hbD:¬bm∈[w.heap.size]:=fun h=>by rw[List.mem_singleton] at h;omega
  have hb4D:¬b4∈[w.heap.size]:=fun h=>by rw[List.mem_singleton] at h;omega
  obtain⟨e,hT,HV,B2,B4,B5,HM⟩:=hJ
  generalize [w.heap.size]=D2 at *
  generalize w'=w at *
  refine seq <| rgN 1 hf <| st (ldW T79 rfl B5 (aM _ _)) <| en fun a w e' hf=>?_
  obtain⟨HM,e,B4,B5,hD⟩:=up5 e' HM e B4 B5 hD
  refine aF T79 hf rfl rfl (ct _ _) B4 hc4 (aM _ _) fun w hg hsz B4 hf=>?_
  replace e:=e.gr hg (by omega)
  replace hD:=hD.gr hg hb4D
  replace HM:=HM.gr hg (fun h=>by cases h;omega)
  refine aa <| ak <| me rfl T79 hf rfl B4 (aM _ _) hD ⟨_,rfl,e.shut hDW,.map (some bm),rfl,?_⟩
  exact MpR.dvE (HM.pres (fU D2 w bm hbD)) (fq S) fun h=>h

theorem a1Z {α β:Type}[DecidableEq α]{l:List (α×β)}{x:α}{c:β}(hx:∀c,(x,c) ∉ l):(aV l x c).Perm (l++[(x,c)]):=by
 have hf:l.filter (fun p => !decide (p.1=x))=l:=by
  rw[List.filter_eq_self]
  intro p hp
  have:p.1≠x:=fun e=>hx p.2 (by rw[← e];exact hp)
  simp[this]
 rw[aV,hf]
 exact List.perm_append_comm (l₁:=[(x,c)])
theorem RgR.okn {P:Program}{α β:Type}[DecidableEq α]{V:KV P α β}{w:World}{b r n:Nat}{old rest:List (α×β)}(h:RgR V w b r n old rest):(∀p∈old++rest,V.ok p.1∧V.okv p.2)∧(old++rest).Pairwise fun p q=>p.1≠q.1:=by
 obtain⟨es,left,cnt,h1,h2,h3,h4,h5⟩:=h
 exact⟨h3,h4⟩
theorem a2a {α β:Type}{old rest:List (α×β)}(h:(old++rest).Pairwise fun p q=>p.1≠q.1){x:α}{c:β}(hm:(x,c)∈rest):∀c',(x,c') ∉ old:=fun c' hc'=>(List.pairwise_append.1 h).2.2 _ hc' _ hm rfl
theorem a2b {α β:Type}{old rest l:List (α×β)}(hp:(old++rest).Perm l){x:α×β}(hm:x∈rest):old.length+1≤l.length:=by
 have h1:=hp.length_eq;have h2:0<rest.length:=List.length_pos_of_mem hm
 rw[List.length_append] at h1;omega
theorem GrR.gr {w w':World}{bg bv be n b:Nat}{g:GT}(h:GrR w bg bv be n g)(hg:w.grownBy w' (some b))(h1:bg≠b)(h2:bv≠b)(h3:be≠b):GrR w' bg bv be n g:=
 ⟨h.blk.gr hg h1,h.vs.gr hg (fun h=>h2 (by cases h;rfl)),h.es.gr hg (fun h=>h3 (by cases h;rfl)),h.ne⟩
theorem a2c {α β:Type}[DecidableEq α]{rest:List (α×β)}{x:α}{c:β}(hm:(x,c)∈rest):(rest.filter fun p => !decide (p.1=x)).length<rest.length:=by
 rw[← List.countP_eq_length_filter]
 refine Nat.lt_of_le_of_ne List.countP_le_length fun h=>?_
 have:=List.countP_eq_length.1 h _ hm
 simp at this

theorem tk (l:List (Int×BS))(x:Int)(c:BS)(i:Int):lkS (aV l x c) i=if i=x then c else lkS l i:=by
 rw[lkS,aV,List.find?_cons]
 by_cases h:x=i
 ·subst h;simp
 ·have h1:decide ((x,c).1=i)=false:=by simp[h]
  rw[h1,if_neg (Ne.symm h),lkS]
  congr 2
  induction l with
  | nil=>rfl
  | cons p l ih=>
   rw[List.filter_cons]
   by_cases hp:p.1=x
   ·have h2:decide (p.1=i)=false:=by rw[hp];simp[h]
    rw[if_neg (by simp[hp]),List.find?_cons,h2];exact ih
   ·rw[if_pos (by simp[hp]),List.find?_cons,List.find?_cons]
    cases decide (p.1=i) <;> simp[ih]
theorem a2d (l:List (Int×BS)){u v:Nat}(huv:u≠v):lkS (aV (aV l (u:Int) (del (lkS l (u:Int)) (v:Int))) (v:Int) (del (lkS l (v:Int)) (u:Int)))=wo (lkS l) u v:=by
 funext i
 rw[tk,tk,wo]
 by_cases h1:i=(u:Int)
 ·rw[if_neg (by omega),if_pos h1,if_pos h1,h1]
 ·by_cases h2:i=(v:Int)
  ·rw[if_pos h2,if_neg h1,if_pos h2,h2]
  ·rw[if_neg h2,if_neg h1,if_neg h1,if_neg h2]
def WoA (nb:Int→BS)(S:BS)(N:Nat):VA:=⟨fun v w=>∃l,lkS l=nb∧(cw l S N).p v w,fun v w w' e ⟨l,h1,h2⟩=>⟨l,h1,(cw l S N).st v w w' e h2⟩⟩
theorem tl {G:Nat→Prop}{N0:Nat}(l:List (Int×BS))(S0:BS)(u v:Nat)(mq:Value)(W:World)(hT:Tab W)(h:(Dv (mpE sKV N0) G l).p mq W)(hN:N0≤100000)(hu:u<1024)(hv:v<1024)(huv:u≠v)(hmu:((u:Int),lkS l (u:Int))∈l) :
  Calls Tryz.prog 51 #[.agg (adC S0 mq),I (u:Nat),I (v:Nat)] W (Post (WoA (wo (lkS l) u v) S0 (N0+2)) W):=by
 obtain⟨cs,⟨b0,n0,rfl,hG0,hn0,HM0⟩,hmq⟩:=(Dv.toB (Dv.weak h fun b _ hb=>hb.elim):(Dv (mpE sKV N0) (GB W G0) l).p mq W)
 replace hmq:mq=.map (some b0):=hmq
 subst hmq
 have hb0:b0<W.heap.size:=Nat.lt_of_not_le fun h=>hG0 (.inr h)
 have hll:l.length≤N0:=Nat.le_trans HM0.size_le hn0
 have hwu:(Lit.int .i64 (u:Int)).wf=true:=bP (by omega) (by omega)
 have hwv:(Lit.int .i64 (v:Int)).wf=true:=bP (by omega) (by omega)
 have hwo:=a2d l huv
 obtain⟨au,hau⟩:=eqX (del (lkS l (u:Int)) (v:Int))
 obtain⟨av,hav⟩:=eqX (del (lkS l (v:Int)) (u:Int))
 rw[← hau,← hav] at hwo
 have hT0:=hT.lt
 refine eN [.agg (adC S0 (.map (some b0))),I (u:Nat),I (v:Nat)] [E (.agg (adC S0 (.map (some b0)))),E (I (u:Nat)),E (I (v:Nat))] Tryz.func51 Tryz.ntmps51 ?_ fun a hf=>?_
 rotate_left
 dsimp only[params,Nat.reduceAdd] at hf
 rotate_right
 ·exact eI rfl rfl rfl
 have e:=Ext.rfl' W
 refine seq <| ac <| tB hf rfl fun a b3 w v3 hv3 e' hb3 hs3 B3 hf=>?_
 obtain⟨hT,HM0,e⟩:=up3 e' hT HM0 e
 refine tL I79 hf fun a b6 w e' hb6 hs6 B6 hf=>?_
 obtain⟨hT,HM0,e,B3⟩:=up4 e' hT HM0 e B3
 refine aa ?_
 cases hv3
 replace B3:Blk w b3 (adC S0 (.map (some b0))) 79:=B3
 have n36:b3≠b6∧W.heap.size≤b3∧W.heap.size≤b6:=by omega
 replace hf:=hf.kp [1,2,3,6]
 refine seq <| rgN 2 hf <| st (fA U79 rfl T76 rfl) <| st ((ldP T76 rfl B3 (by rw[aM];decide)).eq (congrArg Value.agg (bW S0 (.map (some b0))))) ?_
 refine en fun a w e' hf=>?_
 obtain⟨hT,HM0,e,B3,B6⟩:=up5 e' hT HM0 e B3 B6
 refine eK sKV hf (by decide) fun a bm w e' hbm hsm HM hf=>?_
 have lb3:=B3.lt
 have lb6:=B6.lt
 have hle:=e.size
 have nm:b3<bm∧b6<bm∧W.heap.size≤bm:=by omega
 replace e:=e.tr e';replace hT:=hT.ext e';replace HM0:=HM0.ext e';replace B3:=B3.ext e';replace B6:=B6.ext e'
 have hNm:bm+1≤w.heap.size:=HM.lt
 refine tP hf (bI [(0,_),(1,_)] rfl (tg S0 bm)) fun a w e' hf=>?_
 obtain⟨hT,HM0,HM,hNm,e,B3,B6⟩:=up7 e' hT HM0 HM hNm e B3 B6
 refine tL I79 hf fun a b7 w e' hb7 hs7 B7 hf=>?_
 obtain⟨hT,HM0,HM,hNm,e,B3,B6⟩:=up7 e' hT HM0 HM hNm e B3 B6
 have n7:b3≠b7∧b6≠b7∧b7≠bm∧W.heap.size≤b7∧bm<b7:=by have:=B3.lt;have:=B6.lt;omega
 refine aF T79 hf rfl rfl (ct _ _) B7 rfl (aM _ _) fun w hg hsz B7 hf=>?_
 replace e:=e.gr hg (by omega);replace hT:=hT.gr hg (by omega);replace HM0:=HM0.gr hg (fun h=>by cases h;omega);replace B3:=B3.gr hg (by omega);replace B6:=B6.gr hg (by omega);replace HM:=HM.gr hg (fun h=>by cases h;omega);clear hg hNm
 refine aa ?_
 replace hf:=hf.keep [1,2,3,6,7]
 refine seq <| seq ?_
 refine rgN 2 hf <| st (fA U79 rfl T77 rfl) <| st (ld1 (v:=.map (some b0)) T77 rfl B3 (bN _ _)) <| en fun a w e' hf=>?_
 obtain⟨hT,HM0,HM,e,B3,B6,B7⟩:=up7 e' hT HM0 HM e B3 B6 B7
 replace hf:=hf.keep [1,2,6,7,15]
 have l7w:=B7.lt
 refine mw (V:=sKV) U77 hf (by decide) rfl HM0 fun a r w e' hr hsr HR hf=>?_
 have hr7:b7<r:=by omega
 have hrW:W.heap.size≤r:=by omega
 have hNr:r+1≤w.heap.size:=by omega
 replace e:=e.tr e';replace hT:=hT.ext e';replace B6:=B6.ext e';replace B7:=B7.ext e';replace HM:=HM.ext e'
 refine aa ?_
 replace hf:=hf.keep [1,2,6,7,16]
 obtain⟨c6,hc6,hB6⟩:∃c6:Array Value,c6.size=17∧Blk w b6 c6 79:=⟨_,by rfl,B6⟩
 have B6:=hB6
 refine cut (J:=fun a w=>Fr 47 a w [(1,E (I (u:Nat))),(2,E (I (v:Nat))),(6,E (ptr b6)),(7,E (ptr b7))]∧Ext W w∧Tab w∧Blk w b6 c6 79∧Blk w b7 (adC S0 (.map (some bm))) 79∧MpR sKV w bm l.length l) ?_ (fun a w hJ=>?_)
 ·refine blk (aK (fun r0 a w=>∃(old rest:List (Int×BS)),r0=rest.length∧Fr 47 a w [(1,E (I (u:Nat))),(2,E (I (v:Nat))),(6,E (ptr b6)),(7,E (ptr b7)),(16,E (ptr r))]∧Ext W w∧Tab w∧Blk w b6 c6 79∧Blk w b7 (adC S0 (.map (some bm))) 79∧RgR sKV w b0 r n0 old rest∧MpR sKV w bm old.length old∧r+1≤w.heap.size∧(old++rest).Perm l) l.length ⟨[],l,rfl,hf,e,hT,B6,B7,HR,HM,hNr,List.Perm.refl _⟩ ?_)
  rintro r0 a w ⟨old,rest,rfl,hf,e,hT,B6,B7,HR,HM,hNr,hp⟩
  obtain⟨hok,hpw⟩:=HR.okn
  refine seq <| ac <| my hf (by decide) rfl HR (fun a hrest hf=>?_) (fun a w' x c hm hg HR hen hf=>?_)
  ·refine dy hf (by decide) rfl rfl fun a hf=>aa <| seq <| ifF hf rfl ?_
   refine aH ?_
   simp only[Exit.then,Exit.inBlock,↓reduceIte]
   subst hrest
   rw[List.append_nil] at hp
   replace HM:=(HM.perm hp).mono (Nat.le_of_eq hp.length_eq)
   replace hf:=hf.keep [1,2,6,7]
   exact⟨trivial,hf,e,hT,B6,B7,HM⟩
  ·have hxc:=hok (x,c) (List.mem_append_right _ hm)
   have hno:=a2a hpw hm
   have hlen:=a2b hp hm
   have hmr:=a2c hm
   have hp':(old++[(x,c)]++rest.filter fun p => !decide (p.1=x)).Perm l:=by
    rw[List.append_assoc];exact (List.Perm.append_left old (fY (List.pairwise_append.1 hpw).2.1 hm).symm).trans hp
   replace e:=e.gr hg hrW;replace hT:=hT.gr hg (by omega);replace B6:=B6.gr hg (by omega);replace B7:=B7.gr hg (by omega);replace HM:=HM.gr hg (fun h=>by cases h;omega);replace hNr:=Nat.le_trans hNr hg.size;clear hg
   refine dy hf (by decide) rfl rfl fun a hf=>aa <| seq <| ifT hf rfl ?_
   refine aj <| blk <| seq <| ac <| mz hf (by decide) rfl hen fun a hf=>?_
   replace hf:=hf.kp [1,2,6,7,16,19]
   refine dy hf (by decide) rfl rfl fun a hf=>dy hf (by decide) rfl rfl fun a hf=>tL I76 hf fun a b9 w e' hb9 hs9 B9 hf=>?_
   obtain⟨hT,HM,HR,hNr,e,B6,B7⟩:=up7 e' hT HM HR hNr e B6 B7
   refine tA hf rfl fun a hf=>?_
   replace HR:RgR sKV w b0 r n0 (old++[(x,c)]) (rest.filter fun p => !decide (p.1=x)):=HR
   have h9:r<b9:=by omega
   refine aF T76 hf rfl rfl (bk _) B9 rfl (bc _) fun w hg hsz B9 hf=>?_
   replace e:=e.gr hg (by omega);replace hT:=hT.gr hg (by omega);replace B6:=B6.gr hg (by omega);replace B7:=B7.gr hg (by omega);replace HR:=HR.gr hg (fun h=>by cases h;omega) (fun h=>by cases h;omega);replace HM:=HM.gr hg (fun h=>by cases h;omega);replace hNr:=Nat.le_trans hNr hg.size;clear hg
   refine aa ?_
   replace hf:=hf.kp [1,2,6,7,8,9,16]
   refine rgN 4 hf <| st (fA U79 rfl T77 rfl) <| st (ld1 (v:=.map (some bm)) T77 rfl B7 (bN _ _)) <| st (mv rfl) <| st ((ldW T76 rfl B9 rfl).eq ((rfl:_=ae c))) <| en fun a w e' hf=>?_
   obtain⟨hT,HM,HR,hNr,e,B6,B7,B9⟩:=up8 e' hT HM HR hNr e B6 B7 B9
   refine dP (V:=sKV) (i:=x) (c:=c) U77 hf rfl rfl rfl HM (by simp only[maxLen];omega) hxc.1 trivial fun w hg HM hf=>?_
   replace e:=e.gr hg (by omega);replace hT:=hT.gr hg (by omega);replace B6:=B6.gr hg (by omega);replace B7:=B7.gr hg (by omega);replace HR:=HR.gr hg (fun h=>by cases h;omega) (fun h=>by cases h;omega);replace hNr:=Nat.le_trans hNr hg.size;clear hg
   refine aa ?_
   replace hf:=hf.keep [1,2,6,7,16]
   exact⟨_,hmr,old++[(x,c)],_,rfl,hf,e,hT,B6,B7,HR,by rw[List.length_append];exact HM.perm (a1Z hno),hNr,hp'⟩
 obtain⟨hf,e,hT,B6,B7,HM⟩:=hJ
 have hlm:l.length<maxLen:=by simp only[maxLen];omega
 have hlm1:l.length+1<maxLen:=by simp only[maxLen];omega
 have hd:=HM.dvE (N:=l.length) (Nat.le_refl _) (G:=G0) (fun h=>h)
 refine seq <| cO 21 [0,0,0,1,1,1,0,0,0,0,0,0,0,0,0,0,0,2,0,0] (Chg fun c=>c=bm) (cg.one _) (fun w=>MpR sKV w bm (l.length+1) (aV l (u:Int) au)) (fun w w1 k h=>h.ext k) Mix.mix hf (by decide +kernel) (by decide +kernel) <| ja (fA U79 rfl T77 rfl) <| ja (ld1 (v:=.map (some bm)) T77 rfl B7 (bN _ _)) <| ja (mv rfl) <| jf (fun w1 h1=>fA U79 rfl T77 rfl) <| jf (fun w1 h1=>ld1 (v:=.map (some bm)) T77 rfl (B7.ch h1 (fun h=>by omega)) (bN _ _)) <| jf (fun w1 h1=>mv rfl) <| ja (fA U79 rfl T77 rfl) <| ja (ld1 (v:=.map (some bm)) T77 rfl B7 (bN _ _)) <| ja (mv rfl) <| ja (lkM (l:=l) (i:=(u:Int)) U77 bZ (isE rfl hd) rfl hwu) <| ja (mv rfl) <| ja (ap (A:=E (ae au)) (B:=E (ae (lkS l (u:Int)))) (C:=E (I (v:Nat))) gG rfl rfl (fun v u w he h h'=>by cases h;cases h';rw[hau];exact gJ _ _ w)) ?_
 refine ja (fA U79 rfl T77 rfl) <| ja (ld1 (v:=.map (some bm)) T77 rfl B7 (bN _ _)) <| ja (mv rfl) <| ja (lkM (l:=l) (i:=(v:Int)) U77 bZ (isE rfl hd) rfl hwv) <| ja (mv rfl) <| jk (ap (A:=E (ae av)) (B:=E (ae (lkS l (v:Int)))) (C:=E (I (u:Nat))) gG rfl rfl (fun v u w he h h'=>by cases h;cases h';rw[hav];exact gJ _ _ w)) ?_
 refine ja (enS (V:=sKV) (i:=(u:Int)) (c:=lkS l (u:Int)) U77 rfl rfl HM hwu hmu) <| ja (bs rfl rfl) <| jx (esJ (V:=sKV) (i:=(u:Int)) (c:=au) U77 rfl rfl rfl HM hwu trivial hlm) <| je <| fun a w hc HF hf=>?_
 try dsimp only[push] at hf
 replace e:=e.ch hc (fun b hb=>by omega)
 replace B6:=B6.ch hc (fun h=>by omega)
 replace B7:=B7.ch hc (fun h=>by omega)
 have HM:=HF
 refine dP (V:=sKV) (i:=(v:Int)) (c:=av) U77 hf rfl rfl rfl HM hlm1 hwv trivial fun w hg HM hf=>?_
 obtain⟨e,B6,B7⟩:=gr3 hg e B6 B7
 refine aa ?_
 replace hf:=hf.kp [6,7]
 refine seq <| rgN 1 hf <| st (ldW T79 rfl B7 (aM _ _)) <| en fun a w e' hf=>?_
 obtain⟨HM,e,B6,B7⟩:=up4 e' HM e B6 B7
 refine aF T79 hf rfl rfl (ct _ _) B6 hc6 (aM _ _) fun w hg hsz B6 hf=>?_
 replace e:=e.gr hg (by omega)
 replace HM:=HM.gr hg (fun h=>by cases h;omega)
 refine aa <| ak <| dX rfl T79 hf rfl B6 (aM _ _) <| ⟨_,rfl,e,_,hwo,.map (some bm),rfl,MpR.dvE HM (by omega) fun h=>h⟩
def toI (e:Nat×Nat):Int×Int:=((e.1:Int),(e.2:Int))
theorem tm (L:List BS)(b:Nat):bO L b≤L.length:=by
 rw[← tc,ku]
 rcases iU (fun i=>has (gs L i) (b:Int)) L.length with ⟨h1,_⟩|⟨k,hk,h1,_⟩ <;> omega
def gst (nb:Int→BS)(best:Int)(e:Nat×Nat):Int:=if bO (lvB (wo nb e.1 e.2) e.1) e.2 ≠ -1∧(best=0∨bO (lvB (wo nb e.1 e.2) e.1) e.2+1<best) then bO (lvB (wo nb e.1 e.2) e.1) e.2+1 else best
theorem tn (nb:Int→BS)(es:List (Nat×Nat))(e:Nat×Nat):ci nb (es++[e])=gst nb (ci nb es) e:=by
 rw[ci,List.foldl_append,List.foldl_cons,List.foldl_nil,ci,gst]
theorem a2e {G G2:Nat→Prop}{N0:Nat}(l:List (Int×BS))(S0:BS)(es:List (Nat×Nat))(mq ev:Value)(W:World)(hT:Tab W)(h:(Dv (mpE sKV N0) G l).p mq W)(hN:N0≤100000)(hel:es.length≤100000)(h':(Dv (slE edE) G2 (es.map toI)).p ev W)
  (hes:∀e∈es,e.1<1024∧e.2<1024∧e.1≠e.2∧((e.1:Int),lkS l (e.1:Int))∈l) :
  Calls Tryz.prog 84 #[.agg (adC S0 mq),ev] W (Post (E (I (ci (lkS l) es))) W):=by
 have HV:(Dv (mpE sKV N0) G0 l).p mq W:=Dv.weak h fun b _ hb=>hb.elim
 have HE:(Dv (slE edE) G0 (es.map toI)).p ev W:=Dv.weak h' fun b _ hb=>hb.elim
 have hT0:=hT.lt
 obtain⟨nb,hnb⟩:=eqX (lkS l)
 rw[← hnb]
 refine eN [.agg (adC S0 mq),ev] [E (.agg (adC S0 mq)),E ev] Tryz.func84 Tryz.ntmps84 ?_ fun a hf=>?_
 rotate_left
 rotate_right
 ·exact arg2 rfl rfl
 have e:=Ext.rfl' W
 refine seq <| ac <| tB hf rfl fun a b2 w v2 hv2 e' hb2 hs2 B2 hf=>?_
 obtain⟨hT,e⟩:=up2 e' hT e
 refine tA hf rfl fun a hf=>aa ?_
 cases hv2
 replace B2:Blk w b2 (adC S0 mq) 79:=B2
 have n2:W.heap.size≤b2:=by omega
 refine seq <| ac <| tA hf rfl fun a hf=>aa ?_
 replace hf:=hf.keep [1,2,5]
 obtain⟨Ls,hLs⟩:=eqX (es.map toI)
 have hLl:Ls.length=es.length:=by rw[hLs,List.length_map]
 rw[← hLs] at HE
 refine seq <| seq ?_
 refine rgN 3 hf <| st (mv rfl) <| st (aI U31 (isE rfl (vst e HE))) <| st (mv rfl) <| en fun a w e' hf=>?_
 obtain⟨hT,e,B2⟩:=up3 e' hT e B2
 refine aa ?_
 replace hf:=hf.keep [2,5,9,10,11]
 refine blk (aK (fun r0 a w=>∃(j:Nat) ,r0=Ls.length - j∧j≤Ls.length∧Fr 43 a w [(2,E (ptr b2)),(5,E (I (ci nb (es.take j)))),(9,E ev),(10,E (I (Ls.length:Nat))),(11,E (I j))]∧Ext W w∧Tab w∧Blk w b2 (adC S0 mq) 79) Ls.length ⟨0,rfl,by omega,hf,e,⟨hT,B2⟩⟩ ?_)
 rintro r0 a w ⟨j,rfl,hj,hf,e,hT,B2⟩
 refine seq <| rgN 1 hf <| st (lss rfl rfl) <| en fun a w e' hf=>?_
 obtain⟨hT,e,B2⟩:=up3 e' hT e B2
 refine aa <| seq <| ifc hf rfl (fun hc=>aj ?_) (fun hc=>aH ?_)
 rotate_left
 rotate_left
 ·have hltj:=ltC hc
  replace hf:=hf.keep [2,5,9,10,11]
  refine seq <| blk ?_
  have hjp:j<es.length:=by omega
  have hy:=List.getElem?_eq_getElem hjp
  generalize es[j]=x at hy
  have hy':Ls[j]?=some (toI x):=by rw[hLs,List.getElem?_map,hy];rfl
  have hsc:ci nb (es.take (j+1))=gst nb (ci nb (es.take j)) x:=by rw[bA hy,tn]
  generalize ci nb (es.take j)=best at hsc hf
  obtain⟨x1,x2,x3,x4⟩:=hes x (List.mem_of_getElem? hy)
  obtain⟨u,v⟩:=x
  replace x1:u<1024:=x1
  replace x2:v<1024:=x2
  replace x3:u≠v:=x3
  replace x4:((u:Int),lkS l (u:Int))∈l:=x4
  replace hy':Ls[j]?=some ((u:Int),(v:Int)):=hy'
  rw[gst] at hsc
  obtain⟨d,hd⟩:=eqX (bO (lvB (wo nb u v) u) v)
  rw[← hd] at hsc
  have hd1 : -1≤d:=by rw[hd];exact kt _ _
  have hd2:d≤1025:=by rw[hd];have h1:=tm (lvB (wo nb u v) u) v;have h2:=eR (wo nb u v) u;omega
  refine seq <| ac <| tP hf (aG U31 S60 (isE rfl (vst e HE)) rfl (by omega) (hy')) fun a w e' hf=>?_
  obtain⟨hT,e,B2⟩:=up3 e' hT e B2
  refine tP hf (kx T60 (isR rfl)) fun a w e' hf=>?_
  obtain⟨hT,e,B2⟩:=up3 e' hT e B2
  refine tL I60 hf fun a b7 w e' hb7 hs7 B7 hf=>?_
  have lt7_B2:=B2.lt
  obtain⟨hT,e,B2⟩:=up3 e' hT e B2
  have n7:b2≠b7∧W.heap.size≤b7:=by have:=B2.lt;omega
  replace hf:=hf.kp [2,5,7,9,10,11,14]
  refine aF T60 hf rfl rfl (bK rfl rfl) B7 rfl rfl fun w hg hsz B7 hf=>?_
  obtain⟨e,hT,B2⟩:=gr3 hg e hT B2
  refine aa ?_
  replace B7:Blk w b7 #[I (u:Nat),I (v:Nat)] 60:=B7
  replace hf:=hf.kp [2,5,7,9,10,11]
  have e5:=e
  refine seq <| rgG 12 Mix.mix hf <| st (ldW T79 rfl B2 (aM _ _)) <| st (bU U60 ⟨_,T3⟩ rfl rfl (by omega)) <| st (ld1 T3 rfl B7 rfl) <| st (bU U60 ⟨_,T3⟩ rfl rfl (by omega)) <| st (ld1 T3 rfl B7 rfl) <| st (cE (A:=WoA (wo nb u v) S0 (N0+2)) (B:=E (.agg (adC S0 mq))) (C:=E (I (u:Nat))) (D:=E (I (v:Nat))) pE rfl rfl rfl (fun a b c w he k1 k2 k3=>by cases k1;cases k2;cases k3;rw[hnb];exact tl l S0 u v mq w (hT.ext he) (vst (e5.tr he) HV) hN x1 x2 x3 x4)) ?_
  refine st (bU U60 ⟨_,T3⟩ rfl rfl (by omega)) <| st (ld1 T3 rfl B7 rfl) <| st (ap (A:=Dv (slE aP) G0 (lvB (wo nb u v) u)) (B:=WoA (wo nb u v) S0 (N0+2)) (C:=E (I (u:Nat))) fO rfl rfl (fun a b w he ⟨l2,k1,mq2,k2,k3⟩ k4=>by subst k2;cases k4;rw[← k1];exact (gj l2 S0 mq2 u w (hT.ext he) k3 x1).mono fun en w' ⟨z,q1,q2,q3⟩=>⟨z,q1,q2,OwR.sl q3⟩)) ?_
  refine st (bU U60 ⟨_,T3⟩ rfl rfl (by omega)) <| st (ld1 T3 rfl B7 rfl) <| st (ap (A:=E (I d)) (B:=Dv (slE aP) G0 (lvB (wo nb u v) u)) (C:=E (I (v:Nat))) jz rfl rfl (fun a b w he k1 k2=>by cases k2;rw[hd];exact kw _ v a w k1 (Nat.le_trans (eR _ _) (by decide)))) ?_
  refine en fun a w e' hf=>?_
  obtain⟨hT,e,B2,B7⟩:=up4 e' hT e B2 B7
  refine tA hf rfl fun a hf=>aa ?_
  replace hf:=hf.keep [2,5,8,9,10,11]
  by_cases c1:d = -1
  ·rw[if_neg (fun h=>h.1 c1)] at hsc
   refine seq <| rgN 12 hf <| st (mv rfl) <| st ((neq rfl rfl).eq (congrArg Value.bool (show (d != -1)=false by simp[c1]))) <| st (mv rfl) <| sn rfl rfl rfl <| sn rfl rfl rfl <| sn rfl rfl rfl <| su rfl rfl <| su rfl rfl <| su rfl rfl <| su rfl rfl <| sn rfl rfl rfl <| st (pkF rfl rfl) <| en fun a w e' hf=>?_
   obtain⟨hT,e,B2⟩:=up3 e' hT e B2
   refine aa <| ifF hf rfl ?_
   refine aj ?_
   rw[← hsc] at hf
   refine rgN 1 hf <| st ((add rfl rfl (by omega)).eq (iN j)) <| en fun a w e' hf=>?_
   obtain⟨hT,e,B2⟩:=up3 e' hT e B2
   refine tP hf (mv rfl) fun a w e' hf=>?_
   obtain⟨hT,e,B2⟩:=up3 e' hT e B2
   refine aa ?_
   replace hf:=hf.keep [2,5,9,10,11]
   refine⟨_,?_,j+1,rfl,by omega,hf,e,?_⟩
   ·omega
   exact⟨hT,B2⟩
  ·have c1':(d != -1)=true:=by simp[c1]
   by_cases c2:best=0
   ·rw[if_pos ⟨c1,.inl c2⟩] at hsc
    refine seq <| rgN 12 hf <| st (mv rfl) <| st ((neq rfl rfl).eq (congrArg Value.bool (c1'))) <| st (mv rfl) <| sy rfl rfl (mv rfl) <| sy rfl rfl ((eql rfl rfl).eq (congrArg Value.bool (show (best==0)=true by simp[c2]))) <| sy rfl rfl (mv rfl) <| sn rfl rfl rfl <| sn rfl rfl rfl <| sn rfl rfl rfl <| sn rfl rfl rfl <| sy rfl rfl (pkT rfl rfl) <| st (pkT rfl rfl) <| en fun a w e' hf=>?_
    obtain⟨hT,e,B2⟩:=up3 e' hT e B2
    refine aa <| ifT hf rfl ?_
    refine rgN 2 hf <| st (mv rfl) <| st (add rfl rfl (by omega)) <| en fun a w e' hf=>?_
    obtain⟨hT,e,B2⟩:=up3 e' hT e B2
    refine tA hf rfl fun a hf=>aa ?_
    rw[← hsc] at hf
    refine rgN 1 hf <| st ((add rfl rfl (by omega)).eq (iN j)) <| en fun a w e' hf=>?_
    obtain⟨hT,e,B2⟩:=up3 e' hT e B2
    refine tP hf (mv rfl) fun a w e' hf=>?_
    obtain⟨hT,e,B2⟩:=up3 e' hT e B2
    refine aa ?_
    replace hf:=hf.keep [2,5,9,10,11]
    refine⟨_,?_,j+1,rfl,by omega,hf,e,?_⟩
    ·omega
    exact⟨hT,B2⟩
   ·have c2':(best==0)=false:=by simp[c2]
    by_cases c3:d+1<best
    ·rw[if_pos ⟨c1,.inr c3⟩] at hsc
     refine seq <| rgN 12 hf <| st (mv rfl) <| st ((neq rfl rfl).eq (congrArg Value.bool (c1'))) <| st (mv rfl) <| sy rfl rfl (mv rfl) <| sy rfl rfl ((eql rfl rfl).eq (congrArg Value.bool (c2'))) <| sy rfl rfl (mv rfl) <| sy rfl rfl (mv rfl) <| sy rfl rfl (add rfl rfl (by omega)) <| sy rfl rfl (mv rfl) <| sy rfl rfl ((lss rfl rfl).eq (congrArg Value.bool (decide_eq_true c3))) <| sy rfl rfl (pkF rfl rfl) <| st (pkT rfl rfl) <| en fun a w e' hf=>?_
     obtain⟨hT,e,B2⟩:=up3 e' hT e B2
     refine aa <| ifT hf rfl ?_
     refine rgN 2 hf <| st (mv rfl) <| st (add rfl rfl (by omega)) <| en fun a w e' hf=>?_
     obtain⟨hT,e,B2⟩:=up3 e' hT e B2
     refine tA hf rfl fun a hf=>aa ?_
     rw[← hsc] at hf
     refine rgN 1 hf <| st ((add rfl rfl (by omega)).eq (iN j)) <| en fun a w e' hf=>?_
     obtain⟨hT,e,B2⟩:=up3 e' hT e B2
     refine tP hf (mv rfl) fun a w e' hf=>?_
     obtain⟨hT,e,B2⟩:=up3 e' hT e B2
     refine aa ?_
     replace hf:=hf.keep [2,5,9,10,11]
     refine⟨_,?_,j+1,rfl,by omega,hf,e,?_⟩
     ·omega
     exact⟨hT,B2⟩
    ·rw[if_neg (fun h=>h.2.elim c2 c3)] at hsc
     refine seq <| rgN 12 hf <| st (mv rfl) <| st ((neq rfl rfl).eq (congrArg Value.bool (c1'))) <| st (mv rfl) <| sy rfl rfl (mv rfl) <| sy rfl rfl ((eql rfl rfl).eq (congrArg Value.bool (c2'))) <| sy rfl rfl (mv rfl) <| sy rfl rfl (mv rfl) <| sy rfl rfl (add rfl rfl (by omega)) <| sy rfl rfl (mv rfl) <| sy rfl rfl ((lss rfl rfl).eq (congrArg Value.bool (decide_eq_false c3))) <| sy rfl rfl (pkF rfl rfl) <| st (pkT rfl rfl) <| en fun a w e' hf=>?_
     obtain⟨hT,e,B2⟩:=up3 e' hT e B2
     refine aa <| ifF hf rfl ?_
     refine aj ?_
     rw[← hsc] at hf
     refine rgN 1 hf <| st ((add rfl rfl (by omega)).eq (iN j)) <| en fun a w e' hf=>?_
     obtain⟨hT,e,B2⟩:=up3 e' hT e B2
     refine tP hf (mv rfl) fun a w e' hf=>?_
     obtain⟨hT,e,B2⟩:=up3 e' hT e B2
     refine aa ?_
     replace hf:=hf.keep [2,5,9,10,11]
     refine⟨_,?_,j+1,rfl,by omega,hf,e,?_⟩
     ·omega
     exact⟨hT,B2⟩
 ·obtain rfl:=dnE hc hj
  rw[hLl,List.take_length] at hf
  replace hf:=hf.keep [5]
  refine seq <| rgN 1 hf <| st (mv rfl) <| en fun a w e' hf=>?_
  obtain⟨hT,e,B2⟩:=up3 e' hT e B2
  refine tA hf rfl fun a hf=>aa <| ak <| an rfl hf rfl ?_
  rintro _ rfl
  exact⟨_,rfl,e,rfl⟩
theorem kz {P:Program}{w0:World}{L:Env}{dst:Option Tmp}{ty:TypeId}{pos:String}{aft:Array Edge}{g:Option (Nat×Bool)}{x:Operand}{t yt te:TypeId}{ao:Option Addr}{n c:Nat}(ht:P.underlying t=some (.slice te))(hx:opd L x=some (E (.slice ao n c))) :
  OpC P w0 L ⟨dst,.binOp .neq t x (.const (.slice none 0 0)) yt,ty,pos,aft,g⟩ (E (.bool !ao.isNone)):=
 li hx rfl (fun _=>rfl) rfl fun w _=>run_equal_slice_nil w t te ao n c ht
theorem nt {α:Type}{e:Enc α}{G:Nat→Prop}{xs:List α}{v:Value}{w:World}(h:(Dv (slE e) G xs).p v w)(hx:xs≠[]):∃ad n c,v=.slice (some ad) n c:=by
 rcases Dv.sl.1 h with ⟨_,h0⟩|⟨ad,cap,cs,h1,_⟩
 ·exact absurd h0 hx
 ·exact⟨ad,_,cap,h1⟩
def ixI (l:List Int)(x:Int):Int:=cA (fun i=>x==gi l i) l.length
theorem a2f (l:List Int)(x:Int):decide (0≤ixI l x)=decide (x∈l):=by
 rw[ixI]
 rcases iU (fun i=>x==gi l i) l.length with ⟨h1,h2⟩|⟨k,hk,h1,h2,_⟩
 ·rw[h1,decide_eq_false (by omega),decide_eq_false]
  intro hm
  obtain⟨i,hi,he⟩:=List.getElem_of_mem hm
  have:=h2 i hi
  have hg:=cF hi
  rw[List.getElem?_eq_getElem hi,he] at hg
  rw[← Option.some.inj hg] at this
  simp at this
 ·rw[h1,decide_eq_true (by omega),decide_eq_true]
  have h3:x=gi l k:=by simpa using h2
  rw[h3]
  exact List.mem_of_getElem? (cF hk)
theorem a2g {G:Nat→Prop}(l:List Int)(x:Int)(v:Value)(W:World)(h:(Dv (slE intE) G l).p v W)(hl:l.length≤100000):Calls Tryz.prog 147 #[v,I x] W (Post (E (I (ixI l x))) W):=by
 refine eN [v,I x] [Dv (slE intE) G l,E (I x)] Tryz.func147 Tryz.ntmps147 ?_ fun a hf=>?_
 rotate_left
 rotate_right
 ·exact arg2 h rfl
 have e:=Ext.rfl' W
 refine seq <| ac <| tA hf rfl fun a hf=>aa ?_
 refine seq <| seq ?_
 refine rgN 3 hf <| st (mv rfl) <| st (aI U35 (isR rfl)) <| st (mv rfl) <| en fun a w e' hf=>?_
 replace e:=e.tr e'
 refine aa ?_
 replace hf:=hf.keep [0,1,7,8]
 refine blk (aK (fun r0 a w=>∃(k:Nat) ,r0=l.length - k∧k≤l.length∧Fr 19 a w [(0,Dv (slE intE) G l),(1,E (I x)),(7,E (I (l.length:Nat))),(8,E (I k))]∧Ext W w∧∀i,i<k→(x==gi l i)=false) l.length ⟨0,rfl,by omega,hf,e,(fun i hi=>by omega)⟩ ?_)
 rintro r0 a w ⟨k,rfl,hk,hf,e,Ho⟩
 refine seq <| rgN 1 hf <| st (lss rfl rfl) <| en fun a w e' hf=>?_
 replace e:=e.tr e'
 refine aa <| seq <| ifc hf rfl (fun hc=>aj ?_) (fun hc=>aH ?_)
 rotate_left
 rotate_left
 ·have hlt:=ltC hc
  replace hf:=hf.keep [0,1,7,8]
  refine seq <| blk <| seq <| rgN 1 hf <| st (mv rfl) <| en fun a w e' hf=>?_
  replace e:=e.tr e'
  refine tA hf rfl fun a hf=>aa <| seq <| rgN 6 hf <| st (mv rfl) <| st (mv rfl) <| st (mv rfl) <| st (aG U35 S3 (isR rfl) rfl (by omega) (cF hlt)) <| st (ldI T3 (isR rfl)) <| st (eql rfl rfl) <| en fun a w e' hf=>?_
  replace e:=e.tr e'
  refine aa <| ifc hf rfl (fun hb=>?_) (fun hb=>?_)
  ·refine seq <| rgN 1 hf <| st (mv rfl) <| en fun a w e' hf=>?_
   replace e:=e.tr e'
   refine tA hf rfl fun a hf=>aa <| ak <| an rfl hf rfl ?_
   rintro _ rfl
   exact⟨_,rfl,e,congrArg I (fR hlt Ho hb).symm⟩
  ·refine aj <| rgN 1 hf <| st ((add rfl rfl (by omega)).eq (iN k)) <| en fun a w e' hf=>?_
   replace e:=e.tr e'
   refine tP hf (mv rfl) fun a w e' hf=>?_
   replace e:=e.tr e'
   refine aa ?_
   replace hf:=hf.keep [0,1,7,8]
   refine⟨_,?_,k+1,rfl,by omega,hf,e,?_⟩
   ·omega
   intro i hi
   by_cases hk:i=k
   ·subst hk;exact hb
   ·exact Ho i (by omega)
 ·obtain rfl:=dnE hc hk
  refine seq <| ac <| tA hf rfl fun a hf=>aa <| ak <| an rfl hf rfl ?_
  rintro _ rfl
  exact⟨_,rfl,e,congrArg I (fm Ho).symm⟩
theorem nu {G:Nat→Prop}(l:List Int)(x:Int)(v:Value)(W:World)(h:(Dv (slE intE) G l).p v W)(hl:l.length≤100000):Calls Tryz.prog 121 #[v,I x] W (Post (E (B (decide (x∈l)))) W):=by
 have hv:(Dv (slE intE) G0 l).p v W:=Dv.weak h fun b _ hb=>hb.elim
 refine eN [v,I x] [E v,E (I x)] Tryz.func121 Tryz.ntmps121 ?_ fun a hf=>?_
 rotate_left
 rotate_right
 ·exact arg2 rfl rfl
 have e:=Ext.rfl' W
 refine seq <| ac <| tA hf rfl fun a hf=>aa <| seq <| rgN 4 hf <| st (mv rfl) <| st (mv rfl) <| st (ap (A:=E (I (ixI l x))) (B:=E v) (C:=E (I x)) wU rfl rfl (fun u u' w he k1 k2=>by cases k1;cases k2;exact a2g l x v w (vst he hv) hl)) ?_
 refine st ((geq rfl rfl).eq (congrArg Value.bool (a2f l x))) <| en fun a w e' hf=>?_
 replace e:=e.tr e'
 refine tA hf rfl fun a hf=>aa <| ak <| an rfl hf rfl ?_
 rintro _ rfl
 exact⟨_,rfl,e,rfl⟩
theorem tq {G:Nat→Prop}(l:List Int)(v:Value)(W:World)(h:(Dv (slE intE) G l).p v W)(hl:l.length≤100000)(hne:l≠[]):Calls Tryz.prog 64 #[v] W (Post (OwA intE 3 W.heap.size G0 l) W):=by
 have HL:(Dv (slE intE) (GB W G0) l).p v W:=Dv.toB (Dv.weak h fun b _ hb=>hb.elim)
 obtain⟨ad,n,c,rfl⟩:=nt h hne
 have hG:∀b,G0 b→b<W.heap.size:=fun b hb=>hb.elim
 refine eN [.slice (some ad) n c] [E (.slice (some ad) n c)] Tryz.func64 Tryz.ntmps64 ?_ fun a hf=>?_
 rotate_left
 dsimp only[params,Nat.reduceAdd] at hf
 rotate_right
 ·exact arg1 rfl
 have e:=Ext.rfl' W
 refine seq <| ac <| tA hf rfl fun a hf=>aa ?_
 refine seq <| seq ?_
 refine rgN 2 hf <| st (mv rfl) <| st (vF U35 rfl) <| en fun a w e' hf=>?_
 obtain⟨HL,e⟩:=up2 e' HL e
 refine aa <| ifF hf rfl ?_
 refine aj ?_
 replace hf:=hf.kp [0]
 refine seq <| ac <| lG W.heap.size G0 intE U35 S3 hf (by decide) e.size hG fun a v w e' hov Ho hf=>?_
 obtain⟨HL,e⟩:=up2 e' HL e
 refine tP hf (mv rfl) fun a w e' hf=>?_
 obtain⟨HL,e,Ho⟩:=up3 e' HL e Ho
 haveI hin:∀G0,InR (GB W G0) _:=OwR.inGB (W:=W) Ho (Nat.le_refl _)
 refine bG U35 I3 rfl rfl hf (by decide) rfl Ho (isE rfl (Dv.weak HL fun b hb hh=>hh.elim (fun h=>h.elim) fun h=>.inr (Ho.lt h).1)) (by simp only[List.length_nil];omega) (by simp only[List.length_nil,maxLen];omega) fun a v w hg hat Hn hf=>?_
 replace e:=e.gro hg (Ho.row (W:=W) (Nat.le_refl _))
 replace HL:=Dv.gro HL hg (fun b hb=>.inr (Ho.lt hb).1)
 replace Ho:=Hn;clear Hn hg hat hin
 refine tA hf rfl fun a hf=>aa <| ak <| an rfl hf rfl ?_
 rintro _ rfl
 exact⟨_,rfl,e,Ho⟩
def CyA (G:Nat→Prop)(o:Option (List Nat)):VA:=⟨fun v w=>match o with
 | none=>v=.slice none 0 0
 | some out=>out≠[]∧(Dv (slE intE) G (ah out)).p v w,fun v w w' e h=>by
  cases o with
  | none=>exact h
  | some out=>exact⟨h.1,vst e h.2⟩⟩
def cyF (bn bl ba bv be:Nat):Value:=.func (.func 120) #[] #[ptr bn,ptr bl,ptr ba,ptr bv,ptr be]
structure CyE (G:Nat→Prop)(n a:Nat)(l:List (Int×BS))(S0:BS)(mq lv:Value)(N0 bn bl ba bv be:Nat)(w:World):Prop where
 t:Tab w
 hv:(Dv (mpE sKV N0) G l).p mq w
 hl:(Dv (slE aP) G (lvB (lkS l) a)).p lv w
 pn:Blk w bn #[I (n:Nat)] 3
 pl:Blk w bl (adC S0 mq) 79
 pa:Blk w ba #[I (a:Nat)] 3
 pv:Blk w bv #[lv] 83
 pe:Blk w be #[cyF bn bl ba bv be] 100
section
variable {G:Nat→Prop}{n a:Nat}{l:List (Int×BS)}{S0:BS}{mq lv:Value}{N0 bn bl ba bv be:Nat}{w w':World}
theorem CyE.ext (h:CyE G n a l S0 mq lv N0 bn bl ba bv be w)(e:Ext w w'):CyE G n a l S0 mq lv N0 bn bl ba bv be w':=
 ⟨h.t.ext e,Dv.ex h.hv e,Dv.ex h.hl e,h.pn.ext e,h.pl.ext e,h.pa.ext e,h.pv.ext e,h.pe.ext e⟩
instance:Ug w w' (CyE G n a l S0 mq lv N0 bn bl ba bv be w) (CyE G n a l S0 mq lv N0 bn bl ba bv be w'):=⟨fun e h=>h.ext e⟩
theorem CyE.ch {S:Nat→Prop}(h:CyE G n a l S0 mq lv N0 bn bl ba bv be w)(c:Chg S w w')(hS:∀b,S b→G b)(h0:¬S 0)(h1:¬S bn)(h2:¬S bl)(h3:¬S ba)(h4:¬S bv)(h5:¬S be):CyE G n a l S0 mq lv N0 bn bl ba bv be w':=
 ⟨h.t.ch c h0,Dv.ch h.hv c hS,Dv.ch h.hl c hS,h.pn.ch c h1,h.pl.ch c h2,h.pa.ch c h3,h.pv.ch c h4,h.pe.ch c h5⟩
theorem CyE.weak {G':Nat→Prop}(h:CyE G n a l S0 mq lv N0 bn bl ba bv be w)(hG:∀b,b<w.heap.size→G' b→G b):CyE G' n a l S0 mq lv N0 bn bl ba bv be w:=
 ⟨h.t,Dv.weak h.hv hG,Dv.weak h.hl hG,h.pn,h.pl,h.pa,h.pv,h.pe⟩
theorem CyE.low (h:CyE G n a l S0 mq lv N0 bn bl ba bv be w):bn<w.heap.size∧bl<w.heap.size∧ba<w.heap.size∧bv<w.heap.size∧be<w.heap.size∧0<w.heap.size:=⟨h.pn.lt,h.pl.lt,h.pa.lt,h.pv.lt,h.pe.lt,h.t.lt⟩
end
def exS (nb:Int→BS)(a n f:Nat)(way:List Nat)(next:Nat):Option (List Nat):=if way.contains next=true∨(n:Int) - way.length<bO (lvB nb a) next then none else cZ nb a n f (way++[next])
theorem a2h {nb:Int→BS}{a n f:Nat}{way:List Nat}(h:way.length≠n):cZ nb a n (f+1) way=(ai (nb (way.getLastD 0:Nat))).findSome? (exS nb a n f way):=by
 rw[cZ,if_neg h];rfl
theorem a2i {nb:Int→BS}{a n f:Nat}{way:List Nat}(h:way.length=n):cZ nb a n (f+1) way=if (nb (way.getLastD 0:Nat)).getLsbD a=true then some way else none:=by
 rw[cZ,if_pos h]
theorem ny {way:List Nat}(h:way≠[]):(ah way)[way.length - 1]?=some ((way.getLastD 0:Nat):Int):=by
 have h1:way[way.length - 1]?=some (way.getLastD 0):=by
  rw[← List.getLast?_eq_getElem?,List.getLastD_eq_getLast?]
  cases h2:way.getLast? with
  | none=>rw[List.getLast?_eq_none_iff] at h2;exact absurd h2 h
  | some x=>rfl
 rw[ah,List.getElem?_map,h1];rfl
theorem bB (l:List Nat):(ah l).length=l.length:=by rw[ah,List.length_map]
theorem cK {x:Nat}{l:List Nat}:((x:Int)∈ah l)↔x∈l:=by
 rw[ah,List.mem_map]
 constructor
 ·rintro⟨y,hy,h⟩
  have:y=x:=by omega
  rwa [← this]
 ·intro h;exact⟨x,h,rfl⟩
theorem gV (l:List Nat)(x:Nat):ah (l++[x])=ah l++[(x:Int)]:=by rw[ah,ah,List.map_append];rfl
structure CyJ (W:World)(G:Nat→Prop)(n a:Nat)(l:List (Int×BS))(S0:BS)(mq lv v:Value)(N0 bn bl ba bv be b6 b7:Nat)(way:List Nat)(r:Value)(w:World):Prop where
 e:Ext W w
 c:CyE (GB W G0) n a l S0 mq lv N0 bn bl ba bv be w
 hw:(Dv (slE intE) (GB W G) (ah way)).p v w
 p6:Blk w b6 #[v] 35
 p7:Blk w b7 #[r] 35
theorem CyJ.kp {W:World}{G:Nat→Prop}{n a:Nat}{l:List (Int×BS)}{S0:BS}{mq lv v:Value}{N0 bn bl ba bv be b6 b7:Nat}{way:List Nat}{r:Value}{B:Nat}{w w':World}(h:CyJ W G n a l S0 mq lv v N0 bn bl ba bv be b6 b7 way r w)(k:Kp B w w')(hW:W.heap.size≤B)(h0:0<B)(hl:bn<B∧bl<B∧ba<B∧bv<B∧be<B)(l6:b6<B)(l7:b7<B) :
  CyJ W G n a l S0 mq lv v N0 bn bl ba bv be b6 b7 way r w':=
 have no:∀{b},b<B→¬aW B b:=fun h hh=>by have:=hh.1;omega
 have hH:∀b,aW B b→GB W G0 b:=fun b hb=>.inr (by have:=hb.1;omega)
 ⟨h.e.kp k hW,h.c.ch k.chg hH (no h0) (no hl.1) (no hl.2.1) (no hl.2.2.1) (no hl.2.2.2.1) (no hl.2.2.2.2),Dv.ch h.hw k.chg (fun b hb=>.inr (by have:=hb.1;omega)),h.p6.kp k (no l6),h.p7.kp k (no l7)⟩
theorem nz {nb:Int→BS}{a:Nat}(b:Nat):bO (lvB nb a) b≤1025:=by have h1:=tm (lvB nb a) b;have h2:=eR nb a;omega
theorem a2j {n vo:Nat}{l:List (Int×BS)}{S0:BS}{mq lv:Value}{N0 bn bl ba bv be:Nat}(hn:n≤1500):∀(f:Nat) (way:List Nat) (v:Value) (G:Nat→Prop) (W:World),(∀b,G b→b<W.heap.size)→CyE G0 n vo l S0 mq lv N0 bn bl ba bv be W→(Dv (slE intE) G (ah way)).p v W→way≠[]→way.length≤n→n<f+way.length→(∀x∈way,x<1024) →
  Calls Tryz.prog 120 #[v,ptr bn,ptr bl,ptr ba,ptr bv,ptr be] W (Post (CyA G (cZ (lkS l) vo n f way)) W):=by
 intro f
 induction f with
 | zero=>intro way v G W hG hC hw hne hle hlt;omega
 | succ f ih=>
  intro way v G W hG hC0 hw0 hne hle hlt hx
  have C:CyE (GB W G0) n vo l S0 mq lv N0 bn bl ba bv be W:=hC0.weak fun b hb hh=>hh.elim id fun h=>absurd hb (Nat.not_lt.2 h)
  have HW:(Dv (slE intE) (GB W G) (ah way)).p v W:=Dv.toB hw0
  have h1c:=oG (Dv.slOne hw0)
  have hlo:=hC0.low
  have hwl:1≤way.length:=by
   cases way with
   | nil=>exact absurd rfl hne
   | cons x r=>rw[List.length_cons];omega
  have hwn:=bB way
  obtain⟨last,hlast⟩:=eqX (way.getLastD 0)
  have hgl:=ny hne
  rw[← hlast] at hgl
  have hl1024:last<1024:=hx last (by rw[hlast];have h:=List.mem_of_getElem? hgl;rw[hlast] at h;exact cK.1 h)
  have hwlast:(Lit.int .i64 (last:Int)).wf=true:=bP (by omega) (by omega)
  refine dx (args:=[v,ptr bn,ptr bl,ptr ba,ptr bv,ptr be]) (As:=[E v,E (ptr bn),E (ptr bl),E (ptr ba),E (ptr bv),E (ptr be)]) Tryz.func120 rfl Tryz.ntmps120 (Nat.le_of_ble_eq_true rfl) ?_ (fun a hf=>?_) (Nat.le_of_ble_eq_true rfl)
  ·exact cX rfl (cX rfl (cX rfl (cX rfl (cX rfl (cX rfl pV)))))
  dsimp only[params,Nat.reduceAdd] at hf
  have e:=Ext.rfl' W
  refine seq <| ac <| tB hf rfl fun a b6 w v6 hv6 e' hb6 hs6 B6 hf=>?_
  obtain⟨C,HW,e⟩:=up3 e' C HW e
  refine tL I35 hf fun a b7 w e' hb7 hs7 B7 hf=>?_
  obtain⟨C,HW,e,B6⟩:=up4 e' C HW e B6
  refine aa ?_
  cases hv6
  rw[h1c] at B6
  replace B7:Blk w b7 #[.slice none 0 0] 35:=B7
  have n67:b6≠b7∧W.heap.size≤b6∧W.heap.size≤b7:=by omega
  replace hf:=hf.keep [1,2,3,4,5,6,7]
  refine seq <| rgN 6 hf <| st (ld1 (v:=v) T35 rfl B6 rfl) <| st (ld1 (v:=v) T35 rfl B6 rfl) <| st (aI U35 (isE rfl HW)) <| st (sub rfl rfl (by omega)) <| st (aG U35 S3 (isE rfl HW) rfl (by omega) (hgl)) <| st (ldI T3 (isR rfl)) <| en fun a w e' hf=>?_
  obtain⟨C,HW,e,B6,B7⟩:=up5 e' C HW e B6 B7
  refine tA hf rfl fun a hf=>aa ?_
  replace hf:=hf.keep [1,2,3,4,5,6,7,8]
  have hov:v.oneCell'=true:=Dv.slOne HW
  obtain⟨Nb,hNb⟩:=eqX (lkS l (last:Int))
  have hasb:∀b:Nat,has Nb (b:Int)=Nb.getLsbD b:=fun b=>by rw[Bool.eq_iff_iff];exact dR Nb b
  by_cases hln:way.length=n
  ·have hb3:(((ah way).length:Nat):Int)==((n:Nat):Int):=by rw[hwn,hln];exact beq_self_eq_true _
   rw[a2i hln,← hlast,← hNb]
   refine seq <| seq ?_
   refine rgN 4 hf <| st (ld1 (v:=v) T35 rfl B6 rfl) <| st (aI U35 (isE rfl HW)) <| st (ld1 (v:=I (n:Nat)) T3 rfl C.pn rfl) <| st ((eql rfl rfl).eq (congrArg Value.bool (hb3))) <| en fun a w e' hf=>?_
   obtain⟨C,HW,e,B6,B7⟩:=up5 e' C HW e B6 B7
   refine aa <| ifT hf rfl ?_
   replace hf:=hf.keep [1,2,3,4,5,6,7,8]
   refine seq <| seq ?_
   refine rgN 6 hf <| st (fA U79 rfl T77 rfl) <| st (ld1 (v:=mq) T77 rfl C.pl (bN _ _)) <| st (mv rfl) <| st (lkM (l:=l) (i:=(last:Int)) U77 bZ (isE rfl C.hv) rfl hwlast) <| st (ld1 (v:=I (vo:Nat)) T3 rfl C.pa rfl) <| st (ap (A:=E (B (Nb.getLsbD vo))) (B:=E (ae (lkS l (last:Int)))) (C:=E (I (vo:Nat))) ce rfl rfl (fun v u w he h h'=>by cases h;cases h';rw[← hNb,← hasb];exact ea _ _ w)) ?_
   refine en fun a w e' hf=>?_
   obtain⟨C,HW,e,B6,B7⟩:=up5 e' C HW e B6 B7
   refine aa ?_
   replace hf:=hf.kp [6,7,27]
   refine ifc hf rfl (fun hb=>?_) (fun hb=>?_)
   ·rw[if_pos hb]
    refine seq <| rgN 1 hf <| st (ld1 (v:=v) T35 rfl B6 rfl) <| en fun a w e' hf=>?_
    obtain⟨HW,e,B6,B7⟩:=up4 e' HW e B6 B7
    refine aO T35 hf rfl rfl hov B7 Nat.zero_lt_one fun w hg hsz B7 hf=>?_
    obtain⟨e,HW⟩:=gr2 hg e HW
    refine aa <| ak <| ee (D:=[]) rfl T35 hf rfl B7 (Ds.nil _) ⟨_,rfl,e,hne,Dv.weak HW fun b _ hb=>.inl hb⟩
   ·rw[if_neg (by rw[hb];decide)]
    refine aj ?_
    replace hf:=hf.kp [6,7]
    refine seq <| ac <| aO T35 hf rfl rfl rfl B7 Nat.zero_lt_one fun w hg hsz B7 hf=>?_
    replace e:=e.gr hg (by omega);clear hg
    refine aa <| ak <| ee (D:=[]) rfl T35 hf rfl B7 (Ds.nil _) ⟨_,rfl,e,rfl⟩
  ·have hb3:((((ah way).length:Nat):Int)==((n:Nat):Int))=false:=by rw[hwn];exact beq_eq_false_iff_ne.2 (by omega)
   rw[a2h hln,← hlast,← hNb]
   refine seq <| seq ?_
   refine rgN 4 hf <| st (ld1 (v:=v) T35 rfl B6 rfl) <| st (aI U35 (isE rfl HW)) <| st (ld1 (v:=I (n:Nat)) T3 rfl C.pn rfl) <| st ((eql rfl rfl).eq (congrArg Value.bool (hb3))) <| en fun a w e' hf=>?_
   obtain⟨C,HW,e,B6,B7⟩:=up5 e' C HW e B6 B7
   refine aa <| ifF hf rfl ?_
   refine aj ?_
   replace hf:=hf.keep [1,2,3,4,5,6,7,8]
   obtain⟨Nz,hNz⟩:=eqX w.heap.size
   have hTw:=C.t
   refine seq <| seq ?_
   refine rgN 5 hf <| st (fA U79 rfl T77 rfl) <| st (ld1 (v:=mq) T77 rfl C.pl (bN _ _)) <| st (mv rfl) <| st (lkM (l:=l) (i:=(last:Int)) U77 bZ (isE rfl C.hv) rfl hwlast) <| st (aw (A:=dh Nz Nb) (B:=E (ae (lkS l (last:Int)))) dr rfl (fun v w' he h=>by cases h;rw[hNb];exact Calls.mono (du _ w') (fun en w2 ⟨u,h1,h2,b',h3,h4,h5⟩=>⟨u,h1,h2,b',by have:=he.size;omega,h4,h5⟩))) ?_
   refine en fun a w e' hf=>?_
   obtain⟨C,HW,e,B6,B7⟩:=up5 e' C HW e B6 B7
   refine aa ?_
   obtain⟨vv,⟨b33,h33,rfl,BS⟩,hf⟩:=hf.fix 33 rfl
   replace hf:=hf.kp [1,2,3,4,5,6,7,33]
   obtain⟨nb,hnb⟩:=eqX (lkS l)
   rw[← hnb]
   have hlo2:bn<w.heap.size∧bl<w.heap.size∧ba<w.heap.size∧bv<w.heap.size∧be<w.heap.size:=by have:=e.size;omega
   have hBW:W.heap.size≤w.heap.size:=e.size
   have h0w:0<w.heap.size:=C.t.lt
   have l6:=B6.lt
   have l7:=B7.lt
   refine blk <| dz (S:=Nb) hf rfl BS (by decide) (fun s w1=>CyJ W G n vo l S0 mq lv v N0 bn bl ba bv be b6 b7 way (.slice none 0 0) w1∧∀y∈s,exS nb vo n f way y=none)
    (fun ex w1=>ex=.ret∧∃r out,CyJ W G n vo l S0 mq lv v N0 bn bl ba bv be b6 b7 way r w1∧(ai Nb).findSome? (exS nb vo n f way)=some out∧out≠[]∧(Dv (slE intE) (fun b=>b<w.heap.size+3) (ah out)).p r w1) (fun s w1 h=>h.1.c.t)
    ⟨⟨e,C,HW,B6,B7⟩,fun y hy=>by cases hy⟩ (fun s w1 w2 h hs k=>⟨h.1.kp k hBW h0w hlo2 l6 l7,h.2⟩)
    (fun ex w1 w2 ⟨q1,r,out,q2,q3,q4,q5⟩ hs k=>⟨q1,r,out,q2.kp k hBW h0w hlo2 l6 l7,q3,q4,Dv.ch q5 k.chg fun b hb=>hb.2⟩) ?_ ?_ ?_
   ·intro lp s x rest a1 w1 hs hJ hlw hf
    have hxN:Nb.getLsbD x=true:=(aD.1 (by rw[hs];simp)).2
    have hx1024:x<1024:=aA hxN
    generalize hBz:w.heap.size=Bz at *
    refine ac <| tA hf rfl fun a hf=>aa <| ⟨Kh.rfl' _ _,fun w3 k3 hsz3=>?_⟩
    have hJ3:=hJ.1.kp k3 hBW h0w hlo2 l6 l7
    have hJs:=hJ.2
    have hw3:Bz+3≤w3.heap.size:=by omega
    replace hf:=hf.pure w3
    obtain⟨e,C,HW,B6,B7⟩:=hJ3
    have kh:=Kh.rfl' Bz w3
    replace hf:=hf.kp [1,2,3,4,5,6,7,9]
    refine blk ?_
    have hd2:bO (lvB nb vo) x≤1025:=nz x
    have hd1 : -1≤bO (lvB nb vo) x:=kt _ _
    obtain⟨d,hd⟩:=eqX (bO (lvB nb vo) x)
    have hex:exS nb vo n f way x=if way.contains x=true∨(n:Int) - way.length<d then none else cZ nb vo n f (way++[x]):=by rw[exS,hd]
    rw[← hd] at hd1 hd2
    refine seq <| seq ?_
    refine rgN 3 hf <| st (ld1 (v:=lv) T83 rfl C.pv rfl) <| st (mv rfl) <| st (ap (A:=E (I d)) (B:=E lv) (C:=E (I (x:Nat))) jz rfl rfl (fun a b w he k1 k2=>by cases k1;cases k2;rw[hd,hnb];exact kw _ x lv w (Dv.ex C.hl he) (Nat.le_trans (eR _ _) (by decide)))) ?_
    refine en fun a w e' hf=>?_
    obtain⟨C,HW⟩:=up2 e' C HW
    replace kh:=kh.tr (Kh.ext e')
    obtain⟨hw3,e,B6,B7⟩:=up4 e' hw3 e B6 B7
    refine tA hf rfl fun a hf=>aa ?_
    replace hf:=hf.kp [1,2,3,4,5,6,7,9,10]
    have fin:∀{w2:World},exS nb vo n f way x=none→Ext W w2→CyE (GB W G0) n vo l S0 mq lv N0 bn bl ba bv be w2→(Dv (slE intE) (GB W G) (ah way)).p v w2→Blk w2 b6 #[v] 35→Blk w2 b7 #[.slice none 0 0] 35→Kh Bz w3 w2 →
      (CyJ W G n vo l S0 mq lv v N0 bn bl ba bv be b6 b7 way (.slice none 0 0) w2∧∀y∈s++[x],exS nb vo n f way y=none)∧Kh Bz w3 w2:=fun {w2} h0 h1 h2 h3 h4 h5 h6=>⟨⟨⟨h1,h2,h3,h4,h5⟩,fun y hy=>by
     rcases List.mem_append.1 hy with hy|hy
     ·exact hJs y hy
     ·rw[List.mem_singleton.1 hy];exact h0⟩,h6⟩
    by_cases hcon:x∈way
    ·rw[if_pos (.inl (List.contains_iff_mem.2 hcon))] at hex
     refine seq <| rgN 11 hf <| st (ld1 (v:=v) T35 rfl B6 rfl) <| st (mv rfl) <| st (ap (A:=E (B true)) (B:=E v) (C:=E (I (x:Nat))) lV rfl rfl (fun a b w he k1 k2=>by cases k1;cases k2;have h:=nu (ah way) (x:Int) v w (Dv.ex HW he) (by omega);rwa [decide_eq_true (cK.2 hcon)] at h)) ?_
     refine st (mv rfl) <| sn rfl rfl rfl <| sn rfl rfl rfl <| sn rfl rfl rfl <| sn rfl rfl rfl <| sn rfl rfl rfl <| sn rfl rfl rfl <| st (pkT rfl rfl) <| en fun a w e' hf=>?_
     obtain⟨C,HW⟩:=up2 e' C HW
     replace kh:=kh.tr (Kh.ext e')
     obtain⟨hw3,e,B6,B7⟩:=up4 e' hw3 e B6 B7
     refine aa <| ifT hf rfl ?_
     refine aH <| fin hex e C HW B6 B7 kh
    ·by_cases hfar:(n:Int) - way.length<d
     ·rw[if_pos (.inr hfar)] at hex
      refine seq <| rgN 11 hf <| st (ld1 (v:=v) T35 rfl B6 rfl) <| st (mv rfl) <| st (ap (A:=E (B false)) (B:=E v) (C:=E (I (x:Nat))) lV rfl rfl (fun a b w he k1 k2=>by cases k1;cases k2;have h:=nu (ah way) (x:Int) v w (Dv.ex HW he) (by omega);rwa [decide_eq_false (fun h=>hcon (cK.1 h))] at h)) ?_
      refine st (mv rfl) <| sy rfl rfl (mv rfl) <| sy rfl rfl (ld1 (v:=I (n:Nat)) T3 rfl C.pn rfl) <| sy rfl rfl (ld1 (v:=v) T35 rfl B6 rfl) <| sy rfl rfl (aI U35 (isE rfl HW)) <| sy rfl rfl (sub rfl rfl (by omega)) <| sy rfl rfl ((gtr rfl rfl).eq (congrArg Value.bool (decide_eq_true (show (n:Int) - ((ah way).length:Nat)<d by rw[hwn];exact hfar)))) ?_
      refine st (pkF rfl rfl) <| en fun a w e' hf=>?_
      obtain⟨C,HW⟩:=up2 e' C HW
      replace kh:=kh.tr (Kh.ext e')
      obtain⟨hw3,e,B6,B7⟩:=up4 e' hw3 e B6 B7
      refine aa <| ifT hf rfl ?_
      refine aH <| fin hex e C HW B6 B7 kh
     ·rw[if_neg (fun h=>h.elim (fun h=>hcon (List.contains_iff_mem.1 h)) hfar)] at hex
      refine seq <| rgN 11 hf <| st (ld1 (v:=v) T35 rfl B6 rfl) <| st (mv rfl) <| st (ap (A:=E (B false)) (B:=E v) (C:=E (I (x:Nat))) lV rfl rfl (fun a b w he k1 k2=>by cases k1;cases k2;have h:=nu (ah way) (x:Int) v w (Dv.ex HW he) (by omega);rwa [decide_eq_false (fun h=>hcon (cK.1 h))] at h)) ?_
      refine st (mv rfl) <| sy rfl rfl (mv rfl) <| sy rfl rfl (ld1 (v:=I (n:Nat)) T3 rfl C.pn rfl) <| sy rfl rfl (ld1 (v:=v) T35 rfl B6 rfl) <| sy rfl rfl (aI U35 (isE rfl HW)) <| sy rfl rfl (sub rfl rfl (by omega)) <| sy rfl rfl ((gtr rfl rfl).eq (congrArg Value.bool (decide_eq_false (show ¬(n:Int) - ((ah way).length:Nat)<d by rw[hwn];exact hfar)))) ?_
      refine st (pkF rfl rfl) <| en fun a w e' hf=>?_
      obtain⟨C,HW⟩:=up2 e' C HW
      replace kh:=kh.tr (Kh.ext e')
      obtain⟨hw3,e,B6,B7⟩:=up4 e' hw3 e B6 B7
      refine aa <| ifF hf rfl ?_
      refine aj ?_
      replace hf:=hf.kp [1,2,3,4,5,6,7,9]
      obtain⟨N1,hN1⟩:=eqX w.heap.size
      have hN1s:N1≤w.heap.size:=Nat.le_of_eq hN1
      have hN1b:Bz+3≤N1:=by rw[hN1];exact hw3
      have hsub:∀b,N1≤b→GB W G0 b:=fun b hb=>.inr (by omega)
      have hwn1:(ah way).length+1≤2000:=by omega
      have hne1:ah way≠[]:=fun h=>by rw[h] at hwn;simp at hwn;omega
      refine seq <| cO 7 [1,0,0,0,0] (Chg (fun b=>N1≤b)) (cg.chg _) (fun w=>True) (fun w w1 k h=>trivial) Mix.mix hf (by decide +kernel) (by decide +kernel) <| jf (fun w1 h1=>ld1 (v:=cyF bn bl ba bv be) lL rfl (C.pe.ch h1 (by omega)) rfl) <| ja (ld1 (v:=v) T35 rfl B6 rfl) <| ja (aw (A:=OwA intE 3 N1 G0 (ah way)) (B:=E v) pG rfl (fun u w he k=>by cases k;exact (tq (ah way) v w (Dv.ex HW he) (by omega) hne1).mono fun en w' ⟨u,k1,k2,k3⟩=>⟨u,k1,k2,OwR.low k3 (Nat.le_trans hN1s he.size) fun b hb=>hb.elim⟩)) ?_
      refine ja (mv rfl) <| ja (aX (e:=intE) (G:=G0) U35 I3 rfl (by decide) rfl (fun b hb=>hb.elim) (isI rfl)) <| jx (mm (G':=G0) U35 I3 rfl rfl rfl (isR rfl) (by simp only[List.length_singleton];omega) (by simp only[List.length_singleton,maxLen];omega) (fun _ _ _ _=>trivial) (fun _ _=>trivial)) ?_
      refine jp (fun w1 h1 HF1=>ij (A:=CyA (fun b=>b<N1) (cZ nb vo n f (way++[x]))) (B:=OwA intE 3 N1 G0 (ah way++[(x:Int)])) pO rfl rfl (fun u w he k=>by rw[hnb];exact ih (way++[x]) u (fun b=>b<N1) w (fun b hb=>by have:=h1.size;have:=he.size;omega) (((C.ch h1 hsub (by omega) (by omega) (by omega) (by omega) (by omega) (by omega)).ext he).weak fun b _ hb=>hb.elim) (by rw[gV];exact OwR.slN k fun b hb hh=>by have:=(OwR.lt k hb).1;omega) (by simp) (by rw[List.length_append,List.length_singleton];omega) (by rw[List.length_append,List.length_singleton];omega) (fun y hy=>(List.mem_append.1 hy).elim (hx y) fun h=>by rw[List.mem_singleton.1 h];exact hx1024))) ?_
      refine je <| fun a w hc HF hf=>?_
      try dsimp only[push] at hf
      have e':Ext _ w:=⟨hc.os,hc.tape,hc.output,hc.size,fun b hb=>hc.block b hb (by omega)⟩
      replace e:=e.tr e';replace C:=C.ext e';replace HW:=Dv.ex HW e';replace B6:=B6.ext e';replace B7:=B7.ext e';replace kh:=kh.tr (Kh.ext e');replace hw3:=Nat.le_trans hw3 e'.size
      refine tA hf rfl fun a hf=>aa ?_
      obtain⟨r,hr,hf⟩:=hf.opn 11 rfl
      replace hf:=hf.kp [1,2,3,4,5,6,7,9,11]
      obtain⟨o,ho⟩:=eqX (cZ nb vo n f (way++[x]))
      rw[← ho] at hr hex
      cases o with
      | none=>
       obtain rfl:r=.slice none 0 0:=hr
       refine seq <| rgN 2 hf <| st (mv rfl) <| st (kz U35 rfl) <| en fun a w e' hf=>?_
       obtain⟨C,HW⟩:=up2 e' C HW
       replace kh:=kh.tr (Kh.ext e')
       obtain⟨e,B6,B7⟩:=up3 e' e B6 B7
       refine aa <| ifF hf rfl ?_
       refine aj <| fin hex e C HW B6 B7 kh
      | some out=>
       obtain⟨hr1,hr2⟩:=hr
       have hro:r.oneCell'=true:=Dv.slOne hr2
       have hne2:ah out≠[]:=fun h=>hr1 (by rw[ah] at h;exact List.map_eq_nil_iff.1 h)
       obtain⟨ad,n',c',hre⟩:=nt hr2 hne2
       have HR:(Dv (slE intE) (fun b=>b<Bz+3) (ah out)).p r w:=Dv.weak hr2 fun b _ hb=>by omega
       subst hre
       refine seq <| rgN 2 hf <| st (mv rfl) <| st (kz U35 rfl) <| en fun a w e' hf=>?_
       obtain⟨C,HW⟩:=up2 e' C HW
       replace kh:=kh.tr (Kh.ext e')
       obtain⟨HR,e,B6,B7⟩:=up4 e' HR e B6 B7
       refine aa <| ifT hf rfl ?_
       refine seq <| rgN 1 hf <| st (mv rfl) <| en fun a w e' hf=>?_
       obtain⟨C,HW⟩:=up2 e' C HW
       replace kh:=kh.tr (Kh.ext e')
       obtain⟨HR,e,B6,B7⟩:=up4 e' HR e B6 B7
       refine aO T35 hf rfl rfl hro B7 Nat.zero_lt_one fun w hg hsz B7 hf=>?_
       have hch:=(Chg.rfl' (fun b=>b=b7) _).gr hg (.inl rfl)
       replace e:=e.gr hg (by omega)
       replace C:=C.ch hch (fun b hb=>.inr (by omega)) (by omega) (by omega) (by omega) (by omega) (by omega) (by omega)
       obtain⟨HW,B6⟩:=gr2 hg HW B6
       replace HR:=Dv.gr HR hg (by omega)
       replace kh:=kh.tr (Kh.gr hg (fun hh=>by have:=hh.1;omega))
       refine aa <| ak ?_
       have hfs:(ai Nb).findSome? (exS nb vo n f way)=some out:=by
        rw[hs,List.findSome?_append,List.findSome?_eq_none_iff.2 hJs,List.findSome?_cons,hex];rfl
       exact⟨⟨rfl,_,out,⟨e,C,HW,B6,B7⟩,hfs,hr1,HR⟩,kh⟩
   ·intro a' w' hf' hJ hsz hDn
    simp only[Exit.inBlock,↓reduceIte,Exit.then]
    have hfs:(ai Nb).findSome? (exS nb vo n f way)=none:=List.findSome?_eq_none_iff.2 hJ.2
    rw[hfs]
    have hD:Ds [w.heap.size] w':=(Ds.nil w').cons hDn (by simp)
    have hf:FrD 59 (bS [w.heap.size]) a' w' [(7,E (ptr b7))]:=hf'.keep [7]
    have hDW:∀d∈[w.heap.size],W.heap.size≤d:=fun d hd=>by rw[List.mem_singleton] at hd;omega
    obtain⟨e,C,HW,B6,B7⟩:=hJ.1
    have hb7:=hD.ne B7
    generalize [w.heap.size]=D2 at *
    generalize w'=w at *
    refine seq <| ac <| aO T35 hf rfl rfl rfl B7 Nat.zero_lt_one fun w hg hsz B7 hf=>?_
    replace e:=e.gr hg (by omega)
    replace hD:=hD.gr hg hb7
    refine aa <| ak <| ee rfl T35 hf rfl B7 hD ⟨_,rfl,e.shut hDW,rfl⟩
   ·intro ex c a' w' hcd hf' hX hsz hDn
    obtain⟨rfl,r,out,hJ,hfs,hr1,HR⟩:=hX
    simp only[Exit.inBlock,↓reduceIte,Exit.then]
    rw[hfs]
    have hD:Ds [w.heap.size] w':=(Ds.nil w').cons hDn (by simp)
    have hf:FrD 59 (bS [w.heap.size]) a' w' [(7,E (ptr b7))]:=hf'.keep [7]
    have hDW:∀d∈[w.heap.size],W.heap.size≤d:=fun d hd=>by rw[List.mem_singleton] at hd;omega
    refine ee rfl T35 hf rfl hJ.p7 hD ⟨_,rfl,hJ.e.shut hDW,hr1,?_⟩
    exact Dv.weak (Dv.ch HR (ed _ _) fun b hb=>by rw[List.mem_singleton] at hb;show b<_;omega) fun b _ hb=>by have:=hG b hb;show b<_;omega
end Go.Mono
