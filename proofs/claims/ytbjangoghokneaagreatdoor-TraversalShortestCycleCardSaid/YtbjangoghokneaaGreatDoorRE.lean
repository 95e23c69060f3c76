/-
  Walks of functions and plain facts.
  No condition.
-/
import Derived.Test.YtbjangoghokneaaGreatDoorRD
import Derived.Test.YtbjangoghokneaaGreatDoorRB
import Derived.Test.YtbjangoghokneaaGreatDoorRC
import Derived.WideKeyEntry
set_option linter.unusedVariables false
set_option linter.unusedSimpArgs false
namespace Go.Mono
def partsB (fs:List BS)(left:BS):List BS:=(splitF fs (1+fs.length) left).getD []
def mostB (fs:List BS)(part:BS)(n:Nat):Nat:=(partsB fs (del part (n:Int))).foldl (fun m C=>max m (card C)) 0
def cenStep (fs:List BS)(part:BS)(s:Int×Int)(n:Nat):Int×Int:=if s.1<0∨(mostB fs part n:Int)<s.2 then ((n:Int),(mostB fs part n:Int)) else s
def cenTo (fs:List BS)(part:BS)(s:List Nat):Int×Int:=s.foldl (cenStep fs part) (-1,0)
def cenB (fs:List BS)(part:BS):Nat:=(cenTo fs part (elems part)).1.toNat

def pathF (fs:List BS)(part:BS)(to:Nat):Nat→BS→Nat→Option BS
 | 0,r,x=>if x=to then some r else none
 | f+1,r,x=>if x=to then some r else
   oEl ((elems ((sg fs x &&& part) &&& ~~~r)).find? fun n=>(compB fs (del part (x:Int)) n).getLsbD to) none fun n=>pathF fs part to f (ins r (n:Int)) n
def pathB (fs:List BS)(part:BS)(x y:Nat):BS:=(pathF fs part y (1+fs.length) (ins 0 (x:Int)) x).getD 0
def endB (fs:List BS)(part:BS)(n:Nat):Nat:=(minOf (sg fs n &&& part)).getD 0
def splP (fs:List BS)(part between:BS)(c n:Nat):Bool:=between.getLsbD n&&decide (card (pathB fs part c n &&& between)=1)
def splB (fs:List BS)(part out:BS):Nat:=
 if card out<2 then cenB fs part
 else match (elems out).map (endB fs part) with
  | e0::e1::_=>((elems (pathB fs part (cenB fs part) e0)).find? (splP fs part (pathB fs part e0 e1) (cenB fs part))).getD (cenB fs part)
  | _=>cenB fs part

section
variable {fs:List BS}{T:Tr}{part:BS}

theorem P_adj {x k i:Nat}(hx:x<T.n)(hk:k<T.n)(h:T.adj k x)(hP:T.P i x k):i=x∨i=k:=by
 apply Classical.byContradiction
 intro hn
 exact hP (Tr.cn.of_adj hx hk ⟨hx,fun e=>hn (.inl e.symm)⟩ ⟨hk,fun e=>hn (.inr e.symm)⟩ h.symm)
theorem find_one {p:Nat→Bool}{k:Nat}:∀{l:List Nat},k∈l→p k=true→(∀n∈l,p n=true→n=k)→l.find? p=some k
 | [],h,_,_=>by cases h
 | x::l,h,hk,h1=>by
  rw[List.find?_cons]
  cases hx:p x with
  | true=>rw[h1 x (by simp) hx]
  | false=>
   rcases List.mem_cons.1 h with rfl|h
   ·rw[hk] at hx;cases hx
   ·exact find_one h hk fun n hn=>h1 n (by simp[hn])
theorem path_next (F:Fo fs T)(hin:∀i,part.getLsbD i=true→i<T.n)(hC:T.conn (bits part)){x y z:Nat}{r:BS}(hx:part.getLsbD x=true)(hy:part.getLsbD y=true)(hz:part.getLsbD z=true)(hr:∀i,r.getLsbD i=true↔T.P i x z)(hP:T.P z x y)(hne:z≠y) :
  ∃k,(elems ((sg fs z &&& part) &&& ~~~r)).find? (fun n=>(compB fs (del part (z:Int)) n).getLsbD y)=some k∧part.getLsbD k=true∧(∀i,(ins r (k:Int)).getLsbD i=true↔T.P i x k)∧T.P k x y∧T.dist k y<T.dist z y:=by
 have hxn:=hin x hx
 have hyn:=hin y hy
 have hzn:=hin z hz
 have hle:=F.le
 obtain⟨k,k1,k2⟩:=Tr.hop hC hzn hyn hz hy (Ne.symm hne)
 have hkp:part.getLsbD k=true:=k2.2.2.1.1
 have hkn:=k2.1
 have hV:T.cn (Tr.wo (fun i=>i<T.n) z) k y:=k2.mono fun i hi h=>⟨hi,h.2⟩
 have p1:T.P k z y:=Tr.hop_P hzn k1 hV
 have p2:T.P k x y:=hP.sub' p1
 have p3:T.P z x k:=(hP.split k).resolve_right fun h=>h hV
 have hkz:k≠z:=k2.2.2.1.2
 have hdel:∀i,(del part (z:Int)).getLsbD i=true↔part.getLsbD i=true∧i≠z:=fun i=>bit_del part (by omega)
 have hbits:(bits (del part (z:Int)))=Tr.wo (bits part) z:=by funext i;exact propext (hdel i)
 have hind:∀i,(del part (z:Int)).getLsbD i=true→i<T.n:=fun i hi=>hin i ((hdel i).1 hi).1
 have hcand:∀n,n∈elems ((sg fs z &&& part) &&& ~~~r)↔T.adj z n∧part.getLsbD n=true∧¬r.getLsbD n=true:=fun n=>by
  rw[mem_elems,bit_diff,bit_and,F.adj hzn]
  constructor
  ·rintro⟨_,⟨⟨_,h1⟩,h2⟩,h3⟩;exact⟨h1,h2,h3⟩
  ·rintro⟨h1,h2,h3⟩;exact⟨bit_lt h2,⟨⟨hin n h2,h1⟩,h2⟩,h3⟩
 have hcmp:∀n,T.adj z n→part.getLsbD n=true→((compB fs (del part (z:Int)) n).getLsbD y=true↔T.cn (Tr.wo (bits part) z) n y):=fun n hn hp=>by
  have hnd:(del part (z:Int)).getLsbD n=true:=(hdel n).2 ⟨hp,fun e=>(hn.ne hzn) e.symm⟩
  rw[(comp_some F hind hnd).2 y,hbits]
 refine⟨k,find_one ((hcand k).2 ⟨k1.symm,hkp,fun h=>hkz (Tr.P.meet hxn hyn hP ((hr k).1 h) p1)⟩) ((hcmp k k1.symm hkp).2 k2) (fun n hn hpn=>?_),hkp,fun i=>?_,p2,?_⟩
 ·obtain⟨h1,h2,_⟩:=(hcand n).1 hn
  exact Tr.hop_one hzn h1.symm k1 (((hcmp n h1 h2).1 hpn).trans k2.symm)
 ·rw[bit_ins r (by omega),hr]
  constructor
  ·rintro (h|rfl)
   ·exact p3.sub h
   ·exact Tr.P.right
  ·intro h
   rcases h.split z with h|h
   ·exact .inl h
   ·rcases P_adj hzn hkn k1 h with rfl|rfl
    ·exact .inl Tr.P.right
    ·exact .inr rfl
 ·exact Tr.dist_lt hzn (fun u _ hu=>p1.sub' hu) Tr.P.left fun h=>h hV
theorem pathF_ok (F:Fo fs T)(hin:∀i,part.getLsbD i=true→i<T.n)(hC:T.conn (bits part)){x y:Nat}(hx:part.getLsbD x=true)(hy:part.getLsbD y=true):∀(f:Nat) (r:BS) (z:Nat),part.getLsbD z=true→(∀i,r.getLsbD i=true↔T.P i x z)→T.P z x y→T.dist z y≤f →
  ∃Z,pathF fs part y f r z=some Z∧∀i,Z.getLsbD i=true↔T.P i x y:=by
 intro f
 induction f with
 | zero=>
  intro r z hz hr hP hd
  by_cases h:z=y
  ·subst h;exact⟨r,by rw[pathF,if_pos rfl],hr⟩
  ·obtain⟨k,_,_,_,_,h5⟩:=path_next F hin hC hx hy hz hr hP h
   omega
 | succ f ih=>
  intro r z hz hr hP hd
  by_cases h:z=y
  ·subst h;exact⟨r,by rw[pathF,if_pos rfl],hr⟩
  ·obtain⟨k,h1,h2,h3,h4,h5⟩:=path_next F hin hC hx hy hz hr hP h
   obtain⟨Z,h6,h7⟩:=ih _ k h2 h3 h4 (by omega)
   exact⟨Z,by rw[pathF,if_neg h,h1,oEl];exact h6,h7⟩
theorem dist_le (x y:Nat):T.dist x y≤T.n:=by
 unfold Tr.dist
 have:=List.countP_le_length (p:=fun z=>@decide (T.P z x y) (Classical.propDecidable _)) (l:=List.range T.n)
 rwa [List.length_range] at this
theorem P_self {i x:Nat}(hx:x<T.n):T.P i x x↔i=x:=by
 constructor
 ·intro h
  apply Classical.byContradiction
  intro hn
  exact h (Tr.cn.refl hx ⟨hx,Ne.symm hn⟩)
 ·rintro rfl;exact Tr.P.left
theorem path_some (F:Fo fs T)(hin:∀i,part.getLsbD i=true→i<T.n)(hC:T.conn (bits part)){x y:Nat}(hx:part.getLsbD x=true)(hy:part.getLsbD y=true) :
  pathF fs part y (1+fs.length) (ins 0 (x:Int)) x=some (pathB fs part x y)∧∀i,(pathB fs part x y).getLsbD i=true↔T.P i x y:=by
 have hle:=F.le
 have hd:=dist_le (T:=T) x y
 obtain⟨Z,h1,h2⟩:=pathF_ok F hin hC hx hy (1+fs.length) (ins 0 (x:Int)) x hx (fun i=>by
  rw[bit_ins 0 (by have:=hin x hx;omega),P_self (hin x hx)]
  exact⟨fun h=>h.resolve_left (bit_zero i),.inr⟩) Tr.P.left (by have:=F.len;omega)
 have:pathB fs part x y=Z:=by rw[pathB,h1];rfl
 rw[this]
 exact⟨h1,h2⟩
theorem path_in (F:Fo fs T)(hin:∀i,part.getLsbD i=true→i<T.n)(hC:T.conn (bits part)){x y i:Nat}(hx:part.getLsbD x=true)(hy:part.getLsbD y=true)(h:(pathB fs part x y).getLsbD i=true):part.getLsbD i=true:=
 Tr.P.mem hC (hin x hx) (hin y hy) hx hy (((path_some F hin hC hx hy).2 i).1 h)

theorem del_in (hin:∀i,part.getLsbD i=true→i<T.n)(z:Int):∀i,(del part z).getLsbD i=true→i<T.n:=fun i h=>by
 unfold del at h
 split at h
 ·exact hin i ((bit_diff _ _ i).1 h).1
 ·exact hin i h
theorem parts_some (F:Fo fs T){left:BS}(hin:∀i,left.getLsbD i=true→i<T.n):splitF fs (1+fs.length) left=some (partsB fs left)∧(partsB fs left).length≤card left∧(∀C∈partsB fs left,∃k,left.getLsbD k=true∧C=compB fs left k)∧∀k,left.getLsbD k=true→compB fs left k∈partsB fs left:=by
 have:=card_le_n hin
 obtain⟨l,h1,h2⟩:=splitF_ok F (1+fs.length) left hin (by have:=F.len;omega)
 have e:partsB fs left=l:=by rw[partsB,h1];rfl
 rw[e]
 exact⟨h1,h2⟩
theorem cen_inv (fs:List BS)(part:BS):∀(l:List Nat) (s:Int×Int),(0≤s.1→∃n:Nat,s.1=(n:Int)∧s.2=(mostB fs part n:Int)) →
  (l≠[]∨0≤s.1)→∃n:Nat,(l.foldl (cenStep fs part) s).1=(n:Int)∧(n∈l∨s.1=(n:Int))∧(l.foldl (cenStep fs part) s).2=(mostB fs part n:Int)∧(∀m∈l,mostB fs part n≤mostB fs part m)∧(0≤s.1→(mostB fs part n:Int)≤s.2)
 | [],s,h,h0=>by
  have h1:=h0.resolve_left (by simp)
  obtain⟨n,h2,h3⟩:=h h1
  exact⟨n,h2,.inr h2,h3,by simp,fun _=>by omega⟩
 | m::l,s,h,_=>by
  rw[List.foldl_cons]
  by_cases hc:s.1<0∨(mostB fs part m:Int)<s.2
  ·have e:cenStep fs part s m=((m:Int),(mostB fs part m:Int)):=if_pos hc
   obtain⟨n,h1,h2,h3,h4,h5⟩:=cen_inv fs part l (cenStep fs part s m) (fun _=>⟨m,by rw[e],by rw[e]⟩) (.inr (by rw[e];exact Int.natCast_nonneg m))
   have h5':=h5 (by rw[e];exact Int.natCast_nonneg m)
   rw[e] at h5' h2
   refine⟨n,h1,.inl ?_,h3,fun x hx=>?_,fun h0=>?_⟩
   ·rcases h2 with h2|h2
    ·exact List.mem_cons_of_mem _ h2
    ·simp only at h2
     have:n=m:=by omega
     subst this;simp
   ·rcases List.mem_cons.1 hx with rfl|hx
    ·simp only at h5';omega
    ·exact h4 x hx
   ·simp only at h5';omega
  ·have e:cenStep fs part s m=s:=if_neg hc
   have h0:0≤s.1:=by omega
   rw[e]
   obtain⟨n,h1,h2,h3,h4,h5⟩:=cen_inv fs part l s h (.inr h0)
   have:=h5 h0
   refine⟨n,h1,h2.imp (List.mem_cons_of_mem _) id,h3,fun x hx=>?_,fun _=>this⟩
   rcases List.mem_cons.1 hx with rfl|hx
   ·omega
   ·exact h4 x hx
theorem cen_ok {p:Nat}(hp:part.getLsbD p=true):part.getLsbD (cenB fs part)=true∧(cenTo fs part (elems part)).1=(cenB fs part:Int)∧∀m,part.getLsbD m=true→mostB fs part (cenB fs part)≤mostB fs part m:=by
 have hpe:=mem_elems.2 ⟨bit_lt hp,hp⟩
 obtain⟨n,h1,h2,h3,h4,_⟩:=cen_inv fs part (elems part) (-1,0) (fun h=>by simp at h) (.inl (List.ne_nil_of_mem hpe))
 have e:cenB fs part=n:=by
  show (List.foldl (cenStep fs part) (-1,0) (elems part)).1.toNat=n
  rw[h1];exact Int.toNat_natCast n
 rw[e]
 refine⟨?_,h1,fun m hm=>h4 m (mem_elems.2 ⟨bit_lt hm,hm⟩)⟩
 rcases h2 with h2|h2
 ·exact (mem_elems.1 h2).2
 ·simp only at h2;omega
end

section
variable {fs:List BS}{T:Tr}{part:BS}

theorem outTo_bit (i:Nat):∀(s:List Nat) (r:BS),(s.foldl (fun r n=>r ||| sg fs n) r).getLsbD i=true↔r.getLsbD i=true∨∃n∈s,(sg fs n).getLsbD i=true
 | [],r=>by simp
 | n::s,r=>by
  rw[List.foldl_cons,outTo_bit i s,bit_or]
  constructor
  ·rintro ((h|h)|⟨m,hm,h⟩)
   ·exact .inl h
   ·exact .inr ⟨n,by simp,h⟩
   ·exact .inr ⟨m,by simp[hm],h⟩
  ·rintro (h|⟨m,hm,h⟩)
   ·exact .inl (.inl h)
   ·rcases List.mem_cons.1 hm with rfl|hm
    ·exact .inl (.inr h)
    ·exact .inr ⟨m,hm,h⟩
theorem out_bit (F:Fo fs T)(hin:∀i,part.getLsbD i=true→i<T.n)(i:Nat):(outM fs part).getLsbD i=true↔i<T.n∧¬part.getLsbD i=true∧∃j,part.getLsbD j=true∧T.adj j i:=by
 rw[outM,bit_diff,outTo,outTo_bit]
 constructor
 ·rintro⟨h|⟨j,hj,h⟩,h2⟩
  ·exact absurd h (bit_zero i)
  ·have hj':=(mem_elems.1 hj).2
   have:=(F.adj (hin j hj')).1 h
   exact⟨this.1,h2,j,hj',this.2⟩
 ·rintro⟨h1,h2,j,hj,h⟩
  exact⟨.inr ⟨j,mem_elems.2 ⟨bit_lt hj,hj⟩,(F.adj (hin j hj)).2 ⟨h1,h⟩⟩,h2⟩
theorem end_ok (F:Fo fs T)(hin:∀i,part.getLsbD i=true→i<T.n)(hC:T.conn (bits part)){b:Nat}(hb:(outM fs part).getLsbD b=true) :
  part.getLsbD (endB fs part b)=true∧T.adj (endB fs part b) b∧∀j,part.getLsbD j=true→T.adj j b→j=endB fs part b:=by
 obtain⟨hbn,hbp,j,hj,hjb⟩:=(out_bit F hin b).1 hb
 have hbit:(sg fs b &&& part).getLsbD j=true:=(bit_and _ _ j).2 ⟨(F.adj hbn).2 ⟨hin j hj,hjb.symm⟩,hj⟩
 obtain⟨k,hk,_⟩:=minOf_is hbit
 have hk2:=(bit_and _ _ k).1 (minOf_mem hk)
 have e:endB fs part b=k:=by rw[endB,hk];rfl
 rw[e]
 have hkb:T.adj k b:=((F.adj hbn).1 hk2.1).2.symm
 exact⟨hk2.2,hkb,fun x hx hxb=>hC.nb hbn hbp (hin x hx) (hin k hk2.2) hx hk2.2 hxb hkb⟩
theorem card_two {S:BS}(h:¬card S<2):∃a b l,elems S=a::b::l∧a≠b∧S.getLsbD a=true∧S.getLsbD b=true:=by
 rw[← card_elems] at h
 have hn:(elems S).Nodup:=List.Nodup.sublist List.filter_sublist List.nodup_range
 match hl:elems S with
 | []=>rw[hl] at h;simp at h
 | [a]=>rw[hl] at h;simp at h
 | a::b::l=>
  rw[hl] at hn
  exact⟨a,b,l,rfl,fun e=>by subst e;simp at hn,(mem_elems.1 (by rw[hl];simp)).2,(mem_elems.1 (by rw[hl];simp)).2⟩
structure Spl (fs:List BS)(T:Tr)(part:BS)(s:Nat):Prop where
 mem:part.getLsbD s=true
 one:card (outM fs part)<2→s=cenB fs part
 two:∀{a b l},elems (outM fs part)=a::b::l→T.P s (endB fs part a) (endB fs part b)∧T.P s (endB fs part a) (cenB fs part)∧T.P s (endB fs part b) (cenB fs part)
theorem card_sub_one {S:BS}{a b:Nat}(h:card S=1)(ha:S.getLsbD a=true)(hb:S.getLsbD b=true):a=b:=by
 rw[← card_elems] at h
 match hl:elems S with
 | []=>rw[hl] at h;simp at h
 | [x]=>
  have h1:=mem_elems.2 ⟨bit_lt ha,ha⟩
  have h2:=mem_elems.2 ⟨bit_lt hb,hb⟩
  rw[hl] at h1 h2
  simp at h1 h2
  omega
 | x::y::l=>rw[hl] at h;simp at h
theorem near_card (F:Fo fs T)(hin:∀i,part.getLsbD i=true→i<T.n)(hC:T.conn (bits part)){x y c m n:Nat}(hx:part.getLsbD x=true)(hy:part.getLsbD y=true)(hc:part.getLsbD c=true)
  (h1:T.P m x y) (h2:T.P m x c) (h3:T.P m y c) (hn:part.getLsbD n=true):splP fs part (pathB fs part x y) c n=true↔n=m:=by
 have hxn:=hin x hx
 have hyn:=hin y hy
 have hcn:=hin c hc
 have pb:=fun i=>(path_some F hin hC hx hy).2 i
 rw[splP,Bool.and_eq_true,decide_eq_true_eq,pb]
 constructor
 ·rintro⟨h4,h5⟩
  have hmn:T.P m n c:=Tr.near hxn hyn hcn h1 h2 h3 h4
  exact card_sub_one h5 ((bit_and _ _ n).2 ⟨((path_some F hin hC hc hn).2 n).2 Tr.P.right,(pb n).2 h4⟩) ((bit_and _ _ m).2 ⟨((path_some F hin hC hc hn).2 m).2 hmn.symm,(pb m).2 h1⟩)
 ·rintro rfl
  refine⟨h1,card_one (p:=n) fun i=>?_⟩
  rw[bit_and,(path_some F hin hC hc hn).2 i,pb]
  constructor
  ·rintro⟨h4,h5⟩
   have:=Tr.near hxn hyn hcn h1 h2 h3 h5
   exact (Tr.P.meet hcn (hin n hn) h4 this.symm Tr.P.right).symm
  ·rintro rfl
   exact⟨Tr.P.right,h1⟩
theorem spl_ok (F:Fo fs T)(hin:∀i,part.getLsbD i=true→i<T.n)(hC:T.conn (bits part)){p:Nat}(hp:part.getLsbD p=true):Spl fs T part (splB fs part (outM fs part)):=by
 obtain⟨hc,_,_⟩:=cen_ok (fs:=fs) hp
 by_cases hcard:card (outM fs part)<2
 ·have e:splB fs part (outM fs part)=cenB fs part:=by rw[splB,if_pos hcard]
  rw[e]
  refine⟨hc,fun _=>rfl,fun {a b l} h=>?_⟩
  have:=card_elems (outM fs part)
  rw[h] at this
  simp at this
  omega
 ·obtain⟨a,b,l,he,hab,ha,hb⟩:=card_two hcard
  obtain⟨a1,a2,a3⟩:=end_ok F hin hC ha
  obtain⟨b1,b2,b3⟩:=end_ok F hin hC hb
  obtain⟨m,m1,m2,m3⟩:=Tr.median (hin _ a1) (hin _ b1) (hin _ hc)
  have hm:part.getLsbD m=true:=Tr.P.mem hC (hin _ a1) (hin _ b1) a1 b1 m1
  have hf:(elems (pathB fs part (cenB fs part) (endB fs part a))).find? (splP fs part (pathB fs part (endB fs part a) (endB fs part b)) (cenB fs part))=some m:=by
   have hpm:(pathB fs part (cenB fs part) (endB fs part a)).getLsbD m=true:=((path_some F hin hC hc a1).2 m).2 m2.symm
   refine find_one (mem_elems.2 ⟨bit_lt hpm,hpm⟩) ((near_card F hin hC a1 b1 hc m1 m2 m3 hm).2 rfl) fun n hn hpn=>?_
   have hn':=path_in F hin hC hc a1 (mem_elems.1 hn).2
   exact (near_card F hin hC a1 b1 hc m1 m2 m3 hn').1 hpn
  have e:splB fs part (outM fs part)=m:=by
   rw[splB,if_neg hcard,he]
   simp only[List.map_cons,hf,Option.getD_some]
  rw[e]
  refine⟨hm,fun h=>absurd h hcard,fun {a' b' l'} h=>?_⟩
  rw[he] at h
  cases h
  exact⟨m1,m2,m3⟩

structure Sub (fs:List BS)(T:Tr)(part:BS)(s:Nat)(C:BS):Prop where
 ne:∃k,C.getLsbD k=true
 sub:∀i,C.getLsbD i=true→part.getLsbD i=true∧i≠s
 conn:T.conn (bits C)
 clo:∀i j,C.getLsbD i=true→part.getLsbD j=true→j≠s→T.adj i j→C.getLsbD j=true
theorem parts_sub (F:Fo fs T)(hin:∀i,part.getLsbD i=true→i<T.n){s:Nat}(hs:s<T.n){C:BS}(h:C∈partsB fs (del part (s:Int))):Sub fs T part s C:=by
 have hle:=F.le
 have hdel:∀i,(del part (s:Int)).getLsbD i=true↔part.getLsbD i=true∧i≠s:=fun i=>bit_del part (by omega)
 obtain⟨k,hk,rfl⟩:=(parts_some F (del_in (part:=part) hin (s:Int))).2.2.1 C h
 have hb:=(comp_some F (del_in hin _) hk).2
 refine⟨⟨k,comp_self F (del_in hin _) hk⟩,fun i hi=>(hdel i).1 (comp_sub F (del_in hin _) hk i hi),?_,fun i j hi hj hjs hij=>?_⟩
 ·have:=Tr.conn_comp (T:=T) (A:=bits (del part (s:Int))) (x:=k)
  have e:(fun y=>T.cn (bits (del part (s:Int))) k y)=bits (compB fs (del part (s:Int)) k):=by
   funext y
   exact propext (hb y).symm
  rwa [e] at this
 ·have h1:=(hb i).1 hi
  exact (hb j).2 (h1.trans (Tr.cn.of_adj h1.2.1 (hin j hj) h1.2.2.2.1 ((hdel j).2 ⟨hj,hjs⟩) hij))
theorem sub_out (F:Fo fs T)(hin:∀i,part.getLsbD i=true→i<T.n){s:Nat}{C:BS}(h:Sub fs T part s C){i:Nat}(hi:(outM fs C).getLsbD i=true):i=s∨(outM fs part).getLsbD i=true:=by
 obtain⟨h1,h2,j,hj,hji⟩:=(out_bit F (fun i hi=>hin i (h.sub i hi).1) i).1 hi
 by_cases his:i=s
 ·exact .inl his
 ·refine .inr ((out_bit F hin i).2 ⟨h1,fun hp=>h2 (h.clo j i hj hp his hji),j,(h.sub j hj).1,hji⟩)
theorem sub_end (F:Fo fs T)(hin:∀i,part.getLsbD i=true→i<T.n)(hC:T.conn (bits part)){s:Nat}{C:BS}(h:Sub fs T part s C){b:Nat}(hb:(outM fs part).getLsbD b=true)(hb':(outM fs C).getLsbD b=true):C.getLsbD (endB fs part b)=true:=by
 obtain⟨h1,h2,j,hj,hji⟩:=(out_bit F (fun i hi=>hin i (h.sub i hi).1) b).1 hb'
 rw[← (end_ok F hin hC hb).2.2 j (h.sub j hj).1 hji];exact hj
theorem card_union_le {S A:BS}{s:Nat}(hs:s<1024)(h:∀i,S.getLsbD i=true→i=s∨A.getLsbD i=true):card S≤card A+1:=by
 by_cases hA:A.getLsbD s=true
 ·have:card S≤card A:=card_mono fun i hi=>by
   rcases h i hi with rfl|h
   ·exact hA
   ·exact h
  omega
 ·have hone:∀i,(ins 0 (s:Int)).getLsbD i=true↔i=s:=fun i=>by
   rw[bit_ins 0 hs];exact⟨fun h=>h.resolve_left (bit_zero i),.inr⟩
  have h1:=card_add (S:=A) (T:=ins 0 (s:Int)) (U:=A ||| ins 0 (s:Int)) (bit_or _ _) (by
   rintro i ⟨h1,h2⟩
   rw[(hone i).1 h2] at h1
   exact hA h1)
  rw[card_one hone] at h1
  rw[← h1]
  exact card_mono fun i hi=>(bit_or _ _ i).2 ((h i hi).elim (fun h=>.inr ((hone i).2 h)) .inl)
theorem sub_two (F:Fo fs T)(hin:∀i,part.getLsbD i=true→i<T.n)(hC:T.conn (bits part))(h2:card (outM fs part)≤2){s:Nat}(S:Spl fs T part s){C:BS}(h:Sub fs T part s C):card (outM fs C)≤2:=by
 have hle:=F.le
 have hs1:s<1024:=by have:=hin s S.mem;omega
 have hsub:=fun i=>sub_out F hin h (i:=i)
 by_cases hc:card (outM fs part)<2
 ·have:=card_union_le hs1 fun i hi=>hsub i hi
  omega
 ·obtain⟨a,b,l,he,hab,ha,hb⟩:=card_two hc
  have hl:l=[]:=by
   have:=card_elems (outM fs part)
   rw[he] at this
   simp at this
   exact List.eq_nil_of_length_eq_zero (by omega)
  have hall:∀i,(outM fs part).getLsbD i=true→i=a∨i=b:=fun i hi=>by
   have:=mem_elems.2 ⟨bit_lt hi,hi⟩
   rw[he,hl] at this
   simpa using this
  have hnot:¬((outM fs C).getLsbD a=true∧(outM fs C).getLsbD b=true):=by
   rintro⟨h1,h2⟩
   have c1:=sub_end F hin hC h ha h1
   have c2:=sub_end F hin hC h hb h2
   have:=h.conn _ _ (hin _ (h.sub _ c1).1) (hin _ (h.sub _ c2).1) c1 c2
   refine (S.two he).1 (this.mono fun i hi hh=>⟨hi,(h.sub i hh).2⟩)
  have hone:∀x,(outM fs part).getLsbD x=true→∀i,(ins 0 (x:Int)).getLsbD i=true↔i=x:=fun x hx i=>by
   rw[bit_ins 0 (bit_lt hx)];exact⟨fun h=>h.resolve_left (bit_zero i),.inr⟩
  by_cases hCa:(outM fs C).getLsbD a=true
  ·have:=card_union_le (S:=outM fs C) (A:=ins 0 (a:Int)) hs1 fun i hi=>by
    rcases hsub i hi with h|h
    ·exact .inl h
    ·rcases hall i h with rfl|rfl
     ·exact .inr ((hone i ha i).2 rfl)
     ·exact absurd ⟨hCa,hi⟩ hnot
   rw[card_one (hone a ha)] at this
   omega
  ·have:=card_union_le (S:=outM fs C) (A:=ins 0 (b:Int)) hs1 fun i hi=>by
    rcases hsub i hi with h|h
    ·exact .inl h
    ·rcases hall i h with rfl|rfl
     ·exact absurd hi hCa
     ·exact .inr ((hone i hb i).2 rfl)
   rw[card_one (hone b hb)] at this
   omega
end
def bl:Nat→Nat→Nat
 | 0,_=>0
 | f+1,n=>if n=0 then 0 else bl f (n / 2)+1
def splitter (fs:List BS)(part:BS):Nat:=splB fs part (outM fs part)
def subs (fs:List BS)(part:BS):List BS:=partsB fs (del part (splitter fs part:Int))
section
variable {fs:List BS}{T:Tr}
structure Pt (fs:List BS)(T:Tr)(part:BS):Prop where
 inn:∀i,part.getLsbD i=true→i<T.n
 conn:T.conn (bits part)
 ne:∃k,part.getLsbD k=true
 two:card (outM fs part)≤2
theorem Pt.spl {part:BS}(F:Fo fs T)(h:Pt fs T part):Spl fs T part (splitter fs part):=by
 obtain⟨k,hk⟩:=h.ne
 exact spl_ok F h.inn h.conn hk
theorem Pt.sub {part:BS}(F:Fo fs T)(h:Pt fs T part){C:BS}(hC:C∈subs fs part):Sub fs T part (splitter fs part) C:=parts_sub F h.inn (h.inn _ (h.spl F).mem) hC
theorem Pt.step {part:BS}(F:Fo fs T)(h:Pt fs T part){C:BS}(hC:C∈subs fs part):Pt fs T C∧card C<card part:=by
 have S:=h.sub F hC
 exact⟨⟨fun i hi=>h.inn i (S.sub i hi).1,S.conn,S.ne,sub_two F h.inn h.conn h.two (h.spl F) S⟩,card_lt (fun i hi=>(S.sub i hi).1) (h.spl F).mem fun hh=>(S.sub _ hh).2 rfl⟩
structure BNd (fs:List BS)(T:Tr)(L:List (Int×BS))(i:Nat)(up:Int)(P:BS):Prop where
 at':L[i]?=some (up,P)
 pt:Pt fs T P
 kid:∀C∈subs fs P,∃k,i<k∧L[k]?=some ((i:Int),C)
theorem BNd.app {i:Nat}{L M:List (Int×BS)}{up:Int}{P:BS}(h:BNd fs T L i up P):BNd fs T (L++M) i up P:=by
 have k1:∀{k:Nat} {x:Int×BS},L[k]?=some x→(L++M)[k]?=some x:=fun {k x} h=>by
  rw[List.getElem?_append_left (List.getElem?_eq_some_iff.1 h).1];exact h
 exact⟨k1 h.at',h.pt,fun C hC=>by obtain⟨k,h1,h2⟩:=h.kid C hC;exact⟨k,h1,k1 h2⟩⟩
def Ab (fs:List BS)(L:List (Int×BS))(i:Nat)(up:Int)(P:BS):Prop:=∃p u Q,up=((p:Nat):Int)∧p<i∧L[p]?=some (u,Q)∧P∈subs fs Q
theorem Ab.app {i:Nat}{L M:List (Int×BS)}{up:Int}{P:BS}(h:Ab fs L i up P):Ab fs (L++M) i up P:=by
 obtain⟨p,u,Q,h1,h2,h3,h4⟩:=h
 exact⟨p,u,Q,h1,h2,by rw[List.getElem?_append_left (List.getElem?_eq_some_iff.1 h3).1];exact h3,h4⟩
end
section
variable {fs:List BS}{T:Tr}
end
end Go.Mono
namespace Go.Mono
open Go Go.Proofs Go.RowKit

def belowB (n:Nat):BS:=BitVec.ofNat 1024 (2 ^ n - 1)
theorem below_bit (n i:Nat)(hi:i<1024):(belowB n).getLsbD i=decide (i<n):=by
 rw[belowB,BitVec.getLsbD_ofNat,Nat.testBit_two_pow_sub_one]
 simp[hi]

theorem adjL_len (t:List (Int×BS)):(adjL t).length=t.length:=by simp[adjL]

theorem below_bit' (n i:Nat)(hn:n≤1024):(belowB n).getLsbD i=true↔i<n:=by
 by_cases hi:i<1024
 ·rw[below_bit _ _ hi,decide_eq_true_eq]
 ·constructor
  ·intro h;exact absurd (bit_lt h) hi
  ·intro h;omega
theorem Pt.all {t:List (Int×BS)}{T:Tr}(F:Fo (adjL t) T)(h0:0<t.length):Pt (adjL t) T (belowB t.length)∧card (belowB t.length)≤t.length:=by
 have hn:T.n=t.length:=by rw[← F.len,adjL_len]
 have hle:=F.le
 have hb:∀i,(belowB t.length).getLsbD i=true↔i<T.n:=fun i=>by rw[below_bit' _ _ (by omega),hn]
 have hbits:bits (belowB t.length)=fun i=>i<T.n:=by funext i;exact propext (hb i)
 refine⟨⟨fun i hi=>(hb i).1 hi,by rw[hbits];exact Tr.conn_all,⟨0,(hb 0).2 (by omega)⟩,?_⟩,card_le_n fun i hi=>by rw[← hn];exact (hb i).1 hi⟩
 have:outM (adjL t) (belowB t.length)=0:=set_ext' fun k=>by
  rw[out_bit F (fun i hi=>(hb i).1 hi)]
  constructor
  ·rintro⟨h1,h2,_⟩;exact absurd ((hb k).2 h1) h2
  ·intro h;exact absurd h (bit_zero k)
 rw[this,card_zero];omega

end Go.Mono
namespace Go.Mono

inductive Und (o:List (Int×BS)):Nat→Nat→Prop
 | refl (k:Nat):Und o k k
 | step {k p i:Nat} (h:(bg o k).1=(p:Int)) (hu:Und o p i):Und o k i
theorem Und.trans {o:List (Int×BS)}{k j i:Nat}(h:Und o k j)(h':Und o j i):Und o k i:=by
 induction h with
 | refl=>exact h'
 | step h _ ih=>exact .step h (ih h')
section
variable {t:List (Int×BS)}{T:Tr}
end

theorem elems_pair (S:BS):(elems S).Pairwise (· < ·):=List.Pairwise.filter _ (List.pairwise_lt_range (n:=1024))
section
variable {t:List (Int×BS)}{S:BS}
end
end Go.Mono
namespace Go.Mono
open Go Go.Proofs Go.RowKit Go.Gr

theorem sorted_eq:∀(l m:List Int),l.Pairwise (· < ·)→m.Pairwise (· < ·)→(∀x,x∈l↔x∈m)→l=m
 | [],[],_,_,_=>rfl
 | [],b::m,_,_,h=>absurd ((h b).2 (List.mem_cons_self ..)) (by simp)
 | a::l,[],_,_,h=>absurd ((h a).1 (List.mem_cons_self ..)) (by simp)
 | a::l,b::m,hl,hm,h=>by
  obtain⟨l1,l2⟩:=List.pairwise_cons.1 hl
  obtain⟨m1,m2⟩:=List.pairwise_cons.1 hm
  have hab:a=b:=by
   rcases List.mem_cons.1 ((h a).1 (List.mem_cons_self ..)) with h1|h1
   ·exact h1
   rcases List.mem_cons.1 ((h b).2 (List.mem_cons_self ..)) with h2|h2
   ·exact h2.symm
   have:=m1 _ h1;have:=l1 _ h2;omega
  subst hab
  rw[sorted_eq l m l2 m2 fun x=>?_]
  constructor
  ·intro hx
   rcases List.mem_cons.1 ((h x).1 (List.mem_cons_of_mem _ hx)) with h1|h1
   ·have:=l1 _ hx;omega
   ·exact h1
  ·intro hx
   rcases List.mem_cons.1 ((h x).2 (List.mem_cons_of_mem _ hx)) with h1|h1
   ·have:=m1 _ hx;omega
   ·exact h1
section
variable {g:GT}{th:List Int}
theorem mem_ids (G:Gr.Ok g){x:Int}:x∈idsG g↔∃u:Nat,x=(u:Int)∧(vset g.1).getLsbD u=true:=by
 constructor
 ·intro h
  obtain⟨y,hy,rfl⟩:=List.mem_map.1 h
  have h3:=idOk_r (G.rv y hy).1
  exact⟨y.1.toNat,by omega,(mem_vset G).2 ⟨y,hy,by omega⟩⟩
 ·rintro⟨u,rfl,hu⟩
  obtain⟨y,hy,h⟩:=(mem_vset G).1 hu
  exact List.mem_map.2 ⟨y,hy,h⟩
theorem ids_sorted (G:Gr.Ok g):(idsG g).Pairwise (· < ·):=List.pairwise_map.2 (G.sv.imp fun h=>by simpa[lt1] using h)
theorem natE_sorted (S:BS):(natE (elems S)).Pairwise (· < ·):=List.pairwise_map.2 ((elems_pair S).imp fun h=>by omega)
end
def twG (g:GT):Int:=rsR (nbA g) (vset g.1) 0
section
variable {nb nb':Int→BS}{C S S':BS}
theorem reB_sub (h:∀i j:Nat,(nb' (i:Int)).getLsbD j=true→(nb (i:Int)).getLsbD j=true∧C.getLsbD j=true)(hS:∀u,S'.getLsbD u=true↔S.getLsbD u=true∧C.getLsbD u=true){v:Nat}(hv:v<1024) :
  rn nb' S' v≤rn nb S v:=by
 have hm:card (reB nb' S' (v:Int))≤card (reB nb S (v:Int)):=card_mono fun u hu=>by
  obtain⟨k1,k2,k3⟩:=(reB_bit hv).1 hu
  have hC:C.getLsbD u=true:=by
   cases k1 with
   | one h1=>exact (h _ _ h1).2
   | step _ _ h1=>exact (h _ _ h1).2
  have k1':Via nb S v u:=by
   clear hu k2 k3 hC
   induction k1 with
   | one h1=>exact .one (h _ _ h1).1
   | step _ ht h1 ih=>exact .step ih ((hS _).1 ht).1 (h _ _ h1).1
  exact (reB_bit hv).2 ⟨k1',fun hh=>k2 ((hS u).2 ⟨hh,hC⟩),k3⟩
 rw[rn,rn];omega
theorem ins_meet {v:Nat}(hv:v<1024)(hS:∀u,S'.getLsbD u=true↔S.getLsbD u=true∧C.getLsbD u=true)(hC:C.getLsbD v=true):∀u,(ins S' (v:Int)).getLsbD u=true↔(ins S (v:Int)).getLsbD u=true∧C.getLsbD u=true:=fun u=>by
 rw[bit_ins _ hv,bit_ins _ hv,hS]
 constructor
 ·rintro (⟨h1,h2⟩|rfl)
  ·exact⟨.inl h1,h2⟩
  ·exact⟨.inr rfl,hC⟩
 ·rintro⟨h1|h1,h2⟩
  ·exact .inl ⟨h1,h2⟩
  ·exact .inr h1
theorem ins_miss {v:Nat}(hv:v<1024)(hS:∀u,S'.getLsbD u=true↔S.getLsbD u=true∧C.getLsbD u=true)(hC:¬C.getLsbD v=true):∀u,S'.getLsbD u=true↔(ins S (v:Int)).getLsbD u=true∧C.getLsbD u=true:=fun u=>by
 rw[hS,bit_ins _ hv]
 constructor
 ·rintro⟨h1,h2⟩;exact⟨.inl h1,h2⟩
 ·rintro⟨h1|rfl,h2⟩
  ·exact⟨h1,h2⟩
  ·exact absurd h2 hC
theorem widL_sub (h:∀i j:Nat,(nb' (i:Int)).getLsbD j=true→(nb (i:Int)).getLsbD j=true∧C.getLsbD j=true):∀(l:List Nat) (S S':BS),(∀v∈l,v<1024)→(∀u,S'.getLsbD u=true↔S.getLsbD u=true∧C.getLsbD u=true) →
  widL nb' S' (l.filter fun v=>C.getLsbD v)≤widL nb S l
 | [],S,S',_,_=>Int.le_refl _
 | v::l,S,S',hl,hS=>by
  have hv:=hl v (List.mem_cons_self ..)
  have hl':=fun x hx=>hl x (List.mem_cons_of_mem v hx)
  by_cases hC:C.getLsbD v=true
  ·have h1:=widL_sub h l (ins S (v:Int)) (ins S' (v:Int)) hl' (ins_meet hv hS hC)
   have h2:=reB_sub h hS hv
   rw[List.filter_cons,if_pos hC,widL,widL];omega
  ·have h1:=widL_sub h l (ins S (v:Int)) S' hl' (ins_miss hv hS hC)
   rw[List.filter_cons,if_neg hC,widL];omega
end
section
variable {g h:GT}
theorem tw_sub (G:Gr.Ok g)(H:Gr.Ok h)(hl:g.1.length≤12)(hl':h.1.length≤12)(hV:∀i,(vset h.1).getLsbD i=true→(vset g.1).getLsbD i=true)(hE:∀i j:Nat,Adj h i j→Adj g i j):twG h≤twG g:=by
 obtain⟨o1,o2,o3⟩:=widO_ok G hl
 have h1:=widL_sub (nb:=nbA g) (nb':=nbA h) (C:=vset h.1) (fun i j hij=>⟨(nbA_bit G).2 (hE i j ((nbA_bit H).1 hij)),(((nbA_bit H).1 hij).inn H).2.1⟩) (widO g) 0 0 (fun v hv=>bit_lt ((o2 v).1 hv)) fun u=>⟨fun h=>absurd h (bit_zero u),fun h=>absurd h.1 (bit_zero u)⟩
 have h2:=rsR_low (nb:=nbA h) (all:=vset h.1) ((widO g).filter fun v=>(vset h.1).getLsbD v) 0 (o1.filter _) fun i=>by
  rw[diff_zero,List.mem_filter,o2]
  exact⟨fun h=>h.2,fun h=>⟨hV i h,h⟩⟩
 rw[twG,twG,← o3];omega
structure Part (g:GT)(C:BS)(h:GT):Prop where
 ok:Gr.Ok h
 vs:∀i,(vset h.1).getLsbD i=true↔(vset g.1).getLsbD i=true∧C.getLsbD i=true
 es:∀i j:Nat,Adj h i j↔Adj g i j∧C.getLsbD i=true∧C.getLsbD j=true
 len:h.1.length≤g.1.length
theorem Part.le {C:BS}(P:Part g C h)(G:Gr.Ok g)(hl:g.1.length≤12):twG h≤twG g:=
 tw_sub G P.ok hl (Nat.le_trans P.len hl) (fun i hi=>((P.vs i).1 hi).1) fun i j hij=>((P.es i j).1 hij).1
end

section
variable {g h:GT}
theorem ids_elems (G:Gr.Ok g):natE (elems (vset g.1))=idsG g:=sorted_eq _ _ (natE_sorted _) (ids_sorted G) fun x=>by
 rw[mem_ids G,natE,List.mem_map]
 exact⟨fun⟨u,h1,h2⟩=>⟨u,h2.symm,(mem_elems.1 h1).2⟩,fun⟨u,h1,h2⟩=>⟨u,mem_elems.2 ⟨bit_lt h2,h2⟩,h1.symm⟩⟩
theorem card_vs (G:Gr.Ok g):card (vset g.1)=g.1.length:=by
 have h:=congrArg List.length (ids_elems G)
 rw[natE,List.length_map,card_elems,idsG,List.length_map] at h
 exact h
theorem nb_in (G:Gr.Ok g):∀i j:Nat,(nbA g (i:Int)).getLsbD j=true→(vset g.1).getLsbD j=true:=fun i j h=>(((nbA_bit G).1 h).inn G).2.1
end

def nxN (nb:Int→BS)(at':BS):BS:=(elems at').foldl (fun (s:BS) (i:Nat)=>s ||| nb (i:Int)) 0
theorem nxTo_bit (nb:Int→BS){j:Nat}:∀(l:List Nat) (s:BS),(l.foldl (fun (s:BS) (i:Nat)=>s ||| nb (i:Int)) s).getLsbD j=true↔s.getLsbD j=true∨∃i∈l,(nb (i:Int)).getLsbD j=true
 | [],s=>by simp
 | i::l,s=>by
  rw[List.foldl_cons,nxTo_bit nb l,bit_or]
  constructor
  ·rintro ((h|h)|⟨k,hk,h⟩)
   ·exact .inl h
   ·exact .inr ⟨i,List.mem_cons_self ..,h⟩
   ·exact .inr ⟨k,List.mem_cons_of_mem _ hk,h⟩
  ·rintro (h|⟨k,hk,h⟩)
   ·exact .inl (.inl h)
   ·rcases List.mem_cons.1 hk with rfl|hk
    ·exact .inl (.inr h)
    ·exact .inr ⟨k,hk,h⟩
theorem nxN_bit {nb:Int→BS}{at':BS}{j:Nat}:(nxN nb at').getLsbD j=true↔∃i,at'.getLsbD i=true∧(nb (i:Int)).getLsbD j=true:=by
 rw[nxN,nxTo_bit]
 constructor
 ·rintro (h|⟨i,hi,h⟩)
  ·exact absurd h (bit_zero j)
  ·exact⟨i,(mem_elems.1 hi).2,h⟩
 ·rintro⟨i,hi,h⟩;exact .inr ⟨i,mem_elems.2 ⟨bit_lt hi,hi⟩,h⟩
def lvF (nb:Int→BS):Nat→BS→BS→List BS
 | 0,_,_=>[]
 | f+1,at',seen=>if at'=0 then [] else at'::lvF nb f (nxN nb at' &&& ~~~seen) (seen ||| (nxN nb at' &&& ~~~seen))
def unL (l:List BS):BS:=l.foldl (fun s r=>s ||| r) 0
theorem unTo_bit {j:Nat}:∀(l:List BS) (s:BS),(l.foldl (fun s r=>s ||| r) s).getLsbD j=true↔s.getLsbD j=true∨∃r∈l,r.getLsbD j=true
 | [],s=>by simp
 | r::l,s=>by
  rw[List.foldl_cons,unTo_bit l,bit_or,or_assoc]
  constructor
  ·rintro (h|h|⟨k,hk,h⟩)
   ·exact .inl h
   ·exact .inr ⟨r,List.mem_cons_self ..,h⟩
   ·exact .inr ⟨k,List.mem_cons_of_mem _ hk,h⟩
  ·rintro (h|⟨k,hk,h⟩)
   ·exact .inl h
   ·rcases List.mem_cons.1 hk with rfl|hk
    ·exact .inr (.inl h)
    ·exact .inr (.inr ⟨k,hk,h⟩)
theorem unL_bit {l:List BS}{j:Nat}:(unL l).getLsbD j=true↔∃r∈l,r.getLsbD j=true:=by
 rw[unL,unTo_bit]
 exact⟨fun h=>h.resolve_left (bit_zero j),.inr⟩
theorem card_le_1024 (S:BS):card S≤1024:=by
 rw[← card_elems,elems]
 have:=List.length_filter_le (fun i=>S.getLsbD i) (List.range 1024)
 rwa [List.length_range] at this
theorem lv_ok {nb:Int→BS}:∀(f:Nat) (at' seen:BS),1024<f+card seen∨at'=0→(∀i,at'.getLsbD i=true→seen.getLsbD i=true)→(∀i j:Nat,seen.getLsbD i=true→¬at'.getLsbD i=true→(nb (i:Int)).getLsbD j=true→seen.getLsbD j=true) →
  (∀i j:Nat,(seen.getLsbD i=true∨(unL (lvF nb f at' seen)).getLsbD i=true)→(nb (i:Int)).getLsbD j=true→seen.getLsbD j=true∨(unL (lvF nb f at' seen)).getLsbD j=true) ∧
  ∀K:BS,(∀i,seen.getLsbD i=true→K.getLsbD i=true)→(∀i j:Nat,K.getLsbD i=true→(nb (i:Int)).getLsbD j=true→K.getLsbD j=true)→∀i,(unL (lvF nb f at' seen)).getLsbD i=true→K.getLsbD i=true:=by
 intro f
 induction f with
 | zero=>
  intro at' seen hf hin hcl
  have h0:at'=0:=by
   rcases hf with h|h
   ·have:=card_le_1024 seen;omega
   ·exact h
  have hno:∀i,¬(unL (lvF nb 0 at' seen)).getLsbD i=true:=fun i h=>by
   obtain⟨r,hr,_⟩:=unL_bit.1 h
   cases hr
  refine⟨fun i j hi hij=>?_,fun K _ _ i h=>absurd h (hno i)⟩
  rcases hi with hi|hi
  ·exact .inl (hcl i j hi (by rw[h0];exact bit_zero i) hij)
  ·exact absurd hi (hno i)
 | succ f ih=>
  intro at' seen hf hin hcl
  by_cases h0:at'=0
  ·have hl:lvF nb (f+1) at' seen=[]:=by rw[lvF,if_pos h0]
   rw[hl]
   have hno:∀i,¬(unL []).getLsbD i=true:=fun i h=>by
    obtain⟨r,hr,_⟩:=unL_bit.1 h
    cases hr
   refine⟨fun i j hi hij=>?_,fun K _ _ i h=>absurd h (hno i)⟩
   rcases hi with hi|hi
   ·exact .inl (hcl i j hi (by rw[h0];exact bit_zero i) hij)
   ·exact absurd hi (hno i)
  ·have hl:lvF nb (f+1) at' seen=at'::lvF nb f (nxN nb at' &&& ~~~seen) (seen ||| (nxN nb at' &&& ~~~seen)):=by rw[lvF,if_neg h0]
   rw[hl]
   obtain⟨a2,ha2⟩:∃a2,a2=nxN nb at' &&& ~~~seen:=⟨_,rfl⟩
   have hb:∀j,a2.getLsbD j=true↔(∃i,at'.getLsbD i=true∧(nb (i:Int)).getLsbD j=true)∧¬seen.getLsbD j=true:=fun j=>by rw[ha2,bit_diff,nxN_bit]
   rw[← ha2]
   have hU:∀i,(unL (at'::lvF nb f a2 (seen ||| a2))).getLsbD i=true↔at'.getLsbD i=true∨(unL (lvF nb f a2 (seen ||| a2))).getLsbD i=true:=fun i=>by
    rw[unL_bit,unL_bit]
    constructor
    ·rintro⟨r,hr,h⟩
     rcases List.mem_cons.1 hr with rfl|hr
     ·exact .inl h
     ·exact .inr ⟨r,hr,h⟩
    ·rintro (h|⟨r,hr,h⟩)
     ·exact⟨at',List.mem_cons_self ..,h⟩
     ·exact⟨r,List.mem_cons_of_mem _ hr,h⟩
   have hfu:1024<f+card (seen ||| a2)∨a2=0:=by
    by_cases h2:a2=0
    ·exact .inr h2
    ·left
     obtain⟨z,hz⟩:∃z,a2.getLsbD z=true:=Classical.byContradiction fun hn=>h2 (set_ext' fun k=>⟨fun h=>absurd ⟨k,h⟩ hn,fun h=>absurd h (bit_zero k)⟩)
     have:=card_lt (S:=seen) (T:=seen ||| a2) (z:=z) (fun i hi=>(bit_or _ _ _).2 (.inl hi)) ((bit_or _ _ _).2 (.inr hz)) ((hb z).1 hz).2
     rcases hf with h|h
     ·omega
     ·exact absurd h h0
   obtain⟨k1,k2⟩:=ih a2 (seen ||| a2) hfu (fun i hi=>(bit_or _ _ _).2 (.inr hi)) fun i j hi hni hij=>by
    rcases (bit_or _ _ _).1 hi with hi|hi
    ·by_cases hat:at'.getLsbD i=true
     ·by_cases hs:seen.getLsbD j=true
      ·exact (bit_or _ _ _).2 (.inl hs)
      ·exact (bit_or _ _ _).2 (.inr ((hb j).2 ⟨⟨i,hat,hij⟩,hs⟩))
     ·exact (bit_or _ _ _).2 (.inl (hcl i j hi hat hij))
    ·exact absurd hi hni
   have hsub:∀i,a2.getLsbD i=true→(unL (lvF nb f a2 (seen ||| a2))).getLsbD i=true:=fun i hi=>by
    have hne:a2≠0:=fun h=>by rw[h] at hi;exact bit_zero _ hi
    cases f with
    | zero=>
     rcases hfu with h|h
     ·have:=card_le_1024 (seen ||| a2);omega
     ·exact absurd h hne
    | succ f=>rw[lvF,if_neg hne,unL_bit];exact⟨a2,List.mem_cons_self ..,hi⟩
   constructor
   ·intro i j hi hij
    rw[hU] at hi ⊢
    have h3:(seen ||| a2).getLsbD i=true∨(unL (lvF nb f a2 (seen ||| a2))).getLsbD i=true:=by
     rcases hi with h|h|h
     ·exact .inl ((bit_or _ _ _).2 (.inl h))
     ·exact .inl ((bit_or _ _ _).2 (.inl (hin i h)))
     ·exact .inr h
    rcases k1 i j h3 hij with h|h
    ·rcases (bit_or _ _ _).1 h with h|h
     ·exact .inl h
     ·exact .inr (.inr (hsub j h))
    ·exact .inr (.inr h)
   ·intro K hK hKc i hi
    rcases (hU i).1 hi with h|h
    ·exact hK i (hin i h)
    ·refine k2 K (fun u hu=>?_) hKc i h
     rcases (bit_or _ _ _).1 hu with hu|hu
     ·exact hK u hu
     ·obtain⟨⟨x,hx,hxu⟩,_⟩:=(hb u).1 hu
      exact hKc x u (hK x (hin x hx)) hxu
def lvB (nb:Int→BS)(a:Nat):List BS:=lvF nb 1025 (ins 0 (a:Int)) (ins 0 (a:Int))
theorem lvB_ok {nb:Int→BS}{a:Nat}(ha:a<1024):(unL (lvB nb a)).getLsbD a=true∧(∀i j:Nat,(unL (lvB nb a)).getLsbD i=true→(nb (i:Int)).getLsbD j=true→(unL (lvB nb a)).getLsbD j=true) ∧
  ∀K:BS,K.getLsbD a=true→(∀i j:Nat,K.getLsbD i=true→(nb (i:Int)).getLsbD j=true→K.getLsbD j=true)→∀i,(unL (lvB nb a)).getLsbD i=true→K.getLsbD i=true:=by
 have h1:∀i,(ins 0 (a:Int)).getLsbD i=true↔i=a:=fun i=>by
  rw[bit_ins _ ha]
  exact⟨fun h=>h.resolve_left (bit_zero i),.inr⟩
 have hne:ins 0 (a:Int)≠0:=fun h=>by
  have:=(h1 a).2 rfl
  rw[h] at this;exact bit_zero _ this
 obtain⟨k1,k2⟩:=lv_ok (nb:=nb) 1025 (ins 0 (a:Int)) (ins 0 (a:Int)) (.inl (by omega)) (fun i h=>h) fun i j h h'=>absurd h h'
 have h2:(unL (lvB nb a)).getLsbD a=true:=by
  rw[lvB,lvF,if_neg hne,unL_bit];exact⟨_,List.mem_cons_self ..,(h1 a).2 rfl⟩
 refine⟨h2,fun i j hi hij=>?_,fun K hK hKc=>k2 K (fun i hi=>by rw[(h1 i).1 hi];exact hK) hKc⟩
 rcases k1 i j (.inr hi) hij with h|h
 ·rw[(h1 j).1 h];exact h2
 ·exact h
def oBL (o:Option Nat)(k:Nat→List BS):List BS:=match o with
 | none=>[]
 | some a=>k a
def prF (nb:Int→BS):Nat→BS→List BS
 | 0,_=>[]
 | f+1,left=>oBL (minOf left) fun a=>unL (lvB nb a)::prF nb f (left &&& ~~~unL (lvB nb a))
theorem prF_none {nb:Int→BS}{left:BS}(h:minOf left=none)(f:Nat):prF nb (f+1) left=[]:=by
 show oBL (minOf left) _=[]
 rw[h];rfl
theorem prF_some {nb:Int→BS}{left:BS}{a:Nat}(h:minOf left=some a)(f:Nat):prF nb (f+1) left=unL (lvB nb a)::prF nb f (left &&& ~~~unL (lvB nb a)):=by
 show oBL (minOf left) _=_
 rw[h];rfl

theorem lvF_zero (nb:Int→BS)(f:Nat)(seen:BS):lvF nb f 0 seen=[]:=by
 cases f with
 | zero=>rfl
 | succ f=>rw[lvF,if_pos rfl]
theorem lv_step {nb:Int→BS}{at' seen:BS}{r:Nat}(h0:at'≠0)(hf:1024<r+card seen∨at'=0) :
  ∃f,r=f+1∧lvF nb r at' seen=at'::lvF nb f (nxN nb at' &&& ~~~seen) (seen ||| (nxN nb at' &&& ~~~seen))∧(1024<f+card (seen ||| (nxN nb at' &&& ~~~seen))∨nxN nb at' &&& ~~~seen=0):=by
 have h1:=hf.resolve_right h0
 have h2:=card_le_1024 seen
 obtain⟨f,rfl⟩:∃f,r=f+1:=⟨r - 1,by omega⟩
 refine⟨f,rfl,by rw[lvF,if_neg h0],?_⟩
 generalize ha2:nxN nb at' &&& ~~~seen=a2
 by_cases h3:a2=0
 ·exact .inr h3
 ·left
  obtain⟨z,hz⟩:∃z,a2.getLsbD z=true:=Classical.byContradiction fun hn=>h3 (set_ext' fun k=>⟨fun h=>absurd ⟨k,h⟩ hn,fun h=>absurd h (bit_zero k)⟩)
  have:=card_lt (S:=seen) (T:=seen ||| a2) (z:=z) (fun i hi=>(bit_or _ _ _).2 (.inl hi)) ((bit_or _ _ _).2 (.inr hz)) (by
   rw[← ha2] at hz;exact ((bit_diff _ _ _).1 hz).2)
  omega
def nxP (nb:Int→BS)(s:List Nat):BS:=s.foldl (fun (s:BS) (i:Nat)=>s ||| nb (i:Int)) 0
theorem nxP_app (nb:Int→BS)(s:List Nat)(y:Nat):nxP nb (s++[y])=nxP nb s ||| nb (y:Int):=by rw[nxP,List.foldl_append];rfl
theorem Ds.gro {D:List Nat}{w w':World}{row:Option Nat}(h:Ds D w)(hg:w.grownBy w' row)(hb:∀d∈D,row≠some d):Ds D w':=⟨h.1,fun d hd=>(hg.block d (h.lt hd) (fun he=>hb d hd he.symm)).trans (h.2 d hd)⟩
structure LvK (W:World)(N0 N:Nat)(S0:BS)(mq:Value)(l:List (Int×BS))(b2 b5 b6:Nat)(u:Value)(out:List BS)(at' seen:BS)(D:List Nat)(w:World):Prop where
 e:Ext W w
 t:Tab w
 hv:(Dv (mpE sKV N0) (GB W G0) l).p mq w
 b2:Blk w b2 (adC S0 mq) 79
 b5:Blk w b5 (setC at') 76
 b6:Blk w b6 (setC seen) 76
 o:OwR setE 76 N G0 w out u
 ds:Ds D w
theorem LvK.kp {W:World}{N0 N:Nat}{S0:BS}{mq:Value}{l:List (Int×BS)}{b2 b5 b6:Nat}{u:Value}{out:List BS}{at' seen:BS}{D:List Nat}{B:Nat}{w w':World}(h:LvK W N0 N S0 mq l b2 b5 b6 u out at' seen D w)(k:Kp B w w')(hW:W.heap.size≤B)(h0:0<B)(l2:b2<B)(l5:b5<B)(l6:b6<B)(lu:∀g,u.ownBlock=some g→g<B)(hD:∀d∈D,d<B) :
  LvK W N0 N S0 mq l b2 b5 b6 u out at' seen D w':=
 have no:∀{b},b<B→¬Hole B b:=fun h hh=>by have:=hh.1;omega
 ⟨h.e.kp k hW,h.t.kp k h0,Dv.ch h.hv k.chg (fun b hb=>.inr (by have:=hb.1;omega)),h.b2.kp k (no l2),h.b5.kp k (no l5),h.b6.kp k (no l6),h.o.chE k.chg fun g hg=>no (lu g hg),h.ds.ch k.chg fun d hd=>no (hD d hd)⟩
theorem levels_spec {G:Nat→Prop}{N0:Nat}(l:List (Int×BS))(S0:BS)(mq:Value)(x:Nat)(W:World)(hT:Tab W)(h:(Dv (mpE sKV N0) G l).p mq W)(hx:x<1024) :
  Calls Tryz.prog 52 #[.agg (adC S0 mq),I (x:Nat)] W (Post (OwA setE 76 W.heap.size G0 (lvB (lkS l) x)) W):=by
 have HV:(Dv (mpE sKV N0) (GB W G0) l).p mq W:=Dv.toB (Dv.weak h fun b _ hb=>hb.elim)
 have hT0:=hT.lt
 refine enterM (args:=[.agg (adC S0 mq),I (x:Nat)]) (As:=[E (.agg (adC S0 mq)),E (I (x:Nat))]) Tryz.func52 rfl Tryz.ntmps52 (Nat.le_of_ble_eq_true rfl) ?_ (fun a hf=>?_) (Nat.le_of_ble_eq_true rfl)
 ·exact arg2 rfl rfl
 dsimp only[params,Nat.reduceAdd] at hf
 have e:=Ext.rfl' W
 refine seq <| regn0 <| tB hf rfl fun a b2 w v2 hv2 e' hb2 hs2 B2 hf=>?_
 obtain⟨hT,HV,e⟩:=up3 e' hT HV e
 refine tA hf rfl fun a hf=>tl_nil ?_
 cases hv2
 replace B2:Blk w b2 (adC S0 mq) 79:=B2
 replace hf:=hf.kp [1,2]
 refine seq <| rgN 6 hf <| st (mv rfl) <| st (bsl1 (e:=intE) (G:=G0) U35 I3 rfl (by decide) rfl (fun b hb=>hb.elim) (isI rfl)) <| st ((call1 En63 rfl (fun v w he h=>of_spec [(x:Int)] v w h (by simp))).eq (congrArg setV (fold1 (x:Int) 0))) <| st (mv rfl) <| st (bsl1 (e:=intE) (G:=G0) U35 I3 rfl (by decide) rfl (fun b hb=>hb.elim) (isI rfl)) <| st ((call1 En63 rfl (fun v w he h=>of_spec [(x:Int)] v w h (by simp))).eq (congrArg setV (fold1 (x:Int) 0))) <| en fun a w e' hf=>?_
 obtain⟨hT,HV,e,B2⟩:=up4 e' hT HV e B2
 refine tL I76 hf fun a b5 w e' hb5 hs5 B5 hf=>?_
 have lt5_B2:=B2.lt
 obtain⟨hT,HV,e,B2⟩:=up4 e' hT HV e B2
 refine tL I76 hf fun a b6 w e' hb6 hs6 B6 hf=>?_
 obtain⟨hT,HV,e,B2,B5⟩:=up5 e' hT HV e B2 B5
 replace hf:=hf.kp [2,5,6,12,15]
 refine tl_stW T76 hf rfl rfl (wordsC_one _) B5 rfl (setC_size _) fun w hg hsz B5 hf=>?_
 obtain⟨e,hT,HV,B2,B6⟩:=gr5 hg e hT HV B2 B6
 refine tl_stW T76 hf rfl rfl (wordsC_one _) B6 rfl (setC_size _) fun w hg hsz B6 hf=>?_
 obtain⟨e,hT,HV,B2,B5⟩:=gr5 hg e hT HV B2 B5
 refine tl_nil ?_
 replace hf:=hf.keep [2,5,6]
 have n6:b2≠b5∧b2≠b6∧b5≠b6∧W.heap.size≤b2∧W.heap.size≤b5∧W.heap.size≤b6:=by omega
 refine seq <| regn0 <| tA hf rfl fun a hf=>tl_nil ?_
 obtain⟨N,hN⟩:∃N,N=w.heap.size:=⟨_,rfl⟩
 have Ho:OwR setE 76 N G0 w [] (.slice none 0 0):=OwR.nil setE _ (Nat.le_of_eq hN) (fun b hb=>hb.elim)
 have hlN:b2<N∧b5<N∧b6<N∧W.heap.size≤N:=by have h1:=B2.lt;have h2:=B5.lt;have h3:=B6.lt;omega
 have hfu0:1024<1025+card (ins 0 (x:Int))∨ins 0 (x:Int)=0:=.inl (by omega)
 replace hf:=hf.keep [2,5,6,7]
 refine seq <| blk (loopN (fun r0 a w=>∃(at' seen:BS) (out:List BS) (u:Value) (D:List Nat),(1024<r0+card seen∨at'=0)∧out.length+r0≤1025∧out++lvF (lkS l) r0 at' seen=lvB (lkS l) x∧FrD 39 (marks D) a w [(2,E (ptr b2)),(5,E (ptr b5)),(6,E (ptr b6)),(7,E u)] ∧
  LvK W N0 N S0 mq l b2 b5 b6 u out at' seen D w∧∀d∈D,W.heap.size≤d) 1025 ⟨ins 0 (x:Int),ins 0 (x:Int),[],.slice none 0 0,[],hfu0,by simp,by rw[List.nil_append,lvB],hf,⟨e,hT,HV,B2,B5,B6,Ho,Ds.nil _⟩,fun d hd=>by cases hd⟩ ?_)
 rintro r0 a w ⟨at',seen,out,u,D,hfu,hle,hR,hf,⟨e,hT,HV,B2,B5,B6,Ho,hD⟩,hDW⟩
 repeat refine seq ?_
 refine rgN 3 hf <| st ((ldW T76 rfl B5 rfl).eq ((rfl:_=setV at'))) <| st (call1 (A:=E (B (at'==0))) En65 rfl (fun v w he h=>by cases h;exact isEmpty_spec _ w)) ?_
 refine st (notp rfl) <| en fun a w e' hf=>?_
 obtain⟨hT,HV,e,B2,B5,B6,hD,Ho⟩:=up8 e' hT HV e B2 B5 B6 hD Ho
 refine tl_nil <| ifc hf rfl (fun hc=>wskip ?_) (fun hc=>wexit ?_)
 rotate_left
 ·have h0:at'=0:=by simpa using hc
  subst h0
  rw[lvF_zero,List.append_nil] at hR
  replace hf:=hf.keep [7]
  refine seq <| rgN 1 hf <| st (mv rfl) <| en fun a w e' hf=>?_
  obtain⟨e,hD,Ho⟩:=up3 e' e hD Ho
  refine tA hf rfl fun a hf=>tl_nil <| wret <| ret1M rfl hf rfl hD ⟨_,rfl,e.shut hDW,?_⟩
  rw[← hR]
  exact (Ho.chE (chg_shut D w) fun b hb hm=>Ho.neDs hD hm hb).low (by omega) fun b hb=>hb.elim
 have hne:at'≠0:=by
  intro h
  simp[h] at hc
 obtain⟨f,rfl,hst,hfu2⟩:=lv_step (nb:=lkS l) hne hfu
 rw[hst] at hR
 refine blk ?_
 replace hf:=hf.kp [2,5,6,7]
 refine seq <| rgN 3 hf <| st (mv rfl) <| st ((ldW T76 rfl B5 rfl).eq ((rfl:_=setV at'))) <| st (bsl1 U83 I76 rfl (by decide) rfl Ho.avs (isS rfl)) <| en fun a w e' hf=>?_
 obtain⟨hT,HV,B2,B5,B6,hD,Ho,e⟩:=up8 e' hT HV B2 B5 B6 hD Ho e
 haveI hin:∀G0,InR (GB W G0) _:=OwR.inGB (W:=W) Ho (by omega)
 refine tl_app U83 I76 rfl rfl hf (by decide) rfl Ho (isR rfl) (by simp only[List.length_singleton];omega) (by simp only[List.length_singleton,maxLen];omega) fun a v w hg hat Hn hf=>?_
 replace e:=e.gro hg (Ho.row (W:=W) (by omega))
 have hrow:=Ho.row (W:=W) (by omega)
 replace hT:=hT.gro hg (fun b hb=>by have:=hrow b hb;omega)
 replace HV:=Dv.gro HV hg (fun b hb=>.inr (hrow b hb))
 replace B2:=B2.gro hg (Ho.neLt (by omega))
 replace B5:=B5.gro hg (Ho.neLt (by omega))
 replace B6:=B6.gro hg (Ho.neLt (by omega))
 replace hD:=hD.gro hg fun d hd=>Ho.neDs hD hd
 replace Ho:=Hn
 replace Ho:=Hn;clear Hn hg hat hin
 refine tA hf rfl fun a hf=>tl_nil ?_
 replace hf:=hf.keep [2,5,6,7]
 refine seq <| regn0 <| tL I76 hf fun a b8 w e' hb8 hs8 B8 hf=>?_
 have hle8:=Nat.le_trans e.size (Nat.le_of_eq hb8.symm)
 have ne8_Ho:=Ho.ne_new hb8
 have lt8_B5:=B5.lt
 have lt8_B6:=B6.lt
 obtain⟨hT,HV,e,B2,B5,B6,hD,Ho⟩:=up8 e' hT HV e B2 B5 B6 hD Ho
 refine tl_nil ?_
 simp only[Value.cells,zeroC] at B8
 have hW8:W.heap.size≤b8:=hle8
 have n8:b2≠b8∧b5≠b8∧b6≠b8:=by have:=B2.lt;have:=B5.lt;have:=B6.lt;omega
 have hu8:=ne8_Ho
 have hD8:¬b8∈D:=hD.ne B8
 replace hf:=hf.keep [2,5,6,7,8]
 obtain⟨Nz,hNz⟩:∃Nz,Nz=w.heap.size:=⟨_,rfl⟩
 repeat refine seq ?_
 refine rgN 2 hf <| st ((ldW T76 rfl B5 rfl).eq ((rfl:_=setV at'))) <| st (call1 (A:=SeqA Nz at') En62 rfl (fun v w' he h=>by cases h;exact Calls.mono (all_spec _ w') (fun en w2 ⟨u,h1,h2,b',h3,h4,h5⟩=>⟨u,h1,h2,b',by have:=he.size;omega,h4,h5⟩))) ?_
 refine en fun a w e' hf=>?_
 obtain⟨hT,HV,e,B2,B5,B6,B8,hD,Ho⟩:=up9 e' hT HV e B2 B5 B6 B8 hD Ho
 refine tl_nil ?_
 obtain⟨vv,⟨b24,h24,rfl,BS⟩,hf⟩:=hf.fix 24 rfl
 replace hf:=hf.kp [2,5,6,7,8,24]
 have l2:=B2.lt
 have l5:=B5.lt
 have l6:=B6.lt
 have l8:=B8.lt
 have lu:∀g,v.ownBlock=some g→g<w.heap.size:=fun g hg=>(Ho.lt hg).2
 have lD:∀d∈D,d<w.heap.size:=fun d hd=>hD.lt hd
 have hBW:W.heap.size≤w.heap.size:=e.size
 have h0w:0<w.heap.size:=hT.lt
 refine blk <| range_all3 (S:=at') hf rfl BS (by decide) (fun s w1=>LvK W N0 N S0 mq l b2 b5 b6 v (out++[at']) at' seen D w1∧Blk w1 b8 (setC (nxP (lkS l) s)) 76) (fun _ _=>False) (fun s w1 h=>h.1.t)
  ⟨⟨e,hT,HV,B2,B5,B6,Ho,hD⟩,B8⟩ (fun s w1 w2 h hs k=>⟨h.1.kp k hBW h0w l2 l5 l6 lu lD,h.2.kp k (fun hh=>by have:=hh.1;omega)⟩) (fun _ _ _ h=>h.elim) ?_ ?_ (fun _ _ _ _ _ _ h=>h.elim)
 ·intro lp s y rest a1 w1 hs hJ hlw hf
  have hy1024:y<1024:=(mem_elems.1 (by rw[hs];simp)).1
  generalize hBz:w.heap.size=Bz at *
  refine regn0 <| tA hf rfl fun a hf=>tl_nil <| ⟨Kh.rfl' _ _,fun w3 k3 hsz3=>?_⟩
  have hJ3:=hJ.1.kp k3 hBW h0w l2 l5 l6 lu lD
  have hJ8:=hJ.2.kp k3 (fun hh=>by have:=hh.1;omega)
  replace hf:=hf.pure w3
  obtain⟨e,hT,HV,B2,B5,B6,Ho,hD⟩:=hJ3
  have B8:=hJ8
  have kh:=Kh.rfl' Bz w3
  obtain⟨X,hX⟩:∃X,X=nxP (lkS l) s:=⟨_,rfl⟩
  rw[← hX] at B8
  replace hf:=hf.kp [2,5,6,7,8,9]
  refine blk <| rgN 6 hf <| st ((ldW T76 rfl B8 rfl).eq ((rfl:_=setV X))) <| st (fA U79 rfl T77 rfl) <| st (ld1 (v:=mq) T77 rfl B2 (adC_map _ _)) <| st (mv rfl) <| st (lkM (l:=l) (i:=(y:Int)) U77 zero_set (isE rfl HV) rfl (wf64 (by omega) (by omega))) <| st (call2 (A:=E (setV (X ||| lkS l (y:Int)))) En73 rfl rfl (fun v u w he h h'=>by cases h;cases h';exact union_spec X _ w)) ?_
  refine en fun a w e' hf=>?_
  obtain⟨hT,HV⟩:=up2 e' hT HV
  replace kh:=kh.tr (Kh.ext e')
  obtain⟨e,B2,B5,B6,B8,hD,Ho⟩:=up7 e' e B2 B5 B6 B8 hD Ho
  refine tl_stW T76 hf rfl rfl (wordsC_one _) B8 rfl (setC_size _) fun w hg hsz B8 hf=>?_
  obtain⟨e,hT,HV,B2,B5,B6⟩:=gr6 hg e hT HV B2 B5 B6
  replace Ho:=Ho.grE hg hu8;replace hD:=hD.gr hg hD8
  replace kh:=kh.tr (Kh.gr hg (fun hh=>by have:=hh.1;omega))
  refine tl_nil ?_
  simp only[Exit.inBlock]
  exact⟨⟨⟨e,hT,HV,B2,B5,B6,Ho,hD⟩,by rw[nxP_app,← hX];exact B8⟩,kh⟩
 ·intro a' w' hf' hJ hsz hDn
  simp only[Exit.inBlock,↓reduceIte,Exit.then]
  have hD2:Ds (w.heap.size::D) w':=hJ.1.ds.cons hDn fun hm=>Nat.lt_irrefl _ (lD _ hm)
  have hf:FrD 39 (marks (w.heap.size::D)) a' w' [(2,E (ptr b2)),(5,E (ptr b5)),(6,E (ptr b6)),(7,E v),(8,E (ptr b8))]:=hf'.keep [2,5,6,7,8]
  have hDW2:∀d∈w.heap.size::D,W.heap.size≤d:=fun d hd=>by
   rcases List.mem_cons.1 hd with rfl|hd
   ·exact hBW
   ·exact hDW d hd
  obtain⟨⟨e,hT,HV,B2,B5,B6,Ho,_⟩,B8⟩:=hJ
  replace hD:=hD2
  generalize w.heap.size::D=D2 at *
  generalize w'=w at *
  replace B8:Blk w b8 (setC (nxN (lkS l) at')) 76:=B8
  obtain⟨nx,hnx⟩:∃nx,nx=nxN (lkS l) at':=⟨_,rfl⟩
  rw[← hnx] at B8 hR hfu2
  obtain⟨a2,ha2⟩:∃a2,a2=nx &&& ~~~seen:=⟨_,rfl⟩
  rw[← ha2] at hR hfu2
  refine seq <| rgN 3 hf <| st ((ldW T76 rfl B8 rfl).eq ((rfl:_=setV nx))) <| st ((ldW T76 rfl B6 rfl).eq ((rfl:_=setV seen))) <| st (call2 (A:=E (setV a2)) En104 rfl rfl (fun v u w he h h'=>by cases h;cases h';rw[ha2];exact minus_spec nx seen w)) ?_
  refine en fun a w e' hf=>?_
  obtain⟨hT,HV,e,B2,B5,B6,B8,hD,Ho⟩:=up9 e' hT HV e B2 B5 B6 B8 hD Ho
  have hD5:=hD.ne B5
  have hD6:=hD.ne B6
  have hu5:v.ownBlock≠some b5:=Ho.neLt (by omega)
  have hu6:v.ownBlock≠some b6:=Ho.neLt (by omega)
  refine tl_stW T76 hf rfl rfl (wordsC_one _) B5 (setC_size _) (setC_size _) fun w hg hsz B5 hf=>?_
  obtain⟨e,hT,HV,B2,B6⟩:=gr5 hg e hT HV B2 B6
  replace Ho:=Ho.grE hg hu5;replace hD:=hD.gr hg hD5
  refine tl_nil ?_
  replace hf:=hf.kp [2,5,6,7]
  refine rgN 3 hf <| st ((ldW T76 rfl B6 rfl).eq ((rfl:_=setV seen))) <| st ((ldW T76 rfl B5 rfl).eq ((rfl:_=setV a2))) <| st (call2 (A:=E (setV (seen ||| a2))) En73 rfl rfl (fun v u w he h h'=>by cases h;cases h';exact union_spec seen a2 w)) ?_
  refine en fun a w e' hf=>?_
  obtain⟨hT,HV,e,B2,B5,B6,hD,Ho⟩:=up8 e' hT HV e B2 B5 B6 hD Ho
  refine tl_stW T76 hf rfl rfl (wordsC_one _) B6 (setC_size _) (setC_size _) fun w hg hsz B6 hf=>?_
  obtain⟨e,hT,HV,B2,B5⟩:=gr5 hg e hT HV B2 B5
  replace Ho:=Ho.grE hg hu6;replace hD:=hD.gr hg hD6
  refine tl_nil ?_
  replace hf:=hf.kp [2,5,6,7]
  exact⟨f,Nat.lt_succ_self _,a2,seen ||| a2,out++[at'],v,D2,hfu2,by rw[List.length_append,List.length_singleton];omega,by rw[List.append_assoc];exact hR,hf,⟨e,hT,HV,B2,B5,B6,Ho,hD⟩,hDW2⟩

theorem unL_app (l:List BS)(r:BS):unL (l++[r])=unL l ||| r:=by rw[unL,List.foldl_append];rfl
theorem lvF_len (nb:Int→BS):∀(f:Nat) (a s:BS),(lvF nb f a s).length≤f:=by
 intro f
 induction f with
 | zero=>intro a s;exact Nat.le_refl _
 | succ f ih=>
  intro a s
  rw[lvF]
  split
  ·exact Nat.zero_le _
  ·rw[List.length_cons];exact Nat.succ_le_succ (ih _ _)
theorem lvB_len (nb:Int→BS)(a:Nat):(lvB nb a).length≤1025:=lvF_len nb 1025 _ _
theorem prF_len (nb:Int→BS):∀(f:Nat) (s:BS),(prF nb f s).length≤f:=by
 intro f
 induction f with
 | zero=>intro s;exact Nat.le_refl _
 | succ f ih=>
  intro s
  cases h:minOf s with
  | none=>rw[prF_none h];exact Nat.zero_le _
  | some a=>rw[prF_some h,List.length_cons];exact Nat.succ_le_succ (ih _)
theorem pr_step {nb:Int→BS}{left:BS}{r a:Nat}(h:minOf left=some a)(hc:card left≤r) :
  ∃f,r=f+1∧prF nb r left=unL (lvB nb a)::prF nb f (left &&& ~~~unL (lvB nb a))∧card (left &&& ~~~unL (lvB nb a))≤f:=by
 have ha:left.getLsbD a=true:=minOf_mem h
 have hp:=(lvB_ok (nb:=nb) (bit_lt ha)).1
 have h1:=card_lt (S:=left &&& ~~~unL (lvB nb a)) (T:=left) (z:=a) (fun i hi=>((bit_diff _ _ _).1 hi).1) ha fun h=>((bit_diff _ _ _).1 h).2 hp
 obtain⟨f,rfl⟩:∃f,r=f+1:=⟨r - 1,by omega⟩
 exact⟨f,rfl,prF_some h f,by omega⟩
theorem pr_stop {nb:Int→BS}{left:BS}{r:Nat}(h:minOf left=none):prF nb r left=[]:=by
 cases r with
 | zero=>rfl
 | succ r=>exact prF_none h r
def cmpB (l:List (Int×BS))(S:BS):List BS:=prF (lkS l) (card S) S
theorem parts_spec {G:Nat→Prop}{N0:Nat}(l:List (Int×BS))(S:BS)(mq:Value)(W:World)(hT:Tab W)(h:(Dv (mpE sKV N0) G l).p mq W) :
  Calls Tryz.prog 54 #[.agg (adC S mq)] W (Post (OwA setE 76 W.heap.size G0 (cmpB l S)) W):=by
 have HV:(Dv (mpE sKV N0) (GB W G0) l).p mq W:=Dv.toB (Dv.weak h fun b _ hb=>hb.elim)
 have hT0:=hT.lt
 refine eN [.agg (adC S mq)] [E (.agg (adC S mq))] Tryz.func54 Tryz.ntmps54 ?_ fun a hf=>?_
 rotate_left
 dsimp only[params,Nat.reduceAdd] at hf
 rotate_right
 ·exact arg1 rfl
 have e:=Ext.rfl' W
 refine seq <| regn0 <| tB hf rfl fun a b1 w v1 hv1 e' hb1 hs1 B1 hf=>?_
 obtain⟨hT,HV,e⟩:=up3 e' hT HV e
 refine tA hf rfl fun a hf=>tl_nil ?_
 cases hv1
 replace B1:Blk w b1 (adC S mq) 79:=B1
 replace hf:=hf.kp [1,2]
 refine seq <| regn0 <| tA hf rfl fun a hf=>tl_nil <| seq <| regn0 <| tP hf (fA U79 rfl T76 rfl) fun a w e' hf=>?_
 obtain⟨hT,HV,e,B1⟩:=up4 e' hT HV e B1
 refine tP hf ((ldP T76 rfl B1 (by rw[adC_size];decide)).eq (congrArg Value.agg (adC_set S mq))) fun a w e' hf=>?_
 obtain⟨hT,HV,e,B1⟩:=up4 e' hT HV e B1
 refine tL I76 hf fun a b4 w e' hb4 hs4 B4 hf=>?_
 have hle4:=Nat.le_trans e.size (Nat.le_of_eq hb4.symm)
 have lt4_B1:=B1.lt
 obtain⟨hT,HV,e,B1⟩:=up4 e' hT HV e B1
 refine tl_stW T76 hf rfl rfl (wordsC_one _) B4 rfl (setC_size _) fun w hg hsz B4 hf=>?_
 obtain⟨e,hT,HV,B1⟩:=gr4 hg e hT HV B1
 refine tl_nil ?_
 replace hf:=hf.keep [1,3,4]
 obtain⟨N,hN⟩:∃N,N=w.heap.size:=⟨_,rfl⟩
 have Ho:OwR setE 76 N G0 w [] (.slice none 0 0):=OwR.nil setE _ (Nat.le_of_eq hN) (fun b hb=>hb.elim)
 have hlN:b1<N∧b4<N∧W.heap.size≤N∧b1≠b4∧W.heap.size≤b1∧W.heap.size≤b4:=by have h1:=B1.lt;have h2:=B4.lt;omega
 refine blk (loopN (fun r0 a w=>∃(left:BS) (out:List BS) (u:Value),card left≤r0∧out.length+r0≤card S∧out++prF (lkS l) r0 left=cmpB l S∧Fr 39 a w [(1,E (ptr b1)),(3,E u),(4,E (ptr b4))]∧Ext W w∧Tab w∧(Dv (mpE sKV N0) (GB W G0) l).p mq w ∧
  Blk w b1 (adC S mq) 79∧Blk w b4 (setC left) 76∧OwR setE 76 N G0 w out u) (card S) ⟨S,[],.slice none 0 0,Nat.le_refl _,by simp,by rw[List.nil_append,cmpB],hf,e,hT,HV,B1,B4,Ho⟩ ?_)
 rintro r0 a w ⟨left,out,u,hfu,hle,hR,hf,e,hT,HV,B1,B4,Ho⟩
 have hcS:=card_le_1024 S
 refine blk ?_
 cases hq:minOf left with
 | none=>
  refine seq <| rgN 7 hf <| st ((ldW T76 rfl B4 rfl).eq ((rfl:_=setV left))) <| st (call1 (A:=minP left) En72 rfl (fun v w he h=>by cases h;exact min_spec _ w (hT.ext he))) ?_
  refine st (mv rfl) <| st (ext_ rfl rfl) <| st (ext_ rfl rfl) <| st (asg rfl) <| st (asg rfl) <| en fun a w e' hf=>?_
  obtain⟨hT,HV,e,B1,B4,Ho⟩:=up6 e' hT HV e B1 B4 Ho
  refine tl_nil ?_
  rw[hq] at hf
  replace hf:=hf.keep [3,5,6]
  repeat refine seq ?_
  refine rgN 2 hf <| st (mv rfl) <| st ((notp rfl).eq (congrArg Value.bool (show (!(none:Option Nat).isSome)=true from rfl))) <| en fun a w e' hf=>?_
  obtain⟨hT,HV,e,B1,B4,Ho⟩:=up6 e' hT HV e B1 B4 Ho
  refine tl_nil <| ifc hf rfl (fun _=>?_) (fun h=>by cases h)
  rw[pr_stop hq,List.append_nil] at hR
  rw[hR] at Ho
  refine seq <| rgN 1 hf <| st (mv rfl) <| en fun a w e' hf=>?_
  obtain⟨hT,HV,e,B1,B4,Ho⟩:=up6 e' hT HV e B1 B4 Ho
  refine tA hf rfl fun a hf=>tl_nil <| wret <| ret1 rfl hf rfl ?_
  rintro _ rfl
  exact⟨_,rfl,e,Ho.low hlN.2.2.1 fun b hb=>hb.elim⟩
 | some k=>
  obtain⟨f,rfl,hst,hcd⟩:=pr_step (nb:=lkS l) hq hfu
  have hk:k<1024:=bit_lt (minOf_mem hq)
  rw[hst] at hR
  obtain⟨lvs,hlvs⟩:∃lvs,lvs=lvB (lkS l) k:=⟨_,rfl⟩
  have hll:lvs.length≤1025:=by rw[hlvs];exact lvB_len _ _
  rw[← hlvs] at hR hcd
  refine seq <| rgN 7 hf <| st ((ldW T76 rfl B4 rfl).eq ((rfl:_=setV left))) <| st (call1 (A:=minP left) En72 rfl (fun v w he h=>by cases h;exact min_spec _ w (hT.ext he))) ?_
  refine st (mv rfl) <| st (ext_ rfl rfl) <| st (ext_ rfl rfl) <| st (asg rfl) <| st (asg rfl) <| en fun a w e' hf=>?_
  obtain⟨hT,HV,e,B1,B4,Ho⟩:=up6 e' hT HV e B1 B4 Ho
  refine tl_nil ?_
  rw[hq] at hf
  replace hf:=hf.upd 5 rfl (B:=E (I (k:Nat))) (fun v h=>h)
  replace hf:=hf.keep [1,3,4,5,6]
  repeat refine seq ?_
  refine rgN 2 hf <| st (mv rfl) <| st ((notp rfl).eq (congrArg Value.bool (show (!(some k).isSome)=false from rfl))) <| en fun a w e' hf=>?_
  obtain⟨hT,HV,e,B1,B4,Ho⟩:=up6 e' hT HV e B1 B4 Ho
  refine tl_nil <| ifc hf rfl (fun h=>by cases h) (fun _=>?_)
  refine wskip ?_
  replace hf:=hf.keep [1,3,4,5]
  refine seq <| regn0 <| tL I76 hf fun a b7 w e' hb7 hs7 B7 hf=>?_
  have ne7_Ho:=Ho.ne_new hb7
  have lt7_B1:=B1.lt
  have lt7_B4:=B4.lt
  obtain⟨hT,HV,e,B1,B4,Ho⟩:=up6 e' hT HV e B1 B4 Ho
  refine tl_nil ?_
  simp only[Value.cells,zeroC] at B7
  have hu7:=ne7_Ho
  have n7:b1≠b7∧b4≠b7∧W.heap.size≤b7:=by have:=B1.lt;have:=B4.lt;omega
  obtain⟨N1,hN1⟩:∃N1,N1=w.heap.size:=⟨_,rfl⟩
  have hN1s:N1≤w.heap.size:=Nat.le_of_eq hN1
  have l7:b7<N1:=by rw[hN1];exact B7.lt
  have lu:∀b,u.ownBlock=some b→b<N1:=fun b hb=>by rw[hN1];exact (Ho.lt hb).2
  repeat refine seq ?_
  refine rgN 5 hf <| st (ldW T79 rfl B1 (adC_size _ _)) <| st (mv rfl) <| st (call2 (A:=OwA setE 76 N1 G0 lvs) (B:=E (.agg (adC S mq))) (C:=E (I (k:Nat))) En52 rfl rfl (fun v u w he k1 k2=>by cases k1;cases k2;exact (levels_spec l S mq k w (hT.ext he) (Dv.ex HV he) hk).mono fun en w' ⟨u,k1,k2,k3⟩=>⟨u,k1,k2,by rw[hlvs];exact OwR.low k3 (Nat.le_trans hN1s he.size) fun b hb=>hb.elim⟩)) ?_
  refine st (lenD U83 ⟨_,rfl,fun v w _ h=>OwR.sl h⟩) <| st (mv rfl) <| en fun a w e' hf=>?_
  obtain⟨hT,HV,e,B1,B4,B7,Ho⟩:=up7 e' hT HV e B1 B4 B7 Ho
  refine tl_nil ?_
  obtain⟨lv,HoL,hf⟩:=hf.opn 22 rfl
  replace HoL:OwR setE 76 N1 G0 w lvs lv:=HoL
  have hr7:lv.ownBlock≠some b7:=HoL.neLt l7
  replace hf:=hf.keep [1,3,4,7,22,23,24]
  replace hf:=hf.keep [1,3,4,7,22,23,24]
  refine blk (loopN (fun r0 a w=>∃(j:Nat) ,r0=lvs.length - j∧j≤lvs.length∧Fr 39 a w [(1,E (ptr b1)),(3,E u),(4,E (ptr b4)),(7,E (ptr b7)),(22,E lv),(23,E (I (lvs.length:Nat))),(24,E (I j))]∧Ext W w∧Tab w∧(Dv (mpE sKV N0) (GB W G0) l).p mq w∧Blk w b1 (adC S mq) 79∧Blk w b4 (setC left) 76∧Blk w b7 (setC (unL (lvs.take j))) 76∧OwR setE 76 N G0 w out u∧OwR setE 76 N1 G0 w lvs lv) lvs.length ⟨0,rfl,by omega,hf,e,⟨hT,HV,B1,B4,B7,Ho,HoL⟩⟩ ?_)
  rintro r0 a w ⟨j,rfl,hj,hf,e,hT,HV,B1,B4,B7,Ho,HoL⟩
  refine seq <| rgN 1 hf <| st (lss rfl rfl) <| en fun a w e' hf=>?_
  obtain⟨hT,HV,Ho,HoL,e,B1,B4,B7⟩:=up8 e' hT HV Ho HoL e B1 B4 B7
  refine tl_nil <| seq <| ifc hf rfl (fun hc=>wskip ?_) (fun hc=>wexit ?_)
  rotate_left
  rotate_left
  ·have hltj:j<lvs.length:=by have:=of_decide_eq_true hc;(try dsimp only at this);omega
   replace hf:=hf.kp [1,3,4,7,22,23,24]
   refine seq <| blk ?_
   have hy:=List.getElem?_eq_getElem hltj
   generalize lvs[j]=y at hy
   have hsc:unL (lvs.take (j+1))=unL (lvs.take j) ||| y:=by rw[take_succ_get hy,unL_app]
   obtain⟨X,hX⟩:∃X,X=unL (lvs.take j):=⟨_,rfl⟩
   rw[← hX] at hsc B7
   refine seq <| regn0 <| tP hf (idxD U83 S76 (isE rfl (HoL.slN (N:=G0) fun b hb hh=>hh)) rfl (by omega) (hy)) fun a w e' hf=>?_
   obtain⟨hT,HV,HoL,e,B1,B4,B7,Ho⟩:=up8 e' hT HV HoL e B1 B4 B7 Ho
   refine tP hf (ldS T76 (isR rfl)) fun a w e' hf=>?_
   obtain⟨hT,HV,HoL,e,B1,B4,B7,Ho⟩:=up8 e' hT HV HoL e B1 B4 B7 Ho
   refine tL I76 hf fun a b9 w e' hb9 hs9 B9 hf=>?_
   have hle9:=Nat.le_trans e.size (Nat.le_of_eq hb9.symm)
   have ne9_Ho:=Ho.ne_new hb9
   have ne9_HoL:=HoL.ne_new hb9
   have lt9_B1:=B1.lt
   have lt9_B4:=B4.lt
   have lt9_B7:=B7.lt
   obtain⟨hT,HV,HoL,e,B1,B4,B7,Ho⟩:=up8 e' hT HV HoL e B1 B4 B7 Ho
   have hu9:=ne9_Ho
   have nr9:=ne9_HoL
   have n9:b1≠b9∧b4≠b9∧b7≠b9∧W.heap.size≤b9:=by omega
   replace hf:=hf.kp [1,3,4,7,9,22,23,24,27]
   refine tl_stW T76 hf rfl rfl (wordsC_one _) B9 rfl (setC_size _) fun w hg hsz B9 hf=>?_
   obtain⟨e,hT,HV,B1,B4,B7⟩:=gr6 hg e hT HV B1 B4 B7
   replace Ho:=Ho.grE hg hu9;replace HoL:=HoL.grE hg nr9
   refine tl_nil ?_
   replace hf:=hf.kp [1,3,4,7,9,22,23,24]
   refine rgN 3 hf <| st ((ldW T76 rfl B7 rfl).eq ((rfl:_=setV X))) <| st ((ldW T76 rfl B9 rfl).eq ((rfl:_=setV y))) <| st (call2 (A:=E (setV (X ||| y))) En73 rfl rfl (fun v u w he h h'=>by cases h;cases h';exact union_spec X y w)) ?_
   refine en fun a w e' hf=>?_
   obtain⟨hT,HV,HoL,e,B1,B4,B7,B9,Ho⟩:=up9 e' hT HV HoL e B1 B4 B7 B9 Ho
   refine tl_stW T76 hf rfl rfl (wordsC_one _) B7 rfl (setC_size _) fun w hg hsz B7 hf=>?_
   obtain⟨e,hT,HV,B1,B4⟩:=gr5 hg e hT HV B1 B4
   replace Ho:=Ho.grE hg hu7;replace HoL:=HoL.grE hg hr7
   refine tl_nil ?_
   rw[← hsc] at B7
   replace hf:=hf.kp [1,3,4,7,22,23,24]
   refine rgN 1 hf <| st ((add rfl rfl (by omega)).eq (congrArg (Value.int .i64) (show (j:Int)+1=((j+1:Nat):Int) from rfl))) <| en fun a w e' hf=>?_
   obtain⟨hT,HV,Ho,HoL,e,B1,B4,B7⟩:=up8 e' hT HV Ho HoL e B1 B4 B7
   refine tP hf (mv rfl) fun a w e' hf=>?_
   obtain⟨hT,HV,Ho,HoL,e,B1,B4,B7⟩:=up8 e' hT HV Ho HoL e B1 B4 B7
   refine tl_nil ?_
   replace hf:=hf.kp [1,3,4,7,22,23,24]
   refine⟨_,?_,j+1,rfl,by omega,hf,e,?_⟩
   ·omega
   exact⟨hT,HV,B1,B4,B7,Ho,HoL⟩
  ·obtain rfl:j=lvs.length:=by have:=of_decide_eq_false hc;(try dsimp only at this);omega
   rw[List.take_length] at B7
   obtain⟨P,hP⟩:∃P,P=unL lvs:=⟨_,rfl⟩
   rw[← hP] at B7 hR hcd
   replace hf:=hf.kp [1,3,4,7]
   refine seq <| rgN 3 hf <| st (mv rfl) <| st ((ldW T76 rfl B7 rfl).eq ((rfl:_=setV P))) <| st (bsl1 U83 I76 rfl (by decide) rfl Ho.avs (isS rfl)) <| en fun a w e' hf=>?_
   obtain⟨hT,HV,B1,B4,B7,Ho,e⟩:=up7 e' hT HV B1 B4 B7 Ho e
   haveI hin:∀G0,InR (GB W G0) _:=OwR.inGB (W:=W) Ho (by omega)
   refine tl_app U83 I76 rfl rfl hf (by decide) rfl Ho (isR rfl) (by simp only[List.length_singleton];omega) (by simp only[List.length_singleton,maxLen];omega) fun a v w hg hat Hn hf=>?_
   replace e:=e.gro hg (Ho.row (W:=W) (by omega))
   have hrow:=Ho.row (W:=W) (by omega)
   replace hT:=hT.gro hg (fun b hb=>by have:=hrow b hb;omega)
   replace HV:=Dv.gro HV hg (fun b hb=>.inr (hrow b hb))
   replace B1:=B1.gro hg (Ho.neLt (by omega))
   replace B4:=B4.gro hg (Ho.neLt (by omega))
   replace B7:=B7.gro hg hu7
   replace Ho:=Hn
   replace Ho:=Hn;clear Hn hg hat hin
   refine tA hf rfl fun a hf=>tl_nil ?_
   replace hf:=hf.kp [1,3,4,7]
   refine rgN 3 hf <| st ((ldW T76 rfl B4 rfl).eq ((rfl:_=setV left))) <| st ((ldW T76 rfl B7 rfl).eq ((rfl:_=setV P))) <| st (call2 (A:=E (setV (left &&& ~~~P))) En104 rfl rfl (fun v u w he h h'=>by cases h;cases h';exact minus_spec left P w)) ?_
   refine en fun a w e' hf=>?_
   obtain⟨hT,HV,e,B1,B4,B7,Ho⟩:=up7 e' hT HV e B1 B4 B7 Ho
   have hu4:v.ownBlock≠some b4:=Ho.neLt (by omega)
   refine tl_stW T76 hf rfl rfl (wordsC_one _) B4 rfl (setC_size _) fun w hg hsz B4 hf=>?_
   obtain⟨e,hT,HV,B1⟩:=gr4 hg e hT HV B1
   replace Ho:=Ho.grE hg hu4
   refine tl_nil ?_
   replace hf:=hf.kp [1,3,4]
   exact⟨f,Nat.lt_succ_self _,left &&& ~~~P,out++[P],v,hcd,by rw[List.length_append,List.length_singleton];omega,by rw[List.append_assoc];exact hR,hf,e,hT,HV,B1,B4,Ho⟩
theorem collectO_spec (S:BS)(b:Nat)(W:World)(hT:Tab W)(hb:Blk W b (setC S) 76) :
  Calls Tryz.prog 106 #[seqV b] W (Post (OwA intE 3 W.heap.size G0 (natE (elems S))) W):=by
 refine eN [seqV b] [E (seqV b)] Tryz.func106 Tryz.ntmps106 ?_ fun a hf=>?_
 rotate_left
 rotate_right
 ·exact arg1 rfl
 have e:=Ext.rfl' W
 refine seq <| regn0 <| tA hf rfl fun a hf=>tl_nil ?_
 have hWN:W.heap.size≤W.heap.size:=Nat.le_refl _
 have hNs:=hWN
 refine seq <| rgN 2 hf <| st (mv rfl) <| st (call2 (A:=OwA intE 3 W.heap.size G0 (natE (elems S))) (B:=E (.slice none 0 0)) (C:=E (seqV b)) En136 rfl rfl (fun v u w he k1 k2=>by cases k1;cases k2;exact (appendSeq_spec S b w (hT.ext he) (hb.ext he)).mono fun en w' ⟨u,k1,k2,k3⟩=>⟨u,k1,k2,OwR.low k3 (Nat.le_trans hNs he.size) fun b hb=>hb.elim⟩)) ?_
 refine en fun a w e' hf=>?_
 obtain⟨hT,e,hb⟩:=up3 e' hT e hb
 refine tA hf rfl fun a hf=>tl_nil <| wret <| ret1 rfl hf rfl ?_
 intro v hv
 exact⟨_,rfl,e,(OwR.low hv hWN fun b hb=>hb.elim)⟩
theorem elementsO_spec (S:BS)(W:World)(hT:Tab W):Calls Tryz.prog 56 #[setV S] W (Post (OwA intE 3 W.heap.size G0 (natE (elems S))) W):=by
 refine eN [setV S] [E (setV S)] Tryz.func56 Tryz.ntmps56 ?_ fun a hf=>?_
 rotate_left
 rotate_right
 ·exact arg1 rfl
 have e:=Ext.rfl' W
 refine seq <| regn0 <| tB hf rfl fun a b1 w v1 hv1 e' hb1 hs1 B1 hf=>?_
 obtain⟨hT,e⟩:=up2 e' hT e
 refine tA hf rfl fun a hf=>tl_nil ?_
 cases hv1
 replace B1:Blk w b1 (setC S) 76:=B1
 obtain⟨N,hN⟩:∃N,N=w.heap.size:=⟨_,rfl⟩
 have hNs:N≤w.heap.size:=Nat.le_of_eq hN
 have hWN:W.heap.size≤N:=by rw[hN];exact e.size
 refine seq <| rgN 3 hf <| st ((ldW T76 rfl B1 rfl).eq ((rfl:_=setV S))) <| st (call1 (A:=SeqA 0 S) En62 rfl (fun v w' he h=>by cases h;exact Calls.mono (all_spec _ w') (fun en w2 ⟨u,h1,h2,b',h3,h4,h5⟩=>⟨u,h1,h2,b',Nat.zero_le _,h4,h5⟩))) ?_
 refine st (call1 (A:=OwA intE 3 N G0 (natE (elems S))) En106 rfl (fun v w he ⟨b,_,hv,hb⟩=>by rw[hv];exact (collectO_spec S b w (hT.ext he) hb).mono fun en w' ⟨u,k1,k2,k3⟩=>⟨u,k1,k2,OwR.low k3 (Nat.le_trans hNs he.size) fun b hb=>hb.elim⟩)) ?_
 refine en fun a w e' hf=>?_
 obtain⟨hT,e,B1⟩:=up3 e' hT e B1
 refine tA hf rfl fun a hf=>tl_nil <| wret <| ret1 rfl hf rfl ?_
 intro v hv
 exact⟨_,rfl,e,(OwR.low hv hWN fun b hb=>hb.elim)⟩
def AdjA (l:List (Int×BS))(S:BS)(N0:Nat):VA:=⟨fun v w=>∃mq,v=.agg (adC S mq)∧(Dv (mpE sKV N0) G0 l).p mq w,fun v w w' e ⟨mq,h1,h2⟩=>⟨mq,h1,Dv.ex h2 e⟩⟩
def elL (C:BS):List Int:=natE (elems C)
theorem elL_len (C:BS):(elL C).length≤1024:=by rw[elL,natE,List.length_map];exact elems_len C
theorem comps_spec {G:Nat→Prop}{N:Nat}(g:GT)(v:Value)(W:World)(hT:Tab W)(h:(Dv (ptE (grE N)) G (some g)).p v W)(gs1:g.1.Pairwise fun x y=>lt1 x.1 y.1=true)(gs2:g.2.Pairwise fun x y=>lt2 x.1 y.1=true)(hl1:g.1.length≤100000)(hl2:g.2.length≤100000)(hN:N≤1000000) :
  Calls Tryz.prog 22 #[v] W (Post (Dv (slE (slE intE)) G0 ((prF (nbA g) (card (vset g.1)) (vset g.1)).map elL)) W):=by
 have hgd:(Dv (ptE (grE N)) G0 (some g)).p v W:=Dv.weak h fun b _ hb=>hb.elim
 obtain⟨l,hl⟩:∃l,l=nbL g (elems (vset g.1)):=⟨_,rfl⟩
 obtain⟨S,hS⟩:∃S,S=vset g.1:=⟨_,rfl⟩
 obtain⟨ps,hps⟩:∃ps,ps=cmpB l S:=⟨_,rfl⟩
 have hpl:ps.length≤1024:=by rw[hps,cmpB];exact Nat.le_trans (prF_len _ _ _) (card_le_1024 S)
 have hgoal:prF (nbA g) (card (vset g.1)) (vset g.1)=ps:=by rw[hps,cmpB,hl,hS,nbA]
 rw[hgoal]
 have hT0:=hT.lt
 refine eN [v] [E v] Tryz.func22 Tryz.ntmps22 ?_ fun a hf=>?_
 rotate_left
 rotate_right
 ·exact arg1 rfl
 have e:=Ext.rfl' W
 refine seq <| regn0 <| tA hf rfl fun a hf=>tl_nil <| seq <| regn0 <| tA hf rfl fun a hf=>tl_nil ?_
 obtain⟨N1,hN1⟩:∃N1,N1=W.heap.size:=⟨_,rfl⟩
 have hN1s:N1≤W.heap.size:=Nat.le_of_eq hN1
 have hWN:W.heap.size≤N1:=by rw[hN1];exact e.size
 have e0:=e
 repeat refine seq ?_
 refine rgN 5 hf <| st (mv rfl) <| st (call1 (A:=AdjA l S 1024) En46 rfl (fun v w he k=>by cases k;rw[hl,hS];exact (of07_spec g _ w (hT.ext he) (VA.st _ _ _ _ (Ext.tr e0 he) hgd) gs1 gs2 hl1 hl2 hN).mono fun en w' ⟨k1,mq,k2,k3⟩=>⟨_,k2,k1,mq,rfl,k3⟩)) ?_
 refine st (call1 (A:=OwA setE 76 N1 G0 ps) (B:=AdjA l S 1024) En54 rfl (fun v w he ⟨mq,k1,k2⟩=>by rw[k1,hps];exact (parts_spec l S mq w (hT.ext he) k2).mono fun en w' ⟨u,k1,k2,k3⟩=>⟨u,k1,k2,OwR.low k3 (Nat.le_trans hN1s he.size) fun b hb=>hb.elim⟩)) ?_
 refine st (lenD U83 ⟨_,rfl,fun v w _ h=>OwR.sl h⟩) <| st (mv rfl) <| en fun a w e' hf=>?_
 obtain⟨hT,e⟩:=up2 e' hT e
 refine tl_nil ?_
 obtain⟨pv,HoL,hf⟩:=hf.opn 8 rfl
 replace HoL:OwR setE 76 N1 G0 w ps pv:=HoL
 obtain⟨N2,hN2⟩:∃N2,N2=w.heap.size:=⟨_,rfl⟩
 have lp:∀b,pv.ownBlock=some b→b<N2:=fun b hb=>by rw[hN2];exact (HoL.lt hb).2
 have X:OwX (slE intE) 35 N2 G0 w [] (.slice none 0 0):=OwX.nil _ _ (Nat.le_of_eq hN2)
 have hWN2:W.heap.size≤N2:=by rw[hN2];exact e.size
 replace hf:=hf.keep [3,8,9,10]
 replace hf:=hf.keep [3,8,9,10]
 refine blk (loopN (fun r0 a w=>∃(j:Nat) (u:Value),r0=ps.length - j∧j≤ps.length∧Fr 21 a w [(3,E u),(8,E pv),(9,E (I (ps.length:Nat))),(10,E (I j))]∧Ext W w∧Tab w∧OwR setE 76 N1 G0 w ps pv∧OwX (slE intE) 35 N2 G0 w ((ps.take j).map elL) u) ps.length ⟨0,.slice none 0 0,rfl,by omega,hf,e,⟨hT,HoL,X⟩⟩ ?_)
 rintro r0 a w ⟨j,u,rfl,hj,hf,e,hT,HoL,X⟩
 refine seq <| rgN 1 hf <| st (lss rfl rfl) <| en fun a w e' hf=>?_
 obtain⟨hT,HoL,X,e⟩:=up4 e' hT HoL X e
 refine tl_nil <| seq <| ifc hf rfl (fun hc=>wskip ?_) (fun hc=>wexit ?_)
 rotate_left
 rotate_left
 ·have hltj:j<ps.length:=by have:=of_decide_eq_true hc;(try dsimp only at this);omega
  replace hf:=hf.keep [3,8,9,10]
  refine seq <| blk ?_
  have hy:=List.getElem?_eq_getElem hltj
  generalize ps[j]=C at hy
  have hsc:(ps.take (j+1)).map elL=(ps.take j).map elL++[elL C]:=by rw[take_succ_get hy,List.map_append];rfl
  have hlo:((ps.take j).map elL).length≤1024:=by rw[List.length_map];exact Nat.le_trans (List.length_take_le' _ _) hpl
  generalize (ps.take j).map elL=out at hsc hlo X
  obtain⟨N3,hN3⟩:∃N3,N3=w.heap.size:=⟨_,rfl⟩
  have hN3s:N3≤w.heap.size:=Nat.le_of_eq hN3
  have lu:∀b,u.ownBlock=some b→b<N3:=fun b hb=>by rw[hN3];exact (X.lt hb).2
  replace X:=X.weak (G':=fun b=>N3≤b) fun b hb h=>by rw[hN3] at h;exact absurd hb (Nat.not_lt.2 h)
  refine seq <| regn0 <| tP hf (idxD U83 S76 (isE rfl (HoL.slN (N:=G0) fun b hb hh=>hh)) rfl (by omega) (hy)) fun a w e' hf=>?_
  obtain⟨hT,X,hN3s,e,HoL⟩:=up5 e' hT X hN3s e HoL
  refine tP hf (ldS T76 (isR rfl)) fun a w e' hf=>?_
  obtain⟨hT,X,hN3s,e,HoL⟩:=up5 e' hT X hN3s e HoL
  refine tL I76 hf fun a b5 w e' hb5 hs5 B5 hf=>?_
  have hle5:=Nat.le_trans e.size (Nat.le_of_eq hb5.symm)
  have lo5_hN3s:=Nat.le_trans hN3s (Nat.le_of_eq hb5.symm)
  have ne5_HoL:=HoL.ne_new hb5
  obtain⟨hT,X,hN3s,e,HoL⟩:=up5 e' hT X hN3s e HoL
  have hr5:=ne5_HoL
  have h5:N3≤b5:=lo5_hN3s
  have hW5:W.heap.size≤b5:=hle5
  have hu5:u.ownBlock≠some b5:=fun h=>by have:=lu b5 h;omega
  replace hf:=hf.kp [3,5,8,9,10,13]
  refine tl_stW T76 hf rfl rfl (wordsC_one _) B5 rfl (setC_size _) fun w hg hsz B5 hf=>?_
  replace X:=X.ch ((Chg.rfl' (fun b=>b=b5) _).gr hg (.inl rfl)) (fun b hb h=>hu5 (by rw[← h];exact hb)) (fun b h=>by rw[h];exact h5)
  obtain⟨e,hT⟩:=gr2 hg e hT
  replace HoL:=HoL.grE hg hr5
  refine tl_nil ?_
  replace X:=X.weak (G':=G0) fun b _ h=>h.elim
  have hlu:∀b,GO G0 u b→b<w.heap.size:=fun b hb=>hb.elim (fun h=>h.elim) fun h=>(X.lt h).2
  replace hf:=hf.kp [3,5,8,9,10]
  refine rgN 4 hf <| st (mv rfl) <| st ((ldW T76 rfl B5 rfl).eq ((rfl:_=setV C))) <| st (call1 (A:=Dv (slE intE) (GO G0 u) (elL C)) En56 rfl (fun v w he h=>by cases h;exact (elementsO_spec C w (hT.ext he)).mono fun en w' ⟨z,k1,k2,k3⟩=>⟨z,k1,k2,OwR.slN k3 fun b hb hh=>by have h1:=hlu b hh;have h2:=(k3.lt hb).1;have h3:=he.size;omega⟩)) ?_
  refine st (bsl1 U39 I35 rfl (by decide) rfl hlu (isR rfl)) <| en fun a w e' hf=>?_
  obtain⟨hT,X,e,B5,HoL⟩:=up5 e' hT X e B5 HoL
  have hrow:∀b,u.ownBlock=some b→N2≤b:=fun b hb=>(X.lt hb).1
  refine tl_appX U39 I35 rfl rfl hf (by decide) rfl X (isR rfl) (by simp only[List.length_singleton];omega) (by simp only[List.length_singleton,maxLen];omega) fun a u' w hg hat Hn hf=>?_
  replace e:=e.gro hg (fun b hb=>by have:=hrow b hb;omega)
  replace hT:=hT.gro hg (fun b hb=>by have:=hrow b hb;omega)
  replace HoL:=HoL.groE hg (fun b hb hh=>by have h1:=hrow b hh;have h2:=lp b hb;omega)
  have X:=Hn
  rw[← hsc] at X
  replace hf:=hf.keep [3,8,9,10,18]
  refine tA hf rfl fun a hf=>tl_nil <| rgN 1 hf <| st ((add rfl rfl (by omega)).eq (congrArg (Value.int .i64) (show (j:Int)+1=((j+1:Nat):Int) from rfl))) <| en fun a w e' hf=>?_
  obtain⟨hT,HoL,X,e⟩:=up4 e' hT HoL X e
  refine tP hf (mv rfl) fun a w e' hf=>?_
  obtain⟨hT,HoL,X,e⟩:=up4 e' hT HoL X e
  refine tl_nil ?_
  replace hf:=hf.keep [3,8,9,10]
  refine⟨_,?_,j+1,_,rfl,by omega,hf,e,?_⟩
  ·omega
  exact⟨hT,HoL,X⟩
 ·obtain rfl:j=ps.length:=by have:=of_decide_eq_false hc;(try dsimp only at this);omega
  rw[List.take_length] at X
  replace hf:=hf.keep [3]
  refine seq <| rgN 1 hf <| st (mv rfl) <| en fun a w e' hf=>?_
  obtain⟨X,e⟩:=up2 e' X e
  refine tA hf rfl fun a hf=>tl_nil <| wret <| ret1 rfl hf rfl ?_
  rintro _ rfl
  exact⟨_,rfl,e,X.sl0⟩
end Go.Mono
namespace Go.Mono
open Go Go.Proofs Go.RowKit
open Go.WideElems (Fit rd rg pl rd_val elemAt findIdx_arr findIdx_born set_self)
open Go.ChangeMaps (modify_eq_set)
open Go.ChangeMaps (setBlock)
section
variable {P:Program}{α β:Type}{V:KV P α β}{w:World}{b n:Nat}{l:List (α×β)}
theorem setIf_self {γ:Type}{a:Array γ}{i:Nat}{x:γ}(h:a[i]?=some x):a.setIfInBounds i x=a:=by
 apply Array.ext'
 rw[Array.toList_setIfInBounds]
 exact set_self _ _ _ (by simpa using h)
theorem MpR.slot {t:TypeId}(h:MpR V w b n l)(ht:P.underlying t=some (.map V.k V.e)){x:α}{c:β}(hx:V.ok x)(hm:(x,c)∈l) :
  ∃v0 st:Value,(Instr.mapEntry t (.map (some b)) (V.kv x)).run P w=.ok (.tuple #[v0,st]) w ∧
   ∀w2 val,w2.heap[b]?=w.heap[b]?→(Instr.entryStore t (.map (some b)) st val).run P w2=(Instr.mapUpdate t (.map (some b)) (V.kv x) val).run P w2:=by
 obtain⟨es,⟨arr,clock,hb,F,hs,hD⟩,hp,hok,hpw⟩:=h
 have hkey:=V.key x hx
 obtain⟨s1,s2,s3⟩:=F.stamped
 have hthere:∃e0∈arr.toList,e0.key=V.kv x:=by
  have h1:V.enc (x,c)∈es:=hp.mem_iff.2 (List.mem_map.2 ⟨_,hm,rfl⟩)
  cases hD
  have h2:V.enc (x,c)∈arr.toList.map (rg P V.k V.R):=by
   have key:∀(m:List (Lit×DataW Unit)) (p:Lit×DataW Unit),p∈m.foldr DataW.insert []→p∈m:=by
    intro m
    induction m with
    | nil=>intro p h;exact h
    | cons a m ih=>
     intro p h
     rw[List.foldr_cons] at h
     have:=(insert_perm a (m.foldr DataW.insert [])).mem_iff.1 h
     rcases List.mem_cons.1 this with h|h
     ·rw[h];exact List.mem_cons_self ..
     ·exact List.mem_cons_of_mem _ (ih p h)
   exact key _ _ h1
  obtain⟨e0,he0,hr⟩:=List.mem_map.1 h2
  obtain⟨y,hy⟩:=F.reads e0 he0
  have m1:=Go.WideElems.rd_key hy
  rw[Go.WideElems.rg_of hy] at hr
  have m2:y.1=V.kl x:=by rw[hr];rfl
  rw[m2] at m1
  exact⟨e0,he0,V.K.inj m1 hkey⟩
 rcases V.K.find w hkey arr.toList F.keys with ⟨h1,h2⟩|⟨j,e0,h1,h2,h3⟩
 ·obtain⟨e0,he0,hk⟩:=hthere
  exact absurd hk (h2 e0 he0)
 ·have hj:arr[j]?=some e0:=by simpa using h2
  have hsame:arr.modify j (fun e=>{ e with key:=V.kv x })=arr:=by
   apply Array.ext'
   rw[Array.toList_modify,modify_eq_set _ _ _ _ h2]
   have:({ e0 with key:=V.kv x }:MapEntry)=e0:=by rw[← h3]
   rw[this]
   exact set_self _ _ _ h2
  refine⟨e0.val,goInt e0.born,?_,fun w2 val hw2=>?_⟩
  ·have hset:({ w with heap:=w.heap.setIfInBounds b (.map arr clock) }:World)=w:=by rw[setIf_self hb]
   simp[Instr.mapEntry,run_underlying ht,MapKept.run_getObj_map hb,V.K.check w false hkey,h1,hj,h3,V.K.stays w hkey,hsame,MapKept.run_setObj_map _ hb,Result.andThen,hset]
  ·have hb2:=hw2.trans hb
   have hidx:arr.findIdx? (fun e=>((e.born:Nat):Int)==((e0.born:Nat):Int))=some j:=by
    rw[findIdx_arr]
    exact findIdx_born s2 h2
   have hmod:arr.modify j (fun e=>{ e with val:=val })=arr.modify j (fun e'=>{ e' with key:=V.kv x,val:=val }):=by
    apply Array.ext'
    rw[Array.toList_modify,Array.toList_modify,modify_eq_set _ _ _ _ h2,modify_eq_set _ _ _ _ h2,← h3]
   have h1':(Instr.findKey V.k (V.kv x) arr.toList).run P w2=.ok (some (j,e0.val)) w2:=by
    rcases V.K.find w2 hkey arr.toList F.keys with ⟨q1,q2⟩|⟨j',e',q1,q2,q3⟩
    ·exact absurd h3 (q2 e0 (List.mem_of_getElem? h2))
    ·have hee:j'=j∧e'=e0:=by
      have hjl:j'<(arr.toList.map (·.key)).length:=by rw[List.length_map];exact (List.getElem?_eq_some_iff.1 q2).1
      have hjj:j'=j:=(List.getElem?_inj hjl s3).1 (by rw[List.getElem?_map,List.getElem?_map,q2,h2];show some e'.key=some e0.key;rw[q3,h3])
      refine⟨hjj,?_⟩
      rw[hjj,h2] at q2
      exact (Option.some.inj q2).symm
     rw[hee.1,hee.2] at q1
     exact q1
   simp[Instr.entryStore,MapKept.run_getObj_map hb2,asInt,asIntOf,goInt,hidx,hmod,MapKept.run_setObj_map _ hb2,Result.andThen]
   simp[Instr.mapUpdate,run_underlying ht,MapKept.run_getObj_map hb2,V.K.check w2 false hkey,h1',hj,h3,V.K.stays w2 hkey,MapKept.run_setObj_map _ hb2,Result.andThen]
def SlA (P:Program)(t b:Nat)(key:Value):VA:=⟨fun st w=>b<w.heap.size∧∀w2 val,w2.heap[b]?=w.heap[b]?→(Instr.entryStore t (.map (some b)) st val).run P w2=(Instr.mapUpdate t (.map (some b)) key val).run P w2,
 fun v w w' e ⟨h1,h2⟩=>⟨Nat.lt_of_lt_of_le h1 e.size,fun w2 val hw=>h2 w2 val (hw.trans (e.block b h1))⟩⟩
theorem MpR.dvE {N:Nat}(h:MpR V w b n l)(hn:n≤N){G:Nat→Prop}(hG:¬G b):(Dv (mpE V N) G l).p (.map (some b)) w:=⟨[.map (some b)],⟨b,n,rfl,hG,hn,h⟩,rfl⟩
end
section ops
variable {P:Program}{w0:World}{L:Env}{dst:Option Tmp}{ty:TypeId}{pos:String}{aft:Array Edge}{g:Option (Nat×Bool)}{x y s:Operand}{t b n:Nat}
variable {α β:Type}{V:KV P α β}{l:List (α×β)}{i:α}{c:β}
theorem enS (ht:P.underlying t=some (.map V.k V.e))(hx:opd L x=some (E (.map (some b))))(hy:opd L y=some (E (V.kv i)))(hM:MpR V w0 b n l)(hi:V.ok i)(hm:(i,c)∈l) :
  OpC P w0 L ⟨dst,.mapEntry t x y,ty,pos,aft,g⟩ (Tup [Any,SlA P t b (V.kv i)]):=
 opc_pure fun ρ w he hv=>by
  have hxv:ρ x=.map (some b):=hv x (by simp[Op.operands]) _ hx
  have hyv:ρ y=V.kv i:=hv y (by simp[Op.operands]) _ hy
  obtain⟨v0,st,h1,h2⟩:=(hM.ext he).slot ht hi hm
  exact⟨.tuple #[v0,st],by simp only[execOp,hxv,hyv,Sem.run_bind,h1,Result.andThen_ok,Sem.run_pure],Tup.two trivial ⟨(hM.ext he).lt,h2⟩⟩
theorem esJ [DecidableEq α](ht:P.underlying t=some (.map V.k V.e))(hx:opd L x=some (E (.map (some b))))(hs:opd L s=some (SlA P t b (V.kv i)))(hy:opd L y=some (E (V.mv c)))(hM:MpR V w0 b n l)(hi:V.ok i)(hc:V.okv c)(hn:n<maxLen) :
  XOpJ P w0 (Chg fun d=>d=b) (fun w'=>MpR V w' b (n+1) (putP l i c)) L ⟨none,.entryStore t x s y,ty,pos,aft,none⟩ Any:=by
 refine⟨fun ρ w he hv=>?_⟩
 have hxv:ρ x=.map (some b):=hv x (by simp[Op.operands]) _ hx
 have hsv:=hv s (by simp[Op.operands]) _ hs
 have hyv:ρ y=V.mv c:=hv y (by simp[Op.operands]) _ hy
 obtain⟨w',h1,h2,h3⟩:=(hM.ext he).put hi hc ht hn
 have h4:=hsv.2 w (V.mv c) rfl
 rw[h1] at h4
 simp only[OpR,execOp,hxv,hyv,Sem.run_bind,h4,Result.andThen_ok,Sem.run_pure]
 exact⟨⟨h3.os,h3.tape,h3.output,h3.size,fun k hk hn=>h3.block k hk fun hh=>hn (by cases hh;rfl)⟩,trivial,h2⟩
end ops
end Go.Mono
namespace Go.Mono
open Go Go.Proofs Go.RowKit Go.Gr

theorem bAd2 (S:BS)(bm:Nat):Tryz.prog.built 79 [(0,setV S),(1,.map (some bm))]=some (adC S (.map (some bm))):=by kernel_rfl
def wiP (l:List (Int×BS))(S:BS)(s:List Nat):List (Int×BS):=s.map fun n:Nat=>((n:Int),lkS l (n:Int) &&& S)
def wiL (l:List (Int×BS))(S:BS):List (Int×BS):=wiP l S (elems S)
theorem putP_new' {α β:Type}[DecidableEq α]{l:List (α×β)}{x:α}{c:β}(hx:∀c,(x,c) ∉ l):(putP l x c).Perm (l++[(x,c)]):=by
 have hf:l.filter (fun p => !decide (p.1=x))=l:=by
  rw[List.filter_eq_self]
  intro p hp
  have:p.1≠x:=fun e=>hx p.2 (by rw[← e];exact hp)
  simp[this]
 rw[putP,hf]
 exact List.perm_append_comm (l₁:=[(x,c)])
theorem wiP_put {l:List (Int×BS)}{S:BS}{s:List Nat}{x:Nat}(hx:x ∉ s):(putP (wiP l S s) (x:Int) (lkS l (x:Int) &&& S)).Perm (wiP l S (s++[x])):=by
 refine (putP_new' fun c hc=>?_).trans (by rw[wiP,wiP,List.map_append];exact List.Perm.refl _)
 obtain⟨n,hn,he⟩:=List.mem_map.1 hc
 have:n=x:=by have:=congrArg Prod.fst he;simp only at this;omega
 exact hx (by rw[← this];exact hn)
theorem lkS_map (f:Nat→BS):∀(s:List Nat) (x:Nat),lkS (s.map fun n:Nat=>((n:Int),f n)) (x:Int)=if x∈s then f x else 0
 | [],x=>by simp[lkS]
 | n::s,x=>by
  have ih:=lkS_map f s x
  rw[lkS] at ih
  rw[List.map_cons,lkS,List.find?_cons]
  by_cases h:n=x
  ·subst h;simp
  ·have h1:((n:Int)=(x:Int))=False:=by simp;omega
   have h2:(x∈n::s)=(x∈s):=by simp[Ne.symm h]
   simp only[h1,decide_false,h2]
   exact ih
theorem lkS_neg (f:Nat→BS)(s:List Nat){i:Int}(hi:i<0):lkS (s.map fun n:Nat=>((n:Int),f n)) i=0:=by
 refine lkS_no fun c hc=>?_
 obtain⟨n,_,he⟩:=List.mem_map.1 hc
 have:=congrArg Prod.fst he
 simp only at this;omega
def nbWi (nb:Int→BS)(S:BS):Int→BS:=fun i=>if has S i=true then nb i &&& S else 0
theorem lk_wi (l:List (Int×BS))(S:BS):lkS (wiL l S)=nbWi (lkS l) S:=by
 funext i
 rw[nbWi]
 by_cases hi:i<0
 ·have h0:has S i=false:=by
   cases h:has S i with
   | false=>rfl
   | true=>
    have:=h
    unfold has at this
    simp[fitsB_iff] at this
    omega
  rw[wiL,wiP,lkS_neg _ _ hi,h0];rfl
 ·obtain⟨n,rfl⟩:∃n:Nat,i=n:=⟨i.toNat,by omega⟩
  rw[wiL,wiP,lkS_map (fun n=>lkS l (n:Int) &&& S)]
  by_cases h:S.getLsbD n=true
  ·rw[if_pos (mem_elems.2 ⟨bit_lt h,h⟩),if_pos ((has_bit S n).2 h)]
  ·rw[if_neg fun hh=>h (mem_elems.1 hh).2,if_neg fun hh=>h ((has_bit S n).1 hh)]
structure WiJ (W:World)(N0:Nat)(l:List (Int×BS))(S0 S:BS)(mq:Value)(b2 b4 b5 bm:Nat)(c4:Array Value)(s:List Nat)(w:World):Prop where
 e:Ext W w
 t:Tab w
 hv:(Dv (mpE sKV N0) (GB W G0) l).p mq w
 p2:Blk w b2 (adC S0 mq) 79
 p4:Blk w b4 c4 79
 p5:Blk w b5 (adC S (.map (some bm))) 79
 m:MpR sKV w bm s.length (wiP l S s)
theorem WiJ.kp {W:World}{N0:Nat}{l:List (Int×BS)}{S0 S:BS}{mq:Value}{b2 b4 b5 bm:Nat}{c4:Array Value}{s:List Nat}{B:Nat}{w w':World}(h:WiJ W N0 l S0 S mq b2 b4 b5 bm c4 s w)(k:Kp B w w')(hW:W.heap.size≤B)(h0:0<B)(l2:b2<B)(l4:b4<B)(l5:b5<B)(lm:bm<B):WiJ W N0 l S0 S mq b2 b4 b5 bm c4 s w':=
 have no:∀{b},b<B→¬Hole B b:=fun h hh=>by have:=hh.1;omega
 ⟨h.e.kp k hW,h.t.kp k h0,Dv.ch h.hv k.chg (fun b hb=>.inr (by have:=hb.1;omega)),h.p2.kp k (no l2),h.p4.kp k (no l4),h.p5.kp k (no l5),h.m.pres (k.same bm h.m.lt (no lm))⟩
theorem within_spec {G:Nat→Prop}{N0:Nat}(l:List (Int×BS))(S0 C:BS)(mq:Value)(W:World)(hT:Tab W)(h:(Dv (mpE sKV N0) G l).p mq W) :
  Calls Tryz.prog 58 #[.agg (adC S0 mq),setV C] W (Post (AdjA (wiL l (S0 &&& C)) (S0 &&& C) 1024) W):=by
 have HV:(Dv (mpE sKV N0) (GB W G0) l).p mq W:=Dv.toB (Dv.weak h fun b _ hb=>hb.elim)
 obtain⟨S,hS⟩:∃S,S=S0 &&& C:=⟨_,rfl⟩
 rw[← hS]
 have hT0:=hT.lt
 refine enterM (args:=[.agg (adC S0 mq),setV C]) (As:=[E (.agg (adC S0 mq)),E (setV C)]) Tryz.func58 rfl Tryz.ntmps58 (Nat.le_of_ble_eq_true rfl) ?_ (fun a hf=>?_) (Nat.le_of_ble_eq_true rfl)
 ·exact arg2 rfl rfl
 have e:=Ext.rfl' W
 refine seq <| regn0 <| tB hf rfl fun a b2 w v2 hv2 e' hb2 hs2 B2 hf=>?_
 obtain⟨hT,HV,e⟩:=up3 e' hT HV e
 refine tB hf rfl fun a b3 w v3 hv3 e' hb3 hs3 B3 hf=>?_
 obtain⟨hT,HV,e,B2⟩:=up4 e' hT HV e B2
 refine tL I79 hf fun a b4 w e' hb4 hs4 B4 hf=>?_
 obtain⟨hT,HV,e,B2,B3⟩:=up5 e' hT HV e B2 B3
 refine tl_nil ?_
 cases hv2
 cases hv3
 replace B2:Blk w b2 (adC S0 mq) 79:=B2
 replace B3:Blk w b3 (setC C) 76:=B3
 have n234:b2≠b3∧b2≠b4∧b3≠b4∧W.heap.size≤b2∧W.heap.size≤b3∧W.heap.size≤b4:=by omega
 replace hf:=hf.kp [2,3,4]
 refine seq <| rgN 4 hf <| st (fA U79 rfl T76 rfl) <| st ((ldP T76 rfl B2 (by rw[adC_size];decide)).eq (congrArg Value.agg (adC_set S0 mq))) ?_
 refine st ((ldW T76 rfl B3 rfl).eq ((rfl:_=setV C))) <| st (call2 (A:=E (setV S)) (B:=E (setV S0)) (C:=E (setV C)) En74 rfl rfl (fun v u w he h h'=>by cases h;cases h';rw[hS];exact inter_spec S0 C w)) ?_
 refine en fun a w e' hf=>?_
 obtain⟨hT,HV,e,B2,B3,B4⟩:=up6 e' hT HV e B2 B3 B4
 refine tl_mkV sKV hf (by decide) fun a bm w e' hbm hsm HM hf=>?_
 have lb2:=B2.lt
 have lb4:=B4.lt
 have hle:=e.size
 have nm:b2<bm∧b4<bm∧W.heap.size≤bm:=by omega
 replace e:=e.tr e';replace hT:=hT.ext e';replace HV:=Dv.ex HV e';replace B2:=B2.ext e';replace B4:=B4.ext e'
 have hNm:bm+1≤w.heap.size:=HM.lt
 refine tP hf (bldV [(0,_),(1,_)] rfl (bAd2 S bm)) fun a w e' hf=>?_
 obtain⟨hT,HV,HM,hNm,e,B2,B4⟩:=up7 e' hT HV HM hNm e B2 B4
 refine tL I79 hf fun a b5 w e' hb5 hs5 B5 hf=>?_
 obtain⟨hT,HV,HM,hNm,e,B2,B4⟩:=up7 e' hT HV HM hNm e B2 B4
 have n5:b2≠b5∧b4≠b5∧b5≠bm∧W.heap.size≤b5:=by have:=B2.lt;have:=B4.lt;omega
 refine tl_stW T79 hf rfl rfl (adC_one _ _) B5 rfl (adC_size _ _) fun w hg hsz B5 hf=>?_
 replace e:=e.gr hg (by omega);replace hT:=hT.gr hg (by omega);replace HV:=Dv.gr HV hg (.inr (by omega));replace B2:=B2.gr hg (by omega);replace B4:=B4.gr hg (by omega);replace HM:=HM.gr hg (fun h=>by cases h;omega);clear hg hNm
 refine tl_nil ?_
 replace hf:=hf.keep [2,4,5]
 obtain⟨Nz,hNz⟩:∃Nz,Nz=w.heap.size:=⟨_,rfl⟩
 repeat refine seq ?_
 refine rgN 3 hf <| st (fA U79 rfl T76 rfl) <| st ((ldP T76 rfl B5 (by rw[adC_size];decide)).eq (congrArg Value.agg (adC_set S (.map (some bm))))) ?_
 refine st (call1 (A:=SeqA Nz S) En62 rfl (fun v w' he h=>by cases h;exact Calls.mono (all_spec _ w') (fun en w2 ⟨u,h1,h2,b',h3,h4,h5⟩=>⟨u,h1,h2,b',by have:=he.size;omega,h4,h5⟩))) ?_
 refine en fun a w e' hf=>?_
 obtain⟨hT,HV,HM,e,B2,B4,B5⟩:=up7 e' hT HV HM e B2 B4 B5
 refine tl_nil ?_
 obtain⟨v15,⟨b15,h15,rfl,BS⟩,hf⟩:=hf.fix 15 rfl
 replace hf:=hf.kp [2,4,5,15]
 obtain⟨c4,hc4,hB4⟩:∃c4:Array Value,c4.size=17∧Blk w b4 c4 79:=⟨_,by rfl,B4⟩
 have hBW:W.heap.size≤w.heap.size:=e.size
 have h0w:0<w.heap.size:=hT.lt
 have l2:=B2.lt
 have l4:=hB4.lt
 have l5:=B5.lt
 have lm:=HM.lt
 refine blk <| range_all3 (S:=S) hf rfl BS (by decide) (fun s w1=>WiJ W N0 l S0 S mq b2 b4 b5 bm c4 s w1) (fun _ _=>False) (fun s w1 h=>h.t)
  ⟨e,hT,HV,B2,hB4,B5,HM⟩ (fun s w1 w2 h hs k=>h.kp k hBW h0w l2 l4 l5 lm) (fun _ _ _ h=>h.elim) ?_ ?_ (fun _ _ _ _ _ _ h=>h.elim)
 ·intro lp s x rest a1 w1 hs hJ hlw hf
  have hx1024:x<1024:=(mem_elems.1 (by rw[hs];simp)).1
  have hxs:x ∉ s:=by
   have hn:(elems S).Nodup:=List.Nodup.sublist List.filter_sublist List.nodup_range
   rw[hs] at hn
   intro hx
   exact (List.nodup_append.1 hn).2.2 x hx x (by simp) rfl
  have hsl:s.length≤1024:=by have:=elems_len S;rw[hs] at this;simp at this;omega
  generalize hBz:w.heap.size=Bz at *
  refine regn0 <| tA hf rfl fun a hf=>tl_nil <| ⟨Kh.rfl' _ _,fun w3 k3 hsz3=>?_⟩
  have hJ3:=hJ.kp k3 hBW h0w l2 l4 l5 lm
  replace hf:=hf.pure w3
  obtain⟨e,hT,HV,B2,B4,B5,HM⟩:=hJ3
  have kh:=Kh.rfl' Bz w3
  replace hf:=hf.kp [2,4,5,6]
  refine blk ?_
  have hwx:(Lit.int .i64 (x:Int)).wf=true:=wf64 (by omega) (by omega)
  refine rgG 10 Mix.mix hf <| st (fA U79 rfl T77 rfl) <| st (ld1 (v:=.map (some bm)) T77 rfl B5 (adC_map _ _)) <| st (mv rfl) <| st (fA U79 rfl T77 rfl) <| st (ld1 (v:=mq) T77 rfl B2 (adC_map _ _)) <| st (mv rfl) <| st (lkM (l:=l) (i:=(x:Int)) U77 zero_set (isE rfl HV) rfl hwx) <| st (fA U79 rfl T76 rfl) <| st ((ldP T76 rfl B5 (by rw[adC_size];decide)).eq (congrArg Value.agg (adC_set S (.map (some bm))))) ?_
  refine st (call2 (A:=E (setV (lkS l (x:Int) &&& S))) (B:=E (setV (lkS l (x:Int)))) (C:=E (setV S)) En74 rfl rfl (fun v u w he h h'=>by cases h;cases h';exact inter_spec _ S w)) ?_
  refine en fun a w e' hf=>?_
  obtain⟨hT,HV,HM⟩:=up3 e' hT HV HM
  replace kh:=kh.tr (Kh.ext e')
  obtain⟨e,B2,B4,B5⟩:=up4 e' e B2 B4 B5
  refine tl_mputV (V:=sKV) (i:=(x:Int)) (c:=lkS l (x:Int) &&& S) U77 hf rfl rfl rfl HM (by simp only[maxLen];omega) hwx trivial fun w hg HM hf=>?_
  obtain⟨e,hT,HV,B2,B4,B5⟩:=gr6 hg e hT HV B2 B4 B5
  replace kh:=kh.tr (Kh.gr hg (fun hh=>by have:=hh.1;omega))
  refine tl_nil ?_
  simp only[Exit.inBlock]
  exact⟨⟨e,hT,HV,B2,B4,B5,by rw[List.length_append];exact HM.perm (wiP_put hxs)⟩,kh⟩
 ·intro a' w' hf' hJ hsz hDn
  simp only[Exit.inBlock,↓reduceIte,Exit.then]
  have hD:Ds [w.heap.size] w':=(Ds.nil w').cons hDn (by simp)
  have hf:FrD 28 (marks [w.heap.size]) a' w' [(2,E (ptr b2)),(4,E (ptr b4)),(5,E (ptr b5))]:=hf'.keep [2,4,5]
  have hDW:∀d∈[w.heap.size],W.heap.size≤d:=fun d hd=>by rw[List.mem_singleton] at hd;omega
  have hbD:¬bm∈[w.heap.size]:=fun h=>by rw[List.mem_singleton] at h;omega
  have hb4D:¬b4∈[w.heap.size]:=fun h=>by rw[List.mem_singleton] at h;omega
  obtain⟨e,hT,HV,B2,B4,B5,HM⟩:=hJ
  generalize [w.heap.size]=D2 at *
  generalize w'=w at *
  refine seq <| rgN 1 hf <| st (ldW T79 rfl B5 (adC_size _ _)) <| en fun a w e' hf=>?_
  obtain⟨HM,e,B4,B5,hD⟩:=up5 e' HM e B4 B5 hD
  refine tl_stW T79 hf rfl rfl (adC_one _ _) B4 hc4 (adC_size _ _) fun w hg hsz B4 hf=>?_
  replace e:=e.gr hg (by omega)
  replace hD:=hD.gr hg hb4D
  replace HM:=HM.gr hg (fun h=>by cases h;omega)
  refine tl_nil <| wret <| retcM rfl T79 hf rfl B4 (adC_size _ _) hD ⟨_,rfl,e.shut hDW,.map (some bm),rfl,?_⟩
  exact MpR.dvE (HM.pres (shut_heap D2 w bm hbD)) (elems_len S) fun h=>h

theorem putP_new {α β:Type}[DecidableEq α]{l:List (α×β)}{x:α}{c:β}(hx:∀c,(x,c) ∉ l):(putP l x c).Perm (l++[(x,c)]):=by
 have hf:l.filter (fun p => !decide (p.1=x))=l:=by
  rw[List.filter_eq_self]
  intro p hp
  have:p.1≠x:=fun e=>hx p.2 (by rw[← e];exact hp)
  simp[this]
 rw[putP,hf]
 exact List.perm_append_comm (l₁:=[(x,c)])
theorem RgR.okn {P:Program}{α β:Type}[DecidableEq α]{V:KV P α β}{w:World}{b r n:Nat}{old rest:List (α×β)}(h:RgR V w b r n old rest):(∀p∈old++rest,V.ok p.1∧V.okv p.2)∧(old++rest).Pairwise fun p q=>p.1≠q.1:=by
 obtain⟨es,left,cnt,h1,h2,h3,h4,h5⟩:=h
 exact⟨h3,h4⟩
theorem not_before {α β:Type}{old rest:List (α×β)}(h:(old++rest).Pairwise fun p q=>p.1≠q.1){x:α}{c:β}(hm:(x,c)∈rest):∀c',(x,c') ∉ old:=fun c' hc'=>(List.pairwise_append.1 h).2.2 _ hc' _ hm rfl
theorem len_rest {α β:Type}{old rest l:List (α×β)}(hp:(old++rest).Perm l){x:α×β}(hm:x∈rest):old.length+1≤l.length:=by
 have h1:=hp.length_eq;have h2:0<rest.length:=List.length_pos_of_mem hm
 rw[List.length_append] at h1;omega
theorem GrR.gr {w w':World}{bg bv be n b:Nat}{g:GT}(h:GrR w bg bv be n g)(hg:w.grownBy w' (some b))(h1:bg≠b)(h2:bv≠b)(h3:be≠b):GrR w' bg bv be n g:=
 ⟨h.blk.gr hg h1,h.vs.gr hg (fun h=>h2 (by cases h;rfl)),h.es.gr hg (fun h=>h3 (by cases h;rfl)),h.ne⟩
theorem rest_less {α β:Type}[DecidableEq α]{rest:List (α×β)}{x:α}{c:β}(hm:(x,c)∈rest):(rest.filter fun p => !decide (p.1=x)).length<rest.length:=by
 rw[← List.countP_eq_length_filter]
 refine Nat.lt_of_le_of_ne List.countP_le_length fun h=>?_
 have:=List.countP_eq_length.1 h _ hm
 simp at this
def wo (nb:Int→BS)(u v:Nat):Int→BS:=fun x=>if x=(u:Int) then del (nb x) (v:Int) else if x=(v:Int) then del (nb x) (u:Int) else nb x
theorem wo_bit {nb:Int→BS}{u v:Nat}(hu:u<1024)(hv:v<1024)(huv:u≠v)(i j:Nat):(wo nb u v (i:Int)).getLsbD j=true↔(nb (i:Int)).getLsbD j=true∧¬(i=u∧j=v)∧¬(i=v∧j=u):=by
 rw[wo]
 by_cases h1:i=u
 ·subst h1
  rw[if_pos rfl,bit_del _ hv]
  exact⟨fun⟨a,b⟩=>⟨a,fun h=>b h.2,fun h=>huv h.1⟩,fun⟨a,b,_⟩=>⟨a,fun h=>b ⟨rfl,h⟩⟩⟩
 ·rw[if_neg (by omega)]
  by_cases h2:i=v
  ·subst h2
   rw[if_pos rfl,bit_del _ hu]
   exact⟨fun⟨a,b⟩=>⟨a,fun h=>h1 h.1,fun h=>b h.2⟩,fun⟨a,_,c⟩=>⟨a,fun h=>c ⟨rfl,h⟩⟩⟩
  ·rw[if_neg (by omega)]
   exact⟨fun a=>⟨a,fun h=>h1 h.1,fun h=>h2 h.1⟩,fun h=>h.1⟩
section
variable {nb:Int→BS}
theorem lvF_nil {at':BS}(h:at'=0)(f:Nat)(seen:BS):lvF nb f at' seen=[]:=by
 cases f with
 | zero=>rfl
 | succ f=>rw[lvF,if_pos h]
theorem lvF_cons {at':BS}(h:at'≠0)(f:Nat)(seen:BS):lvF nb (f+1) at' seen=at'::lvF nb f (nxN nb at' &&& ~~~seen) (seen ||| (nxN nb at' &&& ~~~seen)):=by rw[lvF,if_neg h]
theorem lv_path:∀(f:Nat) (at' seen:BS) (k x:Nat) (S:BS),(lvF nb f at' seen)[k]?=some S→S.getLsbD x=true →
  ∃p:Nat→Nat,at'.getLsbD (p 0)=true∧p k=x∧(∀i,i≤k→∃T,(lvF nb f at' seen)[i]?=some T∧T.getLsbD (p i)=true)∧∀i,i<k→(nb (p i:Int)).getLsbD (p (i+1))=true:=by
 intro f
 induction f with
 | zero=>intro at' seen k x S hS;rw[lvF] at hS;cases hS
 | succ f ih=>
  intro at' seen k x S hS hx
  by_cases h0:at'=0
  ·rw[lvF_nil h0] at hS;cases hS
  rw[lvF_cons h0] at hS ⊢
  cases k with
  | zero=>
   rw[List.getElem?_cons_zero] at hS
   obtain rfl:=Option.some.inj hS
   refine⟨fun _=>x,hx,rfl,fun i hi=>⟨at',?_,hx⟩,fun i hi=>by omega⟩
   rw[show i=0 by omega,List.getElem?_cons_zero]
  | succ k=>
   rw[List.getElem?_cons_succ] at hS
   obtain⟨p,p1,p2,p3,p4⟩:=ih _ _ k x S hS hx
   obtain⟨y,hy,hyp⟩:=nxN_bit.1 ((bit_diff _ _ _).1 p1).1
   refine⟨fun i=>if i=0 then y else p (i - 1),by simpa using hy,by simpa using p2,fun i hi=>?_,fun i hi=>?_⟩
   ·cases i with
    | zero=>exact⟨at',List.getElem?_cons_zero,by simpa using hy⟩
    | succ i=>
     obtain⟨T,h1,h2⟩:=p3 i (by omega)
     exact⟨T,by rw[List.getElem?_cons_succ];exact h1,by simpa using h2⟩
   ·cases i with
    | zero=>simpa using hyp
    | succ i=>simpa using p4 i (by omega)
theorem lv_new:∀(f:Nat) (at' seen:BS) (k x:Nat) (S:BS),(lvF nb f at' seen)[k+1]?=some S→S.getLsbD x=true→¬seen.getLsbD x=true:=by
 intro f
 induction f with
 | zero=>intro at' seen k x S hS;rw[lvF] at hS;cases hS
 | succ f ih=>
  intro at' seen k x S hS hx
  by_cases h0:at'=0
  ·rw[lvF_nil h0] at hS;cases hS
  rw[lvF_cons h0,List.getElem?_cons_succ] at hS
  cases k with
  | zero=>
   cases f with
   | zero=>rw[lvF] at hS;cases hS
   | succ f=>
    by_cases h2:nxN nb at' &&& ~~~seen=0
    ·rw[lvF_nil h2] at hS;cases hS
    ·rw[lvF_cons h2,List.getElem?_cons_zero] at hS
     obtain rfl:=Option.some.inj hS
     exact ((bit_diff _ _ _).1 hx).2
  | succ k=>exact fun h=>ih _ _ k x S hS hx ((bit_or _ _ _).2 (.inl h))
theorem lv_dis:∀(f:Nat) (at' seen:BS),(∀i,at'.getLsbD i=true→seen.getLsbD i=true)→∀(i j x:Nat) (S T:BS),i<j→(lvF nb f at' seen)[i]?=some S→(lvF nb f at' seen)[j]?=some T→S.getLsbD x=true→¬T.getLsbD x=true:=by
 intro f
 induction f with
 | zero=>intro at' seen _ i j x S T _ hS;rw[lvF] at hS;cases hS
 | succ f ih=>
  intro at' seen hin i j x S T hij hS hT hx hxT
  by_cases h0:at'=0
  ·rw[lvF_nil h0] at hS;cases hS
  cases j with
  | zero=>omega
  | succ j=>
   cases i with
   | zero=>
    have h1:=lv_new (f+1) at' seen j x T hT hxT
    rw[lvF_cons h0,List.getElem?_cons_zero] at hS
    obtain rfl:=Option.some.inj hS
    exact h1 (hin x hx)
   | succ i=>
    rw[lvF_cons h0,List.getElem?_cons_succ] at hS hT
    exact ih _ _ (fun k hk=>(bit_or _ _ _).2 (.inr hk)) i j x S T (by omega) hS hT hx hxT
structure Cyc (nb:Int→BS)(p:Nat→Nat)(n:Nat):Prop where
 three:3≤n
 inj:∀i j,i<n→j<n→p i=p j→i=j
 adj:∀i,i+1<n→(nb (p i:Int)).getLsbD (p (i+1))=true
 last:(nb (p (n - 1):Int)).getLsbD (p 0)=true
theorem cyc_of {u v k:Nat}{S:BS}(hu:u<1024)(hv:v<1024)(huv:u≠v)(he:(nb (v:Int)).getLsbD u=true)(hS:(lvB (wo nb u v) u)[k]?=some S)(hx:S.getLsbD v=true):∃p,Cyc nb p (k+1)∧p 0=u∧p k=v:=by
 rw[lvB] at hS
 obtain⟨p,p1,p2,p3,p4⟩:=lv_path _ _ _ k v S hS hx
 have h0:p 0=u:=by
  rcases (bit_ins 0 hu).1 p1 with h|h
  ·exact absurd h (bit_zero _)
  ·exact h
 have hk0:k≠0:=fun h=>huv (by rw[← h0,← p2,h])
 have hk1:k≠1:=fun h=>by
  have h1:=p4 0 (by omega)
  rw[show (0:Nat)+1=k by omega,p2,h0] at h1
  exact ((wo_bit hu hv huv u v).1 h1).2.1 ⟨rfl,rfl⟩
 refine⟨p,⟨by omega,fun i j hi hj hij=>?_,fun i hi=>((wo_bit hu hv huv _ _).1 (p4 i (by omega))).1,?_⟩,h0,p2⟩
 ·obtain⟨S1,a1,a2⟩:=p3 i (by omega)
  obtain⟨S2,b1,b2⟩:=p3 j (by omega)
  rw[← hij] at b2
  rcases Nat.lt_trichotomy i j with h|h|h
  ·exact absurd b2 (lv_dis _ _ _ (fun k hk=>hk) i j (p i) S1 S2 h a1 b1 a2)
  ·exact h
  ·exact absurd a2 (lv_dis _ _ _ (fun k hk=>hk) j i (p i) S2 S1 h b1 a1 b2)
 ·rw[show k+1 - 1=k by omega,p2,h0];exact he
end
section
variable {nb:Int→BS}
theorem lv_succ:∀(f:Nat) (at' seen:BS),(1024<f+card seen∨at'=0)→∀(k x y:Nat) (S:BS),(lvF nb f at' seen)[k]?=some S→S.getLsbD x=true→(nb (x:Int)).getLsbD y=true →
  seen.getLsbD y=true∨∃k' T,k'≤k+1∧(lvF nb f at' seen)[k']?=some T∧T.getLsbD y=true:=by
 intro f
 induction f with
 | zero=>intro at' seen _ k x y S hS;rw[lvF] at hS;cases hS
 | succ f ih=>
  intro at' seen hf k x y S hS hx hxy
  by_cases h0:at'=0
  ·rw[lvF_nil h0] at hS;cases hS
  rw[lvF_cons h0] at hS ⊢
  obtain⟨a2,ha2⟩:∃a2,a2=nxN nb at' &&& ~~~seen:=⟨_,rfl⟩
  rw[← ha2] at hS ⊢
  have hfu:1024<f+card (seen ||| a2)∨a2=0:=by
   by_cases h2:a2=0
   ·exact .inr h2
   ·left
    obtain⟨z,hz⟩:∃z,a2.getLsbD z=true:=Classical.byContradiction fun hn=>h2 (set_ext' fun k=>⟨fun h=>absurd ⟨k,h⟩ hn,fun h=>absurd h (bit_zero k)⟩)
    have:=card_lt (S:=seen) (T:=seen ||| a2) (z:=z) (fun i hi=>(bit_or _ _ _).2 (.inl hi)) ((bit_or _ _ _).2 (.inr hz)) (by rw[ha2] at hz;exact ((bit_diff _ _ _).1 hz).2)
    rcases hf with h|h
    ·omega
    ·exact absurd h h0
  have hone:∀y,a2.getLsbD y=true→∃T,(at'::lvF nb f a2 (seen ||| a2))[1]?=some T∧T.getLsbD y=true:=fun y hy=>by
   have hne:a2≠0:=fun h=>by rw[h] at hy;exact bit_zero _ hy
   cases f with
   | zero=>
    rcases hfu with h|h
    ·have:=card_le_1024 (seen ||| a2);omega
    ·exact absurd h hne
   | succ f=>exact⟨a2,by rw[List.getElem?_cons_succ,lvF_cons hne,List.getElem?_cons_zero],hy⟩
  cases k with
  | zero=>
   rw[List.getElem?_cons_zero] at hS
   obtain rfl:=Option.some.inj hS
   by_cases hs:seen.getLsbD y=true
   ·exact .inl hs
   ·obtain⟨T,h1,h2⟩:=hone y (by rw[ha2];exact (bit_diff _ _ _).2 ⟨nxN_bit.2 ⟨x,hx,hxy⟩,hs⟩)
    exact .inr ⟨1,T,by omega,h1,h2⟩
  | succ k=>
   rw[List.getElem?_cons_succ] at hS
   rcases ih a2 (seen ||| a2) hfu k x y S hS hx hxy with h|⟨k',T,h1,h2,h3⟩
   ·rcases (bit_or _ _ _).1 h with h|h
    ·exact .inl h
    ·obtain⟨T,h1,h2⟩:=hone y h
     exact .inr ⟨1,T,by omega,h1,h2⟩
   ·exact .inr ⟨k'+1,T,by omega,by rw[List.getElem?_cons_succ];exact h2,h3⟩
theorem lv_far {a:Nat}(ha:a<1024)(q:Nat→Nat)(h0:q 0=a):∀m,(∀i,i<m→(nb (q i:Int)).getLsbD (q (i+1))=true)→∃k T,k≤m∧(lvB nb a)[k]?=some T∧T.getLsbD (q m)=true:=by
 have h1:∀i,(ins 0 (a:Int)).getLsbD i=true↔i=a:=fun i=>by
  rw[bit_ins _ ha]
  exact⟨fun h=>h.resolve_left (bit_zero i),.inr⟩
 have hne:ins 0 (a:Int)≠0:=fun h=>by
  have:=(h1 a).2 rfl
  rw[h] at this;exact bit_zero _ this
 have hz:(lvB nb a)[0]?=some (ins 0 (a:Int)):=by rw[lvB,lvF_cons hne,List.getElem?_cons_zero]
 intro m
 induction m with
 | zero=>intro _;exact⟨0,_,Nat.le_refl _,hz,(h1 _).2 h0⟩
 | succ m ih=>
  intro hw
  obtain⟨k,T,k1,k2,k3⟩:=ih fun i hi=>hw i (by omega)
  rw[lvB] at k2
  rcases lv_succ 1025 _ _ (.inl (by omega)) k (q m) (q (m+1)) T k2 k3 (hw m (Nat.lt_succ_self _)) with h|⟨k',T',m1,m2,m3⟩
  ·exact⟨0,_,by omega,hz,h⟩
  ·exact⟨k',T',by omega,by rw[lvB];exact m2,m3⟩
def farF (L:List BS)(b:Nat):Int:=match L.findIdx? (fun S=>S.getLsbD b) with
 | some i=>(i:Int)
 | none => -1
theorem farF_le {L:List BS}{b k:Nat}{T:BS}(h:L[k]?=some T)(hT:T.getLsbD b=true):0≤farF L b∧farF L b≤k:=by
 rw[farF]
 cases hf:L.findIdx? (fun S=>S.getLsbD b) with
 | none=>
  have:=List.findIdx?_eq_none_iff.1 hf T (List.mem_of_getElem? h)
  rw[hT] at this;cases this
 | some i=>
  obtain⟨h1,h2,h3⟩:=List.findIdx?_eq_some_iff_getElem.1 hf
  refine⟨(show (0:Int)≤(i:Int) by omega),?_⟩
  by_cases hik:i≤k
  ·show (i:Int)≤k;omega
  ·exfalso
   have:=h3 k (by omega)
   obtain⟨hk,he⟩:=List.getElem?_eq_some_iff.1 h
   rw[he,hT] at this
   exact this rfl
theorem farF_some {L:List BS}{b k:Nat}(h:farF L b=(k:Int)):∃T,L[k]?=some T∧T.getLsbD b=true:=by
 rw[farF] at h
 cases hf:L.findIdx? (fun S=>S.getLsbD b) with
 | none=>rw[hf] at h;exact absurd h (by show ¬(-1:Int)=k;omega)
 | some i=>
  obtain⟨h1,h2,_⟩:=List.findIdx?_eq_some_iff_getElem.1 hf
  rw[hf] at h
  have:i=k:=by have h':(i:Int)=k:=h;omega
  subst this
  exact⟨_,List.getElem?_eq_getElem h1,h2⟩
def extF (nb:Int→BS)(a n:Nat):Nat→List Nat→Option (List Nat)
 | 0,_=>none
 | f+1,way=>if way.length=n then (if (nb (way.getLastD 0:Nat)).getLsbD a=true then some way else none)
  else (elems (nb (way.getLastD 0:Nat))).findSome? fun next=>if way.contains next=true∨(n:Int) - way.length<farF (lvB nb a) next then none else extF nb a n f (way++[next])
theorem extF_len {a n:Nat}:∀(f:Nat) (way out:List Nat),extF nb a n f way=some out→out.length=n:=by
 intro f
 induction f with
 | zero=>intro way out h;cases h
 | succ f ih=>
  intro way out h
  rw[extF] at h
  split at h
  ·rename_i hl
   split at h
   ·cases h;exact hl
   ·cases h
  ·obtain⟨next,_,hn⟩:=List.exists_of_findSome?_eq_some h
   split at hn
   ·cases hn
   ·exact ih _ _ hn
theorem extF_some (hs:∀i j:Nat,(nb (i:Int)).getLsbD j=true→(nb (j:Int)).getLsbD i=true){p:Nat→Nat}{n:Nat}(h:Cyc nb p n):∀(f i:Nat),i<n→n≤f+i→extF nb (p 0) n f ((List.range (i+1)).map p)≠none:=by
 have hp0:p 0<1024:=bit_lt h.last
 intro f
 induction f with
 | zero=>intro i hi hf;omega
 | succ f ih=>
  intro i hi hf
  have hlen:((List.range (i+1)).map p).length=i+1:=by rw[List.length_map,List.length_range]
  have hlast:((List.range (i+1)).map p).getLastD 0=p i:=by rw[List.range_succ,List.map_append,List.map_singleton,List.getLastD_concat]
  rw[extF,hlen,hlast]
  by_cases hn:i+1=n
  ·rw[if_pos hn,if_pos (by have:=h.last;rwa [show n - 1=i by omega] at this)]
   exact fun h=>by cases h
  ·rw[if_neg hn]
   intro hno
   have hadj:=h.adj i (by omega)
   have hmem:p (i+1)∈elems (nb (p i:Int)):=mem_elems.2 ⟨bit_lt hadj,hadj⟩
   have h1:=List.findSome?_eq_none_iff.1 hno _ hmem
   have hnc:¬((List.range (i+1)).map p).contains (p (i+1))=true:=fun hc=>by
    obtain⟨j,hj,he⟩:=List.mem_map.1 (List.contains_iff_mem.1 hc)
    have hj:=List.mem_range.1 hj
    have:=h.inj j (i+1) (by omega) (by omega) he
    omega
   obtain⟨k,T,k1,k2,k3⟩:=lv_far (nb:=nb) hp0 (fun j=>if j=0 then p 0 else p (n - j)) rfl (n - (i+1)) fun j hj=>by
    by_cases h0:j=0
    ·subst h0
     exact hs _ _ (by simpa using h.last)
    ·have:=h.adj (n - (j+1)) (by omega)
     rw[show n - (j+1)+1=n - j by omega] at this
     simp only[h0,if_false,Nat.add_eq_zero_iff,false_and]
     exact hs _ _ this
   rw[if_neg (by omega),show n - (n - (i+1))=i+1 by omega] at k3
   have hd:=farF_le k2 k3
   rw[if_neg (by
    rintro (hc|hc)
    ·exact hnc hc
    ·have:((i+1:Nat):Int)=(i:Int)+1:=rfl
     omega)] at h1
   have h2:=ih (i+1) (by omega) (by omega)
   rw[List.range_succ (n:=i+1),List.map_append,List.map_singleton] at h2
   exact h2 h1
theorem Cyc.rot {p:Nat→Nat}{n:Nat}(h:Cyc nb p n):Cyc nb (fun i=>if i=n - 1 then p 0 else p (i+1)) n:=by
 have h3:=h.three
 refine⟨h3,fun i j hi hj hij=>?_,fun i hi=>?_,?_⟩
 ·try dsimp only at hij
  split at hij <;> split at hij
  ·omega
  ·have:=h.inj _ _ (by omega) (by omega) hij;omega
  ·have:=h.inj _ _ (by omega) (by omega) hij;omega
  ·have:=h.inj _ _ (by omega) (by omega) hij;omega
 ·try dsimp only
  rw[if_neg (by omega)]
  split
  ·have:=h.last
   rwa [show n - 1=i+1 by omega] at this
  ·exact h.adj (i+1) (by omega)
 ·try dsimp only
  rw[if_pos rfl,if_neg (by omega)]
  exact h.adj 0 (by omega)
theorem Cyc.at {n:Nat}:∀(i:Nat) (p:Nat→Nat),Cyc nb p n→i<n→∃p',Cyc nb p' n∧p' 0=p i∧∀j,j<n→∃j',j'<n∧p' j=p j':=by
 intro i
 induction i with
 | zero=>intro p h _;exact⟨p,h,rfl,fun j hj=>⟨j,hj,rfl⟩⟩
 | succ i ih=>
  intro p h hi
  obtain⟨p',h1,h2,h4⟩:=ih _ h.rot (by omega)
  rw[if_neg (by omega)] at h2
  refine⟨p',h1,h2,fun j hj=>?_⟩
  obtain⟨j',hj',e⟩:=h4 j hj
  split at e
  ·exact⟨0,by omega,e⟩
  ·exact⟨j'+1,by omega,e⟩
theorem least_at (p:Nat→Nat):∀n,0<n→∃i,i<n∧∀j,j<n→p i≤p j:=by
 intro n
 induction n with
 | zero=>intro h;omega
 | succ n ih=>
  intro _
  by_cases h0:n=0
  ·exact⟨0,by omega,fun j hj=>by rw[show j=0 by omega];exact Nat.le_refl _⟩
  obtain⟨i,hi,h⟩:=ih (by omega)
  by_cases hle:p i≤p n
  ·exact⟨i,by omega,fun j hj=>by
    by_cases hjn:j=n
    ·rw[hjn];exact hle
    ·exact h j (by omega)⟩
  ·exact⟨n,by omega,fun j hj=>by
    by_cases hjn:j=n
    ·rw[hjn];exact Nat.le_refl _
    ·have:=h j (by omega);omega⟩
theorem Cyc.least {p:Nat→Nat}{n:Nat}(h:Cyc nb p n):∃p',Cyc nb p' n∧∀j,j<n→p' 0≤p' j:=by
 have h3:=h.three
 obtain⟨i,hi,hm⟩:=least_at p n (by omega)
 obtain⟨p',h1,h2,h4⟩:=Cyc.at i p h hi
 refine⟨p',h1,fun j hj=>?_⟩
 obtain⟨j',hj',e⟩:=h4 j hj
 rw[h2,e]
 exact hm j' hj'
theorem Cyc.within {p:Nat→Nat}{n:Nat}{S:BS}{nb':Int→BS}(h:Cyc nb p n)(hS:∀i,i<n→S.getLsbD (p i)=true)(hn:∀i j:Nat,S.getLsbD i=true→S.getLsbD j=true→(nb (i:Int)).getLsbD j=true→(nb' (i:Int)).getLsbD j=true):Cyc nb' p n:=
 have h3:=h.three
 ⟨h3,h.inj,fun i hi=>hn _ _ (hS i (by omega)) (hS _ hi) (h.adj i hi),hn _ _ (hS _ (by omega)) (hS _ (by omega)) h.last⟩
def girF (nb:Int→BS)(es:List (Nat×Nat)):Int:=es.foldl (fun best e=>let n:=farF (lvB (wo nb e.1 e.2) e.1) e.2;if n ≠ -1∧(best=0∨n+1<best) then n+1 else best) 0
theorem farF_lo (L:List BS)(b:Nat) : -1≤farF L b:=by
 rw[farF];split
 ·show (-1:Int)≤(_:Nat);omega
 ·exact Int.le_refl _
theorem girTo_ok (nb:Int→BS):∀(es:List (Nat×Nat)) (b:Int),0≤b→0≤es.foldl (fun best e=>let n:=farF (lvB (wo nb e.1 e.2) e.1) e.2;if n ≠ -1∧(best=0∨n+1<best) then n+1 else best) b ∧
  (es.foldl (fun best e=>let n:=farF (lvB (wo nb e.1 e.2) e.1) e.2;if n ≠ -1∧(best=0∨n+1<best) then n+1 else best) b=0↔b=0∧∀e∈es,farF (lvB (wo nb e.1 e.2) e.1) e.2 = -1) ∧
  (es.foldl (fun best e=>let n:=farF (lvB (wo nb e.1 e.2) e.1) e.2;if n ≠ -1∧(best=0∨n+1<best) then n+1 else best) b=b∨∃e∈es,farF (lvB (wo nb e.1 e.2) e.1) e.2 ≠ -1∧es.foldl (fun best e=>let n:=farF (lvB (wo nb e.1 e.2) e.1) e.2;if n ≠ -1∧(best=0∨n+1<best) then n+1 else best) b=farF (lvB (wo nb e.1 e.2) e.1) e.2+1):=by
 intro es
 induction es with
 | nil=>intro b hb;exact⟨hb,⟨fun h=>⟨h,fun e he=>by cases he⟩,fun h=>h.1⟩,.inl rfl⟩
 | cons e es ih=>
  intro b hb
  obtain⟨n,hn⟩:∃n,n=farF (lvB (wo nb e.1 e.2) e.1) e.2:=⟨_,rfl⟩
  have hlo : -1≤n:=by rw[hn];exact farF_lo _ _
  rw[List.foldl_cons]
  rw[← hn]
  obtain⟨b',hb'⟩:∃b',b'=if n ≠ -1∧(b=0∨n+1<b) then n+1 else b:=⟨_,rfl⟩
  rw[← hb']
  have hb0:0≤b':=by rw[hb'];split <;> omega
  have hz:b'=0↔b=0∧n = -1:=by
   rw[hb']
   split
   ·rename_i h;constructor
    ·intro h';omega
    ·intro h';omega
   ·rename_i h;constructor
    ·intro h';refine⟨h',Classical.byContradiction fun hh=>h ⟨hh,.inl h'⟩⟩
    ·intro h';exact h'.1
  obtain⟨i1,i2,i3⟩:=ih b' hb0
  dsimp only at i1 i2 i3
  refine⟨i1,?_,?_⟩
  ·rw[i2,hz]
   constructor
   ·rintro⟨⟨h1,h2⟩,h3⟩
    exact⟨h1,fun x hx=>by
     rcases List.mem_cons.1 hx with rfl|hx
     ·rw[← hn];exact h2
     ·exact h3 x hx⟩
   ·rintro⟨h1,h2⟩
    exact⟨⟨h1,by rw[hn];exact h2 e (List.mem_cons_self ..)⟩,fun x hx=>h2 x (List.mem_cons_of_mem _ hx)⟩
  ·rcases i3 with h|⟨x,hx,h1,h2⟩
   ·rw[h,hb']
    split
    ·rename_i hc
     exact .inr ⟨e,List.mem_cons_self ..,by rw[← hn];exact hc.1,by rw[← hn]⟩
    ·exact .inl rfl
   ·exact .inr ⟨x,List.mem_cons_of_mem _ hx,h1,h2⟩
theorem girF_ok (es:List (Nat×Nat)):(girF nb es=0↔∀e∈es,farF (lvB (wo nb e.1 e.2) e.1) e.2 = -1)∧(girF nb es≠0→∃e∈es,∃k:Nat,farF (lvB (wo nb e.1 e.2) e.1) e.2=(k:Int)∧girF nb es=((k+1:Nat):Int)):=by
 obtain⟨h1,h2,h3⟩:=girTo_ok nb es 0 (Int.le_refl _)
 refine⟨h2.trans ⟨fun h=>h.2,fun h=>⟨rfl,h⟩⟩,fun hne=>?_⟩
 rcases h3 with h|⟨e,he,h4,h5⟩
 ·exact absurd h hne
 ·have hlo:=farF_lo (lvB (wo nb e.1 e.2) e.1) e.2
  refine⟨e,he,(farF (lvB (wo nb e.1 e.2) e.1) e.2).toNat,by omega,?_⟩
  rw[girF,h5];omega
end
theorem farF_none {L:List BS}{b:Nat}:farF L b = -1↔¬(unL L).getLsbD b=true:=by
 constructor
 ·intro h hh
  obtain⟨T,hT,hb⟩:=unL_bit.1 hh
  obtain⟨k,hk,he⟩:=List.getElem_of_mem hT
  have:=farF_le (L:=L) (k:=k) (by rw[List.getElem?_eq_getElem hk,he]) hb
  omega
 ·intro h
  refine Classical.byContradiction fun hn=>?_
  have hlo:=farF_lo L b
  obtain⟨T,hT,hb⟩:=farF_some (L:=L) (b:=b) (k:=(farF L b).toNat) (by omega)
  exact h (unL_bit.2 ⟨T,List.mem_of_getElem? hT,hb⟩)
section
variable {nb:Int→BS}
end
section
variable {g:GT}
theorem girth_found (G:Gr.Ok g){es:List (Nat×Nat)}(hes:∀i j:Nat,Adj g i j↔(i,j)∈es∨(j,i)∈es)(hn:girF (nbA g) es≠0) :
  ∃n:Nat,girF (nbA g) es=(n:Int)∧3≤n∧∃a,(vset g.1).getLsbD a=true∧∀S:BS,(∀i,(vset g.1).getLsbD i=true→a≤i→S.getLsbD i=true) →
   ∀(nb':Int→BS),(∀i j:Nat,S.getLsbD i=true→S.getLsbD j=true→(nbA g (i:Int)).getLsbD j=true→(nb' (i:Int)).getLsbD j=true)→(∀i j:Nat,(nb' (i:Int)).getLsbD j=true→(nb' (j:Int)).getLsbD i=true)→∀f,n≤f→extF nb' a n f [a]≠none:=by
 obtain⟨e,he,k,hk,hg⟩:=(girF_ok es).2 hn
 obtain⟨T,hT,hb⟩:=farF_some hk
 have hA:Adj g e.1 e.2:=(hes _ _).2 (.inl he)
 obtain⟨hi,hj,hne⟩:=hA.inn G
 obtain⟨p0,hp0,_⟩:=cyc_of (bit_lt hi) (bit_lt hj) hne ((nbA_bit G).2 hA.symm) hT hb
 obtain⟨p,hp,hmin⟩:=hp0.least
 have h3:=hp.three
 have hV:∀i,i<k+1→(vset g.1).getLsbD (p i)=true:=fun i hi=>by
  by_cases hi1:i+1<k+1
  ·exact (((nbA_bit G).1 (hp.adj i hi1)).inn G).1
  ·have:=(((nbA_bit G).1 hp.last).inn G).1
   rwa [show k+1 - 1=i by omega] at this
 refine⟨k+1,hg,h3,p 0,hV 0 (by omega),fun S hS nb' hnb hs' f hf=>?_⟩
 have hpS:∀i,i<k+1→S.getLsbD (p i)=true:=fun i hi=>hS _ (hV i hi) (hmin i hi)
 have hp':=hp.within (nb':=nb') hpS hnb
 have:=extF_some hs' hp' f 0 (by omega) (by omega)
 rwa [show (List.range (0+1)).map p=[p 0] from rfl] at this
end

theorem lkS_put (l:List (Int×BS))(x:Int)(c:BS)(i:Int):lkS (putP l x c) i=if i=x then c else lkS l i:=by
 rw[lkS,putP,List.find?_cons]
 by_cases h:x=i
 ·subst h;simp
 ·have h1:decide ((x,c).1=i)=false:=by simp[h]
  rw[h1,if_neg (Ne.symm h),lkS]
  congr 2
  induction l with
  | nil=>rfl
  | cons p l ih=>
   rw[List.filter_cons]
   by_cases hp:p.1=x
   ·have h2:decide (p.1=i)=false:=by rw[hp];simp[h]
    rw[if_neg (by simp[hp]),List.find?_cons,h2];exact ih
   ·rw[if_pos (by simp[hp]),List.find?_cons,List.find?_cons]
    cases decide (p.1=i) <;> simp[ih]
theorem lk_wo (l:List (Int×BS)){u v:Nat}(huv:u≠v):lkS (putP (putP l (u:Int) (del (lkS l (u:Int)) (v:Int))) (v:Int) (del (lkS l (v:Int)) (u:Int)))=wo (lkS l) u v:=by
 funext i
 rw[lkS_put,lkS_put,wo]
 by_cases h1:i=(u:Int)
 ·rw[if_neg (by omega),if_pos h1,if_pos h1,h1]
 ·by_cases h2:i=(v:Int)
  ·rw[if_pos h2,if_neg h1,if_pos h2,h2]
  ·rw[if_neg h2,if_neg h1,if_neg h1,if_neg h2]
def WoA (nb:Int→BS)(S:BS)(N:Nat):VA:=⟨fun v w=>∃l,lkS l=nb∧(AdjA l S N).p v w,fun v w w' e ⟨l,h1,h2⟩=>⟨l,h1,(AdjA l S N).st v w w' e h2⟩⟩
theorem without07_spec {G:Nat→Prop}{N0:Nat}(l:List (Int×BS))(S0:BS)(u v:Nat)(mq:Value)(W:World)(hT:Tab W)(h:(Dv (mpE sKV N0) G l).p mq W)(hN:N0≤100000)(hu:u<1024)(hv:v<1024)(huv:u≠v)(hmu:((u:Int),lkS l (u:Int))∈l) :
  Calls Tryz.prog 51 #[.agg (adC S0 mq),I (u:Nat),I (v:Nat)] W (Post (WoA (wo (lkS l) u v) S0 (N0+2)) W):=by
 obtain⟨cs,⟨b0,n0,rfl,hG0,hn0,HM0⟩,hmq⟩:=(Dv.toB (Dv.weak h fun b _ hb=>hb.elim):(Dv (mpE sKV N0) (GB W G0) l).p mq W)
 replace hmq:mq=.map (some b0):=hmq
 subst hmq
 have hb0:b0<W.heap.size:=Nat.lt_of_not_le fun h=>hG0 (.inr h)
 have hll:l.length≤N0:=Nat.le_trans HM0.size_le hn0
 have hwu:(Lit.int .i64 (u:Int)).wf=true:=wf64 (by omega) (by omega)
 have hwv:(Lit.int .i64 (v:Int)).wf=true:=wf64 (by omega) (by omega)
 have hwo:=lk_wo l huv
 obtain⟨au,hau⟩:∃au,au=del (lkS l (u:Int)) (v:Int):=⟨_,rfl⟩
 obtain⟨av,hav⟩:∃av,av=del (lkS l (v:Int)) (u:Int):=⟨_,rfl⟩
 rw[← hau,← hav] at hwo
 have hT0:=hT.lt
 refine eN [.agg (adC S0 (.map (some b0))),I (u:Nat),I (v:Nat)] [E (.agg (adC S0 (.map (some b0)))),E (I (u:Nat)),E (I (v:Nat))] Tryz.func51 Tryz.ntmps51 ?_ fun a hf=>?_
 rotate_left
 dsimp only[params,Nat.reduceAdd] at hf
 rotate_right
 ·exact arg3 rfl rfl rfl
 have e:=Ext.rfl' W
 refine seq <| regn0 <| tB hf rfl fun a b3 w v3 hv3 e' hb3 hs3 B3 hf=>?_
 obtain⟨hT,HM0,e⟩:=up3 e' hT HM0 e
 refine tL I79 hf fun a b6 w e' hb6 hs6 B6 hf=>?_
 obtain⟨hT,HM0,e,B3⟩:=up4 e' hT HM0 e B3
 refine tl_nil ?_
 cases hv3
 replace B3:Blk w b3 (adC S0 (.map (some b0))) 79:=B3
 have n36:b3≠b6∧W.heap.size≤b3∧W.heap.size≤b6:=by omega
 replace hf:=hf.kp [1,2,3,6]
 refine seq <| rgN 2 hf <| st (fA U79 rfl T76 rfl) <| st ((ldP T76 rfl B3 (by rw[adC_size];decide)).eq (congrArg Value.agg (adC_set S0 (.map (some b0))))) ?_
 refine en fun a w e' hf=>?_
 obtain⟨hT,HM0,e,B3,B6⟩:=up5 e' hT HM0 e B3 B6
 refine tl_mkV sKV hf (by decide) fun a bm w e' hbm hsm HM hf=>?_
 have lb3:=B3.lt
 have lb6:=B6.lt
 have hle:=e.size
 have nm:b3<bm∧b6<bm∧W.heap.size≤bm:=by omega
 replace e:=e.tr e';replace hT:=hT.ext e';replace HM0:=HM0.ext e';replace B3:=B3.ext e';replace B6:=B6.ext e'
 have hNm:bm+1≤w.heap.size:=HM.lt
 refine tP hf (bldV [(0,_),(1,_)] rfl (bAd2 S0 bm)) fun a w e' hf=>?_
 obtain⟨hT,HM0,HM,hNm,e,B3,B6⟩:=up7 e' hT HM0 HM hNm e B3 B6
 refine tL I79 hf fun a b7 w e' hb7 hs7 B7 hf=>?_
 obtain⟨hT,HM0,HM,hNm,e,B3,B6⟩:=up7 e' hT HM0 HM hNm e B3 B6
 have n7:b3≠b7∧b6≠b7∧b7≠bm∧W.heap.size≤b7∧bm<b7:=by have:=B3.lt;have:=B6.lt;omega
 refine tl_stW T79 hf rfl rfl (adC_one _ _) B7 rfl (adC_size _ _) fun w hg hsz B7 hf=>?_
 replace e:=e.gr hg (by omega);replace hT:=hT.gr hg (by omega);replace HM0:=HM0.gr hg (fun h=>by cases h;omega);replace B3:=B3.gr hg (by omega);replace B6:=B6.gr hg (by omega);replace HM:=HM.gr hg (fun h=>by cases h;omega);clear hg hNm
 refine tl_nil ?_
 replace hf:=hf.keep [1,2,3,6,7]
 repeat refine seq ?_
 refine rgN 2 hf <| st (fA U79 rfl T77 rfl) <| st (ld1 (v:=.map (some b0)) T77 rfl B3 (adC_map _ _)) <| en fun a w e' hf=>?_
 obtain⟨hT,HM0,HM,e,B3,B6,B7⟩:=up7 e' hT HM0 HM e B3 B6 B7
 replace hf:=hf.keep [1,2,6,7,15]
 have l7w:=B7.lt
 refine tl_range (V:=sKV) U77 hf (by decide) rfl HM0 fun a r w e' hr hsr HR hf=>?_
 have hr7:b7<r:=by omega
 have hrW:W.heap.size≤r:=by omega
 have hNr:r+1≤w.heap.size:=by omega
 replace e:=e.tr e';replace hT:=hT.ext e';replace B6:=B6.ext e';replace B7:=B7.ext e';replace HM:=HM.ext e'
 refine tl_nil ?_
 replace hf:=hf.keep [1,2,6,7,16]
 obtain⟨c6,hc6,hB6⟩:∃c6:Array Value,c6.size=17∧Blk w b6 c6 79:=⟨_,by rfl,B6⟩
 have B6:=hB6
 refine cut (J:=fun a w=>Fr 47 a w [(1,E (I (u:Nat))),(2,E (I (v:Nat))),(6,E (ptr b6)),(7,E (ptr b7))]∧Ext W w∧Tab w∧Blk w b6 c6 79∧Blk w b7 (adC S0 (.map (some bm))) 79∧MpR sKV w bm l.length l) ?_ (fun a w hJ=>?_)
 ·refine blk (loopN (fun r0 a w=>∃(old rest:List (Int×BS)),r0=rest.length∧Fr 47 a w [(1,E (I (u:Nat))),(2,E (I (v:Nat))),(6,E (ptr b6)),(7,E (ptr b7)),(16,E (ptr r))]∧Ext W w∧Tab w∧Blk w b6 c6 79∧Blk w b7 (adC S0 (.map (some bm))) 79∧RgR sKV w b0 r n0 old rest∧MpR sKV w bm old.length old∧r+1≤w.heap.size∧(old++rest).Perm l) l.length ⟨[],l,rfl,hf,e,hT,B6,B7,HR,HM,hNr,List.Perm.refl _⟩ ?_)
  rintro r0 a w ⟨old,rest,rfl,hf,e,hT,B6,B7,HR,HM,hNr,hp⟩
  obtain⟨hok,hpw⟩:=HR.okn
  refine seq <| regn0 <| tl_next hf (by decide) rfl HR (fun a hrest hf=>?_) (fun a w' x c hm hg HR hen hf=>?_)
  ·refine tl_exE hf (by decide) rfl rfl fun a hf=>tl_nil <| seq <| ifc hf rfl (fun h=>by cases h) (fun _=>?_)
   refine wexit ?_
   simp only[Exit.then,Exit.inBlock,↓reduceIte]
   subst hrest
   rw[List.append_nil] at hp
   replace HM:=(HM.perm hp).mono (Nat.le_of_eq hp.length_eq)
   replace hf:=hf.keep [1,2,6,7]
   exact⟨trivial,hf,e,hT,B6,B7,HM⟩
  ·have hxc:=hok (x,c) (List.mem_append_right _ hm)
   have hno:=not_before hpw hm
   have hlen:=len_rest hp hm
   have hmr:=rest_less hm
   have hp':(old++[(x,c)]++rest.filter fun p => !decide (p.1=x)).Perm l:=by
    rw[List.append_assoc];exact (List.Perm.append_left old (filter_one_perm (List.pairwise_append.1 hpw).2.1 hm).symm).trans hp
   replace e:=e.gr hg hrW;replace hT:=hT.gr hg (by omega);replace B6:=B6.gr hg (by omega);replace B7:=B7.gr hg (by omega);replace HM:=HM.gr hg (fun h=>by cases h;omega);replace hNr:=Nat.le_trans hNr hg.size;clear hg
   refine tl_exE hf (by decide) rfl rfl fun a hf=>tl_nil <| seq <| ifc hf rfl (fun _=>?_) (fun h=>by cases h)
   refine wskip <| blk <| seq <| regn0 <| tl_entry hf (by decide) rfl hen fun a hf=>?_
   replace hf:=hf.kp [1,2,6,7,16,19]
   refine tl_exE hf (by decide) rfl rfl fun a hf=>tl_exE hf (by decide) rfl rfl fun a hf=>tL I76 hf fun a b9 w e' hb9 hs9 B9 hf=>?_
   obtain⟨hT,HM,HR,hNr,e,B6,B7⟩:=up7 e' hT HM HR hNr e B6 B7
   refine tA hf rfl fun a hf=>?_
   replace HR:RgR sKV w b0 r n0 (old++[(x,c)]) (rest.filter fun p => !decide (p.1=x)):=HR
   have h9:r<b9:=by omega
   refine tl_stW T76 hf rfl rfl (wordsC_one _) B9 rfl (setC_size _) fun w hg hsz B9 hf=>?_
   replace e:=e.gr hg (by omega);replace hT:=hT.gr hg (by omega);replace B6:=B6.gr hg (by omega);replace B7:=B7.gr hg (by omega);replace HR:=HR.gr hg (fun h=>by cases h;omega) (fun h=>by cases h;omega);replace HM:=HM.gr hg (fun h=>by cases h;omega);replace hNr:=Nat.le_trans hNr hg.size;clear hg
   refine tl_nil ?_
   replace hf:=hf.kp [1,2,6,7,8,9,16]
   refine rgN 4 hf <| st (fA U79 rfl T77 rfl) <| st (ld1 (v:=.map (some bm)) T77 rfl B7 (adC_map _ _)) <| st (mv rfl) <| st ((ldW T76 rfl B9 rfl).eq ((rfl:_=setV c))) <| en fun a w e' hf=>?_
   obtain⟨hT,HM,HR,hNr,e,B6,B7,B9⟩:=up8 e' hT HM HR hNr e B6 B7 B9
   refine tl_mputV (V:=sKV) (i:=x) (c:=c) U77 hf rfl rfl rfl HM (by simp only[maxLen];omega) hxc.1 trivial fun w hg HM hf=>?_
   replace e:=e.gr hg (by omega);replace hT:=hT.gr hg (by omega);replace B6:=B6.gr hg (by omega);replace B7:=B7.gr hg (by omega);replace HR:=HR.gr hg (fun h=>by cases h;omega) (fun h=>by cases h;omega);replace hNr:=Nat.le_trans hNr hg.size;clear hg
   refine tl_nil ?_
   replace hf:=hf.keep [1,2,6,7,16]
   exact⟨_,hmr,old++[(x,c)],_,rfl,hf,e,hT,B6,B7,HR,by rw[List.length_append];exact HM.perm (putP_new hno),hNr,hp'⟩
 obtain⟨hf,e,hT,B6,B7,HM⟩:=hJ
 have hlm:l.length<maxLen:=by simp only[maxLen];omega
 have hlm1:l.length+1<maxLen:=by simp only[maxLen];omega
 have hd:=HM.dvE (N:=l.length) (Nat.le_refl _) (G:=G0) (fun h=>h)
 refine seq <| regJ 21 [0,0,0,1,1,1,0,0,0,0,0,0,0,0,0,0,0,2,0,0] (Chg fun c=>c=bm) (RelJ.one _) (fun w=>MpR sKV w bm (l.length+1) (putP l (u:Int) au)) (fun w w1 k h=>h.ext k) Mix.mix hf (by decide +kernel) (by decide +kernel) <| ja (fA U79 rfl T77 rfl) <| ja (ld1 (v:=.map (some bm)) T77 rfl B7 (adC_map _ _)) <| ja (mv rfl) <| jf (fun w1 h1=>fA U79 rfl T77 rfl) <| jf (fun w1 h1=>ld1 (v:=.map (some bm)) T77 rfl (B7.ch h1 (fun h=>by omega)) (adC_map _ _)) <| jf (fun w1 h1=>mv rfl) <| ja (fA U79 rfl T77 rfl) <| ja (ld1 (v:=.map (some bm)) T77 rfl B7 (adC_map _ _)) <| ja (mv rfl) <| ja (lkM (l:=l) (i:=(u:Int)) U77 zero_set (isE rfl hd) rfl hwu) <| ja (mv rfl) <| ja (call2 (A:=E (setV au)) (B:=E (setV (lkS l (u:Int)))) (C:=E (I (v:Nat))) En59 rfl rfl (fun v u w he h h'=>by cases h;cases h';rw[hau];exact without_spec _ _ w)) ?_
 refine ja (fA U79 rfl T77 rfl) <| ja (ld1 (v:=.map (some bm)) T77 rfl B7 (adC_map _ _)) <| ja (mv rfl) <| ja (lkM (l:=l) (i:=(v:Int)) U77 zero_set (isE rfl hd) rfl hwv) <| ja (mv rfl) <| jk (call2 (A:=E (setV av)) (B:=E (setV (lkS l (v:Int)))) (C:=E (I (u:Nat))) En59 rfl rfl (fun v u w he h h'=>by cases h;cases h';rw[hav];exact without_spec _ _ w)) ?_
 refine ja (enS (V:=sKV) (i:=(u:Int)) (c:=lkS l (u:Int)) U77 rfl rfl HM hwu hmu) <| ja (ext_ rfl rfl) <| jx (esJ (V:=sKV) (i:=(u:Int)) (c:=au) U77 rfl rfl rfl HM hwu trivial hlm) <| je <| fun a w hc HF hf=>?_
 try dsimp only[push] at hf
 replace e:=e.ch hc (fun b hb=>by omega)
 replace B6:=B6.ch hc (fun h=>by omega)
 replace B7:=B7.ch hc (fun h=>by omega)
 have HM:=HF
 refine tl_mputV (V:=sKV) (i:=(v:Int)) (c:=av) U77 hf rfl rfl rfl HM hlm1 hwv trivial fun w hg HM hf=>?_
 obtain⟨e,B6,B7⟩:=gr3 hg e B6 B7
 refine tl_nil ?_
 replace hf:=hf.kp [6,7]
 refine seq <| rgN 1 hf <| st (ldW T79 rfl B7 (adC_size _ _)) <| en fun a w e' hf=>?_
 obtain⟨HM,e,B6,B7⟩:=up4 e' HM e B6 B7
 refine tl_stW T79 hf rfl rfl (adC_one _ _) B6 hc6 (adC_size _ _) fun w hg hsz B6 hf=>?_
 replace e:=e.gr hg (by omega)
 replace HM:=HM.gr hg (fun h=>by cases h;omega)
 refine tl_nil <| wret <| retc rfl T79 hf rfl B6 (adC_size _ _) <| ⟨_,rfl,e,_,hwo,.map (some bm),rfl,MpR.dvE HM (by omega) fun h=>h⟩
end Go.Mono
namespace Go.Mono
open Go Go.Proofs Go.RowKit

theorem Vals.hi {xs:List RB}(V:Vals xs):∀i,i<xs.length→up xs i<xs.length:=fun i hi=>(V.range i hi).2

end Go.Mono
namespace Go.Mono

theorem fstN_cases (p:Nat→Bool)(n:Nat):(fstN p n = -1∧∀i,i<n→p i=false)∨∃k:Nat,k<n∧fstN p n=(k:Int)∧p k=true∧∀i,i<k→p i=false:=by
 by_cases h:∃k,k<n∧p k=true
 ·obtain⟨k,⟨h1,h2⟩,h3⟩:=least h
  have h4:∀i,i<k→p i=false:=fun i hi=>by
   cases hp:p i
   ·rfl
   ·exact absurd ⟨by omega,hp⟩ (h3 i hi)
  exact .inr ⟨k,h1,fstN_hit h1 h4 h2,h2,h4⟩
 ·have h4:∀i,i<n→p i=false:=fun i hi=>by
   cases hp:p i
   ·rfl
   ·exact absurd ⟨i,hi,hp⟩ h
  exact .inl ⟨fstN_none h4,h4⟩
end Go.Mono
namespace Go.Mono
open Go Go.Proofs Go.RowKit Go.Gr

def gs (l:List BS)(i:Nat):BS:=(l[i]?).getD 0
theorem gs_get {l:List BS}{i:Nat}(h:i<l.length):l[i]?=some (gs l i):=by simp[gs,h]
def fstS (p:BS→Bool)(l:List BS):Int:=fstN (fun i=>p (gs l i)) l.length
theorem far_fst (L:List BS)(b:Nat):fstS (fun S=>has S (b:Int)) L=farF L b:=by
 rw[fstS,farF]
 rcases fstN_cases (fun i=>has (gs L i) (b:Int)) L.length with ⟨h1,h2⟩|⟨k,hk,h1,h2,h3⟩
 ·have:L.findIdx? (fun S=>S.getLsbD b)=none:=List.findIdx?_eq_none_iff.2 fun S hS=>by
   obtain⟨i,hi,he⟩:=List.getElem_of_mem hS
   have h4:=h2 i hi
   have h5:gs L i=S:=by have:=gs_get hi;rw[List.getElem?_eq_getElem hi,he] at this;exact (Option.some.inj this).symm
   rw[h5] at h4
   cases hb:S.getLsbD b with
   | false=>rfl
   | true=>rw[(has_bit S b).2 hb] at h4;cases h4
  rw[h1,this]
 ·have:L.findIdx? (fun S=>S.getLsbD b)=some k:=by
   rw[List.findIdx?_eq_some_iff_getElem]
   have hg:∀i (hi:i<L.length),L[i]=gs L i:=fun i hi=>by have:=gs_get hi;rw[List.getElem?_eq_getElem hi] at this;exact Option.some.inj this
   refine⟨hk,?_,fun j hj=>?_⟩
   ·rw[hg k hk];exact (has_bit _ b).1 h2
   ·rw[hg j (by omega)]
    intro hh
    have:=h3 j hj
    rw[(has_bit _ b).2 hh] at this;cases this
  rw[h1,this]
theorem indexFuncS_spec {G:Nat→Prop}(l:List BS)(v:Value)(id:FuncId)(caps:Array Value)(p:BS→Bool)(W:World)(hen:Proofs.Enters Tryz.prog id)(h:(Dv (slE setE) G l).p v W)
  (hp:∀w S,Ext W w→Calls Tryz.prog id (#[setV S]++caps) w (Post (E (B (p S))) w)) (hl:l.length≤4096) :
  Calls Tryz.prog 102 #[v,.func (.func id) #[] caps] W (Post (E (I (fstS p l))) W):=by
 refine eN [v,.func (.func id) #[] caps] [Dv (slE setE) G l,E (.func (.func id) #[] caps)] Tryz.func102 Tryz.ntmps102 ?_ fun a hf=>?_
 rotate_left
 rotate_right
 ·exact arg2 h rfl
 have e:=Ext.rfl' W
 refine seq <| regn0 <| tA hf rfl fun a hf=>tl_nil ?_
 repeat refine seq ?_
 refine rgN 3 hf <| st (mv rfl) <| st (lenD U83 (isR rfl)) <| st (mv rfl) <| en fun a w e' hf=>?_
 replace e:=e.tr e'
 refine tl_nil ?_
 replace hf:=hf.keep [0,1,7,8]
 refine blk (loopN (fun r0 a w=>∃(k:Nat) ,r0=l.length - k∧k≤l.length∧Fr 19 a w [(0,Dv (slE setE) G l),(1,E (.func (.func id) #[] caps)),(7,E (I (l.length:Nat))),(8,E (I k))]∧Ext W w∧∀i,i<k→p (gs l i)=false) l.length ⟨0,rfl,by omega,hf,e,(fun i hi=>by omega)⟩ ?_)
 rintro r0 a w ⟨k,rfl,hk,hf,e,Ho⟩
 refine seq <| rgN 1 hf <| st (lss rfl rfl) <| en fun a w e' hf=>?_
 replace e:=e.tr e'
 refine tl_nil <| seq <| ifc hf rfl (fun hc=>wskip ?_) (fun hc=>wexit ?_)
 rotate_left
 rotate_left
 ·have hlt:k<l.length:=by have:=of_decide_eq_true hc;(try dsimp only at this);omega
  replace hf:=hf.keep [0,1,7,8]
  refine seq <| blk <| seq <| rgN 1 hf <| st (mv rfl) <| en fun a w e' hf=>?_
  replace e:=e.tr e'
  refine tA hf rfl fun a hf=>tl_nil <| seq <| rgN 6 hf <| st (mv rfl) <| st (mv rfl) <| st (mv rfl) <| st (idxD U83 S76 (isR rfl) rfl (by omega) (gs_get hlt)) <| st (ldS T76 (isR rfl)) <| st (callV1 hen rfl rfl (fun v w he h=>by cases h;exact hp w _ (Ext.tr e he))) ?_
  refine en fun a w e' hf=>?_
  replace e:=e.tr e'
  refine tl_nil <| ifc hf rfl (fun hb=>?_) (fun hb=>?_)
  ·refine seq <| rgN 1 hf <| st (mv rfl) <| en fun a w e' hf=>?_
   replace e:=e.tr e'
   refine tA hf rfl fun a hf=>tl_nil <| wret <| ret1 rfl hf rfl ?_
   rintro _ rfl
   exact⟨_,rfl,e,congrArg I (fstN_hit hlt Ho hb).symm⟩
  ·refine wskip <| rgN 1 hf <| st ((add rfl rfl (by omega)).eq (congrArg (Value.int .i64) (show (k:Int)+1=((k+1:Nat):Int) from rfl))) <| en fun a w e' hf=>?_
   replace e:=e.tr e'
   refine tP hf (mv rfl) fun a w e' hf=>?_
   replace e:=e.tr e'
   refine tl_nil ?_
   replace hf:=hf.keep [0,1,7,8]
   refine⟨_,?_,k+1,rfl,by omega,hf,e,?_⟩
   ·omega
   intro i hi
   by_cases hk:i=k
   ·subst hk;exact hb
   ·exact Ho i (by omega)
 ·obtain rfl:k=l.length:=by have:=of_decide_eq_false hc;(try dsimp only at this);omega
  refine seq <| regn0 <| tA hf rfl fun a hf=>tl_nil <| wret <| ret1 rfl hf rfl ?_
  rintro _ rfl
  exact⟨_,rfl,e,congrArg I (fstN_none Ho).symm⟩
theorem far1_spec (S:BS)(b:Int)(c:Nat)(W:World)(hc:Blk W c #[I b] 3):Calls Tryz.prog 103 #[setV S,ptr c] W (Post (E (B (has S b))) W):=by
 refine eN [setV S,ptr c] [E (setV S),E (ptr c)] Tryz.func103 Tryz.ntmps103 ?_ fun a hf=>?_
 rotate_left
 rotate_right
 ·exact arg2 rfl rfl
 have e:=Ext.rfl' W
 refine seq <| regn0 <| tB hf rfl fun a b2 w v2 hv2 e' hb2 hs2 B2 hf=>?_
 obtain⟨e,hc⟩:=up2 e' e hc
 refine tA hf rfl fun a hf=>tl_nil ?_
 cases hv2
 replace B2:Blk w b2 (setC S) 76:=B2
 refine seq <| rgN 3 hf <| st ((ldW T76 rfl B2 rfl).eq ((rfl:_=setV S))) <| st (ld1 (v:=I b) T3 rfl hc rfl) <| st (call2 (A:=E (B (has S b))) (B:=E (setV S)) (C:=E (I b)) En75 rfl rfl (fun v u w he h h'=>by cases h;cases h';exact has_spec _ _ w)) ?_
 refine en fun a w e' hf=>?_
 obtain⟨e,hc,B2⟩:=up3 e' e hc B2
 refine tA hf rfl fun a hf=>tl_nil <| wret <| ret1 rfl hf rfl ?_
 rintro _ rfl
 exact⟨_,rfl,e,rfl⟩
theorem far_spec {G:Nat→Prop}(L:List BS)(b:Nat)(v:Value)(W:World)(h:(Dv (slE setE) G L).p v W)(hl:L.length≤4096):Calls Tryz.prog 50 #[v,I (b:Nat)] W (Post (E (I (farF L b))) W):=by
 have hv:(Dv (slE setE) G0 L).p v W:=Dv.weak h fun b _ hb=>hb.elim
 refine eN [v,I (b:Nat)] [E v,E (I (b:Nat))] Tryz.func50 Tryz.ntmps50 ?_ fun a hf=>?_
 rotate_left
 rotate_right
 ·exact arg2 rfl rfl
 have e:=Ext.rfl' W
 refine seq <| regn0 <| tB hf rfl fun a b3 w v3 hv3 e' hb3 hs3 B3 hf=>?_
 replace e:=e.tr e'
 refine tA hf rfl fun a hf=>tl_nil ?_
 cases hv3
 replace B3:Blk w b3 #[I (b:Nat)] 3:=B3
 replace hf:=hf.keep [0,3]
 have e1:=e
 refine seq <| rgN 3 hf <| st (mv rfl) <| st (makeF1 rfl) <| st (call2 (A:=E (I (farF L b))) (B:=E v) (C:=E (.func (.func 103) #[] #[ptr b3])) En102 rfl rfl (fun u u' w he k1 k2=>by cases k1;cases k2;rw[← far_fst];exact indexFuncS_spec L v _ _ (fun S=>has S (b:Int)) w En103 (VA.st _ _ _ _ (Ext.tr e1 he) hv) (fun w' S he'=>far1_spec S (b:Int) b3 w' (B3.ext (Ext.tr he he'))) hl)) ?_
 refine en fun a w e' hf=>?_
 obtain⟨e,B3⟩:=up2 e' e B3
 refine tA hf rfl fun a hf=>tl_nil <| wret <| ret1 rfl hf rfl ?_
 rintro _ rfl
 exact⟨_,rfl,e,rfl⟩
def edV (x:Int×Int):Value:=.agg #[.int .i64 x.1,.int .i64 x.2]
theorem Dv.pr2 {G:Nat→Prop}{w:World}{x:Int×Int}{v:Value}:(Dv edE G x).p v w↔v=edV x:=by
 constructor
 ·rintro⟨cs,⟨c,d,h,h1,h2⟩,hv⟩
  cases h1;cases h2;subst h
  exact hv
 ·rintro rfl
  exact⟨_,⟨_,_,rfl,rfl,rfl⟩,rfl⟩
theorem isE2 {L:Env}{w0:World}{x:Operand}{G:Nat→Prop}{n:Int×Int}(h:opd L x=some (E (edV n))):Is L w0 x (Dv edE G n):=isE h (Dv.pr2.2 rfl)
theorem ldE2 {P:Program}{w0:World}{L:Env}{dst:Option Tmp}{ty:TypeId}{pos:String}{aft:Array Edge}{g:Option (Nat×Bool)}{t:TypeId}{x:Operand}{G:Nat→Prop}{n:Int×Int}(ht:TI P t true 2)(hx:Is L w0 x (Dv (ptE edE) G (some n))):OpC P w0 L ⟨dst,.load t x,ty,pos,aft,g⟩ (E (edV n)):=(ldD (e:=edE) ht hx).conv fun v w=>Dv.pr2.1
theorem bPr (x:Int×Int):Tryz.prog.built 60 [(0,.int .i64 x.1),(1,.int .i64 x.2)]=some #[.int .i64 x.1,.int .i64 x.2]:=by kernel_rfl
theorem ends_spec {G:Nat→Prop}{N:Nat}(g:GT)(v:Value)(W:World)(h:(Dv (ptE (grE N)) G (some g)).p v W)(hs:g.2.Pairwise fun x y=>lt2 x.1 y.1=true)(hl:g.2.length≤100000)(hN:N≤1000000) :
  Calls Tryz.prog 48 #[v] W (Post (OwA edE 60 W.heap.size G0 (g.2.map (·.1))) W):=by
 have hgd:(Dv (ptE (grE N)) G0 (some g)).p v W:=Dv.weak h fun b _ hb=>hb.elim
 refine eN [v] [E v] Tryz.func48 Tryz.ntmps48 ?_ fun a hf=>?_
 rotate_left
 rotate_right
 ·exact arg1 rfl
 have e:=Ext.rfl' W
 refine seq <| regn0 <| tA hf rfl fun a hf=>tl_nil <| seq <| regn0 <| tA hf rfl fun a hf=>tl_nil ?_
 have e0:=e
 obtain⟨N1,hN1⟩:∃N1,N1=W.heap.size:=⟨_,rfl⟩
 have hN1s:N1≤W.heap.size:=Nat.le_of_eq hN1
 have hWN:W.heap.size≤N1:=Nat.le_of_eq hN1.symm
 repeat refine seq ?_
 refine rgN 4 hf <| st (mv rfl) <| st (call1 (A:=OwA etE 62 N1 G0 g.2) En101 rfl (fun v w he k=>by cases k;exact (edges_spec (G:=G0) g _ w (VA.st _ _ _ _ (Ext.tr e0 he) hgd) (fun b hb=>hb.elim) hs hl hN).mono fun en w' ⟨u,k1,k2,k3⟩=>⟨u,k1,k2,OwR.low k3 (Nat.le_trans hN1s he.size) fun b hb=>hb.elim⟩)) ?_
 refine st (lenD U61 ⟨_,rfl,fun v w _ h=>OwR.sl h⟩) <| st (mv rfl) <| en fun a w e' hf=>?_
 replace e:=e.tr e'
 refine tl_nil ?_
 obtain⟨ev,HoE,hf⟩:=hf.opn 7 rfl
 replace HoE:OwR etE 62 N1 G0 w g.2 ev:=HoE
 obtain⟨N2,hN2⟩:∃N2,N2=w.heap.size:=⟨_,rfl⟩
 have lp:∀b,ev.ownBlock=some b→b<N2:=fun b hb=>by rw[hN2];exact (HoE.lt hb).2
 have Ho:OwR edE 60 N2 G0 w [] (.slice none 0 0):=OwR.nil edE _ (Nat.le_of_eq hN2) fun b hb=>hb.elim
 have hWN2:W.heap.size≤N2:=by rw[hN2];exact e.size
 replace hf:=hf.keep [3,7,8,9]
 replace hf:=hf.keep [3,7,8,9]
 refine blk (loopN (fun r0 a w=>∃(j:Nat) (u:Value),r0=g.2.length - j∧j≤g.2.length∧Fr 23 a w [(3,E u),(7,E ev),(8,E (I (g.2.length:Nat))),(9,E (I j))]∧Ext W w∧OwR etE 62 N1 G0 w g.2 ev∧OwR edE 60 N2 G0 w ((g.2.take j).map (·.1)) u) g.2.length ⟨0,.slice none 0 0,rfl,by omega,hf,e,⟨HoE,Ho⟩⟩ ?_)
 rintro r0 a w ⟨j,u,rfl,hj,hf,e,HoE,Ho⟩
 refine seq <| rgN 1 hf <| st (lss rfl rfl) <| en fun a w e' hf=>?_
 obtain⟨HoE,Ho,e⟩:=up3 e' HoE Ho e
 refine tl_nil <| seq <| ifc hf rfl (fun hc=>wskip ?_) (fun hc=>wexit ?_)
 rotate_left
 rotate_left
 ·have hltj:j<g.2.length:=by have:=of_decide_eq_true hc;(try dsimp only at this);omega
  replace hf:=hf.keep [3,7,8,9]
  refine seq <| blk ?_
  have hy:=List.getElem?_eq_getElem hltj
  generalize g.2[j]=x at hy
  have hsc:(g.2.take (j+1)).map (·.1)=(g.2.take j).map (·.1)++[x.1]:=by rw[take_succ_get hy,List.map_append];rfl
  have hlo:((g.2.take j).map (·.1)).length≤100000:=by rw[List.length_map];exact Nat.le_trans (List.length_take_le' _ _) hl
  generalize (g.2.take j).map (·.1)=out at hsc hlo Ho
  refine seq <| regn0 <| tP hf (idxD U61 S62 (isE rfl (HoE.slN (N:=G0) fun b hb hh=>hh)) rfl (by omega) (hy)) fun a w e' hf=>?_
  obtain⟨e,HoE,Ho⟩:=up3 e' e HoE Ho
  refine tP hf (ldEt T62 (isR rfl)) fun a w e' hf=>?_
  obtain⟨e,HoE,Ho⟩:=up3 e' e HoE Ho
  refine tL I62 hf fun a b5 w e' hb5 hs5 B5 hf=>?_
  have hle5:=Nat.le_trans e.size (Nat.le_of_eq hb5.symm)
  have ne5_HoE:=HoE.ne_new hb5
  have ne5_Ho:=Ho.ne_new hb5
  obtain⟨e,HoE,Ho⟩:=up3 e' e HoE Ho
  have hr5:=ne5_HoE
  have hu5:=ne5_Ho
  have hW5:W.heap.size≤b5:=hle5
  replace hf:=hf.kp [3,5,7,8,9,12]
  refine tl_stW T62 hf rfl rfl (etV_one x) B5 rfl rfl fun w hg hsz B5 hf=>?_
  replace e:=e.gr hg (by omega);replace HoE:=HoE.grE hg hr5;replace Ho:=Ho.grE hg hu5;clear hg
  refine tl_nil ?_
  replace hf:=hf.kp [3,5,7,8,9]
  refine rgN 7 hf <| st (mv rfl) <| st (fA U62 rfl T3 rfl) <| st (ld1 T3 rfl B5 rfl) <| st (fA U62 rfl T3 rfl) <| st (ld1 T3 rfl B5 rfl) <| st (bldV [(0,_),(1,_)] rfl (bPr x.1)) <| st (bsl1 U31 I60 rfl (by decide) rfl Ho.avs (isE2 rfl)) <| en fun a w e' hf=>?_
  obtain⟨HoE,B5,Ho,e⟩:=up4 e' HoE B5 Ho e
  haveI hin:∀G0,InR (GB W G0) _:=OwR.inGB (W:=W) Ho (by omega)
  refine tl_app U31 I60 rfl rfl hf (by decide) rfl Ho (isR rfl) (by simp only[List.length_singleton];omega) (by simp only[List.length_singleton,maxLen];omega) fun a v w hg hat Hn hf=>?_
  replace e:=e.gro hg (Ho.row (W:=W) (by omega))
  have hrow:=Ho.row (W:=W) (by omega)
  replace HoE:=HoE.groE hg (fun b hb hh=>by have h1:=hrow b hh;have h2:=lp b hb;have h3:=(Ho.lt hh).1;omega)
  replace B5:=B5.gro hg hu5
  replace Ho:=Hn
  replace Ho:=Hn;clear Hn hg hat hin
  refine tA hf rfl fun a hf=>tl_nil ?_
  rw[← hsc] at Ho
  replace hf:=hf.keep [3,7,8,9]
  refine rgN 1 hf <| st ((add rfl rfl (by omega)).eq (congrArg (Value.int .i64) (show (j:Int)+1=((j+1:Nat):Int) from rfl))) <| en fun a w e' hf=>?_
  obtain⟨HoE,Ho,e⟩:=up3 e' HoE Ho e
  refine tP hf (mv rfl) fun a w e' hf=>?_
  obtain⟨HoE,Ho,e⟩:=up3 e' HoE Ho e
  refine tl_nil ?_
  replace hf:=hf.keep [3,7,8,9]
  refine⟨_,?_,j+1,_,rfl,by omega,hf,e,?_⟩
  ·omega
  exact⟨HoE,Ho⟩
 ·obtain rfl:j=g.2.length:=by have:=of_decide_eq_false hc;(try dsimp only at this);omega
  rw[List.take_length] at Ho
  replace hf:=hf.keep [3]
  refine seq <| rgN 1 hf <| st (mv rfl) <| en fun a w e' hf=>?_
  obtain⟨Ho,e⟩:=up2 e' Ho e
  refine tA hf rfl fun a hf=>tl_nil <| wret <| ret1 rfl hf rfl ?_
  rintro _ rfl
  exact⟨_,rfl,e,Ho.low hWN2 fun b hb=>hb.elim⟩
def toI (e:Nat×Nat):Int×Int:=((e.1:Int),(e.2:Int))
theorem farF_hi (L:List BS)(b:Nat):farF L b≤L.length:=by
 rw[← far_fst,fstS]
 rcases fstN_cases (fun i=>has (gs L i) (b:Int)) L.length with ⟨h1,_⟩|⟨k,hk,h1,_⟩ <;> omega
def gst (nb:Int→BS)(best:Int)(e:Nat×Nat):Int:=if farF (lvB (wo nb e.1 e.2) e.1) e.2 ≠ -1∧(best=0∨farF (lvB (wo nb e.1 e.2) e.1) e.2+1<best) then farF (lvB (wo nb e.1 e.2) e.1) e.2+1 else best
theorem girF_app (nb:Int→BS)(es:List (Nat×Nat))(e:Nat×Nat):girF nb (es++[e])=gst nb (girF nb es) e:=by
 rw[girF,List.foldl_append,List.foldl_cons,List.foldl_nil,girF,gst]
theorem girth_spec {G G2:Nat→Prop}{N0:Nat}(l:List (Int×BS))(S0:BS)(es:List (Nat×Nat))(mq ev:Value)(W:World)(hT:Tab W)(h:(Dv (mpE sKV N0) G l).p mq W)(hN:N0≤100000)(hel:es.length≤100000)(h':(Dv (slE edE) G2 (es.map toI)).p ev W)
  (hes:∀e∈es,e.1<1024∧e.2<1024∧e.1≠e.2∧((e.1:Int),lkS l (e.1:Int))∈l) :
  Calls Tryz.prog 84 #[.agg (adC S0 mq),ev] W (Post (E (I (girF (lkS l) es))) W):=by
 have HV:(Dv (mpE sKV N0) G0 l).p mq W:=Dv.weak h fun b _ hb=>hb.elim
 have HE:(Dv (slE edE) G0 (es.map toI)).p ev W:=Dv.weak h' fun b _ hb=>hb.elim
 have hT0:=hT.lt
 obtain⟨nb,hnb⟩:∃nb,nb=lkS l:=⟨_,rfl⟩
 rw[← hnb]
 refine eN [.agg (adC S0 mq),ev] [E (.agg (adC S0 mq)),E ev] Tryz.func84 Tryz.ntmps84 ?_ fun a hf=>?_
 rotate_left
 rotate_right
 ·exact arg2 rfl rfl
 have e:=Ext.rfl' W
 refine seq <| regn0 <| tB hf rfl fun a b2 w v2 hv2 e' hb2 hs2 B2 hf=>?_
 obtain⟨hT,e⟩:=up2 e' hT e
 refine tA hf rfl fun a hf=>tl_nil ?_
 cases hv2
 replace B2:Blk w b2 (adC S0 mq) 79:=B2
 have n2:W.heap.size≤b2:=by omega
 refine seq <| regn0 <| tA hf rfl fun a hf=>tl_nil ?_
 replace hf:=hf.keep [1,2,5]
 obtain⟨Ls,hLs⟩:∃Ls,Ls=es.map toI:=⟨_,rfl⟩
 have hLl:Ls.length=es.length:=by rw[hLs,List.length_map]
 rw[← hLs] at HE
 repeat refine seq ?_
 refine rgN 3 hf <| st (mv rfl) <| st (lenD U31 (isE rfl (VA.st _ _ _ _ e HE))) <| st (mv rfl) <| en fun a w e' hf=>?_
 obtain⟨hT,e,B2⟩:=up3 e' hT e B2
 refine tl_nil ?_
 replace hf:=hf.keep [2,5,9,10,11]
 refine blk (loopN (fun r0 a w=>∃(j:Nat) ,r0=Ls.length - j∧j≤Ls.length∧Fr 43 a w [(2,E (ptr b2)),(5,E (I (girF nb (es.take j)))),(9,E ev),(10,E (I (Ls.length:Nat))),(11,E (I j))]∧Ext W w∧Tab w∧Blk w b2 (adC S0 mq) 79) Ls.length ⟨0,rfl,by omega,hf,e,⟨hT,B2⟩⟩ ?_)
 rintro r0 a w ⟨j,rfl,hj,hf,e,hT,B2⟩
 refine seq <| rgN 1 hf <| st (lss rfl rfl) <| en fun a w e' hf=>?_
 obtain⟨hT,e,B2⟩:=up3 e' hT e B2
 refine tl_nil <| seq <| ifc hf rfl (fun hc=>wskip ?_) (fun hc=>wexit ?_)
 rotate_left
 rotate_left
 ·have hltj:j<Ls.length:=by have:=of_decide_eq_true hc;(try dsimp only at this);omega
  replace hf:=hf.keep [2,5,9,10,11]
  refine seq <| blk ?_
  have hjp:j<es.length:=by omega
  have hy:=List.getElem?_eq_getElem hjp
  generalize es[j]=x at hy
  have hy':Ls[j]?=some (toI x):=by rw[hLs,List.getElem?_map,hy];rfl
  have hsc:girF nb (es.take (j+1))=gst nb (girF nb (es.take j)) x:=by rw[take_succ_get hy,girF_app]
  generalize girF nb (es.take j)=best at hsc hf
  obtain⟨x1,x2,x3,x4⟩:=hes x (List.mem_of_getElem? hy)
  obtain⟨u,v⟩:=x
  replace x1:u<1024:=x1
  replace x2:v<1024:=x2
  replace x3:u≠v:=x3
  replace x4:((u:Int),lkS l (u:Int))∈l:=x4
  replace hy':Ls[j]?=some ((u:Int),(v:Int)):=hy'
  rw[gst] at hsc
  obtain⟨d,hd⟩:∃d,d=farF (lvB (wo nb u v) u) v:=⟨_,rfl⟩
  rw[← hd] at hsc
  have hd1 : -1≤d:=by rw[hd];exact farF_lo _ _
  have hd2:d≤1025:=by rw[hd];have h1:=farF_hi (lvB (wo nb u v) u) v;have h2:=lvB_len (wo nb u v) u;omega
  refine seq <| regn0 <| tP hf (idxD U31 S60 (isE rfl (VA.st _ _ _ _ e HE)) rfl (by omega) (hy')) fun a w e' hf=>?_
  obtain⟨hT,e,B2⟩:=up3 e' hT e B2
  refine tP hf (ldE2 T60 (isR rfl)) fun a w e' hf=>?_
  obtain⟨hT,e,B2⟩:=up3 e' hT e B2
  refine tL I60 hf fun a b7 w e' hb7 hs7 B7 hf=>?_
  have lt7_B2:=B2.lt
  obtain⟨hT,e,B2⟩:=up3 e' hT e B2
  have n7:b2≠b7∧W.heap.size≤b7:=by have:=B2.lt;omega
  replace hf:=hf.kp [2,5,7,9,10,11,14]
  refine tl_stW T60 hf rfl rfl (one2 rfl rfl) B7 rfl rfl fun w hg hsz B7 hf=>?_
  obtain⟨e,hT,B2⟩:=gr3 hg e hT B2
  refine tl_nil ?_
  replace B7:Blk w b7 #[I (u:Nat),I (v:Nat)] 60:=B7
  replace hf:=hf.kp [2,5,7,9,10,11]
  have e5:=e
  refine seq <| rgG 12 Mix.mix hf <| st (ldW T79 rfl B2 (adC_size _ _)) <| st (idxA U60 ⟨_,T3⟩ rfl rfl (by omega)) <| st (ld1 T3 rfl B7 rfl) <| st (idxA U60 ⟨_,T3⟩ rfl rfl (by omega)) <| st (ld1 T3 rfl B7 rfl) <| st (call3 (A:=WoA (wo nb u v) S0 (N0+2)) (B:=E (.agg (adC S0 mq))) (C:=E (I (u:Nat))) (D:=E (I (v:Nat))) En51 rfl rfl rfl (fun a b c w he k1 k2 k3=>by cases k1;cases k2;cases k3;rw[hnb];exact without07_spec l S0 u v mq w (hT.ext he) (VA.st _ _ _ _ (Ext.tr e5 he) HV) hN x1 x2 x3 x4)) ?_
  refine st (idxA U60 ⟨_,T3⟩ rfl rfl (by omega)) <| st (ld1 T3 rfl B7 rfl) <| st (call2 (A:=Dv (slE setE) G0 (lvB (wo nb u v) u)) (B:=WoA (wo nb u v) S0 (N0+2)) (C:=E (I (u:Nat))) En52 rfl rfl (fun a b w he ⟨l2,k1,mq2,k2,k3⟩ k4=>by subst k2;cases k4;rw[← k1];exact (levels_spec l2 S0 mq2 u w (hT.ext he) k3 x1).mono fun en w' ⟨z,q1,q2,q3⟩=>⟨z,q1,q2,OwR.sl q3⟩)) ?_
  refine st (idxA U60 ⟨_,T3⟩ rfl rfl (by omega)) <| st (ld1 T3 rfl B7 rfl) <| st (call2 (A:=E (I d)) (B:=Dv (slE setE) G0 (lvB (wo nb u v) u)) (C:=E (I (v:Nat))) En50 rfl rfl (fun a b w he k1 k2=>by cases k2;rw[hd];exact far_spec _ v a w k1 (Nat.le_trans (lvB_len _ _) (by decide)))) ?_
  refine en fun a w e' hf=>?_
  obtain⟨hT,e,B2,B7⟩:=up4 e' hT e B2 B7
  refine tA hf rfl fun a hf=>tl_nil ?_
  replace hf:=hf.keep [2,5,8,9,10,11]
  by_cases c1:d = -1
  ·rw[if_neg (fun h=>h.1 c1)] at hsc
   refine seq <| rgN 12 hf <| st (mv rfl) <| st ((neq rfl rfl).eq (congrArg Value.bool (show (d != -1)=false by simp[c1]))) <| st (mv rfl) <| sn rfl rfl rfl <| sn rfl rfl rfl <| sn rfl rfl rfl <| su rfl rfl <| su rfl rfl <| su rfl rfl <| su rfl rfl <| sn rfl rfl rfl <| st (pkF rfl rfl) <| en fun a w e' hf=>?_
   obtain⟨hT,e,B2⟩:=up3 e' hT e B2
   refine tl_nil <| ifc hf rfl (fun h=>by cases h) (fun _=>?_)
   refine wskip ?_
   rw[← hsc] at hf
   refine rgN 1 hf <| st ((add rfl rfl (by omega)).eq (congrArg (Value.int .i64) (show (j:Int)+1=((j+1:Nat):Int) from rfl))) <| en fun a w e' hf=>?_
   obtain⟨hT,e,B2⟩:=up3 e' hT e B2
   refine tP hf (mv rfl) fun a w e' hf=>?_
   obtain⟨hT,e,B2⟩:=up3 e' hT e B2
   refine tl_nil ?_
   replace hf:=hf.keep [2,5,9,10,11]
   refine⟨_,?_,j+1,rfl,by omega,hf,e,?_⟩
   ·omega
   exact⟨hT,B2⟩
  ·have c1':(d != -1)=true:=by simp[c1]
   by_cases c2:best=0
   ·rw[if_pos ⟨c1,.inl c2⟩] at hsc
    refine seq <| rgN 12 hf <| st (mv rfl) <| st ((neq rfl rfl).eq (congrArg Value.bool (c1'))) <| st (mv rfl) <| sy rfl rfl (mv rfl) <| sy rfl rfl ((eql rfl rfl).eq (congrArg Value.bool (show (best==0)=true by simp[c2]))) <| sy rfl rfl (mv rfl) <| sn rfl rfl rfl <| sn rfl rfl rfl <| sn rfl rfl rfl <| sn rfl rfl rfl <| sy rfl rfl (pkT rfl rfl) <| st (pkT rfl rfl) <| en fun a w e' hf=>?_
    obtain⟨hT,e,B2⟩:=up3 e' hT e B2
    refine tl_nil <| ifc hf rfl (fun _=>?_) (fun h=>by cases h)
    refine rgN 2 hf <| st (mv rfl) <| st (add rfl rfl (by omega)) <| en fun a w e' hf=>?_
    obtain⟨hT,e,B2⟩:=up3 e' hT e B2
    refine tA hf rfl fun a hf=>tl_nil ?_
    rw[← hsc] at hf
    refine rgN 1 hf <| st ((add rfl rfl (by omega)).eq (congrArg (Value.int .i64) (show (j:Int)+1=((j+1:Nat):Int) from rfl))) <| en fun a w e' hf=>?_
    obtain⟨hT,e,B2⟩:=up3 e' hT e B2
    refine tP hf (mv rfl) fun a w e' hf=>?_
    obtain⟨hT,e,B2⟩:=up3 e' hT e B2
    refine tl_nil ?_
    replace hf:=hf.keep [2,5,9,10,11]
    refine⟨_,?_,j+1,rfl,by omega,hf,e,?_⟩
    ·omega
    exact⟨hT,B2⟩
   ·have c2':(best==0)=false:=by simp[c2]
    by_cases c3:d+1<best
    ·rw[if_pos ⟨c1,.inr c3⟩] at hsc
     refine seq <| rgN 12 hf <| st (mv rfl) <| st ((neq rfl rfl).eq (congrArg Value.bool (c1'))) <| st (mv rfl) <| sy rfl rfl (mv rfl) <| sy rfl rfl ((eql rfl rfl).eq (congrArg Value.bool (c2'))) <| sy rfl rfl (mv rfl) <| sy rfl rfl (mv rfl) <| sy rfl rfl (add rfl rfl (by omega)) <| sy rfl rfl (mv rfl) <| sy rfl rfl ((lss rfl rfl).eq (congrArg Value.bool (decide_eq_true c3))) <| sy rfl rfl (pkF rfl rfl) <| st (pkT rfl rfl) <| en fun a w e' hf=>?_
     obtain⟨hT,e,B2⟩:=up3 e' hT e B2
     refine tl_nil <| ifc hf rfl (fun _=>?_) (fun h=>by cases h)
     refine rgN 2 hf <| st (mv rfl) <| st (add rfl rfl (by omega)) <| en fun a w e' hf=>?_
     obtain⟨hT,e,B2⟩:=up3 e' hT e B2
     refine tA hf rfl fun a hf=>tl_nil ?_
     rw[← hsc] at hf
     refine rgN 1 hf <| st ((add rfl rfl (by omega)).eq (congrArg (Value.int .i64) (show (j:Int)+1=((j+1:Nat):Int) from rfl))) <| en fun a w e' hf=>?_
     obtain⟨hT,e,B2⟩:=up3 e' hT e B2
     refine tP hf (mv rfl) fun a w e' hf=>?_
     obtain⟨hT,e,B2⟩:=up3 e' hT e B2
     refine tl_nil ?_
     replace hf:=hf.keep [2,5,9,10,11]
     refine⟨_,?_,j+1,rfl,by omega,hf,e,?_⟩
     ·omega
     exact⟨hT,B2⟩
    ·rw[if_neg (fun h=>h.2.elim c2 c3)] at hsc
     refine seq <| rgN 12 hf <| st (mv rfl) <| st ((neq rfl rfl).eq (congrArg Value.bool (c1'))) <| st (mv rfl) <| sy rfl rfl (mv rfl) <| sy rfl rfl ((eql rfl rfl).eq (congrArg Value.bool (c2'))) <| sy rfl rfl (mv rfl) <| sy rfl rfl (mv rfl) <| sy rfl rfl (add rfl rfl (by omega)) <| sy rfl rfl (mv rfl) <| sy rfl rfl ((lss rfl rfl).eq (congrArg Value.bool (decide_eq_false c3))) <| sy rfl rfl (pkF rfl rfl) <| st (pkT rfl rfl) <| en fun a w e' hf=>?_
     obtain⟨hT,e,B2⟩:=up3 e' hT e B2
     refine tl_nil <| ifc hf rfl (fun h=>by cases h) (fun _=>?_)
     refine wskip ?_
     rw[← hsc] at hf
     refine rgN 1 hf <| st ((add rfl rfl (by omega)).eq (congrArg (Value.int .i64) (show (j:Int)+1=((j+1:Nat):Int) from rfl))) <| en fun a w e' hf=>?_
     obtain⟨hT,e,B2⟩:=up3 e' hT e B2
     refine tP hf (mv rfl) fun a w e' hf=>?_
     obtain⟨hT,e,B2⟩:=up3 e' hT e B2
     refine tl_nil ?_
     replace hf:=hf.keep [2,5,9,10,11]
     refine⟨_,?_,j+1,rfl,by omega,hf,e,?_⟩
     ·omega
     exact⟨hT,B2⟩
 ·obtain rfl:j=Ls.length:=by have:=of_decide_eq_false hc;(try dsimp only at this);omega
  rw[hLl,List.take_length] at hf
  replace hf:=hf.keep [5]
  refine seq <| rgN 1 hf <| st (mv rfl) <| en fun a w e' hf=>?_
  obtain⟨hT,e,B2⟩:=up3 e' hT e B2
  refine tA hf rfl fun a hf=>tl_nil <| wret <| ret1 rfl hf rfl ?_
  rintro _ rfl
  exact⟨_,rfl,e,rfl⟩
theorem neqNil {P:Program}{w0:World}{L:Env}{dst:Option Tmp}{ty:TypeId}{pos:String}{aft:Array Edge}{g:Option (Nat×Bool)}{x:Operand}{t yt te:TypeId}{ao:Option Addr}{n c:Nat}(ht:P.underlying t=some (.slice te))(hx:opd L x=some (E (.slice ao n c))) :
  OpC P w0 L ⟨dst,.binOp .neq t x (.const (.slice none 0 0)) yt,ty,pos,aft,g⟩ (E (.bool !ao.isNone)):=
 opc_neq hx rfl (fun _=>rfl) rfl fun w _=>run_equal_slice_nil w t te ao n c ht
theorem slSome {α:Type}{e:Enc α}{G:Nat→Prop}{xs:List α}{v:Value}{w:World}(h:(Dv (slE e) G xs).p v w)(hx:xs≠[]):∃ad n c,v=.slice (some ad) n c:=by
 rcases Dv.sl.1 h with ⟨_,h0⟩|⟨ad,cap,cs,h1,_⟩
 ·exact absurd h0 hx
 ·exact⟨ad,_,cap,h1⟩
def ixI (l:List Int)(x:Int):Int:=fstN (fun i=>x==gi l i) l.length
theorem ixI_mem (l:List Int)(x:Int):decide (0≤ixI l x)=decide (x∈l):=by
 rw[ixI]
 rcases fstN_cases (fun i=>x==gi l i) l.length with ⟨h1,h2⟩|⟨k,hk,h1,h2,_⟩
 ·rw[h1,decide_eq_false (by omega),decide_eq_false]
  intro hm
  obtain⟨i,hi,he⟩:=List.getElem_of_mem hm
  have:=h2 i hi
  have hg:=gi_get hi
  rw[List.getElem?_eq_getElem hi,he] at hg
  rw[← Option.some.inj hg] at this
  simp at this
 ·rw[h1,decide_eq_true (by omega),decide_eq_true]
  have h3:x=gi l k:=by simpa using h2
  rw[h3]
  exact List.mem_of_getElem? (gi_get hk)
theorem sindex_spec {G:Nat→Prop}(l:List Int)(x:Int)(v:Value)(W:World)(h:(Dv (slE intE) G l).p v W)(hl:l.length≤100000):Calls Tryz.prog 147 #[v,I x] W (Post (E (I (ixI l x))) W):=by
 refine eN [v,I x] [Dv (slE intE) G l,E (I x)] Tryz.func147 Tryz.ntmps147 ?_ fun a hf=>?_
 rotate_left
 rotate_right
 ·exact arg2 h rfl
 have e:=Ext.rfl' W
 refine seq <| regn0 <| tA hf rfl fun a hf=>tl_nil ?_
 repeat refine seq ?_
 refine rgN 3 hf <| st (mv rfl) <| st (lenD U35 (isR rfl)) <| st (mv rfl) <| en fun a w e' hf=>?_
 replace e:=e.tr e'
 refine tl_nil ?_
 replace hf:=hf.keep [0,1,7,8]
 refine blk (loopN (fun r0 a w=>∃(k:Nat) ,r0=l.length - k∧k≤l.length∧Fr 19 a w [(0,Dv (slE intE) G l),(1,E (I x)),(7,E (I (l.length:Nat))),(8,E (I k))]∧Ext W w∧∀i,i<k→(x==gi l i)=false) l.length ⟨0,rfl,by omega,hf,e,(fun i hi=>by omega)⟩ ?_)
 rintro r0 a w ⟨k,rfl,hk,hf,e,Ho⟩
 refine seq <| rgN 1 hf <| st (lss rfl rfl) <| en fun a w e' hf=>?_
 replace e:=e.tr e'
 refine tl_nil <| seq <| ifc hf rfl (fun hc=>wskip ?_) (fun hc=>wexit ?_)
 rotate_left
 rotate_left
 ·have hlt:k<l.length:=by have:=of_decide_eq_true hc;(try dsimp only at this);omega
  replace hf:=hf.keep [0,1,7,8]
  refine seq <| blk <| seq <| rgN 1 hf <| st (mv rfl) <| en fun a w e' hf=>?_
  replace e:=e.tr e'
  refine tA hf rfl fun a hf=>tl_nil <| seq <| rgN 6 hf <| st (mv rfl) <| st (mv rfl) <| st (mv rfl) <| st (idxD U35 S3 (isR rfl) rfl (by omega) (gi_get hlt)) <| st (ldI T3 (isR rfl)) <| st (eql rfl rfl) <| en fun a w e' hf=>?_
  replace e:=e.tr e'
  refine tl_nil <| ifc hf rfl (fun hb=>?_) (fun hb=>?_)
  ·refine seq <| rgN 1 hf <| st (mv rfl) <| en fun a w e' hf=>?_
   replace e:=e.tr e'
   refine tA hf rfl fun a hf=>tl_nil <| wret <| ret1 rfl hf rfl ?_
   rintro _ rfl
   exact⟨_,rfl,e,congrArg I (fstN_hit hlt Ho hb).symm⟩
  ·refine wskip <| rgN 1 hf <| st ((add rfl rfl (by omega)).eq (congrArg (Value.int .i64) (show (k:Int)+1=((k+1:Nat):Int) from rfl))) <| en fun a w e' hf=>?_
   replace e:=e.tr e'
   refine tP hf (mv rfl) fun a w e' hf=>?_
   replace e:=e.tr e'
   refine tl_nil ?_
   replace hf:=hf.keep [0,1,7,8]
   refine⟨_,?_,k+1,rfl,by omega,hf,e,?_⟩
   ·omega
   intro i hi
   by_cases hk:i=k
   ·subst hk;exact hb
   ·exact Ho i (by omega)
 ·obtain rfl:k=l.length:=by have:=of_decide_eq_false hc;(try dsimp only at this);omega
  refine seq <| regn0 <| tA hf rfl fun a hf=>tl_nil <| wret <| ret1 rfl hf rfl ?_
  rintro _ rfl
  exact⟨_,rfl,e,congrArg I (fstN_none Ho).symm⟩
theorem scontains_spec {G:Nat→Prop}(l:List Int)(x:Int)(v:Value)(W:World)(h:(Dv (slE intE) G l).p v W)(hl:l.length≤100000):Calls Tryz.prog 121 #[v,I x] W (Post (E (B (decide (x∈l)))) W):=by
 have hv:(Dv (slE intE) G0 l).p v W:=Dv.weak h fun b _ hb=>hb.elim
 refine eN [v,I x] [E v,E (I x)] Tryz.func121 Tryz.ntmps121 ?_ fun a hf=>?_
 rotate_left
 rotate_right
 ·exact arg2 rfl rfl
 have e:=Ext.rfl' W
 refine seq <| regn0 <| tA hf rfl fun a hf=>tl_nil <| seq <| rgN 4 hf <| st (mv rfl) <| st (mv rfl) <| st (call2 (A:=E (I (ixI l x))) (B:=E v) (C:=E (I x)) En147 rfl rfl (fun u u' w he k1 k2=>by cases k1;cases k2;exact sindex_spec l x v w (VA.st _ _ _ _ he hv) hl)) ?_
 refine st ((geq rfl rfl).eq (congrArg Value.bool (ixI_mem l x))) <| en fun a w e' hf=>?_
 replace e:=e.tr e'
 refine tA hf rfl fun a hf=>tl_nil <| wret <| ret1 rfl hf rfl ?_
 rintro _ rfl
 exact⟨_,rfl,e,rfl⟩
theorem sclone_spec {G:Nat→Prop}(l:List Int)(v:Value)(W:World)(h:(Dv (slE intE) G l).p v W)(hl:l.length≤100000)(hne:l≠[]):Calls Tryz.prog 64 #[v] W (Post (OwA intE 3 W.heap.size G0 l) W):=by
 have HL:(Dv (slE intE) (GB W G0) l).p v W:=Dv.toB (Dv.weak h fun b _ hb=>hb.elim)
 obtain⟨ad,n,c,rfl⟩:=slSome h hne
 have hG:∀b,G0 b→b<W.heap.size:=fun b hb=>hb.elim
 refine eN [.slice (some ad) n c] [E (.slice (some ad) n c)] Tryz.func64 Tryz.ntmps64 ?_ fun a hf=>?_
 rotate_left
 dsimp only[params,Nat.reduceAdd] at hf
 rotate_right
 ·exact arg1 rfl
 have e:=Ext.rfl' W
 refine seq <| regn0 <| tA hf rfl fun a hf=>tl_nil ?_
 repeat refine seq ?_
 refine rgN 2 hf <| st (mv rfl) <| st (eqlNil U35 rfl) <| en fun a w e' hf=>?_
 obtain⟨HL,e⟩:=up2 e' HL e
 refine tl_nil <| ifc hf rfl (fun h=>by cases h) (fun _=>?_)
 refine wskip ?_
 replace hf:=hf.kp [0]
 refine seq <| regn0 <| tl_bsl0 W.heap.size G0 intE U35 S3 hf (by decide) e.size hG fun a v w e' hov Ho hf=>?_
 obtain⟨HL,e⟩:=up2 e' HL e
 refine tP hf (mv rfl) fun a w e' hf=>?_
 obtain⟨HL,e,Ho⟩:=up3 e' HL e Ho
 haveI hin:∀G0,InR (GB W G0) _:=OwR.inGB (W:=W) Ho (Nat.le_refl _)
 refine tl_app U35 I3 rfl rfl hf (by decide) rfl Ho (isE rfl (Dv.weak HL fun b hb hh=>hh.elim (fun h=>h.elim) fun h=>.inr (Ho.lt h).1)) (by simp only[List.length_nil];omega) (by simp only[List.length_nil,maxLen];omega) fun a v w hg hat Hn hf=>?_
 replace e:=e.gro hg (Ho.row (W:=W) (Nat.le_refl _))
 replace HL:=Dv.gro HL hg (fun b hb=>.inr (Ho.lt hb).1)
 replace Ho:=Hn;clear Hn hg hat hin
 refine tA hf rfl fun a hf=>tl_nil <| wret <| ret1 rfl hf rfl ?_
 rintro _ rfl
 exact⟨_,rfl,e,Ho⟩
def CyA (G:Nat→Prop)(o:Option (List Nat)):VA:=⟨fun v w=>match o with
 | none=>v=.slice none 0 0
 | some out=>out≠[]∧(Dv (slE intE) G (natE out)).p v w,fun v w w' e h=>by
  cases o with
  | none=>exact h
  | some out=>exact⟨h.1,VA.st _ _ _ _ e h.2⟩⟩
def cyF (bn bl ba bv be:Nat):Value:=.func (.func 120) #[] #[ptr bn,ptr bl,ptr ba,ptr bv,ptr be]
structure CyE (G:Nat→Prop)(n a:Nat)(l:List (Int×BS))(S0:BS)(mq lv:Value)(N0 bn bl ba bv be:Nat)(w:World):Prop where
 t:Tab w
 hv:(Dv (mpE sKV N0) G l).p mq w
 hl:(Dv (slE setE) G (lvB (lkS l) a)).p lv w
 pn:Blk w bn #[I (n:Nat)] 3
 pl:Blk w bl (adC S0 mq) 79
 pa:Blk w ba #[I (a:Nat)] 3
 pv:Blk w bv #[lv] 83
 pe:Blk w be #[cyF bn bl ba bv be] 100
section
variable {G:Nat→Prop}{n a:Nat}{l:List (Int×BS)}{S0:BS}{mq lv:Value}{N0 bn bl ba bv be:Nat}{w w':World}
theorem CyE.ext (h:CyE G n a l S0 mq lv N0 bn bl ba bv be w)(e:Ext w w'):CyE G n a l S0 mq lv N0 bn bl ba bv be w':=
 ⟨h.t.ext e,Dv.ex h.hv e,Dv.ex h.hl e,h.pn.ext e,h.pl.ext e,h.pa.ext e,h.pv.ext e,h.pe.ext e⟩
instance:Ug w w' (CyE G n a l S0 mq lv N0 bn bl ba bv be w) (CyE G n a l S0 mq lv N0 bn bl ba bv be w'):=⟨fun e h=>h.ext e⟩
theorem CyE.ch {S:Nat→Prop}(h:CyE G n a l S0 mq lv N0 bn bl ba bv be w)(c:Chg S w w')(hS:∀b,S b→G b)(h0:¬S 0)(h1:¬S bn)(h2:¬S bl)(h3:¬S ba)(h4:¬S bv)(h5:¬S be):CyE G n a l S0 mq lv N0 bn bl ba bv be w':=
 ⟨h.t.ch c h0,Dv.ch h.hv c hS,Dv.ch h.hl c hS,h.pn.ch c h1,h.pl.ch c h2,h.pa.ch c h3,h.pv.ch c h4,h.pe.ch c h5⟩
theorem CyE.weak {G':Nat→Prop}(h:CyE G n a l S0 mq lv N0 bn bl ba bv be w)(hG:∀b,b<w.heap.size→G' b→G b):CyE G' n a l S0 mq lv N0 bn bl ba bv be w:=
 ⟨h.t,Dv.weak h.hv hG,Dv.weak h.hl hG,h.pn,h.pl,h.pa,h.pv,h.pe⟩
theorem CyE.low (h:CyE G n a l S0 mq lv N0 bn bl ba bv be w):bn<w.heap.size∧bl<w.heap.size∧ba<w.heap.size∧bv<w.heap.size∧be<w.heap.size∧0<w.heap.size:=⟨h.pn.lt,h.pl.lt,h.pa.lt,h.pv.lt,h.pe.lt,h.t.lt⟩
end
def exS (nb:Int→BS)(a n f:Nat)(way:List Nat)(next:Nat):Option (List Nat):=if way.contains next=true∨(n:Int) - way.length<farF (lvB nb a) next then none else extF nb a n f (way++[next])
theorem extF_go {nb:Int→BS}{a n f:Nat}{way:List Nat}(h:way.length≠n):extF nb a n (f+1) way=(elems (nb (way.getLastD 0:Nat))).findSome? (exS nb a n f way):=by
 rw[extF,if_neg h];rfl
theorem extF_at {nb:Int→BS}{a n f:Nat}{way:List Nat}(h:way.length=n):extF nb a n (f+1) way=if (nb (way.getLastD 0:Nat)).getLsbD a=true then some way else none:=by
 rw[extF,if_pos h]
theorem natE_last {way:List Nat}(h:way≠[]):(natE way)[way.length - 1]?=some ((way.getLastD 0:Nat):Int):=by
 have h1:way[way.length - 1]?=some (way.getLastD 0):=by
  rw[← List.getLast?_eq_getElem?,List.getLastD_eq_getLast?]
  cases h2:way.getLast? with
  | none=>rw[List.getLast?_eq_none_iff] at h2;exact absurd h2 h
  | some x=>rfl
 rw[natE,List.getElem?_map,h1];rfl
theorem natE_len (l:List Nat):(natE l).length=l.length:=by rw[natE,List.length_map]
theorem natE_mem {x:Nat}{l:List Nat}:((x:Int)∈natE l)↔x∈l:=by
 rw[natE,List.mem_map]
 constructor
 ·rintro⟨y,hy,h⟩
  have:y=x:=by omega
  rwa [← this]
 ·intro h;exact⟨x,h,rfl⟩
theorem natE_app (l:List Nat)(x:Nat):natE (l++[x])=natE l++[(x:Int)]:=by rw[natE,natE,List.map_append];rfl
structure CyJ (W:World)(G:Nat→Prop)(n a:Nat)(l:List (Int×BS))(S0:BS)(mq lv v:Value)(N0 bn bl ba bv be b6 b7:Nat)(way:List Nat)(r:Value)(w:World):Prop where
 e:Ext W w
 c:CyE (GB W G0) n a l S0 mq lv N0 bn bl ba bv be w
 hw:(Dv (slE intE) (GB W G) (natE way)).p v w
 p6:Blk w b6 #[v] 35
 p7:Blk w b7 #[r] 35
theorem CyJ.kp {W:World}{G:Nat→Prop}{n a:Nat}{l:List (Int×BS)}{S0:BS}{mq lv v:Value}{N0 bn bl ba bv be b6 b7:Nat}{way:List Nat}{r:Value}{B:Nat}{w w':World}(h:CyJ W G n a l S0 mq lv v N0 bn bl ba bv be b6 b7 way r w)(k:Kp B w w')(hW:W.heap.size≤B)(h0:0<B)(hl:bn<B∧bl<B∧ba<B∧bv<B∧be<B)(l6:b6<B)(l7:b7<B) :
  CyJ W G n a l S0 mq lv v N0 bn bl ba bv be b6 b7 way r w':=
 have no:∀{b},b<B→¬Hole B b:=fun h hh=>by have:=hh.1;omega
 have hH:∀b,Hole B b→GB W G0 b:=fun b hb=>.inr (by have:=hb.1;omega)
 ⟨h.e.kp k hW,h.c.ch k.chg hH (no h0) (no hl.1) (no hl.2.1) (no hl.2.2.1) (no hl.2.2.2.1) (no hl.2.2.2.2),Dv.ch h.hw k.chg (fun b hb=>.inr (by have:=hb.1;omega)),h.p6.kp k (no l6),h.p7.kp k (no l7)⟩
theorem has_far {nb:Int→BS}{a:Nat}(b:Nat):farF (lvB nb a) b≤1025:=by have h1:=farF_hi (lvB nb a) b;have h2:=lvB_len nb a;omega
theorem cyc1_spec {n vo:Nat}{l:List (Int×BS)}{S0:BS}{mq lv:Value}{N0 bn bl ba bv be:Nat}(hn:n≤1500):∀(f:Nat) (way:List Nat) (v:Value) (G:Nat→Prop) (W:World),(∀b,G b→b<W.heap.size)→CyE G0 n vo l S0 mq lv N0 bn bl ba bv be W→(Dv (slE intE) G (natE way)).p v W→way≠[]→way.length≤n→n<f+way.length→(∀x∈way,x<1024) →
  Calls Tryz.prog 120 #[v,ptr bn,ptr bl,ptr ba,ptr bv,ptr be] W (Post (CyA G (extF (lkS l) vo n f way)) W):=by
 intro f
 induction f with
 | zero=>intro way v G W hG hC hw hne hle hlt;omega
 | succ f ih=>
  intro way v G W hG hC0 hw0 hne hle hlt hx
  have C:CyE (GB W G0) n vo l S0 mq lv N0 bn bl ba bv be W:=hC0.weak fun b hb hh=>hh.elim id fun h=>absurd hb (Nat.not_lt.2 h)
  have HW:(Dv (slE intE) (GB W G) (natE way)).p v W:=Dv.toB hw0
  have h1c:=one_cells (Dv.slOne hw0)
  have hlo:=hC0.low
  have hwl:1≤way.length:=by
   cases way with
   | nil=>exact absurd rfl hne
   | cons x r=>rw[List.length_cons];omega
  have hwn:=natE_len way
  obtain⟨last,hlast⟩:∃last,last=way.getLastD 0:=⟨_,rfl⟩
  have hgl:=natE_last hne
  rw[← hlast] at hgl
  have hl1024:last<1024:=hx last (by rw[hlast];have h:=List.mem_of_getElem? hgl;rw[hlast] at h;exact natE_mem.1 h)
  have hwlast:(Lit.int .i64 (last:Int)).wf=true:=wf64 (by omega) (by omega)
  refine enterM (args:=[v,ptr bn,ptr bl,ptr ba,ptr bv,ptr be]) (As:=[E v,E (ptr bn),E (ptr bl),E (ptr ba),E (ptr bv),E (ptr be)]) Tryz.func120 rfl Tryz.ntmps120 (Nat.le_of_ble_eq_true rfl) ?_ (fun a hf=>?_) (Nat.le_of_ble_eq_true rfl)
  ·exact argC rfl (argC rfl (argC rfl (argC rfl (argC rfl (argC rfl argZ)))))
  dsimp only[params,Nat.reduceAdd] at hf
  have e:=Ext.rfl' W
  refine seq <| regn0 <| tB hf rfl fun a b6 w v6 hv6 e' hb6 hs6 B6 hf=>?_
  obtain⟨C,HW,e⟩:=up3 e' C HW e
  refine tL I35 hf fun a b7 w e' hb7 hs7 B7 hf=>?_
  obtain⟨C,HW,e,B6⟩:=up4 e' C HW e B6
  refine tl_nil ?_
  cases hv6
  rw[h1c] at B6
  replace B7:Blk w b7 #[.slice none 0 0] 35:=B7
  have n67:b6≠b7∧W.heap.size≤b6∧W.heap.size≤b7:=by omega
  replace hf:=hf.keep [1,2,3,4,5,6,7]
  refine seq <| rgN 6 hf <| st (ld1 (v:=v) T35 rfl B6 rfl) <| st (ld1 (v:=v) T35 rfl B6 rfl) <| st (lenD U35 (isE rfl HW)) <| st (sub rfl rfl (by omega)) <| st (idxD U35 S3 (isE rfl HW) rfl (by omega) (hgl)) <| st (ldI T3 (isR rfl)) <| en fun a w e' hf=>?_
  obtain⟨C,HW,e,B6,B7⟩:=up5 e' C HW e B6 B7
  refine tA hf rfl fun a hf=>tl_nil ?_
  replace hf:=hf.keep [1,2,3,4,5,6,7,8]
  have hov:v.oneCell'=true:=Dv.slOne HW
  obtain⟨Nb,hNb⟩:∃Nb,Nb=lkS l (last:Int):=⟨_,rfl⟩
  have hasb:∀b:Nat,has Nb (b:Int)=Nb.getLsbD b:=fun b=>by rw[Bool.eq_iff_iff];exact has_bit Nb b
  by_cases hln:way.length=n
  ·have hb3:(((natE way).length:Nat):Int)==((n:Nat):Int):=by rw[hwn,hln];exact beq_self_eq_true _
   rw[extF_at hln,← hlast,← hNb]
   repeat refine seq ?_
   refine rgN 4 hf <| st (ld1 (v:=v) T35 rfl B6 rfl) <| st (lenD U35 (isE rfl HW)) <| st (ld1 (v:=I (n:Nat)) T3 rfl C.pn rfl) <| st ((eql rfl rfl).eq (congrArg Value.bool (hb3))) <| en fun a w e' hf=>?_
   obtain⟨C,HW,e,B6,B7⟩:=up5 e' C HW e B6 B7
   refine tl_nil <| ifc hf rfl (fun _=>?_) (fun h=>by cases h)
   replace hf:=hf.keep [1,2,3,4,5,6,7,8]
   repeat refine seq ?_
   refine rgN 6 hf <| st (fA U79 rfl T77 rfl) <| st (ld1 (v:=mq) T77 rfl C.pl (adC_map _ _)) <| st (mv rfl) <| st (lkM (l:=l) (i:=(last:Int)) U77 zero_set (isE rfl C.hv) rfl hwlast) <| st (ld1 (v:=I (vo:Nat)) T3 rfl C.pa rfl) <| st (call2 (A:=E (B (Nb.getLsbD vo))) (B:=E (setV (lkS l (last:Int)))) (C:=E (I (vo:Nat))) En75 rfl rfl (fun v u w he h h'=>by cases h;cases h';rw[← hNb,← hasb];exact has_spec _ _ w)) ?_
   refine en fun a w e' hf=>?_
   obtain⟨C,HW,e,B6,B7⟩:=up5 e' C HW e B6 B7
   refine tl_nil ?_
   replace hf:=hf.kp [6,7,27]
   refine ifc hf rfl (fun hb=>?_) (fun hb=>?_)
   ·rw[if_pos hb]
    refine seq <| rgN 1 hf <| st (ld1 (v:=v) T35 rfl B6 rfl) <| en fun a w e' hf=>?_
    obtain⟨HW,e,B6,B7⟩:=up4 e' HW e B6 B7
    refine tl_st1 T35 hf rfl rfl hov B7 Nat.zero_lt_one fun w hg hsz B7 hf=>?_
    obtain⟨e,HW⟩:=gr2 hg e HW
    refine tl_nil <| wret <| retc1M (D:=[]) rfl T35 hf rfl B7 (Ds.nil _) ⟨_,rfl,e,hne,Dv.weak HW fun b _ hb=>.inl hb⟩
   ·rw[if_neg (by rw[hb];decide)]
    refine wskip ?_
    replace hf:=hf.kp [6,7]
    refine seq <| regn0 <| tl_st1 T35 hf rfl rfl rfl B7 Nat.zero_lt_one fun w hg hsz B7 hf=>?_
    replace e:=e.gr hg (by omega);clear hg
    refine tl_nil <| wret <| retc1M (D:=[]) rfl T35 hf rfl B7 (Ds.nil _) ⟨_,rfl,e,rfl⟩
  ·have hb3:((((natE way).length:Nat):Int)==((n:Nat):Int))=false:=by rw[hwn];exact beq_eq_false_iff_ne.2 (by omega)
   rw[extF_go hln,← hlast,← hNb]
   repeat refine seq ?_
   refine rgN 4 hf <| st (ld1 (v:=v) T35 rfl B6 rfl) <| st (lenD U35 (isE rfl HW)) <| st (ld1 (v:=I (n:Nat)) T3 rfl C.pn rfl) <| st ((eql rfl rfl).eq (congrArg Value.bool (hb3))) <| en fun a w e' hf=>?_
   obtain⟨C,HW,e,B6,B7⟩:=up5 e' C HW e B6 B7
   refine tl_nil <| ifc hf rfl (fun h=>by cases h) (fun _=>?_)
   refine wskip ?_
   replace hf:=hf.keep [1,2,3,4,5,6,7,8]
   obtain⟨Nz,hNz⟩:∃Nz,Nz=w.heap.size:=⟨_,rfl⟩
   have hTw:=C.t
   repeat refine seq ?_
   refine rgN 5 hf <| st (fA U79 rfl T77 rfl) <| st (ld1 (v:=mq) T77 rfl C.pl (adC_map _ _)) <| st (mv rfl) <| st (lkM (l:=l) (i:=(last:Int)) U77 zero_set (isE rfl C.hv) rfl hwlast) <| st (call1 (A:=SeqA Nz Nb) (B:=E (setV (lkS l (last:Int)))) En62 rfl (fun v w' he h=>by cases h;rw[hNb];exact Calls.mono (all_spec _ w') (fun en w2 ⟨u,h1,h2,b',h3,h4,h5⟩=>⟨u,h1,h2,b',by have:=he.size;omega,h4,h5⟩))) ?_
   refine en fun a w e' hf=>?_
   obtain⟨C,HW,e,B6,B7⟩:=up5 e' C HW e B6 B7
   refine tl_nil ?_
   obtain⟨vv,⟨b33,h33,rfl,BS⟩,hf⟩:=hf.fix 33 rfl
   replace hf:=hf.kp [1,2,3,4,5,6,7,33]
   obtain⟨nb,hnb⟩:∃nb,nb=lkS l:=⟨_,rfl⟩
   rw[← hnb]
   have hlo2:bn<w.heap.size∧bl<w.heap.size∧ba<w.heap.size∧bv<w.heap.size∧be<w.heap.size:=by have:=e.size;omega
   have hBW:W.heap.size≤w.heap.size:=e.size
   have h0w:0<w.heap.size:=C.t.lt
   have l6:=B6.lt
   have l7:=B7.lt
   refine blk <| range_all3 (S:=Nb) hf rfl BS (by decide) (fun s w1=>CyJ W G n vo l S0 mq lv v N0 bn bl ba bv be b6 b7 way (.slice none 0 0) w1∧∀y∈s,exS nb vo n f way y=none)
    (fun ex w1=>ex=.ret∧∃r out,CyJ W G n vo l S0 mq lv v N0 bn bl ba bv be b6 b7 way r w1∧(elems Nb).findSome? (exS nb vo n f way)=some out∧out≠[]∧(Dv (slE intE) (fun b=>b<w.heap.size+3) (natE out)).p r w1) (fun s w1 h=>h.1.c.t)
    ⟨⟨e,C,HW,B6,B7⟩,fun y hy=>by cases hy⟩ (fun s w1 w2 h hs k=>⟨h.1.kp k hBW h0w hlo2 l6 l7,h.2⟩)
    (fun ex w1 w2 ⟨q1,r,out,q2,q3,q4,q5⟩ hs k=>⟨q1,r,out,q2.kp k hBW h0w hlo2 l6 l7,q3,q4,Dv.ch q5 k.chg fun b hb=>hb.2⟩) ?_ ?_ ?_
   ·intro lp s x rest a1 w1 hs hJ hlw hf
    have hxN:Nb.getLsbD x=true:=(mem_elems.1 (by rw[hs];simp)).2
    have hx1024:x<1024:=bit_lt hxN
    generalize hBz:w.heap.size=Bz at *
    refine regn0 <| tA hf rfl fun a hf=>tl_nil <| ⟨Kh.rfl' _ _,fun w3 k3 hsz3=>?_⟩
    have hJ3:=hJ.1.kp k3 hBW h0w hlo2 l6 l7
    have hJs:=hJ.2
    have hw3:Bz+3≤w3.heap.size:=by omega
    replace hf:=hf.pure w3
    obtain⟨e,C,HW,B6,B7⟩:=hJ3
    have kh:=Kh.rfl' Bz w3
    replace hf:=hf.kp [1,2,3,4,5,6,7,9]
    refine blk ?_
    have hd2:farF (lvB nb vo) x≤1025:=has_far x
    have hd1 : -1≤farF (lvB nb vo) x:=farF_lo _ _
    obtain⟨d,hd⟩:∃d,d=farF (lvB nb vo) x:=⟨_,rfl⟩
    have hex:exS nb vo n f way x=if way.contains x=true∨(n:Int) - way.length<d then none else extF nb vo n f (way++[x]):=by rw[exS,hd]
    rw[← hd] at hd1 hd2
    repeat refine seq ?_
    refine rgN 3 hf <| st (ld1 (v:=lv) T83 rfl C.pv rfl) <| st (mv rfl) <| st (call2 (A:=E (I d)) (B:=E lv) (C:=E (I (x:Nat))) En50 rfl rfl (fun a b w he k1 k2=>by cases k1;cases k2;rw[hd,hnb];exact far_spec _ x lv w (Dv.ex C.hl he) (Nat.le_trans (lvB_len _ _) (by decide)))) ?_
    refine en fun a w e' hf=>?_
    obtain⟨C,HW⟩:=up2 e' C HW
    replace kh:=kh.tr (Kh.ext e')
    obtain⟨hw3,e,B6,B7⟩:=up4 e' hw3 e B6 B7
    refine tA hf rfl fun a hf=>tl_nil ?_
    replace hf:=hf.kp [1,2,3,4,5,6,7,9,10]
    have fin:∀{w2:World},exS nb vo n f way x=none→Ext W w2→CyE (GB W G0) n vo l S0 mq lv N0 bn bl ba bv be w2→(Dv (slE intE) (GB W G) (natE way)).p v w2→Blk w2 b6 #[v] 35→Blk w2 b7 #[.slice none 0 0] 35→Kh Bz w3 w2 →
      (CyJ W G n vo l S0 mq lv v N0 bn bl ba bv be b6 b7 way (.slice none 0 0) w2∧∀y∈s++[x],exS nb vo n f way y=none)∧Kh Bz w3 w2:=fun {w2} h0 h1 h2 h3 h4 h5 h6=>⟨⟨⟨h1,h2,h3,h4,h5⟩,fun y hy=>by
     rcases List.mem_append.1 hy with hy|hy
     ·exact hJs y hy
     ·rw[List.mem_singleton.1 hy];exact h0⟩,h6⟩
    by_cases hcon:x∈way
    ·rw[if_pos (.inl (List.contains_iff_mem.2 hcon))] at hex
     refine seq <| rgN 11 hf <| st (ld1 (v:=v) T35 rfl B6 rfl) <| st (mv rfl) <| st (call2 (A:=E (B true)) (B:=E v) (C:=E (I (x:Nat))) En121 rfl rfl (fun a b w he k1 k2=>by cases k1;cases k2;have h:=scontains_spec (natE way) (x:Int) v w (Dv.ex HW he) (by omega);rwa [decide_eq_true (natE_mem.2 hcon)] at h)) ?_
     refine st (mv rfl) <| sn rfl rfl rfl <| sn rfl rfl rfl <| sn rfl rfl rfl <| sn rfl rfl rfl <| sn rfl rfl rfl <| sn rfl rfl rfl <| st (pkT rfl rfl) <| en fun a w e' hf=>?_
     obtain⟨C,HW⟩:=up2 e' C HW
     replace kh:=kh.tr (Kh.ext e')
     obtain⟨hw3,e,B6,B7⟩:=up4 e' hw3 e B6 B7
     refine tl_nil <| ifc hf rfl (fun _=>?_) (fun h=>by cases h)
     refine wexit <| fin hex e C HW B6 B7 kh
    ·by_cases hfar:(n:Int) - way.length<d
     ·rw[if_pos (.inr hfar)] at hex
      refine seq <| rgN 11 hf <| st (ld1 (v:=v) T35 rfl B6 rfl) <| st (mv rfl) <| st (call2 (A:=E (B false)) (B:=E v) (C:=E (I (x:Nat))) En121 rfl rfl (fun a b w he k1 k2=>by cases k1;cases k2;have h:=scontains_spec (natE way) (x:Int) v w (Dv.ex HW he) (by omega);rwa [decide_eq_false (fun h=>hcon (natE_mem.1 h))] at h)) ?_
      refine st (mv rfl) <| sy rfl rfl (mv rfl) <| sy rfl rfl (ld1 (v:=I (n:Nat)) T3 rfl C.pn rfl) <| sy rfl rfl (ld1 (v:=v) T35 rfl B6 rfl) <| sy rfl rfl (lenD U35 (isE rfl HW)) <| sy rfl rfl (sub rfl rfl (by omega)) <| sy rfl rfl ((gtr rfl rfl).eq (congrArg Value.bool (decide_eq_true (show (n:Int) - ((natE way).length:Nat)<d by rw[hwn];exact hfar)))) ?_
      refine st (pkF rfl rfl) <| en fun a w e' hf=>?_
      obtain⟨C,HW⟩:=up2 e' C HW
      replace kh:=kh.tr (Kh.ext e')
      obtain⟨hw3,e,B6,B7⟩:=up4 e' hw3 e B6 B7
      refine tl_nil <| ifc hf rfl (fun _=>?_) (fun h=>by cases h)
      refine wexit <| fin hex e C HW B6 B7 kh
     ·rw[if_neg (fun h=>h.elim (fun h=>hcon (List.contains_iff_mem.1 h)) hfar)] at hex
      refine seq <| rgN 11 hf <| st (ld1 (v:=v) T35 rfl B6 rfl) <| st (mv rfl) <| st (call2 (A:=E (B false)) (B:=E v) (C:=E (I (x:Nat))) En121 rfl rfl (fun a b w he k1 k2=>by cases k1;cases k2;have h:=scontains_spec (natE way) (x:Int) v w (Dv.ex HW he) (by omega);rwa [decide_eq_false (fun h=>hcon (natE_mem.1 h))] at h)) ?_
      refine st (mv rfl) <| sy rfl rfl (mv rfl) <| sy rfl rfl (ld1 (v:=I (n:Nat)) T3 rfl C.pn rfl) <| sy rfl rfl (ld1 (v:=v) T35 rfl B6 rfl) <| sy rfl rfl (lenD U35 (isE rfl HW)) <| sy rfl rfl (sub rfl rfl (by omega)) <| sy rfl rfl ((gtr rfl rfl).eq (congrArg Value.bool (decide_eq_false (show ¬(n:Int) - ((natE way).length:Nat)<d by rw[hwn];exact hfar)))) ?_
      refine st (pkF rfl rfl) <| en fun a w e' hf=>?_
      obtain⟨C,HW⟩:=up2 e' C HW
      replace kh:=kh.tr (Kh.ext e')
      obtain⟨hw3,e,B6,B7⟩:=up4 e' hw3 e B6 B7
      refine tl_nil <| ifc hf rfl (fun h=>by cases h) (fun _=>?_)
      refine wskip ?_
      replace hf:=hf.kp [1,2,3,4,5,6,7,9]
      obtain⟨N1,hN1⟩:∃N1,N1=w.heap.size:=⟨_,rfl⟩
      have hN1s:N1≤w.heap.size:=Nat.le_of_eq hN1
      have hN1b:Bz+3≤N1:=by rw[hN1];exact hw3
      have hsub:∀b,N1≤b→GB W G0 b:=fun b hb=>.inr (by omega)
      have hwn1:(natE way).length+1≤2000:=by omega
      have hne1:natE way≠[]:=fun h=>by rw[h] at hwn;simp at hwn;omega
      refine seq <| regJ 7 [1,0,0,0,0] (Chg (fun b=>N1≤b)) (RelJ.chg _) (fun w=>True) (fun w w1 k h=>trivial) Mix.mix hf (by decide +kernel) (by decide +kernel) <| jf (fun w1 h1=>ld1 (v:=cyF bn bl ba bv be) T100 rfl (C.pe.ch h1 (by omega)) rfl) <| ja (ld1 (v:=v) T35 rfl B6 rfl) <| ja (call1 (A:=OwA intE 3 N1 G0 (natE way)) (B:=E v) En64 rfl (fun u w he k=>by cases k;exact (sclone_spec (natE way) v w (Dv.ex HW he) (by omega) hne1).mono fun en w' ⟨u,k1,k2,k3⟩=>⟨u,k1,k2,OwR.low k3 (Nat.le_trans hN1s he.size) fun b hb=>hb.elim⟩)) ?_
      refine ja (mv rfl) <| ja (bsl1 (e:=intE) (G:=G0) U35 I3 rfl (by decide) rfl (fun b hb=>hb.elim) (isI rfl)) <| jx (xappF (G':=G0) U35 I3 rfl rfl rfl (isR rfl) (by simp only[List.length_singleton];omega) (by simp only[List.length_singleton,maxLen];omega) (fun _ _ _ _=>trivial) (fun _ _=>trivial)) ?_
      refine jp (fun w1 h1 HF1=>callV1 (A:=CyA (fun b=>b<N1) (extF nb vo n f (way++[x]))) (B:=OwA intE 3 N1 G0 (natE way++[(x:Int)])) En120 rfl rfl (fun u w he k=>by rw[hnb];exact ih (way++[x]) u (fun b=>b<N1) w (fun b hb=>by have:=h1.size;have:=he.size;omega) (((C.ch h1 hsub (by omega) (by omega) (by omega) (by omega) (by omega) (by omega)).ext he).weak fun b _ hb=>hb.elim) (by rw[natE_app];exact OwR.slN k fun b hb hh=>by have:=(OwR.lt k hb).1;omega) (by simp) (by rw[List.length_append,List.length_singleton];omega) (by rw[List.length_append,List.length_singleton];omega) (fun y hy=>(List.mem_append.1 hy).elim (hx y) fun h=>by rw[List.mem_singleton.1 h];exact hx1024))) ?_
      refine je <| fun a w hc HF hf=>?_
      try dsimp only[push] at hf
      have e':Ext _ w:=⟨hc.os,hc.tape,hc.output,hc.size,fun b hb=>hc.block b hb (by omega)⟩
      replace e:=e.tr e';replace C:=C.ext e';replace HW:=Dv.ex HW e';replace B6:=B6.ext e';replace B7:=B7.ext e';replace kh:=kh.tr (Kh.ext e');replace hw3:=Nat.le_trans hw3 e'.size
      refine tA hf rfl fun a hf=>tl_nil ?_
      obtain⟨r,hr,hf⟩:=hf.opn 11 rfl
      replace hf:=hf.kp [1,2,3,4,5,6,7,9,11]
      obtain⟨o,ho⟩:∃o,o=extF nb vo n f (way++[x]):=⟨_,rfl⟩
      rw[← ho] at hr hex
      cases o with
      | none=>
       obtain rfl:r=.slice none 0 0:=hr
       refine seq <| rgN 2 hf <| st (mv rfl) <| st (neqNil U35 rfl) <| en fun a w e' hf=>?_
       obtain⟨C,HW⟩:=up2 e' C HW
       replace kh:=kh.tr (Kh.ext e')
       obtain⟨e,B6,B7⟩:=up3 e' e B6 B7
       refine tl_nil <| ifc hf rfl (fun h=>by cases h) (fun _=>?_)
       refine wskip <| fin hex e C HW B6 B7 kh
      | some out=>
       obtain⟨hr1,hr2⟩:=hr
       have hro:r.oneCell'=true:=Dv.slOne hr2
       have hne2:natE out≠[]:=fun h=>hr1 (by rw[natE] at h;exact List.map_eq_nil_iff.1 h)
       obtain⟨ad,n',c',hre⟩:=slSome hr2 hne2
       have HR:(Dv (slE intE) (fun b=>b<Bz+3) (natE out)).p r w:=Dv.weak hr2 fun b _ hb=>by omega
       subst hre
       refine seq <| rgN 2 hf <| st (mv rfl) <| st (neqNil U35 rfl) <| en fun a w e' hf=>?_
       obtain⟨C,HW⟩:=up2 e' C HW
       replace kh:=kh.tr (Kh.ext e')
       obtain⟨HR,e,B6,B7⟩:=up4 e' HR e B6 B7
       refine tl_nil <| ifc hf rfl (fun _=>?_) (fun h=>by cases h)
       refine seq <| rgN 1 hf <| st (mv rfl) <| en fun a w e' hf=>?_
       obtain⟨C,HW⟩:=up2 e' C HW
       replace kh:=kh.tr (Kh.ext e')
       obtain⟨HR,e,B6,B7⟩:=up4 e' HR e B6 B7
       refine tl_st1 T35 hf rfl rfl hro B7 Nat.zero_lt_one fun w hg hsz B7 hf=>?_
       have hch:=(Chg.rfl' (fun b=>b=b7) _).gr hg (.inl rfl)
       replace e:=e.gr hg (by omega)
       replace C:=C.ch hch (fun b hb=>.inr (by omega)) (by omega) (by omega) (by omega) (by omega) (by omega) (by omega)
       obtain⟨HW,B6⟩:=gr2 hg HW B6
       replace HR:=Dv.gr HR hg (by omega)
       replace kh:=kh.tr (Kh.gr hg (fun hh=>by have:=hh.1;omega))
       refine tl_nil <| wret ?_
       have hfs:(elems Nb).findSome? (exS nb vo n f way)=some out:=by
        rw[hs,List.findSome?_append,List.findSome?_eq_none_iff.2 hJs,List.findSome?_cons,hex];rfl
       exact⟨⟨rfl,_,out,⟨e,C,HW,B6,B7⟩,hfs,hr1,HR⟩,kh⟩
   ·intro a' w' hf' hJ hsz hDn
    simp only[Exit.inBlock,↓reduceIte,Exit.then]
    have hfs:(elems Nb).findSome? (exS nb vo n f way)=none:=List.findSome?_eq_none_iff.2 hJ.2
    rw[hfs]
    have hD:Ds [w.heap.size] w':=(Ds.nil w').cons hDn (by simp)
    have hf:FrD 59 (marks [w.heap.size]) a' w' [(7,E (ptr b7))]:=hf'.keep [7]
    have hDW:∀d∈[w.heap.size],W.heap.size≤d:=fun d hd=>by rw[List.mem_singleton] at hd;omega
    obtain⟨e,C,HW,B6,B7⟩:=hJ.1
    have hb7:=hD.ne B7
    generalize [w.heap.size]=D2 at *
    generalize w'=w at *
    refine seq <| regn0 <| tl_st1 T35 hf rfl rfl rfl B7 Nat.zero_lt_one fun w hg hsz B7 hf=>?_
    replace e:=e.gr hg (by omega)
    replace hD:=hD.gr hg hb7
    refine tl_nil <| wret <| retc1M rfl T35 hf rfl B7 hD ⟨_,rfl,e.shut hDW,rfl⟩
   ·intro ex c a' w' hcd hf' hX hsz hDn
    obtain⟨rfl,r,out,hJ,hfs,hr1,HR⟩:=hX
    simp only[Exit.inBlock,↓reduceIte,Exit.then]
    rw[hfs]
    have hD:Ds [w.heap.size] w':=(Ds.nil w').cons hDn (by simp)
    have hf:FrD 59 (marks [w.heap.size]) a' w' [(7,E (ptr b7))]:=hf'.keep [7]
    have hDW:∀d∈[w.heap.size],W.heap.size≤d:=fun d hd=>by rw[List.mem_singleton] at hd;omega
    refine retc1M rfl T35 hf rfl hJ.p7 hD ⟨_,rfl,hJ.e.shut hDW,hr1,?_⟩
    exact Dv.weak (Dv.ch HR (chg_shut _ _) fun b hb=>by rw[List.mem_singleton] at hb;show b<_;omega) fun b _ hb=>by have:=hG b hb;show b<_;omega
theorem cycle_spec {G:Nat→Prop}{N0:Nat}(l:List (Int×BS))(S0:BS)(mq:Value)(vo n:Nat)(W:World)(hT:Tab W)(h:(Dv (mpE sKV N0) G l).p mq W)(hvo:vo<1024)(hn1:1≤n)(hn:n≤1500) :
  Calls Tryz.prog 85 #[.agg (adC S0 mq),I (vo:Nat),I (n:Nat)] W (Post (CyA (fun b=>b<W.heap.size) (extF (lkS l) vo n n [vo])) W):=by
 have HV:(Dv (mpE sKV N0) (GB W G0) l).p mq W:=Dv.toB (Dv.weak h fun b _ hb=>hb.elim)
 have hT0:=hT.lt
 refine eN [.agg (adC S0 mq),I (vo:Nat),I (n:Nat)] [E (.agg (adC S0 mq)),E (I (vo:Nat)),E (I (n:Nat))] Tryz.func85 Tryz.ntmps85 ?_ fun a hf=>?_
 rotate_left
 rotate_right
 ·exact arg3 rfl rfl rfl
 have e:=Ext.rfl' W
 refine seq <| regn0 <| tB hf rfl fun a b3 w v3 hv3 e' hb3 hs3 B3 hf=>?_
 obtain⟨hT,HV,e⟩:=up3 e' hT HV e
 refine tB hf rfl fun a b4 w v4 hv4 e' hb4 hs4 B4 hf=>?_
 obtain⟨hT,HV,e,B3⟩:=up4 e' hT HV e B3
 refine tB hf rfl fun a b5 w v5 hv5 e' hb5 hs5 B5 hf=>?_
 obtain⟨hT,HV,e,B3,B4⟩:=up5 e' hT HV e B3 B4
 refine tA hf rfl fun a hf=>tl_nil ?_
 cases hv3
 cases hv4
 cases hv5
 replace B3:Blk w b3 (adC S0 mq) 79:=B3
 replace B4:Blk w b4 #[I (vo:Nat)] 3:=B4
 replace B5:Blk w b5 #[I (n:Nat)] 3:=B5
 have n5:b3≠b4∧b3≠b5∧b4≠b5∧W.heap.size≤b3∧W.heap.size≤b4∧W.heap.size≤b5:=by omega
 replace hf:=hf.keep [3,4,5]
 obtain⟨lv0,hlv0⟩:∃lv0,lv0=lvB (lkS l) vo:=⟨_,rfl⟩
 obtain⟨N1,hN1⟩:∃N1,N1=w.heap.size:=⟨_,rfl⟩
 have hN1s:N1≤w.heap.size:=Nat.le_of_eq hN1
 have hl5:b3<N1∧b4<N1∧b5<N1:=by have:=B3.lt;have:=B4.lt;have:=B5.lt;omega
 refine seq <| rgN 3 hf <| st (ldW T79 rfl B3 (adC_size _ _)) <| st (ld1 (v:=I (vo:Nat)) T3 rfl B4 rfl) <| st (call2 (A:=OwA setE 76 N1 G0 lv0) (B:=E (.agg (adC S0 mq))) (C:=E (I (vo:Nat))) En52 rfl rfl (fun v u w he k1 k2=>by cases k1;cases k2;exact (levels_spec l S0 mq vo w (hT.ext he) (Dv.ex HV he) hvo).mono fun en w' ⟨u,k1,k2,k3⟩=>⟨u,k1,k2,by rw[hlv0];exact OwR.low k3 (Nat.le_trans hN1s he.size) fun b hb=>hb.elim⟩)) ?_
 refine en fun a w e' hf=>?_
 obtain⟨hT,HV,e,B3,B4,B5⟩:=up6 e' hT HV e B3 B4 B5
 obtain⟨lv,Hr,hf⟩:=hf.opn 11 rfl
 replace Hr:OwR setE 76 N1 G0 w lv0 lv:=Hr
 obtain⟨N2,hN2⟩:∃N2,N2=w.heap.size:=⟨_,rfl⟩
 have hN2s:N2≤w.heap.size:=Nat.le_of_eq hN2
 have hl5':b3<N2∧b4<N2∧b5<N2:=by have:=B3.lt;have:=B4.lt;have:=B5.lt;omega
 have HL:(Dv (slE setE) (fun b=>N2≤b) lv0).p lv w:=Hr.slN fun b hb hh=>by have:=(Hr.lt hb).2;omega
 have hlo:lv.oneCell'=true:=Hr.one
 have hWN2:W.heap.size≤N2:=by rw[hN2];exact e.size
 replace hf:=hf.kp [3,4,5,11]
 refine tL I83 hf fun a b7 w e' hb7 hs7 B7 hf=>?_
 have hle7:=Nat.le_trans e.size (Nat.le_of_eq hb7.symm)
 have lo7_hN2s:=Nat.le_trans hN2s (Nat.le_of_eq hb7.symm)
 obtain⟨hT,HV,HL,hN2s,e,B3,B4,B5⟩:=up8 e' hT HV HL hN2s e B3 B4 B5
 have n7:N2≤b7:=lo7_hN2s
 refine tl_st1 T83 hf rfl rfl hlo B7 Nat.zero_lt_one fun w hg hsz B7 hf=>?_
 replace e:=e.gr hg (by omega);replace hT:=hT.gr hg (by omega);replace HV:=Dv.gr HV hg (.inr (by omega));replace HL:=Dv.gr HL hg n7;replace B3:=B3.gr hg (by omega);replace B4:=B4.gr hg (by omega);replace B5:=B5.gr hg (by omega);replace hN2s:=Nat.le_trans hN2s hg.size;clear hg
 refine tl_nil ?_
 replace B7:Blk w b7 #[lv] 83:=B7
 replace hf:=hf.keep [3,4,5,7]
 refine seq <| regn0 <| tL I100 hf fun a b8 w e' hb8 hs8 B8 hf=>?_
 have lo8_hN2s:=Nat.le_trans hN2s (Nat.le_of_eq hb8.symm)
 have lt8_B3:=B3.lt
 obtain⟨hT,HV,HL,hN2s,e,B3,B4,B5,B7⟩:=up9 e' hT HV HL hN2s e B3 B4 B5 B7
 refine tl_nil ?_
 have n8:N2≤b8∧b7≠b8:=⟨lo8_hN2s,by omega⟩
 replace hf:=hf.kp [3,4,5,7,8]
 refine seq <| rgN 1 hf <| st (makeF5 rfl rfl rfl rfl rfl) <| en fun a w e' hf=>?_
 replace hT:=hT.ext e'
 replace HV:=Dv.ex HV e'
 replace HL:=Dv.ex HL e'
 replace hN2s:=Nat.le_trans hN2s e'.size
 replace e:=e.tr e'
 replace B3:=B3.ext e'
 replace B4:=B4.ext e'
 replace B5:=B5.ext e'
 replace B7:=B7.ext e'
 replace B8:=B8.ext e'
 refine tl_st1 T100 hf rfl rfl rfl B8 Nat.zero_lt_one fun w hg hsz B8 hf=>?_
 obtain⟨e,hT,HV,B3,B4,B5,B7⟩:=gr7 hg e hT HV B3 B4 B5 B7
 replace HL:=Dv.gr HL hg n8.1
 refine tl_nil ?_
 replace B8:Blk w b8 #[cyF b5 b3 b4 b7 b8] 100:=B8
 have C:CyE G0 n vo l S0 mq lv N0 b5 b3 b4 b7 b8 w:=⟨hT,Dv.weak HV fun b _ hb=>hb.elim,by rw[← hlv0];exact Dv.weak HL fun b _ hb=>hb.elim,B5,B3,B4,B7,B8⟩
 replace hf:=hf.keep [3,4,5,7,8]
 have e4:=e
 refine seq <| rgN 4 hf <| st (ld1 (v:=cyF b5 b3 b4 b7 b8) T100 rfl B8 rfl) <| st (ld1 (v:=I (vo:Nat)) T3 rfl B4 rfl) <| st (bsl1 (e:=intE) (G:=fun b=>b<W.heap.size) U35 I3 rfl (by decide) rfl (fun b hb=>Nat.lt_of_lt_of_le hb e4.size) (isI rfl)) <| st (callV1 (A:=CyA (fun b=>b<W.heap.size) (extF (lkS l) vo n n [vo])) (B:=Dv (slE intE) (fun b=>b<W.heap.size) [(vo:Int)]) En120 rfl rfl (fun u w he k=>cyc1_spec hn n [vo] u (fun b=>b<W.heap.size) w (fun b hb=>Nat.lt_of_lt_of_le hb (Ext.tr e4 he).size) (C.ext he) k (by simp) (by simp;omega) (by simp) (fun y hy=>by rw[List.mem_singleton.1 hy];exact hvo))) ?_
 refine en fun a w e' hf=>?_
 obtain⟨C,e,B4,B8⟩:=up4 e' C e B4 B8
 refine tA hf rfl fun a hf=>tl_nil <| wret <| ret1 rfl hf rfl ?_
 intro v hv
 exact⟨_,rfl,e,hv⟩
def scL (nb:Int→BS)(V:BS)(n:Nat):List Nat→BS→Option (List Nat)
 | [],_=>none
 | x::r,left=>match extF (nbWi nb (V &&& left)) x n n [x] with
  | some o=>some o
  | none=>scL nb V n r (del left (x:Int))
def delL (S:BS)(s:List Nat):BS:=s.foldl (fun (S:BS) (x:Nat)=>del S (x:Int)) S
theorem delL_app (S:BS)(s:List Nat)(x:Nat):delL S (s++[x])=del (delL S s) (x:Int):=by rw[delL,List.foldl_append,List.foldl_cons,List.foldl_nil,delL]
def shcF (nb:Int→BS)(V:BS)(es:List (Nat×Nat)):Option (List Nat):=if girF nb es=0 then none else scL nb V (girF nb es).toNat (elems V) V
structure ScJ (W:World)(nm bm:Nat)(l:List (Int×BS))(V:BS)(b2 b3 b4 b5 n:Nat)(r:Value)(left:BS)(w:World):Prop where
 e:Ext W w
 t:Tab w
 m:MpR sKV w bm nm l
 p2:Blk w b2 #[r] 35
 p3:Blk w b3 (adC V (.map (some bm))) 79
 p4:Blk w b4 #[I (n:Nat)] 3
 p5:Blk w b5 (setC left) 76
theorem ScJ.kp {W:World}{nm bm:Nat}{l:List (Int×BS)}{V:BS}{b2 b3 b4 b5 n:Nat}{r:Value}{left:BS}{B:Nat}{w w':World}(h:ScJ W nm bm l V b2 b3 b4 b5 n r left w)(k:Kp B w w')(hW:W.heap.size≤B)(h0:0<B)(l2:b2<B)(l3:b3<B)(l4:b4<B)(l5:b5<B)(lm:bm<B) :
  ScJ W nm bm l V b2 b3 b4 b5 n r left w':=
 have no:∀{b},b<B→¬Hole B b:=fun h hh=>by have:=hh.1;omega
 ⟨h.e.kp k hW,h.t.kp k h0,h.m.pres (k.same bm h.m.lt (no lm)),h.p2.kp k (no l2),h.p3.kp k (no l3),h.p4.kp k (no l4),h.p5.kp k (no l5)⟩
def esN (g:GT):List (Nat×Nat):=g.2.map fun x=>(x.1.1.toNat,x.1.2.toNat)
theorem ed_nat {g:GT}(ok:Gr.Ok g):∀x∈g.2,∃u v:Nat,x.1=((u:Int),(v:Int))∧u<v∧(vset g.1).getLsbD u=true∧(vset g.1).getLsbD v=true:=fun x hx=>by
 obtain⟨q1,q2,q3,_⟩:=ok.re x hx
 have h2:=q2
 have h3:=q3
 rw[inV,List.any_eq_true] at h2 h3
 obtain⟨y,hy,e1⟩:=h2
 obtain⟨z,hz,e2⟩:=h3
 have r1:=idOk_r (ok.rv y hy).1
 have r2:=idOk_r (ok.rv z hz).1
 rw[of_decide_eq_true e1] at r1
 rw[of_decide_eq_true e2] at r2
 obtain⟨⟨p,q⟩,c⟩:=x
 dsimp only at q1 q2 q3 r1 r2 ⊢
 obtain⟨u,rfl⟩:∃u:Nat,p=u:=⟨p.toNat,by omega⟩
 obtain⟨v,rfl⟩:∃v:Nat,q=v:=⟨q.toNat,by omega⟩
 exact⟨u,v,rfl,by omega,(inV_vset ok).2 q2,(inV_vset ok).2 q3⟩
theorem es_toI {g:GT}(ok:Gr.Ok g):g.2.map (·.1)=(esN g).map toI:=by
 rw[esN,List.map_map]
 refine List.map_congr_left fun x hx=>?_
 obtain⟨u,v,he,_⟩:=ed_nat ok x hx
 rw[he,Function.comp,he];rfl
theorem es_in {g:GT}(ok:Gr.Ok g):∀e∈esN g,e.1<e.2∧(vset g.1).getLsbD e.1=true∧(vset g.1).getLsbD e.2=true:=fun e he=>by
 obtain⟨x,hx,rfl⟩:=List.mem_map.1 he
 obtain⟨u,v,he,h1,h2,h3⟩:=ed_nat ok x hx
 rw[he];exact⟨h1,h2,h3⟩
theorem es_adj {g:GT}(ok:Gr.Ok g)(i j:Nat):Adj g i j↔(i,j)∈esN g∨(j,i)∈esN g:=by
 constructor
 ·rintro⟨x,hx,h|h⟩
  ·exact .inl (List.mem_map.2 ⟨x,hx,by rw[h];rfl⟩)
  ·exact .inr (List.mem_map.2 ⟨x,hx,by rw[h];rfl⟩)
 ·rintro (h|h)
  ·obtain⟨x,hx,he⟩:=List.mem_map.1 h
   obtain⟨u,v,h1,_⟩:=ed_nat ok x hx
   rw[h1] at he
   have:u=i∧v=j:=by simpa using he
   exact⟨x,hx,.inl (by rw[h1,this.1,this.2])⟩
  ·obtain⟨x,hx,he⟩:=List.mem_map.1 h
   obtain⟨u,v,h1,_⟩:=ed_nat ok x hx
   rw[h1] at he
   have:u=j∧v=i:=by simpa using he
   exact⟨x,hx,.inr (by rw[h1,this.1,this.2])⟩
theorem gst_hi (nb:Int→BS)(b:Int)(e:Nat×Nat)(h:0≤b)(h':b≤1026):0≤gst nb b e∧gst nb b e≤1026:=by
 have h1:=farF_lo (lvB (wo nb e.1 e.2) e.1) e.2
 have h2:=has_far (nb:=wo nb e.1 e.2) (a:=e.1) e.2
 rw[gst]
 split <;> omega
theorem girF_hi (nb:Int→BS)(es:List (Nat×Nat)):0≤girF nb es∧girF nb es≤1026:=by
 have key:∀k,k≤es.length→0≤girF nb (es.take k)∧girF nb (es.take k)≤1026:=by
  intro k
  induction k with
  | zero=>intro _;rw[List.take_zero,girF,List.foldl_nil];decide
  | succ k ih=>
   intro hk
   have h1:=ih (by omega)
   have h2:es.take (k+1)=es.take k++[es[k]]:=take_succ_get (List.getElem?_eq_getElem (by omega))
   rw[h2,girF_app]
   exact gst_hi nb _ _ h1.1 h1.2
 have:=key es.length (Nat.le_refl _)
 rwa [List.take_length] at this
end Go.Mono
