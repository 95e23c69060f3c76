/-
  Walks of functions and plain facts.
  No condition.
-/
import Derived.Test.YtbjangoghokneaaGreatDoorEG
import Derived.Test.YtbjangoghokneaaGreatDoorEE
import Derived.Test.YtbjangoghokneaaGreatDoorEF
import Derived.Test.YtbjangoghokneaaGreatDoorED
import Derived.Test.YtbjangoghokneaaGreatDoorEA
import Derived.Test.YtbjangoghokneaaGreatDoorEB
import Derived.Shelf.SlMaps.Clone
import Derived.Test.YtbjangoghokneaaGreatDoorProg
import Derived.Test.YtbjangoghokneaaGreatDoorEC
set_option linter.unusedVariables false
set_option linter.unusedSimpArgs false
namespace Go.Mono
open Go Go.Proofs Go.RowKit Go.Gr
inductive Rc (nb:Int→BS)(U:Nat→Prop)(a:Nat):Nat→Prop
 | base:U a→Rc nb U a a
 | step {x y:Nat}:Rc nb U a x→(nb (x:Int)).getLsbD y=true→U y→Rc nb U a y
inductive Eb (nb:Int→BS)(u v:Nat):Nat→Nat→Prop
 | refl:(nb (u:Int)).getLsbD v=true→Eb nb u v u v
 | flip {x y:Nat}:Eb nb u v x y→Eb nb u v y x
 | turn {x y z:Nat}:Eb nb u v x y→(nb (x:Int)).getLsbD z=true→Rc nb (fun w=>w≠x) y z→Eb nb u v x z
section
variable {nb:Int→BS}{U U':Nat→Prop}{a x y u v:Nat}
theorem Rc.mem (h:Rc nb U a x):U x:=by cases h <;> assumption
theorem Rc.src (h:Rc nb U a x):U a:=by
 induction h with
 | base h=>exact h
 | step _ _ _ ih=>exact ih
theorem Rc.tr (h:Rc nb U a x)(k:Rc nb U x y):Rc nb U a y:=by
 induction k with
 | base _=>exact h
 | step _ h1 h2 ih=>exact ih.step h1 h2
theorem Rc.sym (hs:∀i j:Nat,(nb (i:Int)).getLsbD j=true→(nb (j:Int)).getLsbD i=true)(h:Rc nb U a x):Rc nb U x a:=by
 induction h with
 | base h=>exact .base h
 | step h1 h2 h3 ih=>exact (Rc.step (.base h3) (hs _ _ h2) h1.mem).tr ih
theorem Rc.mono (hU:∀x,U x→U' x)(h:Rc nb U a x):Rc nb U' a x:=by
 induction h with
 | base h=>exact .base (hU _ h)
 | step _ h1 h2 ih=>exact ih.step h1 (hU _ h2)
theorem Rc.lt (ha:a<1024)(h:Rc nb U a x):x<1024:=by
 cases h with
 | base _=>exact ha
 | step _ h1 _=>exact aK h1
theorem Eb.adj (hs:∀i j:Nat,(nb (i:Int)).getLsbD j=true→(nb (j:Int)).getLsbD i=true)(h:Eb nb u v x y):(nb (x:Int)).getLsbD y=true:=by
 induction h with
 | refl h=>exact h
 | flip _ ih=>exact hs _ _ ih
 | turn _ h _ _=>exact h
theorem Eb.tr {p q:Nat}(h:Eb nb u v x y)(k:Eb nb x y p q):Eb nb u v p q:=by
 induction k with
 | refl _=>exact h
 | flip _ ih=>exact ih.flip
 | turn _ h1 h2 ih=>exact ih.turn h1 h2
theorem Eb.sym (hs:∀i j:Nat,(nb (i:Int)).getLsbD j=true→(nb (j:Int)).getLsbD i=true)(h:Eb nb u v x y):Eb nb x y u v:=by
 induction h with
 | refl h=>exact .refl h
 | flip h ih=>exact (Eb.flip (.refl (hs _ _ (h.adj hs)))).tr ih
 | turn h h1 h2 ih=>exact (Eb.turn (.refl h1) (h.adj hs) (h2.sym hs)).tr ih
def Cl (nb:Int→BS)(u v x:Nat):Prop:=∃y,Eb nb u v x y
theorem Cl.of (h:Eb nb u v x y){z:Nat}(k:Cl nb x y z):Cl nb u v z:=by obtain⟨w,k⟩:=k;exact⟨w,h.tr k⟩
end
abbrev Vs (s:BcS)(x:Nat):Prop:=0<lkI s.la (x:Int)
def IsB (nb:Int→BS)(e:(Nat×Nat)×List Int):Prop:=∃C:BS,e.2=elL C∧∀x,C.getLsbD x=true↔Cl nb e.1.1 e.1.2 x
def szO (O:List ((Nat×Nat)×List Int)):Nat:=(O.map fun e=>e.2.length - 1).sum
structure fN (nb:Int→BS)(A:Nat→Prop)(id:Nat)(frm:Int)(s:BcS):Prop where
 new:¬Vs s id
 gr:∀y,A y→Vs s y
 cn:∀y z,A y→A z→Rc nb A y z
 fi:∀y,Vs s y→¬A y→∀z:Nat,(nb (y:Int)).getLsbD z=true→Vs s z
 pa:(frm = -1∧∀y,¬A y)∨∃p:Nat,frm=p∧A p∧(nb (p:Int)).getLsbD id=true
 atle:∀y:Nat,lkI s.la (y:Int)≤s.la.length
structure mW (nb:Int→BS)(id:Nat)(frm:Int)(s s':BcS):Prop where
 vis:∀y,Vs s y→Vs s' y
 d0:Vs s' id
 d1:∀x,Vs s' x→¬Vs s x→Rc nb (fun y=>¬Vs s y) id x
 d2:∀x,Vs s' x→¬Vs s x→∀y:Nat,(nb (x:Int)).getLsbD y=true→Vs s' y
 old:∀y,Vs s y→lkI s'.la (y:Int)=lkI s.la (y:Int)∧lkI s'.ll (y:Int)=lkI s.ll (y:Int)
 new:∀x,Vs s' x→¬Vs s x→(s.la.length:Int)<lkI s'.la (x:Int)
 atid:lkI s'.la (id:Int)=s.la.length+1
 atle:∀y:Nat,lkI s'.la (y:Int)≤s'.la.length
 lo1:∀x y:Nat,Vs s' x→¬Vs s x→Vs s y→(nb (x:Int)).getLsbD y=true→¬(x=id∧(y:Int)=frm)→lkI s'.ll (id:Int)≤lkI s'.la (y:Int)
 lo2:lkI s'.ll (id:Int)=lkI s'.la (id:Int)∨∃x y:Nat,Vs s' x∧¬Vs s x∧Vs s y∧(nb (x:Int)).getLsbD y=true∧¬(x=id∧(y:Int)=frm)∧lkI s'.ll (id:Int)=lkI s'.la (y:Int)
 lo3:lkI s'.ll (id:Int)≤lkI s'.la (id:Int)
 ex:∃(R:List Nat) (O:List ((Nat×Nat)×List Int)),s'.way=s.way++R∧R.Nodup∧(∀x,x∈R↔(Vs s' x∧¬Vs s x)∧(x=id∨∃p:Nat,frm=p∧Cl nb p id x))∧s'.out=s.out++O.map (·.2) ∧
  (∀e∈O,IsB nb e∧(nb (e.1.1:Int)).getLsbD e.1.2=true∧∀x,Cl nb e.1.1 e.1.2 x→Vs s' x∧¬Vs s x) ∧
  (∀x y:Nat,Vs s' x→¬Vs s x→(nb (x:Int)).getLsbD y=true→(∃p:Nat,frm=p∧Eb nb p id x y)∨∃e∈O,Eb nb e.1.1 e.1.2 x y) ∧
  O.Pairwise (fun e f=>¬Eb nb e.1.1 e.1.2 f.1.1 f.1.2)∧szO O+R.length+s.la.length=s'.la.length
structure fO (nb:Int→BS)(id:Nat)(frm:Int)(s:BcS)(l:List Nat)(t:BcS):Prop where
 vis:∀y,Vs s y→Vs t y
 d0:Vs t id
 d1:∀x,Vs t x→¬Vs s x→Rc nb (fun y=>¬Vs s y) id x
 d2:∀x,Vs t x→¬Vs s x→x≠id→∀y:Nat,(nb (x:Int)).getLsbD y=true→Vs t y
 old:∀y,Vs s y→lkI t.la (y:Int)=lkI s.la (y:Int)∧lkI t.ll (y:Int)=lkI s.ll (y:Int)
 new:∀x,Vs t x→¬Vs s x→(s.la.length:Int)<lkI t.la (x:Int)
 atid:lkI t.la (id:Int)=s.la.length+1
 atle:∀y:Nat,lkI t.la (y:Int)≤t.la.length
 pr:∀y∈l,Vs t y
 lo1:∀x y:Nat,Vs t x→¬Vs s x→Vs s y→(nb (x:Int)).getLsbD y=true→¬(x=id∧(y:Int)=frm)→(x=id→y∈l)→lkI t.ll (id:Int)≤lkI t.la (y:Int)
 lo2:lkI t.ll (id:Int)=lkI t.la (id:Int)∨∃x y:Nat,Vs t x∧¬Vs s x∧Vs s y∧(nb (x:Int)).getLsbD y=true∧¬(x=id∧(y:Int)=frm)∧lkI t.ll (id:Int)=lkI t.la (y:Int)
 lo3:lkI t.ll (id:Int)≤lkI t.la (id:Int)
 ex:∃(R:List Nat) (O:List ((Nat×Nat)×List Int)),t.way=s.way++id::R∧(id::R).Nodup∧(∀x,x∈R↔(Vs t x∧¬Vs s x)∧x≠id∧∃p:Nat,frm=p∧Cl nb p id x)∧t.out=s.out++O.map (·.2) ∧
  (∀e∈O,IsB nb e∧(nb (e.1.1:Int)).getLsbD e.1.2=true∧∀x,Cl nb e.1.1 e.1.2 x→Vs t x∧¬Vs s x) ∧
  (∀x y:Nat,Vs t x→¬Vs s x→x≠id→(nb (x:Int)).getLsbD y=true→(∃p:Nat,frm=p∧Eb nb p id x y)∨∃e∈O,Eb nb e.1.1 e.1.2 x y) ∧
  O.Pairwise (fun e f=>¬Eb nb e.1.1 e.1.2 f.1.1 f.1.2)∧szO O+R.length+1+s.la.length=t.la.length
theorem km {l:List Nat}(h:∀x∈l,x<1024)(n:Nat):((ae l).foldl ins 0).getLsbD n=true↔n∈l:=by
 have key:∀(l:List Nat) (S:BS),(∀x∈l,x<1024)→(((ae l).foldl ins S).getLsbD n=true↔S.getLsbD n=true∨n∈l):=by
  intro l
  induction l with
  | nil=>intro S _;simp[ae]
  | cons x l ih=>
   intro S h
   rw[show ae (x::l)=(x:Int)::ae l from rfl,List.foldl_cons,ih _ fun y hy=>h y (by simp[hy]),de _ (h x (by simp)),List.mem_cons,or_assoc]
 rw[key l 0 h]
 exact⟨fun h=>h.resolve_left (bF n),.inr⟩
theorem a1O {l:List Nat}(h:∀x∈l,x<1024)(hn:l.Nodup):(elL ((ae l).foldl ins 0)).length=l.length:=by
 rw[elL,bC]
 have h1:=ed (ae l) (ae (aj ((ae l).foldl ins 0))) (List.pairwise_map.2 (hn.imp fun h h'=>h (by omega))) fun x hx=>by
  obtain⟨y,hy,rfl⟩:=List.mem_map.1 hx
  exact dh.2 (aL.2 ⟨h y hy,(km h y).2 hy⟩)
 have h2:=ed (ae (aj ((ae l).foldl ins 0))) (ae l) (List.pairwise_map.2 ((eX _).imp fun h h'=>by omega)) fun x hx=>by
  obtain⟨y,hy,rfl⟩:=List.mem_map.1 hx
  exact dh.2 ((km h y).1 (aL.1 hy).2)
 rw[bC,bC] at h1 h2
 omega
theorem kn (O P:List ((Nat×Nat)×List Int)):szO (O++P)=szO O+szO P:=by rw[szO,List.map_append,List.sum_append];rfl
section
variable {nb:Int→BS}{V:BS}{A:Nat→Prop}{id x:Nat}{frm:Int}{s t:BcS}{l:List Nat}
theorem a1P {c:Nat}(hB:BcI V c s)(hid:V.getLsbD id=true)(hP:fN nb A id frm s):fO nb id frm s [] (bcP id s):=by
 have hn:lkI s.la (id:Int)≤0:=by have:=hP.new;omega
 have hlen:=(hB.push hid hn).2
 have ha:∀y:Nat,lkI (bcP id s).la (y:Int)=if y=id then ((s.la.length:Nat)+1:Int) else lkI s.la (y:Int):=fun y=>by
  show lkI (aT s.la (id:Int) ((s.la.length:Nat)+1:Int)) (y:Int)=_
  rw[gH]
  by_cases h:y=id
  ·rw[if_pos h,if_pos (by omega)]
  ·rw[if_neg h,if_neg (by omega)]
 have hl:∀y:Nat,lkI (bcP id s).ll (y:Int)=if y=id then ((s.la.length:Nat)+1:Int) else lkI s.ll (y:Int):=fun y=>by
  show lkI (aT s.ll (id:Int) (lkI (aT s.la (id:Int) ((s.la.length:Nat)+1:Int)) (id:Int))) (y:Int)=_
  rw[gH,gH,if_pos rfl]
  by_cases h:y=id
  ·rw[if_pos h,if_pos (by omega)]
  ·rw[if_neg h,if_neg (by omega)]
 have hv:∀y,Vs (bcP id s) y→¬Vs s y→y=id:=fun y h1 h2=>Classical.byContradiction fun h=>h2 (by have:=ha y;rw[if_neg h] at this;rw[Vs,this] at h1;exact h1)
 have hd:Vs (bcP id s) id:=by rw[Vs,ha,if_pos rfl];omega
 have ne:∀y,Vs s y→y≠id:=fun y h1 h2=>hP.new (h2▸h1)
 refine⟨fun y h=>?_,hd,fun y h1 h2=>?_,fun y h1 h2 h3=>absurd (hv y h1 h2) h3,fun y h=>⟨by rw[ha,if_neg (ne y h)],by rw[hl,if_neg (ne y h)]⟩,fun y h1 h2=>?_,by rw[ha,if_pos rfl],fun y=>?_,fun y h=>(by cases h),fun y z h1 h2 _ _ _ h=>?_,.inl (by rw[ha,hl,if_pos rfl,if_pos rfl]),by rw[ha,hl,if_pos rfl,if_pos rfl];exact Int.le_refl _,?_⟩
 ·rw[Vs,ha,if_neg (ne y h)];exact h
 ·rw[hv y h1 h2];exact .base hP.new
 ·rw[hv y h1 h2,ha,if_pos rfl];omega
 ·rw[ha,hlen]
  have:=hP.atle y
  split <;> omega
 ·have:=h (hv y h1 h2);cases this
 ·refine⟨[],[],rfl,by simp,fun y=>⟨fun h=>(by cases h),fun⟨⟨h1,h2⟩,h3,_⟩=>absurd (hv y h1 h2) h3⟩,by show s.out=_;simp,fun e he=>(by cases he),fun y z h1 h2 h3=>absurd (hv y h1 h2) h3,List.Pairwise.nil,by rw[hlen];simp[szO];omega⟩
theorem a1Q (hs:∀i j:Nat,(nb (i:Int)).getLsbD j=true→(nb (j:Int)).getLsbD i=true)(hi:∀i:Nat,¬(nb (i:Int)).getLsbD i=true){R:Nat→Int→BcS→BcS}(hP:fN nb A id frm s)(hL:fO nb id frm s l t)(hx:(nb (id:Int)).getLsbD x=true)
  (hR:fN nb (fun y=>A y∨y=id) x (id:Int) t→mW nb x (id:Int) t (R x (id:Int) t)):fO nb id frm s (l++[x]) (bcT R id frm t x):=by
 have hxi:x≠id:=fun h=>hi id (h▸hx)
 have ne:∀y,Vs s y→y≠id:=fun y h1 h2=>hP.new (h2▸h1)
 have hid1:id<1024:=aK (hs _ _ hx)
 rw[bcT]
 by_cases hf:(x:Int)=frm
 ·rw[if_pos hf]
  have hxA:A x:=by
   rcases hP.pa with ⟨h1,_⟩|⟨p,h1,h2,_⟩
   ·omega
   ·have:x=p:=by omega
    rw[this];exact h2
  refine⟨hL.vis,hL.d0,hL.d1,hL.d2,hL.old,hL.new,hL.atid,hL.atle,fun y hy=>?_,fun y z h1 h2 h3 h4 h5 h6=>hL.lo1 y z h1 h2 h3 h4 h5 fun h7=>?_,hL.lo2,hL.lo3,hL.ex⟩
  ·rcases List.mem_append.1 hy with hy|hy
   ·exact hL.pr y hy
   ·rw[List.mem_singleton.1 hy];exact hL.vis x (hP.gr x hxA)
  ·rcases List.mem_append.1 (h6 h7) with h8|h8
   ·exact h8
   ·exact absurd ⟨h7,by rw[List.mem_singleton.1 h8];exact hf⟩ h5
 rw[if_neg hf]
 by_cases hv:0<lkI t.la (x:Int)
 ·rw[if_pos hv]
  have hl:∀y:Nat,lkI (bcL id x t).ll (y:Int)=if y=id then min (lkI t.ll (id:Int)) (lkI t.la (x:Int)) else lkI t.ll (y:Int):=fun y=>by
   show lkI (aT t.ll (id:Int) (min (lkI t.ll (id:Int)) (lkI t.la (x:Int)))) (y:Int)=_
   rw[gH]
   by_cases h:y=id
   ·rw[if_pos h,if_pos (by omega)]
   ·rw[if_neg h,if_neg (by omega)]
  have hli:lkI (bcL id x t).ll (id:Int)=min (lkI t.ll (id:Int)) (lkI t.la (x:Int)):=by rw[hl,if_pos rfl]
  refine⟨hL.vis,hL.d0,hL.d1,hL.d2,fun y h=>⟨(hL.old y h).1,by rw[hl,if_neg (ne y h)];exact (hL.old y h).2⟩,hL.new,hL.atid,hL.atle,fun y hy=>?_,fun y z h1 h2 h3 h4 h5 h6=>?_,?_,?_,hL.ex⟩
  ·rcases List.mem_append.1 hy with hy|hy
   ·exact hL.pr y hy
   ·rw[List.mem_singleton.1 hy];exact hv
  ·show lkI (bcL id x t).ll (id:Int)≤lkI t.la (z:Int)
   rw[hli]
   by_cases h7:y=id∧z=x
   ·rw[h7.2];omega
   ·have:=hL.lo1 y z h1 h2 h3 h4 h5 fun h8=>by
     rcases List.mem_append.1 (h6 h8) with h9|h9
     ·exact h9
     ·exact absurd ⟨h8,List.mem_singleton.1 h9⟩ h7
    omega
  ·show lkI (bcL id x t).ll (id:Int)=lkI t.la (id:Int)∨∃y z:Nat,_∧_∧_∧_∧_∧lkI (bcL id x t).ll (id:Int)=lkI t.la (z:Int)
   rw[hli]
   by_cases hm:lkI t.ll (id:Int)≤lkI t.la (x:Int)
   ·rw[Int.min_eq_left hm];exact hL.lo2
   ·rw[Int.min_eq_right (by omega)]
    have h3:=hL.lo3
    have h4:=hL.atid
    have hxs:Vs s x:=Classical.byContradiction fun h=>by have:=hL.new x hv h;omega
    exact .inr ⟨id,x,hL.d0,hP.new,hxs,hx,fun h=>hf h.2,rfl⟩
  ·show lkI (bcL id x t).ll (id:Int)≤lkI t.la (id:Int)
   rw[hli]
   have:=hL.lo3
   omega
 rw[if_neg hv]
 have hpre:fN nb (fun y=>A y∨y=id) x (id:Int) t:=by
  have toId:∀y,A y→Rc nb (fun y=>A y∨y=id) y id:=fun y hy=>by
   rcases hP.pa with ⟨_,h1⟩|⟨p,_,h2,h3⟩
   ·exact absurd hy (h1 y)
   ·exact ((hP.cn y p hy h2).mono fun z hz=>.inl hz).step h3 (.inr rfl)
  refine⟨hv,fun y hy=>?_,fun y z hy hz=>?_,fun y h1 h2 z h3=>?_,.inr ⟨id,rfl,.inr rfl,hx⟩,hL.atle⟩
  ·rcases hy with hy|rfl
   ·exact hL.vis y (hP.gr y hy)
   ·exact hL.d0
  ·rcases hy with hy|rfl <;> rcases hz with hz|rfl
   ·exact (hP.cn y z hy hz).mono fun w hw=>.inl hw
   ·exact toId y hy
   ·exact (toId z hz).sym hs
   ·exact .base (.inr rfl)
  ·by_cases hys:Vs s y
   ·exact hL.vis z (hP.fi y hys (fun h=>h2 (.inl h)) z h3)
   ·exact hL.d2 y h1 hys (fun h=>h2 (.inr h)) z h3
 have r:=hR hpre
 generalize R x (id:Int) t=t2 at r
 have nbD:∀y z:Nat,Vs t2 y→¬Vs t y→(nb (y:Int)).getLsbD z=true→(Vs t2 z∧¬Vs t z)∨A z∨z=id:=fun y z h1 h2 h3=>by
  by_cases hz:Vs t z
  ·exact .inr (Classical.byContradiction fun h=>h2 (hpre.fi z hz h y (hs _ _ h3)))
  ·exact .inl ⟨r.d2 y h1 h2 z h3,hz⟩
 have laid:lkI t2.la (id:Int)=s.la.length+1:=by rw[(r.old id hL.d0).1,hL.atid]
 have llid:lkI t2.ll (id:Int)=lkI t.ll (id:Int):=(r.old id hL.d0).2
 have laA:∀z,Vs s z→lkI t2.la (z:Int)=lkI s.la (z:Int):=fun z hz=>by rw[(r.old z (hL.vis z hz)).1,(hL.old z hz).1]
 have hml:∀y:Nat,lkI (bcM id x t2).ll (y:Int)=if y=id then min (lkI t2.ll (id:Int)) (lkI t2.ll (x:Int)) else lkI t2.ll (y:Int):=fun y=>by
  show lkI (aT t2.ll (id:Int) (min (lkI t2.ll (id:Int)) (lkI t2.ll (x:Int)))) (y:Int)=_
  rw[gH]
  by_cases h:y=id
  ·rw[if_pos h,if_pos (by omega)]
  ·rw[if_neg h,if_neg (by omega)]
 have hmx:lkI (bcM id x t2).ll (x:Int)=lkI t2.ll (x:Int):=by rw[hml,if_neg hxi]
 have hmi:lkI (bcM id x t2).ll (id:Int)=min (lkI t.ll (id:Int)) (lkI t2.ll (x:Int)):=by rw[hml,if_pos rfl,llid]
 have hcd:lkI t2.la (id:Int)≤lkI t2.ll (x:Int)∨∃y z:Nat,Vs t2 y∧¬Vs t y∧A z∧(nb (y:Int)).getLsbD z=true∧lkI t2.ll (x:Int)=lkI t2.la (z:Int):=by
  rcases r.lo2 with h|⟨y,z,h1,h2,h3,h4,h5,h6⟩
  ·have h7:=r.atid
   have h8:=hL.atle id
   have h9:=hL.atid
   exact .inl (by omega)
  ·rcases nbD y z h1 h2 h4 with h7|h7|h7
   ·exact absurd h3 h7.2
   ·exact .inr ⟨y,z,h1,h2,h7,h4,h6⟩
   ·exact .inl (by rw[h6,h7];exact Int.le_refl _)
 have hook:∀y z:Nat,Vs t2 y→¬Vs t y→A z→(nb (y:Int)).getLsbD z=true→lkI t2.ll (x:Int)<lkI t2.la (id:Int):=fun y z h1 h2 h3 h4=>by
  have hz:=hP.gr z h3
  have h5:=r.lo1 y z h1 h2 (hL.vis z hz) h4 fun h=>ne z hz (by have:=h.2;omega)
  have h6:=laA z hz
  have h7:=hP.atle z
  omega
 have lenle:(s.la.length:Int)+1≤t.la.length:=by rw[← hL.atid];exact hL.atle id
 have rx:Rc nb (fun y=>¬Vs s y) id x:=.step (.base hP.new) hx fun h=>hv (hL.vis x h)
 have both:∀t4:BcS,t4.la=t2.la→t4.ll=(bcM id x t2).ll →
   (∃(R:List Nat) (O:List ((Nat×Nat)×List Int)),t4.way=s.way++id::R∧(id::R).Nodup∧(∀x,x∈R↔(Vs t4 x∧¬Vs s x)∧x≠id∧∃p:Nat,frm=p∧Cl nb p id x)∧t4.out=s.out++O.map (·.2) ∧
    (∀e∈O,IsB nb e∧(nb (e.1.1:Int)).getLsbD e.1.2=true∧∀x,Cl nb e.1.1 e.1.2 x→Vs t4 x∧¬Vs s x) ∧
    (∀x y:Nat,Vs t4 x→¬Vs s x→x≠id→(nb (x:Int)).getLsbD y=true→(∃p:Nat,frm=p∧Eb nb p id x y)∨∃e∈O,Eb nb e.1.1 e.1.2 x y) ∧
    O.Pairwise (fun e f=>¬Eb nb e.1.1 e.1.2 f.1.1 f.1.2)∧szO O+R.length+1+s.la.length=t4.la.length)→fO nb id frm s (l++[x]) t4:=fun t4 e1 e2 hex=>by
  have hV4:∀y,Vs t4 y↔Vs t2 y:=fun y=>by rw[Vs,Vs,e1]
  refine⟨fun y h=>(hV4 y).2 (r.vis y (hL.vis y h)),(hV4 id).2 (r.vis id hL.d0),fun y h1 h2=>?_,fun y h1 h2 h3 z h4=>?_,fun y h=>⟨by rw[e1];exact laA y h,by rw[e2,hml,if_neg (ne y h),(r.old y (hL.vis y h)).2,(hL.old y h).2]⟩,fun y h1 h2=>?_,by rw[e1];exact laid,fun y=>by rw[e1];exact r.atle y,fun y hy=>?_,fun y z h1 h2 h3 h4 h5 h6=>?_,?_,?_,hex⟩
  ·by_cases hy:Vs t y
   ·exact hL.d1 y hy h2
   ·exact rx.tr ((r.d1 y ((hV4 y).1 h1) hy).mono fun z hz h=>hz (hL.vis z h))
  ·rw[hV4]
   by_cases hy:Vs t y
   ·exact r.vis z (hL.d2 y hy h2 h3 z h4)
   ·exact r.d2 y ((hV4 y).1 h1) hy z h4
  ·rw[e1]
   by_cases hy:Vs t y
   ·rw[(r.old y hy).1];exact hL.new y hy h2
   ·have:=r.new y ((hV4 y).1 h1) hy;omega
  ·rw[hV4]
   rcases List.mem_append.1 hy with hy|hy
   ·exact r.vis y (hL.pr y hy)
   ·rw[List.mem_singleton.1 hy];exact r.d0
  ·rw[e1,e2,hmi]
   by_cases hy:Vs t y
   ·have h7:=hL.lo1 y z hy h2 h3 h4 h5 fun h8=>by
     rcases List.mem_append.1 (h6 h8) with h9|h9
     ·exact h9
     ·rw[List.mem_singleton.1 h9] at h3;exact absurd (hL.vis x h3) hv
    rw[(r.old z (hL.vis z h3)).1]
    clear hcd hex;omega
   ·have h7:=r.lo1 y z ((hV4 y).1 h1) hy (hL.vis z h3) h4 fun h8=>ne z h3 (by have:=h8.2;omega)
    clear hcd hex;omega
  ·rw[e1,e2,hmi]
   by_cases hm:lkI t.ll (id:Int)≤lkI t2.ll (x:Int)
   ·rw[Int.min_eq_left hm]
    rcases hL.lo2 with h|⟨y,z,h1,h2,h3,h4,h5,h6⟩
    ·exact .inl (by rw[laid,h,hL.atid])
    ·exact .inr ⟨y,z,(hV4 y).2 (r.vis y h1),h2,h3,h4,h5,by rw[h6,(r.old z (hL.vis z h3)).1]⟩
   ·rw[Int.min_eq_right (by omega)]
    have h7:=hL.lo3
    have h8:=hL.atid
    rcases hcd with h|⟨y,z,h1,h2,h3,h4,h5⟩
    ·omega
    ·exact .inr ⟨y,z,(hV4 y).2 h1,fun h=>h2 (hL.vis y h),hP.gr z h3,h4,fun h=>h2 (h.1▸hL.d0),h5⟩
  ·rw[e1,e2,hmi,laid]
   have h7:=hL.lo3
   have h8:=hL.atid
   omega
 obtain⟨R1,O1,a1,a2,a3,a4,a5,a6,a7,a8⟩:=hL.ex
 obtain⟨R2,O2,b1,b2,b3,b4,b5,b6,b7,b8⟩:=r.ex
 have b3':∀y,y∈R2↔(Vs t2 y∧¬Vs t y)∧Cl nb id x y:=fun y=>by
  rw[b3]
  constructor
  ·rintro⟨h1,h2|⟨p,h2,h3⟩⟩
   ·exact⟨h1,by rw[h2];exact⟨id,.flip (.refl hx)⟩⟩
   ·have:id=p:=by omega
    exact⟨h1,by rw[this];exact h3⟩
  ·rintro⟨h1,h2⟩
   exact⟨h1,.inr ⟨id,rfl,h2⟩⟩
 have b6':∀y z:Nat,Vs t2 y→¬Vs t y→(nb (y:Int)).getLsbD z=true→Eb nb id x y z∨∃e∈O2,Eb nb e.1.1 e.1.2 y z:=fun y z h1 h2 h3=>by
  rcases b6 y z h1 h2 h3 with ⟨p,h4,h5⟩|h4
  ·have:id=p:=by omega
   exact .inl (by rw[this];exact h5)
  ·exact .inr h4
 have inD:∀y,Vs t2 y→¬Vs t y→¬Vs s y:=fun y _ h h'=>h (hL.vis y h')
 have R2lt:∀y∈R2,y<1024:=fun y hy=>by
  obtain⟨⟨h1,h2⟩,_⟩:=(b3' y).1 hy
  exact (r.d1 y h1 h2).lt (aK hx)
 have R2ne:id ∉ R2:=fun h=>((b3' id).1 h).1.2 hL.d0
 have hO12:∀e∈O1,∀f:Nat×Nat,Vs t2 f.1→¬Vs t f.1→¬Eb nb e.1.1 e.1.2 f.1 f.2:=fun e he f h1 h2 h3=>h2 ((a5 e he).2.2 f.1 ⟨_,h3⟩).1
 have hO2f:∀f∈O2,Vs t2 f.1.1∧¬Vs t f.1.1:=fun f hf=>(b5 f hf).2.2 f.1.1 ⟨_,.refl (b5 f hf).2.1⟩
 by_cases hc:lkI (bcM id x t2).la (id:Int)≤lkI (bcM id x t2).ll (x:Int)
 ·-- popped
  rw[if_pos hc]
  have hc':lkI t2.la (id:Int)≤lkI t2.ll (x:Int):=by rw[hmx] at hc;exact hc
  have nbD':∀y z:Nat,Vs t2 y→¬Vs t y→(nb (y:Int)).getLsbD z=true→(Vs t2 z∧¬Vs t z)∨z=id:=fun y z h1 h2 h3=>by
   rcases nbD y z h1 h2 h3 with h|h|h
   ·exact .inl h
   ·have:=hook y z h1 h2 h h3;omega
   ·exact .inr h
  have inside:∀y z,Eb nb id x y z→((Vs t2 y∧¬Vs t y)∨y=id)∧((Vs t2 z∧¬Vs t z)∨z=id):=fun y z h=>by
   induction h with
   | refl _=>exact⟨.inr rfl,.inl ⟨r.d0,hv⟩⟩
   | flip _ ih=>exact⟨ih.2,ih.1⟩
   | @turn y z w h1 h2 h3 ih=>
    refine⟨ih.1,?_⟩
    rcases ih.1 with h4|h4
    ·exact nbD' y w h4.1 h4.2 h2
    ·subst h4
     rcases ih.2 with h5|h5
     ·left
      have:∀q,Rc nb (fun w=>w≠y) z q→Vs t2 q∧¬Vs t q:=fun q hq=>by
       induction hq with
       | base _=>exact h5
       | step _ h6 h7 ih2=>exact (nbD' _ _ ih2.1 ih2.2 h6).resolve_right h7
      exact this w h3
     ·exact absurd h5 h3.src
  have insideC:∀y,Cl nb id x y→(Vs t2 y∧¬Vs t y)∨y=id:=fun y ⟨z,h⟩=>(inside y z h).1
  have hw:t2.way.drop t.way.length=R2:=by rw[b1,List.drop_left]
  have hw2:t2.way.take t.way.length=t.way:=by rw[b1,List.take_left]
  have hCm:∀y,y∈R2++[id]↔Cl nb id x y:=fun y=>by
   rw[List.mem_append,List.mem_singleton,b3']
   constructor
   ·rintro (h|h)
    ·exact h.2
    ·rw[h];exact⟨x,.refl hx⟩
   ·intro h
    rcases insideC y h with h1|h1
    ·exact .inl ⟨h1,h⟩
    ·exact .inr h1
  have hlt:∀y∈R2++[id],y<1024:=fun y hy=>(List.mem_append.1 hy).elim (R2lt y) fun h=>by rw[List.mem_singleton.1 h];exact hid1
  obtain⟨o,ho⟩:=eqX (elL ((ae (R2++[id])).foldl ins 0))
  have hIs:IsB nb ((id,x),o):=⟨_,ho,fun y=>(km hlt y).trans (hCm y)⟩
  have hol:o.length=R2.length+1:=by
   rw[ho,a1O hlt (List.nodup_append.2 ⟨b2,List.nodup_cons.2 ⟨by simp,List.nodup_nil⟩,fun p hp q hq hpq=>by rw[List.mem_singleton] at hq;subst hq;subst hpq;exact R2ne hp⟩),List.length_append,List.length_singleton]
  have hnp:∀p:Nat,frm=p→∀y z,Vs t2 y→¬Vs t y→(nb (y:Int)).getLsbD z=true→¬Eb nb p id y z:=fun p hp y z h1 h2 h3 h4=>by
   have hpA:Vs s p:=by
    rcases hP.pa with ⟨h5,_⟩|⟨q,h5,h6,_⟩
    ·omega
    ·have:p=q:=by omega
     rw[this];exact hP.gr q h6
   have h5:=h4.sym hs
   rcases b6' y z h1 h2 h3 with h6|⟨e,he,h6⟩
   ·rcases insideC p ⟨id,h6.tr h5⟩ with h7|h7
    ·exact h7.2 (hL.vis p hpA)
    ·exact ne p hpA h7
   ·exact ((b5 e he).2.2 p ⟨id,h6.tr h5⟩).2 (hL.vis p hpA)
  refine both _ rfl rfl ⟨R1,O1++(O2++[((id,x),o)]),?_,a2,fun y=>?_,?_,fun e he=>?_,fun y z h1 h2 h3 h4=>?_,?_,?_⟩
  ·show t2.way.take t.way.length=_
   rw[hw2,a1]
  ·rw[a3]
   constructor
   ·rintro⟨⟨h1,h2⟩,h3⟩
    exact⟨⟨r.vis y h1,h2⟩,h3⟩
   ·rintro⟨⟨h1,h2⟩,h3,p,h4,z,h5⟩
    refine⟨⟨Classical.byContradiction fun h=>?_,h2⟩,h3,p,h4,z,h5⟩
    exact hnp p h4 y z h1 h (h5.adj hs) h5
  ·show t2.out++[elL ((ae (t2.way.drop t.way.length++[id])).foldl ins 0)]=_
   rw[hw,← ho,b4,a4,List.map_append,List.map_append,List.append_assoc,List.append_assoc];rfl
  ·rcases List.mem_append.1 he with he|he
   ·obtain⟨h1,h2,h3⟩:=a5 e he
    exact⟨h1,h2,fun y hy=>⟨r.vis y (h3 y hy).1,(h3 y hy).2⟩⟩
   ·rcases List.mem_append.1 he with he|he
    ·obtain⟨h1,h2,h3⟩:=b5 e he
     exact⟨h1,h2,fun y hy=>⟨(h3 y hy).1,inD y (h3 y hy).1 (h3 y hy).2⟩⟩
    ·rw[List.mem_singleton.1 he]
     refine⟨hIs,hx,fun y hy=>?_⟩
     rcases insideC y hy with h1|h1
     ·exact⟨h1.1,inD y h1.1 h1.2⟩
     ·rw[h1];exact⟨r.vis id hL.d0,hP.new⟩
  ·by_cases hy:Vs t y
   ·rcases a6 y z hy h2 h3 h4 with h|⟨e,he,h⟩
    ·exact .inl h
    ·exact .inr ⟨e,List.mem_append.2 (.inl he),h⟩
   ·right
    rcases b6' y z h1 hy h4 with h|⟨e,he,h⟩
    ·exact⟨((id,x),o),by simp,h⟩
    ·exact⟨e,List.mem_append.2 (.inr (List.mem_append.2 (.inl he))),h⟩
  ·refine List.pairwise_append.2 ⟨a7,List.pairwise_append.2 ⟨b7,List.pairwise_singleton _ _,fun e he f hf h=>?_⟩,fun e he f hf h=>?_⟩
   ·rw[List.mem_singleton.1 hf] at h
    exact ((b5 e he).2.2 id ⟨_,h⟩).2 hL.d0
   ·rcases List.mem_append.1 hf with hf|hf
    ·exact hO12 e he f.1 (hO2f f hf).1 (hO2f f hf).2 h
    ·rw[List.mem_singleton.1 hf] at h
     exact hO12 e he (x,id) r.d0 hv h.flip
  ·show szO (O1++(O2++[((id,x),o)]))+R1.length+1+s.la.length=t2.la.length
   have h1:szO [((id,x),o)]=R2.length:=by rw[szO];simp[hol]
   rw[kn,kn,h1]
   omega
 ·-- kept
  rw[if_neg hc]
  have hc':¬lkI t2.la (id:Int)≤lkI t2.ll (x:Int):=by rw[hmx] at hc;exact hc
  obtain⟨y0,z0,g1,g2,g3,g4,_⟩:=hcd.resolve_left hc'
  obtain⟨p,hp1,hp2,hp3⟩:∃p:Nat,frm=p∧A p∧(nb (p:Int)).getLsbD id=true:=by
   rcases hP.pa with ⟨_,h⟩|h
   ·exact absurd g3 (h z0)
   ·exact h
  have hpx:Eb nb p id id x:=by
   refine Eb.turn (.flip (.refl hp3)) hx ?_
   have h1:Rc nb (fun w=>w≠id) p z0:=(hP.cn p z0 hp2 g3).mono fun w hw=>ne w (hP.gr w hw)
   have h2:Rc nb (fun w=>w≠id) x y0:=(r.d1 y0 g1 g2).mono fun w hw h=>hw (h▸hL.d0)
   exact (h1.step (hs _ _ g4) (fun h=>g2 (h▸hL.d0))).tr (h2.sym hs)
  have hcl:∀y,Cl nb p id y↔Cl nb id x y:=fun y=>⟨fun h=>Cl.of (hpx.sym hs) h,fun h=>Cl.of hpx h⟩
  have hpf:∀{q:Nat},frm=q→q=p:=fun {q} h=>by omega
  refine both _ rfl rfl ⟨R1++R2,O1++O2,?_,?_,fun y=>?_,?_,fun e he=>?_,fun y z h1 h2 h3 h4=>?_,?_,?_⟩
  ·show t2.way=_
   rw[b1,a1,List.append_assoc];rfl
  ·rw[← List.cons_append]
   refine List.nodup_append.2 ⟨a2,b2,fun q hq w hw hqw=>?_⟩
   subst hqw
   have h1:=((b3' q).1 hw).1
   rcases List.mem_cons.1 hq with h2|h2
   ·exact R2ne (h2▸hw)
   ·exact h1.2 ((a3 q).1 h2).1.1
  ·rw[List.mem_append,a3,b3']
   constructor
   ·rintro (⟨⟨h1,h2⟩,h3⟩|⟨⟨h1,h2⟩,h3⟩)
    ·exact⟨⟨r.vis y h1,h2⟩,h3⟩
    ·exact⟨⟨h1,inD y h1 h2⟩,fun h=>h2 (h▸hL.d0),p,hp1,(hcl y).2 h3⟩
   ·rintro⟨⟨h1,h2⟩,h3,q,h4,h5⟩
    by_cases hy:Vs t y
    ·exact .inl ⟨⟨hy,h2⟩,h3,q,h4,h5⟩
    ·exact .inr ⟨⟨h1,hy⟩,(hcl y).1 (hpf h4▸h5)⟩
  ·show t2.out=_
   rw[b4,a4,List.map_append,List.append_assoc]
  ·rcases List.mem_append.1 he with he|he
   ·obtain⟨h1,h2,h3⟩:=a5 e he
    exact⟨h1,h2,fun y hy=>⟨r.vis y (h3 y hy).1,(h3 y hy).2⟩⟩
   ·obtain⟨h1,h2,h3⟩:=b5 e he
    exact⟨h1,h2,fun y hy=>⟨(h3 y hy).1,inD y (h3 y hy).1 (h3 y hy).2⟩⟩
  ·by_cases hy:Vs t y
   ·rcases a6 y z hy h2 h3 h4 with h|⟨e,he,h⟩
    ·exact .inl h
    ·exact .inr ⟨e,List.mem_append.2 (.inl he),h⟩
   ·rcases b6' y z h1 hy h4 with h|⟨e,he,h⟩
    ·exact .inl ⟨p,hp1,hpx.tr h⟩
    ·exact .inr ⟨e,List.mem_append.2 (.inr he),h⟩
  ·refine List.pairwise_append.2 ⟨a7,b7,fun e he f hf h=>hO12 e he f.1 (hO2f f hf).1 (hO2f f hf).2 h⟩
  ·show szO (O1++O2)+(R1++R2).length+1+s.la.length=t2.la.length
   rw[kn,List.length_append]
   omega
theorem a1R (hs:∀i j:Nat,(nb (i:Int)).getLsbD j=true→(nb (j:Int)).getLsbD i=true)(hi:∀i:Nat,¬(nb (i:Int)).getLsbD i=true)(hP:fN nb A id frm s)(hL:fO nb id frm s (aj (nb (id:Int))) t):mW nb id frm s t:=by
 have hel:∀y:Nat,(nb (id:Int)).getLsbD y=true→y∈aj (nb (id:Int)):=fun y h=>aL.2 ⟨aK h,h⟩
 obtain⟨R,O,a1,a2,a3,a4,a5,a6,a7,a8⟩:=hL.ex
 refine⟨hL.vis,hL.d0,hL.d1,fun x h1 h2 y h3=>?_,hL.old,hL.new,hL.atid,hL.atle,fun x y h1 h2 h3 h4 h5=>hL.lo1 x y h1 h2 h3 h4 h5 fun h=>hel y (h▸h4),hL.lo2,hL.lo3,id::R,O,a1,a2,fun x=>?_,a4,a5,fun x y h1 h2 h3=>?_,a7,by rw[List.length_cons];omega⟩
 ·by_cases hx:x=id
  ·exact hL.pr y (hel y (hx▸h3))
  ·exact hL.d2 x h1 h2 hx y h3
 ·rw[List.mem_cons,a3]
  constructor
  ·rintro (rfl|⟨h1,_,h2⟩)
   ·exact⟨⟨hL.d0,hP.new⟩,.inl rfl⟩
   ·exact⟨h1,.inr h2⟩
  ·rintro⟨h1,h2⟩
   by_cases hx:x=id
   ·exact .inl hx
   ·exact .inr ⟨h1,hx,h2.resolve_left hx⟩
 ·by_cases hx:x=id
  ·subst hx
   by_cases hy:Vs s y
   ·have hyA:A y:=Classical.byContradiction fun h=>hP.new (hP.fi y hy h x (hs _ _ h3))
    rcases hP.pa with ⟨_,h4⟩|⟨p,h4,h5,h6⟩
    ·exact absurd hyA (h4 y)
    ·exact .inl ⟨p,h4,Eb.turn (.flip (.refl h6)) h3 ((hP.cn p y h5 hyA).mono fun w hw h=>hP.new (h▸hP.gr w hw))⟩
   ·have hyt:=hL.pr y (hel y h3)
    have hyx:y≠x:=fun h=>hi x (h▸h3)
    rcases a6 y x hyt hy hyx (hs _ _ h3) with ⟨p,h4,h5⟩|⟨e,he,h5⟩
    ·exact .inl ⟨p,h4,h5.flip⟩
    ·exact .inr ⟨e,he,h5.flip⟩
  ·exact a6 x y h1 h2 hx h3
end
end Go.Mono
namespace Go.Mono
open Go Go.Proofs Go.RowKit Go.Gr
theorem a1S {nb:Int→BS}{V:BS}(hV:∀i j:Nat,(nb (i:Int)).getLsbD j=true→V.getLsbD j=true)(hs:∀i j:Nat,(nb (i:Int)).getLsbD j=true→(nb (j:Int)).getLsbD i=true)(hi:∀i:Nat,¬(nb (i:Int)).getLsbD i=true) :
  ∀(f:Nat) (id:Nat) (frm:Int) (s:BcS) (A:Nat→Prop) (c:Nat),BcI V c s→V.getLsbD id=true→fN nb A id frm s→unv V s.la≤f→mW nb id frm s (bcF nb f id frm s):=by
 intro f
 induction f with
 | zero=>
  intro id frm s A c h hid hP hu
  exfalso
  have hn:lkI s.la (id:Int)≤0:=by have:=hP.new;omega
  have hm:id∈(aj V).filter fun v:Nat=>decide (lkI s.la (v:Int)≤0):=List.mem_filter.2 ⟨aL.2 ⟨aK hid,hid⟩,decide_eq_true hn⟩
  have:=List.length_pos_of_mem hm
  rw[unv] at hu
  omega
 | succ f ih=>
  intro id frm s A c h hid hP hu
  have hn:lkI s.la (id:Int)≤0:=by have:=hP.new;omega
  obtain⟨p1,p2⟩:=h.push hid hn
  obtain⟨q1,q2,q3⟩:=mK h hid hn
  have key:∀(l2 l1:List Nat) (t:BcS),(∀x∈l2,(nb (id:Int)).getLsbD x=true)→BcQ V c (bcP id s) t→fO nb id frm s l1 t→fO nb id frm s (l1++l2) (l2.foldl (bcT (bcF nb f) id frm) t):=by
   intro l2
   induction l2 with
   | nil=>intro l1 t _ _ hL;rw[List.append_nil];exact hL
   | cons x l2 ihl=>
    intro l1 t hl hq hL
    have hxa:=hl x (List.mem_cons_self ..)
    have hle:unv V t.la≤f:=by have:=jZ (V:=V) hq.m;omega
    have h1:=a1Q hs hi (R:=bcF nb f) hP hL hxa fun pre=>ih x (id:Int) t _ c hq.i (hV id x hxa) pre hle
    have h2:=mJ (frm:=frm) (next:=x) hid hq fun hx=>kb hV f x (id:Int) t hq.i (hV id x hxa) hx hle
    have h3:=ihl (l1++[x]) _ (fun y hy=>hl y (List.mem_cons_of_mem _ hy)) h2 h1
    rw[List.append_assoc] at h3
    exact h3
  have h4:=key (aj (nb (id:Int))) [] (bcP id s) (fun x hx=>(aL.1 hx).2) (BcQ.rfl' p1) (a1P h hid hP)
  rw[List.nil_append] at h4
  exact a1R hs hi hP h4
open Classical in
structure OLp (nb:Int→BS)(V:BS)(c:Nat)(l:List Nat)(t:BcS):Prop where
 bi:BcI V c t
 cl:∀y,Vs t y→∀z:Nat,(nb (y:Int)).getLsbD z=true→Vs t z
 pr:∀y∈l,Vs t y
 frm:∀y,Vs t y→∃u∈l,Rc nb (fun _=>True) u y
 atle:∀y:Nat,lkI t.la (y:Int)≤t.la.length
 ex:∃(O:List ((Nat×Nat)×List Int)) (k:Nat),t.out.Perm (O.map (·.2)++(l.filter fun v:Nat=>decide (nb (v:Int)=0)).map fun v:Nat=>[(v:Int)]) ∧
  (∀e∈O,IsB nb e∧(nb (e.1.1:Int)).getLsbD e.1.2=true)∧(∀e∈O,∀x,Cl nb e.1.1 e.1.2 x→Vs t x) ∧
  (∀x y:Nat,Vs t x→(nb (x:Int)).getLsbD y=true→∃e∈O,Eb nb e.1.1 e.1.2 x y) ∧
  O.Pairwise (fun e f=>¬Eb nb e.1.1 e.1.2 f.1.1 f.1.2)∧szO O+k=t.la.length∧k=l.countP fun v=>decide (∀u,u<v→¬Rc nb (fun _=>True) v u)
section
variable {nb:Int→BS}{V:BS}{c:Nat}{l:List Nat}{t:BcS}
theorem Rc.cl {P:Nat→Prop}(hP:∀y,P y→∀z:Nat,(nb (y:Int)).getLsbD z=true→P z){a x:Nat}(h:Rc nb (fun _=>True) a x)(ha:P a):P x:=by
 induction h with
 | base _=>exact ha
 | step _ h1 _ ih=>exact hP _ ih _ h1
open Classical in
theorem a1T (hV:∀i j:Nat,(nb (i:Int)).getLsbD j=true→V.getLsbD j=true)(hs:∀i j:Nat,(nb (i:Int)).getLsbD j=true→(nb (j:Int)).getLsbD i=true)(hi:∀i:Nat,¬(nb (i:Int)).getLsbD i=true){id:Nat}(hid:V.getLsbD id=true)
  (hlt:∀y,V.getLsbD y=true→y<id→y∈l) (hgt:∀y∈l,y<id) (hL:OLp nb V c l t):OLp nb V (c+1) (l++[id]) (bcN nb (card V) t id):=by
 have hsy:∀{a b:Nat},Rc nb (fun _=>True) a b→Rc nb (fun _=>True) b a:=fun h=>h.sym hs
 have hfirst:¬Vs t id↔∀u,u<id→¬Rc nb (fun _=>True) id u:=by
  constructor
  ·intro h u hu hr
   have huV:V.getLsbD u=true:=by
    cases hr with
    | base _=>exact hid
    | step _ h1 _=>exact hV _ _ h1
   exact h (Rc.cl hL.cl (hsy hr) (hL.pr u (hlt u huV hu)))
  ·intro h hv
   obtain⟨u,hu,hr⟩:=hL.frm id hv
   exact h u (hgt u hu) (hsy hr)
 have hb1:=sq (nb:=nb) (id:=id) hV hL.bi hid
 obtain⟨O,k,a1,a2,a3,a4,a5,a6,a7⟩:=hL.ex
 obtain⟨O',k',b0,bp,bq,bf,ba,b1,b2,b3,b4,b5,b6,b7⟩:∃(O':List ((Nat×Nat)×List Int)) (k':Nat),
   (∀y,Vs (bP nb (card V) t id) y→∀z:Nat,(nb (y:Int)).getLsbD z=true→Vs (bP nb (card V) t id) z)∧(∀y∈l++[id],Vs (bP nb (card V) t id) y)∧(∀y,Vs t y→Vs (bP nb (card V) t id) y)∧(∀y,Vs (bP nb (card V) t id) y→∃u∈l++[id],Rc nb (fun _=>True) u y)∧(∀y:Nat,lkI (bP nb (card V) t id).la (y:Int)≤(bP nb (card V) t id).la.length) ∧
   (bP nb (card V) t id).out=t.out++O'.map (·.2)∧(∀e∈O',IsB nb e∧(nb (e.1.1:Int)).getLsbD e.1.2=true)∧(∀e∈O',∀x,Cl nb e.1.1 e.1.2 x→Vs (bP nb (card V) t id) x∧¬Vs t x) ∧
   (∀x y:Nat,Vs (bP nb (card V) t id) x→¬Vs t x→(nb (x:Int)).getLsbD y=true→∃e∈O',Eb nb e.1.1 e.1.2 x y)∧O'.Pairwise (fun e f=>¬Eb nb e.1.1 e.1.2 f.1.1 f.1.2) ∧
   szO O'+k'+t.la.length=(bP nb (card V) t id).la.length∧k'=if ¬Vs t id then 1 else 0:=by
  by_cases hv:Vs t id
  ·have hz:bP nb (card V) t id=t:=by rw[bP,if_neg (by have:0<lkI t.la (id:Int):=hv;omega)]
   rw[hz]
   refine⟨[],0,hL.cl,fun y hy=>?_,fun y h=>h,fun y hy=>?_,hL.atle,by simp,(fun e he=>by cases he),(fun e he=>by cases he),fun x y h h'=>absurd h h',List.Pairwise.nil,by simp[szO],by rw[if_neg (fun h=>h hv)]⟩
   ·rcases List.mem_append.1 hy with hy|hy
    ·exact hL.pr y hy
    ·rw[List.mem_singleton.1 hy];exact hv
   ·obtain⟨u,hu,hr⟩:=hL.frm y hy
    exact⟨u,List.mem_append.2 (.inl hu),hr⟩
  ·have hz0:lkI t.la (id:Int)=0:=by have h1:=(hL.bi.ar (id:Int)).1;have:¬0<lkI t.la (id:Int):=hv;omega
   have hpre:fN nb (fun _=>False) id (-1) t:=⟨hv,(fun y h=>h.elim),(fun y z h=>h.elim),fun y h _ z hz=>hL.cl y h z hz,.inl ⟨rfl,fun y h=>h⟩,hL.atle⟩
   have r:=a1S hV hs hi (card V) id (-1) t _ c hL.bi hid hpre (by rw[unv,← dL];exact List.length_filter_le _ _)
   have hz:bP nb (card V) t id=bcF nb (card V) id (-1) t:=by rw[bP,if_pos hz0]
   rw[hz]
   obtain⟨R,O',c1,c2,c3,c4,c5,c6,c7,c8⟩:=r.ex
   have hR:R=[id]:=by
    have hm:∀x,x∈R↔x=id:=fun x=>by
     rw[c3]
     constructor
     ·rintro⟨_,h|⟨p,h,_⟩⟩
      ·exact h
      ·omega
     ·rintro rfl
      exact⟨⟨r.d0,hv⟩,.inl rfl⟩
    match R,c2,hm with
    | [],_,hm=>exact absurd ((hm id).2 rfl) (by simp)
    | [x],_,hm=>rw[(hm x).1 (by simp)]
    | x::y::R,c2,hm=>
     have h1:=(hm x).1 (by simp)
     have h2:=(hm y).1 (by simp)
     rw[h1,h2] at c2
     exact absurd c2 (by simp)
   refine⟨O',1,fun y hy z hz=>?_,fun y hy=>?_,r.vis,fun y hy=>?_,r.atle,c4,fun e he=>⟨(c5 e he).1,(c5 e he).2.1⟩,fun e he=>(c5 e he).2.2,fun x y h1 h2 h3=>?_,c7,by rw[hR] at c8;simp at c8;omega,by rw[if_pos hv]⟩
   ·by_cases h:Vs t y
    ·exact r.vis z (hL.cl y h z hz)
    ·exact r.d2 y hy h z hz
   ·rcases List.mem_append.1 hy with hy|hy
    ·exact r.vis y (hL.pr y hy)
    ·rw[List.mem_singleton.1 hy];exact r.d0
   ·by_cases h:Vs t y
    ·obtain⟨u,hu,hr⟩:=hL.frm y h
     exact⟨u,List.mem_append.2 (.inl hu),hr⟩
    ·exact⟨id,by simp,(r.d1 y hy h).mono fun _ _=>trivial⟩
   ·rcases c6 x y h1 h2 h3 with ⟨p,h,_⟩|h
    ·omega
    ·exact h
 rw[show bcN nb (card V) t id=dA nb (bP nb (card V) t id) id from rfl]
 generalize bP nb (card V) t id=t1 at *
 have hla:(dA nb t1 id).la=t1.la:=by rw[dA];split <;> rfl
 have hvs:∀y,Vs (dA nb t1 id) y↔Vs t1 y:=fun y=>by rw[Vs,Vs,hla]
 have hout:(dA nb t1 id).out=t1.out++(([id].filter fun v:Nat=>decide (nb (v:Int)=0)).map fun v:Nat=>[(v:Int)]):=by
  rw[dA]
  by_cases h:nb (id:Int)=0
  ·have hf:([id].filter fun v:Nat=>decide (nb (v:Int)=0))=[id]:=List.filter_eq_self.2 fun a ha=>by
    rw[List.mem_singleton.1 ha];exact decide_eq_true h
   rw[if_pos h,hf];rfl
  ·have hf:([id].filter fun v:Nat=>decide (nb (v:Int)=0))=[]:=List.filter_eq_nil_iff.2 fun a ha=>by
    rw[List.mem_singleton.1 ha];exact fun hh=>h (of_decide_eq_true hh)
   rw[if_neg h,hf,List.map_nil,List.append_nil]
 refine⟨sr hb1,fun y hy z hz=>(hvs z).2 (b0 y ((hvs y).1 hy) z hz),fun y hy=>(hvs y).2 (bp y hy),fun y hy=>bf y ((hvs y).1 hy),fun y=>by rw[hla];exact ba y,O++O',k+k',?_,?_,?_,fun x y hx hxy=>?_,?_,?_,?_⟩
 ·rw[hout,b1,List.map_append,List.filter_append,List.map_append]
  refine ((a1.append_right _).append_right _).trans ?_
  simp only[List.append_assoc]
  refine List.Perm.append_left _ ?_
  rw[← List.append_assoc,← List.append_assoc]
  exact List.perm_append_comm.append_right _
 ·intro e he
  exact (List.mem_append.1 he).elim (a2 e) (b2 e)
 ·intro e he x hx
  refine (hvs x).2 ?_
  rcases List.mem_append.1 he with he|he
  ·exact bq x (a3 e he x hx)
  ·exact (b3 e he x hx).1
 ·have hx1:=(hvs x).1 hx
  by_cases hxt:Vs t x
  ·obtain⟨e,he,h⟩:=a4 x y hxt hxy
   exact⟨e,List.mem_append.2 (.inl he),h⟩
  ·obtain⟨e,he,h⟩:=b4 x y hx1 hxt hxy
   exact⟨e,List.mem_append.2 (.inr he),h⟩
 ·refine List.pairwise_append.2 ⟨a5,b5,fun e he f hf h=>?_⟩
  exact (b3 f hf f.1.1 ⟨_,.refl (b2 f hf).2⟩).2 (a3 e he f.1.1 ⟨_,h⟩)
 ·rw[hla,kn];omega
 ·rw[List.countP_append,a7,b7,List.countP_singleton]
  by_cases hv:Vs t id
  ·rw[if_neg (fun h=>h hv),if_neg]
   intro h
   exact (hfirst.2 (of_decide_eq_true h)) hv
  ·rw[if_pos hv,if_pos (decide_eq_true (hfirst.1 hv))]
end
end Go.Mono
namespace Go.Mono
open Go Go.Proofs Go.RowKit Go.Gr
def rpN (nb:Int→BS)(V:BS):Nat:=(aj V).countP fun v=>decide (aU (cpt nb v)=some v)
theorem a1U (g:GT):(ptF g).length=rpN (nbA g) (vset g.1):=by rw[ptF,List.length_map,rpN,List.countP_eq_length_filter]
section
variable {nb nb':Int→BS}{V:BS}
end
end Go.Mono
namespace Go.Mono
open Go Go.Proofs Go.RowKit Go.Gr
open Classical in
noncomputable def pB (P:Nat→Prop):BS:=(ae ((List.range 1024).filter fun x=>decide (P x))).foldl ins 0
open Classical in
theorem ko {P:Nat→Prop}{x:Nat}:(pB P).getLsbD x=true↔x<1024∧P x:=by
 rw[pB,km fun y hy=>List.mem_range.1 (List.mem_filter.1 hy).1,List.mem_filter,List.mem_range,decide_eq_true_eq]
section
variable {nb:Int→BS}{V:BS}
theorem ta {a x:Nat}(ha:a<1024):(cpt nb a).getLsbD x=true↔Rc nb (fun _=>True) a x:=by
 constructor
 ·intro h
  exact (ko.1 (fG ha (pB fun x=>Rc nb (fun _=>True) a x) (ko.2 ⟨ha,.base trivial⟩) (fun i j hi hij=>ko.2 ⟨aK hij,(ko.1 hi).2.step hij trivial⟩) x h)).2
 ·intro h
  exact Rc.cl (P:=fun x=>(cpt nb a).getLsbD x=true) (fun y hy z hz=>fb ha y z hy hz) h (ea ha)
open Classical in
theorem a1V (hV:∀i j:Nat,(nb (i:Int)).getLsbD j=true→V.getLsbD j=true)(hs:∀i j:Nat,(nb (i:Int)).getLsbD j=true→(nb (j:Int)).getLsbD i=true)(hi:∀i:Nat,¬(nb (i:Int)).getLsbD i=true) :
  OLp nb V (aj V).length (aj V) ((aj V).foldl (bcN nb (card V)) ⟨[],[],[],[]⟩):=by
 have key:∀(l2 l1:List Nat) (t:BcS),l1++l2=aj V→OLp nb V l1.length l1 t→OLp nb V (l1++l2).length (l1++l2) (l2.foldl (bcN nb (card V)) t):=by
  intro l2
  induction l2 with
  | nil=>intro l1 t _ h;rw[List.append_nil];exact h
  | cons x l2 ih=>
   intro l1 t he h
   have hp:=eX V
   rw[← he] at hp
   have hxV:x∈aj V:=by rw[← he];simp
   obtain⟨p1,p2,p3⟩:=List.pairwise_append.1 hp
   have h2:=a1T hV hs hi (id:=x) (aL.1 hxV).2 (fun y hy hyx=>by
    have:y∈aj V:=aL.2 ⟨aK hy,hy⟩
    rw[← he] at this
    rcases List.mem_append.1 this with h|h
    ·exact h
    ·rcases List.mem_cons.1 h with h|h
     ·omega
     ·have:=(List.pairwise_cons.1 p2).1 y h;omega) (fun y hy=>p3 y hy x (List.mem_cons_self ..)) h
   have h3:=ih (l1++[x]) _ (by rw[List.append_assoc];exact he) (by rw[List.length_append,List.length_singleton];exact h2)
   rw[List.append_assoc] at h3
   exact h3
 have h0:∀i:Int,lkI ([]:List (Int×Int)) i=0:=fun i=>rfl
 have fin:=key (aj V) [] ⟨[],[],[],[]⟩ (List.nil_append _) ?_
 ·rw[List.nil_append] at fin;exact fin
 refine⟨⟨(fun p hp=>by cases hp),(fun p hp=>by cases hp),List.Pairwise.nil,(fun p hp=>by cases hp),(fun p hp=>by cases hp),List.Pairwise.nil,Nat.le_refl _,(fun p hp=>by cases hp),Nat.le_refl _⟩,fun y hy=>?_,(fun y hy=>by cases hy),fun y hy=>?_,fun y=>?_,[],0,?_,(fun e he=>by cases he),(fun e he=>by cases he),fun x y hx=>?_,List.Pairwise.nil,rfl,rfl⟩
 ·rw[Vs,h0] at hy;omega
 ·rw[Vs,h0] at hy;omega
 ·rw[h0];omega
 ·exact List.Perm.refl _
 ·rw[Vs,h0] at hx;omega
open Classical in
theorem tb (hV:∀i j:Nat,(nb (i:Int)).getLsbD j=true→V.getLsbD j=true)(hs:∀i j:Nat,(nb (i:Int)).getLsbD j=true→(nb (j:Int)).getLsbD i=true)(hi:∀i:Nat,¬(nb (i:Int)).getLsbD i=true) :
  ∃O:List ((Nat×Nat)×List Int),(bccF nb V).Perm (O.map (·.2)++((aj V).filter fun v:Nat=>decide (nb (v:Int)=0)).map fun v:Nat=>[(v:Int)]) ∧
   (∀e∈O,IsB nb e∧(nb (e.1.1:Int)).getLsbD e.1.2=true)∧(∀x y:Nat,(nb (x:Int)).getLsbD y=true→∃e∈O,Eb nb e.1.1 e.1.2 x y) ∧
   O.Pairwise (fun e f=>¬Eb nb e.1.1 e.1.2 f.1.1 f.1.2)∧szO O+rpN nb V=card V:=by
 have h:=a1V hV hs hi
 rw[bccF]
 generalize (aj V).foldl (bcN nb (card V)) ⟨[],[],[],[]⟩=t at h
 obtain⟨O,k,a1,a2,a3,a4,a5,a6,a7⟩:=h.ex
 have hv:∀y,V.getLsbD y=true→Vs t y:=fun y hy=>h.pr y (aL.2 ⟨aK hy,hy⟩)
 refine⟨O,(iK _).trans a1,a2,fun x y hxy=>a4 x y (hv x (hV _ _ (hs _ _ hxy))) hxy,a5,?_⟩
 have hk:k=rpN nb V:=by
  rw[a7,rpN]
  refine List.countP_congr fun v hv=>?_
  have hvl:=(aL.1 hv).1
  rw[decide_eq_true_eq,decide_eq_true_eq,eS]
  constructor
  ·intro h
   refine⟨hvl,ea hvl,fun j hj=>?_⟩
   cases hh:(cpt nb v).getLsbD j with
   | false=>rfl
   | true=>exact absurd ((ta hvl).1 hh) (h j hj)
  ·rintro⟨_,_,h⟩ j hj hr
   have:=h j hj
   rw[(ta hvl).2 hr] at this;cases this
 have hlen:t.la.length=card V:=by
  refine Nat.le_antisymm (mI h.bi.ka h.bi.na) ?_
  have:=ed (ae (aj V)) (t.la.map (·.1)) (List.pairwise_map.2 ((eX V).imp fun h h'=>by omega)) fun x hx=>by
   obtain⟨y,hy,rfl⟩:=List.mem_map.1 hx
   have h1:=h.pr y hy
   exact List.mem_map.2 ⟨_,sd (i:=(y:Int)) (by rw[Vs] at h1;omega),rfl⟩
  rw[bC,List.length_map,dL] at this
  exact this
 rw[← hk,← hlen];exact a6
end
end Go.Mono
namespace Go.Mono
open Go Go.Proofs Go.RowKit Go.Gr
theorem cx {a n:Nat}(h:a<n+n):a % n=if a<n then a else a - n:=by
 by_cases h1:a<n
 ·rw[if_pos h1,Nat.mod_eq_of_lt h1]
 ·rw[if_neg h1,Nat.mod_eq_sub_mod (by omega),Nat.mod_eq_of_lt (by omega)]
def CEd (p:Nat→Nat)(n x y:Nat):Prop:=∃i,i<n∧((p i=x∧p ((i+1) % n)=y)∨(p i=y∧p ((i+1) % n)=x))
section
variable {nb:Int→BS}{p:Nat→Nat}{n:Nat}
theorem Cyc.nx (h:Cyc nb p n){i:Nat}(hi:i<n):(nb (p i:Int)).getLsbD (p ((i+1) % n))=true:=by
 by_cases h1:i+1<n
 ·rw[Nat.mod_eq_of_lt h1];exact h.adj i h1
 ·rw[show i=n - 1 by omega,show n - 1+1=n by omega,Nat.mod_self];exact h.last
theorem Cyc.of {q:Nat→Nat}(h3:3≤n)(h1:∀i j,i<n→j<n→q i=q j→i=j)(h2:∀i,i<n→(nb (q i:Int)).getLsbD (q ((i+1) % n))=true):Cyc nb q n:=by
 refine⟨h3,h1,fun i hi=>?_,?_⟩
 ·have:=h2 i (by omega)
  rwa [Nat.mod_eq_of_lt hi] at this
 ·have:=h2 (n - 1) (by omega)
  rwa [show n - 1+1=n by omega,Nat.mod_self] at this
theorem Cyc.turnK (h:Cyc nb p n){k:Nat}(hk:k<n):Cyc nb (fun i=>p ((i+k) % n)) n∧∀x y,CEd p n x y→CEd (fun i=>p ((i+k) % n)) n x y:=by
 have h3:=h.three
 have hm:∀i,(i+k) % n<n:=fun i=>Nat.mod_lt _ (by omega)
 have hx:∀i,i<n→((i+1) % n+k) % n=((i+k) % n+1) % n:=fun i hi=>by
  rw[cx (a:=i+1) (by omega),cx (a:=i+k) (by omega)]
  split <;> split <;> (rw[cx (by omega),cx (by omega)];split <;> split <;> omega)
 refine⟨Cyc.of h3 (fun i j hi hj he=>?_) fun i hi=>?_,fun x y hxy=>?_⟩
 ·have:=h.inj _ _ (hm i) (hm j) he
  rw[cx (by omega),cx (by omega)] at this
  split at this <;> split at this <;> omega
 ·try dsimp only
  rw[hx i hi]
  exact h.nx (hm i)
 ·obtain⟨i,hi,hh⟩:=hxy
  refine⟨(i+(n - k)) % n,Nat.mod_lt _ (by omega),?_⟩
  have e:((i+(n - k)) % n+k) % n=i:=by
   rw[cx (a:=i+(n - k)) (by omega)]
   split <;> (rw[cx (by omega)];split <;> omega)
  try dsimp only
  rw[hx _ (Nat.mod_lt _ (by omega)),e]
  exact hh
theorem Cyc.back (hs:∀i j:Nat,(nb (i:Int)).getLsbD j=true→(nb (j:Int)).getLsbD i=true)(h:Cyc nb p n):Cyc nb (fun i=>p ((n - i) % n)) n∧∀x y,CEd p n x y→CEd (fun i=>p ((n - i) % n)) n x y:=by
 have h3:=h.three
 have hm:∀i,(n - i) % n<n:=fun i=>Nat.mod_lt _ (by omega)
 have hx:∀i,i<n→(n - i) % n=((n - (i+1) % n) % n+1) % n:=fun i hi=>by
  rw[cx (a:=i+1) (by omega),cx (a:=n - i) (by omega)]
  split <;> split <;> (rw[cx (a:=n - _) (by omega)];split <;> (rw[cx (by omega)];split <;> omega))
 refine⟨Cyc.of h3 (fun i j hi hj he=>?_) fun i hi=>?_,fun x y hxy=>?_⟩
 ·have:=h.inj _ _ (hm i) (hm j) he
  rw[cx (by omega),cx (by omega)] at this
  split at this <;> split at this <;> omega
 ·have:=h.nx (hm ((i+1) % n))
  rw[hx i hi]
  exact hs _ _ this
 ·obtain⟨i,hi,hh⟩:=hxy
  refine⟨n - 1 - i,by omega,?_⟩
  have e1:(n - (n - 1 - i)) % n=(i+1) % n:=by congr 1;omega
  have e2:(n - (n - 1 - i+1) % n) % n=i:=by
   rw[cx (a:=n - 1 - i+1) (by omega)]
   split <;> (rw[cx (by omega)];split <;> omega)
  try dsimp only
  rw[e1,e2]
  rcases hh with ⟨a,b⟩|⟨a,b⟩
  ·exact .inr ⟨b,a⟩
  ·exact .inl ⟨b,a⟩
theorem Cyc.norm (hs:∀i j:Nat,(nb (i:Int)).getLsbD j=true→(nb (j:Int)).getLsbD i=true)(h:Cyc nb p n):∃c,CyM nb c∧c.length=n∧∀x y,CEd p n x y→CEd (fun i=>c.getD i 0) n x y:=by
 have h3:=h.three
 obtain⟨k,hk,hmin⟩:=zo p n (by omega)
 obtain⟨h1,he1⟩:=h.turnK hk
 obtain⟨q,hq⟩:=eqX (fun i=>p ((i+k) % n):Nat→Nat)
 rw[← hq] at h1 he1
 have hq0:∀j,q 0≤q j:=fun j=>by
  rw[hq]
  try dsimp only
  rw[Nat.zero_add,Nat.mod_eq_of_lt hk]
  exact hmin _ (Nat.mod_lt _ (by omega))
 have fin:∀r:Nat→Nat,Cyc nb r n→(∀j,r 0≤r j)→r 1<r (n - 1)→(∀x y,CEd p n x y→CEd r n x y)→∃c,CyM nb c∧c.length=n∧∀x y,CEd p n x y→CEd (fun i=>c.getD i 0) n x y:=fun r hr hr0 hr1 hre=>by
  have hg:∀i,i<n→((List.range n).map r).getD i 0=r i:=fun i hi=>by
   rw[List.getD_eq_getElem?_getD,List.getElem?_map,List.getElem?_range hi];rfl
  have hl:((List.range n).map r).length=n:=by rw[List.length_map,List.length_range]
  refine⟨(List.range n).map r,⟨?_,fun i hi hil=>?_,?_⟩,hl,fun x y hxy=>?_⟩
  ·rw[CyL,hl]
   refine⟨h3,fun i j hi hj he=>hr.inj i j hi hj (by rwa [hg i hi,hg j hj] at he),fun i hi=>?_,?_⟩
   ·rw[hg i (by omega),hg (i+1) hi];exact hr.adj i hi
   ·rw[hg _ (by omega),hg 0 (by omega)];exact hr.last
  ·rw[hl] at hil
   rw[hg 0 (by omega),hg i hil]
   have h1:=hr0 i
   have h2:r 0≠r i:=fun h=>by have:=hr.inj 0 i (by omega) hil h;omega
   omega
  ·rw[hl,hg 1 (by omega),hg _ (by omega)];exact hr1
  ·obtain⟨i,hi,hh⟩:=hre x y hxy
   refine⟨i,hi,?_⟩
   try dsimp only
   rw[hg i hi,hg _ (Nat.mod_lt _ (by omega))]
   exact hh
 by_cases hd:q 1<q (n - 1)
 ·exact fin q h1 hq0 hd he1
 ·have hne:q 1≠q (n - 1):=fun h=>by have:=h1.inj 1 (n - 1) (by omega) (by omega) h;omega
  obtain⟨h2,he2⟩:=h1.back hs
  refine fin _ h2 (fun j=>?_) ?_ fun x y hxy=>he2 x y (he1 x y hxy)
  ·try dsimp only
   rw[Nat.sub_zero,Nat.mod_self]
   exact hq0 _
  ·try dsimp only
   rw[Nat.mod_eq_of_lt (by omega),show n - (n - 1)=1 by omega,Nat.mod_eq_of_lt (by omega)]
   omega
theorem Cyc.rc (h:Cyc nb p n):∀m,m+1<n→Rc nb (fun w=>w≠p 0) (p 1) (p (m+1))
 | 0,hm=>.base fun he=>by have:=h.inj 1 0 (by omega) (by omega) he;omega
 | m+1,hm=>(h.rc m (by omega)).step (h.adj (m+1) hm) fun he=>by have:=h.inj (m+2) 0 (by omega) (by omega) he;omega
theorem Cyc.eb (hs:∀i j:Nat,(nb (i:Int)).getLsbD j=true→(nb (j:Int)).getLsbD i=true)(h:Cyc nb p n):∀j,j<n→Eb nb (p 0) (p 1) (p j) (p ((j+1) % n))
 | 0,hj=>by
  have h3:=h.three
  rw[Nat.zero_add,Nat.mod_eq_of_lt (by omega)]
  exact .refl (h.adj 0 (by omega))
 | j+1,hj=>by
  have h1:=h.eb hs j (by omega)
  rw[Nat.mod_eq_of_lt hj] at h1
  obtain⟨h2,_⟩:=h.turnK hj
  have h4:=h2.rc (n - 2) (by omega)
  have e0:(0+(j+1)) % n=j+1:=by rw[Nat.zero_add,Nat.mod_eq_of_lt hj]
  have e1:(n - 2+1+(j+1)) % n=j:=by rw[cx (by omega)];split <;> omega
  have e2:(1+(j+1)) % n=(j+1+1) % n:=by rw[Nat.add_comm]
  rw[e0,e1,e2] at h4
  exact Eb.turn (.flip h1) (h.nx hj) (h4.sym hs)
theorem Cyc.cls (hs:∀i j:Nat,(nb (i:Int)).getLsbD j=true→(nb (j:Int)).getLsbD i=true)(h:Cyc nb p n){x y u v:Nat}(h1:CEd p n x y)(h2:CEd p n u v):Eb nb x y u v:=by
 have one:∀{a b:Nat},CEd p n a b→Eb nb (p 0) (p 1) a b:=fun {a b} h'=>by
  obtain⟨i,hi,⟨e1,e2⟩|⟨e1,e2⟩⟩:=h'
  ·rw[← e1,← e2];exact h.eb hs i hi
  ·rw[← e1,← e2];exact (h.eb hs i hi).flip
 exact ((one h1).sym hs).tr (one h2)
theorem Rc.pth {U:Nat→Prop}{a b:Nat}(h:Rc nb U a b):∃w:List Nat,w≠[]∧Pth nb w∧w.getD 0 0=a∧w.getLastD 0=b∧∀x∈w,U x:=by
 induction h with
 | base h=>exact⟨[a],by simp,Pth.one nb a,rfl,rfl,fun x hx=>by rw[List.mem_singleton.1 hx];exact h⟩
 | @step x y h1 h2 h3 ih=>
  obtain⟨w,w0,w1,w2,w3,w4⟩:=ih
  have hl:0<w.length:=List.length_pos_iff.2 w0
  by_cases hy:y∈w
  ·obtain⟨i,hi,he⟩:=mU hy
   have hlen:(w.take (i+1)).length=i+1:=by rw[List.length_take];omega
   refine⟨w.take (i+1),fun h=>by rw[h] at hlen;simp at hlen,⟨fun j k hj hk hjk=>?_,fun j hj=>?_⟩,?_,?_,fun z hz=>w4 z (List.mem_of_mem_take hz)⟩
   ·rw[hlen] at hj hk
    rw[fe hj,fe hk] at hjk
    exact w1.inj j k (by omega) (by omega) hjk
   ·rw[hlen] at hj
    rw[fe (by omega),fe hj]
    exact w1.adj j (by omega)
   ·rw[fe (by omega)];exact w2
   ·rw[sT hi];exact he
  ·refine⟨w++[y],by simp,w1.snoc w0 (by rw[w3];exact h2) hy,by rw[ef hl];exact w2,by simp,fun z hz=>?_⟩
   rcases List.mem_append.1 hz with hz|hz
   ·exact w4 z hz
   ·rw[List.mem_singleton.1 hz];exact h3
theorem a1W (hs:∀i j:Nat,(nb (i:Int)).getLsbD j=true→(nb (j:Int)).getLsbD i=true){x y z:Nat}(hy:(nb (x:Int)).getLsbD y=true)(hz:(nb (x:Int)).getLsbD z=true)(hyz:y≠z)(h:Rc nb (fun w=>w≠x) y z):∃p n,Cyc nb p n∧CEd p n x y∧CEd p n x z:=by
 obtain⟨w,w0,w1,w2,w3,w4⟩:=h.pth
 rw[gK] at w3
 have hl2:2≤w.length:=Classical.byContradiction fun hh=>hyz (by rw[← w2,← w3,show w.length - 1=0 by omega])
 have hx:∀i,i<w.length→w.getD i 0≠x:=fun i hi=>w4 _ (iM hi)
 have hc:∀i,(x::w).getD (i+1) 0=w.getD i 0:=fun i=>by simp
 have h0:(x::w).getD 0 0=x:=rfl
 refine⟨fun i=>(x::w).getD i 0,w.length+1,⟨by omega,fun i j hi hj he=>?_,fun i hi=>?_,?_⟩,⟨0,by omega,.inl ⟨rfl,?_⟩⟩,⟨w.length,by omega,.inr ⟨?_,?_⟩⟩⟩
 ·try dsimp only at he
  cases i with
  | zero=>
   cases j with
   | zero=>rfl
   | succ j=>rw[hc,h0] at he;exact absurd he.symm (hx j (by omega))
  | succ i=>
   cases j with
   | zero=>rw[hc,h0] at he;exact absurd he (hx i (by omega))
   | succ j=>rw[hc,hc] at he;rw[w1.inj i j (by omega) (by omega) he]
 ·try dsimp only
  cases i with
  | zero=>rw[hc,h0,w2];exact hy
  | succ i=>rw[hc,hc];exact w1.adj i (by omega)
 ·try dsimp only
  rw[show w.length+1 - 1=(w.length - 1)+1 by omega,hc,w3]
  exact hs _ _ hz
 ·try dsimp only
  rw[Nat.zero_add,Nat.mod_eq_of_lt (by omega),show 1=0+1 from rfl,hc]
  exact w2
 ·try dsimp only
  rw[show w.length=(w.length - 1)+1 by omega,hc]
  exact w3
 ·try dsimp only
  rw[Nat.mod_self];rfl
end
section
variable {nb:Int→BS}
end
theorem tc {g:GT}(ok:Gr.Ok g)(i:Nat):¬(nbA g (i:Int)).getLsbD i=true:=fun h=>(((dx ok).1 h).inn ok).2.2 rfl
end Go.Mono
namespace Go.Mono
open Go Go.Proofs Go.RowKit Go.Gr
def onE (c:List Nat)(e:Nat×Nat)(i:Nat):Bool:=decide (c.getD i 0=e.1)&&decide (c.getD ((i+1) % c.length) 0=e.2) || decide (c.getD i 0=e.2)&&decide (c.getD ((i+1) % c.length) 0=e.1)
def onF (c:List Nat)(e:Nat×Nat):Bool:=(List.range c.length).any (onE c e)
theorem mX {c:List Nat}{e:Nat×Nat}:onF c e=true↔CEd (fun i=>c.getD i 0) c.length e.1 e.2:=by
 rw[onF,List.any_eq_true]
 refine exists_congr fun i=>?_
 rw[List.mem_range,onE,Bool.or_eq_true,Bool.and_eq_true,Bool.and_eq_true,decide_eq_true_eq,decide_eq_true_eq,decide_eq_true_eq,decide_eq_true_eq]
abbrev eAt (es:List (Nat×Nat))(i:Nat):Nat×Nat:=es.getD i (0,0)
def hdS (es:List (Nat×Nat))(c:List Nat)(s:Option Nat×List Nat)(i:Nat):Option Nat×List Nat:=if onF c (eAt es i)=true then match s.1 with
 | none=>(some i,s.2)
 | some f=>(some f,s.2.map fun z=>if z=s.2.getD i 0 then s.2.getD f 0 else z) else s
def hdC (es:List (Nat×Nat))(h:List Nat)(c:List Nat):List Nat:=((List.range es.length).foldl (hdS es c) (none,h)).2
def hdF (es:List (Nat×Nat))(cs:List (List Nat)):List Nat:=cs.foldl (hdC es) (List.range es.length)
theorem a1X {h:List Nat}{φ:Nat→Nat}{k:Nat}(hk:k<h.length):(h.map φ).getD k 0=φ (h.getD k 0):=by
 rw[List.getD_eq_getElem?_getD,List.getD_eq_getElem?_getD,List.getElem?_map,List.getElem?_eq_getElem hk];rfl
structure HdI (es:List (Nat×Nat))(c:List Nat)(Q:Nat→Nat→Prop)(h0:List Nat)(l:List Nat)(s:Option Nat×List Nat):Prop where
 len:s.2.length=es.length
 snd:∀i j,i<es.length→j<es.length→s.2.getD i 0=s.2.getD j 0→Q i j
 keep:∀i j,i<es.length→j<es.length→h0.getD i 0=h0.getD j 0→s.2.getD i 0=s.2.getD j 0
 fn:s.1=none→∀i∈l,onF c (eAt es i)=false
 fs:∀f,s.1=some f→f<es.length∧onF c (eAt es f)=true∧∀i∈l,onF c (eAt es i)=true→s.2.getD i 0=s.2.getD f 0
section
variable {es:List (Nat×Nat)}{c:List Nat}{Q:Nat→Nat→Prop}{h0:List Nat}{l:List Nat}{s:Option Nat×List Nat}
theorem HdI.step (hQ:∀i j k,Q i j→Q j k→Q i k)(hQs:∀i j,Q i j→Q j i)(hc:∀i j,i<es.length→j<es.length→onF c (eAt es i)=true→onF c (eAt es j)=true→Q i j)(H:HdI es c Q h0 l s){i:Nat}(hi:i<es.length)(hl:∀k∈l,k<es.length):HdI es c Q h0 (l++[i]) (hdS es c s i):=by
 rw[hdS]
 by_cases ho:onF c (eAt es i)=true
 ·rw[if_pos ho]
  cases hf:s.1 with
  | none=>
   refine⟨H.len,H.snd,H.keep,fun h=>(by cases h),fun f h=>?_⟩
   cases h
   refine⟨hi,ho,fun k hk hko=>?_⟩
   rcases List.mem_append.1 hk with hk|hk
   ·rw[H.fn hf k hk] at hko;cases hko
   ·rw[List.mem_singleton.1 hk]
  | some f=>
   obtain⟨f1,f2,f3⟩:=H.fs f hf
   have hg:∀k,k<es.length→(s.2.map fun z=>if z=s.2.getD i 0 then s.2.getD f 0 else z).getD k 0=if s.2.getD k 0=s.2.getD i 0 then s.2.getD f 0 else s.2.getD k 0:=fun k hk=>a1X (by rw[H.len];exact hk)
   refine⟨by rw[List.length_map];exact H.len,fun a b ha hb hab=>?_,fun a b ha hb hab=>?_,fun h=>(by cases h),fun f' h=>?_⟩
   ·dsimp only at hab
    rw[hg a ha,hg b hb] at hab
    have qif:=hc i f hi f1 ho f2
    by_cases h1:s.2.getD a 0=s.2.getD i 0 <;> by_cases h2:s.2.getD b 0=s.2.getD i 0
    ·exact H.snd a b ha hb (h1.trans h2.symm)
    ·rw[if_pos h1,if_neg h2] at hab
     exact hQ _ _ _ (H.snd a i ha hi h1) (hQ _ _ _ qif (H.snd f b f1 hb hab))
    ·rw[if_neg h1,if_pos h2] at hab
     exact hQ _ _ _ (H.snd a f ha f1 hab) (hQ _ _ _ (hQs _ _ qif) (hQs _ _ (H.snd b i hb hi h2)))
    ·rw[if_neg h1,if_neg h2] at hab
     exact H.snd a b ha hb hab
   ·dsimp only
    rw[hg a ha,hg b hb,H.keep a b ha hb hab]
   ·cases h
    refine⟨f1,f2,fun k hk hko=>?_⟩
    have hk':k<es.length:=by
     rcases List.mem_append.1 hk with hk|hk
     ·exact hl k hk
     ·rw[List.mem_singleton.1 hk];exact hi
    rw[hg k hk',hg f f1]
    rcases List.mem_append.1 hk with hk|hk
    ·rw[f3 k hk hko]
    ·rw[List.mem_singleton.1 hk,if_pos rfl];split <;> rfl
 ·rw[if_neg ho]
  refine⟨H.len,H.snd,H.keep,fun h k hk=>?_,fun f h=>?_⟩
  ·rcases List.mem_append.1 hk with hk|hk
   ·exact H.fn h k hk
   ·rw[List.mem_singleton.1 hk];exact Bool.not_eq_true _▸ho
  ·obtain⟨f1,f2,f3⟩:=H.fs f h
   refine⟨f1,f2,fun k hk hko=>?_⟩
   rcases List.mem_append.1 hk with hk|hk
   ·exact f3 k hk hko
   ·rw[List.mem_singleton.1 hk] at hko;exact absurd hko ho
theorem a1Y (hQ:∀i j k,Q i j→Q j k→Q i k)(hQs:∀i j,Q i j→Q j i)(hc:∀i j,i<es.length→j<es.length→onF c (eAt es i)=true→onF c (eAt es j)=true→Q i j){h:List Nat}(hl:h.length=es.length)(hs:∀i j,i<es.length→j<es.length→h.getD i 0=h.getD j 0→Q i j) :
  (hdC es h c).length=es.length∧(∀i j,i<es.length→j<es.length→(hdC es h c).getD i 0=(hdC es h c).getD j 0→Q i j)∧(∀i j,i<es.length→j<es.length→h.getD i 0=h.getD j 0→(hdC es h c).getD i 0=(hdC es h c).getD j 0) ∧
  ∀i j,i<es.length→j<es.length→onF c (eAt es i)=true→onF c (eAt es j)=true→(hdC es h c).getD i 0=(hdC es h c).getD j 0:=by
 have key:∀n,n≤es.length→HdI es c Q h (List.range n) ((List.range n).foldl (hdS es c) (none,h)):=by
  intro n
  induction n with
  | zero=>intro _;exact⟨hl,hs,fun i j _ _ h=>h,fun _ i hi=>(by cases hi),fun f h=>(by cases h)⟩
  | succ n ih=>
   intro hn
   rw[List.range_succ,List.foldl_append]
   exact (ih (by omega)).step hQ hQs hc hn fun k hk=>by have:=List.mem_range.1 hk;omega
 have H:=key es.length (Nat.le_refl _)
 refine⟨H.len,H.snd,H.keep,fun i j hi hj h1 h2=>?_⟩
 have hf:=H.fs
 have hn:=H.fn
 rw[hdC]
 generalize (List.range es.length).foldl (hdS es c) (none,h)=s at hf hn
 cases hs1:s.1 with
 | none=>rw[hn hs1 i (List.mem_range.2 hi)] at h1;cases h1
 | some f=>
  obtain⟨_,_,f3⟩:=hf f hs1
  rw[f3 i (List.mem_range.2 hi) h1,f3 j (List.mem_range.2 hj) h2]
theorem a1Z (hQr:∀i,i<es.length→Q i i)(hQ:∀i j k,Q i j→Q j k→Q i k)(hQs:∀i j,Q i j→Q j i)(cs:List (List Nat))(hc:∀c∈cs,∀i j,i<es.length→j<es.length→onF c (eAt es i)=true→onF c (eAt es j)=true→Q i j) :
  (hdF es cs).length=es.length∧(∀i j,i<es.length→j<es.length→(hdF es cs).getD i 0=(hdF es cs).getD j 0→Q i j) ∧
  ∀c∈cs,∀i j,i<es.length→j<es.length→onF c (eAt es i)=true→onF c (eAt es j)=true→(hdF es cs).getD i 0=(hdF es cs).getD j 0:=by
 have key:∀(cs:List (List Nat)) (h:List Nat),(∀c∈cs,∀i j,i<es.length→j<es.length→onF c (eAt es i)=true→onF c (eAt es j)=true→Q i j)→h.length=es.length→(∀i j,i<es.length→j<es.length→h.getD i 0=h.getD j 0→Q i j) →
   (cs.foldl (hdC es) h).length=es.length∧(∀i j,i<es.length→j<es.length→(cs.foldl (hdC es) h).getD i 0=(cs.foldl (hdC es) h).getD j 0→Q i j)∧(∀i j,i<es.length→j<es.length→h.getD i 0=h.getD j 0→(cs.foldl (hdC es) h).getD i 0=(cs.foldl (hdC es) h).getD j 0) ∧
   ∀c∈cs,∀i j,i<es.length→j<es.length→onF c (eAt es i)=true→onF c (eAt es j)=true→(cs.foldl (hdC es) h).getD i 0=(cs.foldl (hdC es) h).getD j 0:=by
  intro cs
  induction cs with
  | nil=>intro h _ hl hs;exact⟨hl,hs,fun i j _ _ h=>h,fun c hc=>(by cases hc)⟩
  | cons c cs ih=>
   intro h hc hl hs
   obtain⟨a1,a2,a3,a4⟩:=a1Y hQ hQs (hc c (List.mem_cons_self ..)) hl hs
   obtain⟨b1,b2,b3,b4⟩:=ih (hdC es h c) (fun d hd=>hc d (List.mem_cons_of_mem _ hd)) a1 a2
   refine⟨b1,b2,fun i j hi hj hij=>b3 i j hi hj (a3 i j hi hj hij),fun d hd i j hi hj h1 h2=>?_⟩
   rcases List.mem_cons.1 hd with rfl|hd
   ·exact b3 i j hi hj (a4 i j hi hj h1 h2)
   ·exact b4 d hd i j hi hj h1 h2
 have hr:∀i,i<es.length→(List.range es.length).getD i 0=i:=fun i hi=>by rw[List.getD_eq_getElem?_getD,List.getElem?_range hi];rfl
 obtain⟨a1,a2,_,a4⟩:=key cs (List.range es.length) hc (by rw[List.length_range]) fun i j hi hj hij=>by
  rw[hr i hi,hr j hj] at hij
  rw[hij];exact hQr j hj
 exact⟨a1,a2,a4⟩
end
section
variable {g:GT}
theorem mY {es:List (Nat×Nat)}{i:Nat}(hi:i<es.length):eAt es i∈es:=by
 rw[eAt,List.getD_eq_getElem?_getD,List.getElem?_eq_getElem hi];exact List.getElem_mem hi
theorem a2a (ok:Gr.Ok g):(esN g).Nodup:=by
 have h1:(g.2.map (·.1)).Pairwise fun a b=>lt2 a b=true:=List.pairwise_map.2 ok.se
 rw[mw ok,List.pairwise_map] at h1
 refine h1.imp fun {a b} h hab=>?_
 rw[hab] at h
 have:lt2 (toI b) (toI b)=false:=by simp[lt2]
 rw[this] at h;cases h
theorem a2b (ok:Gr.Ok g){i j:Nat}(hi:i<(esN g).length)(hj:j<(esN g).length)(h:eAt (esN g) i=eAt (esN g) j):i=j:=by
 rw[eAt,eAt,List.getD_eq_getElem?_getD,List.getD_eq_getElem?_getD,List.getElem?_eq_getElem hi,List.getElem?_eq_getElem hj] at h
 exact (List.getElem_inj (a2a ok)).1 h
def eIs (es:List (Nat×Nat))(i x y:Nat):Prop:=eAt es i=(x,y)∨eAt es i=(y,x)
theorem mZ (ok:Gr.Ok g){x y:Nat}(h:(nbA g (x:Int)).getLsbD y=true):∃i,i<(esN g).length∧eIs (esN g) i x y:=by
 have at':∀e∈esN g,∃i,i<(esN g).length∧eAt (esN g) i=e:=fun e he=>by
  obtain⟨i,hi,hh⟩:=List.getElem_of_mem he
  exact⟨i,hi,by rw[eAt,List.getD_eq_getElem?_getD,List.getElem?_eq_getElem hi,hh];rfl⟩
 rcases (my ok x y).1 ((dx ok).1 h) with h|h
 ·obtain⟨i,hi,hh⟩:=at' _ h;exact⟨i,hi,.inl hh⟩
 ·obtain⟨i,hi,hh⟩:=at' _ h;exact⟨i,hi,.inr hh⟩
theorem a2c (ok:Gr.Ok g){i j x y:Nat}(hi:i<(esN g).length)(hj:j<(esN g).length)(h:eIs (esN g) i x y)(k:eIs (esN g) j x y):i=j:=by
 have h1:=(gz ok _ (mY hi)).1
 have h2:=(gz ok _ (mY hj)).1
 refine a2b ok hi hj ?_
 rcases h with h|h <;> rcases k with k|k
 ·rw[h,k]
 ·rw[h] at h1;rw[k] at h2;simp at h1 h2;omega
 ·rw[h] at h1;rw[k] at h2;simp at h1 h2;omega
 ·rw[h,k]
theorem td (ok:Gr.Ok g){i:Nat}(hi:i<(esN g).length):(nbA g ((eAt (esN g) i).1:Int)).getLsbD (eAt (esN g) i).2=true:=
 (dx ok).2 ((my ok _ _).2 (.inl (mY hi)))
abbrev Ei (g:GT)(i j:Nat):Prop:=Eb (nbA g) (eAt (esN g) i).1 (eAt (esN g) i).2 (eAt (esN g) j).1 (eAt (esN g) j).2
theorem tf (ok:Gr.Ok g){i x y u v:Nat}(h:eIs (esN g) i x y):Eb (nbA g) u v x y↔Eb (nbA g) u v (eAt (esN g) i).1 (eAt (esN g) i).2:=by
 rcases h with h|h
 ·rw[h]
 ·rw[h];exact⟨fun k=>k.flip,fun k=>k.flip⟩
theorem a2d (ok:Gr.Ok g){i j:Nat}(hi:i<(esN g).length)(hj:j<(esN g).length):(hdF (esN g) (cyA g)).getD i 0=(hdF (esN g) (cyA g)).getD j 0↔Ei g i j:=by
 have hs:=fF ok
 obtain⟨a1,a2,a3⟩:=a1Z (es:=esN g) (Q:=fun i j=>i<(esN g).length∧j<(esN g).length∧Ei g i j) (fun i hi=>⟨hi,hi,.refl (td ok hi)⟩) (fun i j k h1 h2=>⟨h1.1,h2.2.1,h1.2.2.tr h2.2.2⟩) (fun i j h=>⟨h.2.1,h.1,h.2.2.sym hs⟩) (cyA g)
  fun c hc i j hi hj h1 h2=>⟨hi,hj,Cyc.cls hs ((mV ok).1 hc).cyc (mX.1 h1) (mX.1 h2)⟩
 refine⟨fun h=>(a2 i j hi hj h).2.2,fun h=>?_⟩
 have key:∀x y:Nat,Eb (nbA g) (eAt (esN g) i).1 (eAt (esN g) i).2 x y→∀k,k<(esN g).length→eIs (esN g) k x y→(hdF (esN g) (cyA g)).getD i 0=(hdF (esN g) (cyA g)).getD k 0:=by
  intro x y h
  induction h with
  | refl _=>intro k hk he;rw[a2c ok hi hk (.inl rfl) he]
  | flip _ ih=>intro k hk he;exact ih k hk he.symm
  | @turn x y z h h1 h2 ih=>
   intro k hk he
   by_cases hyz:y=z
   ·subst hyz;exact ih k hk he
   ·have hxy:=h.adj hs
    obtain⟨l,hl,hle⟩:=mZ ok hxy
    obtain⟨p,n,p1,p2,p3⟩:=a1W hs hxy h1 hyz h2
    obtain⟨c,c1,c2,c3⟩:=p1.norm hs
    have on:∀{m a b:Nat},eIs (esN g) m a b→CEd p n a b→onF c (eAt (esN g) m)=true:=fun {m a b} hm hab=>by
     rw[mX,c2]
     rcases hm with hm|hm
     ·rw[hm];exact c3 a b hab
     ·rw[hm]
      refine c3 b a ?_
      obtain⟨q,hq,hh⟩:=hab
      exact⟨q,hq,hh.symm⟩
    exact (ih l hl hle).trans (a3 c ((mV ok).2 c1) l k hl hk (on hle p2) (on he p3))
 exact key _ _ h j hj (.inl rfl)
def blL (V:BS)(es:List (Nat×Nat))(h:List Nat)(i:Nat):List Nat:=(aj V).filter fun v=>(List.range es.length).any fun k=>decide (h.getD k 0=h.getD i 0)&&(decide ((eAt es k).1=v) || decide ((eAt es k).2=v))
def kq (m:Nat)(h:List Nat):List Nat:=(List.range m).filter fun i=>(List.range i).all fun k => !decide (h.getD k 0=h.getD i 0)
def ff (g:GT):List (List Int):=((kq (esN g).length (hdF (esN g) (cyA g))).map fun i=>ae (blL (vset g.1) (esN g) (hdF (esN g) (cyA g)) i))++((aj (vset g.1)).filter fun v:Nat=>decide (nbA g (v:Int)=0)).map fun v:Nat=>[(v:Int)]
open Classical in
theorem tg (ok:Gr.Ok g):bccF (nbA g) (vset g.1)=fL (ff g):=by
 have hs:=fF ok
 obtain⟨O,o1,o2,o3,o4,o5⟩:=tb (gu ok) hs (tc ok)
 obtain⟨H,hH⟩:=eqX (hdF (esN g) (cyA g))
 have hd:∀{i j:Nat},i<(esN g).length→j<(esN g).length→(H.getD i 0=H.getD j 0↔Ei g i j):=fun hi hj=>by rw[hH];exact a2d ok hi hj
 have ex:∀e∈O,∃i,i<(esN g).length∧Eb (nbA g) e.1.1 e.1.2 (eAt (esN g) i).1 (eAt (esN g) i).2∧∀k,k<i→¬Eb (nbA g) e.1.1 e.1.2 (eAt (esN g) k).1 (eAt (esN g) k).2:=fun e he=>by
  obtain⟨i,hi,hie⟩:=mZ ok (o2 e he).2
  have h1:=(tf ok hie).1 (.refl (o2 e he).2)
  clear hie
  induction i using Nat.strongRecOn with
  | ind i ih=>
   by_cases h:∃k,k<i∧Eb (nbA g) e.1.1 e.1.2 (eAt (esN g) k).1 (eAt (esN g) k).2
   ·obtain⟨k,hk,hke⟩:=h
    exact ih k hk (by omega) hke
   ·exact⟨i,hi,h1,fun k hk hke=>h ⟨k,hk,hke⟩⟩
 obtain⟨f,hf⟩:∃f:(Nat×Nat)×List Int→Nat,∀e∈O,f e<(esN g).length∧Eb (nbA g) e.1.1 e.1.2 (eAt (esN g) (f e)).1 (eAt (esN g) (f e)).2∧∀k,k<f e→¬Eb (nbA g) e.1.1 e.1.2 (eAt (esN g) k).1 (eAt (esN g) k).2:=
  ⟨fun e=>if h:e∈O then Classical.choose (ex e h) else 0,fun e he=>by dsimp only;rw[dif_pos he];exact Classical.choose_spec (ex e he)⟩
 have hperm:(O.map f).Perm (kq (esN g).length H):=by
  refine (List.perm_ext_iff_of_nodup ?_ ?_).2 fun i=>?_
  ·refine List.pairwise_map.2 (List.Pairwise.imp_of_mem (fun {a b} ha hb h hab=>?_) o4)
   have h1:=(hf a ha).2.1
   have h2:=(hf b hb).2.1
   rw[← hab] at h2
   exact h (h1.tr (h2.sym hs))
  ·exact List.nodup_range.filter _
  ·rw[List.mem_map,kq,List.mem_filter,List.mem_range,List.all_eq_true]
   simp only[List.mem_range,Bool.not_eq_true',decide_eq_false_iff_not]
   constructor
   ·rintro⟨e,he,rfl⟩
    obtain⟨h1,h2,h3⟩:=hf e he
    refine⟨h1,fun k hk hh=>h3 k hk (h2.tr (((hd (by omega) h1).1 hh).sym hs))⟩
   ·rintro⟨hi,hk⟩
    obtain⟨e,he,hee⟩:=o3 _ _ (td ok hi)
    obtain⟨h1,h2,h3⟩:=hf e he
    refine⟨e,he,?_⟩
    have hle:f e≤i:=Classical.byContradiction fun h=>h3 i (by omega) hee
    refine Classical.byContradiction fun hne=>hk (f e) (by omega) ((hd h1 hi).2 ((h2.sym hs).tr hee))
 have hmap:O.map (·.2)=(O.map f).map fun i=>ae (blL (vset g.1) (esN g) H i):=by
  rw[List.map_map]
  refine List.map_congr_left fun e he=>?_
  obtain⟨⟨C,hC,hCb⟩,_⟩:=o2 e he
  obtain⟨h1,h2,h3⟩:=hf e he
  rw[Function.comp,hC,elL]
  refine congrArg ae <| rA _ _ (eX C) ((eX _).filter _) fun v=>?_
  rw[aL,hCb,blL,List.mem_filter,List.any_eq_true]
  simp only[List.mem_range,Bool.and_eq_true,Bool.or_eq_true,decide_eq_true_eq]
  constructor
  ·rintro⟨hv,y,hy⟩
   have hvy:=hy.adj hs
   obtain⟨k,hk,hke⟩:=mZ ok hvy
   refine⟨aL.2 ⟨hv,gu ok _ _ (hs _ _ hvy)⟩,k,hk,(hd hk h1).2 ((((tf ok hke).1 hy).sym hs).tr h2),?_⟩
   rcases hke with h|h
   ·exact .inl (by rw[h])
   ·exact .inr (by rw[h])
  ·rintro⟨hv,k,hk,hh,hke⟩
   have h4:=h2.tr (((hd hk h1).1 hh).sym hs)
   refine⟨(aL.1 hv).1,?_⟩
   rcases hke with h|h
   ·exact⟨_,by rw[← h];exact h4⟩
   ·exact⟨_,by rw[← h];exact h4.flip⟩
 have hP:(bccF (nbA g) (vset g.1)).Perm (ff g):=by
  refine o1.trans ?_
  rw[ff,hmap,← hH]
  exact (hperm.map _).append_right _
 rw[bccF] at hP ⊢
 exact mP hP (mO _)
end
end Go.Mono
namespace Go.Mono
open Go Go.Proofs Go.RowKit Go.Gr
def szL (l:List (List Int)):Nat:=(l.map fun L=>L.length - 1).sum
theorem a2e {l m:List (List Int)}(h:l.Perm m):szL l=szL m:=by
 induction h with
 | nil=>rfl
 | cons x _ ih=>simp only[szL,List.map_cons,List.sum_cons] at ih ⊢;omega
 | swap x y l=>simp only[szL,List.map_cons,List.sum_cons];omega
 | trans _ _ a b=>exact a.trans b
theorem a2f (l m:List (List Int)):szL (l++m)=szL l+szL m:=by rw[szL,List.map_append,List.sum_append];rfl
theorem tj:∀l:List Nat,szL (l.map fun v:Nat=>[(v:Int)])=0
 | []=>rfl
 | x::l=>by
  have:=tj l
  simp only[szL,List.map_cons,List.sum_cons,List.length_singleton] at this ⊢
  omega
theorem tk:∀O:List ((Nat×Nat)×List Int),szL (O.map (·.2))=szO O
 | []=>rfl
 | e::O=>by
  have:=tk O
  simp only[szL,szO,List.map_cons,List.sum_cons] at this ⊢
  omega
section
variable {g:GT}
theorem a2g (ok:Gr.Ok g):szL (bccF (nbA g) (vset g.1))+(prF (nbA g) (card (vset g.1)) (vset g.1)).length=g.1.length∧∀L∈bccF (nbA g) (vset g.1),L≠[]:=by
 obtain⟨O,o1,o2,o3,o4,o5⟩:=tb (gu ok) (fF ok) (tc ok)
 have h1:(prF (nbA g) (card (vset g.1)) (vset g.1)).length=rpN (nbA g) (vset g.1):=by rw[← a1U,← iH ok,List.length_map]
 refine⟨by rw[h1,a2e o1,a2f,tk,tj,← jJ ok];exact o5,fun L hL hn=>?_⟩
 rcases List.mem_append.1 (o1.mem_iff.1 hL) with h|h
 ·obtain⟨e,he,rfl⟩:=List.mem_map.1 h
  obtain⟨⟨C,hC,hCb⟩,hadj⟩:=o2 e he
  have hb:=(hCb e.1.1).2 ⟨_,.refl hadj⟩
  have:(e.1.1:Int)∈elL C:=dh.2 (aL.2 ⟨aK hb,hb⟩)
  rw[← hC,hn] at this
  cases this
 ·obtain⟨v,_,rfl⟩:=List.mem_map.1 h
  cases hn
end
theorem a2h {G:Nat→Prop}(c:List Nat)(p q:Nat)(la lw:Int)(v:Value)(W:World)(h:(Dv (slE intE) G (ae c)).p v W)(hl:c.length≤100000) :
  Calls Tryz.prog 69 #[v,etV (((p:Int),(q:Int)),(la,lw))] W (Post (E (B (onF c (p,q)))) W):=by
 have hcn:=bC c
 refine eN [v,.agg #[I (p:Nat),I (q:Nat),.int .u8 la,I lw]] [Dv (slE intE) G0 (ae c),E (.agg #[I (p:Nat),I (q:Nat),.int .u8 la,I lw])] Tryz.func69 Tryz.ntmps69 ?_ fun a hf=>?_
 rotate_left
 rotate_right
 ·exact arg2 (Dv.weak h fun b _ hb=>hb.elim) rfl
 have e:=Ext.rfl' W
 refine seq <| ab <| tB hf rfl fun a b3 w v3 hv3 e' hb3 hs3 B3 hf=>?_
 replace e:=e.tr e'
 refine tA hf rfl fun a hf=>aa ?_
 cases hv3
 replace hf:=hf.keep [0,3]
 refine seq <| seq ?_
 refine ab <| tA hf rfl fun a hf=>aa ?_
 replace hf:=hf.keep [0,3,5]
 refine blk (aF (fun r0 a w=>∃(k:Nat) ,r0=c.length - k∧k≤c.length∧Fr 48 a w [(0,Dv (slE intE) G0 (ae c)),(3,E (ptr b3)),(5,E (I k))]∧Ext W w∧Blk w b3 #[I (p:Nat),I (q:Nat),.int .u8 la,I lw] 51∧∀j,j<k→onE c (p,q) j=false) c.length ⟨0,rfl,by omega,hf,e,⟨B3,fun j hj=>absurd hj (by omega)⟩⟩ ?_)
 rintro r0 a w ⟨k,rfl,hk,hf,e,B3,hno⟩
 refine seq <| seq ?_
 refine rgN 4 hf <| st (mv rfl) <| st (mv rfl) <| st (aB U35 (isR rfl)) <| st (lss rfl rfl) <| en fun a w e' hf=>?_
 obtain⟨e,B3⟩:=up2 e' e B3
 refine aa <| ifc hf rfl (fun hc=>ah ?_) (fun hc=>aC ?_)
 rotate_left
 rotate_left
 ·have hlt:k<c.length:=by have:=of_decide_eq_true hc;(try dsimp only at this);omega
  replace hf:=hf.keep [0,3,5]
  refine seq <| blk ?_
  have hm:(k+1) % c.length<c.length:=Nat.mod_lt _ (by omega)
  have hx:=List.getElem?_eq_getElem hlt
  have hy:=List.getElem?_eq_getElem hm
  have hxd:c.getD k 0=c[k]:=by rw[List.getD_eq_getElem?_getD,hx];rfl
  have hyd:c.getD ((k+1) % c.length) 0=c[(k+1) % c.length]:=by rw[List.getD_eq_getElem?_getD,hy];rfl
  generalize c[k]=x at hx hxd
  generalize c[(k+1) % c.length]=y at hy hyd
  have hmod:((k:Int)+1) % (((ae c).length:Nat):Int)=(((k+1) % c.length:Nat):Int):=by rw[hcn];exact (Int.natCast_emod (k+1) c.length).symm
  have dc:∀a b:Nat,((a:Int)==(b:Int))=decide (a=b):=fun a b=>by rw[Bool.eq_iff_iff,beq_iff_eq,decide_eq_true_eq];omega
  have hon:((x:Int)==(p:Int)&&(y:Int)==(q:Int) || (x:Int)==(q:Int)&&(y:Int)==(p:Int))=onE c (p,q) k:=by
   rw[onE,hxd,hyd,dc,dc,dc,dc]
  refine seq <| rgG 14 Mix.mix hf <| st (mv rfl) <| st (mv rfl) <| st (aD U35 S3 (isR rfl) rfl (by omega) (fM hx)) <| st (ldI T3 (isR rfl)) <| st (mv rfl) <| st (mv rfl) <| st (add rfl rfl (by omega)) <| st (mv rfl) <| st (aB U35 (isR rfl)) <| st ((rem rfl rfl (by omega)).eq (congrArg (Value.int .i64) hmod)) <| st (aD U35 S3 (isR rfl) rfl (by omega) (fM hy)) <| st (ldI T3 (isR rfl)) <| st (asg rfl) <| st (asg rfl) <| en fun a w e' hf=>?_
  obtain⟨e,B3⟩:=up2 e' e B3
  refine aa ?_
  replace hf:=hf.keep [0,3,5,6,7]
  refine seq <| rgN 22 hf <| st (mv rfl) <| st (fA U51 rfl T3 rfl) <| st (ld1 T3 rfl B3 rfl) <| st (eql rfl rfl) <| st (mv rfl) <| sgE rfl rfl (.k 7 rfl .n) (fun hgd=>mv rfl) <| sgE rfl rfl (.k 3 rfl .n) (fun hgd=>fA U51 rfl T3 rfl) <| sgE rfl rfl (.c 32 rfl (fun h=>h) .n) (fun hgd=>ld1 T3 rfl B3 rfl) <| sgE rfl rfl (.c 31 rfl (fun h=>h) (.c 33 rfl (fun h=>h) .n)) (fun hgd=>eql rfl rfl) <| st (bA rfl rfl (fun h=>by rw[h];rfl)) ?_
  refine st (mv rfl) <| sgE rfl rfl (.k 6 rfl .n) (fun hgd=>mv rfl) <| sgE rfl rfl (.k 3 rfl .n) (fun hgd=>fA U51 rfl T3 rfl) <| sgE rfl rfl (.c 38 rfl (fun h=>h) .n) (fun hgd=>ld1 T3 rfl B3 rfl) <| sgE rfl rfl (.c 37 rfl (fun h=>h) (.c 39 rfl (fun h=>h) .n)) (fun hgd=>eql rfl rfl) <| sgE rfl rfl (.c 40 rfl (fun h=>h) .n) (fun hgd=>mv rfl) <| sgC rfl rfl (.k 7 rfl .n) (fun hgd=>mv rfl) <| sgC rfl rfl (.k 3 rfl .n) (fun hgd=>fA U51 rfl T3 rfl) <| sgC rfl rfl (.c 43 rfl (fun h=>h) .n) (fun hgd=>ld1 T3 rfl B3 rfl) <| sgC rfl rfl (.c 42 rfl (fun h=>h) (.c 44 rfl (fun h=>h) .n)) (fun hgd=>eql rfl rfl) <| sgE rfl rfl (.c 41 rfl (fun h=>h) (.k 45 rfl .n)) (fun hgd=>bA rfl rfl (fun h=>by rw[hgd,h];rfl)) ?_
  refine st (bD rfl rfl (fun h=>by rw[h];rfl)) ?_
  refine en fun a w e' hf=>?_
  obtain⟨e,B3⟩:=up2 e' e B3
  refine aa ?_
  rw[hon] at hf
  replace hf:=hf.keep [0,3,5,47]
  cases hb:onE c (p,q) k with
  | true=>
   rw[hb] at hf
   have hz:onF c (p,q)=true:=by
    rw[onF,List.any_eq_true]
    exact⟨k,List.mem_range.2 hlt,hb⟩
   rw[hz]
   refine ifT hf rfl ?_
   refine seq <| ab <| tA hf rfl fun a hf=>aa <| ai <| am rfl hf rfl ?_
   rintro _ rfl
   exact⟨_,rfl,e,rfl⟩
  | false=>
   rw[hb] at hf
   refine ifF hf rfl ?_
   refine ah <| rgN 2 hf <| st (mv rfl) <| st ((add rfl rfl (by omega)).eq (iN k)) <| en fun a w e' hf=>?_
   obtain⟨e,B3⟩:=up2 e' e B3
   refine tA hf rfl fun a hf=>aa ?_
   replace hf:=hf.keep [0,3,5]
   refine⟨_,?_,k+1,rfl,by omega,hf,e,?_⟩
   ·omega
   exact⟨B3,fun j hj=>if hjk:j<k then hno j hjk else (show j=k by omega)▸hb⟩
 ·obtain rfl:k=c.length:=by have:=of_decide_eq_false hc;(try dsimp only at this);omega
  have hz:onF c (p,q)=false:=by
   rw[onF,List.any_eq_false]
   exact fun j hj=>by rw[hno j (List.mem_range.1 hj)];exact Bool.false_ne_true
  rw[hz]
  refine seq <| ab <| tA hf rfl fun a hf=>aa <| ai <| am rfl hf rfl ?_
  rintro _ rfl
  exact⟨_,rfl,e,rfl⟩
end Go.Mono
namespace Go.Mono
open Go Go.Proofs Go.RowKit Go.Gr
open Go.MonoD (aS)
theorem tl:∀p q:List Nat,lsF p q=decide (aS (ae p) (ae q)<0)
 | [],[]=>by simp[lsF,ae,aS]
 | [],y::q=>by simp[lsF,ae,aS]
 | x::p,[]=>by simp[lsF,ae,aS]
 | x::p,y::q=>by
  have ih:=tl p q
  simp only[ae,List.map_cons,lsF,aS] at ih ⊢
  by_cases h:x=y
  ·subst h
   rw[if_pos rfl,if_neg (by simp[MonoD.cmpI])];exact ih
  ·have h1:MonoD.cmpI (x:Int) (y:Int)=if x<y then -1 else 1:=by
    by_cases h2:x<y
    ·rw[if_pos h2];simp[MonoD.cmpI,h2]
    ·rw[if_neg h2];simp[MonoD.cmpI,h2,show y<x by omega]
   rw[if_neg h,h1]
   by_cases h2:x<y
   ·simp[h2]
   ·simp[h2]
structure SrI (L:List (List Int))(i k:Nat)(s:List (List Int)):Prop where
 pm:s.Perm L
 le:k≤i∧i<s.length
 oth:∀a b,a<b→b≤i→a≠k→b≠k→¬aS (s.getD b []) (s.getD a [])<0
 up:∀b,k<b→b≤i→¬aS (s.getD b []) (s.getD k [])<0
theorem SrI.start {L s:List (List Int)}{i:Nat}(hp:s.Perm L)(hi:i<s.length)(h:∀a b,a<b→b<i→¬aS (s.getD b []) (s.getD a [])<0):SrI L i i s:=
 ⟨hp,⟨Nat.le_refl _,hi⟩,fun a b h1 h2 _ h4=>h a b h1 (by omega),fun b h1 h2=>absurd h1 (by omega)⟩
theorem SrI.stop {L s:List (List Int)}{i k:Nat}(H:SrI L i k s)(h:k=0∨¬aS (s.getD k []) (s.getD (k - 1) [])<0):∀a b,a<b→b<i+1→¬aS (s.getD b []) (s.getD a [])<0:=fun a b h1 h2=>by
 by_cases hb:b=k
 ·subst hb
  have hk:=h.resolve_left (by omega)
  by_cases ha:a=b - 1
  ·rw[ha];exact hk
  ·exact sk (H.oth a (b - 1) (by omega) (by have:=H.le;omega) (by omega) (by omega)) hk
 ·by_cases ha:a=k
  ·rw[ha];exact H.up b (by omega) (by omega)
  ·exact H.oth a b h1 (by omega) ha hb
theorem a2i {A B:List (List Int)}{x y:List Int}:((A++x::y::B).set A.length y).set (A.length+1) x=A++y::x::B:=by
 simp[List.set_append]
theorem kr {A B:List (List Int)}{x y:List Int}(j:Nat):(A++y::x::B).getD j []=if j=A.length+1 then x else if j=A.length then y else (A++x::y::B).getD j []:=by
 simp only[List.getD_eq_getElem?_getD,List.getElem?_append]
 by_cases h:j<A.length
 ·rw[if_pos h,if_neg (by omega),if_neg (by omega),if_pos h]
 ·rw[if_neg h,if_neg h]
  obtain⟨m,rfl⟩:∃m,j=A.length+m:=⟨j - A.length,by omega⟩
  rw[Nat.add_sub_cancel_left]
  match m with
  | 0=>rw[if_neg (by omega),if_pos (by omega)];rfl
  | 1=>rw[if_pos rfl];rfl
  | m+2=>rw[if_neg (by omega),if_neg (by omega)];rfl
theorem SrI.move {L s:List (List Int)}{i k:Nat}(H:SrI L i (k+1) s)(h:aS (s.getD (k+1) []) (s.getD k [])<0):SrI L i k ((s.set k (s.getD (k+1) [])).set (k+1) (s.getD k [])):=by
 have hl:=H.le
 obtain⟨A,x,y,B,rfl,hA⟩:∃A x y B,s=A++x::y::B∧A.length=k:=by
  refine⟨s.take k,s[k],s[k+1],s.drop (k+2),?_,by rw[List.length_take];omega⟩
  rw[← List.drop_eq_getElem_cons,← List.drop_eq_getElem_cons,List.take_append_drop]
 subst hA
 have hx:(A++x::y::B).getD A.length []=x:=by simp
 have hy:(A++x::y::B).getD (A.length+1) []=y:=by simp
 rw[hx,hy] at h
 rw[hx,hy,a2i]
 have n1:=gI x y
 refine⟨(List.Perm.append_left A (List.Perm.swap x y B)).trans H.pm,⟨by omega,by simpa using hl.2⟩,fun a b h1 h2 h3 h4=>?_,fun b h1 h2=>?_⟩
 ·rw[kr a,kr b,if_neg h3,if_neg h4]
  by_cases hb:b=A.length+1
  ·rw[if_pos hb,if_neg (by omega)]
   have:=H.oth a A.length (by omega) (by omega) (by omega) (by omega)
   rwa [hx] at this
  ·rw[if_neg hb]
   by_cases ha:a=A.length+1
   ·rw[if_pos ha]
    have:=H.oth A.length b (by omega) h2 (by omega) hb
    rwa [hx] at this
   ·rw[if_neg ha]
    exact H.oth a b h1 h2 ha hb
 ·rw[kr b,kr A.length,if_neg (show ¬A.length=A.length+1 by omega),if_pos rfl]
  by_cases hb:b=A.length+1
  ·rw[if_pos hb];omega
  ·rw[if_neg hb,if_neg (by omega)]
   have:=H.up b (by omega) h2
   rwa [hy] at this
end Go.Mono
namespace Go.Mono
open Go Go.Proofs Go.RowKit Go.Gr
def rtF (up:Nat→Nat):Nat→Nat→Nat
 | 0,a=>a
 | f+1,a=>if up a=a then a else rtF up f (up a)
def rt (up:Nat→Nat)(a:Nat):Nat:=rtF up a a
def Dn (up:Nat→Nat):Prop:=∀x,up x≤x
section
variable {up:Nat→Nat}
end
def upC (n:Nat)(up:Nat→Nat):Array Value:=((List.range n).map fun i=>I (up i:Nat)).toArray
structure PtB (w:World)(bp bu n:Nat)(up:Nat→Nat):Prop where
 p:Blk w bp #[.slice (some ⟨bu,0,none⟩) n n] 158
 u:Blk w bu (upC n up) 3
theorem PtB.ext {w w':World}{bp bu n:Nat}{up:Nat→Nat}(h:PtB w bp bu n up)(e:Ext w w'):PtB w' bp bu n up:=⟨h.p.ext e,h.u.ext e⟩
instance {w w':World}{bp bu n:Nat}{up:Nat→Nat}:Ug w w' (PtB w bp bu n up) (PtB w' bp bu n up):=⟨fun e h=>h.ext e⟩
def PtQ (bp bu n:Nat)(ρ:Nat→Nat)(w:World):Prop:=∃up,PtB w bp bu n up∧Dn up∧∀x,rt up x=ρ x
theorem PtQ.ext {w w':World}{bp bu n:Nat}{ρ:Nat→Nat}(h:PtQ bp bu n ρ w)(e:Ext w w'):PtQ bp bu n ρ w':=by
 obtain⟨up,h1,h2⟩:=h
 exact⟨up,h1.ext e,h2⟩
theorem atZ {b k:Nat}:Value.pointer (some ⟨b,0+((k:Nat):Int).toNat * 1,none⟩)=Value.pointer (some ⟨b,k,none⟩):=by rw[Int.toNat_natCast,Nat.zero_add,Nat.mul_one]
theorem a2j {l:List Int}{k:Nat}{x:Int}(h:l[k]?=some x):(bY l)[k]?=some (I x):=by
 rw[bY,List.getElem?_toArray,List.getElem?_map,h];rfl
theorem dN {l:List Nat}{k x:Nat}(h:l[k]?=some x):(bY (ae l))[k]?=some (I (x:Nat)):=a2j (fM h)
theorem tm (l:List Nat)(k x:Nat):(bY (ae l)).setIfInBounds k (I (x:Nat))=bY (ae (l.set k x)):=by
 rw[uk,ae,ae,List.map_set]
theorem tn (l:List Nat):(bY (ae l)).size=l.length:=by rw[um,bC]
def hd0 (m k:Nat):List Nat:=List.range k++List.replicate (m - k) 0
theorem a2k {m k:Nat}(h:k≤m):(hd0 m k).length=m:=by simp[hd0];omega
theorem a2l (m:Nat):(List.replicate m (I 0)).toArray=bY (ae (hd0 m 0)):=by
 simp[hd0,bY,ae]
theorem a2m {m k:Nat}(h:k<m):(hd0 m k).set k k=hd0 m (k+1):=by
 rw[hd0,hd0,List.range_succ,List.set_append_right _ _ (by simp),List.length_range,Nat.sub_self,show m - k=(m - (k+1))+1 by omega,List.replicate_succ,List.set_cons_zero,List.append_assoc];rfl
theorem a2n (m:Nat):hd0 m m=List.range m:=by simp[hd0]
def rpl (h:List Nat)(y x k:Nat):List Nat:=(h.take k).map (fun z=>if z=y then x else z)++h.drop k
theorem a2o {h:List Nat}{y x k:Nat}:(rpl h y x k).length=h.length:=by rw[rpl,List.length_append,List.length_map,List.length_take,List.length_drop];omega
theorem a2p (h:List Nat)(y x:Nat):rpl h y x 0=h:=by simp[rpl]
theorem a2q (h:List Nat)(y x:Nat):rpl h y x h.length=h.map fun z=>if z=y then x else z:=by rw[rpl,List.take_length,List.drop_length,List.append_nil]
theorem a2r {h:List Nat}{y x k z:Nat}(hz:h[k]?=some z):(rpl h y x k)[k]?=some z:=by
 have hk:=(List.getElem?_eq_some_iff.1 hz).1
 rw[rpl,List.getElem?_append_right (by rw[List.length_map,List.length_take];omega),List.length_map,List.length_take,Nat.min_eq_left (by omega),Nat.sub_self,List.getElem?_drop]
 exact hz
theorem tp {h:List Nat}{y x k z:Nat}(hz:h[k]?=some z):rpl h y x (k+1)=(h.take k).map (fun z=>if z=y then x else z)++(if z=y then x else z)::h.drop (k+1):=by
 rw[rpl,bs hz,List.map_append,List.append_assoc];rfl
theorem tq {h:List Nat}{k z:Nat}(hz:h[k]?=some z):h.drop k=z::h.drop (k+1):=by
 obtain⟨hk,he⟩:=List.getElem?_eq_some_iff.1 hz
 rw[← he,List.getElem_cons_drop]
theorem a2s {h:List Nat}{y x k:Nat}(hz:h[k]?=some y):(rpl h y x k).set k x=rpl h y x (k+1):=by
 have hk:=(List.getElem?_eq_some_iff.1 hz).1
 rw[tp hz,if_pos rfl,rpl,tq hz,List.set_append_right _ _ (by simp;omega),List.length_map,List.length_take,Nat.min_eq_left (by omega),Nat.sub_self,List.set_cons_zero]
theorem a2t {h:List Nat}{y x k z:Nat}(hz:h[k]?=some z)(hn:z≠y):rpl h y x (k+1)=rpl h y x k:=by
 rw[tp hz,if_neg hn,rpl,tq hz]
def fI (o:Option Nat):Int:=match o with
 | none => -1
 | some f=>(f:Int)
theorem a2u (es:List (Nat×Nat))(c:List Nat)(s:Option Nat×List Nat)(i:Nat):(hdS es c s i).2.length=s.2.length:=by
 rw[hdS];split
 ·split <;> simp
 ·rfl
theorem a2v {es:List (Nat×Nat)}{c:List Nat}{s:Option Nat×List Nat}{i m:Nat}(hi:i<m)(h:∀f,s.1=some f→f<m):∀f,(hdS es c s i).1=some f→f<m:=by
 intro f hf
 rw[hdS] at hf
 split at hf
 ·split at hf
  ·cases hf;exact hi
  ·rename_i f' hf';cases hf;exact h _ hf'
 ·exact h f hf
theorem nc (es:List (Nat×Nat))(c:List Nat)(h:List Nat)(m:Nat):∀n,n≤m→((List.range n).foldl (hdS es c) (none,h)).2.length=h.length∧∀f,((List.range n).foldl (hdS es c) (none,h)).1=some f→f<m
 | 0,_=>⟨rfl,fun f hf=>by cases hf⟩
 | n+1,hn=>by
  obtain⟨a,b⟩:=nc es c h m n (by omega)
  rw[List.range_succ,List.foldl_append]
  exact⟨(a2u ..).trans a,a2v (by omega) b⟩
theorem a2w (es:List (Nat×Nat))(h c:List Nat):(hdC es h c).length=h.length:=(nc es c h es.length es.length (Nat.le_refl _)).1
theorem nd (es:List (Nat×Nat)):∀(cs:List (List Nat)) (h:List Nat),(cs.foldl (hdC es) h).length=h.length
 | [],h=>rfl
 | c::cs,h=>(nd es cs _).trans (a2w es h c)
theorem a2x (p:Nat→Bool)(j:Nat):(List.range (j+1)).all p=((List.range j).all p&&p j):=by
 rw[List.range_succ,List.all_append];simp
theorem any_succ (p:Nat→Bool)(j:Nat):(List.range (j+1)).any p=((List.range j).any p || p j):=by
 rw[List.range_succ,List.any_append];simp
theorem tt {α β:Type}{l:List α}{k:Nat}{x:α}(p:α→Bool)(f:α→β)(h:l[k]?=some x):((l.take (k+1)).filter p).map f=((l.take k).filter p).map f++if p x=true then [f x] else []:=by
 rw[bs h,List.filter_append,List.map_append]
 cases hp:p x with
 | true=>rw[List.filter_cons_of_pos hp,List.filter_nil,if_pos rfl];rfl
 | false=>rw[List.filter_cons_of_neg (by rw[hp];decide),List.filter_nil,if_neg (by decide)];rfl
theorem a2y {β:Type}(p:Nat→Bool)(f:Nat→β)(k:Nat):((List.range (k+1)).filter p).map f=((List.range k).filter p).map f++if p k=true then [f k] else []:=by
 rw[List.range_succ,List.filter_append,List.map_append]
 cases hp:p k with
 | true=>rw[List.filter_cons_of_pos hp,List.filter_nil,if_pos rfl];rfl
 | false=>rw[List.filter_cons_of_neg (by rw[hp];decide),List.filter_nil,if_neg (by decide)];rfl
theorem a2z {g:GT}(ok:Gr.Ok g)(n:Nat):(dY g (n:Int)).length=0↔nbA g (n:Int)=0:=by
 rw[List.length_eq_zero_iff,List.eq_nil_iff_forall_not_mem]
 constructor
 ·intro h
  refine fC fun i=>⟨fun hi=>absurd ((qQ ok).2 ⟨i,rfl,hi⟩) (h _),fun hi=>absurd hi (bF i)⟩
 ·intro h x hx
  obtain⟨u,_,hu⟩:=(qQ ok).1 hx
  rw[h] at hu;exact bF u hu
def BkL (ty b:Nat)(s:List (List Int))(w:World):Prop:=∃cur,Blk w b cur ty∧s.length≤cur.size∧∀i,i<s.length→∃u,cur[i]?=some u∧(Dv (slE intE) (fun c=>c=b) (s.getD i [])).p u w
theorem BkL.ext {ty b:Nat}{s:List (List Int)}{w w':World}(h:BkL ty b s w)(e:Ext w w'):BkL ty b s w':=by
 obtain⟨cur,h1,h2,h3⟩:=h
 exact⟨cur,h1.ext e,h2,fun i hi=>by
  obtain⟨u,h4,h5⟩:=h3 i hi
  exact⟨u,h4,vst e h5⟩⟩
theorem OwR.bkl {ty N:Nat}{G:Nat→Prop}{w:World}{s:List (List Int)}{v:Value}(h:OwR (slE intE) ty N G w s v):(v=.slice none 0 0∧s=[])∨∃b cap,v=.slice (some ⟨b,0,none⟩) s.length cap∧N≤b∧BkL ty b s w:=by
 obtain⟨cs,⟨hlen,hv⟩,hcs⟩:=h.own
 rcases hv with ⟨rfl,hn⟩|⟨g0,cap,cur,rfl,hB,hheap,hcap,hmax,hcur,htake⟩
 ·exact .inl ⟨rfl,List.length_eq_zero_iff.1 hn⟩
 ·have hk1:(slE intE).k=1:=rfl
  rw[hk1,Nat.mul_one] at hcur htake
  obtain⟨c1,c2⟩:=mL rfl s cs hcs
  refine .inr ⟨g0,cap,rfl,hB,cur,hheap,by rw[hcur];exact hcap,fun i hi=>?_⟩
  obtain⟨u,k1,k2⟩:=c2 i hi
  refine⟨u,?_,?_⟩
  ·rw[← htake,List.getElem?_take_of_lt hi,Array.getElem?_toList] at k1
   exact k1
  ·have e1:lxs s i=s.getD i []:=by rw[lxs,List.getD_eq_getElem?_getD]
   rw[← e1]
   exact Dv.weak k2 fun b _ hb=>.inr (by rw[hb];rfl)
theorem BkL.dv {ty b cap:Nat}{s:List (List Int)}{w:World}{n:Nat}(h:BkL ty b s w)(hn:n=s.length)(hc:n≤cap):(Dv (slE (slE intE)) G0 s).p (.slice (some ⟨b,0,none⟩) n cap) w:=by
 obtain⟨cur,h1,h2,h3⟩:=h
 subst hn
 have hlt:(cur.toList.take s.length).length=s.length:=by rw[List.length_take,Array.length_toList (xs:=cur)];omega
 refine Dv.sl.2 (.inr ⟨_,cap,cur.toList.take s.length,rfl,hc,fun h=>h.elim,h1.lt,mM rfl s _ hlt fun i hi=>?_,fun i u hu=>?_⟩)
 ·obtain⟨u,k1,k2⟩:=h3 i hi
  refine⟨u,by rw[List.getElem?_take_of_lt hi,Array.getElem?_toList];exact k1,?_⟩
  have e1:lxs s i=s.getD i []:=by rw[lxs,List.getD_eq_getElem?_getD]
  rw[e1]
  exact Dv.weak k2 fun b _ hb=>hb.elim
 ·have hi:i<s.length:=by have:=(List.getElem?_eq_some_iff.1 hu).1;rw[List.length_take] at this;omega
  rw[List.getElem?_take_of_lt hi,Array.getElem?_toList] at hu
  rw[Addr.add_lit,Nat.zero_add,h1.cell i];exact hu
theorem a2A {ty b k:Nat}{s:List (List Int)}{w w':World}{cur:Array Value}{u1 u2:Value}(hk:k+1<s.length)(h2:s.length≤cur.size)(h3:∀i,i<s.length→∃u,cur[i]?=some u∧(Dv (slE intE) (fun c=>c=b) (s.getD i [])).p u w)
  (hu1:cur[k]?=some u1) (hu2:cur[k+1]?=some u2) (hB:Blk w' b ((cur.setIfInBounds k u2).setIfInBounds (k+1) u1) ty) (hd:∀xs u,(Dv (slE intE) (fun c=>c=b) xs).p u w→(Dv (slE intE) (fun c=>c=b) xs).p u w') :
  BkL ty b ((s.set k (s.getD (k+1) [])).set (k+1) (s.getD k [])) w':=by
 refine⟨_,hB,by simpa using h2,fun i hi=>?_⟩
 rw[List.length_set,List.length_set] at hi
 obtain⟨v1,a1,a2⟩:=h3 k (by omega)
 obtain⟨v2,b1,b2⟩:=h3 (k+1) hk
 rw[hu1] at a1;cases a1
 rw[hu2] at b1;cases b1
 by_cases h5:i=k+1
 ·subst h5
  refine⟨u1,by rw[Array.getElem?_setIfInBounds_self_of_lt (by rw[Array.size_setIfInBounds];omega)],?_⟩
  rw[List.getD_eq_getElem?_getD,List.getElem?_set_self (by rw[List.length_set];omega)]
  exact hd _ _ a2
 ·by_cases h6:i=k
  ·subst h6
   refine⟨u2,by rw[Array.getElem?_setIfInBounds_ne (by omega),Array.getElem?_setIfInBounds_self_of_lt (by omega)],?_⟩
   rw[List.getD_eq_getElem?_getD,List.getElem?_set_ne (by omega),List.getElem?_set_self (by omega)]
   exact hd _ _ b2
  ·obtain⟨u,c1,c2⟩:=h3 i hi
   refine⟨u,by rw[Array.getElem?_setIfInBounds_ne (by omega),Array.getElem?_setIfInBounds_ne (by omega)];exact c1,?_⟩
   rw[List.getD_eq_getElem?_getD,List.getElem?_set_ne (by omega),List.getElem?_set_ne (by omega),← List.getD_eq_getElem?_getD]
   exact hd _ _ c2
theorem a2B {g:GT}(ok:Gr.Ok g)(hl1:g.1.length≤7)(hl2:g.2.length≤17):(bccF (nbA g) (vset g.1)).length≤24∧∀L∈bccF (nbA g) (vset g.1),L.length≤7:=by
 have hvl:=ez ok
 have hel:(esN g).length=g.2.length:=by rw[esN,List.length_map]
 rw[tg ok]
 have hp:=iK (ff g)
 refine⟨?_,fun L hL=>?_⟩
 ·rw[hp.length_eq,ff,List.length_append,List.length_map,List.length_map,kq]
  have h1:=List.length_filter_le (fun i=>(List.range i).all fun k => !decide ((hdF (esN g) (cyA g)).getD k 0=(hdF (esN g) (cyA g)).getD i 0)) (List.range (esN g).length)
  have h2:=List.length_filter_le (fun v:Nat=>decide (nbA g (v:Int)=0)) (aj (vset g.1))
  rw[List.length_range] at h1
  omega
 ·rcases List.mem_append.1 (hp.mem_iff.1 hL) with h|h
  ·obtain⟨i,_,rfl⟩:=List.mem_map.1 h
   rw[bC,blL]
   exact Nat.le_trans (List.length_filter_le _ _) (by omega)
  ·obtain⟨v,_,rfl⟩:=List.mem_map.1 h
   simp
end Go.Mono
namespace Go.Mono
open Go Go.Proofs Go.RowKit Go.Gr
open Go.MonoD (aS)
theorem dcN (a b:Nat):((a:Int)==(b:Int))=decide (a=b):=by rw[Bool.eq_iff_iff,beq_iff_eq,decide_eq_true_eq];omega
set_option maxHeartbeats 1600000 in
theorem a2C {G:Nat→Prop}(g:GT)(ok:Gr.Ok g)(v:Value)(W:World)(h:(Dv gtE G g).p v W)(hl1:g.1.length≤7)(hl2:g.2.length≤100000) :
  Calls Tryz.prog 21 #[v] W (Post (Dv (slE (slE intE)) Go.Mono.G0 (fL (ff g))) W):=by
 have hg0:(Dv gtE Go.Mono.G0 g).p v W:=Dv.weak h fun b _ hb=>hb.elim
 obtain⟨u1,u2,rfl,h1,h2⟩:=Dv.gt.1 hg0
 have h1b:=Dv.toB h1
 obtain⟨hal,hac⟩:=a1N ok hl1
 have hvl:=ez ok
 have hen:=gy ok
 have hns:=a2z ok
 have hel:(esN g).length=g.2.length:=by rw[esN,List.length_map]
 have hey:∀(j:Nat) (x:ET),g.2[j]?=some x→(esN g)[j]?=some (x.1.1.toNat,x.1.2.toNat):=fun j x hx=>by rw[esN,List.getElem?_map,hx];rfl
 obtain⟨U,hU⟩:=eqX (ff g)
 rw[← hU]
 rw[ff] at hU
 obtain⟨cs,hcs⟩:=eqX (cyA g)
 obtain⟨es,hes⟩:=eqX (esN g)
 obtain⟨m,hm⟩:=eqX g.2.length
 obtain⟨V,hV⟩:=eqX (vset g.1)
 rw[← hes,← hcs,← hV] at hU
 rw[← hcs] at hal hac
 rw[← hes,← hm] at hel
 rw[← hes] at hey
 have hml:(cs.map ae).length=cs.length:=List.length_map ..
 refine enter (args:=[.agg #[u1,u2]]) (As:=[E (.agg #[u1,u2])]) Tryz.func21 rfl Tryz.ntmps21 (Nat.le_of_ble_eq_true rfl) ?_ (fun a hf=>?_) (Nat.le_of_ble_eq_true rfl)
 rotate_left
 dsimp only[params,Nat.reduceAdd] at hf
 rotate_right
 ·exact arg1 rfl
 have e:=Ext.rfl' W
 refine seq <| ab <| fk hf rfl (by decide) fun a b1 w v1 hv1 e' hb1 hs1 B1 hf=>?_
 replace e:=e.tr e'
 refine aA hf rfl (by decide) fun a hf=>aa ?_
 cases hv1
 replace hf:=hf.kp [1]
 have e1:=e
 refine seq <| ay 2 hf (by decide +kernel) <| st ((ldW T25 rfl B1 rfl).eq ((rfl:_=Value.agg #[u1,u2]))) <| st (ak (A:=Dv (slE (slE intE)) Go.Mono.G0 (cs.map ae)) (B:=E (.agg #[u1,u2])) uX rfl (fun v w he k=>by cases k;rw[hcs];exact a1J g ok _ w (vst (e1.tr he) hg0) hl1 hl2 (fun b hb=>hb.elim))) ?_
 refine en fun a w e' hf=>?_
 replace e:=e.tr e'
 replace B1:=B1.ext e'
 refine aA hf rfl (by decide) fun a hf=>aa ?_
 obtain⟨N1,hN1⟩:=eqX w.heap.size
 have hN1s:N1≤w.heap.size:=Nat.le_of_eq hN1
 have hWN:W.heap.size≤N1:=by rw[hN1];exact e.size
 have lb1:b1<N1:=by rw[hN1];exact B1.lt
 replace hf:=hf.upd (B:=Dv (slE (slE intE)) (fun b=>N1≤b) (cs.map ae)) 3 rfl (fun v h=>Dv.weak h fun b hb hh=>absurd hb (Nat.not_lt.2 (by omega)))
 replace hf:=hf.kp [1,3]
 refine seq <| ay 3 hf (by decide +kernel) <| st (bJ Tryz.underlying25 rfl T23 (by decide) rfl) <| st (ld1 T23 rfl (by assumption) rfl) <| st (aB Tryz.underlying23 (isE rfl (vst e h2))) <| en fun a w e' hf=>?_
 replace hN1s:=Nat.le_trans hN1s e'.size
 replace e:=e.tr e'
 replace B1:=B1.ext e'
 refine nE Tryz.underlying35 I3 rfl hf (by decide) rfl (by omega) (by decide) fun a b31 w e' hb31 hs31 B31 hf=>?_
 have lo31_hN1s:=Nat.le_trans hN1s (Nat.le_of_eq hb31.symm)
 replace hN1s:=Nat.le_trans hN1s e'.size
 replace e:=e.tr e'
 replace B1:=B1.ext e'
 refine aA hf rfl (by decide) fun a hf=>aa ?_
 have n31:N1≤b31:=lo31_hN1s
 have n1:b1≠b31:=by omega
 rw[← hm] at hf B31
 replace B31:Blk w b31 (bY (ae (hd0 m 0))) 3:=by rw[← a2l];exact B31
 haveI r1:InR (fun b=>N1≤b) (some b31):=⟨fun b hb=>by cases hb;exact n31⟩
 replace hf:=hf.kp [1,3,4]
 refine seq <| seq ?_
 refine ab <| aA hf rfl (by decide) fun a hf=>aa ?_
 replace hf:=hf.kp [1,3,4,5]
 refine blk (aF (fun r0 a w=>∃(k:Nat) ,r0=m - k∧k≤m∧Fr 252 a w [(1,E (ptr b1)),(3,Dv (slE (slE intE)) (fun b=>N1≤b) (cs.map ae)),(4,E (.slice (some ⟨b31,0,none⟩) m m)),(5,E (I k))]∧Ext W w∧Blk w b1 #[u1,u2] 25∧Blk w b31 (bY (ae (hd0 m k))) 3) m ⟨0,rfl,by omega,hf,e,⟨B1,B31⟩⟩ ?_)
 rintro r0 a w ⟨k,rfl,hk,hf,e,B1,B31⟩
 refine seq <| seq ?_
 refine ay 5 hf (by decide +kernel) <| st (mv rfl) <| st (bJ Tryz.underlying25 rfl T23 (by decide) rfl) <| st (ld1 T23 rfl (by assumption) rfl) <| st ((aB Tryz.underlying23 (isE rfl (vst e h2))).eq (congrArg (Value.int .i64) (show ((g.2.length:Nat):Int)=((m:Nat):Int) by rw[hm]))) <| st (lss rfl rfl) <| en fun a w e' hf=>?_
 replace e:=e.tr e'
 replace B1:=B1.ext e'
 replace B31:=B31.ext e'
 refine aa <| ifc hf rfl (fun hc=>ah ?_) (fun hc=>aC ?_)
 rotate_left
 rotate_left
 ·have hlt:=ltC hc
  replace hf:=hf.kp [1,3,4,5]
  refine seq <| blk <| ay 4 hf (by decide +kernel) <| st (mv rfl) <| st (mv rfl) <| st (mv rfl) <| st ((idxS Tryz.underlying35 S3 rfl rfl (by omega)).eq (atZ)) <| en fun a w e' hf=>?_
  replace e:=e.tr e'
  replace B1:=B1.ext e'
  replace B31:=B31.ext e'
  refine aI T3 hf rfl rfl rfl B31 (by rw[tn,a2k (Nat.le_of_lt hlt)];exact hlt) fun w hg hsz B31 hf=>?_
  replace e:=e.gr hg (by omega);replace B1:=B1.gr hg n1;clear hg
  refine aa ?_
  rw[tm,a2m hlt] at B31
  refine ay 2 hf (by decide +kernel) <| st (mv rfl) <| st ((add rfl rfl (by omega)).eq (iN k)) <| en fun a w e' hf=>?_
  replace e:=e.tr e'
  replace B1:=B1.ext e'
  replace B31:=B31.ext e'
  refine aA hf rfl (by decide) fun a hf=>aa ?_
  replace hf:=hf.kp [1,3,4,5]
  refine⟨_,?_,k+1,rfl,by omega,hf,e,?_⟩
  ·omega
  exact⟨B1,B31⟩
 ·obtain rfl:m=k:=by have:=of_decide_eq_false hc;(try dsimp only at this);omega
  rw[a2n] at B31
  replace hf:=hf.kp [1,3,4]
  refine seq <| seq ?_
  refine ab <| aA hf rfl (by decide) fun a hf=>aa ?_
  replace hf:=hf.keep [1,3,4,6]
  refine blk (aF (fun r0 a w=>∃(k:Nat) ,r0=(cs.map ae).length - k∧k≤(cs.map ae).length∧Fr 252 a w [(1,E (ptr b1)),(3,Dv (slE (slE intE)) (fun b=>N1≤b) (cs.map ae)),(4,E (.slice (some ⟨b31,0,none⟩) m m)),(6,E (I k))]∧Ext W w∧Blk w b1 #[u1,u2] 25∧Blk w b31 (bY (ae ((cs.take k).foldl (hdC es) (List.range m)))) 3) (cs.map ae).length ⟨0,rfl,by omega,hf,e,⟨B1,B31⟩⟩ ?_)
  rintro r0 a w ⟨k,rfl,hk,hf,e,B1,B31⟩
  refine seq <| seq ?_
  refine ay 4 hf (by decide +kernel) <| st (mv rfl) <| st (mv rfl) <| st (aB Tryz.underlying39 (isR rfl)) <| st (lss rfl rfl) <| en fun a w e' hf=>?_
  replace e:=e.tr e'
  replace B1:=B1.ext e'
  replace B31:=B31.ext e'
  refine aa <| ifc hf rfl (fun hc=>ah ?_) (fun hc=>aC ?_)
  rotate_left
  rotate_left
  ·have hlt:=ltC hc
   replace hf:=hf.keep [1,3,4,6]
   refine seq <| blk ?_
   have hc:=List.getElem?_eq_getElem (show k<cs.length by omega)
   generalize cs[k]=c at hc
   have hcm:(cs.map ae)[k]?=some (ae c):=by rw[List.getElem?_map,hc];rfl
   have hcl:=(hac c (List.mem_of_getElem? hc)).2
   have hsc:(cs.take (k+1)).foldl (hdC es) (List.range m)=hdC es ((cs.take k).foldl (hdC es) (List.range m)) c:=by rw[bs hc,List.foldl_append];rfl
   have hhl:((cs.take k).foldl (hdC es) (List.range m)).length=m:=by rw[nd,List.length_range]
   generalize (cs.take k).foldl (hdC es) (List.range m)=h0 at hsc hhl B31
   have hfold:=nc es c h0 m
   refine seq <| ab <| aA hf rfl (by decide) fun a hf=>aa <| seq <| ab <| aA hf rfl (by decide) fun a hf=>aa ?_
   replace hf:=hf.upd (B:=E (I (fI ((List.range 0).foldl (hdS es c) (none,h0)).1))) 7 rfl (fun v h=>h)
   replace hf:=hf.keep [1,3,4,6,7,8]
   refine blk (aF (fun r0 a w=>∃(j:Nat) ,r0=m - j∧j≤m∧Fr 252 a w [(1,E (ptr b1)),(3,Dv (slE (slE intE)) (fun b=>N1≤b) (cs.map ae)),(4,E (.slice (some ⟨b31,0,none⟩) m m)),(6,E (I k)),(7,E (I (fI ((List.range j).foldl (hdS es c) (none,h0)).1))),(8,E (I j))]∧Ext W w∧Blk w b1 #[u1,u2] 25∧Blk w b31 (bY (ae ((List.range j).foldl (hdS es c) (none,h0)).2)) 3) m ⟨0,rfl,by omega,hf,e,⟨B1,B31⟩⟩ ?_)
   rintro r0 a w ⟨j,rfl,hj,hf,e,B1,B31⟩
   refine seq <| seq ?_
   refine ay 5 hf (by decide +kernel) <| st (mv rfl) <| st (bJ Tryz.underlying25 rfl T23 (by decide) rfl) <| st (ld1 T23 rfl (by assumption) rfl) <| st ((aB Tryz.underlying23 (isE rfl (vst e h2))).eq (congrArg (Value.int .i64) (show ((g.2.length:Nat):Int)=((m:Nat):Int) by rw[hm]))) <| st (lss rfl rfl) <| en fun a w e' hf=>?_
   replace e:=e.tr e'
   replace B1:=B1.ext e'
   replace B31:=B31.ext e'
   refine aa <| ifc hf rfl (fun hc=>ah ?_) (fun hc=>aC ?_)
   rotate_left
   rotate_left
   ·have hltj:=ltC hc
    replace hf:=hf.keep [1,3,4,6,7,8]
    refine seq <| blk ?_
    have hx:=List.getElem?_eq_getElem (show j<g.2.length by omega)
    generalize g.2[j]=x at hx
    obtain⟨p,q,hpq,_,_,_⟩:=hen x (List.mem_of_getElem? hx)
    have hej:eAt es j=(p,q):=by
     rw[eAt,List.getD_eq_getElem?_getD,hey j x hx,hpq];rfl
    obtain⟨x1,la,lw⟩:=x
    subst hpq
    have hst:(List.range (j+1)).foldl (hdS es c) (none,h0)=hdS es c ((List.range j).foldl (hdS es c) (none,h0)) j:=by rw[List.range_succ,List.foldl_append];rfl
    obtain⟨hsl,hfs⟩:=hfold j (Nat.le_of_lt hltj)
    rw[hhl] at hsl
    generalize (List.range j).foldl (hdS es c) (none,h0)=s at hst hsl hfs hf B31
    obtain⟨f,hd⟩:=s
    dsimp only at hsl hfs hf B31
    obtain⟨o,ho⟩:=eqX (onF c (p,q))
    rw[hdS,hej,← ho] at hst
    refine seq <| seq ?_
    refine reg 11 Mix.mix hf (by decide +kernel) <| st (mv rfl) <| st (mv rfl) <| st (aD Tryz.underlying39 S35 (isR rfl) rfl (by omega) (hcm)) <| st (ldD T35 (isR rfl)) <| st (bJ Tryz.underlying25 rfl T23 (by decide) rfl) <| st (ld1 T23 rfl (by assumption) rfl) <| st (mv rfl) <| st (aD Tryz.underlying23 S51 (isE rfl (vst e h2)) rfl (by omega) (hx)) <| st (ft T51 (isR rfl)) <| st (aw (A:=E (B o)) (B:=Dv (slE intE) (fun b=>N1≤b) (ae c)) (C:=E (etV (((p:Int),(q:Int)),(la,lw)))) uY rfl rfl (fun v u w he k1 k2=>by cases k2;rw[ho];exact a2h c p q la lw v w k1 hcl)) ?_
    refine st (aY rfl) <| en fun a w e' hf=>?_
    replace e:=e.tr e'
    replace B1:=B1.ext e'
    replace B31:=B31.ext e'
    refine aa ?_
    cases o with
    | false=>
     rw[if_neg (by decide)] at hst
     refine ifT hf rfl ?_
     refine aC ?_
     replace hf:=hf.upd (B:=E (I (fI ((List.range (j+1)).foldl (hdS es c) (none,h0)).1))) 7 rfl (fun v h=>by rw[hst];exact h)
     refine ay 2 hf (by decide +kernel) <| st (mv rfl) <| st ((add rfl rfl (by omega)).eq (iN j)) <| en fun a w e' hf=>?_
     replace e:=e.tr e'
     replace B1:=B1.ext e'
     replace B31:=B31.ext e'
     refine aA hf rfl (by decide) fun a hf=>aa ?_
     replace hf:=hf.keep [1,3,4,6,7,8]
     refine⟨_,?_,j+1,rfl,by omega,hf,e,?_⟩
     ·omega
     rw[hst];exact⟨B1,B31⟩
    | true=>
     rw[if_pos rfl] at hst
     refine ifF hf rfl ?_
     refine ah ?_
     replace hf:=hf.keep [1,3,4,6,7,8]
     cases f with
     | none=>
      refine seq <| seq ?_
      refine ay 2 hf (by decide +kernel) <| st (mv rfl) <| st ((lss rfl rfl).eq (congrArg Value.bool ((show decide (fI none<0)=true by decide)))) <| en fun a w e' hf=>?_
      replace e:=e.tr e'
      replace B1:=B1.ext e'
      replace B31:=B31.ext e'
      refine aa <| ifT hf rfl ?_
      refine seq <| ay 1 hf (by decide +kernel) <| st (mv rfl) <| en fun a w e' hf=>?_
      replace e:=e.tr e'
      replace B1:=B1.ext e'
      replace B31:=B31.ext e'
      refine aA hf rfl (by decide) fun a hf=>aa <| aC ?_
      replace hf:=hf.upd (B:=E (I (fI ((List.range (j+1)).foldl (hdS es c) (none,h0)).1))) 7 rfl (fun v h=>by rw[hst];exact h)
      refine ay 2 hf (by decide +kernel) <| st (mv rfl) <| st ((add rfl rfl (by omega)).eq (iN j)) <| en fun a w e' hf=>?_
      replace e:=e.tr e'
      replace B1:=B1.ext e'
      replace B31:=B31.ext e'
      refine aA hf rfl (by decide) fun a hf=>aa ?_
      replace hf:=hf.keep [1,3,4,6,7,8]
      refine⟨_,?_,j+1,rfl,by omega,hf,e,?_⟩
      ·omega
      rw[hst];exact⟨B1,B31⟩
     | some f=>
      dsimp only at hst
      have hfm:=hfs f rfl
      have hzf:=List.getElem?_eq_getElem (show f<hd.length by omega)
      have hzj:=List.getElem?_eq_getElem (show j<hd.length by omega)
      have hdf:hd.getD f 0=hd[f]:=by rw[List.getD_eq_getElem?_getD,hzf];rfl
      have hdj:hd.getD j 0=hd[j]:=by rw[List.getD_eq_getElem?_getD,hzj];rfl
      rw[hdf,hdj] at hst
      generalize hd[f]=xf at hzf hst
      generalize hd[j]=yj at hzj hst
      replace hf:=hf.upd (B:=E (I (f:Nat))) 7 rfl (fun v h=>h)
      refine seq <| seq ?_
      refine ay 2 hf (by decide +kernel) <| st (mv rfl) <| st ((lss rfl rfl).eq (congrArg Value.bool ((show decide ((f:Int)<0)=false from decide_eq_false (by omega))))) <| en fun a w e' hf=>?_
      replace e:=e.tr e'
      replace B1:=B1.ext e'
      replace B31:=B31.ext e'
      refine aa <| ifF hf rfl ?_
      refine ah <| seq <| reg 10 Mix.mix hf (by decide +kernel) <| st (mv rfl) <| st (mv rfl) <| st ((idxS Tryz.underlying35 S3 rfl rfl (by omega)).eq (atZ)) <| st (ld1 (v:=I (xf:Nat)) T3 rfl B31 (dN hzf)) <| st (mv rfl) <| st (mv rfl) <| st ((idxS Tryz.underlying35 S3 rfl rfl (by omega)).eq (atZ)) <| st (ld1 (v:=I (yj:Nat)) T3 rfl B31 (dN hzj)) <| st (asg rfl) <| st (asg rfl) <| en fun a w e' hf=>?_
      replace e:=e.tr e'
      replace B1:=B1.ext e'
      replace B31:=B31.ext e'
      refine aa ?_
      replace hf:=hf.keep [1,3,4,6,7,8,9,10]
      refine seq <| ab <| aA hf rfl (by decide) fun a hf=>aa ?_
      replace B31:Blk w b31 (bY (ae (rpl hd yj xf 0))) 3:=by rw[a2p];exact B31
      replace hf:=hf.keep [1,3,4,6,7,8,9,10,11]
      refine blk (aF (fun r0 a w=>∃(i:Nat) ,r0=m - i∧i≤m∧Fr 252 a w [(1,E (ptr b1)),(3,Dv (slE (slE intE)) (fun b=>N1≤b) (cs.map ae)),(4,E (.slice (some ⟨b31,0,none⟩) m m)),(6,E (I k)),(7,E (I (f:Nat))),(8,E (I j)),(9,E (I (xf:Nat))),(10,E (I (yj:Nat))),(11,E (I i))]∧Ext W w∧Blk w b1 #[u1,u2] 25∧Blk w b31 (bY (ae (rpl hd yj xf i))) 3) m ⟨0,rfl,by omega,hf,e,⟨B1,B31⟩⟩ ?_)
      rintro r0 a w ⟨i,rfl,hi,hf,e,B1,B31⟩
      refine seq <| seq ?_
      refine ay 4 hf (by decide +kernel) <| st (mv rfl) <| st (mv rfl) <| st (eG Tryz.underlying35 rfl) <| st (lss rfl rfl) <| en fun a w e' hf=>?_
      replace e:=e.tr e'
      replace B1:=B1.ext e'
      replace B31:=B31.ext e'
      refine aa <| ifc hf rfl (fun hc=>ah ?_) (fun hc=>aC ?_)
      rotate_left
      rotate_left
      ·have hlti:=ltC hc
       replace hf:=hf.kp [1,3,4,6,7,8,9,10,11]
       refine seq <| blk ?_
       have hz:=List.getElem?_eq_getElem (show i<hd.length by omega)
       generalize hd[i]=z at hz
       refine seq <| ay 6 hf (by decide +kernel) <| st (mv rfl) <| st (mv rfl) <| st ((idxS Tryz.underlying35 S3 rfl rfl (by omega)).eq (atZ)) <| st (ld1 (v:=I (z:Nat)) T3 rfl B31 (dN (a2r hz))) <| st (mv rfl) <| st ((eql rfl rfl).eq (congrArg Value.bool (dcN z yj))) <| en fun a w e' hf=>?_
       replace e:=e.tr e'
       replace B1:=B1.ext e'
       replace B31:=B31.ext e'
       refine aa ?_
       by_cases hzy:z=yj
       ·subst hzy
        rw[decide_eq_true rfl] at hf
        refine ifT hf rfl ?_
        refine ay 4 hf (by decide +kernel) <| st (mv rfl) <| st (mv rfl) <| st (mv rfl) <| st ((idxS Tryz.underlying35 S3 rfl rfl (by omega)).eq (atZ)) <| en fun a w e' hf=>?_
        replace e:=e.tr e'
        replace B1:=B1.ext e'
        replace B31:=B31.ext e'
        refine aI T3 hf rfl rfl rfl B31 (by rw[tn,a2o];omega) fun w hg hsz B31 hf=>?_
        replace e:=e.gr hg (by omega);replace B1:=B1.gr hg n1;clear hg
        refine aa ?_
        rw[tm,a2s hz] at B31
        refine ay 2 hf (by decide +kernel) <| st (mv rfl) <| st ((add rfl rfl (by omega)).eq (iN i)) <| en fun a w e' hf=>?_
        replace e:=e.tr e'
        replace B1:=B1.ext e'
        replace B31:=B31.ext e'
        refine aA hf rfl (by decide) fun a hf=>aa ?_
        replace hf:=hf.kp [1,3,4,6,7,8,9,10,11]
        refine⟨_,?_,i+1,rfl,by omega,hf,e,?_⟩
        ·omega
        exact⟨B1,B31⟩
       ·rw[decide_eq_false hzy] at hf
        refine ifF hf rfl ?_
        refine ah <| ay 2 hf (by decide +kernel) <| st (mv rfl) <| st ((add rfl rfl (by omega)).eq (iN i)) <| en fun a w e' hf=>?_
        replace e:=e.tr e'
        replace B1:=B1.ext e'
        replace B31:=B31.ext e'
        refine aA hf rfl (by decide) fun a hf=>aa ?_
        replace hf:=hf.kp [1,3,4,6,7,8,9,10,11]
        refine⟨_,?_,i+1,rfl,by omega,hf,e,?_⟩
        ·omega
        rw[a2t hz hzy];exact⟨B1,B31⟩
      ·obtain rfl:m=i:=by have:=of_decide_eq_false hc;(try dsimp only at this);omega
       rw[show m=hd.length by omega,a2q] at B31
       replace hf:=hf.upd (B:=E (I (fI ((List.range (j+1)).foldl (hdS es c) (none,h0)).1))) 7 rfl (fun v h=>by rw[hst];exact h)
       refine ay 2 hf (by decide +kernel) <| st (mv rfl) <| st ((add rfl rfl (by omega)).eq (iN j)) <| en fun a w e' hf=>?_
       replace e:=e.tr e'
       replace B1:=B1.ext e'
       replace B31:=B31.ext e'
       refine aA hf rfl (by decide) fun a hf=>aa ?_
       replace hf:=hf.kp [1,3,4,6,7,8]
       refine⟨_,?_,j+1,rfl,by omega,hf,e,?_⟩
       ·omega
       rw[hst];exact⟨B1,B31⟩
   ·obtain rfl:m=j:=by have:=of_decide_eq_false hc;(try dsimp only at this);omega
    refine ay 2 hf (by decide +kernel) <| st (mv rfl) <| st ((add rfl rfl (by omega)).eq (iN k)) <| en fun a w e' hf=>?_
    replace e:=e.tr e'
    replace B1:=B1.ext e'
    replace B31:=B31.ext e'
    refine aA hf rfl (by decide) fun a hf=>aa ?_
    replace hf:=hf.kp [1,3,4,6]
    refine⟨_,?_,k+1,rfl,by omega,hf,e,?_⟩
    ·omega
    rw[hsc,hdC,hel];exact⟨B1,B31⟩
  ·obtain rfl:=dnE hc hk
   rw[List.take_of_length_le (Nat.le_of_eq hml.symm),← hel,← hdF] at B31
   obtain⟨H,hH⟩:=eqX (hdF es cs)
   have hHl:H.length=m:=by rw[hH,hdF,nd,List.length_range,hel]
   rw[← hH] at B31 hU
   rw[hel] at hU
   replace hf:=hf.kp [1,4]
   obtain⟨W2,hW2⟩:=eqX w
   have e2:Ext W2 w:=by rw[hW2];exact Ext.rfl' _
   have hW0:W.heap.size≤W2.heap.size:=by rw[hW2];exact e.size
   rw[← hW2] at B1 B31
   have e02:Ext W W2:=by rw[hW2];exact e
   have BG:Blk W2 b1 #[u1,u2] 25:=B1
   have BH:Blk W2 b31 (bY (ae H)) 3:=B31
   obtain⟨P,hP⟩:=eqX (fun i=>(List.range i).all fun k => !decide (H.getD k 0=H.getD i 0):Nat→Bool)
   obtain⟨QQ,hQQ⟩:=eqX (fun i v=>(List.range es.length).any fun k=>decide (H.getD k 0=H.getD i 0)&&(decide ((eAt es k).1=v) || decide ((eAt es k).2=v)):Nat→Nat→Bool)
   obtain⟨LL,hLL⟩:=eqX (fun i=>ae ((aj V).filter (QQ i)):Nat→List Int)
   obtain⟨Q2,hQ2⟩:=eqX (fun v:Nat=>decide (nbA g (v:Int)=0):Nat→Bool)
   replace hU:U=((List.range m).filter P).map LL++((aj V).filter Q2).map fun v:Nat=>[(v:Int)]:=by
    rw[hU,hLL,hQQ,hP,hQ2];rfl
   have hvt:∀{k:Nat} {x:VT},g.1[k]?=some x→∃n:Nat,x.1=(n:Int)∧(aj V)[k]?=some n:=fun {k x} hx=>by
    obtain⟨n,a,_,b⟩:=kg ok hx
    exact⟨n,a,by rw[hV];exact b⟩
   rw[← hV] at hvl
   have hLl:∀i,(LL i).length≤7:=fun i=>by
    rw[hLL];show (ae _).length≤7
    rw[bC]
    exact Nat.le_trans (List.length_filter_le _ _) (by omega)
   refine seq <| ab <| aA hf rfl (by decide) fun a hf=>aa ?_
   refine seq <| seq ?_
   refine ab <| aA hf rfl (by decide) fun a hf=>aa ?_
   have Ho:OwR (slE intE) 35 W2.heap.size Go.Mono.G0 w ([]:List (List Int)) (.slice none 0 0):=OwR.nil (slE intE) _ e2.size fun b hb=>hb.elim
   replace hf:=hf.kp [1,4,12,13]
   refine blk (aF (fun r0 a w=>∃(k:Nat) (u:Value),r0=m - k∧k≤m∧Fr 252 a w [(1,E (ptr b1)),(4,E (.slice (some ⟨b31,0,none⟩) m m)),(12,E u),(13,E (I k))]∧Ext W w∧Ext W2 w∧OwR (slE intE) 35 W2.heap.size Go.Mono.G0 w (((List.range k).filter P).map LL) u) m ⟨0,.slice none 0 0,rfl,by omega,hf,e,⟨e2,Ho⟩⟩ ?_)
   rintro r0 a w ⟨k,u,rfl,hk,hf,e,e2,Ho⟩
   refine seq <| seq ?_
   refine ay 5 hf (by decide +kernel) <| st (mv rfl) <| st (bJ Tryz.underlying25 rfl T23 (by decide) rfl) <| st (ld1 T23 rfl (BG.ext e2) rfl) <| st ((aB Tryz.underlying23 (isE rfl (vst e h2))).eq (congrArg (Value.int .i64) (show ((g.2.length:Nat):Int)=((m:Nat):Int) by rw[hm]))) <| st (lss rfl rfl) <| en fun a w e' hf=>?_
   replace e2:=e2.tr e'
   replace Ho:=Ho.ext e'
   replace e:=e.tr e'
   refine aa <| ifc hf rfl (fun hc=>ah ?_) (fun hc=>aC ?_)
   rotate_left
   rotate_left
   ·have hlt:=ltC hc
    replace hf:=hf.kp [1,4,12,13]
    refine seq <| blk ?_
    have hsc:=a2y P LL k
    have hol:(((List.range k).filter P).map LL).length≤100000:=by
     rw[List.length_map]
     exact Nat.le_trans (List.length_filter_le _ _) (by rw[List.length_range];omega)
    generalize ((List.range k).filter P).map LL=out at hsc hol Ho
    have hzk:=List.getElem?_eq_getElem (show k<H.length by omega)
    have hdk:H.getD k 0=H[k]:=by rw[List.getD_eq_getElem?_getD,hzk];rfl
    generalize H[k]=xk at hzk hdk
    obtain⟨q,hq⟩:=eqX (fun j=>(List.range j).all fun i => !decide (H.getD i 0=H.getD k 0):Nat→Bool)
    have hqP:q k=P k:=by rw[hq,hP]
    have hqs:∀j,q (j+1)=(q j && !decide (H.getD j 0=H.getD k 0)):=fun j=>by rw[hq];exact a2x _ j
    have hq0:q 0=true:=by rw[hq];rfl
    refine seq <| ab <| aA hf rfl (by decide) fun a hf=>aa ?_
    replace hf:=hf.upd (B:=E (B (q 0))) 14 rfl (fun v h=>by rw[hq0];exact h)
    refine seq <| seq ?_
    refine ab <| aA hf rfl (by decide) fun a hf=>aa ?_
    replace hf:=hf.keep [1,4,12,13,14,15]
    refine blk (aF (fun r0 a w=>∃(j:Nat) ,r0=k - j∧j≤k∧Fr 252 a w [(1,E (ptr b1)),(4,E (.slice (some ⟨b31,0,none⟩) m m)),(12,E u),(13,E (I k)),(14,E (B (q j))),(15,E (I j))]∧Ext W w∧Ext W2 w∧OwR (slE intE) 35 W2.heap.size Go.Mono.G0 w out u) k ⟨0,rfl,by omega,hf,e,⟨e2,Ho⟩⟩ ?_)
    rintro r0 a w ⟨j,rfl,hj,hf,e,e2,Ho⟩
    refine seq <| seq ?_
    refine ay 3 hf (by decide +kernel) <| st (mv rfl) <| st (mv rfl) <| st (lss rfl rfl) <| en fun a w e' hf=>?_
    replace e2:=e2.tr e'
    replace Ho:=Ho.ext e'
    replace e:=e.tr e'
    refine aa <| ifc hf rfl (fun hc=>ah ?_) (fun hc=>aC ?_)
    rotate_left
    rotate_left
    ·have hltj:=ltC hc
     replace hf:=hf.keep [1,4,12,13,14,15]
     refine seq <| blk ?_
     have hzj:=List.getElem?_eq_getElem (show j<H.length by omega)
     have hdj:H.getD j 0=H[j]:=by rw[List.getD_eq_getElem?_getD,hzj];rfl
     generalize H[j]=xj at hzj hdj
     have hs:=hqs j
     rw[hdj,hdk] at hs
     cases hqj:q j with
     | true=>
      rw[hqj,Bool.true_and] at hs
      rw[hqj] at hf
      refine reg 12 Mix.mix hf (by decide +kernel) <| st (mv rfl) <| st (mv rfl) <| sy rfl rfl (mv rfl) <| sy rfl rfl (mv rfl) <| sy rfl rfl ((idxS Tryz.underlying35 S3 rfl rfl (by omega)).eq (atZ)) <| sy rfl rfl (ld1 (v:=I (xj:Nat)) T3 rfl (BH.ext e2) (dN hzj)) <| sy rfl rfl (mv rfl) <| sy rfl rfl (mv rfl) <| sy rfl rfl ((idxS Tryz.underlying35 S3 rfl rfl (by omega)).eq (atZ)) <| sy rfl rfl (ld1 (v:=I (xk:Nat)) T3 rfl (BH.ext e2) (dN hzk)) <| sy rfl rfl (neq rfl rfl) <| st (pkT rfl rfl) <| en fun a w e' hf=>?_
      replace e2:=e2.tr e'
      replace Ho:=Ho.ext e'
      replace e:=e.tr e'
      refine aA hf rfl (by decide) fun a hf=>aa ?_
      replace hf:=hf.upd (B:=E (B (q (j+1)))) 14 rfl (fun v h=>by rw[hs,← dcN];exact h)
      refine ay 2 hf (by decide +kernel) <| st (mv rfl) <| st ((add rfl rfl (by omega)).eq (iN j)) <| en fun a w e' hf=>?_
      replace e2:=e2.tr e'
      replace Ho:=Ho.ext e'
      replace e:=e.tr e'
      refine aA hf rfl (by decide) fun a hf=>aa ?_
      replace hf:=hf.keep [1,4,12,13,14,15]
      refine⟨_,?_,j+1,rfl,by omega,hf,e,?_⟩
      ·omega
      exact⟨e2,Ho⟩
     | false=>
      rw[hqj,Bool.false_and] at hs
      rw[hqj] at hf
      refine reg 12 Mix.mix hf (by decide +kernel) <| st (mv rfl) <| st (mv rfl) <| sn rfl rfl rfl <| sn rfl rfl rfl <| sn rfl rfl rfl <| sn rfl rfl rfl <| sn rfl rfl rfl <| sn rfl rfl rfl <| sn rfl rfl rfl <| sn rfl rfl rfl <| sn rfl rfl rfl <| st (pkF rfl rfl) <| en fun a w e' hf=>?_
      replace e2:=e2.tr e'
      replace Ho:=Ho.ext e'
      replace e:=e.tr e'
      refine aA hf rfl (by decide) fun a hf=>aa ?_
      replace hf:=hf.upd (B:=E (B (q (j+1)))) 14 rfl (fun v h=>by rw[hs];exact h)
      refine ay 2 hf (by decide +kernel) <| st (mv rfl) <| st ((add rfl rfl (by omega)).eq (iN j)) <| en fun a w e' hf=>?_
      replace e2:=e2.tr e'
      replace Ho:=Ho.ext e'
      replace e:=e.tr e'
      refine aA hf rfl (by decide) fun a hf=>aa ?_
      replace hf:=hf.keep [1,4,12,13,14,15]
      refine⟨_,?_,j+1,rfl,by omega,hf,e,?_⟩
      ·omega
      exact⟨e2,Ho⟩
    ·obtain rfl:k=j:=by have:=of_decide_eq_false hc;(try dsimp only at this);omega
     rw[hqP] at hf
     cases hPk:P k with
     | false=>
      rw[hPk] at hf
      rw[hPk,if_neg (by decide),List.append_nil] at hsc
      refine seq <| seq ?_
      refine ay 2 hf (by decide +kernel) <| st (mv rfl) <| st (aY rfl) <| en fun a w e' hf=>?_
      replace e2:=e2.tr e'
      replace Ho:=Ho.ext e'
      replace e:=e.tr e'
      refine aa <| ifT hf rfl ?_
      refine aC <| ay 2 hf (by decide +kernel) <| st (mv rfl) <| st ((add rfl rfl (by omega)).eq (iN k)) <| en fun a w e' hf=>?_
      replace e2:=e2.tr e'
      replace Ho:=Ho.ext e'
      replace e:=e.tr e'
      refine aA hf rfl (by decide) fun a hf=>aa ?_
      replace hf:=hf.keep [1,4,12,13]
      refine⟨_,?_,k+1,_,rfl,by omega,hf,e,?_⟩
      ·omega
      rw[hsc];exact⟨e2,Ho⟩
     | true=>
      rw[hPk] at hf
      rw[hPk,if_pos rfl] at hsc
      refine seq <| seq ?_
      refine ay 2 hf (by decide +kernel) <| st (mv rfl) <| st (aY rfl) <| en fun a w e' hf=>?_
      replace e2:=e2.tr e'
      replace Ho:=Ho.ext e'
      replace e:=e.tr e'
      refine aa <| ifF hf rfl ?_
      refine ah ?_
      replace hf:=hf.keep [1,4,12,13]
      obtain⟨W3,hW3⟩:=eqX w
      have e3:Ext W3 w:=by rw[hW3];exact Ext.rfl' _
      have Ho3:OwR (slE intE) 35 W2.heap.size Go.Mono.G0 W3 out u:=by rw[hW3];exact Ho
      have e23:Ext W2 W3:=by rw[hW3];exact e2
      have hW23:=e23.size
      refine seq <| ab <| aA hf rfl (by decide) fun a hf=>aa ?_
      refine seq <| seq ?_
      refine ab <| aA hf rfl (by decide) fun a hf=>aa ?_
      have Hl:OwR intE 3 W3.heap.size Go.Mono.G0 w (ae (((aj V).take 0).filter (QQ k))) (.slice none 0 0):=OwR.nil intE _ e3.size fun b hb=>hb.elim
      replace hf:=hf.keep [1,4,12,13,16,17]
      refine blk (aF (fun r0 a w=>∃(j:Nat) (ul:Value),r0=g.1.length - j∧j≤g.1.length∧Fr 252 a w [(1,E (ptr b1)),(4,E (.slice (some ⟨b31,0,none⟩) m m)),(12,E u),(13,E (I k)),(16,E ul),(17,E (I j))]∧Ext W w∧Ext W3 w∧OwR intE 3 W3.heap.size Go.Mono.G0 w (ae (((aj V).take j).filter (QQ k))) ul) g.1.length ⟨0,.slice none 0 0,rfl,by omega,hf,e,⟨e3,Hl⟩⟩ ?_)
      rintro r0 a w ⟨j,ul,rfl,hj,hf,e,e3,Hl⟩
      refine seq <| seq ?_
      refine ay 5 hf (by decide +kernel) <| st (mv rfl) <| st (bJ Tryz.underlying25 rfl T22 (by decide) rfl) <| st (ld1 T22 rfl (BG.ext (e23.tr e3)) rfl) <| st (aB Tryz.underlying22 (isE rfl (vst e h1))) <| st (lss rfl rfl) <| en fun a w e' hf=>?_
      replace e3:=e3.tr e'
      replace Hl:=Hl.ext e'
      replace e:=e.tr e'
      refine aa <| ifc hf rfl (fun hc=>ah ?_) (fun hc=>aC ?_)
      rotate_left
      rotate_left
      ·have hltj:=ltC hc
       replace hf:=hf.keep [1,4,12,13,16,17]
       refine seq <| blk ?_
       have hx0:=List.getElem?_eq_getElem hltj
       generalize g.1[j]=x at hx0
       obtain⟨n,hn,hne⟩:=hvt hx0
       obtain⟨x1,x2⟩:=x
       subst hn
       have hls:ae (((aj V).take (j+1)).filter (QQ k))=ae (((aj V).take j).filter (QQ k))++if QQ k n=true then [(n:Int)] else []:=tt (QQ k) (fun v:Nat=>(v:Int)) hne
       have hll:(ae (((aj V).take j).filter (QQ k))).length≤100:=by
        rw[bC]
        exact Nat.le_trans (List.length_filter_le _ _) (Nat.le_trans (List.length_take_le' _ _) (by omega))
       generalize ae (((aj V).take j).filter (QQ k))=l at hls hll Hl
       obtain⟨r,hr⟩:=eqX (fun i=>(List.range i).any fun k'=>decide (H.getD k' 0=H.getD k 0)&&(decide ((eAt es k').1=n) || decide ((eAt es k').2=n)):Nat→Bool)
       have hrQ:r m=QQ k n:=by rw[hr,hQQ,← hel]
       have hrs:∀i,r (i+1)=(r i || (decide (H.getD i 0=H.getD k 0)&&(decide ((eAt es i).1=n) || decide ((eAt es i).2=n)))):=fun i=>by rw[hr];exact any_succ _ i
       have hr0:r 0=false:=by rw[hr];rfl
       refine seq <| ay 6 hf (by decide +kernel) <| st (bJ Tryz.underlying25 rfl T22 (by decide) rfl) <| st (ld1 T22 rfl (BG.ext (e23.tr e3)) rfl) <| st (mv rfl) <| st (aD Tryz.underlying22 S45 (isE rfl (vst e h1)) rfl (by omega) (hx0)) <| st (ax Tryz.underlying45 rfl T3 (by decide) (Fld.fst Fld.refl) (isR rfl)) <| st (ldI T3 (isR rfl)) <| en fun a w e' hf=>?_
       replace e3:=e3.tr e'
       replace Hl:=Hl.ext e'
       replace e:=e.tr e'
       refine aA hf rfl (by decide) fun a hf=>aa <| seq <| ab <| aA hf rfl (by decide) fun a hf=>aa ?_
       replace hf:=hf.upd (B:=E (B (r 0))) 19 rfl (fun v h=>by rw[hr0];exact h)
       refine seq <| seq ?_
       refine ab <| aA hf rfl (by decide) fun a hf=>aa ?_
       replace hf:=hf.keep [1,4,12,13,16,17,18,19,20]
       refine blk (aF (fun r0 a w=>∃(i:Nat) ,r0=m - i∧i≤m∧Fr 252 a w [(1,E (ptr b1)),(4,E (.slice (some ⟨b31,0,none⟩) m m)),(12,E u),(13,E (I k)),(16,E ul),(17,E (I j)),(18,E (I (n:Nat))),(19,E (B (r i))),(20,E (I i))]∧Ext W w∧Ext W3 w∧OwR intE 3 W3.heap.size Go.Mono.G0 w l ul) m ⟨0,rfl,by omega,hf,e,⟨e3,Hl⟩⟩ ?_)
       rintro r0 a w ⟨i,rfl,hi,hf,e,e3,Hl⟩
       refine seq <| seq ?_
       refine ay 5 hf (by decide +kernel) <| st (mv rfl) <| st (bJ Tryz.underlying25 rfl T23 (by decide) rfl) <| st (ld1 T23 rfl (BG.ext (e23.tr e3)) rfl) <| st ((aB Tryz.underlying23 (isE rfl (vst e h2))).eq (congrArg (Value.int .i64) (show ((g.2.length:Nat):Int)=((m:Nat):Int) by rw[hm]))) <| st (lss rfl rfl) <| en fun a w e' hf=>?_
       replace e3:=e3.tr e'
       replace Hl:=Hl.ext e'
       replace e:=e.tr e'
       refine aa <| ifc hf rfl (fun hc=>ah ?_) (fun hc=>aC ?_)
       rotate_left
       rotate_left
       ·have hlti:=ltC hc
        replace hf:=hf.kp [1,4,12,13,16,17,18,19,20]
        refine seq <| blk ?_
        have hzi:=List.getElem?_eq_getElem (show i<H.length by omega)
        have hdi:H.getD i 0=H[i]:=by rw[List.getD_eq_getElem?_getD,hzi];rfl
        generalize H[i]=xi at hzi hdi
        have hx:=List.getElem?_eq_getElem (show i<g.2.length by omega)
        generalize g.2[i]=x at hx
        obtain⟨p,q',hpq,_,_,_⟩:=hen x (List.mem_of_getElem? hx)
        have hej:eAt es i=(p,q'):=by
         rw[eAt,List.getD_eq_getElem?_getD,hey i x hx,hpq];rfl
        obtain⟨x1,lw⟩:=x
        subst hpq
        have hs:=hrs i
        rw[hdi,hdk,hej] at hs
        have eB:=e23.tr e3
        cases hri:r i with
        | true=>
         rw[hri,Bool.true_or] at hs
         rw[hri] at hf
         refine reg 32 Mix.mix hf (by decide +kernel) <| st (mv rfl) <| st (mv rfl) <| sn rfl rfl rfl <| sn rfl rfl rfl <| sn rfl rfl rfl <| sn rfl rfl rfl <| sn rfl rfl rfl <| sn rfl rfl rfl <| sn rfl rfl rfl <| sn rfl rfl rfl <| sn rfl rfl rfl <| sn rfl rfl rfl <| su rfl rfl <| su rfl rfl <| su rfl rfl <| su rfl rfl <| su rfl rfl <| su rfl rfl <| su rfl rfl <| su rfl rfl <| su rfl rfl <| su rfl rfl <| su rfl rfl <| su rfl rfl <| su rfl rfl <| su rfl rfl <| su rfl rfl <| su rfl rfl <| su rfl rfl <| su rfl rfl <| sn rfl rfl rfl <| st (pkT rfl rfl) <| en fun a w e' hf=>?_
         replace e3:=e3.tr e'
         replace Hl:=Hl.ext e'
         replace e:=e.tr e'
         refine aA hf rfl (by decide) fun a hf=>aa ?_
         replace hf:=hf.upd (B:=E (B (r (i+1)))) 19 rfl (fun v h=>by rw[hs];exact h)
         refine ay 2 hf (by decide +kernel) <| st (mv rfl) <| st ((add rfl rfl (by omega)).eq (iN i)) <| en fun a w e' hf=>?_
         replace e3:=e3.tr e'
         replace Hl:=Hl.ext e'
         replace e:=e.tr e'
         refine aA hf rfl (by decide) fun a hf=>aa ?_
         replace hf:=hf.kp [1,4,12,13,16,17,18,19,20]
         refine⟨_,?_,i+1,rfl,by omega,hf,e,?_⟩
         ·omega
         exact⟨e3,Hl⟩
        | false=>
         rw[hri,Bool.false_or] at hs
         rw[hri] at hf
         by_cases hik:xi=xk
         ·rw[decide_eq_true hik,Bool.true_and] at hs
          by_cases hpn:p=n
          ·rw[decide_eq_true hpn,Bool.true_or] at hs
           refine reg 32 Mix.mix hf (by decide +kernel) <| st (mv rfl) <| st (mv rfl) <| sy rfl rfl (mv rfl) <| sy rfl rfl (mv rfl) <| sy rfl rfl ((idxS Tryz.underlying35 S3 rfl rfl (by omega)).eq (atZ)) <| sy rfl rfl (ld1 (v:=I (xi:Nat)) T3 rfl (BH.ext eB) (dN hzi)) <| sy rfl rfl (mv rfl) <| sy rfl rfl (mv rfl) <| sy rfl rfl ((idxS Tryz.underlying35 S3 rfl rfl (by omega)).eq (atZ)) <| sy rfl rfl (ld1 (v:=I (xk:Nat)) T3 rfl (BH.ext eB) (dN hzk)) <| sy rfl rfl ((eql rfl rfl).eq (congrArg Value.bool ((show ((xi:Int)==(xk:Int))=true by rw[dcN];exact decide_eq_true hik)))) ?_
           refine sy rfl rfl (mv rfl) <| sy rfl rfl (bJ Tryz.underlying25 rfl T23 (by decide) rfl) <| sy rfl rfl (ld1 T23 rfl (BG.ext eB) rfl) <| sy rfl rfl (mv rfl) <| sy rfl rfl (aD Tryz.underlying23 S51 (isE rfl (vst e h2)) rfl (by omega) (hx)) <| sy rfl rfl (ax Tryz.underlying51 rfl T3 (by decide) (Fld.fst (Fld.fst Fld.refl)) (isR rfl)) <| sy rfl rfl (ldI T3 (isR rfl)) <| sy rfl rfl (mv rfl) <| sy rfl rfl ((eql rfl rfl).eq (congrArg Value.bool ((show ((p:Int)==(n:Int))=true by rw[dcN];exact decide_eq_true hpn)))) ?_
           refine sy rfl rfl (mv rfl) <| sn rfl rfl rfl <| sn rfl rfl rfl <| sn rfl rfl rfl <| sn rfl rfl rfl <| sn rfl rfl rfl <| sn rfl rfl rfl <| sn rfl rfl rfl <| sn rfl rfl rfl <| sy rfl rfl (pkT rfl rfl) <| sy rfl rfl (pkT rfl rfl) <| st (pkF rfl rfl) <| en fun a w e' hf=>?_
           replace e3:=e3.tr e'
           replace Hl:=Hl.ext e'
           replace e:=e.tr e'
           refine aA hf rfl (by decide) fun a hf=>aa ?_
           replace hf:=hf.upd (B:=E (B (r (i+1)))) 19 rfl (fun v h=>by rw[hs];exact h)
           refine ay 2 hf (by decide +kernel) <| st (mv rfl) <| st ((add rfl rfl (by omega)).eq (iN i)) <| en fun a w e' hf=>?_
           replace e3:=e3.tr e'
           replace Hl:=Hl.ext e'
           replace e:=e.tr e'
           refine aA hf rfl (by decide) fun a hf=>aa ?_
           replace hf:=hf.kp [1,4,12,13,16,17,18,19,20]
           refine⟨_,?_,i+1,rfl,by omega,hf,e,?_⟩
           ·omega
           exact⟨e3,Hl⟩
          ·rw[decide_eq_false hpn,Bool.false_or] at hs
           refine reg 32 Mix.mix hf (by decide +kernel) <| st (mv rfl) <| st (mv rfl) <| sy rfl rfl (mv rfl) <| sy rfl rfl (mv rfl) <| sy rfl rfl ((idxS Tryz.underlying35 S3 rfl rfl (by omega)).eq (atZ)) <| sy rfl rfl (ld1 (v:=I (xi:Nat)) T3 rfl (BH.ext eB) (dN hzi)) <| sy rfl rfl (mv rfl) <| sy rfl rfl (mv rfl) <| sy rfl rfl ((idxS Tryz.underlying35 S3 rfl rfl (by omega)).eq (atZ)) <| sy rfl rfl (ld1 (v:=I (xk:Nat)) T3 rfl (BH.ext eB) (dN hzk)) <| sy rfl rfl ((eql rfl rfl).eq (congrArg Value.bool ((show ((xi:Int)==(xk:Int))=true by rw[dcN];exact decide_eq_true hik)))) ?_
           refine sy rfl rfl (mv rfl) <| sy rfl rfl (bJ Tryz.underlying25 rfl T23 (by decide) rfl) <| sy rfl rfl (ld1 T23 rfl (BG.ext eB) rfl) <| sy rfl rfl (mv rfl) <| sy rfl rfl (aD Tryz.underlying23 S51 (isE rfl (vst e h2)) rfl (by omega) (hx)) <| sy rfl rfl (ax Tryz.underlying51 rfl T3 (by decide) (Fld.fst (Fld.fst Fld.refl)) (isR rfl)) <| sy rfl rfl (ldI T3 (isR rfl)) <| sy rfl rfl (mv rfl) <| sy rfl rfl ((eql rfl rfl).eq (congrArg Value.bool ((show ((p:Int)==(n:Int))=false by rw[dcN];exact decide_eq_false hpn)))) ?_
           refine sy rfl rfl (mv rfl) <| sy rfl rfl (bJ Tryz.underlying25 rfl T23 (by decide) rfl) <| sy rfl rfl (ld1 T23 rfl (BG.ext eB) rfl) <| sy rfl rfl (mv rfl) <| sy rfl rfl (aD Tryz.underlying23 S51 (isE rfl (vst e h2)) rfl (by omega) (hx)) <| sy rfl rfl (ax Tryz.underlying51 rfl T3 (by decide) (Fld.fst (Fld.snd Fld.refl rfl)) (isR rfl)) <| sy rfl rfl (ldI T3 (isR rfl)) <| sy rfl rfl (mv rfl) <| sy rfl rfl (eql rfl rfl) <| sy rfl rfl (pkF rfl rfl) <| sy rfl rfl (pkT rfl rfl) <| st (pkF rfl rfl) <| en fun a w e' hf=>?_
           replace e3:=e3.tr e'
           replace Hl:=Hl.ext e'
           replace e:=e.tr e'
           refine aA hf rfl (by decide) fun a hf=>aa ?_
           replace hf:=hf.upd (B:=E (B (r (i+1)))) 19 rfl (fun v h=>by rw[hs,← dcN];exact h)
           refine ay 2 hf (by decide +kernel) <| st (mv rfl) <| st ((add rfl rfl (by omega)).eq (iN i)) <| en fun a w e' hf=>?_
           replace e3:=e3.tr e'
           replace Hl:=Hl.ext e'
           replace e:=e.tr e'
           refine aA hf rfl (by decide) fun a hf=>aa ?_
           replace hf:=hf.kp [1,4,12,13,16,17,18,19,20]
           refine⟨_,?_,i+1,rfl,by omega,hf,e,?_⟩
           ·omega
           exact⟨e3,Hl⟩
         ·rw[decide_eq_false hik,Bool.false_and] at hs
          refine reg 32 Mix.mix hf (by decide +kernel) <| st (mv rfl) <| st (mv rfl) <| sy rfl rfl (mv rfl) <| sy rfl rfl (mv rfl) <| sy rfl rfl ((idxS Tryz.underlying35 S3 rfl rfl (by omega)).eq (atZ)) <| sy rfl rfl (ld1 (v:=I (xi:Nat)) T3 rfl (BH.ext eB) (dN hzi)) <| sy rfl rfl (mv rfl) <| sy rfl rfl (mv rfl) <| sy rfl rfl ((idxS Tryz.underlying35 S3 rfl rfl (by omega)).eq (atZ)) <| sy rfl rfl (ld1 (v:=I (xk:Nat)) T3 rfl (BH.ext eB) (dN hzk)) <| sy rfl rfl ((eql rfl rfl).eq (congrArg Value.bool ((show ((xi:Int)==(xk:Int))=false by rw[dcN];exact decide_eq_false hik)))) ?_
          refine sy rfl rfl (mv rfl) <| sn rfl rfl rfl <| sn rfl rfl rfl <| sn rfl rfl rfl <| sn rfl rfl rfl <| sn rfl rfl rfl <| sn rfl rfl rfl <| sn rfl rfl rfl <| sn rfl rfl rfl <| sn rfl rfl rfl <| su rfl rfl <| su rfl rfl <| su rfl rfl <| su rfl rfl <| su rfl rfl <| su rfl rfl <| su rfl rfl <| su rfl rfl <| sn rfl rfl rfl <| sy rfl rfl (pkF rfl rfl) <| st (pkF rfl rfl) <| en fun a w e' hf=>?_
          replace e3:=e3.tr e'
          replace Hl:=Hl.ext e'
          replace e:=e.tr e'
          refine aA hf rfl (by decide) fun a hf=>aa ?_
          replace hf:=hf.upd (B:=E (B (r (i+1)))) 19 rfl (fun v h=>by rw[hs];exact h)
          refine ay 2 hf (by decide +kernel) <| st (mv rfl) <| st ((add rfl rfl (by omega)).eq (iN i)) <| en fun a w e' hf=>?_
          replace e3:=e3.tr e'
          replace Hl:=Hl.ext e'
          replace e:=e.tr e'
          refine aA hf rfl (by decide) fun a hf=>aa ?_
          replace hf:=hf.kp [1,4,12,13,16,17,18,19,20]
          refine⟨_,?_,i+1,rfl,by omega,hf,e,?_⟩
          ·omega
          exact⟨e3,Hl⟩
       ·obtain rfl:m=i:=by have:=of_decide_eq_false hc;(try dsimp only at this);omega
        rw[hrQ] at hf
        cases hQn:QQ k n with
        | true=>
         rw[hQn] at hf
         rw[hQn,if_pos rfl] at hls
         refine seq <| ay 1 hf (by decide +kernel) <| st (mv rfl) <| en fun a w e' hf=>?_
         replace e3:=e3.tr e'
         replace Hl:=Hl.ext e'
         replace e:=e.tr e'
         refine aa <| ifT hf rfl ?_
         replace hf:=hf.kp [1,4,12,13,16,17,18]
         refine ay 3 hf (by decide +kernel) <| st (mv rfl) <| st (mv rfl) <| st (aW Tryz.underlying35 I3 rfl (by decide) rfl Hl.avs (isI rfl)) <| en fun a w e' hf=>?_
         replace e3:=e3.tr e'
         replace Hl:=Hl.ext e'
         replace e:=e.tr e'
         haveI hin:∀G0,InR (GB W G0) _:=OwR.inGB (W:=W) Hl (by omega)
         refine br Tryz.underlying35 I3 rfl rfl hf (by decide) rfl Hl (isR rfl) (by rw[List.length_singleton];omega) (by rw[List.length_singleton];simp only[maxLen];omega) fun a v w hg hat Hn hf=>?_
         replace e:=e.gro hg (Hl.row (W:=W) (by omega))
         have hrow:=Hl.row (W:=W) (by omega)
         replace e3:=e3.gro hg (fun b hb=>(Hl.lt hb).1)
         replace Hl:=Hn
         replace Hl:=Hn;clear Hn hg hat hin
         refine aA hf rfl (by decide) fun a hf=>aa ?_
         rw[← hls] at Hl
         refine ay 2 hf (by decide +kernel) <| st (mv rfl) <| st ((add rfl rfl (by omega)).eq (iN j)) <| en fun a w e' hf=>?_
         replace e3:=e3.tr e'
         replace Hl:=Hl.ext e'
         replace e:=e.tr e'
         refine aA hf rfl (by decide) fun a hf=>aa ?_
         replace hf:=hf.kp [1,4,12,13,16,17]
         refine⟨_,?_,j+1,_,rfl,by omega,hf,e,?_⟩
         ·omega
         exact⟨e3,Hl⟩
        | false=>
         rw[hQn] at hf
         rw[hQn,if_neg (by decide),List.append_nil] at hls
         refine seq <| ay 1 hf (by decide +kernel) <| st (mv rfl) <| en fun a w e' hf=>?_
         replace e3:=e3.tr e'
         replace Hl:=Hl.ext e'
         replace e:=e.tr e'
         refine aa <| ifF hf rfl ?_
         refine ah <| ay 2 hf (by decide +kernel) <| st (mv rfl) <| st ((add rfl rfl (by omega)).eq (iN j)) <| en fun a w e' hf=>?_
         replace e3:=e3.tr e'
         replace Hl:=Hl.ext e'
         replace e:=e.tr e'
         refine aA hf rfl (by decide) fun a hf=>aa ?_
         replace hf:=hf.kp [1,4,12,13,16,17]
         refine⟨_,?_,j+1,_,rfl,by omega,hf,e,?_⟩
         ·omega
         rw[hls];exact⟨e3,Hl⟩
      ·obtain rfl:j=g.1.length:=by have:=of_decide_eq_false hc;(try dsimp only at this);omega
       rw[List.take_of_length_le (Nat.le_of_eq hvl),show ae ((aj V).filter (QQ k))=LL k by rw[hLL]] at Hl
       have hLk:=hLl k
       generalize LL k=L at hsc Hl hLk
       have e2:Ext W2 w:=e23.tr e3
       have Ho:OwR (slE intE) 35 W2.heap.size Go.Mono.G0 w out u:=Ho3.ext e3
       replace hf:=hf.upd (B:=Dv (slE intE) (GO Go.Mono.G0 u) L) 16 rfl (fun v h=>by cases h;exact Hl.slN fun b hb hh=>hh.elim (fun h=>h.elim) fun h=>by have:=(Hl.lt hb).1;have:=(Ho3.lt h).2;omega)
       replace hf:=hf.kp [1,4,12,13,16]
       refine ay 3 hf (by decide +kernel) <| st (mv rfl) <| st (mv rfl) <| st (aW Tryz.underlying39 I35 rfl (by decide) rfl Ho.avs (isR rfl)) <| en fun a w e' hf=>?_
       replace e2:=e2.tr e'
       replace Ho:=Ho.ext e'
       replace e:=e.tr e'
       haveI hin:∀G0,InR (GB W G0) _:=OwR.inGB (W:=W) Ho hW0
       refine br Tryz.underlying39 I35 rfl rfl hf (by decide) rfl Ho (isR rfl) (by simp only[List.length_singleton];omega) (by simp only[List.length_singleton,maxLen];omega) fun a v w hg hat Hn hf=>?_
       replace e:=e.gro hg (Ho.row (W:=W) hW0)
       have hrow:=Ho.row (W:=W) hW0
       replace e2:=e2.gro hg (fun b hb=>(Ho.lt hb).1)
       replace Ho:=Hn
       replace Ho:=Hn;clear Hn hg hat hin
       refine aA hf rfl (by decide) fun a hf=>aa ?_
       rw[← hsc] at Ho
       refine ay 2 hf (by decide +kernel) <| st (mv rfl) <| st ((add rfl rfl (by omega)).eq (iN k)) <| en fun a w e' hf=>?_
       replace e2:=e2.tr e'
       replace Ho:=Ho.ext e'
       replace e:=e.tr e'
       refine aA hf rfl (by decide) fun a hf=>aa ?_
       replace hf:=hf.kp [1,4,12,13]
       refine⟨_,?_,k+1,_,rfl,by omega,hf,e,?_⟩
       ·omega
       exact⟨e2,Ho⟩
   ·obtain rfl:m=k:=by have:=of_decide_eq_false hc;(try dsimp only at this);omega
    obtain⟨A,hA⟩:=eqX (((List.range m).filter P).map LL)
    have hAl:A.length≤100000:=by
     rw[hA,List.length_map]
     exact Nat.le_trans (List.length_filter_le _ _) (by rw[List.length_range];omega)
    have hAe:∀x∈A,∃y:List Nat,x=ae y∧y.length≤100000:=fun x hx=>by
     rw[hA] at hx
     obtain⟨i,_,rfl⟩:=List.mem_map.1 hx
     have:=hLl i
     rw[hLL] at this ⊢
     dsimp only at this ⊢
     rw[bC] at this
     exact⟨_,rfl,by omega⟩
    rw[← hA] at Ho hU
    replace hf:=hf.kp [1,12]
    refine seq <| seq ?_
    refine ab <| aA hf rfl (by decide) fun a hf=>aa ?_
    replace Ho:OwR (slE intE) 35 W2.heap.size Go.Mono.G0 w (A++(((aj V).take 0).filter Q2).map fun v:Nat=>[(v:Int)]) u:=by simpa using Ho
    replace hf:=hf.kp [1,12,21]
    refine blk (aF (fun r0 a w=>∃(k:Nat) (u':Value),r0=g.1.length - k∧k≤g.1.length∧Fr 252 a w [(1,E (ptr b1)),(12,E u'),(21,E (I k))]∧Ext W w∧Ext W2 w∧OwR (slE intE) 35 W2.heap.size Go.Mono.G0 w (A++(((aj V).take k).filter Q2).map fun v:Nat=>[(v:Int)]) u') g.1.length ⟨0,u,rfl,by omega,hf,e,⟨e2,Ho⟩⟩ ?_)
    rintro r0 a w ⟨k,u,rfl,hk,hf,e,e2,Ho⟩
    refine seq <| seq ?_
    refine ay 5 hf (by decide +kernel) <| st (mv rfl) <| st (bJ Tryz.underlying25 rfl T22 (by decide) rfl) <| st (ld1 T22 rfl (BG.ext e2) rfl) <| st (aB Tryz.underlying22 (isE rfl (vst e h1))) <| st (lss rfl rfl) <| en fun a w e' hf=>?_
    replace e2:=e2.tr e'
    replace Ho:=Ho.ext e'
    replace e:=e.tr e'
    refine aa <| ifc hf rfl (fun hc=>ah ?_) (fun hc=>aC ?_)
    rotate_left
    rotate_left
    ·have hlt:=ltC hc
     replace hf:=hf.kp [1,12,21]
     refine seq <| blk ?_
     have hx0:=List.getElem?_eq_getElem hlt
     generalize g.1[k]=x at hx0
     obtain⟨n,hn,hne⟩:=hvt hx0
     obtain⟨x1,x2⟩:=x
     subst hn
     have hsc:A++(((aj V).take (k+1)).filter Q2).map (fun v:Nat=>[(v:Int)])=A++(((aj V).take k).filter Q2).map (fun v:Nat=>[(v:Int)])++if Q2 n=true then [[(n:Int)]] else []:=by
      rw[tt Q2 (fun v:Nat=>[(v:Int)]) hne,List.append_assoc]
     have hol:(A++(((aj V).take k).filter Q2).map (fun v:Nat=>[(v:Int)])).length≤200000:=by
      rw[List.length_append,List.length_map]
      have h3:=List.length_filter_le Q2 ((aj V).take k)
      have h4:=List.length_take_le' k (aj V)
      omega
     generalize A++(((aj V).take k).filter Q2).map (fun v:Nat=>[(v:Int)])=out at hsc hol Ho
     have hq:((((dY g (n:Int)).length:Nat):Int)==0)=Q2 n:=by
      rw[hQ2];dsimp only
      rw[Bool.eq_iff_iff,beq_iff_eq,decide_eq_true_eq,← hns n];omega
     generalize Q2 n=qn at hsc hq
     have e9:=e
     refine seq <| reg 13 Mix.mix hf (by decide +kernel) <| st ((ldW T25 rfl (BG.ext e2) rfl).eq ((rfl:_=Value.agg #[u1,u2]))) <| st (bJ Tryz.underlying25 rfl T22 (by decide) rfl) <| st (ld1 T22 rfl (BG.ext e2) rfl) <| st (mv rfl) <| st (aD Tryz.underlying22 S45 (isE rfl (vst e h1)) rfl (by omega) (hx0)) <| st (ax Tryz.underlying45 rfl T3 (by decide) (Fld.fst Fld.refl) (isR rfl)) <| st (ldI T3 (isR rfl)) <| st (aw (A:=Tup [OwA intE 3 0 Go.Mono.G0 (dY g (n:Int)),Dv (slE intE) Go.Mono.G0 (eu g (n:Int) g.2.length)]) (B:=E (.agg #[u1,u2])) (C:=E (I (n:Nat))) uZ rfl rfl (fun v s w he k1 k2=>by cases k1;cases k2;exact za g (n:Int) _ w (vst (e9.tr he) hg0) (by omega) hl2 (Nat.zero_le _))) ?_
     refine st (mv rfl) <| st (aV rfl rfl) <| st (aV rfl rfl) <| st (asg rfl) <| st (asg rfl) <| en fun a w e' hf=>?_
     replace e2:=e2.tr e'
     replace Ho:=Ho.ext e'
     replace e:=e.tr e'
     refine aa ?_
     obtain⟨nv,Hr,hf⟩:=hf.opn 22 rfl
     replace Hr:OwR intE 3 0 Go.Mono.G0 w (dY g (n:Int)) nv:=Hr
     replace hf:=hf.kp [1,12,21,22]
     refine seq <| ay 3 hf (by decide +kernel) <| st (mv rfl) <| st (aB Tryz.underlying35 (isE rfl Hr.sl)) <| st ((eql rfl rfl).eq (congrArg Value.bool (hq))) <| en fun a w e' hf=>?_
     replace e2:=e2.tr e'
     replace Ho:=Ho.ext e'
     replace e:=e.tr e'
     refine aa ?_
     replace hf:=hf.kp [1,12,21,201]
     cases qn with
     | true=>
      rw[if_pos rfl] at hsc
      refine ifT hf rfl ?_
      replace hf:=hf.kp [1,12,21]
      refine ay 9 hf (by decide +kernel) <| st (mv rfl) <| st (bJ Tryz.underlying25 rfl T22 (by decide) rfl) <| st (ld1 T22 rfl (BG.ext e2) rfl) <| st (mv rfl) <| st (aD Tryz.underlying22 S45 (isE rfl (vst e h1b)) rfl (by omega) (hx0)) <| st (ax Tryz.underlying45 rfl T3 (by decide) (Fld.fst Fld.refl) (isR rfl)) <| st (ldI T3 (isR rfl)) <| st (aW Tryz.underlying35 I3 rfl (by decide) rfl Ho.avs (isI rfl)) <| st (aW Tryz.underlying39 I35 rfl (by decide) rfl Ho.avs (isR rfl)) <| en fun a w e' hf=>?_
      replace e2:=e2.tr e'
      replace Ho:=Ho.ext e'
      replace e:=e.tr e'
      haveI hin:∀G0,InR (GB W G0) _:=OwR.inGB (W:=W) Ho hW0
      refine br Tryz.underlying39 I35 rfl rfl hf (by decide) rfl Ho (isR rfl) (by simp only[List.length_singleton];omega) (by simp only[List.length_singleton,maxLen];omega) fun a v w hg hat Hn hf=>?_
      replace e:=e.gro hg (Ho.row (W:=W) hW0)
      have hrow:=Ho.row (W:=W) hW0
      replace e2:=e2.gro hg (fun b hb=>(Ho.lt hb).1)
      replace Ho:=Hn
      replace Ho:=Hn;clear Hn hg hat hin
      refine aA hf rfl (by decide) fun a hf=>aa ?_
      rw[← hsc] at Ho
      refine ay 2 hf (by decide +kernel) <| st (mv rfl) <| st ((add rfl rfl (by omega)).eq (iN k)) <| en fun a w e' hf=>?_
      replace e2:=e2.tr e'
      replace Ho:=Ho.ext e'
      replace e:=e.tr e'
      refine aA hf rfl (by decide) fun a hf=>aa ?_
      replace hf:=hf.kp [1,12,21]
      refine⟨_,?_,k+1,_,rfl,by omega,hf,e,?_⟩
      ·omega
      exact⟨e2,Ho⟩
     | false=>
      rw[if_neg (by decide),List.append_nil] at hsc
      refine ifF hf rfl ?_
      refine ah <| ay 2 hf (by decide +kernel) <| st (mv rfl) <| st ((add rfl rfl (by omega)).eq (iN k)) <| en fun a w e' hf=>?_
      replace e2:=e2.tr e'
      replace Ho:=Ho.ext e'
      replace e:=e.tr e'
      refine aA hf rfl (by decide) fun a hf=>aa ?_
      replace hf:=hf.keep [1,12,21]
      refine⟨_,?_,k+1,_,rfl,by omega,hf,e,?_⟩
      ·omega
      rw[hsc];exact⟨e2,Ho⟩
    ·obtain rfl:k=g.1.length:=by have:=of_decide_eq_false hc;(try dsimp only at this);omega
     rw[List.take_of_length_le (Nat.le_of_eq hvl),← hU] at Ho
     have hUl:U.length≤200000:=by
      rw[hU,List.length_append,List.length_map]
      have h3:=List.length_filter_le Q2 (aj V)
      omega
     have hUe:∀x∈U,∃y:List Nat,x=ae y∧y.length≤100000:=fun x hx=>by
      rw[hU] at hx
      rcases List.mem_append.1 hx with hx|hx
      ·exact hAe x hx
      ·obtain⟨v,_,rfl⟩:=List.mem_map.1 hx
       exact⟨[v],rfl,by simp⟩
     have hle:=e2.size
     rcases Ho.bkl with ⟨rfl,hU0⟩|⟨b,cap,rfl,hNb,HB⟩
     ·clear Ho e2
      replace hf:=hf.keep [12]
      refine seq <| seq ?_
      refine ab <| aA hf rfl (by decide) fun a hf=>aa ?_
      replace hf:=hf.keep [12,24]
      refine blk (aF (fun r0 a w=>FrD 252 [] a w [(12,E (.slice none 0 0)),(24,E (I 1))]∧Ext W w) 0 ⟨hf,e⟩ ?_)
      rintro r0 a w ⟨hf,e⟩
      refine seq <| seq ?_
      refine ay 4 hf (by decide +kernel) <| st (mv rfl) <| st (mv rfl) <| st (eG Tryz.underlying39 rfl) <| st ((lss rfl rfl).eq (congrArg Value.bool ((show decide ((1:Int)<((0:Nat):Int))=false by decide)))) <| en fun a w e' hf=>?_
      replace e:=e.tr e'
      refine aa <| ifc hf rfl (fun h=>by cases h) (fun _=>aC ?_)
      refine seq <| ay 1 hf (by decide +kernel) <| st (mv rfl) <| en fun a w e' hf=>?_
      replace e:=e.tr e'
      refine aA hf rfl (by decide) fun a hf=>aa <| ai <| am rfl hf rfl ?_
      rintro _ rfl
      exact⟨_,rfl,e,Dv.sl.2 (.inl ⟨rfl,by rw[hU0];exact List.Perm.eq_nil (iK []) ⟩)⟩
     ·have hcp:U.length≤cap:=by
       have h9:=Dv.sl.1 Ho.sl
       rcases h9 with ⟨h9,_⟩|⟨_,c9,_,h9,h10,_⟩
       ·cases h9
       ·cases h9;exact h10
      obtain⟨n,hn⟩:=eqX U.length
      rw[← hn] at hf hUl hcp
      replace hf:=hf.keep [12]
      refine seq <| seq ?_
      refine ab <| aA hf rfl (by decide) fun a hf=>aa ?_
      replace hf:=hf.keep [12,24]
      refine blk (aF (fun r0 a w=>∃(k:Nat) (s:List (List Int)),r0=n - k∧1≤k∧FrD 252 [] a w [(12,E (.slice (some ⟨b,0,none⟩) n cap)),(24,E (I (k:Nat)))]∧Ext W w∧s.Perm U∧(∀x y,x<y→y<k→¬aS (s.getD y []) (s.getD x [])<0)∧BkL 35 b s w) (n - 1) ⟨1,U,rfl,Nat.le_refl _,hf,e,List.Perm.refl _,fun x y h1 h2=>absurd h1 (by omega),HB⟩ ?_)
      rintro r0 a w ⟨k,s,rfl,hk1,hf,e,hp,hs,HB⟩
      refine seq <| seq ?_
      refine ay 4 hf (by decide +kernel) <| st (mv rfl) <| st (mv rfl) <| st (eG Tryz.underlying39 rfl) <| st (lss rfl rfl) <| en fun a w e' hf=>?_
      replace HB:=HB.ext e'
      replace e:=e.tr e'
      refine aa <| ifc hf rfl (fun hc=>ah ?_) (fun hc=>aC ?_)
      ·have hkn:k<n:=by have:=of_decide_eq_true hc;omega
       refine seq <| blk ?_
       have hsl:s.length=n:=by rw[hp.length_eq,hn]
       replace hf:=hf.keep [12,24]
       refine seq <| ay 1 hf (by decide +kernel) <| st (mv rfl) <| en fun a w e' hf=>?_
       replace HB:=HB.ext e'
       replace e:=e.tr e'
       refine aA hf rfl (by decide) fun a hf=>aa ?_
       replace hf:=hf.keep [12,24,25]
       refine blk (aF (fun r0 a w=>∃(s:List (List Int)),r0≤k∧FrD 252 [] a w [(12,E (.slice (some ⟨b,0,none⟩) n cap)),(24,E (I (k:Nat))),(25,E (I (r0:Nat)))]∧Ext W w∧SrI U k r0 s∧BkL 35 b s w) k ⟨s,Nat.le_refl _,hf,e,SrI.start hp (by omega) hs,HB⟩ ?_)
       rintro r0 a w ⟨s,hr,hf,e,HS,HB⟩
       have hsl:s.length=n:=by rw[HS.pm.length_eq,hn]
       obtain⟨bb,hbb⟩:=eqX ((decide (0<r0)&&decide (aS (s.getD r0 []) (s.getD (r0 - 1) [])<0)))
       have hse:∀i,i<n→∃y:List Nat,s.getD i []=ae y∧y.length≤100000:=fun i hi=>by
        rw[List.getD_eq_getElem?_getD,List.getElem?_eq_getElem (by omega)]
        exact hUe _ (HS.pm.mem_iff.1 (List.getElem_mem _))
       refine seq <| seq ?_
       refine cut (J:=fun a w=>Fr 252 a w [(12,E (.slice (some ⟨b,0,none⟩) n cap)),(24,E (I (k:Nat))),(25,E (I (r0:Nat))),(232,E (B bb))]∧Ext W w∧BkL 35 b s w) ?_ (fun a w hJ=>?_)
       ·cases r0 with
        | zero=>
         obtain rfl:bb=false:=hbb
         refine reg 14 Mix.mix hf (by decide +kernel) <| st (mv rfl) <| st ((gtr rfl rfl).eq (congrArg Value.bool ((show decide (((0:Nat):Int) > 0)=false by decide)))) <| st (mv rfl) <| sn rfl rfl rfl <| sn rfl rfl rfl <| sn rfl rfl rfl <| sn rfl rfl rfl <| sn rfl rfl rfl <| sn rfl rfl rfl <| sn rfl rfl rfl <| sn rfl rfl rfl <| sn rfl rfl rfl <| sn rfl rfl rfl <| st (pkF rfl rfl) <| en fun a w e' hf=>?_
         replace HB:=HB.ext e'
         replace e:=e.tr e'
         refine aa ?_
         replace hf:=hf.keep [12,24,25,232]
         exact⟨rfl,hf,e,HB⟩
        | succ j=>
         obtain⟨cur,HC,hcl,hce⟩:=HB
         obtain⟨x2,a1,a2⟩:=hce (j+1) (by omega)
         obtain⟨x1,b1',b2⟩:=hce j (by omega)
         obtain⟨p2,c1,c2⟩:=hse (j+1) (by omega)
         obtain⟨p1,d1,d2⟩:=hse j (by omega)
         have hb2:bb=lsF p2 p1:=by rw[hbb,decide_eq_true (Nat.succ_pos j),Bool.true_and,Nat.add_sub_cancel,c1,d1,tl]
         have HB:BkL 35 b s w:=⟨cur,HC,hcl,hce⟩
         rw[c1] at a2
         rw[d1] at b2
         have hj1:0+(((j+1:Nat):Nat):Int).toNat * 1=j+1:=by omega
         refine reg 14 Mix.mix hf (by decide +kernel) <| st (mv rfl) <| st ((gtr rfl rfl).eq (congrArg Value.bool ((show decide (((j+1:Nat):Int) > 0)=true from decide_eq_true (by omega))))) <| st (mv rfl) <| sy rfl rfl (mv rfl) <| sy rfl rfl (mv rfl) <| sy rfl rfl ((idxS Tryz.underlying39 S35 rfl rfl (by omega)).eq (atZ)) <| sy rfl rfl (ld1 (v:=x2) T35 rfl HC a1) <| sy rfl rfl (mv rfl) <| sy rfl rfl (mv rfl) <| sy rfl rfl ((sub rfl rfl (by omega)).eq (congrArg (Value.int .i64) (show (((j+1:Nat):Int) - 1)=((j:Nat):Int) by omega))) <| sy rfl rfl ((idxS Tryz.underlying39 S35 rfl rfl (by omega)).eq (atZ)) <| sy rfl rfl (ld1 (v:=x1) T35 rfl HC b1') <| sy rfl rfl (aw (A:=E (B bb)) (B:=E x2) (C:=E x1) vb rfl rfl (fun x y w' he k1 k2=>by cases k1;cases k2;rw[hb2];exact a1M p2 p1 _ _ w' (vst he a2) (vst he b2) c2 d2)) ?_
         refine st (pkT rfl rfl) <| en fun a w e' hf=>?_
         replace HB:=HB.ext e'
         replace e:=e.tr e'
         refine aa ?_
         replace hf:=hf.kp [12,24,25,232]
         exact⟨rfl,hf,e,HB⟩
       obtain⟨hf,e,HB⟩:=hJ
       cases bb with
       | false=>
        refine ifc hf rfl (fun h=>by cases h) (fun _=>aC ?_)
        have hst:=HS.stop (k:=r0) (by
         by_cases h0:r0=0
         ·exact .inl h0
         ·right
          rw[decide_eq_true (show 0<r0 by omega),Bool.true_and] at hbb
          exact of_decide_eq_false hbb.symm)
        have hp:=HS.pm
        replace hf:=hf.kp [12,24]
        refine ay 2 hf (by decide +kernel) <| st (mv rfl) <| st ((add rfl rfl (by omega)).eq (congrArg (Value.int .i64) (show ((k:Nat):Int)+1=((k+1:Nat):Int) from rfl))) <| en fun a w e' hf=>?_
        replace HB:=HB.ext e'
        replace e:=e.tr e'
        refine aA hf rfl (by decide) fun a hf=>aa ?_
        replace hf:=hf.kp [12,24]
        refine⟨_,?_,k+1,s,rfl,by omega,hf,e,hp,hst,HB⟩
        omega
       | true=>
        refine ifc hf rfl (fun _=>ah ?_) (fun h=>by cases h)
        rw[eq_comm,Bool.and_eq_true] at hbb
        have hr0:=of_decide_eq_true hbb.1
        obtain⟨j,rfl⟩:∃j,r0=j+1:=⟨r0 - 1,by omega⟩
        have hmv:=HS.move (by have:=of_decide_eq_true hbb.2;rwa [Nat.add_sub_cancel] at this)
        obtain⟨cur,HC,hcl,hce⟩:=HB
        obtain⟨x2,a1,a2⟩:=hce (j+1) (by omega)
        obtain⟨x1,b1',b2⟩:=hce j (by omega)
        refine seq <| blk ?_
        have lb:W.heap.size≤b:=by omega
        replace hf:=hf.kp [12,24,25]
        refine cF 17 [2,2,2,1,1,2,2,2,2,2,2,2,2,2,2] (Chg fun c=>c=b) (bS.one _) (fun w=>Blk w b (cur.setIfInBounds j x2) 35) (fun w w1 k h=>h.ext k) Mix.mix hf (by decide +kernel) (by decide +kernel) <| jk (mv rfl) <| jk (mv rfl) <| jk ((sub rfl rfl (by omega)).eq (congrArg (Value.int .i64) (show (((j+1:Nat):Int) - 1)=((j:Nat):Int) by omega))) <| jf (fun w1 h1=>mv rfl) <| jf (fun w1 h1=>mv rfl) <| jk (mv rfl) <| jk (mv rfl) <| jk ((idxS Tryz.underlying39 S35 rfl rfl (by omega)).eq (atZ)) <| jk (ld1 (v:=x2) T35 rfl HC a1) <| jk (mv rfl) <| jk (mv rfl) <| jk ((sub rfl rfl (by omega)).eq (congrArg (Value.int .i64) (show (((j+1:Nat):Int) - 1)=((j:Nat):Int) by omega))) <| jk ((idxS Tryz.underlying39 S35 rfl rfl (by omega)).eq (atZ)) <| jk (ld1 (v:=x1) T35 rfl HC b1') <| jk ((idxS Tryz.underlying39 S35 rfl rfl (by omega)).eq (atZ)) <| jx (zf T35 rfl rfl (Dv.slOne a2) HC (by omega)) <| jp (fun w1 h1 HF1=>(idxS Tryz.underlying39 S35 rfl rfl (by omega)).eq (atZ)) <| je <| fun a w hc HF hf=>?_
        try dsimp only[push] at hf
        replace e:=e.ch hc (fun c hb=>by omega)
        replace hce:∀i,i<s.length→∃u,cur[i]?=some u∧(Dv (slE intE) (fun c=>c=b) (s.getD i [])).p u w:=fun i hi=>by
         obtain⟨u,k1,k2⟩:=hce i hi
         exact⟨u,k1,Dv.ch k2 hc fun c h=>h⟩
        replace hf:=hf.kp [12,24,25,248,250]
        refine aI T35 hf rfl rfl (Dv.slOne b2) HF (by rw[Array.size_setIfInBounds];omega) fun w hg hsz HB hf=>?_
        replace e:=e.gr hg lb
        replace hce:∀i,i<s.length→∃u,cur[i]?=some u∧(Dv (slE intE) (fun c=>c=b) (s.getD i [])).p u w:=fun i hi=>by
         obtain⟨u,k1,k2⟩:=hce i hi
         exact⟨u,k1,Dv.gr k2 hg rfl⟩
        refine aa ?_
        have HBn:=a2A (k:=j) (by omega) hcl hce b1' a1 HB fun _ _ h=>h
        replace hf:=hf.kp [12,24,25]
        refine ay 2 hf (by decide +kernel) <| st (mv rfl) <| st ((sub rfl rfl (by omega)).eq (congrArg (Value.int .i64) (show ((j+1:Nat):Int) - 1=((j:Nat):Int) by omega))) <| en fun a w e' hf=>?_
        replace HBn:=HBn.ext e'
        replace e:=e.tr e'
        refine aA hf rfl (by decide) fun a hf=>aa ?_
        replace hf:=hf.kp [12,24,25]
        exact⟨j,Nat.lt_succ_self _,_,by omega,hf,e,hmv,HBn⟩
      ·have hkn:n≤k:=by have:=of_decide_eq_false hc;omega
       have hsl:s.length=n:=by rw[hp.length_eq,hn]
       have hpw:s.Pairwise (fun x y=>¬aS y x<0):=List.pairwise_iff_getElem.2 fun i j hi hj hij=>by
        have:=hs i j hij (by omega)
        rwa [List.getD_eq_getElem?_getD,List.getD_eq_getElem?_getD,List.getElem?_eq_getElem hi,List.getElem?_eq_getElem hj] at this
       replace hf:=hf.kp [12]
       refine seq <| ay 1 hf (by decide +kernel) <| st (mv rfl) <| en fun a w e' hf=>?_
       replace HB:=HB.ext e'
       replace e:=e.tr e'
       refine aA hf rfl (by decide) fun a hf=>aa <| ai <| am rfl hf rfl ?_
       rintro _ rfl
       exact⟨_,rfl,e,by rw[← mP hp hpw];exact HB.dv hsl.symm hcp⟩
end Go.Mono
namespace Go.Mono
open Go Go.Proofs Go.RowKit Go.Gr
theorem a2D {P:Program} {w:World} {d:Nat} {xs ys:Array Value} {f0 f1:Field} {x0 y0 x1 y1:Value} {r0 r1:Bool} (n0:f0.name ≠ "_") (n1:f1.name ≠ "_")
  (p0:(part f0.type xs f0.offset).run P w=.ok x0 w) (q0:(part f0.type ys f0.offset).run P w=.ok y0 w) (h0:(Op.equalIn d f0.type x0 y0).run P w=.ok r0 w)
  (p1:(part f1.type xs f1.offset).run P w=.ok x1 w) (q1:(part f1.type ys f1.offset).run P w=.ok y1 w) (h1:(Op.equalIn d f1.type x1 y1).run P w=.ok r1 w) :
  (Op.eqFields d xs ys [f0,f1]).run P w=.ok (r0&&r1) w:=by
 rw[Op.eqFields]
 simp only[n0,if_true,ne_eq,not_false_eq_true,Sem.run_bind,Result.andThen_ok,p0,q0,h0]
 cases r0
 ·rfl
 ·rw[if_neg (by decide),Op.eqFields]
  simp only[n1,if_true,ne_eq,not_false_eq_true,Sem.run_bind,Result.andThen_ok,p1,q1,h1]
  cases r1
  ·rfl
  ·rw[if_neg (by decide),Op.eqFields];rfl
theorem a2E:(Tryz.prog.fieldsOf 132).toList=[⟨"label",5,0,false,"","palmette/graph",0⟩,⟨"weight",3,1,false,"","palmette/graph",8⟩]:=by kernel_rfl
theorem a2F:Tryz.prog.stoodInHeld 132=false:=by kernel_rfl
theorem a2G:Tryz.prog.eqGuardType Tryz.prog.depth 132=false:=by kernel_rfl
theorem a2H:Tryz.prog.underlying 132=some (.struct (Tryz.prog.fieldsOf 132)):=by kernel_rfl
theorem a2I (a:Int×Int)(w:World):(Op.equalIn 10000 132 (thV a) (thV a)).run Tryz.prog w=.ok true w:=by
 have h:(true:Bool)=((a.1==a.1)&&(a.2==a.2)):=by simp
 show (Op.equalIn 10000 132 (.agg #[.int .u8 a.1,.int .i64 a.2]) (.agg #[.int .u8 a.1,.int .i64 a.2])).run Tryz.prog w=_
 rw[run_equalIn_struct w 9999 _ _ _ a2H a2F,a2E,h]
 exact a2D (by decide) (by decide) (by simp[part,T5.agg w]) (by simp[part,T5.agg w]) (run_equalIn_int w 9998 5 .u8 .u8 a.1 a.1 U5) (by simp[part,T3.agg w]) (by simp[part,T3.agg w]) (run_equalIn_int w 9998 3 .i64 .i64 a.2 a.2 U3)
theorem tu {w0:World}{L:Env}{dst:Option Tmp}{ty:TypeId}{pos:String}{aft:Array Edge}{g:Option (Nat×Bool)}{x y:Operand}{yt:TypeId}{a:Int×Int}(hx:opd L x=some (E (thV a)))(hy:opd L y=some (E (thV a))) :
  OpC Tryz.prog w0 L ⟨dst,.binOp .neq 132 x y yt,ty,pos,aft,g⟩ (E (.bool false)):=
 kw hx hy (fun w=>kK _ _ _ _ _ _ a2G w) rfl fun w _=>a2I a w
theorem tv {α β:Type}{l:List (α×β)}(h:l.Pairwise fun p q=>p.1≠q.1){x:α}{c d:β}(h1:(x,c)∈l)(h2:(x,d)∈l):c=d:=by
 induction l with
 | nil=>cases h1
 | cons p l ih=>
  obtain⟨hp,hl⟩:=List.pairwise_cons.1 h
  rcases List.mem_cons.1 h1 with e1|e1
  ·rcases List.mem_cons.1 h2 with e2|e2
   ·rw[← e1] at e2;exact (Prod.mk.inj e2).2.symm
   ·exact absurd (by rw[← e1]) (hp _ e2)
  ·rcases List.mem_cons.1 h2 with e2|e2
   ·exact absurd (by rw[← e2]) (hp _ e1)
   ·exact ih hl e1 e2
theorem a2J {G G':Nat→Prop}{N M:Nat}(l l2:List VT)(hp:l2.Perm l)(v u:Value)(W:World)(h:(Dv (mpE vKV N) G l).p v W)(h':(Dv (mpE vKV M) G' l2).p u W) :
  Calls Tryz.prog 95 #[v,u] W (Post (E (B true)) W):=by
 refine eN [v,u] [Dv (mpE vKV N) (GB W G0) l,Dv (mpE vKV M) (GB W G0) l2] Tryz.func95 Tryz.ntmps95 ?_ fun a hf=>?_
 rotate_left
 rotate_right
 ·exact arg2 (Dv.toB (Dv.weak h fun b _ hb=>hb.elim)) (Dv.toB (Dv.weak h' fun b _ hb=>hb.elim))
 have e:=Ext.rfl' W
 refine seq <| ab <| tA hf rfl fun a hf=>aa ?_
 refine seq <| seq ?_
 refine rgN 5 hf <| st (mv rfl) <| st (gl fv (isR rfl)) <| st (mv rfl) <| st (gl fv (isR rfl)) <| st ((neq rfl rfl).eq (congrArg Value.bool ((show (((l.length:Nat):Int) != ((l2.length:Nat):Int))=false by rw[hp.length_eq];exact bne_self_eq_false _)))) ?_
 refine en fun a w e' hf=>?_
 replace e:=e.tr e'
 refine aa <| ifF hf rfl ?_
 refine ah ?_
 replace hf:=hf.keep [0,1]
 refine seq <| seq ?_
 refine rgN 1 hf <| st (mv rfl) <| en fun a w e' hf=>?_
 replace e:=e.tr e'
 obtain⟨_,⟨cs,⟨bm,nm,rfl,hGm,hNm,HM⟩,rfl⟩,hf⟩:=hf.fix 14 rfl
 have hbm:bm<W.heap.size:=Nat.lt_of_not_le fun h=>hGm (.inr h)
 refine iq (V:=vKV) fv hf (by decide) rfl HM fun a r w e' hr hsr HR hf=>?_
 have hrW:W.heap.size≤r:=Nat.le_trans e.size (Nat.le_of_eq hr.symm)
 replace e:=e.tr e'
 refine aa ?_
 haveI:InR (GB W G0) (some r):=InR.gb hrW
 replace hf:=hf.keep [1,15]
 refine blk (aF (fun r0 a w=>∃(old rest:List VT),r0=rest.length∧Fr 34 a w [(1,Dv (mpE vKV M) (GB W G0) l2),(15,E (.pointer (some ⟨r,0,none⟩)))]∧Ext W w∧RgR vKV w bm r nm old rest∧(old++rest).Perm l) l.length ⟨[],l,rfl,hf,e,HR,List.Perm.refl _⟩ ?_)
 rintro r0 a w ⟨old,rest,rfl,hf,e,HR,hq⟩
 obtain⟨hok,hpw⟩:=HR.okn
 refine seq <| ab <| ir hf (by decide) rfl HR (fun a hrest hf=>?_) (fun a w' x c hm hg HR hen hf=>?_)
 ·refine ca hf (by decide) rfl rfl fun a hf=>aa <| seq <| ifF hf rfl ?_
  refine aC ?_
  replace hf:=hf.keep [1]
  refine seq <| ab <| tA hf rfl fun a hf=>aa <| ai <| am rfl hf rfl ?_
  rintro _ rfl
  exact⟨_,rfl,e,rfl⟩
 ·have hmr:=mn hm
  have hq':(old++[(x,c)]++rest.filter fun p => !decide (p.1=x)).Perm l:=by
   rw[List.append_assoc];exact (List.Perm.append_left old (er (List.pairwise_append.1 hpw).2.1 hm).symm).trans hq
  have hmm:=List.mem_append_right old hm
  have hxc:=hok (x,c) hmm
  have hm2:(x,c)∈l2:=hp.mem_iff.2 (hq.mem_iff.1 hmm)
  have hpw2:l2.Pairwise fun p q:VT=>p.1≠q.1:=((hp.trans hq.symm).pairwise_iff (fun {_ _} hne=>Ne.symm hne)).2 hpw
  have hany:(l2.any fun p=>decide (p.1=x))=true:=List.any_eq_true.2 ⟨_,hm2,decide_eq_true rfl⟩
  replace e:=e.gr hg hrW;clear hg
  refine ca hf (by decide) rfl rfl fun a hf=>aa <| seq <| ifT hf rfl ?_
  refine ah <| blk <| seq <| ab <| iv hf (by decide) rfl hen fun a hf=>?_
  replace hf:=hf.keep [1,15,18]
  refine ca hf (by decide) rfl rfl fun a hf=>ca hf (by decide) rfl rfl fun a hf=>?_
  have lr:=HR.lt
  refine tL cL hf fun a b6 w e' hb6 hs6 B6 hf=>?_
  obtain⟨HR,e⟩:=up2 e' HR e
  refine tA hf rfl fun a hf=>?_
  haveI:InR (GB W G0) (some b6):=InR.gb (by omega)
  replace hf:=hf.kp [1,5,6,15,20]
  refine az cU hf rfl rfl (bk rfl rfl) B6 rfl rfl fun w hg' hsz B6 hf=>?_
  replace e:=e.gr hg' (by omega);replace HR:=HR.gr hg' (fun h=>by cases h;omega) (fun h=>by cases h;omega);clear hg'
  refine aa ?_
  replace hf:=hf.keep [1,5,6,15]
  refine seq <| rgN 6 hf <| st (mv rfl) <| st (mv rfl) <| st (ij (V:=vKV) (i:=x) (z:=(0,0)) fv (eI cL) th0 (isR rfl) rfl hxc.1) <| st (mv rfl) <| st (aV rfl rfl) <| st (aV rfl rfl) <| en fun a w e' hf=>?_
  obtain⟨HR,e,B6⟩:=up3 e' HR e B6
  refine tL cL hf fun a b7 w e' hb7 hs7 B7 hf=>?_
  have lt7_B6:=B6.lt
  obtain⟨HR,e,B6⟩:=up3 e' HR e B6
  have h7r:r<b7∧bm<b7∧b6<b7:=by omega
  haveI:InR (GB W G0) (some b7):=InR.gb (by omega)
  obtain⟨_,⟨c2,rfl,hc1,_⟩,hf⟩:=hf.fix 25 rfl
  have hcc:c2=c:=tv hpw2 (hc1 ⟨c,hm2⟩) hm2
  rw[hany,hcc] at hf
  replace hf:=hf.kp [1,6,7,15,25,26]
  refine az cU hf rfl rfl (bk rfl rfl) B7 rfl rfl fun w hg' hsz B7 hf=>?_
  replace e:=e.gr hg' (by omega);replace HR:=HR.gr hg' (fun h=>by cases h;omega) (fun h=>by cases h;omega);replace B6:=B6.gr hg' (by omega);clear hg'
  refine tA hf rfl fun a hf=>aa ?_
  replace hf:=hf.keep [1,6,7,8,15]
  refine seq <| rgN 7 hf <| st (mv rfl) <| st (aY rfl) <| st (mv rfl) <| sy rfl rfl (ldW cU rfl B6 rfl) <| sy rfl rfl (ldW cU rfl B7 rfl) <| sy rfl rfl (tu rfl rfl) <| st (pkF rfl rfl) <| en fun a w e' hf=>?_
  obtain⟨HR,e,B6,B7⟩:=up4 e' HR e B6 B7
  refine aa <| ifF hf rfl ?_
  refine ah ?_
  replace hf:=hf.keep [1,15]
  exact⟨_,hmr,old++[(x,c)],_,rfl,hf,e,HR,hq'⟩
theorem a2K {G G':Nat→Prop}{N M:Nat}(l l2:List ET)(hp:l2.Perm l)(v u:Value)(W:World)(h:(Dv (mpE eKV N) G l).p v W)(h':(Dv (mpE eKV M) G' l2).p u W) :
  Calls Tryz.prog 96 #[v,u] W (Post (E (B true)) W):=by
 refine eN [v,u] [Dv (mpE eKV N) (GB W G0) l,Dv (mpE eKV M) (GB W G0) l2] Tryz.func96 Tryz.ntmps96 ?_ fun a hf=>?_
 rotate_left
 rotate_right
 ·exact arg2 (Dv.toB (Dv.weak h fun b _ hb=>hb.elim)) (Dv.toB (Dv.weak h' fun b _ hb=>hb.elim))
 have e:=Ext.rfl' W
 refine seq <| ab <| tA hf rfl fun a hf=>aa ?_
 refine seq <| seq ?_
 refine rgN 5 hf <| st (mv rfl) <| st (gl eP (isR rfl)) <| st (mv rfl) <| st (gl eP (isR rfl)) <| st ((neq rfl rfl).eq (congrArg Value.bool ((show (((l.length:Nat):Int) != ((l2.length:Nat):Int))=false by rw[hp.length_eq];exact bne_self_eq_false _)))) ?_
 refine en fun a w e' hf=>?_
 replace e:=e.tr e'
 refine aa <| ifF hf rfl ?_
 refine ah ?_
 replace hf:=hf.keep [0,1]
 refine seq <| seq ?_
 refine rgN 1 hf <| st (mv rfl) <| en fun a w e' hf=>?_
 replace e:=e.tr e'
 obtain⟨_,⟨cs,⟨bm,nm,rfl,hGm,hNm,HM⟩,rfl⟩,hf⟩:=hf.fix 14 rfl
 have hbm:bm<W.heap.size:=Nat.lt_of_not_le fun h=>hGm (.inr h)
 refine iq (V:=eKV) eP hf (by decide) rfl HM fun a r w e' hr hsr HR hf=>?_
 have hrW:W.heap.size≤r:=Nat.le_trans e.size (Nat.le_of_eq hr.symm)
 replace e:=e.tr e'
 refine aa ?_
 haveI:InR (GB W G0) (some r):=InR.gb hrW
 replace hf:=hf.keep [1,15]
 refine blk (aF (fun r0 a w=>∃(old rest:List ET),r0=rest.length∧Fr 34 a w [(1,Dv (mpE eKV M) (GB W G0) l2),(15,E (.pointer (some ⟨r,0,none⟩)))]∧Ext W w∧RgR eKV w bm r nm old rest∧(old++rest).Perm l) l.length ⟨[],l,rfl,hf,e,HR,List.Perm.refl _⟩ ?_)
 rintro r0 a w ⟨old,rest,rfl,hf,e,HR,hq⟩
 obtain⟨hok,hpw⟩:=HR.okn
 refine seq <| ab <| ir hf (by decide) rfl HR (fun a hrest hf=>?_) (fun a w' x c hm hg HR hen hf=>?_)
 ·refine ca hf (by decide) rfl rfl fun a hf=>aa <| seq <| ifF hf rfl ?_
  refine aC ?_
  replace hf:=hf.keep [1]
  refine seq <| ab <| tA hf rfl fun a hf=>aa <| ai <| am rfl hf rfl ?_
  rintro _ rfl
  exact⟨_,rfl,e,rfl⟩
 ·have hmr:=mn hm
  have hq':(old++[(x,c)]++rest.filter fun p => !decide (p.1=x)).Perm l:=by
   rw[List.append_assoc];exact (List.Perm.append_left old (er (List.pairwise_append.1 hpw).2.1 hm).symm).trans hq
  have hmm:=List.mem_append_right old hm
  have hxc:=hok (x,c) hmm
  have hm2:(x,c)∈l2:=hp.mem_iff.2 (hq.mem_iff.1 hmm)
  have hpw2:l2.Pairwise fun p q:ET=>p.1≠q.1:=((hp.trans hq.symm).pairwise_iff (fun {_ _} hne=>Ne.symm hne)).2 hpw
  have hany:(l2.any fun p=>decide (p.1=x))=true:=List.any_eq_true.2 ⟨_,hm2,decide_eq_true rfl⟩
  replace e:=e.gr hg hrW;clear hg
  refine ca hf (by decide) rfl rfl fun a hf=>aa <| seq <| ifT hf rfl ?_
  refine ah <| blk <| seq <| ab <| iv hf (by decide) rfl hen fun a hf=>?_
  replace hf:=hf.keep [1,15,18]
  refine ca hf (by decide) rfl rfl fun a hf=>ca hf (by decide) rfl rfl fun a hf=>?_
  have lr:=HR.lt
  refine tL kT hf fun a b5 w e' hb5 hs5 B5 hf=>?_
  obtain⟨HR,e⟩:=up2 e' HR e
  refine tL cL hf fun a b6 w e' hb6 hs6 B6 hf=>?_
  obtain⟨HR,e,B5⟩:=up3 e' HR e B5
  haveI:InR (GB W G0) (some b5):=InR.gb (by omega)
  haveI:InR (GB W G0) (some b6):=InR.gb (by omega)
  replace hf:=hf.kp [1,5,6,15,19,20]
  refine az gX hf rfl rfl (bk rfl rfl) B5 rfl rfl fun w hg' hsz B5 hf=>?_
  replace e:=e.gr hg' (by omega);replace HR:=HR.gr hg' (fun h=>by cases h;omega) (fun h=>by cases h;omega);replace B6:=B6.gr hg' (by omega);clear hg'
  refine az cU hf rfl rfl (bk rfl rfl) B6 rfl rfl fun w hg' hsz B6 hf=>?_
  replace e:=e.gr hg' (by omega);replace HR:=HR.gr hg' (fun h=>by cases h;omega) (fun h=>by cases h;omega);replace B5:=B5.gr hg' (by omega);clear hg'
  refine aa ?_
  replace hf:=hf.keep [1,5,6,15]
  refine seq <| rgN 6 hf <| st (mv rfl) <| st ((ldW gX rfl B5 rfl).eq ((rfl:_=eKV.kv x))) <| st (ij (V:=eKV) (i:=x) (z:=(0,0)) eP (eI cL) th0 (isR rfl) rfl hxc.1) <| st (mv rfl) <| st (aV rfl rfl) <| st (aV rfl rfl) <| en fun a w e' hf=>?_
  obtain⟨HR,e,B5,B6⟩:=up4 e' HR e B5 B6
  refine tL cL hf fun a b7 w e' hb7 hs7 B7 hf=>?_
  have lt7_B6:=B6.lt
  obtain⟨HR,e,B5,B6⟩:=up4 e' HR e B5 B6
  have h7r:r<b7∧bm<b7∧b6<b7:=by omega
  haveI:InR (GB W G0) (some b7):=InR.gb (by omega)
  obtain⟨_,⟨c2,rfl,hc1,_⟩,hf⟩:=hf.fix 25 rfl
  have hcc:c2=c:=tv hpw2 (hc1 ⟨c,hm2⟩) hm2
  rw[hany,hcc] at hf
  replace hf:=hf.kp [1,6,7,15,25,26]
  refine az cU hf rfl rfl (bk rfl rfl) B7 rfl rfl fun w hg' hsz B7 hf=>?_
  replace e:=e.gr hg' (by omega);replace HR:=HR.gr hg' (fun h=>by cases h;omega) (fun h=>by cases h;omega);replace B6:=B6.gr hg' (by omega);clear hg'
  refine tA hf rfl fun a hf=>aa ?_
  replace hf:=hf.keep [1,6,7,8,15]
  refine seq <| rgN 7 hf <| st (mv rfl) <| st (aY rfl) <| st (mv rfl) <| sy rfl rfl (ldW cU rfl B6 rfl) <| sy rfl rfl (ldW cU rfl B7 rfl) <| sy rfl rfl (tu rfl rfl) <| st (pkF rfl rfl) <| en fun a w e' hf=>?_
  obtain⟨HR,e,B6,B7⟩:=up4 e' HR e B6 B7
  refine aa <| ifF hf rfl ?_
  refine ah ?_
  replace hf:=hf.keep [1,15]
  exact⟨_,hmr,old++[(x,c)],_,rfl,hf,e,HR,hq'⟩
theorem a2L {G G':Nat→Prop}{N M:Nat}(g g2:GT)(h1:g2.1.Perm g.1)(h2:g2.2.Perm g.2)(v u:Value)(W:World)(h:(Dv (ptE (grE N)) G (some g)).p v W)(h':(Dv (ptE (grE M)) G' (some g2)).p u W) :
  Calls Tryz.prog 44 #[v,u] W (Post (E (B true)) W):=by
 have hv:(Dv (ptE (grE N)) G0 (some g)).p v W:=Dv.weak h fun b _ hb=>hb.elim
 have hu:(Dv (ptE (grE M)) G0 (some g2)).p u W:=Dv.weak h' fun b _ hb=>hb.elim
 refine eN [v,u] [E v,E u] Tryz.func44 Tryz.ntmps44 ?_ fun a hf=>?_
 rotate_left
 rotate_right
 ·exact arg2 rfl rfl
 have e:=Ext.rfl' W
 refine seq <| ab <| tA hf rfl fun a hf=>aa ?_
 refine seq <| seq ?_
 refine rgN 6 hf <| st (mv rfl) <| st (dm U26 (isE rfl (vst e hv))) <| st (mv rfl) <| sy rfl rfl (mv rfl) <| sy rfl rfl (dm U26 (isE rfl (vst e hu))) <| st (pkF rfl rfl) <| en fun a w e' hf=>?_
 replace e:=e.tr e'
 refine aa <| ifF hf rfl ?_
 refine ah ?_
 replace hf:=hf.keep [0,1]
 refine seq <| rgG 20 Mix.mix hf <| st (mv rfl) <| st (dj (isE rfl (vst e hv))) <| st (ax cX rfl cJ (by decide) (Fld.fst Fld.refl) (isR rfl)) <| st (ldD cJ (isR rfl)) <| st (mv rfl) <| st (dj (isE rfl (vst e hu))) <| st (ax cX rfl cJ (by decide) (Fld.fst Fld.refl) (isR rfl)) <| st (ldD cJ (isR rfl)) <| st (aw (A:=E (B true)) (B:=Dv (mpE vKV N) G0 g.1) (C:=Dv (mpE vKV M) G0 g2.1) vn rfl rfl (fun v u w he k1 k2=>a2J g.1 g2.1 h1 v u w k1 k2)) <| st (mv rfl) <| sy rfl rfl (mv rfl) <| sy rfl rfl (dj (isE rfl (vst e hv))) <| sy rfl rfl (ax cX rfl cK (by decide) (Fld.snd Fld.refl rfl) (isR rfl)) <| sy rfl rfl (ldD cK (isR rfl)) <| sy rfl rfl (mv rfl) <| sy rfl rfl (dj (isE rfl (vst e hu))) <| sy rfl rfl (ax cX rfl cK (by decide) (Fld.snd Fld.refl rfl) (isR rfl)) <| sy rfl rfl (ldD cK (isR rfl)) <| sy rfl rfl (aw (A:=E (B true)) (B:=Dv (mpE eKV N) G0 g.2) (C:=Dv (mpE eKV M) G0 g2.2) vp rfl rfl (fun v u w he k1 k2=>a2K g.2 g2.2 h2 v u w k1 k2)) <| st (pkT rfl rfl) <| en fun a w e' hf=>?_
 replace e:=e.tr e'
 refine tA hf rfl fun a hf=>aa <| ai <| am rfl hf rfl ?_
 rintro _ rfl
 exact⟨_,rfl,e,rfl⟩
end Go.Mono
namespace Go.Proofs
open Go.Shelf
def Tryz.cloneV_ren:Go.Shelf.Ren:=⟨fun|5=>93|7=>128|n=>n,fun|23=>127|25=>3|3=>132|4=>4|20=>20|n=>n,fun|n=>n⟩
theorem Tryz.cloneV:Go.Proofs.SlLaysW.n5 Tryz.prog Tryz.cloneV_ren:={
 mixed:=by kernel_rfl
 f5:=⟨Tryz.f93.name,by decide,Tryz.func93.trans (congrArg some (by kernel_rfl))⟩
 f7:=Tryz.func128.trans (congrArg some (by kernel_rfl))
 t4:=Tryz.underlying4
 a4:=Tryz.isAgg4
 z4:=Tryz.sizeOf4
 v4:=Tryz.zeroValue4
 t20:=Tryz.underlying20
 a20:=Tryz.isAgg20
 z20:=Tryz.sizeOf20
 v20:=Tryz.zeroValue20
 t23:=Tryz.underlying127
 a23:=Tryz.isAgg127
 z23:=Tryz.sizeOf127
 v23:=Tryz.zeroValue127 }
def Tryz.cloneE_ren:Go.Shelf.Ren:=⟨fun|5=>94|7=>128|n=>n,fun|23=>128|25=>139|3=>132|4=>4|20=>20|n=>n,fun|n=>n⟩
theorem Tryz.cloneE:Go.Proofs.SlLaysW.n5 Tryz.prog Tryz.cloneE_ren:={
 mixed:=by kernel_rfl
 f5:=⟨Tryz.f94.name,by decide,Tryz.func94.trans (congrArg some (by kernel_rfl))⟩
 f7:=Tryz.func128.trans (congrArg some (by kernel_rfl))
 t4:=Tryz.underlying4
 a4:=Tryz.isAgg4
 z4:=Tryz.sizeOf4
 v4:=Tryz.zeroValue4
 t20:=Tryz.underlying20
 a20:=Tryz.isAgg20
 z20:=Tryz.sizeOf20
 v20:=Tryz.zeroValue20
 t23:=Tryz.underlying128
 a23:=Tryz.isAgg128
 z23:=Tryz.sizeOf128
 v23:=Tryz.zeroValue128 }
end Go.Proofs
namespace Go.Mono
open Go Go.Proofs Go.RowKit Go.Gr
section
variable {G:Nat→Prop}{N:Nat}{v:Value}{W:World}
theorem a2M {l:List VT}(h:(Dv (mpE vKV N) G l).p v W):Calls Tryz.prog 93 #[v] W (Post (Dv (mpE vKV N) G0 l) W):=by
 obtain⟨cs,⟨bm,nm,rfl,_,hNm,es,h1,h2,h3,h4⟩,rfl⟩:=h
 exact (AnyW.maps_Clone_owns Tryz.cloneV vKV.k vKV.R bm nm (.map es) W h1).mono fun en w' ⟨k1,k2,k3,k4⟩=>⟨_,k1,k4,_,⟨_,nm,rfl,fun h=>h,hNm,es,k2,h2,h3,h4⟩,rfl⟩
theorem a2N {l:List ET}(h:(Dv (mpE eKV N) G l).p v W):Calls Tryz.prog 94 #[v] W (Post (Dv (mpE eKV N) G0 l) W):=by
 obtain⟨cs,⟨bm,nm,rfl,_,hNm,es,h1,h2,h3,h4⟩,rfl⟩:=h
 exact (AnyW.maps_Clone_owns Tryz.cloneE eKV.k eKV.R bm nm (.map es) W h1).mono fun en w' ⟨k1,k2,k3,k4⟩=>⟨_,k1,k4,_,⟨_,nm,rfl,fun h=>h,hNm,es,k2,h2,h3,h4⟩,rfl⟩
end
theorem a2O {G:Nat→Prop}{N:Nat}(g:GT)(v:Value)(W:World)(h:(Dv (ptE (grE N)) G (some g)).p v W) :
  Calls Tryz.prog 43 #[v] W (Post (Dv (ptE (grE N)) G0 (some g)) W):=by
 have hv:(Dv (ptE (grE N)) G0 (some g)).p v W:=Dv.weak h fun b _ hb=>hb.elim
 refine eN [v] [E v] Tryz.func43 Tryz.ntmps43 ?_ fun a hf=>?_
 rotate_left
 rotate_right
 ·exact arg1 rfl
 have e:=Ext.rfl' W
 refine seq <| ab <| tA hf rfl fun a hf=>aa ?_
 refine seq <| seq ?_
 refine rgN 2 hf <| st (mv rfl) <| st (dm U26 (isE rfl (vst e hv))) <| en fun a w e' hf=>?_
 replace e:=e.tr e'
 refine aa <| ifF hf rfl ?_
 refine ah ?_
 replace hf:=hf.keep [0]
 refine seq <| rgG 10 Mix.mix hf <| st (mv rfl) <| st (dj (isE rfl (vst e hv))) <| st (ax cX rfl cJ (by decide) (Fld.fst Fld.refl) (isR rfl)) <| st (ldD cJ (isR rfl)) <| st (ak (A:=Dv (mpE vKV N) G0 g.1) (B:=Dv (mpE vKV N) G0 g.1) vk rfl (fun v w he h=>a2M h)) <| st (mv rfl) <| st (dj (isE rfl (vst e hv))) <| st (ax cX rfl cK (by decide) (Fld.snd Fld.refl rfl) (isR rfl)) <| st (ldD cK (isR rfl)) <| st (ak (A:=Dv (mpE eKV N) G0 g.2) (B:=Dv (mpE eKV N) G0 g.2) vm rfl (fun v w he h=>a2N h)) <| en fun a w e' hf=>?_
 replace e:=e.tr e'
 obtain⟨v1,⟨_,⟨bv,nv,rfl,_,hNv,MV⟩,rfl⟩,hf⟩:=hf.fix 9 rfl
 obtain⟨v2,⟨_,⟨be,ne,rfl,_,hNe,ME⟩,rfl⟩,hf⟩:=hf.fix 14 rfl
 replace hf:=hf.keep [9,14]
 refine tP hf (bB [(0,_),(1,_)] rfl (bGr (some bv) (some be))) fun a w e' hf=>?_
 replace e:=e.tr e';replace MV:=MV.ext e';replace ME:=ME.ext e';clear e'
 refine tB hf rfl fun a bg w u hu e' hbg hsg BG hf=>?_
 cases hu
 replace BG:Blk w bg #[.map (some bv),.map (some be)] 130:=BG
 replace e:=e.tr e';replace MV:=MV.ext e';replace ME:=ME.ext e';clear e'
 refine tA hf rfl fun a hf=>aa <| ai <| am rfl hf rfl ?_
 rintro _ rfl
 refine⟨_,rfl,e,Dv.pt.2 ⟨_,rfl,fun h=>h,BG.lt,_,⟨_,_,rfl,⟨bv,nv,rfl,fun h=>h,hNv,MV⟩,⟨be,ne,rfl,fun h=>h,hNe,ME⟩⟩,fun i u hu=>?_⟩⟩
 have:(Addr.mk bg 0 none).add i=⟨bg,i,none⟩:=by simp[Addr.add];intro h;exact h.symm
 rw[this,BG.cell];simpa using hu
theorem a2P (ad:Option Addr)(n c:Nat):Tryz.prog.built 158 [(0,.slice ad n c)]=some #[.slice ad n c]:=by kernel_rfl
def PnA:VA:=⟨fun v _=>∃p,v=.pointer p,fun _ _ _ _ h=>h⟩
theorem a2Q {m:Nat}(hm:m≤4096)(W:World):Calls Tryz.prog 86 #[I (m:Nat)] W (Post (Tup [PnA,E (I 0)]) W):=by
 refine eN [I (m:Nat)] [E (I (m:Nat))] Tryz.func86 Tryz.ntmps86 ?_ fun a hf=>?_
 rotate_left
 rotate_right
 ·exact arg1 rfl
 have e:=Ext.rfl' W
 refine seq <| ab <| tA hf rfl fun a hf=>tA hf rfl fun a hf=>aa ?_
 refine seq <| seq ?_
 refine rgN 6 hf <| st (mv rfl) <| st ((lss rfl rfl).eq (congrArg Value.bool (decide_eq_false (by omega)))) <| st (mv rfl) <| sy rfl rfl (mv rfl) <| sy rfl rfl ((gtr rfl rfl).eq (congrArg Value.bool (decide_eq_false (by omega)))) <| st (pkF rfl rfl) <| en fun a w e' hf=>?_
 replace e:=e.tr e'
 refine aa <| ifF hf rfl ?_
 refine ah ?_
 obtain⟨N1,hN1⟩:=eqX w.heap.size
 have hN1s:N1≤w.heap.size:=Nat.le_of_eq hN1
 have hW1:W.heap.size≤N1:=by rw[hN1];exact e.size
 replace hf:=hf.keep [0]
 refine seq <| ab <| tP hf (mv rfl) fun a w e' hf=>?_
 obtain⟨hN1s,e⟩:=up2 e' hN1s e
 refine nE U35 I3 rfl hf (by decide) rfl (by omega) (by decide) fun a b13 w e' hb13 hs13 B13 hf=>?_
 have lo13_hN1s:=Nat.le_trans hN1s (Nat.le_of_eq hb13.symm)
 obtain⟨hN1s,e⟩:=up2 e' hN1s e
 refine tP hf (bB [(0,_)] rfl (a2P _ _ _)) fun a w e' hf=>?_
 obtain⟨hN1s,e,B13⟩:=up3 e' hN1s e B13
 refine tB hf rfl fun a b15 w v15 hv15 e' hb15 hs15 B15 hf=>?_
 have lt15_B13:=B13.lt
 obtain⟨hN1s,e,B13⟩:=up3 e' hN1s e B13
 refine tA hf rfl fun a hf=>aa ?_
 cases hv15
 replace B15:Blk w b15 #[.slice (some ⟨b13,0,none⟩) m m] 158:=B15
 obtain⟨cs,hcs,B⟩:∃cs:Array Value,cs.size=m∧Blk w b13 cs 3:=⟨_,by simp,B13⟩
 refine seq <| seq ?_
 refine rgN 2 hf <| st (mv rfl) <| st (mv rfl) <| en fun a w e' hf=>?_
 obtain⟨e,B,B15⟩:=up3 e' e B B15
 refine aa ?_
 replace hf:=hf.keep [2,3,4,16,17]
 refine blk (aF (fun r0 a w=>∃(k:Nat) (cs:Array Value),r0=m - k∧k≤m∧Fr 29 a w [(4,E (ptr b15)),(16,E (I (m:Nat))),(17,E (I k))]∧Ext W w∧cs.size=m∧Blk w b13 cs 3∧Blk w b15 #[.slice (some ⟨b13,0,none⟩) m m] 158) m ⟨0,cs,rfl,by omega,hf,e,⟨hcs,B,B15⟩⟩ ?_)
 rintro r0 a w ⟨k,cs,rfl,hk,hf,e,hcs,B,B15⟩
 refine seq <| rgN 1 hf <| st (lss rfl rfl) <| en fun a w e' hf=>?_
 obtain⟨e,B,B15⟩:=up3 e' e B B15
 refine aa <| seq <| ifc hf rfl (fun hc=>ah ?_) (fun hc=>aC ?_)
 rotate_left
 rotate_left
 ·have hlt:=ltC hc
  replace hf:=hf.kp [2,3,4,16,17]
  refine seq <| blk <| seq <| rgN 1 hf <| st (mv rfl) <| en fun a w e' hf=>?_
  obtain⟨e,B,B15⟩:=up3 e' e B B15
  refine tA hf rfl fun a hf=>aa <| rgN 7 hf <| st (mv rfl) <| st (kO rfl) <| st (fA wc rfl T35 rfl) <| st (ld1 (v:=.slice (some ⟨b13,0,none⟩) m m) T35 rfl B15 rfl) <| st (mv rfl) <| st (mv rfl) <| st ((idxS U35 S3 rfl rfl (by omega)).eq (atZ)) <| en fun a w e' hf=>?_
  obtain⟨e,B,B15⟩:=up3 e' e B B15
  refine aI T3 hf rfl rfl rfl B (by rw[hcs];exact hlt) fun w hg hsz B hf=>?_
  obtain⟨e,B15⟩:=gr2 hg e B15
  refine aa ?_
  obtain⟨cs2,hcs2,B⟩:∃cs2:Array Value,cs2.size=m∧Blk w b13 cs2 3:=⟨_,by rw[Array.size_setIfInBounds];exact hcs,B⟩
  refine rgN 1 hf <| st ((add rfl rfl (by omega)).eq (iN k)) <| en fun a w e' hf=>?_
  obtain⟨e,B,B15⟩:=up3 e' e B B15
  refine tP hf (mv rfl) fun a w e' hf=>?_
  obtain⟨e,B,B15⟩:=up3 e' e B B15
  refine aa ?_
  replace hf:=hf.keep [2,3,4,16,17]
  refine⟨_,?_,k+1,cs2,rfl,by omega,hf,e,?_⟩
  ·omega
  exact⟨hcs2,B,B15⟩
 ·obtain rfl:m=k:=by have:=of_decide_eq_false hc;(try dsimp only at this);omega
  replace hf:=hf.keep [4]
  refine seq <| rgN 1 hf <| st (mv rfl) <| en fun a w e' hf=>?_
  replace e:=e.tr e'
  refine tA hf rfl fun a hf=>tA hf rfl fun a hf=>aa <| ai <| fh rfl hf rfl rfl ?_
  rintro _ _ rfl rfl
  exact⟨_,rfl,e,Tup.two ⟨_,rfl⟩ rfl⟩
theorem a2R {N:Nat}(v:Value)(W:World)(hgd:(Dv (ptE (grE N)) G0 (some gE)).p v W)(hN:N≤1000000) :
  Calls Tryz.prog 38 #[v] W (Post (Dv (slE edE) G0 []) W):=by
 refine eN [v] [E v] Tryz.func38 Tryz.ntmps38 ?_ fun a hf=>?_
 rotate_left
 dsimp only[params,Nat.reduceAdd] at hf
 rotate_right
 ·exact arg1 rfl
 have e:=Ext.rfl' W
 refine seq <| ab <| tA hf rfl fun a hf=>aa ?_
 refine seq <| seq ?_
 refine rgN 2 hf <| st (mv rfl) <| st (dm U26 (isE rfl (vst e hgd))) <| en fun a w e' hf=>?_
 replace e:=e.tr e'
 refine aa <| ifF hf rfl ?_
 refine ah ?_
 replace hf:=hf.keep [0]
 refine seq <| rgN 4 hf <| st (ak (A:=Tup [PnA,E (I 0)]) (B:=E (I 1024)) vg rfl (fun v w he k=>by cases k;exact a2Q (m:=1024) (by decide) w)) ?_
 refine st (mv rfl) <| st (aV rfl rfl) <| st (aV rfl rfl) <| en fun a w e' hf=>?_
 replace e:=e.tr e'
 obtain⟨pv,⟨pp,rfl⟩,hf⟩:=hf.opn 9 rfl
 replace hf:=hf.kp [0,9,10]
 refine tL uE hf fun a b3 w e' hb3 hs3 B3 hf=>?_
 have hle3:=Nat.le_trans e.size (Nat.le_of_eq hb3.symm)
 replace e:=e.tr e'
 refine aI uD hf rfl rfl rfl B3 Nat.zero_lt_one fun w hg hsz B3 hf=>?_
 replace e:=e.gr hg (by omega);clear hg
 refine tA hf rfl fun a hf=>aa ?_
 replace hf:=hf.keep [0,3]
 obtain⟨N2,hN2⟩:=eqX w.heap.size
 have hN2s:N2≤w.heap.size:=Nat.le_of_eq hN2
 have e4:=e
 refine seq <| rgN 3 hf <| st (mv rfl) <| st (ak (A:=OwA edE 60 N2 G0 []) (B:=E v) kW rfl (fun u w he k=>by cases k;exact (mo gE v w (vst (e4.tr he) hgd) okE.se (Nat.zero_le _) hN).mono fun en w' ⟨u,k1,k2,k3⟩=>⟨u,k1,k2,OwR.low k3 (Nat.le_trans hN2s he.size) fun b hb=>hb.elim⟩)) ?_
 refine st (fT rfl) <| en fun a w e' hf=>?_
 replace e:=e.tr e'
 obtain⟨ev,HoE,hf⟩:=hf.opn 12 rfl
 replace HoE:OwR edE 60 N2 G0 w [] ev:=HoE
 replace hf:=hf.kp [12,13]
 refine em (S:=fun b=>ev.ownBlock=some b) (F:=fun z w'=>OwR edE 60 N2 G0 w' [] z) hf (by decide) om ?_ fun a z w hc hF hf=>?_
 ·have e9:a.eval (.tmp 12)=ev:=hf.opd (.tmp 12) _ rfl
  have e10:a.eval (.tmp 13)=.func (.func 87) #[] #[ptr b3]:=hf.opd (.tmp 13) _ rfl
  simp only[List.map_toArray,List.map_cons,List.map_nil,e9,e10]
  exact rN [] ev 87 #[ptr b3] (fun _=>false) N2 _ vh HoE (Nat.zero_le _) (fun w x hx=>by cases hx)
 replace e:=e.ch hc (fun b hb=>by have:=(HoE.lt hb).1;omega)
 refine tA hf rfl fun a hf=>aa <| ai <| am rfl hf rfl ?_
 rintro _ rfl
 exact⟨_,rfl,e,hF.sl⟩
structure a2S (g:GT):Prop where
 ok:Gr.Ok g
 l1:g.1.length≤7
 l2:g.2.length≤17
theorem a2T {g:GT}(h:(frM g).2=true)(hV:∀x∈g.1,0≤x.2.1∧x.2.1<256)(hE:∀x∈g.2,0≤x.2.1∧x.2.1<256):a2S (frM g).1:=by
 by_cases h1:(decide ((7:Int)<(g.1.length:Nat)) || decide ((10:Int)<(g.2.length:Nat)))=true
 ·rw[frM,if_pos h1] at h;cases h
 ·by_cases h2:(ofR g.1 g.2).2≠0
  ·rw[frM,if_neg h1,if_pos h2] at h;cases h
  ·have e:frM g=((ofR g.1 g.2).1,true):=by rw[frM,if_neg h1,if_neg h2]
   have h3:=yU g.1 g.2
   have h4:=qL (V:=g.1) (E:=g.2) (Decidable.not_not.1 h2)
   rw[Bool.or_eq_true,not_or,decide_eq_true_eq,decide_eq_true_eq] at h1
   rw[e]
   exact⟨qM hV hE,by dsimp only;omega,by dsimp only;omega⟩
theorem a2U {g:GT}(ok:Gr.Ok g)(a b:Int):(dsF g a b != -1)=jnF g a b:=by
 rw[dsF,jnF]
 cases ha:has (vset g.1) a with
 | false=>rw[Bool.false_and,if_neg (by decide)];rfl
 | true=>
  cases hb:has (vset g.1) b with
  | false=>rw[if_neg (by decide)];rfl
  | true=>
   rw[Bool.true_and,if_pos rfl,Bool.true_and]
   obtain⟨n,rfl,hn⟩:=fJ ha
   obtain⟨m,rfl,hm⟩:=fJ hb
   rw[Int.toNat_natCast,Int.toNat_natCast]
   have h1:=a0l (nb:=nbA g) (a:=n) (b:=m)
   have h2:=cQ (cpt (nbA g) n) m
   cases hh:has (cpt (nbA g) n) (m:Int) with
   | true=>exact bne_iff_ne.2 fun h=>h1.1 h (h2.1 hh)
   | false=>
    have:dsT (nbA g) n m = -1:=h1.2 fun h=>by rw[h2.2 h] at hh;cases hh
    rw[this];rfl
theorem tw {g:GT}(ok:Gr.Ok g):(ptF g).length≤g.1.length:=by
 rw[ptF,List.length_map]
 exact Nat.le_trans (List.length_filter_le _ _) (Nat.le_of_eq (ez ok))
theorem a2V {g:GT}:∀x∈ptF g,x.length≤100000:=fun x hx=>by
 obtain⟨v,_,rfl⟩:=List.mem_map.1 hx
 exact Nat.le_trans (mh _) (by decide)
theorem tx {N:Nat}(g:GT)(ok:Gr.Ok g)(v:Value)(W:World)(hT:Tab W)(h:(Gn N g).p v W)(hl1:g.1.length≤100000)(hl2:g.2.length≤100000)(hN:N≤1000000) :
  Calls Tryz.prog 22 #[v] W (Post (Dv (slE (slE intE)) G0 (ptF g)) W):=by
 have:=rf g v W hT h ok.sv ok.se hl1 hl2 hN
 rwa [iH ok] at this
theorem a2W {N:Nat}(g:GT)(ok:Gr.Ok g)(a0 c0:Int)(v:Value)(W:World)(hT:Tab W)(h:(Gn N g).p v W)(hl1:g.1.length≤100000)(hl2:g.2.length≤100000)(hN:N≤1000000) :
  Calls Tryz.prog 28 #[v,I a0,I c0] W (Post (E (B (jnF g a0 c0))) W):=by
 have:=a0B g ok a0 c0 v W hT h hl1 hl2 hN
 rwa [a2U ok] at this
end Go.Mono
