/-
  Walks of functions and plain facts.
  No condition.
-/
import Derived.Test.YtiakihcolhopoaaGreatDoorEB
import Derived.Test.YtiakihcolhopoaaGreatDoorEC
import Derived.ArgAppend
import Derived.Test.YtiakihcolhopoaaGreatDoorEA
import Derived.Sort.Grow
import Derived.Great.BuildSlice
import Derived.Deep.Draws
import Derived.Shelf.SlSortCmp.NoneTotal
import Derived.Test.YtiakihcolhopoaaGreatDoorProg
set_option linter.unusedVariables false
set_option linter.unusedSimpArgs false
namespace Go.Mono
open Go Go.Proofs Go.RowKit

section
variable {g:Operand}{p:Nat}{assign body:Code}{Q:Exit→Act→World→Prop}{n b:Nat}{ds:List Deferred}{a:Act}{w:World}{S:BS}{L:Env}{r:Option Nat}

theorem xo (lo:Nat)[cp L]{l:Nat}{mark:List Deferred}{df:Nat}{D:Option Nat}(hf:FrD n ds a w L)(hx:opd L g=some (E (ed b)))(hb:Blk w b (au S) 47)(hp:p<n)
  (J:List Nat→World→Prop) (X:Exit→World→Prop)
  (henter:∀fn,∃W1,(Instr.enterLoop fn a.tmps #[p] assign body r).run Tryz.prog w=.ok (l,mark) W1∧W1.heap[l]?=some (.loop { state:=.ready,pending:=none,fn,tmps:=a.tmps,params := #[p],assign,body,defers:=df })∧Ext w W1 ∧
   W1.heap.size≤w.heap.size+2∧w.heap.size+lo≤W1.heap.size∧w.heap.size≤l∧∀d,D=some d→W1.heap[d]?=some (.deferred (some []))∧d≠l∧w.heap.size≤d)
  (hT:∀s w1,J s w1→Tab w1) (h0:J [] w)
  (hJ:∀s w1 w2,J s w1→w.heap.size≤w1.heap.size→Kp w.heap.size w1 w2→J s w2)
  (hX:∀e w1 w2,X e w1→w.heap.size≤w1.heap.size→Kp w.heap.size w1 w2→X e w2)
  (hbody:∀(l s x) (rest:List Nat) (a1:Act) (w1:World),elems S=s++x::rest→J s w1→w.heap.size+lo<w1.heap.size→FrD n [] a1 w1 ((p,E (I (x:Nat)))::L) →
   assign.wpIn (FW (some l)) 0 Tryz.prog (Exit.then (fun a2 w2=>Kh w.heap.size w1 w2∧∀w3,Kp w.heap.size w2 w3→w3.heap.size=w2.heap.size→body.wpIn (FW (some l)) 0 Tryz.prog (Rd J X s x w.heap.size w3) a2 w3) (fun _ _ _=>False)) a1 w1)
  (hdone:∀a' w',FrD n (mark++ds) a' w' L→J (elems S) w'→w.heap.size≤w'.heap.size→(∀d,D=some d→w'.heap[d]?=some (.deferred (some [])))→Q .normal a' w')
  (hexit:∀e c a' w',gC e=some c→FrD n (mark++ds) a' w' L→X e w'→w.heap.size≤w'.heap.size→(∀d,D=some d→w'.heap[d]?=some (.deferred (some [])))→Q e a' w') :
  (Code.rangeFunc g #[p] assign body).wpIn (FW r) 0 Tryz.prog Q a w:=by
 have hxv:a.eval g=ed b:=hf.opd g _ hx
 refine wpIn_rangeFunc fun fn _=>?_
 obtain⟨W1,hrun,hl,he,hsz,hlo,hwl,hD⟩:=henter fn
 have hlt:l<W1.heap.size:=(Array.getElem?_eq_some_iff.1 hl).1
 have hres:(resolve a.eval (rangeCall g l) 0).run Tryz.prog W1=.ok { target:=.fn (.func 52) #[.pointer (some ⟨b,0,none⟩)],args := #[.func (.yield l) #[] #[]] } W1:=by
  have hev:a.eval (.const (.func (.yield l) #[] #[]))=.func (.yield l) #[] #[]:=rfl
  simp[resolve,hxv,hev,ed,Deferred.ofValue]
 refine⟨l,mark,W1,_,W1,52,#[.func (.yield l) #[] #[],.pointer (some ⟨b,0,none⟩)],W1,hrun,hres,fun _ _=>trivial,?_,fun hd=>(by simp[FW] at hd),?_⟩
 ·exact np _ W1
 generalize hrec:({ state:=.ready,pending:=none,fn,tmps:=a.tmps,params := #[p],assign,body,defers:=df }:Loop)=rec0 at hl
 have hhole:aT w.heap.size l:=⟨hwl,by omega⟩
 have hW3:∀x,x<W1.heap.size→w.heap.size≤x→aT w.heap.size x:=fun x h1 h2=>⟨h2,by omega⟩
 refine iT r ((oz S l b w.heap.size W1
  (fun s w1=>J s w1∧W1.heap.size≤w1.heap.size∧w1.heap[l]?=some (.loop rec0)∧∀d,D=some d→w1.heap[d]?=some (.deferred (some [])))
  (fun w1=>∃e c,gC e=some c∧X e w1∧W1.heap.size≤w1.heap.size∧w1.heap[l]?=some (.loop { rec0 with state:=.done,pending:=some c })∧∀d,D=some d→w1.heap[d]?=some (.deferred (some [])))
  ((hT [] w h0).ext he) (hb.ext he) hb.lt he.size (by omega) ⟨hJ [] w W1 h0 (Nat.le_refl _) (Kp.ext he),Nat.le_refl _,hl,fun d hd=>(hD d hd).1⟩ ?_ ?_ ?_ ?_).mono ?_)
 ·rintro s w1 w2 ⟨j1,j2,j3,j4⟩ k hsz1 hsame
  refine⟨hJ s w1 w2 j1 (Nat.le_trans he.size j2) k,Nat.le_trans j2 k.size,(hsame l hlt).trans j3,fun d hd=>(hsame d ?_).trans (j4 d hd)⟩
  exact (Array.getElem?_eq_some_iff.1 (hD d hd).1).1
 ·rintro w1 w2 ⟨e,c,x1,x2,x3,x4,x5⟩ k
  exact⟨e,c,x1,hX e w1 w2 x2 (Nat.le_trans he.size x3) (Kp.ext k),Nat.le_trans x3 k.size,(k.block l (by omega)).trans x4,fun d hd=>(k.block d (Array.getElem?_eq_some_iff.1 (x5 d hd)).1).trans (x5 d hd)⟩
 ·rintro s w1 ⟨j1,_⟩
  exact hT s w1 j1
 ·rintro s x rest w1 hs ⟨j1,j2,j3,j4⟩ hltW
  have hy:=run_yield (P:=Tryz.prog) (args := #[I (x:Nat)]) j3 (by subst hrec;rfl)
  have htm:(rec0.params.zip #[I (x:Nat)]).foldl (fun tmps (t,a)=>tmps.setIfInBounds t a) rec0.tmps=a.tmps.setIfInBounds p (I (x:Nat)):=by
   subst hrec;simp
  have hfn:rec0.assign=assign∧rec0.body=body∧rec0.fn=fn∧rec0.state=.ready:=by subst hrec;exact⟨rfl,rfl,rfl,rfl⟩
  rw[htm,hfn.1,hfn.2.1] at hy
  refine⟨_,_,_,_,hy,?_⟩
  have hf0:FrD n [] { tmps:=a.tmps,defers:=[] } w1 L:=⟨hf.size,rfl,fun t A ht=>cp.pu t A ht _ _ _ (hf.val t A ht)⟩
  have hf1:FrD n [] { tmps:=a.tmps.setIfInBounds p (I (x:Nat)),defers:=[] } w1 ((p,E (I (x:Nat)))::L):=
   hf0.put (d:=some p) (v:=I (x:Nat)) (A:=E (I (x:Nat))) (Ext.rfl' _) (fun k hk=>by cases hk;exact hp) rfl
  refine roundIn_of_wpIn (F:=Fence.wide) (n:=0) trivial ?_
  refine wpIn_mono (hbody l s x rest _ w1 hs j1 (by omega) hf1) fun e2 a2 w2 hq=>?_
  cases e2 with
  | normal=>
   obtain⟨kh,hb2⟩:=hq
   have j3':w2.heap[l]?=some (.loop rec0):=(kh.same l (by omega) hhole).trans j3
   refine⟨_,run_beginRound j3' hfn.2.2.2,?_⟩
   refine wpIn_mono (hb2 (w2.putObj l (.loop { rec0 with state:=.busy })) (Kp.put hhole) (by simp)) fun e3 a3 w3 hq3=>?_
   have hl2:l<w2.heap.size:=(Array.getElem?_eq_some_iff.1 j3').1
   have rec3:∀{w3:World},Kh w.heap.size (w2.putObj l (.loop { rec0 with state:=.busy })) w3→w3.heap[l]?=some (.loop { rec0 with state:=.busy }):=fun k=>
    (k.same l (by simpa using hl2) hhole).trans (World.putObj_heap_same hl2)
   have size3:∀{w3:World},Kh w.heap.size (w2.putObj l (.loop { rec0 with state:=.busy })) w3→w1.heap.size≤w3.heap.size:=fun k=>by
    have h1:=k.size
    have h2:=kh.size
    simp at h1
    omega
   have d3:∀{w3:World},Kh w.heap.size (w2.putObj l (.loop { rec0 with state:=.busy })) w3→∀o,∀d,D=some d→(w3.putObj l o).heap[d]?=some (.deferred (some [])):=fun {w3} k o d hd=>by
    have h1:=hD d hd
    have hdlt:d<w1.heap.size:=(Array.getElem?_eq_some_iff.1 (j4 d hd)).1
    have hdh:aT w.heap.size d:=hW3 d (Array.getElem?_eq_some_iff.1 h1.1).1 h1.2.2
    have hk2:=kh.size
    rw[World.putObj_heap_other h1.2.1,k.same d (by simp;omega) hdh,World.putObj_heap_other h1.2.1,kh.same d hdlt hdh]
    exact j4 d hd
   have rb3:∀{w3:World},Kh w.heap.size (w2.putObj l (.loop { rec0 with state:=.busy })) w3→∀o,(w3.putObj l o).heap[W1.heap.size]?=w1.heap[W1.heap.size]?:=fun {w3} k o=>by
    have hne:W1.heap.size≠l:=by omega
    have hr:aT w.heap.size W1.heap.size:=⟨he.size,by omega⟩
    have hk2:=kh.size
    rw[World.putObj_heap_other hne,k.same _ (by simp;omega) hr,World.putObj_heap_other hne,kh.same _ hltW hr]
   cases e3 with
   | normal=>
    obtain⟨q1,q2⟩:=hq3
    refine⟨_,_,run_endRound none (rec3 q2),_,rfl,.inl ⟨rfl,⟨hJ _ _ _ q1 (Nat.le_trans (Nat.le_trans he.size j2) (size3 q2)) (Kp.put hhole),?_,?_,d3 q2 _⟩,by simpa using size3 q2,rb3 q2 _⟩⟩
    ·have:=size3 q2;simp;omega
    ·rw[World.putObj_heap_same (Array.getElem?_eq_some_iff.1 (rec3 q2)).1]
     subst hrec
     rfl
   | ret=>
    obtain⟨q1,q2⟩:=hq3
    refine⟨_,_,run_endRound (some .ret) (rec3 q2),_,rfl,.inr ⟨rfl,.ret,.ret,rfl,hX _ _ _ q1 (Nat.le_trans (Nat.le_trans he.size j2) (size3 q2)) (Kp.put hhole),?_,?_,d3 q2 _⟩⟩
    ·have:=size3 q2;simp;omega
    ·rw[World.putObj_heap_same (Array.getElem?_eq_some_iff.1 (rec3 q2)).1]
     rfl
   | exit id=>
    obtain⟨q1,q2⟩:=hq3
    refine⟨_,_,run_endRound (some (.exit id)) (rec3 q2),_,rfl,.inr ⟨rfl,.exit id,.exit id,rfl,hX _ _ _ q1 (Nat.le_trans (Nat.le_trans he.size j2) (size3 q2)) (Kp.put hhole),?_,?_,d3 q2 _⟩⟩
    ·have:=size3 q2;simp;omega
    ·rw[World.putObj_heap_same (Array.getElem?_eq_some_iff.1 (rec3 q2)).1]
     rfl
   | goto t=>exact hq3.elim
   | panic c=>exact hq3.elim
   | outgrown=>exact hq3.elim
  | _=>exact hq.elim
 ·rintro e w2 ⟨rfl,h|h⟩
  ·obtain⟨j1,j2,j3,j4⟩:=h
   refine⟨none,w2.putObj l (.loop { rec0 with state:=.exhausted }),?_,hdone _ _ (⟨hf.size,by simp[hf.defers],fun t A ht=>cp.pu t A ht _ _ _ (hf.val t A ht)⟩) (hJ _ _ _ j1 (Nat.le_trans he.size j2) (Kp.put hhole)) ?_ ?_⟩
   ·have:=run_endLoop (P:=Tryz.prog) j3 (by subst hrec;simp)
    subst hrec
    exact this
   ·have:=he.size;simp;omega
   ·intro d hd
    rw[World.putObj_heap_other (hD d hd).2.1]
    exact j4 d hd
  ·obtain⟨ex,c,x1,x2,x3,x4,x5⟩:=h
   refine⟨some c,_,run_endLoop (P:=Tryz.prog) x4 (by simp),?_⟩
   have hQ:=hexit ex c { a with defers:=mark++a.defers } (w2.putObj l (.loop { rec0 with state:=.exhausted,pending:=some c })) x1 (⟨hf.size,by simp[hf.defers],fun t A ht=>cp.pu t A ht _ _ _ (hf.val t A ht)⟩)
    (hX _ _ _ x2 (Nat.le_trans he.size x3) (Kp.put hhole)) (by have:=he.size;simp;omega) (fun d hd=>by
     rw[World.putObj_heap_other (hD d hd).2.1]
     exact x5 d hd)
   cases ex with
   | ret=>cases x1;exact wpIn_ret hQ
   | exit id=>cases x1;exact wpIn_exit hQ
   | _=>cases x1
theorem cS [cp L](hf:FrD n ds a w L)(hx:opd L g=some (E (ed b)))(hb:Blk w b (au S) 47)(hp:p<n)
  (J:List Nat→World→Prop) (X:Exit→World→Prop)
  (hT:∀s w1,J s w1→Tab w1) (h0:J [] w)
  (hJ:∀s w1 w2,J s w1→w.heap.size≤w1.heap.size→Kp w.heap.size w1 w2→J s w2)
  (hX:∀e w1 w2,X e w1→w.heap.size≤w1.heap.size→Kp w.heap.size w1 w2→X e w2)
  (hbody:∀(l s x) (rest:List Nat) (a1:Act) (w1:World),elems S=s++x::rest→J s w1→w.heap.size+3≤w1.heap.size→FrD n [] a1 w1 ((p,E (I (x:Nat)))::L) →
   assign.wpIn (FW (some l)) 0 Tryz.prog (Exit.then (fun a2 w2=>Kh w.heap.size w1 w2∧∀w3,Kp w.heap.size w2 w3→w3.heap.size=w2.heap.size→body.wpIn (FW (some l)) 0 Tryz.prog (Rd J X s x w.heap.size w3) a2 w3) (fun _ _ _=>False)) a1 w1)
  (hdone:∀a' w',FrD n ({ target:=.collected w.heap.size,args := #[] }::ds) a' w' L→J (elems S) w'→w.heap.size≤w'.heap.size→w'.heap[w.heap.size]?=some (.deferred (some []))→Q .normal a' w')
  (hexit:∀e c a' w',gC e=some c→FrD n ({ target:=.collected w.heap.size,args := #[] }::ds) a' w' L→X e w'→w.heap.size≤w'.heap.size→w'.heap[w.heap.size]?=some (.deferred (some []))→Q e a' w') :
  (Code.rangeFunc g #[p] assign body).wpIn (FW none) 0 Tryz.prog Q a w:=by
 refine xo 2 (l:=w.heap.size+1) (mark:=[{ target:=.collected w.heap.size,args := #[] }]) (df:=w.heap.size) (D:=some w.heap.size) hf hx hb hp J X ?_ hT h0 hJ hX (fun l s x rest a1 w1 h1 h2 h3=>hbody l s x rest a1 w1 h1 h2 (by omega))
  (fun a' w' h1 h2 h3 h4=>hdone a' w' h1 h2 h3 (h4 _ rfl)) (fun e c a' w' h1 h2 h3 h4 h5=>hexit e c a' w' h1 h2 h3 h4 (h5 _ rfl))
 intro fn
 refine⟨_,run_enterLoop_outer fn a.tmps #[p] assign body,?_,?_,?_,by simp,by omega,?_⟩
 ·have:=World.alloc_heap_new (w.alloc (.deferred (some []))) (.loop { state:=.ready,pending:=none,fn,tmps:=a.tmps,params := #[p],assign,body,defers:=w.heap.size })
  rwa [World.size_alloc] at this
 ·exact Ext.tr (dA w _) (dA _ _)
 ·simp
 ·rintro d hd
  cases hd
  refine⟨?_,by omega,Nat.le_refl _⟩
  rw[Below.heap_alloc _ _ _ (by simp)]
  exact World.alloc_heap_new w _

end
end Go.Mono
namespace Go.Mono
open Go Go.RowKit
structure QR (te:TypeId)(B:Nat)(w:World)(xs:List Int)(v:Value):Prop where
 own:∃g off cap cur,v=.slice (some ⟨g,off,none⟩) xs.length cap∧B≤g∧Blk w g cur te∧xs.length≤cap∧off+cap≤cur.size∧∀i z,xs[i]?=some z→cur[off+i]?=some (Value.int .i64 z)
theorem QR.ch {te:TypeId}{B:Nat}{w w':World}{xs:List Int}{v:Value}(h:QR te B w xs v){S:Nat→Prop}(c:Chg S w w')(hS:∀b,v.ownBlock=some b→¬S b):QR te B w' xs v:=by
 obtain⟨g,off,cap,cur,rfl,h1,h2,h3⟩:=h.own
 exact⟨g,off,cap,cur,rfl,h1,h2.ch c (hS g rfl),h3⟩
theorem QR.ext {te:TypeId}{B:Nat}{w w':World}{xs:List Int}{v:Value}(h:QR te B w xs v)(e:Ext w w'):QR te B w' xs v:=by
 obtain⟨g,off,cap,cur,rfl,h1,h2,h3⟩:=h.own
 exact⟨g,off,cap,cur,rfl,h1,h2.ext e,h3⟩
theorem QR.gr {te:TypeId}{B:Nat}{w w':World}{xs:List Int}{v:Value}{b:Nat}(h:QR te B w xs v)(hg:w.grownBy w' (some b))(hb:v.ownBlock≠some b):QR te B w' xs v:=by
 obtain⟨g,off,cap,cur,rfl,h1,h2,h3⟩:=h.own
 exact⟨g,off,cap,cur,rfl,h1,h2.gr hg (fun h=>hb (by rw[← h];rfl)),h3⟩
theorem QR.one {te:TypeId}{B:Nat}{w:World}{xs:List Int}{v:Value}(h:QR te B w xs v):v.oneCell'=true:=by
 obtain⟨g,off,cap,cur,rfl,_⟩:=h.own
 rfl
theorem QR.ne {te:TypeId}{B:Nat}{w:World}{xs:List Int}{v:Value}(h:QR te B w xs v){b:Nat}{cs:Array Value}{t:TypeId}(hb:Blk w b cs t)(ht:t≠te):v.ownBlock≠some b:=by
 obtain⟨g,off,cap,cur,rfl,_,h2,_⟩:=h.own
 intro he
 have:g=b:=by simpa[Value.ownBlock] using he
 subst this
 exact (Blk.ne h2 hb (Ne.symm ht)) rfl
theorem QR.lt {te:TypeId}{B:Nat}{w:World}{xs:List Int}{v:Value}(h:QR te B w xs v){b:Nat}(hb:v.ownBlock=some b):B≤b∧b<w.heap.size:=by
 obtain⟨g,off,cap,cur,rfl,h1,h2,_⟩:=h.own
 have:g=b:=by simpa[Value.ownBlock] using hb
 subst this
 exact⟨h1,h2.lt⟩
theorem OwR.queue {te:TypeId}{B:Nat}{G:Nat→Prop}{w:World}{xs:List Int}{v:Value}(h:OwR aA te B G w xs v)(h0:xs≠[]):QR te B w xs v:=by
 obtain⟨cs,⟨hl,hrow⟩,hcs⟩:=h.own
 have hc:∀{l:List Int} {cs:List Value},Cells aA (GO G v) w l cs→cs=l.map (Value.int .i64):=by
  intro l
  induction l with
  | nil=>intro cs h;exact h
  | cons x l ih=>
   rintro cs ⟨c,d,h,h1,h2⟩
   have:c=[.int .i64 x]:=h1
   rw[h,this,ih h2];rfl
 have hcs':=hc hcs
 subst hcs'
 rcases hrow with ⟨_,hn⟩|⟨g,cap,cur,rfl,hB,hg,hn,hm,hs,ht⟩
 ·exact absurd (List.eq_nil_of_length_eq_zero hn) h0
 ·simp only[show (aA).k=1 from rfl,Nat.mul_one] at hs ht
  refine⟨g,0,cap,cur,rfl,hB,hg,hn,by omega,fun i z hz=>?_⟩
  have hlt:=(List.getElem?_eq_some_iff.1 hz).1
  have:(cur.toList.take xs.length)[i]?=(xs.map (Value.int .i64))[i]?:=by rw[ht]
  rw[List.getElem?_take,if_pos hlt,List.getElem?_map,hz] at this
  simpa using this
theorem QR.dv {te:TypeId}{B:Nat}{G:Nat→Prop}{w:World}{xs:List Int}{v:Value}(h:QR te B w xs v)(hG:∀b,v.ownBlock=some b→¬G b):(Dv (slE aA) G xs).p v w:=by
 obtain⟨g,off,cap,cur,rfl,h1,h2,h3,h4,h5⟩:=h.own
 have hc:∀l:List Int,Cells aA G w l (l.map (Value.int .i64)):=by
  intro l
  induction l with
  | nil=>rfl
  | cons x l ih=>exact⟨[.int .i64 x],_,rfl,rfl,ih⟩
 refine Dv.sl.2 (.inr ⟨⟨g,off,none⟩,cap,xs.map (Value.int .i64),rfl,h3,hG g rfl,h2.lt,hc xs,fun i u hu=>?_⟩)
 rw[Addr.add_lit,h2.cell]
 rw[List.getElem?_map] at hu
 cases hz:xs[i]? with
 | none=>rw[hz] at hu;cases hu
 | some z=>rw[hz] at hu;cases hu;exact h5 i z hz

section
variable {P:Program}{w0:World}{L:Env}{dst:Option Tmp}{ty:TypeId}{pos:String}{aft:Array Edge}{g:Option (Nat×Bool)}
end
section tail
variable {P:Program}{L:Env}{ty:TypeId}{pos:String}{aft:Array Edge}{r:Option Nat}{ds:List Deferred}
variable {ops:Array Oper}{rest:List Oper}{Q:Exit→Act→World→Prop}{n:Nat}{a:Act}{w:World}{x y:Operand}
end tail
end Go.Mono
namespace Go.Mono
open Go Go.Proofs Go.RowKit

theorem lS {G:Nat→Prop}(r:List Int)(v:Value)(W:World)(h:(Dv (slE aA) G r).p v W)(hl:r.length≤4096) :
  Calls Tryz.prog 91 #[v] W (Post (E (ah (r.foldl ins 0))) W):=by
 refine enter (args:=[v]) (As:=[Dv (slE aA) (GB W G) r]) Tryz.func91 rfl Tryz.ntmps91 (Nat.le_of_ble_eq_true rfl) ?_ (fun a hf=>?_) (Nat.le_of_ble_eq_true rfl)
 rotate_left
 dsimp only[params,Nat.reduceAdd] at hf
 rotate_right
 ·exact arg1 (Dv.toB h)
 have e:=Ext.rfl' W
 refine seq ?_
 refine aj ?_
 refine aC I47 hf (by decide) fun a b2 w e' hb2 hs2 B2 hf=>?_
 have hle2:=Nat.le_trans e.size (Nat.le_of_eq hb2.symm)
 replace e:=e.tr e'
 refine aa ?_
 refine seq ?_
 refine aj ?_
 refine aC I47 hf (by decide) fun a b3 w e' hb3 hs3 B3 hf=>?_
 have hle3:=Nat.le_trans e.size (Nat.le_of_eq hb3.symm)
 have lt3_B2:=B2.lt
 replace e:=e.tr e'
 replace B2:=B2.ext e'
 refine aa ?_
 have hne:b2≠b3:=by omega
 simp only[Value.cells,cm] at B2 B3
 repeat refine seq ?_
 refine ac 3 hf (by decide +kernel) ?_
 refine st (mv rfl) ?_
 refine st (bi U39 (isR rfl)) ?_
 refine st (mv rfl) ?_
 refine en fun a w e' hf=>?_
 replace e:=e.tr e'
 replace B2:=B2.ext e'
 replace B3:=B3.ext e'
 refine aa ?_
 replace hf:=hf.kp [2,3,6,7,8]
 refine blk (aW (fun r0 a w=>∃(k:Nat) ,r0=r.length - k∧k≤r.length∧Fr 17 a w [(2,E (.pointer (some ⟨b2,0,none⟩))),(3,E (.pointer (some ⟨b3,0,none⟩))),(6,Dv (slE aA) (GB W G) r),(7,E (I (r.length:Nat))),(8,E (I k))]∧Ext W w∧Blk w b2 (au 0) 47∧Blk w b3 (au ((r.take k).foldl ins 0)) 47) r.length ⟨0,rfl,by omega,hf,e,B2,B3⟩ ?_)
 clear hf e;try clear B2;try clear B3
 rintro r0 a w ⟨k,rfl,hk,hf,e,B2,B3⟩
 refine seq ?_
 refine ac 1 hf (by decide +kernel) ?_
 refine st (lss rfl rfl) ?_
 refine en fun a w e' hf=>?_
 replace e:=e.tr e'
 replace B2:=B2.ext e'
 replace B3:=B3.ext e'
 refine aa ?_
 refine seq ?_
 refine ifc hf rfl (fun hc=>ar ?_) (fun hc=>aR ?_)
 rotate_left
 rotate_left
 ·have hlt:k<r.length:=by have:=of_decide_eq_true hc;(try dsimp only at this);omega
  clear hc
  replace hf:=hf.kp [2,3,6,7,8]
  refine seq ?_
  refine blk ?_
  have hx:=nK hlt
  have hS:(r.take (k+1)).foldl ins 0=ins ((r.take k).foldl ins 0) (gi r k):=by rw[uR hlt,List.foldl_append];rfl
  refine seq ?_
  refine ac 2 hf (by decide +kernel) ?_
  refine st (ba U39 S3 (isR rfl) rfl (by omega) (hx)) ?_
  refine st (ldI T3 (isR rfl)) ?_
  refine en fun a w e' hf=>?_
  replace e:=e.tr e'
  replace B2:=B2.ext e'
  replace B3:=B3.ext e'
  refine ae hf rfl (by decide) fun a hf=>?_
  refine aa ?_
  refine ac 3 hf (by decide +kernel) ?_
  refine st (ldW T47 rfl (by assumption) rfl) ?_
  refine st (mv rfl) ?_
  refine st (aD de rfl rfl (fun v u w he h h'=>by cases h;cases h';exact di _ _ w)) ?_
  refine en fun a w e' hf=>?_
  replace e:=e.tr e'
  replace B2:=B2.ext e'
  replace B3:=B3.ext e'
  clear e'
  haveI hinr:∀G0,InR (GB W G0) (some b3):=fun G0=>InR.gb (by omega)
  refine aF T47 hf rfl rfl (aU _) B3 rfl (rfl) fun w hg hsz B3 hf=>?_
  replace e:=e.gr hg (by omega)
  replace B2:=B2.gr hg (by omega)
  clear hg
  refine aa ?_
  simp only[Exit.then,Exit.inBlock,↓reduceIte]
  rw[← hS] at B3
  refine ac 1 hf (by decide +kernel) ?_
  refine st ((add rfl rfl (by omega)).eq (congrArg (Value.int .i64) (show (k:Int)+1=((k+1:Nat):Int) from rfl))) ?_
  refine en fun a w e' hf=>?_
  replace e:=e.tr e'
  replace B2:=B2.ext e'
  replace B3:=B3.ext e'
  clear e'
  refine aB hf (by decide) (mv rfl) fun a w e' hf=>?_
  replace e:=e.tr e'
  replace B2:=B2.ext e'
  replace B3:=B3.ext e'
  refine aa ?_
  replace hf:=hf.kp [2,3,6,7,8]
  refine⟨_,?_,k+1,rfl,by omega,hf,e,?_⟩
  ·omega
  exact⟨B2,B3⟩
 ·obtain rfl:k=r.length:=by have:=of_decide_eq_false hc;(try dsimp only at this);omega
  clear hc
  simp only[Exit.then,Exit.inBlock,↓reduceIte]
  rw[List.take_length] at B3
  replace hf:=hf.kp [2,3]
  refine seq ?_
  refine ac 1 hf (by decide +kernel) ?_
  refine st (ldW T47 rfl (by assumption) rfl) ?_
  refine en fun a w e' hf=>?_
  replace e:=e.tr e'
  replace B2:=B2.ext e'
  replace B3:=B3.ext e'
  clear e'
  haveI hinr:∀G0,InR (GB W G0) (some b2):=fun G0=>InR.gb (by omega)
  refine aF T47 hf rfl rfl (aU _) B2 rfl (rfl) fun w hg hsz B2 hf=>?_
  replace e:=e.gr hg (by omega)
  replace B3:=B3.gr hg (by omega)
  clear hg
  refine aa ?_
  refine an (fe rfl T47 hf rfl B2 e rfl)
def sg (fs:List BS)(j:Nat):BS:=match fs[j]? with
 | some S=>S
 | none=>0
def elI (S:BS):List Int:=(elems S).map fun i:Nat=>(i:Int)
def iE (fs:List BS)(inn:BS):Nat→BS→List Int→Option BS
 | _,S,[]=>some S
 | 0,_,_::_=>none
 | f+1,S,r::R=>let X:=(sg fs r.toNat &&& inn) &&& ~~~S;iE fs inn f (S ||| X) (R++elI X)
theorem xp {S:BS}{k:Nat}(hk:k<1024):((k:Int)∈elI S)↔S.getLsbD k=true:=by
 rw[elI,List.mem_map]
 constructor
 ·rintro⟨i,h1,h2⟩
  obtain rfl:k=i:=by omega
  exact (aK.1 h1).2
 ·intro h;exact⟨k,aK.2 ⟨hk,h⟩,rfl⟩
def pE (s:List Nat):List Int:=s.map fun i:Nat=>(i:Int)
structure CMJ (G:Nat→Prop)(W:World)(fs:List BS)(fv:Value)(b5 b6 b7 b8 B:Nat)(inn S:BS)(R:List Int)(D:List Nat)(s:List Nat)(w:World):Prop where
 e:Ext W w
 t:Tab w
 hv:(Dv (slE aX) (GB W G) fs).p fv w
 b5:Blk w b5 (au inn) 47
 b6:Blk w b6 (au 0) 47
 b7:Blk w b7 (au ((pE s).foldl ins S)) 47
 q:∃v,Blk w b8 #[v] 39∧QR 3 W.heap.size w (R++pE s) v∧∀g,v.ownBlock=some g→¬aT B g
 ds:Ds D w
theorem CMJ.kp {G:Nat→Prop}{W:World}{fs:List BS}{fv:Value}{b5 b6 b7 b8 B:Nat}{inn S:BS}{R:List Int}{D:List Nat}{s:List Nat}{w w':World}(h:CMJ G W fs fv b5 b6 b7 b8 B inn S R D s w)(k:Kp B w w')
  (hW:W.heap.size≤B) (h0:0<B) (l5:b5<B) (l6:b6<B) (l7:b7<B) (l8:b8<B) (lD:∀d∈D,d<B):CMJ G W fs fv b5 b6 b7 b8 B inn S R D s w':=by
 have no:∀{b},b<B→¬aT B b:=fun h hh=>by have:=hh.1;omega
 obtain⟨v,q1,q2,q3⟩:=h.q
 exact⟨h.e.kp k hW,h.t.kp k h0,Dv.ch h.hv k.chg (fun b hb=>.inr (by have:=hb.1;omega)),h.b5.kp k (no l5),h.b6.kp k (no l6),h.b7.kp k (no l7),⟨v,q1.kp k (no l8),q2.ch k.chg q3,q3⟩,h.ds.ch k.chg fun d hd=>no (lD d hd)⟩
end Go.Mono
namespace Go.Mono.Pop

theorem xq (k M c z:Nat)(hc:c<2 ^ k):z &&& (2 ^ k * M+c)=2 ^ k * ((z / 2 ^ k) &&& M)+((z % 2 ^ k) &&& c):=by
 have h1:(z % 2 ^ k) &&& c<2 ^ k:=Nat.lt_of_le_of_lt Nat.and_le_right hc
 apply Nat.eq_of_testBit_eq
 intro i
 rw[Nat.testBit_and,Nat.testBit_two_pow_mul_add _ hc,Nat.testBit_two_pow_mul_add _ h1]
 split
 ·rename_i hi
  rw[Nat.testBit_and,Nat.testBit_mod_two_pow]
  simp[hi]
 ·rename_i hi
  rw[Nat.testBit_and,Nat.testBit_div_two_pow]
  congr 2
  omega
theorem iF (M c z:Nat)(hc:c<256):z &&& (256 * M+c)=256 * ((z / 256) &&& M)+((z % 256) &&& c):=xq 8 M c z hc

def mask (c:Nat):Nat→Nat
 | 0=>0
 | n+1=>256 * mask c n+c
def pc (b:Nat):Nat:=(List.range 8).countP fun i=>b.testBit i
def F:Nat→Nat→Nat
 | 0,_=>0
 | n+1,x=>pc (x % 256)+256 * F n (x / 256)
def sA (m x:Nat):Nat:=((x / 2) &&& m)+(x &&& m)
def sB (m x:Nat):Nat:=((x / 4) &&& m)+(x &&& m)
def sC (m x:Nat):Nat:=(x / 16+x) &&& m

theorem kA:∀b,b<256→∀e,e<2→(b / 2+128 * e) &&& 85=(b / 2) &&& 85:=by decide +kernel
theorem kA2:∀b,b<256→sA 85 b<256:=by decide +kernel
theorem kB:∀b,b<256→∀e,e<4→(b / 4+64 * e) &&& 51=(b / 4) &&& 51:=by decide +kernel
theorem kB2:∀b,b<256→sB 51 (sA 85 b)<256∧sB 51 (sA 85 b) % 16<5:=by decide +kernel
theorem kC:∀b,b<256→∀e,e<5→e * 16+(sB 51 (sA 85 b) / 16+sB 51 (sA 85 b))<256∧(e * 16+(sB 51 (sA 85 b) / 16+sB 51 (sA 85 b))) &&& 15=pc b:=by decide +kernel
theorem xr:∀b,b<256→pc b≤8:=by decide +kernel

theorem xu (n x:Nat):sA (mask 85 (n+1)) x=sA 85 (x % 256)+256 * sA (mask 85 n) (x / 256):=by
 unfold sA
 rw[mask,iF _ _ _ (by decide),iF _ _ _ (by decide)]
 have h1:x / 2 / 256=x / 256 / 2:=by omega
 have h2:x / 2 % 256=x % 256 / 2+128 * (x / 256 % 2):=by omega
 rw[h1,h2,kA _ (Nat.mod_lt _ (by decide)) _ (Nat.mod_lt _ (by decide))]
 omega
theorem stepB (n y:Nat):sB (mask 51 (n+1)) y=sB 51 (y % 256)+256 * sB (mask 51 n) (y / 256):=by
 unfold sB
 rw[mask,iF _ _ _ (by decide),iF _ _ _ (by decide)]
 have h1:y / 4 / 256=y / 256 / 4:=by omega
 have h2:y / 4 % 256=y % 256 / 4+64 * (y / 256 % 4):=by omega
 rw[h1,h2,kB _ (Nat.mod_lt _ (by decide)) _ (Nat.mod_lt _ (by decide))]
 omega
theorem AB (n x:Nat):sB (mask 51 (n+1)) (sA (mask 85 (n+1)) x)=sB 51 (sA 85 (x % 256))+256 * sB (mask 51 n) (sA (mask 85 n) (x / 256)):=by
 have h:=kA2 (x % 256) (Nat.mod_lt _ (by decide))
 rw[xu,stepB]
 have h1:(sA 85 (x % 256)+256 * sA (mask 85 n) (x / 256)) % 256=sA 85 (x % 256):=by omega
 have h2:(sA 85 (x % 256)+256 * sA (mask 85 n) (x / 256)) / 256=sA (mask 85 n) (x / 256):=by omega
 rw[h1,h2]
theorem xv:∀(n x:Nat),sB (mask 51 n) (sA (mask 85 n) x) % 16<5
 | 0,x=>by simp[sB,sA,mask]
 | n+1,x=>by
  rw[AB]
  have:=(kB2 (x % 256) (Nat.mod_lt _ (by decide))).2
  omega
theorem ABC:∀(n x:Nat),sC (mask 15 n) (sB (mask 51 n) (sA (mask 85 n) x))=F n x
 | 0,x=>by simp[sC,mask,F]
 | n+1,x=>by
  have hb:=Nat.mod_lt x (show 256 > 0 by decide)
  have hq:=xv n (x / 256)
  have ih:=ABC n (x / 256)
  obtain⟨k1,k2⟩:=kC _ hb _ hq
  have k3:=(kB2 _ hb).1
  rw[AB,F,← ih]
  generalize sB (mask 51 n) (sA (mask 85 n) (x / 256))=q at *
  generalize sB 51 (sA 85 (x % 256))=b at *
  unfold sC
  rw[mask,iF _ _ _ (by decide)]
  have h1:(b+256 * q) / 16+(b+256 * q)=256 * (q / 16+q)+(q % 16 * 16+(b / 16+b)):=by omega
  rw[h1]
  have h2:(256 * (q / 16+q)+(q % 16 * 16+(b / 16+b))) / 256=q / 16+q:=by omega
  have h3:(256 * (q / 16+q)+(q % 16 * 16+(b / 16+b))) % 256=q % 16 * 16+(b / 16+b):=by omega
  rw[h2,h3,k2]
  omega
theorem masks:mask 85 8=6148914691236517205∧mask 51 8=3689348814741910323∧mask 15 8=1085102592571150095:=by decide
def G:Nat→Nat→Nat
 | 0,_=>0
 | n+1,x=>pc (x % 256)+G n (x / 256)
def V:List Nat→Nat
 | []=>0
 | a::l=>a+256 * V l
def addL:List Nat→List Nat→List Nat
 | [],m=>m
 | l,[]=>l
 | a::l,b::m=>(a+b)::addL l m
theorem pF:∀l m,V (addL l m)=V l+V m
 | [],m=>by simp[addL,V]
 | a::l,[]=>by simp[addL,V]
 | a::l,b::m=>by simp only[addL,V,pF l m];omega
theorem pG:∀(k:Nat) (l:List Nat),(∀a∈l,a<256)→V l / 256 ^ k=V (l.drop k)
 | 0,l,_=>by simp
 | k+1,[],_=>by simp[V]
 | k+1,a::l,h=>by
  have h1:V (a::l) / 256=V l:=by
   have:=h a (by simp)
   simp only[V]
   omega
  rw[Nat.pow_succ,Nat.mul_comm,← Nat.div_div_eq_div_mul,h1,pG k l (fun x hx=>h x (by simp[hx]))]
  simp
theorem pH:∀(l:List Nat),(∀a∈l,a<256)→V l<256 ^ l.length
 | [],_=>by simp[V]
 | a::l,h=>by
  have h1:=h a (by simp)
  have h2:=pH l (fun x hx=>h x (by simp[hx]))
  simp only[V,List.length_cons,Nat.pow_succ]
  omega
theorem pI (x y:Nat):∀(l m:List Nat),(∀a∈l,a≤x)→(∀a∈m,a≤y)→∀a∈addL l m,a≤x+y
 | [],m,_,h2=>fun a ha=>by have:=h2 a (by simpa[addL] using ha);omega
 | a::l,[],h1,_=>fun b hb=>by have:=h1 b (by simpa[addL] using hb);omega
 | a::l,b::m,h1,h2=>fun c hc=>by
  simp only[addL,List.mem_cons] at hc
  rcases hc with rfl|hc
  ·have:=h1 a (by simp);have:=h2 b (by simp);omega
  ·exact pI x y l m (fun x hx=>h1 x (by simp[hx])) (fun x hx=>h2 x (by simp[hx])) c hc
theorem pJ:∀(l m:List Nat),m.length≤l.length→(addL l m).length=l.length
 | [],[],_=>rfl
 | a::l,[],_=>rfl
 | a::l,b::m,h=>by simp only[addL,List.length_cons] at h ⊢;rw[pJ l m (by omega)]
theorem stepV (k b:Nat)(l:List Nat)(hl:l.length=8)(hb:∀a∈l,a≤b)(h:b+b<256) :
  (V l+V l / 256 ^ k) % 18446744073709551616=V (addL l (l.drop k))∧(addL l (l.drop k)).length=8∧∀a∈addL l (l.drop k),a≤b+b:=by
 have hd:∀a∈l.drop k,a≤b:=fun a ha=>hb a (List.mem_of_mem_drop ha)
 have h3:=pI b b l (l.drop k) hb hd
 have h2:=pJ l (l.drop k) (by simp)
 refine⟨?_,by omega,h3⟩
 rw[pG k l (fun a ha=>by have:=hb a ha;omega),← pF]
 refine Nat.mod_eq_of_lt ?_
 have:=pH (addL l (l.drop k)) (fun a ha=>by have:=h3 a ha;omega)
 rw[h2,hl] at this
 exact this
def bytes (x:Nat):List Nat:=[pc (x % 256),pc (x / 256 % 256),pc (x / 256 / 256 % 256),pc (x / 256 / 256 / 256 % 256),pc (x / 256 / 256 / 256 / 256 % 256),pc (x / 256 / 256 / 256 / 256 / 256 % 256),
 pc (x / 256 / 256 / 256 / 256 / 256 / 256 % 256),pc (x / 256 / 256 / 256 / 256 / 256 / 256 / 256 % 256)]
theorem F_V (x:Nat):F 8 x=V (bytes x):=rfl
theorem pK (x:Nat):∀a∈bytes x,a≤8:=by
 intro a ha
 simp only[bytes,List.mem_cons,List.not_mem_nil,or_false] at ha
 rcases ha with rfl|rfl|rfl|rfl|rfl|rfl|rfl|rfl <;> exact xr _ (Nat.mod_lt _ (by decide))
theorem xw:∀p0 p1 p2 p3 p4 p5 p6 p7:Nat,∃t,addL (addL (addL [p0,p1,p2,p3,p4,p5,p6,p7] [p1,p2,p3,p4,p5,p6,p7]) ((addL [p0,p1,p2,p3,p4,p5,p6,p7] [p1,p2,p3,p4,p5,p6,p7]).drop 2)) ((addL (addL [p0,p1,p2,p3,p4,p5,p6,p7] [p1,p2,p3,p4,p5,p6,p7]) ((addL [p0,p1,p2,p3,p4,p5,p6,p7] [p1,p2,p3,p4,p5,p6,p7]).drop 2)).drop 4)=(p0+p1+(p2+p3)+(p4+p5+(p6+p7)))::t:=by
 intros
 exact⟨_,rfl⟩
theorem fold8 (x y4 y5 y6:Nat)(h4:y4=(F 8 x+F 8 x / 256) % 18446744073709551616)(h5:y5=(y4+y4 / 65536) % 18446744073709551616)(h6:y6=(y5+y5 / 4294967296) % 18446744073709551616) :
  y6 % 128=G 8 x:=by
 rw[F_V] at h4
 obtain⟨a1,a2,a3⟩:=stepV 1 8 (bytes x) rfl (pK x) (by decide)
 rw[Nat.pow_one] at a1
 rw[a1] at h4
 obtain⟨b1,b2,b3⟩:=stepV 2 16 _ a2 a3 (by decide)
 rw[h4,show (65536:Nat)=256 ^ 2 from rfl,b1] at h5
 obtain⟨c1,c2,c3⟩:=stepV 4 32 _ b2 b3 (by decide)
 rw[h5,show (4294967296:Nat)=256 ^ 4 from rfl,c1] at h6
 obtain⟨t,ht⟩:=xw (pc (x % 256)) (pc (x / 256 % 256)) (pc (x / 256 / 256 % 256)) (pc (x / 256 / 256 / 256 % 256)) (pc (x / 256 / 256 / 256 / 256 % 256)) (pc (x / 256 / 256 / 256 / 256 / 256 % 256))
  (pc (x / 256 / 256 / 256 / 256 / 256 / 256 % 256)) (pc (x / 256 / 256 / 256 / 256 / 256 / 256 / 256 % 256))
 have hb:=pK x
 simp only[bytes,List.mem_cons,List.not_mem_nil,or_false,forall_eq_or_imp,forall_eq] at hb
 have h7:y6=V ((pc (x % 256)+pc (x / 256 % 256)+(pc (x / 256 / 256 % 256)+pc (x / 256 / 256 / 256 % 256))+(pc (x / 256 / 256 / 256 / 256 % 256)+pc (x / 256 / 256 / 256 / 256 / 256 % 256) +
  (pc (x / 256 / 256 / 256 / 256 / 256 / 256 % 256)+pc (x / 256 / 256 / 256 / 256 / 256 / 256 / 256 % 256))))::t):=by
  rw[h6,← ht]
  rfl
 rw[h7]
 simp only[V,G]
 obtain⟨g0,g1,g2,g3,g4,g5,g6,g7⟩:=hb
 generalize pc (x % 256)=p0 at *
 generalize pc (x / 256 % 256)=p1 at *
 generalize pc (x / 256 / 256 % 256)=p2 at *
 generalize pc (x / 256 / 256 / 256 % 256)=p3 at *
 generalize pc (x / 256 / 256 / 256 / 256 % 256)=p4 at *
 generalize pc (x / 256 / 256 / 256 / 256 / 256 % 256)=p5 at *
 generalize pc (x / 256 / 256 / 256 / 256 / 256 / 256 % 256)=p6 at *
 generalize pc (x / 256 / 256 / 256 / 256 / 256 / 256 / 256 % 256)=p7 at *
 clear a1 a2 a3 b1 b2 b3 c1 c2 c3 h4 h5 h6 h7 ht
 generalize V t=z
 omega
theorem xy (n:Nat)(f:Nat→Bool):(List.range (8 * (n+1))).countP f=(List.range 8).countP f+(List.range (8 * n)).countP (fun i=>f (i+8)):=by
 rw[show 8 * (n+1)=8+8 * n by omega,List.range_add,List.countP_append,List.countP_map]
 congr 1
 refine List.countP_congr fun i _=>?_
 simp[Function.comp,Nat.add_comm]
theorem count_G:∀(n x:Nat),(List.range (8 * n)).countP (fun i=>x.testBit i)=G n x
 | 0,x=>rfl
 | n+1,x=>by
  rw[xy,G,← count_G n (x / 256)]
  congr 1
  ·unfold pc
   refine List.countP_congr fun i hi=>?_
   have:=List.mem_range.1 hi
   rw[show (256:Nat)=2 ^ 8 from rfl,Nat.testBit_mod_two_pow]
   simp[this]
  ·refine List.countP_congr fun i _=>?_
   rw[show (256:Nat)=2 ^ 8 from rfl,Nat.testBit_div_two_pow]
end Go.Mono.Pop
namespace Go.Mono
open Go Go.Proofs Go.RowKit

def fm (x:BitVec 64):Nat:=(List.range 64).countP fun i=>x.getLsbD i
theorem pL (x:BitVec 64):fm x≤64:=by
 have:=List.countP_le_length (p:=fun i=>x.getLsbD i) (l:=List.range 64)
 simpa[fm] using this
theorem xz (x:BitVec 64):fm x=Pop.G 8 x.toNat:=by
 rw[← Pop.count_G 8 x.toNat]
 rfl
theorem xA (x x1 x2 x3 x4 x5 x6:BitVec 64)(h1:x1=((x >>> 1) &&& 6148914691236517205#64)+(x &&& 6148914691236517205#64))(h2:x2=((x1 >>> 2) &&& 3689348814741910323#64)+(x1 &&& 3689348814741910323#64))
  (h3:x3=((x2 >>> 4)+x2) &&& 1085102592571150095#64) (h4:x4=x3+(x3 >>> 8)) (h5:x5=x4+(x4 >>> 16)) (h6:x6=x5+(x5 >>> 32)):(x6 &&& 127#64).toNat=fm x:=by
 have e1:x1.toNat=Pop.sA (Pop.mask 85 8) x.toNat:=by
  rw[h1,Pop.masks.1,BitVec.toNat_add,BitVec.toNat_and,BitVec.toNat_and,BitVec.toNat_ushiftRight,Nat.shiftRight_eq_div_pow]
  show ((x.toNat / 2 &&& 6148914691236517205)+(x.toNat &&& 6148914691236517205)) % 2 ^ 64=_
  have a1:=@Nat.and_le_right (x.toNat / 2) 6148914691236517205
  have a2:=@Nat.and_le_right x.toNat 6148914691236517205
  rw[Nat.mod_eq_of_lt (by omega)]
  rfl
 have e2:x2.toNat=Pop.sB (Pop.mask 51 8) x1.toNat∧x2.toNat≤7378697629483820646:=by
  rw[h2,Pop.masks.2.1,BitVec.toNat_add,BitVec.toNat_and,BitVec.toNat_and,BitVec.toNat_ushiftRight,Nat.shiftRight_eq_div_pow]
  show ((x1.toNat / 4 &&& 3689348814741910323)+(x1.toNat &&& 3689348814741910323)) % 2 ^ 64=_∧((x1.toNat / 4 &&& 3689348814741910323)+(x1.toNat &&& 3689348814741910323)) % 2 ^ 64≤_
  have a1:=@Nat.and_le_right (x1.toNat / 4) 3689348814741910323
  have a2:=@Nat.and_le_right x1.toNat 3689348814741910323
  rw[Nat.mod_eq_of_lt (by omega)]
  exact⟨rfl,by omega⟩
 have e3:x3.toNat=Pop.sC (Pop.mask 15 8) x2.toNat:=by
  rw[h3,Pop.masks.2.2,BitVec.toNat_and,BitVec.toNat_add,BitVec.toNat_ushiftRight,Nat.shiftRight_eq_div_pow]
  show (x2.toNat / 16+x2.toNat) % 2 ^ 64 &&& 1085102592571150095=_
  rw[Nat.mod_eq_of_lt (by omega)]
  rfl
 have e3':x3.toNat=Pop.F 8 x.toNat:=by rw[e3,e2.1,e1,Pop.ABC]
 have e4:x4.toNat=(Pop.F 8 x.toNat+Pop.F 8 x.toNat / 256) % 18446744073709551616:=by
  rw[h4,BitVec.toNat_add,BitVec.toNat_ushiftRight,Nat.shiftRight_eq_div_pow,e3']
 have e5:x5.toNat=(x4.toNat+x4.toNat / 65536) % 18446744073709551616:=by
  rw[h5,BitVec.toNat_add,BitVec.toNat_ushiftRight,Nat.shiftRight_eq_div_pow]
 have e6:x6.toNat=(x5.toNat+x5.toNat / 4294967296) % 18446744073709551616:=by
  rw[h6,BitVec.toNat_add,BitVec.toNat_ushiftRight,Nat.shiftRight_eq_div_pow]
 have:=Pop.fold8 _ _ _ _ e4 e5 e6
 rw[xz,← this,BitVec.toNat_and]
 exact Nat.and_two_pow_sub_one_eq_mod x6.toNat 7

theorem xB {P:Program}{w0:World}{L:Env}{dst:Option Tmp}{ty:TypeId}{pos:String}{aft:Array Edge}{g:Option (Nat×Bool)}{x y:Operand}{t yt:TypeId}{a b:Int}
  (hx:opd L x=some (E (.int .i64 a))) (hy:opd L y=some (E (.int .i64 b))) :
  OpC P w0 L ⟨dst,.binOp .and t x y yt,ty,pos,aft,g⟩ (E (.int .i64 (IntKind.i64.wrap ((BitVec.ofInt 64 a &&& BitVec.ofInt 64 b).toNat:Int)))):=
 bW rfl hx hy
theorem xC (x:BitVec 64):BitVec.ofInt 64 (IntKind.i64.wrap (x.toNat:Int))=x:=by
 apply BitVec.eq_of_toInt_eq
 rw[BitVec.toInt_ofInt]
 have:=x.isLt
 rw[BitVec.toInt_eq_toNat_bmod]
 rw[IntKind.wrap_i64]
 simp only[Int.bmod]
 split <;> split <;> omega
theorem xD {x:BitVec 64}{n:Nat}(h:(x &&& 127#64).toNat=n)(hn:n≤64):IntKind.i64.wrap ((BitVec.ofInt 64 (IntKind.i64.wrap (x.toNat:Int)) &&& BitVec.ofInt 64 127).toNat:Int)=n:=by
 rw[xC]
 have e:BitVec.ofInt 64 127=127#64:=by decide
 rw[e,h]
 exact IntWalk.i64_in _ (by omega)

theorem xE (x:BitVec 64)(W:World):Calls Tryz.prog 40 #[Mono.W x] W (Post (E (I (fm x))) W):=by
 obtain⟨x1,h1⟩:∃x1,x1=((x >>> 1) &&& 6148914691236517205#64)+(x &&& 6148914691236517205#64):=⟨_,rfl⟩
 obtain⟨x2,h2⟩:∃x2,x2=((x1 >>> 2) &&& 3689348814741910323#64)+(x1 &&& 3689348814741910323#64):=⟨_,rfl⟩
 obtain⟨x3,h3⟩:∃x3,x3=((x2 >>> 4)+x2) &&& 1085102592571150095#64:=⟨_,rfl⟩
 obtain⟨x4,h4⟩:∃x4,x4=x3+(x3 >>> 8):=⟨_,rfl⟩
 obtain⟨x5,h5⟩:∃x5,x5=x4+(x4 >>> 16):=⟨_,rfl⟩
 obtain⟨x6,h6⟩:∃x6,x6=x5+(x5 >>> 32):=⟨_,rfl⟩
 have hc:=xD (xA x x1 x2 x3 x4 x5 x6 h1 h2 h3 h4 h5 h6) (pL x)
 refine enter (args:=[Mono.W x]) (As:=[E (Mono.W x)]) Tryz.func40 rfl Tryz.ntmps40 (Nat.le_of_ble_eq_true rfl) ?_ (fun a hf=>?_) (Nat.le_of_ble_eq_true rfl)
 rotate_left
 dsimp only[params,Nat.reduceAdd] at hf
 rotate_right
 ·exact arg1 rfl
 have e:=Ext.rfl' W
 refine seq ?_
 refine aj ?_
 refine ae hf rfl (by decide) fun a hf=>?_
 refine aa ?_
 replace hf:=hf.kp [0]
 refine seq ?_
 refine ac 6 hf (by decide +kernel) ?_
 refine st (mv rfl) ?_
 refine st (fK rfl rfl (by omega)) ?_
 refine st (eY (v:=6148914691236517205#64) rfl rfl) ?_
 refine st (mv rfl) ?_
 refine st (eY (v:=6148914691236517205#64) rfl rfl) ?_
 refine st ((gk rfl rfl).eq (show Mono.W _=Mono.W x1 from by rw[h1];rfl)) ?_
 refine en fun a w e' hf=>?_
 replace e:=e.tr e'
 refine ae hf rfl (by decide) fun a hf=>?_
 refine aa ?_
 replace hf:=hf.kp [0]
 refine seq ?_
 refine ac 6 hf (by decide +kernel) ?_
 refine st (mv rfl) ?_
 refine st (fK rfl rfl (by omega)) ?_
 refine st (eY (v:=3689348814741910323#64) rfl rfl) ?_
 refine st (mv rfl) ?_
 refine st (eY (v:=3689348814741910323#64) rfl rfl) ?_
 refine st ((gk rfl rfl).eq (show Mono.W _=Mono.W x2 from by rw[h2];rfl)) ?_
 refine en fun a w e' hf=>?_
 replace e:=e.tr e'
 refine ae hf rfl (by decide) fun a hf=>?_
 refine aa ?_
 replace hf:=hf.kp [0]
 refine seq ?_
 refine ac 5 hf (by decide +kernel) ?_
 refine st (mv rfl) ?_
 refine st (fK rfl rfl (by omega)) ?_
 refine st (mv rfl) ?_
 refine st (gk rfl rfl) ?_
 refine st ((eY (v:=1085102592571150095#64) rfl rfl).eq (show Mono.W _=Mono.W x3 from by rw[h3];rfl)) ?_
 refine en fun a w e' hf=>?_
 replace e:=e.tr e'
 refine ae hf rfl (by decide) fun a hf=>?_
 refine aa ?_
 replace hf:=hf.kp [0]
 refine seq ?_
 refine ac 4 hf (by decide +kernel) ?_
 refine st (mv rfl) ?_
 refine st (mv rfl) ?_
 refine st (fK rfl rfl (by omega)) ?_
 refine st ((gk rfl rfl).eq (show Mono.W _=Mono.W x4 from by rw[h4];rfl)) ?_
 refine en fun a w e' hf=>?_
 replace e:=e.tr e'
 refine ae hf rfl (by decide) fun a hf=>?_
 refine aa ?_
 replace hf:=hf.kp [0]
 refine seq ?_
 refine ac 4 hf (by decide +kernel) ?_
 refine st (mv rfl) ?_
 refine st (mv rfl) ?_
 refine st (fK rfl rfl (by omega)) ?_
 refine st ((gk rfl rfl).eq (show Mono.W _=Mono.W x5 from by rw[h5];rfl)) ?_
 refine en fun a w e' hf=>?_
 replace e:=e.tr e'
 refine ae hf rfl (by decide) fun a hf=>?_
 refine aa ?_
 replace hf:=hf.kp [0]
 refine seq ?_
 refine ac 4 hf (by decide +kernel) ?_
 refine st (mv rfl) ?_
 refine st (mv rfl) ?_
 refine st (fK rfl rfl (by omega)) ?_
 refine st ((gk rfl rfl).eq (show Mono.W _=Mono.W x6 from by rw[h6];rfl)) ?_
 refine en fun a w e' hf=>?_
 replace e:=e.tr e'
 refine ae hf rfl (by decide) fun a hf=>?_
 refine aa ?_
 replace hf:=hf.kp [0]
 refine seq ?_
 refine ac 3 hf (by decide +kernel) ?_
 refine st (mv rfl) ?_
 refine st (nF U45 U3 rfl) ?_
 refine st ((xB rfl rfl).eq (congrArg (Value.int .i64) hc)) ?_
 refine en fun a w e' hf=>?_
 replace e:=e.tr e'
 refine ae hf rfl (by decide) fun a hf=>?_
 refine aa ?_
 refine an (az rfl hf rfl ?_)
 rintro v rfl
 exact⟨_,rfl,e,rfl⟩
def card (S:BS):Nat:=(List.range 1024).countP fun i=>S.getLsbD i
def cardTo (S:BS)(k:Nat):Nat:=(List.range (64 * k)).countP fun i=>S.getLsbD i
theorem xF (S:BS)(k:Nat):cardTo S (k+1)=cardTo S k+fm (ak S k):=by
 unfold cardTo fm
 rw[show 64 * (k+1)=64 * k+64 by omega,List.range_add,List.countP_append,List.countP_map]
 refine congrArg (fun n=>(List.range (64 * k)).countP (fun i=>S.getLsbD i)+n) (List.countP_congr fun i hi=>?_)
 have:=List.mem_range.1 hi
 simp[dF _ _ _ this]
theorem xG (S:BS):cardTo S 16=card S:=by simp only[cardTo,card,Nat.reduceMul]
theorem xH (S:BS)(k:Nat):cardTo S k≤64 * k:=by
 have:=List.countP_le_length (p:=fun i=>S.getLsbD i) (l:=List.range (64 * k))
 simpa[cardTo] using this

theorem lT (S:BS)(W:World):Calls Tryz.prog 12 #[ah S] W (Post (E (I (card S))) W):=by
 refine enter (args:=[ah S]) (As:=[E (ah S)]) Tryz.func12 rfl Tryz.ntmps12 (Nat.le_of_ble_eq_true rfl) ?_ (fun a hf=>?_) (Nat.le_of_ble_eq_true rfl)
 rotate_left
 dsimp only[params,Nat.reduceAdd] at hf
 rotate_right
 ·exact arg1 rfl
 have e:=Ext.rfl' W
 refine seq ?_
 refine aj ?_
 refine aJ hf rfl (by decide) fun a b1 w v1 hv1 e' hb1 hs1 B1 hf=>?_
 have hle1:=Nat.le_trans e.size (Nat.le_of_eq hb1.symm)
 replace e:=e.tr e'
 refine ae hf rfl (by decide) fun a hf=>?_
 refine aa ?_
 subst hv1
 rw[dW] at B1
 refine seq ?_
 refine aj ?_
 refine ae hf rfl (by decide) fun a hf=>?_
 refine aa ?_
 repeat refine seq ?_
 refine ac 2 hf (by decide +kernel) ?_
 refine st (ldW T47 rfl (by assumption) rfl) ?_
 refine st (mv rfl) ?_
 refine en fun a w e' hf=>?_
 replace e:=e.tr e'
 replace B1:=B1.ext e'
 refine aa ?_
 replace hf:=hf.kp [3,6,7]
 refine blk (aW (fun r a w=>∃k:Nat,r=16 - k∧k≤16∧Fr 16 a w [(3,E (I (cardTo S k))),(6,E (ah S)),(7,E (I k))]∧Ext W w) 16 ⟨0,rfl,by omega,hf,e⟩ ?_)
 clear hf e B1
 rintro r a w ⟨k,rfl,hk,hf,e⟩
 by_cases hlt:k<16
 ·refine seq ?_
  refine ac 1 hf (by decide +kernel) ?_
  refine st ((lss rfl rfl).eq (congrArg Value.bool (show decide ((k:Int)<16)=true from decide_eq_true (by omega)))) ?_
  refine en fun a w e' hf=>?_
  replace e:=e.tr e'
  refine aa ?_
  refine seq ?_
  refine ifc hf rfl (fun _=>ar ?_) (fun h=>by cases h)
  refine seq ?_
  refine blk ?_
  refine seq ?_
  refine ac 1 hf (by decide +kernel) ?_
  refine st (iY U47 T45 rfl rfl (by omega) (by simpa[au] using bX (ak S) k hlt)) ?_
  refine en fun a w e' hf=>?_
  replace e:=e.tr e'
  refine ae hf rfl (by decide) fun a hf=>?_
  refine aa ?_
  have hp:=pL (ak S k)
  have hq:=xH S k
  refine ac 4 hf (by decide +kernel) ?_
  refine st (mv rfl) ?_
  refine st (mv rfl) ?_
  refine st (aw tv rfl (fun v w' e' h=>by cases h;exact xE _ w')) ?_
  refine st ((add rfl rfl (by omega)).eq (congrArg (Value.int .i64) (show ((cardTo S k:Nat):Int)+(fm (ak S k):Nat)=(cardTo S (k+1):Nat) from by rw[xF];omega))) ?_
  refine en fun a w e' hf=>?_
  replace e:=e.tr e'
  refine ae hf rfl (by decide) fun a hf=>?_
  refine aa ?_
  refine ac 1 hf (by decide +kernel) ?_
  refine st (add rfl rfl (by omega)) ?_
  refine en fun a w e' hf=>?_
  replace e:=e.tr e'
  clear e'
  refine aB hf (by decide) (mv rfl) fun a w e' hf=>?_
  replace e:=e.tr e'
  refine aa ?_
  replace hf:=hf.kp [3,6,7]
  exact⟨16 - (k+1),by omega,k+1,rfl,by omega,by simpa using hf,e⟩
 ·obtain rfl:k=16:=by omega
  refine seq ?_
  refine ac 1 hf (by decide +kernel) ?_
  refine st ((lss rfl rfl).eq (congrArg Value.bool (show decide (((16:Nat):Int)<16)=false from rfl))) ?_
  refine en fun a w e' hf=>?_
  replace e:=e.tr e'
  refine aa ?_
  refine seq ?_
  refine ifc hf rfl (fun h=>by cases h) (fun _=>aR ?_)
  simp only[Exit.then,Exit.inBlock,↓reduceIte]
  refine seq ?_
  refine ac 1 hf (by decide +kernel) ?_
  refine st (mv rfl) ?_
  refine en fun a w e' hf=>?_
  replace e:=e.tr e'
  refine ae hf rfl (by decide) fun a hf=>?_
  refine aa ?_
  refine an (az rfl hf rfl ?_)
  rintro v rfl
  exact⟨_,rfl,e,by rw[xG];rfl⟩
end Go.Mono
namespace Go.Mono
open Classical
structure Tr where
 n:Nat
 par:Nat→Option Nat
 dep:Nat→Nat
 lt:∀{i j},i<n→par i=some j→j<n
 dp:∀{i j},i<n→par i=some j→dep i=dep j+1
 one:∀{i j},i<n→j<n→par i=none→par j=none→i=j

namespace Tr
variable (T:Tr)

noncomputable def topF (A:Nat→Prop):Nat→Nat→Nat
 | 0,x=>x
 | f+1,x=>match T.par x with
  | some p=>if A p then topF A f p else x
  | none=>x
noncomputable def tp (A:Nat→Prop)(x:Nat):Nat:=T.topF A (T.dep x) x
variable {T}{A B C D:Nat→Prop}{x y z u c k m:Nat}
theorem fT (hx:x<T.n){p:Nat}(h:T.par x=some p)(hp:A p):T.tp A x=T.tp A p:=by
 unfold tp
 rw[T.dp hx h,topF,h]
 simp[hp]
theorem ef (h:∀p,T.par x=some p→¬A p):T.tp A x=x:=by
 unfold tp
 cases T.dep x with
 | zero=>rfl
 | succ d=>
  rw[topF]
  cases hp:T.par x with
  | none=>rfl
  | some p=>simp[h p hp]
theorem ind {p:Nat→Prop}(step:∀i,i<T.n→(∀j,T.par i=some j→p j)→p i):∀i,i<T.n→p i:=by
 have:∀d i,i<T.n→T.dep i=d→p i:=by
  intro d
  induction d using Nat.strongRecOn with
  | _ d ih=>
   intro i hi hd
   refine step i hi fun j hj=>?_
   have:=T.dp hi hj
   exact ih (T.dep j) (by omega) j (T.lt hi hj) rfl
 exact fun i hi=>this _ i hi rfl
theorem iG (x:Nat):(∃p,T.par x=some p∧A p)∨∀p,T.par x=some p→¬A p:=by
 by_cases h:∃p,T.par x=some p∧A p
 ·exact .inl h
 ·exact .inr fun p hp ha=>h ⟨p,hp,ha⟩
theorem fU:∀x,x<T.n→A x→A (T.tp A x)∧T.tp A x<T.n∧T.dep (T.tp A x)≤T.dep x∧(∀p,T.par (T.tp A x)=some p→¬A p)∧(T.dep (T.tp A x)=T.dep x→T.tp A x=x):=by
 refine T.ind fun x hx ih ha=>?_
 rcases iG (T:=T) (A:=A) x with ⟨p,h,hp⟩|h
 ·rw[fT hx h hp]
  obtain⟨h1,h2,h3,h4,h5⟩:=ih p h hp
  have:=T.dp hx h
  exact⟨h1,h2,by omega,h4,fun h=>by omega⟩
 ·rw[ef h]
  exact⟨ha,hx,Nat.le_refl _,h,fun _=>rfl⟩
def adj (T:Tr)(a b:Nat):Prop:=T.par a=some b∨T.par b=some a
theorem adj.symm {a b:Nat}(h:T.adj a b):T.adj b a:=Or.symm h
theorem adj.ne {a b:Nat}(ha:a<T.n)(h:T.adj a b):a≠b:=fun e=>by
 subst e
 rcases h with h|h <;> have:=T.dp ha h <;> omega
def cn (T:Tr)(A:Nat→Prop)(x y:Nat):Prop:=x<T.n∧y<T.n∧A x∧A y∧T.tp A x=T.tp A y
theorem cn.refl (hx:x<T.n)(ha:A x):T.cn A x x:=⟨hx,hx,ha,ha,rfl⟩
theorem cn.symm (h:T.cn A x y):T.cn A y x:=⟨h.2.1,h.1,h.2.2.2.1,h.2.2.1,h.2.2.2.2.symm⟩
theorem cn.trans (h:T.cn A x y)(h':T.cn A y z):T.cn A x z:=⟨h.1,h'.2.1,h.2.2.1,h'.2.2.2.1,h.2.2.2.2.trans h'.2.2.2.2⟩
theorem cn.of_adj (hx:x<T.n)(hy:y<T.n)(ha:A x)(hb:A y)(h:T.adj x y):T.cn A x y:=by
 refine⟨hx,hy,ha,hb,?_⟩
 rcases h with h|h
 ·exact fT hx h hb
 ·exact (fT hy h ha).symm
theorem cn.ind {S:Nat→Prop}(h:T.cn A x y)(h0:S x)(st:∀a b,a<T.n→b<T.n→A a→A b→S a→T.adj a b→S b):S y:=by
 have up:∀x,x<T.n→A x→S x→S (T.tp A x):=by
  refine T.ind fun x hx ih ha hs=>?_
  rcases iG (T:=T) (A:=A) x with ⟨p,h,hp⟩|h
  ·rw[fT hx h hp]
   exact ih p h hp (st x p hx (T.lt hx h) ha hp hs (.inl h))
  ·rw[ef h];exact hs
 have dn:∀y,y<T.n→A y→S (T.tp A y)→S y:=by
  refine T.ind fun y hy ih ha hs=>?_
  rcases iG (T:=T) (A:=A) y with ⟨p,h,hp⟩|h
  ·rw[fT hy h hp] at hs
   exact st p y (T.lt hy h) hy hp ha (ih p h hp hs) (.inr h)
  ·rw[ef h] at hs;exact hs
 obtain⟨hx,hy,ha,hb,he⟩:=h
 have:=up x hx ha h0
 rw[he] at this
 exact dn y hy hb this
theorem cn.mono (h:T.cn A x y)(hAB:∀i,i<T.n→A i→B i):T.cn B x y:=
 h.ind (S:=fun i=>T.cn B x i) (cn.refl h.1 (hAB _ h.1 h.2.2.1)) fun a b ha hb _ hB hs hab=>hs.trans (cn.of_adj ha hb (hAB _ ha ‹_›) (hAB _ hb hB) hab)
def conn (T:Tr)(C:Nat→Prop):Prop:=∀x y,x<T.n→y<T.n→C x→C y→T.cn C x y
theorem conn_comp:T.conn fun y=>T.cn A x y:=by
 have key:∀y,y<T.n→T.cn A x y→T.tp (fun y=>T.cn A x y) y=T.tp A y:=by
  refine T.ind fun y hy ih hc=>?_
  rcases iG (T:=T) (A:=A) y with ⟨p,h,hp⟩|h
  ·have hcp:T.cn A x p:=hc.trans (cn.of_adj hy (T.lt hy h) hc.2.2.2.1 hp (.inl h))
   rw[fT hy h hp,fT hy h hcp,ih p h hcp]
  ·rw[ef h,ef fun p hp hh=>h p hp hh.2.2.2.1]
 intro y z hy hz h1 h2
 exact⟨hy,hz,h1,h2,by rw[key y hy h1,key z hz h2,← h1.2.2.2.2,← h2.2.2.2.2]⟩
theorem conn_all:T.conn fun i=>i<T.n:=by
 intro x y hx hy _ _
 refine⟨hx,hy,hx,hy,?_⟩
 obtain⟨h1,h2,_,h3,_⟩:=fU (T:=T) (A:=fun i=>i<T.n) x hx hx
 obtain⟨k1,k2,_,k3,_⟩:=fU (T:=T) (A:=fun i=>i<T.n) y hy hy
 refine T.one h1 k1 ?_ ?_
 ·cases h:T.par (T.tp (fun i=>i<T.n) x) with
  | none=>rfl
  | some p=>exact absurd (T.lt h1 h) (h3 p h)
 ·cases h:T.par (T.tp (fun i=>i<T.n) y) with
  | none=>rfl
  | some p=>exact absurd (T.lt k1 h) (k3 p h)
theorem conn.inter (hC:T.conn C)(hD:T.conn D):T.conn fun i=>C i∧D i:=by
 intro x y hx hy h1 h2
 refine⟨hx,hy,h1,h2,?_⟩
 obtain⟨a1,a2,_,a3,_⟩:=fU (T:=T) (A:=fun i=>C i∧D i) x hx h1
 obtain⟨b1,b2,_,b3,_⟩:=fU (T:=T) (A:=fun i=>C i∧D i) y hy h2
 generalize T.tp (fun i=>C i∧D i) x=a at *
 generalize T.tp (fun i=>C i∧D i) y=b at *
 have stop:∀a,(∀p,T.par a=some p→¬(C p∧D p))→T.tp C a=a∨T.tp D a=a:=by
  intro a h
  rcases iG (T:=T) (A:=C) a with ⟨p,hp,hc⟩|h'
  ·refine .inr (ef fun q hq hd=>?_)
   rw[hp] at hq;cases hq
   exact h p hp ⟨hc,hd⟩
  ·exact .inl (ef h')
 have two:∀{C D:Nat→Prop},T.conn C→T.conn D→∀a b,a<T.n→b<T.n→C a→C b→D a→D b→T.tp C a=a→T.tp D b=b→a=b:=by
  intro C D hC hD a b ha hb c1 c2 d1 d2 e1 e2
  have h1:=(hC a b ha hb c1 c2).2.2.2.2
  have h2:=(hD a b ha hb d1 d2).2.2.2.2
  rw[e1] at h1
  rw[e2] at h2
  have m1:=(fU b hb c2).2.2
  have m2:=(fU a ha d1).2.2
  rw[← h1] at m1
  rw[h2] at m2
  exact m1.2.2 (by omega)
 rcases stop a a3 with e1|e1 <;> rcases stop b b3 with e2|e2
 ·exact two hC hC a b a2 b2 a1.1 b1.1 a1.1 b1.1 e1 e2
 ·exact two hC hD a b a2 b2 a1.1 b1.1 a1.2 b1.2 e1 e2
 ·exact two hD hC a b a2 b2 a1.2 b1.2 a1.1 b1.1 e1 e2
 ·exact two hD hD a b a2 b2 a1.2 b1.2 a1.2 b1.2 e1 e2
theorem conn.nb (hC:T.conn C){b:Nat}(hb:b<T.n)(hbC:¬C b)(hx:x<T.n)(hy:y<T.n)(cx:C x)(cy:C y)(ax:T.adj x b)(ay:T.adj y b):x=y:=by
 have key:∀x y,x<T.n→y<T.n→C x→C y→T.par x=some b→T.par b=some y→False:=by
  intro x y hx hy cx cy h1 h2
  have e1:T.tp C x=x:=ef fun p hp hc=>hbC (by rw[h1] at hp;cases hp;exact hc)
  have e2:=(hC x y hx hy cx cy).2.2.2.2
  have e3:=(fU y hy cy).2.2.1
  rw[← e2,e1] at e3
  have:=T.dp hx h1
  have:=T.dp hb h2
  omega
 rcases ax with ax|ax <;> rcases ay with ay|ay
 ·have e1:T.tp C x=x:=ef fun p hp hc=>hbC (by rw[ax] at hp;cases hp;exact hc)
  have e2:T.tp C y=y:=ef fun p hp hc=>hbC (by rw[ay] at hp;cases hp;exact hc)
  rw[← e1,← e2]
  exact (hC x y hx hy cx cy).2.2.2.2
 ·exact (key x y hx hy cx cy ax ay).elim
 ·exact (key y x hy hx cy cx ay ax).elim
 ·rw[ax] at ay;cases ay;rfl
abbrev wo (A:Nat→Prop)(z:Nat):Nat→Prop:=fun i=>A i∧i≠z
theorem hop (hC:T.conn C)(hz:z<T.n)(hx:x<T.n)(cz:C z)(cx:C x)(hne:x≠z):∃k,T.adj k z∧T.cn (wo C z) k x:=by
 have:=(hC z x hz hx cz cx).ind (S:=fun y=>y=z∨∃k,T.adj k z∧T.cn (wo C z) k y) (.inl rfl) fun a b ha hb ca cb hs hab=>by
  by_cases hbz:b=z
  ·exact .inl hbz
  ·right
   rcases hs with rfl|⟨k,h1,h2⟩
   ·exact⟨b,hab.symm,cn.refl hb ⟨cb,hbz⟩⟩
   ·exact⟨k,h1,h2.trans (cn.of_adj ha hb h2.2.2.2.1 ⟨cb,hbz⟩ hab)⟩
 exact this.resolve_left hne
theorem hop_one {k':Nat}(hz:z<T.n)(h1:T.adj k z)(h2:T.adj k' z)(h:T.cn (wo A z) k k'):k=k':=
 (conn_comp (T:=T) (A:=wo A z) (x:=k)).nb hz (fun hh=>hh.2.2.2.1.2 rfl) h.1 h.2.1 (cn.refl h.1 h.2.2.1) h h1 h2
def P (T:Tr)(z x y:Nat):Prop:=¬T.cn (wo (fun i=>i<T.n) z) x y
theorem P.left:T.P x x y:=fun h=>h.2.2.1.2 rfl
theorem P.right:T.P y x y:=fun h=>h.2.2.2.1.2 rfl
theorem P.symm (h:T.P z x y):T.P z y x:=fun h'=>h h'.symm
theorem P.lt (hx:x<T.n)(hy:y<T.n)(h:T.P z x y):z<T.n:=by
 apply Classical.byContradiction
 intro hz
 refine h ((conn_all x y hx hy hx hy).mono fun i hi _=>⟨hi,fun e=>hz (e▸hi)⟩)
theorem xI (hC:T.conn C)(hx:x<T.n)(hy:y<T.n)(cx:C x)(cy:C y):T.cn (wo C z) x y↔¬T.P z x y:=by
 unfold P
 rw[Classical.not_not]
 constructor
 ·exact fun h=>h.mono fun i hi h=>⟨hi,h.2⟩
 ·intro h
  have hD:=conn_comp (T:=T) (A:=wo (fun i=>i<T.n) z) (x:=x)
  exact ((hC.inter hD) x y hx hy ⟨cx,cn.refl hx h.2.2.1⟩ ⟨cy,h⟩).mono fun i _ hi=>⟨hi.1,hi.2.2.2.2.1.2⟩
theorem P.mem (hC:T.conn C)(hx:x<T.n)(hy:y<T.n)(cx:C x)(cy:C y)(h:T.P z x y):C z:=by
 apply Classical.byContradiction
 intro hz
 exact (xI hC hx hy cx cy).1 ((hC x y hx hy cx cy).mono fun i _ hi=>⟨hi,fun e=>hz (by rw[← e];exact hi)⟩) h
theorem P.split (z:Nat)(h:T.P u x y):T.P u x z∨T.P u z y:=by
 by_cases h1:T.P u x z
 ·exact .inl h1
 ·refine .inr fun h2=>h ((Classical.not_not.1 h1).trans h2)
theorem P.sub (h:T.P z x y)(h':T.P u x z):T.P u x y:=fun hc=>
 h ((conn_comp (T:=T) (A:=wo (fun i=>i<T.n) u) (x:=x) x y hc.1 hc.2.1 (cn.refl hc.1 hc.2.2.1) hc).mono fun i hi hh=>⟨hi,fun e=>h' (e▸hh)⟩)
theorem P.sub' (h:T.P z x y)(h':T.P u z y):T.P u x y:=(h.symm.sub h'.symm).symm
theorem pM (hz:z<T.n)(hx:x<T.n)(hne:u≠z)(h:T.P z u x)(hu:u<T.n):¬T.P u x z:=by
 intro hh
 by_cases hxz:x=z
 ·subst hxz
  exact hh (cn.refl hx ⟨hx,Ne.symm hne⟩)
 ·obtain⟨k,k1,k2⟩:=hop (conn_all (T:=T)) hz hx hz hx hxz
  have h1:T.cn (wo (fun i=>i<T.n) u) x k:=by
   refine (conn_comp (T:=T) (A:=wo (fun i=>i<T.n) z) (x:=x) x k hx k2.1 (cn.refl hx k2.2.2.2.1) k2.symm).mono fun i hi hc=>⟨hi,fun e=>?_⟩
   subst e
   exact h hc.symm
  exact hh (h1.trans (cn.of_adj k2.1 hz h1.2.2.2.1 ⟨hz,Ne.symm hne⟩ k1))
theorem P.meet (hx:x<T.n)(hy:y<T.n)(h:T.P z x y)(h1:T.P u x z)(h2:T.P u z y):u=z:=by
 apply Classical.byContradiction
 intro hne
 have hz:=h.lt hx hy
 have hu:=h1.lt hx hz
 rcases h.split u with h3|h3
 ·exact pM hz hx hne h3.symm hu h1
 ·exact pM hz hy hne h3 hu h2.symm
theorem hop_P (hm:m<T.n)(hk:T.adj k m)(h:T.cn (wo (fun i=>i<T.n) m) k x):T.P k m x:=by
 intro hc
 have hxm:x≠m:=h.2.2.2.1.2
 obtain⟨k',h1,h2⟩:=hop (conn_comp (T:=T) (A:=wo (fun i=>i<T.n) k) (x:=m)) hm h.2.1 (cn.refl hm hc.2.2.1) hc hxm
 have h3:T.cn (wo (fun i=>i<T.n) m) k' x:=h2.mono fun i hi hh=>⟨hi,hh.2⟩
 have:=hop_one hm hk h1 (h.trans h3.symm)
 subst this
 exact h2.2.2.1.1.2.2.2.1.2 rfl
noncomputable def dist (T:Tr)(x y:Nat):Nat:=(List.range T.n).countP fun z=>decide (T.P z x y)
theorem dist_lt (hz:z<T.n)(h:∀u,u<T.n→T.P u x y→T.P u c m)(h1:T.P z c m)(h2:¬T.P z x y):T.dist x y<T.dist c m:=by
 unfold dist
 have hle:∀l:List Nat,(∀u∈l,u<T.n)→l.countP (fun z=>decide (T.P z x y))+(if z∈l then 1 else 0)≤l.countP fun z=>decide (T.P z c m):=by
  intro l
  induction l with
  | nil=>intro _;simp
  | cons a l ih=>
   intro hl
   have:=ih fun u hu=>hl u (by simp[hu])
   have ha:=hl a (by simp)
   rw[List.countP_cons,List.countP_cons]
   by_cases haz:z=a
   ·subst haz
    simp only[h1,h2,decide_true,decide_false,List.mem_cons,true_or,if_true,Bool.false_eq_true,if_false]
    omega
   ·have e1:(z∈a::l)↔z∈l:=by simp[haz]
    simp only[e1]
    by_cases hp:T.P a x y
    ·have:=h a ha hp
     simp only[hp,this,decide_true,if_true]
     omega
    ·by_cases hq:T.P a c m
     ·simp only[hp,hq,decide_true,decide_false,if_true,Bool.false_eq_true,if_false]
      omega
     ·simp only[hp,hq,decide_false,Bool.false_eq_true,if_false]
      omega
 have:=hle (List.range T.n) (by simp)
 simp only[List.mem_range,hz,if_true] at this
 omega
theorem median (hx:x<T.n)(hy:y<T.n)(hc:c<T.n):∃m,T.P m x y∧T.P m x c∧T.P m y c:=by
 have:∀d m,T.P m x y→T.dist m c=d→∃m,T.P m x y∧T.P m x c∧T.P m y c:=by
  intro d
  induction d using Nat.strongRecOn with
  | _ d ih=>
   intro m hm hd
   have hml:=hm.lt hx hy
   have step:∀x y,x<T.n→y<T.n→T.P m x y→¬T.P m x c→∃k,T.P k x y∧T.dist k c<T.dist m c:=by
    intro x y hx hy hm h
    have h':=Classical.not_not.1 h
    obtain⟨k,k1,k2⟩:=hop (conn_all (T:=T)) hml hc hml hc h'.2.2.2.1.2
    have k3:T.cn (wo (fun i=>i<T.n) m) k x:=k2.trans h'.symm
    have p1:=hop_P hml k1 k3
    have p2:=hop_P hml k1 k2
    exact⟨k,hm.sub p1.symm,dist_lt hml (fun u _ hu=>p2.sub' hu) P.left fun h=>h k2⟩
   by_cases h1:T.P m x c
   ·by_cases h2:T.P m y c
    ·exact⟨m,hm,h1,h2⟩
    ·obtain⟨k,k1,k2⟩:=step y x hy hx hm.symm h2
     exact ih _ (by omega) k k1.symm rfl
   ·obtain⟨k,k1,k2⟩:=step x y hx hy hm h1
    exact ih _ (by omega) k k1 rfl
 exact this _ x P.left rfl
theorem near (hx:x<T.n)(hy:y<T.n)(hc:c<T.n)(hm:T.P m x y)(m1:T.P m x c)(m2:T.P m y c){n:Nat}(hn:T.P n x y):T.P m n c:=by
 have hml:=hm.lt hx hy
 rcases hn.split m with h|h
 ·-- n between x and m
  have h3:T.P n x c:=m1.sub h
  rcases m1.split n with h4|h4
  ·have:m=n:=by
    have:=P.meet hx hml h h4 (P.right (T:=T) (x:=n) (y:=m))
    exact this
   subst this
   exact P.left
  ·exact h4
 ·have h3:T.P n y c:=m2.sub h.symm
  rcases m2.split n with h4|h4
  ·have:m=n:=P.meet hy hml h.symm h4 (P.right (T:=T) (x:=n) (y:=m))
   subst this
   exact P.left
  ·exact h4
end Tr
end Go.Mono
namespace Go.Mono

abbrev bits (S:BS):Nat→Prop:=fun i=>S.getLsbD i=true
theorem aG {S:BS}{i:Nat}(h:S.getLsbD i=true):i<1024:=Classical.byContradiction fun hn=>by
 rw[BitVec.getLsbD_of_ge _ _ (by omega)] at h;cases h
theorem aP (S T:BS)(i:Nat):(S &&& ~~~T).getLsbD i=true↔S.getLsbD i=true∧¬T.getLsbD i=true:=by
 rw[BitVec.getLsbD_and,BitVec.getLsbD_not,Bool.and_eq_true,Bool.and_eq_true]
 constructor
 ·rintro⟨h1,_,h2⟩;exact⟨h1,by simpa using h2⟩
 ·rintro⟨h1,h2⟩;exact⟨h1,by simpa using aG h1,by simpa using h2⟩
theorem bZ (S T:BS)(i:Nat):(S &&& T).getLsbD i=true↔S.getLsbD i=true∧T.getLsbD i=true:=by
 rw[BitVec.getLsbD_and,Bool.and_eq_true]
theorem fp (S T:BS)(i:Nat):(S ||| T).getLsbD i=true↔S.getLsbD i=true∨T.getLsbD i=true:=by
 rw[BitVec.getLsbD_or,Bool.or_eq_true]
theorem aN (i:Nat):¬(0:BS).getLsbD i=true:=by simp
theorem aL (S:BS){p i:Nat}(hp:p<1024):(ins S (p:Int)).getLsbD i=true↔S.getLsbD i=true∨i=p:=by
 by_cases hi:i<1024
 ·rw[oA _ _ _ hi,Bool.or_eq_true,decide_eq_true_eq]
  constructor
  ·rintro (h|h)
   ·exact .inl h
   ·exact .inr (by omega)
  ·rintro (h|h)
   ·exact .inl h
   ·exact .inr (by omega)
 ·constructor
  ·intro h;exact absurd (aG h) hi
  ·rintro (h|h)
   ·exact absurd (aG h) hi
   ·omega
theorem bT (S:BS){p i:Nat}(hp:p<1024):(del S (p:Int)).getLsbD i=true↔S.getLsbD i=true∧i≠p:=by
 unfold del
 rw[if_pos (cX.2 (by omega)),aP,Int.toNat_natCast]
 constructor
 ·rintro⟨h1,h2⟩
  refine⟨h1,fun e=>h2 ?_⟩
  rw[im _ _ hp,e];simp
 ·rintro⟨h1,h2⟩
  refine⟨h1,fun h=>h2 ?_⟩
  rw[im _ _ hp] at h
  exact of_decide_eq_true h
theorem bI {S T:BS}(h:∀k,S.getLsbD k=true↔T.getLsbD k=true):S=T:=vT fun k _=>h k
theorem pN (S:BS)(p:Nat):has S (p:Int)=true↔S.getLsbD p=true:=by
 rw[has,Bool.and_eq_true,cX,Int.toNat_natCast]
 exact⟨fun h=>h.2,fun h=>⟨by have:=aG h;omega,h⟩⟩

theorem jA {α:Type}{p q:α→Bool}:∀{l:List α},(∀x∈l,p x=true→q x=true)→l.countP p≤l.countP q
 | [],_=>Nat.le_refl _
 | x::l,h=>by
  have ih:=jA (l:=l) fun y hy=>h y (by simp[hy])
  rw[List.countP_cons,List.countP_cons]
  by_cases hx:p x=true
  ·rw[if_pos hx,if_pos (h x (by simp) hx)];omega
  ·rw[if_neg hx];split <;> omega
theorem pO {α:Type}{p q:α→Bool}{z:α}:∀{l:List α},(∀x∈l,p x=true→q x=true)→z∈l→q z=true→¬p z=true→l.countP p<l.countP q
 | [],_,hz,_,_=>by cases hz
 | x::l,h,hz,h1,h2=>by
  have ih:=jA (p:=p) (q:=q) (l:=l) fun y hy=>h y (by simp[hy])
  rw[List.countP_cons,List.countP_cons]
  rcases List.mem_cons.1 hz with rfl|hz
  ·rw[if_neg h2,if_pos h1];omega
  ·have ih:=pO (l:=l) (fun y hy=>h y (by simp[hy])) hz h1 h2
   by_cases hx:p x=true
   ·rw[if_pos hx,if_pos (h x (by simp) hx)];omega
   ·rw[if_neg hx];split <;> omega
theorem pP {α:Type}{p q r:α→Bool}:∀{l:List α},(∀x∈l,r x=true↔p x=true∨q x=true)→(∀x∈l,¬(p x=true∧q x=true))→l.countP r=l.countP p+l.countP q
 | [],_,_=>rfl
 | x::l,h,hd=>by
  have ih:=pP (l:=l) (p:=p) (q:=q) (r:=r) (fun y hy=>h y (by simp[hy])) fun y hy=>hd y (by simp[hy])
  rw[List.countP_cons,List.countP_cons,List.countP_cons,ih]
  have h1:=h x (by simp)
  have h2:=hd x (by simp)
  by_cases hp:p x=true
  ·have hq:¬q x=true:=fun hq=>h2 ⟨hp,hq⟩
   rw[if_pos hp,if_neg hq,if_pos (h1.2 (.inl hp))];omega
  ·by_cases hq:q x=true
   ·rw[if_neg hp,if_pos hq,if_pos (h1.2 (.inr hq))];omega
   ·rw[if_neg hp,if_neg hq,if_neg (fun hr=>(h1.1 hr).elim hp hq)];omega
theorem gH {S T:BS}(h:∀i,S.getLsbD i=true→T.getLsbD i=true):card S≤card T:=jA fun i _ hi=>h i hi
theorem fq {S T:BS}{z:Nat}(h:∀i,S.getLsbD i=true→T.getLsbD i=true)(h1:T.getLsbD z=true)(h2:¬S.getLsbD z=true):card S<card T:=
 pO (fun i _ hi=>h i hi) (List.mem_range.2 (aG h1)) h1 h2
theorem iH {S T U:BS}(h:∀i,U.getLsbD i=true↔S.getLsbD i=true∨T.getLsbD i=true)(hd:∀i,¬(S.getLsbD i=true∧T.getLsbD i=true)):card U=card S+card T:=
 pP (fun i _=>h i) fun i _=>hd i
theorem du (S:BS):(elems S).length=card S:=by rw[elems,card,List.countP_eq_length_filter]
theorem eh:card 0=0:=by rw[← du,oy];rfl
theorem pQ (n:Nat):∀m,(List.range m).countP (fun i=>decide (i<n))≤n
 | 0=>by simp
 | m+1=>by
  rw[List.range_succ,List.countP_append]
  have ih:=pQ n m
  by_cases h:m<n
  ·have:=List.countP_le_length (p:=fun i=>decide (i<n)) (l:=List.range m)
   rw[List.length_range] at this
   simp[h];omega
  ·simp[h];omega
theorem ek {S:BS}{n:Nat}(h:∀i,S.getLsbD i=true→i<n):card S≤n:=
 Nat.le_trans (jA fun i _ hi=>decide_eq_true (h i hi)) (pQ n 1024)
theorem fV {S:BS}{p:Nat}(h:∀i,S.getLsbD i=true↔i=p):card S=1:=by
 have hp:p<1024:=aG ((h p).2 rfl)
 have:∀m,(List.range m).countP (fun i=>S.getLsbD i)=if p<m then 1 else 0:=by
  intro m
  induction m with
  | zero=>simp
  | succ m ih=>
   rw[List.range_succ,List.countP_append,ih]
   by_cases hm:m=p
   ·subst hm
    simp[(h m).2 rfl]
   ·have:¬S.getLsbD m=true:=fun hh=>hm ((h m).1 hh)
    rw[List.countP_singleton,if_neg this]
    split <;> split <;> omega
 rw[card,this,if_pos hp]
theorem el {S:BS}{p:Nat}(h:S.getLsbD p=true):0<card S:=by
 rw[← du]
 exact List.length_pos_of_mem (aK.2 ⟨aG h,h⟩)
theorem eQ {S:BS}{k:Nat}(h:bd S=some k):S.getLsbD k=true:=(jo.1 h).2.1
theorem xJ {S:BS}{p:Nat}(h:S.getLsbD p=true):∃k,bd S=some k∧k≤p:=by
 cases hm:bd S with
 | none=>rw[fO.1 hm] at h;exact absurd h (aN p)
 | some k=>
  refine⟨k,rfl,Classical.byContradiction fun hn=>?_⟩
  have:=(jo.1 hm).2.2 p (by omega)
  rw[this] at h;cases h

structure Fo (fs:List BS)(T:Tr):Prop where
 len:fs.length=T.n
 le:T.n≤1000
 adj:∀{j i},j<T.n→((sg fs j).getLsbD i=true↔i<T.n∧T.adj j i)
theorem Fo.lt {fs:List BS}{T:Tr}(F:Fo fs T){j:Nat}(hj:j<fs.length):∀i,(sg fs j).getLsbD i=true→i<fs.length:=fun i h=>by
 rw[F.len] at hj ⊢
 exact ((F.adj hj).1 h).1

theorem xK {fs:List BS}{T:Tr}(F:Fo fs T){inn:BS}{p:Nat}(hin:∀i,inn.getLsbD i=true→i<T.n):∀(f:Nat) (S:BS) (R:List Int),S.getLsbD p=true→(∀i,S.getLsbD i=true→T.cn (bits inn) p i) →
  (∀r∈R,∃q:Nat,r=(q:Int)∧S.getLsbD q=true)→(∀i,S.getLsbD i=true→(i:Int) ∉ R→∀k,T.adj i k→inn.getLsbD k=true→S.getLsbD k=true)→R.length+T.n≤f+card S →
  ∃Z,iE fs inn f S R=some Z∧∀i,Z.getLsbD i=true↔T.cn (bits inn) p i:=by
 intro f
 induction f with
 | zero=>
  intro S R h1 h2 h3 h4 h5
  have hc:=ek fun i hi=>(h2 i hi).2.1
  have:R=[]:=List.eq_nil_of_length_eq_zero (by omega)
  subst this
  refine⟨S,rfl,fun i=>⟨h2 i,fun h=>h.ind (S:=bits S) h1 fun a b ha hb pa pb hs hab=>h4 a hs (by simp) b hab pb⟩⟩
 | succ f ih=>
  intro S R h1 h2 h3 h4 h5
  cases R with
  | nil=>exact⟨S,rfl,fun i=>⟨h2 i,fun h=>h.ind (S:=bits S) h1 fun a b ha hb pa pb hs hab=>h4 a hs (by simp) b hab pb⟩⟩
  | cons r R=>
   obtain⟨q,rfl,hq⟩:=h3 r (by simp)
   have hqn:=(h2 q hq).2.1
   have hX:∀i,(((sg fs q &&& inn) &&& ~~~S)).getLsbD i=true↔(i<T.n∧T.adj q i)∧inn.getLsbD i=true∧¬S.getLsbD i=true:=fun i=>by
    rw[aP,bZ,F.adj hqn,and_assoc]
   rw[iE,Int.toNat_natCast]
   generalize (sg fs q &&& inn) &&& ~~~S=X at hX
   have hU:∀i,(S ||| X).getLsbD i=true↔S.getLsbD i=true∨X.getLsbD i=true:=fp S X
   have hel:∀i:Nat,(i:Int)∈elI X↔X.getLsbD i=true:=fun i=>by
    by_cases hi:i<1024
    ·exact xp hi
    ·constructor
     ·intro h
      rw[elI,List.mem_map] at h
      obtain⟨j,hj,he⟩:=h
      have:=(aK.1 hj).1
      omega
     ·intro h;exact absurd (aG h) hi
   refine ih (S ||| X) (R++elI X) ((hU p).2 (.inl h1)) (fun i hi=>?_) (fun x hx=>?_) (fun i hi hn k hk hik=>?_) ?_
   ·rcases (hU i).1 hi with h|h
    ·exact h2 i h
    ·have:=(hX i).1 h
     exact (h2 q hq).trans (Tr.cn.of_adj hqn this.1.1 (h2 q hq).2.2.2.1 this.2.1 this.1.2)
   ·rcases List.mem_append.1 hx with h|h
    ·obtain⟨q',e,h'⟩:=h3 x (by simp[h])
     exact⟨q',e,(hU q').2 (.inl h')⟩
    ·rw[elI,List.mem_map] at h
     obtain⟨j,hj,rfl⟩:=h
     exact⟨j,rfl,(hU j).2 (.inr (aK.1 hj).2)⟩
   ·have hiX:¬X.getLsbD i=true:=fun h=>hn (List.mem_append.2 (.inr ((hel i).2 h)))
    have hiS:=((hU i).1 hi).resolve_right hiX
    by_cases hiq:i=q
    ·subst hiq
     by_cases hkS:S.getLsbD k=true
     ·exact (hU k).2 (.inl hkS)
     ·exact (hU k).2 (.inr ((hX k).2 ⟨⟨hin k hik,hk⟩,hik,hkS⟩))
    ·refine (hU k).2 (.inl (h4 i hiS (fun h=>?_) k hk hik))
     rcases List.mem_cons.1 h with h|h
     ·omega
     ·exact hn (List.mem_append.2 (.inl h))
   ·have hc:=iH hU (fun i h=>((hX i).1 h.2).2.2 h.1)
    have hl:(elI X).length=card X:=by rw[elI,List.length_map,du]
    rw[List.length_append,hl,hc]
    simp only[List.length_cons] at h5
    omega
def compB (fs:List BS)(inn:BS)(p:Nat):BS:=(iE fs inn (1+fs.length) (ins 0 (p:Int)) [(p:Int)]).getD 0
theorem ep {fs:List BS}{T:Tr}(F:Fo fs T){inn:BS}{p:Nat}(hin:∀i,inn.getLsbD i=true→i<T.n)(hp:inn.getLsbD p=true) :
  iE fs inn (1+fs.length) (ins 0 (p:Int)) [(p:Int)]=some (compB fs inn p)∧∀i,(compB fs inn p).getLsbD i=true↔T.cn (bits inn) p i:=by
 have hpn:=hin p hp
 have hle:=F.le
 have hb:∀i,(ins 0 (p:Int)).getLsbD i=true↔i=p:=fun i=>by
  rw[aL 0 (by omega)]
  exact⟨fun h=>h.resolve_left (aN i),.inr⟩
 obtain⟨Z,h1,h2⟩:=xK F hin (1+fs.length) (ins 0 (p:Int)) [(p:Int)] ((hb p).2 rfl) (fun i hi=>by rw[(hb i).1 hi];exact Tr.cn.refl hpn hp)
  (fun r hr=>⟨p,by simpa using hr,(hb p).2 rfl⟩) (fun i hi hn=>by rw[(hb i).1 hi] at hn;simp at hn) (by have:=F.len;simp;omega)
 have:compB fs inn p=Z:=by rw[compB,h1];rfl
 rw[this]
 exact⟨h1,h2⟩
theorem xL {fs:List BS}{T:Tr}(F:Fo fs T){inn:BS}{p:Nat}(hin:∀i,inn.getLsbD i=true→i<T.n)(hp:inn.getLsbD p=true):∀i,(compB fs inn p).getLsbD i=true→inn.getLsbD i=true:=
 fun i hi=>(((ep F hin hp).2 i).1 hi).2.2.2.1
theorem pR {fs:List BS}{T:Tr}(F:Fo fs T){inn:BS}{p:Nat}(hin:∀i,inn.getLsbD i=true→i<T.n)(hp:inn.getLsbD p=true):(compB fs inn p).getLsbD p=true:=
 ((ep F hin hp).2 p).2 (Tr.cn.refl (hin p hp) hp)
def oEl {α:Type}(o:Option Nat)(a:α)(g:Nat→α):α:=match o with
 | none=>a
 | some k=>g k
def er (fs:List BS):Nat→BS→Option (List BS)
 | 0,left=>oEl (bd left) (some []) fun _=>none
 | f+1,left=>oEl (bd left) (some []) fun k=>(er fs f (left &&& ~~~compB fs left k)).map (compB fs left k :: ·)
theorem pS {fs:List BS}{left:BS}(h:bd left=none)(f:Nat):er fs f left=some []:=by
 cases f with
 | zero=>rw[er,h];rfl
 | succ f=>rw[er,h];rfl
theorem xM {fs:List BS}{left:BS}{k:Nat}(h:bd left=some k)(f:Nat):er fs (f+1) left=(er fs f (left &&& ~~~compB fs left k)).map (compB fs left k :: ·):=by
 rw[er,h,oEl]
theorem xN {fs:List BS}{T:Tr}(F:Fo fs T){left:BS}{k x y:Nat}(hin:∀i,left.getLsbD i=true→i<T.n)(hk:left.getLsbD k=true)(hx:(left &&& ~~~compB fs left k).getLsbD x=true) :
  T.cn (bits (left &&& ~~~compB fs left k)) x y↔T.cn (bits left) x y:=by
 have hC:=(ep F hin hk).2
 constructor
 ·intro h;exact h.mono fun i _ hi=>((aP _ _ i).1 hi).1
 ·intro h
  refine h.ind (S:=fun i=>T.cn (bits (left &&& ~~~compB fs left k)) x i) (Tr.cn.refl h.1 hx) fun a b ha hb pa pb hs hab=>?_
  have ha':=(aP _ _ a).1 hs.2.2.2.1
  have hb':(left &&& ~~~compB fs left k).getLsbD b=true:=(aP _ _ b).2 ⟨pb,fun hh=>ha'.2 ((hC a).2 (((hC b).1 hh).trans (Tr.cn.of_adj hb ha pb pa hab.symm)))⟩
  exact hs.trans (Tr.cn.of_adj ha hb hs.2.2.2.1 hb' hab)
theorem xO {fs:List BS}{T:Tr}(F:Fo fs T):∀(f:Nat) (left:BS),(∀i,left.getLsbD i=true→i<T.n)→card left≤f →
  ∃l,er fs f left=some l∧l.length≤card left∧(∀C∈l,∃k,left.getLsbD k=true∧C=compB fs left k)∧∀k,left.getLsbD k=true→compB fs left k∈l:=by
 intro f
 induction f with
 | zero=>
  intro left hin hc
  cases hm:bd left with
  | none=>
   refine⟨[],pS hm _,by simp,fun C hC=>by (cases hC),fun k hk=>?_⟩
   rw[fO.1 hm] at hk;exact absurd hk (aN k)
  | some k=>have:=el (eQ hm);omega
 | succ f ih=>
  intro left hin hc
  cases hm:bd left with
  | none=>
   refine⟨[],pS hm _,by simp,fun C hC=>by (cases hC),fun k hk=>?_⟩
   rw[fO.1 hm] at hk;exact absurd hk (aN k)
  | some k=>
   have hk:=eQ hm
   have hlt:card (left &&& ~~~compB fs left k)<card left:=fq (fun i hi=>((aP _ _ i).1 hi).1) hk fun h=>((aP _ _ k).1 h).2 (pR F hin hk)
   have hin':∀i,(left &&& ~~~compB fs left k).getLsbD i=true→i<T.n:=fun i hi=>hin i ((aP _ _ i).1 hi).1
   have same:∀x,(left &&& ~~~compB fs left k).getLsbD x=true→compB fs (left &&& ~~~compB fs left k) x=compB fs left x:=fun x hx=>by
    have hxl:=((aP _ _ x).1 hx).1
    refine bI fun i=>?_
    rw[(ep F hin' hx).2 i,(ep F hin hxl).2 i]
    exact xN F hin hk hx
   obtain⟨l,h1,h2,h3,h4⟩:=ih _ hin' (by omega)
   refine⟨compB fs left k::l,by rw[xM hm,h1];rfl,by simp;omega,fun C hC=>?_,fun x hx=>?_⟩
   ·rcases List.mem_cons.1 hC with rfl|hC
    ·exact⟨k,hk,rfl⟩
    ·obtain⟨x,hx,rfl⟩:=h3 C hC
     exact⟨x,((aP _ _ x).1 hx).1,same x hx⟩
   ·by_cases hxC:(compB fs left k).getLsbD x=true
    ·have:compB fs left x=compB fs left k:=by
      have hkx:=((ep F hin hk).2 x).1 hxC
      refine bI fun i=>?_
      rw[(ep F hin hk).2 i,(ep F hin hx).2 i]
      exact⟨fun h=>hkx.trans h,fun h=>hkx.symm.trans h⟩
     rw[this];simp
    ·have hx':=(aP _ _ x).2 ⟨hx,hxC⟩
     rw[← same x hx']
     exact List.mem_cons_of_mem _ (h4 x hx')
end Go.Mono
namespace Go.Mono
open Go Go.Proofs Go.RowKit

def oB (o:Option Nat)(a:BS)(g:Nat→BS):BS:=match o with
 | none=>a
 | some k=>g k
def reF (nb:Int→BS)(th:BS):Nat→BS→BS→BS
 | 0,s,_=>s
 | f+1,s,d=>oB (bd (s &&& th &&& ~~~d)) s fun k=>reF nb th f (s ||| nb (k:Int)) (ins d (k:Int))
def reB (nb:Int→BS)(th:BS)(v:Int):BS:=del (reF nb th 1024 (nb v) 0 &&& ~~~th) v
theorem pT {nb:Int→BS}{th s d:BS}(h:bd (s &&& th &&& ~~~d)=none)(f:Nat):reF nb th f s d=s:=by
 cases f with
 | zero=>rfl
 | succ f=>
  show oB (bd (s &&& th &&& ~~~d)) s _=s
  rw[h];rfl
theorem pU {nb:Int→BS}{th s d:BS}{k:Nat}(h:bd (s &&& th &&& ~~~d)=some k)(f:Nat):reF nb th (f+1) s d=reF nb th f (s ||| nb (k:Int)) (ins d (k:Int)):=by
 show oB (bd (s &&& th &&& ~~~d)) s _=_
 rw[h];rfl
end Go.Mono
namespace Go.Mono
open Go Go.Proofs Go.RowKit Go.Gr
def lkS (l:List (Int×BS))(i:Int):BS:=((l.find? fun p=>decide (p.1=i)).map (·.2)).getD 0
section
variable {w0:World}{L:Env}{dst:Option Tmp}{ty:TypeId}{pos:String}{aft:Array Edge}{g:Option (Nat×Bool)}{x y:Operand}{t:TypeId}{G:Nat→Prop}{N:Nat}{l:List (Int×BS)}
theorem xP {n:Nat}{b:Nat}{w:World}(h:MpR sKV w b n l){i:Int}{c:BS}(hc:(i,c)∈l):lkS l i=c:=by
 obtain⟨_,_,_,_,hp⟩:=h
 cases hf:l.find? (fun p=>decide (p.1=i)) with
 | none=>have:=List.find?_eq_none.1 hf _ hc;simp at this
 | some p=>
  have h1:=List.find?_some hf
  have h2:=List.mem_of_find?_eq_some hf
  have h3:p.1=i:=by simpa using h1
  have h4:p=(i,p.2):=by rw[← h3]
  rw[h4] at h2
  rw[lkS,hf]
  exact gF hp h2 hc
theorem xQ {i:Int}(h:∀c,(i,c) ∉ l):lkS l i=0:=by
 have:l.find? (fun p=>decide (p.1=i))=none:=by
  rw[List.find?_eq_none]
  intro p hp hh
  have h3:p.1=i:=by simpa using hh
  exact h p.2 (by rw[← h3];exact hp)
 rw[lkS,this];rfl
theorem lkM {i:Int}(ht:Tryz.prog.underlying t=some (.map sKV.k sKV.e))(hz:∀w,(zeroValue sKV.e).run Tryz.prog w=.ok (ah 0) w)(hx:Is L w0 x (Dv (mpE sKV N) G l))(hy:opd L y=some (E (I i)))(hi:(Lit.int .i64 i).wf=true) :
  OpC Tryz.prog w0 L ⟨dst,.lookup t x y false,ty,pos,aft,g⟩ (E (ah (lkS l i))):=
 aQ fun ρ w he' hv=>by
  obtain⟨cs,⟨b,n,h1,_,_,h2⟩,h4⟩:=hx.v he' hv (by simp[Op.operands])
  subst h1
  have h5:ρ x=.map (some b):=h4
  have h6:=opE hv (x:=y) (by simp[Op.operands]) hy
  obtain⟨D,m1,m2,m3,m4,_⟩:=h2.has (x:=i) hi
  obtain⟨v,ps,r1,r2⟩:=m1.lookup sKV.K ht (hz w) (sKV.val 0 trivial) (sKV.key i hi)
  obtain⟨c,_,rfl,hy2⟩:=sKV.valInv _ _ r2
  have hcc:c=lkS l i:=by
   have h8:=congrArg Prod.fst hy2
   simp only at h8
   by_cases hex:∃c',(i,c')∈l
   ·obtain⟨c',hc'⟩:=hex
    rw[m3 c' hc'] at h8
    rw[xP h2 hc']
    exact (sKV.dvInj _ _ h8).symm
   ·have hno:∀c',(i,c') ∉ l:=fun c' h=>hex ⟨c',h⟩
    rw[m4 hno] at h8
    rw[xQ hno]
    exact (sKV.dvInj _ _ h8).symm
  rw[hcc] at r1
  have r1:(Instr.lookup t (.map (some b)) (I i) false).run Tryz.prog w=.ok (ah (lkS l i)) w:=r1
  exact⟨_,by simp only[execOp,h5,h6,Sem.run_bind,r1,Result.andThen_ok,Sem.run_pure],rfl⟩
end
theorem lU (w:World):(zeroValue 47).run Tryz.prog w=.ok (ah 0) w:=by
 rw[← nD];exact dH I47 w
theorem pV:Tryz.prog.built 47 []=some (au 0):=by rw[← cm];kernel_rfl
theorem pW {G:Nat→Prop}{N:Nat}(l:List (Int×BS))(th:BS)(x:Int)(v:Value)(W:World)(hT:Tab W)(h:(Dv (mpE sKV N) G l).p v W)(hx:(Lit.int .i64 x).wf=true) :
  Calls Tryz.prog 31 #[v,ah th,I x] W (Post (E (ah (reB (lkS l) th x))) W):=by
 have hT0:=hT.lt
 refine enter (args:=[v,ah th,I x]) (As:=[Dv (mpE sKV N) (GB W G0) l,E (ah th),E (I x)]) Tryz.func31 rfl Tryz.ntmps31 (Nat.le_of_ble_eq_true rfl) ?_ (fun a hf=>?_) (Nat.le_of_ble_eq_true rfl)
 rotate_left
 dsimp only[params,Nat.reduceAdd] at hf
 rotate_right
 ·exact eH (Dv.toB (Dv.weak h fun b _ hb=>hb.elim)) rfl rfl
 have e:=Ext.rfl' W
 refine seq ?_
 refine aj ?_
 refine aJ hf rfl (by decide) fun a b4 w v4 hv4 e' hb4 hs4 B4 hf=>?_
 have hle4:=Nat.le_trans e.size (Nat.le_of_eq hb4.symm)
 replace hT:=hT.ext e'
 replace e:=e.tr e'
 clear e'
 refine aC I47 hf (by decide) fun a b6 w e' hb6 hs6 B6 hf=>?_
 have hle6:=Nat.le_trans e.size (Nat.le_of_eq hb6.symm)
 have lt6_B4:=B4.lt
 replace hT:=hT.ext e'
 replace e:=e.tr e'
 replace B4:=B4.ext e'
 refine aa ?_
 cases hv4
 replace B4:Blk w b4 (au th) 47:=B4
 simp only[Value.cells,cm] at B6
 replace hf:=hf.kp [0,2,4,6]
 refine seq ?_
 refine ac 4 hf (by decide +kernel) ?_
 refine st (mv rfl) ?_
 refine st (mv rfl) ?_
 refine st (lkM (l:=l) (i:=x) U75 lU (isR rfl) rfl hx) ?_
 refine st (bG [] rfl pV) ?_
 refine en fun a w e' hf=>?_
 replace hT:=hT.ext e'
 replace e:=e.tr e'
 replace B4:=B4.ext e'
 replace B6:=B6.ext e'
 clear e'
 refine aC I47 hf (by decide) fun a b7 w e' hb7 hs7 B7 hf=>?_
 have hle7:=Nat.le_trans e.size (Nat.le_of_eq hb7.symm)
 have lt7_B4:=B4.lt
 have lt7_B6:=B6.lt
 replace hT:=hT.ext e'
 replace e:=e.tr e'
 replace B4:=B4.ext e'
 replace B6:=B6.ext e'
 clear e'
 refine aC I47 hf (by decide) fun a b8 w e' hb8 hs8 B8 hf=>?_
 have hle8:=Nat.le_trans e.size (Nat.le_of_eq hb8.symm)
 have lt8_B4:=B4.lt
 have lt8_B6:=B6.lt
 have lt8_B7:=B7.lt
 replace hT:=hT.ext e'
 replace e:=e.tr e'
 replace B4:=B4.ext e'
 replace B6:=B6.ext e'
 replace B7:=B7.ext e'
 clear e'
 haveI i6:∀G0,InR (GB W G0) (some b6):=fun G0=>InR.gb (by omega)
 haveI i7:∀G0,InR (GB W G0) (some b7):=fun G0=>InR.gb (by omega)
 haveI i8:∀G0,InR (GB W G0) (some b8):=fun G0=>InR.gb (by omega)
 refine aF T47 hf rfl rfl (aU _) B7 rfl (bh _) fun w hg hsz B7 hf=>?_
 replace e:=e.gr hg (by omega);replace hT:=hT.gr hg (by omega);replace B4:=B4.gr hg (by omega);replace B6:=B6.gr hg (by omega);replace B8:=B8.gr hg (by omega);clear hg
 refine aF T47 hf rfl rfl (aU _) B8 rfl (bh _) fun w hg hsz B8 hf=>?_
 replace e:=e.gr hg (by omega);replace hT:=hT.gr hg (by omega);replace B4:=B4.gr hg (by omega);replace B6:=B6.gr hg (by omega);replace B7:=B7.gr hg (by omega);clear hg
 refine aa ?_
 replace hf:=hf.kp [0,2,4,6,7,8]
 have n4:b4≠b6∧b4≠b7∧b4≠b8∧b6≠b7∧b6≠b8∧b7≠b8:=by omega
 have h78:W.heap.size≤b7∧W.heap.size≤b8∧W.heap.size≤b6:=by omega
 have hc0:card (0:BS)=0:=eh
 obtain⟨K,hK⟩:∃K:Nat,K=1024:=⟨_,rfl⟩
 have hre:reB (lkS l) th x=del (reF (lkS l) th K (lkS l x) 0 &&& ~~~th) x:=by rw[hK,reB]
 refine blk (aW (fun r0 a w=>∃(s d:BS),K≤r0+card d∧reF (lkS l) th r0 s d=reF (lkS l) th K (lkS l x) 0∧Fr 39 a w [(0,Dv (mpE sKV N) (GB W G0) l),(2,E (I x)),(4,E (.pointer (some ⟨b4,0,none⟩))),(6,E (.pointer (some ⟨b6,0,none⟩))),(7,E (.pointer (some ⟨b7,0,none⟩))),(8,E (.pointer (some ⟨b8,0,none⟩)))]∧Ext W w∧Tab w∧Blk w b4 (au th) 47∧Blk w b6 (au 0) 47∧Blk w b7 (au s) 47∧Blk w b8 (au d) 47) K ⟨lkS l x,0,Nat.le_add_right _ _,rfl,hf,e,hT,B4,B6,B7,B8⟩ ?_)
 clear hf e hT B4 B6 B7 B8
 rintro r0 a w ⟨s,d,hr0,hR,hf,e,hT,B4,B6,B7,B8⟩
 refine blk ?_
 have e0:=e
 replace hf:=hf.kp [0,2,4,6,7,8]
 cases hq:bd (s &&& th &&& ~~~d) with
 | none=>
  refine seq ?_
  refine reg 11 Mix.mix hf (by decide +kernel) ?_
  refine st ((ldW T47 rfl B7 rfl).eq ((rfl:_=ah s))) ?_
  refine st ((ldW T47 rfl B4 rfl).eq ((rfl:_=ah th))) ?_
  refine st (aD (A:=E (ah (s &&& th))) eB rfl rfl (fun v u w he h h'=>by cases h;cases h';exact eJ s th w)) ?_
  refine st ((ldW T47 rfl B8 rfl).eq ((rfl:_=ah d))) ?_
  refine st (aD (A:=E (ah (s &&& th &&& ~~~d))) dC rfl rfl (fun v u w he h h'=>by cases h;cases h';exact dK (s &&& th) d w)) ?_
  refine st (aw (A:=gB (s &&& th &&& ~~~d)) fL rfl (fun v w he h=>by cases h;exact fP _ w (hT.ext he))) ?_
  refine st (mv rfl) ?_
  refine st (aY rfl rfl) ?_
  refine st (aY rfl rfl) ?_
  refine st (asg rfl) ?_
  refine st (asg rfl) ?_
  refine en fun a w e' hf=>?_
  replace hT:=hT.ext e'
  replace e:=e.tr e'
  replace B4:=B4.ext e'
  replace B6:=B6.ext e'
  replace B7:=B7.ext e'
  replace B8:=B8.ext e'
  refine aa ?_
  rw[hq] at hf
  replace hf:=hf.kp [0,2,4,6,7,8,9,10]
  repeat refine seq ?_
  refine ac 2 hf (by decide +kernel) ?_
  refine st (mv rfl) ?_
  refine st ((bj rfl).eq (congrArg Value.bool (show (!(none:Option Nat).isSome)=true from rfl))) ?_
  refine en fun a w e' hf=>?_
  replace hT:=hT.ext e'
  replace e:=e.tr e'
  replace B4:=B4.ext e'
  replace B6:=B6.ext e'
  replace B7:=B7.ext e'
  replace B8:=B8.ext e'
  refine aa ?_
  refine ifc hf rfl (fun _=>?_) (fun h=>by cases h)
  refine seq ?_
  refine ac 5 hf (by decide +kernel) ?_
  refine st ((ldW T47 rfl B7 rfl).eq ((rfl:_=ah s))) ?_
  refine st ((ldW T47 rfl B4 rfl).eq ((rfl:_=ah th))) ?_
  refine st (aD (A:=E (ah (s &&& ~~~th))) dC rfl rfl (fun v u w he h h'=>by cases h;cases h';exact dK s th w)) ?_
  refine st (mv rfl) ?_
  refine st (aD (A:=E (ah (del (s &&& ~~~th) x))) gl rfl rfl (fun v u w he h h'=>by cases h;cases h';exact gq (s &&& ~~~th) x w)) ?_
  refine en fun a w e' hf=>?_
  replace hT:=hT.ext e'
  replace e:=e.tr e'
  replace B4:=B4.ext e'
  replace B6:=B6.ext e'
  replace B7:=B7.ext e'
  replace B8:=B8.ext e'
  clear e'
  refine aF T47 hf rfl rfl (aU _) B6 rfl (bh _) fun w hg hsz B6 hf=>?_
  replace e:=e.gr hg (by omega);clear hg
  refine aa ?_
  refine an ?_
  simp only[Exit.then,Exit.inBlock]
  refine dc rfl T47 hf rfl B6 (bh _) ?_
  exact⟨_,rfl,e,by rw[hre,← hR,pT hq];rfl⟩
 | some k=>
  have hkb:=eQ hq
  have hk:k<1024:=aG hkb
  have hkd:¬d.getLsbD k=true:=fun h=>by
   rw[BitVec.getLsbD_and,BitVec.getLsbD_not,h] at hkb
   simp at hkb
  have hlt:card d<card (ins d (k:Int)):=fq (z:=k) (fun i hi=>(aL d hk).2 (.inl hi)) ((aL d hk).2 (.inr rfl)) hkd
  have hle:card (ins d (k:Int))≤K:=by rw[hK];exact ek fun i hi=>aG hi
  obtain⟨f,rfl⟩:∃f,r0=f+1:=⟨r0 - 1,by omega⟩
  have hst:=pU (nb:=lkS l) hq f
  rw[hst] at hR
  have hwk:(Lit.int .i64 (k:Int)).wf=true:=bH (by omega) (by omega)
  refine seq ?_
  refine reg 11 Mix.mix hf (by decide +kernel) ?_
  refine st ((ldW T47 rfl B7 rfl).eq ((rfl:_=ah s))) ?_
  refine st ((ldW T47 rfl B4 rfl).eq ((rfl:_=ah th))) ?_
  refine st (aD (A:=E (ah (s &&& th))) eB rfl rfl (fun v u w he h h'=>by cases h;cases h';exact eJ s th w)) ?_
  refine st ((ldW T47 rfl B8 rfl).eq ((rfl:_=ah d))) ?_
  refine st (aD (A:=E (ah (s &&& th &&& ~~~d))) dC rfl rfl (fun v u w he h h'=>by cases h;cases h';exact dK (s &&& th) d w)) ?_
  refine st (aw (A:=gB (s &&& th &&& ~~~d)) fL rfl (fun v w he h=>by cases h;exact fP _ w (hT.ext he))) ?_
  refine st (mv rfl) ?_
  refine st (aY rfl rfl) ?_
  refine st (aY rfl rfl) ?_
  refine st (asg rfl) ?_
  refine st (asg rfl) ?_
  refine en fun a w e' hf=>?_
  replace hT:=hT.ext e'
  replace e:=e.tr e'
  replace B4:=B4.ext e'
  replace B6:=B6.ext e'
  replace B7:=B7.ext e'
  replace B8:=B8.ext e'
  refine aa ?_
  rw[hq] at hf
  replace hf:=hf.upd 9 rfl (B:=E (I (k:Int))) (fun v h=>h)
  replace hf:=hf.kp [0,2,4,6,7,8,9,10]
  repeat refine seq ?_
  refine ac 2 hf (by decide +kernel) ?_
  refine st (mv rfl) ?_
  refine st ((bj rfl).eq (congrArg Value.bool (show (!(some k).isSome)=false from rfl))) ?_
  refine en fun a w e' hf=>?_
  replace hT:=hT.ext e'
  replace e:=e.tr e'
  replace B4:=B4.ext e'
  replace B6:=B6.ext e'
  replace B7:=B7.ext e'
  replace B8:=B8.ext e'
  refine aa ?_
  refine ifc hf rfl (fun h=>by cases h) (fun _=>?_)
  refine ar ?_
  simp only[Exit.then,Exit.inBlock,↓reduceIte]
  replace hf:=hf.kp [0,2,4,6,7,8,9]
  refine seq ?_
  refine ac 3 hf (by decide +kernel) ?_
  refine st ((ldW T47 rfl B8 rfl).eq ((rfl:_=ah d))) ?_
  refine st (mv rfl) ?_
  refine st (aD (A:=E (ah (ins d (k:Int)))) de rfl rfl (fun v u w he h h'=>by cases h;cases h';exact di d (k:Int) w)) ?_
  refine en fun a w e' hf=>?_
  replace hT:=hT.ext e'
  replace e:=e.tr e'
  replace B4:=B4.ext e'
  replace B6:=B6.ext e'
  replace B7:=B7.ext e'
  replace B8:=B8.ext e'
  clear e'
  refine aF T47 hf rfl rfl (aU _) B8 rfl (bh _) fun w hg hsz B8 hf=>?_
  replace e:=e.gr hg (by omega);replace hT:=hT.gr hg (by omega);replace B4:=B4.gr hg (by omega);replace B6:=B6.gr hg (by omega);replace B7:=B7.gr hg (by omega);clear hg
  refine aa ?_
  replace hf:=hf.kp [0,2,4,6,7,8,9]
  refine ac 5 hf (by decide +kernel) ?_
  refine st ((ldW T47 rfl B7 rfl).eq ((rfl:_=ah s))) ?_
  refine st (mv rfl) ?_
  refine st (mv rfl) ?_
  refine st (lkM (l:=l) (i:=(k:Int)) U75 lU (isR rfl) rfl hwk) ?_
  refine st (aD (A:=E (ah (s ||| lkS l (k:Int)))) jg rfl rfl (fun v u w he h h'=>by cases h;cases h';exact jn s _ w)) ?_
  refine en fun a w e' hf=>?_
  replace hT:=hT.ext e'
  replace e:=e.tr e'
  replace B4:=B4.ext e'
  replace B6:=B6.ext e'
  replace B7:=B7.ext e'
  replace B8:=B8.ext e'
  clear e'
  refine aF T47 hf rfl rfl (aU _) B7 rfl (bh _) fun w hg hsz B7 hf=>?_
  replace e:=e.gr hg (by omega);replace hT:=hT.gr hg (by omega);replace B4:=B4.gr hg (by omega);replace B6:=B6.gr hg (by omega);replace B8:=B8.gr hg (by omega);clear hg
  refine aa ?_
  replace hf:=hf.kp [0,2,4,6,7,8]
  simp only[Exit.then,Exit.inBlock,↓reduceIte]
  exact⟨f,by omega,s ||| lkS l (k:Int),ins d (k:Int),by omega,hR,hf,e,hT,B4,B6,B7,B8⟩
end Go.Mono
namespace Go.Mono
open Go Go.Proofs Go.RowKit
inductive Via (nb:Int→BS)(th:BS)(v:Nat):Nat→Prop
 | one {u:Nat}:(nb (v:Int)).getLsbD u=true→Via nb th v u
 | step {t u:Nat}:Via nb th v t→th.getLsbD t=true→(nb (t:Int)).getLsbD u=true→Via nb th v u
section
variable {nb:Int→BS}{S T th:BS}{a b t u v x:Nat}
theorem xR:∀(f:Nat) (s d:BS),1024≤f+card d→(∀u,s.getLsbD u=true→Via nb th v u)→(∀u,(nb (v:Int)).getLsbD u=true→s.getLsbD u=true) →
  (∀t,d.getLsbD t=true→∀u,(nb (t:Int)).getLsbD u=true→s.getLsbD u=true)→∀u,(reF nb th f s d).getLsbD u=true↔Via nb th v u:=by
 intro f
 induction f with
 | zero=>
  intro s d hc h1 h2 h3 u
  have hall:∀t,t<1024→d.getLsbD t=true:=fun t ht=>Classical.byContradiction fun hn=>by
   have h4:=fq (S:=d) (T:=ins d (t:Int)) (z:=t) (fun i hi=>(aL d ht).2 (.inl hi)) ((aL d ht).2 (.inr rfl)) hn
   have h5:card (ins d (t:Int))≤1024:=ek fun i hi=>aG hi
   omega
  refine⟨h1 u,fun h=>?_⟩
  induction h with
  | one h=>exact h2 _ h
  | step _ ht hu ih=>exact h3 _ (hall _ (aG ht)) _ hu
 | succ f ih=>
  intro s d hc h1 h2 h3 u
  cases hq:bd (s &&& th &&& ~~~d) with
  | none=>
   rw[pT hq]
   refine⟨h1 u,fun h=>?_⟩
   induction h with
   | one h=>exact h2 _ h
   | @step t u _ ht hu ih=>
    have hz:=fO.1 hq
    have hd:d.getLsbD t=true:=Classical.byContradiction fun hn=>by
     have h5:(s &&& th &&& ~~~d).getLsbD t=true:=(aP _ _ _).2 ⟨(bZ _ _ _).2 ⟨ih,ht⟩,hn⟩
     rw[hz] at h5;exact aN _ h5
    exact h3 _ hd _ hu
  | some k=>
   have hkb:=(aP _ _ _).1 (eQ hq)
   have hst:=(bZ _ _ _).1 hkb.1
   have hk:=aG hst.1
   rw[pU hq]
   refine ih _ _ ?_ ?_ ?_ ?_ u
   ·have:=fq (S:=d) (T:=ins d (k:Int)) (z:=k) (fun i hi=>(aL d hk).2 (.inl hi)) ((aL d hk).2 (.inr rfl)) hkb.2
    omega
   ·intro u hu
    rcases (fp _ _ _).1 hu with h|h
    ·exact h1 u h
    ·exact .step (h1 k hst.1) hst.2 h
   ·exact fun u hu=>(fp _ _ _).2 (.inl (h2 u hu))
   ·intro t ht u hu
    rcases (aL d hk).1 ht with h|rfl
    ·exact (fp _ _ _).2 (.inl (h3 t h u hu))
    ·exact (fp _ _ _).2 (.inr hu)
theorem gI (hv:v<1024):(reB nb th (v:Int)).getLsbD u=true↔Via nb th v u∧¬th.getLsbD u=true∧u≠v:=by
 rw[reB,bT _ hv,aP,xR 1024 (nb v) 0 (Nat.le_add_right _ _) (fun u h=>.one h) (fun u h=>h) (fun t h=>absurd h (aN t))]
 exact and_assoc
theorem Via.mono (h:Via nb S a b)(hs:∀i,S.getLsbD i=true→T.getLsbD i=true):Via nb T a b:=by
 induction h with
 | one h=>exact .one h
 | step _ ht hu ih=>exact .step ih (hs _ ht) hu
theorem Via.cat (h:Via nb S a t)(ht:S.getLsbD t=true)(k:Via nb S t b):Via nb S a b:=by
 induction k with
 | one k=>exact .step h ht k
 | step _ h1 h2 ih=>exact .step ih h1 h2
theorem Via.symm (hs:∀i j:Nat,(nb (i:Int)).getLsbD j=true→(nb (j:Int)).getLsbD i=true)(h:Via nb S a b):Via nb S b a:=by
 induction h with
 | one h=>exact .one (hs _ _ h)
 | step _ ht hu ih=>exact Via.cat (.one (hs _ _ hu)) ht ih
theorem Via.ins (hx:x<1024):Via nb (Mono.ins S (x:Int)) a b↔Via nb S a b∨(Via nb S a x∧Via nb S x b):=by
 constructor
 ·intro h
  induction h with
  | one h=>exact .inl (.one h)
  | @step t u _ ht hu ih=>
   rcases (aL S hx).1 ht with hS|rfl
   ·rcases ih with h|⟨h1,h2⟩
    ·exact .inl (.step h hS hu)
    ·exact .inr ⟨h1,.step h2 hS hu⟩
   ·rcases ih with h|⟨h1,_⟩
    ·exact .inr ⟨h,.one hu⟩
    ·exact .inr ⟨h1,.one hu⟩
 ·have hm:∀i,S.getLsbD i=true→(Mono.ins S (x:Int)).getLsbD i=true:=fun i hi=>(aL S hx).2 (.inl hi)
  rintro (h|⟨h1,h2⟩)
  ·exact h.mono hm
  ·exact (h1.mono hm).cat ((aL S hx).2 (.inr rfl)) (h2.mono hm)
theorem Via.inn {V:BS}(hV:∀i j:Nat,(nb (i:Int)).getLsbD j=true→V.getLsbD j=true)(h:Via nb S a b):V.getLsbD b=true:=by
 cases h with
 | one h=>exact hV _ _ h
 | step _ _ hu=>exact hV _ _ hu
end
def rn (nb:Int→BS)(S:BS)(v:Nat):Int:=(card (reB nb S (v:Int)):Nat)
def cw (nb:Int→BS):BS→List Nat→Int
 | _,[] => -1
 | S,v::r=>max (rn nb S v) (cw nb (ins S (v:Int)) r)
def rsS (nb:Int→BS)(R:BS→Int)(S:BS)(best:Int)(v:Nat):Int:=if rn nb S v<best then min best (max (rn nb S v) (R (ins S (v:Int)))) else best
def rsF (nb:Int→BS)(all:BS):Nat→BS→Int
 | 0,_ => -1
 | f+1,S=>(elems (all &&& ~~~S)).foldl (rsS nb (rsF nb all f) S) 12
def rsR (nb:Int→BS)(all S:BS):Int:=rsF nb all (card (all &&& ~~~S)) S
section
variable {nb:Int→BS}{all S:BS}{v:Nat}
theorem gJ (hv:v<1024)(i:Nat):(all &&& ~~~(ins S (v:Int))).getLsbD i=true↔(all &&& ~~~S).getLsbD i=true∧i≠v:=by
 rw[aP,aP,aL S hv]
 exact⟨fun⟨h1,h2⟩=>⟨⟨h1,fun h=>h2 (.inl h)⟩,fun h=>h2 (.inr h)⟩,fun⟨⟨h1,h2⟩,h3⟩=>⟨h1,fun h=>h.elim h2 h3⟩⟩
theorem ft (hv:(all &&& ~~~S).getLsbD v=true):card (all &&& ~~~S)=card (all &&& ~~~(ins S (v:Int)))+1:=by
 have hv':=aG hv
 have h1:card (ins (0:BS) (v:Int))=1:=fV (p:=v) fun i=>by
  rw[aL 0 hv'];exact⟨fun h=>h.elim (fun h=>absurd h (aN i)) id,.inr⟩
 rw[iH (S:=all &&& ~~~(ins S (v:Int))) (T:=ins 0 (v:Int)) (U:=all &&& ~~~S),h1]
 ·intro i
  rw[gJ hv',aL 0 hv']
  constructor
  ·intro h
   by_cases hi:i=v
   ·exact .inr (.inr hi)
   ·exact .inl ⟨h,hi⟩
  ·rintro (h|h|rfl)
   ·exact h.1
   ·exact absurd h (aN i)
   ·exact hv
 ·rintro i ⟨h1,h2⟩
  rw[gJ hv'] at h1
  rw[aL 0 hv'] at h2
  rcases h2 with h|h
  ·exact aN i h
  ·exact h1.2 h
theorem pX {α β:Type}{f g:β→α→β}:∀{l:List α} {z:β},(∀a∈l,∀b,f b a=g b a)→l.foldl f z=l.foldl g z
 | [],_,_=>rfl
 | a::l,z,h=>by rw[List.foldl_cons,List.foldl_cons,h a (by simp),pX fun a ha=>h a (by simp[ha])]
theorem iI (hv:(all &&& ~~~S).getLsbD v=true):rsR nb all S=(elems (all &&& ~~~S)).foldl (rsS nb (rsR nb all) S) 12:=by
 unfold rsR
 rw[ft hv,rsF]
 refine pX fun a ha b=>?_
 have ha:=(aK.1 ha).2
 have h1:=ft hv
 have h2:=ft ha
 unfold rsS
 rw[show card (all &&& ~~~(ins S (v:Int)))=card (all &&& ~~~(ins S (a:Int))) by omega]
theorem jB (h:∀i,¬(all &&& ~~~S).getLsbD i=true):rsR nb all S = -1:=by
 have:card (all &&& ~~~S)=0:=Classical.byContradiction fun hn=>by
  have:=eh
  have h0:(all &&& ~~~S)=0:=bI fun k=>⟨fun hk=>absurd hk (h k),fun hk=>absurd hk (aN k)⟩
  rw[h0] at hn;exact hn this
 rw[rsR,this];rfl
theorem xS {R:BS→Int}{b:Int}:rsS nb R S b v≤b∧rsS nb R S b v≤max (rn nb S v) (R (ins S (v:Int))):=by
 unfold rsS;split <;> omega
theorem xT {R:BS→Int}{b:Int}:rsS nb R S b v=b∨rsS nb R S b v=max (rn nb S v) (R (ins S (v:Int))):=by
 unfold rsS;split <;> omega
theorem lV {R:BS→Int}:∀(l:List Nat) (b:Int),l.foldl (rsS nb R S) b≤b∧∀v∈l,l.foldl (rsS nb R S) b≤max (rn nb S v) (R (ins S (v:Int)))
 | [],b=>⟨Int.le_refl _,fun v hv=>by cases hv⟩
 | x::l,b=>by
  obtain⟨h1,h2⟩:=lV (R:=R) l (rsS nb R S b x)
  have h3:=xS (nb:=nb) (S:=S) (v:=x) (R:=R) (b:=b)
  rw[List.foldl_cons]
  refine⟨by omega,fun v hv=>?_⟩
  rcases List.mem_cons.1 hv with rfl|hv
  ·omega
  ·exact h2 v hv
theorem lW {R:BS→Int}:∀(l:List Nat) (b:Int),l.foldl (rsS nb R S) b=b∨∃v∈l,l.foldl (rsS nb R S) b=max (rn nb S v) (R (ins S (v:Int)))
 | [],b=>.inl rfl
 | x::l,b=>by
  rw[List.foldl_cons]
  rcases lW (R:=R) l (rsS nb R S b x) with h|⟨v,hv,h⟩
  ·rw[h]
   rcases xT (nb:=nb) (S:=S) (v:=x) (R:=R) (b:=b) with h'|h'
   ·exact .inl h'
   ·exact .inr ⟨x,by simp,h'⟩
  ·exact .inr ⟨v,by simp[hv],h⟩
theorem pY (hv:(all &&& ~~~S).getLsbD v=true):rsR nb all S≤max (rn nb S v) (rsR nb all (ins S (v:Int))):=by
 rw[iI hv]
 exact (lV _ _).2 v (aK.2 ⟨aG hv,hv⟩)
theorem iJ (S:BS) : -1≤rsR nb all S∧rsR nb all S≤12:=by
 by_cases hex:∃v,(all &&& ~~~S).getLsbD v=true
 ·obtain⟨v,hv⟩:=hex
  rw[iI hv]
  have h1:=(lV (nb:=nb) (S:=S) (R:=rsR nb all) (elems (all &&& ~~~S)) 12).1
  rcases lW (nb:=nb) (S:=S) (R:=rsR nb all) (elems (all &&& ~~~S)) 12 with h|⟨u,_,h⟩
  ·omega
  ·have:0≤rn nb S u:=by unfold rn;omega
   omega
 ·rw[jB fun i hi=>hex ⟨i,hi⟩];omega
def Sml (nb:Int→BS)(all:BS):Prop:=∀(S:BS) (v:Nat),all.getLsbD v=true→rn nb S v<12
theorem xU {V:BS}(hV:∀i j:Nat,(nb (i:Int)).getLsbD j=true→V.getLsbD j=true)(hc:card V≤12)(ha:∀i,all.getLsbD i=true→V.getLsbD i=true):Sml nb all:=fun S v hv=>by
 have hv':=aG hv
 have h1:card (reB nb S (v:Int))<card V:=fq (z:=v) (fun i hi=>((gI hv').1 hi).1.inn hV) (ha v hv) fun h=>((gI hv').1 h).2.2 rfl
 unfold rn;omega
theorem xV (hs:Sml nb all):∀(n:Nat) (S:BS),card (all &&& ~~~S)=n→rsR nb all S<12 ∧ -1≤rsR nb all S∧∀v,(all &&& ~~~S).getLsbD v=true→∃v,(all &&& ~~~S).getLsbD v=true∧rsR nb all S=max (rn nb S v) (rsR nb all (ins S (v:Int))):=by
 intro n
 induction n with
 | zero=>
  intro S hc
  have hno:∀i,¬(all &&& ~~~S).getLsbD i=true:=fun i hi=>by have:=el hi;omega
  rw[jB hno]
  exact⟨by omega,by omega,fun v hv=>absurd hv (hno v)⟩
 | succ n ih=>
  intro S hc
  have hex:∃v,(all &&& ~~~S).getLsbD v=true:=Classical.byContradiction fun hn=>by
   have h0:(all &&& ~~~S)=0:=bI fun k=>⟨fun hk=>absurd ⟨k,hk⟩ hn,fun hk=>absurd hk (aN k)⟩
   rw[h0,eh] at hc;cases hc
  obtain⟨v,hv⟩:=hex
  have lt:∀v,(all &&& ~~~S).getLsbD v=true→max (rn nb S v) (rsR nb all (ins S (v:Int)))<12:=fun v hv=>by
   have h1:=hs S v ((aP _ _ _).1 hv).1
   have h2:=(ih (ins S (v:Int)) (by have:=ft hv;omega)).1
   omega
  have hm:rsR nb all S<12:=by have:=pY (nb:=nb) hv;have:=lt v hv;omega
  have hw:∃v,(all &&& ~~~S).getLsbD v=true∧rsR nb all S=max (rn nb S v) (rsR nb all (ins S (v:Int))):=by
   rcases lW (nb:=nb) (S:=S) (R:=rsR nb all) (elems (all &&& ~~~S)) 12 with h|⟨u,hu,h⟩
   ·rw[← iI hv] at h;omega
   ·rw[← iI hv] at h;exact⟨u,(aK.1 hu).2,h⟩
  refine⟨hm,?_,fun _ _=>hw⟩
  obtain⟨u,_,h⟩:=hw
  have:0≤rn nb S u:=by unfold rn;omega
  omega
theorem jC:∀(l:List Nat) (S:BS),l.Nodup→(∀i,i∈l↔(all &&& ~~~S).getLsbD i=true)→rsR nb all S≤cw nb S l
 | [],S,_,h=>by rw[jB fun i hi=>by have:=(h i).2 hi;cases this];exact Int.le_refl _
 | v::r,S,hn,h=>by
  have hv:=(h v).1 (by simp)
  have hv':=aG hv
  obtain⟨h1,h2⟩:=List.nodup_cons.1 hn
  have h3:=jC r (ins S (v:Int)) h2 fun i=>by
   rw[gJ hv',← h i,List.mem_cons]
   constructor
   ·intro hi;exact⟨.inr hi,fun e=>h1 (e▸hi)⟩
   ·rintro⟨rfl|hi,hne⟩
    ·exact absurd rfl hne
    ·exact hi
  have h4:=pY (nb:=nb) hv
  rw[cw];omega
def nxt (nb:Int→BS)(all:BS)(W:Int)(S:BS):Option Nat:=(elems (all &&& ~~~S)).find? fun v=>decide (max (rn nb S v) (rsR nb all (ins S (v:Int)))≤W)
def oL (o:Option Nat)(g:Nat→List Nat):List Nat:=match o with
 | none=>[]
 | some k=>g k
def grF (nb:Int→BS)(all:BS)(W:Int):Nat→BS→List Nat
 | 0,_=>[]
 | f+1,S=>oL (nxt nb all W S) fun v=>v::grF nb all W f (ins S (v:Int))
theorem xW {W:Int}{f:Nat}(h:nxt nb all W S=none):grF nb all W (f+1) S=[]:=by
 show oL (nxt nb all W S) _=_
 rw[h];rfl
theorem lX {W:Int}{f v:Nat}(h:nxt nb all W S=some v):grF nb all W (f+1) S=v::grF nb all W f (ins S (v:Int)):=by
 show oL (nxt nb all W S) _=_
 rw[h];rfl
theorem lY {W:Int}{v:Nat}(h:nxt nb all W S=some v):(all &&& ~~~S).getLsbD v=true∧rn nb S v≤W∧rsR nb all (ins S (v:Int))≤W:=by
 have h1:=List.find?_some h
 have h2:=List.mem_of_find?_eq_some h
 simp only[decide_eq_true_eq] at h1
 exact⟨(aK.1 h2).2,by omega,by omega⟩
theorem pZ {W:Int}(hs:Sml nb all)(hW:rsR nb all S≤W){u:Nat}(hu:(all &&& ~~~S).getLsbD u=true):∃v,nxt nb all W S=some v:=by
 obtain⟨v,hv,h⟩:=(xV hs _ S rfl).2.2 u hu
 cases hq:nxt nb all W S with
 | some v=>exact⟨v,rfl⟩
 | none=>
  have:=List.find?_eq_none.1 hq v (aK.2 ⟨aG hv,hv⟩)
  simp only[decide_eq_true_eq] at this
  omega
theorem xX {W:Int}(hs:Sml nb all)(hW0 : -1≤W):∀(f:Nat) (S:BS),card (all &&& ~~~S)=f→rsR nb all S≤W →
  (grF nb all W f S).Nodup∧(∀i,i∈grF nb all W f S↔(all &&& ~~~S).getLsbD i=true)∧cw nb S (grF nb all W f S)≤W:=by
 intro f
 induction f with
 | zero=>
  intro S hc hW
  have hno:∀i,¬(all &&& ~~~S).getLsbD i=true:=fun i hi=>by have:=el hi;omega
  exact⟨List.nodup_nil,fun i=>⟨fun h=>(nomatch h),fun h=>absurd h (hno i)⟩,hW0⟩
 | succ f ih=>
  intro S hc hW
  have hex:∃v,(all &&& ~~~S).getLsbD v=true:=Classical.byContradiction fun hn=>by
   have h0:(all &&& ~~~S)=0:=bI fun k=>⟨fun hk=>absurd ⟨k,hk⟩ hn,fun hk=>absurd hk (aN k)⟩
   rw[h0,eh] at hc;cases hc
  obtain⟨u,hu⟩:=hex
  obtain⟨v,hv⟩:=pZ hs hW hu
  obtain⟨h1,h2,h3⟩:=lY hv
  have hv':=aG h1
  have hcd:=ft h1
  obtain⟨k1,k2,k3⟩:=ih (ins S (v:Int)) (by omega) h3
  rw[lX hv]
  refine⟨List.nodup_cons.2 ⟨fun h=>((gJ hv' v).1 ((k2 v).1 h)).2 rfl,k1⟩,fun i=>?_,?_⟩
  ·rw[List.mem_cons,k2 i,gJ hv']
   constructor
   ·rintro (rfl|h)
    ·exact h1
    ·exact h.1
   ·intro h
    by_cases hi:i=v
    ·exact .inl hi
    ·exact .inr ⟨h,hi⟩
  ·rw[cw];omega
end
end Go.Mono
namespace Go.Mono
open Go Go.RowKit
structure jD (S:World→World→Prop)(J:World→Prop):Prop where
 rel:ct S
 st:∀{w w'},Ext w w'→J w→J w'
def lZ (P:Program)(ops:Array Oper)(w0:World)(S:World→World→Prop)(J:World→Prop)(L:Env)(o:Oper)(A:VA):Prop:=
 ∀(a:Act) w,S w0 w→J w→(∀x∈o.op.operands,∀B,opd L x=some B→B.p (a.eval x) w)→(∀d B,bV ops o=some d→aI L d=some B→B.p (a.eval (.tmp d)) w) →
  if Region.wanted o (yielded ops a.tmps) then OpR P o a.eval w (fun v w'=>S w w'∧J w'∧A.p v w') else A.p undef w
structure qa (P:Program)(w0:World)(S:World→World→Prop)(J:World→Prop)(L:Env)(o:Oper)(A:VA):Prop where
 out:∀ρ w,S w0 w→J w→(∀x∈o.op.operands,∀B,opd L x=some B→B.p (ρ x) w)→OpR P o ρ w (fun v w'=>S w w'∧J w'∧A.p v w')
def fu (P:Program)(ops:Array Oper)(w0:World)(S:World→World→Prop)(J:World→Prop):List Oper→(Env→Prop)→Env→Prop
 | [],K,L=>K L
 | o::rest,K,L=>∃A,lZ P ops w0 S J L o A∧StJ S A∧fu P ops w0 S J rest K (push o.dst A L)
section
variable {P:Program}{ops:Array Oper}{Q:Exit→Act→World→Prop}{w0:World}{n:Nat}{ds:List Deferred}{r:Option Nat}
theorem qb {S:World→World→Prop}{J:World→Prop}{K:Env→Prop}:∀(M:List Oper) (k:Nat) (L:Env),(∀j,j<M.length→ops[k+j]?=M[j]?)→fu P ops w0 S J M K L →
  ∃As:Nat→VA,(∀j o,j<M.length→ops[k+j]?=some o→lZ P ops w0 S J (aV ops L As k j) o (As j)∧StJ S (As j))∧K (aV ops L As k M.length)
 | [],k,L,_,h=>⟨fun _=>Any,fun j o hj=>by simp at hj,h⟩
 | o::M,k,L,hM,⟨A,hA,hst,hr⟩=>by
  have h0:ops[k]?=some o:=by simpa using hM 0 (by simp)
  have hd:aS ops k=o.dst:=by simp[aS,h0]
  obtain⟨As,h1,h2⟩:=qb M (k+1) (push o.dst A L) (fun j hj=>by
   have:=hM (j+1) (by simpa using hj)
   rw[show k+1+j=k+(j+1) by omega]
   simpa using this) hr
  refine⟨dZ A As,?_,?_⟩
  ·intro j o' hj ho'
   cases j with
   | zero=>
    rw[Nat.add_zero,h0] at ho'
    obtain rfl:=Option.some.inj ho'
    exact⟨hA,hst⟩
   | succ j=>
    rw[ea,hd]
    exact h1 j o' (by simpa using hj) (by rw[show k+1+j=k+(j+1) by omega];exact ho')
  ·rw[List.length_cons,ea,hd]
   exact h2
structure xY (ops:Array Oper)(m n:Nat)(ds:List Deferred)(S:World→World→Prop)(J:World→Prop)(w0:World)(L:Env)(As:Nat→VA)(listed:Array Bool)(a:Act)(w:World):Prop where
 ext:S w0 w
 jw:J w
 size:a.tmps.size=n
 defers:a.defers=ds
 hL:∀t A,aI L t=some A→(∀j,j<m→aS ops j≠some t)→A.p (a.eval (.tmp t)) w
 hA:∀i,i<m→listed.getD i false=true→∀d,aS ops i=some d→(As i).p (a.eval (.tmp d)) w

theorem qd {S:World→World→Prop}{J:World→Prop}(hR:jD S J){m:Nat}{L:Env}{As:Nat→VA}(hm:m≤ops.size)(hchk:∀i,i<m→dN ops m n i=true)(hchk2:∀i,m≤i→i<ops.size→da ops i=true)
  (hops:∀j o,j<m→ops[j]?=some o→lZ P ops w0 S J (aV ops L As 0 j) o (As j)∧StJ S (As j)) (hLav:eN S L)
  (hend:∀a w,S w0 w→J w→FrD n ds a w (aV ops L As 0 m)→wpListIn (FW r) 0 P ops Q (ops.toList.drop m) a w) :
  ∀(c:Nat) (listed:Array Bool) (a:Act) (w:World),(List.range m).countP (fun i => !listed.getD i true)=c→listed.size=ops.size →
   (∀j,m≤j→j<ops.size→listed.getD j true=false)→LD ops listed→xY ops m n ds S J w0 L As listed a w→wpAnyIn (FW r) 0 P .any ops Q (c+(ops.size - m)) listed a w
 | 0,listed,a,w,hc,hsz,hun,hld,hi=>by
  have hall:∀j,j<m→listed.getD j false=true:=by
   intro j hj
   have:=(List.countP_eq_zero.1 hc) j (List.mem_range.2 hj)
   have hjl:j<listed.size:=by omega
   simpa[hjl] using this
  rw[Nat.zero_add]
  refine hZ m hchk2 (ops.size - m) m (by omega) (Nat.le_refl _) listed a w hall hun hsz hld (hend a w hi.ext hi.jw ⟨hi.size,hi.defers,fun t A ht=>?_⟩)
  rcases dO L As t A m ht with ⟨j,hj,hd,rfl⟩|⟨hn,hl⟩
  ·exact hi.hA j hj (hall j hj) t hd
  ·exact hi.hL t A hl hn
 | c+1,listed,a,w,hc,hsz,hun,hld,hi=>by
  have facts:∀i o,i<m→ops[i]?=some o→(∀e∈o.after,Region.binds .any e=true→e.on<i)∧(∀d,o.dst=some d→d<n) ∧
    (∀t,t∈cU o∨bV ops o=some t→∀j,j<m→aS ops j=some t→bnd ops i j=true)∧(∀j,j<m→j≠i→∀d,o.dst=some d→aS ops j≠some d):=by
   intro i o hlt ho
   have:=hchk i hlt
   simp only[dN,ho,Bool.and_eq_true,Array.all_eq_true_iff_forall_mem,Bool.or_eq_true,Bool.not_eq_true',List.all_eq_true,List.mem_range,List.mem_append,Option.mem_toList] at this
   obtain⟨⟨⟨h1,h2⟩,h3⟩,h4⟩:=this
   refine⟨fun e he hb=>?_,fun d hd=>?_,fun t ht j hj hd=>?_,fun j hj hne d hd hd'=>?_⟩
   ·rcases h1 e he with h|h
    ·rw[hb] at h;cases h
    ·simpa[Nat.blt_eq] using h
   ·simpa[hd,Nat.blt_eq] using h2
   ·have:=h3 t ht j hj
    rcases this with h|h
    ·rw[hd] at h;simp at h
    ·exact h
   ·have:=h4 j hj
    rcases this with h|h
    ·exact hne (Nat.eq_of_beq_eq_true h)
    ·rw[hd,hd'] at h;simp at h
  have prog:∃i,i<m∧listed.getD i true=false∧∀j,j<i→listed.getD j true=true:=by
   have hex:∃i,i<m∧listed.getD i true=false:=by
    have hpos:0<(List.range m).countP (fun i => !listed.getD i true):=by omega
    obtain⟨i,hi,hb⟩:=List.countP_pos_iff.1 hpos
    exact⟨i,List.mem_range.1 hi,by simpa using hb⟩
   obtain⟨i,hlt,hb⟩:=hex
   induction i using Nat.strongRecOn with
   | _ i ih=>
    by_cases h:∃j,j<i∧listed.getD j true=false
    ·obtain⟨j,hj,hjb⟩:=h
     exact ih j hj (by omega) hjb
    ·refine⟨i,hlt,hb,fun j hj=>?_⟩
     cases hjb:listed.getD j true with
     | true=>rfl
     | false=>exact absurd ⟨j,hj,hjb⟩ h
  obtain⟨i0,hi0,hu0,hbelow⟩:=prog
  have hready:i0∈Region.ready .any ops listed:=by
   have ho:ops[i0]?=some (ops[i0]'(by omega)):=by simp
   refine mem_ready.2 ⟨hu0,_,ho,fun e he hb=>?_⟩
   have hlt:=(facts i0 _ hi0 ho).1 e he hb
   have:=hbelow _ hlt
   have hjl:e.on<listed.size:=by omega
   simpa[hjl] using this
  rw[show c+1+(ops.size - m)=(c+(ops.size - m))+1 by omega]
  refine⟨fun h0=>(by rw[h0] at hready;cases hready),fun i hir=>?_⟩
  obtain⟨hu,o,ho,hall⟩:=mem_ready.1 hir
  have hilt:i<ops.size:=(Array.getElem?_eq_some_iff.1 ho).1
  have listed_of_bnd:∀j,bnd ops i j=true→listed.getD j false=true:=by
   intro j hb
   simp only[bnd,ho] at hb
   obtain⟨e,he,hb⟩:=Array.any_eq_true'.1 hb
   simp only[Bool.and_eq_true] at hb
   have:=hall e he hb.1
   rwa [Nat.eq_of_beq_eq_true hb.2] at this
  have him:i<m:=by
   rcases Nat.lt_or_ge i m with h|h
   ·exact h
   ·have hc:=hchk2 i h hilt
    simp only[da,ho,Bool.and_eq_true,List.all_eq_true,List.mem_range] at hc
    have:=cov hld 12 i i0 (hc.2 i0 (by omega)) (fun o' ho' e he hb=>by
     rw[ho] at ho'
     obtain rfl:=Option.some.inj ho'
     exact hall e he hb)
    rw[ez hu0] at this
    cases this
  obtain⟨f1,f2,f3,f4⟩:=facts i o him ho
  have byLook:∀t,(t∈cU o∨bV ops o=some t)→∀B,aI (aV ops L As 0 i) t=some B→B.p (a.eval (.tmp t)) w:=by
   intro t ht B hB
   rcases dO L As t B i hB with ⟨j,hj,hd,rfl⟩|⟨hn,hl⟩
   ·exact hi.hA j (by omega) (listed_of_bnd j (f3 t ht j (by omega) hd)) t hd
   ·refine hi.hL t B hl fun j hj hd=>?_
    have hb:=f3 t ht j hj hd
    simp only[bnd,ho] at hb
    obtain⟨e,he,hb⟩:=Array.any_eq_true'.1 hb
    simp only[Bool.and_eq_true] at hb
    have hlt:=f1 e he hb.1
    rw[Nat.eq_of_beq_eq_true hb.2] at hlt
    exact hn j hlt hd
  have hg:=(hops i o him ho).1 a w hi.ext hi.jw (fun x hx B hB=>by
   cases x with
   | tmp t=>exact byLook t (.inl (List.mem_filterMap.2 ⟨.tmp t,by simpa using hx,rfl⟩)) B hB
   | const v=>simp[opd] at hB;subst hB;rfl
   | global g=>simp[opd] at hB;subst hB;rfl
   | func f=>simp[opd] at hB;subst hB;rfl) (fun d B hd hB=>byLook d (.inr hd) B hB)
  have hdst:aS ops i=o.dst:=by simp[aS,ho]
  have step:∀v w',S w w'→J w'→(As i).p v w'→wpAnyIn (FW r) 0 P .any ops Q (c+(ops.size - m)) (listed.setIfInBounds i true) (a.put o.dst v) w':=by
   intro v w' hx hj' hv
   refine qd hR hm hchk hchk2 hops hLav hend c _ _ _ ?_ (by simpa using hsz) ?_ ?_ ?_
   ·have:=iU m (fun j => !listed.getD j true) (fun j => !(listed.setIfInBounds i true).getD j true) i him (by simp only[hu,Bool.not_false])
     (by
       have hjl:i<listed.size:=by omega
       simp[hjl]) (fun j hj=>by simp only[getD_set_ne true (Ne.symm hj)])
    omega
   ·intro j hj hj'
    rw[getD_set_ne true (by omega)]
    exact hun j hj hj'
   ·exact hld.set fun o' ho' e he hb=>by
     rw[ho] at ho'
     obtain rfl:=Option.some.inj ho'
     exact hall e he hb
   ·refine⟨hR.rel.tr hi.ext hx,hj',by simp[hi.size],by simp[hi.defers],fun t A ht hn=>?_,fun j hj hl d hd=>?_⟩
    ·have h0:=hLav.av t A ht _ _ _ hx (hi.hL t A ht hn)
     cases hod:o.dst with
     | none=>exact h0
     | some d=>
      have:d≠t:=fun e=>hn i him (by rw[hdst,hod,e])
      rw[ev this]
      exact h0
    ·by_cases hji:j=i
     ·subst hji
      rw[hdst] at hd
      rw[hd,hY (by rw[hi.size];exact f2 d hd)]
      exact hv
     ·have hl':listed.getD j false=true:=by rwa [getD_set_ne false (Ne.symm hji)] at hl
      have h0:=(hops j (ops[j]'(by omega)) hj (by simp)).2.av _ _ _ hx (hi.hA j hj hl' d hd)
      cases hod:o.dst with
      | none=>exact h0
      | some d'=>
       have:d'≠d:=fun e=>f4 j hj hji d' hod (by rw[hd,e])
       rw[ev this]
       exact h0
  unfold wpOpIn
  simp only[ho]
  split
  ·rename_i hw
   rw[if_pos hw] at hg
   exact (hg.wp fun v w' hv=>step v w' hv.1 hv.2.1 hv.2.2)
  ·rename_i hw
   rw[if_neg hw] at hg
   exact⟨fun _ _=>trivial,step undef w (hR.rel.ext (Ext.rfl' _)) hi.jw hg⟩
theorem qf {id:Nat}{ops:Array Oper}{L:Env}{a:Act}{w:World}(m:Nat)(S:World→World→Prop)(J:World→Prop)(hR:jD S J)(hJ:J w)(hmix:P.follows .mixedOrders=true)(hf:FrD n ds a w L)[hL:eN S L](hchk:chk ops m n=true)
  (h:fu P ops w S J (ops.toList.take m) (fun L'=>∀a' w',S w w'→J w'→FrD n ds a' w' L'→wpListIn (FW r) 0 P ops Q (ops.toList.drop m) a' w') L):(Code.region id ops true).wpIn (FW r) 0 P Q a w:=by
 simp only[chk,Bool.and_eq_true,List.all_eq_true,List.mem_range,Bool.or_eq_true,Nat.ble_eq] at hchk
 obtain⟨⟨hm,h1⟩,h2⟩:=hchk
 refine wpIn_region_any hmix ?_
 have hlen:(ops.toList.take m).length=m:=by simp;omega
 obtain⟨As,hAs,hK⟩:=qb (ops:=ops) (ops.toList.take m) 0 L (fun j hj=>by
  rw[hlen] at hj
  rw[Nat.zero_add,List.getElem?_take,if_pos hj];simp) h
 rw[hlen] at hK hAs
 have hext:Ext w { w with drawn:=w.drawn+1 }:=Ext.drew w
 have:=qd (P:=P) (ops:=ops) (Q:=Q) (w0:=w) (n:=n) (ds:=ds) (m:=m) (S:=S) (J:=J) (r:=r) (L:=L) (As:=As) hR hm h1 (fun i hi hi'=>by
   rcases h2 i hi' with h|h
   ·simp only[Nat.blt_eq] at h;omega
   ·exact h) (fun j o hj ho=>hAs j o hj (by simpa using ho)) hL (fun a w hx hF hf=>hK a w hx hF hf) m
  (Array.replicate ops.size false) a { w with drawn:=w.drawn+1 } ?_ (by simp) ?_ ?_ ⟨hR.rel.ext hext,hR.st hext hJ,hf.size,hf.defers,fun t A ht _=>A.st _ _ _ hext (hf.val t A ht),fun i hi hl=>?_⟩
 ·rwa [show m+(ops.size - m)=ops.size by omega] at this
 ·have:(List.range m).countP (fun i => !(Array.replicate ops.size false).getD i true)=(List.range m).length:=by
   refine List.countP_eq_length.2 fun i hi=>?_
   have:=List.mem_range.1 hi
   have hlt:i<ops.size:=by omega
   simp[hlt]
  simpa using this
 ·intro j _ hj
  simp[hj]
 ·intro i o hl
  have:(Array.replicate ops.size false).getD i false=false:=by
   by_cases hlt:i<ops.size <;> simp[hlt]
  rw[this] at hl;cases hl
 ·have:(Array.replicate ops.size false).getD i false=false:=by
   by_cases hlt:i<ops.size <;> simp[hlt]
  rw[this] at hl;cases hl
end
section
variable {P:Program}{w0:World}{L:Env}{ty:TypeId}{pos:String}{aft:Array Edge}
variable {ops:Array Oper}{rest:List Oper}{K:Env→Prop}{A:VA}{op:Op}{dd:Nat}{S:World→World→Prop}{J:World→Prop}
theorem uf (hR:jD S J)(h:∀w1,S w0 w1→J w1→OpC P w1 L ⟨some dd,op,ty,pos,aft,none⟩ A)[hA:StJ S A](k:fu P ops w0 S J rest K ((dd,A)::L)):fu P ops w0 S J (⟨some dd,op,ty,pos,aft,none⟩::rest) K L:=
 ⟨A,fun a w h1 h2 hv _=>by
  simp only[Region.wanted,if_true]
  exact ((h w h1 h2).out _ w (Ext.rfl' w) hv).mono fun v w' ⟨e,k⟩=>⟨hR.rel.ext e,hR.st e h2,k⟩,hA,k⟩
theorem ux {d:Option Nat}(h:qa P w0 S J L ⟨d,op,ty,pos,aft,none⟩ A)[hA:StJ S A](k:fu P ops w0 S J rest K (push d A L)):fu P ops w0 S J (⟨d,op,ty,pos,aft,none⟩::rest) K L:=
 ⟨A,fun a w h1 h2 hv _=>by
  simp only[Region.wanted,if_true]
  exact h.out _ w h1 h2 hv,hA,k⟩
theorem ue (h:K L):fu P ops w0 S J [] K L:=h
theorem qg {dst:Option Tmp}{fo x:Operand}{id:FuncId}{caps al:Array Value}{u:Value}{tys:Array TypeId}{A:VA}(hf:Proofs.Enters P id)(hfo:opd L fo=some (E (.func (.func id) #[] caps)))(hx:opd L x=some (E u))(ha : #[u]++caps=al)
  (h:∀w,S w0 w→J w→Calls P id al w (fun e w'=>∃v,e=.returned v∧S w w'∧J w'∧A.p v w')) :
  qa P w0 S J L ⟨dst,.call ⟨.value fo,#[x],tys⟩,ty,pos,aft,none⟩ A:=by
 subst ha
 refine⟨fun ρ w h1 h2 hv=>?_⟩
 have hfv:ρ fo=.func (.func id) #[] caps:=hv fo (by simp[Op.operands,Call.operands]) _ hfo
 have hxv:ρ x=u:=hv x (by simp[Op.operands,Call.operands]) _ hx
 have hrun:(execOp ρ ⟨dst,.call ⟨.value fo,#[x],tys⟩,ty,pos,aft,none⟩).run P w=.ok (.enter id (#[u]++caps)) w:=by
  have h9:=hf (#[u]++caps) w
  simp[execOp,resolve,hfv,Deferred.ofValue,invoke,hxv,h9]
 simp only[OpR,hrun]
 exact (h w h1 h2).mono fun e w' ⟨r,k1,k2,k3,k4⟩=>⟨r,k1,k2,k3,k4⟩
end
section tail
variable {P:Program}{L:Env}{ty:TypeId}{pos:String}{aft:Array Edge}{r:Option Nat}{ds:List Deferred}
variable {ops:Array Oper}{rest:List Oper}{Q:Exit→Act→World→Prop}{n:Nat}{a:Act}{w:World}{x y z:Operand}{α β:Type}[DecidableEq α]
theorem xZ {V:KV P α β}{t:TypeId}{bm nn:Nat}{l:List (α×β)}{i:α}{c:β}(ht:P.underlying t=some (.map V.k V.e))(hf:FrD n ds a w L)[hL:AvL bm L](hx:opd L x=some (E (.map (some bm))))
  (hy:opd L y=some (E (V.kv i))) (hz:opd L z=some (E (V.mv c))) (hM:MpR V w bm nn l) (hn:nn<maxLen) (hi:V.ok i) (hc:V.okv c)
  (kk:∀w',w.grownBy w' (some bm)→MpR V w' bm (nn+1) (bB l i c)→FrD n ds a w' L→wpListIn (FW r) 0 P ops Q rest a w') :
  wpListIn (FW r) 0 P ops Q (⟨none,.insert t x y z,ty,pos,aft,none⟩::rest) a w:=
 wpListIn_plain rfl fun K hK=>by
  have hxv:a.eval x=.map (some bm):=hf.opd x _ hx
  have hyv:a.eval y=V.kv i:=hf.opd y _ hy
  have hzv:a.eval z=V.mv c:=hf.opd z _ hz
  obtain⟨w',h1,h2,h3⟩:=hM.put hi hc ht hn
  refine OpR.wp (R:=fun _ w1=>w1=w') ?_ ?_
  ·simp only[OpR,execOp,hxv,hyv,hzv,Sem.run_bind,h1,Result.andThen_ok,Sem.run_pure]
  ·rintro _ w1 rfl
   exact hK _ _ (kk _ h3 h2 (hf.gr h3))
end tail
end Go.Mono
namespace Go.Mono
open Go Go.Proofs Go.RowKit
theorem qh {α β:Type}{f:α→Option β}:∀{l:List α},(∀x∈l,∃y,f x=some y)→∃ys,l.mapM f=some ys
 | [],_=>⟨[],rfl⟩
 | x::l,h=>by
  obtain⟨y,hy⟩:=h x (by simp)
  obtain⟨ys,hys⟩:=qh (l:=l) fun z hz=>h z (by simp[hz])
  exact⟨y::ys,by simp[List.mapM_cons,hy,hys]⟩
theorem qi {α β:Type}{f:α→Option β}:∀{l:List α} {ys:List β},l.mapM f=some ys→∀x∈l,∃y,f x=some y
 | [],_,_,x,hx=>by cases hx
 | a::l,ys,h,x,hx=>by
  rw[List.mapM_cons] at h
  cases hfa:f a with
  | none=>rw[hfa] at h;cases h
  | some y=>
   rw[hfa] at h
   cases hl:l.mapM f with
   | none=>rw[hl] at h;cases h
   | some zs=>
    rcases List.mem_cons.1 hx with rfl|hx
    ·exact⟨y,hfa⟩
    ·exact qi hl x hx
theorem ya:Tryz.prog.keyType 47=true:=by kernel_rfl
theorem ma:Tryz.prog.cellsOf 47=16:=by kernel_rfl
theorem qj:Tryz.prog.cellsOf 45=1:=by kernel_rfl
theorem yb:(47:TypeId)<Tryz.prog.types.size:=of_decide_eq_true (by kernel_rfl)
theorem yc:Tryz.prog.keyTypeAt 2 47=true:=by kernel_rfl
theorem qk:WideMaps.KeyLaw Tryz.prog 47:=by
 have h1:2+1≤10000:=by omega
 refine deep_law_laid laidOut (m:=2) h1 yb yc ?_
 rw[U47]
theorem yd (x:BitVec 64):(Lit.int .u64 (x.toNat:Int)).wf=true:=by
 have h1:IntKind.u64.min=0:=by decide
 have h2:IntKind.u64.max=18446744073709551615:=by decide
 have:=x.isLt
 simp only[Lit.wf,h1,h2,Bool.and_eq_true,decide_eq_true_eq]
 omega
theorem ye {z:Int}(h:(Lit.int .u64 z).wf=true):Value.int .u64 z=Mono.W (BitVec.ofNat 64 z.toNat):=by
 have h1:IntKind.u64.min=0:=by decide
 have h2:IntKind.u64.max=18446744073709551615:=by decide
 simp only[Lit.wf,h1,h2,Bool.and_eq_true,decide_eq_true_eq] at h
 rw[Mono.W,BitVec.toNat_ofNat,Nat.mod_eq_of_lt (by omega),Int.toNat_of_nonneg h.1]
theorem yf (S:BS):∃L,Tryz.prog.keyLits (Tryz.prog.types.size+1) 47 (au S).toList=some L:=by
 have hl:(au S).toList.length=16:=by rw[Array.length_toList,bh]
 have hm:∃ys,(List.range 16).mapM (fun i=>Tryz.prog.keyLits Tryz.prog.types.size 45 (((au S).toList.drop (i * Tryz.prog.cellsOf 45)).take (Tryz.prog.cellsOf 45)))=some ys:=by
  refine qh fun i hi=>?_
  have hi:=List.mem_range.1 hi
  have hc:((au S).toList.drop (i * Tryz.prog.cellsOf 45)).take (Tryz.prog.cellsOf 45)=[W (ak S i)]:=by
   rw[qj,Nat.mul_one]
   refine List.ext_getElem? fun j=>?_
   rw[List.getElem?_take]
   cases j with
   | zero=>
    rw[if_pos (by omega),List.getElem?_drop,Array.getElem?_toList]
    exact bX _ i hi
   | succ j=>rw[if_neg (by omega)];rfl
  rw[hc,ju]
  refine⟨[.int .u64 ((ak S i).toNat:Int)],?_⟩
  unfold Program.keyLits
  simp only[U45,W]
  rw[if_pos ⟨trivial,yd _⟩]
 obtain⟨ys,hy⟩:=hm
 unfold Program.keyLits
 simp only[U47]
 rw[if_pos (by rw[hl,ma]),hy]
 exact⟨_,rfl⟩
theorem gK (S:BS):∃l,keyOf Tryz.prog 47 (ah S)=some l:=by
 obtain⟨L,hL⟩:=yf S
 refine⟨.string (keyBytes L),?_⟩
 have hf:(ah S).formed Tryz.prog 47=true:=by
  simp only[ah,Value.formed,U47,ma,bh];rfl
 unfold keyOf
 simp only[U47]
 rw[ya,hf]
 have hc:(ah S).cells=au S:=rfl
 rw[hc,hL]
 rfl
theorem ql {v:Value}{l:Lit}(h:keyOf Tryz.prog 47 v=some l):∃S,v=ah S:=by
 obtain⟨xs,L,rfl,hL,_⟩:=keyOf_top (by simp[U47]) h
 unfold Program.keyLits at hL
 simp only[U47] at hL
 split at hL
 ·rename_i hlen
  rw[ma,Array.length_toList] at hlen
  cases hq:(List.range 16).mapM (fun i=>Tryz.prog.keyLits Tryz.prog.types.size 45 ((xs.toList.drop (i * Tryz.prog.cellsOf 45)).take (Tryz.prog.cellsOf 45))) with
  | none=>rw[hq] at hL;cases hL
  | some ys=>
   have hw:∀i,i<16→∃y:BitVec 64,xs[i]?=some (W y):=by
    intro i hi
    obtain⟨y,hy⟩:=qi hq i (List.mem_range.2 hi)
    obtain⟨x,hx⟩:∃x,xs[i]?=some x:=⟨_,Array.getElem?_eq_getElem (by omega)⟩
    have hc:(xs.toList.drop (i * Tryz.prog.cellsOf 45)).take (Tryz.prog.cellsOf 45)=[x]:=by
     rw[qj,Nat.mul_one]
     refine List.ext_getElem? fun j=>?_
     rw[List.getElem?_take]
     cases j with
     | zero=>
      rw[if_pos (by omega),List.getElem?_drop,Array.getElem?_toList]
      exact hx
     | succ j=>rw[if_neg (by omega)];rfl
    rw[hc,ju] at hy
    unfold Program.keyLits at hy
    simp only[U45] at hy
    cases x with
    | int q z=>
     simp only at hy
     split at hy
     ·rename_i hwf
      obtain⟨rfl,h2⟩:=hwf
      exact⟨_,by rw[hx,ye h2]⟩
     ·cases hy
    | _=>cases hy
   obtain⟨f,hf⟩:∃f:Nat→BitVec 64,∀i,i<16→xs[i]?=some (W (f i)):=⟨fun i=>if h:i<16 then Classical.choose (hw i h) else 0,fun i hi=>by
    simp only
    rw[dif_pos hi];exact Classical.choose_spec (hw i hi)⟩
   refine⟨ofW f 16,?_⟩
   rw[ah,vc]
   refine congrArg Value.agg (Array.ext_getElem? fun i=>?_)
   by_cases hi:i<16
   ·rw[hf i hi,bX _ _ hi]
   ·rw[Array.getElem?_eq_none (by omega),Array.getElem?_eq_none (by rw[fc];omega)]
 ·cases hL
noncomputable def kKV:KV Tryz.prog BS Int where
 k:=47
 e:=3
 kv:=ah
 kl:=fun S=>Classical.choose (gK S)
 ok:=fun _=>True
 mv:=fun c=>.int .i64 c
 dv:=fun c=>.lit (.int .i64 c)
 okv:=fun c=>(Lit.int .i64 c).wf=true
 R:=plainElem Tryz.prog 3
 K:=Maps.Keyed.of_law qk
 key:=fun S _=>Classical.choose_spec (gK S)
 keyInv:=fun v l h=>by
  obtain⟨S,rfl⟩:=ql h
  exact⟨S,trivial,rfl,Option.some.inj (h.symm.trans (Classical.choose_spec (gK S)))⟩
 kvInj:=fun x y h=>kT (by injection h)
 val:=fun c hc=>plainElem_int U3 hc
 valInv:=fun v y h=>by
  obtain⟨c,h1,h2,h3⟩:=plainElem_int_inv U3 h
  exact⟨c,h3,h1,h2⟩
 dvInj:=fun c c' h=>by cases h;rfl

theorem MpR.tight {P:Program}{α β:Type}{V:KV P α β}{w:World}{b n:Nat}{l:List (α×β)}(h:MpR V w b n l):MpR V w b l.length l:=by
 obtain⟨es,⟨es',clock,h1,h2,h3,h4⟩,hp,h5,h6⟩:=h
 refine⟨es,⟨es',clock,h1,h2,?_,h4⟩,hp,h5,h6⟩
 have hf:∀m:List (Lit×DataW Unit),(m.foldr DataW.insert []).length=m.length:=by
  intro m
  induction m with
  | nil=>rfl
  | cons x m ih=>rw[List.foldr_cons,(jt x _).length_eq,List.length_cons,List.length_cons,ih]
 injection h4 with h4
 have h7:=congrArg List.length h4
 rw[hf,List.length_map] at h7
 have h8:es'.toList.length=es'.size:=Array.length_toList
 have h9:=hp.length_eq
 rw[List.length_map] at h9
 omega
theorem yg:∀(k:Nat) (T:BS) (l:List BS),card T=k→l.Nodup→(∀S∈l,∀i,S.getLsbD i=true→T.getLsbD i=true)→l.length≤2 ^ k:=by
 intro k
 induction k with
 | zero=>
  intro T l hc hn hs
  have hz:∀S∈l,S=0:=fun S hS=>bI fun i=>⟨fun h=>by have:=el (hs S hS i h);omega,fun h=>absurd h (aN i)⟩
  match l with
  | []=>simp
  | [_]=>simp
  | a::b::r=>
   have h1:=hz a (by simp)
   have h2:=hz b (by simp)
   rw[h1,h2] at hn
   simp at hn
 | succ k ih=>
  intro T l hc hn hs
  have hex:∃v,T.getLsbD v=true:=Classical.byContradiction fun hn=>by
   have h0:T=0:=bI fun k=>⟨fun hk=>absurd ⟨k,hk⟩ hn,fun hk=>absurd hk (aN k)⟩
   rw[h0,eh] at hc;cases hc
  obtain⟨v,hv⟩:=hex
  have hv':=aG hv
  have e0:T=T &&& ~~~(0:BS):=bI fun i=>⟨fun h=>(aP _ _ _).2 ⟨h,aN i⟩,fun h=>((aP _ _ _).1 h).1⟩
  have hT':card (del T (v:Int))=k:=by
   have h1:=ft (all:=T) (S:=0) (v:=v) (by rw[← e0];exact hv)
   have h2:(T &&& ~~~(ins 0 (v:Int)))=del T (v:Int):=bI fun i=>by
    rw[gJ hv',← e0,bT _ hv']
   rw[← e0,h2] at h1
   omega
  have hlen:l.length=(l.filter fun S=>S.getLsbD v).length+(l.filter fun S => !S.getLsbD v).length:=by
   clear hn hs
   induction l with
   | nil=>rfl
   | cons a l ih2=>cases h:a.getLsbD v <;> simp[h,ih2] <;> omega
  have h1:(l.filter fun S => !S.getLsbD v).length≤2 ^ k:=by
   refine ih (del T (v:Int)) _ hT' (hn.sublist List.filter_sublist) fun S hS i hi=>?_
   obtain⟨q1,q2⟩:=List.mem_filter.1 hS
   refine (bT _ hv').2 ⟨hs S q1 i hi,fun e=>?_⟩
   rw[e] at hi
   rw[hi] at q2;cases q2
  have h2:((l.filter fun S=>S.getLsbD v).map fun S=>del S (v:Int)).length≤2 ^ k:=by
   refine ih (del T (v:Int)) _ hT' ?_ fun S hS i hi=>?_
   ·have hn2:=hn.sublist (List.filter_sublist (p:=fun S=>S.getLsbD v))
    have hm:∀S∈l.filter fun S=>S.getLsbD v,S.getLsbD v=true:=fun S hS=>(List.mem_filter.1 hS).2
    generalize (l.filter fun S=>S.getLsbD v)=m at hn2 hm
    clear hlen h1 hs hn
    induction m with
    | nil=>exact List.nodup_nil
    | cons a m ihm=>
     rw[List.map_cons,List.nodup_cons]
     obtain⟨p1,p2⟩:=List.nodup_cons.1 hn2
     refine⟨fun h=>?_,ihm p2 fun S hS=>hm S (by simp[hS])⟩
     obtain⟨b,hb,hab⟩:=List.mem_map.1 h
     have hba:b=a:=bI fun i=>by
      by_cases hi:i=v
      ·rw[hi];simp[hm a (by simp),hm b (by simp[hb])]
      ·have h5:=congrArg (fun S:BS=>S.getLsbD i=true) hab
       simp only[bT _ hv',eq_iff_iff] at h5
       exact⟨fun h=>(h5.1 ⟨h,hi⟩).1,fun h=>(h5.2 ⟨h,hi⟩).1⟩
     rw[hba] at hb
     exact p1 hb
   ·obtain⟨S',q1,rfl⟩:=List.mem_map.1 hS
    obtain⟨q3,q4⟩:=(bT _ hv').1 hi
    exact (bT _ hv').2 ⟨hs S' (List.mem_filter.1 q1).1 i q3,q4⟩
  rw[List.length_map] at h2
  rw[Nat.pow_succ];omega
def Mm (nb:Int→BS)(all:BS)(bm:Nat)(w:World):Prop:=
 ∃l,MpR kKV w bm l.length l∧(all,(-1:Int))∈l∧∀p∈l,p.2=rsR nb all p.1∧∀i,p.1.getLsbD i=true→all.getLsbD i=true
section
variable {nb:Int→BS}{all:BS}{bm:Nat}{w w':World}
theorem Mm.lt (h:Mm nb all bm w):bm<w.heap.size:=by obtain⟨l,h1,_⟩:=h;exact h1.lt
theorem Mm.pres (h:Mm nb all bm w)(hb:w'.heap[bm]?=w.heap[bm]?):Mm nb all bm w':=by obtain⟨l,h1,h2⟩:=h;exact⟨l,h1.pres hb,h2⟩
theorem Mm.ext (h:Mm nb all bm w)(e:Ext w w'):Mm nb all bm w':=h.pres (e.block bm h.lt)
theorem Mm.gr {b:Nat}(h:Mm nb all bm w)(hg:w.grownBy w' (some b))(hb:bm≠b):Mm nb all bm w':=h.pres (hg.block bm h.lt (fun e=>hb (by cases e;rfl)))
theorem Mm.kp {B:Nat}(h:Mm nb all bm w)(k:Kp B w w')(hb:bm<B):Mm nb all bm w':=h.pres (k.same bm h.lt fun hh=>by have:=hh.1;omega)
end
def eS (b1 b2 b3 b4:Nat):Value:=.func (.func 79) #[] #[ptr b1,ptr b2,ptr b3,ptr b4]
structure RC (G:Nat→Prop)(l0:List (Int×BS))(all:BS)(b1 b2 b3 b4 bm:Nat)(nv:Value)(w:World):Prop where
 t:Tab w
 k:Blk w b1 #[.map (some bm)] 122
 a:Blk w b2 (au all) 47
 n:Blk w b3 #[nv] 75
 o:Blk w b4 #[eS b1 b2 b3 b4] 78
 nd:(Dv (mpE sKV 1024) G l0).p nv w
 g:G bm
 ne:0<bm∧b1≠bm∧b2≠bm∧b3≠bm∧b4≠bm
section
variable {G G':Nat→Prop}{l0:List (Int×BS)}{all:BS}{b1 b2 b3 b4 bm:Nat}{nv:Value}{w w':World}
theorem RC.ch (h:RC G l0 all b1 b2 b3 b4 bm nv w)(c:Chg (fun b=>b=bm) w w'):RC G l0 all b1 b2 b3 b4 bm nv w':=by
 obtain⟨n0,n1,n2,n3,n4⟩:=h.ne
 exact⟨h.t.ch c (by omega),h.k.ch c n1,h.a.ch c n2,h.n.ch c n3,h.o.ch c n4,Dv.ch h.nd c (fun b hb=>by rw[hb];exact h.g),h.g,h.ne⟩
theorem RC.ext (h:RC G l0 all b1 b2 b3 b4 bm nv w)(e:Ext w w'):RC G l0 all b1 b2 b3 b4 bm nv w':=h.ch (e.chg _)
theorem RC.gr (h:RC G l0 all b1 b2 b3 b4 bm nv w){b:Nat}(hg:w.grownBy w' (some b))(hG:G b)(hb:b≠b1∧b≠b2∧b≠b3∧b≠b4)(h0:0<b):RC G l0 all b1 b2 b3 b4 bm nv w':=
 ⟨h.t.gr hg h0,h.k.gr hg (fun e=>by cases e;omega),h.a.gr hg (fun e=>by cases e;omega),h.n.gr hg (fun e=>by cases e;omega),h.o.gr hg (fun e=>by cases e;omega),Dv.grN h.nd hg (fun c hc=>by cases hc;exact hG),h.g,h.ne⟩
theorem RC.kp {B:Nat}(h:RC G l0 all b1 b2 b3 b4 bm nv w)(k:Kp B w w')(hG:∀b,aT B b→G b)(hb:b1<B∧b2<B∧b3<B∧b4<B):RC G l0 all b1 b2 b3 b4 bm nv w':=
 ⟨h.t.kp k (by omega),h.k.kp k (fun hh=>by have:=hh.1;omega),h.a.kp k (fun hh=>by have:=hh.1;omega),h.n.kp k (fun hh=>by have:=hh.1;omega),h.o.kp k (fun hh=>by have:=hh.1;omega),Dv.ch h.nd k.chg hG,h.g,h.ne⟩
theorem RC.weak (h:RC G l0 all b1 b2 b3 b4 bm nv w)(hG:∀b,b<w.heap.size→G' b→G b)(hg:G' bm):RC G' l0 all b1 b2 b3 b4 bm nv w:=
 ⟨h.t,h.k,h.a,h.n,h.o,Dv.weak h.nd hG,hg,h.ne⟩
theorem RC.lt (h:RC G l0 all b1 b2 b3 b4 bm nv w):b1<w.heap.size∧b2<w.heap.size∧b3<w.heap.size∧b4<w.heap.size:=⟨h.k.lt,h.a.lt,h.n.lt,h.o.lt⟩
end
theorem Chg.kp {S:Nat→Prop}{B:Nat}{W w w':World}(c:Chg S W w)(k:Kp B w w')(h:W.heap.size≤B):Chg S W w':=c.tr2 k.chg fun b hb=>.inr (by have:=hb.1;omega)
theorem Kh.chg {B:Nat}{S:Nat→Prop}{w w':World}(c:Chg S w w')(h:∀b,S b→¬aT B b):Kh B w w':=⟨c.size,fun b hb hh=>c.block b hb fun hs=>h b hs hh⟩
theorem Mm.put {nb:Int→BS}{all S:BS}{bm n:Nat}{l:List (BS×Int)}{w:World}(h:MpR kKV w bm n (bB l S (rsR nb all S)))(hal:(all,(-1:Int))∈l)(hl:∀p∈l,p.2=rsR nb all p.1∧∀i,p.1.getLsbD i=true→all.getLsbD i=true)(hne:S≠all)(hS:∀i,S.getLsbD i=true→all.getLsbD i=true):Mm nb all bm w:=by
 refine⟨_,h.tight,?_,?_⟩
 ·rw[bB]
  exact List.mem_cons_of_mem _ (List.mem_filter.2 ⟨hal,by rw[decide_eq_false (show ¬(all,(-1:Int)).1=S from fun e=>hne e.symm)];rfl⟩)
 ·intro p hp
  rw[bB] at hp
  rcases List.mem_cons.1 hp with rfl|hp
  ·exact⟨by dsimp only,hS⟩
  ·exact hl p (List.mem_filter.1 hp).1
theorem Mm.few {nb:Int→BS}{all:BS}{bm n:Nat}{l:List (BS×Int)}{w:World}(h:MpR kKV w bm n l)(hl:∀p∈l,p.2=rsR nb all p.1∧∀i,p.1.getLsbD i=true→all.getLsbD i=true)(hc:card all≤12):l.length≤4096:=by
 obtain⟨_,_,_,_,hp⟩:=h
 have h1:(l.map (·.1)).Nodup:=List.pairwise_map.2 (hp.imp fun h=>h)
 have h2:=yg (card all) all (l.map (·.1)) rfl h1 fun S hS i hi=>by
  obtain⟨p,hp,rfl⟩:=List.mem_map.1 hS
  exact (hl p hp).2 i hi
 rw[List.length_map] at h2
 exact Nat.le_trans h2 (Nat.le_trans (Nat.pow_le_pow_right (by omega) hc) (by decide))

structure RsJ (W:World)(l0:List (Int×BS))(all S:BS)(b1 b2 b3 b4 bm b5 b9:Nat)(nv:Value)(s:List Nat)(w:World):Prop where
 c:Chg (fun b=>b=bm) W w
 r:RC (GB W fun b=>b=bm) l0 all b1 b2 b3 b4 bm nv w
 m:Mm (lkS l0) all bm w
 p5:Blk w b5 (au S) 47
 p9:Blk w b9 #[I (s.foldl (rsS (lkS l0) (rsR (lkS l0) all) S) 12)] 3
theorem RsJ.kp {W:World}{l0:List (Int×BS)}{all S:BS}{b1 b2 b3 b4 bm b5 b9:Nat}{nv:Value}{s:List Nat}{B:Nat}{w w':World}(h:RsJ W l0 all S b1 b2 b3 b4 bm b5 b9 nv s w)(k:Kp B w w')(hW:W.heap.size≤B)(l4:b1<B∧b2<B∧b3<B∧b4<B)(lm:bm<B)(l5:b5<B)(l9:b9<B):RsJ W l0 all S b1 b2 b3 b4 bm b5 b9 nv s w':=
 ⟨h.c.kp k hW,h.r.kp k (fun b hb=>.inr (by have:=hb.1;omega)) l4,h.m.kp k lm,h.p5.kp k (fun hh=>by have:=hh.1;omega),h.p9.kp k (fun hh=>by have:=hh.1;omega)⟩
theorem bU (nb:Int→BS)(all:BS)(bm:Nat):jD (Chg fun b=>b=bm) (Mm nb all bm):=⟨ct.one bm,fun e h=>h.ext e⟩
theorem qn (l0:List (Int×BS))(all:BS)(b1 b2 b3 b4 bm:Nat)(nv:Value)(hc12:card all≤12):∀(f:Nat) (S:BS) (W:World),card (all &&& ~~~S)=f→(∀i,S.getLsbD i=true→all.getLsbD i=true) →
  RC (fun b=>b=bm) l0 all b1 b2 b3 b4 bm nv W→Mm (lkS l0) all bm W →
  Calls Tryz.prog 79 #[ah S,ptr b1,ptr b2,ptr b3,ptr b4] W (fun e w'=>∃v,e=.returned v∧Chg (fun b=>b=bm) W w'∧Mm (lkS l0) all bm w'∧(E (I (rsR (lkS l0) all S))).p v w'):=by
 intro f
 induction f using Nat.strongRecOn with
 | _ f ih=>
  intro S W hcf hSa R M
  have hT0:=R.t.lt
  obtain⟨n0,n1,n2,n3,n4⟩:=R.ne
  obtain⟨r1,r2,r3,r4⟩:=R.lt
  have rm:=M.lt
  replace R:=R.weak (G':=GB W fun b=>b=bm) (fun b hb h=>h.elim id fun h=>absurd hb (Nat.not_lt.2 h)) (.inl rfl)
  refine dr (args:=[ah S,ptr b1,ptr b2,ptr b3,ptr b4]) (As:=[E (ah S),E (ptr b1),E (ptr b2),E (ptr b3),E (ptr b4)]) Tryz.func79 rfl Tryz.ntmps79 (Nat.le_of_ble_eq_true rfl) ?_ (fun a hf=>?_) (Nat.le_of_ble_eq_true rfl)
  ·exact bq rfl (bq rfl (bq rfl (bq rfl (bq rfl dG))))
  dsimp only[params,Nat.reduceAdd] at hf
  have e:=Ext.rfl' W
  refine seq ?_
  refine aj ?_
  refine aJ hf rfl (by decide) fun a b5 w v5 hv5 e' hb5 hs5 B5 hf=>?_
  have hle5:=Nat.le_trans e.size (Nat.le_of_eq hb5.symm)
  replace R:=R.ext e'
  replace M:=M.ext e'
  replace e:=e.tr e'
  refine ae hf rfl (by decide) fun a hf=>?_
  refine aa ?_
  cases hv5
  replace B5:Blk w b5 (au S) 47:=B5
  replace hf:=hf.kp [1,2,3,4,5]
  obtain⟨l,hM,hal,hl⟩:=id M
  repeat refine seq ?_
  refine ac 6 hf (by decide +kernel) ?_
  refine st (ld1 (v:=.map (some bm)) kD rfl R.k rfl) ?_
  refine st ((ldW T47 rfl B5 rfl).eq ((rfl:_=ah S))) ?_
  refine st (iv (V:=kKV) (l:=l) (N:=l.length) (G:=G0) (i:=S) (z:=0) kQ (dH I3) (show (Lit.int .i64 0).wf=true by decide) (isE rfl ⟨[.map (some bm)],⟨bm,l.length,rfl,fun h=>h.elim,Nat.le_refl _,hM⟩,rfl⟩) rfl trivial) ?_
  refine st (mv rfl) ?_
  refine st (aY rfl rfl) ?_
  refine st (aY rfl rfl) ?_
  refine en fun a w e' hf=>?_
  replace R:=R.ext e'
  replace M:=M.ext e'
  replace e:=e.tr e'
  replace B5:=B5.ext e'
  refine ae hf rfl (by decide) fun a hf=>?_
  refine ae hf rfl (by decide) fun a hf=>?_
  refine aa ?_
  clear hM
  cases hk:l.any (fun p=>decide (p.1=S)) with
  | true=>
   rw[hk] at hf
   obtain⟨v7,⟨c0,rfl,q1,q2⟩,hf⟩:=hf.opn 7 rfl
   have hc0:c0=rsR (lkS l0) all S:=by
    rw[List.any_eq_true] at hk
    obtain⟨p,hp,hp2⟩:=hk
    have hp3:p.1=S:=by simpa using hp2
    exact (hl _ (q1 ⟨p.2,by rw[← hp3];exact hp⟩)).1
   refine seq ?_
   refine ac 1 hf (by decide +kernel) ?_
   refine st (mv rfl) ?_
   refine en fun a w e' hf=>?_
   replace R:=R.ext e'
   replace M:=M.ext e'
   replace e:=e.tr e'
   replace B5:=B5.ext e'
   refine aa ?_
   refine ifc hf rfl (fun _=>?_) (fun h=>by cases h)
   refine seq ?_
   refine ac 1 hf (by decide +kernel) ?_
   refine st (mv rfl) ?_
   refine en fun a w e' hf=>?_
   replace R:=R.ext e'
   replace M:=M.ext e'
   replace e:=e.tr e'
   replace B5:=B5.ext e'
   refine ae hf rfl (by decide) fun a hf=>?_
   refine aa ?_
   refine an ?_
   simp only[Exit.then,Exit.inBlock]
   refine ly (D:=[]) rfl hf rfl (Ds.nil _) ⟨_,rfl,e.chg _,M,by rw[← hc0];rfl⟩
  | false=>
   rw[hk] at hf
   have hno:∀c,(S,c) ∉ l:=fun c hc=>by
    have:=List.any_eq_false.1 hk _ hc
    simp at this
   have hne:S≠all:=fun h=>hno (-1) (by rw[h];exact hal)
   clear hk hal hl
   refine seq ?_
   refine ac 1 hf (by decide +kernel) ?_
   refine st (mv rfl) ?_
   refine en fun a w e' hf=>?_
   replace R:=R.ext e'
   replace M:=M.ext e'
   replace e:=e.tr e'
   replace B5:=B5.ext e'
   refine aa ?_
   refine ifc hf rfl (fun h=>by cases h) (fun _=>?_)
   refine ar ?_
   simp only[Exit.then,Exit.inBlock,↓reduceIte]
   replace hf:=hf.kp [1,2,3,4,5]
   refine seq ?_
   refine aj ?_
   refine aC I3 hf (by decide) fun a b9 w e' hb9 hs9 B9 hf=>?_
   have hle9:=Nat.le_trans e.size (Nat.le_of_eq hb9.symm)
   have lt9_B5:=B5.lt
   replace R:=R.ext e'
   replace M:=M.ext e'
   replace e:=e.tr e'
   replace B5:=B5.ext e'
   clear e'
   haveI hinr:∀G0,InR (GB W G0) (some b9):=fun G0=>InR.gb (by omega)
   refine aO T3 hf rfl rfl rfl B9 (by decide) fun w hg hsz B9 hf=>?_
   replace R:=R.gr hg (.inr (by omega)) (by omega) (by omega)
   replace M:=M.gr hg (by omega)
   replace e:=e.gr hg (by omega)
   replace B5:=B5.gr hg (by omega)
   clear hg
   refine aa ?_
   replace B9:Blk w b9 #[I 12] 3:=B9
   replace hf:=hf.kp [1,2,3,4,5,9]
   obtain⟨D,hD⟩:∃D,D=all &&& ~~~S:=⟨_,rfl⟩
   repeat refine seq ?_
   refine ac 4 hf (by decide +kernel) ?_
   refine st ((ldW T47 rfl R.a rfl).eq ((rfl:_=ah all))) ?_
   refine st ((ldW T47 rfl B5 rfl).eq ((rfl:_=ah S))) ?_
   refine st (aD (A:=E (ah D)) dC rfl rfl (fun v u w he h h'=>by cases h;cases h';rw[hD];exact dK all S w)) ?_
   refine st (aw (A:=cC 0 D) cJ rfl (fun v w' he h=>by cases h;exact Calls.mono (cM _ w') (fun en w2 ⟨u,h1,h2,b',h3,h4,h5⟩=>⟨u,h1,h2,b',Nat.zero_le _,h4,h5⟩))) ?_
   refine en fun a w e' hf=>?_
   replace R:=R.ext e'
   replace M:=M.ext e'
   replace e:=e.tr e'
   replace B5:=B5.ext e'
   replace B9:=B9.ext e'
   refine aa ?_
   obtain⟨v23,⟨b23,h23,rfl,BS⟩,hf⟩:=hf.fix 23 rfl
   replace hf:=hf.kp [1,2,3,4,5,9,23]
   have hBW:W.heap.size≤w.heap.size:=e.size
   have l5:=B5.lt
   have l9:=B9.lt
   have lm:=M.lt
   have l4:=R.lt
   have n5:b5≠bm∧b9≠bm∧b9≠b5∧W.heap.size≤b5∧W.heap.size≤b9:=by omega
   refine blk ?_
   refine cS (S:=D) hf rfl BS (by decide) (fun s w1=>RsJ W l0 all S b1 b2 b3 b4 bm b5 b9 nv s w1) (fun _ _=>False) (fun s w1 h=>h.r.t)
    ⟨e.chg _,R,M,B5,B9⟩ (fun s w1 w2 h hs k=>h.kp k hBW l4 lm l5 l9) (fun _ _ _ h=>h.elim) ?_ ?_ (fun _ _ _ _ _ _ h=>h.elim)
   ·intro lp s x rest a1 w1 hs hJ hlw hf
    have hxD:=(aK.1 (show x∈elems D by rw[hs];simp)).2
    rw[hD] at hxD
    have hx1024:=aG hxD
    have hwx:(Lit.int .i64 (x:Int)).wf=true:=bH (by omega) (by omega)
    have hcd:=ft hxD
    have hSx:∀i,(ins S (x:Int)).getLsbD i=true→all.getLsbD i=true:=fun i hi=>((aL S hx1024).1 hi).elim (hSa i) fun h=>by rw[h];exact ((aP _ _ _).1 hxD).1
    have hstep:(s++[x]).foldl (rsS (lkS l0) (rsR (lkS l0) all) S) 12=rsS (lkS l0) (rsR (lkS l0) all) S (s.foldl (rsS (lkS l0) (rsR (lkS l0) all) S) 12) x:=by rw[List.foldl_append];rfl
    generalize hBz:w.heap.size=Bz at *
    refine aj ?_
    refine ae hf rfl (by decide) fun a hf=>?_
    refine aa ?_
    simp only[Exit.then]
    refine⟨Kh.rfl' _ _,fun w3 k3 hsz3=>?_⟩
    have hJ3:=hJ.kp k3 hBW l4 lm l5 l9
    clear e R M B5 B9 BS
    replace hf:=hf.pure w3
    obtain⟨c,R,M,B5,B9⟩:=hJ3
    obtain⟨best,hbest⟩:∃best,best=s.foldl (rsS (lkS l0) (rsR (lkS l0) all) S) 12:=⟨_,rfl⟩
    rw[← hbest] at B9 hstep
    have kh:=Kh.rfl' Bz w3
    replace hf:=hf.kp [1,2,3,4,5,9,10]
    refine blk ?_
    refine seq ?_
    refine ac 5 hf (by decide +kernel) ?_
    refine st (ld1 (v:=nv) T75 rfl R.n rfl) ?_
    refine st ((ldW T47 rfl B5 rfl).eq ((rfl:_=ah S))) ?_
    refine st (mv rfl) ?_
    refine st (fI (A:=E (ah (reB (lkS l0) S (x:Int)))) ni rfl rfl rfl (fun v u s w he h h' h''=>by cases h;cases h';cases h'';exact pW l0 S (x:Int) nv w (R.t.ext he) (VA.st _ _ _ _ he R.nd) hwx)) ?_
    refine st (aw (A:=E (I (rn (lkS l0) S x))) kG rfl (fun v w he h=>by cases h;exact lT _ w)) ?_
    refine en fun a w e' hf=>?_
    replace R:=R.ext e'
    replace M:=M.ext e'
    replace c:=c.ext e'
    replace kh:=kh.tr (Kh.ext e')
    replace B5:=B5.ext e'
    replace B9:=B9.ext e'
    refine ae hf rfl (by decide) fun a hf=>?_
    refine aa ?_
    replace hf:=hf.kp [1,2,3,4,5,9,10,11]
    refine seq ?_
    refine ac 3 hf (by decide +kernel) ?_
    refine st (mv rfl) ?_
    refine st (ld1 T3 rfl (by assumption) rfl) ?_
    refine st (lss rfl rfl) ?_
    refine en fun a w e' hf=>?_
    replace R:=R.ext e'
    replace M:=M.ext e'
    replace c:=c.ext e'
    replace kh:=kh.tr (Kh.ext e')
    replace B5:=B5.ext e'
    replace B9:=B9.ext e'
    refine aa ?_
    refine ifc hf rfl (fun hb=>?_) (fun hb=>?_)
    ·have hlt:rn (lkS l0) S x<best:=of_decide_eq_true hb
     clear hb
     obtain⟨q0,q1,q2,q3,q4⟩:=R.ne
     replace hf:=hf.kp [1,2,3,4,5,9,10,11]
     refine qf 9 (Chg fun b=>b=bm) (Mm (lkS l0) all bm) (bU (lkS l0) all bm) M Mix.mix hf (by decide +kernel) ?_
     refine uf (bU (lkS l0) all bm) (fun w1 h1 HJ1=>ld1 T3 rfl (B9.ch h1 n5.2.1) rfl) ?_
     refine uf (bU (lkS l0) all bm) (fun w1 h1 HJ1=>mv rfl) ?_
     refine uf (bU (lkS l0) all bm) (fun w1 h1 HJ1=>ld1 (v:=eS b1 b2 b3 b4) T78 rfl (R.ch h1).o rfl) ?_
     refine uf (bU (lkS l0) all bm) (fun w1 h1 HJ1=>(ldW T47 rfl (B5.ch h1 n5.1) (bh _)).eq ((rfl:_=ah S))) ?_
     refine uf (bU (lkS l0) all bm) (fun w1 h1 HJ1=>mv rfl) ?_
     refine uf (bU (lkS l0) all bm) (fun w1 h1 HJ1=>aD (A:=E (ah (ins S (x:Int)))) de rfl rfl (fun v u w he h h'=>by cases h;cases h';exact di S (x:Int) w)) ?_
     refine ux (qg (A:=E (I (rsR (lkS l0) all (ins S (x:Int))))) kJ rfl rfl (by simp) (fun w h1 HJ1=>(ih (card (all &&& ~~~(ins S (x:Int)))) (by omega) (ins S (x:Int)) w rfl hSx ((R.ch h1).weak (fun b hb h=>.inl h) rfl) HJ1))) ?_
     refine uf (bU (lkS l0) all bm) (fun w1 h1 HJ1=>max2 rfl rfl) ?_
     refine uf (bU (lkS l0) all bm) (fun w1 h1 HJ1=>(min2 rfl rfl).eq (congrArg I (show min best (max (rn (lkS l0) S x) (rsR (lkS l0) all (ins S (x:Int))))=rsS (lkS l0) (rsR (lkS l0) all) S best x by rw[rsS,if_pos hlt]))) ?_
     refine ue ?_
     refine fun a w hc HF hf=>?_
     try dsimp only[push] at hf
     replace R:=R.ch hc
     replace c:=c.tr hc
     replace B5:=B5.ch hc n5.1
     replace B9:=B9.ch hc n5.2.1
     replace kh:=kh.tr (Kh.chg hc fun b hb hh=>by have:=hh.1;omega)
     replace M:=HF
     clear hc HF
     haveI hinr:∀G0,InR (GB W G0) (some b9):=fun G0=>InR.gb (by omega)
     refine aO T3 hf rfl rfl rfl B9 (by simp) fun w hg hsz B9 hf=>?_
     replace R:=R.gr hg (.inr (by omega)) (by omega) (by omega)
     replace M:=M.gr hg (by omega)
     replace c:=c.gr hg (.inr (by omega))
     replace kh:=kh.tr (Kh.gr hg (fun hh=>by have:=hh.1;omega))
     replace B5:=B5.gr hg (by omega)
     clear hg
     refine aa ?_
     simp only[Exit.inBlock]
     exact⟨⟨c,R,M,B5,by rw[hstep];exact B9⟩,kh⟩
    ·have hlt:¬rn (lkS l0) S x<best:=of_decide_eq_false hb
     refine ar ?_
     simp only[Exit.inBlock]
     exact⟨⟨c,R,M,B5,by rw[hstep,rsS,if_neg hlt];exact B9⟩,kh⟩
   ·intro a' w' hf' hJ hsz hDn
    simp only[Exit.inBlock,↓reduceIte,Exit.then]
    have hDs:Ds [w.heap.size] w':=(Ds.nil w').cons hDn (by simp)
    have hf:FrD 46 (bK [w.heap.size]) a' w' [(1,E (ptr b1)),(5,E (ptr b5)),(9,E (ptr b9))]:=hf'.keep [1,5,9]
    have hDW:∀d∈[w.heap.size],W.heap.size≤d:=fun d hd=>by rw[List.mem_singleton] at hd;omega
    clear hf' e R M B5 B9 BS hDn
    obtain⟨c,R,M,B5,B9⟩:=hJ
    have hbD:¬bm∈[w.heap.size]:=fun h=>by rw[List.mem_singleton] at h;omega
    generalize [w.heap.size]=D2 at *
    generalize w'=w at *
    have hex:∃v,(all &&& ~~~S).getLsbD v=true:=Classical.byContradiction fun hn=>hne (bI fun i=>⟨hSa i,fun h=>Classical.byContradiction fun hi=>hn ⟨i,(aP _ _ _).2 ⟨h,hi⟩⟩⟩)
    obtain⟨u,hu⟩:=hex
    rw[hD,← iI hu] at B9
    obtain⟨l,hM,hal,hl⟩:=M
    have hlen:=Mm.few hM hl hc12
    refine seq ?_
    refine ac 3 hf (by decide +kernel) ?_
    refine st (ld1 (v:=.map (some bm)) kD rfl R.k rfl) ?_
    refine st ((ldW T47 rfl B5 rfl).eq ((rfl:_=ah S))) ?_
    refine st (ld1 T3 rfl B9 rfl) ?_
    refine en fun a w e' hf=>?_
    replace R:=R.ext e'
    replace hM:=hM.ext e'
    replace c:=c.ext e'
    replace B5:=B5.ext e'
    replace B9:=B9.ext e'
    replace hDs:=hDs.ext e'
    clear e'
    refine eK (V:=kKV) (i:=S) (c:=rsR (lkS l0) all S) kQ hf rfl rfl rfl hM (by simp only[maxLen];omega) trivial ?_ fun w hg HM hf=>?_
    ·have:=iJ (nb:=lkS l0) (all:=all) S
     exact bH (by omega) (by omega)
    replace c:=c.gr hg (.inl rfl);replace B9:=B9.gr hg (by omega);replace hDs:=hDs.gr hg hbD
    clear hM R B5 hg
    have M:=Mm.put HM hal hl hne hSa
    refine aa ?_
    replace hf:=hf.kp [9]
    refine seq ?_
    refine ac 1 hf (by decide +kernel) ?_
    refine st (ld1 T3 rfl B9 rfl) ?_
    refine en fun a w e' hf=>?_
    replace c:=c.ext e'
    replace M:=M.ext e'
    replace B9:=B9.ext e'
    replace hDs:=hDs.ext e'
    refine ae hf rfl (by decide) fun a hf=>?_
    refine aa ?_
    refine an ?_
    exact ly rfl hf rfl hDs ⟨_,rfl,c.tr2 (fR D2 w) (fun b hb=>.inr (hDW b hb)),M.pres (gD D2 w bm hbD),rfl⟩
def qp (N:Nat)(l0:List (Int×BS))(all:BS):VA:=⟨fun v w=>∃b1 b2 b3 b4 bm nv,v=eS b1 b2 b3 b4∧N≤bm∧RC (fun b=>b=bm) l0 all b1 b2 b3 b4 bm nv w∧Mm (lkS l0) all bm w,
 fun v w w' e ⟨b1,b2,b3,b4,bm,nv,h1,h2,h3,h4⟩=>⟨b1,b2,b3,b4,bm,nv,h1,h2,h3.ext e,h4.ext e⟩⟩
theorem yh {G:Nat→Prop}(l0:List (Int×BS))(all:BS)(v:Value)(W:World)(hT:Tab W)(h:(Dv (mpE sKV 1024) G l0).p v W) :
  Calls Tryz.prog 30 #[v,ah all] W (Post (qp W.heap.size l0 all) W):=by
 have hv0:(Dv (mpE sKV 1024) (GB W G0) l0).p v W:=Dv.toB (Dv.weak h fun b _ hb=>hb.elim)
 have h1c:v.cells = #[v]:=by
  obtain⟨cs,⟨b,n,h1,_⟩,h2⟩:=h
  subst h1
  have:v=.map (some b):=h2
  rw[this];rfl
 have hT0:=hT.lt
 refine enter (args:=[v,ah all]) (As:=[E v,E (ah all)]) Tryz.func30 rfl Tryz.ntmps30 (Nat.le_of_ble_eq_true rfl) ?_ (fun a hf=>?_) (Nat.le_of_ble_eq_true rfl)
 rotate_left
 dsimp only[params,Nat.reduceAdd] at hf
 rotate_right
 ·exact arg2 rfl rfl
 have e:=Ext.rfl' W
 refine seq ?_
 refine aj ?_
 refine aJ hf rfl (by decide) fun a b2 w v2 hv2 e' hb2 hs2 B2 hf=>?_
 have hle2:=Nat.le_trans e.size (Nat.le_of_eq hb2.symm)
 replace hT:=hT.ext e'
 replace e:=e.tr e'
 clear e'
 refine aJ hf rfl (by decide) fun a b3 w v3 hv3 e' hb3 hs3 B3 hf=>?_
 have hle3:=Nat.le_trans e.size (Nat.le_of_eq hb3.symm)
 have lt3_B2:=B2.lt
 replace hT:=hT.ext e'
 replace e:=e.tr e'
 replace B2:=B2.ext e'
 refine ae hf rfl (by decide) fun a hf=>?_
 refine aa ?_
 cases hv2
 cases hv3
 rw[h1c] at B2
 replace B3:Blk w b3 (au all) 47:=B3
 replace hf:=hf.kp [2,3]
 refine seq ?_
 refine aj ?_
 refine eM kKV hf (by decide) fun a bm w e' hbm hsm HM hf=>?_
 replace e:=e.tr e'
 replace hT:=hT.ext e'
 replace B2:=B2.ext e'
 replace B3:=B3.ext e'
 clear e'
 have lm:=HM.lt
 have hWm:W.heap.size≤bm:=by have:=e.size;omega
 have hNm:bm+1≤w.heap.size:=lm
 refine aB hf (by decide) ((ldW T47 rfl B3 (bh _)).eq ((rfl:_=ah all))) fun a w e' hf=>?_
 replace hT:=hT.ext e'
 replace HM:=HM.ext e'
 replace hNm:=Nat.le_trans hNm e'.size
 replace e:=e.tr e'
 replace B2:=B2.ext e'
 replace B3:=B3.ext e'
 clear e'
 refine xZ (V:=kKV) (i:=all) (c := -1) kQ hf rfl rfl rfl HM (by decide) trivial (show (Lit.int .i64 (-1)).wf=true by decide) fun w hg HM hf=>?_
 replace e:=e.gr hg (by omega);replace hT:=hT.gr hg (by omega);replace B2:=B2.gr hg (by omega);replace B3:=B3.gr hg (by omega);replace hNm:=Nat.le_trans hNm hg.size;clear hg
 refine aB hf (by decide) (mv rfl) fun a w e' hf=>?_
 replace hT:=hT.ext e'
 replace HM:=HM.ext e'
 replace hNm:=Nat.le_trans hNm e'.size
 replace e:=e.tr e'
 replace B2:=B2.ext e'
 replace B3:=B3.ext e'
 clear e'
 refine aC sS hf (by decide) fun a b5 w e' hb5 hs5 B5 hf=>?_
 have hle5:=Nat.le_trans e.size (Nat.le_of_eq hb5.symm)
 have lo5_hNm:=Nat.le_trans hNm (Nat.le_of_eq hb5.symm)
 have lt5_B2:=B2.lt
 have lt5_B3:=B3.lt
 replace hT:=hT.ext e'
 replace HM:=HM.ext e'
 replace hNm:=Nat.le_trans hNm e'.size
 replace e:=e.tr e'
 replace B2:=B2.ext e'
 replace B3:=B3.ext e'
 clear e'
 haveI hinr:∀G0,InR (GB W G0) (some b5):=fun G0=>InR.gb (by omega)
 refine aO kD hf rfl rfl rfl B5 (by decide) fun w hg hsz B5 hf=>?_
 replace hT:=hT.gr hg (by omega)
 replace HM:=HM.gr hg (fun h=>by cases h;omega)
 replace hNm:=Nat.le_trans hNm hg.size
 replace e:=e.gr hg (by omega)
 replace B2:=B2.gr hg (by omega)
 replace B3:=B3.gr hg (by omega)
 clear hg
 refine aa ?_
 replace B5:Blk w b5 #[.map (some bm)] 122:=B5
 replace hf:=hf.kp [2,3,5]
 refine seq ?_
 refine aj ?_
 refine aC I78 hf (by decide) fun a b6 w e' hb6 hs6 B6 hf=>?_
 have hle6:=Nat.le_trans e.size (Nat.le_of_eq hb6.symm)
 have lo6_hNm:=Nat.le_trans hNm (Nat.le_of_eq hb6.symm)
 have lt6_B2:=B2.lt
 have lt6_B3:=B3.lt
 have lt6_B5:=B5.lt
 replace hT:=hT.ext e'
 replace HM:=HM.ext e'
 replace hNm:=Nat.le_trans hNm e'.size
 replace e:=e.tr e'
 replace B2:=B2.ext e'
 replace B3:=B3.ext e'
 replace B5:=B5.ext e'
 refine aa ?_
 replace hf:=hf.kp [2,3,5,6]
 have nm:bm≠b2∧bm≠b3∧bm≠b5∧bm≠b6:=by omega
 have hvv:=fun (w:World) (e:Ext W w)=>VA.st _ _ _ _ e hv0
 refine seq ?_
 refine ac 1 hf (by decide +kernel) ?_
 refine st (nS rfl rfl rfl rfl) ?_
 refine en fun a w e' hf=>?_
 replace hT:=hT.ext e'
 replace HM:=HM.ext e'
 replace hNm:=Nat.le_trans hNm e'.size
 replace e:=e.tr e'
 replace B2:=B2.ext e'
 replace B3:=B3.ext e'
 replace B5:=B5.ext e'
 replace B6:=B6.ext e'
 clear e'
 haveI hinr:∀G0,InR (GB W G0) (some b6):=fun G0=>InR.gb (by omega)
 refine aO T78 hf rfl rfl rfl B6 (by decide) fun w hg hsz B6 hf=>?_
 replace hT:=hT.gr hg (by omega)
 replace HM:=HM.gr hg (fun h=>by cases h;omega)
 replace hNm:=Nat.le_trans hNm hg.size
 replace e:=e.gr hg (by omega)
 replace B2:=B2.gr hg (by omega)
 replace B3:=B3.gr hg (by omega)
 replace B5:=B5.gr hg (by omega)
 clear hg
 refine aa ?_
 replace B6:Blk w b6 #[eS b5 b3 b2 b6] 78:=B6
 replace hf:=hf.kp [2,3,5,6]
 refine seq ?_
 refine ac 1 hf (by decide +kernel) ?_
 refine st (ld1 (v:=eS b5 b3 b2 b6) T78 rfl B6 rfl) ?_
 refine en fun a w e' hf=>?_
 replace hT:=hT.ext e'
 replace HM:=HM.ext e'
 replace hNm:=Nat.le_trans hNm e'.size
 replace e:=e.tr e'
 replace B2:=B2.ext e'
 replace B3:=B3.ext e'
 replace B5:=B5.ext e'
 replace B6:=B6.ext e'
 refine ae hf rfl (by decide) fun a hf=>?_
 refine aa ?_
 refine an (az rfl hf rfl ?_)
 rintro _ rfl
 refine⟨_,rfl,e,b5,b3,b2,b6,bm,v,rfl,hWm,⟨hT,B5,B3,B2,B6,Dv.weak (hvv w e) fun b hb hh=>.inr (by rw[hh];exact hWm),rfl,by omega⟩,?_⟩
 have hp:bB ([]:List (BS×Int)) all (-1)=[(all,-1)]:=rfl
 rw[hp] at HM
 refine⟨_,HM.tight,List.mem_singleton.2 rfl,fun p hp=>?_⟩
 rw[List.mem_singleton.1 hp]
 refine⟨?_,fun i h=>h⟩
 exact (jB fun i hi=>((aP _ _ _).1 hi).2 ((aP _ _ _).1 hi).1).symm
end Go.Mono
namespace Go.MonoD
open Go Go.RowKit Go.Mono
structure Ext (w w':World):Prop extends Below w.heap.size w w' where
 drawn:w.drawn≤w'.drawn
theorem Ext.rfl' (w:World):Ext w w:=⟨Below.refl _ _,Nat.le_refl _⟩
theorem Ext.tr {a b c:World}(h:Ext a b)(k:Ext b c):Ext a c:=⟨Below.trans h.toBelow (Below.mono k.toBelow h.size),Nat.le_trans h.drawn k.drawn⟩
instance:Gro Ext:=⟨Ext.rfl',Ext.tr,fun w=>⟨(Below.refl _ _).drew,Nat.le_succ _⟩,fun w o=>⟨(Below.refl _ w).alloc (Nat.le_refl _) o,Nat.le_refl _⟩,fun h=>h.toBelow⟩
abbrev VA:=VAr Ext
abbrev Env:=bf Ext
abbrev E (x:Value):VA:=ER x
abbrev Any:VA:=ko
abbrev Post (A:VA)(w:World):Ending→World→Prop:=fH A w
end Go.MonoD
namespace Go.MonoD
open Go Go.Proofs Go.RowKit Go.Mono
abbrev I (n:Int):Value:=.int .i64 n
theorem Mix.mix:Tryz.prog.follows .mixedOrders=true:=Go.Mono.Mix.mix
theorem T3:TI Tryz.prog 3 false 1:=ti (by decide +kernel)
theorem T55:TI Tryz.prog 55 true 3:=ti (by decide +kernel)
theorem T36:TI Tryz.prog 36 true 4:=ti (by decide +kernel)
def cmpI (x y:Int):Int:=if x<y then -1 else if y<x then 1 else 0
theorem arg1 {A:VA}{v:Value}{w:World}(h:A.p v w):∀(i:Nat) (B:VA),[A][i]?=some B→B.p ([v].getD i undef) w:=fun i B hB=>by
 match i with
 | 0=>simp at hB;subst hB;exact h
 | i+1=>simp at hB
theorem arg2 {A B:VA}{u v:Value}{w:World}(h:A.p u w)(h':B.p v w):∀(i:Nat) (C:VA),[A,B][i]?=some C→C.p ([u,v].getD i undef) w:=fun i C hC=>by
 match i with
 | 0=>simp at hC;subst hC;exact h
 | 1=>simp at hC;subst hC;exact h'
 | i+2=>simp at hC
theorem yi (x:Int)(W:World):Calls Tryz.prog 55 #[I x] W (Post (E (.bool false)) W):=by
 refine enter (args:=[I x]) (As:=[E (I x)]) Tryz.func55 rfl Tryz.ntmps55 (Nat.le_of_ble_eq_true rfl) ?_ (fun a hf=>?_) (Nat.le_of_ble_eq_true rfl)
 rotate_left
 dsimp only[params,Nat.reduceAdd] at hf
 rotate_right
 ·exact arg1 rfl
 have e:=Ext.rfl' W
 refine seq ?_
 refine aj ?_
 refine ae hf rfl (by decide) fun a hf=>?_
 refine aa ?_
 refine seq ?_
 refine ac 3 hf (by decide +kernel) ?_
 refine st (mv rfl) ?_
 refine st (mv rfl) ?_
 refine st ((neq rfl rfl).eq (congrArg Value.bool ((show (x != x)=false by simp)))) ?_
 refine en fun a w e' hf=>?_
 replace e:=e.tr e'
 refine ae hf rfl (by decide) fun a hf=>?_
 refine aa ?_
 refine an ?_
 refine az rfl hf rfl ?_
 rintro _ rfl
 exact⟨_,rfl,e,rfl⟩
theorem qq (x:Int)(v:Value)(w:World)(h:(E (I x)).p v w):Calls Tryz.prog 55 #[v] w (Post (E (.bool false)) w):=by cases h;exact yi x w
theorem yj (x y:Int)(W:World):Calls Tryz.prog 24 #[I x,I y] W (Post (E (I (cmpI x y))) W):=by
 refine enter (args:=[I x,I y]) (As:=[E (I x),E (I y)]) Tryz.func24 rfl Tryz.ntmps24 (Nat.le_of_ble_eq_true rfl) ?_ (fun a hf=>?_) (Nat.le_of_ble_eq_true rfl)
 rotate_left
 dsimp only[params,Nat.reduceAdd] at hf
 rotate_right
 ·exact arg2 rfl rfl
 have e:=Ext.rfl' W
 refine seq ?_
 refine aj ?_
 refine ae hf rfl (by decide) fun a hf=>?_
 refine aa ?_
 refine seq ?_
 refine ac 2 hf (by decide +kernel) ?_
 refine st (mv rfl) ?_
 refine st (aw Mono.En55 rfl (fun v w he h=>qq x v w h)) ?_
 refine en fun a w e' hf=>?_
 replace e:=e.tr e'
 refine ae hf rfl (by decide) fun a hf=>?_
 refine aa ?_
 refine seq ?_
 refine ac 2 hf (by decide +kernel) ?_
 refine st (mv rfl) ?_
 refine st (aw Mono.En55 rfl (fun v w he h=>qq y v w h)) ?_
 refine en fun a w e' hf=>?_
 replace e:=e.tr e'
 refine ae hf rfl (by decide) fun a hf=>?_
 refine aa ?_
 repeat refine seq ?_
 refine ac 1 hf (by decide +kernel) ?_
 refine st (mv rfl) ?_
 refine en fun a w e' hf=>?_
 replace e:=e.tr e'
 refine aa ?_
 refine ifc hf rfl (fun h=>by cases h) (fun _=>?_)
 refine ar ?_
 simp only[Exit.then,Exit.inBlock,↓reduceIte]
 repeat refine seq ?_
 refine ac 1 hf (by decide +kernel) ?_
 refine st (mv rfl) ?_
 refine en fun a w e' hf=>?_
 replace e:=e.tr e'
 refine aa ?_
 refine ifc hf rfl (fun h=>by cases h) (fun _=>?_)
 refine ar ?_
 simp only[Exit.then,Exit.inBlock,↓reduceIte]
 repeat refine seq ?_
 refine ac 3 hf (by decide +kernel) ?_
 refine st (mv rfl) ?_
 refine st (mv rfl) ?_
 refine st (lss rfl rfl) ?_
 refine en fun a w e' hf=>?_
 replace e:=e.tr e'
 refine aa ?_
 refine ifc hf rfl (fun hb=>?_) (fun hb=>?_)
 ·refine seq ?_
  refine aj ?_
  refine ae hf rfl (by decide) fun a hf=>?_
  refine aa ?_
  refine an ?_
  simp only[Exit.then,Exit.inBlock]
  refine az rfl hf rfl ?_
  rintro _ rfl
  exact⟨_,rfl,e,congrArg I (by rw[cmpI,if_pos (of_decide_eq_true hb)])⟩
 ·refine ar ?_
  simp only[Exit.then,Exit.inBlock,↓reduceIte]
  repeat refine seq ?_
  refine ac 3 hf (by decide +kernel) ?_
  refine st (mv rfl) ?_
  refine st (mv rfl) ?_
  refine st (gtr rfl rfl) ?_
  refine en fun a w e' hf=>?_
  replace e:=e.tr e'
  refine aa ?_
  have hb1:=of_decide_eq_false hb
  refine ifc hf rfl (fun hb=>?_) (fun hb=>?_)
  ·refine seq ?_
   refine aj ?_
   refine ae hf rfl (by decide) fun a hf=>?_
   refine aa ?_
   refine an ?_
   simp only[Exit.then,Exit.inBlock]
   refine az rfl hf rfl ?_
   rintro _ rfl
   exact⟨_,rfl,e,congrArg I (by rw[cmpI,if_neg hb1,if_pos (of_decide_eq_true hb)])⟩
  ·refine ar ?_
   simp only[Exit.then,Exit.inBlock,↓reduceIte]
   refine seq ?_
   refine aj ?_
   refine ae hf rfl (by decide) fun a hf=>?_
   refine aa ?_
   refine an ?_
   refine az rfl hf rfl ?_
   rintro _ rfl
   exact⟨_,rfl,e,congrArg I (by rw[cmpI,if_neg hb1,if_neg (of_decide_eq_false hb)])⟩
theorem iK (x y:Int)(v u:Value)(w:World)(h:(E (I x)).p v w)(h':(E (I y)).p u w):Calls Tryz.prog 24 #[v,u] w (Post (E (I (cmpI x y))) w):=by cases h;cases h';exact yj x y w
theorem Ext.grown {W w:World}(e:Ext W w):∃q os,w=Sort.grow (W.drewN q) os:=by
 refine⟨w.drawn - W.drawn,w.heap.extract W.heap.size w.heap.size,?_⟩
 have hh:w.heap=W.heap++w.heap.extract W.heap.size w.heap.size:=by
  apply Array.ext_getElem?
  intro i
  rw[Array.getElem?_append]
  split
  ·rename_i h;exact e.block i h
  ·rename_i h
   rw[Array.getElem?_extract]
   by_cases hi:i<w.heap.size
   ·have e1:W.heap.size+(i - W.heap.size)=i:=by omega
    rw[if_pos (by omega),e1]
   ·rw[if_neg (by omega)]
    simp only[Array.getElem?_eq_none_iff];omega
 have hd:W.drawn+(w.drawn - W.drawn)=w.drawn:=by have:=e.drawn;omega
 cases w
 simp only at hh hd
 have ho:=e.os;have ht:=e.tape;have hp:=e.output
 simp only at ho ht hp
 simp only[Sort.grow,World.drewN,World.mk.injEq]
 exact⟨hh,ht,hd.symm,ho,hp⟩
theorem cmpV_spec (x y:Int×Int×Int)(W:World):Calls Tryz.prog 113 #[.agg #[.int .i64 x.1,.int .u8 x.2.1,.int .i64 x.2.2],.agg #[.int .i64 y.1,.int .u8 y.2.1,.int .i64 y.2.2]] W (Post (E (I (cmpI x.1 y.1))) W):=by
 refine enter (args:=[.agg #[.int .i64 x.1,.int .u8 x.2.1,.int .i64 x.2.2],.agg #[.int .i64 y.1,.int .u8 y.2.1,.int .i64 y.2.2]]) (As:=[E (.agg #[.int .i64 x.1,.int .u8 x.2.1,.int .i64 x.2.2]),E (.agg #[.int .i64 y.1,.int .u8 y.2.1,.int .i64 y.2.2])]) Tryz.func113 rfl Tryz.ntmps113 (Nat.le_of_ble_eq_true rfl) ?_ (fun a hf=>?_) (Nat.le_of_ble_eq_true rfl)
 rotate_left
 dsimp only[params,Nat.reduceAdd] at hf
 rotate_right
 ·exact arg2 rfl rfl
 have e:=Ext.rfl' W
 refine seq ?_
 refine aj ?_
 refine aJ hf rfl (by decide) fun a b2 w v2 hv2 e' hb2 hs2 B2 hf=>?_
 have hle2:=Nat.le_trans e.size (Nat.le_of_eq hb2.symm)
 replace e:=e.tr e'
 clear e'
 refine aJ hf rfl (by decide) fun a b3 w v3 hv3 e' hb3 hs3 B3 hf=>?_
 have hle3:=Nat.le_trans e.size (Nat.le_of_eq hb3.symm)
 have lt3_B2:=B2.lt
 replace e:=e.tr e'
 replace B2:=B2.ext e'.toBelow
 refine ae hf rfl (by decide) fun a hf=>?_
 refine aa ?_
 cases hv2;cases hv3
 refine seq ?_
 refine ac 5 hf (by decide +kernel) ?_
 refine st (am Tryz.underlying55 rfl T3 (by decide) rfl) ?_
 refine st (ld1 T3 rfl B2 rfl) ?_
 refine st (am Tryz.underlying55 rfl T3 (by decide) rfl) ?_
 refine st (ld1 T3 rfl B3 rfl) ?_
 refine st (aD Mono.En24 rfl rfl (fun v u w he h h'=>iK x.1 y.1 v u w h h')) ?_
 refine en fun a w e' hf=>?_
 replace e:=e.tr e'
 replace B2:=B2.ext e'.toBelow
 replace B3:=B3.ext e'.toBelow
 refine ae hf rfl (by decide) fun a hf=>?_
 refine aa ?_
 refine an ?_
 refine az rfl hf rfl ?_
 rintro _ rfl
 exact⟨_,rfl,e,rfl⟩
section
variable {P:Program}{w0:World}{L:Env}{dst:Option Tmp}{ty:TypeId}{pos:String}{aft:Array Edge}{g:Option (Nat×Bool)}{t te:TypeId}{x y:Operand}
def Sl2 (t:TypeId)(p q:Int):VA:=⟨fun v w=>∃b,v=.slice (some ⟨b,0,none⟩) 2 2∧Blk w b #[I p,I q] t,fun v w w' e ⟨b,h1,h2⟩=>⟨b,h1,h2.ext e.toBelow⟩⟩
theorem qt {p q:Int}{bz:Nat}{z0:Value}(ht:P.underlying t=some (.slice te))(hi:(P.info? te).map (fun i=>(i.zero,i.size,i.bytes))=some (some z0,1,bz))(hz0:z0.cells.size=1)(hx:opd L x=some (E (I p)))(hy:opd L y=some (E (I q))) :
  OpC P w0 L ⟨dst,.buildSlice t 2 #[(0,x),(1,y)],ty,pos,aft,g⟩ (Sl2 te p q):=by
 refine⟨fun ρ w he hv=>?_⟩
 have hxv:=opE hv (x:=x) (by simp[Op.operands]) hx
 have hyv:=opE hv (x:=y) (by simp[Op.operands]) hy
 obtain⟨it,hit,hiz,hsz,_⟩:=info_parts hi
 have hfl:=Mono.fill_seq (k:=1) [I p,I q] [[I p],[I q]] 0 [] ((Array.range (2 * 1)).map (z0.cells[· % z0.cells.size]!)) rfl (by simp) (by simp) (by simp) (by simp)
 have hr:=run_buildSlice (P:=P) w t te 2 #[(0,I p),(1,I q)] #[I p,I q] it z0 ht hit hiz (by rw[hsz];omega) (by rw[hsz];omega) (by rw[hsz];exact hfl)
 have hrun:(execOp ρ ⟨dst,.buildSlice t 2 #[(0,x),(1,y)],ty,pos,aft,g⟩).run P w=.ok (.value (.slice (some ⟨w.heap.size,0,none⟩) 2 2)) (w.alloc (.cells #[I p,I q] te)):=by
  simp only[execOp,Sem.run_bind,List.map_toArray,List.map_cons,List.map_nil,hxv,hyv,hr,Result.andThen_ok,Sem.run_pure]
 simp only[OpR,hrun]
 exact⟨Gro.alloc w _,_,rfl,gh w _ _⟩
theorem idxS {b:Nat}{k:Nat}(ht:P.underlying t=some (.slice te))(hs:(P.info? te).map (·.size)=some 1)(hx:opd L x=some (E (.slice (some ⟨b,0,none⟩) 2 2)))(hy:opd L y=some (E (I k)))(hk:k<2) :
  OpC P w0 L ⟨dst,.indexAddr t x y,ty,pos,aft,g⟩ (E (.pointer (some ⟨b,k,none⟩))):=
 aQ fun ρ w he hv=>by
  have h:=opE hv (x:=x) (by simp[Op.operands]) hx
  have h2:=opE hv (x:=y) (by simp[Op.operands]) hy
  have hi:(0:Int)≤(k:Int)∧(k:Int)<((2:Nat):Int):=by omega
  have hsz:∀w,(sizeOf te).run P w=.ok 1 w:=fun w=>by
   cases hi:P.info? te with
   | none=>simp[hi] at hs
   | some i=>simp[hi] at hs;simp[sizeOf,typeInfo,hi,hs]
  have hi':(k:Int)<2:=by omega
  refine⟨_,?_,rfl⟩
  rcases (show k=0∨k=1 by omega) with rfl|rfl <;> simp[execOp,h,h2,Instr.indexAt,asIntOf,run_underlying ht,hsz,Addr.add]
theorem yk {b:Nat}(ht:P.underlying t=some (.slice te))(hx:opd L x=some (E (.slice (some ⟨b,0,none⟩) 2 2))):OpC P w0 L ⟨dst,.call ⟨.builtin .len,#[x],#[t]⟩,ty,pos,aft,g⟩ (E (I 2)):=
 aQ fun ρ w he hv=>by
  have h:=opE hv (x:=x) (by simp[Op.operands,Call.operands]) hx
  exact⟨_,by simp[execOp,resolve,invoke,builtin,Builtin.len_,h,run_underlying ht,goInt],rfl⟩
end
def orI (p q:Int):Int:=if p != 0 then p else q
theorem qu (p q:Int)(b:Nat)(W:World)(hB:Blk W b #[I p,I q] 3):Calls Tryz.prog 23 #[.slice (some ⟨b,0,none⟩) 2 2] W (Post (E (I (orI p q))) W):=by
 refine enter (args:=[.slice (some ⟨b,0,none⟩) 2 2]) (As:=[E (.slice (some ⟨b,0,none⟩) 2 2)]) Tryz.func23 rfl Tryz.ntmps23 (Nat.le_of_ble_eq_true rfl) ?_ (fun a hf=>?_) (Nat.le_of_ble_eq_true rfl)
 rotate_left
 dsimp only[params,Nat.reduceAdd] at hf
 rotate_right
 ·exact arg1 rfl
 have e:=Ext.rfl' W
 refine seq ?_
 refine aj ?_
 refine ae hf rfl (by decide) fun a hf=>?_
 refine aa ?_
 refine seq ?_
 refine aj ?_
 refine ae hf rfl (by decide) fun a hf=>?_
 refine aa ?_
 repeat refine seq ?_
 refine ac 3 hf (by decide +kernel) ?_
 refine st (mv rfl) ?_
 refine st (yk Tryz.underlying39 rfl) ?_
 refine st (mv rfl) ?_
 refine en fun a w e' hf=>?_
 replace e:=e.tr e'
 refine aa ?_
 replace hf:=hf.kp [3,6,7,8]
 refine blk (aW (fun r0 a w=>∃(k:Nat) ,r0=2 - k∧k≤2∧Fr 18 a w [(3,E (I 0)),(6,E (.slice (some ⟨b,0,none⟩) 2 2)),(7,E (I 2)),(8,E (I k))]∧Ext W w∧(k=0∨p=0)∧(k=2→q=0)) 2 ⟨0,rfl,by omega,hf,e,⟨.inl rfl,(fun h=>by cases h)⟩⟩ ?_)
 clear hf e;try clear hp
 rintro r0 a w ⟨k,rfl,hk,hf,e,hp⟩
 refine seq ?_
 refine ac 1 hf (by decide +kernel) ?_
 refine st (lss rfl rfl) ?_
 refine en fun a w e' hf=>?_
 replace e:=e.tr e'
 refine aa ?_
 refine seq ?_
 refine ifc hf rfl (fun hc=>ar ?_) (fun hc=>aR ?_)
 rotate_left
 rotate_left
 ·have hlt:k<2:=by have:=of_decide_eq_true hc;(try dsimp only at this);omega
  clear hc
  replace hf:=hf.kp [3,6,7,8]
  refine seq ?_
  refine blk ?_
  have hB':=hB.ext e.toBelow
  have hcell:(#[I p,I q]:Array Value)[k]?=some (I (if k=0 then p else q)):=by
   rcases (show k=0∨k=1 by omega) with rfl|rfl <;> rfl
  refine seq ?_
  refine ac 2 hf (by decide +kernel) ?_
  refine st (idxS Tryz.underlying39 Mono.S3 rfl rfl hlt) ?_
  refine st (ld1 T3 rfl hB' hcell) ?_
  refine en fun a w e' hf=>?_
  replace e:=e.tr e'
  refine ae hf rfl (by decide) fun a hf=>?_
  refine aa ?_
  refine seq ?_
  refine ac 3 hf (by decide +kernel) ?_
  refine st (mv rfl) ?_
  refine st (mv rfl) ?_
  refine st (neq rfl rfl) ?_
  refine en fun a w e' hf=>?_
  replace e:=e.tr e'
  refine aa ?_
  refine ifc hf rfl (fun hb=>?_) (fun hb=>?_)
  ·have hb':(if k=0 then p else q)≠0:=by simpa using hb
   have hor:(if k=0 then p else q)=orI p q:=by
    rw[orI]
    rcases (show k=0∨k=1 by omega) with rfl|rfl
    ·simp only[if_true] at hb' ⊢;rw[if_pos (by simpa using hb')]
    ·simp only[Nat.one_ne_zero,if_false] at hb' ⊢;rw[if_neg (by simpa using hp.1)]
   refine seq ?_
   refine ac 1 hf (by decide +kernel) ?_
   refine st (mv rfl) ?_
   refine en fun a w e' hf=>?_
   replace e:=e.tr e'
   refine ae hf rfl (by decide) fun a hf=>?_
   refine aa ?_
   refine an ?_
   simp only[Exit.then,Exit.inBlock]
   refine az rfl hf rfl ?_
   rintro _ rfl
   exact⟨_,rfl,e,congrArg I hor⟩
  ·have hb':(if k=0 then p else q)=0:=by simpa using hb
   refine ar ?_
   simp only[Exit.then,Exit.inBlock,↓reduceIte]
   refine ac 1 hf (by decide +kernel) ?_
   refine st ((add rfl rfl (by omega)).eq (congrArg (Value.int .i64) (show (k:Int)+1=((k+1:Nat):Int) from rfl))) ?_
   refine en fun a w e' hf=>?_
   replace e:=e.tr e'
   clear e'
   refine aB hf (by decide) (mv rfl) fun a w e' hf=>?_
   replace e:=e.tr e'
   refine aa ?_
   replace hf:=hf.kp [3,6,7,8]
   refine⟨_,?_,k+1,rfl,by omega,hf,e,?_⟩
   ·omega
   rcases (show k=0∨k=1 by omega) with rfl|rfl
   ·exact⟨.inr (by simpa using hb'),fun h=>by cases h⟩
   ·exact⟨.inr (by simpa using hp.1),fun _=>by simpa using hb'⟩
 ·obtain rfl:k=2:=by have:=of_decide_eq_false hc;(try dsimp only at this);omega
  clear hc
  simp only[Exit.then,Exit.inBlock,↓reduceIte]
  refine seq ?_
  refine ac 1 hf (by decide +kernel) ?_
  refine st (mv rfl) ?_
  refine en fun a w e' hf=>?_
  replace e:=e.tr e'
  refine ae hf rfl (by decide) fun a hf=>?_
  refine aa ?_
  refine an ?_
  refine az rfl hf rfl ?_
  rintro _ rfl
  exact⟨_,rfl,e,congrArg I (by have h1:p=0:=(by simpa using hp.1);have h2:=hp.2 rfl;rw[orI,h1,h2];rfl)⟩
theorem cmpE_spec (x y:(Int×Int)×(Int×Int))(W:World):Calls Tryz.prog 99 #[.agg #[.int .i64 x.1.1,.int .i64 x.1.2,.int .u8 x.2.1,.int .i64 x.2.2],.agg #[.int .i64 y.1.1,.int .i64 y.1.2,.int .u8 y.2.1,.int .i64 y.2.2]] W (Post (E (I (orI (cmpI x.1.1 y.1.1) (cmpI x.1.2 y.1.2)))) W):=by
 refine enter (args:=[.agg #[.int .i64 x.1.1,.int .i64 x.1.2,.int .u8 x.2.1,.int .i64 x.2.2],.agg #[.int .i64 y.1.1,.int .i64 y.1.2,.int .u8 y.2.1,.int .i64 y.2.2]]) (As:=[E (.agg #[.int .i64 x.1.1,.int .i64 x.1.2,.int .u8 x.2.1,.int .i64 x.2.2]),E (.agg #[.int .i64 y.1.1,.int .i64 y.1.2,.int .u8 y.2.1,.int .i64 y.2.2])]) Tryz.func99 rfl Tryz.ntmps99 (Nat.le_of_ble_eq_true rfl) ?_ (fun a hf=>?_) (Nat.le_of_ble_eq_true rfl)
 rotate_left
 dsimp only[params,Nat.reduceAdd] at hf
 rotate_right
 ·exact arg2 rfl rfl
 have e:=Ext.rfl' W
 refine seq ?_
 refine aj ?_
 refine aJ hf rfl (by decide) fun a b2 w v2 hv2 e' hb2 hs2 B2 hf=>?_
 have hle2:=Nat.le_trans e.size (Nat.le_of_eq hb2.symm)
 replace e:=e.tr e'
 clear e'
 refine aJ hf rfl (by decide) fun a b3 w v3 hv3 e' hb3 hs3 B3 hf=>?_
 have hle3:=Nat.le_trans e.size (Nat.le_of_eq hb3.symm)
 have lt3_B2:=B2.lt
 replace e:=e.tr e'
 replace B2:=B2.ext e'.toBelow
 refine ae hf rfl (by decide) fun a hf=>?_
 refine aa ?_
 cases hv2;cases hv3
 refine seq ?_
 refine reg 12 Mix.mix hf (by decide +kernel) ?_
 refine st (am Tryz.underlying36 rfl T3 (by decide) rfl) ?_
 refine st (ld1 T3 rfl B2 rfl) ?_
 refine st (am Tryz.underlying36 rfl T3 (by decide) rfl) ?_
 refine st (ld1 T3 rfl B3 rfl) ?_
 refine st (aD Mono.En24 rfl rfl (fun v u w he h h'=>iK x.1.1 y.1.1 v u w h h')) ?_
 refine st (am Tryz.underlying36 rfl T3 (by decide) rfl) ?_
 refine st (ld1 T3 rfl B2 rfl) ?_
 refine st (am Tryz.underlying36 rfl T3 (by decide) rfl) ?_
 refine st (ld1 T3 rfl B3 rfl) ?_
 refine st (aD Mono.En24 rfl rfl (fun v u w he h h'=>iK x.1.2 y.1.2 v u w h h')) ?_
 refine st (qt Tryz.underlying39 Mono.I3 rfl rfl rfl) ?_
 refine st (aw Mono.En23 rfl (fun v w he h=>by obtain⟨b,rfl,hB⟩:=h;exact qu _ _ b w hB)) ?_
 refine en fun a w e' hf=>?_
 replace e:=e.tr e'
 replace B2:=B2.ext e'.toBelow
 replace B3:=B3.ext e'.toBelow
 refine ae hf rfl (by decide) fun a hf=>?_
 refine aa ?_
 refine an ?_
 refine az rfl hf rfl ?_
 rintro _ rfl
 exact⟨_,rfl,e,rfl⟩
end Go.MonoD
namespace Go.Mono
open Go Go.Proofs Go.RowKit Go.Shelf Go.Sort
theorem jE {α β:Type}{f:α→List β}{k:Nat}(hk:∀x,(f x).length=k)(h0:0<k):∀(l:List α) (t:Nat),(l.flatMap f)[t]?=(l[t / k]?).bind fun x=>(f x)[t % k]?
 | [],t=>by simp
 | x::r,t=>by
  rw[List.flatMap_cons,List.getElem?_append,hk]
  by_cases ht:t<k
  ·rw[if_pos ht,Nat.div_eq_of_lt ht,Nat.mod_eq_of_lt ht];rfl
  ·rw[if_neg ht,jE hk h0 r]
   have h1:t / k=(t - k) / k+1:=by rw[← Nat.add_div_right _ h0];congr 1;omega
   have h2:t % k=(t - k) % k:=by rw[Nat.mod_eq_sub_mod (by omega)]
   rw[h1,h2,List.getElem?_cons_succ]
theorem qv {α β:Type}{f:α→List β}{k:Nat}(hk:∀x,(f x).length=k):∀(l:List α),(l.flatMap f).length=l.length * k
 | []=>by simp
 | x::r=>by rw[List.flatMap_cons,List.length_append,hk,qv hk r,List.length_cons,Nat.succ_mul];omega
theorem qw {α:Type}[Inhabited α]{f:α→List Value}{k:Nat}(hk:∀x,(f x).length=k)(h0:0<k)(d:Array α):(flatK f k d).toList=d.toList.flatMap f:=by
 apply List.ext_getElem?
 intro t
 rw[jE hk h0,flatK,Array.toList_map,List.getElem?_map,Array.toList_range]
 by_cases ht:t<d.size * k
 ·rw[List.getElem?_range ht,Option.map_some]
  have hd:t / k<d.size:=Nat.div_lt_of_lt_mul (by rw[Nat.mul_comm];exact ht)
  have hm:t % k<k:=Nat.mod_lt _ h0
  rw[Array.getElem?_toList,Array.getElem?_eq_getElem hd,Option.bind_some,getElem!_pos d _ hd]
  have hl:t % k<(f (d[t / k]'hd)).length:=by rw[hk];exact hm
  rw[List.getElem?_eq_getElem hl,getElem!_pos (f (d[t / k]'hd)) (t % k) hl]
 ·rw[List.getElem?_eq_none (by simpa using ht),Option.map_none]
  have hd:¬t / k<d.size:=fun h=>ht (by
   have:=(Nat.div_lt_iff_lt_mul h0).1 h;exact this)
  rw[Array.getElem?_toList,Array.getElem?_eq_none (by omega)];rfl
theorem jF {α:Type}{e:Enc α}{f:α→List Value}(hf:∀G w x cs,e.r G w x cs↔cs=f x){G:Nat→Prop}{w:World}:∀(xs:List α) (cs:List Value),Cells e G w xs cs↔cs=xs.flatMap f
 | [],cs=>by simp[Cells]
 | x::xs,cs=>by
  constructor
  ·rintro⟨c,d,rfl,h1,h2⟩
   rw[(hf _ _ _ _).1 h1,(jF hf xs d).1 h2,List.flatMap_cons]
  ·intro h
   exact⟨f x,xs.flatMap f,by rw[h,List.flatMap_cons],(hf _ _ _ _).2 rfl,(jF hf xs _).2 rfl⟩
theorem jG {P:Program}{ρ:Ren}{α:Type}[Inhabited α]{e:Enc α}{ty:TypeId}{B:Nat}{G:Nat→Prop}{w:World}{xs:List α}{v:Value}(L:SlLaysF0.n6 P ρ)(aE:∀w,(isAgg (ρ.t 24)).run P w=.ok true w)(zE:∀w,(Go.sizeOf (ρ.t 24)).run P w=.ok e.k w)
  (f:α→List Value) (hf:∀G w x cs,e.r G w x cs↔cs=f x) (hk:∀x,(f x).length=e.k) (h1:∀x,∀v∈f x,v.oneCell'=true) (cf:α→α→Int) (hO:SWO (ltOf cf)) (g:Nat)
  (eg:∀args w,(callFunc g args).run P w=.ok (.enter g args) w) (hc:∀x y W,Calls P g #[.agg (f x).toArray,.agg (f y).toArray] W fun en w'=>en=.returned (.int .i64 (cf x y))∧∃q os,w'=grow (W.drewN q) os) (Ho:OwR e ty B G w xs v) (hl:xs.length≤100000) :
  Calls P (ρ.f 6) #[v,.func (.func g) #[] #[]] w fun en w'=>en=.returned (.tuple #[])∧∃xs',xs'.Perm xs∧xs'.Pairwise (fun x y=>ltOf cf y x=false)∧OwR e ty B G w' xs' v∧Chg (fun b=>v.ownBlock=some b) w w':=by
 obtain⟨cs,⟨hlen,hv⟩,hcs⟩:=Ho.own
 rw[jF hf] at hcs
 subst hcs
 rcases hv with ⟨rfl,hn⟩|⟨g0,cap,cur,rfl,hB,hheap,hcap,hmax,hcur,htake⟩
 ·have hx:xs=[]:=List.length_eq_zero_iff.1 hn
  subst hx
  exact (AnyF.slices_SortFunc_none L none 0 _ w).mono fun en w' ⟨h2,h3⟩=>by
   subst h3
   exact⟨h2,[],List.Perm.refl _,List.Pairwise.nil,Ho,Chg.rfl' _ _⟩
 ·have hk0:=e.pos
  have hcell:∀j,(xs.flatMap f)[j]?=cur[j]?∨xs.length * e.k≤j:=fun j=>by
   by_cases hj:j<xs.length * e.k
   ·left
    rw[← htake,List.getElem?_take,if_pos hj];simp
   ·right;omega
  have hH:HoldsK f e.k w g0 0 xs.toArray:=by
   intro j hj
   rw[size_flatK] at hj
   have hj':j<xs.length * e.k:=by simpa using hj
   have h2:(flatK f e.k xs.toArray)[j]?=cur[j]?:=by
    rw[← Array.getElem?_toList,qw hk hk0]
    rcases hcell j with h|h
    ·exact h
    ·omega
   have hjs:j<(flatK f e.k xs.toArray).size:=by rw[size_flatK];exact hj
   have hB1:Blk w g0 cur ty:=hheap
   constructor
   ·rw[Nat.zero_add,hB1.cell,← h2,Array.getElem?_eq_getElem hjs,getElem!_pos _ j hjs];rfl
   ·simp[World.frozen?,hheap]
  have hblk:g0<w.heap.size:=(Array.getElem?_eq_some_iff.1 hheap).1
  have hcmp:CmpLays P g #[] f e.k cf g0 0 xs.toArray.size w:=fun m os dk hd x y=>by simpa using hc x y _
  refine (AnyQ.slices_SortFunc L e.k aE zE f hk h1 cf hO g #[] g0 0 cap xs.toArray w eg hcmp hH hblk (by simp;omega)).mono ?_
  rintro en w' ⟨h2,d',n,os,hp,hs,rfl⟩
  have hds:d'.size=xs.length:=by simpa using hp.1
  have hperm:d'.toList.Perm xs:=by
   have:=hp.2.2
   rw[Array.extract_eq_self_of_le (by simp[hds]),Array.extract_eq_self_of_le (by simp)] at this
   simpa using this
  refine⟨h2,d'.toList,hperm,?_,?_,?_⟩
  ·rw[List.pairwise_iff_getElem]
   intro i j hi hj hij
   have:=hs i j (Nat.zero_le _) hij (by simpa[hds] using hj)
   simp only[Array.length_toList] at hi hj
   rw[getElem!_pos d' j hj,getElem!_pos d' i hi] at this
   simpa using this
  ·have hF:(flatK f e.k d').size=xs.length * e.k:=by rw[size_flatK,hds]
   have hcut:xs.length * e.k≤cur.size:=by rw[hcur];exact Nat.mul_le_mul_right _ hcap
   have hh:(sortWorldK f e.k w g0 0 n d' os).heap[g0]?=some (.cells (putCells id 0 (flatK f e.k d') cur) ty (0,0)):=by
    unfold sortWorldK grow putRowK putRow mapBlock
    simp only
    rw[Array.getElem?_append_left (by simpa[Sort.ahead] using hblk),Array.getElem?_modify,if_pos rfl]
    have:(Sort.ahead w n).heap[g0]?=some (Obj.cells cur ty (0,0)):=hheap
    rw[this];rfl
   have hput:(putCells id 0 (flatK f e.k d') cur).toList.take (xs.length * e.k)=d'.toList.flatMap f:=by
    rw[← qw hk hk0]
    apply List.ext_getElem?
    intro j
    rw[List.getElem?_take]
    by_cases hj:j<xs.length * e.k
    ·rw[if_pos hj,Array.getElem?_toList,Array.getElem?_toList,putCells,Array.getElem?_mapIdx,Array.getElem?_eq_getElem (show j<cur.size by omega),Option.map_some,if_pos ⟨Nat.zero_le _,by rw[Nat.zero_add,hF];exact hj⟩]
     have hjf:j<(flatK f e.k d').size:=by rw[hF];exact hj
     rw[Nat.sub_zero,getElem!_pos _ j hjf,Array.getElem?_eq_getElem hjf];rfl
    ·rw[if_neg hj,List.getElem?_eq_none]
     simp only[Array.length_toList,hF];omega
   refine⟨⟨d'.toList.flatMap f,⟨by rw[qv hk],.inr ⟨g0,cap,_,by simp[hds],hB,hh,by simpa[hds] using hcap,hmax,by simpa[putCells] using hcur,by simpa[hds] using hput⟩⟩,(jF hf _ _).2 rfl⟩,Ho.av,?_⟩
   exact Nat.le_trans Ho.base (size_sortWorldK_c f e.k w g0 0 n d' os)
  ·refine⟨rfl,rfl,rfl,size_sortWorldK_c f e.k w g0 0 n d' os,fun b hb hne=>?_⟩
   have hbg:g0≠b:=fun h=>hne (by subst h;rfl)
   unfold sortWorldK grow putRowK putRow mapBlock
   simp only
   rw[Array.getElem?_append_left (by simpa[Sort.ahead] using hb),Array.getElem?_modify,if_neg hbg]
   rfl
end Go.Mono
namespace Go.Proofs
open Go.Shelf
def Tryz.sortV_ren:Go.Shelf.Ren:=⟨fun|6=>112|15=>54|14=>136|28=>108|29=>109|20=>143|21=>144|22=>145|23=>146|24=>147|25=>148|26=>149|27=>150|46=>152|47=>132|48=>133|49=>153|50=>154|57=>155|n=>n,fun|22=>53|24=>55|25=>155|3=>3|39=>105|0=>0|53=>151|55=>45|4=>4|46=>145|45=>144|50=>88|5=>5|9=>9|66=>175|70=>179|76=>186|77=>119|n=>n,fun|n=>n⟩
theorem Tryz.sortV:Go.Proofs.SlLaysF0.n6 Tryz.prog Tryz.sortV_ren:={
 mixed:=by kernel_rfl
 f6:=⟨Tryz.f112.name,by decide,Tryz.func112.trans (congrArg some (by kernel_rfl))⟩
 f14:=⟨Tryz.f136.name,by decide,Tryz.func136.trans (congrArg some (by kernel_rfl))⟩
 f15:=Tryz.func54.trans (congrArg some (by kernel_rfl))
 f20:=⟨Tryz.f143.name,by decide,Tryz.func143.trans (congrArg some (by kernel_rfl))⟩
 f21:=⟨Tryz.f144.name,by decide,Tryz.func144.trans (congrArg some (by kernel_rfl))⟩
 f22:=⟨Tryz.f145.name,by decide,Tryz.func145.trans (congrArg some (by kernel_rfl))⟩
 f23:=⟨Tryz.f146.name,by decide,Tryz.func146.trans (congrArg some (by kernel_rfl))⟩
 f24:=⟨Tryz.f147.name,by decide,Tryz.func147.trans (congrArg some (by kernel_rfl))⟩
 f25:=⟨Tryz.f148.name,by decide,Tryz.func148.trans (congrArg some (by kernel_rfl))⟩
 f26:=⟨Tryz.f149.name,by decide,Tryz.func149.trans (congrArg some (by kernel_rfl))⟩
 f27:=⟨Tryz.f150.name,by decide,Tryz.func150.trans (congrArg some (by kernel_rfl))⟩
 f28:=Tryz.func108.trans (congrArg some (by kernel_rfl))
 f29:=Tryz.func109.trans (congrArg some (by kernel_rfl))
 f46:=⟨Tryz.f152.name,by decide,Tryz.func152.trans (congrArg some (by kernel_rfl))⟩
 f47:=Tryz.func132.trans (congrArg some (by kernel_rfl))
 f48:=Tryz.func133.trans (congrArg some (by kernel_rfl))
 f49:=⟨Tryz.f153.name,by decide,Tryz.func153.trans (congrArg some (by kernel_rfl))⟩
 f50:=⟨Tryz.f154.name,by decide,Tryz.func154.trans (congrArg some (by kernel_rfl))⟩
 f57:=⟨Tryz.f155.name,by decide,Tryz.func155.trans (congrArg some (by kernel_rfl))⟩
 t0:=Tryz.underlying0
 a0:=Tryz.isAgg0
 z0:=Tryz.sizeOf0
 v0:=Tryz.zeroValue0
 t3:=Tryz.underlying3
 a3:=Tryz.isAgg3
 z3:=Tryz.sizeOf3
 v3:=Tryz.zeroValue3
 t4:=Tryz.underlying4
 a4:=Tryz.isAgg4
 z4:=Tryz.sizeOf4
 v4:=Tryz.zeroValue4
 t5:=Tryz.underlying5
 a5:=Tryz.isAgg5
 z5:=Tryz.sizeOf5
 v5:=Tryz.zeroValue5
 t9:=Tryz.underlying9
 a9:=Tryz.isAgg9
 z9:=Tryz.sizeOf9
 v9:=Tryz.zeroValue9
 t22:=Tryz.underlying53
 a22:=Tryz.isAgg53
 z22:=Tryz.sizeOf53
 v22:=Tryz.zeroValue53
 t25:=Tryz.underlying155
 a25:=Tryz.isAgg155
 z25:=Tryz.sizeOf155
 v25:=Tryz.zeroValue155
 t39:=Tryz.underlying105
 a39:=Tryz.isAgg105
 z39:=Tryz.sizeOf105
 v39:=Tryz.zeroValue105
 t45:=Tryz.underlying144
 a45:=Tryz.isAgg144
 z45:=Tryz.sizeOf144
 v45:=Tryz.zeroValue144
 t46:=Tryz.underlying145
 a46:=Tryz.isAgg145
 z46:=Tryz.sizeOf145
 v46:=Tryz.zeroValue145
 t50:=Tryz.underlying88
 a50:=Tryz.isAgg88
 z50:=Tryz.sizeOf88
 v50:=Tryz.zeroValue88
 t53:=Tryz.underlying151
 a53:=Tryz.isAgg151
 z53:=Tryz.sizeOf151
 v53:=Tryz.zeroValue151
 t55:=Tryz.underlying45
 a55:=Tryz.isAgg45
 z55:=Tryz.sizeOf45
 v55:=Tryz.zeroValue45
 t66:=Tryz.underlying175
 a66:=Tryz.isAgg175
 z66:=Tryz.sizeOf175
 v66:=Tryz.zeroValue175
 t70:=Tryz.underlying179
 a70:=Tryz.isAgg179
 z70:=Tryz.sizeOf179
 v70:=Tryz.zeroValue179
 t76:=Tryz.underlying186
 a76:=Tryz.isAgg186
 z76:=Tryz.sizeOf186
 v76:=Tryz.zeroValue186
 t77:=Tryz.underlying119
 a77:=Tryz.isAgg119
 z77:=Tryz.sizeOf119
 v77:=Tryz.zeroValue119 }
def Tryz.sortE_ren:Go.Shelf.Ren:=⟨fun|6=>21|15=>54|14=>53|28=>108|29=>109|20=>100|21=>101|22=>102|23=>103|24=>104|25=>105|26=>106|27=>107|46=>131|47=>132|48=>133|49=>134|50=>135|57=>142|n=>n,fun|22=>31|24=>36|25=>70|3=>3|39=>105|0=>0|53=>151|55=>45|4=>4|46=>145|45=>144|50=>88|5=>5|9=>9|66=>175|70=>179|76=>186|77=>119|n=>n,fun|n=>n⟩
theorem Tryz.sortE:Go.Proofs.SlLaysF0.n6 Tryz.prog Tryz.sortE_ren:={
 mixed:=by kernel_rfl
 f6:=⟨Tryz.f21.name,by decide,Tryz.func21.trans (congrArg some (by kernel_rfl))⟩
 f14:=⟨Tryz.f53.name,by decide,Tryz.func53.trans (congrArg some (by kernel_rfl))⟩
 f15:=Tryz.func54.trans (congrArg some (by kernel_rfl))
 f20:=⟨Tryz.f100.name,by decide,Tryz.func100.trans (congrArg some (by kernel_rfl))⟩
 f21:=⟨Tryz.f101.name,by decide,Tryz.func101.trans (congrArg some (by kernel_rfl))⟩
 f22:=⟨Tryz.f102.name,by decide,Tryz.func102.trans (congrArg some (by kernel_rfl))⟩
 f23:=⟨Tryz.f103.name,by decide,Tryz.func103.trans (congrArg some (by kernel_rfl))⟩
 f24:=⟨Tryz.f104.name,by decide,Tryz.func104.trans (congrArg some (by kernel_rfl))⟩
 f25:=⟨Tryz.f105.name,by decide,Tryz.func105.trans (congrArg some (by kernel_rfl))⟩
 f26:=⟨Tryz.f106.name,by decide,Tryz.func106.trans (congrArg some (by kernel_rfl))⟩
 f27:=⟨Tryz.f107.name,by decide,Tryz.func107.trans (congrArg some (by kernel_rfl))⟩
 f28:=Tryz.func108.trans (congrArg some (by kernel_rfl))
 f29:=Tryz.func109.trans (congrArg some (by kernel_rfl))
 f46:=⟨Tryz.f131.name,by decide,Tryz.func131.trans (congrArg some (by kernel_rfl))⟩
 f47:=Tryz.func132.trans (congrArg some (by kernel_rfl))
 f48:=Tryz.func133.trans (congrArg some (by kernel_rfl))
 f49:=⟨Tryz.f134.name,by decide,Tryz.func134.trans (congrArg some (by kernel_rfl))⟩
 f50:=⟨Tryz.f135.name,by decide,Tryz.func135.trans (congrArg some (by kernel_rfl))⟩
 f57:=⟨Tryz.f142.name,by decide,Tryz.func142.trans (congrArg some (by kernel_rfl))⟩
 t0:=Tryz.underlying0
 a0:=Tryz.isAgg0
 z0:=Tryz.sizeOf0
 v0:=Tryz.zeroValue0
 t3:=Tryz.underlying3
 a3:=Tryz.isAgg3
 z3:=Tryz.sizeOf3
 v3:=Tryz.zeroValue3
 t4:=Tryz.underlying4
 a4:=Tryz.isAgg4
 z4:=Tryz.sizeOf4
 v4:=Tryz.zeroValue4
 t5:=Tryz.underlying5
 a5:=Tryz.isAgg5
 z5:=Tryz.sizeOf5
 v5:=Tryz.zeroValue5
 t9:=Tryz.underlying9
 a9:=Tryz.isAgg9
 z9:=Tryz.sizeOf9
 v9:=Tryz.zeroValue9
 t22:=Tryz.underlying31
 a22:=Tryz.isAgg31
 z22:=Tryz.sizeOf31
 v22:=Tryz.zeroValue31
 t25:=Tryz.underlying70
 a25:=Tryz.isAgg70
 z25:=Tryz.sizeOf70
 v25:=Tryz.zeroValue70
 t39:=Tryz.underlying105
 a39:=Tryz.isAgg105
 z39:=Tryz.sizeOf105
 v39:=Tryz.zeroValue105
 t45:=Tryz.underlying144
 a45:=Tryz.isAgg144
 z45:=Tryz.sizeOf144
 v45:=Tryz.zeroValue144
 t46:=Tryz.underlying145
 a46:=Tryz.isAgg145
 z46:=Tryz.sizeOf145
 v46:=Tryz.zeroValue145
 t50:=Tryz.underlying88
 a50:=Tryz.isAgg88
 z50:=Tryz.sizeOf88
 v50:=Tryz.zeroValue88
 t53:=Tryz.underlying151
 a53:=Tryz.isAgg151
 z53:=Tryz.sizeOf151
 v53:=Tryz.zeroValue151
 t55:=Tryz.underlying45
 a55:=Tryz.isAgg45
 z55:=Tryz.sizeOf45
 v55:=Tryz.zeroValue45
 t66:=Tryz.underlying175
 a66:=Tryz.isAgg175
 z66:=Tryz.sizeOf175
 v66:=Tryz.zeroValue175
 t70:=Tryz.underlying179
 a70:=Tryz.isAgg179
 z70:=Tryz.sizeOf179
 v70:=Tryz.zeroValue179
 t76:=Tryz.underlying186
 a76:=Tryz.isAgg186
 z76:=Tryz.sizeOf186
 v76:=Tryz.zeroValue186
 t77:=Tryz.underlying119
 a77:=Tryz.isAgg119
 z77:=Tryz.sizeOf119
 v77:=Tryz.zeroValue119 }
end Go.Proofs
namespace Go.Mono
open Go Go.Proofs Go.RowKit Go.Gr Go.Sort
instance:Inhabited VT:=⟨(0,(0,0))⟩
instance:Inhabited ET:=⟨((0,0),(0,0))⟩
theorem yl (x y:Int):decide (MonoD.cmpI x y<0)=decide (x<y):=by
 unfold MonoD.cmpI
 by_cases h1:x<y
 ·simp[h1]
 ·by_cases h2:y<x <;> simp[h1,h2]
theorem jH (x y:VT):ltOf (fun x y:VT=>MonoD.cmpI x.1 y.1) x y=lt1 x.1 y.1:=yl _ _
theorem jI (x y:ET):ltOf (fun x y:ET=>MonoD.orI (MonoD.cmpI x.1.1 y.1.1) (MonoD.cmpI x.1.2 y.1.2)) x y=lt2 x.1 y.1:=by
 unfold ltOf MonoD.orI MonoD.cmpI lt2
 by_cases h1:x.1.1<y.1.1
 ·simp[h1]
 ·by_cases h2:y.1.1<x.1.1
  ·simp[h1,h2];omega
  ·have:x.1.1=y.1.1:=by omega
   by_cases h3:x.1.2<y.1.2
   ·simp[h1,h2,h3,this]
   ·by_cases h4:y.1.2<x.1.2 <;> simp[h1,h2,h3,h4,this]
theorem ym:SWO (ltOf fun x y:VT=>MonoD.cmpI x.1 y.1) where
 irrefl x:=by rw[jH];simp[lt1]
 trans x y z h1 h2:=by rw[jH] at *;exact oa h1 h2
 ntrans x y z h1 h2:=by rw[jH] at *;simp only[lt1,decide_eq_false_iff_not] at *;omega
theorem qx:SWO (ltOf fun x y:ET=>MonoD.orI (MonoD.cmpI x.1.1 y.1.1) (MonoD.cmpI x.1.2 y.1.2)) where
 irrefl x:=by rw[jI];exact vm _
 trans x y z h1 h2:=by rw[jI] at *;exact lj h1 h2
 ntrans x y z h1 h2:=by rw[jI] at *;simp only[lt2,decide_eq_false_iff_not] at *;omega
def vtL (x:VT):List Value:=[.int .i64 x.1,.int .u8 x.2.1,.int .i64 x.2.2]
def etL (x:ET):List Value:=[.int .i64 x.1.1,.int .i64 x.1.2,.int .u8 x.2.1,.int .i64 x.2.2]
theorem yn (G:Nat→Prop)(w:World)(x:VT)(cs:List Value):vtE.r G w x cs↔cs=vtL x:=
 ⟨fun⟨c,d,h,h1,c2,d2,h2,h3,h4⟩=>by cases h1;cases h3;cases h4;subst h2;subst h;rfl,fun h=>⟨_,_,by rw[h];rfl,rfl,_,_,rfl,rfl,rfl⟩⟩
theorem qy (G:Nat→Prop)(w:World)(x:ET)(cs:List Value):etE.r G w x cs↔cs=etL x:=
 ⟨fun⟨c,d,h,⟨c1,d1,h1,h1a,h1b⟩,c2,d2,h2,h3,h4⟩=>by cases h1a;cases h1b;cases h3;cases h4;subst h1;subst h2;subst h;rfl,fun h=>⟨_,_,by rw[h];rfl,⟨_,_,rfl,rfl,rfl⟩,_,_,rfl,rfl,rfl⟩⟩
theorem yo {B:Nat}{G:Nat→Prop}{w:World}{xs:List VT}{v:Value}(Ho:OwR vtE 55 B G w xs v)(hl:xs.length≤100000) :
  Calls Tryz.prog 112 #[v,.func (.func 113) #[] #[]] w fun en w'=>en=.returned (.tuple #[])∧∃xs',xs'.Perm xs∧xs'.Pairwise (fun x y=>lt1 y.1 x.1=false)∧OwR vtE 55 B G w' xs' v∧Chg (fun b=>v.ownBlock=some b) w w':=
 (jG (e:=vtE) Tryz.sortV (fun w=>T55.agg w) (fun w=>T55.size w) vtL yn (fun _=>rfl) (fun x u hu=>by simp[vtL] at hu;rcases hu with rfl|rfl|rfl <;> rfl) _ ym 113 uh
  (fun x y W=>(MonoD.cmpV_spec x y W).mono fun en w' ⟨u,h1,h2,h3⟩=>by cases h3;exact⟨h1,h2.grown⟩) Ho hl).mono fun en w' ⟨h1,xs',h2,h3,h4,h5⟩=>⟨h1,xs',h2,h3.imp fun {a b} h=>by rwa [jH] at h,h4,h5⟩
theorem yp {B:Nat}{G:Nat→Prop}{w:World}{xs:List ET}{v:Value}(Ho:OwR etE 36 B G w xs v)(hl:xs.length≤100000) :
  Calls Tryz.prog 21 #[v,.func (.func 99) #[] #[]] w fun en w'=>en=.returned (.tuple #[])∧∃xs',xs'.Perm xs∧xs'.Pairwise (fun x y=>lt2 y.1 x.1=false)∧OwR etE 36 B G w' xs' v∧Chg (fun b=>v.ownBlock=some b) w w':=
 (jG (e:=etE) Tryz.sortE (fun w=>T36.agg w) (fun w=>T36.size w) etL qy (fun _=>rfl) (fun x u hu=>by simp[etL] at hu;rcases hu with rfl|rfl|rfl|rfl <;> rfl) _ qx 99 ud
  (fun x y W=>(MonoD.cmpE_spec x y W).mono fun en w' ⟨u,h1,h2,h3⟩=>by cases h3;exact⟨h1,h2.grown⟩) Ho hl).mono fun en w' ⟨h1,xs',h2,h3,h4,h5⟩=>⟨h1,xs',h2,h3.imp fun {a b} h=>by rwa [jI] at h,h4,h5⟩
theorem bVx (x:VT):Tryz.prog.built 55 [(0,.int .i64 x.1),(1,.int .u8 x.2.1),(2,.int .i64 x.2.2)]=some #[.int .i64 x.1,.int .u8 x.2.1,.int .i64 x.2.2]:=by kernel_rfl
theorem bEx (x:ET):Tryz.prog.built 36 [(0,.int .i64 x.1.1),(1,.int .i64 x.1.2),(2,.int .u8 x.2.1),(3,.int .i64 x.2.2)]=some #[.int .i64 x.1.1,.int .i64 x.1.2,.int .u8 x.2.1,.int .i64 x.2.2]:=by kernel_rfl
theorem yq {G:Nat→Prop}{N:Nat}(g:GT)(v:Value)(W:World)(h:(Dv (ptE (grE N)) G (some g)).p v W)(hG:∀b,G b→b<W.heap.size)(hs:g.1.Pairwise fun x y=>lt1 x.1 y.1=true)(hl:g.1.length≤100000)(hN:N≤1000000) :
  Calls Tryz.prog 78 #[v] W (Post (OwA vtE 55 W.heap.size G g.1) W):=by
 refine enter (args:=[v]) (As:=[Dv (ptE (grE N)) (GB W G) (some g)]) Tryz.func78 rfl Tryz.ntmps78 (Nat.le_of_ble_eq_true rfl) ?_ (fun a hf=>?_) (Nat.le_of_ble_eq_true rfl)
 rotate_left
 dsimp only[params,Nat.reduceAdd] at hf
 rotate_right
 ·exact arg1 (Dv.toB h)
 have e:=Ext.rfl' W
 refine seq ?_
 refine aj ?_
 refine ae hf rfl (by decide) fun a hf=>?_
 refine aa ?_
 repeat refine seq ?_
 refine ac 2 hf (by decide +kernel) ?_
 refine st (mv rfl) ?_
 refine st (fh Tryz.underlying28 (isR rfl)) ?_
 refine en fun a w e' hf=>?_
 replace e:=e.tr e'
 refine aa ?_
 refine ifc hf rfl (fun h=>by cases h) (fun _=>?_)
 refine ar ?_
 simp only[Exit.then,Exit.inBlock,↓reduceIte]
 refine seq ?_
 refine aj ?_
 refine ae hf rfl (by decide) fun a hf=>?_
 refine aa ?_
 repeat refine seq ?_
 refine ac 4 hf (by decide +kernel) ?_
 refine st (mv rfl) ?_
 refine st (fg (isR rfl)) ?_
 refine st (aH Tryz.underlying112 rfl dQ (by decide) (Fld.fst Fld.refl) (isR rfl)) ?_
 refine st (ldD dQ (isR rfl)) ?_
 refine en fun a w e' hf=>?_
 replace e:=e.tr e'
 clear e'
 obtain⟨_,⟨cs,⟨bm,nm,rfl,hGm,hNm,HM⟩,rfl⟩,hf⟩:=hf.fix 11 rfl
 have hbm:bm<W.heap.size:=Nat.lt_of_not_le fun h=>hGm (.inr h)
 refine pz (V:=vKV) Tryz.underlying109 hf (by decide) rfl HM fun a r w e' hr hsr HR hf=>?_
 have hrW:W.heap.size≤r:=Nat.le_trans e.size (Nat.le_of_eq hr.symm)
 replace e:=e.tr e'
 have hrs:r+1≤w.heap.size:=by omega
 clear HM e'
 refine aa ?_
 replace hf:=hf.kp [2,3,12]
 refine blk (aW (fun r0 a w=>∃(old rest:List VT) (u:Value),r0=rest.length∧Fr 30 a w [(2,E (.slice none 0 0)),(3,E u),(12,E (.pointer (some ⟨r,0,none⟩)))]∧Ext W w∧RgR vKV w bm r nm old rest∧OwR vtE 55 (r+1) G w old u∧(old++rest).Perm g.1) g.1.length ⟨[],g.1,.slice none 0 0,rfl,hf,e,HR,OwR.nil vtE _ hrs fun b hb=>Nat.lt_of_lt_of_le (hG b hb) (by omega),List.Perm.refl _⟩ ?_)
 clear hf e HR hrs
 rintro r0 a w ⟨old,rest,u,rfl,hf,e,HR,Ho,hp⟩
 refine seq ?_
 refine aj ?_
 refine pA hf (by decide) rfl HR (fun a hrest hf=>?_) (fun a w' x c hm hg HR hen hf=>?_)
 ·refine fk hf (by decide) rfl rfl fun a hf=>?_
  refine aa ?_
  refine seq ?_
  refine ifc hf rfl (fun h=>by cases h) (fun _=>?_)
  refine aR ?_
  simp only[Exit.then,Exit.inBlock,↓reduceIte]
  subst hrest
  rw[List.append_nil] at hp
  replace hf:=hf.kp [2,3]
  refine seq ?_
  refine ac 1 hf (by decide +kernel) ?_
  refine st (mv rfl) ?_
  refine en fun a w e' hf=>?_
  replace Ho:=Ho.ext e'
  replace e:=e.tr e'
  clear e'
  refine cq (S:=fun b=>u.ownBlock=some b) (F:=fun z w'=>OwR vtE 55 (r+1) G w' g.1 u) hf (by decide) ug ?_ fun a z w hc hF hf=>?_
  ·have e27:a.eval (.tmp 27)=u:=hf.opd (.tmp 27) _ rfl
   have eF:a.eval (.func 113)=.func (.func 113) #[] #[]:=rfl
   simp only[List.map_toArray,List.map_cons,List.map_nil,e27,eF]
   exact (yo Ho (by rw[hp.length_eq];exact hl)).mono fun en w' ⟨k1,xs',k2,k3,k4,k5⟩=>⟨_,k1,k5,by rw[← ll (lt:=fun x y:VT=>lt1 x.1 y.1) (k2.trans hp) hs k3];exact k4⟩
  replace e:=e.ch hc (fun b hb=>by have:=(Ho.lt hb).1;omega)
  clear hc Ho
  refine aa ?_
  replace hf:=hf.kp [2,3]
  refine seq ?_
  refine ac 1 hf (by decide +kernel) ?_
  refine st (mv rfl) ?_
  refine en fun a w e' hf=>?_
  replace hF:=hF.ext e'
  replace e:=e.tr e'
  refine ae hf rfl (by decide) fun a hf=>?_
  refine aa ?_
  refine an ?_
  refine az rfl hf rfl ?_
  rintro _ rfl
  exact⟨_,rfl,e,hF.low (by omega) hG⟩
 ·have nr:u.ownBlock≠some r:=Ho.neLt (by omega)
  have HR0:(old++rest).Pairwise (fun p q:VT=>p.1≠q.1):=(hp.pairwise_iff (fun {_ _} hne=>Ne.symm hne)).2 (hs.imp fun {a b} h=>(iq h).2)
  replace e:=e.gr hg hrW;replace Ho:=Ho.grE hg nr;clear hg nr
  refine fk hf (by decide) rfl rfl fun a hf=>?_
  refine aa ?_
  refine seq ?_
  refine ifc hf rfl (fun _=>?_) (fun h=>by cases h)
  refine ar ?_
  simp only[Exit.then,Exit.inBlock,↓reduceIte]
  refine blk ?_
  refine seq ?_
  refine aj ?_
  refine pB hf (by decide) rfl hen fun a hf=>?_
  clear hen
  have hlen:old.length+1≤g.1.length:=by
   have h1:=hp.length_eq;have h2:0<rest.length:=List.length_pos_of_mem hm
   rw[List.length_append] at h1;omega
  replace hf:=hf.kp [2,3,12,15]
  refine fk hf (by decide) rfl rfl fun a hf=>?_
  refine fk hf (by decide) rfl rfl fun a hf=>?_
  have lr:=HR.lt
  refine aC eZ hf (by decide) fun a b5 w e' hb5 hs5 B5 hf=>?_
  have hle5:=Nat.le_trans e.size (Nat.le_of_eq hb5.symm)
  have ne5_Ho:=Ho.ne_new hb5
  replace HR:=HR.ext e'
  replace Ho:=Ho.ext e'
  replace e:=e.tr e'
  refine ae hf rfl (by decide) fun a hf=>?_
  have n5:=ne5_Ho
  have h5r:r<b5∧bm<b5:=by omega
  replace HR:RgR vKV w bm r nm (old++[(x,c)]) (rest.filter fun p => !decide (p.1=x)):=HR
  replace hf:=hf.kp [2,3,4,5,12,17]
  refine aF ie hf rfl rfl (bR rfl rfl) B5 rfl rfl fun w hg' hsz B5 hf=>?_
  replace e:=e.gr hg' (by omega);replace HR:=HR.gr hg' (fun h=>by cases h;omega) (fun h=>by cases h;omega);replace Ho:=Ho.grE hg' n5;clear hg'
  refine aa ?_
  replace hf:=hf.kp [2,3,4,5,12]
  refine ac 8 hf (by decide +kernel) ?_
  refine st (mv rfl) ?_
  refine st (mv rfl) ?_
  refine st (am Tryz.underlying107 rfl T5 (by decide) rfl) ?_
  refine st (ld1 T5 rfl B5 rfl) ?_
  refine st (am Tryz.underlying107 rfl T3 (by decide) rfl) ?_
  refine st (ld1 T3 rfl B5 rfl) ?_
  refine st (oi (x,c) (bVx (x,c)) rfl rfl rfl) ?_
  refine st (bL Tryz.underlying53 I55 rfl (by decide) rfl Ho.avs (dJ rfl)) ?_
  refine en fun a w e' hf=>?_
  replace HR:=HR.ext e'
  replace Ho:=Ho.ext e'
  replace e:=e.tr e'
  replace B5:=B5.ext e'
  clear e'
  haveI hin:∀G0,InR (GB W G0) _:=OwR.inGB (W:=W) Ho (by omega)
  refine bQ Tryz.underlying53 I55 rfl rfl hf (by decide) rfl Ho (isR rfl) (by simp only[List.length_singleton];omega) (by simp only[List.length_singleton,maxLen];omega) fun a v w hg hat Hn hf=>?_
  replace e:=e.gro hg (Ho.row (W:=W) (by omega))
  have hrow:=Ho.row (W:=W) (by omega)
  replace HR:=HR.gr hg (fun h=>by have:=(Ho.lt h.symm).1;omega) (fun h=>by have:=(Ho.lt h.symm).1;omega)
  replace Ho:=Hn
  clear hrow
  replace B5:=B5.gro hg (by assumption)
  replace Ho:=Hn;clear Hn hg hat hin
  refine ae hf rfl (by decide) fun a hf=>?_
  refine aa ?_
  simp only[Exit.then,Exit.inBlock,↓reduceIte]
  replace hf:=hf.kp [2,3,12]
  refine⟨_,?_,old++[(x,c)],_,_,rfl,hf,e,HR,Ho,?_⟩
  ·have:=(gG (List.pairwise_append.1 HR0).2.1 hm).length_eq
   simp only[List.length_cons] at this;omega
  ·rw[List.append_assoc];exact (List.Perm.append_left old (gG (List.pairwise_append.1 HR0).2.1 hm).symm).trans hp
theorem yr {G:Nat→Prop}{N:Nat}(g:GT)(v:Value)(W:World)(h:(Dv (ptE (grE N)) G (some g)).p v W)(hG:∀b,G b→b<W.heap.size)(hs:g.2.Pairwise fun x y=>lt2 x.1 y.1=true)(hl:g.2.length≤100000)(hN:N≤1000000) :
  Calls Tryz.prog 51 #[v] W (Post (OwA etE 36 W.heap.size G g.2) W):=by
 refine enter (args:=[v]) (As:=[Dv (ptE (grE N)) (GB W G) (some g)]) Tryz.func51 rfl Tryz.ntmps51 (Nat.le_of_ble_eq_true rfl) ?_ (fun a hf=>?_) (Nat.le_of_ble_eq_true rfl)
 rotate_left
 dsimp only[params,Nat.reduceAdd] at hf
 rotate_right
 ·exact arg1 (Dv.toB h)
 have e:=Ext.rfl' W
 refine seq ?_
 refine aj ?_
 refine ae hf rfl (by decide) fun a hf=>?_
 refine aa ?_
 repeat refine seq ?_
 refine ac 2 hf (by decide +kernel) ?_
 refine st (mv rfl) ?_
 refine st (fh U28 (isR rfl)) ?_
 refine en fun a w e' hf=>?_
 replace e:=e.tr e'
 refine aa ?_
 refine ifc hf rfl (fun h=>by cases h) (fun _=>?_)
 refine ar ?_
 simp only[Exit.then,Exit.inBlock,↓reduceIte]
 refine seq ?_
 refine aj ?_
 refine ae hf rfl (by decide) fun a hf=>?_
 refine aa ?_
 repeat refine seq ?_
 refine ac 4 hf (by decide +kernel) ?_
 refine st (mv rfl) ?_
 refine st (fg (isR rfl)) ?_
 refine st (aH eE rfl dR (by decide) (Fld.snd Fld.refl rfl) (isR rfl)) ?_
 refine st (ldD dR (isR rfl)) ?_
 refine en fun a w e' hf=>?_
 replace e:=e.tr e'
 clear e'
 obtain⟨_,⟨cs,⟨bm,nm,rfl,hGm,hNm,HM⟩,rfl⟩,hf⟩:=hf.fix 11 rfl
 have hbm:bm<W.heap.size:=Nat.lt_of_not_le fun h=>hGm (.inr h)
 refine pz (V:=eKV) ij hf (by decide) rfl HM fun a r w e' hr hsr HR hf=>?_
 have hrW:W.heap.size≤r:=Nat.le_trans e.size (Nat.le_of_eq hr.symm)
 replace e:=e.tr e'
 have hrs:r+1≤w.heap.size:=by omega
 clear HM e'
 refine aa ?_
 replace hf:=hf.kp [2,3,12]
 refine blk (aW (fun r0 a w=>∃(old rest:List ET) (u:Value),r0=rest.length∧Fr 33 a w [(2,E (.slice none 0 0)),(3,E u),(12,E (.pointer (some ⟨r,0,none⟩)))]∧Ext W w∧RgR eKV w bm r nm old rest∧OwR etE 36 (r+1) G w old u∧(old++rest).Perm g.2) g.2.length ⟨[],g.2,.slice none 0 0,rfl,hf,e,HR,OwR.nil etE _ hrs fun b hb=>Nat.lt_of_lt_of_le (hG b hb) (by omega),List.Perm.refl _⟩ ?_)
 clear hf e HR hrs
 rintro r0 a w ⟨old,rest,u,rfl,hf,e,HR,Ho,hp⟩
 refine seq ?_
 refine aj ?_
 refine pA hf (by decide) rfl HR (fun a hrest hf=>?_) (fun a w' x c hm hg HR hen hf=>?_)
 ·refine fk hf (by decide) rfl rfl fun a hf=>?_
  refine aa ?_
  refine seq ?_
  refine ifc hf rfl (fun h=>by cases h) (fun _=>?_)
  refine aR ?_
  simp only[Exit.then,Exit.inBlock,↓reduceIte]
  subst hrest
  rw[List.append_nil] at hp
  replace hf:=hf.kp [2,3]
  refine seq ?_
  refine ac 1 hf (by decide +kernel) ?_
  refine st (mv rfl) ?_
  refine en fun a w e' hf=>?_
  replace Ho:=Ho.ext e'
  replace e:=e.tr e'
  clear e'
  refine cq (S:=fun b=>u.ownBlock=some b) (F:=fun z w'=>OwR etE 36 (r+1) G w' g.2 u) hf (by decide) ng ?_ fun a z w hc hF hf=>?_
  ·have e30:a.eval (.tmp 30)=u:=hf.opd (.tmp 30) _ rfl
   have eF:a.eval (.func 99)=.func (.func 99) #[] #[]:=rfl
   simp only[List.map_toArray,List.map_cons,List.map_nil,e30,eF]
   exact (yp Ho (by rw[hp.length_eq];exact hl)).mono fun en w' ⟨k1,xs',k2,k3,k4,k5⟩=>⟨_,k1,k5,by rw[← ll (lt:=fun x y:ET=>lt2 x.1 y.1) (k2.trans hp) hs k3];exact k4⟩
  replace e:=e.ch hc (fun b hb=>by have:=(Ho.lt hb).1;omega)
  clear hc Ho
  refine aa ?_
  replace hf:=hf.kp [2,3]
  refine seq ?_
  refine ac 1 hf (by decide +kernel) ?_
  refine st (mv rfl) ?_
  refine en fun a w e' hf=>?_
  replace hF:=hF.ext e'
  replace e:=e.tr e'
  refine ae hf rfl (by decide) fun a hf=>?_
  refine aa ?_
  refine an ?_
  refine az rfl hf rfl ?_
  rintro _ rfl
  exact⟨_,rfl,e,hF.low (by omega) hG⟩
 ·have nr:u.ownBlock≠some r:=Ho.neLt (by omega)
  have HR0:(old++rest).Pairwise (fun p q:ET=>p.1≠q.1):=(hp.pairwise_iff (fun {_ _} hne=>Ne.symm hne)).2 (hs.imp fun {a b} h=>(gw h).2)
  replace e:=e.gr hg hrW;replace Ho:=Ho.grE hg nr;clear hg nr
  refine fk hf (by decide) rfl rfl fun a hf=>?_
  refine aa ?_
  refine seq ?_
  refine ifc hf rfl (fun _=>?_) (fun h=>by cases h)
  refine ar ?_
  simp only[Exit.then,Exit.inBlock,↓reduceIte]
  refine blk ?_
  refine seq ?_
  refine aj ?_
  refine pB hf (by decide) rfl hen fun a hf=>?_
  clear hen
  have hlen:old.length+1≤g.2.length:=by
   have h1:=hp.length_eq;have h2:0<rest.length:=List.length_pos_of_mem hm
   rw[List.length_append] at h1;omega
  replace hf:=hf.kp [2,3,12,15]
  refine fk hf (by decide) rfl rfl fun a hf=>?_
  refine fk hf (by decide) rfl rfl fun a hf=>?_
  have lr:=HR.lt
  refine aC mX hf (by decide) fun a b4 w e' hb4 hs4 B4 hf=>?_
  have hle4:=Nat.le_trans e.size (Nat.le_of_eq hb4.symm)
  have ne4_Ho:=Ho.ne_new hb4
  replace HR:=HR.ext e'
  replace Ho:=Ho.ext e'
  replace e:=e.tr e'
  clear e'
  refine aC eZ hf (by decide) fun a b5 w e' hb5 hs5 B5 hf=>?_
  have hle5:=Nat.le_trans e.size (Nat.le_of_eq hb5.symm)
  have ne5_Ho:=Ho.ne_new hb5
  have lt5_B4:=B4.lt
  replace HR:=HR.ext e'
  replace Ho:=Ho.ext e'
  replace e:=e.tr e'
  replace B4:=B4.ext e'
  clear e'
  have n5:=ne5_Ho
  have n4:=ne4_Ho
  have h5r:r<b4∧bm<b4∧b4<b5:=by omega
  replace HR:RgR eKV w bm r nm (old++[(x,c)]) (rest.filter fun p => !decide (p.1=x)):=HR
  replace hf:=hf.kp [2,3,4,5,12,16,17]
  refine aF kz hf rfl rfl (bR rfl rfl) B4 rfl rfl fun w hg' hsz B4 hf=>?_
  replace e:=e.gr hg' (by omega);replace HR:=HR.gr hg' (fun h=>by cases h;omega) (fun h=>by cases h;omega);replace Ho:=Ho.grE hg' n4;replace B5:=B5.gr hg' (by omega);clear hg'
  refine aF ie hf rfl rfl (bR rfl rfl) B5 rfl rfl fun w hg' hsz B5 hf=>?_
  replace e:=e.gr hg' (by omega);replace HR:=HR.gr hg' (fun h=>by cases h;omega) (fun h=>by cases h;omega);replace Ho:=Ho.grE hg' n5;replace B4:=B4.gr hg' (by omega);clear hg'
  refine aa ?_
  replace hf:=hf.kp [2,3,4,5,12]
  refine ac 11 hf (by decide +kernel) ?_
  refine st (mv rfl) ?_
  refine st (am ik rfl T3 (by decide) rfl) ?_
  refine st (ld1 T3 rfl B4 rfl) ?_
  refine st (am ik rfl T3 (by decide) rfl) ?_
  refine st (ld1 T3 rfl B4 rfl) ?_
  refine st (am nz rfl T5 (by decide) rfl) ?_
  refine st (ld1 T5 rfl B5 rfl) ?_
  refine st (am nz rfl T3 (by decide) rfl) ?_
  refine st (ld1 T3 rfl B5 rfl) ?_
  refine st (oj (x,c) (bEx (x,c)) rfl rfl rfl rfl) ?_
  refine st (bL U31 I36 rfl (by decide) rfl Ho.avs (dq rfl)) ?_
  refine en fun a w e' hf=>?_
  replace HR:=HR.ext e'
  replace Ho:=Ho.ext e'
  replace e:=e.tr e'
  replace B4:=B4.ext e'
  replace B5:=B5.ext e'
  clear e'
  haveI hin:∀G0,InR (GB W G0) _:=OwR.inGB (W:=W) Ho (by omega)
  refine bQ U31 I36 rfl rfl hf (by decide) rfl Ho (isR rfl) (by simp only[List.length_singleton];omega) (by simp only[List.length_singleton,maxLen];omega) fun a v w hg hat Hn hf=>?_
  replace e:=e.gro hg (Ho.row (W:=W) (by omega))
  have hrow:=Ho.row (W:=W) (by omega)
  replace HR:=HR.gr hg (fun h=>by have:=(Ho.lt h.symm).1;omega) (fun h=>by have:=(Ho.lt h.symm).1;omega)
  replace Ho:=Hn
  clear hrow
  replace B4:=B4.gro hg (by assumption)
  replace B5:=B5.gro hg (by assumption)
  replace Ho:=Hn;clear Hn hg hat hin
  refine ae hf rfl (by decide) fun a hf=>?_
  refine aa ?_
  simp only[Exit.then,Exit.inBlock,↓reduceIte]
  replace hf:=hf.kp [2,3,12]
  refine⟨_,?_,old++[(x,c)],_,_,rfl,hf,e,HR,Ho,?_⟩
  ·have:=(gG (List.pairwise_append.1 HR0).2.1 hm).length_eq
   simp only[List.length_cons] at this;omega
  ·rw[List.append_assoc];exact (List.Perm.append_left old (gG (List.pairwise_append.1 HR0).2.1 hm).symm).trans hp
end Go.Mono
