/-
  Walks of functions and plain facts.
  No condition.
-/
import Derived.Test.YteildobhcnllmaaGreatDoorTG
import Derived.Test.YteildobhcnllmaaGreatDoorTE
import Derived.Test.YteildobhcnllmaaGreatDoorTF
import Derived.Test.YteildobhcnllmaaGreatDoorTC
import Derived.WideKeyEntry
import Derived.Test.YteildobhcnllmaaGreatDoorTB
import Derived.Test.YteildobhcnllmaaGreatDoorTA
import Derived.Test.YteildobhcnllmaaGreatDoorTD
import Derived.Shelf.SlSortCmp.NoneTotal
import Derived.Test.YteildobhcnllmaaGreatDoorProg
set_option linter.unusedVariables false
set_option linter.unusedSimpArgs false
namespace Go.Mono
open Go Go.Proofs Go.RowKit Go.Gr Go.Ms
def bsF (c:Nat→Nat):List Nat→Nat→Nat
 | [],b=>b
 | v::l,b=>bsF c l (if c b<c v then v else b)
theorem lF (c:Nat→Nat):∀(l:List Nat) (b:Nat),(bsF c l b=b∨bsF c l b∈l)∧c b≤c (bsF c l b)∧∀v∈l,c v≤c (bsF c l b)
 | [],b=>⟨.inl rfl,Nat.le_refl _,fun v hv=>by simp at hv⟩
 | v::l,b=>by
  obtain⟨h1,h2,h3⟩:=lF c l (if c b<c v then v else b)
  rw[bsF]
  by_cases hlt:c b<c v
  ·rw[if_pos hlt] at h1 h2 h3 ⊢
   refine⟨.inr (h1.elim (fun e=>by rw[e];exact List.mem_cons_self ..) fun h=>List.mem_cons_of_mem _ h),by omega,fun x hx=>?_⟩
   rcases List.mem_cons.1 hx with e|hx
   ·rw[e];exact h2
   ·exact h3 x hx
  ·rw[if_neg hlt] at h1 h2 h3 ⊢
   refine⟨h1.elim .inl fun h=>.inr (List.mem_cons_of_mem _ h),h2,fun x hx=>?_⟩
   rcases List.mem_cons.1 hx with e|hx
   ·rw[e];omega
   ·exact h3 x hx
def bsA (c:Nat→Nat)(L:BS):Nat:=bsF c (elems L) ((elems L).headD 0)
theorem oH {c:Nat→Nat}{L:BS}(h:card L≠0):L.getLsbD (bsA c L)=true∧∀v,L.getLsbD v=true→c v≤c (bsA c L):=by
 rw[← eA] at h
 have hm:∀v,v∈elems L↔L.getLsbD v=true:=fun v=>aH.trans ⟨fun k=>k.2,fun k=>⟨ay k,k⟩⟩
 unfold bsA
 generalize elems L=l at h hm
 cases l with
 | nil=>exact absurd rfl h
 | cons x l=>
  obtain⟨h1,h2,h3⟩:=lF c (x::l) ((x::l).headD 0)
  refine⟨(hm _).1 (h1.elim (fun e=>by rw[e];exact List.mem_cons_self ..) id),fun v hv=>h3 v ((hm v).2 hv)⟩
open Classical in
noncomputable def msS (adj:Nat→Nat→Prop)(s:BS×(Nat→Nat)):BS×(Nat→Nat):=
 (del s.1 (bsA s.2 s.1:Nat),fun v=>if (del s.1 (bsA s.2 s.1:Nat)).getLsbD v=true∧Ms.Pt adj (fun y=>(del s.1 (bsA s.2 s.1:Nat)).getLsbD y=true∧s.2 y<s.2 v) (bsA s.2 s.1) v then s.2 v+1 else s.2 v)
noncomputable def msT (adj:Nat→Nat→Prop)(V:BS):Nat→BS×(Nat→Nat)
 | 0=>(V,fun _=>0)
 | k+1=>msS adj (msT adj V k)
theorem lG (adj:Nat→Nat→Prop)(s:BS×(Nat→Nat)):(msS adj s).1=del s.1 (bsA s.2 s.1:Nat):=by rw[msS]
open Classical in
theorem uV {adj:Nat→Nat→Prop}{s:BS×(Nat→Nat)}{v:Nat}(h1:(msS adj s).1.getLsbD v=true)(h2:Ms.Pt adj (fun y=>(msS adj s).1.getLsbD y=true∧s.2 y<s.2 v) (bsA s.2 s.1) v):(msS adj s).2 v=s.2 v+1:=by
 rw[lG] at h1 h2
 rw[msS]
 exact if_pos ⟨h1,h2⟩
open Classical in
theorem uW {adj:Nat→Nat→Prop}{s:BS×(Nat→Nat)}{v:Nat}(h2:¬Ms.Pt adj (fun y=>(msS adj s).1.getLsbD y=true∧s.2 y<s.2 v) (bsA s.2 s.1) v):(msS adj s).2 v=s.2 v:=by
 rw[lG] at h2
 rw[msS]
 exact if_neg fun h=>h2 h.2
open Classical in
theorem a4q {adj:Nat→Nat→Prop}{s:BS×(Nat→Nat)}{v:Nat}(h2:¬(msS adj s).1.getLsbD v=true):(msS adj s).2 v=s.2 v:=by
 rw[lG] at h2
 rw[msS]
 exact if_neg fun h=>h2 h.1
theorem lI (adj:Nat→Nat→Prop)(V:BS)(k:Nat):msT adj V (k+1)=msS adj (msT adj V k):=by rw[msT]
theorem lJ {adj:Nat→Nat→Prop}{V:BS}{k:Nat}:(msT adj V (k+1)).1=del (msT adj V k).1 (bsA (msT adj V k).2 (msT adj V k).1:Nat):=by rw[lI,lG]
theorem uX (f:Nat→BS)(h:∀k v,(f (k+1)).getLsbD v=true→(f k).getLsbD v=true)(m:Nat):∀d v,(f (m+d)).getLsbD v=true→(f m).getLsbD v=true
 | 0,v,hh=>hh
 | d+1,v,hh=>uX f h m d v (h (m+d) v hh)
theorem a4r {S:BS}{a v:Nat}(h:(del S (a:Int)).getLsbD v=true):S.getLsbD v=true:=by
 by_cases hlt:a<1024
 ·exact ((bu _ hlt).1 h).1
 ·unfold del at h
  rw[if_neg] at h
  ·exact h
  ·intro hf
   have:=cN.1 hf
   omega
theorem a4s {adj:Nat→Nat→Prop}{V:BS}(m d v:Nat):(msT adj V (m+d)).1.getLsbD v=true→(msT adj V m).1.getLsbD v=true:=
 uX (fun k=>(msT adj V k).1) (fun k v h=>by
  have h1:(msT adj V (k+1)).1.getLsbD v=true:=h
  rw[lJ] at h1
  exact a4r h1) m d v
theorem a4t {adj:Nat→Nat→Prop}{V:BS}(hs:∀a b,adj a b→adj b a)(hi:∀a b,adj a b→V.getLsbD a=true) :
  Run adj (card V) (fun k=>bsA (msT adj V k).2 (msT adj V k).1) (fun k v=>(msT adj V k).1.getLsbD v=true) (fun k=>(msT adj V k).2):=by
 have hcard:∀k,k≤card V→card (msT adj V k).1+k=card V:=by
  intro k
  induction k with
  | zero=>exact fun _=>Nat.add_zero _
  | succ k ih=>
   intro hk
   have h1:=gR (oH (c:=(msT adj V k).2) (L:=(msT adj V k).1) (fun e=>by omega)).1
   rw[lJ]
   omega
 have hb:∀k,k<card V→(msT adj V k).1.getLsbD (bsA (msT adj V k).2 (msT adj V k).1)=true∧∀v,(msT adj V k).1.getLsbD v=true→(msT adj V k).2 v≤(msT adj V k).2 (bsA (msT adj V k).2 (msT adj V k).1):=fun k hk=>oH (by have:=hcard k (by omega);omega)
 have hall:∀v,¬(msT adj V (card V)).1.getLsbD v=true:=fun v h=>by
  have h1:=hcard (card V) (Nat.le_refl _)
  have h2:=jy h
  omega
 refine⟨hs,hi,fun k hk=>(hb k hk).1,fun k hk v=>by rw[lJ];exact bu _ (ay (hb k hk).1),hall,?_,fun k hk=>(hb k hk).2,fun k hk v h1 h2=>?_,fun k hk v h1 h2=>?_⟩
 rotate_left
 ·rw[lI] at h1 h2 ⊢
  exact uV h1 h2
 ·rw[lI] at h2 ⊢
  exact uW h2
 intro k hk v h
 have hk2:k=card V+(k - card V):=by omega
 generalize card V=m at hk2 ⊢
 rw[hk2] at h
 exact a4s m (k - m) v h
end Go.Mono
namespace Go.Mono
open Go Go.Proofs Go.RowKit Go.Gr Go.Ms
theorem uY:∀(l:List Nat) (S:BS) (i:Nat),(∀x∈l,x<1024)→((l.foldl (fun (S:BS) (x:Nat)=>ins S (x:Int)) S).getLsbD i=true↔S.getLsbD i=true∨i∈l)
 | [],S,i,_=>by simp
 | x::l,S,i,h=>by
  rw[List.foldl_cons,uY l _ i fun y hy=>h y (List.mem_cons_of_mem _ hy),aX S (h x (List.mem_cons_self ..)),List.mem_cons,or_assoc]
open Classical in
noncomputable def ofP (p:Nat→Prop):BS:=((List.range 1024).filter fun i=>decide (p i)).foldl (fun (S:BS) (x:Nat)=>ins S (x:Int)) 0
open Classical in
theorem a4u (p:Nat→Prop)(i:Nat):(ofP p).getLsbD i=true↔i<1024∧p i:=by
 rw[ofP,uY _ _ _ fun x hx=>List.mem_range.1 (List.mem_filter.1 hx).1,List.mem_filter,List.mem_range,decide_eq_true_eq]
 exact⟨fun h=>h.elim (fun h=>absurd h (aW i)) id,.inr⟩
noncomputable def mL (nb:Int→BS)(V:BS)(k:Nat):BS:=(msT (di nb) V k).1
noncomputable def mC (nb:Int→BS)(V:BS)(k:Nat):Nat→Nat:=(msT (di nb) V k).2
noncomputable def mU (nb:Int→BS)(V:BS)(k:Nat):Nat:=bsA (mC nb V k) (mL nb V k)
def MR (nb:Int→BS)(V:BS)(k v:Nat):Prop:=Rc (di nb) (mU nb V) (fun k v=>(mL nb V k).getLsbD v=true) (mC nb V) k v
noncomputable def mR (nb:Int→BS)(V:BS)(k:Nat):BS:=ofP (MR nb V k)
theorem fJ {nb:Int→BS}{V:BS}{k v:Nat}:(mR nb V k).getLsbD v=true↔MR nb V k v:=by
 rw[mR,a4u]
 exact⟨fun h=>h.2,fun h=>⟨ay h.1,h⟩⟩
theorem iH (nb:Int→BS)(V:BS)(k:Nat):mL nb V (k+1)=del (mL nb V k) (mU nb V k:Nat):=lJ
theorem uZ (nb:Int→BS)(V:BS):mL nb V 0=V:=by rw[mL,msT]
theorem va (nb:Int→BS)(V:BS):∀k,k≤card V→card (mL nb V k)+k=card V
 | 0,_=>by rw[uZ,Nat.add_zero]
 | k+1,h=>by
  have ih:=va nb V k (by omega)
  have h1:=gR (oH (c:=mC nb V k) (L:=mL nb V k) (fun e=>by omega)).1
  rw[iH,mU]
  omega
theorem lK (nb:Int→BS)(V:BS):mL nb V 0=V:=by rw[mL,msT]
theorem iI (nb:Int→BS)(V:BS)(v:Nat):mC nb V 0 v=0:=by rw[mC,msT]
theorem lL (nb:Int→BS)(V:BS)(k v:Nat):mC nb V (k+1) v=mC nb V k v+(if (mR nb V k).getLsbD v=true then 1 else 0):=by
 have e1:=lI (di nb) V k
 by_cases h:MR nb V k v
 ·rw[if_pos (fJ.2 h)]
  have h1:=h.1
  have h2:=h.2
  have h3:=uV (adj:=di nb) (s:=msT (di nb) V k) (v:=v) (by rw[← e1];exact h1) (by rw[← e1];exact h2)
  rw[← e1] at h3
  exact h3
 ·rw[if_neg fun hh=>h (fJ.1 hh)]
  by_cases h1:(mL nb V (k+1)).getLsbD v=true
  ·have h3:=uW (adj:=di nb) (s:=msT (di nb) V k) (v:=v) (by rw[← e1];exact fun h2=>h ⟨h1,h2⟩)
   rw[← e1] at h3
   exact h3
  ·have h3:=a4q (adj:=di nb) (s:=msT (di nb) V k) (v:=v) (by rw[← e1];exact h1)
   rw[← e1] at h3
   exact h3
theorem vb (nb:Int→BS)(V:BS)(v:Nat):∀k,mC nb V k v≤k
 | 0=>by rw[iI];exact Nat.le_refl _
 | k+1=>by
  have:=vb nb V v k
  rw[lL]
  split <;> omega
section
variable {nb:Int→BS}{V:BS}(hs:∀i j:Nat,(nb (i:Int)).getLsbD j=true→(nb (j:Int)).getLsbD i=true)(hi:∀i j:Nat,(nb (i:Int)).getLsbD j=true→V.getLsbD i=true)
include hs hi
theorem oI:Run (di nb) (card V) (mU nb V) (fun k v=>(mL nb V k).getLsbD v=true) (mC nb V):=a4t hs hi
theorem a4v {k:Nat}(hk:k<card V):V.getLsbD (mU nb V k)=true:=by
 have H:=oI hs hi
 have:=H.sub (Nat.zero_le k) (by omega) (H.mem k hk)
 rw[lK] at this
 exact this
theorem a4w {k v:Nat}(hk:k<card V)(h:(mR nb V k).getLsbD v=true):V.getLsbD v=true∧v≠mU nb V k:=by
 have H:=oI hs hi
 have h1:=(fJ.1 h).1
 have:=H.sub (Nat.zero_le (k+1)) (by omega) h1
 rw[lK] at this
 exact⟨this,((H.next k hk v).1 h1).2⟩
end
noncomputable def flP (nb:Int→BS)(V:BS)(k:Nat):List (Nat×Nat):=(elems (mR nb V k &&& ~~~nb (mU nb V k:Nat))).map fun v=>(min (mU nb V k) v,max (mU nb V k) v)
noncomputable def flL (nb:Int→BS)(V:BS)(m:Nat):List (Nat×Nat):=(List.range m).flatMap (flP nb V)
theorem iJ (nb:Int→BS)(V:BS)(m:Nat):flL nb V (m+1)=flL nb V m++flP nb V m:=by
 rw[flL,flL,List.range_succ,List.flatMap_append,List.flatMap_singleton]
theorem a4x {nb:Int→BS}{V:BS}(hs:∀i j:Nat,(nb (i:Int)).getLsbD j=true→(nb (j:Int)).getLsbD i=true)(hi:∀i j:Nat,(nb (i:Int)).getLsbD j=true→V.getLsbD i=true){k:Nat}(hk:k<card V):(flP nb V k).length≤card V:=by
 rw[flP,List.length_map,eA]
 exact nK fun v h=>(a4w hs hi hk ((bH _ _ _).1 h).1).1
theorem oJ {nb:Int→BS}{V:BS}(hs:∀i j:Nat,(nb (i:Int)).getLsbD j=true→(nb (j:Int)).getLsbD i=true)(hi:∀i j:Nat,(nb (i:Int)).getLsbD j=true→V.getLsbD i=true):∀m,m≤card V→(flL nb V m).length≤m * card V
 | 0,_=>Nat.zero_le _
 | m+1,h=>by
  have:=oJ hs hi m (by omega)
  have:=a4x hs hi (k:=m) (by omega)
  rw[iJ,List.length_append,Nat.succ_mul];omega
section
variable {g:GT}(G:Gr.Ok g)(hc:card (ah g.1)≤9){F:List (Nat×Nat)}(hF:F.Perm (flL (nbA g) (ah g.1) (card (ah g.1))))
include G hc hF
end
end Go.Mono
namespace Go.Mono
open Go Go.Proofs Go.RowKit Go.Gr Go.Ms
theorem vd (c:Nat→Nat)(x:Nat):∀(l:List Nat) (b:Nat),bsF c (l++[x]) b=if c (bsF c l b)<c x then x else bsF c l b
 | [],b=>rfl
 | v::l,b=>by rw[List.cons_append,bsF,bsF,vd c x l]
def DoC (W:World)(fid:FuncId)(caps:Array Value)(n:Nat)(u:Nat→Nat)(r:Nat→BS)(S0:Nat→Prop)(J:Nat→(Nat→Prop)→World→Prop):Prop:=
 ∀k,k<n→∀K w,(∀b,K b→W.heap.size≤b∧b<w.heap.size)→W.heap.size≤w.heap.size→Tab w→J k K w →
  Calls Tryz.prog fid (#[I (u k:Nat),ac (r k)]++caps) w (fun en w'=>en=.returned (.tuple #[])∧Chg (fun b=>S0 b∨(W.heap.size≤b∧¬K b)) w w'∧J (k+1) K w')
def KS (b4 b5 b6 bm bc:Nat)(D:List Nat)(b:Nat):Prop:=b=b4∨b=b5∨b=b6∨b=bm∨b=bc∨b∈D
structure SeW (W:World)(g:GT)(S0:Nat→Prop)(J:Nat→(Nat→Prop)→World→Prop)(b4 b5 b6 bm bc k:Nat)(lc:List (Int×Int))(nc:Nat)(D:List Nat)(w:World):Prop where
 c:Chg S0 W w
 t:Tab w
 p4:Blk w b4 #[.map (some bm)] 64
 p5:Blk w b5 #[.map (some bc)] 89
 p6:Blk w b6 (au (mL (nbA g) (ah g.1) k)) 68
 m:MpR sKV w bm (elems (ah g.1)).length (nbL g (elems (ah g.1)))
 mc:MpR iKV w bc nc lc
 lk:∀v:Nat,v<1024→lkI lc (v:Int)=(mC (nbA g) (ah g.1) k v:Int)
 n:nc≤1024 * k
 d:Ds D w
 dl:∀d∈D,W.heap.size≤d
 j:J k (KS b4 b5 b6 bm bc D) w
structure SeK (wi:World)(K1:Nat→Prop)(b4 b5 b6 bm bc nm nc:Nat)(l:List (Int×BS))(lc:List (Int×Int))(L:BS)(D:List Nat)(w:World):Prop where
 c:Chg K1 wi w
 t:Tab w
 p4:Blk w b4 #[.map (some bm)] 64
 p5:Blk w b5 #[.map (some bc)] 89
 p6:Blk w b6 (au L) 68
 m:MpR sKV w bm nm l
 mc:MpR iKV w bc nc lc
 d:Ds D w
structure SeN (N b4 b5 b6 bm bc:Nat)(D:List Nat):Prop where
 lt:0<N∧b4<N∧b5<N∧b6<N∧bm<N∧bc<N
 d:∀d∈D,d<N
section
variable {wi w w':World}{K1:Nat→Prop}{b4 b5 b6 bm bc nm nc:Nat}{l:List (Int×BS)}{lc:List (Int×Int)}{L:BS}{D:List Nat}{N B b:Nat}
theorem SeK.ext (h:SeK wi K1 b4 b5 b6 bm bc nm nc l lc L D w)(e:Ext w w'):SeK wi K1 b4 b5 b6 bm bc nm nc l lc L D w':=⟨h.c.ext e,h.t.ext e,h.p4.ext e,h.p5.ext e,h.p6.ext e,h.m.ext e,h.mc.ext e,h.d.ext e⟩
theorem SeK.kp (h:SeK wi K1 b4 b5 b6 bm bc nm nc l lc L D w)(k:Kp B w w')(q:SeN N b4 b5 b6 bm bc D)(hB:N≤B)(hW:wi.heap.size≤B):SeK wi K1 b4 b5 b6 bm bc nm nc l lc L D w':=by
 obtain⟨q0,q4,q5,q6,qm,qc⟩:=q.lt
 have no:∀{b},b<N→¬aS B b:=fun h hh=>Nat.lt_irrefl _ (Nat.lt_of_lt_of_le h (Nat.le_trans hB hh.1))
 exact⟨h.c.kp k hW,h.t.kp k (Nat.lt_of_lt_of_le q0 hB),h.p4.kp k (no q4),h.p5.kp k (no q5),h.p6.kp k (no q6),h.m.pres (k.same _ h.m.lt (no qm)),h.mc.pres (k.same _ h.mc.lt (no qc)),h.d.ch k.chg fun d hd=>no (q.d d hd)⟩
theorem SeK.gr (h:SeK wi K1 b4 b5 b6 bm bc nm nc l lc L D w)(hg:w.grownBy w' (some b))(q:SeN N b4 b5 b6 bm bc D)(hB:N≤b)(hW:wi.heap.size≤b):SeK wi K1 b4 b5 b6 bm bc nm nc l lc L D w':=by
 obtain⟨q0,q4,q5,q6,qm,qc⟩:=q.lt
 have no:∀{c},c<N→c≠b:=fun h hh=>Nat.lt_irrefl _ (Nat.lt_of_lt_of_le h (hh▸hB))
 exact⟨h.c.gr hg (.inr hW),h.t.gr hg (Nat.lt_of_lt_of_le q0 hB),h.p4.gr hg (no q4),h.p5.gr hg (no q5),h.p6.gr hg (no q6),h.m.pres (hg.block _ h.m.lt fun e=>no qm (Option.some.inj e)),h.mc.pres (hg.block _ h.mc.lt fun e=>no qc (Option.some.inj e)),h.d.gr hg fun hd=>no (q.d _ hd) rfl⟩
theorem SeK.st6 {L':BS}(h:SeK wi K1 b4 b5 b6 bm bc nm nc l lc L D w)(hg:w.grownBy w' (some b6))(hB:Blk w' b6 (au L') 68)(hK:K1 b6)(hne:b4≠b6∧b5≠b6∧bm≠b6∧bc≠b6)(h0:0<b6):SeK wi K1 b4 b5 b6 bm bc nm nc l lc L' D w':=
 ⟨h.c.gr hg (.inl hK),h.t.gr hg h0,h.p4.gr hg hne.1,h.p5.gr hg hne.2.1,hB,h.m.pres (hg.block _ h.m.lt fun e=>hne.2.2.1 (Option.some.inj e)),h.mc.pres (hg.block _ h.mc.lt fun e=>hne.2.2.2 (Option.some.inj e)),h.d.gr hg (h.d.ne h.p6)⟩
theorem SeK.put {nc':Nat}{lc':List (Int×Int)}(h:SeK wi K1 b4 b5 b6 bm bc nm nc l lc L D w)(hg:w.grownBy w' (some bc))(hM:MpR iKV w' bc nc' lc')(hK:K1 bc)(hne:b4≠bc∧b5≠bc∧bm≠bc∧b6≠bc)(h0:0<bc)(hD:bc ∉ D):SeK wi K1 b4 b5 b6 bm bc nm nc' l lc' L D w':=
 ⟨h.c.gr hg (.inl hK),h.t.gr hg h0,h.p4.gr hg hne.1,h.p5.gr hg hne.2.1,h.p6.gr hg hne.2.2.2,h.m.pres (hg.block _ h.m.lt fun e=>hne.2.2.1 (Option.some.inj e)),hM,h.d.gr hg hD⟩
end
theorem a4y {L:BS}{b:Nat}(h:bj L=some b):(elems L).headD 0=b:=by
 rw[List.headD_eq_head?_getD,elems,List.head?_filter]
 rw[bj] at h
 rw[h];rfl
theorem ve {G:Nat→Prop}{N:Nat}(g:GT)(ok:Gr.Ok g)(v:Value)(fid:FuncId)(caps:Array Value)(S0:Nat→Prop)(J:Nat→(Nat→Prop)→World→Prop)(W:World)(hT:Tab W)(h:(Dv (ptE (grE N)) G (some g)).p v W)(hl1:g.1.length≤100000)(hl2:g.2.length≤100000)(hN:N≤1000000)(hen:Proofs.Enters Tryz.prog fid)
  (hS0:∀b,S0 b→0<b∧b<W.heap.size) (hJ1:∀k K w w',(∀b,K b→W.heap.size≤b)→J k K w→Chg K w w'→J k K w') (hJ2:∀k K K' w,(∀b,K' b→K b∨w.heap.size≤b)→J k K w→J k K' w)
  (hdo:DoC W fid caps (card (ah g.1)) (mU (nbA g) (ah g.1)) (mR (nbA g) (ah g.1)) S0 J) (h0:J 0 (fun b=>W.heap.size≤b) W) :
  Calls Tryz.prog 33 #[v,.func (.func fid) #[] caps] W (fun en w'=>en=.returned (.tuple #[])∧Chg S0 W w'∧∃K,(∀b,K b→W.heap.size≤b)∧J (card (ah g.1)) K w'):=by
 have hv:(Dv (ptE (grE N)) G0 (some g)).p v W:=Dv.weak h fun b _ hb=>hb.elim
 have gs1:=ok.sv
 have gs2:=ok.se
 have hT0:=hT.lt
 have h1c:v.cells = #[v]:=by
  obtain⟨ad,rfl,_⟩:=Dv.pt.1 hv
  rfl
 refine cq (args:=[v,.func (.func fid) #[] caps]) (As:=[E v,E (.func (.func fid) #[] caps)]) Tryz.func33 rfl Tryz.ntmps33 (Nat.le_of_ble_eq_true rfl) ?_ (fun a hf=>?_) (Nat.le_of_ble_eq_true rfl)
 ·exact aQ rfl (aQ rfl cO)
 dsimp only[params,Nat.reduceAdd] at hf
 have e:=Ext.rfl' W
 refine seq <| ae <| tB hf rfl fun a b2 w v2 hv2 e' hb2 hs2 B2 hf=>?_
 obtain⟨hT,e⟩:=up2 e' hT e
 refine aa ?_
 cases hv2
 rw[h1c] at B2
 replace hf:=hf.kp [1,2]
 refine seq <| ae <| eV sKV hf (by decide) fun a bm w e' hbm hsm HM hf=>?_
 obtain⟨e,hT,B2⟩:=up3 e' e hT B2
 have hWm:W.heap.size≤bm:=by have:=e.size;have:=HM.lt;omega
 refine eV iKV hf (by decide) fun a bc w e' hbc hsc HC hf=>?_
 have hWc:W.heap.size≤bc:=by have:=e.size;omega
 obtain⟨e,hT,B2,HM⟩:=up4 e' e hT B2 HM
 have lm:=HM.lt
 have lc:=HC.lt
 refine tL I64 hf fun a b4 w e' hb4 hs4 B4 hf=>?_
 obtain⟨hT,HM,HC,e,B2⟩:=up5 e' hT HM HC e B2
 refine tL I89 hf fun a b5 w e' hb5 hs5 B5 hf=>?_
 obtain⟨hT,HM,HC,e,B2,B4⟩:=up6 e' hT HM HC e B2 B4
 haveI hinr:∀G0,InR (GB W G0) (some b4):=fun G0=>InR.gb (by omega)
 refine aA T64 hf rfl rfl rfl B4 (by decide) fun w hg hsz B4 hf=>?_
 replace hT:=hT.gr hg (by omega)
 replace HM:=HM.gr hg (fun h=>by cases h;omega)
 replace HC:=HC.gr hg (fun h=>by cases h;omega)
 obtain⟨e,B2,B5⟩:=gr3 hg e B2 B5
 haveI hinr:∀G0,InR (GB W G0) (some b5):=fun G0=>InR.gb (by omega)
 refine aA T89 hf rfl rfl rfl B5 (by decide) fun w hg hsz B5 hf=>?_
 replace hT:=hT.gr hg (by omega)
 replace HM:=HM.gr hg (fun h=>by cases h;omega)
 replace HC:=HC.gr hg (fun h=>by cases h;omega)
 obtain⟨e,B2,B4⟩:=gr3 hg e B2 B4
 refine aa ?_
 replace B4:Blk w b4 #[.map (some bm)] 64:=B4
 replace B5:Blk w b5 #[.map (some bc)] 89:=B5
 replace hf:=hf.kp [1,2,4,5]
 obtain⟨V,hV⟩:∃V,V=ah g.1:=⟨_,rfl⟩
 have e0:=e
 refine seq <| rgN 2 hf <| st (ld1 (v:=v) T28 rfl B2 rfl) <| st (an (A:=E (ac V)) fN rfl (fun v w he k=>by cases k;rw[hV];exact gk g _ w (VA.st _ _ _ _ (Ext.tr e0 he) hv) gs1 hl1 hN)) ?_
 refine en fun a w e' hf=>?_
 obtain⟨hT,HM,HC,e,B2,B4,B5⟩:=up7 e' hT HM HC e B2 B4 B5
 refine tL I68 hf fun a b6 w e' hb6 hs6 B6 hf=>?_
 have lt6_B5:=B5.lt
 obtain⟨hT,HM,HC,e,B2,B4,B5⟩:=up7 e' hT HM HC e B2 B4 B5
 have n6:b2≠b6∧b4≠b6∧b5≠b6∧bm≠b6∧bc≠b6∧W.heap.size≤b6:=by have:=B2.lt;have:=B4.lt;have:=B5.lt;have:=HM.lt;have:=HC.lt;omega
 refine az T68 hf rfl rfl (aP _) B6 rfl rfl fun w hg hsz B6 hf=>?_
 replace e:=e.gr hg (by omega);replace hT:=hT.gr hg (by omega);replace B2:=B2.gr hg (by omega);replace B4:=B4.gr hg (by omega);replace B5:=B5.gr hg (by omega);replace HM:=HM.gr hg (fun h=>by cases h;omega);replace HC:=HC.gr hg (fun h=>by cases h;omega)
 refine aa ?_
 replace hf:=hf.kp [1,2,4,5,6]
 obtain⟨Nz,hNz⟩:∃Nz,Nz=w.heap.size:=⟨_,rfl⟩
 repeat refine seq ?_
 refine rgN 2 hf <| st ((ldW T68 rfl B6 rfl).eq ((rfl:_=ac V))) <| st (an (A:=bW Nz V) cg rfl (fun v w' he h=>by cases h;exact Calls.mono (cm _ w') (fun en w2 ⟨u,h1,h2,b',h3,h4,h5⟩=>⟨u,h1,h2,b',by have:=he.size;omega,h4,h5⟩))) ?_
 refine en fun a w e' hf=>?_
 obtain⟨hT,HM,HC,e,B2,B4,B5,B6⟩:=up8 e' hT HM HC e B2 B4 B5 B6
 refine aa ?_
 obtain⟨vv,⟨b18,h18,rfl,BS⟩,hf⟩:=hf.fix 18 rfl
 replace hf:=hf.kp [1,2,4,5,6,18]
 have hBW:W.heap.size≤w.heap.size:=e.size
 have h0w:0<w.heap.size:=hT.lt
 have l2:=B2.lt
 have l4:=B4.lt
 have l5:=B5.lt
 have l6:=B6.lt
 have lm':=HM.lt
 have lc':=HC.lt
 have hlo:W.heap.size≤b2∧W.heap.size≤b4∧W.heap.size≤b5:=by omega
 have hne:b2≠bm∧b4≠bm∧b5≠bm∧b2≠b4∧b2≠b5∧b4≠b5∧bc≠bm∧b4≠bc∧b5≠bc:=by omega
 refine blk <| cC (S:=V) hf rfl BS (by decide) (fun s w1=>NJ W g v b2 b4 bm s w1∧Blk w1 b5 #[.map (some bc)] 89∧Blk w1 b6 (au V) 68∧MpR iKV w1 bc 0 []) (fun _ _=>False) (fun s w1 h=>h.1.t)
  ⟨⟨e,hT,B2,B4,HM⟩,B5,B6,HC⟩ (fun s w1 w2 h hs k=>⟨h.1.kp k hBW h0w l2 l4 lm',h.2.1.kp k (fun hh=>by have:=hh.1;omega),h.2.2.1.kp k (fun hh=>by have:=hh.1;omega),h.2.2.2.pres (k.same bc h.2.2.2.lt (fun hh=>by have:=hh.1;omega))⟩) (fun _ _ _ h=>h.elim) ?_ ?_ (fun _ _ _ _ _ _ h=>h.elim)
 ·intro lb s x rest a1 w1 hs hJ hlw hf
  have hx1024:x<1024:=(aH.1 (by rw[hs];simp)).1
  have hxs:x ∉ s:=by
   have hn:(elems V).Nodup:=List.Nodup.sublist List.filter_sublist List.nodup_range
   rw[hs] at hn
   intro hx
   exact (List.nodup_append.1 hn).2.2 x hx x (by simp) rfl
  have hsl:s.length≤1024:=by have:=bX V;rw[hs] at this;simp at this;omega
  generalize hBz:w.heap.size=Bz at *
  refine ae <| tA hf rfl fun a hf=>aa <| ⟨Kh.rfl' _ _,fun w3 k3 hsz3=>?_⟩
  have hJ3:=hJ.1.kp k3 hBW h0w l2 l4 lm'
  have J5:=hJ.2.1.kp k3 (fun hh=>by have:=hh.1;omega)
  have J6:=hJ.2.2.1.kp k3 (fun hh=>by have:=hh.1;omega)
  have Jc:=hJ.2.2.2.pres (k3.same bc hJ.2.2.2.lt (fun hh=>by have:=hh.1;omega))
  replace hf:=hf.pure w3
  obtain⟨e,hT,B2,B4,HM⟩:=hJ3
  have kh:=Kh.rfl' Bz w3
  have e0:=e
  replace hf:=hf.kp [2,4,7]
  refine blk <| rgG 5 Mix.mix hf <| st (ld1 (v:=.map (some bm)) T64 rfl B4 rfl) <| st (mv rfl) <| st (ld1 (v:=v) T28 rfl B2 rfl) <| st (mv rfl) <| st (ar (A:=E (ac (nbG g.2 (x:Int)))) fP rfl rfl (fun v u w he k1 k2=>by cases k1;cases k2;exact gN g _ _ w (VA.st _ _ _ _ (Ext.tr e0 he) hv) gs2 hl2 hN)) ?_
  refine en fun a w e' hf=>?_
  obtain⟨HM,Jc,hT⟩:=up3 e' HM Jc hT
  replace kh:=kh.tr (Kh.ext e')
  obtain⟨e,B2,B4,J5,J6⟩:=up5 e' e B2 B4 J5 J6
  refine dc (V:=sKV) (i:=(x:Int)) (c:=nbG g.2 (x:Int)) U64 hf rfl rfl rfl HM (by simp only[maxLen];omega) (bh (by omega) (by omega)) trivial fun w hg HM hf=>?_
  replace e:=e.gr hg (by omega);replace hT:=hT.gr hg (by omega);replace B2:=B2.gr hg (by omega);replace B4:=B4.gr hg (by omega);replace J5:=J5.gr hg (by omega);replace J6:=J6.gr hg (by omega);replace Jc:=Jc.gr hg (fun h=>by cases h;omega)
  replace kh:=kh.tr (Kh.gr hg (fun hh=>by have:=hh.1;omega))
  refine aa ?_
  simp only[Exit.inBlock]
  exact⟨⟨⟨e,hT,B2,B4,by rw[List.length_append];exact HM.perm (nz hxs)⟩,J5,J6,Jc⟩,kh⟩
 ·intro a' w' hf' hJ hsz hDn
  simp only[Exit.inBlock,↓reduceIte,Exit.then]
  have hD:Ds [w.heap.size] w':=(Ds.nil w').cons hDn (by simp)
  have hf:FrD 63 (bq [w.heap.size]) a' w' [(1,E (.func (.func fid) #[] caps)),(4,E (ptr b4)),(5,E (ptr b5)),(6,E (ptr b6))]:=hf'.keep [1,4,5,6]
  have hDW:∀d∈[w.heap.size],W.heap.size≤d:=fun d hd=>by rw[List.mem_singleton] at hd;omega
  have hKW:∀b,KS b4 b5 b6 bm bc [w.heap.size] b→W.heap.size≤b:=fun b hb=>by
   rcases hb with rfl|rfl|rfl|rfl|rfl|hb
   all_goals first|omega|exact hDW b hb
  have hS:SeW W g S0 J b4 b5 b6 bm bc 0 [] 0 [w.heap.size] w':=by
   obtain⟨⟨e',hT',B2',B4',HM'⟩,B5',B6',HC'⟩:=hJ
   rw[hV] at HM' B6'
   refine⟨e'.chg _,hT',B4',B5',by rw[lK];exact B6',HM',HC',fun v _=>by rw[iI];rfl,Nat.zero_le _,hD,hDW,hJ2 _ _ _ _ (fun b hb=>.inl (hKW b hb)) (hJ1 _ _ _ _ (fun b hb=>hb) h0 (e'.chg _))⟩
  have hlo6:W.heap.size≤b6∧W.heap.size≤bm∧W.heap.size≤bc:=⟨n6.2.2.2.2.2,hWm,hWc⟩
  have hne6:b4≠b6∧b5≠b6∧bm≠b6∧bc≠b6:=⟨n6.2.1,n6.2.2.1,n6.2.2.2.1,n6.2.2.2.2.1⟩
  generalize [w.heap.size]=D0 at *
  generalize w'=w at *
  rw[hV] at *
  obtain⟨nb,hnb⟩:∃nb,nb=nbA g:=⟨_,rfl⟩
  obtain⟨n,hn⟩:∃n,n=card (ah g.1):=⟨_,rfl⟩
  rw[← hn] at hdo ⊢
  refine blk (aJ (fun r0 a w=>∃(k:Nat) (lc:List (Int×Int)) (nc:Nat) (D:List Nat),r0+k=n∧FrD 63 (bq D) a w [(1,E (.func (.func fid) #[] caps)),(4,E (ptr b4)),(5,E (ptr b5)),(6,E (ptr b6))]∧SeW W g S0 J b4 b5 b6 bm bc k lc nc D w) n ⟨0,[],0,D0,Nat.add_zero _,hf,hS⟩ ?_)
  rintro r0 a w ⟨k,lc,nc,D,hr0,hf,hS⟩
  have hcard:=va (nbA g) (ah g.1) k (by omega)
  have hKW:∀b,KS b4 b5 b6 bm bc D b→W.heap.size≤b:=fun b hb=>by
   rcases hb with rfl|rfl|rfl|rfl|rfl|hb
   all_goals first|omega|exact hS.dl b hb
  have hKlt:∀b,KS b4 b5 b6 bm bc D b→b<w.heap.size:=fun b hb=>by
   rcases hb with rfl|rfl|rfl|rfl|rfl|hb
   ·exact hS.p4.lt
   ·exact hS.p5.lt
   ·exact hS.p6.lt
   ·exact hS.m.lt
   ·exact hS.mc.lt
   ·exact hS.d.lt hb
  obtain⟨c,hT,B4,B5,B6,HM,HC,hlk,hnc,hD,hDl,hj⟩:=hS
  obtain⟨L,hL⟩:∃L,L=mL (nbA g) (ah g.1) k:=⟨_,rfl⟩
  rw[← hL] at B6 hcard
  repeat refine seq ?_
  obtain⟨wi,hwi⟩:∃wi,wi=w:=⟨_,rfl⟩
  have ei:Ext wi w:=by rw[hwi];exact Ext.rfl' _
  rw[← hwi] at c hj hKlt
  by_cases hLe:L=0
  ·have hk:k=n:=by rw[hLe,gn] at hcard;omega
   have hb0:(L==0)=true:=by rw[hLe];exact beq_self_eq_true _
   refine rgN 3 hf <| st ((ldW T68 rfl B6 rfl).eq ((rfl:_=ac L))) <| st (an (A:=E (B true)) (B:=E (ac L)) fQ rfl (fun v w he h=>by cases h;have:=ga L w;rwa [hb0] at this)) ?_
   refine st (bA rfl) <| en fun a w e' hf=>?_
   obtain⟨HM,HC,hT,ei,B4,B5,B6,hD⟩:=up8 e' HM HC hT ei B4 B5 B6 hD
   refine aa <| ifc hf rfl (fun h=>by cases h) (fun _=>aG ?_)
   subst hk
   have hsh:=eb D w
   refine gh rfl hf hD ⟨rfl,(c.ext ei).tr2 hsh fun b hb=>.inr (hDl b hb),KS b4 b5 b6 bm bc D,hKW,hJ1 _ _ _ _ hKW (hJ1 _ _ _ _ hKW hj (ei.chg _)) (hsh.to fun b _ hb=>.inr (.inr (.inr (.inr (.inr hb)))))⟩
  obtain⟨m0,hm0⟩:∃m0,bj L=some m0:=by
   cases hq:bj L with
   | none=>exact absurd (jg.1 hq) hLe
   | some m0=>exact⟨m0,rfl⟩
  have hk:k<n:=by have:=jy (gp hm0);omega
  have hb0:(L==0)=false:=beq_eq_false_iff_ne.2 hLe
  refine rgN 3 hf <| st ((ldW T68 rfl B6 rfl).eq ((rfl:_=ac L))) <| st (an (A:=E (B false)) (B:=E (ac L)) fQ rfl (fun v w he h=>by cases h;have:=ga L w;rwa [hb0] at this)) ?_
  refine st (bA rfl) <| en fun a w e' hf=>?_
  obtain⟨HM,HC,hT,ei,B4,B5,B6,hD⟩:=up8 e' HM HC hT ei B4 B5 B6 hD
  refine aa <| ifc hf rfl (fun _=>ak ?_) (fun h=>by cases h)
  refine blk ?_
  obtain⟨Nw,hNw⟩:∃Nw,Nw=wi.heap.size:=⟨_,rfl⟩
  obtain⟨K1,hK1⟩:∃K1:Nat→Prop,K1=fun b=>KS b4 b5 b6 bm bc D b∨Nw≤b:=⟨_,rfl⟩
  rw[← hNw] at hKlt
  have hWN:W.heap.size≤Nw:=by rw[hNw];exact c.size
  have hq:SeN Nw b4 b5 b6 bm bc D:=⟨⟨by omega,hKlt _ (.inl rfl),hKlt _ (.inr (.inl rfl)),hKlt _ (.inr (.inr (.inl rfl))),hKlt _ (.inr (.inr (.inr (.inl rfl)))),hKlt _ (.inr (.inr (.inr (.inr (.inl rfl)))))⟩,fun d hd=>hKlt d (.inr (.inr (.inr (.inr (.inr hd)))))⟩
  have hK1s:∀b,KS b4 b5 b6 bm bc D b→K1 b:=fun b hb=>by rw[hK1];exact .inl hb
  have hH:SeK wi K1 b4 b5 b6 bm bc (elems (ah g.1)).length nc (nbL g (elems (ah g.1))) lc L D w:=⟨ei.chg _,hT,B4,B5,B6,HM,HC,hD⟩
  have hNw':Nw≤w.heap.size:=by rw[hNw];exact ei.size
  replace hf:=hf.kp [1,4,5,6]
  refine seq <| rgN 5 hf <| st ((ldW T68 rfl hH.p6 rfl).eq ((rfl:_=ac L))) <| st (an (A:=ge L) fh rfl (fun v w he h=>by cases h;exact fx _ w (hH.t.ext he))) ?_
  refine st (mv rfl) <| st (aO rfl rfl) <| st (aO rfl rfl) <| en fun a w e' hf=>?_
  replace hH:=hH.ext e'
  replace hNw':=Nat.le_trans hNw' e'.size
  rw[hm0] at hf
  replace hf:=hf.upd 31 rfl (B:=E (I (m0:Nat))) (fun v h=>h)
  replace hf:=hf.kp [1,4,5,6,31,32]
  refine tL I3 hf fun a b8 w e' hb8 hs8 B8 hf=>?_
  have lo8_hNw':=Nat.le_trans hNw' (Nat.le_of_eq hb8.symm)
  replace hH:=hH.ext e'
  replace hNw':=Nat.le_trans hNw' e'.size
  have hb8N:Nw≤b8:=by omega
  refine aA T3 hf rfl rfl rfl B8 (by decide) fun w hg hsz B8 hf=>?_
  replace hH:=hH.gr hg hq hb8N (by omega)
  replace hNw':Nw≤w.heap.size:=by omega
  replace B8:Blk w b8 #[I (m0:Nat)] 3:=B8
  refine tA hf rfl fun a hf=>aa ?_
  replace hf:=hf.kp [1,4,5,6,8]
  obtain⟨Nz,hNz⟩:∃Nz,Nz=w.heap.size:=⟨_,rfl⟩
  repeat refine seq ?_
  refine rgN 2 hf <| st ((ldW T68 rfl hH.p6 rfl).eq ((rfl:_=ac L))) <| st (an (A:=bW Nz L) cg rfl (fun v w' he h=>by cases h;exact Calls.mono (cm _ w') (fun en w2 ⟨u,h1,h2,b',h3,h4,h5⟩=>⟨u,h1,h2,b',by have:=he.size;omega,h4,h5⟩))) ?_
  refine en fun a w e' hf=>?_
  replace hH:=hH.ext e'
  replace hNw':=Nat.le_trans hNw' e'.size
  replace B8:=B8.ext e'
  refine aa ?_
  obtain⟨vv,⟨b34,h34,rfl,BS⟩,hf⟩:=hf.fix 34 rfl
  replace hf:=hf.kp [1,4,5,6,8,34]
  have l8:=B8.lt
  refine blk <| cC (S:=L) hf rfl BS (by decide) (fun s w1=>SeK wi K1 b4 b5 b6 bm bc (elems (ah g.1)).length nc (nbL g (elems (ah g.1))) lc L D w1∧Blk w1 b8 #[I (bsF (mC (nbA g) (ah g.1) k) s m0:Nat)] 3) (fun _ _=>False) (fun s w1 h=>h.1.t)
   ⟨hH,B8⟩ (fun s w1 w2 h hs kk=>⟨h.1.kp kk hq hNw' (by omega),h.2.kp kk (fun hh=>by have:=hh.1;omega)⟩) (fun _ _ _ h=>h.elim) ?_ ?_ (fun _ _ _ _ _ _ h=>h.elim)
  ·intro lb s x rest a1 w1 hs hJ hlw hf
   have hx1024:x<1024:=(aH.1 (by rw[hs];simp)).1
   have hwx:(Lit.int .i64 (x:Int)).wf=true:=bh (by omega) (by omega)
   generalize hBz:w.heap.size=Bz at *
   refine ae <| tA hf rfl fun a hf=>aa <| ⟨Kh.rfl' _ _,fun w3 k3 hsz3=>?_⟩
   have hJ1':=hJ.1.kp k3 hq hNw' (by omega)
   have hJ2':=hJ.2.kp k3 (fun hh=>by have:=hh.1;omega)
   replace hf:=hf.pure w3
   have hH:=hJ1'
   have B8:=hJ2'
   have kh:=Kh.rfl' Bz w3
   obtain⟨q,hqq⟩:∃q,q=bsF (mC (nbA g) (ah g.1) k) s m0:=⟨_,rfl⟩
   have happ:=vd (mC (nbA g) (ah g.1) k) x s m0
   rw[← hqq] at B8 happ
   have hq1024:q<1024:=by
    rw[hqq]
    rcases (lF (mC (nbA g) (ah g.1) k) s m0).1 with h|h
    ·rw[h];exact ay (gp hm0)
    ·exact (aH.1 (by rw[hs];exact List.mem_append_left _ h)).1
   have hwq:(Lit.int .i64 (q:Int)).wf=true:=bh (by omega) (by omega)
   replace hf:=hf.kp [5,8,10]
   refine blk ?_
   by_cases hlt:mC (nbA g) (ah g.1) k q<mC (nbA g) (ah g.1) k x
   ·rw[if_pos hlt] at happ
    refine seq <| rgN 7 hf <| st (ld1 (v:=.map (some bc)) T89 rfl hH.p5 rfl) <| st (mv rfl) <| st ((gz U89 rfl hH.mc rfl hwx).eq (congrArg (Value.int .i64) (hlk x hx1024))) <| st (ld1 (v:=.map (some bc)) T89 rfl hH.p5 rfl) <| st (ld1 (v:=I (q:Nat)) T3 rfl B8 rfl) <| st ((gz U89 rfl hH.mc rfl hwq).eq (congrArg (Value.int .i64) (hlk q hq1024))) <| st ((gtr rfl rfl).eq (congrArg Value.bool ((decide_eq_true (by omega):_=true)))) <| en fun a w e' hf=>?_
    replace hH:=hH.ext e'
    replace kh:=kh.tr (Kh.ext e')
    replace B8:=B8.ext e'
    refine aa <| ifc hf rfl (fun _=>?_) (fun h=>by cases h)
    refine rgN 1 hf <| st (mv rfl) <| en fun a w e' hf=>?_
    replace hH:=hH.ext e'
    replace kh:=kh.tr (Kh.ext e')
    replace B8:=B8.ext e'
    refine aA T3 hf rfl rfl rfl B8 Nat.zero_lt_one fun w hg hsz B8 hf=>?_
    replace hH:=hH.gr hg hq hb8N (by omega)
    replace kh:=kh.tr (Kh.gr hg (fun hh=>by have:=hh.1;omega))
    replace B8:Blk w b8 #[I (x:Nat)] 3:=B8
    refine aa ?_
    simp only[Exit.inBlock]
    exact⟨⟨hH,by rw[happ];exact B8⟩,kh⟩
   ·rw[if_neg hlt] at happ
    refine seq <| rgN 7 hf <| st (ld1 (v:=.map (some bc)) T89 rfl hH.p5 rfl) <| st (mv rfl) <| st ((gz U89 rfl hH.mc rfl hwx).eq (congrArg (Value.int .i64) (hlk x hx1024))) <| st (ld1 (v:=.map (some bc)) T89 rfl hH.p5 rfl) <| st (ld1 (v:=I (q:Nat)) T3 rfl B8 rfl) <| st ((gz U89 rfl hH.mc rfl hwq).eq (congrArg (Value.int .i64) (hlk q hq1024))) <| st ((gtr rfl rfl).eq (congrArg Value.bool ((decide_eq_false (by omega):_=false)))) <| en fun a w e' hf=>?_
    replace hH:=hH.ext e'
    replace kh:=kh.tr (Kh.ext e')
    replace B8:=B8.ext e'
    refine aa <| ifc hf rfl (fun h=>by cases h) (fun _=>?_)
    refine ak <| ⟨⟨hH,by rw[happ];exact B8⟩,kh⟩
  intro a' w' hf' hJ hsz hDn
  simp only[Exit.inBlock,↓reduceIte,Exit.then]
  obtain⟨hH',B8'⟩:=hJ
  obtain⟨u,hu⟩:∃u,u=mU (nbA g) (ah g.1) k:=⟨_,rfl⟩
  have hu8:bsF (mC (nbA g) (ah g.1) k) (elems L) m0=u:=by
   rw[hu,mU,bsA,← hL,a4y hm0]
  rw[hu8] at B8'
  have hu1024:u<1024:=by
   rw[← hu8]
   rcases (lF (mC (nbA g) (ah g.1) k) (elems L) m0).1 with h|h
   ·rw[h];exact ay (gp hm0)
   ·exact (aH.1 h).1
  have hDD:∀d∈w.heap.size::D,KS b4 b5 b6 bm bc D d∨Nw≤d:=fun d hd=>(List.mem_cons.1 hd).elim (fun h=>.inr (by rw[h];exact hNw')) fun h=>.inl (.inr (.inr (.inr (.inr (.inr h)))))
  have hD2:Ds (w.heap.size::D) w':=hH'.d.cons hDn fun h=>by have:=hq.d _ h;omega
  have hf:FrD 63 (bq (w.heap.size::D)) a' w' [(1,E (.func (.func fid) #[] caps)),(4,E (ptr b4)),(5,E (ptr b5)),(6,E (ptr b6)),(8,E (ptr b8))]:=hf'.keep [1,4,5,6,8]
  have hH2:SeK wi K1 b4 b5 b6 bm bc (elems (ah g.1)).length nc (nbL g (elems (ah g.1))) lc L (w.heap.size::D) w':=⟨hH'.c,hH'.t,hH'.p4,hH'.p5,hH'.p6,hH'.m,hH'.mc,hD2⟩
  generalize w.heap.size::D=D2 at *
  have hNw2:Nw≤w'.heap.size:=by omega
  generalize w'=w at *
  obtain⟨N2,hN2⟩:∃N2,N2=w.heap.size:=⟨_,rfl⟩
  have hq2:SeN N2 b4 b5 b6 bm bc D2:=by rw[hN2];exact⟨⟨hH2.t.lt,hH2.p4.lt,hH2.p5.lt,hH2.p6.lt,hH2.m.lt,hH2.mc.lt⟩,fun d hd=>hH2.d.lt hd⟩
  have hN2w:N2≤w.heap.size:=Nat.le_of_eq hN2
  have hNN:Nw≤N2:=by omega
  have hb8l:b8<N2:=by rw[hN2];exact B8'.lt
  have hne2:b4≠b6∧b5≠b6∧bm≠b6∧bc≠b6:=hne6
  have hne3:b4≠bc∧b5≠bc∧bm≠bc∧b6≠bc:=⟨hne.2.2.2.2.2.2.2.1,hne.2.2.2.2.2.2.2.2,hne.2.2.2.2.2.2.1.symm,hne6.2.2.2.symm⟩
  refine seq <| rgN 3 hf <| st ((ldW T68 rfl hH2.p6 rfl).eq ((rfl:_=ac L))) <| st (ld1 (v:=I (u:Nat)) T3 rfl B8' rfl) <| st (ar (A:=E (ac (del L (u:Int)))) fi rfl rfl (fun v u w he h h'=>by cases h;cases h';exact fq L _ w)) ?_
  refine en fun a w e' hf=>?_
  replace hH2:=hH2.ext e'
  replace hN2w:=Nat.le_trans hN2w e'.size
  replace B8':=B8'.ext e'
  refine az T68 hf rfl rfl (aP _) hH2.p6 rfl (aZ _) fun w hg hsz B6 hf=>?_
  replace hH2:=hH2.st6 hg B6 (hK1s _ (.inr (.inr (.inl rfl)))) hne2 (by omega)
  replace B8':=B8'.gr hg (by have:=hq.lt;omega)
  replace hN2w:N2≤w.heap.size:=by omega
  have hL2:del L (u:Int)=mL (nbA g) (ah g.1) (k+1):=by rw[iH,hL,hu]
  rw[hL2] at hH2
  refine aa ?_
  replace hf:=hf.kp [1,4,5,6,8]
  obtain⟨L2,hL2'⟩:∃L2,L2=mL (nbA g) (ah g.1) (k+1):=⟨_,rfl⟩
  rw[← hL2'] at hH2
  refine seq <| rgN 5 hf <| st (ld1 (v:=.map (some bm)) T64 rfl hH2.p4 rfl) <| st (ld1 (v:=.map (some bc)) T89 rfl hH2.p5 rfl) <| st ((ldW T68 rfl hH2.p6 rfl).eq ((rfl:_=ac L2))) <| st (ld1 (v:=I (u:Nat)) T3 rfl B8' rfl) <| st (yr (A:=RcA (nbA g) L2 (mC (nbA g) (ah g.1) k) u) wC rfl rfl rfl rfl (fun v1 v2 v3 v4 w he h1 h2 h3 h4=>by cases h1;cases h2;cases h3;cases h4;exact a4p u w (hH2.t.ext he) hu1024 (hH2.m.ext he) (hH2.mc.ext he) hlk)) ?_
  refine en fun a w e' hf=>?_
  replace hH2:=hH2.ext e'
  replace hN2w:=Nat.le_trans hN2w e'.size
  replace B8':=B8'.ext e'
  obtain⟨rv,⟨r,rfl,hr⟩,hf⟩:=hf.opn 51 rfl
  have hrr:r=mR (nbA g) (ah g.1) k:=bT fun x=>by
   rw[hr,fJ,MR,Rc,hL2',hu]
  rw[hrr] at hf
  obtain⟨r,hr⟩:∃r,r=mR (nbA g) (ah g.1) k:=⟨_,rfl⟩
  rw[← hr] at hf
  replace hf:=hf.kp [1,4,5,6,8,51]
  refine tL I68 hf fun a b11 w e' hb11 hs11 B11 hf=>?_
  have lo11_hN2w:=Nat.le_trans hN2w (Nat.le_of_eq hb11.symm)
  have lt11_B8':=B8'.lt
  replace hH2:=hH2.ext e'
  replace hN2w:=Nat.le_trans hN2w e'.size
  replace B8':=B8'.ext e'
  have hb11:N2≤b11:=by omega
  refine az T68 hf rfl rfl (aP _) B11 rfl rfl fun w hg hsz B11 hf=>?_
  replace hH2:=hH2.gr hg hq2 hb11 (by omega)
  replace B8':=B8'.gr hg (by omega)
  replace hN2w:N2≤w.heap.size:=by omega
  refine aa ?_
  replace hf:=hf.kp [1,4,5,6,8,11]
  obtain⟨Nz,hNz⟩:∃Nz,Nz=w.heap.size:=⟨_,rfl⟩
  repeat refine seq ?_
  refine rgN 2 hf <| st ((ldW T68 rfl B11 rfl).eq ((rfl:_=ac r))) <| st (an (A:=bW Nz r) cg rfl (fun v w' he h=>by cases h;exact Calls.mono (cm _ w') (fun en w2 ⟨u,h1,h2,b',h3,h4,h5⟩=>⟨u,h1,h2,b',by have:=he.size;omega,h4,h5⟩))) ?_
  refine en fun a w e' hf=>?_
  replace hH2:=hH2.ext e'
  replace hN2w:=Nat.le_trans hN2w e'.size
  replace B8':=B8'.ext e'
  replace B11:=B11.ext e'
  refine aa ?_
  obtain⟨vv,⟨b53,h53,rfl,BS⟩,hf⟩:=hf.fix 53 rfl
  replace hf:=hf.kp [1,4,5,6,8,11,53]
  have l8:=B8'.lt
  have l11:=B11.lt
  have hbcD:bc ∉ D2:=fun h=>by
   rcases hDD bc h with h1|h1
   ·exact absurd (hH2.d.2 bc h) (by obtain⟨_,⟨_,_,h2,_⟩,_⟩:=hH2.mc;rw[h2];exact fun h=>by cases h)
   ·have:=hq.lt;omega
  refine blk <| cC (S:=r) hf rfl BS (by decide) (fun s w1=>(∃lc2,SeK wi K1 b4 b5 b6 bm bc (elems (ah g.1)).length (nc+s.length) (nbL g (elems (ah g.1))) lc2 L2 D2 w1∧∀v:Nat,v<1024→lkI lc2 (v:Int)=((mC (nbA g) (ah g.1) k v+(if v∈s then 1 else 0):Nat):Int))∧Blk w1 b8 #[I (u:Nat)] 3∧Blk w1 b11 (au r) 68) (fun _ _=>False) (fun s w1 ⟨⟨_,h,_⟩,_⟩=>h.t)
   ⟨⟨lc,hH2,fun v hv=>by rw[hlk v hv];simp⟩,B8',B11⟩ (fun s w1 w2 ⟨⟨lc2,h,hl⟩,h8,h11⟩ hs kk=>⟨⟨lc2,h.kp kk hq2 hN2w (by omega),hl⟩,h8.kp kk (fun hh=>by have:=hh.1;omega),h11.kp kk (fun hh=>by have:=hh.1;omega)⟩) (fun _ _ _ h=>h.elim) ?_ ?_ (fun _ _ _ _ _ _ h=>h.elim)
  ·intro lb s x rest a1 w1 hs hJ hlw hf
   have hx1024:x<1024:=(aH.1 (by rw[hs];simp)).1
   have hwx:(Lit.int .i64 (x:Int)).wf=true:=bh (by omega) (by omega)
   have hxs:x ∉ s:=by
    have hn:(elems r).Nodup:=List.Nodup.sublist List.filter_sublist List.nodup_range
    rw[hs] at hn
    intro hx
    exact (List.nodup_append.1 hn).2.2 x hx x (by simp) rfl
   have hsl:s.length≤1024:=by have:=bX r;rw[hs] at this;simp at this;omega
   have hck:=vb (nbA g) (ah g.1) x k
   have hn1024:n≤1024:=by rw[hn];exact fE fun i hi=>ay hi
   generalize hBz:w.heap.size=Bz at *
   refine ae <| tA hf rfl fun a hf=>aa <| ⟨Kh.rfl' _ _,fun w3 k3 hsz3=>?_⟩
   obtain⟨⟨lc2,hJ1,hJl⟩,hJ8,hJ11⟩:=hJ
   have hJ1':=hJ1.kp k3 hq2 hN2w (by omega)
   have hJ8':=hJ8.kp k3 (fun hh=>by have:=hh.1;omega)
   have hJ11':=hJ11.kp k3 (fun hh=>by have:=hh.1;omega)
   replace hf:=hf.pure w3
   have hH:=hJ1'
   have B8:=hJ8'
   have B11:=hJ11'
   have kh:=Kh.rfl' Bz w3
   replace hf:=hf.kp [5,12]
   refine blk ?_
   have hlx:=hJl x hx1024
   rw[if_neg hxs,Nat.add_zero] at hlx
   refine rgN 4 hf <| st (ld1 (v:=.map (some bc)) T89 rfl hH.p5 rfl) <| st (mv rfl) <| st ((gz U89 rfl hH.mc rfl hwx).eq (congrArg (Value.int .i64) hlx)) <| st ((add rfl rfl (by omega)).eq (congrArg (Value.int .i64) (show ((mC (nbA g) (ah g.1) k x:Nat):Int)+1=((mC (nbA g) (ah g.1) k x+1:Nat):Int) from rfl))) <| en fun a w e' hf=>?_
   replace hH:=hH.ext e'
   replace kh:=kh.tr (Kh.ext e')
   obtain⟨B8,B11⟩:=up2 e' B8 B11
   refine dc (V:=iKV) (i:=(x:Int)) (c:=((mC (nbA g) (ah g.1) k x+1:Nat):Int)) U89 hf rfl rfl rfl hH.mc (by simp only[maxLen];omega) hwx (bh (by omega) (by omega)) fun w hg HM hf=>?_
   replace hH:=hH.put hg HM (hK1s _ (.inr (.inr (.inr (.inr (.inl rfl)))))) hne3 (by omega) hbcD
   replace B8:=B8.gr hg (by have:=hq.lt;omega)
   replace B11:=B11.gr hg (by have:=hq.lt;omega)
   replace kh:=kh.tr (Kh.gr hg (fun hh=>by have:=hh.1;have:=hq2.lt;omega))
   refine aa ?_
   simp only[Exit.inBlock]
   refine⟨⟨⟨_,by rw[List.length_append];exact hH,fun y hy=>?_⟩,B8,B11⟩,kh⟩
   rw[uB]
   by_cases hyx:y=x
   ·rw[hyx,if_pos rfl,if_pos (by simp)]
   ·rw[if_neg (by omega),hJl y hy]
    have:y∈s++[x]↔y∈s:=by simp[hyx]
    simp only[this]
  intro a' w' hf' hJ hsz hDn
  simp only[Exit.inBlock,↓reduceIte,Exit.then]
  obtain⟨⟨lc3,hH',hl3⟩,B8,B11⟩:=hJ
  have hDD3:∀d∈w.heap.size::D2,KS b4 b5 b6 bm bc D d∨Nw≤d:=fun d hd=>(List.mem_cons.1 hd).elim (fun h=>.inr (by omega)) (hDD d)
  have hD3:Ds (w.heap.size::D2) w':=hH'.d.cons hDn fun h=>by have:=hq2.d _ h;omega
  have hf:FrD 63 (bq (w.heap.size::D2)) a' w' [(1,E (.func (.func fid) #[] caps)),(4,E (ptr b4)),(5,E (ptr b5)),(6,E (ptr b6)),(8,E (ptr b8)),(11,E (ptr b11))]:=hf'.keep [1,4,5,6,8,11]
  have hH:SeK wi K1 b4 b5 b6 bm bc (elems (ah g.1)).length (nc+(elems r).length) (nbL g (elems (ah g.1))) lc3 L2 (w.heap.size::D2) w':=⟨hH'.c,hH'.t,hH'.p4,hH'.p5,hH'.p6,hH'.m,hH'.mc,hD3⟩
  have hrl:(elems r).length≤1024:=bX r
  have hl4:∀v:Nat,v<1024→lkI lc3 (v:Int)=(mC (nbA g) (ah g.1) (k+1) v:Int):=fun v hv=>by
   rw[hl3 v hv,lL,← hr]
   simp only[aH,hv,true_and]
  have hDl3:∀d∈w.heap.size::D2,W.heap.size≤d:=fun d hd=>(hDD3 d hd).elim (hKW d) fun h=>Nat.le_trans hWN h
  generalize w.heap.size::D2=D3 at *
  generalize w'=w at *
  have hKK:∀b,KS b4 b5 b6 bm bc D3 b→K1 b∧W.heap.size≤b∧b<w.heap.size:=fun b hb=>by
   rcases hb with rfl|rfl|rfl|rfl|rfl|hb
   ·exact⟨hK1s _ (.inl rfl),hlo.2.1,hH.p4.lt⟩
   ·exact⟨hK1s _ (.inr (.inl rfl)),hlo.2.2,hH.p5.lt⟩
   ·exact⟨hK1s _ (.inr (.inr (.inl rfl))),hlo6.1,hH.p6.lt⟩
   ·exact⟨hK1s _ (.inr (.inr (.inr (.inl rfl)))),hlo6.2.1,hH.m.lt⟩
   ·exact⟨hK1s _ (.inr (.inr (.inr (.inr (.inl rfl))))),hlo6.2.2,hH.mc.lt⟩
   ·exact⟨by rw[hK1];exact hDD3 b hb,hDl3 b hb,hH.d.lt hb⟩
  have hjw:∀w2,Ext w w2→J k (KS b4 b5 b6 bm bc D3) w2:=fun w2 e2=>hJ2 _ _ _ _ (fun b hb=>.inl (hKK b hb).1) (hJ1 k K1 wi w2 (fun b hb=>by
   rw[hK1] at hb
   exact hb.elim (hKW b) fun h=>Nat.le_trans hWN h) (hJ2 _ _ _ _ (fun b hb=>by
   rw[hK1] at hb
   rw[← hNw]
   exact hb) hj) (hH.c.ext e2))
  have hcc:Chg S0 W w:=by
   have h1:=c.tr2 hH.c fun b hb=>.inr (by
    rw[hK1] at hb
    exact hb.elim (hKW b) fun h=>Nat.le_trans hWN h)
   exact h1
  have hws:W.heap.size≤w.heap.size:=hcc.size
  obtain⟨wj,hwj⟩:∃wj,wj=w:=⟨_,rfl⟩
  have ej:Ext wj w:=by rw[hwj];exact Ext.rfl' _
  rw[← hwj] at hjw hws
  replace hKK:∀b,KS b4 b5 b6 bm bc D3 b→W.heap.size≤b∧b<wj.heap.size:=fun b hb=>by rw[hwj];exact (hKK b hb).2
  refine rgN 3 hf <| st (mv rfl) <| st (ld1 (v:=I (u:Nat)) T3 rfl B8 rfl) <| st ((ldW T68 rfl B11 rfl).eq ((rfl:_=ac r))) <| en fun a w e' hf=>?_
  replace hH:=hH.ext e'
  replace hcc:=hcc.ext e'
  replace ej:=Ext.tr ej e'
  replace B8:=B8.ext e'
  replace B11:=B11.ext e'
  refine fu (S:=fun b=>S0 b∨(W.heap.size≤b∧¬KS b4 b5 b6 bm bc D3 b)) (F:=fun w'=>J (k+1) (KS b4 b5 b6 bm bc D3) w') (A:=E (.tuple #[])) hf (by decide) hen rfl ?_ fun a w hc hF hf=>?_
  ·have e1:a.eval (.tmp 60)=I (u:Nat):=hf.opd (.tmp 60) _ rfl
   have e2:a.eval (.tmp 61)=ac r:=hf.opd (.tmp 61) _ rfl
   simp only[List.map_toArray,List.map_cons,List.map_nil,e1,e2]
   have:=hdo k hk (KS b4 b5 b6 bm bc D3) _ (fun b hb=>⟨(hKK b hb).1,Nat.lt_of_lt_of_le (hKK b hb).2 ej.size⟩) (Nat.le_trans hws ej.size) hH.t (hjw _ ej)
   rw[← hu,← hr] at this
   exact this.mono fun en w' ⟨k1,k2,k3⟩=>⟨_,k1,k2,rfl,k3⟩
  refine aa ?_
  simp only[Exit.inBlock]
  replace hf:=hf.kp [1,4,5,6]
  have hno:∀b,KS b4 b5 b6 bm bc D3 b→¬(S0 b∨(W.heap.size≤b∧¬KS b4 b5 b6 bm bc D3 b)):=fun b hb hh=>hh.elim (fun h=>by have:=(hS0 b h).2;have:=(hKK b hb).1;omega) fun h=>h.2 hb
  refine⟨r0 - 1,by omega,k+1,lc3,nc+(elems r).length,D3,by omega,hf,hcc.tr2 hc fun b hb=>hb.imp id fun h=>h.1,hH.t.ch hc (fun hh=>hh.elim (fun h=>by have:=(hS0 0 h).1;omega) fun h=>by omega),hH.p4.ch hc (hno _ (.inl rfl)),hH.p5.ch hc (hno _ (.inr (.inl rfl))),?_,hH.m.pres (hc.block _ hH.m.lt (hno _ (.inr (.inr (.inr (.inl rfl)))))),hH.mc.pres (hc.block _ hH.mc.lt (hno _ (.inr (.inr (.inr (.inr (.inl rfl))))))),hl4,by omega,hH.d.ch hc (fun d hd=>hno d (.inr (.inr (.inr (.inr (.inr hd)))))),hDl3,hF⟩
  rw[← hL2']
  exact hH.p6.ch hc (hno _ (.inr (.inr (.inl rfl))))
theorem a4z {cur:Array Value}{xs:List Int}(ht:cur.toList.take (xs.length * aj.k)=xs.flatMap ju){i:Nat}(hi:i<xs.length):cur[i]?=some (I (xs.getD i 0)):=by
 have h1:aj.k=1:=rfl
 rw[h1,Nat.mul_one] at ht
 have h2:(xs.flatMap ju)[i]?=some (I (xs.getD i 0)):=by
  rw[ku (k:=1) (fun _=>rfl) (by decide),Nat.div_one,Nat.mod_one,List.getElem?_eq_getElem hi,List.getD_eq_getElem?_getD,List.getElem?_eq_getElem hi];rfl
 rw[← h2,← ht,List.getElem?_take,if_pos hi,Array.getElem?_toList]
theorem a4A {cur:Array Value}{xs:List Int}(hs:xs.length≤cur.size)(h:∀i,i<xs.length→cur[i]?=some (I (xs.getD i 0))):cur.toList.take (xs.length * aj.k)=xs.flatMap ju:=by
 have h1:aj.k=1:=rfl
 rw[h1,Nat.mul_one]
 refine List.ext_getElem? fun i=>?_
 rw[List.getElem?_take,ku (k:=1) (fun _=>rfl) (by decide),Nat.div_one,Nat.mod_one]
 by_cases hi:i<xs.length
 ·rw[if_pos hi,Array.getElem?_toList,h i hi,List.getElem?_eq_getElem hi,List.getD_eq_getElem?_getD,List.getElem?_eq_getElem hi];rfl
 ·rw[if_neg hi,List.getElem?_eq_none (by omega)];rfl
theorem iat {b i:Nat}:Value.pointer (some ⟨b,0+((i:Nat):Int).toNat * 1,none⟩)=Value.pointer (some ⟨b,i,none⟩):=by rw[Int.toNat_natCast,Nat.zero_add,Nat.mul_one]
theorem a4B {N:Nat}(xs:List Int)(v:Value)(W:World)(Ho:OwR aj 3 N G0 W xs v)(hl:xs.length≤100000):Calls Tryz.prog 74 #[v] W (fun en w'=>en=.returned (.tuple #[])∧Chg (fun b=>v.ownBlock=some b) W w'∧OwR aj 3 N G0 w' xs.reverse v):=by
 obtain⟨n,hn⟩:∃n,n=xs.length:=⟨_,rfl⟩
 rcases Ho.rw sL with ⟨rfl,rfl⟩|⟨b,cap,cur,rfl,hc,HR,ht⟩
 ·refine eN [.slice none 0 0] [E (.slice none 0 0)] Tryz.func74 Tryz.ntmps74 ?_ fun a hf=>?_
  rotate_left
  rotate_right
  ·exact arg1 rfl
  have e:=Ext.rfl' W
  refine seq <| rgN 3 hf <| st (mv rfl) <| st (mQ U35 rfl) <| st ((sub rfl rfl (by omega)).eq ((rfl:_=I (-1)))) <| en fun a w e' hf=>?_
  replace e:=e.tr e'
  refine tA hf rfl fun a hf=>tA hf rfl fun a hf=>aa ?_
  replace hf:=hf.keep [0,2,3]
  refine blk (aJ (fun r0 a w=>Fr 28 a w [(0,E (.slice none 0 0)),(2,E (I 0)),(3,E (I (-1)))]∧Ext W w) 0 ⟨hf,e⟩ ?_)
  rintro r0 a w ⟨hf,e⟩
  repeat refine seq ?_
  refine rgN 3 hf <| st (mv rfl) <| st (mv rfl) <| st ((lss rfl rfl).eq (congrArg Value.bool ((decide_eq_false (by decide):_=false)))) <| en fun a w e' hf=>?_
  replace e:=e.tr e'
  refine aa <| ifc hf rfl (fun h=>by cases h) (fun _=>aG ?_)
  simp only[Exit.then,Exit.inBlock,↓reduceIte]
  exact dG rfl hf ⟨rfl,e.chg _,OwR.nil aj _ (Nat.le_trans Ho.base e.size) fun b hb=>hb.elim⟩
 ·have hav:=Ho.av
  have hsz:n≤cur.size:=by rw[HR.sz,hn];exact Nat.le_trans hc (Nat.le_of_eq (Nat.mul_one _).symm)
  have hcs:=HR.sz
  have hmx:=HR.mx
  have hlo:=HR.lo
  have hB:=HR.bl
  have hcell:∀i,i<n→cur[i]?=some (I (xs.getD i 0)):=fun i hi=>a4z ht (by omega)
  refine eN [.slice (some ⟨b,0,none⟩) xs.length cap] [E (.slice (some ⟨b,0,none⟩) xs.length cap)] Tryz.func74 Tryz.ntmps74 ?_ fun a hf=>?_
  rotate_left
  rotate_right
  ·exact arg1 rfl
  rw[← hn] at hf
  have c:Chg (fun q=>q=b) W W:=Chg.rfl' _ _
  refine seq <| rgN 3 hf <| st (mv rfl) <| st (mQ U35 rfl) <| st (sub rfl rfl (by omega)) <| en fun a w e' hf=>?_
  obtain⟨c,hB⟩:=up2 e' c hB
  refine tA hf rfl fun a hf=>tA hf rfl fun a hf=>aa ?_
  replace hf:=hf.upd 2 rfl (B:=E (I ((0:Nat):Int))) fun v h=>h
  replace hf:=hf.upd 3 rfl (B:=E (I ((n:Int) - 1 - ((0:Nat):Int)))) fun v h=>by rw[show v=_ from h];exact congrArg (Value.int .i64) (by omega)
  replace hf:=hf.keep [0,2,3]
  refine blk (aJ (fun r0 a w=>∃(i:Nat) (cu:Array Value),n≤r0+i∧i≤n∧Fr 28 a w [(0,E (.slice (some ⟨b,0,none⟩) n cap)),(2,E (I (i:Nat))),(3,E (I ((n:Int) - 1 - ((i:Nat):Int))))]∧Chg (fun q=>q=b) W w∧Blk w b cu 3∧cu.size=cur.size ∧
   ∀k,k<n→cu[k]?=some (I (if k<i∨n≤k+i then xs.getD (n - 1 - k) 0 else xs.getD k 0))) n ⟨0,cur,Nat.le_refl _,Nat.zero_le _,hf,c,hB,rfl,fun k hk=>by rw[if_neg (by omega)];exact hcell k hk⟩ ?_)
  rintro r0 a w ⟨i,cu,hr0,hin,hf,c,hB,hcu,hcc⟩
  by_cases hij:2 * i+1<n
  ·repeat refine seq ?_
   refine rgN 3 hf <| st (mv rfl) <| st (mv rfl) <| st ((lss rfl rfl).eq (congrArg Value.bool ((decide_eq_true (by omega):_=true)))) <| en fun a w e' hf=>?_
   obtain⟨c,hB⟩:=up2 e' c hB
   refine aa <| ifc hf rfl (fun _=>ak ?_) (fun h=>by cases h)
   refine seq <| blk ?_
   obtain⟨j,hj⟩:∃j,j=n - 1 - i:=⟨_,rfl⟩
   replace hf:=hf.upd 3 rfl (B:=E (I (j:Nat))) fun v h=>by rw[show v=_ from h];exact congrArg (Value.int .i64) (by omega)
   replace hf:=hf.kp [0,2,3]
   have ci:=hcc i (by omega)
   have cj:=hcc j (by omega)
   rw[if_neg (by omega)] at ci cj
   refine fD 15 [2,2,1,1,2,2,2,2,2,2,2,2,2] (Chg fun c=>c=b) (cR.one _) (fun w=>Blk w b (bL cu i #[I (xs.getD j 0)]) 3) (fun w w1 k h=>h.ext k) Mix.mix hf (by decide +kernel) (by decide +kernel) <| jk (mv rfl) <| jk (mv rfl) <| jf (fun w1 h1=>mv rfl) <| jf (fun w1 h1=>mv rfl) <| jk (mv rfl) <| jk (mv rfl) <| jk ((idxS U35 S3 rfl rfl (by omega)).eq (iat)) <| jk (ld1 (v:=I (xs.getD j 0)) T3 rfl hB cj) <| jk (mv rfl) <| jk (mv rfl) <| jk ((idxS U35 S3 rfl rfl (by omega)).eq (iat)) <| jk (ld1 (v:=I (xs.getD i 0)) T3 rfl hB ci) <| jk ((idxS U35 S3 rfl rfl (by omega)).eq (iat)) <| jx (a2C T3 rfl rfl rfl hB (by omega)) <| jp (fun w1 h1 HF1=>(idxS U35 S3 rfl rfl (by omega)).eq (iat)) <| je <| fun a w hc HF hf=>?_
   try dsimp only[push] at hf
   replace c:=c.tr hc
   have z1:(bL cu i #[I (xs.getD j 0)]).size=cu.size:=ix (by show i+1≤_;omega)
   refine aA T3 hf rfl rfl rfl HF (by omega) fun w hg hsz' HB hf=>?_
   replace c:=c.gr hg (.inl rfl)
   refine aa ?_
   replace hf:=hf.keep [0,2,3]
   refine rgN 4 hf <| st (mv rfl) <| st ((add rfl rfl (by omega)).eq (congrArg (Value.int .i64) (show ((i:Nat):Int)+1=((i+1:Nat):Int) from rfl))) <| st (mv rfl) <| st ((sub rfl rfl (by omega)).eq (congrArg (Value.int .i64) (show ((j:Nat):Int) - 1=(n:Int) - 1 - ((i+1:Nat):Int) by omega))) <| en fun a w e' hf=>?_
   obtain⟨c,HB⟩:=up2 e' c HB
   refine tA hf rfl fun a hf=>tA hf rfl fun a hf=>aa ?_
   replace hf:=hf.keep [0,2,3]
   refine⟨r0 - 1,by omega,i+1,_,by omega,by omega,hf,c,HB,by rw[Array.size_setIfInBounds,z1,hcu],fun k hk=>?_⟩
   by_cases h1:k=j
   ·subst h1
    rw[Array.getElem?_setIfInBounds_self_of_lt (by omega),if_pos (by omega),show n - 1 - k=i by omega]
   ·rw[Array.getElem?_setIfInBounds_ne (by omega),a2B (by omega)]
    by_cases h2:k=i
    ·subst h2
     rw[if_pos rfl,if_pos (by omega),hj]
    ·rw[if_neg h2,hcc k hk]
     by_cases h3:k<i∨n≤k+i
     ·rw[if_pos h3,if_pos (by omega)]
     ·rw[if_neg h3,if_neg (by omega)]
  ·have hnn:=hij
   repeat refine seq ?_
   refine rgN 3 hf <| st (mv rfl) <| st (mv rfl) <| st ((lss rfl rfl).eq (congrArg Value.bool ((decide_eq_false (by omega):_=false)))) <| en fun a w e' hf=>?_
   obtain⟨c,hB⟩:=up2 e' c hB
   refine aa <| ifc hf rfl (fun h=>by cases h) (fun _=>aG ?_)
   simp only[Exit.then,Exit.inBlock,↓reduceIte]
   have hRR:RwR aj.k 3 N cap b cu w:=⟨hB,hlo,hcu.trans hcs,hmx⟩
   have hrl:xs.reverse.length=xs.length:=List.length_reverse
   have hgo:cu.toList.take (xs.reverse.length * aj.k)=xs.reverse.flatMap ju:=a4A (by omega) fun k hk=>by
    rw[hcc k (by omega)]
    have e1:xs.reverse.getD k 0=xs.getD (n - 1 - k) 0:=by
     rw[List.getD_eq_getElem?_getD,List.getD_eq_getElem?_getD,List.getElem?_reverse (by omega),hn]
    rw[e1]
    by_cases h3:k<i∨n≤k+i
    ·rw[if_pos h3]
    ·rw[if_neg h3,show n - 1 - k=k by omega]
   have hO:=hRR.own (xs:=xs.reverse) (G:=G0) sL (by omega) hgo hav
   rw[hrl,← hn] at hO
   exact dG rfl hf ⟨rfl,c.to fun q _ h=>by rw[h];rfl,by rw[← hn];exact hO⟩
theorem a4C {G:Nat→Prop}(t:List Int)(v:Value)(W:World)(h0:0<W.heap.size)(h:(Dv (slE aj) G t).p v W)(hl:t.length≤4096) :
  Calls Tryz.prog 73 #[v] W (Post (OwA aj 3 W.heap.size G0 t) W):=by
 have hG:∀b,G0 b→b<W.heap.size:=fun b hb=>hb.elim
 have HV:(Dv (slE aj) (GB W G0) t).p v W:=Dv.toB (Dv.weak h fun b _ hb=>hb.elim)
 have hv:∃ao n c,v=.slice ao n c∧(ao=none→t=[]∧v=.slice none 0 0):=by
  rcases Dv.sl.1 h with ⟨rfl,rfl⟩|⟨ad,cap,cs,rfl,_⟩
  ·exact⟨none,0,0,rfl,fun _=>⟨rfl,rfl⟩⟩
  ·exact⟨_,_,_,rfl,fun h=>by cases h⟩
 obtain⟨ao,n,c,hv1,hv2⟩:=hv
 refine eN [v] [E v] Tryz.func73 Tryz.ntmps73 ?_ fun a hf=>?_
 rotate_left
 dsimp only[params,Nat.reduceAdd] at hf
 rotate_right
 ·exact arg1 rfl
 have e:=Ext.rfl' W
 rw[hv1] at hf
 refine seq <| ae <| tA hf rfl fun a hf=>aa ?_
 repeat refine seq ?_
 refine rgN 2 hf <| st (mv rfl) <| st (yo U35 rfl) <| en fun a w e' hf=>?_
 obtain⟨HV,e⟩:=up2 e' HV e
 refine aa <| ifc hf rfl (fun hb=>?_) (fun hb=>?_)
 ·have hn:ao=none:=by cases ao <;> simp at hb ⊢
  obtain⟨h1,_⟩:=hv2 hn
  subst h1
  refine seq <| ae <| tA hf rfl fun a hf=>aa <| ai <| ap rfl hf rfl ?_
  rintro _ rfl
  exact⟨_,rfl,e,OwR.nil aj _ e.size fun b hb=>hb.elim⟩
 ·refine ak <| seq <| ae <| qg W.heap.size G0 aj U35 S3 hf (by decide) e.size hG fun a v w e' hov Ho hf=>?_
  obtain⟨HV,e⟩:=up2 e' HV e
  refine tP hf (mv rfl) fun a w e' hf=>?_
  obtain⟨HV,e,Ho⟩:=up3 e' HV e Ho
  haveI hin:∀G0,InR (GB W G0) _:=OwR.inGB (W:=W) Ho (Nat.le_refl _)
  refine bI U35 I3 rfl rfl hf (by decide) rfl Ho (isE rfl (by rw[← hv1];exact Dv.weak HV fun b _ hb=>hb.elim (fun h=>h.elim) (fun h=>.inr (Ho.row (Nat.le_refl _) b h)))) (by simp only[List.length_nil];omega) (by simp only[List.length_nil,maxLen];omega) fun a v w hg hat Hn hf=>?_
  replace e:=e.gro hg (Ho.row (W:=W) (Nat.le_refl _))
  replace Ho:=Hn;clear Hn hg hat hin
  refine tA hf rfl fun a hf=>aa <| ai <| ap rfl hf rfl ?_
  rintro _ rfl
  exact⟨_,rfl,e,(by have:=Ho;simp only[List.nil_append] at this;exact this)⟩
theorem a4D {G:Nat→Prop}(t:List Int)(v:Value)(W:World)(h0:0<W.heap.size)(h:(Dv (slE aj) G t).p v W)(hl:t.length≤4096) :
  Calls Tryz.prog 35 #[v] W (Post (Dv (slE aj) G0 t.reverse) W):=by
 refine eN [v] [E v] Tryz.func35 Tryz.ntmps35 ?_ fun a hf=>?_
 rotate_left
 rotate_right
 ·exact arg1 rfl
 have e:=Ext.rfl' W
 refine seq <| ae <| tA hf rfl fun a hf=>aa ?_
 have e0:=e
 obtain⟨Nw,hNw⟩:∃Nw,Nw=W.heap.size:=⟨_,rfl⟩
 have hv0:(Dv (slE aj) G0 t).p v W:=Dv.weak h fun b _ hb=>hb.elim
 refine seq <| rgN 2 hf <| st (mv rfl) <| st (an (A:=OwA aj 3 Nw G0 t) (B:=E v) wD rfl (fun u w he k=>by cases k;exact (a4C t v w (by have:=he.size;have:=e0.size;omega) (VA.st _ _ _ _ (Ext.tr e0 he) hv0) hl).mono fun en w' ⟨u,k1,k2,k3⟩=>⟨u,k1,k2,OwR.low k3 (by rw[hNw];exact (Ext.tr e0 he).size) fun b hb=>hb.elim⟩)) ?_
 refine en fun a w e' hf=>?_
 replace e:=e.tr e'
 refine tA hf rfl fun a hf=>aa ?_
 obtain⟨u,Ho,hf⟩:=hf.opn 3 rfl
 replace Ho:OwR aj 3 Nw G0 w t u:=Ho
 replace hf:=hf.kp [2,3]
 refine seq <| rgN 1 hf <| st (mv rfl) <| en fun a w e' hf=>?_
 obtain⟨Ho,e⟩:=up2 e' Ho e
 refine bU (S:=fun b=>u.ownBlock=some b) (F:=fun z w'=>z=.tuple #[]∧OwR aj 3 Nw G0 w' t.reverse u) hf (by decide) wE ?_ fun a z w hc hF hf=>?_
 ·have e1:a.eval (.tmp 6)=u:=hf.opd (.tmp 6) _ rfl
  simp only[List.map_toArray,List.map_cons,List.map_nil,e1]
  exact (a4B t u _ Ho (by omega)).mono fun en w' ⟨k1,k2,k3⟩=>⟨_,k1,k2,rfl,k3⟩
 obtain⟨rfl,Ho2⟩:=hF
 replace e:=e.ch hc fun b hb=>by rw[← hNw];exact (Ho.lt hb).1
 refine aa ?_
 replace hf:=hf.keep [2,3]
 refine seq <| rgN 1 hf <| st (mv rfl) <| en fun a w e' hf=>?_
 obtain⟨Ho2,e⟩:=up2 e' Ho2 e
 refine tA hf rfl fun a hf=>aa <| ai <| ap rfl hf rfl ?_
 rintro _ rfl
 exact⟨_,rfl,e,Ho2.sl⟩
theorem a4E (id:Nat)(r:BS)(xs:List Int)(b3:Nat)(v:Value)(W:World)(h3:Blk W b3 #[v] 35)(Ho:OwR aj 3 1 G0 W xs v)(hl:xs.length≤2000000) :
  Calls Tryz.prog 34 #[I (id:Nat),ac r,ptr b3] W (fun en w'=>en=.returned (.tuple #[])∧∃v',Chg (fun b=>b=b3∨v.ownBlock=some b) W w'∧Blk w' b3 #[v'] 35∧OwR aj 3 1 G0 w' (xs++[(id:Int)]) v'∧OwL W v v'):=by
 refine eN [I (id:Nat),ac r,ptr b3] [E (I (id:Nat)),E (ac r),E (ptr b3)] Tryz.func34 Tryz.ntmps34 ?_ fun a hf=>?_
 rotate_left
 dsimp only[params,Nat.reduceAdd] at hf
 rotate_right
 ·exact dS rfl rfl rfl
 have e:=Ext.rfl' W
 refine seq <| ae <| tB hf rfl fun a b4 w v4 hv4 e' hb4 hs4 B4 hf=>?_
 obtain⟨Ho,e,h3⟩:=up3 e' Ho e h3
 refine aa ?_
 replace hf:=hf.keep [0,2]
 refine rgN 3 hf <| st (ld1 (v:=v) T35 rfl h3 rfl) <| st (mv rfl) <| st (bB (e:=aj) (G:=GO G0 v) U35 I3 rfl (by decide) rfl Ho.avs (isI rfl)) <| en fun a w e' hf=>?_
 obtain⟨Ho,e,h3,B4⟩:=up4 e' Ho e h3 B4
 replace hf:=hf.kp [2,5,7]
 have hn3:=Ho.neB h3 (by decide)
 have hsz0:=e.size
 refine bI U35 I3 rfl rfl hf (by decide) rfl Ho (isR rfl) (by simp only[List.length_singleton];omega) (by simp only[List.length_singleton,maxLen];omega) fun a v2 w2 hg hat Hn hf=>?_
 replace h3:=h3.gro hg hn3
 have hle2:OwL W v v2:=fun b hb=>hat.elim (fun h=>.inl (by rw[← h];exact hb)) fun h=>.inr (by rw[h] at hb;cases hb;exact hsz0)
 have hn5:=Hn.neB h3 (by decide)
 replace hf:=hf.kp [2,8]
 refine aA T35 hf rfl rfl Hn.one h3 Nat.zero_lt_one fun w4 hg2 hsz h3 hf=>aa <| dG rfl hf ⟨rfl,v2,?_,h3,Hn.grE hg2 hn5,hle2⟩
 exact ((e.chg _).tr2 (Chg.row hg) fun b hb=>.inl (.inr hb)).gr hg2 (.inl (.inl rfl))
structure MsJ (W:World)(g:GT)(b3 k:Nat)(K:Nat→Prop)(v:Value)(w:World):Prop where
 p3:Blk w b3 #[v] 35
 o:OwR aj 3 1 G0 w ((List.range k).map fun i=>(mU (nbA g) (ah g.1) i:Int)) v
 k:∀b,v.ownBlock=some b→W.heap.size≤b∧¬K b
theorem vf {G:Nat→Prop}{N:Nat}(g:GT)(ok:Gr.Ok g)(gv:Value)(W:World)(hT:Tab W)(h:(Dv (ptE (grE N)) G (some g)).p gv W)(hl1:g.1.length≤100000)(hl2:g.2.length≤100000)(hN:N≤1000000) :
  Calls Tryz.prog 11 #[gv] W (Post (Dv (slE aj) G0 ((List.range (card (ah g.1))).map fun i=>(mU (nbA g) (ah g.1) i:Int)).reverse) W):=by
 have hT0:=hT.lt
 refine eN [gv] [E gv] Tryz.func11 Tryz.ntmps11 ?_ fun a hf=>?_
 rotate_left
 dsimp only[params,Nat.reduceAdd] at hf
 rotate_right
 ·exact arg1 rfl
 have e:=Ext.rfl' W
 refine seq <| ae <| tA hf rfl fun a hf=>aa ?_
 replace hf:=hf.keep [0,2]
 refine seq <| ae <| tL I35 hf fun a b3 w e' hb3 hs3 B3 hf=>?_
 have hle3:=Nat.le_trans e.size (Nat.le_of_eq hb3.symm)
 obtain⟨hT,e⟩:=up2 e' hT e
 refine aa ?_
 replace B3:Blk w b3 #[.slice none 0 0] 35:=B3
 replace hf:=hf.kp [0,2,3]
 refine seq <| rgN 2 hf <| st (mv rfl) <| st (dM rfl) <| en fun a w e' hf=>?_
 obtain⟨hT,e,B3⟩:=up3 e' hT e B3
 obtain⟨W1,hW1⟩:∃W1,W1=w:=⟨_,rfl⟩
 have l3:=B3.lt
 have hn:card (ah g.1)≤1024:=fE fun i hi=>ay hi
 have hwW:=e.size
 refine bU (S:=fun b=>b=b3) (F:=fun z w'=>z=.tuple #[]∧∃K v,MsJ W1 g b3 (card (ah g.1)) K v w') hf (by decide) pA ?_ fun a z w hc hF hf=>?_
 ·have e1:a.eval (.tmp 4)=gv:=hf.opd (.tmp 4) _ rfl
  have e2:a.eval (.tmp 5)=.func (.func 34) #[] #[ptr b3]:=hf.opd (.tmp 5) _ rfl
  simp only[List.map_toArray,List.map_cons,List.map_nil,e1,e2]
  rw[hW1]
  refine (ve g ok gv 34 #[ptr b3] (fun b=>b=b3) (fun k K w'=>∃v,MsJ w g b3 k K v w') w hT (VA.st _ _ _ _ e h) hl1 hl2 hN wc (fun b hb=>by subst hb;omega) (fun k K w1 w2 hK ⟨v,hJ⟩ c=>⟨v,hJ.p3.ch c (fun hh=>by have:=hK _ hh;omega),hJ.o.chE c (fun b hb hh=>(hJ.k b hb).2 hh),hJ.k⟩) (fun k K K' w1 hK ⟨v,hJ⟩=>⟨v,hJ.p3,hJ.o,fun b hb=>⟨(hJ.k b hb).1,fun hh=>(hK b hh).elim (hJ.k b hb).2 fun hh=>by have:=(hJ.o.lt hb).2;omega⟩⟩) ?_ ⟨.slice none 0 0,B3,OwR.nil aj _ (by omega) (fun b hb=>hb.elim),fun b hb=>by simp[Value.ownBlock] at hb⟩).mono fun en w' ⟨k1,k2,K,_,v,hJ⟩=>⟨_,k1,k2,rfl,K,v,hJ⟩
  rintro k hk K w1 hK hws hT1 ⟨v,hJ⟩
  refine (a4E (mU (nbA g) (ah g.1) k) (mR (nbA g) (ah g.1) k) _ b3 v w1 hJ.p3 hJ.o (by rw[List.length_map,List.length_range];omega)).mono fun en w' ⟨k1,v',k2,k3,k4,k5⟩=>⟨k1,?_,v',k3,?_,fun b hb=>?_⟩
  ·exact k2.to fun b _ hb=>hb.imp (fun h=>h) (hJ.k b)
  ·rw[List.range_succ,List.map_append]
   exact k4
  ·exact (k5 b hb).elim (hJ.k b) fun hh=>⟨by omega,fun hK'=>by have:=(hK b hK').2;omega⟩
 obtain⟨rfl,K,v,hJ⟩:=hF
 rw[← hW1] at e hwW l3 hc
 have hb3:W.heap.size≤b3:=hle3
 replace e:=e.ch hc fun b (hb:b=b3)=>by rw[hb];exact hb3
 obtain⟨B3,Ho,_⟩:=hJ
 refine aa ?_
 replace hf:=hf.keep [2,3]
 have e3:=e
 have hos:=Ho.sl
 have hll:((List.range (card (ah g.1))).map fun i=>(mU (nbA g) (ah g.1) i:Int)).length≤4096:=by rw[List.length_map,List.length_range];omega
 refine seq <| rgN 2 hf <| st (ld1 (v:=v) T35 rfl B3 rfl) <| st (an (A:=Dv (slE aj) G0 ((List.range (card (ah g.1))).map fun i=>(mU (nbA g) (ah g.1) i:Int)).reverse) (B:=E v) we rfl (fun u w he k=>by cases k;exact a4D _ v w (by have:=he.size;have:=e3.size;omega) (VA.st _ _ _ _ he hos) hll)) ?_
 refine en fun a w e' hf=>?_
 obtain⟨e,B3⟩:=up2 e' e B3
 refine tA hf rfl fun a hf=>aa <| ai <| ap rfl hf rfl ?_
 intro v hv
 exact⟨_,rfl,e,hv⟩
end Go.Mono
namespace Go.MonoD
open Go Go.Proofs Go.RowKit Go.Mono
def Uw (n:Int):Value:=.int .u64 n
def hiW (S:BS)(i:Nat):Nat:=S.toNat / 2 ^ (64 * i)
theorem vg (S:BS):hiW S 16=0:=by
 rw[hiW,show 64 * 16=1024 from rfl]
 exact Nat.div_eq_of_lt S.isLt
theorem vh (S:BS):hiW S 0=S.toNat:=by rw[hiW,Nat.mul_zero,Nat.pow_zero,Nat.div_one]
theorem lO (S:BS)(i:Nat):(am S i).toNat=hiW S i % 2 ^ 64:=by
 rw[am,BitVec.extractLsb'_toNat,Nat.shiftRight_eq_div_pow,hiW]
theorem lP (S:BS)(i:Nat):hiW S (i+1)=hiW S i / 2 ^ 64:=by
 rw[hiW,hiW,Nat.div_div_eq_div_mul,← Nat.pow_add,Nat.mul_succ]
theorem vi {S T:BS}{i:Nat}(h:hiW S (i+1)=hiW T (i+1))(hw:(am S i).toNat<(am T i).toNat):S.toNat<T.toNat:=by
 rw[lO,lO] at hw
 rw[lP,lP] at h
 refine Classical.byContradiction fun hn=>?_
 have:hiW T i≤hiW S i:=Nat.div_le_div_right (Nat.le_of_not_lt hn)
 omega
theorem a4F {S T:BS}{i:Nat}(h:hiW S (i+1)=hiW T (i+1))(hw:(am S i).toNat=(am T i).toNat):hiW S i=hiW T i:=by
 rw[lO,lO] at hw
 rw[lP,lP] at h
 omega
theorem a4G (x:Int)(W:World):Calls Tryz.prog 202 #[Uw x] W (Post (E (.bool false)) W):=by
 refine enter (args:=[Uw x]) (As:=[E (Uw x)]) Tryz.func202 rfl Tryz.ntmps202 (Nat.le_of_ble_eq_true rfl) ?_ (fun a hf=>?_) (Nat.le_of_ble_eq_true rfl)
 rotate_left
 rotate_right
 ·exact arg1 rfl
 have e:=Ext.rfl' W
 refine seq <| ae <| aI hf rfl (by decide) fun a hf=>aa <| seq <| aN 3 hf (by decide +kernel) <| st (mv rfl) <| st (mv rfl) <| st ((neq rfl rfl).eq (congrArg Value.bool ((show (x != x)=false by simp)))) <| en fun a w e' hf=>?_
 replace e:=e.tr e'
 refine aI hf rfl (by decide) fun a hf=>aa <| ai <| ap rfl hf rfl ?_
 rintro _ rfl
 exact⟨_,rfl,e,rfl⟩
theorem vj (x:Int)(v:Value)(w:World)(h:(E (Uw x)).p v w):Calls Tryz.prog 202 #[v] w (Post (E (.bool false)) w):=by cases h;exact a4G x w
theorem a4H (x y:Int)(W:World):Calls Tryz.prog 171 #[Uw x,Uw y] W (Post (E (I (cmpI x y))) W):=by
 refine enter (args:=[Uw x,Uw y]) (As:=[E (Uw x),E (Uw y)]) Tryz.func171 rfl Tryz.ntmps171 (Nat.le_of_ble_eq_true rfl) ?_ (fun a hf=>?_) (Nat.le_of_ble_eq_true rfl)
 rotate_left
 rotate_right
 ·exact arg2 rfl rfl
 have e:=Ext.rfl' W
 refine seq <| ae <| aI hf rfl (by decide) fun a hf=>aa <| seq <| aN 2 hf (by decide +kernel) <| st (mv rfl) <| st (an Mono.En202 rfl (fun v w he h=>vj x v w h)) <| en fun a w e' hf=>?_
 replace e:=e.tr e'
 refine aI hf rfl (by decide) fun a hf=>aa <| seq <| aN 2 hf (by decide +kernel) <| st (mv rfl) <| st (an Mono.En202 rfl (fun v w he h=>vj y v w h)) <| en fun a w e' hf=>?_
 replace e:=e.tr e'
 refine aI hf rfl (by decide) fun a hf=>aa ?_
 repeat refine seq ?_
 refine aN 1 hf (by decide +kernel) <| st (mv rfl) <| en fun a w e' hf=>?_
 replace e:=e.tr e'
 refine aa <| ifc hf rfl (fun h=>by cases h) (fun _=>?_)
 refine ak ?_
 repeat refine seq ?_
 refine aN 1 hf (by decide +kernel) <| st (mv rfl) <| en fun a w e' hf=>?_
 replace e:=e.tr e'
 refine aa <| ifc hf rfl (fun h=>by cases h) (fun _=>?_)
 refine ak ?_
 repeat refine seq ?_
 refine aN 3 hf (by decide +kernel) <| st (mv rfl) <| st (mv rfl) <| st (lss rfl rfl) <| en fun a w e' hf=>?_
 replace e:=e.tr e'
 refine aa <| ifc hf rfl (fun hb=>?_) (fun hb=>?_)
 ·refine seq <| ae <| aI hf rfl (by decide) fun a hf=>aa <| ai <| ap rfl hf rfl ?_
  rintro _ rfl
  exact⟨_,rfl,e,congrArg I (by rw[cmpI,if_pos (of_decide_eq_true hb)])⟩
 ·refine ak ?_
  repeat refine seq ?_
  refine aN 3 hf (by decide +kernel) <| st (mv rfl) <| st (mv rfl) <| st (gtr rfl rfl) <| en fun a w e' hf=>?_
  replace e:=e.tr e'
  refine aa ?_
  have hb1:=of_decide_eq_false hb
  refine ifc hf rfl (fun hb=>?_) (fun hb=>?_)
  ·refine seq <| ae <| aI hf rfl (by decide) fun a hf=>aa <| ai <| ap rfl hf rfl ?_
   rintro _ rfl
   exact⟨_,rfl,e,congrArg I (by rw[cmpI,if_neg hb1,if_pos (of_decide_eq_true hb)])⟩
  ·refine ak <| seq <| ae <| aI hf rfl (by decide) fun a hf=>aa <| ai <| ap rfl hf rfl ?_
   rintro _ rfl
   exact⟨_,rfl,e,congrArg I (by rw[cmpI,if_neg hb1,if_neg (of_decide_eq_false hb)])⟩
theorem a4I (x y:Int)(v u:Value)(w:World)(h:(E (Uw x)).p v w)(h':(E (Uw y)).p u w):Calls Tryz.prog 171 #[v,u] w (Post (E (I (cmpI x y))) w):=by cases h;cases h';exact a4H x y w
theorem vk {b i:Nat}:Value.pointer (some ⟨b,0+((i:Nat):Int).toNat * 1,none⟩)=Value.pointer (some ⟨b,i,none⟩):=by rw[Int.toNat_natCast,Nat.zero_add,Nat.mul_one]
theorem cmpS_spec (S T:BS)(W:World):Calls Tryz.prog 151 #[ac S,ac T] W (Post (E (I (cmpI (S.toNat:Int) (T.toNat:Int)))) W):=by
 refine enter (args:=[ac S,ac T]) (As:=[E (ac S),E (ac T)]) Tryz.func151 rfl Tryz.ntmps151 (Nat.le_of_ble_eq_true rfl) ?_ (fun a hf=>?_) (Nat.le_of_ble_eq_true rfl)
 rotate_left
 rotate_right
 ·exact arg2 rfl rfl
 have e:=Ext.rfl' W
 refine seq <| ae <| dq hf rfl (by decide) fun a b2 w v2 hv2 e' hb2 hs2 B2 hf=>?_
 replace e:=e.tr e'
 refine dq hf rfl (by decide) fun a b3 w v3 hv3 e' hb3 hs3 B3 hf=>?_
 replace e:=e.tr e'
 replace B2:=B2.ext e'.toBelow
 refine aI hf rfl (by decide) fun a hf=>aa ?_
 cases hv2;cases hv3
 replace B2:Blk w b2 (au S) 68:=B2
 replace B3:Blk w b3 (au T) 68:=B3
 replace hf:=hf.keep [2,3,4]
 repeat refine seq ?_
 refine ae <| aI hf rfl (by decide) fun a hf=>aa ?_
 replace hf:=hf.keep [2,3,5]
 replace hf:=FrD.cons (k:=5) (A:=E (I (((16:Nat):Int) - 1))) (hf.val 5 _ rfl) hf
 replace hf:=hf.keep [2,3,5]
 refine blk (aJ (fun r0 a w=>∃i:Nat,i≤r0∧i≤16∧hiW S i=hiW T i∧Fr 21 a w [(2,E (.pointer (some ⟨b2,0,none⟩))),(3,E (.pointer (some ⟨b3,0,none⟩))),(5,E (I ((i:Int) - 1)))]∧Ext W w∧Blk w b2 (au S) 68∧Blk w b3 (au T) 68) 16 ⟨16,Nat.le_refl _,Nat.le_refl _,(vg S).trans (vg T).symm,hf,e,B2,B3⟩ ?_)
 rintro r0 a w ⟨i,hr0,hi16,heq,hf,e,B2,B3⟩
 repeat refine seq ?_
 by_cases hi:i=0
 ·subst hi
  refine aN 2 hf (by decide +kernel) <| st (mv rfl) <| st ((geq rfl rfl).eq (congrArg Value.bool ((decide_eq_false (by omega):_=false)))) <| en fun a w e' hf=>?_
  replace e:=e.tr e'
  replace B2:=B2.ext e'.toBelow
  replace B3:=B3.ext e'.toBelow
  refine aa <| ifc hf rfl (fun h=>by cases h) (fun _=>aG ?_)
  rw[vh,vh] at heq
  refine seq <| ae <| aI hf rfl (by decide) fun a hf=>aa <| ai <| ap rfl hf rfl ?_
  rintro _ rfl
  exact⟨_,rfl,e,congrArg I (by rw[heq,cmpI,if_neg (Int.lt_irrefl _),if_neg (Int.lt_irrefl _)])⟩
 ·obtain⟨j,rfl⟩:∃j,i=j+1:=⟨i - 1,by omega⟩
  refine aN 2 hf (by decide +kernel) <| st (mv rfl) <| st ((geq rfl rfl).eq (congrArg Value.bool ((decide_eq_true (by omega):_=true)))) <| en fun a w e' hf=>?_
  replace e:=e.tr e'
  replace B2:=B2.ext e'.toBelow
  replace B3:=B3.ext e'.toBelow
  refine aa <| ifc hf rfl (fun _=>ak ?_) (fun h=>by cases h)
  refine seq <| blk ?_
  have c1:(au S)[j]?=some (Uw ((am S j).toNat:Int)):=cp _ j (by omega)
  have c2:(au T)[j]?=some (Uw ((am T j).toNat:Int)):=cp _ j (by omega)
  replace hf:=FrD.cons (k:=5) (A:=E (I ((j:Nat):Int))) (by rw[show ((j:Nat):Int)=((j+1:Nat):Int) - 1 by omega];exact hf.val 5 _ rfl) hf
  replace hf:=hf.keep [2,3,5]
  refine seq <| reg 7 Mix.mix hf (by decide +kernel) <| st (mv rfl) <| st ((cD Tryz.underlying68 ⟨_,Mono.T66⟩ rfl rfl (by omega)).eq (vk)) <| st (ld1 Mono.T66 rfl B2 c1) <| st (mv rfl) <| st ((cD Tryz.underlying68 ⟨_,Mono.T66⟩ rfl rfl (by omega)).eq (vk)) <| st (ld1 Mono.T66 rfl B3 c2) <| st (ar Mono.En171 rfl rfl (fun v u w he h h'=>a4I _ _ v u w h h')) <| en fun a w e' hf=>?_
  replace e:=e.tr e'
  replace B2:=B2.ext e'.toBelow
  replace B3:=B3.ext e'.toBelow
  refine aI hf rfl (by decide) fun a hf=>aa ?_
  replace hf:=hf.keep [2,3,5,6]
  refine seq <| aN 2 hf (by decide +kernel) <| st (mv rfl) <| st (neq rfl rfl) <| en fun a w e' hf=>?_
  replace e:=e.tr e'
  replace B2:=B2.ext e'.toBelow
  replace B3:=B3.ext e'.toBelow
  refine aa <| ifc hf rfl (fun hb=>?_) (fun hb=>?_)
  ·have hb':cmpI ((am S j).toNat:Int) ((am T j).toNat:Int)≠0:=by simpa using hb
   have hfin:cmpI ((am S j).toNat:Int) ((am T j).toNat:Int)=cmpI (S.toNat:Int) (T.toNat:Int):=by
    unfold cmpI at hb' ⊢
    by_cases h1:((am S j).toNat:Int)<((am T j).toNat:Int)
    ·have h2:=vi heq (by omega)
     rw[if_pos h1,if_pos (by omega)]
    ·rw[if_neg h1] at hb' ⊢
     by_cases h2:((am T j).toNat:Int)<((am S j).toNat:Int)
     ·have h3:=vi heq.symm (by omega)
      rw[if_pos h2,if_neg (by omega),if_pos (by omega)]
     ·rw[if_neg h2] at hb'
      exact absurd rfl hb'
   refine seq <| aN 1 hf (by decide +kernel) <| st (mv rfl) <| en fun a w e' hf=>?_
   replace e:=e.tr e'
   replace B2:=B2.ext e'.toBelow
   replace B3:=B3.ext e'.toBelow
   refine aI hf rfl (by decide) fun a hf=>aa <| ai <| ap rfl hf rfl ?_
   rintro _ rfl
   exact⟨_,rfl,e,congrArg I hfin⟩
  ·have hb':cmpI ((am S j).toNat:Int) ((am T j).toNat:Int)=0:=by simpa using hb
   refine ak ?_
   have hww:(am S j).toNat=(am T j).toNat:=by
    unfold cmpI at hb'
    by_cases h1:((am S j).toNat:Int)<((am T j).toNat:Int)
    ·rw[if_pos h1] at hb';cases hb'
    ·rw[if_neg h1] at hb'
     by_cases h2:((am T j).toNat:Int)<((am S j).toNat:Int)
     ·rw[if_pos h2] at hb';cases hb'
     ·omega
   replace hf:=hf.keep [2,3,5]
   refine aN 2 hf (by decide +kernel) <| st (mv rfl) <| st (sub rfl rfl (by omega)) <| en fun a w e' hf=>?_
   replace e:=e.tr e'
   replace B2:=B2.ext e'.toBelow
   replace B3:=B3.ext e'.toBelow
   refine aI hf rfl (by decide) fun a hf=>aa ?_
   replace hf:=hf.keep [2,3,5]
   exact⟨r0 - 1,by omega,j,by omega,by omega,a4F heq hww,hf,e,B2,B3⟩
end Go.MonoD
namespace Go.Proofs
open Go.Shelf
def Tryz.sortS_ren:Go.Shelf.Ren:=⟨fun|6=>150|15=>122|14=>170|28=>166|29=>167|20=>194|21=>195|22=>196|23=>197|24=>198|25=>199|26=>200|27=>201|46=>210|47=>190|48=>191|49=>211|50=>212|57=>215|n=>n,fun|22=>159|24=>68|25=>194|3=>3|39=>166|0=>0|53=>213|55=>66|4=>4|46=>207|45=>206|50=>114|5=>5|9=>9|66=>229|70=>233|76=>245|77=>110|n=>n,fun|n=>n⟩
theorem Tryz.sortS:Go.Proofs.SlLaysF0.n6 Tryz.prog Tryz.sortS_ren:={
 mixed:=by kernel_rfl
 f6:=⟨Tryz.f150.name,by decide,Tryz.func150.trans (congrArg some (by kernel_rfl))⟩
 f14:=⟨Tryz.f170.name,by decide,Tryz.func170.trans (congrArg some (by kernel_rfl))⟩
 f15:=Tryz.func122.trans (congrArg some (by kernel_rfl))
 f20:=⟨Tryz.f194.name,by decide,Tryz.func194.trans (congrArg some (by kernel_rfl))⟩
 f21:=⟨Tryz.f195.name,by decide,Tryz.func195.trans (congrArg some (by kernel_rfl))⟩
 f22:=⟨Tryz.f196.name,by decide,Tryz.func196.trans (congrArg some (by kernel_rfl))⟩
 f23:=⟨Tryz.f197.name,by decide,Tryz.func197.trans (congrArg some (by kernel_rfl))⟩
 f24:=⟨Tryz.f198.name,by decide,Tryz.func198.trans (congrArg some (by kernel_rfl))⟩
 f25:=⟨Tryz.f199.name,by decide,Tryz.func199.trans (congrArg some (by kernel_rfl))⟩
 f26:=⟨Tryz.f200.name,by decide,Tryz.func200.trans (congrArg some (by kernel_rfl))⟩
 f27:=⟨Tryz.f201.name,by decide,Tryz.func201.trans (congrArg some (by kernel_rfl))⟩
 f28:=Tryz.func166.trans (congrArg some (by kernel_rfl))
 f29:=Tryz.func167.trans (congrArg some (by kernel_rfl))
 f46:=⟨Tryz.f210.name,by decide,Tryz.func210.trans (congrArg some (by kernel_rfl))⟩
 f47:=Tryz.func190.trans (congrArg some (by kernel_rfl))
 f48:=Tryz.func191.trans (congrArg some (by kernel_rfl))
 f49:=⟨Tryz.f211.name,by decide,Tryz.func211.trans (congrArg some (by kernel_rfl))⟩
 f50:=⟨Tryz.f212.name,by decide,Tryz.func212.trans (congrArg some (by kernel_rfl))⟩
 f57:=⟨Tryz.f215.name,by decide,Tryz.func215.trans (congrArg some (by kernel_rfl))⟩
 t0:=Tryz.underlying0
 a0:=Tryz.isAgg0
 z0:=Tryz.sizeOf0
 v0:=Tryz.zeroValue0
 t3:=Tryz.underlying3
 a3:=Tryz.isAgg3
 z3:=Tryz.sizeOf3
 v3:=Tryz.zeroValue3
 t4:=Tryz.underlying4
 a4:=Tryz.isAgg4
 z4:=Tryz.sizeOf4
 v4:=Tryz.zeroValue4
 t5:=Tryz.underlying5
 a5:=Tryz.isAgg5
 z5:=Tryz.sizeOf5
 v5:=Tryz.zeroValue5
 t9:=Tryz.underlying9
 a9:=Tryz.isAgg9
 z9:=Tryz.sizeOf9
 v9:=Tryz.zeroValue9
 t22:=Tryz.underlying159
 a22:=Tryz.isAgg159
 z22:=Tryz.sizeOf159
 v22:=Tryz.zeroValue159
 t25:=Tryz.underlying194
 a25:=Tryz.isAgg194
 z25:=Tryz.sizeOf194
 v25:=Tryz.zeroValue194
 t39:=Tryz.underlying166
 a39:=Tryz.isAgg166
 z39:=Tryz.sizeOf166
 v39:=Tryz.zeroValue166
 t45:=Tryz.underlying206
 a45:=Tryz.isAgg206
 z45:=Tryz.sizeOf206
 v45:=Tryz.zeroValue206
 t46:=Tryz.underlying207
 a46:=Tryz.isAgg207
 z46:=Tryz.sizeOf207
 v46:=Tryz.zeroValue207
 t50:=Tryz.underlying114
 a50:=Tryz.isAgg114
 z50:=Tryz.sizeOf114
 v50:=Tryz.zeroValue114
 t53:=Tryz.underlying213
 a53:=Tryz.isAgg213
 z53:=Tryz.sizeOf213
 v53:=Tryz.zeroValue213
 t55:=Tryz.underlying66
 a55:=Tryz.isAgg66
 z55:=Tryz.sizeOf66
 v55:=Tryz.zeroValue66
 t66:=Tryz.underlying229
 a66:=Tryz.isAgg229
 z66:=Tryz.sizeOf229
 v66:=Tryz.zeroValue229
 t70:=Tryz.underlying233
 a70:=Tryz.isAgg233
 z70:=Tryz.sizeOf233
 v70:=Tryz.zeroValue233
 t76:=Tryz.underlying245
 a76:=Tryz.isAgg245
 z76:=Tryz.sizeOf245
 v76:=Tryz.zeroValue245
 t77:=Tryz.underlying110
 a77:=Tryz.isAgg110
 z77:=Tryz.sizeOf110
 v77:=Tryz.zeroValue110 }
end Go.Proofs
namespace Go.Mono
open Go Go.Proofs Go.RowKit Go.Gr Go.Sort
theorem a4J (x y:Int):decide (MonoD.cmpI x y<0)=decide (x<y):=by
 unfold MonoD.cmpI
 by_cases h1:x<y
 ·simp[h1]
 ·by_cases h2:y<x <;> simp[h1,h2]
theorem lQ (S T:BS):ltOf (fun S T:BS=>MonoD.cmpI (S.toNat:Int) (T.toNat:Int)) S T=decide ((S.toNat:Int)<(T.toNat:Int)):=a4J _ _
theorem a4K:SWO (ltOf fun S T:BS=>MonoD.cmpI (S.toNat:Int) (T.toNat:Int)) where
 irrefl x:=by rw[lQ];exact decide_eq_false (Int.lt_irrefl _)
 trans x y z h1 h2:=by rw[lQ] at *;exact decide_eq_true (Int.lt_trans (of_decide_eq_true h1) (of_decide_eq_true h2))
 ntrans x y z h1 h2:=by
  rw[lQ] at *
  have h1:=of_decide_eq_false h1
  have h2:=of_decide_eq_false h2
  exact decide_eq_false (by omega)
instance:Inhabited BS:=⟨0⟩
theorem a4L {B:Nat}{G:Nat→Prop}{w:World}{xs:List BS}{v:Value}(Ho:OwR bD 68 B G w xs v)(hl:xs.length≤100000) :
  Calls Tryz.prog 150 #[v,.func (.func 151) #[] #[]] w fun en w'=>en=.returned (.tuple #[])∧∃xs',xs'.Perm xs∧xs'.Pairwise (fun S T=>¬T.toNat<S.toNat)∧OwR bD 68 B G w' xs' v∧Chg (fun b=>v.ownBlock=some b) w w':=
 (kx (e:=bD) Tryz.sortS (fun w=>T68.agg w) (fun w=>T68.size w) (fun S=>(au S).toList) (fun _ _ _ _=>Iff.rfl) (fun S=>by rw[Array.length_toList,aZ];rfl) (fun S u hu=>bD.one (G:=Go.Mono.G0) (w:=w) (x:=S) rfl u hu) _ a4K 151 xD
  (fun x y W=>(MonoD.cmpS_spec x y W).mono fun en w' ⟨u,h1,h2,h3⟩=>by cases h3;exact⟨h1,h2.grown⟩) Ho hl).mono fun en w' ⟨h1,xs',h2,h3,h4,h5⟩=>⟨h1,xs',h2,h3.imp fun {a b} h=>by rw[lQ] at h;have:=of_decide_eq_false h;omega,h4,h5⟩
end Go.Mono
namespace Go.Mono
open Go Go.Proofs Go.RowKit Go.Gr
def cmS (nb:Int→BS)(m K:Nat)(R:BS):List BS:=(cw nb m K R).getD []
def eh (nb:Int→BS)(m K:Nat)(V:BS)(s:List Nat):List BS:=s.foldl (fun (l:List BS) (x:Nat)=>bM nb l (cmS nb m K (V &&& ~~~ins (nb (x:Int)) (x:Int)))) []
def dj (nb:Int→BS)(m K:Nat)(V S:BS)(l:List BS)(s:List Nat):List BS:=s.foldl (fun (l:List BS) (x:Nat)=>bM nb l (cmS nb m K (V &&& ~~~(S ||| nb (x:Int))))) l
def gB (nb:Int→BS)(m K:Nat)(V:BS):Nat→Nat→List BS→Option (List BS)
 | 0,_,_=>none
 | r+1,i,l=>if i<l.length∧l.length≤9 then gB nb m K V r (i+1) (dj nb m K V (l.getD i 0) l (elems (l.getD i 0))) else some l
theorem a4M (nb:Int→BS)(m K:Nat)(V:BS)(i:Nat)(l:List BS):gB nb m K V 0 i l=none:=rfl
theorem a4N (nb:Int→BS)(m K:Nat)(V:BS)(r i:Nat)(l:List BS):gB nb m K V (r+1) i l=if i<l.length∧l.length≤9 then gB nb m K V r (i+1) (dj nb m K V (l.getD i 0) l (elems (l.getD i 0))) else some l:=rfl
theorem a4O (nb:Int→BS)(m K:Nat)(V:BS)(s:List Nat)(x:Nat):eh nb m K V (s++[x])=bM nb (eh nb m K V s) (cmS nb m K (V &&& ~~~ins (nb (x:Int)) (x:Int))):=by simp only[eh,List.foldl_append,List.foldl_cons,List.foldl_nil]
theorem a4P (nb:Int→BS)(m K:Nat)(V S:BS)(l:List BS)(s:List Nat)(x:Nat):dj nb m K V S l (s++[x])=bM nb (dj nb m K V S l s) (cmS nb m K (V &&& ~~~(S ||| nb (x:Int)))):=by simp only[dj,List.foldl_append,List.foldl_cons,List.foldl_nil]
theorem jK {f:List BS→Nat→List BS}(hf:∀l x,(f l x).length≤l.length+10):∀(s:List Nat) (l:List BS),(s.foldl f l).length≤l.length+10 * s.length
 | [],l=>by simp
 | x::s,l=>by
  have h1:=jK hf s (f l x)
  have h2:=hf l x
  rw[List.foldl_cons,List.length_cons];omega
theorem a4Q {nb:Int→BS}{l:List BS}{p:BS}{i:Nat}(h:i<l.length):(de nb l p)[i]?=l[i]?:=by
 rw[de];split
 ·rfl
 ·rw[List.getElem?_append_left h]
theorem vl {nb:Int→BS}{l:List BS}{p:BS}:l.length≤(de nb l p).length:=by
 rw[de];split
 ·exact Nat.le_refl _
 ·rw[List.length_append];omega
theorem vm {nb:Int→BS}:∀(L l:List BS) {i:Nat},i<l.length→(bM nb l L)[i]?=l[i]?∧l.length≤(bM nb l L).length
 | [],l,i,h=>⟨rfl,Nat.le_refl _⟩
 | p::L,l,i,h=>by
  have h1:=vm (nb:=nb) L (de nb l p) (Nat.lt_of_lt_of_le h vl)
  have h3:bM nb l (p::L)=bM nb (de nb l p) L:=rfl
  rw[h3]
  exact⟨h1.1.trans (a4Q h),Nat.le_trans vl h1.2⟩
theorem vn {nb:Int→BS}{m K:Nat}{V S:BS}:∀(s:List Nat) (l:List BS) {i:Nat},i<l.length→(dj nb m K V S l s)[i]?=l[i]?∧l.length≤(dj nb m K V S l s).length
 | [],l,i,h=>⟨rfl,Nat.le_refl _⟩
 | x::s,l,i,h=>by
  have h0:=vm (nb:=nb) (cmS nb m K (V &&& ~~~(S ||| nb (x:Int)))) l h
  have h1:=vn (nb:=nb) (m:=m) (K:=K) (V:=V) (S:=S) s (bM nb l (cmS nb m K (V &&& ~~~(S ||| nb (x:Int))))) (Nat.lt_of_lt_of_le h h0.2)
  have h3:dj nb m K V S l (x::s)=dj nb m K V S (bM nb l (cmS nb m K (V &&& ~~~(S ||| nb (x:Int))))) s:=rfl
  rw[h3]
  exact⟨h1.1.trans h0.1,Nat.le_trans h0.2 h1.2⟩
def leV (b2 b6 b7:Nat):Value:=.func (.func 147) #[] #[ptr b2,ptr b6,ptr b7]
structure MsW (W:World)(gv:Value)(b2 b6 b7 b8 bm N0:Nat)(v:Value)(lp:List (BS×Bool))(xs:List BS)(w:World):Prop where
 e:Ext W w
 t:Tab w
 p2:Blk w b2 #[gv] 28
 p6:Blk w b6 #[.map (some bm)] 189
 p7:Blk w b7 #[v] 159
 p8:Blk w b8 #[leV b2 b6 b7] 192
 m:MpR iB w bm xs.length lp
 o:OwR bD 68 1 G0 w xs v
 k:∀s,lkB false lp s=decide (s∈xs)
 l:∀b,v.ownBlock=some b→N0≤b
structure MsD (W:World)(b2 b6 b7 b8 bm N0:Nat):Prop where
 hi:b2<N0∧b6<N0∧b7<N0∧b8<N0∧bm<N0∧0<N0∧W.heap.size≤N0
 lo:W.heap.size≤b7∧W.heap.size≤bm∧0<b7∧0<bm
 ne:b2≠b7∧b6≠b7∧b2≠bm∧b6≠bm∧b7≠bm∧b8≠b7∧b8≠bm
section
variable {W w w':World}{gv v v':Value}{b2 b6 b7 b8 bm N0 B:Nat}{lp lp':List (BS×Bool)}{xs xs':List BS}
theorem MsW.ext (h:MsW W gv b2 b6 b7 b8 bm N0 v lp xs w)(e:Ext w w'):MsW W gv b2 b6 b7 b8 bm N0 v lp xs w':=⟨Ext.tr h.e e,h.t.ext e,h.p2.ext e,h.p6.ext e,h.p7.ext e,h.p8.ext e,h.m.ext e,h.o.ext e,h.k,h.l⟩
theorem MsW.kp (h:MsW W gv b2 b6 b7 b8 bm N0 v lp xs w)(d:MsD W b2 b6 b7 b8 bm N0)(k:Kp B w w')(hB:N0≤B)(ho:∀b,v.ownBlock=some b→¬aS B b):MsW W gv b2 b6 b7 b8 bm N0 v lp xs w':=by
 obtain⟨q2,q6,q7,q8,qm,q0,qW⟩:=d.hi
 have no:∀{b},b<N0→¬aS B b:=fun h hh=>Nat.lt_irrefl _ (Nat.lt_of_lt_of_le h (Nat.le_trans hB hh.1))
 exact⟨h.e.kp k (Nat.le_trans qW hB),h.t.kp k (Nat.lt_of_lt_of_le q0 hB),h.p2.kp k (no q2),h.p6.kp k (no q6),h.p7.kp k (no q7),h.p8.kp k (no q8),h.m.pres (k.same _ h.m.lt (no qm)),h.o.chE k.chg ho,h.k,h.l⟩
theorem MsW.gr {b:Nat}(h:MsW W gv b2 b6 b7 b8 bm N0 v lp xs w)(d:MsD W b2 b6 b7 b8 bm N0)(hg:w.grownBy w' (some b))(hB:N0≤b)(ho:v.ownBlock≠some b):MsW W gv b2 b6 b7 b8 bm N0 v lp xs w':=by
 obtain⟨q2,q6,q7,q8,qm,q0,qW⟩:=d.hi
 have no:∀{c},c<N0→c≠b:=fun h hh=>Nat.lt_irrefl _ (Nat.lt_of_lt_of_le h (hh▸hB))
 exact⟨h.e.gr hg (Nat.le_trans qW hB),h.t.gr hg (Nat.lt_of_lt_of_le q0 hB),h.p2.gr hg (no q2),h.p6.gr hg (no q6),h.p7.gr hg (no q7),h.p8.gr hg (no q8),h.m.pres (hg.block _ h.m.lt fun e=>no qm (Option.some.inj e)),h.o.grE hg ho,h.k,h.l⟩
theorem MsW.toS (h:MsW W gv b2 b6 b7 b8 bm N0 v lp xs w):SpW w gv b2 b6 b7 bm v v lp xs w:=⟨(Ext.rfl' _).chg _,h.t,h.p2,h.p6,h.p7,h.m,h.o,h.k,fun b hb=>.inl hb⟩
theorem MsW.toD (h:MsW W gv b2 b6 b7 b8 bm N0 v lp xs w)(d:MsD W b2 b6 b7 b8 bm N0):SpD w b2 b6 b7 bm:=⟨⟨h.p2.lt,h.p6.lt,h.p7.lt,h.m.lt,h.t.lt⟩,d.ne.1,d.ne.2.1,d.ne.2.2.1,d.ne.2.2.2.1,d.ne.2.2.2.2.1,d.lo.2.2.1,d.lo.2.2.2⟩
theorem MsW.sW (h:MsW W gv b2 b6 b7 b8 bm N0 v lp xs w)(d:MsD W b2 b6 b7 b8 bm N0):∀b,SpS bm b7 v b→W.heap.size≤b:=fun b hb=>by
 rcases hb with rfl|rfl|hb
 ·exact d.lo.2.1
 ·exact d.lo.1
 ·exact Nat.le_trans d.hi.2.2.2.2.2.2 (h.l b hb)
theorem MsW.of (h:MsW W gv b2 b6 b7 b8 bm N0 v lp xs w)(d:MsD W b2 b6 b7 b8 bm N0)(hN:N0≤w.heap.size)(h':SpW w gv b2 b6 b7 bm v v' lp' xs' w'):MsW W gv b2 b6 b7 b8 bm N0 v' lp' xs' w':=
 ⟨h.e.ch h'.c (h.sW d),h'.t,h'.p1,h'.p2,h'.p3,h.p8.ch h'.c (fun hh=>by
  rcases hh with hh|hh|hh
  ·exact d.ne.2.2.2.2.2.2 hh
  ·exact d.ne.2.2.2.2.2.1 hh
  ·exact h.o.neB h.p8 (by decide) hh),h'.m,h'.o,h'.k,fun b hb=>(h'.l b hb).elim (h.l b) fun hh=>Nat.le_trans hN hh⟩
end
theorem a4R {G:Nat→Prop}{N:Nat}(g:GT)(ok:Gr.Ok g)(gv:Value)(W:World)(hT:Tab W)(h:(Dv (ptE (grE N)) G (some g)).p gv W)(hl1:g.1.length≤100000)(hl2:g.2.length≤100000)(hN:N≤1000000)(m K r0:Nat)(hK:K≤10000)(L2:List BS)
  (hC:∀X,∃L,cw (nbA g) m K (ah g.1 &&& ~~~X)=some L∧L.length≤10) (hL2:gB (nbA g) m K (ah g.1) r0 0 (eh (nbA g) m K (ah g.1) (elems (ah g.1)))=some L2) (hL9:L2.length≤9) :
  Calls Tryz.prog 99 #[gv,I 9] W (Post (Tup [⟨fun u w=>∃ys:List BS,ys.Perm L2∧ys.Pairwise (fun S T=>¬T.toNat<S.toNat)∧(Dv (slE bD) G0 ys).p u w,fun _ _ _ e ⟨xs,h1,h2,h3⟩=>⟨xs,h1,h2,VA.st _ _ _ _ e h3⟩⟩,E (I 0)]) W):=by
 have hv:(Dv (ptE (grE N)) (fun b=>W.heap.size≤b) (some g)).p gv W:=Dv.weak h fun b hb hh=>by omega
 have hT0:=hT.lt
 have h1c:gv.cells = #[gv]:=by
  obtain⟨ad,rfl,_⟩:=Dv.pt.1 hv
  rfl
 refine cq (args:=[gv,I 9]) (As:=[E gv,E (I 9)]) Tryz.func99 rfl Tryz.ntmps99 (Nat.le_of_ble_eq_true rfl) ?_ (fun a hf=>?_) (Nat.le_of_ble_eq_true rfl)
 ·exact aQ rfl (aQ rfl cO)
 dsimp only[params,Nat.reduceAdd] at hf
 have e:=Ext.rfl' W
 obtain⟨V,hV⟩:∃V,V=ah g.1:=⟨_,rfl⟩
 obtain⟨nb,hnb⟩:∃nb,nb=nbA g:=⟨_,rfl⟩
 refine seq <| ae <| tB hf rfl fun a b2 w v2 hv2 e' hb2 hs2 B2 hf=>?_
 obtain⟨hT,e⟩:=up2 e' hT e
 refine tA hf rfl fun a hf=>tA hf rfl fun a hf=>aa ?_
 cases hv2
 rw[h1c] at B2
 replace hf:=hf.kp [1,2]
 have hv2:=VA.st _ _ _ _ e hv
 repeat refine seq ?_
 refine rgN 2 hf <| st (ld1 (v:=gv) T28 rfl B2 rfl) <| st (dX U28 (isE rfl hv2)) <| en fun a w e' hf=>?_
 obtain⟨hT,e,B2⟩:=up3 e' hT e B2
 refine aa <| ifc hf rfl (fun h=>by cases h) (fun _=>?_)
 refine ak ?_
 replace hf:=hf.kp [1,2]
 refine seq <| ae ?_
 have lb2:=B2.lt
 refine eV iB hf (by decide) fun a bm w e' hbm hsm HM hf=>?_
 have hWm:W.heap.size≤bm:=by have:=e.size;omega
 obtain⟨e,hT,B2⟩:=up3 e' e hT B2
 have l2m:b2≠bm:=by omega
 have lbm:=HM.lt
 refine tL vK hf fun a b6 w e' hb6 hs6 B6 hf=>?_
 obtain⟨hT,HM,e,B2⟩:=up4 e' hT HM e B2
 haveI hinr:∀G0,InR (GB W G0) (some b6):=fun G0=>InR.gb (by omega)
 refine aA jT hf rfl rfl rfl B6 (by decide) fun w hg hsz B6 hf=>?_
 replace hT:=hT.gr hg (by omega)
 replace HM:=HM.gr hg (fun h=>by cases h;omega)
 obtain⟨e,B2⟩:=gr2 hg e B2
 refine aa ?_
 replace B6:Blk w b6 #[.map (some bm)] 189:=B6
 have n6:b2≠b6∧b6≠bm∧W.heap.size≤b6:=by omega
 replace hf:=hf.kp [1,2,6]
 have lbm2:=HM.lt
 refine seq <| ae <| tL vH hf fun a b7 w e' hb7 hs7 B7 hf=>?_
 obtain⟨hT,HM,e,B2,B6⟩:=up5 e' hT HM e B2 B6
 refine aa ?_
 replace B7:Blk w b7 #[.slice none 0 0] 159:=B7
 have n7:b2≠b7∧b6≠b7∧b7≠bm∧W.heap.size≤b7:=by omega
 replace hf:=hf.kp [1,2,6,7]
 have lbm3:=HM.lt
 have lb2:=B2.lt
 have lb6:=B6.lt
 have lb7:=B7.lt
 refine seq <| ae <| tP hf (rp rfl rfl rfl) fun a w e' hf=>?_
 obtain⟨hT,HM,e,B2,B6,B7⟩:=up6 e' hT HM e B2 B6 B7
 refine tL vL hf fun a b8 w e' hb8 hs8 B8 hf=>?_
 have lt8_B6:=B6.lt
 have lt8_B7:=B7.lt
 obtain⟨hT,HM,e,B2,B6,B7⟩:=up6 e' hT HM e B2 B6 B7
 haveI hinr:∀G0,InR (GB W G0) (some b8):=fun G0=>InR.gb (by omega)
 refine aA mo hf rfl rfl rfl B8 (by decide) fun w hg hsz B8 hf=>?_
 replace hT:=hT.gr hg (by omega)
 replace HM:=HM.gr hg (fun h=>by cases h;omega)
 obtain⟨e,B2,B6,B7⟩:=gr4 hg e B2 B6 B7
 refine aa ?_
 replace B8:Blk w b8 #[leV b2 b6 b7] 192:=B8
 have n8:b8≠b7∧b8≠bm:=by omega
 replace hf:=hf.kp [1,2,6,7,8]
 obtain⟨N0,hN0⟩:∃N0,N0=w.heap.size:=⟨_,rfl⟩
 have hN0s:N0≤w.heap.size:=Nat.le_of_eq hN0
 have d:MsD W b2 b6 b7 b8 bm N0:=by
  have q2:=B2.lt;have q6:=B6.lt;have q7:=B7.lt;have q8:=B8.lt;have qm:=HM.lt;have q0:=hT.lt;have qe:=e.size
  rw[← hN0] at q2 q6 q7 q8 qm q0 qe
  exact⟨⟨q2,q6,q7,q8,qm,q0,qe⟩,⟨by omega,by omega,by omega,by omega⟩,⟨by omega,by omega,by omega,by omega,by omega,by omega,by omega⟩⟩
 have h:MsW W gv b2 b6 b7 b8 bm N0 (.slice none 0 0) [] [] w:=⟨e,hT,B2,B6,B7,B8,HM,OwR.nil bD _ (by have:=hT.lt;omega) (fun b hb=>hb.elim),fun s=>rfl,fun b hb=>by simp[Value.ownBlock] at hb⟩
 have fC:∀X,cw nb m K (V &&& ~~~X)=some (cmS nb m K (V &&& ~~~X))∧(cmS nb m K (V &&& ~~~X)).length≤10:=fun X=>by
  obtain⟨L,q1,q2⟩:=hC X
  rw[hnb,hV,cmS,q1]
  exact⟨rfl,q2⟩
 have hstep:∀(X:BS) (xs:List BS) (v:Value) (lp:List (BS×Bool)) (w:World),MsW W gv b2 b6 b7 b8 bm N0 v lp xs w→N0≤w.heap.size→xs.length≤20000 →
   Calls Tryz.prog 147 #[ac X,ptr b2,ptr b6,ptr b7] w (fun en w'=>en=.returned (.tuple #[])∧∃v' lp',Chg (SpS bm b7 v) w w'∧OwL w v v'∧MsW W gv b2 b6 b7 b8 bm N0 v' lp' (bM nb xs (cmS nb m K (V &&& ~~~X))) w'):=fun X xs v lp w h hNw hx=>by
  have q:=a3r g ok gv X xs lp b2 b6 b7 bm v w (VA.st _ _ _ _ h.e hv) (h.sW d) h.toS (h.toD d) hl1 hl2 hN m K hK (cmS nb m K (V &&& ~~~X)) (by have:=(fC X).1;rw[hnb,hV] at this ⊢;exact this) (by have:=(fC X).2;omega) hx
  rw[← hnb] at q
  exact q.mono fun en w' ⟨k1,v',lp',k2⟩=>⟨k1,v',lp',k2.c,k2.l,h.of d hNw k2⟩
 have fNb:∀(x:Nat) (w:World),Ext W w→Calls Tryz.prog 55 #[gv,I (x:Nat)] w (Post (E (ac (nb (x:Int)))) w):=fun x w e=>by
  rw[hnb,oD ok];exact gN g _ _ w (VA.st _ _ _ _ e hv) ok.se hl2 hN
 have fVs:∀w,Ext W w→Calls Tryz.prog 20 #[gv] w (Post (E (ac V)) w):=fun w e=>by
  rw[hV];exact gk g _ w (VA.st _ _ _ _ e hv) ok.sv hl1 hN
 rw[← hnb,← hV] at hL2
 have e0:=h.e
 obtain⟨Nz,hNz⟩:∃Nz,Nz=w.heap.size:=⟨_,rfl⟩
 repeat refine seq ?_
 refine rgN 3 hf <| st (ld1 (v:=gv) T28 rfl h.p2 rfl) <| st (an (A:=E (ac V)) (B:=E gv) fN rfl (fun u w he k=>by cases k;exact fVs w (Ext.tr e0 he))) ?_
 refine st (an (A:=bW Nz V) cg rfl (fun v w' he h=>by cases h;exact Calls.mono (cm _ w') (fun en w2 ⟨u,h1,h2,b',h3,h4,h5⟩=>⟨u,h1,h2,b',by have:=he.size;omega,h4,h5⟩))) ?_
 refine en fun a w e' hf=>?_
 replace h:=h.ext e'
 replace hN0s:=Nat.le_trans hN0s e'.size
 refine aa ?_
 obtain⟨vv,⟨b18,h18,rfl,BS⟩,hf⟩:=hf.fix 18 rfl
 replace hf:=hf.kp [1,2,7,8,18]
 refine blk <| cC (S:=V) hf rfl BS (by decide) (fun s w1=>∃v lp,MsW W gv b2 b6 b7 b8 bm N0 v lp (eh nb m K V s) w1∧∀b,v.ownBlock=some b→¬aS w.heap.size b) (fun _ _=>False) (fun s w1 ⟨_,_,h,_⟩=>h.t)
  ⟨_,_,h,fun b hb=>by simp[Value.ownBlock] at hb⟩ (fun s w1 w2 ⟨v,lp,h1,h2⟩ hs k=>⟨v,lp,h1.kp d k hN0s h2,h2⟩) (fun _ _ _ h=>h.elim) ?_ ?_ (fun _ _ _ _ _ _ h=>h.elim)
 ·intro lb s x rest a1 w1 hs hJ hlw hf
  have hx1024:x<1024:=(aH.1 (by rw[hs];simp)).1
  have hsl:s.length<1024:=by have:=bX V;rw[hs] at this;simp at this;omega
  generalize hBz:w.heap.size=Bz at *
  refine ae <| tA hf rfl fun a hf=>aa <| ⟨Kh.rfl' _ _,fun w3 k3 hsz3=>?_⟩
  obtain⟨v,lp,h1,h6⟩:=hJ
  have h3:=h1.kp d k3 hN0s h6
  have hw3:Bz+3≤w3.heap.size:=by omega
  replace hf:=hf.pure w3
  have h:=h3
  have kh:=Kh.rfl' Bz w3
  obtain⟨ys,hys⟩:∃ys,ys=eh nb m K V s:=⟨_,rfl⟩
  have hyl:ys.length≤20000:=by
   have:=jK (f:=fun l x=>bM nb l (cmS nb m K (V &&& ~~~ins (nb (x:Int)) (x:Int)))) (fun l x=>by have h1:=iC nb (cmS nb m K (V &&& ~~~ins (nb (x:Int)) (x:Int))) l;have h2:=(fC (ins (nb (x:Int)) (x:Int))).2;omega) s []
   rw[hys,eh]
   simp only[List.length_nil] at this
   omega
  have hyn:eh nb m K V (s++[x])=bM nb ys (cmS nb m K (V &&& ~~~ins (nb (x:Int)) (x:Int))):=by rw[a4O,hys]
  rw[← hys] at h
  have e0:=h.e
  replace hf:=hf.kp [2,8,9]
  refine blk <| rgG 6 Mix.mix hf <| st (ld1 (v:=leV b2 b6 b7) mo rfl h.p8 rfl) <| st (ld1 (v:=gv) T28 rfl h.p2 rfl) <| st (mv rfl) <| st (ar (A:=E (ac (nb (x:Int)))) (B:=E gv) (C:=E (I (x:Nat))) fP rfl rfl (fun v u w he k1 k2=>by cases k1;cases k2;exact fNb x w (Ext.tr e0 he))) ?_
  refine st (mv rfl) <| st (ar (A:=E (ac (ins (nb (x:Int)) (x:Int)))) (B:=E (ac (nb (x:Int)))) (C:=E (I (x:Nat))) dr rfl rfl (fun v u w he h h'=>by cases h;cases h';exact du _ _ w)) ?_
  refine en fun a w e' hf=>?_
  replace h:=h.ext e'
  replace kh:=kh.tr (Kh.ext e')
  replace hw3:=Nat.le_trans hw3 e'.size
  clear e'
  clear e0
  replace hf:=hf.kp [20,25]
  refine fu (S:=SpS bm b7 v) (F:=fun w'=>∃v' lp',OwL w v v'∧MsW W gv b2 b6 b7 b8 bm N0 v' lp' (bM nb ys (cmS nb m K (V &&& ~~~ins (nb (x:Int)) (x:Int)))) w') (A:=E (.tuple #[])) hf (by decide) pP rfl ?_ fun a w4 hc hF hf=>?_
  ·have e1:a.eval (.tmp 25)=ac (ins (nb (x:Int)) (x:Int)):=hf.opd (.tmp 25) _ rfl
   simp only[List.map_toArray,List.map_cons,List.map_nil,e1]
   exact (hstep _ ys v lp _ h (by omega) hyl).mono fun en w' ⟨k1,v',lp',k2,k3,k4⟩=>⟨_,k1,k2,rfl,v',lp',k3,k4⟩
  obtain⟨v',lp',hl,h'⟩:=hF
  have hsn:∀b,SpS bm b7 v b→¬aS Bz b:=fun b hb hh=>by
   have:=hh.1
   rcases hb with rfl|rfl|hb
   ·omega
   ·omega
   ·exact h6 b hb hh
  refine aa ?_
  simp only[Exit.inBlock]
  exact⟨⟨v',lp',by rw[hyn];exact h',fun b hb=>(hl b hb).elim (h6 b) fun hh hH=>by have:=hH.2;omega⟩,kh.tr (Kh.chg hc hsn)⟩
 ·intro a' w' hf' hJ hsz hDn
  simp only[Exit.inBlock,↓reduceIte,Exit.then]
  have hD':Ds [w.heap.size] w':=(Ds.nil w').cons hDn (by simp)
  have hf:FrD 63 (bq [w.heap.size]) a' w' [(1,E (I 9)),(2,E (ptr b2)),(7,E (ptr b7)),(8,E (ptr b8))]:=hf'.keep [1,2,7,8]
  have hDN:∀d∈[w.heap.size],N0≤d:=fun d hd=>by rw[List.mem_singleton] at hd;omega
  have hN0':N0≤w'.heap.size:=by omega
  clear hf' h hDn BS
  obtain⟨v,lp,h,-⟩:=hJ
  generalize [w.heap.size]=D at *
  have hD:=hD'
  have hN0s:=hN0'
  clear hD' hN0' hsz hNz h18
  generalize w'=w at *
  obtain⟨ys,hys⟩:∃ys,ys=eh nb m K V (elems V):=⟨_,rfl⟩
  rw[← hys] at hL2 h
  have hyl:ys.length≤20000:=by
   have h1:=jK (f:=fun l x=>bM nb l (cmS nb m K (V &&& ~~~ins (nb (x:Int)) (x:Int)))) (fun l x=>by have h1:=iC nb (cmS nb m K (V &&& ~~~ins (nb (x:Int)) (x:Int))) l;have h2:=(fC (ins (nb (x:Int)) (x:Int))).2;omega) (elems V) []
   have h2:=bX V
   rw[hys,eh]
   simp only[List.length_nil] at h1
   omega
  obtain⟨Nq,hNq0⟩:∃Nq,Nq=w.heap.size:=⟨_,rfl⟩
  have hNq:Nq≤w.heap.size:=Nat.le_of_eq hNq0
  have hoq:∀b,v.ownBlock=some b→b<Nq:=fun b hb=>by rw[hNq0];exact (h.o.lt hb).2
  have hDq:∀d∈D,d<Nq:=fun d hd=>by rw[hNq0];exact hD.lt hd
  have hNNq:N0≤Nq:=by rw[hNq0];exact hN0s
  have hWN0:W.heap.size≤N0:=d.hi.2.2.2.2.2.2
  repeat refine seq ?_
  refine ae <| tL I3 hf fun a b10 w e' hb10 hs10 B10 hf=>?_
  replace h:=h.ext e'
  replace hN0s:=Nat.le_trans hN0s e'.size
  replace hD:=hD.ext e'
  replace hNq:=Nat.le_trans hNq e'.size
  haveI hinr:∀G0,InR (GB W G0) (some b10):=fun G0=>InR.gb (by omega)
  refine aA T3 hf rfl rfl rfl B10 (by decide) fun w hg hsz B10 hf=>?_
  replace h:=h.gr d hg (by omega) (fun hh=>by have:=hoq _ hh;omega)
  replace hN0s:=Nat.le_trans hN0s hg.size
  replace hD:=hD.gr hg (fun hh=>by have:=hDq _ hh;omega)
  replace hNq:=Nat.le_trans hNq hg.size
  refine aa ?_
  replace B10:Blk w b10 #[I ((0:Nat):Int)] 3:=B10
  have n10:N0≤b10:=by omega
  replace hf:=hf.kp [1,2,7,8,10]
  refine blk (aJ (fun q0 a w=>∃(D:List Nat) (i b10:Nat) (v:Value) (lp:List (BS×Bool)) (ys:List BS),gB nb m K V q0 i ys=some L2∧ys.length≤20000∧i≤20000∧(∀d∈D,N0≤d)∧FrD 63 (bq D) a w [(1,E (I 9)),(2,E (ptr b2)),(7,E (ptr b7)),(8,E (ptr b8)),(10,E (ptr b10))]∧MsW W gv b2 b6 b7 b8 bm N0 v lp ys w∧Blk w b10 #[I (i:Nat)] 3∧N0≤b10∧N0≤w.heap.size∧Ds D w) r0 ⟨D,0,b10,v,lp,ys,hL2,hyl,Nat.zero_le _,hDN,hf,h,B10,n10,hN0s,hD⟩ ?_)
  rintro q0 a w ⟨D,i,b10,v,lp,ys,hL2,hyl,hil,hDN,hf,h,B10,n10,hN0s,hD⟩
  obtain⟨q,rfl⟩:∃q,q0=q+1:=by
   cases q0 with
   | zero=>rw[a4M] at hL2;cases hL2
   | succ q=>exact⟨q,rfl⟩
  rw[a4N] at hL2
  repeat refine seq ?_
  by_cases hgo:i<ys.length∧ys.length≤9
  ·rw[if_pos hgo] at hL2
   obtain⟨hi,h9⟩:=hgo
   have hg:=List.getElem?_eq_getElem hi
   have hgD:ys.getD i 0=ys[i]:=by rw[List.getD_eq_getElem?_getD,hg];rfl
   rw[hgD] at hL2
   generalize ys[i]=S at hg hL2
   refine rgN 10 hf <| st (ld1 (v:=I (i:Nat)) T3 rfl B10 rfl) <| st (ld1 (v:=v) eJ rfl h.p7 rfl) <| st (aF cz (isE rfl h.o.sl)) <| st ((lss rfl rfl).eq (congrArg Value.bool ((decide_eq_true (by omega):_=true)))) <| st (mv rfl) <| sy rfl rfl (ld1 (v:=v) eJ rfl h.p7 rfl) <| sy rfl rfl (aF cz (isE rfl h.o.sl)) <| sy rfl rfl (mv rfl) <| sy rfl rfl ((leq rfl rfl).eq (congrArg Value.bool ((decide_eq_true (by omega):_=true)))) <| st (pkT rfl rfl) <| en fun a w e' hf=>?_
   replace h:=h.ext e'
   replace hN0s:=Nat.le_trans hN0s e'.size
   replace B10:=B10.ext e'
   replace hD:=hD.ext e'
   refine aa <| ifc hf rfl (fun _=>ak ?_) (fun h=>by cases h)
   replace hf:=hf.kp [1,2,7,8,10]
   refine seq <| blk ?_
   obtain⟨Nz,hNz⟩:∃Nz,Nz=w.heap.size:=⟨_,rfl⟩
   refine seq <| rgN 5 hf <| st (ld1 (v:=v) eJ rfl h.p7 rfl) <| st (ld1 (v:=I (i:Nat)) T3 rfl B10 rfl) <| st (aL cz S68 (isE rfl h.o.sl) rfl (by omega) (hg)) <| st (ldS T68 (isR rfl)) <| st (an (A:=bW Nz S) cg rfl (fun v w' he h=>by cases h;exact Calls.mono (cm _ w') (fun en w2 ⟨u,h1,h2,b',h3,h4,h5⟩=>⟨u,h1,h2,b',by have:=he.size;omega,h4,h5⟩))) ?_
   refine en fun a w e' hf=>?_
   replace h:=h.ext e'
   replace hN0s:=Nat.le_trans hN0s e'.size
   replace B10:=B10.ext e'
   replace hD:=hD.ext e'
   refine aa ?_
   obtain⟨vv,⟨b43,h43,rfl,BS⟩,hf⟩:=hf.fix 43 rfl
   replace hf:=hf.kp [1,2,7,8,10,43]
   have l10:=B10.lt
   have lD:∀d∈D,d<w.heap.size:=fun d hd=>hD.lt hd
   have lo0:∀b,v.ownBlock=some b→¬aS w.heap.size b:=fun b hb hh=>by have:=(h.o.lt hb).2;have:=hh.1;omega
   have no10:=h.o.neB B10 (by decide)
   refine blk <| cC (S:=S) hf rfl BS (by decide) (fun s w1=>∃v lp,MsW W gv b2 b6 b7 b8 bm N0 v lp (dj nb m K V S ys s) w1∧(∀b,v.ownBlock=some b→¬aS w.heap.size b)∧Blk w1 b10 #[I (i:Nat)] 3∧Ds D w1) (fun _ _=>False) (fun s w1 ⟨_,_,h,_⟩=>h.t)
    ⟨v,lp,h,lo0,B10,hD⟩ (fun s w1 w2 ⟨v,lp,h1,h2,h3,h4⟩ hs k=>⟨v,lp,h1.kp d k hN0s h2,h2,h3.kp k (fun hh=>by have:=hh.1;omega),h4.ch k.chg (fun d hd hh=>by have:=hh.1;have:=lD d hd;omega)⟩) (fun _ _ _ h=>h.elim) ?_ ?_ (fun _ _ _ _ _ _ h=>h.elim)
   ·intro lb s x rest a1 w1 hs hJ hlw hf
    have hx1024:x<1024:=(aH.1 (by rw[hs];simp)).1
    have hsl:s.length<1024:=by have:=bX S;rw[hs] at this;simp at this;omega
    generalize hBz:w.heap.size=Bz at *
    refine ae <| tA hf rfl fun a hf=>aa <| ⟨Kh.rfl' _ _,fun w3 k3 hsz3=>?_⟩
    obtain⟨v2,lp2,h1,h6,h7,h8⟩:=hJ
    have h3:=h1.kp d k3 hN0s h6
    have q10:=h7.kp k3 (fun hh=>by have:=hh.1;omega)
    have qD:=h8.ch k3.chg (fun d hd hh=>by have:=hh.1;have:=lD d hd;omega)
    have hw3:Bz+3≤w3.heap.size:=by omega
    replace hf:=hf.pure w3
    have h:=h3
    have kh:=Kh.rfl' Bz w3
    obtain⟨zs,hzs⟩:∃zs,zs=dj nb m K V S ys s:=⟨_,rfl⟩
    have hzl:zs.length≤20000:=by
     have:=jK (f:=fun l x=>bM nb l (cmS nb m K (V &&& ~~~(S ||| nb (x:Int))))) (fun l x=>by have h1:=iC nb (cmS nb m K (V &&& ~~~(S ||| nb (x:Int)))) l;have h2:=(fC (S ||| nb (x:Int))).2;omega) s ys
     rw[hzs,dj]
     omega
    have hzn:dj nb m K V S ys (s++[x])=bM nb zs (cmS nb m K (V &&& ~~~(S ||| nb (x:Int)))):=by rw[a4P,hzs]
    have hzg:zs[i]?=some S:=by rw[hzs,(vn s ys hi).1,hg]
    rw[← hzs] at h
    have e0:=h.e
    replace hf:=hf.kp [2,7,8,10,11]
    refine blk <| rgG 9 Mix.mix hf <| st (ld1 (v:=leV b2 b6 b7) mo rfl h.p8 rfl) <| st (ld1 (v:=v2) eJ rfl h.p7 rfl) <| st (ld1 (v:=I (i:Nat)) T3 rfl q10 rfl) <| st (aL cz S68 (isE rfl h.o.sl) rfl (by omega) (hzg)) <| st (ldS T68 (isR rfl)) <| st (ld1 (v:=gv) T28 rfl h.p2 rfl) <| st (mv rfl) <| st (ar (A:=E (ac (nb (x:Int)))) (B:=E gv) (C:=E (I (x:Nat))) fP rfl rfl (fun v u w he k1 k2=>by cases k1;cases k2;exact fNb x w (Ext.tr e0 he))) ?_
    refine st (ar (A:=E (ac (S ||| nb (x:Int)))) (B:=E (ac S)) (C:=E (ac (nb (x:Int)))) fO rfl rfl (fun v u w he h h'=>by cases h;cases h';exact fZ _ _ w)) ?_
    refine en fun a w e' hf=>?_
    replace h:=h.ext e'
    replace kh:=kh.tr (Kh.ext e')
    obtain⟨hw3,q10,qD⟩:=up3 e' hw3 q10 qD
    replace hf:=hf.kp [45,53]
    refine fu (S:=SpS bm b7 v2) (F:=fun w'=>∃v' lp',OwL w v2 v'∧MsW W gv b2 b6 b7 b8 bm N0 v' lp' (bM nb zs (cmS nb m K (V &&& ~~~(S ||| nb (x:Int))))) w') (A:=E (.tuple #[])) hf (by decide) pP rfl ?_ fun a w4 hc hF hf=>?_
    ·have e1:a.eval (.tmp 53)=ac (S ||| nb (x:Int)):=hf.opd (.tmp 53) _ rfl
     simp only[List.map_toArray,List.map_cons,List.map_nil,e1]
     exact (hstep _ zs v2 lp2 _ h (by omega) hzl).mono fun en w' ⟨k1,v',lp',k2,k3,k4⟩=>⟨_,k1,k2,rfl,v',lp',k3,k4⟩
    obtain⟨v',lp',hl,h'⟩:=hF
    have no2:=h.o.neB q10 (by decide)
    have hsn:∀b,SpS bm b7 v2 b→¬aS Bz b:=fun b hb hh=>by
     have:=hh.1
     rcases hb with rfl|rfl|hb
     ·omega
     ·omega
     ·exact h6 b hb hh
    refine aa ?_
    simp only[Exit.inBlock]
    refine⟨⟨v',lp',by rw[hzn];exact h',fun b hb=>(hl b hb).elim (h6 b) fun hh hH=>by have:=hH.2;omega,q10.ch hc (fun hb=>?_),qD.ch hc fun dd hd hb=>?_⟩,kh.tr (Kh.chg hc hsn)⟩
    ·have:=d.hi
     rcases hb with rfl|rfl|hb
     ·omega
     ·omega
     ·exact no2 hb
    ·have:=d.hi
     have:=hDN dd hd
     rcases hb with rfl|rfl|hb
     ·omega
     ·omega
     ·exact h.o.neDs qD hd hb
   ·intro a' w' hf' hJ hsz hDn
    simp only[Exit.inBlock,↓reduceIte,Exit.then]
    obtain⟨v2,lp2,h1,-,h2,h3⟩:=hJ
    have hD2:Ds (w.heap.size::D) w':=h3.cons hDn fun h=>by have:=lD _ h;omega
    have hf:FrD 63 (bq (w.heap.size::D)) a' w' [(1,E (I 9)),(2,E (ptr b2)),(7,E (ptr b7)),(8,E (ptr b8)),(10,E (ptr b10))]:=hf'.keep [1,2,7,8,10]
    have hDN2:∀d∈w.heap.size::D,N0≤d:=fun d hd=>(List.mem_cons.1 hd).elim (fun h=>by omega) (hDN d)
    have hNw:N0≤w'.heap.size:=by omega
    generalize w.heap.size::D=D2 at *
    have h:=h1
    have B10:=h2
    have hD:=hD2
    have hN0s:=hNw
    generalize w'=w at *
    obtain⟨zs,hzs⟩:∃zs,zs=dj nb m K V S ys (elems S):=⟨_,rfl⟩
    rw[← hzs] at hL2 h
    have hzl:zs.length≤20000:=by
     have h1:=jK (f:=fun l x=>bM nb l (cmS nb m K (V &&& ~~~(S ||| nb (x:Int))))) (fun l x=>by have h1:=iC nb (cmS nb m K (V &&& ~~~(S ||| nb (x:Int)))) l;have h2:=(fC (S ||| nb (x:Int))).2;omega) (elems S) ys
     have h2:=bX S
     rw[hzs,dj]
     omega
    repeat refine seq ?_
    refine rgN 1 hf <| st (ld1 (v:=I (i:Nat)) T3 rfl B10 rfl) <| en fun a w e' hf=>?_
    replace h:=h.ext e'
    replace hN0s:=Nat.le_trans hN0s e'.size
    replace B10:=B10.ext e'
    replace hD:=hD.ext e'
    refine aa ?_
    replace hf:=hf.kp [1,2,7,8,55]
    obtain⟨Nq,hNq0⟩:∃Nq,Nq=w.heap.size:=⟨_,rfl⟩
    have hNq:Nq≤w.heap.size:=Nat.le_of_eq hNq0
    have hoq:∀b,v2.ownBlock=some b→b<Nq:=fun b hb=>by rw[hNq0];exact (h.o.lt hb).2
    have hDq:∀d∈D2,d<Nq:=fun d hd=>by rw[hNq0];exact hD.lt hd
    have hNNq:N0≤Nq:=by rw[hNq0];exact hN0s
    have hWN0:W.heap.size≤N0:=d.hi.2.2.2.2.2.2
    refine ae <| tL I3 hf fun a b10 w e' hb10 hs10 B10 hf=>?_
    replace h:=h.ext e'
    replace hN0s:=Nat.le_trans hN0s e'.size
    replace hD:=hD.ext e'
    replace hNq:=Nat.le_trans hNq e'.size
    haveI hinr:∀G0,InR (GB W G0) (some b10):=fun G0=>InR.gb (by omega)
    refine aA T3 hf rfl rfl rfl B10 (by decide) fun w hg hsz B10 hf=>?_
    replace h:=h.gr d hg (by omega) (fun hh=>by have:=hoq _ hh;omega)
    replace hN0s:=Nat.le_trans hN0s hg.size
    replace hD:=hD.gr hg (fun hh=>by have:=hDq _ hh;omega)
    replace hNq:=Nat.le_trans hNq hg.size
    refine aa ?_
    replace B10:Blk w b10 #[I (i:Nat)] 3:=B10
    have n10:N0≤b10:=by omega
    replace hf:=hf.kp [1,2,7,8,10]
    refine rgN 2 hf <| st (ld1 (v:=I (i:Nat)) T3 rfl B10 rfl) <| st ((add rfl rfl (by omega)).eq (congrArg (Value.int .i64) (show ((i:Nat):Int)+1=((i+1:Nat):Int) from rfl))) <| en fun a w e' hf=>?_
    replace h:=h.ext e'
    replace hN0s:=Nat.le_trans hN0s e'.size
    replace B10:=B10.ext e'
    replace hD:=hD.ext e'
    have no10:=h.o.neB B10 (by decide)
    have nD10:=hD.ne B10
    refine aA T3 hf rfl rfl rfl B10 Nat.zero_lt_one fun w hg hsz B10 hf=>aa ?_
    replace h:=h.gr d hg n10 no10
    replace hD:=hD.gr hg nD10
    replace hN0s:=Nat.le_trans hN0s hg.size
    replace hf:=hf.kp [1,2,7,8,10]
    exact⟨q,by omega,D2,i+1,b10,v2,lp2,zs,hL2,hzl,by omega,hDN2,hf,h,B10,n10,hN0s,hD⟩
  ·rw[if_neg hgo] at hL2
   cases hL2
   have hgo':¬i<L2.length:=fun hh=>hgo ⟨hh,hL9⟩
   refine rgN 10 hf <| st (ld1 (v:=I (i:Nat)) T3 rfl B10 rfl) <| st (ld1 (v:=v) eJ rfl h.p7 rfl) <| st (aF cz (isE rfl h.o.sl)) <| st ((lss rfl rfl).eq (congrArg Value.bool ((decide_eq_false (by omega):_=false)))) <| st (mv rfl) <| sn rfl rfl rfl <| sn rfl rfl rfl <| sn rfl rfl rfl <| sn rfl rfl rfl <| st (pkF rfl rfl) <| en fun a w e' hf=>?_
   replace h:=h.ext e'
   replace B10:=B10.ext e'
   replace hD:=hD.ext e'
   refine aa <| ifc hf rfl (fun h=>by cases h) (fun _=>aG ?_)
   replace hf:=hf.kp [1,7]
   repeat refine seq ?_
   refine rgN 4 hf <| st (ld1 (v:=v) eJ rfl h.p7 rfl) <| st (aF cz (isE rfl h.o.sl)) <| st (mv rfl) <| st ((gtr rfl rfl).eq (congrArg Value.bool ((decide_eq_false (by omega):_=false)))) <| en fun a w e' hf=>?_
   replace h:=h.ext e'
   replace B10:=B10.ext e'
   replace hD:=hD.ext e'
   refine aa <| ifc hf rfl (fun h=>by cases h) (fun _=>?_)
   refine ak ?_
   replace hf:=hf.kp [1,7]
   refine seq <| rgN 1 hf <| st (ld1 (v:=v) eJ rfl h.p7 rfl) <| en fun a w e' hf=>?_
   replace h:=h.ext e'
   replace B10:=B10.ext e'
   replace hD:=hD.ext e'
   have hn7:=h.o.neB h.p7 (by decide)
   have hWo:∀b,v.ownBlock=some b→W.heap.size≤b:=fun b hb=>by have:=h.l b hb;have:=d.hi;omega
   refine bU (S:=fun b=>v.ownBlock=some b) (F:=fun z w'=>z=.tuple #[]∧∃zs,zs.Perm L2∧zs.Pairwise (fun S T=>¬T.toNat<S.toNat)∧OwR bD 68 1 G0 w' zs v) hf (by decide) xC ?_ fun a z w4 hc hF hf=>?_
   ·have e1:a.eval (.tmp 60)=v:=hf.opd (.tmp 60) _ rfl
    have e2:a.eval (.func 151)=.func (.func 151) #[] #[]:=rfl
    simp only[List.map_toArray,List.map_cons,List.map_nil,e1,e2]
    exact (a4L h.o (by omega)).mono fun en w' ⟨k1,xs',k2,k3,k4,k5⟩=>⟨_,k1,k5,rfl,xs',k2,k3,k4⟩
   obtain⟨rfl,zs,hz1,hz2,Ho⟩:=hF
   have e:=h.e.ch hc hWo
   have B7:=h.p7.ch hc hn7
   replace hD:=hD.ch hc fun dd hd hb=>h.o.neDs hD hd hb
   refine aa ?_
   have hDW:∀dd∈D,W.heap.size≤dd:=fun dd hd=>by have:=hDN dd hd;have:=d.hi;omega
   generalize w4=w at *
   replace hf:=hf.kp [7]
   refine seq <| rgN 1 hf <| st (ld1 (v:=v) eJ rfl B7 rfl) <| en fun a w e' hf=>?_
   obtain⟨Ho,e,B7,hD⟩:=up4 e' Ho e B7 hD
   refine tA hf rfl fun a hf=>tA hf rfl fun a hf=>aa <| ai <| oG rfl hf rfl rfl hD ⟨_,rfl,e.shut hDW,Tup.two ⟨zs,hz1,hz2,Dv.weak (Dv.ch (Ho.slN (N:=fun b=>b∈D) fun b hb hd=>Ho.neDs hD hd hb) (eb D w) fun b hb=>hb) fun b _ hb=>hb.elim⟩ rfl⟩
def crN (T:BS)(l:List BS):Nat:=(l.filter fun p => !(p &&& T==0)).length
theorem a4S (T:BS)(l:List BS)(p:BS):crN T (l++[p])=if (p &&& T==0)=true then crN T l else crN T l+1:=by
 rw[crN,List.filter_append,List.length_append,List.filter_cons,List.filter_nil]
 cases h:(p &&& T==0) with
 | true=>rw[if_pos rfl,if_neg (by decide)];rfl
 | false=>rw[if_pos (show (!false)=true from rfl),if_neg (by decide)];rfl
theorem a4T {G:Nat→Prop}{N:Nat}(g:GT)(ok:Gr.Ok g)(gv:Value)(X T:BS)(W:World)(hT:Tab W)(h:(Dv (ptE (grE N)) G (some g)).p gv W)(hl1:g.1.length≤100000)(hl2:g.2.length≤100000)(hN:N≤1000000)(m K:Nat)(hK:K≤10000)(L:List BS)(hL:cw (nbA g) m K (ah g.1 &&& ~~~X)=some L)(hLl:L.length≤10000) :
  Calls Tryz.prog 101 #[gv,ac X,ac T] W (Post (E (B (decide ((crN T L:Int) > 1)))) W):=by
 have hv:(Dv (ptE (grE N)) G0 (some g)).p gv W:=Dv.weak h fun b _ hb=>hb.elim
 have hT0:=hT.lt
 refine eN [gv,ac X,ac T] [E gv,E (ac X),E (ac T)] Tryz.func101 Tryz.ntmps101 ?_ fun a hf=>?_
 rotate_left
 rotate_right
 ·exact dS rfl rfl rfl
 have e:=Ext.rfl' W
 refine seq <| ae <| tB hf rfl fun a b4 w v4 hv4 e' hb4 hs4 B4 hf=>?_
 obtain⟨hT,e⟩:=up2 e' hT e
 refine tB hf rfl fun a b5 w v5 hv5 e' hb5 hs5 B5 hf=>?_
 obtain⟨hT,e,B4⟩:=up3 e' hT e B4
 refine tA hf rfl fun a hf=>aa ?_
 cases hv4;cases hv5
 replace B4:Blk w b4 (au X) 68:=B4
 replace B5:Blk w b5 (au T) 68:=B5
 replace hf:=hf.keep [0,4,5]
 refine seq <| ae <| tA hf rfl fun a hf=>aa ?_
 replace hf:=hf.keep [0,4,5,7]
 have e0:=e
 have hT1:=hT
 obtain⟨N1,hN1⟩:∃N1,N1=w.heap.size:=⟨_,rfl⟩
 have hN1s:N1≤w.heap.size:=Nat.le_of_eq hN1
 have l5:b5<N1:=by rw[hN1];exact B5.lt
 have hWN:W.heap.size≤N1:=by rw[hN1];exact e.size
 repeat refine seq ?_
 refine rgN 5 hf <| st (mv rfl) <| st ((ldW T68 rfl B4 rfl).eq ((rfl:_=ac X))) <| st (ar (A:=OwA bD 68 N1 G0 L) (B:=E gv) (C:=E (ac X)) pQ rfl rfl (fun v u w he k1 k2=>by cases k1;cases k2;rw[hN1];exact (uA g ok gv X w (hT1.ext he) (VA.st _ _ _ _ (Ext.tr e0 he) hv) hl1 hl2 hN m K hK L hL).mono fun en w' ⟨u,k1,k2,k3⟩=>⟨u,k1,k2,OwR.low k3 he.size fun b hb=>hb.elim⟩)) ?_
 refine st (aF cz ⟨_,rfl,fun v w _ h=>OwR.sl h⟩) <| st (mv rfl) <| en fun a w e' hf=>?_
 obtain⟨hT,hN1s,e,B4,B5⟩:=up5 e' hT hN1s e B4 B5
 refine aa ?_
 obtain⟨u,Ho,hf⟩:=hf.opn 12 rfl
 replace Ho:OwR bD 68 N1 G0 w L u:=Ho
 replace hf:=hf.keep [5,7,12,13,14]
 obtain⟨N2,hN2⟩:∃N2,N2=w.heap.size:=⟨_,rfl⟩
 have HD:(Dv (slE bD) (fun b=>N2≤b) L).p u w:=Ho.slN fun b hb hh=>by have:=(Ho.lt hb).2;omega
 have hN2s:N2≤w.heap.size:=Nat.le_of_eq hN2
 have hWN2:W.heap.size≤N2:=by rw[hN2];exact e.size
 have l52:b5<N2:=by rw[hN2];exact B5.lt
 replace hf:=hf.keep [5,7,12,13,14]
 refine blk (aJ (fun r0 a w=>∃(k:Nat) ,r0=L.length - k∧k≤L.length∧Fr 28 a w [(5,E (ptr b5)),(7,E (I (crN T (L.take k):Nat))),(12,E u),(13,E (I (L.length:Nat))),(14,E (I k))]∧Ext W w∧(Dv (slE bD) (fun b=>N2≤b) L).p u w∧N2≤w.heap.size∧Blk w b5 (au T) 68) L.length ⟨0,rfl,by omega,hf,e,⟨HD,hN2s,B5⟩⟩ ?_)
 rintro r0 a w ⟨k,rfl,hk,hf,e,HD,hN2s,B5⟩
 refine seq <| rgN 1 hf <| st (lss rfl rfl) <| en fun a w e' hf=>?_
 obtain⟨HD,hN2s,B5,e⟩:=up4 e' HD hN2s B5 e
 refine aa <| seq <| ifc hf rfl (fun hc=>ak ?_) (fun hc=>aG ?_)
 rotate_left
 rotate_left
 ·have hlt:k<L.length:=by have:=of_decide_eq_true hc;(try dsimp only at this);omega
  replace hf:=hf.kp [5,7,12,13,14]
  refine seq <| blk ?_
  have hg:=List.getElem?_eq_getElem hlt
  generalize L[k]=p at hg
  have htk:L.take (k+1)=L.take k++[p]:=cB hg
  have hcl:crN T (L.take k)≤10000:=by
   have h1:crN T (L.take k)≤(L.take k).length:=List.length_filter_le _ _
   have h2:=List.length_take_le k L
   omega
  obtain⟨em,hem⟩:∃em,em=(p &&& T==0):=⟨_,rfl⟩
  have hcr:crN T (L.take (k+1))=if em=true then crN T (L.take k) else crN T (L.take k)+1:=by rw[htk,a4S,hem]
  obtain⟨c,hc⟩:∃c,c=crN T (L.take k):=⟨_,rfl⟩
  rw[← hc] at hcr hf hcl
  refine seq <| ae <| tP hf (aL cz S68 (isE rfl HD) rfl (by omega) (hg)) fun a w e' hf=>?_
  obtain⟨HD,hN2s,B5,e⟩:=up4 e' HD hN2s B5 e
  refine tP hf (ldS T68 (isR rfl)) fun a w e' hf=>?_
  obtain⟨HD,hN2s,B5,e⟩:=up4 e' HD hN2s B5 e
  refine tL I68 hf fun a b9 w e' hb9 hs9 B9 hf=>?_
  have lo9_hN2s:=Nat.le_trans hN2s (Nat.le_of_eq hb9.symm)
  obtain⟨HD,hN2s,B5,e⟩:=up4 e' HD hN2s B5 e
  have n9:N2≤b9:=lo9_hN2s
  replace hf:=hf.kp [5,7,9,12,13,14,17]
  refine az T68 hf rfl rfl (aP _) B9 rfl rfl fun w hg' hsz B9 hf=>?_
  replace e:=e.gr hg' (by omega);replace HD:=Dv.gr HD hg' n9;replace hN2s:=Nat.le_trans hN2s hg'.size;replace B5:=B5.gr hg' (by omega)
  refine aa ?_
  replace hf:=hf.keep [5,7,9,12,13,14]
  have hh0:=hWN2
  cases em with
  | true=>
   rw[if_pos rfl] at hcr
   refine seq <| rgN 5 hf <| st ((ldW T68 rfl B9 rfl).eq ((rfl:_=ac p))) <| st ((ldW T68 rfl B5 rfl).eq ((rfl:_=ac T))) <| st (ar (A:=E (ac (p &&& T))) (B:=E (ac p)) (C:=E (ac T)) fj rfl rfl (fun v u w he h h'=>by cases h;cases h';exact fw _ _ w)) ?_
   refine st (an (A:=E (B true)) (B:=E (ac (p &&& T))) fQ rfl (fun v w he h=>by cases h;rw[hem];exact ga _ w)) ?_
   refine st (bA rfl) <| en fun a w e' hf=>?_
   obtain⟨HD,hN2s,B5,e,B9⟩:=up5 e' HD hN2s B5 e B9
   refine aa <| ifc hf rfl (fun h=>by cases h) (fun _=>?_)
   refine ak ?_
   replace hf:=hf.keep [5,7,12,13,14]
   rw[← hcr] at hf
   refine rgN 1 hf <| st ((add rfl rfl (by omega)).eq (congrArg (Value.int .i64) (show (k:Int)+1=((k+1:Nat):Int) from rfl))) <| en fun a w e' hf=>?_
   obtain⟨HD,hN2s,B5,e⟩:=up4 e' HD hN2s B5 e
   refine tP hf (mv rfl) fun a w e' hf=>?_
   obtain⟨HD,hN2s,B5,e⟩:=up4 e' HD hN2s B5 e
   refine aa ?_
   replace hf:=hf.keep [5,7,12,13,14]
   refine⟨_,?_,k+1,rfl,by omega,hf,e,?_⟩
   ·omega
   exact⟨HD,hN2s,B5⟩
  | false=>
   rw[if_neg (by decide)] at hcr
   have hh0:=hWN2
   refine seq <| rgN 5 hf <| st ((ldW T68 rfl B9 rfl).eq ((rfl:_=ac p))) <| st ((ldW T68 rfl B5 rfl).eq ((rfl:_=ac T))) <| st (ar (A:=E (ac (p &&& T))) (B:=E (ac p)) (C:=E (ac T)) fj rfl rfl (fun v u w he h h'=>by cases h;cases h';exact fw _ _ w)) ?_
   refine st (an (A:=E (B false)) (B:=E (ac (p &&& T))) fQ rfl (fun v w he h=>by cases h;rw[hem];exact ga _ w)) ?_
   refine st (bA rfl) <| en fun a w e' hf=>?_
   obtain⟨HD,hN2s,B5,e,B9⟩:=up5 e' HD hN2s B5 e B9
   refine aa <| ifc hf rfl (fun _=>?_) (fun h=>by cases h)
   replace hf:=hf.keep [5,7,12,13,14]
   refine rgN 2 hf <| st (mv rfl) <| st ((add rfl rfl (by omega)).eq (congrArg (Value.int .i64) (show ((c:Nat):Int)+1=((c+1:Nat):Int) from rfl))) <| en fun a w e' hf=>?_
   obtain⟨HD,hN2s,B5,e⟩:=up4 e' HD hN2s B5 e
   refine tA hf rfl fun a hf=>aa ?_
   replace hf:=hf.keep [5,7,12,13,14]
   rw[← hcr] at hf
   refine rgN 1 hf <| st ((add rfl rfl (by omega)).eq (congrArg (Value.int .i64) (show (k:Int)+1=((k+1:Nat):Int) from rfl))) <| en fun a w e' hf=>?_
   obtain⟨HD,hN2s,B5,e⟩:=up4 e' HD hN2s B5 e
   refine tP hf (mv rfl) fun a w e' hf=>?_
   obtain⟨HD,hN2s,B5,e⟩:=up4 e' HD hN2s B5 e
   refine aa ?_
   replace hf:=hf.keep [5,7,12,13,14]
   refine⟨_,?_,k+1,rfl,by omega,hf,e,?_⟩
   ·omega
   exact⟨HD,hN2s,B5⟩
 ·obtain rfl:L.length=k:=by have:=of_decide_eq_false hc;(try dsimp only at this);omega
  rw[List.take_length] at hf
  replace hf:=hf.keep [7]
  refine seq <| rgN 2 hf <| st (mv rfl) <| st (gtr rfl rfl) <| en fun a w e' hf=>?_
  replace e:=e.tr e'
  refine tA hf rfl fun a hf=>aa <| ai <| ap rfl hf rfl ?_
  rintro _ rfl
  exact⟨_,rfl,e,rfl⟩
end Go.Mono
namespace Go.Mono
open Go Go.Proofs Go.RowKit Go.Gr Go.Ms
theorem ek {S:BS}{l:List Nat}(h:elems S=l)(i:Nat):S.getLsbD i=true↔i∈l:=by
 rw[← h,aH]
 exact⟨fun k=>⟨ay k,k⟩,fun k=>k.2⟩
theorem a4U:elems (15#1024)=[0,1,2,3]:=by decide +kernel
theorem vo:elems (14#1024)=[1,2,3]:=by decide +kernel
theorem lS:elems (12#1024)=[2,3]:=by decide +kernel
theorem lT:elems (10#1024)=[1,3]:=by decide +kernel
theorem el5:elems (5#1024)=[0,2]:=by decide +kernel
theorem el4:elems (4#1024)=[2]:=by decide +kernel
theorem el0:elems (0#1024)=[]:=by decide +kernel
theorem n40:(nbA (ax 4)) ((0:Nat):Int)=10#1024:=by rw[na4];decide +kernel
theorem n41:(nbA (ax 4)) ((1:Nat):Int)=5#1024:=by rw[na4];decide +kernel
theorem n42:(nbA (ax 4)) ((2:Nat):Int)=10#1024:=by rw[na4];decide +kernel
theorem n43:(nbA (ax 4)) ((3:Nat):Int)=5#1024:=by rw[na4];decide +kernel
theorem c4:card (ah (ax 4).1)=4:=by rw[v4];decide +kernel
theorem dl0:del (15#1024) ((0:Nat):Int)=14#1024:=by decide +kernel
theorem dl1:del (14#1024) ((1:Nat):Int)=12#1024:=by decide +kernel
theorem dl3:del (12#1024) ((3:Nat):Int)=4#1024:=by decide +kernel
theorem dl2:del (4#1024) ((2:Nat):Int)=0#1024:=by decide +kernel
theorem vp:mL (nbA (ax 4)) (ah (ax 4).1) 0=15#1024:=by rw[uZ,v4]
theorem jL:mU (nbA (ax 4)) (ah (ax 4).1) 0=0:=by
 rw[mU,vp,bsA,a4U]
 simp[bsF,iI]
theorem oK:mL (nbA (ax 4)) (ah (ax 4).1) 1=14#1024:=by rw[iH,vp,jL,dl0]
theorem oM (v:Nat):MR (nbA (ax 4)) (ah (ax 4).1) 0 v↔v=1∨v=3:=by
 constructor
 ·rintro⟨-,h⟩
  rw[jL] at h
  cases h with
  | one h=>
   replace h:((nbA (ax 4)) ((0:Nat):Int)).getLsbD v=true:=h
   rw[n40,ek lT] at h
   simpa using h
  | step _ h _=>
   have:=h.2
   rw[iI,iI] at this
   exact absurd this (Nat.lt_irrefl _)
 ·intro h
  refine⟨?_,.one ?_⟩
  ·show (mL (nbA (ax 4)) (ah (ax 4).1) 1).getLsbD v=true
   rw[oK,ek vo]
   rcases h with rfl|rfl <;> simp
  ·show ((nbA (ax 4)) (mU (nbA (ax 4)) (ah (ax 4).1) 0:Nat)).getLsbD v=true
   rw[jL,n40,ek lT]
   rcases h with rfl|rfl <;> simp
theorem oN (v:Nat):mC (nbA (ax 4)) (ah (ax 4).1) 1 v=if v=1∨v=3 then 1 else 0:=by
 rw[lL,iI,Nat.zero_add]
 by_cases h:v=1∨v=3
 ·rw[if_pos h,if_pos (fJ.2 ((oM v).2 h))]
 ·rw[if_neg h,if_neg fun hh=>h ((oM v).1 (fJ.1 hh))]
theorem lU:mU (nbA (ax 4)) (ah (ax 4).1) 1=1:=by
 rw[mU,oK,bsA,vo]
 simp[bsF,oN]
theorem lV:mL (nbA (ax 4)) (ah (ax 4).1) 2=12#1024:=by rw[iH,oK,lU,dl1]
theorem oO (v:Nat):MR (nbA (ax 4)) (ah (ax 4).1) 1 v↔v=2∨v=3:=by
 constructor
 ·rintro⟨h,-⟩
  replace h:(mL (nbA (ax 4)) (ah (ax 4).1) 2).getLsbD v=true:=h
  rw[lV,ek lS] at h
  simpa using h
 ·have h2:di (nbA (ax 4)) (mU (nbA (ax 4)) (ah (ax 4).1) 1) 2:=by
   show ((nbA (ax 4)) (mU (nbA (ax 4)) (ah (ax 4).1) 1:Nat)).getLsbD 2=true
   rw[lU,n41,ek el5];simp
  have l2:∀v,v=2∨v=3→(mL (nbA (ax 4)) (ah (ax 4).1) 2).getLsbD v=true:=fun v h=>by
   rw[lV,ek lS]
   rcases h with rfl|rfl <;> simp
  intro h
  refine⟨l2 v h,?_⟩
  rcases h with rfl|rfl
  ·exact .one h2
  ·refine .step (.one h2) ⟨l2 2 (.inl rfl),by simp[oN]⟩ ?_
   show ((nbA (ax 4)) ((2:Nat):Int)).getLsbD 3=true
   rw[n42,ek lT];simp
theorem a4V (v:Nat):mC (nbA (ax 4)) (ah (ax 4).1) 2 v=mC (nbA (ax 4)) (ah (ax 4).1) 1 v+if v=2∨v=3 then 1 else 0:=by
 rw[lL]
 by_cases h:v=2∨v=3
 ·rw[if_pos h,if_pos (fJ.2 ((oO v).2 h))]
 ·rw[if_neg h,if_neg fun hh=>h ((oO v).1 (fJ.1 hh))]
theorem lW:mU (nbA (ax 4)) (ah (ax 4).1) 2=3:=by
 rw[mU,lV,bsA,lS]
 simp[bsF,a4V,oN]
theorem lX:mL (nbA (ax 4)) (ah (ax 4).1) 3=4#1024:=by rw[iH,lV,lW,dl3]
theorem a4W (v:Nat):MR (nbA (ax 4)) (ah (ax 4).1) 2 v↔v=2:=by
 constructor
 ·rintro⟨h,-⟩
  replace h:(mL (nbA (ax 4)) (ah (ax 4).1) 3).getLsbD v=true:=h
  rw[lX,ek el4] at h
  simpa using h
 ·rintro rfl
  refine⟨?_,.one ?_⟩
  ·show (mL (nbA (ax 4)) (ah (ax 4).1) 3).getLsbD 2=true
   rw[lX,ek el4];simp
  ·show ((nbA (ax 4)) (mU (nbA (ax 4)) (ah (ax 4).1) 2:Nat)).getLsbD 2=true
   rw[lW,n43,ek el5];simp
theorem oP:mU (nbA (ax 4)) (ah (ax 4).1) 3=2:=by
 rw[mU,lX,bsA,el4]
 simp[bsF]
theorem a4X:mL (nbA (ax 4)) (ah (ax 4).1) 4=0#1024:=by rw[iH,lX,oP,dl2]
theorem a4Y (v:Nat):¬MR (nbA (ax 4)) (ah (ax 4).1) 3 v:=fun⟨h,_⟩=>by
 replace h:(mL (nbA (ax 4)) (ah (ax 4).1) 4).getLsbD v=true:=h
 rw[a4X,ek el0] at h
 cases h
theorem m4o:((List.range (card (ah (ax 4).1))).map fun i=>(mU (nbA (ax 4)) (ah (ax 4).1) i:Int)).reverse=[2,3,1,0]:=by
 rw[c4]
 show [(mU (nbA (ax 4)) (ah (ax 4).1) 3:Int),(mU (nbA (ax 4)) (ah (ax 4).1) 2:Int),(mU (nbA (ax 4)) (ah (ax 4).1) 1:Int),(mU (nbA (ax 4)) (ah (ax 4).1) 0:Int)]=_
 rw[jL,lU,lW,oP];rfl
theorem mRe {k:Nat}{S:BS}{l:List Nat}(he:elems S=l)(h:∀v,MR (nbA (ax 4)) (ah (ax 4).1) k v↔v∈l):mR (nbA (ax 4)) (ah (ax 4).1) k=S:=bT fun i=>by rw[fJ,h,ek he]
theorem d10:elems (10#1024 &&& ~~~10#1024)=[]:=by decide +kernel
theorem d12:elems (12#1024 &&& ~~~5#1024)=[3]:=by decide +kernel
theorem d4:elems (4#1024 &&& ~~~5#1024)=[]:=by decide +kernel
theorem d0:elems (0#1024 &&& ~~~10#1024)=[]:=by decide +kernel
theorem m4f:flL (nbA (ax 4)) (ah (ax 4).1) (card (ah (ax 4).1))=[(1,3)]:=by
 have r0:=mRe (k:=0) lT fun v=>(oM v).trans (by simp)
 have r1:=mRe (k:=1) lS fun v=>(oO v).trans (by simp)
 have r2:=mRe (k:=2) el4 fun v=>(a4W v).trans (by simp)
 have r3:=mRe (k:=3) el0 fun v=>⟨fun h=>absurd h (a4Y v),fun h=>by cases h⟩
 have f0:flP (nbA (ax 4)) (ah (ax 4).1) 0=[]:=by rw[flP,r0,jL,n40,d10];rfl
 have f1:flP (nbA (ax 4)) (ah (ax 4).1) 1=[(1,3)]:=by rw[flP,r1,lU,n41,d12];rfl
 have f2:flP (nbA (ax 4)) (ah (ax 4).1) 2=[]:=by rw[flP,r2,lW,n43,d4];rfl
 have f3:flP (nbA (ax 4)) (ah (ax 4).1) 3=[]:=by rw[flP,r3,oP,n42,d0];rfl
 rw[c4,iJ,iJ,iJ,iJ,f0,f1,f2,f3];rfl
def oQ (o:Option (List BS)):Bool:=match o with
 | some L=>decide (L.length≤10)
 | none=>false
theorem a4Z {o:Option (List BS)}(h:oQ o=true):∃L,o=some L∧L.length≤10:=by
 cases o with
 | none=>cases h
 | some L=>exact⟨L,rfl,of_decide_eq_true h⟩
def vq (n:Nat):Bool:=oQ (cw (lkS l4) 8 8 (BitVec.ofNat 1024 n))
theorem a5a (n:Nat):vq n=oQ (cw (lkS l4) 8 8 (BitVec.ofNat 1024 n)):=rfl
theorem a5b:(List.range 16).all vq=true:=by decide +kernel
theorem a5c {f:Nat→Bool}{m:Nat}(h:(List.range m).all f=true){n:Nat}(hn:n<m):f n=true:=List.all_eq_true.1 h n (List.mem_range.2 hn)
theorem ofT (R:BS):BitVec.ofNat 1024 R.toNat=R:=by rw[BitVec.ofNat_toNat,BitVec.setWidth_eq]
theorem a5d (R:BS)(h15:R.toNat≤15):∃L,cw (lkS l4) 8 8 R=some L∧L.length≤10:=by
 have h:=a5c a5b (Nat.lt_succ_of_le h15)
 rw[a5a,ofT] at h
 exact a4Z h
theorem a5e {α:Type}{ys:List α}(h:ys.length=2):∃a b,ys=[a,b]:=by
 match ys,h with
 | [a,b],_=>exact⟨a,b,rfl⟩
theorem a5f:(15#1024:BS).toNat=15:=by decide +kernel
theorem a5g (A Y:BS):(A &&& Y).toNat≤A.toNat:=by
 rw[BitVec.toNat_and]
 exact Nat.and_le_left
theorem a5h (Y:BS):(15#1024 &&& Y).toNat≤15:=by
 have:=a5g (15#1024) Y
 rwa [a5f] at this
theorem a5i (X:BS):∃L,cw (nbA (ax 4)) 8 8 ((ah (ax 4).1) &&& ~~~X)=some L∧L.length≤10:=by
 rw[na4,v4]
 exact a5d _ (a5h _)
theorem a5j:gB (lkS l4) 8 8 15#1024 12 0 (eh (lkS l4) 8 8 15#1024 (elems 15#1024))=some [10#1024,5#1024]:=by decide +kernel
theorem sp4:gB (nbA (ax 4)) 8 8 (ah (ax 4).1) 12 0 (eh (nbA (ax 4)) 8 8 (ah (ax 4).1) (elems (ah (ax 4).1)))=some [10#1024,5#1024]:=by rw[na4,v4];exact a5j
theorem a5k:cw (lkS l4) 8 8 (15#1024 &&& ~~~5#1024)=some [2#1024,8#1024]:=by decide +kernel
theorem cr4:cw (nbA (ax 4)) 8 8 ((ah (ax 4).1) &&& ~~~5#1024)=some [2#1024,8#1024]:=by rw[na4,v4];exact a5k
theorem a5l:(decide ((crN 10#1024 [2#1024,8#1024]:Int) > 1))=true:=by decide +kernel
theorem a5m:(10#1024:BS).toNat=10:=by decide +kernel
theorem a5n:(5#1024:BS).toNat=5:=by decide +kernel
theorem a5o {x y:BS}(hxy:y.toNat<x.toNat){ys:List BS}(h:ys.Perm [x,y])(hp:ys.Pairwise fun S T=>¬T.toNat<S.toNat):ys=[y,x]:=by
 have hne:x≠y:=fun e=>by rw[e] at hxy;exact Nat.lt_irrefl _ hxy
 obtain⟨a,b,rfl⟩:=a5e (show ys.length=2 from h.length_eq)
 have ha':=(h.mem_iff (a:=a)).1 (List.mem_cons_self ..)
 have hy:=(h.mem_iff (a:=y)).2 (by simp)
 have hx:=(h.mem_iff (a:=x)).2 (by simp)
 have hab:¬b.toNat<a.toNat:=(List.pairwise_cons.1 hp).1 b (List.mem_singleton.2 rfl)
 simp only[List.mem_cons,List.not_mem_nil,or_false] at ha' hy hx
 rcases ha' with rfl|rfl
 ·rcases hy with hy|hy
  ·exact absurd hy.symm hne
  ·rw[← hy] at hab;exact absurd hxy hab
 ·rcases hx with hx|hx
  ·exact absurd hx hne
  ·rw[hx]
theorem a5p {ys:List BS}(h:ys.Perm [10#1024,5#1024])(hp:ys.Pairwise fun S T=>¬T.toNat<S.toNat):ys=[5#1024,10#1024]:=a5o (by rw[a5m,a5n];omega) h hp
theorem a5q (w:World):(Op.equal 60 (etV ((1,3),(0,0))) (etV ((1,3),(0,0)))).run Tryz.prog w=.ok true w:=by kernel_rfl
end Go.Mono
namespace Go.MonoD
open Go Go.Proofs Go.RowKit Go.Mono
theorem cmpF_spec (x y:(Int×Int)×(Int×Int))(W:World):Calls Tryz.prog 146 #[.agg #[.int .i64 x.1.1,.int .i64 x.1.2,.int .u8 x.2.1,.int .i64 x.2.2],.agg #[.int .i64 y.1.1,.int .i64 y.1.2,.int .u8 y.2.1,.int .i64 y.2.2]] W (Post (E (I (orI (cmpI x.1.1 y.1.1) (cmpI x.1.2 y.1.2)))) W):=by
 refine enter (args:=[.agg #[.int .i64 x.1.1,.int .i64 x.1.2,.int .u8 x.2.1,.int .i64 x.2.2],.agg #[.int .i64 y.1.1,.int .i64 y.1.2,.int .u8 y.2.1,.int .i64 y.2.2]]) (As:=[E (.agg #[.int .i64 x.1.1,.int .i64 x.1.2,.int .u8 x.2.1,.int .i64 x.2.2]),E (.agg #[.int .i64 y.1.1,.int .i64 y.1.2,.int .u8 y.2.1,.int .i64 y.2.2])]) Tryz.func146 rfl Tryz.ntmps146 (Nat.le_of_ble_eq_true rfl) ?_ (fun a hf=>?_) (Nat.le_of_ble_eq_true rfl)
 rotate_left
 rotate_right
 ·exact arg2 rfl rfl
 have e:=Ext.rfl' W
 refine seq <| ae <| dq hf rfl (by decide) fun a b2 w v2 hv2 e' hb2 hs2 B2 hf=>?_
 replace e:=e.tr e'
 refine dq hf rfl (by decide) fun a b3 w v3 hv3 e' hb3 hs3 B3 hf=>?_
 replace e:=e.tr e'
 replace B2:=B2.ext e'.toBelow
 refine aI hf rfl (by decide) fun a hf=>aa ?_
 cases hv2;cases hv3
 refine seq <| reg 12 Mix.mix hf (by decide +kernel) <| st (dH Tryz.underlying60 rfl T3 (by decide) rfl) <| st (ld1 T3 rfl B2 rfl) <| st (dH Tryz.underlying60 rfl T3 (by decide) rfl) <| st (ld1 T3 rfl B3 rfl) <| st (ar Mono.En92 rfl rfl (fun v u w he h h'=>jj x.1.1 y.1.1 v u w h h')) <| st (dH Tryz.underlying60 rfl T3 (by decide) rfl) <| st (ld1 T3 rfl B2 rfl) <| st (dH Tryz.underlying60 rfl T3 (by decide) rfl) <| st (ld1 T3 rfl B3 rfl) <| st (ar Mono.En92 rfl rfl (fun v u w he h h'=>jj x.1.2 y.1.2 v u w h h')) <| st (rE Tryz.underlying31 Mono.I3 rfl rfl rfl) <| st (an Mono.En91 rfl (fun v w he h=>by obtain⟨b,rfl,hB⟩:=h;exact rF _ _ b w hB)) ?_
 refine en fun a w e' hf=>?_
 replace e:=e.tr e'
 replace B2:=B2.ext e'.toBelow
 replace B3:=B3.ext e'.toBelow
 refine aI hf rfl (by decide) fun a hf=>aa <| ai <| ap rfl hf rfl ?_
 rintro _ rfl
 exact⟨_,rfl,e,rfl⟩
end Go.MonoD
namespace Go.Mono
open Go Go.Proofs Go.RowKit Go.Gr Go.Ms Go.Sort
theorem a5r {B:Nat}{G:Nat→Prop}{w:World}{xs:List ET}{v:Value}(Ho:OwR etE 60 B G w xs v)(hl:xs.length≤100000) :
  Calls Tryz.prog 89 #[v,.func (.func 146) #[] #[]] w fun en w'=>en=.returned (.tuple #[])∧∃xs',xs'.Perm xs∧OwR etE 60 B G w' xs' v∧Chg (fun b=>v.ownBlock=some b) w w':=
 (kx (e:=etE) Tryz.sortE (fun w=>T60.agg w) (fun w=>T60.size w) etL rM (fun _=>rfl) (fun x u hu=>by simp[etL] at hu;rcases hu with rfl|rfl|rfl|rfl <;> rfl) _ rL 146 xB
  (fun x y W=>(MonoD.cmpF_spec x y W).mono fun en w' ⟨u,h1,h2,h3⟩=>by cases h3;exact⟨h1,h2.grown⟩) Ho hl).mono fun en w' ⟨h1,xs',h2,h3,h4,h5⟩=>⟨h1,xs',h2,h4,h5⟩
def eF (p:Nat×Nat):ET:=(((p.1:Int),(p.2:Int)),(0,0))
theorem a5s (u v:Nat):Tryz.prog.built 60 [(0,I (u:Nat)),(1,I (v:Nat))]=some #[I (u:Nat),I (v:Nat),.int .u8 0,.int .i64 0]:=by kernel_rfl
structure FiJ (W:World)(g:GT)(N:Nat)(gv:Value)(b1 b3 k:Nat)(K:Nat→Prop)(v:Value)(w:World):Prop where
 p1:Blk w b1 #[gv] 28
 p3:Blk w b3 #[v] 55
 o:OwR etE 60 1 Go.Mono.G0 w ((flL (nbA g) (ah g.1) k).map eF) v
 k:∀b,v.ownBlock=some b→W.heap.size≤b∧¬K b
 g:(Dv (ptE (grE N)) (fun b=>W.heap.size≤b∨b=b3) (some g)).p gv w
structure FlW (w0:World)(v0:Value)(b3 b4 B:Nat)(id:Nat)(xs:List ET)(s:List Nat)(v:Value)(w:World):Prop where
 c:Chg (fun b=>b=b3∨v0.ownBlock=some b) w0 w
 t:Tab w
 p3:Blk w b3 #[v] 55
 p4:Blk w b4 #[I (id:Nat)] 3
 o:OwR etE 60 1 Go.Mono.G0 w (xs++s.map fun x=>eF (min id x,max id x)) v
 l:OwL w0 v0 v
 k:∀b,v.ownBlock=some b→¬aS B b
theorem FlW.kp {w0:World}{v0 v:Value}{b3 b4 B id:Nat}{xs:List ET}{s:List Nat}{w w':World}(h:FlW w0 v0 b3 b4 B id xs s v w)(k:Kp B w w')(hW:w0.heap.size≤B)(h0:0<B)(l3:b3<B)(l4:b4<B):FlW w0 v0 b3 b4 B id xs s v w':=
 ⟨h.c.kp k hW,h.t.kp k h0,h.p3.kp k (fun hh=>by have:=hh.1;omega),h.p4.kp k (fun hh=>by have:=hh.1;omega),h.o.chE k.chg h.k,h.l,h.k⟩
theorem a5t {G:Nat→Prop}{N:Nat}(g:GT)(ok:Gr.Ok g)(gv:Value)(id:Nat)(r:BS)(xs:List ET)(b1 b3:Nat)(v:Value)(W:World)(hT:Tab W)(hid:id<1024)(hg:(Dv (ptE (grE N)) G (some g)).p gv W)(h1:Blk W b1 #[gv] 28)(h3:Blk W b3 #[v] 55)(Ho:OwR etE 60 1 Go.Mono.G0 W xs v)(hb3:0<b3)(hl2:g.2.length≤100000)(hN:N≤1000000)(hl:xs.length≤2000000) :
  Calls Tryz.prog 145 #[I (id:Nat),ac r,ptr b1,ptr b3] W (fun en w'=>en=.returned (.tuple #[])∧∃v',Chg (fun b=>b=b3∨v.ownBlock=some b) W w'∧Blk w' b3 #[v'] 55∧OwR etE 60 1 Go.Mono.G0 w' (xs++(elems (r &&& ~~~nbG g.2 (id:Int))).map fun x=>eF (min id x,max id x)) v'∧OwL W v v'):=by
 have hv:(Dv (ptE (grE N)) Go.Mono.G0 (some g)).p gv W:=Dv.weak hg fun b _ hb=>hb.elim
 have gs2:=ok.se
 have hT0:=hT.lt
 have l3W:=h3.lt
 have hownW:∀b,v.ownBlock=some b→b<W.heap.size:=fun b hb=>(Ho.lt hb).2
 refine cq (args:=[I (id:Nat),ac r,ptr b1,ptr b3]) (As:=[E (I (id:Nat)),E (ac r),E (ptr b1),E (ptr b3)]) Tryz.func145 rfl Tryz.ntmps145 (Nat.le_of_ble_eq_true rfl) ?_ (fun a hf=>?_) (Nat.le_of_ble_eq_true rfl)
 ·exact aQ rfl (aQ rfl (aQ rfl (aQ rfl cO)))
 dsimp only[params,Nat.reduceAdd] at hf
 have e:=Ext.rfl' W
 refine seq <| ae <| dq hf rfl (by decide) fun a b4 w v4 hv4 e' hb4 hs4 B4 hf=>?_
 replace Ho:=Ho.ext e'
 replace hT:=hT.ext e'
 replace e:=e.tr e'
 replace h1:=h1.ext e'
 replace h3:=h3.ext e'
 refine dq hf rfl (by decide) fun a b5 w v5 hv5 e' hb5 hs5 B5 hf=>?_
 replace Ho:=Ho.ext e'
 replace hT:=hT.ext e'
 replace e:=e.tr e'
 replace h1:=h1.ext e'
 replace h3:=h3.ext e'
 replace B4:=B4.ext e'
 refine aa ?_
 cases hv4;cases hv5
 replace B4:Blk w b4 #[I (id:Nat)] 3:=B4
 replace B5:Blk w b5 (au r) 68:=B5
 obtain⟨S,hS⟩:∃S,S=r &&& ~~~nbG g.2 (id:Int):=⟨_,rfl⟩
 obtain⟨Nz,hNz⟩:∃Nz,Nz=w.heap.size:=⟨_,rfl⟩
 have e0:=e
 replace hf:=hf.keep [2,3,4,5]
 refine seq <| reg 6 Mix.mix hf (by decide +kernel) <| st ((ldW T68 rfl B5 rfl).eq ((rfl:_=ac r))) <| st (ld1 (v:=gv) T28 rfl h1 rfl) <| st (ld1 (v:=I (id:Nat)) T3 rfl B4 rfl) <| st (ar (A:=E (ac (nbG g.2 (id:Int)))) fP rfl rfl (fun v u w he k1 k2=>by cases k1;cases k2;exact gN g _ _ w (VA.st _ _ _ _ (Ext.tr e0 he) hv) gs2 hl2 hN)) ?_
 refine st (ar (A:=E (ac S)) cX rfl rfl (fun v u w he h h'=>by cases h;cases h';rw[hS];exact db _ _ w)) ?_
 refine st (an (A:=bW Nz S) cg rfl (fun v w' he h=>by cases h;exact Calls.mono (cm _ w') (fun en w2 ⟨u,h1,h2,b',h3,h4,h5⟩=>⟨u,h1,h2,b',by have:=he.size;omega,h4,h5⟩))) ?_
 refine en fun a w e' hf=>?_
 replace Ho:=Ho.ext e'
 replace hT:=hT.ext e'
 replace e:=e.tr e'
 replace h1:=h1.ext e'
 replace h3:=h3.ext e'
 replace B4:=B4.ext e'
 replace B5:=B5.ext e'
 refine aa ?_
 obtain⟨vv,⟨b12,h12,rfl,BS⟩,hf⟩:=hf.fix 12 rfl
 replace hf:=hf.kp [3,4,12]
 have hBW:W.heap.size≤w.heap.size:=e.size
 have h0w:0<w.heap.size:=hT.lt
 have l4:=B4.lt
 have l3:=h3.lt
 have n34:b3≠b4∧W.heap.size≤b4:=by omega
 refine blk <| cC (S:=S) hf rfl BS (by decide) (fun sl w1=>∃v',FlW W v b3 b4 w.heap.size id xs sl v' w1) (fun _ _=>False) (fun sl w1 ⟨_,h⟩=>h.t)
  ⟨v,e.chg _,hT,h3,B4,by simpa using Ho,fun b hb=>.inl hb,fun b hb hH=>by have:=hownW b hb;have:=hH.1;omega⟩ (fun sl w1 w2 ⟨v1,h⟩ hs k=>⟨v1,h.kp k hBW h0w l3 l4⟩) (fun _ _ _ h=>h.elim) ?_ ?_ (fun _ _ _ _ _ _ h=>h.elim)
 ·intro lb sl x rest a1 w1 hs hJ hlw hf
  have hx1024:x<1024:=(aH.1 (by rw[hs];simp)).1
  have hsl:sl.length<1024:=by have:=bX S;rw[hs] at this;simp at this;omega
  generalize hBz:w.heap.size=Bz at *
  refine ae <| aI hf rfl (by decide) fun a hf=>aa <| ⟨Kh.rfl' _ _,fun w3 k3 hsz3=>?_⟩
  obtain⟨v1,hJ⟩:=hJ
  have hJ3:=hJ.kp k3 hBW h0w l3 l4
  have hw3:Bz+3≤w3.heap.size:=by omega
  replace hf:=hf.pure w3
  obtain⟨c,hT,B3,B4,Ho,hle,hk⟩:=hJ3
  have kh:=Kh.rfl' Bz w3
  replace hf:=hf.keep [3,4,6]
  refine blk ?_
  obtain⟨ys,hys⟩:∃ys,ys=xs++sl.map fun x=>eF (min id x,max id x):=⟨_,rfl⟩
  have hyl:ys.length≤2002000:=by rw[hys];simp;omega
  rw[← hys] at Ho
  refine aN 9 hf (by decide +kernel) <| st (ld1 (v:=v1) T55 rfl B3 rfl) <| st (ld1 (v:=I (id:Nat)) T3 rfl B4 rfl) <| st (mv rfl) <| st ((min2 rfl rfl).eq (congrArg (Value.int .i64) (show min ((id:Nat):Int) ((x:Nat):Int)=((min id x:Nat):Int) by omega))) <| st (ld1 (v:=I (id:Nat)) T3 rfl B4 rfl) <| st (mv rfl) <| st ((max2 rfl rfl).eq (congrArg (Value.int .i64) (show max ((id:Nat):Int) ((x:Nat):Int)=((max id x:Nat):Int) by omega))) <| st (bK [(0,_),(1,_)] rfl (a5s _ _)) <| st (bB (e:=etE) (z:=eF (min id x,max id x)) (G:=GO Go.Mono.G0 v1) Tryz.underlying55 I60 rfl (by decide) rfl Ho.avs (ea (n:=eF (min id x,max id x)) rfl)) <| en fun a w e' hf=>?_
  replace hT:=hT.ext e'
  replace Ho:=Ho.ext e'
  replace c:=c.ext e'
  replace kh:=kh.tr (Kh.ext e')
  replace hw3:=Nat.le_trans hw3 e'.size
  replace B3:=B3.ext e'
  replace B4:=B4.ext e'
  replace hf:=hf.kp [3,14,22]
  have hn3:=Ho.neB B3 (by decide)
  have hn4:=Ho.neB B4 (by decide)
  refine bI Tryz.underlying55 I60 rfl rfl hf (by decide) rfl Ho (isR rfl) (by simp only[List.length_singleton];omega) (by simp only[List.length_singleton,maxLen];omega) fun a v2 w2 hg hat Hn hf=>?_
  have hsz2:=hg.size
  replace B3:=B3.gro hg hn3
  replace B4:=B4.gro hg hn4
  replace kh:=kh.tr (Kh.gro hg hk)
  have hle2:OwL W v v2:=fun b hb=>hat.elim (fun h=>hle b (by rw[← h];exact hb)) fun h=>.inr (by rw[h] at hb;cases hb;exact c.size)
  have hk2:∀b,v2.ownBlock=some b→¬aS Bz b:=fun b hb=>hat.elim (fun h=>hk b (by rw[← h];exact hb)) fun h hh=>by rw[h] at hb;cases hb;have:=hh.2;omega
  have hn5:=Hn.neB B3 (by decide)
  replace hf:=hf.kp [3,23]
  refine aA T55 hf rfl rfl Hn.one B3 Nat.zero_lt_one fun w4 hg2 hsz B3 hf=>?_
  replace B4:=B4.gr hg2 (by omega)
  replace kh:=kh.tr (Kh.gr hg2 (fun hh=>by have:=hh.1;omega))
  refine aa ?_
  simp only[Exit.inBlock]
  refine⟨⟨v2,?_,?_,B3,B4,?_,hle2,hk2⟩,kh⟩
  ·refine ((c.tr2 (Chg.row hg) fun b hb=>?_).gr hg2 (.inl (.inl rfl)))
   exact (hle b hb).imp .inr fun h=>h
  ·exact (hT.gro hg fun b hb=>(Ho.lt hb).1).gr hg2 hb3
  ·rw[List.map_append,← List.append_assoc,← hys]
   exact Hn.grE hg2 hn5
 ·intro a' w' hf' hJ hsz hDn
  simp only[Exit.inBlock,↓reduceIte,Exit.then]
  obtain⟨v1,c,hT,B3,B4,Ho,hle,hk⟩:=hJ
  have hD:Ds [w.heap.size] w':=(Ds.nil w').cons hDn (by simp)
  have hf:FrD 24 (bq [w.heap.size]) a' w' []:=hf'.keep []
  have hsh:=eb [w.heap.size] w'
  have hno:∀b,b∈[w.heap.size]→aS w.heap.size b:=fun b hb=>by rw[List.mem_singleton] at hb;rw[hb];exact⟨Nat.le_refl _,by omega⟩
  refine gh rfl hf hD ⟨rfl,v1,c.tr2 hsh fun b hb=>.inr (by have:=(hno b hb).1;omega),B3.ch hsh (fun h=>by have:=(hno _ h).1;omega),?_,hle⟩
  rw[← hS]
  exact Ho.chE hsh fun b hb h=>hk b hb (hno b h)
theorem a5u {xs:List ET}{L:List (Nat×Nat)}(h:xs.Perm (L.map eF)):∃F:List (Nat×Nat),xs=F.map eF∧F.Perm L:=by
 have bk:∀p:Nat×Nat,((eF p).1.1.toNat,(eF p).1.2.toNat)=p:=fun p=>rfl
 refine⟨xs.map fun x=>(x.1.1.toNat,x.1.2.toNat),?_,?_⟩
 ·rw[List.map_map]
  symm
  rw[List.map_eq_iff]
  intro i
  cases hx:xs[i]? with
  | none=>rfl
  | some x=>
   obtain⟨p,_,rfl⟩:=List.mem_map.1 (h.mem_iff.1 (List.mem_of_getElem? hx))
   rfl
 ·have:=h.map fun x:ET=>(x.1.1.toNat,x.1.2.toNat)
  rwa [List.map_map,show ((fun x:ET=>(x.1.1.toNat,x.1.2.toNat)) ∘ eF)=id from funext bk,List.map_id] at this
def a5v (g:GT)(N:Nat):VA:=⟨fun u w=>∃F:List (Nat×Nat),F.Perm (flL (nbA g) (ah g.1) (card (ah g.1)))∧OwR etE 60 1 Go.Mono.G0 w (F.map eF) u∧∀b,u.ownBlock=some b→N≤b,fun _ _ _ e ⟨F,h1,h2,h3⟩=>⟨F,h1,h2.ext e,h3⟩⟩
theorem FiJ.ch {W:World}{g:GT}{N:Nat}{gv:Value}{b1 b3 k:Nat}{K:Nat→Prop}{v:Value}{w w':World}(h:FiJ W g N gv b1 b3 k K v w)(l1:b1<W.heap.size)(l3:b3<W.heap.size)(hK:∀b,K b→W.heap.size≤b)(c:Chg K w w'):FiJ W g N gv b1 b3 k K v w':=
 ⟨h.p1.ch c (fun hh=>by have:=hK _ hh;omega),h.p3.ch c (fun hh=>by have:=hK _ hh;omega),h.o.chE c (fun b hb hh=>(h.k b hb).2 hh),h.k,Dv.ch h.g c fun b hb=>.inl (hK b hb)⟩
theorem a5w {G:Nat→Prop}{N:Nat}(g:GT)(ok:Gr.Ok g)(gv:Value)(W:World)(hT:Tab W)(h:(Dv (ptE (grE N)) G (some g)).p gv W)(hl1:g.1.length≤100000)(hl2:g.2.length≤100000)(hN:N≤1000000)(hc9:card (ah g.1)≤300) :
  Calls Tryz.prog 98 #[gv] W (Post (a5v g W.heap.size) W):=by
 have hv:(Dv (ptE (grE N)) (fun b=>W.heap.size≤b) (some g)).p gv W:=Dv.weak h fun b hb hh=>by omega
 have hT0:=hT.lt
 have h1c:gv.cells = #[gv]:=by
  obtain⟨ad,rfl,_⟩:=Dv.pt.1 hv
  rfl
 have hs:=gw ok
 have hi:∀i j:Nat,(nbA g (i:Int)).getLsbD j=true→(ah g.1).getLsbD i=true:=fun i j h=>fG ok j i (hs i j h)
 refine enter (args:=[gv]) (As:=[E gv]) Tryz.func98 rfl Tryz.ntmps98 (Nat.le_of_ble_eq_true rfl) ?_ (fun a hf=>?_) (Nat.le_of_ble_eq_true rfl)
 rotate_left
 rotate_right
 ·exact arg1 rfl
 have e:=Ext.rfl' W
 refine seq <| ae <| dq hf rfl (by decide) fun a b1 w v1 hv1 e' hb1 hs1 B1 hf=>?_
 replace hT:=hT.ext e'
 replace e:=e.tr e'
 refine aI hf rfl (by decide) fun a hf=>aa ?_
 cases hv1
 rw[h1c] at B1
 replace hf:=hf.keep [1,2]
 refine seq <| ae <| me I55 hf (by decide) fun a b3 w e' hb3 hs3 B3 hf=>?_
 have hle3:=Nat.le_trans e.size (Nat.le_of_eq hb3.symm)
 replace hT:=hT.ext e'
 replace e:=e.tr e'
 replace B1:=B1.ext e'
 refine aa ?_
 replace B3:Blk w b3 #[.slice none 0 0] 55:=B3
 replace hf:=hf.kp [1,2,3]
 refine seq <| aN 2 hf (by decide +kernel) <| st (ld1 (v:=gv) T28 rfl B1 rfl) <| st (ig rfl rfl) <| en fun a w e' hf=>?_
 replace hT:=hT.ext e'
 replace e:=e.tr e'
 replace B1:=B1.ext e'
 replace B3:=B3.ext e'
 obtain⟨W1,hW1⟩:∃W1,W1=w:=⟨_,rfl⟩
 have l1:=B1.lt
 have l3:=B3.lt
 have hn:card (ah g.1)≤1024:=fE fun i hi=>ay hi
 have hv1:(Dv (ptE (grE N)) (fun b=>w.heap.size≤b∨b=b3) (some g)).p gv w:=Dv.weak (VA.st _ _ _ _ e hv) fun b hb hh=>hh.elim (fun hh=>by omega) fun hh=>by omega
 have hwW:=e.size
 refine bU (S:=fun b=>b=b3) (F:=fun z w'=>z=.tuple #[]∧∃K v,FiJ W1 g N gv b1 b3 (card (ah g.1)) K v w') hf (by decide) pA ?_ fun a z w hc hF hf=>?_
 ·have e1:a.eval (.tmp 4)=gv:=hf.opd (.tmp 4) _ rfl
  have e2:a.eval (.tmp 5)=.func (.func 145) #[] #[ptr b1,ptr b3]:=hf.opd (.tmp 5) _ rfl
  simp only[List.map_toArray,List.map_cons,List.map_nil,e1,e2]
  rw[hW1]
  refine (ve g ok gv 145 #[ptr b1,ptr b3] (fun b=>b=b3) (fun k K w'=>∃v,FiJ w g N gv b1 b3 k K v w') w hT (VA.st _ _ _ _ e hv) hl1 hl2 hN xA (fun b hb=>by subst hb;omega) (fun k K w1 w2 hK ⟨v,hJ⟩ c=>⟨v,hJ.ch l1 l3 hK c⟩) (fun k K K' w1 hK ⟨v,hJ⟩=>⟨v,hJ.p1,hJ.p3,hJ.o,fun b hb=>⟨(hJ.k b hb).1,fun hh=>(hK b hh).elim (hJ.k b hb).2 fun hh=>by have:=(hJ.o.lt hb).2;omega⟩,hJ.g⟩) ?_ ⟨.slice none 0 0,B1,B3,OwR.nil etE _ (by omega) (fun b hb=>hb.elim),fun b hb=>by simp[Value.ownBlock] at hb,hv1⟩).mono fun en w' ⟨k1,k2,K,_,v,hJ⟩=>⟨_,k1,k2,rfl,K,v,hJ⟩
  rintro k hk K w1 hK hws hT1 ⟨v,hJ⟩
  have hlk:=oJ hs hi k (by omega)
  have hlk2:k * card (ah g.1)≤1024 * 1024:=Nat.mul_le_mul (by omega) hn
  have hU:=a4v hs hi hk
  refine (a5t g ok gv (mU (nbA g) (ah g.1) k) (mR (nbA g) (ah g.1) k) _ b1 b3 v w1 hT1 (ay hU) hJ.g hJ.p1 hJ.p3 hJ.o (by omega) hl2 hN (by rw[List.length_map];omega)).mono fun en w' ⟨k1,v',k2,k3,k4,k5⟩=>⟨k1,?_,v',hJ.p1.ch k2 ?_,k3,?_,fun b hb=>?_,Dv.ch hJ.g k2 fun b hb=>?_⟩
  ·exact k2.to fun b _ hb=>hb.imp (fun h=>h) (hJ.k b)
  ·rintro (h|h)
   ·exact (hJ.p1.ne hJ.p3 (by decide)) h
   ·have:=(hJ.k _ h).1;omega
  ·rw[iJ,List.map_append,flP,List.map_map]
   have hnb:nbA g (mU (nbA g) (ah g.1) k:Nat)=nbG g.2 (mU (nbA g) (ah g.1) k:Nat):=by rw[nX,if_pos hU]
   rw[hnb]
   exact k4
  ·exact (k5 b hb).elim (hJ.k b) fun hh=>⟨by omega,fun hK'=>by have:=(hK b hK').2;omega⟩
  ·exact hb.elim .inr fun h=>.inl (hJ.k b h).1
 obtain⟨rfl,K,v,hJ⟩:=hF
 rw[← hW1] at e hwW l1 l3 hc
 have hb3:W.heap.size≤b3:=hle3
 have hlF:((flL (nbA g) (ah g.1) (card (ah g.1))).map eF).length≤100000:=by
  have h1:=oJ hs hi _ (Nat.le_refl (card (ah g.1)))
  have h2:=Nat.mul_le_mul hc9 hc9
  rw[List.length_map]
  exact Nat.le_trans h1 (Nat.le_trans h2 (by decide))
 replace e:=e.ch hc fun b (hb:b=b3)=>by rw[hb];exact hb3
 have hJk:=hJ.k
 obtain⟨B1,B3,Ho,_,_⟩:=hJ
 refine aa ?_
 replace hf:=hf.kp [2,3]
 refine seq <| aN 1 hf (by decide +kernel) <| st (ld1 (v:=v) T55 rfl B3 rfl) <| en fun a w e' hf=>?_
 replace Ho:=Ho.ext e'
 replace e:=e.tr e'
 replace B3:=B3.ext e'
 have hn3:=Ho.neB B3 (by decide)
 refine bU (S:=fun b=>v.ownBlock=some b) (F:=fun z w'=>z=.tuple #[]∧∃F:List (Nat×Nat),F.Perm (flL (nbA g) (ah g.1) (card (ah g.1)))∧OwR etE 60 1 Go.Mono.G0 w' (F.map eF) v) hf (by decide) pI ?_ fun a z w hc hF hf=>?_
 ·have e1:a.eval (.tmp 7)=v:=hf.opd (.tmp 7) _ rfl
  have e2:a.eval (.func 146)=.func (.func 146) #[] #[]:=rfl
  simp only[List.map_toArray,List.map_cons,List.map_nil,e1,e2]
  exact (a5r Ho hlF).mono fun en w' ⟨k1,xs',k2,k3,k4⟩=>by
   obtain⟨F,rfl,hF⟩:=a5u k2
   exact⟨_,k1,k4,rfl,F,hF,k3⟩
 obtain⟨rfl,F,hF,Ho2⟩:=hF
 have hWk:∀b,v.ownBlock=some b→W.heap.size≤b:=fun b hb=>Nat.le_trans hwW (hJk b hb).1
 replace e:=e.ch hc hWk
 replace B3:=B3.ch hc hn3
 refine aa ?_
 replace hf:=hf.keep [2,3]
 refine seq <| aN 1 hf (by decide +kernel) <| st (ld1 (v:=v) T55 rfl B3 rfl) <| en fun a w e' hf=>?_
 replace Ho2:=Ho2.ext e'
 replace e:=e.tr e'
 replace B3:=B3.ext e'
 refine aI hf rfl (by decide) fun a hf=>aa <| ai <| ap rfl hf rfl ?_
 rintro _ rfl
 exact⟨_,rfl,e,F,hF,Ho2,hWk⟩
end Go.Mono
namespace Go.Mono
open Go Go.Proofs Go.RowKit Go.Gr Go.Ms
def e25:List ET:=[((0,1),(0,0)),((1,2),(0,0)),((2,3),(0,0)),((0,3),(0,0))]
def vr:Bool:=match dA (ringV 4) e25 with
 | some g=>g.1.isPerm (ax 4).1&&g.2.isPerm (ax 4).2
 | none=>false
theorem a5x:vr=true:=by decide +kernel
theorem a5y:∃g',dA (ringV 4) e25=some g'∧g'.1.Perm (ax 4).1∧g'.2.Perm (ax 4).2:=by
 have h:=a5x
 rw[vr] at h
 cases hb:dA (ringV 4) e25 with
 | none=>rw[hb] at h;cases h
 | some g=>
  rw[hb] at h
  simp only[Bool.and_eq_true,List.isPerm_iff] at h
  exact⟨g,rfl,h⟩
theorem v25:∀x∈ringV 4,okD (dV x):=fun x hx=>by
 have w0:(Lit.int .i64 0).wf=true:=by decide
 have w8:(Lit.int .u8 0).wf=true:=by decide
 obtain⟨i,hi,rfl⟩:=List.mem_map.1 hx
 have:=List.mem_range.1 hi
 exact⟨bh (show -9223372036854775808≤(i:Int) by omega) (show (i:Int)≤9223372036854775807 by omega),w0,w8,w0⟩
theorem x25:∀x∈e25,okD (dE x):=fun x hx=>by
 simp only[e25,List.mem_cons,List.not_mem_nil,or_false] at hx
 rcases hx with rfl|rfl|rfl|rfl <;> exact⟨by decide,by decide,by decide,by decide⟩
theorem a5z:[(0:Int),2].foldl ins 0=5#1024:=by decide +kernel
theorem a5A:[(1:Int),3].foldl ins 0=10#1024:=by decide +kernel
theorem a5B {w0:World}{L:Env}{dst:Option Tmp}{ty:TypeId}{pos:String}{aft:Array Edge}{g:Option (Nat×Bool)}{x y:Operand}{yt:TypeId}(hx:opd L x=some (E (etV ((1,3),(0,0)))))(hy:opd L y=some (E (etV ((1,3),(0,0))))) :
  OpC Tryz.prog w0 L ⟨dst,.binOp .eql 60 x y yt,ty,pos,aft,g⟩ (E (.bool true)):=
 jN hx hy (fun w=>iW _ _ _ _ _ _ (by kernel_rfl) w) rfl fun w _=>a5q w
theorem a5C {A A' B:VA}{v:Value}{w:World}(h:(Tup [A,B]).p v w)(hA:∀u,A.p u w→A'.p u w):(Tup [A',B]).p v w:=by
 obtain⟨vs,h1,h2,h3⟩:=h
 refine⟨vs,h1,h2,fun i C hC=>?_⟩
 match i,hC with
 | 0,hC=>simp at hC;subst hC;exact hA _ (h3 0 A rfl)
 | i+1,hC=>exact h3 (i+1) C (by simpa using hC)
set_option maxRecDepth 10000 in
theorem a5D (W:World)(hT:Tab W):Calls Tryz.prog 53 #[] W (Post (E (B true)) W):=by
 have G4:=a1V (n:=4) (by omega) (by omega)
 have hl1:(ax 4).1.length≤12:=by decide
 have hl2:(ax 4).2.length≤1000:=by decide
 have hc4:=c4
 refine enter (args:=[]) (As:=([]:List VA)) Tryz.func53 rfl Tryz.ntmps53 (Nat.le_of_ble_eq_true rfl) (fun i A h=>by simp at h) (fun a hf=>?_) (Nat.le_of_ble_eq_true rfl)
 have e:=Ext.rfl' W
 refine seq <| ae <| tA hf rfl fun a hf=>aa <| seq <| rgN 14 hf <| st (kV _ rfl) <| st (kV _ rfl) <| st (kV _ rfl) <| st (kV _ rfl) <| st (ko (e:=vtE) (G:=G0) (zs:=ringV 4) (xs:=[.tmp 8,.tmp 9,.tmp 10,.tmp 11]) U54 I57 rfl rfl (by decide) (by decide) rfl (fun b hb=>hb.elim) ⟨eu rfl,eu rfl,eu rfl,eu rfl,trivial⟩) <| st (jA _ _ rfl rfl) <| st (jA _ _ rfl rfl) <| st (jA _ _ rfl rfl) <| st (jA _ _ rfl rfl) <| st (ko (e:=etE) (G:=G0) (zs:=e25) (xs:=[.tmp 13,.tmp 14,.tmp 15,.tmp 16]) U55 I60 rfl rfl (by decide) (by decide) rfl (fun b hb=>hb.elim) ⟨ea rfl,ea rfl,ea rfl,ea rfl,trivial⟩) <| st (ar (A:=Tup [Dv (ptE (grE 2000)) G0 (some (ax 4)),E (I 0)]) px rfl rfl (fun v u w he k1 k2=>a1Q (ringV 4) e25 (ax 4) a5y v25 x25 _ _ w k1 k2 (by decide) (by decide) (fun b hb=>hb.elim))) <| st (mv rfl) <| st (aO rfl rfl) <| st (aO rfl rfl) <| en fun a w e' hf=>?_
 obtain⟨hT,e⟩:=up2 e' hT e
 refine tA hf rfl fun a hf=>tA hf rfl fun a hf=>aa ?_
 obtain⟨gv,hgv,hf⟩:=hf.opn 1 rfl
 obtain⟨W1,hW1⟩:∃W1,W1=w:=⟨_,rfl⟩
 have e1:Ext W1 w:=by rw[hW1];exact Ext.rfl' _
 replace hgv:(Dv (ptE (grE 2000)) G0 (some (ax 4))).p gv W1:=by rw[hW1];exact hgv
 replace hf:=hf.keep [0,1,2]
 refine seq <| rgN 2 hf <| st (mv rfl) <| st (an (A:=Dv (slE aj) G0 [2,3,1,0]) pw rfl (fun v w he k=>by cases k;have:=vf (ax 4) G4 gv w (hT.ext he) (VA.st _ _ _ _ (Ext.tr e1 he) hgv) (by omega) (by omega) (by omega);rwa [m4o] at this)) ?_
 refine en fun a w e' hf=>?_
 obtain⟨hT,e1,e⟩:=up3 e' hT e1 e
 refine tA hf rfl fun a hf=>aa ?_
 replace hf:=hf.keep [0,1,2,3]
 refine seq <| rgN 2 hf <| st (mv rfl) <| st (an (A:=Dv (slE etE) G0 [((1,3),(0,0))]) wQ rfl (fun v w he k=>by cases k;exact (a5w (ax 4) G4 gv w (hT.ext he) (VA.st _ _ _ _ (Ext.tr e1 he) hgv) (by omega) (by omega) (by omega) (by omega)).mono fun en w' ⟨u,k1,k2,F,f1,f2,f3⟩=>⟨u,k1,k2,by rw[m4f] at f1;obtain rfl:=List.perm_singleton.1 f1;exact f2.sl⟩)) ?_
 refine en fun a w e' hf=>?_
 obtain⟨hT,e1,e⟩:=up3 e' hT e1 e
 refine tA hf rfl fun a hf=>aa ?_
 replace hf:=hf.keep [0,1,2,3,4]
 obtain⟨S1,hS1⟩:∃S1:BS,S1=5#1024:=⟨_,rfl⟩
 obtain⟨S2,hS2⟩:∃S2:BS,S2=10#1024:=⟨_,rfl⟩
 have hsp:=sp4
 have hcr:=cr4
 have hcn:=a5l
 have hq1:=a5z
 have hq2:=a5A
 have hso:∀ys:List BS,ys.Perm [S2,S1]→(ys.Pairwise fun S T=>¬T.toNat<S.toNat)→ys=[S1,S2]:=fun ys=>by rw[hS1,hS2];exact a5p
 obtain⟨CL,hCL⟩:∃CL:List BS,CL=[2#1024,8#1024]:=⟨_,rfl⟩
 have hCl:CL.length≤10000:=by rw[hCL];exact (by decide:2≤10000)
 rw[← hS1,← hS2] at hsp
 rw[← hS1,← hCL] at hcr
 rw[← hS2,← hCL] at hcn
 rw[← hS1] at hq1
 rw[← hS2] at hq2
 refine seq <| rgN 5 hf <| st (mv rfl) <| st (ar (A:=Tup [Dv (slE bD) G0 [S1,S2],E (I 0)]) (B:=E gv) (C:=E (I 9)) wR rfl rfl (fun v u w he k k'=>by cases k;cases k';exact (a4R (ax 4) G4 gv w (hT.ext he) (VA.st _ _ _ _ (Ext.tr e1 he) hgv) (by omega) (by omega) (by omega) 8 8 12 (by omega) [S2,S1] a5i hsp (show 2≤9 by omega)).mono fun en w' ⟨u,k1,k2,k3⟩=>⟨u,k1,k2,a5C k3 fun u ⟨ys,y1,y2,y3⟩=>by rw[hso ys y1 y2] at y3;exact y3⟩)) ?_
 refine st (mv rfl) <| st (aO rfl rfl) <| st (aO rfl rfl) <| en fun a w e' hf=>?_
 obtain⟨hT,e1,e⟩:=up3 e' hT e1 e
 refine tA hf rfl fun a hf=>tA hf rfl fun a hf=>aa ?_
 replace hf:=hf.keep [0,1,2,3,4,5,6]
 refine seq <| rgG 78 Mix.mix hf <| st (mv rfl) <| st ((eql rfl rfl).eq (congrArg Value.bool (show ((0:Int)==0)=true from rfl))) <| st (mv rfl) <| sy rfl rfl (mv rfl) <| sy rfl rfl ((eql rfl rfl).eq (congrArg Value.bool (show ((0:Int)==0)=true from rfl))) <| st (pkT rfl rfl) <| st (mv rfl) <| sy rfl rfl (mv rfl) <| sy rfl rfl (aF U31 (isR rfl)) <| sy rfl rfl ((eql rfl rfl).eq (congrArg Value.bool (show (((([2,3,1,0]:List Int).length:Nat):Int)==4)=true from rfl))) <| st (pkT rfl rfl) <| st (mv rfl) <| sy rfl rfl (mv rfl) <| sy rfl rfl (aL (j:=0) U31 S3 (isR rfl) rfl rfl rfl) <| sy rfl rfl (ldI T3 (isR rfl)) <| sy rfl rfl ((eql rfl rfl).eq (congrArg Value.bool (show ((2:Int)==2)=true from rfl))) <| st (pkT rfl rfl) <| st (mv rfl) <| sy rfl rfl (mv rfl) <| sy rfl rfl (aL (j:=1) U31 S3 (isR rfl) rfl rfl rfl) <| sy rfl rfl (ldI T3 (isR rfl)) <| sy rfl rfl ((eql rfl rfl).eq (congrArg Value.bool (show ((3:Int)==3)=true from rfl))) <| st (pkT rfl rfl) <| st (mv rfl) <| sy rfl rfl (mv rfl) <| sy rfl rfl (aL (j:=2) U31 S3 (isR rfl) rfl rfl rfl) <| sy rfl rfl (ldI T3 (isR rfl)) <| sy rfl rfl ((eql rfl rfl).eq (congrArg Value.bool (show ((1:Int)==1)=true from rfl))) <| st (pkT rfl rfl) <| st (mv rfl) <| sy rfl rfl (mv rfl) <| sy rfl rfl (aL (j:=3) U31 S3 (isR rfl) rfl rfl rfl) <| sy rfl rfl (ldI T3 (isR rfl)) <| sy rfl rfl ((eql rfl rfl).eq (congrArg Value.bool (show ((0:Int)==0)=true from rfl))) <| st (pkT rfl rfl) <| st (mv rfl) <| sy rfl rfl (mv rfl) <| sy rfl rfl (aF U55 (isR rfl)) <| sy rfl rfl ((eql rfl rfl).eq (congrArg Value.bool (show (((([((1,3),(0,0))]:List ET).length:Nat):Int)==1)=true from rfl))) <| st (pkT rfl rfl) <| st (mv rfl) <| sy rfl rfl (mv rfl) <| sy rfl rfl (aL (j:=0) U55 S60 (isR rfl) rfl rfl rfl) <| sy rfl rfl (gK T60 (isR rfl)) <| sy rfl rfl (jA 1 3 rfl rfl) <| sy rfl rfl (a5B rfl rfl) <| st (pkT rfl rfl) <| st (mv rfl) <| sy rfl rfl (mv rfl) <| sy rfl rfl (aF cz (isR rfl)) <| sy rfl rfl ((eql rfl rfl).eq (congrArg Value.bool (show (((([S1,S2]:List BS).length:Nat):Int)==2)=true from rfl))) <| st (pkT rfl rfl) <| st (mv rfl) <| sy rfl rfl (mv rfl) <| sy rfl rfl (aL (j:=0) cz S68 (isR rfl) rfl rfl rfl) <| sy rfl rfl (ldS T68 (isR rfl)) <| sy rfl rfl (rk (e:=aj) (G:=G0) U31 I3 rfl (by decide) rfl (fun b hb=>hb.elim) (isI rfl) (isI rfl)) <| sy rfl rfl (an (A:=E (ac S1)) jY rfl (fun v w he h=>by have:=kH [(0:Int),2] v w h (by decide);rwa [hq1] at this)) ?_
 refine sy rfl rfl ((tG U68 U66 T66 (by kernel_rfl) rfl rfl).eq (congrArg Value.bool (beq_self_eq_true S1))) <| st (pkT rfl rfl) <| st (mv rfl) <| sy rfl rfl (mv rfl) <| sy rfl rfl (aL (j:=1) cz S68 (isR rfl) rfl rfl rfl) <| sy rfl rfl (ldS T68 (isR rfl)) <| sy rfl rfl (rk (e:=aj) (G:=G0) U31 I3 rfl (by decide) rfl (fun b hb=>hb.elim) (isI rfl) (isI rfl)) <| sy rfl rfl (an (A:=E (ac S2)) jY rfl (fun v w he h=>by have:=kH [(1:Int),3] v w h (by decide);rwa [hq2] at this)) ?_
 refine sy rfl rfl ((tG U68 U66 T66 (by kernel_rfl) rfl rfl).eq (congrArg Value.bool (beq_self_eq_true S2))) <| st (pkT rfl rfl) <| st (mv rfl) <| sy rfl rfl (mv rfl) <| sy rfl rfl (mv rfl) <| sy rfl rfl (aL (j:=0) cz S68 (isR rfl) rfl rfl rfl) <| sy rfl rfl (ldS T68 (isR rfl)) <| sy rfl rfl (mv rfl) <| sy rfl rfl (aL (j:=1) cz S68 (isR rfl) rfl rfl rfl) <| sy rfl rfl (ldS T68 (isR rfl)) <| sy rfl rfl (gE (A:=E (B true)) (B:=E gv) (C:=E (ac S1)) (D:=E (ac S2)) wS rfl rfl rfl (fun v u s w he k k' k''=>by cases k;cases k';cases k'';have:=a4T (ax 4) G4 gv S1 S2 w (hT.ext he) (VA.st _ _ _ _ (Ext.tr e1 he) hgv) (by omega) (by omega) (by omega) 8 8 (by omega) CL hcr hCl;rwa [hcn] at this)) ?_
 refine st (pkT rfl rfl) <| en fun a w e' hf=>?_
 obtain⟨hT,e1,e⟩:=up3 e' hT e1 e
 refine tA hf rfl fun a hf=>aa <| ai <| ap rfl hf rfl ?_
 rintro _ rfl
 exact⟨_,rfl,e,rfl⟩
end Go.Mono
namespace Go.Mono
open Go Go.Proofs Go.RowKit Go.Gr Go.Ms
theorem a5E (W:World)(hT:Tab W):Calls Tryz.prog 17 #[] W (Post (E (B true)) W):=by
 refine enter (args:=[]) (As:=([]:List VA)) Tryz.func17 rfl Tryz.ntmps17 (Nat.le_of_ble_eq_true rfl) (fun i A h=>by simp at h) (fun a hf=>?_) (Nat.le_of_ble_eq_true rfl)
 have e:=Ext.rfl' W
 refine seq <| ae <| tA hf rfl fun a hf=>aa <| seq <| rgN 1 hf <| st (gD (A:=E (B true)) wu (fun w he=>a5D w (hT.ext he))) <| en fun a w e' hf=>?_
 obtain⟨hT,e⟩:=up2 e' hT e
 refine tA hf rfl fun a hf=>aa <| ai <| ap rfl hf rfl ?_
 rintro _ rfl
 exact⟨_,rfl,e,rfl⟩
theorem oR (W:World)(hT:Tab W):Calls Tryz.prog 6 #[] W (Post (E (B true)) W):=by
 refine enter (args:=[]) (As:=([]:List VA)) Tryz.func6 rfl Tryz.ntmps6 (Nat.le_of_ble_eq_true rfl) (fun i A h=>by simp at h) (fun a hf=>?_) (Nat.le_of_ble_eq_true rfl)
 have e:=Ext.rfl' W
 refine seq <| ae <| tA hf rfl fun a hf=>aa <| seq <| rgN 1 hf <| st (gD (A:=E (B true)) vT (fun w he=>a5E w (hT.ext he))) <| en fun a w e' hf=>?_
 obtain⟨hT,e⟩:=up2 e' hT e
 refine tA hf rfl fun a hf=>aa <| ai <| ap rfl hf rfl ?_
 rintro _ rfl
 exact⟨_,rfl,e,rfl⟩
def FrV (N n:Nat)(g:GT):VA:=⟨fun u w=>∃bg bv be,u=ptr bg∧N≤bg∧N≤bv∧N≤be∧GrR w bg bv be n g,fun _ _ _ e ⟨bg,bv,be,h1,h2,h3,h4,h5⟩=>⟨bg,bv,be,h1,h2,h3,h4,h5.ext e⟩⟩
theorem a5F {G:Nat→Prop}(g:GT)(hg:Gr.Ok g)(v:Value)(W:World)(h:(Dv gtE G g).p v W)(hl1:g.1.length≤1000)(hl2:g.2.length≤1000) :
  Calls Tryz.prog 5 #[v] W (Post (FrV W.heap.size 2000 g) W):=
 Calls.mono (a1X g v W h (by omega) (by omega) (a0L hg) (a0M hg)) fun en w' ⟨e,hq⟩=>by
  obtain⟨g',k1,k2,k3⟩:=a0N hg
  rcases hq with ⟨g2,b1,b2,b3,q1,rfl,q3,q4,q5,q6⟩|⟨q1,_⟩
  ·rw[k1] at q1;cases q1
   exact⟨_,rfl,e,b1,b2,b3,rfl,q3,q4,q5,(q6.perm k2 k3).mono (by omega)⟩
  ·rw[k1] at q1;cases q1
end Go.Mono
namespace Go.Mono
open Go Go.Proofs Go.RowKit

theorem a5G {G:Nat→Prop}(t:List (Int×BS))(v:Value)(W:World)(h:(Dv bQ G t).p v W)(hl:t.length≤4096):Calls Tryz.prog 14 #[v] W (Post (E (I (lg t))) W):=by
 refine eN [v] [Dv bQ (GB W G0) t] Tryz.func14 Tryz.ntmps14 ?_ fun a hf=>?_
 rotate_left
 rotate_right
 ·exact arg1 (Dv.toB (Dv.weak h fun b _ hb=>hb.elim))
 have e:=Ext.rfl' W
 refine seq <| ae <| tA hf rfl fun a hf=>aa <| seq <| ae <| tA hf rfl fun a hf=>aa ?_
 repeat refine seq ?_
 refine rgN 3 hf <| st (mv rfl) <| st (aF U41 (isR rfl)) <| st (mv rfl) <| en fun a w e' hf=>?_
 replace e:=e.tr e'
 refine aa ?_
 obtain⟨tv,HV,hf⟩:=hf.fix 6 rfl
 replace hf:=hf.keep [3,6,7,8]
 refine blk (aJ (fun r0 a w=>∃(k:Nat),r0=t.length - k∧k≤t.length∧Fr 20 a w [(3,E (I (dN t k))),(6,E tv),(7,E (I (t.length:Nat))),(8,E (I k))]∧Ext W w∧(Dv bQ (GB W G0) t).p tv w) t.length ⟨0,rfl,by omega,hf,e,HV⟩ ?_)
 rintro r0 a w ⟨k,rfl,hk,hf,e,HV⟩
 refine seq <| rgN 1 hf <| st (lss rfl rfl) <| en fun a w e' hf=>?_
 obtain⟨HV,e⟩:=up2 e' HV e
 refine aa <| seq <| ifc hf rfl (fun hc=>ak ?_) (fun hc=>aG ?_)
 ·have hlt:k<t.length:=by have:=of_decide_eq_true hc;omega
  have hx:=fR hlt
  have hs:=ob hlt
  obtain⟨w1,w2,_,_⟩:=tJ t k hk
  have hcc:=fE (S:=(bg t k).2) (n:=1024) fun i hi=>ay hi
  refine seq <| blk <| seq <| ae <| tP hf (aL U41 S88 (isE rfl HV) rfl (by omega) (hx)) fun a w e' hf=>?_
  obtain⟨HV,e⟩:=up2 e' HV e
  refine tP hf (fS T88 (isR rfl)) fun a w e' hf=>?_
  obtain⟨HV,e⟩:=up2 e' HV e
  refine tL I88 hf fun a b5 w e' hb5 hs5 B5 hf=>?_
  have hle5:=Nat.le_trans e.size (Nat.le_of_eq hb5.symm)
  obtain⟨HV,e⟩:=up2 e' HV e
  replace hf:=hf.kp [3,5,6,7,8,11]
  haveI hinr:∀G0,InR (GB W G0) (some b5):=fun G0=>InR.gb (by omega)
  refine az T88 hf rfl rfl (ft _) B5 rfl (dw _) fun w hg hsz B5 hf=>?_
  obtain⟨HV,e⟩:=gr2 hg HV e
  refine aa ?_
  replace B5:Blk w b5 (bJ (bg t k)) 88:=B5
  refine rgN 6 hf <| st (mv rfl) <| st (fA U88 rfl T68 rfl) <| st ((ldP T68 rfl B5 (dx _)).eq (dy _)) <| st (an gY rfl (fun v w he h=>by cases h;exact ir _ w)) ?_
  refine st (sub rfl rfl (by omega)) <| st ((max2 rfl rfl).eq (congrArg I hs.symm)) <| en fun a w e' hf=>?_
  obtain⟨HV,e,B5⟩:=up3 e' HV e B5
  refine tA hf rfl fun a hf=>aa ?_
  replace hf:=hf.keep [3,6,7,8]
  refine rgN 1 hf <| st ((add rfl rfl (by omega)).eq (congrArg (Value.int .i64) (show (k:Int)+1=((k+1:Nat):Int) from rfl))) <| en fun a w e' hf=>?_
  obtain⟨HV,e,B5⟩:=up3 e' HV e B5
  refine tP hf (mv rfl) fun a w e' hf=>?_
  obtain⟨HV,e,B5⟩:=up3 e' HV e B5
  refine aa ?_
  replace hf:=hf.keep [3,6,7,8]
  exact⟨t.length - (k+1),by omega,k+1,rfl,by omega,hf,e,HV⟩
 ·obtain rfl:k=t.length:=by have:=of_decide_eq_false hc;omega
  replace hf:=hf.keep [3]
  refine seq <| rgN 1 hf <| st (mv rfl) <| en fun a w e' hf=>?_
  replace e:=e.tr e'
  refine tA hf rfl fun a hf=>aa <| ai <| ap rfl hf rfl ?_
  rintro _ rfl
  exact⟨_,rfl,e,rfl⟩

end Go.Mono
namespace Go.Ms
theorem Run.lists {adj:Nat→Nat→Prop}{n:Nat}{u:Nat→Nat}{R:Nat→Nat→Prop}{cnt:Nat→Nat→Nat}(H:Run adj n u R cnt):((List.range n).map u).Nodup∧∀v,v∈(List.range n).map u↔R 0 v:=by
 refine⟨?_,fun v=>⟨fun h=>?_,fun h=>?_⟩⟩
 ·refine List.pairwise_map.2 ((List.pairwise_lt_range (n:=n)).imp_of_mem fun {i j} hi hj hij he=>?_)
  have hj':=List.mem_range.1 hj
  exact ((H.next i (List.mem_range.1 hi) _).1 (H.sub (show i+1≤j from hij) (Nat.le_of_lt hj') (H.mem j hj'))).2 he.symm
 ·obtain⟨k,hk,rfl⟩:=List.mem_map.1 h
  have hk':=List.mem_range.1 hk
  exact H.sub (Nat.zero_le k) (Nat.le_of_lt hk') (H.mem k hk')
 ·have key:∀k,k≤n→(∃j,j<k∧v=u j)∨R k v:=by
   intro k
   induction k with
   | zero=>exact fun _=>.inr h
   | succ k ih=>
    intro hk
    rcases ih (by omega) with ⟨j,hj,e⟩|h1
    ·exact .inl ⟨j,by omega,e⟩
    ·by_cases hv:v=u k
     ·exact .inl ⟨k,by omega,hv⟩
     ·exact .inr ((H.next k (by omega) v).2 ⟨h1,hv⟩)
  obtain⟨j,hj,e⟩:=(key n (Nat.le_refl _)).resolve_right (H.all v)
  exact List.mem_map.2 ⟨j,List.mem_range.2 hj,e.symm⟩
end Go.Ms
namespace Go.Mono
open Go Go.Proofs Go.RowKit Go.Gr Go.Ms
theorem a5H {g:GT}(ok:Gr.Ok g):OrP g ((List.range (card (ah g.1))).map fun i=>mU (nbA g) (ah g.1) i).reverse:=by
 obtain⟨h1,h2⟩:=(oI (gw ok) (fun i j h=>fG ok j i (gw ok i j h))).lists
 refine⟨List.pairwise_reverse.2 (List.Pairwise.imp (fun h e=>h e.symm) h1),fun i=>?_⟩
 rw[List.mem_reverse,h2,lK]
theorem a5I (l:List Nat):(aD l).reverse=aD l.reverse:=by rw[aD,aD,List.map_reverse]
theorem OrP.low {g:GT}{l:List Nat}(h:OrP g l):twG g≤bi (nbA g) 0 l:=nP l 0 h.1 fun i=>by rw[h.2,lf]
section
variable {w0:World}{L:Env}{dst:Option Tmp}{ty:TypeId}{pos:String}{aft:Array Edge}{gd:Option (Nat×Bool)}{t yt:TypeId}{x y:Operand}
theorem a5J {g:GT}{P:Int}(hP:P=twG g)(hx:opd L x=some (LwA g))(hy:opd L y=some (E (I P))):OpC Tryz.prog w0 L ⟨dst,.binOp .gtr t x y yt,ty,pos,aft,gd⟩ (E (B false)):=
 aM fun ρ w he hv=>by
  obtain⟨m,hm,hle⟩:=hv x (by simp[Op.operands]) _ hx
  have h2:=opE hv (x:=y) (by simp[Op.operands]) hy
  refine⟨_,?_,rfl⟩
  have hb:decide (P<m)=false:=decide_eq_false (by omega)
  have hg:(eqGuard .gtr t x y (I m) (I P)).run Tryz.prog w=.ok () w:=by
   unfold eqGuard
   split <;> rfl
  have hop:binOp .gtr t (I m) (I P)=pure (B false):=by simp[binOp,Op.intCmp,hb]
  simp only[execOp,hm,h2,hg,hop,Sem.run_bind,Sem.run_pure,Result.andThen_ok]
end
theorem lawET_spec {G:Nat→Prop}(l:List DT)(v:Value)(W:World)(hT:Tab W)(h:(Dv (slE dtE) G l).p v W)(hlab:∀d∈l,0≤d.2.2.2.1∧d.2.2.2.1<256) :
  Calls Tryz.prog 3 #[v] W (Post (E (B true)) W):=by
 have hv:(Dv (slE dtE) G0 l).p v W:=Dv.weak h fun b _ hb=>hb.elim
 have hT0:=hT.lt
 have hg0:∀{w:World},∀b,G0 b→b<w.heap.size:=fun b hb=>hb.elim
 have hgO:Gr.Ok (jn l):=ny hlab 60
 have hgl:=nl l 60
 obtain⟨gg,hgg⟩:∃gg,gg=jn l:=⟨_,rfl⟩
 have hg1:gg.1.length≤60:=by rw[hgg];exact hgl.1
 have hg2:gg.2.length≤60:=by rw[hgg];exact hgl.2
 rw[← hgg] at hgO
 refine eN [v] [E v] Tryz.func3 Tryz.ntmps3 ?_ fun a hf=>?_
 rotate_left
 rotate_right
 ·exact arg1 rfl
 have e:=Ext.rfl' W
 refine seq <| ae <| tA hf rfl fun a hf=>aa ?_
 have e0:=e
 refine seq <| rgN 2 hf <| st (mv rfl) <| st (an (A:=Dv gtE G0 gg) (B:=E v) En4 rfl (fun v w he k=>by cases k;rw[hgg];exact a0s l _ w (VA.st _ _ _ _ (Ext.tr e0 he) hv) hg0)) ?_
 refine en fun a w e' hf=>?_
 obtain⟨hT,e⟩:=up2 e' hT e
 obtain⟨z,hz,hf⟩:=hf.fix 19 rfl
 obtain⟨N,hN⟩:∃N,N=w.heap.size:=⟨_,rfl⟩
 have hNW:W.heap.size≤N:=by rw[hN];exact e.size
 replace hz:(Dv gtE (fun b=>N≤b) gg).p z w:=Dv.weak hz fun b hb hn=>absurd hb (by omega)
 replace hf:=hf.kp [2,19]
 refine tL I26 hf fun a b3 w e' hb3 hs3 B3 hf=>?_
 obtain⟨hT,hz,e⟩:=up3 e' hT hz e
 obtain⟨z1,z2,rfl,hz1,hz2⟩:=Dv.gt.1 hz
 have l3:N≤b3:=by omega
 haveI hinN:InR (fun b=>N≤b) (some b3):=⟨fun b hb=>by cases hb;exact l3⟩
 refine az T26 hf rfl rfl (bY (slOne hz1) (slOne hz2)) B3 rfl rfl fun w hg hsz B3 hf=>?_
 replace e:=e.gr hg (by omega);replace hz:=Dv.gr hz hg l3;replace hT:=hT.gr hg (by omega);clear hg hz1 hz2 hN
 refine aa ?_
 replace hf:=hf.kp [2,3]
 have hz0:=hz
 refine seq <| rgN 2 hf <| st (ldW T26 rfl B3 rfl) <| st (an (A:=FrV 0 2000 gg) (B:=E (.agg #[z1,z2])) En5 rfl (fun v w he h=>by cases h;exact (a5F gg hgO _ w (VA.st _ _ _ _ he hz0) (by omega) (by omega)).mono fun en w' ⟨u,k1,k2,bg,bv,be,k3,k4,k5,k6,k7⟩=>⟨u,k1,k2,bg,bv,be,k3,Nat.zero_le _,Nat.zero_le _,Nat.zero_le _,k7⟩)) ?_
 refine en fun a w e' hf=>?_
 obtain⟨hT,hz,e,B3⟩:=up4 e' hT hz e B3
 refine tA hf rfl fun a hf=>aa ?_
 obtain⟨gv,⟨bg,bv,be,rfl,_,_,_,GK⟩,hf⟩:=hf.opn 4 rfl
 replace hf:=hf.keep [2,3,4]
 obtain⟨z1',z2',hze,hzV,hzE⟩:=Dv.gt.1 hz
 obtain⟨rfl,rfl⟩:z1=z1'∧z2=z2':=by cases hze;exact⟨rfl,rfl⟩
 have hgd:(Dv (ptE (grE 2000)) G0 (some gg)).p (ptr bg) w:=GK.dv (Nat.le_refl _) (G:=G0) id id id
 have hnil:∀n:Nat,(((n:Nat):Int)==0)=decide (n=0):=fun n=>by rw[Bool.eq_iff_iff,beq_iff_eq,decide_eq_true_eq];omega
 by_cases hl0:gg.1.length=0
 ·repeat refine seq ?_
  refine rgN 14 hf <| st (mv rfl) <| st (dX U28 (isE rfl hgd)) <| st (mv rfl) <| sy rfl rfl (fA U26 rfl T23 rfl) <| sy rfl rfl (ld1 (v:=z1) T23 rfl B3 rfl) <| sy rfl rfl (aF U23 (isE rfl hzV)) <| sy rfl rfl ((eql rfl rfl).eq (congrArg Value.bool (((hnil _).trans (decide_eq_true hl0))))) <| st (pkF rfl rfl) <| st (mv rfl) <| sn rfl rfl rfl <| sn rfl rfl rfl <| sn rfl rfl rfl <| sn rfl rfl rfl <| st (pkT rfl rfl) <| en fun a w e' hf=>?_
  obtain⟨hT,hgd,e,B3⟩:=up4 e' hT hgd e B3
  refine aa <| ifc hf rfl (fun _=>?_) (fun h=>by cases h)
  refine seq <| rgN 5 hf <| st (mv rfl) <| st (qw U28 (isE rfl hgd)) <| st (mv rfl) <| sy rfl rfl (gD (A:=E (B true)) En6 (fun w he=>oR w (hT.ext he))) <| st (pkT rfl rfl) <| en fun a w e' hf=>?_
  obtain⟨hT,hgd,e,B3⟩:=up4 e' hT hgd e B3
  refine tA hf rfl fun a hf=>aa <| ai <| ap rfl hf rfl ?_
  rintro _ rfl
  exact⟨_,rfl,e,rfl⟩
 by_cases h9:gg.1.length≤9
 rotate_left
 ·have hh00:=hT0
  repeat refine seq ?_
  refine rgN 14 hf <| st (mv rfl) <| st (dX U28 (isE rfl hgd)) <| st (mv rfl) <| sy rfl rfl (fA U26 rfl T23 rfl) <| sy rfl rfl (ld1 (v:=z1) T23 rfl B3 rfl) <| sy rfl rfl (aF U23 (isE rfl hzV)) <| sy rfl rfl ((eql rfl rfl).eq (congrArg Value.bool (((hnil _).trans (decide_eq_false hl0))))) <| st (pkF rfl rfl) <| st (mv rfl) <| sy rfl rfl (fA U26 rfl T23 rfl) <| sy rfl rfl (ld1 (v:=z1) T23 rfl B3 rfl) <| sy rfl rfl (aF U23 (isE rfl hzV)) <| sy rfl rfl ((gtr rfl rfl).eq (congrArg Value.bool ((decide_eq_true (by omega):_=true)))) <| st (pkF rfl rfl) <| en fun a w e' hf=>?_
  obtain⟨hT,hgd,e,B3⟩:=up4 e' hT hgd e B3
  refine aa <| ifc hf rfl (fun _=>?_) (fun h=>by cases h)
  refine seq <| rgN 5 hf <| st (mv rfl) <| st (qw U28 (isE rfl hgd)) <| st (mv rfl) <| sy rfl rfl (gD (A:=E (B true)) En6 (fun w he=>oR w (hT.ext he))) <| st (pkT rfl rfl) <| en fun a w e' hf=>?_
  obtain⟨hT,hgd,e,B3⟩:=up4 e' hT hgd e B3
  refine tA hf rfl fun a hf=>aa <| ai <| ap rfl hf rfl ?_
  rintro _ rfl
  exact⟨_,rfl,e,rfl⟩
 have hh00:=hT0
 repeat refine seq ?_
 refine rgN 14 hf <| st (mv rfl) <| st (dX U28 (isE rfl hgd)) <| st (mv rfl) <| sy rfl rfl (fA U26 rfl T23 rfl) <| sy rfl rfl (ld1 (v:=z1) T23 rfl B3 rfl) <| sy rfl rfl (aF U23 (isE rfl hzV)) <| sy rfl rfl ((eql rfl rfl).eq (congrArg Value.bool (((hnil _).trans (decide_eq_false hl0))))) <| st (pkF rfl rfl) <| st (mv rfl) <| sy rfl rfl (fA U26 rfl T23 rfl) <| sy rfl rfl (ld1 (v:=z1) T23 rfl B3 rfl) <| sy rfl rfl (aF U23 (isE rfl hzV)) <| sy rfl rfl ((gtr rfl rfl).eq (congrArg Value.bool ((decide_eq_false (by omega):_=false)))) <| st (pkF rfl rfl) <| en fun a w e' hf=>?_
 obtain⟨hT,hgd,e,B3⟩:=up4 e' hT hgd e B3
 refine aa <| ifc hf rfl (fun h=>by cases h) (fun _=>?_)
 refine ak ?_
 replace hf:=hf.keep [2,4]
 have hc9:card (ah gg.1)≤9:=Nat.le_trans (tE gg) h9
 have hsm:=tF hgO (show gg.1.length≤12 by omega) (all:=ah gg.1) fun i h=>h
 obtain⟨P,hP⟩:∃P,P=twG gg:=⟨_,rfl⟩
 obtain⟨lo,hlo⟩:∃lo,lo=ef gg:=⟨_,rfl⟩
 obtain⟨o1,o2,o3⟩:=oa hgO (show gg.1.length≤12 by omega)
 rw[← hlo] at o1 o2 o3
 rw[← twG,← hP] at o3
 have po:OrP gg lo:=⟨o1,o2⟩
 have plen:=po.len hgO
 have e0:=e
 refine seq <| rgN 6 hf <| st (mv rfl) <| st (an (A:=Tup [E (I P),Dv (slE aj) G0 (aD lo),E (I 0)]) (B:=E (ptr bg)) En7 rfl (fun v w he k=>by cases k;have:=a1O gg _ w (hT.ext he) (VA.st _ _ _ _ he hgd) hgO.sv hgO.se (by omega) (by omega) (by omega) hsm (by omega) (K:=G0) fun b hb=>hb.elim;rw[hP,twG,hlo];exact this)) ?_
 refine st (mv rfl) <| st (aO rfl rfl) <| st (aO rfl rfl) <| st (aO rfl rfl) <| en fun a w e' hf=>?_
 obtain⟨hT,hgd,e⟩:=up3 e' hT hgd e
 refine tA hf rfl fun a hf=>tA hf rfl fun a hf=>tA hf rfl fun a hf=>aa ?_
 replace hf:=hf.keep [2,4,5,6,7]
 obtain⟨ov,hov,hf⟩:=hf.opn 6 rfl
 replace hf:=hf.keep [2,4,5,6,7]
 refine seq <| rgN 2 hf <| st (mv rfl) <| st (an (A:=UpA gg) (B:=E (ptr bg)) En8 rfl (fun u w he k=>by cases k;exact a3N gg hgO _ w (hT.ext he) (VA.st _ _ _ _ he hgd) (by omega) (by omega) (by omega))) ?_
 refine en fun a w e' hf=>?_
 obtain⟨hT,hgd,hov,e⟩:=up4 e' hT hgd hov e
 obtain⟨t6,⟨lu,uv,pu,rfl,huv⟩,hf⟩:=hf.opn 49 rfl
 obtain⟨U,hU⟩:∃U,U=bi (nbA gg) 0 lu:=⟨_,rfl⟩
 rw[← hU] at hf
 have hPU:P≤U:=by rw[hP,hU];exact pu.low
 refine tP hf (mv rfl) fun a w e' hf=>?_
 obtain⟨hT,hgd,hov,huv,e⟩:=up5 e' hT hgd hov huv e
 refine tP hf (exE rfl rfl) fun a w e' hf=>?_
 obtain⟨hT,hgd,hov,huv,e⟩:=up5 e' hT hgd hov huv e
 refine tP hf (exE rfl rfl) fun a w e' hf=>?_
 obtain⟨hT,hgd,hov,huv,e⟩:=up5 e' hT hgd hov huv e
 refine tA hf rfl fun a hf=>tA hf rfl fun a hf=>aa ?_
 replace hf:=hf.keep [2,4,5,6,7,8,9]
 refine seq <| rgN 6 hf <| st (mv rfl) <| st (mv rfl) <| st (ar (A:=Tup [E (I U),E (I 0)]) (B:=E (ptr bg)) (C:=E uv) En9 rfl rfl (fun u1 u2 w he k1 k2=>by cases k1;cases k2;rw[hU];exact jJ gg hgO lu _ _ w (hT.ext he) (VA.st _ _ _ _ he hgd) (VA.st _ _ _ _ he huv) pu.2 pu.1 (pu.len hgO) (by omega) (by omega) (by omega))) ?_
 refine st (mv rfl) <| st (aO rfl rfl) <| st (aO rfl rfl) <| en fun a w e' hf=>?_
 obtain⟨hT,hgd,hov,huv,e⟩:=up5 e' hT hgd hov huv e
 refine tA hf rfl fun a hf=>tA hf rfl fun a hf=>aa ?_
 replace hf:=hf.keep [2,4,5,6,7,8,10,11]
 refine seq <| rgN 6 hf <| st (mv rfl) <| st (mv rfl) <| st (ar (A:=Tup [E (I P),E (I 0)]) (B:=E (ptr bg)) (C:=E ov) En9 rfl rfl (fun u1 u2 w he k1 k2=>by cases k1;cases k2;have:=jJ gg hgO lo _ _ w (hT.ext he) (VA.st _ _ _ _ he hgd) (VA.st _ _ _ _ he hov) po.2 po.1 plen (by omega) (by omega) (by omega);rwa [o3] at this)) ?_
 refine st (mv rfl) <| st (aO rfl rfl) <| st (aO rfl rfl) <| en fun a w e' hf=>?_
 obtain⟨hT,hgd,hov,e⟩:=up4 e' hT hgd hov e
 refine tA hf rfl fun a hf=>tA hf rfl fun a hf=>aa ?_
 replace hf:=hf.kp [2,4,5,6,7,8,10,11,12,13]
 obtain⟨tr,htr⟩:∃tr,tr=bN (nbA gg) lo:=⟨_,rfl⟩
 refine seq <| rgN 6 hf <| st (mv rfl) <| st (mv rfl) <| st (ar (A:=Tup [Dv (slE ck) G0 tr,E (I 0)]) (B:=E (ptr bg)) (C:=E ov) vO rfl rfl (fun u1 u2 w he k1 k2=>by cases k1;cases k2;rw[htr];exact a4n gg hgO lo _ _ w (hT.ext he) (VA.st _ _ _ _ he hgd) (VA.st _ _ _ _ he hov) po.2 po.1 plen (by omega) (by omega) (by omega) (by omega))) ?_
 refine st (mv rfl) <| st (aO rfl rfl) <| st (aO rfl rfl) <| en fun a w e' hf=>?_
 obtain⟨hT,hgd,hov,e⟩:=up4 e' hT hgd hov e
 refine tA hf rfl fun a hf=>tA hf rfl fun a hf=>aa ?_
 replace hf:=hf.kp [2,4,5,7,8,10,11,12,13,14,15]
 obtain⟨tv,htv,hf⟩:=hf.opn 14 rfl
 replace hf:=hf.keep [2,4,5,7,8,10,11,12,13,14,15]
 obtain⟨lc,hlc⟩:∃lc,lc=((List.range (card (ah gg.1))).map fun i=>mU (nbA gg) (ah gg.1) i).reverse:=⟨_,rfl⟩
 have pc:OrP gg lc:=by rw[hlc];exact a5H hgO
 obtain⟨M,hM⟩:∃M,M=bi (nbA gg) 0 lc:=⟨_,rfl⟩
 have hPM:P≤M:=by rw[hP,hM];exact pc.low
 refine seq <| rgN 7 hf <| st (mv rfl) <| st (mv rfl) <| st (an (A:=Dv (slE aj) G0 (aD lc)) (B:=E (ptr bg)) pw rfl (fun u w he k=>by cases k;have:=vf gg hgO _ w (hT.ext he) (VA.st _ _ _ _ he hgd) (by omega) (by omega) (by omega);rw[hlc,← a5I,aD,List.map_map];exact this)) ?_
 refine st (ar (A:=Tup [E (I M),E (I 0)]) (B:=E (ptr bg)) (C:=Dv (slE aj) G0 (aD lc)) En9 rfl rfl (fun u1 u2 w he k1 k2=>by cases k1;rw[hM];exact jJ gg hgO lc _ _ w (hT.ext he) (VA.st _ _ _ _ he hgd) k2 pc.2 pc.1 (pc.len hgO) (by omega) (by omega) (by omega))) ?_
 refine st (mv rfl) <| st (aO rfl rfl) <| st (aO rfl rfl) <| en fun a w e' hf=>?_
 obtain⟨hT,hgd,htv,e⟩:=up4 e' hT hgd htv e
 refine tA hf rfl fun a hf=>tA hf rfl fun a hf=>aa ?_
 replace hf:=hf.keep [2,4,5,7,8,10,11,12,13,14,15,16,17]
 have hz0:((0:Int) != 0)=false:=rfl
 repeat refine seq ?_
 refine rgN 18 hf <| st (mv rfl) <| st ((neq rfl rfl).eq (congrArg Value.bool (hz0))) <| st (mv rfl) <| sy rfl rfl (mv rfl) <| sy rfl rfl ((neq rfl rfl).eq (congrArg Value.bool (hz0))) <| st (pkF rfl rfl) <| st (mv rfl) <| sy rfl rfl (mv rfl) <| sy rfl rfl ((neq rfl rfl).eq (congrArg Value.bool (hz0))) <| st (pkF rfl rfl) <| st (mv rfl) <| sy rfl rfl (mv rfl) <| sy rfl rfl ((neq rfl rfl).eq (congrArg Value.bool (hz0))) <| st (pkF rfl rfl) <| st (mv rfl) <| sy rfl rfl (mv rfl) <| sy rfl rfl ((neq rfl rfl).eq (congrArg Value.bool (hz0))) <| st (pkF rfl rfl) <| en fun a w e' hf=>?_
 obtain⟨hT,hgd,htv,e⟩:=up4 e' hT hgd htv e
 refine aa <| ifc hf rfl (fun h=>by cases h) (fun _=>?_)
 refine ak ?_
 replace hf:=hf.kp [2,4,5,8,10,12,14,16]
 repeat refine seq ?_
 refine rgN 24 hf <| st (mv rfl) <| st (an (A:=LwA gg) (B:=E (ptr bg)) vP rfl (fun u w he k=>by cases k;exact a4k gg hgO _ w (hT.ext he) (VA.st _ _ _ _ he hgd) (by omega) (by omega) (by omega) (by omega))) ?_
 refine st (mv rfl) <| st (a5J hP rfl rfl) <| st (mv rfl) <| sy rfl rfl (mv rfl) <| sy rfl rfl (mv rfl) <| sy rfl rfl ((gtr rfl rfl).eq (congrArg Value.bool ((decide_eq_false (by omega):_=false)))) <| st (pkF rfl rfl) <| st (mv rfl) <| sy rfl rfl (mv rfl) <| sy rfl rfl (mv rfl) <| sy rfl rfl ((neq rfl rfl).eq (congrArg Value.bool ((bne_self_eq_false U:_=false)))) <| st (pkF rfl rfl) <| st (mv rfl) <| sy rfl rfl (mv rfl) <| sy rfl rfl (mv rfl) <| sy rfl rfl ((neq rfl rfl).eq (congrArg Value.bool ((bne_self_eq_false P:_=false)))) <| st (pkF rfl rfl) <| st (mv rfl) <| sy rfl rfl (mv rfl) <| sy rfl rfl (mv rfl) <| sy rfl rfl ((lss rfl rfl).eq (congrArg Value.bool ((decide_eq_false (by omega):_=false)))) <| st (pkF rfl rfl) <| en fun a w e' hf=>?_
 obtain⟨hT,hgd,htv,e⟩:=up4 e' hT hgd htv e
 refine aa <| ifc hf rfl (fun h=>by cases h) (fun _=>?_)
 refine ak ?_
 replace hf:=hf.kp [2,4,5,14]
 have htl:tr.length=lo.length:=by rw[htr,gT]
 have hcg:cgR tr tr.length gg=0:=by rw[htr];exact a3D hgO po.1 po.2 (by omega)
 have hwd:lg tr=P:=by
  rw[htr,a3G po.1 (fun x hx=>ay ((po.2 x).1 hx)) (fun i j h=>(po.2 j).2 (fG hgO i j h)),o3]
 refine seq <| rgN 13 hf <| st (gD (A:=E (B true)) En6 (fun w he=>oR w (hT.ext he))) <| st (mv rfl) <| sy rfl rfl (mv rfl) <| sy rfl rfl (mv rfl) <| sy rfl rfl (ar (A:=E (I 0)) (B:=E tv) (C:=E (ptr bg)) vQ rfl rfl (fun u1 u2 w he k1 k2=>by cases k1;cases k2;have:=a0G tr tr.length gg _ _ w (VA.st _ _ _ _ he htv) (VA.st _ _ _ _ he hgd) (by omega) (fun hr h1=>Dp.mk' (by omega) hr h1) hgO.sv hgO.se (by omega) (by omega) (by omega);rwa [hcg] at this)) ?_
 refine sy rfl rfl ((eql rfl rfl).eq (congrArg Value.bool (show ((0:Int)==0)=true from rfl))) <| st (pkT rfl rfl) <| st (mv rfl) <| sy rfl rfl (mv rfl) <| sy rfl rfl (an (A:=E (I P)) (B:=E tv) vR rfl (fun u w he k=>by cases k;have:=a5G tr _ w (VA.st _ _ _ _ he htv) (by omega);rwa [hwd] at this)) ?_
 refine sy rfl rfl (mv rfl) <| sy rfl rfl ((eql rfl rfl).eq (congrArg Value.bool ((beq_self_eq_true P:_=true)))) <| st (pkT rfl rfl) <| en fun a w e' hf=>?_
 obtain⟨hT,hgd,htv,e⟩:=up4 e' hT hgd htv e
 refine tA hf rfl fun a hf=>aa <| ai <| ap rfl hf rfl ?_
 rintro _ rfl
 exact⟨_,rfl,e,rfl⟩
end Go.Mono
