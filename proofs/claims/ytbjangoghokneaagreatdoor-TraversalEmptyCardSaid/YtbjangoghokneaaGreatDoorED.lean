/-
  Walks of functions and plain facts.
  No condition.
-/
import Derived.Test.YtbjangoghokneaaGreatDoorEC
import Derived.Test.YtbjangoghokneaaGreatDoorEB
import Derived.Test.YtbjangoghokneaaGreatDoorEA
import Derived.Test.YtbjangoghokneaaGreatDoorCards
import Derived.Test.YtbjangoghokneaaGreatDoorTie
import Derived.ProofKit
import Derived.OpenShut
import Derived.ChangeOld
import Derived.Below
import Derived.LaidLaws
import Derived.Handed
import Derived.Lib.LaidTab
import Derived.SevenTiedAt
import Derived.Shelf.SlSortCmp.NoneTotal
import Derived.Test.YtbjangoghokneaaGreatDoorProg
import Derived.ArgAppend
import Derived.Deep.Upon
import Derived.Deep.Slices
import Derived.WideKeyEntry
set_option linter.unusedVariables false
set_option linter.unusedSimpArgs false
namespace Go.Mono
open Go Go.Proofs Go.RowKit Go.Gr
def vset (l:List VT):BS:=(l.map (·.1)).foldl ins 0
theorem yr {G:Nat→Prop}{N:Nat}(g:GT)(v:Value)(W:World)(h:(Dv (ptE (grE N)) G (some g)).p v W)(hs:g.1.Pairwise fun x y=>lt1 x.1 y.1=true)(hl:g.1.length≤100000)(hN:N≤1000000) :
  Calls Tryz.prog 98 #[v] W (Post (E (ac (vset g.1))) W):=by
 have h0:(Dv (ptE (grE N)) G0 (some g)).p v W:=Dv.weak h fun b _ hb=>hb.elim
 refine eN [v] [E v] Tryz.func98 Tryz.ntmps98 ?_ fun a hf=>?_
 rotate_left
 rotate_right
 ·exact arg1 rfl
 have e:=Ext.rfl' W
 refine seq <| ab <| tL I76 hf fun a b2 w e' hb2 hs2 B2 hf=>?_
 replace e:=e.tr e'
 refine aa <| seq <| ab <| tL I76 hf fun a b3 w e' hb3 hs3 B3 hf=>?_
 obtain⟨e,B2⟩:=up2 e' e B2
 refine aa ?_
 simp only[Value.cells,dD] at B2 B3
 obtain⟨N0,hN0⟩:=eqX w.heap.size
 have l3:b3<N0:=by rw[hN0];exact B3.lt
 have hN0':N0≤w.heap.size:=Nat.le_of_eq hN0
 have e0:=e
 refine seq <| seq ?_
 refine rgN 2 hf <| st (mv rfl) <| st (ak (A:=OwA vtE 73 N0 G0 g.1) uO rfl (fun v w he k=>by cases k;exact (yq (G:=G0) g _ w (vst (e0.tr he) h0) (fun b hb=>hb.elim) hs hl hN).mono fun en w' ⟨u,k1,k2,k3⟩=>⟨u,k1,k2,OwR.low k3 (Nat.le_trans hN0' he.size) fun b hb=>hb.elim⟩)) ?_
 refine en fun a w e' hf=>?_
 obtain⟨e,B2,B3⟩:=up3 e' e B2 B3
 obtain⟨u,Ho,hf⟩:=hf.fix 7 rfl
 replace Ho:OwR vtE 73 N0 G0 w g.1 u:=Ho
 obtain⟨NV,hNV⟩:∃NV:Nat→Prop,NV=fun b=>u.ownBlock≠some b:=⟨_,rfl⟩
 have HD:(Dv (slE vtE) NV g.1).p u w:=Ho.slN fun b hb=>by rw[hNV];exact fun h=>h hb
 obtain⟨N5,hN5⟩:=eqX w.heap.size
 have nV:∀bb,(bb<N0∨N5≤bb)→NV bb:=fun bb hb=>by rw[hNV];intro h;have h3:=Ho.lt h;omega
 have hN5s:N5≤w.heap.size:=Nat.le_of_eq hN5
 have hNN:N0≤N5:=by rw[hN5];exact Ho.base
 refine tP hf (aB U66 (isE rfl HD)) fun a w e' hf=>?_
 obtain⟨HD,hN5s,e,B2,B3⟩:=up5 e' HD hN5s e B2 B3
 refine tP hf (mv rfl) fun a w e' hf=>?_
 obtain⟨HD,hN5s,e,B2,B3⟩:=up5 e' HD hN5s e B2 B3
 refine aa ?_
 replace hf:=hf.keep [2,3,7,8,9]
 refine blk (aF (fun r0 a w=>∃(k:Nat) ,r0=g.1.length - k∧k≤g.1.length∧Fr 19 a w [(2,E (.pointer (some ⟨b2,0,none⟩))),(3,E (.pointer (some ⟨b3,0,none⟩))),(7,E u),(8,E (I (g.1.length:Nat))),(9,E (I k))]∧Ext W w∧Blk w b2 (aJ 0) 76∧Blk w b3 (aJ (((g.1.take k).map (·.1)).foldl ins 0)) 76∧(Dv (slE vtE) NV g.1).p u w∧N5≤w.heap.size) g.1.length ⟨0,rfl,by omega,hf,e,⟨B2,B3,HD,hN5s⟩⟩ ?_)
 rintro r0 a w ⟨k,rfl,hk,hf,e,B2,B3,HD,hN5s⟩
 refine seq <| rgN 1 hf <| st (lss rfl rfl) <| en fun a w e' hf=>?_
 obtain⟨HD,hN5s,e,B2,B3⟩:=up5 e' HD hN5s e B2 B3
 refine aa <| seq <| ifc hf rfl (fun hc=>ah ?_) (fun hc=>aC ?_)
 rotate_left
 rotate_left
 ·have hlt:=ltC hc
  replace hf:=hf.keep [2,3,7,8,9]
  refine seq <| blk ?_
  have hg:=List.getElem?_eq_getElem hlt
  generalize g.1[k]=y at hg
  have hS:((g.1.take (k+1)).map (·.1)).foldl ins 0=ins (((g.1.take k).map (·.1)).foldl ins 0) y.1:=by rw[bs hg,List.map_append,List.foldl_append];rfl
  obtain⟨S,hS0⟩:=eqX (((g.1.take k).map (·.1)).foldl ins 0)
  rw[← hS0] at B3 hS
  refine seq <| ab <| tP hf (aD U66 S73 (isE rfl HD) rfl (by omega) (hg)) fun a w e' hf=>?_
  obtain⟨HD,hN5s,e,B2,B3⟩:=up5 e' HD hN5s e B2 B3
  refine tP hf (fV T73 (isR rfl)) fun a w e' hf=>?_
  obtain⟨HD,hN5s,e,B2,B3⟩:=up5 e' HD hN5s e B2 B3
  refine tL I73 hf fun a b5 w e' hb5 hs5 B5 hf=>?_
  obtain⟨HD,hN5s,e,B2,B3⟩:=up5 e' HD hN5s e B2 B3
  replace hf:=hf.kp [2,3,5,7,8,9,12]
  refine az T73 hf rfl rfl (lI y) B5 rfl rfl fun w hg' hsz B5 hf=>?_
  replace e:=e.gr hg' (by omega);replace B2:=B2.gr hg' (by omega);replace B3:=B3.gr hg' (by omega);replace HD:=Dv.grN HD hg' (fun bb hb=>nV bb (by cases hb;omega));replace hN5s:=Nat.le_trans hN5s hg'.size;clear hg'
  refine aa ?_
  replace hf:=hf.keep [2,3,5,7,8,9]
  refine rgN 4 hf <| st ((ldW T76 rfl B3 rfl).eq ((rfl:_=ac S))) <| st (fA U73 rfl T3 rfl) <| st (ld1 T3 rfl B5 rfl) <| st (aw (A:=E (ac (ins S y.1))) jl rfl rfl (fun v u w he h h'=>by cases h;cases h';exact jq S y.1 w)) ?_
  refine en fun a w e' hf=>?_
  obtain⟨HD,hN5s,e,B2,B3,B5⟩:=up6 e' HD hN5s e B2 B3 B5
  replace hf:=hf.kp [2,3,7,8,9,16]
  refine az T76 hf rfl rfl (bj _) B3 rfl (bh _) fun w hg' hsz B3 hf=>?_
  replace e:=e.gr hg' (by omega);replace B2:=B2.gr hg' (by omega);replace HD:=Dv.grN HD hg' (fun bb hb=>nV bb (by cases hb;omega));replace hN5s:=Nat.le_trans hN5s hg'.size;clear hg' B5
  refine aa <| rgN 1 hf <| st ((add rfl rfl (by omega)).eq (iN k)) <| en fun a w e' hf=>?_
  obtain⟨HD,hN5s,e,B2,B3⟩:=up5 e' HD hN5s e B2 B3
  refine tP hf (mv rfl) fun a w e' hf=>?_
  obtain⟨HD,hN5s,e,B2,B3⟩:=up5 e' HD hN5s e B2 B3
  refine aa ?_
  replace hf:=hf.keep [2,3,7,8,9]
  refine⟨_,?_,k+1,rfl,by omega,hf,e,?_⟩
  ·omega
  rw[hS]
  exact⟨B2,B3,HD,hN5s⟩
 ·obtain rfl:=dnE hc hk
  rw[List.take_length] at B3
  replace hf:=hf.kp [2,3]
  refine seq <| rgN 1 hf <| st ((ldW T76 rfl B3 rfl).eq ((rfl:_=ac (vset g.1)))) <| en fun a w e' hf=>?_
  obtain⟨HD,hN5s,e,B2,B3⟩:=up5 e' HD hN5s e B2 B3
  haveI hinr:∀G0,InR (GB W G0) (some b2):=fun G0=>InR.gb (by omega)
  refine az T76 hf rfl rfl (bj _) B2 rfl (rfl) fun w hg hsz B2 hf=>?_
  replace HD:=Dv.grN HD hg (fun bb hb=>nV bb (by cases hb;omega))
  obtain⟨hN5s,e,B3⟩:=gr3 hg hN5s e B3
  refine aa <| ai (dP rfl T76 hf rfl B2 (bh _) ?_)
  exact⟨_,rfl,e,rfl⟩

theorem yu {xs ys:List Int}{k:Nat}(h:xs.take k=ys.take k)(hk:k<xs.length)(hk':k<ys.length):(xs.take (k+1)=ys.take (k+1))↔gi xs k=gi ys k:=by
 rw[bs (cA hk),bs (cA hk'),h]
 simp
def nbI (id:Int)(S:BS)(x:ET):BS:=if id=x.1.1 then ins S x.1.2 else if id=x.1.2 then ins S x.1.1 else S
def nbG (E:List ET)(id:Int):BS:=E.foldl (nbI id) 0
theorem yv {G:Nat→Prop}{N:Nat}(g:GT)(id:Int)(v:Value)(W:World)(h:(Dv (ptE (grE N)) G (some g)).p v W)(hs:g.2.Pairwise fun x y=>lt2 x.1 y.1=true)(hl:g.2.length≤100000)(hN:N≤1000000) :
  Calls Tryz.prog 99 #[v,I id] W (Post (E (ac (nbG g.2 id))) W):=by
 have h0:(Dv (ptE (grE N)) G0 (some g)).p v W:=Dv.weak h fun b _ hb=>hb.elim
 refine eN [v,I id] [E v,E (I id)] Tryz.func99 Tryz.ntmps99 ?_ fun a hf=>?_
 rotate_left
 rotate_right
 ·exact arg2 rfl rfl
 have e:=Ext.rfl' W
 refine seq <| ab <| tL I76 hf fun a b4 w e' hb4 hs4 B4 hf=>?_
 replace e:=e.tr e'
 refine aa <| seq <| ab <| tL I76 hf fun a b5 w e' hb5 hs5 B5 hf=>?_
 obtain⟨e,B4⟩:=up2 e' e B4
 refine aa ?_
 simp only[Value.cells,dD] at B4 B5
 obtain⟨N0,hN0⟩:=eqX w.heap.size
 have l5:b5<N0:=by rw[hN0];exact B5.lt
 have hN0':N0≤w.heap.size:=Nat.le_of_eq hN0
 have e0:=e
 refine seq <| seq ?_
 refine rgN 2 hf <| st (mv rfl) <| st (ak (A:=OwA etE 62 N0 G0 g.2) oC rfl (fun v w he k=>by cases k;exact (qs (G:=G0) g _ w (vst (e0.tr he) h0) (fun b hb=>hb.elim) hs hl hN).mono fun en w' ⟨u,k1,k2,k3⟩=>⟨u,k1,k2,OwR.low k3 (Nat.le_trans hN0' he.size) fun b hb=>hb.elim⟩)) ?_
 refine en fun a w e' hf=>?_
 obtain⟨e,B4,B5⟩:=up3 e' e B4 B5
 obtain⟨u,Ho,hf⟩:=hf.fix 9 rfl
 replace Ho:OwR etE 62 N0 G0 w g.2 u:=Ho
 obtain⟨NV,hNV⟩:∃NV:Nat→Prop,NV=fun b=>u.ownBlock≠some b:=⟨_,rfl⟩
 have HD:(Dv (slE etE) NV g.2).p u w:=Ho.slN fun b hb=>by rw[hNV];exact fun h=>h hb
 obtain⟨N5,hN5⟩:=eqX w.heap.size
 have nV:∀bb,(bb<N0∨N5≤bb)→NV bb:=fun bb hb=>by rw[hNV];intro h;have h3:=Ho.lt h;omega
 have hN5s:N5≤w.heap.size:=Nat.le_of_eq hN5
 have hNN:N0≤N5:=by rw[hN5];exact Ho.base
 refine tP hf (aB U61 (isE rfl HD)) fun a w e' hf=>?_
 obtain⟨HD,hN5s,e,B4,B5⟩:=up5 e' HD hN5s e B4 B5
 refine tP hf (mv rfl) fun a w e' hf=>?_
 obtain⟨HD,hN5s,e,B4,B5⟩:=up5 e' HD hN5s e B4 B5
 refine aa ?_
 replace hf:=hf.keep [1,4,5,9,10,11]
 refine blk (aF (fun r0 a w=>∃(k:Nat) ,r0=g.2.length - k∧k≤g.2.length∧Fr 34 a w [(1,E (I id)),(4,E (.pointer (some ⟨b4,0,none⟩))),(5,E (.pointer (some ⟨b5,0,none⟩))),(9,E u),(10,E (I (g.2.length:Nat))),(11,E (I k))]∧Ext W w∧Blk w b4 (aJ 0) 76∧Blk w b5 (aJ (nbG (g.2.take k) id)) 76∧(Dv (slE etE) NV g.2).p u w∧N5≤w.heap.size) g.2.length ⟨0,rfl,by omega,hf,e,⟨B4,B5,HD,hN5s⟩⟩ ?_)
 rintro r0 a w ⟨k,rfl,hk,hf,e,B4,B5,HD,hN5s⟩
 refine seq <| rgN 1 hf <| st (lss rfl rfl) <| en fun a w e' hf=>?_
 obtain⟨HD,hN5s,e,B4,B5⟩:=up5 e' HD hN5s e B4 B5
 refine aa <| seq <| ifc hf rfl (fun hc=>ah ?_) (fun hc=>aC ?_)
 rotate_left
 rotate_left
 ·have hlt:=ltC hc
  replace hf:=hf.keep [1,4,5,9,10,11]
  refine seq <| blk ?_
  have hg:=List.getElem?_eq_getElem hlt
  generalize g.2[k]=y at hg
  have hS:nbG (g.2.take (k+1)) id=nbI id (nbG (g.2.take k) id) y:=by rw[nbG,bs hg,List.foldl_append];rfl
  obtain⟨S,hS0⟩:=eqX (nbG (g.2.take k) id)
  rw[← hS0] at B5 hS
  refine seq <| ab <| tP hf (aD U61 S62 (isE rfl HD) rfl (by omega) (hg)) fun a w e' hf=>?_
  obtain⟨HD,hN5s,e,B4,B5⟩:=up5 e' HD hN5s e B4 B5
  refine tP hf (ft T62 (isR rfl)) fun a w e' hf=>?_
  obtain⟨HD,hN5s,e,B4,B5⟩:=up5 e' HD hN5s e B4 B5
  refine tL I62 hf fun a b7 w e' hb7 hs7 B7 hf=>?_
  obtain⟨HD,hN5s,e,B4,B5⟩:=up5 e' HD hN5s e B4 B5
  replace hf:=hf.kp [1,4,5,7,9,10,11,14]
  refine az T62 hf rfl rfl (jt y) B7 rfl rfl fun w hg' hsz B7 hf=>?_
  replace e:=e.gr hg' (by omega);replace B4:=B4.gr hg' (by omega);replace B5:=B5.gr hg' (by omega);replace HD:=Dv.grN HD hg' (fun bb hb=>nV bb (by cases hb;omega));replace hN5s:=Nat.le_trans hN5s hg'.size;clear hg'
  refine aa ?_
  replace hf:=hf.kp [1,4,5,7,9,10,11]
  refine seq <| rgN 1 hf <| st (mv rfl) <| en fun a w e' hf=>?_
  obtain⟨HD,hN5s,e,B4,B5,B7⟩:=up6 e' HD hN5s e B4 B5 B7
  refine aa <| blk ?_
  by_cases h1:id=y.1.1
  ·have hS':nbI id S y=ins S y.1.2:=by rw[nbI,if_pos h1]
   rw[hS'] at hS
   refine seq <| rgN 3 hf <| st (fA U62 rfl T3 rfl) <| st (ld1 T3 rfl B7 rfl) <| st ((eql rfl rfl).eq (congrArg Value.bool (decide_eq_true h1))) <| en fun a w e' hf=>?_
   obtain⟨HD,hN5s,e,B4,B5,B7⟩:=up6 e' HD hN5s e B4 B5 B7
   refine tA hf rfl fun a hf=>aa <| ifT hf rfl ?_
   refine rgN 4 hf <| st ((ldW T76 rfl B5 rfl).eq ((rfl:_=ac S))) <| st (fA U62 rfl T3 rfl) <| st (ld1 T3 rfl B7 rfl) <| st (aw (A:=E (ac (ins S y.1.2))) jl rfl rfl (fun v u w he h h'=>by cases h;cases h';exact jq S y.1.2 w)) ?_
   refine en fun a w e' hf=>?_
   obtain⟨HD,hN5s,e,B4,B5,B7⟩:=up6 e' HD hN5s e B4 B5 B7
   replace hf:=hf.kp [1,4,5,9,10,11,23]
   refine az T76 hf rfl rfl (bj _) B5 rfl (bh _) fun w hg' hsz B5 hf=>?_
   replace e:=e.gr hg' (by omega);replace B4:=B4.gr hg' (by omega);replace HD:=Dv.grN HD hg' (fun bb hb=>nV bb (by cases hb;omega));replace hN5s:=Nat.le_trans hN5s hg'.size;clear hg' B7
   refine aa <| rgN 1 hf <| st ((add rfl rfl (by omega)).eq (iN k)) <| en fun a w e' hf=>?_
   obtain⟨HD,hN5s,e,B4,B5⟩:=up5 e' HD hN5s e B4 B5
   refine tP hf (mv rfl) fun a w e' hf=>?_
   obtain⟨HD,hN5s,e,B4,B5⟩:=up5 e' HD hN5s e B4 B5
   refine aa ?_
   replace hf:=hf.kp [1,4,5,9,10,11]
   refine⟨_,?_,k+1,rfl,by omega,hf,e,?_⟩
   ·omega
   rw[hS]
   exact⟨B4,B5,HD,hN5s⟩
  by_cases h2:id=y.1.2
  ·have hS':nbI id S y=ins S y.1.1:=by rw[nbI,if_neg h1,if_pos h2]
   rw[hS'] at hS
   refine seq <| rgN 3 hf <| st (fA U62 rfl T3 rfl) <| st (ld1 T3 rfl B7 rfl) <| st ((eql rfl rfl).eq (congrArg Value.bool (decide_eq_false h1))) <| en fun a w e' hf=>?_
   obtain⟨HD,hN5s,e,B4,B5,B7⟩:=up6 e' HD hN5s e B4 B5 B7
   refine tA hf rfl fun a hf=>aa <| ifF hf rfl ?_
   refine seq <| rgN 3 hf <| st (fA U62 rfl T3 rfl) <| st (ld1 T3 rfl B7 rfl) <| st ((eql rfl rfl).eq (congrArg Value.bool (decide_eq_true h2))) <| en fun a w e' hf=>?_
   obtain⟨HD,hN5s,e,B4,B5,B7⟩:=up6 e' HD hN5s e B4 B5 B7
   refine tA hf rfl fun a hf=>aa <| ifT hf rfl ?_
   refine rgN 4 hf <| st ((ldW T76 rfl B5 rfl).eq ((rfl:_=ac S))) <| st (fA U62 rfl T3 rfl) <| st (ld1 T3 rfl B7 rfl) <| st (aw (A:=E (ac (ins S y.1.1))) jl rfl rfl (fun v u w he h h'=>by cases h;cases h';exact jq S y.1.1 w)) ?_
   refine en fun a w e' hf=>?_
   obtain⟨HD,hN5s,e,B4,B5,B7⟩:=up6 e' HD hN5s e B4 B5 B7
   replace hf:=hf.kp [1,4,5,9,10,11,31]
   refine az T76 hf rfl rfl (bj _) B5 rfl (bh _) fun w hg' hsz B5 hf=>?_
   replace e:=e.gr hg' (by omega);replace B4:=B4.gr hg' (by omega);replace HD:=Dv.grN HD hg' (fun bb hb=>nV bb (by cases hb;omega));replace hN5s:=Nat.le_trans hN5s hg'.size;clear hg' B7
   refine aa <| rgN 1 hf <| st ((add rfl rfl (by omega)).eq (iN k)) <| en fun a w e' hf=>?_
   obtain⟨HD,hN5s,e,B4,B5⟩:=up5 e' HD hN5s e B4 B5
   refine tP hf (mv rfl) fun a w e' hf=>?_
   obtain⟨HD,hN5s,e,B4,B5⟩:=up5 e' HD hN5s e B4 B5
   refine aa ?_
   replace hf:=hf.keep [1,4,5,9,10,11]
   refine⟨_,?_,k+1,rfl,by omega,hf,e,?_⟩
   ·omega
   rw[hS]
   exact⟨B4,B5,HD,hN5s⟩
  ·have hS':nbI id S y=S:=by rw[nbI,if_neg h1,if_neg h2]
   rw[hS'] at hS
   refine seq <| rgN 3 hf <| st (fA U62 rfl T3 rfl) <| st (ld1 T3 rfl B7 rfl) <| st ((eql rfl rfl).eq (congrArg Value.bool (decide_eq_false h1))) <| en fun a w e' hf=>?_
   obtain⟨HD,hN5s,e,B4,B5,B7⟩:=up6 e' HD hN5s e B4 B5 B7
   refine tA hf rfl fun a hf=>aa <| ifF hf rfl ?_
   refine seq <| rgN 3 hf <| st (fA U62 rfl T3 rfl) <| st (ld1 T3 rfl B7 rfl) <| st ((eql rfl rfl).eq (congrArg Value.bool (decide_eq_false h2))) <| en fun a w e' hf=>?_
   obtain⟨HD,hN5s,e,B4,B5,B7⟩:=up6 e' HD hN5s e B4 B5 B7
   refine tA hf rfl fun a hf=>aa <| ifF hf rfl ?_
   refine ah <| rgN 1 hf <| st ((add rfl rfl (by omega)).eq (iN k)) <| en fun a w e' hf=>?_
   obtain⟨HD,hN5s,e,B4,B5⟩:=up5 e' HD hN5s e B4 B5
   refine tP hf (mv rfl) fun a w e' hf=>?_
   obtain⟨HD,hN5s,e,B4,B5⟩:=up5 e' HD hN5s e B4 B5
   refine aa ?_
   replace hf:=hf.kp [1,4,5,9,10,11]
   refine⟨_,?_,k+1,rfl,by omega,hf,e,?_⟩
   ·omega
   rw[hS]
   exact⟨B4,B5,HD,hN5s⟩
 ·obtain rfl:=dnE hc hk
  rw[List.take_length] at B5
  replace hf:=hf.kp [4,5]
  refine seq <| rgN 1 hf <| st ((ldW T76 rfl B5 rfl).eq ((rfl:_=ac (nbG g.2 id)))) <| en fun a w e' hf=>?_
  obtain⟨HD,hN5s,e,B4,B5⟩:=up5 e' HD hN5s e B4 B5
  haveI hinr:∀G0,InR (GB W G0) (some b4):=fun G0=>InR.gb (by omega)
  refine az T76 hf rfl rfl (bj _) B4 rfl (rfl) fun w hg hsz B4 hf=>?_
  replace HD:=Dv.grN HD hg (fun bb hb=>nV bb (by cases hb;omega))
  obtain⟨hN5s,e,B5⟩:=gr3 hg hN5s e B5
  refine aa <| ai (dP rfl T76 hf rfl B4 (bh _) ?_)
  exact⟨_,rfl,e,rfl⟩
def nbL (g:GT)(s:List Nat):List (Int×BS):=s.map fun n:Nat=>((n:Int),nbG g.2 (n:Int))
theorem yw {g:GT}{s:List Nat}{x:Nat}(hx:x ∉ s):(aT (nbL g s) (x:Int) (nbG g.2 x)).Perm (nbL g (s++[x])):=by
 have hf:(nbL g s).filter (fun p => !decide (p.1=(x:Int)))=nbL g s:=by
  rw[List.filter_eq_self]
  intro p hp
  obtain⟨n,hn,rfl⟩:=List.mem_map.1 hp
  have:n≠x:=fun e=>hx (by rw[← e];exact hn)
  simp;omega
 rw[aT,hf,nbL,nbL,List.map_append]
 exact List.perm_append_comm (l₁:=[((x:Int),nbG g.2 x)])
end Go.Mono
namespace Go.Mono
open Go Go.Proofs Go.RowKit Go.Gr

theorem OwR.neDs {α:Type}{e:Enc α}{ty:TypeId}{B:Nat}{G:Nat→Prop}{w:World}{xs:List α}{u:Value}(h:OwR e ty B G w xs u){D:List Nat}(hD:Ds D w){d:Nat}(hd:d∈D):u.ownBlock≠some d:=fun hu=>by
 obtain⟨cs,h1,_⟩:=h.own
 rcases h1.2 with ⟨rfl,_⟩|⟨g',cap,cur,rfl,_,hg,_⟩
 ·simp[Value.ownBlock] at hu
 ·simp only[Value.ownBlock,Option.some.injEq] at hu
  subst hu
  exact hD.ne (show Blk w g' cur ty from hg) hd
theorem Chg.row {w w':World}{row:Option Nat}(hg:w.grownBy w' row):Chg (fun b=>row=some b) w w':=⟨hg.os,hg.tape,hg.output,hg.size,fun b hb hn=>hg.block b hb fun he=>hn he.symm⟩
section
variable {W:World}{N:Nat}{l0:List (Int×BS)}{all:BS}{wd:Int}{b1 b2 b3 b4 bm:Nat}{nv:Value}{b6 b7 b8 b9:Nat}{nv6:Value}{w w':World}
end
def nbA (g:GT):Int→BS:=lkS (nbL g (aj (vset g.1)))
end Go.Mono
namespace Go.Mono
open Go Go.Proofs Go.RowKit Go.Gr
theorem yx {G:Nat→Prop}(V:List VT)(E':List ET)(g:GT)(hb:∃g',dX V E'=some g'∧g'.1.Perm g.1∧g'.2.Perm g.2)(hV:∀x∈V,okD (dV x))(hE:∀x∈E',okD (dE x))(v u:Value)(W:World)(h1:(Dv (slE vtE) G V).p v W)(h2:(Dv (slE etE) G E').p u W)(hl1:V.length≤1000)(hl2:E'.length≤1000){K:Nat→Prop}(hK:∀b,K b→b<W.heap.size) :
  Calls Tryz.prog 40 #[v,u] W (Post (Tup [Dv (ptE (grE 2000)) K (some g),E (I 0)]) W):=
 Calls.mono (pH V E' v u W h1 h2 (by omega) (by omega) hV hE) fun en w' ⟨e,hq⟩=>by
  obtain⟨g',k1,k2,k3⟩:=hb
  rcases hq with ⟨g2,b1,b2,b3,q1,rfl,q3,q4,q5,q6⟩|⟨c,q0,q1,_⟩
  ·rw[k1] at q1;cases q1
   exact⟨_,rfl,e,Tup.two ((q6.perm k2 k3).dv (by omega) (fun h=>by have:=hK _ h;omega) (fun h=>by have:=hK _ h;omega) (fun h=>by have:=hK _ h;omega)) rfl⟩
  ·rw[k1] at q1;cases q1
theorem bV1 (i:Int):Tryz.prog.built 73 [(0,.int .i64 i)]=some #[.int .i64 i,.int .u8 0,.int .i64 0]:=by kernel_rfl
theorem bE2 (i j:Int):Tryz.prog.built 62 [(0,.int .i64 i),(1,.int .i64 j)]=some #[.int .i64 i,.int .i64 j,.int .u8 0,.int .i64 0]:=by kernel_rfl
theorem yy {w0:World}{L:Env}{dst:Option Tmp}{ty:TypeId}{pos:String}{aft:Array Edge}{g:Option (Nat×Bool)}{x:Operand}(i:Int)(h:opd L x=some (E (I i))):OpC Tryz.prog w0 L ⟨dst,.build 73 #[(0,x)],ty,pos,aft,g⟩ (E (vtV (i,(0,0)))):=
 bB [(0,_)] (by simp only[List.map_cons,List.map_nil,h]) (bV1 i)
theorem iy {w0:World}{L:Env}{dst:Option Tmp}{ty:TypeId}{pos:String}{aft:Array Edge}{g:Option (Nat×Bool)}{x y:Operand}(i j:Int)(h:opd L x=some (E (I i)))(h':opd L y=some (E (I j))):OpC Tryz.prog w0 L ⟨dst,.build 62 #[(0,x),(1,y)],ty,pos,aft,g⟩ (E (etV ((i,j),(0,0)))):=
 bB [(0,_),(1,_)] (by simp only[List.map_cons,List.map_nil,h,h']) (bE2 i j)
theorem lU {g:GT}{i:Nat}(G:Gr.Ok g):(vset g.1).getLsbD i=true↔∃x∈g.1,x.1=(i:Int):=by
 by_cases hi:i<1024
 ·rw[vset,oO i hi,Bool.or_eq_true,decide_eq_true_eq,List.mem_map]
  exact⟨fun h=>h.elim (fun h=>absurd h (bF i)) id,.inr⟩
 ·constructor
  ·intro h;exact absurd (aK h) hi
  ·rintro⟨x,hx,h⟩
   have:=gn (G.rv x hx).1
   omega
theorem gq {g:GT}{i:Nat}(G:Gr.Ok g):(vset g.1).getLsbD i=true↔inV g.1 (i:Int)=true:=by
 rw[lU G,inV,List.any_eq_true]
 exact⟨fun⟨x,h1,h2⟩=>⟨x,h1,by simpa using h2⟩,fun⟨x,h1,h2⟩=>⟨x,h1,by simpa using h2⟩⟩
def Adj (g:GT)(i j:Nat):Prop:=∃x∈g.2,x.1=((i:Int),(j:Int))∨x.1=((j:Int),(i:Int))
theorem Adj.symm {g:GT}{i j:Nat}(h:Adj g i j):Adj g j i:=by obtain⟨x,h1,h2⟩:=h;exact⟨x,h1,h2.symm⟩
theorem Adj.inn {g:GT}{i j:Nat}(G:Gr.Ok g)(h:Adj g i j):(vset g.1).getLsbD i=true∧(vset g.1).getLsbD j=true∧i≠j:=by
 obtain⟨x,h1,h2⟩:=h
 obtain⟨q1,q2,q3,_⟩:=G.re x h1
 rcases h2 with h2|h2 <;> rw[h2] at q1 q2 q3 <;> dsimp only at q1 q2 q3
 ·exact⟨(gq G).2 q2,(gq G).2 q3,by omega⟩
 ·exact⟨(gq G).2 q3,(gq G).2 q2,by omega⟩
theorem qt {E:List ET}(h:∀x∈E,x.1.1<x.1.2∧(0≤x.1.1∧x.1.1<1024)∧(0≤x.1.2∧x.1.2<1024))(i j:Nat):(nbG E (i:Int)).getLsbD j=true↔∃x∈E,x.1=((i:Int),(j:Int))∨x.1=((j:Int),(i:Int)):=by
 have key:∀(E:List ET) (S:BS),(∀x∈E,x.1.1<x.1.2∧(0≤x.1.1∧x.1.1<1024)∧(0≤x.1.2∧x.1.2<1024))→((E.foldl (nbI (i:Int)) S).getLsbD j=true↔S.getLsbD j=true∨∃x∈E,x.1=((i:Int),(j:Int))∨x.1=((j:Int),(i:Int))):=by
  intro E
  induction E with
  | nil=>intro S _;simp
  | cons x E ih=>
   intro S hE
   rw[List.foldl_cons,ih _ fun y hy=>hE y (by simp[hy])]
   obtain⟨⟨p,q⟩,c⟩:=x
   obtain⟨h1,h2,h3⟩:=hE _ (List.mem_cons_self)
   dsimp only at h1 h2 h3
   obtain⟨p',rfl⟩:=Int.eq_ofNat_of_zero_le h2.1
   obtain⟨q',rfl⟩:=Int.eq_ofNat_of_zero_le h3.1
   have hn:(nbI (i:Int) S (((p':Int),(q':Int)),c)).getLsbD j=true↔S.getLsbD j=true∨(i=p'∧j=q')∨(i=q'∧j=p'):=by
    unfold nbI
    by_cases e1:(i:Int)=(p':Int)
    ·rw[if_pos e1,de S (by omega)]
     constructor
     ·rintro (h|h)
      ·exact .inl h
      ·exact .inr (.inl ⟨by omega,h⟩)
     ·rintro (h|h|h)
      ·exact .inl h
      ·exact .inr h.2
      ·omega
    ·rw[if_neg e1]
     by_cases e2:(i:Int)=(q':Int)
     ·rw[if_pos e2,de S (by omega)]
      constructor
      ·rintro (h|h)
       ·exact .inl h
       ·exact .inr (.inr ⟨by omega,h⟩)
      ·rintro (h|h|h)
       ·exact .inl h
       ·omega
       ·exact .inr h.2
     ·rw[if_neg e2]
      constructor
      ·exact .inl
      ·rintro (h|h|h)
       ·exact h
       ·omega
       ·omega
   rw[hn]
   simp only[List.mem_cons,exists_eq_or_imp,Prod.mk.injEq,Int.ofNat_eq_natCast]
   constructor
   ·rintro ((h|h)|h)
    ·exact .inl h
    ·exact .inr (.inl (by omega))
    ·exact .inr (.inr h)
   ·rintro (h|h|h)
    ·exact .inl (.inl h)
    ·exact .inl (.inr (by omega))
    ·exact .inr h
 rw[nbG,key E 0 h]
 exact⟨fun h=>h.elim (fun h=>absurd h (bF j)) id,.inr⟩
theorem qu {g:GT}(G:Gr.Ok g):∀x∈g.2,x.1.1<x.1.2∧(0≤x.1.1∧x.1.1<1024)∧(0≤x.1.2∧x.1.2<1024):=fun x hx=>by
 obtain⟨h1,h2,h3,_⟩:=G.re x hx
 exact⟨h1,jw G h2,jw G h3⟩
theorem yz {g:GT}{i:Nat}:nbA g (i:Int)=if (vset g.1).getLsbD i=true then nbG g.2 (i:Int) else 0:=by
 have hl:∀(s:List Nat),lkS (nbL g s) (i:Int)=if i∈s then nbG g.2 (i:Int) else 0:=by
  intro s
  induction s with
  | nil=>rfl
  | cons a s ih=>
   rw[lkS,nbL,List.map_cons,List.find?_cons] at *
   by_cases ha:a=i
   ·subst ha;simp
   ·have h1:decide (((a:Int),nbG g.2 (a:Int)).1=(i:Int))=false:=decide_eq_false fun h=>ha (by dsimp only at h;omega)
    rw[h1]
    have h2:(i∈a::s)↔i∈s:=by rw[List.mem_cons];exact⟨fun h=>h.elim (fun h=>absurd h.symm ha) id,.inr⟩
    simp only[h2]
    exact ih
 rw[nbA,hl]
 by_cases h:(vset g.1).getLsbD i=true
 ·rw[if_pos h,if_pos (aL.2 ⟨aK h,h⟩)]
 ·rw[if_neg h,if_neg fun hh=>h (aL.1 hh).2]
theorem dx {g:GT}(G:Gr.Ok g){i j:Nat}:(nbA g (i:Int)).getLsbD j=true↔Adj g i j:=by
 rw[yz]
 constructor
 ·intro h
  split at h
  ·exact (qt (qu G) i j).1 h
  ·exact absurd h (bF j)
 ·intro h
  rw[if_pos (h.inn G).1]
  exact (qt (qu G) i j).2 h
def qw (g:GT):Bool:=decide (g.1.Pairwise fun x y=>lt1 x.1 y.1=true)&&decide (g.2.Pairwise fun x y=>lt2 x.1 y.1=true)&&g.1.all (fun x=>dp x.1&&decide (0≤x.2.1∧x.2.1<256) && !Gr.heavy x.2.2) &&
 g.2.all (fun x=>decide (x.1.1<x.1.2)&&inV g.1 x.1.1&&inV g.1 x.1.2&&decide (0≤x.2.1∧x.2.1<256) && !Gr.heavy x.2.2)&&decide (g.2.length≤1024)
theorem yA {g:GT}(h:qw g=true):Gr.Ok g:=by
 simp only[qw,Bool.and_eq_true,decide_eq_true_eq,List.all_eq_true,Bool.not_eq_true'] at h
 obtain⟨⟨⟨⟨h1,h2⟩,h3⟩,h4⟩,h5⟩:=h
 exact⟨h1,h2,fun x hx=>by have:=h3 x hx;exact⟨this.1.1,this.1.2,this.2⟩,fun x hx=>by have:=h4 x hx;exact⟨this.1.1.1.1,this.1.1.1.2,this.1.1.2,this.1.2,this.2⟩,h5⟩
end Go.Mono
namespace Go.Mono
open Go Go.Proofs Go.RowKit Go.ChangeShapes Go.WideShapes Go.Gr

theorem qx:Tryz.prog.cellsOf 5=1:=by kernel_rfl
theorem qy:Tryz.prog.cellsOf 45=3:=by kernel_rfl
theorem qz:Tryz.prog.cellsOf 51=4:=by kernel_rfl
theorem yB:Tryz.prog.cellsOf 22=1:=by kernel_rfl
theorem yC:Tryz.prog.cellsOf 23=1:=by kernel_rfl
theorem yD:Tryz.prog.cellsOf 25=2:=by kernel_rfl
theorem yE:Tryz.prog.cellTypes Tryz.prog.depth 25=some [22,23]:=by kernel_rfl
theorem qA {z:Int}(h:(Lit.int .u8 z).wf=true):0≤z∧z<256:=by
 have h1:IntKind.u8.min=0:=by decide
 have h2:IntKind.u8.max=255:=by decide
 simp only[Lit.wf,h1,h2,Bool.and_eq_true,decide_eq_true_eq] at h
 omega
theorem fD {cs:List Value}{j:Nat}{v:Value}(h:(cs.drop j).take 1=[v]):cs[j]?=some v:=by
 have h3:=congrArg (fun l:List Value=>l[0]?) h
 simp only[List.getElem?_cons_zero] at h3
 rw[List.getElem?_take,if_pos (by decide),List.getElem?_drop,Nat.add_zero] at h3
 exact h3
def vC (x:VT):List Value:=[I x.1,.int .u8 x.2.1,I x.2.2]
def eC (x:ET):List Value:=[I x.1.1,I x.1.2,.int .u8 x.2.1,I x.2.2]
section
variable {H:Type}{enc:TypeId×Value→H}{w:World}{base:Nat}{spare:Nat→Bool}{held:Bool}
theorem yF {n:Nat}{cs:List Value}{x:DataW H×List MemPlace}(h:DataW.trod enc Tryz.prog w base spare held n 45 cs=some x):∃d:VT,cs=vC d∧(0≤d.2.1∧d.2.1<256):=by
 obtain⟨xs,m,_,_,hl,hlen,hf⟩:=DataW.trod_struct U45 h
 rw[qy] at hl
 have hx:∀i,i<3→∃y,xs[i]?=some y:=fun i hi=>⟨_,List.getElem?_eq_getElem (by rw[hlen];exact hi)⟩
 obtain⟨y0,e0⟩:=hx 0 (by decide)
 obtain⟨y1,e1⟩:=hx 1 (by decide)
 obtain⟨y2,e2⟩:=hx 2 (by decide)
 have h0:=hf 0 _ rfl
 have h1:=hf 1 _ rfl
 have h2:=hf 2 _ rfl
 rw[e0] at h0;rw[e1] at h1;rw[e2] at h2
 change DataW.trod enc Tryz.prog w base spare held m 3 ((cs.drop 0).take (Tryz.prog.cellsOf 3))=some y0 at h0
 change DataW.trod enc Tryz.prog w base spare held m 5 ((cs.drop 1).take (Tryz.prog.cellsOf 5))=some y1 at h1
 change DataW.trod enc Tryz.prog w base spare held m 3 ((cs.drop 2).take (Tryz.prog.cellsOf 3))=some y2 at h2
 rw[qj] at h0 h2
 rw[qx] at h1
 obtain⟨z0,q0,_,_⟩:=DataW.trod_int U3 h0
 obtain⟨z1,q1,_,hwf⟩:=DataW.trod_int U5 h1
 obtain⟨z2,q2,_,_⟩:=DataW.trod_int U3 h2
 refine⟨(z0,z1,z2),List.ext_getElem? fun j=>?_,qA hwf⟩
 match j with
 | 0=>rw[fD q0];rfl
 | 1=>rw[fD q1];rfl
 | 2=>rw[fD q2];rfl
 | j+3=>
  rw[List.getElem?_eq_none (by omega),List.getElem?_eq_none]
  show 3≤j+3
  omega
theorem yG {n:Nat}{cs:List Value}{x:DataW H×List MemPlace}(h:DataW.trod enc Tryz.prog w base spare held n 51 cs=some x):∃d:ET,cs=eC d∧(0≤d.2.1∧d.2.1<256):=by
 obtain⟨xs,m,_,_,hl,hlen,hf⟩:=DataW.trod_struct U51 h
 rw[qz] at hl
 have hx:∀i,i<4→∃y,xs[i]?=some y:=fun i hi=>⟨_,List.getElem?_eq_getElem (by rw[hlen];exact hi)⟩
 obtain⟨y0,e0⟩:=hx 0 (by decide)
 obtain⟨y1,e1⟩:=hx 1 (by decide)
 obtain⟨y2,e2⟩:=hx 2 (by decide)
 obtain⟨y3,e3⟩:=hx 3 (by decide)
 have h0:=hf 0 _ rfl
 have h1:=hf 1 _ rfl
 have h2:=hf 2 _ rfl
 have h3:=hf 3 _ rfl
 rw[e0] at h0;rw[e1] at h1;rw[e2] at h2;rw[e3] at h3
 change DataW.trod enc Tryz.prog w base spare held m 3 ((cs.drop 0).take (Tryz.prog.cellsOf 3))=some y0 at h0
 change DataW.trod enc Tryz.prog w base spare held m 3 ((cs.drop 1).take (Tryz.prog.cellsOf 3))=some y1 at h1
 change DataW.trod enc Tryz.prog w base spare held m 5 ((cs.drop 2).take (Tryz.prog.cellsOf 5))=some y2 at h2
 change DataW.trod enc Tryz.prog w base spare held m 3 ((cs.drop 3).take (Tryz.prog.cellsOf 3))=some y3 at h3
 rw[qj] at h0 h1 h3
 rw[qx] at h2
 obtain⟨z0,q0,_,_⟩:=DataW.trod_int U3 h0
 obtain⟨z1,q1,_,_⟩:=DataW.trod_int U3 h1
 obtain⟨z2,q2,_,hwf⟩:=DataW.trod_int U5 h2
 obtain⟨z3,q3,_,_⟩:=DataW.trod_int U3 h3
 refine⟨((z0,z1),(z2,z3)),List.ext_getElem? fun j=>?_,qA hwf⟩
 match j with
 | 0=>rw[fD q0];rfl
 | 1=>rw[fD q1];rfl
 | 2=>rw[fD q2];rfl
 | 3=>rw[fD q3];rfl
 | j+4=>
  rw[List.getElem?_eq_none (by omega),List.getElem?_eq_none]
  show 4≤j+4
  omega
theorem qB {α:Type}{c:α→List Value}{k:Nat}(hk:∀x,(c x).length=k){a:Addr}{f:Nat→α}:∀(n s:Nat),(∀i,s≤i→i<s+n→∀j u,(c (f i))[j]?=some u→w.cell? (a.add (i * k+j))=some u)→∀j u,(((List.range' s n).map f).flatMap c)[j]?=some u→w.cell? (a.add (s * k+j))=some u
 | 0,s,h,j,u,hu=>by simp at hu
 | n+1,s,h,j,u,hu=>by
  have hln:=hk (f s)
  rw[List.range'_succ,List.map_cons,List.flatMap_cons] at hu
  by_cases hj:j<k
  ·rw[List.getElem?_append_left (by rw[hln];exact hj)] at hu
   exact h s (Nat.le_refl _) (by omega) j u hu
  ·rw[List.getElem?_append_right (by rw[hln];omega),hln] at hu
   have:=qB hk n (s+1) (fun i h1 h2=>h i (by omega) (by omega)) (j - k) u hu
   rwa [show (s+1) * k+(j - k)=s * k+j by rw[Nat.succ_mul];omega] at this
theorem qC {G:Nat→Prop}:∀l:List VT,Cells vtE G w l (l.flatMap vC)
 | []=>rfl
 | d::l=>⟨vC d,_,rfl,⟨[I d.1],[.int .u8 d.2.1,I d.2.2],rfl,rfl,[.int .u8 d.2.1],[I d.2.2],rfl,rfl,rfl⟩,qC l⟩
theorem qD {G:Nat→Prop}:∀l:List ET,Cells etE G w l (l.flatMap eC)
 | []=>rfl
 | d::l=>⟨eC d,_,rfl,⟨[I d.1.1,I d.1.2],[.int .u8 d.2.1,I d.2.2],rfl,⟨[I d.1.1],[I d.1.2],rfl,rfl,rfl⟩,[.int .u8 d.2.1],[I d.2.2],rfl,rfl,rfl⟩,qD l⟩
set_option maxRecDepth 100000 in
theorem qE {α:Type}[Inhabited α]{e:Enc α}{c:α→List Value}{Q:α→Prop}{k:Nat}{t te:TypeId}(ht:Tryz.prog.underlying t=some (.slice te))(hte:Tryz.prog.cellsOf te=k)(hk0:0<k)(hk:∀x,(c x).length=k)
  (hel:∀(n:Nat) (cs:List Value) (x:DataW H×List MemPlace),DataW.trod enc Tryz.prog w 0 spare held n te cs=some x→∃d,cs=c d∧Q d) (hall':∀l:List α,Cells e G0 w l (l.flatMap c))
  {v:Value} {x:DataW H×List MemPlace} {fuel b0:Nat} (hok:Value.okWide Tryz.prog w .any b0 t v) (hf:DataW.trod enc Tryz.prog w 0 spare held fuel t v.cells.toList=some x):∃l:List α,(Dv (slE e) G0 l).p v w∧∀d∈l,Q d:=by
 obtain⟨a0,n0,c0,rfl⟩:=okWide_slice ht hok
 rcases Deep.open_slice ht hf with ⟨hcs,_⟩|⟨a,len,cap,m,n,D,Pl,hcs,_,hlc,_,hm,_,hall⟩
 ·simp[Value.cells] at hcs
  obtain⟨rfl,rfl,rfl⟩:=hcs
  exact⟨[],Dv.nil,by simp⟩
 ·simp[Value.cells] at hcs
  obtain⟨rfl,rfl,rfl⟩:=hcs
  have hlm:n0≤m:=by rw[hm];split <;> omega
  have each:∀i,i<n0→∃b:α,Q b∧∀j u,(c b)[j]?=some u→w.cell? (a.add (i * k+j))=some u:=by
   intro i hi
   obtain⟨cs',h1,h2⟩:=hall i (by omega)
   rw[hte] at h1
   obtain⟨_,hlen,hcell⟩:=World.cells?_some h1
   obtain⟨b,rfl,hb⟩:=hel _ _ _ h2
   refine⟨b,hb,fun j u hu=>?_⟩
   have hj:j<k:=by have:=(List.getElem?_eq_some_iff.1 hu).1;rwa [hk] at this
   have:=hcell j hj
   rw[Deep.add_add] at this
   rw[this];exact hu
  obtain⟨f,hf'⟩:=Deep.choose_lt each
  by_cases h0:n0=0
  ·subst h0
   have hb:a.block<w.heap.size:=by
    have h1:Cell.ok Tryz.prog w .any b0 t (.slice (some a) 0 c0):=by
     have:=hok
     simpa[Value.okWide,Cell.okWide,ht] using this
    have h2:0≤c0∧(c0:Int)≤IntKind.i64.max∧w.has Tryz.prog .any b0 a te c0:=by
     simpa[Cell.ok,ht] using h1
    have h3:=h2.2.2.2.2
    obtain⟨row,h3⟩:=h3
    obtain⟨cells,h3⟩:=h3
    have h4:=h3.1
    apply Classical.byContradiction
    intro hn
    have:w.heap[a.block]?=none:=Array.getElem?_eq_none (by omega)
    simp[World.shape?,this] at h4
   exact⟨[],Dv.sl.2 (.inr ⟨a,c0,[],rfl,by simp,fun hg=>hg.elim,hb,rfl,fun j u hu=>by simp at hu⟩),by simp⟩
  ·refine⟨(List.range n0).map f,Dv.sl.2 (.inr ⟨a,c0,((List.range n0).map f).flatMap c,by simp,by simpa using hlc,fun hg=>hg.elim,?_,hall' _,fun j u hu=>?_⟩),?_⟩
   ·obtain⟨u,hu⟩:∃u,(c (f 0))[0]?=some u:=⟨_,List.getElem?_eq_getElem (by rw[hk];exact hk0)⟩
    have:=(hf' 0 (by omega)).2 0 u hu
    have:=World.block_lt_of_cell? w _ this
    simpa[add_block] using this
   ·rw[List.range_eq_range'] at hu
    have:=qB (w:=w) hk (a:=a) (f:=f) n0 0 (fun i _ hi j u hu=>(hf' i (by omega)).2 j u hu) j u hu
    simpa using this
   ·intro d hd
    obtain⟨i,hi,rfl⟩:=List.mem_map.1 hd
    exact (hf' i (List.mem_range.1 hi)).1
theorem yH {P:Program}{t:TypeId}{fs:Array Field}(ht:P.underlying t=some (.struct fs)){r:Reach}{b0:Nat}{v:Value}(h:Value.okWide P w r b0 t v):∃cs,v=.agg cs∧cs.size=P.cellsOf t∧Row.okWide P w r b0 t cs:=by
 simp only[Value.okWide,ht] at h
 exact h
theorem jG {P:Program}{t te:TypeId}(ht:P.underlying t=some (.slice te)){r:Reach}{b0:Nat}{v:Value}(h:Cell.okWide P w r b0 t v):Value.okWide P w r b0 t v:=by
 simp only[Value.okWide,ht]
 exact h
set_option maxRecDepth 100000 in
theorem open_g {v:Value}{d:DataW H}{ps:List MemPlace}{b0:Nat}(hok:Value.okWide Tryz.prog w .any b0 25 v)(h:DataW.Trod enc Tryz.prog w 0 spare held 25 v d ps):∃g:GT,(Dv gtE G0 g).p v w∧(∀x∈g.1,0≤x.2.1∧x.2.1<256)∧∀x∈g.2,0≤x.2.1∧x.2.1<256:=by
 obtain⟨fuel,hf⟩:=h
 obtain⟨cs,rfl,hsz,ts,hts,_,hrow⟩:=yH U25 hok
 rw[yE] at hts
 cases hts
 rw[yD] at hsz
 obtain⟨u1,u2,rfl⟩:∃u1 u2,cs = #[u1,u2]:=by
  obtain⟨cs⟩:=cs
  match cs,hsz with
  | [u1,u2],_=>exact⟨u1,u2,rfl⟩
 obtain⟨t1,q1,k1⟩:=hrow 0 u1 rfl
 obtain⟨t2,q2,k2⟩:=hrow 1 u2 rfl
 cases q1;cases q2
 obtain⟨y0,y1,n,_,_,h0,h1⟩:=trod_struct2 U25 hf
 have e1:u1.cells.toList=[u1]:=by
  obtain⟨a0,n0,c0,rfl⟩:=okWide_slice U22 (jG U22 k1)
  rfl
 have e2:u2.cells.toList=[u2]:=by
  obtain⟨a0,n0,c0,rfl⟩:=okWide_slice U23 (jG U23 k2)
  rfl
 have h0':DataW.trod enc Tryz.prog w 0 spare held n 22 u1.cells.toList=some y0:=by
  rw[e1]
  change DataW.trod enc Tryz.prog w 0 spare held n 22 (([u1,u2].drop 0).take (Tryz.prog.cellsOf 22))=some y0 at h0
  rw[yB] at h0
  exact h0
 have h1':DataW.trod enc Tryz.prog w 0 spare held n 23 u2.cells.toList=some y1:=by
  rw[e2]
  change DataW.trod enc Tryz.prog w 0 spare held n 23 (([u1,u2].drop 1).take (Tryz.prog.cellsOf 23))=some y1 at h1
  rw[yC] at h1
  exact h1
 obtain⟨V,g1,g2⟩:=qE (e:=vtE) (c:=vC) (k:=3) U22 qy (by decide) (fun _=>rfl) (fun n cs x h=>yF h) qC (jG U22 k1) h0'
 obtain⟨E',g3,g4⟩:=qE (e:=etE) (c:=eC) (k:=4) U23 qz (by decide) (fun _=>rfl) (fun n cs x h=>yG h) qD (jG U23 k2) h1'
 exact⟨(V,E'),Dv.gt.2 ⟨_,_,rfl,g1,g3⟩,g2,g4⟩
end
end Go.Mono
namespace Go.Proofs.YtbjangoghokneaaGreatDoor
open Go Go.ChangeShapes Go.WideShapes Go.ChangeAt Go.RowKit

theorem own:ownKnob Tryz.prog.godebug=none:=by kernel_rfl
theorem laidOut:laidOutB Tryz.prog=true:=by kernel_rfl
theorem qF:Tryz.prog.globalNamed "math/bits.deBruijn64tab" = some 0:=by kernel_rfl
theorem yI:(Tryz.prog.globals[0]?).map (·.type)=some 183:=by kernel_rfl
theorem yJ:Tryz.prog.cellsOf 183=64:=by kernel_rfl
theorem yK:Tryz.prog.cellsOf 5=1:=by kernel_rfl
theorem yL {W:World} (h:laidMet Tryz.prog [("math/bits.deBruijn64tab",Rows.laid_math_bits_deBruijn64tab)] W):Mono.Tab W:=by
 have h2:=Lib.tabIs_of_head (k:=.u8) (zs:=Mono.tabZ.map fun n:Nat=>(n:Int)) (rest:=[]) qF yI Tryz.underlying183 Tryz.underlying5 yK yJ (show laidMet Tryz.prog (("math/bits.deBruijn64tab",Lib.tabData .u8 (Mono.tabZ.map fun n:Nat=>(n:Int)))::[]) W from h)
 intro i hi
 rw[h2.cell qF i (by simpa[Mono.tabZ] using hi)]
 congr 2
 simp[List.getD,List.getElem?_map]
 cases Mono.tabZ[i]? <;> rfl
noncomputable def qG (os:Os):World:=
 let w0:=World.holding Tryz.prog os ⟨#[],#[],[]⟩
 { w0 with heap:=w0.heap.modify 0 fun
   | .cells _ t frozen=>.cells (Mono.tabZ.map fun n:Nat=>Value.int .u8 (n:Int)).toArray t frozen
   | o=>o }
theorem yM (os:Os) (args:Array Value):laidMet Tryz.prog [("math/bits.deBruijn64tab",Rows.laid_math_bits_deBruijn64tab)] ((qG os).forCall (fun _ _=>0) ⟨#[],args,[]⟩).memory:=
 laidMet_of_run' 8 (by kernel_rfl) (by kernel_rfl)
end Go.Proofs.YtbjangoghokneaaGreatDoor
namespace Go.MonoD
open Go Go.Proofs Go.RowKit Go.Mono
def SlC (xs:List Int)(v:Value)(w:World):Prop:=(v=.slice none 0 0∧xs=[])∨∃ad cap,v=.slice (some ad) xs.length cap∧ad.block<w.heap.size∧∀i z,xs[i]?=some z→w.cell? (ad.add i)=some (I z)
theorem SlC.ext {xs:List Int}{v:Value}{w w':World}(h:SlC xs v w)(e:Ext w w'):SlC xs v w':=by
 rcases h with h|⟨ad,cap,h1,h2,h3⟩
 ·exact .inl h
 ·refine .inr ⟨ad,cap,h1,Nat.lt_of_lt_of_le h2 e.size,fun i z hz=>?_⟩
  rw[World.cell?_of_block (w:=w) (by rw[Mono.add_block];exact e.block _ h2)]
  exact h3 i z hz
theorem qH:∀xs:List Int,xs.flatMap Mono.intF=xs.map I
 | []=>rfl
 | x::xs=>by rw[List.flatMap_cons,qH xs];rfl
theorem slC_of {G:Nat→Prop}{xs:List Int}{v:Value}{w:World}(h:(Mono.Dv (Mono.slE Mono.intE) G xs).p v w):SlC xs v w:=by
 rcases Mono.Dv.sl.1 h with ⟨h1,h2⟩|⟨ad,cap,cs,h1,_,_,h3,h4,h5⟩
 ·exact .inl ⟨h1,h2⟩
 ·refine .inr ⟨ad,cap,h1,h3,fun i z hz=>h5 i _ ?_⟩
  rw[Mono.intFF.cells] at h4
  rw[h4,qH,List.getElem?_map,hz];rfl
def PtC (z:Int):VA:=⟨fun u w=>∃ad,u=.pointer (some ad)∧ad.block<w.heap.size∧w.cell? ad=some (I z),fun u w w' e ⟨ad,h1,h2,h3⟩=>⟨ad,h1,Nat.lt_of_lt_of_le h2 e.size,by rw[World.cell?_of_block (w:=w) (e.block _ h2)];exact h3⟩⟩
section
variable {P:Program}{w0:World}{L:Env}{dst:Option Tmp}{ty:TypeId}{pos:String}{aft:Array Edge}{g:Option (Nat×Bool)}{t te:TypeId}{x y:Operand}{xs:List Int}{v:Value}
theorem fE (ht:P.underlying t=some (.slice te))(hx:opd L x=some (E v))(h:SlC xs v w0):OpC P w0 L ⟨dst,.call ⟨.builtin .len,#[x],#[t]⟩,ty,pos,aft,g⟩ (E (I (xs.length:Nat))):=
 aP fun ρ w he hv=>by
  have h1:=opE hv (x:=x) (by simp[Op.operands,Call.operands]) hx
  refine⟨_,?_,rfl⟩
  rcases h with ⟨rfl,rfl⟩|⟨ad,cap,rfl,_⟩
  ·simp[execOp,resolve,invoke,builtin,Builtin.len_,h1,run_underlying ht,goInt]
  ·simp[execOp,resolve,invoke,builtin,Builtin.len_,h1,run_underlying ht,goInt]
theorem qI {j:Nat}{z:Int}(ht:P.underlying t=some (.slice te))(hs:(P.info? te).map (·.size)=some 1)(hx:opd L x=some (E v))(h:SlC xs v w0)(hy:opd L y=some (E (I (j:Nat))))(hz:xs[j]?=some z) :
  OpC P w0 L ⟨dst,.indexAddr t x y,ty,pos,aft,g⟩ (PtC z):=
 aP fun ρ w he hv=>by
  have h1:=opE hv (x:=x) (by simp[Op.operands]) hx
  have h2:=opE hv (x:=y) (by simp[Op.operands]) hy
  have hlt:=(List.getElem?_eq_some_iff.1 hz).1
  rcases h.ext he with ⟨rfl,rfl⟩|⟨ad,cap,rfl,h3,h4⟩
  ·simp at hlt
  ·have hi:(0:Int)≤(j:Int)∧(j:Int)<(xs.length:Int):=by omega
   have hsz:∀w,(sizeOf te).run P w=.ok 1 w:=fun w=>by
    cases hi:P.info? te with
    | none=>simp[hi] at hs
    | some i=>simp[hi] at hs;simp[sizeOf,typeInfo,hi,hs]
   refine⟨.pointer (some (ad.add j)),?_,_,rfl,by rw[Mono.add_block];exact h3,h4 j z hz⟩
   simp[execOp,h1,h2,Instr.indexAt,asIntOf,run_underlying ht,hlt,hsz]
theorem ldC {z:Int}(ht:TI P t false 1)(hx:opd L x=some (PtC z)):OpC P w0 L ⟨dst,.load t x,ty,pos,aft,g⟩ (E (I z)):=
 aP fun ρ w he hv=>by
  obtain⟨ad,h1,h2,h3⟩:=hv x (by simp[Op.operands]) _ hx
  refine⟨_,?_,rfl⟩
  have:=fj ht (w:=w) (a:=ad) (v:=I z) h3
  simp[execOp,h1,Instr.loadAt,Instr.sureAddr,this]
end
def aS:List Int→List Int→Int
 | [],[]=>0
 | [],_::_ => -1
 | _::_,[]=>1
 | x::xs,y::ys=>if cmpI x y≠0 then cmpI x y else aS xs ys
theorem cmpZ_spec (xs ys:List Int)(v u:Value)(W:World)(h:SlC xs v W)(h':SlC ys u W)(hl:xs.length≤100000):Calls Tryz.prog 67 #[v,u] W (Post (E (I (aS xs ys))) W):=by
 refine enter (args:=[v,u]) (As:=[E v,E u]) Tryz.func67 rfl Tryz.ntmps67 (Nat.le_of_ble_eq_true rfl) ?_ (fun a hf=>?_) (Nat.le_of_ble_eq_true rfl)
 rotate_left
 rotate_right
 ·exact arg2 rfl rfl
 have e:=Ext.rfl' W
 refine seq <| ab <| aA hf rfl (by decide) fun a hf=>aa ?_
 refine seq <| seq ?_
 refine ay 3 hf (by decide +kernel) <| st (mv rfl) <| st (fE Tryz.underlying35 rfl h) <| st (mv rfl) <| en fun a w e' hf=>?_
 replace h:=h.ext e'
 replace h':=h'.ext e'
 replace e:=e.tr e'
 refine aa ?_
 have hI:aS (xs.drop 0) (ys.drop 0)=aS xs ys∧0≤ys.length:=⟨rfl,Nat.zero_le _⟩
 replace hf:=hf.keep [0,1,9,10,11]
 refine blk (aF (fun r0 a w=>∃(k:Nat) ,r0=xs.length - k∧k≤xs.length∧Fr 36 a w [(0,E v),(1,E u),(9,E v),(10,E (I (xs.length:Nat))),(11,E (I k))]∧Ext W w∧SlC xs v w∧SlC ys u w∧(aS (xs.drop k) (ys.drop k)=aS xs ys∧k≤ys.length)) xs.length ⟨0,rfl,by omega,hf,e,⟨h,h',hI⟩⟩ ?_)
 rintro r0 a w ⟨k,rfl,hk,hf,e,h,h',hI⟩
 refine seq <| ay 1 hf (by decide +kernel) <| st (lss rfl rfl) <| en fun a w e' hf=>?_
 replace h:=h.ext e'
 replace h':=h'.ext e'
 replace e:=e.tr e'
 refine aa <| seq <| ifc hf rfl (fun hc=>ah ?_) (fun hc=>aC ?_)
 rotate_left
 rotate_left
 ·have hlt:=ltC hc
  replace hf:=hf.keep [0,1,9,10,11]
  refine seq <| blk ?_
  have hx:=List.getElem?_eq_getElem hlt
  generalize xs[k]=x at hx
  have hxd:xs.drop k=x::xs.drop (k+1):=by
   obtain⟨hk',he'⟩:=List.getElem?_eq_some_iff.1 hx
   rw[← he',List.getElem_cons_drop]
  obtain⟨hI1,hI2⟩:=hI
  rw[hxd] at hI1
  refine seq <| ay 3 hf (by decide +kernel) <| st (mv rfl) <| st (qI Tryz.underlying35 Mono.S3 rfl h rfl hx) <| st (ldC T3 rfl) <| en fun a w e' hf=>?_
  replace h:=h.ext e'
  replace h':=h'.ext e'
  replace e:=e.tr e'
  refine aA hf rfl (by decide) fun a hf=>aA hf rfl (by decide) fun a hf=>aa ?_
  by_cases hky:k<ys.length
  ·have hy:=List.getElem?_eq_getElem hky
   generalize ys[k]=y at hy
   have hyd:ys.drop k=y::ys.drop (k+1):=by
    obtain⟨hk',he'⟩:=List.getElem?_eq_some_iff.1 hy
    rw[← he',List.getElem_cons_drop]
   rw[hyd,aS] at hI1
   refine seq <| seq ?_
   refine ay 4 hf (by decide +kernel) <| st (mv rfl) <| st (mv rfl) <| st (fE Tryz.underlying35 rfl h') <| st ((geq rfl rfl).eq (congrArg Value.bool (decide_eq_false (show ¬((ys.length:Nat):Int)≤(k:Int) by omega)))) <| en fun a w e' hf=>?_
   replace h:=h.ext e'
   replace h':=h'.ext e'
   replace e:=e.tr e'
   refine aa <| ifF hf rfl ?_
   refine ah <| seq <| ay 4 hf (by decide +kernel) <| st (mv rfl) <| st (mv rfl) <| st (qI Tryz.underlying35 Mono.S3 rfl h' rfl hy) <| st (ldC T3 rfl) <| en fun a w e' hf=>?_
   replace h:=h.ext e'
   replace h':=h'.ext e'
   replace e:=e.tr e'
   refine aA hf rfl (by decide) fun a hf=>aa <| seq <| ay 3 hf (by decide +kernel) <| st (mv rfl) <| st (mv rfl) <| st (aw Mono.En92 rfl rfl (fun v u w he h h'=>jC x y v u w h h')) <| en fun a w e' hf=>?_
   replace h:=h.ext e'
   replace h':=h'.ext e'
   replace e:=e.tr e'
   refine aA hf rfl (by decide) fun a hf=>aa <| seq <| ay 2 hf (by decide +kernel) <| st (mv rfl) <| st (neq rfl rfl) <| en fun a w e' hf=>?_
   replace h:=h.ext e'
   replace h':=h'.ext e'
   replace e:=e.tr e'
   refine aa <| ifc hf rfl (fun hb=>?_) (fun hb=>?_)
   ·have hb':cmpI x y≠0:=by simpa using hb
    rw[if_pos hb'] at hI1
    refine seq <| ay 1 hf (by decide +kernel) <| st (mv rfl) <| en fun a w e' hf=>?_
    replace h:=h.ext e'
    replace h':=h'.ext e'
    replace e:=e.tr e'
    refine aA hf rfl (by decide) fun a hf=>aa <| ai <| am rfl hf rfl ?_
    rintro _ rfl
    exact⟨_,rfl,e,congrArg I hI1⟩
   ·have hb':¬cmpI x y≠0:=by simpa using hb
    rw[if_neg hb'] at hI1
    refine ah <| ay 1 hf (by decide +kernel) <| st ((add rfl rfl (by omega)).eq (iN k)) <| en fun a w e' hf=>?_
    replace h:=h.ext e'
    replace h':=h'.ext e'
    replace e:=e.tr e'
    refine kx hf (by decide) (mv rfl) fun a w e' hf=>?_
    replace h:=h.ext e'
    replace h':=h'.ext e'
    replace e:=e.tr e'
    refine aa ?_
    replace hf:=hf.keep [0,1,9,10,11]
    refine⟨_,?_,k+1,rfl,by omega,hf,e,?_⟩
    ·omega
    exact⟨h,h',hI1,by omega⟩
  ·have hke:ys.drop k=[]:=List.drop_of_length_le (by omega)
   rw[hke,aS] at hI1
   refine seq <| seq ?_
   refine ay 4 hf (by decide +kernel) <| st (mv rfl) <| st (mv rfl) <| st (fE Tryz.underlying35 rfl h') <| st ((geq rfl rfl).eq (congrArg Value.bool (decide_eq_true (show ((ys.length:Nat):Int)≤(k:Int) by omega)))) <| en fun a w e' hf=>?_
   replace h:=h.ext e'
   replace h':=h'.ext e'
   replace e:=e.tr e'
   refine aa <| ifT hf rfl ?_
   refine seq <| ab <| aA hf rfl (by decide) fun a hf=>aa <| ai <| am rfl hf rfl ?_
   rintro _ rfl
   exact⟨_,rfl,e,congrArg I hI1⟩
 ·obtain rfl:=dnE hc hk
  obtain⟨hI1,hI2⟩:=hI
  rw[List.drop_length] at hI1
  by_cases hly:xs.length<ys.length
  ·have:ys.drop xs.length≠[]:=fun hn=>by have:=congrArg List.length hn;rw[List.length_drop,List.length_nil] at this;omega
   have h2:aS [] (ys.drop xs.length) = -1:=by
    cases hd:ys.drop xs.length with
    | nil=>exact absurd hd this
    | cons _ _=>rfl
   rw[h2] at hI1
   refine seq <| seq ?_
   refine ay 5 hf (by decide +kernel) <| st (mv rfl) <| st (fE Tryz.underlying35 rfl h) <| st (mv rfl) <| st (fE Tryz.underlying35 rfl h') <| st ((lss rfl rfl).eq (congrArg Value.bool (decide_eq_true (show ((xs.length:Nat):Int)<((ys.length:Nat):Int) by omega)))) <| en fun a w e' hf=>?_
   replace h:=h.ext e'
   replace h':=h'.ext e'
   replace e:=e.tr e'
   refine aa <| ifT hf rfl ?_
   refine seq <| ab <| aA hf rfl (by decide) fun a hf=>aa <| ai <| am rfl hf rfl ?_
   rintro _ rfl
   exact⟨_,rfl,e,congrArg I hI1⟩
  ·have hd:ys.drop xs.length=[]:=List.drop_of_length_le (by omega)
   rw[hd,aS] at hI1
   refine seq <| seq ?_
   refine ay 5 hf (by decide +kernel) <| st (mv rfl) <| st (fE Tryz.underlying35 rfl h) <| st (mv rfl) <| st (fE Tryz.underlying35 rfl h') <| st ((lss rfl rfl).eq (congrArg Value.bool (decide_eq_false (show ¬((xs.length:Nat):Int)<((ys.length:Nat):Int) by omega)))) <| en fun a w e' hf=>?_
   replace h:=h.ext e'
   replace h':=h'.ext e'
   replace e:=e.tr e'
   refine aa <| ifF hf rfl ?_
   refine ah <| seq <| ab <| aA hf rfl (by decide) fun a hf=>aa <| ai <| am rfl hf rfl ?_
   rintro _ rfl
   exact⟨_,rfl,e,congrArg I hI1⟩
end Go.MonoD
namespace Go.Proofs
open Go.Shelf
def Tryz.sortI_ren:Go.Shelf.Ren:=⟨fun|6=>66|15=>113|14=>112|28=>145|29=>146|20=>137|21=>138|22=>139|23=>140|24=>141|25=>142|26=>143|27=>144|46=>180|47=>181|48=>182|49=>183|50=>184|57=>199|n=>n,fun|22=>39|24=>35|25=>102|3=>3|39=>153|0=>0|53=>182|55=>74|4=>4|46=>176|45=>175|50=>106|5=>5|9=>9|66=>196|70=>200|76=>211|77=>212|n=>n,fun|n=>n⟩
theorem Tryz.sortI:Go.Proofs.SlLaysF.n6 Tryz.prog Tryz.sortI_ren:={
 mixed:=by kernel_rfl
 f6:=⟨Tryz.f66.name,by decide,Tryz.func66.trans (congrArg some (by kernel_rfl))⟩
 f14:=⟨Tryz.f112.name,by decide,Tryz.func112.trans (congrArg some (by kernel_rfl))⟩
 f15:=Tryz.func113.trans (congrArg some (by kernel_rfl))
 f20:=⟨Tryz.f137.name,by decide,Tryz.func137.trans (congrArg some (by kernel_rfl))⟩
 f21:=⟨Tryz.f138.name,by decide,Tryz.func138.trans (congrArg some (by kernel_rfl))⟩
 f22:=⟨Tryz.f139.name,by decide,Tryz.func139.trans (congrArg some (by kernel_rfl))⟩
 f23:=⟨Tryz.f140.name,by decide,Tryz.func140.trans (congrArg some (by kernel_rfl))⟩
 f24:=⟨Tryz.f141.name,by decide,Tryz.func141.trans (congrArg some (by kernel_rfl))⟩
 f25:=⟨Tryz.f142.name,by decide,Tryz.func142.trans (congrArg some (by kernel_rfl))⟩
 f26:=⟨Tryz.f143.name,by decide,Tryz.func143.trans (congrArg some (by kernel_rfl))⟩
 f27:=⟨Tryz.f144.name,by decide,Tryz.func144.trans (congrArg some (by kernel_rfl))⟩
 f28:=Tryz.func145.trans (congrArg some (by kernel_rfl))
 f29:=Tryz.func146.trans (congrArg some (by kernel_rfl))
 f46:=⟨Tryz.f180.name,by decide,Tryz.func180.trans (congrArg some (by kernel_rfl))⟩
 f47:=Tryz.func181.trans (congrArg some (by kernel_rfl))
 f48:=Tryz.func182.trans (congrArg some (by kernel_rfl))
 f49:=⟨Tryz.f183.name,by decide,Tryz.func183.trans (congrArg some (by kernel_rfl))⟩
 f50:=⟨Tryz.f184.name,by decide,Tryz.func184.trans (congrArg some (by kernel_rfl))⟩
 f57:=⟨Tryz.f199.name,by decide,Tryz.func199.trans (congrArg some (by kernel_rfl))⟩
 t0:=Tryz.underlying0
 a0:=Tryz.isAgg0
 z0:=Tryz.sizeOf0
 v0:=Tryz.zeroValue0
 t3:=Tryz.underlying3
 a3:=Tryz.isAgg3
 z3:=Tryz.sizeOf3
 v3:=Tryz.zeroValue3
 t4:=Tryz.underlying4
 a4:=Tryz.isAgg4
 z4:=Tryz.sizeOf4
 v4:=Tryz.zeroValue4
 t5:=Tryz.underlying5
 a5:=Tryz.isAgg5
 z5:=Tryz.sizeOf5
 v5:=Tryz.zeroValue5
 t9:=Tryz.underlying9
 a9:=Tryz.isAgg9
 z9:=Tryz.sizeOf9
 v9:=Tryz.zeroValue9
 t22:=Tryz.underlying39
 a22:=Tryz.isAgg39
 z22:=Tryz.sizeOf39
 v22:=Tryz.zeroValue39
 a24:=Tryz.isAgg35
 z24:=Tryz.sizeOf35
 t25:=Tryz.underlying102
 a25:=Tryz.isAgg102
 z25:=Tryz.sizeOf102
 v25:=Tryz.zeroValue102
 t39:=Tryz.underlying153
 a39:=Tryz.isAgg153
 z39:=Tryz.sizeOf153
 v39:=Tryz.zeroValue153
 t45:=Tryz.underlying175
 a45:=Tryz.isAgg175
 z45:=Tryz.sizeOf175
 v45:=Tryz.zeroValue175
 t46:=Tryz.underlying176
 a46:=Tryz.isAgg176
 z46:=Tryz.sizeOf176
 v46:=Tryz.zeroValue176
 t50:=Tryz.underlying106
 a50:=Tryz.isAgg106
 z50:=Tryz.sizeOf106
 v50:=Tryz.zeroValue106
 t53:=Tryz.underlying182
 a53:=Tryz.isAgg182
 z53:=Tryz.sizeOf182
 v53:=Tryz.zeroValue182
 t55:=Tryz.underlying74
 a55:=Tryz.isAgg74
 z55:=Tryz.sizeOf74
 v55:=Tryz.zeroValue74
 t66:=Tryz.underlying196
 a66:=Tryz.isAgg196
 z66:=Tryz.sizeOf196
 v66:=Tryz.zeroValue196
 t70:=Tryz.underlying200
 a70:=Tryz.isAgg200
 z70:=Tryz.sizeOf200
 v70:=Tryz.zeroValue200
 t76:=Tryz.underlying211
 a76:=Tryz.isAgg211
 z76:=Tryz.sizeOf211
 v76:=Tryz.zeroValue211
 t77:=Tryz.underlying212
 a77:=Tryz.isAgg212
 z77:=Tryz.sizeOf212
 v77:=Tryz.zeroValue212 }
end Go.Proofs
namespace Go.Mono
open Go Go.Proofs Go.RowKit Go.Gr
def ofS (s:GT×Int)(d:DT):GT×Int:=if s.2≠0 then s else if (doR s.1 d).2≠0 then (([],[]),(doR s.1 d).2) else ((doR s.1 d).1,0)
def ofR (V:List VT)(E:List ET):GT×Int:=(V.map dV++E.map dE).foldl ofS (([],[]),0)
theorem lV {s:GT×Int}(h:s.2≠0)(l:List DT):l.foldl ofS s=s:=by
 induction l generalizing s with
 | nil=>rfl
 | cons d l ih=>rw[List.foldl_cons,ofS,if_pos h];exact ih h
theorem qJ {l:List DT}{k:Nat}{d:DT}{s0:GT×Int}{g:GT}(h:l[k]?=some d)(hg:(l.take k).foldl ofS s0=(g,0)):(l.take (k+1)).foldl ofS s0=ofS (g,0) d:=by
 rw[bs h,List.foldl_append,hg];rfl
theorem qK {l:List DT}{k:Nat}{s0:GT×Int}{s:GT×Int}(hg:(l.take k).foldl ofS s0=s)(hs:s.2≠0):l.foldl ofS s0=s:=by
 rw[← List.take_append_drop k l,List.foldl_append,hg,lV hs]
theorem bR4 (x:DT):Tryz.prog.built 143 [(0,.int .i64 x.1),(1,.int .i64 x.2.1),(3,.int .u8 x.2.2.2.1),(4,.int .i64 x.2.2.2.2)]=some #[.int .i64 x.1,.int .i64 x.2.1,.int .i64 0,.int .u8 x.2.2.2.1,.int .i64 x.2.2.2.2]:=by kernel_rfl
theorem bR5 (x:DT):Tryz.prog.built 143 [(0,.int .i64 x.1),(1,.int .i64 x.2.1),(2,.int .i64 x.2.2.1),(3,.int .u8 x.2.2.2.1),(4,.int .i64 x.2.2.2.2)]=some #[.int .i64 x.1,.int .i64 x.2.1,.int .i64 x.2.2.1,.int .u8 x.2.2.2.1,.int .i64 x.2.2.2.2]:=by kernel_rfl
theorem yN {G:Nat→Prop}(V:List VT)(E':List ET)(v u:Value)(W:World)(h1:(Dv (slE vtE) G V).p v W)(h2:(Dv (slE etE) G E').p u W)(hl1:V.length≤1000)(hl2:E'.length≤1000){K:Nat→Prop}(hK:∀b,K b→b<W.heap.size) :
  Calls Tryz.prog 45 #[v,u] W (Post (Tup [Dv gtE K (ofR V E').1,E (I (ofR V E').2)]) W):=by
 replace h1:(Dv (slE vtE) G0 V).p v W:=Dv.weak h1 fun b _ hb=>hb.elim
 replace h2:(Dv (slE etE) G0 E').p u W:=Dv.weak h2 fun b _ hb=>hb.elim
 refine eN [v,u] [E v,E u] Tryz.func45 Tryz.ntmps45 ?_ fun a hf=>?_
 rotate_left
 dsimp only[params,Nat.reduceAdd] at hf
 rotate_right
 ·exact arg2 rfl rfl
 have e:=Ext.rfl' W
 refine seq <| ab <| tL I25 hf fun a b4 w e' hb4 hs4 B4 hf=>?_
 replace e:=e.tr e'
 refine tA hf rfl fun a hf=>aa <| seq <| rgN 1 hf <| st (bB [] rfl ju) <| en fun a w e' hf=>?_
 obtain⟨e,B4⟩:=up2 e' e B4
 refine tL I25 hf fun a b6 w e' hb6 hs6 B6 hf=>?_
 have lt6_B4:=B4.lt
 obtain⟨e,B4⟩:=up2 e' e B4
 haveI hinr:∀G0,InR (GB W G0) (some b6):=fun G0=>InR.gb (by omega)
 refine az T25 hf rfl rfl (bk rfl rfl) B6 rfl (rfl) fun w hg hsz B6 hf=>?_
 obtain⟨e,B4⟩:=gr2 hg e B4
 refine aa ?_
 obtain⟨G',hG'⟩:∃G':Nat→Prop,G'=fun b=>K b∨b=b4∨b=b6:=⟨_,rfl⟩
 haveI i6:InR G' (some b6):=⟨fun b hb=>by rw[hG'];cases hb;exact .inr (.inr rfl)⟩
 have hGb:∀w:World,Ext W w→b4<w.heap.size→b6<w.heap.size→∀b,G' b→b<w.heap.size:=fun w e h2 h3 b hb=>by
  rw[hG'] at hb
  rcases hb with hb|rfl|rfl
  ·exact Nat.lt_of_lt_of_le (hK b hb) e.size
  ·exact h2
  ·exact h3
 refine seq <| ab <| tA hf rfl fun a hf=>aa ?_
 refine seq <| seq ?_
 refine ab <| tA hf rfl fun a hf=>aa ?_
 replace hf:=hf.keep [0,1,4,6,7,8]
 refine blk (aF (fun r0 a w=>∃(k:Nat) (gc:GT×Array Value),r0=V.length - k∧k≤V.length∧Fr 79 a w [(0,E v),(1,E u),(4,E (.pointer (some ⟨b4,0,none⟩))),(6,E (.pointer (some ⟨b6,0,none⟩))),(7,E (I 0)),(8,E (I k))]∧Ext W w∧Blk w b4 #[.slice none 0 0,.slice none 0 0] 25∧Blk w b6 gc.2 25∧(Dv gtE G' gc.1).p (.agg gc.2) w∧((V.map dV).take k).foldl ofS (([],[]),0)=(gc.1,0)∧gc.1.1.length≤k∧gc.1.2.length≤k) V.length ⟨0,(([], []), #[.slice none 0 0, .slice none 0 0]),rfl,by omega,hf,e,⟨B4,B6,Dv.gt.2 ⟨_,_,rfl,Dv.nil,Dv.nil⟩,rfl,Nat.le_refl _,Nat.le_refl _⟩⟩ ?_)
 rintro r0 a w ⟨k,gc,rfl,hk,hf,e,B4,B6,HD,hfd,hn1,hn2⟩
 refine seq <| seq ?_
 refine rgN 4 hf <| st (mv rfl) <| st (mv rfl) <| st (aB U22 (isE rfl (vst e h1))) <| st (lss rfl rfl) <| en fun a w e' hf=>?_
 obtain⟨HD,e,B4,B6⟩:=up4 e' HD e B4 B6
 refine aa <| ifc hf rfl (fun hc=>ah ?_) (fun hc=>aC ?_)
 rotate_left
 rotate_left
 ·have hlt:=ltC hc
  replace hf:=hf.keep [0,1,4,6,7,8]
  refine seq <| blk ?_
  obtain⟨g,cs⟩:=gc
  dsimp only at *
  have hx:=List.getElem?_eq_getElem hlt
  generalize V[k]=x at hx
  have hxd:(V.map dV)[k]?=some (dV x):=by rw[List.getElem?_map,hx];rfl
  have hnx:=qJ hxd hfd
  have hln:=lK g (dV x)
  have hcs:cs.size=2:=by obtain⟨cs',h1',h2',_⟩:=Dv.gtOne HD;cases h1';exact h2'
  have hv:=vst e h1
  have l4:=B4.lt;have l6:=B6.lt
  replace hf:=hf.kp [0,1,4,6,7,8]
  refine seq <| cF 22 [0,0,0,0,0,0,0,0,0,0,0,0,0,0,0,0,0,0,2,0,1] (Chg fun c=>c=b6) (bS.one _) (fun w=>∃cs,Blk w b6 cs 25∧(Dv gtE G' (doR g (dV x)).1).p (.agg cs) w) (fun w w1 k h=>h.imp fun cs h=>⟨h.1.ext k,vst k h.2⟩) Mix.mix hf (by decide +kernel) (by decide +kernel) <| ja (ldW T25 rfl B6 hcs) <| ja (mv rfl) <| ja (mv rfl) <| ja (aD U22 S45 (isE rfl hv) rfl (by omega) (hx)) <| ja (ax U45 rfl T3 (by decide) (Fld.fst Fld.refl) (isR rfl)) <| ja (ldI T3 (isR rfl)) <| ja (mv rfl) <| ja (mv rfl) <| ja (aD U22 S45 (isE rfl hv) rfl (by omega) (hx)) <| ja (ax U45 rfl T5 (by decide) (Fld.snd (Fld.fst Fld.refl) rfl) (isR rfl)) <| ja (ldU T5 (isR rfl)) <| ja (mv rfl) <| ja (mv rfl) <| ja (aD U22 S45 (isE rfl hv) rfl (by omega) (hx)) <| ja (ax U45 rfl T3 (by decide) (Fld.snd (Fld.snd Fld.refl rfl) rfl) (isR rfl)) <| ja (ldI T3 (isR rfl)) <| ja (nT (dV x) rfl (bR4 (dV x)) rfl rfl rfl rfl) <| ja (aw (A:=Tup [Dv gtE G' (doR g (dV x)).1,E (I (doR g (dV x)).2)]) oB rfl rfl (fun v u w he k1 k2=>by cases k1;cases k2;exact pE (G:=G') g (dV x) _ w (vst he HD) (hGb w (e.tr he) (Nat.lt_of_lt_of_le l4 he.size) (Nat.lt_of_lt_of_le l6 he.size)) (by omega) (by omega))) ?_
  refine jk (mv rfl) <| ja (aV rfl rfl) <| jf (fun w1 h1=>aV rfl rfl) <| jx (il T25 rfl B6 hcs rfl (fun v w hv=>Dv.gtOne hv) (fun v w w' hc hv=>Dv.ch hv hc fun b hb=>by rw[hG',hb];exact .inr (.inr rfl))) ?_
  refine je <| fun a w hc HF hf=>?_
  try dsimp only[push] at hf
  obtain⟨cs',B6,HD⟩:=HF
  replace e:=e.ch hc (fun b hb=>by rw[hb];omega)
  replace B4:=B4.ch hc (by omega)
  refine tA hf rfl fun a hf=>aa ?_
  replace hf:=hf.kp [0,1,4,6,7,8]
  refine seq <| rgN 2 hf <| st (mv rfl) <| st (neq rfl rfl) <| en fun a w e' hf=>?_
  obtain⟨HD,e,B4,B6⟩:=up4 e' HD e B4 B6
  refine aa <| ifc hf rfl (fun hb=>?_) (fun hb=>?_)
  ·have hb':(doR g (dV x)).2≠0:=by simpa using hb
   rw[ofS,if_neg (by simp),if_pos hb'] at hnx
   have hall:ofR V E'=(([],[]),(doR g (dV x)).2):=by rw[ofR,List.foldl_append,qK hnx hb'];exact lV (s:=(([],[]),(doR g (dV x)).2)) hb' _
   refine seq <| rgN 2 hf <| st (bB [] rfl ju) <| st (mv rfl) <| en fun a w e' hf=>?_
   obtain⟨HD,e,B4,B6⟩:=up4 e' HD e B4 B6
   haveI hinr:∀G0,InR (GB W G0) (some b4):=fun G0=>InR.gb (by omega)
   refine az T25 hf rfl rfl (bk rfl rfl) B4 rfl (rfl) fun w hg hsz B4 hf=>?_
   replace HD:=HD
   obtain⟨e,B6⟩:=gr2 hg e B6
   refine tA hf rfl fun a hf=>aa <| ai <| fq rfl T25 hf rfl rfl B4 rfl ?_
   rintro _ rfl
   exact⟨_,rfl,e,by rw[hall];exact Tup.two (Dv.gt.2 ⟨_,_,rfl,Dv.nil,Dv.nil⟩) rfl⟩
  ·have hb':(doR g (dV x)).2=0:=by simpa using hb
   refine ah ?_
   rw[hb'] at hf
   rw[ofS,if_neg (by simp),if_neg (by simpa using hb')] at hnx
   refine rgN 2 hf <| st (mv rfl) <| st ((add rfl rfl (by omega)).eq (iN k)) <| en fun a w e' hf=>?_
   obtain⟨HD,e,B4,B6⟩:=up4 e' HD e B4 B6
   refine tA hf rfl fun a hf=>aa ?_
   replace hf:=hf.kp [0,1,4,6,7,8]
   refine⟨_,?_,k+1,((doR g (dV x)).1,cs'),rfl,by omega,hf,e,?_⟩
   ·omega
   exact⟨B4,B6,HD,hnx,by show (doR g (dV x)).1.1.length≤k+1;omega,by show (doR g (dV x)).1.2.length≤k+1;omega⟩
 ·obtain rfl:=dnE hc hk
  obtain⟨g0,cs0⟩:=gc
  dsimp only at *
  rw[List.take_of_length_le (by simp)] at hfd
  replace hf:=hf.keep [1,4,6,7]
  refine seq <| seq ?_
  refine ab <| tA hf rfl fun a hf=>aa ?_
  replace hf:=hf.keep [1,4,6,7,9]
  refine blk (aF (fun r0 a w=>∃(k:Nat) (gc:GT×Array Value),r0=E'.length - k∧k≤E'.length∧Fr 79 a w [(1,E u),(4,E (.pointer (some ⟨b4,0,none⟩))),(6,E (.pointer (some ⟨b6,0,none⟩))),(7,E (I 0)),(9,E (I k))]∧Ext W w∧Blk w b4 #[.slice none 0 0,.slice none 0 0] 25∧Blk w b6 gc.2 25∧(Dv gtE G' gc.1).p (.agg gc.2) w∧((E'.map dE).take k).foldl ofS (g0,0)=(gc.1,0)∧gc.1.1.length≤V.length+k∧gc.1.2.length≤V.length+k) E'.length ⟨0,(g0, cs0),rfl,by omega,hf,e,⟨B4,B6,HD,rfl,hn1,hn2⟩⟩ ?_)
  rintro r0 a w ⟨k,gc,rfl,hk,hf,e,B4,B6,HD,hfe,hm1,hm2⟩
  refine seq <| seq ?_
  refine rgN 4 hf <| st (mv rfl) <| st (mv rfl) <| st (aB U23 (isE rfl (vst e h2))) <| st (lss rfl rfl) <| en fun a w e' hf=>?_
  obtain⟨HD,e,B4,B6⟩:=up4 e' HD e B4 B6
  refine aa <| ifc hf rfl (fun hc=>ah ?_) (fun hc=>aC ?_)
  rotate_left
  rotate_left
  ·have hlt:=ltC hc
   replace hf:=hf.kp [1,4,6,7,9]
   refine seq <| blk ?_
   obtain⟨g,cs⟩:=gc
   dsimp only at *
   have hx:=List.getElem?_eq_getElem hlt
   generalize E'[k]=x at hx
   have hxd:(E'.map dE)[k]?=some (dE x):=by rw[List.getElem?_map,hx];rfl
   have hnx:=qJ hxd hfe
   have hln:=lK g (dE x)
   have hcs:cs.size=2:=by obtain⟨cs',h1',h2',_⟩:=Dv.gtOne HD;cases h1';exact h2'
   have hv:=vst e h2
   have l4:=B4.lt;have l6:=B6.lt
   replace hf:=hf.kp [1,4,6,7,9]
   refine seq <| cF 27 [0,0,0,0,0,0,0,0,0,0,0,0,0,0,0,0,0,0,0,0,0,0,0,2,0,1] (Chg fun c=>c=b6) (bS.one _) (fun w=>∃cs,Blk w b6 cs 25∧(Dv gtE G' (doR g (dE x)).1).p (.agg cs) w) (fun w w1 k h=>h.imp fun cs h=>⟨h.1.ext k,vst k h.2⟩) Mix.mix hf (by decide +kernel) (by decide +kernel) <| ja (ldW T25 rfl B6 hcs) <| ja (mv rfl) <| ja (mv rfl) <| ja (aD U23 S51 (isE rfl hv) rfl (by omega) (hx)) <| ja (ax U51 rfl T3 (by decide) (Fld.fst (Fld.fst Fld.refl)) (isR rfl)) <| ja (ldI T3 (isR rfl)) <| ja (mv rfl) <| ja (mv rfl) <| ja (aD U23 S51 (isE rfl hv) rfl (by omega) (hx)) <| ja (ax U51 rfl T3 (by decide) (Fld.fst (Fld.snd Fld.refl rfl)) (isR rfl)) <| ja (ldI T3 (isR rfl)) <| ja (mv rfl) <| ja (mv rfl) <| ja (aD U23 S51 (isE rfl hv) rfl (by omega) (hx)) <| ja (ax U51 rfl T5 (by decide) (Fld.snd (Fld.fst Fld.refl) rfl) (isR rfl)) <| ja (ldU T5 (isR rfl)) <| ja (mv rfl) <| ja (mv rfl) <| ja (aD U23 S51 (isE rfl hv) rfl (by omega) (hx)) <| ja (ax U51 rfl T3 (by decide) (Fld.snd (Fld.snd Fld.refl rfl) rfl) (isR rfl)) <| ja (ldI T3 (isR rfl)) <| ja (nU (dE x) (bR5 (dE x)) rfl rfl rfl rfl rfl) <| ja (aw (A:=Tup [Dv gtE G' (doR g (dE x)).1,E (I (doR g (dE x)).2)]) oB rfl rfl (fun v u w he k1 k2=>by cases k1;cases k2;exact pE (G:=G') g (dE x) _ w (vst he HD) (hGb w (e.tr he) (Nat.lt_of_lt_of_le l4 he.size) (Nat.lt_of_lt_of_le l6 he.size)) (by omega) (by omega))) ?_
   refine jk (mv rfl) <| ja (aV rfl rfl) <| jf (fun w1 h1=>aV rfl rfl) <| jx (il T25 rfl B6 hcs rfl (fun v w hv=>Dv.gtOne hv) (fun v w w' hc hv=>Dv.ch hv hc fun b hb=>by rw[hG',hb];exact .inr (.inr rfl))) ?_
   refine je <| fun a w hc HF hf=>?_
   try dsimp only[push] at hf
   obtain⟨cs',B6,HD⟩:=HF
   replace e:=e.ch hc (fun b hb=>by rw[hb];omega)
   replace B4:=B4.ch hc (by omega)
   refine tA hf rfl fun a hf=>aa ?_
   replace hf:=hf.kp [1,4,6,7,9]
   refine seq <| rgN 2 hf <| st (mv rfl) <| st (neq rfl rfl) <| en fun a w e' hf=>?_
   obtain⟨HD,e,B4,B6⟩:=up4 e' HD e B4 B6
   refine aa <| ifc hf rfl (fun hb=>?_) (fun hb=>?_)
   ·have hb':(doR g (dE x)).2≠0:=by simpa using hb
    rw[ofS,if_neg (by simp),if_pos hb'] at hnx
    have hall:ofR V E'=(([],[]),(doR g (dE x)).2):=by rw[ofR,List.foldl_append,hfd,qK hnx hb']
    refine seq <| rgN 2 hf <| st (bB [] rfl ju) <| st (mv rfl) <| en fun a w e' hf=>?_
    obtain⟨HD,e,B4,B6⟩:=up4 e' HD e B4 B6
    haveI hinr:∀G0,InR (GB W G0) (some b4):=fun G0=>InR.gb (by omega)
    refine az T25 hf rfl rfl (bk rfl rfl) B4 rfl (rfl) fun w hg hsz B4 hf=>?_
    replace HD:=HD
    obtain⟨e,B6⟩:=gr2 hg e B6
    refine tA hf rfl fun a hf=>aa <| ai <| fq rfl T25 hf rfl rfl B4 rfl ?_
    rintro _ rfl
    exact⟨_,rfl,e,by rw[hall];exact Tup.two (Dv.gt.2 ⟨_,_,rfl,Dv.nil,Dv.nil⟩) rfl⟩
   ·have hb':(doR g (dE x)).2=0:=by simpa using hb
    refine ah ?_
    rw[hb'] at hf
    rw[ofS,if_neg (by simp),if_neg (by simpa using hb')] at hnx
    refine rgN 2 hf <| st (mv rfl) <| st ((add rfl rfl (by omega)).eq (iN k)) <| en fun a w e' hf=>?_
    obtain⟨HD,e,B4,B6⟩:=up4 e' HD e B4 B6
    refine tA hf rfl fun a hf=>aa ?_
    replace hf:=hf.kp [1,4,6,7,9]
    refine⟨_,?_,k+1,((doR g (dE x)).1,cs'),rfl,by omega,hf,e,?_⟩
    ·omega
    exact⟨B4,B6,HD,hnx,by show (doR g (dE x)).1.1.length≤V.length+(k+1);omega,by show (doR g (dE x)).1.2.length≤V.length+(k+1);omega⟩
  ·obtain rfl:=dnE hc hk
   obtain⟨g,cs⟩:=gc
   dsimp only at *
   rw[List.take_of_length_le (by simp)] at hfe
   have hall:ofR V E'=(g,0):=by rw[ofR,List.foldl_append,hfd,hfe]
   obtain⟨cs',h1',hcs,h1one⟩:=Dv.gtOne HD
   cases h1'
   haveI i4:InR G' (some b4):=⟨fun b hb=>by rw[hG'];cases hb;exact .inr (.inl rfl)⟩
   replace hf:=hf.kp [4,6]
   refine seq <| rgN 1 hf <| st (ldW T25 rfl B6 hcs) <| en fun a w e' hf=>?_
   obtain⟨HD,e,B4,B6⟩:=up4 e' HD e B4 B6
   refine az T25 hf rfl rfl h1one B4 rfl hcs fun w hg hsz B4 hf=>?_
   replace e:=e.gr hg (by omega);replace HD:=AvR.av (row:=some b4) _ _ _ hg HD;clear hg
   refine tA hf rfl fun a hf=>aa <| ai (fq rfl T25 hf rfl rfl B4 hcs ?_)
   rintro _ rfl
   exact⟨_,rfl,e,by rw[hall];exact Tup.two (Dv.weak HD fun b _ hb=>by rw[hG'];exact .inl hb) rfl⟩
end Go.Mono
namespace Go.Mono
open Go Go.Proofs Go.RowKit Go.Gr
theorem lW {P:Program}{fn:Func}{t u s k:Nat}{R:Ending→World→Prop}{n:Nat}{a:Act}{w:World}{L:Env}{b:Nat}{cs:Array Value}{bt:TypeId}{A:VA}(hr:fn.results = #[.tmp s,.cell t u])(ht:TI P u true k)(hf:Fr n a w L)(h:aG L t=some (E (.pointer (some ⟨b,0,none⟩))))(h':aG L s=some A)
  (hb:Blk w b cs bt) (hs:cs.size=k) (hR:∀x,A.p x w→R (.returned (.tuple #[x,.agg cs])) w):bodyPost P fn R .ret a w:=by
 have hv:a.tmps.getD t undef=.pointer (some ⟨b,0,none⟩):=hf.val t _ h
 have hv':a.tmps[t]?.getD undef=.pointer (some ⟨b,0,none⟩):=by simpa using hv
 obtain⟨d,h1,h2⟩:=ht.u
 have hl:=run_loadVar_row (P:=P) w b bt u cs (0,0) d hb h1 (by cases d <;> simp_all) (by rw[ht.s,hs])
 exact⟨hf.defers,.tuple #[a.eval (.tmp s),.agg cs],by simp[results,hr,Act.eval,hv',asAddr,hl],hR _ (hf.val s A h')⟩
theorem qL {V:List VT}{E:List ET}(h:(ofR V E).2=0):(ofR V E).1.1.length≤V.length+E.length∧(ofR V E).1.2.length≤V.length+E.length:=by
 have:∀(l:List DT) (g:GT) (m:Nat),g.1.length≤m→g.2.length≤m→(l.foldl ofS (g,0)).2=0→(l.foldl ofS (g,0)).1.1.length≤m+l.length∧(l.foldl ofS (g,0)).1.2.length≤m+l.length:=by
  intro l
  induction l with
  | nil=>intro g m h1 h2 _;exact⟨h1,h2⟩
  | cons d l ih=>
   intro g m h1 h2 h3
   rw[List.foldl_cons] at h3 ⊢
   by_cases hd:(doR g d).2=0
   ·have e1:ofS (g,0) d=((doR g d).1,0):=by rw[ofS,if_neg (by simp),if_neg (by simpa using hd)]
    rw[e1] at h3 ⊢
    have:=lK g d
    have h5:=ih (doR g d).1 (m+1) (by omega) (by omega) h3
    rw[List.length_cons];omega
   ·have e1:ofS (g,0) d=(([],[]),(doR g d).2):=by rw[ofS,if_neg (by simp),if_pos hd]
    rw[e1,lV (s:=(([],[]),(doR g d).2)) hd] at h3
    exact absurd h3 hd
 have h2:=this (V.map dV++E.map dE) ([],[]) 0 (Nat.le_refl _) (Nat.le_refl _) h
 simpa[ofR] using h2
theorem qM {V:List VT}{E:List ET}(hV:∀x∈V,0≤x.2.1∧x.2.1<256)(hE:∀x∈E,0≤x.2.1∧x.2.1<256):Gr.Ok (ofR V E).1:=by
 have z:Gr.Ok (([],[]):GT):=⟨List.Pairwise.nil,List.Pairwise.nil,by simp,by simp,by simp⟩
 have:∀(l:List DT) (s:GT×Int),Gr.Ok s.1→(∀d∈l,0≤d.2.2.2.1∧d.2.2.2.1<256)→Gr.Ok (l.foldl ofS s).1:=by
  intro l
  induction l with
  | nil=>intro s h _;exact h
  | cons d l ih=>
   intro s h hl
   rw[List.foldl_cons]
   refine ih _ ?_ fun d hd=>hl d (by simp[hd])
   unfold ofS
   split
   ·exact h
   ·split
    ·exact z
    ·exact xC h (hl d (by simp))
 refine this _ _ z fun d hd=>?_
 rcases List.mem_append.1 hd with h|h
 ·obtain⟨x,hx,rfl⟩:=List.mem_map.1 h;exact hV x hx
 ·obtain⟨x,hx,rfl⟩:=List.mem_map.1 h;exact hE x hx
theorem yO {G:Nat→Prop}(g:GT)(hg:Gr.Ok g)(v u:Value)(W:World)(h1:(Dv (slE vtE) G g.1).p v W)(h2:(Dv (slE etE) G g.2).p u W)(hl1:g.1.length≤1000)(hl2:g.2.length≤1000){K:Nat→Prop}(hK:∀b,K b→b<W.heap.size) :
  Calls Tryz.prog 40 #[v,u] W (Post (Tup [Dv (ptE (grE 2000)) K (some g),E (I 0)]) W):=
 Calls.mono (pH g.1 g.2 v u W h1 h2 (by omega) (by omega) (xD hg) (xE hg)) fun en w' ⟨e,hq⟩=>by
  obtain⟨g',k1,k2,k3⟩:=xF hg
  rcases hq with ⟨g2,b1,b2,b3,q1,rfl,q3,q4,q5,q6⟩|⟨c,q0,q1,_⟩
  ·rw[k1] at q1;cases q1
   exact⟨_,rfl,e,Tup.two ((q6.perm k2 k3).dv (by omega) (fun h=>by have:=hK _ h;omega) (fun h=>by have:=hK _ h;omega) (fun h=>by have:=hK _ h;omega)) rfl⟩
  ·rw[k1] at q1;cases q1
theorem yP (l:List VT)(x:VT):(insV l x).length=l.length+1:=by
 have:=(jv (fun y=>lt1 x.1 y.1) x l).length_eq
 rw[List.length_cons] at this
 exact this
theorem yQ (g:GT)(x:VT):(doR g (dV x)).1.1.length≤g.1.length+1:=by
 unfold doR
 split
 ·exact Nat.le_succ _
 ·rw[if_pos (by rfl)]
  rw[yP]
  exact Nat.le_refl _
theorem yR (g:GT)(x:ET):(doR g (dE x)).1.1=g.1:=by
 unfold doR
 split
 ·rfl
 ·rw[if_neg (show ¬((dE x).1==0)=true from (by decide:¬((2:Int)==0)=true)),if_pos (by rfl)]
theorem yS:∀(l:List VT) (s:GT×Int),((l.map dV).foldl ofS s).1.1.length≤s.1.1.length+l.length:=by
 intro l
 induction l with
 | nil=>intro s;exact Nat.le_refl _
 | cons x l ih=>
  intro s
  rw[List.map_cons,List.foldl_cons]
  refine Nat.le_trans (ih _) ?_
  have h:(ofS s (dV x)).1.1.length≤s.1.1.length+1:=by
   unfold ofS
   split
   ·exact Nat.le_succ _
   ·split
    ·exact Nat.zero_le _
    ·exact yQ s.1 x
  rw[List.length_cons];omega
theorem yT:∀(l:List ET) (s:GT×Int),((l.map dE).foldl ofS s).1.1.length≤s.1.1.length:=by
 intro l
 induction l with
 | nil=>intro s;exact Nat.le_refl _
 | cons x l ih=>
  intro s
  rw[List.map_cons,List.foldl_cons]
  refine Nat.le_trans (ih _) ?_
  unfold ofS
  split
  ·exact Nat.le_refl _
  ·split
   ·exact Nat.zero_le _
   ·dsimp only;rw[yR];exact Nat.le_refl _
theorem yU (V:List VT)(E':List ET):(ofR V E').1.1.length≤V.length:=by
 rw[ofR,List.foldl_append]
 refine Nat.le_trans (yT _ _) (Nat.le_trans (yS V _) ?_)
 simp
end Go.Mono
namespace Go.Mono
open Go Go.Proofs Go.RowKit Go.Gr

def bN (g:GT):List Int:=g.1.map (·.1)

theorem yV {x y:Value}{N:Nat}(h:∀b,x.ownBlock=some b→b<N)(hy:y.ownBlock=some N):∀b,y.ownBlock=some b→x.ownBlock≠some b:=fun b hb hx=>by
 have:=h b hx
 rw[hy] at hb;cases hb;omega
def eW (g:GT)(n:Int)(k:Nat):List Int:=((bN g).take k).filter fun x=>decide (0≤ck g.2 x n)
def dY (g:GT)(n:Int):List Int:=(bN g).filter fun x=>decide (0≤ck g.2 x n)
def onP (g:GT)(n:Int)(j:Nat):Bool:=match g.2[j]? with
 | some y=>y.1.1==n || y.1.2==n
 | none=>false
def eu (g:GT)(n:Int)(k:Nat):List Int:=((List.range k).filter (onP g n)).map fun j:Nat=>(j:Int)
theorem yW {g:GT}{k:Nat}{x:Int}(n:Int)(h:(bN g)[k]?=some x):eW g n (k+1)=eW g n k++if decide (0≤ck g.2 x n)=true then [x] else []:=by
 rw[eW,bs h,List.filter_append,eW,List.filter_cons,List.filter_nil]
theorem yX {g:GT}{k:Nat}{y:ET}(n:Int)(h:g.2[k]?=some y):eu g n (k+1)=eu g n k++if (y.1.1==n || y.1.2==n)=true then [(k:Int)] else []:=by
 rw[eu,List.range_succ,List.filter_append,List.map_append,← eu,List.filter_cons,List.filter_nil,show onP g n k=(y.1.1==n || y.1.2==n) by rw[onP,h]]
 split <;> rfl
theorem yY (g:GT)(n:Int)(k:Nat):(eW g n k).length≤k:=Nat.le_trans (List.length_filter_le _ _) (List.length_take_le _ _)
theorem yZ (g:GT)(n:Int)(k:Nat):(eu g n k).length≤k:=by
 rw[eu,List.length_map]
 have:=List.length_filter_le (onP g n) (List.range k)
 rwa [List.length_range] at this
theorem za {G:Nat→Prop}(g:GT)(n:Int)(v:Value)(W:World)(h:(Dv gtE G g).p v W)(hl:g.1.length≤100000)(hl2:g.2.length≤100000){M:Nat}(hM:M≤W.heap.size) :
  Calls Tryz.prog 70 #[v,I n] W (Post (Tup [OwA intE 3 M G0 (dY g n),Dv (slE intE) G0 (eu g n g.2.length)]) W):=by
 obtain⟨p1,p2,rfl,h1,h2⟩:=Dv.gt.1 (Dv.weak (G':=G0) h fun b _ hb=>hb.elim)
 have hg0:(Dv gtE G0 g).p (.agg #[p1,p2]) W:=Dv.gt.2 ⟨_,_,rfl,h1,h2⟩
 have h1b:=Dv.toB h1
 have h2b:=Dv.toB h2
 have hG:∀b,G0 b→b<W.heap.size:=fun b hb=>hb.elim
 refine eN [.agg #[p1,p2],I n] [E (.agg #[p1,p2]),E (I n)] Tryz.func70 Tryz.ntmps70 ?_ fun a hf=>?_
 rotate_left
 rotate_right
 ·exact arg2 rfl rfl
 have e:=Ext.rfl' W
 refine seq <| ab <| tB hf rfl fun a b2 w v2 hv2 e' hb2 hs2 B2 hf=>?_
 replace e:=e.tr e'
 refine tA hf rfl fun a hf=>tA hf rfl fun a hf=>aa ?_
 cases hv2
 replace B2:Blk w b2 #[p1,p2] 25:=B2
 obtain⟨N,hN⟩:=eqX w.heap.size
 have l2:b2<N:=by rw[hN];exact B2.lt
 have hNs:N≤w.heap.size:=Nat.le_of_eq hN
 have hWN:W.heap.size≤N:=by rw[hN];exact e.size
 refine seq (ab ?_)
 refine kM N G0 intE U35 S3 hf (by decide) hNs (fun b hb=>hb.elim) fun a q1 w e' hov1 H1 hf=>?_
 replace B2:=B2.ext e';replace hNs:=Nat.le_trans hNs e'.size;replace e:=e.tr e';clear e'
 have hlt1:∀b,q1.ownBlock=some b→b<w.heap.size:=fun b hb=>(H1.lt hb).2
 refine kM N G0 intE U35 S3 hf (by decide) hNs (fun b hb=>hb.elim) fun a q2 w e' hov2 H2 hf=>?_
 have hne:=yV hlt1 hov2
 replace H1:=H1.ext e';replace B2:=B2.ext e';replace hNs:=Nat.le_trans hNs e'.size;replace e:=e.tr e';clear e'
 refine tA hf rfl fun a hf=>tA hf rfl fun a hf=>aa ?_
 replace hf:=hf.keep [1,2,6,7]
 obtain⟨N2,hN2⟩:=eqX w.heap.size
 have hlt2:∀b,q2.ownBlock=some b→b<N2:=fun b hb=>by rw[hN2];exact (H2.lt hb).2
 have hN2s:N2≤w.heap.size:=Nat.le_of_eq hN2
 refine seq <| seq ?_
 refine ab <| tA hf rfl fun a hf=>aa ?_
 replace hf:=hf.keep [1,2,6,7,8]
 refine blk (aF (fun r0 a w=>∃(k:Nat) (u1:Value),r0=g.1.length - k∧k≤g.1.length∧Fr 69 a w [(1,E (I n)),(2,E (ptr b2)),(6,E u1),(7,E q2),(8,E (I k))]∧Ext W w∧Blk w b2 #[p1,p2] 25∧OwR intE 3 N G0 w (eW g n k) u1∧OwR intE 3 N G0 w [] q2∧(∀b,q2.ownBlock=some b→u1.ownBlock≠some b)∧N2≤w.heap.size) g.1.length ⟨0,q1,rfl,by omega,hf,e,⟨B2,H1,H2,hne,hN2s⟩⟩ ?_)
 rintro r0 a w ⟨k,u1,rfl,hk,hf,e,B2,H1,H2,hne,hN2s⟩
 refine seq <| seq ?_
 refine rgN 5 hf <| st (mv rfl) <| st (fA U25 rfl T22 rfl) <| st (ld1 T22 rfl B2 rfl) <| st (aB U22 (isE rfl (vst e h1))) <| st (lss rfl rfl) <| en fun a w e' hf=>?_
 obtain⟨H1,H2,hN2s,e,B2⟩:=up5 e' H1 H2 hN2s e B2
 refine aa <| ifc hf rfl (fun hc=>ah ?_) (fun hc=>aC ?_)
 rotate_left
 rotate_left
 ·have hlt:=ltC hc
  replace hf:=hf.kp [1,2,6,7,8]
  refine seq <| blk ?_
  have hx:=List.getElem?_eq_getElem hlt
  generalize g.1[k]=y at hx
  have hxi:(bN g)[k]?=some y.1:=by rw[bN,List.getElem?_map,hx];rfl
  have hsc:=yW n hxi
  have hlk:=yY g n k
  have e0:=e
  refine seq <| rgG 10 Mix.mix hf <| st ((ldW T25 rfl B2 rfl).eq ((rfl:_=Value.agg #[p1,p2]))) <| st (fA U25 rfl T22 rfl) <| st (ld1 T22 rfl B2 rfl) <| st (mv rfl) <| st (aD U22 S45 (isE rfl (vst e h1b)) rfl (by omega) (hx)) <| st (ax U45 rfl T3 (by decide) (Fld.fst Fld.refl) (isR rfl)) <| st (ldI T3 (isR rfl)) <| st (mv rfl) <| st (bX (A:=E (I (ck g.2 y.1 n))) ia rfl rfl rfl (fun v u s w he k1 k2 k3=>by cases k1;cases k2;cases k3;exact jr g _ _ _ w (vst (e0.tr he) hg0) hl2)) ?_
  refine st (geq rfl rfl) <| en fun a w e' hf=>?_
  obtain⟨H1,H2,hN2s,e,B2⟩:=up5 e' H1 H2 hN2s e B2
  refine aa <| ifc hf rfl (fun hb=>?_) (fun hb=>?_)
  ·have hb':=of_decide_eq_true hb
   rw[if_pos (decide_eq_true hb')] at hsc
   replace hf:=hf.kp [1,2,6,7,8]
   refine rgN 8 hf <| st (mv rfl) <| st (fA U25 rfl T22 rfl) <| st (ld1 T22 rfl B2 rfl) <| st (mv rfl) <| st (aD U22 S45 (isE rfl (vst e h1b)) rfl (by omega) (hx)) <| st (ax U45 rfl T3 (by decide) (Fld.fst Fld.refl) (isR rfl)) <| st (ldI T3 (isR rfl)) <| st (aW U35 I3 rfl (by decide) rfl H1.avs (isI rfl)) <| en fun a w e' hf=>?_
   obtain⟨B2,H2⟩:=up2 e' B2 H2
   replace hne:=hne
   obtain⟨hN2s,H1,e⟩:=up3 e' hN2s H1 e
   haveI hin:∀G0,InR (GB W G0) _:=OwR.inGB (W:=W) H1 hWN
   refine br U35 I3 rfl rfl hf (by decide) rfl H1 (isR rfl) (by simp only[List.length_singleton];omega) (by simp only[List.length_singleton,maxLen];omega) fun a v w hg hat Hn hf=>?_
   replace e:=e.gro hg (H1.row (W:=W) hWN)
   have hrow:=H1.row (W:=W) hWN
   replace B2:=B2.gro hg (H1.neLt l2)
   replace H2:=H2.groE hg hne
   replace hne:=fun b hb=>kN hat (hne b hb) (Nat.lt_of_lt_of_le (hlt2 b hb) hN2s)
   replace hN2s:=Nat.le_trans hN2s hg.size
   replace H1:=Hn
   replace H1:=Hn;clear Hn hg hat hin
   refine tA hf rfl fun a hf=>aa ?_
   rw[← hsc] at H1
   refine rgN 2 hf <| st (mv rfl) <| st ((add rfl rfl (by omega)).eq (iN k)) <| en fun a w e' hf=>?_
   obtain⟨B2,H2⟩:=up2 e' B2 H2
   replace hne:=hne
   obtain⟨hN2s,H1,e⟩:=up3 e' hN2s H1 e
   refine tA hf rfl fun a hf=>aa ?_
   replace hf:=hf.keep [1,2,6,7,8]
   refine⟨_,?_,k+1,_,rfl,by omega,hf,e,?_⟩
   ·omega
   exact⟨B2,H1,H2,hne,hN2s⟩
  ·have hb':=of_decide_eq_false hb
   rw[if_neg (by simpa using hb'),List.append_nil] at hsc
   rw[← hsc] at H1
   refine ah <| rgN 2 hf <| st (mv rfl) <| st ((add rfl rfl (by omega)).eq (iN k)) <| en fun a w e' hf=>?_
   obtain⟨B2,H2⟩:=up2 e' B2 H2
   replace hne:=hne
   obtain⟨hN2s,H1,e⟩:=up3 e' hN2s H1 e
   refine tA hf rfl fun a hf=>aa ?_
   replace hf:=hf.keep [1,2,6,7,8]
   refine⟨_,?_,k+1,_,rfl,by omega,hf,e,?_⟩
   ·omega
   exact⟨B2,H1,H2,hne,hN2s⟩
 ·obtain rfl:=dnE hc hk
  rw[show eW g n g.1.length=dY g n by rw[eW,dY,show g.1.length=(bN g).length by simp[bN],List.take_length]] at H1
  obtain⟨N1,hN1⟩:=eqX w.heap.size
  have hlt1:∀b,u1.ownBlock=some b→b<N1:=fun b hb=>by rw[hN1];exact (H1.lt hb).2
  have hN1s:N1≤w.heap.size:=Nat.le_of_eq hN1
  have hne1:∀b,u1.ownBlock=some b→q2.ownBlock≠some b:=fun b h1 h2=>hne b h2 h1
  replace hf:=hf.keep [1,2,6,7]
  refine seq <| seq ?_
  refine ab <| tA hf rfl fun a hf=>aa ?_
  replace hf:=hf.keep [1,2,6,7,9]
  refine blk (aF (fun r0 a w=>∃(k:Nat) (u2:Value),r0=g.2.length - k∧k≤g.2.length∧Fr 69 a w [(1,E (I n)),(2,E (ptr b2)),(6,E u1),(7,E u2),(9,E (I k))]∧Ext W w∧Blk w b2 #[p1,p2] 25∧OwR intE 3 N G0 w (dY g n) u1∧OwR intE 3 N G0 w (eu g n k) u2∧(∀b,u1.ownBlock=some b→u2.ownBlock≠some b)∧N1≤w.heap.size) g.2.length ⟨0,q2,rfl,by omega,hf,e,⟨B2,H1,H2,hne1,hN1s⟩⟩ ?_)
  rintro r0 a w ⟨k,u2,rfl,hk,hf,e,B2,H1,H2,hne1,hN1s⟩
  refine seq <| seq ?_
  refine rgN 5 hf <| st (mv rfl) <| st (fA U25 rfl T23 rfl) <| st (ld1 T23 rfl B2 rfl) <| st (aB U23 (isE rfl (vst e h2))) <| st (lss rfl rfl) <| en fun a w e' hf=>?_
  obtain⟨H1,H2,hN1s,e,B2⟩:=up5 e' H1 H2 hN1s e B2
  refine aa <| ifc hf rfl (fun hc=>ah ?_) (fun hc=>aC ?_)
  rotate_left
  rotate_left
  ·have hlt:=ltC hc
   replace hf:=hf.keep [1,2,6,7,9]
   refine seq <| blk ?_
   have hx:=List.getElem?_eq_getElem hlt
   generalize g.2[k]=y at hx
   have hsc:=yX n hx
   have hlk:=yZ g n k
   refine seq <| rgN 18 hf <| st (fA U25 rfl T23 rfl) <| st (ld1 T23 rfl B2 rfl) <| st (mv rfl) <| st (aD U23 S51 (isE rfl (vst e h2b)) rfl (by omega) (hx)) <| st (ax U51 rfl T3 (by decide) (Fld.fst (Fld.fst Fld.refl)) (isR rfl)) <| st (ldI T3 (isR rfl)) <| st (mv rfl) <| st (eql rfl rfl) <| st (mv rfl) <| sgE rfl rfl (.k 2 rfl .n) (fun hgd=>fA U25 rfl T23 rfl) <| sgE rfl rfl (.c 54 rfl (fun h=>h) .n) (fun hgd=>ld1 T23 rfl B2 rfl) <| sgE rfl rfl (.k 9 rfl .n) (fun hgd=>mv rfl) <| sgE rfl rfl (.c 55 rfl (fun h=>h) (.c 56 rfl (fun h=>h) .n)) (fun hgd=>aD U23 S51 (isE rfl (vst e h2b)) rfl rfl (hx)) <| sgE rfl rfl (.c 57 rfl (fun h=>h) .n) (fun hgd=>ax U51 rfl T3 (by decide) (Fld.fst (Fld.snd Fld.refl rfl)) (isR rfl)) <| sgE rfl rfl (.c 58 rfl (fun h=>h) .n) (fun hgd=>ldI T3 (isR rfl)) <| sgE rfl rfl (.k 1 rfl .n) (fun hgd=>mv rfl) <| sgE rfl rfl (.c 59 rfl (fun h=>h) (.c 60 rfl (fun h=>h) .n)) (fun hgd=>eql rfl rfl) <| st (bD rfl rfl (fun h=>by rw[h];rfl)) ?_
   refine en fun a w e' hf=>?_
   obtain⟨H1,H2,hN1s,e,B2⟩:=up5 e' H1 H2 hN1s e B2
   refine aa <| ifc hf rfl (fun hb=>?_) (fun hb=>?_)
   ·rw[if_pos hb] at hsc
    replace hf:=hf.kp [1,2,6,7,9]
    refine rgN 3 hf <| st (mv rfl) <| st (mv rfl) <| st (aW U35 I3 rfl (by decide) rfl H2.avs (isI rfl)) <| en fun a w e' hf=>?_
    obtain⟨B2,H1⟩:=up2 e' B2 H1
    replace hne1:=hne1
    obtain⟨hN1s,H2,e⟩:=up3 e' hN1s H2 e
    haveI hin:∀G0,InR (GB W G0) _:=OwR.inGB (W:=W) H2 hWN
    refine br U35 I3 rfl rfl hf (by decide) rfl H2 (isR rfl) (by simp only[List.length_singleton];omega) (by simp only[List.length_singleton,maxLen];omega) fun a v w hg hat Hn hf=>?_
    replace e:=e.gro hg (H2.row (W:=W) hWN)
    have hrow:=H2.row (W:=W) hWN
    replace B2:=B2.gro hg (H2.neLt l2)
    replace H1:=H1.groE hg hne1
    replace hne1:=fun b hb=>kN hat (hne1 b hb) (Nat.lt_of_lt_of_le (hlt1 b hb) hN1s)
    replace hN1s:=Nat.le_trans hN1s hg.size
    replace H2:=Hn
    replace H2:=Hn;clear Hn hg hat hin
    refine tA hf rfl fun a hf=>aa ?_
    rw[← hsc] at H2
    refine rgN 2 hf <| st (mv rfl) <| st ((add rfl rfl (by omega)).eq (iN k)) <| en fun a w e' hf=>?_
    obtain⟨B2,H1⟩:=up2 e' B2 H1
    replace hne1:=hne1
    obtain⟨hN1s,H2,e⟩:=up3 e' hN1s H2 e
    refine tA hf rfl fun a hf=>aa ?_
    replace hf:=hf.kp [1,2,6,7,9]
    refine⟨_,?_,k+1,_,rfl,by omega,hf,e,?_⟩
    ·omega
    exact⟨B2,H1,H2,hne1,hN1s⟩
   ·rw[if_neg (by simpa using hb),List.append_nil] at hsc
    rw[← hsc] at H2
    refine ah <| rgN 2 hf <| st (mv rfl) <| st ((add rfl rfl (by omega)).eq (iN k)) <| en fun a w e' hf=>?_
    obtain⟨B2,H1⟩:=up2 e' B2 H1
    replace hne1:=hne1
    obtain⟨hN1s,H2,e⟩:=up3 e' hN1s H2 e
    refine tA hf rfl fun a hf=>aa ?_
    replace hf:=hf.keep [1,2,6,7,9]
    refine⟨_,?_,k+1,_,rfl,by omega,hf,e,?_⟩
    ·omega
    exact⟨B2,H1,H2,hne1,hN1s⟩
  ·obtain rfl:=dnE hc hk
   replace hf:=hf.keep [6,7]
   refine seq <| rgN 2 hf <| st (mv rfl) <| st (mv rfl) <| en fun a w e' hf=>?_
   obtain⟨H1,H2,e⟩:=up3 e' H1 H2 e
   refine tA hf rfl fun a hf=>tA hf rfl fun a hf=>aa <| ai (fh rfl hf rfl rfl ?_)
   rintro _ _ rfl rfl
   exact⟨_,rfl,e,Tup.two (H1.low (Nat.le_trans hM hWN) fun b hb=>hb.elim) (Dv.weak H2.sl fun b _ hb=>hb.elim)⟩
end Go.Mono
namespace Go.Mono
open Go Go.RowKit
def FuA (te:TypeId)(N:Nat)(xs:List Int):VA:=⟨fun v w=>∃b,N≤b∧v=.slice (some ⟨b,0,none⟩) xs.length xs.length∧Blk w b (xs.map (Value.int .i64)).toArray te,fun v w w' e ⟨b,h1,h2,h3⟩=>⟨b,h1,h2,h3.ext e⟩⟩
theorem lX {G:Nat→Prop}{w:World}:∀l:List Int,Cells intE G w l (l.map (Value.int .i64))
 | []=>rfl
 | d::l=>⟨[.int .i64 d],l.map (Value.int .i64),rfl,rfl,lX l⟩
theorem qN {G:Nat→Prop}{w:World}:∀{l:List Int} {cs:List Value},Cells intE G w l cs→cs=l.map (Value.int .i64)
 | [],cs,h=>h
 | x::l,cs,⟨c,d,h,h1,h2⟩=>by
  have:c=[.int .i64 x]:=h1
  rw[h,this,qN h2];rfl
section
variable {P:Program}{w0:World}{L:Env}{dst:Option Tmp}{ty:TypeId}{pos:String}{aft:Array Edge}{g:Option (Nat×Bool)}{t te:TypeId}{N:Nat}
theorem qO {s:Nat}(ht:P.underlying t=some (.slice te))(hi:(P.info? te).map (·.size)=some s)(hN:N≤w0.heap.size):OpC P w0 L ⟨dst,.buildSlice t 0 #[],ty,pos,aft,g⟩ (FuA te N []):=by
 refine⟨fun ρ w he hv=>?_⟩
 have hrun:(execOp ρ ⟨dst,.buildSlice t 0 #[],ty,pos,aft,g⟩).run P w=.ok (.value (.slice (some ⟨w.heap.size,0,none⟩) 0 0)) (w.alloc (.cells #[] te)):=by
  cases hit:P.info? te with
  | none=>simp[hit] at hi
  | some i=>simp[execOp,Instr.buildSlice,run_underlying ht,sizeOf,typeInfo,hit,Instr.fill,newRow,Array.range_zero']
 simp only[OpR,hrun]
 exact⟨cT _ _,w.heap.size,Nat.le_trans hN he.size,rfl,dO w _ _⟩
theorem qP {x y:Operand}{G:Nat→Prop}{xs ys:List Int}{bz:Nat}{z0:Value}(ht:P.underlying t=some (.slice te))(hi:(P.info? te).map (fun i=>(i.zero,i.size,i.bytes))=some (some z0,1,bz))(hz0:z0.cells.size=1)
  (hx:opd L x=some (FuA te N xs)) (hy:Is L w0 y (Dv (slE intE) G ys)) (hN:N≤w0.heap.size) (h63:xs.length+ys.length≤maxLen) (hb:(xs.length+ys.length) * bz≤140737488355328) :
  OpC P w0 L ⟨dst,.call ⟨.builtin .append,#[x,y],#[t,t]⟩,ty,pos,aft,g⟩ (OwA intE te N (fun _=>False) (xs++ys)):=by
 refine⟨fun ρ w he hv=>?_⟩
 obtain⟨it,hit,hiz,hsz',hbz⟩:=info_parts hi
 obtain⟨b,hNb,hxv,hB⟩:=hv x (by simp[Op.operands,Call.operands]) _ hx
 have hyv:=hy.v he hv (by simp[Op.operands,Call.operands])
 have hcx:∀j u,(xs.map (Value.int .i64))[j]?=some u→w.cell? ((⟨b,0,none⟩:Addr).add j)=some u:=fun j u hu=>by
  rw[Addr.add_lit,hB.cell,List.getElem?_toArray,Nat.zero_add];exact hu
 have own:w.ownsRow N te 1 (.slice (some ⟨b,0,none⟩) xs.length xs.length) xs.length (xs.map (Value.int .i64)):=by
  refine⟨by simp,.inr ⟨b,xs.length,_,rfl,hNb,hB,Nat.le_refl _,?_,by simp,?_⟩⟩
  ·exact Nat.le_trans (Nat.le_add_right _ _) h63
  ·rw[Nat.mul_one,List.take_of_length_le (by simp)]
 have nothing:∀u,Src P it.size t u 0 [] w→ys=[]→ρ y=u→OpR P ⟨dst,.call ⟨.builtin .append,#[x,y],#[t,t]⟩,ty,pos,aft,g⟩ ρ w (fun v w'=>Ext w w'∧(OwA intE te N (fun _=>False) (xs++ys)).p v w'):=fun u hs hys hu=>by
  have h1:=run_append_nothing (P:=P) w t t ty te it ht hit (some ⟨b,0,none⟩) xs.length xs.length (Nat.le_refl _) u hs
  simp only[OpR,execOp,resolve,invoke,builtin,Sem.run_bind,Sem.run_pure,Result.andThen_ok,List.map_toArray,List.map_cons,List.map_nil,hxv,hu,h1]
  refine⟨Ext.rfl' _,?_⟩
  rw[hys,List.append_nil]
  exact⟨⟨_,own,lX _⟩,fun b hb=>hb.elim,Nat.le_trans hN he.size⟩
 rcases Dv.sl.1 hyv with ⟨hy0,hys⟩|⟨ad,cap,ds,hy0,_,h3,h4,h5,h6⟩
 ·refine nothing _ ⟨.inl ⟨_,ht⟩,fun w'=>?_,?_,?_,by simp,by simp⟩ hys hy0
  ·simp[Builtin.lenOf]
  ·simp[Builtin.firstCells]
  ·simp[Builtin.firstCells]
 ·have hds:=qN h5
  subst hds
  by_cases hys:ys=[]
  ·subst hys
   refine nothing _ ⟨.inl ⟨_,ht⟩,fun w'=>?_,?_,?_,by simp,by simp⟩ rfl hy0
   ·simp[Builtin.lenOf]
   ·exact run_firstCells_some (P:=P) w it.size 0 ad 0 cap [] (by simp) (fun j u hu=>by simp at hu)
   ·exact run_firstCells_some (P:=P) w.drew it.size 0 ad 0 cap [] (by simp) (fun j u hu=>by simp at hu)
  ·have hpos:0<ys.length:=List.length_pos_iff.2 hys
   obtain⟨v',w',r1,r2,r3⟩:=run_append_arg_grows (P:=P) w t ty te it z0 1 bz ht hit hiz hsz' hbz hz0 (by decide) ⟨b,0,none⟩ xs.length xs.length (xs.map (Value.int .i64)) (by simp) hcx ad ys.length cap (ys.map (Value.int .i64)) (by simp) h6 (by omega) h63 hb
   simp only[OpR,execOp,resolve,invoke,builtin,Sem.run_bind,Sem.run_pure,Result.andThen_ok,List.map_toArray,List.map_cons,List.map_nil,hxv,hy0,r1]
   refine⟨⟨r3.os,r3.tape,r3.output,r3.size,fun b hb=>r3.block b hb (by simp)⟩,⟨_,?_,by have:=lX (G:=GO (fun _=>False) v') (w:=w') (xs++ys);rwa [List.map_append] at this⟩,fun b hb=>hb.elim,Nat.le_trans (Nat.le_trans hN he.size) r3.size⟩
   obtain⟨q1,q2⟩:=r2
   refine⟨by simp[show intE.k=1 from rfl],?_⟩
   rcases q2 with ⟨k1,k2⟩|⟨gg,cap2,cur,k1,k2,k3,k4,k5,k6,k7⟩
   ·omega
   ·exact .inr ⟨gg,cap2,cur,by rw[List.length_append];exact k1,Nat.le_trans (Nat.le_trans hN he.size) k2,k3,by rw[List.length_append];exact k4,k5,k6,by rw[List.length_append];exact k7⟩
theorem zb {α:Type}{e:Enc α}{G:Nat→Prop}{x y:Operand}{xs:List α}{i:Nat}(ht:P.underlying t=some (.slice te))(hs:(P.info? te).map (·.size)=some e.k)(hx:Is L w0 x (Dv (slE e) G xs))(hy:opd L y=some (E (.int .i64 (i:Nat))))(hi:i≤xs.length) :
  OpC P w0 L ⟨dst,.slice t x (some y) none none,ty,pos,aft,g⟩ (Dv (slE e) G (xs.drop i)):=
 aP fun ρ w he hv=>by
  have h:=Dv.sl.1 (hx.v he hv (by simp[Op.operands]))
  have h2:=opE hv (x:=y) (by simp[Op.operands]) hy
  rcases h with ⟨h,rfl⟩|⟨ad,cap,cs,h,hc,h3,h4,h5,h6⟩
  ·have hi0:i=0:=by simpa using hi
   subst hi0
   refine⟨.slice none 0 0,?_,Dv.nil⟩
   simp[execOp,h,h2,Instr.sliceAt,Instr.slice,Instr.sliceBounds,Instr.sliceBound,asIntOf,run_underlying ht,gU hs]
  ·have h8:=h5.drop i
   have hxl:(xs.drop i).length=xs.length - i:=List.length_drop
   by_cases hcap:(cap:Int)=(i:Nat)
   ·have hl0:xs.length - i=0:=by omega
    have hd0:xs.drop i=[]:=List.drop_eq_nil_of_le (by omega)
    rw[hd0]
    refine⟨.slice (some ad) 0 0,?_,Dv.sl.2 (.inr ⟨ad,0,[],rfl,Nat.le_refl _,h3,h4,rfl,fun j u hu=>by simp at hu⟩)⟩
    have hi1:(0:Int)≤(i:Int)∧(i:Int)≤(xs.length:Int):=by omega
    have hl1:xs.length=i:=by omega
    have hc1:cap=i:=by omega
    subst hc1
    simp[execOp,h,h2,Instr.sliceAt,Instr.slice,Instr.sliceBounds,Instr.sliceBound,asIntOf,run_underlying ht,gU hs,hl1]
   ·refine⟨.slice (some (ad.add (i * e.k))) (xs.drop i).length (cap - i),?_,Dv.sl.2 (.inr ⟨ad.add (i * e.k),cap - i,cs.drop (i * e.k),rfl,by rw[hxl];omega,by simpa[add_block] using h3,by simpa[add_block] using h4,h8,fun j u hu=>?_⟩)⟩
    ·have hne:¬cap=i:=fun hh=>hcap (by rw[hh])
     have hne2:¬cap - i=0:=by omega
     have hle:(i:Int)≤(xs.length:Int):=by omega
     have hle2:i≤cap:=by omega
     have hle3:i≤xs.length:=hi
     simp[execOp,h,h2,Instr.sliceAt,Instr.slice,Instr.sliceBounds,Instr.sliceBound,asIntOf,run_underlying ht,gU hs,hne,hne2,hle,hle2,hle3,hc]
    ·rw[Go.Deep.add_add]
     rw[List.getElem?_drop] at hu
     exact h6 _ _ hu
end
end Go.Mono
namespace Go.Mono
open Go Go.Proofs Go.RowKit Go.Gr

section
variable {g:GT}
theorem lY (G:Gr.Ok g)(i j:Nat):0≤ck g.2 (i:Int) (j:Int)↔Adj g i j:=by
 unfold ck
 cases hf:g.2.findIdx? (fun y=>gk y (i:Int) (j:Int)) with
 | none=>
  refine⟨fun h=>by simp at h,fun⟨x,hx,h⟩=>?_⟩
  have h1:=List.findIdx?_eq_none_iff.1 hf x hx
  rw[gk] at h1
  rcases h with h|h <;> rw[h] at h1 <;> simp at h1
 | some p=>
  obtain⟨hp,h1,_⟩:=List.findIdx?_eq_some_iff_getElem.1 hf
  refine⟨fun _=>⟨g.2[p],List.getElem_mem hp,?_⟩,fun _=>by simp⟩
  rw[gk,Bool.or_eq_true,Bool.and_eq_true,Bool.and_eq_true,beq_iff_eq,beq_iff_eq,beq_iff_eq,beq_iff_eq] at h1
  rcases h1 with ⟨h1,h2⟩|⟨h1,h2⟩
  ·exact .inl (Prod.ext h1 h2)
  ·exact .inr (Prod.ext h1 h2)
theorem fF (G:Gr.Ok g):∀i j:Nat,(nbA g (i:Int)).getLsbD j=true→(nbA g (j:Int)).getLsbD i=true:=fun i j h=>(dx G).2 ((dx G).1 h).symm
end
end Go.Mono
namespace Go.Mono
open Go Go.RowKit
theorem zd {P:Program}(w:World)(d:Nat)(t:TypeId)(p q:Option Addr)(h:P.underlying t=some (.pointer (P.pointee t)))(hpq:p=none∨q=none):(Op.equalIn (d+1) t (.pointer p) (.pointer q)).run P w=.ok (p.isNone&&q.isNone) w:=by
 rcases hpq with rfl|rfl
 ·cases q <;> simp[Op.equalIn,run_underlying h]
 ·cases p <;> simp[Op.equalIn,run_underlying h]
theorem ze {P:Program}(w:World)(t:TypeId)(p q:Option Addr)(h:P.underlying t=some (.pointer (P.pointee t)))(hpq:p=none∨q=none):(Op.equal t (.pointer p) (.pointer q)).run P w=.ok (p.isNone&&q.isNone) w:=zd w 9999 t p q h hpq
theorem iz {P:Program}{w0:World}{L:Env}{dst:Option Tmp}{ty:TypeId}{pos:String}{aft:Array Edge}{g:Option (Nat×Bool)}{x y:Operand}{t yt pe:TypeId}{p q:Option Addr}(ht0:P.underlying t=some (.pointer pe))(hx:opd L x=some (E (.pointer p)))(hy:opd L y=some (E (.pointer q)))(hpq:p=none∨q=none) :
  OpC P w0 L ⟨dst,.binOp .eql t x y yt,ty,pos,aft,g⟩ (E (.bool (p.isNone&&q.isNone))):=
 iR hx hy (fun w=>rfl) rfl fun w _=>ze w t p q (nF ht0) hpq
end Go.Mono
namespace Go.Mono
open Go Go.Proofs Go.RowKit Go.Gr
section
variable {g:GT}
end
theorem zf {P:Program}{w0:World}{L:Env}{ty:TypeId}{pos:String}{aft:Array Edge}{x y:Operand}{t bt:TypeId}{b off:Nat}{v:Value}{cs:Array Value}(ht:TI P t false 1)(hx:opd L x=some (E (.pointer (some ⟨b,off,none⟩))))(hy:opd L y=some (E v))(h1:v.oneCell'=true)(hb:Blk w0 b cs bt)(ho:off<cs.size) :
  cG P w0 (Chg fun c=>c=b) (fun w'=>Blk w' b (cs.setIfInBounds off v) bt) L ⟨none,.store t x y,ty,pos,aft,none⟩ Any:=by
 refine⟨fun ρ w he hv=>?_⟩
 have hxv:ρ x=.pointer (some ⟨b,off,none⟩):=hv x (by simp[Op.operands]) _ hx
 have hyv:ρ y=v:=hv y (by simp[Op.operands]) _ hy
 have hc:v.cells = #[v]:=by cases v <;> simp[Value.cells,Value.oneCell'] at h1 ⊢
 have hb':=hb.ext he
 have hrun:=run_storeCells_at (P:=P) b off bt [v] 0 cs w hb' (by simp;omega) (by simpa using h1)
 have e:=ni cs off v ho
 simp only[List.length_singleton,Nat.add_zero] at hrun
 rw[e] at hrun
 have hrun2:OpR P ⟨none,.store t x y,ty,pos,aft,none⟩ ρ w (fun _ w'=>w'=w.setRow b (cs.setIfInBounds off v)):=by
  simp[OpR,execOp,Instr.storeAt,Instr.sureAddr,hxv,hyv,storeVar,hc,ht.size,hrun]
 refine hrun2.mono ?_
 rintro u w' rfl
 have hg:=dC w b (cs.setIfInBounds off v)
 exact⟨⟨hg.os,hg.tape,hg.output,hg.size,fun k hk hn=>hg.block k hk fun hh=>hn (by cases hh;rfl)⟩,trivial,setRow_heap _ _ _ _ _ _ hb'⟩
end Go.Mono
namespace Go.Mono
open Go Go.Proofs Go.RowKit

def ae (l:List Nat):List Int:=l.map fun i:Nat=>(i:Int)
structure AqJ (W:World)(N b2 B:Nat)(s:List Nat)(w:World):Prop where
 e:Ext W w
 t:Tab w
 p:∃u,Blk w b2 #[u] 35∧OwR intE 3 N G0 w (ae s) u∧∀g,u.ownBlock=some g→¬aX B g
theorem AqJ.kp {W:World}{N b2 B:Nat}{s:List Nat}{w w':World}(h:AqJ W N b2 B s w)(k:Kp B w w')(hW:W.heap.size≤B)(h0:0<B)(l2:b2<B):AqJ W N b2 B s w':=by
 obtain⟨u,q1,q2,q3⟩:=h.p
 exact⟨h.e.kp k hW,h.t.kp k h0,⟨u,q1.kp k (fun hh=>by have:=hh.1;omega),q2.chE k.chg q3,q3⟩⟩
theorem zg (S:BS)(b:Nat)(W:World)(hT:Tab W)(hb:Blk W b (aJ S) 76) :
  Calls Tryz.prog 136 #[.slice none 0 0,cY b] W (Post (OwA intE 3 W.heap.size G0 (ae (aj S))) W):=by
 have hT0:=hT.lt
 refine cO (args:=[.slice none 0 0,cY b]) (As:=[E (.slice none 0 0),E (cY b)]) Tryz.func136 rfl Tryz.ntmps136 (Nat.le_of_ble_eq_true rfl) ?_ (fun a hf=>?_) (Nat.le_of_ble_eq_true rfl)
 ·exact arg2 rfl rfl
 dsimp only[params,Nat.reduceAdd] at hf
 have e:=Ext.rfl' W
 refine seq <| ab <| tB hf rfl fun a b2 w v2 hv2 e' hb2 hs2 B2 hf=>?_
 have hle2:=Nat.le_trans e.size (Nat.le_of_eq hb2.symm)
 obtain⟨hT,e,hb⟩:=up3 e' hT e hb
 refine tA hf rfl fun a hf=>aa ?_
 cases hv2
 replace B2:Blk w b2 #[.slice none 0 0] 35:=B2
 replace hf:=hf.keep [1,2]
 refine seq <| seq ?_
 refine rgN 1 hf <| st (mv rfl) <| en fun a w e' hf=>?_
 obtain⟨hT,e,hb,B2⟩:=up4 e' hT e hb B2
 refine aa ?_
 replace hf:=hf.kp [2,6]
 have n2:W.heap.size≤b2:=hle2
 have hBW:W.heap.size≤w.heap.size:=e.size
 have h0w:0<w.heap.size:=hT.lt
 have l2:=B2.lt
 have hel:=eT S
 obtain⟨N,hN⟩:=eqX w.heap.size
 have hNs:N≤w.heap.size:=Nat.le_of_eq hN
 have l2N:b2<N:=by omega
 have hWN:W.heap.size≤N:=by omega
 refine blk <| db (S:=S) hf rfl hb (by decide) (fun s w1=>AqJ W N b2 w.heap.size s w1) (fun _ _=>False) (fun s w1 h=>h.t)
  ⟨e,hT,⟨_,B2,OwR.nil intE _ hNs (fun b hb=>hb.elim),fun g hg=>by cases hg⟩⟩ (fun s w1 w2 h hs k=>h.kp k hBW h0w l2) (fun _ _ _ h=>h.elim) ?_ ?_ (fun _ _ _ _ _ _ h=>h.elim)
 ·intro lp s x rest a1 w1 hs hJ hlw hf
  have hsl:s.length≤1024:=by rw[hs] at hel;simp at hel;omega
  generalize hBz:w.heap.size=Bz at *
  refine ab <| tA hf rfl fun a hf=>aa <| ⟨Kh.rfl' _ _,fun w3 k3 hsz3=>?_⟩
  have hJ3:=hJ.kp k3 hBW h0w l2
  have hw3:Bz+3≤w3.heap.size:=by omega
  replace hf:=hf.pure w3
  obtain⟨e,hT,⟨u,B2,Ho,lH⟩⟩:=hJ3
  have kh:=Kh.rfl' Bz w3
  replace hf:=hf.kp [2,5]
  refine blk ?_
  have hln:(ae s).length=s.length:=by simp[ae]
  refine rgN 3 hf <| st (ld1 (v:=u) T35 rfl B2 rfl) <| st (mv rfl) <| st (aW U35 I3 rfl (by decide) rfl Ho.avs (isI rfl)) <| en fun a w e' hf=>?_
  replace hT:=hT.ext e'
  replace kh:=kh.tr (Kh.ext e')
  obtain⟨hw3,e,B2,Ho⟩:=up4 e' hw3 e B2 Ho
  have hrow:∀b,u.ownBlock=some b→N≤b:=fun b hb=>(Ho.lt hb).1
  refine br U35 I3 rfl rfl hf (by decide) rfl Ho (isR rfl) (by rw[hln,List.length_singleton];omega) (by rw[hln,List.length_singleton];simp only[maxLen];omega) fun a u' w hg hat Hn hf=>?_
  replace B2:=B2.gro hg (Ho.neB B2 (by decide))
  replace e:=e.gro hg (fun b hb=>by have:=hrow b hb;omega)
  replace hT:=hT.gro hg (fun b hb=>by have:=hrow b hb;omega)
  replace kh:=kh.tr (Kh.gro hg lH)
  have lH':=wz hat lH hw3
  have z2:u'.ownBlock≠some b2:=Hn.neB B2 (by decide)
  have hone:=Hn.one
  replace hf:=hf.kp [2,5,11]
  refine aI T35 hf rfl rfl hone B2 Nat.zero_lt_one fun w hg hsz B2 hf=>?_
  replace B2:Blk w b2 #[u'] 35:=B2
  obtain⟨e,hT⟩:=gr2 hg e hT
  replace kh:=kh.tr (Kh.gr hg (fun hh=>by have:=hh.1;omega))
  replace Hn:=Hn.grE hg z2
  refine aa ?_
  simp only[Exit.inBlock]
  exact⟨⟨e,hT,⟨u',B2,by rw[ae,List.map_append];exact Hn,lH'⟩⟩,kh⟩
 ·intro a' w' hf' hJ hsz hDn
  simp only[Exit.inBlock,↓reduceIte,Exit.then]
  have hD:Ds [w.heap.size] w':=(Ds.nil w').cons hDn (by simp)
  have hf:FrD 13 (bL [w.heap.size]) a' w' [(2,E (ptr b2))]:=hf'.keep [2]
  have hDW:∀d∈[w.heap.size],W.heap.size≤d:=fun d hd=>by rw[List.mem_singleton] at hd;omega
  obtain⟨e,hT,⟨u,B2,Ho,_⟩⟩:=hJ
  generalize [w.heap.size]=D2 at *
  generalize w'=w at *
  refine seq <| rgN 1 hf <| st (ld1 (v:=u) T35 rfl B2 rfl) <| en fun a w e' hf=>?_
  obtain⟨e,B2,hD,Ho⟩:=up4 e' e B2 hD Ho
  refine tA hf rfl fun a hf=>aa <| ai <| gj rfl hf rfl hD ⟨_,rfl,e.shut hDW,?_⟩
  exact (Ho.chE (dU D2 w) fun b hb hm=>Ho.neDs hD hm hb).low hWN fun b hb=>hb.elim
end Go.Mono
namespace Go.Mono

theorem eX (S:BS):(aj S).Pairwise (· < ·):=List.Pairwise.filter _ (List.pairwise_lt_range (n:=1024))
theorem zh {C S:BS}(h:∀i,C.getLsbD i=true→S.getLsbD i=true)(he:card C=card S):C=S:=by
 refine fC fun k=>⟨h k,fun hk=>?_⟩
 apply Classical.byContradiction
 intro hn
 have:=gp h hk hn
 omega
section
variable {t:List (Int×BS)}{S:BS}
end
end Go.Mono
namespace Go.Mono
open Go Go.Proofs Go.RowKit Go.Gr

theorem jH:∀(l m:List Int),l.Pairwise (· < ·)→m.Pairwise (· < ·)→(∀x,x∈l↔x∈m)→l=m
 | [],[],_,_,_=>rfl
 | [],b::m,_,_,h=>absurd ((h b).2 (List.mem_cons_self ..)) (by simp)
 | a::l,[],_,_,h=>absurd ((h a).1 (List.mem_cons_self ..)) (by simp)
 | a::l,b::m,hl,hm,h=>by
  obtain⟨l1,l2⟩:=List.pairwise_cons.1 hl
  obtain⟨m1,m2⟩:=List.pairwise_cons.1 hm
  have hab:a=b:=by
   rcases List.mem_cons.1 ((h a).1 (List.mem_cons_self ..)) with h1|h1
   ·exact h1
   rcases List.mem_cons.1 ((h b).2 (List.mem_cons_self ..)) with h2|h2
   ·exact h2.symm
   have:=m1 _ h1;have:=l1 _ h2;omega
  subst hab
  rw[jH l m l2 m2 fun x=>?_]
  constructor
  ·intro hx
   rcases List.mem_cons.1 ((h x).1 (List.mem_cons_of_mem _ hx)) with h1|h1
   ·have:=l1 _ hx;omega
   ·exact h1
  ·intro hx
   rcases List.mem_cons.1 ((h x).2 (List.mem_cons_of_mem _ hx)) with h1|h1
   ·have:=m1 _ hx;omega
   ·exact h1
section
variable {g:GT}{th:List Int}
theorem jI (G:Gr.Ok g){x:Int}:x∈bN g↔∃u:Nat,x=(u:Int)∧(vset g.1).getLsbD u=true:=by
 constructor
 ·intro h
  obtain⟨y,hy,rfl⟩:=List.mem_map.1 h
  have h3:=gn (G.rv y hy).1
  exact⟨y.1.toNat,by omega,(lU G).2 ⟨y,hy,by omega⟩⟩
 ·rintro⟨u,rfl,hu⟩
  obtain⟨y,hy,h⟩:=(lU G).1 hu
  exact List.mem_map.2 ⟨y,hy,h⟩
theorem qQ (G:Gr.Ok g){a:Nat}{x:Int}:x∈dY g (a:Int)↔∃u:Nat,x=(u:Int)∧(nbA g (a:Int)).getLsbD u=true:=by
 rw[dY,List.mem_filter,jI G,decide_eq_true_eq]
 constructor
 ·rintro⟨⟨u,rfl,hu⟩,h⟩
  exact⟨u,rfl,(dx G).2 ((lY G u a).1 h).symm⟩
 ·rintro⟨u,rfl,hu⟩
  have h:=(dx G).1 hu
  exact⟨⟨u,rfl,(h.inn G).2.1⟩,(lY G u a).2 h.symm⟩
theorem qR (G:Gr.Ok g):(bN g).Pairwise (· < ·):=List.pairwise_map.2 (G.sv.imp fun h=>by simpa[lt1] using h)
theorem qS (S:BS):(ae (aj S)).Pairwise (· < ·):=List.pairwise_map.2 ((eX S).imp fun h=>by omega)
end
end Go.Mono
namespace Go.Mono
open Go Go.Proofs Go.RowKit Go.Gr

section
variable {g h:GT}
theorem lZ (G:Gr.Ok g):ae (aj (vset g.1))=bN g:=jH _ _ (qS _) (qR G) fun x=>by
 rw[jI G,ae,List.mem_map]
 exact⟨fun⟨u,h1,h2⟩=>⟨u,h2.symm,(aL.1 h1).2⟩,fun⟨u,h1,h2⟩=>⟨u,aL.2 ⟨aK h2,h2⟩,h1.symm⟩⟩
theorem jJ (G:Gr.Ok g):card (vset g.1)=g.1.length:=by
 have h:=congrArg List.length (lZ G)
 rw[ae,List.length_map,dL,bN,List.length_map] at h
 exact h
theorem gu (G:Gr.Ok g):∀i j:Nat,(nbA g (i:Int)).getLsbD j=true→(vset g.1).getLsbD j=true:=fun i j h=>(((dx G).1 h).inn G).2.1
end

def nxN (nb:Int→BS)(at':BS):BS:=(aj at').foldl (fun (s:BS) (i:Nat)=>s ||| nb (i:Int)) 0
theorem qT (nb:Int→BS){j:Nat}:∀(l:List Nat) (s:BS),(l.foldl (fun (s:BS) (i:Nat)=>s ||| nb (i:Int)) s).getLsbD j=true↔s.getLsbD j=true∨∃i∈l,(nb (i:Int)).getLsbD j=true
 | [],s=>by simp
 | i::l,s=>by
  rw[List.foldl_cons,qT nb l,cb]
  constructor
  ·rintro ((h|h)|⟨k,hk,h⟩)
   ·exact .inl h
   ·exact .inr ⟨i,List.mem_cons_self ..,h⟩
   ·exact .inr ⟨k,List.mem_cons_of_mem _ hk,h⟩
  ·rintro (h|⟨k,hk,h⟩)
   ·exact .inl (.inl h)
   ·rcases List.mem_cons.1 hk with rfl|hk
    ·exact .inl (.inr h)
    ·exact .inr ⟨k,hk,h⟩
theorem mb {nb:Int→BS}{at':BS}{j:Nat}:(nxN nb at').getLsbD j=true↔∃i,at'.getLsbD i=true∧(nb (i:Int)).getLsbD j=true:=by
 rw[nxN,qT]
 constructor
 ·rintro (h|⟨i,hi,h⟩)
  ·exact absurd h (bF j)
  ·exact⟨i,(aL.1 hi).2,h⟩
 ·rintro⟨i,hi,h⟩;exact .inr ⟨i,aL.2 ⟨aK hi,hi⟩,h⟩
def lvF (nb:Int→BS):Nat→BS→BS→List BS
 | 0,_,_=>[]
 | f+1,at',seen=>if at'=0 then [] else at'::lvF nb f (nxN nb at' &&& ~~~seen) (seen ||| (nxN nb at' &&& ~~~seen))
def unL (l:List BS):BS:=l.foldl (fun s r=>s ||| r) 0
theorem qU {j:Nat}:∀(l:List BS) (s:BS),(l.foldl (fun s r=>s ||| r) s).getLsbD j=true↔s.getLsbD j=true∨∃r∈l,r.getLsbD j=true
 | [],s=>by simp
 | r::l,s=>by
  rw[List.foldl_cons,qU l,cb,or_assoc]
  constructor
  ·rintro (h|h|⟨k,hk,h⟩)
   ·exact .inl h
   ·exact .inr ⟨r,List.mem_cons_self ..,h⟩
   ·exact .inr ⟨k,List.mem_cons_of_mem _ hk,h⟩
  ·rintro (h|⟨k,hk,h⟩)
   ·exact .inl h
   ·rcases List.mem_cons.1 hk with rfl|hk
    ·exact .inr (.inl h)
    ·exact .inr (.inr ⟨k,hk,h⟩)
theorem eY {l:List BS}{j:Nat}:(unL l).getLsbD j=true↔∃r∈l,r.getLsbD j=true:=by
 rw[unL,qU]
 exact⟨fun h=>h.resolve_left (bF j),.inr⟩
theorem dM (S:BS):card S≤1024:=by
 rw[← dL,aj]
 have:=List.length_filter_le (fun i=>S.getLsbD i) (List.range 1024)
 rwa [List.length_range] at this
theorem zi {nb:Int→BS}:∀(f:Nat) (at' seen:BS),1024<f+card seen∨at'=0→(∀i,at'.getLsbD i=true→seen.getLsbD i=true)→(∀i j:Nat,seen.getLsbD i=true→¬at'.getLsbD i=true→(nb (i:Int)).getLsbD j=true→seen.getLsbD j=true) →
  (∀i j:Nat,(seen.getLsbD i=true∨(unL (lvF nb f at' seen)).getLsbD i=true)→(nb (i:Int)).getLsbD j=true→seen.getLsbD j=true∨(unL (lvF nb f at' seen)).getLsbD j=true) ∧
  ∀K:BS,(∀i,seen.getLsbD i=true→K.getLsbD i=true)→(∀i j:Nat,K.getLsbD i=true→(nb (i:Int)).getLsbD j=true→K.getLsbD j=true)→∀i,(unL (lvF nb f at' seen)).getLsbD i=true→K.getLsbD i=true:=by
 intro f
 induction f with
 | zero=>
  intro at' seen hf hin hcl
  have h0:at'=0:=by
   rcases hf with h|h
   ·have:=dM seen;omega
   ·exact h
  have hno:∀i,¬(unL (lvF nb 0 at' seen)).getLsbD i=true:=fun i h=>by
   obtain⟨r,hr,_⟩:=eY.1 h
   cases hr
  refine⟨fun i j hi hij=>?_,fun K _ _ i h=>absurd h (hno i)⟩
  rcases hi with hi|hi
  ·exact .inl (hcl i j hi (by rw[h0];exact bF i) hij)
  ·exact absurd hi (hno i)
 | succ f ih=>
  intro at' seen hf hin hcl
  by_cases h0:at'=0
  ·have hl:lvF nb (f+1) at' seen=[]:=by rw[lvF,if_pos h0]
   rw[hl]
   have hno:∀i,¬(unL []).getLsbD i=true:=fun i h=>by
    obtain⟨r,hr,_⟩:=eY.1 h
    cases hr
   refine⟨fun i j hi hij=>?_,fun K _ _ i h=>absurd h (hno i)⟩
   rcases hi with hi|hi
   ·exact .inl (hcl i j hi (by rw[h0];exact bF i) hij)
   ·exact absurd hi (hno i)
  ·have hl:lvF nb (f+1) at' seen=at'::lvF nb f (nxN nb at' &&& ~~~seen) (seen ||| (nxN nb at' &&& ~~~seen)):=by rw[lvF,if_neg h0]
   rw[hl]
   obtain⟨a2,ha2⟩:=eqX (nxN nb at' &&& ~~~seen)
   have hb:∀j,a2.getLsbD j=true↔(∃i,at'.getLsbD i=true∧(nb (i:Int)).getLsbD j=true)∧¬seen.getLsbD j=true:=fun j=>by rw[ha2,cm,mb]
   rw[← ha2]
   have hU:∀i,(unL (at'::lvF nb f a2 (seen ||| a2))).getLsbD i=true↔at'.getLsbD i=true∨(unL (lvF nb f a2 (seen ||| a2))).getLsbD i=true:=fun i=>by
    rw[eY,eY]
    constructor
    ·rintro⟨r,hr,h⟩
     rcases List.mem_cons.1 hr with rfl|hr
     ·exact .inl h
     ·exact .inr ⟨r,hr,h⟩
    ·rintro (h|⟨r,hr,h⟩)
     ·exact⟨at',List.mem_cons_self ..,h⟩
     ·exact⟨r,List.mem_cons_of_mem _ hr,h⟩
   have hfu:1024<f+card (seen ||| a2)∨a2=0:=by
    by_cases h2:a2=0
    ·exact .inr h2
    ·left
     obtain⟨z,hz⟩:∃z,a2.getLsbD z=true:=Classical.byContradiction fun hn=>h2 (fC fun k=>⟨fun h=>absurd ⟨k,h⟩ hn,fun h=>absurd h (bF k)⟩)
     have:=gp (S:=seen) (T:=seen ||| a2) (z:=z) (fun i hi=>(cb _ _ _).2 (.inl hi)) ((cb _ _ _).2 (.inr hz)) ((hb z).1 hz).2
     rcases hf with h|h
     ·omega
     ·exact absurd h h0
   obtain⟨k1,k2⟩:=ih a2 (seen ||| a2) hfu (fun i hi=>(cb _ _ _).2 (.inr hi)) fun i j hi hni hij=>by
    rcases (cb _ _ _).1 hi with hi|hi
    ·by_cases hat:at'.getLsbD i=true
     ·by_cases hs:seen.getLsbD j=true
      ·exact (cb _ _ _).2 (.inl hs)
      ·exact (cb _ _ _).2 (.inr ((hb j).2 ⟨⟨i,hat,hij⟩,hs⟩))
     ·exact (cb _ _ _).2 (.inl (hcl i j hi hat hij))
    ·exact absurd hi hni
   have hsub:∀i,a2.getLsbD i=true→(unL (lvF nb f a2 (seen ||| a2))).getLsbD i=true:=fun i hi=>by
    have hne:a2≠0:=fun h=>by rw[h] at hi;exact bF _ hi
    cases f with
    | zero=>
     rcases hfu with h|h
     ·have:=dM (seen ||| a2);omega
     ·exact absurd h hne
    | succ f=>rw[lvF,if_neg hne,eY];exact⟨a2,List.mem_cons_self ..,hi⟩
   constructor
   ·intro i j hi hij
    rw[hU] at hi ⊢
    have h3:(seen ||| a2).getLsbD i=true∨(unL (lvF nb f a2 (seen ||| a2))).getLsbD i=true:=by
     rcases hi with h|h|h
     ·exact .inl ((cb _ _ _).2 (.inl h))
     ·exact .inl ((cb _ _ _).2 (.inl (hin i h)))
     ·exact .inr h
    rcases k1 i j h3 hij with h|h
    ·rcases (cb _ _ _).1 h with h|h
     ·exact .inl h
     ·exact .inr (.inr (hsub j h))
    ·exact .inr (.inr h)
   ·intro K hK hKc i hi
    rcases (hU i).1 hi with h|h
    ·exact hK i (hin i h)
    ·refine k2 K (fun u hu=>?_) hKc i h
     rcases (cb _ _ _).1 hu with hu|hu
     ·exact hK u hu
     ·obtain⟨⟨x,hx,hxu⟩,_⟩:=(hb u).1 hu
      exact hKc x u (hK x (hin x hx)) hxu
def lvB (nb:Int→BS)(a:Nat):List BS:=lvF nb 1025 (ins 0 (a:Int)) (ins 0 (a:Int))
theorem jK {nb:Int→BS}{a:Nat}(ha:a<1024):(unL (lvB nb a)).getLsbD a=true∧(∀i j:Nat,(unL (lvB nb a)).getLsbD i=true→(nb (i:Int)).getLsbD j=true→(unL (lvB nb a)).getLsbD j=true) ∧
  ∀K:BS,K.getLsbD a=true→(∀i j:Nat,K.getLsbD i=true→(nb (i:Int)).getLsbD j=true→K.getLsbD j=true)→∀i,(unL (lvB nb a)).getLsbD i=true→K.getLsbD i=true:=by
 have h1:∀i,(ins 0 (a:Int)).getLsbD i=true↔i=a:=fun i=>by
  rw[de _ ha]
  exact⟨fun h=>h.resolve_left (bF i),.inr⟩
 have hne:ins 0 (a:Int)≠0:=fun h=>by
  have:=(h1 a).2 rfl
  rw[h] at this;exact bF _ this
 obtain⟨k1,k2⟩:=zi (nb:=nb) 1025 (ins 0 (a:Int)) (ins 0 (a:Int)) (.inl (by omega)) (fun i h=>h) fun i j h h'=>absurd h h'
 have h2:(unL (lvB nb a)).getLsbD a=true:=by
  rw[lvB,lvF,if_neg hne,eY];exact⟨_,List.mem_cons_self ..,(h1 a).2 rfl⟩
 refine⟨h2,fun i j hi hij=>?_,fun K hK hKc=>k2 K (fun i hi=>by rw[(h1 i).1 hi];exact hK) hKc⟩
 rcases k1 i j (.inr hi) hij with h|h
 ·rw[(h1 j).1 h];exact h2
 ·exact h
def oBL (o:Option Nat)(k:Nat→List BS):List BS:=match o with
 | none=>[]
 | some a=>k a
def prF (nb:Int→BS):Nat→BS→List BS
 | 0,_=>[]
 | f+1,left=>oBL (aU left) fun a=>unL (lvB nb a)::prF nb f (left &&& ~~~unL (lvB nb a))
theorem mc {nb:Int→BS}{left:BS}(h:aU left=none)(f:Nat):prF nb (f+1) left=[]:=by
 show oBL (aU left) _=[]
 rw[h];rfl
theorem md {nb:Int→BS}{left:BS}{a:Nat}(h:aU left=some a)(f:Nat):prF nb (f+1) left=unL (lvB nb a)::prF nb f (left &&& ~~~unL (lvB nb a)):=by
 show oBL (aU left) _=_
 rw[h];rfl
def wo (nb:Int→BS)(u v:Nat):Int→BS:=fun x=>if x=(u:Int) then del (nb x) (v:Int) else if x=(v:Int) then del (nb x) (u:Int) else nb x
section
variable {nb:Int→BS}
theorem iA {at':BS}(h:at'=0)(f:Nat)(seen:BS):lvF nb f at' seen=[]:=by
 cases f with
 | zero=>rfl
 | succ f=>rw[lvF,if_pos h]
theorem eZ {at':BS}(h:at'≠0)(f:Nat)(seen:BS):lvF nb (f+1) at' seen=at'::lvF nb f (nxN nb at' &&& ~~~seen) (seen ||| (nxN nb at' &&& ~~~seen)):=by rw[lvF,if_neg h]
theorem zj:∀(f:Nat) (at' seen:BS) (k x:Nat) (S:BS),(lvF nb f at' seen)[k]?=some S→S.getLsbD x=true →
  ∃p:Nat→Nat,at'.getLsbD (p 0)=true∧p k=x∧(∀i,i≤k→∃T,(lvF nb f at' seen)[i]?=some T∧T.getLsbD (p i)=true)∧∀i,i<k→(nb (p i:Int)).getLsbD (p (i+1))=true:=by
 intro f
 induction f with
 | zero=>intro at' seen k x S hS;rw[lvF] at hS;cases hS
 | succ f ih=>
  intro at' seen k x S hS hx
  by_cases h0:at'=0
  ·rw[iA h0] at hS;cases hS
  rw[eZ h0] at hS ⊢
  cases k with
  | zero=>
   rw[List.getElem?_cons_zero] at hS
   obtain rfl:=Option.some.inj hS
   refine⟨fun _=>x,hx,rfl,fun i hi=>⟨at',?_,hx⟩,fun i hi=>by omega⟩
   rw[show i=0 by omega,List.getElem?_cons_zero]
  | succ k=>
   rw[List.getElem?_cons_succ] at hS
   obtain⟨p,p1,p2,p3,p4⟩:=ih _ _ k x S hS hx
   obtain⟨y,hy,hyp⟩:=mb.1 ((cm _ _ _).1 p1).1
   refine⟨fun i=>if i=0 then y else p (i - 1),by simpa using hy,by simpa using p2,fun i hi=>?_,fun i hi=>?_⟩
   ·cases i with
    | zero=>exact⟨at',List.getElem?_cons_zero,by simpa using hy⟩
    | succ i=>
     obtain⟨T,h1,h2⟩:=p3 i (by omega)
     exact⟨T,by rw[List.getElem?_cons_succ];exact h1,by simpa using h2⟩
   ·cases i with
    | zero=>simpa using hyp
    | succ i=>simpa using p4 i (by omega)
theorem zk:∀(f:Nat) (at' seen:BS) (k x:Nat) (S:BS),(lvF nb f at' seen)[k+1]?=some S→S.getLsbD x=true→¬seen.getLsbD x=true:=by
 intro f
 induction f with
 | zero=>intro at' seen k x S hS;rw[lvF] at hS;cases hS
 | succ f ih=>
  intro at' seen k x S hS hx
  by_cases h0:at'=0
  ·rw[iA h0] at hS;cases hS
  rw[eZ h0,List.getElem?_cons_succ] at hS
  cases k with
  | zero=>
   cases f with
   | zero=>rw[lvF] at hS;cases hS
   | succ f=>
    by_cases h2:nxN nb at' &&& ~~~seen=0
    ·rw[iA h2] at hS;cases hS
    ·rw[eZ h2,List.getElem?_cons_zero] at hS
     obtain rfl:=Option.some.inj hS
     exact ((cm _ _ _).1 hx).2
  | succ k=>exact fun h=>ih _ _ k x S hS hx ((cb _ _ _).2 (.inl h))
theorem zl:∀(f:Nat) (at' seen:BS),(∀i,at'.getLsbD i=true→seen.getLsbD i=true)→∀(i j x:Nat) (S T:BS),i<j→(lvF nb f at' seen)[i]?=some S→(lvF nb f at' seen)[j]?=some T→S.getLsbD x=true→¬T.getLsbD x=true:=by
 intro f
 induction f with
 | zero=>intro at' seen _ i j x S T _ hS;rw[lvF] at hS;cases hS
 | succ f ih=>
  intro at' seen hin i j x S T hij hS hT hx hxT
  by_cases h0:at'=0
  ·rw[iA h0] at hS;cases hS
  cases j with
  | zero=>omega
  | succ j=>
   cases i with
   | zero=>
    have h1:=zk (f+1) at' seen j x T hT hxT
    rw[eZ h0,List.getElem?_cons_zero] at hS
    obtain rfl:=Option.some.inj hS
    exact h1 (hin x hx)
   | succ i=>
    rw[eZ h0,List.getElem?_cons_succ] at hS hT
    exact ih _ _ (fun k hk=>(cb _ _ _).2 (.inr hk)) i j x S T (by omega) hS hT hx hxT
structure Cyc (nb:Int→BS)(p:Nat→Nat)(n:Nat):Prop where
 three:3≤n
 inj:∀i j,i<n→j<n→p i=p j→i=j
 adj:∀i,i+1<n→(nb (p i:Int)).getLsbD (p (i+1))=true
 last:(nb (p (n - 1):Int)).getLsbD (p 0)=true
end
section
variable {nb:Int→BS}
theorem zm:∀(f:Nat) (at' seen:BS),(1024<f+card seen∨at'=0)→∀(k x y:Nat) (S:BS),(lvF nb f at' seen)[k]?=some S→S.getLsbD x=true→(nb (x:Int)).getLsbD y=true →
  seen.getLsbD y=true∨∃k' T,k'≤k+1∧(lvF nb f at' seen)[k']?=some T∧T.getLsbD y=true:=by
 intro f
 induction f with
 | zero=>intro at' seen _ k x y S hS;rw[lvF] at hS;cases hS
 | succ f ih=>
  intro at' seen hf k x y S hS hx hxy
  by_cases h0:at'=0
  ·rw[iA h0] at hS;cases hS
  rw[eZ h0] at hS ⊢
  obtain⟨a2,ha2⟩:=eqX (nxN nb at' &&& ~~~seen)
  rw[← ha2] at hS ⊢
  have hfu:1024<f+card (seen ||| a2)∨a2=0:=by
   by_cases h2:a2=0
   ·exact .inr h2
   ·left
    obtain⟨z,hz⟩:∃z,a2.getLsbD z=true:=Classical.byContradiction fun hn=>h2 (fC fun k=>⟨fun h=>absurd ⟨k,h⟩ hn,fun h=>absurd h (bF k)⟩)
    have:=gp (S:=seen) (T:=seen ||| a2) (z:=z) (fun i hi=>(cb _ _ _).2 (.inl hi)) ((cb _ _ _).2 (.inr hz)) (by rw[ha2] at hz;exact ((cm _ _ _).1 hz).2)
    rcases hf with h|h
    ·omega
    ·exact absurd h h0
  have hone:∀y,a2.getLsbD y=true→∃T,(at'::lvF nb f a2 (seen ||| a2))[1]?=some T∧T.getLsbD y=true:=fun y hy=>by
   have hne:a2≠0:=fun h=>by rw[h] at hy;exact bF _ hy
   cases f with
   | zero=>
    rcases hfu with h|h
    ·have:=dM (seen ||| a2);omega
    ·exact absurd h hne
   | succ f=>exact⟨a2,by rw[List.getElem?_cons_succ,eZ hne,List.getElem?_cons_zero],hy⟩
  cases k with
  | zero=>
   rw[List.getElem?_cons_zero] at hS
   obtain rfl:=Option.some.inj hS
   by_cases hs:seen.getLsbD y=true
   ·exact .inl hs
   ·obtain⟨T,h1,h2⟩:=hone y (by rw[ha2];exact (cm _ _ _).2 ⟨mb.2 ⟨x,hx,hxy⟩,hs⟩)
    exact .inr ⟨1,T,by omega,h1,h2⟩
  | succ k=>
   rw[List.getElem?_cons_succ] at hS
   rcases ih a2 (seen ||| a2) hfu k x y S hS hx hxy with h|⟨k',T,h1,h2,h3⟩
   ·rcases (cb _ _ _).1 h with h|h
    ·exact .inl h
    ·obtain⟨T,h1,h2⟩:=hone y h
     exact .inr ⟨1,T,by omega,h1,h2⟩
   ·exact .inr ⟨k'+1,T,by omega,by rw[List.getElem?_cons_succ];exact h2,h3⟩
theorem zn {a:Nat}(ha:a<1024)(q:Nat→Nat)(h0:q 0=a):∀m,(∀i,i<m→(nb (q i:Int)).getLsbD (q (i+1))=true)→∃k T,k≤m∧(lvB nb a)[k]?=some T∧T.getLsbD (q m)=true:=by
 have h1:∀i,(ins 0 (a:Int)).getLsbD i=true↔i=a:=fun i=>by
  rw[de _ ha]
  exact⟨fun h=>h.resolve_left (bF i),.inr⟩
 have hne:ins 0 (a:Int)≠0:=fun h=>by
  have:=(h1 a).2 rfl
  rw[h] at this;exact bF _ this
 have hz:(lvB nb a)[0]?=some (ins 0 (a:Int)):=by rw[lvB,eZ hne,List.getElem?_cons_zero]
 intro m
 induction m with
 | zero=>intro _;exact⟨0,_,Nat.le_refl _,hz,(h1 _).2 h0⟩
 | succ m ih=>
  intro hw
  obtain⟨k,T,k1,k2,k3⟩:=ih fun i hi=>hw i (by omega)
  rw[lvB] at k2
  rcases zm 1025 _ _ (.inl (by omega)) k (q m) (q (m+1)) T k2 k3 (hw m (Nat.lt_succ_self _)) with h|⟨k',T',m1,m2,m3⟩
  ·exact⟨0,_,by omega,hz,h⟩
  ·exact⟨k',T',by omega,by rw[lvB];exact m2,m3⟩
def bG (L:List BS)(b:Nat):Int:=match L.findIdx? (fun S=>S.getLsbD b) with
 | some i=>(i:Int)
 | none => -1
theorem me {L:List BS}{b k:Nat}{T:BS}(h:L[k]?=some T)(hT:T.getLsbD b=true):0≤bG L b∧bG L b≤k:=by
 rw[bG]
 cases hf:L.findIdx? (fun S=>S.getLsbD b) with
 | none=>
  have:=List.findIdx?_eq_none_iff.1 hf T (List.mem_of_getElem? h)
  rw[hT] at this;cases this
 | some i=>
  obtain⟨h1,h2,h3⟩:=List.findIdx?_eq_some_iff_getElem.1 hf
  refine⟨(show (0:Int)≤(i:Int) by omega),?_⟩
  by_cases hik:i≤k
  ·show (i:Int)≤k;omega
  ·exfalso
   have:=h3 k (by omega)
   obtain⟨hk,he⟩:=List.getElem?_eq_some_iff.1 h
   rw[he,hT] at this
   exact this rfl
theorem jL {L:List BS}{b k:Nat}(h:bG L b=(k:Int)):∃T,L[k]?=some T∧T.getLsbD b=true:=by
 rw[bG] at h
 cases hf:L.findIdx? (fun S=>S.getLsbD b) with
 | none=>rw[hf] at h;exact absurd h (by show ¬(-1:Int)=k;omega)
 | some i=>
  obtain⟨h1,h2,_⟩:=List.findIdx?_eq_some_iff_getElem.1 hf
  rw[hf] at h
  have:i=k:=by have h':(i:Int)=k:=h;omega
  subst this
  exact⟨_,List.getElem?_eq_getElem h1,h2⟩
def cR (nb:Int→BS)(a n:Nat):Nat→List Nat→Option (List Nat)
 | 0,_=>none
 | f+1,way=>if way.length=n then (if (nb (way.getLastD 0:Nat)).getLsbD a=true then some way else none)
  else (aj (nb (way.getLastD 0:Nat))).findSome? fun next=>if way.contains next=true∨(n:Int) - way.length<bG (lvB nb a) next then none else cR nb a n f (way++[next])
theorem zo (p:Nat→Nat):∀n,0<n→∃i,i<n∧∀j,j<n→p i≤p j:=by
 intro n
 induction n with
 | zero=>intro h;omega
 | succ n ih=>
  intro _
  by_cases h0:n=0
  ·exact⟨0,by omega,fun j hj=>by rw[show j=0 by omega];exact Nat.le_refl _⟩
  obtain⟨i,hi,h⟩:=ih (by omega)
  by_cases hle:p i≤p n
  ·exact⟨i,by omega,fun j hj=>by
    by_cases hjn:j=n
    ·rw[hjn];exact hle
    ·exact h j (by omega)⟩
  ·exact⟨n,by omega,fun j hj=>by
    by_cases hjn:j=n
    ·rw[hjn];exact Nat.le_refl _
    ·have:=h j (by omega);omega⟩
def cd (nb:Int→BS)(es:List (Nat×Nat)):Int:=es.foldl (fun best e=>let n:=bG (lvB (wo nb e.1 e.2) e.1) e.2;if n ≠ -1∧(best=0∨n+1<best) then n+1 else best) 0
theorem iB (L:List BS)(b:Nat) : -1≤bG L b:=by
 rw[bG];split
 ·show (-1:Int)≤(_:Nat);omega
 ·exact Int.le_refl _
end
theorem zp {L:List BS}{b:Nat}:bG L b = -1↔¬(unL L).getLsbD b=true:=by
 constructor
 ·intro h hh
  obtain⟨T,hT,hb⟩:=eY.1 hh
  obtain⟨k,hk,he⟩:=List.getElem_of_mem hT
  have:=me (L:=L) (k:=k) (by rw[List.getElem?_eq_getElem hk,he]) hb
  omega
 ·intro h
  refine Classical.byContradiction fun hn=>?_
  have hlo:=iB L b
  obtain⟨T,hT,hb⟩:=jL (L:=L) (b:=b) (k:=(bG L b).toNat) (by omega)
  exact h (eY.2 ⟨T,List.mem_of_getElem? hT,hb⟩)
section
variable {nb:Int→BS}
end
section
variable {g:GT}
end
end Go.Mono
namespace Go.Mono
open Go Go.Proofs Go.RowKit Go.Gr
def adC (S:BS)(m:Value):Array Value:=((aJ S).toList++[m]).toArray
theorem bAd (bm:Nat):Tryz.prog.built 79 [(1,.map (some bm))]=some (adC 0 (.map (some bm))):=by kernel_rfl
theorem aH (S:BS)(m:Value):(adC S m).size=17:=by rw[adC,List.size_toArray,List.length_append,Array.length_toList,bh];rfl
theorem zq (S T:BS)(m:Value):(((adC S m).toList.take 0++(aJ T).toList++(adC S m).toList.drop (0+16)).toArray)=adC T m:=by
 rw[List.take_zero,List.nil_append,adC,adC]
 simp only[List.drop_append,Array.length_toList,bh]
 simp[bh]
theorem cg (S:BS)(bm:Nat):(adC S (.map (some bm))).all (·.oneCell')=true:=by
 have h:(aJ S).all (·.oneCell')=true:=bj _
 rw[adC,Array.all_eq_true_iff_forall_mem] at *
 intro x hx
 rcases List.mem_append.1 (List.mem_toArray.1 hx) with hx|hx
 ·exact h x (by simpa using hx)
 ·rw[List.mem_singleton.1 hx];rfl
theorem bI (S:BS)(m:Value):(adC S m)[16]?=some m:=by
 rw[adC,List.getElem?_toArray,List.getElem?_append_right (by rw[Array.length_toList,bh];exact Nat.le_refl _),Array.length_toList,bh];rfl
theorem bO (S:BS)(m:Value):(adC S m).extract 0 (0+16)=aJ S:=by
 apply Array.ext'
 rw[adC,Array.toList_extract]
 simp[List.extract,bh]
structure OJ (W:World)(g:GT)(S:BS)(v:Value)(b1 b2 b3 bm:Nat)(c2:Array Value)(s:List Nat)(w:World):Prop where
 e:Ext W w
 t:Tab w
 p1:Blk w b1 #[v] 26
 p2:Blk w b2 c2 79
 p3:Blk w b3 (adC S (.map (some bm))) 79
 m:MpR sKV w bm s.length (nbL g s)
theorem OJ.kp {W:World}{g:GT}{S:BS}{v:Value}{b1 b2 b3 bm:Nat}{c2:Array Value}{s:List Nat}{B:Nat}{w w':World}(h:OJ W g S v b1 b2 b3 bm c2 s w)(k:Kp B w w')(hW:W.heap.size≤B)(h0:0<B)(l1:b1<B)(l2:b2<B)(l3:b3<B)(lm:bm<B):OJ W g S v b1 b2 b3 bm c2 s w':=
 ⟨h.e.kp k hW,h.t.kp k h0,h.p1.kp k (fun hh=>by have:=hh.1;omega),h.p2.kp k (fun hh=>by have:=hh.1;omega),h.p3.kp k (fun hh=>by have:=hh.1;omega),h.m.pres (k.same bm h.m.lt (fun hh=>by have:=hh.1;omega))⟩
theorem mf {G:Nat→Prop}{N:Nat}(g:GT)(v:Value)(W:World)(hT:Tab W)(h:(Dv (ptE (grE N)) G (some g)).p v W)(gs1:g.1.Pairwise fun x y=>lt1 x.1 y.1=true)(gs2:g.2.Pairwise fun x y=>lt2 x.1 y.1=true)(hl1:g.1.length≤100000)(hl2:g.2.length≤100000)(hN:N≤1000000) :
  Calls Tryz.prog 46 #[v] W fun en w'=>Ext W w'∧∃mv,en=.returned (.agg (adC (vset g.1) mv))∧(Dv (mpE sKV 1024) G0 (nbL g (aj (vset g.1)))).p mv w':=by
 have hv:(Dv (ptE (grE N)) G0 (some g)).p v W:=Dv.weak h fun b _ hb=>hb.elim
 have hT0:=hT.lt
 have h1c:v.cells = #[v]:=by
  obtain⟨ad,rfl,_⟩:=Dv.pt.1 hv
  rfl
 refine cO (args:=[v]) (As:=[E v]) Tryz.func46 rfl Tryz.ntmps46 (Nat.le_of_ble_eq_true rfl) ?_ (fun a hf=>?_) (Nat.le_of_ble_eq_true rfl)
 ·exact arg1 rfl
 have e:=Ext.rfl' W
 refine seq <| ab <| tB hf rfl fun a b1 w v1 hv1 e' hb1 hs1 B1 hf=>?_
 obtain⟨hT,e⟩:=up2 e' hT e
 refine tL I79 hf fun a b2 w e' hb2 hs2 B2 hf=>?_
 obtain⟨hT,e,B1⟩:=up3 e' hT e B1
 refine aa ?_
 cases hv1
 rw[h1c] at B1
 replace hf:=hf.kp [1,2]
 refine seq <| ab <| ep sKV hf (by decide) fun a bm w e' hbm hsm HM hf=>?_
 obtain⟨e,hT⟩:=up2 e' e hT
 obtain⟨B1,B2⟩:=up2 e' B1 B2
 have hWm:W.heap.size≤bm:=by have:=e.size;omega
 have n12m:b1≠bm∧b2≠bm:=by omega
 have hNm:bm+1≤w.heap.size:=HM.lt
 refine tP hf (bB [(1,_)] rfl (bAd bm)) fun a w e' hf=>?_
 obtain⟨hT,HM,hNm,e,B1,B2⟩:=up6 e' hT HM hNm e B1 B2
 refine tL I79 hf fun a b3 w e' hb3 hs3 B3 hf=>?_
 obtain⟨hT,HM,hNm,e,B1,B2⟩:=up6 e' hT HM hNm e B1 B2
 have n3:b1≠b3∧b2≠b3∧b3≠bm∧W.heap.size≤b3:=by omega
 refine az T79 hf rfl rfl (cg _ _) B3 rfl (aH _ _) fun w hg hsz B3 hf=>?_
 replace e:=e.gr hg (by omega);replace hT:=hT.gr hg (by omega);replace B1:=B1.gr hg (by omega);replace B2:=B2.gr hg (by omega);replace HM:=HM.gr hg (fun h=>by cases h;omega);clear hg
 refine aa ?_
 replace hf:=hf.kp [1,2,3]
 refine seq <| seq ?_
 refine rgN 2 hf <| st (ld1 (v:=v) T26 rfl B1 rfl) <| st (dm U26 (isE rfl (vst e hv))) <| en fun a w e' hf=>?_
 obtain⟨hT,HM,e,B1,B2,B3⟩:=up6 e' hT HM e B1 B2 B3
 refine aa <| ifF hf rfl ?_
 refine ah ?_
 obtain⟨S,hS⟩:=eqX (vset g.1)
 have e0:=e
 refine seq <| rgN 3 hf <| st (ld1 (v:=v) T26 rfl B1 rfl) <| st (ak (A:=E (ac S)) vq rfl (fun v w he k=>by cases k;rw[hS];exact yr g _ w (vst (e0.tr he) hv) gs1 hl1 hN)) ?_
 refine st (fA U79 rfl T76 rfl) <| en fun a w e' hf=>?_
 obtain⟨hT,HM,e,B1,B2,B3⟩:=up6 e' hT HM e B1 B2 B3
 refine pq T76 hf rfl rfl (bj _) B3 (bh _) (by rw[aH];decide) fun w hg hsz B3 hf=>?_
 have B3':Blk w b3 (((adC 0 (.map (some bm))).toList.take 0++(aJ S).toList++(adC 0 (.map (some bm))).toList.drop (0+16)).toArray) 79:=B3
 rw[zq] at B3'
 replace B3:=B3'
 replace e:=e.gr hg (by omega);replace hT:=hT.gr hg (by omega);replace B1:=B1.gr hg (by omega);replace B2:=B2.gr hg (by omega);replace HM:=HM.gr hg (fun h=>by cases h;omega);clear hg
 refine aa ?_
 replace hf:=hf.keep [1,2,3]
 obtain⟨Nz,hNz⟩:=eqX w.heap.size
 have e1:=e
 have l1:=B1.lt
 have l2:=B2.lt
 have l3:=B3.lt
 have lm2:=HM.lt
 refine seq <| seq ?_
 refine rgN 3 hf <| st (fA U79 rfl T76 rfl) <| st ((ldP T76 rfl B3 (by rw[aH];decide)).eq (congrArg Value.agg (bO S (.map (some bm))))) ?_
 refine st (ak (A:=cN Nz S) cV rfl (fun v w' he h=>by cases h;exact Calls.mono (cZ _ w') (fun en w2 ⟨u,h1,h2,b',h3,h4,h5⟩=>⟨u,h1,h2,b',by have:=he.size;omega,h4,h5⟩))) ?_
 refine en fun a w e' hf=>?_
 obtain⟨HM,hT,e,B1,B2,B3⟩:=up6 e' HM hT e B1 B2 B3
 refine aa ?_
 obtain⟨v15,⟨b8,h8,rfl,BS⟩,hf⟩:=hf.fix 15 rfl
 replace hf:=hf.kp [1,2,3,15]
 obtain⟨c2,hc2,hB2⟩:∃c2:Array Value,c2.size=17∧Blk w b2 c2 79:=⟨_,by rfl,B2⟩
 have hBW:W.heap.size≤w.heap.size:=e.size
 have h0w:0<w.heap.size:=hT.lt
 have l1':=B1.lt
 have l2':=hB2.lt
 have l3':=B3.lt
 have lm':=HM.lt
 refine blk <| db (S:=S) hf rfl BS (by decide) (fun s w1=>OJ W g S v b1 b2 b3 bm c2 s w1) (fun _ _=>False) (fun s w1 h=>h.t)
  ⟨e,hT,B1,hB2,B3,HM⟩ (fun s w1 w2 h hs k=>h.kp k hBW h0w l1' l2' l3' lm') (fun _ _ _ h=>h.elim) ?_ ?_ (fun _ _ _ _ _ _ h=>h.elim)
 ·intro l s x rest a1 w1 hs hJ hlw hf
  have hx1024:x<1024:=(aL.1 (by rw[hs];simp)).1
  have hxs:x ∉ s:=by
   have hn:(aj S).Nodup:=List.Nodup.sublist List.filter_sublist List.nodup_range
   rw[hs] at hn
   intro hx
   exact (List.nodup_append.1 hn).2.2 x hx x (by simp) rfl
  have hsl:s.length≤1024:=by have:=eT S;rw[hs] at this;simp at this;omega
  generalize hBz:w.heap.size=Bz at *
  refine ab <| tA hf rfl fun a hf=>aa <| ⟨Kh.rfl' _ _,fun w3 k3 hsz3=>?_⟩
  have hJ3:=hJ.kp k3 hBW h0w l1' l2' l3' lm'
  replace hf:=hf.pure w3
  obtain⟨e,hT,B1,B2,B3,HM⟩:=hJ3
  have kh:=Kh.rfl' Bz w3
  have e0:=e
  replace hf:=hf.kp [1,2,3,4]
  refine blk <| rgG 6 Mix.mix hf <| st (fA U79 rfl T77 rfl) <| st (ld1 (v:=.map (some bm)) T77 rfl B3 (bI _ _)) <| st (mv rfl) <| st (ld1 (v:=v) T26 rfl B1 rfl) <| st (mv rfl) <| st (aw (A:=E (ac (nbG g.2 (x:Int)))) vr rfl rfl (fun v u w he k1 k2=>by cases k1;cases k2;exact yv g _ _ w (vst (e0.tr he) hv) gs2 hl2 hN)) ?_
  refine en fun a w e' hf=>?_
  obtain⟨HM,hT⟩:=up2 e' HM hT
  replace kh:=kh.tr (Kh.ext e')
  obtain⟨e,B1,B2,B3⟩:=up4 e' e B1 B2 B3
  refine dW (V:=sKV) (i:=(x:Int)) (c:=nbG g.2 (x:Int)) U77 hf rfl rfl rfl HM (by simp only[maxLen];omega) (bH (by omega) (by omega)) trivial fun w hg HM hf=>?_
  obtain⟨e,hT,B1,B2,B3⟩:=gr5 hg e hT B1 B2 B3
  replace kh:=kh.tr (Kh.gr hg (fun hh=>by have:=hh.1;omega))
  refine aa ?_
  simp only[Exit.inBlock]
  exact⟨⟨e,hT,B1,B2,B3,by rw[List.length_append];exact HM.perm (yw hxs)⟩,kh⟩
 ·intro a' w' hf' hJ hsz hDn
  simp only[Exit.inBlock,↓reduceIte,Exit.then]
  have hD:Ds [w.heap.size] w':=(Ds.nil w').cons hDn (by simp)
  have hf:FrD 24 (bL [w.heap.size]) a' w' [(1,E (.pointer (some ⟨b1,0,none⟩))),(2,E (.pointer (some ⟨b2,0,none⟩))),(3,E (.pointer (some ⟨b3,0,none⟩)))]:=hf'.keep [1,2,3]
  have hDW:∀d∈[w.heap.size],W.heap.size≤d:=fun d hd=>by rw[List.mem_singleton] at hd;omega
  obtain⟨e,hT,B1,B2,B3,HM⟩:=hJ
  have hbD:¬bm∈[w.heap.size]:=fun h=>by rw[List.mem_singleton] at h;omega
  have hb2D:¬b2∈[w.heap.size]:=fun h=>by rw[List.mem_singleton] at h;omega
  generalize [w.heap.size]=D2 at *
  generalize w'=w at *
  refine seq <| rgN 1 hf <| st (ldW T79 rfl B3 (aH _ _)) <| en fun a w e' hf=>?_
  obtain⟨HM,e,B2,B3,hD⟩:=up5 e' HM e B2 B3 hD
  refine az T79 hf rfl rfl (cg _ _) B2 hc2 (aH _ _) fun w hg hsz B2 hf=>?_
  replace e:=e.gr hg (by omega)
  replace hD:=hD.gr hg hb2D
  replace HM:=HM.gr hg (fun h=>by cases h;omega)
  refine aa <| ai <| ly rfl T79 hf rfl B2 (aH _ _) hD ⟨e.shut hDW,.map (some bm),?_⟩
  rw[← hS]
  exact⟨rfl,[.map (some bm)],⟨bm,_,rfl,fun h=>h.elim,eT S,HM.pres (fy D2 w bm hbD)⟩,rfl⟩
def Gn (N:Nat)(g:GT):VA:=⟨fun v w=>(v=.pointer none∧g=([],[]))∨(Dv (ptE (grE N)) G0 (some g)).p v w,fun v w w' k h=>h.imp id fun h=>vst k h⟩
theorem Gn.of {G:Nat→Prop}{N:Nat}{g:GT}{v:Value}{w:World}(h:(Dv (ptE (grE N)) G (some g)).p v w):(Gn N g).p v w:=.inr (Dv.weak h fun b _ hb=>hb.elim)
theorem zr (W:World):Calls Tryz.prog 46 #[.pointer none] W fun en w'=>Ext W w'∧∃mv,en=.returned (.agg (adC 0 mv))∧(Dv (mpE sKV 1024) G0 []).p mv w':=by
 refine cO (args:=[.pointer none]) (As:=[E (.pointer none)]) Tryz.func46 rfl Tryz.ntmps46 (Nat.le_of_ble_eq_true rfl) ?_ (fun a hf=>?_) (Nat.le_of_ble_eq_true rfl)
 ·exact arg1 rfl
 have e:=Ext.rfl' W
 refine seq <| ab <| tB hf rfl fun a b1 w v1 hv1 e' hb1 hs1 B1 hf=>?_
 replace e:=e.tr e'
 refine tL I79 hf fun a b2 w e' hb2 hs2 B2 hf=>?_
 obtain⟨e,B1⟩:=up2 e' e B1
 refine aa ?_
 cases hv1
 replace B1:Blk w b1 #[.pointer none] 26:=B1
 replace hf:=hf.kp [1,2]
 refine seq <| ab <| ep sKV hf (by decide) fun a bm w e' hbm hsm HM hf=>?_
 replace e:=e.tr e'
 obtain⟨B1,B2⟩:=up2 e' B1 B2
 have hNm:bm+1≤w.heap.size:=HM.lt
 refine tP hf (bB [(1,_)] rfl (bAd bm)) fun a w e' hf=>?_
 obtain⟨HM,hNm,e,B1,B2⟩:=up5 e' HM hNm e B1 B2
 refine tL I79 hf fun a b3 w e' hb3 hs3 B3 hf=>?_
 obtain⟨HM,hNm,e,B1,B2⟩:=up5 e' HM hNm e B1 B2
 refine az T79 hf rfl rfl (cg _ _) B3 rfl (aH _ _) fun w hg hsz B3 hf=>?_
 replace e:=e.gr hg (by omega);replace B1:=B1.gr hg (by omega);replace B2:=B2.gr hg (by omega);replace HM:=HM.gr hg (fun h=>by cases h;omega);clear hg
 refine aa ?_
 replace hf:=hf.keep [1,2,3]
 refine seq <| seq ?_
 refine rgN 2 hf <| st (ld1 (v:=.pointer none) T26 rfl B1 rfl) <| st (iz U26 rfl rfl (.inl rfl)) <| en fun a w e' hf=>?_
 obtain⟨HM,e,B1,B2,B3⟩:=up5 e' HM e B1 B2 B3
 refine aa <| ifT hf rfl ?_
 replace hf:=hf.kp [2,3]
 refine seq <| rgN 1 hf <| st (ldW T79 rfl B3 (aH _ _)) <| en fun a w e' hf=>?_
 obtain⟨HM,e,B1,B2,B3⟩:=up5 e' HM e B1 B2 B3
 refine az T79 hf rfl rfl (cg _ _) B2 rfl (aH _ _) fun w hg hsz B2 hf=>?_
 replace e:=e.gr hg (by omega);replace HM:=HM.gr hg (fun h=>by cases h;omega);clear hg
 refine aa <| ai <| ly rfl T79 hf rfl B2 (aH _ _) (Ds.nil w) ⟨e.shut (fun d hd=>by cases hd),.map (some bm),rfl,[.map (some bm)],⟨bm,_,rfl,fun h=>h.elim,Nat.zero_le _,?_⟩,rfl⟩
 exact HM.pres (fy [] w bm (by simp))
theorem mg {N:Nat}(g:GT)(v:Value)(W:World)(hT:Tab W)(h:(Gn N g).p v W)(gs1:g.1.Pairwise fun x y=>lt1 x.1 y.1=true)(gs2:g.2.Pairwise fun x y=>lt2 x.1 y.1=true)(hl1:g.1.length≤100000)(hl2:g.2.length≤100000)(hN:N≤1000000) :
  Calls Tryz.prog 46 #[v] W fun en w'=>Ext W w'∧∃mv,en=.returned (.agg (adC (vset g.1) mv))∧(Dv (mpE sKV 1024) G0 (nbL g (aj (vset g.1)))).p mv w':=by
 rcases h with ⟨rfl,rfl⟩|h
 ·have h0:aj (vset ([]:List VT))=[]:=by
   refine List.eq_nil_iff_forall_not_mem.2 fun x hx=>bF x (aL.1 hx).2
  rw[h0]
  exact zr W
 ·exact mf g v W hT h gs1 gs2 hl1 hl2 hN

theorem zt (nb:Int→BS)(f:Nat)(seen:BS):lvF nb f 0 seen=[]:=by
 cases f with
 | zero=>rfl
 | succ f=>rw[lvF,if_pos rfl]
theorem zu {nb:Int→BS}{at' seen:BS}{r:Nat}(h0:at'≠0)(hf:1024<r+card seen∨at'=0) :
  ∃f,r=f+1∧lvF nb r at' seen=at'::lvF nb f (nxN nb at' &&& ~~~seen) (seen ||| (nxN nb at' &&& ~~~seen))∧(1024<f+card (seen ||| (nxN nb at' &&& ~~~seen))∨nxN nb at' &&& ~~~seen=0):=by
 have h1:=hf.resolve_right h0
 have h2:=dM seen
 obtain⟨f,rfl⟩:∃f,r=f+1:=⟨r - 1,by omega⟩
 refine⟨f,rfl,by rw[lvF,if_neg h0],?_⟩
 generalize ha2:nxN nb at' &&& ~~~seen=a2
 by_cases h3:a2=0
 ·exact .inr h3
 ·left
  obtain⟨z,hz⟩:∃z,a2.getLsbD z=true:=Classical.byContradiction fun hn=>h3 (fC fun k=>⟨fun h=>absurd ⟨k,h⟩ hn,fun h=>absurd h (bF k)⟩)
  have:=gp (S:=seen) (T:=seen ||| a2) (z:=z) (fun i hi=>(cb _ _ _).2 (.inl hi)) ((cb _ _ _).2 (.inr hz)) (by
   rw[← ha2] at hz;exact ((cm _ _ _).1 hz).2)
  omega
def nxP (nb:Int→BS)(s:List Nat):BS:=s.foldl (fun (s:BS) (i:Nat)=>s ||| nb (i:Int)) 0
theorem qV (nb:Int→BS)(s:List Nat)(y:Nat):nxP nb (s++[y])=nxP nb s ||| nb (y:Int):=by rw[nxP,List.foldl_append];rfl
theorem Ds.gro {D:List Nat}{w w':World}{row:Option Nat}(h:Ds D w)(hg:w.grownBy w' row)(hb:∀d∈D,row≠some d):Ds D w':=⟨h.1,fun d hd=>(hg.block d (h.lt hd) (fun he=>hb d hd he.symm)).trans (h.2 d hd)⟩
structure LvK (W:World)(N0 N:Nat)(S0:BS)(mq:Value)(l:List (Int×BS))(b2 b5 b6:Nat)(u:Value)(out:List BS)(at' seen:BS)(D:List Nat)(w:World):Prop where
 e:Ext W w
 t:Tab w
 hv:(Dv (mpE sKV N0) (GB W G0) l).p mq w
 b2:Blk w b2 (adC S0 mq) 79
 b5:Blk w b5 (aJ at') 76
 b6:Blk w b6 (aJ seen) 76
 o:OwR aM 76 N G0 w out u
 ds:Ds D w
theorem LvK.kp {W:World}{N0 N:Nat}{S0:BS}{mq:Value}{l:List (Int×BS)}{b2 b5 b6:Nat}{u:Value}{out:List BS}{at' seen:BS}{D:List Nat}{B:Nat}{w w':World}(h:LvK W N0 N S0 mq l b2 b5 b6 u out at' seen D w)(k:Kp B w w')(hW:W.heap.size≤B)(h0:0<B)(l2:b2<B)(l5:b5<B)(l6:b6<B)(lu:∀g,u.ownBlock=some g→g<B)(hD:∀d∈D,d<B) :
  LvK W N0 N S0 mq l b2 b5 b6 u out at' seen D w':=
 have no:∀{b},b<B→¬aX B b:=fun h hh=>by have:=hh.1;omega
 ⟨h.e.kp k hW,h.t.kp k h0,Dv.ch h.hv k.chg (fun b hb=>.inr (by have:=hb.1;omega)),h.b2.kp k (no l2),h.b5.kp k (no l5),h.b6.kp k (no l6),h.o.chE k.chg fun g hg=>no (lu g hg),h.ds.ch k.chg fun d hd=>no (hD d hd)⟩
theorem fa {G:Nat→Prop}{N0:Nat}(l:List (Int×BS))(S0:BS)(mq:Value)(x:Nat)(W:World)(hT:Tab W)(h:(Dv (mpE sKV N0) G l).p mq W)(hx:x<1024) :
  Calls Tryz.prog 52 #[.agg (adC S0 mq),I (x:Nat)] W (Post (OwA aM 76 W.heap.size G0 (lvB (lkS l) x)) W):=by
 have HV:(Dv (mpE sKV N0) (GB W G0) l).p mq W:=Dv.toB (Dv.weak h fun b _ hb=>hb.elim)
 have hT0:=hT.lt
 refine cO (args:=[.agg (adC S0 mq),I (x:Nat)]) (As:=[E (.agg (adC S0 mq)),E (I (x:Nat))]) Tryz.func52 rfl Tryz.ntmps52 (Nat.le_of_ble_eq_true rfl) ?_ (fun a hf=>?_) (Nat.le_of_ble_eq_true rfl)
 ·exact arg2 rfl rfl
 dsimp only[params,Nat.reduceAdd] at hf
 have e:=Ext.rfl' W
 refine seq <| ab <| tB hf rfl fun a b2 w v2 hv2 e' hb2 hs2 B2 hf=>?_
 obtain⟨hT,HV,e⟩:=up3 e' hT HV e
 refine tA hf rfl fun a hf=>aa ?_
 cases hv2
 replace B2:Blk w b2 (adC S0 mq) 79:=B2
 replace hf:=hf.kp [1,2]
 refine seq <| rgN 6 hf <| st (mv rfl) <| st (aW (e:=intE) (G:=G0) U35 I3 rfl (by decide) rfl (fun b hb=>hb.elim) (isI rfl)) <| st ((ak jj rfl (fun v w he h=>jA [(x:Int)] v w h (by simp))).eq (congrArg ac (lQ (x:Int) 0))) <| st (mv rfl) <| st (aW (e:=intE) (G:=G0) U35 I3 rfl (by decide) rfl (fun b hb=>hb.elim) (isI rfl)) <| st ((ak jj rfl (fun v w he h=>jA [(x:Int)] v w h (by simp))).eq (congrArg ac (lQ (x:Int) 0))) <| en fun a w e' hf=>?_
 obtain⟨hT,HV,e,B2⟩:=up4 e' hT HV e B2
 refine tL I76 hf fun a b5 w e' hb5 hs5 B5 hf=>?_
 have lt5_B2:=B2.lt
 obtain⟨hT,HV,e,B2⟩:=up4 e' hT HV e B2
 refine tL I76 hf fun a b6 w e' hb6 hs6 B6 hf=>?_
 obtain⟨hT,HV,e,B2,B5⟩:=up5 e' hT HV e B2 B5
 replace hf:=hf.kp [2,5,6,12,15]
 refine az T76 hf rfl rfl (bj _) B5 rfl (bh _) fun w hg hsz B5 hf=>?_
 obtain⟨e,hT,HV,B2,B6⟩:=gr5 hg e hT HV B2 B6
 refine az T76 hf rfl rfl (bj _) B6 rfl (bh _) fun w hg hsz B6 hf=>?_
 obtain⟨e,hT,HV,B2,B5⟩:=gr5 hg e hT HV B2 B5
 refine aa ?_
 replace hf:=hf.keep [2,5,6]
 have n6:b2≠b5∧b2≠b6∧b5≠b6∧W.heap.size≤b2∧W.heap.size≤b5∧W.heap.size≤b6:=by omega
 refine seq <| ab <| tA hf rfl fun a hf=>aa ?_
 obtain⟨N,hN⟩:=eqX w.heap.size
 have Ho:OwR aM 76 N G0 w [] (.slice none 0 0):=OwR.nil aM _ (Nat.le_of_eq hN) (fun b hb=>hb.elim)
 have hlN:b2<N∧b5<N∧b6<N∧W.heap.size≤N:=by have h1:=B2.lt;have h2:=B5.lt;have h3:=B6.lt;omega
 have hfu0:1024<1025+card (ins 0 (x:Int))∨ins 0 (x:Int)=0:=.inl (by omega)
 replace hf:=hf.keep [2,5,6,7]
 refine seq <| blk (aF (fun r0 a w=>∃(at' seen:BS) (out:List BS) (u:Value) (D:List Nat),(1024<r0+card seen∨at'=0)∧out.length+r0≤1025∧out++lvF (lkS l) r0 at' seen=lvB (lkS l) x∧FrD 39 (bL D) a w [(2,E (ptr b2)),(5,E (ptr b5)),(6,E (ptr b6)),(7,E u)] ∧
  LvK W N0 N S0 mq l b2 b5 b6 u out at' seen D w∧∀d∈D,W.heap.size≤d) 1025 ⟨ins 0 (x:Int),ins 0 (x:Int),[],.slice none 0 0,[],hfu0,by simp,by rw[List.nil_append,lvB],hf,⟨e,hT,HV,B2,B5,B6,Ho,Ds.nil _⟩,fun d hd=>by cases hd⟩ ?_)
 rintro r0 a w ⟨at',seen,out,u,D,hfu,hle,hR,hf,⟨e,hT,HV,B2,B5,B6,Ho,hD⟩,hDW⟩
 refine seq <| seq ?_
 refine rgN 3 hf <| st ((ldW T76 rfl B5 rfl).eq ((rfl:_=ac at'))) <| st (ak (A:=E (B (at'==0))) dG rfl (fun v w he h=>by cases h;exact ig _ w)) ?_
 refine st (aY rfl) <| en fun a w e' hf=>?_
 obtain⟨hT,HV,e,B2,B5,B6,hD,Ho⟩:=up8 e' hT HV e B2 B5 B6 hD Ho
 refine aa <| ifc hf rfl (fun hc=>ah ?_) (fun hc=>aC ?_)
 rotate_left
 ·have h0:at'=0:=by simpa using hc
  subst h0
  rw[zt,List.append_nil] at hR
  replace hf:=hf.keep [7]
  refine seq <| rgN 1 hf <| st (mv rfl) <| en fun a w e' hf=>?_
  obtain⟨e,hD,Ho⟩:=up3 e' e hD Ho
  refine tA hf rfl fun a hf=>aa <| ai <| gj rfl hf rfl hD ⟨_,rfl,e.shut hDW,?_⟩
  rw[← hR]
  exact (Ho.chE (dU D w) fun b hb hm=>Ho.neDs hD hm hb).low (by omega) fun b hb=>hb.elim
 have hne:at'≠0:=by
  intro h
  simp[h] at hc
 obtain⟨f,rfl,hst,hfu2⟩:=zu (nb:=lkS l) hne hfu
 rw[hst] at hR
 refine blk ?_
 replace hf:=hf.kp [2,5,6,7]
 refine seq <| rgN 3 hf <| st (mv rfl) <| st ((ldW T76 rfl B5 rfl).eq ((rfl:_=ac at'))) <| st (aW U83 I76 rfl (by decide) rfl Ho.avs (isS rfl)) <| en fun a w e' hf=>?_
 obtain⟨hT,HV,B2,B5,B6,hD,Ho,e⟩:=up8 e' hT HV B2 B5 B6 hD Ho e
 haveI hin:∀G0,InR (GB W G0) _:=OwR.inGB (W:=W) Ho (by omega)
 refine br U83 I76 rfl rfl hf (by decide) rfl Ho (isR rfl) (by simp only[List.length_singleton];omega) (by simp only[List.length_singleton,maxLen];omega) fun a v w hg hat Hn hf=>?_
 replace e:=e.gro hg (Ho.row (W:=W) (by omega))
 have hrow:=Ho.row (W:=W) (by omega)
 replace hT:=hT.gro hg (fun b hb=>by have:=hrow b hb;omega)
 replace HV:=Dv.gro HV hg (fun b hb=>.inr (hrow b hb))
 replace B2:=B2.gro hg (Ho.neLt (by omega))
 replace B5:=B5.gro hg (Ho.neLt (by omega))
 replace B6:=B6.gro hg (Ho.neLt (by omega))
 replace hD:=hD.gro hg fun d hd=>Ho.neDs hD hd
 replace Ho:=Hn
 replace Ho:=Hn;clear Hn hg hat hin
 refine tA hf rfl fun a hf=>aa ?_
 replace hf:=hf.keep [2,5,6,7]
 refine seq <| ab <| tL I76 hf fun a b8 w e' hb8 hs8 B8 hf=>?_
 have hle8:=Nat.le_trans e.size (Nat.le_of_eq hb8.symm)
 have ne8_Ho:=Ho.ne_new hb8
 have lt8_B5:=B5.lt
 have lt8_B6:=B6.lt
 obtain⟨hT,HV,e,B2,B5,B6,hD,Ho⟩:=up8 e' hT HV e B2 B5 B6 hD Ho
 refine aa ?_
 simp only[Value.cells,dD] at B8
 have hW8:W.heap.size≤b8:=hle8
 have n8:b2≠b8∧b5≠b8∧b6≠b8:=by have:=B2.lt;have:=B5.lt;have:=B6.lt;omega
 have hu8:=ne8_Ho
 have hD8:¬b8∈D:=hD.ne B8
 replace hf:=hf.keep [2,5,6,7,8]
 obtain⟨Nz,hNz⟩:=eqX w.heap.size
 refine seq <| seq ?_
 refine rgN 2 hf <| st ((ldW T76 rfl B5 rfl).eq ((rfl:_=ac at'))) <| st (ak (A:=cN Nz at') cV rfl (fun v w' he h=>by cases h;exact Calls.mono (cZ _ w') (fun en w2 ⟨u,h1,h2,b',h3,h4,h5⟩=>⟨u,h1,h2,b',by have:=he.size;omega,h4,h5⟩))) ?_
 refine en fun a w e' hf=>?_
 obtain⟨hT,HV,e,B2,B5,B6,B8,hD,Ho⟩:=up9 e' hT HV e B2 B5 B6 B8 hD Ho
 refine aa ?_
 obtain⟨vv,⟨b24,h24,rfl,BS⟩,hf⟩:=hf.fix 24 rfl
 replace hf:=hf.kp [2,5,6,7,8,24]
 have l2:=B2.lt
 have l5:=B5.lt
 have l6:=B6.lt
 have l8:=B8.lt
 have lu:∀g,v.ownBlock=some g→g<w.heap.size:=fun g hg=>(Ho.lt hg).2
 have lD:∀d∈D,d<w.heap.size:=fun d hd=>hD.lt hd
 have hBW:W.heap.size≤w.heap.size:=e.size
 have h0w:0<w.heap.size:=hT.lt
 refine blk <| db (S:=at') hf rfl BS (by decide) (fun s w1=>LvK W N0 N S0 mq l b2 b5 b6 v (out++[at']) at' seen D w1∧Blk w1 b8 (aJ (nxP (lkS l) s)) 76) (fun _ _=>False) (fun s w1 h=>h.1.t)
  ⟨⟨e,hT,HV,B2,B5,B6,Ho,hD⟩,B8⟩ (fun s w1 w2 h hs k=>⟨h.1.kp k hBW h0w l2 l5 l6 lu lD,h.2.kp k (fun hh=>by have:=hh.1;omega)⟩) (fun _ _ _ h=>h.elim) ?_ ?_ (fun _ _ _ _ _ _ h=>h.elim)
 ·intro lp s y rest a1 w1 hs hJ hlw hf
  have hy1024:y<1024:=(aL.1 (by rw[hs];simp)).1
  generalize hBz:w.heap.size=Bz at *
  refine ab <| tA hf rfl fun a hf=>aa <| ⟨Kh.rfl' _ _,fun w3 k3 hsz3=>?_⟩
  have hJ3:=hJ.1.kp k3 hBW h0w l2 l5 l6 lu lD
  have hJ8:=hJ.2.kp k3 (fun hh=>by have:=hh.1;omega)
  replace hf:=hf.pure w3
  obtain⟨e,hT,HV,B2,B5,B6,Ho,hD⟩:=hJ3
  have B8:=hJ8
  have kh:=Kh.rfl' Bz w3
  obtain⟨X,hX⟩:=eqX (nxP (lkS l) s)
  rw[← hX] at B8
  replace hf:=hf.kp [2,5,6,7,8,9]
  refine blk <| rgN 6 hf <| st ((ldW T76 rfl B8 rfl).eq ((rfl:_=ac X))) <| st (fA U79 rfl T77 rfl) <| st (ld1 (v:=mq) T77 rfl B2 (bI _ _)) <| st (mv rfl) <| st (lkM (l:=l) (i:=(y:Int)) U77 bW (isE rfl HV) rfl (bH (by omega) (by omega))) <| st (aw (A:=E (ac (X ||| lkS l (y:Int)))) gZ rfl rfl (fun v u w he h h'=>by cases h;cases h';exact ic X _ w)) ?_
  refine en fun a w e' hf=>?_
  obtain⟨hT,HV⟩:=up2 e' hT HV
  replace kh:=kh.tr (Kh.ext e')
  obtain⟨e,B2,B5,B6,B8,hD,Ho⟩:=up7 e' e B2 B5 B6 B8 hD Ho
  refine az T76 hf rfl rfl (bj _) B8 rfl (bh _) fun w hg hsz B8 hf=>?_
  obtain⟨e,hT,HV,B2,B5,B6⟩:=gr6 hg e hT HV B2 B5 B6
  replace Ho:=Ho.grE hg hu8;replace hD:=hD.gr hg hD8
  replace kh:=kh.tr (Kh.gr hg (fun hh=>by have:=hh.1;omega))
  refine aa ?_
  simp only[Exit.inBlock]
  exact⟨⟨⟨e,hT,HV,B2,B5,B6,Ho,hD⟩,by rw[qV,← hX];exact B8⟩,kh⟩
 ·intro a' w' hf' hJ hsz hDn
  simp only[Exit.inBlock,↓reduceIte,Exit.then]
  have hD2:Ds (w.heap.size::D) w':=hJ.1.ds.cons hDn fun hm=>Nat.lt_irrefl _ (lD _ hm)
  have hf:FrD 39 (bL (w.heap.size::D)) a' w' [(2,E (ptr b2)),(5,E (ptr b5)),(6,E (ptr b6)),(7,E v),(8,E (ptr b8))]:=hf'.keep [2,5,6,7,8]
  have hDW2:∀d∈w.heap.size::D,W.heap.size≤d:=fun d hd=>by
   rcases List.mem_cons.1 hd with rfl|hd
   ·exact hBW
   ·exact hDW d hd
  obtain⟨⟨e,hT,HV,B2,B5,B6,Ho,_⟩,B8⟩:=hJ
  replace hD:=hD2
  generalize w.heap.size::D=D2 at *
  generalize w'=w at *
  replace B8:Blk w b8 (aJ (nxN (lkS l) at')) 76:=B8
  obtain⟨nx,hnx⟩:=eqX (nxN (lkS l) at')
  rw[← hnx] at B8 hR hfu2
  obtain⟨a2,ha2⟩:=eqX (nx &&& ~~~seen)
  rw[← ha2] at hR hfu2
  refine seq <| rgN 3 hf <| st ((ldW T76 rfl B8 rfl).eq ((rfl:_=ac nx))) <| st ((ldW T76 rfl B6 rfl).eq ((rfl:_=ac seen))) <| st (aw (A:=E (ac a2)) lc rfl rfl (fun v u w he h h'=>by cases h;cases h';rw[ha2];exact lk nx seen w)) ?_
  refine en fun a w e' hf=>?_
  obtain⟨hT,HV,e,B2,B5,B6,B8,hD,Ho⟩:=up9 e' hT HV e B2 B5 B6 B8 hD Ho
  have hD5:=hD.ne B5
  have hD6:=hD.ne B6
  have hu5:v.ownBlock≠some b5:=Ho.neLt (by omega)
  have hu6:v.ownBlock≠some b6:=Ho.neLt (by omega)
  refine az T76 hf rfl rfl (bj _) B5 (bh _) (bh _) fun w hg hsz B5 hf=>?_
  obtain⟨e,hT,HV,B2,B6⟩:=gr5 hg e hT HV B2 B6
  replace Ho:=Ho.grE hg hu5;replace hD:=hD.gr hg hD5
  refine aa ?_
  replace hf:=hf.kp [2,5,6,7]
  refine rgN 3 hf <| st ((ldW T76 rfl B6 rfl).eq ((rfl:_=ac seen))) <| st ((ldW T76 rfl B5 rfl).eq ((rfl:_=ac a2))) <| st (aw (A:=E (ac (seen ||| a2))) gZ rfl rfl (fun v u w he h h'=>by cases h;cases h';exact ic seen a2 w)) ?_
  refine en fun a w e' hf=>?_
  obtain⟨hT,HV,e,B2,B5,B6,hD,Ho⟩:=up8 e' hT HV e B2 B5 B6 hD Ho
  refine az T76 hf rfl rfl (bj _) B6 (bh _) (bh _) fun w hg hsz B6 hf=>?_
  obtain⟨e,hT,HV,B2,B5⟩:=gr5 hg e hT HV B2 B5
  replace Ho:=Ho.grE hg hu6;replace hD:=hD.gr hg hD6
  refine aa ?_
  replace hf:=hf.kp [2,5,6,7]
  exact⟨f,Nat.lt_succ_self _,a2,seen ||| a2,out++[at'],v,D2,hfu2,by rw[List.length_append,List.length_singleton];omega,by rw[List.append_assoc];exact hR,hf,⟨e,hT,HV,B2,B5,B6,Ho,hD⟩,hDW2⟩
end Go.Mono
namespace Go.Mono
open Go Go.Proofs Go.RowKit
def jM (te:TypeId)(G:Nat→Prop)(w:World)(xs:List Int)(v:Value):Prop:=
 (v=.slice none 0 0∧xs=[])∨∃b cap cur,v=.slice (some ⟨b,0,none⟩) xs.length cap∧xs.length≤cap∧¬G b∧Blk w b cur te∧cur.toList.take xs.length=xs.map (Value.int .i64)
def bV (te:TypeId):Enc (List Int) where
 k:=1
 agg:=false
 r:=fun G w xs cs=>∃v,cs=[v]∧jM te G w xs v
 pos:=by decide
 k1:=fun _=>rfl
 len:=fun⟨v,h,_⟩=>by rw[h];rfl
 one:=fun⟨v,h,hv⟩ u hu=>by
  rw[h] at hu
  simp at hu
  subst hu
  rcases hv with ⟨rfl,_⟩|⟨b,cap,cur,rfl,_⟩ <;> rfl
 pres:=fun⟨v,h,hv⟩ k l=>⟨v,h,by
  rcases hv with hv|⟨b,cap,cur,h1,h2,h3,h4,h5⟩
  ·exact .inl hv
  ·exact .inr ⟨b,cap,cur,h1,h2,h3,(k b h4.lt h3).trans h4,h5⟩⟩
 weak:=fun⟨v,h,hv⟩ k=>⟨v,h,by
  rcases hv with hv|⟨b,cap,cur,h1,h2,h3,h4,h5⟩
  ·exact .inl hv
  ·exact .inr ⟨b,cap,cur,h1,h2,fun hg=>h3 (k _ h4.lt hg),h4,h5⟩⟩
section
variable {te ty B B':Nat}{G G':Nat→Prop}{w w':World}{xs:List Int}{v:Value}{out:List (List Int)}
theorem Dv.own {v:Value}{xs:List Int}:(Dv (bV te) G xs).p v w↔jM te G w xs v:=
 ⟨fun⟨cs,⟨u,h,hu⟩,hv⟩=>by subst h;rw[hv];exact hu,fun h=>⟨[v],⟨v,rfl,h⟩,rfl⟩⟩
theorem qW:∀l:List Int,Cells intE G w l (l.map (Value.int .i64))
 | []=>rfl
 | x::l=>⟨[.int .i64 x],l.map (Value.int .i64),rfl,rfl,qW l⟩
theorem qX:∀(l:List Int) (cs:List Value),Cells intE G w l cs→cs=l.map (Value.int .i64)
 | [],cs,h=>h
 | x::l,cs,⟨c,d,h,h1,h2⟩=>by rw[h,h1,qX l d h2];rfl
theorem jM.sl (h:jM te G w xs v):SlR intE G w xs v:=by
 rcases h with h|⟨b,cap,cur,h1,h2,h3,h4,h5⟩
 ·exact .inl h
 ·refine .inr ⟨_,cap,xs.map (Value.int .i64),h1,h2,h3,h4.lt,qW xs,fun i u hu=>?_⟩
  have hi:i<xs.length:=by have:=(List.getElem?_eq_some_iff.1 hu).1;rwa [List.length_map] at this
  rw[← h5,List.getElem?_take_of_lt hi,Array.getElem?_toList] at hu
  rw[Addr.add_lit,Nat.zero_add,h4.cell i];exact hu
theorem Dv.ownSl (h:(Dv (bV te) G xs).p v w):(Dv (slE intE) G xs).p v w:=Dv.sl.2 (Dv.own.1 h).sl
theorem OwR.own' (h:OwR intE te B G w xs v)(hN:∀b,v.ownBlock=some b→¬G' b):(Dv (bV te) G' xs).p v w:=by
 obtain⟨cs,h1,h2⟩:=h.own
 refine Dv.own.2 ?_
 rcases h1.2 with ⟨hv,hn⟩|⟨g,cap,cur,hv,hB,hg,hn,hm,hs,ht⟩
 ·exact .inl ⟨hv,List.eq_nil_of_length_eq_zero hn⟩
 ·have hk:intE.k=1:=rfl
  rw[hk,Nat.mul_one] at ht
  exact .inr ⟨g,cap,cur,hv,hn,hN g (by rw[hv];rfl),hg,by rw[ht];exact qX xs cs h2⟩
theorem qY:∀{out:List (List Int)} {cs:List Value},Cells (bV te) G w out cs→Cells (slE intE) G w out cs
 | [],cs,h=>h
 | x::out,cs,⟨c,d,h,⟨v,h1,h2⟩,h3⟩=>⟨c,d,h,⟨v,h1,h2.sl⟩,qY h3⟩
theorem Dv.ownSlS (h:(Dv (slE (bV te)) G out).p v w):(Dv (slE (slE intE)) G out).p v w:=by
 rcases Dv.sl.1 h with h|⟨ad,cap,cs,h1,h2,h3,h4,h5,h6⟩
 ·exact Dv.sl.2 (.inl h)
 ·exact Dv.sl.2 (.inr ⟨ad,cap,cs,h1,h2,h3,h4,qY h5,h6⟩)
theorem OwX.low {α:Type}{e:Enc α}{xs:List α}(h:OwX e ty B G w xs v)(hB:B'≤B):OwX e ty B' G w xs v:=by
 obtain⟨cs,⟨h1,h2⟩,h3⟩:=h.own
 refine⟨⟨cs,⟨h1,?_⟩,h3⟩,Nat.le_trans hB h.base⟩
 rcases h2 with h2|⟨g,cap,cur,a1,a2,a3⟩
 ·exact .inl h2
 ·exact .inr ⟨g,cap,cur,a1,Nat.le_trans hB a2,a3⟩
def jN {α:Type}(e:Enc α)(ty:TypeId)(B:Nat)(G:Nat→Prop)(xs:List α):VA:=⟨fun v w=>OwX e ty B G w xs v,fun v w w' k h=>h.ext k⟩
def ShW (ty te N n:Nat)(v:Value)(w:World):Prop:=n=0∧v=.slice none 0 0∨∃b cap cur,v=.slice (some ⟨b,0,none⟩) n cap∧Blk w b cur ty∧N≤b∧n≤cap∧n≤cur.size ∧
 ∀i,i<n→∃c m p cs,cur[i]?=some (.slice (some ⟨c,0,none⟩) m p)∧1≤m∧N≤c∧Blk w c cs te∧0<cs.size
theorem ShW.ext {ty te N n:Nat}(h:ShW ty te N n v w)(e:Ext w w'):ShW ty te N n v w':=by
 rcases h with h|⟨b,cap,cur,h1,h2,h3,h4,h5,h6⟩
 ·exact .inl h
 ·exact .inr ⟨b,cap,cur,h1,h2.ext e,h3,h4,h5,fun i hi=>by
   obtain⟨c,m,p,cs,a1,a2,a3,a4,a5⟩:=h6 i hi
   exact⟨c,m,p,cs,a1,a2,a3,a4.ext e,a5⟩⟩
theorem OwX.sh {N:Nat}(h:OwX (bV te) ty N G w out v)(hG:∀b,b<N→G b)(hne:∀L∈out,L≠[]):ShW ty te N out.length v w:=by
 obtain⟨cs,⟨hlen,hv⟩,hcs⟩:=h.own
 rcases hv with ⟨rfl,hn⟩|⟨g0,cap,cur,rfl,hB,hheap,hcap,hmax,hcur,htake⟩
 ·exact .inl ⟨hn,rfl⟩
 ·have hk1:(bV te).k=1:=rfl
  rw[hk1,Nat.mul_one] at hcur htake
  refine .inr ⟨g0,cap,cur,rfl,hheap,hB,hcap,by rw[hcur];exact hcap,fun i hi=>?_⟩
  have hx:=List.getElem?_eq_getElem hi
  have hL:=hne _ (List.getElem_mem hi)
  generalize out[i]=L at hx hL
  obtain⟨c,⟨u,rfl,hu⟩,hc⟩:=Cells.get hcs hx
  have hci:=hc 0 u rfl
  rw[hk1,Nat.mul_one,Nat.add_zero,← htake,List.getElem?_take_of_lt hi,Array.getElem?_toList] at hci
  rcases hu with ⟨_,h0⟩|⟨b,cp,cu,rfl,h2,h3,h4,h5⟩
  ·exact absurd h0 hL
  ·have hl:1≤L.length:=List.length_pos_iff.2 hL
   refine⟨b,L.length,cp,cu,hci,hl,Nat.le_of_not_lt fun hh=>h3 (.inl (hG b hh)),h4,?_⟩
   have:=congrArg List.length h5
   rw[List.length_take,List.length_map,Array.length_toList (xs:=cu)] at this
   omega
theorem ShW.wr {ty te N n b cap c:Nat}{cur cs:Array Value}{x:Value}(hn:ty≠te)(h2:Blk w b cur ty)(hNb:N≤b)(hnc:n≤cap)(hns:n≤cur.size)(h6:∀i,i<n→∃c m p cs,cur[i]?=some (.slice (some ⟨c,0,none⟩) m p)∧1≤m∧N≤c∧Blk w c cs te∧0<cs.size)
  (hc:Blk w c cs te) (hg:w.grownBy w' (some c)) (hb:Blk w' c (cs.setIfInBounds 0 x) te) (hs:0<cs.size):ShW ty te N n (.slice (some ⟨b,0,none⟩) n cap) w':=by
 have hbc:b≠c:=fun he=>by
  subst he
  have:=h2.symm.trans hc
  simp only[Option.some.injEq,Obj.cells.injEq] at this
  exact hn this.2.1
 refine .inr ⟨b,cap,cur,rfl,h2.gr hg hbc,hNb,hnc,hns,fun i hi=>?_⟩
 obtain⟨d,m,p,ds,a1,a2,a3,a4,a5⟩:=h6 i hi
 by_cases hd:d=c
 ·subst hd
  exact⟨d,m,p,_,a1,a2,a3,hb,by rw[Array.size_setIfInBounds];exact hs⟩
 ·exact⟨d,m,p,ds,a1,a2,a3,a4.gr hg hd,a5⟩
end
end Go.Mono
namespace Go.Mono
open Go Go.Proofs Go.RowKit Go.Gr

theorem zv (l:List BS)(r:BS):unL (l++[r])=unL l ||| r:=by rw[unL,List.foldl_append];rfl
theorem zw (nb:Int→BS):∀(f:Nat) (a s:BS),(lvF nb f a s).length≤f:=by
 intro f
 induction f with
 | zero=>intro a s;exact Nat.le_refl _
 | succ f ih=>
  intro a s
  rw[lvF]
  split
  ·exact Nat.zero_le _
  ·rw[List.length_cons];exact Nat.succ_le_succ (ih _ _)
theorem dZ (nb:Int→BS)(a:Nat):(lvB nb a).length≤1025:=zw nb 1025 _ _
theorem qZ (nb:Int→BS):∀(f:Nat) (s:BS),(prF nb f s).length≤f:=by
 intro f
 induction f with
 | zero=>intro s;exact Nat.le_refl _
 | succ f ih=>
  intro s
  cases h:aU s with
  | none=>rw[mc h];exact Nat.zero_le _
  | some a=>rw[md h,List.length_cons];exact Nat.succ_le_succ (ih _)
theorem zx {nb:Int→BS}{left:BS}{r a:Nat}(h:aU left=some a)(hc:card left≤r) :
  ∃f,r=f+1∧prF nb r left=unL (lvB nb a)::prF nb f (left &&& ~~~unL (lvB nb a))∧card (left &&& ~~~unL (lvB nb a))≤f:=by
 have ha:left.getLsbD a=true:=jB h
 have hp:=(jK (nb:=nb) (aK ha)).1
 have h1:=gp (S:=left &&& ~~~unL (lvB nb a)) (T:=left) (z:=a) (fun i hi=>((cm _ _ _).1 hi).1) ha fun h=>((cm _ _ _).1 h).2 hp
 obtain⟨f,rfl⟩:∃f,r=f+1:=⟨r - 1,by omega⟩
 exact⟨f,rfl,md h f,by omega⟩
theorem zy {nb:Int→BS}{left:BS}{r:Nat}(h:aU left=none):prF nb r left=[]:=by
 cases r with
 | zero=>rfl
 | succ r=>exact mc h r
def cw (l:List (Int×BS))(S:BS):List BS:=prF (lkS l) (card S) S
theorem iC {G:Nat→Prop}{N0:Nat}(l:List (Int×BS))(S:BS)(mq:Value)(W:World)(hT:Tab W)(h:(Dv (mpE sKV N0) G l).p mq W) :
  Calls Tryz.prog 54 #[.agg (adC S mq)] W (Post (OwA aM 76 W.heap.size G0 (cw l S)) W):=by
 have HV:(Dv (mpE sKV N0) (GB W G0) l).p mq W:=Dv.toB (Dv.weak h fun b _ hb=>hb.elim)
 have hT0:=hT.lt
 refine eN [.agg (adC S mq)] [E (.agg (adC S mq))] Tryz.func54 Tryz.ntmps54 ?_ fun a hf=>?_
 rotate_left
 dsimp only[params,Nat.reduceAdd] at hf
 rotate_right
 ·exact arg1 rfl
 have e:=Ext.rfl' W
 refine seq <| ab <| tB hf rfl fun a b1 w v1 hv1 e' hb1 hs1 B1 hf=>?_
 obtain⟨hT,HV,e⟩:=up3 e' hT HV e
 refine tA hf rfl fun a hf=>aa ?_
 cases hv1
 replace B1:Blk w b1 (adC S mq) 79:=B1
 replace hf:=hf.kp [1,2]
 refine seq <| ab <| tA hf rfl fun a hf=>aa <| seq <| ab <| tP hf (fA U79 rfl T76 rfl) fun a w e' hf=>?_
 obtain⟨hT,HV,e,B1⟩:=up4 e' hT HV e B1
 refine tP hf ((ldP T76 rfl B1 (by rw[aH];decide)).eq (congrArg Value.agg (bO S mq))) fun a w e' hf=>?_
 obtain⟨hT,HV,e,B1⟩:=up4 e' hT HV e B1
 refine tL I76 hf fun a b4 w e' hb4 hs4 B4 hf=>?_
 have hle4:=Nat.le_trans e.size (Nat.le_of_eq hb4.symm)
 have lt4_B1:=B1.lt
 obtain⟨hT,HV,e,B1⟩:=up4 e' hT HV e B1
 refine az T76 hf rfl rfl (bj _) B4 rfl (bh _) fun w hg hsz B4 hf=>?_
 obtain⟨e,hT,HV,B1⟩:=gr4 hg e hT HV B1
 refine aa ?_
 replace hf:=hf.keep [1,3,4]
 obtain⟨N,hN⟩:=eqX w.heap.size
 have Ho:OwR aM 76 N G0 w [] (.slice none 0 0):=OwR.nil aM _ (Nat.le_of_eq hN) (fun b hb=>hb.elim)
 have hlN:b1<N∧b4<N∧W.heap.size≤N∧b1≠b4∧W.heap.size≤b1∧W.heap.size≤b4:=by have h1:=B1.lt;have h2:=B4.lt;omega
 refine blk (aF (fun r0 a w=>∃(left:BS) (out:List BS) (u:Value),card left≤r0∧out.length+r0≤card S∧out++prF (lkS l) r0 left=cw l S∧Fr 39 a w [(1,E (ptr b1)),(3,E u),(4,E (ptr b4))]∧Ext W w∧Tab w∧(Dv (mpE sKV N0) (GB W G0) l).p mq w ∧
  Blk w b1 (adC S mq) 79∧Blk w b4 (aJ left) 76∧OwR aM 76 N G0 w out u) (card S) ⟨S,[],.slice none 0 0,Nat.le_refl _,by simp,by rw[List.nil_append,cw],hf,e,hT,HV,B1,B4,Ho⟩ ?_)
 rintro r0 a w ⟨left,out,u,hfu,hle,hR,hf,e,hT,HV,B1,B4,Ho⟩
 have hcS:=dM S
 refine blk ?_
 cases hq:aU left with
 | none=>
  refine seq <| rgN 7 hf <| st ((ldW T76 rfl B4 rfl).eq ((rfl:_=ac left))) <| st (ak (A:=gf left) fu rfl (fun v w he h=>by cases h;exact fx _ w (hT.ext he))) ?_
  refine st (mv rfl) <| st (aV rfl rfl) <| st (aV rfl rfl) <| st (asg rfl) <| st (asg rfl) <| en fun a w e' hf=>?_
  obtain⟨hT,HV,e,B1,B4,Ho⟩:=up6 e' hT HV e B1 B4 Ho
  refine aa ?_
  rw[hq] at hf
  replace hf:=hf.keep [3,5,6]
  refine seq <| seq ?_
  refine rgN 2 hf <| st (mv rfl) <| st ((aY rfl).eq (congrArg Value.bool (show (!(none:Option Nat).isSome)=true from rfl))) <| en fun a w e' hf=>?_
  obtain⟨hT,HV,e,B1,B4,Ho⟩:=up6 e' hT HV e B1 B4 Ho
  refine aa <| ifT hf rfl ?_
  rw[zy hq,List.append_nil] at hR
  rw[hR] at Ho
  refine seq <| rgN 1 hf <| st (mv rfl) <| en fun a w e' hf=>?_
  obtain⟨hT,HV,e,B1,B4,Ho⟩:=up6 e' hT HV e B1 B4 Ho
  refine tA hf rfl fun a hf=>aa <| ai <| am rfl hf rfl ?_
  rintro _ rfl
  exact⟨_,rfl,e,Ho.low hlN.2.2.1 fun b hb=>hb.elim⟩
 | some k=>
  obtain⟨f,rfl,hst,hcd⟩:=zx (nb:=lkS l) hq hfu
  have hk:k<1024:=aK (jB hq)
  rw[hst] at hR
  obtain⟨lvs,hlvs⟩:=eqX (lvB (lkS l) k)
  have hll:lvs.length≤1025:=by rw[hlvs];exact dZ _ _
  rw[← hlvs] at hR hcd
  refine seq <| rgN 7 hf <| st ((ldW T76 rfl B4 rfl).eq ((rfl:_=ac left))) <| st (ak (A:=gf left) fu rfl (fun v w he h=>by cases h;exact fx _ w (hT.ext he))) ?_
  refine st (mv rfl) <| st (aV rfl rfl) <| st (aV rfl rfl) <| st (asg rfl) <| st (asg rfl) <| en fun a w e' hf=>?_
  obtain⟨hT,HV,e,B1,B4,Ho⟩:=up6 e' hT HV e B1 B4 Ho
  refine aa ?_
  rw[hq] at hf
  replace hf:=hf.upd 5 rfl (B:=E (I (k:Nat))) (fun v h=>h)
  replace hf:=hf.keep [1,3,4,5,6]
  refine seq <| seq ?_
  refine rgN 2 hf <| st (mv rfl) <| st ((aY rfl).eq (congrArg Value.bool (show (!(some k).isSome)=false from rfl))) <| en fun a w e' hf=>?_
  obtain⟨hT,HV,e,B1,B4,Ho⟩:=up6 e' hT HV e B1 B4 Ho
  refine aa <| ifF hf rfl ?_
  refine ah ?_
  replace hf:=hf.keep [1,3,4,5]
  refine seq <| ab <| tL I76 hf fun a b7 w e' hb7 hs7 B7 hf=>?_
  have ne7_Ho:=Ho.ne_new hb7
  have lt7_B1:=B1.lt
  have lt7_B4:=B4.lt
  obtain⟨hT,HV,e,B1,B4,Ho⟩:=up6 e' hT HV e B1 B4 Ho
  refine aa ?_
  simp only[Value.cells,dD] at B7
  have hu7:=ne7_Ho
  have n7:b1≠b7∧b4≠b7∧W.heap.size≤b7:=by have:=B1.lt;have:=B4.lt;omega
  obtain⟨N1,hN1⟩:=eqX w.heap.size
  have hN1s:N1≤w.heap.size:=Nat.le_of_eq hN1
  have l7:b7<N1:=by rw[hN1];exact B7.lt
  have lu:∀b,u.ownBlock=some b→b<N1:=fun b hb=>by rw[hN1];exact (Ho.lt hb).2
  refine seq <| seq ?_
  refine rgN 5 hf <| st (ldW T79 rfl B1 (aH _ _)) <| st (mv rfl) <| st (aw (A:=OwA aM 76 N1 G0 lvs) (B:=E (.agg (adC S mq))) (C:=E (I (k:Nat))) eO rfl rfl (fun v u w he k1 k2=>by cases k1;cases k2;exact (fa l S mq k w (hT.ext he) (Dv.ex HV he) hk).mono fun en w' ⟨u,k1,k2,k3⟩=>⟨u,k1,k2,by rw[hlvs];exact OwR.low k3 (Nat.le_trans hN1s he.size) fun b hb=>hb.elim⟩)) ?_
  refine st (aB U83 ⟨_,rfl,fun v w _ h=>OwR.sl h⟩) <| st (mv rfl) <| en fun a w e' hf=>?_
  obtain⟨hT,HV,e,B1,B4,B7,Ho⟩:=up7 e' hT HV e B1 B4 B7 Ho
  refine aa ?_
  obtain⟨lv,HoL,hf⟩:=hf.opn 22 rfl
  replace HoL:OwR aM 76 N1 G0 w lvs lv:=HoL
  have hr7:lv.ownBlock≠some b7:=HoL.neLt l7
  replace hf:=hf.keep [1,3,4,7,22,23,24]
  replace hf:=hf.keep [1,3,4,7,22,23,24]
  refine blk (aF (fun r0 a w=>∃(j:Nat) ,r0=lvs.length - j∧j≤lvs.length∧Fr 39 a w [(1,E (ptr b1)),(3,E u),(4,E (ptr b4)),(7,E (ptr b7)),(22,E lv),(23,E (I (lvs.length:Nat))),(24,E (I j))]∧Ext W w∧Tab w∧(Dv (mpE sKV N0) (GB W G0) l).p mq w∧Blk w b1 (adC S mq) 79∧Blk w b4 (aJ left) 76∧Blk w b7 (aJ (unL (lvs.take j))) 76∧OwR aM 76 N G0 w out u∧OwR aM 76 N1 G0 w lvs lv) lvs.length ⟨0,rfl,by omega,hf,e,⟨hT,HV,B1,B4,B7,Ho,HoL⟩⟩ ?_)
  rintro r0 a w ⟨j,rfl,hj,hf,e,hT,HV,B1,B4,B7,Ho,HoL⟩
  refine seq <| rgN 1 hf <| st (lss rfl rfl) <| en fun a w e' hf=>?_
  obtain⟨hT,HV,Ho,HoL,e,B1,B4,B7⟩:=up8 e' hT HV Ho HoL e B1 B4 B7
  refine aa <| seq <| ifc hf rfl (fun hc=>ah ?_) (fun hc=>aC ?_)
  rotate_left
  rotate_left
  ·have hltj:=ltC hc
   replace hf:=hf.kp [1,3,4,7,22,23,24]
   refine seq <| blk ?_
   have hy:=List.getElem?_eq_getElem hltj
   generalize lvs[j]=y at hy
   have hsc:unL (lvs.take (j+1))=unL (lvs.take j) ||| y:=by rw[bs hy,zv]
   obtain⟨X,hX⟩:=eqX (unL (lvs.take j))
   rw[← hX] at hsc B7
   refine seq <| ab <| tP hf (aD U83 S76 (isE rfl (HoL.slN (N:=G0) fun b hb hh=>hh)) rfl (by omega) (hy)) fun a w e' hf=>?_
   obtain⟨hT,HV,HoL,e,B1,B4,B7,Ho⟩:=up8 e' hT HV HoL e B1 B4 B7 Ho
   refine tP hf (ldS T76 (isR rfl)) fun a w e' hf=>?_
   obtain⟨hT,HV,HoL,e,B1,B4,B7,Ho⟩:=up8 e' hT HV HoL e B1 B4 B7 Ho
   refine tL I76 hf fun a b9 w e' hb9 hs9 B9 hf=>?_
   have hle9:=Nat.le_trans e.size (Nat.le_of_eq hb9.symm)
   have ne9_Ho:=Ho.ne_new hb9
   have ne9_HoL:=HoL.ne_new hb9
   have lt9_B1:=B1.lt
   have lt9_B4:=B4.lt
   have lt9_B7:=B7.lt
   obtain⟨hT,HV,HoL,e,B1,B4,B7,Ho⟩:=up8 e' hT HV HoL e B1 B4 B7 Ho
   have hu9:=ne9_Ho
   have nr9:=ne9_HoL
   have n9:b1≠b9∧b4≠b9∧b7≠b9∧W.heap.size≤b9:=by omega
   replace hf:=hf.kp [1,3,4,7,9,22,23,24,27]
   refine az T76 hf rfl rfl (bj _) B9 rfl (bh _) fun w hg hsz B9 hf=>?_
   obtain⟨e,hT,HV,B1,B4,B7⟩:=gr6 hg e hT HV B1 B4 B7
   replace Ho:=Ho.grE hg hu9;replace HoL:=HoL.grE hg nr9
   refine aa ?_
   replace hf:=hf.kp [1,3,4,7,9,22,23,24]
   refine rgN 3 hf <| st ((ldW T76 rfl B7 rfl).eq ((rfl:_=ac X))) <| st ((ldW T76 rfl B9 rfl).eq ((rfl:_=ac y))) <| st (aw (A:=E (ac (X ||| y))) gZ rfl rfl (fun v u w he h h'=>by cases h;cases h';exact ic X y w)) ?_
   refine en fun a w e' hf=>?_
   obtain⟨hT,HV,HoL,e,B1,B4,B7,B9,Ho⟩:=up9 e' hT HV HoL e B1 B4 B7 B9 Ho
   refine az T76 hf rfl rfl (bj _) B7 rfl (bh _) fun w hg hsz B7 hf=>?_
   obtain⟨e,hT,HV,B1,B4⟩:=gr5 hg e hT HV B1 B4
   replace Ho:=Ho.grE hg hu7;replace HoL:=HoL.grE hg hr7
   refine aa ?_
   rw[← hsc] at B7
   replace hf:=hf.kp [1,3,4,7,22,23,24]
   refine rgN 1 hf <| st ((add rfl rfl (by omega)).eq (iN j)) <| en fun a w e' hf=>?_
   obtain⟨hT,HV,Ho,HoL,e,B1,B4,B7⟩:=up8 e' hT HV Ho HoL e B1 B4 B7
   refine tP hf (mv rfl) fun a w e' hf=>?_
   obtain⟨hT,HV,Ho,HoL,e,B1,B4,B7⟩:=up8 e' hT HV Ho HoL e B1 B4 B7
   refine aa ?_
   replace hf:=hf.kp [1,3,4,7,22,23,24]
   refine⟨_,?_,j+1,rfl,by omega,hf,e,?_⟩
   ·omega
   exact⟨hT,HV,B1,B4,B7,Ho,HoL⟩
  ·obtain rfl:=dnE hc hj
   rw[List.take_length] at B7
   obtain⟨P,hP⟩:=eqX (unL lvs)
   rw[← hP] at B7 hR hcd
   replace hf:=hf.kp [1,3,4,7]
   refine seq <| rgN 3 hf <| st (mv rfl) <| st ((ldW T76 rfl B7 rfl).eq ((rfl:_=ac P))) <| st (aW U83 I76 rfl (by decide) rfl Ho.avs (isS rfl)) <| en fun a w e' hf=>?_
   obtain⟨hT,HV,B1,B4,B7,Ho,e⟩:=up7 e' hT HV B1 B4 B7 Ho e
   haveI hin:∀G0,InR (GB W G0) _:=OwR.inGB (W:=W) Ho (by omega)
   refine br U83 I76 rfl rfl hf (by decide) rfl Ho (isR rfl) (by simp only[List.length_singleton];omega) (by simp only[List.length_singleton,maxLen];omega) fun a v w hg hat Hn hf=>?_
   replace e:=e.gro hg (Ho.row (W:=W) (by omega))
   have hrow:=Ho.row (W:=W) (by omega)
   replace hT:=hT.gro hg (fun b hb=>by have:=hrow b hb;omega)
   replace HV:=Dv.gro HV hg (fun b hb=>.inr (hrow b hb))
   replace B1:=B1.gro hg (Ho.neLt (by omega))
   replace B4:=B4.gro hg (Ho.neLt (by omega))
   replace B7:=B7.gro hg hu7
   replace Ho:=Hn
   replace Ho:=Hn;clear Hn hg hat hin
   refine tA hf rfl fun a hf=>aa ?_
   replace hf:=hf.kp [1,3,4,7]
   refine rgN 3 hf <| st ((ldW T76 rfl B4 rfl).eq ((rfl:_=ac left))) <| st ((ldW T76 rfl B7 rfl).eq ((rfl:_=ac P))) <| st (aw (A:=E (ac (left &&& ~~~P))) lc rfl rfl (fun v u w he h h'=>by cases h;cases h';exact lk left P w)) ?_
   refine en fun a w e' hf=>?_
   obtain⟨hT,HV,e,B1,B4,B7,Ho⟩:=up7 e' hT HV e B1 B4 B7 Ho
   have hu4:v.ownBlock≠some b4:=Ho.neLt (by omega)
   refine az T76 hf rfl rfl (bj _) B4 rfl (bh _) fun w hg hsz B4 hf=>?_
   obtain⟨e,hT,HV,B1⟩:=gr4 hg e hT HV B1
   replace Ho:=Ho.grE hg hu4
   refine aa ?_
   replace hf:=hf.kp [1,3,4]
   exact⟨f,Nat.lt_succ_self _,left &&& ~~~P,out++[P],v,hcd,by rw[List.length_append,List.length_singleton];omega,by rw[List.append_assoc];exact hR,hf,e,hT,HV,B1,B4,Ho⟩
theorem zz (S:BS)(b:Nat)(W:World)(hT:Tab W)(hb:Blk W b (aJ S) 76) :
  Calls Tryz.prog 106 #[cY b] W (Post (OwA intE 3 W.heap.size G0 (ae (aj S))) W):=by
 refine eN [cY b] [E (cY b)] Tryz.func106 Tryz.ntmps106 ?_ fun a hf=>?_
 rotate_left
 rotate_right
 ·exact arg1 rfl
 have e:=Ext.rfl' W
 refine seq <| ab <| tA hf rfl fun a hf=>aa ?_
 have hWN:W.heap.size≤W.heap.size:=Nat.le_refl _
 have hNs:=hWN
 refine seq <| rgN 2 hf <| st (mv rfl) <| st (aw (A:=OwA intE 3 W.heap.size G0 (ae (aj S))) (B:=E (.slice none 0 0)) (C:=E (cY b)) vN rfl rfl (fun v u w he k1 k2=>by cases k1;cases k2;exact (zg S b w (hT.ext he) (hb.ext he)).mono fun en w' ⟨u,k1,k2,k3⟩=>⟨u,k1,k2,OwR.low k3 (Nat.le_trans hNs he.size) fun b hb=>hb.elim⟩)) ?_
 refine en fun a w e' hf=>?_
 obtain⟨hT,e,hb⟩:=up3 e' hT e hb
 refine tA hf rfl fun a hf=>aa <| ai <| am rfl hf rfl ?_
 intro v hv
 exact⟨_,rfl,e,(OwR.low hv hWN fun b hb=>hb.elim)⟩
theorem jO (S:BS)(W:World)(hT:Tab W):Calls Tryz.prog 56 #[ac S] W (Post (OwA intE 3 W.heap.size G0 (ae (aj S))) W):=by
 refine eN [ac S] [E (ac S)] Tryz.func56 Tryz.ntmps56 ?_ fun a hf=>?_
 rotate_left
 rotate_right
 ·exact arg1 rfl
 have e:=Ext.rfl' W
 refine seq <| ab <| tB hf rfl fun a b1 w v1 hv1 e' hb1 hs1 B1 hf=>?_
 obtain⟨hT,e⟩:=up2 e' hT e
 refine tA hf rfl fun a hf=>aa ?_
 cases hv1
 replace B1:Blk w b1 (aJ S) 76:=B1
 obtain⟨N,hN⟩:=eqX w.heap.size
 have hNs:N≤w.heap.size:=Nat.le_of_eq hN
 have hWN:W.heap.size≤N:=by rw[hN];exact e.size
 refine seq <| rgN 3 hf <| st ((ldW T76 rfl B1 rfl).eq ((rfl:_=ac S))) <| st (ak (A:=cN 0 S) cV rfl (fun v w' he h=>by cases h;exact Calls.mono (cZ _ w') (fun en w2 ⟨u,h1,h2,b',h3,h4,h5⟩=>⟨u,h1,h2,b',Nat.zero_le _,h4,h5⟩))) ?_
 refine st (ak (A:=OwA intE 3 N G0 (ae (aj S))) vD rfl (fun v w he ⟨b,_,hv,hb⟩=>by rw[hv];exact (zz S b w (hT.ext he) hb).mono fun en w' ⟨u,k1,k2,k3⟩=>⟨u,k1,k2,OwR.low k3 (Nat.le_trans hNs he.size) fun b hb=>hb.elim⟩)) ?_
 refine en fun a w e' hf=>?_
 obtain⟨hT,e,B1⟩:=up3 e' hT e B1
 refine tA hf rfl fun a hf=>aa <| ai <| am rfl hf rfl ?_
 intro v hv
 exact⟨_,rfl,e,(OwR.low hv hWN fun b hb=>hb.elim)⟩
def ci (l:List (Int×BS))(S:BS)(N0:Nat):VA:=⟨fun v w=>∃mq,v=.agg (adC S mq)∧(Dv (mpE sKV N0) G0 l).p mq w,fun v w w' e ⟨mq,h1,h2⟩=>⟨mq,h1,Dv.ex h2 e⟩⟩
def elL (C:BS):List Int:=ae (aj C)
theorem mh (C:BS):(elL C).length≤1024:=by rw[elL,ae,List.length_map];exact eT C
theorem ra {N:Nat}(g:GT)(v:Value)(W:World)(hT:Tab W)(h:(Gn N g).p v W)(gs1:g.1.Pairwise fun x y=>lt1 x.1 y.1=true)(gs2:g.2.Pairwise fun x y=>lt2 x.1 y.1=true)(hl1:g.1.length≤100000)(hl2:g.2.length≤100000)(hN:N≤1000000) :
  Calls Tryz.prog 22 #[v] W (Post (jN (bV 3) 35 W.heap.size (fun b=>b<W.heap.size) ((prF (nbA g) (card (vset g.1)) (vset g.1)).map elL)) W):=by
 have hgd:=h
 obtain⟨l,hl⟩:=eqX (nbL g (aj (vset g.1)))
 obtain⟨S,hS⟩:=eqX (vset g.1)
 obtain⟨ps,hps⟩:=eqX (cw l S)
 have hpl:ps.length≤1024:=by rw[hps,cw];exact Nat.le_trans (qZ _ _ _) (dM S)
 have hgoal:prF (nbA g) (card (vset g.1)) (vset g.1)=ps:=by rw[hps,cw,hl,hS,nbA]
 rw[hgoal]
 have hT0:=hT.lt
 refine eN [v] [E v] Tryz.func22 Tryz.ntmps22 ?_ fun a hf=>?_
 rotate_left
 rotate_right
 ·exact arg1 rfl
 have e:=Ext.rfl' W
 refine seq <| ab <| tA hf rfl fun a hf=>aa <| seq <| ab <| tA hf rfl fun a hf=>aa ?_
 obtain⟨N1,hN1⟩:=eqX W.heap.size
 have hN1s:N1≤W.heap.size:=Nat.le_of_eq hN1
 have hWN:W.heap.size≤N1:=by rw[hN1];exact e.size
 have e0:=e
 refine seq <| seq ?_
 refine rgN 5 hf <| st (mv rfl) <| st (ak (A:=ci l S 1024) dR rfl (fun v w he k=>by cases k;rw[hl,hS];exact (mg g _ w (hT.ext he) (vst (e0.tr he) hgd) gs1 gs2 hl1 hl2 hN).mono fun en w' ⟨k1,mq,k2,k3⟩=>⟨_,k2,k1,mq,rfl,k3⟩)) ?_
 refine st (ak (A:=OwA aM 76 N1 G0 ps) (B:=ci l S 1024) fX rfl (fun v w he ⟨mq,k1,k2⟩=>by rw[k1,hps];exact (iC l S mq w (hT.ext he) k2).mono fun en w' ⟨u,k1,k2,k3⟩=>⟨u,k1,k2,OwR.low k3 (Nat.le_trans hN1s he.size) fun b hb=>hb.elim⟩)) ?_
 refine st (aB U83 ⟨_,rfl,fun v w _ h=>OwR.sl h⟩) <| st (mv rfl) <| en fun a w e' hf=>?_
 obtain⟨hT,e⟩:=up2 e' hT e
 refine aa ?_
 obtain⟨pv,HoL,hf⟩:=hf.opn 8 rfl
 replace HoL:OwR aM 76 N1 G0 w ps pv:=HoL
 obtain⟨N2,hN2⟩:=eqX w.heap.size
 have lp:∀b,pv.ownBlock=some b→b<N2:=fun b hb=>by rw[hN2];exact (HoL.lt hb).2
 have X:OwX (bV 3) 35 N2 (fun b=>b<W.heap.size) w [] (.slice none 0 0):=OwX.nil _ _ (Nat.le_of_eq hN2)
 have hWN2:W.heap.size≤N2:=by rw[hN2];exact e.size
 replace hf:=hf.keep [3,8,9,10]
 replace hf:=hf.keep [3,8,9,10]
 refine blk (aF (fun r0 a w=>∃(j:Nat) (u:Value),r0=ps.length - j∧j≤ps.length∧Fr 21 a w [(3,E u),(8,E pv),(9,E (I (ps.length:Nat))),(10,E (I j))]∧Ext W w∧Tab w∧OwR aM 76 N1 G0 w ps pv∧OwX (bV 3) 35 N2 (fun b=>b<W.heap.size) w ((ps.take j).map elL) u) ps.length ⟨0,.slice none 0 0,rfl,by omega,hf,e,⟨hT,HoL,X⟩⟩ ?_)
 rintro r0 a w ⟨j,u,rfl,hj,hf,e,hT,HoL,X⟩
 refine seq <| rgN 1 hf <| st (lss rfl rfl) <| en fun a w e' hf=>?_
 obtain⟨hT,HoL,X,e⟩:=up4 e' hT HoL X e
 refine aa <| seq <| ifc hf rfl (fun hc=>ah ?_) (fun hc=>aC ?_)
 rotate_left
 rotate_left
 ·have hltj:=ltC hc
  replace hf:=hf.keep [3,8,9,10]
  refine seq <| blk ?_
  have hy:=List.getElem?_eq_getElem hltj
  generalize ps[j]=C at hy
  have hsc:(ps.take (j+1)).map elL=(ps.take j).map elL++[elL C]:=by rw[bs hy,List.map_append];rfl
  have hlo:((ps.take j).map elL).length≤1024:=by rw[List.length_map];exact Nat.le_trans (List.length_take_le' _ _) hpl
  generalize (ps.take j).map elL=out at hsc hlo X
  obtain⟨N3,hN3⟩:=eqX w.heap.size
  have hN3s:N3≤w.heap.size:=Nat.le_of_eq hN3
  have lu:∀b,u.ownBlock=some b→b<N3:=fun b hb=>by rw[hN3];exact (X.lt hb).2
  replace X:=X.weak (G':=fun b=>b<W.heap.size∨N3≤b) fun b hb h=>h.elim id fun h=>by rw[hN3] at h;exact absurd hb (Nat.not_lt.2 h)
  refine seq <| ab <| tP hf (aD U83 S76 (isE rfl (HoL.slN (N:=G0) fun b hb hh=>hh)) rfl (by omega) (hy)) fun a w e' hf=>?_
  obtain⟨hT,X,hN3s,e,HoL⟩:=up5 e' hT X hN3s e HoL
  refine tP hf (ldS T76 (isR rfl)) fun a w e' hf=>?_
  obtain⟨hT,X,hN3s,e,HoL⟩:=up5 e' hT X hN3s e HoL
  refine tL I76 hf fun a b5 w e' hb5 hs5 B5 hf=>?_
  have hle5:=Nat.le_trans e.size (Nat.le_of_eq hb5.symm)
  have lo5_hN3s:=Nat.le_trans hN3s (Nat.le_of_eq hb5.symm)
  have ne5_HoL:=HoL.ne_new hb5
  obtain⟨hT,X,hN3s,e,HoL⟩:=up5 e' hT X hN3s e HoL
  have hr5:=ne5_HoL
  have h5:N3≤b5:=lo5_hN3s
  have hW5:W.heap.size≤b5:=hle5
  have hu5:u.ownBlock≠some b5:=fun h=>by have:=lu b5 h;omega
  replace hf:=hf.kp [3,5,8,9,10,13]
  refine az T76 hf rfl rfl (bj _) B5 rfl (bh _) fun w hg hsz B5 hf=>?_
  replace X:=X.ch ((Chg.rfl' (fun b=>b=b5) _).gr hg (.inl rfl)) (fun b hb h=>hu5 (by rw[← h];exact hb)) (fun b h=>by rw[h];exact .inr h5)
  obtain⟨e,hT⟩:=gr2 hg e hT
  replace HoL:=HoL.grE hg hr5
  refine aa ?_
  replace X:=X.weak (G':=fun b=>b<W.heap.size) fun b _ h=>.inl h
  have hlu:∀b,GO (fun b=>b<W.heap.size) u b→b<w.heap.size:=fun b hb=>hb.elim (fun h=>Nat.lt_of_lt_of_le h e.size) fun h=>(X.lt h).2
  replace hf:=hf.kp [3,5,8,9,10]
  refine rgN 4 hf <| st (mv rfl) <| st ((ldW T76 rfl B5 rfl).eq ((rfl:_=ac C))) <| st (ak (A:=Dv (bV 3) (GO (fun b=>b<W.heap.size) u) (elL C)) ji rfl (fun v w he h=>by cases h;exact (jO C w (hT.ext he)).mono fun en w' ⟨z,k1,k2,k3⟩=>⟨z,k1,k2,OwR.own' k3 fun b hb hh=>by have h1:=hlu b hh;have h2:=(k3.lt hb).1;have h3:=he.size;omega⟩)) ?_
  refine st (aW U39 I35 rfl (by decide) rfl hlu (isR rfl)) <| en fun a w e' hf=>?_
  obtain⟨hT,X,e,B5,HoL⟩:=up5 e' hT X e B5 HoL
  have hrow:∀b,u.ownBlock=some b→N2≤b:=fun b hb=>(X.lt hb).1
  refine kP U39 I35 rfl rfl hf (by decide) rfl X (isR rfl) (by simp only[List.length_singleton];omega) (by simp only[List.length_singleton,maxLen];omega) fun a u' w hg hat Hn hf=>?_
  replace e:=e.gro hg (fun b hb=>by have:=hrow b hb;omega)
  replace hT:=hT.gro hg (fun b hb=>by have:=hrow b hb;omega)
  replace HoL:=HoL.groE hg (fun b hb hh=>by have h1:=hrow b hh;have h2:=lp b hb;omega)
  have X:=Hn
  rw[← hsc] at X
  replace hf:=hf.keep [3,8,9,10,18]
  refine tA hf rfl fun a hf=>aa <| rgN 1 hf <| st ((add rfl rfl (by omega)).eq (iN j)) <| en fun a w e' hf=>?_
  obtain⟨hT,HoL,X,e⟩:=up4 e' hT HoL X e
  refine tP hf (mv rfl) fun a w e' hf=>?_
  obtain⟨hT,HoL,X,e⟩:=up4 e' hT HoL X e
  refine aa ?_
  replace hf:=hf.keep [3,8,9,10]
  refine⟨_,?_,j+1,_,rfl,by omega,hf,e,?_⟩
  ·omega
  exact⟨hT,HoL,X⟩
 ·obtain rfl:=dnE hc hj
  rw[List.take_length] at X
  replace hf:=hf.keep [3]
  refine seq <| rgN 1 hf <| st (mv rfl) <| en fun a w e' hf=>?_
  obtain⟨X,e⟩:=up2 e' X e
  refine tA hf rfl fun a hf=>aa <| ai <| am rfl hf rfl ?_
  rintro _ rfl
  exact⟨_,rfl,e,OwX.low X hWN2⟩
theorem rf {N:Nat}(g:GT)(v:Value)(W:World)(hT:Tab W)(h:(Gn N g).p v W)(gs1:g.1.Pairwise fun x y=>lt1 x.1 y.1=true)(gs2:g.2.Pairwise fun x y=>lt2 x.1 y.1=true)(hl1:g.1.length≤100000)(hl2:g.2.length≤100000)(hN:N≤1000000) :
  Calls Tryz.prog 22 #[v] W (Post (Dv (slE (slE intE)) G0 ((prF (nbA g) (card (vset g.1)) (vset g.1)).map elL)) W):=
 (ra g v W hT h gs1 gs2 hl1 hl2 hN).mono fun en w' ⟨u,k1,k2,k3⟩=>⟨u,k1,k2,Dv.ownSlS (OwX.sl0 k3)⟩
end Go.Mono
namespace Go.Mono
open Go Go.Proofs Go.RowKit
open Go.WideElems (Fit rd rg pl rd_val elemAt findIdx_arr findIdx_born set_self)
open Go.ChangeMaps (modify_eq_set)
open Go.ChangeMaps (setBlock)
section
variable {P:Program}{α β:Type}{V:KV P α β}{w:World}{b n:Nat}{l:List (α×β)}
theorem zA {γ:Type}{a:Array γ}{i:Nat}{x:γ}(h:a[i]?=some x):a.setIfInBounds i x=a:=by
 apply Array.ext'
 rw[Array.toList_setIfInBounds]
 exact set_self _ _ _ (by simpa using h)
theorem MpR.slot {t:TypeId}(h:MpR V w b n l)(ht:P.underlying t=some (.map V.k V.e)){x:α}{c:β}(hx:V.ok x)(hm:(x,c)∈l) :
  ∃v0 st:Value,(Instr.mapEntry t (.map (some b)) (V.kv x)).run P w=.ok (.tuple #[v0,st]) w ∧
   ∀w2 val,w2.heap[b]?=w.heap[b]?→(Instr.entryStore t (.map (some b)) st val).run P w2=(Instr.mapUpdate t (.map (some b)) (V.kv x) val).run P w2:=by
 obtain⟨es,⟨arr,clock,hb,F,hs,hD⟩,hp,hok,hpw⟩:=h
 have hkey:=V.key x hx
 obtain⟨s1,s2,s3⟩:=F.stamped
 have hthere:∃e0∈arr.toList,e0.key=V.kv x:=by
  have h1:V.enc (x,c)∈es:=hp.mem_iff.2 (List.mem_map.2 ⟨_,hm,rfl⟩)
  cases hD
  have h2:V.enc (x,c)∈arr.toList.map (rg P V.k V.R):=by
   have key:∀(m:List (Lit×DataW Unit)) (p:Lit×DataW Unit),p∈m.foldr DataW.insert []→p∈m:=by
    intro m
    induction m with
    | nil=>intro p h;exact h
    | cons a m ih=>
     intro p h
     rw[List.foldr_cons] at h
     have:=(ii a (m.foldr DataW.insert [])).mem_iff.1 h
     rcases List.mem_cons.1 this with h|h
     ·rw[h];exact List.mem_cons_self ..
     ·exact List.mem_cons_of_mem _ (ih p h)
   exact key _ _ h1
  obtain⟨e0,he0,hr⟩:=List.mem_map.1 h2
  obtain⟨y,hy⟩:=F.reads e0 he0
  have m1:=Go.WideElems.rd_key hy
  rw[Go.WideElems.rg_of hy] at hr
  have m2:y.1=V.kl x:=by rw[hr];rfl
  rw[m2] at m1
  exact⟨e0,he0,V.K.inj m1 hkey⟩
 rcases V.K.find w hkey arr.toList F.keys with ⟨h1,h2⟩|⟨j,e0,h1,h2,h3⟩
 ·obtain⟨e0,he0,hk⟩:=hthere
  exact absurd hk (h2 e0 he0)
 ·have hj:arr[j]?=some e0:=by simpa using h2
  have hsame:arr.modify j (fun e=>{ e with key:=V.kv x })=arr:=by
   apply Array.ext'
   rw[Array.toList_modify,modify_eq_set _ _ _ _ h2]
   have:({ e0 with key:=V.kv x }:MapEntry)=e0:=by rw[← h3]
   rw[this]
   exact set_self _ _ _ h2
  refine⟨e0.val,goInt e0.born,?_,fun w2 val hw2=>?_⟩
  ·have hset:({ w with heap:=w.heap.setIfInBounds b (.map arr clock) }:World)=w:=by rw[zA hb]
   simp[Instr.mapEntry,run_underlying ht,MapKept.run_getObj_map hb,V.K.check w false hkey,h1,hj,h3,V.K.stays w hkey,hsame,MapKept.run_setObj_map _ hb,Result.andThen,hset]
  ·have hb2:=hw2.trans hb
   have hidx:arr.findIdx? (fun e=>((e.born:Nat):Int)==((e0.born:Nat):Int))=some j:=by
    rw[findIdx_arr]
    exact findIdx_born s2 h2
   have hmod:arr.modify j (fun e=>{ e with val:=val })=arr.modify j (fun e'=>{ e' with key:=V.kv x,val:=val }):=by
    apply Array.ext'
    rw[Array.toList_modify,Array.toList_modify,modify_eq_set _ _ _ _ h2,modify_eq_set _ _ _ _ h2,← h3]
   have h1':(Instr.findKey V.k (V.kv x) arr.toList).run P w2=.ok (some (j,e0.val)) w2:=by
    rcases V.K.find w2 hkey arr.toList F.keys with ⟨q1,q2⟩|⟨j',e',q1,q2,q3⟩
    ·exact absurd h3 (q2 e0 (List.mem_of_getElem? h2))
    ·have hee:j'=j∧e'=e0:=by
      have hjl:j'<(arr.toList.map (·.key)).length:=by rw[List.length_map];exact (List.getElem?_eq_some_iff.1 q2).1
      have hjj:j'=j:=(List.getElem?_inj hjl s3).1 (by rw[List.getElem?_map,List.getElem?_map,q2,h2];show some e'.key=some e0.key;rw[q3,h3])
      refine⟨hjj,?_⟩
      rw[hjj,h2] at q2
      exact (Option.some.inj q2).symm
     rw[hee.1,hee.2] at q1
     exact q1
   simp[Instr.entryStore,MapKept.run_getObj_map hb2,asInt,asIntOf,goInt,hidx,hmod,MapKept.run_setObj_map _ hb2,Result.andThen]
   simp[Instr.mapUpdate,run_underlying ht,MapKept.run_getObj_map hb2,V.K.check w2 false hkey,h1',hj,h3,V.K.stays w2 hkey,MapKept.run_setObj_map _ hb2,Result.andThen]
def SlA (P:Program)(t b:Nat)(key:Value):VA:=⟨fun st w=>b<w.heap.size∧∀w2 val,w2.heap[b]?=w.heap[b]?→(Instr.entryStore t (.map (some b)) st val).run P w2=(Instr.mapUpdate t (.map (some b)) key val).run P w2,
 fun v w w' e ⟨h1,h2⟩=>⟨Nat.lt_of_lt_of_le h1 e.size,fun w2 val hw=>h2 w2 val (hw.trans (e.block b h1))⟩⟩
theorem MpR.dvE {N:Nat}(h:MpR V w b n l)(hn:n≤N){G:Nat→Prop}(hG:¬G b):(Dv (mpE V N) G l).p (.map (some b)) w:=⟨[.map (some b)],⟨b,n,rfl,hG,hn,h⟩,rfl⟩
end
section ops
variable {P:Program}{w0:World}{L:Env}{dst:Option Tmp}{ty:TypeId}{pos:String}{aft:Array Edge}{g:Option (Nat×Bool)}{x y s:Operand}{t b n:Nat}
variable {α β:Type}{V:KV P α β}{l:List (α×β)}{i:α}{c:β}
theorem enS (ht:P.underlying t=some (.map V.k V.e))(hx:opd L x=some (E (.map (some b))))(hy:opd L y=some (E (V.kv i)))(hM:MpR V w0 b n l)(hi:V.ok i)(hm:(i,c)∈l) :
  OpC P w0 L ⟨dst,.mapEntry t x y,ty,pos,aft,g⟩ (Tup [Any,SlA P t b (V.kv i)]):=
 aP fun ρ w he hv=>by
  have hxv:ρ x=.map (some b):=hv x (by simp[Op.operands]) _ hx
  have hyv:ρ y=V.kv i:=hv y (by simp[Op.operands]) _ hy
  obtain⟨v0,st,h1,h2⟩:=(hM.ext he).slot ht hi hm
  exact⟨.tuple #[v0,st],by simp only[execOp,hxv,hyv,Sem.run_bind,h1,Result.andThen_ok,Sem.run_pure],Tup.two trivial ⟨(hM.ext he).lt,h2⟩⟩
theorem esJ [DecidableEq α](ht:P.underlying t=some (.map V.k V.e))(hx:opd L x=some (E (.map (some b))))(hs:opd L s=some (SlA P t b (V.kv i)))(hy:opd L y=some (E (V.mv c)))(hM:MpR V w0 b n l)(hi:V.ok i)(hc:V.okv c)(hn:n<maxLen) :
  cG P w0 (Chg fun d=>d=b) (fun w'=>MpR V w' b (n+1) (aT l i c)) L ⟨none,.entryStore t x s y,ty,pos,aft,none⟩ Any:=by
 refine⟨fun ρ w he hv=>?_⟩
 have hxv:ρ x=.map (some b):=hv x (by simp[Op.operands]) _ hx
 have hsv:=hv s (by simp[Op.operands]) _ hs
 have hyv:ρ y=V.mv c:=hv y (by simp[Op.operands]) _ hy
 obtain⟨w',h1,h2,h3⟩:=(hM.ext he).put hi hc ht hn
 have h4:=hsv.2 w (V.mv c) rfl
 rw[h1] at h4
 simp only[OpR,execOp,hxv,hyv,Sem.run_bind,h4,Result.andThen_ok,Sem.run_pure]
 exact⟨⟨h3.os,h3.tape,h3.output,h3.size,fun k hk hn=>h3.block k hk fun hh=>hn (by cases hh;rfl)⟩,trivial,h2⟩
end ops
end Go.Mono
namespace Go.Mono
open Go Go.Proofs Go.RowKit Go.Gr

theorem rh (S:BS)(bm:Nat):Tryz.prog.built 79 [(0,ac S),(1,.map (some bm))]=some (adC S (.map (some bm))):=by kernel_rfl
def wiP (l:List (Int×BS))(S:BS)(s:List Nat):List (Int×BS):=s.map fun n:Nat=>((n:Int),lkS l (n:Int) &&& S)
def wiL (l:List (Int×BS))(S:BS):List (Int×BS):=wiP l S (aj S)
theorem rj {α β:Type}[DecidableEq α]{l:List (α×β)}{x:α}{c:β}(hx:∀c,(x,c) ∉ l):(aT l x c).Perm (l++[(x,c)]):=by
 have hf:l.filter (fun p => !decide (p.1=x))=l:=by
  rw[List.filter_eq_self]
  intro p hp
  have:p.1≠x:=fun e=>hx p.2 (by rw[← e];exact hp)
  simp[this]
 rw[aT,hf]
 exact List.perm_append_comm (l₁:=[(x,c)])
theorem zB {l:List (Int×BS)}{S:BS}{s:List Nat}{x:Nat}(hx:x ∉ s):(aT (wiP l S s) (x:Int) (lkS l (x:Int) &&& S)).Perm (wiP l S (s++[x])):=by
 refine (rj fun c hc=>?_).trans (by rw[wiP,wiP,List.map_append];exact List.Perm.refl _)
 obtain⟨n,hn,he⟩:=List.mem_map.1 hc
 have:n=x:=by have:=congrArg Prod.fst he;simp only at this;omega
 exact hx (by rw[← this];exact hn)
theorem jP (f:Nat→BS):∀(s:List Nat) (x:Nat),lkS (s.map fun n:Nat=>((n:Int),f n)) (x:Int)=if x∈s then f x else 0
 | [],x=>by simp[lkS]
 | n::s,x=>by
  have ih:=jP f s x
  rw[lkS] at ih
  rw[List.map_cons,lkS,List.find?_cons]
  by_cases h:n=x
  ·subst h;simp
  ·have h1:((n:Int)=(x:Int))=False:=by simp;omega
   have h2:(x∈n::s)=(x∈s):=by simp[Ne.symm h]
   simp only[h1,decide_false,h2]
   exact ih
theorem zC (f:Nat→BS)(s:List Nat){i:Int}(hi:i<0):lkS (s.map fun n:Nat=>((n:Int),f n)) i=0:=by
 refine qi fun c hc=>?_
 obtain⟨n,_,he⟩:=List.mem_map.1 hc
 have:=congrArg Prod.fst he
 simp only at this;omega
def ew (nb:Int→BS)(S:BS):Int→BS:=fun i=>if has S i=true then nb i &&& S else 0
theorem mj (l:List (Int×BS))(S:BS):lkS (wiL l S)=ew (lkS l) S:=by
 funext i
 rw[ew]
 by_cases hi:i<0
 ·have h0:has S i=false:=by
   cases h:has S i with
   | false=>rfl
   | true=>
    have:=h
    unfold has at this
    simp[di] at this
    omega
  rw[wiL,wiP,zC _ _ hi,h0];rfl
 ·obtain⟨n,rfl⟩:∃n:Nat,i=n:=⟨i.toNat,by omega⟩
  rw[wiL,wiP,jP (fun n=>lkS l (n:Int) &&& S)]
  by_cases h:S.getLsbD n=true
  ·rw[if_pos (aL.2 ⟨aK h,h⟩),if_pos ((cQ S n).2 h)]
  ·rw[if_neg fun hh=>h (aL.1 hh).2,if_neg fun hh=>h ((cQ S n).1 hh)]
structure WiJ (W:World)(N0:Nat)(l:List (Int×BS))(S0 S:BS)(mq:Value)(b2 b4 b5 bm:Nat)(c4:Array Value)(s:List Nat)(w:World):Prop where
 e:Ext W w
 t:Tab w
 hv:(Dv (mpE sKV N0) (GB W G0) l).p mq w
 p2:Blk w b2 (adC S0 mq) 79
 p4:Blk w b4 c4 79
 p5:Blk w b5 (adC S (.map (some bm))) 79
 m:MpR sKV w bm s.length (wiP l S s)
theorem WiJ.kp {W:World}{N0:Nat}{l:List (Int×BS)}{S0 S:BS}{mq:Value}{b2 b4 b5 bm:Nat}{c4:Array Value}{s:List Nat}{B:Nat}{w w':World}(h:WiJ W N0 l S0 S mq b2 b4 b5 bm c4 s w)(k:Kp B w w')(hW:W.heap.size≤B)(h0:0<B)(l2:b2<B)(l4:b4<B)(l5:b5<B)(lm:bm<B):WiJ W N0 l S0 S mq b2 b4 b5 bm c4 s w':=
 have no:∀{b},b<B→¬aX B b:=fun h hh=>by have:=hh.1;omega
 ⟨h.e.kp k hW,h.t.kp k h0,Dv.ch h.hv k.chg (fun b hb=>.inr (by have:=hb.1;omega)),h.p2.kp k (no l2),h.p4.kp k (no l4),h.p5.kp k (no l5),h.m.pres (k.same bm h.m.lt (no lm))⟩
theorem mm {G:Nat→Prop}{N0:Nat}(l:List (Int×BS))(S0 C:BS)(mq:Value)(W:World)(hT:Tab W)(h:(Dv (mpE sKV N0) G l).p mq W) :
  Calls Tryz.prog 58 #[.agg (adC S0 mq),ac C] W (Post (ci (wiL l (S0 &&& C)) (S0 &&& C) 1024) W):=by
 have HV:(Dv (mpE sKV N0) (GB W G0) l).p mq W:=Dv.toB (Dv.weak h fun b _ hb=>hb.elim)
 obtain⟨S,hS⟩:=eqX (S0 &&& C)
 rw[← hS]
 have hT0:=hT.lt
 refine cO (args:=[.agg (adC S0 mq),ac C]) (As:=[E (.agg (adC S0 mq)),E (ac C)]) Tryz.func58 rfl Tryz.ntmps58 (Nat.le_of_ble_eq_true rfl) ?_ (fun a hf=>?_) (Nat.le_of_ble_eq_true rfl)
 ·exact arg2 rfl rfl
 have e:=Ext.rfl' W
 refine seq <| ab <| tB hf rfl fun a b2 w v2 hv2 e' hb2 hs2 B2 hf=>?_
 obtain⟨hT,HV,e⟩:=up3 e' hT HV e
 refine tB hf rfl fun a b3 w v3 hv3 e' hb3 hs3 B3 hf=>?_
 obtain⟨hT,HV,e,B2⟩:=up4 e' hT HV e B2
 refine tL I79 hf fun a b4 w e' hb4 hs4 B4 hf=>?_
 obtain⟨hT,HV,e,B2,B3⟩:=up5 e' hT HV e B2 B3
 refine aa ?_
 cases hv2
 cases hv3
 replace B2:Blk w b2 (adC S0 mq) 79:=B2
 replace B3:Blk w b3 (aJ C) 76:=B3
 have n234:b2≠b3∧b2≠b4∧b3≠b4∧W.heap.size≤b2∧W.heap.size≤b3∧W.heap.size≤b4:=by omega
 replace hf:=hf.kp [2,3,4]
 refine seq <| rgN 4 hf <| st (fA U79 rfl T76 rfl) <| st ((ldP T76 rfl B2 (by rw[aH];decide)).eq (congrArg Value.agg (bO S0 mq))) ?_
 refine st ((ldW T76 rfl B3 rfl).eq ((rfl:_=ac C))) <| st (aw (A:=E (ac S)) (B:=E (ac S0)) (C:=E (ac C)) dS rfl rfl (fun v u w he h h'=>by cases h;cases h';rw[hS];exact ie S0 C w)) ?_
 refine en fun a w e' hf=>?_
 obtain⟨hT,HV,e,B2,B3,B4⟩:=up6 e' hT HV e B2 B3 B4
 refine ep sKV hf (by decide) fun a bm w e' hbm hsm HM hf=>?_
 have lb2:=B2.lt
 have lb4:=B4.lt
 have hle:=e.size
 have nm:b2<bm∧b4<bm∧W.heap.size≤bm:=by omega
 replace e:=e.tr e';replace hT:=hT.ext e';replace HV:=Dv.ex HV e';replace B2:=B2.ext e';replace B4:=B4.ext e'
 have hNm:bm+1≤w.heap.size:=HM.lt
 refine tP hf (bB [(0,_),(1,_)] rfl (rh S bm)) fun a w e' hf=>?_
 obtain⟨hT,HV,HM,hNm,e,B2,B4⟩:=up7 e' hT HV HM hNm e B2 B4
 refine tL I79 hf fun a b5 w e' hb5 hs5 B5 hf=>?_
 obtain⟨hT,HV,HM,hNm,e,B2,B4⟩:=up7 e' hT HV HM hNm e B2 B4
 have n5:b2≠b5∧b4≠b5∧b5≠bm∧W.heap.size≤b5:=by have:=B2.lt;have:=B4.lt;omega
 refine az T79 hf rfl rfl (cg _ _) B5 rfl (aH _ _) fun w hg hsz B5 hf=>?_
 replace e:=e.gr hg (by omega);replace hT:=hT.gr hg (by omega);replace HV:=Dv.gr HV hg (.inr (by omega));replace B2:=B2.gr hg (by omega);replace B4:=B4.gr hg (by omega);replace HM:=HM.gr hg (fun h=>by cases h;omega);clear hg hNm
 refine aa ?_
 replace hf:=hf.keep [2,4,5]
 obtain⟨Nz,hNz⟩:=eqX w.heap.size
 refine seq <| seq ?_
 refine rgN 3 hf <| st (fA U79 rfl T76 rfl) <| st ((ldP T76 rfl B5 (by rw[aH];decide)).eq (congrArg Value.agg (bO S (.map (some bm))))) ?_
 refine st (ak (A:=cN Nz S) cV rfl (fun v w' he h=>by cases h;exact Calls.mono (cZ _ w') (fun en w2 ⟨u,h1,h2,b',h3,h4,h5⟩=>⟨u,h1,h2,b',by have:=he.size;omega,h4,h5⟩))) ?_
 refine en fun a w e' hf=>?_
 obtain⟨hT,HV,HM,e,B2,B4,B5⟩:=up7 e' hT HV HM e B2 B4 B5
 refine aa ?_
 obtain⟨v15,⟨b15,h15,rfl,BS⟩,hf⟩:=hf.fix 15 rfl
 replace hf:=hf.kp [2,4,5,15]
 obtain⟨c4,hc4,hB4⟩:∃c4:Array Value,c4.size=17∧Blk w b4 c4 79:=⟨_,by rfl,B4⟩
 have hBW:W.heap.size≤w.heap.size:=e.size
 have h0w:0<w.heap.size:=hT.lt
 have l2:=B2.lt
 have l4:=hB4.lt
 have l5:=B5.lt
 have lm:=HM.lt
 refine blk <| db (S:=S) hf rfl BS (by decide) (fun s w1=>WiJ W N0 l S0 S mq b2 b4 b5 bm c4 s w1) (fun _ _=>False) (fun s w1 h=>h.t)
  ⟨e,hT,HV,B2,hB4,B5,HM⟩ (fun s w1 w2 h hs k=>h.kp k hBW h0w l2 l4 l5 lm) (fun _ _ _ h=>h.elim) ?_ ?_ (fun _ _ _ _ _ _ h=>h.elim)
 ·intro lp s x rest a1 w1 hs hJ hlw hf
  have hx1024:x<1024:=(aL.1 (by rw[hs];simp)).1
  have hxs:x ∉ s:=by
   have hn:(aj S).Nodup:=List.Nodup.sublist List.filter_sublist List.nodup_range
   rw[hs] at hn
   intro hx
   exact (List.nodup_append.1 hn).2.2 x hx x (by simp) rfl
  have hsl:s.length≤1024:=by have:=eT S;rw[hs] at this;simp at this;omega
  generalize hBz:w.heap.size=Bz at *
  refine ab <| tA hf rfl fun a hf=>aa <| ⟨Kh.rfl' _ _,fun w3 k3 hsz3=>?_⟩
  have hJ3:=hJ.kp k3 hBW h0w l2 l4 l5 lm
  replace hf:=hf.pure w3
  obtain⟨e,hT,HV,B2,B4,B5,HM⟩:=hJ3
  have kh:=Kh.rfl' Bz w3
  replace hf:=hf.kp [2,4,5,6]
  refine blk ?_
  have hwx:(Lit.int .i64 (x:Int)).wf=true:=bH (by omega) (by omega)
  refine rgG 10 Mix.mix hf <| st (fA U79 rfl T77 rfl) <| st (ld1 (v:=.map (some bm)) T77 rfl B5 (bI _ _)) <| st (mv rfl) <| st (fA U79 rfl T77 rfl) <| st (ld1 (v:=mq) T77 rfl B2 (bI _ _)) <| st (mv rfl) <| st (lkM (l:=l) (i:=(x:Int)) U77 bW (isE rfl HV) rfl hwx) <| st (fA U79 rfl T76 rfl) <| st ((ldP T76 rfl B5 (by rw[aH];decide)).eq (congrArg Value.agg (bO S (.map (some bm))))) ?_
  refine st (aw (A:=E (ac (lkS l (x:Int) &&& S))) (B:=E (ac (lkS l (x:Int)))) (C:=E (ac S)) dS rfl rfl (fun v u w he h h'=>by cases h;cases h';exact ie _ S w)) ?_
  refine en fun a w e' hf=>?_
  obtain⟨hT,HV,HM⟩:=up3 e' hT HV HM
  replace kh:=kh.tr (Kh.ext e')
  obtain⟨e,B2,B4,B5⟩:=up4 e' e B2 B4 B5
  refine dW (V:=sKV) (i:=(x:Int)) (c:=lkS l (x:Int) &&& S) U77 hf rfl rfl rfl HM (by simp only[maxLen];omega) hwx trivial fun w hg HM hf=>?_
  obtain⟨e,hT,HV,B2,B4,B5⟩:=gr6 hg e hT HV B2 B4 B5
  replace kh:=kh.tr (Kh.gr hg (fun hh=>by have:=hh.1;omega))
  refine aa ?_
  simp only[Exit.inBlock]
  exact⟨⟨e,hT,HV,B2,B4,B5,by rw[List.length_append];exact HM.perm (zB hxs)⟩,kh⟩
 ·intro a' w' hf' hJ hsz hDn
  simp only[Exit.inBlock,↓reduceIte,Exit.then]
  have hD:Ds [w.heap.size] w':=(Ds.nil w').cons hDn (by simp)
  have hf:FrD 28 (bL [w.heap.size]) a' w' [(2,E (ptr b2)),(4,E (ptr b4)),(5,E (ptr b5))]:=hf'.keep [2,4,5]
  have hDW:∀d∈[w.heap.size],W.heap.size≤d:=fun d hd=>by rw[List.mem_singleton] at hd;omega
  have hbD:¬bm∈[w.heap.size]:=fun h=>by rw[List.mem_singleton] at h;omega
  have hb4D:¬b4∈[w.heap.size]:=fun h=>by rw[List.mem_singleton] at h;omega
  obtain⟨e,hT,HV,B2,B4,B5,HM⟩:=hJ
  generalize [w.heap.size]=D2 at *
  generalize w'=w at *
  refine seq <| rgN 1 hf <| st (ldW T79 rfl B5 (aH _ _)) <| en fun a w e' hf=>?_
  obtain⟨HM,e,B4,B5,hD⟩:=up5 e' HM e B4 B5 hD
  refine az T79 hf rfl rfl (cg _ _) B4 hc4 (aH _ _) fun w hg hsz B4 hf=>?_
  replace e:=e.gr hg (by omega)
  replace hD:=hD.gr hg hb4D
  replace HM:=HM.gr hg (fun h=>by cases h;omega)
  refine aa <| ai <| ly rfl T79 hf rfl B4 (aH _ _) hD ⟨_,rfl,e.shut hDW,.map (some bm),rfl,?_⟩
  exact MpR.dvE (HM.pres (fy D2 w bm hbD)) (eT S) fun h=>h

theorem zD {α β:Type}[DecidableEq α]{l:List (α×β)}{x:α}{c:β}(hx:∀c,(x,c) ∉ l):(aT l x c).Perm (l++[(x,c)]):=by
 have hf:l.filter (fun p => !decide (p.1=x))=l:=by
  rw[List.filter_eq_self]
  intro p hp
  have:p.1≠x:=fun e=>hx p.2 (by rw[← e];exact hp)
  simp[this]
 rw[aT,hf]
 exact List.perm_append_comm (l₁:=[(x,c)])
theorem RgR.okn {P:Program}{α β:Type}[DecidableEq α]{V:KV P α β}{w:World}{b r n:Nat}{old rest:List (α×β)}(h:RgR V w b r n old rest):(∀p∈old++rest,V.ok p.1∧V.okv p.2)∧(old++rest).Pairwise fun p q=>p.1≠q.1:=by
 obtain⟨es,left,cnt,h1,h2,h3,h4,h5⟩:=h
 exact⟨h3,h4⟩
theorem zF {α β:Type}{old rest:List (α×β)}(h:(old++rest).Pairwise fun p q=>p.1≠q.1){x:α}{c:β}(hm:(x,c)∈rest):∀c',(x,c') ∉ old:=fun c' hc'=>(List.pairwise_append.1 h).2.2 _ hc' _ hm rfl
theorem zG {α β:Type}{old rest l:List (α×β)}(hp:(old++rest).Perm l){x:α×β}(hm:x∈rest):old.length+1≤l.length:=by
 have h1:=hp.length_eq;have h2:0<rest.length:=List.length_pos_of_mem hm
 rw[List.length_append] at h1;omega
theorem mn {α β:Type}[DecidableEq α]{rest:List (α×β)}{x:α}{c:β}(hm:(x,c)∈rest):(rest.filter fun p => !decide (p.1=x)).length<rest.length:=by
 rw[← List.countP_eq_length_filter]
 refine Nat.lt_of_le_of_ne List.countP_le_length fun h=>?_
 have:=List.countP_eq_length.1 h _ hm
 simp at this
end Go.Mono
