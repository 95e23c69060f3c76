/-
  Walks of functions and plain facts.
  No condition.
-/
import Derived.Test.YtiakihcolhopoaaGreatDoorED
import Derived.Test.YtiakihcolhopoaaGreatDoorEC
import Derived.Test.YtiakihcolhopoaaGreatDoorEB
import Derived.Test.YtiakihcolhopoaaGreatDoorEA
import Derived.ArgAppend
import Derived.Deep.Upon
import Derived.Deep.Slices
import Derived.WideKeyEntry
set_option linter.unusedVariables false
set_option linter.unusedSimpArgs false
namespace Go.Mono
open Go Go.Proofs Go.RowKit Go.Gr
def ai (l:List VT):BS:=(l.map (·.1)).foldl ins 0
theorem fw {G:Nat→Prop}{N:Nat}(g:GT)(v:Value)(W:World)(h:(Dv (ptE (grE N)) G (some g)).p v W)(hs:g.1.Pairwise fun x y=>lt1 x.1 y.1=true)(hl:g.1.length≤100000)(hN:N≤1000000) :
  Calls Tryz.prog 29 #[v] W (Post (E (ah (ai g.1))) W):=by
 have h0:(Dv (ptE (grE N)) G0 (some g)).p v W:=Dv.weak h fun b _ hb=>hb.elim
 refine enter (args:=[v]) (As:=[E v]) Tryz.func29 rfl Tryz.ntmps29 (Nat.le_of_ble_eq_true rfl) ?_ (fun a hf=>?_) (Nat.le_of_ble_eq_true rfl)
 rotate_left
 dsimp only[params,Nat.reduceAdd] at hf
 rotate_right
 ·exact arg1 rfl
 have e:=Ext.rfl' W
 refine seq ?_
 refine aj ?_
 refine aC I47 hf (by decide) fun a b2 w e' hb2 hs2 B2 hf=>?_
 have hle2:=Nat.le_trans e.size (Nat.le_of_eq hb2.symm)
 replace e:=e.tr e'
 refine aa ?_
 refine seq ?_
 refine aj ?_
 refine aC I47 hf (by decide) fun a b3 w e' hb3 hs3 B3 hf=>?_
 have hle3:=Nat.le_trans e.size (Nat.le_of_eq hb3.symm)
 have lt3_B2:=B2.lt
 replace e:=e.tr e'
 replace B2:=B2.ext e'
 refine aa ?_
 simp only[Value.cells,cm] at B2 B3
 obtain⟨N0,hN0⟩:∃N0,N0=w.heap.size:=⟨_,rfl⟩
 have l2:b2<N0:=by rw[hN0];exact B2.lt
 have l3:b3<N0:=by rw[hN0];exact B3.lt
 have hN0':N0≤w.heap.size:=Nat.le_of_eq hN0
 have e0:=e
 repeat refine seq ?_
 refine ac 2 hf (by decide +kernel) ?_
 refine st (mv rfl) ?_
 refine st (aw (A:=OwA vtE 55 N0 G0 g.1) tS rfl (fun v w he k=>by cases k;exact (yq (G:=G0) g _ w (VA.st _ _ _ _ (Ext.tr e0 he) h0) (fun b hb=>hb.elim) hs hl hN).mono fun en w' ⟨u,k1,k2,k3⟩=>⟨u,k1,k2,OwR.low k3 (Nat.le_trans hN0' he.size) fun b hb=>hb.elim⟩)) ?_
 refine en fun a w e' hf=>?_
 replace e:=e.tr e'
 replace B2:=B2.ext e'
 replace B3:=B3.ext e'
 clear e'
 obtain⟨u,Ho,hf⟩:=hf.fix 7 rfl
 replace Ho:OwR vtE 55 N0 G0 w g.1 u:=Ho
 obtain⟨NV,hNV⟩:∃NV:Nat→Prop,NV=fun b=>u.ownBlock≠some b:=⟨_,rfl⟩
 have HD:(Dv (slE vtE) NV g.1).p u w:=Ho.slN fun b hb=>by rw[hNV];exact fun h=>h hb
 obtain⟨N5,hN5⟩:∃N5,N5=w.heap.size:=⟨_,rfl⟩
 have nV:∀bb,(bb<N0∨N5≤bb)→NV bb:=fun bb hb=>by rw[hNV];intro h;have h3:=Ho.lt h;omega
 have hN5s:N5≤w.heap.size:=Nat.le_of_eq hN5
 have hNN:N0≤N5:=by rw[hN5];exact Ho.base
 clear hN5 hNV Ho e0 hN0' hN0
 refine aB hf (by decide) (bi U53 (isE rfl HD)) fun a w e' hf=>?_
 replace HD:=VA.st _ _ _ _ e' HD
 replace hN5s:=Nat.le_trans hN5s e'.size
 replace e:=e.tr e'
 replace B2:=B2.ext e'
 replace B3:=B3.ext e'
 clear e'
 refine aB hf (by decide) (mv rfl) fun a w e' hf=>?_
 replace HD:=VA.st _ _ _ _ e' HD
 replace hN5s:=Nat.le_trans hN5s e'.size
 replace e:=e.tr e'
 replace B2:=B2.ext e'
 replace B3:=B3.ext e'
 refine aa ?_
 replace hf:=hf.kp [2,3,7,8,9]
 refine blk (aW (fun r0 a w=>∃(k:Nat) ,r0=g.1.length - k∧k≤g.1.length∧Fr 19 a w [(2,E (.pointer (some ⟨b2,0,none⟩))),(3,E (.pointer (some ⟨b3,0,none⟩))),(7,E u),(8,E (I (g.1.length:Nat))),(9,E (I k))]∧Ext W w∧Blk w b2 (au 0) 47∧Blk w b3 (au (((g.1.take k).map (·.1)).foldl ins 0)) 47∧(Dv (slE vtE) NV g.1).p u w∧N5≤w.heap.size) g.1.length ⟨0,rfl,by omega,hf,e,⟨B2,B3,HD,hN5s⟩⟩ ?_)
 clear hf e;try clear B2;try clear B3;try clear HD;try clear hN5s
 rintro r0 a w ⟨k,rfl,hk,hf,e,B2,B3,HD,hN5s⟩
 refine seq ?_
 refine ac 1 hf (by decide +kernel) ?_
 refine st (lss rfl rfl) ?_
 refine en fun a w e' hf=>?_
 replace HD:=VA.st _ _ _ _ e' HD
 replace hN5s:=Nat.le_trans hN5s e'.size
 replace e:=e.tr e'
 replace B2:=B2.ext e'
 replace B3:=B3.ext e'
 refine aa ?_
 refine seq ?_
 refine ifc hf rfl (fun hc=>ar ?_) (fun hc=>aR ?_)
 rotate_left
 rotate_left
 ·have hlt:k<g.1.length:=by have:=of_decide_eq_true hc;(try dsimp only at this);omega
  clear hc
  replace hf:=hf.kp [2,3,7,8,9]
  refine seq ?_
  refine blk ?_
  have hg:=List.getElem?_eq_getElem hlt
  generalize g.1[k]=y at hg
  have hS:((g.1.take (k+1)).map (·.1)).foldl ins 0=ins (((g.1.take k).map (·.1)).foldl ins 0) y.1:=by rw[dh hg,List.map_append,List.foldl_append];rfl
  obtain⟨S,hS0⟩:∃S,S=((g.1.take k).map (·.1)).foldl ins 0:=⟨_,rfl⟩
  rw[← hS0] at B3 hS
  refine seq ?_
  refine aj ?_
  refine aB hf (by decide) (ba U53 S55 (isE rfl HD) rfl (by omega) (hg)) fun a w e' hf=>?_
  replace HD:=VA.st _ _ _ _ e' HD
  replace hN5s:=Nat.le_trans hN5s e'.size
  replace e:=e.tr e'
  replace B2:=B2.ext e'
  replace B3:=B3.ext e'
  clear e'
  refine aB hf (by decide) (gy T55 (isR rfl)) fun a w e' hf=>?_
  replace HD:=VA.st _ _ _ _ e' HD
  replace hN5s:=Nat.le_trans hN5s e'.size
  replace e:=e.tr e'
  replace B2:=B2.ext e'
  replace B3:=B3.ext e'
  clear e'
  refine aC I55 hf (by decide) fun a b5 w e' hb5 hs5 B5 hf=>?_
  have hle5:=Nat.le_trans e.size (Nat.le_of_eq hb5.symm)
  have lo5_hN5s:=Nat.le_trans hN5s (Nat.le_of_eq hb5.symm)
  have lt5_B2:=B2.lt
  have lt5_B3:=B3.lt
  replace HD:=VA.st _ _ _ _ e' HD
  replace hN5s:=Nat.le_trans hN5s e'.size
  replace e:=e.tr e'
  replace B2:=B2.ext e'
  replace B3:=B3.ext e'
  clear e'
  replace hf:=hf.kp [2,3,5,7,8,9,12]
  refine aF T55 hf rfl rfl (lI y) B5 rfl rfl fun w hg' hsz B5 hf=>?_
  replace e:=e.gr hg' (by omega);replace B2:=B2.gr hg' (by omega);replace B3:=B3.gr hg' (by omega);replace HD:=Dv.grN HD hg' (fun bb hb=>nV bb (by cases hb;omega));replace hN5s:=Nat.le_trans hN5s hg'.size;clear hg'
  refine aa ?_
  replace hf:=hf.kp [2,3,5,7,8,9]
  refine ac 4 hf (by decide +kernel) ?_
  refine st ((ldW T47 rfl B3 rfl).eq ((rfl:_=ah S))) ?_
  refine st (am U55 rfl T3 (by decide) rfl) ?_
  refine st (ld1 T3 rfl B5 rfl) ?_
  refine st (aD (A:=E (ah (ins S y.1))) de rfl rfl (fun v u w he h h'=>by cases h;cases h';exact di S y.1 w)) ?_
  refine en fun a w e' hf=>?_
  replace HD:=VA.st _ _ _ _ e' HD
  replace hN5s:=Nat.le_trans hN5s e'.size
  replace e:=e.tr e'
  replace B2:=B2.ext e'
  replace B3:=B3.ext e'
  replace B5:=B5.ext e'
  clear e'
  replace hf:=hf.kp [2,3,7,8,9,16]
  refine aF T47 hf rfl rfl (aU _) B3 rfl (bh _) fun w hg' hsz B3 hf=>?_
  replace e:=e.gr hg' (by omega);replace B2:=B2.gr hg' (by omega);replace HD:=Dv.grN HD hg' (fun bb hb=>nV bb (by cases hb;omega));replace hN5s:=Nat.le_trans hN5s hg'.size;clear hg' B5
  refine aa ?_
  simp only[Exit.then,Exit.inBlock,↓reduceIte]
  refine ac 1 hf (by decide +kernel) ?_
  refine st ((add rfl rfl (by omega)).eq (congrArg (Value.int .i64) (show (k:Int)+1=((k+1:Nat):Int) from rfl))) ?_
  refine en fun a w e' hf=>?_
  replace HD:=VA.st _ _ _ _ e' HD
  replace hN5s:=Nat.le_trans hN5s e'.size
  replace e:=e.tr e'
  replace B2:=B2.ext e'
  replace B3:=B3.ext e'
  clear e'
  refine aB hf (by decide) (mv rfl) fun a w e' hf=>?_
  replace HD:=VA.st _ _ _ _ e' HD
  replace hN5s:=Nat.le_trans hN5s e'.size
  replace e:=e.tr e'
  replace B2:=B2.ext e'
  replace B3:=B3.ext e'
  refine aa ?_
  replace hf:=hf.kp [2,3,7,8,9]
  refine⟨_,?_,k+1,rfl,by omega,hf,e,?_⟩
  ·omega
  rw[hS]
  exact⟨B2,B3,HD,hN5s⟩
 ·obtain rfl:k=g.1.length:=by have:=of_decide_eq_false hc;(try dsimp only at this);omega
  clear hc
  simp only[Exit.then,Exit.inBlock,↓reduceIte]
  rw[List.take_length] at B3
  replace hf:=hf.kp [2,3]
  refine seq ?_
  refine ac 1 hf (by decide +kernel) ?_
  refine st ((ldW T47 rfl B3 rfl).eq ((rfl:_=ah (ai g.1)))) ?_
  refine en fun a w e' hf=>?_
  replace HD:=VA.st _ _ _ _ e' HD
  replace hN5s:=Nat.le_trans hN5s e'.size
  replace e:=e.tr e'
  replace B2:=B2.ext e'
  replace B3:=B3.ext e'
  clear e'
  haveI hinr:∀G0,InR (GB W G0) (some b2):=fun G0=>InR.gb (by omega)
  refine aF T47 hf rfl rfl (aU _) B2 rfl (rfl) fun w hg hsz B2 hf=>?_
  replace HD:=Dv.grN HD hg (fun bb hb=>nV bb (by cases hb;omega))
  replace hN5s:=Nat.le_trans hN5s hg.size
  replace e:=e.gr hg (by omega)
  replace B3:=B3.gr hg (by omega)
  clear hg
  refine aa ?_
  refine an (dc rfl T47 hf rfl B2 (bh _) ?_)
  exact⟨_,rfl,e,rfl⟩

theorem yu {G:Nat→Prop}{N:Nat}(g:GT)(v:Value)(W:World)(h:(Dv (ptE (grE N)) G (some g)).p v W) :
  Calls Tryz.prog 77 #[v] W (Post (Tup [E (I (g.1.length:Nat)),E (I (g.2.length:Nat))]) W):=by
 refine enter (args:=[v]) (As:=[Dv (ptE (grE N)) G0 (some g)]) Tryz.func77 rfl Tryz.ntmps77 (Nat.le_of_ble_eq_true rfl) ?_ (fun a hf=>?_) (Nat.le_of_ble_eq_true rfl)
 rotate_left
 dsimp only[params,Nat.reduceAdd] at hf
 rotate_right
 ·exact arg1 (Dv.weak h fun b _ hb=>hb.elim)
 have e:=Ext.rfl' W
 refine seq ?_
 refine aj ?_
 refine ae hf rfl (by decide) fun a hf=>?_
 refine ae hf rfl (by decide) fun a hf=>?_
 refine aa ?_
 repeat refine seq ?_
 refine ac 2 hf (by decide +kernel) ?_
 refine st (mv rfl) ?_
 refine st (fh U28 (isR rfl)) ?_
 refine en fun a w e' hf=>?_
 replace e:=e.tr e'
 refine aa ?_
 refine ifc hf rfl (fun h=>by cases h) (fun _=>?_)
 refine ar ?_
 simp only[Exit.then,Exit.inBlock,↓reduceIte]
 refine seq ?_
 refine reg 10 Mix.mix hf (by decide +kernel) ?_
 refine st (mv rfl) ?_
 refine st (fg (isR rfl)) ?_
 refine st (aH eE rfl dQ (by decide) (Fld.fst Fld.refl) (isR rfl)) ?_
 refine st (ldD dQ (isR rfl)) ?_
 refine st (lB jh (isR rfl)) ?_
 refine st (mv rfl) ?_
 refine st (fg (isR rfl)) ?_
 refine st (aH eE rfl dR (by decide) (Fld.snd Fld.refl rfl) (isR rfl)) ?_
 refine st (ldD dR (isR rfl)) ?_
 refine st (lB ij (isR rfl)) ?_
 refine en fun a w e' hf=>?_
 replace e:=e.tr e'
 refine ae hf rfl (by decide) fun a hf=>?_
 refine ae hf rfl (by decide) fun a hf=>?_
 refine aa ?_
 refine an (fJ rfl hf rfl rfl ?_)
 rintro _ _ rfl rfl
 exact⟨_,rfl,e,Tup.two rfl rfl⟩
def ckW (g:GT):Int:=if 12<g.1.length then 2 else 0
theorem yv {G:Nat→Prop}{N:Nat}(g:GT)(v:Value)(W:World)(h:(Dv (ptE (grE N)) G (some g)).p v W) :
  Calls Tryz.prog 27 #[v] W (Post (E (I (ckW g))) W):=by
 refine enter (args:=[v]) (As:=[Dv (ptE (grE N)) G0 (some g)]) Tryz.func27 rfl Tryz.ntmps27 (Nat.le_of_ble_eq_true rfl) ?_ (fun a hf=>?_) (Nat.le_of_ble_eq_true rfl)
 rotate_left
 dsimp only[params,Nat.reduceAdd] at hf
 rotate_right
 ·exact arg1 (Dv.weak h fun b _ hb=>hb.elim)
 have e:=Ext.rfl' W
 refine seq ?_
 refine aj ?_
 refine ae hf rfl (by decide) fun a hf=>?_
 refine aa ?_
 repeat refine seq ?_
 refine ac 2 hf (by decide +kernel) ?_
 refine st (mv rfl) ?_
 refine st (fh U28 (isR rfl)) ?_
 refine en fun a w e' hf=>?_
 replace e:=e.tr e'
 refine aa ?_
 refine ifc hf rfl (fun h=>by cases h) (fun _=>?_)
 refine ar ?_
 simp only[Exit.then,Exit.inBlock,↓reduceIte]
 repeat refine seq ?_
 refine ac 5 hf (by decide +kernel) ?_
 refine st (mv rfl) ?_
 refine st (aw tR rfl (fun v w he h=>yu g v w h)) ?_
 refine st (mv rfl) ?_
 refine st (aY rfl rfl) ?_
 refine st (aY rfl rfl) ?_
 refine en fun a w e' hf=>?_
 replace e:=e.tr e'
 refine ae hf rfl (by decide) fun a hf=>?_
 refine ae hf rfl (by decide) fun a hf=>?_
 refine aa ?_
 refine seq ?_
 refine ac 2 hf (by decide +kernel) ?_
 refine st (mv rfl) ?_
 refine st (gtr rfl rfl) ?_
 refine en fun a w e' hf=>?_
 replace e:=e.tr e'
 refine aa ?_
 refine ifc hf rfl (fun hb=>?_) (fun hb=>?_)
 ·have hb':12<g.1.length:=by have:=of_decide_eq_true hb;omega
  refine seq ?_
  refine aj ?_
  refine ae hf rfl (by decide) fun a hf=>?_
  refine aa ?_
  refine an ?_
  simp only[Exit.then,Exit.inBlock]
  refine az rfl hf rfl ?_
  rintro _ rfl
  exact⟨_,rfl,e,congrArg I (by rw[ckW,if_pos hb'])⟩
 ·have hb':¬12<g.1.length:=by have:=of_decide_eq_false hb;omega
  refine ar ?_
  simp only[Exit.then,Exit.inBlock,↓reduceIte]
  refine seq ?_
  refine aj ?_
  refine ae hf rfl (by decide) fun a hf=>?_
  refine aa ?_
  refine an ?_
  refine az rfl hf rfl ?_
  rintro _ rfl
  exact⟨_,rfl,e,congrArg I (by rw[ckW,if_neg hb'])⟩
def nbI (id:Int)(S:BS)(x:ET):BS:=if id=x.1.1 then ins S x.1.2 else if id=x.1.2 then ins S x.1.1 else S
def nbG (E:List ET)(id:Int):BS:=E.foldl (nbI id) 0
theorem eT {G:Nat→Prop}{N:Nat}(g:GT)(id:Int)(v:Value)(W:World)(h:(Dv (ptE (grE N)) G (some g)).p v W)(hs:g.2.Pairwise fun x y=>lt2 x.1 y.1=true)(hl:g.2.length≤100000)(hN:N≤1000000) :
  Calls Tryz.prog 19 #[v,I id] W (Post (E (ah (nbG g.2 id))) W):=by
 have h0:(Dv (ptE (grE N)) G0 (some g)).p v W:=Dv.weak h fun b _ hb=>hb.elim
 refine enter (args:=[v,I id]) (As:=[E v,E (I id)]) Tryz.func19 rfl Tryz.ntmps19 (Nat.le_of_ble_eq_true rfl) ?_ (fun a hf=>?_) (Nat.le_of_ble_eq_true rfl)
 rotate_left
 dsimp only[params,Nat.reduceAdd] at hf
 rotate_right
 ·exact arg2 rfl rfl
 have e:=Ext.rfl' W
 refine seq ?_
 refine aj ?_
 refine aC I47 hf (by decide) fun a b4 w e' hb4 hs4 B4 hf=>?_
 have hle4:=Nat.le_trans e.size (Nat.le_of_eq hb4.symm)
 replace e:=e.tr e'
 refine aa ?_
 refine seq ?_
 refine aj ?_
 refine aC I47 hf (by decide) fun a b5 w e' hb5 hs5 B5 hf=>?_
 have hle5:=Nat.le_trans e.size (Nat.le_of_eq hb5.symm)
 have lt5_B4:=B4.lt
 replace e:=e.tr e'
 replace B4:=B4.ext e'
 refine aa ?_
 simp only[Value.cells,cm] at B4 B5
 obtain⟨N0,hN0⟩:∃N0,N0=w.heap.size:=⟨_,rfl⟩
 have l4:b4<N0:=by rw[hN0];exact B4.lt
 have l5:b5<N0:=by rw[hN0];exact B5.lt
 have hN0':N0≤w.heap.size:=Nat.le_of_eq hN0
 have e0:=e
 repeat refine seq ?_
 refine ac 2 hf (by decide +kernel) ?_
 refine st (mv rfl) ?_
 refine st (aw (A:=OwA etE 36 N0 G0 g.2) tE rfl (fun v w he k=>by cases k;exact (yr (G:=G0) g _ w (VA.st _ _ _ _ (Ext.tr e0 he) h0) (fun b hb=>hb.elim) hs hl hN).mono fun en w' ⟨u,k1,k2,k3⟩=>⟨u,k1,k2,OwR.low k3 (Nat.le_trans hN0' he.size) fun b hb=>hb.elim⟩)) ?_
 refine en fun a w e' hf=>?_
 replace e:=e.tr e'
 replace B4:=B4.ext e'
 replace B5:=B5.ext e'
 clear e'
 obtain⟨u,Ho,hf⟩:=hf.fix 9 rfl
 replace Ho:OwR etE 36 N0 G0 w g.2 u:=Ho
 obtain⟨NV,hNV⟩:∃NV:Nat→Prop,NV=fun b=>u.ownBlock≠some b:=⟨_,rfl⟩
 have HD:(Dv (slE etE) NV g.2).p u w:=Ho.slN fun b hb=>by rw[hNV];exact fun h=>h hb
 obtain⟨N5,hN5⟩:∃N5,N5=w.heap.size:=⟨_,rfl⟩
 have nV:∀bb,(bb<N0∨N5≤bb)→NV bb:=fun bb hb=>by rw[hNV];intro h;have h3:=Ho.lt h;omega
 have hN5s:N5≤w.heap.size:=Nat.le_of_eq hN5
 have hNN:N0≤N5:=by rw[hN5];exact Ho.base
 clear hN5 hNV Ho e0 hN0' hN0
 refine aB hf (by decide) (bi U31 (isE rfl HD)) fun a w e' hf=>?_
 replace HD:=VA.st _ _ _ _ e' HD
 replace hN5s:=Nat.le_trans hN5s e'.size
 replace e:=e.tr e'
 replace B4:=B4.ext e'
 replace B5:=B5.ext e'
 clear e'
 refine aB hf (by decide) (mv rfl) fun a w e' hf=>?_
 replace HD:=VA.st _ _ _ _ e' HD
 replace hN5s:=Nat.le_trans hN5s e'.size
 replace e:=e.tr e'
 replace B4:=B4.ext e'
 replace B5:=B5.ext e'
 refine aa ?_
 replace hf:=hf.kp [1,4,5,9,10,11]
 refine blk (aW (fun r0 a w=>∃(k:Nat) ,r0=g.2.length - k∧k≤g.2.length∧Fr 34 a w [(1,E (I id)),(4,E (.pointer (some ⟨b4,0,none⟩))),(5,E (.pointer (some ⟨b5,0,none⟩))),(9,E u),(10,E (I (g.2.length:Nat))),(11,E (I k))]∧Ext W w∧Blk w b4 (au 0) 47∧Blk w b5 (au (nbG (g.2.take k) id)) 47∧(Dv (slE etE) NV g.2).p u w∧N5≤w.heap.size) g.2.length ⟨0,rfl,by omega,hf,e,⟨B4,B5,HD,hN5s⟩⟩ ?_)
 clear hf e;try clear B4;try clear B5;try clear HD;try clear hN5s
 rintro r0 a w ⟨k,rfl,hk,hf,e,B4,B5,HD,hN5s⟩
 refine seq ?_
 refine ac 1 hf (by decide +kernel) ?_
 refine st (lss rfl rfl) ?_
 refine en fun a w e' hf=>?_
 replace HD:=VA.st _ _ _ _ e' HD
 replace hN5s:=Nat.le_trans hN5s e'.size
 replace e:=e.tr e'
 replace B4:=B4.ext e'
 replace B5:=B5.ext e'
 refine aa ?_
 refine seq ?_
 refine ifc hf rfl (fun hc=>ar ?_) (fun hc=>aR ?_)
 rotate_left
 rotate_left
 ·have hlt:k<g.2.length:=by have:=of_decide_eq_true hc;(try dsimp only at this);omega
  clear hc
  replace hf:=hf.kp [1,4,5,9,10,11]
  refine seq ?_
  refine blk ?_
  have hg:=List.getElem?_eq_getElem hlt
  generalize g.2[k]=y at hg
  have hS:nbG (g.2.take (k+1)) id=nbI id (nbG (g.2.take k) id) y:=by rw[nbG,dh hg,List.foldl_append];rfl
  obtain⟨S,hS0⟩:∃S,S=nbG (g.2.take k) id:=⟨_,rfl⟩
  rw[← hS0] at B5 hS
  refine seq ?_
  refine aj ?_
  refine aB hf (by decide) (ba U31 S36 (isE rfl HD) rfl (by omega) (hg)) fun a w e' hf=>?_
  replace HD:=VA.st _ _ _ _ e' HD
  replace hN5s:=Nat.le_trans hN5s e'.size
  replace e:=e.tr e'
  replace B4:=B4.ext e'
  replace B5:=B5.ext e'
  clear e'
  refine aB hf (by decide) (gA T36 (isR rfl)) fun a w e' hf=>?_
  replace HD:=VA.st _ _ _ _ e' HD
  replace hN5s:=Nat.le_trans hN5s e'.size
  replace e:=e.tr e'
  replace B4:=B4.ext e'
  replace B5:=B5.ext e'
  clear e'
  refine aC I36 hf (by decide) fun a b7 w e' hb7 hs7 B7 hf=>?_
  have hle7:=Nat.le_trans e.size (Nat.le_of_eq hb7.symm)
  have lo7_hN5s:=Nat.le_trans hN5s (Nat.le_of_eq hb7.symm)
  have lt7_B4:=B4.lt
  have lt7_B5:=B5.lt
  replace HD:=VA.st _ _ _ _ e' HD
  replace hN5s:=Nat.le_trans hN5s e'.size
  replace e:=e.tr e'
  replace B4:=B4.ext e'
  replace B5:=B5.ext e'
  clear e'
  replace hf:=hf.kp [1,4,5,7,9,10,11,14]
  refine aF T36 hf rfl rfl (lJ y) B7 rfl rfl fun w hg' hsz B7 hf=>?_
  replace e:=e.gr hg' (by omega);replace B4:=B4.gr hg' (by omega);replace B5:=B5.gr hg' (by omega);replace HD:=Dv.grN HD hg' (fun bb hb=>nV bb (by cases hb;omega));replace hN5s:=Nat.le_trans hN5s hg'.size;clear hg'
  refine aa ?_
  replace hf:=hf.kp [1,4,5,7,9,10,11]
  refine seq ?_
  refine ac 1 hf (by decide +kernel) ?_
  refine st (mv rfl) ?_
  refine en fun a w e' hf=>?_
  replace HD:=VA.st _ _ _ _ e' HD
  replace hN5s:=Nat.le_trans hN5s e'.size
  replace e:=e.tr e'
  replace B4:=B4.ext e'
  replace B5:=B5.ext e'
  replace B7:=B7.ext e'
  refine aa ?_
  refine blk ?_
  by_cases h1:id=y.1.1
  ·have hS':nbI id S y=ins S y.1.2:=by rw[nbI,if_pos h1]
   rw[hS'] at hS
   refine seq ?_
   refine ac 3 hf (by decide +kernel) ?_
   refine st (am U36 rfl T3 (by decide) rfl) ?_
   refine st (ld1 T3 rfl B7 rfl) ?_
   refine st ((eql rfl rfl).eq (congrArg Value.bool (decide_eq_true h1))) ?_
   refine en fun a w e' hf=>?_
   replace HD:=VA.st _ _ _ _ e' HD
   replace hN5s:=Nat.le_trans hN5s e'.size
   replace e:=e.tr e'
   replace B4:=B4.ext e'
   replace B5:=B5.ext e'
   replace B7:=B7.ext e'
   refine ae hf rfl (by decide) fun a hf=>?_
   refine aa ?_
   refine ifc hf rfl (fun _=>?_) (fun h=>by cases h)
   refine ac 4 hf (by decide +kernel) ?_
   refine st ((ldW T47 rfl B5 rfl).eq ((rfl:_=ah S))) ?_
   refine st (am U36 rfl T3 (by decide) rfl) ?_
   refine st (ld1 T3 rfl B7 rfl) ?_
   refine st (aD (A:=E (ah (ins S y.1.2))) de rfl rfl (fun v u w he h h'=>by cases h;cases h';exact di S y.1.2 w)) ?_
   refine en fun a w e' hf=>?_
   replace HD:=VA.st _ _ _ _ e' HD
   replace hN5s:=Nat.le_trans hN5s e'.size
   replace e:=e.tr e'
   replace B4:=B4.ext e'
   replace B5:=B5.ext e'
   replace B7:=B7.ext e'
   clear e'
   replace hf:=hf.kp [1,4,5,9,10,11,23]
   refine aF T47 hf rfl rfl (aU _) B5 rfl (bh _) fun w hg' hsz B5 hf=>?_
   replace e:=e.gr hg' (by omega);replace B4:=B4.gr hg' (by omega);replace HD:=Dv.grN HD hg' (fun bb hb=>nV bb (by cases hb;omega));replace hN5s:=Nat.le_trans hN5s hg'.size;clear hg' B7
   refine aa ?_
   simp only[Exit.then,Exit.inBlock,↓reduceIte]
   refine ac 1 hf (by decide +kernel) ?_
   refine st ((add rfl rfl (by omega)).eq (congrArg (Value.int .i64) (show (k:Int)+1=((k+1:Nat):Int) from rfl))) ?_
   refine en fun a w e' hf=>?_
   replace HD:=VA.st _ _ _ _ e' HD
   replace hN5s:=Nat.le_trans hN5s e'.size
   replace e:=e.tr e'
   replace B4:=B4.ext e'
   replace B5:=B5.ext e'
   clear e'
   refine aB hf (by decide) (mv rfl) fun a w e' hf=>?_
   replace HD:=VA.st _ _ _ _ e' HD
   replace hN5s:=Nat.le_trans hN5s e'.size
   replace e:=e.tr e'
   replace B4:=B4.ext e'
   replace B5:=B5.ext e'
   refine aa ?_
   replace hf:=hf.kp [1,4,5,9,10,11]
   refine⟨_,?_,k+1,rfl,by omega,hf,e,?_⟩
   ·omega
   rw[hS]
   exact⟨B4,B5,HD,hN5s⟩
  by_cases h2:id=y.1.2
  ·have hS':nbI id S y=ins S y.1.1:=by rw[nbI,if_neg h1,if_pos h2]
   rw[hS'] at hS
   refine seq ?_
   refine ac 3 hf (by decide +kernel) ?_
   refine st (am U36 rfl T3 (by decide) rfl) ?_
   refine st (ld1 T3 rfl B7 rfl) ?_
   refine st ((eql rfl rfl).eq (congrArg Value.bool (decide_eq_false h1))) ?_
   refine en fun a w e' hf=>?_
   replace HD:=VA.st _ _ _ _ e' HD
   replace hN5s:=Nat.le_trans hN5s e'.size
   replace e:=e.tr e'
   replace B4:=B4.ext e'
   replace B5:=B5.ext e'
   replace B7:=B7.ext e'
   refine ae hf rfl (by decide) fun a hf=>?_
   refine aa ?_
   refine ifc hf rfl (fun h=>by cases h) (fun _=>?_)
   refine seq ?_
   refine ac 3 hf (by decide +kernel) ?_
   refine st (am U36 rfl T3 (by decide) rfl) ?_
   refine st (ld1 T3 rfl B7 rfl) ?_
   refine st ((eql rfl rfl).eq (congrArg Value.bool (decide_eq_true h2))) ?_
   refine en fun a w e' hf=>?_
   replace HD:=VA.st _ _ _ _ e' HD
   replace hN5s:=Nat.le_trans hN5s e'.size
   replace e:=e.tr e'
   replace B4:=B4.ext e'
   replace B5:=B5.ext e'
   replace B7:=B7.ext e'
   refine ae hf rfl (by decide) fun a hf=>?_
   refine aa ?_
   refine ifc hf rfl (fun _=>?_) (fun h=>by cases h)
   refine ac 4 hf (by decide +kernel) ?_
   refine st ((ldW T47 rfl B5 rfl).eq ((rfl:_=ah S))) ?_
   refine st (am U36 rfl T3 (by decide) rfl) ?_
   refine st (ld1 T3 rfl B7 rfl) ?_
   refine st (aD (A:=E (ah (ins S y.1.1))) de rfl rfl (fun v u w he h h'=>by cases h;cases h';exact di S y.1.1 w)) ?_
   refine en fun a w e' hf=>?_
   replace HD:=VA.st _ _ _ _ e' HD
   replace hN5s:=Nat.le_trans hN5s e'.size
   replace e:=e.tr e'
   replace B4:=B4.ext e'
   replace B5:=B5.ext e'
   replace B7:=B7.ext e'
   clear e'
   replace hf:=hf.kp [1,4,5,9,10,11,31]
   refine aF T47 hf rfl rfl (aU _) B5 rfl (bh _) fun w hg' hsz B5 hf=>?_
   replace e:=e.gr hg' (by omega);replace B4:=B4.gr hg' (by omega);replace HD:=Dv.grN HD hg' (fun bb hb=>nV bb (by cases hb;omega));replace hN5s:=Nat.le_trans hN5s hg'.size;clear hg' B7
   refine aa ?_
   simp only[Exit.then,Exit.inBlock,↓reduceIte]
   refine ac 1 hf (by decide +kernel) ?_
   refine st ((add rfl rfl (by omega)).eq (congrArg (Value.int .i64) (show (k:Int)+1=((k+1:Nat):Int) from rfl))) ?_
   refine en fun a w e' hf=>?_
   replace HD:=VA.st _ _ _ _ e' HD
   replace hN5s:=Nat.le_trans hN5s e'.size
   replace e:=e.tr e'
   replace B4:=B4.ext e'
   replace B5:=B5.ext e'
   clear e'
   refine aB hf (by decide) (mv rfl) fun a w e' hf=>?_
   replace HD:=VA.st _ _ _ _ e' HD
   replace hN5s:=Nat.le_trans hN5s e'.size
   replace e:=e.tr e'
   replace B4:=B4.ext e'
   replace B5:=B5.ext e'
   refine aa ?_
   replace hf:=hf.kp [1,4,5,9,10,11]
   refine⟨_,?_,k+1,rfl,by omega,hf,e,?_⟩
   ·omega
   rw[hS]
   exact⟨B4,B5,HD,hN5s⟩
  ·have hS':nbI id S y=S:=by rw[nbI,if_neg h1,if_neg h2]
   rw[hS'] at hS
   refine seq ?_
   refine ac 3 hf (by decide +kernel) ?_
   refine st (am U36 rfl T3 (by decide) rfl) ?_
   refine st (ld1 T3 rfl B7 rfl) ?_
   refine st ((eql rfl rfl).eq (congrArg Value.bool (decide_eq_false h1))) ?_
   refine en fun a w e' hf=>?_
   replace HD:=VA.st _ _ _ _ e' HD
   replace hN5s:=Nat.le_trans hN5s e'.size
   replace e:=e.tr e'
   replace B4:=B4.ext e'
   replace B5:=B5.ext e'
   replace B7:=B7.ext e'
   refine ae hf rfl (by decide) fun a hf=>?_
   refine aa ?_
   refine ifc hf rfl (fun h=>by cases h) (fun _=>?_)
   refine seq ?_
   refine ac 3 hf (by decide +kernel) ?_
   refine st (am U36 rfl T3 (by decide) rfl) ?_
   refine st (ld1 T3 rfl B7 rfl) ?_
   refine st ((eql rfl rfl).eq (congrArg Value.bool (decide_eq_false h2))) ?_
   refine en fun a w e' hf=>?_
   replace HD:=VA.st _ _ _ _ e' HD
   replace hN5s:=Nat.le_trans hN5s e'.size
   replace e:=e.tr e'
   replace B4:=B4.ext e'
   replace B5:=B5.ext e'
   replace B7:=B7.ext e'
   refine ae hf rfl (by decide) fun a hf=>?_
   refine aa ?_
   refine ifc hf rfl (fun h=>by cases h) (fun _=>?_)
   refine ar ?_
   simp only[Exit.then,Exit.inBlock,↓reduceIte]
   clear B7
   refine ac 1 hf (by decide +kernel) ?_
   refine st ((add rfl rfl (by omega)).eq (congrArg (Value.int .i64) (show (k:Int)+1=((k+1:Nat):Int) from rfl))) ?_
   refine en fun a w e' hf=>?_
   replace HD:=VA.st _ _ _ _ e' HD
   replace hN5s:=Nat.le_trans hN5s e'.size
   replace e:=e.tr e'
   replace B4:=B4.ext e'
   replace B5:=B5.ext e'
   clear e'
   refine aB hf (by decide) (mv rfl) fun a w e' hf=>?_
   replace HD:=VA.st _ _ _ _ e' HD
   replace hN5s:=Nat.le_trans hN5s e'.size
   replace e:=e.tr e'
   replace B4:=B4.ext e'
   replace B5:=B5.ext e'
   refine aa ?_
   replace hf:=hf.kp [1,4,5,9,10,11]
   refine⟨_,?_,k+1,rfl,by omega,hf,e,?_⟩
   ·omega
   rw[hS]
   exact⟨B4,B5,HD,hN5s⟩
 ·obtain rfl:k=g.2.length:=by have:=of_decide_eq_false hc;(try dsimp only at this);omega
  clear hc
  simp only[Exit.then,Exit.inBlock,↓reduceIte]
  rw[List.take_length] at B5
  replace hf:=hf.kp [4,5]
  refine seq ?_
  refine ac 1 hf (by decide +kernel) ?_
  refine st ((ldW T47 rfl B5 rfl).eq ((rfl:_=ah (nbG g.2 id)))) ?_
  refine en fun a w e' hf=>?_
  replace HD:=VA.st _ _ _ _ e' HD
  replace hN5s:=Nat.le_trans hN5s e'.size
  replace e:=e.tr e'
  replace B4:=B4.ext e'
  replace B5:=B5.ext e'
  clear e'
  haveI hinr:∀G0,InR (GB W G0) (some b4):=fun G0=>InR.gb (by omega)
  refine aF T47 hf rfl rfl (aU _) B4 rfl (rfl) fun w hg hsz B4 hf=>?_
  replace HD:=Dv.grN HD hg (fun bb hb=>nV bb (by cases hb;omega))
  replace hN5s:=Nat.le_trans hN5s hg.size
  replace e:=e.gr hg (by omega)
  replace B5:=B5.gr hg (by omega)
  clear hg
  refine aa ?_
  refine an (dc rfl T47 hf rfl B4 (bh _) ?_)
  exact⟨_,rfl,e,rfl⟩
def nbL (g:GT)(s:List Nat):List (Int×BS):=s.map fun n:Nat=>((n:Int),nbG g.2 (n:Int))
theorem qz {g:GT}{s:List Nat}{x:Nat}(hx:x ∉ s):(bB (nbL g s) (x:Int) (nbG g.2 x)).Perm (nbL g (s++[x])):=by
 have hf:(nbL g s).filter (fun p => !decide (p.1=(x:Int)))=nbL g s:=by
  rw[List.filter_eq_self]
  intro p hp
  obtain⟨n,hn,rfl⟩:=List.mem_map.1 hp
  have:n≠x:=fun e=>hx (by rw[← e];exact hn)
  simp;omega
 rw[bB,hf,nbL,nbL,List.map_append]
 exact List.perm_append_comm (l₁:=[((x:Int),nbG g.2 x)])
structure NJ (W:World)(g:GT)(v:Value)(b1 b3 bm:Nat)(s:List Nat)(w:World):Prop where
 e:Ext W w
 t:Tab w
 p1:Blk w b1 #[v] 28
 p3:Blk w b3 #[.map (some bm)] 75
 m:MpR sKV w bm s.length (nbL g s)
theorem NJ.kp {W:World}{g:GT}{v:Value}{b1 b3 bm:Nat}{s:List Nat}{B:Nat}{w w':World}(h:NJ W g v b1 b3 bm s w)(k:Kp B w w')(hW:W.heap.size≤B)(h0:0<B)(l1:b1<B)(l3:b3<B)(lm:bm<B):NJ W g v b1 b3 bm s w':=
 ⟨h.e.kp k hW,h.t.kp k h0,h.p1.kp k (fun hh=>by have:=hh.1;omega),h.p3.kp k (fun hh=>by have:=hh.1;omega),h.m.pres (k.same bm h.m.lt (fun hh=>by have:=hh.1;omega))⟩
theorem yw {G:Nat→Prop}{N:Nat}(g:GT)(v:Value)(W:World)(hT:Tab W)(h:(Dv (ptE (grE N)) G (some g)).p v W)(gs1:g.1.Pairwise fun x y=>lt1 x.1 y.1=true)(gs2:g.2.Pairwise fun x y=>lt2 x.1 y.1=true)(hl1:g.1.length≤100000)(hl2:g.2.length≤100000)(hN:N≤1000000) :
  Calls Tryz.prog 28 #[v] W (Post (Dv (mpE sKV 1024) G0 (nbL g (elems (ai g.1)))) W):=by
 have hv:(Dv (ptE (grE N)) G0 (some g)).p v W:=Dv.weak h fun b _ hb=>hb.elim
 have hT0:=hT.lt
 have h1c:v.cells = #[v]:=by
  obtain⟨ad,rfl,_⟩:=Dv.pt.1 hv
  rfl
 refine dr (args:=[v]) (As:=[E v]) Tryz.func28 rfl Tryz.ntmps28 (Nat.le_of_ble_eq_true rfl) ?_ (fun a hf=>?_) (Nat.le_of_ble_eq_true rfl)
 ·exact arg1 rfl
 dsimp only[params,Nat.reduceAdd] at hf
 have e:=Ext.rfl' W
 refine seq ?_
 refine aj ?_
 refine aJ hf rfl (by decide) fun a b1 w v1 hv1 e' hb1 hs1 B1 hf=>?_
 have hle1:=Nat.le_trans e.size (Nat.le_of_eq hb1.symm)
 replace hT:=hT.ext e'
 replace e:=e.tr e'
 refine ae hf rfl (by decide) fun a hf=>?_
 refine aa ?_
 cases hv1
 rw[h1c] at B1
 replace hf:=hf.kp [1]
 refine seq ?_
 refine aj ?_
 refine eM sKV hf (by decide) fun a bm w e' hbm hsm HM hf=>?_
 replace e:=e.tr e'
 replace hT:=hT.ext e'
 replace B1:=B1.ext e'
 clear e'
 have lm:=HM.lt
 have hWm:W.heap.size≤bm:=by have:=e.size;omega
 refine aC I75 hf (by decide) fun a b3 w e' hb3 hs3 B3 hf=>?_
 have hle3:=Nat.le_trans e.size (Nat.le_of_eq hb3.symm)
 have lt3_B1:=B1.lt
 replace hT:=hT.ext e'
 replace HM:=HM.ext e'
 replace e:=e.tr e'
 replace B1:=B1.ext e'
 clear e'
 haveI hinr:∀G0,InR (GB W G0) (some b3):=fun G0=>InR.gb (by omega)
 refine aO T75 hf rfl rfl rfl B3 (by decide) fun w hg hsz B3 hf=>?_
 replace hT:=hT.gr hg (by omega)
 replace HM:=HM.gr hg (fun h=>by cases h;omega)
 replace e:=e.gr hg (by omega)
 replace B1:=B1.gr hg (by omega)
 clear hg
 refine aa ?_
 replace hf:=hf.kp [1,3]
 obtain⟨Nz,hNz⟩:∃Nz,Nz=w.heap.size:=⟨_,rfl⟩
 have e0:=e
 have l1:=B1.lt
 have l3:=B3.lt
 have lm2:=HM.lt
 have n3:b1≠bm∧b3≠bm∧b3≠b1∧W.heap.size≤b1∧W.heap.size≤b3:=by omega
 obtain⟨S,hS⟩:∃S,S=ai g.1:=⟨_,rfl⟩
 repeat refine seq ?_
 refine ac 3 hf (by decide +kernel) ?_
 refine st (ld1 (v:=v) T28 rfl B1 rfl) ?_
 refine st (aw (A:=E (ah S)) fa rfl (fun v w he k=>by cases k;rw[hS];exact fw g _ w (VA.st _ _ _ _ (Ext.tr e0 he) hv) gs1 hl1 hN)) ?_
 refine st (aw (A:=cC Nz S) cJ rfl (fun v w' he h=>by cases h;exact Calls.mono (cM _ w') (fun en w2 ⟨u,h1,h2,b',h3,h4,h5⟩=>⟨u,h1,h2,b',by have:=he.size;omega,h4,h5⟩))) ?_
 refine en fun a w e' hf=>?_
 replace HM:=HM.ext e'
 replace hT:=hT.ext e'
 replace e:=e.tr e'
 replace B1:=B1.ext e'
 replace B3:=B3.ext e'
 refine aa ?_
 obtain⟨v8,⟨b8,h8,rfl,BS⟩,hf⟩:=hf.fix 8 rfl
 replace hf:=hf.kp [1,3,8]
 have hBW:W.heap.size≤w.heap.size:=e.size
 have h0w:0<w.heap.size:=hT.lt
 have l1':=B1.lt
 have l3':=B3.lt
 have lm':=HM.lt
 refine blk ?_
 refine cS (S:=S) hf rfl BS (by decide) (fun s w1=>NJ W g v b1 b3 bm s w1) (fun _ _=>False) (fun s w1 h=>h.t)
  ⟨e,hT,B1,B3,HM⟩ (fun s w1 w2 h hs k=>h.kp k hBW h0w l1' l3' lm') (fun _ _ _ h=>h.elim) ?_ ?_ (fun _ _ _ _ _ _ h=>h.elim)
 ·intro l s x rest a1 w1 hs hJ hlw hf
  have hx1024:x<1024:=(aK.1 (by rw[hs];simp)).1
  have hxs:x ∉ s:=by
   have hn:(elems S).Nodup:=List.Nodup.sublist List.filter_sublist List.nodup_range
   rw[hs] at hn
   intro hx
   exact (List.nodup_append.1 hn).2.2 x hx x (by simp) rfl
  have hsl:s.length≤1024:=by have:=cD S;rw[hs] at this;simp at this;omega
  generalize hBz:w.heap.size=Bz at *
  refine aj ?_
  refine ae hf rfl (by decide) fun a hf=>?_
  refine aa ?_
  simp only[Exit.then]
  refine⟨Kh.rfl' _ _,fun w3 k3 hsz3=>?_⟩
  have hJ3:=hJ.kp k3 hBW h0w l1' l3' lm'
  clear e hT B1 B3 HM BS
  replace hf:=hf.pure w3
  obtain⟨e,hT,B1,B3,HM⟩:=hJ3
  have kh:=Kh.rfl' Bz w3
  have e0:=e
  replace hf:=hf.kp [1,3,4]
  refine blk ?_
  refine reg 5 Mix.mix hf (by decide +kernel) ?_
  refine st (ld1 (v:=.map (some bm)) T75 rfl B3 rfl) ?_
  refine st (mv rfl) ?_
  refine st (ld1 (v:=v) T28 rfl B1 rfl) ?_
  refine st (mv rfl) ?_
  refine st (aD (A:=E (ah (nbG g.2 (x:Int)))) dT rfl rfl (fun v u w he k1 k2=>by cases k1;cases k2;exact eT g _ _ w (VA.st _ _ _ _ (Ext.tr e0 he) hv) gs2 hl2 hN)) ?_
  refine en fun a w e' hf=>?_
  replace HM:=HM.ext e'
  replace hT:=hT.ext e'
  replace kh:=kh.tr (Kh.ext e')
  replace e:=e.tr e'
  replace B1:=B1.ext e'
  replace B3:=B3.ext e'
  clear e'
  refine eK (V:=sKV) (i:=(x:Int)) (c:=nbG g.2 (x:Int)) U75 hf rfl rfl rfl HM (by simp only[maxLen];omega) (bH (by omega) (by omega)) trivial fun w hg HM hf=>?_
  replace e:=e.gr hg (by omega);replace hT:=hT.gr hg (by omega);replace B1:=B1.gr hg (by omega);replace B3:=B3.gr hg (by omega)
  replace kh:=kh.tr (Kh.gr hg (fun hh=>by have:=hh.1;omega))
  clear hg
  refine aa ?_
  simp only[Exit.inBlock]
  exact⟨⟨e,hT,B1,B3,by rw[List.length_append];exact HM.perm (qz hxs)⟩,kh⟩
 ·intro a' w' hf' hJ hsz hDn
  simp only[Exit.inBlock,↓reduceIte,Exit.then]
  have hD:Ds [w.heap.size] w':=(Ds.nil w').cons hDn (by simp)
  have hf:FrD 16 (bK [w.heap.size]) a' w' [(1,E (.pointer (some ⟨b1,0,none⟩))),(3,E (.pointer (some ⟨b3,0,none⟩)))]:=hf'.keep [1,3]
  have hDW:∀d∈[w.heap.size],W.heap.size≤d:=fun d hd=>by rw[List.mem_singleton] at hd;omega
  clear hf' e hT B1 B3 HM BS hDn
  obtain⟨e,hT,B1,B3,HM⟩:=hJ
  have hbD:¬bm∈[w.heap.size]:=fun h=>by rw[List.mem_singleton] at h;omega
  generalize [w.heap.size]=D2 at *
  generalize w'=w at *
  refine seq ?_
  refine ac 1 hf (by decide +kernel) ?_
  refine st (ld1 (v:=.map (some bm)) T75 rfl B3 rfl) ?_
  refine en fun a w e' hf=>?_
  replace HM:=HM.ext e'
  replace e:=e.tr e'
  replace B1:=B1.ext e'
  replace B3:=B3.ext e'
  replace hD:=hD.ext e'
  refine ae hf rfl (by decide) fun a hf=>?_
  refine aa ?_
  refine an ?_
  refine ly rfl hf rfl hD ⟨_,rfl,e.shut hDW,?_⟩
  rw[← hS]
  exact⟨[.map (some bm)],⟨bm,_,rfl,fun h=>h.elim,cD S,HM.pres (gD D2 w bm hbD)⟩,rfl⟩

def yx (g:GT)(th:BS)(x:Int):BS:=if has (ai g.1) x=false then 0 else if has th x=true then 0 else reB (lkS (nbL g (elems (ai g.1)))) th x

theorem OwR.neDs {α:Type}{e:Enc α}{ty:TypeId}{B:Nat}{G:Nat→Prop}{w:World}{xs:List α}{u:Value}(h:OwR e ty B G w xs u){D:List Nat}(hD:Ds D w){d:Nat}(hd:d∈D):u.ownBlock≠some d:=fun hu=>by
 obtain⟨cs,h1,_⟩:=h.own
 rcases h1.2 with ⟨rfl,_⟩|⟨g',cap,cur,rfl,_,hg,_⟩
 ·simp[Value.ownBlock] at hu
 ·simp only[Value.ownBlock,Option.some.injEq] at hu
  subst hu
  exact hD.ne (show Blk w g' cur ty from hg) hd
theorem qA {fn:Func}{t u s:Nat}{R:Ending→World→Prop}{n:Nat}{a:Act}{w:World}{v x y:Value}{L:Env}{D:List Nat}(hr:fn.results = #[.tmp t,.tmp u,.tmp s])(hf:FrD n (bK D) a w L)(h:aI L t=some (E v))(h':aI L u=some (E x))(h'':aI L s=some (E y))
  (hD:Ds D w) (hR:R (.returned (.tuple #[v,x,y])) (shut D w)):bodyPostM (FW none) 0 Tryz.prog fn R .ret a w:=by
 have hv:a.eval (.tmp t)=v:=hf.val t _ h
 have hx:a.eval (.tmp u)=x:=hf.val u _ h'
 have hy:a.eval (.tmp s)=y:=hf.val s _ h''
 show LeavesInM _ _ _ _ _ _ _ _ _
 rw[hf.defers]
 refine fQ D w hD ?_ hR
 rw[← hv,← hx,← hy]
 simp[results,hr,Act.eval]
theorem Chg.row {w w':World}{row:Option Nat}(hg:w.grownBy w' row):Chg (fun b=>row=some b) w w':=⟨hg.os,hg.tape,hg.output,hg.size,fun b hb hn=>hg.block b hb fun he=>hn he.symm⟩
theorem yy {nb:Int→BS}{all:BS}{W:Int}:∀(f:Nat) (S:BS),(grF nb all W f S).length≤f:=by
 intro f
 induction f with
 | zero=>intro S;exact Nat.le_refl _
 | succ f ih=>
  intro S
  cases hq:nxt nb all W S with
  | none=>rw[xW hq];exact Nat.zero_le _
  | some v=>rw[lX hq,List.length_cons];have:=ih (ins S (v:Int));omega
structure WC (W:World)(N:Nat)(l0:List (Int×BS))(all:BS)(wd:Int)(b1 b2 b3 b4 bm:Nat)(nv:Value)(b6 b7 b8 b9:Nat)(nv6:Value)(w:World):Prop where
 e:Ext W w
 r:RC (fun b=>b=bm∨N≤b) l0 all b1 b2 b3 b4 bm nv w
 m:Mm (lkS l0) all bm w
 nd:(Dv (mpE sKV 1024) (fun b=>b=bm∨N≤b) l0).p nv6 w
 p6:Blk w b6 #[nv6] 75
 p7:Blk w b7 (au all) 47
 p8:Blk w b8 #[eS b1 b2 b3 b4] 78
 p9:Blk w b9 #[I wd] 3
 ne:W.heap.size≤bm∧W.heap.size≤N∧bm<N∧(b1<N∧b2<N∧b3<N∧b4<N)∧(b6<N∧b7<N∧b8<N∧b9<N)∧b6≠bm∧b7≠bm∧b8≠bm∧b9≠bm
section
variable {W:World}{N:Nat}{l0:List (Int×BS)}{all:BS}{wd:Int}{b1 b2 b3 b4 bm:Nat}{nv:Value}{b6 b7 b8 b9:Nat}{nv6:Value}{w w':World}
theorem RC.chN {G:Nat→Prop}(h:RC G l0 all b1 b2 b3 b4 bm nv w){S:Nat→Prop}(c:Chg S w w')(hG:∀b,S b→G b)(hb:¬S 0∧¬S b1∧¬S b2∧¬S b3∧¬S b4):RC G l0 all b1 b2 b3 b4 bm nv w':=
 ⟨h.t.ch c hb.1,h.k.ch c hb.2.1,h.a.ch c hb.2.2.1,h.n.ch c hb.2.2.2.1,h.o.ch c hb.2.2.2.2,Dv.ch h.nd c hG,h.g,h.ne⟩
theorem WC.chN (h:WC W N l0 all wd b1 b2 b3 b4 bm nv b6 b7 b8 b9 nv6 w)(c:Chg (fun b=>N≤b) w w'):WC W N l0 all wd b1 b2 b3 b4 bm nv b6 b7 b8 b9 nv6 w':=by
 obtain⟨n1,n2,n3,n4,n5,n6⟩:=h.ne
 exact⟨h.e.ch c (fun b hb=>by omega),h.r.chN c (fun b hb=>.inr hb) ⟨by omega,by omega,by omega,by omega,by omega⟩,h.m.pres (c.block _ h.m.lt (by omega)),Dv.ch h.nd c (fun b hb=>.inr hb),h.p6.ch c (by omega),h.p7.ch c (by omega),h.p8.ch c (by omega),h.p9.ch c (by omega),h.ne⟩
theorem WC.ch (h:WC W N l0 all wd b1 b2 b3 b4 bm nv b6 b7 b8 b9 nv6 w)(c:Chg (fun b=>b=bm) w w')(hm:Mm (lkS l0) all bm w'):WC W N l0 all wd b1 b2 b3 b4 bm nv b6 b7 b8 b9 nv6 w':=by
 obtain⟨n1,n2,n3,n4,n5,n6⟩:=h.ne
 exact⟨h.e.ch c (fun b hb=>by omega),h.r.ch c,hm,Dv.ch h.nd c (fun b hb=>.inl hb),h.p6.ch c (by omega),h.p7.ch c (by omega),h.p8.ch c (by omega),h.p9.ch c (by omega),h.ne⟩
theorem WC.ext (h:WC W N l0 all wd b1 b2 b3 b4 bm nv b6 b7 b8 b9 nv6 w)(e:Ext w w'):WC W N l0 all wd b1 b2 b3 b4 bm nv b6 b7 b8 b9 nv6 w':=h.chN (e.chg _)
theorem WC.gro (h:WC W N l0 all wd b1 b2 b3 b4 bm nv b6 b7 b8 b9 nv6 w){row:Option Nat}(hg:w.grownBy w' row)(hr:∀b,row=some b→N≤b):WC W N l0 all wd b1 b2 b3 b4 bm nv b6 b7 b8 b9 nv6 w':=
 h.chN ⟨hg.os,hg.tape,hg.output,hg.size,fun b hb hn=>hg.block b hb fun he=>hn (hr b he.symm)⟩
theorem WC.gr (h:WC W N l0 all wd b1 b2 b3 b4 bm nv b6 b7 b8 b9 nv6 w){b:Nat}(hg:w.grownBy w' (some b))(hb:N≤b):WC W N l0 all wd b1 b2 b3 b4 bm nv b6 b7 b8 b9 nv6 w':=h.gro hg fun c hc=>by cases hc;exact hb
theorem WC.kp {B:Nat}(h:WC W N l0 all wd b1 b2 b3 b4 bm nv b6 b7 b8 b9 nv6 w)(k:Kp B w w')(hB:N≤B):WC W N l0 all wd b1 b2 b3 b4 bm nv b6 b7 b8 b9 nv6 w':=
 h.chN (k.chg.to fun b _ hb=>by have:=hb.1;omega)
end
structure WJ (W:World)(N:Nat)(l0:List (Int×BS))(all:BS)(wd:Int)(b1 b2 b3 b4 bm:Nat)(nv:Value)(b6 b7 b8 b9:Nat)(nv6:Value)(b10 b11:Nat)(D:List Nat)(B:Nat)(ord:List Int)(S:BS)(w:World):Prop where
 c:WC W N l0 all wd b1 b2 b3 b4 bm nv b6 b7 b8 b9 nv6 w
 p10:∃u,Blk w b10 #[u] 39∧OwR aA 3 N G0 w ord u∧∀g,u.ownBlock=some g→¬aT B g
 p11:Blk w b11 (au S) 47
 ds:Ds D w
theorem WJ.kp {W:World}{N:Nat}{l0:List (Int×BS)}{all:BS}{wd:Int}{b1 b2 b3 b4 bm:Nat}{nv:Value}{b6 b7 b8 b9:Nat}{nv6:Value}{b10 b11:Nat}{D:List Nat}{B:Nat}{ord:List Int}{S:BS}{w w':World}(h:WJ W N l0 all wd b1 b2 b3 b4 bm nv b6 b7 b8 b9 nv6 b10 b11 D B ord S w)(k:Kp B w w')
  (hB:N≤B) (l10:b10<B) (l11:b11<B) (lD:∀d∈D,d<B):WJ W N l0 all wd b1 b2 b3 b4 bm nv b6 b7 b8 b9 nv6 b10 b11 D B ord S w':=by
 have no:∀{b},b<B→¬aT B b:=fun h hh=>by have:=hh.1;omega
 obtain⟨u,q1,q2,q3⟩:=h.p10
 exact⟨h.c.kp k hB,⟨u,q1.kp k (no l10),q2.chE k.chg q3,q3⟩,h.p11.kp k (no l11),h.ds.ch k.chg fun d hd=>no (lD d hd)⟩
def nbA (g:GT):Int→BS:=lkS (nbL g (elems (ai g.1)))
def fW (l:List Nat):List Int:=l.map fun i:Nat=>(i:Int)
def cZ (g:GT):List Nat:=grF (nbA g) (ai g.1) (rsR (nbA g) (ai g.1) 0) (card (ai g.1)) 0
theorem yz {G:Nat→Prop}{N0:Nat}(g:GT)(v:Value)(W:World)(hT:Tab W)(h:(Dv (ptE (grE N0)) G (some g)).p v W)(gs1:g.1.Pairwise fun x y=>lt1 x.1 y.1=true)(gs2:g.2.Pairwise fun x y=>lt2 x.1 y.1=true)(hl1:g.1.length≤12)(hl2:g.2.length≤100000)(hN:N0≤1000000)(hs:Sml (nbA g) (ai g.1))(hc:card (ai g.1)≤12)
  {K:Nat→Prop} (hK:∀b,K b→b<W.heap.size) :
  Calls Tryz.prog 9 #[v] W (Post (Tup [E (I (rsR (nbA g) (ai g.1) 0)),Dv (slE aA) K (fW (cZ g)),E (I 0)]) W):=by
 have hv:(Dv (ptE (grE N0)) G0 (some g)).p v W:=Dv.weak h fun b _ hb=>hb.elim
 have hT0:=hT.lt
 obtain⟨l0,hl0⟩:∃l0,l0=nbL g (elems (ai g.1)):=⟨_,rfl⟩
 obtain⟨all,hall⟩:∃all,all=ai g.1:=⟨_,rfl⟩
 have hnb:nbA g=lkS l0:=by rw[hl0,nbA]
 rw[cZ,hnb,← hall]
 rw[hnb,← hall] at hs
 rw[← hall] at hc
 refine dr (args:=[v]) (As:=[E v]) Tryz.func9 rfl Tryz.ntmps9 (Nat.le_of_ble_eq_true rfl) ?_ (fun a hf=>?_) (Nat.le_of_ble_eq_true rfl)
 ·exact arg1 rfl
 dsimp only[params,Nat.reduceAdd] at hf
 have e:=Ext.rfl' W
 have hck:ckW g=0:=by rw[ckW,if_neg (by omega)]
 refine seq ?_
 refine aj ?_
 refine ae hf rfl (by decide) fun a hf=>?_
 refine ae hf rfl (by decide) fun a hf=>?_
 refine ae hf rfl (by decide) fun a hf=>?_
 refine aa ?_
 repeat refine seq ?_
 refine ac 2 hf (by decide +kernel) ?_
 refine st (mv rfl) ?_
 refine st (aw (A:=E (I 0)) tm rfl (fun v w he h=>by cases h;rw[← hck];exact yv g _ w (VA.st _ _ _ _ (Ext.tr e he) hv))) ?_
 refine en fun a w e' hf=>?_
 replace hT:=hT.ext e'
 replace e:=e.tr e'
 refine ae hf rfl (by decide) fun a hf=>?_
 refine aa ?_
 refine seq ?_
 refine ac 2 hf (by decide +kernel) ?_
 refine st (mv rfl) ?_
 refine st (neq rfl rfl) ?_
 refine en fun a w e' hf=>?_
 replace hT:=hT.ext e'
 replace e:=e.tr e'
 refine aa ?_
 refine ifc hf rfl (fun h=>by cases h) (fun _=>?_)
 refine ar ?_
 simp only[Exit.then,Exit.inBlock,↓reduceIte]
 replace hf:=hf.kp [0]
 have e0:=e
 refine seq ?_
 refine ac 4 hf (by decide +kernel) ?_
 refine st (mv rfl) ?_
 refine st (aw (A:=Dv (mpE sKV 1024) G0 l0) tn rfl (fun v w he k=>by cases k;rw[hl0];exact yw g _ w (hT.ext he) (VA.st _ _ _ _ (Ext.tr e0 he) hv) gs1 gs2 (by omega) hl2 hN)) ?_
 refine st (mv rfl) ?_
 refine st (aw (A:=E (ah all)) fa rfl (fun v w he k=>by cases k;rw[hall];exact fw g _ w (VA.st _ _ _ _ (Ext.tr e0 he) hv) gs1 (by omega) hN)) ?_
 refine en fun a w e' hf=>?_
 replace hT:=hT.ext e'
 replace e:=e.tr e'
 clear e'
 clear e0
 obtain⟨nv6,Hn,hf⟩:=hf.opn 19 rfl
 obtain⟨q6,hq6⟩:∃q,nv6=.map (some q):=by
  obtain⟨cs,⟨q,n,h1,_⟩,h2⟩:=Hn
  subst h1
  exact⟨q,h2⟩
 have ho6:nv6.oneCell'=true:=by rw[hq6];rfl
 obtain⟨N4,hN4⟩:∃N4,N4=w.heap.size:=⟨_,rfl⟩
 have hN4s:N4≤w.heap.size:=Nat.le_of_eq hN4
 have hW4:W.heap.size≤N4:=by rw[hN4];exact e.size
 have HN:(Dv (mpE sKV 1024) (fun b=>N4≤b) l0).p nv6 w:=Dv.weak Hn fun b hb hh=>by omega
 clear Hn hN4 hq6
 replace hf:=hf.kp [0,19,21]
 refine aC I75 hf (by decide) fun a b6 w e' hb6 hs6 B6 hf=>?_
 have hle6:=Nat.le_trans e.size (Nat.le_of_eq hb6.symm)
 have lo6_hN4s:=Nat.le_trans hN4s (Nat.le_of_eq hb6.symm)
 replace hT:=hT.ext e'
 replace HN:=VA.st _ _ _ _ e' HN
 replace hN4s:=Nat.le_trans hN4s e'.size
 replace e:=e.tr e'
 clear e'
 refine aC I47 hf (by decide) fun a b7 w e' hb7 hs7 B7 hf=>?_
 have hle7:=Nat.le_trans e.size (Nat.le_of_eq hb7.symm)
 have lo7_hN4s:=Nat.le_trans hN4s (Nat.le_of_eq hb7.symm)
 have lt7_B6:=B6.lt
 replace hT:=hT.ext e'
 replace HN:=VA.st _ _ _ _ e' HN
 replace hN4s:=Nat.le_trans hN4s e'.size
 replace e:=e.tr e'
 replace B6:=B6.ext e'
 clear e'
 replace B6:Blk w b6 (Value.cells (.map none)) 75:=B6
 simp only[Value.cells] at B6 B7
 have n67:b6≠b7:=by omega
 haveI hinr:∀G0,InR (GB W G0) (some b6):=fun G0=>InR.gb (by omega)
 refine aO T75 hf rfl rfl (ho6) B6 (by decide) fun w hg hsz B6 hf=>?_
 replace hT:=hT.gr hg (by omega)
 replace HN:=Dv.grN HN hg (fun bb hb=>by cases hb;omega)
 replace hN4s:=Nat.le_trans hN4s hg.size
 replace e:=e.gr hg (by omega)
 replace B7:=B7.gr hg (by omega)
 clear hg
 replace B6:Blk w b6 #[nv6] 75:=B6
 refine aF T47 hf rfl rfl (aU _) B7 rfl rfl fun w hg hsz B7 hf=>?_
 replace e:=e.gr hg (by omega);replace hT:=hT.gr hg (by omega);replace B6:=B6.gr hg (by omega);replace HN:=Dv.grN HN hg (fun bb hb=>by cases hb;omega);replace hN4s:=Nat.le_trans hN4s hg.size;clear hg
 refine aa ?_
 replace hf:=hf.kp [6,7]
 obtain⟨N5,hN5⟩:∃N5,N5=w.heap.size:=⟨_,rfl⟩
 have l6:b6<N5:=by rw[hN5];exact B6.lt
 have l7:b7<N5:=by rw[hN5];exact B7.lt
 have hN5s:N5≤w.heap.size:=Nat.le_of_eq hN5
 have hN45:N4≤N5:=by omega
 refine seq ?_
 refine ac 3 hf (by decide +kernel) ?_
 refine st (ld1 (v:=nv6) T75 rfl B6 rfl) ?_
 refine st ((ldW T47 rfl B7 rfl).eq ((rfl:_=ah all))) ?_
 refine st (aD (A:=qp N5 l0 all) tq rfl rfl (fun v u w he k1 k2=>by cases k1;cases k2;exact (yh l0 all _ w (hT.ext he) (VA.st _ _ _ _ he HN)).mono fun en w' ⟨u,k1,k2,b1,b2,b3,b4,bm,nv,k3,k4,k5⟩=>⟨u,k1,k2,b1,b2,b3,b4,bm,nv,k3,Nat.le_trans (Nat.le_trans hN5s he.size) k4,k5⟩)) ?_
 refine en fun a w e' hf=>?_
 replace hT:=hT.ext e'
 replace HN:=VA.st _ _ _ _ e' HN
 replace e:=e.tr e'
 replace B6:=B6.ext e'
 replace B7:=B7.ext e'
 clear e'
 obtain⟨v24,⟨b1,b2,b3,b4,bm,nv,rfl,hNm,R,M⟩,hf⟩:=hf.opn 24 rfl
 have lR:=R.lt
 have lM:=M.lt
 obtain⟨N6,hN6⟩:∃N6,N6=w.heap.size:=⟨_,rfl⟩
 have hN6s:N6≤w.heap.size:=Nat.le_of_eq hN6
 have l4:b1<N6∧b2<N6∧b3<N6∧b4<N6∧bm<N6∧b6<N6∧b7<N6:=by have:=B6.lt;have:=B7.lt;omega
 have hWN:W.heap.size≤N5∧N5≤N6∧W.heap.size≤bm:=by omega
 replace R:=R.weak (G':=fun b=>b=bm∨N6≤b) (fun b hb hh=>hh.elim id fun h=>by omega) (.inl rfl)
 replace HN:(Dv (mpE sKV 1024) (fun b=>b=bm∨N6≤b) l0).p nv6 w:=Dv.weak HN fun b hb hh=>by omega
 clear hN6 hN5 lR lM hT
 replace hf:=hf.kp [6,7,24]
 refine aC I78 hf (by decide) fun a b8 w e' hb8 hs8 B8 hf=>?_
 have hle8:=Nat.le_trans e.size (Nat.le_of_eq hb8.symm)
 have lo8_hN6s:=Nat.le_trans hN6s (Nat.le_of_eq hb8.symm)
 have lt8_B6:=B6.lt
 have lt8_B7:=B7.lt
 replace R:=R.ext e'
 replace M:=M.ext e'
 replace HN:=VA.st _ _ _ _ e' HN
 replace hN6s:=Nat.le_trans hN6s e'.size
 replace e:=e.tr e'
 replace B6:=B6.ext e'
 replace B7:=B7.ext e'
 clear e'
 have n8:N6≤b8:=by omega
 have l78:b8<w.heap.size:=B8.lt
 haveI hinr:∀G0,InR (GB W G0) (some b8):=fun G0=>InR.gb (by omega)
 refine aO T78 hf rfl rfl (rfl) B8 (by decide) fun w hg hsz B8 hf=>?_
 replace R:=R.gr hg (.inr (by omega)) (by omega) (by omega)
 replace M:=M.gr hg (by omega)
 replace HN:=Dv.grN HN hg (fun bb hb=>.inr (by cases hb;omega))
 replace hN6s:=Nat.le_trans hN6s hg.size
 replace e:=e.gr hg (by omega)
 replace B6:=B6.gr hg (by omega)
 replace B7:=B7.gr hg (by omega)
 clear hg
 refine aa ?_
 replace B8:Blk w b8 #[eS b1 b2 b3 b4] 78:=B8
 replace hf:=hf.kp [6,7,8]
 refine seq ?_
 refine ac 2 hf (by decide +kernel) ?_
 refine st (ld1 (v:=eS b1 b2 b3 b4) T78 rfl B8 rfl) ?_
 refine st (bG [] rfl pV) ?_
 refine en fun a w e' hf=>?_
 replace R:=R.ext e'
 replace M:=M.ext e'
 replace HN:=VA.st _ _ _ _ e' HN
 replace hN6s:=Nat.le_trans hN6s e'.size
 replace e:=e.tr e'
 replace B6:=B6.ext e'
 replace B7:=B7.ext e'
 replace B8:=B8.ext e'
 clear e'
 have v26:a.eval (.tmp 26)=ah 0:=hf.val 26 _ rfl
 refine gu (S:=fun b=>b=bm) (F:=Mm (lkS l0) all bm) (caps := #[ptr b1,ptr b2,ptr b3,ptr b4]) (A:=E (I (rsR (lkS l0) all 0))) hf (by decide) kJ rfl ?_ fun a w hc' hF hf=>?_
 ·have:=qn l0 all b1 b2 b3 b4 bm nv hc (card (all &&& ~~~(0:BS))) 0 w rfl (fun i hi=>absurd hi (aN i)) (R.weak (fun b hb h=>.inl h) rfl) M
  simp only[List.map_toArray,List.map_cons,List.map_nil,v26]
  exact Calls.mono this fun en w' ⟨u,k1,k2,k3,k4⟩=>⟨u,k1,k2,k4,k3⟩
 clear v26
 obtain⟨wd,hwd⟩:∃wd,wd=rsR (lkS l0) all 0:=⟨_,rfl⟩
 rw[← hwd] at hf ⊢
 have hwb:=iJ (nb:=lkS l0) (all:=all) 0
 rw[← hwd] at hwb
 replace R:=R.ch hc';replace M:=hF;replace HN:=Dv.ch HN hc' (fun b hb=>.inl hb);replace e:=e.ch hc' (fun b hb=>by omega);replace B6:=B6.ch hc' (by omega);replace B7:=B7.ch hc' (by omega);replace B8:=B8.ch hc' (by omega);replace hN6s:=Nat.le_trans hN6s hc'.size
 clear hc' hF
 have l8:=B8.lt
 refine aC I3 hf (by decide) fun a b9 w e' hb9 hs9 B9 hf=>?_
 have hle9:=Nat.le_trans e.size (Nat.le_of_eq hb9.symm)
 have lo9_hN6s:=Nat.le_trans hN6s (Nat.le_of_eq hb9.symm)
 have lt9_B6:=B6.lt
 have lt9_B7:=B7.lt
 have lt9_B8:=B8.lt
 replace R:=R.ext e'
 replace M:=M.ext e'
 replace HN:=VA.st _ _ _ _ e' HN
 replace hN6s:=Nat.le_trans hN6s e'.size
 replace e:=e.tr e'
 replace B6:=B6.ext e'
 replace B7:=B7.ext e'
 replace B8:=B8.ext e'
 clear e'
 have n9:N6≤b9∧b8<b9:=by omega
 haveI hinr:∀G0,InR (GB W G0) (some b9):=fun G0=>InR.gb (by omega)
 refine aO T3 hf rfl rfl rfl B9 (by decide) fun w hg hsz B9 hf=>?_
 replace R:=R.gr hg (.inr (by omega)) (by omega) (by omega)
 replace M:=M.gr hg (by omega)
 replace HN:=Dv.grN HN hg (fun bb hb=>.inr (by cases hb;omega))
 replace hN6s:=Nat.le_trans hN6s hg.size
 replace e:=e.gr hg (by omega)
 replace B6:=B6.gr hg (by omega)
 replace B7:=B7.gr hg (by omega)
 replace B8:=B8.gr hg (by omega)
 clear hg
 refine aa ?_
 replace B9:Blk w b9 #[I wd] 3:=B9
 replace hf:=hf.kp [6,7,8,9]
 obtain⟨N,hNN⟩:∃N,N=w.heap.size:=⟨_,rfl⟩
 have hNs:N≤w.heap.size:=Nat.le_of_eq hNN
 have l9:=B9.lt
 have hne:W.heap.size≤bm∧W.heap.size≤N∧bm<N∧(b1<N∧b2<N∧b3<N∧b4<N)∧(b6<N∧b7<N∧b8<N∧b9<N)∧b6≠bm∧b7≠bm∧b8≠bm∧b9≠bm:=by have:=e.size;omega
 have C:WC W N l0 all wd b1 b2 b3 b4 bm nv b6 b7 b8 b9 nv6 w:=⟨e,R.weak (fun b hb hh=>hh.imp id fun h=>by omega) (.inl rfl),M,Dv.weak HN (fun b hb hh=>hh.imp id fun h=>by omega),B6,B7,B8,B9,hne⟩
 clear hNN R M HN B6 B7 B8 B9 hN6s hN5s n8 n9 l78 l8 l4 hWN
 refine seq ?_
 refine aj ?_
 refine aC I39 hf (by decide) fun a b10 w e' hb10 hs10 B10 hf=>?_
 have hle10:=Nat.le_trans e.size (Nat.le_of_eq hb10.symm)
 have lo10_hNs:=Nat.le_trans hNs (Nat.le_of_eq hb10.symm)
 replace C:=C.ext e'
 replace hNs:=Nat.le_trans hNs e'.size
 replace e:=e.tr e'
 refine aa ?_
 replace B10:Blk w b10 #[.slice none 0 0] 39:=B10
 have n10:N≤b10:=by omega
 have l10:=B10.lt
 refine seq ?_
 refine aj ?_
 refine aC I47 hf (by decide) fun a b11 w e' hb11 hs11 B11 hf=>?_
 have hle11:=Nat.le_trans e.size (Nat.le_of_eq hb11.symm)
 have lo11_hNs:=Nat.le_trans hNs (Nat.le_of_eq hb11.symm)
 have lt11_B10:=B10.lt
 replace C:=C.ext e'
 replace hNs:=Nat.le_trans hNs e'.size
 replace e:=e.tr e'
 replace B10:=B10.ext e'
 refine aa ?_
 simp only[Value.cells,cm] at B11
 have n11:N≤b11∧b11≠b10:=by omega
 replace hf:=hf.kp [6,7,8,9,10,11]
 have hz0:card (all &&& ~~~(0:BS))=card all:=by rw[show all &&& ~~~(0:BS)=all from bI fun i=>⟨fun h=>((aP _ _ _).1 h).1,fun h=>(aP _ _ _).2 ⟨h,aN i⟩⟩]
 have hwd0:rsR (lkS l0) all 0≤wd:=by rw[hwd];exact Int.le_refl _
 clear hwd
 refine seq ?_
 refine blk (aW (fun r0 a w=>∃(S:BS) (ord:List Int) (u:Value) (D:List Nat),r0=card (all &&& ~~~S)∧(∀i,S.getLsbD i=true→all.getLsbD i=true)∧rsR (lkS l0) all S≤wd∧ord++fW (grF (lkS l0) all wd r0 S)=fW (grF (lkS l0) all wd (card all) 0) ∧
  FrD 58 (bK D) a w [(6,E (ptr b6)),(7,E (ptr b7)),(8,E (ptr b8)),(9,E (ptr b9)),(10,E (ptr b10)),(11,E (ptr b11))]∧WC W N l0 all wd b1 b2 b3 b4 bm nv b6 b7 b8 b9 nv6 w∧Blk w b10 #[u] 39∧OwR aA 3 N G0 w ord u∧Blk w b11 (au S) 47∧Ds D w∧∀d∈D,N≤d) (card (all &&& ~~~(0:BS)))
  ⟨0,[],.slice none 0 0,[],rfl,(fun i hi=>absurd hi (aN i)),hwd0,by rw[hz0,List.nil_append],hf,C,B10,OwR.nil aA _ hNs fun b hb=>hb.elim,B11,Ds.nil _,fun d hd=>nomatch hd⟩ ?_)
 clear hf C B10 B11 hNs hwd0 l10
 rintro r0 a w ⟨S,ord,u,D,hr0,hSa,hSw,hord,hf,C,B10,Ho,B11,hD,hDW⟩
 have hgl:=yy (nb:=lkS l0) (all:=all) (W:=wd) (card all) 0
 have hol:ord.length≤12:=by
  have:=congrArg List.length hord
  simp only[List.length_append,fW,List.length_map] at this
  omega
 clear hgl
 repeat refine seq ?_
 refine ac 3 hf (by decide +kernel) ?_
 refine st ((ldW T47 rfl B11 rfl).eq ((rfl:_=ah S))) ?_
 refine st ((ldW T47 rfl C.p7 rfl).eq ((rfl:_=ah all))) ?_
 refine st (vS U47 U45 T45 (by kernel_rfl) rfl rfl) ?_
 refine en fun a w e' hf=>?_
 replace C:=C.ext e'
 replace B10:=B10.ext e'
 replace B11:=B11.ext e'
 replace hD:=hD.ext e'
 replace Ho:=Ho.ext e'
 refine aa ?_
 refine ifc hf rfl (fun hc=>ar ?_) (fun hc=>aR ?_)
 rotate_left
 ·have hSA:S=all:=by simpa using hc
  have hr00:r0=0:=by
   rw[hr0,hSA,show all &&& ~~~all=0 from bI fun i=>⟨fun h=>absurd ((aP _ _ _).1 h).1 ((aP _ _ _).1 h).2,fun h=>absurd h (aN i)⟩,eh]
  rw[hr00,grF,fW,List.map_nil,List.append_nil] at hord
  simp only[Exit.then,Exit.inBlock,↓reduceIte]
  replace hf:=hf.kp [9,10]
  refine seq ?_
  refine reg 5 Mix.mix hf (by decide +kernel) ?_
  refine st (ld1 T3 rfl C.p9 rfl) ?_
  refine st (ld1 (v:=u) T39 rfl B10 rfl) ?_
  refine st (asg rfl) ?_
  refine st (asg rfl) ?_
  refine st (asg rfl) ?_
  refine en fun a w e' hf=>?_
  replace C:=C.ext e'
  replace B10:=B10.ext e'
  replace hD:=hD.ext e'
  replace Ho:=Ho.ext e'
  refine aa ?_
  refine an ?_
  refine qA rfl hf rfl rfl rfl hD ⟨_,rfl,C.e.shut (fun d hd=>Nat.le_trans hne.2.1 (hDW d hd)),Tup.three rfl ?_ rfl⟩
  rw[← hord]
  exact Dv.weak (Dv.ch (Ho.slN (N:=fun b=>b∈D∨K b) fun b hb hh=>hh.elim (fun h=>Ho.neDs hD h hb) fun h=>by have:=hK b h;have:=(Ho.lt hb).1;have:=hne.2.1;omega) (fR D w) fun b hb=>.inl hb) fun b _ hb=>.inr hb
 have hSA:S≠all:=by simpa using hc
 clear hc
 simp only[Exit.then,Exit.inBlock,↓reduceIte]
 have hex:∃z,(all &&& ~~~S).getLsbD z=true:=Classical.byContradiction fun hn=>hSA (bI fun i=>⟨hSa i,fun h=>Classical.byContradiction fun hi=>hn ⟨i,(aP _ _ _).2 ⟨h,hi⟩⟩⟩)
 obtain⟨z0,hz0'⟩:=hex
 obtain⟨nx,hnx⟩:=pZ hs hSw hz0'
 obtain⟨X,hX⟩:∃X,X=all &&& ~~~S:=⟨_,rfl⟩
 refine blk ?_
 refine seq ?_
 refine ac 4 hf (by decide +kernel) ?_
 refine st ((ldW T47 rfl C.p7 rfl).eq ((rfl:_=ah all))) ?_
 refine st ((ldW T47 rfl B11 rfl).eq ((rfl:_=ah S))) ?_
 refine st (aD (A:=E (ah X)) dC rfl rfl (fun v u w he h h'=>by cases h;cases h';rw[hX];exact dK all S w)) ?_
 refine st (aw (A:=cC 0 X) cJ rfl (fun v w' he h=>by cases h;exact Calls.mono (cM _ w') (fun en w2 ⟨u,h1,h2,b',h3,h4,h5⟩=>⟨u,h1,h2,b',Nat.zero_le _,h4,h5⟩))) ?_
 refine en fun a w e' hf=>?_
 replace C:=C.ext e'
 replace B10:=B10.ext e'
 replace B11:=B11.ext e'
 replace hD:=hD.ext e'
 replace Ho:=Ho.ext e'
 refine aa ?_
 obtain⟨v34,⟨b34,h34,rfl,BSq⟩,hf⟩:=hf.fix 34 rfl
 replace hf:=hf.kp [6,7,8,9,10,11,34]
 have l10:=B10.lt
 have l11:=B11.lt
 have lD:∀d∈D,d<w.heap.size:=fun d hd=>hD.lt hd
 have lN:N≤w.heap.size:=Ho.base
 have lH:∀g,u.ownBlock=some g→¬aT w.heap.size g:=fun g hg hh=>by have:=(Ho.lt hg).2;have:=hh.1;omega
 refine blk ?_
 refine cS (S:=X) hf rfl BSq (by decide) (fun s w1=>WJ W N l0 all wd b1 b2 b3 b4 bm nv b6 b7 b8 b9 nv6 b10 b11 D w.heap.size ord S w1∧∀y∈s,¬max (rn (lkS l0) S y) (rsR (lkS l0) all (ins S (y:Int)))≤wd)
  (fun ex w1=>ex=.exit 2∧WJ W N l0 all wd b1 b2 b3 b4 bm nv b6 b7 b8 b9 nv6 b10 b11 D w.heap.size (ord++[(nx:Int)]) (ins S (nx:Int)) w1) (fun s w1 h=>h.1.c.r.t)
  ⟨⟨C,⟨u,B10,Ho,lH⟩,B11,hD⟩,fun y hy=>nomatch hy⟩ (fun s w1 w2 h hs k=>⟨h.1.kp k lN l10 l11 lD,h.2⟩) (fun ex w1 w2 h hs k=>⟨h.1,h.2.kp k lN l10 l11 lD⟩) ?_ ?_ ?_
 ·rintro lp s x rest a1 w1 hsx ⟨hJ,hno⟩ hlw hf
  have hxX:=(aK.1 (show x∈elems X by rw[hsx];simp)).2
  rw[hX] at hxX
  have hx1024:=aG hxX
  have hwx:(Lit.int .i64 (x:Int)).wf=true:=bH (by omega) (by omega)
  have hSx:∀i,(ins S (x:Int)).getLsbD i=true→all.getLsbD i=true:=fun i hi=>((aL S hx1024).1 hi).elim (hSa i) fun h=>by rw[h];exact ((aP _ _ _).1 hxX).1
  generalize hBz:w.heap.size=Bz at *
  refine aj ?_
  refine ae hf rfl (by decide) fun a hf=>?_
  refine aa ?_
  simp only[Exit.then]
  refine⟨Kh.rfl' _ _,fun w3 k3 hsz3=>?_⟩
  have hJ3:=hJ.kp k3 lN l10 l11 lD
  have hw3:Bz+3≤w3.heap.size:=by omega
  clear C B10 B11 hD Ho BSq hJ lH
  replace hf:=hf.pure w3
  obtain⟨C,⟨u,B10,Ho,lH⟩,B11,hD⟩:=hJ3
  have kh:=Kh.rfl' Bz w3
  obtain⟨m1,m2,m3,m4,m5,m6⟩:=hne
  replace hf:=hf.kp [6,7,8,9,10,11,12]
  refine blk ?_
  have x11:b11≠bm:=by omega
  have x10:b10≠bm:=by omega
  refine seq ?_
  refine qf 13 (Chg fun b=>b=bm) (Mm (lkS l0) all bm) (bU (lkS l0) all bm) C.m Mix.mix hf (by decide +kernel) ?_
  refine uf (bU (lkS l0) all bm) (fun w1 h1 HJ1=>ld1 (v:=nv6) T75 rfl (C.p6.ch h1 m6.1) rfl) ?_
  refine uf (bU (lkS l0) all bm) (fun w1 h1 HJ1=>(ldW T47 rfl (B11.ch h1 x11) (bh _)).eq ((rfl:_=ah S))) ?_
  refine uf (bU (lkS l0) all bm) (fun w1 h1 HJ1=>mv rfl) ?_
  refine uf (bU (lkS l0) all bm) (fun w1 h1 HJ1=>fI (A:=E (ah (reB (lkS l0) S (x:Int)))) ni rfl rfl rfl (fun v u s w he h h' h''=>by cases h;cases h';cases h'';exact pW l0 S (x:Int) nv6 w ((C.r.ch h1).t.ext he) (VA.st _ _ _ _ he (Dv.ch C.nd h1 fun b hb=>.inl hb)) hwx)) ?_
  refine uf (bU (lkS l0) all bm) (fun w1 h1 HJ1=>aw (A:=E (I (rn (lkS l0) S x))) kG rfl (fun v w he h=>by cases h;exact lT _ w)) ?_
  refine uf (bU (lkS l0) all bm) (fun w1 h1 HJ1=>ld1 (v:=eS b1 b2 b3 b4) T78 rfl (C.p8.ch h1 m6.2.2.1) rfl) ?_
  refine uf (bU (lkS l0) all bm) (fun w1 h1 HJ1=>(ldW T47 rfl (B11.ch h1 x11) (bh _)).eq ((rfl:_=ah S))) ?_
  refine uf (bU (lkS l0) all bm) (fun w1 h1 HJ1=>mv rfl) ?_
  refine uf (bU (lkS l0) all bm) (fun w1 h1 HJ1=>aD (A:=E (ah (ins S (x:Int)))) de rfl rfl (fun v u w he h h'=>by cases h;cases h';exact di S (x:Int) w)) ?_
  refine ux (qg (A:=E (I (rsR (lkS l0) all (ins S (x:Int))))) kJ rfl rfl (by simp) (fun w h1 HJ1=>(qn l0 all b1 b2 b3 b4 bm nv hc (card (all &&& ~~~(ins S (x:Int)))) (ins S (x:Int)) w rfl hSx ((C.r.ch h1).weak (fun b hb h=>.inl h) rfl) HJ1))) ?_
  refine uf (bU (lkS l0) all bm) (fun w1 h1 HJ1=>max2 rfl rfl) ?_
  refine uf (bU (lkS l0) all bm) (fun w1 h1 HJ1=>ld1 T3 rfl (C.p9.ch h1 m6.2.2.2) rfl) ?_
  refine uf (bU (lkS l0) all bm) (fun w1 h1 HJ1=>leq rfl rfl) ?_
  refine ue ?_
  refine fun a w hc HF hf=>?_
  try dsimp only[push] at hf
  refine aa ?_
  replace C:=C.ch hc HF
  replace B10:=B10.ch hc x10
  replace B11:=B11.ch hc x11
  replace Ho:=Ho.chE hc (fun b hb hh=>by have:=(Ho.lt hb).1;omega)
  replace hD:=hD.ch hc (fun d hd hh=>by have:=hDW d hd;omega)
  replace kh:=kh.tr (Kh.chg hc fun b hb hh=>by have:=hh.1;omega)
  have hw4:Bz+3≤w.heap.size:=Nat.le_trans hw3 hc.size
  clear hc HF
  refine ifc hf rfl (fun hb=>?_) (fun hb=>?_)
  ·have hok:max (rn (lkS l0) S x) (rsR (lkS l0) all (ins S (x:Int)))≤wd:=of_decide_eq_true hb
   have hxn:x=nx:=by
    have h1:nxt (lkS l0) all wd S=some x:=by
     rw[nxt,← hX,hsx,List.find?_append,List.find?_eq_none.2 fun y hy=>by simpa using hno y hy,List.find?_cons_of_pos (by simpa using hok)]
     rfl
    rw[h1] at hnx;exact Option.some.inj hnx
   subst hxn
   clear hb hok
   replace hf:=hf.kp [10,11,12]
   have z10:u.ownBlock≠some b10:=Ho.neB B10 (by decide)
   have z11:u.ownBlock≠some b11:=Ho.neB B11 (by decide)
   have zD:∀d∈D,u.ownBlock≠some d:=fun d hd=>Ho.neDs hD hd
   refine seq ?_
   refine ve 7 3 u.ownBlock (by decide) Mix.mix hf (by decide +kernel) ?_
   refine xm (fun w1 h1=>ld1 (v:=u) T39 rfl (B10.gro h1 z10) rfl) ?_
   refine xm (fun w1 h1=>mv rfl) ?_
   refine xm (fun w1 h1=>bL U39 I3 rfl (by decide) rfl (fun b hb=>Nat.lt_of_lt_of_le (Ho.avs b hb) h1.size) (isI rfl)) ?_
   refine xx (vf U39 I3 rfl rfl rfl Ho rfl (by simp only[List.length_singleton];omega) (by simp only[List.length_singleton,maxLen];omega)) ?_
   refine xn (fun w1 h1=>(ldW T47 rfl (B11.gro h1 z11) (bh _)).eq ((rfl:_=ah S))) ?_
   refine xn (fun w1 h1=>mv rfl) ?_
   refine xn (fun w1 h1=>aD (A:=E (ah (ins S (x:Int)))) de rfl rfl (fun v u w he h h'=>by cases h;cases h';exact di S (x:Int) w)) ?_
   refine xe fun a w hg hf=>?_
   obtain⟨v',⟨Hn,hat⟩,hf⟩:=hf.fix 52 rfl
   replace C:=C.gro hg (fun b hb=>(Ho.lt hb).1)
   replace B10:=B10.gro hg z10
   replace B11:=B11.gro hg z11
   replace hD:=hD.ch (Chg.row hg) (fun d hd hh=>zD d hd hh)
   replace kh:=kh.tr (Kh.gro hg lH)
   have lH':∀g,v'.ownBlock=some g→¬aT Bz g:=fun g hg'=>by
    rcases hat with h|⟨c,h,hc'⟩
    ·rw[h] at hg';exact lH g hg'
    ·rw[h] at hg';cases hg'
     intro hh
     have:=hh.2;omega
   have z10':v'.ownBlock≠some b10:=Hn.neB B10 (by decide)
   have z11':v'.ownBlock≠some b11:=Hn.neB B11 (by decide)
   have noH:∀{b:Nat},b<Bz→¬aT Bz b:=fun h hh=>by have:=hh.1;omega
   have d10:¬b10∈D:=hD.ne B10
   have d11:¬b11∈D:=hD.ne B11
   have hone:=Hn.one
   clear Ho hat hg z10 z11 zD lH
   replace hf:=hf.kp [10,11,52,55]
   refine aO T39 hf rfl rfl hone B10 Nat.zero_lt_one fun w hg hsz B10 hf=>?_
   replace B10:Blk w b10 #[v'] 39:=B10
   replace C:=C.gr hg n10
   replace B11:=B11.gr hg n11.2
   replace hD:=hD.gr hg d10
   replace kh:=kh.tr (Kh.gr hg (noH l10))
   replace Hn:=Hn.grE hg z10'
   clear hg
   refine aF T47 hf rfl rfl (aU _) B11 rfl (bh _) fun w hg hsz B11 hf=>?_
   replace C:=C.gr hg n11.1
   replace B10:=B10.gr hg (Ne.symm n11.2)
   replace hD:=hD.gr hg d11
   replace kh:=kh.tr (Kh.gr hg (noH l11))
   replace Hn:=Hn.grE hg z11'
   clear hg
   refine aa ?_
   refine aR ?_
   simp only[Exit.inBlock]
   exact⟨⟨rfl,C,⟨v',B10,Hn,lH'⟩,B11,hD⟩,kh⟩
  ·have hok:¬max (rn (lkS l0) S x) (rsR (lkS l0) all (ins S (x:Int)))≤wd:=of_decide_eq_false hb
   refine ar ?_
   simp only[Exit.inBlock]
   refine⟨⟨⟨C,⟨u,B10,Ho,lH⟩,B11,hD⟩,fun y hy=>?_⟩,kh⟩
   rcases List.mem_append.1 hy with h|h
   ·exact hno y h
   ·rw[List.mem_singleton.1 h];exact hok
 ·intro a' w' hf' hJ hsz hDn
  obtain⟨q1,q2,q3⟩:=lY hnx
  refine absurd ?_ (hJ.2 nx (aK.2 ⟨aG q1,by rw[hX];exact q1⟩))
  omega
 ·rintro ex cd a' w' hcd hf' ⟨rfl,hJ⟩ hsz hDn
  simp only[Exit.inBlock,↓reduceIte,Exit.then]
  have hD2:Ds (w.heap.size::D) w':=hJ.ds.cons hDn fun hm=>Nat.lt_irrefl _ (lD _ hm)
  have hf:FrD 58 (bK (w.heap.size::D)) a' w' [(6,E (ptr b6)),(7,E (ptr b7)),(8,E (ptr b8)),(9,E (ptr b9)),(10,E (ptr b10)),(11,E (ptr b11))]:=hf'.keep [6,7,8,9,10,11]
  obtain⟨C',⟨u',B10',Ho',_⟩,B11',_⟩:=hJ
  obtain⟨q1,q2,q3⟩:=lY hnx
  have hq1:=aG q1
  have hcd:=ft q1
  refine⟨card (all &&& ~~~(ins S (nx:Int))),by omega,ins S (nx:Int),ord++[(nx:Int)],u',w.heap.size::D,rfl,fun i hi=>((aL S hq1).1 hi).elim (hSa i) fun h=>by rw[h];exact ((aP _ _ _).1 q1).1,q3,?_,hf,C',B10',Ho',B11',hD2,fun d hd=>?_⟩
  ·rw[← hord,hr0,hcd,lX hnx]
   simp only[fW,List.map_cons,List.append_assoc,List.singleton_append]
  ·rcases List.mem_cons.1 hd with rfl|hd
   ·exact lN
   ·exact hDW d hd

def ringV (n:Nat):List VT:=(List.range n).map fun i:Nat=>((i:Int),(0,0))
def yA (n:Nat):List ET:=((0,1),(0,0))::((0,(n:Int) - 1),(0,0))::((List.range (n - 2)).map fun i:Nat=>(((i:Int)+1,(i:Int)+2),(0,0)))
def ap (n:Nat):GT:=(ringV n,yA n)
theorem yB {G:Nat→Prop}(V:List VT)(E':List ET)(g:GT)(hb:∃g',cR V E'=some g'∧g'.1.Perm g.1∧g'.2.Perm g.2)(hV:∀x∈V,okD (dV x))(hE:∀x∈E',okD (dE x))(v u:Value)(W:World)(h1:(Dv (slE vtE) G V).p v W)(h2:(Dv (slE etE) G E').p u W)(hl1:V.length≤1000)(hl2:E'.length≤1000){K:Nat→Prop}(hK:∀b,K b→b<W.heap.size) :
  Calls Tryz.prog 14 #[v,u] W (Post (Tup [Dv (ptE (grE 2000)) K (some g),E (I 0)]) W):=
 Calls.mono (pj V E' v u W h1 h2 (by omega) (by omega) hV hE) fun en w' ⟨e,hq⟩=>by
  obtain⟨g',k1,k2,k3⟩:=hb
  rcases hq with ⟨g2,b1,b2,b3,q1,rfl,q3,q4,q5,q6⟩|⟨c,q0,q1,_⟩
  ·rw[k1] at q1;cases q1
   exact⟨_,rfl,e,Tup.two ((q6.perm k2 k3).dv (by omega) (fun h=>by have:=hK _ h;omega) (fun h=>by have:=hK _ h;omega) (fun h=>by have:=hK _ h;omega)) rfl⟩
  ·rw[k1] at q1;cases q1
theorem bV1 (i:Int):Tryz.prog.built 55 [(0,.int .i64 i)]=some #[.int .i64 i,.int .u8 0,.int .i64 0]:=by kernel_rfl
theorem bE2 (i j:Int):Tryz.prog.built 36 [(0,.int .i64 i),(1,.int .i64 j)]=some #[.int .i64 i,.int .i64 j,.int .u8 0,.int .i64 0]:=by kernel_rfl
theorem jJ {w0:World}{L:Env}{dst:Option Tmp}{ty:TypeId}{pos:String}{aft:Array Edge}{g:Option (Nat×Bool)}{x:Operand}(i:Int)(h:opd L x=some (E (I i))):OpC Tryz.prog w0 L ⟨dst,.build 55 #[(0,x)],ty,pos,aft,g⟩ (E (vtV (i,(0,0)))):=
 bG [(0,_)] (by simp only[List.map_cons,List.map_nil,h]) (bV1 i)
theorem iL {w0:World}{L:Env}{dst:Option Tmp}{ty:TypeId}{pos:String}{aft:Array Edge}{g:Option (Nat×Bool)}{x y:Operand}(i j:Int)(h:opd L x=some (E (I i)))(h':opd L y=some (E (I j))):OpC Tryz.prog w0 L ⟨dst,.build 36 #[(0,x),(1,y)],ty,pos,aft,g⟩ (E (etV ((i,j),(0,0)))):=
 bG [(0,_),(1,_)] (by simp only[List.map_cons,List.map_nil,h,h']) (bE2 i j)
theorem yC {g:GT}{i:Nat}(G:Gr.Ok g):(ai g.1).getLsbD i=true↔∃x∈g.1,x.1=(i:Int):=by
 by_cases hi:i<1024
 ·rw[ai,oD i hi,Bool.or_eq_true,decide_eq_true_eq,List.mem_map]
  exact⟨fun h=>h.elim (fun h=>absurd h (aN i)) id,.inr⟩
 ·constructor
  ·intro h;exact absurd (aG h) hi
  ·rintro⟨x,hx,h⟩
   have:=jy (G.rv x hx).1
   omega
theorem fx {g:GT}{i:Nat}(G:Gr.Ok g):(ai g.1).getLsbD i=true↔inV g.1 (i:Int)=true:=by
 rw[yC G,inV,List.any_eq_true]
 exact⟨fun⟨x,h1,h2⟩=>⟨x,h1,by simpa using h2⟩,fun⟨x,h1,h2⟩=>⟨x,h1,by simpa using h2⟩⟩
def Adj (g:GT)(i j:Nat):Prop:=∃x∈g.2,x.1=((i:Int),(j:Int))∨x.1=((j:Int),(i:Int))
theorem Adj.symm {g:GT}{i j:Nat}(h:Adj g i j):Adj g j i:=by obtain⟨x,h1,h2⟩:=h;exact⟨x,h1,h2.symm⟩
theorem Adj.inn {g:GT}{i j:Nat}(G:Gr.Ok g)(h:Adj g i j):(ai g.1).getLsbD i=true∧(ai g.1).getLsbD j=true∧i≠j:=by
 obtain⟨x,h1,h2⟩:=h
 obtain⟨q1,q2,q3,_⟩:=G.re x h1
 rcases h2 with h2|h2 <;> rw[h2] at q1 q2 q3 <;> dsimp only at q1 q2 q3
 ·exact⟨(fx G).2 q2,(fx G).2 q3,by omega⟩
 ·exact⟨(fx G).2 q3,(fx G).2 q2,by omega⟩
theorem mb {E:List ET}(h:∀x∈E,x.1.1<x.1.2∧(0≤x.1.1∧x.1.1<1024)∧(0≤x.1.2∧x.1.2<1024))(i j:Nat):(nbG E (i:Int)).getLsbD j=true↔∃x∈E,x.1=((i:Int),(j:Int))∨x.1=((j:Int),(i:Int)):=by
 have key:∀(E:List ET) (S:BS),(∀x∈E,x.1.1<x.1.2∧(0≤x.1.1∧x.1.1<1024)∧(0≤x.1.2∧x.1.2<1024))→((E.foldl (nbI (i:Int)) S).getLsbD j=true↔S.getLsbD j=true∨∃x∈E,x.1=((i:Int),(j:Int))∨x.1=((j:Int),(i:Int))):=by
  intro E
  induction E with
  | nil=>intro S _;simp
  | cons x E ih=>
   intro S hE
   rw[List.foldl_cons,ih _ fun y hy=>hE y (by simp[hy])]
   obtain⟨⟨p,q⟩,c⟩:=x
   obtain⟨h1,h2,h3⟩:=hE _ (List.mem_cons_self)
   dsimp only at h1 h2 h3
   obtain⟨p',rfl⟩:=Int.eq_ofNat_of_zero_le h2.1
   obtain⟨q',rfl⟩:=Int.eq_ofNat_of_zero_le h3.1
   have hn:(nbI (i:Int) S (((p':Int),(q':Int)),c)).getLsbD j=true↔S.getLsbD j=true∨(i=p'∧j=q')∨(i=q'∧j=p'):=by
    unfold nbI
    dsimp only
    by_cases e1:(i:Int)=(p':Int)
    ·rw[if_pos e1,aL S (by omega)]
     constructor
     ·rintro (h|h)
      ·exact .inl h
      ·exact .inr (.inl ⟨by omega,h⟩)
     ·rintro (h|h|h)
      ·exact .inl h
      ·exact .inr h.2
      ·omega
    ·rw[if_neg e1]
     by_cases e2:(i:Int)=(q':Int)
     ·rw[if_pos e2,aL S (by omega)]
      constructor
      ·rintro (h|h)
       ·exact .inl h
       ·exact .inr (.inr ⟨by omega,h⟩)
      ·rintro (h|h|h)
       ·exact .inl h
       ·omega
       ·exact .inr h.2
     ·rw[if_neg e2]
      constructor
      ·exact .inl
      ·rintro (h|h|h)
       ·exact h
       ·omega
       ·omega
   rw[hn]
   simp only[List.mem_cons,exists_eq_or_imp,Prod.mk.injEq,Int.ofNat_eq_natCast]
   constructor
   ·rintro ((h|h)|h)
    ·exact .inl h
    ·exact .inr (.inl (by omega))
    ·exact .inr (.inr h)
   ·rintro (h|h|h)
    ·exact .inl (.inl h)
    ·exact .inl (.inr (by omega))
    ·exact .inr h
 rw[nbG,key E 0 h]
 exact⟨fun h=>h.elim (fun h=>absurd h (aN j)) id,.inr⟩
theorem jK {g:GT}(G:Gr.Ok g):∀x∈g.2,x.1.1<x.1.2∧(0≤x.1.1∧x.1.1<1024)∧(0≤x.1.2∧x.1.2<1024):=fun x hx=>by
 obtain⟨h1,h2,h3,_⟩:=G.re x hx
 exact⟨h1,jz G h2,jz G h3⟩
theorem md {g:GT}{i:Nat}:nbA g (i:Int)=if (ai g.1).getLsbD i=true then nbG g.2 (i:Int) else 0:=by
 have hl:∀(s:List Nat),lkS (nbL g s) (i:Int)=if i∈s then nbG g.2 (i:Int) else 0:=by
  intro s
  induction s with
  | nil=>rfl
  | cons a s ih=>
   rw[lkS,nbL,List.map_cons,List.find?_cons] at *
   by_cases ha:a=i
   ·subst ha;simp
   ·have h1:decide (((a:Int),nbG g.2 (a:Int)).1=(i:Int))=false:=decide_eq_false fun h=>ha (by dsimp only at h;omega)
    rw[h1]
    have h2:(i∈a::s)↔i∈s:=by rw[List.mem_cons];exact⟨fun h=>h.elim (fun h=>absurd h.symm ha) id,.inr⟩
    simp only[h2]
    exact ih
 rw[nbA,hl]
 by_cases h:(ai g.1).getLsbD i=true
 ·rw[if_pos h,if_pos (aK.2 ⟨aG h,h⟩)]
 ·rw[if_neg h,if_neg fun hh=>h (aK.1 hh).2]
theorem bN {g:GT}(G:Gr.Ok g){i j:Nat}:(nbA g (i:Int)).getLsbD j=true↔Adj g i j:=by
 rw[md]
 constructor
 ·intro h
  split at h
  ·exact (mb (jK G) i j).1 h
  ·exact absurd h (aN j)
 ·intro h
  rw[if_pos (h.inn G).1]
  exact (mb (jK G) i j).2 h
theorem yD (S:BS)(n:Int):card (ins S n)≤card S+1:=by
 by_cases hf:ck n=true
 ·obtain⟨h1,h2⟩:=cX.1 hf
  obtain⟨p,rfl⟩:=Int.eq_ofNat_of_zero_le h1
  have hp:p<1024:=by omega
  by_cases hb:S.getLsbD p=true
  ·have:ins S (p:Int)=S:=bI fun i=>by rw[aL S hp];exact⟨fun h=>h.elim id fun h=>by rw[h];exact hb,.inl⟩
   rw[this];omega
  ·have h1:card (ins (0:BS) (p:Int))=1:=fV (p:=p) fun i=>by
    rw[aL 0 hp];exact⟨fun h=>h.elim (fun h=>absurd h (aN i)) id,.inr⟩
   rw[iH (S:=S) (T:=ins 0 (p:Int)) (U:=ins S (p:Int)) (fun i=>by
    rw[aL S hp,aL 0 hp]
    exact⟨fun h=>h.imp id .inr,fun h=>h.imp id fun h=>h.elim (fun h=>absurd h (aN i)) id⟩) (fun i hi=>by
    rw[aL 0 hp] at hi
    obtain⟨h3,h4⟩:=hi
    rcases h4 with h4|h4
    ·exact aN i h4
    ·rw[h4] at h3;exact hb h3),h1]
   exact Nat.le_refl _
 ·rw[ins,if_neg hf];omega
theorem yE (l:List Int):∀S:BS,card (l.foldl ins S)≤card S+l.length:=by
 induction l with
 | nil=>intro S;rw[List.foldl_nil,List.length_nil,Nat.add_zero];exact Nat.le_refl _
 | cons n l ih=>
  intro S
  have h1:=ih (ins S n)
  have h2:=yD S n
  rw[List.foldl_cons,List.length_cons];omega
theorem qB (g:GT):card (ai g.1)≤g.1.length:=by
 have h0:card ((g.1.map (·.1)).foldl ins 0)≤card (0:BS)+(g.1.map (·.1)).length:=yE _ 0
 rw[List.length_map,eh,Nat.zero_add] at h0
 exact h0
theorem qC {g:GT}(G:Gr.Ok g)(hl:g.1.length≤12){all:BS}(ha:∀i,all.getLsbD i=true→(ai g.1).getLsbD i=true):Sml (nbA g) all:=
 xU (V:=ai g.1) (fun i j h=>(((bN G).1 h).inn G).2.1) (Nat.le_trans (qB g) hl) ha
def me (g:GT):Bool:=decide (g.1.Pairwise fun x y=>lt1 x.1 y.1=true)&&decide (g.2.Pairwise fun x y=>lt2 x.1 y.1=true)&&g.1.all (fun x=>bY x.1&&decide (0≤x.2.1∧x.2.1<256) && !Gr.heavy x.2.2) &&
 g.2.all (fun x=>decide (x.1.1<x.1.2)&&inV g.1 x.1.1&&inV g.1 x.1.2&&decide (0≤x.2.1∧x.2.1<256) && !Gr.heavy x.2.2)&&decide (g.2.length≤1024)
theorem yF {g:GT}(h:me g=true):Gr.Ok g:=by
 simp only[me,Bool.and_eq_true,decide_eq_true_eq,List.all_eq_true,Bool.not_eq_true'] at h
 obtain⟨⟨⟨⟨h1,h2⟩,h3⟩,h4⟩,h5⟩:=h
 exact⟨h1,h2,fun x hx=>by have:=h3 x hx;exact⟨this.1.1,this.1.2,this.2⟩,fun x hx=>by have:=h4 x hx;exact⟨this.1.1.1.1,this.1.1.1.2,this.1.1.2,this.1.2,this.2⟩,h5⟩
theorem yG:(List.range 12).all (fun i=>me (ap (i+3)))=true:=by decide +kernel
theorem yH {n:Nat}(h3:3≤n)(hn:n≤14):Gr.Ok (ap n):=by
 have h:=List.all_eq_true.1 yG (n - 3) (List.mem_range.2 (by omega))
 rw[show n - 3+3=n by omega] at h
 exact yF h
def l4:List (Int×BS):=[(0,10#1024),(1,5#1024),(2,10#1024),(3,5#1024)]
def s02:BS:=[(0:Int),2].foldl ins 0
def s0:BS:=[(0:Int)].foldl ins 0
def yI:BS:=[(2:Int),3].foldl ins 0
theorem nb4:nbL (ap 4) (elems (ai (ap 4).1))=l4:=by decide +kernel
theorem v4:ai (ap 4).1=15#1024:=by decide +kernel
theorem na4:nbA (ap 4)=lkS l4:=by rw[nbA,nb4]
theorem w4':rsR (lkS l4) 15#1024 0=2:=by decide +kernel
theorem w4:rsR (nbA (ap 4)) (ai (ap 4).1) 0=2:=by rw[na4,v4];exact w4'
theorem p4':rsR (lkS l4) s02 0=2:=by decide +kernel
theorem p4:rsR (nbA (ap 4)) s02 0=2:=by rw[na4];exact p4'
theorem q4:s02 &&& ~~~(ai (ap 4).1)=0:=by decide +kernel
theorem r4:yx (ap 4) s0 1=yI:=by decide +kernel
theorem qE {P:Program}{w0:World}{L:Env}{dst:Option Tmp}{ty:TypeId}{pos:String}{aft:Array Edge}{g:Option (Nat×Bool)}{x y:Operand}{t yt e:TypeId}{S T:BS}(ht:P.underlying t=some (.array 16 e))(he:P.underlying e=some (.int .u64))(hs:TI P e false 1)(hm:P.eqGuardType P.depth t=false)(hx:opd L x=some (E (ah S)))(hy:opd L y=some (E (ah T))) :
  OpC P w0 L ⟨dst,.binOp .eql t x y yt,ty,pos,aft,g⟩ (E (.bool (S==T))):=
 iV hx hy (fun w=>ji _ _ _ _ _ _ hm w) rfl fun w _=>by
  rw[← kY]
  exact kW ht he hs 9998 (ak S) (ak T) w
end Go.Mono
namespace Go.Ms
inductive Pt (adj:Nat→Nat→Prop)(P:Nat→Prop)(a:Nat):Nat→Prop
 | one {b:Nat}:adj a b→Pt adj P a b
 | step {y b:Nat}:Pt adj P a y→P y→adj y b→Pt adj P a b
section
variable {adj adj':Nat→Nat→Prop}{P Q:Nat→Prop}{a b y:Nat}
theorem Pt.mono (h:Pt adj P a b)(hP:∀y,P y→Q y):Pt adj Q a b:=by
 induction h with
 | one h=>exact .one h
 | step _ h1 h2 ih=>exact .step ih (hP _ h1) h2
theorem Pt.trans (h:Pt adj P a y)(hy:P y)(k:Pt adj P y b):Pt adj P a b:=by
 induction k with
 | one h1=>exact .step h hy h1
 | step _ h1 h2 ih=>exact .step ih h1 h2
theorem Pt.symm (hs:∀a b,adj a b→adj b a)(h:Pt adj P a b):Pt adj P b a:=by
 induction h with
 | one h=>exact .one (hs _ _ h)
 | step _ h1 h2 ih=>exact (Pt.one (hs _ _ h2)).trans h1 ih
theorem Pt.split (h:Pt adj P a b):Pt adj (fun y=>P y∧Q y) a b∨∃y,P y∧¬Q y∧Pt adj (fun y=>P y∧Q y) a y∧Pt adj P y b:=by
 induction h with
 | one h=>exact .inl (.one h)
 | @step y b h h1 h2 ih=>
  rcases ih with ih|⟨z,z1,z2,z3,z4⟩
  ·by_cases hq:Q y
   ·exact .inl (.step ih ⟨h1,hq⟩ h2)
   ·exact .inr ⟨y,h1,hq,ih,.one h2⟩
  ·exact .inr ⟨z,z1,z2,z3,.step z4 h1 h2⟩
end
structure Run (adj:Nat→Nat→Prop)(n:Nat)(u:Nat→Nat)(R:Nat→Nat→Prop)(cnt:Nat→Nat→Nat):Prop where
 sym:∀a b,adj a b→adj b a
 inn:∀a b,adj a b→R 0 a
 mem:∀k,k<n→R k (u k)
 next:∀k,k<n→∀v,R (k+1) v↔R k v∧v≠u k
 all:∀v,¬R n v
 out:∀k,n≤k→∀v,R k v→R n v
 best:∀k,k<n→∀v,R k v→cnt k v≤cnt k (u k)
 yes:∀k,k<n→∀v,R (k+1) v→Pt adj (fun y=>R (k+1) y∧cnt k y<cnt k v) (u k) v→cnt (k+1) v=cnt k v+1
 no:∀k,k<n→∀v,R (k+1) v→¬Pt adj (fun y=>R (k+1) y∧cnt k y<cnt k v) (u k) v→cnt (k+1) v=cnt k v
def Rc (adj:Nat→Nat→Prop)(u:Nat→Nat)(R:Nat→Nat→Prop)(cnt:Nat→Nat→Nat)(k v:Nat):Prop:=R (k+1) v∧Pt adj (fun y=>R (k+1) y∧cnt k y<cnt k v) (u k) v
def Hd (adj:Nat→Nat→Prop)(n:Nat)(u:Nat→Nat)(R:Nat→Nat→Prop)(cnt:Nat→Nat→Nat)(a b:Nat):Prop:=(∃k,k<n∧a=u k∧Rc adj u R cnt k b)∨∃k,k<n∧b=u k∧Rc adj u R cnt k a
section
variable {adj:Nat→Nat→Prop}{n:Nat}{u:Nat→Nat}{R:Nat→Nat→Prop}{cnt:Nat→Nat→Nat}(H:Run adj n u R cnt)
include H
theorem Run.sub {k m:Nat}(hkm:k≤m)(hm:m≤n){v:Nat}(h:R m v):R k v:=by
 induction m with
 | zero=>rw[Nat.le_zero.1 hkm];exact h
 | succ m ih=>
  rcases Nat.eq_or_lt_of_le hkm with e|e
  ·rw[e];exact h
  ·exact ih (by omega) (by omega) ((H.next m (by omega) v).1 h).1
theorem Run.off {k v:Nat}(hk:n≤k):¬R k v:=by
 intro h
 exact H.all v (H.out k hk v h)
theorem Run.ge {k v:Nat}(hk:k<n)(h:R (k+1) v):cnt k v≤cnt (k+1) v∧cnt (k+1) v≤cnt k v+1:=by
 by_cases hp:Pt adj (fun y=>R (k+1) y∧cnt k y<cnt k v) (u k) v
 ·rw[H.yes k hk v h hp];omega
 ·rw[H.no k hk v h hp];omega
theorem Run.stay {C:Nat→Prop}{z:Nat}{k:Nat}(hC:∀x,C x→R k x∧cnt k x<cnt k z∧Pt adj C x z):∀m,k≤m→m≤n→R m z→∀x,C x→R m x∧cnt m x<cnt m z:=by
 intro m hkm
 induction m with
 | zero=>
  intro hm hz x hx
  have:=hC x hx
  rw[Nat.le_zero.1 hkm] at this
  exact⟨this.1,this.2.1⟩
 | succ m ih=>
  intro hm hz x hx
  rcases Nat.eq_or_lt_of_le hkm with e|e
  ·have:=hC x hx
   rw[e] at this
   exact⟨this.1,this.2.1⟩
  ·have hm':m<n:=by omega
   obtain⟨hz1,hz2⟩:=(H.next m hm' z).1 hz
   have ih:=ih (by omega) (by omega) hz1
   have hin:∀y,C y→R (m+1) y:=fun y hy=>(H.next m hm' y).2 ⟨(ih y hy).1,fun e=>by
    have h1:=(ih y hy).2
    have h2:=H.best m hm' z hz1
    rw[e] at h1;omega⟩
   refine⟨hin x hx,?_⟩
   have hx2:=(ih x hx).2
   have gz:=H.ge hm' hz
   by_cases hp:Pt adj (fun y=>R (m+1) y∧cnt m y<cnt m x) (u m) x
   ·have h1:=H.yes m hm' x (hin x hx) hp
    have hzp:Pt adj (fun y=>R (m+1) y∧cnt m y<cnt m z) (u m) z:=
     (hp.mono fun y hy=>⟨hy.1,by omega⟩).trans ⟨hin x hx,hx2⟩ ((hC x hx).2.2.mono fun y hy=>⟨hin y hy,(ih y hy).2⟩)
    rw[h1,H.yes m hm' z hz hzp];omega
   ·rw[H.no m hm' x (hin x hx) hp];omega
theorem Run.over {S:Nat→Prop}{b z k m:Nat}(hkm:k≤m)(hm:m≤n)(hb:R k b)(hS:∀y,S y→R k y)(hz:R m z)(hlt:cnt k b<cnt k z)(hp:Pt adj (fun y=>S y∧cnt k y≤cnt k b) b z):R m b:=by
 have hp':=hp
 let C:Nat→Prop:=fun x=>x=b∨(S x∧cnt k x≤cnt k b∧Pt adj (fun y=>S y∧cnt k y≤cnt k b) x z)
 have key:∀x,Pt adj (fun y=>S y∧cnt k y≤cnt k b) x z→Pt adj C x z:=by
  intro x hx
  have hx:=hx.symm H.sym
  refine Pt.symm H.sym ?_
  clear hp hp'
  have gen:∀w,Pt adj (fun y=>S y∧cnt k y≤cnt k b) z w→Pt adj C z w:=by
   intro w hw
   induction hw with
   | one h=>exact .one h
   | step h1 h2 h3 ih=>exact .step ih (.inr ⟨h2.1,h2.2,h1.symm H.sym⟩) h3
  exact gen x hx
 have:=H.stay (C:=C) (z:=z) (k:=k) (fun x hx=>by
  rcases hx with rfl|⟨h1,h2,h3⟩
  ·exact⟨hb,hlt,key _ hp⟩
  ·exact⟨hS x h1,by omega,key _ h3⟩) m hkm hm hz b (.inl rfl)
 exact this.1
theorem Run.ne {i j:Nat}(hi:i<j)(hj:j≤n):¬R j (u i):=fun h=>by
 have:=H.sub (show i+1≤j by omega) hj h
 exact ((H.next i (by omega) _).1 this).2 rfl
theorem Run.elim {i j:Nat}(hij:i<j)(hj:j<n):Rc adj u R cnt i (u j)↔Pt adj (R (j+1)) (u i) (u j):=by
 have hRj:R (i+1) (u j):=H.sub (show i+1≤j by omega) (by omega) (H.mem j hj)
 constructor
 ·rintro⟨h1,h2⟩
  let C:Nat→Prop:=fun x=>R (i+1) x∧cnt i x<cnt i (u j)∧Pt adj (fun y=>R (i+1) y∧cnt i y<cnt i (u j)) x (u j)
  have key:∀x,Pt adj (fun y=>R (i+1) y∧cnt i y<cnt i (u j)) (u j) x→Pt adj C (u j) x:=by
   intro x hx
   induction hx with
   | one h=>exact .one h
   | step h1 h2 h3 ih=>exact .step ih ⟨h2.1,h2.2,h1.symm H.sym⟩ h3
  have hy:=H.yes i (by omega) _ hRj h2
  have st:=H.stay (C:=C) (z:=u j) (k:=i+1) (fun x hx=>by
   refine⟨hx.1,?_,(key x (hx.2.2.symm H.sym)).symm H.sym⟩
   have:=(H.ge (show i<n by omega) hx.1).2
   have:=hx.2.1
   omega) j (by omega) (by omega) (H.mem j hj)
  have hC:∀x,C x→R (j+1) x:=fun x hx=>(H.next j hj x).2 ⟨(st x hx).1,fun e=>by have:=(st x hx).2;rw[e] at this;omega⟩
  exact ((key _ (h2.symm H.sym)).symm H.sym).mono hC
 ·intro hp
  refine Classical.byContradiction fun hno=>?_
  have hsub:∀y,R (j+1) y→R (i+1) y:=fun y hy=>H.sub (by omega) (by omega) hy
  have hnp:¬Pt adj (fun y=>R (i+1) y∧cnt i y<cnt i (u j)) (u i) (u j):=fun h=>hno ⟨hRj,h⟩
  have hcn:=H.no i (by omega) _ hRj hnp
  rcases hp.split (Q:=fun y=>cnt i y<cnt i (u j)) with h|⟨y,y1,y2,y3,y4⟩
  ·exact hnp (h.mono fun y hy=>⟨hsub y hy.1,hy.2⟩)
  ·have hy:=H.yes i (by omega) y (hsub y y1) (y3.mono fun z hz=>⟨hsub z hz.1,by have:=hz.2;omega⟩)
   have hlt:cnt (i+1) (u j)<cnt (i+1) y:=by omega
   rcases (y4.symm H.sym).split (Q:=fun z=>cnt (i+1) z≤cnt (i+1) (u j)) with h|⟨z,z1,z2,z3,z4⟩
   ·exact H.ne (Nat.lt_succ_self j) (by omega) (H.over (m:=j+1) (by omega) (by omega) hRj hsub y1 hlt h)
   ·exact H.ne (Nat.lt_succ_self j) (by omega) (H.over (m:=j+1) (by omega) (by omega) hRj hsub z1 (by omega) z3)
theorem Run.at {k v:Nat}(h:R k v):∃l,k≤l∧l<n∧v=u l:=by
 by_cases hk:k<n
 ·by_cases hv:v=u k
  ·exact⟨k,Nat.le_refl _,hk,hv⟩
  ·obtain⟨l,h1,h2,h3⟩:=Run.at (k:=k+1) ((H.next k hk v).2 ⟨h,hv⟩)
   exact⟨l,by omega,h2,h3⟩
 ·have hk:n≤k:=by omega
  exact absurd h (H.off hk)
termination_by n - k
theorem Run.edge1 {k j y:Nat}(hkj:k≤j)(hj:j<n)(h:Rc adj u R cnt j y):Pt adj (fun c=>R (j+1) c∧cnt k c≤cnt k y∧cnt k c≤cnt k (u j)) y (u j):=by
 obtain⟨l,h1,h2,rfl⟩:=H.at h.1
 have hE:=((H.elim (show j<l by omega) h2).1 h).symm H.sym
 have hS:∀c,R (l+1) c→R k c:=fun c hc=>H.sub (by omega) (by omega) hc
 have hRl:R k (u l):=H.sub (by omega) (by omega) (H.mem l h2)
 have hRj:R k (u j):=H.sub hkj (by omega) (H.mem j hj)
 rcases hE.split (Q:=fun c=>cnt k c≤cnt k (u l)) with hp|⟨z,z1,z2,z3,_⟩
 ·rcases (hp.symm H.sym).split (Q:=fun c=>cnt k c≤cnt k (u j)) with hq|⟨z,z1,z2,z3,_⟩
  ·exact (hq.symm H.sym).mono fun c hc=>⟨H.sub (show j+1≤l+1 by omega) (by omega) hc.1.1,hc.1.2,hc.2⟩
  ·exact absurd (H.over (m:=l+1) (by omega) (by omega) hRj hS z1.1 (by omega) (z3.mono fun c hc=>⟨hc.1.1,hc.2⟩)) (H.ne (by omega) (by omega))
 ·exact absurd (H.over (m:=l+1) (by omega) (by omega) hRl hS z1 (by omega) z3) (H.ne (by omega) (by omega))
theorem Run.edge {k m y z:Nat}(hkm:k≤m)(hy:R m y)(hz:R m z)(h:Hd adj n u R cnt y z):Pt adj (fun c=>R m c∧cnt k c≤cnt k y∧cnt k c≤cnt k z) y z:=by
 have low:∀j,j<n→R m (u j)→m≤j:=fun j hj hr=>Nat.le_of_not_lt fun hlt=>by
  by_cases hm:m≤n
  ·exact H.ne hlt hm hr
  ·exact H.off (by omega) hr
 rcases h with ⟨j,hj,rfl,h⟩|⟨j,hj,rfl,h⟩
 ·have:=low j hj hy
  exact ((H.edge1 (k:=k) (by omega) hj h).symm H.sym).mono fun c hc=>⟨H.sub (show m≤j+1 by omega) (by omega) hc.1,hc.2.2,hc.2.1⟩
 ·have:=low j hj hz
  exact (H.edge1 (k:=k) (by omega) hj h).mono fun c hc=>⟨H.sub (show m≤j+1 by omega) (by omega) hc.1,hc.2.1,hc.2.2⟩
theorem Run.inj {i j:Nat}(hi:i<n)(hj:j<n)(h:u i=u j):i=j:=by
 rcases Nat.lt_trichotomy i j with h1|h1|h1
 ·exact absurd (by rw[h];exact H.mem j hj) (H.ne h1 (by omega))
 ·exact h1
 ·exact absurd (by rw[← h];exact H.mem i hi) (H.ne h1 (by omega))
theorem Run.perf {i j l:Nat}(hij:i<j)(hjl:j<l)(hl:l<n)(h1:Rc adj u R cnt i (u l))(h2:Rc adj u R cnt j (u l)):Rc adj u R cnt i (u j):=by
 refine (H.elim hij (by omega)).2 ?_
 have p1:=(H.elim (show i<l by omega) hl).1 h1
 have p2:=(H.elim hjl hl).1 h2
 have hs:∀c,R (l+1) c→R (j+1) c:=fun c hc=>H.sub (by omega) (by omega) hc
 exact (p1.mono hs).trans (H.sub (show j+1≤l by omega) (by omega) (H.mem l hl)) ((p2.mono hs).symm H.sym)
theorem Run.hd {k v:Nat}(hk:k<n)(hv:R (k+1) v)(h:Hd adj n u R cnt (u k) v):Rc adj u R cnt k v:=by
 rcases h with ⟨j,hj,e,h⟩|⟨j,hj,rfl,h⟩
 ·rw[H.inj hk hj e];exact h
 ·have h1:j<k:=Nat.lt_of_not_le fun hle=>H.ne (show k<j+1 by omega) (by omega) h.1
  exact absurd hv (H.ne (show j<k+1 by omega) (by omega))
theorem Run.adj_hd {a b:Nat}(h:adj a b)(hab:a≠b):Hd adj n u R cnt a b:=by
 obtain⟨i,_,hi,rfl⟩:=H.at (H.inn _ _ h)
 obtain⟨j,_,hj,rfl⟩:=H.at (H.inn _ _ (H.sym _ _ h))
 rcases Nat.lt_trichotomy i j with h1|h1|h1
 ·exact .inl ⟨i,hi,rfl,(H.elim h1 hj).2 (.one h)⟩
 ·exact absurd (by rw[h1]) hab
 ·exact .inr ⟨j,hj,rfl,(H.elim h1 hi).2 (.one (H.sym _ _ h))⟩
theorem Run.conv (hir:∀a,¬adj a a){k v:Nat}(hk:k<n):Rc (Hd adj n u R cnt) u R cnt k v↔Rc adj u R cnt k v:=by
 constructor
 ·rintro⟨hv,hp⟩
  refine⟨hv,?_⟩
  have gen:∀y,Pt (Hd adj n u R cnt) (fun y=>R (k+1) y∧cnt k y<cnt k v) (u k) y→R (k+1) y→cnt k y≤cnt k v→Pt adj (fun y=>R (k+1) y∧cnt k y<cnt k v) (u k) y:=by
   intro y hy
   induction hy with
   | one h=>exact fun h1 h2=>(H.hd hk h1 h).2.mono fun c hc=>⟨hc.1,by have:=hc.2;omega⟩
   | @step y b h1 h2 h3 ih=>
    intro k1 k2
    exact (ih h2.1 (by have:=h2.2;omega)).trans h2 ((H.edge (k:=k) (Nat.le_succ k) h2.1 k1 h3).mono fun c hc=>⟨hc.1,by have:=hc.2.1;have:=h2.2;omega⟩)
  exact gen v hp hv (Nat.le_refl _)
 ·rintro⟨hv,hp⟩
  refine⟨hv,.one (.inl ⟨k,hk,rfl,hv,hp⟩)⟩
end
end Go.Ms
namespace Go.Mono
open Go Go.Proofs Go.RowKit Go.Gr
def yJ (g:GT)(W:World)(en:Ending)(w':World):Prop:=
 Ext W w'∧((∃g' bg bv be,cR g.1 g.2=some g'∧en=.returned (.pointer (some ⟨bg,0,none⟩))∧W.heap.size≤bg∧W.heap.size≤bv∧W.heap.size≤be∧GrR w' bg bv be (g.1.length+g.2.length) g')∨(cR g.1 g.2=none∧en=.returned (.pointer none)))
theorem yK {G:Nat→Prop}(g:GT)(v:Value)(W:World)(h:(Dv gtE G g).p v W)(hl1:g.1.length≤100000)(hl2:g.2.length≤100000)(hV:∀x∈g.1,okD (dV x))(hE:∀x∈g.2,okD (dE x)) :
  Calls Tryz.prog 5 #[v] W (yJ g W):=by
 obtain⟨u1,u2,rfl,h1,h2⟩:=Dv.gt.1 (Dv.weak (G':=G0) h fun b _ hb=>hb.elim)
 have h1b:=Dv.toB h1
 have h2b:=Dv.toB h2
 refine enter (args:=[.agg #[u1,u2]]) (As:=[E (.agg #[u1,u2])]) Tryz.func5 rfl Tryz.ntmps5 (Nat.le_of_ble_eq_true rfl) ?_ (fun a hf=>?_) (Nat.le_of_ble_eq_true rfl)
 rotate_left
 dsimp only[params,Nat.reduceAdd] at hf
 rotate_right
 ·exact arg1 rfl
 have e:=Ext.rfl' W
 refine seq ?_
 refine aj ?_
 refine aJ hf rfl (by decide) fun a b1 w v1 hv1 e' hb1 hs1 B1 hf=>?_
 have hle1:=Nat.le_trans e.size (Nat.le_of_eq hb1.symm)
 replace e:=e.tr e'
 refine ae hf rfl (by decide) fun a hf=>?_
 refine aa ?_
 cases hv1
 refine seq ?_
 refine aj ?_
 refine ae hf rfl (by decide) fun a hf=>?_
 refine aa ?_
 refine seq ?_
 refine aj ?_
 refine ae hf rfl (by decide) fun a hf=>?_
 refine aa ?_
 repeat refine seq ?_
 refine aj ?_
 refine ae hf rfl (by decide) fun a hf=>?_
 refine aa ?_
 replace hf:=hf.kp [1,2,3,4,5]
 refine blk (aW (fun r0 a w=>∃(k:Nat) (u:Value),r0=g.1.length - k∧k≤g.1.length∧Fr 48 a w [(1,E (.pointer (some ⟨b1,0,none⟩))),(2,E (.pointer none)),(3,E u),(4,E (.slice none 0 0)),(5,E (I k))]∧Ext W w∧Blk w b1 #[u1,u2] 26∧OwR vtE 55 (b1+1) G0 w (g.1.take k) u) g.1.length ⟨0,.slice none 0 0,rfl,by omega,hf,e,⟨B1,OwR.nil vtE _ (by have:=B1.lt;omega) fun b hb=>hb.elim⟩⟩ ?_)
 clear hf e;try clear B1;try clear Ho
 rintro r0 a w ⟨k,u,rfl,hk,hf,e,B1,Ho⟩
 repeat refine seq ?_
 refine ac 5 hf (by decide +kernel) ?_
 refine st (mv rfl) ?_
 refine st (am U26 rfl T23 (by decide) rfl) ?_
 refine st (ld1 T23 rfl (by assumption) rfl) ?_
 refine st (bi U23 (isE rfl (VA.st _ _ _ _ e h1))) ?_
 refine st (lss rfl rfl) ?_
 refine en fun a w e' hf=>?_
 replace e:=e.tr e'
 replace B1:=B1.ext e'
 replace Ho:=Ho.ext e'
 refine aa ?_
 refine ifc hf rfl (fun hc=>ar ?_) (fun hc=>aR ?_)
 rotate_left
 rotate_left
 ·have hlt:k<g.1.length:=by have:=of_decide_eq_true hc;(try dsimp only at this);omega
  clear hc
  replace hf:=hf.kp [1,2,3,4,5]
  refine seq ?_
  refine blk ?_
  have hg:=List.getElem?_eq_getElem hlt
  generalize g.1[k]=y at hg
  have hlk:=List.length_take_le k g.1
  have n1:=Ho.neLt (b:=b1) (by omega)
  refine ac 7 hf (by decide +kernel) ?_
  refine st (mv rfl) ?_
  refine st (am U26 rfl T23 (by decide) rfl) ?_
  refine st (ld1 T23 rfl B1 rfl) ?_
  refine st (mv rfl) ?_
  refine st (ba U23 S56 (isE rfl (VA.st _ _ _ _ e h1b)) rfl (by omega) (hg)) ?_
  refine st (gy T56 (isR rfl)) ?_
  refine st (bL U53 I55 rfl (by decide) rfl Ho.avs (dJ rfl)) ?_
  refine en fun a w e' hf=>?_
  replace Ho:=Ho.ext e'
  replace e:=e.tr e'
  replace B1:=B1.ext e'
  clear e'
  haveI hin:∀G0,InR (GB W G0) _:=OwR.inGB (W:=W) Ho (by omega)
  refine bQ U53 I55 rfl rfl hf (by decide) rfl Ho (isR rfl) (by simp only[List.length_singleton];omega) (by simp only[List.length_singleton,maxLen];omega) fun a v w hg hat Hn hf=>?_
  replace e:=e.gro hg (Ho.row (W:=W) (by omega))
  have hrow:=Ho.row (W:=W) (by omega)
  replace Ho:=Hn
  clear hrow
  replace B1:=B1.gro hg (by assumption)
  replace Ho:=Hn;clear Hn hg hat hin
  refine ae hf rfl (by decide) fun a hf=>?_
  refine aa ?_
  simp only[Exit.then,Exit.inBlock,↓reduceIte]
  refine ac 2 hf (by decide +kernel) ?_
  refine st (mv rfl) ?_
  refine st ((add rfl rfl (by omega)).eq (congrArg (Value.int .i64) (show (k:Int)+1=((k+1:Nat):Int) from rfl))) ?_
  refine en fun a w e' hf=>?_
  replace Ho:=Ho.ext e'
  replace e:=e.tr e'
  replace B1:=B1.ext e'
  refine ae hf rfl (by decide) fun a hf=>?_
  refine aa ?_
  replace hf:=hf.kp [1,2,3,4,5]
  refine⟨_,?_,k+1,_,rfl,by omega,hf,e,?_⟩
  ·omega
  rw[dh hg]
  exact⟨B1,Ho⟩
 ·obtain rfl:k=g.1.length:=by have:=of_decide_eq_false hc;(try dsimp only at this);omega
  clear hc
  simp only[Exit.then,Exit.inBlock,↓reduceIte]
  rw[List.take_length] at Ho
  obtain⟨av,nv,cv,rfl⟩:=Dv.slF Ho.sl
  obtain⟨NV,hNV⟩:∃NV:Nat→Prop,NV=fun b=>(Value.slice av nv cv).ownBlock≠some b:=⟨_,rfl⟩
  have HD:(Dv (slE vtE) NV g.1).p (.slice av nv cv) w:=Ho.slN fun b hb=>by rw[hNV];exact fun h=>h hb
  obtain⟨N5,hN5⟩:∃N5,N5=w.heap.size:=⟨_,rfl⟩
  have hN1:b1<N5:=by rw[hN5];exact B1.lt
  have nV:∀bb,N5≤bb→NV bb:=fun bb hb=>by rw[hNV];intro h;have h3:=Ho.lt h;omega
  have hN5s:N5≤w.heap.size:=Nat.le_of_eq hN5
  clear hN5 hNV Ho
  repeat refine seq ?_
  refine aj ?_
  refine ae hf rfl (by decide) fun a hf=>?_
  refine aa ?_
  replace hf:=hf.kp [1,2,3,4,6]
  refine blk (aW (fun r0 a w=>∃(k:Nat) (u:Value),r0=g.2.length - k∧k≤g.2.length∧Fr 48 a w [(1,E (.pointer (some ⟨b1,0,none⟩))),(2,E (.pointer none)),(3,E (.slice av nv cv)),(4,E u),(6,E (I k))]∧Ext W w∧Blk w b1 #[u1,u2] 26∧(Dv (slE vtE) NV g.1).p (.slice av nv cv) w∧OwR etE 36 N5 G0 w (g.2.take k) u∧N5≤w.heap.size) g.2.length ⟨0,.slice none 0 0,rfl,by omega,hf,e,⟨B1,HD,OwR.nil etE _ hN5s fun b hb=>hb.elim,hN5s⟩⟩ ?_)
  clear hf e;try clear B1;try clear HD;try clear Ho;try clear hN5s
  rintro r0 a w ⟨k,u,rfl,hk,hf,e,B1,HD,Ho,hN5s⟩
  repeat refine seq ?_
  refine ac 5 hf (by decide +kernel) ?_
  refine st (mv rfl) ?_
  refine st (am U26 rfl T24 (by decide) rfl) ?_
  refine st (ld1 T24 rfl (by assumption) rfl) ?_
  refine st (bi U24 (isE rfl (VA.st _ _ _ _ e h2))) ?_
  refine st (lss rfl rfl) ?_
  refine en fun a w e' hf=>?_
  replace HD:=VA.st _ _ _ _ e' HD
  replace hN5s:=Nat.le_trans hN5s e'.size
  replace e:=e.tr e'
  replace B1:=B1.ext e'
  replace Ho:=Ho.ext e'
  refine aa ?_
  refine ifc hf rfl (fun hc=>ar ?_) (fun hc=>aR ?_)
  rotate_left
  rotate_left
  ·have hlt:k<g.2.length:=by have:=of_decide_eq_true hc;(try dsimp only at this);omega
   clear hc
   replace hf:=hf.kp [1,2,3,4,6]
   refine seq ?_
   refine blk ?_
   have hg:=List.getElem?_eq_getElem hlt
   generalize g.2[k]=y at hg
   have hlk:=List.length_take_le k g.2
   have n1:=Ho.neLt (b:=b1) (by omega)
   refine ac 7 hf (by decide +kernel) ?_
   refine st (mv rfl) ?_
   refine st (am U26 rfl T24 (by decide) rfl) ?_
   refine st (ld1 T24 rfl B1 rfl) ?_
   refine st (mv rfl) ?_
   refine st (ba U24 S57 (isE rfl (VA.st _ _ _ _ e h2b)) rfl (by omega) (hg)) ?_
   refine st (gA T57 (isR rfl)) ?_
   refine st (bL U31 I36 rfl (by decide) rfl Ho.avs (dq rfl)) ?_
   refine en fun a w e' hf=>?_
   replace HD:=VA.st _ _ _ _ e' HD
   replace hN5s:=Nat.le_trans hN5s e'.size
   replace Ho:=Ho.ext e'
   replace e:=e.tr e'
   replace B1:=B1.ext e'
   clear e'
   haveI hin:∀G0,InR (GB W G0) _:=OwR.inGB (W:=W) Ho (by omega)
   refine bQ U31 I36 rfl rfl hf (by decide) rfl Ho (isR rfl) (by simp only[List.length_singleton];omega) (by simp only[List.length_singleton,maxLen];omega) fun a v w hg hat Hn hf=>?_
   replace e:=e.gro hg (Ho.row (W:=W) (by omega))
   have hrow:=Ho.row (W:=W) (by omega)
   replace HD:=Dv.grN HD hg (fun bb hb=>nV bb (Ho.lt hb).1)
   replace hN5s:=Nat.le_trans hN5s hg.size
   replace Ho:=Hn
   clear hrow
   replace B1:=B1.gro hg (by assumption)
   replace Ho:=Hn;clear Hn hg hat hin
   refine ae hf rfl (by decide) fun a hf=>?_
   refine aa ?_
   simp only[Exit.then,Exit.inBlock,↓reduceIte]
   refine ac 2 hf (by decide +kernel) ?_
   refine st (mv rfl) ?_
   refine st ((add rfl rfl (by omega)).eq (congrArg (Value.int .i64) (show (k:Int)+1=((k+1:Nat):Int) from rfl))) ?_
   refine en fun a w e' hf=>?_
   replace HD:=VA.st _ _ _ _ e' HD
   replace hN5s:=Nat.le_trans hN5s e'.size
   replace Ho:=Ho.ext e'
   replace e:=e.tr e'
   replace B1:=B1.ext e'
   refine ae hf rfl (by decide) fun a hf=>?_
   refine aa ?_
   replace hf:=hf.kp [1,2,3,4,6]
   refine⟨_,?_,k+1,_,rfl,by omega,hf,e,?_⟩
   ·omega
   rw[dh hg]
   exact⟨B1,HD,Ho,hN5s⟩
  ·obtain rfl:k=g.2.length:=by have:=of_decide_eq_false hc;(try dsimp only at this);omega
   clear hc
   simp only[Exit.then,Exit.inBlock,↓reduceIte]
   rw[List.take_length] at Ho
   replace hf:=hf.kp [2,3,4]
   refine seq ?_
   refine ac 2 hf (by decide +kernel) ?_
   refine st (mv rfl) ?_
   refine st (mv rfl) ?_
   refine en fun a w e' hf=>?_
   replace HD:=VA.st _ _ _ _ e' HD
   replace Ho:=Ho.ext e'
   replace e:=e.tr e'
   clear e'
   refine cq (S:=fun b=>False) (F:=fun z w'=>(∃g' bg bv be,cR g.1 g.2=some g'∧z=.tuple #[.pointer (some ⟨bg,0,none⟩),I 0]∧W.heap.size≤bg∧W.heap.size≤bv∧W.heap.size≤be∧GrR w' bg bv be (g.1.length+g.2.length) g')∨(∃c:Int,c≠0∧cR g.1 g.2=none∧z=.tuple #[.pointer none,I c])) hf (by decide) na ?_ fun a z w hc hF hf=>?_
   ·have e40:a.eval (.tmp 40)=.slice av nv cv:=hf.opd (.tmp 40) _ rfl
    have e41:a.eval (.tmp 41)=u:=hf.opd (.tmp 41) _ rfl
    simp only[List.map_toArray,List.map_cons,List.map_nil,e40,e41]
    refine (pj (G:=G0) g.1 g.2 _ _ _ (Dv.weak HD fun b _ hb=>hb.elim) Ho.sl hl1 hl2 hV hE).mono ?_
    rintro en w' ⟨k1,⟨g',bg,bv,be,k2,rfl,k4,k5,k6,k7⟩|⟨c,k2,k3,rfl⟩⟩
    ·exact⟨_,rfl,k1.chg _,.inl ⟨g',bg,bv,be,k2,rfl,Nat.le_trans e.size k4,Nat.le_trans e.size k5,Nat.le_trans e.size k6,k7⟩⟩
    ·exact⟨_,rfl,k1.chg _,.inr ⟨c,k2,k3,rfl⟩⟩
   replace e:=e.ch hc (fun b hb=>hb.elim)
   clear hc HD Ho
   rcases hF with ⟨g',bg,bv,be,k2,rfl,k4,k5,k6,k7⟩|⟨c,k2,k3,rfl⟩
   ·have _:=k2
    refine aB hf (by decide) (mv rfl) fun a w e' hf=>?_
    replace e:=e.tr e'
    replace k7:=k7.ext e'
    clear e'
    refine aB hf (by decide) (exE rfl rfl) fun a w e' hf=>?_
    replace e:=e.tr e'
    replace k7:=k7.ext e'
    clear e'
    refine aB hf (by decide) (exE rfl rfl) fun a w e' hf=>?_
    replace e:=e.tr e'
    replace k7:=k7.ext e'
    refine ae hf rfl (by decide) fun a hf=>?_
    refine ae hf rfl (by decide) fun a hf=>?_
    refine aa ?_
    repeat refine seq ?_
    refine ac 2 hf (by decide +kernel) ?_
    refine st (mv rfl) ?_
    refine st (neq rfl rfl) ?_
    refine en fun a w e' hf=>?_
    replace e:=e.tr e'
    replace k7:=k7.ext e'
    refine aa ?_
    refine ifc hf rfl (fun h=>by cases h) (fun _=>?_)
    refine ar ?_
    simp only[Exit.then,Exit.inBlock,↓reduceIte]
    refine seq ?_
    refine ac 1 hf (by decide +kernel) ?_
    refine st (mv rfl) ?_
    refine en fun a w e' hf=>?_
    replace e:=e.tr e'
    replace k7:=k7.ext e'
    refine ae hf rfl (by decide) fun a hf=>?_
    refine aa ?_
    refine an ?_
    refine az rfl hf rfl ?_
    rintro _ rfl
    exact⟨e,.inl ⟨g',bg,bv,be,k2,rfl,k4,k5,k6,k7⟩⟩
   ·have _:=k2
    refine aB hf (by decide) (mv rfl) fun a w e' hf=>?_
    replace e:=e.tr e'
    clear e'
    refine aB hf (by decide) (exE rfl rfl) fun a w e' hf=>?_
    replace e:=e.tr e'
    clear e'
    refine aB hf (by decide) (exE rfl rfl) fun a w e' hf=>?_
    replace e:=e.tr e'
    refine ae hf rfl (by decide) fun a hf=>?_
    refine ae hf rfl (by decide) fun a hf=>?_
    refine aa ?_
    repeat refine seq ?_
    refine ac 2 hf (by decide +kernel) ?_
    refine st (mv rfl) ?_
    refine st ((neq rfl rfl).eq (congrArg Value.bool (show (c != 0)=true from by simpa using k2))) ?_
    refine en fun a w e' hf=>?_
    replace e:=e.tr e'
    refine aa ?_
    refine ifc hf rfl (fun _=>?_) (fun h=>by cases h)
    refine seq ?_
    refine aj ?_
    refine ae hf rfl (by decide) fun a hf=>?_
    refine aa ?_
    refine an ?_
    simp only[Exit.then,Exit.inBlock]
    refine az rfl hf rfl ?_
    rintro _ rfl
    exact⟨e,.inr ⟨k3,rfl⟩⟩
end Go.Mono
namespace Go.Mono
open Go Go.RowKit
def bC (n:Nat)(f:Nat→Bool):Array Value:=((List.range n).map fun j=>Value.bool (f j)).toArray
theorem mf (n:Nat)(f:Nat→Bool):(bC n f).size=n:=by simp[bC]
theorem qF {n i:Nat}{f:Nat→Bool}(h:i<n):(bC n f)[i]?=some (.bool (f i)):=by simp[bC,h]
theorem yL {n:Nat}{f g:Nat→Bool}(h:∀i,i<n→f i=g i):bC n f=bC n g:=by
 unfold bC
 congr 1
 exact List.map_congr_left fun i hi=>by rw[h i (List.mem_range.1 hi)]
theorem yM (n:Nat)(f:Nat→Bool)(j:Nat)(b:Bool):(bC n f).setIfInBounds j (.bool b)=bC n (fun i=>if i=j then b else f i):=by
 apply Array.ext_getElem?
 intro i
 by_cases hi:i<n
 ·rw[qF hi]
  by_cases hk:i=j
  ·subst hk
   rw[Array.getElem?_setIfInBounds_self_of_lt (by rw[mf];exact hi)]
   simp
  ·rw[Array.getElem?_setIfInBounds_ne (Ne.symm hk),qF hi]
   simp[hk]
 ·rw[Array.getElem?_eq_none (by simp[mf];omega),Array.getElem?_eq_none (by simp[mf];omega)]
def oC (n k:Nat)(rb:Nat→Nat):Array Value:=((List.range n).map fun i=>if i<k then Value.slice (some ⟨rb i,0,none⟩) n n else .slice none 0 0).toArray
theorem mg (n k:Nat)(rb:Nat→Nat):(oC n k rb).size=n:=by simp[oC]
theorem mh {n k i:Nat}{rb:Nat→Nat}(h:i<k)(hk:k≤n):(oC n k rb)[i]?=some (.slice (some ⟨rb i,0,none⟩) n n):=by
 have:i<n:=by omega
 simp[oC,h,this]
def adB (rb:Nat→Nat)(k b:Nat):Nat→Nat:=fun i=>if i=k then b else rb i
theorem yN {n k b:Nat}{rb:Nat→Nat}(hk:k<n):(oC n k rb).setIfInBounds k (.slice (some ⟨b,0,none⟩) n n)=oC n (k+1) (adB rb k b):=by
 apply Array.ext_getElem?
 intro i
 by_cases hi:i<n
 ·by_cases hik:i=k
  ·subst hik
   rw[Array.getElem?_setIfInBounds_self_of_lt (by rw[mg];exact hi),mh (Nat.lt_succ_self _) hi]
   simp[adB]
  ·rw[Array.getElem?_setIfInBounds_ne (Ne.symm hik)]
   by_cases h:i<k
   ·rw[mh h (by omega),mh (show i<k+1 by omega) (by omega)]
    simp[adB,hik]
   ·have h':¬i<k+1:=by omega
    simp[oC,hi,h,h']
 ·rw[Array.getElem?_eq_none (by simp[mg];omega),Array.getElem?_eq_none (by simp[mg];omega)]
structure cA (tr tb:TypeId)(N n k:Nat)(rb:Nat→Nat)(M:Nat→Nat→Bool)(bo:Nat)(w:World):Prop where
 o:Blk w bo (oC n k rb) tr
 r:∀i,i<k→Blk w (rb i) (bC n (M i)) tb
 d:∀i j,i<k→j<k→rb i=rb j→i=j
 lo:N≤bo∧∀i,i<k→N≤rb i
 ty:tr≠tb
section
variable {tr tb:TypeId}{N n k:Nat}{rb:Nat→Nat}{M M':Nat→Nat→Bool}{bo:Nat}{w w':World}
theorem Blk.tyNe {a b:Nat}{cs cs':Array Value}{t t':TypeId}(h:Blk w a cs t)(h':Blk w b cs' t')(ht:t≠t'):a≠b:=by
 rintro rfl
 unfold Blk at h h'
 rw[h] at h'
 cases h';exact ht rfl
theorem cA.gro (h:cA tr tb N n k rb M bo w){row:Option Nat}(hg:w.grownBy w' row)(h0:row≠some bo)(h1:∀i,i<k→row≠some (rb i)):cA tr tb N n k rb M bo w':=
 ⟨(hg.block bo h.o.lt (fun e=>h0 e.symm)).trans h.o,fun i hi=>(hg.block _ (h.r i hi).lt (fun e=>h1 i hi e.symm)).trans (h.r i hi),h.d,h.lo,h.ty⟩
theorem cA.ext (h:cA tr tb N n k rb M bo w)(e:Ext w w'):cA tr tb N n k rb M bo w':=⟨h.o.ext e,fun i hi=>(h.r i hi).ext e,h.d,h.lo,h.ty⟩
theorem cA.congr (h:cA tr tb N n k rb M bo w)(hM:∀i,i<k→∀j,j<n→M i j=M' i j):cA tr tb N n k rb M' bo w:=
 ⟨h.o,fun i hi=>by rw[← yL (hM i hi)];exact h.r i hi,h.d,h.lo,h.ty⟩
theorem cA.add (h:cA tr tb N n k rb M bo w){b:Nat}{f:Nat→Bool}(hb:Blk w b (bC n f) tb)(hn:∀i,i<k→rb i≠b)(hN:N≤b)(hk:k<n)(hg:w.grownBy w' (some bo))(ho:Blk w' bo ((oC n k rb).setIfInBounds k (.slice (some ⟨b,0,none⟩) n n)) tr) :
  cA tr tb N n (k+1) (adB rb k b) (fun i=>if i=k then f else M i) bo w':=by
 refine⟨by rw[← yN hk];exact ho,fun i hi=>?_,fun i j hi hj hij=>?_,⟨h.lo.1,fun i hi=>?_⟩,h.ty⟩
 ·by_cases hik:i=k
  ·subst hik
   simp only[adB,if_true]
   exact hb.gr hg fun e=>h.o.tyNe hb h.ty e.symm
  ·simp only[adB,if_neg hik]
   exact (h.r i (by omega)).gr hg fun e=>h.o.tyNe (h.r i (by omega)) h.ty e.symm
 ·by_cases hik:i=k <;> by_cases hjk:j=k
  ·omega
  ·simp only[adB,if_neg hjk,hik,if_true] at hij
   exact absurd hij.symm (hn j (by omega))
  ·simp only[adB,if_neg hik,hjk,if_true] at hij
   exact absurd hij (hn i (by omega))
  ·simp only[adB,if_neg hik,if_neg hjk] at hij
   exact h.d i j (by omega) (by omega) hij
 ·by_cases hik:i=k
  ·simp only[adB,hik,if_true];exact hN
  ·simp only[adB,if_neg hik];exact h.lo.2 i (by omega)
def upM (M:Nat→Nat→Bool)(i j:Nat)(b:Bool):Nat→Nat→Bool:=fun a c=>if a=i∧c=j then b else M a c
theorem cA.put (h:cA tr tb N n k rb M bo w){i j:Nat}{b:Bool}(hi:i<k)(hg:w.grownBy w' (some (rb i)))(hb:Blk w' (rb i) ((bC n (M i)).setIfInBounds j (.bool b)) tb):cA tr tb N n k rb (upM M i j b) bo w':=by
 refine⟨h.o.gr hg (h.o.tyNe (h.r i hi) h.ty),fun a ha=>?_,h.d,h.lo,h.ty⟩
 by_cases hai:a=i
 ·subst hai
  rw[yM] at hb
  rw[show (upM M a j b a)=fun c=>if c=j then b else M a c from funext fun c=>by simp[upM]]
  exact hb
 ·rw[show upM M i j b a=M a from funext fun c=>by simp[upM,hai]]
  exact (h.r a ha).gr hg fun e=>hai (h.d a i ha hi e)
theorem cA.ne (h:cA tr tb N n k rb M bo w){b:Nat}{cs:Array Value}{t:TypeId}(hb:Blk w b cs t)(h1:t≠tr)(h2:t≠tb):b≠bo∧∀i,i<k→b≠rb i:=
 ⟨hb.tyNe h.o h1,fun i hi=>hb.tyNe (h.r i hi) h2⟩
end
end Go.Mono
namespace Go.Mono
open Go Go.Proofs Go.RowKit Go.Gr

theorem qG:∀(l m:List Int),l.Nodup→(∀x∈l,x∈m)→l.length≤m.length
 | [],m,_,_=>Nat.zero_le _
 | x::l,m,hn,hs=>by
  have hx:=hs x (List.mem_cons_self ..)
  have h1:=qG l (m.erase x) (List.nodup_cons.1 hn).2 fun y hy=>(List.mem_erase_of_ne (fun h=>(List.nodup_cons.1 hn).1 (by rw[← h];exact hy))).2 (hs y (List.mem_cons_of_mem _ hy))
  have h2:=List.length_erase_of_mem hx
  have h3:=List.length_pos_of_mem hx
  rw[List.length_cons];omega
inductive RV (nbr:Int→List Int)(th:List Int)(v:Int):Int→Prop
 | one {u:Int}:u∈nbr v→RV nbr th v u
 | step {t u:Int}:RV nbr th v t→t∈th→u∈nbr t→RV nbr th v u
def eV (s:List Int)(x:Int):List Int:=if x∈s then s else s++[x]
def addL (s l:List Int):List Int:=l.foldl eV s
theorem yO (s:List Int)(x:Int):∃t,eV s x=s++t:=by
 unfold eV;split
 ·exact⟨[],(List.append_nil _).symm⟩
 ·exact⟨[x],rfl⟩
theorem qH:∀(l s:List Int),∃t,addL s l=s++t
 | [],s=>⟨[],(List.append_nil _).symm⟩
 | x::l,s=>by
  obtain⟨t,h⟩:=yO s x
  obtain⟨t',h'⟩:=qH l (eV s x)
  exact⟨t++t',by rw[← List.append_assoc,← h];exact h'⟩
theorem yP {s:List Int}{x y:Int}:y∈eV s x↔y∈s∨y=x:=by
 unfold eV;split
 ·rename_i h
  exact⟨.inl,fun hh=>hh.elim id fun e=>e▸h⟩
 ·rw[List.mem_append,List.mem_singleton]
theorem gL {y:Int}:∀(l s:List Int),y∈addL s l↔y∈s∨y∈l
 | [],s=>by simp[addL]
 | x::l,s=>by
  rw[show addL s (x::l)=addL (eV s x) l from rfl,gL l,yP,List.mem_cons,or_assoc]
theorem yQ {s:List Int}{x:Int}(h:s.Nodup):(eV s x).Nodup:=by
 unfold eV;split
 ·exact h
 ·rename_i hx
  rw[List.nodup_append]
  exact⟨h,by simp,fun a ha b hb e=>hx (by rw[List.mem_singleton] at hb;rw[← hb,← e];exact ha)⟩
theorem qI:∀(l s:List Int),s.Nodup→(addL s l).Nodup
 | [],s,h=>h
 | x::l,s,h=>qI l _ (yQ h)
structure RcI (ids:List Int)(nbr:Int→List Int)(th:List Int)(v:Int)(sn:List Int)(k:Nat):Prop where
 nd:sn.Nodup
 vin:v∈sn
 sub:∀x∈sn,x∈ids
 rch:∀x∈sn,x=v∨RV nbr th v x
 cl:∀j,j<k→∀x,sn[j]?=some x→(x=v∨x∈th)→∀y∈nbr x,y∈sn
section
variable {ids th sn:List Int}{nbr:Int→List Int}{v x:Int}{k:Nat}
theorem RcI.len (h:RcI ids nbr th v sn k):sn.length≤ids.length:=qG _ _ h.nd h.sub
theorem RcI.zero (hv:v∈ids):RcI ids nbr th v [v] 0:=
 ⟨by simp,by simp,fun x hx=>by rw[List.mem_singleton.1 hx];exact hv,fun x hx=>.inl (List.mem_singleton.1 hx),fun j hj=>by omega⟩
theorem RcI.skip (h:RcI ids nbr th v sn k)(hx:sn[k]?=some x)(hn:¬(x=v∨x∈th)):RcI ids nbr th v sn (k+1):=
 ⟨h.nd,h.vin,h.sub,h.rch,fun j hj y hy hyy=>by
  by_cases hjk:j=k
  ·subst hjk;rw[hx] at hy;cases hy;exact absurd hyy hn
  ·exact h.cl j (by omega) y hy hyy⟩
theorem RcI.step (h:RcI ids nbr th v sn k)(hs:∀a,∀y∈nbr a,y∈ids)(hx:sn[k]?=some x)(hn:x=v∨x∈th):RcI ids nbr th v (addL sn (nbr x)) (k+1):=by
 obtain⟨t,ht⟩:=qH (nbr x) sn
 have hkl:k<sn.length:=(List.getElem?_eq_some_iff.1 hx).1
 refine⟨qI _ _ h.nd,(gL _ _).2 (.inl h.vin),fun y hy=>?_,fun y hy=>?_,fun j hj y hy hyy z hz=>?_⟩
 ·exact ((gL _ _).1 hy).elim (h.sub y) (hs x y)
 ·rcases (gL _ _).1 hy with hy|hy
  ·exact h.rch y hy
  ·rcases h.rch x (List.mem_of_getElem? hx) with rfl|hr
   ·exact .inr (.one hy)
   ·rcases hn with rfl|hn
    ·exact .inr (.one hy)
    ·exact .inr (.step hr hn hy)
 ·rw[ht,List.getElem?_append_left (by omega)] at hy
  by_cases hjk:j=k
  ·subst hjk;rw[hx] at hy;cases hy;exact (gL _ _).2 (.inr hz)
  ·exact (gL _ _).2 (.inl (h.cl j (by omega) y hy hyy z hz))
theorem RcI.done (h:RcI ids nbr th v sn k)(hk:sn.length≤k):x∈sn↔x=v∨RV nbr th v x:=by
 have hc:∀a∈sn,(a=v∨a∈th)→∀y∈nbr a,y∈sn:=fun a ha=>by
  obtain⟨j,hj,hja⟩:=List.getElem_of_mem ha
  exact h.cl j (by omega) a (by rw[List.getElem?_eq_getElem hj,hja])
 refine⟨h.rch x,?_⟩
 rintro (rfl|hr)
 ·exact h.vin
 ·induction hr with
  | one h1=>exact hc _ h.vin (.inl rfl) _ h1
  | step _ ht hu ih=>exact hc _ ih (.inr ht) _ hu
end

section
variable {g:GT}
theorem fX (G:Gr.Ok g):∀i j:Nat,(nbA g (i:Int)).getLsbD j=true→(nbA g (j:Int)).getLsbD i=true:=fun i j h=>(bN G).2 ((bN G).1 h).symm
end
theorem jL (V:BS)(i:Nat):(V &&& ~~~(0:BS)).getLsbD i=true↔V.getLsbD i=true:=by
 rw[aP]
 exact⟨fun h=>h.1,fun h=>⟨h,aN i⟩⟩
theorem yR (V:BS):V &&& ~~~(0:BS)=V:=bI (jL V)
section
variable {g:GT}
theorem qJ (G:Gr.Ok g)(hl:g.1.length≤12):(cZ g).Nodup∧(∀i,i∈cZ g↔(ai g.1).getLsbD i=true)∧cw (nbA g) 0 (cZ g)=rsR (nbA g) (ai g.1) 0:=by
 have hs:=qC G hl (all:=ai g.1) fun i h=>h
 have hb:=iJ (nb:=nbA g) (all:=ai g.1) 0
 obtain⟨h1,h2,h3⟩:=xX hs hb.1 (card (ai g.1)) 0 (by rw[yR]) (Int.le_refl _)
 have h2':∀i,i∈cZ g↔(ai g.1).getLsbD i=true:=fun i=>by rw[cZ,h2,jL]
 have h4:=jC (nb:=nbA g) (all:=ai g.1) (cZ g) 0 h1 fun i=>by rw[h2',jL]
 refine⟨h1,h2',?_⟩
 have h3':cw (nbA g) 0 (cZ g)≤rsR (nbA g) (ai g.1) 0:=h3
 omega
end
end Go.Mono
namespace Go.Mono
open Go Go.Proofs Go.RowKit

def yS (l:List Nat):List Int:=l.map fun i:Nat=>(i:Int)
structure AqJ (W:World)(N b2 B:Nat)(s:List Nat)(w:World):Prop where
 e:Ext W w
 t:Tab w
 p:∃u,Blk w b2 #[u] 39∧OwR aA 3 N G0 w (yS s) u∧∀g,u.ownBlock=some g→¬aT B g
theorem AqJ.kp {W:World}{N b2 B:Nat}{s:List Nat}{w w':World}(h:AqJ W N b2 B s w)(k:Kp B w w')(hW:W.heap.size≤B)(h0:0<B)(l2:b2<B):AqJ W N b2 B s w':=by
 obtain⟨u,q1,q2,q3⟩:=h.p
 exact⟨h.e.kp k hW,h.t.kp k h0,⟨u,q1.kp k (fun hh=>by have:=hh.1;omega),q2.chE k.chg q3,q3⟩⟩
def eW (w:World):List (Nat×Array Value×TypeId)→Prop
 | []=>True
 | x::K=>Blk w x.1 x.2.1 x.2.2∧eW w K
def LtL (B:Nat):List (Nat×Array Value×TypeId)→Prop
 | []=>True
 | x::K=>x.1<B∧LtL B K
theorem eW.kp {B:Nat}{w w':World}(k:Kp B w w'):∀{K:List (Nat×Array Value×TypeId)},eW w K→LtL B K→eW w' K
 | [],_,_=>trivial
 | x::K,h,l=>⟨h.1.kp k (fun hh=>by have:=hh.1;have:=l.1;omega),eW.kp k h.2 l.2⟩
theorem eW.lt {w:World}:∀{K:List (Nat×Array Value×TypeId)},eW w K→LtL w.heap.size K
 | [],_=>trivial
 | x::K,h=>⟨h.1.lt,eW.lt h.2⟩
structure RJ (W:World)(fs:List BS)(fv:Value)(K:List (Nat×Array Value×TypeId))(D:List Nat)(w:World):Prop where
 e:Ext W w
 t:Tab w
 hv:(Dv (slE aX) (GB W G0) fs).p fv w
 bl:eW w K
 ds:Ds D w
theorem RJ.kp {W:World}{fs:List BS}{fv:Value}{K:List (Nat×Array Value×TypeId)}{D:List Nat}{B:Nat}{w w':World}(h:RJ W fs fv K D w)(k:Kp B w w')(hW:W.heap.size≤B)(h0:0<B)(hK:LtL B K)(hD:∀d∈D,d<B):RJ W fs fv K D w':=
 ⟨h.e.kp k hW,h.t.kp k h0,Dv.ch h.hv k.chg (fun b hb=>.inr (by have:=hb.1;omega)),h.bl.kp k hK,h.ds.ch k.chg fun d hd hh=>by have:=hh.1;have:=hD d hd;omega⟩

def qK (fs:List BS)(s:List Nat):BS:=s.foldl (fun r n=>r ||| sg fs n) 0
def bJ (fs:List BS)(part:BS):BS:=qK fs (elems part) &&& ~~~part

end Go.Mono
namespace Go.Mono
def partsB (fs:List BS)(left:BS):List BS:=(er fs (1+fs.length) left).getD []
def mostB (fs:List BS)(part:BS)(n:Nat):Nat:=(partsB fs (del part (n:Int))).foldl (fun m C=>max m (card C)) 0
def fY (fs:List BS)(part:BS)(s:Int×Int)(n:Nat):Int×Int:=if s.1<0∨(mostB fs part n:Int)<s.2 then ((n:Int),(mostB fs part n:Int)) else s
def qL (fs:List BS)(part:BS)(s:List Nat):Int×Int:=s.foldl (fY fs part) (-1,0)
def cenB (fs:List BS)(part:BS):Nat:=(qL fs part (elems part)).1.toNat

def fZ (fs:List BS)(part:BS)(to:Nat):Nat→BS→Nat→Option BS
 | 0,r,x=>if x=to then some r else none
 | f+1,r,x=>if x=to then some r else
   oEl ((elems ((sg fs x &&& part) &&& ~~~r)).find? fun n=>(compB fs (del part (x:Int)) n).getLsbD to) none fun n=>fZ fs part to f (ins r (n:Int)) n
def dw (fs:List BS)(part:BS)(x y:Nat):BS:=(fZ fs part y (1+fs.length) (ins 0 (x:Int)) x).getD 0
def cN (fs:List BS)(part:BS)(n:Nat):Nat:=(bd (sg fs n &&& part)).getD 0
def jM (fs:List BS)(part between:BS)(c n:Nat):Bool:=between.getLsbD n&&decide (card (dw fs part c n &&& between)=1)
def gM (fs:List BS)(part out:BS):Nat:=
 if card out<2 then cenB fs part
 else match (elems out).map (cN fs part) with
  | e0::e1::_=>((elems (dw fs part (cenB fs part) e0)).find? (jM fs part (dw fs part e0 e1) (cenB fs part))).getD (cenB fs part)
  | _=>cenB fs part

section
variable {fs:List BS}{T:Tr}{part:BS}

theorem yT {x k i:Nat}(hx:x<T.n)(hk:k<T.n)(h:T.adj k x)(hP:T.P i x k):i=x∨i=k:=by
 apply Classical.byContradiction
 intro hn
 exact hP (Tr.cn.of_adj hx hk ⟨hx,fun e=>hn (.inl e.symm)⟩ ⟨hk,fun e=>hn (.inr e.symm)⟩ h.symm)
theorem mi {p:Nat→Bool}{k:Nat}:∀{l:List Nat},k∈l→p k=true→(∀n∈l,p n=true→n=k)→l.find? p=some k
 | [],h,_,_=>by cases h
 | x::l,h,hk,h1=>by
  rw[List.find?_cons]
  cases hx:p x with
  | true=>rw[h1 x (by simp) hx]
  | false=>
   rcases List.mem_cons.1 h with rfl|h
   ·rw[hk] at hx;cases hx
   ·exact mi h hk fun n hn=>h1 n (by simp[hn])
theorem qM (F:Fo fs T)(hin:∀i,part.getLsbD i=true→i<T.n)(hC:T.conn (bits part)){x y z:Nat}{r:BS}(hx:part.getLsbD x=true)(hy:part.getLsbD y=true)(hz:part.getLsbD z=true)(hr:∀i,r.getLsbD i=true↔T.P i x z)(hP:T.P z x y)(hne:z≠y) :
  ∃k,(elems ((sg fs z &&& part) &&& ~~~r)).find? (fun n=>(compB fs (del part (z:Int)) n).getLsbD y)=some k∧part.getLsbD k=true∧(∀i,(ins r (k:Int)).getLsbD i=true↔T.P i x k)∧T.P k x y∧T.dist k y<T.dist z y:=by
 have hxn:=hin x hx
 have hyn:=hin y hy
 have hzn:=hin z hz
 have hle:=F.le
 obtain⟨k,k1,k2⟩:=Tr.hop hC hzn hyn hz hy (Ne.symm hne)
 have hkp:part.getLsbD k=true:=k2.2.2.1.1
 have hkn:=k2.1
 have hV:T.cn (Tr.wo (fun i=>i<T.n) z) k y:=k2.mono fun i hi h=>⟨hi,h.2⟩
 have p1:T.P k z y:=Tr.hop_P hzn k1 hV
 have p2:T.P k x y:=hP.sub' p1
 have p3:T.P z x k:=(hP.split k).resolve_right fun h=>h hV
 have hkz:k≠z:=k2.2.2.1.2
 have hdel:∀i,(del part (z:Int)).getLsbD i=true↔part.getLsbD i=true∧i≠z:=fun i=>bT part (by omega)
 have hbits:(bits (del part (z:Int)))=Tr.wo (bits part) z:=by funext i;exact propext (hdel i)
 have hind:∀i,(del part (z:Int)).getLsbD i=true→i<T.n:=fun i hi=>hin i ((hdel i).1 hi).1
 have hcand:∀n,n∈elems ((sg fs z &&& part) &&& ~~~r)↔T.adj z n∧part.getLsbD n=true∧¬r.getLsbD n=true:=fun n=>by
  rw[aK,aP,bZ,F.adj hzn]
  constructor
  ·rintro⟨_,⟨⟨_,h1⟩,h2⟩,h3⟩;exact⟨h1,h2,h3⟩
  ·rintro⟨h1,h2,h3⟩;exact⟨aG h2,⟨⟨hin n h2,h1⟩,h2⟩,h3⟩
 have hcmp:∀n,T.adj z n→part.getLsbD n=true→((compB fs (del part (z:Int)) n).getLsbD y=true↔T.cn (Tr.wo (bits part) z) n y):=fun n hn hp=>by
  have hnd:(del part (z:Int)).getLsbD n=true:=(hdel n).2 ⟨hp,fun e=>(hn.ne hzn) e.symm⟩
  rw[(ep F hind hnd).2 y,hbits]
 refine⟨k,mi ((hcand k).2 ⟨k1.symm,hkp,fun h=>hkz (Tr.P.meet hxn hyn hP ((hr k).1 h) p1)⟩) ((hcmp k k1.symm hkp).2 k2) (fun n hn hpn=>?_),hkp,fun i=>?_,p2,?_⟩
 ·obtain⟨h1,h2,_⟩:=(hcand n).1 hn
  exact Tr.hop_one hzn h1.symm k1 (((hcmp n h1 h2).1 hpn).trans k2.symm)
 ·rw[aL r (by omega),hr]
  constructor
  ·rintro (h|rfl)
   ·exact p3.sub h
   ·exact Tr.P.right
  ·intro h
   rcases h.split z with h|h
   ·exact .inl h
   ·rcases yT hzn hkn k1 h with rfl|rfl
    ·exact .inl Tr.P.right
    ·exact .inr rfl
 ·exact Tr.dist_lt hzn (fun u _ hu=>p1.sub' hu) Tr.P.left fun h=>h hV
theorem yU (F:Fo fs T)(hin:∀i,part.getLsbD i=true→i<T.n)(hC:T.conn (bits part)){x y:Nat}(hx:part.getLsbD x=true)(hy:part.getLsbD y=true):∀(f:Nat) (r:BS) (z:Nat),part.getLsbD z=true→(∀i,r.getLsbD i=true↔T.P i x z)→T.P z x y→T.dist z y≤f →
  ∃Z,fZ fs part y f r z=some Z∧∀i,Z.getLsbD i=true↔T.P i x y:=by
 intro f
 induction f with
 | zero=>
  intro r z hz hr hP hd
  by_cases h:z=y
  ·subst h;exact⟨r,by rw[fZ,if_pos rfl],hr⟩
  ·obtain⟨k,_,_,_,_,h5⟩:=qM F hin hC hx hy hz hr hP h
   omega
 | succ f ih=>
  intro r z hz hr hP hd
  by_cases h:z=y
  ·subst h;exact⟨r,by rw[fZ,if_pos rfl],hr⟩
  ·obtain⟨k,h1,h2,h3,h4,h5⟩:=qM F hin hC hx hy hz hr hP h
   obtain⟨Z,h6,h7⟩:=ih _ k h2 h3 h4 (by omega)
   exact⟨Z,by rw[fZ,if_neg h,h1,oEl];exact h6,h7⟩
theorem yV (x y:Nat):T.dist x y≤T.n:=by
 unfold Tr.dist
 have:=List.countP_le_length (p:=fun z=>@decide (T.P z x y) (Classical.propDecidable _)) (l:=List.range T.n)
 rwa [List.length_range] at this
theorem yW {i x:Nat}(hx:x<T.n):T.P i x x↔i=x:=by
 constructor
 ·intro h
  apply Classical.byContradiction
  intro hn
  exact h (Tr.cn.refl hx ⟨hx,Ne.symm hn⟩)
 ·rintro rfl;exact Tr.P.left
theorem gN (F:Fo fs T)(hin:∀i,part.getLsbD i=true→i<T.n)(hC:T.conn (bits part)){x y:Nat}(hx:part.getLsbD x=true)(hy:part.getLsbD y=true) :
  fZ fs part y (1+fs.length) (ins 0 (x:Int)) x=some (dw fs part x y)∧∀i,(dw fs part x y).getLsbD i=true↔T.P i x y:=by
 have hle:=F.le
 have hd:=yV (T:=T) x y
 obtain⟨Z,h1,h2⟩:=yU F hin hC hx hy (1+fs.length) (ins 0 (x:Int)) x hx (fun i=>by
  rw[aL 0 (by have:=hin x hx;omega),yW (hin x hx)]
  exact⟨fun h=>h.resolve_left (aN i),.inr⟩) Tr.P.left (by have:=F.len;omega)
 have:dw fs part x y=Z:=by rw[dw,h1];rfl
 rw[this]
 exact⟨h1,h2⟩
theorem yX (F:Fo fs T)(hin:∀i,part.getLsbD i=true→i<T.n)(hC:T.conn (bits part)){x y i:Nat}(hx:part.getLsbD x=true)(hy:part.getLsbD y=true)(h:(dw fs part x y).getLsbD i=true):part.getLsbD i=true:=
 Tr.P.mem hC (hin x hx) (hin y hy) hx hy (((gN F hin hC hx hy).2 i).1 h)

theorem jN (hin:∀i,part.getLsbD i=true→i<T.n)(z:Int):∀i,(del part z).getLsbD i=true→i<T.n:=fun i h=>by
 unfold del at h
 split at h
 ·exact hin i ((aP _ _ i).1 h).1
 ·exact hin i h
theorem yY (F:Fo fs T){left:BS}(hin:∀i,left.getLsbD i=true→i<T.n):er fs (1+fs.length) left=some (partsB fs left)∧(partsB fs left).length≤card left∧(∀C∈partsB fs left,∃k,left.getLsbD k=true∧C=compB fs left k)∧∀k,left.getLsbD k=true→compB fs left k∈partsB fs left:=by
 have hle:=F.le
 have:=ek hin
 obtain⟨l,h1,h2⟩:=xO F (1+fs.length) left hin (by have:=F.len;omega)
 have e:partsB fs left=l:=by rw[partsB,h1];rfl
 rw[e]
 exact⟨h1,h2⟩
theorem mj (fs:List BS)(part:BS):∀(l:List Nat) (s:Int×Int),(0≤s.1→∃n:Nat,s.1=(n:Int)∧s.2=(mostB fs part n:Int)) →
  (l≠[]∨0≤s.1)→∃n:Nat,(l.foldl (fY fs part) s).1=(n:Int)∧(n∈l∨s.1=(n:Int))∧(l.foldl (fY fs part) s).2=(mostB fs part n:Int)∧(∀m∈l,mostB fs part n≤mostB fs part m)∧(0≤s.1→(mostB fs part n:Int)≤s.2)
 | [],s,h,h0=>by
  have h1:=h0.resolve_left (by simp)
  obtain⟨n,h2,h3⟩:=h h1
  exact⟨n,h2,.inr h2,h3,by simp,fun _=>by omega⟩
 | m::l,s,h,_=>by
  rw[List.foldl_cons]
  by_cases hc:s.1<0∨(mostB fs part m:Int)<s.2
  ·have e:fY fs part s m=((m:Int),(mostB fs part m:Int)):=if_pos hc
   obtain⟨n,h1,h2,h3,h4,h5⟩:=mj fs part l (fY fs part s m) (fun _=>⟨m,by rw[e],by rw[e]⟩) (.inr (by rw[e];exact Int.natCast_nonneg m))
   have h5':=h5 (by rw[e];exact Int.natCast_nonneg m)
   rw[e] at h5' h2
   refine⟨n,h1,.inl ?_,h3,fun x hx=>?_,fun h0=>?_⟩
   ·rcases h2 with h2|h2
    ·exact List.mem_cons_of_mem _ h2
    ·simp only at h2
     have:n=m:=by omega
     subst this;simp
   ·rcases List.mem_cons.1 hx with rfl|hx
    ·simp only at h5';omega
    ·exact h4 x hx
   ·simp only at h5';omega
  ·have e:fY fs part s m=s:=if_neg hc
   have h0:0≤s.1:=by omega
   have hs:¬(mostB fs part m:Int)<s.2:=fun h=>hc (.inr h)
   rw[e]
   obtain⟨n,h1,h2,h3,h4,h5⟩:=mj fs part l s h (.inr h0)
   have:=h5 h0
   refine⟨n,h1,h2.imp (List.mem_cons_of_mem _) id,h3,fun x hx=>?_,fun _=>this⟩
   rcases List.mem_cons.1 hx with rfl|hx
   ·omega
   ·exact h4 x hx
theorem yZ {p:Nat}(hp:part.getLsbD p=true):part.getLsbD (cenB fs part)=true∧(qL fs part (elems part)).1=(cenB fs part:Int)∧∀m,part.getLsbD m=true→mostB fs part (cenB fs part)≤mostB fs part m:=by
 have hpe:=aK.2 ⟨aG hp,hp⟩
 obtain⟨n,h1,h2,h3,h4,_⟩:=mj fs part (elems part) (-1,0) (fun h=>by simp at h) (.inl (List.ne_nil_of_mem hpe))
 have e:cenB fs part=n:=by
  show (List.foldl (fY fs part) (-1,0) (elems part)).1.toNat=n
  rw[h1];exact Int.toNat_natCast n
 rw[e]
 refine⟨?_,h1,fun m hm=>h4 m (aK.2 ⟨aG hm,hm⟩)⟩
 rcases h2 with h2|h2
 ·exact (aK.1 h2).2
 ·simp only at h2;omega
end

section
variable {fs:List BS}{T:Tr}{part:BS}

theorem qN (i:Nat):∀(s:List Nat) (r:BS),(s.foldl (fun r n=>r ||| sg fs n) r).getLsbD i=true↔r.getLsbD i=true∨∃n∈s,(sg fs n).getLsbD i=true
 | [],r=>by simp
 | n::s,r=>by
  rw[List.foldl_cons,qN i s,fp]
  constructor
  ·rintro ((h|h)|⟨m,hm,h⟩)
   ·exact .inl h
   ·exact .inr ⟨n,by simp,h⟩
   ·exact .inr ⟨m,by simp[hm],h⟩
  ·rintro (h|⟨m,hm,h⟩)
   ·exact .inl (.inl h)
   ·rcases List.mem_cons.1 hm with rfl|hm
    ·exact .inl (.inr h)
    ·exact .inr ⟨m,hm,h⟩
theorem iM (F:Fo fs T)(hin:∀i,part.getLsbD i=true→i<T.n)(i:Nat):(bJ fs part).getLsbD i=true↔i<T.n∧¬part.getLsbD i=true∧∃j,part.getLsbD j=true∧T.adj j i:=by
 rw[bJ,aP,qK,qN]
 constructor
 ·rintro⟨h|⟨j,hj,h⟩,h2⟩
  ·exact absurd h (aN i)
  ·have hj':=(aK.1 hj).2
   have:=(F.adj (hin j hj')).1 h
   exact⟨this.1,h2,j,hj',this.2⟩
 ·rintro⟨h1,h2,j,hj,h⟩
  exact⟨.inr ⟨j,aK.2 ⟨aG hj,hj⟩,(F.adj (hin j hj)).2 ⟨h1,h⟩⟩,h2⟩
theorem ml (F:Fo fs T)(hin:∀i,part.getLsbD i=true→i<T.n)(hC:T.conn (bits part)){b:Nat}(hb:(bJ fs part).getLsbD b=true) :
  part.getLsbD (cN fs part b)=true∧T.adj (cN fs part b) b∧∀j,part.getLsbD j=true→T.adj j b→j=cN fs part b:=by
 obtain⟨hbn,hbp,j,hj,hjb⟩:=(iM F hin b).1 hb
 have hbit:(sg fs b &&& part).getLsbD j=true:=(bZ _ _ j).2 ⟨(F.adj hbn).2 ⟨hin j hj,hjb.symm⟩,hj⟩
 obtain⟨k,hk,_⟩:=xJ hbit
 have hk2:=(bZ _ _ k).1 (eQ hk)
 have e:cN fs part b=k:=by rw[cN,hk];rfl
 rw[e]
 have hkb:T.adj k b:=((F.adj hbn).1 hk2.1).2.symm
 exact⟨hk2.2,hkb,fun x hx hxb=>hC.nb hbn hbp (hin x hx) (hin k hk2.2) hx hk2.2 hxb hkb⟩
theorem qO {S:BS}(h:¬card S<2):∃a b l,elems S=a::b::l∧a≠b∧S.getLsbD a=true∧S.getLsbD b=true:=by
 rw[← du] at h
 have hn:(elems S).Nodup:=List.Nodup.sublist List.filter_sublist List.nodup_range
 match hl:elems S with
 | []=>rw[hl] at h;simp at h
 | [a]=>rw[hl] at h;simp at h
 | a::b::l=>
  rw[hl] at hn
  exact⟨a,b,l,rfl,fun e=>by subst e;simp at hn,(aK.1 (by rw[hl];simp)).2,(aK.1 (by rw[hl];simp)).2⟩
structure Spl (fs:List BS)(T:Tr)(part:BS)(s:Nat):Prop where
 mem:part.getLsbD s=true
 one:card (bJ fs part)<2→s=cenB fs part
 two:∀{a b l},elems (bJ fs part)=a::b::l→T.P s (cN fs part a) (cN fs part b)∧T.P s (cN fs part a) (cenB fs part)∧T.P s (cN fs part b) (cenB fs part)
theorem za {S:BS}{a b:Nat}(h:card S=1)(ha:S.getLsbD a=true)(hb:S.getLsbD b=true):a=b:=by
 rw[← du] at h
 match hl:elems S with
 | []=>rw[hl] at h;simp at h
 | [x]=>
  have h1:=aK.2 ⟨aG ha,ha⟩
  have h2:=aK.2 ⟨aG hb,hb⟩
  rw[hl] at h1 h2
  simp at h1 h2
  omega
 | x::y::l=>rw[hl] at h;simp at h
theorem qP (F:Fo fs T)(hin:∀i,part.getLsbD i=true→i<T.n)(hC:T.conn (bits part)){x y c m n:Nat}(hx:part.getLsbD x=true)(hy:part.getLsbD y=true)(hc:part.getLsbD c=true)
  (h1:T.P m x y) (h2:T.P m x c) (h3:T.P m y c) (hn:part.getLsbD n=true):jM fs part (dw fs part x y) c n=true↔n=m:=by
 have hxn:=hin x hx
 have hyn:=hin y hy
 have hcn:=hin c hc
 have hm:part.getLsbD m=true:=Tr.P.mem hC hxn hyn hx hy h1
 have pb:=fun i=>(gN F hin hC hx hy).2 i
 rw[jM,Bool.and_eq_true,decide_eq_true_eq,pb]
 constructor
 ·rintro⟨h4,h5⟩
  have hmn:T.P m n c:=Tr.near hxn hyn hcn h1 h2 h3 h4
  exact za h5 ((bZ _ _ n).2 ⟨((gN F hin hC hc hn).2 n).2 Tr.P.right,(pb n).2 h4⟩) ((bZ _ _ m).2 ⟨((gN F hin hC hc hn).2 m).2 hmn.symm,(pb m).2 h1⟩)
 ·rintro rfl
  refine⟨h1,fV (p:=n) fun i=>?_⟩
  rw[bZ,(gN F hin hC hc hn).2 i,pb]
  constructor
  ·rintro⟨h4,h5⟩
   have:=Tr.near hxn hyn hcn h1 h2 h3 h5
   exact (Tr.P.meet hcn (hin n hn) h4 this.symm Tr.P.right).symm
  ·rintro rfl
   exact⟨Tr.P.right,h1⟩
theorem zb (F:Fo fs T)(hin:∀i,part.getLsbD i=true→i<T.n)(hC:T.conn (bits part)){p:Nat}(hp:part.getLsbD p=true):Spl fs T part (gM fs part (bJ fs part)):=by
 obtain⟨hc,_,_⟩:=yZ (fs:=fs) hp
 by_cases hcard:card (bJ fs part)<2
 ·have e:gM fs part (bJ fs part)=cenB fs part:=by rw[gM,if_pos hcard]
  rw[e]
  refine⟨hc,fun _=>rfl,fun {a b l} h=>?_⟩
  have:=du (bJ fs part)
  rw[h] at this
  simp at this
  omega
 ·obtain⟨a,b,l,he,hab,ha,hb⟩:=qO hcard
  obtain⟨a1,a2,a3⟩:=ml F hin hC ha
  obtain⟨b1,b2,b3⟩:=ml F hin hC hb
  obtain⟨m,m1,m2,m3⟩:=Tr.median (hin _ a1) (hin _ b1) (hin _ hc)
  have hm:part.getLsbD m=true:=Tr.P.mem hC (hin _ a1) (hin _ b1) a1 b1 m1
  have hf:(elems (dw fs part (cenB fs part) (cN fs part a))).find? (jM fs part (dw fs part (cN fs part a) (cN fs part b)) (cenB fs part))=some m:=by
   have hpm:(dw fs part (cenB fs part) (cN fs part a)).getLsbD m=true:=((gN F hin hC hc a1).2 m).2 m2.symm
   refine mi (aK.2 ⟨aG hpm,hpm⟩) ((qP F hin hC a1 b1 hc m1 m2 m3 hm).2 rfl) fun n hn hpn=>?_
   have hn':=yX F hin hC hc a1 (aK.1 hn).2
   exact (qP F hin hC a1 b1 hc m1 m2 m3 hn').1 hpn
  have e:gM fs part (bJ fs part)=m:=by
   rw[gM,if_neg hcard,he]
   simp only[List.map_cons,hf,Option.getD_some]
  rw[e]
  refine⟨hm,fun h=>absurd h hcard,fun {a' b' l'} h=>?_⟩
  rw[he] at h
  cases h
  exact⟨m1,m2,m3⟩

structure Sub (fs:List BS)(T:Tr)(part:BS)(s:Nat)(C:BS):Prop where
 ne:∃k,C.getLsbD k=true
 sub:∀i,C.getLsbD i=true→part.getLsbD i=true∧i≠s
 conn:T.conn (bits C)
 clo:∀i j,C.getLsbD i=true→part.getLsbD j=true→j≠s→T.adj i j→C.getLsbD j=true
theorem zd (F:Fo fs T)(hin:∀i,part.getLsbD i=true→i<T.n){s:Nat}(hs:s<T.n){C:BS}(h:C∈partsB fs (del part (s:Int))):Sub fs T part s C:=by
 have hle:=F.le
 have hdel:∀i,(del part (s:Int)).getLsbD i=true↔part.getLsbD i=true∧i≠s:=fun i=>bT part (by omega)
 obtain⟨k,hk,rfl⟩:=(yY F (jN (part:=part) hin (s:Int))).2.2.1 C h
 have hb:=(ep F (jN hin _) hk).2
 refine⟨⟨k,pR F (jN hin _) hk⟩,fun i hi=>(hdel i).1 (xL F (jN hin _) hk i hi),?_,fun i j hi hj hjs hij=>?_⟩
 ·have:=Tr.conn_comp (T:=T) (A:=bits (del part (s:Int))) (x:=k)
  have e:(fun y=>T.cn (bits (del part (s:Int))) k y)=bits (compB fs (del part (s:Int)) k):=by
   funext y
   exact propext (hb y).symm
  rwa [e] at this
 ·have h1:=(hb i).1 hi
  exact (hb j).2 (h1.trans (Tr.cn.of_adj h1.2.1 (hin j hj) h1.2.2.2.1 ((hdel j).2 ⟨hj,hjs⟩) hij))
theorem ze (F:Fo fs T)(hin:∀i,part.getLsbD i=true→i<T.n){s:Nat}{C:BS}(h:Sub fs T part s C){i:Nat}(hi:(bJ fs C).getLsbD i=true):i=s∨(bJ fs part).getLsbD i=true:=by
 obtain⟨h1,h2,j,hj,hji⟩:=(iM F (fun i hi=>hin i (h.sub i hi).1) i).1 hi
 by_cases his:i=s
 ·exact .inl his
 ·refine .inr ((iM F hin i).2 ⟨h1,fun hp=>h2 (h.clo j i hj hp his hji),j,(h.sub j hj).1,hji⟩)
theorem qQ (F:Fo fs T)(hin:∀i,part.getLsbD i=true→i<T.n)(hC:T.conn (bits part)){s:Nat}{C:BS}(h:Sub fs T part s C){b:Nat}(hb:(bJ fs part).getLsbD b=true)(hb':(bJ fs C).getLsbD b=true):C.getLsbD (cN fs part b)=true:=by
 obtain⟨h1,h2,j,hj,hji⟩:=(iM F (fun i hi=>hin i (h.sub i hi).1) b).1 hb'
 rw[← (ml F hin hC hb).2.2 j (h.sub j hj).1 hji];exact hj
theorem mm {S A:BS}{s:Nat}(hs:s<1024)(h:∀i,S.getLsbD i=true→i=s∨A.getLsbD i=true):card S≤card A+1:=by
 by_cases hA:A.getLsbD s=true
 ·have:card S≤card A:=gH fun i hi=>by
   rcases h i hi with rfl|h
   ·exact hA
   ·exact h
  omega
 ·have hone:∀i,(ins 0 (s:Int)).getLsbD i=true↔i=s:=fun i=>by
   rw[aL 0 hs];exact⟨fun h=>h.resolve_left (aN i),.inr⟩
  have h1:=iH (S:=A) (T:=ins 0 (s:Int)) (U:=A ||| ins 0 (s:Int)) (fp _ _) (by
   rintro i ⟨h1,h2⟩
   rw[(hone i).1 h2] at h1
   exact hA h1)
  rw[fV hone] at h1
  rw[← h1]
  exact gH fun i hi=>(fp _ _ i).2 ((h i hi).elim (fun h=>.inr ((hone i).2 h)) .inl)
theorem zf (F:Fo fs T)(hin:∀i,part.getLsbD i=true→i<T.n)(hC:T.conn (bits part))(h2:card (bJ fs part)≤2){s:Nat}(S:Spl fs T part s){C:BS}(h:Sub fs T part s C):card (bJ fs C)≤2:=by
 have hle:=F.le
 have hs1:s<1024:=by have:=hin s S.mem;omega
 have hsub:=fun i=>ze F hin h (i:=i)
 by_cases hc:card (bJ fs part)<2
 ·have:=mm hs1 fun i hi=>hsub i hi
  omega
 ·obtain⟨a,b,l,he,hab,ha,hb⟩:=qO hc
  have hl:l=[]:=by
   have:=du (bJ fs part)
   rw[he] at this
   simp at this
   exact List.eq_nil_of_length_eq_zero (by omega)
  have hall:∀i,(bJ fs part).getLsbD i=true→i=a∨i=b:=fun i hi=>by
   have:=aK.2 ⟨aG hi,hi⟩
   rw[he,hl] at this
   simpa using this
  have hnot:¬((bJ fs C).getLsbD a=true∧(bJ fs C).getLsbD b=true):=by
   rintro⟨h1,h2⟩
   have c1:=qQ F hin hC h ha h1
   have c2:=qQ F hin hC h hb h2
   have:=h.conn _ _ (hin _ (h.sub _ c1).1) (hin _ (h.sub _ c2).1) c1 c2
   refine (S.two he).1 (this.mono fun i hi hh=>⟨hi,(h.sub i hh).2⟩)
  have hone:∀x,(bJ fs part).getLsbD x=true→∀i,(ins 0 (x:Int)).getLsbD i=true↔i=x:=fun x hx i=>by
   rw[aL 0 (aG hx)];exact⟨fun h=>h.resolve_left (aN i),.inr⟩
  by_cases hCa:(bJ fs C).getLsbD a=true
  ·have:=mm (S:=bJ fs C) (A:=ins 0 (a:Int)) hs1 fun i hi=>by
    rcases hsub i hi with h|h
    ·exact .inl h
    ·rcases hall i h with rfl|rfl
     ·exact .inr ((hone i ha i).2 rfl)
     ·exact absurd ⟨hCa,hi⟩ hnot
   rw[fV (hone a ha)] at this
   omega
  ·have:=mm (S:=bJ fs C) (A:=ins 0 (b:Int)) hs1 fun i hi=>by
    rcases hsub i hi with h|h
    ·exact .inl h
    ·rcases hall i h with rfl|rfl
     ·exact absurd hi hCa
     ·exact .inr ((hone i hb i).2 rfl)
   rw[fV (hone b hb)] at this
   omega
end
def bl:Nat→Nat→Nat
 | 0,_=>0
 | f+1,n=>if n=0 then 0 else bl f (n / 2)+1
def splitter (fs:List BS)(part:BS):Nat:=gM fs part (bJ fs part)
def subs (fs:List BS)(part:BS):List BS:=partsB fs (del part (splitter fs part:Int))
section
variable {fs:List BS}{T:Tr}
structure Pt (fs:List BS)(T:Tr)(part:BS):Prop where
 inn:∀i,part.getLsbD i=true→i<T.n
 conn:T.conn (bits part)
 ne:∃k,part.getLsbD k=true
 two:card (bJ fs part)≤2
theorem Pt.spl {part:BS}(F:Fo fs T)(h:Pt fs T part):Spl fs T part (splitter fs part):=by
 obtain⟨k,hk⟩:=h.ne
 exact zb F h.inn h.conn hk
theorem Pt.sub {part:BS}(F:Fo fs T)(h:Pt fs T part){C:BS}(hC:C∈subs fs part):Sub fs T part (splitter fs part) C:=zd F h.inn (h.inn _ (h.spl F).mem) hC
theorem Pt.step {part:BS}(F:Fo fs T)(h:Pt fs T part){C:BS}(hC:C∈subs fs part):Pt fs T C∧card C<card part:=by
 have S:=h.sub F hC
 exact⟨⟨fun i hi=>h.inn i (S.sub i hi).1,S.conn,S.ne,zf F h.inn h.conn h.two (h.spl F) S⟩,fq (fun i hi=>(S.sub i hi).1) (h.spl F).mem fun hh=>(S.sub _ hh).2 rfl⟩
theorem fy {S:BS}{p:Nat}(h:S.getLsbD p=true):card S=card (del S (p:Int))+1:=by
 have hp:=aG h
 have hone:∀i,(ins 0 (p:Int)).getLsbD i=true↔i=p:=fun i=>by
  rw[aL 0 hp];exact⟨fun h=>h.resolve_left (aN i),.inr⟩
 rw[← fV hone]
 refine iH (fun i=>?_) fun i hi=>((bT S hp).1 hi.1).2 ((hone i).1 hi.2)
 rw[bT S hp,hone]
 constructor
 ·intro hi
  by_cases hip:i=p
  ·exact .inr hip
  ·exact .inl ⟨hi,hip⟩
 ·rintro (hi|rfl)
  ·exact hi.1
  ·exact h
structure BNd (fs:List BS)(T:Tr)(L:List (Int×BS))(i:Nat)(up:Int)(P:BS):Prop where
 at':L[i]?=some (up,P)
 pt:Pt fs T P
 kid:∀C∈subs fs P,∃k,i<k∧L[k]?=some ((i:Int),C)
theorem BNd.app {i:Nat}{L M:List (Int×BS)}{up:Int}{P:BS}(h:BNd fs T L i up P):BNd fs T (L++M) i up P:=by
 have k1:∀{k:Nat} {x:Int×BS},L[k]?=some x→(L++M)[k]?=some x:=fun {k x} h=>by
  rw[List.getElem?_append_left (List.getElem?_eq_some_iff.1 h).1];exact h
 exact⟨k1 h.at',h.pt,fun C hC=>by obtain⟨k,h1,h2⟩:=h.kid C hC;exact⟨k,h1,k1 h2⟩⟩
def Ab (fs:List BS)(L:List (Int×BS))(i:Nat)(up:Int)(P:BS):Prop:=∃p u Q,up=((p:Nat):Int)∧p<i∧L[p]?=some (u,Q)∧P∈subs fs Q
theorem Ab.app {i:Nat}{L M:List (Int×BS)}{up:Int}{P:BS}(h:Ab fs L i up P):Ab fs (L++M) i up P:=by
 obtain⟨p,u,Q,h1,h2,h3,h4⟩:=h
 exact⟨p,u,Q,h1,h2,by rw[List.getElem?_append_left (List.getElem?_eq_some_iff.1 h3).1];exact h3,h4⟩
end
section
variable {fs:List BS}{T:Tr}
end
end Go.Mono
namespace Go.Mono
open Go Go.Proofs Go.RowKit

def fz (n:Nat):BS:=BitVec.ofNat 1024 (2 ^ n - 1)
theorem zg (n i:Nat)(hi:i<1024):(fz n).getLsbD i=decide (i<n):=by
 rw[fz,BitVec.getLsbD_ofNat,Nat.testBit_two_pow_sub_one]
 simp[hi]

theorem zh (t:List (Int×BS)):(iD t).length=t.length:=by simp[iD]

theorem zi (n i:Nat)(hn:n≤1024):(fz n).getLsbD i=true↔i<n:=by
 by_cases hi:i<1024
 ·rw[zg _ _ hi,decide_eq_true_eq]
 ·constructor
  ·intro h;exact absurd (aG h) hi
  ·intro h;omega
theorem Pt.all {t:List (Int×BS)}{T:Tr}(F:Fo (iD t) T)(h0:0<t.length):Pt (iD t) T (fz t.length)∧card (fz t.length)≤t.length:=by
 have hn:T.n=t.length:=by rw[← F.len,zh]
 have hle:=F.le
 have hb:∀i,(fz t.length).getLsbD i=true↔i<T.n:=fun i=>by rw[zi _ _ (by omega),hn]
 have hbits:bits (fz t.length)=fun i=>i<T.n:=by funext i;exact propext (hb i)
 refine⟨⟨fun i hi=>(hb i).1 hi,by rw[hbits];exact Tr.conn_all,⟨0,(hb 0).2 (by omega)⟩,?_⟩,ek fun i hi=>by rw[← hn];exact (hb i).1 hi⟩
 have:bJ (iD t) (fz t.length)=0:=bI fun k=>by
  rw[iM F (fun i hi=>(hb i).1 hi)]
  constructor
  ·rintro⟨h1,h2,_⟩;exact absurd ((hb k).2 h1) h2
  ·intro h;exact absurd h (aN k)
 rw[this,eh];omega

end Go.Mono
namespace Go.Mono

inductive Und (o:List (Int×BS)):Nat→Nat→Prop
 | refl (k:Nat):Und o k k
 | step {k p i:Nat} (h:(bg o k).1=(p:Int)) (hu:Und o p i):Und o k i
theorem Und.trans {o:List (Int×BS)}{k j i:Nat}(h:Und o k j)(h':Und o j i):Und o k i:=by
 induction h with
 | refl=>exact h'
 | step h _ ih=>exact .step h (ih h')
section
variable {t:List (Int×BS)}{T:Tr}
end
end Go.Mono
namespace Go.Mono
open Go Go.Proofs Go.RowKit Go.Gr
def twG (g:GT):Int:=rsR (nbA g) (ai g.1) 0
theorem qR (g:GT) : -1≤twG g:=(iJ (nb:=nbA g) (all:=ai g.1) 0).1
section
variable {nb nb':Int→BS}{C S S':BS}
theorem zj (h:∀i j:Nat,(nb' (i:Int)).getLsbD j=true→(nb (i:Int)).getLsbD j=true∧C.getLsbD j=true)(hS:∀u,S'.getLsbD u=true↔S.getLsbD u=true∧C.getLsbD u=true){v:Nat}(hv:v<1024) :
  rn nb' S' v≤rn nb S v:=by
 have hm:card (reB nb' S' (v:Int))≤card (reB nb S (v:Int)):=gH fun u hu=>by
  obtain⟨k1,k2,k3⟩:=(gI hv).1 hu
  have hC:C.getLsbD u=true:=by
   cases k1 with
   | one h1=>exact (h _ _ h1).2
   | step _ _ h1=>exact (h _ _ h1).2
  have k1':Via nb S v u:=by
   clear hu k2 k3 hC
   induction k1 with
   | one h1=>exact .one (h _ _ h1).1
   | step _ ht h1 ih=>exact .step ih ((hS _).1 ht).1 (h _ _ h1).1
  exact (gI hv).2 ⟨k1',fun hh=>k2 ((hS u).2 ⟨hh,hC⟩),k3⟩
 rw[rn,rn];omega
theorem zk {v:Nat}(hv:v<1024)(hS:∀u,S'.getLsbD u=true↔S.getLsbD u=true∧C.getLsbD u=true)(hC:C.getLsbD v=true):∀u,(ins S' (v:Int)).getLsbD u=true↔(ins S (v:Int)).getLsbD u=true∧C.getLsbD u=true:=fun u=>by
 rw[aL _ hv,aL _ hv,hS]
 constructor
 ·rintro (⟨h1,h2⟩|rfl)
  ·exact⟨.inl h1,h2⟩
  ·exact⟨.inr rfl,hC⟩
 ·rintro⟨h1|h1,h2⟩
  ·exact .inl ⟨h1,h2⟩
  ·exact .inr h1
theorem zl {v:Nat}(hv:v<1024)(hS:∀u,S'.getLsbD u=true↔S.getLsbD u=true∧C.getLsbD u=true)(hC:¬C.getLsbD v=true):∀u,S'.getLsbD u=true↔(ins S (v:Int)).getLsbD u=true∧C.getLsbD u=true:=fun u=>by
 rw[hS,aL _ hv]
 constructor
 ·rintro⟨h1,h2⟩;exact⟨.inl h1,h2⟩
 ·rintro⟨h1|rfl,h2⟩
  ·exact⟨h1,h2⟩
  ·exact absurd h2 hC
theorem mn (h:∀i j:Nat,(nb' (i:Int)).getLsbD j=true→(nb (i:Int)).getLsbD j=true∧C.getLsbD j=true):∀(l:List Nat) (S S':BS),(∀v∈l,v<1024)→(∀u,S'.getLsbD u=true↔S.getLsbD u=true∧C.getLsbD u=true) →
  cw nb' S' (l.filter fun v=>C.getLsbD v)≤cw nb S l
 | [],S,S',_,_=>Int.le_refl _
 | v::l,S,S',hl,hS=>by
  have hv:=hl v (List.mem_cons_self ..)
  have hl':=fun x hx=>hl x (List.mem_cons_of_mem v hx)
  by_cases hC:C.getLsbD v=true
  ·have h1:=mn h l (ins S (v:Int)) (ins S' (v:Int)) hl' (zk hv hS hC)
   have h2:=zj h hS hv
   rw[List.filter_cons,if_pos hC,cw,cw];omega
  ·have h1:=mn h l (ins S (v:Int)) S' hl' (zl hv hS hC)
   rw[List.filter_cons,if_neg hC,cw];omega
end
section
variable {g h:GT}
theorem zm (G:Gr.Ok g)(H:Gr.Ok h)(hl:g.1.length≤12)(hl':h.1.length≤12)(hV:∀i,(ai h.1).getLsbD i=true→(ai g.1).getLsbD i=true)(hE:∀i j:Nat,Adj h i j→Adj g i j):twG h≤twG g:=by
 obtain⟨o1,o2,o3⟩:=qJ G hl
 have h1:=mn (nb:=nbA g) (nb':=nbA h) (C:=ai h.1) (fun i j hij=>⟨(bN G).2 (hE i j ((bN H).1 hij)),(((bN H).1 hij).inn H).2.1⟩) (cZ g) 0 0 (fun v hv=>aG ((o2 v).1 hv)) fun u=>⟨fun h=>absurd h (aN u),fun h=>absurd h.1 (aN u)⟩
 have h2:=jC (nb:=nbA h) (all:=ai h.1) ((cZ g).filter fun v=>(ai h.1).getLsbD v) 0 (o1.filter _) fun i=>by
  rw[jL,List.mem_filter,o2]
  exact⟨fun h=>h.2,fun h=>⟨hV i h,h⟩⟩
 rw[twG,twG,← o3];omega
structure qS (g:GT)(C:BS)(h:GT):Prop where
 ok:Gr.Ok h
 vs:∀i,(ai h.1).getLsbD i=true↔(ai g.1).getLsbD i=true∧C.getLsbD i=true
 es:∀i j:Nat,Adj h i j↔Adj g i j∧C.getLsbD i=true∧C.getLsbD j=true
 len:h.1.length≤g.1.length
theorem qS.le {C:BS}(P:qS g C h)(G:Gr.Ok g)(hl:g.1.length≤12):twG h≤twG g:=
 zm G P.ok hl (Nat.le_trans P.len hl) (fun i hi=>((P.vs i).1 hi).1) fun i j hij=>((P.es i j).1 hij).1
end

section
variable {g h:GT}
theorem zn (G:Gr.Ok g)(hl:g.1.length≤12){C:BS}{k:Nat}(hC:∀i,C.getLsbD i=true→(ai g.1).getLsbD i=true∧k≤card (nbA g (i:Int) &&& C)){c:Nat}(hc:C.getLsbD c=true):(k:Int)≤twG g:=by
 obtain⟨o1,o2,o3⟩:=qJ G hl
 have key:∀(l:List Nat) (S:BS),(∀i,C.getLsbD i=true→i∈l∧¬S.getLsbD i=true)→(∀v∈l,v<1024)→(k:Int)≤cw (nbA g) S l:=by
  intro l
  induction l with
  | nil=>intro S h _;exact absurd (h c hc).1 (by simp)
  | cons v l ih=>
   intro S h hv1
   have hv:=hv1 v (List.mem_cons_self ..)
   rw[cw]
   by_cases hCv:C.getLsbD v=true
   ·have h1:card (nbA g (v:Int) &&& C)≤card (reB (nbA g) S (v:Int)):=gH fun u hu=>by
     obtain⟨k1,k2⟩:=(bZ _ _ _).1 hu
     exact (gI hv).2 ⟨.one k1,(h u k2).2,fun e=>(((bN G).1 k1).inn G).2.2 e.symm⟩
    have h2:=(hC v hCv).2
    rw[rn];omega
   ·have h1:=ih (ins S (v:Int)) (fun i hi=>by
     obtain⟨k1,k2⟩:=h i hi
     have hiv:i≠v:=fun e=>hCv (e▸hi)
     refine⟨(List.mem_cons.1 k1).resolve_left hiv,fun hh=>?_⟩
     rcases (aL S hv).1 hh with h'|h'
     ·exact k2 h'
     ·exact hiv h') fun x hx=>hv1 x (List.mem_cons_of_mem v hx)
    omega
 have h1:=key (cZ g) 0 (fun i hi=>⟨(o2 i).2 (hC i hi).1,aN i⟩) fun v hv=>aG ((o2 v).1 hv)
 rw[o3] at h1
 exact h1
theorem eu (G:Gr.Ok g):∀i j:Nat,(nbA g (i:Int)).getLsbD j=true→(ai g.1).getLsbD j=true:=fun i j h=>(((bN G).1 h).inn G).2.1
end
def Smp (nb:Int→BS)(S:BS)(v:Nat):Prop:=∀a b:Nat,(nb (v:Int)).getLsbD a=true→(nb (v:Int)).getLsbD b=true→¬S.getLsbD a=true→¬S.getLsbD b=true→a≠b→(nb (a:Int)).getLsbD b=true
def Peo (nb:Int→BS):BS→List Nat→Prop
 | _,[]=>True
 | S,v::l=>Smp nb S v∧Peo nb (ins S (v:Int)) l
def ltr (nb:Int→BS)(S:BS)(v:Nat):BS:=nb (v:Int) &&& ~~~S
def pw (nb:Int→BS):BS→List Nat→Int
 | _,[] => -1
 | S,v::l=>max (card (ltr nb S v):Nat) (pw nb (ins S (v:Int)) l)
def ClI (nb:Int→BS)(S:BS):Prop:=∀a b:Nat,¬S.getLsbD a=true→¬S.getLsbD b=true→a≠b→Via nb S a b→(nb (a:Int)).getLsbD b=true
theorem ClI.zero {nb:Int→BS}:ClI nb 0:=fun a b _ _ _ h=>by
 cases h with
 | one h=>exact h
 | step _ h _=>exact absurd h (aN _)
section
variable {nb:Int→BS}
theorem zp (hir:∀a:Nat,¬(nb (a:Int)).getLsbD a=true){S:BS}(hI:ClI nb S){v:Nat}(hv:v<1024)(hvS:¬S.getLsbD v=true):reB nb S (v:Int)=ltr nb S v:=bI fun u=>by
 rw[gI hv,ltr,aP]
 constructor
 ·rintro⟨h1,h2,h3⟩
  exact⟨hI v u hvS h2 (Ne.symm h3) h1,h2⟩
 ·rintro⟨h1,h2⟩
  exact⟨.one h1,h2,fun e=>hir v (e▸h1)⟩
theorem ClI.step (hs:∀i j:Nat,(nb (i:Int)).getLsbD j=true→(nb (j:Int)).getLsbD i=true){S:BS}(hI:ClI nb S){v:Nat}(hv:v<1024)(hvS:¬S.getLsbD v=true)(hp:Smp nb S v):ClI nb (ins S (v:Int)):=by
 intro a b ha hb hab hvia
 have ha':¬S.getLsbD a=true∧a≠v:=⟨fun h=>ha ((aL S hv).2 (.inl h)),fun h=>ha ((aL S hv).2 (.inr h))⟩
 have hb':¬S.getLsbD b=true∧b≠v:=⟨fun h=>hb ((aL S hv).2 (.inl h)),fun h=>hb ((aL S hv).2 (.inr h))⟩
 rcases (Via.ins hv).1 hvia with h|⟨h1,h2⟩
 ·exact hI a b ha'.1 hb'.1 hab h
 ·exact hp a b (hs _ _ (hI a v ha'.1 hvS ha'.2 h1)) (hI v b hvS hb'.1 (Ne.symm hb'.2) h2) ha'.1 hb'.1 hab
theorem qT (hs:∀i j:Nat,(nb (i:Int)).getLsbD j=true→(nb (j:Int)).getLsbD i=true)(hir:∀a:Nat,¬(nb (a:Int)).getLsbD a=true):∀(l:List Nat) (S:BS),ClI nb S→l.Nodup→(∀v∈l,v<1024∧¬S.getLsbD v=true)→Peo nb S l→cw nb S l=pw nb S l
 | [],S,_,_,_,_=>rfl
 | v::l,S,hI,hn,hl,hp=>by
  obtain⟨hv,hvS⟩:=hl v (List.mem_cons_self ..)
  obtain⟨n1,n2⟩:=List.nodup_cons.1 hn
  rw[cw,pw,rn,zp hir hI hv hvS,qT hs hir l (ins S (v:Int)) (hI.step hs hv hvS hp.1) n2 (fun x hx=>⟨(hl x (List.mem_cons_of_mem _ hx)).1,fun h=>by
   rcases (aL S hv).1 h with h|h
   ·exact (hl x (List.mem_cons_of_mem _ hx)).2 h
   ·exact n1 (h▸hx)⟩) hp.2]
end
section
variable {g:GT}
theorem zq (G:Gr.Ok g)(hl:g.1.length≤12){C:BS}{c:Nat}(hc:C.getLsbD c=true)(hC:∀i,C.getLsbD i=true→(ai g.1).getLsbD i=true∧∀j,C.getLsbD j=true→i≠j→(nbA g (i:Int)).getLsbD j=true):((card C:Nat):Int)≤twG g+1:=by
 have h1:=el hc
 have:=zn G hl (C:=C) (k:=card C - 1) (fun i hi=>by
  refine⟨(hC i hi).1,?_⟩
  have h2:=fy hi
  have h3:card (del C (i:Int))≤card (nbA g (i:Int) &&& C):=gH fun j hj=>by
   obtain⟨j1,j2⟩:=(bT C (aG hi)).1 hj
   exact (bZ _ _ _).2 ⟨(hC i hi).2 j j1 (Ne.symm j2),j1⟩
  omega) hc
 omega
theorem zr (G:Gr.Ok g)(hl:g.1.length≤12){S:BS}{v:Nat}(hv:(ai g.1).getLsbD v=true)(hvS:¬S.getLsbD v=true)(hp:Smp (nbA g) S v):((card (ltr (nbA g) S v):Nat):Int)≤twG g:=by
 have hv':=aG hv
 have irr:∀a:Nat,¬(nbA g (a:Int)).getLsbD a=true:=fun a h=>(((bN G).1 h).inn G).2.2 rfl
 have hb:∀i,(ltr (nbA g) S v).getLsbD i=true↔(nbA g (v:Int)).getLsbD i=true∧¬S.getLsbD i=true:=fun i=>aP _ _ i
 obtain⟨X,hX⟩:∃X,X=ltr (nbA g) S v:=⟨_,rfl⟩
 rw[← hX] at hb ⊢
 have hi:∀i,(ins X (v:Int)).getLsbD i=true↔X.getLsbD i=true∨i=v:=fun i=>aL X hv'
 have h1:=zq G hl (C:=ins X (v:Int)) (c:=v) ((hi v).2 (.inr rfl)) fun i hic=>by
  have inn:(ai g.1).getLsbD i=true:=by
   rcases (hi i).1 hic with h|rfl
   ·exact eu G _ _ ((hb i).1 h).1
   ·exact hv
  refine⟨inn,fun j hj hij=>?_⟩
  rcases (hi i).1 hic with h|h <;> rcases (hi j).1 hj with k|k
  ·exact hp i j ((hb i).1 h).1 ((hb j).1 k).1 ((hb i).1 h).2 ((hb j).1 k).2 hij
  ·rw[k];exact (bN G).2 ((bN G).1 ((hb i).1 h).1).symm
  ·rw[h];exact ((hb j).1 k).1
  ·exact absurd (h.trans k.symm) hij
 clear hX
 have hvC:(ins X (v:Int)).getLsbD v=true:=(hi v).2 (.inr rfl)
 generalize hCC:ins X (v:Int)=C at *
 have h2:=fy hvC
 have h3:card (del C (v:Int))=card X:=congrArg card (bI fun i=>by
  rw[bT _ hv',hi]
  constructor
  ·rintro⟨h|h,h'⟩
   ·exact h
   ·exact absurd h h'
  ·intro h
   have h4:=((hb i).1 h).1
   exact⟨.inl h,fun e=>irr v (by rw[e] at h4;exact h4)⟩)
 omega
theorem qU (G:Gr.Ok g)(hl:g.1.length≤12):∀(l:List Nat) (S:BS),l.Nodup→(∀v∈l,(ai g.1).getLsbD v=true∧¬S.getLsbD v=true)→Peo (nbA g) S l→pw (nbA g) S l≤twG g
 | [],S,_,_,_=>qR g
 | v::l,S,hn,hl',hp=>by
  obtain⟨hv,hvS⟩:=hl' v (List.mem_cons_self ..)
  obtain⟨n1,n2⟩:=List.nodup_cons.1 hn
  have h1:=zr G hl hv hvS hp.1
  have h2:=qU G hl l (ins S (v:Int)) n2 (fun x hx=>⟨(hl' x (List.mem_cons_of_mem _ hx)).1,fun h=>by
   rcases (aL S (aG hv)).1 h with h|h
   ·exact (hl' x (List.mem_cons_of_mem _ hx)).2 h
   ·exact n1 (h▸hx)⟩) hp.2
  rw[pw];omega
theorem zt (G:Gr.Ok g)(hl:g.1.length≤12){l:List Nat}(hn:l.Nodup)(hm:∀i,i∈l↔(ai g.1).getLsbD i=true)(hp:Peo (nbA g) 0 l):twG g=pw (nbA g) 0 l:=by
 have hs:∀i j:Nat,(nbA g (i:Int)).getLsbD j=true→(nbA g (j:Int)).getLsbD i=true:=fun i j h=>(bN G).2 ((bN G).1 h).symm
 have irr:∀a:Nat,¬(nbA g (a:Int)).getLsbD a=true:=fun a h=>(((bN G).1 h).inn G).2.2 rfl
 have h1:twG g≤cw (nbA g) 0 l:=jC l 0 hn fun i=>by
  rw[hm i,aP]
  exact⟨fun h=>⟨h,aN _⟩,fun h=>h.1⟩
 have h2:=qT hs irr l 0 ClI.zero hn (fun v hv=>⟨aG ((hm v).1 hv),aN _⟩) hp
 have h3:=qU G hl l 0 hn (fun v hv=>⟨(hm v).1 hv,aN _⟩) hp
 omega
end
def cE (nb:Int→BS)(X:BS):Bool:=(elems X).all fun a=>decide (del X (a:Int) &&& ~~~nb (a:Int)=0)
theorem sub_zero {S T:BS}:S &&& ~~~T=0↔∀i,S.getLsbD i=true→T.getLsbD i=true:=by
 constructor
 ·intro h i hi
  refine Classical.byContradiction fun hn=>?_
  have:=(aP S T i).2 ⟨hi,hn⟩
  rw[h] at this
  exact aN i this
 ·intro h
  refine bI fun i=>?_
  rw[aP]
  exact⟨fun hh=>absurd (h i hh.1) hh.2,fun hh=>absurd hh (aN i)⟩
theorem qV {nb:Int→BS}{X:BS}:cE nb X=true↔∀a b:Nat,X.getLsbD a=true→X.getLsbD b=true→a≠b→(nb (a:Int)).getLsbD b=true:=by
 rw[cE,List.all_eq_true]
 constructor
 ·intro h a b ha hb hab
  have h1:=of_decide_eq_true (h a (aK.2 ⟨aG ha,ha⟩))
  exact sub_zero.1 h1 b ((bT X (aG ha)).2 ⟨hb,Ne.symm hab⟩)
 ·intro h a ha
  obtain⟨h1,h2⟩:=aK.1 ha
  refine decide_eq_true (sub_zero.2 fun i hi=>?_)
  obtain⟨k1,k2⟩:=(bT X h1).1 hi
  exact h a i h2 k1 (Ne.symm k2)
def poS (nb:Int→BS)(R:BS→Option (List Nat))(L:BS):Option (List Nat):=match (elems L).find? fun v:Nat=>cE nb (nb (v:Int) &&& L) with
 | none=>none
 | some v=>(R (del L (v:Int))).map (v :: ·)
theorem zu {nb:Int→BS}{R:BS→Option (List Nat)}{L:BS}{v:Nat}{l:List Nat}(hv:(elems L).find? (fun v:Nat=>cE nb (nb (v:Int) &&& L))=some v)(k:R (del L (v:Int))=some l):poS nb R L=some (v::l):=by
 unfold poS
 split
 ·rename_i h;rw[hv] at h;cases h
 ·rename_i w h
  rw[hv] at h
  cases h
  rw[k];rfl
def poF (nb:Int→BS):Nat→BS→Option (List Nat)
 | 0=>fun _=>some []
 | f+1=>poS nb (poF nb f)
def Chl (nb:Int→BS)(V:BS):Prop:=∀L:BS,(∀i,L.getLsbD i=true→V.getLsbD i=true)→L≠0→∃v,L.getLsbD v=true∧cE nb (nb (v:Int) &&& L)=true
theorem zv {nb:Int→BS}{S L:BS}{v:Nat}(hL:∀a,(nb (v:Int)).getLsbD a=true→(¬S.getLsbD a=true→L.getLsbD a=true))(h:cE nb (nb (v:Int) &&& L)=true):Smp nb S v:=fun a b ha hb sa sb hab=>
 qV.1 h a b ((bZ _ _ _).2 ⟨ha,hL a ha sa⟩) ((bZ _ _ _).2 ⟨hb,hL b hb sb⟩) hab
theorem zw {L:BS}(h:card L≠0):L≠0:=fun e=>h (by rw[e];exact eh)
set_option maxRecDepth 100000 in
theorem zx {nb:Int→BS}{V:BS}(hV:∀i j:Nat,(nb (i:Int)).getLsbD j=true→V.getLsbD j=true)(hc:Chl nb V):∀(f:Nat) (L S:BS),card L=f→(∀i,L.getLsbD i=true↔V.getLsbD i=true∧¬S.getLsbD i=true) →
  ∃l,poF nb f L=some l∧l.Nodup∧(∀i,i∈l↔L.getLsbD i=true)∧Peo nb S l:=by
 intro f
 induction f with
 | zero=>
  intro L S hf hL
  have hno:∀i,¬L.getLsbD i=true:=fun i h=>by have:=el h;rw[hf] at this;exact absurd this (Nat.lt_irrefl 0)
  exact⟨[],rfl,List.nodup_nil,fun i=>⟨fun h=>by simp at h,fun h=>absurd h (hno i)⟩,trivial⟩
 | succ f ih=>
  intro L S hf hL
  obtain⟨v0,h1,h2⟩:=hc L (fun i hi=>((hL i).1 hi).1) (zw (fun e=>Nat.succ_ne_zero f (hf.symm.trans e)))
  obtain⟨v,hv⟩:∃v,(elems L).find? (fun v:Nat=>cE nb (nb (v:Int) &&& L))=some v:=by
   cases hh:(elems L).find? fun v:Nat=>cE nb (nb (v:Int) &&& L) with
   | some v=>exact⟨v,rfl⟩
   | none=>exact absurd h2 (List.find?_eq_none.1 hh v0 (aK.2 ⟨aG h1,h1⟩))
  have hvc:=List.find?_some hv
  obtain⟨hv1,hv2⟩:=aK.1 (List.mem_of_find?_eq_some hv)
  have hcd:=fy hv2
  obtain⟨l,k1,k2,k3,k4⟩:=ih (del L (v:Int)) (ins S (v:Int)) (Nat.succ.inj (hcd.symm.trans hf)) fun i=>by
   rw[bT L hv1,aL S hv1,hL i]
   constructor
   ·rintro⟨⟨a,b⟩,c⟩
    exact⟨a,fun h=>h.elim b c⟩
   ·rintro⟨a,b⟩
    exact⟨⟨a,fun h=>b (.inl h)⟩,fun h=>b (.inr h)⟩
  refine⟨v::l,?_,List.nodup_cons.2 ⟨fun h=>?_,k2⟩,fun i=>?_,zv (fun a ha sa=>(hL a).2 ⟨hV _ _ ha,sa⟩) hvc,k4⟩
  ·exact zu hv k1
  ·exact ((bT L hv1).1 ((k3 v).1 h)).2 rfl
  ·rw[List.mem_cons,k3 i,bT L hv1]
   constructor
   ·rintro (rfl|h)
    ·exact hv2
    ·exact h.1
   ·intro h
    by_cases e:i=v
    ·exact .inl e
    ·exact .inr ⟨h,e⟩
theorem zy {g:GT}(G:Gr.Ok g)(hl:g.1.length≤12)(hc:Chl (nbA g) (ai g.1)):∃l,poF (nbA g) (card (ai g.1)) (ai g.1)=some l∧l.Nodup∧(∀i,i∈l↔(ai g.1).getLsbD i=true)∧Peo (nbA g) 0 l∧twG g=pw (nbA g) 0 l:=by
 obtain⟨l,h1,h2,h3,h4⟩:=zx (eu G) hc _ (ai g.1) 0 rfl fun i=>⟨fun h=>⟨h,aN i⟩,fun h=>h.1⟩
 exact⟨l,h1,h2,h3,h4,zt G hl h2 h3 h4⟩
end Go.Mono
namespace Go.Mono
open Go Go.Proofs Go.RowKit Go.Gr Go.Ms
theorem zz (n:Nat)(u:Nat→Nat)(L:Nat→Prop):∀m,m≤n→(∀j,n - m≤j→j<n→¬L (u j))∨∃k,k<n∧L (u k)∧∀j,k<j→j<n→¬L (u j):=by
 intro m
 induction m with
 | zero=>exact fun _=>.inl fun j h1 h2=>by omega
 | succ m ih=>
  intro hm
  rcases ih (by omega) with h|h
  ·by_cases hl:L (u (n - (m+1)))
   ·exact .inr ⟨n - (m+1),by omega,hl,fun j h1 h2=>h j (by omega) h2⟩
   ·refine .inl fun j h1 h2=>?_
    by_cases e:j=n - (m+1)
    ·rw[e];exact hl
    ·exact h j (by omega) h2
  ·exact .inr h
theorem zA {adj:Nat→Nat→Prop}{n:Nat}{u:Nat→Nat}{R:Nat→Nat→Prop}{cnt:Nat→Nat→Nat}(H:Run adj n u R cnt){nb:Int→BS}{V:BS}(hV:∀i,V.getLsbD i=true→R 0 i)(hir:∀a:Nat,¬(nb (a:Int)).getLsbD a=true)
  (hnb:∀a b:Nat,(nb (a:Int)).getLsbD b=true↔Hd adj n u R cnt a b):Chl nb V:=by
 intro L hL hne
 obtain⟨x,hx⟩:∃x,L.getLsbD x=true:=Classical.byContradiction fun hno=>hne (bI fun i=>⟨fun h=>absurd ⟨i,h⟩ hno,fun h=>absurd h (aN i)⟩)
 rcases zz n u (fun v=>L.getLsbD v=true) n (Nat.le_refl n) with h|⟨k,hk,h1,h2⟩
 ·obtain⟨l,_,hl,rfl⟩:=H.at (hV x (hL x hx))
  exact absurd hx (h l (by omega) hl)
 refine⟨u k,h1,qV.2 fun a b ha hb hab=>?_⟩
 obtain⟨a1,a2⟩:=(bZ _ _ _).1 ha
 obtain⟨b1,b2⟩:=(bZ _ _ _).1 hb
 have pos:∀y,(nb (u k:Int)).getLsbD y=true→L.getLsbD y=true→∃i,i<k∧y=u i∧Rc adj u R cnt i (u k):=by
  intro y y1 y2
  obtain⟨i,_,hi,rfl⟩:=H.at (hV y (hL y y2))
  have hik:¬k<i:=fun h=>h2 i h hi y2
  have hne:i≠k:=fun e=>by rw[e] at y1;exact hir _ y1
  refine⟨i,by omega,rfl,?_⟩
  rcases (hnb _ _).1 y1 with ⟨j,hj,e,h⟩|⟨j,hj,e,h⟩
  ·have:=H.inj hk hj e
   rw[← this] at h
   exact absurd h.1 (H.ne (show i<k+1 by omega) (by omega))
  ·rw[H.inj hi hj e];exact h
 obtain⟨i,hi,rfl,hr⟩:=pos a a1 a2
 obtain⟨j,hj,rfl,hs⟩:=pos b b1 b2
 refine (hnb _ _).2 ?_
 rcases Nat.lt_trichotomy i j with h|h|h
 ·exact .inl ⟨i,by omega,rfl,H.perf h hj hk hr hs⟩
 ·exact absurd (by rw[h]) hab
 ·exact .inr ⟨j,by omega,rfl,H.perf h hi hk hs hr⟩
end Go.Mono
namespace Go.Mono
open Go Go.Proofs Go.RowKit Go.Gr Go.Ms
def bsF (c:Nat→Nat):List Nat→Nat→Nat
 | [],b=>b
 | v::l,b=>bsF c l (if c b<c v then v else b)
theorem jO (c:Nat→Nat):∀(l:List Nat) (b:Nat),(bsF c l b=b∨bsF c l b∈l)∧c b≤c (bsF c l b)∧∀v∈l,c v≤c (bsF c l b)
 | [],b=>⟨.inl rfl,Nat.le_refl _,fun v hv=>by simp at hv⟩
 | v::l,b=>by
  obtain⟨h1,h2,h3⟩:=jO c l (if c b<c v then v else b)
  rw[bsF]
  by_cases hlt:c b<c v
  ·rw[if_pos hlt] at h1 h2 h3 ⊢
   refine⟨.inr (h1.elim (fun e=>by rw[e];exact List.mem_cons_self ..) fun h=>List.mem_cons_of_mem _ h),by omega,fun x hx=>?_⟩
   rcases List.mem_cons.1 hx with e|hx
   ·rw[e];exact h2
   ·exact h3 x hx
  ·rw[if_neg hlt] at h1 h2 h3 ⊢
   refine⟨h1.elim .inl fun h=>.inr (List.mem_cons_of_mem _ h),h2,fun x hx=>?_⟩
   rcases List.mem_cons.1 hx with e|hx
   ·rw[e];omega
   ·exact h3 x hx
def bsA (c:Nat→Nat)(L:BS):Nat:=bsF c (elems L) ((elems L).headD 0)
theorem mo {c:Nat→Nat}{L:BS}(h:card L≠0):L.getLsbD (bsA c L)=true∧∀v,L.getLsbD v=true→c v≤c (bsA c L):=by
 rw[← du] at h
 have hm:∀v,v∈elems L↔L.getLsbD v=true:=fun v=>aK.trans ⟨fun k=>k.2,fun k=>⟨aG k,k⟩⟩
 unfold bsA
 generalize elems L=l at h hm
 cases l with
 | nil=>exact absurd rfl h
 | cons x l=>
  obtain⟨h1,h2,h3⟩:=jO c (x::l) ((x::l).headD 0)
  refine⟨(hm _).1 (h1.elim (fun e=>by rw[e];exact List.mem_cons_self ..) id),fun v hv=>h3 v ((hm v).2 hv)⟩
open Classical in
noncomputable def msS (adj:Nat→Nat→Prop)(s:BS×(Nat→Nat)):BS×(Nat→Nat):=
 (del s.1 (bsA s.2 s.1:Nat),fun v=>if (del s.1 (bsA s.2 s.1:Nat)).getLsbD v=true∧Ms.Pt adj (fun y=>(del s.1 (bsA s.2 s.1:Nat)).getLsbD y=true∧s.2 y<s.2 v) (bsA s.2 s.1) v then s.2 v+1 else s.2 v)
noncomputable def msT (adj:Nat→Nat→Prop)(V:BS):Nat→BS×(Nat→Nat)
 | 0=>(V,fun _=>0)
 | k+1=>msS adj (msT adj V k)
theorem jP (adj:Nat→Nat→Prop)(s:BS×(Nat→Nat)):(msS adj s).1=del s.1 (bsA s.2 s.1:Nat):=by rw[msS]
open Classical in
theorem qX {adj:Nat→Nat→Prop}{s:BS×(Nat→Nat)}{v:Nat}(h1:(msS adj s).1.getLsbD v=true)(h2:Ms.Pt adj (fun y=>(msS adj s).1.getLsbD y=true∧s.2 y<s.2 v) (bsA s.2 s.1) v):(msS adj s).2 v=s.2 v+1:=by
 rw[jP] at h1 h2
 rw[msS]
 exact if_pos ⟨h1,h2⟩
open Classical in
theorem qY {adj:Nat→Nat→Prop}{s:BS×(Nat→Nat)}{v:Nat}(h2:¬Ms.Pt adj (fun y=>(msS adj s).1.getLsbD y=true∧s.2 y<s.2 v) (bsA s.2 s.1) v):(msS adj s).2 v=s.2 v:=by
 rw[jP] at h2
 rw[msS]
 exact if_neg fun h=>h2 h.2
open Classical in
theorem zB {adj:Nat→Nat→Prop}{s:BS×(Nat→Nat)}{v:Nat}(h2:¬(msS adj s).1.getLsbD v=true):(msS adj s).2 v=s.2 v:=by
 rw[jP] at h2
 rw[msS]
 exact if_neg fun h=>h2 h.1
theorem gO (adj:Nat→Nat→Prop)(V:BS)(k:Nat):msT adj V (k+1)=msS adj (msT adj V k):=by rw[msT]
theorem jQ {adj:Nat→Nat→Prop}{V:BS}{k:Nat}:(msT adj V (k+1)).1=del (msT adj V k).1 (bsA (msT adj V k).2 (msT adj V k).1:Nat):=by rw[gO,jP]
theorem qZ (f:Nat→BS)(h:∀k v,(f (k+1)).getLsbD v=true→(f k).getLsbD v=true)(m:Nat):∀d v,(f (m+d)).getLsbD v=true→(f m).getLsbD v=true
 | 0,v,hh=>hh
 | d+1,v,hh=>qZ f h m d v (h (m+d) v hh)
theorem zC {S:BS}{a v:Nat}(h:(del S (a:Int)).getLsbD v=true):S.getLsbD v=true:=by
 by_cases hlt:a<1024
 ·exact ((bT _ hlt).1 h).1
 ·unfold del at h
  rw[if_neg] at h
  ·exact h
  ·intro hf
   have:=cX.1 hf
   omega
theorem zF {adj:Nat→Nat→Prop}{V:BS}(m d v:Nat):(msT adj V (m+d)).1.getLsbD v=true→(msT adj V m).1.getLsbD v=true:=
 qZ (fun k=>(msT adj V k).1) (fun k v h=>by
  have h1:(msT adj V (k+1)).1.getLsbD v=true:=h
  rw[jQ] at h1
  exact zC h1) m d v
theorem zG {adj:Nat→Nat→Prop}{V:BS}(hs:∀a b,adj a b→adj b a)(hi:∀a b,adj a b→V.getLsbD a=true) :
  Run adj (card V) (fun k=>bsA (msT adj V k).2 (msT adj V k).1) (fun k v=>(msT adj V k).1.getLsbD v=true) (fun k=>(msT adj V k).2):=by
 have hcard:∀k,k≤card V→card (msT adj V k).1+k=card V:=by
  intro k
  induction k with
  | zero=>exact fun _=>Nat.add_zero _
  | succ k ih=>
   intro hk
   have ih:=ih (by omega)
   have h1:=fy (mo (c:=(msT adj V k).2) (L:=(msT adj V k).1) (fun e=>by omega)).1
   rw[jQ]
   omega
 have hb:∀k,k<card V→(msT adj V k).1.getLsbD (bsA (msT adj V k).2 (msT adj V k).1)=true∧∀v,(msT adj V k).1.getLsbD v=true→(msT adj V k).2 v≤(msT adj V k).2 (bsA (msT adj V k).2 (msT adj V k).1):=fun k hk=>mo (by have:=hcard k (by omega);omega)
 have hall:∀v,¬(msT adj V (card V)).1.getLsbD v=true:=fun v h=>by
  have h1:=hcard (card V) (Nat.le_refl _)
  have h2:=el h
  omega
 refine⟨hs,hi,fun k hk=>(hb k hk).1,fun k hk v=>by rw[jQ];exact bT _ (aG (hb k hk).1),hall,?_,fun k hk=>(hb k hk).2,fun k hk v h1 h2=>?_,fun k hk v h1 h2=>?_⟩
 rotate_left
 ·rw[gO] at h1 h2 ⊢
  exact qX h1 h2
 ·rw[gO] at h2 ⊢
  exact qY h2
 intro k hk v h
 have hk2:k=card V+(k - card V):=by omega
 generalize card V=m at hk2 ⊢
 rw[hk2] at h
 exact zF m (k - m) v h
end Go.Mono
namespace Go.Mono
open Go Go.Proofs Go.RowKit Go.Gr
def alF (nb:Int→BS):BS→List Nat→List BS
 | _,[]=>[]
 | S,v::l=>ins (ltr nb S v) (v:Int)::alF nb (ins S (v:Int)) l
def ga (L:List BS)(i:Nat):Bool:=(List.range L.length).any fun k=>decide (i≠k)&&decide (L.getD i 0 &&& ~~~L.getD k 0=0)
def outF (L:List BS):List BS:=((List.range L.length).filter fun i => !ga L i).map fun i=>L.getD i 0
section
variable {nb:Int→BS}
theorem ra (hir:∀a:Nat,¬(nb (a:Int)).getLsbD a=true):∀(l:List Nat) (S:BS),(∀v∈l,v<1024∧¬S.getLsbD v=true)→l.Nodup→∀C∈alF nb S l,∀x,C.getLsbD x=true→¬S.getLsbD x=true
 | [],_,_,_,C,hC=>by simp[alF] at hC
 | v::l,S,hl,hn,C,hC=>by
  obtain⟨hv,hvS⟩:=hl v (List.mem_cons_self ..)
  obtain⟨n1,n2⟩:=List.nodup_cons.1 hn
  intro x hx
  rcases List.mem_cons.1 hC with e|hC
  ·rw[e,aL _ hv] at hx
   rcases hx with hx|hx
   ·exact ((aP _ _ _).1 hx).2
   ·rw[hx];exact hvS
  ·have:=ra hir l (ins S (v:Int)) (fun y hy=>⟨(hl y (List.mem_cons_of_mem _ hy)).1,fun h=>by
    rcases (aL S hv).1 h with h|h
    ·exact (hl y (List.mem_cons_of_mem _ hy)).2 h
    ·exact n1 (h▸hy)⟩) n2 C hC x hx
   exact fun h=>this ((aL S hv).2 (.inl h))
theorem rc (hir:∀a:Nat,¬(nb (a:Int)).getLsbD a=true):∀(l:List Nat) (S:BS),(∀v∈l,v<1024∧¬S.getLsbD v=true)→l.Nodup→(alF nb S l).Pairwise (fun A B=>∃v,A.getLsbD v=true∧¬B.getLsbD v=true)∧(∀C∈alF nb S l,((card C:Nat):Int)≤pw nb S l+1)∧(l≠[]→∃C∈alF nb S l,((card C:Nat):Int)=pw nb S l+1)
 | [],_,_,_=>⟨List.Pairwise.nil,fun C hC=>by simp[alF] at hC,fun h=>absurd rfl h⟩
 | v::l,S,hl,hn=>by
  obtain⟨hv,hvS⟩:=hl v (List.mem_cons_self ..)
  obtain⟨n1,n2⟩:=List.nodup_cons.1 hn
  have hl':∀y∈l,y<1024∧¬(ins S (v:Int)).getLsbD y=true:=fun y hy=>⟨(hl y (List.mem_cons_of_mem _ hy)).1,fun h=>by
   rcases (aL S hv).1 h with h|h
   ·exact (hl y (List.mem_cons_of_mem _ hy)).2 h
   ·exact n1 (h▸hy)⟩
  obtain⟨i1,i2,i3⟩:=rc hir l (ins S (v:Int)) hl' n2
  have hoff:=ra hir l (ins S (v:Int)) hl' n2
  have hvC:(ins (ltr nb S v) (v:Int)).getLsbD v=true:=(aL _ hv).2 (.inr rfl)
  have hvX:¬(ltr nb S v).getLsbD v=true:=fun h=>hir v ((aP _ _ _).1 h).1
  have hde:del (ins (ltr nb S v) (v:Int)) (v:Int)=ltr nb S v:=bI fun i=>by
   rw[bT _ hv,aL _ hv]
   constructor
   ·rintro⟨h|h,h'⟩
    ·exact h
    ·exact absurd h h'
   ·intro h
    exact⟨.inl h,fun e=>hvX (by rw[e] at h;exact h)⟩
  have hcd:card (ins (ltr nb S v) (v:Int))=card (ltr nb S v)+1:=by
   have h1:=fy hvC
   rw[hde] at h1
   exact h1
  refine⟨List.pairwise_cons.2 ⟨fun B hB=>⟨v,hvC,fun h=>hoff B hB v h ((aL S hv).2 (.inr rfl))⟩,i1⟩,fun C hC=>?_,fun _=>?_⟩
  ·rw[pw]
   rcases List.mem_cons.1 hC with e|hC
   ·rw[e,hcd];omega
   ·have:=i2 C hC;omega
  ·rw[pw]
   by_cases hm:pw nb (ins S (v:Int)) l≤((card (ltr nb S v):Nat):Int)
   ·exact⟨_,List.mem_cons_self ..,by rw[hcd];omega⟩
   ·have hne:l≠[]:=fun e=>hm (by rw[e];show (-1:Int)≤_;omega)
    obtain⟨C,c1,c2⟩:=i3 hne
    exact⟨C,List.mem_cons_of_mem _ c1,by omega⟩
end
theorem zH {L:List BS}{m:Int}(hp:L.Pairwise fun A B=>∃v,A.getLsbD v=true∧¬B.getLsbD v=true)(hm:∀C∈L,((card C:Nat):Int)≤m)(hx:∃C∈L,((card C:Nat):Int)=m) :
  (∀C∈outF L,((card C:Nat):Int)≤m)∧∃C∈outF L,((card C:Nat):Int)=m:=by
 have hget:∀i,i<L.length→L.getD i 0∈L:=fun i hi=>by
  rw[List.getD_eq_getElem?_getD,List.getElem?_eq_getElem hi];exact List.getElem_mem hi
 constructor
 ·intro C hC
  obtain⟨i,hi,rfl⟩:=List.mem_map.1 hC
  exact hm _ (hget i (List.mem_range.1 (List.mem_filter.1 hi).1))
 ·obtain⟨C,hC,hc⟩:=hx
  obtain⟨i,hi,rfl⟩:=List.getElem_of_mem hC
  have hD:∀k (hk:k<L.length),L.getD k 0=L[k]:=fun k hk=>by rw[List.getD_eq_getElem?_getD,List.getElem?_eq_getElem hk];rfl
  refine⟨L[i],List.mem_map.2 ⟨i,List.mem_filter.2 ⟨List.mem_range.2 hi,?_⟩,hD i hi⟩,hc⟩
  rw[Bool.not_eq_true',ga,List.any_eq_false]
  intro k hk hh
  have hk:=List.mem_range.1 hk
  rw[Bool.and_eq_true,decide_eq_true_eq,decide_eq_true_eq,hD i hi,hD k hk,sub_zero] at hh
  obtain⟨h1,h2⟩:=hh
  rcases Nat.lt_or_gt_of_ne h1 with h|h
  ·obtain⟨v,v1,v2⟩:=List.pairwise_iff_getElem.1 hp i k hi hk h
   exact v2 (h2 v v1)
  ·obtain⟨v,v1,v2⟩:=List.pairwise_iff_getElem.1 hp k i hk hi h
   have h3:=hm _ (List.getElem_mem hk)
   have h4:=fq h2 v1 v2
   omega
theorem gP {α:Type}[DecidableEq α]:∀(l m:List α),l.Nodup→(∀x∈l,x∈m)→l.length≤m.length
 | [],m,_,_=>Nat.zero_le _
 | x::l,m,hn,hs=>by
  obtain⟨n1,n2⟩:=List.nodup_cons.1 hn
  have hx:=hs x (List.mem_cons_self ..)
  have h1:=gP l (m.erase x) n2 fun y hy=>by
   have hyx:y≠x:=fun e=>n1 (e▸hy)
   exact (List.mem_erase_of_ne hyx).2 (hs y (List.mem_cons_of_mem _ hy))
  have h2:=List.length_erase_of_mem hx
  have h3:=List.length_pos_of_mem hx
  rw[List.length_cons];omega
theorem rf {α β:Type}{f:α→β}:∀{l:List α},l.Nodup→(∀a∈l,∀b∈l,f a=f b→a=b)→(l.map f).Nodup
 | [],_,_=>List.nodup_nil
 | x::l,hn,hf=>by
  obtain⟨n1,n2⟩:=List.nodup_cons.1 hn
  rw[List.map_cons]
  refine List.nodup_cons.2 ⟨fun h=>?_,rf n2 fun a ha b hb=>hf a (List.mem_cons_of_mem _ ha) b (List.mem_cons_of_mem _ hb)⟩
  obtain⟨y,hy,e⟩:=List.mem_map.1 h
  exact n1 (hf y (List.mem_cons_of_mem _ hy) x (List.mem_cons_self ..) e▸hy)
theorem zI (S:BS):(elems S).Nodup:=List.Nodup.sublist List.filter_sublist List.nodup_range
structure fA (nb:Int→BS)(S:BS)(l:List Nat)(of:Nat→Nat)(many:Nat):Prop where
 low:∀v∈l,of v<many
 dif:∀a∈l,∀b∈l,(nb (a:Int)).getLsbD b=true→of a≠of b
 num:(many:Int)=pw nb S l+1
theorem fA.nil {nb:Int→BS}{S:BS}:fA nb S [] (fun _=>0) 0:=⟨by simp,by simp,rfl⟩
theorem fA.step {nb:Int→BS}{S:BS}{v c:Nat}{l:List Nat}{of:Nat→Nat}{many:Nat}(hs:∀i j:Nat,(nb (i:Int)).getLsbD j=true→(nb (j:Int)).getLsbD i=true)(hv:v<1024)(hvl:v ∉ l)(hir:∀a:Nat,¬(nb (a:Int)).getLsbD a=true)
  (hl:∀a,(nb (v:Int)).getLsbD a=true→(a∈l↔¬S.getLsbD a=true)) (hp:Smp nb S v) (h:fA nb (ins S (v:Int)) l of many)
  (h1:∀a∈l,(nb (v:Int)).getLsbD a=true→of a≠c) (h2:∀d,d<c→∃a∈l,(nb (v:Int)).getLsbD a=true∧of a=d) :
  fA nb S (v::l) (fun x=>if x=v then c else of x) (max many (c+1)):=by
 have hX:∀a,(ltr nb S v).getLsbD a=true↔(nb (v:Int)).getLsbD a=true∧a∈l:=fun a=>by
  rw[ltr,aP]
  exact⟨fun k=>⟨k.1,(hl a k.1).2 k.2⟩,fun k=>⟨k.1,(hl a k.1).1 k.2⟩⟩
 have hnev:∀a∈l,a≠v:=fun a ha e=>hvl (e▸ha)
 have hc:c≤card (ltr nb S v):=by
  have h3:=gP (List.range c) ((elems (ltr nb S v)).map of) List.nodup_range fun d hd=>by
   obtain⟨a,a1,a2,a3⟩:=h2 d (List.mem_range.1 hd)
   exact List.mem_map.2 ⟨a,aK.2 ⟨aG a2,(hX a).2 ⟨a2,a1⟩⟩,a3⟩
  rw[List.length_range,List.length_map,du] at h3
  exact h3
 have hm:card (ltr nb S v)+1≤max many (c+1):=by
  have hin:∀a∈elems (ltr nb S v),(nb (v:Int)).getLsbD a=true∧a∈l:=fun a ha=>(hX a).1 (aK.1 ha).2
  have hnd:((elems (ltr nb S v)).map of).Nodup:=rf (zI _) fun a ha b hb e=>by
   obtain⟨a1,a2⟩:=hin a ha
   obtain⟨b1,b2⟩:=hin b hb
   refine Classical.byContradiction fun hab=>?_
   exact h.dif a a2 b b2 (hp a b a1 b1 ((hl a a1).1 a2) ((hl b b1).1 b2) hab) e
  have h3:=gP (c::(elems (ltr nb S v)).map of) (List.range (max many (c+1))) (List.nodup_cons.2 ⟨fun hh=>by
   obtain⟨a,ha,e⟩:=List.mem_map.1 hh
   exact h1 a (hin a ha).2 (hin a ha).1 e,hnd⟩) fun d hd=>by
    refine List.mem_range.2 ?_
    rcases List.mem_cons.1 hd with rfl|hd
    ·omega
    ·obtain⟨a,ha,e⟩:=List.mem_map.1 hd
     have:=h.low a (hin a ha).2
     omega
  rw[List.length_cons,List.length_map,du,List.length_range] at h3
  exact h3
 have fv:(fun x=>if x=v then c else of x) v=c:=if_pos rfl
 have fl:∀a∈l,(fun x=>if x=v then c else of x) a=of a:=fun a ha=>if_neg (hnev a ha)
 generalize (fun x=>if x=v then c else of x)=f at fv fl
 refine⟨fun x hx=>?_,fun a ha b hb hab=>?_,?_⟩
 ·rcases List.mem_cons.1 hx with e|hx
  ·rw[e,fv];omega
  ·rw[fl x hx]
   have:=h.low x hx
   omega
 ·rcases List.mem_cons.1 ha with e|ha
  ·rw[e] at hab
   rcases List.mem_cons.1 hb with e'|hb
   ·rw[e'] at hab;exact absurd hab (hir _)
   ·rw[e,fv,fl b hb]
    exact Ne.symm (h1 b hb hab)
  ·rcases List.mem_cons.1 hb with e'|hb
   ·rw[e'] at hab
    rw[e',fv,fl a ha]
    exact h1 a ha (hs _ _ hab)
   ·rw[fl a ha,fl b hb]
    exact h.dif a ha b hb hab
 ·have h4:=h.num
  rw[pw]
  omega
def wo (nb:Int→BS)(u v:Nat):Int→BS:=fun x=>if x=(u:Int) then del (nb x) (v:Int) else if x=(v:Int) then del (nb x) (u:Int) else nb x
section
variable {nb:Int→BS}
structure Cyc (nb:Int→BS)(p:Nat→Nat)(n:Nat):Prop where
 three:3≤n
 inj:∀i j,i<n→j<n→p i=p j→i=j
 adj:∀i,i+1<n→(nb (p i:Int)).getLsbD (p (i+1))=true
 last:(nb (p (n - 1):Int)).getLsbD (p 0)=true
end
section
variable {nb:Int→BS}
theorem Cyc.rot {p:Nat→Nat}{n:Nat}(h:Cyc nb p n):Cyc nb (fun i=>if i=n - 1 then p 0 else p (i+1)) n:=by
 have h3:=h.three
 refine⟨h3,fun i j hi hj hij=>?_,fun i hi=>?_,?_⟩
 ·try dsimp only at hij
  split at hij <;> split at hij
  ·omega
  ·have:=h.inj _ _ (by omega) (by omega) hij;omega
  ·have:=h.inj _ _ (by omega) (by omega) hij;omega
  ·have:=h.inj _ _ (by omega) (by omega) hij;omega
 ·try dsimp only
  rw[if_neg (by omega)]
  split
  ·have:=h.last
   rwa [show n - 1=i+1 by omega] at this
  ·exact h.adj (i+1) (by omega)
 ·try dsimp only
  rw[if_pos rfl,if_neg (by omega)]
  exact h.adj 0 (by omega)
theorem Cyc.at {n:Nat}:∀(i:Nat) (p:Nat→Nat),Cyc nb p n→i<n→∃p',Cyc nb p' n∧p' 0=p i∧∀j,j<n→∃j',j'<n∧p' j=p j':=by
 intro i
 induction i with
 | zero=>intro p h _;exact⟨p,h,rfl,fun j hj=>⟨j,hj,rfl⟩⟩
 | succ i ih=>
  intro p h hi
  obtain⟨p',h1,h2,h4⟩:=ih _ h.rot (by omega)
  rw[if_neg (by omega)] at h2
  refine⟨p',h1,h2,fun j hj=>?_⟩
  obtain⟨j',hj',e⟩:=h4 j hj
  split at e
  ·exact⟨0,by omega,e⟩
  ·exact⟨j'+1,by omega,e⟩
theorem zJ (p:Nat→Nat):∀n,0<n→∃i,i<n∧∀j,j<n→p i≤p j:=by
 intro n
 induction n with
 | zero=>intro h;omega
 | succ n ih=>
  intro _
  by_cases h0:n=0
  ·exact⟨0,by omega,fun j hj=>by rw[show j=0 by omega];exact Nat.le_refl _⟩
  obtain⟨i,hi,h⟩:=ih (by omega)
  by_cases hle:p i≤p n
  ·exact⟨i,by omega,fun j hj=>by
    by_cases hjn:j=n
    ·rw[hjn];exact hle
    ·exact h j (by omega)⟩
  ·exact⟨n,by omega,fun j hj=>by
    by_cases hjn:j=n
    ·rw[hjn];exact Nat.le_refl _
    ·have:=h j (by omega);omega⟩
theorem Cyc.least {p:Nat→Nat}{n:Nat}(h:Cyc nb p n):∃p',Cyc nb p' n∧∀j,j<n→p' 0≤p' j:=by
 have h3:=h.three
 obtain⟨i,hi,hm⟩:=zJ p n (by omega)
 obtain⟨p',h1,h2,h4⟩:=Cyc.at i p h hi
 refine⟨p',h1,fun j hj=>?_⟩
 obtain⟨j',hj',e⟩:=h4 j hj
 rw[h2,e]
 exact hm j' hj'
theorem Cyc.within {p:Nat→Nat}{n:Nat}{S:BS}{nb':Int→BS}(h:Cyc nb p n)(hS:∀i,i<n→S.getLsbD (p i)=true)(hn:∀i j:Nat,S.getLsbD i=true→S.getLsbD j=true→(nb (i:Int)).getLsbD j=true→(nb' (i:Int)).getLsbD j=true):Cyc nb' p n:=
 have h3:=h.three
 ⟨h3,h.inj,fun i hi=>hn _ _ (hS i (by omega)) (hS _ hi) (h.adj i hi),hn _ _ (hS _ (by omega)) (hS _ (by omega)) h.last⟩
end
theorem mp {γ:Type}(after:γ→Bool)(x y:γ)(l:List γ):y∈bM after x l↔y=x∨y∈l:=by
 have h:y∈l↔y∈l.takeWhile (fun y => !after y)∨y∈l.dropWhile (fun y => !after y):=by
  rw[← List.mem_append,List.takeWhile_append_dropWhile]
 rw[bM,List.mem_append,List.mem_cons,h]
 constructor
 ·rintro (h|h|h)
  ·exact .inr (.inl h)
  ·exact .inl h
  ·exact .inr (.inr h)
 ·rintro (h|h|h)
  ·exact .inr (.inl h)
  ·exact .inl h
  ·exact .inr (.inr h)
def eG (g:GT)(a b:Nat)(c:Int×Int):GT:=(g.1,dj g.2 (ends (a:Int) (b:Int),c))
theorem mq {g:GT}{a b:Nat}{c:Int×Int}(i j:Nat):Adj (eG g a b c) i j↔Adj g i j∨(i=a∧j=b)∨(i=b∧j=a):=by
 have he:ends (a:Int) (b:Int)=((a:Int),(b:Int))∨ends (a:Int) (b:Int)=((b:Int),(a:Int)):=by
  rcases Nat.le_total a b with h|h
  ·left;exact Prod.ext (by show min (a:Int) b=a;omega) (by show max (a:Int) b=b;omega)
  ·right;exact Prod.ext (by show min (a:Int) b=b;omega) (by show max (a:Int) b=a;omega)
 have hp:∀(p q r s:Nat),((p:Int),(q:Int))=((r:Int),(s:Int))↔p=r∧q=s:=fun p q r s=>by
  rw[Prod.mk.injEq]
  constructor <;> (rintro⟨h1,h2⟩;constructor <;> omega)
 constructor
 ·rintro⟨x,hx,h⟩
  rcases (mp _ _ _ _).1 hx with rfl|hx
  ·right
   rcases he with he|he <;> rcases h with h|h <;> (have h':=h;dsimp only at h';rw[he] at h';obtain⟨h1,h2⟩:=(hp _ _ _ _).1 h';subst h1;subst h2;simp)
  ·exact .inl ⟨x,hx,h⟩
 ·rintro (⟨x,hx,h⟩|h)
  ·exact⟨x,(mp _ _ _ _).2 (.inr hx),h⟩
  ·refine⟨(ends (a:Int) (b:Int),c),(mp _ _ _ _).2 (.inl rfl),?_⟩
   rcases h with ⟨rfl,rfl⟩|⟨rfl,rfl⟩
   ·exact he
   ·exact he.symm
def Gn (N:Nat)(g:GT):VA:=⟨fun v w=>(v=.pointer none∧g=([],[]))∨(Dv (ptE (grE N)) G0 (some g)).p v w,fun v w w' k h=>h.imp id fun h=>VA.st _ _ _ _ k h⟩
theorem Gn.of {G:Nat→Prop}{N:Nat}{g:GT}{v:Value}{w:World}(h:(Dv (ptE (grE N)) G (some g)).p v w):(Gn N g).p v w:=.inr (Dv.weak h fun b _ hb=>hb.elim)

theorem Ds.gro {D:List Nat}{w w':World}{row:Option Nat}(h:Ds D w)(hg:w.grownBy w' row)(hb:∀d∈D,row≠some d):Ds D w':=⟨h.1,fun d hd=>(hg.block d (h.lt hd) (fun he=>hb d hd he.symm)).trans (h.2 d hd)⟩
end Go.Mono
namespace Go.Mono
open Go Go.Proofs Go.RowKit
def jR (te:TypeId)(G:Nat→Prop)(w:World)(xs:List Int)(v:Value):Prop:=
 (v=.slice none 0 0∧xs=[])∨∃b cap cur,v=.slice (some ⟨b,0,none⟩) xs.length cap∧xs.length≤cap∧¬G b∧Blk w b cur te∧cur.toList.take xs.length=xs.map (Value.int .i64)
def zK (te:TypeId):Enc (List Int) where
 k:=1
 agg:=false
 r:=fun G w xs cs=>∃v,cs=[v]∧jR te G w xs v
 pos:=by decide
 k1:=fun _=>rfl
 len:=fun⟨v,h,_⟩=>by rw[h];rfl
 one:=fun⟨v,h,hv⟩ u hu=>by
  rw[h] at hu
  simp at hu
  subst hu
  rcases hv with ⟨rfl,_⟩|⟨b,cap,cur,rfl,_⟩ <;> rfl
 pres:=fun⟨v,h,hv⟩ k l=>⟨v,h,by
  rcases hv with hv|⟨b,cap,cur,h1,h2,h3,h4,h5⟩
  ·exact .inl hv
  ·exact .inr ⟨b,cap,cur,h1,h2,h3,(k b h4.lt h3).trans h4,h5⟩⟩
 weak:=fun⟨v,h,hv⟩ k=>⟨v,h,by
  rcases hv with hv|⟨b,cap,cur,h1,h2,h3,h4,h5⟩
  ·exact .inl hv
  ·exact .inr ⟨b,cap,cur,h1,h2,fun hg=>h3 (k _ h4.lt hg),h4,h5⟩⟩
section
variable {te ty B B':Nat}{G G':Nat→Prop}{w w':World}{xs:List Int}{v:Value}{out:List (List Int)}
theorem Dv.own {v:Value}{xs:List Int}:(Dv (zK te) G xs).p v w↔jR te G w xs v:=
 ⟨fun⟨cs,⟨u,h,hu⟩,hv⟩=>by subst h;rw[hv];exact hu,fun h=>⟨[v],⟨v,rfl,h⟩,rfl⟩⟩
theorem rh:∀l:List Int,Cells aA G w l (l.map (Value.int .i64))
 | []=>rfl
 | x::l=>⟨[.int .i64 x],l.map (Value.int .i64),rfl,rfl,rh l⟩
theorem jR.sl (h:jR te G w xs v):SlR aA G w xs v:=by
 rcases h with h|⟨b,cap,cur,h1,h2,h3,h4,h5⟩
 ·exact .inl h
 ·refine .inr ⟨_,cap,xs.map (Value.int .i64),h1,h2,h3,h4.lt,rh xs,fun i u hu=>?_⟩
  have hi:i<xs.length:=by have:=(List.getElem?_eq_some_iff.1 hu).1;rwa [List.length_map] at this
  rw[← h5,List.getElem?_take_of_lt hi,Array.getElem?_toList] at hu
  rw[Addr.add_lit,Nat.zero_add,h4.cell i];exact hu
theorem OwX.low {α:Type}{e:Enc α}{xs:List α}(h:OwX e ty B G w xs v)(hB:B'≤B):OwX e ty B' G w xs v:=by
 obtain⟨cs,⟨h1,h2⟩,h3⟩:=h.own
 refine⟨⟨cs,⟨h1,?_⟩,h3⟩,Nat.le_trans hB h.base⟩
 rcases h2 with h2|⟨g,cap,cur,a1,a2,a3⟩
 ·exact .inl h2
 ·exact .inr ⟨g,cap,cur,a1,Nat.le_trans hB a2,a3⟩
def ShW (ty te N n:Nat)(v:Value)(w:World):Prop:=n=0∧v=.slice none 0 0∨∃b cap cur,v=.slice (some ⟨b,0,none⟩) n cap∧Blk w b cur ty∧N≤b∧n≤cap∧n≤cur.size ∧
 ∀i,i<n→∃c m p cs,cur[i]?=some (.slice (some ⟨c,0,none⟩) m p)∧1≤m∧N≤c∧Blk w c cs te∧0<cs.size
theorem ShW.ext {ty te N n:Nat}(h:ShW ty te N n v w)(e:Ext w w'):ShW ty te N n v w':=by
 rcases h with h|⟨b,cap,cur,h1,h2,h3,h4,h5,h6⟩
 ·exact .inl h
 ·exact .inr ⟨b,cap,cur,h1,h2.ext e,h3,h4,h5,fun i hi=>by
   obtain⟨c,m,p,cs,a1,a2,a3,a4,a5⟩:=h6 i hi
   exact⟨c,m,p,cs,a1,a2,a3,a4.ext e,a5⟩⟩
end
end Go.Mono
namespace Go.Mono
open Go Go.Proofs Go.RowKit
open Go.WideElems (Fit rd rg pl rd_val elemAt findIdx_arr findIdx_born set_self)
open Go.ChangeMaps (modify_eq_set)
open Go.ChangeMaps (setBlock)
section
variable {P:Program}{α β:Type}{V:KV P α β}{w:World}{b n:Nat}{l:List (α×β)}
theorem zL {γ:Type}{a:Array γ}{i:Nat}{x:γ}(h:a[i]?=some x):a.setIfInBounds i x=a:=by
 apply Array.ext'
 rw[Array.toList_setIfInBounds]
 exact set_self _ _ _ (by simpa using h)
theorem MpR.slot {t:TypeId}(h:MpR V w b n l)(ht:P.underlying t=some (.map V.k V.e)){x:α}{c:β}(hx:V.ok x)(hm:(x,c)∈l) :
  ∃v0 st:Value,(Instr.mapEntry t (.map (some b)) (V.kv x)).run P w=.ok (.tuple #[v0,st]) w ∧
   ∀w2 val,w2.heap[b]?=w.heap[b]?→(Instr.entryStore t (.map (some b)) st val).run P w2=(Instr.mapUpdate t (.map (some b)) (V.kv x) val).run P w2:=by
 obtain⟨es,⟨arr,clock,hb,F,hs,hD⟩,hp,hok,hpw⟩:=h
 have hkey:=V.key x hx
 obtain⟨s1,s2,s3⟩:=F.stamped
 have hthere:∃e0∈arr.toList,e0.key=V.kv x:=by
  have h1:V.enc (x,c)∈es:=hp.mem_iff.2 (List.mem_map.2 ⟨_,hm,rfl⟩)
  cases hD
  have h2:V.enc (x,c)∈arr.toList.map (rg P V.k V.R):=by
   have key:∀(m:List (Lit×DataW Unit)) (p:Lit×DataW Unit),p∈m.foldr DataW.insert []→p∈m:=by
    intro m
    induction m with
    | nil=>intro p h;exact h
    | cons a m ih=>
     intro p h
     rw[List.foldr_cons] at h
     have:=(jt a (m.foldr DataW.insert [])).mem_iff.1 h
     rcases List.mem_cons.1 this with h|h
     ·rw[h];exact List.mem_cons_self ..
     ·exact List.mem_cons_of_mem _ (ih p h)
   exact key _ _ h1
  obtain⟨e0,he0,hr⟩:=List.mem_map.1 h2
  obtain⟨y,hy⟩:=F.reads e0 he0
  have m1:=Go.WideElems.rd_key hy
  rw[Go.WideElems.rg_of hy] at hr
  have m2:y.1=V.kl x:=by rw[hr];rfl
  rw[m2] at m1
  exact⟨e0,he0,V.K.inj m1 hkey⟩
 rcases V.K.find w hkey arr.toList F.keys with ⟨h1,h2⟩|⟨j,e0,h1,h2,h3⟩
 ·obtain⟨e0,he0,hk⟩:=hthere
  exact absurd hk (h2 e0 he0)
 ·have hj:arr[j]?=some e0:=by simpa using h2
  have hsame:arr.modify j (fun e=>{ e with key:=V.kv x })=arr:=by
   apply Array.ext'
   rw[Array.toList_modify,modify_eq_set _ _ _ _ h2]
   have:({ e0 with key:=V.kv x }:MapEntry)=e0:=by rw[← h3]
   rw[this]
   exact set_self _ _ _ h2
  refine⟨e0.val,goInt e0.born,?_,fun w2 val hw2=>?_⟩
  ·have hset:({ w with heap:=w.heap.setIfInBounds b (.map arr clock) }:World)=w:=by rw[zL hb]
   simp[Instr.mapEntry,run_underlying ht,MapKept.run_getObj_map hb,V.K.check w false hkey,h1,hj,h3,V.K.stays w hkey,hsame,MapKept.run_setObj_map _ hb,Result.andThen,hset]
  ·have hb2:=hw2.trans hb
   have hidx:arr.findIdx? (fun e=>((e.born:Nat):Int)==((e0.born:Nat):Int))=some j:=by
    rw[findIdx_arr]
    exact findIdx_born s2 h2
   have hmod:arr.modify j (fun e=>{ e with val:=val })=arr.modify j (fun e'=>{ e' with key:=V.kv x,val:=val }):=by
    apply Array.ext'
    rw[Array.toList_modify,Array.toList_modify,modify_eq_set _ _ _ _ h2,modify_eq_set _ _ _ _ h2,← h3]
   have h1':(Instr.findKey V.k (V.kv x) arr.toList).run P w2=.ok (some (j,e0.val)) w2:=by
    rcases V.K.find w2 hkey arr.toList F.keys with ⟨q1,q2⟩|⟨j',e',q1,q2,q3⟩
    ·exact absurd h3 (q2 e0 (List.mem_of_getElem? h2))
    ·have hee:j'=j∧e'=e0:=by
      have hjl:j'<(arr.toList.map (·.key)).length:=by rw[List.length_map];exact (List.getElem?_eq_some_iff.1 q2).1
      have hjj:j'=j:=(List.getElem?_inj hjl s3).1 (by rw[List.getElem?_map,List.getElem?_map,q2,h2];show some e'.key=some e0.key;rw[q3,h3])
      refine⟨hjj,?_⟩
      rw[hjj,h2] at q2
      exact (Option.some.inj q2).symm
     rw[hee.1,hee.2] at q1
     exact q1
   simp[Instr.entryStore,MapKept.run_getObj_map hb2,asInt,asIntOf,goInt,hidx,hmod,MapKept.run_setObj_map _ hb2,Result.andThen]
   simp[Instr.mapUpdate,run_underlying ht,MapKept.run_getObj_map hb2,V.K.check w2 false hkey,h1',hj,h3,V.K.stays w2 hkey,MapKept.run_setObj_map _ hb2,Result.andThen]
end
section ops
variable {P:Program}{w0:World}{L:Env}{dst:Option Tmp}{ty:TypeId}{pos:String}{aft:Array Edge}{g:Option (Nat×Bool)}{x y s:Operand}{t b n:Nat}
variable {α β:Type}{V:KV P α β}{l:List (α×β)}{i:α}{c:β}
end ops
end Go.Mono
namespace Go.Mono
open Go Go.Proofs Go.RowKit Go.Gr

theorem GrR.gr {w w':World}{bg bv be n b:Nat}{g:GT}(h:GrR w bg bv be n g)(hg:w.grownBy w' (some b))(h1:bg≠b)(h2:bv≠b)(h3:be≠b):GrR w' bg bv be n g:=
 ⟨h.blk.gr hg h1,h.vs.gr hg (fun h=>h2 (by cases h;rfl)),h.es.gr hg (fun h=>h3 (by cases h;rfl)),h.ne⟩
end Go.Mono
namespace Go.Mono
open Go Go.Proofs Go.RowKit

theorem ox.hi {xs:List RB}(V:ox xs):∀i,i<xs.length→up xs i<xs.length:=fun i hi=>(V.range i hi).2

end Go.Mono
namespace Go.Mono
open Go Go.Proofs Go.RowKit Go.Gr

def gs (l:List BS)(i:Nat):BS:=(l[i]?).getD 0
def eD (u v:Int):DT:=(2,u,v,0,0)
theorem jS (g:GT)(u v:Int):bu g (eD u v)=0↔(bY u=true∧bY v=true∧u≠v∧inV g.1 u=true∧inV g.1 v=true∧inE g.2 u v=false∧g.2.length<1024):=by
 have h1:decide ((1024:Int)≤(g.2.length:Nat))=true↔¬g.2.length<1024:=by rw[decide_eq_true_eq];omega
 unfold bu tests eD
 simp only[eI,Gr.pairs,Gr.weighs,Gr.heavy]
 generalize hq:decide ((1024:Int)≤(g.2.length:Nat))=q at h1
 by_cases huv:u=v
 ·subst huv
  cases bY u <;> simp
 ·have h2:(u==v)=false:=beq_eq_false_iff_ne.2 huv
  cases bY u <;> cases bY v <;> cases inV g.1 u <;> cases inV g.1 v <;> cases inE g.2 u v <;> cases q <;> simp_all
def apS (g:GT)(u v:Int):GT:=if bu g (eD u v)=0 then (g.1,dj g.2 (ends u v,(0,0))) else g
theorem ri (g:GT)(u v:Int):(apS g u v).1=g.1:=by rw[apS];split <;> rfl
theorem zM (g:GT)(u v:Int):(apS g u v).2.length≤g.2.length+1:=by
 rw[apS]
 split
 ·show (dj g.2 _).length≤_
  rw[dj,iz];exact Nat.le_refl _
 ·exact Nat.le_succ _
theorem rj {l:List ET}{u v:Int}(h:inE l u v=false):∀y∈l,y.1≠ends u v:=fun y hy he=>by
 rw[inE,List.any_eq_false] at h
 exact h y hy (by rw[he];exact decide_eq_true rfl)
theorem zN {g:GT}(G:Gr.Ok g)(u v:Int):Gr.Ok (apS g u v):=by
 rw[apS]
 split
 ·rename_i h
  obtain⟨h1,h2,h3,h4,h5,h6,h7⟩:=(jS g u v).1 h
  have hnot:=rj h6
  have hp:=iA (fun y:ET=>lt2 (ends u v) y.1) (ends u v,((0:Int),(0:Int))) g.2
  refine⟨G.sv,jv (γ:=ET) (κ:=Int×Int) (lt:=lt2) (fun y=>y.1) (fun h k=>lj h k) (fun h k=>nZ h k) (x:=(ends u v,((0:Int),(0:Int)))) G.se fun y hy=>(hnot y hy).symm,G.rv,fun y hy=>?_,?_⟩
  ·rcases List.mem_cons.1 (hp.mem_iff.1 hy) with rfl|hy
   ·refine⟨by simp only[ends];omega,?_,?_,⟨(by show (0:Int)≤0;decide),(by show (0:Int)<256;decide)⟩,(by show heavy 0=false;decide)⟩
    ·simp only[ends];by_cases hm:u≤v
     ·rw[Int.min_eq_left hm];exact h4
     ·rw[Int.min_eq_right (by omega)];exact h5
    ·simp only[ends];by_cases hm:u≤v
     ·rw[Int.max_eq_right hm];exact h5
     ·rw[Int.max_eq_left (by omega)];exact h4
   ·exact G.re y hy
  ·simp only[dj,iz];omega
 ·exact G
theorem rk (g:GT)(u v:Int):(apP g (eD u v)).1.Perm (apS g u v).1∧(apP g (eD u v)).2.Perm (apS g u v).2:=by
 rw[apP,apS]
 split
 ·rename_i h
  obtain⟨_,_,_,_,_,h6,_⟩:=(jS g u v).1 h
  have hnot:=rj h6
  refine⟨List.Perm.refl _,?_⟩
  show (bB g.2 (ends u v) ((0:Int),(0:Int))).Perm (dj g.2 (ends u v,(0,0)))
  have h1:=lQ (l:=g.2) (m:=g.2) (k:=ends u v) (c:=((0:Int),(0:Int))) (List.Perm.refl _) hnot
  refine h1.trans ((List.perm_append_singleton _ _).trans ?_)
  exact (iA (fun y:ET=>lt2 (ends u v) y.1) (ends u v,((0:Int),(0:Int))) g.2).symm
 ·exact⟨List.Perm.refl _,List.Perm.refl _⟩
theorem rl {u:Int}(h:bY u=true):∃n:Nat,u=n:=by
 have:=jy h
 exact⟨u.toNat,by omega⟩
theorem mr {g:GT}{u v:Int}(h:bu g (eD u v)=0):∃p q:Nat,u=(p:Int)∧v=(q:Int)∧p≠q∧apS g u v=eG g p q (0,0)∧inV g.1 (p:Int)=true:=by
 obtain⟨h1,h2,h3,h4,h5,h6,h7⟩:=(jS g u v).1 h
 obtain⟨p,rfl⟩:=rl h1
 obtain⟨q,rfl⟩:=rl h2
 exact⟨p,q,rfl,rfl,by omega,by rw[apS,if_pos h];rfl,h4⟩
theorem rp {g:GT}{u v:Int}{i j:Nat}(h:Adj g i j):Adj (apS g u v) i j:=by
 by_cases hw:bu g (eD u v)=0
 ·obtain⟨p,q,hu,hv,_,he,hp⟩:=mr hw
  rw[he,mq];exact .inl h
 ·rw[apS,if_neg hw];exact h
theorem rq {g:GT}(G:Gr.Ok g)(hl:g.2.length<1024){p q:Nat}(hp:(ai g.1).getLsbD p=true)(hq:(ai g.1).getLsbD q=true)(hpq:p≠q):Adj (apS g (p:Int) (q:Int)) p q:=by
 have h4:=(fx G).1 hp
 have h5:=(fx G).1 hq
 have hb1:=aG hp
 have hb2:=aG hq
 by_cases h6:inE g.2 (p:Int) (q:Int)=false
 ·have hw:bu g (eD (p:Int) (q:Int))=0:=(jS g _ _).2 ⟨by simp[bY];omega,by simp[bY];omega,by omega,h4,h5,h6,hl⟩
  obtain⟨p',q',hu,hv,_,he,_⟩:=mr hw
  obtain rfl:p'=p:=by omega
  obtain rfl:q'=q:=by omega
  rw[he,mq];exact .inr (.inl ⟨rfl,rfl⟩)
 ·refine rp ?_
  have h7:inE g.2 (p:Int) (q:Int)=true:=by simpa using h6
  rw[inE,List.any_eq_true] at h7
  obtain⟨x,hx,he⟩:=h7
  refine⟨x,hx,?_⟩
  rw[of_decide_eq_true he]
  rcases Nat.le_total p q with h|h
  ·left;exact Prod.ext (by show min (p:Int) q=p;omega) (by show max (p:Int) q=q;omega)
  ·right;exact Prod.ext (by show min (p:Int) q=q;omega) (by show max (p:Int) q=p;omega)
end Go.Mono
namespace Go.Mono
open Go Go.Proofs Go.RowKit
def bO (nb:Int→BS)(a b:Nat):Prop:=(nb (a:Int)).getLsbD b=true
end Go.Mono
