/-
  Walks of functions and plain facts.
  No condition.
-/
import Derived.Test.YtpjmfmjgmgjioaaGreatDoorFE
import Derived.Test.YtpjmfmjgmgjioaaGreatDoorFD
import Derived.Test.YtpjmfmjgmgjioaaGreatDoorFB
import Derived.Test.YtpjmfmjgmgjioaaGreatDoorFC
import Derived.ArgAppend
import Derived.Deep.Upon
import Derived.Deep.Slices
import Derived.WideKeyEntry
import Derived.Test.YtpjmfmjgmgjioaaGreatDoorFA
set_option linter.unusedVariables false
set_option linter.unusedSimpArgs false
namespace Go.Mono
open Go Go.Proofs Go.RowKit Go.Gr
theorem wT {G:Nat→Prop}(xs:List RB)(id:Int)(v:Value)(W:World)(h:(Dv rtE G xs).p v W)(hG:∀b,G b→b<W.heap.size)(hl:xs.length≤4096)(hh:∀i,i<xs.length→(hs xs i).length≤4096) :
  Calls Tryz.prog 30 #[v,I id] W (Post (Dv (slE ap) G (whR xs id)) W):=by
 refine enter (args:=[v,I id]) (As:=[Dv rtE (GB W G) xs,E (I id)]) Tryz.func30 rfl Tryz.ntmps30 (Nat.le_of_ble_eq_true rfl) ?_ (fun a hf=>?_) (Nat.le_of_ble_eq_true rfl)
 rotate_left
 dsimp only[params,Nat.reduceAdd] at hf
 rotate_right
 ·exact arg2 (Dv.toB h) rfl
 have e:=Ext.rfl' W
 refine seq ?_
 refine ah ?_
 refine ae hf rfl (by decide) fun a hf=>?_
 refine aa ?_
 refine seq ?_
 refine ah ?_
 refine ae hf rfl (by decide) fun a hf=>?_
 refine aa ?_
 repeat refine seq ?_
 refine ah ?_
 refine ae hf rfl (by decide) fun a hf=>?_
 refine aa ?_
 replace hf:=hf.kp [0,1,5,6]
 refine blk (aG (fun r0 a w=>∃(k:Nat) (u:Value),r0=xs.length - k∧k≤xs.length∧Fr 25 a w [(0,Dv rtE (GB W G) xs),(1,E (I id)),(5,E u),(6,E (I k))]∧Ext W w∧OwR ap 3 W.heap.size G w (aO (fun i=>bC (hs xs i) id) k) u) xs.length ⟨0,_,rfl,by omega,hf,e,OwR.nil ap _ (Nat.le_refl _) hG⟩ ?_)
 clear hf e;try clear Ho
 rintro r0 a w ⟨k,u,rfl,hk,hf,e,Ho⟩
 repeat refine seq ?_
 refine ac 4 hf (by decide +kernel) ?_
 refine st (mv rfl) ?_
 refine st (mv rfl) ?_
 refine st (ay U29 (isR rfl)) ?_
 refine st (lss rfl rfl) ?_
 refine en fun a w e' hf=>?_
 replace e:=e.tr e'
 replace Ho:=Ho.ext e'
 refine aa ?_
 refine ifc hf rfl (fun hc=>ak ?_) (fun hc=>aF ?_)
 rotate_left
 rotate_left
 ·have hlt:k<xs.length:=by have:=of_decide_eq_true hc;(try dsimp only at this);omega
  clear hc
  replace hf:=hf.kp [0,1,5,6]
  refine seq ?_
  refine blk ?_
  have hx:=ep hlt
  have hsel:=ek (fun i=>bC (hs xs i) id) k
  refine seq ?_
  refine ac 7 hf (by decide +kernel) ?_
  refine st (mv rfl) ?_
  refine st (mv rfl) ?_
  refine st (az U29 S87 (isR rfl) rfl (by omega) (hx)) ?_
  refine st (am U87 rfl T85 (by decide) (Fld.snd Fld.refl rfl) (isR rfl)) ?_
  refine st (ldD T85 (isR rfl)) ?_
  refine st (mv rfl) ?_
  refine st (ax gh rfl rfl (fun v u w he h h'=>by cases h';exact gp _ _ _ _ h (hh k hlt))) ?_
  refine en fun a w e' hf=>?_
  replace e:=e.tr e'
  replace Ho:=Ho.ext e'
  refine aa ?_
  refine ifc hf rfl (fun hb=>?_) (fun hb=>?_)
  ·replace hf:=hf.kp [0,1,5,6]
   refine ac 3 hf (by decide +kernel) ?_
   refine st (mv rfl) ?_
   refine st (mv rfl) ?_
   refine st (br U63 I3 rfl (by decide) rfl Ho.avs (isI rfl)) ?_
   refine en fun a w e' hf=>?_
   replace e:=e.tr e'
   replace Ho:=Ho.ext e'
   clear e'
   haveI hin:∀G0,InR (GB W G0) _:=OwR.inGB (W:=W) Ho (Nat.le_refl _)
   refine bs U63 I3 rfl rfl hf (by decide) rfl Ho (isR rfl) (by simp only[List.length_singleton];omega) (by simp only[List.length_singleton,maxLen];omega) fun a v w hg hat Hn hf=>?_
   replace e:=e.gro hg (Ho.row (W:=W) (Nat.le_refl _))
   replace Ho:=Hn;clear Hn hg hat hin
   refine ae hf rfl (by decide) fun a hf=>?_
   refine aa ?_
   simp only[Exit.then,Exit.inBlock,↓reduceIte]
   refine ac 2 hf (by decide +kernel) ?_
   refine st (mv rfl) ?_
   refine st ((add rfl rfl (by omega)).eq (congrArg (Value.int .i64) (show (k:Int)+1=((k+1:Nat):Int) from rfl))) ?_
   refine en fun a w e' hf=>?_
   replace e:=e.tr e'
   replace Ho:=Ho.ext e'
   refine ae hf rfl (by decide) fun a hf=>?_
   refine aa ?_
   replace hf:=hf.kp [0,1,5,6]
   refine⟨_,?_,k+1,_,rfl,by omega,hf,e,?_⟩
   ·omega
   rw[cz,if_pos hb];exact Ho
  ·refine ak ?_
   simp only[Exit.then,Exit.inBlock,↓reduceIte]
   refine ac 2 hf (by decide +kernel) ?_
   refine st (mv rfl) ?_
   refine st ((add rfl rfl (by omega)).eq (congrArg (Value.int .i64) (show (k:Int)+1=((k+1:Nat):Int) from rfl))) ?_
   refine en fun a w e' hf=>?_
   replace e:=e.tr e'
   replace Ho:=Ho.ext e'
   refine ae hf rfl (by decide) fun a hf=>?_
   refine aa ?_
   replace hf:=hf.kp [0,1,5,6]
   refine⟨_,?_,k+1,_,rfl,by omega,hf,e,?_⟩
   ·omega
   rw[cz,if_neg (by rw[hb];decide)];exact Ho
 ·obtain rfl:k=xs.length:=by have:=of_decide_eq_false hc;(try dsimp only at this);omega
  clear hc
  simp only[Exit.then,Exit.inBlock,↓reduceIte]
  refine seq ?_
  refine ac 1 hf (by decide +kernel) ?_
  refine st (mv rfl) ?_
  refine en fun a w e' hf=>?_
  replace e:=e.tr e'
  replace Ho:=Ho.ext e'
  refine ae hf rfl (by decide) fun a hf=>?_
  refine aa ?_
  refine aj ?_
  refine al rfl hf rfl ?_
  rintro _ rfl
  exact⟨_,rfl,e,Ho.sl⟩
theorem wU {a b c d:Bool}(h:d=(a || (b&&c))):∀{x y z:Bool},a=x→b=y→c=z→(x || (y&&z))=d:=fun h1 h2 h3=>by rw[h,h1,h2,h3]
theorem kT {G G2:Nat→Prop}(xs:List RB)(g:GT)(v u:Value)(W:World)(h:(Dv rtE G xs).p v W)(h':(Dv gtE G2 g).p u W)(hl:xs.length≤4096)(hh:∀i,i<xs.length→(hs xs i).length≤4096)(hl1:g.1.length≤100000)(hl2:g.2.length≤100000) :
  Calls Tryz.prog 9 #[v,u] W (Post (E (I (cM xs g))) W):=by
 refine enter (args:=[v,u]) (As:=[Dv rtE G0 xs,Dv gtE G0 g]) Tryz.func9 rfl Tryz.ntmps9 (Nat.le_of_ble_eq_true rfl) ?_ (fun a hf=>?_) (Nat.le_of_ble_eq_true rfl)
 rotate_left
 dsimp only[params,Nat.reduceAdd] at hf
 rotate_right
 ·exact arg2 (Dv.weak h fun b _ hb=>hb.elim) (Dv.weak h' fun b _ hb=>hb.elim)
 have e:=Ext.rfl' W
 refine seq ?_
 refine ah ?_
 refine dr hf rfl (by decide) (fun _ h=>h.elim) fun a w e' hf=>?_
 replace e:=e.tr e'
 refine ae hf rfl (by decide) fun a hf=>?_
 refine aa ?_
 repeat refine seq ?_
 refine ac 2 hf (by decide +kernel) ?_
 refine st (mv rfl) ?_
 refine st (aw lB rfl (fun v w he h=>nl xs v w h hl hh)) ?_
 refine en fun a w e' hf=>?_
 replace e:=e.tr e'
 refine ae hf rfl (by decide) fun a hf=>?_
 refine aa ?_
 refine seq ?_
 refine ac 2 hf (by decide +kernel) ?_
 refine st (mv rfl) ?_
 refine st (neq rfl rfl) ?_
 refine en fun a w e' hf=>?_
 replace e:=e.tr e'
 refine aa ?_
 refine ifc hf rfl (fun hb=>?_) (fun hb=>?_)
 ·refine seq ?_
  refine ac 1 hf (by decide +kernel) ?_
  refine st (mv rfl) ?_
  refine en fun a w e' hf=>?_
  replace e:=e.tr e'
  refine ae hf rfl (by decide) fun a hf=>?_
  refine aa ?_
  refine aj ?_
  simp only[Exit.then,Exit.inBlock]
  refine al rfl hf rfl ?_
  rintro _ rfl
  exact⟨_,rfl,e,congrArg I (by rw[cM,if_pos hb])⟩
 refine ak ?_
 simp only[Exit.then,Exit.inBlock,↓reduceIte]
 have c1:¬(bi xs != 0)=true:=aC hb
 clear hb
 replace hf:=hf.kp [0,3]
 repeat refine seq ?_
 refine ah ?_
 refine ae hf rfl (by decide) fun a hf=>?_
 refine aa ?_
 replace hf:=hf.kp [0,3,6]
 refine blk (aG (fun r0 a w=>∃(k:Nat) ,r0=g.1.length - k∧k≤g.1.length∧Fr 76 a w [(0,Dv rtE G0 xs),(3,Dv (ptE gtE) G0 (some g)),(6,E (I k))]∧Ext W w∧(∀y∈g.1.take k,vMs xs y=false)) g.1.length ⟨0,rfl,by omega,hf,e,(by simp)⟩ ?_)
 clear hf e;try clear hn
 rintro r0 a w ⟨k,rfl,hk,hf,e,hn⟩
 repeat refine seq ?_
 refine ac 5 hf (by decide +kernel) ?_
 refine st (mv rfl) ?_
 refine st (am U36 rfl T33 (by decide) (Fld.fst Fld.refl) (isR rfl)) ?_
 refine st (ldD T33 (isR rfl)) ?_
 refine st (ay U33 (isR rfl)) ?_
 refine st (lss rfl rfl) ?_
 refine en fun a w e' hf=>?_
 replace e:=e.tr e'
 refine aa ?_
 refine ifc hf rfl (fun hc=>ak ?_) (fun hc=>aF ?_)
 rotate_left
 rotate_left
 ·have hlt:k<g.1.length:=by have:=of_decide_eq_true hc;(try dsimp only at this);omega
  clear hc
  replace hf:=hf.kp [0,3,6]
  refine seq ?_
  refine blk ?_
  have hg:=List.getElem?_eq_getElem hlt
  generalize g.1[k]=x at hg
  refine seq ?_
  refine ac 10 hf (by decide +kernel) ?_
  refine st (mv rfl) ?_
  refine st (am U36 rfl T33 (by decide) (Fld.fst Fld.refl) (isR rfl)) ?_
  refine st (ldD T33 (isR rfl)) ?_
  refine st (mv rfl) ?_
  refine st (az U33 S73 (isR rfl) rfl (by omega) (hg)) ?_
  refine st (am U73 rfl T3 (by decide) (Fld.fst Fld.refl) (isR rfl)) ?_
  refine st (ldI T3 (isR rfl)) ?_
  refine st (ax (A:=Dv (slE ap) G0 (whR xs x.1)) qR rfl rfl (fun v u w he h h'=>by cases h';exact wT xs x.1 v w h (fun b hb=>hb.elim) hl hh)) ?_
  refine st (ay U63 (isR rfl)) ?_
  refine st (eql rfl rfl) ?_
  refine en fun a w e' hf=>?_
  replace e:=e.tr e'
  refine aa ?_
  refine ifc hf rfl (fun hb=>?_) (fun hb=>?_)
  ·have hb':vMs xs x=true:=by rw[vMs];have:=eq_of_beq hb;exact decide_eq_true (by omega)
   refine seq ?_
   refine ah ?_
   refine ae hf rfl (by decide) fun a hf=>?_
   refine aa ?_
   refine aj ?_
   simp only[Exit.then,Exit.inBlock]
   refine al rfl hf rfl ?_
   rintro _ rfl
   exact⟨_,rfl,e,congrArg I (by rw[cM,if_neg c1,if_pos (List.any_eq_true.2 ⟨x,List.mem_of_getElem? hg,hb'⟩)])⟩
  ·have hb':vMs xs x=false:=by rw[vMs];have:=ne_of_beq_false hb;exact decide_eq_false (by omega)
   refine ak ?_
   simp only[Exit.then,Exit.inBlock,↓reduceIte]
   refine ac 2 hf (by decide +kernel) ?_
   refine st (mv rfl) ?_
   refine st ((add rfl rfl (by omega)).eq (congrArg (Value.int .i64) (show (k:Int)+1=((k+1:Nat):Int) from rfl))) ?_
   refine en fun a w e' hf=>?_
   replace e:=e.tr e'
   refine ae hf rfl (by decide) fun a hf=>?_
   refine aa ?_
   replace hf:=hf.kp [0,3,6]
   refine⟨_,?_,k+1,rfl,by omega,hf,e,?_⟩
   ·omega
   exact fO hn hg hb'
 ·obtain rfl:k=g.1.length:=by have:=of_decide_eq_false hc;(try dsimp only at this);omega
  clear hc
  simp only[Exit.then,Exit.inBlock,↓reduceIte]
  rw[List.take_length] at hn
  have c2:¬g.1.any (vMs xs)=true:=by rw[Bool.not_eq_true];exact List.any_eq_false.2 fun y hy=>by rw[hn y hy];decide
  clear hn
  repeat refine seq ?_
  refine ah ?_
  refine ae hf rfl (by decide) fun a hf=>?_
  refine aa ?_
  replace hf:=hf.kp [0,3,7]
  refine blk (aG (fun r0 a w=>∃(k:Nat) ,r0=g.2.length - k∧k≤g.2.length∧Fr 76 a w [(0,Dv rtE G0 xs),(3,Dv (ptE gtE) G0 (some g)),(7,E (I k))]∧Ext W w∧(∀y∈g.2.take k,(!eHd xs y)=false)) g.2.length ⟨0,rfl,by omega,hf,e,(by simp)⟩ ?_)
  clear hf e;try clear hn
  rintro r0 a w ⟨k,rfl,hk,hf,e,hn⟩
  repeat refine seq ?_
  refine ac 5 hf (by decide +kernel) ?_
  refine st (mv rfl) ?_
  refine st (am U36 rfl T34 (by decide) (Fld.snd Fld.refl rfl) (isR rfl)) ?_
  refine st (ldD T34 (isR rfl)) ?_
  refine st (ay U34 (isR rfl)) ?_
  refine st (lss rfl rfl) ?_
  refine en fun a w e' hf=>?_
  replace e:=e.tr e'
  refine aa ?_
  refine ifc hf rfl (fun hc=>ak ?_) (fun hc=>aF ?_)
  rotate_left
  rotate_left
  ·have hlt:k<g.2.length:=by have:=of_decide_eq_true hc;(try dsimp only at this);omega
   clear hc
   replace hf:=hf.kp [0,3,7]
   refine seq ?_
   refine blk ?_
   have hg:=List.getElem?_eq_getElem hlt
   generalize g.2[k]=x at hg
   refine seq ?_
   refine ah ?_
   refine ae hf rfl (by decide) fun a hf=>?_
   refine aa ?_
   repeat refine seq ?_
   refine ah ?_
   refine ae hf rfl (by decide) fun a hf=>?_
   refine aa ?_
   have ht:True:=trivial
   replace hf:=hf.kp [0,3,7,8,9]
   refine blk (aG (fun r0 a w=>∃(j:Nat) ,r0=xs.length - j∧j≤xs.length∧Fr 76 a w [(0,Dv rtE G0 xs),(3,Dv (ptE gtE) G0 (some g)),(7,E (I k)),(8,E (B (eP xs x j))),(9,E (I j))]∧Ext W w∧True) xs.length ⟨0,rfl,by omega,hf,e,ht⟩ ?_)
   clear hf e;try clear ht
   rintro r0 a w ⟨j,rfl,hj,hf,e,ht⟩
   repeat refine seq ?_
   refine ac 4 hf (by decide +kernel) ?_
   refine st (mv rfl) ?_
   refine st (mv rfl) ?_
   refine st (ay U29 (isR rfl)) ?_
   refine st (lss rfl rfl) ?_
   refine en fun a w e' hf=>?_
   replace e:=e.tr e'
   refine aa ?_
   refine ifc hf rfl (fun hc=>ak ?_) (fun hc=>aF ?_)
   rotate_left
   rotate_left
   ·have hltj:j<xs.length:=by have:=of_decide_eq_true hc;(try dsimp only at this);omega
    clear hc
    replace hf:=hf.kp [0,3,7,8,9]
    refine seq ?_
    refine blk ?_
    have gj:=ep hltj
    obtain⟨c,hc0⟩:∃c:Bool,c=eP xs x (j+1):=⟨_,rfl⟩
    have hc1:=hc0
    rw[wP] at hc1
    refine cut (J:=fun a w=>Fr 76 a w [(0,Dv rtE G0 xs),(3,Dv (ptE gtE) G0 (some g)),(7,E (I k)),(8,E (B c)),(9,E (I j))]∧Ext W w∧True) ?_ (fun a w hJ=>?_)
    ·cases h0:eP xs x j
     all_goals cases h1:bC (hs xs j) x.1.1
     all_goals cases h2:bC (hs xs j) x.1.2
     all_goals
      rw[h0] at hf
      have hcx:=(wU hc1 h0 h1 h2).symm
      clear hc0 hc1
      subst hcx
      refine reg 29 Mix.mix hf (by decide +kernel) ?_
      refine st (mv rfl) ?_
      refine st (mv rfl) ?_
      first|refine sn rfl rfl rfl ?_|refine sy rfl rfl (mv rfl) ?_
      first|refine sn rfl rfl rfl ?_|refine sy rfl rfl (mv rfl) ?_
      first|refine sn rfl rfl rfl ?_|refine sy rfl rfl (az U29 S87 (isR rfl) rfl (by omega) (gj)) ?_
      first|refine sn rfl rfl rfl ?_|refine sy rfl rfl (am U87 rfl T85 (by decide) (Fld.snd Fld.refl rfl) (isR rfl)) ?_
      first|refine sn rfl rfl rfl ?_|refine sy rfl rfl (ldD T85 (isR rfl)) ?_
      first|refine sn rfl rfl rfl ?_|refine sy rfl rfl (am U36 rfl T34 (by decide) (Fld.snd Fld.refl rfl) (isR rfl)) ?_
      first|refine sn rfl rfl rfl ?_|refine sy rfl rfl (ldD T34 (isR rfl)) ?_
      first|refine sn rfl rfl rfl ?_|refine sy rfl rfl (mv rfl) ?_
      first|refine sn rfl rfl rfl ?_|refine sy rfl rfl (az U34 S76 (isR rfl) rfl (by omega) (hg)) ?_
      first|refine sn rfl rfl rfl ?_|refine sy rfl rfl (am U76 rfl T3 (by decide) (Fld.fst (Fld.fst Fld.refl)) (isR rfl)) ?_
      first|refine sn rfl rfl rfl ?_|refine sy rfl rfl (ldI T3 (isR rfl)) ?_
      first|refine sn rfl rfl rfl ?_|refine sy rfl rfl ((ax gh rfl rfl (fun v u w he h h'=>by cases h';exact gp _ _ _ _ h (hh j hltj))).eq (congrArg Value.bool (h1))) ?_
      first|refine sn rfl rfl rfl ?_|refine sy rfl rfl (mv rfl) ?_
      first|refine sn rfl rfl rfl ?_|refine su rfl rfl ?_|refine sy rfl rfl (mv rfl) ?_
      first|refine sn rfl rfl rfl ?_|refine su rfl rfl ?_|refine sy rfl rfl (mv rfl) ?_
      first|refine sn rfl rfl rfl ?_|refine su rfl rfl ?_|refine sy rfl rfl (az U29 S87 (isR rfl) rfl (by omega) (gj)) ?_
      first|refine sn rfl rfl rfl ?_|refine su rfl rfl ?_|refine sy rfl rfl (am U87 rfl T85 (by decide) (Fld.snd Fld.refl rfl) (isR rfl)) ?_
      first|refine sn rfl rfl rfl ?_|refine su rfl rfl ?_|refine sy rfl rfl (ldD T85 (isR rfl)) ?_
      first|refine sn rfl rfl rfl ?_|refine su rfl rfl ?_|refine sy rfl rfl (am U36 rfl T34 (by decide) (Fld.snd Fld.refl rfl) (isR rfl)) ?_
      first|refine sn rfl rfl rfl ?_|refine su rfl rfl ?_|refine sy rfl rfl (ldD T34 (isR rfl)) ?_
      first|refine sn rfl rfl rfl ?_|refine su rfl rfl ?_|refine sy rfl rfl (mv rfl) ?_
      first|refine sn rfl rfl rfl ?_|refine su rfl rfl ?_|refine sy rfl rfl (az U34 S76 (isR rfl) rfl (by omega) (hg)) ?_
      first|refine sn rfl rfl rfl ?_|refine su rfl rfl ?_|refine sy rfl rfl (am U76 rfl T3 (by decide) (Fld.fst (Fld.snd Fld.refl rfl)) (isR rfl)) ?_
      first|refine sn rfl rfl rfl ?_|refine su rfl rfl ?_|refine sy rfl rfl (ldI T3 (isR rfl)) ?_
      first|refine sn rfl rfl rfl ?_|refine su rfl rfl ?_|refine sy rfl rfl ((ax gh rfl rfl (fun v u w he h h'=>by cases h';exact gp _ _ _ _ h (hh j hltj))).eq (congrArg Value.bool (h2))) ?_
      first|refine sn rfl rfl rfl ?_|refine sy rfl rfl (pkT rfl rfl) ?_|refine sy rfl rfl (pkF rfl rfl) ?_
      first|refine st (pkT rfl rfl) ?_|refine st (pkF rfl rfl) ?_
      refine en fun a w e' hf=>?_
      replace e:=e.tr e'
      refine ae hf rfl (by decide) fun a hf=>?_
      refine aa ?_
      replace hf:=hf.kp [0,3,7,8,9]
      exact⟨rfl,hf,e,trivial⟩
    clear hf e 
    obtain⟨hf,e,_⟩:=hJ
    rw[hc0] at hf
    simp only[Exit.then,Exit.inBlock,↓reduceIte]
    refine ac 2 hf (by decide +kernel) ?_
    refine st (mv rfl) ?_
    refine st ((add rfl rfl (by omega)).eq (congrArg (Value.int .i64) (show (j:Int)+1=((j+1:Nat):Int) from rfl))) ?_
    refine en fun a w e' hf=>?_
    replace e:=e.tr e'
    refine ae hf rfl (by decide) fun a hf=>?_
    refine aa ?_
    replace hf:=hf.kp [0,3,7,8,9]
    refine⟨_,?_,j+1,rfl,by omega,hf,e,?_⟩
    ·omega
    exact ht
   ·obtain rfl:j=xs.length:=by have:=of_decide_eq_false hc;(try dsimp only at this);omega
    clear hc
    simp only[Exit.then,Exit.inBlock,↓reduceIte]
    refine seq ?_
    refine ac 2 hf (by decide +kernel) ?_
    refine st (mv rfl) ?_
    refine st (aS rfl) ?_
    refine en fun a w e' hf=>?_
    replace e:=e.tr e'
    refine aa ?_
    refine ifc hf rfl (fun hb=>?_) (fun hb=>?_)
    ·have hb':(!eHd xs x)=true:=hb
     refine seq ?_
     refine ah ?_
     refine ae hf rfl (by decide) fun a hf=>?_
     refine aa ?_
     refine aj ?_
     simp only[Exit.then,Exit.inBlock]
     refine al rfl hf rfl ?_
     rintro _ rfl
     exact⟨_,rfl,e,congrArg I (by rw[cM,if_neg c1,if_neg c2,if_neg (fun h=>by have:=List.all_eq_true.1 h x (List.mem_of_getElem? hg);rw[this] at hb';cases hb')])⟩
    ·refine ak ?_
     simp only[Exit.then,Exit.inBlock,↓reduceIte]
     refine ac 2 hf (by decide +kernel) ?_
     refine st (mv rfl) ?_
     refine st ((add rfl rfl (by omega)).eq (congrArg (Value.int .i64) (show (k:Int)+1=((k+1:Nat):Int) from rfl))) ?_
     refine en fun a w e' hf=>?_
     replace e:=e.tr e'
     refine ae hf rfl (by decide) fun a hf=>?_
     refine aa ?_
     replace hf:=hf.kp [0,3,7]
     refine⟨_,?_,k+1,rfl,by omega,hf,e,?_⟩
     ·omega
     exact fO hn hg hb
  ·obtain rfl:k=g.2.length:=by have:=of_decide_eq_false hc;(try dsimp only at this);omega
   clear hc
   simp only[Exit.then,Exit.inBlock,↓reduceIte]
   rw[List.take_length] at hn
   refine seq ?_
   refine ah ?_
   refine ae hf rfl (by decide) fun a hf=>?_
   refine aa ?_
   refine aj ?_
   refine al rfl hf rfl ?_
   rintro _ rfl
   exact⟨_,rfl,e,congrArg I (by rw[cM,if_neg c1,if_neg c2,if_pos (List.all_eq_true.2 fun y hy=>by have:=hn y hy;simpa using this)])⟩
noncomputable def kpR (xs:List RB)(g:GT)(d:DT):Int:=if (cM xs g != 0)=true then cM xs g else if ((doR g d).2 != 0)=true then (doR g d).2 else cM xs (doR g d).1
theorem wV {G G2:Nat→Prop}(xs:List RB)(g:GT)(d:DT)(v u:Value)(W:World)(h:(Dv rtE G xs).p v W)(h':(Dv gtE G2 g).p u W)(hl:xs.length≤4096)(hh:∀i,i<xs.length→(hs xs i).length≤4096)(hl1:g.1.length≤10000)(hl2:g.2.length≤10000) :
  Calls Tryz.prog 11 #[v,u,dtV d] W (Post (E (I (kpR xs g d))) W):=by
 obtain⟨u1,u2,rfl,k1,k2⟩:=Dv.gt.1 (Dv.weak (G':=G0) h' fun b _ hb=>hb.elim)
 have hgd:∀{w:World},Ext W w→(Dv gtE G0 g).p (.agg #[u1,u2]) w:=fun e=>VA.st _ _ _ _ e (Dv.weak h' fun b _ hb=>hb.elim)
 clear h'
 have hdl:=kb g d
 refine enter (args:=[v,.agg #[u1,u2],dtV d]) (As:=[Dv rtE (GB W G) xs,E (.agg #[u1,u2]),E (dtV d)]) Tryz.func11 rfl Tryz.ntmps11 (Nat.le_of_ble_eq_true rfl) ?_ (fun a hf=>?_) (Nat.le_of_ble_eq_true rfl)
 rotate_left
 dsimp only[params,Nat.reduceAdd] at hf
 rotate_right
 ·exact eo (Dv.toB h) rfl rfl
 have e:=Ext.rfl' W
 refine seq ?_
 refine ah ?_
 refine aH hf rfl (by decide) fun a b4 w v4 hv4 e' hb4 hs4 B4 hf=>?_
 have hle4:=Nat.le_trans e.size (Nat.le_of_eq hb4.symm)
 replace e:=e.tr e'
 clear e'
 refine aH hf rfl (by decide) fun a b5 w v5 hv5 e' hb5 hs5 B5 hf=>?_
 have hle5:=Nat.le_trans e.size (Nat.le_of_eq hb5.symm)
 have lt5_B4:=B4.lt
 replace e:=e.tr e'
 replace B4:=B4.ext e'
 refine ae hf rfl (by decide) fun a hf=>?_
 refine aa ?_
 cases hv4;cases hv5
 repeat refine seq ?_
 refine ac 3 hf (by decide +kernel) ?_
 refine st (mv rfl) ?_
 refine st (ldW T36 rfl B4 rfl) ?_
 refine st (ax (B:=Dv rtE (GB W G) xs) (C:=E (.agg #[u1,u2])) En9 rfl rfl (fun v u w he h h'=>by cases h';exact kT xs g v _ w h (hgd (Ext.tr e he)) hl hh (by omega) (by omega))) ?_
 refine en fun a w e' hf=>?_
 replace e:=e.tr e'
 replace B4:=B4.ext e'
 replace B5:=B5.ext e'
 refine ae hf rfl (by decide) fun a hf=>?_
 refine aa ?_
 refine seq ?_
 refine ac 2 hf (by decide +kernel) ?_
 refine st (mv rfl) ?_
 refine st (neq rfl rfl) ?_
 refine en fun a w e' hf=>?_
 replace e:=e.tr e'
 replace B4:=B4.ext e'
 replace B5:=B5.ext e'
 refine aa ?_
 refine ifc hf rfl (fun hb=>?_) (fun hb=>?_)
 ·refine seq ?_
  refine ac 1 hf (by decide +kernel) ?_
  refine st (mv rfl) ?_
  refine en fun a w e' hf=>?_
  replace e:=e.tr e'
  replace B4:=B4.ext e'
  replace B5:=B5.ext e'
  refine ae hf rfl (by decide) fun a hf=>?_
  refine aa ?_
  refine aj ?_
  simp only[Exit.then,Exit.inBlock]
  refine al rfl hf rfl ?_
  rintro _ rfl
  exact⟨_,rfl,e,congrArg I (by rw[kpR,if_pos hb])⟩
 refine ak ?_
 simp only[Exit.then,Exit.inBlock,↓reduceIte]
 have c1:¬(cM xs g != 0)=true:=aC hb
 clear hb
 replace hf:=hf.kp [0,4,5]
 refine seq ?_
 refine ac 6 hf (by decide +kernel) ?_
 refine st (ldW T36 rfl B4 rfl) ?_
 refine st (ldW T45 rfl B5 rfl) ?_
 refine st (ax (A:=Tup [Dv gtE G0 (doR g d).1,E (I (doR g d).2)]) (B:=E (.agg #[u1,u2])) (C:=E (dtV d)) lA rfl rfl (fun v u w he h h'=>by cases h;cases h';exact ot g d _ w (hgd (Ext.tr e he)) (fun b hb=>hb.elim) (by omega) (by omega))) ?_
 refine st (mv rfl) ?_
 refine st (aZ rfl rfl) ?_
 refine st (aZ rfl rfl) ?_
 refine en fun a w e' hf=>?_
 replace e:=e.tr e'
 replace B4:=B4.ext e'
 replace B5:=B5.ext e'
 clear e'
 obtain⟨z,hz,hf⟩:=hf.fix 20 rfl
 obtain⟨N,hN⟩:∃N,N=w.heap.size:=⟨_,rfl⟩
 replace hz:(Dv gtE (fun b=>N≤b) (doR g d).1).p z w:=Dv.weak hz fun b hb hn=>absurd hb (by omega)
 replace hf:=hf.kp [0,20,21]
 refine aJ I36 hf (by decide) fun a b8 w e' hb8 hs8 B8 hf=>?_
 have hle8:=Nat.le_trans e.size (Nat.le_of_eq hb8.symm)
 replace hz:=VA.st _ _ _ _ e' hz
 replace e:=e.tr e'
 clear e'
 obtain⟨z1,z2,rfl,hz1,hz2⟩:=Dv.gt.1 hz
 have l8:N≤b8:=by omega
 replace hf:=hf.kp [0,8,20,21]
 haveI hinr:∀G0,InR (GB W G0) (some b8):=fun G0=>InR.gb (by omega)
 refine aD T36 hf rfl rfl (aX (slOne hz1) (slOne hz2)) B8 rfl rfl fun w hg hsz B8 hf=>?_
 replace e:=e.gr hg (by omega);replace hz:=Dv.gr hz hg l8;clear hg hz1 hz2
 refine ae hf rfl (by decide) fun a hf=>?_
 refine aa ?_
 replace hf:=hf.kp [0,8,9]
 repeat refine seq ?_
 refine ac 2 hf (by decide +kernel) ?_
 refine st (mv rfl) ?_
 refine st (neq rfl rfl) ?_
 refine en fun a w e' hf=>?_
 replace hz:=VA.st _ _ _ _ e' hz
 replace e:=e.tr e'
 replace B8:=B8.ext e'
 refine aa ?_
 refine ifc hf rfl (fun hb=>?_) (fun hb=>?_)
 ·refine seq ?_
  refine ac 1 hf (by decide +kernel) ?_
  refine st (mv rfl) ?_
  refine en fun a w e' hf=>?_
  replace hz:=VA.st _ _ _ _ e' hz
  replace e:=e.tr e'
  replace B8:=B8.ext e'
  refine ae hf rfl (by decide) fun a hf=>?_
  refine aa ?_
  refine aj ?_
  simp only[Exit.then,Exit.inBlock]
  refine al rfl hf rfl ?_
  rintro _ rfl
  exact⟨_,rfl,e,congrArg I (by rw[kpR,if_neg c1,if_pos hb])⟩
 refine ak ?_
 simp only[Exit.then,Exit.inBlock,↓reduceIte]
 have c2:¬((doR g d).2 != 0)=true:=aC hb
 clear hb
 refine seq ?_
 refine ac 3 hf (by decide +kernel) ?_
 refine st (mv rfl) ?_
 refine st (ldW T36 rfl B8 rfl) ?_
 refine st (ax (B:=Dv rtE (GB W G) xs) (C:=E (.agg #[z1,z2])) En9 rfl rfl (fun v u w he h h'=>by cases h';exact kT xs (doR g d).1 v _ w h (VA.st _ _ _ _ he hz) hl hh (by omega) (by omega))) ?_
 refine en fun a w e' hf=>?_
 replace hz:=VA.st _ _ _ _ e' hz
 replace e:=e.tr e'
 replace B8:=B8.ext e'
 refine ae hf rfl (by decide) fun a hf=>?_
 refine aa ?_
 refine aj ?_
 refine al rfl hf rfl ?_
 rintro _ rfl
 exact⟨_,rfl,e,congrArg I (by rw[kpR,if_neg c1,if_neg c2])⟩
end Go.Mono
namespace Go.Mono
open Go Go.Proofs Go.RowKit
open Go.WideElems (Fit rd rg pl rd_val elemAt findIdx_arr findIdx_born set_self)
open Go.ChangeMaps (modify_eq_set)
open Go.ChangeMaps (setBlock)
section
variable {P:Program}{α β:Type}{V:KV P α β}{w:World}{b n:Nat}{l:List (α×β)}
theorem wW {γ:Type}{a:Array γ}{i:Nat}{x:γ}(h:a[i]?=some x):a.setIfInBounds i x=a:=by
 apply Array.ext'
 rw[Array.toList_setIfInBounds]
 exact set_self _ _ _ (by simpa using h)
theorem MpR.slot {t:TypeId}(h:MpR V w b n l)(ht:P.underlying t=some (.map V.k V.e)){x:α}{c:β}(hx:V.ok x)(hm:(x,c)∈l) :
  ∃v0 st:Value,(Instr.mapEntry t (.map (some b)) (V.kv x)).run P w=.ok (.tuple #[v0,st]) w ∧
   ∀w2 val,w2.heap[b]?=w.heap[b]?→(Instr.entryStore t (.map (some b)) st val).run P w2=(Instr.mapUpdate t (.map (some b)) (V.kv x) val).run P w2:=by
 obtain⟨es,⟨arr,clock,hb,F,hs,hD⟩,hp,hok,hpw⟩:=h
 have hkey:=V.key x hx
 obtain⟨s1,s2,s3⟩:=F.stamped
 have hthere:∃e0∈arr.toList,e0.key=V.kv x:=by
  have h1:V.enc (x,c)∈es:=hp.mem_iff.2 (List.mem_map.2 ⟨_,hm,rfl⟩)
  cases hD
  have h2:V.enc (x,c)∈arr.toList.map (rg P V.k V.R):=by
   have key:∀(m:List (Lit×DataW Unit)) (p:Lit×DataW Unit),p∈m.foldr DataW.insert []→p∈m:=by
    intro m
    induction m with
    | nil=>intro p h;exact h
    | cons a m ih=>
     intro p h
     rw[List.foldr_cons] at h
     have:=(jN a (m.foldr DataW.insert [])).mem_iff.1 h
     rcases List.mem_cons.1 this with h|h
     ·rw[h];exact List.mem_cons_self ..
     ·exact List.mem_cons_of_mem _ (ih p h)
   exact key _ _ h1
  obtain⟨e0,he0,hr⟩:=List.mem_map.1 h2
  obtain⟨y,hy⟩:=F.reads e0 he0
  have m1:=Go.WideElems.rd_key hy
  rw[Go.WideElems.rg_of hy] at hr
  have m2:y.1=V.kl x:=by rw[hr];rfl
  rw[m2] at m1
  exact⟨e0,he0,V.K.inj m1 hkey⟩
 rcases V.K.find w hkey arr.toList F.keys with ⟨h1,h2⟩|⟨j,e0,h1,h2,h3⟩
 ·obtain⟨e0,he0,hk⟩:=hthere
  exact absurd hk (h2 e0 he0)
 ·have hj:arr[j]?=some e0:=by simpa using h2
  have hsame:arr.modify j (fun e=>{ e with key:=V.kv x })=arr:=by
   apply Array.ext'
   rw[Array.toList_modify,modify_eq_set _ _ _ _ h2]
   have:({ e0 with key:=V.kv x }:MapEntry)=e0:=by rw[← h3]
   rw[this]
   exact set_self _ _ _ h2
  refine⟨e0.val,goInt e0.born,?_,fun w2 val hw2=>?_⟩
  ·have hset:({ w with heap:=w.heap.setIfInBounds b (.map arr clock) }:World)=w:=by rw[wW hb]
   simp[Instr.mapEntry,run_underlying ht,MapKept.run_getObj_map hb,V.K.check w false hkey,h1,hj,h3,V.K.stays w hkey,hsame,MapKept.run_setObj_map _ hb,Result.andThen,hset]
  ·have hb2:=hw2.trans hb
   have hidx:arr.findIdx? (fun e=>((e.born:Nat):Int)==((e0.born:Nat):Int))=some j:=by
    rw[findIdx_arr]
    exact findIdx_born s2 h2
   have hmod:arr.modify j (fun e=>{ e with val:=val })=arr.modify j (fun e'=>{ e' with key:=V.kv x,val:=val }):=by
    apply Array.ext'
    rw[Array.toList_modify,Array.toList_modify,modify_eq_set _ _ _ _ h2,modify_eq_set _ _ _ _ h2,← h3]
   have h1':(Instr.findKey V.k (V.kv x) arr.toList).run P w2=.ok (some (j,e0.val)) w2:=by
    rcases V.K.find w2 hkey arr.toList F.keys with ⟨q1,q2⟩|⟨j',e',q1,q2,q3⟩
    ·exact absurd h3 (q2 e0 (List.mem_of_getElem? h2))
    ·have hee:j'=j∧e'=e0:=by
      have hjl:j'<(arr.toList.map (·.key)).length:=by rw[List.length_map];exact (List.getElem?_eq_some_iff.1 q2).1
      have hjj:j'=j:=(List.getElem?_inj hjl s3).1 (by rw[List.getElem?_map,List.getElem?_map,q2,h2];show some e'.key=some e0.key;rw[q3,h3])
      refine⟨hjj,?_⟩
      rw[hjj,h2] at q2
      exact (Option.some.inj q2).symm
     rw[hee.1,hee.2] at q1
     exact q1
   simp[Instr.entryStore,MapKept.run_getObj_map hb2,asInt,asIntOf,goInt,hidx,hmod,MapKept.run_setObj_map _ hb2,Result.andThen]
   simp[Instr.mapUpdate,run_underlying ht,MapKept.run_getObj_map hb2,V.K.check w2 false hkey,h1',hj,h3,V.K.stays w2 hkey,MapKept.run_setObj_map _ hb2,Result.andThen]
end
section ops
variable {P:Program}{w0:World}{L:Env}{dst:Option Tmp}{ty:TypeId}{pos:String}{aft:Array Edge}{g:Option (Nat×Bool)}{x y s:Operand}{t b n:Nat}
variable {α β:Type}{V:KV P α β}{l:List (α×β)}{i:α}{c:β}
end ops
end Go.Mono
namespace Go.Mono
open Go Go.Proofs Go.RowKit
open Go.ChangeMaps (setBlock)
section
variable {P:Program}{α β:Type}{V:KV P α β}{w:World}{b n:Nat}{l:List (α×β)}
open Go.WideElems (findIdx_arr findIdx_born modify_last)
end
section tail
variable {P:Program}{L:Env}{ty ty2:TypeId}{pos pos2 pos3:String}{aft aft2 aft3:Array Edge}{r:Option Nat}{ds:List Deferred}
variable {ops:Array Oper}{rest:List Oper}{Q:Exit→Act→World→Prop}{n:Nat}{a:Act}{w:World}{x y z x2:Operand}{α β:Type}[DecidableEq α]
end tail
section ops
variable {P:Program}{w0:World}{L:Env}{ty:TypeId}{pos:String}{aft:Array Edge}{x y s:Operand}{t b n:Nat}
variable {α β:Type}[DecidableEq α]{V:KV P α β}{l:List (α×β)}{i:α}{c:β}
end ops
end Go.Mono
namespace Go.Mono
open Go Go.RowKit
structure FlF {α:Type}(e:Enc α)(f:α→List Value):Prop where
 r:∀G w x cs,e.r G w x cs↔cs=f x
 len:∀x,(f x).length=e.k
section
variable {α:Type}{e:Enc α}{f:α→List Value}{te:TypeId}{N n cap b:Nat}{cur:Array Value}{w w':World}{G:Nat→Prop}{xs:List α}{v:Value}
theorem FlF.cells (F:FlF e f):∀(xs:List α) (cs:List Value),Cells e G w xs cs↔cs=xs.flatMap f
 | [],cs=>by simp[Cells]
 | x::xs,cs=>by
  constructor
  ·rintro⟨c,d,rfl,h1,h2⟩
   rw[(F.r _ _ _ _).1 h1,(F.cells xs d).1 h2,List.flatMap_cons]
  ·intro h
   exact⟨f x,xs.flatMap f,by rw[h,List.flatMap_cons],(F.r _ _ _ _).2 rfl,(F.cells xs _).2 rfl⟩
theorem FlF.flen (F:FlF e f):∀xs:List α,(xs.flatMap f).length=xs.length * e.k
 | []=>by simp
 | x::r=>by rw[List.flatMap_cons,List.length_append,F.len,F.flen r,List.length_cons,Nat.succ_mul];omega
structure RwR (k:Nat)(te:TypeId)(N cap b:Nat)(cur:Array Value)(w:World):Prop where
 bl:Blk w b cur te
 lo:N≤b
 sz:cur.size=cap * k
 mx:cap≤maxLen
theorem RwR.ext {k:Nat}(h:RwR k te N cap b cur w)(e':Ext w w'):RwR k te N cap b cur w':=⟨h.bl.ext e',h.lo,h.sz,h.mx⟩
instance {k:Nat}:Ug w w' (RwR k te N cap b cur w) (RwR k te N cap b cur w'):=⟨fun e h=>h.ext e⟩
theorem RwR.gr {k d:Nat}(h:RwR k te N cap b cur w)(hg:w.grownBy w' (some d))(hne:b≠d):RwR k te N cap b cur w':=⟨h.bl.gr hg hne,h.lo,h.sz,h.mx⟩
theorem OwR.rw (h:OwR e te N G w xs v)(F:FlF e f):(v=.slice none 0 0∧xs=[])∨∃b cap cur,v=.slice (some ⟨b,0,none⟩) xs.length cap∧xs.length≤cap∧RwR e.k te N cap b cur w∧cur.toList.take (xs.length * e.k)=xs.flatMap f:=by
 obtain⟨cs,⟨hlen,hv⟩,hcs⟩:=h.own
 rw[F.cells] at hcs
 subst hcs
 rcases hv with ⟨rfl,hn⟩|⟨g0,cap,cur,rfl,hB,hheap,hcap,hmax,hcur,htake⟩
 ·exact .inl ⟨rfl,List.length_eq_zero_iff.1 hn⟩
 ·exact .inr ⟨g0,cap,cur,rfl,hcap,⟨hheap,hB,hcur,hmax⟩,htake⟩
theorem RwR.own (h:RwR e.k te N cap b cur w)(F:FlF e f)(hn:xs.length≤cap)(ht:cur.toList.take (xs.length * e.k)=xs.flatMap f)(hG:∀b,G b→b<N):OwR e te N G w xs (.slice (some ⟨b,0,none⟩) xs.length cap):=
 ⟨⟨xs.flatMap f,⟨F.flen xs,.inr ⟨b,cap,cur,rfl,h.lo,h.bl,hn,h.mx,h.sz,ht⟩⟩,(F.cells _ _).2 rfl⟩,hG,Nat.le_trans h.lo (Nat.le_of_lt h.bl.lt)⟩
end
section
variable {α:Type}{f:α→List Value}{k:Nat}
end
section ops
variable {P:Program}{w0:World}{L:Env}{dst:Option Tmp}{ty:TypeId}{pos:String}{aft:Array Edge}{g:Option (Nat×Bool)}{x y:Operand}{t te:TypeId}
end ops
section
variable {P:Program}{w0:World}{L:Env}{dst:Option Tmp}{ty:TypeId}{pos:String}{aft:Array Edge}{g:Option (Nat×Bool)}{x:Operand}{t:TypeId}{α:Type}{e:Enc α}{z:α}
end
section tail
variable {P:Program}{L:Env}{ty:TypeId}{pos:String}{aft:Array Edge}{r:Option Nat}{ds:List Deferred}
variable {ops:Array Oper}{rest:List Oper}{Q:Exit→Act→World→Prop}{n:Nat}{a:Act}{w:World}{x y:Operand}{t te:TypeId}
end tail
end Go.Mono
namespace Go.Mono
open Go Go.Proofs Go.RowKit Go.Gr
theorem wX {G:Nat→Prop}{N:Nat}(g:GT)(v:Value)(W:World)(h:(Dv (ptE (grE N)) G (some g)).p v W)(hsv:g.1.Pairwise fun x y=>lt1 x.1 y.1=true)(hse:g.2.Pairwise fun x y=>lt2 x.1 y.1=true)(hl1:g.1.length≤10000)(hl2:g.2.length≤10000)(hN:N≤1000000) :
  Calls Tryz.prog 13 #[v] W (Post (Dv gtE G0 g) W):=by
 refine enter (args:=[v]) (As:=[Dv (ptE (grE N)) (GB W G) (some g)]) Tryz.func13 rfl Tryz.ntmps13 (Nat.le_of_ble_eq_true rfl) ?_ (fun a hf=>?_) (Nat.le_of_ble_eq_true rfl)
 rotate_left
 dsimp only[params,Nat.reduceAdd] at hf
 rotate_right
 ·exact arg1 (Dv.toB h)
 have e:=Ext.rfl' W
 refine seq ?_
 refine ah ?_
 refine aJ I36 hf (by decide) fun a b2 w e' hb2 hs2 B2 hf=>?_
 have hle2:=Nat.le_trans e.size (Nat.le_of_eq hb2.symm)
 replace e:=e.tr e'
 refine aa ?_
 replace B2:Blk w b2 #[.slice none 0 0,.slice none 0 0] 36:=B2
 replace hf:=hf.kp [0,2]
 refine seq ?_
 refine ah ?_
 refine ar hf (by decide) (bh [] rfl jZ) fun a w e' hf=>?_
 replace e:=e.tr e'
 replace B2:=B2.ext e'
 clear e'
 refine aJ I36 hf (by decide) fun a b3 w e' hb3 hs3 B3 hf=>?_
 have hle3:=Nat.le_trans e.size (Nat.le_of_eq hb3.symm)
 have lt3_B2:=B2.lt
 replace e:=e.tr e'
 replace B2:=B2.ext e'
 clear e'
 replace B3:Blk w b3 #[.slice none 0 0,.slice none 0 0] 36:=B3
 have n3:b2≠b3∧W.heap.size≤b2∧W.heap.size≤b3:=⟨by omega,by omega,hle3⟩
 replace hf:=hf.kp [0,2,3,8]
 haveI hinr:∀G0,InR (GB W G0) (some b3):=fun G0=>InR.gb n3.2.2
 refine aD T36 hf rfl rfl (aX rfl rfl) B3 rfl rfl fun w hg hsz B3 hf=>?_
 replace e:=e.gr hg (by omega);replace B2:=B2.gr hg (by omega);clear hg
 refine aa ?_
 replace hf:=hf.kp [0,2,3]
 obtain⟨S,hS⟩:∃S:Nat→Prop,S=fun b=>b=b2∨b=b3:=⟨_,rfl⟩
 have hSW:∀b,S b→W.heap.size≤b:=fun b hb=>by rw[hS] at hb;rcases hb with rfl|rfl <;> omega
 have hSw:∀b,S b→b<w.heap.size:=fun b hb=>by rw[hS] at hb;rcases hb with rfl|rfl;exact B2.lt;exact B3.lt
 have hsw:=hSw
 obtain⟨N0,hN0⟩:∃N0,N0=w.heap.size:=⟨_,rfl⟩
 have hN0':N0≤w.heap.size:=Nat.le_of_eq hN0
 rw[← hN0] at hSw
 clear hN0 hsw
 refine seq ?_
 refine ac 4 hf (by decide +kernel) ?_
 refine st (mv rfl) ?_
 refine st (aw (A:=Dv (slE vtE) S g.1) (B:=Dv (ptE (grE N)) (GB W G) (some g)) lC rfl (fun v w he k=>(oZ (G:=S) g v w (Dv.weak k fun b _ hb=>.inr (hSW b hb)) (fun b hb=>Nat.lt_of_lt_of_le (hSw b hb) (Nat.le_trans hN0' he.size)) hsv (by omega) hN).mono fun en w' ⟨u,k1,k2,k3⟩=>⟨u,k1,k2,OwR.sl k3⟩)) ?_
 refine st (mv rfl) ?_
 refine st (aw (A:=Dv (slE etE) S g.2) (B:=Dv (ptE (grE N)) (GB W G) (some g)) lD rfl (fun v w he k=>(pa (G:=S) g v w (Dv.weak k fun b _ hb=>.inr (hSW b hb)) (fun b hb=>Nat.lt_of_lt_of_le (hSw b hb) (Nat.le_trans hN0' he.size)) hse (by omega) hN).mono fun en w' ⟨u,k1,k2,k3⟩=>⟨u,k1,k2,OwR.sl k3⟩)) ?_
 refine en fun a w e' hf=>?_
 replace hN0':=Nat.le_trans hN0' e'.size
 replace e:=e.tr e'
 replace B2:=B2.ext e'
 replace B3:=B3.ext e'
 refine ae hf rfl (by decide) fun a hf=>?_
 refine ae hf rfl (by decide) fun a hf=>?_
 refine aa ?_
 obtain⟨v1,K1,hf⟩:=hf.fix 4 rfl
 obtain⟨v2,K2,hf⟩:=hf.fix 5 rfl
 replace hf:=hf.kp [2,3,4,5]
 obtain⟨N1,hN1⟩:∃N1,N1=w.heap.size:=⟨_,rfl⟩
 have hWN:W.heap.size≤N1:=by rw[hN1];exact e.size
 have hN1s:N1≤w.heap.size:=Nat.le_of_eq hN1
 obtain⟨T,hT⟩:∃T:Nat→Prop,T=fun b=>b=b2∨b=b3∨N1≤b:=⟨_,rfl⟩
 have hST:∀b,b<w.heap.size→T b→S b:=fun b hb ht=>by rw[hT] at ht;rw[hS];rcases ht with h|h|h;exact .inl h;exact .inr h;omega
 replace K1:(Dv (slE vtE) T g.1).p v1 w:=Dv.weak K1 hST
 replace K2:(Dv (slE etE) T g.2).p v2 w:=Dv.weak K2 hST
 have t3:T b3:=by rw[hT];exact .inr (.inl rfl)
 have tN:∀b,N1≤b→T b:=fun b hb=>by rw[hT];exact .inr (.inr hb)
 have lb:b2<N1∧b3<N1:=⟨by rw[hN1];exact B2.lt,by rw[hN1];exact B3.lt⟩
 clear hT hST hN1 hS hSW hSw
 repeat refine seq ?_
 refine ah ?_
 refine ae hf rfl (by decide) fun a hf=>?_
 refine aa ?_
 replace hf:=hf.kp [2,3,4,5,6]
 refine blk (aG (fun r0 a w=>∃(k:Nat) (uo:Value),r0=g.1.length - k∧k≤g.1.length∧Fr 44 a w [(2,E (.pointer (some ⟨b2,0,none⟩))),(3,E (.pointer (some ⟨b3,0,none⟩))),(4,E v1),(5,E v2),(6,E (I k))]∧Ext W w∧Blk w b2 #[.slice none 0 0,.slice none 0 0] 36∧Blk w b3 #[uo,.slice none 0 0] 36∧(Dv (slE vtE) T g.1).p v1 w∧(Dv (slE etE) T g.2).p v2 w∧OwR vtE 73 N1 G0 w (g.1.take k) uo∧N1≤w.heap.size) g.1.length ⟨0,.slice none 0 0,rfl,by omega,hf,e,⟨B2,B3,K1,K2,OwR.nil vtE _ hN1s fun b hb=>hb.elim,hN1s⟩⟩ ?_)
 clear hf e;try clear B2;try clear B3;try clear K1;try clear K2;try clear Ho;try clear hN1s
 rintro r0 a w ⟨k,uo,rfl,hk,hf,e,B2,B3,K1,K2,Ho,hN1s⟩
 repeat refine seq ?_
 refine ac 4 hf (by decide +kernel) ?_
 refine st (mv rfl) ?_
 refine st (mv rfl) ?_
 refine st (ay U69 (isE rfl K1)) ?_
 refine st (lss rfl rfl) ?_
 refine en fun a w e' hf=>?_
 replace K1:=VA.st _ _ _ _ e' K1
 replace K2:=VA.st _ _ _ _ e' K2
 replace hN1s:=Nat.le_trans hN1s e'.size
 replace e:=e.tr e'
 replace B2:=B2.ext e'
 replace B3:=B3.ext e'
 replace Ho:=Ho.ext e'
 refine aa ?_
 refine ifc hf rfl (fun hc=>ak ?_) (fun hc=>aF ?_)
 rotate_left
 rotate_left
 ·have hlt:k<g.1.length:=by have:=of_decide_eq_true hc;(try dsimp only at this);omega
  clear hc
  replace hf:=hf.kp [2,3,4,5,6]
  refine seq ?_
  refine blk ?_
  have hx:=List.getElem?_eq_getElem hlt
  generalize g.1[k]=x at hx
  have hsc:=cG hx
  have hol:(g.1.take k).length≤100000:=Nat.le_trans (List.length_take_le' _ _) (by omega)
  generalize g.1.take k=out at hsc hol Ho
  have z2:uo.ownBlock≠some b2:=Ho.neLt (by omega)
  have z3:uo.ownBlock≠some b3:=Ho.neLt (by omega)
  have hrow:∀b,uo.ownBlock=some b→W.heap.size≤b:=fun b hb=>by have:=(Ho.lt hb).1;omega
  have hrT:∀b,uo.ownBlock=some b→T b:=fun b hb=>tN b (Ho.lt hb).1
  haveI hinT:InR T uo.ownBlock:=⟨hrT⟩
  refine hU 9 7 uo.ownBlock (by decide) Mix.mix hf (by decide +kernel) ?_
  refine xm (fun w1 h1=>ai U36 rfl T33 (by decide) rfl) ?_
  refine xm (fun w1 h1=>ld1 (v:=uo) T33 rfl (B3.gro h1 z3) rfl) ?_
  refine xm (fun w1 h1=>mv rfl) ?_
  refine xm (fun w1 h1=>mv rfl) ?_
  refine xm (fun w1 h1=>az U69 S72 (isE rfl (Dv.gro K1 h1 hrT)) rfl (by omega) (hx)) ?_
  refine xm (fun w1 h1=>ev T72 (isR rfl)) ?_
  refine xm (fun w1 h1=>br U33 I73 rfl (by decide) rfl (fun b hb=>Nat.lt_of_lt_of_le (Ho.avs b hb) h1.size) (eI rfl)) ?_
  refine xx (hY U33 I73 rfl rfl rfl Ho rfl (by simp only[List.length_singleton];omega) (by simp only[List.length_singleton,maxLen];omega)) ?_
  refine xn (fun w1 h1=>ai U36 rfl T33 (by decide) rfl) ?_
  refine xe fun a w hg hf=>?_
  obtain⟨vn,⟨Hn,hat⟩,hf⟩:=hf.fix 26 rfl
  replace e:=e.gro hg hrow
  replace B2:=B2.gro hg z2
  replace B3:=B3.gro hg z3
  replace K1:=Dv.gro K1 hg hrT
  replace K2:=Dv.gro K2 hg hrT
  replace hN1s:=Nat.le_trans hN1s hg.size
  have z3':vn.ownBlock≠some b3:=Hn.neLt (by omega)
  have hov:vn.oneCell'=true:=Dv.slOne Hn.sl
  clear hg
  replace hf:=hf.kp [2,3,4,5,6,26,27]
  refine aP T33 hf rfl rfl hov B3 (show (0:Nat)<2 by decide) fun w hg hsz B3 hf=>?_
  replace e:=e.gr hg (by omega);replace B2:=B2.gr hg (by omega);replace Hn:=Hn.grE hg z3';replace K1:=Dv.gr K1 hg t3;replace K2:=Dv.gr K2 hg t3;replace hN1s:=Nat.le_trans hN1s hg.size;clear hg
  refine aa ?_
  replace B3:Blk w b3 #[vn,.slice none 0 0] 36:=B3
  clear Ho
  have Ho:=Hn
  rw[← hsc] at Ho
  clear Hn
  simp only[Exit.then,Exit.inBlock,↓reduceIte]
  refine ac 2 hf (by decide +kernel) ?_
  refine st (mv rfl) ?_
  refine st ((add rfl rfl (by omega)).eq (congrArg (Value.int .i64) (show (k:Int)+1=((k+1:Nat):Int) from rfl))) ?_
  refine en fun a w e' hf=>?_
  replace K1:=VA.st _ _ _ _ e' K1
  replace K2:=VA.st _ _ _ _ e' K2
  replace Ho:=Ho.ext e'
  replace hN1s:=Nat.le_trans hN1s e'.size
  replace e:=e.tr e'
  replace B2:=B2.ext e'
  replace B3:=B3.ext e'
  refine ae hf rfl (by decide) fun a hf=>?_
  refine aa ?_
  replace hf:=hf.kp [2,3,4,5,6]
  refine⟨_,?_,k+1,vn,rfl,by omega,hf,e,?_⟩
  ·omega
  exact⟨B2,B3,K1,K2,Ho,hN1s⟩
 ·obtain rfl:k=g.1.length:=by have:=of_decide_eq_false hc;(try dsimp only at this);omega
  clear hc
  simp only[Exit.then,Exit.inBlock,↓reduceIte]
  rw[List.take_length] at Ho
  have O1:=Ho.sl
  have oB:=Ho.neB B3 (by decide)
  have oA:=Ho.neB B2 (by decide)
  have oT:∀b,uo.ownBlock=some b→N1≤b:=fun b hb=>(Ho.lt hb).1
  obtain⟨N2,hN2⟩:∃N2,N2=w.heap.size:=⟨_,rfl⟩
  have hN2s:N2≤w.heap.size:=Nat.le_of_eq hN2
  have hN12:N1≤N2:=by rw[hN2];exact hN1s
  obtain⟨T2,hT2⟩:∃T2:Nat→Prop,T2=fun b=>b=b2∨b=b3∨N2≤b:=⟨_,rfl⟩
  replace O1:(Dv (slE vtE) T2 g.1).p uo w:=Ho.slN fun b hb=>by rw[hT2];rintro (h|h|h);exact oA (by rw[hb,h]);exact oB (by rw[hb,h]);have:=(Ho.lt hb).2;omega
  have t23:T2 b3:=by rw[hT2];exact .inr (.inl rfl)
  have t22:T2 b2:=by rw[hT2];exact .inl rfl
  have t2N:∀b,N2≤b→T2 b:=fun b hb=>by rw[hT2];exact .inr (.inr hb)
  have ov1:uo.oneCell'=true:=Dv.slOne Ho.sl
  clear hT2 hN2 oB oA oT Ho
  generalize uo=o1 at B3 O1 ov1
  replace hf:=hf.kp [2,3,4,5]
  repeat refine seq ?_
  refine ah ?_
  refine ae hf rfl (by decide) fun a hf=>?_
  refine aa ?_
  replace hf:=hf.kp [2,3,4,5,7]
  refine blk (aG (fun r0 a w=>∃(k:Nat) (uo:Value),r0=g.2.length - k∧k≤g.2.length∧Fr 44 a w [(2,E (.pointer (some ⟨b2,0,none⟩))),(3,E (.pointer (some ⟨b3,0,none⟩))),(4,E v1),(5,E v2),(7,E (I k))]∧Ext W w∧Blk w b2 #[.slice none 0 0,.slice none 0 0] 36∧Blk w b3 #[o1,uo] 36∧(Dv (slE vtE) T g.1).p v1 w∧(Dv (slE etE) T g.2).p v2 w∧OwR etE 76 N2 G0 w (g.2.take k) uo∧N2≤w.heap.size∧(Dv (slE vtE) T2 g.1).p o1 w) g.2.length ⟨0,.slice none 0 0,rfl,by omega,hf,e,⟨B2,B3,K1,K2,OwR.nil etE _ hN2s fun b hb=>hb.elim,hN2s,O1⟩⟩ ?_)
  clear hf e;try clear B2;try clear B3;try clear K1;try clear K2;try clear Ho;try clear hN2s;try clear O1
  rintro r0 a w ⟨k,uo,rfl,hk,hf,e,B2,B3,K1,K2,Ho,hN2s,O1⟩
  repeat refine seq ?_
  refine ac 4 hf (by decide +kernel) ?_
  refine st (mv rfl) ?_
  refine st (mv rfl) ?_
  refine st (ay U70 (isE rfl K2)) ?_
  refine st (lss rfl rfl) ?_
  refine en fun a w e' hf=>?_
  replace K1:=VA.st _ _ _ _ e' K1
  replace K2:=VA.st _ _ _ _ e' K2
  replace hN2s:=Nat.le_trans hN2s e'.size
  replace O1:=VA.st _ _ _ _ e' O1
  replace e:=e.tr e'
  replace B2:=B2.ext e'
  replace B3:=B3.ext e'
  replace Ho:=Ho.ext e'
  refine aa ?_
  refine ifc hf rfl (fun hc=>ak ?_) (fun hc=>aF ?_)
  rotate_left
  rotate_left
  ·have hlt:k<g.2.length:=by have:=of_decide_eq_true hc;(try dsimp only at this);omega
   clear hc
   replace hf:=hf.kp [2,3,4,5,7]
   refine seq ?_
   refine blk ?_
   have hx:=List.getElem?_eq_getElem hlt
   generalize g.2[k]=x at hx
   have hsc:=cG hx
   have hol:(g.2.take k).length≤100000:=Nat.le_trans (List.length_take_le' _ _) (by omega)
   generalize g.2.take k=out at hsc hol Ho
   have z2:uo.ownBlock≠some b2:=Ho.neLt (by omega)
   have z3:uo.ownBlock≠some b3:=Ho.neLt (by omega)
   have hrow:∀b,uo.ownBlock=some b→W.heap.size≤b:=fun b hb=>by have:=(Ho.lt hb).1;omega
   have hrT:∀b,uo.ownBlock=some b→T b:=fun b hb=>(fun b hb=>tN b (Nat.le_trans hN12 hb)) b (Ho.lt hb).1
   haveI hinT:InR T uo.ownBlock:=⟨hrT⟩
   have hrT2:∀b,uo.ownBlock=some b→T2 b:=fun b hb=>t2N b (Ho.lt hb).1
   refine hU 9 7 uo.ownBlock (by decide) Mix.mix hf (by decide +kernel) ?_
   refine xm (fun w1 h1=>ai U36 rfl T34 (by decide) rfl) ?_
   refine xm (fun w1 h1=>ld1 (v:=uo) T34 rfl (B3.gro h1 z3) rfl) ?_
   refine xm (fun w1 h1=>mv rfl) ?_
   refine xm (fun w1 h1=>mv rfl) ?_
   refine xm (fun w1 h1=>az U70 S75 (isE rfl (Dv.gro K2 h1 hrT)) rfl (by omega) (hx)) ?_
   refine xm (fun w1 h1=>eH T75 (isR rfl)) ?_
   refine xm (fun w1 h1=>br U34 I76 rfl (by decide) rfl (fun b hb=>Nat.lt_of_lt_of_le (Ho.avs b hb) h1.size) (eJ rfl)) ?_
   refine xx (hY U34 I76 rfl rfl rfl Ho rfl (by simp only[List.length_singleton];omega) (by simp only[List.length_singleton,maxLen];omega)) ?_
   refine xn (fun w1 h1=>ai U36 rfl T34 (by decide) rfl) ?_
   refine xe fun a w hg hf=>?_
   obtain⟨vn,⟨Hn,hat⟩,hf⟩:=hf.fix 41 rfl
   replace e:=e.gro hg hrow
   replace B2:=B2.gro hg z2
   replace B3:=B3.gro hg z3
   replace K1:=Dv.gro K1 hg hrT
   replace K2:=Dv.gro K2 hg hrT
   replace hN2s:=Nat.le_trans hN2s hg.size
   replace O1:=Dv.gro O1 hg hrT2
   have z3':vn.ownBlock≠some b3:=Hn.neLt (by omega)
   have hov:vn.oneCell'=true:=Dv.slOne Hn.sl
   clear hg
   replace hf:=hf.kp [2,3,4,5,7,41,42]
   refine aP T34 hf rfl rfl hov B3 (show (1:Nat)<2 by decide) fun w hg hsz B3 hf=>?_
   replace e:=e.gr hg (by omega);replace B2:=B2.gr hg (by omega);replace Hn:=Hn.grE hg z3';replace K1:=Dv.gr K1 hg t3;replace K2:=Dv.gr K2 hg t3;replace hN2s:=Nat.le_trans hN2s hg.size;replace O1:=Dv.gr O1 hg t23;clear hg
   refine aa ?_
   replace B3:Blk w b3 #[o1,vn] 36:=B3
   clear Ho
   have Ho:=Hn
   rw[← hsc] at Ho
   clear Hn
   simp only[Exit.then,Exit.inBlock,↓reduceIte]
   refine ac 2 hf (by decide +kernel) ?_
   refine st (mv rfl) ?_
   refine st ((add rfl rfl (by omega)).eq (congrArg (Value.int .i64) (show (k:Int)+1=((k+1:Nat):Int) from rfl))) ?_
   refine en fun a w e' hf=>?_
   replace K1:=VA.st _ _ _ _ e' K1
   replace K2:=VA.st _ _ _ _ e' K2
   replace Ho:=Ho.ext e'
   replace hN2s:=Nat.le_trans hN2s e'.size
   replace O1:=VA.st _ _ _ _ e' O1
   replace e:=e.tr e'
   replace B2:=B2.ext e'
   replace B3:=B3.ext e'
   refine ae hf rfl (by decide) fun a hf=>?_
   refine aa ?_
   replace hf:=hf.kp [2,3,4,5,7]
   refine⟨_,?_,k+1,vn,rfl,by omega,hf,e,?_⟩
   ·omega
   exact⟨B2,B3,K1,K2,Ho,hN2s,O1⟩
  ·obtain rfl:k=g.2.length:=by have:=of_decide_eq_false hc;(try dsimp only at this);omega
   clear hc
   simp only[Exit.then,Exit.inBlock,↓reduceIte]
   rw[List.take_length] at Ho
   have ov2:uo.oneCell'=true:=Dv.slOne Ho.sl
   have oA:=Ho.neB B2 (by decide)
   have O2:(Dv (slE etE) (fun b=>b=b2) g.2).p uo w:=Ho.slN fun b hb h=>oA (by rw[hb,h])
   clear Ho oA
   replace hf:=hf.kp [2,3]
   refine seq ?_
   refine ac 1 hf (by decide +kernel) ?_
   refine st (ldW T36 rfl B3 rfl) ?_
   refine en fun a w e' hf=>?_
   replace O1:=VA.st _ _ _ _ e' O1
   replace O2:=VA.st _ _ _ _ e' O2
   replace e:=e.tr e'
   replace B2:=B2.ext e'
   replace B3:=B3.ext e'
   clear e'
   refine aD T36 hf rfl rfl (aX ov1 ov2) B2 rfl rfl fun w hg hsz B2 hf=>?_
   replace e:=e.gr hg (by omega);replace O1:=Dv.gr O1 hg t22;replace O2:=Dv.gr O2 hg rfl;clear hg
   refine aa ?_
   refine aj ?_
   refine cR rfl T36 hf rfl B2 rfl ?_
   exact⟨_,rfl,e,Dv.gt.2 ⟨_,_,rfl,Dv.weak O1 (fun b _ hb=>hb.elim),Dv.weak O2 (fun b _ hb=>hb.elim)⟩⟩
theorem fq {P:Program} {w:World} {d:Nat} {xs:Array Value} {f:Field} {fs:List Field} {x:Value} (n0:f.name ≠ "_") (p0:(part f.type xs f.offset).run P w=.ok x w) (h0:(Op.equalIn d f.type x x).run P w=.ok true w) (hr:(Op.eqFields d xs xs fs).run P w=.ok true w):(Op.eqFields d xs xs (f::fs)).run P w=.ok true w:=by
 rw[Op.eqFields]
 simp only[n0,if_true,ne_eq,not_false_eq_true,Sem.run_bind,Result.andThen_ok,p0,h0]
 exact hr
theorem pI {P:Program}{w:World}{d:Nat}{xs:Array Value}:(Op.eqFields d xs xs []).run P w=.ok true w:=by rw[Op.eqFields];rfl
theorem gN (w:World)(n:Int):(Op.equalIn 9999 3 (.int .i64 n) (.int .i64 n)).run Tryz.prog w=.ok true w:=by
 have:=run_equalIn_int w 9998 3 .i64 .i64 n n U3
 simpa using this
theorem pJ (w:World)(n:Int):(Op.equalIn 9999 5 (.int .u8 n) (.int .u8 n)).run Tryz.prog w=.ok true w:=by
 have:=run_equalIn_int w 9998 5 .u8 .u8 n n U5
 simpa using this
theorem wY:(Tryz.prog.fieldsOf 73).toList=[⟨"Id",3,0,false,"","",0⟩,⟨"Label",5,1,false,"","",8⟩,⟨"Weight",3,2,false,"","",16⟩]:=by kernel_rfl
theorem wZ:(Tryz.prog.fieldsOf 76).toList=[⟨"U",3,0,false,"","",0⟩,⟨"V",3,1,false,"","",8⟩,⟨"Label",5,2,false,"","",16⟩,⟨"Weight",3,3,false,"","",24⟩]:=by kernel_rfl
theorem xa {w0:World}{L:Env}{dst:Option Tmp}{ty:TypeId}{pos:String}{aft:Array Edge}{g:Option (Nat×Bool)}{x y:Operand}{yt:TypeId}{a:VT}(hx:opd L x=some (E (vtV a)))(hy:opd L y=some (E (vtV a))) :
  OpC Tryz.prog w0 L ⟨dst,.binOp .neq 73 x y yt,ty,pos,aft,g⟩ (E (.bool false)):=
 ll hx hy (fun w=>jm _ _ _ _ _ _ (by kernel_rfl:Tryz.prog.eqGuardType Tryz.prog.depth 73=false) w) rfl fun w _=>by
  show (Op.equalIn 10000 73 (.agg #[.int .i64 a.1,.int .u8 a.2.1,.int .i64 a.2.2]) (.agg #[.int .i64 a.1,.int .u8 a.2.1,.int .i64 a.2.2])).run Tryz.prog w=_
  rw[run_equalIn_struct w 9999 _ _ _ (by kernel_rfl:Tryz.prog.underlying 73=some (.struct (Tryz.prog.fieldsOf 73))) (by kernel_rfl),wY]
  exact fq (x:=.int .i64 a.1) (by decide) (by simp[part,T3.agg w]) (gN w _) (fq (x:=.int .u8 a.2.1) (by decide) (by simp[part,T5.agg w]) (pJ w _) (fq (x:=.int .i64 a.2.2) (by decide) (by simp[part,T3.agg w]) (gN w _) pI))
theorem xb {w0:World}{L:Env}{dst:Option Tmp}{ty:TypeId}{pos:String}{aft:Array Edge}{g:Option (Nat×Bool)}{x y:Operand}{yt:TypeId}{a:ET}(hx:opd L x=some (E (etV a)))(hy:opd L y=some (E (etV a))) :
  OpC Tryz.prog w0 L ⟨dst,.binOp .neq 76 x y yt,ty,pos,aft,g⟩ (E (.bool false)):=
 ll hx hy (fun w=>jm _ _ _ _ _ _ (by kernel_rfl:Tryz.prog.eqGuardType Tryz.prog.depth 76=false) w) rfl fun w _=>by
  show (Op.equalIn 10000 76 (.agg #[.int .i64 a.1.1,.int .i64 a.1.2,.int .u8 a.2.1,.int .i64 a.2.2]) (.agg #[.int .i64 a.1.1,.int .i64 a.1.2,.int .u8 a.2.1,.int .i64 a.2.2])).run Tryz.prog w=_
  rw[run_equalIn_struct w 9999 _ _ _ (by kernel_rfl:Tryz.prog.underlying 76=some (.struct (Tryz.prog.fieldsOf 76))) (by kernel_rfl),wZ]
  exact fq (x:=.int .i64 a.1.1) (by decide) (by simp[part,T3.agg w]) (gN w _) (fq (x:=.int .i64 a.1.2) (by decide) (by simp[part,T3.agg w]) (gN w _) (fq (x:=.int .u8 a.2.1) (by decide) (by simp[part,T5.agg w]) (pJ w _) (fq (x:=.int .i64 a.2.2) (by decide) (by simp[part,T3.agg w]) (gN w _) pI)))
theorem xc {G G2:Nat→Prop}(g:GT)(v u:Value)(W:World)(h:(Dv gtE G g).p v W)(h':(Dv gtE G2 g).p u W)(hl1:g.1.length≤100000)(hl2:g.2.length≤100000) :
  Calls Tryz.prog 12 #[v,u] W (Post (E (B true)) W):=by
 refine enter (args:=[v,u]) (As:=[Dv gtE G0 g,Dv gtE G0 g]) Tryz.func12 rfl Tryz.ntmps12 (Nat.le_of_ble_eq_true rfl) ?_ (fun a hf=>?_) (Nat.le_of_ble_eq_true rfl)
 rotate_left
 dsimp only[params,Nat.reduceAdd] at hf
 rotate_right
 ·exact arg2 (Dv.weak h fun b _ hb=>hb.elim) (Dv.weak h' fun b _ hb=>hb.elim)
 have e:=Ext.rfl' W
 refine seq ?_
 refine ah ?_
 refine dr hf rfl (by decide) (fun _ h=>h.elim) fun a w e' hf=>?_
 replace e:=e.tr e'
 clear e'
 refine dr hf rfl (by decide) (fun _ h=>h.elim) fun a w e' hf=>?_
 replace e:=e.tr e'
 refine ae hf rfl (by decide) fun a hf=>?_
 refine aa ?_
 repeat refine seq ?_
 refine ac 16 hf (by decide +kernel) ?_
 refine st (am U36 rfl T33 (by decide) (Fld.fst Fld.refl) (isR rfl)) ?_
 refine st (ldD T33 (isR rfl)) ?_
 refine st (ay U33 (isR rfl)) ?_
 refine st (am U36 rfl T33 (by decide) (Fld.fst Fld.refl) (isR rfl)) ?_
 refine st (ldD T33 (isR rfl)) ?_
 refine st (ay U33 (isR rfl)) ?_
 refine st ((neq rfl rfl).eq (congrArg Value.bool (bne_self_eq_false _))) ?_
 refine st (mv rfl) ?_
 refine sy rfl rfl (am U36 rfl T34 (by decide) (Fld.snd Fld.refl rfl) (isR rfl)) ?_
 refine sy rfl rfl (ldD T34 (isR rfl)) ?_
 refine sy rfl rfl (ay U34 (isR rfl)) ?_
 refine sy rfl rfl (am U36 rfl T34 (by decide) (Fld.snd Fld.refl rfl) (isR rfl)) ?_
 refine sy rfl rfl (ldD T34 (isR rfl)) ?_
 refine sy rfl rfl (ay U34 (isR rfl)) ?_
 refine sy rfl rfl ((neq rfl rfl).eq (congrArg Value.bool (bne_self_eq_false _))) ?_
 refine st (pkF rfl rfl) ?_
 refine en fun a w e' hf=>?_
 replace e:=e.tr e'
 refine aa ?_
 refine ifc hf rfl (fun h=>by cases h) (fun _=>?_)
 refine ak ?_
 simp only[Exit.then,Exit.inBlock,↓reduceIte]
 replace hf:=hf.kp [2,3]
 repeat refine seq ?_
 refine ah ?_
 refine ae hf rfl (by decide) fun a hf=>?_
 refine aa ?_
 have ht:True:=trivial
 replace hf:=hf.kp [2,3,5]
 refine blk (aG (fun r0 a w=>∃(k:Nat) ,r0=g.1.length - k∧k≤g.1.length∧Fr 59 a w [(2,Dv (ptE gtE) G0 (some g)),(3,Dv (ptE gtE) G0 (some g)),(5,E (I k))]∧Ext W w∧True) g.1.length ⟨0,rfl,by omega,hf,e,ht⟩ ?_)
 clear hf e;try clear ht
 rintro r0 a w ⟨k,rfl,hk,hf,e,ht⟩
 repeat refine seq ?_
 refine ac 5 hf (by decide +kernel) ?_
 refine st (mv rfl) ?_
 refine st (am U36 rfl T33 (by decide) (Fld.fst Fld.refl) (isR rfl)) ?_
 refine st (ldD T33 (isR rfl)) ?_
 refine st (ay U33 (isR rfl)) ?_
 refine st (lss rfl rfl) ?_
 refine en fun a w e' hf=>?_
 replace e:=e.tr e'
 refine aa ?_
 refine ifc hf rfl (fun hc=>ak ?_) (fun hc=>aF ?_)
 rotate_left
 rotate_left
 ·have hlt:k<g.1.length:=by have:=of_decide_eq_true hc;(try dsimp only at this);omega
  clear hc
  replace hf:=hf.kp [2,3,5]
  refine seq ?_
  refine blk ?_
  have hx:=List.getElem?_eq_getElem hlt
  generalize g.1[k]=x at hx
  refine seq ?_
  refine reg 11 Mix.mix hf (by decide +kernel) ?_
  refine st (am U36 rfl T33 (by decide) (Fld.fst Fld.refl) (isR rfl)) ?_
  refine st (ldD T33 (isR rfl)) ?_
  refine st (mv rfl) ?_
  refine st (az U33 S73 (isR rfl) rfl (by omega) (hx)) ?_
  refine st (ev T73 (isR rfl)) ?_
  refine st (am U36 rfl T33 (by decide) (Fld.fst Fld.refl) (isR rfl)) ?_
  refine st (ldD T33 (isR rfl)) ?_
  refine st (mv rfl) ?_
  refine st (az U33 S73 (isR rfl) rfl (by omega) (hx)) ?_
  refine st (ev T73 (isR rfl)) ?_
  refine st (xa rfl rfl) ?_
  refine en fun a w e' hf=>?_
  replace e:=e.tr e'
  refine aa ?_
  refine ifc hf rfl (fun h=>by cases h) (fun _=>?_)
  refine ak ?_
  simp only[Exit.then,Exit.inBlock,↓reduceIte]
  refine ac 2 hf (by decide +kernel) ?_
  refine st (mv rfl) ?_
  refine st ((add rfl rfl (by omega)).eq (congrArg (Value.int .i64) (show (k:Int)+1=((k+1:Nat):Int) from rfl))) ?_
  refine en fun a w e' hf=>?_
  replace e:=e.tr e'
  refine ae hf rfl (by decide) fun a hf=>?_
  refine aa ?_
  replace hf:=hf.kp [2,3,5]
  refine⟨_,?_,k+1,rfl,by omega,hf,e,?_⟩
  ·omega
  exact ht
 ·obtain rfl:k=g.1.length:=by have:=of_decide_eq_false hc;(try dsimp only at this);omega
  clear hc
  simp only[Exit.then,Exit.inBlock,↓reduceIte]
  repeat refine seq ?_
  refine ah ?_
  refine ae hf rfl (by decide) fun a hf=>?_
  refine aa ?_
  replace hf:=hf.kp [2,3,6]
  refine blk (aG (fun r0 a w=>∃(k:Nat) ,r0=g.2.length - k∧k≤g.2.length∧Fr 59 a w [(2,Dv (ptE gtE) G0 (some g)),(3,Dv (ptE gtE) G0 (some g)),(6,E (I k))]∧Ext W w∧True) g.2.length ⟨0,rfl,by omega,hf,e,ht⟩ ?_)
  clear hf e;try clear ht
  rintro r0 a w ⟨k,rfl,hk,hf,e,ht⟩
  repeat refine seq ?_
  refine ac 5 hf (by decide +kernel) ?_
  refine st (mv rfl) ?_
  refine st (am U36 rfl T34 (by decide) (Fld.snd Fld.refl rfl) (isR rfl)) ?_
  refine st (ldD T34 (isR rfl)) ?_
  refine st (ay U34 (isR rfl)) ?_
  refine st (lss rfl rfl) ?_
  refine en fun a w e' hf=>?_
  replace e:=e.tr e'
  refine aa ?_
  refine ifc hf rfl (fun hc=>ak ?_) (fun hc=>aF ?_)
  rotate_left
  rotate_left
  ·have hlt:k<g.2.length:=by have:=of_decide_eq_true hc;(try dsimp only at this);omega
   clear hc
   replace hf:=hf.kp [2,3,6]
   refine seq ?_
   refine blk ?_
   have hx:=List.getElem?_eq_getElem hlt
   generalize g.2[k]=x at hx
   refine seq ?_
   refine reg 11 Mix.mix hf (by decide +kernel) ?_
   refine st (am U36 rfl T34 (by decide) (Fld.snd Fld.refl rfl) (isR rfl)) ?_
   refine st (ldD T34 (isR rfl)) ?_
   refine st (mv rfl) ?_
   refine st (az U34 S76 (isR rfl) rfl (by omega) (hx)) ?_
   refine st (eH T76 (isR rfl)) ?_
   refine st (am U36 rfl T34 (by decide) (Fld.snd Fld.refl rfl) (isR rfl)) ?_
   refine st (ldD T34 (isR rfl)) ?_
   refine st (mv rfl) ?_
   refine st (az U34 S76 (isR rfl) rfl (by omega) (hx)) ?_
   refine st (eH T76 (isR rfl)) ?_
   refine st (xb rfl rfl) ?_
   refine en fun a w e' hf=>?_
   replace e:=e.tr e'
   refine aa ?_
   refine ifc hf rfl (fun h=>by cases h) (fun _=>?_)
   refine ak ?_
   simp only[Exit.then,Exit.inBlock,↓reduceIte]
   refine ac 2 hf (by decide +kernel) ?_
   refine st (mv rfl) ?_
   refine st ((add rfl rfl (by omega)).eq (congrArg (Value.int .i64) (show (k:Int)+1=((k+1:Nat):Int) from rfl))) ?_
   refine en fun a w e' hf=>?_
   replace e:=e.tr e'
   refine ae hf rfl (by decide) fun a hf=>?_
   refine aa ?_
   replace hf:=hf.kp [2,3,6]
   refine⟨_,?_,k+1,rfl,by omega,hf,e,?_⟩
   ·omega
   exact ht
  ·obtain rfl:k=g.2.length:=by have:=of_decide_eq_false hc;(try dsimp only at this);omega
   clear hc
   simp only[Exit.then,Exit.inBlock,↓reduceIte]
   refine seq ?_
   refine ah ?_
   refine ae hf rfl (by decide) fun a hf=>?_
   refine aa ?_
   refine aj ?_
   refine al rfl hf rfl ?_
   rintro _ rfl
   exact⟨_,rfl,e,rfl⟩
def xd (g:GT)(W:World)(en:Ending)(w':World):Prop:=
 Ext W w'∧((∃g' bg bv be,dO g.1 g.2=some g'∧en=.returned (.pointer (some ⟨bg,0,none⟩))∧W.heap.size≤bg∧W.heap.size≤bv∧W.heap.size≤be∧GrR w' bg bv be (g.1.length+g.2.length) g')∨(dO g.1 g.2=none∧en=.returned (.pointer none)))
theorem xf {G:Nat→Prop}(g:GT)(v:Value)(W:World)(h:(Dv gtE G g).p v W)(hl1:g.1.length≤100000)(hl2:g.2.length≤100000)(hV:∀x∈g.1,okD (dV x))(hE:∀x∈g.2,okD (dE x)) :
  Calls Tryz.prog 7 #[v] W (xd g W):=by
 obtain⟨u1,u2,rfl,h1,h2⟩:=Dv.gt.1 (Dv.weak (G':=G0) h fun b _ hb=>hb.elim)
 have h1b:=Dv.toB h1
 have h2b:=Dv.toB h2
 refine enter (args:=[.agg #[u1,u2]]) (As:=[E (.agg #[u1,u2])]) Tryz.func7 rfl Tryz.ntmps7 (Nat.le_of_ble_eq_true rfl) ?_ (fun a hf=>?_) (Nat.le_of_ble_eq_true rfl)
 rotate_left
 dsimp only[params,Nat.reduceAdd] at hf
 rotate_right
 ·exact arg1 rfl
 have e:=Ext.rfl' W
 refine seq ?_
 refine ah ?_
 refine aH hf rfl (by decide) fun a b1 w v1 hv1 e' hb1 hs1 B1 hf=>?_
 have hle1:=Nat.le_trans e.size (Nat.le_of_eq hb1.symm)
 replace e:=e.tr e'
 refine ae hf rfl (by decide) fun a hf=>?_
 refine aa ?_
 cases hv1
 refine seq ?_
 refine ah ?_
 refine ae hf rfl (by decide) fun a hf=>?_
 refine aa ?_
 refine seq ?_
 refine ah ?_
 refine ae hf rfl (by decide) fun a hf=>?_
 refine aa ?_
 repeat refine seq ?_
 refine ah ?_
 refine ae hf rfl (by decide) fun a hf=>?_
 refine aa ?_
 replace hf:=hf.kp [1,2,3,4,5]
 refine blk (aG (fun r0 a w=>∃(k:Nat) (u:Value),r0=g.1.length - k∧k≤g.1.length∧Fr 48 a w [(1,E (.pointer (some ⟨b1,0,none⟩))),(2,E (.pointer none)),(3,E u),(4,E (.slice none 0 0)),(5,E (I k))]∧Ext W w∧Blk w b1 #[u1,u2] 36∧OwR vtE 72 (b1+1) G0 w (g.1.take k) u) g.1.length ⟨0,.slice none 0 0,rfl,by omega,hf,e,⟨B1,OwR.nil vtE _ (by have:=B1.lt;omega) fun b hb=>hb.elim⟩⟩ ?_)
 clear hf e;try clear B1;try clear Ho
 rintro r0 a w ⟨k,u,rfl,hk,hf,e,B1,Ho⟩
 repeat refine seq ?_
 refine ac 5 hf (by decide +kernel) ?_
 refine st (mv rfl) ?_
 refine st (ai U36 rfl T33 (by decide) rfl) ?_
 refine st (ld1 T33 rfl (by assumption) rfl) ?_
 refine st (ay U33 (isE rfl (VA.st _ _ _ _ e h1))) ?_
 refine st (lss rfl rfl) ?_
 refine en fun a w e' hf=>?_
 replace e:=e.tr e'
 replace B1:=B1.ext e'
 replace Ho:=Ho.ext e'
 refine aa ?_
 refine ifc hf rfl (fun hc=>ak ?_) (fun hc=>aF ?_)
 rotate_left
 rotate_left
 ·have hlt:k<g.1.length:=by have:=of_decide_eq_true hc;(try dsimp only at this);omega
  clear hc
  replace hf:=hf.kp [1,2,3,4,5]
  refine seq ?_
  refine blk ?_
  have hg:=List.getElem?_eq_getElem hlt
  generalize g.1[k]=y at hg
  have hlk:=List.length_take_le k g.1
  have n1:=Ho.neLt (b:=b1) (by omega)
  refine ac 7 hf (by decide +kernel) ?_
  refine st (mv rfl) ?_
  refine st (ai U36 rfl T33 (by decide) rfl) ?_
  refine st (ld1 T33 rfl B1 rfl) ?_
  refine st (mv rfl) ?_
  refine st (az U33 S73 (isE rfl (VA.st _ _ _ _ e h1b)) rfl (by omega) (hg)) ?_
  refine st (ev T73 (isR rfl)) ?_
  refine st (br U69 I72 rfl (by decide) rfl Ho.avs (eI rfl)) ?_
  refine en fun a w e' hf=>?_
  replace Ho:=Ho.ext e'
  replace e:=e.tr e'
  replace B1:=B1.ext e'
  clear e'
  haveI hin:∀G0,InR (GB W G0) _:=OwR.inGB (W:=W) Ho (by omega)
  refine bs U69 I72 rfl rfl hf (by decide) rfl Ho (isR rfl) (by simp only[List.length_singleton];omega) (by simp only[List.length_singleton,maxLen];omega) fun a v w hg hat Hn hf=>?_
  replace e:=e.gro hg (Ho.row (W:=W) (by omega))
  have hrow:=Ho.row (W:=W) (by omega)
  replace Ho:=Hn
  clear hrow
  replace B1:=B1.gro hg (by assumption)
  replace Ho:=Hn;clear Hn hg hat hin
  refine ae hf rfl (by decide) fun a hf=>?_
  refine aa ?_
  simp only[Exit.then,Exit.inBlock,↓reduceIte]
  refine ac 2 hf (by decide +kernel) ?_
  refine st (mv rfl) ?_
  refine st ((add rfl rfl (by omega)).eq (congrArg (Value.int .i64) (show (k:Int)+1=((k+1:Nat):Int) from rfl))) ?_
  refine en fun a w e' hf=>?_
  replace Ho:=Ho.ext e'
  replace e:=e.tr e'
  replace B1:=B1.ext e'
  refine ae hf rfl (by decide) fun a hf=>?_
  refine aa ?_
  replace hf:=hf.kp [1,2,3,4,5]
  refine⟨_,?_,k+1,_,rfl,by omega,hf,e,?_⟩
  ·omega
  rw[cG hg]
  exact⟨B1,Ho⟩
 ·obtain rfl:k=g.1.length:=by have:=of_decide_eq_false hc;(try dsimp only at this);omega
  clear hc
  simp only[Exit.then,Exit.inBlock,↓reduceIte]
  rw[List.take_length] at Ho
  obtain⟨av,nv,cv,rfl⟩:=Dv.slF Ho.sl
  obtain⟨NV,hNV⟩:∃NV:Nat→Prop,NV=fun b=>(Value.slice av nv cv).ownBlock≠some b:=⟨_,rfl⟩
  have HD:(Dv (slE vtE) NV g.1).p (.slice av nv cv) w:=Ho.slN fun b hb=>by rw[hNV];exact fun h=>h hb
  obtain⟨N5,hN5⟩:∃N5,N5=w.heap.size:=⟨_,rfl⟩
  have hN1:b1<N5:=by rw[hN5];exact B1.lt
  have nV:∀bb,N5≤bb→NV bb:=fun bb hb=>by rw[hNV];intro h;have h3:=Ho.lt h;omega
  have hN5s:N5≤w.heap.size:=Nat.le_of_eq hN5
  clear hN5 hNV Ho
  repeat refine seq ?_
  refine ah ?_
  refine ae hf rfl (by decide) fun a hf=>?_
  refine aa ?_
  replace hf:=hf.kp [1,2,3,4,6]
  refine blk (aG (fun r0 a w=>∃(k:Nat) (u:Value),r0=g.2.length - k∧k≤g.2.length∧Fr 48 a w [(1,E (.pointer (some ⟨b1,0,none⟩))),(2,E (.pointer none)),(3,E (.slice av nv cv)),(4,E u),(6,E (I k))]∧Ext W w∧Blk w b1 #[u1,u2] 36∧(Dv (slE vtE) NV g.1).p (.slice av nv cv) w∧OwR etE 75 N5 G0 w (g.2.take k) u∧N5≤w.heap.size) g.2.length ⟨0,.slice none 0 0,rfl,by omega,hf,e,⟨B1,HD,OwR.nil etE _ hN5s fun b hb=>hb.elim,hN5s⟩⟩ ?_)
  clear hf e;try clear B1;try clear HD;try clear Ho;try clear hN5s
  rintro r0 a w ⟨k,u,rfl,hk,hf,e,B1,HD,Ho,hN5s⟩
  repeat refine seq ?_
  refine ac 5 hf (by decide +kernel) ?_
  refine st (mv rfl) ?_
  refine st (ai U36 rfl T34 (by decide) rfl) ?_
  refine st (ld1 T34 rfl (by assumption) rfl) ?_
  refine st (ay U34 (isE rfl (VA.st _ _ _ _ e h2))) ?_
  refine st (lss rfl rfl) ?_
  refine en fun a w e' hf=>?_
  replace HD:=VA.st _ _ _ _ e' HD
  replace hN5s:=Nat.le_trans hN5s e'.size
  replace e:=e.tr e'
  replace B1:=B1.ext e'
  replace Ho:=Ho.ext e'
  refine aa ?_
  refine ifc hf rfl (fun hc=>ak ?_) (fun hc=>aF ?_)
  rotate_left
  rotate_left
  ·have hlt:k<g.2.length:=by have:=of_decide_eq_true hc;(try dsimp only at this);omega
   clear hc
   replace hf:=hf.kp [1,2,3,4,6]
   refine seq ?_
   refine blk ?_
   have hg:=List.getElem?_eq_getElem hlt
   generalize g.2[k]=y at hg
   have hlk:=List.length_take_le k g.2
   have n1:=Ho.neLt (b:=b1) (by omega)
   refine ac 7 hf (by decide +kernel) ?_
   refine st (mv rfl) ?_
   refine st (ai U36 rfl T34 (by decide) rfl) ?_
   refine st (ld1 T34 rfl B1 rfl) ?_
   refine st (mv rfl) ?_
   refine st (az U34 S76 (isE rfl (VA.st _ _ _ _ e h2b)) rfl (by omega) (hg)) ?_
   refine st (eH T76 (isR rfl)) ?_
   refine st (br U70 I75 rfl (by decide) rfl Ho.avs (eJ rfl)) ?_
   refine en fun a w e' hf=>?_
   replace HD:=VA.st _ _ _ _ e' HD
   replace hN5s:=Nat.le_trans hN5s e'.size
   replace Ho:=Ho.ext e'
   replace e:=e.tr e'
   replace B1:=B1.ext e'
   clear e'
   haveI hin:∀G0,InR (GB W G0) _:=OwR.inGB (W:=W) Ho (by omega)
   refine bs U70 I75 rfl rfl hf (by decide) rfl Ho (isR rfl) (by simp only[List.length_singleton];omega) (by simp only[List.length_singleton,maxLen];omega) fun a v w hg hat Hn hf=>?_
   replace e:=e.gro hg (Ho.row (W:=W) (by omega))
   have hrow:=Ho.row (W:=W) (by omega)
   replace HD:=Dv.grN HD hg (fun bb hb=>nV bb (Ho.lt hb).1)
   replace hN5s:=Nat.le_trans hN5s hg.size
   replace Ho:=Hn
   clear hrow
   replace B1:=B1.gro hg (by assumption)
   replace Ho:=Hn;clear Hn hg hat hin
   refine ae hf rfl (by decide) fun a hf=>?_
   refine aa ?_
   simp only[Exit.then,Exit.inBlock,↓reduceIte]
   refine ac 2 hf (by decide +kernel) ?_
   refine st (mv rfl) ?_
   refine st ((add rfl rfl (by omega)).eq (congrArg (Value.int .i64) (show (k:Int)+1=((k+1:Nat):Int) from rfl))) ?_
   refine en fun a w e' hf=>?_
   replace HD:=VA.st _ _ _ _ e' HD
   replace hN5s:=Nat.le_trans hN5s e'.size
   replace Ho:=Ho.ext e'
   replace e:=e.tr e'
   replace B1:=B1.ext e'
   refine ae hf rfl (by decide) fun a hf=>?_
   refine aa ?_
   replace hf:=hf.kp [1,2,3,4,6]
   refine⟨_,?_,k+1,_,rfl,by omega,hf,e,?_⟩
   ·omega
   rw[cG hg]
   exact⟨B1,HD,Ho,hN5s⟩
  ·obtain rfl:k=g.2.length:=by have:=of_decide_eq_false hc;(try dsimp only at this);omega
   clear hc
   simp only[Exit.then,Exit.inBlock,↓reduceIte]
   rw[List.take_length] at Ho
   replace hf:=hf.kp [2,3,4]
   refine seq ?_
   refine ac 2 hf (by decide +kernel) ?_
   refine st (mv rfl) ?_
   refine st (mv rfl) ?_
   refine en fun a w e' hf=>?_
   replace HD:=VA.st _ _ _ _ e' HD
   replace Ho:=Ho.ext e'
   replace e:=e.tr e'
   clear e'
   refine fM (S:=fun b=>False) (F:=fun z w'=>(∃g' bg bv be,dO g.1 g.2=some g'∧z=.tuple #[.pointer (some ⟨bg,0,none⟩),I 0]∧W.heap.size≤bg∧W.heap.size≤bv∧W.heap.size≤be∧GrR w' bg bv be (g.1.length+g.2.length) g')∨(∃c:Int,c≠0∧dO g.1 g.2=none∧z=.tuple #[.pointer none,I c])) hf (by decide) qP ?_ fun a z w hc hF hf=>?_
   ·have e40:a.eval (.tmp 40)=.slice av nv cv:=hf.opd (.tmp 40) _ rfl
    have e41:a.eval (.tmp 41)=u:=hf.opd (.tmp 41) _ rfl
    simp only[List.map_toArray,List.map_cons,List.map_nil,e40,e41]
    refine (vG (G:=G0) g.1 g.2 _ _ _ (Dv.weak HD fun b _ hb=>hb.elim) Ho.sl hl1 hl2 hV hE).mono ?_
    rintro en w' ⟨k1,⟨g',bg,bv,be,k2,rfl,k4,k5,k6,k7⟩|⟨c,k2,k3,rfl⟩⟩
    ·exact⟨_,rfl,k1.chg _,.inl ⟨g',bg,bv,be,k2,rfl,Nat.le_trans e.size k4,Nat.le_trans e.size k5,Nat.le_trans e.size k6,k7⟩⟩
    ·exact⟨_,rfl,k1.chg _,.inr ⟨c,k2,k3,rfl⟩⟩
   replace e:=e.ch hc (fun b hb=>hb.elim)
   clear hc HD Ho
   rcases hF with ⟨g',bg,bv,be,k2,rfl,k4,k5,k6,k7⟩|⟨c,k2,k3,rfl⟩
   ·have _:=k2
    refine ar hf (by decide) (mv rfl) fun a w e' hf=>?_
    replace e:=e.tr e'
    replace k7:=k7.ext e'
    clear e'
    refine ar hf (by decide) (exE rfl rfl) fun a w e' hf=>?_
    replace e:=e.tr e'
    replace k7:=k7.ext e'
    clear e'
    refine ar hf (by decide) (exE rfl rfl) fun a w e' hf=>?_
    replace e:=e.tr e'
    replace k7:=k7.ext e'
    refine ae hf rfl (by decide) fun a hf=>?_
    refine ae hf rfl (by decide) fun a hf=>?_
    refine aa ?_
    repeat refine seq ?_
    refine ac 2 hf (by decide +kernel) ?_
    refine st (mv rfl) ?_
    refine st (neq rfl rfl) ?_
    refine en fun a w e' hf=>?_
    replace e:=e.tr e'
    replace k7:=k7.ext e'
    refine aa ?_
    refine ifc hf rfl (fun h=>by cases h) (fun _=>?_)
    refine ak ?_
    simp only[Exit.then,Exit.inBlock,↓reduceIte]
    refine seq ?_
    refine ac 1 hf (by decide +kernel) ?_
    refine st (mv rfl) ?_
    refine en fun a w e' hf=>?_
    replace e:=e.tr e'
    replace k7:=k7.ext e'
    refine ae hf rfl (by decide) fun a hf=>?_
    refine aa ?_
    refine aj ?_
    refine al rfl hf rfl ?_
    rintro _ rfl
    exact⟨e,.inl ⟨g',bg,bv,be,k2,rfl,k4,k5,k6,k7⟩⟩
   ·have _:=k2
    refine ar hf (by decide) (mv rfl) fun a w e' hf=>?_
    replace e:=e.tr e'
    clear e'
    refine ar hf (by decide) (exE rfl rfl) fun a w e' hf=>?_
    replace e:=e.tr e'
    clear e'
    refine ar hf (by decide) (exE rfl rfl) fun a w e' hf=>?_
    replace e:=e.tr e'
    refine ae hf rfl (by decide) fun a hf=>?_
    refine ae hf rfl (by decide) fun a hf=>?_
    refine aa ?_
    repeat refine seq ?_
    refine ac 2 hf (by decide +kernel) ?_
    refine st (mv rfl) ?_
    refine st ((neq rfl rfl).eq (congrArg Value.bool (show (c != 0)=true from by simpa using k2))) ?_
    refine en fun a w e' hf=>?_
    replace e:=e.tr e'
    refine aa ?_
    refine ifc hf rfl (fun _=>?_) (fun h=>by cases h)
    refine seq ?_
    refine ah ?_
    refine ae hf rfl (by decide) fun a hf=>?_
    refine aa ?_
    refine aj ?_
    simp only[Exit.then,Exit.inBlock]
    refine al rfl hf rfl ?_
    rintro _ rfl
    exact⟨e,.inr ⟨k3,rfl⟩⟩
end Go.Mono
namespace Go.Mono
open Go Go.Proofs Go.RowKit

theorem xg {G:Nat→Prop}(F:Fm)(b:Int)(v:Value)(W:World)(h:(Dv (ptE frE) G (some F)).p v W)(hl:F.2.1.length=F.1.length) :
  Calls Tryz.prog 24 #[v,I b] W (Post (E (I (ofF F b).2.2.1)) W):=by
 refine enter (args:=[v,I b]) (As:=[Dv (ptE frE) G (some F),E (I b)]) Tryz.func24 rfl Tryz.ntmps24 (Nat.le_of_ble_eq_true rfl) ?_ (fun a hf=>?_) (Nat.le_of_ble_eq_true rfl)
 rotate_left
 dsimp only[params,Nat.reduceAdd] at hf
 rotate_right
 ·exact arg2 h rfl
 have e:=Ext.rfl' W
 refine seq ?_
 refine ah ?_
 refine ae hf rfl (by decide) fun a hf=>?_
 refine aa ?_
 refine seq ?_
 refine ac 4 hf (by decide +kernel) ?_
 refine st (mv rfl) ?_
 refine st (mv rfl) ?_
 refine st (ax gW rfl rfl (fun v u w he h h'=>by cases h';exact iE F _ _ w h hl)) ?_
 refine st (jz rfl bB rfl T3 (Fld.snd (Fld.snd (Fld.fst Fld.refl) rfl) rfl) (isR rfl)) ?_
 refine en fun a w e' hf=>?_
 replace e:=e.tr e'
 refine ae hf rfl (by decide) fun a hf=>?_
 refine aa ?_
 refine aj ?_
 refine al rfl hf rfl ?_
 rintro _ rfl
 exact⟨_,rfl,e,rfl⟩

theorem xh {G:Nat→Prop}(F:Fm)(b:Int)(v:Value)(W:World)(h:(Dv (ptE frE) G (some F)).p v W)(hl:F.2.1.length=F.1.length) :
  Calls Tryz.prog 25 #[v,I b] W (Post (E (I (ofF F b).2.2.2.1)) W):=by
 refine enter (args:=[v,I b]) (As:=[Dv (ptE frE) G (some F),E (I b)]) Tryz.func25 rfl Tryz.ntmps25 (Nat.le_of_ble_eq_true rfl) ?_ (fun a hf=>?_) (Nat.le_of_ble_eq_true rfl)
 rotate_left
 dsimp only[params,Nat.reduceAdd] at hf
 rotate_right
 ·exact arg2 h rfl
 have e:=Ext.rfl' W
 refine seq ?_
 refine ah ?_
 refine ae hf rfl (by decide) fun a hf=>?_
 refine aa ?_
 refine seq ?_
 refine ac 4 hf (by decide +kernel) ?_
 refine st (mv rfl) ?_
 refine st (mv rfl) ?_
 refine st (ax gW rfl rfl (fun v u w he h h'=>by cases h';exact iE F _ _ w h hl)) ?_
 refine st (jz rfl bB rfl T3 (Fld.snd (Fld.snd (Fld.snd (Fld.fst Fld.refl) rfl) rfl) rfl) (isR rfl)) ?_
 refine en fun a w e' hf=>?_
 replace e:=e.tr e'
 refine ae hf rfl (by decide) fun a hf=>?_
 refine aa ?_
 refine aj ?_
 refine al rfl hf rfl ?_
 rintro _ rfl
 exact⟨_,rfl,e,rfl⟩

theorem pK {G:Nat→Prop}(F:Fm)(b:Int)(v:Value)(W:World)(h:(Dv (ptE frE) G (some F)).p v W)(hl:F.2.1.length=F.1.length) :
  Calls Tryz.prog 55 #[v,I b] W (Post (E (I (ofF F b).2.2.2.2)) W):=by
 refine enter (args:=[v,I b]) (As:=[Dv (ptE frE) G (some F),E (I b)]) Tryz.func55 rfl Tryz.ntmps55 (Nat.le_of_ble_eq_true rfl) ?_ (fun a hf=>?_) (Nat.le_of_ble_eq_true rfl)
 rotate_left
 dsimp only[params,Nat.reduceAdd] at hf
 rotate_right
 ·exact arg2 h rfl
 have e:=Ext.rfl' W
 refine seq ?_
 refine ah ?_
 refine ae hf rfl (by decide) fun a hf=>?_
 refine aa ?_
 refine seq ?_
 refine ac 4 hf (by decide +kernel) ?_
 refine st (mv rfl) ?_
 refine st (mv rfl) ?_
 refine st (ax gW rfl rfl (fun v u w he h h'=>by cases h';exact iE F _ _ w h hl)) ?_
 refine st (jz rfl bB rfl T3 (Fld.snd (Fld.snd (Fld.snd (Fld.snd Fld.refl rfl) rfl) rfl) rfl) (isR rfl)) ?_
 refine en fun a w e' hf=>?_
 replace e:=e.tr e'
 refine ae hf rfl (by decide) fun a hf=>?_
 refine aa ?_
 refine aj ?_
 refine al rfl hf rfl ?_
 rintro _ rfl
 exact⟨_,rfl,e,rfl⟩

theorem xi {G:Nat→Prop}(F:Fm)(b:Int)(v:Value)(W:World)(h:(Dv (ptE frE) G (some F)).p v W)(hl:F.2.1.length=F.1.length)(hn:(ofF F b).2.1.length≤4096) :
  Calls Tryz.prog 21 #[v,I b] W (Post (Dv (slE ap) (fun b=>b<W.heap.size) (ofF F b).2.1) W):=by
 refine enter (args:=[v,I b]) (As:=[Dv (ptE frE) G (some F),E (I b)]) Tryz.func21 rfl Tryz.ntmps21 (Nat.le_of_ble_eq_true rfl) ?_ (fun a hf=>?_) (Nat.le_of_ble_eq_true rfl)
 rotate_left
 dsimp only[params,Nat.reduceAdd] at hf
 rotate_right
 ·exact arg2 h rfl
 have e:=Ext.rfl' W
 refine seq ?_
 refine ah ?_
 refine ae hf rfl (by decide) fun a hf=>?_
 refine aa ?_
 refine seq ?_
 refine ac 5 hf (by decide +kernel) ?_
 refine st (mv rfl) ?_
 refine st (mv rfl) ?_
 refine st (ax gW rfl rfl (fun v u w he h h'=>by cases h';exact iE F _ _ w h hl)) ?_
 refine st (mE rfl bB rfl T63 rfl (Fld.snd (Fld.fst Fld.refl) rfl) (isR rfl)) ?_
 refine st (aw lI rfl (fun v w he h=>Calls.mono (wx _ _ w h hn) (fun en w' ⟨u,h1,h2,h3⟩=>⟨u,h1,h2,Dv.weak (G':=fun b=>b<W.heap.size) h3 fun b _ hb=>Nat.lt_of_lt_of_le hb (Nat.le_trans e.size he.size)⟩))) ?_
 refine en fun a w e' hf=>?_
 replace e:=e.tr e'
 refine ae hf rfl (by decide) fun a hf=>?_
 refine aa ?_
 refine aj ?_
 refine al rfl hf rfl ?_
 intro v hv
 exact⟨_,rfl,e,hv⟩

theorem pL {G:Nat→Prop}(F:Fm)(v:Value)(W:World)(h:(Dv (ptE frE) G (some F)).p v W)(hl:F.1.length≤4096) :
  Calls Tryz.prog 57 #[v] W (Post (Dv aL (fun b=>b<W.heap.size) F.1) W):=by
 refine enter (args:=[v]) (As:=[Dv (ptE frE) G (some F)]) Tryz.func57 rfl Tryz.ntmps57 (Nat.le_of_ble_eq_true rfl) ?_ (fun a hf=>?_) (Nat.le_of_ble_eq_true rfl)
 rotate_left
 dsimp only[params,Nat.reduceAdd] at hf
 rotate_right
 ·exact arg1 h
 have e:=Ext.rfl' W
 refine seq ?_
 refine ah ?_
 refine ae hf rfl (by decide) fun a hf=>?_
 refine aa ?_
 repeat refine seq ?_
 refine ac 2 hf (by decide +kernel) ?_
 refine st (mv rfl) ?_
 refine st (dl U27 (isR rfl)) ?_
 refine en fun a w e' hf=>?_
 replace e:=e.tr e'
 refine aa ?_
 refine ifc hf rfl (fun h=>by cases h) (fun _=>?_)
 refine ak ?_
 simp only[Exit.then,Exit.inBlock,↓reduceIte]
 refine seq ?_
 refine ac 5 hf (by decide +kernel) ?_
 refine st (mv rfl) ?_
 refine st (ct (isR rfl)) ?_
 refine st (am U82 rfl T23 (by decide) (Fld.fst Fld.refl) (isR rfl)) ?_
 refine st (ldD T23 (isR rfl)) ?_
 refine st (aw lG rfl (fun v w he h=>Calls.mono (wy _ _ w h hl) (fun en w' ⟨u,h1,h2,h3⟩=>⟨u,h1,h2,Dv.weak (G':=fun b=>b<W.heap.size) h3 fun b _ hb=>Nat.lt_of_lt_of_le hb (Nat.le_trans e.size he.size)⟩))) ?_
 refine en fun a w e' hf=>?_
 replace e:=e.tr e'
 refine ae hf rfl (by decide) fun a hf=>?_
 refine aa ?_
 refine aj ?_
 refine al rfl hf rfl ?_
 intro v hv
 exact⟨_,rfl,e,hv⟩

theorem kU {P:Program}{α:Type}{e:Enc α}{x:α}{f:FuncId}{args:Array Value}{w:World}{G:Nat→Prop}(h:Calls P f args w (Post (Dv e (fun b=>b<w.heap.size) x) w))(hG:∀b,G b→b<w.heap.size):Calls P f args w (Post (Dv e G x) w):=
 Calls.mono h fun en w' ⟨u,h1,h2,h3⟩=>⟨u,h1,h2,Dv.weak h3 fun b _ hb=>hG b hb⟩

theorem xj {G:Nat→Prop}(F:Fm)(v:Value)(W:World)(h:(Dv (ptE frE) G (some F)).p v W)(hl:F.1.length≤4096) :
  Calls Tryz.prog 22 #[v] W (Post (E (I (F.1.length:Nat))) W):=by
 refine enter (args:=[v]) (As:=[Dv (ptE frE) G (some F)]) Tryz.func22 rfl Tryz.ntmps22 (Nat.le_of_ble_eq_true rfl) ?_ (fun a hf=>?_) (Nat.le_of_ble_eq_true rfl)
 rotate_left
 dsimp only[params,Nat.reduceAdd] at hf
 rotate_right
 ·exact arg1 h
 have e:=Ext.rfl' W
 refine seq ?_
 refine ah ?_
 refine ae hf rfl (by decide) fun a hf=>?_
 refine aa ?_
 refine seq ?_
 refine ac 3 hf (by decide +kernel) ?_
 refine st (mv rfl) ?_
 refine st (aw lO rfl (fun v w he h=>kU (G:=G0) (pL F _ w h hl) (fun b hb=>hb.elim))) ?_
 refine st (ay U23 (isR rfl)) ?_
 refine en fun a w e' hf=>?_
 replace e:=e.tr e'
 refine ae hf rfl (by decide) fun a hf=>?_
 refine aa ?_
 refine aj ?_
 refine al rfl hf rfl ?_
 rintro _ rfl
 exact⟨_,rfl,e,rfl⟩

theorem xk (b:Int×BS)(W:World):Calls Tryz.prog 59 #[bY b] W (Post (E (B (decide (b.1<0)))) W):=by
 refine enter (args:=[bY b]) (As:=[E (bY b)]) Tryz.func59 rfl Tryz.ntmps59 (Nat.le_of_ble_eq_true rfl) ?_ (fun a hf=>?_) (Nat.le_of_ble_eq_true rfl)
 rotate_left
 dsimp only[params,Nat.reduceAdd] at hf
 rotate_right
 ·exact arg1 rfl
 have e:=Ext.rfl' W
 refine seq ?_
 refine ah ?_
 refine aH hf rfl (by decide) fun a b1 w v1 hv1 e' hb1 hs1 B1 hf=>?_
 have hle1:=Nat.le_trans e.size (Nat.le_of_eq hb1.symm)
 replace e:=e.tr e'
 refine ae hf rfl (by decide) fun a hf=>?_
 refine aa ?_
 cases hv1
 refine seq ?_
 refine ac 3 hf (by decide +kernel) ?_
 refine st (ai U59 rfl T3 (by decide) rfl) ?_
 refine st (ld1 T3 rfl B1 (cK _)) ?_
 refine st (lss rfl rfl) ?_
 refine en fun a w e' hf=>?_
 replace e:=e.tr e'
 replace B1:=B1.ext e'
 refine ae hf rfl (by decide) fun a hf=>?_
 refine aa ?_
 refine aj ?_
 refine al rfl hf rfl ?_
 rintro _ rfl
 exact⟨_,rfl,e,rfl⟩

theorem xl {G:Nat→Prop}(F:Fm)(v:Value)(W:World)(h:(Dv (ptE frE) G (some F)).p v W)(hl:F.1.length≤4096) :
  Calls Tryz.prog 23 #[v] W (Post (E (I (dj (fun b=>decide (b.1<0)) F.1))) W):=by
 refine enter (args:=[v]) (As:=[Dv (ptE frE) G (some F)]) Tryz.func23 rfl Tryz.ntmps23 (Nat.le_of_ble_eq_true rfl) ?_ (fun a hf=>?_) (Nat.le_of_ble_eq_true rfl)
 rotate_left
 dsimp only[params,Nat.reduceAdd] at hf
 rotate_right
 ·exact arg1 h
 have e:=Ext.rfl' W
 refine seq ?_
 refine ah ?_
 refine ae hf rfl (by decide) fun a hf=>?_
 refine aa ?_
 refine seq ?_
 refine ac 3 hf (by decide +kernel) ?_
 refine st (mv rfl) ?_
 refine st (aw lO rfl (fun v w he h=>kU (G:=G0) (pL F _ w h hl) (fun b hb=>hb.elim))) ?_
 refine st (ax lP rfl rfl (fun v u w he h h'=>by cases h';exact mm _ _ _ _ (fun b=>decide (b.1<0)) w rf h (fun w' b _=>xk b w') hl)) ?_
 refine en fun a w e' hf=>?_
 replace e:=e.tr e'
 refine ae hf rfl (by decide) fun a hf=>?_
 refine aa ?_
 refine aj ?_
 refine al rfl hf rfl ?_
 rintro _ rfl
 exact⟨_,rfl,e,rfl⟩


theorem kV {G:Nat→Prop}(F:Fm)(id:Int)(v:Value)(W:World)(h:(Dv (ptE frE) G (some F)).p v W)(hw:(Lit.int .i64 id).wf=true) :
  Calls Tryz.prog 20 #[v,I id] W (Post (E (.tuple #[I ((F.2.2 id).getD 0),B (F.2.2 id).isSome])) W):=by
 refine enter (args:=[v,I id]) (As:=[Dv (ptE frE) G (some F),E (I id)]) Tryz.func20 rfl Tryz.ntmps20 (Nat.le_of_ble_eq_true rfl) ?_ (fun a hf=>?_) (Nat.le_of_ble_eq_true rfl)
 rotate_left
 dsimp only[params,Nat.reduceAdd] at hf
 rotate_right
 ·exact arg2 h rfl
 have e:=Ext.rfl' W
 refine seq ?_
 refine ah ?_
 refine ae hf rfl (by decide) fun a hf=>?_
 refine ae hf rfl (by decide) fun a hf=>?_
 refine aa ?_
 repeat refine seq ?_
 refine ac 2 hf (by decide +kernel) ?_
 refine st (mv rfl) ?_
 refine st (dl U27 (isR rfl)) ?_
 refine en fun a w e' hf=>?_
 replace e:=e.tr e'
 refine aa ?_
 refine ifc hf rfl (fun h=>by cases h) (fun _=>?_)
 refine ak ?_
 simp only[Exit.then,Exit.inBlock,↓reduceIte]
 refine seq ?_
 refine ac 9 hf (by decide +kernel) ?_
 refine st (mv rfl) ?_
 refine st (ct (isR rfl)) ?_
 refine st (am U82 rfl T80 (by decide) (Fld.snd (Fld.snd Fld.refl rfl) rfl) (isR rfl)) ?_
 refine st (ldD T80 (isR rfl)) ?_
 refine st (mv rfl) ?_
 refine st (tg U3 U3 U80 (eG I3) (isR rfl) rfl (by assumption)) ?_
 refine st (mv rfl) ?_
 refine st (aZ rfl rfl) ?_
 refine st (aZ rfl rfl) ?_
 refine en fun a w e' hf=>?_
 replace e:=e.tr e'
 refine ae hf rfl (by decide) fun a hf=>?_
 refine ae hf rfl (by decide) fun a hf=>?_
 refine aa ?_
 refine seq ?_
 refine ac 2 hf (by decide +kernel) ?_
 refine st (mv rfl) ?_
 refine st (mv rfl) ?_
 refine en fun a w e' hf=>?_
 replace e:=e.tr e'
 refine ae hf rfl (by decide) fun a hf=>?_
 refine ae hf rfl (by decide) fun a hf=>?_
 refine aa ?_
 refine aj (cb rfl hf rfl rfl ?_)
 rintro _ _ rfl rfl
 exact⟨_,rfl,e,rfl⟩


theorem pM (b:Int×BS)(p q:Nat)(x y:Int)(W:World)(B1:Blk W p #[I x] 3)(B2:Blk W q #[I y] 3) :
  Calls Tryz.prog 53 #[bY b,.pointer (some ⟨p,0,none⟩),.pointer (some ⟨q,0,none⟩)] W (Post (E (B (has b.2 x&&has b.2 y))) W):=by
 refine enter (args:=[bY b,.pointer (some ⟨p,0,none⟩),.pointer (some ⟨q,0,none⟩)]) (As:=[E (bY b),E (.pointer (some ⟨p,0,none⟩)),E (.pointer (some ⟨q,0,none⟩))]) Tryz.func53 rfl Tryz.ntmps53 (Nat.le_of_ble_eq_true rfl) ?_ (fun a hf=>?_) (Nat.le_of_ble_eq_true rfl)
 rotate_left
 dsimp only[params,Nat.reduceAdd] at hf
 rotate_right
 ·exact eo rfl rfl rfl
 have e:=Ext.rfl' W
 refine seq ?_
 refine ah ?_
 refine aH hf rfl (by decide) fun a b3 w v3 hv3 e' hb3 hs3 B3 hf=>?_
 have hle3:=Nat.le_trans e.size (Nat.le_of_eq hb3.symm)
 have lt3_B1:=B1.lt
 have lt3_B2:=B2.lt
 replace e:=e.tr e'
 replace B1:=B1.ext e'
 replace B2:=B2.ext e'
 refine ae hf rfl (by decide) fun a hf=>?_
 refine aa ?_
 cases hv3
 cases h1:has b.2 x
 ·refine seq ?_
  refine ac 10 hf (by decide +kernel) ?_
  refine st (ai U59 rfl T56 (by decide) rfl) ?_
  refine st ((ldP T56 rfl B3 (dI _)).eq (dJ _)) ?_
  refine st (ld1 T3 rfl B1 rfl) ?_
  refine st ((ax fB rfl rfl (fun v u w he h h'=>by cases h;cases h';exact fG _ _ w)).eq (congrArg Value.bool (h1))) ?_
  refine st (mv rfl) ?_
  refine sn rfl rfl rfl ?_
  refine sn rfl rfl rfl ?_
  refine sn rfl rfl rfl ?_
  refine sn rfl rfl rfl ?_
  refine st (pkF rfl rfl) ?_
  refine en fun a w e' hf=>?_
  replace e:=e.tr e'
  replace B1:=B1.ext e'
  replace B2:=B2.ext e'
  replace B3:=B3.ext e'
  refine ae hf rfl (by decide) fun a hf=>?_
  refine aa ?_
  refine aj ?_
  refine al rfl hf rfl ?_
  rintro _ rfl
  exact⟨_,rfl,e,rfl⟩
 ·refine seq ?_
  refine ac 10 hf (by decide +kernel) ?_
  refine st (ai U59 rfl T56 (by decide) rfl) ?_
  refine st ((ldP T56 rfl B3 (dI _)).eq (dJ _)) ?_
  refine st (ld1 T3 rfl B1 rfl) ?_
  refine st ((ax fB rfl rfl (fun v u w he h h'=>by cases h;cases h';exact fG _ _ w)).eq (congrArg Value.bool (h1))) ?_
  refine st (mv rfl) ?_
  refine sy rfl rfl (ai U59 rfl T56 (by decide) rfl) ?_
  refine sy rfl rfl ((ldP T56 rfl B3 (dI _)).eq (dJ _)) ?_
  refine sy rfl rfl (ld1 T3 rfl B2 rfl) ?_
  refine sy rfl rfl (ax fB rfl rfl (fun v u w he h h'=>by cases h;cases h';exact fG _ _ w)) ?_
  refine st (pkT rfl rfl) ?_
  refine en fun a w e' hf=>?_
  replace e:=e.tr e'
  replace B1:=B1.ext e'
  replace B2:=B2.ext e'
  replace B3:=B3.ext e'
  refine ae hf rfl (by decide) fun a hf=>?_
  refine aa ?_
  refine aj ?_
  refine al rfl hf rfl ?_
  rintro _ rfl
  exact⟨_,rfl,e,rfl⟩
def eQ (t:List (Int×BS))(x y:Int):Bool:=decide (0≤dj (fun b=>has b.2 x&&has b.2 y) t)
def ehF (F:Fm)(x y:Int):Int×Bool:=
 if ((F.2.2 x).isSome&&((F.2.2 y).isSome&&(!(x==y)&&eQ F.1 x y)))=true then
  (if (ofF F ((F.2.2 y).getD 0)).2.2.2.2<(ofF F ((F.2.2 x).getD 0)).2.2.2.2 then (F.2.2 x).getD 0 else (F.2.2 y).getD 0,true)
 else (0,false)

theorem pN {G:Nat→Prop}(F:Fm)(x y:Int)(v:Value)(W:World)(h:(Dv (ptE frE) G (some F)).p v W)(hw:(Lit.int .i64 x).wf=true)(hw':(Lit.int .i64 y).wf=true)(hl:F.1.length≤4096)(hn:F.2.1.length=F.1.length) :
  Calls Tryz.prog 19 #[v,I x,I y] W (Post (E (.tuple #[I (ehF F x y).1,B (ehF F x y).2])) W):=by
 refine enter (args:=[v,I x,I y]) (As:=[Dv (ptE frE) (GB W G) (some F),E (I x),E (I y)]) Tryz.func19 rfl Tryz.ntmps19 (Nat.le_of_ble_eq_true rfl) ?_ (fun a hf=>?_) (Nat.le_of_ble_eq_true rfl)
 rotate_left
 dsimp only[params,Nat.reduceAdd] at hf
 rotate_right
 ·exact eo (Dv.toB h) rfl rfl
 have e:=Ext.rfl' W
 refine seq ?_
 refine ah ?_
 refine aH hf rfl (by decide) fun a b4 w v4 hv4 e' hb4 hs4 B4 hf=>?_
 have hle4:=Nat.le_trans e.size (Nat.le_of_eq hb4.symm)
 replace e:=e.tr e'
 clear e'
 refine aH hf rfl (by decide) fun a b5 w v5 hv5 e' hb5 hs5 B5 hf=>?_
 have hle5:=Nat.le_trans e.size (Nat.le_of_eq hb5.symm)
 have lt5_B4:=B4.lt
 replace e:=e.tr e'
 replace B4:=B4.ext e'
 refine ae hf rfl (by decide) fun a hf=>?_
 refine ae hf rfl (by decide) fun a hf=>?_
 refine aa ?_
 cases hv4
 cases hv5
 have hne:b4≠b5:=by omega
 refine seq ?_
 refine ac 6 hf (by decide +kernel) ?_
 refine st (mv rfl) ?_
 refine st (ld1 T3 rfl B4 rfl) ?_
 refine st (ax iV rfl rfl (fun v u w he h h'=>by cases h';exact kV F _ _ w h hw)) ?_
 refine st (mv rfl) ?_
 refine st (exE rfl rfl) ?_
 refine st (exE rfl rfl) ?_
 refine en fun a w e' hf=>?_
 replace e:=e.tr e'
 replace B4:=B4.ext e'
 replace B5:=B5.ext e'
 refine ae hf rfl (by decide) fun a hf=>?_
 refine ae hf rfl (by decide) fun a hf=>?_
 refine aa ?_
 replace hf:=hf.kp [0,4,5,6,7,8,9]
 refine seq ?_
 refine ac 6 hf (by decide +kernel) ?_
 refine st (mv rfl) ?_
 refine st (ld1 T3 rfl B5 rfl) ?_
 refine st (ax iV rfl rfl (fun v u w he h h'=>by cases h';exact kV F _ _ w h hw')) ?_
 refine st (mv rfl) ?_
 refine st (exE rfl rfl) ?_
 refine st (exE rfl rfl) ?_
 refine en fun a w e' hf=>?_
 replace e:=e.tr e'
 replace B4:=B4.ext e'
 replace B5:=B5.ext e'
 refine ae hf rfl (by decide) fun a hf=>?_
 refine ae hf rfl (by decide) fun a hf=>?_
 refine aa ?_
 replace hf:=hf.kp [0,4,5,6,7,8,9,10,11]
 have no:((F.2.2 x).isSome&&((F.2.2 y).isSome&&(!(x==y)&&eQ F.1 x y)))=false→ehF F x y=(0,false):=fun h=>by rw[ehF,if_neg (by rw[h];decide)]
 have yes:((F.2.2 x).isSome&&((F.2.2 y).isSome&&(!(x==y)&&eQ F.1 x y)))=true→ehF F x y=(if (ofF F ((F.2.2 y).getD 0)).2.2.2.2<(ofF F ((F.2.2 x).getD 0)).2.2.2.2 then (F.2.2 x).getD 0 else (F.2.2 y).getD 0,true):=fun h=>by rw[ehF,if_pos h]
 cases h1:(F.2.2 x).isSome
 ·rw[h1] at hf
  repeat refine seq ?_
  refine ac 20 hf (by decide +kernel) ?_
  refine st (mv rfl) ?_
  refine st (aS rfl) ?_
  refine st (mv rfl) ?_
  refine sn rfl rfl rfl ?_
  refine sn rfl rfl rfl ?_
  refine st (pkT rfl rfl) ?_
  refine st (mv rfl) ?_
  refine sn rfl rfl rfl ?_
  refine sn rfl rfl rfl ?_
  refine sn rfl rfl rfl ?_
  refine st (pkT rfl rfl) ?_
  refine st (mv rfl) ?_
  refine sn rfl rfl rfl ?_
  refine sn rfl rfl rfl ?_
  refine sn rfl rfl rfl ?_
  refine sn rfl rfl rfl ?_
  refine sn rfl rfl rfl ?_
  refine sn rfl rfl rfl ?_
  refine sn rfl rfl rfl ?_
  refine st (pkT rfl rfl) ?_
  refine en fun a w e' hf=>?_
  replace e:=e.tr e'
  replace B4:=B4.ext e'
  replace B5:=B5.ext e'
  refine aa ?_
  refine ifc hf rfl (fun _=>?_) (fun h=>by cases h)
  refine seq ?_
  refine ah ?_
  refine ae hf rfl (by decide) fun a hf=>?_
  refine ae hf rfl (by decide) fun a hf=>?_
  refine aa ?_
  refine aj (cb rfl hf rfl rfl ?_)
  rintro _ _ rfl rfl
  exact⟨_,rfl,e,by rw[no (by rw[h1];rfl)];rfl⟩
 cases h2:(F.2.2 y).isSome
 ·rw[h1,h2] at hf
  repeat refine seq ?_
  refine ac 20 hf (by decide +kernel) ?_
  refine st (mv rfl) ?_
  refine st (aS rfl) ?_
  refine st (mv rfl) ?_
  refine sy rfl rfl (mv rfl) ?_
  refine sy rfl rfl (aS rfl) ?_
  refine st (pkF rfl rfl) ?_
  refine st (mv rfl) ?_
  refine sn rfl rfl rfl ?_
  refine sn rfl rfl rfl ?_
  refine sn rfl rfl rfl ?_
  refine st (pkT rfl rfl) ?_
  refine st (mv rfl) ?_
  refine sn rfl rfl rfl ?_
  refine sn rfl rfl rfl ?_
  refine sn rfl rfl rfl ?_
  refine sn rfl rfl rfl ?_
  refine sn rfl rfl rfl ?_
  refine sn rfl rfl rfl ?_
  refine sn rfl rfl rfl ?_
  refine st (pkT rfl rfl) ?_
  refine en fun a w e' hf=>?_
  replace e:=e.tr e'
  replace B4:=B4.ext e'
  replace B5:=B5.ext e'
  refine aa ?_
  refine ifc hf rfl (fun _=>?_) (fun h=>by cases h)
  refine seq ?_
  refine ah ?_
  refine ae hf rfl (by decide) fun a hf=>?_
  refine ae hf rfl (by decide) fun a hf=>?_
  refine aa ?_
  refine aj (cb rfl hf rfl rfl ?_)
  rintro _ _ rfl rfl
  exact⟨_,rfl,e,by rw[no (by rw[h1,h2];rfl)];rfl⟩
 rw[h1,h2] at hf
 cases h3:(x==y)
 rotate_left
 ·repeat refine seq ?_
  refine ac 20 hf (by decide +kernel) ?_
  refine st (mv rfl) ?_
  refine st (aS rfl) ?_
  refine st (mv rfl) ?_
  refine sy rfl rfl (mv rfl) ?_
  refine sy rfl rfl (aS rfl) ?_
  refine st (pkF rfl rfl) ?_
  refine st (mv rfl) ?_
  refine sy rfl rfl (ld1 T3 rfl B4 rfl) ?_
  refine sy rfl rfl (ld1 T3 rfl B5 rfl) ?_
  refine sy rfl rfl ((eql rfl rfl).eq (congrArg Value.bool (h3))) ?_
  refine st (pkF rfl rfl) ?_
  refine st (mv rfl) ?_
  refine sn rfl rfl rfl ?_
  refine sn rfl rfl rfl ?_
  refine sn rfl rfl rfl ?_
  refine sn rfl rfl rfl ?_
  refine sn rfl rfl rfl ?_
  refine sn rfl rfl rfl ?_
  refine sn rfl rfl rfl ?_
  refine st (pkT rfl rfl) ?_
  refine en fun a w e' hf=>?_
  replace e:=e.tr e'
  replace B4:=B4.ext e'
  replace B5:=B5.ext e'
  refine aa ?_
  refine ifc hf rfl (fun _=>?_) (fun h=>by cases h)
  refine seq ?_
  refine ah ?_
  refine ae hf rfl (by decide) fun a hf=>?_
  refine ae hf rfl (by decide) fun a hf=>?_
  refine aa ?_
  refine aj (cb rfl hf rfl rfl ?_)
  rintro _ _ rfl rfl
  exact⟨_,rfl,e,by rw[no (by rw[h1,h2,h3];rfl)];rfl⟩
 cases h4:eQ F.1 x y
 ·repeat refine seq ?_
  refine ac 20 hf (by decide +kernel) ?_
  refine st (mv rfl) ?_
  refine st (aS rfl) ?_
  refine st (mv rfl) ?_
  refine sy rfl rfl (mv rfl) ?_
  refine sy rfl rfl (aS rfl) ?_
  refine st (pkF rfl rfl) ?_
  refine st (mv rfl) ?_
  refine sy rfl rfl (ld1 T3 rfl B4 rfl) ?_
  refine sy rfl rfl (ld1 T3 rfl B5 rfl) ?_
  refine sy rfl rfl ((eql rfl rfl).eq (congrArg Value.bool (h3))) ?_
  refine st (pkF rfl rfl) ?_
  refine st (mv rfl) ?_
  refine sy rfl rfl (mv rfl) ?_
  refine sy rfl rfl (ct (isR rfl)) ?_
  refine sy rfl rfl (am U82 rfl T23 (by decide) (Fld.fst Fld.refl) (isR rfl)) ?_
  refine sy rfl rfl (ldD T23 (isR rfl)) ?_
  refine sy rfl rfl (eZ rfl rfl) ?_
  refine sy rfl rfl ((ax fA rfl rfl (fun v u w he h h'=>by cases h';exact fK F.1 _ _ _ (fun b=>has b.2 x&&has b.2 y) w lK h (fun w' b he'=>pM b _ _ x y w' (B4.ext (Ext.tr he he')) (B5.ext (Ext.tr he he'))) hl)).eq (congrArg Value.bool (h4))) ?_
  refine sy rfl rfl (aS rfl) ?_
  refine st (pkF rfl rfl) ?_
  refine en fun a w e' hf=>?_
  replace e:=e.tr e'
  replace B4:=B4.ext e'
  replace B5:=B5.ext e'
  refine aa ?_
  refine ifc hf rfl (fun _=>?_) (fun h=>by cases h)
  refine seq ?_
  refine ah ?_
  refine ae hf rfl (by decide) fun a hf=>?_
  refine ae hf rfl (by decide) fun a hf=>?_
  refine aa ?_
  refine aj (cb rfl hf rfl rfl ?_)
  rintro _ _ rfl rfl
  exact⟨_,rfl,e,by rw[no (by rw[h1,h2,h3,h4];rfl)];rfl⟩
 ·repeat refine seq ?_
  refine ac 20 hf (by decide +kernel) ?_
  refine st (mv rfl) ?_
  refine st (aS rfl) ?_
  refine st (mv rfl) ?_
  refine sy rfl rfl (mv rfl) ?_
  refine sy rfl rfl (aS rfl) ?_
  refine st (pkF rfl rfl) ?_
  refine st (mv rfl) ?_
  refine sy rfl rfl (ld1 T3 rfl B4 rfl) ?_
  refine sy rfl rfl (ld1 T3 rfl B5 rfl) ?_
  refine sy rfl rfl ((eql rfl rfl).eq (congrArg Value.bool (h3))) ?_
  refine st (pkF rfl rfl) ?_
  refine st (mv rfl) ?_
  refine sy rfl rfl (mv rfl) ?_
  refine sy rfl rfl (ct (isR rfl)) ?_
  refine sy rfl rfl (am U82 rfl T23 (by decide) (Fld.fst Fld.refl) (isR rfl)) ?_
  refine sy rfl rfl (ldD T23 (isR rfl)) ?_
  refine sy rfl rfl (eZ rfl rfl) ?_
  refine sy rfl rfl ((ax fA rfl rfl (fun v u w he h h'=>by cases h';exact fK F.1 _ _ _ (fun b=>has b.2 x&&has b.2 y) w lK h (fun w' b he'=>pM b _ _ x y w' (B4.ext (Ext.tr he he')) (B5.ext (Ext.tr he he'))) hl)).eq (congrArg Value.bool (h4))) ?_
  refine sy rfl rfl (aS rfl) ?_
  refine st (pkF rfl rfl) ?_
  refine en fun a w e' hf=>?_
  replace e:=e.tr e'
  replace B4:=B4.ext e'
  replace B5:=B5.ext e'
  refine aa ?_
  have hy:=yes (by rw[h1,h2,h3,h4];rfl)
  refine ifc hf rfl (fun h=>by cases h) (fun _=>?_)
  refine ak ?_
  simp only[Exit.then,Exit.inBlock,↓reduceIte]
  replace hf:=hf.kp [0,6,7,8,10]
  repeat refine seq ?_
  refine ac 7 hf (by decide +kernel) ?_
  refine st (mv rfl) ?_
  refine st (mv rfl) ?_
  refine st (ax lL rfl rfl (fun v u w he h h'=>by cases h';exact pK F _ _ w h hn)) ?_
  refine st (mv rfl) ?_
  refine st (mv rfl) ?_
  refine st (ax lL rfl rfl (fun v u w he h h'=>by cases h';exact pK F _ _ w h hn)) ?_
  refine st (gtr rfl rfl) ?_
  refine en fun a w e' hf=>?_
  replace e:=e.tr e'
  replace B4:=B4.ext e'
  replace B5:=B5.ext e'
  refine aa ?_
  refine ifc hf rfl (fun hb=>?_) (fun hb=>?_)
  ·rw[if_pos (of_decide_eq_true hb)] at hy
   refine seq ?_
   refine ac 1 hf (by decide +kernel) ?_
   refine st (mv rfl) ?_
   refine en fun a w e' hf=>?_
   replace e:=e.tr e'
   replace B4:=B4.ext e'
   replace B5:=B5.ext e'
   refine ae hf rfl (by decide) fun a hf=>?_
   refine ae hf rfl (by decide) fun a hf=>?_
   refine aa ?_
   refine aj (cb rfl hf rfl rfl ?_)
   rintro _ _ rfl rfl
   exact⟨_,rfl,e,by rw[hy];rfl⟩
  ·rw[if_neg (of_decide_eq_false hb)] at hy
   refine ak ?_
   simp only[Exit.then,Exit.inBlock,↓reduceIte]
   refine seq ?_
   refine ac 1 hf (by decide +kernel) ?_
   refine st (mv rfl) ?_
   refine en fun a w e' hf=>?_
   replace e:=e.tr e'
   replace B4:=B4.ext e'
   replace B5:=B5.ext e'
   refine ae hf rfl (by decide) fun a hf=>?_
   refine ae hf rfl (by decide) fun a hf=>?_
   refine aa ?_
   refine aj (cb rfl hf rfl rfl ?_)
   rintro _ _ rfl rfl
   exact⟨_,rfl,e,by rw[hy];rfl⟩

theorem aV.hi {xs:List RB}(V:aV xs):∀i,i<xs.length→up xs i<xs.length:=fun i hi=>(V.range i hi).2
def bU (xs:List RB)(b:Nat)(k:Nat):Int:=((kids xs (b:Nat)).take k).foldl (fun n k=>n+bu xs k) 1
theorem pO {xs:List RB}(V:aV xs){b:Nat}(hb:b<xs.length)(k:Nat):1≤bU xs b k∧bU xs b k≤xs.length:=by
 have hs:∀k∈kidN xs b,bu xs (k:Nat)=(cnt xs k:Nat):=fun k hk=>uf V k (eL.1 hk).1
 have e:bU xs b k=1+((((kidN xs b).take k).map (cnt xs)).sum:Nat):=by
  rw[bU,im,← List.map_take,jH (g:=cnt xs) fun j hj=>hs j (List.mem_of_mem_take hj)]
 have h2:(((kidN xs b).take k).map (cnt xs)).sum≤((kidN xs b).map (cnt xs)).sum:=by
  conv=>rhs;rw[← List.take_append_drop k (kidN xs b),List.map_append,List.sum_append]
  omega
 have h3:cnt xs b=1+((kidN xs b).map (cnt xs)).sum:=io V hb
 have h4:=nF xs b
 omega
theorem xo {xs:List RB}{b k:Nat}(h:k<(kids xs (b:Nat)).length):bU xs b (k+1)=bU xs b k+bu xs (gi (kids xs (b:Nat)) k):=by
 rw[bU,bU,fE h,List.foldl_append];rfl
theorem pP {xs:List RB}{b:Int}{k:Nat}(h:k<(kids xs b).length):∃i:Nat,i<xs.length∧up xs i=b∧gi (kids xs b) k=(i:Int):=by
 have:=List.mem_of_getElem? (em h)
 obtain⟨i,h1,h2,h3⟩:=ny.1 this
 exact⟨i,h1,h2,h3⟩
theorem pQ (xs:List RB)(b:Int):(kids xs b).length≤xs.length:=ek _ _

def fT (xs:List RB)(best k:Int):Int:=if best<0∨bu xs best<bu xs k then k else best
def dU (xs:List RB)(b:Int):Int:=(kids xs b).foldl (fT xs) (-1)
def bV (xs:List RB)(b:Int)(k:Nat):Int:=((kids xs b).take k).foldl (fT xs) (-1)
theorem pR {xs:List RB}{b:Int}{k:Nat}(h:k<(kids xs b).length):bV xs b (k+1)=fT xs (bV xs b k) (gi (kids xs b) k):=by
 rw[bV,bV,fE h,List.foldl_append];rfl
theorem pS {xs:List RB}{b:Int}:∀k,k≤(kids xs b).length→bV xs b k = -1∨∃i:Nat,i<xs.length∧up xs i=b∧bV xs b k=(i:Int)
 | 0,_=>.inl rfl
 | k+1,h=>by
  rw[pR (by omega),fT]
  obtain⟨i,h1,h2,h3⟩:=pP (xs:=xs) (b:=b) (k:=k) (by omega)
  split
  ·exact .inr ⟨i,h1,h2,h3⟩
  ·exact pS k (by omega)

def gO (xs:List RB)(b:Int):List Int:=(kids xs b).filter fun k=>k != dU xs b
end Go.Mono
namespace Go.Mono
open Go Go.Proofs Go.RowKit

open Classical in
noncomputable def bp (xs:List RB):Int:=if bi xs≠0 then bi xs else if ∀i,i<xs.length→(hs xs i).length≤4 then 0 else 14
theorem xp {G:Nat→Prop}(xs:List RB)(v:Value)(W:World)(h:(Dv rtE G xs).p v W)(hl:xs.length≤1024)(hh:∀i,i<xs.length→(hs xs i).length≤4096) :
  Calls Tryz.prog 16 #[v] W (Post (E (I (bp xs))) W):=by
 refine enter (args:=[v]) (As:=[Dv rtE G xs]) Tryz.func16 rfl Tryz.ntmps16 (Nat.le_of_ble_eq_true rfl) ?_ (fun a hf=>?_) (Nat.le_of_ble_eq_true rfl)
 rotate_left
 dsimp only[params,Nat.reduceAdd] at hf
 rotate_right
 ·exact arg1 h
 have e:=Ext.rfl' W
 refine seq ?_
 refine ah ?_
 refine ae hf rfl (by decide) fun a hf=>?_
 refine aa ?_
 repeat refine seq ?_
 refine ac 2 hf (by decide +kernel) ?_
 refine st (mv rfl) ?_
 refine st (aw lB rfl (fun v w he h=>nl _ _ _ h (by omega) hh)) ?_
 refine en fun a w e' hf=>?_
 replace e:=e.tr e'
 refine ae hf rfl (by decide) fun a hf=>?_
 refine aa ?_
 refine seq ?_
 refine ac 2 hf (by decide +kernel) ?_
 refine st (mv rfl) ?_
 refine st (neq rfl rfl) ?_
 refine en fun a w e' hf=>?_
 replace e:=e.tr e'
 refine aa ?_
 refine ifc hf rfl (fun hb=>?_) (fun hb=>?_)
 ·have hb':bi xs≠0:=by simpa using hb
  refine seq ?_
  refine ac 1 hf (by decide +kernel) ?_
  refine st (mv rfl) ?_
  refine en fun a w e' hf=>?_
  replace e:=e.tr e'
  refine ae hf rfl (by decide) fun a hf=>?_
  refine aa ?_
  refine aj ?_
  simp only[Exit.then,Exit.inBlock]
  refine al rfl hf rfl ?_
  rintro _ rfl
  exact⟨_,rfl,e,congrArg I (by rw[bp,if_pos hb'])⟩
 ·have hb':¬bi xs≠0:=by simpa using hb
  refine ak ?_
  simp only[Exit.then,Exit.inBlock,↓reduceIte]
  repeat refine seq ?_
  refine ac 3 hf (by decide +kernel) ?_
  refine st (mv rfl) ?_
  refine st (ay U29 (isR rfl)) ?_
  refine st ((gtr rfl rfl).eq (congrArg Value.bool (show decide ((1024:Int)<(xs.length:Nat))=false from decide_eq_false (by omega)))) ?_
  refine en fun a w e' hf=>?_
  replace e:=e.tr e'
  refine aa ?_
  refine ifc hf rfl (fun h=>by cases h) (fun _=>?_)
  refine ak ?_
  simp only[Exit.then,Exit.inBlock,↓reduceIte]
  repeat refine seq ?_
  refine ah ?_
  refine ae hf rfl (by decide) fun a hf=>?_
  refine aa ?_
  replace hf:=hf.kp [0,4]
  refine blk (aG (fun r0 a w=>∃(k:Nat) ,r0=xs.length - k∧k≤xs.length∧Fr 26 a w [(0,Dv rtE G xs),(4,E (I k))]∧Ext W w∧∀i,i<k→(hs xs i).length≤4) xs.length ⟨0,rfl,by omega,hf,e,(fun i hi=>by omega)⟩ ?_)
  clear hf e;try clear Ho
  rintro r0 a w ⟨k,rfl,hk,hf,e,Ho⟩
  repeat refine seq ?_
  refine ac 4 hf (by decide +kernel) ?_
  refine st (mv rfl) ?_
  refine st (mv rfl) ?_
  refine st (ay U29 (isR rfl)) ?_
  refine st (lss rfl rfl) ?_
  refine en fun a w e' hf=>?_
  replace e:=e.tr e'
  refine aa ?_
  refine ifc hf rfl (fun hc=>ak ?_) (fun hc=>aF ?_)
  rotate_left
  rotate_left
  ·have hlt:k<xs.length:=by have:=of_decide_eq_true hc;(try dsimp only at this);omega
   clear hc
   replace hf:=hf.kp [0,4]
   refine seq ?_
   refine blk ?_
   refine seq ?_
   refine ac 7 hf (by decide +kernel) ?_
   refine st (mv rfl) ?_
   refine st (mv rfl) ?_
   refine st (az U29 S87 (isR rfl) rfl (by omega) (ep hlt)) ?_
   refine st (am U87 rfl T85 (by decide) (Fld.snd Fld.refl rfl) (isR rfl)) ?_
   refine st (ldD T85 (isR rfl)) ?_
   refine st (ay U85 (isR rfl)) ?_
   refine st (gtr rfl rfl) ?_
   refine en fun a w e' hf=>?_
   replace e:=e.tr e'
   refine aa ?_
   refine ifc hf rfl (fun hb=>?_) (fun hb=>?_)
   ·have hb2:=of_decide_eq_true hb
    refine seq ?_
    refine ah ?_
    refine ae hf rfl (by decide) fun a hf=>?_
    refine aa ?_
    refine aj ?_
    simp only[Exit.then,Exit.inBlock]
    refine al rfl hf rfl ?_
    rintro _ rfl
    exact⟨_,rfl,e,congrArg I (by rw[bp,if_neg hb',if_neg (fun h=>by have:=h k hlt;dsimp only at hb2;omega)])⟩
   ·have hb2:=of_decide_eq_false hb
    refine ak ?_
    simp only[Exit.then,Exit.inBlock,↓reduceIte]
    refine ac 2 hf (by decide +kernel) ?_
    refine st (mv rfl) ?_
    refine st ((add rfl rfl (by omega)).eq (congrArg (Value.int .i64) (show (k:Int)+1=((k+1:Nat):Int) from rfl))) ?_
    refine en fun a w e' hf=>?_
    replace e:=e.tr e'
    refine ae hf rfl (by decide) fun a hf=>?_
    refine aa ?_
    replace hf:=hf.kp [0,4]
    refine⟨_,?_,k+1,rfl,by omega,hf,e,?_⟩
    ·omega
    intro i hi
    by_cases hk:i=k
    ·subst hk;dsimp only at hb2;omega
    ·exact Ho i (by omega)
  ·obtain rfl:k=xs.length:=by have:=of_decide_eq_false hc;(try dsimp only at this);omega
   clear hc
   simp only[Exit.then,Exit.inBlock,↓reduceIte]
   refine seq ?_
   refine ah ?_
   refine ae hf rfl (by decide) fun a hf=>?_
   refine aa ?_
   refine aj ?_
   refine al rfl hf rfl ?_
   rintro _ rfl
   exact⟨_,rfl,e,congrArg I (by rw[bp,if_neg hb',if_pos Ho])⟩

def fU (xs:List RB)(id:Int):Int:=di (bc xs id) xs.length
end Go.Mono
namespace Go.Mono

theorem pT (p:Nat→Bool)(n:Nat):(di p n = -1∧∀i,i<n→p i=false)∨∃k:Nat,k<n∧di p n=(k:Int)∧p k=true∧∀i,i<k→p i=false:=by
 by_cases h:∃k,k<n∧p k=true
 ·obtain⟨k,⟨h1,h2⟩,h3⟩:=eU h
  have h4:∀i,i<k→p i=false:=fun i hi=>by
   cases hp:p i
   ·rfl
   ·exact absurd ⟨by omega,hp⟩ (h3 i hi)
  exact .inr ⟨k,h1,fI h1 h4 h2,h2,h4⟩
 ·have h4:∀i,i<n→p i=false:=fun i hi=>by
   cases hp:p i
   ·rfl
   ·exact absurd ⟨i,hi,hp⟩ h
  exact .inl ⟨fH h4,h4⟩
theorem aV.uni {xs:List RB}(V:aV xs):Uni xs:=(pE (pD V.range V.root V.loop)).1 V.dup
theorem xq {xs:List RB}(U:Uni xs){id:Int}{i:Nat}(hi:i<xs.length)(h:bc xs id i=true):fU xs id=(i:Int):=by
 refine fI hi (fun j hj=>?_) h
 cases ht:bc xs id j
 ·rfl
 ·exact absurd ⟨h,ht⟩ (U id j i hj hi)
theorem pU (xs:List RB)(id:Int):(fU xs id = -1∧∀i,i<xs.length→bc xs id i=false)∨∃k:Nat,k<xs.length∧fU xs id=(k:Int)∧bc xs id k=true:=by
 rcases pT (bc xs id) xs.length with h|⟨k,h1,h2,h3,_⟩
 ·exact .inl h
 ·exact .inr ⟨k,h1,h2,h3⟩
theorem pV (xs:List RB)(i:Nat):dsc xs i i=true:=by simp[dsc]

def xr (xs:List RB)(b:Nat):List Nat:=(kidN xs b).filter fun k=>decide (dU xs (b:Nat)≠(k:Int))
def isLt (xs:List RB)(b:Int):Bool:=(List.range xs.length).any fun p=>(xr xs p).any fun k=>decide (b=(k:Int))
end Go.Mono
namespace Go.Mono
open Go Go.Proofs Go.RowKit
def fV (p:Int→Bool)(l:List Int):Int:=di (fun i=>p (gi l i)) l.length

theorem xt {G:Nat→Prop}(l:List Int)(v:Value)(id:FuncId)(caps:Array Value)(p:Int→Bool)(W:World)(hen:Proofs.Enters Tryz.prog id)(h:(Dv (slE ap) G l).p v W)
  (hp:∀w x,Ext W w→Calls Tryz.prog id (#[I x]++caps) w (Post (E (B (p x))) w)) (hl:l.length≤4096) :
  Calls Tryz.prog 94 #[v,.func (.func id) #[] caps] W (Post (E (I (fV p l))) W):=by
 refine enter (args:=[v,.func (.func id) #[] caps]) (As:=[Dv (slE ap) G l,E (.func (.func id) #[] caps)]) Tryz.func94 rfl Tryz.ntmps94 (Nat.le_of_ble_eq_true rfl) ?_ (fun a hf=>?_) (Nat.le_of_ble_eq_true rfl)
 rotate_left
 dsimp only[params,Nat.reduceAdd] at hf
 rotate_right
 ·exact arg2 h rfl
 have e:=Ext.rfl' W
 refine seq ?_
 refine ah ?_
 refine ae hf rfl (by decide) fun a hf=>?_
 refine aa ?_
 repeat refine seq ?_
 refine ac 3 hf (by decide +kernel) ?_
 refine st (mv rfl) ?_
 refine st (ay U63 (isR rfl)) ?_
 refine st (mv rfl) ?_
 refine en fun a w e' hf=>?_
 replace e:=e.tr e'
 refine aa ?_
 replace hf:=hf.kp [0,1,7,8]
 refine blk (aG (fun r0 a w=>∃(k:Nat) ,r0=l.length - k∧k≤l.length∧Fr 19 a w [(0,Dv (slE ap) G l),(1,E (.func (.func id) #[] caps)),(7,E (I (l.length:Nat))),(8,E (I k))]∧Ext W w∧∀i,i<k→p (gi l i)=false) l.length ⟨0,rfl,by omega,hf,e,(fun i hi=>by omega)⟩ ?_)
 clear hf e;try clear Ho
 rintro r0 a w ⟨k,rfl,hk,hf,e,Ho⟩
 refine seq ?_
 refine ac 1 hf (by decide +kernel) ?_
 refine st (lss rfl rfl) ?_
 refine en fun a w e' hf=>?_
 replace e:=e.tr e'
 refine aa ?_
 refine seq ?_
 refine ifc hf rfl (fun hc=>ak ?_) (fun hc=>aF ?_)
 rotate_left
 rotate_left
 ·have hlt:k<l.length:=by have:=of_decide_eq_true hc;(try dsimp only at this);omega
  clear hc
  replace hf:=hf.kp [0,1,7,8]
  refine seq ?_
  refine blk ?_
  refine seq ?_
  refine ac 1 hf (by decide +kernel) ?_
  refine st (mv rfl) ?_
  refine en fun a w e' hf=>?_
  replace e:=e.tr e'
  refine ae hf rfl (by decide) fun a hf=>?_
  refine aa ?_
  refine seq ?_
  refine ac 6 hf (by decide +kernel) ?_
  refine st (mv rfl) ?_
  refine st (mv rfl) ?_
  refine st (mv rfl) ?_
  refine st (az U63 S3 (isR rfl) rfl (by omega) (em hlt)) ?_
  refine st (ldI T3 (isR rfl)) ?_
  refine st (jq hen rfl rfl (fun v w he h=>by cases h;exact hp w _ (Ext.tr e he))) ?_
  refine en fun a w e' hf=>?_
  replace e:=e.tr e'
  refine aa ?_
  refine ifc hf rfl (fun hb=>?_) (fun hb=>?_)
  ·refine seq ?_
   refine ac 1 hf (by decide +kernel) ?_
   refine st (mv rfl) ?_
   refine en fun a w e' hf=>?_
   replace e:=e.tr e'
   refine ae hf rfl (by decide) fun a hf=>?_
   refine aa ?_
   refine aj ?_
   simp only[Exit.then,Exit.inBlock]
   refine al rfl hf rfl ?_
   rintro _ rfl
   exact⟨_,rfl,e,congrArg I (fI hlt Ho hb).symm⟩
  ·refine ak ?_
   simp only[Exit.then,Exit.inBlock,↓reduceIte]
   refine ac 1 hf (by decide +kernel) ?_
   refine st ((add rfl rfl (by omega)).eq (congrArg (Value.int .i64) (show (k:Int)+1=((k+1:Nat):Int) from rfl))) ?_
   refine en fun a w e' hf=>?_
   replace e:=e.tr e'
   clear e'
   refine ar hf (by decide) (mv rfl) fun a w e' hf=>?_
   replace e:=e.tr e'
   refine aa ?_
   replace hf:=hf.kp [0,1,7,8]
   refine⟨_,?_,k+1,rfl,by omega,hf,e,?_⟩
   ·omega
   intro i hi
   by_cases hk:i=k
   ·subst hk;exact hb
   ·exact Ho i (by omega)
 ·obtain rfl:k=l.length:=by have:=of_decide_eq_false hc;(try dsimp only at this);omega
  clear hc
  simp only[Exit.then,Exit.inBlock,↓reduceIte]
  refine seq ?_
  refine ah ?_
  refine ae hf rfl (by decide) fun a hf=>?_
  refine aa ?_
  refine aj ?_
  refine al rfl hf rfl ?_
  rintro _ rfl
  exact⟨_,rfl,e,congrArg I (fH Ho).symm⟩

theorem xu {G:Nat→Prop}(t:List Int)(v:Value)(W:World)(h:(Dv (slE ap) G t).p v W)(hl:t.length≤4096) :
  Calls Tryz.prog 50 #[v] W (Post (OwA ap 3 W.heap.size G0 t) W):=by
 have hG:∀b,G0 b→b<W.heap.size:=fun b hb=>hb.elim
 have HV:(Dv (slE ap) (GB W G0) t).p v W:=Dv.toB (Dv.weak h fun b _ hb=>hb.elim)
 have hv:∃ao n c,v=.slice ao n c∧(ao=none→t=[]∧v=.slice none 0 0):=by
  rcases Dv.sl.1 h with ⟨rfl,rfl⟩|⟨ad,cap,cs,rfl,_⟩
  ·exact⟨none,0,0,rfl,fun _=>⟨rfl,rfl⟩⟩
  ·exact⟨_,_,_,rfl,fun h=>by cases h⟩
 obtain⟨ao,n,c,hv1,hv2⟩:=hv
 refine enter (args:=[v]) (As:=[E v]) Tryz.func50 rfl Tryz.ntmps50 (Nat.le_of_ble_eq_true rfl) ?_ (fun a hf=>?_) (Nat.le_of_ble_eq_true rfl)
 rotate_left
 dsimp only[params,Nat.reduceAdd] at hf
 rotate_right
 ·exact arg1 rfl
 have e:=Ext.rfl' W
 rw[hv1] at hf
 refine seq ?_
 refine ah ?_
 refine ae hf rfl (by decide) fun a hf=>?_
 refine aa ?_
 repeat refine seq ?_
 refine ac 2 hf (by decide +kernel) ?_
 refine st (mv rfl) ?_
 refine st (hZ U63 rfl) ?_
 refine en fun a w e' hf=>?_
 replace HV:=Dv.ex HV e'
 replace e:=e.tr e'
 refine aa ?_
 refine ifc hf rfl (fun hb=>?_) (fun hb=>?_)
 ·have hn:ao=none:=by cases ao <;> simp at hb ⊢
  obtain⟨h1,_⟩:=hv2 hn
  subst h1
  refine seq ?_
  refine ah ?_
  refine ae hf rfl (by decide) fun a hf=>?_
  refine aa ?_
  refine aj ?_
  simp only[Exit.then,Exit.inBlock]
  refine al rfl hf rfl ?_
  rintro _ rfl
  exact⟨_,rfl,e,(OwR.nil ap _ e.size hG)⟩
 ·refine ak ?_
  simp only[Exit.then,Exit.inBlock,↓reduceIte]
  refine seq ?_
  refine ah ?_
  refine gm W.heap.size G0 ap U63 S3 hf (by decide) e.size hG fun a v w e' hov Ho hf=>?_
  replace HV:=Dv.ex HV e'
  replace e:=e.tr e'
  clear e'
  refine ar hf (by decide) (mv rfl) fun a w e' hf=>?_
  replace HV:=Dv.ex HV e'
  replace e:=e.tr e'
  replace Ho:=Ho.ext e'
  clear e'
  haveI hin:∀G0,InR (GB W G0) _:=OwR.inGB (W:=W) Ho (Nat.le_refl _)
  refine bs U63 I3 rfl rfl hf (by decide) rfl Ho (isE rfl (by rw[← hv1];exact Dv.weak HV fun b _ hb=>hb.elim (fun h=>h.elim) (fun h=>.inr (Ho.row (Nat.le_refl _) b h)))) (by simp only[List.length_nil];omega) (by simp only[List.length_nil,maxLen];omega) fun a v w hg hat Hn hf=>?_
  replace e:=e.gro hg (Ho.row (W:=W) (Nat.le_refl _))
  replace Ho:=Hn;clear Hn hg hat hin
  refine ae hf rfl (by decide) fun a hf=>?_
  refine aa ?_
  refine aj ?_
  refine al rfl hf rfl ?_
  rintro _ rfl
  exact⟨_,rfl,e,(by have:=Ho;rw[List.nil_append] at this;exact this)⟩

theorem xv {l:List Int}{x:Int}(h:x∈l):∃i,i<l.length∧gi l i=x:=by
 obtain⟨i,hi⟩:=List.mem_iff_getElem?.1 h
 exact⟨i,(List.getElem?_eq_some_iff.1 hi).1,by simp[gi,hi]⟩
structure Del (q:Int→Bool)(l:List Int)(cap j i:Nat)(cur:Array Value):Prop where
 size:cur.size=cap
 ni:((l.take j).filter q).length=i
 low:cur.toList.take i=((l.take j).filter q).map (Value.int .i64)
 high:∀k,j≤k→k<l.length→cur[k]?=some (I (gi l k))
 lt:i<j
theorem Del.keep {q:Int→Bool}{l:List Int}{cap j i:Nat}{cur:Array Value}(h:Del q l cap j i cur)(hj:j<l.length)(hc:l.length≤cap)(hq:q (gi l j)=true):Del q l cap (j+1) (i+1) (cur.setIfInBounds i (I (gi l j))):=by
 have hlt:=h.lt
 refine⟨by simp[h.size],?_,?_,fun k h1 h2=>?_,by omega⟩
 ·rw[gn q hj,if_pos hq,List.length_append,h.ni];rfl
 ·have hil:i<cur.toList.length:=by rw[Array.length_toList,h.size];omega
  rw[gn q hj,if_pos hq,List.map_append,← h.low,Array.toList_setIfInBounds,List.take_succ_eq_append_getElem (by simpa using hil),List.take_set_of_le (Nat.le_refl _)]
  simp
 ·rw[Array.getElem?_setIfInBounds_ne (by omega)]
  exact h.high k (by omega) h2
theorem Del.drop {q:Int→Bool}{l:List Int}{cap j i:Nat}{cur:Array Value}(h:Del q l cap j i cur)(hj:j<l.length)(hq:q (gi l j)=false):Del q l cap (j+1) i cur:=
 ⟨h.size,by rw[gn q hj,if_neg (by rw[hq];decide),h.ni],by rw[gn q hj,if_neg (by rw[hq];decide),h.low],fun k h1 h2=>h.high k (by omega) h2,by have:=h.lt;omega⟩
theorem pW {G:Nat→Prop}{w:World}:∀{l:List Int} {cs:List Value},Cells ap G w l cs→cs=l.map (Value.int .i64)
 | [],cs,h=>h
 | x::l,cs,⟨c,d,h,h1,h2⟩=>by
  have:c=[I x]:=h1
  subst this
  rw[h,pW h2];rfl

theorem xw (l:List Int)(Bz:Nat)(v:Value)(id:FuncId)(caps:Array Value)(p:Int→Bool)(W:World)(hen:Proofs.Enters Tryz.prog id)(ho:OwR ap 3 Bz G0 W l v)
  (hp:∀w x,Chg (fun b=>Bz≤b) W w→Calls Tryz.prog id (#[I x]++caps) w (Post (E (B (p x))) w)) (hl:l.length≤4096) :
  Calls Tryz.prog 49 #[v,.func (.func id) #[] caps] W (fun e w'=>∃u,e=.returned u∧Chg (fun b=>Bz≤b) W w'∧(Dv (slE ap) (fun b=>b<Bz) (l.filter fun x => !p x)).p u w'∧True):=by
 obtain⟨q,hq⟩:∃q:Int→Bool,q=fun x => !p x:=⟨_,rfl⟩
 refine enter (args:=[v,.func (.func id) #[] caps]) (As:=[E v,E (.func (.func id) #[] caps)]) Tryz.func49 rfl Tryz.ntmps49 (Nat.le_of_ble_eq_true rfl) ?_ (fun a hf=>?_) (Nat.le_of_ble_eq_true rfl)
 rotate_left
 dsimp only[params,Nat.reduceAdd] at hf
 rotate_right
 ·exact arg2 rfl rfl
 have e:=Ext.rfl' W
 refine seq ?_
 refine ah ?_
 refine ae hf rfl (by decide) fun a hf=>?_
 refine aa ?_
 refine seq ?_
 refine ac 3 hf (by decide +kernel) ?_
 refine st (mv rfl) ?_
 refine st (mv rfl) ?_
 refine st (ax rF rfl rfl (fun v u w he h h'=>by cases h;cases h';exact xt l _ id caps p w hen (ho.ext he).sl (fun w' x he'=>hp w' x ((Ext.tr e (Ext.tr he he')).chg _)) hl)) ?_
 refine en fun a w e' hf=>?_
 replace ho:=ho.ext e'
 replace e:=e.tr e'
 refine ae hf rfl (by decide) fun a hf=>?_
 refine aa ?_
 rcases pT (fun i=>p (gi l i)) l.length with ⟨hi,hall⟩|⟨i0,hi0,hi,hit,hall⟩
 ·repeat refine seq ?_
  refine ac 2 hf (by decide +kernel) ?_
  refine st (mv rfl) ?_
  refine st ((eql rfl rfl).eq (congrArg Value.bool (show (fV p l == -1)=true from by rw[fV,hi];rfl))) ?_
  refine en fun a w e' hf=>?_
  replace ho:=ho.ext e'
  replace e:=e.tr e'
  refine aa ?_
  refine ifc hf rfl (fun _=>?_) (fun h=>by cases h)
  have hfl:(l.filter fun x => !p x)=l:=List.filter_eq_self.2 fun x hx=>by
   obtain⟨i,h1,h2⟩:=xv hx
   have:=hall i h1
   simp only[h2] at this
   rw[this];rfl
  refine seq ?_
  refine ac 1 hf (by decide +kernel) ?_
  refine st (mv rfl) ?_
  refine en fun a w e' hf=>?_
  replace ho:=ho.ext e'
  replace e:=e.tr e'
  refine ae hf rfl (by decide) fun a hf=>?_
  refine aa ?_
  refine aj ?_
  simp only[Exit.then,Exit.inBlock]
  refine al rfl hf rfl ?_
  rintro _ rfl
  exact⟨_,rfl,e.chg _,by rw[hfl];exact (OwR.reG ho fun b hb=>hb).sl,trivial⟩
 ·repeat refine seq ?_
  refine ac 2 hf (by decide +kernel) ?_
  refine st (mv rfl) ?_
  refine st ((eql rfl rfl).eq (congrArg Value.bool (show (fV p l == -1)=false from by rw[fV,hi];simp))) ?_
  refine en fun a w e' hf=>?_
  replace ho:=ho.ext e'
  replace e:=e.tr e'
  refine aa ?_
  refine ifc hf rfl (fun h=>by cases h) (fun _=>?_)
  refine ak ?_
  simp only[Exit.then,Exit.inBlock,↓reduceIte]
  obtain⟨cs,⟨_,hrow⟩,hcs⟩:=ho.own
  rcases hrow with ⟨_,hn⟩|⟨g,cap,cur,rfl,hB,hg0,hn,hm,hs,ht⟩
  ·omega
  have hcs':=pW hcs
  subst hcs'
  simp only[show (ap).k=1 from rfl,Nat.mul_one] at hs ht
  have BG:Blk w g cur 3:=hg0
  have D:Del q l cap (i0+1) i0 cur:=by
   have hcu:∀k,k<l.length→cur[k]?=some (I (gi l k)):=fun k hk=>by
    have:(cur.toList.take l.length)[k]?=(l.map (Value.int .i64))[k]?:=by rw[ht]
    rw[List.getElem?_take,if_pos hk,List.getElem?_map,em hk] at this
    simpa using this
   have hft:∀k,k≤i0→(l.take k).filter q=l.take k:=fun k hk=>List.filter_eq_self.2 fun x hx=>by
    obtain⟨i,hx'⟩:=List.mem_iff_getElem?.1 hx
    rw[List.getElem?_take] at hx'
    split at hx'
    ·have:=hall i (by omega)
     rw[hq]
     simp only[gi,hx'] at this
     simp[this]
    ·cases hx'
   have hf1:(l.take (i0+1)).filter q=l.take i0:=by
    rw[gn q hi0,if_neg (by rw[hq];simp[hit]),hft i0 (Nat.le_refl _)]
   refine⟨hs,by rw[hf1,List.length_take];omega,?_,fun k _ hk=>hcu k hk,Nat.lt_succ_self _⟩
   rw[hf1,List.map_take,← ht,List.take_take,Nat.min_eq_left (by omega)]
  have c:Chg (fun b=>Bz≤b) W w:=e.chg _
  clear ht hs hg0 hcs
  rw[show fV p l=(i0:Int) from hi] at hf
  replace hf:=hf.kp [0,1,5]
  repeat refine seq ?_
  refine ac 2 hf (by decide +kernel) ?_
  refine st (mv rfl) ?_
  refine st ((add rfl rfl (by omega)).eq (congrArg (Value.int .i64) (show (i0:Int)+1=((i0+1:Nat):Int) from rfl))) ?_
  refine en fun a w e' hf=>?_
  replace c:=c.ext e'
  replace BG:=BG.ext e'
  refine ae hf rfl (by decide) fun a hf=>?_
  refine aa ?_
  replace hf:=hf.kp [0,1,5,6]
  clear ho e
  refine blk (aG (fun r0 a w=>∃(j i:Nat) (cur:Array Value),r0=l.length - j∧j≤l.length∧Fr 42 a w [(0,E (.slice (some ⟨g,0,none⟩) l.length cap)),(1,E (.func (.func id) #[] caps)),(5,E (I (i:Nat))),(6,E (I (j:Nat)))]∧Chg (fun b=>Bz≤b) W w∧Blk w g cur 3∧Del q l cap j i cur) (l.length - (i0+1)) ⟨i0+1,i0,cur,rfl,by omega,hf,c,BG,D⟩ ?_)
  clear hf c BG D
  rintro r0 a w ⟨j,i,cur,rfl,hj,hf,c,BG,D⟩
  have hij:=D.lt
  repeat refine seq ?_
  refine ac 4 hf (by decide +kernel) ?_
  refine st (mv rfl) ?_
  refine st (mv rfl) ?_
  refine st (sY U63 rfl) ?_
  refine st (lss rfl rfl) ?_
  refine en fun a w e' hf=>?_
  replace c:=c.ext e'
  replace BG:=BG.ext e'
  refine aa ?_
  refine ifc hf rfl (fun hb=>ak ?_) (fun hb=>aF ?_)
  ·have hlt:j<l.length:=by have:=of_decide_eq_true hb;omega
   refine seq ?_
   refine blk ?_
   replace hf:=hf.kp [0,1,5,6]
   refine seq ?_
   refine ac 4 hf (by decide +kernel) ?_
   refine st (mv rfl) ?_
   refine st (mv rfl) ?_
   refine st (idxS U63 S3 rfl rfl (by omega)) ?_
   refine st (ld1 T3 rfl BG (show cur[0+(j:Int).toNat * 1]?=some (I (gi l j)) from by rw[Nat.zero_add,Nat.mul_one];exact D.high j (Nat.le_refl _) hlt)) ?_
   refine en fun a w e' hf=>?_
   replace c:=c.ext e'
   replace BG:=BG.ext e'
   refine ae hf rfl (by decide) fun a hf=>?_
   refine aa ?_
   refine seq ?_
   refine ac 4 hf (by decide +kernel) ?_
   refine st (mv rfl) ?_
   refine st (mv rfl) ?_
   refine st (jq hen rfl rfl (fun v w he h=>by cases h;exact hp w _ (c.ext he))) ?_
   refine st (aS rfl) ?_
   refine en fun a w e' hf=>?_
   replace c:=c.ext e'
   replace BG:=BG.ext e'
   refine aa ?_
   refine ifc hf rfl (fun hb=>?_) (fun hb=>?_)
   ·have hqj:q (gi l j)=true:=by rw[hq];exact hb
    replace hf:=hf.kp [0,1,5,6,7]
    refine seq ?_
    refine ac 4 hf (by decide +kernel) ?_
    refine st (mv rfl) ?_
    refine st (mv rfl) ?_
    refine st (mv rfl) ?_
    refine st (idxS U63 S3 rfl rfl (by omega)) ?_
    refine en fun a w e' hf=>?_
    replace c:=c.ext e'
    replace BG:=BG.ext e'
    clear e'
    refine aP T3 hf rfl rfl rfl BG (by rw[D.size];omega) fun w hg hsz BG hf=>?_
    replace c:=c.gr hg (.inl hB)
    clear hg
    refine aa ?_
    rw[show 0+((i:Nat):Int).toNat * 1=i by omega] at BG
    have D':=D.keep hlt hn hqj
    refine ac 2 hf (by decide +kernel) ?_
    refine st (mv rfl) ?_
    refine st ((add rfl rfl (by omega)).eq (congrArg (Value.int .i64) (show (i:Int)+1=((i+1:Nat):Int) from rfl))) ?_
    refine en fun a w e' hf=>?_
    replace c:=c.ext e'
    replace BG:=BG.ext e'
    refine ae hf rfl (by decide) fun a hf=>?_
    refine aa ?_
    simp only[Exit.then,Exit.inBlock,↓reduceIte]
    replace hf:=hf.kp [0,1,5,6]
    refine ac 2 hf (by decide +kernel) ?_
    refine st (mv rfl) ?_
    refine st ((add rfl rfl (by omega)).eq (congrArg (Value.int .i64) (show (j:Int)+1=((j+1:Nat):Int) from rfl))) ?_
    refine en fun a w e' hf=>?_
    replace c:=c.ext e'
    replace BG:=BG.ext e'
    refine ae hf rfl (by decide) fun a hf=>?_
    refine aa ?_
    replace hf:=hf.kp [0,1,5,6]
    exact⟨l.length - (j+1),by omega,j+1,i+1,_,rfl,by omega,hf,c,BG,D'⟩
   ·have hqj:q (gi l j)=false:=by rw[hq];exact hb
    have D':=D.drop hlt hqj
    refine ak ?_
    simp only[Exit.then,Exit.inBlock,↓reduceIte]
    replace hf:=hf.kp [0,1,5,6]
    refine ac 2 hf (by decide +kernel) ?_
    refine st (mv rfl) ?_
    refine st ((add rfl rfl (by omega)).eq (congrArg (Value.int .i64) (show (j:Int)+1=((j+1:Nat):Int) from rfl))) ?_
    refine en fun a w e' hf=>?_
    replace c:=c.ext e'
    replace BG:=BG.ext e'
    refine ae hf rfl (by decide) fun a hf=>?_
    refine aa ?_
    replace hf:=hf.kp [0,1,5,6]
    exact⟨l.length - (j+1),by omega,j+1,i,cur,rfl,by omega,hf,c,BG,D'⟩
  ·obtain rfl:j=l.length:=by have:=of_decide_eq_false hb;omega
   simp only[Exit.then,Exit.inBlock,↓reduceIte]
   replace hf:=hf.kp [0,1,5,6]
   have hsz:=D.size
   refine seq ?_
   refine ac 3 hf (by decide +kernel) ?_
   refine st (mv rfl) ?_
   refine st (mv rfl) ?_
   refine st (tk U63 S3 rfl rfl (by omega) (by omega)) ?_
   refine en fun a w e' hf=>?_
   replace c:=c.ext e'
   replace BG:=BG.ext e'
   clear e'
   refine tm U63 I3 rfl rfl hf rfl BG (by omega) (by omega) (fun k hk=>by first|cases hk|(cases hk;decide)) fun a w hg hsz BG hf=>?_
   replace c:=c.gr hg (.inl hB)
   clear hg
   refine aa ?_
   replace hf:=hf.kp [0,1,5,6]
   refine seq ?_
   refine ac 3 hf (by decide +kernel) ?_
   refine st (mv rfl) ?_
   refine st (mv rfl) ?_
   refine st (tl U63 S3 rfl rfl (by omega)) ?_
   refine en fun a w e' hf=>?_
   replace c:=c.ext e'
   replace BG:=BG.ext e'
   refine ae hf rfl (by decide) fun a hf=>?_
   refine aa ?_
   refine aj ?_
   refine al rfl hf rfl ?_
   rintro _ rfl
   have hlow:=D.low
   have hni:=D.ni
   rw[List.take_length] at hlow hni
   rw[← hq]
   refine⟨_,rfl,c,Dv.sl.2 (.inr ⟨⟨g,0,none⟩,cap,(l.filter q).map (Value.int .i64),?_,by omega,by show ¬g<Bz;omega,BG.lt,kz _,fun k u hu=>?_⟩),trivial⟩
   ·rw[hni]
   ·rw[Addr.add_lit,Nat.zero_add,BG.cell k,List.getElem?_toArray,Nat.zero_add]
    have hk:k<i:=by have:=(List.getElem?_eq_some_iff.1 hu).1;rw[List.length_map,hni] at this;exact this
    rw[← hlow] at hu
    rw[List.append_assoc,List.getElem?_append_left (by rw[List.length_take,Array.length_toList];omega)]
    exact hu
def NdC (G:Nat→Prop)(w:World)(cells:Array Value)(i:Nat)(x:Nd):Prop:=
 ∃kv lv,cells[0+i * 5+0]?=some kv∧cells[0+i * 5+1]?=some lv∧cells[0+i * 5+2]?=some (I x.2.2.1)∧cells[0+i * 5+3]?=some (I x.2.2.2.1)∧cells[0+i * 5+4]?=some (I x.2.2.2.2) ∧
  (Dv (slE ap) G x.1).p kv w∧(Dv (slE ap) G x.2.1).p lv w
structure NS (n:Nat)(G:Nat→Prop)(nd:Nat→Nd)(cells:Array Value)(w:World):Prop where
 size:cells.size=n * 5
 nd:∀i,i<n→NdC G w cells i (nd i)
section
variable {n:Nat}{G G':Nat→Prop}{nd:Nat→Nd}{cells:Array Value}{w w' W:World}{i:Nat}
theorem NS.map (h:NS n G nd cells w)(hd:∀(l:List Int) v,(Dv (slE ap) G l).p v w→(Dv (slE ap) G' l).p v w'):NS n G' nd cells w':=
 ⟨h.size,fun i hi=>by
  obtain⟨kv,lv,h1,h2,h3,h4,h5,h6,h7⟩:=h.nd i hi
  exact⟨kv,lv,h1,h2,h3,h4,h5,hd _ _ h6,hd _ _ h7⟩⟩
theorem NS.ext (h:NS n G nd cells w)(e:Ext w w'):NS n G nd cells w':=h.map fun l v hv=>Dv.ex hv e
theorem NS.gr (h:NS n G nd cells w){b:Nat}(hg:w.grownBy w' (some b))(hb:G b):NS n G nd cells w':=h.map fun l v hv=>Dv.gr hv hg hb
theorem NS.ch (h:NS n G nd cells w){S:Nat→Prop}(k:Chg S w w')(hS:∀b,S b→G b):NS n G nd cells w':=h.map fun l v hv=>Dv.ch hv k hS
theorem NS.toB (h:NS n G nd cells W):NS n (GB W G) nd cells W:=h.map fun l v hv=>Dv.toB hv
theorem NS.weak (h:NS n G nd cells w)(hG:∀b,b<w.heap.size→G' b→G b):NS n G' nd cells w:=h.map fun l v hv=>Dv.weak hv hG
theorem NS.congr {nd':Nat→Nd}(h:NS n G nd cells w)(hn:∀i,i<n→nd i=nd' i):NS n G nd' cells w:=⟨h.size,fun i hi=>hn i hi▸h.nd i hi⟩
theorem NS.size_at (h:NS n G nd cells w)(hi:i<n):cells[0+i * 5+2]?=some (I (nd i).2.2.1):=by obtain⟨kv,lv,h1,h2,h3,h4,h5,h6,h7⟩:=h.nd i hi;exact h3
theorem NS.heavy_at (h:NS n G nd cells w)(hi:i<n):cells[0+i * 5+3]?=some (I (nd i).2.2.2.1):=by obtain⟨kv,lv,h1,h2,h3,h4,h5,h6,h7⟩:=h.nd i hi;exact h4
theorem NS.deep_at (h:NS n G nd cells w)(hi:i<n):cells[0+i * 5+4]?=some (I (nd i).2.2.2.2):=by obtain⟨kv,lv,h1,h2,h3,h4,h5,h6,h7⟩:=h.nd i hi;exact h5
theorem NS.kids_at (h:NS n G nd cells w)(hi:i<n):∃kv,cells[0+i * 5+0]?=some kv∧(Dv (slE ap) G (nd i).1).p kv w:=by obtain⟨kv,lv,h1,h2,h3,h4,h5,h6,h7⟩:=h.nd i hi;exact⟨kv,h1,h6⟩
def un (nd:Nat→Nd)(i:Nat)(x:Nd):Nat→Nd:=fun j=>if j=i then x else nd j
theorem da {x:Nd}:un nd i x i=x:=if_pos rfl
theorem ft {j:Nat}{x:Nd}(h:j≠i):un nd i x j=nd j:=if_neg h
theorem kW {x y:Nd}:un (un nd i x) i y=un nd i y:=by
 funext j
 unfold un
 split <;> rfl
theorem NS.set (h:NS n G nd cells w){f:Nat}{v:Value}{x:Nd}(hf:f<5)(hx:NdC G w (cells.setIfInBounds (0+i * 5+f) v) i x):NS n G (un nd i x) (cells.setIfInBounds (0+i * 5+f) v) w:=by
 refine⟨by simp[h.size],fun j hj=>?_⟩
 by_cases hji:j=i
 ·subst hji;rw[da];exact hx
 ·rw[ft hji]
  obtain⟨kv,lv,h1,h2,h3,h4,h5,h6,h7⟩:=h.nd j hj
  refine⟨kv,lv,?_,?_,?_,?_,?_,h6,h7⟩
  all_goals rw[Array.getElem?_setIfInBounds_ne (by omega)];assumption
theorem NS.bd (h:NS n G nd cells w)(hi:i<n){f:Nat}(hf:f<5):0+i * 5+f<cells.size:=by rw[h.size];omega
theorem NS.set_kids (h:NS n G nd cells w)(hi:i<n){v:Value}{l:List Int}(hv:(Dv (slE ap) G l).p v w):NS n G (un nd i (l,(nd i).2)) (cells.setIfInBounds (0+i * 5+0) v) w:=by
 obtain⟨kv,lv,h1,h2,h3,h4,h5,h6,h7⟩:=h.nd i hi
 have hb:=h.bd hi (f:=0) (by decide)
 refine h.set (by decide) ⟨v,lv,?_,?_,?_,?_,?_,hv,h7⟩
 ·simp[Array.getElem?_setIfInBounds];omega
 all_goals rw[Array.getElem?_setIfInBounds_ne (by omega)];assumption
theorem NS.set_light (h:NS n G nd cells w)(hi:i<n){v:Value}{l:List Int}(hv:(Dv (slE ap) G l).p v w):NS n G (un nd i ((nd i).1,l,(nd i).2.2)) (cells.setIfInBounds (0+i * 5+1) v) w:=by
 obtain⟨kv,lv,h1,h2,h3,h4,h5,h6,h7⟩:=h.nd i hi
 have hb:=h.bd hi (f:=1) (by decide)
 refine h.set (by decide) ⟨kv,v,?_,?_,?_,?_,?_,h6,hv⟩
 rotate_left
 ·simp[Array.getElem?_setIfInBounds];omega
 all_goals rw[Array.getElem?_setIfInBounds_ne (by omega)];assumption
theorem NS.set_size (h:NS n G nd cells w)(hi:i<n)(s:Int):NS n G (un nd i ((nd i).1,(nd i).2.1,s,(nd i).2.2.2)) (cells.setIfInBounds (0+i * 5+2) (I s)) w:=by
 obtain⟨kv,lv,h1,h2,h3,h4,h5,h6,h7⟩:=h.nd i hi
 have hb:=h.bd hi (f:=2) (by decide)
 refine h.set (by decide) ⟨kv,lv,?_,?_,?_,?_,?_,h6,h7⟩
 rotate_left 2
 ·simp[Array.getElem?_setIfInBounds];omega
 all_goals rw[Array.getElem?_setIfInBounds_ne (by omega)];assumption
theorem NS.set_heavy (h:NS n G nd cells w)(hi:i<n)(s:Int):NS n G (un nd i ((nd i).1,(nd i).2.1,(nd i).2.2.1,s,(nd i).2.2.2.2)) (cells.setIfInBounds (0+i * 5+3) (I s)) w:=by
 obtain⟨kv,lv,h1,h2,h3,h4,h5,h6,h7⟩:=h.nd i hi
 have hb:=h.bd hi (f:=3) (by decide)
 refine h.set (by decide) ⟨kv,lv,?_,?_,?_,?_,?_,h6,h7⟩
 rotate_left 3
 ·simp[Array.getElem?_setIfInBounds];omega
 all_goals rw[Array.getElem?_setIfInBounds_ne (by omega)];assumption
theorem NS.set_deep (h:NS n G nd cells w)(hi:i<n)(s:Int):NS n G (un nd i ((nd i).1,(nd i).2.1,(nd i).2.2.1,(nd i).2.2.2.1,s)) (cells.setIfInBounds (0+i * 5+4) (I s)) w:=by
 obtain⟨kv,lv,h1,h2,h3,h4,h5,h6,h7⟩:=h.nd i hi
 have hb:=h.bd hi (f:=4) (by decide)
 refine h.set (by decide) ⟨kv,lv,?_,?_,?_,?_,?_,h6,h7⟩
 rotate_left 4
 ·simp[Array.getElem?_setIfInBounds];omega
 all_goals rw[Array.getElem?_setIfInBounds_ne (by omega)];assumption
theorem pX (nd:Nat→Nd)(i:Nat):un nd i (nd i)=nd:=by
 funext j
 unfold un
 split
 ·subst_vars;rfl
 ·rfl
theorem NS.size' {k l:List Int}{s hv d:Int}(h:NS n G (un nd i (k,l,s,hv,d)) cells w)(hi:i<n)(s':Int):NS n G (un nd i (k,l,s',hv,d)) (cells.setIfInBounds (0+i * 5+2) (I s')) w:=by
 have:=h.set_size hi s'
 rw[kW] at this
 simpa only [da] using this
theorem NS.heavy' {k l:List Int}{s hv d:Int}(h:NS n G (un nd i (k,l,s,hv,d)) cells w)(hi:i<n)(s':Int):NS n G (un nd i (k,l,s,s',d)) (cells.setIfInBounds (0+i * 5+3) (I s')) w:=by
 have:=h.set_heavy hi s'
 rw[kW] at this
 simpa only [da] using this
theorem NS.light' {k l l':List Int}{s hv d:Int}{v:Value}(h:NS n G (un nd i (k,l,s,hv,d)) cells w)(hi:i<n)(hl:(Dv (slE ap) G l').p v w):NS n G (un nd i (k,l',s,hv,d)) (cells.setIfInBounds (0+i * 5+1) v) w:=by
 have:=h.set_light hi hl
 rw[kW] at this
 simpa only [da] using this
end

theorem xy (x:Int)(b3 bn off:Nat)(hv:Int)(cells:Array Value)(W:World)(B3:Blk W b3 #[.pointer (some ⟨bn,off,none⟩)] 107)(BN:Blk W bn cells 100)(hc:cells[off+3]?=some (I hv)) :
  Calls Tryz.prog 51 #[I x,.pointer (some ⟨b3,0,none⟩)] W (Post (E (B (x==hv))) W):=by
 refine enter (args:=[I x,.pointer (some ⟨b3,0,none⟩)]) (As:=[E (I x),E (.pointer (some ⟨b3,0,none⟩))]) Tryz.func51 rfl Tryz.ntmps51 (Nat.le_of_ble_eq_true rfl) ?_ (fun a hf=>?_) (Nat.le_of_ble_eq_true rfl)
 rotate_left
 dsimp only[params,Nat.reduceAdd] at hf
 rotate_right
 ·exact arg2 rfl rfl
 have e:=Ext.rfl' W
 refine seq ?_
 refine ah ?_
 refine ae hf rfl (by decide) fun a hf=>?_
 refine aa ?_
 refine seq ?_
 refine ac 6 hf (by decide +kernel) ?_
 refine st (mv rfl) ?_
 refine st (ld1 cS rfl B3 rfl) ?_
 refine st (aU rfl) ?_
 refine st (ai bB rfl T3 (by decide) rfl) ?_
 refine st (ld1 T3 rfl BN hc) ?_
 refine st (eql rfl rfl) ?_
 refine en fun a w e' hf=>?_
 replace e:=e.tr e'
 replace B3:=B3.ext e'
 replace BN:=BN.ext e'
 refine ae hf rfl (by decide) fun a hf=>?_
 refine aa ?_
 refine aj ?_
 refine al rfl hf rfl ?_
 rintro _ rfl
 exact⟨_,rfl,e,rfl⟩

theorem xz {G G2:Nat→Prop}(t:List (Int×BS))(v:Value)(W:World)(h:(Dv aL G t).p v W)(hG:∀b,G2 b→b<W.heap.size)(hl:t.length≤4096)(hr:Rng t) :
  Calls Tryz.prog 90 #[v] W (Post (Dv (slE (slE ap)) G2 (dP t)) W):=by
 refine enter (args:=[v]) (As:=[Dv aL (GB W G) t]) Tryz.func90 rfl Tryz.ntmps90 (Nat.le_of_ble_eq_true rfl) ?_ (fun a hf=>?_) (Nat.le_of_ble_eq_true rfl)
 rotate_left
 dsimp only[params,Nat.reduceAdd] at hf
 rotate_right
 ·exact arg1 (Dv.toB h)
 have e:=Ext.rfl' W
 refine seq ?_
 refine ah ?_
 refine ae hf rfl (by decide) fun a hf=>?_
 refine aa ?_
 refine seq ?_
 refine ac 2 hf (by decide +kernel) ?_
 refine st (mv rfl) ?_
 refine st (ay U23 (isR rfl)) ?_
 refine en fun a w e' hf=>?_
 replace e:=e.tr e'
 clear e'
 refine jv U97 I63 rfl hf (by decide) rfl (by omega) (by decide) fun a b8 w e' hb8 hs8 B8 hf=>?_
 have hle8:=Nat.le_trans e.size (Nat.le_of_eq hb8.symm)
 replace e:=e.tr e'
 refine ae hf rfl (by decide) fun a hf=>?_
 refine aa ?_
 have HR:Rows 3 W.heap.size G2 w b8 (bT t 0) (List.replicate t.length (.slice none 0 0)):=by rw[pi];exact Rows.nil e.size hG
 have hlen:(List.replicate t.length (Value.slice none 0 0)).length=t.length:=by simp
 repeat refine seq ?_
 refine ac 3 hf (by decide +kernel) ?_
 refine st (mv rfl) ?_
 refine st (ay U23 (isR rfl)) ?_
 refine st (mv rfl) ?_
 refine en fun a w e' hf=>?_
 replace e:=e.tr e'
 replace B8:=B8.ext e'
 replace HR:=HR.ext e'
 refine aa ?_
 replace hf:=hf.kp [3,9,10,11]
 refine blk (aG (fun r0 a w=>∃(k:Nat) (vs:List Value),r0=t.length - k∧k≤t.length∧Fr 33 a w [(3,E (.slice (some ⟨b8,0,none⟩) t.length t.length)),(9,Dv aL (GB W G) t),(10,E (I (t.length:Nat))),(11,E (I k))]∧Ext W w∧Blk w b8 vs.toArray 63∧vs.length=t.length∧Rows 3 W.heap.size G2 w b8 (bT t k) vs) t.length ⟨0,_,rfl,by omega,hf,e,B8,hlen,HR⟩ ?_)
 clear hf e;try clear B8;try clear hlen;try clear HR
 rintro r0 a w ⟨k,vs,rfl,hk,hf,e,B8,hlen,HR⟩
 refine seq ?_
 refine ac 1 hf (by decide +kernel) ?_
 refine st (lss rfl rfl) ?_
 refine en fun a w e' hf=>?_
 replace e:=e.tr e'
 replace B8:=B8.ext e'
 replace HR:=HR.ext e'
 refine aa ?_
 refine seq ?_
 refine ifc hf rfl (fun hc=>ak ?_) (fun hc=>aF ?_)
 rotate_left
 rotate_left
 ·have hlt:k<t.length:=by have:=of_decide_eq_true hc;(try dsimp only at this);omega
  clear hc
  replace hf:=hf.kp [3,9,10,11]
  refine seq ?_
  refine blk ?_
  have hx:=cX hlt
  have hrk:=hr k hlt
  refine seq ?_
  refine ah ?_
  refine ar hf (by decide) (mv rfl) fun a w e' hf=>?_
  replace e:=e.tr e'
  replace B8:=B8.ext e'
  replace HR:=HR.ext e'
  clear e'
  refine ar hf (by decide) (az U23 S59 (isR rfl) rfl (by omega) (hx)) fun a w e' hf=>?_
  replace e:=e.tr e'
  replace B8:=B8.ext e'
  replace HR:=HR.ext e'
  clear e'
  refine ar hf (by decide) (fJ T59 (isR rfl)) fun a w e' hf=>?_
  replace e:=e.tr e'
  replace B8:=B8.ext e'
  replace HR:=HR.ext e'
  clear e'
  refine aJ I59 hf (by decide) fun a b5 w e' hb5 hs5 B5 hf=>?_
  have hle5:=Nat.le_trans e.size (Nat.le_of_eq hb5.symm)
  have ne5_HR:=HR.ne_new hb5
  have lt5_B8:=B8.lt
  replace e:=e.tr e'
  replace B8:=B8.ext e'
  replace HR:=HR.ext e'
  refine ae hf rfl (by decide) fun a hf=>?_
  haveI hinr:∀G0,InR (GB W G0) (some b5):=fun G0=>InR.gb (by omega)
  refine aD T59 hf rfl rfl (gq _) B5 rfl (eY _) fun w hg hsz B5 hf=>?_
  replace e:=e.gr hg (by omega)
  replace B8:=B8.gr hg (by omega)
  replace HR:=HR.gr hg (by assumption)
  clear hg
  refine aa ?_
  refine seq ?_
  refine ac 3 hf (by decide +kernel) ?_
  refine st (ai U59 rfl T3 (by decide) rfl) ?_
  refine st (ld1 T3 rfl B5 (cK _)) ?_
  refine st (neq rfl rfl) ?_
  refine en fun a w e' hf=>?_
  replace e:=e.tr e'
  replace B8:=B8.ext e'
  replace HR:=HR.ext e'
  replace B5:=B5.ext e'
  refine aa ?_
  refine ifc hf rfl (fun hb=>?_) (fun hb=>?_)
  ·have hne:(bg t k).1 ≠ -1:=by simpa using hb
   obtain⟨p,hp⟩:∃p:Nat,(bg t k).1=(p:Int):=⟨(bg t k).1.toNat,by omega⟩
   have hpl:p<t.length:=by omega
   have hvp:vs[p]?=some (vs[p]'(by omega)):=by simp
   obtain⟨u,hu⟩:∃u,u=vs[p]'(by omega):=⟨_,rfl⟩
   rw[← hu] at hvp
   obtain⟨Ho,hob⟩:=HR.at' p u _ hvp (iA hpl)
   have n5:u.ownBlock≠some b5:=ne5_HR p u hvp
   have hsel:=ek (fun i=>decide ((bg t i).1=(p:Int))) k
   haveI hin:∀G0,InR (GB W G0) u.ownBlock:=OwR.inGB Ho (Nat.le_refl _)
   replace hf:=hf.kp [3,4,5,9,10,11]
   have h8:=B8.lt
   refine hU 12 10 u.ownBlock (by decide) Mix.mix hf (by decide +kernel) ?_
   refine xm (fun w1 h1=>mv rfl) ?_
   refine xm (fun w1 h1=>ai U59 rfl T3 (by decide) rfl) ?_
   refine xm (fun w1 h1=>(ld1 T3 rfl (B5.gro h1 n5) (cK _)).eq (congrArg (Value.int .i64) hp)) ?_
   refine xm (fun w1 h1=>mv rfl) ?_
   refine xm (fun w1 h1=>ai U59 rfl T3 (by decide) rfl) ?_
   refine xm (fun w1 h1=>(ld1 T3 rfl (B5.gro h1 n5) (cK _)).eq (congrArg (Value.int .i64) hp)) ?_
   refine xm (fun w1 h1=>idxS U97 S63 rfl rfl (by omega)) ?_
   refine xm (fun w1 h1=>ld1 T63 rfl (B8.gro h1 hob) (mA hvp)) ?_
   refine xm (fun w1 h1=>mv rfl) ?_
   refine xm (fun w1 h1=>br U63 I3 rfl (by decide) rfl (fun b hb=>Nat.lt_of_lt_of_le (Ho.avs b hb) h1.size) (isI rfl)) ?_
   refine xx (hY U63 I3 rfl rfl rfl Ho rfl (by simp only[List.length_singleton,cc];omega) (by simp only[List.length_singleton,cc,maxLen];omega)) ?_
   refine xn (fun w1 h1=>idxS U97 S63 rfl rfl (by omega)) ?_
   refine xe fun a w hg hf=>?_
   obtain⟨v',⟨Hn,hat⟩,hf⟩:=hf.fix 29 rfl
   replace e:=e.gro hg (Ho.row (Nat.le_refl _))
   replace HR:=HR.upd hvp hg Hn hat h8
   replace B8:=B8.gro hg hob
   have hone:=Hn.one
   have hbo:=HR.ne_bo
   clear Ho Hn hg hat B5
   rw[← pk hp hpl] at HR
   replace hf:=hf.kp [3,9,10,11,29,30]
   haveI hinr:∀G0,InR (GB W G0) (some b8):=fun G0=>InR.gb (by omega)
   refine aP T63 hf rfl rfl hone B8 (by simp;omega) fun w hg hsz B8 hf=>?_
   replace e:=e.gr hg (by omega)
   replace HR:=HR.gr hg hbo
   rw[mz] at B8
   refine aa ?_
   simp only[Exit.then,Exit.inBlock,↓reduceIte]
   refine ac 1 hf (by decide +kernel) ?_
   refine st ((add rfl rfl (by omega)).eq (congrArg (Value.int .i64) (show (k:Int)+1=((k+1:Nat):Int) from rfl))) ?_
   refine en fun a w e' hf=>?_
   replace e:=e.tr e'
   replace B8:=B8.ext e'
   replace HR:=HR.ext e'
   clear e'
   refine ar hf (by decide) (mv rfl) fun a w e' hf=>?_
   replace e:=e.tr e'
   replace B8:=B8.ext e'
   replace HR:=HR.ext e'
   refine aa ?_
   replace hf:=hf.kp [3,9,10,11]
   refine⟨_,?_,k+1,vs.set p v',rfl,by omega,hf,e,?_⟩
   ·omega
   exact⟨B8,by simpa using hlen,HR⟩
  ·have hne:(bg t k).1 = -1:=by simpa using hb
   refine ak ?_
   simp only[Exit.then,Exit.inBlock,↓reduceIte]
   refine ac 1 hf (by decide +kernel) ?_
   refine st ((add rfl rfl (by omega)).eq (congrArg (Value.int .i64) (show (k:Int)+1=((k+1:Nat):Int) from rfl))) ?_
   refine en fun a w e' hf=>?_
   replace e:=e.tr e'
   replace B5:=B5.ext e'
   replace B8:=B8.ext e'
   replace HR:=HR.ext e'
   clear e'
   refine ar hf (by decide) (mv rfl) fun a w e' hf=>?_
   replace e:=e.tr e'
   replace B5:=B5.ext e'
   replace B8:=B8.ext e'
   replace HR:=HR.ext e'
   refine aa ?_
   replace hf:=hf.kp [3,9,10,11]
   refine⟨_,?_,k+1,vs,rfl,by omega,hf,e,?_⟩
   ·omega
   exact⟨B8,hlen,by rw[pj hne];exact HR⟩
 ·obtain rfl:k=t.length:=by have:=of_decide_eq_false hc;(try dsimp only at this);omega
  clear hc
  simp only[Exit.then,Exit.inBlock,↓reduceIte]
  refine seq ?_
  refine ac 1 hf (by decide +kernel) ?_
  refine st (mv rfl) ?_
  refine en fun a w e' hf=>?_
  replace e:=e.tr e'
  replace B8:=B8.ext e'
  replace HR:=HR.ext e'
  refine ae hf rfl (by decide) fun a hf=>?_
  refine aa ?_
  have hd:=HR.dv B8 (fun hg=>by have:=hG _ hg;omega) (Nat.le_of_eq (gI t _))
  rw[gI] at hd
  refine aj ?_
  refine al rfl hf rfl ?_
  rintro _ rfl
  exact⟨_,rfl,e,hd⟩
theorem xA {G G2:Nat→Prop}(t:List (Int×BS))(f:Nat)(v:Value)(W:World)(h:(Dv aL G t).p v W)(hG:∀b,G2 b→b<W.heap.size)(hl:t.length≤4096)
  (hd:Rng t→(rootN t).length=1→Dp t f) (hr:Rng t) (hc:bZ t f=0) :
  Calls Tryz.prog 42 #[v] W (Post (Dv (slE (slE ap)) G2 (dP t)) W):=by
 refine enter (args:=[v]) (As:=[Dv aL G t]) Tryz.func42 rfl Tryz.ntmps42 (Nat.le_of_ble_eq_true rfl) ?_ (fun a hf=>?_) (Nat.le_of_ble_eq_true rfl)
 rotate_left
 dsimp only[params,Nat.reduceAdd] at hf
 rotate_right
 ·exact arg1 h
 have e:=Ext.rfl' W
 refine seq ?_
 refine ah ?_
 refine ae hf rfl (by decide) fun a hf=>?_
 refine aa ?_
 repeat refine seq ?_
 refine ac 3 hf (by decide +kernel) ?_
 refine st (mv rfl) ?_
 refine st (aw gV rfl (fun v w he h=>iD t f _ w h hl hd)) ?_
 refine st ((neq rfl rfl).eq (congrArg Value.bool (show (bZ t f != 0)=false from by rw[hc];rfl))) ?_
 refine en fun a w e' hf=>?_
 replace e:=e.tr e'
 refine aa ?_
 refine ifc hf rfl (fun h=>by cases h) (fun _=>?_)
 refine ak ?_
 simp only[Exit.then,Exit.inBlock,↓reduceIte]
 refine seq ?_
 refine ac 2 hf (by decide +kernel) ?_
 refine st (mv rfl) ?_
 refine st (aw lV rfl (fun v w he h=>xz (G2:=G2) t _ w h (fun b hb=>Nat.lt_of_lt_of_le (hG b hb) (Nat.le_trans e.size he.size)) hl hr)) ?_
 refine en fun a w e' hf=>?_
 replace e:=e.tr e'
 refine ae hf rfl (by decide) fun a hf=>?_
 refine aa ?_
 refine aj ?_
 refine al rfl hf rfl ?_
 intro v hv
 exact⟨_,rfl,e,hv⟩

theorem xB {G:Nat→Prop}(t:List (Int×BS))(v:Value)(W:World)(h:(Dv (slE bR) G t).p v W)(hl:t.length≤4096) :
  Calls Tryz.prog 89 #[v] W (Post (OwA bR 59 W.heap.size G0 t) W):=by
 have hG:∀b,G0 b→b<W.heap.size:=fun b hb=>hb.elim
 have HV:(Dv (slE bR) (GB W G0) t).p v W:=Dv.toB (Dv.weak h fun b _ hb=>hb.elim)
 have hv:∃ao n c,v=.slice ao n c∧(ao=none→t=[]∧v=.slice none 0 0):=by
  rcases Dv.sl.1 h with ⟨rfl,rfl⟩|⟨ad,cap,cs,rfl,_⟩
  ·exact⟨none,0,0,rfl,fun _=>⟨rfl,rfl⟩⟩
  ·exact⟨_,_,_,rfl,fun h=>by cases h⟩
 obtain⟨ao,n,c,hv1,hv2⟩:=hv
 refine enter (args:=[v]) (As:=[E v]) Tryz.func89 rfl Tryz.ntmps89 (Nat.le_of_ble_eq_true rfl) ?_ (fun a hf=>?_) (Nat.le_of_ble_eq_true rfl)
 rotate_left
 dsimp only[params,Nat.reduceAdd] at hf
 rotate_right
 ·exact arg1 rfl
 have e:=Ext.rfl' W
 rw[hv1] at hf
 refine seq ?_
 refine ah ?_
 refine ae hf rfl (by decide) fun a hf=>?_
 refine aa ?_
 repeat refine seq ?_
 refine ac 2 hf (by decide +kernel) ?_
 refine st (mv rfl) ?_
 refine st (hZ U23 rfl) ?_
 refine en fun a w e' hf=>?_
 replace HV:=Dv.ex HV e'
 replace e:=e.tr e'
 refine aa ?_
 refine ifc hf rfl (fun hb=>?_) (fun hb=>?_)
 ·have hn:ao=none:=by cases ao <;> simp at hb ⊢
  obtain⟨h1,_⟩:=hv2 hn
  subst h1
  refine seq ?_
  refine ah ?_
  refine ae hf rfl (by decide) fun a hf=>?_
  refine aa ?_
  refine aj ?_
  simp only[Exit.then,Exit.inBlock]
  refine al rfl hf rfl ?_
  rintro _ rfl
  exact⟨_,rfl,e,(OwR.nil bR _ e.size hG)⟩
 ·refine ak ?_
  simp only[Exit.then,Exit.inBlock,↓reduceIte]
  refine seq ?_
  refine ah ?_
  refine gm W.heap.size G0 bR U23 S59 hf (by decide) e.size hG fun a v w e' hov Ho hf=>?_
  replace HV:=Dv.ex HV e'
  replace e:=e.tr e'
  clear e'
  refine ar hf (by decide) (mv rfl) fun a w e' hf=>?_
  replace HV:=Dv.ex HV e'
  replace e:=e.tr e'
  replace Ho:=Ho.ext e'
  clear e'
  haveI hin:∀G0,InR (GB W G0) _:=OwR.inGB (W:=W) Ho (Nat.le_refl _)
  refine bs U23 I59 rfl rfl hf (by decide) rfl Ho (isE rfl (by rw[← hv1];exact Dv.weak HV fun b _ hb=>hb.elim (fun h=>h.elim) (fun h=>.inr (Ho.row (Nat.le_refl _) b h)))) (by simp only[List.length_nil];omega) (by simp only[List.length_nil,maxLen];omega) fun a v w hg hat Hn hf=>?_
  replace e:=e.gro hg (Ho.row (W:=W) (Nat.le_refl _))
  replace Ho:=Hn;clear Hn hg hat hin
  refine ae hf rfl (by decide) fun a hf=>?_
  refine aa ?_
  refine aj ?_
  refine al rfl hf rfl ?_
  rintro _ rfl
  exact⟨_,rfl,e,(by have:=Ho;rw[List.nil_append] at this;exact this)⟩


theorem OwR.lower {α:Type}{e:Enc α}{ty:TypeId}{B B':Nat}{G:Nat→Prop}{w:World}{xs:List α}{v:Value}(h:OwR e ty B G w xs v)(hB:B'≤B)(hG:∀b,G b→b<B'):OwR e ty B' G w xs v:=by
 obtain⟨cs,h1,h2⟩:=h.own
 refine⟨⟨cs,⟨h1.1,?_⟩,h2⟩,hG,Nat.le_trans hB h.base⟩
 rcases h1.2 with h|⟨g,cap,cur,a1,a2,a3⟩
 ·exact .inl h
 ·exact .inr ⟨g,cap,cur,a1,Nat.le_trans hB a2,a3⟩
theorem xC {G:Nat→Prop}(B:Nat)(t:List (Int×BS))(v:Value)(W:World)(h:(Dv aL G t).p v W)(hl:t.length≤4096)(hB:B≤W.heap.size) :
  Calls Tryz.prog 41 #[v] W (Post (OwA bR 59 B G0 t) W):=by
 refine enter (args:=[v]) (As:=[Dv aL G t]) Tryz.func41 rfl Tryz.ntmps41 (Nat.le_of_ble_eq_true rfl) ?_ (fun a hf=>?_) (Nat.le_of_ble_eq_true rfl)
 rotate_left
 dsimp only[params,Nat.reduceAdd] at hf
 rotate_right
 ·exact arg1 h
 have e:=Ext.rfl' W
 refine seq ?_
 refine ah ?_
 refine ae hf rfl (by decide) fun a hf=>?_
 refine aa ?_
 refine seq ?_
 refine ac 2 hf (by decide +kernel) ?_
 refine st (mv rfl) ?_
 refine st (aw (A:=OwA bR 59 B G0 t) lU rfl (fun v w he h=>Calls.mono (xB _ _ w h hl) (fun en w' ⟨u,h1,h2,h3⟩=>⟨u,h1,h2,OwR.lower (B':=B) h3 (Nat.le_trans hB (Nat.le_trans e.size he.size)) (fun b hb=>hb.elim)⟩))) ?_
 refine en fun a w e' hf=>?_
 replace e:=e.tr e'
 refine ae hf rfl (by decide) fun a hf=>?_
 refine aa ?_
 refine aj ?_
 refine al rfl hf rfl ?_
 intro v hv
 exact⟨_,rfl,e,hv⟩
structure FB (w:World)(bF bn bm bf n:Nat)(tv:Value):Prop where
 f:Blk w bF #[tv,.slice (some ⟨bn,0,none⟩) n n,.map (some bm)] 82
 p:Blk w bf #[.pointer (some ⟨bF,0,none⟩)] 27

theorem xD (xs:List RB)(V:aV xs)(hl:xs.length≤4096)(G:Nat→Prop)(nd:Nat→Nd)(bF bn bm bf b:Nat)(tv:Value)(cells:Array Value)(W:World)(hG:∀c,G c→c<W.heap.size)(hGn:G bn)(hbl:b<xs.length)(FBx:FB W bF bn bm bf xs.length tv)
  (BN:Blk W bn cells 100) (HS:NS xs.length G nd cells W) (hk:(nd b).1=kids xs (b:Nat)) (hkid:∀i,i<xs.length→up xs i=(b:Int)→(nd i).2.2.1=bu xs (i:Nat)) :
  Calls Tryz.prog 48 #[I (b:Nat),.pointer (some ⟨bf,0,none⟩)] W (fun e w'=>∃v,e=.returned v∧Chg (fun c=>c=bn) W w'∧Any.p v w' ∧
   ∃cells',Blk w' bn cells' 100∧NS xs.length G (un nd b (kids xs (b:Nat),gO xs (b:Nat),bu xs (b:Nat),dU xs (b:Nat),(nd b).2.2.2.2)) cells' w'):=by
 obtain⟨BF,Bf⟩:=FBx
 have hkl:=pQ xs (b:Nat)
 have nFn:bF≠bn:=fun h=>by
  have h1:=BF;have h2:=BN
  rw[h] at h1;unfold Blk at h1 h2;rw[h1] at h2;simp at h2
 have nfn:bf≠bn:=fun h=>by
  have h1:=Bf;have h2:=BN
  rw[h] at h1;unfold Blk at h1 h2;rw[h1] at h2;simp at h2
 have lF:=BF.lt
 have lf:=Bf.lt
 have ln:=BN.lt
 replace HS:=HS.toB
 haveI hin:InR (GB W G) (some bn):=⟨fun c hc=>by cases hc;exact .inl hGn⟩
 have hGB:GB W G bn:=.inl hGn
 refine enter (args:=[I (b:Nat),.pointer (some ⟨bf,0,none⟩)]) (As:=[E (I (b:Nat)),E (.pointer (some ⟨bf,0,none⟩))]) Tryz.func48 rfl Tryz.ntmps48 (Nat.le_of_ble_eq_true rfl) ?_ (fun a hf=>?_) (Nat.le_of_ble_eq_true rfl)
 rotate_left
 dsimp only[params,Nat.reduceAdd] at hf
 rotate_right
 ·exact arg2 rfl rfl
 have c:=Chg.rfl' (fun c=>c=bn) W
 have hNW:=Nat.le_refl W.heap.size
 refine seq ?_
 refine ah ?_
 refine ar hf (by decide) (ld1 T27 rfl (by assumption) rfl) fun a w e' hf=>?_
 replace hNW:=Nat.le_trans hNW e'.size
 replace HS:=HS.ext e'
 replace c:=c.ext e'
 replace BF:=BF.ext e'
 replace Bf:=Bf.ext e'
 replace BN:=BN.ext e'
 clear e'
 refine ar hf (by decide) (aU rfl) fun a w e' hf=>?_
 replace hNW:=Nat.le_trans hNW e'.size
 replace HS:=HS.ext e'
 replace c:=c.ext e'
 replace BF:=BF.ext e'
 replace Bf:=Bf.ext e'
 replace BN:=BN.ext e'
 clear e'
 refine ar hf (by decide) (ai U82 rfl T79 (by decide) rfl) fun a w e' hf=>?_
 replace hNW:=Nat.le_trans hNW e'.size
 replace HS:=HS.ext e'
 replace c:=c.ext e'
 replace BF:=BF.ext e'
 replace Bf:=Bf.ext e'
 replace BN:=BN.ext e'
 clear e'
 refine ar hf (by decide) (ld1 T79 rfl (by assumption) rfl) fun a w e' hf=>?_
 replace hNW:=Nat.le_trans hNW e'.size
 replace HS:=HS.ext e'
 replace c:=c.ext e'
 replace BF:=BF.ext e'
 replace Bf:=Bf.ext e'
 replace BN:=BN.ext e'
 clear e'
 refine ar hf (by decide) (mv rfl) fun a w e' hf=>?_
 replace hNW:=Nat.le_trans hNW e'.size
 replace HS:=HS.ext e'
 replace c:=c.ext e'
 replace BF:=BF.ext e'
 replace Bf:=Bf.ext e'
 replace BN:=BN.ext e'
 clear e'
 refine ar hf (by decide) (idxS U79 ee rfl rfl (by omega)) fun a w e' hf=>?_
 replace hNW:=Nat.le_trans hNW e'.size
 replace HS:=HS.ext e'
 replace c:=c.ext e'
 replace BF:=BF.ext e'
 replace Bf:=Bf.ext e'
 replace BN:=BN.ext e'
 clear e'
 refine aJ qy hf (by decide) fun a b3 w e' hb3 hs3 B3 hf=>?_
 have lo3_hNW:=Nat.le_trans hNW (Nat.le_of_eq hb3.symm)
 have lt3_BF:=BF.lt
 have lt3_Bf:=Bf.lt
 have lt3_BN:=BN.lt
 replace hNW:=Nat.le_trans hNW e'.size
 replace HS:=HS.ext e'
 replace c:=c.ext e'
 replace BF:=BF.ext e'
 replace Bf:=Bf.ext e'
 replace BN:=BN.ext e'
 clear e'
 haveI hinr:∀G0,InR (GB W G0) (some b3):=fun G0=>InR.gb (by omega)
 refine aP cS hf rfl rfl rfl B3 (by decide) fun w hg hsz B3 hf=>?_
 replace hNW:=Nat.le_trans hNW (Nat.le_of_eq hsz.symm)
 replace HS:=HS.gr hg (by first|exact .inl hGn|exact .inr (by omega))
 replace c:=c.gr hg (by first|exact .inl rfl|exact .inr (by omega))
 replace BF:=BF.gr hg (by omega)
 replace Bf:=Bf.gr hg (by omega)
 replace BN:=BN.gr hg (by omega)
 clear hg
 refine aa ?_
 have B3':Blk w b3 #[.pointer (some ⟨bn,0+b * 5,none⟩)] 107:=B3
 replace B3:=B3'
 clear B3'
 have hle3:W.heap.size≤b3:=by omega
 have n3:b3≠bn∧b3≠bF∧b3≠bf:=by omega
 replace hf:=hf.kp [0,1,3]
 have hb5:∀f,f<5→0+b * 5+f<cells.size:=fun f hf=>HS.bd hbl hf
 refine seq ?_
 refine tp 5 4 (some bn) (fun w=>Blk w bn (cells.setIfInBounds (0+b * 5+2) (I 1)) 100) (fun w w1 k h=>h.ext k) (by decide) Mix.mix hf (by decide +kernel) ?_
 refine ym (fun w1 h1=>ld1 cS rfl (B3.gr h1 n3.1) rfl) ?_
 refine ym (fun w1 h1=>ld1 cS rfl (B3.gr h1 n3.1) rfl) ?_
 refine ym (fun w1 h1=>aU rfl) ?_
 refine ym (fun w1 h1=>ai bB rfl T3 (by decide) rfl) ?_
 refine yx (tq T3 rfl rfl rfl BN (hb5 2 (by decide))) ?_
 refine ye fun a w hg HF hf=>?_
 try dsimp only[push] at hf
 have hszY:=hg.size
 replace hNW:=Nat.le_trans hNW (hg.size)
 replace HS:=HS.gr hg (by first|exact .inl hGn|exact .inr (by omega))
 replace c:=c.gr hg (by first|exact .inl rfl|exact .inr (by omega))
 replace BF:=BF.gr hg (by omega)
 replace Bf:=Bf.gr hg (by omega)
 replace B3:=B3.gr hg (by omega)
 replace BN:=HF
 clear HF hg
 refine ar hf (by decide) (aU rfl) fun a w e' hf=>?_
 replace hNW:=Nat.le_trans hNW e'.size
 replace HS:=HS.ext e'
 replace c:=c.ext e'
 replace BF:=BF.ext e'
 replace Bf:=Bf.ext e'
 replace BN:=BN.ext e'
 replace B3:=B3.ext e'
 clear e'
 refine ar hf (by decide) (ai bB rfl T3 (by decide) rfl) fun a w e' hf=>?_
 replace hNW:=Nat.le_trans hNW e'.size
 replace HS:=HS.ext e'
 replace c:=c.ext e'
 replace BF:=BF.ext e'
 replace Bf:=Bf.ext e'
 replace BN:=BN.ext e'
 replace B3:=B3.ext e'
 clear e'
 refine aP T3 hf rfl rfl rfl BN (by rw[Array.size_setIfInBounds];exact hb5 3 (by decide)) fun w hg hsz BN hf=>?_
 replace hNW:=Nat.le_trans hNW (Nat.le_of_eq hsz.symm)
 replace HS:=HS.gr hg (by first|exact .inl hGn|exact .inr (by omega))
 replace c:=c.gr hg (by first|exact .inl rfl|exact .inr (by omega))
 replace BF:=BF.gr hg (by omega)
 replace Bf:=Bf.gr hg (by omega)
 replace B3:=B3.gr hg (by omega)
 clear hg
 refine aa ?_
 have HS1:NS xs.length (GB W G) (un nd b (kids xs (b:Nat),(nd b).2.1,bU xs b 0,bV xs (b:Nat) 0,(nd b).2.2.2.2)) ((cells.setIfInBounds (0+b * 5+2) (I 1)).setIfInBounds (0+b * 5+3) (I (-1))) w:=by
  rw[← hk]
  have h0:NS xs.length (GB W G) (un nd b ((nd b).1,(nd b).2.1,(nd b).2.2.1,(nd b).2.2.2.1,(nd b).2.2.2.2)) cells w:=by rw[show ((nd b).1,(nd b).2.1,(nd b).2.2.1,(nd b).2.2.2.1,(nd b).2.2.2.2)=nd b from rfl,pX];exact HS
  exact (h0.size' hbl 1).heavy' hbl (-1)
 obtain⟨cells1,BN1,HS2⟩:∃cells1,Blk w bn cells1 100∧NS xs.length (GB W G) (un nd b (kids xs (b:Nat),(nd b).2.1,bU xs b 0,bV xs (b:Nat) 0,(nd b).2.2.2.2)) cells1 w:=⟨_,BN,HS1⟩
 clear BN HS HS1 hb5
 replace BN:=BN1
 replace HS:=HS2
 clear BN1 HS2
 replace hf:=hf.kp [0,1,3]
 obtain⟨kv,hkv,HK⟩:=HS.kids_at hbl
 rw[da] at HK
 repeat refine seq ?_
 refine ac 6 hf (by decide +kernel) ?_
 refine st (ld1 cS rfl B3 rfl) ?_
 refine st (aU rfl) ?_
 refine st (ai bB rfl T63 (by decide) rfl) ?_
 refine st ((ld1 T63 rfl BN hkv).as (A:=Dv (slE ap) (GB W G) (kids xs (b:Nat))) HK) ?_
 refine st (ay U63 (isR rfl)) ?_
 refine st (mv rfl) ?_
 refine en fun a w e' hf=>?_
 replace hNW:=Nat.le_trans hNW e'.size
 replace HS:=HS.ext e'
 replace c:=c.ext e'
 replace BF:=BF.ext e'
 replace Bf:=Bf.ext e'
 replace BN:=BN.ext e'
 replace B3:=B3.ext e'
 refine aa ?_
 clear hkv HK
 replace hf:=hf.kp [0,1,3,21,22,23]
 refine blk (aG (fun r0 a w=>∃(k:Nat) (cells:Array Value),r0=(kids xs (b:Nat)).length - k∧k≤(kids xs (b:Nat)).length∧Fr 84 a w [(0,E (I (b:Nat))),(1,E (.pointer (some ⟨bf,0,none⟩))),(3,E (.pointer (some ⟨b3,0,none⟩))),(21,Dv (slE ap) (GB W G) (kids xs (b:Nat))),(22,E (I ((kids xs (b:Nat)).length:Nat))),(23,E (I k))] ∧
  Chg (fun c=>c=bn) W w∧Blk w b3 #[.pointer (some ⟨bn,0+b * 5,none⟩)] 107∧Blk w bF #[tv,.slice (some ⟨bn,0,none⟩) xs.length xs.length,.map (some bm)] 82∧Blk w bf #[.pointer (some ⟨bF,0,none⟩)] 27∧Blk w bn cells 100 ∧
  NS xs.length (GB W G) (un nd b (kids xs (b:Nat),(nd b).2.1,bU xs b k,bV xs (b:Nat) k,(nd b).2.2.2.2)) cells w∧W.heap.size≤w.heap.size) (kids xs (b:Nat)).length ⟨0,cells1,rfl,by omega,hf,c,B3,BF,Bf,BN,HS,hNW⟩ ?_)
 clear hf c B3 BF Bf BN HS hNW
 rintro r0 a w ⟨k,cells,rfl,hkk,hf,c,B3,BF,Bf,BN,HS,hNW⟩
 refine seq ?_
 refine ac 1 hf (by decide +kernel) ?_
 refine st (lss rfl rfl) ?_
 refine en fun a w e' hf=>?_
 replace hNW:=Nat.le_trans hNW e'.size
 replace HS:=HS.ext e'
 replace c:=c.ext e'
 replace BF:=BF.ext e'
 replace Bf:=Bf.ext e'
 replace BN:=BN.ext e'
 replace B3:=B3.ext e'
 refine aa ?_
 refine seq ?_
 refine ifc hf rfl (fun hc=>ak ?_) (fun hc=>aF ?_)
 ·have hlt:k<(kids xs (b:Nat)).length:=by have:=of_decide_eq_true hc;omega
  clear hc
  obtain⟨i,i1,i2,i3⟩:=pP hlt
  have hib:i≠b:=fun h=>by subst h;have:=eK V i1 i2;omega
  have hz:=pO V hbl k
  have hz':=pO V hbl (k+1)
  have hg0:=em hlt
  have hs0:=xo hlt
  have hh0:=pR hlt
  rw[i3] at hg0 hs0 hh0
  refine seq ?_
  refine blk ?_
  replace hf:=hf.kp [0,1,3,21,22,23]
  refine seq ?_
  refine ac 2 hf (by decide +kernel) ?_
  refine st (az U63 S3 (isR rfl) rfl (by omega) (hg0)) ?_
  refine st (ldI T3 (isR rfl)) ?_
  refine en fun a w e' hf=>?_
  replace hNW:=Nat.le_trans hNW e'.size
  replace HS:=HS.ext e'
  replace c:=c.ext e'
  replace BF:=BF.ext e'
  replace Bf:=Bf.ext e'
  replace BN:=BN.ext e'
  replace B3:=B3.ext e'
  refine ae hf rfl (by decide) fun a hf=>?_
  refine aa ?_
  replace hf:=hf.kp [0,1,3,5,21,22,23]
  have f2:cells[0+b * 5+2]?=some (I (bU xs b k)):=by have:=HS.size_at hbl;rwa [da] at this
  have fi:cells[0+i * 5+2]?=some (I (bu xs (i:Nat))):=by have:=HS.size_at i1;rwa [ft hib,hkid i i1 i2] at this
  have hb2:=HS.bd hbl (f:=2) (by decide)
  refine seq ?_
  refine reg 15 Mix.mix hf (by decide +kernel) ?_
  refine st (ld1 cS rfl B3 rfl) ?_
  refine st (aU rfl) ?_
  refine st (ai bB rfl T3 (by decide) rfl) ?_
  refine st (ld1 T3 rfl BN f2) ?_
  refine st (ld1 T27 rfl (by assumption) rfl) ?_
  refine st (aU rfl) ?_
  refine st (ai U82 rfl T79 (by decide) rfl) ?_
  refine st (ld1 T79 rfl (by assumption) rfl) ?_
  refine st (mv rfl) ?_
  refine st (idxS U79 ee rfl rfl (by omega)) ?_
  refine st (ai bB rfl T3 (by decide) rfl) ?_
  refine st (ld1 T3 rfl BN fi) ?_
  refine st ((add rfl rfl (by omega)).eq (congrArg (Value.int .i64) (show bU xs b k+bu xs (i:Nat)=bU xs b (k+1) from hs0.symm))) ?_
  refine st (aU rfl) ?_
  refine st (ai bB rfl T3 (by decide) rfl) ?_
  refine en fun a w e' hf=>?_
  replace hNW:=Nat.le_trans hNW e'.size
  replace HS:=HS.ext e'
  replace c:=c.ext e'
  replace BF:=BF.ext e'
  replace Bf:=Bf.ext e'
  replace BN:=BN.ext e'
  replace B3:=B3.ext e'
  clear e'
  refine aP T3 hf rfl rfl rfl BN (by exact hb2) fun w hg hsz BN hf=>?_
  replace hNW:=Nat.le_trans hNW (Nat.le_of_eq hsz.symm)
  replace HS:=HS.gr hg (by first|exact .inl hGn|exact .inr (by omega))
  replace c:=c.gr hg (by first|exact .inl rfl|exact .inr (by omega))
  replace BF:=BF.gr hg (by omega)
  replace Bf:=Bf.gr hg (by omega)
  replace B3:=B3.gr hg (by omega)
  clear hg
  refine aa ?_
  have HS1:=HS.size' hbl (bU xs b (k+1))
  obtain⟨cells1,BN1,HS2⟩:∃cells1,Blk w bn cells1 100∧NS xs.length (GB W G) (un nd b (kids xs (b:Nat),(nd b).2.1,bU xs b (k+1),bV xs (b:Nat) k,(nd b).2.2.2.2)) cells1 w:=⟨_,BN,HS1⟩
  clear BN HS HS1 f2 fi hb2
  replace BN:=BN1
  replace HS:=HS2
  clear BN1 HS2 cells
  replace hf:=hf.kp [0,1,3,5,21,22,23]
  have f3:cells1[0+b * 5+3]?=some (I (bV xs (b:Nat) k)):=by have:=HS.heavy_at hbl;rwa [da] at this
  have fi:cells1[0+i * 5+2]?=some (I (bu xs (i:Nat))):=by have:=HS.size_at i1;rwa [ft hib,hkid i i1 i2] at this
  have hb3:=HS.bd hbl (f:=3) (by decide)
  obtain⟨c0,hc0⟩:∃c0:Bool,c0=decide (bV xs (b:Nat) k<0∨bu xs (bV xs (b:Nat) k)<bu xs (i:Nat)):=⟨_,rfl⟩
  refine seq ?_
  refine cut (J:=fun a w=>Fr 84 a w [(0,E (I (b:Nat))),(1,E (.pointer (some ⟨bf,0,none⟩))),(3,E (.pointer (some ⟨b3,0,none⟩))),(5,E (I (i:Nat))),(21,Dv (slE ap) (GB W G) (kids xs (b:Nat))),(22,E (I ((kids xs (b:Nat)).length:Nat))),(23,E (I k)),(68,E (B c0))] ∧
   Chg (fun c=>c=bn) W w∧Blk w b3 #[.pointer (some ⟨bn,0+b * 5,none⟩)] 107∧Blk w bF #[tv,.slice (some ⟨bn,0,none⟩) xs.length xs.length,.map (some bm)] 82∧Blk w bf #[.pointer (some ⟨bF,0,none⟩)] 27∧Blk w bn cells1 100 ∧
   NS xs.length (GB W G) (un nd b (kids xs (b:Nat),(nd b).2.1,bU xs b (k+1),bV xs (b:Nat) k,(nd b).2.2.2.2)) cells1 w∧W.heap.size≤w.heap.size) ?_ (fun a w hJ=>?_)
  ·rcases pS k (by omega) with hm|⟨m,m1,m2,m3⟩
   ·have hcT:c0=true:=by rw[hc0];exact decide_eq_true (.inl (by omega))
    rw[hm] at f3
    refine reg 27 Mix.mix hf (by decide +kernel) ?_
    refine st (ld1 cS rfl B3 rfl) ?_
    refine st (aU rfl) ?_
    refine st (ai bB rfl T3 (by decide) rfl) ?_
    refine st (ld1 T3 rfl BN f3) ?_
    refine st ((lss rfl rfl).eq (congrArg Value.bool (show decide ((-1:Int)<0)=true from rfl))) ?_
    refine st (mv rfl) ?_
    refine sn rfl rfl rfl ?_
    refine sn rfl rfl rfl ?_
    refine sn rfl rfl rfl ?_
    refine sn rfl rfl rfl ?_
    refine sn rfl rfl rfl ?_
    refine sn rfl rfl rfl ?_
    refine sn rfl rfl rfl ?_
    refine sn rfl rfl rfl ?_
    refine sn rfl rfl rfl ?_
    refine sn rfl rfl rfl ?_
    refine sn rfl rfl rfl ?_
    refine sn rfl rfl rfl ?_
    refine sn rfl rfl rfl ?_
    refine sn rfl rfl rfl ?_
    refine sn rfl rfl rfl ?_
    refine sn rfl rfl rfl ?_
    refine sn rfl rfl rfl ?_
    refine sn rfl rfl rfl ?_
    refine sn rfl rfl rfl ?_
    refine sn rfl rfl rfl ?_
    refine st (pkT rfl rfl) ?_
    refine en fun a w e' hf=>?_
    replace hNW:=Nat.le_trans hNW e'.size
    replace HS:=HS.ext e'
    replace c:=c.ext e'
    replace BF:=BF.ext e'
    replace Bf:=Bf.ext e'
    replace BN:=BN.ext e'
    replace B3:=B3.ext e'
    refine aa ?_
    replace hf:=hf.kp [0,1,3,5,21,22,23,68]
    rw[hcT]
    exact⟨rfl,hf,c,B3,BF,Bf,BN,HS,hNW⟩
   ·have hmb:m≠b:=fun h=>by subst h;have:=eK V m1 m2;omega
    have hcT:c0=decide (bu xs (m:Nat)<bu xs (i:Nat)):=by
     rw[hc0,m3,decide_eq_decide]
     exact⟨fun h=>h.elim (fun h=>by omega) id,.inr⟩
    rw[m3] at f3
    have fm:cells1[0+m * 5+2]?=some (I (bu xs (m:Nat))):=by have:=HS.size_at m1;rwa [ft hmb,hkid m m1 m2] at this
    refine reg 27 Mix.mix hf (by decide +kernel) ?_
    refine st (ld1 cS rfl B3 rfl) ?_
    refine st (aU rfl) ?_
    refine st (ai bB rfl T3 (by decide) rfl) ?_
    refine st (ld1 T3 rfl BN f3) ?_
    refine st ((lss rfl rfl).eq (congrArg Value.bool (show decide ((m:Int)<0)=false from decide_eq_false (by omega)))) ?_
    refine st (mv rfl) ?_
    refine sy rfl rfl (ld1 T27 rfl (by assumption) rfl) ?_
    refine sy rfl rfl (aU rfl) ?_
    refine sy rfl rfl (ai U82 rfl T79 (by decide) rfl) ?_
    refine sy rfl rfl (ld1 T79 rfl (by assumption) rfl) ?_
    refine sy rfl rfl (mv rfl) ?_
    refine sy rfl rfl (idxS U79 ee rfl rfl (by omega)) ?_
    refine sy rfl rfl (ai bB rfl T3 (by decide) rfl) ?_
    refine sy rfl rfl (ld1 T3 rfl BN fi) ?_
    refine sy rfl rfl (ld1 T27 rfl (by assumption) rfl) ?_
    refine sy rfl rfl (aU rfl) ?_
    refine sy rfl rfl (ai U82 rfl T79 (by decide) rfl) ?_
    refine sy rfl rfl (ld1 T79 rfl (by assumption) rfl) ?_
    refine sy rfl rfl (ld1 cS rfl B3 rfl) ?_
    refine sy rfl rfl (aU rfl) ?_
    refine sy rfl rfl (ai bB rfl T3 (by decide) rfl) ?_
    refine sy rfl rfl (ld1 T3 rfl BN f3) ?_
    refine sy rfl rfl (idxS U79 ee rfl rfl (by omega)) ?_
    refine sy rfl rfl (ai bB rfl T3 (by decide) rfl) ?_
    refine sy rfl rfl (ld1 T3 rfl BN fm) ?_
    refine sy rfl rfl (gtr rfl rfl) ?_
    refine st (pkF rfl rfl) ?_
    refine en fun a w e' hf=>?_
    replace hNW:=Nat.le_trans hNW e'.size
    replace HS:=HS.ext e'
    replace c:=c.ext e'
    replace BF:=BF.ext e'
    replace Bf:=Bf.ext e'
    replace BN:=BN.ext e'
    replace B3:=B3.ext e'
    refine aa ?_
    replace hf:=hf.kp [0,1,3,5,21,22,23,68]
    rw[hcT]
    exact⟨rfl,hf,c,B3,BF,Bf,BN,HS,hNW⟩
  clear hf c B3 BF Bf BN HS hNW
  obtain⟨hf,c,B3,BF,Bf,BN,HS,hNW⟩:=hJ
  simp only[Exit.then]
  refine ifc hf rfl (fun hb=>?_) (fun hb=>?_)
  ·have hst:bV xs (b:Nat) (k+1)=(i:Int):=by
    rw[hh0,fT,if_pos]
    rw[hc0] at hb
    exact of_decide_eq_true hb
   replace hf:=hf.kp [0,1,3,5,21,22,23]
   refine ac 4 hf (by decide +kernel) ?_
   refine st (ld1 cS rfl B3 rfl) ?_
   refine st (mv rfl) ?_
   refine st (aU rfl) ?_
   refine st (ai bB rfl T3 (by decide) rfl) ?_
   refine en fun a w e' hf=>?_
   replace hNW:=Nat.le_trans hNW e'.size
   replace HS:=HS.ext e'
   replace c:=c.ext e'
   replace BF:=BF.ext e'
   replace Bf:=Bf.ext e'
   replace BN:=BN.ext e'
   replace B3:=B3.ext e'
   clear e'
   refine aP T3 hf rfl rfl rfl BN (by exact hb3) fun w hg hsz BN hf=>?_
   replace hNW:=Nat.le_trans hNW (Nat.le_of_eq hsz.symm)
   replace HS:=HS.gr hg (by first|exact .inl hGn|exact .inr (by omega))
   replace c:=c.gr hg (by first|exact .inl rfl|exact .inr (by omega))
   replace BF:=BF.gr hg (by omega)
   replace Bf:=Bf.gr hg (by omega)
   replace B3:=B3.gr hg (by omega)
   clear hg
   refine aa ?_
   have HS1:=HS.heavy' hbl (i:Int)
   obtain⟨cells2,BN1,HS2⟩:∃cells2,Blk w bn cells2 100∧NS xs.length (GB W G) (un nd b (kids xs (b:Nat),(nd b).2.1,bU xs b (k+1),bV xs (b:Nat) (k+1),(nd b).2.2.2.2)) cells2 w:=⟨_,BN,by rw[hst];exact HS1⟩
   clear BN HS HS1 f3 fi hb3
   replace BN:=BN1
   replace HS:=HS2
   clear BN1 HS2
   simp only[Exit.then,Exit.inBlock,↓reduceIte]
   replace hf:=hf.kp [0,1,3,21,22,23]
   refine ac 1 hf (by decide +kernel) ?_
   refine st ((add rfl rfl (by omega)).eq (congrArg (Value.int .i64) (show (k:Int)+1=((k+1:Nat):Int) from rfl))) ?_
   refine en fun a w e' hf=>?_
   replace hNW:=Nat.le_trans hNW e'.size
   replace HS:=HS.ext e'
   replace c:=c.ext e'
   replace BF:=BF.ext e'
   replace Bf:=Bf.ext e'
   replace BN:=BN.ext e'
   replace B3:=B3.ext e'
   clear e'
   refine ar hf (by decide) (mv rfl) fun a w e' hf=>?_
   replace hNW:=Nat.le_trans hNW e'.size
   replace HS:=HS.ext e'
   replace c:=c.ext e'
   replace BF:=BF.ext e'
   replace Bf:=Bf.ext e'
   replace BN:=BN.ext e'
   replace B3:=B3.ext e'
   refine aa ?_
   replace hf:=hf.kp [0,1,3,21,22,23]
   exact⟨(kids xs (b:Nat)).length - (k+1),by omega,k+1,_,rfl,by omega,hf,c,B3,BF,Bf,BN,HS,hNW⟩
  ·have hst:bV xs (b:Nat) (k+1)=bV xs (b:Nat) k:=by
    rw[hh0,fT,if_neg]
    rw[hc0] at hb
    exact of_decide_eq_false hb
   rw[← hst] at HS
   refine ak ?_
   simp only[Exit.then,Exit.inBlock,↓reduceIte]
   replace hf:=hf.kp [0,1,3,21,22,23]
   refine ac 1 hf (by decide +kernel) ?_
   refine st ((add rfl rfl (by omega)).eq (congrArg (Value.int .i64) (show (k:Int)+1=((k+1:Nat):Int) from rfl))) ?_
   refine en fun a w e' hf=>?_
   replace hNW:=Nat.le_trans hNW e'.size
   replace HS:=HS.ext e'
   replace c:=c.ext e'
   replace BF:=BF.ext e'
   replace Bf:=Bf.ext e'
   replace BN:=BN.ext e'
   replace B3:=B3.ext e'
   clear e'
   refine ar hf (by decide) (mv rfl) fun a w e' hf=>?_
   replace hNW:=Nat.le_trans hNW e'.size
   replace HS:=HS.ext e'
   replace c:=c.ext e'
   replace BF:=BF.ext e'
   replace Bf:=Bf.ext e'
   replace BN:=BN.ext e'
   replace B3:=B3.ext e'
   refine aa ?_
   replace hf:=hf.kp [0,1,3,21,22,23]
   exact⟨(kids xs (b:Nat)).length - (k+1),by omega,k+1,_,rfl,by omega,hf,c,B3,BF,Bf,BN,HS,hNW⟩
 ·obtain rfl:k=(kids xs (b:Nat)).length:=by have:=of_decide_eq_false hc;omega
  simp only[Exit.then,Exit.inBlock,↓reduceIte]
  replace hf:=hf.kp [0,1,3]
  have ez:bU xs b (kids xs (b:Nat)).length=bu xs (b:Nat):=by rw[nA V hbl,bU,List.take_length]
  have eh:bV xs (b:Nat) (kids xs (b:Nat)).length=dU xs (b:Nat):=by rw[bV,List.take_length];rfl
  rw[ez,eh] at HS
  obtain⟨kv,hkv,HK⟩:=HS.kids_at hbl
  rw[da] at HK
  have f3:cells[0+b * 5+3]?=some (I (dU xs (b:Nat))):=by have:=HS.heavy_at hbl;rwa [da] at this
  have hb1:=HS.bd hbl (f:=1) (by decide)
  have l3:=B3.lt
  have lN:=BN.lt
  obtain⟨Bz,hBz⟩:∃Bz,Bz=w.heap.size:=⟨_,rfl⟩
  refine ew 8 [1,0,0,0,0,0,0] (Chg (fun c=>Bz≤c)) (cC.chg _) (fun w=>True) (fun w w1 k h=>trivial) Mix.mix hf (by decide +kernel) (by decide +kernel) ?_
  refine jf (fun w1 h1=>ld1 cS rfl (B3.ch h1 (by omega)) rfl) ?_
  refine ja (ld1 cS rfl B3 rfl) ?_
  refine ja (aU rfl) ?_
  refine ja (ai bB rfl T63 (by decide) rfl) ?_
  refine ja ((ld1 T63 rfl BN hkv).as (A:=Dv (slE ap) (GB W G) (kids xs (b:Nat))) HK) ?_
  refine ja (aw (A:=OwA ap 3 Bz G0 (kids xs (b:Nat))) lI rfl (fun v w' he h=>Calls.mono (xu _ _ w' h (by omega)) (fun en w2 ⟨u,h1,h2,h3⟩=>⟨u,h1,h2,OwR.lower (B':=Bz) h3 (by have:=he.size;omega) (fun b hb=>hb.elim)⟩))) ?_
  refine ja (er rfl) ?_
  refine jx (tu rb rfl rfl (fun v u w' he h h'=>by cases h';exact xw (kids xs (b:Nat)) Bz v _ _ (fun x=>x==dU xs (b:Nat)) w' rc h (fun w2 x c2=>xy x b3 bn _ _ cells w2 ((B3.ext he).ch c2 (by omega)) ((BN.ext he).ch c2 (by omega)) f3) (by omega))) ?_
  refine je ?_
  refine fun a w hc HF hf=>?_
  try dsimp only[push] at hf
  clear HF
  replace B3:=B3.ch hc (by omega)
  replace BN:=BN.ch hc (by omega)
  replace c:=c.tr (hc.to fun b _ hb=>by omega)
  replace HS:=HS.ch hc fun b hb=>.inr (by omega)
  replace HS:=HS.weak (G':=G) fun _ _ h=>.inl h
  obtain⟨v,hv,hf⟩:=hf.fix 81 rfl
  replace hv:=Dv.weak (G':=G) hv fun c _ hc=>by have:=hG c hc;show c<Bz;omega
  replace hf:=hf.kp [74,81]
  refine ar hf (by decide) (aU rfl) fun a w e' hf=>?_
  replace HS:=HS.ext e'
  replace hv:=Dv.ex hv e'
  replace c:=c.ext e'
  replace BN:=BN.ext e'
  clear e'
  refine ar hf (by decide) (ai bB rfl T63 (by decide) rfl) fun a w e' hf=>?_
  replace HS:=HS.ext e'
  replace hv:=Dv.ex hv e'
  replace c:=c.ext e'
  replace BN:=BN.ext e'
  clear e'
  refine aP T63 hf rfl rfl (Dv.slOne hv) BN hb1 fun w hg hsz BN hf=>?_
  replace HS:=HS.gr hg hGn
  replace hv:=Dv.gr hv hg hGn
  replace c:=c.gr hg (.inl rfl)
  have HS1:=HS.light' hbl hv
  refine aa ?_
  refine cE rfl hf ?_
  exact⟨_,rfl,c,trivial,_,BN,HS1⟩
def Sn (bn bm:Nat)(c:Nat):Prop:=c=bn∨c=bm
theorem FB.ch {w w':World}{bF bn bm bf n:Nat}{tv:Value}(h:FB w bF bn bm bf n tv){S:Nat→Prop}(c:Chg S w w')(h1:¬S bF)(h2:¬S bf):FB w' bF bn bm bf n tv:=⟨h.f.ch c h1,h.p.ch c h2⟩
theorem FB.ext {w w':World}{bF bn bm bf n:Nat}{tv:Value}(h:FB w bF bn bm bf n tv)(e:Ext w w'):FB w' bF bn bm bf n tv:=⟨h.f.ext e,h.p.ext e⟩
def mIn (s:List Nat)(b:Int)(m:Int→Option Int):Int→Option Int:=fun y=>if y∈s.map (fun i:Nat=>(i:Int)) then some b else m y
theorem xE (s:List Nat)(x:Nat)(b:Int)(m:Int→Option Int):(fun y=>if y=(x:Int) then some b else mIn s b m y)=mIn (s++[x]) b m:=by
 funext y
 simp only[mIn,List.map_append,List.mem_append,List.map_cons,List.map_nil,List.mem_singleton]
 by_cases h1:y=(x:Int)
 ·simp[h1]
 ·by_cases h2:y∈s.map (fun i:Nat=>(i:Int)) <;> simp[h1,h2]
theorem xF (b:Int)(m:Int→Option Int):mIn [] b m=m:=by
 funext y;simp[mIn]
theorem xG (S:BS)(b:Int)(m:Int→Option Int):mIn (bj S) b m=fun y=>if has S y=true then some b else m y:=by
 funext y
 unfold mIn
 by_cases h:has S y=true
 ·rw[if_pos (nI.2 h),if_pos h]
 ·rw[if_neg (fun h'=>h (nI.1 h')),if_neg h]
structure CJ (G:Nat→Prop)(W:World)(n:Nat)(nd:Nat→Nd)(bF bn bm bf b3 b:Nat)(tv:Value)(cells:Array Value)(cnt:Nat)(m:Int→Option Int)(s:List Nat)(w:World):Prop where
 c:Chg (fun c=>c=bn∨c=bm) W w
 t:Tab w
 sz:W.heap.size≤w.heap.size
 f:FB w bF bn bm bf n tv
 b3:Blk w b3 #[I (b:Nat)] 3
 bn:Blk w bn cells 100
 ns:NS n (GB W G) nd cells w
 mp:aT Tryz.prog 3 3 w bm (cnt+s.length) (mIn s b m)
theorem CJ.kp {G:Nat→Prop}{W:World}{n:Nat}{nd:Nat→Nd}{bF bn bm bf b3 b:Nat}{tv:Value}{cells:Array Value}{cnt:Nat}{m:Int→Option Int}{s:List Nat}{w w':World}{Bz:Nat}(h:CJ G W n nd bF bn bm bf b3 b tv cells cnt m s w)(k:Kp Bz w w')
  (hW:W.heap.size≤Bz) (h0:0<Bz) (lF:bF<Bz) (lf:bf<Bz) (l3:b3<Bz) (ln:bn<Bz) (lm:bm<Bz):CJ G W n nd bF bn bm bf b3 b tv cells cnt m s w':=by
 have no:∀{b},b<Bz→¬cA Bz b:=fun h hh=>by have:=hh.1;omega
 exact⟨⟨k.os.trans h.c.os,k.tape.trans h.c.tape,k.output.trans h.c.output,Nat.le_trans h.c.size k.size,fun b hb hS=>(k.same b (Nat.lt_of_lt_of_le hb h.c.size) (fun hh=>by have:=hh.1;omega)).trans (h.c.block b hb hS)⟩,
  h.t.kp k h0,Nat.le_trans h.sz k.size,h.f.ch k.chg (no lF) (no lf),h.b3.kp k (no l3),h.bn.kp k (no ln),h.ns.ch k.chg fun b hb=>.inr (by have:=hb.1;omega),h.mp.pres (k.same _ h.mp.lt (no lm))⟩
def db (t:List (Int×BS))(nd:Nat→Nd)(b:Nat):Int:=if (bg t b).1<0 then (nd b).2.2.2.2 else (nd (bg t b).1.toNat).2.2.2.2+1
def fu (t:List (Int×BS))(b:Nat):BS:=if (bg t b).1<0 then 0 else (bg t (bg t b).1.toNat).2
theorem xH {t:List (Int×BS)}(hr:Rng t){b:Nat}(hb:b<t.length):(bg t b).2 &&& ~~~fu t b=bK t b:=by
 have:=hr b hb
 rw[bK,fu]
 by_cases h:(bg t b).1 = -1
 ·rw[if_pos h,if_pos (by omega)]
  exact BitVec.eq_of_getLsbD_eq fun k hk=>by rw[BitVec.getLsbD_and,BitVec.getLsbD_not];simp[hk]
 ·rw[if_neg h,if_neg (by omega)]
theorem xI (t:List (Int×BS))(hl:t.length≤4096)(hr:Rng t)(G:Nat→Prop)(nd:Nat→Nd)(bF bn bm bf b1 b:Nat)(tv fv:Value)(cells:Array Value)(cnt:Nat)(m:Int→Option Int)(W:World)(hT:Tab W)(hG:∀c,G c→c<W.heap.size)(hGn:G bn)(hGm:G bm)(h0n:0<bn)(h0m:0<bm)(hbl:b<t.length)
  (FBx:FB W bF bn bm bf t.length fv) (B1:Blk W b1 #[tv] 23) (HV:(Dv aL (Sn bn bm) t).p tv W) (BN:Blk W bn cells 100) (HS:NS t.length G nd cells W) (HM:aT Tryz.prog 3 3 W bm cnt m) (hcnt:cnt≤100000000) (hdp:∀i,i<t.length→0≤(nd i).2.2.2.2∧(nd i).2.2.2.2≤100000) :
  Calls Tryz.prog 45 #[I (b:Nat),.pointer (some ⟨b1,0,none⟩),.pointer (some ⟨bf,0,none⟩)] W (fun e w'=>∃v,e=.returned v∧Chg (fun c=>c=bn∨c=bm) W w'∧Any.p v w' ∧
   (∃cells',Blk w' bn cells' 100∧NS t.length G (un nd b ((nd b).1,(nd b).2.1,(nd b).2.2.1,(nd b).2.2.2.1,db t nd b)) cells' w')∧∃cnt',cnt'≤cnt+1024∧aT Tryz.prog 3 3 w' bm cnt' (fun y=>if has (bK t b) y=true then some (b:Int) else m y)):=by
 obtain⟨BF,Bf⟩:=FBx
 have hri:=hr b hbl
 have nFn:bF≠bn:=fun h=>by
  have h1:=BF;have h2:=BN
  rw[h] at h1;unfold Blk at h1 h2;rw[h1] at h2;simp at h2
 have nfn:bf≠bn:=fun h=>by
  have h1:=Bf;have h2:=BN
  rw[h] at h1;unfold Blk at h1 h2;rw[h1] at h2;simp at h2
 have n1n:b1≠bn:=fun h=>by
  have h1:=B1;have h2:=BN
  rw[h] at h1;unfold Blk at h1 h2;rw[h1] at h2;simp at h2
 have nmb:∀{b':Nat} {cs:Array Value} {ty:TypeId},Blk W b' cs ty→b'≠bm:=fun h1 h=>by
  obtain⟨D,⟨es,clock,h3,_⟩,_⟩:=HM
  rw[h] at h1;unfold Blk at h1;rw[h1] at h3;cases h3
 have nnm:=nmb BN
 have nFm:=nmb BF
 have nfm:=nmb Bf
 have n1m:=nmb B1
 have lF:=BF.lt
 have lf:=Bf.lt
 have ln:=BN.lt
 have l1:=B1.lt
 have lm:=HM.lt
 clear nmb
 replace HS:=HS.toB
 replace HV:=Dv.toB HV
 haveI hin:InR (GB W G) (some bn):=⟨fun c hc=>by cases hc;exact .inl hGn⟩
 refine uu (args:=[I (b:Nat),.pointer (some ⟨b1,0,none⟩),.pointer (some ⟨bf,0,none⟩)]) (As:=[E (I (b:Nat)),E (.pointer (some ⟨b1,0,none⟩)),E (.pointer (some ⟨bf,0,none⟩))]) Tryz.func45 rfl Tryz.ntmps45 (Nat.le_of_ble_eq_true rfl) ?_ (fun a hf=>?_) (Nat.le_of_ble_eq_true rfl)
 ·exact eo rfl rfl rfl
 dsimp only[params,Nat.reduceAdd] at hf
 have c:=Chg.rfl' (fun c=>c=bn∨c=bm) W
 have hNW:=Nat.le_refl W.heap.size
 refine seq ?_
 refine ah ?_
 refine aH hf rfl (by decide) fun a b3 w v3 hv3 e' hb3 hs3 B3 hf=>?_
 have lo3_hNW:=Nat.le_trans hNW (Nat.le_of_eq hb3.symm)
 have lt3_BF:=BF.lt
 have lt3_Bf:=Bf.lt
 have lt3_B1:=B1.lt
 have lt3_BN:=BN.lt
 replace hNW:=Nat.le_trans hNW e'.size
 replace hT:=hT.ext e'
 replace HV:=Dv.ex HV e'
 replace HS:=HS.ext e'
 replace c:=c.ext e'
 replace BF:=BF.ext e'
 replace Bf:=Bf.ext e'
 replace B1:=B1.ext e'
 replace BN:=BN.ext e'
 replace HM:=HM.ext e'
 refine aa ?_
 cases hv3
 have B3':Blk w b3 #[I (b:Nat)] 3:=B3
 replace B3:=B3'
 clear B3'
 have n3:b3≠bF∧b3≠bf∧b3≠b1∧b3≠bn∧b3≠bm∧W.heap.size≤b3:=by omega
 replace hf:=hf.kp [1,2,3]
 refine seq ?_
 refine ac 5 hf (by decide +kernel) ?_
 refine st (ld1 T23 rfl B1 rfl) ?_
 refine st (ld1 T3 rfl B3 rfl) ?_
 refine st (az U23 S59 (isE rfl HV) rfl (by omega) (cX hbl)) ?_
 refine st (am U59 rfl T3 (by decide) (Fld.fst Fld.refl) (isR rfl)) ?_
 refine st (ldI T3 (isR rfl)) ?_
 refine en fun a w e' hf=>?_
 replace hNW:=Nat.le_trans hNW e'.size
 replace hT:=hT.ext e'
 replace HV:=Dv.ex HV e'
 replace HS:=HS.ext e'
 replace c:=c.ext e'
 replace BF:=BF.ext e'
 replace Bf:=Bf.ext e'
 replace B1:=B1.ext e'
 replace BN:=BN.ext e'
 replace HM:=HM.ext e'
 replace B3:=B3.ext e'
 refine ae hf rfl (by decide) fun a hf=>?_
 refine aa ?_
 replace hf:=hf.kp [1,2,3,4]
 refine seq ?_
 refine ah ?_
 refine aJ I56 hf (by decide) fun a b5 w e' hb5 hs5 B5 hf=>?_
 have lo5_hNW:=Nat.le_trans hNW (Nat.le_of_eq hb5.symm)
 have lt5_BF:=BF.lt
 have lt5_Bf:=Bf.lt
 have lt5_B1:=B1.lt
 have lt5_BN:=BN.lt
 have lt5_B3:=B3.lt
 replace hNW:=Nat.le_trans hNW e'.size
 replace hT:=hT.ext e'
 replace HV:=Dv.ex HV e'
 replace HS:=HS.ext e'
 replace c:=c.ext e'
 replace BF:=BF.ext e'
 replace Bf:=Bf.ext e'
 replace B1:=B1.ext e'
 replace BN:=BN.ext e'
 replace HM:=HM.ext e'
 replace B3:=B3.ext e'
 refine aa ?_
 simp only[Value.cells,cV] at B5
 have n5:b5≠bF∧b5≠bf∧b5≠b1∧b5≠bn∧b5≠bm∧W.heap.size≤b5∧b5≠b3:=by have:=B3.lt;omega
 replace hf:=hf.kp [1,2,3,4,5]
 repeat refine seq ?_
 refine ac 2 hf (by decide +kernel) ?_
 refine st (mv rfl) ?_
 refine st (geq rfl rfl) ?_
 refine en fun a w e' hf=>?_
 replace hNW:=Nat.le_trans hNW e'.size
 replace hT:=hT.ext e'
 replace HV:=Dv.ex HV e'
 replace HS:=HS.ext e'
 replace c:=c.ext e'
 replace BF:=BF.ext e'
 replace Bf:=Bf.ext e'
 replace B1:=B1.ext e'
 replace BN:=BN.ext e'
 replace HM:=HM.ext e'
 replace B3:=B3.ext e'
 replace B5:=B5.ext e'
 refine aa ?_
 refine cut (J:=fun a w=>Fr 50 a w [(1,E (.pointer (some ⟨b1,0,none⟩))),(2,E (.pointer (some ⟨bf,0,none⟩))),(3,E (.pointer (some ⟨b3,0,none⟩))),(5,E (.pointer (some ⟨b5,0,none⟩)))]∧Chg (fun c=>c=bn∨c=bm) W w∧Tab w∧W.heap.size≤w.heap.size ∧
  Blk w bF #[fv,.slice (some ⟨bn,0,none⟩) t.length t.length,.map (some bm)] 82∧Blk w bf #[.pointer (some ⟨bF,0,none⟩)] 27∧Blk w b1 #[tv] 23∧Blk w b3 #[I (b:Nat)] 3∧Blk w b5 (aM (fu t b)) 56∧(Dv aL (GB W (Sn bn bm)) t).p tv w∧aT Tryz.prog 3 3 w bm cnt m ∧
  ∃cells',Blk w bn cells' 100∧NS t.length (GB W G) (un nd b ((nd b).1,(nd b).2.1,(nd b).2.2.1,(nd b).2.2.2.1,db t nd b)) cells' w) ?_ (fun a w hJ=>?_)
 ·repeat refine seq ?_
  refine ifc hf rfl (fun hb=>?_) (fun hb=>?_)
  ·have hup:=of_decide_eq_true hb
   obtain⟨p,hp⟩:∃p:Nat,(bg t b).1=(p:Int):=⟨(bg t b).1.toNat,by omega⟩
   have hpl:p<t.length:=by omega
   have hd:=hdp p hpl
   have fd:=HS.deep_at hpl
   have hb4:=HS.bd hbl (f:=4) (by decide)
   have ed:(nd p).2.2.2.2+1=db t nd b:=by rw[db,if_neg (by omega),hp,Int.toNat_natCast]
   have ea:(bg t p).2=fu t b:=by rw[fu,if_neg (by omega),hp,Int.toNat_natCast]
   rw[hp] at hf
   replace hf:=hf.kp [1,2,3,4,5]
   refine seq ?_
   refine reg 16 Mix.mix hf (by decide +kernel) ?_
   refine st (ld1 T27 rfl (by assumption) rfl) ?_
   refine st (aU rfl) ?_
   refine st (ai U82 rfl T79 (by decide) rfl) ?_
   refine st (ld1 T79 rfl BF rfl) ?_
   refine st (ld1 T3 rfl B3 rfl) ?_
   refine st (ld1 T27 rfl (by assumption) rfl) ?_
   refine st (aU rfl) ?_
   refine st (ai U82 rfl T79 (by decide) rfl) ?_
   refine st (ld1 T79 rfl BF rfl) ?_
   refine st (mv rfl) ?_
   refine st (idxS U79 ee rfl rfl (by omega)) ?_
   refine st (ai bB rfl T3 (by decide) rfl) ?_
   refine st (ld1 T3 rfl BN fd) ?_
   refine st ((add rfl rfl (by omega)).eq (congrArg (Value.int .i64) ed)) ?_
   refine st (idxS U79 ee rfl rfl (by omega)) ?_
   refine st (ai bB rfl T3 (by decide) rfl) ?_
   refine en fun a w e' hf=>?_
   replace hNW:=Nat.le_trans hNW e'.size
   replace hT:=hT.ext e'
   replace HV:=Dv.ex HV e'
   replace HS:=HS.ext e'
   replace c:=c.ext e'
   replace BF:=BF.ext e'
   replace Bf:=Bf.ext e'
   replace B1:=B1.ext e'
   replace BN:=BN.ext e'
   replace HM:=HM.ext e'
   replace B3:=B3.ext e'
   replace B5:=B5.ext e'
   clear e'
   refine aP T3 hf rfl rfl rfl BN (by exact hb4) fun w hg hsz BN hf=>?_
   replace hNW:=Nat.le_trans hNW (Nat.le_of_eq hsz.symm)
   replace hT:=hT.gr hg (by omega)
   replace HV:=Dv.gr HV hg (by first|exact .inl (.inl rfl)|exact .inr (by omega))
   replace HS:=HS.gr hg (by first|exact .inl hGn|exact .inr (by omega))
   replace c:=c.gr hg (by first|exact .inl (.inl rfl)|exact .inr (by omega))
   replace BF:=BF.gr hg (by omega)
   replace Bf:=Bf.gr hg (by omega)
   replace B1:=B1.gr hg (by omega)
   replace HM:=HM.gr hg (by omega)
   replace B3:=B3.gr hg (by omega)
   replace B5:=B5.gr hg (by omega)
   clear hg
   refine aa ?_
   have HS1:=HS.set_deep hbl (db t nd b)
   obtain⟨cells1,BN1,HS2⟩:∃cells',Blk w bn cells' 100∧NS t.length (GB W G) (un nd b ((nd b).1,(nd b).2.1,(nd b).2.2.1,(nd b).2.2.2.1,db t nd b)) cells' w:=⟨_,BN,HS1⟩
   clear BN HS HS1 fd hb4
   replace BN:=BN1
   replace HS:=HS2
   clear BN1 HS2
   replace hf:=hf.kp [1,2,3,4,5]
   refine ac 5 hf (by decide +kernel) ?_
   refine st (ld1 T23 rfl B1 rfl) ?_
   refine st (mv rfl) ?_
   refine st (az U23 S59 (isE rfl HV) rfl (by omega) (cX hpl)) ?_
   refine st (am U59 rfl T56 (by decide) (Fld.snd Fld.refl rfl) (isR rfl)) ?_
   refine st (ldS T56 (isR rfl)) ?_
   refine en fun a w e' hf=>?_
   replace hNW:=Nat.le_trans hNW e'.size
   replace hT:=hT.ext e'
   replace HV:=Dv.ex HV e'
   replace HS:=HS.ext e'
   replace c:=c.ext e'
   replace BF:=BF.ext e'
   replace Bf:=Bf.ext e'
   replace B1:=B1.ext e'
   replace BN:=BN.ext e'
   replace HM:=HM.ext e'
   replace B3:=B3.ext e'
   replace B5:=B5.ext e'
   clear e'
   haveI hinr:∀G0,InR (GB W G0) (some b5):=fun G0=>InR.gb (by omega)
   refine aD T56 hf rfl rfl (bL _) B5 rfl (rfl) fun w hg hsz B5 hf=>?_
   replace hNW:=Nat.le_trans hNW (Nat.le_of_eq hsz.symm)
   replace hT:=hT.gr hg (by omega)
   replace HV:=Dv.gr HV hg (by first|exact .inl (.inl rfl)|exact .inr (by omega))
   replace HS:=HS.gr hg (by first|exact .inl hGn|exact .inr (by omega))
   replace c:=c.gr hg (by first|exact .inl (.inl rfl)|exact .inr (by omega))
   replace BF:=BF.gr hg (by omega)
   replace Bf:=Bf.gr hg (by omega)
   replace B1:=B1.gr hg (by omega)
   replace BN:=BN.gr hg (by omega)
   replace HM:=HM.gr hg (by omega)
   replace B3:=B3.gr hg (by omega)
   clear hg
   refine aa ?_
   rw[ea] at B5
   replace hf:=hf.kp [1,2,3,5]
   exact⟨rfl,hf,c,hT,hNW,BF,Bf,B1,B3,B5,HV,HM,_,BN,HS⟩
  ·have hup:=of_decide_eq_false hb
   have ea:(0:BS)=fu t b:=by rw[fu,if_pos (by omega)]
   rw[ea] at B5
   refine ak ?_
   replace hf:=hf.kp [1,2,3,5]
   refine⟨rfl,hf,c,hT,hNW,BF,Bf,B1,B3,B5,HV,HM,cells,BN,?_⟩
   rw[show db t nd b=(nd b).2.2.2.2 from by rw[db,if_pos (by omega)],show ((nd b).1,(nd b).2.1,(nd b).2.2.1,(nd b).2.2.2.1,(nd b).2.2.2.2)=nd b from rfl,pX]
   exact HS
 clear hf c hT hNW BF Bf B1 B3 B5 HV HM BN HS
 obtain⟨hf,c,hT,hNW,BF,Bf,B1,B3,B5,HV,HM,cells1,BN,HS⟩:=hJ
 simp only[Exit.then]
 obtain⟨nd1,hnd1⟩:∃nd1,nd1=un nd b ((nd b).1,(nd b).2.1,(nd b).2.2.1,(nd b).2.2.2.1,db t nd b):=⟨_,rfl⟩
 rw[← hnd1] at HS ⊢
 obtain⟨Nz,hNz⟩:∃Nz,Nz=w.heap.size:=⟨_,rfl⟩
 refine seq ?_
 refine reg 8 Mix.mix hf (by decide +kernel) ?_
 refine st (ld1 T23 rfl B1 rfl) ?_
 refine st (ld1 T3 rfl B3 rfl) ?_
 refine st (az U23 S59 (isE rfl HV) rfl (by omega) (cX hbl)) ?_
 refine st (am U59 rfl T56 (by decide) (Fld.snd Fld.refl rfl) (isR rfl)) ?_
 refine st (ldS T56 (isR rfl)) ?_
 refine st (ldW T56 rfl B5 rfl) ?_
 refine st (ax iX rfl rfl (fun v u w he h h'=>by cases h;cases h';exact jC _ _ w)) ?_
 refine st (aw (A:=nG Nz (bK t b)) qZ rfl (fun v w' he h=>by cases h;rw[xH hr hbl];exact Calls.mono (uk _ w') (fun en w2 ⟨u,h1,h2,b',h3,h4,h5⟩=>⟨u,h1,h2,b',by have:=he.size;omega,h4,h5⟩))) ?_
 refine en fun a w e' hf=>?_
 replace hNW:=Nat.le_trans hNW e'.size
 replace hT:=hT.ext e'
 replace HV:=Dv.ex HV e'
 replace HS:=HS.ext e'
 replace c:=c.ext e'
 replace BF:=BF.ext e'
 replace Bf:=Bf.ext e'
 replace B1:=B1.ext e'
 replace BN:=BN.ext e'
 replace HM:=HM.ext e'
 replace B3:=B3.ext e'
 replace B5:=B5.ext e'
 refine aa ?_
 obtain⟨v,⟨b42,h42,rfl,BS⟩,hf⟩:=hf.fix 42 rfl
 replace hf:=hf.kp [2,3,42]
 refine blk ?_
 have lF':=BF.lt
 have lf':=Bf.lt
 have l3':=B3.lt
 have ln':=BN.lt
 have lm':=HM.lt
 have h0w:0<w.heap.size:=hT.lt
 refine ut (S:=bK t b) hf rfl BS (by decide) (fun s w1=>CJ G W t.length nd1 bF bn bm bf b3 b fv cells1 cnt m s w1) (fun _ _=>False) (fun s w1 h=>h.t) ⟨c,hT,hNW,⟨BF,Bf⟩,B3,BN,HS,by rw[xF];exact HM⟩ (fun s w1 w2 h hs k=>h.kp k hNW h0w lF' lf' l3' ln' lm')
  (fun _ _ _ h=>h.elim) ?_ ?_ (fun _ _ _ _ _ _ h=>h.elim)
 ·intro l s x rest a1 w1 hs hJ hlw hf
  have hx1024:x<1024:=(jI.1 (by rw[hs];simp)).1
  have hsl:s.length≤1024:=by have:=nJ (bK t b);rw[hs] at this;simp at this;omega
  generalize hBz:w.heap.size=Bz at *
  refine ah ?_
  refine ae hf rfl (by decide) fun a hf=>?_
  refine aa ?_
  simp only[Exit.then]
  refine⟨Kh.rfl' _ _,fun w3 k3 hsz3=>?_⟩
  have hJ3:=hJ.kp k3 hNW h0w lF' lf' l3' ln' lm'
  have hWB:=hNW
  clear c hT hNW BF Bf B3 BN HS HM HV B1 B5 BS hBz
  replace hf:=hf.pure w3
  obtain⟨c,hT,hNW,⟨BF,Bf⟩,B3,BN,HS,HM⟩:=hJ3
  have kh:=Kh.rfl' Bz w3
  replace hf:=hf.kp [2,3,6]
  refine blk ?_
  refine reg 6 Mix.mix hf (by decide +kernel) ?_
  refine st (ld1 T27 rfl (by assumption) rfl) ?_
  refine st (aU rfl) ?_
  refine st (ai U82 rfl T80 (by decide) rfl) ?_
  refine st (ld1 T80 rfl BF rfl) ?_
  refine st (mv rfl) ?_
  refine st (ld1 T3 rfl B3 rfl) ?_
  refine en fun a w e' hf=>?_
  replace hNW:=Nat.le_trans hNW e'.size
  replace hT:=hT.ext e'
  replace HS:=HS.ext e'
  replace c:=c.ext e'
  replace kh:=kh.tr (Kh.ext e')
  replace BF:=BF.ext e'
  replace Bf:=Bf.ext e'
  replace B3:=B3.ext e'
  replace BN:=BN.ext e'
  replace HM:=HM.ext e'
  clear e'
  refine tw U3 U3 U80 hf rfl rfl rfl HM (by simp only[maxLen];omega) (mH (by omega)) (mH (by omega)) fun w hg HM hf=>?_
  replace c:=c.gr hg (.inl (.inr rfl))
  replace hNW:=Nat.le_trans hNW hg.size
  replace hT:=hT.gr hg h0m
  replace HS:=HS.gr hg (.inl hGm)
  replace kh:=kh.tr (Kh.gr hg (fun hh=>by have:=hh.1;omega))
  replace BF:=BF.gr hg nFm
  replace Bf:=Bf.gr hg nfm
  replace B3:=B3.gr hg n3.2.2.2.2.1
  replace BN:=BN.gr hg nnm
  rw[xE] at HM
  refine aa ?_
  simp only[Exit.inBlock]
  exact⟨⟨c,hT,hNW,⟨BF,Bf⟩,B3,BN,HS,by rw[List.length_append];exact HM⟩,kh⟩
 ·intro a' w' hf' hJ hsz hD
  simp only[Exit.inBlock,↓reduceIte]
  show LeavesInM _ _ _ _ _ _ _ _ _
  rw[hf'.defers]
  have cs:=uw [w.heap.size] w'
  refine nH [w.heap.size] w' ⟨by simp,by simpa using hD⟩ (results_none rfl _ _ _) ?_
  have nS:∀{b},b<w.heap.size→¬b∈[w.heap.size]:=fun h h'=>by rw[List.mem_singleton] at h';omega
  refine⟨_,rfl,hJ.c.tr2 cs fun b hb=>.inr (by rw[List.mem_singleton] at hb;omega),trivial,⟨cells1,hJ.bn.ch cs (nS ln'),?_⟩,cnt+(bj (bK t b)).length,by have:=nJ (bK t b);omega,?_⟩
  ·exact (hJ.ns.ch cs fun b hb=>.inr (by rw[List.mem_singleton] at hb;omega)).weak fun _ _ h=>.inl h
  ·have:=hJ.mp.ch cs (nS lm')
   rwa [xG] at this
end Go.Mono
