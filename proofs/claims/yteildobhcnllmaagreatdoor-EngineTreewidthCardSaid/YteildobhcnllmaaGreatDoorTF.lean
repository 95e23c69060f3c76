/-
  Walks of functions and plain facts.
  No condition.
-/
import Derived.Test.YteildobhcnllmaaGreatDoorTE
import Derived.Test.YteildobhcnllmaaGreatDoorTD
import Derived.Test.YteildobhcnllmaaGreatDoorTB
import Derived.Test.YteildobhcnllmaaGreatDoorTC
import Derived.Shelf.SlIterI.Nil
import Derived.Shelf.SortM.Plain
import Derived.Shelf.SortM.SortNone
import Derived.Test.YteildobhcnllmaaGreatDoorProg
import Derived.Test.YteildobhcnllmaaGreatDoorTA
set_option linter.unusedVariables false
set_option linter.unusedSimpArgs false
namespace Go.Mono
open Go Go.Proofs Go.RowKit Go.Ms
def wyI (bw:Nat):Value:=.iface 167 (ptr bw)
theorem ui {bw:Nat} {v:Value} {w0:World} (h:Blk w0 bw #[v] 169):Mth Tryz.prog 167 (ptr bw) v "Len" 109 w0:=oi (by kernel_rfl) gG el my h
theorem jG {bw:Nat} {v:Value} {w0:World} (h:Blk w0 bw #[v] 169):Mth Tryz.prog 167 (ptr bw) v "Less" 234 w0:=oi (by kernel_rfl) gG el xG h
theorem oq {bw:Nat} {v:Value} {w0:World} (h:Blk w0 bw #[v] 169):Mth Tryz.prog 167 (ptr bw) v "Swap" 237 w0:=oi (by kernel_rfl) gG el xJ h
theorem a2J (bw:Nat) (w0:World):Mth Tryz.prog 167 (ptr bw) (ptr bw) "Push" 236 w0:=tZ (by kernel_rfl) gG xI
theorem a2K (bw:Nat) (w0:World):Mth Tryz.prog 167 (ptr bw) (ptr bw) "Pop" 235 w0:=tZ (by kernel_rfl) gG xH
theorem HpW.swap {bw i k:Nat}{v:Value}{xs:List (Int×Nat)}{w w':World}(h:HpW bw v xs w)(hc:Chg (fun b=>v.ownBlock=some b) w w')(ho:OwR wyE 172 1 G0 w' (swp xs i k) v):HpW bw v (swp xs i k) w':=⟨h.p.ch hc h.ne,ho⟩
theorem uj {xs:List (Int×Nat)}{i j:Nat}(hi:i<xs.length)(hj:j<xs.length):cst (swp xs i j)=swc (cst xs) i j:=funext (tX hi hj)
theorem a2L {w0:World}{L:Env}{dst:Option Tmp}{ty t yt:TypeId}{pos:String}{aft:Array Edge}{g:Option (Nat×Bool)}{x y:Operand}(hx:opd L x=some (E (I (-1))))(hy:opd L y=some (E (I 2))):OpC Tryz.prog w0 L ⟨dst,.binOp .quo t x y yt,ty,pos,aft,g⟩ (E (I 0)):=by
 refine ce ?_ hx hy
 rfl
theorem a2M (xs:List (Int×Nat))(j:Nat)(bw:Nat)(v:Value)(W:World)(H:HpW bw v xs W)(hj:j<xs.length)(hU:UpI xs.length (cst xs) j)(hl:xs.length≤100000000) :
  Calls Tryz.prog 153 #[wyI bw,I (j:Nat)] W (fun en w'=>en=.returned (.tuple #[])∧∃ys,Chg (HpS bw v) W w'∧HpW bw v ys w'∧ys.length=xs.length∧(∀e,e∈ys↔e∈xs)∧HpC xs.length (cst ys)):=by
 refine eN [wyI bw,I (j:Nat)] [E (wyI bw),E (I (j:Nat))] Tryz.func153 Tryz.ntmps153 ?_ fun a hf=>?_
 rotate_left
 rotate_right
 ·exact arg2 rfl rfl
 have c:Chg (HpS bw v) W W:=Chg.rfl' _ _
 obtain⟨n,hn⟩:∃n,n=xs.length:=⟨_,rfl⟩
 rw[← hn] at hj hU hl ⊢
 refine blk (aJ (fun r0 a w=>∃(ys:List (Int×Nat)) (j:Nat),j≤r0∧j<n∧UpI n (cst ys) j∧ys.length=n∧(∀e,e∈ys↔e∈xs)∧Fr 23 a w [(0,E (wyI bw)),(1,E (I (j:Nat)))]∧Chg (HpS bw v) W w∧HpW bw v ys w) j ⟨xs,j,Nat.le_refl _,hj,hU,hn.symm,fun e=>Iff.rfl,hf,c,H⟩ ?_)
 rintro r0 a w ⟨ys,j,hr0,hj,hU,hys,hmem,hf,c,H⟩
 refine blk ?_
 rcases Nat.eq_zero_or_pos j with h0|h0
 ·obtain rfl:=h0
  refine seq <| rgN 3 hf <| st (mv rfl) <| st ((sub rfl rfl (by omega)).eq ((rfl:_=I (-1)))) <| st (a2L rfl rfl) <| en fun a w e' hf=>?_
  replace H:=H.ext e'
  replace c:=c.ext e'
  refine tA hf rfl fun a hf=>aa ?_
  repeat refine seq ?_
  refine rgN 10 hf <| st (mv rfl) <| st (mv rfl) <| st ((eql rfl rfl).eq (congrArg Value.bool ((show decide ((0:Int)=0)=true from rfl)))) <| st (mv rfl) <| sn rfl rfl rfl <| sn rfl rfl rfl <| sn rfl rfl rfl <| sn rfl rfl rfl <| sn rfl rfl rfl <| st (pkT rfl rfl) <| en fun a w e' hf=>?_
  replace H:=H.ext e'
  replace c:=c.ext e'
  refine aa <| ifc hf rfl (fun _=>aG ?_) (fun h=>by cases h)
  simp only[Exit.then,Exit.inBlock,↓reduceIte]
  rw[if_neg (show ¬(0:Nat)=1 by decide)]
  exact dG rfl hf ⟨rfl,ys,c,H,hys,hmem,hU.stop (.inl rfl)⟩
 ·have hi:(j - 1) / 2<n:=by omega
  obtain⟨i,hij⟩:∃i,i=(j - 1) / 2:=⟨_,rfl⟩
  rw[← hij] at hi
  have hne:decide (((i:Nat):Int)=((j:Nat):Int))=false:=decide_eq_false (by omega)
  refine seq <| rgN 3 hf <| st (mv rfl) <| st ((sub rfl rfl (by omega)).eq (congrArg (Value.int .i64) (show ((j:Nat):Int) - 1=((j - 1:Nat):Int) by omega))) <| st ((quo rfl rfl (by omega)).eq (congrArg (Value.int .i64) (show ((j - 1:Nat):Int) / 2=((i:Nat):Int) by omega))) <| en fun a w e' hf=>?_
  replace H:=H.ext e'
  replace c:=c.ext e'
  refine tA hf rfl fun a hf=>aa ?_
  by_cases hlt:cst ys j<cst ys i
  ·repeat refine seq ?_
   refine rgN 10 hf <| st (mv rfl) <| st (mv rfl) <| st ((eql rfl rfl).eq (congrArg Value.bool (hne))) <| st (mv rfl) <| sy rfl rfl (mv rfl) <| sy rfl rfl (mv rfl) <| sy rfl rfl (mv rfl) <| sy rfl rfl (jD (A:=E (B true)) (B:=E (I (j:Nat))) (C:=E (I (i:Nat))) (jG H.p) rfl rfl rfl (fun a b w he h1 h2=>by cases h1;cases h2;have:=jF ys j i v w (H.o.ext he) (by omega) (by omega);rwa [decide_eq_true hlt] at this)) ?_
   refine sy rfl rfl (bA rfl) <| st (pkF rfl rfl) <| en fun a w e' hf=>?_
   replace H:=H.ext e'
   replace c:=c.ext e'
   refine aa <| ifc hf rfl (fun h=>by cases h) (fun _=>ak ?_)
   replace hf:=hf.kp [0,1,4]
   refine seq <| rgN 3 hf <| st (mv rfl) <| st (mv rfl) <| st (mv rfl) <| en fun a w e' hf=>?_
   replace H:=H.ext e'
   replace c:=c.ext e'
   refine jE (S:=fun b=>v.ownBlock=some b) (F:=fun z w'=>OwR wyE 172 1 G0 w' (swp ys i j) v) hf (by decide) (oq H.p) rfl ?_ fun a z w hc hF hf=>?_
   ·have e1:a.eval (.tmp 19)=I (i:Nat):=hf.opd (.tmp 19) _ rfl
    have e2:a.eval (.tmp 20)=I (j:Nat):=hf.opd (.tmp 20) _ rfl
    simp only[List.map_toArray,List.map_cons,List.map_nil,e1,e2]
    exact (om ys i j v w H.o (by omega) (by omega)).mono fun en w' ⟨k1,k2,k3⟩=>⟨_,k1,k2,k3⟩
   replace H:=H.swap hc hF
   replace c:=c.tr (hc.to (S':=HpS bw v) fun b _ h=>.inr h)
   refine aa ?_
   replace hf:=hf.keep [0,1,4]
   refine rgN 1 hf <| st (mv rfl) <| en fun a w e' hf=>?_
   replace H:=H.ext e'
   replace c:=c.ext e'
   refine tA hf rfl fun a hf=>aa ?_
   simp only[Exit.inBlock]
   replace hf:=hf.keep [0,1]
   obtain⟨f,rfl⟩:∃f,r0=f+1:=⟨r0 - 1,by omega⟩
   refine⟨f,Nat.lt_succ_self _,swp ys i j,i,by omega,hi,?_,by rw[gx,hys],fun e=>(oh (by omega) (by omega) e).trans (hmem e),hf,c,H⟩
   rw[uj (by omega) (by omega)]
   exact hU.go h0 hj hij hlt
  ·repeat refine seq ?_
   refine rgN 10 hf <| st (mv rfl) <| st (mv rfl) <| st ((eql rfl rfl).eq (congrArg Value.bool (hne))) <| st (mv rfl) <| sy rfl rfl (mv rfl) <| sy rfl rfl (mv rfl) <| sy rfl rfl (mv rfl) <| sy rfl rfl (jD (A:=E (B false)) (B:=E (I (j:Nat))) (C:=E (I (i:Nat))) (jG H.p) rfl rfl rfl (fun a b w he h1 h2=>by cases h1;cases h2;have:=jF ys j i v w (H.o.ext he) (by omega) (by omega);rwa [decide_eq_false hlt] at this)) ?_
   refine sy rfl rfl (bA rfl) <| st (pkF rfl rfl) <| en fun a w e' hf=>?_
   replace H:=H.ext e'
   replace c:=c.ext e'
   refine aa <| ifc hf rfl (fun _=>aG ?_) (fun h=>by cases h)
   simp only[Exit.then,Exit.inBlock,↓reduceIte]
   rw[if_neg (show ¬(0:Nat)=1 by decide)]
   exact dG rfl hf ⟨rfl,ys,c,H,hys,hmem,hU.stop (.inr (by rw[← hij];exact hlt))⟩
theorem a2N (xs:List (Int×Nat))(n:Nat)(bw:Nat)(v:Value)(W:World)(H:HpW bw v xs W)(hn:n≤xs.length)(hU:DnI n (cst xs) 0)(hl:xs.length≤100000000) :
  Calls Tryz.prog 154 #[wyI bw,I 0,I (n:Nat)] W (fun en w'=>∃b ys,en=.returned (B b)∧Chg (HpS bw v) W w'∧HpW bw v ys w'∧ys.length=xs.length∧(∀e,e∈ys↔e∈xs)∧HpC n (cst ys)∧∀k,n≤k→ys.getD k (0,0)=xs.getD k (0,0)):=by
 refine eN [wyI bw,I 0,I (n:Nat)] [E (wyI bw),E (I 0),E (I (n:Nat))] Tryz.func154 Tryz.ntmps154 ?_ fun a hf=>?_
 rotate_left
 rotate_right
 ·exact dS rfl rfl rfl
 have c:Chg (HpS bw v) W W:=Chg.rfl' _ _
 obtain⟨m,hm⟩:∃m,m=xs.length:=⟨_,rfl⟩
 rw[← hm] at hn hl ⊢
 refine seq <| ae <| tA hf rfl fun a hf=>aa <| seq <| rgN 1 hf <| st (mv rfl) <| en fun a w e' hf=>?_
 replace H:=H.ext e'
 replace c:=c.ext e'
 refine tA hf rfl fun a hf=>aa ?_
 replace hf:=hf.keep [0,1,2,6,7]
 replace hf:=hf.upd 7 rfl (B:=E (I ((0:Nat):Int))) fun v h=>h
 replace hf:=hf.keep [0,1,2,6,7]
 refine seq <| cut (J:=fun a w=>∃(ys:List (Int×Nat)) (i:Nat),HpC n (cst ys)∧ys.length=m∧(∀e,e∈ys↔e∈xs)∧(∀k,n≤k→ys.getD k (0,0)=xs.getD k (0,0))∧Fr 48 a w [(1,E (I 0)),(7,E (I (i:Nat)))]∧Chg (HpS bw v) W w∧HpW bw v ys w) ?_ (fun a w hJ=>?_)
 rotate_left
 ·clear hf c H hU
  obtain⟨ys,i,hC,hys,hmem,hgt,hf,c,H⟩:=hJ
  refine seq <| rgN 3 hf <| st (mv rfl) <| st (mv rfl) <| st (gtr rfl rfl) <| en fun a w e' hf=>?_
  replace H:=H.ext e'
  replace c:=c.ext e'
  refine tA hf rfl fun a hf=>aa <| ai <| ap rfl hf rfl ?_
  rintro _ rfl
  exact⟨_,ys,rfl,c,H,hys,hmem,hC,hgt⟩
 refine blk (aJ (fun r0 a w=>∃(ys:List (Int×Nat)) (i:Nat),n≤r0+i∧DnI n (cst ys) i∧ys.length=m∧(∀e,e∈ys↔e∈xs)∧(∀k,n≤k→ys.getD k (0,0)=xs.getD k (0,0))∧i≤m∧Fr 48 a w [(0,E (wyI bw)),(1,E (I 0)),(2,E (I (n:Nat))),(7,E (I (i:Nat)))]∧Chg (HpS bw v) W w∧HpW bw v ys w) n ⟨xs,0,Nat.le_refl _,hU,hm.symm,fun e=>Iff.rfl,fun k _=>rfl,Nat.zero_le _,hf.keep [0,1,2,7],c,H⟩ ?_)
 rintro r0 a w ⟨ys,i,hr0,hU,hys,hmem,hgt,him,hf,c,H⟩
 refine blk <| seq <| rgN 3 hf <| st (mv rfl) <| st (mul rfl rfl (by omega)) <| st ((add rfl rfl (by omega)).eq (congrArg (Value.int .i64) (show (2:Int) * ((i:Nat):Int)+1=((2 * i+1:Nat):Int) by omega))) <| en fun a w e' hf=>?_
 replace H:=H.ext e'
 replace c:=c.ext e'
 refine tA hf rfl fun a hf=>aa ?_
 by_cases h1:2 * i+1<n
 rotate_left
 ·repeat refine seq ?_
  refine rgN 7 hf <| st (mv rfl) <| st (mv rfl) <| st ((geq rfl rfl).eq (congrArg Value.bool ((decide_eq_true (by omega):_=true)))) <| st (mv rfl) <| sn rfl rfl rfl <| sn rfl rfl rfl <| st (pkT rfl rfl) <| en fun a w e' hf=>?_
  replace H:=H.ext e'
  replace c:=c.ext e'
  refine aa <| ifc hf rfl (fun _=>aG ?_) (fun h=>by cases h)
  simp only[Exit.then,Exit.inBlock,↓reduceIte]
  rw[if_neg (show ¬(0:Nat)=1 by decide)]
  exact⟨trivial,ys,i,hU.stop fun k hk k0 hp=>by omega,hys,hmem,hgt,hf.keep [1,7],c,H⟩
 obtain⟨r0,rfl⟩:∃f,r0=f+1:=⟨r0 - 1,by omega⟩
 repeat refine seq ?_
 refine rgN 7 hf <| st (mv rfl) <| st (mv rfl) <| st ((geq rfl rfl).eq (congrArg Value.bool ((decide_eq_false (by omega):_=false)))) <| st (mv rfl) <| sy rfl rfl (mv rfl) <| sy rfl rfl ((lss rfl rfl).eq (congrArg Value.bool ((decide_eq_false (by omega):_=false)))) <| st (pkF rfl rfl) <| en fun a w e' hf=>?_
 replace H:=H.ext e'
 replace c:=c.ext e'
 refine aa <| ifc hf rfl (fun h=>by cases h) (fun _=>ak ?_)
 replace hf:=hf.keep [0,1,2,7,8]
 refine seq <| rgN 1 hf <| st (mv rfl) <| en fun a w e' hf=>?_
 replace H:=H.ext e'
 replace c:=c.ext e'
 refine tA hf rfl fun a hf=>aa ?_
 repeat refine seq ?_
 refine rgN 2 hf <| st (mv rfl) <| st ((add rfl rfl (by omega)).eq (congrArg (Value.int .i64) (show ((2 * i+1:Nat):Int)+1=((2 * i+2:Nat):Int) by omega))) <| en fun a w e' hf=>?_
 replace H:=H.ext e'
 replace c:=c.ext e'
 refine tA hf rfl fun a hf=>aa ?_
 replace hf:=hf.keep [0,1,2,7,8,9,10]
 obtain⟨q,hq⟩:∃q,q=decide (2 * i+2<n∧cst ys (2 * i+2)<cst ys (2 * i+1)):=⟨_,rfl⟩
 refine seq <| cut (J:=fun a w=>Fr 48 a w [(0,E (wyI bw)),(1,E (I 0)),(2,E (I (n:Nat))),(7,E (I (i:Nat))),(8,E (I ((2 * i+1:Nat):Int))),(9,E (I ((2 * i+1:Nat):Int))),(10,E (I ((2 * i+2:Nat):Int))),(33,E (B q))]∧Chg (HpS bw v) W w∧HpW bw v ys w) ?_ (fun a w hJ=>?_)
 ·by_cases h2:2 * i+2<n
  ·have hqq:q=decide (cst ys (2 * i+2)<cst ys (2 * i+1)):=by
    rw[hq]
    by_cases h3:cst ys (2 * i+2)<cst ys (2 * i+1)
    ·rw[decide_eq_true h3,decide_eq_true ⟨h2,h3⟩]
    ·rw[decide_eq_false h3,decide_eq_false fun h=>h3 h.2]
   refine rgN 9 hf <| st (mv rfl) <| st (mv rfl) <| st ((lss rfl rfl).eq (congrArg Value.bool ((decide_eq_true (by omega):_=true)))) <| st (mv rfl) <| sy rfl rfl (mv rfl) <| sy rfl rfl (mv rfl) <| sy rfl rfl (mv rfl) <| sy rfl rfl (jD (A:=E (B q)) (B:=E (I ((2 * i+2:Nat):Int))) (C:=E (I ((2 * i+1:Nat):Int))) (jG H.p) rfl rfl rfl (fun a b w he h1 h2=>by cases h1;cases h2;have:=jF ys (2 * i+2) (2 * i+1) v w (H.o.ext he) (by omega) (by omega);rwa [← hqq] at this)) ?_
   refine st (pkT rfl rfl) <| en fun a w e' hf=>?_
   replace H:=H.ext e'
   replace c:=c.ext e'
   refine aa ?_
   replace hf:=hf.keep [0,1,2,7,8,9,10,33]
   exact⟨rfl,hf,c,H⟩
  ·have hqq:false=q:=by rw[hq,decide_eq_false fun h=>h2 h.1]
   refine rgN 9 hf <| st (mv rfl) <| st (mv rfl) <| st ((lss rfl rfl).eq (congrArg Value.bool ((decide_eq_false (by omega):_=false)))) <| st (mv rfl) <| sn rfl rfl rfl <| sn rfl rfl rfl <| sn rfl rfl rfl <| sn rfl rfl rfl <| st (pkF rfl rfl) <| en fun a w e' hf=>?_
   replace H:=H.ext e'
   replace c:=c.ext e'
   refine aa ?_
   replace hf:=hf.keep [0,1,2,7,8,9,10,33]
   rw[hqq] at hf
   exact⟨rfl,hf,c,H⟩
 obtain⟨hf,c,H⟩:=hJ
 refine cut (J:=fun a w=>∃j:Nat,j<n∧0<j∧(j - 1) / 2=i∧(∀k,k<n→0<k→(k - 1) / 2=i→cst ys j≤cst ys k)∧Fr 48 a w [(0,E (wyI bw)),(1,E (I 0)),(2,E (I (n:Nat))),(7,E (I (i:Nat))),(9,E (I (j:Nat)))]∧Chg (HpS bw v) W w∧HpW bw v ys w) ?_ (fun a w hJ=>?_)
 ·refine ifc hf rfl (fun hb=>?_) (fun hb=>?_)
  ·replace hb:q=true:=hb
   rw[hq] at hb
   obtain⟨h2,h3⟩:=of_decide_eq_true hb
   refine rgN 1 hf <| st (mv rfl) <| en fun a w e' hf=>?_
   replace H:=H.ext e'
   replace c:=c.ext e'
   refine tA hf rfl fun a hf=>aa ?_
   replace hf:=hf.keep [0,1,2,7,9]
   refine⟨rfl,2 * i+2,h2,by omega,by omega,fun k hk k0 hp=>?_,hf,c,H⟩
   rcases (show k=2 * i+1∨k=2 * i+2 by omega) with rfl|rfl
   ·omega
   ·exact Int.le_refl _
  ·replace hb:q=false:=hb
   rw[hq] at hb
   have h3:=of_decide_eq_false hb
   refine ak ?_
   replace hf:=hf.keep [0,1,2,7,9]
   refine⟨rfl,2 * i+1,h1,by omega,by omega,fun k hk k0 hp=>?_,hf,c,H⟩
   rcases (show k=2 * i+1∨k=2 * i+2 by omega) with rfl|rfl
   ·exact Int.le_refl _
   ·exact Int.not_lt.1 fun h=>h3 ⟨hk,h⟩
 obtain⟨j,hj,j0,hji,hmin,hf,c,H⟩:=hJ
 by_cases hlt:cst ys j<cst ys i
 ·repeat refine seq ?_
  refine rgN 5 hf <| st (mv rfl) <| st (mv rfl) <| st (mv rfl) <| st (jD (A:=E (B true)) (B:=E (I (j:Nat))) (C:=E (I (i:Nat))) (jG H.p) rfl rfl rfl (fun a b w he h1 h2=>by cases h1;cases h2;have:=jF ys j i v w (H.o.ext he) (by omega) (by omega);rwa [decide_eq_true hlt] at this)) ?_
  refine st (bA rfl) <| en fun a w e' hf=>?_
  replace H:=H.ext e'
  replace c:=c.ext e'
  refine aa <| ifc hf rfl (fun h=>by cases h) (fun _=>ak ?_)
  replace hf:=hf.kp [0,1,2,7,9]
  refine seq <| rgN 3 hf <| st (mv rfl) <| st (mv rfl) <| st (mv rfl) <| en fun a w e' hf=>?_
  replace H:=H.ext e'
  replace c:=c.ext e'
  refine jE (S:=fun b=>v.ownBlock=some b) (F:=fun z w'=>OwR wyE 172 1 G0 w' (swp ys i j) v) hf (by decide) (oq H.p) rfl ?_ fun a z w hc hF hf=>?_
  ·have e1:a.eval (.tmp 41)=I (i:Nat):=hf.opd (.tmp 41) _ rfl
   have e2:a.eval (.tmp 42)=I (j:Nat):=hf.opd (.tmp 42) _ rfl
   simp only[List.map_toArray,List.map_cons,List.map_nil,e1,e2]
   exact (om ys i j v w H.o (by omega) (by omega)).mono fun en w' ⟨k1,k2,k3⟩=>⟨_,k1,k2,k3⟩
  replace H:=H.swap hc hF
  replace c:=c.tr (hc.to (S':=HpS bw v) fun b _ h=>.inr h)
  refine aa ?_
  replace hf:=hf.keep [0,1,2,9]
  refine rgN 1 hf <| st (mv rfl) <| en fun a w e' hf=>?_
  replace H:=H.ext e'
  replace c:=c.ext e'
  refine tA hf rfl fun a hf=>aa ?_
  simp only[Exit.inBlock]
  replace hf:=hf.keep [0,1,2,7]
  refine⟨r0,Nat.lt_succ_self _,swp ys i j,j,by omega,?_,by rw[gx,hys],fun e=>(oh (by omega) (by omega) e).trans (hmem e),fun k hk=>?_,by omega,hf,c,H⟩
  ·rw[uj (by omega) (by omega)]
   exact hU.go j0 hj hji hlt hmin
  ·rw[gy (by omega) (by omega),if_neg (by omega),if_neg (by omega)]
   exact hgt k hk
 ·repeat refine seq ?_
  refine rgN 5 hf <| st (mv rfl) <| st (mv rfl) <| st (mv rfl) <| st (jD (A:=E (B false)) (B:=E (I (j:Nat))) (C:=E (I (i:Nat))) (jG H.p) rfl rfl rfl (fun a b w he h1 h2=>by cases h1;cases h2;have:=jF ys j i v w (H.o.ext he) (by omega) (by omega);rwa [decide_eq_false hlt] at this)) ?_
  refine st (bA rfl) <| en fun a w e' hf=>?_
  replace H:=H.ext e'
  replace c:=c.ext e'
  refine aa <| ifc hf rfl (fun _=>aG ?_) (fun h=>by cases h)
  simp only[Exit.then,Exit.inBlock,↓reduceIte]
  rw[if_neg (show ¬(0:Nat)=1 by decide)]
  exact⟨trivial,ys,i,hU.stop fun k hk k0 hp=>Int.le_trans (Int.not_lt.1 hlt) (hmin k hk k0 hp),hys,hmem,hgt,hf.keep [1,7],c,H⟩
theorem a2O (xs:List (Int×Nat))(x:Int×Nat)(bw:Nat)(v:Value)(W:World)(H:HpW bw v xs W)(hh:HpC xs.length (cst xs))(hl:xs.length<100000000) :
  Calls Tryz.prog 108 #[wyI bw,.iface 172 (wyV x)] W (fun en w'=>en=.returned (.tuple #[])∧∃v' ys,Chg (HpS bw v) W w'∧HpW bw v' ys w'∧OwL W v v'∧ys.length=xs.length+1∧(∀e,e∈ys↔e∈xs∨e=x)∧HpC ys.length (cst ys)):=by
 refine eN [wyI bw,.iface 172 (wyV x)] [E (wyI bw),E (.iface 172 (wyV x))] Tryz.func108 Tryz.ntmps108 ?_ fun a hf=>?_
 rotate_left
 dsimp only[params,Nat.reduceAdd] at hf
 rotate_right
 ·exact arg2 rfl rfl
 have c:Chg (HpS bw v) W W:=Chg.rfl' _ _
 have hn:(xs++[x]).length=xs.length+1:=by rw[List.length_append];rfl
 refine seq <| rgN 2 hf <| st (mv rfl) <| st (mv rfl) <| en fun a w e' hf=>?_
 replace H:=H.ext e'
 replace c:=c.ext e'
 refine jE (S:=HpS bw v) (F:=fun z w'=>∃v',HpW bw v' (xs++[x]) w'∧OwL W v v') hf (by decide) (a2J bw _) rfl ?_ fun a z w hc hF hf=>?_
 ·have e1:a.eval (.tmp 5)=.iface 172 (wyV x):=hf.opd (.tmp 5) _ rfl
  have hs:=c.size
  simp only[List.map_toArray,List.map_cons,List.map_nil,e1]
  exact (a2H xs x bw v _ H (by omega)).mono fun en w' ⟨k1,v',k2,k3,k4⟩=>⟨_,k1,k2,v',k3,fun b hb=>(k4 b hb).imp id fun h=>Nat.le_trans hs h⟩
 replace c:=c.tr hc
 obtain⟨v',H,hle⟩:=hF
 refine aa ?_
 replace hf:=hf.kp [0]
 refine rgN 4 hf <| st (mv rfl) <| st (mv rfl) <| st (ud (A:=E (I ((xs++[x]).length:Nat))) (ui H.p) rfl (fun w he=>ly (xs++[x]) v' w (H.o.ext he))) <| st ((sub rfl rfl (by omega)).eq (congrArg (Value.int .i64) (show (((xs++[x]).length:Nat):Int) - 1=((xs.length:Nat):Int) by omega))) <| en fun a w e' hf=>?_
 replace H:=H.ext e'
 replace c:=c.ext e'
 have hup:=a2v x hh
 refine bU (S:=HpS bw v') (F:=fun z w'=>z=.tuple #[]∧∃ys,HpW bw v' ys w'∧ys.length=(xs++[x]).length∧(∀e,e∈ys↔e∈xs++[x])∧HpC (xs++[x]).length (cst ys)) hf (by decide) xE ?_ fun a z w hc hF hf=>?_
 ·have e1:a.eval (.tmp 7)=wyI bw:=hf.opd (.tmp 7) _ rfl
  have e2:a.eval (.tmp 10)=I (xs.length:Nat):=hf.opd (.tmp 10) _ rfl
  simp only[List.map_toArray,List.map_cons,List.map_nil,e1,e2]
  exact (a2M (xs++[x]) xs.length bw v' _ H (by omega) hup (by omega)).mono fun en w' ⟨k1,ys,k2,k3,k4,k5,k6⟩=>⟨_,k1,k2,rfl,ys,k3,k4,k5,k6⟩
 replace c:=HpS.tr c hle hc
 obtain⟨rfl,ys,H,h1,h2,h3⟩:=hF
 refine aa <| dG rfl hf ⟨rfl,v',ys,c,H,hle,h1.trans hn,fun e=>(h2 e).trans (by rw[List.mem_append,List.mem_singleton]),by rw[h1];exact h3⟩
theorem a2P (xs:List (Int×Nat))(bw:Nat)(v:Value)(W:World)(H:HpW bw v xs W)(hh:HpC xs.length (cst xs))(h0:xs≠[])(hl:xs.length≤100000000) :
  Calls Tryz.prog 110 #[wyI bw] W (fun en w'=>∃x v' ys,en=.returned (.iface 172 (wyV x))∧Chg (HpS bw v) W w'∧HpW bw v' ys w'∧OwL W v v'∧ys.length+1=xs.length∧x∈xs∧(∀e∈xs,x.1≤e.1)∧(∀e∈ys,e∈xs)∧(∀e∈xs,e≠x→e∈ys)∧HpC ys.length (cst ys)):=by
 have hl0:0<xs.length:=List.length_pos_iff.2 h0
 obtain⟨m,hm⟩:∃m,m=xs.length - 1:=⟨_,rfl⟩
 have hdn:=a2w h0 hh
 rw[← hm] at hdn
 refine eN [wyI bw] [E (wyI bw)] Tryz.func110 Tryz.ntmps110 ?_ fun a hf=>?_
 rotate_left
 dsimp only[params,Nat.reduceAdd] at hf
 rotate_right
 ·exact arg1 rfl
 have c:Chg (HpS bw v) W W:=Chg.rfl' _ _
 refine seq <| ae <| tA hf rfl fun a hf=>aa <| seq <| rgN 3 hf <| st (mv rfl) <| st (ud (A:=E (I (xs.length:Nat))) (ui H.p) rfl (fun w he=>ly xs v w (H.o.ext he))) <| st ((sub rfl rfl (by omega)).eq (congrArg (Value.int .i64) (show ((xs.length:Nat):Int) - 1=((m:Nat):Int) by omega))) <| en fun a w e' hf=>?_
 replace H:=H.ext e'
 replace c:=c.ext e'
 refine tA hf rfl fun a hf=>aa ?_
 replace hf:=hf.kp [0,3]
 refine seq <| rgN 2 hf <| st (mv rfl) <| st (mv rfl) <| en fun a w e' hf=>?_
 replace H:=H.ext e'
 replace c:=c.ext e'
 refine jE (S:=fun b=>v.ownBlock=some b) (F:=fun z w'=>OwR wyE 172 1 G0 w' (swp xs 0 m) v) hf (by decide) (oq H.p) rfl ?_ fun a z w hc hF hf=>?_
 ·have e1:a.eval (.const (.int .i64 0))=I ((0:Nat):Int):=rfl
  have e2:a.eval (.tmp 8)=I (m:Nat):=hf.opd (.tmp 8) _ rfl
  simp only[List.map_toArray,List.map_cons,List.map_nil,e1,e2]
  exact (om xs 0 m v _ H.o (by omega) (by omega)).mono fun en w' ⟨k1,k2,k3⟩=>⟨_,k1,k2,k3⟩
 replace H:=H.swap hc hF
 replace c:=c.tr (hc.to (S':=HpS bw v) fun b _ h=>.inr h)
 refine aa ?_
 replace hf:=hf.kp [0,3]
 refine seq <| rgN 2 hf <| st (mv rfl) <| st (mv rfl) <| en fun a w e' hf=>?_
 replace H:=H.ext e'
 replace c:=c.ext e'
 have hsl:=gx xs 0 m
 refine bU (S:=HpS bw v) (F:=fun z w'=>(∃b,z=B b)∧∃ys,HpW bw v ys w'∧ys.length=(swp xs 0 m).length∧(∀e,e∈ys↔e∈swp xs 0 m)∧HpC m (cst ys)∧∀k,m≤k→ys.getD k (0,0)=(swp xs 0 m).getD k (0,0)) hf (by decide) xF ?_ fun a z w hc hF hf=>?_
 ·have e1:a.eval (.tmp 10)=wyI bw:=hf.opd (.tmp 10) _ rfl
  have e2:a.eval (.tmp 11)=I (m:Nat):=hf.opd (.tmp 11) _ rfl
  have e3:a.eval (.const (.int .i64 0))=I 0:=rfl
  simp only[List.map_toArray,List.map_cons,List.map_nil,e1,e2,e3]
  exact (a2N (swp xs 0 m) m bw v _ H (by omega) hdn (by omega)).mono fun en w' ⟨b,ys,k1,k2,k3,k4,k5,k6,k7⟩=>⟨_,k1,k2,⟨b,rfl⟩,ys,k3,k4,k5,k6,k7⟩
 obtain⟨⟨b,rfl⟩,zs,H,z1,z2,z3,z4⟩:=hF
 replace c:=c.tr hc
 refine aa ?_
 replace hf:=hf.kp [0]
 obtain⟨x,hx⟩:∃x,x=xs.getD 0 (0,0):=⟨_,rfl⟩
 have hzm:zs.getD m (0,0)=x:=by
  rw[z4 m (Nat.le_refl _),gy (by omega) (by omega),if_pos rfl,hx]
 have hzl:zs.length=m+1:=by omega
 have hsplit:zs=zs.take m++[x]:=by
  rw[← hzm]
  refine List.ext_getElem? fun k=>?_
  have hl1:(zs.take m).length=m:=by rw[List.length_take];omega
  by_cases hk:k<m
  ·rw[List.getElem?_append_left (by omega),List.getElem?_take,if_pos hk]
  ·rw[List.getElem?_append_right (by omega),hl1]
   by_cases hk2:k=m
   ·rw[hk2,Nat.sub_self,List.getElem?_cons_zero]
    exact lx (by omega)
   ·rw[List.getElem?_eq_none (by omega),List.getElem?_eq_none (by rw[List.length_singleton];omega)]
 obtain⟨ys,hys⟩:∃ys,ys=zs.take m:=⟨_,rfl⟩
 rw[← hys] at hsplit
 have hyl:ys.length=m:=by rw[hys,List.length_take];omega
 rw[hsplit] at H
 have hmem:∀e,e∈xs↔e∈ys∨e=x:=fun e=>by
  rw[← oh (i:=0) (j:=m) (by omega) (by omega) e,← z2 e,hsplit,List.mem_append,List.mem_singleton]
 have hx0:x∈xs:=(hmem x).2 (.inr rfl)
 have hmin:∀e∈xs,x.1≤e.1:=fun e he=>by
  obtain⟨k,hk,rfl⟩:=og.1 he
  rw[hx]
  exact hh.top k hk
 have hfin:HpC ys.length (cst ys):=by
  rw[hyl]
  exact z3.congr fun k hk=>by rw[hys];exact a2x hk
 refine seq <| rgN 1 hf <| st (mv rfl) <| en fun a w e' hf=>?_
 replace H:=H.ext e'
 replace c:=c.ext e'
 refine jE (S:=HpS bw v) (F:=fun z w'=>z=.iface 172 (wyV x)∧∃v',HpW bw v' ys w'∧OwL W v v') hf (by decide) (a2K bw _) rfl ?_ fun a z w hc hF hf=>?_
 ·have hs:=c.size
  simp only[List.map_toArray,List.map_nil]
  exact (a2I ys x bw v _ H (by omega)).mono fun en w' ⟨k1,v',k2,k3,k4⟩=>⟨_,k1,k2,rfl,v',k3,fun b hb=>(k4 b hb).imp id fun h=>Nat.le_trans hs h⟩
 obtain⟨rfl,v',H,hle⟩:=hF
 replace c:=c.tr hc
 refine tA hf rfl fun a hf=>aa <| ai <| ap rfl hf rfl ?_
 rintro _ rfl
 exact⟨x,v',ys,rfl,c,H,hle,by omega,hx0,hmin,fun e he=>(hmem e).2 (.inl he),fun e he hne=>((hmem e).1 he).resolve_right hne,hfin⟩
structure StW (W:World)(bw:Nat)(v0:Value)(b6 bp B:Nat)(cost:Int)(xs:List (Int×Nat))(s:List Nat)(v:Value)(ys:List (Int×Nat))(w:World):Prop where
 c:Chg (HpS bw v0) W w
 t:Tab w
 p6:Blk w b6 #[I cost] 3
 pp:Blk w bp #[ptr bw] 167
 h:HpW bw v ys w
 l:OwL W v0 v
 n:ys.length=xs.length+s.length
 m:∀e,e∈ys↔e∈xs∨(e.1=cost∧e.2∈s)
 hp:HpC ys.length (cst ys)
 k:∀b,v.ownBlock=some b→¬aS B b
theorem HpW.ch {bw:Nat}{v:Value}{xs:List (Int×Nat)}{w w':World}{S:Nat→Prop}(h:HpW bw v xs w)(c:Chg S w w')(hS:¬S bw)(hS2:∀b,v.ownBlock=some b→¬S b):HpW bw v xs w':=⟨h.p.ch c hS,h.o.chE c hS2⟩
theorem HpS.pos {bw b:Nat}{v:Value}{xs:List (Int×Nat)}{w:World}(h:HpW bw v xs w)(h0:0<bw)(hb:HpS bw v b):0<b:=hb.elim (fun e=>by rw[e];exact h0) fun e=>(h.o.lt e).1
theorem StW.kp {W:World}{bw b6 bp B:Nat}{v0 v:Value}{cost:Int}{xs ys:List (Int×Nat)}{s:List Nat}{w w':World}(h:StW W bw v0 b6 bp B cost xs s v ys w)(k:Kp B w w')(hW:W.heap.size≤B)(h0:0<B)(l6:b6<B)(lp:bp<B)(lw:bw<B):StW W bw v0 b6 bp B cost xs s v ys w':=
 ⟨h.c.kp k hW,h.t.kp k h0,h.p6.kp k (fun hh=>by have:=hh.1;omega),h.pp.kp k (fun hh=>by have:=hh.1;omega),h.h.ch k.chg (fun hh=>by have:=hh.1;omega) h.k,h.l,h.n,h.m,h.hp,h.k⟩
theorem cr {l:List (Int×BS)}{bm nm:Nat}{w:World}(h:MpR sKV w bm nm l):(Dv (mpE sKV nm) G0 l).p (.map (some bm)) w:=⟨[.map (some bm)],⟨bm,nm,rfl,fun h=>h,Nat.le_refl _,h⟩,rfl⟩
theorem bWy (c:Int)(n:Nat):Tryz.prog.built 172 [(0,I c),(1,I (n:Nat))]=some #[I c,I (n:Nat)]:=by kernel_rfl
theorem a2Q {l:List (Int×BS)}{bm nm bn br bs bp bw:Nat}{R D:BS}(cost:Int)(id:Nat)(xs:List (Int×Nat))(v:Value)(W:World)(hT:Tab W)(hid:id<1024)(hn:Blk W bn #[.map (some bm)] 64)(HM:MpR sKV W bm nm l)(hr:Blk W br (au R) 68)(hs:Blk W bs (au D) 68)(hp:Blk W bp #[ptr bw] 167)
  (H:HpW bw v xs W) (hw0:0<bw) (hh:HpC xs.length (cst xs)) (hl:xs.length≤10000000) :
  Calls Tryz.prog 107 #[I cost,I (id:Nat),ptr bn,ptr br,ptr bs,ptr bp] W (fun en w'=>en=.returned (.tuple #[])∧∃v' ys,Chg (HpS bw v) W w'∧HpW bw v' ys w'∧OwL W v v'∧ys.length≤xs.length+1024∧(∀e,e∈ys↔e∈xs∨(e.1=cost∧(lkS l (id:Int) &&& R &&& ~~~D).getLsbD e.2=true))∧HpC ys.length (cst ys)):=by
 have hwid:(Lit.int .i64 (id:Int)).wf=true:=bh (by omega) (by omega)
 have hT0:=hT.lt
 have hbwW:=H.p.lt
 have hbpW:=hp.lt
 have hownW:∀b,v.ownBlock=some b→b<W.heap.size:=fun b hb=>(H.o.lt hb).2
 have hpw:bp≠bw:=hp.ne H.p (by decide)
 refine cq (args:=[I cost,I (id:Nat),ptr bn,ptr br,ptr bs,ptr bp]) (As:=[E (I cost),E (I (id:Nat)),E (ptr bn),E (ptr br),E (ptr bs),E (ptr bp)]) Tryz.func107 rfl Tryz.ntmps107 (Nat.le_of_ble_eq_true rfl) ?_ (fun a hf=>?_) (Nat.le_of_ble_eq_true rfl)
 ·exact aQ rfl (aQ rfl (aQ rfl (aQ rfl (aQ rfl (aQ rfl cO)))))
 dsimp only[params,Nat.reduceAdd] at hf
 have e:=Ext.rfl' W
 refine seq <| ae <| tB hf rfl fun a b6 w v6 hv6 e' hb6 hs6 B6 hf=>?_
 replace HM:=HM.ext e'
 replace H:=H.ext e'
 replace hT:=hT.ext e'
 replace e:=e.tr e'
 replace hn:=hn.ext e'
 replace hr:=hr.ext e'
 replace hs:=hs.ext e'
 replace hp:=hp.ext e'
 refine aa ?_
 cases hv6
 replace B6:Blk w b6 #[I cost] 3:=B6
 obtain⟨S,hS⟩:∃S,S=lkS l (id:Int) &&& R &&& ~~~D:=⟨_,rfl⟩
 obtain⟨Nz,hNz⟩:∃Nz,Nz=w.heap.size:=⟨_,rfl⟩
 have hdv:=cr HM
 replace hf:=hf.keep [1,2,3,4,5,6]
 refine seq <| rgG 8 Mix.mix hf <| st (ld1 (v:=.map (some bm)) T64 rfl hn rfl) <| st (mv rfl) <| st (lkM (l:=l) (i:=(id:Int)) U64 cG (isE rfl hdv) rfl hwid) <| st ((ldW T68 rfl hr rfl).eq ((rfl:_=ac R))) <| st (ar (A:=E (ac (lkS l (id:Int) &&& R))) fj rfl rfl (fun v u w he h h'=>by cases h;cases h';exact fw _ R w)) ?_
 refine st ((ldW T68 rfl hs rfl).eq ((rfl:_=ac D))) <| st (ar (A:=E (ac S)) cX rfl rfl (fun v u w he h h'=>by cases h;cases h';rw[hS];exact db _ D w)) ?_
 refine st (an (A:=bW Nz S) cg rfl (fun v w' he h=>by cases h;exact Calls.mono (cm _ w') (fun en w2 ⟨u,h1,h2,b',h3,h4,h5⟩=>⟨u,h1,h2,b',by have:=he.size;omega,h4,h5⟩))) ?_
 refine en fun a w e' hf=>?_
 replace H:=H.ext e'
 replace hT:=hT.ext e'
 replace e:=e.tr e'
 replace hn:=hn.ext e'
 replace hr:=hr.ext e'
 replace hs:=hs.ext e'
 replace hp:=hp.ext e'
 replace B6:=B6.ext e'
 refine aa ?_
 obtain⟨vv,⟨b16,h16,rfl,BS⟩,hf⟩:=hf.fix 16 rfl
 replace hf:=hf.kp [5,6,16]
 have hBW:W.heap.size≤w.heap.size:=e.size
 have h0w:0<w.heap.size:=hT.lt
 have l6:=B6.lt
 have lp:=hp.lt
 have lw:=H.p.lt
 have n6:b6≠bw∧b6≠bp∧W.heap.size≤b6:=by omega
 have n7:b6≠0:=by omega
 refine blk <| cC (S:=S) hf rfl BS (by decide) (fun sl w1=>∃v' ys,StW W bw v b6 bp w.heap.size cost xs sl v' ys w1) (fun _ _=>False) (fun sl w1 ⟨_,_,h⟩=>h.t)
  ⟨v,xs,e.chg _,hT,B6,hp,H,fun b hb=>.inl hb,rfl,fun e=>⟨.inl,fun h=>h.elim (fun h=>h) fun h=>by simp at h⟩,hh,fun b hb hH=>by have:=hownW b hb;have:=hH.1;omega⟩ (fun sl w1 w2 ⟨v1,ys1,h⟩ hs k=>⟨v1,ys1,h.kp k hBW h0w l6 lp lw⟩) (fun _ _ _ h=>h.elim) ?_ ?_ (fun _ _ _ _ _ _ h=>h.elim)
 ·intro lb sl x rest a1 w1 hs hJ hlw hf
  have hx1024:x<1024:=(aH.1 (by rw[hs];simp)).1
  have hsl:sl.length<1024:=by have:=bX S;rw[hs] at this;simp at this;omega
  generalize hBz:w.heap.size=Bz at *
  refine ae <| tA hf rfl fun a hf=>aa <| ⟨Kh.rfl' _ _,fun w3 k3 hsz3=>?_⟩
  obtain⟨v1,ys,hJ⟩:=hJ
  have hJ3:=hJ.kp k3 hBW h0w l6 lp lw
  have hw3:Bz+3≤w3.heap.size:=by omega
  replace hf:=hf.pure w3
  obtain⟨c,hT,B6,hp,H,hle,hn,hm,hhp,hk⟩:=hJ3
  have kh:=Kh.rfl' Bz w3
  have hNw:Bz+3≤w3.heap.size:=hw3
  replace hf:=hf.kp [5,6,8]
  refine blk <| rgN 6 hf <| st (ld1 (v:=ptr bw) iP rfl hp rfl) <| st (mkI gG rfl rfl) <| st (ld1 (v:=I cost) T3 rfl B6 rfl) <| st (mv rfl) <| st (bK [(0,_),(1,_)] rfl (bWy cost x)) <| st (mkI cY rfl rfl) <| en fun a w e' hf=>?_
  replace hT:=hT.ext e'
  replace H:=H.ext e'
  replace c:=c.ext e'
  replace kh:=kh.tr (Kh.ext e')
  obtain⟨hNw,B6,hp⟩:=up3 e' hNw B6 hp
  refine bU (S:=HpS bw v1) (F:=fun z w'=>z=.tuple #[]∧∃v2 zs,HpW bw v2 zs w'∧OwL w v1 v2∧zs.length=ys.length+1∧(∀e,e∈zs↔e∈ys∨e=(cost,x))∧HpC zs.length (cst zs)) hf (by decide) wY ?_ fun a z w hc hF hf=>?_
  ·have e1:a.eval (.tmp 19)=wyI bw:=hf.opd (.tmp 19) _ rfl
   have e2:a.eval (.tmp 23)=.iface 172 (wyV (cost,x)):=hf.opd (.tmp 23) _ rfl
   simp only[List.map_toArray,List.map_cons,List.map_nil,e1,e2]
   exact (a2O ys (cost,x) bw v1 _ H hhp (by omega)).mono fun en w' ⟨k1,v2,zs,k2,k3,k4,k5,k6,k7⟩=>⟨_,k1,k2,rfl,v2,zs,k3,k4,k5,k6,k7⟩
  obtain⟨rfl,v2,zs,H2,hle2,hn2,hm2,hhp2⟩:=hF
  have hS6:¬HpS bw v1 b6:=fun h=>h.elim (fun h=>n6.1 h) fun h=>H.o.neB B6 (by decide) h
  have hSp:¬HpS bw v1 bp:=fun h=>h.elim (fun h=>hpw h) fun h=>H.o.neB hp (by decide) h
  have hS0:¬HpS bw v1 0:=fun h=>absurd (HpS.pos H hw0 h) (Nat.lt_irrefl 0)
  have hSh:∀b,HpS bw v1 b→¬aS Bz b:=fun b h=>h.elim (fun h hh=>by have:=hh.1;omega) fun h=>hk b h
  refine aa ?_
  simp only[Exit.inBlock]
  refine⟨⟨v2,zs,HpS.tr c hle hc,hT.ch hc hS0,B6.ch hc hS6,hp.ch hc hSp,H2,hle.tr hle2 c.size,by rw[hn2,hn,List.length_append];rfl,fun e=>?_,hhp2,fun b hb=>(hle2 b hb).elim (hk b) fun h hh=>by have:=hh.2;omega⟩,kh.tr (Kh.chg hc hSh)⟩
  rw[hm2,hm,List.mem_append,List.mem_singleton]
  obtain⟨e1,e2⟩:=e
  simp only[Prod.mk.injEq]
  constructor
  ·rintro ((h|⟨h1,h2⟩)|⟨h1,h2⟩)
   ·exact .inl h
   ·exact .inr ⟨h1,.inl h2⟩
   ·exact .inr ⟨h1,.inr h2⟩
  ·rintro (h|⟨h1,h2|h2⟩)
   ·exact .inl (.inl h)
   ·exact .inl (.inr ⟨h1,h2⟩)
   ·exact .inr ⟨h1,h2⟩
 ·intro a' w' hf' hJ hsz hDn
  simp only[Exit.inBlock,↓reduceIte,Exit.then]
  obtain⟨v1,ys,⟨c,hT,B6,hp,H,hle,hn,hm,hhp,hk⟩⟩:=hJ
  have hD:Ds [w.heap.size] w':=(Ds.nil w').cons hDn (by simp)
  have hf:FrD 25 (bq [w.heap.size]) a' w' []:=hf'.keep []
  have hsh:=eb [w.heap.size] w'
  have hno:∀b,b∈[w.heap.size]→aS w.heap.size b:=fun b hb=>by rw[List.mem_singleton] at hb;rw[hb];exact⟨Nat.le_refl _,by omega⟩
  have hel:(elems S).length≤1024:=bX S
  refine gh rfl hf hD ⟨rfl,v1,ys,c.tr2 hsh fun b hb=>.inr (by have:=(hno b hb).1;omega),H.ch hsh (fun h=>by have:=(hno _ h).1;omega) (fun b hb h=>hk b hb (hno b h)),hle,by omega,fun e=>(hm e).trans ?_,hhp⟩
  rw[← hS]
  exact or_congr Iff.rfl (and_congr Iff.rfl (aH.trans ⟨fun h=>h.2,fun h=>⟨ay h,h⟩⟩))
end Go.Mono
namespace Go.Mono
open Go Go.Proofs Go.RowKit Go.Gr
theorem iA {l:List (Int×BS)}{bm n:Nat}(id:Nat)(W:World)(hid:id<1024)(HM:MpR sKV W bm n l) :
  Calls Tryz.prog 66 #[.map (some bm),I (id:Nat)] W (Post (E (I (card (lkS l (id:Int)):Nat))) W):=by
 have hwi:(Lit.int .i64 (id:Int)).wf=true:=bh (by omega) (by omega)
 refine eN [.map (some bm),I (id:Nat)] [E (.map (some bm)),E (I (id:Nat))] Tryz.func66 Tryz.ntmps66 ?_ fun a hf=>?_
 rotate_left
 rotate_right
 ·exact arg2 rfl rfl
 have e:=Ext.rfl' W
 refine seq <| ae <| tA hf rfl fun a hf=>aa ?_
 have hdv:=cr HM
 refine seq <| rgN 4 hf <| st (mv rfl) <| st (mv rfl) <| st (lkM (l:=l) (i:=(id:Int)) bP cG (isE rfl hdv) rfl hwi) <| st (an (A:=E (I (card (lkS l (id:Int)):Nat))) gY rfl (fun v w he h=>by cases h;exact ir _ w)) ?_
 refine en fun a w e' hf=>?_
 obtain⟨HM,e⟩:=up2 e' HM e
 refine tA hf rfl fun a hf=>aa <| ai <| ap rfl hf rfl ?_
 rintro _ rfl
 exact⟨_,rfl,e,rfl⟩
structure AwW (W:World)(bm b2 b3 id:Nat)(J:BS)(f:Nat→BS)(l:List (Int×BS))(w:World):Prop where
 c:Chg (fun b=>b=bm) W w
 t:Tab w
 p2:Blk w b2 #[.map (some bm)] 121
 p3:Blk w b3 #[I (id:Nat)] 3
 m:MpR sKV w bm l.length l
 r:NrM l J f
theorem AwW.kp {W:World}{bm b2 b3 id B:Nat}{J:BS}{f:Nat→BS}{l:List (Int×BS)}{w w':World}(h:AwW W bm b2 b3 id J f l w)(k:Kp B w w')(hW:W.heap.size≤B)(h0:0<B)(l2:b2<B)(l3:b3<B)(lm:bm<B):AwW W bm b2 b3 id J f l w':=
 ⟨h.c.kp k hW,h.t.kp k h0,h.p2.kp k (fun hh=>by have:=hh.1;omega),h.p3.kp k (fun hh=>by have:=hh.1;omega),h.m.pres (k.same _ h.m.lt (fun hh=>by have:=hh.1;omega)),h.r⟩
theorem AwW.ext {W:World}{bm b2 b3 id:Nat}{J:BS}{f:Nat→BS}{l:List (Int×BS)}{w w':World}(h:AwW W bm b2 b3 id J f l w)(e:Ext w w'):AwW W bm b2 b3 id J f l w':=
 ⟨h.c.ext e,h.t.ext e,h.p2.ext e,h.p3.ext e,h.m.ext e,h.r⟩
theorem AwW.put {W:World}{bm b2 b3 id n:Nat}{J:BS}{f f':Nat→BS}{l l':List (Int×BS)}{w w':World}(h:AwW W bm b2 b3 id J f l w)(hg:w.grownBy w' (some bm))(n2:b2≠bm)(n3:b3≠bm)(h0:0<bm)(hM:MpR sKV w' bm n l')(hr:NrM l' J f'):AwW W bm b2 b3 id J f' l' w':=
 ⟨h.c.gr hg (.inl rfl),h.t.gr hg h0,h.p2.gr hg n2,h.p3.gr hg n3,hM.tight0,hr⟩
theorem ot {l:List (Int×BS)}{bm n:Nat}(id:Nat)(J:BS)(nh:Nat→BS)(W:World)(hT:Tab W)(HM:MpR sKV W bm n l)(hM:NrM l J nh)(hR:Nr J nh)(hid:J.getLsbD id=true)(h0m:0<bm) :
  Calls Tryz.prog 78 #[.map (some bm),I (id:Nat)] W (fun en w'=>en=.returned (.tuple #[])∧Chg (fun b=>b=bm) W w'∧∃l',MpR sKV w' bm l'.length l'∧NrM l' (del J (id:Int)) (awN nh id)):=by
 have hid':id<1024:=ay hid
 have hwi:(Lit.int .i64 (id:Int)).wf=true:=bh (by omega) (by omega)
 have hT0:=hT.lt
 have lmW:=HM.lt
 refine cq (args:=[.map (some bm),I (id:Nat)]) (As:=[E (.map (some bm)),E (I (id:Nat))]) Tryz.func78 rfl Tryz.ntmps78 (Nat.le_of_ble_eq_true rfl) ?_ (fun a hf=>?_) (Nat.le_of_ble_eq_true rfl)
 ·exact aQ rfl (aQ rfl cO)
 have e:=Ext.rfl' W
 refine seq <| ae <| tB hf rfl fun a b2 w v2 hv2 e' hb2 hs2 B2 hf=>?_
 obtain⟨HM,hT,e⟩:=up3 e' HM hT e
 refine tB hf rfl fun a b3 w v3 hv3 e' hb3 hs3 B3 hf=>?_
 obtain⟨HM,hT,e,B2⟩:=up4 e' HM hT e B2
 refine aa ?_
 cases hv2;cases hv3
 replace B2:Blk w b2 #[.map (some bm)] 121:=B2
 replace B3:Blk w b3 #[I (id:Nat)] 3:=B3
 have n2:b2≠bm∧b3≠bm:=by omega
 obtain⟨S,hS⟩:∃S,S=nh id:=⟨_,rfl⟩
 have hlk:lkS l (id:Int)=S:=by rw[hS];exact hM.val id hid
 obtain⟨Nz,hNz⟩:∃Nz,Nz=w.heap.size:=⟨_,rfl⟩
 have hdv:=cr HM
 replace hf:=hf.keep [2,3]
 repeat refine seq ?_
 refine rgN 4 hf <| st (ld1 (v:=.map (some bm)) bC rfl B2 rfl) <| st (ld1 (v:=I (id:Nat)) T3 rfl B3 rfl) <| st ((lkM (l:=l) (i:=(id:Int)) bP cG (isE rfl hdv) rfl hwi).eq (congrArg ac hlk)) <| st (an (A:=bW Nz S) cg rfl (fun v w' he h=>by cases h;exact Calls.mono (cm _ w') (fun en w2 ⟨u,h1,h2,b',h3,h4,h5⟩=>⟨u,h1,h2,b',by have:=he.size;omega,h4,h5⟩))) ?_
 refine en fun a w e' hf=>?_
 obtain⟨HM,hT,e,B2,B3⟩:=up5 e' HM hT e B2 B3
 refine aa ?_
 obtain⟨vv,⟨b8,h8,rfl,BS⟩,hf⟩:=hf.fix 8 rfl
 replace hf:=hf.kp [2,3,8]
 have hBW:W.heap.size≤w.heap.size:=e.size
 have h0w:0<w.heap.size:=hT.lt
 have l2:=B2.lt
 have l3:=B3.lt
 have lm:=HM.lt
 refine blk <| cC (S:=S) hf rfl BS (by decide) (fun s w1=>∃l',AwW W bm b2 b3 id J (fun o=>if o∈s then del (nh o) (id:Int) else nh o) l' w1) (fun _ _=>False) (fun s w1 ⟨_,h⟩=>h.t)
  ⟨l,e.chg _,hT,B2,B3,HM.tight0,hM.eq fun i hi=>by rw[if_neg (by simp)]⟩ (fun s w1 w2 ⟨l',h⟩ hs k=>⟨l',h.kp k hBW h0w l2 l3 lm⟩) (fun _ _ _ h=>h.elim) ?_ ?_ (fun _ _ _ _ _ _ h=>h.elim)
 ·intro lb s x rest a1 w1 hs hJ hlw hf
  have hxS:S.getLsbD x=true:=(aH.1 (by rw[hs];simp)).2
  have hx1024:x<1024:=ay hxS
  have hxJ:J.getLsbD x=true:=(hR id x hid (by rw[← hS];exact hxS)).1
  have hwx:(Lit.int .i64 (x:Int)).wf=true:=bh (by omega) (by omega)
  have hxs:x ∉ s:=by
   have hn:(elems S).Nodup:=List.Nodup.sublist List.filter_sublist List.nodup_range
   rw[hs] at hn
   intro hx
   exact (List.nodup_append.1 hn).2.2 x hx x (by simp) rfl
  generalize hBz:w.heap.size=Bz at *
  refine ae <| tA hf rfl fun a hf=>aa <| ⟨Kh.rfl' _ _,fun w3 k3 hsz3=>?_⟩
  obtain⟨l',hJ⟩:=hJ
  have h:=hJ.kp k3 hBW h0w l2 l3 lm
  replace hf:=hf.pure w3
  have kh:=Kh.rfl' Bz w3
  have hval:lkS l' (x:Int)=nh x:=by rw[h.r.val x hxJ,if_neg hxs]
  have hln:l'.length≤1024:=h.r.len (by obtain⟨_,_,_,hp⟩:=h.m;exact hp.2)
  have hdv:=cr h.m
  replace hf:=hf.kp [2,3,4]
  refine blk <| rgG 7 Mix.mix hf <| st (ld1 (v:=.map (some bm)) bC rfl h.p2 rfl) <| st (mv rfl) <| st (ld1 (v:=.map (some bm)) bC rfl h.p2 rfl) <| st (mv rfl) <| st ((lkM (l:=l') (i:=(x:Int)) bP cG (isE rfl hdv) rfl hwx).eq (congrArg ac hval)) <| st (ld1 (v:=I (id:Nat)) T3 rfl h.p3 rfl) <| st (ar (A:=E (ac (del (nh x) (id:Int)))) (B:=E (ac (nh x))) (C:=E (I (id:Nat))) fi rfl rfl (fun v u w he k1 k2=>by cases k1;cases k2;exact fq (nh x) (id:Int) w)) ?_
  refine en fun a w e' hf=>?_
  replace h:=h.ext e'
  replace kh:=kh.tr (Kh.ext e')
  refine dc (V:=sKV) (i:=(x:Int)) (c:=del (nh x) (id:Int)) bP hf rfl rfl rfl h.m (by simp only[maxLen];omega) hwx trivial fun w hg HM hf=>?_
  replace h:=h.put hg n2.1 n2.2 h0m HM (h.r.put hxJ (del (nh x) (id:Int)))
  replace kh:=kh.tr (Kh.gr hg fun hh=>by have:=hh.1;omega)
  refine aa ?_
  simp only[Exit.inBlock]
  refine⟨⟨_,h.c,h.t,h.p2,h.p3,h.m,h.r.eq fun i hi=>?_⟩,kh⟩
  by_cases hix:i=x
  ·rw[if_pos hix,if_pos (by rw[hix];simp),hix]
  ·rw[if_neg hix]
   by_cases his:i∈s
   ·rw[if_pos his,if_pos (List.mem_append_left _ his)]
   ·rw[if_neg his,if_neg fun hh=>(List.mem_append.1 hh).elim his fun hh=>hix (List.mem_singleton.1 hh)]
 ·intro a' w' hf' hJ hsz hDn
  simp only[Exit.inBlock,↓reduceIte,Exit.then]
  obtain⟨l',h⟩:=hJ
  have hD:Ds [w.heap.size] w':=(Ds.nil w').cons hDn (by simp)
  have hf:FrD 19 (bq [w.heap.size]) a' w' [(2,E (ptr b2)),(3,E (ptr b3))]:=hf'.keep [2,3]
  have hDW:∀d∈[w.heap.size],W.heap.size≤d:=fun d hd=>by rw[List.mem_singleton] at hd;omega
  have hbD:¬bm∈[w.heap.size]:=fun h=>by rw[List.mem_singleton] at h;omega
  generalize [w.heap.size]=D at *
  generalize w'=w at *
  refine rgN 2 hf <| st (ld1 (v:=.map (some bm)) bC rfl h.p2 rfl) <| st (ld1 (v:=I (id:Nat)) T3 rfl h.p3 rfl) <| en fun a w e' hf=>?_
  replace h:=h.ext e'
  replace hD:=hD.ext e'
  refine a2t (V:=sKV) (i:=(id:Int)) bP hf rfl rfl h.m hwi fun w hg HM hf=>?_
  have c:=h.c.gr hg (.inl rfl)
  replace hD:=hD.gr hg hbD
  have hr:=h.r.del hid'
  refine aa <| gh rfl hf hD ⟨rfl,c.tr2 (eb D w) fun b hb=>.inr (hDW b hb),_,(HM.tight0).pres (fz D w bm hbD),hr.eq fun i hi=>?_⟩
  rw[awN]
  by_cases hiS:S.getLsbD i=true
  ·rw[if_pos (aH.2 ⟨ay hiS,hiS⟩),if_pos (by rw[← hS];exact hiS)]
  ·rw[if_neg fun hh=>hiS (aH.1 hh).2,if_neg (by rw[← hS];exact hiS)]
def tgN (nh:Nat→BS)(id:Nat)(o:Nat):BS:=if (nh id).getLsbD o=true then del (nh o ||| nh id) (o:Int) else nh o
structure ToW (W:World)(bm b2 b4:Nat)(S:BS)(J:BS)(f:Nat→BS)(l:List (Int×BS))(w:World):Prop where
 c:Chg (fun b=>b=bm) W w
 t:Tab w
 p2:Blk w b2 #[.map (some bm)] 121
 p4:Blk w b4 (au S) 68
 m:MpR sKV w bm l.length l
 r:NrM l J f
theorem ToW.kp {W:World}{bm b2 b4 B:Nat}{S:BS}{J:BS}{f:Nat→BS}{l:List (Int×BS)}{w w':World}(h:ToW W bm b2 b4 S J f l w)(k:Kp B w w')(hW:W.heap.size≤B)(h0:0<B)(l2:b2<B)(l4:b4<B)(lm:bm<B):ToW W bm b2 b4 S J f l w':=
 ⟨h.c.kp k hW,h.t.kp k h0,h.p2.kp k (fun hh=>by have:=hh.1;omega),h.p4.kp k (fun hh=>by have:=hh.1;omega),h.m.pres (k.same _ h.m.lt (fun hh=>by have:=hh.1;omega)),h.r⟩
theorem ToW.ext {W:World}{bm b2 b4:Nat}{S:BS}{J:BS}{f:Nat→BS}{l:List (Int×BS)}{w w':World}(h:ToW W bm b2 b4 S J f l w)(e:Ext w w'):ToW W bm b2 b4 S J f l w':=
 ⟨h.c.ext e,h.t.ext e,h.p2.ext e,h.p4.ext e,h.m.ext e,h.r⟩
theorem ToW.put {W:World}{bm b2 b4 n:Nat}{S:BS}{J:BS}{f f':Nat→BS}{l l':List (Int×BS)}{w w':World}(h:ToW W bm b2 b4 S J f l w)(hg:w.grownBy w' (some bm))(n2:b2≠bm)(n4:b4≠bm)(h0:0<bm)(hM:MpR sKV w' bm n l')(hr:NrM l' J f'):ToW W bm b2 b4 S J f' l' w':=
 ⟨h.c.gr hg (.inl rfl),h.t.gr hg h0,h.p2.gr hg n2,h.p4.gr hg n4,hM.tight0,hr⟩
theorem a2R {l:List (Int×BS)}{bm n:Nat}(id:Nat)(J:BS)(nh:Nat→BS)(W:World)(hT:Tab W)(HM:MpR sKV W bm n l)(hM:NrM l J nh)(hR:Nr J nh)(hid:J.getLsbD id=true)(h0m:0<bm) :
  Calls Tryz.prog 106 #[.map (some bm),I (id:Nat)] W (fun en w'=>en=.returned (.tuple #[])∧Chg (fun b=>b=bm) W w'∧∃l',MpR sKV w' bm l'.length l'∧NrM l' J (tgN nh id)):=by
 have hid':id<1024:=ay hid
 have hwi:(Lit.int .i64 (id:Int)).wf=true:=bh (by omega) (by omega)
 have hT0:=hT.lt
 have lmW:=HM.lt
 refine cq (args:=[.map (some bm),I (id:Nat)]) (As:=[E (.map (some bm)),E (I (id:Nat))]) Tryz.func106 rfl Tryz.ntmps106 (Nat.le_of_ble_eq_true rfl) ?_ (fun a hf=>?_) (Nat.le_of_ble_eq_true rfl)
 ·exact aQ rfl (aQ rfl cO)
 dsimp only[params,Nat.reduceAdd] at hf
 have e:=Ext.rfl' W
 refine seq <| ae <| tB hf rfl fun a b2 w v2 hv2 e' hb2 hs2 B2 hf=>?_
 obtain⟨HM,hT,e⟩:=up3 e' HM hT e
 refine aa ?_
 cases hv2
 replace B2:Blk w b2 #[.map (some bm)] 121:=B2
 have n2:b2≠bm:=by omega
 obtain⟨S,hS⟩:∃S,S=nh id:=⟨_,rfl⟩
 have hlk:lkS l (id:Int)=S:=by rw[hS];exact hM.val id hid
 have hdv:=cr HM
 replace hf:=hf.kp [1,2]
 have l2b:=B2.lt
 have lmb:=HM.lt
 refine seq <| ae <| tP hf (ld1 (v:=.map (some bm)) bC rfl B2 rfl) fun a w e' hf=>?_
 obtain⟨HM,hT,hdv,e,B2⟩:=up5 e' HM hT hdv e B2
 refine tP hf (mv rfl) fun a w e' hf=>?_
 obtain⟨HM,hT,hdv,e,B2⟩:=up5 e' HM hT hdv e B2
 refine tP hf ((lkM (l:=l) (i:=(id:Int)) bP cG (isE rfl hdv) rfl hwi).eq (congrArg ac hlk)) fun a w e' hf=>?_
 obtain⟨HM,hT,hdv,e,B2⟩:=up5 e' HM hT hdv e B2
 refine tL I68 hf fun a b4 w e' hb4 hs4 B4 hf=>?_
 have lt4_B2:=B2.lt
 obtain⟨HM,hT,hdv,e,B2⟩:=up5 e' HM hT hdv e B2
 have n4:b4≠bm∧b4≠b2∧W.heap.size≤b4:=by have:=B2.lt;have:=HM.lt;omega
 refine az T68 hf rfl rfl (aP _) B4 rfl rfl fun w hg hsz B4 hf=>?_
 replace e:=e.gr hg n4.2.2;replace hT:=hT.gr hg (by omega);replace B2:=B2.gr hg n4.2.1.symm;replace HM:=HM.gr hg (fun h=>by cases h;omega)
 refine aa ?_
 replace hf:=hf.keep [2,4]
 obtain⟨Nz,hNz⟩:∃Nz,Nz=w.heap.size:=⟨_,rfl⟩
 refine seq <| rgN 2 hf <| st ((ldW T68 rfl B4 rfl).eq ((rfl:_=ac S))) <| st (an (A:=bW Nz S) cg rfl (fun v w' he h=>by cases h;exact Calls.mono (cm _ w') (fun en w2 ⟨u,h1,h2,b',h3,h4,h5⟩=>⟨u,h1,h2,b',by have:=he.size;omega,h4,h5⟩))) ?_
 refine en fun a w e' hf=>?_
 obtain⟨HM,hT,e,B2,B4⟩:=up5 e' HM hT e B2 B4
 refine aa ?_
 obtain⟨vv,⟨b10,h10,rfl,BS⟩,hf⟩:=hf.fix 10 rfl
 replace hf:=hf.kp [2,4,10]
 have hBW:W.heap.size≤w.heap.size:=e.size
 have h0w:0<w.heap.size:=hT.lt
 have l2:=B2.lt
 have l4:=B4.lt
 have lm:=HM.lt
 refine blk <| cC (S:=S) hf rfl BS (by decide) (fun s w1=>∃l',ToW W bm b2 b4 S J (fun o=>if o∈s then del (nh o ||| S) (o:Int) else nh o) l' w1) (fun _ _=>False) (fun s w1 ⟨_,h⟩=>h.t)
  ⟨l,e.chg _,hT,B2,B4,HM.tight0,hM.eq fun i hi=>by rw[if_neg (by simp)]⟩ (fun s w1 w2 ⟨l',h⟩ hs k=>⟨l',h.kp k hBW h0w l2 l4 lm⟩) (fun _ _ _ h=>h.elim) ?_ ?_ (fun _ _ _ _ _ _ h=>h.elim)
 ·intro lb s x rest a1 w1 hs hJ hlw hf
  have hxS:S.getLsbD x=true:=(aH.1 (by rw[hs];simp)).2
  have hx1024:x<1024:=ay hxS
  have hxJ:J.getLsbD x=true:=(hR id x hid (by rw[← hS];exact hxS)).1
  have hwx:(Lit.int .i64 (x:Int)).wf=true:=bh (by omega) (by omega)
  have hxs:x ∉ s:=by
   have hn:(elems S).Nodup:=List.Nodup.sublist List.filter_sublist List.nodup_range
   rw[hs] at hn
   intro hx
   exact (List.nodup_append.1 hn).2.2 x hx x (by simp) rfl
  generalize hBz:w.heap.size=Bz at *
  refine ae <| tA hf rfl fun a hf=>aa <| ⟨Kh.rfl' _ _,fun w3 k3 hsz3=>?_⟩
  obtain⟨l',hJ⟩:=hJ
  have h:=hJ.kp k3 hBW h0w l2 l4 lm
  replace hf:=hf.pure w3
  have kh:=Kh.rfl' Bz w3
  have hval:lkS l' (x:Int)=nh x:=by rw[h.r.val x hxJ,if_neg hxs]
  have hln:l'.length≤1024:=h.r.len (by obtain⟨_,_,_,hp⟩:=h.m;exact hp.2)
  have hdv:=cr h.m
  replace hf:=hf.kp [2,4,5]
  refine blk <| rgG 9 Mix.mix hf <| st (ld1 (v:=.map (some bm)) bC rfl h.p2 rfl) <| st (mv rfl) <| st (ld1 (v:=.map (some bm)) bC rfl h.p2 rfl) <| st (mv rfl) <| st ((lkM (l:=l') (i:=(x:Int)) bP cG (isE rfl hdv) rfl hwx).eq (congrArg ac hval)) <| st ((ldW T68 rfl h.p4 rfl).eq ((rfl:_=ac S))) <| st (ar (A:=E (ac (nh x ||| S))) (B:=E (ac (nh x))) (C:=E (ac S)) fO rfl rfl (fun v u w he k1 k2=>by cases k1;cases k2;exact fZ (nh x) S w)) ?_
  refine st (mv rfl) <| st (ar (A:=E (ac (del (nh x ||| S) (x:Int)))) (B:=E (ac (nh x ||| S))) (C:=E (I (x:Nat))) fi rfl rfl (fun v u w he k1 k2=>by cases k1;cases k2;exact fq (nh x ||| S) (x:Int) w)) ?_
  refine en fun a w e' hf=>?_
  replace h:=h.ext e'
  replace kh:=kh.tr (Kh.ext e')
  refine dc (V:=sKV) (i:=(x:Int)) (c:=del (nh x ||| S) (x:Int)) bP hf rfl rfl rfl h.m (by simp only[maxLen];omega) hwx trivial fun w hg HM hf=>?_
  replace h:=h.put hg n2 n4.1 h0m HM (h.r.put hxJ (del (nh x ||| S) (x:Int)))
  replace kh:=kh.tr (Kh.gr hg fun hh=>by have:=hh.1;omega)
  refine aa ?_
  simp only[Exit.inBlock]
  refine⟨⟨_,h.c,h.t,h.p2,h.p4,h.m,h.r.eq fun i hi=>?_⟩,kh⟩
  by_cases hix:i=x
  ·rw[if_pos hix,if_pos (by rw[hix];simp),hix]
  ·rw[if_neg hix]
   by_cases his:i∈s
   ·rw[if_pos his,if_pos (List.mem_append_left _ his)]
   ·rw[if_neg his,if_neg fun hh=>(List.mem_append.1 hh).elim his fun hh=>hix (List.mem_singleton.1 hh)]
 ·intro a' w' hf' hJ hsz hDn
  simp only[Exit.inBlock,↓reduceIte,Exit.then]
  obtain⟨l',h⟩:=hJ
  have hD:Ds [w.heap.size] w':=(Ds.nil w').cons hDn (by simp)
  have hf:FrD 21 (bq [w.heap.size]) a' w' []:=hf'.keep []
  have hDW:∀d∈[w.heap.size],W.heap.size≤d:=fun d hd=>by rw[List.mem_singleton] at hd;omega
  have hbD:¬bm∈[w.heap.size]:=fun h=>by rw[List.mem_singleton] at h;omega
  generalize [w.heap.size]=D at *
  generalize w'=w at *
  refine gh rfl hf hD ⟨rfl,h.c.tr2 (eb D w) fun b hb=>.inr (hDW b hb),_,h.m.pres (fz D w bm hbD),h.r.eq fun i hi=>?_⟩
  rw[tgN]
  by_cases hiS:S.getLsbD i=true
  ·rw[if_pos (aH.2 ⟨ay hiS,hiS⟩),if_pos (by rw[← hS];exact hiS),hS]
  ·rw[if_neg fun hh=>hiS (aH.1 hh).2,if_neg (by rw[← hS];exact hiS)]
def clG (nb:Int→BS):Nat→BS→List Nat
 | 0,_=>[]
 | k+1,may=>(bj may).elim [] fun o=>o::clG nb k (may &&& nb (o:Int))
theorem uk (nb:Int→BS)(k:Nat)(may:BS):clG nb (k+1) may=(bj may).elim [] fun o=>o::clG nb k (may &&& nb (o:Int)):=rfl
theorem ou (nb:Int→BS)(k:Nat){may:BS}(h:bj may=none):clG nb (k+1) may=[]:=by rw[uk,h];rfl
theorem ow (nb:Int→BS)(k:Nat){may:BS}{o:Nat}(h:bj may=some o):clG nb (k+1) may=o::clG nb k (may &&& nb (o:Int)):=by rw[uk,h];rfl
theorem ul (nb:Int→BS):∀(k:Nat) (may:BS),(∀x∈clG nb k may,may.getLsbD x=true)∧(clG nb k may).Pairwise fun a b:Nat=>(nb (a:Int)).getLsbD b=true
 | 0,may=>⟨(fun x h=>by cases h),List.Pairwise.nil⟩
 | k+1,may=>by
  cases h:bj may with
  | none=>rw[ou nb k h];exact⟨(fun x h=>by cases h),List.Pairwise.nil⟩
  | some o=>
   rw[ow nb k h]
   obtain⟨h1,h2⟩:=ul nb k (may &&& nb (o:Int))
   refine⟨fun x hx=>?_,List.pairwise_cons.2 ⟨fun x hx=>((ed _ _ _).1 (h1 x hx)).2,h2⟩⟩
   rcases List.mem_cons.1 hx with rfl|hx
   ·exact gp h
   ·exact ((ed _ _ _).1 (h1 x hx)).1
theorem a2S {g:GT}(G:Gr.Ok g)(hl:g.1.length≤12){L:List Nat}(hV:∀x∈L,(ah g.1).getLsbD x=true)(hp:L.Pairwise fun a b:Nat=>(nbA g (a:Int)).getLsbD b=true)(hne:L≠[]):((L.length:Nat):Int)≤twG g+1:=by
 have hir:∀a:Nat,¬(nbA g (a:Int)).getLsbD a=true:=fun a h=>(((eB G).1 h).inn G).2.2 rfl
 have hlt:∀x∈L,x<1024:=fun x hx=>ay (hV x hx)
 have hC:∀x,(aT 0 L).getLsbD x=true↔x∈L:=fun x=>by
  rw[gS L 0 hlt x]
  exact⟨fun h=>h.resolve_left (aW x),.inr⟩
 have hnd:L.Pairwise (fun a b=>a≠b):=hp.imp fun {a b} h (e:a=b)=>hir b (by rw[e] at h;exact h)
 have hadj:∀a∈L,∀b∈L,a≠b→(nbA g (a:Int)).getLsbD b=true:=by
  intro a ha b hb hab
  have hp2:L.Pairwise fun a b:Nat=>(nbA g (a:Int)).getLsbD b=true∧(nbA g (b:Int)).getLsbD a=true:=hp.imp fun {a b} h=>⟨h,gw G a b h⟩
  obtain⟨i,hi,rfl⟩:=List.mem_iff_getElem.1 ha
  obtain⟨j,hj,rfl⟩:=List.mem_iff_getElem.1 hb
  rcases Nat.lt_trichotomy i j with h|h|h
  ·exact (List.pairwise_iff_getElem.1 hp2 i j hi hj h).1
  ·subst h;exact absurd rfl hab
  ·exact (List.pairwise_iff_getElem.1 hp2 j i hj hi h).2
 obtain⟨c,L',rfl⟩:=List.exists_cons_of_ne_nil hne
 have h1:=a2n G hl (C:=aT 0 (c::L')) (c:=c) ((hC c).2 (List.mem_cons_self ..)) fun i hi=>⟨hV i ((hC i).1 hi),fun j hj hij=>hadj i ((hC i).1 hi) j ((hC j).1 hj) hij⟩
 have h2:=jB (c::L') (elems (aT 0 (c::L'))) hnd fun x hx=>aH.2 ⟨hlt x hx,(hC x).2 hx⟩
 rw[eA] at h2
 omega
theorem a2T {g:GT}(G:Gr.Ok g)(hl:g.1.length≤12){id:Nat}(hid:(ah g.1).getLsbD id=true)(k:Nat):(((id::clG (nbA g) k (nbA g (id:Int))).length:Nat):Int)≤twG g+1:=by
 obtain⟨h1,h2⟩:=ul (nbA g) k (nbA g (id:Int))
 refine a2S G hl (fun x hx=>?_) (List.pairwise_cons.2 ⟨h1,h2⟩) (by simp)
 rcases List.mem_cons.1 hx with rfl|hx
 ·exact hid
 ·exact fG G id x (h1 x hx)
end Go.Mono
namespace Go.Mono
open Go Go.Proofs Go.RowKit Go.Gr

theorem ox (S:BS):card S≤1024:=by
 rw[← eA,elems]
 have:=List.length_filter_le (fun i=>S.getLsbD i) (List.range 1024)
 rwa [List.length_range] at this

theorem Ds.gro {D:List Nat}{w w':World}{row:Option Nat}(h:Ds D w)(hg:w.grownBy w' row)(hb:∀d∈D,row≠some d):Ds D w':=⟨h.1,fun d hd=>(hg.block d (h.lt hd) (fun he=>hb d hd he.symm)).trans (h.2 d hd)⟩
end Go.Mono
namespace Go.Mono
open Go Go.Proofs Go.RowKit
def lz (te:TypeId)(G:Nat→Prop)(w:World)(xs:List Int)(v:Value):Prop:=
 (v=.slice none 0 0∧xs=[])∨∃b cap cur,v=.slice (some ⟨b,0,none⟩) xs.length cap∧xs.length≤cap∧¬G b∧Blk w b cur te∧cur.toList.take xs.length=xs.map (Value.int .i64)
def oy (te:TypeId):Enc (List Int) where
 k:=1
 agg:=false
 r:=fun G w xs cs=>∃v,cs=[v]∧lz te G w xs v
 pos:=by decide
 k1:=fun _=>rfl
 len:=fun⟨v,h,_⟩=>by rw[h];rfl
 one:=fun⟨v,h,hv⟩ u hu=>by
  rw[h] at hu
  simp at hu
  subst hu
  rcases hv with ⟨rfl,_⟩|⟨b,cap,cur,rfl,_⟩ <;> rfl
 pres:=fun⟨v,h,hv⟩ k l=>⟨v,h,by
  rcases hv with hv|⟨b,cap,cur,h1,h2,h3,h4,h5⟩
  ·exact .inl hv
  ·exact .inr ⟨b,cap,cur,h1,h2,h3,(k b h4.lt h3).trans h4,h5⟩⟩
 weak:=fun⟨v,h,hv⟩ k=>⟨v,h,by
  rcases hv with hv|⟨b,cap,cur,h1,h2,h3,h4,h5⟩
  ·exact .inl hv
  ·exact .inr ⟨b,cap,cur,h1,h2,fun hg=>h3 (k _ h4.lt hg),h4,h5⟩⟩
section
variable {te ty B B':Nat}{G G':Nat→Prop}{w w':World}{xs:List Int}{v:Value}{out:List (List Int)}
theorem Dv.own {v:Value}{xs:List Int}:(Dv (oy te) G xs).p v w↔lz te G w xs v:=
 ⟨fun⟨cs,⟨u,h,hu⟩,hv⟩=>by subst h;rw[hv];exact hu,fun h=>⟨[v],⟨v,rfl,h⟩,rfl⟩⟩
theorem um:∀l:List Int,Cells aj G w l (l.map (Value.int .i64))
 | []=>rfl
 | x::l=>⟨[.int .i64 x],l.map (Value.int .i64),rfl,rfl,um l⟩
theorem un:∀(l:List Int) (cs:List Value),Cells aj G w l cs→cs=l.map (Value.int .i64)
 | [],cs,h=>h
 | x::l,cs,⟨c,d,h,h1,h2⟩=>by rw[h,h1,un l d h2];rfl
theorem lz.sl (h:lz te G w xs v):SlR aj G w xs v:=by
 rcases h with h|⟨b,cap,cur,h1,h2,h3,h4,h5⟩
 ·exact .inl h
 ·refine .inr ⟨_,cap,xs.map (Value.int .i64),h1,h2,h3,h4.lt,um xs,fun i u hu=>?_⟩
  have hi:i<xs.length:=by have:=(List.getElem?_eq_some_iff.1 hu).1;rwa [List.length_map] at this
  rw[← h5,List.getElem?_take_of_lt hi,Array.getElem?_toList] at hu
  rw[Addr.add_lit,Nat.zero_add,h4.cell i];exact hu
theorem Dv.ownSl (h:(Dv (oy te) G xs).p v w):(Dv (slE aj) G xs).p v w:=Dv.sl.2 (Dv.own.1 h).sl
theorem OwR.own' (h:OwR aj te B G w xs v)(hN:∀b,v.ownBlock=some b→¬G' b):(Dv (oy te) G' xs).p v w:=by
 obtain⟨cs,h1,h2⟩:=h.own
 refine Dv.own.2 ?_
 rcases h1.2 with ⟨hv,hn⟩|⟨g,cap,cur,hv,hB,hg,hn,hm,hs,ht⟩
 ·exact .inl ⟨hv,List.eq_nil_of_length_eq_zero hn⟩
 ·have hk:aj.k=1:=rfl
  rw[hk,Nat.mul_one] at ht
  exact .inr ⟨g,cap,cur,hv,hn,hN g (by rw[hv];rfl),hg,by rw[ht];exact un xs cs h2⟩
end
end Go.Mono
namespace Go.Mono
open Go Go.Proofs Go.RowKit Go.Gr
theorem a2U {l:List (Int×BS)}{bm n:Nat}(id:Nat)(W:World)(hT:Tab W)(hid:id<1024)(HM:MpR sKV W bm n l)(hir:∀o:Nat,¬(lkS l (o:Int)).getLsbD o=true) :
  Calls Tryz.prog 80 #[.map (some bm),I (id:Nat)] W (Post (OwA aj 3 W.heap.size G0 (aD (id::clG (lkS l) 1025 (lkS l (id:Int))))) W):=by
 have hwi:(Lit.int .i64 (id:Int)).wf=true:=bh (by omega) (by omega)
 have hT0:=hT.lt
 have lmW:=HM.lt
 obtain⟨F,hF⟩:∃F,F=id::clG (lkS l) 1025 (lkS l (id:Int)):=⟨_,rfl⟩
 rw[← hF]
 refine eN [.map (some bm),I (id:Nat)] [E (.map (some bm)),E (I (id:Nat))] Tryz.func80 Tryz.ntmps80 ?_ fun a hf=>?_
 rotate_left
 dsimp only[params,Nat.reduceAdd] at hf
 rotate_right
 ·exact arg2 rfl rfl
 have e:=Ext.rfl' W
 refine seq <| ae <| tA hf rfl fun a hf=>aa <| seq <| rgN 2 hf <| st (mv rfl) <| st (zl (B:=W.heap.size) (G:=G0) U31 I3 rfl rfl (Nat.le_refl _) (fun b hb=>hb.elim)) <| en fun a w e' hf=>?_
 obtain⟨HM,hT,e⟩:=up3 e' HM hT e
 refine tA hf rfl fun a hf=>aa ?_
 obtain⟨u0,Ho,hf⟩:=hf.opn 5 rfl
 replace Ho:OwR aj 3 W.heap.size G0 w [(id:Int)] u0:=Ho
 replace hf:=hf.keep [0,1,5]
 have hdv:=cr HM
 obtain⟨Nm,hNm0⟩:∃Nm,Nm=w.heap.size:=⟨_,rfl⟩
 have hNm:Nm≤w.heap.size:=Nat.le_of_eq hNm0
 have lmb:bm<Nm:=by rw[hNm0];exact HM.lt
 have lWm:W.heap.size≤Nm:=by rw[hNm0];exact e.size
 refine seq <| ae <| tP hf (mv rfl) fun a w e' hf=>?_
 obtain⟨HM,hT,Ho,hdv,hNm,e⟩:=up6 e' HM hT Ho hdv hNm e
 refine tP hf (mv rfl) fun a w e' hf=>?_
 obtain⟨HM,hT,Ho,hdv,hNm,e⟩:=up6 e' HM hT Ho hdv hNm e
 refine tP hf (lkM (l:=l) (i:=(id:Int)) bP cG (isE rfl hdv) rfl hwi) fun a w e' hf=>?_
 obtain⟨HM,hT,Ho,hdv,hNm,e⟩:=up6 e' HM hT Ho hdv hNm e
 refine tL I68 hf fun a b6 w e' hb6 hs6 B6 hf=>?_
 have lo6_hNm:=Nat.le_trans hNm (Nat.le_of_eq hb6.symm)
 have ne6_Ho:=Ho.ne_new hb6
 obtain⟨HM,hT,Ho,hdv,hNm,e⟩:=up6 e' HM hT Ho hdv hNm e
 have hu6:=ne6_Ho
 have n6:b6≠bm∧W.heap.size≤b6:=by have:=lo6_hNm;omega
 replace hf:=hf.kp [0,1,5,6,13]
 refine az T68 hf rfl rfl (aP _) B6 rfl rfl fun w hg hsz B6 hf=>?_
 replace e:=e.gr hg n6.2;replace hT:=hT.gr hg (by omega);replace HM:=HM.gr hg (fun h=>by cases h;omega);replace Ho:=Ho.grE hg hu6
 refine aa ?_
 replace hf:=hf.keep [0,5,6]
 have hF0:aD ([id]++clG (lkS l) 1025 (lkS l (id:Int)))=aD F:=by rw[hF,List.singleton_append]
 have hlen0:([id]:List Nat).length+1025≤1026:=by simp
 refine blk (aJ (fun r0 a w=>∃(may:BS) (pre:List Nat) (u:Value),card may<r0∧pre.length+r0≤1026∧aD (pre++clG (lkS l) r0 may)=aD F∧Fr 31 a w [(0,E (.map (some bm))),(5,E u),(6,E (ptr b6))]∧Ext W w∧Tab w∧MpR sKV w bm n l∧Blk w b6 (au may) 68∧OwR aj 3 W.heap.size G0 w (aD pre) u∧u.ownBlock≠some b6) 1025 ⟨lkS l (id:Int),[id],u0,by have:=ox (lkS l (id:Int));omega,hlen0,hF0,hf,e,hT,HM,B6,Ho,hu6⟩ ?_)
 rintro r0 a w ⟨may,pre,u,hc,hpl,hq,hf,e,hT,HM,B6,Ho,hu6⟩
 obtain⟨r,rfl⟩:∃r,r0=r+1:=⟨r0 - 1,by omega⟩
 refine blk ?_
 cases hm:bj may with
 | none=>
  refine seq <| rgN 7 hf <| st ((ldW T68 rfl B6 rfl).eq ((rfl:_=ac may))) <| st (an (A:=ge may) fh rfl (fun v w he h=>by cases h;exact fx _ w (hT.ext he))) ?_
  refine st (mv rfl) <| st (aO rfl rfl) <| st (aO rfl rfl) <| st (asg rfl) <| st (asg rfl) <| en fun a w e' hf=>?_
  obtain⟨HM,hT,Ho,e,B6⟩:=up5 e' HM hT Ho e B6
  refine aa ?_
  rw[hm] at hf
  replace hf:=hf.keep [0,5,6,7,8]
  repeat refine seq ?_
  refine rgN 2 hf <| st (mv rfl) <| st ((bA rfl).eq (congrArg Value.bool (show (!(none:Option Nat).isSome)=true from rfl))) <| en fun a w e' hf=>?_
  obtain⟨HM,hT,Ho,e,B6⟩:=up5 e' HM hT Ho e B6
  refine aa <| ifc hf rfl (fun _=>?_) (fun h=>by cases h)
  rw[ou _ _ hm,List.append_nil] at hq
  rw[hq] at Ho
  refine seq <| rgN 1 hf <| st (mv rfl) <| en fun a w e' hf=>?_
  obtain⟨HM,hT,Ho,e,B6⟩:=up5 e' HM hT Ho e B6
  refine tA hf rfl fun a hf=>aa <| ai <| ap rfl hf rfl ?_
  rintro _ rfl
  exact⟨_,rfl,e,Ho⟩
 | some o=>
  have hh0:=hT0
  have hom:=gp hm
  have ho1024:o<1024:=ay hom
  have hwo:(Lit.int .i64 (o:Int)).wf=true:=bh (by omega) (by omega)
  rw[ow _ _ hm] at hq
  have hc2:card (may &&& lkS l (o:Int))<r:=by
   have h1:=iu (S:=may &&& lkS l (o:Int)) (T:=may) (z:=o) (fun i hi=>((ed _ _ _).1 hi).1) hom fun h=>hir o ((ed _ _ _).1 h).2
   omega
  have hq2:aD ((pre++[o])++clG (lkS l) r (may &&& lkS l (o:Int)))=aD F:=by rw[← hq,List.append_assoc,List.singleton_append]
  have hpr:aD (pre++[o])=aD pre++[(o:Int)]:=by rw[aD,aD,List.map_append];rfl
  have hpn:(aD pre).length=pre.length:=by rw[aD,List.length_map]
  refine seq <| rgN 7 hf <| st ((ldW T68 rfl B6 rfl).eq ((rfl:_=ac may))) <| st (an (A:=ge may) fh rfl (fun v w he h=>by cases h;exact fx _ w (hT.ext he))) ?_
  refine st (mv rfl) <| st (aO rfl rfl) <| st (aO rfl rfl) <| st (asg rfl) <| st (asg rfl) <| en fun a w e' hf=>?_
  obtain⟨HM,hT,Ho,e,B6⟩:=up5 e' HM hT Ho e B6
  refine aa ?_
  rw[hm] at hf
  replace hf:=hf.upd 7 rfl (B:=E (I (o:Nat))) (fun v h=>h)
  replace hf:=hf.keep [0,5,6,7,8]
  repeat refine seq ?_
  refine rgN 2 hf <| st (mv rfl) <| st ((bA rfl).eq (congrArg Value.bool (show (!(some o).isSome)=false from rfl))) <| en fun a w e' hf=>?_
  obtain⟨HM,hT,Ho,e,B6⟩:=up5 e' HM hT Ho e B6
  refine aa <| ifc hf rfl (fun h=>by cases h) (fun _=>?_)
  refine ak ?_
  replace hf:=hf.kp [0,5,6,7]
  refine seq <| rgN 3 hf <| st (mv rfl) <| st (mv rfl) <| st (bB U31 I3 rfl (by decide) rfl Ho.avs (isI rfl)) <| en fun a w e' hf=>?_
  obtain⟨HM,hT,B6,Ho,e⟩:=up5 e' HM hT B6 Ho e
  haveI hin:∀G0,InR (GB W G0) _:=OwR.inGB (W:=W) Ho (by omega)
  refine bI U31 I3 rfl rfl hf (by decide) rfl Ho (isR rfl) (by simp only[List.length_singleton];omega) (by simp only[List.length_singleton,maxLen];omega) fun a v w hg hat Hn hf=>?_
  replace e:=e.gro hg (Ho.row (W:=W) (by omega))
  have hrow:=Ho.row (W:=W) (by omega)
  replace HM:=HM.pres (hg.block _ HM.lt fun e=>Ho.neLt lmW e.symm)
  replace hT:=hT.gro hg (fun b hb=>by have:=(Ho.lt hb).1;omega)
  replace B6:=B6.gro hg hu6
  replace Ho:=Hn
  replace Ho:=Hn;clear Hn hg hat hin
  refine tA hf rfl fun a hf=>aa ?_
  rw[← hpr] at Ho
  obtain⟨u2,hu2⟩:∃u2,u2=v:=⟨_,rfl⟩
  rw[← hu2] at hf Ho
  have hu62:=Ho.neB B6 (by decide)
  have hdv:=cr HM
  replace hf:=hf.kp [0,5,6,7]
  refine rgN 5 hf <| st ((ldW T68 rfl B6 rfl).eq ((rfl:_=ac may))) <| st (mv rfl) <| st (mv rfl) <| st (lkM (l:=l) (i:=(o:Int)) bP cG (isE rfl hdv) rfl hwo) <| st (ar (A:=E (ac (may &&& lkS l (o:Int)))) (B:=E (ac may)) (C:=E (ac (lkS l (o:Int)))) fj rfl rfl (fun v u w he h h'=>by cases h;cases h';exact fw _ _ w)) ?_
  refine en fun a w e' hf=>?_
  obtain⟨HM,hT,Ho,e,B6⟩:=up5 e' HM hT Ho e B6
  have lb6:=B6.lt
  have n6':b6≠bm:=fun e=>n6.1 e
  refine az T68 hf rfl rfl (aP _) B6 rfl (aZ _) fun w hg hsz B6 hf=>?_
  replace e:=e.gr hg n6.2;replace hT:=hT.gr hg (by omega);replace HM:=HM.gr hg (fun h=>by cases h;omega);replace Ho:=Ho.grE hg hu62
  refine aa ?_
  simp only[Exit.inBlock]
  replace hf:=hf.kp [0,5,6]
  exact⟨r,by omega,may &&& lkS l (o:Int),pre++[o],u2,hc2,by rw[List.length_append,List.length_singleton];omega,hq2,hf,e,hT,HM,B6,Ho,hu62⟩
def mnF (by':Int→Int)(m x:Int):Int:=if by' x<by' m then x else m
def mnL (by':Int→Int):List Int→Int
 | []=>0
 | x::r=>r.foldl (mnF by') x
theorem oz (by':Int→Int):∀(r:List Int) (m:Int),(r.foldl (mnF by') m=m∨r.foldl (mnF by') m∈r)∧by' (r.foldl (mnF by') m)≤by' m∧∀y∈r,by' (r.foldl (mnF by') m)≤by' y
 | [],m=>⟨.inl rfl,Int.le_refl _,fun y h=>(by cases h)⟩
 | x::r,m=>by
  obtain⟨h1,h2,h3⟩:=oz by' r (mnF by' m x)
  have h4:by' (mnF by' m x)≤by' m∧by' (mnF by' m x)≤by' x∧(mnF by' m x=m∨mnF by' m x=x):=by
   rw[mnF]
   split
   ·exact⟨by omega,Int.le_refl _,.inr rfl⟩
   ·exact⟨Int.le_refl _,by omega,.inl rfl⟩
  rw[List.foldl_cons]
  refine⟨?_,by omega,fun y hy=>?_⟩
  ·rcases h1 with h1|h1
   ·rcases h4.2.2 with h5|h5
    ·exact .inl (by rw[h1,h5])
    ·exact .inr (by rw[h1,h5];exact List.mem_cons_self ..)
   ·exact .inr (List.mem_cons_of_mem _ h1)
  ·rcases List.mem_cons.1 hy with rfl|hy
   ·omega
   ·exact h3 y hy
theorem uo (by':Int→Int){xs:List Int}(h:xs≠[]):mnL by' xs∈xs∧∀y∈xs,by' (mnL by' xs)≤by' y:=by
 obtain⟨x,r,rfl⟩:=List.exists_cons_of_ne_nil h
 obtain⟨h1,h2,h3⟩:=oz by' r x
 refine⟨?_,fun y hy=>?_⟩
 ·rcases h1 with h1|h1
  ·rw[mnL,h1];exact List.mem_cons_self ..
  ·exact List.mem_cons_of_mem _ h1
 ·rcases List.mem_cons.1 hy with rfl|hy
  ·exact h2
  ·exact h3 y hy
theorem uq (x y:Int):decide (MonoD.cmpI x y<0)=decide (x<y):=by
 unfold MonoD.cmpI
 by_cases h1:x<y
 ·simp[h1]
 ·by_cases h2:y<x <;> simp[h1,h2]
theorem a2V {G:Nat→Prop}(x0:Int)(r:List Int)(hl:r.length≤100000)(v:Value)(W:World)(h:(Dv (slE aj) G (x0::r)).p v W)(cid:FuncId)(caps:Array Value)(hen:Proofs.Enters Tryz.prog cid)(by':Int→Int)
  (hp:∀w',Ext W w'→∀x y:Int,x∈x0::r→y∈x0::r→Calls Tryz.prog cid (#[I x,I y]++caps) w' (Post (E (I (MonoD.cmpI (by' x) (by' y)))) w')) :
  Calls Tryz.prog 111 #[v,.func (.func cid) #[] caps] W (Post (E (I (mnL by' (x0::r)))) W):=by
 have hv:(Dv (slE aj) Go.Mono.G0 (x0::r)).p v W:=Dv.weak h fun b _ hb=>hb.elim
 refine enter (args:=[v,.func (.func cid) #[] caps]) (As:=[E v,E (.func (.func cid) #[] caps)]) Tryz.func111 rfl Tryz.ntmps111 (Nat.le_of_ble_eq_true rfl) ?_ (fun a hf=>?_) (Nat.le_of_ble_eq_true rfl)
 rotate_left
 rotate_right
 ·exact arg2 rfl rfl
 have e:=Ext.rfl' W
 refine seq <| ae <| aI hf rfl (by decide) fun a hf=>aa ?_
 have hlen:(x0::r).length=r.length+1:=rfl
 repeat refine seq ?_
 refine aN 3 hf (by decide +kernel) <| st (mv rfl) <| st (aF Tryz.underlying31 (isE rfl (VA.st _ _ _ _ e hv))) <| st ((lss rfl rfl).eq (congrArg Value.bool ((decide_eq_false (by rw[hlen];omega):_=false)))) ?_
 refine en fun a w e' hf=>?_
 replace e:=e.tr e'
 refine aa <| ifc hf rfl (fun h=>by cases h) (fun _=>?_)
 refine ak ?_
 have hx0:(x0::r)[0]?=some x0:=rfl
 refine seq <| aN 3 hf (by decide +kernel) <| st (mv rfl) <| st (aL (j:=0) Tryz.underlying31 S3 (isE rfl (VA.st _ _ _ _ e hv)) rfl rfl hx0) <| st (ldI T3 (isR rfl)) <| en fun a w e' hf=>?_
 replace e:=e.tr e'
 refine aI hf rfl (by decide) fun a hf=>aa ?_
 repeat refine seq ?_
 refine ae <| aI hf rfl (by decide) fun a hf=>aa ?_
 replace hf:=hf.keep [0,1,5,6]
 replace hf:=hf.upd 5 rfl (B:=E (I ((r.take 0).foldl (mnF by') x0))) (fun v h=>by rw[List.take_zero];exact h)
 replace hf:=hf.upd 6 rfl (B:=E (I (((0:Nat):Int)+1))) (fun v h=>by rw[show (((0:Nat):Int)+1)=1 from rfl];exact h)
 replace hf:=hf.keep [0,1,5,6]
 refine blk (aJ (fun q0 a w=>∃k:Nat,k≤r.length∧r.length≤q0+k∧Fr 33 a w [(0,E v),(1,E (.func (.func cid) #[] caps)),(5,E (I ((r.take k).foldl (mnF by') x0))),(6,E (I ((k:Int)+1)))]∧Ext W w) r.length ⟨0,Nat.zero_le _,by omega,hf,e⟩ ?_)
 rintro q0 a w ⟨k,hk,hq,hf,e⟩
 repeat refine seq ?_
 by_cases hkl:k<r.length
 ·have hg:=List.getElem?_eq_getElem hkl
  generalize r[k]=x at hg
  have hg2:(x0::r)[k+1]?=some x:=by rw[List.getElem?_cons_succ];exact hg
  have htk:(r.take (k+1)).foldl (mnF by') x0=mnF by' ((r.take k).foldl (mnF by') x0) x:=by rw[cB hg,List.foldl_append];rfl
  have hxm:x∈x0::r:=List.mem_cons_of_mem _ (List.mem_of_getElem? hg)
  have hmm:(r.take k).foldl (mnF by') x0∈x0::r:=by
   rcases (oz by' (r.take k) x0).1 with h1|h1
   ·rw[h1];exact List.mem_cons_self ..
   ·exact List.mem_cons_of_mem _ (List.mem_of_mem_take h1)
  obtain⟨m,hm⟩:∃m,m=(r.take k).foldl (mnF by') x0:=⟨_,rfl⟩
  rw[← hm] at hmm
  rw[← hm] at hf htk
  replace hf:=hf.upd 6 rfl (B:=E (I ((k+1:Nat):Int))) fun v h=>h
  refine aN 4 hf (by decide +kernel) <| st (mv rfl) <| st (mv rfl) <| st (aF Tryz.underlying31 (isE rfl (VA.st _ _ _ _ e hv))) <| st ((lss rfl rfl).eq (congrArg Value.bool ((decide_eq_true (by rw[hlen];omega):_=true)))) ?_
  refine en fun a w e' hf=>?_
  replace e:=e.tr e'
  refine aa <| ifc hf rfl (fun _=>ak ?_) (fun h=>by cases h)
  refine seq <| blk ?_
  replace hf:=hf.keep [0,1,5,6]
  have e0:=e
  have hcall:∀(v u:Value) (w':World),Ext w w'→(E (I x)).p v w'→(E (I m)).p u w'→Calls Tryz.prog cid (#[v,u]++caps) w' (Post (E (I (MonoD.cmpI (by' x) (by' m)))) w'):=fun v u w' he h h'=>by cases h;cases h';exact hp w' (Ext.tr e0 he) x m hxm hmm
  by_cases hlt:by' x<by' m
  ·have htk2:(r.take (k+1)).foldl (mnF by') x0=x:=by rw[htk,mnF,if_pos hlt]
   have hbb:decide (MonoD.cmpI (by' x) (by' m)<0)=true:=by rw[uq];exact decide_eq_true hlt
   refine seq <| aN 8 hf (by decide +kernel) <| st (mv rfl) <| st (mv rfl) <| st (mv rfl) <| st (aL Tryz.underlying31 S3 (isE rfl (VA.st _ _ _ _ e hv)) rfl (by omega) (hg2)) <| st (ldI T3 (isR rfl)) <| st (mv rfl) <| st (ke (A:=E (I (MonoD.cmpI (by' x) (by' m)))) (B:=E (I x)) (C:=E (I m)) hen rfl rfl rfl hcall) <| st ((lss rfl rfl).eq (congrArg Value.bool (hbb))) <| en fun a w e' hf=>?_
   replace e:=e.tr e'
   refine aa <| ifc hf rfl (fun _=>?_) (fun h=>by cases h)
   replace hf:=hf.keep [0,1,5,6]
   refine aN 4 hf (by decide +kernel) <| st (mv rfl) <| st (mv rfl) <| st (aL Tryz.underlying31 S3 (isE rfl (VA.st _ _ _ _ e hv)) rfl (by omega) (hg2)) <| st (ldI T3 (isR rfl)) <| en fun a w e' hf=>?_
   replace e:=e.tr e'
   refine aI hf rfl (by decide) fun a hf=>aa ?_
   replace hf:=hf.keep [0,1,5,6]
   refine aN 2 hf (by decide +kernel) <| st (mv rfl) <| st (add rfl rfl (by omega)) <| en fun a w e' hf=>?_
   replace e:=e.tr e'
   refine aI hf rfl (by decide) fun a hf=>aa <| ⟨q0 - 1,by omega,k+1,by omega,by omega,?_,e⟩
   rw[htk2]
   exact (hf.upd 6 rfl (B:=E (I (((k+1:Nat):Int)+1))) (fun v h=>h)).keep [0,1,5,6]
  ·have htk2:(r.take (k+1)).foldl (mnF by') x0=m:=by rw[htk,mnF,if_neg hlt]
   have hbb:decide (MonoD.cmpI (by' x) (by' m)<0)=false:=by rw[uq];exact decide_eq_false hlt
   refine seq <| aN 8 hf (by decide +kernel) <| st (mv rfl) <| st (mv rfl) <| st (mv rfl) <| st (aL Tryz.underlying31 S3 (isE rfl (VA.st _ _ _ _ e hv)) rfl (by omega) (hg2)) <| st (ldI T3 (isR rfl)) <| st (mv rfl) <| st (ke (A:=E (I (MonoD.cmpI (by' x) (by' m)))) (B:=E (I x)) (C:=E (I m)) hen rfl rfl rfl hcall) <| st ((lss rfl rfl).eq (congrArg Value.bool (hbb))) <| en fun a w e' hf=>?_
   replace e:=e.tr e'
   refine aa <| ifc hf rfl (fun h=>by cases h) (fun _=>?_)
   refine ak ?_
   replace hf:=hf.keep [0,1,5,6]
   refine aN 2 hf (by decide +kernel) <| st (mv rfl) <| st (add rfl rfl (by omega)) <| en fun a w e' hf=>?_
   replace e:=e.tr e'
   refine aI hf rfl (by decide) fun a hf=>aa <| ⟨q0 - 1,by omega,k+1,by omega,by omega,?_,e⟩
   rw[htk2]
   exact (hf.upd 6 rfl (B:=E (I (((k+1:Nat):Int)+1))) (fun v h=>h)).keep [0,1,5,6]
 ·have hke:k=r.length:=by omega
  rw[hke,List.take_length] at hf
  replace hf:=hf.upd 6 rfl (B:=E (I ((r.length+1:Nat):Int))) fun v h=>h
  refine aN 4 hf (by decide +kernel) <| st (mv rfl) <| st (mv rfl) <| st (aF Tryz.underlying31 (isE rfl (VA.st _ _ _ _ e hv))) <| st ((lss rfl rfl).eq (congrArg Value.bool ((decide_eq_false (by rw[hlen];omega):_=false)))) ?_
  refine en fun a w e' hf=>?_
  replace e:=e.tr e'
  refine aa <| ifc hf rfl (fun h=>by cases h) (fun _=>aG ?_)
  replace hf:=hf.keep [5]
  refine seq <| aN 1 hf (by decide +kernel) <| st (mv rfl) <| en fun a w e' hf=>?_
  replace e:=e.tr e'
  refine aI hf rfl (by decide) fun a hf=>aa <| ai <| ap rfl hf rfl ?_
  rintro _ rfl
  exact⟨_,rfl,e,rfl⟩
section
variable {P:Program}{w0:World}{L:Env}{dst:Option Tmp}{ty:TypeId}{pos:String}{aft:Array Edge}{g:Option (Nat×Bool)}
theorem lA {fo x:Operand}{id:FuncId}{fst caps:Array Value}{tys:Array TypeId}{A B:VA}(hf:Proofs.Enters P id)(hfo:opd L fo=some (E (.func (.func id) fst caps)))(hx:opd L x=some B)
  (h:∀v w,Ext w0 w→B.p v w→Calls P id (fst ++ #[v]++caps) w (Post A w)):OpC P w0 L ⟨dst,.call ⟨.value fo,#[x],tys⟩,ty,pos,aft,g⟩ A:=by
 refine⟨fun ρ w he hv=>?_⟩
 have hfv:ρ fo=.func (.func id) fst caps:=hv fo (by simp[Op.operands,Call.operands]) _ hfo
 have hrun:(execOp ρ ⟨dst,.call ⟨.value fo,#[x],tys⟩,ty,pos,aft,g⟩).run P w=.ok (.enter id (fst ++ #[ρ x]++caps)) w:=by
  simp[execOp,resolve,hfv,Deferred.ofValue,invoke,hf (fst.push (ρ x)++caps) w]
 simp only[OpR,hrun]
 exact h (ρ x) w he (hv x (by simp[Op.operands,Call.operands]) _ hx)
theorem oA {fn:Fn}{x1:Operand}{v1:Value}(h1:opd L x1=some (E v1)):OpC P w0 L ⟨dst,.makeFunc fn #[x1] #[],ty,pos,aft,g⟩ (E (.func fn #[v1] #[])):=
 aM fun ρ w _ hv=>⟨_,by
  have a1:=opE hv (x:=x1) (by simp[Op.operands]) h1
  simp[execOp,Instr.makeFunc,a1],rfl⟩
end
theorem a2W (x:Int)(W:World):Calls Tryz.prog 123 #[I x] W (Post (E (.bool false)) W):=by
 refine enter (args:=[I x]) (As:=[E (I x)]) Tryz.func123 rfl Tryz.ntmps123 (Nat.le_of_ble_eq_true rfl) ?_ (fun a hf=>?_) (Nat.le_of_ble_eq_true rfl)
 rotate_left
 rotate_right
 ·exact arg1 rfl
 have e:=Ext.rfl' W
 refine seq <| ae <| aI hf rfl (by decide) fun a hf=>aa <| seq <| aN 3 hf (by decide +kernel) <| st (mv rfl) <| st (mv rfl) <| st ((neq rfl rfl).eq (congrArg Value.bool ((show (x != x)=false by simp)))) <| en fun a w e' hf=>?_
 replace e:=e.tr e'
 refine aI hf rfl (by decide) fun a hf=>aa <| ai <| ap rfl hf rfl ?_
 rintro _ rfl
 exact⟨_,rfl,e,rfl⟩
theorem ut (x:Int)(v:Value)(w:World)(h:(E (I x)).p v w):Calls Tryz.prog 123 #[v] w (Post (E (.bool false)) w):=by cases h;exact a2W x w
theorem uu (x y:Int)(W:World):Calls Tryz.prog 92 #[I x,I y] W (Post (E (I (MonoD.cmpI x y))) W):=by
 refine enter (args:=[I x,I y]) (As:=[E (I x),E (I y)]) Tryz.func92 rfl Tryz.ntmps92 (Nat.le_of_ble_eq_true rfl) ?_ (fun a hf=>?_) (Nat.le_of_ble_eq_true rfl)
 rotate_left
 rotate_right
 ·exact arg2 rfl rfl
 have e:=Ext.rfl' W
 refine seq <| ae <| aI hf rfl (by decide) fun a hf=>aa <| seq <| aN 2 hf (by decide +kernel) <| st (mv rfl) <| st (an Mono.En123 rfl (fun v w he h=>ut x v w h)) <| en fun a w e' hf=>?_
 replace e:=e.tr e'
 refine aI hf rfl (by decide) fun a hf=>aa <| seq <| aN 2 hf (by decide +kernel) <| st (mv rfl) <| st (an Mono.En123 rfl (fun v w he h=>ut y v w h)) <| en fun a w e' hf=>?_
 replace e:=e.tr e'
 refine aI hf rfl (by decide) fun a hf=>aa ?_
 repeat refine seq ?_
 refine aN 1 hf (by decide +kernel) <| st (mv rfl) <| en fun a w e' hf=>?_
 replace e:=e.tr e'
 refine aa <| ifc hf rfl (fun h=>by cases h) (fun _=>?_)
 refine ak ?_
 repeat refine seq ?_
 refine aN 1 hf (by decide +kernel) <| st (mv rfl) <| en fun a w e' hf=>?_
 replace e:=e.tr e'
 refine aa <| ifc hf rfl (fun h=>by cases h) (fun _=>?_)
 refine ak ?_
 repeat refine seq ?_
 refine aN 3 hf (by decide +kernel) <| st (mv rfl) <| st (mv rfl) <| st (lss rfl rfl) <| en fun a w e' hf=>?_
 replace e:=e.tr e'
 refine aa <| ifc hf rfl (fun hb=>?_) (fun hb=>?_)
 ·refine seq <| ae <| aI hf rfl (by decide) fun a hf=>aa <| ai <| ap rfl hf rfl ?_
  rintro _ rfl
  exact⟨_,rfl,e,congrArg I (by rw[MonoD.cmpI,if_pos (of_decide_eq_true hb)])⟩
 ·refine ak ?_
  repeat refine seq ?_
  refine aN 3 hf (by decide +kernel) <| st (mv rfl) <| st (mv rfl) <| st (gtr rfl rfl) <| en fun a w e' hf=>?_
  replace e:=e.tr e'
  refine aa ?_
  have hb1:=of_decide_eq_false hb
  refine ifc hf rfl (fun hb=>?_) (fun hb=>?_)
  ·refine seq <| ae <| aI hf rfl (by decide) fun a hf=>aa <| ai <| ap rfl hf rfl ?_
   rintro _ rfl
   exact⟨_,rfl,e,congrArg I (by rw[MonoD.cmpI,if_neg hb1,if_pos (of_decide_eq_true hb)])⟩
  ·refine ak <| seq <| ae <| aI hf rfl (by decide) fun a hf=>aa <| ai <| ap rfl hf rfl ?_
   rintro _ rfl
   exact⟨_,rfl,e,congrArg I (by rw[MonoD.cmpI,if_neg hb1,if_neg (of_decide_eq_false hb)])⟩
theorem a2X (x y:Int)(b:Nat)(fid:FuncId)(fst caps:Array Value)(hen:Proofs.Enters Tryz.prog fid)(by':Int→Int)(W:World)(hB:Blk W b #[.func (.func fid) fst caps] 120)(hp:∀w',Ext W w'→∀z:Int,z=x∨z=y→Calls Tryz.prog fid (fst ++ #[I z]++caps) w' (Post (E (I (by' z))) w')) :
  Calls Tryz.prog 112 #[I x,I y,ptr b] W (Post (E (I (MonoD.cmpI (by' x) (by' y)))) W):=by
 refine enter (args:=[I x,I y,ptr b]) (As:=[E (I x),E (I y),E (ptr b)]) Tryz.func112 rfl Tryz.ntmps112 (Nat.le_of_ble_eq_true rfl) ?_ (fun a hf=>?_) (Nat.le_of_ble_eq_true rfl)
 rotate_left
 rotate_right
 ·exact dS rfl rfl rfl
 have e:=Ext.rfl' W
 refine seq <| ae <| aI hf rfl (by decide) fun a hf=>aa ?_
 have e0:=e
 refine seq <| reg 7 Mix.mix hf (by decide +kernel) <| st (ld1 (v:=.func (.func fid) fst caps) pa rfl hB rfl) <| st (mv rfl) <| st (lA (A:=E (I (by' x))) (B:=E (I x)) hen rfl rfl (fun v w he h=>by cases h;exact hp w (Ext.tr e0 he) x (.inl rfl))) ?_
 refine st (ld1 (v:=.func (.func fid) fst caps) pa rfl hB rfl) <| st (mv rfl) <| st (lA (A:=E (I (by' y))) (B:=E (I y)) hen rfl rfl (fun v w he h=>by cases h;exact hp w (Ext.tr e0 he) y (.inr rfl))) ?_
 refine st (ar (A:=E (I (MonoD.cmpI (by' x) (by' y)))) (B:=E (I (by' x))) (C:=E (I (by' y))) En92 rfl rfl (fun v u w he h h'=>by cases h;cases h';exact uu _ _ w)) ?_
 refine en fun a w e' hf=>?_
 replace hB:=hB.ext e'
 replace e:=e.tr e'
 refine aI hf rfl (by decide) fun a hf=>aa <| ai <| ap rfl hf rfl ?_
 rintro _ rfl
 exact⟨_,rfl,e,rfl⟩
theorem uw {G:Nat→Prop}(x0:Int)(r:List Int)(hl:r.length≤100000)(v:Value)(W:World)(h:(Dv (slE aj) G (x0::r)).p v W)(fid:FuncId)(fst caps:Array Value)(hen:Proofs.Enters Tryz.prog fid)(by':Int→Int)(hp:∀w',Ext W w'→∀x:Int,x∈x0::r→Calls Tryz.prog fid (fst ++ #[I x]++caps) w' (Post (E (I (by' x))) w')) :
  Calls Tryz.prog 76 #[v,.func (.func fid) fst caps] W (Post (E (I (mnL by' (x0::r)))) W):=by
 have hv:(Dv (slE aj) Go.Mono.G0 (x0::r)).p v W:=Dv.weak h fun b _ hb=>hb.elim
 refine enter (args:=[v,.func (.func fid) fst caps]) (As:=[E v,E (.func (.func fid) fst caps)]) Tryz.func76 rfl Tryz.ntmps76 (Nat.le_of_ble_eq_true rfl) ?_ (fun a hf=>?_) (Nat.le_of_ble_eq_true rfl)
 rotate_left
 rotate_right
 ·exact arg2 rfl rfl
 have e:=Ext.rfl' W
 refine seq <| ae <| dq hf rfl (by decide) fun a b3 w v3 hv3 e' hb3 hs3 B3 hf=>?_
 replace e:=e.tr e'
 refine aI hf rfl (by decide) fun a hf=>aa ?_
 cases hv3
 replace B3:Blk w b3 #[.func (.func fid) fst caps] 120:=B3
 have e0:=e
 have hB:=B3
 refine seq <| aN 3 hf (by decide +kernel) <| st (mv rfl) <| st (dM rfl) <| st (ar (A:=E (I (mnL by' (x0::r)))) (B:=E v) (C:=E (.func (.func 112) #[] #[ptr b3])) xa rfl rfl (fun v u w he k k'=>by cases k;cases k';exact a2V x0 r hl _ w (VA.st _ _ _ _ (Ext.tr e0 he) hv) 112 #[ptr b3] xb by' (fun w' he' x y hx hy=>a2X x y b3 fid fst caps hen by' w' (hB.ext (Ext.tr he he')) (fun w'' h'' z hz=>hp w'' (Ext.tr (Ext.tr (Ext.tr e0 he) he') h'') z (hz.elim (fun e=>e▸hx) fun e=>e▸hy))))) ?_
 refine en fun a w e' hf=>?_
 replace e:=e.tr e'
 replace B3:=B3.ext e'
 refine aI hf rfl (by decide) fun a hf=>aa <| ai <| ap rfl hf rfl ?_
 rintro _ rfl
 exact⟨_,rfl,e,rfl⟩
end Go.Mono
namespace Go.Proofs
open Go.Shelf
def Tryz.keysN_ren:Go.Shelf.Ren:=⟨fun|7=>113|10=>155|n=>n,fun|23=>121|26=>3|3=>68|28=>73|0=>0|27=>72|33=>101|4=>4|n=>n,fun|n=>n⟩
theorem Tryz.keysN:Go.Proofs.SlLaysZI.n7 Tryz.prog Tryz.keysN_ren:={
 mixed:=by kernel_rfl
 f7:=⟨Tryz.f113.name,by decide,Tryz.func113.trans (congrArg some (by kernel_rfl))⟩
 f10:=⟨Tryz.f155.name,by decide,Tryz.func155.trans (congrArg some (by kernel_rfl))⟩
 t0:=Tryz.underlying0
 a0:=Tryz.isAgg0
 z0:=Tryz.sizeOf0
 v0:=Tryz.zeroValue0
 t4:=Tryz.underlying4
 a4:=Tryz.isAgg4
 z4:=Tryz.sizeOf4
 v4:=Tryz.zeroValue4
 t23:=Tryz.underlying121
 a23:=Tryz.isAgg121
 z23:=Tryz.sizeOf121
 v23:=Tryz.zeroValue121
 t26:=Tryz.underlying3
 a26:=Tryz.isAgg3
 z26:=Tryz.sizeOf3
 v26:=Tryz.zeroValue3
 t27:=Tryz.underlying72
 a27:=Tryz.isAgg72
 z27:=Tryz.sizeOf72
 v27:=Tryz.zeroValue72
 t28:=Tryz.underlying73
 a28:=Tryz.isAgg73
 z28:=Tryz.sizeOf73
 v28:=Tryz.zeroValue73
 t33:=Tryz.underlying101
 a33:=Tryz.isAgg101
 z33:=Tryz.sizeOf101
 v33:=Tryz.zeroValue101 }
def Tryz.sortedN_ren:Go.Shelf.Ren:=⟨fun|6=>81|8=>114|9=>115|11=>156|13=>122|12=>157|23=>166|24=>167|14=>180|15=>181|16=>182|17=>183|18=>184|19=>185|20=>186|21=>187|22=>188|25=>206|26=>190|27=>191|28=>207|29=>208|30=>123|31=>214|n=>n,fun|26=>3|28=>73|24=>31|0=>0|3=>3|37=>166|48=>213|50=>66|4=>4|40=>207|39=>206|45=>114|5=>5|9=>9|51=>229|55=>233|57=>245|58=>110|33=>101|n=>n,fun|n=>n⟩
theorem Tryz.sortedN:Go.Proofs.SlLaysZI.n6 Tryz.prog Tryz.sortedN_ren:={
 mixed:=by kernel_rfl
 f6:=⟨Tryz.f81.name,by decide,Tryz.func81.trans (congrArg some (by kernel_rfl))⟩
 f8:=⟨Tryz.f114.name,by decide,Tryz.func114.trans (congrArg some (by kernel_rfl))⟩
 f11:=⟨Tryz.f156.name,by decide,Tryz.func156.trans (congrArg some (by kernel_rfl))⟩
 t0:=Tryz.underlying0
 a0:=Tryz.isAgg0
 z0:=Tryz.sizeOf0
 v0:=Tryz.zeroValue0
 t24:=Tryz.underlying31
 a24:=Tryz.isAgg31
 z24:=Tryz.sizeOf31
 v24:=Tryz.zeroValue31
 t26:=Tryz.underlying3
 a26:=Tryz.isAgg3
 z26:=Tryz.sizeOf3
 v26:=Tryz.zeroValue3
 t28:=Tryz.underlying73
 a28:=Tryz.isAgg73
 z28:=Tryz.sizeOf73
 v28:=Tryz.zeroValue73
 i26:=by kernel_rfl }
def Tryz.sortN_ren:Go.Shelf.Ren:=⟨fun|5=>115|8=>122|7=>157|19=>166|20=>167|10=>180|11=>181|12=>182|13=>183|14=>184|15=>185|16=>186|17=>187|18=>188|30=>206|31=>190|32=>191|33=>207|34=>208|35=>123|40=>214|n=>n,fun|23=>31|25=>3|3=>3|32=>166|22=>31|0=>0|44=>213|46=>66|4=>4|36=>207|35=>206|41=>114|5=>5|9=>9|53=>229|57=>233|63=>245|64=>110|n=>n,fun|n=>n⟩
theorem Tryz.sortN:Go.Proofs.SlLaysM.n5 Tryz.prog Tryz.sortN_ren:={
 mixed:=by kernel_rfl
 f5:=⟨Tryz.f115.name,by decide,Tryz.func115.trans (congrArg some (by kernel_rfl))⟩
 f7:=⟨Tryz.f157.name,by decide,Tryz.func157.trans (congrArg some (by kernel_rfl))⟩
 f8:=Tryz.func122.trans (congrArg some (by kernel_rfl))
 f10:=⟨Tryz.f180.name,by decide,Tryz.func180.trans (congrArg some (by kernel_rfl))⟩
 f11:=⟨Tryz.f181.name,by decide,Tryz.func181.trans (congrArg some (by kernel_rfl))⟩
 f12:=⟨Tryz.f182.name,by decide,Tryz.func182.trans (congrArg some (by kernel_rfl))⟩
 f13:=⟨Tryz.f183.name,by decide,Tryz.func183.trans (congrArg some (by kernel_rfl))⟩
 f14:=⟨Tryz.f184.name,by decide,Tryz.func184.trans (congrArg some (by kernel_rfl))⟩
 f15:=⟨Tryz.f185.name,by decide,Tryz.func185.trans (congrArg some (by kernel_rfl))⟩
 f16:=⟨Tryz.f186.name,by decide,Tryz.func186.trans (congrArg some (by kernel_rfl))⟩
 f17:=⟨Tryz.f187.name,by decide,Tryz.func187.trans (congrArg some (by kernel_rfl))⟩
 f18:=⟨Tryz.f188.name,by decide,Tryz.func188.trans (congrArg some (by kernel_rfl))⟩
 f19:=Tryz.func166.trans (congrArg some (by kernel_rfl))
 f20:=Tryz.func167.trans (congrArg some (by kernel_rfl))
 f30:=⟨Tryz.f206.name,by decide,Tryz.func206.trans (congrArg some (by kernel_rfl))⟩
 f31:=Tryz.func190.trans (congrArg some (by kernel_rfl))
 f32:=Tryz.func191.trans (congrArg some (by kernel_rfl))
 f33:=⟨Tryz.f207.name,by decide,Tryz.func207.trans (congrArg some (by kernel_rfl))⟩
 f34:=⟨Tryz.f208.name,by decide,Tryz.func208.trans (congrArg some (by kernel_rfl))⟩
 f35:=⟨Tryz.f123.name,by decide,Tryz.func123.trans (congrArg some (by kernel_rfl))⟩
 f40:=⟨Tryz.f214.name,by decide,Tryz.func214.trans (congrArg some (by kernel_rfl))⟩
 t0:=Tryz.underlying0
 a0:=Tryz.isAgg0
 z0:=Tryz.sizeOf0
 v0:=Tryz.zeroValue0
 t3:=Tryz.underlying3
 a3:=Tryz.isAgg3
 z3:=Tryz.sizeOf3
 v3:=Tryz.zeroValue3
 t4:=Tryz.underlying4
 a4:=Tryz.isAgg4
 z4:=Tryz.sizeOf4
 v4:=Tryz.zeroValue4
 t5:=Tryz.underlying5
 a5:=Tryz.isAgg5
 z5:=Tryz.sizeOf5
 v5:=Tryz.zeroValue5
 t9:=Tryz.underlying9
 a9:=Tryz.isAgg9
 z9:=Tryz.sizeOf9
 v9:=Tryz.zeroValue9
 t22:=Tryz.underlying31
 a22:=Tryz.isAgg31
 z22:=Tryz.sizeOf31
 v22:=Tryz.zeroValue31
 t23:=Tryz.underlying31
 a23:=Tryz.isAgg31
 z23:=Tryz.sizeOf31
 v23:=Tryz.zeroValue31
 t25:=Tryz.underlying3
 a25:=Tryz.isAgg3
 z25:=Tryz.sizeOf3
 v25:=Tryz.zeroValue3
 t32:=Tryz.underlying166
 a32:=Tryz.isAgg166
 z32:=Tryz.sizeOf166
 v32:=Tryz.zeroValue166
 t35:=Tryz.underlying206
 a35:=Tryz.isAgg206
 z35:=Tryz.sizeOf206
 v35:=Tryz.zeroValue206
 t36:=Tryz.underlying207
 a36:=Tryz.isAgg207
 z36:=Tryz.sizeOf207
 v36:=Tryz.zeroValue207
 t41:=Tryz.underlying114
 a41:=Tryz.isAgg114
 z41:=Tryz.sizeOf114
 v41:=Tryz.zeroValue114
 t44:=Tryz.underlying213
 a44:=Tryz.isAgg213
 z44:=Tryz.sizeOf213
 v44:=Tryz.zeroValue213
 t46:=Tryz.underlying66
 a46:=Tryz.isAgg66
 z46:=Tryz.sizeOf66
 v46:=Tryz.zeroValue66
 t53:=Tryz.underlying229
 a53:=Tryz.isAgg229
 z53:=Tryz.sizeOf229
 v53:=Tryz.zeroValue229
 t57:=Tryz.underlying233
 a57:=Tryz.isAgg233
 z57:=Tryz.sizeOf233
 v57:=Tryz.zeroValue233
 t63:=Tryz.underlying245
 a63:=Tryz.isAgg245
 z63:=Tryz.sizeOf245
 v63:=Tryz.zeroValue245
 t64:=Tryz.underlying110
 a64:=Tryz.isAgg110
 z64:=Tryz.sizeOf110
 v64:=Tryz.zeroValue110 }
end Go.Proofs
namespace Go.Mono
open Go Go.Proofs Go.RowKit Go.Gr
open Go.Maps Go.Sort Go.Shelf in
theorem a2Y (m:Nat):AnyZI.SortsIn Tryz.prog Tryz.sortedN_ren Fence.wide m:=
 ⟨fun blk off cap ss W hH hblk hsz=>callsIn_wide.2 (AnyM.slices_Sort_int Tryz.sortN blk off cap ss W hH hblk hsz),
  fun p cap W=>callsIn_wide.2 (AnyM.slices_Sort_int_none Tryz.sortN p cap W)⟩
open Go.Maps Go.Sort Go.Shelf in
theorem a2Z {l:List (Int×BS)}{bm n:Nat}(b:Nat)(w:World)(HM:MpR sKV w bm n l)(hB:Blk w b #[.map (some bm)] 121)(hl:l.length≤1024) :
  Calls Tryz.prog 81 #[.func (.func 155) #[] #[.pointer (some ⟨b,0,none⟩)]] w (fun e w'=>∃(v:Value) (ss:List Int),e=.returned v∧ss.Perm (l.map fun p:Int×BS=>p.1)∧w'.ownsRow w.heap.size 3 1 v ss.length ((ss.mergeSort (fun x y=>decide (x≤y))).map encZ)∧Below w.heap.size w w'):=by
 obtain⟨es,hown,hp,_,hpw⟩:=HM
 have hseq:SeqGives Fence.wide 2 Tryz.prog 155 #[.pointer (some ⟨b,0,none⟩)] encZ (fun ss=>ss.Perm (intKeys (.map es))) (Maps.size (.map es)) w:=
  AnyZI.keys_gives (ρ:=Tryz.keysN_ren) { Tryz.keysN with } Fence.wide _ trivial rfl (by omega) b bm n (.map es) _ hB.lt (hB.cell 0) hown
 have hsz:Maps.size (.map es)=l.length:=by
  show es.length=_
  rw[hp.length_eq,List.length_map]
 have cS:=AnyZI.sorted_in Tryz.sortedN Fence.wide 5 trivial trivial trivial trivial rfl (by omega) (a2Y _) (enters_of Tryz.func115 (by kernel_rfl) rfl) 155 #[.pointer (some ⟨b,0,none⟩)] trivial (enters_of Tryz.func155 (by kernel_rfl) rfl) _ _ (by rw[hsz];simp only[maxLen];omega) (by rw[hsz];omega) _ hseq
 change CallsIn _ _ Tryz.prog 81 _ _ _ at cS
 refine ((callsIn_wide (n:=5)).1 cS).mono ?_
 rintro e w' ⟨v,ss,rfl,hS,hrow,hnil,hb⟩
 refine⟨v,ss,rfl,hS.trans ?_,hrow,hb⟩
 show (es.map fun p=>intOf p.1).Perm _
 refine (hp.map _).trans ?_
 rw[List.map_map]
 exact List.Perm.refl _
def lB (bm:Nat):VA:=⟨fun v w=>∃b,v=.func (.func 155) #[] #[.pointer (some ⟨b,0,none⟩)]∧Blk w b #[.map (some bm)] 121,fun _ _ _ e ⟨b,h1,h2⟩=>⟨b,h1,h2.ext e⟩⟩
theorem a3a (bm:Nat)(W:World):Calls Tryz.prog 113 #[.map (some bm)] W (Post (lB bm) W):=by
 refine eN [.map (some bm)] [E (.map (some bm))] Tryz.func113 Tryz.ntmps113 ?_ fun a hf=>?_
 rotate_left
 rotate_right
 ·exact arg1 rfl
 have e:=Ext.rfl' W
 refine seq <| ae <| tB hf rfl fun a b1 w v1 hv1 e' hb1 hs1 B1 hf=>?_
 replace e:=e.tr e'
 refine tA hf rfl fun a hf=>aa ?_
 cases hv1
 replace B1:Blk w b1 #[.map (some bm)] 121:=B1
 refine seq <| rgN 1 hf <| st (dM rfl) <| en fun a w e' hf=>?_
 obtain⟨e,B1⟩:=up2 e' e B1
 refine tA hf rfl fun a hf=>aa <| ai <| ap rfl hf rfl ?_
 rintro _ rfl
 exact⟨_,rfl,e,b1,rfl,B1⟩
def cK (N:Nat)(l:List (Int×BS)):VA:=⟨fun u w=>∃ss:List Int,ss.Perm (l.map fun p:Int×BS=>p.1)∧OwR aj 3 N G0 w (ss.mergeSort fun x y=>decide (x≤y)) u,fun _ _ _ e ⟨ss,h1,h2⟩=>⟨ss,h1,h2.ext e⟩⟩
theorem a3b {l:List (Int×BS)}{bm n N:Nat}(w:World)(v:Value)(HM:MpR sKV w bm n l)(hv:(lB bm).p v w)(hl:l.length≤1024)(hN:N≤w.heap.size):Calls Tryz.prog 81 #[v] w (Post (cK N l) w):=by
 obtain⟨b,rfl,hB⟩:=hv
 refine (a2Z b w HM hB hl).mono ?_
 rintro e w' ⟨u,ss,rfl,h1,h2,h3⟩
 have hlen:(ss.mergeSort fun x y=>decide (x≤y)).length=ss.length:=List.length_mergeSort _
 have hO:OwR aj 3 w.heap.size G0 w' (ss.mergeSort fun x y=>decide (x≤y)) u:=⟨⟨_,by rw[hlen];exact h2,nZ _⟩,fun b hb=>hb.elim,h3.size⟩
 exact⟨_,rfl,h3,ss,h1,hO.low hN fun b hb=>hb.elim⟩
theorem lC {l:List (Int×BS)}{bm n:Nat}(W:World)(HM:MpR sKV W bm n l)(hl:l.length≤1024):Calls Tryz.prog 77 #[.map (some bm)] W (Post (cK W.heap.size l) W):=by
 refine eN [.map (some bm)] [E (.map (some bm))] Tryz.func77 Tryz.ntmps77 ?_ fun a hf=>?_
 rotate_left
 rotate_right
 ·exact arg1 rfl
 have e:=Ext.rfl' W
 refine seq <| ae <| tA hf rfl fun a hf=>aa ?_
 have e0:=e
 have HM0:=HM
 refine seq <| rgN 3 hf <| st (mv rfl) <| st (an (A:=lB bm) (B:=E (.map (some bm))) xc rfl (fun v w he h=>by cases h;exact a3a bm w)) ?_
 refine st (an (A:=cK W.heap.size l) (B:=lB bm) pF rfl (fun v w he h=>a3b w v (HM0.ext he) h hl (Ext.tr e0 he).size)) <| en fun a w e' hf=>?_
 obtain⟨HM,e⟩:=up2 e' HM e
 refine tA hf rfl fun a hf=>aa <| ai <| ap rfl hf rfl ?_
 intro v hv
 exact⟨_,rfl,e,hv⟩
end Go.Mono
namespace Go.Mono
open Go Go.Proofs Go.RowKit Go.Gr
def flK (l:List (Int×BS))(S:BS)(s:List Nat):Nat:=s.foldl (fun (m:Nat) (o:Nat)=>m+card (del (S &&& ~~~lkS l (o:Int)) (o:Int))) 0
theorem a3c (l:List (Int×BS))(S:BS)(s:List Nat)(o:Nat):flK l S (s++[o])=flK l S s+card (del (S &&& ~~~lkS l (o:Int)) (o:Int)):=by simp only[flK,List.foldl_append,List.foldl_cons,List.foldl_nil]
theorem oC (l:List (Int×BS))(S:BS):∀(s:List Nat) (m:Nat),s.foldl (fun (m:Nat) (o:Nat)=>m+card (del (S &&& ~~~lkS l (o:Int)) (o:Int))) m≤m+1024 * s.length
 | [],m=>by simp
 | o::s,m=>by
  have h1:=oC l S s (m+card (del (S &&& ~~~lkS l (o:Int)) (o:Int)))
  have h2:=ox (del (S &&& ~~~lkS l (o:Int)) (o:Int))
  rw[List.foldl_cons,List.length_cons];omega
theorem a3d {l:List (Int×BS)}{bm n:Nat}(id:Nat)(W:World)(hT:Tab W)(hid:id<1024)(HM:MpR sKV W bm n l) :
  Calls Tryz.prog 67 #[.map (some bm),I (id:Nat)] W (Post (E (I (((flK l (lkS l (id:Int)) (elems (lkS l (id:Int))):Nat):Int).tdiv 2))) W):=by
 have hwi:(Lit.int .i64 (id:Int)).wf=true:=bh (by omega) (by omega)
 have hT0:=hT.lt
 have lmW:=HM.lt
 obtain⟨S,hS⟩:∃S,S=lkS l (id:Int):=⟨_,rfl⟩
 rw[← hS]
 refine cq (args:=[.map (some bm),I (id:Nat)]) (As:=[E (.map (some bm)),E (I (id:Nat))]) Tryz.func67 rfl Tryz.ntmps67 (Nat.le_of_ble_eq_true rfl) ?_ (fun a hf=>?_) (Nat.le_of_ble_eq_true rfl)
 ·exact aQ rfl (aQ rfl cO)
 dsimp only[params,Nat.reduceAdd] at hf
 have e:=Ext.rfl' W
 refine seq <| ae <| tB hf rfl fun a b2 w v2 hv2 e' hb2 hs2 B2 hf=>?_
 obtain⟨HM,hT,e⟩:=up3 e' HM hT e
 refine tA hf rfl fun a hf=>aa ?_
 cases hv2
 replace B2:Blk w b2 #[.map (some bm)] 121:=B2
 have hdv:=cr HM
 replace hf:=hf.kp [1,2]
 have n2:W.heap.size≤b2:=by omega
 refine seq <| ae <| tP hf (ld1 (v:=.map (some bm)) bC rfl B2 rfl) fun a w e' hf=>?_
 obtain⟨HM,hT,hdv,e,B2⟩:=up5 e' HM hT hdv e B2
 refine tP hf (mv rfl) fun a w e' hf=>?_
 obtain⟨HM,hT,hdv,e,B2⟩:=up5 e' HM hT hdv e B2
 refine tP hf ((lkM (l:=l) (i:=(id:Int)) bP cG (isE rfl hdv) rfl hwi).eq (congrArg ac hS.symm)) fun a w e' hf=>?_
 obtain⟨HM,hT,hdv,e,B2⟩:=up5 e' HM hT hdv e B2
 refine tL I68 hf fun a b5 w e' hb5 hs5 B5 hf=>?_
 have lt5_B2:=B2.lt
 obtain⟨HM,hT,hdv,e,B2⟩:=up5 e' HM hT hdv e B2
 have n5:b5≠bm∧b5≠b2∧W.heap.size≤b5:=by have:=B2.lt;omega
 refine az T68 hf rfl rfl (aP _) B5 rfl rfl fun w hg hsz B5 hf=>?_
 replace e:=e.gr hg n5.2.2;replace hT:=hT.gr hg (by omega);replace B2:=B2.gr hg n5.2.1.symm;replace HM:=HM.gr hg (fun h=>by cases h;omega)
 refine aa ?_
 replace hf:=hf.kp [2,5]
 refine seq <| ae <| tL I3 hf fun a b6 w e' hb6 hs6 B6 hf=>?_
 obtain⟨HM,hT,e,B2,B5⟩:=up5 e' HM hT e B2 B5
 haveI hinr:∀G0,InR (GB W G0) (some b6):=fun G0=>InR.gb (by omega)
 refine aA T3 hf rfl rfl rfl B6 (by decide) fun w hg hsz B6 hf=>?_
 replace HM:=HM.gr hg (fun h=>by cases h;omega)
 obtain⟨hT,e,B2,B5⟩:=gr4 hg hT e B2 B5
 refine aa ?_
 replace B6:Blk w b6 #[I ((0:Nat):Int)] 3:=B6
 have n6:b6≠bm∧b6≠b2∧b6≠b5∧W.heap.size≤b6:=by omega
 replace hf:=hf.keep [2,5,6]
 obtain⟨Nz,hNz⟩:∃Nz,Nz=w.heap.size:=⟨_,rfl⟩
 repeat refine seq ?_
 refine rgN 2 hf <| st ((ldW T68 rfl B5 rfl).eq ((rfl:_=ac S))) <| st (an (A:=bW Nz S) cg rfl (fun v w' he h=>by cases h;exact Calls.mono (cm _ w') (fun en w2 ⟨u,h1,h2,b',h3,h4,h5⟩=>⟨u,h1,h2,b',by have:=he.size;omega,h4,h5⟩))) ?_
 refine en fun a w e' hf=>?_
 obtain⟨HM,hT,e,B2,B5,B6⟩:=up6 e' HM hT e B2 B5 B6
 refine aa ?_
 obtain⟨vv,⟨b12,h12,rfl,BS⟩,hf⟩:=hf.fix 12 rfl
 replace hf:=hf.kp [2,5,6,12]
 have hBW:W.heap.size≤w.heap.size:=e.size
 have h0w:0<w.heap.size:=hT.lt
 have l2:=B2.lt
 have l5:=B5.lt
 have l6:=B6.lt
 have lm:=HM.lt
 refine blk <| cC (S:=S) hf rfl BS (by decide) (fun s w1=>Ext W w1∧Tab w1∧Blk w1 b2 #[.map (some bm)] 121∧Blk w1 b5 (au S) 68∧Blk w1 b6 #[I (flK l S s:Nat)] 3∧MpR sKV w1 bm n l) (fun _ _=>False) (fun s w1 h=>h.2.1)
  ⟨e,hT,B2,B5,B6,HM⟩ (fun s w1 w2 h hs k=>⟨h.1.kp k hBW,h.2.1.kp k h0w,h.2.2.1.kp k (fun hh=>by have:=hh.1;omega),h.2.2.2.1.kp k (fun hh=>by have:=hh.1;omega),h.2.2.2.2.1.kp k (fun hh=>by have:=hh.1;omega),h.2.2.2.2.2.pres (k.same _ h.2.2.2.2.2.lt (fun hh=>by have:=hh.1;omega))⟩) (fun _ _ _ h=>h.elim) ?_ ?_ (fun _ _ _ _ _ _ h=>h.elim)
 ·intro lb s x rest a1 w1 hs hJ hlw hf
  have hx1024:x<1024:=(aH.1 (by rw[hs];simp)).1
  have hwx:(Lit.int .i64 (x:Int)).wf=true:=bh (by omega) (by omega)
  have hsl:s.length<1024:=by have:=bX S;rw[hs] at this;simp at this;omega
  generalize hBz:w.heap.size=Bz at *
  refine ae <| tA hf rfl fun a hf=>aa <| ⟨Kh.rfl' _ _,fun w3 k3 hsz3=>?_⟩
  obtain⟨h1,h2,h3,h4,h5,h6⟩:=hJ
  have e:=h1.kp k3 hBW
  have hT:=h2.kp k3 h0w
  have B2:=h3.kp k3 (fun hh=>by have:=hh.1;omega)
  have B5:=h4.kp k3 (fun hh=>by have:=hh.1;omega)
  have B6:=h5.kp k3 (fun hh=>by have:=hh.1;omega)
  have HM:MpR sKV w3 bm n l:=h6.pres (k3.same _ h6.lt (fun hh=>by have:=hh.1;omega))
  replace hf:=hf.pure w3
  have kh:=Kh.rfl' Bz w3
  obtain⟨c,hc⟩:∃c,c=flK l S s:=⟨_,rfl⟩
  have hcl:c≤2000000:=by
   have:=oC l S s 0
   rw[hc,flK];omega
  obtain⟨T,hTe⟩:∃T,T=del (S &&& ~~~lkS l (x:Int)) (x:Int):=⟨_,rfl⟩
  have hcT:card T≤1024:=ox T
  have hcn:flK l S (s++[x])=c+card T:=by rw[a3c,hc,hTe]
  rw[← hc] at B6
  have hdv:=cr HM
  replace hf:=hf.keep [2,5,6,7]
  refine blk <| rgG 10 Mix.mix hf <| st (ld1 (v:=I (c:Nat)) T3 rfl B6 rfl) <| st ((ldW T68 rfl B5 rfl).eq ((rfl:_=ac S))) <| st (ld1 (v:=.map (some bm)) bC rfl B2 rfl) <| st (mv rfl) <| st (lkM (l:=l) (i:=(x:Int)) bP cG (isE rfl hdv) rfl hwx) <| st (ar (A:=E (ac (S &&& ~~~lkS l (x:Int)))) (B:=E (ac S)) (C:=E (ac (lkS l (x:Int)))) cX rfl rfl (fun v u w he h h'=>by cases h;cases h';exact db _ _ w)) ?_
  refine st (mv rfl) <| st (ar (A:=E (ac T)) (B:=E (ac (S &&& ~~~lkS l (x:Int)))) (C:=E (I (x:Nat))) fi rfl rfl (fun v u w he h h'=>by cases h;cases h';rw[hTe];exact fq _ _ w)) ?_
  refine st (an (A:=E (I (card T:Nat))) (B:=E (ac T)) gY rfl (fun v w he h=>by cases h;exact ir _ w)) ?_
  refine st ((add rfl rfl (by omega)).eq (congrArg (Value.int .i64) (show ((c:Nat):Int)+((card T:Nat):Int)=((c+card T:Nat):Int) from rfl))) <| en fun a w e' hf=>?_
  obtain⟨HM,hT⟩:=up2 e' HM hT
  replace kh:=kh.tr (Kh.ext e')
  obtain⟨e,B2,B5,B6⟩:=up4 e' e B2 B5 B6
  replace hf:=hf.kp [2,5,6,23]
  refine aA T3 hf rfl rfl rfl B6 Nat.zero_lt_one fun w hg hsz B6 hf=>?_
  replace e:=e.gr hg n6.2.2.2;replace hT:=hT.gr hg (by omega);replace B2:=B2.gr hg n6.2.1.symm;replace B5:=B5.gr hg n6.2.2.1.symm;replace HM:=HM.gr hg (fun h=>by cases h;omega)
  replace kh:=kh.tr (Kh.gr hg fun hh=>by have:=hh.1;omega)
  refine aa ?_
  simp only[Exit.inBlock]
  exact⟨⟨e,hT,B2,B5,by rw[hcn];exact B6,HM⟩,kh⟩
 ·intro a' w' hf' hJ hsz hDn
  simp only[Exit.inBlock,↓reduceIte,Exit.then]
  have hD:Ds [w.heap.size] w':=(Ds.nil w').cons hDn (by simp)
  have hf:FrD 26 (bq [w.heap.size]) a' w' [(6,E (ptr b6))]:=hf'.keep [6]
  have hDW:∀d∈[w.heap.size],W.heap.size≤d:=fun d hd=>by rw[List.mem_singleton] at hd;omega
  obtain⟨e,hT,B2,B5,B6,HM⟩:=hJ
  obtain⟨c,hc⟩:∃c,c=flK l S (elems S):=⟨_,rfl⟩
  have hcl:c≤2000000:=by
   have h1:=oC l S (elems S) 0
   have h2:=bX S
   rw[hc,flK];omega
  rw[← hc] at B6
  rw[← hc]
  generalize [w.heap.size]=D2 at *
  generalize w'=w at *
  refine seq <| rgN 2 hf <| st (ld1 (v:=I (c:Nat)) T3 rfl B6 rfl) <| st (quo rfl rfl (by omega)) <| en fun a w e' hf=>?_
  obtain⟨e,B6,hD⟩:=up3 e' e B6 hD
  refine tA hf rfl fun a hf=>aa <| ai <| gf rfl hf rfl hD ⟨_,rfl,e.shut hDW,rfl⟩
theorem oD {g:GT}(ok:Gr.Ok g)(i:Nat):nbA g (i:Int)=nbG g.2 (i:Int):=by
 rw[nX]
 by_cases h:(ah g.1).getLsbD i=true
 ·rw[if_pos h]
 ·rw[if_neg h]
  refine bT fun j=>⟨fun hh=>absurd hh (aW j),fun hh=>?_⟩
  have:Adj g i j:=(nW (kY ok) i j).1 hh
  exact absurd (this.inn ok).1 h
def bsO (nb:Int→BS)(s:List Nat):BS:=s.foldl (fun (o:BS) (v:Nat)=>o ||| nb (v:Int)) 0
def cM (nb:Int→BS)(S:BS):BS:=bsO nb (elems S) &&& ~~~S
theorem a3e (nb:Int→BS)(s:List Nat)(x:Nat):bsO nb (s++[x])=bsO nb s ||| nb (x:Int):=by simp only[bsO,List.foldl_append,List.foldl_cons,List.foldl_nil]
theorem uy {G:Nat→Prop}{N:Nat}(g:GT)(ok:Gr.Ok g)(v:Value)(X:BS)(W:World)(hT:Tab W)(h:(Dv (ptE (grE N)) G (some g)).p v W)(hl2:g.2.length≤100000)(hN:N≤1000000) :
  Calls Tryz.prog 149 #[v,ac X] W (Post (E (ac (cM (nbA g) X))) W):=by
 have hv:(Dv (ptE (grE N)) G0 (some g)).p v W:=Dv.weak h fun b _ hb=>hb.elim
 have gs2:=ok.se
 have hT0:=hT.lt
 have h1c:v.cells = #[v]:=by
  obtain⟨ad,rfl,_⟩:=Dv.pt.1 hv
  rfl
 refine cq (args:=[v,ac X]) (As:=[E v,E (ac X)]) Tryz.func149 rfl Tryz.ntmps149 (Nat.le_of_ble_eq_true rfl) ?_ (fun a hf=>?_) (Nat.le_of_ble_eq_true rfl)
 ·exact aQ rfl (aQ rfl cO)
 have e:=Ext.rfl' W
 refine seq <| ae <| tB hf rfl fun a b2 w v2 hv2 e' hb2 hs2 B2 hf=>?_
 obtain⟨hT,e⟩:=up2 e' hT e
 refine tB hf rfl fun a b3 w v3 hv3 e' hb3 hs3 B3 hf=>?_
 obtain⟨hT,e,B2⟩:=up3 e' hT e B2
 refine tL I68 hf fun a b4 w e' hb4 hs4 B4 hf=>?_
 obtain⟨hT,e,B2,B3⟩:=up4 e' hT e B2 B3
 refine aa ?_
 cases hv2;cases hv3
 rw[h1c] at B2
 replace B3:Blk w b3 (au X) 68:=B3
 simp only[Value.cells,cE] at B4
 replace hf:=hf.keep [2,3,4]
 refine seq <| ae <| tL I68 hf fun a b5 w e' hb5 hs5 B5 hf=>?_
 obtain⟨hT,e,B2,B3,B4⟩:=up5 e' hT e B2 B3 B4
 refine aa ?_
 simp only[Value.cells,cE] at B5
 replace hf:=hf.keep [2,3,4,5]
 have n5:W.heap.size≤b4∧W.heap.size≤b5∧b2≠b5∧b3≠b5∧b4≠b5∧b2≠b4∧b3≠b4:=by omega
 obtain⟨Nz,hNz⟩:∃Nz,Nz=w.heap.size:=⟨_,rfl⟩
 repeat refine seq ?_
 refine rgN 2 hf <| st ((ldW T68 rfl B3 rfl).eq ((rfl:_=ac X))) <| st (an (A:=bW Nz X) cg rfl (fun v w' he h=>by cases h;exact Calls.mono (cm _ w') (fun en w2 ⟨u,h1,h2,b',h3,h4,h5⟩=>⟨u,h1,h2,b',by have:=he.size;omega,h4,h5⟩))) ?_
 refine en fun a w e' hf=>?_
 obtain⟨hT,e,B2,B3,B4,B5⟩:=up6 e' hT e B2 B3 B4 B5
 refine aa ?_
 obtain⟨vv,⟨b8,h8,rfl,BS⟩,hf⟩:=hf.fix 8 rfl
 replace hf:=hf.kp [2,3,4,5,8]
 have hBW:W.heap.size≤w.heap.size:=e.size
 have h0w:0<w.heap.size:=hT.lt
 have l5:=B5.lt
 refine blk <| cC (S:=X) hf rfl BS (by decide) (fun s w1=>Ext W w1∧Tab w1∧Blk w1 b2 #[v] 28∧Blk w1 b3 (au X) 68∧Blk w1 b4 (au 0) 68∧Blk w1 b5 (au (bsO (nbA g) s)) 68) (fun ex w1=>False) (fun s w1 h=>h.2.1)
  ⟨e,hT,B2,B3,B4,B5⟩ (fun s w1 w2 h hs k=>⟨h.1.kp k hBW,h.2.1.kp k h0w,h.2.2.1.kp k (fun hh=>by have:=hh.1;omega),h.2.2.2.1.kp k (fun hh=>by have:=hh.1;omega),h.2.2.2.2.1.kp k (fun hh=>by have:=hh.1;omega),h.2.2.2.2.2.kp k (fun hh=>by have:=hh.1;omega)⟩) (fun _ _ _ h=>h.elim) ?_ ?_ (fun _ _ _ _ _ _ h=>h.elim)
 ·intro lb s x rest a1 w1 hs hJ hlw hf
  have hx1024:x<1024:=(aH.1 (by rw[hs];simp)).1
  generalize hBz:w.heap.size=Bz at *
  refine ae <| tA hf rfl fun a hf=>aa <| ⟨Kh.rfl' _ _,fun w3 k3 hsz3=>?_⟩
  obtain⟨e',hT',B2',B3',B4',B5'⟩:=hJ
  have hJ3:Ext W w3∧Tab w3∧Blk w3 b2 #[v] 28∧Blk w3 b3 (au X) 68∧Blk w3 b4 (au 0) 68∧Blk w3 b5 (au (bsO (nbA g) s)) 68:=⟨e'.kp k3 hBW,hT'.kp k3 h0w,B2'.kp k3 (fun hh=>by have:=hh.1;omega),B3'.kp k3 (fun hh=>by have:=hh.1;omega),B4'.kp k3 (fun hh=>by have:=hh.1;omega),B5'.kp k3 (fun hh=>by have:=hh.1;omega)⟩
  replace hf:=hf.pure w3
  obtain⟨e,hT,B2,B3,B4,B5⟩:=hJ3
  have kh:=Kh.rfl' Bz w3
  obtain⟨O,hO⟩:∃O,O=bsO (nbA g) s:=⟨_,rfl⟩
  have hO2:O ||| nbA g (x:Int)=bsO (nbA g) (s++[x]):=by rw[a3e,hO]
  rw[← hO] at B5
  have e0:=e
  replace hf:=hf.keep [2,3,4,5,6]
  refine blk <| rgG 5 Mix.mix hf <| st ((ldW T68 rfl B5 rfl).eq ((rfl:_=ac O))) <| st (ld1 (v:=v) T28 rfl B2 rfl) <| st (mv rfl) <| st (ar (A:=E (ac (nbA g (x:Int)))) fP rfl rfl (fun v u w he k1 k2=>by cases k1;cases k2;rw[oD ok];exact gN g _ _ w (VA.st _ _ _ _ (Ext.tr e0 he) hv) gs2 hl2 hN)) ?_
  refine st (ar (A:=E (ac (O ||| nbA g (x:Int)))) fO rfl rfl (fun v u w he k1 k2=>by cases k1;cases k2;exact fZ _ _ w)) ?_
  refine en fun a w e' hf=>?_
  replace hT:=hT.ext e'
  replace kh:=kh.tr (Kh.ext e')
  obtain⟨e,B2,B3,B4,B5⟩:=up5 e' e B2 B3 B4 B5
  replace hf:=hf.kp [2,3,4,5,14]
  refine az T68 hf rfl rfl (aP _) B5 rfl (aZ _) fun w hg hsz B5 hf=>?_
  replace e:=e.gr hg n5.2.1;replace hT:=hT.gr hg (by omega);replace B2:=B2.gr hg n5.2.2.1;replace B3:=B3.gr hg n5.2.2.2.1;replace B4:=B4.gr hg n5.2.2.2.2.1
  replace kh:=kh.tr (Kh.gr hg fun hh=>by have:=hh.1;omega)
  refine aa ?_
  simp only[Exit.inBlock]
  rw[hO2] at B5
  exact⟨⟨e,hT,B2,B3,B4,B5⟩,kh⟩
 ·intro a' w' hf' hJ hsz hDn
  simp only[Exit.inBlock,↓reduceIte,Exit.then]
  have hD:Ds [w.heap.size] w':=(Ds.nil w').cons hDn (by simp)
  have hf:FrD 18 (bq [w.heap.size]) a' w' [(3,E (ptr b3)),(4,E (ptr b4)),(5,E (ptr b5))]:=hf'.keep [3,4,5]
  have hDW:∀d∈[w.heap.size],W.heap.size≤d:=fun d hd=>by rw[List.mem_singleton] at hd;omega
  obtain⟨e,hT,B2,B3,B4,B5⟩:=hJ
  have hbD:¬b4∈[w.heap.size]:=fun h=>by rw[List.mem_singleton] at h;omega
  generalize [w.heap.size]=D2 at *
  generalize w'=w at *
  obtain⟨O,hO⟩:∃O,O=bsO (nbA g) (elems X):=⟨_,rfl⟩
  rw[← hO] at B5
  refine seq <| rgN 3 hf <| st ((ldW T68 rfl B5 rfl).eq ((rfl:_=ac O))) <| st ((ldW T68 rfl B3 rfl).eq ((rfl:_=ac X))) <| st (ar (A:=E (ac (O &&& ~~~X))) cX rfl rfl (fun v u w he h h'=>by cases h;cases h';exact db _ _ w)) ?_
  refine en fun a w e' hf=>?_
  obtain⟨e,B3,B4,B5,hD⟩:=up5 e' e B3 B4 B5 hD
  refine az T68 hf rfl rfl (aP _) B4 rfl (aZ _) fun w hg hsz B4 hf=>aa ?_
  replace e:=e.gr hg n5.1
  replace hD:=hD.gr hg hbD
  refine ai <| zg rfl T68 hf rfl B4 (aZ _) hD ⟨_,rfl,e.shut hDW,?_⟩
  rw[hO];rfl
def fI (nb:Int→BS)(R:BS):Nat→BS→Option BS
 | 0,_=>none
 | k+1,p=>if cM nb p &&& R=0 then some p else fI nb R k (p ||| (cM nb p &&& R))
def oE (o:Option Nat)(f:Nat→Option BS)(c:BS→Option (List BS)):Option (List BS):=match o with
 | none=>some []
 | some i=>match f i with
  | none=>none
  | some p=>(c p).map (p :: ·)
def cw (nb:Int→BS)(m:Nat):Nat→BS→Option (List BS)
 | 0,_=>none
 | k+1,R=>oE (bj R) (fun i=>fI nb R m (ins 0 (i:Int))) fun p=>cw nb m k (R &&& ~~~p)
theorem a3f (nb:Int→BS)(m:Nat)(R:BS):cw nb m 0 R=none:=rfl
theorem uz (nb:Int→BS)(m k:Nat)(R:BS):cw nb m (k+1) R=oE (bj R) (fun i=>fI nb R m (ins 0 (i:Int))) fun p=>cw nb m k (R &&& ~~~p):=rfl
theorem a3g (nb:Int→BS)(m k:Nat){R:BS}(h:bj R=none):cw nb m (k+1) R=some []:=by
 rw[uz,h];rfl
theorem a3h (nb:Int→BS)(m k:Nat){R:BS}{i:Nat}(h:bj R=some i){tl:List BS}(hc:cw nb m (k+1) R=some tl):∃p tl2,fI nb R m (ins 0 (i:Int))=some p∧cw nb m k (R &&& ~~~p)=some tl2∧tl=p::tl2:=by
 rw[uz,h] at hc
 generalize hg:fI nb R m (ins 0 (i:Int))=q at *
 simp only[oE] at hc
 rw[hg] at hc
 cases q with
 | none=>cases hc
 | some p=>
  obtain⟨tl2,h1,h2⟩:=Option.map_eq_some_iff.1 hc
  exact⟨p,tl2,rfl,h1,h2.symm⟩
theorem a3i (nb:Int→BS)(R p:BS):fI nb R 0 p=none:=rfl
theorem a3j (nb:Int→BS)(R p:BS)(k:Nat):fI nb R (k+1) p=if cM nb p &&& R=0 then some p else fI nb R k (p ||| (cM nb p &&& R)):=rfl
theorem a3k (S:BS)(x:Int):[x].foldl ins S=ins S x:=rfl
theorem uA {G:Nat→Prop}{N:Nat}(g:GT)(ok:Gr.Ok g)(gv:Value)(X:BS)(W:World)(hT:Tab W)(h:(Dv (ptE (grE N)) G (some g)).p gv W)(hl1:g.1.length≤100000)(hl2:g.2.length≤100000)(hN:N≤1000000)(m K:Nat)(hK:K≤10000)(L:List BS)(hL:cw (nbA g) m K (ah g.1 &&& ~~~X)=some L) :
  Calls Tryz.prog 148 #[gv,ac X] W (Post (OwA bD 68 W.heap.size G0 L) W):=by
 have hv:(Dv (ptE (grE N)) G0 (some g)).p gv W:=Dv.weak h fun b _ hb=>hb.elim
 have hT0:=hT.lt
 refine eN [gv,ac X] [E gv,E (ac X)] Tryz.func148 Tryz.ntmps148 ?_ fun a hf=>?_
 rotate_left
 dsimp only[params,Nat.reduceAdd] at hf
 rotate_right
 ·exact arg2 rfl rfl
 have e:=Ext.rfl' W
 refine seq <| ae <| tB hf rfl fun a b3 w v3 hv3 e' hb3 hs3 B3 hf=>?_
 obtain⟨hT,e⟩:=up2 e' hT e
 refine tA hf rfl fun a hf=>aa ?_
 cases hv3
 replace B3:Blk w b3 (au X) 68:=B3
 replace hf:=hf.kp [0,3]
 refine seq <| ae <| tA hf rfl fun a hf=>aa ?_
 replace hf:=hf.kp [0,3,5]
 have e0:=e
 obtain⟨V,hV⟩:∃V,V=ah g.1:=⟨_,rfl⟩
 obtain⟨R0,hR0⟩:∃R0,R0=V &&& ~~~X:=⟨_,rfl⟩
 rw[← hV,← hR0] at hL
 obtain⟨nb,hnb⟩:∃nb,nb=nbA g:=⟨_,rfl⟩
 rw[← hnb] at hL
 have fBs:∀(p:BS) (w:World),Ext W w→Tab w→Calls Tryz.prog 149 #[gv,ac p] w (Post (E (ac (cM nb p))) w):=fun p w e hT=>by rw[hnb];exact uy g ok gv p w hT (VA.st _ _ _ _ e hv) hl2 hN
 obtain⟨No,hNo⟩:∃No,No=w.heap.size:=⟨_,rfl⟩
 have hWo:W.heap.size≤No:=by rw[hNo];exact e.size
 refine seq <| rgG 5 Mix.mix hf <| st (mv rfl) <| st (an (A:=E (ac V)) (B:=E gv) fN rfl (fun u w he k=>by cases k;rw[hV];exact gk g _ w (VA.st _ _ _ _ (Ext.tr e0 he) hv) ok.sv hl1 hN)) ?_
 refine st ((ldW T68 rfl B3 rfl).eq ((rfl:_=ac X))) <| st (ar (A:=E (ac R0)) (B:=E (ac V)) (C:=E (ac X)) cX rfl rfl (fun v u w he h h'=>by cases h;cases h';rw[hR0];exact db _ _ w)) ?_
 refine st (alD I68) <| en fun a w e' hf=>?_
 obtain⟨hT,e,B3⟩:=up3 e' hT e B3
 obtain⟨_,⟨b6,hb6,rfl,B6⟩,hf⟩:=hf.fix 6 rfl
 rw[← hNo] at hb6
 have n6:W.heap.size≤b6:=by omega
 replace hf:=hf.kp [0,5,6,14]
 refine az T68 hf rfl rfl (aP _) B6 rfl rfl fun w hg hsz B6 hf=>?_
 obtain⟨e,hT⟩:=gr2 hg e hT
 refine aa ?_
 replace hf:=hf.kp [0,5,6]
 obtain⟨N1,hN1⟩:∃N1,N1=w.heap.size:=⟨_,rfl⟩
 have hN1s:N1≤w.heap.size:=Nat.le_of_eq hN1
 have l6:b6<N1:=by rw[hN1];exact B6.lt
 have hWN:W.heap.size≤N1:=by rw[hN1];exact e.size
 have Ho:OwR bD 68 N1 G0 w [] (.slice none 0 0):=OwR.nil bD _ hN1s fun b hb=>hb.elim
 repeat refine seq ?_
 refine rgN 7 hf <| st ((ldW T68 rfl B6 rfl).eq ((rfl:_=ac R0))) <| st (an (A:=ge R0) fh rfl (fun v w he h=>by cases h;exact fx _ w (hT.ext he))) ?_
 refine st (mv rfl) <| st (aO rfl rfl) <| st (aO rfl rfl) <| st (asg rfl) <| st (asg rfl) <| en fun a w e' hf=>?_
 obtain⟨hT,Ho,hN1s,e,B6⟩:=up5 e' hT Ho hN1s e B6
 refine aa ?_
 replace hf:=hf.keep [0,5,6,7,8]
 refine blk (aJ (fun r0 a w=>∃(R:BS) (ps tl:List BS) (u:Value),cw nb m r0 R=some tl∧ps++tl=L∧ps.length+r0≤K∧Fr 54 a w [(0,E gv),(5,E u),(6,E (ptr b6)),(7,E (I ((bj R).getD 0:Nat))),(8,E (B (bj R).isSome))]∧Ext W w∧Tab w∧N1≤w.heap.size∧Blk w b6 (au R) 68∧OwR bD 68 N1 G0 w ps u) K ⟨R0,[],L,.slice none 0 0,hL,rfl,by simp,hf,e,hT,hN1s,B6,Ho⟩ ?_)
 rintro r0 a w ⟨R,ps,tl,u,hc,hps,hpl,hf,e,hT,hN1s,B6,Ho⟩
 obtain⟨r,rfl⟩:∃r,r0=r+1:=by
  cases r0 with
  | zero=>rw[a3f] at hc;cases hc
  | succ r=>exact⟨r,rfl⟩
 repeat refine seq ?_
 cases hq:bj R with
 | none=>
  rw[hq] at hf
  rw[a3g _ _ _ hq] at hc
  cases hc
  rw[List.append_nil] at hps
  refine rgN 1 hf <| st (mv rfl) <| en fun a w e' hf=>?_
  obtain⟨e,Ho⟩:=up2 e' e Ho
  refine aa <| ifc hf rfl (fun h=>by cases h) (fun _=>aG ?_)
  replace hf:=hf.keep [5]
  rw[hps] at Ho
  refine seq <| rgN 1 hf <| st (mv rfl) <| en fun a w e' hf=>?_
  obtain⟨e,Ho⟩:=up2 e' e Ho
  refine tA hf rfl fun a hf=>aa <| ai <| ap rfl hf rfl ?_
  rintro _ rfl
  exact⟨_,rfl,e,Ho.low hWN fun b hb=>hb.elim⟩
 | some i=>
  have hi:i<1024:=ay (gp hq)
  have hwi:(Lit.int .i64 (i:Int)).wf=true:=bh (by omega) (by omega)
  rw[hq] at hf
  obtain⟨pf,tl2,hgo,hc2,rfl⟩:=a3h _ _ _ hq hc
  replace hf:=hf.upd 7 rfl (B:=E (I (i:Nat))) fun v h=>h
  replace hf:=hf.upd 8 rfl (B:=E (B true)) fun v h=>h
  obtain⟨p0,hp0⟩:∃p0,p0=ins 0 (i:Int):=⟨_,rfl⟩
  rw[← hp0] at hgo
  refine rgN 1 hf <| st (mv rfl) <| en fun a w e' hf=>?_
  obtain⟨hT,Ho,hN1s,e,B6⟩:=up5 e' hT Ho hN1s e B6
  refine aa <| ifc hf rfl (fun _=>ak ?_) (fun h=>by cases h)
  replace hf:=hf.kp [0,5,6,7]
  refine seq <| blk <| seq <| rgN 3 hf <| st (mv rfl) <| st (bB (e:=aj) (G:=G0) (z:=(i:Int)) U31 I3 rfl (by decide) rfl (fun b hb=>hb.elim) (isI rfl)) <| st (an (A:=E (ac p0)) (B:=Dv (slE aj) G0 [(i:Int)]) jY rfl (fun v w he k=>by have:=kH [(i:Int)] v w k (by simp);rw[a3k] at this;rw[hp0];exact this)) ?_
  refine en fun a w e' hf=>?_
  obtain⟨hT,Ho,hN1s,e,B6⟩:=up5 e' hT Ho hN1s e B6
  refine tL I68 hf fun a b9 w e' hb9 hs9 B9 hf=>?_
  have lo9_hN1s:=Nat.le_trans hN1s (Nat.le_of_eq hb9.symm)
  have ne9_Ho:=Ho.ne_new hb9
  have lt9_B6:=B6.lt
  obtain⟨hT,Ho,hN1s,e,B6⟩:=up5 e' hT Ho hN1s e B6
  have n9:N1≤b9∧b6≠b9:=⟨lo9_hN1s,by have:=lo9_hN1s;omega⟩
  have hu9:=ne9_Ho
  replace hf:=hf.kp [0,5,6,9,28]
  refine az T68 hf rfl rfl (aP _) B9 rfl rfl fun w hg hsz B9 hf=>?_
  obtain⟨e,hT,hN1s⟩:=gr3 hg e hT hN1s
  replace B6:=B6.gr hg n9.2;replace Ho:=Ho.grE hg hu9
  refine aa ?_
  replace hf:=hf.kp [0,5,6,9]
  have lu:∀b,u.ownBlock=some b→b<w.heap.size:=fun b hb=>(Ho.lt hb).2
  have e0:=e
  have hT1:=hT
  obtain⟨No,hNo⟩:∃No,No=w.heap.size:=⟨_,rfl⟩
  have lbs:b6<No∧b9<No∧N1≤No∧∀b,u.ownBlock=some b→b<No:=by rw[hNo];exact⟨B6.lt,B9.lt,hN1s,fun b hb=>(Ho.lt hb).2⟩
  repeat refine seq ?_
  refine rgG 6 Mix.mix hf <| st (mv rfl) <| st ((ldW T68 rfl B9 rfl).eq ((rfl:_=ac p0))) <| st (ar (A:=E (ac (cM nb p0))) (B:=E gv) (C:=E (ac p0)) mz rfl rfl (fun v u w he h h'=>by cases h;cases h';exact fBs p0 w (Ext.tr e0 he) (hT1.ext he))) ?_
  refine st ((ldW T68 rfl B6 rfl).eq ((rfl:_=ac R))) <| st (ar (A:=E (ac (cM nb p0 &&& R))) (B:=E (ac (cM nb p0))) (C:=E (ac R)) fj rfl rfl (fun v u w he h h'=>by cases h;cases h';exact fw _ _ w)) ?_
  refine st (alD I68) <| en fun a w e' hf=>?_
  obtain⟨hT,Ho,hN1s,e,B6,B9⟩:=up6 e' hT Ho hN1s e B6 B9
  obtain⟨_,⟨b10,hb10,rfl,B10⟩,hf⟩:=hf.fix 10 rfl
  rw[← hNo] at hb10
  have n10:N1≤b10∧b6≠b10:=by omega
  have n910:b9≠b10:=by omega
  have hu10:u.ownBlock≠some b10:=fun h=>by have:=lbs.2.2.2 _ h;omega
  replace hf:=hf.kp [0,5,6,9,10,33]
  refine az T68 hf rfl rfl (aP _) B10 rfl rfl fun w hg hsz B10 hf=>?_
  obtain⟨e,hT,hN1s⟩:=gr3 hg e hT hN1s
  replace B6:=B6.gr hg n10.2;replace B9:=B9.gr hg n910;replace Ho:=Ho.grE hg hu10
  refine aa ?_
  replace hf:=hf.kp [0,5,6,9,10]
  refine cut (J:=fun a w=>Fr 54 a w [(0,E gv),(5,E u),(6,E (ptr b6)),(9,E (ptr b9))]∧Ext W w∧Tab w∧N1≤w.heap.size∧Blk w b6 (au R) 68∧Blk w b9 (au pf) 68∧OwR bD 68 N1 G0 w ps u) ?_ (fun a w hJ=>?_)
  ·refine blk (aJ (fun q0 a w=>∃(p:BS) (b10:Nat),fI nb R q0 p=some pf∧Fr 54 a w [(0,E gv),(5,E u),(6,E (ptr b6)),(9,E (ptr b9)),(10,E (ptr b10))]∧Ext W w∧Tab w∧N1≤w.heap.size∧Blk w b6 (au R) 68∧Blk w b9 (au p) 68∧Blk w b10 (au (cM nb p &&& R)) 68∧(N1≤b10∧b6≠b10)∧b9≠b10∧u.ownBlock≠some b10∧OwR bD 68 N1 G0 w ps u) m ⟨p0,b10,hgo,hf,e,hT,hN1s,B6,B9,B10,n10,n910,hu10,Ho⟩ ?_)
   rintro q0 a w ⟨p,b10,hgo,hf,e,hT,hN1s,B6,B9,B10,n10,n910,hu10,Ho⟩
   obtain⟨q,rfl⟩:∃q,q0=q+1:=by
    cases q0 with
    | zero=>rw[a3i] at hgo;cases hgo
    | succ q=>exact⟨q,rfl⟩
   rw[a3j] at hgo
   obtain⟨M,hM⟩:∃M,M=cM nb p &&& R:=⟨_,rfl⟩
   rw[← hM] at hgo B10
   repeat refine seq ?_
   obtain⟨em,hem⟩:∃em,em=(M==0):=⟨_,rfl⟩
   refine rgN 3 hf <| st ((ldW T68 rfl B10 rfl).eq ((rfl:_=ac M))) <| st (an (A:=E (B em)) (B:=E (ac M)) fQ rfl (fun v w he h=>by cases h;rw[hem];exact ga M w)) ?_
   refine st (bA rfl) <| en fun a w e' hf=>?_
   obtain⟨hT,Ho,hN1s,e,B6,B9,B10⟩:=up7 e' hT Ho hN1s e B6 B9 B10
   refine aa <| ifc hf rfl (fun hb=>ak ?_) (fun hb=>aG ?_)
   ·replace hb:(!em)=true:=hb
    rw[hem] at hb
    have hMn:M≠0:=by simpa using hb
    rw[if_neg hMn] at hgo
    replace hf:=hf.kp [0,5,6,9,10]
    refine seq <| blk <| rgN 3 hf <| st ((ldW T68 rfl B9 rfl).eq ((rfl:_=ac p))) <| st ((ldW T68 rfl B10 rfl).eq ((rfl:_=ac M))) <| st (ar (A:=E (ac (p ||| M))) fO rfl rfl (fun v u w he k1 k2=>by cases k1;cases k2;exact fZ _ _ w)) ?_
    refine en fun a w e' hf=>?_
    obtain⟨hT,Ho,hN1s,e,B6,B9,B10⟩:=up7 e' hT Ho hN1s e B6 B9 B10
    refine az T68 hf rfl rfl (aP _) B9 rfl (aZ _) fun w hg hsz B9 hf=>?_
    obtain⟨e,hT,hN1s⟩:=gr3 hg e hT hN1s
    replace B6:=B6.gr hg n9.2;replace B10:=B10.gr hg n910.symm;replace Ho:=Ho.grE hg hu9
    refine aa ?_
    simp only[Exit.inBlock]
    replace hf:=hf.kp [0,5,6,9,10]
    obtain⟨p2,hp2⟩:∃p2,p2=p ||| M:=⟨_,rfl⟩
    rw[← hp2] at hgo B9
    repeat refine seq ?_
    refine rgN 1 hf <| st ((ldW T68 rfl B10 rfl).eq ((rfl:_=ac M))) <| en fun a w e' hf=>?_
    obtain⟨hT,Ho,hN1s,e,B6,B9,B10⟩:=up7 e' hT Ho hN1s e B6 B9 B10
    refine aa ?_
    replace hf:=hf.kp [0,5,6,9,45]
    refine ae <| tL I68 hf fun a b10 w e' hb10 hs10 B10 hf=>?_
    have lo10_hN1s:=Nat.le_trans hN1s (Nat.le_of_eq hb10.symm)
    have ne10_Ho:=Ho.ne_new hb10
    have lt10_B6:=B6.lt
    have lt10_B9:=B9.lt
    obtain⟨hT,Ho,hN1s,e,B6,B9⟩:=up6 e' hT Ho hN1s e B6 B9
    have n10:N1≤b10∧b6≠b10:=⟨lo10_hN1s,by have:=lo10_hN1s;omega⟩
    have n910:b9≠b10:=by omega
    have hu10:=ne10_Ho
    refine az T68 hf rfl rfl (aP _) B10 rfl rfl fun w hg hsz B10 hf=>?_
    obtain⟨e,hT,hN1s⟩:=gr3 hg e hT hN1s
    replace B6:=B6.gr hg n10.2;replace B9:=B9.gr hg n910;replace Ho:=Ho.grE hg hu10
    refine aa ?_
    replace hf:=hf.kp [0,5,6,9,10]
    have e0:=e
    have hT1:=hT
    refine rgG 5 Mix.mix hf <| st (mv rfl) <| st ((ldW T68 rfl B9 rfl).eq ((rfl:_=ac p2))) <| st (ar (A:=E (ac (cM nb p2))) (B:=E gv) (C:=E (ac p2)) mz rfl rfl (fun v u w he h h'=>by cases h;cases h';exact fBs p2 w (Ext.tr e0 he) (hT1.ext he))) ?_
    refine st ((ldW T68 rfl B6 rfl).eq ((rfl:_=ac R))) <| st (ar (A:=E (ac (cM nb p2 &&& R))) (B:=E (ac (cM nb p2))) (C:=E (ac R)) fj rfl rfl (fun v u w he h h'=>by cases h;cases h';exact fw _ _ w)) ?_
    refine en fun a w e' hf=>?_
    obtain⟨hT,Ho,hN1s,e,B6,B9,B10⟩:=up7 e' hT Ho hN1s e B6 B9 B10
    refine az T68 hf rfl rfl (aP _) B10 rfl (aZ _) fun w hg hsz B10 hf=>?_
    obtain⟨e,hT,hN1s⟩:=gr3 hg e hT hN1s
    replace B6:=B6.gr hg n10.2;replace B9:=B9.gr hg n910;replace Ho:=Ho.grE hg hu10
    refine aa ?_
    replace hf:=hf.kp [0,5,6,9,10]
    exact⟨q,by omega,p2,b10,hgo,hf,e,hT,hN1s,B6,B9,B10,n10,n910,hu10,Ho⟩
   ·replace hb:(!em)=false:=hb
    rw[hem] at hb
    have hM0:M=0:=by simpa using hb
    rw[if_pos hM0] at hgo
    cases hgo
    simp only[Exit.then,Exit.inBlock,↓reduceIte]
    replace hf:=hf.kp [0,5,6,9]
    exact⟨trivial,hf,e,hT,hN1s,B6,B9,Ho⟩
  obtain⟨hf,e,hT,hN1s,B6,B9,Ho⟩:=hJ
  refine seq <| rgN 3 hf <| st (mv rfl) <| st ((ldW T68 rfl B9 rfl).eq ((rfl:_=ac pf))) <| st (bB cz I68 rfl (by decide) rfl Ho.avs (isS rfl)) <| en fun a w e' hf=>?_
  obtain⟨hT,hN1s,B9,B6,Ho,e⟩:=up6 e' hT hN1s B9 B6 Ho e
  haveI hin:∀G0,InR (GB W G0) _:=OwR.inGB (W:=W) Ho (by omega)
  refine bI cz I68 rfl rfl hf (by decide) rfl Ho (isR rfl) (by simp only[List.length_singleton];omega) (by simp only[List.length_singleton,maxLen];omega) fun a v w hg hat Hn hf=>?_
  replace e:=e.gro hg (Ho.row (W:=W) (by omega))
  have hrow:=Ho.row (W:=W) (by omega)
  replace hT:=hT.gro hg (fun b hb=>by have:=(Ho.lt hb).1;omega)
  replace hN1s:=Nat.le_trans hN1s hg.size
  replace B9:=B9.gro hg hu9
  replace B6:=B6.gro hg (Ho.neLt l6)
  replace Ho:=Hn
  replace Ho:=Hn;clear Hn hg hat hin
  refine tA hf rfl fun a hf=>aa ?_
  replace hf:=hf.kp [0,5,6,9]
  obtain⟨u2,hu2⟩:∃u2,u2=v:=⟨_,rfl⟩
  rw[← hu2] at hf Ho
  refine rgN 3 hf <| st ((ldW T68 rfl B6 rfl).eq ((rfl:_=ac R))) <| st ((ldW T68 rfl B9 rfl).eq ((rfl:_=ac pf))) <| st (ar (A:=E (ac (R &&& ~~~pf))) (B:=E (ac R)) (C:=E (ac pf)) cX rfl rfl (fun v u w he h h'=>by cases h;cases h';exact db _ _ w)) ?_
  refine en fun a w e' hf=>?_
  obtain⟨hT,hN1s,Ho,e,B6,B9⟩:=up6 e' hT hN1s Ho e B6 B9
  have hn6:=Ho.neLt l6
  refine az T68 hf rfl rfl (aP _) B6 rfl (aZ _) fun w hg hsz B6 hf=>?_
  obtain⟨e,hT,hN1s⟩:=gr3 hg e hT hN1s
  replace Ho:=Ho.grE hg hn6
  refine aa ?_
  simp only[Exit.inBlock]
  replace hf:=hf.kp [0,5,6]
  obtain⟨R2,hR2⟩:∃R2,R2=R &&& ~~~pf:=⟨_,rfl⟩
  rw[← hR2] at hc2 B6
  refine rgN 7 hf <| st ((ldW T68 rfl B6 rfl).eq ((rfl:_=ac R2))) <| st (an (A:=ge R2) fh rfl (fun v w he h=>by cases h;exact fx _ w (hT.ext he))) ?_
  refine st (mv rfl) <| st (aO rfl rfl) <| st (aO rfl rfl) <| st (asg rfl) <| st (asg rfl) <| en fun a w e' hf=>?_
  obtain⟨hT,hN1s,Ho,e,B6⟩:=up5 e' hT hN1s Ho e B6
  refine aa ?_
  replace hf:=hf.kp [0,5,6,7,8]
  exact⟨r,by omega,R2,ps++[pf],tl2,u2,hc2,by rw[List.append_assoc];exact hps,by rw[List.length_append,List.length_singleton];omega,hf,e,hT,hN1s,B6,Ho⟩
def lkI (l:List (Int×Int))(i:Int):Int:=((l.find? fun p=>decide (p.1=i)).map (·.2)).getD 0
theorem uB (l:List (Int×Int))(x:Int)(c:Int)(i:Int):lkI (bE l x c) i=if i=x then c else lkI l i:=by
 rw[lkI,bE,List.find?_cons]
 by_cases h:x=i
 ·subst h;simp
 ·have h1:decide ((x,c).1=i)=false:=by simp[h]
  rw[h1,if_neg (Ne.symm h),lkI]
  congr 2
  induction l with
  | nil=>rfl
  | cons p l ih=>
   rw[List.filter_cons]
   by_cases hp:p.1=x
   ·have h2:decide (p.1=i)=false:=by rw[hp];simp[h]
    rw[if_neg (by simp[hp]),List.find?_cons,h2];exact ih
   ·rw[if_pos (by simp[hp]),List.find?_cons,List.find?_cons]
    cases decide (p.1=i) <;> simp[ih]
noncomputable def iKV:KV Tryz.prog Int Int where
 k:=3
 e:=3
 kv:=fun x=>.int .i64 x
 kl:=fun x=>.int .i64 x
 ok:=fun x=>(Lit.int .i64 x).wf=true
 mv:=fun c=>.int .i64 c
 dv:=fun c=>.lit (.int .i64 c)
 okv:=fun c=>(Lit.int .i64 c).wf=true
 R:=plainElem Tryz.prog 3
 K:=Maps.int_keyed U3
 key:=fun x hx=>Maps.keyOf_int_mk U3 hx
 keyInv:=fun v l h=>by obtain⟨x,h1,h2,h3⟩:=Maps.keyOf_int_inv U3 h;exact⟨x,h3,h1,h2⟩
 kvInj:=fun x y h=>by cases h;rfl
 val:=fun c hc=>plainElem_int U3 hc
 valInv:=fun v y h=>by
  obtain⟨c,h1,h2,h3⟩:=plainElem_int_inv U3 h
  exact⟨c,h3,h1,h2⟩
 dvInj:=fun c c' h=>by cases h;rfl
theorem a3l {l:List (Int×Int)}{i:Int}(h:∀c,(i,c) ∉ l):lkI l i=0:=by
 have:l.find? (fun p=>decide (p.1=i))=none:=by
  rw[List.find?_eq_none]
  intro p hp hh
  have h3:p.1=i:=by simpa using hh
  exact h p.2 (by rw[← h3];exact hp)
 rw[lkI,this];rfl
section
variable {w0:World}{L:Env}{dst:Option Tmp}{ty:TypeId}{pos:String}{aft:Array Edge}{g:Option (Nat×Bool)}{x y:Operand}{t:TypeId}{l:List (Int×Int)}{b n:Nat}
theorem gz {i:Int}(ht:Tryz.prog.underlying t=some (.map iKV.k iKV.e))(hx:opd L x=some (E (.map (some b))))(hM:MpR iKV w0 b n l)(hy:opd L y=some (E (I i)))(hi:(Lit.int .i64 i).wf=true) :
  OpC Tryz.prog w0 L ⟨dst,.lookup t x y false,ty,pos,aft,g⟩ (E (I (lkI l i))):=
 aM fun ρ w he' hv=>by
  have h5:=opE hv (x:=x) (by simp[Op.operands]) hx
  have h6:=opE hv (x:=y) (by simp[Op.operands]) hy
  have h2:=hM.ext he'
  obtain⟨D,m1,m2,m3,m4,_⟩:=h2.has (x:=i) hi
  have hz0:(Lit.int .i64 0).wf=true:=by decide
  obtain⟨v,ps,r1,r2⟩:=m1.lookup iKV.K ht (fV I3 w) (iKV.val 0 hz0) (iKV.key i hi)
  obtain⟨c,_,rfl,hy2⟩:=iKV.valInv _ _ r2
  have hcc:c=lkI l i:=by
   have h8:=congrArg Prod.fst hy2
   simp only at h8
   by_cases hex:∃c',(i,c')∈l
   ·obtain⟨c',hc'⟩:=hex
    rw[m3 c' hc'] at h8
    have h9:lkI l i=c':=by
     obtain⟨_,_,_,_,hp⟩:=h2
     cases hf:l.find? (fun p=>decide (p.1=i)) with
     | none=>have:=List.find?_eq_none.1 hf _ hc';simp at this
     | some p=>
      have k1:=List.find?_some hf
      have k2:=List.mem_of_find?_eq_some hf
      have k3:p.1=i:=by simpa using k1
      have k4:p=(i,p.2):=by rw[← k3]
      rw[k4] at k2
      rw[lkI,hf]
      exact jl hp k2 hc'
    rw[h9]
    exact (iKV.dvInj _ _ h8).symm
   ·have hno:∀c',(i,c') ∉ l:=fun c' h=>hex ⟨c',h⟩
    rw[m4 hno] at h8
    rw[a3l hno]
    exact (iKV.dvInj _ _ h8).symm
  rw[hcc] at r1
  have r1:(Instr.lookup t (.map (some b)) (I i) false).run Tryz.prog w=.ok (I (lkI l i)) w:=r1
  exact⟨_,by simp only[execOp,h5,h6,Sem.run_bind,r1,Result.andThen_ok,Sem.run_pure],rfl⟩
end
theorem a3m {H:Type}{P:Program}{e:TypeId}(he:P.underlying e=some .bool){v:Value}{z:DataW H×List MemPlace}(h:plainElem P e v=some z):∃c,v=.bool c∧z=(.lit (.bool c),[]):=by
 unfold plainElem at h
 rw[he] at h
 cases v <;> simp at h
 rename_i c
 exact⟨c,rfl,h.symm⟩
section
variable {w0:World}{L:Env}{dst:Option Tmp}{ty:TypeId}{pos:String}{aft:Array Edge}{g:Option (Nat×Bool)}{x y:Operand}{t:TypeId}{β:Type}{l:List (Int×β)}{b n:Nat}
end
noncomputable def iB:KV Tryz.prog BS Bool where
 k:=68
 e:=4
 kv:=ac
 kl:=fun S=>Classical.choose (iw S)
 ok:=fun _=>True
 mv:=fun c=>.bool c
 dv:=fun c=>.lit (.bool c)
 okv:=fun _=>True
 R:=plainElem Tryz.prog 4
 K:=Maps.Keyed.of_law tw
 key:=fun S _=>Classical.choose_spec (iw S)
 keyInv:=fun v l h=>by
  obtain⟨S,rfl⟩:=tx h
  exact⟨S,trivial,rfl,Option.some.inj (h.symm.trans (Classical.choose_spec (iw S)))⟩
 kvInj:=fun x y h=>mG (by injection h)
 val:=fun c hc=>plainElem_bool U4 c
 valInv:=fun v y h=>by
  obtain⟨c,h1,h2⟩:=a3m U4 h
  exact⟨c,trivial,h1,h2⟩
 dvInj:=fun c c' h=>by cases h;rfl
def lkB {β:Type}(z:β)(l:List (BS×β))(i:BS):β:=((l.find? fun p=>decide (p.1=i)).map (·.2)).getD z
theorem a3n {β:Type}{z:β}{l:List (BS×β)}{i:BS}(h:∀c,(i,c) ∉ l):lkB z l i=z:=by
 have:l.find? (fun p=>decide (p.1=i))=none:=by
  rw[List.find?_eq_none]
  intro p hp hh
  have h3:p.1=i:=by simpa using hh
  exact h p.2 (by rw[← h3];exact hp)
 rw[lkB,this];rfl
theorem a3o {β:Type}{z c:β}{l:List (BS×β)}{i:BS}(hp:l.Pairwise fun p q=>p.1≠q.1)(h:(i,c)∈l):lkB z l i=c:=by
 cases hf:l.find? (fun p=>decide (p.1=i)) with
 | none=>have:=List.find?_eq_none.1 hf _ h;simp at this
 | some p=>
  have k1:=List.find?_some hf
  have k2:=List.mem_of_find?_eq_some hf
  have k3:p.1=i:=by simpa using k1
  have k4:p=(i,p.2):=by rw[← k3]
  rw[k4] at k2
  rw[lkB,hf]
  exact jl hp k2 h
section
variable {w0:World}{L:Env}{dst:Option Tmp}{ty:TypeId}{pos:String}{aft:Array Edge}{g:Option (Nat×Bool)}{x y:Operand}{t:TypeId}{β:Type}{l:List (BS×β)}{b n:Nat}
theorem uC {V:KV Tryz.prog BS β}{i:BS}{z:β}(hz:∀w,(zeroValue V.e).run Tryz.prog w=.ok (V.mv z) w)(hz0:V.okv z)(ht:Tryz.prog.underlying t=some (.map V.k V.e))(hx:opd L x=some (E (.map (some b))))(hM:MpR V w0 b n l)(hy:opd L y=some (E (V.kv i)))(hi:V.ok i) :
  OpC Tryz.prog w0 L ⟨dst,.lookup t x y false,ty,pos,aft,g⟩ (E (V.mv (lkB z l i))):=
 aM fun ρ w he' hv=>by
  have h5:=opE hv (x:=x) (by simp[Op.operands]) hx
  have h6:=opE hv (x:=y) (by simp[Op.operands]) hy
  have h2:=hM.ext he'
  obtain⟨D,m1,m2,m3,m4,_⟩:=h2.has (x:=i) hi
  obtain⟨v,ps,r1,r2⟩:=m1.lookup V.K ht (hz w) (V.val z hz0) (V.key i hi)
  obtain⟨c,_,rfl,hy2⟩:=V.valInv _ _ r2
  have hcc:c=lkB z l i:=by
   have h8:=congrArg Prod.fst hy2
   simp only at h8
   by_cases hex:∃c',(i,c')∈l
   ·obtain⟨c',hc'⟩:=hex
    rw[m3 c' hc'] at h8
    obtain⟨_,_,_,_,hp⟩:=h2
    rw[a3o hp hc']
    exact (V.dvInj _ _ h8).symm
   ·have hno:∀c',(i,c') ∉ l:=fun c' h=>hex ⟨c',h⟩
    rw[m4 hno] at h8
    rw[a3n hno]
    exact (V.dvInj _ _ h8).symm
  rw[hcc] at r1
  exact⟨_,by simp only[execOp,h5,h6,Sem.run_bind,r1,Result.andThen_ok,Sem.run_pure],rfl⟩
end
theorem a3p {β:Type}(z:β)(l:List (BS×β))(x:BS)(c:β)(i:BS):lkB z (bE l x c) i=if i=x then c else lkB z l i:=by
 rw[lkB,bE,List.find?_cons]
 by_cases h:x=i
 ·subst h;simp
 ·have h1:decide ((x,c).1=i)=false:=by simp[h]
  rw[h1,if_neg (Ne.symm h),lkB]
  dsimp only
  congr 2
  induction l with
  | nil=>rfl
  | cons p l ih=>
   rw[List.filter_cons]
   by_cases hp:p.1=x
   ·have h2:decide (p.1=i)=false:=by rw[hp];simp[h]
    rw[List.find?_cons,h2]
    simpa[hp] using ih
   ·rw[if_pos (by simp[hp]),List.find?_cons,List.find?_cons,ih]
def de (nb:Int→BS)(l:List BS)(p:BS):List BS:=if cM nb p∈l then l else l++[cM nb p]
def bM (nb:Int→BS)(l L:List BS):List BS:=L.foldl (de nb) l
theorem a3q (nb:Int→BS)(l L:List BS)(p:BS):bM nb l (L++[p])=de nb (bM nb l L) p:=by rw[bM,List.foldl_append];rfl
theorem iC (nb:Int→BS):∀(L l:List BS),(bM nb l L).length≤l.length+L.length
 | [],l=>Nat.le_refl _
 | p::L,l=>by
  have h1:=iC nb L (de nb l p)
  have h2:(de nb l p).length≤l.length+1:=by
   rw[de];split
   ·omega
   ·rw[List.length_append];exact Nat.le_refl _
  have h3:bM nb l (p::L)=bM nb (de nb l p) L:=rfl
  rw[h3,List.length_cons];omega
theorem OwR.neMp {α γ δ:Type}[DecidableEq γ]{e:Enc α}{ty:TypeId}{B:Nat}{G:Nat→Prop}{w:World}{xs:List α}{v:Value}(h:OwR e ty B G w xs v){P:Program}{V:KV P γ δ}{b n:Nat}{l:List (γ×δ)}(hb:MpR V w b n l):v.ownBlock≠some b:=fun hv=>by
 obtain⟨cs',h1,_⟩:=h.own
 rcases h1.2 with ⟨rfl,_⟩|⟨g,cap,cur,rfl,_,hg,_⟩
 ·simp[Value.ownBlock] at hv
 ·simp only[Value.ownBlock,Option.some.injEq] at hv
  subst hv
  exact hb.neB (show Blk w g cur ty from hg) rfl
def SpS (bm b3:Nat)(v0:Value):Nat→Prop:=fun b=>b=bm∨b=b3∨v0.ownBlock=some b
structure SpW (W:World)(gv:Value)(b1 b2 b3 bm:Nat)(v0 v:Value)(lp:List (BS×Bool))(xs:List BS)(w:World):Prop where
 c:Chg (SpS bm b3 v0) W w
 t:Tab w
 p1:Blk w b1 #[gv] 28
 p2:Blk w b2 #[.map (some bm)] 189
 p3:Blk w b3 #[v] 159
 m:MpR iB w bm xs.length lp
 o:OwR bD 68 1 G0 w xs v
 k:∀s,lkB false lp s=decide (s∈xs)
 l:OwL W v0 v
structure SpD (W:World)(b1 b2 b3 bm:Nat):Prop where
 hi:b1<W.heap.size∧b2<W.heap.size∧b3<W.heap.size∧bm<W.heap.size∧0<W.heap.size
 ne:b1≠b3∧b2≠b3∧b1≠bm∧b2≠bm∧b3≠bm∧0<b3∧0<bm
section
variable {W w w':World}{gv v0 v:Value}{b1 b2 b3 bm:Nat}{lp:List (BS×Bool)}{xs:List BS}
theorem SpW.ext (h:SpW W gv b1 b2 b3 bm v0 v lp xs w)(e:Ext w w'):SpW W gv b1 b2 b3 bm v0 v lp xs w':=⟨h.c.ext e,h.t.ext e,h.p1.ext e,h.p2.ext e,h.p3.ext e,h.m.ext e,h.o.ext e,h.k,h.l⟩
theorem SpW.new {b N:Nat}(h:SpW W gv b1 b2 b3 bm v0 v lp xs w)(d:SpD W b1 b2 b3 bm)(hN:N≤b)(hW:W.heap.size≤N)(ho:∀c,v.ownBlock=some c→c<N)(hg:w.grownBy w' (some b)):SpW W gv b1 b2 b3 bm v0 v lp xs w':=by
 obtain⟨h1,h2,h3,hm,h0⟩:=d.hi
 exact⟨h.c.gr hg (.inr (by omega)),h.t.gr hg (by omega),h.p1.gr hg (by omega),h.p2.gr hg (by omega),h.p3.gr hg (by omega),h.m.pres (hg.block _ h.m.lt fun e=>by cases e;omega),h.o.grE hg (fun hh=>by have:=ho _ hh;omega),h.k,h.l⟩
end
theorem a3r {G:Nat→Prop}{N:Nat}(g:GT)(ok:Gr.Ok g)(gv:Value)(X:BS)(xs:List BS)(lp:List (BS×Bool))(b1 b2 b3 bm:Nat)(v:Value)(W:World)(hG:(Dv (ptE (grE N)) G (some g)).p gv W)(hGS:∀b,SpS bm b3 v b→G b)(h:SpW W gv b1 b2 b3 bm v v lp xs W)(d:SpD W b1 b2 b3 bm)
  (hl1:g.1.length≤100000) (hl2:g.2.length≤100000) (hN:N≤1000000) (m K:Nat) (hK:K≤10000) (L:List BS) (hL:cw (nbA g) m K (ah g.1 &&& ~~~X)=some L) (hLl:L.length≤10000) (hxl:xs.length≤20000) :
  Calls Tryz.prog 147 #[ac X,ptr b1,ptr b2,ptr b3] W (fun en w'=>en=.returned (.tuple #[])∧∃v' lp',SpW W gv b1 b2 b3 bm v v' lp' (bM (nbA g) xs L) w'):=by
 have h0:=h
 have hownW:∀b,v.ownBlock=some b→b<W.heap.size:=fun b hb=>(h.o.lt hb).2
 refine cq (args:=[ac X,ptr b1,ptr b2,ptr b3]) (As:=[E (ac X),E (ptr b1),E (ptr b2),E (ptr b3)]) Tryz.func147 rfl Tryz.ntmps147 (Nat.le_of_ble_eq_true rfl) ?_ (fun a hf=>?_) (Nat.le_of_ble_eq_true rfl)
 ·exact aQ rfl (aQ rfl (aQ rfl (aQ rfl cO)))
 have e:=Ext.rfl' W
 refine seq <| ae <| tB hf rfl fun a b4 w v4 hv4 e' hb4 hs4 B4 hf=>?_
 replace h:=h.ext e'
 replace e:=e.tr e'
 refine aa ?_
 cases hv4
 replace B4:Blk w b4 (au X) 68:=B4
 replace hf:=hf.keep [1,2,3,4]
 obtain⟨nb,hnb⟩:∃nb,nb=nbA g:=⟨_,rfl⟩
 have e0:=e
 have h1:=h
 obtain⟨N1,hN1⟩:∃N1,N1=w.heap.size:=⟨_,rfl⟩
 have hW1:W.heap.size≤N1:=by rw[hN1];exact e.size
 refine seq <| rgN 5 hf <| st (ld1 (v:=gv) T28 rfl h.p1 rfl) <| st ((ldW T68 rfl B4 rfl).eq ((rfl:_=ac X))) <| st (ar (A:=OwA bD 68 N1 G0 L) (B:=E gv) (C:=E (ac X)) pQ rfl rfl (fun v u w he k1 k2=>by cases k1;cases k2;rw[hN1];exact (uA g ok gv X w (h1.t.ext he) (VA.st _ _ _ _ (Ext.tr e0 he) hG) hl1 hl2 hN m K hK L hL).mono fun en w' ⟨u,k1,k2,k3⟩=>⟨u,k1,k2,OwR.low k3 he.size fun b hb=>hb.elim⟩)) ?_
 refine st (aF cz ⟨_,rfl,fun v w _ h=>OwR.sl h⟩) <| st (mv rfl) <| en fun a w e' hf=>?_
 replace h:=h.ext e'
 replace e:=e.tr e'
 replace B4:=B4.ext e'
 refine aa ?_
 obtain⟨u,Ho,hf⟩:=hf.opn 10 rfl
 replace Ho:OwR bD 68 N1 G0 w L u:=Ho
 rw[← hnb]
 replace hf:=hf.keep [1,2,3,10,11,12]
 obtain⟨W2,hW2⟩:∃W2,W2=w:=⟨_,rfl⟩
 have HD2:(Dv (slE bD) (SpS bm b3 v) L).p u W2:=by
  rw[hW2]
  refine Ho.slN fun b hb hh=>?_
  have q:=(Ho.lt hb).1
  obtain⟨q1,q2,q3,q4,q5⟩:=d.hi
  rcases hh with rfl|rfl|hh
  ·omega
  ·omega
  ·have:=hownW _ hh;omega
 have hG2:(Dv (ptE (grE N)) G (some g)).p gv W2:=by rw[hW2];exact VA.st _ _ _ _ e hG
 have hWW:W.heap.size≤W2.heap.size:=by rw[hW2];exact e.size
 have h2:SpW W2 gv b1 b2 b3 bm v v lp xs w:=by rw[hW2];exact⟨(Ext.rfl' _).chg _,h.t,h.p1,h.p2,h.p3,h.m,h.o,h.k,fun b hb=>.inl hb⟩
 have hc1:=h.c
 rw[← hW2] at hc1
 have d2:SpD W2 b1 b2 b3 bm:=⟨by have:=d.hi;omega,d.ne⟩
 refine blk (aJ (fun r0 a w=>∃(k:Nat) (v':Value) (lp':List (BS×Bool)),k≤L.length∧L.length≤r0+k∧FrD 30 [] a w [(1,E (ptr b1)),(2,E (ptr b2)),(3,E (ptr b3)),(10,E u),(11,E (I (L.length:Nat))),(12,E (I (k:Nat)))]∧SpW W2 gv b1 b2 b3 bm v v' lp' (bM nb xs (L.take k)) w) L.length ⟨0,v,lp,Nat.zero_le _,by omega,hf,h2⟩ ?_)
 rintro r0 a w ⟨k,v1,lp1,hk,hr,hf,h⟩
 refine seq ?_
 by_cases hlt:k<L.length
 ·have hg:=List.getElem?_eq_getElem hlt
  generalize L[k]=p at hg
  have htk:L.take (k+1)=L.take k++[p]:=cB hg
  obtain⟨ys,hys⟩:∃ys,ys=bM nb xs (L.take k):=⟨_,rfl⟩
  have hyl:ys.length≤30000:=by
   have h1:=iC nb (L.take k) xs
   have h2:=List.length_take_le k L
   rw[← hys] at h1;omega
  have hyn:bM nb xs (L.take (k+1))=de nb ys p:=by rw[htk,a3q,hys]
  rw[← hys] at h
  obtain⟨N0,hN0⟩:∃N0,N0=w.heap.size:=⟨_,rfl⟩
  have hN0s:N0≤w.heap.size:=Nat.le_of_eq hN0
  have hWN0:W2.heap.size≤N0:=by rw[hN0];exact h.c.size
  have hoN:∀c,v1.ownBlock=some c→c<N0:=fun c hc=>by rw[hN0];exact (h.o.lt hc).2
  have HD:=Dv.ch HD2 h.c fun b hb=>hb
  have hGw:=Dv.ch hG2 h.c hGS
  refine rgN 1 hf <| st ((lss rfl rfl).eq (congrArg Value.bool ((decide_eq_true (by omega):_=true)))) <| en fun a w e' hf=>?_
  replace h:=h.ext e'
  replace HD:=VA.st _ _ _ _ e' HD
  replace hGw:=VA.st _ _ _ _ e' hGw
  replace hN0s:=Nat.le_trans hN0s e'.size
  refine aa <| seq <| ifc hf rfl (fun _=>ak ?_) (fun h=>by cases h)
  replace hf:=hf.keep [1,2,3,10,11,12]
  refine seq <| blk <| seq <| ae <| tP hf (aL cz S68 (isE rfl HD) rfl (by omega) (hg)) fun a w e' hf=>?_
  replace h:=h.ext e'
  replace HD:=VA.st _ _ _ _ e' HD
  replace hGw:=VA.st _ _ _ _ e' hGw
  replace hN0s:=Nat.le_trans hN0s e'.size
  refine tP hf (ldS T68 (isR rfl)) fun a w e' hf=>?_
  replace h:=h.ext e'
  replace HD:=VA.st _ _ _ _ e' HD
  replace hGw:=VA.st _ _ _ _ e' hGw
  replace hN0s:=Nat.le_trans hN0s e'.size
  refine tL I68 hf fun a b6 w e' hb6 hs6 B6 hf=>?_
  have lo6_hN0s:=Nat.le_trans hN0s (Nat.le_of_eq hb6.symm)
  replace h:=h.ext e'
  replace HD:=VA.st _ _ _ _ e' HD
  replace hGw:=VA.st _ _ _ _ e' hGw
  replace hN0s:=Nat.le_trans hN0s e'.size
  have n6:N0≤b6:=lo6_hN0s
  replace hf:=hf.kp [1,2,3,6,10,11,12,15]
  refine az T68 hf rfl rfl (aP _) B6 rfl rfl fun w hg' hsz B6 hf=>?_
  replace h:=h.new d2 n6 hWN0 hoN hg'
  replace hN0s:=Nat.le_trans hN0s hg'.size
  refine aa ?_
  replace hf:=hf.kp [1,2,3,6,10,11,12]
  have l6:=B6.lt
  have hGw:=Dv.ch hG2 h.c hGS
  have h1:=h
  obtain⟨s,hs⟩:∃s,s=cM nb p:=⟨_,rfl⟩
  refine seq <| rgN 3 hf <| st (ld1 (v:=gv) T28 rfl h.p1 rfl) <| st ((ldW T68 rfl B6 rfl).eq ((rfl:_=ac p))) <| st (ar (A:=E (ac s)) (B:=E gv) (C:=E (ac p)) mz rfl rfl (fun v u w he k1 k2=>by cases k1;cases k2;rw[hs,hnb];exact uy g ok gv p w (h1.t.ext he) (VA.st _ _ _ _ he hGw) hl2 hN)) ?_
  refine en fun a w e' hf=>?_
  replace h:=h.ext e'
  replace hN0s:=Nat.le_trans hN0s e'.size
  replace B6:=B6.ext e'
  refine tL I68 hf fun a b7 w e' hb7 hs7 B7 hf=>?_
  have lo7_hN0s:=Nat.le_trans hN0s (Nat.le_of_eq hb7.symm)
  replace h:=h.ext e'
  replace hN0s:=Nat.le_trans hN0s e'.size
  replace B6:=B6.ext e'
  have n7:N0≤b7:=lo7_hN0s
  replace hf:=hf.kp [1,2,3,7,11,12,10,18]
  refine az T68 hf rfl rfl (aP _) B7 rfl rfl fun w hg' hsz B7 hf=>?_
  replace h:=h.new d2 n7 hWN0 hoN hg'
  refine aa ?_
  replace hf:=hf.kp [1,2,3,7,10,11,12]
  obtain⟨q,hq⟩:∃q,q=lkB false lp1 s:=⟨_,rfl⟩
  have hqm:=h.k s
  rw[← hq] at hqm
  cases q with
  | true=>
   refine seq <| rgN 4 hf <| st (ld1 (v:=.map (some bm)) jT rfl h.p2 rfl) <| st ((ldW T68 rfl B7 rfl).eq ((rfl:_=ac s))) <| st ((uC (V:=iB) (z:=false) (fV I4) trivial mE rfl h.m rfl trivial).eq ((congrArg Value.bool hq.symm:_=B true))) <| st (bA rfl) <| en fun a w e' hf=>?_
   replace h:=h.ext e'
   replace B7:=B7.ext e'
   refine aa <| ifc hf rfl (fun h=>by cases h) (fun _=>ak ?_)
   replace hf:=hf.keep [1,2,3,10,11,12]
   refine rgN 1 hf <| st ((add rfl rfl (by omega)).eq (congrArg (Value.int .i64) (show ((k:Nat):Int)+1=((k+1:Nat):Int) from rfl))) <| en fun a w e' hf=>?_
   replace h:=h.ext e'
   refine tP hf (mv rfl) fun a w e' hf=>?_
   replace h:=h.ext e'
   refine aa ?_
   replace hf:=hf.keep [1,2,3,10,11,12]
   refine⟨r0 - 1,by omega,k+1,v1,lp1,by omega,by omega,hf,?_⟩
   rw[hyn,de,← hs,if_pos (of_decide_eq_true hqm.symm)]
   exact h
  | false=>
   have hh0:=hWN0
   refine seq <| rgN 4 hf <| st (ld1 (v:=.map (some bm)) jT rfl h.p2 rfl) <| st ((ldW T68 rfl B7 rfl).eq ((rfl:_=ac s))) <| st ((uC (V:=iB) (z:=false) (fV I4) trivial mE rfl h.m rfl trivial).eq ((congrArg Value.bool hq.symm:_=B false))) <| st (bA rfl) <| en fun a w e' hf=>?_
   replace h:=h.ext e'
   replace B7:=B7.ext e'
   refine aa <| ifc hf rfl (fun _=>?_) (fun h=>by cases h)
   replace hf:=hf.kp [1,2,3,7,10,11,12]
   have hns:s ∉ ys:=of_decide_eq_false hqm.symm
   have n7m:b7≠bm∧b7≠b3:=by have:=d2.hi;omega
   have hn7:v1.ownBlock≠some b7:=fun hh=>by have:=hoN _ hh;omega
   obtain⟨q1,q2,q3,q4,q5,q6,q7⟩:=d2.ne
   refine seq <| rgN 2 hf <| st (ld1 (v:=.map (some bm)) jT rfl h.p2 rfl) <| st ((ldW T68 rfl B7 rfl).eq ((rfl:_=ac s))) <| en fun a w e' hf=>?_
   replace h:=h.ext e'
   replace B7:=B7.ext e'
   refine dc (V:=iB) (i:=s) (c:=true) mE hf rfl rfl rfl h.m (by simp only[maxLen];omega) trivial trivial fun w hg' HM hf=>?_
   refine aa ?_
   have hom:=h.o.neMp h.m
   replace B7:=B7.gr hg' n7m.1
   have c:=h.c.gr hg' (.inl (.inl rfl))
   have t:=h.t.gr hg' (by omega)
   have p1:=h.p1.gr hg' q3
   have p2:=h.p2.gr hg' q4
   have p3:=h.p3.gr hg' q5
   have o:=h.o.grE hg' hom
   have hkl:=h.k
   have hl:=h.l
   replace hf:=hf.kp [1,2,3,7,10,11,12]
   refine rgN 3 hf <| st (ld1 (v:=v1) eJ rfl p3 rfl) <| st ((ldW T68 rfl B7 rfl).eq ((rfl:_=ac s))) <| st (bB (e:=bD) (z:=s) (G:=GO G0 v1) cz I68 rfl (by decide) rfl o.avs (isS rfl)) <| en fun a w e' hf=>?_
   obtain⟨c,t,o,HM,p1,p2,p3,B7⟩:=up8 e' c t o HM p1 p2 p3 B7
   have hn1:=o.neB p1 (by decide)
   have hn2:=o.neB p2 (by decide)
   have hn3:=o.neB p3 (by decide)
   have hnm:=o.neMp HM
   replace hf:=hf.kp [1,2,3,10,11,12,25,27]
   refine bI cz I68 rfl rfl hf (by decide) rfl o (isR rfl) (by simp only[List.length_singleton];omega) (by simp only[List.length_singleton,maxLen];omega) fun a v2 w2 hg' hat Hn hf=>?_
   have c2:=c.tr2 (Chg.row hg') fun b hb=>(hl b hb).elim (fun hh=>.inl (.inr (.inr hh))) .inr
   replace t:=t.gro hg' fun b hb=>(o.lt hb).1
   replace p1:=p1.gro hg' hn1
   replace p2:=p2.gro hg' hn2
   replace p3:=p3.gro hg' hn3
   replace HM:=HM.pres (hg'.block _ HM.lt fun e=>hnm e.symm)
   have hl2:OwL W2 v v2:=fun b hb=>hat.elim (fun hh=>hl b (by rw[← hh];exact hb)) fun hh=>.inr (by rw[hh] at hb;cases hb;exact c.size)
   have hn3:=Hn.neB p3 (by decide)
   replace hf:=hf.kp [1,2,3,10,11,12,28]
   refine aA eJ hf rfl rfl Hn.one p3 Nat.zero_lt_one fun w4 hg2 hsz p3 hf=>aa ?_
   have h:SpW W2 gv b1 b2 b3 bm v v2 (bE lp1 s true) (ys++[s]) w4:=by
    refine⟨c2.gr hg2 (.inl (.inr (.inl rfl))),t.gr hg2 (by omega),p1.gr hg2 q1,p2.gr hg2 q2,p3,by rw[List.length_append];exact HM.pres (hg2.block _ HM.lt fun e=>by cases e;omega),Hn.grE hg2 hn3,fun z=>?_,hl2⟩
    rw[a3p,hkl]
    by_cases hz:z=s
    ·rw[if_pos hz];exact (decide_eq_true (List.mem_append_right _ (List.mem_singleton.2 hz))).symm
    ·rw[if_neg hz]
     exact decide_eq_decide.2 ⟨List.mem_append_left _,fun hh=>(List.mem_append.1 hh).resolve_right fun hh=>hz (List.mem_singleton.1 hh)⟩
   replace hf:=hf.keep [1,2,3,10,11,12]
   refine rgN 1 hf <| st ((add rfl rfl (by omega)).eq (congrArg (Value.int .i64) (show ((k:Nat):Int)+1=((k+1:Nat):Int) from rfl))) <| en fun a w e' hf=>?_
   replace h:=h.ext e'
   refine tP hf (mv rfl) fun a w e' hf=>?_
   replace h:=h.ext e'
   refine aa ?_
   replace hf:=hf.keep [1,2,3,10,11,12]
   refine⟨r0 - 1,by omega,k+1,v2,bE lp1 s true,by omega,by omega,hf,?_⟩
   rw[hyn,de,← hs,if_neg hns]
   exact h
 ·have hke:k=L.length:=by omega
  refine rgN 1 hf <| st ((lss rfl rfl).eq (congrArg Value.bool ((decide_eq_false (by omega):_=false)))) <| en fun a w e' hf=>?_
  replace h:=h.ext e'
  refine aa <| seq <| ifc hf rfl (fun h=>by cases h) (fun _=>aG ?_)
  rw[hke,List.take_length] at h
  exact gh rfl (D:=[]) hf (Ds.nil _) ⟨rfl,v1,lp1,hc1.tr2 h.c fun b hb=>.inl hb,h.t,h.p1,h.p2,h.p3,h.m,h.o,h.k,fun b hb=>(h.l b hb).imp (fun h=>h) fun h=>Nat.le_trans hWW h⟩
def iD (J:BS)(key:Nat→Int):VA:=⟨fun v w=>∃i:Nat,v=I (i:Nat)∧J.getLsbD i=true∧∀j:Nat,J.getLsbD j=true→key i≤key j,fun _ _ _ _ h=>h⟩
theorem MpR.ne0 {l:List (Int×BS)}{J:BS}{nh:Nat→BS}(hM:NrM l J nh){i:Nat}(hi:J.getLsbD i=true):0<l.length:=by
 obtain⟨c,hc⟩:=(hM.key (i:Int)).2 ⟨i,rfl,hi⟩
 exact List.length_pos_of_mem hc
theorem NrM.emp {l:List (Int×BS)}{J:BS}{nh:Nat→BS}(hM:NrM l J nh)(h:l.length=0)(i:Nat):¬J.getLsbD i=true:=fun hi=>by
 have:=MpR.ne0 hM hi
 omega
theorem oF {l:List (Int×BS)}{N:Nat}{J:BS}{nh:Nat→BS}{v:Value}{w:World}(hv:(cK N l).p v w)(hM:NrM l J nh)(hl:0<l.length)(hl4:l.length≤1024)(fid:FuncId)(fst caps:Array Value)(hen:Proofs.Enters Tryz.prog fid)(key:Nat→Int)
  (hp:∀w',Ext w w'→∀x:Nat,J.getLsbD x=true→Calls Tryz.prog fid (fst ++ #[I (x:Nat)]++caps) w' (Post (E (I (key x))) w')):Calls Tryz.prog 76 #[v,.func (.func fid) fst caps] w (Post (iD J key) w):=by
 obtain⟨ss,hp1,Ho⟩:=hv
 have hps:(ss.mergeSort fun x y=>decide (x≤y)).Perm (l.map fun p:Int×BS=>p.1):=(List.mergeSort_perm ss _).trans hp1
 generalize ss.mergeSort (fun x y=>decide (x≤y))=ls at hps Ho
 have hmem:∀x:Int,x∈ls↔∃i:Nat,x=(i:Int)∧J.getLsbD i=true:=fun x=>by
  rw[hps.mem_iff,← hM.key,List.mem_map]
  exact⟨fun⟨p,hp,he⟩=>⟨p.2,he▸hp⟩,fun⟨c,hc⟩=>⟨_,hc,rfl⟩⟩
 have hlen:ls.length=l.length:=by rw[hps.length_eq,List.length_map]
 obtain⟨x0,r,rfl⟩:=List.exists_cons_of_ne_nil (show ls≠[] from fun h=>by rw[h] at hlen;simp at hlen;omega)
 have hos:=Ho.sl
 refine (uw x0 r (by simp at hlen;omega) v w hos fid fst caps hen (fun x=>key x.toNat) fun w' e' x hx=>?_).mono ?_
 ·obtain⟨i,rfl,hi⟩:=(hmem x).1 hx
  exact hp w' e' i hi
 ·rintro en w' ⟨u,k1,k2,rfl⟩
  obtain⟨m1,m2⟩:=uo (fun x=>key x.toNat) (xs:=x0::r) (by simp)
  obtain⟨i,hi1,hi2⟩:=(hmem _).1 m1
  refine⟨_,k1,k2,i,by rw[hi1],hi2,fun j hj=>?_⟩
  have:=m2 (j:Int) ((hmem _).2 ⟨j,rfl,hj⟩)
  rw[hi1] at this
  exact this
theorem Nr.tg {J:BS}{nh:Nat→BS}(h:Nr J nh){id:Nat}(hid:J.getLsbD id=true):Nr J (tgN nh id):=fun i j hi hij=>by
 have hi':=ay hi
 rw[tgN] at hij
 by_cases hc:(nh id).getLsbD i=true
 ·rw[if_pos hc,bu _ hi',ez] at hij
  obtain⟨h1,h2⟩:=hij
  obtain⟨_,c2,c3⟩:=h id i hid hc
  rcases h1 with h1|h1
  ·obtain⟨q1,q2,q3⟩:=h i j hi h1
   refine⟨q1,?_,h2⟩
   rw[tgN]
   by_cases hj:(nh id).getLsbD j=true
   ·rw[if_pos hj,bu _ (ay q1),ez]
    exact⟨.inl q2,fun e=>h2 e.symm⟩
   ·rw[if_neg hj];exact q2
  ·obtain⟨q1,q2,q3⟩:=h id j hid h1
   refine⟨q1,?_,h2⟩
   rw[tgN,if_pos h1,bu _ (ay q1),ez]
   exact⟨.inr hc,fun e=>h2 e.symm⟩
 ·rw[if_neg hc] at hij
  obtain⟨q1,q2,q3⟩:=h i j hi hij
  refine⟨q1,?_,q3⟩
  rw[tgN]
  by_cases hj:(nh id).getLsbD j=true
  ·rw[if_pos hj,bu _ (ay q1),ez]
   exact⟨.inl q2,fun e=>q3 e.symm⟩
  ·rw[if_neg hj];exact q2
def OrP (g:GT)(l:List Nat):Prop:=l.Nodup∧∀i,i∈l↔(ah g.1).getLsbD i=true
theorem OrP.len {g:GT}(G:Gr.Ok g){l:List Nat}(h:OrP g l):l.length=g.1.length:=by
 have hnd:(elems (ah g.1)).Nodup:=List.Nodup.sublist List.filter_sublist List.nodup_range
 refine .trans ?_ ((eA _).trans (tO G))
 exact List.Perm.length_eq ((List.perm_ext_iff_of_nodup h.1 hnd).2 fun i=>by rw[h.2,aH];exact⟨fun h=>⟨ay h,h⟩,fun h=>h.2⟩)
def OrA (g:GT):VA:=⟨fun u w=>∃l,OrP g l∧(Dv (slE aj) G0 (aD l)).p u w,fun _ _ _ e ⟨l,h1,h2⟩=>⟨l,h1,VA.st _ _ _ _ e h2⟩⟩
theorem a3s (x b1 b2 bm:Nat)(fid:FuncId)(hen:Proofs.Enters Tryz.prog fid)(key:Int)(W:World)(h1:Blk W b1 #[.func (.func fid) #[] #[]] 119)(h2:Blk W b2 #[.map (some bm)] 121)(hp:∀w',Ext W w'→Calls Tryz.prog fid #[.map (some bm),I (x:Nat)] w' (Post (E (I key)) w')) :
  Calls Tryz.prog 105 #[I (x:Nat),ptr b1,ptr b2] W (Post (E (I key)) W):=by
 refine eN [I (x:Nat),ptr b1,ptr b2] [E (I (x:Nat)),E (ptr b1),E (ptr b2)] Tryz.func105 Tryz.ntmps105 ?_ fun a hf=>?_
 rotate_left
 rotate_right
 ·exact dS rfl rfl rfl
 have e:=Ext.rfl' W
 refine seq <| ae <| tA hf rfl fun a hf=>aa ?_
 have e0:=e
 refine seq <| rgN 4 hf <| st (ld1 (v:=.func (.func fid) #[] #[]) vE rfl h1 rfl) <| st (ld1 (v:=.map (some bm)) bC rfl h2 rfl) <| st (mv rfl) <| st (ke (A:=E (I key)) (B:=E (.map (some bm))) (C:=E (I (x:Nat))) hen rfl rfl rfl (fun v u w he k k'=>by cases k;cases k';exact hp w (Ext.tr e0 he))) ?_
 refine en fun a w e' hf=>?_
 obtain⟨e,h1,h2⟩:=up3 e' e h1 h2
 refine tA hf rfl fun a hf=>aa <| ai <| ap rfl hf rfl ?_
 rintro _ rfl
 exact⟨_,rfl,e,rfl⟩
theorem cK.low {N:Nat}{l:List (Int×BS)}{u:Value}{w:World}(h:(cK N l).p u w):(cK 0 l).p u w:=by
 obtain⟨ss,h1,h2⟩:=h
 exact⟨ss,h1,h2.low (Nat.zero_le _) fun b hb=>hb.elim⟩
structure OdM (W:World)(b5 bm:Nat)(J:BS)(nh:Nat→BS)(lm:List (Int×BS))(w:World):Prop where
 e:Ext W w
 t:Tab w
 p5:Blk w b5 #[.map (some bm)] 121
 m:MpR sKV w bm lm.length lm
 r:NrM lm J nh
 s:Nr J nh
structure OdP (V J:BS)(done:List Nat):Prop where
 nd:done.Nodup
 all:∀i,V.getLsbD i=true↔i∈done∨J.getLsbD i=true
 dis:∀i,i∈done→¬J.getLsbD i=true
theorem uD {V J:BS}{done:List Nat}(h:OdP V J done):done.length≤1024:=Nat.le_trans (jB done (elems V) h.nd fun x hx=>aH.2 (by have:=(h.all x).2 (.inl hx);exact⟨ay this,this⟩)) (bX V)
theorem OdP.nil (V:BS):OdP V V []:=⟨List.nodup_nil,fun i=>⟨.inr,fun h=>h.elim (fun h=>by cases h) id⟩,fun i h=>by cases h⟩
theorem OdP.step {V J:BS}{done:List Nat}(h:OdP V J done){i:Nat}(hi:J.getLsbD i=true):OdP V (del J (i:Int)) (done++[i]):=by
 have hi':=ay hi
 have hid:i ∉ done:=fun hh=>h.dis i hh hi
 refine⟨?_,fun x=>?_,fun x hx=>?_⟩
 ·refine List.nodup_append.2 ⟨h.nd,by simp,?_⟩
  intro a ha b hb hab
  rw[List.mem_singleton] at hb
  exact hid (by rw[← hb,← hab];exact ha)
 ·rw[h.all x,List.mem_append,List.mem_singleton,bu J hi']
  constructor
  ·rintro (h1|h1)
   ·exact .inl (.inl h1)
   ·by_cases hx:x=i
    ·exact .inl (.inr hx)
    ·exact .inr ⟨h1,hx⟩
  ·rintro ((h1|h1)|h1)
   ·exact .inl h1
   ·exact .inr (h1▸hi)
   ·exact .inr h1.1
 ·rw[bu J hi']
  rintro⟨h1,h2⟩
  rw[List.mem_append,List.mem_singleton] at hx
  exact hx.elim (fun hx=>h.dis x hx h1) h2
section
variable {W w w':World}{J J':BS}{nh nh':Nat→BS}{b5 bm:Nat}{lm lm':List (Int×BS)}
theorem OdM.ext (h:OdM W b5 bm J nh lm w)(e:Ext w w'):OdM W b5 bm J nh lm w':=⟨Ext.tr h.e e,h.t.ext e,h.p5.ext e,h.m.ext e,h.r,h.s⟩
theorem OdM.gro {row:Option Nat}(h:OdM W b5 bm J nh lm w)(hg:w.grownBy w' row)(hr:∀b,row=some b→W.heap.size≤b)(h0:0<W.heap.size)(h5:row≠some b5)(hm:row≠some bm):OdM W b5 bm J nh lm w':=
 ⟨h.e.gro hg hr,h.t.gro hg fun b hb=>Nat.lt_of_lt_of_le h0 (hr b hb),h.p5.gro hg h5,h.m.pres (hg.block _ h.m.lt fun e=>hm e.symm),h.r,h.s⟩
theorem OdM.ch (h:OdM W b5 bm J nh lm w)(c:Chg (fun b=>b=bm) w w')(hW:W.heap.size≤bm)(h0:0<bm)(h5:b5≠bm)(m:MpR sKV w' bm lm'.length lm')(r:NrM lm' J' nh')(s:Nr J' nh'):OdM W b5 bm J' nh' lm' w':=
 ⟨h.e.ch c fun b hb=>by rw[show b=bm from hb];exact hW,h.t.ch c fun hh=>Nat.lt_irrefl _ (Nat.lt_of_lt_of_le h0 (Nat.le_of_eq (show 0=bm from hh).symm)),h.p5.ch c h5,m,r,s⟩
end
theorem uE {G:Nat→Prop}{N:Nat}(g:GT)(ok:Gr.Ok g)(v:Value)(fid:FuncId)(hen:Proofs.Enters Tryz.prog fid)(key:List (Int×BS)→Nat→Int)(hkey:∀w bm n lm x,x<1024→Tab w→MpR sKV w bm n lm→Calls Tryz.prog fid #[.map (some bm),I (x:Nat)] w (Post (E (I (key lm x))) w))(W:World)(hT:Tab W)(h:(Dv (ptE (grE N)) G (some g)).p v W)(hl1:g.1.length≤12)(hl2:g.2.length≤100000)(hN:N≤1000000) :
  Calls Tryz.prog 65 #[v,.func (.func fid) #[] #[]] W (Post (OrA g) W):=by
 have hT0:=hT.lt
 obtain⟨fv,hfv⟩:∃fv:Value,fv=.func (.func fid) #[] #[]:=⟨_,rfl⟩
 refine eN [v,.func (.func fid) #[] #[]] [E v,E (.func (.func fid) #[] #[])] Tryz.func65 Tryz.ntmps65 ?_ fun a hf=>?_
 rotate_left
 dsimp only[params,Nat.reduceAdd] at hf
 rotate_right
 ·exact arg2 rfl rfl
 have e:=Ext.rfl' W
 refine seq <| ae <| tB hf rfl fun a b3 w v3 hv3 e' hb3 hs3 B3 hf=>?_
 have hle3:=Nat.le_trans e.size (Nat.le_of_eq hb3.symm)
 obtain⟨hT,e⟩:=up2 e' hT e
 refine tA hf rfl fun a hf=>aa ?_
 cases hv3
 replace B3:Blk w b3 #[.func (.func fid) #[] #[]] 119:=B3
 rw[← hfv] at B3
 have hW3:W.heap.size≤b3:=hle3
 replace hf:=hf.kp [0,3]
 have e0:=e
 obtain⟨Nw,hNw⟩:∃Nw,Nw=w.heap.size:=⟨_,rfl⟩
 have h3N:b3<Nw:=by rw[hNw];exact B3.lt
 have hWN:W.heap.size≤Nw:=by rw[hNw];exact e.size
 refine seq <| rgN 2 hf <| st (mv rfl) <| st (an (A:=OwM Nw (elems (ah g.1)).length (nbL g (elems (ah g.1)))) (B:=E v) jV rfl (fun u w' he k=>by cases k;exact (kL g v w' (hT.ext he) (VA.st _ _ _ _ (Ext.tr e0 he) h) ok.sv ok.se (by omega) hl2 hN).mono fun en w2 ⟨u,k1,k2,bm,k3,k4,k5⟩=>⟨u,k1,k2,bm,k3,by rw[hNw];exact Nat.le_trans he.size k4,k5⟩)) ?_
 refine en fun a w e' hf=>?_
 obtain⟨hT,e,B3⟩:=up3 e' hT e B3
 obtain⟨mv,⟨bm,rfl,hbm,HM⟩,hf⟩:=hf.opn 9 rfl
 have hWm:W.heap.size≤bm:=by omega
 have n3:b3≠bm:=by omega
 have lmw:=HM.lt
 replace hf:=hf.kp [3,9]
 refine tL mj hf fun a b5 w e' hb5 hs5 B5 hf=>?_
 obtain⟨hT,HM,e,B3⟩:=up4 e' hT HM e B3
 haveI hinr:∀G0,InR (GB W G0) (some b5):=fun G0=>InR.gb (by omega)
 refine aA bC hf rfl rfl rfl B5 (by decide) fun w hg hsz B5 hf=>?_
 replace hT:=hT.gr hg (by omega)
 replace HM:=HM.gr hg (fun h=>by cases h;omega)
 obtain⟨e,B3⟩:=gr2 hg e B3
 refine aa ?_
 replace B5:Blk w b5 #[.map (some bm)] 121:=B5
 have n5:b5≠bm∧b5≠b3∧W.heap.size≤b5:=by omega
 replace hf:=hf.keep [3,5]
 refine seq <| ae <| tA hf rfl fun a hf=>aa ?_
 replace hf:=hf.keep [3,5,6]
 have h0m:0<bm:=by omega
 have hH:OdM W b5 bm (ah g.1) (fun j=>nbA g (j:Int)) (nbL g (elems (ah g.1))) w:=⟨e,hT,B5,HM.tight0,ll ok,oe ok⟩
 have Ho:OwR aj 3 W.heap.size G0 w (aD []) (.slice none 0 0):=OwR.nil aj _ e.size fun b hb=>hb.elim
 have hP:=OdP.nil (ah g.1)
 refine seq <| blk (aJ (fun r0 a w=>∃(J:BS) (nh:Nat→BS) (done:List Nat) (lm:List (Int×BS)) (u:Value),card J=r0∧Fr 28 a w [(3,E (ptr b3)),(5,E (ptr b5)),(6,E u)]∧Blk w b3 #[fv] 119∧OdM W b5 bm J nh lm w∧OwR aj 3 W.heap.size G0 w (aD done) u∧OdP (ah g.1) J done) (card (ah g.1)) ⟨_,_,[],_,_,rfl,hf,B3,hH,Ho,hP⟩ ?_)
 rintro r0 a w ⟨J,nh,done,lm,u,hr0,hf,B3,hH,Ho,hP⟩
 have hln:lm.length≤1024:=hH.r.len (by obtain⟨_,_,_,hp⟩:=hH.m;exact hp.2)
 have hdl:done.length≤1024:=uD hP
 have hdv:=cr hH.m
 repeat refine seq ?_
 by_cases hpos:0<lm.length
 ·repeat refine seq ?_
  refine rgN 3 hf <| st (ld1 (v:=.map (some bm)) bC rfl hH.p5 rfl) <| st (eU bP (isE rfl hdv)) <| st ((gtr rfl rfl).eq (congrArg Value.bool ((decide_eq_true (by omega):_=true)))) <| en fun a w e' hf=>?_
  replace hH:=hH.ext e'
  replace Ho:=Ho.ext e'
  replace B3:=B3.ext e'
  refine aa <| ifc hf rfl (fun _=>ak ?_) (fun h=>by cases h)
  refine blk ?_
  replace hf:=hf.keep [3,5,6]
  refine seq <| rgN 4 hf <| st (ld1 (v:=.map (some bm)) bC rfl hH.p5 rfl) <| st (an (A:=cK 0 lm) (B:=E (.map (some bm))) jX rfl (fun v w he h=>by cases h;exact (lC w (hH.m.ext he) hln).mono fun en w' ⟨u,k1,k2,k3⟩=>⟨u,k1,k2,cK.low k3⟩)) ?_
  refine st (ig rfl rfl) <| st (ar (A:=iD J (key lm)) (B:=cK 0 lm) (C:=E (.func (.func 105) #[] #[ptr b3,ptr b5])) jW rfl rfl (fun v u w he k k'=>by cases k';exact oF k hH.r hpos hln 105 #[] #[ptr b3,ptr b5] wW (key lm) (fun w' e' x hx=>a3s x b3 b5 bm fid hen (key lm x) w' (hfv▸B3.ext (Ext.tr he e')) (hH.p5.ext (Ext.tr he e')) (fun w'' e''=>hkey w'' bm _ lm x (ay hx) (hH.t.ext (Ext.tr (Ext.tr he e') e'')) (hH.m.ext (Ext.tr (Ext.tr he e') e'')))))) ?_
  refine en fun a w e' hf=>?_
  replace hH:=hH.ext e'
  replace Ho:=Ho.ext e'
  replace B3:=B3.ext e'
  refine tA hf rfl fun a hf=>aa ?_
  obtain⟨v7,⟨i,rfl,hi,_⟩,hf⟩:=hf.opn 7 rfl
  replace hf:=hf.keep [3,5,6,7]
  have hnl:(aD done).length=done.length:=by rw[aD,List.length_map]
  refine seq <| rgN 3 hf <| st (mv rfl) <| st (mv rfl) <| st (bB (e:=aj) (G:=GO G0 u) U35 I3 rfl (by decide) rfl Ho.avs (isI rfl)) <| en fun a w e' hf=>?_
  replace hH:=hH.ext e'
  replace Ho:=Ho.ext e'
  replace B3:=B3.ext e'
  replace hf:=hf.kp [3,5,7,17,19]
  have hn3:=Ho.neB B3 (by decide)
  have hn5:=Ho.neB hH.p5 (by decide)
  have hnm:=Ho.neMp hH.m
  have hlo:=fun b hb=>(Ho.lt (b:=b) hb).1
  refine bI U35 I3 rfl rfl hf (by decide) rfl Ho (isR rfl) (by simp only[List.length_singleton];omega) (by simp only[List.length_singleton,maxLen];omega) fun a u2 w hg hat Hn hf=>?_
  replace hH:=hH.gro hg hlo hT0 hn5 hnm
  replace B3:=B3.gro hg hn3
  replace Ho:OwR aj 3 W.heap.size G0 w (aD (done++[i])) u2:=by rw[aD,List.map_append];exact Hn
  refine tA hf rfl fun a hf=>aa ?_
  replace hf:=hf.kp [3,5,6,7]
  refine seq <| rgN 2 hf <| st (ld1 (v:=.map (some bm)) bC rfl hH.p5 rfl) <| st (mv rfl) <| en fun a w e' hf=>?_
  replace hH:=hH.ext e'
  replace Ho:=Ho.ext e'
  replace B3:=B3.ext e'
  refine bU (S:=fun b=>b=bm) (F:=fun z w'=>z=.tuple #[]∧∃l',MpR sKV w' bm l'.length l'∧NrM l' J (tgN nh i)) hf (by decide) wX ?_ fun a z w hc hF hf=>?_
  ·have e1:a.eval (.tmp 21)=.map (some bm):=hf.opd (.tmp 21) _ rfl
   have e2:a.eval (.tmp 22)=I (i:Nat):=hf.opd (.tmp 22) _ rfl
   simp only[List.map_toArray,List.map_cons,List.map_nil,e1,e2]
   exact (a2R i J nh _ hH.t hH.m hH.r hH.s hi h0m).mono fun en w' ⟨k1,k2,k3⟩=>⟨_,k1,k2,rfl,k3⟩
  obtain⟨rfl,l2,HM2,hM2⟩:=hF
  have hnm:=Ho.neMp hH.m
  replace Ho:=Ho.chE hc fun b hb h=>hnm (by rw[hb,show b=bm from h])
  replace B3:=B3.ch hc n3
  replace hH:=hH.ch hc hWm h0m n5.1 HM2 hM2 (hH.s.tg hi)
  refine aa ?_
  replace hf:=hf.kp [3,5,6,7]
  refine rgN 2 hf <| st (ld1 (v:=.map (some bm)) bC rfl hH.p5 rfl) <| st (mv rfl) <| en fun a w e' hf=>?_
  replace hH:=hH.ext e'
  replace Ho:=Ho.ext e'
  replace B3:=B3.ext e'
  refine bU (S:=fun b=>b=bm) (F:=fun z w'=>z=.tuple #[]∧∃l',MpR sKV w' bm l'.length l'∧NrM l' (del J (i:Int)) (awN (tgN nh i) i)) hf (by decide) mu ?_ fun a z w hc hF hf=>?_
  ·have e1:a.eval (.tmp 24)=.map (some bm):=hf.opd (.tmp 24) _ rfl
   have e2:a.eval (.tmp 25)=I (i:Nat):=hf.opd (.tmp 25) _ rfl
   simp only[List.map_toArray,List.map_cons,List.map_nil,e1,e2]
   exact (ot i J _ _ hH.t hH.m hH.r hH.s hi h0m).mono fun en w' ⟨k1,k2,k3⟩=>⟨_,k1,k2,rfl,k3⟩
  obtain⟨rfl,l3,HM3,hM3⟩:=hF
  have hnm:=Ho.neMp hH.m
  replace Ho:=Ho.chE hc fun b hb h=>hnm (by rw[hb,show b=bm from h])
  replace B3:=B3.ch hc n3
  replace hH:=hH.ch hc hWm h0m n5.1 HM3 hM3 (hH.s.aw hi)
  refine aa ?_
  replace hf:=hf.keep [3,5,6]
  have hcd:=gR hi
  exact⟨card (del J (i:Int)),by omega,del J (i:Int),_,done++[i],_,u2,rfl,hf,B3,hH,Ho,hP.step hi⟩
 ·have hno:=hH.r.emp (by omega)
  refine rgN 3 hf <| st (ld1 (v:=.map (some bm)) bC rfl hH.p5 rfl) <| st (eU bP (isE rfl hdv)) <| st ((gtr rfl rfl).eq (congrArg Value.bool ((decide_eq_false (by omega):_=false)))) <| en fun a w e' hf=>?_
  replace hH:=hH.ext e'
  replace Ho:=Ho.ext e'
  replace B3:=B3.ext e'
  refine aa <| ifc hf rfl (fun h=>by cases h) (fun _=>aG ?_)
  replace hf:=hf.keep [6]
  refine seq <| rgN 1 hf <| st (mv rfl) <| en fun a w e' hf=>?_
  replace hH:=hH.ext e'
  replace Ho:=Ho.ext e'
  replace B3:=B3.ext e'
  refine tA hf rfl fun a hf=>aa <| ai <| ap rfl hf rfl ?_
  rintro _ rfl
  exact⟨_,rfl,hH.e,done,⟨hP.nd,fun i=>by rw[hP.all i];exact⟨.inl,fun h=>h.resolve_right (hno i)⟩⟩,Ho.sl⟩
theorem a3t (at' n:Int)(b:Int×BS)(c:Value)(bn:Nat)(W:World)(hB:Blk W bn #[I n] 3) :
  Calls Tryz.prog 31 #[I at',.agg (bJ b),c,ptr bn] W (fun en w'=>en=.returned (.tuple #[])∧Chg (fun b=>b=bn) W w'∧Blk w' bn #[I (max n (card b.2:Nat))] 3):=by
 refine cq (args:=[I at',.agg (bJ b),c,ptr bn]) (As:=[E (I at'),E (.agg (bJ b)),E c,E (ptr bn)]) Tryz.func31 rfl Tryz.ntmps31 (Nat.le_of_ble_eq_true rfl) ?_ (fun a hf=>?_) (Nat.le_of_ble_eq_true rfl)
 ·exact aQ rfl (aQ rfl (aQ rfl (aQ rfl cO)))
 dsimp only[params,Nat.reduceAdd] at hf
 have e:=Ext.rfl' W
 refine seq <| ae <| tB hf rfl fun a b5 w v5 hv5 e' hb5 hs5 B5 hf=>?_
 obtain⟨e,hB⟩:=up2 e' e hB
 refine aa ?_
 cases hv5
 replace B5:Blk w b5 (bJ b) 81:=B5
 replace hf:=hf.keep [3,5]
 refine rgG 5 Mix.mix hf <| st (ld1 (v:=I n) T3 rfl hB rfl) <| st (fA U81 rfl T68 rfl) <| st ((ldP T68 rfl B5 (dx _)).eq (dy _)) <| st (an (A:=E (I (card b.2:Nat))) (B:=E (ac b.2)) gY rfl (fun v w he h=>by cases h;exact ir _ w)) ?_
 refine st (max2 rfl rfl) <| en fun a w e' hf=>?_
 obtain⟨e,hB⟩:=up2 e' e hB
 replace hf:=hf.kp [3,11]
 refine aA T3 hf rfl rfl rfl hB Nat.zero_lt_one fun w hg hsz hB hf=>aa <| gh rfl (D:=[]) hf (Ds.nil _) ⟨rfl,(e.chg _).gr hg (.inl rfl),hB⟩
theorem a3u (at':Int)(b:Int×BS)(c:Value)(bn:Nat)(xs:List (Int×BS))(v:Value)(W:World)(hB:Blk W bn #[v] 84)(Ho:OwR ck 81 1 G0 W xs v)(hl:xs.length≤10000) :
  Calls Tryz.prog 70 #[I at',.agg (bJ b),c,ptr bn] W (fun en w'=>en=.returned (.tuple #[])∧∃v',Chg (fun b=>b=bn∨v.ownBlock=some b) W w'∧Blk w' bn #[v'] 84∧OwR ck 81 1 G0 w' (xs++[b]) v'∧(∀d,v'.ownBlock=some d→v.ownBlock=some d∨W.heap.size≤d)):=by
 refine cq (args:=[I at',.agg (bJ b),c,ptr bn]) (As:=[E (I at'),E (.agg (bJ b)),E c,E (ptr bn)]) Tryz.func70 rfl Tryz.ntmps70 (Nat.le_of_ble_eq_true rfl) ?_ (fun a hf=>?_) (Nat.le_of_ble_eq_true rfl)
 ·exact aQ rfl (aQ rfl (aQ rfl (aQ rfl cO)))
 dsimp only[params,Nat.reduceAdd] at hf
 have e:=Ext.rfl' W
 refine seq <| ae <| tB hf rfl fun a b5 w v5 hv5 e' hb5 hs5 B5 hf=>?_
 obtain⟨Ho,e,hB⟩:=up3 e' Ho e hB
 refine aa ?_
 cases hv5
 replace B5:Blk w b5 (bJ b) 81:=B5
 replace hf:=hf.keep [3,5]
 refine rgN 3 hf <| st (ld1 (v:=v) T84 rfl hB rfl) <| st (ldW T81 rfl B5 (dw _)) <| st (bB (e:=ck) (z:=b) (G:=GO G0 v) U84 I81 rfl (by decide) rfl Ho.avs (qi rfl)) <| en fun a w e' hf=>?_
 obtain⟨Ho,e,hB⟩:=up3 e' Ho e hB
 replace hf:=hf.kp [3,7,9]
 have hnb:=Ho.neB hB (by decide)
 refine bI U84 I81 rfl rfl hf (by decide) rfl Ho (isR rfl) (by simp only[List.length_singleton];omega) (by simp only[List.length_singleton,maxLen];omega) fun a v2 w2 hg hat Hn hf=>?_
 have c1:=(e.chg (fun d=>d=bn∨v.ownBlock=some d)).tr2 (Chg.row hg) fun d hd=>.inl (.inr hd)
 replace hB:=hB.gro hg hnb
 have hle:∀d,v2.ownBlock=some d→v.ownBlock=some d∨W.heap.size≤d:=fun d hd=>hat.elim (fun h=>.inl (by rw[← h];exact hd)) fun h=>.inr (by rw[h] at hd;cases hd;exact e.size)
 have hn5:=Hn.neB hB (by decide)
 replace hf:=hf.kp [3,10]
 refine aA T84 hf rfl rfl Hn.one hB Nat.zero_lt_one fun w hg2 hsz hB hf=>aa <| gh rfl (D:=[]) hf (Ds.nil _) ⟨rfl,v2,c1.gr hg2 (.inl (.inl rfl)),hB,Hn.grE hg2 hn5,hle⟩
theorem uF (l:List Nat)(S:BS):(aD l).foldl ins S=aT S l:=by rw[aD,List.foldl_map,aT]
theorem uG {g:GT}{l:List Nat}(hl:∀i,i∈l↔(ah g.1).getLsbD i=true):(aD l).foldl ins 0=ah g.1:=by
 rw[uF]
 refine bT fun i=>?_
 rw[gS l 0 (fun x hx=>ay ((hl x).1 hx)) i,← hl i]
 exact⟨fun h=>h.resolve_left (aW i),.inr⟩
theorem a3v {G G2:Nat→Prop}{N:Nat}(g:GT)(ok:Gr.Ok g)(l:List Nat)(v gv:Value)(W:World)(h:(Dv (slE aj) G2 (aD l)).p v W)(hg:(Dv (ptE (grE N)) G (some g)).p gv W)(hl:∀i,i∈l↔(ah g.1).getLsbD i=true)(hlen:l.length=g.1.length)(hl1:g.1.length≤4096)(hN:N≤1000000) :
  Calls Tryz.prog 68 #[v,gv] W (Post (E (I 0)) W):=by
 have hv:(Dv (slE aj) G0 (aD l)).p v W:=Dv.weak h fun b _ hb=>hb.elim
 have hgv:(Dv (ptE (grE N)) G0 (some g)).p gv W:=Dv.weak hg fun b _ hb=>hb.elim
 refine eN [v,gv] [E v,E gv] Tryz.func68 Tryz.ntmps68 ?_ fun a hf=>?_
 rotate_left
 rotate_right
 ·exact arg2 rfl rfl
 have e:=Ext.rfl' W
 obtain⟨V,hV⟩:∃V,V=ah g.1:=⟨_,rfl⟩
 have hof:=uG hl
 rw[← hV] at hof
 have hnl:(aD l).length=l.length:=by rw[aD,List.length_map]
 refine seq <| ae <| tA hf rfl fun a hf=>aa ?_
 repeat refine seq ?_
 refine rgN 2 hf <| st (mv rfl) <| st (dX U28 (isE rfl (VA.st _ _ _ _ e hgv))) <| en fun a w e' hf=>?_
 replace e:=e.tr e'
 refine aa <| ifc hf rfl (fun h=>by cases h) (fun _=>?_)
 refine ak ?_
 have e0:=e
 refine seq <| rgN 5 hf <| st (mv rfl) <| st (an (A:=Tup [E (I (g.1.length:Nat)),E (I (g.2.length:Nat))]) (B:=E gv) pD rfl (fun v w he h=>by cases h;exact rY g _ w (VA.st _ _ _ _ (Ext.tr e0 he) hgv))) ?_
 refine st (mv rfl) <| st (aO rfl rfl) <| st (aO rfl rfl) <| en fun a w e' hf=>?_
 replace e:=e.tr e'
 refine tA hf rfl fun a hf=>tA hf rfl fun a hf=>aa ?_
 replace hf:=hf.keep [0,1,4,5]
 have e0:=e
 have hb3:((((aD l).length:Nat):Int) != ((g.1.length:Nat):Int))=false:=by rw[hnl,hlen];exact bne_self_eq_false _
 have hb9:(V != V)=false:=bne_self_eq_false V
 repeat refine seq ?_
 refine rgN 11 hf <| st (mv rfl) <| st (aF U35 (isE rfl (VA.st _ _ _ _ e hv))) <| st (mv rfl) <| st ((neq rfl rfl).eq (congrArg Value.bool (hb3))) <| st (mv rfl) <| sy rfl rfl (mv rfl) <| sy rfl rfl (an (A:=E (ac V)) (B:=E v) jY rfl (fun u w he k=>by cases k;have:=kH (aD l) v w (VA.st _ _ _ _ (Ext.tr e0 he) hv) (by omega);rwa [hof] at this)) ?_
 refine sy rfl rfl (mv rfl) <| sy rfl rfl (an (A:=E (ac V)) (B:=E gv) fN rfl (fun u w he k=>by cases k;rw[hV];exact gk g _ w (VA.st _ _ _ _ (Ext.tr e0 he) hgv) ok.sv (by omega) hN)) ?_
 refine sy rfl rfl ((neS U68 U66 T66 (by kernel_rfl) rfl rfl).eq (congrArg Value.bool (hb9))) <| st (pkF rfl rfl) <| en fun a w e' hf=>?_
 replace e:=e.tr e'
 refine aa <| ifc hf rfl (fun h=>by cases h) (fun _=>?_)
 refine ak <| seq <| ae <| tA hf rfl fun a hf=>aa <| ai <| ap rfl hf rfl ?_
 rintro _ rfl
 exact⟨_,rfl,e,rfl⟩
def foN (nb:Int→BS)(l:List Nat)(i:Nat):BS:=reB nb (aT 0 (l.take i)) ((l.getD i 0:Nat):Int)
def foU (nb:Int→BS)(l:List Nat)(i:Nat):Int:=if i+1=l.length then -1 else (elems (foN nb l i)).foldl (fun (m:Int) (x:Nat)=>min m (l.idxOf x:Nat)) ((l.length:Int) - 1)
def foB (nb:Int→BS)(l:List Nat)(i:Nat):Int×BS:=(foU nb l i,ins (foN nb l i) ((l.getD i 0:Nat):Int))
def bN (nb:Int→BS)(l:List Nat):List (Int×BS):=(List.range l.length).map (foB nb l)
theorem gT (nb:Int→BS)(l:List Nat):(bN nb l).length=l.length:=by rw[bN,List.length_map,List.length_range]
theorem lE {nb:Int→BS}{l:List Nat}{i:Nat}(hi:i<l.length):bg (bN nb l) i=foB nb l i:=by
 rw[bg,bN,List.getElem?_map,List.getElem?_range hi];rfl
theorem uH (f:Nat→Int):∀(s:List Nat) (m:Int),s.foldl (fun (m:Int) (x:Nat)=>min m (f x)) m≤m∧(∀x∈s,s.foldl (fun (m:Int) (x:Nat)=>min m (f x)) m≤f x)∧(s.foldl (fun (m:Int) (x:Nat)=>min m (f x)) m=m∨∃x∈s,s.foldl (fun (m:Int) (x:Nat)=>min m (f x)) m=f x)
 | [],m=>⟨Int.le_refl _,(fun x h=>by cases h),.inl rfl⟩
 | x::s,m=>by
  obtain⟨h1,h2,h3⟩:=uH f s (min m (f x))
  rw[List.foldl_cons]
  refine⟨Int.le_trans h1 (Int.min_le_left ..),fun y hy=>?_,?_⟩
  ·rcases List.mem_cons.1 hy with rfl|hy
   ·exact Int.le_trans h1 (Int.min_le_right ..)
   ·exact h2 y hy
  ·rcases h3 with h3|⟨y,hy,h3⟩
   ·rcases Int.le_total m (f x) with hm|hm
    ·exact .inl (by rw[h3];omega)
    ·exact .inr ⟨x,List.mem_cons_self ..,by rw[h3];omega⟩
   ·exact .inr ⟨y,List.mem_cons_of_mem _ hy,h3⟩
section
variable {nb:Int→BS}(hs:∀i j:Nat,(nb (i:Int)).getLsbD j=true→(nb (j:Int)).getLsbD i=true){l:List Nat}(hn:l.Nodup)(hlt:∀x∈l,x<1024)(hcl:∀i j:Nat,(nb (i:Int)).getLsbD j=true→j∈l)
include hs hn hlt hcl
omit hs hcl hlt in
theorem gA {j:Nat}(hj:j<l.length):l.idxOf (l.getD j 0)=j:=by
 have e1:l.getD j 0=l[j]:=by rw[List.getD_eq_getElem?_getD,List.getElem?_eq_getElem hj];rfl
 rw[e1]
 exact hn.idxOf_getElem j hj
omit hs hcl hlt in
theorem iE {i j:Nat}(hj:j<l.length):l.getD j 0∈l.take i↔j<i:=by
 have e1:l[j]?=some (l.getD j 0):=by rw[List.getD_eq_getElem?_getD,List.getElem?_eq_getElem hj];rfl
 constructor
 ·intro h
  obtain⟨k,hk⟩:=List.getElem?_of_mem h
  rw[List.getElem?_take] at hk
  split at hk
  ·rename_i hki
   have h1:=gA hn hj
   obtain⟨hkl,hke⟩:=List.getElem?_eq_some_iff.1 hk
   have h2:=hn.idxOf_getElem k hkl
   rw[hke,h1] at h2
   omega
  ·cases hk
 ·intro h
  refine List.mem_of_getElem? (i:=j) ?_
  rw[List.getElem?_take,if_pos h]
  exact e1
omit hs hcl hn in
theorem jH (i:Nat){x:Nat}:(aT 0 (l.take i)).getLsbD x=true↔x∈l.take i:=by
 rw[gS _ 0 (fun y hy=>hlt y (List.mem_of_mem_take hy)) x]
 exact⟨fun h=>h.resolve_left (aW x),.inr⟩
omit hn hlt hs hcl in
theorem iF {j:Nat}(hj:j<l.length):l.getD j 0∈l:=by
 rw[List.getD_eq_getElem?_getD,List.getElem?_eq_getElem hj];exact List.getElem_mem hj
omit hn hlt hs hcl in
theorem jI {x:Nat}(h:x∈l):∃j,j<l.length∧x=l.getD j 0:=by
 obtain⟨j,hj,he⟩:=List.mem_iff_getElem.1 h
 exact⟨j,hj,by rw[List.getD_eq_getElem?_getD,List.getElem?_eq_getElem hj];exact he.symm⟩
omit hs in
theorem eC {i:Nat}(hi:i<l.length){x:Nat}:(foN nb l i).getLsbD x=true↔∃j,j<l.length∧i<j∧x=l.getD j 0∧Via nb (aT 0 (l.take i)) (l.getD i 0) x:=by
 rw[foN,ee (hlt _ (iF hi))]
 constructor
 ·rintro⟨h1,h2,h3⟩
  have hx:x∈l:=by
   cases h1 with
   | one h=>exact hcl _ _ h
   | step _ _ h=>exact hcl _ _ h
  obtain⟨j,hj,rfl⟩:=jI hx
  refine⟨j,hj,?_,rfl,h1⟩
  have h4:¬j<i:=fun h=>h2 ((jH hlt i).2 ((iE hn hj).2 h))
  have h5:j≠i:=fun e=>h3 (by rw[e])
  omega
 ·rintro⟨j,hj,hij,rfl,h1⟩
  refine⟨h1,fun h=>?_,fun e=>?_⟩
  ·have:=(iE hn hj).1 ((jH hlt i).1 h)
   omega
  ·have h1:=gA hn hj
   rw[e,gA hn hi] at h1
   omega
omit hs in
theorem gU {i:Nat}(hi:i+1<l.length):∃u:Nat,foU nb l i=(u:Int)∧i<u∧u<l.length∧(∀j,j<l.length→(foN nb l i).getLsbD (l.getD j 0)=true→u≤j∧(foN nb l i).getLsbD (l.getD u 0)=true):=by
 have hil:i<l.length:=by omega
 obtain⟨h1,h2,h3⟩:=uH (fun x=>((l.idxOf x:Nat):Int)) (elems (foN nb l i)) ((l.length:Int) - 1)
 have he:foU nb l i=(elems (foN nb l i)).foldl (fun (m:Int) (x:Nat)=>min m (l.idxOf x:Nat)) ((l.length:Int) - 1):=by rw[foU,if_neg (by omega)]
 rw[← he] at h1 h2 h3
 have hx:∀x∈elems (foN nb l i),∃j,j<l.length∧i<j∧x=l.getD j 0∧l.idxOf x=j:=fun x hx=>by
  obtain⟨j,hj,hij,rfl,_⟩:=(eC hn hlt hcl hil).1 (aH.1 hx).2
  exact⟨j,hj,hij,rfl,gA hn hj⟩
 have hj2:∀j,j<l.length→(foN nb l i).getLsbD (l.getD j 0)=true→foU nb l i≤(j:Int):=fun j hj h=>by
  have:=h2 _ (aH.2 ⟨ay h,h⟩)
  rw[gA hn hj] at this
  exact this
 rcases h3 with h3|⟨x,hx1,h3⟩
 ·refine⟨l.length - 1,by rw[h3];omega,by omega,by omega,fun j hj h=>?_⟩
  have h4:=hj2 j hj h
  rw[h3] at h4
  have:j=l.length - 1:=by omega
  exact⟨by omega,by rw[← this];exact h⟩
 ·obtain⟨j,hj,hij,hxe,hid⟩:=hx x hx1
  rw[hid] at h3
  refine⟨j,h3,hij,hj,fun j' hj' h=>⟨?_,?_⟩⟩
  ·have:=hj2 j' hj' h
   omega
  ·rw[← hxe];exact (aH.1 hx1).2
theorem a3w {i u j:Nat}(hi:i+1<l.length)(hu:foU nb l i=(u:Int))(hj:j<l.length)(h:(foN nb l i).getLsbD (l.getD j 0)=true):j=u∨(foN nb l u).getLsbD (l.getD j 0)=true:=by
 have hil:i<l.length:=by omega
 obtain⟨u',h1,h2,h3,h4⟩:=gU hn hlt hcl hi
 obtain rfl:u=u':=by omega
 obtain⟨h5,h6⟩:=h4 j hj h
 by_cases hju:j=u
 ·exact .inl hju
 refine .inr ((eC hn hlt hcl h3).2 ⟨j,hj,by omega,rfl,?_⟩)
 obtain⟨_,_,_,_,v1⟩:=(eC hn hlt hcl hil).1 h
 obtain⟨_,_,_,_,v2⟩:=(eC hn hlt hcl hil).1 h6
 have hm:∀x,(aT 0 (l.take i)).getLsbD x=true→(aT 0 (l.take u)).getLsbD x=true:=fun x hx=>by
  have h7:=(jH hlt i).1 hx
  obtain⟨k,hk,rfl⟩:=jI (List.mem_of_mem_take h7)
  have:=(iE hn hk).1 h7
  exact (jH hlt u).2 ((iE hn hk).2 (by omega))
 exact ((v2.symm hs).mono hm).cat ((jH hlt u).2 ((iE hn hil).2 h2)) (v1.mono hm)
omit hs hn hcl in
theorem gV {i:Nat}(hi:i<l.length){x:Nat}:(bg (bN nb l) i).2.getLsbD x=true↔(foN nb l i).getLsbD x=true∨x=l.getD i 0:=by
 rw[lE hi,foB,aX _ (hlt _ (iF hi))]
theorem a3x {j0:Nat}(h0:j0<l.length):cQ (toT (bN nb l)) ((l.getD j0 0:Nat):Int) j0=true∧∀j,j<l.length→cQ (toT (bN nb l)) ((l.getD j0 0:Nat):Int) j=true→j=j0:=by
 have hL:=gT nb l
 have hup:∀j,j<l.length→up (toT (bN nb l)) j=foU nb l j:=fun j hj=>by rw[gl (by omega),lE hj];rfl
 have hhs:∀j,j<l.length→(eM (Mono.hs (toT (bN nb l)) j) ((l.getD j0 0:Nat):Int)=true↔(foN nb l j).getLsbD (l.getD j0 0)=true∨l.getD j0 0=l.getD j 0):=fun j hj=>by
  rw[jr (by omega),kM,gQ,gV hlt hj]
 have hinj:∀{j},j<l.length→l.getD j0 0=l.getD j 0→j0=j:=fun hj e=>by
  have h1:=gA hn h0
  rw[e,gA hn hj] at h1
  exact h1.symm
 constructor
 ·rw[cQ,(hhs j0 h0).2 (.inr rfl),Bool.true_and,Bool.or_eq_true]
  by_cases hj:j0+1=l.length
  ·refine .inl (decide_eq_true ?_)
   rw[hup j0 h0,foU,if_pos hj];omega
  ·obtain⟨u,u1,u2,u3,_⟩:=gU hn hlt hcl (i:=j0) (by omega)
   refine .inr ?_
   rw[Bool.not_eq_true',hup j0 h0,u1,Int.toNat_natCast]
   refine Bool.eq_false_iff.2 fun hh=>?_
   rcases (hhs u u3).1 hh with hh|hh
   ·obtain⟨j,hj1,hj2,hj3,_⟩:=(eC hn hlt hcl u3).1 hh
    have:=hinj hj1 hj3
    omega
   ·have:=hinj u3 hh
    omega
 ·intro j hj h
  rw[cQ,Bool.and_eq_true,Bool.or_eq_true] at h
  obtain⟨h1,h2⟩:=h
  rcases (hhs j hj).1 h1 with h3|h3
  ·exfalso
   obtain⟨j',hj1,hj2,hj3,_⟩:=(eC hn hlt hcl hj).1 h3
   obtain rfl:=hinj hj1 hj3
   obtain⟨u,u1,u2,u3,_⟩:=gU hn hlt hcl (i:=j) (by omega)
   rw[hup j hj,u1,Int.toNat_natCast] at h2
   rcases h2 with h2|h2
   ·have:=of_decide_eq_true h2
    omega
   ·rw[Bool.not_eq_true'] at h2
    have:eM (Mono.hs (toT (bN nb l)) u) ((l.getD j0 0:Nat):Int)=true:=(hhs u u3).2 (by
     rcases a3w hs hn hlt hcl (i:=j) (by omega) u1 h0 h3 with h4|h4
     ·exact .inr (by rw[h4])
     ·exact .inl h4)
    rw[h2] at this;cases this
  ·exact (hinj hj h3).symm
omit hs hn hlt hcl in
theorem uI {p:Nat→Bool}{n j:Nat}(hj:j<n)(hp:p j=true)(hu:∀i,i<n→p i=true→i=j):(bF p n).length=1:=by
 have h1:(bF p n).length≤1:=js.2 fun a b hab hb ⟨h1,h2⟩=>by
  have:=hu b hb h1
  have:=hu a (by omega) h2
  omega
 have h2:((j:Nat):Int)∈bF p n:=ik.2 ⟨j,hj,hp,rfl⟩
 have h3:=List.length_pos_of_mem h2
 omega
theorem a3y (h0:0<l.length):fy (toT (bN nb l)):=by
 have hL:=gT nb l
 have hTL:(toT (bN nb l)).length=l.length:=by rw[eZ,hL]
 have hup:∀j,j<l.length→up (toT (bN nb l)) j=foU nb l j:=fun j hj=>by rw[gl (by omega),lE hj];rfl
 have hlast:up (toT (bN nb l)) (l.length - 1) = -1:=by rw[hup _ (by omega),foU,if_pos (by omega)]
 refine⟨fun i hi=>?_,?_,fun i hi=>?_,fun i hi id hid=>?_⟩
 ·rw[hTL] at hi ⊢
  by_cases hj:i+1=l.length
  ·rw[hup i hi,foU,if_pos hj];omega
  ·obtain⟨u,u1,u2,u3,_⟩:=gU hn hlt hcl (i:=i) (by omega)
   rw[hup i hi,u1];omega
 ·rw[hTL]
  refine uI (j:=l.length - 1) (by omega) (decide_eq_true (by rw[hlast];omega)) fun i hi h=>?_
  have h:=of_decide_eq_true h
  by_cases hj:i+1=l.length
  ·omega
  ·obtain⟨u,u1,u2,u3,_⟩:=gU hn hlt hcl (i:=i) (by omega)
   rw[hup i hi,u1] at h
   omega
 ·rw[hTL] at hi
  have key:∀f m,m<l.length→l.length≤f+m→(abv (toT (bN nb l)) f (m:Int)).isSome=true:=by
   intro f
   induction f with
   | zero=>intro m h1 h2;omega
   | succ f ih=>
    intro m h1 h2
    rw[abv,if_neg (by omega),Option.isSome_map,Int.toNat_natCast]
    by_cases hj:m+1=l.length
    ·rw[hup m h1,foU,if_pos hj]
     cases f <;> rfl
    ·obtain⟨u,u1,u2,u3,_⟩:=gU hn hlt hcl (i:=m) (by omega)
     rw[hup m h1,u1]
     exact ih u u3 (by omega)
  rw[dT]
  by_cases hj:i+1=l.length
  ·rw[hup i hi,foU,if_pos hj];rfl
  ·obtain⟨u,u1,u2,u3,_⟩:=gU hn hlt hcl (i:=i) (by omega)
   rw[hup i hi,u1]
   exact key _ u u3 (by omega)
 ·rw[hTL] at hi
  have hid':eM (Mono.hs (toT (bN nb l)) i) id=true:=decide_eq_true hid
  rw[jr (by omega),toL,ik] at hid
  obtain⟨x,hx,hxb,rfl⟩:=hid
  obtain⟨j0,hj0,rfl⟩:∃j0,j0<l.length∧x=l.getD j0 0:=by
   rcases (gV hlt hi).1 hxb with h|h
   ·obtain⟨j,hj,_,rfl,_⟩:=(eC hn hlt hcl hi).1 h
    exact⟨j,hj,rfl⟩
   ·exact⟨i,hi,h⟩
  obtain⟨t1,t2⟩:=a3x hs hn hlt hcl hj0
  rw[ie,hTL]
  exact uI hj0 t1 t2
theorem a3z (h0:0<l.length):dC (bN nb l) (bN nb l).length=0:=by
 rw[a1c]
 exact yT.2 ⟨by rw[eZ,gT];exact h0,a3y hs hn hlt hcl h0⟩
end
end Go.Mono
