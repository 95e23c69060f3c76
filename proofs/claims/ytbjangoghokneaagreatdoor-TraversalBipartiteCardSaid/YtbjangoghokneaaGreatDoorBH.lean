/-
  Walks of functions and plain facts.
  No condition.
-/
import Derived.Test.YtbjangoghokneaaGreatDoorBG
import Derived.Test.YtbjangoghokneaaGreatDoorBD
import Derived.Test.YtbjangoghokneaaGreatDoorBC
import Derived.Shelf.SlSortCmp.NoneTotal
import Derived.Test.YtbjangoghokneaaGreatDoorProg
import Derived.Shelf.SlSortCmp.Whole1
import Derived.Test.YtbjangoghokneaaGreatDoorBF
import Derived.Test.YtbjangoghokneaaGreatDoorBE
import Derived.Test.YtbjangoghokneaaGreatDoorBB
set_option linter.unusedVariables false
set_option linter.unusedSimpArgs false
namespace Go.Mono
open Go Go.Proofs Go.RowKit Go.Gr
theorem a3t {G K:Nat→Prop}(g:GT)(ok:Gr.Ok g)(v:Value)(W:World)(h:(Dv gtE G g).p v W)(hl1:g.1.length≤7)(hl2:g.2.length≤100000)(hK:∀b,K b→b<W.heap.size) :
  Calls Tryz.prog 68 #[v] W (Post (Dv (slE (slE intE)) K ((cyA g).map ai)) W):=by
 have hg0:(Dv gtE G0 g).p v W:=Dv.weak h fun b _ hb=>hb.elim
 obtain⟨u1,u2,rfl,h1,h2⟩:=Dv.gt.1 hg0
 replace h1:=Dv.toB h1
 have hvl:=eJ ok
 obtain⟨ids,hids⟩:∃ids,ids=ah (aj g.1):=⟨_,rfl⟩
 obtain⟨F,hF⟩:∃F:Nat→List (List Nat),F=fun x=>cyR (nbA g) ids g.1.length [x]:=⟨_,rfl⟩
 have hcy:cyA g=ids.flatMap F:=by rw[hF,hids];rfl
 rw[← hids] at hvl
 rw[hcy]
 have hFl:∀k,((ids.take k).flatMap F).length≤14680064:=fun k=>by
  have h1:=jt (F:=F) (m:=8 ^ g.1.length) (fun x=>by rw[hF];exact ls (by omega) _ _) (ids.take k)
  have h2:(ids.take k).length * 8 ^ g.1.length≤7 * 8 ^ g.1.length:=Nat.mul_le_mul_right _ (Nat.le_trans (List.length_take_le' _ _) (by omega))
  have h3:=uk hl1
  omega
 refine eN [.agg #[u1,u2]] [E (.agg #[u1,u2])] Tryz.func68 Tryz.ntmps68 ?_ fun a hf=>?_
 rotate_left
 rotate_right
 ·exact arg1 rfl
 have e:=Ext.rfl' W
 refine seq <| ac <| tB hf rfl fun a b1 w v1 hv1 e' hb1 hs1 B1 hf=>?_
 replace e:=e.tr e'
 refine tA hf rfl fun a hf=>aa ?_
 cases hv1
 obtain⟨N1,hN1⟩:∃N1,N1=w.heap.size:=⟨_,rfl⟩
 have hN1s:N1≤w.heap.size:=Nat.le_of_eq hN1
 have hWN:W.heap.size≤N1:=by rw[hN1];exact e.size
 have lb1:b1<N1:=by rw[hN1];exact B1.lt
 have hKN:∀b,K b→b<N1:=fun b hb=>Nat.lt_of_lt_of_le (hK b hb) hWN
 replace hf:=hf.keep [1]
 refine seq <| ac <| tA hf rfl fun a hf=>aa ?_
 repeat refine seq ?_
 refine ac <| tA hf rfl fun a hf=>aa ?_
 have Ho:OwR (slE intE) 35 N1 K w (((ids.take 0).flatMap F).map ai) (.slice none 0 0):=OwR.nil (slE intE) _ hN1s hKN
 replace hf:=hf.keep [1,3,4]
 refine blk (aL (fun r0 a w=>∃(k:Nat) (uo:Value),r0=g.1.length - k∧k≤g.1.length∧Fr 24 a w [(1,E (ptr b1)),(3,E uo),(4,E (I k))]∧Ext W w∧Blk w b1 #[u1,u2] 25∧OwR (slE intE) 35 N1 K w (((ids.take k).flatMap F).map ai) uo) g.1.length ⟨0,.slice none 0 0,rfl,by omega,hf,e,⟨B1,Ho⟩⟩ ?_)
 rintro r0 a w ⟨k,uo,rfl,hk,hf,e,B1,Ho⟩
 repeat refine seq ?_
 refine rgN 5 hf <| st (mv rfl) <| st (fA U25 rfl T22 rfl) <| st (ld1 T22 rfl B1 rfl) <| st (aD U22 (isE rfl (VA.st _ _ _ _ e h1))) <| st (lss rfl rfl) <| en fun a w e' hf=>?_
 obtain⟨e,B1,Ho⟩:=up3 e' e B1 Ho
 refine aa <| ifc hf rfl (fun hc=>ak ?_) (fun hc=>aK ?_)
 rotate_left
 rotate_left
 ·have hlt:k<g.1.length:=by have:=of_decide_eq_true hc;(try dsimp only at this);omega
  replace hf:=hf.keep [1,3,4]
  refine seq <| blk ?_
  have hx0:=List.getElem?_eq_getElem hlt
  generalize g.1[k]=x at hx0
  obtain⟨n,hn,hnV,hen⟩:=jj ok hx0
  rw[← hids] at hen
  obtain⟨x1,x2⟩:=x
  subst hn
  have hsc:(ids.take (k+1)).flatMap F=(ids.take k).flatMap F++F n:=by rw[bA hen,List.flatMap_append];simp
  have hol:=hFl (k+1)
  obtain⟨out,hout⟩:∃out,out=(ids.take k).flatMap F:=⟨_,rfl⟩
  rw[← hout] at hsc Ho
  rw[hsc,List.length_append] at hol
  obtain⟨N2,hN2⟩:∃N2,N2=w.heap.size:=⟨_,rfl⟩
  have hown:∀b,GO K uo b→b<N2:=fun b hb=>by
   rcases hb with hb|hb
   ·have:=hKN b hb;have:=Ho.base;omega
   ·have:=(Ho.lt hb).2;omega
  have hN2s:N2≤w.heap.size:=Nat.le_of_eq hN2
  have e5:=e
  have n1:=Ho.neLt lb1
  refine rgG 10 Mix.mix hf <| st (mv rfl) <| st ((ldW T25 rfl B1 rfl).eq ((rfl:_=Value.agg #[u1,u2]))) <| st (fA U25 rfl T22 rfl) <| st (ld1 T22 rfl B1 rfl) <| st (mv rfl) <| st (aF U22 S45 (isE rfl (VA.st _ _ _ _ e h1)) rfl (by omega) (hx0)) <| st (aB U45 rfl T3 (by decide) (Fld.fst Fld.refl) (isR rfl)) <| st (ldI T3 (isR rfl)) <| st (aY (e:=intE) (G:=G0) U35 I3 rfl (by decide) rfl (fun b hb=>hb.elim) (isI rfl)) <| st (ap (A:=Dv (slE (slE intE)) (GO K uo) ((F n).map ai)) (B:=E (.agg #[u1,u2])) (C:=Dv (slE intE) G0 [(n:Int)]) pI rfl rfl (fun x y w' he k1 k2=>by cases k1;rw[hF,hids];exact a3s g ok hl1 hl2 g.1.length [n] _ y (GO K uo) w' (fun b hb=>by have:=hown b hb;have:=he.size;omega) (VA.st _ _ _ _ (Ext.tr e5 he) hg0) k2 (by simp) (by simp) (fun y hy=>by rw[List.mem_singleton.1 hy];exact aC.2 ⟨az hnV,hnV⟩) hl1 (by simp))) ?_
  refine en fun a w e' hf=>?_
  obtain⟨Ho,e,B1⟩:=up3 e' Ho e B1
  replace hf:=hf.kp [1,3,4,12,21]
  haveI hin:∀G0,InR (GB W G0) _:=OwR.inGB (W:=W) Ho hWN
  refine bE U39 I35 rfl rfl hf (by decide) rfl Ho (isR rfl) (by simp only[List.length_map];omega) (by simp only[List.length_map,maxLen];omega) fun a v w hg hat Hn hf=>?_
  replace e:=e.gro hg (Ho.row (W:=W) hWN)
  have hrow:=Ho.row (W:=W) hWN
  replace Ho:=Hn
  replace B1:=B1.gro hg (by assumption)
  replace Ho:=Hn;clear Hn hg hat hin
  refine tA hf rfl fun a hf=>aa ?_
  rw[← List.map_append,← hsc] at Ho
  refine rgN 2 hf <| st (mv rfl) <| st ((add rfl rfl (by omega)).eq (congrArg (Value.int .i64) (show (k:Int)+1=((k+1:Nat):Int) from rfl))) <| en fun a w e' hf=>?_
  obtain⟨Ho,e,B1⟩:=up3 e' Ho e B1
  refine tA hf rfl fun a hf=>aa ?_
  replace hf:=hf.keep [1,3,4]
  refine⟨_,?_,k+1,_,rfl,by omega,hf,e,?_⟩
  ·omega
  exact⟨B1,Ho⟩
 ·obtain rfl:k=g.1.length:=by have:=of_decide_eq_false hc;(try dsimp only at this);omega
  rw[List.take_of_length_le (Nat.le_of_eq hvl)] at Ho
  replace hf:=hf.keep [3]
  refine seq <| rgN 1 hf <| st (mv rfl) <| en fun a w e' hf=>?_
  obtain⟨Ho,e⟩:=up2 e' Ho e
  refine tA hf rfl fun a hf=>aa <| am <| an rfl hf rfl ?_
  rintro _ rfl
  exact⟨_,rfl,e,Ho.sl⟩
theorem a3u {a b:List Nat}{k x y:Nat}(h:a.take k=b.take k)(hx:a[k]?=some x)(hy:b[k]?=some y)(hne:x≠y):lsF a b=decide (x<y):=by
 obtain⟨h1,h2⟩:=List.getElem?_eq_some_iff.1 hx
 obtain⟨h3,h4⟩:=List.getElem?_eq_some_iff.1 hy
 rw[← List.take_append_drop k a,← List.take_append_drop k b,h,nP,List.drop_eq_getElem_cons h1,List.drop_eq_getElem_cons h3,h2,h4,lsF,if_neg hne]
theorem a3v {a b:List Nat}(h:a.take (min a.length b.length)=b.take (min a.length b.length)):lsF a b=decide (a.length<b.length):=by
 by_cases hl:a.length<b.length
 ·rw[Nat.min_eq_left (by omega),List.take_length] at h
  have h1:=List.take_append_drop a.length b
  rw[← h] at h1
  have h2:lsF (a++[]) (a++b.drop a.length)=lsF [] (b.drop a.length):=nP _ _ _
  rw[List.append_nil,h1] at h2
  rw[h2,decide_eq_true hl,List.drop_eq_getElem_cons hl,lsF]
 ·rw[Nat.min_eq_right (by omega),List.take_length] at h
  have h1:=List.take_append_drop b.length a
  rw[h] at h1
  have h2:lsF (b++a.drop b.length) (b++[])=lsF (a.drop b.length) []:=nP _ _ _
  rw[List.append_nil,h1] at h2
  rw[h2,decide_eq_false hl]
  cases a.drop b.length <;> rfl
theorem ju {a:List Nat}{k x:Nat}(h:a[k]?=some x):(ai a)[k]?=some (x:Int):=by rw[ai,List.getElem?_map,h];rfl
theorem a3w {G G':Nat→Prop}(p q:List Nat)(v u:Value)(W:World)(h:(Dv (slE intE) G (ai p)).p v W)(h':(Dv (slE intE) G' (ai q)).p u W)(hl:p.length≤100000)(hl':q.length≤100000) :
  Calls Tryz.prog 71 #[v,u] W (Post (E (B (lsF p q))) W):=by
 refine eN [v,u] [Dv (slE intE) G0 (ai p),Dv (slE intE) G0 (ai q)] Tryz.func71 Tryz.ntmps71 ?_ fun a hf=>?_
 rotate_left
 rotate_right
 ·exact arg2 (Dv.weak h fun b _ hb=>hb.elim) (Dv.weak h' fun b _ hb=>hb.elim)
 have e:=Ext.rfl' W
 have hpn:=bB p
 have hqn:=bB q
 obtain⟨m,hm⟩:∃m,m=min p.length q.length:=⟨_,rfl⟩
 have hcd:∀k:Nat,(decide ((k:Int)<(((ai p).length:Nat):Int))&&decide ((k:Int)<(((ai q).length:Nat):Int)))=decide (k<m):=fun k=>by
  rw[Bool.eq_iff_iff,Bool.and_eq_true,decide_eq_true_eq,decide_eq_true_eq,decide_eq_true_eq];omega
 refine seq <| ac <| tA hf rfl fun a hf=>aa ?_
 repeat refine seq ?_
 refine ac <| tA hf rfl fun a hf=>aa ?_
 replace hf:=hf.keep [0,1,5]
 refine blk (aL (fun r0 a w=>∃(k:Nat) ,r0=m - k∧k≤m∧Fr 41 a w [(0,Dv (slE intE) G0 (ai p)),(1,Dv (slE intE) G0 (ai q)),(5,E (I k))]∧Ext W w∧p.take k=q.take k) m ⟨0,rfl,by omega,hf,e,rfl⟩ ?_)
 rintro r0 a w ⟨k,rfl,hk,hf,e,ht⟩
 repeat refine seq ?_
 refine rgN 10 hf <| st (mv rfl) <| st (mv rfl) <| st (aD U35 (isR rfl)) <| st (lss rfl rfl) <| st (mv rfl) <| sgE rfl rfl (.k 5 rfl .n) (fun hgd=>mv rfl) <| sgE rfl rfl (.k 1 rfl .n) (fun hgd=>mv rfl) <| sgE rfl rfl (.c 12 rfl (fun h=>h) .n) (fun hgd=>aD U35 (isR rfl)) <| sgE rfl rfl (.c 11 rfl (fun h=>h) (.c 13 rfl (fun h=>h) .n)) (fun hgd=>lss rfl rfl) <| st ((bD rfl rfl (fun h=>by rw[h];rfl)).eq (congrArg Value.bool (hcd k))) ?_
 refine en fun a w e' hf=>?_
 replace e:=e.tr e'
 refine aa <| ifc hf rfl (fun hc=>ak ?_) (fun hc=>aK ?_)
 rotate_left
 rotate_left
 ·have hlt:k<m:=by have:=of_decide_eq_true hc;(try dsimp only at this);omega
  replace hf:=hf.keep [0,1,5]
  refine seq <| blk ?_
  have hx:=List.getElem?_eq_getElem (show k<p.length by omega)
  have hy:=List.getElem?_eq_getElem (show k<q.length by omega)
  generalize p[k]=x at hx
  generalize q[k]=y at hy
  refine seq <| rgG 9 Mix.mix hf <| st (mv rfl) <| st (mv rfl) <| st (aF U35 S3 (isR rfl) rfl (by omega) (ju hx)) <| st (ldI T3 (isR rfl)) <| st (mv rfl) <| st (mv rfl) <| st (aF U35 S3 (isR rfl) rfl (by omega) (ju hy)) <| st (ldI T3 (isR rfl)) <| st (neq rfl rfl) <| en fun a w e' hf=>?_
  replace e:=e.tr e'
  refine aa ?_
  by_cases hxy:x=y
  ·repeat refine seq ?_
   refine ifc hf rfl (fun hb=>?_) (fun hb=>?_)
   ·subst hxy;simp at hb
   ·refine ak <| rgN 2 hf <| st (mv rfl) <| st ((add rfl rfl (by omega)).eq (congrArg (Value.int .i64) (show (k:Int)+1=((k+1:Nat):Int) from rfl))) <| en fun a w e' hf=>?_
    replace e:=e.tr e'
    refine tA hf rfl fun a hf=>aa ?_
    replace hf:=hf.keep [0,1,5]
    refine⟨_,?_,k+1,rfl,by omega,hf,e,?_⟩
    ·omega
    rw[bA hx,bA hy,ht,hxy]
  ·repeat refine seq ?_
   refine ifc hf rfl (fun hb=>?_) (fun hb=>?_)
   ·refine seq <| rgG 9 Mix.mix hf <| st (mv rfl) <| st (mv rfl) <| st (aF U35 S3 (isR rfl) rfl (by omega) (ju hx)) <| st (ldI T3 (isR rfl)) <| st (mv rfl) <| st (mv rfl) <| st (aF U35 S3 (isR rfl) rfl (by omega) (ju hy)) <| st (ldI T3 (isR rfl)) <| st (lss rfl rfl) <| en fun a w e' hf=>?_
    replace e:=e.tr e'
    refine tA hf rfl fun a hf=>aa <| am <| an rfl hf rfl ?_
    rintro _ rfl
    exact⟨_,rfl,e,congrArg B (by rw[a3u ht hx hy hxy];exact decide_eq_decide.2 (by omega))⟩
   ·have h9:(x:Int)=y:=by simpa using hb
    exact absurd (by omega) hxy
 ·obtain rfl:k=m:=by have:=of_decide_eq_false hc;(try dsimp only at this);omega
  refine seq <| rgN 5 hf <| st (mv rfl) <| st (aD U35 (isR rfl)) <| st (mv rfl) <| st (aD U35 (isR rfl)) <| st (lss rfl rfl) <| en fun a w e' hf=>?_
  replace e:=e.tr e'
  refine tA hf rfl fun a hf=>aa ?_
  rw[hm] at ht
  refine am <| an rfl hf rfl ?_
  rintro _ rfl
  exact⟨_,rfl,e,congrArg B (by rw[a3v ht];exact decide_eq_decide.2 (by omega))⟩
def btO (best:Option (List Nat))(c:List Nat):Bool:=match best with
 | none=>true
 | some b=>btr c b
theorem a3x {K:Nat→Prop}(l:List (List Nat))(odd:Bool)(v:Value)(W:World)(h:(Dv (slE (slE intE)) K (l.map ai)).p v W)(hl:l.length≤100000000)(hc:∀c∈l,c≠[]∧c.length≤100000) :
  Calls Tryz.prog 80 #[v,B odd] W (Post (CyA K (shF odd l)) W):=by
 have hml:(l.map ai).length=l.length:=List.length_map ..
 refine eN [v,B odd] [Dv (slE (slE intE)) K (l.map ai),E (B odd)] Tryz.func80 Tryz.ntmps80 ?_ fun a hf=>?_
 rotate_left
 rotate_right
 ·exact arg2 h rfl
 have e:=Ext.rfl' W
 refine seq <| ac <| tA hf rfl fun a hf=>aa <| seq <| ac <| tA hf rfl fun a hf=>aa ?_
 repeat refine seq ?_
 refine ac <| tA hf rfl fun a hf=>aa ?_
 have HR:(CyA K ((l.take 0).foldl (shS odd) none)).p (.slice none 0 0) W:=rfl
 replace hf:=hf.keep [0,1,5,6]
 refine blk (aL (fun r0 a w=>∃(k:Nat) (r:Value),r0=(l.map ai).length - k∧k≤(l.map ai).length∧Fr 48 a w [(0,Dv (slE (slE intE)) K (l.map ai)),(1,E (B odd)),(5,E r),(6,E (I k))]∧Ext W w∧(CyA K ((l.take k).foldl (shS odd) none)).p r w) (l.map ai).length ⟨0,.slice none 0 0,rfl,by omega,hf,e,HR⟩ ?_)
 clear hf e;try clear HR
 rintro r0 a w ⟨k,r,rfl,hk,hf,e,HR⟩
 repeat refine seq ?_
 refine rgN 4 hf <| st (mv rfl) <| st (mv rfl) <| st (aD U39 (isR rfl)) <| st (lss rfl rfl) <| en fun a w e' hf=>?_
 replace HR:=VA.st _ _ _ _ e' HR
 replace e:=e.tr e'
 refine aa <| ifc hf rfl (fun hc=>ak ?_) (fun hc=>aK ?_)
 rotate_left
 rotate_left
 ·have hlt:k<(l.map ai).length:=by have:=of_decide_eq_true hc;(try dsimp only at this);omega
  clear hc
  replace hf:=hf.keep [0,1,5,6]
  refine seq <| blk ?_
  have hx:=List.getElem?_eq_getElem (show k<l.length by omega)
  generalize l[k]=c at hx
  obtain⟨hc0,hcl⟩:=hc c (List.mem_of_getElem? hx)
  have hxm:(l.map ai)[k]?=some (ai c):=by rw[List.getElem?_map,hx];rfl
  have hsc:(l.take (k+1)).foldl (shS odd) none=shS odd ((l.take k).foldl (shS odd) none) c:=by rw[bA hx,List.foldl_append];rfl
  have hbl:∀b,(l.take k).foldl (shS odd) none=some b→b.length≤100000:=fun b hb=>(hc b (List.take_subset _ _ (((jr odd (l.take k) none).2 b hb).1.resolve_left (by simp)).1)).2
  generalize (l.take k).foldl (shS odd) none=best at hsc hbl HR
  obtain⟨best',hbest⟩:∃best',best'=(l.take (k+1)).foldl (shS odd) none:=⟨_,rfl⟩
  rw[← hbest] at hsc
  have hcn:=bB c
  refine seq <| rgN 4 hf <| st (mv rfl) <| st (mv rfl) <| st (aF U39 S35 (isR rfl) rfl (by omega) (hxm)) <| st (ldD T35 (isR rfl)) <| en fun a w e' hf=>?_
  obtain⟨HR,e⟩:=up2 e' HR e
  refine tA hf rfl fun a hf=>aa ?_
  obtain⟨cv,HQ,hf⟩:=hf.opn 7 rfl
  replace HQ:(Dv (slE intE) K (ai c)).p cv w:=HQ
  replace hf:=hf.keep [0,1,5,6,7]
  obtain⟨od,hod⟩:∃od,od=ods odd c:=⟨_,rfl⟩
  repeat refine seq ?_
  refine cut (J:=fun a w=>Fr 48 a w [(0,Dv (slE (slE intE)) K (l.map ai)),(1,E (B odd)),(5,E r),(6,E (I k)),(7,E cv),(24,E (B od))]∧Ext W w∧(CyA K best).p r w∧(Dv (slE intE) K (ai c)).p cv w) ?_ (fun a w hJ=>?_)
  ·cases odd with
   | false=>
    obtain rfl:od=false:=hod
    refine rgN 7 hf <| st (mv rfl) <| st (mv rfl) <| sn rfl rfl rfl <| sn rfl rfl rfl <| sn rfl rfl rfl <| sn rfl rfl rfl <| st (pkF rfl rfl) <| en fun a w e' hf=>?_
    obtain⟨HR,HQ,e⟩:=up3 e' HR HQ e
    refine aa ?_
    replace hf:=hf.keep [0,1,5,6,7,24]
    exact⟨rfl,hf,e,HR,HQ⟩
   | true=>
    refine rgN 7 hf <| st (mv rfl) <| st (mv rfl) <| sy rfl rfl (mv rfl) <| sy rfl rfl (aD U35 (isE rfl HQ)) <| sy rfl rfl (rem rfl rfl (by omega)) <| sy rfl rfl ((eql rfl rfl).eq (congrArg Value.bool ((show (((((ai c).length:Nat):Int) % 2)==0)=od by rw[hod,ods,Bool.true_and,Bool.eq_iff_iff,beq_iff_eq,decide_eq_true_eq];omega)))) ?_
    refine st (pkT rfl rfl) <| en fun a w e' hf=>?_
    obtain⟨HR,HQ,e⟩:=up3 e' HR HQ e
    refine aa ?_
    replace hf:=hf.keep [0,1,5,6,7,24]
    exact⟨rfl,hf,e,HR,HQ⟩
  obtain⟨hf,e,HR,HQ⟩:=hJ
  rw[shS,← hod] at hsc
  cases od with
  | true=>
   rw[if_pos rfl] at hsc
   refine ifc hf rfl (fun _=>?_) (fun h=>by cases h)
   refine aK <| rgN 2 hf <| st (mv rfl) <| st ((add rfl rfl (by omega)).eq (congrArg (Value.int .i64) (show (k:Int)+1=((k+1:Nat):Int) from rfl))) <| en fun a w e' hf=>?_
   obtain⟨HR,HQ,e⟩:=up3 e' HR HQ e
   refine tA hf rfl fun a hf=>aa ?_
   replace hf:=hf.keep [0,1,5,6]
   refine⟨_,?_,k+1,_,rfl,by omega,hf,e,?_⟩
   ·omega
   rw[← hbest,hsc];exact HR
  | false=>
   rw[if_neg (by decide)] at hsc
   refine ifc hf rfl (fun h=>by cases h) (fun _=>?_)
   refine ak ?_
   obtain⟨bt,hbt⟩:∃bt:Bool,bt=btO best c:=⟨_,rfl⟩
   have hsb:best'=if bt=true then some c else best:=by
    rw[hsc,hbt]
    cases best with
    | none=>rfl
    | some b=>rfl
   replace hf:=hf.keep [0,1,5,6,7]
   refine seq <| cut (J:=fun a w=>Fr 48 a w [(0,Dv (slE (slE intE)) K (l.map ai)),(1,E (B odd)),(5,E r),(6,E (I k)),(7,E cv),(45,E (B bt))]∧Ext W w∧(CyA K best).p r w∧(Dv (slE intE) K (ai c)).p cv w) ?_ (fun a w hJ=>?_)
   ·cases best with
    | none=>
     obtain rfl:bt=true:=hbt
     obtain rfl:r=.slice none 0 0:=HR
     have HR:True:=trivial
     refine rgN 21 hf <| st (mv rfl) <| st (eT U35 rfl) <| st (mv rfl) <| sn rfl rfl rfl <| sn rfl rfl rfl <| sn rfl rfl rfl <| sn rfl rfl rfl <| sn rfl rfl rfl <| st (pkT rfl rfl) <| st (mv rfl) <| sn rfl rfl rfl <| sn rfl rfl rfl <| sn rfl rfl rfl <| sn rfl rfl rfl <| sn rfl rfl rfl <| sn rfl rfl rfl <| su rfl rfl <| su rfl rfl <| su rfl rfl <| sn rfl rfl rfl <| st (pkT rfl rfl) <| en fun a w e' hf=>?_
     replace HR:=trivial
     obtain⟨HQ,e⟩:=up2 e' HQ e
     refine aa ?_
     have HR:(CyA K none).p (.slice none 0 0) w:=rfl
     replace hf:=hf.keep [0,1,5,6,7,45]
     exact⟨rfl,hf,e,HR,HQ⟩
    | some b=>
     have hbn:=bB b
     have hb5:=hbl b rfl
     have hnb:ai b≠[]:=fun h=>HR.1 (by rw[ai] at h;exact List.map_eq_nil_iff.1 h)
     obtain⟨ad,n',c',rfl⟩:=fm HR.2 hnb
     replace hbt:bt=btr c b:=hbt
     by_cases hlt1:c.length<b.length
     ·have:bt=true:=by rw[hbt];exact jn.2 (.inl hlt1)
      subst this
      refine rgN 21 hf <| st (mv rfl) <| st (eT U35 rfl) <| st (mv rfl) <| sy rfl rfl (mv rfl) <| sy rfl rfl (aD U35 (isE rfl HQ)) <| sy rfl rfl (mv rfl) <| sy rfl rfl (aD U35 (isE rfl HR.2)) <| sy rfl rfl ((lss rfl rfl).eq (congrArg Value.bool ((show decide ((((ai c).length:Nat):Int)<(((ai b).length:Nat):Int))=true from decide_eq_true (by omega))))) <| st (pkF rfl rfl) <| st (mv rfl) <| sn rfl rfl rfl <| sn rfl rfl rfl <| sn rfl rfl rfl <| sn rfl rfl rfl <| sn rfl rfl rfl <| sn rfl rfl rfl <| su rfl rfl <| su rfl rfl <| su rfl rfl <| sn rfl rfl rfl <| st (pkT rfl rfl) <| en fun a w e' hf=>?_
      obtain⟨HR,HQ,e⟩:=up3 e' HR HQ e
      refine aa ?_
      replace hf:=hf.keep [0,1,5,6,7,45]
      exact⟨rfl,hf,e,HR,HQ⟩
     ·by_cases heq:c.length=b.length
      ·have hbl':bt=lsF c b:=by rw[hbt,btr,decide_eq_false hlt1,decide_eq_true heq,Bool.false_or,Bool.true_and]
       have HR7:=HR
       have HQ7:=HQ
       refine rgN 21 hf <| st (mv rfl) <| st (eT U35 rfl) <| st (mv rfl) <| sy rfl rfl (mv rfl) <| sy rfl rfl (aD U35 (isE rfl HQ)) <| sy rfl rfl (mv rfl) <| sy rfl rfl (aD U35 (isE rfl HR.2)) <| sy rfl rfl ((lss rfl rfl).eq (congrArg Value.bool ((show decide ((((ai c).length:Nat):Int)<(((ai b).length:Nat):Int))=false from decide_eq_false (by omega))))) <| st (pkF rfl rfl) <| st (mv rfl) <| sy rfl rfl (mv rfl) <| sy rfl rfl (aD U35 (isE rfl HQ)) <| sy rfl rfl (mv rfl) <| sy rfl rfl (aD U35 (isE rfl HR.2)) <| sy rfl rfl ((eql rfl rfl).eq (congrArg Value.bool ((show ((((ai c).length:Nat):Int)==(((ai b).length:Nat):Int))=true from beq_iff_eq.2 (by omega))))) <| sy rfl rfl (mv rfl) <| sy rfl rfl (mv rfl) <| sy rfl rfl (mv rfl) <| sy rfl rfl (ap (A:=E (B bt)) (B:=E cv) (C:=E (.slice (some ad) n' c')) wy rfl rfl (fun x y w' he k1 k2=>by cases k1;cases k2;rw[hbl'];exact a3w c b _ _ w' (VA.st _ _ _ _ he HQ7) (VA.st _ _ _ _ he HR7.2) hcl hb5)) ?_
       refine sy rfl rfl (pkT rfl rfl) <| st (pkF rfl rfl) <| en fun a w e' hf=>?_
       obtain⟨HR,HQ,e⟩:=up3 e' HR HQ e
       refine aa ?_
       replace hf:=hf.keep [0,1,5,6,7,45]
       exact⟨rfl,hf,e,HR,HQ⟩
      ·have:bt=false:=by rw[hbt,btr,decide_eq_false hlt1,decide_eq_false heq];rfl
       subst this
       refine rgN 21 hf <| st (mv rfl) <| st (eT U35 rfl) <| st (mv rfl) <| sy rfl rfl (mv rfl) <| sy rfl rfl (aD U35 (isE rfl HQ)) <| sy rfl rfl (mv rfl) <| sy rfl rfl (aD U35 (isE rfl HR.2)) <| sy rfl rfl ((lss rfl rfl).eq (congrArg Value.bool ((show decide ((((ai c).length:Nat):Int)<(((ai b).length:Nat):Int))=false from decide_eq_false (by omega))))) <| st (pkF rfl rfl) <| st (mv rfl) <| sy rfl rfl (mv rfl) <| sy rfl rfl (aD U35 (isE rfl HQ)) <| sy rfl rfl (mv rfl) <| sy rfl rfl (aD U35 (isE rfl HR.2)) <| sy rfl rfl ((eql rfl rfl).eq (congrArg Value.bool ((show ((((ai c).length:Nat):Int)==(((ai b).length:Nat):Int))=false from beq_eq_false_iff_ne.2 (by omega))))) <| sy rfl rfl (mv rfl) <| sn rfl rfl rfl <| sn rfl rfl rfl <| sn rfl rfl rfl <| sy rfl rfl (pkF rfl rfl) <| st (pkF rfl rfl) <| en fun a w e' hf=>?_
       obtain⟨HR,HQ,e⟩:=up3 e' HR HQ e
       refine aa ?_
       replace hf:=hf.keep [0,1,5,6,7,45]
       exact⟨rfl,hf,e,HR,HQ⟩
   obtain⟨hf,e,HR,HQ⟩:=hJ
   cases bt with
   | true=>
    rw[if_pos rfl] at hsb
    refine ifc hf rfl (fun _=>?_) (fun h=>by cases h)
    refine rgN 1 hf <| st (mv rfl) <| en fun a w e' hf=>?_
    obtain⟨HR,HQ,e⟩:=up3 e' HR HQ e
    refine tA hf rfl fun a hf=>aa <| rgN 2 hf <| st (mv rfl) <| st ((add rfl rfl (by omega)).eq (congrArg (Value.int .i64) (show (k:Int)+1=((k+1:Nat):Int) from rfl))) <| en fun a w e' hf=>?_
    obtain⟨HR,HQ,e⟩:=up3 e' HR HQ e
    refine tA hf rfl fun a hf=>aa ?_
    replace hf:=hf.keep [0,1,5,6]
    refine⟨_,?_,k+1,_,rfl,by omega,hf,e,?_⟩
    ·omega
    rw[← hbest,hsb];exact⟨hc0,HQ⟩
   | false=>
    rw[if_neg (by decide)] at hsb
    refine ifc hf rfl (fun h=>by cases h) (fun _=>?_)
    refine ak <| rgN 2 hf <| st (mv rfl) <| st ((add rfl rfl (by omega)).eq (congrArg (Value.int .i64) (show (k:Int)+1=((k+1:Nat):Int) from rfl))) <| en fun a w e' hf=>?_
    obtain⟨HR,HQ,e⟩:=up3 e' HR HQ e
    refine tA hf rfl fun a hf=>aa ?_
    replace hf:=hf.keep [0,1,5,6]
    refine⟨_,?_,k+1,_,rfl,by omega,hf,e,?_⟩
    ·omega
    rw[← hbest,hsb];exact HR
 ·obtain rfl:k=(l.map ai).length:=by have:=of_decide_eq_false hc;(try dsimp only at this);omega
  rw[hml,List.take_length] at HR
  replace hf:=hf.keep [5]
  refine seq <| rgN 1 hf <| st (mv rfl) <| en fun a w e' hf=>?_
  obtain⟨HR,e⟩:=up2 e' HR e
  refine tA hf rfl fun a hf=>aa <| am <| an rfl hf rfl ?_
  rintro _ rfl
  exact⟨_,rfl,e,HR⟩
theorem ul {g:GT}(ok:Gr.Ok g)(hl1:g.1.length≤7):(cyA g).length≤100000000∧∀c∈cyA g,c≠[]∧c.length≤100000:=by
 constructor
 ·have h1:=jt (F:=fun x=>cyR (nbA g) (ah (aj g.1)) g.1.length [x]) (m:=8 ^ g.1.length) (fun x=>ls (by rw[eJ ok];exact hl1) _ _) (ah (aj g.1))
  rw[eJ ok] at h1
  have h2:g.1.length * 8 ^ g.1.length≤7 * 8 ^ g.1.length:=Nat.mul_le_mul_right _ hl1
  have h3:=uk hl1
  show (List.flatMap _ _).length≤_
  omega
 ·intro c hc
  have hM:=(lq ok).1 hc
  have h3:=hM.cyc.three
  have h1:=eI (ai c) (ai (ah (aj g.1))) (List.pairwise_map.2 ((uh hM.cyc).imp fun h h'=>h (by omega))) (fun x hx=>by
   obtain⟨y,hy,rfl⟩:=List.mem_map.1 hx
   exact dS.2 (gV ok hM.cyc y hy))
  rw[bB,bB,eJ ok] at h1
  exact⟨fun h=>by rw[h] at h3;simp at h3,by omega⟩
theorem um {G:Nat→Prop}(g:GT)(ok:Gr.Ok g)(v:Value)(W:World)(h:(Dv gtE G g).p v W)(hl1:g.1.length≤7)(hl2:g.2.length≤100000) :
  Calls Tryz.prog 26 #[v] W (Post (CyA G0 (shF true (cyA g))) W):=by
 have hg0:(Dv gtE G0 g).p v W:=Dv.weak h fun b _ hb=>hb.elim
 obtain⟨u1,u2,rfl,_,_⟩:=Dv.gt.1 hg0
 obtain⟨hal,hac⟩:=ul ok hl1
 obtain⟨o,ho⟩:∃o,o=shF true (cyA g):=⟨_,rfl⟩
 rw[← ho]
 refine eN [.agg #[u1,u2]] [E (.agg #[u1,u2])] Tryz.func26 Tryz.ntmps26 ?_ fun a hf=>?_
 rotate_left
 rotate_right
 ·exact arg1 rfl
 have e:=Ext.rfl' W
 refine seq <| ac <| tB hf rfl fun a b1 w v1 hv1 e' hb1 hs1 B1 hf=>?_
 replace e:=e.tr e'
 refine tA hf rfl fun a hf=>aa ?_
 cases hv1
 have e1:=e
 refine seq <| rgN 3 hf <| st ((ldW T25 rfl B1 rfl).eq ((rfl:_=Value.agg #[u1,u2]))) <| st (aA (A:=Dv (slE (slE intE)) G0 ((cyA g).map ai)) (B:=E (.agg #[u1,u2])) wx rfl (fun v w he k=>by cases k;exact a3t g ok _ w (VA.st _ _ _ _ (Ext.tr e1 he) hg0) hl1 hl2 (fun b hb=>hb.elim))) ?_
 refine st (ap (A:=CyA G0 o) (B:=Dv (slE (slE intE)) G0 ((cyA g).map ai)) (C:=E (B true)) wz rfl rfl (fun v u w he k k'=>by cases k';rw[ho];exact a3x (cyA g) true v w k hal hac)) ?_
 refine en fun a w e' hf=>?_
 obtain⟨e,B1⟩:=up2 e' e B1
 refine tA hf rfl fun a hf=>aa <| am <| an rfl hf rfl ?_
 intro v hv
 exact⟨_,rfl,e,hv⟩
end Go.Mono
namespace Go.MonoD
open Go Go.Proofs Go.RowKit Go.Mono
def SlC (xs:List Int)(v:Value)(w:World):Prop:=(v=.slice none 0 0∧xs=[])∨∃ad cap,v=.slice (some ad) xs.length cap∧ad.block<w.heap.size∧∀i z,xs[i]?=some z→w.cell? (ad.add i)=some (I z)
theorem SlC.ext {xs:List Int}{v:Value}{w w':World}(h:SlC xs v w)(e:Ext w w'):SlC xs v w':=by
 rcases h with h|⟨ad,cap,h1,h2,h3⟩
 ·exact .inl h
 ·refine .inr ⟨ad,cap,h1,Nat.lt_of_lt_of_le h2 e.size,fun i z hz=>?_⟩
  rw[World.cell?_of_block (w:=w) (by rw[Mono.add_block];exact e.block _ h2)]
  exact h3 i z hz
theorem un:∀xs:List Int,xs.flatMap Mono.intF=xs.map I
 | []=>rfl
 | x::xs=>by rw[List.flatMap_cons,un xs];rfl
theorem slC_of {G:Nat→Prop}{xs:List Int}{v:Value}{w:World}(h:(Mono.Dv (Mono.slE Mono.intE) G xs).p v w):SlC xs v w:=by
 rcases Mono.Dv.sl.1 h with ⟨h1,h2⟩|⟨ad,cap,cs,h1,_,_,h3,h4,h5⟩
 ·exact .inl ⟨h1,h2⟩
 ·refine .inr ⟨ad,cap,h1,h3,fun i z hz=>h5 i _ ?_⟩
  rw[Mono.intFF.cells] at h4
  rw[h4,un,List.getElem?_map,hz];rfl
def PtC (z:Int):VA:=⟨fun u w=>∃ad,u=.pointer (some ad)∧ad.block<w.heap.size∧w.cell? ad=some (I z),fun u w w' e ⟨ad,h1,h2,h3⟩=>⟨ad,h1,Nat.lt_of_lt_of_le h2 e.size,by rw[World.cell?_of_block (w:=w) (e.block _ h2)];exact h3⟩⟩
section
variable {P:Program}{w0:World}{L:Env}{dst:Option Tmp}{ty:TypeId}{pos:String}{aft:Array Edge}{g:Option (Nat×Bool)}{t te:TypeId}{x y:Operand}{xs:List Int}{v:Value}
theorem fZ (ht:P.underlying t=some (.slice te))(hx:opd L x=some (E v))(h:SlC xs v w0):OpC P w0 L ⟨dst,.call ⟨.builtin .len,#[x],#[t]⟩,ty,pos,aft,g⟩ (E (I (xs.length:Nat))):=
 aR fun ρ w he hv=>by
  have h1:=opE hv (x:=x) (by simp[Op.operands,Call.operands]) hx
  refine⟨_,?_,rfl⟩
  rcases h with ⟨rfl,rfl⟩|⟨ad,cap,rfl,_⟩
  ·simp[execOp,resolve,invoke,builtin,Builtin.len_,h1,run_underlying ht,goInt]
  ·simp[execOp,resolve,invoke,builtin,Builtin.len_,h1,run_underlying ht,goInt]
theorem uq {j:Nat}{z:Int}(ht:P.underlying t=some (.slice te))(hs:(P.info? te).map (·.size)=some 1)(hx:opd L x=some (E v))(h:SlC xs v w0)(hy:opd L y=some (E (I (j:Nat))))(hz:xs[j]?=some z) :
  OpC P w0 L ⟨dst,.indexAddr t x y,ty,pos,aft,g⟩ (PtC z):=
 aR fun ρ w he hv=>by
  have h1:=opE hv (x:=x) (by simp[Op.operands]) hx
  have h2:=opE hv (x:=y) (by simp[Op.operands]) hy
  have hlt:=(List.getElem?_eq_some_iff.1 hz).1
  rcases h.ext he with ⟨rfl,rfl⟩|⟨ad,cap,rfl,h3,h4⟩
  ·simp at hlt
  ·have hi:(0:Int)≤(j:Int)∧(j:Int)<(xs.length:Int):=by omega
   have hsz:∀w,(sizeOf te).run P w=.ok 1 w:=fun w=>by
    cases hi:P.info? te with
    | none=>simp[hi] at hs
    | some i=>simp[hi] at hs;simp[sizeOf,typeInfo,hi,hs]
   refine⟨.pointer (some (ad.add j)),?_,_,rfl,by rw[Mono.add_block];exact h3,h4 j z hz⟩
   simp[execOp,h1,h2,Instr.indexAt,asIntOf,run_underlying ht,hlt,hsz]
theorem ldC {z:Int}(ht:TI P t false 1)(hx:opd L x=some (PtC z)):OpC P w0 L ⟨dst,.load t x,ty,pos,aft,g⟩ (E (I z)):=
 aR fun ρ w he hv=>by
  obtain⟨ad,h1,h2,h3⟩:=hv x (by simp[Op.operands]) _ hx
  refine⟨_,?_,rfl⟩
  have:=fx ht (w:=w) (a:=ad) (v:=I z) h3
  simp[execOp,h1,Instr.loadAt,Instr.sureAddr,this]
end
def br:List Int→List Int→Int
 | [],[]=>0
 | [],_::_ => -1
 | _::_,[]=>1
 | x::xs,y::ys=>if cmpI x y≠0 then cmpI x y else br xs ys
theorem cmpZ_spec (xs ys:List Int)(v u:Value)(W:World)(h:SlC xs v W)(h':SlC ys u W)(hl:xs.length≤100000):Calls Tryz.prog 67 #[v,u] W (Post (E (I (br xs ys))) W):=by
 refine enter (args:=[v,u]) (As:=[E v,E u]) Tryz.func67 rfl Tryz.ntmps67 (Nat.le_of_ble_eq_true rfl) ?_ (fun a hf=>?_) (Nat.le_of_ble_eq_true rfl)
 rotate_left
 rotate_right
 ·exact arg2 rfl rfl
 have e:=Ext.rfl' W
 refine seq <| ac <| bu hf rfl (by decide) fun a hf=>aa ?_
 repeat refine seq ?_
 refine aZ 3 hf (by decide +kernel) <| st (mv rfl) <| st (fZ Tryz.underlying35 rfl h) <| st (mv rfl) <| en fun a w e' hf=>?_
 replace h:=h.ext e'
 replace h':=h'.ext e'
 replace e:=e.tr e'
 refine aa ?_
 have hI:br (xs.drop 0) (ys.drop 0)=br xs ys∧0≤ys.length:=⟨rfl,Nat.zero_le _⟩
 replace hf:=hf.keep [0,1,9,10,11]
 refine blk (aL (fun r0 a w=>∃(k:Nat) ,r0=xs.length - k∧k≤xs.length∧Fr 36 a w [(0,E v),(1,E u),(9,E v),(10,E (I (xs.length:Nat))),(11,E (I k))]∧Ext W w∧SlC xs v w∧SlC ys u w∧(br (xs.drop k) (ys.drop k)=br xs ys∧k≤ys.length)) xs.length ⟨0,rfl,by omega,hf,e,⟨h,h',hI⟩⟩ ?_)
 rintro r0 a w ⟨k,rfl,hk,hf,e,h,h',hI⟩
 refine seq <| aZ 1 hf (by decide +kernel) <| st (lss rfl rfl) <| en fun a w e' hf=>?_
 replace h:=h.ext e'
 replace h':=h'.ext e'
 replace e:=e.tr e'
 refine aa <| seq <| ifc hf rfl (fun hc=>ak ?_) (fun hc=>aK ?_)
 rotate_left
 rotate_left
 ·have hlt:k<xs.length:=by have:=of_decide_eq_true hc;(try dsimp only at this);omega
  replace hf:=hf.keep [0,1,9,10,11]
  refine seq <| blk ?_
  have hx:=List.getElem?_eq_getElem hlt
  generalize xs[k]=x at hx
  have hxd:xs.drop k=x::xs.drop (k+1):=by
   obtain⟨hk',he'⟩:=List.getElem?_eq_some_iff.1 hx
   rw[← he',List.getElem_cons_drop]
  obtain⟨hI1,hI2⟩:=hI
  rw[hxd] at hI1
  refine seq <| aZ 3 hf (by decide +kernel) <| st (mv rfl) <| st (uq Tryz.underlying35 Mono.S3 rfl h rfl hx) <| st (ldC T3 rfl) <| en fun a w e' hf=>?_
  replace h:=h.ext e'
  replace h':=h'.ext e'
  replace e:=e.tr e'
  refine bu hf rfl (by decide) fun a hf=>bu hf rfl (by decide) fun a hf=>aa ?_
  by_cases hky:k<ys.length
  ·have hy:=List.getElem?_eq_getElem hky
   generalize ys[k]=y at hy
   have hyd:ys.drop k=y::ys.drop (k+1):=by
    obtain⟨hk',he'⟩:=List.getElem?_eq_some_iff.1 hy
    rw[← he',List.getElem_cons_drop]
   rw[hyd,br] at hI1
   repeat refine seq ?_
   refine aZ 4 hf (by decide +kernel) <| st (mv rfl) <| st (mv rfl) <| st (fZ Tryz.underlying35 rfl h') <| st ((geq rfl rfl).eq (congrArg Value.bool (decide_eq_false (show ¬((ys.length:Nat):Int)≤(k:Int) by omega)))) <| en fun a w e' hf=>?_
   replace h:=h.ext e'
   replace h':=h'.ext e'
   replace e:=e.tr e'
   refine aa <| ifc hf rfl (fun h=>by cases h) (fun _=>?_)
   refine ak <| seq <| aZ 4 hf (by decide +kernel) <| st (mv rfl) <| st (mv rfl) <| st (uq Tryz.underlying35 Mono.S3 rfl h' rfl hy) <| st (ldC T3 rfl) <| en fun a w e' hf=>?_
   replace h:=h.ext e'
   replace h':=h'.ext e'
   replace e:=e.tr e'
   refine bu hf rfl (by decide) fun a hf=>aa <| seq <| aZ 3 hf (by decide +kernel) <| st (mv rfl) <| st (mv rfl) <| st (ap Mono.En92 rfl rfl (fun v u w he h h'=>kx x y v u w h h')) <| en fun a w e' hf=>?_
   replace h:=h.ext e'
   replace h':=h'.ext e'
   replace e:=e.tr e'
   refine bu hf rfl (by decide) fun a hf=>aa <| seq <| aZ 2 hf (by decide +kernel) <| st (mv rfl) <| st (neq rfl rfl) <| en fun a w e' hf=>?_
   replace h:=h.ext e'
   replace h':=h'.ext e'
   replace e:=e.tr e'
   refine aa <| ifc hf rfl (fun hb=>?_) (fun hb=>?_)
   ·have hb':cmpI x y≠0:=by simpa using hb
    rw[if_pos hb'] at hI1
    refine seq <| aZ 1 hf (by decide +kernel) <| st (mv rfl) <| en fun a w e' hf=>?_
    replace h:=h.ext e'
    replace h':=h'.ext e'
    replace e:=e.tr e'
    refine bu hf rfl (by decide) fun a hf=>aa <| am <| an rfl hf rfl ?_
    rintro _ rfl
    exact⟨_,rfl,e,congrArg I hI1⟩
   ·have hb':¬cmpI x y≠0:=by simpa using hb
    rw[if_neg hb'] at hI1
    refine ak <| aZ 1 hf (by decide +kernel) <| st ((add rfl rfl (by omega)).eq (congrArg (Value.int .i64) (show (k:Int)+1=((k+1:Nat):Int) from rfl))) <| en fun a w e' hf=>?_
    replace h:=h.ext e'
    replace h':=h'.ext e'
    replace e:=e.tr e'
    refine lG hf (by decide) (mv rfl) fun a w e' hf=>?_
    replace h:=h.ext e'
    replace h':=h'.ext e'
    replace e:=e.tr e'
    refine aa ?_
    replace hf:=hf.keep [0,1,9,10,11]
    refine⟨_,?_,k+1,rfl,by omega,hf,e,?_⟩
    ·omega
    exact⟨h,h',hI1,by omega⟩
  ·have hke:ys.drop k=[]:=List.drop_of_length_le (by omega)
   rw[hke,br] at hI1
   repeat refine seq ?_
   refine aZ 4 hf (by decide +kernel) <| st (mv rfl) <| st (mv rfl) <| st (fZ Tryz.underlying35 rfl h') <| st ((geq rfl rfl).eq (congrArg Value.bool (decide_eq_true (show ((ys.length:Nat):Int)≤(k:Int) by omega)))) <| en fun a w e' hf=>?_
   replace h:=h.ext e'
   replace h':=h'.ext e'
   replace e:=e.tr e'
   refine aa <| ifc hf rfl (fun _=>?_) (fun h=>by cases h)
   refine seq <| ac <| bu hf rfl (by decide) fun a hf=>aa <| am <| an rfl hf rfl ?_
   rintro _ rfl
   exact⟨_,rfl,e,congrArg I hI1⟩
 ·obtain rfl:k=xs.length:=by have:=of_decide_eq_false hc;(try dsimp only at this);omega
  obtain⟨hI1,hI2⟩:=hI
  rw[List.drop_length] at hI1
  by_cases hly:xs.length<ys.length
  ·have:ys.drop xs.length≠[]:=fun hn=>by have:=congrArg List.length hn;rw[List.length_drop,List.length_nil] at this;omega
   have h2:br [] (ys.drop xs.length) = -1:=by
    cases hd:ys.drop xs.length with
    | nil=>exact absurd hd this
    | cons _ _=>rfl
   rw[h2] at hI1
   repeat refine seq ?_
   refine aZ 5 hf (by decide +kernel) <| st (mv rfl) <| st (fZ Tryz.underlying35 rfl h) <| st (mv rfl) <| st (fZ Tryz.underlying35 rfl h') <| st ((lss rfl rfl).eq (congrArg Value.bool (decide_eq_true (show ((xs.length:Nat):Int)<((ys.length:Nat):Int) by omega)))) <| en fun a w e' hf=>?_
   replace h:=h.ext e'
   replace h':=h'.ext e'
   replace e:=e.tr e'
   refine aa <| ifc hf rfl (fun _=>?_) (fun h=>by cases h)
   refine seq <| ac <| bu hf rfl (by decide) fun a hf=>aa <| am <| an rfl hf rfl ?_
   rintro _ rfl
   exact⟨_,rfl,e,congrArg I hI1⟩
  ·have hd:ys.drop xs.length=[]:=List.drop_of_length_le (by omega)
   rw[hd,br] at hI1
   repeat refine seq ?_
   refine aZ 5 hf (by decide +kernel) <| st (mv rfl) <| st (fZ Tryz.underlying35 rfl h) <| st (mv rfl) <| st (fZ Tryz.underlying35 rfl h') <| st ((lss rfl rfl).eq (congrArg Value.bool (decide_eq_false (show ¬((xs.length:Nat):Int)<((ys.length:Nat):Int) by omega)))) <| en fun a w e' hf=>?_
   replace h:=h.ext e'
   replace h':=h'.ext e'
   replace e:=e.tr e'
   refine aa <| ifc hf rfl (fun h=>by cases h) (fun _=>?_)
   refine ak <| seq <| ac <| bu hf rfl (by decide) fun a hf=>aa <| am <| an rfl hf rfl ?_
   rintro _ rfl
   exact⟨_,rfl,e,congrArg I hI1⟩
end Go.MonoD
namespace Go.Proofs
open Go.Shelf
def Tryz.sortI_ren:Go.Shelf.Ren:=⟨fun|6=>66|15=>113|14=>112|28=>145|29=>146|20=>137|21=>138|22=>139|23=>140|24=>141|25=>142|26=>143|27=>144|46=>180|47=>181|48=>182|49=>183|50=>184|57=>199|n=>n,fun|22=>39|24=>35|25=>102|3=>3|39=>153|0=>0|53=>182|55=>74|4=>4|46=>176|45=>175|50=>106|5=>5|9=>9|66=>196|70=>200|76=>211|77=>212|n=>n,fun|n=>n⟩
theorem Tryz.sortI:Go.Proofs.SlLaysF.n6 Tryz.prog Tryz.sortI_ren:={
 mixed:=by kernel_rfl
 f6:=⟨Tryz.f66.name,by decide,Tryz.func66.trans (congrArg some (by kernel_rfl))⟩
 f14:=⟨Tryz.f112.name,by decide,Tryz.func112.trans (congrArg some (by kernel_rfl))⟩
 f15:=Tryz.func113.trans (congrArg some (by kernel_rfl))
 f20:=⟨Tryz.f137.name,by decide,Tryz.func137.trans (congrArg some (by kernel_rfl))⟩
 f21:=⟨Tryz.f138.name,by decide,Tryz.func138.trans (congrArg some (by kernel_rfl))⟩
 f22:=⟨Tryz.f139.name,by decide,Tryz.func139.trans (congrArg some (by kernel_rfl))⟩
 f23:=⟨Tryz.f140.name,by decide,Tryz.func140.trans (congrArg some (by kernel_rfl))⟩
 f24:=⟨Tryz.f141.name,by decide,Tryz.func141.trans (congrArg some (by kernel_rfl))⟩
 f25:=⟨Tryz.f142.name,by decide,Tryz.func142.trans (congrArg some (by kernel_rfl))⟩
 f26:=⟨Tryz.f143.name,by decide,Tryz.func143.trans (congrArg some (by kernel_rfl))⟩
 f27:=⟨Tryz.f144.name,by decide,Tryz.func144.trans (congrArg some (by kernel_rfl))⟩
 f28:=Tryz.func145.trans (congrArg some (by kernel_rfl))
 f29:=Tryz.func146.trans (congrArg some (by kernel_rfl))
 f46:=⟨Tryz.f180.name,by decide,Tryz.func180.trans (congrArg some (by kernel_rfl))⟩
 f47:=Tryz.func181.trans (congrArg some (by kernel_rfl))
 f48:=Tryz.func182.trans (congrArg some (by kernel_rfl))
 f49:=⟨Tryz.f183.name,by decide,Tryz.func183.trans (congrArg some (by kernel_rfl))⟩
 f50:=⟨Tryz.f184.name,by decide,Tryz.func184.trans (congrArg some (by kernel_rfl))⟩
 f57:=⟨Tryz.f199.name,by decide,Tryz.func199.trans (congrArg some (by kernel_rfl))⟩
 t0:=Tryz.underlying0
 a0:=Tryz.isAgg0
 z0:=Tryz.sizeOf0
 v0:=Tryz.zeroValue0
 t3:=Tryz.underlying3
 a3:=Tryz.isAgg3
 z3:=Tryz.sizeOf3
 v3:=Tryz.zeroValue3
 t4:=Tryz.underlying4
 a4:=Tryz.isAgg4
 z4:=Tryz.sizeOf4
 v4:=Tryz.zeroValue4
 t5:=Tryz.underlying5
 a5:=Tryz.isAgg5
 z5:=Tryz.sizeOf5
 v5:=Tryz.zeroValue5
 t9:=Tryz.underlying9
 a9:=Tryz.isAgg9
 z9:=Tryz.sizeOf9
 v9:=Tryz.zeroValue9
 t22:=Tryz.underlying39
 a22:=Tryz.isAgg39
 z22:=Tryz.sizeOf39
 v22:=Tryz.zeroValue39
 a24:=Tryz.isAgg35
 z24:=Tryz.sizeOf35
 t25:=Tryz.underlying102
 a25:=Tryz.isAgg102
 z25:=Tryz.sizeOf102
 v25:=Tryz.zeroValue102
 t39:=Tryz.underlying153
 a39:=Tryz.isAgg153
 z39:=Tryz.sizeOf153
 v39:=Tryz.zeroValue153
 t45:=Tryz.underlying175
 a45:=Tryz.isAgg175
 z45:=Tryz.sizeOf175
 v45:=Tryz.zeroValue175
 t46:=Tryz.underlying176
 a46:=Tryz.isAgg176
 z46:=Tryz.sizeOf176
 v46:=Tryz.zeroValue176
 t50:=Tryz.underlying106
 a50:=Tryz.isAgg106
 z50:=Tryz.sizeOf106
 v50:=Tryz.zeroValue106
 t53:=Tryz.underlying182
 a53:=Tryz.isAgg182
 z53:=Tryz.sizeOf182
 v53:=Tryz.zeroValue182
 t55:=Tryz.underlying74
 a55:=Tryz.isAgg74
 z55:=Tryz.sizeOf74
 v55:=Tryz.zeroValue74
 t66:=Tryz.underlying196
 a66:=Tryz.isAgg196
 z66:=Tryz.sizeOf196
 v66:=Tryz.zeroValue196
 t70:=Tryz.underlying200
 a70:=Tryz.isAgg200
 z70:=Tryz.sizeOf200
 v70:=Tryz.zeroValue200
 t76:=Tryz.underlying211
 a76:=Tryz.isAgg211
 z76:=Tryz.sizeOf211
 v76:=Tryz.zeroValue211
 t77:=Tryz.underlying212
 a77:=Tryz.isAgg212
 z77:=Tryz.sizeOf212
 v77:=Tryz.zeroValue212 }
end Go.Proofs
namespace Go.Mono
open Go Go.Proofs Go.RowKit Go.Gr
def SBc (bw bo ma ml:Nat)(vw vo:Value)(b:Nat):Prop:=(b=bw∨b=bo∨b=ma∨b=ml)∨OWN vw vo b
structure BcJ (l:List (Int×BS))(V:BS)(bm nm ba bl bw bg bd bo ma ml N:Nat)(G:Nat→Prop)(W:World)(S0 O0 K:Nat→Prop)(b8 b9 id:Nat)(frm:Int)(s:BcS)(vw vo:Value)(w:World):Prop where
 h:BcW l V bm nm ba bl bw bg bd bo ma ml N G s vw vo w
 c:Chg S0 W w
 b8:Blk w b8 #[I (id:Nat)] 3
 b9:Blk w b9 #[I frm] 3
 own:∀b,OWN vw vo b→(O0 b∨W.heap.size≤b)∧¬K b
theorem BcJ.kp {l:List (Int×BS)}{V:BS}{bm nm ba bl bw bg bd bo ma ml N:Nat}{G:Nat→Prop}{W:World}{S0 O0 K:Nat→Prop}{b8 b9 id:Nat}{frm:Int}{s:BcS}{vw vo:Value}{B:Nat}{w w':World}(h:BcJ l V bm nm ba bl bw bg bd bo ma ml N G W S0 O0 K b8 b9 id frm s vw vo w)
  (D:BcD bm ba bl bw bg bd bo ma ml N) (k:Kp B w w') (hW:W.heap.size≤B) (hN:N≤B) (h8:b8<B) (h9:b9<B) (hK:∀b,aW B b→K b) (hG:∀b,aW B b→G b):BcJ l V bm nm ba bl bw bg bd bo ma ml N G W S0 O0 K b8 b9 id frm s vw vo w':=
 ⟨h.h.ch D k.chg (fun b hb=>Nat.le_trans hN hb.1) (fun b hb hh=>(h.own b hb).2 (hK b hh)) hG,h.c.kp k hW,h.b8.kp k (fun hh=>by have:=hh.1;omega),h.b9.kp k (fun hh=>by have:=hh.1;omega),h.own⟩
theorem a3y (w:World)(row:Option Nat):w.grownBy w row:=⟨rfl,rfl,rfl,Nat.le_refl _,fun _ _ _=>rfl⟩
theorem a3z {l:List (Int×BS)}{V:BS}{bm nm ba bl bw bg bd bo ma ml N c0:Nat}(D:BcD bm ba bl bw bg bd bo ma ml N)(hc0:c0≤2000)(hnm:nm≤2000)(hnV:∀i j:Nat,(lkS l (i:Int)).getLsbD j=true→V.getLsbD j=true) :
  ∀(f:Nat) (id:Nat) (frm:Int) (s:BcS) (vw vo:Value) (G:Nat→Prop) (W:World),(∀b,G b→b<W.heap.size)→(G bw∧G bo∧G ma∧G ml)→BcW l V bm nm ba bl bw bg bd bo ma ml N G s vw vo W→BcI V c0 s→V.getLsbD id=true→lkI s.la (id:Int)≤0→unv V s.la≤f →
  Calls Tryz.prog 61 #[I (id:Nat),I frm,ptr ba,ptr bl,ptr bw,ptr bg,ptr bd,ptr bo] W (fun en w'=>en=.returned (.tuple #[])∧∃vw' vo',Chg (SBc bw bo ma ml vw vo) W w'∧BcW l V bm nm ba bl bw bg bd bo ma ml N G (bcF (lkS l) f id frm s) vw' vo' w'∧∀b,OWN vw' vo' b→OWN vw vo b∨W.heap.size≤b):=by
 intro f
 induction f with
 | zero=>
  intro id frm s vw vo G W _ _ _ _ hid hi hu
  exfalso
  have hm:id∈(ah V).filter fun v:Nat=>decide (lkI s.la (v:Int)≤0):=List.mem_filter.2 ⟨aC.2 ⟨az hid,hid⟩,decide_eq_true hi⟩
  have:=List.length_pos_of_mem hm
  rw[unv] at hu
  omega
 | succ f ih=>
  intro id frm s vw vo G W hG hGs H hI hid hi hu
  obtain⟨p1,p2⟩:=hI.push hid hi
  obtain⟨q1,q2,q3⟩:=tQ hI hid hi
  have hal:=hI.al
  have hll:=hI.ll'
  have hwl:=hI.w
  have hid1:=az hid
  have hwid:(Lit.int .i64 (id:Int)).wf=true:=bK (by omega) (by omega)
  have hwn:=bB s.way
  obtain⟨nb,hnb⟩:∃nb,nb=lkS l:=⟨_,rfl⟩
  rw[← hnb] at hnV
  have dn:=D.n
  have dw:=D.w
  have do':=D.o
  have da:=D.a
  have dl:=D.l
  have hNW:N≤W.heap.size:=H.ow.base
  have ho8:∀b,OWN vw vo b→b<W.heap.size:=fun b hb=>hb.elim (fun h=>(H.ow.lt h).2) fun h=>(H.oo.lt h).2
  refine dN (args:=[I (id:Nat),I frm,ptr ba,ptr bl,ptr bw,ptr bg,ptr bd,ptr bo]) (As:=[E (I (id:Nat)),E (I frm),E (ptr ba),E (ptr bl),E (ptr bw),E (ptr bg),E (ptr bd),E (ptr bo)]) Tryz.func61 rfl Tryz.ntmps61 (Nat.le_of_ble_eq_true rfl) ?_ (fun a hf=>?_) (Nat.le_of_ble_eq_true rfl)
  ·exact cr rfl (cr rfl (cr rfl (cr rfl (cr rfl (cr rfl (cr rfl (cr rfl mj)))))))
  dsimp only[params,Nat.reduceAdd] at hf
  have e:=Ext.rfl' W
  refine seq <| ac <| tB hf rfl fun a b8 w v8 hv8 e' hb8 hs8 B8 hf=>?_
  obtain⟨H,e⟩:=up2 e' H e
  refine tB hf rfl fun a b9 w v9 hv9 e' hb9 hs9 B9 hf=>?_
  obtain⟨H,e,B8⟩:=up3 e' H e B8
  refine aa ?_
  cases hv8
  cases hv9
  replace B8:Blk w b8 #[I (id:Nat)] 3:=B8
  replace B9:Blk w b9 #[I frm] 3:=B9
  have n89:W.heap.size≤b8∧W.heap.size≤b9∧b8≠b9:=by omega
  obtain⟨S0,hS0⟩:∃S0,S0=SBc bw bo ma ml vw vo:=⟨_,rfl⟩
  have c:Chg S0 W w:=e.chg _
  have sw:S0 bw:=by rw[hS0];exact .inl (.inl rfl)
  have so:S0 bo:=by rw[hS0];exact .inl (.inr (.inl rfl))
  have sa:S0 ma:=by rw[hS0];exact .inl (.inr (.inr (.inl rfl)))
  have sl:S0 ml:=by rw[hS0];exact .inl (.inr (.inr (.inr rfl)))
  have sO:∀b,OWN vw vo b→S0 b:=fun b hb=>by rw[hS0];exact .inr hb
  replace hf:=hf.kp [2,3,4,5,6,7,8,9]
  refine seq <| rgN 5 hf <| st (ld1 (v:=.map (some ma)) T43 rfl H.pa rfl) <| st (ld1 T3 rfl B8 rfl) <| st (ld1 (v:=.map (some ma)) T43 rfl H.pa rfl) <| st (a3a U43 rfl H.ma) <| st (add rfl rfl (by omega)) <| en fun a w e' hf=>?_
  obtain⟨H,c,B8,B9⟩:=up4 e' H c B8 B9
  replace hf:=hf.kp [2,3,4,5,6,7,8,9,12,13,16]
  refine dO (V:=iKV) (i:=(id:Int)) (c:=((s.la.length:Nat)+1:Int)) U43 hf rfl rfl rfl H.ma (by simp only[maxLen];omega) hwid (bK (by omega) (by omega)) fun w hg HM hf=>?_
  replace H:=H.putA D hg HM hGs.2.2.1
  replace c:=c.gr hg (.inl sa);replace B8:=B8.gr hg (by omega);replace B9:=B9.gr hg (by omega);clear hg HM
  refine aa ?_
  replace hf:=hf.kp [2,3,4,5,6,7,8,9]
  obtain⟨la1,hla1⟩:∃la1,la1=aV s.la (id:Int) ((s.la.length:Nat)+1:Int):=⟨_,rfl⟩
  rw[← hla1] at H
  have hs1:bcP id s={ la:=la1,ll:=aV s.ll (id:Int) (lkI la1 (id:Int)),way:=s.way++[id],out:=s.out }:=by rw[hla1];rfl
  have hl1:0≤lkI la1 (id:Int)∧lkI la1 (id:Int)≤1025:=by have:=p1.ar (id:Int);rw[hs1] at this;exact this
  refine seq <| rgN 5 hf <| st (ld1 (v:=.map (some ml)) T43 rfl H.pl rfl) <| st (ld1 T3 rfl B8 rfl) <| st (ld1 (v:=.map (some ma)) T43 rfl H.pa rfl) <| st (ld1 T3 rfl B8 rfl) <| st (dD U43 rfl H.ma rfl hwid) <| en fun a w e' hf=>?_
  obtain⟨H,c,B8,B9⟩:=up4 e' H c B8 B9
  replace hf:=hf.kp [2,3,4,5,6,7,8,9,17,18,21]
  refine dO (V:=iKV) (i:=(id:Int)) (c:=lkI la1 (id:Int)) U43 hf rfl rfl rfl H.ml (by simp only[maxLen];omega) hwid (bK (by omega) (by omega)) fun w hg HM hf=>?_
  replace H:=H.putL D hg HM hGs.2.2.2
  replace c:=c.gr hg (.inl sl);replace B8:=B8.gr hg (by omega);replace B9:=B9.gr hg (by omega);clear hg HM
  refine aa ?_
  replace hf:=hf.kp [2,3,4,5,6,7,8,9]
  refine seq <| rgN 3 hf <| st (ld1 (v:=vw) T35 rfl H.pw rfl) <| st (ld1 T3 rfl B8 rfl) <| st (aY (e:=intE) (G:=GO G0 vw) U35 I3 rfl (by decide) rfl H.ow.avs (isI rfl)) <| en fun a w e' hf=>?_
  obtain⟨H,c,B8,B9⟩:=up4 e' H c B8 B9
  replace hf:=hf.kp [2,3,4,5,6,7,8,9,22,24]
  refine bE U35 I3 rfl rfl hf (by decide) rfl H.ow (isR rfl) (by rw[hwn];simp only[List.length_singleton];omega) (by rw[hwn];simp only[List.length_singleton,maxLen];omega) fun a vw1 w' hg hat Hn hf=>?_
  have Bw:=H.pw.gro hg (fun h=>by have:=(H.ow.lt h).1;omega)
  have hsz1:=c.size
  have l8:=B8.lt
  have l9:=B9.lt
  replace hf:=hf.kp [2,3,4,5,6,7,8,9,25]
  refine aO T35 hf rfl rfl Hn.one Bw Nat.zero_lt_one fun w2 hg2 hsz Bw hf=>?_
  rw[show ai s.way++[(id:Int)]=ai (s.way++[id]) from (fV _ _).symm] at Hn
  replace H:=H.setW D hg hat Hn hg2 Bw hGs.1
  have ho1:∀b,vw1.ownBlock=some b→vw.ownBlock=some b∨W.heap.size≤b:=fun b hb=>by
   rcases hat with h|h
   ·exact .inl (by rw[← h];exact hb)
   ·rw[h] at hb;cases hb;exact .inr hsz1
  replace c:=(c.tr2 (Chg.row hg) fun b hb=>.inl (sO b (.inl hb))).gr hg2 (.inl sw)
  replace B8:=(B8.gro hg (fun h=>by have:=ho8 _ (.inl h);omega)).gr hg2 (by omega)
  replace B9:=(B9.gro hg (fun h=>by have:=ho8 _ (.inl h);omega)).gr hg2 (by omega)
  have ho1k:∀b,OWN vw1 vo b→(OWN vw vo b∨W.heap.size≤b)∧b≠b8∧b≠b9:=fun b hb=>by
   rcases hb with hb|hb
   ·rcases hat with h|h
    ·have hb':vw.ownBlock=some b:=by rw[← h];exact hb
     have:=ho8 b (.inl hb')
     exact⟨.inl (.inl hb'),by omega,by omega⟩
    ·rw[h] at hb;cases hb
     exact⟨.inr hsz1,by omega,by omega⟩
   ·have:=ho8 b (.inr hb)
    exact⟨.inl (.inr hb),by omega,by omega⟩
  generalize w2=w at *
  refine aa ?_
  replace H:BcW l V bm nm ba bl bw bg bd bo ma ml N G (bcP id s) vw1 vo w:=by rw[hs1];exact H
  obtain⟨s1,hs1'⟩:∃s1,s1=bcP id s:=⟨_,rfl⟩
  rw[← hs1'] at H p1 p2 q1 q2 q3
  have hq0:BcQ V c0 s1 s1:=BcQ.rfl' p1
  obtain⟨Nb,hNb⟩:∃Nb,Nb=nb (id:Int):=⟨_,rfl⟩
  obtain⟨Nz,hNz⟩:∃Nz,Nz=w.heap.size:=⟨_,rfl⟩
  have hlk:lkS l (id:Int)=Nb:=by rw[hNb,hnb]
  replace hf:=hf.kp [2,3,4,5,6,7,8,9]
  have hdv:=MpR.dvE H.m (Nat.le_refl nm) (G:=G0) (fun h=>h)
  refine seq <| rgN 5 hf <| st (fA U79 rfl T77 rfl) <| st (ld1 (v:=.map (some bm)) T77 rfl H.pg (bN _ _)) <| st (ld1 T3 rfl B8 rfl) <| st ((lkM (l:=l) (i:=(id:Int)) U77 ce (isE rfl hdv) rfl hwid).eq (congrArg ae hlk)) <| st (aA (A:=db Nz Nb) di rfl (fun v w' he h=>by cases h;exact Calls.mono (dq _ w') (fun en w2 ⟨u,h1,h2,b',h3,h4,h5⟩=>⟨u,h1,h2,b',by have:=he.size;omega,h4,h5⟩))) ?_
  refine en fun a w e' hf=>?_
  obtain⟨H,c,hdv,B8,B9⟩:=up5 e' H c hdv B8 B9
  refine aa ?_
  obtain⟨vv,⟨b30,h30,rfl,BS⟩,hf⟩:=hf.fix 30 rfl
  replace hf:=hf.kp [2,3,4,5,6,7,8,9,30]
  have hBW:W.heap.size≤w.heap.size:=c.size
  have l8:=B8.lt
  have l9:=B9.lt
  obtain⟨K,hK⟩:∃K:Nat→Prop,K=fun b=>b=b8∨b=b9∨aW w.heap.size b:=⟨_,rfl⟩
  obtain⟨G1,hG1⟩:∃G1:Nat→Prop,G1=fun b=>G b∨aW w.heap.size b:=⟨_,rfl⟩
  have hKh:∀b,aW w.heap.size b→K b:=fun b hb=>by rw[hK];exact .inr (.inr hb)
  have hGh:∀b,aW w.heap.size b→G1 b:=fun b hb=>by rw[hG1];exact .inr hb
  have hGG:∀b,G b→G1 b:=fun b hb=>by rw[hG1];exact .inl hb
  have hGs1:G1 bw∧G1 bo∧G1 ma∧G1 ml:=⟨hGG _ hGs.1,hGG _ hGs.2.1,hGG _ hGs.2.2.1,hGG _ hGs.2.2.2⟩
  have hKl:∀b,K b→b<w.heap.size+3:=fun b hb=>by
   rw[hK] at hb
   rcases hb with hb|hb|hb
   ·omega
   ·omega
   ·exact hb.2
  have hG1l:∀b,G1 b→b<w.heap.size+3:=fun b hb=>by
   rw[hG1] at hb
   rcases hb with hb|hb
   ·have:=hG b hb;omega
   ·exact hb.2
  have hK8:K b8∧K b9:=by rw[hK];exact⟨.inl rfl,.inr (.inl rfl)⟩
  have hJ0:BcJ l V bm nm ba bl bw bg bd bo ma ml N G1 W S0 (OWN vw vo) K b8 b9 id frm s1 vw1 vo w:=⟨H.weak fun b hb hh=>by
    rw[hG1] at hh
    rcases hh with hh|hh
    ·exact hh
    ·have:=hh.1;omega,c,B8,B9,fun b hb=>⟨(ho1k b hb).1,fun hh=>by
    rw[hK] at hh
    have h1:=ho1k b hb
    have h2:b<w.heap.size:=hb.elim (fun h=>(H.ow.lt h).2) fun h=>(H.oo.lt h).2
    rcases hh with hh|hh|hh
    ·exact h1.2.1 hh
    ·exact h1.2.2 hh
    ·have:=hh.1;omega⟩⟩
  have hNB:N≤w.heap.size:=H.ow.base
  refine blk <| dx (S:=Nb) hf rfl BS (by decide) (fun sl w1=>∃vw1 vo1,BcJ l V bm nm ba bl bw bg bd bo ma ml N G1 W S0 (OWN vw vo) K b8 b9 id frm (sl.foldl (bcT (bcF nb f) id frm) s1) vw1 vo1 w1∧BcQ V c0 s1 (sl.foldl (bcT (bcF nb f) id frm) s1)) (fun _ _=>False) (fun sl w1 ⟨_,_,h,_⟩=>h.h.t)
   ⟨vw1,vo,hJ0,hq0⟩ (fun sl w1 w2 ⟨v1,v2,h,hq⟩ hs k=>⟨v1,v2,h.kp D k hBW hNB l8 l9 hKh hGh,hq⟩) (fun _ _ _ h=>h.elim) ?_ ?_ (fun _ _ _ _ _ _ h=>h.elim)
  ·intro lp sl' x rest a1 w1 hs hJ hlw hf
   have hxV:V.getLsbD x=true:=hnV id x (by rw[← hNb];exact (aC.1 (by rw[hs];simp)).2)
   have hx1024:x<1024:=az hxV
   have hwx:(Lit.int .i64 (x:Int)).wf=true:=bK (by omega) (by omega)
   generalize hBz:w.heap.size=Bz at *
   refine ac <| tA hf rfl fun a hf=>aa <| ⟨Kh.rfl' _ _,fun w3 k3 hsz3=>?_⟩
   obtain⟨vx,vy,hJ,hq⟩:=hJ
   have hJ3:=hJ.kp D k3 hBW hNB l8 l9 hKh hGh
   have hw3:Bz+3≤w3.heap.size:=by omega
   replace hf:=hf.pure w3
   obtain⟨H,c,B8,B9,hown⟩:=hJ3
   have kh:=Kh.rfl' Bz w3
   have hstep:((sl'++[x]).foldl (bcT (bcF nb f) id frm) s1)=bcT (bcF nb f) id frm (sl'.foldl (bcT (bcF nb f) id frm) s1) x:=by rw[List.foldl_append];rfl
   obtain⟨sx,hsx⟩:∃sx,sx=sl'.foldl (bcT (bcF nb f) id frm) s1:=⟨_,rfl⟩
   rw[← hsx] at H hq hstep
   obtain⟨tgt,htgt⟩:∃tgt,tgt=bcT (bcF nb f) id frm sx x:=⟨_,rfl⟩
   have fin:∀v1 v2 w1,BcJ l V bm nm ba bl bw bg bd bo ma ml N G1 W S0 (OWN vw vo) K b8 b9 id frm tgt v1 v2 w1→BcQ V c0 s1 tgt→∃v1 v2,BcJ l V bm nm ba bl bw bg bd bo ma ml N G1 W S0 (OWN vw vo) K b8 b9 id frm ((sl'++[x]).foldl (bcT (bcF nb f) id frm) s1) v1 v2 w1∧BcQ V c0 s1 ((sl'++[x]).foldl (bcT (bcF nb f) id frm) s1):=fun v1 v2 w1 h1 h2=>⟨v1,v2,by rw[hstep,← htgt];exact⟨h1,h2⟩⟩
   have hqs:BcQ V c0 s1 tgt:=by rw[htgt];exact tO hid hq fun hh=>nL hnV f x (id:Int) sx hq.i hxV hh (by have:=nK (V:=V) hq.m;omega)
   rw[bcT] at htgt
   have hqi:=hq.i
   have hal2:=hqi.al
   have hll2:=hqi.ll'
   have hwl2:=hqi.w
   have hol2:=hqi.o
   have hwn2:=bB sx.way
   have hgo:∀b,aW Bz b→¬(b=bw∨b=bo∨b=ma∨b=ml):=fun b hb hh=>by have:=hb.1;omega
   replace hf:=hf.kp [2,3,4,5,6,7,8,9,10]
   refine blk ?_
   by_cases hxf:(x:Int)=frm
   ·repeat refine seq ?_
    refine rgN 3 hf <| st (mv rfl) <| st (ld1 T3 rfl B9 rfl) <| st ((eql rfl rfl).eq (congrArg Value.bool ((by rw[hxf];exact beq_self_eq_true _:((x:Int)==frm)=true)))) ?_
    refine en fun a w e' hf=>?_
    obtain⟨H,c⟩:=up2 e' H c
    replace kh:=kh.tr (Kh.ext e')
    obtain⟨B8,B9⟩:=up2 e' B8 B9
    refine aa <| ifc hf rfl (fun _=>?_) (fun h=>by cases h)
    refine aK ?_
    rw[if_pos hxf] at htgt
    subst htgt
    exact⟨fin _ _ _ ⟨H,c,B8,B9,hown⟩ hq,kh⟩
   rw[if_neg hxf] at htgt
   repeat refine seq ?_
   refine rgN 3 hf <| st (mv rfl) <| st (ld1 T3 rfl B9 rfl) <| st ((eql rfl rfl).eq (congrArg Value.bool ((beq_eq_false_iff_ne.2 hxf:((x:Int)==frm)=false)))) <| en fun a w e' hf=>?_
   obtain⟨H,c⟩:=up2 e' H c
   replace kh:=kh.tr (Kh.ext e')
   obtain⟨B8,B9⟩:=up2 e' B8 B9
   refine aa <| ifc hf rfl (fun h=>by cases h) (fun _=>?_)
   refine ak ?_
   replace hf:=hf.kp [2,3,4,5,6,7,8,9,10]
   by_cases hpo:0<lkI sx.la (x:Int)
   ·repeat refine seq ?_
    refine rgN 4 hf <| st (ld1 (v:=.map (some ma)) T43 rfl H.pa rfl) <| st (mv rfl) <| st (dD U43 rfl H.ma rfl hwx) <| st ((gtr rfl rfl).eq (congrArg Value.bool (decide_eq_true hpo))) <| en fun a w e' hf=>?_
    obtain⟨H,c⟩:=up2 e' H c
    replace kh:=kh.tr (Kh.ext e')
    obtain⟨B8,B9⟩:=up2 e' B8 B9
    refine aa <| ifc hf rfl (fun _=>?_) (fun h=>by cases h)
    replace hf:=hf.kp [2,3,4,5,6,7,8,9,10]
    have hmn:0≤min (lkI sx.ll (id:Int)) (lkI sx.la (x:Int))∧min (lkI sx.ll (id:Int)) (lkI sx.la (x:Int))≤1025:=by have h1:=hqi.lr (id:Int);have h2:=hqi.ar (x:Int);omega
    refine seq <| rgN 9 hf <| st (ld1 (v:=.map (some ml)) T43 rfl H.pl rfl) <| st (ld1 T3 rfl B8 rfl) <| st (ld1 (v:=.map (some ml)) T43 rfl H.pl rfl) <| st (ld1 T3 rfl B8 rfl) <| st (dD U43 rfl H.ml rfl hwid) <| st (ld1 (v:=.map (some ma)) T43 rfl H.pa rfl) <| st (mv rfl) <| st (dD U43 rfl H.ma rfl hwx) <| st (min2 rfl rfl) <| en fun a w e' hf=>?_
    obtain⟨H,c⟩:=up2 e' H c
    replace kh:=kh.tr (Kh.ext e')
    obtain⟨B8,B9⟩:=up2 e' B8 B9
    replace hf:=hf.kp [2,3,4,5,6,7,8,9,10,39,40,47]
    refine dO (V:=iKV) (i:=(id:Int)) (c:=min (lkI sx.ll (id:Int)) (lkI sx.la (x:Int))) U43 hf rfl rfl rfl H.ml (by simp only[maxLen];omega) hwid (bK (by omega) (by omega)) fun w hg HM hf=>?_
    replace H:=H.putL D hg HM hGs1.2.2.2
    replace c:=c.gr hg (.inl sl);replace B8:=B8.gr hg (by omega);replace B9:=B9.gr hg (by omega);replace kh:=kh.tr (Kh.gr hg fun hh=>hgo _ hh (.inr (.inr (.inr rfl))));clear hg HM
    refine aa <| aK ?_
    rw[if_pos hpo] at htgt
    replace H:BcW l V bm nm ba bl bw bg bd bo ma ml N G1 tgt vx vy w:=by rw[htgt];exact H
    exact⟨fin _ _ _ ⟨H,c,B8,B9,hown⟩ hqs,kh⟩
   repeat refine seq ?_
   refine rgN 4 hf <| st (ld1 (v:=.map (some ma)) T43 rfl H.pa rfl) <| st (mv rfl) <| st (dD U43 rfl H.ma rfl hwx) <| st ((gtr rfl rfl).eq (congrArg Value.bool (decide_eq_false hpo))) <| en fun a w e' hf=>?_
   obtain⟨H,c⟩:=up2 e' H c
   replace kh:=kh.tr (Kh.ext e')
   obtain⟨B8,B9⟩:=up2 e' B8 B9
   refine aa <| ifc hf rfl (fun h=>by cases h) (fun _=>?_)
   refine ak ?_
   replace hf:=hf.kp [2,3,4,5,6,7,8,9,10]
   rw[if_neg hpo] at htgt
   have hu2:unv V sx.la≤f:=by have:=nK (V:=V) hq.m;omega
   have r:=nL hnV f x (id:Int) sx hqi hxV (by omega) hu2
   refine seq <| rgN 2 hf <| st (ld1 (v:=vx) T35 rfl H.pw rfl) <| st (aD U35 (isE rfl H.ow.sl)) <| en fun a w e' hf=>?_
   obtain⟨H,c⟩:=up2 e' H c
   replace kh:=kh.tr (Kh.ext e')
   obtain⟨B8,B9⟩:=up2 e' B8 B9
   refine tA hf rfl fun a hf=>aa ?_
   rw[hwn2] at hf
   replace hf:=hf.kp [2,3,4,5,6,7,8,9,10,11]
   refine seq <| rgN 3 hf <| st (ld1 (v:=bcV ba bl bw bg bd bo) T95 rfl H.pd rfl) <| st (mv rfl) <| st (ld1 T3 rfl B8 rfl) <| en fun a w e' hf=>?_
   obtain⟨H,c⟩:=up2 e' H c
   replace kh:=kh.tr (Kh.ext e')
   obtain⟨B8,B9⟩:=up2 e' B8 B9
   replace hf:=hf.kp [2,3,4,5,6,7,8,9,10,11,50,51,52]
   refine ii (S:=SBc bw bo ma ml vx vy) (F:=fun w'=>∃vw' vo',BcW l V bm nm ba bl bw bg bd bo ma ml N G1 (bcF (lkS l) f x (id:Int) sx) vw' vo' w'∧∀b,OWN vw' vo' b→OWN vx vy b∨w.heap.size≤b) (A:=E (.tuple #[])) hf (by decide) pz rfl ?_ fun a w2 hc HF hf=>?_
   ·have e51:a.eval (.tmp 51)=I (x:Nat):=hf.opd (.tmp 51) _ rfl
    have e52:a.eval (.tmp 52)=I (id:Nat):=hf.opd (.tmp 52) _ rfl
    simp only[List.map_toArray,List.map_cons,List.map_nil,e51,e52]
    exact (ih x (id:Int) sx vx vy G1 _ (fun b hb=>by have h1:=hG1l b hb;have h2:=kh.size;omega) hGs1 H hqi hxV (by omega) hu2).mono fun en w' ⟨k1,v1,v2,k2,k3,k4⟩=>⟨_,k1,k2,rfl,v1,v2,k3,k4⟩
   obtain⟨vx2,vy2,H2,hnew⟩:=HF
   have hbs:∀b,b=b8∨b=b9∨aW Bz b→¬SBc bw bo ma ml vx vy b:=fun b hb hh=>by
    rcases hh with hh|hh
    ·rcases hb with hb|hb|hb
     ·omega
     ·omega
     ·have:=hb.1;omega
    ·have h1:=(hown b hh).2
     rcases hb with hb|hb|hb
     ·rw[hb] at h1;exact h1 hK8.1
     ·rw[hb] at h1;exact h1 hK8.2
     ·exact h1 (hKh b hb)
   have hwsz:=kh.size
   have hSS:∀b,SBc bw bo ma ml vx vy b→S0 b∨W.heap.size≤b:=fun b hb=>by
    rcases hb with hb|hb
    ·rcases hb with rfl|rfl|rfl|rfl
     ·exact .inl sw
     ·exact .inl so
     ·exact .inl sa
     ·exact .inl sl
    ·exact (hown b hb).1.imp (sO b) (fun h=>h)
   replace hown:∀b,OWN vx2 vy2 b→(OWN vw vo b∨W.heap.size≤b)∧¬K b:=fun b hb=>by
    rcases hnew b hb with h|h
    ·exact hown b h
    ·exact⟨.inr (by omega),fun hk=>by have:=hKl b hk;omega⟩
   replace c:=c.tr2 hc hSS
   replace B8:=B8.ch hc (hbs b8 (.inl rfl))
   replace B9:=B9.ch hc (hbs b9 (.inr (.inl rfl)))
   replace kh:=kh.tr (Kh.chg hc fun b hb hh=>hbs b (.inr (.inr hh)) hb)
   generalize w2=w at *
   refine aa ?_
   have H:=H2
   rw[← hnb] at H
   obtain⟨s2,hs2⟩:∃s2,s2=bcF nb f x (id:Int) sx:=⟨_,rfl⟩
   rw[← hs2] at H htgt r
   have ri:=r.i
   have rll:=ri.ll'
   have ral:=ri.al
   have rwl:=ri.w
   have rol:=ri.o
   obtain⟨t2,ht2⟩:=r.w
   obtain⟨t1,ht1⟩:=hq.w
   have hbl:sx.way.length<s2.way.length:=by rw[ht2,List.length_append,List.length_cons];omega
   have hb1:0<sx.way.length:=by
    have:s1.way=s.way++[id]:=by rw[hs1'];rfl
    rw[ht1,this,List.length_append,List.length_append]
    simp only[List.length_singleton];omega
   obtain⟨beh,hbeh⟩:∃beh,beh=sx.way.length:=⟨_,rfl⟩
   rw[← hbeh] at hbl hb1 htgt hf
   replace hf:=hf.kp [2,3,4,5,6,7,8,9,10,11]
   have hmn:0≤min (lkI s2.ll (id:Int)) (lkI s2.ll (x:Int))∧min (lkI s2.ll (id:Int)) (lkI s2.ll (x:Int))≤1025:=by have h1:=ri.lr (id:Int);have h2:=ri.lr (x:Int);omega
   refine seq <| rgN 9 hf <| st (ld1 (v:=.map (some ml)) T43 rfl H.pl rfl) <| st (ld1 T3 rfl B8 rfl) <| st (ld1 (v:=.map (some ml)) T43 rfl H.pl rfl) <| st (ld1 T3 rfl B8 rfl) <| st (dD U43 rfl H.ml rfl hwid) <| st (ld1 (v:=.map (some ml)) T43 rfl H.pl rfl) <| st (mv rfl) <| st (dD U43 rfl H.ml rfl hwx) <| st (min2 rfl rfl) <| en fun a w e' hf=>?_
   obtain⟨H,c⟩:=up2 e' H c
   replace kh:=kh.tr (Kh.ext e')
   obtain⟨B8,B9⟩:=up2 e' B8 B9
   replace hf:=hf.kp [2,3,4,5,6,7,8,9,10,11,54,55,62]
   refine dO (V:=iKV) (i:=(id:Int)) (c:=min (lkI s2.ll (id:Int)) (lkI s2.ll (x:Int))) U43 hf rfl rfl rfl H.ml (by simp only[maxLen];omega) hwid (bK (by omega) (by omega)) fun w hg HM hf=>?_
   replace H:BcW l V bm nm ba bl bw bg bd bo ma ml N G1 (bcM id x s2) vx2 vy2 w:=H.putL D hg HM hGs1.2.2.2
   replace c:=c.gr hg (.inl sl);replace B8:=B8.gr hg (by omega);replace B9:=B9.gr hg (by omega);replace kh:=kh.tr (Kh.gr hg fun hh=>hgo _ hh (.inr (.inr (.inr rfl))));clear hg HM
   refine aa ?_
   have mi:=ri.setM hid x
   have mway:(bcM id x s2).way=s2.way:=rfl
   have mout:(bcM id x s2).out=s2.out:=rfl
   obtain⟨s3,hs3⟩:∃s3,s3=bcM id x s2:=⟨_,rfl⟩
   rw[← hs3] at H htgt mi mway mout
   have m3w:=mi.w
   have m3a:=mi.al
   have m3o:=mi.o
   have hwn3:=bB s3.way
   replace hf:=hf.kp [2,3,4,5,6,7,8,9,10,11]
   by_cases hcm:lkI s3.la (id:Int)≤lkI s3.ll (x:Int)
   ·rw[if_pos hcm] at htgt
    refine seq <| rgN 7 hf <| st (ld1 (v:=.map (some ml)) T43 rfl H.pl rfl) <| st (mv rfl) <| st (dD U43 rfl H.ml rfl hwx) <| st (ld1 (v:=.map (some ma)) T43 rfl H.pa rfl) <| st (ld1 T3 rfl B8 rfl) <| st (dD U43 rfl H.ma rfl hwid) <| st ((geq rfl rfl).eq (congrArg Value.bool (decide_eq_true hcm))) <| en fun a w e' hf=>?_
    obtain⟨H,c⟩:=up2 e' H c
    replace kh:=kh.tr (Kh.ext e')
    obtain⟨B8,B9⟩:=up2 e' B8 B9
    refine aa <| ifc hf rfl (fun _=>?_) (fun h=>by cases h)
    replace hf:=hf.kp [2,3,4,5,6,7,8,9,10,11]
    have hsz0:=kh.size
    obtain⟨N5,hN5⟩:∃N5,N5=w.heap.size:=⟨_,rfl⟩
    have hN5s:N5≤w.heap.size:=Nat.le_of_eq hN5
    have hN5b:Bz+3≤N5:=by omega
    have h8l:b8<N5∧b9<N5:=by rw[hN5];exact⟨B8.lt,B9.lt⟩
    have hgo2:∀b,GO (fun b=>G1 b∨vx2.ownBlock=some b) vy2 b→b<N5:=fun b hb=>by
     rw[hN5]
     rcases hb with (hb|hb)|hb
     ·have:=hG1l b hb;omega
     ·exact (H.ow.lt hb).2
     ·exact (H.oo.lt hb).2
    obtain⟨cl,hcl⟩:∃cl,cl=ai (s3.way.drop beh):=⟨_,rfl⟩
    have hbl3:beh≤s3.way.length:=by rw[mway];omega
    have hcl1:(ai s3.way).drop beh=cl:=by rw[hcl,ai,ai,List.map_drop]
    have hcll:cl.length=s3.way.length - beh:=by rw[hcl,bB,List.length_drop]
    have hclne:cl≠[]:=fun h=>by rw[h] at hcll;simp only[List.length_nil] at hcll;rw[mway] at hcll;omega
    have hcl2:ai (s3.way.drop beh++[id])=cl++[(id:Int)]:=by rw[fV,hcl]
    obtain⟨C,hC⟩:∃C,C=(cl++[(id:Int)]).foldl ins 0:=⟨_,rfl⟩
    have hout:s3.out++[elL ((ai (s3.way.drop beh++[id])).foldl ins 0)]=s3.out++[elL C]:=by rw[hcl2,← hC]
    have hdrop:(Dv (slE intE) G0 (ai s3.way)).p vx2 w:=H.ow.sl
    refine seq <| cT 11 [1,0,0,0,0,0,0] (Chg (fun b=>N5≤b)) (bW.chg _) (fun w=>True) (fun w w1 k h=>trivial) Mix.mix hf (by decide +kernel) (by decide +kernel) <| jf (fun w1 h1=>ld1 (v:=vy2) T39 rfl (H.po.ch h1 (by omega)) rfl) <| ja (ld1 (v:=vx2) T35 rfl H.pw rfl) <| ja (mv rfl) <| ja ((a0J U35 S3 (isE rfl hdrop) rfl (by rw[hwn3];exact hbl3)).dv (hcl1)) ?_
    refine ja (aA (A:=OwA intE 3 N5 G0 cl) (B:=Dv (slE intE) G0 cl) pA rfl (fun u w he k=>(sV cl u w k (by omega) hclne).mono fun en w' ⟨u,k1,k2,k3⟩=>⟨u,k1,k2,OwR.low k3 (Nat.le_trans hN5s he.size) fun b hb=>hb.elim⟩)) <| ja (ld1 T3 rfl B8 rfl) <| ja (aY (e:=intE) (G:=G0) U35 I3 rfl (by decide) rfl (fun b hb=>hb.elim) (isI rfl)) <| jx (kb (G':=G0) U35 I3 rfl rfl rfl (isR rfl) (by simp only[List.length_singleton];omega) (by simp only[List.length_singleton,maxLen];omega) (fun _ _ _ _=>trivial) (fun _ _=>trivial)) ?_
    refine jp (fun w1 h1 HF1=>aA (A:=E (ae C)) (B:=OwA intE 3 N5 G0 (cl++[(id:Int)])) jQ rfl (fun u w he k=>by rw[hC];exact kn (cl++[(id:Int)]) u w (OwR.sl k) (by rw[List.length_append,List.length_singleton];omega))) ?_
    refine jp (fun w1 h1 HF1=>aA (A:=Dv (slE intE) (GO (fun b=>G1 b∨vx2.ownBlock=some b) vy2) (elL C)) jP rfl (fun u w he k=>by cases k;exact (kP C w ((H.t.ch h1 (by omega)).ext he)).mono fun en w' ⟨z,k1,k2,k3⟩=>⟨z,k1,k2,OwR.slN k3 fun b hb hh=>by have q1:=hgo2 b hh;have q2:=(OwR.lt k3 hb).1;have q3:=h1.size;have q4:=he.size;omega⟩)) ?_
    refine jp (fun w1 h1 HF1=>aY (e:=slE intE) (G:=GO (fun b=>G1 b∨vx2.ownBlock=some b) vy2) U39 I35 rfl (by decide) rfl (fun b hb=>Nat.lt_of_lt_of_le (hgo2 b hb) (Nat.le_trans hN5s h1.size)) (isR rfl)) <| je <| fun a w hc HF hf=>?_
    try dsimp only[push] at hf
    have e':Ext _ w:=⟨hc.os,hc.tape,hc.output,hc.size,fun b hb=>hc.block b hb (by omega)⟩
    replace H:=H.ext e';replace c:=c.ext e';replace B8:=B8.ext e';replace B9:=B9.ext e';replace kh:=kh.tr (Kh.ext e')
    have hcsz:=c.size
    have l8:=B8.lt
    have l9:=B9.lt
    have hksz:=kh.size
    replace hf:=hf.kp [2,3,4,5,6,7,8,9,10,11,70,80]
    refine lV U39 I35 rfl rfl hf (by decide) rfl H.oo (isR rfl) (by simp only[List.length_singleton];omega) (by simp only[List.length_singleton,maxLen];omega) fun a vy3 w' hg hat Hn hf=>?_
    have Bo:=H.po.gro hg (fun h=>by have:=(H.oo.lt h).1;omega)
    replace hf:=hf.kp [2,3,4,5,6,7,8,9,10,11,81]
    refine aO T39 hf rfl rfl Hn.one Bo Nat.zero_lt_one fun w2 hg2 hsz Bo hf=>?_
    have hvy:∀b,vy2.ownBlock=some b→b≠b8∧b≠b9∧¬aW Bz b:=fun b hb=>by
     have h1:=(hown b (.inr hb)).2
     exact⟨fun h=>by rw[h] at h1;exact h1 hK8.1,fun h=>by rw[h] at h1;exact h1 hK8.2,fun h=>h1 (hKh b h)⟩
    have hown3:∀b,OWN vx2 vy3 b→(OWN vw vo b∨W.heap.size≤b)∧¬K b:=fun b hb=>by
     rcases hb with hb|hb
     ·exact hown b (.inl hb)
     ·rcases hat with h|h
      ·exact hown b (.inr (by rw[← h];exact hb))
      ·rw[h] at hb;cases hb
       exact⟨.inr hcsz,fun hk=>by have:=hKl _ hk;omega⟩
    replace H:BcW l V bm nm ba bl bw bg bd bo ma ml N G1 { s3 with out:=s3.out++[elL C] } vx2 vy3 w2:=H.setO D hg Hn hg2 Bo hGs1.2.1
    replace c:=(c.tr2 (Chg.row hg) fun b hb=>(hown b (.inr hb)).1.imp (sO b) (fun h=>h)).gr hg2 (.inl so)
    replace B8:=(B8.gro hg (fun h=>(hvy b8 h).1 rfl)).gr hg2 (by omega)
    replace B9:=(B9.gro hg (fun h=>(hvy b9 h).2.1 rfl)).gr hg2 (by omega)
    replace kh:=(kh.tr (Kh.gro hg fun b hb hh=>(hvy b hb).2.2 hh)).tr (Kh.gr hg2 fun hh=>hgo _ hh (.inr (.inl rfl)))
    have hown:=hown3
    generalize w2=w at *
    refine aa ?_
    replace hf:=hf.kp [2,3,4,5,6,7,8,9,10,11]
    obtain⟨bb,cc,hvx,hcc,HC⟩:=H.ow.cut (k:=beh) (by rw[hwn3];exact hbl3) hb1
    replace HC:OwR intE 3 N G0 w (ai (s3.way.take beh)) (.slice (some ⟨bb,0,none⟩) beh cc):=by rw[ai,List.map_take];exact HC
    have hbc:beh≤cc:=by rw[hwn3] at hcc;omega
    refine rgN 3 hf <| st ((ld1 (v:=vx2) T35 rfl H.pw rfl).eq (hvx)) <| st (mv rfl) <| st (mK U35 S3 rfl rfl hbc) <| en fun a w e' hf=>?_
    obtain⟨H,c⟩:=up2 e' H c
    replace kh:=kh.tr (Kh.ext e')
    obtain⟨HC,B8,B9⟩:=up3 e' HC B8 B9
    replace hf:=hf.kp [2,3,4,5,6,7,8,9,10,11,84]
    refine aO T35 hf rfl rfl rfl H.pw Nat.zero_lt_one fun w2 hg2 hsz Bw hf=>?_
    replace H:BcW l V bm nm ba bl bw bg bd bo ma ml N G1 { s3 with out:=s3.out++[elL C],way:=s3.way.take beh } (.slice (some ⟨bb,0,none⟩) beh cc) vy3 w2:=H.setW D (a3y w _) (.inl (by rw[hvx];rfl)) HC hg2 Bw hGs1.1
    replace c:=c.gr hg2 (.inl sw)
    replace B8:=B8.gr hg2 (by omega)
    replace B9:=B9.gr hg2 (by omega)
    replace kh:=kh.tr (Kh.gr hg2 fun hh=>hgo _ hh (.inl rfl))
    refine aa ?_
    simp only[Exit.inBlock]
    replace htgt:tgt={ s3 with out:=s3.out++[elL C],way:=s3.way.take beh }:=by rw[htgt,bcC,hout]
    rw[← htgt] at H
    exact⟨fin _ _ _ ⟨H,c,B8,B9,fun b hb=>hown b (by rw[hvx];exact hb)⟩ hqs,kh⟩
   ·rw[if_neg hcm] at htgt
    refine seq <| rgN 7 hf <| st (ld1 (v:=.map (some ml)) T43 rfl H.pl rfl) <| st (mv rfl) <| st (dD U43 rfl H.ml rfl hwx) <| st (ld1 (v:=.map (some ma)) T43 rfl H.pa rfl) <| st (ld1 T3 rfl B8 rfl) <| st (dD U43 rfl H.ma rfl hwid) <| st ((geq rfl rfl).eq (congrArg Value.bool (decide_eq_false hcm))) <| en fun a w e' hf=>?_
    obtain⟨H,c⟩:=up2 e' H c
    replace kh:=kh.tr (Kh.ext e')
    obtain⟨B8,B9⟩:=up2 e' B8 B9
    refine aa <| ifc hf rfl (fun h=>by cases h) (fun _=>?_)
    refine ak ?_
    rw[← htgt] at H
    exact⟨fin _ _ _ ⟨H,c,B8,B9,hown⟩ hqs,kh⟩
  ·intro a' w' hf' hJ hsz hDn
   simp only[Exit.inBlock,↓reduceIte,Exit.then]
   obtain⟨vx,vy,⟨H,c,B8,B9,hown⟩,hq⟩:=hJ
   have hD:Ds [w.heap.size] w':=(Ds.nil w').cons hDn (by simp)
   have hf:FrD 85 (bS [w.heap.size]) a' w' []:=hf'.keep []
   refine xD rfl hf hD ⟨rfl,vx,vy,?_,?_,fun b hb=>(hown b hb).1⟩
   ·refine (c.tr2 (ea [w.heap.size] w') fun b hb=>.inr (by rw[List.mem_singleton] at hb;omega)).to fun b _ hb=>by rw[hS0] at hb;exact hb
   ·rw[show bcF (lkS l) (f+1) id frm s=(ah Nb).foldl (bcT (bcF nb f) id frm) s1 by rw[← hnb,bcF,← hNb,← hs1']]
    refine (H.ch D (ea [w.heap.size] w') (fun b hb=>by rw[List.mem_singleton] at hb;omega) (fun b hb hh=>(hown b hb).2 (hKh b (by rw[List.mem_singleton] at hh;rw[hh];exact⟨Nat.le_refl _,by omega⟩))) fun b hb=>hGh b (by rw[List.mem_singleton] at hb;rw[hb];exact⟨Nat.le_refl _,by omega⟩)).weak fun b _ hb=>hGG b hb
end Go.Mono
namespace Go.Mono
open Go Go.Proofs Go.RowKit Go.Gr Go.Shelf Go.Sort
open Go.MonoD (br cmpI SlC)
theorem ga (x y:Int):(x<y∧cmpI x y = -1)∨(y<x∧cmpI x y=1)∨(x=y∧cmpI x y=0):=by
 rw[cmpI]
 by_cases h:x<y
 ·exact .inl ⟨h,if_pos h⟩
 ·rw[if_neg h]
  by_cases h2:y<x
  ·exact .inr (.inl ⟨h2,if_pos h2⟩)
  ·exact .inr (.inr ⟨by omega,if_neg h2⟩)
theorem ut:∀xs:List Int,br xs xs=0
 | []=>rfl
 | x::xs=>by
  have h:cmpI x x=0:=by rcases ga x x with h|h|h <;> omega
  rw[br,if_neg (by rw[h];exact fun h=>h rfl)];exact ut xs
theorem lw:∀xs ys:List Int,br xs ys=0→xs=ys
 | [],[],_=>rfl
 | [],_::_,h=>by cases h
 | _::_,[],h=>by cases h
 | x::xs,y::ys,h=>by
  rw[br] at h
  rcases ga x y with ⟨_,h2⟩|⟨_,h2⟩|⟨h1,h2⟩
  ·rw[h2] at h;cases h
  ·rw[h2] at h;cases h
  ·rw[if_neg (by rw[h2];exact fun h=>h rfl)] at h
   rw[h1,lw xs ys h]
theorem jv:∀xs ys:List Int,br ys xs = -br xs ys
 | [],[]=>rfl
 | [],_::_=>rfl
 | _::_,[]=>rfl
 | x::xs,y::ys=>by
  rw[br,br]
  rcases ga x y with ⟨h1,h2⟩|⟨h1,h2⟩|⟨h1,h2⟩ <;> rcases ga y x with ⟨h3,h4⟩|⟨h3,h4⟩|⟨h3,h4⟩ <;> first|omega|(rw[h2,h4];rfl)|skip
  rw[if_neg (by rw[h4];exact fun h=>h rfl),if_neg (by rw[h2];exact fun h=>h rfl)]
  exact jv xs ys
theorem lx:∀xs ys zs:List Int,br xs ys<0→br ys zs≤0→br xs zs<0
 | [],[],zs,h,_=>absurd h (show ¬(0:Int)<0 by decide)
 | [],_::_,[],_,h=>absurd h (show ¬(1:Int)≤0 by decide)
 | [],_::_,_::_,_,_=>(show (-1:Int)<0 by decide)
 | _::_,[],_,h,_=>absurd h (show ¬(1:Int)<0 by decide)
 | x::xs,y::ys,[],_,h=>absurd h (show ¬(1:Int)≤0 by decide)
 | x::xs,y::ys,z::zs,h,h'=>by
  rw[br] at h h' ⊢
  rcases ga x y with ⟨a1,a2⟩|⟨a1,a2⟩|⟨a1,a2⟩ <;> rcases ga y z with ⟨b1,b2⟩|⟨b1,b2⟩|⟨b1,b2⟩ <;> rcases ga x z with ⟨c1,c2⟩|⟨c1,c2⟩|⟨c1,c2⟩ <;> first
   | omega
   | (rw[a2] at h;exact absurd h (by decide))
   | (rw[b2] at h';exact absurd h' (by decide))
   | (rw[c2];decide)
   | (rw[if_neg (by rw[a2];exact fun h=>h rfl)] at h;rw[if_neg (by rw[b2];exact fun h=>h rfl)] at h';rw[if_neg (by rw[c2];exact fun h=>h rfl)];exact lx xs ys zs h h')
def lxs (out:List (List Int))(i:Nat):List Int:=(out[i]?).getD []
def lcf (out:List (List Int))(i j:Nat):Int:=br (lxs out i) (lxs out j)
theorem a3A (out:List (List Int)):SWO (ltOf (lcf out)):=by
 refine⟨fun x=>?_,fun x y z h1 h2=>?_,fun x y z h1 h2=>?_⟩
 ·exact decide_eq_false (by rw[lcf,ut];decide)
 ·exact decide_eq_true (lx _ _ _ (of_decide_eq_true h1) (by have:=of_decide_eq_true h2;rw[lcf] at this;omega))
 ·refine decide_eq_false fun h=>?_
  have h1':=of_decide_eq_false h1
  have h2':=of_decide_eq_false h2
  rw[lcf] at h h1' h2'
  have n2:=jv (lxs out y) (lxs out z)
  by_cases hz:br (lxs out y) (lxs out z)=0
  ·have:=lw _ _ hz
   rw[← this] at h;exact h1' h
  ·have:=lx (lxs out x) (lxs out z) (lxs out y) h (by omega)
   exact h1' this
theorem uu {G:Nat→Prop}{w:World}:∀(out:List (List Int)) (cs:List Value),Cells (slE intE) G w out cs→cs.length=out.length∧∀i (h:i<out.length),∃v,cs[i]?=some v∧(Dv (slE intE) G (lxs out i)).p v w
 | [],cs,h=>by cases h;exact⟨rfl,fun i h=>absurd h (Nat.not_lt_zero _)⟩
 | xs::out,cs,h=>by
  obtain⟨c,d,rfl,⟨v,rfl,h1⟩,h2⟩:=h
  obtain⟨q1,q2⟩:=uu out d h2
  refine⟨by simp[q1],fun i hi=>?_⟩
  cases i with
  | zero=>exact⟨v,rfl,[v],⟨v,rfl,h1⟩,rfl⟩
  | succ i=>
   obtain⟨u,k1,k2⟩:=q2 i (by simpa using hi)
   exact⟨u,by simpa using k1,k2⟩
theorem uv {G:Nat→Prop}{w:World}:∀(out:List (List Int)) (vs:List Value),vs.length=out.length→(∀i (h:i<out.length),∃v,vs[i]?=some v∧(Dv (slE intE) G (lxs out i)).p v w)→Cells (slE intE) G w out vs
 | [],vs,h,_=>List.length_eq_zero_iff.1 h
 | xs::out,[],h,_=>by cases h
 | xs::out,v::vs,h,hh=>by
  obtain⟨u,k1,cs,⟨z,k2,k3⟩,k4⟩:=hh 0 (by simp)
  obtain rfl:v=u:=by simpa using k1
  subst k2
  have k4':v=z:=k4
  subst k4'
  refine⟨[v],vs,rfl,⟨v,rfl,k3⟩,uv out vs (by simpa using h) fun i hi=>?_⟩
  obtain⟨u,m1,m2⟩:=hh (i+1) (by simpa using hi)
  exact⟨u,by simpa using m1,m2⟩
theorem a3B {N:Nat}{G:Nat→Prop}{w:World}{out:List (List Int)}{v:Value}(Ho:OwX (slE intE) 35 N G w out v)(hl:out.length≤100000)(hle:∀xs∈out,xs.length≤100000) :
  Calls Tryz.prog 66 #[v,.func (.func 67) #[] #[]] w fun en w'=>en=.returned (.tuple #[])∧Chg (fun b=>v.ownBlock=some b) w w'∧∃out',out'.Perm out∧out'.Pairwise (fun x y=>¬br y x<0)∧∀G':Nat→Prop,(∀b,G' b→G b)→(∀b,v.ownBlock=some b→¬G' b)→(Dv (slE (slE intE)) G' out').p v w':=by
 obtain⟨cs,⟨hlen,hv⟩,hcs⟩:=Ho.own
 rcases hv with ⟨rfl,hn⟩|⟨g0,cap,cur,rfl,hB,hheap,hcap,hmax,hcur,htake⟩
 ·have hx:out=[]:=List.length_eq_zero_iff.1 hn
  subst hx
  exact (AnyF.slices_SortFunc_none (L:={ Tryz.sortI with }) none 0 _ w).mono fun en w' ⟨h2,h3⟩=>by
   subst h3
   exact⟨h2,Chg.rfl' _ _,[],List.Perm.refl _,List.Pairwise.nil,fun _ _ _=>Dv.nil⟩
 ·have hk1:(slE intE).k=1:=rfl
  rw[hk1,Nat.mul_one] at hcur htake
  obtain⟨c1,c2⟩:=uu out cs hcs
  obtain⟨enc,henc⟩:∃enc:Nat→Value,enc=fun i=>(cs[i]?).getD (.slice none 0 0):=⟨_,rfl⟩
  have hdat:∀i,(Dv (slE intE) (GO G (.slice (some ⟨g0,0,none⟩) out.length cap)) (lxs out i)).p (enc i) w:=fun i=>by
   by_cases hi:i<out.length
   ·obtain⟨u,k1,k2⟩:=c2 i hi
    rw[henc]
    show (Dv _ _ _).p ((cs[i]?).getD _) w
    rw[k1];exact k2
   ·rw[henc,lxs,List.getElem?_eq_none (by omega)]
    show (Dv _ _ _).p ((cs[i]?).getD _) w
    rw[List.getElem?_eq_none (by omega)];exact Dv.nil
  have hlx:∀i,(lxs out i).length≤100000:=fun i=>by
   rw[lxs]
   cases h:out[i]? with
   | none=>exact Nat.zero_le _
   | some xs=>exact hle xs (List.mem_of_getElem? h)
  have h1:OneCell enc:=fun i=>Dv.slOne (hdat i)
  obtain⟨d,hd⟩:∃d:Array Nat,d=Array.range out.length:=⟨_,rfl⟩
  have hds:d.size=out.length:=by rw[hd];simp
  have hdj:∀j,j<out.length→d[j]! = j:=fun j hj=>by rw[hd,getElem!_pos _ j (by simpa using hj)];simp
  have hB1:Blk w g0 cur 35:=hheap
  have hH:Holds enc w g0 0 d:=by
   intro j hj
   rw[hds] at hj
   obtain⟨u,k1,k2⟩:=c2 j hj
   have hcj:cur[j]?=some (enc j):=by
    have:(cur.toList.take out.length)[j]?=cs[j]?:=by rw[htake]
    rw[List.getElem?_take,if_pos hj,Array.getElem?_toList,k1] at this
    rw[this,henc]
    show some u=some ((cs[j]?).getD _)
    rw[k1];rfl
   refine⟨by rw[Nat.zero_add,hB1.cell,hcj,hdj j hj],by simp[World.frozen?,hheap]⟩
  have hblk:g0<w.heap.size:=hB1.lt
  have hchg:∀(m:Nat) (dk:Array Nat) (os:Array Obj),Chg (fun b=>b=g0) w (sortWorld enc w g0 0 m dk os):=fun m dk os=>by
   refine⟨rfl,rfl,rfl,?_,fun b hb hne=>?_⟩
   ·unfold sortWorld grow putRow mapBlock
    simp[Sort.ahead]
   ·unfold sortWorld grow putRow mapBlock
    simp only
    rw[Array.getElem?_append_left (by simpa[Sort.ahead] using hb),Array.getElem?_modify,if_neg (fun h=>hne h.symm)]
    rfl
  have hdat2:∀i w',Chg (fun b=>b=g0) w w'→(Dv (slE intE) (GO G (.slice (some ⟨g0,0,none⟩) out.length cap)) (lxs out i)).p (enc i) w':=fun i w' c=>Dv.ch (hdat i) c fun b hb=>by rw[hb];exact .inr rfl
  have hcmp:CmpLays1 Tryz.prog 67 #[] enc (lcf out) g0 0 d.size w:=fun m os dk hdk x y=>by
   have c:=hchg m dk os
   refine (MonoD.cmpZ_spec (lxs out x) (lxs out y) (enc x) (enc y) _ (MonoD.slC_of (hdat2 x _ c)) (MonoD.slC_of (hdat2 y _ c)) (hlx x)).mono ?_
   rintro en w' ⟨u,k1,k2,k3⟩
   cases k3
   exact⟨k1,k2.grown⟩
  have hsz2:d.size<4611686018427387904:=by rw[hds];omega
  have hS:=Any.slices_SortFunc Tryz.sortI enc h1 (lcf out) (a3A out) 67 #[] g0 0 cap d w ww hcmp hH hblk hsz2
  rw[hds] at hS
  refine hS.mono ?_
  rintro en w' ⟨h2,d',n,os,hp,hs,rfl⟩
  have hds':d'.size=out.length:=by rw[← hds];exact hp.1
  have hperm:d'.toList.Perm (List.range out.length):=by
   have:=hp.2.2
   rw[Array.extract_eq_self_of_le (by rw[hds'];exact Nat.le_refl _),Array.extract_eq_self_of_le (by rw[hds];exact Nat.le_refl _)] at this
   rw[hd] at this
   simpa using this
  have c:=hchg n d' os
  refine⟨h2,c.to fun b _ hb=>by rw[hb];rfl,d'.toList.map (lxs out),?_,?_,?_⟩
  ·refine (hperm.map (lxs out)).trans <| List.Perm.of_eq (List.ext_getElem? fun i=>?_)
   rw[List.getElem?_map]
   by_cases hi:i<out.length
   ·rw[List.getElem?_range hi,Option.map_some,lxs,List.getElem?_eq_getElem hi];rfl
   ·rw[List.getElem?_eq_none (by simpa using hi),List.getElem?_eq_none (by omega)];rfl
  ·rw[List.pairwise_map,List.pairwise_iff_getElem]
   intro i j hi hj hij
   simp only[Array.length_toList] at hi hj
   have:=hs i j (Nat.zero_le _) hij (by rw[← hds'];exact hj)
   rw[getElem!_pos d' j hj,getElem!_pos d' i hi] at this
   have h3:=of_decide_eq_false this
   simpa[lcf] using h3
  ·intro G' hG1 hG2
   have hh:(sortWorld enc w g0 0 n d' os).heap[g0]?=some (.cells (putCells enc 0 d' cur) 35 (0,0)):=by
    unfold sortWorld grow putRow mapBlock
    simp only
    rw[Array.getElem?_append_left (by simpa[Sort.ahead] using hblk),Array.getElem?_modify,if_pos rfl]
    have:(Sort.ahead w n).heap[g0]?=some (Obj.cells cur 35 (0,0)):=hheap
    rw[this];rfl
   have hlm:(d'.toList.map (lxs out)).length=out.length:=by rw[List.length_map,Array.length_toList,hds']
   refine Dv.sl.2 (.inr ⟨⟨g0,0,none⟩,cap,d'.toList.map enc,by rw[hlm],by rw[hlm];exact hcap,hG2 g0 rfl,Nat.lt_of_lt_of_le hblk c.size,?_,?_⟩)
   ·refine uv _ _ (by simp) fun i hi=>?_
    rw[hlm] at hi
    have hid:i<d'.size:=by rw[hds'];exact hi
    refine⟨enc d'[i],by rw[List.getElem?_map,Array.getElem?_toList,Array.getElem?_eq_getElem hid];rfl,?_⟩
    have:lxs (d'.toList.map (lxs out)) i=lxs out d'[i]:=by
     rw[lxs,List.getElem?_map,Array.getElem?_toList,Array.getElem?_eq_getElem hid];rfl
    rw[this]
    exact Dv.weak (hdat2 _ _ c) fun b _ hb=>.inl (hG1 b hb)
   ·intro i u hu
    have hB2:Blk (sortWorld enc w g0 0 n d' os) g0 (putCells enc 0 d' cur) 35:=hh
    rw[Addr.add_lit,Nat.zero_add,hB2.cell]
    rw[List.getElem?_map,Array.getElem?_toList] at hu
    have hid:i<d'.size:=by
     refine Classical.byContradiction fun hn=>?_
     rw[Array.getElem?_eq_none (by omega)] at hu;cases hu
    rw[Array.getElem?_eq_getElem hid] at hu
    have hic:i<cur.size:=by rw[hcur];omega
    rw[putCells,Array.getElem?_mapIdx,Array.getElem?_eq_getElem hic,Option.map_some,if_pos ⟨Nat.zero_le _,by omega⟩,Nat.sub_zero,getElem!_pos d' i hid]
    exact hu
end Go.Mono
namespace Go.Mono
open Go Go.Proofs Go.RowKit Go.Gr
open Go.MonoD (br)
def gW (x:List Int):List (List Int)→List (List Int)
 | []=>[x]
 | y::l=>if br x y≤0 then x::y::l else y::gW x l
def jw (l:List (List Int)):List (List Int):=l.foldr gW []
theorem nR (x:List Int):∀l,(gW x l).Perm (x::l)
 | []=>List.Perm.refl _
 | y::l=>by
  rw[gW];split
  ·exact List.Perm.refl _
  ·exact ((nR x l).cons y).trans (List.Perm.swap x y l)
theorem uw:∀l,(jw l).Perm l
 | []=>List.Perm.refl _
 | x::l=>(nR x _).trans ((uw l).cons x)
theorem a3C {x y z:List Int}(h:¬br y x<0)(h':¬br z y<0):¬br z x<0:=fun hh=>by
 have n1:=jv x y
 by_cases hz:br x y=0
 ·have:=lw _ _ hz
  rw[this] at hh;exact h' hh
 ·exact h' (lx z x y hh (by omega))
theorem ux (x:List Int):∀l,l.Pairwise (fun x y=>¬br y x<0)→(gW x l).Pairwise (fun x y=>¬br y x<0)
 | [],_=>List.pairwise_singleton _ _
 | y::l,h=>by
  obtain⟨h1,h2⟩:=List.pairwise_cons.1 h
  have n1:=jv x y
  rw[gW];split
  ·rename_i hc
   refine List.pairwise_cons.2 ⟨fun z hz=>?_,h⟩
   rcases List.mem_cons.1 hz with rfl|hz
   ·omega
   ·exact a3C (by omega) (h1 z hz)
  ·rename_i hc
   refine List.pairwise_cons.2 ⟨fun z hz=>?_,ux x l h2⟩
   rcases List.mem_cons.1 ((nR x l).mem_iff.1 hz) with rfl|hz
   ·omega
   ·exact h1 z hz
theorem uy:∀l,(jw l).Pairwise (fun x y=>¬br y x<0)
 | []=>List.Pairwise.nil
 | x::l=>ux x _ (uy l)
theorem a3D {l m:List (List Int)}(hp:m.Perm l)(hs:m.Pairwise fun x y=>¬br y x<0):m=jw l:=by
 refine List.Perm.eq_of_pairwise (le:=fun x y=>¬br y x<0) (fun a b _ _ h1 h2=>?_) hs (uy l) (hp.trans (uw l).symm)
 have n1:=jv a b
 exact lw _ _ (by omega)
theorem a3E {P:Program}{w0:World}{L:Env}{dst:Option Tmp}{ty:TypeId}{pos:String}{aft:Array Edge}{g:Option (Nat×Bool)}{fn:Fn}{x1 x2 x3 x4 x5 x6:Operand}{v1 v2 v3 v4 v5 v6:Value}(h1:opd L x1=some (E v1))(h2:opd L x2=some (E v2))(h3:opd L x3=some (E v3))(h4:opd L x4=some (E v4))(h5:opd L x5=some (E v5))(h6:opd L x6=some (E v6)) :
  OpC P w0 L ⟨dst,.makeFunc fn #[] #[x1,x2,x3,x4,x5,x6],ty,pos,aft,g⟩ (E (.func fn #[] #[v1,v2,v3,v4,v5,v6])):=
 aR fun ρ w _ hv=>⟨_,by
  have a1:=opE hv (x:=x1) (by simp[Op.operands]) h1
  have a2:=opE hv (x:=x2) (by simp[Op.operands]) h2
  have a3:=opE hv (x:=x3) (by simp[Op.operands]) h3
  have a4:=opE hv (x:=x4) (by simp[Op.operands]) h4
  have a5:=opE hv (x:=x5) (by simp[Op.operands]) h5
  have a6:=opE hv (x:=x6) (by simp[Op.operands]) h6
  simp[execOp,Instr.makeFunc,a1,a2,a3,a4,a5,a6],rfl⟩
def gd (nb:Int→BS)(f:Nat)(s:BcS)(id:Nat):BcS:=if lkI s.la (id:Int)=0 then bcF nb f id (-1) s else s
def gX (nb:Int→BS)(s:BcS)(id:Nat):BcS:=if nb (id:Int)=0 then { s with out:=s.out++[[(id:Int)]] } else s
def bcN (nb:Int→BS)(f:Nat)(s:BcS)(id:Nat):BcS:=gX nb (gd nb f s id) id
def nS (nb:Int→BS)(V:BS):List (List Int):=jw ((ah V).foldl (bcN nb (card V)) ⟨[],[],[],[]⟩).out
theorem BcI.mono {V:BS}{c c':Nat}{s:BcS}(h:BcI V c s)(hc:c≤c'):BcI V c' s:=⟨h.ka,h.va,h.na,h.kl,h.vl,h.nl,h.w,h.wm,by have:=h.o;omega⟩
theorem a3F {V:BS}{c:Nat}{s:BcS}{nb:Int→BS}{id:Nat}(hV:∀i j:Nat,(nb (i:Int)).getLsbD j=true→V.getLsbD j=true)(h:BcI V c s)(hid:V.getLsbD id=true):BcI V c (gd nb (card V) s id):=by
 rw[gd];split
 ·rename_i hz
  exact (nL hV (card V) id (-1) s h hid (by omega) (by rw[unv,← cF];exact List.length_filter_le _ _)).i
 ·exact h
theorem a3G {V:BS}{c:Nat}{s:BcS}{nb:Int→BS}{id:Nat}(h:BcI V c s):BcI V (c+1) (gX nb s id):=by
 rw[gX];split
 ·exact⟨h.ka,h.va,h.na,h.kl,h.vl,h.nl,h.w,h.wm,by
   show (s.out++[_]).length≤s.la.length+(c+1)
   rw[List.length_append,List.length_singleton];have:=h.o;omega⟩
 ·exact h.mono (Nat.le_succ c)
def OL (s:BcS):Prop:=∀xs∈s.out,xs.length≤1024
theorem uz {s:List (List Int)}{x:List Int}(h:∀xs∈s,xs.length≤1024)(hx:x.length≤1024):∀xs∈s++[x],xs.length≤1024:=fun xs hm=>by
 rcases List.mem_append.1 hm with hm|hm
 ·exact h xs hm
 ·rw[List.mem_singleton.1 hm];exact hx
theorem a3H (nb:Int→BS):∀(f id:Nat) (frm:Int) (s:BcS),OL s→OL (bcF nb f id frm s):=by
 intro f
 induction f with
 | zero=>intro id frm s h;exact h
 | succ f ih=>
  intro id frm s h
  have key:∀(l:List Nat) (s':BcS),OL s'→OL (l.foldl (bcT (bcF nb f) id frm) s'):=by
   intro l
   induction l with
   | nil=>intro s' h';exact h'
   | cons x l ihl=>
    intro s' h'
    refine ihl _ ?_
    have h2:OL (bcM id x (bcF nb f x (id:Int) s')):=ih x (id:Int) s' h'
    rw[bcT]
    split
    ·exact h'
    split
    ·exact h'
    split
    ·exact uz h2 (kQ _)
    ·exact h2
  exact key _ (bcP id s) h
theorem a3I (nb:Int→BS)(f:Nat):∀(l:List Nat) (s:BcS),OL s→OL (l.foldl (bcN nb f) s):=by
 intro l
 induction l with
 | nil=>intro s h;exact h
 | cons x l ihl=>
  intro s h
  refine ihl _ ?_
  have h2:OL (gd nb f s x):=by
   rw[gd];split
   ·exact a3H nb f x (-1) s h
   ·exact h
  rw[bcN,gX];split
  ·exact uz h2 (Nat.succ_le_of_lt (Nat.zero_lt_succ _))
  ·exact h2
structure BcO (l:List (Int×BS))(V:BS)(bm nm ba bl bw bg bd bo ma ml N:Nat)(G K:Nat→Prop)(W:World)(s:BcS)(vw vo:Value)(w:World):Prop where
 h:BcW l V bm nm ba bl bw bg bd bo ma ml N G s vw vo w
 e:Ext W w
 own:∀b,OWN vw vo b→¬K b
theorem a3J {G:Nat→Prop}{N0:Nat}(g:GT)(ok:Gr.Ok g)(v:Value)(W:World)(hT:Tab W)(h:(Dv (ptE (grE N0)) G (some g)).p v W)(hl1:g.1.length≤100000)(hl2:g.2.length≤100000)(hN0:N0≤1000000) :
  Calls Tryz.prog 19 #[v] W (Post (Dv (slE (slE intE)) Go.Mono.G0 (nS (nbA g) (aj g.1))) W):=by
 have hgd:(Dv (ptE (grE N0)) Go.Mono.G0 (some g)).p v W:=Dv.weak h fun b _ hb=>hb.elim
 have hnV:=iR ok
 obtain⟨l,hl⟩:∃l,l=nbL g (ah (aj g.1)):=⟨_,rfl⟩
 have hnb:nbA g=lkS l:=by rw[hl,nbA]
 rw[hnb] at hnV ⊢
 obtain⟨V,hV⟩:∃V,V=aj g.1:=⟨_,rfl⟩
 rw[← hV] at hnV ⊢
 have hT0:=hT.lt
 refine dN (args:=[v]) (As:=[E v]) Tryz.func19 rfl Tryz.ntmps19 (Nat.le_of_ble_eq_true rfl) ?_ (fun a hf=>?_) (Nat.le_of_ble_eq_true rfl)
 ·exact arg1 rfl
 dsimp only[params,Nat.reduceAdd] at hf
 have e:=Ext.rfl' W
 refine seq <| ac <| bu hf rfl (by decide) fun a hf=>aa ?_
 have e0:=e
 refine seq <| aZ 2 hf (by decide +kernel) <| st (mv rfl) <| st (aA (A:=cu l V 1024) ew rfl (fun v w he k=>by cases k;rw[hl,hV];exact jg g ok _ w (hT.ext he) (VA.st _ _ _ _ (Ext.tr e0 he) hgd) hl1 hl2 hN0)) ?_
 refine en fun a w e' hf=>?_
 replace hT:=hT.ext e'
 replace e:=e.tr e'
 obtain⟨av,⟨mq,rfl,HV0⟩,hf⟩:=hf.opn 11 rfl
 obtain⟨cs,⟨bm,nm,rfl,_,hnm,HM⟩,hmq⟩:=HV0
 replace hmq:mq=.map (some bm):=hmq
 subst hmq
 obtain⟨N1,hN1⟩:∃N1,N1=w.heap.size:=⟨_,rfl⟩
 have hN1s:N1≤w.heap.size:=Nat.le_of_eq hN1
 have hbm:bm<N1:=by rw[hN1];exact HM.lt
 have hWN1:W.heap.size≤N1:=by rw[hN1];exact e.size
 replace hf:=hf.kp [11]
 refine eP I79 hf (by decide) fun a b3 w e' hb3 hs3 B3 hf=>?_
 have hle3:=Nat.le_trans e.size (Nat.le_of_eq hb3.symm)
 have lo3_hN1s:=Nat.le_trans hN1s (Nat.le_of_eq hb3.symm)
 replace hT:=hT.ext e'
 replace HM:=HM.ext e'
 replace hN1s:=Nat.le_trans hN1s e'.size
 replace e:=e.tr e'
 have n3:N1≤b3:=lo3_hN1s
 refine aG T79 hf rfl rfl (cG _ _) B3 rfl (aM _ _) fun w hg hsz B3 hf=>?_
 replace e:=e.gr hg (by omega);replace hT:=hT.gr hg (by omega);replace HM:=HM.gr hg (fun h=>by cases h;omega);replace hN1s:=Nat.le_trans hN1s hg.size;clear hg
 refine aa ?_
 have l3:=B3.lt
 replace hf:=hf.kp [3]
 refine seq <| ac <| eP I39 hf (by decide) fun a b4 w e' hb4 hs4 B4 hf=>?_
 have hle4:=Nat.le_trans e.size (Nat.le_of_eq hb4.symm)
 have lt4_B3:=B3.lt
 replace hT:=hT.ext e'
 replace HM:=HM.ext e'
 replace e:=e.tr e'
 replace B3:=B3.ext e'
 refine aa ?_
 replace B4:Blk w b4 #[.slice none 0 0] 39:=B4
 have n4:b3<b4:=by omega
 have l4:=B4.lt
 replace hf:=hf.kp [3,4]
 refine seq <| ac <| ez iKV hf (by decide) fun a ma w e' hma hsa MA hf=>?_
 replace e:=e.tr e';replace hT:=hT.ext e';replace HM:=HM.ext e';replace B3:=B3.ext e';replace B4:=B4.ext e';clear e'
 have n5:b4<ma:=by omega
 refine ez iKV hf (by decide) fun a ml w e' hml hsl ML hf=>?_
 replace e:=e.tr e';replace hT:=hT.ext e';replace HM:=HM.ext e';replace B3:=B3.ext e';replace B4:=B4.ext e';replace MA:=MA.ext e';clear e'
 have n6:ma<ml:=by omega
 have lml:=ML.lt
 obtain⟨N2,hN2⟩:∃N2,N2=w.heap.size:=⟨_,rfl⟩
 have hN2s:N2≤w.heap.size:=Nat.le_of_eq hN2
 have hml2:ml<N2:=by omega
 refine eP I43 hf (by decide) fun a b5 w e' hb5 hs5 B5 hf=>?_
 have hle5:=Nat.le_trans e.size (Nat.le_of_eq hb5.symm)
 have lo5_hN2s:=Nat.le_trans hN2s (Nat.le_of_eq hb5.symm)
 replace hT:=hT.ext e'
 replace HM:=HM.ext e'
 replace MA:=MA.ext e'
 replace ML:=ML.ext e'
 replace hN2s:=Nat.le_trans hN2s e'.size
 replace e:=e.tr e'
 replace B3:=B3.ext e'
 replace B4:=B4.ext e'
 refine eP I43 hf (by decide) fun a b6 w e' hb6 hs6 B6 hf=>?_
 have lo6_hN2s:=Nat.le_trans hN2s (Nat.le_of_eq hb6.symm)
 have lt6_B3:=B3.lt
 have lt6_B4:=B4.lt
 replace hT:=hT.ext e'
 replace HM:=HM.ext e'
 replace MA:=MA.ext e'
 replace ML:=ML.ext e'
 replace hN2s:=Nat.le_trans hN2s e'.size
 replace e:=e.tr e'
 replace B3:=B3.ext e'
 replace B4:=B4.ext e'
 replace B5:=B5.ext e'
 have n7:N2≤b5:=lo5_hN2s
 have n8:N2≤b6∧b5<b6:=⟨lo6_hN2s,by omega⟩
 replace hf:=hf.kp [3,4,5,6,12,13]
 refine aO T43 hf rfl rfl rfl B5 Nat.zero_lt_one fun w hg hsz B5 hf=>?_
 replace e:=e.gr hg (by omega);replace hT:=hT.gr hg (by omega);replace HM:=HM.gr hg (fun h=>by cases h;omega);replace MA:=MA.gr hg (fun h=>by cases h;omega);replace ML:=ML.gr hg (fun h=>by cases h;omega);replace B3:=B3.gr hg (by omega);replace B4:=B4.gr hg (by omega);replace B6:=B6.gr hg (by omega);clear hg
 refine aO T43 hf rfl rfl rfl B6 Nat.zero_lt_one fun w hg hsz B6 hf=>?_
 replace e:=e.gr hg (by omega);replace hT:=hT.gr hg (by omega);replace HM:=HM.gr hg (fun h=>by cases h;omega);replace MA:=MA.gr hg (fun h=>by cases h;omega);replace ML:=ML.gr hg (fun h=>by cases h;omega);replace B3:=B3.gr hg (by omega);replace B4:=B4.gr hg (by omega);replace B5:=B5.gr hg (by omega);clear hg
 refine aa ?_
 replace B5:Blk w b5 #[.map (some ma)] 43:=B5
 replace B6:Blk w b6 #[.map (some ml)] 43:=B6
 have l6:=B6.lt
 replace hf:=hf.keep [3,4,5,6]
 refine seq <| ac <| eP I35 hf (by decide) fun a b7 w e' hb7 hs7 B7 hf=>?_
 replace hT:=hT.ext e'
 replace HM:=HM.ext e'
 replace MA:=MA.ext e'
 replace ML:=ML.ext e'
 replace e:=e.tr e'
 replace B3:=B3.ext e'
 replace B4:=B4.ext e'
 replace B5:=B5.ext e'
 replace B6:=B6.ext e'
 refine aa ?_
 replace B7:Blk w b7 #[.slice none 0 0] 35:=B7
 have n9:b6<b7:=by omega
 have l7:=B7.lt
 replace hf:=hf.keep [3,4,5,6,7]
 refine seq <| ac <| eP I95 hf (by decide) fun a b8 w e' hb8 hs8 B8 hf=>?_
 replace hT:=hT.ext e'
 replace HM:=HM.ext e'
 replace MA:=MA.ext e'
 replace ML:=ML.ext e'
 replace e:=e.tr e'
 replace B3:=B3.ext e'
 replace B4:=B4.ext e'
 replace B5:=B5.ext e'
 replace B6:=B6.ext e'
 replace B7:=B7.ext e'
 refine aa ?_
 have n10:b7<b8:=by omega
 replace hf:=hf.kp [3,4,5,6,7,8]
 refine seq <| aZ 1 hf (by decide +kernel) <| st (a3E rfl rfl rfl rfl rfl rfl) <| en fun a w e' hf=>?_
 replace hT:=hT.ext e'
 replace HM:=HM.ext e'
 replace MA:=MA.ext e'
 replace ML:=ML.ext e'
 replace e:=e.tr e'
 replace B3:=B3.ext e'
 replace B4:=B4.ext e'
 replace B5:=B5.ext e'
 replace B6:=B6.ext e'
 replace B7:=B7.ext e'
 replace B8:=B8.ext e'
 refine aO T95 hf rfl rfl rfl B8 Nat.zero_lt_one fun w hg hsz B8 hf=>?_
 replace e:=e.gr hg (by omega);replace hT:=hT.gr hg (by omega);replace HM:=HM.gr hg (fun h=>by cases h;omega);replace MA:=MA.gr hg (fun h=>by cases h;omega);replace ML:=ML.gr hg (fun h=>by cases h;omega);replace B3:=B3.gr hg (by omega);replace B4:=B4.gr hg (by omega);replace B5:=B5.gr hg (by omega);replace B6:=B6.gr hg (by omega);replace B7:=B7.gr hg (by omega);clear hg
 refine aa ?_
 replace B8:Blk w b8 #[bcV b5 b6 b7 b3 b8 b4] 95:=B8
 have l8:=B8.lt
 obtain⟨N,hN⟩:∃N,N=w.heap.size:=⟨_,rfl⟩
 have D:BcD bm b5 b6 b7 b3 b8 b4 ma ml N:=⟨by omega,by omega,by omega,by omega,by omega⟩
 have hWb:W.heap.size≤b3:=by omega
 have H:BcW l V bm nm b5 b6 b7 b3 b8 b4 ma ml N (fun b=>b=b7∨b=b4∨b=ma∨b=ml) ⟨[],[],[],[]⟩ (.slice none 0 0) (.slice none 0 0) w:=
  ⟨hT,HM,B5,B6,B7,B3,B8,B4,MA,ML,OwR.nil intE _ (Nat.le_of_eq hN) fun b hb=>hb.elim,OwX.nil _ _ (Nat.le_of_eq hN)⟩
 have hI0:BcI V 0 ⟨[],[],[],[]⟩:=⟨(fun p hp=>by cases hp),(fun p hp=>by cases hp),List.Pairwise.nil,(fun p hp=>by cases hp),(fun p hp=>by cases hp),List.Pairwise.nil,Nat.le_refl _,(fun p hp=>by cases hp),Nat.le_refl _⟩
 replace hf:=hf.kp [3,4,5,6,7,8]
 obtain⟨Nz,hNz⟩:∃Nz,Nz=w.heap.size:=⟨_,rfl⟩
 repeat refine seq ?_
 refine aZ 3 hf (by decide +kernel) <| st (dH Tryz.underlying79 rfl T76 (by decide) rfl) <| st ((ldP T76 rfl H.pg (by rw[aM];decide)).eq (congrArg Value.agg (bX V (.map (some bm))))) ?_
 refine st (aA (A:=db Nz V) di rfl (fun v w' he h=>by cases h;exact Calls.mono (dq _ w') (fun en w2 ⟨u,h1,h2,b',h3,h4,h5⟩=>⟨u,h1,h2,b',by have:=he.size;omega,h4,h5⟩))) ?_
 refine en fun a w e' hf=>?_
 replace H:=H.ext e'
 replace e:=e.tr e'
 refine aa ?_
 obtain⟨vv,⟨b17,h17,rfl,BS⟩,hf⟩:=hf.fix 17 rfl
 replace hf:=hf.kp [3,4,5,6,7,8,17]
 have hBW:W.heap.size≤w.heap.size:=e.size
 have hNB:N≤w.heap.size:=H.ow.base
 obtain⟨G,hG⟩:∃G:Nat→Prop,G=fun b=>(b=b7∨b=b4∨b=ma∨b=ml)∨aW w.heap.size b:=⟨_,rfl⟩
 have hGs:G b7∧G b4∧G ma∧G ml:=by rw[hG];exact⟨.inl (.inl rfl),.inl (.inr (.inl rfl)),.inl (.inr (.inr (.inl rfl))),.inl (.inr (.inr (.inr rfl)))⟩
 have hGh:∀b,aW w.heap.size b→G b:=fun b hb=>by rw[hG];exact .inr hb
 have hGl:∀b,G b→b<w.heap.size+3:=fun b hb=>by
  rw[hG] at hb
  rcases hb with hb|hb
  ·omega
  ·exact hb.2
 have hO0:BcO l V bm nm b5 b6 b7 b3 b8 b4 ma ml N G (aW w.heap.size) W ⟨[],[],[],[]⟩ (.slice none 0 0) (.slice none 0 0) w:=⟨H.weak fun b hb hh=>by
   rw[hG] at hh
   rcases hh with hh|hh
   ·exact hh
   ·have:=hh.1;omega,e,fun b hb=>by rcases hb with hb|hb <;> cases hb⟩
 obtain⟨nb,hnb'⟩:∃nb,nb=lkS l:=⟨_,rfl⟩
 rw[← hnb'] at hnV ⊢
 refine blk <| dx (S:=V) hf rfl BS (by decide) (fun sl w1=>(∃vw vo,BcO l V bm nm b5 b6 b7 b3 b8 b4 ma ml N G (aW w.heap.size) W (sl.foldl (bcN nb (card V)) ⟨[],[],[],[]⟩) vw vo w1)∧BcI V sl.length (sl.foldl (bcN nb (card V)) ⟨[],[],[],[]⟩)) (fun _ _=>False) (fun sl w1 ⟨⟨_,_,h⟩,_⟩=>h.h.t)
  ⟨⟨_,_,hO0⟩,hI0⟩ (fun sl w1 w2 ⟨⟨v1,v2,h⟩,hq⟩ hs k=>⟨⟨v1,v2,h.h.ch D k.chg (fun b hb=>Nat.le_trans hNB hb.1) h.own hGh,h.e.kp k hBW,h.own⟩,hq⟩) (fun _ _ _ h=>h.elim) ?_ ?_ (fun _ _ _ _ _ _ h=>h.elim)
 ·intro lp sl' x rest a1 w1 hs hJ hlw hf
  have hxV:V.getLsbD x=true:=(aC.1 (by rw[hs];simp)).2
  have hx1024:x<1024:=az hxV
  have hsl:sl'.length≤1024:=by have:=ey V;rw[hs] at this;simp at this;omega
  have hwx:(Lit.int .i64 (x:Int)).wf=true:=bK (by omega) (by omega)
  generalize hBz:w.heap.size=Bz at *
  refine ac <| bu hf rfl (by decide) fun a hf=>aa <| ⟨Kh.rfl' _ _,fun w3 k3 hsz3=>?_⟩
  obtain⟨⟨vx,vy,hJ⟩,hq⟩:=hJ
  have hJ3:BcO l V bm nm b5 b6 b7 b3 b8 b4 ma ml N G (aW Bz) W (sl'.foldl (bcN nb (card V)) ⟨[],[],[],[]⟩) vx vy w3:=⟨hJ.h.ch D k3.chg (fun b hb=>Nat.le_trans hNB hb.1) hJ.own hGh,hJ.e.kp k3 hBW,hJ.own⟩
  have hw3:Bz+3≤w3.heap.size:=by omega
  replace hf:=hf.pure w3
  obtain⟨H,e,hown⟩:=hJ3
  have kh:=Kh.rfl' Bz w3
  have hstep:((sl'++[x]).foldl (bcN nb (card V)) ⟨[],[],[],[]⟩)=bcN nb (card V) (sl'.foldl (bcN nb (card V)) ⟨[],[],[],[]⟩) x:=by rw[List.foldl_append];rfl
  obtain⟨sx,hsx⟩:∃sx,sx=sl'.foldl (bcN nb (card V)) ⟨[],[],[],[]⟩:=⟨_,rfl⟩
  rw[← hsx] at H hq hstep
  obtain⟨s2,hs2⟩:∃s2,s2=gd nb (card V) sx x:=⟨_,rfl⟩
  have hq2:BcI V sl'.length s2:=by rw[hs2];exact a3F hnV hq hxV
  obtain⟨tgt,htgt⟩:∃tgt,tgt=gX nb s2 x:=⟨_,rfl⟩
  have hq3:BcI V (sl'++[x]).length tgt:=by rw[htgt,List.length_append,List.length_singleton];exact a3G hq2
  have fin:∀v1 v2 w1,BcO l V bm nm b5 b6 b7 b3 b8 b4 ma ml N G (aW Bz) W tgt v1 v2 w1→(∃v1 v2,BcO l V bm nm b5 b6 b7 b3 b8 b4 ma ml N G (aW Bz) W ((sl'++[x]).foldl (bcN nb (card V)) ⟨[],[],[],[]⟩) v1 v2 w1)∧BcI V (sl'++[x]).length ((sl'++[x]).foldl (bcN nb (card V)) ⟨[],[],[],[]⟩):=fun v1 v2 w1 h1=>by
   rw[hstep,bcN,← hs2,← htgt];exact⟨⟨v1,v2,h1⟩,hq3⟩
  have hal2:=hq2.al
  have hol2:=hq2.o
  have dn:=D.n
  have hgo:∀b,aW Bz b→¬(b=b7∨b=b4∨b=ma∨b=ml):=fun b hb hh=>by have:=hb.1;omega
  rw[gd] at hs2
  have hlkx:lkS l (x:Int)=nb (x:Int):=by rw[hnb']
  replace hf:=hf.keep [3,4,5,6,7,8,9]
  refine blk ?_
  repeat refine seq ?_
  refine aZ 4 hf (by decide +kernel) <| st (ld1 (v:=.map (some ma)) T43 rfl H.pa rfl) <| st (mv rfl) <| st (dD Tryz.underlying43 rfl H.ma rfl hwx) <| st (eql rfl rfl) <| en fun a w e' hf=>?_
  replace H:=H.ext e'
  replace kh:=kh.tr (Kh.ext e')
  replace e:=e.tr e'
  refine aa <| cut (J:=fun a w=>Fr 39 a w [(3,E (ptr b3)),(4,E (ptr b4)),(9,E (I (x:Nat)))]∧Ext W w∧Kh Bz w3 w∧(∃vx vy,BcW l V bm nm b5 b6 b7 b3 b8 b4 ma ml N G s2 vx vy w∧∀b,OWN vx vy b→¬aW Bz b)) ?_ (fun a w hJ=>?_)
  ·by_cases hz:lkI sx.la (x:Int)=0
   ·rw[if_pos hz] at hs2
    rw[show (lkI sx.la (x:Int)==0)=true by rw[hz];rfl] at hf
    refine ifc hf rfl (fun _=>?_) (fun h=>by cases h)
    replace hf:=hf.keep [3,4,5,6,7,8,9]
    refine aZ 2 hf (by decide +kernel) <| st (ld1 (v:=bcV b5 b6 b7 b3 b8 b4) T95 rfl H.pd rfl) <| st (mv rfl) <| en fun a w e' hf=>?_
    replace H:=H.ext e'
    replace kh:=kh.tr (Kh.ext e')
    replace e:=e.tr e'
    replace hf:=hf.kp [3,4,5,6,7,8,9,23,24]
    refine ii (S:=SBc b7 b4 ma ml vx vy) (F:=fun w'=>∃vw' vo',BcW l V bm nm b5 b6 b7 b3 b8 b4 ma ml N G (bcF (lkS l) (card V) x (-1) sx) vw' vo' w'∧∀b,OWN vw' vo' b→OWN vx vy b∨w.heap.size≤b) (A:=E (.tuple #[])) hf (by decide) pz rfl ?_ fun a w2 hc HF hf=>?_
    ·have e24:a.eval (.tmp 24)=I (x:Nat):=hf.opd (.tmp 24) _ rfl
     have eC:a.eval (.const (I (-1)))=I (-1):=rfl
     simp only[List.map_toArray,List.map_cons,List.map_nil,e24,eC]
     exact (a3z D (c0:=sl'.length) (by omega) (by omega) (by rw[← hnb'];exact hnV) (card V) x (-1) sx vx vy G _ (fun b hb=>by have h1:=hGl b hb;have h2:=kh.size;omega) hGs H hq hxV (by omega) (by rw[unv,← cF];exact List.length_filter_le _ _)).mono fun en w' ⟨k1,v1,v2,k2,k3,k4⟩=>⟨_,k1,k2,rfl,v1,v2,k3,k4⟩
    obtain⟨vx2,vy2,H2,hnew⟩:=HF
    rw[← hnb',← hs2] at H2
    have hwsz:=kh.size
    have hlt:∀b,OWN vx vy b→W.heap.size≤b:=fun b hb=>hb.elim (fun h=>by have:=(H.ow.lt h).1;omega) fun h=>by have:=(H.oo.lt h).1;omega
    replace e:=e.ch hc fun b hb=>by
     rcases hb with hb|hb
     ·omega
     ·exact hlt b hb
    replace kh:=kh.tr (Kh.chg hc fun b hb hh=>by
     rcases hb with hb|hb
     ·exact hgo b hh hb
     ·exact hown b hb hh)
    have hown2:∀b,OWN vx2 vy2 b→¬aW Bz b:=fun b hb=>by
     rcases hnew b hb with h|h
     ·exact hown b h
     ·exact fun hh=>by have:=hh.2;omega
    refine aa ?_
    replace hf:=hf.kp [3,4,9]
    exact⟨rfl,hf,e,kh,vx2,vy2,H2,hown2⟩
   ·rw[if_neg hz] at hs2
    rw[show (lkI sx.la (x:Int)==0)=false from beq_eq_false_iff_ne.2 hz] at hf
    refine ifc hf rfl (fun h=>by cases h) (fun _=>?_)
    refine ak ?_
    simp only[Exit.then,Exit.inBlock,↓reduceIte]
    replace hf:=hf.kp [3,4,9]
    rw[← hs2] at H
    exact⟨trivial,hf,e,kh,vx,vy,H,hown⟩
  obtain⟨hf,e,kh,vx2,vy2,H,hown⟩:=hJ
  rw[gX] at htgt
  obtain⟨nx,hnx⟩:∃nx,nx=nb (x:Int):=⟨_,rfl⟩
  rw[← hnx] at htgt hlkx
  have hdv:=MpR.dvE H.m (Nat.le_refl nm) (G:=Go.Mono.G0) (fun h=>h)
  refine seq <| aZ 5 hf (by decide +kernel) <| st (dH Tryz.underlying79 rfl T77 (by decide) rfl) <| st (ld1 (v:=.map (some bm)) T77 rfl H.pg (bN _ _)) <| st (mv rfl) <| st ((lkM (l:=l) (i:=(x:Int)) Tryz.underlying77 ce (isE rfl hdv) rfl hwx).eq (congrArg ae hlkx)) <| st (aA (A:=E (B (nx==0))) (B:=E (ae nx)) dM rfl (fun v w he h=>by cases h;exact iz _ w)) ?_
  refine en fun a w e' hf=>?_
  replace H:=H.ext e'
  replace kh:=kh.tr (Kh.ext e')
  replace e:=e.tr e'
  refine aa ?_
  replace hf:=hf.kp [3,4,9,30]
  by_cases hz:nx=0
  ·rw[if_pos hz] at htgt
   rw[show (nx==0)=true from beq_iff_eq.2 hz] at hf
   refine ifc hf rfl (fun _=>?_) (fun h=>by cases h)
   replace hf:=hf.kp [3,4,9]
   have hkz:=kh.size
   have hgo2:∀b,GO (fun b=>G b∨vx2.ownBlock=some b) vy2 b→b<w.heap.size:=fun b hb=>by
    rcases hb with (hb|hb)|hb
    ·have:=hGl b hb;omega
    ·exact (H.ow.lt hb).2
    ·exact (H.oo.lt hb).2
   have hlt:∀b,vy2.ownBlock=some b→W.heap.size≤b:=fun b hb=>by have:=(H.oo.lt hb).1;omega
   have hesz:=e.size
   refine aZ 4 hf (by decide +kernel) <| st (ld1 (v:=vy2) T39 rfl H.po rfl) <| st (mv rfl) <| st (aY (e:=intE) (G:=GO (fun b=>G b∨vx2.ownBlock=some b) vy2) Tryz.underlying35 I3 rfl (by decide) rfl hgo2 (isI rfl)) <| st (aY (e:=slE intE) (G:=GO (fun b=>G b∨vx2.ownBlock=some b) vy2) Tryz.underlying39 I35 rfl (by decide) rfl hgo2 (isR rfl)) <| en fun a w e' hf=>?_
   replace H:=H.ext e'
   replace kh:=kh.tr (Kh.ext e')
   replace e:=e.tr e'
   replace hf:=hf.kp [3,4,9,31,34]
   refine lV Tryz.underlying39 I35 rfl rfl hf (by decide) rfl H.oo (isR rfl) (by simp only[List.length_singleton];omega) (by simp only[List.length_singleton,maxLen];omega) fun a vy3 w' hg hat Hn hf=>?_
   have Bo:=H.po.gro hg (fun h=>by have:=(H.oo.lt h).1;omega)
   have hksz:=kh.size
   replace hf:=hf.kp [3,4,9,35]
   refine aO T39 hf rfl rfl Hn.one Bo Nat.zero_lt_one fun w2 hg2 hsz Bo hf=>?_
   have hown3:∀b,OWN vx2 vy3 b→¬aW Bz b:=fun b hb=>by
    rcases hb with hb|hb
    ·exact hown b (.inl hb)
    ·rcases hat with h|h
     ·exact hown b (.inr (by rw[← h];exact hb))
     ·rw[h] at hb;cases hb
      exact fun hh=>by have:=hh.2;omega
   replace H:BcW l V bm nm b5 b6 b7 b3 b8 b4 ma ml N G tgt vx2 vy3 w2:=by rw[htgt];exact H.setO D hg Hn hg2 Bo hGs.2.1
   replace e:=(e.gro hg hlt).gr hg2 (by omega)
   replace kh:=(kh.tr (Kh.gro hg fun b hb hh=>hown b (.inr hb) hh)).tr (Kh.gr hg2 fun hh=>hgo _ hh (.inr (.inl rfl)))
   refine aa ?_
   simp only[Exit.inBlock]
   exact⟨fin _ _ _ ⟨H,e,hown3⟩,kh⟩
  ·rw[if_neg hz] at htgt
   rw[show (nx==0)=false from beq_eq_false_iff_ne.2 hz] at hf
   refine ifc hf rfl (fun h=>by cases h) (fun _=>?_)
   refine ak ?_
   rw[← htgt] at H
   exact⟨fin _ _ _ ⟨H,e,hown⟩,kh⟩
 ·intro a' w' hf' hJ hsz hDn
  simp only[Exit.inBlock,↓reduceIte,Exit.then]
  obtain⟨⟨vx,vy,⟨H',e',hown⟩⟩,hq⟩:=hJ
  have hD:Ds [w.heap.size] w':=(Ds.nil w').cons hDn (by simp)
  have hf:FrD 39 (bS [w.heap.size]) a' w' [(4,E (ptr b4))]:=hf'.keep [4]
  have hDW:∀d∈[w.heap.size],W.heap.size≤d:=fun d hd=>by rw[List.mem_singleton] at hd;omega
  have hlv:=hq.o
  have hal:=hq.al
  have hvl:=ey V
  have dn:=D.n
  rw[nS]
  obtain⟨sx,hsx⟩:∃sx,sx=(ah V).foldl (bcN nb (card V)) ⟨[],[],[],[]⟩:=⟨_,rfl⟩
  have hln:∀xs∈sx.out,xs.length≤100000:=fun xs hx=>by
   rw[hsx] at hx
   have:=a3I nb (card V) (ah V) ⟨[],[],[],[]⟩ (fun xs hx=>by cases hx) xs hx
   omega
  rw[← hsx] at H' hlv hal ⊢
  have hodn:∀b,vy.ownBlock=some b→¬b∈[w.heap.size]:=fun b hb hd=>by
   rw[List.mem_singleton] at hd
   exact hown b (.inr hb) (by rw[hd];exact⟨Nat.le_refl _,by omega⟩)
  have h4d:¬b4∈[w.heap.size]:=fun hd=>by rw[List.mem_singleton] at hd;omega
  have H:=H'
  have e:=e'
  have hGD:∀d∈[w.heap.size],G d:=fun d hd=>by rw[List.mem_singleton] at hd;rw[hd];exact hGh _ ⟨Nat.le_refl _,by omega⟩
  generalize [w.heap.size]=D2 at *
  generalize w'=w at *
  refine seq <| aZ 1 hf (by decide +kernel) <| st (ld1 (v:=vy) T39 rfl H.po rfl) <| en fun a w e' hf=>?_
  replace H:=H.ext e'
  replace e:=e.tr e'
  replace hD:=hD.ext e'
  replace hf:=hf.kp [4,36]
  refine eW (S:=fun b=>vy.ownBlock=some b) (F:=fun z w'=>(Dv (slE (slE intE)) (fun b=>b∈D2) (jw sx.out)).p vy w') hf (by decide) wu ?_ fun a z w2 hc hF hf=>?_
  ·have e36:a.eval (.tmp 36)=vy:=hf.opd (.tmp 36) _ rfl
   have eF:a.eval (.func 67)=.func (.func 67) #[] #[]:=rfl
   simp only[List.map_toArray,List.map_cons,List.map_nil,e36,eF]
   exact (a3B H.oo (by omega) hln).mono fun en w' ⟨k1,k2,out',k3,k4,k5⟩=>⟨_,k1,k2,by rw[← a3D k3 k4];exact k5 _ (fun b hb=>.inl (hGD b hb)) hodn⟩
  have B4:=H.po.ch hc (fun h=>by have:=(H.oo.lt h).1;omega)
  replace hD:=hD.ch hc fun d hd h=>hodn d h hd
  replace e:=e.ch hc fun b hb=>by have:=(H.oo.lt hb).1;omega
  generalize w2=w at *
  refine aa ?_
  replace hf:=hf.kp [4]
  refine seq <| aZ 1 hf (by decide +kernel) <| st (ld1 (v:=vy) T39 rfl B4 rfl) <| en fun a w e' hf=>?_
  replace hF:=Dv.ex hF e'
  replace e:=e.tr e'
  replace B4:=B4.ext e'
  replace hD:=hD.ext e'
  refine bu hf rfl (by decide) fun a hf=>aa <| am <| jY rfl hf rfl hD ⟨_,rfl,e.shut hDW,?_⟩
  exact Dv.weak (Dv.ch hF (ea D2 w) fun b hb=>hb) fun b _ hb=>hb.elim
end Go.Mono
namespace Go.Mono
open Go Go.Proofs Go.RowKit Go.Gr
def knV:List VT:=[(1,(0,0)),(2,(0,0)),(3,(0,0)),(4,(0,0)),(5,(0,0))]
def knE:List ET:=[((1,2),(0,0)),((2,3),(0,0)),((3,4),(0,0)),((1,4),(0,0)),((4,5),(0,0))]
def knG:GT:=(knV,[((1,2),(0,0)),((1,4),(0,0)),((2,3),(0,0)),((3,4),(0,0)),((4,5),(0,0))])
def knL:List (Int×BS):=[(1,20#1024),(2,10#1024),(3,20#1024),(4,42#1024),(5,16#1024)]
theorem a3K:Gr.Ok knG:=a0k (by decide +kernel)
theorem a3L:(match ee knV knE with
 | some g=>g.1.isPerm knG.1&&g.2.isPerm knG.2
 | none=>false)=true:=by decide +kernel
theorem a3M:nbL knG (ah (aj knG.1))=knL:=by decide +kernel
theorem ft:aj knG.1=62#1024:=by decide +kernel
theorem uA:esN knG=[(1,2),(1,4),(2,3),(3,4),(4,5)]:=by decide +kernel
theorem eL:nbA knG=lkS knL:=by rw[nbA,a3M]
theorem a3N:((prF (nbA knG) (card (aj knG.1)) (aj knG.1)).map elL)=[[1,2,3,4,5]]:=by
 rw[eL,ft];decide +kernel
theorem a3O:(brF knG).map toI=[(4,5)]:=by
 rw[brF,eL,uA];decide +kernel
theorem a3P:ai (cvF knG)=[4]:=by
 rw[cvF,eL,ft];decide +kernel
theorem a3Q:nS (nbA knG) (aj knG.1)=[[1,2,3,4],[4,5]]:=by
 rw[eL,ft];decide +kernel
theorem a3R:ai (bpL (nbA knG) (aj knG.1))=[1,3,5]:=by
 rw[eL,ft];decide +kernel
theorem a3S:bpB (nbA knG) (aj knG.1)=true:=by
 rw[eL,ft];decide +kernel
theorem a3T:kY (nbA knG) (aj knG.1) (esN knG)=some [1,2,3,4]:=by
 rw[eL,ft,uA];decide +kernel
theorem a3U:fq (nbA knG) (aj knG.1)=none:=by
 rw[eL,ft];decide +kernel
theorem a3V:ai (spF knG 2 4)=[2,1,4]:=by
 rw[spF,dsF,eL,ft];decide +kernel
theorem a3W:∀x∈knV,okD (dV x):=by
 intro x hx
 simp only[knV,List.mem_cons,List.not_mem_nil,or_false] at hx
 rcases hx with rfl|rfl|rfl|rfl|rfl <;> exact⟨by decide,by decide,by decide,by decide⟩
theorem a3X:∀x∈knE,okD (dE x):=by
 intro x hx
 simp only[knE,List.mem_cons,List.not_mem_nil,or_false] at hx
 rcases hx with rfl|rfl|rfl|rfl|rfl <;> exact⟨by decide,by decide,by decide,by decide⟩
theorem a3Y:∃g',ee knV knE=some g'∧g'.1.Perm knG.1∧g'.2.Perm knG.2:=by
 have h:=a3L
 cases hb:ee knV knE with
 | none=>rw[hb] at h;cases h
 | some g=>
  rw[hb] at h
  simp only[Bool.and_eq_true,List.isPerm_iff] at h
  exact⟨g,rfl,h.1,h.2⟩
theorem uB (W:World)(hT:Tab W):Calls Tryz.prog 12 #[] W (Post (E (B true)) W):=by
 have hT0:=hT.lt
 have ok:=a3K
 have gs1:=ok.sv
 have gs2:=ok.se
 have l1:knG.1.length≤100000:=by decide
 have l2:knG.2.length≤100000:=by decide
 have lN:2000≤1000000:=by decide
 have hVl:knV.length=5:=rfl
 refine enter (args:=[]) (As:=([]:List VA)) Tryz.func12 rfl Tryz.ntmps12 (Nat.le_of_ble_eq_true rfl) (fun i A h=>by simp at h) (fun a hf=>?_) (Nat.le_of_ble_eq_true rfl)
 have e:=Ext.rfl' W
 refine seq <| ac <| tA hf rfl fun a hf=>aa <| seq <| ac <| tA hf rfl fun a hf=>aa ?_
 repeat refine seq ?_
 refine ac <| tA hf rfl fun a hf=>aa ?_
 replace hf:=hf.keep [0,1,2]
 refine blk (aL (fun r0 a w=>∃(k:Nat) (u:Value),r0=5 - k∧k≤5∧Fr 90 a w [(0,E (B false)),(1,E u),(2,E (I ((k+1:Nat):Int)))]∧Ext W w∧Tab w∧OwR vtE 73 W.heap.size G0 w (knV.take k) u) 5 ⟨0,.slice none 0 0,rfl,by omega,hf,e,⟨hT,OwR.nil vtE _ e.size fun b hb=>hb.elim⟩⟩ ?_)
 rintro r0 a w ⟨k,u,rfl,hk,hf,e,hT,H1⟩
 repeat refine seq ?_
 refine rgN 2 hf <| st (mv rfl) <| st (leq rfl rfl) <| en fun a w e' hf=>?_
 obtain⟨hT,H1,e⟩:=up3 e' hT H1 e
 refine aa <| ifc hf rfl (fun hc=>ak ?_) (fun hc=>aK ?_)
 rotate_left
 rotate_left
 ·have hlt:k<5:=by have:=of_decide_eq_true hc;(try dsimp only at this);omega
  replace hf:=hf.kp [0,1,2]
  refine seq <| blk ?_
  have hx:knV[k]?=some ((((k+1:Nat):Int)),(0,0)):=by
   have:∀k<5,knV[k]?=some ((((k+1:Nat):Int)),(0,0)):=by decide
   exact this k hlt
  have hlk:=List.length_take_le k knV
  refine rgN 4 hf <| st (mv rfl) <| st (mv rfl) <| st (a0e _ rfl) <| st (aY U66 I73 rfl (by decide) rfl H1.avs (eZ rfl)) <| en fun a w e' hf=>?_
  obtain⟨hT,H1,e⟩:=up3 e' hT H1 e
  haveI hin:∀G0,InR (GB W G0) _:=OwR.inGB (W:=W) H1 (Nat.le_refl _)
  refine bE U66 I73 rfl rfl hf (by decide) rfl H1 (isR rfl) (by simp only[List.length_singleton];omega) (by simp only[List.length_singleton,maxLen];omega) fun a v w hg hat Hn hf=>?_
  replace e:=e.gro hg (H1.row (W:=W) (Nat.le_refl _))
  have hrow:=H1.row (W:=W) (Nat.le_refl _)
  replace hT:=hT.gro hg (fun b hb=>by have:=(H1.lt hb).1;omega)
  replace H1:=Hn
  replace H1:=Hn;clear Hn hg hat hin
  refine tA hf rfl fun a hf=>aa ?_
  rw[← bA hx] at H1
  replace hf:=hf.keep [0,1,2]
  refine rgN 2 hf <| st (mv rfl) <| st ((add rfl rfl (by omega)).eq (congrArg I (show ((k+1:Nat):Int)+1=((k+1+1:Nat):Int) from rfl))) <| en fun a w e' hf=>?_
  obtain⟨hT,H1,e⟩:=up3 e' hT H1 e
  refine tA hf rfl fun a hf=>aa ?_
  replace hf:=hf.keep [0,1,2]
  exact⟨_,by omega,k+1,_,rfl,by omega,hf,e,hT,H1⟩
 ·obtain rfl:k=5:=by have:=of_decide_eq_false hc;(try dsimp only at this);omega
  rw[List.take_of_length_le (by omega)] at H1
  replace hf:=hf.keep [0,1]
  refine seq <| rgN 11 hf <| st (mv rfl) <| st (iO 1 2 rfl rfl) <| st (iO 2 3 rfl rfl) <| st (iO 3 4 rfl rfl) <| st (iO 1 4 rfl rfl) <| st (iO 4 5 rfl rfl) <| st (fK (e:=etE) (G:=G0) (zs:=knE) (xs:=[.tmp 18,.tmp 19,.tmp 20,.tmp 21,.tmp 22]) U61 I62 rfl rfl (by decide) (by decide) rfl (fun b hb=>hb.elim) ⟨dh rfl,dh rfl,dh rfl,dh rfl,dh rfl,trivial⟩) <| st (ap (A:=Tup [Dv (ptE (grE 2000)) G0 (some knG),E (I 0)]) (C:=Dv (slE etE) G0 knE) pr rfl rfl (fun v u w he k1 k2=>by cases k1;exact a0d knV knE knG a3Y a3W a3X _ _ w (VA.st _ _ _ _ he H1.sl) k2 (by decide) (by decide) (fun b hb=>hb.elim))) ?_
  refine st (mv rfl) <| st (bj rfl rfl) <| st (bj rfl rfl) <| en fun a w e' hf=>?_
  obtain⟨hT,H1,e⟩:=up3 e' hT H1 e
  refine tA hf rfl fun a hf=>tA hf rfl fun a hf=>aa ?_
  obtain⟨gv,hgv,hf⟩:=hf.opn 3 rfl
  obtain⟨W1,hW1⟩:∃W1,W1=w:=⟨_,rfl⟩
  have e1:Ext W1 w:=by rw[hW1];exact Ext.rfl' _
  replace hgv:(Dv (ptE (grE 2000)) G0 (some knG)).p gv W1:=by rw[hW1];exact hgv
  replace hf:=hf.keep [0,3,4]
  repeat refine seq ?_
  refine rgN 6 hf <| st (mv rfl) <| st (eU U26 (isE rfl (VA.st _ _ _ _ e1 hgv))) <| st (mv rfl) <| sy rfl rfl (mv rfl) <| sy rfl rfl (neq rfl rfl) <| st (pkF rfl rfl) <| en fun a w e' hf=>?_
  obtain⟨hT,e1,e⟩:=up3 e' hT e1 e
  refine aa <| ifc hf rfl (fun h=>by cases h) (fun _=>?_)
  refine ak ?_
  have e9:=e1
  refine seq <| rgN 5 hf <| st (mv rfl) <| st (aA (A:=Tup [Dv (slE intE) G0 [1,3,5],E (B true)]) pk rfl (fun v w he k=>by cases k;have:=tJ knG ok gv w (hT.ext he) (VA.st _ _ _ _ (Ext.tr e9 he) hgv) l1 l2 lN;rwa [a3R,a3S] at this)) ?_
  refine st (mv rfl) <| st (bj rfl rfl) <| st (bj rfl rfl) <| en fun a w e' hf=>?_
  obtain⟨hT,e1,e⟩:=up3 e' hT e1 e
  refine tA hf rfl fun a hf=>tA hf rfl fun a hf=>aa ?_
  replace hf:=hf.keep [0,3,5,6]
  have d1:(decide (([[1,2,3,4,5]]:List (List Int))=[[1,2,3,4,5]]))=true:=by decide
  have d2:(decide (([(4,5)]:List (Int×Int))=[(4,5)]))=true:=by decide
  have d3:(decide (([4]:List Int)=[4]))=true:=by decide
  have d4:(decide (([[1,2,3,4],[4,5]]:List (List Int))=[[1,2,3,4],[4,5]]))=true:=by decide
  have d5:(decide (([1,3,5]:List Int)=[1,3,5]))=true:=by decide
  have d6:(decide (([1,2,3,4]:List Int)=[1,2,3,4]))=true:=by decide
  have d7:(decide (([2,1,4]:List Int)=[2,1,4]))=true:=by decide
  have ec:=e1
  refine seq <| rgN 52 hf <| st (mv rfl) <| st (aA (A:=Dv (slE (slE intE)) G0 [[1,2,3,4,5]]) vZ rfl (fun v w he k=>by cases k;have:=a1z knG gv w (hT.ext he) (VA.st _ _ _ _ (Ext.tr ec he) hgv) gs1 gs2 l1 l2 lN;rwa [a3N] at this)) ?_
  refine st (fK (e:=intE) (G:=G0) (zs:=[1,2,3,4,5]) (xs:=[.const (I 1),.const (I 2),.const (I 3),.const (I 4),.const (I 5)]) U35 I3 rfl rfl (by decide) (by decide) rfl (fun b hb=>hb.elim) ⟨isI rfl,isI rfl,isI rfl,isI rfl,isI rfl,trivial⟩) <| st (aY (e:=slE intE) (G:=G0) U39 I35 rfl (by decide) rfl (fun b hb=>hb.elim) (isR rfl)) <| st (ap (A:=E (B true)) pj rfl rfl (fun v u w he k k'=>by have:=sN [[1,2,3,4,5]] [[1,2,3,4,5]] v u w k k' (by decide) (by decide) (by decide) (by decide);rwa [d1] at this)) ?_
  refine st (mv rfl) <| sy rfl rfl (mv rfl) <| sy rfl rfl (aA (A:=Dv (slE edE) G0 [(4,5)]) vW rfl (fun v w he k=>by cases k;have:=a2F knG ok gv w (hT.ext he) (VA.st _ _ _ _ (Ext.tr ec he) hgv) l1 l2 lN;rwa [a3O] at this)) ?_
  refine sy rfl rfl ((bJ [(0,_),(1,_)] rfl (bPr (4,5))).eq ((rfl:_=edV (4,5)))) <| sy rfl rfl (aY (e:=edE) (G:=G0) U31 I60 rfl (by decide) rfl (fun b hb=>hb.elim) (isE rfl (Dv.pr2.2 rfl))) <| sy rfl rfl (ap (A:=E (B true)) vV rfl rfl (fun v u w he k k'=>by have:=a1K [(4,5)] [(4,5)] v u w k k' (by decide) (by decide);rwa [d2] at this)) ?_
  refine st (pkT rfl rfl) <| st (mv rfl) <| sy rfl rfl (mv rfl) <| sy rfl rfl (aA (A:=Dv (slE intE) G0 [4]) vX rfl (fun v w he k=>by cases k;have:=a2I knG ok gv w (hT.ext he) (VA.st _ _ _ _ (Ext.tr ec he) hgv) l1 l2 lN;rwa [a3P] at this)) ?_
  refine sy rfl rfl (aY (e:=intE) (G:=G0) U35 I3 rfl (by decide) rfl (fun b hb=>hb.elim) (isI rfl)) <| sy rfl rfl (ap (A:=E (B true)) fB rfl rfl (fun v u w he k k'=>by have:=fU [4] [4] v u w k k' (by decide) (by decide);rwa [d3] at this)) ?_
  refine st (pkT rfl rfl) <| st (mv rfl) <| sy rfl rfl (mv rfl) <| sy rfl rfl (aA (A:=Dv (slE (slE intE)) G0 [[1,2,3,4],[4,5]]) vY rfl (fun v w he k=>by cases k;have:=a3J knG ok gv w (hT.ext he) (VA.st _ _ _ _ (Ext.tr ec he) hgv) l1 l2 lN;rwa [a3Q] at this)) ?_
  refine sy rfl rfl (fK (e:=intE) (G:=G0) (zs:=[1,2,3,4]) (xs:=[.const (I 1),.const (I 2),.const (I 3),.const (I 4)]) U35 I3 rfl rfl (by decide) (by decide) rfl (fun b hb=>hb.elim) ⟨isI rfl,isI rfl,isI rfl,isI rfl,trivial⟩) <| sy rfl rfl (qe (e:=intE) (G:=G0) U35 I3 rfl (by decide) rfl (fun b hb=>hb.elim) (isI rfl) (isI rfl)) <| sy rfl rfl (qe (e:=slE intE) (G:=G0) U39 I35 rfl (by decide) rfl (fun b hb=>hb.elim) (isR rfl) (isR rfl)) <| sy rfl rfl (ap (A:=E (B true)) pj rfl rfl (fun v u w he k k'=>by have:=sN [[1,2,3,4],[4,5]] [[1,2,3,4],[4,5]] v u w k k' (by decide) (by decide) (by decide) (by decide);rwa [d4] at this)) ?_
  refine st (pkT rfl rfl) <| st (mv rfl) <| sy rfl rfl (mv rfl) <| sy rfl rfl (qf (e:=intE) (G:=G0) U35 I3 rfl (by decide) rfl (fun b hb=>hb.elim) (isI rfl) (isI rfl) (isI rfl)) <| sy rfl rfl (ap (A:=E (B true)) fB rfl rfl (fun v u w he k k'=>by have:=fU [1,3,5] [1,3,5] v u w k k' (by decide) (by decide);rwa [d5] at this)) ?_
  refine st (pkT rfl rfl) <| st (mv rfl) <| sy rfl rfl (mv rfl) <| st (pkT rfl rfl) <| st (mv rfl) <| sy rfl rfl (mv rfl) <| sy rfl rfl (aA (A:=Dv (slE intE) G0 [1,2,3,4]) wi rfl (fun v w he k=>by cases k;have:=a2f knG ok gv w (hT.ext he) (VA.st _ _ _ _ (Ext.tr ec he) hgv) l1 l2 lN;rw[a3T] at this;exact this.mono fun en w' ⟨u,k1,k2,k3⟩=>⟨u,k1,k2,k3.2⟩)) ?_
  refine sy rfl rfl (fK (e:=intE) (G:=G0) (zs:=[1,2,3,4]) (xs:=[.const (I 1),.const (I 2),.const (I 3),.const (I 4)]) U35 I3 rfl rfl (by decide) (by decide) rfl (fun b hb=>hb.elim) ⟨isI rfl,isI rfl,isI rfl,isI rfl,trivial⟩) <| sy rfl rfl (ap (A:=E (B true)) fB rfl rfl (fun v u w he k k'=>by have:=fU [1,2,3,4] [1,2,3,4] v u w k k' (by decide) (by decide);rwa [d6] at this)) ?_
  refine st (pkT rfl rfl) <| st (mv rfl) <| sy rfl rfl (mv rfl) <| sy rfl rfl (aA (A:=E (.slice none 0 0)) pm rfl (fun v w he k=>by cases k;have:=tH knG ok gv w (hT.ext he) (VA.st _ _ _ _ (Ext.tr ec he) hgv) l1 l2 lN;rw[a3U] at this;exact this)) ?_
  refine sy rfl rfl (lU U35 rfl) <| sy rfl rfl ((eql rfl rfl).eq (congrArg Value.bool (show (((0:Nat):Int)==0)=true from rfl))) <| st (pkT rfl rfl) <| st (mv rfl) <| sy rfl rfl (mv rfl) <| sy rfl rfl (bZ (A:=Dv (slE intE) G0 [2,1,4]) wg rfl rfl rfl (fun v u s w he k k' k''=>by cases k;cases k';cases k'';have:=a2M knG ok 2 4 gv w (hT.ext he) (VA.st _ _ _ _ (Ext.tr ec he) hgv) l1 l2 lN;rwa [a3V] at this)) ?_
  refine sy rfl rfl (qf (e:=intE) (G:=G0) U35 I3 rfl (by decide) rfl (fun b hb=>hb.elim) (isI rfl) (isI rfl) (isI rfl)) <| sy rfl rfl (ap (A:=E (B true)) fB rfl rfl (fun v u w he k k'=>by have:=fU [2,1,4] [2,1,4] v u w k k' (by decide) (by decide);rwa [d7] at this)) ?_
  refine st (pkT rfl rfl) <| en fun a w e' hf=>?_
  obtain⟨hT,e1,e⟩:=up3 e' hT e1 e
  refine tA hf rfl fun a hf=>aa <| am <| an rfl hf rfl ?_
  rintro _ rfl
  exact⟨_,rfl,e,rfl⟩
structure a3Z (g:GT):Prop where
 ok:Gr.Ok g
 l1:g.1.length≤7
 l2:g.2.length≤17
theorem a4a {g:GT}(h:(frM g).2=true)(hV:∀x∈g.1,0≤x.2.1∧x.2.1<256)(hE:∀x∈g.2,0≤x.2.1∧x.2.1<256):a3Z (frM g).1:=by
 by_cases h1:(decide ((7:Int)<(g.1.length:Nat)) || decide ((10:Int)<(g.2.length:Nat)))=true
 ·rw[frM,if_pos h1] at h;cases h
 ·by_cases h2:(ofR g.1 g.2).2≠0
  ·rw[frM,if_neg h1,if_pos h2] at h;cases h
  ·have e:frM g=((ofR g.1 g.2).1,true):=by rw[frM,if_neg h1,if_neg h2]
   have h3:=a0F g.1 g.2
   have h4:=rW (V:=g.1) (E:=g.2) (Decidable.not_not.1 h2)
   rw[Bool.or_eq_true,not_or,decide_eq_true_eq,decide_eq_true_eq] at h1
   rw[e]
   exact⟨rX hV hE,by dsimp only;omega,by dsimp only;omega⟩
theorem uC {g:GT}(ok:Gr.Ok g)(a b:Int):(dsF g a b != -1)=jnF g a b:=by
 rw[dsF,jnF]
 cases ha:has (aj g.1) a with
 | false=>rw[Bool.false_and,if_neg (by decide)];rfl
 | true=>
  cases hb:has (aj g.1) b with
  | false=>rw[if_neg (by decide)];rfl
  | true=>
   rw[Bool.true_and,if_pos rfl,Bool.true_and]
   obtain⟨n,rfl,hn⟩:=ej ha
   obtain⟨m,rfl,hm⟩:=ej hb
   rw[Int.toNat_natCast,Int.toNat_natCast]
   have h1:=a2r (nb:=nbA g) (a:=n) (b:=m)
   have h2:=bT (cpt (nbA g) n) m
   cases hh:has (cpt (nbA g) n) (m:Int) with
   | true=>exact bne_iff_ne.2 fun h=>h1.1 h (h2.1 hh)
   | false=>
    have:dsT (nbA g) n m = -1:=h1.2 fun h=>by rw[h2.2 h] at hh;cases hh
    rw[this];rfl
theorem a4b {g:GT}(ok:Gr.Ok g):(ptF g).length≤g.1.length:=by
 rw[ptF,List.length_map]
 exact Nat.le_trans (List.length_filter_le _ _) (Nat.le_of_eq (eJ ok))
theorem a4c {g:GT}:∀x∈ptF g,x.length≤100000:=fun x hx=>by
 obtain⟨v,_,rfl⟩:=List.mem_map.1 hx
 exact Nat.le_trans (kQ _) (by decide)
theorem a4d {g:GT}(ok:Gr.Ok g){a b:Int}(h:jnF g a b=false):spF g a b=[]:=by
 have:=uC ok a b
 rw[h] at this
 rw[spF,if_pos (by simpa using this)]
theorem a4e {g:GT}(ok:Gr.Ok g){a b:Int}(h:jnF g a b=true):∃n m d:Nat,a=n∧b=m∧(aj g.1).getLsbD n=true∧(aj g.1).getLsbD m=true∧dsT (nbA g) m n=(d:Int)∧dsF g a b=(d:Int)∧d+1≤g.1.length∧spF g a b=n::geF (nbA g) (lvB (nbA g) m) d n:=by
 have h0:=uC ok a b
 rw[h] at h0
 have h1:=h
 rw[jnF,Bool.and_eq_true,Bool.and_eq_true] at h1
 obtain⟨n,rfl,hn⟩:=ej h1.1.1
 obtain⟨m,rfl,hm⟩:=ej h1.1.2
 have h2:dsF g (n:Int) (m:Int) ≠ -1:=by simpa using h0
 have h3:=nI g (n:Int) (m:Int)
 obtain⟨d,hd⟩:∃d:Nat,dsF g (n:Int) (m:Int)=(d:Int):=⟨(dsF g (n:Int) (m:Int)).toNat,by omega⟩
 have h4:dsT (nbA g) m n=(d:Int):=by
  rw[← hd,dsF,h1.1.1,h1.1.2,if_pos (show (true&&true)=true from rfl),Int.toNat_natCast,Int.toNat_natCast]
  exact tc (cU ok) (az hm) (az hn)
 refine⟨n,m,d,rfl,rfl,hn,hm,h4,hd,a2u ok hm h4,?_⟩
 rw[spF,if_neg h2,hd];rfl
theorem a4f (g:GT)(a b:Int):((spF g a b).length:Nat) - (1:Int)=dsF g a b:=by
 have:=nI g a b
 rw[spF]
 split
 ·rename_i h;rw[h];rfl
 ·rw[List.length_cons,nE];omega
theorem a4g {G:Nat→Prop}(g:GT)(ok:Gr.Ok g)(a0 c0:Int)(v:Value)(W:World)(h:(Dv gtE G g).p v W)(hl1:g.1.length≤1000)(hl2:g.2.length≤100000){K:Nat→Prop}(hK:∀b,K b→b<W.heap.size) :
  Calls Tryz.prog 33 #[v,I a0,I c0] W (Post (Dv (slE intE) K (ai (spF g a0 c0))) W):=by
 have hg0:(Dv gtE G0 g).p v W:=Dv.weak h fun b _ hb=>hb.elim
 obtain⟨u1,u2,rfl,h1,h2⟩:=Dv.gt.1 (Dv.weak (G':=G0) h fun b _ hb=>hb.elim)
 refine eN [.agg #[u1,u2],I a0,I c0] [E (.agg #[u1,u2]),E (I a0),E (I c0)] Tryz.func33 Tryz.ntmps33 ?_ fun a hf=>?_
 rotate_left
 rotate_right
 ·exact dj rfl rfl rfl
 have e:=Ext.rfl' W
 refine seq <| ac <| tB hf rfl fun a b3 w v3 hv3 e' hb3 hs3 B3 hf=>?_
 replace e:=e.tr e'
 refine tA hf rfl fun a hf=>aa ?_
 cases hv3
 replace hf:=hf.keep [1,2,3]
 have e1:=e
 have hj7:∀(v u s:Value) (w':World),Ext w w'→v=.agg #[u1,u2]→u=I a0→s=I c0→Calls Tryz.prog 29 #[v,u,s] w' (Post (E (B (jnF g a0 c0))) w'):=fun v u s w' he k1 k2 k3=>by
  cases k1;cases k2;cases k3;exact a3i g ok a0 c0 _ w' (VA.st _ _ _ _ (Ext.tr e1 he) hg0) (by omega) hl2
 cases hj:jnF g a0 c0 with
 | false=>
  rw[hj] at hj7
  rw[a4d ok hj]
  repeat refine seq ?_
  refine rgN 5 hf <| st ((ldW T25 rfl B3 rfl).eq ((rfl:_=Value.agg #[u1,u2]))) <| st (mv rfl) <| st (mv rfl) <| st (bZ (A:=E (B false)) (B:=E (.agg #[u1,u2])) (C:=E (I a0)) (D:=E (I c0)) pq rfl rfl rfl hj7) <| st (aX rfl) <| en fun a w e' hf=>?_
  obtain⟨e,B3⟩:=up2 e' e B3
  refine aa <| ifc hf rfl (fun _=>?_) (fun h=>by cases h)
  refine seq <| ac <| tA hf rfl fun a hf=>aa <| am <| an rfl hf rfl ?_
  rintro _ rfl
  exact⟨_,rfl,e,Dv.sl.2 (.inl ⟨rfl,rfl⟩)⟩
 | true=>
  rw[hj] at hj7
  repeat refine seq ?_
  refine rgN 5 hf <| st ((ldW T25 rfl B3 rfl).eq ((rfl:_=Value.agg #[u1,u2]))) <| st (mv rfl) <| st (mv rfl) <| st (bZ (A:=E (B true)) (B:=E (.agg #[u1,u2])) (C:=E (I a0)) (D:=E (I c0)) pq rfl rfl rfl hj7) <| st (aX rfl) <| en fun a w e' hf=>?_
  obtain⟨e,B3⟩:=up2 e' e B3
  refine aa <| ifc hf rfl (fun h=>by cases h) (fun _=>?_)
  refine ak ?_
  obtain⟨n,m,d,rfl,rfl,hn,hm,hd,_,hdl,hsp⟩:=a4e ok hj
  rw[hsp]
  replace hf:=hf.keep [1,2,3]
  repeat refine seq ?_
  refine ac <| tA hf rfl fun a hf=>aa ?_
  replace hf:=hf.keep [1,2,3,7]
  refine blk (aL (fun r0 a w=>∃f:Nat,f≤d∧r0=d - f∧FrD 30 [] a w [(1,E (I (n:Nat))),(2,E (I (m:Nat))),(3,E (ptr b3)),(7,E (I ((f+1:Nat):Nat)))]∧Ext W w∧Blk w b3 #[u1,u2] 25) d ⟨0,Nat.zero_le _,rfl,hf,e,B3⟩ ?_)
  rintro r0 a w ⟨f,hfd,rfl,hf,e,B3⟩
  repeat refine seq ?_
  refine rgN 5 hf <| st (mv rfl) <| st (fA U25 rfl T22 rfl) <| st (ld1 T22 rfl B3 rfl) <| st (aD U22 (isE rfl (VA.st _ _ _ _ e h1))) <| st ((leq rfl rfl).eq (congrArg Value.bool ((show decide ((((f+1:Nat):Nat):Int)≤((g.1.length:Nat):Int))=true from decide_eq_true (by omega))))) <| en fun a w e' hf=>?_
  obtain⟨e,B3⟩:=up2 e' e B3
  refine aa <| ifc hf rfl (fun _=>ak ?_) (fun h=>by cases h)
  refine seq <| blk ?_
  replace hf:=hf.keep [1,2,3,7]
  have e6:=e
  refine seq <| rgN 6 hf <| st ((ldW T25 rfl B3 rfl).eq ((rfl:_=Value.agg #[u1,u2]))) <| st (mv rfl) <| st (aY (e:=intE) (G:=G0) U35 I3 rfl (by decide) rfl (fun b hb=>hb.elim) (isI rfl)) <| st (mv rfl) <| st (mv rfl) <| st (oE (A:=CyA K (wyF (nbA g) (ah (aj g.1)) m f [n])) (B:=E (.agg #[u1,u2])) (C:=Dv (slE intE) G0 [(n:Int)]) (D:=E (I (m:Nat))) (F:=E (I ((f+1:Nat):Nat))) pE rfl rfl rfl rfl (fun x y z s w' he k1 k2 k3 k4=>by cases k1;cases k3;cases k4;exact a3m g ok (by omega) hl2 m f [n] _ y G0 K w' (fun b hb=>by have:=hK b hb;have:=e6.size;have:=he.size;omega) (VA.st _ _ _ _ (Ext.tr e6 he) hg0) k2 (by simp) (by simp only[List.length_singleton];omega))) ?_
  refine en fun a w e' hf=>?_
  obtain⟨e,B3⟩:=up2 e' e B3
  refine tA hf rfl fun a hf=>aa ?_
  obtain⟨rv,HQ,hf⟩:=hf.opn 8 rfl
  replace hf:=hf.keep [1,2,3,7,8]
  by_cases hlt:f<d
  ·rw[td (az hm) f [n] (.inl (by show (f:Int)<dsT (nbA g) m n;omega)) (cU ok)] at HQ
   obtain rfl:rv=.slice none 0 0:=HQ
   refine seq <| rgN 2 hf <| st (mv rfl) <| st (dB U35 rfl) <| en fun a w e' hf=>?_
   obtain⟨e,B3⟩:=up2 e' e B3
   refine aa <| ifc hf rfl (fun h=>by cases h) (fun _=>?_)
   refine ak <| rgN 2 hf <| st (mv rfl) <| st ((add rfl rfl (by omega)).eq (congrArg (Value.int .i64) (show (((f+1:Nat):Nat):Int)+1=((f+1+1:Nat):Int) from rfl))) <| en fun a w e' hf=>?_
   obtain⟨e,B3⟩:=up2 e' e B3
   refine tA hf rfl fun a hf=>aa ?_
   replace hf:=hf.keep [1,2,3,7]
   refine⟨_,?_,f+1,by omega,rfl,hf,e,B3⟩
   omega
  ·obtain rfl:f=d:=by omega
   rw[a2t (az hm) (cU ok) (iR ok) f [n] hd (fun x hx=>by rw[List.mem_singleton.1 hx,hd];exact Int.le_refl _)] at HQ
   have HQ2:(Dv (slE intE) K (ai (n::geF (nbA g) (lvB (nbA g) m) f n))).p rv w:=HQ.2
   obtain⟨ad,n',c',hre⟩:=fm HQ2 (by simp[ai])
   subst hre
   refine seq <| rgN 2 hf <| st (mv rfl) <| st (dB U35 rfl) <| en fun a w e' hf=>?_
   obtain⟨HQ2,e,B3⟩:=up3 e' HQ2 e B3
   refine aa <| ifc hf rfl (fun _=>?_) (fun h=>by cases h)
   refine seq <| rgN 1 hf <| st (mv rfl) <| en fun a w e' hf=>?_
   obtain⟨HQ2,e,B3⟩:=up3 e' HQ2 e B3
   refine tA hf rfl fun a hf=>aa <| am <| an rfl hf rfl ?_
   rintro _ rfl
   exact⟨_,rfl,e,HQ2⟩
theorem a4h {G:Nat→Prop}(g:GT)(ok:Gr.Ok g)(a0 c0:Int)(v:Value)(W:World)(h:(Dv gtE G g).p v W)(hl1:g.1.length≤1000)(hl2:g.2.length≤100000) :
  Calls Tryz.prog 31 #[v,I a0,I c0] W (Post (E (I (dsF g a0 c0))) W):=by
 have hg0:(Dv gtE G0 g).p v W:=Dv.weak h fun b _ hb=>hb.elim
 obtain⟨u1,u2,rfl,h1,h2⟩:=Dv.gt.1 (Dv.weak (G':=G0) h fun b _ hb=>hb.elim)
 have hsl:((ai (spF g a0 c0)).length:Nat) - (1:Int)=dsF g a0 c0:=by rw[bB];exact a4f g a0 c0
 have hln:(ai (spF g a0 c0)).length≤2000:=by
  have:=nI g a0 c0;have:=tx (nbA g) a0.toNat c0.toNat
  have h3:dsF g a0 c0≤1025:=by rw[dsF];split <;> omega
  omega
 refine eN [.agg #[u1,u2],I a0,I c0] [E (.agg #[u1,u2]),E (I a0),E (I c0)] Tryz.func31 Tryz.ntmps31 ?_ fun a hf=>?_
 rotate_left
 rotate_right
 ·exact dj rfl rfl rfl
 have e:=Ext.rfl' W
 refine seq <| ac <| tB hf rfl fun a b3 w v3 hv3 e' hb3 hs3 B3 hf=>?_
 replace e:=e.tr e'
 refine tA hf rfl fun a hf=>aa ?_
 cases hv3
 replace hf:=hf.keep [1,2,3]
 have e1:=e
 refine seq <| rgN 6 hf <| st ((ldW T25 rfl B3 rfl).eq ((rfl:_=Value.agg #[u1,u2]))) <| st (mv rfl) <| st (mv rfl) <| st (bZ (A:=Dv (slE intE) G0 (ai (spF g a0 c0))) (B:=E (.agg #[u1,u2])) (C:=E (I a0)) (D:=E (I c0)) wh rfl rfl rfl (fun v u s w he k1 k2 k3=>by cases k1;cases k2;cases k3;exact a4g g ok _ _ _ w (VA.st _ _ _ _ (Ext.tr e1 he) hg0) hl1 hl2 (fun b hb=>hb.elim))) ?_
 refine st (aD U35 (isR rfl)) <| st ((sub rfl rfl (by omega)).eq (congrArg I hsl)) <| en fun a w e' hf=>?_
 obtain⟨e,B3⟩:=up2 e' e B3
 refine tA hf rfl fun a hf=>aa <| am <| an rfl hf rfl ?_
 rintro _ rfl
 exact⟨_,rfl,e,rfl⟩
section
variable {nb:Int→BS}
theorem nT {V:BS}{s r:List Nat}{x i:Nat}(h:ah V=s++x::r):(V &&& bh V s).getLsbD i=true↔V.getLsbD i=true∧x≤i:=by
 have hsl:∀y∈s,y<1024:=fun y hy=>(aC.1 (by rw[h];simp[hy])).1
 have hp:=fj V
 rw[h] at hp
 obtain⟨_,p2,p3⟩:=List.pairwise_append.1 hp
 rw[cC,sX s _ _ hsl]
 constructor
 ·rintro⟨h1,_,h2⟩
  refine⟨h1,?_⟩
  have hm:i∈s++x::r:=by rw[← h];exact aC.2 ⟨az h1,h1⟩
  rcases List.mem_append.1 hm with h3|h3
  ·exact absurd h3 h2
  ·rcases List.mem_cons.1 h3 with h3|h3
   ·omega
   ·exact Nat.le_of_lt ((List.pairwise_cons.1 p2).1 i h3)
 ·rintro⟨h1,h2⟩
  exact⟨h1,h1,fun h3=>by have:=p3 i h3 x (by simp);omega⟩
theorem jy (hs:∀i j:Nat,(nb (i:Int)).getLsbD j=true→(nb (j:Int)).getLsbD i=true)(S:BS):∀i j:Nat,(bQ nb S (i:Int)).getLsbD j=true→(bQ nb S (j:Int)).getLsbD i=true:=fun i j h=>by
 obtain⟨h1,h2,h3⟩:=fW.1 h
 exact fW.2 ⟨h3,hs i j h2,h1⟩
theorem CyL.mono {nb':Int→BS}{c:List Nat}(h:CyL nb c)(hm:∀i j:Nat,(nb (i:Int)).getLsbD j=true→(nb' (i:Int)).getLsbD j=true):CyL nb' c:=⟨h.three,h.inj,fun i hi=>hm _ _ (h.adj i hi),hm _ _ h.last⟩
theorem CyL.at {c:List Nat}(h:CyL nb c){i:Nat}(hi:i<c.length):∃j,(nb (c.getD i 0:Nat)).getLsbD j=true:=by
 by_cases h1:i+1<c.length
 ·exact⟨_,h.adj i h1⟩
 ·have:=h.last
  rw[show c.length - 1=i by omega] at this
  exact⟨_,this⟩
theorem CyL.rev (hs:∀i j:Nat,(nb (i:Int)).getLsbD j=true→(nb (j:Int)).getLsbD i=true){c:List Nat}(h:CyL nb c):∃d,CyL nb d∧d.length=c.length∧d.getD 0 0=c.getD 0 0∧d.getD 1 0=c.getD (c.length - 1) 0:=by
 have h3:=h.three
 obtain⟨p,hp⟩:∃p:Nat→Nat,p=fun i=>if i=0 then c.getD 0 0 else c.getD (c.length - i) 0:=⟨_,rfl⟩
 have hg:∀i,i<c.length→((List.range c.length).map p).getD i 0=p i:=fun i hi=>by
  rw[List.getD_eq_getElem?_getD,List.getElem?_map,List.getElem?_range hi];rfl
 have hl:((List.range c.length).map p).length=c.length:=by rw[List.length_map,List.length_range]
 have p0:p 0=c.getD 0 0:=by rw[hp];rfl
 have pn:∀i,0<i→p i=c.getD (c.length - i) 0:=fun i hi=>by rw[hp];exact if_neg (by omega)
 refine⟨(List.range c.length).map p,⟨by rw[hl];exact h3,fun i j hi hj hij=>?_,fun i hi=>?_,?_⟩,hl,by rw[hg 0 (by omega),p0],by rw[hg 1 (by omega),pn 1 (by omega)]⟩
 ·rw[hl] at hi hj
  rw[hg i hi,hg j hj] at hij
  by_cases hi0:i=0 <;> by_cases hj0:j=0
  ·omega
  ·rw[hi0,p0,pn j (by omega)] at hij;have:=h.inj _ _ (by omega) (by omega) hij;omega
  ·rw[hj0,p0,pn i (by omega)] at hij;have:=h.inj _ _ (by omega) (by omega) hij;omega
  ·rw[pn i (by omega),pn j (by omega)] at hij;have:=h.inj _ _ (by omega) (by omega) hij;omega
 ·rw[hl] at hi
  rw[hg i (by omega),hg (i+1) hi,pn (i+1) (by omega)]
  by_cases hi0:i=0
  ·rw[hi0,p0];exact hs _ _ h.last
  ·rw[pn i (by omega)]
   have:=h.adj (c.length - (i+1)) (by omega)
   rw[show c.length - (i+1)+1=c.length - i by omega] at this
   exact hs _ _ this
 ·rw[hl,hg (c.length - 1) (by omega),hg 0 (by omega),p0,pn _ (by omega),show c.length - (c.length - 1)=1 by omega]
  exact hs _ _ (h.adj 0 (by omega))
theorem ly {c:List Nat}(h:2≤c.length):c=c.getD 0 0::c.getD 1 0::c.drop 2:=by
 match c,h with
 | x::y::r,_=>rfl
end
theorem a4i {g:GT}(ok:Gr.Ok g){odd:Bool}{n x:Nat}{o s r:List Nat}{V:BS}(hV:V=aj g.1)(he:ah V=s++x::r)(h3:3≤n)(hol:o.length=n)(ho0:o.getD 0 0=x)(hoL':CyL (bQ (nbA g) (V &&& bh V s)) o)(hod:ods odd o=false)
  (least:∀{c:List Nat},CyL (bQ (nbA g) (V &&& bh V s)) c→c.length=n→c.getD 0 0=x→lsF c o=false)
  (hno:∀(s1:List Nat) (y:Nat) (r1:List Nat),s=s1++y::r1→∀{c:List Nat},CyL (bQ (nbA g) (V &&& bh V s1)) c→c.length=n→c.getD 0 0=y→False)
  (hlen:∀c,CyM (nbA g) c→ods odd c=false→n≤c.length):shF odd (cyA g)=some o:=by
 have hs:=cU ok
 have hinto:∀{s1:List Nat} {y:Nat} {r1:List Nat},ah V=s1++y::r1→∀{c:List Nat},CyL (nbA g) c→c.getD 0 0=y→(∀i,0<i→i<c.length→c.getD 0 0<c.getD i 0)→CyL (bQ (nbA g) (V &&& bh V s1)) c:=fun {s1 y r1} he1 {c} hc hy hm=>by
  refine Cyc.within (S:=V &&& bh V s1) hc (fun i hi=>(nT he1).2 ⟨?_,?_⟩) (fun i j hi hj hij=>fW.2 ⟨hi,hij,hj⟩)
  ·rw[hV];exact (aC.1 (gV ok hc _ (fY hi))).2
  ·by_cases hi0:i=0
   ·subst hi0;exact Nat.le_of_eq hy.symm
   ·have:=hm i (by omega) hi
    omega
 have hoL:CyL (nbA g) o:=hoL'.mono fun i j h=>(fW.1 h).2.1
 have hmin:∀i,0<i→i<o.length→o.getD 0 0<o.getD i 0:=fun i hi hil=>by
  obtain⟨j,hj⟩:=hoL'.at hil
  have h5:=((nT he).1 (fW.1 hj).1).2
  have h6:o.getD i 0≠o.getD 0 0:=fun h=>by have:=hoL.inj i 0 hil (by omega) h;omega
  omega
 have hM:CyM (nbA g) o:=by
  refine⟨hoL,hmin,?_⟩
  obtain⟨d,d1,d2,d3,d4⟩:=CyL.rev (jy hs _) hoL'
  have h8:=least d1 (by omega) (by rw[d3,ho0])
  rw[ly (c:=d) (by omega),ly (c:=o) (by omega),lsF,if_pos d3,lsF,d4] at h8
  have h9:o.getD 1 0≠o.getD (o.length - 1) 0:=fun h=>by have:=hoL.inj 1 (o.length - 1) (by omega) (by omega) h;omega
  rw[if_neg (Ne.symm h9)] at h8
  have:=of_decide_eq_false h8
  omega
 refine a3n ((lq ok).2 hM) hod fun c hc hco=>?_
 have hcM:=(lq ok).1 hc
 have hcl:=hlen c hcM hco
 cases hb:btr c o with
 | false=>rfl
 | true=>
  rcases jn.1 hb with h|⟨h,hls⟩
  ·omega
  ·exfalso
   have hlen:c.length=n:=by omega
   have hyV:c.getD 0 0∈ah V:=by rw[hV];exact gV ok hcM.cyc _ (fY (by omega))
   obtain⟨y,hy⟩:∃y,y=c.getD 0 0:=⟨_,rfl⟩
   rw[← hy,he] at hyV
   rcases List.mem_append.1 hyV with h5|h5
   ·obtain⟨s1,r1,hs1⟩:=List.append_of_mem h5
    have he1:ah V=s1++y::(r1++x::r):=by rw[he,hs1,List.append_assoc];rfl
    exact hno s1 y r1 hs1 (hinto he1 hcM.cyc hy.symm hcM.min) hlen hy.symm
   ·rcases List.mem_cons.1 h5 with h5|h5
    ·rw[least (hinto he hcM.cyc (by rw[← hy,h5]) hcM.min) hlen (by rw[← hy,h5])] at hls
     cases hls
    ·have hp:=fj V
     rw[he] at hp
     have hlt:=(List.pairwise_cons.1 (List.pairwise_append.1 hp).2.1).1 y h5
     rw[ly (c:=c) (by omega),ly (c:=o) (by omega),lsF,← hy,ho0,if_neg (by omega)] at hls
     have:=of_decide_eq_true hls
     omega
def Ch (nb:Int→BS)(x:Nat):Nat→List Nat→Prop
 | l,[]=>(nb (l:Int)).getLsbD x=true
 | l,y::d=>(nb (l:Int)).getLsbD y=true∧Ch nb x y d
section
variable {nb:Int→BS}
theorem jz {x y:Nat}{r:List Nat}:∀(d:List Nat) (l:Nat),Ch nb x l (d++y::r)↔Ch nb y l d∧Ch nb x y r
 | [],l=>Iff.rfl
 | z::d,l=>by
  show (_∧Ch nb x z (d++y::r))↔(_∧Ch nb y z d)∧_
  rw[jz d z,and_assoc]
theorem eM (hs:∀i j:Nat,(nb (i:Int)).getLsbD j=true→(nb (j:Int)).getLsbD i=true){x:Nat}(hx:x<1024):∀(m l:Nat),(wkN nb x (m+1)).getLsbD l=true↔∃d:List Nat,d.length=m∧Ch nb x l d
 | 0,l=>by
  rw[wkN,iS]
  constructor
  ·rintro⟨i,hi,hl⟩
   rw[wkN,lc hx] at hi
   subst hi
   exact⟨[],rfl,hs _ _ hl⟩
  ·rintro⟨d,hd,hc⟩
   obtain rfl:=List.eq_nil_of_length_eq_zero hd
   exact⟨x,by rw[wkN,lc hx],hs _ _ hc⟩
 | m+1,l=>by
  rw[wkN,iS]
  constructor
  ·rintro⟨i,hi,hl⟩
   obtain⟨d,hd,hc⟩:=(eM hs hx m i).1 hi
   exact⟨i::d,by rw[List.length_cons,hd],hs _ _ hl,hc⟩
  ·rintro⟨d,hd,hc⟩
   match d,hd,hc with
   | i::d,hd,hc=>exact⟨i,(eM hs hx m i).2 ⟨d,by rw[List.length_cons] at hd;omega,hc.2⟩,hs _ _ hc.1⟩
theorem nU {x:Nat}:∀(d:List Nat) (l:Nat),Ch nb x l d↔(∀i,i+1<(l::d).length→(nb ((l::d).getD i 0:Nat)).getLsbD ((l::d).getD (i+1) 0)=true)∧(nb ((l::d).getD d.length 0:Nat)).getLsbD x=true
 | [],l=>⟨fun h=>⟨fun i hi=>by rw[List.length_singleton] at hi;omega,h⟩,fun h=>h.2⟩
 | y::d,l=>by
  show (_∧Ch nb x y d)↔_
  rw[nU d y]
  constructor
  ·rintro⟨h1,h2,h3⟩
   refine⟨fun i hi=>?_,h3⟩
   cases i with
   | zero=>exact h1
   | succ i=>exact h2 i (by rw[List.length_cons] at hi;omega)
  ·rintro⟨h1,h2⟩
   exact⟨h1 0 (by rw[List.length_cons,List.length_cons];omega),fun i hi=>h1 (i+1) (by rw[List.length_cons];omega),h2⟩
theorem nW {x:Nat}{d:List Nat}(h:Ch nb x x d)(hn:(x::d).Nodup)(h3:2≤d.length):CyL nb (x::d):=by
 obtain⟨h1,h2⟩:=(nU d x).1 h
 refine⟨by rw[List.length_cons];omega,fun i j hi hj hij=>?_,h1,h2⟩
 have he:=List.pairwise_iff_getElem.1 hn
 rw[List.getD_eq_getElem?_getD,List.getD_eq_getElem?_getD,List.getElem?_eq_getElem hi,List.getElem?_eq_getElem hj] at hij
 rcases Nat.lt_trichotomy i j with h|h|h
 ·exact absurd hij (he i j hi hj h)
 ·exact h
 ·exact absurd hij.symm (he j i hj hi h)
theorem jA {c:List Nat}(h:CyL nb c):∃d,c=c.getD 0 0::d∧d.length+1=c.length∧Ch nb (c.getD 0 0) (c.getD 0 0) d:=by
 have h3:=h.three
 match c,h,h3 with
 | x::d,h,h3=>
  refine⟨d,rfl,by rw[List.length_cons],(nU d x).2 ⟨h.adj,?_⟩⟩
  have:=h.last
  rw[List.length_cons,Nat.add_sub_cancel] at this
  exact this
theorem uD {nb':Int→BS}(hm:∀i j:Nat,(nb (i:Int)).getLsbD j=true→(nb' (i:Int)).getLsbD j=true){x:Nat}:∀(d:List Nat) (l:Nat),Ch nb x l d→Ch nb' x l d
 | [],l,h=>hm _ _ h
 | y::d,l,h=>⟨hm _ _ h.1,uD hm d y h.2⟩
theorem uE:∀{l:List Nat},¬l.Nodup→∃a y b c,l=a++y::(b++y::c)
 | [],h=>absurd List.nodup_nil h
 | x::l,h=>by
  by_cases hx:x∈l
  ·obtain⟨b,c,rfl⟩:=List.append_of_mem hx
   exact⟨[],x,b,c,rfl⟩
  ·obtain⟨a,y,b,c,rfl⟩:=uE (l:=l) fun hn=>h (List.nodup_cons.2 ⟨hx,hn⟩)
   exact⟨x::a,y,b,c,rfl⟩
def OdW (nb:Int→BS)(n:Nat):Prop:=∃x d,Ch nb x x d∧d.length+1=n∧n % 2=1
theorem nX (hi:∀i:Nat,¬(nb (i:Int)).getLsbD i=true){n:Nat}(hm:∀m,m<n→¬OdW nb m){x:Nat}{d:List Nat}(h:Ch nb x x d)(hd:d.length+1=n)(ho:n % 2=1):(x::d).Nodup∧3≤n:=by
 constructor
 ·refine Classical.byContradiction fun hn=>?_
  obtain⟨a,y,b,c,he⟩:=uE hn
  cases a with
  | nil=>
   rw[List.nil_append] at he
   obtain⟨rfl,rfl⟩:=List.cons.inj he
   obtain⟨h1,h2⟩:=(jz b x).1 h
   rw[List.length_append,List.length_cons] at hd
   by_cases hp:(b.length+1) % 2=1
   ·exact hm _ (by omega) ⟨x,b,h1,rfl,hp⟩
   ·exact hm _ (show c.length+1<n by omega) ⟨x,c,h2,rfl,by omega⟩
  | cons z a=>
   rw[List.cons_append] at he
   obtain⟨rfl,rfl⟩:=List.cons.inj he
   obtain⟨h1,h2⟩:=(jz a x).1 h
   obtain⟨h3,h4⟩:=(jz b y).1 h2
   simp only[List.length_append,List.length_cons] at hd
   by_cases hp:(b.length+1) % 2=1
   ·exact hm _ (by omega) ⟨y,b,h3,rfl,hp⟩
   ·exact hm _ (show (a++y::c).length+1<n by rw[List.length_append,List.length_cons];omega) ⟨x,a++y::c,(jz a x).2 ⟨h1,h4⟩,rfl,by rw[List.length_append,List.length_cons];omega⟩
 ·match d,h,hd with
  | [],h,hd=>exact absurd h (hi x)
  | y::d,h,hd=>rw[List.length_cons] at hd;omega
theorem uF (x:Nat):∀(f n b:Nat),b≤n+2 * f→(odN nb x f n b=b∨∃k,odN nb x f n b=n+2 * k∧(wkN nb x (n+2 * k)).getLsbD x=true)∧∀k,n+2 * k<odN nb x f n b→¬(wkN nb x (n+2 * k)).getLsbD x=true
 | 0,n,b,h=>⟨.inl rfl,fun k hk=>by rw[odN] at hk;omega⟩
 | f+1,n,b,h=>by
  rw[odN]
  by_cases h1:n<b
  ·rw[if_pos h1]
   by_cases h2:(wkN nb x n).getLsbD x=true
   ·rw[if_pos h2]
    have h3:odN nb x f (n+2) n=n:=by
     cases f with
     | zero=>rfl
     | succ f=>rw[odN,if_neg (by omega)]
    rw[h3]
    exact⟨.inr ⟨0,rfl,h2⟩,fun k hk=>by omega⟩
   ·rw[if_neg h2]
    obtain⟨h3,h4⟩:=uF x f (n+2) b (by omega)
    refine⟨h3.imp id fun⟨k,k1,k2⟩=>⟨k+1,by rw[k1];omega,by rw[show n+2 * (k+1)=n+2+2 * k by omega];exact k2⟩,fun k hk=>?_⟩
    cases k with
    | zero=>exact h2
    | succ k=>
     rw[show n+2 * (k+1)=n+2+2 * k by omega] at hk ⊢
     exact h4 k hk
  ·rw[if_neg h1]
   exact⟨.inl rfl,fun k hk=>by omega⟩
theorem uG (x0:Nat):∀(s:List Nat) (b:Nat),(s.foldl (odS nb) b≤b)∧(s.foldl (odS nb) b=b∨∃x∈s,∃k,s.foldl (odS nb) b=3+2 * k∧(wkN nb x (3+2 * k)).getLsbD x=true)∧∀x∈s,∀k,3+2 * k<s.foldl (odS nb) b→¬(wkN nb x (3+2 * k)).getLsbD x=true
 | [],b=>⟨Nat.le_refl _,.inl rfl,fun x hx=>by cases hx⟩
 | x::s,b=>by
  have h0:=nJ nb x b 3 b
  obtain⟨h1,h2⟩:=uF (nb:=nb) x b 3 b (by omega)
  obtain⟨k1,k2,k3⟩:=uG x0 s (odS nb b x)
  rw[List.foldl_cons]
  have hS:odS nb b x=odN nb x b 3 b:=rfl
  rw[hS] at k1 k2 k3 ⊢
  refine⟨Nat.le_trans k1 h0,?_,fun y hy k hk=>?_⟩
  ·rcases k2 with k2|⟨y,hy,k,k4⟩
   ·rcases h1 with h1|⟨k,h3,h4⟩
    ·exact .inl (k2.trans h1)
    ·exact .inr ⟨x,by simp,k,k2.trans h3,h4⟩
   ·exact .inr ⟨y,by simp[hy],k,k4⟩
  ·rcases List.mem_cons.1 hy with rfl|hy
   ·exact h2 k (by omega)
   ·exact k3 y hy k hk
theorem uH (hs:∀i j:Nat,(nb (i:Int)).getLsbD j=true→(nb (j:Int)).getLsbD i=true){x:Nat}(hx:x<1024):∀(m l:Nat),(∃d:List Nat,d.length=m∧Ch nb x l d)→(ocG nb x m l).length=m∧Ch nb x l (ocG nb x m l)∧∀d:List Nat,d.length=m→Ch nb x l d→lsF d (ocG nb x m l)=false
 | 0,l,⟨d,hd,hc⟩=>by
  obtain rfl:=List.eq_nil_of_length_eq_zero hd
  exact⟨rfl,hc,fun d hd _=>by rw[List.eq_nil_of_length_eq_zero hd];rfl⟩
 | m+1,l,⟨d,hd,hc⟩=>by
  have hin:∀y e,e.length=m→(nb (l:Int)).getLsbD y=true→Ch nb x y e→(nb (l:Int) &&& wkN nb x (m+1)).getLsbD y=true:=fun y e he hy hce=>by
   rw[cC];exact⟨hy,(eM hs hx m y).2 ⟨e,he,hce⟩⟩
  obtain⟨q,hq⟩:∃q,aI (nb (l:Int) &&& wkN nb x (m+1))=some q:=by
   match d,hd,hc with
   | y::e,hd,hc=>
    have h1:=hin y e (by rw[List.length_cons] at hd;omega) hc.1 hc.2
    cases hh:aI (nb (l:Int) &&& wkN nb x (m+1)) with
    | some q=>exact⟨q,rfl⟩
    | none=>rw[dm.1 hh] at h1;exact absurd h1 (aS y)
  obtain⟨q1,q2,q3⟩:=dZ.1 hq
  rw[cC] at q2
  obtain⟨g1,g2,g3⟩:=uH hs hx m q ((eM hs hx m q).1 q2.2)
  rw[ocG,hq]
  show (q::ocG nb x m q).length=_∧Ch nb x l (q::ocG nb x m q)∧_
  refine⟨by rw[List.length_cons,g1],⟨q2.1,g2⟩,fun d hd hc=>?_⟩
  match d,hd,hc with
  | y::e,hd,hc=>
   rw[List.length_cons] at hd
   have h1:=hin y e (by omega) hc.1 hc.2
   show lsF (y::e) (q::ocG nb x m q)=false
   rw[lsF]
   by_cases hyq:y=q
   ·rw[if_pos hyq]
    subst hyq
    exact g3 e (by omega) hc.2
   ·rw[if_neg hyq]
    exact decide_eq_false fun hlt=>by have:=q3 y hlt;rw[h1] at this;cases this
theorem uI {V:BS}{n:Nat}{o:List Nat}:∀(rest:List Nat) (left:BS),ocL nb V n rest left=some o→∃s x r,rest=s++x::r∧(wkN (bQ nb (V &&& bh left s)) x n).getLsbD x=true∧o=x::ocG (bQ nb (V &&& bh left s)) x (n - 1) x∧∀s1 y r1,s=s1++y::r1→¬(wkN (bQ nb (V &&& bh left s1)) y n).getLsbD y=true
 | [],left,h=>by cases h
 | x::r,left,h=>by
  rw[ocL] at h
  have hz:bh left []=left:=by rw[bh,List.foldl_nil]
  by_cases hw:(wkN (bQ nb (V &&& left)) x n).getLsbD x=true
  ·rw[if_pos hw] at h
   exact⟨[],x,r,rfl,by rw[hz];exact hw,by rw[hz];exact (Option.some.inj h).symm,fun s1 y r1 h=>by cases s1 <;> cases h⟩
  ·rw[if_neg hw] at h
   obtain⟨s,y,r',k1,k2,k3,k4⟩:=uI r (del left (x:Int)) h
   have hdel:∀s,bh left (x::s)=bh (del left (x:Int)) s:=fun s=>by rw[bh,List.foldl_cons,bh]
   refine⟨x::s,y,r',by rw[k1];rfl,by rw[hdel];exact k2,by rw[hdel];exact k3,fun s1 z r1 hz'=>?_⟩
   cases s1 with
   | nil=>
    obtain⟨h1,_⟩:=List.cons.inj hz'
    rw[← h1,hz]
    exact hw
   | cons t s1=>
    obtain⟨h1,h2⟩:=List.cons.inj hz'
    rw[← h1,hdel]
    exact k4 s1 z r1 h2
theorem uJ {V:BS}{n a:Nat}:∀(rest s:List Nat),ah V=s++rest→a∈rest→(∀s' r',ah V=s'++a::r'→(wkN (bQ nb (V &&& bh V s')) a n).getLsbD a=true)→ocL nb V n rest (bh V s)≠none
 | [],s,_,ha,_=>by cases ha
 | x::r,s,he,ha,hf=>by
  rw[ocL]
  by_cases hw:(wkN (bQ nb (V &&& bh V s)) x n).getLsbD x=true
  ·rw[if_pos hw];simp
  ·rw[if_neg hw]
   have hxa:x≠a:=fun h=>by
    subst h
    exact hw (hf s r he)
   rw[← nz]
   exact uJ r (s++[x]) (by rw[he,List.append_assoc];rfl) ((List.mem_cons.1 ha).resolve_left (Ne.symm hxa)) hf
end
theorem a4j {g:GT}(ok:Gr.Ok g)(i:Nat):¬(nbA g (i:Int)).getLsbD i=true:=fun h=>(((cm ok).1 h).inn ok).2.2 rfl
theorem a4k {g:GT}(ok:Gr.Ok g){x:Nat}{d:List Nat}(h:Ch (nbA g) x x d):(aj g.1).getLsbD x=true:=by
 match d,h with
 | [],h=>exact (((cm ok).1 h).inn ok).1
 | y::d,h=>exact (((cm ok).1 h.1).inn ok).1
theorem a4l {g:GT}(ok:Gr.Ok g):shF true (cyA g)=fq (nbA g) (aj g.1)∧(fq (nbA g) (aj g.1)=none↔∀n,¬OdW (nbA g) n):=by
 have hs:=cU ok
 have hi:=a4j ok
 have hfe:(aj g.1).getLsbD 0=true∨True:=.inr trivial
 obtain⟨V,hV⟩:∃V,V=aj g.1:=⟨_,rfl⟩
 obtain⟨b1,b2,b3⟩:=uG (nb:=nbA g) 0 (ah V) (card V+1)
 obtain⟨n,hn⟩:∃n,n=(ah V).foldl (odS (nbA g)) (card V+1):=⟨_,rfl⟩
 have hB:odB (nbA g) V (ah V)=n:=by rw[odB,hn]
 rw[← hn] at b1 b2 b3
 have hodw:∀{m:Nat},OdW (nbA g) m→m<n→False:=fun {m} ⟨x,d,hc,hd,ho⟩ hm=>by
  have h3:3≤m:=by
   match d,hc,hd with
   | [],hc,hd=>exact absurd hc (hi x)
   | y::d,hc,hd=>rw[List.length_cons] at hd;omega
  have hxV:=a4k ok hc
  rw[← hV] at hxV
  refine b3 x (aC.2 ⟨az hxV,hxV⟩) ((m - 3) / 2) (by omega) ?_
  rw[show 3+2 * ((m - 3) / 2)=m - 1+1 by omega]
  exact (eM hs (az hxV) _ _).2 ⟨d,by omega,hc⟩
 rw[← hV,fq,hB]
 by_cases hcn:card V<n
 ·have hno:∀m,¬OdW (nbA g) m:=by
   intro m hm
   obtain⟨m,hm,hmin⟩:=least (p:=OdW (nbA g)) ⟨m,hm⟩
   obtain⟨x,d,hc,hd,ho⟩:=hm
   obtain⟨h1,h2⟩:=nX hi hmin hc hd ho
   have h3:=nW hc h1 (by omega)
   have h4:=gV ok h3
   have h5:=eI (ai (x::d)) (ai (ah V)) (List.pairwise_map.2 (h1.imp fun h h'=>h (by omega))) (fun y hy=>by
    obtain⟨z,hz,rfl⟩:=List.mem_map.1 hy
    exact dS.2 (by rw[hV];exact h4 z hz))
   rw[bB,bB,List.length_cons,cF] at h5
   exact hodw ⟨x,d,hc,hd,ho⟩ (by omega)
  rw[if_pos hcn]
  refine⟨uc.2 fun c hc=>?_,fun _=>hno,fun _=>rfl⟩
  cases hh:ods true c with
  | true=>rfl
  | false=>
   obtain⟨d,_,hd,hch⟩:=jA ((lq ok).1 hc).cyc
   have:¬c.length % 2=0:=by rw[ods,Bool.true_and] at hh;exact of_decide_eq_false hh
   exact absurd ⟨_,d,hch,hd,by omega⟩ (hno c.length)
 ·rw[if_neg hcn]
  obtain⟨x0,hx0,k,hk,hw0⟩:=b2.resolve_left (by omega)
  have hx0V:=(aC.1 hx0).2
  rw[show 3+2 * k=2+2 * k+1 by omega] at hw0
  obtain⟨d0,hd0,hc0⟩:=(eM hs (az hx0V) _ _).1 hw0
  have hmin:∀m,m<n→¬OdW (nbA g) m:=fun m hm h=>hodw h hm
  have hno1:n % 2=1:=by omega
  have h3:3≤n:=by omega
  have hOd:OdW (nbA g) n:=⟨x0,d0,hc0,by omega,hno1⟩
  have hcy0:=nW hc0 (nX hi hmin hc0 (by omega) hno1).1 (by omega)
  obtain⟨p,hp,hpm⟩:=Cyc.least hcy0
  have hl0:(x0::d0).length=n:=by rw[List.length_cons];omega
  rw[hl0] at hp hpm
  have hlist:((List.range n).map p).length=n:=by rw[List.length_map,List.length_range]
  have hgd:∀i,i<n→((List.range n).map p).getD i 0=p i:=fun i hi=>by rw[List.getD_eq_getElem?_getD,List.getElem?_map,List.getElem?_range hi];rfl
  have hpL:CyL (nbA g) ((List.range n).map p):=⟨by rw[hlist];exact h3,fun i j hi hj hij=>by
    rw[hlist] at hi hj
    rw[hgd i hi,hgd j hj] at hij
    exact hp.inj i j hi hj hij,fun i hi=>by
    rw[hlist] at hi
    rw[hgd i (by omega),hgd (i+1) hi]
    exact hp.adj i hi,by
    rw[hlist,hgd (n - 1) (by omega),hgd 0 (by omega)]
    exact hp.last⟩
  have hpV:∀i,i<n→V.getLsbD (p i)=true:=fun i hi=>by
   have:=(aC.1 (gV ok hpL _ (fY (i:=i) (by omega)))).2
   rw[hgd i hi,← hV] at this
   exact this
  have hz:bh V []=V:=by rw[bh,List.foldl_nil]
  have hgo:=uJ (nb:=nbA g) (V:=V) (n:=n) (a:=p 0) (ah V) [] (by rw[List.nil_append]) (aC.2 ⟨az (hpV 0 (by omega)),hpV 0 (by omega)⟩) fun s r he=>by
   have h5:CyL (bQ (nbA g) (V &&& bh V s)) ((List.range n).map p):=Cyc.within (S:=V &&& bh V s) hpL (fun i hi=>by
    rw[hlist] at hi
    rw[hgd i hi]
    exact (nT he).2 ⟨hpV i hi,hpm i hi⟩) (fun i j hi hj hij=>fW.2 ⟨hi,hij,hj⟩)
   obtain⟨d,_,hd,hch⟩:=jA h5
   rw[hgd 0 (by omega)] at hch
   rw[show n=n - 1+1 by omega]
   exact (eM (jy hs _) (az (hpV 0 (by omega))) _ _).2 ⟨d,by omega,hch⟩
  rw[hz] at hgo
  cases ho:ocL (nbA g) V n (ah V) V with
  | none=>exact absurd ho hgo
  | some o=>
   refine⟨?_,fun h=>(by cases h),fun h=>absurd hOd (h n)⟩
   obtain⟨s,x,r,he,hx,hoe,hno⟩:=uI (ah V) V ho
   have hxV:V.getLsbD x=true:=(aC.1 (by rw[he];simp:x∈ah V)).2
   rw[show n=n - 1+1 by omega] at hx
   obtain⟨g1,g2,g3⟩:=uH (jy hs _) (az hxV) (n - 1) x ((eM (jy hs _) (az hxV) _ _).1 hx)
   rw[Nat.sub_add_cancel (by omega:1≤n)] at hx
   have hmon:∀s1,∀i j:Nat,(bQ (nbA g) (V &&& bh V s1) (i:Int)).getLsbD j=true→(nbA g (i:Int)).getLsbD j=true:=fun s1 i j h=>(fW.1 h).2.1
   have hol:o.length=n:=by rw[hoe,List.length_cons,g1];omega
   have ho0:o.getD 0 0=x:=by rw[hoe];rfl
   have hnd:=(nX hi hmin (uD (hmon s) _ _ g2) (by omega) hno1).1
   refine a4i ok hV he h3 hol ho0 (by rw[hoe];exact nW g2 hnd (by omega)) (by rw[ods,Bool.true_and];exact decide_eq_false (by omega))
    (fun {c} hc hl hc0=>by
     obtain⟨d,hd1,hd2,hd3⟩:=jA hc
     rw[hc0] at hd1 hd3
     rw[hd1,hoe,lsF,if_pos rfl]
     exact g3 d (by omega) hd3)
    (fun s1 y r1 hs1 {c} hc hl hc0=>by
     obtain⟨d,hd1,hd2,hd3⟩:=jA hc
     rw[hc0] at hd3
     have hyV:V.getLsbD y=true:=(aC.1 (by rw[he,hs1];simp:y∈ah V)).2
     refine hno s1 y r1 hs1 ?_
     rw[show n=n - 1+1 by omega]
     exact (eM (jy hs _) (az hyV) _ _).2 ⟨d,by omega,hd3⟩)
    fun c hc hod=>?_
   obtain⟨d,hd1,hd2,hd3⟩:=jA hc.cyc
   have:¬c.length % 2=0:=by rw[ods,Bool.true_and] at hod;exact of_decide_eq_false hod
   exact Nat.le_of_not_lt fun hlt=>hmin _ hlt ⟨_,d,hd3,hd2,by omega⟩
section
variable {nb:Int→BS}
theorem uK:∀(n:Nat) (q:Nat→Nat),(∀i,i<n+1→(nb (q i:Int)).getLsbD (q (i+1))=true)→Ch nb (q (n+1)) (q 0) ((List.range n).map fun i=>q (i+1))
 | 0,q,h=>h 0 (by omega)
 | n+1,q,h=>by
  have:=uK n (fun i=>q (i+1)) fun i hi=>h (i+1) (by omega)
  rw[List.range_succ_eq_map,List.map_cons,List.map_map]
  exact⟨h 0 (by omega),this⟩
theorem uL {L:List BS}{s:BS}{n:Nat}:∀m,(evS L s m).getLsbD n=true↔s.getLsbD n=true∨∃j,j<m∧j % 2=0∧(gs L j).getLsbD n=true
 | 0=>⟨.inl,fun h=>h.elim id fun⟨j,hj,_⟩=>by omega⟩
 | m+1=>by
  have ih:=uL (L:=L) (s:=s) (n:=n) m
  rw[evS]
  by_cases hm:m % 2=0
  ·rw[if_pos hm,bL,ih]
   constructor
   ·rintro ((h|⟨j,h1,h2⟩)|h)
    ·exact .inl h
    ·exact .inr ⟨j,by omega,h2⟩
    ·exact .inr ⟨m,by omega,hm,h⟩
   ·rintro (h|⟨j,h1,h2,h3⟩)
    ·exact .inl (.inl h)
    ·by_cases hj:j=m
     ·subst hj;exact .inr h3
     ·exact .inl (.inr ⟨j,by omega,h2,h3⟩)
  ·rw[if_neg hm,ih]
   constructor
   ·rintro (h|⟨j,h1,h2⟩)
    ·exact .inl h
    ·exact .inr ⟨j,by omega,h2⟩
   ·rintro (h|⟨j,h1,h2,h3⟩)
    ·exact .inl h
    ·exact .inr ⟨j,by by_cases hj:j=m;(· subst hj;exact absurd h2 hm);(· omega),h2,h3⟩
theorem uM {ps:List BS}{n:Nat}:∀k,(dC nb ps k).getLsbD n=true↔∃i,i<k∧∃j,j % 2=0∧∃T,(lvB nb ((aI (gs ps i)).getD 0))[j]?=some T∧T.getLsbD n=true
 | 0=>⟨fun h=>absurd h (aS n),fun⟨i,hi,_⟩=>by omega⟩
 | k+1=>by
  rw[dC,uL,uM k]
  constructor
  ·rintro (⟨i,hi,h⟩|⟨j,h1,h2,h3⟩)
   ·exact⟨i,by omega,h⟩
   ·exact⟨k,by omega,j,h2,_,by rw[List.getElem?_eq_getElem h1],by rw[gs,List.getElem?_eq_getElem h1] at h3;exact h3⟩
  ·rintro⟨i,hi,j,h2,T,h3,h4⟩
   by_cases hik:i=k
   ·subst hik
    obtain⟨h5,h6⟩:=List.getElem?_eq_some_iff.1 h3
    exact .inr ⟨j,h5,h2,by rw[gs,h3];exact h4⟩
   ·exact .inl ⟨i,by omega,j,h2,T,h3,h4⟩
theorem lz {a n j:Nat}{T:BS}(h:(lvB nb a)[j]?=some T)(hT:T.getLsbD n=true):dsT nb a n=(j:Int):=by
 obtain⟨h1,h2⟩:=kR h hT
 obtain⟨k,hk⟩:∃k:Nat,bH (lvB nb a) n=(k:Int):=⟨(bH (lvB nb a) n).toNat,by omega⟩
 obtain⟨S,h3,h4⟩:=iV hk
 rw[dsT,hk]
 by_cases he:k=j
 ·rw[he]
 ·exact absurd hT (sJ 1025 _ _ (fun i hi=>hi) k j n S T (by omega) h3 h h4)
end
theorem a4m {g:GT}(G:Gr.Ok g):prF (nbA g) (card (aj g.1)) (aj g.1)=((ah (aj g.1)).filter fun v=>decide (aI (cpt (nbA g) v)=some v)).map (cpt (nbA g)):=
 a2i (cU G) _ _ (Nat.le_refl _) fun i j _ hij=>iR G i j hij
def rpV (nb:Int→BS)(n:Nat):Nat:=(aI (cpt nb n)).getD 0
def evV (nb:Int→BS)(n:Nat):Bool:=decide (dsT nb (rpV nb n) n % 2=0)
section
variable {g:GT}(ok:Gr.Ok g)
theorem jB {g:GT}(ok:Gr.Ok g){n:Nat}(hn:(aj g.1).getLsbD n=true):aI (cpt (nbA g) n)=some (rpV (nbA g) n)∧(aj g.1).getLsbD (rpV (nbA g) n)=true∧cpt (nbA g) (rpV (nbA g) n)=cpt (nbA g) n∧(cpt (nbA g) (rpV (nbA g) n)).getLsbD n=true:=by
 have h1:=eH (nb:=nbA g) (az hn)
 cases hm:aI (cpt (nbA g) n) with
 | none=>rw[dm.1 hm] at h1;exact absurd h1 (aS n)
 | some a=>
  have hr:rpV (nbA g) n=a:=by rw[rpV,hm];rfl
  have h2:=(dZ.1 hm).2.1
  have h3:=iY (cU ok) (az hn) h2
  rw[hr]
  exact⟨rfl,lb ok hn a h2,h3,by rw[h3];exact h1⟩
theorem uN {g:GT}(ok:Gr.Ok g){x y:Nat}(h:(nbA g (x:Int)).getLsbD y=true):rpV (nbA g) x=rpV (nbA g) y:=by
 have hx:=(((cm ok).1 h).inn ok).1
 have:=fp (nb:=nbA g) (az hx) x y (eH (az hx)) h
 rw[rpV,rpV,iY (cU ok) (az hx) this]
theorem lA {g:GT}(ok:Gr.Ok g)(n:Nat):(bpO (nbA g) (aj g.1)).getLsbD n=true↔(aj g.1).getLsbD n=true∧evV (nbA g) n=true:=by
 rw[bpO,a4m ok,uM]
 obtain⟨reps,hreps⟩:∃reps,reps=(ah (aj g.1)).filter fun v=>decide (aI (cpt (nbA g) v)=some v):=⟨_,rfl⟩
 rw[← hreps]
 have hat:∀i a,reps[i]?=some a→gs (reps.map (cpt (nbA g))) i=cpt (nbA g) a:=fun i a h=>by rw[gs,List.getElem?_map,h,Option.map_some,Option.getD_some]
 constructor
 ·rintro⟨i,hi,j,hj,T,hT,hn⟩
  rw[List.length_map] at hi
  have hra:=List.getElem?_eq_getElem hi
  generalize reps[i]=a at hra
  have hm:=List.mem_of_getElem? hra
  rw[hreps,List.mem_filter,decide_eq_true_eq] at hm
  have haV:=(aC.1 hm.1).2
  rw[hat i a hra,hm.2] at hT
  have hT':(lvB (nbA g) a)[j]?=some T:=hT
  have hna:(cpt (nbA g) a).getLsbD n=true:=dA.2 ⟨T,List.mem_of_getElem? hT',hn⟩
  have hnV:=lb ok haV n hna
  have hre:rpV (nbA g) n=a:=by rw[rpV,iY (cU ok) (az haV) hna,hm.2];rfl
  refine⟨hnV,?_⟩
  rw[evV,hre,lz hT' hn]
  exact decide_eq_true (by omega)
 ·rintro⟨hn,he⟩
  obtain⟨h1,h2,h3,h4⟩:=jB ok hn
  have hm:rpV (nbA g) n∈reps:=by
   rw[hreps]
   exact List.mem_filter.2 ⟨aC.2 ⟨az h2,h2⟩,decide_eq_true (by rw[h3];exact h1)⟩
  obtain⟨i,hi,hie⟩:=List.getElem_of_mem hm
  obtain⟨T,hT,hTn⟩:=dA.1 h4
  obtain⟨j,hj,hje⟩:=List.getElem_of_mem hT
  have hTj:(lvB (nbA g) (rpV (nbA g) n))[j]?=some T:=by rw[List.getElem?_eq_getElem hj,hje]
  have hev:=of_decide_eq_true (show decide (dsT (nbA g) (rpV (nbA g) n) n % 2=0)=true from he)
  rw[lz hTj hTn] at hev
  refine⟨i,by rw[List.length_map];exact hi,j,by omega,T,?_,hTn⟩
  rw[hat i _ (by rw[List.getElem?_eq_getElem hi,hie]),h3,h1,Option.getD_some]
  exact hTj
theorem uO {g:GT}(ok:Gr.Ok g):bpB (nbA g) (aj g.1)=true↔∀x y:Nat,(nbA g (x:Int)).getLsbD y=true→evV (nbA g) x≠evV (nbA g) y:=by
 have hone:=lA ok
 generalize bpO (nbA g) (aj g.1)=one at hone
 have hb:bpB (nbA g) (aj g.1) = !(ah (aj g.1)).any (bdB (nbA g) (bpO (nbA g) (aj g.1))):=rfl
 have hone':=lA ok
 rw[hb]
 generalize bpO (nbA g) (aj g.1)=one at hone'
 have hne:∀S:BS,(!(S==0))=true↔∃y,S.getLsbD y=true:=fun S=>by
  rw[Bool.not_eq_true',beq_eq_false_iff_ne]
  constructor
  ·intro h
   exact Classical.byContradiction fun hn=>h (cO fun k=>⟨fun hk=>absurd ⟨k,hk⟩ hn,fun hk=>absurd hk (aS k)⟩)
  ·rintro⟨y,hy⟩ h
   rw[h] at hy;exact aS y hy
 have hbd:∀x:Nat,bdB (nbA g) one x=true↔(one.getLsbD x=true∧∃y,(nbA g (x:Int)).getLsbD y=true∧one.getLsbD y=true)∨(¬one.getLsbD x=true∧∃y,(nbA g (x:Int)).getLsbD y=true∧¬one.getLsbD y=true):=fun x=>by
  have h1:(!((nbA g (x:Int) &&& one)==0))=true↔∃y,(nbA g (x:Int)).getLsbD y=true∧one.getLsbD y=true:=by rw[hne];simp only[cC]
  have h2:(!((nbA g (x:Int) &&& ~~~one)==0))=true↔∃y,(nbA g (x:Int)).getLsbD y=true∧¬one.getLsbD y=true:=by rw[hne];simp only[bk]
  have h3:(!(nbA g (x:Int)==0))=true↔∃y,(nbA g (x:Int)).getLsbD y=true:=hne _
  rw[bdB]
  cases ho:one.getLsbD x with
  | true=>
   simp only[Bool.not_true,Bool.false_and,Bool.or_false,Bool.true_and,Bool.or_eq_true,Bool.and_eq_true,beq_true,h1,h3,true_and,not_true,false_and,or_false]
   exact⟨fun h=>h.elim (fun h=>h.1) id,.inr⟩
  | false=>
   simp only[Bool.not_false,Bool.true_and,Bool.false_and,Bool.false_or,Bool.or_eq_true,Bool.and_eq_true,beq_false,Bool.not_not,h2,h3]
   constructor
   ·rintro (⟨ha,y,hy⟩|h)
    ·refine .inr ⟨by simp,y,hy,fun hh=>?_⟩
     have:=h1.2 ⟨y,hy,hh⟩
     rw[ha] at this;cases this
    ·exact .inr ⟨by simp,h⟩
   ·rintro (⟨h,_⟩|⟨_,h⟩)
    ·cases h
    ·exact .inr h
 rw[Bool.not_eq_true',List.any_eq_false]
 constructor
 ·intro h x y hxy he
  obtain⟨hx,hy,_⟩:=((cm ok).1 hxy).inn ok
  refine h x (aC.2 ⟨az hx,hx⟩) ((hbd x).2 ?_)
  cases hex:evV (nbA g) x with
  | true=>exact .inl ⟨(hone' x).2 ⟨hx,hex⟩,y,hxy,(hone' y).2 ⟨hy,by rw[← he,hex]⟩⟩
  | false=>exact .inr ⟨(fun hh=>by rw[((hone' x).1 hh).2] at hex;cases hex),y,hxy,(fun hh=>by rw[he,((hone' y).1 hh).2] at hex;cases hex)⟩
 ·intro h x hx hb
  rcases (hbd x).1 hb with ⟨h1,y,h2,h3⟩|⟨h1,y,h2,h3⟩
  ·exact h x y h2 (by rw[((hone' x).1 h1).2,((hone' y).1 h3).2])
  ·obtain⟨hxV,hyV,_⟩:=((cm ok).1 h2).inn ok
   refine h x y h2 ?_
   cases hex:evV (nbA g) x with
   | true=>exact absurd ((hone' x).2 ⟨hxV,hex⟩) h1
   | false=>
    cases hey:evV (nbA g) y with
    | true=>exact absurd ((hone' y).2 ⟨hyV,hey⟩) h3
    | false=>rfl
theorem a4n {g:GT}(ok:Gr.Ok g):bpB (nbA g) (aj g.1)=true↔∀n,¬OdW (nbA g) n:=by
 have hs:=cU ok
 rw[uO ok]
 constructor
 ·intro h n ⟨x,d,hc,hd,ho⟩
  have key:∀(d:List Nat) (l:Nat),Ch (nbA g) x l d→(evV (nbA g) l=evV (nbA g) x↔d.length % 2=1):=by
   intro d
   induction d with
   | nil=>intro l hc;exact⟨fun he=>absurd he (h l x hc),fun he=>by cases he⟩
   | cons y d ih=>
    intro l hc
    have h1:=h l y hc.1
    have h2:=ih y hc.2
    rw[List.length_cons]
    generalize evV (nbA g) l=p at h1 ⊢
    generalize evV (nbA g) y=q at h1 h2
    generalize evV (nbA g) x=r at h2 ⊢
    have h3:(d.length+1) % 2=1↔¬d.length % 2=1:=by omega
    rw[h3,← h2]
    revert h1
    cases p <;> cases q <;> cases r <;> simp
  have:=(key d x hc).1 rfl
  omega
 ·intro h x y hxy he
  obtain⟨hx,hy,_⟩:=((cm ok).1 hxy).inn ok
  obtain⟨a,ha⟩:∃a,a=rpV (nbA g) x:=⟨_,rfl⟩
  have hxa:=(jB ok hx).2.2.2
  have hya:=(jB ok hy).2.2.2
  have hax:=(jB ok hx).2.1
  rw[evV,evV,← uN ok hxy,← ha] at he
  rw[← ha] at hxa hax
  rw[← uN ok hxy,← ha] at hya
  have way:∀z,(cpt (nbA g) a).getLsbD z=true→∃(m:Nat) (p:Nat→Nat),dsT (nbA g) a z=(m:Int)∧p 0=a∧p m=z∧∀i,i<m→(nbA g (p i:Int)).getLsbD (p (i+1))=true:=fun z hz=>by
   obtain⟨T,hT,hTz⟩:=dA.1 hz
   obtain⟨m,hm,hme⟩:=List.getElem_of_mem hT
   have hTm:(lvB (nbA g) a)[m]?=some T:=by rw[List.getElem?_eq_getElem hm,hme]
   obtain⟨p,p1,p2,_,p4⟩:=sI 1025 _ _ m z T hTm hTz
   exact⟨m,p,lz hTm hTz,(lc (az hax) _).1 p1,p2,p4⟩
  obtain⟨m,p,m1,m2,m3,m4⟩:=way x hxa
  obtain⟨k,q,k1,k2,k3,k4⟩:=way y hya
  rw[m1,k1] at he
  have hpar:(m+k) % 2=0:=by
   have:=decide_eq_decide.1 he
   omega
  obtain⟨f,hf⟩:∃f:Nat→Nat,f=fun i=>if i≤m then p i else q (m+k+1 - i):=⟨_,rfl⟩
  have f1:∀i,i≤m→f i=p i:=fun i hi=>by rw[hf];exact if_pos hi
  have f2:∀i,¬i≤m→f i=q (m+k+1 - i):=fun i hi=>by rw[hf];exact if_neg hi
  have hch:=uK (nb:=nbA g) (m+k) f fun i hi=>by
   by_cases h1:i+1≤m
   ·rw[f1 i (by omega),f1 _ h1];exact m4 i h1
   ·by_cases h2:i≤m
    ·have:i=m:=by omega
     subst this
     rw[f1 i (Nat.le_refl _),f2 _ h1,m3,show i+k+1 - (i+1)=k by omega,k3]
     exact hxy
    ·rw[f2 i h2,f2 _ h1]
     have:=k4 (m+k+1 - (i+1)) (by omega)
     rw[show m+k+1 - (i+1)+1=m+k+1 - i by omega] at this
     exact hs _ _ this
  rw[f1 0 (by omega),f2 (m+k+1) (by omega),m2,Nat.sub_self,k2] at hch
  exact h (m+k+1) ⟨a,_,hch,by rw[List.length_map,List.length_range],by omega⟩
end
def sdP (g:GT)(n:Nat)(p:List Int):Bool:=decide ((n:Int)∈p)&&decide (dsF g (p.getD 0 0) n % 2=0)
def sdV (g:GT)(n:Nat):List Int:=((ptF g).filter (sdP g n)).map fun _=>(n:Int)
theorem a4o {g:GT}(ok:Gr.Ok g){n:Nat}(hn:(aj g.1).getLsbD n=true):sdV g n=if evV (nbA g) n=true then [(n:Int)] else []:=by
 obtain⟨h1,h2,h3,h4⟩:=jB ok hn
 have hP:∀v,v∈(ah (aj g.1)).filter (fun v=>decide (aI (cpt (nbA g) v)=some v))→(sdP g n (elL (cpt (nbA g) v))=true↔v=rpV (nbA g) n∧evV (nbA g) n=true):=fun v hv=>by
  obtain⟨hv1,hv2⟩:=List.mem_filter.1 hv
  have hvV:=(aC.1 hv1).2
  have hm:=of_decide_eq_true hv2
  have h0:(elL (cpt (nbA g) v)).getD 0 0=(v:Int):=by rw[List.getD_eq_getElem?_getD,elL,nB,hm];rfl
  rw[sdP,nO,h0,Bool.and_eq_true,decide_eq_true_eq,bT]
  have hds:dsF g (v:Int) (n:Int)=dsT (nbA g) v n:=by rw[dsF,(bT _ v).2 hvV,(bT _ n).2 hn,Bool.true_and,if_pos rfl,Int.toNat_natCast,Int.toNat_natCast]
  rw[hds]
  constructor
  ·rintro⟨k1,k2⟩
   have hr:rpV (nbA g) n=v:=by rw[rpV,iY (cU ok) (az hvV) k1,hm];rfl
   exact⟨hr.symm,by rw[evV,hr];exact decide_eq_true k2⟩
  ·rintro⟨k1,k2⟩
   rw[k1]
   exact⟨h4,of_decide_eq_true k2⟩
 have hpt:ptF g=((ah (aj g.1)).filter fun v=>decide (aI (cpt (nbA g) v)=some v)).map fun v=>elL (cpt (nbA g) v):=by rw[ptF]
 have hm0:rpV (nbA g) n∈(ah (aj g.1)).filter (fun v=>decide (aI (cpt (nbA g) v)=some v)):=List.mem_filter.2 ⟨aC.2 ⟨az h2,h2⟩,decide_eq_true (by rw[h3];exact h1)⟩
 have hsr:((ah (aj g.1)).filter fun v=>decide (aI (cpt (nbA g) v)=some v)).Pairwise (· < ·):=(fj _).filter _
 rw[sdV,hpt]
 generalize (ah (aj g.1)).filter (fun v=>decide (aI (cpt (nbA g) v)=some v))=reps at hP hm0 hsr
 have hf:reps.filter (fun v=>sdP g n (elL (cpt (nbA g) v)))=if evV (nbA g) n=true then [rpV (nbA g) n] else []:=by
  refine nA _ _ (hsr.filter _) (by split;exact List.pairwise_singleton _ _;exact List.Pairwise.nil) fun v=>?_
  rw[List.mem_filter]
  constructor
  ·rintro⟨k1,k2⟩
   obtain⟨k3,k4⟩:=(hP v k1).1 k2
   rw[if_pos k4,k3];simp
  ·intro k
   by_cases he:evV (nbA g) n=true
   ·rw[if_pos he,List.mem_singleton] at k
    rw[k]
    exact⟨hm0,(hP _ hm0).2 ⟨rfl,he⟩⟩
   ·rw[if_neg he] at k;cases k
 have hfm:∀l:List Nat,((l.map fun v=>elL (cpt (nbA g) v)).filter (sdP g n)).map (fun _=>(n:Int))=(l.filter fun v=>sdP g n (elL (cpt (nbA g) v))).map fun _=>(n:Int):=by
  intro l
  induction l with
  | nil=>rfl
  | cons v l ih=>
   rw[List.map_cons]
   by_cases h:sdP g n (elL (cpt (nbA g) v))=true
   ·rw[List.filter_cons_of_pos h,List.filter_cons_of_pos (p:=fun v=>sdP g n (elL (cpt (nbA g) v))) h,List.map_cons,List.map_cons,ih]
   ·rw[List.filter_cons_of_neg h,List.filter_cons_of_neg (p:=fun v=>sdP g n (elL (cpt (nbA g) v))) h,ih]
 rw[hfm,hf]
 split <;> rfl
theorem a4p {g:GT}(ok:Gr.Ok g):(ah (aj g.1)).flatMap (sdV g)=ai (ah (bpO (nbA g) (aj g.1))):=by
 have h1:∀l:List Nat,(∀x∈l,(aj g.1).getLsbD x=true)→l.flatMap (sdV g)=ai (l.filter (evV (nbA g))):=by
  intro l
  induction l with
  | nil=>intro _;rfl
  | cons x l ih=>
   intro h
   rw[List.flatMap_cons,a4o ok (h x (by simp)),ih fun y hy=>h y (by simp[hy])]
   by_cases he:evV (nbA g) x=true
   ·rw[if_pos he,List.filter_cons_of_pos he];rfl
   ·rw[if_neg he,List.filter_cons_of_neg he];rfl
 rw[h1 _ fun x hx=>(aC.1 hx).2]
 refine congrArg ai (nA _ _ ((fj _).filter _) (fj _) fun x=>?_)
 rw[List.mem_filter,aC,aC,lA ok]
 exact⟨fun⟨⟨h1,h2⟩,h3⟩=>⟨h1,h2,h3⟩,fun⟨h1,h2,h3⟩=>⟨⟨h1,h2⟩,h3⟩⟩
theorem a4q {g:GT}(ok:Gr.Ok g){n:Nat}(hn:(aj g.1).getLsbD n=true){p:List Int}(hp:p∈ptF g)(hm:(n:Int)∈p):(∃m:Nat,p[0]?=some (m:Int))∧0≤dsF g (p.getD 0 0) n:=by
 rw[ptF] at hp
 obtain⟨v,hv,rfl⟩:=List.mem_map.1 hp
 obtain⟨hv1,hv2⟩:=List.mem_filter.1 hv
 have hvV:=(aC.1 hv1).2
 have hmv:=of_decide_eq_true hv2
 have h00:(elL (cpt (nbA g) v))[0]?=some (v:Int):=by rw[elL,nB,hmv];rfl
 have h0:(elL (cpt (nbA g) v)).getD 0 0=(v:Int):=by rw[List.getD_eq_getElem?_getD,h00,Option.getD_some]
 have hc:(cpt (nbA g) v).getLsbD n=true:=by
  have:=nO (cpt (nbA g) v) n
  rw[decide_eq_true hm] at this
  exact (bT _ n).1 this.symm
 refine⟨⟨v,h00⟩,?_⟩
 rw[h0,dsF,(bT _ v).2 hvV,(bT _ n).2 hn,Bool.true_and,if_pos rfl,Int.toNat_natCast,Int.toNat_natCast]
 obtain⟨T,hT,hTn⟩:=dA.1 hc
 obtain⟨j,hj,hje⟩:=List.getElem_of_mem hT
 rw[lz (show (lvB (nbA g) v)[j]?=some T by rw[List.getElem?_eq_getElem hj,hje]) hTn]
 omega
def sdL (g:GT):List Int:=if shF true (cyA g)=none then (ah (aj g.1)).flatMap (sdV g) else []
def sdB (g:GT):Bool:=decide (shF true (cyA g)=none)
theorem a4r {G:Nat→Prop}(g:GT)(ok:Gr.Ok g)(v:Value)(W:World)(h:(Dv gtE G g).p v W)(hl1:g.1.length≤7)(hl2:g.2.length≤100000) :
  Calls Tryz.prog 24 #[v] W (Post (Tup [Dv (slE intE) G0 (sdL g),E (B (sdB g))]) W):=by
 have hg0:(Dv gtE G0 g).p v W:=Dv.weak h fun b _ hb=>hb.elim
 obtain⟨u1,u2,rfl,h1,h2⟩:=Dv.gt.1 hg0
 replace h1:=Dv.toB h1
 have hvl:=eJ ok
 obtain⟨o,ho⟩:∃o,o=shF true (cyA g):=⟨_,rfl⟩
 rw[sdL,sdB,← ho]
 refine eN [.agg #[u1,u2]] [E (.agg #[u1,u2])] Tryz.func24 Tryz.ntmps24 ?_ fun a hf=>?_
 rotate_left
 rotate_right
 ·exact arg1 rfl
 have e:=Ext.rfl' W
 refine seq <| ac <| tB hf rfl fun a b1 w v1 hv1 e' hb1 hs1 B1 hf=>?_
 replace e:=e.tr e'
 refine tA hf rfl fun a hf=>tA hf rfl fun a hf=>aa ?_
 cases hv1
 replace hf:=hf.keep [1]
 have e1:=e
 repeat refine seq ?_
 refine rgN 2 hf <| st ((ldW T25 rfl B1 rfl).eq ((rfl:_=Value.agg #[u1,u2]))) <| st (aA (A:=CyA G0 o) (B:=E (.agg #[u1,u2])) pp rfl (fun v w he k=>by cases k;rw[ho];exact um g ok _ w (VA.st _ _ _ _ (Ext.tr e1 he) hg0) hl1 hl2)) ?_
 refine en fun a w e' hf=>?_
 obtain⟨e,B1⟩:=up2 e' e B1
 obtain⟨r,hr,hf⟩:=hf.opn 9 rfl
 replace hf:=hf.keep [1,9]
 cases o with
 | some c=>
  have hnc:ai c≠[]:=fun h=>hr.1 (by rw[ai] at h;exact List.map_eq_nil_iff.1 h)
  obtain⟨ad,n',c',rfl⟩:=fm hr.2 hnc
  refine tP hf (dB U35 rfl) fun a w e' hf=>?_
  obtain⟨e,B1⟩:=up2 e' e B1
  refine aa <| ifc hf rfl (fun _=>?_) (fun h=>by cases h)
  refine seq <| ac <| tA hf rfl fun a hf=>tA hf rfl fun a hf=>aa <| am <| fw rfl hf rfl rfl ?_
  rintro _ _ rfl rfl
  exact⟨_,rfl,e,Tup.two Dv.nil rfl⟩
 | none=>
  obtain rfl:r=.slice none 0 0:=hr
  rw[if_pos rfl]
  refine tP hf (dB U35 rfl) fun a w e' hf=>?_
  obtain⟨e,B1⟩:=up2 e' e B1
  refine aa <| ifc hf rfl (fun h=>by cases h) (fun _=>?_)
  refine ak ?_
  obtain⟨ids,hids⟩:∃ids,ids=ah (aj g.1):=⟨_,rfl⟩
  obtain⟨ps,hps⟩:∃ps,ps=ptF g:=⟨_,rfl⟩
  have hpl:ps.length≤7:=by rw[hps];exact Nat.le_trans (a4b ok) hl1
  rw[← hids] at hvl ⊢
  replace hf:=hf.keep [1]
  refine seq <| ac <| tA hf rfl fun a hf=>aa ?_
  have e4:=e
  refine seq <| rgN 2 hf <| st ((ldW T25 rfl B1 rfl).eq ((rfl:_=Value.agg #[u1,u2]))) <| st (aA (A:=Dv (slE (slE intE)) G0 ps) (B:=E (.agg #[u1,u2])) wb rfl (fun v w he k=>by cases k;rw[hps];exact a3g g ok _ w (VA.st _ _ _ _ (Ext.tr e4 he) hg0) (by omega) hl2 (fun b hb=>hb.elim))) ?_
  refine en fun a w e' hf=>?_
  obtain⟨e,B1⟩:=up2 e' e B1
  refine tA hf rfl fun a hf=>aa ?_
  replace hf:=hf.keep [1,4,5]
  obtain⟨N1,hN1⟩:∃N1,N1=w.heap.size:=⟨_,rfl⟩
  have hN1s:N1≤w.heap.size:=Nat.le_of_eq hN1
  have hWN:W.heap.size≤N1:=by rw[hN1];exact e.size
  have lb1:b1<N1:=by rw[hN1];exact B1.lt
  replace hf:=hf.upd (B:=Dv (slE (slE intE)) (fun b=>N1≤b) ps) 5 rfl (fun v h=>Dv.weak h fun b hb hh=>absurd hb (Nat.not_lt.2 (by omega)))
  replace hf:=hf.keep [1,4,5]
  repeat refine seq ?_
  refine ac <| tA hf rfl fun a hf=>aa ?_
  have Ho:OwR intE 3 N1 G0 w ((ids.take 0).flatMap (sdV g)) (.slice none 0 0):=OwR.nil intE _ hN1s fun b hb=>hb.elim
  have hsl:∀k,((ids.take k).flatMap (sdV g)).length≤49:=fun k=>by
   have:∀l:List Nat,(l.flatMap (sdV g)).length≤l.length * 7:=by
    intro l
    induction l with
    | nil=>exact Nat.zero_le _
    | cons x l ih=>
     have:(sdV g x).length≤7:=by rw[sdV,List.length_map,← hps];exact Nat.le_trans (List.length_filter_le _ _) hpl
     rw[List.flatMap_cons,List.length_append,List.length_cons];omega
   have h3:=this (ids.take k)
   have h4:=List.length_take_le' k ids
   omega
  replace hf:=hf.keep [1,4,5,6]
  refine blk (aL (fun r0 a w=>∃(k:Nat) (uo:Value),r0=g.1.length - k∧k≤g.1.length∧Fr 65 a w [(1,E (ptr b1)),(4,E uo),(5,Dv (slE (slE intE)) (fun b=>N1≤b) ps),(6,E (I k))]∧Ext W w∧Blk w b1 #[u1,u2] 25∧OwR intE 3 N1 G0 w ((ids.take k).flatMap (sdV g)) uo) g.1.length ⟨0,.slice none 0 0,rfl,by omega,hf,e,⟨B1,Ho⟩⟩ ?_)
  rintro r0 a w ⟨k,uo,rfl,hk,hf,e,B1,Ho⟩
  repeat refine seq ?_
  refine rgN 5 hf <| st (mv rfl) <| st (fA U25 rfl T22 rfl) <| st (ld1 T22 rfl B1 rfl) <| st (aD U22 (isE rfl (VA.st _ _ _ _ e h1))) <| st (lss rfl rfl) <| en fun a w e' hf=>?_
  obtain⟨e,B1,Ho⟩:=up3 e' e B1 Ho
  refine aa <| ifc hf rfl (fun hc=>ak ?_) (fun hc=>aK ?_)
  rotate_left
  rotate_left
  ·have hlt:k<g.1.length:=by have:=of_decide_eq_true hc;(try dsimp only at this);omega
   replace hf:=hf.keep [1,4,5,6]
   refine seq <| blk ?_
   have hx0:=List.getElem?_eq_getElem hlt
   generalize g.1[k]=x at hx0
   obtain⟨n,hn,hnV,hen⟩:=jj ok hx0
   rw[← hids] at hen
   obtain⟨x1,x2⟩:=x
   subst hn
   have hsc:(ids.take (k+1)).flatMap (sdV g)=(ids.take k).flatMap (sdV g)++(ps.filter (sdP g n)).map fun _=>(n:Int):=by rw[bA hen,List.flatMap_append,hps];simp[sdV]
   have hol:=hsl k
   generalize (ids.take k).flatMap (sdV g)=out at hsc hol Ho
   have Ho':OwR intE 3 N1 G0 w (out++(((ps.take 0).filter (sdP g n)).map fun _=>(n:Int))) uo:=by rw[List.take_zero,List.filter_nil,List.map_nil,List.append_nil];exact Ho
   have Ho:=Ho'
   refine seq <| ac <| tA hf rfl fun a hf=>aa ?_
   replace hf:=hf.keep [1,4,5,6,7]
   refine blk (aL (fun r0 a w=>∃(j:Nat) (uo:Value),r0=ps.length - j∧j≤ps.length∧Fr 65 a w [(1,E (ptr b1)),(4,E uo),(5,Dv (slE (slE intE)) (fun b=>N1≤b) ps),(6,E (I k)),(7,E (I j))]∧Ext W w∧Blk w b1 #[u1,u2] 25∧OwR intE 3 N1 G0 w (out++(((ps.take j).filter (sdP g n)).map fun _=>(n:Int))) uo) ps.length ⟨0,uo,rfl,by omega,hf,e,⟨B1,Ho⟩⟩ ?_)
   rintro r0 a w ⟨j,uo,rfl,hj,hf,e,B1,Ho⟩
   repeat refine seq ?_
   refine rgN 4 hf <| st (mv rfl) <| st (mv rfl) <| st (aD U39 (isR rfl)) <| st (lss rfl rfl) <| en fun a w e' hf=>?_
   obtain⟨e,B1,Ho⟩:=up3 e' e B1 Ho
   refine aa <| ifc hf rfl (fun hc=>ak ?_) (fun hc=>aK ?_)
   rotate_left
   rotate_left
   ·have hltj:j<ps.length:=by have:=of_decide_eq_true hc;(try dsimp only at this);omega
    replace hf:=hf.keep [1,4,5,6,7]
    refine seq <| blk ?_
    have hp:=List.getElem?_eq_getElem hltj
    generalize ps[j]=p at hp
    have hpm:p∈ptF g:=by rw[← hps];exact List.mem_of_getElem? hp
    have hpe:=a4c (g:=g) p hpm
    have hsp:(((ps.take (j+1)).filter (sdP g n)).map fun _=>(n:Int))=(((ps.take j).filter (sdP g n)).map fun _=>(n:Int))++if sdP g n p=true then [(n:Int)] else []:=by
     rw[bA hp,List.filter_append,List.map_append]
     by_cases hh:sdP g n p=true
     ·rw[if_pos hh,List.filter_cons_of_pos hh];rfl
     ·rw[if_neg hh,List.filter_cons_of_neg hh];rfl
    have hil:(((ps.take j).filter (sdP g n)).map fun _=>(n:Int)).length≤7:=by
     rw[List.length_map]
     exact Nat.le_trans (List.length_filter_le _ _) (Nat.le_trans (List.length_take_le' _ _) hpl)
    generalize (((ps.take j).filter (sdP g n)).map fun _=>(n:Int))=inn at hsp hil Ho
    have e5:=e
    refine seq <| cut (J:=fun a w=>Fr 65 a w [(1,E (ptr b1)),(4,E uo),(5,Dv (slE (slE intE)) (fun b=>N1≤b) ps),(6,E (I k)),(7,E (I j)),(54,E (B (sdP g n p)))]∧Ext W w∧Blk w b1 #[u1,u2] 25∧OwR intE 3 N1 G0 w (out++inn) uo) ?_ (fun a w hJ=>?_)
    ·by_cases hin:(n:Int)∈p
     ·obtain⟨⟨m,hm⟩,hpos⟩:=a4q ok hnV hpm hin
      have hgm:p.getD 0 0=(m:Int):=by rw[List.getD_eq_getElem?_getD,hm,Option.getD_some]
      rw[hgm] at hpos
      have hsd:sdP g n p=decide (dsF g (m:Int) n % 2=0):=by rw[sdP,decide_eq_true hin,Bool.true_and,hgm]
      have hdin:decide ((n:Int)∈p)=true:=decide_eq_true hin
      refine rgG 29 Mix.mix hf <| st (mv rfl) <| st (mv rfl) <| st (aF U39 S35 (isR rfl) rfl (by omega) (hp)) <| st (ldD T35 (isR rfl)) <| st (fA U25 rfl T22 rfl) <| st (ld1 T22 rfl B1 rfl) <| st (mv rfl) <| st (aF U22 S45 (isE rfl (VA.st _ _ _ _ e h1)) rfl (by omega) (hx0)) <| st (aB U45 rfl T3 (by decide) (Fld.fst Fld.refl) (isR rfl)) <| st (ldI T3 (isR rfl)) <| st (ap (A:=E (B true)) (B:=Dv (slE intE) (fun b=>N1≤b) p) (C:=E (I (n:Nat))) gw rfl rfl (fun v s w' he k1 k2=>by cases k2;have:=jm p (n:Int) v w' k1 hpe;rwa [hdin] at this)) ?_
      refine st (mv rfl) <| sy rfl rfl ((ldW T25 rfl B1 rfl).eq ((rfl:_=Value.agg #[u1,u2]))) <| sy rfl rfl (mv rfl) <| sy rfl rfl (mv rfl) <| sy rfl rfl (aF U39 S35 (isR rfl) rfl (by omega) (hp)) <| sy rfl rfl (ldD T35 (isR rfl)) <| sy rfl rfl (aF (j:=0) U35 S3 (isR rfl) rfl rfl hm) <| sy rfl rfl (ldI T3 (isR rfl)) <| sy rfl rfl (fA U25 rfl T22 rfl) <| sy rfl rfl (ld1 T22 rfl B1 rfl) <| sy rfl rfl (mv rfl) <| sy rfl rfl (aF U22 S45 (isE rfl (VA.st _ _ _ _ e h1)) rfl (by omega) (hx0)) <| sy rfl rfl (aB U45 rfl T3 (by decide) (Fld.fst Fld.refl) (isR rfl)) <| sy rfl rfl (ldI T3 (isR rfl)) <| sy rfl rfl (bZ (A:=E (I (dsF g (m:Int) n))) (B:=E (.agg #[u1,u2])) (C:=E (I (m:Nat))) (D:=E (I (n:Nat))) we rfl rfl rfl (fun a b c w' he k1 k2 k3=>by cases k1;cases k2;cases k3;exact a4h g ok (m:Int) (n:Int) _ w' (VA.st _ _ _ _ (Ext.tr e5 he) hg0) (by omega) hl2)) ?_
      refine sy rfl rfl (rem rfl rfl ⟨hpos,by decide⟩) <| sy rfl rfl ((eql rfl rfl).eq (congrArg Value.bool ((show (dsF g (m:Int) n % 2==0)=sdP g n p by rw[hsd,Bool.eq_iff_iff,beq_iff_eq,decide_eq_true_eq])))) <| st (pkT rfl rfl) <| en fun a w e' hf=>?_
      obtain⟨e,B1,Ho⟩:=up3 e' e B1 Ho
      refine aa ?_
      replace hf:=hf.keep [1,4,5,6,7,54]
      exact⟨rfl,hf,e,B1,Ho⟩
     ·have hsd:sdP g n p=false:=by rw[sdP,decide_eq_false hin,Bool.false_and]
      have hdin:decide ((n:Int)∈p)=false:=decide_eq_false hin
      refine rgG 29 Mix.mix hf <| st (mv rfl) <| st (mv rfl) <| st (aF U39 S35 (isR rfl) rfl (by omega) (hp)) <| st (ldD T35 (isR rfl)) <| st (fA U25 rfl T22 rfl) <| st (ld1 T22 rfl B1 rfl) <| st (mv rfl) <| st (aF U22 S45 (isE rfl (VA.st _ _ _ _ e h1)) rfl (by omega) (hx0)) <| st (aB U45 rfl T3 (by decide) (Fld.fst Fld.refl) (isR rfl)) <| st (ldI T3 (isR rfl)) <| st (ap (A:=E (B false)) (B:=Dv (slE intE) (fun b=>N1≤b) p) (C:=E (I (n:Nat))) gw rfl rfl (fun v s w' he k1 k2=>by cases k2;have:=jm p (n:Int) v w' k1 hpe;rwa [hdin] at this)) ?_
      refine st (mv rfl) <| sn rfl rfl rfl <| sn rfl rfl rfl <| sn rfl rfl rfl <| sn rfl rfl rfl <| sn rfl rfl rfl <| sn rfl rfl rfl <| sn rfl rfl rfl <| sn rfl rfl rfl <| sn rfl rfl rfl <| sn rfl rfl rfl <| sn rfl rfl rfl <| sn rfl rfl rfl <| sn rfl rfl rfl <| sn rfl rfl rfl <| sn rfl rfl rfl <| sn rfl rfl rfl <| st (pkF rfl rfl) <| en fun a w e' hf=>?_
      obtain⟨e,B1,Ho⟩:=up3 e' e B1 Ho
      refine aa ?_
      rw[← hsd] at hf
      replace hf:=hf.keep [1,4,5,6,7,54]
      exact⟨rfl,hf,e,B1,Ho⟩
    obtain⟨hf,e,B1,Ho⟩:=hJ
    cases hsp0:sdP g n p with
    | false=>
     rw[hsp0] at hf
     refine ifc hf rfl (fun h=>by cases h) (fun _=>?_)
     refine ak <| rgN 2 hf <| st (mv rfl) <| st ((add rfl rfl (by omega)).eq (congrArg (Value.int .i64) (show (j:Int)+1=((j+1:Nat):Int) from rfl))) <| en fun a w e' hf=>?_
     obtain⟨e,B1,Ho⟩:=up3 e' e B1 Ho
     refine tA hf rfl fun a hf=>aa ?_
     replace hf:=hf.kp [1,4,5,6,7]
     refine⟨_,?_,j+1,uo,rfl,by omega,hf,e,?_⟩
     ·omega
     rw[hsp,hsp0,if_neg (by decide),List.append_nil]
     exact⟨B1,Ho⟩
    | true=>
     rw[hsp0] at hf
     refine ifc hf rfl (fun _=>?_) (fun h=>by cases h)
     replace hf:=hf.kp [1,4,5,6,7]
     have n1:=Ho.neLt lb1
     haveI:InR (fun b=>N1≤b) uo.ownBlock:=⟨fun b hb=>(Ho.lt hb).1⟩
     refine rgN 8 hf <| st (mv rfl) <| st (fA U25 rfl T22 rfl) <| st (ld1 T22 rfl B1 rfl) <| st (mv rfl) <| st (aF U22 S45 (isE rfl (VA.st _ _ _ _ e h1)) rfl (by omega) (hx0)) <| st (aB U45 rfl T3 (by decide) (Fld.fst Fld.refl) (isR rfl)) <| st (ldI T3 (isR rfl)) <| st (aY U35 I3 rfl (by decide) rfl Ho.avs (isI rfl)) <| en fun a w e' hf=>?_
     obtain⟨Ho,e,B1⟩:=up3 e' Ho e B1
     haveI hin:∀G0,InR (GB W G0) _:=OwR.inGB (W:=W) Ho hWN
     refine bE U35 I3 rfl rfl hf (by decide) rfl Ho (isR rfl) (by simp only[List.length_append,List.length_singleton];omega) (by simp only[List.length_append,List.length_singleton,maxLen];omega) fun a v w hg hat Hn hf=>?_
     replace e:=e.gro hg (Ho.row (W:=W) hWN)
     have hrow:=Ho.row (W:=W) hWN
     replace Ho:=Hn
     replace B1:=B1.gro hg (by assumption)
     replace Ho:=Hn;clear Hn hg hat hin
     refine tA hf rfl fun a hf=>aa <| rgN 2 hf <| st (mv rfl) <| st ((add rfl rfl (by omega)).eq (congrArg (Value.int .i64) (show (j:Int)+1=((j+1:Nat):Int) from rfl))) <| en fun a w e' hf=>?_
     obtain⟨e,B1,Ho⟩:=up3 e' e B1 Ho
     refine tA hf rfl fun a hf=>aa ?_
     replace hf:=hf.keep [1,4,5,6,7]
     refine⟨_,?_,j+1,_,rfl,by omega,hf,e,?_⟩
     ·omega
     rw[hsp,hsp0,if_pos rfl,← List.append_assoc]
     exact⟨B1,Ho⟩
   ·obtain rfl:j=ps.length:=by have:=of_decide_eq_false hc;(try dsimp only at this);omega
    rw[List.take_length,← hsc] at Ho
    refine rgN 2 hf <| st (mv rfl) <| st ((add rfl rfl (by omega)).eq (congrArg (Value.int .i64) (show (k:Int)+1=((k+1:Nat):Int) from rfl))) <| en fun a w e' hf=>?_
    obtain⟨e,B1,Ho⟩:=up3 e' e B1 Ho
    refine tA hf rfl fun a hf=>aa ?_
    replace hf:=hf.keep [1,4,5,6]
    refine⟨_,?_,k+1,_,rfl,by omega,hf,e,?_⟩
    ·omega
    exact⟨B1,Ho⟩
  ·obtain rfl:k=g.1.length:=by have:=of_decide_eq_false hc;(try dsimp only at this);omega
   rw[List.take_of_length_le (Nat.le_of_eq hvl)] at Ho
   replace hf:=hf.keep [4]
   refine seq <| rgN 1 hf <| st (mv rfl) <| en fun a w e' hf=>?_
   obtain⟨Ho,e⟩:=up2 e' Ho e
   refine tA hf rfl fun a hf=>tA hf rfl fun a hf=>aa <| am <| fw rfl hf rfl rfl ?_
   rintro _ _ rfl rfl
   exact⟨_,rfl,e,Tup.two Ho.sl rfl⟩
theorem uP {o:Option (List Nat)}{v:Value}{w:World}(h:(CyA G0 o).p v w):(Dv (slE intE) G0 (ai (o.getD []))).p v w:=by
 cases o with
 | none=>obtain rfl:v=.slice none 0 0:=h;exact Dv.nil
 | some out=>exact h.2
def dF (l:List Nat):BS:=l.foldl (fun (S:BS) (x:Nat)=>ins S (x:Int)) 0
theorem a4s {l:List Nat}(h:∀x∈l,x<1024)(n:Nat):(dF l).getLsbD n=true↔n∈l:=by
 have key:∀(l:List Nat) (S:BS),(∀x∈l,x<1024)→((l.foldl (fun (S:BS) (x:Nat)=>ins S (x:Int)) S).getLsbD n=true↔S.getLsbD n=true∨n∈l):=by
  intro l
  induction l with
  | nil=>intro S _;simp
  | cons x l ih=>
   intro S h
   rw[List.foldl_cons,ih _ fun y hy=>h y (by simp[hy]),bq _ (h x (by simp)),List.mem_cons,or_assoc]
 rw[dF,key l 0 h]
 exact⟨fun h=>h.resolve_left (aS n),.inr⟩
theorem law7B_spec {G:Nat→Prop}(g:GT)(v:Value)(W:World)(hT:Tab W)(h:(Dv gtE G g).p v W)(hV:∀x∈g.1,0≤x.2.1∧x.2.1<256)(hE:∀x∈g.2,0≤x.2.1∧x.2.1<256) :
  Calls Tryz.prog 5 #[v] W (Post (E (B true)) W):=by
 have hT0:=hT.lt
 obtain⟨u1,u2,rfl,h1,h2⟩:=Dv.gt.1 (Dv.weak (G':=G0) h fun b _ hb=>hb.elim)
 have hg0:(Dv gtE G0 g).p (.agg #[u1,u2]) W:=Dv.gt.2 ⟨_,_,rfl,h1,h2⟩
 refine eN [.agg #[u1,u2]] [E (.agg #[u1,u2])] Tryz.func5 Tryz.ntmps5 ?_ fun a hf=>?_
 rotate_left
 dsimp only[params,Nat.reduceAdd] at hf
 rotate_right
 ·exact arg1 rfl
 have e:=Ext.rfl' W
 refine seq <| ac <| tB hf rfl fun a b1 w v1 hv1 e' hb1 hs1 B1 hf=>?_
 obtain⟨hT,e⟩:=up2 e' hT e
 refine tA hf rfl fun a hf=>aa ?_
 cases hv1
 have e1:=e
 refine seq <| rgN 5 hf <| st ((ldW T25 rfl B1 rfl).eq ((rfl:_=Value.agg #[u1,u2]))) <| st (aA (A:=Tup [FrM g,Dv gtE G0 (frM g).1]) vU rfl (fun v w he k1=>by cases k1;exact a1L g _ w (VA.st _ _ _ _ (Ext.tr e1 he) hg0) hV hE)) ?_
 refine st (mv rfl) <| st (bj rfl rfl) <| st (bj rfl rfl) <| en fun a w e' hf=>?_
 obtain⟨hT,e,B1⟩:=up3 e' hT e B1
 obtain⟨z,hz,hf⟩:=hf.opn 17 rfl
 obtain⟨z1,z2,rfl,hz1,hz2⟩:=Dv.gt.1 hz
 have hzo:(#[z1,z2]:Array Value).all (·.oneCell')=true:=bG (slOne hz1) (slOne hz2)
 obtain⟨gv,hgv,hf⟩:=hf.opn 16 rfl
 obtain⟨W1,hW1⟩:∃W1,W1=w:=⟨_,rfl⟩
 have e2:Ext W1 w:=by rw[hW1];exact Ext.rfl' _
 replace hgv:(FrM g).p gv W1:=by rw[hW1];exact hgv
 have hzz:(Dv gtE G0 (frM g).1).p (.agg #[z1,z2]) W1:=by rw[hW1];exact hz
 have hWW:W1.heap.size≤w.heap.size:=e2.size
 have hW0:W.heap.size≤W1.heap.size:=by rw[hW1];exact e.size
 replace hf:=hf.kp [16,17]
 refine tL I25 hf fun a b4 w e' hb4 hs4 B4 hf=>?_
 obtain⟨hT,e2,e⟩:=up3 e' hT e2 e
 refine tA hf rfl fun a hf=>?_
 have n4:W1.heap.size≤b4:=by omega
 refine aG T25 hf rfl rfl hzo B4 rfl rfl fun w hg hsz B4 hf=>?_
 obtain⟨e,hT⟩:=gr2 hg e hT
 replace e2:=e2.gr hg n4
 refine aa ?_
 replace hf:=hf.keep [3,4]
 cases hfr':(frM g).2 with
 | false=>
  obtain rfl:=hgv.2 hfr'
  repeat refine seq ?_
  refine rgN 2 hf <| st (mv rfl) <| st (a0S U26 rfl rfl (.inl rfl)) <| en fun a w e' hf=>?_
  obtain⟨hT,e2,e,B4⟩:=up4 e' hT e2 e B4
  refine aa <| ifc hf rfl (fun _=>?_) (fun h=>by cases h)
  refine seq <| rgN 1 hf <| st (jF (A:=E (B true)) pi (fun w he=>uB w (hT.ext he))) <| en fun a w e' hf=>?_
  obtain⟨hT,e2,e,B4⟩:=up4 e' hT e2 e B4
  refine tA hf rfl fun a hf=>aa <| am <| an rfl hf rfl ?_
  rintro _ rfl
  exact⟨_,rfl,e,rfl⟩
 | true=>
  obtain⟨ok,l1,l2⟩:=a4a hfr' hV hE
  have hgd:=hgv.1 hfr'
  generalize (frM g).1=gg at ok l1 l2 hgd hzz
  have hl1:gg.1.length≤100000:=by omega
  have hl2:gg.2.length≤100000:=by omega
  repeat refine seq ?_
  refine rgN 2 hf <| st (mv rfl) <| st (eU U26 (isE rfl (VA.st _ _ _ _ e2 hgd))) <| en fun a w e' hf=>?_
  obtain⟨hT,e2,e,B4⟩:=up4 e' hT e2 e B4
  refine aa <| ifc hf rfl (fun h=>by cases h) (fun _=>?_)
  refine ak ?_
  obtain⟨ho1,ho2⟩:=a4l ok
  have hbo:=a4n ok
  have hfit:=uO ok
  have hbit:=lA ok
  have hsd:=a4p ok
  obtain⟨o,ho⟩:∃o,o=fq (nbA gg) (aj gg.1):=⟨_,rfl⟩
  obtain⟨bb,hbb⟩:∃bb,bb=bpB (nbA gg) (aj gg.1):=⟨_,rfl⟩
  obtain⟨xs,hxs⟩:∃xs,xs=bpL (nbA gg) (aj gg.1):=⟨_,rfl⟩
  rw[← ho] at ho1 ho2
  rw[← hbb] at hbo hfit
  have hob:bb=true↔o=none:=hbo.trans ho2.symm
  have hsL:sdL gg=ai xs:=by
   rw[sdL,ho1,hxs,bpL,← hbb]
   by_cases h:o=none
   ·rw[if_pos h,if_pos (hob.2 h),hsd]
   ·rw[if_neg h,if_neg fun hh=>h (hob.1 hh)];rfl
  have hsB:sdB gg=bb:=by
   rw[sdB,ho1,Bool.eq_iff_iff,decide_eq_true_eq];exact hob.symm
  have hx1:∀x∈xs,x<1024:=fun x hx=>by
   rw[hxs,bpL] at hx
   split at hx
   ·exact (aC.1 hx).1
   ·cases hx
  have hxl:xs.length≤1024:=by
   rw[hxs,bpL];split
   ·exact ey _
   ·exact Nat.zero_le _
  have hxm:bb=true→∀n,n∈xs↔(aj gg.1).getLsbD n=true∧evV (nbA gg) n=true:=fun h n=>by
   rw[hxs,bpL,← hbb,if_pos h,aC,hbit]
   exact⟨fun h=>h.2,fun h=>⟨az h.1,h⟩⟩
  have hoe:o=none∨∃c,o=some c∧c≠[]∧c.length≤100000:=by
   cases hh:o with
   | none=>exact .inl rfl
   | some c=>
    have h1:=((jr true (cyA gg) none).2 c (by rw[← hh,← ho1];rfl)).1.resolve_left (by simp)
    exact .inr ⟨c,rfl,(ul ok l1).2 c h1.1⟩
  obtain⟨z,hz⟩:∃z,z=ai (o.getD []):=⟨_,rfl⟩
  have hzl:z.length≤100000:=by
   rcases hoe with h|⟨c,h,_,h1⟩
   ·rw[hz,h];exact Nat.zero_le _
   ·rw[hz,h,bB];exact h1
  have hz0:(z.length=0)↔o=none:=by
   rcases hoe with h|⟨c,h,h1,_⟩
   ·rw[hz,h];simp[ai]
   ·rw[hz,h,bB]
    exact⟨fun h2=>absurd (List.eq_nil_of_length_eq_zero h2) h1,fun h2=>by cases h2⟩
  have hxn:=bB xs
  obtain⟨ys,hys⟩:∃ys,ys=ai xs:=⟨_,rfl⟩
  rw[← hys] at hsL hxn
  have d1:decide (z=z)=true:=decide_eq_true rfl
  have d2:decide (ys=ys)=true:=decide_eq_true rfl
  have hzb:(bb != (((z.length:Nat):Int)==0))=false:=by
   rw[bne_eq_false_iff_eq,Bool.eq_iff_iff,beq_iff_eq,hob,← hz0];omega
  have hze:(Dv (slE etE) G0 gg.2).p z2 W1:=by
   obtain⟨y1,y2,q0,_,q2⟩:=Dv.gt.1 hzz
   cases q0;exact q2
  have e4:=e2
  refine seq <| rgN 5 hf <| st (mv rfl) <| st (aA (A:=Tup [Dv (slE intE) G0 ys,E (B bb)]) (B:=E gv) pk rfl (fun v w he k=>by cases k;rw[hys,hxs,hbb];exact tJ gg ok gv w (hT.ext he) (VA.st _ _ _ _ (Ext.tr e4 he) hgd) hl1 hl2 (by omega))) ?_
  refine st (mv rfl) <| st (bj rfl rfl) <| st (bj rfl rfl) <| en fun a w e' hf=>?_
  obtain⟨hT,e2,e,B4⟩:=up4 e' hT e2 e B4
  refine tA hf rfl fun a hf=>tA hf rfl fun a hf=>aa ?_
  replace hf:=hf.keep [3,4,5,6]
  have e5:=e2
  refine seq <| rgN 5 hf <| st ((ldW T25 rfl B4 rfl).eq ((rfl:_=Value.agg #[z1,z2]))) <| st (aA (A:=Tup [Dv (slE intE) G0 ys,E (B bb)]) (B:=E (.agg #[z1,z2])) wa rfl (fun v w he k=>by cases k;have h9:=a4r gg ok _ w (VA.st _ _ _ _ (Ext.tr e5 he) hzz) l1 hl2;rw[hsL,hsB] at h9;exact h9)) ?_
  refine st (mv rfl) <| st (bj rfl rfl) <| st (bj rfl rfl) <| en fun a w e' hf=>?_
  obtain⟨hT,e2,e,B4⟩:=up4 e' hT e2 e B4
  refine tA hf rfl fun a hf=>tA hf rfl fun a hf=>aa ?_
  replace hf:=hf.keep [3,4,5,6,7,8]
  have e6:=e2
  refine seq <| rgN 2 hf <| st (mv rfl) <| st (aA (A:=Dv (slE intE) G0 z) (B:=E gv) pm rfl (fun v w he k=>by cases k;have h9:=tH gg ok gv w (hT.ext he) (VA.st _ _ _ _ (Ext.tr e6 he) hgd) hl1 hl2 (by omega);rw[← ho] at h9;rw[hz];exact h9.mono fun en w' ⟨u,k1,k2,k3⟩=>⟨u,k1,k2,uP k3⟩)) ?_
  refine en fun a w e' hf=>?_
  obtain⟨hT,e2,e,B4⟩:=up4 e' hT e2 e B4
  refine tA hf rfl fun a hf=>aa ?_
  replace hf:=hf.keep [4,5,6,7,8,9]
  have e7:=e2
  repeat refine seq ?_
  refine rgN 23 hf <| st (mv rfl) <| st (mv rfl) <| st ((oc U4 rfl rfl).eq (congrArg Value.bool (bne_self_eq_false bb))) <| st (mv rfl) <| sy rfl rfl (mv rfl) <| sy rfl rfl (mv rfl) <| sy rfl rfl (ap (A:=E (B true)) (B:=Dv (slE intE) G0 ys) (C:=Dv (slE intE) G0 ys) fB rfl rfl (fun v u w he k k'=>by have:=fU ys ys v u w k k' (by omega) (by omega);rwa [d2] at this)) ?_
  refine sy rfl rfl (aX rfl) <| st (pkF rfl rfl) <| st (mv rfl) <| sy rfl rfl (mv rfl) <| sy rfl rfl ((ldW T25 rfl B4 rfl).eq ((rfl:_=Value.agg #[z1,z2]))) <| sy rfl rfl (aA (A:=Dv (slE intE) G0 z) (B:=E (.agg #[z1,z2])) pp rfl (fun v w he k=>by cases k;have h9:=um gg ok _ w (VA.st _ _ _ _ (Ext.tr e7 he) hzz) l1 hl2;rw[ho1] at h9;rw[hz];exact h9.mono fun en w' ⟨u,k1,k2,k3⟩=>⟨u,k1,k2,uP k3⟩)) ?_
  refine sy rfl rfl (ap (A:=E (B true)) (B:=Dv (slE intE) G0 z) (C:=Dv (slE intE) G0 z) fB rfl rfl (fun v u w he k k'=>by have:=fU z z v u w k k' (by omega) (by omega);rwa [d1] at this)) ?_
  refine sy rfl rfl (aX rfl) <| st (pkF rfl rfl) <| st (mv rfl) <| sy rfl rfl (mv rfl) <| sy rfl rfl (mv rfl) <| sy rfl rfl (aD U35 (isR rfl)) <| sy rfl rfl (eql rfl rfl) <| sy rfl rfl ((oc U4 rfl rfl).eq (congrArg Value.bool (hzb))) <| st (pkF rfl rfl) <| en fun a w e' hf=>?_
  obtain⟨hT,e2,e,B4⟩:=up4 e' hT e2 e B4
  refine aa <| ifc hf rfl (fun h=>by cases h) (fun _=>?_)
  refine ak ?_
  replace hf:=hf.keep [4,5,6]
  have hw9:b4<w.heap.size∧W.heap.size≤w.heap.size∧W1.heap.size≤w.heap.size:=⟨B4.lt,e.size,e2.size⟩
  obtain⟨N9,hN9⟩:∃N9,N9=w.heap.size:=⟨_,rfl⟩
  replace hf:=hf.upd (B:=Dv (slE intE) (fun b=>N9≤b) ys) 5 rfl (fun v h=>Dv.weak h fun b hb hh=>absurd hb (Nat.not_lt.2 (by omega)))
  replace hf:=hf.keep [4,5,6]
  refine seq <| ac <| ez bKV hf (by decide) fun a bm w e' hbm hsz HM hf=>?_
  replace e:=e.tr e';replace hT:=hT.ext e';replace e2:=Ext.tr e2 e';replace B4:=B4.ext e';clear e'
  have n4:b4≠bm∧W.heap.size≤bm∧W1.heap.size≤bm:=by omega
  haveI:InR (fun b=>N9≤b) (some bm):=⟨fun b hb=>by cases hb;omega⟩
  have hi0:dF (xs.take 0)=0:=by rw[List.take_zero,dF,List.foldl_nil]
  have HS:SeR w bm (dF (xs.take 0)):=by rw[hi0];exact⟨[],HM,(fun p hp=>by cases hp),fun n hn=>absurd hn (aS n)⟩
  refine tA hf rfl fun a hf=>aa ?_
  replace hf:=hf.keep [4,5,6,10]
  repeat refine seq ?_
  refine ac <| tA hf rfl fun a hf=>aa ?_
  replace hf:=hf.kp [4,5,6,10,11]
  refine blk (aL (fun r0 a w=>∃(k:Nat) ,r0=ys.length - k∧k≤ys.length∧Fr 96 a w [(4,E (ptr b4)),(5,Dv (slE intE) (fun b=>N9≤b) ys),(6,E (B bb)),(10,E (.map (some bm))),(11,E (I k))]∧Ext W w∧Blk w b4 #[z1,z2] 25∧Tab w∧Ext W1 w∧SeR w bm (dF (xs.take k))) ys.length ⟨0,rfl,by omega,hf,e,⟨B4,hT,e2,HS⟩⟩ ?_)
  rintro r0 a w ⟨k,rfl,hk,hf,e,B4,hT,e2,HS⟩
  repeat refine seq ?_
  refine rgN 4 hf <| st (mv rfl) <| st (mv rfl) <| st (aD U35 (isR rfl)) <| st (lss rfl rfl) <| en fun a w e' hf=>?_
  obtain⟨hT,e2,HS,e,B4⟩:=up5 e' hT e2 HS e B4
  refine aa <| ifc hf rfl (fun hc=>ak ?_) (fun hc=>aK ?_)
  rotate_left
  rotate_left
  ·have hlt:k<ys.length:=by have:=of_decide_eq_true hc;(try dsimp only at this);omega
   replace hf:=hf.kp [4,5,6,10,11]
   refine seq <| blk ?_
   have hx0:=List.getElem?_eq_getElem (show k<xs.length by omega)
   generalize xs[k]=n at hx0
   have hn1:=hx1 n (List.mem_of_getElem? hx0)
   have hwn:(Lit.int .i64 (n:Int)).wf=true:=bK (by omega) (by omega)
   have hyk:ys[k]?=some (n:Int):=by rw[hys];exact ju hx0
   have hsc:dF (xs.take (k+1))=ins (dF (xs.take k)) (n:Int):=by rw[bA hx0,dF,dF,List.foldl_append,List.foldl_cons,List.foldl_nil]
   generalize dF (xs.take k)=S at hsc HS
   refine rgN 5 hf <| st (mv rfl) <| st (mv rfl) <| st (mv rfl) <| st (aF U35 S3 (isR rfl) rfl (by omega) (hyk)) <| st (ldI T3 (isR rfl)) <| en fun a w e' hf=>?_
   obtain⟨hT,e2,HS,e,B4⟩:=up5 e' hT e2 HS e B4
   replace hf:=hf.kp [4,5,6,10,11,63,67]
   obtain⟨l,HM,q2,q3⟩:=HS
   have hll:=nM HM q2
   refine dO (V:=bKV) (i:=(n:Int)) (c:=true) U49 hf rfl rfl rfl HM (by simp only[maxLen];omega) hwn trivial fun w hg HM hf=>?_
   have HS:SeR w bm (ins S (n:Int)):=SeR.put hn1 HM q2 q3
   rw[← hsc] at HS
   replace e:=e.gr hg (by omega);replace B4:=B4.gr hg n4.1;replace hT:=hT.gr hg (by omega);replace e2:=e2.gr hg (by omega);clear hg HM q2 q3 hll
   refine aa <| rgN 2 hf <| st (mv rfl) <| st ((add rfl rfl (by omega)).eq (congrArg (Value.int .i64) (show (k:Int)+1=((k+1:Nat):Int) from rfl))) <| en fun a w e' hf=>?_
   obtain⟨hT,e2,HS,e,B4⟩:=up5 e' hT e2 HS e B4
   refine tA hf rfl fun a hf=>aa ?_
   replace hf:=hf.kp [4,5,6,10,11]
   refine⟨_,?_,k+1,rfl,by omega,hf,e,?_⟩
   ·omega
   exact⟨B4,hT,e2,HS⟩
  ·obtain rfl:k=ys.length:=by have:=of_decide_eq_false hc;(try dsimp only at this);omega
   rw[hxn,List.take_length] at HS
   have hSb:=a4s hx1
   generalize dF xs=S at HS hSb
   replace hf:=hf.keep [4,6,10]
   repeat refine seq ?_
   refine ac <| tA hf rfl fun a hf=>aa ?_
   obtain⟨m,hm⟩:∃m,m=if bb=true then gg.2.length else 0:=⟨_,rfl⟩
   have hcd:∀k:Nat,(decide ((k:Int)<((gg.2.length:Nat):Int))&&bb)=decide (k<m):=fun k=>by
    rw[hm]
    cases bb with
    | true=>rw[if_pos rfl,Bool.and_true];exact decide_eq_decide.2 (by omega)
    | false=>rw[if_neg (by decide),Bool.and_false];rfl
   replace hf:=hf.keep [4,6,10,12]
   refine blk (aL (fun r0 a w=>∃(k:Nat) ,r0=m - k∧k≤m∧Fr 96 a w [(4,E (ptr b4)),(6,E (B bb)),(10,E (.map (some bm))),(12,E (I k))]∧Ext W w∧Blk w b4 #[z1,z2] 25∧Tab w∧Ext W1 w∧SeR w bm S) m ⟨0,rfl,by omega,hf,e,⟨B4,hT,e2,HS⟩⟩ ?_)
   rintro r0 a w ⟨k,rfl,hk,hf,e,B4,hT,e2,HS⟩
   repeat refine seq ?_
   refine rgN 8 hf <| st (mv rfl) <| st (fA U25 rfl T23 rfl) <| st (ld1 T23 rfl B4 rfl) <| st (aD U23 (isE rfl (VA.st _ _ _ _ e2 hze))) <| st (lss rfl rfl) <| st (mv rfl) <| sgE rfl rfl (.k 6 rfl .n) (fun hgd=>mv rfl) <| st ((bD rfl rfl (fun h=>by rw[h];rfl)).eq (congrArg Value.bool (hcd k))) ?_
   refine en fun a w e' hf=>?_
   obtain⟨hT,e2,HS,e,B4⟩:=up5 e' hT e2 HS e B4
   refine aa <| ifc hf rfl (fun hc=>ak ?_) (fun hc=>aK ?_)
   rotate_left
   rotate_left
   ·have hlt:k<m:=by have:=of_decide_eq_true hc;(try dsimp only at this);omega
    replace hf:=hf.keep [4,6,10,12]
    refine seq <| blk ?_
    have hbt:bb=true:=by
     cases hb:bb with
     | true=>rfl
     | false=>rw[hm,hb,if_neg (by decide)] at hlt;omega
    have hkg:k<gg.2.length:=by rw[hm,if_pos hbt] at hlt;exact hlt
    have hx0:=List.getElem?_eq_getElem hkg
    generalize gg.2[k]=x at hx0
    obtain⟨p,q,hpq,_,hp,hq⟩:=gN ok x (List.mem_of_getElem? hx0)
    have hadj:(nbA gg (p:Int)).getLsbD q=true:=(cm ok).2 ⟨x,List.mem_of_getElem? hx0,.inl hpq⟩
    have hne:=hfit.1 hbt p q hadj
    have hbx:=hxm hbt
    have hSS:(S.getLsbD p==S.getLsbD q)=false:=by
     have hp':S.getLsbD p=evV (nbA gg) p:=by rw[Bool.eq_iff_iff,hSb,hbx];exact⟨fun h=>h.2,fun h=>⟨hp,h⟩⟩
     have hq':S.getLsbD q=evV (nbA gg) q:=by rw[Bool.eq_iff_iff,hSb,hbx];exact⟨fun h=>h.2,fun h=>⟨hq,h⟩⟩
     rw[hp',hq'];exact beq_eq_false_iff_ne.2 hne
    obtain⟨x1,x2⟩:=x
    subst hpq
    refine seq <| rgG 17 Mix.mix hf <| st (mv rfl) <| st (fA U25 rfl T23 rfl) <| st (ld1 T23 rfl B4 rfl) <| st (mv rfl) <| st (aF U23 S51 (isE rfl (VA.st _ _ _ _ e2 hze)) rfl (by omega) (hx0)) <| st (aB U51 rfl T3 (by decide) (Fld.fst (Fld.fst Fld.refl)) (isR rfl)) <| st (ldI T3 (isR rfl)) <| st (ji U49 rfl HS rfl (az hp)) <| st (mv rfl) <| st (fA U25 rfl T23 rfl) <| st (ld1 T23 rfl B4 rfl) <| st (mv rfl) <| st (aF U23 S51 (isE rfl (VA.st _ _ _ _ e2 hze)) rfl (by omega) (hx0)) <| st (aB U51 rfl T3 (by decide) (Fld.fst (Fld.snd Fld.refl rfl)) (isR rfl)) <| st (ldI T3 (isR rfl)) <| st (ji U49 rfl HS rfl (az hq)) <| st ((ia U4 rfl rfl).eq (congrArg Value.bool (hSS))) <| en fun a w e' hf=>?_
    obtain⟨hT,e2,HS,e,B4⟩:=up5 e' hT e2 HS e B4
    refine aa <| ifc hf rfl (fun h=>by cases h) (fun _=>?_)
    refine ak <| rgN 2 hf <| st (mv rfl) <| st ((add rfl rfl (by omega)).eq (congrArg (Value.int .i64) (show (k:Int)+1=((k+1:Nat):Int) from rfl))) <| en fun a w e' hf=>?_
    obtain⟨hT,e2,HS,e,B4⟩:=up5 e' hT e2 HS e B4
    refine tA hf rfl fun a hf=>aa ?_
    replace hf:=hf.keep [4,6,10,12]
    refine⟨_,?_,k+1,rfl,by omega,hf,e,?_⟩
    ·omega
    exact⟨B4,hT,e2,HS⟩
   ·obtain rfl:k=m:=by have:=of_decide_eq_false hc;(try dsimp only at this);omega
    replace hf:=hf.keep [4]
    refine seq <| rgN 1 hf <| st (jF (A:=E (B true)) pi (fun w he=>uB w (hT.ext he))) <| en fun a w e' hf=>?_
    obtain⟨hT,e2,HS,e,B4⟩:=up5 e' hT e2 HS e B4
    refine tA hf rfl fun a hf=>aa <| am <| an rfl hf rfl ?_
    rintro _ rfl
    exact⟨_,rfl,e,rfl⟩
end Go.Mono
