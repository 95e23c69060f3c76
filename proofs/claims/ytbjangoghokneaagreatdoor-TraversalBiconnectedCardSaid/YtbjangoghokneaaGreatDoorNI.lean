/-
  XL7N.
  No condition.
-/
import Derived.Test.YtbjangoghokneaaGreatDoorNH
import Derived.Test.YtbjangoghokneaaGreatDoorNE
import Derived.Test.YtbjangoghokneaaGreatDoorNB
set_option linter.unusedVariables false
set_option linter.unusedSimpArgs false
namespace Go.Mono
open Go Go.Proofs Go.RowKit Go.Gr
def CnR (w:World)(bm:Nat)(xs:List Int):Prop:=∃l,MpR iKV w bm xs.length l∧∀x,lkI l x=(xs.count x:Int)
theorem CnR.ext {w w':World}{bm:Nat}{xs:List Int}(h:CnR w bm xs)(e:Ext w w'):CnR w' bm xs:=by
 obtain⟨l,h1,h2⟩:=h
 exact⟨l,h1.ext e,h2⟩
theorem CnR.put {w:World}{bm:Nat}{xs:List Int}{l:List (Int×Int)}{x:Int}(h1:MpR iKV w bm (xs.length+1) (aV l x (lkI l x+1)))(h2:∀x,lkI l x=(xs.count x:Int)):CnR w bm (xs++[x]):=by
 refine⟨_,by rw[List.length_append,List.length_singleton];exact h1,fun y=>?_⟩
 rw[gk,List.count_append,List.count_singleton]
 by_cases hy:y=x
 ·subst hy;rw[if_pos rfl,h2];simp
 ·rw[if_neg hy,h2,if_neg (by simpa using fun h=>hy h.symm)];simp
theorem a4K {D:List (List Int)}{k:Nat}{L:List Int}(h:D[k]?=some L):szL (D.take (k+1))=szL (D.take k)+(L.length - 1):=by
 rw[bA h,oh];simp[szL]
theorem a4L {D:List (List Int)}{m:Nat}(h:∀L∈D,L.length≤m):D.flatten.length≤D.length * m:=by
 induction D with
 | nil=>simp
 | cons L D ih=>
  rw[List.flatten_cons,List.length_append,List.length_cons,Nat.succ_mul]
  have:=ih fun x hx=>h x (List.mem_cons_of_mem _ hx)
  have:=h L (List.mem_cons_self ..)
  omega
theorem a4M {g:GT}(ok:Gr.Ok g){L:List Int}{y:Int}(hL:L∈bccF (nbA g) (vset g.1))(hy:y∈L):∃n:Nat,y=(n:Int)∧(vset g.1).getLsbD n=true:=by
 rw[oe ok] at hL
 rcases List.mem_append.1 ((ie (eS g)).mem_iff.1 hL) with h|h
 ·obtain⟨i,_,rfl⟩:=List.mem_map.1 h
  obtain⟨n,hn,rfl⟩:=List.mem_map.1 hy
  rw[blL,List.mem_filter] at hn
  exact⟨n,rfl,(aD.1 hn.1).2⟩
 ·obtain⟨v,hv,rfl⟩:=List.mem_map.1 h
  rw[List.mem_filter] at hv
  exact⟨v,List.mem_singleton.1 hy,(aD.1 hv.1).2⟩
set_option maxHeartbeats 1600000 in
theorem law7N_spec {G:Nat→Prop}(g:GT)(v:Value)(W:World)(hT:Tab W)(h:(Dv gtE G g).p v W)(hV:∀x∈g.1,0≤x.2.1∧x.2.1<256)(hE:∀x∈g.2,0≤x.2.1∧x.2.1<256) :
  Calls Tryz.prog 4 #[v] W (Post (E (B true)) W):=by
 have hT0:=hT.lt
 obtain⟨u1,u2,rfl,h1,h2⟩:=Dv.gt.1 (Dv.weak (G':=G0) h fun b _ hb=>hb.elim)
 have hg0:(Dv gtE G0 g).p (.agg #[u1,u2]) W:=Dv.gt.2 ⟨_,_,rfl,h1,h2⟩
 refine eN [.agg #[u1,u2]] [E (.agg #[u1,u2])] Tryz.func4 Tryz.ntmps4 ?_ fun a hf=>?_
 rotate_left
 dsimp only[params,Nat.reduceAdd] at hf
 rotate_right
 ·exact arg1 rfl
 have e:=Ext.rfl' W
 refine seq <| ac <| tB hf rfl fun a b1 w v1 hv1 e' hb1 hs1 B1 hf=>?_
 obtain⟨hT,e⟩:=up2 e' hT e
 refine tA hf rfl fun a hf=>aa ?_
 cases hv1
 have e1:=e
 refine seq <| rgN 5 hf <| st ((ldW T25 rfl B1 rfl).eq ((rfl:_=Value.agg #[u1,u2]))) <| st (aw (A:=Tup [FrM g,Dv gtE G0 (frM g).1]) vV rfl (fun v w he k1=>by cases k1;exact a1V g _ w (vst (e1.tr he) hg0) hV hE)) ?_
 refine st (mv rfl) <| st (bs rfl rfl) <| st (bs rfl rfl) <| en fun a w e' hf=>?_
 obtain⟨hT,e,B1⟩:=up3 e' hT e B1
 obtain⟨z,hz,hf⟩:=hf.opn 19 rfl
 obtain⟨z1,z2,rfl,hz1,hz2⟩:=Dv.gt.1 hz
 have hzo:(#[z1,z2]:Array Value).all (·.oneCell')=true:=bK (slOne hz1) (slOne hz2)
 obtain⟨gv,hgv,hf⟩:=hf.opn 18 rfl
 obtain⟨W1,hW1⟩:=eqX w
 have e2:Ext W1 w:=by rw[hW1];exact Ext.rfl' _
 replace hgv:(FrM g).p gv W1:=by rw[hW1];exact hgv
 have hzz:(Dv gtE G0 (frM g).1).p (.agg #[z1,z2]) W1:=by rw[hW1];exact hz
 have hzv:(Dv (slE vtE) G0 (frM g).1.1).p z1 W1:=by rw[hW1];exact hz1
 have hWW:W1.heap.size≤w.heap.size:=e2.size
 have hW0:W.heap.size≤W1.heap.size:=by rw[hW1];exact e.size
 replace hf:=hf.kp [18,19]
 refine tL I25 hf fun a b4 w e' hb4 hs4 B4 hf=>?_
 obtain⟨hT,e2,e⟩:=up3 e' hT e2 e
 refine tA hf rfl fun a hf=>?_
 have n4:W1.heap.size≤b4:=by omega
 refine aF T25 hf rfl rfl hzo B4 rfl rfl fun w hg hsz B4 hf=>?_
 obtain⟨e,hT⟩:=gr2 hg e hT
 replace e2:=e2.gr hg n4
 refine aa ?_
 replace hf:=hf.kp [3,4]
 cases hfr':(frM g).2 with
 | false=>
  obtain rfl:=hgv.2 hfr'
  refine seq <| seq ?_
  refine rgN 2 hf <| st (mv rfl) <| st (sc U26 rfl rfl (.inl rfl)) <| en fun a w e' hf=>?_
  obtain⟨hT,e2,e,B4⟩:=up4 e' hT e2 e B4
  refine aa <| ifT hf rfl ?_
  refine seq <| rgN 1 hf <| st (jq (A:=E (B true)) px (fun w he=>uM w (hT.ext he))) <| en fun a w e' hf=>?_
  obtain⟨hT,e2,e,B4⟩:=up4 e' hT e2 e B4
  refine tA hf rfl fun a hf=>aa <| ak <| an rfl hf rfl ?_
  rintro _ rfl
  exact⟨_,rfl,e,rfl⟩
 | true=>
  obtain⟨ok,l1,l2⟩:=a4I hfr' hV hE
  have hgd:=hgv.1 hfr'
  generalize (frM g).1=gg at ok l1 l2 hgd hzz hzv
  have hl1:gg.1.length≤100000:=by omega
  have hl2:gg.2.length≤100000:=by omega
  refine seq <| seq ?_
  refine rgN 2 hf <| st (mv rfl) <| st (eZ U26 (isE rfl (vst e2 hgd))) <| en fun a w e' hf=>?_
  obtain⟨hT,e2,e,B4⟩:=up4 e' hT e2 e B4
  refine aa <| ifF hf rfl ?_
  refine aj ?_
  obtain⟨hsum,hne⟩:=a3V ok
  have hcnt:∀{x:Nat},(vset gg.1).getLsbD x=true→_:=fun hx=>a3U ok hx
  obtain⟨hDl,hDe⟩:=a4q ok l1 l2
  have href:=oe ok
  have hvt:∀{k:Nat} {x:VT},gg.1[k]?=some x→∃n:Nat,x.1=(n:Int)∧(vset gg.1).getLsbD n=true:=fun {k x} hx=>by
   obtain⟨n,a,b,_⟩:=kO ok hx
   exact⟨n,a,b⟩
  have hcr:=iZ ok
  have hpp:(prF (nbA gg) (card (vset gg.1)) (vset gg.1)).length=(ptF gg).length:=by rw[← hcr,List.length_map]
  rw[hpp] at hsum
  obtain⟨D,hD⟩:=eqX (bccF (nbA gg) (vset gg.1))
  rw[← hD] at hsum hne hDl hDe href hcnt
  obtain⟨js,hjs⟩:=eqX (cvF gg)
  rw[← hjs] at hcnt
  obtain⟨ps,hps⟩:=eqX (ptF gg)
  rw[← hps] at hsum
  have hjl:(ah js).length≤100000:=by
   rw[bB,hjs,cvF]
   exact Nat.le_trans (List.length_filter_le _ _) (by rw[fC ok];omega)
  have hwf:∀L∈D,∀y∈L,(Lit.int .i64 y).wf=true:=fun L hL y hy=>by
   obtain⟨n,rfl,hn⟩:=a4M ok (by rw[← hD];exact hL) hy
   have:=aA hn
   exact bP (by omega) (by omega)
  have hfl:D.flatten.length≤168:=Nat.le_trans (a4L hDe) (Nat.mul_le_mul_right 7 hDl)
  have d1:decide (D=D)=true:=decide_eq_true rfl
  have e4:=e2
  refine seq <| rgN 2 hf <| st (mv rfl) <| st (aw (A:=Dv (slE (slE intE)) G0 D) (B:=E gv) pz rfl (fun v w he k=>by cases k;rw[hD];exact uv gg ok gv w (hT.ext he) (Gn.of (vst (e4.tr he) hgd)) hl1 hl2 (by omega))) ?_
  refine en fun a w e' hf=>?_
  obtain⟨hT,e2,e,B4⟩:=up4 e' hT e2 e B4
  refine tA hf rfl fun a hf=>aa ?_
  replace hf:=hf.keep [3,4,5]
  have e5:=e2
  refine seq <| seq ?_
  refine rgN 5 hf <| st (mv rfl) <| st ((ldW T25 rfl B4 rfl).eq ((rfl:_=Value.agg #[z1,z2]))) <| st (aw (A:=Dv (slE (slE intE)) G0 D) (B:=E (.agg #[z1,z2])) vY rfl (fun v w he k=>by cases k;rw[href];exact a4r gg ok _ w (vst (e5.tr he) hzz) l1 hl2)) ?_
  refine st (ap (A:=E (B true)) (B:=Dv (slE (slE intE)) G0 D) (C:=Dv (slE (slE intE)) G0 D) lP rfl rfl (fun v u w he k k'=>by have:=np D D v u w k k' (by omega) (by omega) (fun x hx=>by have:=hDe x hx;omega) (fun x hx=>by have:=hDe x hx;omega);rwa [d1] at this)) ?_
  refine st (aZ rfl) <| en fun a w e' hf=>?_
  obtain⟨hT,e2,e,B4⟩:=up4 e' hT e2 e B4
  refine aa <| ifF hf rfl ?_
  refine aj ?_
  replace hf:=hf.keep [3,4,5]
  have e6:=e2
  refine seq <| rgN 2 hf <| st (mv rfl) <| st (aw (A:=Dv (slE intE) G0 (ah js)) (B:=E gv) py rfl (fun v w he k=>by cases k;rw[hjs];exact tJ gg ok gv w (hT.ext he) (Gn.of (vst (e6.tr he) hgd)) hl1 hl2 (by omega))) ?_
  refine en fun a w e' hf=>?_
  obtain⟨hT,e2,e,B4⟩:=up4 e' hT e2 e B4
  refine tA hf rfl fun a hf=>aa ?_
  replace hf:=hf.keep [3,4,5,6]
  obtain⟨N9,hN9⟩:=eqX w.heap.size
  have hN9s:N9≤w.heap.size:=Nat.le_of_eq hN9
  have hw9:b4<N9∧W.heap.size≤N9∧W1.heap.size≤N9:=by rw[hN9];exact⟨B4.lt,e.size,e2.size⟩
  replace hf:=hf.upd (B:=Dv (slE (slE intE)) (fun b=>N9≤b) D) 5 rfl (fun v h=>Dv.weak h fun b hb hh=>absurd hb (Nat.not_lt.2 (by omega)))
  replace hf:=hf.upd (B:=Dv (slE intE) (fun b=>N9≤b) (ah js)) 6 rfl (fun v h=>Dv.weak h fun b hb hh=>absurd hb (Nat.not_lt.2 (by omega)))
  replace hf:=hf.keep [3,4,5,6]
  refine seq <| ac <| tA hf rfl fun a hf=>aa <| seq <| ac <| eK iKV hf (by decide) fun a bm w e' hbm hsz HM hf=>?_
  replace e:=e.tr e';replace hT:=hT.ext e';replace e2:=e2.tr e';replace B4:=B4.ext e';clear e'
  have n4:N9≤bm:=by omega
  have n5:b4≠bm:=by omega
  haveI:InR (fun b=>N9≤b) (some bm):=⟨fun b hb=>by cases hb;exact n4⟩
  have HS:CnR w bm (D.take 0).flatten:=⟨[],by simpa using HM,fun x=>by simp[lkI]⟩
  refine tA hf rfl fun a hf=>aa ?_
  replace hf:=hf.keep [3,4,5,6,7,8]
  replace hf:=hf.upd (B:=E (I (szL (D.take 0):Nat))) 7 rfl (fun v h=>h)
  refine seq <| seq ?_
  refine ac <| tA hf rfl fun a hf=>aa ?_
  replace hf:=hf.keep [3,4,5,6,7,8,9]
  refine blk (aK (fun r0 a w=>∃(k:Nat) ,r0=D.length - k∧k≤D.length∧Fr 118 a w [(3,E gv),(4,E (ptr b4)),(5,Dv (slE (slE intE)) (fun b=>N9≤b) D),(6,Dv (slE intE) (fun b=>N9≤b) (ah js)),(7,E (I (szL (D.take k):Nat))),(8,E (.map (some bm))),(9,E (I k))]∧Ext W w∧Blk w b4 #[z1,z2] 25∧Tab w∧Ext W1 w∧CnR w bm (D.take k).flatten) D.length ⟨0,rfl,by omega,hf,e,⟨B4,hT,e2,HS⟩⟩ ?_)
  rintro r0 a w ⟨k,rfl,hk,hf,e,B4,hT,e2,HS⟩
  refine seq <| seq ?_
  refine rgN 4 hf <| st (mv rfl) <| st (mv rfl) <| st (aI U39 (isR rfl)) <| st (lss rfl rfl) <| en fun a w e' hf=>?_
  replace hT:=hT.ext e'
  replace e2:=e2.tr e'
  replace HS:=HS.ext e'
  replace e:=e.tr e'
  replace B4:=B4.ext e'
  refine aa <| ifc hf rfl (fun hc=>aj ?_) (fun hc=>aH ?_)
  rotate_left
  rotate_left
  ·have hlt:=ltC hc
   replace hf:=hf.keep [3,4,5,6,7,8,9]
   refine seq <| blk ?_
   have hx:=List.getElem?_eq_getElem hlt
   generalize D[k]=L at hx
   have hL0:=hne L (List.mem_of_getElem? hx)
   have hLl:=hDe L (List.mem_of_getElem? hx)
   have hL1:1≤L.length:=List.length_pos_iff.2 hL0
   have hsz1:=a4K hx
   have hfl1:(D.take (k+1)).flatten=(D.take k).flatten++L:=by rw[bA hx,List.flatten_append];simp
   have hfl2:(D.take k).flatten.length+L.length≤168:=by
    have h9:(D.take (k+1)++D.drop (k+1)).flatten.length=D.flatten.length:=by rw[List.take_append_drop]
    rw[List.flatten_append,List.length_append,hfl1,List.length_append] at h9;omega
   have hsz2:szL (D.take k)≤1000:=by
    have h9:szL (D.take k++D.drop k)=szL D:=by rw[List.take_append_drop]
    rw[oh] at h9;omega
   generalize (D.take k).flatten=F at hfl1 hfl2 HS
   refine seq <| rgN 8 hf <| st (mv rfl) <| st (mv rfl) <| st (mv rfl) <| st (aG U39 S35 (isR rfl) rfl (by omega) (hx)) <| st (ldD T35 (isR rfl)) <| st (aI U35 (isR rfl)) <| st (sub rfl rfl (by omega)) <| st ((add rfl rfl (by omega)).eq (congrArg (Value.int .i64) (show ((szL (D.take k):Nat):Int)+(((L.length:Nat):Int) - 1)=((szL (D.take (k+1)):Nat):Int) by rw[hsz1];omega))) ?_
   refine en fun a w e' hf=>?_
   replace hT:=hT.ext e'
   replace e2:=e2.tr e'
   replace HS:=HS.ext e'
   replace e:=e.tr e'
   replace B4:=B4.ext e'
   refine tA hf rfl fun a hf=>aa ?_
   replace hf:=hf.keep [3,4,5,6,7,8,9]
   refine seq <| ac <| tA hf rfl fun a hf=>aa ?_
   replace HS:CnR w bm (F++L.take 0):=by simpa using HS
   replace hf:=hf.keep [3,4,5,6,7,8,9,10]
   refine blk (aK (fun r0 a w=>∃(j:Nat) ,r0=L.length - j∧j≤L.length∧Fr 118 a w [(3,E gv),(4,E (ptr b4)),(5,Dv (slE (slE intE)) (fun b=>N9≤b) D),(6,Dv (slE intE) (fun b=>N9≤b) (ah js)),(7,E (I (szL (D.take (k+1)):Nat))),(8,E (.map (some bm))),(9,E (I k)),(10,E (I j))]∧Ext W w∧Blk w b4 #[z1,z2] 25∧Tab w∧Ext W1 w∧CnR w bm (F++L.take j)) L.length ⟨0,rfl,by omega,hf,e,⟨B4,hT,e2,HS⟩⟩ ?_)
   rintro r0 a w ⟨j,rfl,hj,hf,e,B4,hT,e2,HS⟩
   refine seq <| seq ?_
   refine rgN 7 hf <| st (mv rfl) <| st (mv rfl) <| st (mv rfl) <| st (aG U39 S35 (isR rfl) rfl (by omega) (hx)) <| st (ldD T35 (isR rfl)) <| st (aI U35 (isR rfl)) <| st (lss rfl rfl) <| en fun a w e' hf=>?_
   replace hT:=hT.ext e'
   replace e2:=e2.tr e'
   replace HS:=HS.ext e'
   replace e:=e.tr e'
   replace B4:=B4.ext e'
   refine aa <| ifc hf rfl (fun hc=>aj ?_) (fun hc=>aH ?_)
   rotate_left
   rotate_left
   ·have hltj:=ltC hc
    replace hf:=hf.kp [3,4,5,6,7,8,9,10]
    refine seq <| blk ?_
    have hy:=List.getElem?_eq_getElem hltj
    generalize L[j]=y at hy
    have hwy:(Lit.int .i64 y).wf=true:=hwf L (List.mem_of_getElem? hx) y (List.mem_of_getElem? hy)
    have hsc:F++L.take (j+1)=(F++L.take j)++[y]:=by rw[bA hy,List.append_assoc]
    have hfl3:(F++L.take j).length≤168:=by rw[List.length_append,List.length_take];omega
    generalize F++L.take j=X at hsc hfl3 HS
    obtain⟨l,HM,hlk⟩:=HS
    have hlr:lkI l y≤168∧0≤lkI l y:=by
     rw[hlk];have:=List.count_le_length (a:=y) (l:=X);omega
    refine rgN 10 hf <| st (mv rfl) <| st (mv rfl) <| st (mv rfl) <| st (aG U39 S35 (isR rfl) rfl (by omega) (hx)) <| st (ldD T35 (isR rfl)) <| st (mv rfl) <| st (aG U35 S3 (isR rfl) rfl (by omega) (hy)) <| st (ldI T3 (isR rfl)) <| st (cU U43 rfl HM rfl hwy) <| st (add rfl rfl (by omega)) <| en fun a w e' hf=>?_
    obtain⟨hT,e2,HM,e,B4⟩:=up5 e' hT e2 HM e B4
    refine dP (V:=iKV) (i:=y) (c:=lkI l y+1) U43 hf rfl rfl rfl HM (by simp only[maxLen];omega) hwy (bP (by omega) (by omega)) fun w hg HM hf=>?_
    have HS:=CnR.put HM hlk
    replace e:=e.gr hg (by omega);replace B4:=B4.gr hg n5;replace hT:=hT.gr hg (by omega);replace e2:=e2.gr hg (by omega);clear hg HM hlk
    refine aa <| rgN 2 hf <| st (mv rfl) <| st ((add rfl rfl (by omega)).eq (iN j)) <| en fun a w e' hf=>?_
    replace hT:=hT.ext e'
    replace e2:=e2.tr e'
    replace HS:=HS.ext e'
    replace e:=e.tr e'
    replace B4:=B4.ext e'
    refine tA hf rfl fun a hf=>aa ?_
    replace hf:=hf.kp [3,4,5,6,7,8,9,10]
    refine⟨_,?_,j+1,rfl,by omega,hf,e,?_⟩
    ·omega
    rw[hsc];exact⟨B4,hT,e2,HS⟩
   ·obtain rfl:=dnE hc hj
    rw[List.take_length,← hfl1] at HS
    refine rgN 2 hf <| st (mv rfl) <| st ((add rfl rfl (by omega)).eq (iN k)) <| en fun a w e' hf=>?_
    replace hT:=hT.ext e'
    replace e2:=e2.tr e'
    replace HS:=HS.ext e'
    replace e:=e.tr e'
    replace B4:=B4.ext e'
    refine tA hf rfl fun a hf=>aa ?_
    replace hf:=hf.kp [3,4,5,6,7,8,9]
    refine⟨_,?_,k+1,rfl,by omega,hf,e,?_⟩
    ·omega
    exact⟨B4,hT,e2,HS⟩
  ·obtain rfl:=dnE hc hk
   rw[List.take_length] at HS hf
   obtain⟨l,HM,hlk⟩:=HS
   replace hf:=hf.keep [3,4,6,7,8]
   refine seq <| seq ?_
   refine ac <| tA hf rfl fun a hf=>aa ?_
   replace hf:=hf.keep [3,4,6,7,8,11]
   refine blk (aK (fun r0 a w=>∃(k:Nat) ,r0=gg.1.length - k∧k≤gg.1.length∧Fr 118 a w [(3,E gv),(4,E (ptr b4)),(6,Dv (slE intE) (fun b=>N9≤b) (ah js)),(7,E (I (szL D:Nat))),(8,E (.map (some bm))),(11,E (I k))]∧Ext W w∧Blk w b4 #[z1,z2] 25∧Tab w∧Ext W1 w∧MpR iKV w bm D.flatten.length l) gg.1.length ⟨0,rfl,by omega,hf,e,⟨B4,hT,e2,HM⟩⟩ ?_)
   rintro r0 a w ⟨k,rfl,hk,hf,e,B4,hT,e2,HM⟩
   refine seq <| seq ?_
   refine rgN 5 hf <| st (mv rfl) <| st (fA U25 rfl T22 rfl) <| st (ld1 T22 rfl B4 rfl) <| st (aI U22 (isE rfl (vst e2 hzv))) <| st (lss rfl rfl) <| en fun a w e' hf=>?_
   obtain⟨hT,e2,HM,e,B4⟩:=up5 e' hT e2 HM e B4
   refine aa <| ifc hf rfl (fun hc=>aj ?_) (fun hc=>aH ?_)
   rotate_left
   rotate_left
   ·have hlt:=ltC hc
    replace hf:=hf.keep [3,4,6,7,8,11]
    refine seq <| blk ?_
    have hx0:=List.getElem?_eq_getElem hlt
    generalize gg.1[k]=x at hx0
    obtain⟨n,hn,hnV⟩:=hvt hx0
    have hnl:=aA hnV
    have hwn:(Lit.int .i64 (n:Int)).wf=true:=bP (by omega) (by omega)
    obtain⟨c1,c2⟩:=hcnt hnV
    have hlkn:=hlk (n:Int)
    obtain⟨x1,x2⟩:=x
    subst hn
    refine seq <| rgN 6 hf <| st (fA U25 rfl T22 rfl) <| st (ld1 T22 rfl B4 rfl) <| st (mv rfl) <| st (aG U22 S45 (isE rfl (vst e2 hzv)) rfl (by omega) (hx0)) <| st (aB U45 rfl T3 (by decide) (Fld.fst Fld.refl) (isR rfl)) <| st (ldI T3 (isR rfl)) <| en fun a w e' hf=>?_
    obtain⟨hT,e2,HM,e,B4⟩:=up5 e' hT e2 HM e B4
    refine tA hf rfl fun a hf=>aa ?_
    replace hf:=hf.keep [3,4,6,7,8,11,12]
    obtain⟨q,hq⟩:=eqX (fun j=>decide ((n:Int)∈(ah js).take j):Nat→Bool)
    have q0:q 0=false:=by rw[hq];rfl
    refine seq <| ac <| tA hf rfl fun a hf=>aa ?_
    replace hf:=hf.upd (B:=E (B (q 0))) 13 rfl (fun v h=>by rw[q0];exact h)
    refine seq <| seq ?_
    refine ac <| tA hf rfl fun a hf=>aa ?_
    replace hf:=hf.keep [3,4,6,7,8,11,12,13,14]
    refine blk (aK (fun r0 a w=>∃(j:Nat) ,r0=(ah js).length - j∧j≤(ah js).length∧Fr 118 a w [(3,E gv),(4,E (ptr b4)),(6,Dv (slE intE) (fun b=>N9≤b) (ah js)),(7,E (I (szL D:Nat))),(8,E (.map (some bm))),(11,E (I k)),(12,E (I (n:Nat))),(13,E (B (q j))),(14,E (I j))]∧Ext W w∧Blk w b4 #[z1,z2] 25∧Tab w∧Ext W1 w∧MpR iKV w bm D.flatten.length l) (ah js).length ⟨0,rfl,by omega,hf,e,⟨B4,hT,e2,HM⟩⟩ ?_)
    rintro r0 a w ⟨j,rfl,hj,hf,e,B4,hT,e2,HM⟩
    refine seq <| seq ?_
    refine rgN 4 hf <| st (mv rfl) <| st (mv rfl) <| st (aI U35 (isR rfl)) <| st (lss rfl rfl) <| en fun a w e' hf=>?_
    obtain⟨hT,e2,HM,e,B4⟩:=up5 e' hT e2 HM e B4
    refine aa <| ifc hf rfl (fun hc=>aj ?_) (fun hc=>aH ?_)
    rotate_left
    rotate_left
    ·have hltj:=ltC hc
     replace hf:=hf.keep [3,4,6,7,8,11,12,13,14]
     refine seq <| blk ?_
     have hz:=List.getElem?_eq_getElem hltj
     generalize (ah js)[j]=z at hz
     have hqs:q (j+1)=(q j || (z==(n:Int))):=by
      rw[hq];dsimp only
      rw[bA hz,Bool.eq_iff_iff,Bool.or_eq_true,decide_eq_true_eq,decide_eq_true_eq,beq_iff_eq,List.mem_append,List.mem_singleton]
      exact⟨fun h=>h.imp id Eq.symm,fun h=>h.imp id Eq.symm⟩
     cases hqj:q j with
     | true=>
      rw[hqj] at hf hqs
      refine rgN 9 hf <| st (mv rfl) <| st (mv rfl) <| sn rfl rfl rfl <| sn rfl rfl rfl <| sn rfl rfl rfl <| sn rfl rfl rfl <| sn rfl rfl rfl <| sn rfl rfl rfl <| st (pkT rfl rfl) <| en fun a w e' hf=>?_
      obtain⟨hT,e2,HM,e,B4⟩:=up5 e' hT e2 HM e B4
      refine tA hf rfl fun a hf=>aa ?_
      replace hf:=hf.upd (B:=E (B (q (j+1)))) 13 rfl (fun v h=>by rw[hqs];exact h)
      refine rgN 2 hf <| st (mv rfl) <| st ((add rfl rfl (by omega)).eq (iN j)) <| en fun a w e' hf=>?_
      obtain⟨hT,e2,HM,e,B4⟩:=up5 e' hT e2 HM e B4
      refine tA hf rfl fun a hf=>aa ?_
      replace hf:=hf.keep [3,4,6,7,8,11,12,13,14]
      refine⟨_,?_,j+1,rfl,by omega,hf,e,?_⟩
      ·omega
      exact⟨B4,hT,e2,HM⟩
     | false=>
      rw[hqj,Bool.false_or] at hqs
      rw[hqj] at hf
      refine rgN 9 hf <| st (mv rfl) <| st (mv rfl) <| sy rfl rfl (mv rfl) <| sy rfl rfl (mv rfl) <| sy rfl rfl (aG U35 S3 (isR rfl) rfl (by omega) (hz)) <| sy rfl rfl (ldI T3 (isR rfl)) <| sy rfl rfl (mv rfl) <| sy rfl rfl (eql rfl rfl) <| st (pkF rfl rfl) <| en fun a w e' hf=>?_
      obtain⟨hT,e2,HM,e,B4⟩:=up5 e' hT e2 HM e B4
      refine tA hf rfl fun a hf=>aa ?_
      replace hf:=hf.upd (B:=E (B (q (j+1)))) 13 rfl (fun v h=>by rw[hqs];exact h)
      refine rgN 2 hf <| st (mv rfl) <| st ((add rfl rfl (by omega)).eq (iN j)) <| en fun a w e' hf=>?_
      obtain⟨hT,e2,HM,e,B4⟩:=up5 e' hT e2 HM e B4
      refine tA hf rfl fun a hf=>aa ?_
      replace hf:=hf.keep [3,4,6,7,8,11,12,13,14]
      refine⟨_,?_,j+1,rfl,by omega,hf,e,?_⟩
      ·omega
      exact⟨B4,hT,e2,HM⟩
    ·obtain rfl:=dnE hc hj
     have hqe:q (ah js).length=decide (n∈js):=by
      rw[hq];dsimp only
      rw[List.take_length];exact decide_eq_decide.2 cK
     rw[hqe] at hf
     have hg1:(decide (n∈js) != decide (lkI l (n:Int) > 1))=false:=by
      rw[bne_eq_false_iff_eq]
      refine decide_eq_decide.2 (c2.symm.trans ?_)
      rw[hlkn];omega
     refine seq <| rgN 12 hf <| st (mv rfl) <| st (mv rfl) <| st (cU U43 rfl HM rfl hwn) <| st ((lss rfl rfl).eq (congrArg Value.bool ((show decide (lkI l (n:Int)<1)=false from decide_eq_false (by rw[hlkn];omega))))) ?_
     refine st (mv rfl) <| sy rfl rfl (mv rfl) <| sy rfl rfl (mv rfl) <| sy rfl rfl (mv rfl) <| sy rfl rfl (cU U43 rfl HM rfl hwn) <| sy rfl rfl (gtr rfl rfl) <| sy rfl rfl ((uQ U4 rfl rfl).eq (congrArg Value.bool (hg1))) <| st (pkF rfl rfl) <| en fun a w e' hf=>?_
     obtain⟨hT,e2,HM,e,B4⟩:=up5 e' hT e2 HM e B4
     refine aa <| ifF hf rfl ?_
     refine aj <| rgN 2 hf <| st (mv rfl) <| st ((add rfl rfl (by omega)).eq (iN k)) <| en fun a w e' hf=>?_
     obtain⟨hT,e2,HM,e,B4⟩:=up5 e' hT e2 HM e B4
     refine tA hf rfl fun a hf=>aa ?_
     replace hf:=hf.keep [3,4,6,7,8,11]
     refine⟨_,?_,k+1,rfl,by omega,hf,e,?_⟩
     ·omega
     exact⟨B4,hT,e2,HM⟩
   ·obtain rfl:=dnE hc hk
    replace hf:=hf.keep [3,4,7]
    have e9:=e2
    refine seq <| rgG 12 Mix.mix hf <| st (mv rfl) <| st (fA U25 rfl T22 rfl) <| st (ld1 T22 rfl B4 rfl) <| st (aI U22 (isE rfl (vst e2 hzv))) <| st (mv rfl) <| st (aw (A:=Dv (slE (slE intE)) G0 ps) (B:=E gv) pA rfl (fun v w he k=>by cases k;rw[hps];exact a4J gg ok gv w (hT.ext he) (Gn.of (vst (e9.tr he) hgd)) hl1 hl2 (by omega))) ?_
    refine st (aI U39 (isR rfl)) <| st (sub rfl rfl (by omega)) <| st ((eql rfl rfl).eq (congrArg Value.bool ((show (((szL D:Nat):Int)==((gg.1.length:Nat):Int) - ((ps.length:Nat):Int))=true by rw[beq_iff_eq];omega)))) ?_
    refine st (mv rfl) <| sy rfl rfl (jq (A:=E (B true)) px (fun w he=>uM w (hT.ext he))) <| st (pkT rfl rfl) <| en fun a w e' hf=>?_
    obtain⟨hT,e2,e,B4⟩:=up4 e' hT e2 e B4
    refine tA hf rfl fun a hf=>aa <| ak <| an rfl hf rfl ?_
    rintro _ rfl
    exact⟨_,rfl,e,rfl⟩
end Go.Mono
