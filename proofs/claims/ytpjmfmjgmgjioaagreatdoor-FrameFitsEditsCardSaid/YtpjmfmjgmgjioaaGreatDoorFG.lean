/-
  Walks of functions and plain facts.
  No condition.
-/
import Derived.Test.YtpjmfmjgmgjioaaGreatDoorFF
import Derived.Test.YtpjmfmjgmgjioaaGreatDoorFB
import Derived.Test.YtpjmfmjgmgjioaaGreatDoorFC
import Derived.Test.YtpjmfmjgmgjioaaGreatDoorFE
set_option linter.unusedVariables false
set_option linter.unusedSimpArgs false
namespace Go.Mono
open Go Go.Proofs Go.RowKit
def fw (xs:List RB)(i:Nat):Nd:=(kids xs (i:Nat),gO xs (i:Nat),bu xs (i:Nat),dU xs (i:Nat),(depthR xs i:Nat))
def ndS (xs:List RB)(dn cm:Nat→Bool)(i:Nat):Nd:=
 (kids xs (i:Nat),if dn i=true then gO xs (i:Nat) else [],if dn i=true then bu xs (i:Nat) else 0,if dn i=true then dU xs (i:Nat) else 0,if cm i=true then ((depthR xs i:Nat):Int) else 0)
def mS (xs:List RB)(cm:Nat→Bool):Int→Option Int:=fun id=>if (decide (0≤fU xs id)&&cm (fU xs id).toNat)=true then some (fU xs id) else none
def orb (f:Nat→Bool)(b:Nat):Nat→Bool:=fun i=>f i || decide (i=b)
theorem xJ {t:List (Int×BS)}(hr:Rng t){b:Nat}(hb:b<t.length)(y:Int):has (bK t b) y=bc (toT t) y b:=by
 by_cases hf:bQ y=true
 ·have h:=cp.1 hf
  obtain⟨k,rfl⟩:∃k:Nat,y=(k:Int):=⟨y.toNat,by omega⟩
  rw[← gL hr hb (by omega),has,hf,Int.toNat_natCast];rfl
 ·have hf':bQ y=false:=by simpa using hf
  rw[has,hf',bc,dB hb,dS,has,hf'];rfl
theorem xK {t:List (Int×BS)}{xs:List RB}(hx:xs=toT t)(V:aV xs){b:Nat}(hb:b<xs.length){dn cm:Nat→Bool}(hu:up xs b<0∨cm (up xs b).toNat=true) :
  un (ndS xs dn cm) b ((ndS xs dn cm b).1,(ndS xs dn cm b).2.1,(ndS xs dn cm b).2.2.1,(ndS xs dn cm b).2.2.2.1,db t (ndS xs dn cm) b)=ndS xs dn (orb cm b):=by
 have hbt:b<t.length:=by rw[hx,bA] at hb;exact hb
 have eu:up xs b=(bg t b).1:=by rw[hx,dA hbt]
 funext i
 by_cases hi:i=b
 ·subst hi
  rw[da]
  have:db t (ndS xs dn cm) i=((depthR xs i:Nat):Int):=by
   rw[db,← eu]
   rcases nw V hb with h|⟨p,hp,h⟩
   ·rw[if_pos (by omega)]
    have h0:depthR xs i=0:=by rw[ii,nt (by omega)];rfl
    simp only[ndS,h0]
    split <;> rfl
   ·rw[if_neg (by omega),h,Int.toNat_natCast]
    have hc:cm p=true:=by
     rcases hu with hu|hu
     ·omega
     ·rwa [h,Int.toNat_natCast] at hu
    have:=eK V hb h
    simp only[ndS,hc,if_true]
    omega
  rw[this]
  simp[ndS,orb]
 ·rw[ft hi]
  simp[ndS,orb,hi]
theorem xL {t:List (Int×BS)}{xs:List RB}(hx:xs=toT t)(V:aV xs)(hr:Rng t){b:Nat}(hb:b<xs.length){cm:Nat→Bool} :
  (fun y=>if has (bK t b) y=true then some (b:Int) else mS xs cm y)=mS xs (orb cm b):=by
 have hbt:b<t.length:=by rw[hx,bA] at hb;exact hb
 funext y
 simp only[xJ hr hbt,← hx]
 by_cases h:bc xs y b=true
 ·have hh:=xq V.uni hb h
  rw[if_pos h,mS,hh,Int.toNat_natCast]
  simp[orb]
 ·rw[if_neg h]
  rcases pU xs y with ⟨h1,_⟩|⟨k,k1,k2,k3⟩
  ·simp[mS,h1]
  ·have:k≠b:=fun e=>by subst e;exact h k3
   simp[mS,k2,orb,this]
theorem xM {xs:List RB}{dn cm:Nat→Bool}{b:Nat} :
  un (ndS xs dn cm) b (kids xs (b:Nat),gO xs (b:Nat),bu xs (b:Nat),dU xs (b:Nat),(ndS xs dn cm b).2.2.2.2)=ndS xs (orb dn b) cm:=by
 funext i
 by_cases hi:i=b
 ·subst hi
  rw[da]
  simp[ndS,orb]
 ·rw[ft hi]
  simp[ndS,orb,hi]
theorem xN {a b:Bool}(h:ind a=ind b):a=b:=by cases a <;> cases b <;> simp[ind] at h ⊢
theorem pY {α:Type}(f:α→Bool):∀l:List α,(l.map fun k=>ind (f k)).sum=0↔l.any f=false
 | []=>by simp
 | x::l=>by
  have:=pY f l
  rw[List.map_cons,List.sum_cons,List.any_cons]
  cases hx:f x
  ·rw[Bool.false_or,show ind false=0 from rfl,Nat.zero_add];exact this
  ·rw[Bool.true_or,show ind true=1 from rfl]
   exact⟨fun h=>by omega,fun h=>by cases h⟩
theorem pZ {xs:List RB}(V:aV xs){b i:Nat}(hi:i<xs.length):dsc xs b i=(decide (i=b) || (kidN xs b).any fun c=>dsc xs c i):=by
 have h:=nE V (b:=b) i hi
 have h2:=pY (fun c=>dsc xs c i) (kidN xs b)
 cases h3:(kidN xs b).any fun c=>dsc xs c i
 ·rw[h2.2 h3,Nat.add_zero] at h
  rw[xN h,Bool.or_false]
 ·rw[Bool.or_true]
  cases h4:dsc xs b i
  ·rw[h4] at h
   have h0:ind false=0:=rfl
   have:((kidN xs b).map fun k=>ind (dsc xs k i)).sum=0:=by omega
   rw[h2.1 this] at h3;cases h3
  ·rfl
def orK (xs:List RB)(b k:Nat)(f:Nat→Bool):Nat→Bool:=fun i=>f i || ((kidN xs b).take k).any fun c=>dsc xs c i
def orD (xs:List RB)(b:Nat)(f:Nat→Bool):Nat→Bool:=fun i=>f i || dsc xs b i
theorem qa (xs:List RB)(b:Nat)(f:Nat→Bool):orK xs b 0 f=f:=by funext i;simp[orK]
theorem qb {xs:List RB}{b k j:Nat}{f:Nat→Bool}(h:(kidN xs b)[k]?=some j):orD xs j (orK xs b k f)=orK xs b (k+1) f:=by
 funext i
 rw[orK,cG h,List.any_append]
 simp[orD,orK,Bool.or_assoc]
theorem xO {xs:List RB}(V:aV xs){b:Nat}{f:Nat→Bool}{i:Nat}(hi:i<xs.length):orb (orK xs b (kidN xs b).length f) b i=orD xs b f i:=by
 show ((f i || ((kidN xs b).take (kidN xs b).length).any fun c=>dsc xs c i) || decide (i=b))=(f i || dsc xs b i)
 rw[List.take_length,pZ V hi,Bool.or_assoc,Bool.or_comm (decide (i=b))]
theorem xP {xs:List RB}(V:aV xs){b:Nat}{f:Nat→Bool}{i:Nat}(hi:i<xs.length):orK xs b (kidN xs b).length (orb f b) i=orD xs b f i:=by
 show ((f i || decide (i=b)) || ((kidN xs b).take (kidN xs b).length).any fun c=>dsc xs c i)=(f i || dsc xs b i)
 rw[List.take_length,pZ V hi,Bool.or_assoc]
structure St (xs:List RB)(G:Nat→Prop)(bn bm:Nat)(dn cm:Nat→Bool)(q:Nat)(w:World):Prop where
 n:∃cells,Blk w bn cells 100∧NS xs.length G (ndS xs dn cm) cells w
 m:∃cnt,cnt≤1024 * q∧aT Tryz.prog 3 3 w bm cnt (mS xs cm)
theorem St.ext {xs:List RB}{G:Nat→Prop}{bn bm:Nat}{dn cm:Nat→Bool}{q:Nat}{w w':World}(h:St xs G bn bm dn cm q w)(e:Ext w w'):St xs G bn bm dn cm q w':=by
 obtain⟨⟨cells,h1,h2⟩,cnt,h3,h4⟩:=h
 exact⟨⟨cells,h1.ext e,h2.ext e⟩,cnt,h3,h4.ext e⟩
theorem St.congr {xs:List RB}{G:Nat→Prop}{bn bm:Nat}{dn cm dn' cm':Nat→Bool}{q q':Nat}{w:World}(h:St xs G bn bm dn cm q w)(h1:∀i,i<xs.length→dn i=dn' i)(h2:∀i,i<xs.length→cm i=cm' i)(hq:q≤q'):St xs G bn bm dn' cm' q' w:=by
 obtain⟨⟨cells,a1,a2⟩,cnt,a3,a4⟩:=h
 refine⟨⟨cells,a1,a2.congr fun i hi=>by simp only[ndS,h1 i hi,h2 i hi]⟩,cnt,Nat.le_trans a3 (Nat.mul_le_mul_left _ hq),?_⟩
 have:mS xs cm=mS xs cm':=by
  funext y
  rcases pU xs y with ⟨h,_⟩|⟨k,k1,k2,_⟩
  ·simp[mS,h]
  ·simp[mS,k2,h2 k k1]
 rwa [← this]
structure Kc (t:List (Int×BS))(G:Nat→Prop)(bF bn bm bf b1:Nat)(tv fv:Value)(w:World):Prop where
 tab:Tab w
 g:∀c,G c→c<w.heap.size
 f:FB w bF bn bm bf t.length fv
 b1:Blk w b1 #[tv] 23
 v:(Dv aL (Sn bn bm) t).p tv w
theorem Kc.ch {t:List (Int×BS)}{G:Nat→Prop}{bF bn bm bf b1:Nat}{tv fv:Value}{w w':World}(h:Kc t G bF bn bm bf b1 tv fv w)(c:Chg (Sn bn bm) w w')(hGn:G bn)(hGm:G bm)(h0n:0<bn)(h0m:0<bm)(ne:bF≠bn∧bF≠bm∧bf≠bn∧bf≠bm∧b1≠bn∧b1≠bm):Kc t G bF bn bm bf b1 tv fv w':=by
 have hS:∀b,Sn bn bm b→G b:=by rintro b (rfl|rfl) <;> assumption
 exact⟨h.tab.ch c (by unfold Sn;omega),fun b hb=>Nat.lt_of_lt_of_le (h.g b hb) c.size,h.f.ch c (by unfold Sn;omega) (by unfold Sn;omega),h.b1.ch c (by unfold Sn;omega),Dv.ch h.v c fun b hb=>hb⟩
theorem Kc.ext {t:List (Int×BS)}{G:Nat→Prop}{bF bn bm bf b1:Nat}{tv fv:Value}{w w':World}(h:Kc t G bF bn bm bf b1 tv fv w)(e:Ext w w'):Kc t G bF bn bm bf b1 tv fv w':=
 ⟨h.tab.ext e,fun b hb=>Nat.lt_of_lt_of_le (h.g b hb) e.size,h.f.ext e,h.b1.ext e,Dv.ex h.v e⟩
def qTo (xs:List RB)(b k:Nat):Nat:=1+(((kidN xs b).take k).map fun c=>cnt xs c).sum
theorem xQ {xs:List RB}{b k j:Nat}(h:(kidN xs b)[k]?=some j):qTo xs b (k+1)=qTo xs b k+cnt xs j:=by
 rw[qTo,cG h,List.map_append,List.sum_append,qTo]
 simp;omega
theorem xR {xs:List RB}(V:aV xs){b:Nat}(hb:b<xs.length)(k:Nat):qTo xs b k≤cnt xs b:=by
 rw[qTo,io V hb]
 conv=>rhs;rw[← List.take_append_drop k (kidN xs b),List.map_append,List.sum_append]
 omega
theorem xS {xs:List RB}(V:aV xs){b:Nat}(hb:b<xs.length):qTo xs b (kidN xs b).length=cnt xs b:=by
 rw[qTo,io V hb,List.take_length]

theorem xT (t:List (Int×BS))(xs:List RB)(hx:xs=toT t)(V:aV xs)(hl:xs.length≤4096)(hr:Rng t)(G:Nat→Prop)(bF bn bm bf b1:Nat)(tv fv:Value)(hGn:G bn)(hGm:G bm)(h0n:0<bn)(h0m:0<bm)(ne:bF≠bn∧bF≠bm∧bf≠bn∧bf≠bm∧b1≠bn∧b1≠bm) :
  ∀b,b<xs.length→∀(dn cm:Nat→Bool) (q:Nat) (W:World),Kc t G bF bn bm bf b1 tv fv W→St xs G bn bm dn cm q W→(up xs b<0∨cm (up xs b).toNat=true)→q+cnt xs b≤5000 →
  Calls Tryz.prog 43 #[.pointer (some ⟨bF,0,none⟩),I (b:Nat),.func (.func 45) #[] #[.pointer (some ⟨b1,0,none⟩),.pointer (some ⟨bf,0,none⟩)],.func (.func 48) #[] #[.pointer (some ⟨bf,0,none⟩)]] W
   (fun e w'=>∃v,e=.returned v∧Chg (Sn bn bm) W w'∧Any.p v w'∧St xs G bn bm (orD xs b dn) (orD xs b cm) (q+cnt xs b) w'):=by
 have htl:xs.length=t.length:=by rw[hx,bA]
 refine nx V fun b hbl ih=>?_
 intro dn cm q W K S hu hq
 have hkl:(kids xs (b:Nat)).length=(kidN xs b).length:=by rw[im,List.length_map]
 have hkl2:=pQ xs (b:Nat)
 refine enter (args:=[.pointer (some ⟨bF,0,none⟩),I (b:Nat),.func (.func 45) #[] #[.pointer (some ⟨b1,0,none⟩),.pointer (some ⟨bf,0,none⟩)],.func (.func 48) #[] #[.pointer (some ⟨bf,0,none⟩)]]) (As:=[E (.pointer (some ⟨bF,0,none⟩)),E (I (b:Nat)),E (.func (.func 45) #[] #[.pointer (some ⟨b1,0,none⟩),.pointer (some ⟨bf,0,none⟩)]),E (.func (.func 48) #[] #[.pointer (some ⟨bf,0,none⟩)])]) Tryz.func43 rfl Tryz.ntmps43 (Nat.le_of_ble_eq_true rfl) ?_ (fun a hf=>?_) (Nat.le_of_ble_eq_true rfl)
 rotate_left
 dsimp only[params,Nat.reduceAdd] at hf
 rotate_right
 ·exact dG rfl (dG rfl (dG rfl (dG rfl jr)))
 have c:=Chg.rfl' (Sn bn bm) W
 have hdp:∀(dn cm:Nat→Bool) i,i<t.length→0≤(ndS xs dn cm i).2.2.2.2∧(ndS xs dn cm i).2.2.2.2≤100000:=fun dn cm i hi=>by
  have:=ij V (i:=i) (by omega)
  simp only[ndS]
  split <;> omega
 have hSG:∀b,Sn bn bm b→G b:=by rintro b (rfl|rfl) <;> assumption
 refine seq ?_
 refine ac 2 hf (by decide +kernel) ?_
 refine st (mv rfl) ?_
 refine st (mv rfl) ?_
 refine en fun a w e' hf=>?_
 replace c:=c.ext e'
 replace S:=S.ext e'
 replace K:=K.ext e'
 clear e'
 have v11:a.eval (.tmp 11)=I (b:Nat):=hf.val 11 _ rfl
 refine gv (S:=Sn bn bm) (F:=fun w'=>St xs G bn bm dn (orb cm b) (q+1) w') (A:=Any) hf (by decide) qY rfl ?_ fun a w hc S hf=>?_
 ·obtain⟨⟨cells,BN,HS⟩,cnt,hcq,HM⟩:=S
  have h:=xI t (by omega) hr G (ndS xs dn cm) bF bn bm bf b1 b tv fv cells cnt (mS xs cm) w K.tab K.g hGn hGm h0n h0m (by omega) K.f K.b1 K.v BN (by rw[← htl];exact HS) HM (by omega) (hdp dn cm)
  rw[xK hx V hbl hu,xL hx V hr hbl] at h
  have h':=Calls.mono h (R':=fun e w'=>∃v,e=.returned v∧Chg (Sn bn bm) w w'∧Any.p v w'∧St xs G bn bm dn (orb cm b) (q+1) w') (fun e w' ⟨v,h1,h2,h3,⟨cells',h4,h5⟩,cnt',h6,h7⟩=>⟨v,h1,h2,h3,⟨cells',h4,by rw[htl];exact h5⟩,cnt',by omega,h7⟩)
  simpa[v11] using h'
 replace K:=K.ch hc hGn hGm h0n h0m ne
 replace c:=c.tr hc
 clear hc v11
 refine aa ?_
 replace hf:=hf.kp [0,1,2,3]
 obtain⟨⟨cells,BN,HS⟩,HMx⟩:=S
 obtain⟨kv,hkv,HK⟩:=HS.kids_at hbl
 have S:St xs G bn bm dn (orb cm b) (q+1) w:=⟨⟨cells,BN,HS⟩,HMx⟩
 clear HMx
 repeat refine seq ?_
 refine ac 10 hf (by decide +kernel) ?_
 refine st (mv rfl) ?_
 refine st (aU rfl) ?_
 refine st (ai U82 rfl T79 (by decide) rfl) ?_
 refine st (ld1 T79 rfl K.f.f (show (_:Array Value)[0+1]?=some (.slice (some ⟨bn,0,none⟩) t.length t.length) from rfl)) ?_
 refine st (mv rfl) ?_
 refine st (idxS U79 ee rfl rfl (by omega)) ?_
 refine st (ai bB rfl T63 (by decide) rfl) ?_
 refine st ((ld1 T63 rfl BN hkv).as (A:=Dv (slE ap) G (kids xs (b:Nat))) HK) ?_
 refine st (ay U63 (isR rfl)) ?_
 refine st (mv rfl) ?_
 refine en fun a w e' hf=>?_
 replace c:=c.ext e'
 replace S:=S.ext e'
 replace K:=K.ext e'
 refine aa ?_
 clear BN HS hkv HK
 haveI hinS:InS G (Sn bn bm):=⟨hSG⟩
 rw[hkl] at hf
 replace hf:=hf.kp [0,1,2,3,20,21,22]
 rw[show orb cm b=orK xs b 0 (orb cm b) from (qa _ _ _).symm,show dn=orK xs b 0 dn from (qa _ _ _).symm,show q+1=q+qTo xs b 0 from rfl] at S
 refine blk (aG (fun r0 a w=>∃(k:Nat),r0=(kidN xs b).length - k∧k≤(kidN xs b).length∧Fr 35 a w [(0,E (.pointer (some ⟨bF,0,none⟩))),(1,E (I (b:Nat))),(2,E (.func (.func 45) #[] #[.pointer (some ⟨b1,0,none⟩),.pointer (some ⟨bf,0,none⟩)])),(3,E (.func (.func 48) #[] #[.pointer (some ⟨bf,0,none⟩)])),
   (20,Dv (slE ap) G (kids xs (b:Nat))),(21,E (I ((kidN xs b).length:Nat))),(22,E (I k))]∧Chg (Sn bn bm) W w∧Kc t G bF bn bm bf b1 tv fv w∧St xs G bn bm (orK xs b k dn) (orK xs b k (orb cm b)) (q+qTo xs b k) w) (kidN xs b).length ⟨0,rfl,by omega,hf,c,K,S⟩ ?_)
 clear hf c K S
 rintro r0 a w ⟨k,rfl,hk,hf,c,K,S⟩
 refine seq ?_
 refine ac 1 hf (by decide +kernel) ?_
 refine st (lss rfl rfl) ?_
 refine en fun a w e' hf=>?_
 replace c:=c.ext e'
 replace S:=S.ext e'
 replace K:=K.ext e'
 refine aa ?_
 refine seq ?_
 refine ifc hf rfl (fun hc=>ak ?_) (fun hc=>aF ?_)
 ·have hlt:k<(kidN xs b).length:=by have:=of_decide_eq_true hc;omega
  clear hc
  replace hf:=hf.kp [0,1,2,3,20,21,22]
  obtain⟨j,hj⟩:∃j,(kidN xs b)[k]?=some j:=⟨_,List.getElem?_eq_getElem hlt⟩
  obtain⟨j1,j2⟩:=eL.1 (List.mem_of_getElem? hj)
  have hj':(kids xs (b:Nat))[k]?=some (j:Int):=by rw[im,List.getElem?_map,hj];rfl
  have hqs:=xQ hj
  have hqle:=xR V hbl (k+1)
  refine seq ?_
  refine blk ?_
  refine seq ?_
  refine ac 2 hf (by decide +kernel) ?_
  refine st (az U63 S3 (isR rfl) rfl (by omega) (hj')) ?_
  refine st (ldI T3 (isR rfl)) ?_
  refine en fun a w e' hf=>?_
  replace c:=c.ext e'
  replace S:=S.ext e'
  replace K:=K.ext e'
  refine ae hf rfl (by decide) fun a hf=>?_
  refine aa ?_
  replace hf:=hf.kp [0,1,2,3,9,20,21,22]
  refine ac 4 hf (by decide +kernel) ?_
  refine st (mv rfl) ?_
  refine st (mv rfl) ?_
  refine st (mv rfl) ?_
  refine st (mv rfl) ?_
  refine en fun a w e' hf=>?_
  replace c:=c.ext e'
  replace S:=S.ext e'
  replace K:=K.ext e'
  clear e'
  have v26:a.eval (.tmp 26)=.pointer (some ⟨bF,0,none⟩):=hf.val 26 _ rfl
  have v27:a.eval (.tmp 27)=I (j:Nat):=hf.val 27 _ rfl
  have v28:a.eval (.tmp 28)=.func (.func 45) #[] #[.pointer (some ⟨b1,0,none⟩),.pointer (some ⟨bf,0,none⟩)]:=hf.val 28 _ rfl
  have v29:a.eval (.tmp 29)=.func (.func 48) #[] #[.pointer (some ⟨bf,0,none⟩)]:=hf.val 29 _ rfl
  refine jw (S:=Sn bn bm) (F:=fun w'=>St xs G bn bm (orK xs b (k+1) dn) (orK xs b (k+1) (orb cm b)) (q+qTo xs b (k+1)) w') (A:=Any) hf (by decide) lH ?_ fun a w hc S hf=>?_
  ·have h:=ih j j1 j2 (orK xs b k dn) (orK xs b k (orb cm b)) (q+qTo xs b k) w K S (.inr (by rw[j2,Int.toNat_natCast];simp[orK,orb])) (by omega)
   rw[qb hj,qb hj,Nat.add_assoc,← hqs] at h
   simpa[v26,v27,v28,v29] using h
  replace K:=K.ch hc hGn hGm h0n h0m ne
  replace c:=c.tr hc
  clear hc v26 v27 v28 v29
  refine aa ?_
  simp only[Exit.then,Exit.inBlock,↓reduceIte]
  replace hf:=hf.kp [0,1,2,3,20,21,22]
  refine ac 1 hf (by decide +kernel) ?_
  refine st ((add rfl rfl (by omega)).eq (congrArg (Value.int .i64) (show (k:Int)+1=((k+1:Nat):Int) from rfl))) ?_
  refine en fun a w e' hf=>?_
  replace c:=c.ext e'
  replace S:=S.ext e'
  replace K:=K.ext e'
  clear e'
  refine ar hf (by decide) (mv rfl) fun a w e' hf=>?_
  replace c:=c.ext e'
  replace S:=S.ext e'
  replace K:=K.ext e'
  refine aa ?_
  replace hf:=hf.kp [0,1,2,3,20,21,22]
  exact⟨(kidN xs b).length - (k+1),by omega,k+1,rfl,by omega,hf,c,K,S⟩
 ·obtain rfl:k=(kidN xs b).length:=by have:=of_decide_eq_false hc;omega
  simp only[Exit.then,Exit.inBlock,↓reduceIte]
  replace hf:=hf.kp [0,1,2,3]
  rw[xS V hbl] at S
  refine ac 2 hf (by decide +kernel) ?_
  refine st (mv rfl) ?_
  refine st (mv rfl) ?_
  refine en fun a w e' hf=>?_
  replace c:=c.ext e'
  replace S:=S.ext e'
  replace K:=K.ext e'
  clear e'
  have v33:a.eval (.tmp 33)=I (b:Nat):=hf.val 33 _ rfl
  refine gv (S:=Sn bn bm) (F:=fun w'=>St xs G bn bm (orD xs b dn) (orD xs b cm) (q+cnt xs b) w') (A:=Any) hf (by decide) ra rfl ?_ fun a w hc S hf=>?_
  ·obtain⟨⟨cells,BN,HS⟩,cnt,hcq,HM⟩:=S
   have h:=xD xs V (by omega) G (ndS xs (orK xs b (kidN xs b).length dn) (orK xs b (kidN xs b).length (orb cm b))) bF bn bm bf b fv cells w K.g hGn hbl (by rw[htl];exact K.f) BN HS rfl (fun i i1 i2=>by
    have hm:i∈kidN xs b:=eL.2 ⟨i1,i2⟩
    have:orK xs b (kidN xs b).length dn i=true:=by
     rw[orK,List.take_length]
     simp only[Bool.or_eq_true,List.any_eq_true]
     exact .inr ⟨i,hm,pV _ _⟩
    simp only[ndS,this,if_true])
   rw[xM] at h
   have nnm:bn≠bm:=fun he=>by
    obtain⟨D,⟨es,clock,h3,_⟩,_⟩:=HM
    have h1:=BN
    rw[he] at h1;unfold Blk at h1;rw[h1] at h3;cases h3
   have h':=Calls.mono h (R':=fun e w'=>∃v,e=.returned v∧Chg (Sn bn bm) w w'∧Any.p v w'∧St xs G bn bm (orD xs b dn) (orD xs b cm) (q+Go.Mono.cnt xs b) w') (fun e w' ⟨v,h1,h2,h3,cells',h4,h5⟩=>
    ⟨v,h1,h2.to fun b _ h=>.inl h,h3,St.congr (dn:=orb (orK xs b (kidN xs b).length dn) b) (cm:=orK xs b (kidN xs b).length (orb cm b)) ⟨⟨cells',h4,h5⟩,cnt,hcq,HM.ch h2 fun h=>nnm h.symm⟩ (fun i hi=>xO V hi) (fun i hi=>xP V hi) (Nat.le_refl _)⟩)
   simpa[v33] using h'
  replace c:=c.tr hc
  refine aa ?_
  refine cE rfl hf ?_
  exact⟨_,rfl,c,trivial,S⟩
end Go.Mono
namespace Go.Mono.Pop

theorem xU (k M c z:Nat)(hc:c<2 ^ k):z &&& (2 ^ k * M+c)=2 ^ k * ((z / 2 ^ k) &&& M)+((z % 2 ^ k) &&& c):=by
 have h1:(z % 2 ^ k) &&& c<2 ^ k:=Nat.lt_of_le_of_lt Nat.and_le_right hc
 apply Nat.eq_of_testBit_eq
 intro i
 rw[Nat.testBit_and,Nat.testBit_two_pow_mul_add _ hc,Nat.testBit_two_pow_mul_add _ h1]
 split
 ·rename_i hi
  rw[Nat.testBit_and,Nat.testBit_mod_two_pow]
  simp[hi]
 ·rename_i hi
  rw[Nat.testBit_and,Nat.testBit_div_two_pow]
  congr 2
  omega
theorem gP (M c z:Nat)(hc:c<256):z &&& (256 * M+c)=256 * ((z / 256) &&& M)+((z % 256) &&& c):=xU 8 M c z hc

def mask (c:Nat):Nat→Nat
 | 0=>0
 | n+1=>256 * mask c n+c
def pc (b:Nat):Nat:=(List.range 8).countP fun i=>b.testBit i
def F:Nat→Nat→Nat
 | 0,_=>0
 | n+1,x=>pc (x % 256)+256 * F n (x / 256)
def sA (m x:Nat):Nat:=((x / 2) &&& m)+(x &&& m)
def sB (m x:Nat):Nat:=((x / 4) &&& m)+(x &&& m)
def sC (m x:Nat):Nat:=(x / 16+x) &&& m

theorem kA:∀b,b<256→∀e,e<2→(b / 2+128 * e) &&& 85=(b / 2) &&& 85:=by decide +kernel
theorem kA2:∀b,b<256→sA 85 b<256:=by decide +kernel
theorem kB:∀b,b<256→∀e,e<4→(b / 4+64 * e) &&& 51=(b / 4) &&& 51:=by decide +kernel
theorem kB2:∀b,b<256→sB 51 (sA 85 b)<256∧sB 51 (sA 85 b) % 16<5:=by decide +kernel
theorem kC:∀b,b<256→∀e,e<5→e * 16+(sB 51 (sA 85 b) / 16+sB 51 (sA 85 b))<256∧(e * 16+(sB 51 (sA 85 b) / 16+sB 51 (sA 85 b))) &&& 15=pc b:=by decide +kernel
theorem xV:∀b,b<256→pc b≤8:=by decide +kernel

theorem xW (n x:Nat):sA (mask 85 (n+1)) x=sA 85 (x % 256)+256 * sA (mask 85 n) (x / 256):=by
 unfold sA
 rw[mask,gP _ _ _ (by decide),gP _ _ _ (by decide)]
 have h1:x / 2 / 256=x / 256 / 2:=by omega
 have h2:x / 2 % 256=x % 256 / 2+128 * (x / 256 % 2):=by omega
 rw[h1,h2,kA _ (Nat.mod_lt _ (by decide)) _ (Nat.mod_lt _ (by decide))]
 omega
theorem stepB (n y:Nat):sB (mask 51 (n+1)) y=sB 51 (y % 256)+256 * sB (mask 51 n) (y / 256):=by
 unfold sB
 rw[mask,gP _ _ _ (by decide),gP _ _ _ (by decide)]
 have h1:y / 4 / 256=y / 256 / 4:=by omega
 have h2:y / 4 % 256=y % 256 / 4+64 * (y / 256 % 4):=by omega
 rw[h1,h2,kB _ (Nat.mod_lt _ (by decide)) _ (Nat.mod_lt _ (by decide))]
 omega
theorem AB (n x:Nat):sB (mask 51 (n+1)) (sA (mask 85 (n+1)) x)=sB 51 (sA 85 (x % 256))+256 * sB (mask 51 n) (sA (mask 85 n) (x / 256)):=by
 have h:=kA2 (x % 256) (Nat.mod_lt _ (by decide))
 rw[xW,stepB]
 have h1:(sA 85 (x % 256)+256 * sA (mask 85 n) (x / 256)) % 256=sA 85 (x % 256):=by omega
 have h2:(sA 85 (x % 256)+256 * sA (mask 85 n) (x / 256)) / 256=sA (mask 85 n) (x / 256):=by omega
 rw[h1,h2]
theorem xX:∀(n x:Nat),sB (mask 51 n) (sA (mask 85 n) x) % 16<5
 | 0,x=>by simp[sB,sA,mask]
 | n+1,x=>by
  rw[AB]
  have:=(kB2 (x % 256) (Nat.mod_lt _ (by decide))).2
  omega
theorem ABC:∀(n x:Nat),sC (mask 15 n) (sB (mask 51 n) (sA (mask 85 n) x))=F n x
 | 0,x=>by simp[sC,mask,F]
 | n+1,x=>by
  have hb:=Nat.mod_lt x (show 256 > 0 by decide)
  have hq:=xX n (x / 256)
  have ih:=ABC n (x / 256)
  obtain⟨k1,k2⟩:=kC _ hb _ hq
  have k3:=(kB2 _ hb).1
  rw[AB,F,← ih]
  generalize sB (mask 51 n) (sA (mask 85 n) (x / 256))=q at *
  generalize sB 51 (sA 85 (x % 256))=b at *
  unfold sC
  rw[mask,gP _ _ _ (by decide)]
  have h1:(b+256 * q) / 16+(b+256 * q)=256 * (q / 16+q)+(q % 16 * 16+(b / 16+b)):=by omega
  rw[h1]
  have h2:(256 * (q / 16+q)+(q % 16 * 16+(b / 16+b))) / 256=q / 16+q:=by omega
  have h3:(256 * (q / 16+q)+(q % 16 * 16+(b / 16+b))) % 256=q % 16 * 16+(b / 16+b):=by omega
  rw[h2,h3,k2]
  omega
theorem masks:mask 85 8=6148914691236517205∧mask 51 8=3689348814741910323∧mask 15 8=1085102592571150095:=by decide
def G:Nat→Nat→Nat
 | 0,_=>0
 | n+1,x=>pc (x % 256)+G n (x / 256)
def V:List Nat→Nat
 | []=>0
 | a::l=>a+256 * V l
def addL:List Nat→List Nat→List Nat
 | [],m=>m
 | l,[]=>l
 | a::l,b::m=>(a+b)::addL l m
theorem qc:∀l m,V (addL l m)=V l+V m
 | [],m=>by simp[addL,V]
 | a::l,[]=>by simp[addL,V]
 | a::l,b::m=>by simp only[addL,V,qc l m];omega
theorem qd:∀(k:Nat) (l:List Nat),(∀a∈l,a<256)→V l / 256 ^ k=V (l.drop k)
 | 0,l,_=>by simp
 | k+1,[],_=>by simp[V]
 | k+1,a::l,h=>by
  have h1:V (a::l) / 256=V l:=by
   have:=h a (by simp)
   simp only[V]
   omega
  rw[Nat.pow_succ,Nat.mul_comm,← Nat.div_div_eq_div_mul,h1,qd k l (fun x hx=>h x (by simp[hx]))]
  simp
theorem qe:∀(l:List Nat),(∀a∈l,a<256)→V l<256 ^ l.length
 | [],_=>by simp[V]
 | a::l,h=>by
  have h1:=h a (by simp)
  have h2:=qe l (fun x hx=>h x (by simp[hx]))
  simp only[V,List.length_cons,Nat.pow_succ]
  omega
theorem qf (x y:Nat):∀(l m:List Nat),(∀a∈l,a≤x)→(∀a∈m,a≤y)→∀a∈addL l m,a≤x+y
 | [],m,_,h2=>fun a ha=>by have:=h2 a (by simpa[addL] using ha);omega
 | a::l,[],h1,_=>fun b hb=>by have:=h1 b (by simpa[addL] using hb);omega
 | a::l,b::m,h1,h2=>fun c hc=>by
  simp only[addL,List.mem_cons] at hc
  rcases hc with rfl|hc
  ·have:=h1 a (by simp);have:=h2 b (by simp);omega
  ·exact qf x y l m (fun x hx=>h1 x (by simp[hx])) (fun x hx=>h2 x (by simp[hx])) c hc
theorem qg:∀(l m:List Nat),m.length≤l.length→(addL l m).length=l.length
 | [],[],_=>rfl
 | a::l,[],_=>rfl
 | a::l,b::m,h=>by simp only[addL,List.length_cons] at h ⊢;rw[qg l m (by omega)]
theorem stepV (k b:Nat)(l:List Nat)(hl:l.length=8)(hb:∀a∈l,a≤b)(h:b+b<256) :
  (V l+V l / 256 ^ k) % 18446744073709551616=V (addL l (l.drop k))∧(addL l (l.drop k)).length=8∧∀a∈addL l (l.drop k),a≤b+b:=by
 have hd:∀a∈l.drop k,a≤b:=fun a ha=>hb a (List.mem_of_mem_drop ha)
 have h3:=qf b b l (l.drop k) hb hd
 have h2:=qg l (l.drop k) (by simp)
 refine⟨?_,by omega,h3⟩
 rw[qd k l (fun a ha=>by have:=hb a ha;omega),← qc]
 refine Nat.mod_eq_of_lt ?_
 have:=qe (addL l (l.drop k)) (fun a ha=>by have:=h3 a ha;omega)
 rw[h2,hl] at this
 exact this
def bytes (x:Nat):List Nat:=[pc (x % 256),pc (x / 256 % 256),pc (x / 256 / 256 % 256),pc (x / 256 / 256 / 256 % 256),pc (x / 256 / 256 / 256 / 256 % 256),pc (x / 256 / 256 / 256 / 256 / 256 % 256),
 pc (x / 256 / 256 / 256 / 256 / 256 / 256 % 256),pc (x / 256 / 256 / 256 / 256 / 256 / 256 / 256 % 256)]
theorem F_V (x:Nat):F 8 x=V (bytes x):=rfl
theorem qh (x:Nat):∀a∈bytes x,a≤8:=by
 intro a ha
 simp only[bytes,List.mem_cons,List.not_mem_nil,or_false] at ha
 rcases ha with rfl|rfl|rfl|rfl|rfl|rfl|rfl|rfl <;> exact xV _ (Nat.mod_lt _ (by decide))
theorem xY:∀p0 p1 p2 p3 p4 p5 p6 p7:Nat,∃t,addL (addL (addL [p0,p1,p2,p3,p4,p5,p6,p7] [p1,p2,p3,p4,p5,p6,p7]) ((addL [p0,p1,p2,p3,p4,p5,p6,p7] [p1,p2,p3,p4,p5,p6,p7]).drop 2)) ((addL (addL [p0,p1,p2,p3,p4,p5,p6,p7] [p1,p2,p3,p4,p5,p6,p7]) ((addL [p0,p1,p2,p3,p4,p5,p6,p7] [p1,p2,p3,p4,p5,p6,p7]).drop 2)).drop 4)=(p0+p1+(p2+p3)+(p4+p5+(p6+p7)))::t:=by
 intros
 exact⟨_,rfl⟩
theorem fold8 (x y4 y5 y6:Nat)(h4:y4=(F 8 x+F 8 x / 256) % 18446744073709551616)(h5:y5=(y4+y4 / 65536) % 18446744073709551616)(h6:y6=(y5+y5 / 4294967296) % 18446744073709551616) :
  y6 % 128=G 8 x:=by
 rw[F_V] at h4
 obtain⟨a1,a2,a3⟩:=stepV 1 8 (bytes x) rfl (qh x) (by decide)
 rw[Nat.pow_one] at a1
 rw[a1] at h4
 obtain⟨b1,b2,b3⟩:=stepV 2 16 _ a2 a3 (by decide)
 rw[h4,show (65536:Nat)=256 ^ 2 from rfl,b1] at h5
 obtain⟨c1,c2,c3⟩:=stepV 4 32 _ b2 b3 (by decide)
 rw[h5,show (4294967296:Nat)=256 ^ 4 from rfl,c1] at h6
 obtain⟨t,ht⟩:=xY (pc (x % 256)) (pc (x / 256 % 256)) (pc (x / 256 / 256 % 256)) (pc (x / 256 / 256 / 256 % 256)) (pc (x / 256 / 256 / 256 / 256 % 256)) (pc (x / 256 / 256 / 256 / 256 / 256 % 256))
  (pc (x / 256 / 256 / 256 / 256 / 256 / 256 % 256)) (pc (x / 256 / 256 / 256 / 256 / 256 / 256 / 256 % 256))
 have hb:=qh x
 simp only[bytes,List.mem_cons,List.not_mem_nil,or_false,forall_eq_or_imp,forall_eq] at hb
 have h7:y6=V ((pc (x % 256)+pc (x / 256 % 256)+(pc (x / 256 / 256 % 256)+pc (x / 256 / 256 / 256 % 256))+(pc (x / 256 / 256 / 256 / 256 % 256)+pc (x / 256 / 256 / 256 / 256 / 256 % 256) +
  (pc (x / 256 / 256 / 256 / 256 / 256 / 256 % 256)+pc (x / 256 / 256 / 256 / 256 / 256 / 256 / 256 % 256))))::t):=by
  rw[h6,← ht]
  rfl
 rw[h7]
 simp only[V,G]
 obtain⟨g0,g1,g2,g3,g4,g5,g6,g7⟩:=hb
 generalize pc (x % 256)=p0 at *
 generalize pc (x / 256 % 256)=p1 at *
 generalize pc (x / 256 / 256 % 256)=p2 at *
 generalize pc (x / 256 / 256 / 256 % 256)=p3 at *
 generalize pc (x / 256 / 256 / 256 / 256 % 256)=p4 at *
 generalize pc (x / 256 / 256 / 256 / 256 / 256 % 256)=p5 at *
 generalize pc (x / 256 / 256 / 256 / 256 / 256 / 256 % 256)=p6 at *
 generalize pc (x / 256 / 256 / 256 / 256 / 256 / 256 / 256 % 256)=p7 at *
 clear a1 a2 a3 b1 b2 b3 c1 c2 c3 h4 h5 h6 h7 ht
 generalize V t=z
 omega
theorem xZ (n:Nat)(f:Nat→Bool):(List.range (8 * (n+1))).countP f=(List.range 8).countP f+(List.range (8 * n)).countP (fun i=>f (i+8)):=by
 rw[show 8 * (n+1)=8+8 * n by omega,List.range_add,List.countP_append,List.countP_map]
 congr 1
 refine List.countP_congr fun i _=>?_
 simp[Function.comp,Nat.add_comm]
theorem count_G:∀(n x:Nat),(List.range (8 * n)).countP (fun i=>x.testBit i)=G n x
 | 0,x=>rfl
 | n+1,x=>by
  rw[xZ,G,← count_G n (x / 256)]
  congr 1
  ·unfold pc
   refine List.countP_congr fun i hi=>?_
   have:=List.mem_range.1 hi
   rw[show (256:Nat)=2 ^ 8 from rfl,Nat.testBit_mod_two_pow]
   simp[this]
  ·refine List.countP_congr fun i _=>?_
   rw[show (256:Nat)=2 ^ 8 from rfl,Nat.testBit_div_two_pow]
end Go.Mono.Pop
namespace Go.Mono
open Go Go.Proofs Go.RowKit

def eR (x:BitVec 64):Nat:=(List.range 64).countP fun i=>x.getLsbD i
theorem qi (x:BitVec 64):eR x≤64:=by
 have:=List.countP_le_length (p:=fun i=>x.getLsbD i) (l:=List.range 64)
 simpa[eR] using this
theorem ya (x:BitVec 64):eR x=Pop.G 8 x.toNat:=by
 rw[← Pop.count_G 8 x.toNat]
 rfl
theorem yb (x x1 x2 x3 x4 x5 x6:BitVec 64)(h1:x1=((x >>> 1) &&& 6148914691236517205#64)+(x &&& 6148914691236517205#64))(h2:x2=((x1 >>> 2) &&& 3689348814741910323#64)+(x1 &&& 3689348814741910323#64))
  (h3:x3=((x2 >>> 4)+x2) &&& 1085102592571150095#64) (h4:x4=x3+(x3 >>> 8)) (h5:x5=x4+(x4 >>> 16)) (h6:x6=x5+(x5 >>> 32)):(x6 &&& 127#64).toNat=eR x:=by
 have e1:x1.toNat=Pop.sA (Pop.mask 85 8) x.toNat:=by
  rw[h1,Pop.masks.1,BitVec.toNat_add,BitVec.toNat_and,BitVec.toNat_and,BitVec.toNat_ushiftRight,Nat.shiftRight_eq_div_pow]
  show ((x.toNat / 2 &&& 6148914691236517205)+(x.toNat &&& 6148914691236517205)) % 2 ^ 64=_
  have a1:=@Nat.and_le_right (x.toNat / 2) 6148914691236517205
  have a2:=@Nat.and_le_right x.toNat 6148914691236517205
  rw[Nat.mod_eq_of_lt (by omega)]
  rfl
 have e2:x2.toNat=Pop.sB (Pop.mask 51 8) x1.toNat∧x2.toNat≤7378697629483820646:=by
  rw[h2,Pop.masks.2.1,BitVec.toNat_add,BitVec.toNat_and,BitVec.toNat_and,BitVec.toNat_ushiftRight,Nat.shiftRight_eq_div_pow]
  show ((x1.toNat / 4 &&& 3689348814741910323)+(x1.toNat &&& 3689348814741910323)) % 2 ^ 64=_∧((x1.toNat / 4 &&& 3689348814741910323)+(x1.toNat &&& 3689348814741910323)) % 2 ^ 64≤_
  have a1:=@Nat.and_le_right (x1.toNat / 4) 3689348814741910323
  have a2:=@Nat.and_le_right x1.toNat 3689348814741910323
  rw[Nat.mod_eq_of_lt (by omega)]
  exact⟨rfl,by omega⟩
 have e3:x3.toNat=Pop.sC (Pop.mask 15 8) x2.toNat:=by
  rw[h3,Pop.masks.2.2,BitVec.toNat_and,BitVec.toNat_add,BitVec.toNat_ushiftRight,Nat.shiftRight_eq_div_pow]
  show (x2.toNat / 16+x2.toNat) % 2 ^ 64 &&& 1085102592571150095=_
  rw[Nat.mod_eq_of_lt (by omega)]
  rfl
 have e3':x3.toNat=Pop.F 8 x.toNat:=by rw[e3,e2.1,e1,Pop.ABC]
 have e4:x4.toNat=(Pop.F 8 x.toNat+Pop.F 8 x.toNat / 256) % 18446744073709551616:=by
  rw[h4,BitVec.toNat_add,BitVec.toNat_ushiftRight,Nat.shiftRight_eq_div_pow,e3']
 have e5:x5.toNat=(x4.toNat+x4.toNat / 65536) % 18446744073709551616:=by
  rw[h5,BitVec.toNat_add,BitVec.toNat_ushiftRight,Nat.shiftRight_eq_div_pow]
 have e6:x6.toNat=(x5.toNat+x5.toNat / 4294967296) % 18446744073709551616:=by
  rw[h6,BitVec.toNat_add,BitVec.toNat_ushiftRight,Nat.shiftRight_eq_div_pow]
 have:=Pop.fold8 _ _ _ _ e4 e5 e6
 rw[ya,← this,BitVec.toNat_and]
 exact Nat.and_two_pow_sub_one_eq_mod x6.toNat 7

theorem yc {P:Program}{w0:World}{L:Env}{dst:Option Tmp}{ty:TypeId}{pos:String}{aft:Array Edge}{g:Option (Nat×Bool)}{x y:Operand}{t yt:TypeId}{a b:Int}
  (hx:opd L x=some (E (.int .i64 a))) (hy:opd L y=some (E (.int .i64 b))) :
  OpC P w0 L ⟨dst,.binOp .and t x y yt,ty,pos,aft,g⟩ (E (.int .i64 (IntKind.i64.wrap ((BitVec.ofInt 64 a &&& BitVec.ofInt 64 b).toNat:Int)))):=
 ca rfl hx hy
theorem yd (x:BitVec 64):BitVec.ofInt 64 (IntKind.i64.wrap (x.toNat:Int))=x:=by
 apply BitVec.eq_of_toInt_eq
 rw[BitVec.toInt_ofInt]
 have:=x.isLt
 rw[BitVec.toInt_eq_toNat_bmod]
 rw[IntKind.wrap_i64]
 simp only[Int.bmod]
 split <;> split <;> omega
theorem yf {x:BitVec 64}{n:Nat}(h:(x &&& 127#64).toNat=n)(hn:n≤64):IntKind.i64.wrap ((BitVec.ofInt 64 (IntKind.i64.wrap (x.toNat:Int)) &&& BitVec.ofInt 64 127).toNat:Int)=n:=by
 rw[yd]
 have e:BitVec.ofInt 64 127=127#64:=by decide
 rw[e,h]
 exact IntWalk.i64_in _ (by omega)

theorem yg (x:BitVec 64)(W:World):Calls Tryz.prog 88 #[Mono.W x] W (Post (E (I (eR x))) W):=by
 obtain⟨x1,h1⟩:∃x1,x1=((x >>> 1) &&& 6148914691236517205#64)+(x &&& 6148914691236517205#64):=⟨_,rfl⟩
 obtain⟨x2,h2⟩:∃x2,x2=((x1 >>> 2) &&& 3689348814741910323#64)+(x1 &&& 3689348814741910323#64):=⟨_,rfl⟩
 obtain⟨x3,h3⟩:∃x3,x3=((x2 >>> 4)+x2) &&& 1085102592571150095#64:=⟨_,rfl⟩
 obtain⟨x4,h4⟩:∃x4,x4=x3+(x3 >>> 8):=⟨_,rfl⟩
 obtain⟨x5,h5⟩:∃x5,x5=x4+(x4 >>> 16):=⟨_,rfl⟩
 obtain⟨x6,h6⟩:∃x6,x6=x5+(x5 >>> 32):=⟨_,rfl⟩
 have hc:=yf (yb x x1 x2 x3 x4 x5 x6 h1 h2 h3 h4 h5 h6) (qi x)
 refine enter (args:=[Mono.W x]) (As:=[E (Mono.W x)]) Tryz.func88 rfl Tryz.ntmps88 (Nat.le_of_ble_eq_true rfl) ?_ (fun a hf=>?_) (Nat.le_of_ble_eq_true rfl)
 rotate_left
 dsimp only[params,Nat.reduceAdd] at hf
 rotate_right
 ·exact arg1 rfl
 have e:=Ext.rfl' W
 refine seq ?_
 refine ah ?_
 refine ae hf rfl (by decide) fun a hf=>?_
 refine aa ?_
 replace hf:=hf.kp [0]
 refine seq ?_
 refine ac 6 hf (by decide +kernel) ?_
 refine st (mv rfl) ?_
 refine st (eB rfl rfl (by omega)) ?_
 refine st (ec (v:=6148914691236517205#64) rfl rfl) ?_
 refine st (mv rfl) ?_
 refine st (ec (v:=6148914691236517205#64) rfl rfl) ?_
 refine st ((fz rfl rfl).eq (show Mono.W _=Mono.W x1 from by rw[h1];rfl)) ?_
 refine en fun a w e' hf=>?_
 replace e:=e.tr e'
 refine ae hf rfl (by decide) fun a hf=>?_
 refine aa ?_
 replace hf:=hf.kp [0]
 refine seq ?_
 refine ac 6 hf (by decide +kernel) ?_
 refine st (mv rfl) ?_
 refine st (eB rfl rfl (by omega)) ?_
 refine st (ec (v:=3689348814741910323#64) rfl rfl) ?_
 refine st (mv rfl) ?_
 refine st (ec (v:=3689348814741910323#64) rfl rfl) ?_
 refine st ((fz rfl rfl).eq (show Mono.W _=Mono.W x2 from by rw[h2];rfl)) ?_
 refine en fun a w e' hf=>?_
 replace e:=e.tr e'
 refine ae hf rfl (by decide) fun a hf=>?_
 refine aa ?_
 replace hf:=hf.kp [0]
 refine seq ?_
 refine ac 5 hf (by decide +kernel) ?_
 refine st (mv rfl) ?_
 refine st (eB rfl rfl (by omega)) ?_
 refine st (mv rfl) ?_
 refine st (fz rfl rfl) ?_
 refine st ((ec (v:=1085102592571150095#64) rfl rfl).eq (show Mono.W _=Mono.W x3 from by rw[h3];rfl)) ?_
 refine en fun a w e' hf=>?_
 replace e:=e.tr e'
 refine ae hf rfl (by decide) fun a hf=>?_
 refine aa ?_
 replace hf:=hf.kp [0]
 refine seq ?_
 refine ac 4 hf (by decide +kernel) ?_
 refine st (mv rfl) ?_
 refine st (mv rfl) ?_
 refine st (eB rfl rfl (by omega)) ?_
 refine st ((fz rfl rfl).eq (show Mono.W _=Mono.W x4 from by rw[h4];rfl)) ?_
 refine en fun a w e' hf=>?_
 replace e:=e.tr e'
 refine ae hf rfl (by decide) fun a hf=>?_
 refine aa ?_
 replace hf:=hf.kp [0]
 refine seq ?_
 refine ac 4 hf (by decide +kernel) ?_
 refine st (mv rfl) ?_
 refine st (mv rfl) ?_
 refine st (eB rfl rfl (by omega)) ?_
 refine st ((fz rfl rfl).eq (show Mono.W _=Mono.W x5 from by rw[h5];rfl)) ?_
 refine en fun a w e' hf=>?_
 replace e:=e.tr e'
 refine ae hf rfl (by decide) fun a hf=>?_
 refine aa ?_
 replace hf:=hf.kp [0]
 refine seq ?_
 refine ac 4 hf (by decide +kernel) ?_
 refine st (mv rfl) ?_
 refine st (mv rfl) ?_
 refine st (eB rfl rfl (by omega)) ?_
 refine st ((fz rfl rfl).eq (show Mono.W _=Mono.W x6 from by rw[h6];rfl)) ?_
 refine en fun a w e' hf=>?_
 replace e:=e.tr e'
 refine ae hf rfl (by decide) fun a hf=>?_
 refine aa ?_
 replace hf:=hf.kp [0]
 refine seq ?_
 refine ac 3 hf (by decide +kernel) ?_
 refine st (mv rfl) ?_
 refine st (mg U54 U3 rfl) ?_
 refine st ((yc rfl rfl).eq (congrArg (Value.int .i64) hc)) ?_
 refine en fun a w e' hf=>?_
 replace e:=e.tr e'
 refine ae hf rfl (by decide) fun a hf=>?_
 refine aa ?_
 refine aj (al rfl hf rfl ?_)
 rintro v rfl
 exact⟨_,rfl,e,rfl⟩
def eA (S:BS):Nat:=(List.range 1024).countP fun i=>S.getLsbD i
def cardTo (S:BS)(k:Nat):Nat:=(List.range (64 * k)).countP fun i=>S.getLsbD i
theorem yh (S:BS)(k:Nat):cardTo S (k+1)=cardTo S k+eR (an S k):=by
 unfold cardTo eR
 rw[show 64 * (k+1)=64 * k+64 by omega,List.range_add,List.countP_append,List.countP_map]
 refine congrArg (fun n=>(List.range (64 * k)).countP (fun i=>S.getLsbD i)+n) (List.countP_congr fun i hi=>?_)
 have:=List.mem_range.1 hi
 simp[cU _ _ _ this]
theorem yi (S:BS):cardTo S 16=eA S:=by simp only[cardTo,eA,Nat.reduceMul]
theorem yj (S:BS)(k:Nat):cardTo S k≤64 * k:=by
 have:=List.countP_le_length (p:=fun i=>S.getLsbD i) (l:=List.range (64 * k))
 simpa[cardTo] using this

theorem yk (S:BS)(W:World):Calls Tryz.prog 40 #[au S] W (Post (E (I (eA S))) W):=by
 refine enter (args:=[au S]) (As:=[E (au S)]) Tryz.func40 rfl Tryz.ntmps40 (Nat.le_of_ble_eq_true rfl) ?_ (fun a hf=>?_) (Nat.le_of_ble_eq_true rfl)
 rotate_left
 dsimp only[params,Nat.reduceAdd] at hf
 rotate_right
 ·exact arg1 rfl
 have e:=Ext.rfl' W
 refine seq ?_
 refine ah ?_
 refine aH hf rfl (by decide) fun a b1 w v1 hv1 e' hb1 hs1 B1 hf=>?_
 have hle1:=Nat.le_trans e.size (Nat.le_of_eq hb1.symm)
 replace e:=e.tr e'
 refine ae hf rfl (by decide) fun a hf=>?_
 refine aa ?_
 subst hv1
 rw[dh] at B1
 refine seq ?_
 refine ah ?_
 refine ae hf rfl (by decide) fun a hf=>?_
 refine aa ?_
 repeat refine seq ?_
 refine ac 2 hf (by decide +kernel) ?_
 refine st (ldW T56 rfl (by assumption) rfl) ?_
 refine st (mv rfl) ?_
 refine en fun a w e' hf=>?_
 replace e:=e.tr e'
 replace B1:=B1.ext e'
 refine aa ?_
 replace hf:=hf.kp [3,6,7]
 refine blk (aG (fun r a w=>∃k:Nat,r=16 - k∧k≤16∧Fr 16 a w [(3,E (I (cardTo S k))),(6,E (au S)),(7,E (I k))]∧Ext W w) 16 ⟨0,rfl,by omega,hf,e⟩ ?_)
 clear hf e B1
 rintro r a w ⟨k,rfl,hk,hf,e⟩
 by_cases hlt:k<16
 ·refine seq ?_
  refine ac 1 hf (by decide +kernel) ?_
  refine st ((lss rfl rfl).eq (congrArg Value.bool (show decide ((k:Int)<16)=true from decide_eq_true (by omega)))) ?_
  refine en fun a w e' hf=>?_
  replace e:=e.tr e'
  refine aa ?_
  refine seq ?_
  refine ifc hf rfl (fun _=>ak ?_) (fun h=>by cases h)
  refine seq ?_
  refine blk ?_
  refine seq ?_
  refine ac 1 hf (by decide +kernel) ?_
  refine st (ga U56 T54 rfl rfl (by omega) (by simpa[aM] using cg (an S) k hlt)) ?_
  refine en fun a w e' hf=>?_
  replace e:=e.tr e'
  refine ae hf rfl (by decide) fun a hf=>?_
  refine aa ?_
  have hp:=qi (an S k)
  have hq:=yj S k
  refine ac 4 hf (by decide +kernel) ?_
  refine st (mv rfl) ?_
  refine st (mv rfl) ?_
  refine st (aw rC rfl (fun v w' e' h=>by cases h;exact yg _ w')) ?_
  refine st ((add rfl rfl (by omega)).eq (congrArg (Value.int .i64) (show ((cardTo S k:Nat):Int)+(eR (an S k):Nat)=(cardTo S (k+1):Nat) from by rw[yh];omega))) ?_
  refine en fun a w e' hf=>?_
  replace e:=e.tr e'
  refine ae hf rfl (by decide) fun a hf=>?_
  refine aa ?_
  refine ac 1 hf (by decide +kernel) ?_
  refine st (add rfl rfl (by omega)) ?_
  refine en fun a w e' hf=>?_
  replace e:=e.tr e'
  clear e'
  refine ar hf (by decide) (mv rfl) fun a w e' hf=>?_
  replace e:=e.tr e'
  refine aa ?_
  replace hf:=hf.kp [3,6,7]
  exact⟨16 - (k+1),by omega,k+1,rfl,by omega,by simpa using hf,e⟩
 ·obtain rfl:k=16:=by omega
  refine seq ?_
  refine ac 1 hf (by decide +kernel) ?_
  refine st ((lss rfl rfl).eq (congrArg Value.bool (show decide (((16:Nat):Int)<16)=false from rfl))) ?_
  refine en fun a w e' hf=>?_
  replace e:=e.tr e'
  refine aa ?_
  refine seq ?_
  refine ifc hf rfl (fun h=>by cases h) (fun _=>aF ?_)
  simp only[Exit.then,Exit.inBlock,↓reduceIte]
  refine seq ?_
  refine ac 1 hf (by decide +kernel) ?_
  refine st (mv rfl) ?_
  refine en fun a w e' hf=>?_
  replace e:=e.tr e'
  refine ae hf rfl (by decide) fun a hf=>?_
  refine aa ?_
  refine aj (al rfl hf rfl ?_)
  rintro v rfl
  exact⟨_,rfl,e,by rw[yi];rfl⟩

theorem yl (b:Int×BS)(W:World):Calls Tryz.prog 39 #[bY b] W (Post (E (B (decide (4<eA b.2)))) W):=by
 refine enter (args:=[bY b]) (As:=[E (bY b)]) Tryz.func39 rfl Tryz.ntmps39 (Nat.le_of_ble_eq_true rfl) ?_ (fun a hf=>?_) (Nat.le_of_ble_eq_true rfl)
 rotate_left
 dsimp only[params,Nat.reduceAdd] at hf
 rotate_right
 ·exact arg1 rfl
 have e:=Ext.rfl' W
 refine seq ?_
 refine ah ?_
 refine aH hf rfl (by decide) fun a b1 w v1 hv1 e' hb1 hs1 B1 hf=>?_
 have hle1:=Nat.le_trans e.size (Nat.le_of_eq hb1.symm)
 replace e:=e.tr e'
 refine ae hf rfl (by decide) fun a hf=>?_
 refine aa ?_
 cases hv1
 refine seq ?_
 refine ac 4 hf (by decide +kernel) ?_
 refine st (ai U59 rfl T56 (by decide) rfl) ?_
 refine st ((ldP T56 rfl B1 (dI _)).eq (dJ _)) ?_
 refine st (aw qV rfl (fun v w he h=>by cases h;exact yk _ w)) ?_
 refine st (gtr rfl rfl) ?_
 refine en fun a w e' hf=>?_
 replace e:=e.tr e'
 replace B1:=B1.ext e'
 refine ae hf rfl (by decide) fun a hf=>?_
 refine aa ?_
 refine aj ?_
 refine al rfl hf rfl ?_
 rintro _ rfl
 exact⟨_,rfl,e,congrArg B (by rw[decide_eq_decide];omega)⟩
def frM (t:List (Int×BS)):Fm:=(t,(List.range t.length).map (fw (toT t)),mS (toT t) (fun _=>true))
theorem yn (t:List (Int×BS)):(frM t).2.1.length=(frM t).1.length:=by simp[frM]
theorem qj (S:BS):(toL S).length=eA S:=by
 rw[toL,aO,List.length_map,eA,List.countP_eq_length_filter]
theorem yo {G:Nat→Prop}{w:World}{x:Nd}{kv lv:Value}(h1:(Dv (slE ap) G x.1).p kv w)(h2:(Dv (slE ap) G x.2.1).p lv w):dR.r G w x [kv,lv,I x.2.2.1,I x.2.2.2.1,I x.2.2.2.2]:=
 ⟨[kv],[lv,I x.2.2.1,I x.2.2.2.1,I x.2.2.2.2],rfl,Dv.r1 rfl h1,[lv],[I x.2.2.1,I x.2.2.2.1,I x.2.2.2.2],rfl,Dv.r1 rfl h2,[I x.2.2.1],[I x.2.2.2.1,I x.2.2.2.2],rfl,rfl,[I x.2.2.2.1],[I x.2.2.2.2],rfl,rfl,rfl⟩
theorem yp {l:List Value}{s:Nat}{a b c d e:Value}(h0:l[s]?=some a)(h1:l[s+1]?=some b)(h2:l[s+2]?=some c)(h3:l[s+3]?=some d)(h4:l[s+4]?=some e):l.drop s=[a,b,c,d,e]++l.drop (s+5):=by
 have g:∀{k:Nat} {x:Value},l[k]?=some x→l.drop k=x::l.drop (k+1):=fun {k x} h=>by
  obtain⟨hk,hx⟩:=List.getElem?_eq_some_iff.1 h
  rw[List.drop_eq_getElem_cons hk,hx]
 rw[g h0,g h1,g h2,g h3,g h4];rfl
theorem NS.cells {n:Nat}{G:Nat→Prop}{nd:Nat→Nd}{cells:Array Value}{w:World}(h:NS n G nd cells w):∀m s,s+m=n→Cells dR G w ((List.range' s m).map nd) (cells.toList.drop (s * 5))
 | 0,s,hs=>by
  have:cells.toList.drop (s * 5)=[]:=List.drop_eq_nil_of_le (by rw[Array.length_toList,h.size];omega)
  rw[this];rfl
 | m+1,s,hs=>by
  obtain⟨kv,lv,h1,h2,h3,h4,h5,h6,h7⟩:=h.nd s (by omega)
  rw[List.range'_succ,List.map_cons]
  have e:∀f (v:Value),cells[0+s * 5+f]?=some v→cells.toList[s * 5+f]?=some v:=fun f v hv=>by rw[Array.getElem?_toList];rwa [Nat.zero_add] at hv
  refine⟨_,_,yp (e 0 _ h1) (e 1 _ h2) (e 2 _ h3) (e 3 _ h4) (e 4 _ h5),yo h6 h7,?_⟩
  have:=h.cells m (s+1) (by omega)
  rwa [Nat.add_mul,Nat.one_mul] at this
theorem NS.dv {n:Nat}{G:Nat→Prop}{nd:Nat→Nd}{cells:Array Value}{w:World}{bn:Nat}(h:NS n G nd cells w)(hb:Blk w bn cells 100)(hG:¬G bn):(Dv (slE dR) G ((List.range n).map nd)).p (.slice (some ⟨bn,0,none⟩) n n) w:=by
 have hc:=h.cells n 0 (Nat.zero_add n)
 rw[Nat.zero_mul,List.drop_zero,← List.range_eq_range'] at hc
 refine Dv.sl.2 (.inr ⟨⟨bn,0,none⟩,n,cells.toList,?_,by simp,hG,hb.lt,hc,fun i u hu=>?_⟩)
 ·simp
 ·rw[Addr.add_lit,Nat.zero_add,hb.cell i]
  simpa using hu
theorem yq (ao:Option Addr)(n c:Nat)(ao':Option Addr)(n' c':Nat)(m:Option Nat):Tryz.prog.built 82 [(0,.slice ao n c),(1,.slice ao' n' c'),(2,.map m)]=some #[.slice ao n c,.slice ao' n' c',.map m]:=by kernel_rfl
def nK (xs:List RB)(k i:Nat):Nd:=(if i<k then kids xs (i:Nat) else [],[],0,0,0)
theorem yr (xs:List RB)(k:Nat):un (nK xs k) k (kids xs (k:Nat),(nK xs k k).2)=nK xs (k+1):=by
 funext i
 by_cases hi:i=k
 ·subst hi;rw[da];simp[nK]
 ·rw[ft hi]
  have:(i<k+1)=(i<k):=by apply propext;omega
  simp only[nK,this]
theorem qk {xs:List RB}(V:aV xs){r:Nat}(h1:∀j,j<xs.length→up xs j<0→j=r):∀i,i<xs.length→dsc xs r i=true:=by
 refine ik V (fun i hi hu=>?_) (fun i j hi hj hu ih=>?_)
 ·rw[h1 i hi (by omega)];exact pV _ _
 ·rw[il V hi hu,ih,Bool.or_true]
theorem yu {t:List (Int×BS)}(p:Nat):cc t t.length p=kids (toT t) (p:Nat):=by
 rw[cc,kids,bA,aO,aO]
 congr 1
 refine List.filter_congr fun i hi=>?_
 rw[dA (List.mem_range.1 hi)]
def kY (t:List (Int×BS))(G:Nat→Prop):VA:=⟨fun v w=>(bp (toT t)=0∧(Dv (ptE frE) G (some (frM t))).p v w)∨(bp (toT t)≠0∧v=.pointer none),fun v w w' e h=>h.imp (fun h=>⟨h.1,Dv.ex h.2 e⟩) id⟩

theorem yv {G:Nat→Prop}(t:List (Int×BS))(v:Value)(W:World)(hT:Tab W)(h:(Dv aL G t).p v W)(hl:t.length≤1000) :
  Calls Tryz.prog 17 #[v] W (Post (Tup [kY t (fun b=>b<W.heap.size),E (I (bp (toT t)))]) W):=by
 have hd:Rng t→(rootN t).length=1→Dp t t.length:=fun h1 h2=>Dp.mk' (by omega) h1 h2
 have hck:bZ t t.length=bi (toT t):=pF
 have HV:(Dv aL (GB W G0) t).p v W:=Dv.toB (Dv.weak h fun b _ hb=>hb.elim)
 refine enter (args:=[v]) (As:=[E v]) Tryz.func17 rfl Tryz.ntmps17 (Nat.le_of_ble_eq_true rfl) ?_ (fun a hf=>?_) (Nat.le_of_ble_eq_true rfl)
 rotate_left
 dsimp only[params,Nat.reduceAdd] at hf
 rotate_right
 ·exact arg1 rfl
 have e:=Ext.rfl' W
 have hT0:=hT.lt
 refine seq ?_
 refine ah ?_
 refine aH hf rfl (by decide) fun a b1 w v1 hv1 e' hb1 hs1 B1 hf=>?_
 have hle1:=Nat.le_trans e.size (Nat.le_of_eq hb1.symm)
 replace HV:=Dv.ex HV e'
 replace hT:=hT.ext e'
 replace e:=e.tr e'
 refine ae hf rfl (by decide) fun a hf=>?_
 refine ae hf rfl (by decide) fun a hf=>?_
 refine aa ?_
 cases hv1
 rw[jn (Dv.slOne HV)] at B1
 repeat refine seq ?_
 refine ac 2 hf (by decide +kernel) ?_
 refine st (ld1 T23 rfl B1 rfl) ?_
 refine st (aw gV rfl (fun v w he h=>by cases h;exact iD t t.length _ w (Dv.ex HV he) (by omega) hd)) ?_
 refine en fun a w e' hf=>?_
 replace HV:=Dv.ex HV e'
 replace hT:=hT.ext e'
 replace e:=e.tr e'
 replace B1:=B1.ext e'
 refine ae hf rfl (by decide) fun a hf=>?_
 refine aa ?_
 refine seq ?_
 refine ac 2 hf (by decide +kernel) ?_
 refine st (mv rfl) ?_
 refine st (neq rfl rfl) ?_
 refine en fun a w e' hf=>?_
 replace HV:=Dv.ex HV e'
 replace hT:=hT.ext e'
 replace e:=e.tr e'
 replace B1:=B1.ext e'
 refine aa ?_
 refine ifc hf rfl (fun hb=>?_) (fun hb=>?_)
 ·have hb':bi (toT t)≠0:=by rw[← hck];simpa using hb
  have hn:bp (toT t)=bi (toT t):=by rw[bp,if_pos hb']
  refine seq ?_
  refine ac 1 hf (by decide +kernel) ?_
  refine st (mv rfl) ?_
  refine en fun a w e' hf=>?_
  replace HV:=Dv.ex HV e'
  replace hT:=hT.ext e'
  replace e:=e.tr e'
  replace B1:=B1.ext e'
  refine ae hf rfl (by decide) fun a hf=>?_
  refine ae hf rfl (by decide) fun a hf=>?_
  refine aa ?_
  refine aj (cb rfl hf rfl rfl ?_)
  rintro _ _ rfl rfl
  exact⟨_,rfl,e,by rw[hn,← hck];exact Tup.two (.inr ⟨by rw[hn];exact hb',rfl⟩) rfl⟩
 have hb':bi (toT t)=0:=by rw[← hck];simpa using hb
 have hc0:bZ t t.length=0:=hck.trans hb'
 obtain⟨h0,V⟩:=jE.1 hb'
 rw[bA] at h0
 have hr:Rng t:=fun i hi=>by have:=V.range i (by rw[bA];exact hi);rwa [dA hi,bA] at this
 clear hb
 refine ak ?_
 simp only[Exit.then,Exit.inBlock,↓reduceIte]
 refine seq ?_
 refine blk ?_
 refine seq ?_
 refine ac 3 hf (by decide +kernel) ?_
 refine st (ld1 T23 rfl B1 rfl) ?_
 refine st (ay U23 (isE rfl HV)) ?_
 refine st ((gtr rfl rfl).eq (congrArg Value.bool (show decide ((1024:Int)<(t.length:Nat))=false from decide_eq_false (by omega)))) ?_
 refine en fun a w e' hf=>?_
 replace HV:=Dv.ex HV e'
 replace hT:=hT.ext e'
 replace e:=e.tr e'
 replace B1:=B1.ext e'
 refine ae hf rfl (by decide) fun a hf=>?_
 refine aa ?_
 refine ifc hf rfl (fun h=>by cases h) (fun _=>?_)
 have hbig:bp (toT t)=if ∀i,i<(toT t).length→(hs (toT t) i).length≤4 then 0 else 14:=by rw[bp,if_neg (Classical.not_not.2 hb')]
 have hcard:(∀i,i<(toT t).length→(hs (toT t) i).length≤4)↔∀i,i<t.length→decide (4<eA (bg t i).2)=false:=by
  rw[bA]
  constructor
  ·intro h i hi
   have:=h i hi
   rw[dB hi,qj] at this
   exact decide_eq_false (by omega)
  ·intro h i hi
   have:=of_decide_eq_false (h i hi)
   rw[dB hi,qj];omega
 have hfs:=gK (p:=fun b=>decide (4<eA b.2)) (t:=t)
 refine seq ?_
 refine ac 2 hf (by decide +kernel) ?_
 refine st (ld1 T23 rfl B1 rfl) ?_
 refine st (ax fA rfl rfl (fun v u w he h h'=>by cases h;cases h';exact fK t _ _ _ (fun b=>decide (4<eA b.2)) w qU (Dv.ex HV he) (fun w' b _=>yl b w') (by omega))) ?_
 refine en fun a w e' hf=>?_
 replace HV:=Dv.ex HV e'
 replace hT:=hT.ext e'
 replace e:=e.tr e'
 replace B1:=B1.ext e'
 refine ae hf rfl (by decide) fun a hf=>?_
 refine aa ?_
 refine ifc hf rfl (fun hb=>?_) (fun hb=>?_)
 ·have hn:bp (toT t)=14:=by
   rw[hbig,if_neg]
   intro h
   rw[hfs.2 (hcard.1 h)] at hb;cases hb
  refine seq ?_
  refine ah ?_
  refine ae hf rfl (by decide) fun a hf=>?_
  refine ae hf rfl (by decide) fun a hf=>?_
  refine aa ?_
  refine aj (cb rfl hf rfl rfl ?_)
  rintro _ _ rfl rfl
  exact⟨_,rfl,e,by rw[hn];exact Tup.two (.inr ⟨by rw[hn];decide,rfl⟩) rfl⟩
 have hn0:bp (toT t)=0:=by rw[hbig,if_pos (hcard.2 (hfs.1 hb))]
 clear hbig hcard hfs hb
 refine ak ?_
 simp only[Exit.then,Exit.inBlock,↓reduceIte]
 replace hf:=hf.kp [1]
 obtain⟨Nw,hNw⟩:∃Nw,Nw=w.heap.size:=⟨_,rfl⟩
 have hNW:=e.size
 have l1:=B1.lt
 refine seq ?_
 refine reg 9 Mix.mix hf (by decide +kernel) ?_
 refine st (ld1 T23 rfl B1 rfl) ?_
 refine st (aw (A:=OwA bR 59 W.heap.size G0 t) lG rfl (fun v w he h=>by cases h;exact xC W.heap.size t _ w (Dv.ex HV he) (by omega) (Nat.le_trans hNW he.size))) ?_
 refine st (ld1 T23 rfl B1 rfl) ?_
 refine st (ay U23 (isE rfl HV)) ?_
 refine st (mkS (t:=79) (te:=100) U79 ls rfl (by omega) (by decide)) ?_
 refine st (mkM (k:=3) (e:=3)) ?_
 refine st (tx rfl rfl rfl (fun u0 u1 u2 w h0 h1 h2=>by obtain⟨ao,n,c,rfl⟩:=Dv.slF (OwR.sl h0);obtain⟨b',_,rfl,_⟩:=h1;obtain⟨b'',_,rfl,_⟩:=h2;exact yq _ _ _ _ _ _ _)) ?_
 refine st (bxD rfl) ?_
 refine st (alD I27) ?_
 refine en fun a w e' hf=>?_
 replace HV:=Dv.ex HV e'
 replace hT:=hT.ext e'
 replace e:=e.tr e'
 replace B1:=B1.ext e'
 clear e'
 obtain⟨_,⟨bF,_,hbF,rfl,⟨u0,_,_,rfl,H0,⟨bn,hbn,rfl,BN⟩,⟨bm,hbm,rfl,HM⟩⟩,BF⟩,hf⟩:=hf.fix 27 rfl
 obtain⟨_,⟨b5,hb5,rfl,B5⟩,hf⟩:=hf.fix 5 rfl
 rw[← hNw] at hbF hbn hbm hb5
 replace BF:Blk w bF #[u0,.slice (some ⟨bn,0,none⟩) t.length t.length,.map (some bm)] 82:=BF
 replace B5:Blk w b5 #[.pointer none] 27:=B5
 have n1:=BF.ne BN (by decide)
 have n2:=BF.neM HM
 have n3:=B5.ne BN (by decide)
 have n4:=B5.neM HM
 have n5:=B5.ne BF (by decide)
 have n6:=BN.neM HM
 have H0:OwR bR 59 W.heap.size G0 w t u0:=H0
 have o5:=H0.neB B5 (by decide)
 have oN:=H0.neB BN (by decide)
 have oM:=H0.neM HM
 replace hf:=hf.kp [1,5,27]
 refine aP T27 hf rfl rfl rfl B5 (by decide) fun w hg hsz B5 hf=>?_
 replace HV:=Dv.gr HV hg (.inr (by omega))
 replace hT:=hT.gr hg (by omega)
 replace H0:=H0.grE hg o5
 replace e:=e.gr hg (by omega)
 replace B1:=B1.gr hg (by omega)
 replace BF:=BF.gr hg (by omega)
 replace BN:=BN.gr hg (by omega)
 replace HM:=HM.gr hg (by omega)
 clear hg
 refine aa ?_
 replace B5:Blk w b5 #[.pointer (some ⟨bF,0,none⟩)] 27:=B5
 have hW1:=e.size
 have HS:NS t.length (fun c=>Sn bn bm c∨c<W.heap.size) (nK (toT t) 0) (madeCells (Value.agg #[.slice none 0 0,.slice none 0 0,I 0,I 0,I 0]).cells (t.length * 5)) w:=by
  refine⟨size_madeCells _ _,fun i hi=>⟨.slice none 0 0,.slice none 0 0,?_,?_,?_,?_,?_,?_,Dv.nil⟩⟩
  all_goals first
   | exact tB (k:=5) rfl (by decide) hi
   | (rw[nK,if_neg (by omega)];exact Dv.nil)
 obtain⟨cells,hcells⟩:∃cells,cells=madeCells (Value.agg #[.slice none 0 0,.slice none 0 0,I 0,I 0,I 0]).cells (t.length * 5):=⟨_,rfl⟩
 rw[← hcells] at HS BN
 clear hcells
 have hGlt:∀{w':World},bn<w'.heap.size→bm<w'.heap.size→W.heap.size≤w'.heap.size→∀b,(Sn bn bm b∨b<W.heap.size)→b<w'.heap.size:=fun h1 h2 h3 b hb=>by
  rcases hb with (rfl|rfl)|hb <;> omega
 have hGn:(fun c=>Sn bn bm c∨c<W.heap.size) bn:=.inl (.inl rfl)
 have hGm:(fun c=>Sn bn bm c∨c<W.heap.size) bm:=.inl (.inr rfl)
 haveI hInN:InR (fun c=>Sn bn bm c∨c<W.heap.size) (some bn):=⟨fun c hc=>by cases hc;exact hGn⟩
 have lN:=BN.lt
 have lM:=HM.lt
 repeat refine seq ?_
 refine ac 4 hf (by decide +kernel) ?_
 refine st (ld1 T23 rfl B1 rfl) ?_
 refine st (aw (A:=Dv (slE (slE ap)) (fun c=>Sn bn bm c∨c<W.heap.size) (dP t)) qW rfl (fun v w he h=>by cases h;exact xA t t.length _ w (Dv.ex HV he) (hGlt (by have:=he.size;omega) (by have:=he.size;omega) (by have:=he.size;omega)) (by omega) hd hr hc0)) ?_
 refine st (ay U97 (isR rfl)) ?_
 refine st (mv rfl) ?_
 refine en fun a w e' hf=>?_
 replace HV:=Dv.ex HV e'
 replace hT:=hT.ext e'
 replace H0:=H0.ext e'
 replace HS:=HS.ext e'
 replace e:=e.tr e'
 replace B1:=B1.ext e'
 replace BF:=BF.ext e'
 replace B5:=B5.ext e'
 replace BN:=BN.ext e'
 replace HM:=HM.ext e'
 refine aa ?_
 rw[show (dP t).length=t.length from gI t _] at hf
 replace hf:=hf.kp [1,5,29,30,31]
 refine blk (aG (fun r0 a w=>∃(k:Nat) (cells:Array Value),r0=t.length - k∧k≤t.length∧Fr 52 a w [(1,E (.pointer (some ⟨b1,0,none⟩))),(5,E (.pointer (some ⟨b5,0,none⟩))),(29,Dv (slE (slE ap)) (fun c=>Sn bn bm c∨c<W.heap.size) (dP t)),(30,E (I (t.length:Nat))),(31,E (I k))] ∧
  Ext W w∧Blk w b1 #[v] 23∧Blk w bF #[u0,.slice (some ⟨bn,0,none⟩) t.length t.length,.map (some bm)] 82∧Blk w b5 #[.pointer (some ⟨bF,0,none⟩)] 27∧Blk w bn cells 100∧aT Tryz.prog 3 3 w bm 0 (fun _=>none) ∧
  OwR bR 59 W.heap.size G0 w t u0∧(Dv aL (GB W G0) t).p v w∧Tab w∧NS t.length (fun c=>Sn bn bm c∨c<W.heap.size) (nK (toT t) k) cells w) t.length ⟨0,cells,rfl,by omega,hf,e,B1,BF,B5,BN,HM,H0,HV,hT,HS⟩ ?_)
 clear hf e B1 BF B5 BN HM H0 HV hT HS
 rintro r0 a w ⟨k,cells,rfl,hk,hf,e,B1,BF,B5,BN,HM,H0,HV,hT,HS⟩
 refine seq ?_
 refine ac 1 hf (by decide +kernel) ?_
 refine st (lss rfl rfl) ?_
 refine en fun a w e' hf=>?_
 replace HV:=Dv.ex HV e'
 replace hT:=hT.ext e'
 replace H0:=H0.ext e'
 replace HS:=HS.ext e'
 replace e:=e.tr e'
 replace B1:=B1.ext e'
 replace BF:=BF.ext e'
 replace B5:=B5.ext e'
 replace BN:=BN.ext e'
 replace HM:=HM.ext e'
 refine aa ?_
 refine seq ?_
 refine ifc hf rfl (fun hc=>ak ?_) (fun hc=>aF ?_)
 ·have hlt:k<t.length:=by have:=of_decide_eq_true hc;omega
  clear hc
  have hkb:(dP t)[k]?=some (kids (toT t) (k:Nat)):=by rw[← yu];exact iA hlt
  refine seq ?_
  refine blk ?_
  replace hf:=hf.kp [1,5,29,30,31]
  refine seq ?_
  refine ac 3 hf (by decide +kernel) ?_
  refine st (mv rfl) ?_
  refine st (az U97 S63 (isR rfl) rfl (by omega) (hkb)) ?_
  refine st (ldD T63 (isR rfl)) ?_
  refine en fun a w e' hf=>?_
  replace HV:=Dv.ex HV e'
  replace hT:=hT.ext e'
  replace H0:=H0.ext e'
  replace HS:=HS.ext e'
  replace e:=e.tr e'
  replace B1:=B1.ext e'
  replace BF:=BF.ext e'
  replace B5:=B5.ext e'
  replace BN:=BN.ext e'
  replace HM:=HM.ext e'
  refine ae hf rfl (by decide) fun a hf=>?_
  refine ae hf rfl (by decide) fun a hf=>?_
  refine aa ?_
  replace hf:=hf.kp [1,5,6,7,29,30,31]
  refine ac 8 hf (by decide +kernel) ?_
  refine st (ld1 T27 rfl B5 rfl) ?_
  refine st (aU rfl) ?_
  refine st (ai U82 rfl T79 (by decide) rfl) ?_
  refine st (ld1 T79 rfl BF rfl) ?_
  refine st (mv rfl) ?_
  refine st (mv rfl) ?_
  refine st (idxS U79 ee rfl rfl (by omega)) ?_
  refine st (ai bB rfl T63 (by decide) rfl) ?_
  refine en fun a w e' hf=>?_
  replace HV:=Dv.ex HV e'
  replace hT:=hT.ext e'
  replace H0:=H0.ext e'
  replace HS:=HS.ext e'
  replace e:=e.tr e'
  replace B1:=B1.ext e'
  replace BF:=BF.ext e'
  replace B5:=B5.ext e'
  replace BN:=BN.ext e'
  replace HM:=HM.ext e'
  clear e'
  obtain⟨kv,HK,hf⟩:=hf.fix 41 rfl
  replace hf:=hf.kp [1,5,29,30,31,41,43]
  refine aP T63 hf rfl rfl (Dv.slOne HK) BN (HS.bd hlt (f:=0) (by decide)) fun w hg hsz BN hf=>?_
  replace HK:=Dv.gr HK hg hGn
  replace e:=e.gr hg (by omega)
  replace B1:=B1.gr hg (by omega)
  replace BF:=BF.gr hg (by omega)
  replace B5:=B5.gr hg (by omega)
  replace HM:=HM.gr hg (by omega)
  replace HV:=Dv.gr HV hg (.inr (by omega))
  replace hT:=hT.gr hg (by omega)
  replace H0:=H0.grE hg oN
  replace HS:=(HS.gr hg hGn).set_kids hlt HK
  rw[yr] at HS
  clear hg HK
  obtain⟨cells1,BN1,HS1⟩:∃cells1,Blk w bn cells1 100∧NS t.length (fun c=>Sn bn bm c∨c<W.heap.size) (nK (toT t) (k+1)) cells1 w:=⟨_,BN,HS⟩
  clear BN HS
  have BN:=BN1
  have HS:=HS1
  clear BN1 HS1
  refine aa ?_
  simp only[Exit.then,Exit.inBlock,↓reduceIte]
  replace hf:=hf.kp [1,5,29,30,31]
  refine ac 1 hf (by decide +kernel) ?_
  refine st ((add rfl rfl (by omega)).eq (congrArg (Value.int .i64) (show (k:Int)+1=((k+1:Nat):Int) from rfl))) ?_
  refine en fun a w e' hf=>?_
  replace HV:=Dv.ex HV e'
  replace hT:=hT.ext e'
  replace H0:=H0.ext e'
  replace HS:=HS.ext e'
  replace e:=e.tr e'
  replace B1:=B1.ext e'
  replace BF:=BF.ext e'
  replace B5:=B5.ext e'
  replace BN:=BN.ext e'
  replace HM:=HM.ext e'
  clear e'
  refine ar hf (by decide) (mv rfl) fun a w e' hf=>?_
  replace HV:=Dv.ex HV e'
  replace hT:=hT.ext e'
  replace H0:=H0.ext e'
  replace HS:=HS.ext e'
  replace e:=e.tr e'
  replace B1:=B1.ext e'
  replace BF:=BF.ext e'
  replace B5:=B5.ext e'
  replace BN:=BN.ext e'
  replace HM:=HM.ext e'
  refine aa ?_
  replace hf:=hf.kp [1,5,29,30,31]
  exact⟨t.length - (k+1),by omega,k+1,cells1,rfl,by omega,hf,e,B1,BF,B5,BN,HM,H0,HV,hT,HS⟩
 ·obtain rfl:k=t.length:=by have:=of_decide_eq_false hc;omega
  simp only[Exit.then,Exit.inBlock,↓reduceIte]
  replace hf:=hf.kp [1,5]
  have hr1:(rootN t).length=1:=by
   apply Classical.byContradiction
   intro h
   rw[bZ,if_neg (by omega),if_neg (Classical.not_not.2 hr),if_pos h] at hc0
   cases hc0
  obtain⟨r,r1,r2,r3,r4⟩:=kH hr1
  have hr0:(dK t)[0]?=some (r:Int):=by rw[iC,r1];rfl
  have hlen:(toT t).length=t.length:=bA t
  have hur:up (toT t) r = -1:=by rw[dA r2,r3]
  have hone:∀j,j<(toT t).length→up (toT t) j<0→j=r:=fun j hj hu=>by
   rw[hlen] at hj
   rw[dA hj] at hu
   have:=hr j hj
   exact r4 j hj (by omega)
  have Kw:Kc t (fun c=>Sn bn bm c∨c<W.heap.size) bF bn bm b5 b1 v u0 w:=⟨hT,hGlt BN.lt HM.lt e.size,⟨BF,B5⟩,B1,Dv.weak HV fun b _ hb=>.inr (by rcases hb with rfl|rfl <;> omega)⟩
  have Sw:St (toT t) (fun c=>Sn bn bm c∨c<W.heap.size) bn bm (fun _=>false) (fun _=>false) 0 w:=by
   refine⟨⟨cells,BN,?_⟩,0,Nat.zero_le _,?_⟩
   ·rw[hlen]
    exact HS.congr fun i hi=>by simp[nK,ndS,hi]
   ·have:mS (toT t) (fun _=>false)=fun _=>none:=by funext y;simp[mS]
    rw[this];exact HM
  have hcl:=nF (toT t) r
  have oS:∀b,u0.ownBlock=some b→¬Sn bn bm b:=by
   rintro b hb (rfl|rfl)
   ·exact oN hb
   ·exact oM hb
  have ne6:bF≠bn∧bF≠bm∧b5≠bn∧b5≠bm∧b1≠bn∧b1≠bm:=by omega
  refine seq ?_
  refine ew 6 [0,0,0,0,0] (Chg (Sn bn bm)) (cC.chg _) (fun w=>St (toT t) (fun c=>Sn bn bm c∨c<W.heap.size) bn bm (orD (toT t) r fun _=>false) (orD (toT t) r fun _=>false) (0+cnt (toT t) r) w) (fun w w1 k h=>h.ext k) Mix.mix hf (by decide +kernel) (by decide +kernel) ?_
  refine ja (ld1 T27 rfl B5 rfl) ?_
  refine ja (ld1 T23 rfl B1 rfl) ?_
  refine ja (aw qX rfl (fun v w he h=>by cases h;exact wz t t.length _ w (Dv.ex HV he) (by omega) hd hc0 r hr0)) ?_
  refine ja (eZ rfl rfl) ?_
  refine ja (er rfl) ?_
  refine jx (tA (A:=Any) lH rfl rfl rfl rfl (fun v1 v2 v3 v4 w' he h1 h2 h3 h4=>by cases h1;cases h2;cases h3;cases h4;exact xT t (toT t) rfl V (by omega) hr _ bF bn bm b5 b1 v u0 hGn hGm (by omega) (by omega) ne6 r (by omega) _ _ 0 w' (Kw.ext he) (Sw.ext he) (.inl (by omega)) (by omega))) ?_
  refine je ?_
  refine fun a w hc HF hf=>?_
  try dsimp only[push] at hf
  clear Kw Sw HV hT HM HS BN
  replace e:=e.ch hc fun b hb=>by rcases hb with rfl|rfl <;> omega
  replace BF:=BF.ch hc (by unfold Sn;omega)
  replace B5:=B5.ch hc (by unfold Sn;omega)
  replace H0:=H0.chE hc oS
  have HF2:=HF.congr (dn':=fun _=>true) (cm':=fun _=>true) (fun i hi=>by simp[orD,qk V hone i hi]) (fun i hi=>by simp[orD,qk V hone i hi]) (Nat.le_refl _)
  clear HF hc
  refine aa ?_
  replace hf:=hf.kp [5]
  refine seq ?_
  refine ac 1 hf (by decide +kernel) ?_
  refine st (ld1 T27 rfl B5 rfl) ?_
  refine en fun a w e' hf=>?_
  replace H0:=H0.ext e'
  replace e:=e.tr e'
  replace BF:=BF.ext e'
  replace B5:=B5.ext e'
  replace HF2:=HF2.ext e'
  refine ae hf rfl (by decide) fun a hf=>?_
  refine ae hf rfl (by decide) fun a hf=>?_
  refine aa ?_
  refine aj (cb rfl hf rfl rfl ?_)
  rintro _ _ rfl rfl
  obtain⟨⟨cells2,BN,HS⟩,cn,_,HM⟩:=HF2
  rw[hlen] at HS
  have hGW:∀b,W.heap.size≤b→¬b<W.heap.size:=fun b h=>Nat.not_lt.2 h
  have hN:=(HS.weak (G':=fun b=>b<W.heap.size) fun _ _ h=>.inr h).dv BN (hGW bn (by omega))
  have hN2:(Dv (slE dR) (fun b=>b<W.heap.size) ((List.range t.length).map (fw (toT t)))).p (.slice (some ⟨bn,0,none⟩) t.length t.length) w:=by
   have:ndS (toT t) (fun _=>true) (fun _=>true)=fw (toT t):=by funext i;simp[ndS,fw]
   rw[← this];exact hN
  have hfin:(Dv (ptE frE) (fun b=>b<W.heap.size) (some (frM t))).p (.pointer (some ⟨bF,0,none⟩)) w:=by
   refine Dv.pt.2 ⟨⟨bF,0,none⟩,rfl,hGW bF (by omega),BF.lt,[u0,.slice (some ⟨bn,0,none⟩) t.length t.length,.map (some bm)],?_,?_⟩
   ·exact⟨[u0],[.slice (some ⟨bn,0,none⟩) t.length t.length,.map (some bm)],rfl,Dv.r1 rfl (OwR.reG H0 fun b hb=>hb).sl,[.slice (some ⟨bn,0,none⟩) t.length t.length],[.map (some bm)],rfl,Dv.r1 rfl hN2,⟨bm,cn,rfl,hGW bm (by omega),HM⟩⟩
   ·intro i u hu
    rw[Addr.add_lit,Nat.zero_add,BF.cell i,List.getElem?_toArray]
    exact hu
  exact⟨_,rfl,e,by rw[hn0];exact Tup.two (.inl ⟨hn0,hfin⟩) rfl⟩

def cd (t:List (Int×BS)):List (Int×BS):=t.take (min t.length 60)
theorem ql (t:List (Int×BS)):(cd t).length≤60:=by
 rw[cd,List.length_take];omega

theorem yw {G:Nat→Prop}(t:List (Int×BS))(v:Value)(W:World)(h:(Dv aL G t).p v W) :
  Calls Tryz.prog 14 #[v] W (Post (Dv aL G (cd t)) W):=by
 refine enter (args:=[v]) (As:=[Dv aL G t]) Tryz.func14 rfl Tryz.ntmps14 (Nat.le_of_ble_eq_true rfl) ?_ (fun a hf=>?_) (Nat.le_of_ble_eq_true rfl)
 rotate_left
 dsimp only[params,Nat.reduceAdd] at hf
 rotate_right
 ·exact arg1 h
 have e:=Ext.rfl' W
 refine seq ?_
 refine ah ?_
 refine ae hf rfl (by decide) fun a hf=>?_
 refine aa ?_
 refine seq ?_
 refine ac 5 hf (by decide +kernel) ?_
 refine st (mv rfl) ?_
 refine st (mv rfl) ?_
 refine st (ay U23 (isR rfl)) ?_
 refine st ((min2 rfl rfl).eq (congrArg (Value.int .i64) (show min (t.length:Int) 60=((min t.length 60:Nat):Int) from by omega))) ?_
 refine st (uD U23 S59 (isR rfl) rfl (Nat.min_le_left _ _)) ?_
 refine en fun a w e' hf=>?_
 replace e:=e.tr e'
 refine ae hf rfl (by decide) fun a hf=>?_
 refine aa ?_
 refine aj ?_
 refine al rfl hf rfl ?_
 intro v hv
 exact⟨_,rfl,e,hv⟩

theorem Tup.map2 {A A' B:VA}{v:Value}{w:World}(h:(Tup [A,B]).p v w)(hA:∀u,A.p u w→A'.p u w):(Tup [A',B]).p v w:=by
 obtain⟨vs,h1,h2,h3⟩:=h
 refine⟨vs,h1,h2,fun i C hC=>?_⟩
 match i,hC with
 | 0,hC=>simp at hC;subst hC;exact hA _ (h3 0 A rfl)
 | i+1,hC=>exact h3 (i+1) C (by simpa using hC)
theorem qm {G:Nat→Prop}(t:List (Int×BS))(v:Value)(W:World)(hT:Tab W)(h:(Dv aL G t).p v W)(hl:t.length≤1000) :
  Calls Tryz.prog 17 #[v] W (Post (Tup [kY t G0,E (I (bp (toT t)))]) W):=
 Calls.mono (yv t v W hT h hl) fun en w' ⟨u,h1,h2,h3⟩=>⟨u,h1,h2,Tup.map2 h3 fun x hx=>hx.imp (fun hx=>⟨hx.1,Dv.weak hx.2 fun b _ hb=>hb.elim⟩) id⟩

theorem yy {G:Nat→Prop}(t:List (Int×BS))(v:Value)(W:World)(hT:Tab W)(h:(Dv aL G t).p v W) :
  Calls Tryz.prog 4 #[v] W (Post (Tup [kY (cd t) G0,Dv rtE G0 (toT (cd t)),E (B (decide (bp (toT (cd t))=0)))]) W):=by
 have hl:=ql t
 have htl:=bA (cd t)
 refine enter (args:=[v]) (As:=[Dv aL G0 t]) Tryz.func4 rfl Tryz.ntmps4 (Nat.le_of_ble_eq_true rfl) ?_ (fun a hf=>?_) (Nat.le_of_ble_eq_true rfl)
 rotate_left
 dsimp only[params,Nat.reduceAdd] at hf
 rotate_right
 ·exact arg1 (Dv.weak h fun b _ hb=>hb.elim)
 have e:=Ext.rfl' W
 refine seq ?_
 refine ah ?_
 refine ae hf rfl (by decide) fun a hf=>?_
 refine ae hf rfl (by decide) fun a hf=>?_
 refine ae hf rfl (by decide) fun a hf=>?_
 refine aa ?_
 refine seq ?_
 refine ac 2 hf (by decide +kernel) ?_
 refine st (mv rfl) ?_
 refine st (aw qH rfl (fun v w he h=>yw t v w h)) ?_
 refine en fun a w e' hf=>?_
 replace hT:=hT.ext e'
 replace e:=e.tr e'
 refine ae hf rfl (by decide) fun a hf=>?_
 refine aa ?_
 refine seq ?_
 refine ac 2 hf (by decide +kernel) ?_
 refine st (mv rfl) ?_
 refine st (aw qI rfl (fun v w he h=>sQ (cd t) v w h (fun b hb=>hb.elim) (by omega))) ?_
 refine en fun a w e' hf=>?_
 replace hT:=hT.ext e'
 replace e:=e.tr e'
 refine ae hf rfl (by decide) fun a hf=>?_
 refine aa ?_
 repeat refine seq ?_
 refine ac 3 hf (by decide +kernel) ?_
 refine st (mv rfl) ?_
 refine st (aw qJ rfl (fun v w he h=>xp (toT (cd t)) v w h (by omega) (fun i _=>Nat.le_trans (po _ i) (by decide)))) ?_
 refine st (neq rfl rfl) ?_
 refine en fun a w e' hf=>?_
 replace hT:=hT.ext e'
 replace e:=e.tr e'
 refine aa ?_
 replace hf:=hf.kp [0,5,14]
 refine ifc hf rfl (fun hb=>?_) (fun hb=>?_)
 ·have hb':bp (toT (cd t))≠0:=by simpa using hb
  refine seq ?_
  refine ac 1 hf (by decide +kernel) ?_
  refine st (mv rfl) ?_
  refine en fun a w e' hf=>?_
  replace hT:=hT.ext e'
  replace e:=e.tr e'
  refine ae hf rfl (by decide) fun a hf=>?_
  refine ae hf rfl (by decide) fun a hf=>?_
  refine ae hf rfl (by decide) fun a hf=>?_
  refine aa ?_
  refine aj (nT rfl hf rfl rfl rfl ?_)
  rintro _ x _ rfl hx rfl
  exact⟨_,rfl,e,by rw[decide_eq_false hb'];exact Tup.three (.inr ⟨hb',rfl⟩) hx rfl⟩
 ·have hb':bp (toT (cd t))=0:=by simpa using hb
  refine ak ?_
  simp only[Exit.then,Exit.inBlock,↓reduceIte]
  refine seq ?_
  refine ac 5 hf (by decide +kernel) ?_
  refine st (mv rfl) ?_
  refine st (aw ly rfl (fun v w he h=>qm (cd t) v w (hT.ext he) h (by omega))) ?_
  refine st (mv rfl) ?_
  refine st (aZ rfl rfl) ?_
  refine st (aZ rfl rfl) ?_
  refine en fun a w e' hf=>?_
  replace hT:=hT.ext e'
  replace e:=e.tr e'
  refine ae hf rfl (by decide) fun a hf=>?_
  refine ae hf rfl (by decide) fun a hf=>?_
  refine aa ?_
  repeat refine seq ?_
  refine ac 2 hf (by decide +kernel) ?_
  refine st (mv rfl) ?_
  refine st ((neq rfl rfl).eq (congrArg Value.bool (show (bp (toT (cd t)) != 0)=false from by rw[hb'];rfl))) ?_
  refine en fun a w e' hf=>?_
  replace hT:=hT.ext e'
  replace e:=e.tr e'
  refine aa ?_
  refine ifc hf rfl (fun h=>by cases h) (fun _=>?_)
  refine ak ?_
  simp only[Exit.then,Exit.inBlock,↓reduceIte]
  refine seq ?_
  refine ac 2 hf (by decide +kernel) ?_
  refine st (mv rfl) ?_
  refine st (mv rfl) ?_
  refine en fun a w e' hf=>?_
  replace hT:=hT.ext e'
  replace e:=e.tr e'
  refine ae hf rfl (by decide) fun a hf=>?_
  refine ae hf rfl (by decide) fun a hf=>?_
  refine ae hf rfl (by decide) fun a hf=>?_
  refine aa ?_
  refine aj (nT rfl hf rfl rfl rfl ?_)
  rintro _ x _ hv hx rfl
  exact⟨_,rfl,e,by rw[decide_eq_true hb'];exact Tup.three hv hx rfl⟩


def s12:BS:=[(1:Int),2].foldl ins 0
def s23:BS:=[(2:Int),3].foldl ins 0
def s24:BS:=[(2:Int),4].foldl ins 0
def kt:List (Int×BS):=[(1,s12),(-1,s23),(1,s24)]
def kx:List RB:=[(1,[1,2]),(-1,[2,3]),(1,[2,4])]
theorem l12:toL s12=[1,2]:=by decide +kernel
theorem l23:toL s23=[2,3]:=by decide +kernel
theorem l24:toL s24=[2,4]:=by decide +kernel
theorem kZ:toT kt=kx:=by
 show [toB (1,s12),toB (-1,s23),toB (1,s24)]=_
 simp only[toB,l12,l23,l24];rfl
theorem yz:aV kx:=
 ⟨by decide +kernel,by decide +kernel,by decide +kernel,by decide +kernel⟩
theorem qn:bp (toT kt)=0:=by
 have h1:bi kx=0:=jE.2 ⟨by decide,yz⟩
 have h2:∀i,i<kx.length→(hs kx i).length≤4:=by decide +kernel
 rw[kZ,bp,if_neg (by rw[h1];decide),if_pos h2]
theorem gQ (y:Int):(frM kt).2.2 y=mS kx (fun _=>true) y:=by rw[frM,kZ]
theorem yA {i:Nat}(h:i<3):ndG (frM kt) i=fw kx i:=by
 have:(frM kt).2.1=(List.range 3).map (fw kx):=by rw[frM,kZ];rfl
 rw[ndG,this,List.getElem?_map,List.getElem?_range h];rfl
theorem fW {i:Nat}(h:i<3):ofF (frM kt) (i:Int)=fw kx i:=by
 rw[ofF,if_pos,Int.toNat_natCast,yA h]
 have:(frM kt).1.length=3:=rfl
 simp[inT,this];omega
theorem lc:mS kx (fun _=>true) 2=some 1:=by decide +kernel
theorem yB:mS kx (fun _=>true) 3=some 1:=by decide +kernel
theorem yC:mS kx (fun _=>true) 4=some 2:=by decide +kernel
theorem qo:depthR kx 1=0:=by decide +kernel
theorem yD:depthR kx 2=1:=by decide +kernel
theorem yE:eQ kt 2 4=true:=by decide +kernel
theorem yF:eQ kt 3 2=true:=by decide +kernel
theorem yG:ehF (frM kt) 2 4=(2,true):=by
 have d1:(ofF (frM kt) (1:Int)).2.2.2.2=0:=by rw[show (1:Int)=((1:Nat):Int) from rfl,fW (by decide)];show ((depthR kx 1:Nat):Int)=0;rw[qo];rfl
 have d2:(ofF (frM kt) (2:Int)).2.2.2.2=1:=by rw[show (2:Int)=((2:Nat):Int) from rfl,fW (by decide)];show ((depthR kx 2:Nat):Int)=1;rw[yD];rfl
 rw[ehF,gQ,gQ,lc,yC]
 simp only[Option.isSome_some,Option.getD_some,Bool.true_and]
 rw[show eQ (frM kt).1 2 4=true from yE,d1,d2]
 rfl
theorem yH:ehF (frM kt) 3 2=(1,true):=by
 have d1:(ofF (frM kt) (1:Int)).2.2.2.2=0:=by rw[show (1:Int)=((1:Nat):Int) from rfl,fW (by decide)];show ((depthR kx 1:Nat):Int)=0;rw[qo];rfl
 rw[ehF,gQ,gQ,lc,yB]
 simp only[Option.isSome_some,Option.getD_some,Bool.true_and]
 rw[show eQ (frM kt).1 3 2=true from yF,d1]
 rfl
theorem qp:(ofF (frM kt) 1).2.1=[2]:=by
 rw[show (1:Int)=((1:Nat):Int) from rfl,fW (by decide)]
 show gO kx ((1:Nat):Int)=[2]
 decide +kernel
theorem yI:(ofF (frM kt) 1).2.2.1=3:=by
 rw[show (1:Int)=((1:Nat):Int) from rfl,fW (by decide)]
 show bu kx ((1:Nat):Int)=3
 decide +kernel
theorem yJ:(ofF (frM kt) 1).2.2.2.1=0:=by
 rw[show (1:Int)=((1:Nat):Int) from rfl,fW (by decide)]
 show dU kx ((1:Nat):Int)=0
 decide +kernel
theorem yK:dj (fun b=>decide (b.1<0)) (frM kt).1=1:=by
 show dj (fun b=>decide (b.1<0)) kt=1
 decide +kernel

theorem gR:(Lit.int .i64 2).wf=true∧(Lit.int .i64 3).wf=true∧(Lit.int .i64 4).wf=true:=by decide
theorem qq (W:World)(hT:Tab W):Calls Tryz.prog 5 #[] W (Post (E (B true)) W):=by
 refine enter (args:=[]) (As:=([]:List VA)) Tryz.func5 rfl Tryz.ntmps5 (Nat.le_of_ble_eq_true rfl) ?_ (fun a hf=>?_) (Nat.le_of_ble_eq_true rfl)
 ·exact jr
 dsimp only[params,Nat.reduceAdd] at hf
 have e:=Ext.rfl' W
 have hg0:∀{w:World},∀b,G0 b→b<w.heap.size:=fun b hb=>hb.elim
 have hkl:(frM kt).1.length≤4096:=by decide
 have hkn:=yn kt
 have hl1:(ofF (frM kt) 1).2.1.length≤4096:=by rw[qp];decide
 refine seq ?_
 refine ah ?_
 refine ae hf rfl (by decide) fun a hf=>?_
 refine aa ?_
 refine seq ?_
 refine ac 14 hf (by decide +kernel) ?_
 refine st (jM (e:=ap) (G:=G0) U63 I3 rfl (by decide) rfl hg0 (isI rfl) (isI rfl)) ?_
 refine st (aw (A:=E (au s12)) iU rfl (fun v w he h=>kD [1,2] v w h (by decide))) ?_
 refine st (gZ (e1:=ap) (e2:=ei) (a:=1) (b:=s12) (G:=G0) U59 rfl rfl rfl S3 S56 I59 rfl (isI rfl) (isS rfl)) ?_
 refine st (jM (e:=ap) (G:=G0) U63 I3 rfl (by decide) rfl hg0 (isI rfl) (isI rfl)) ?_
 refine st (aw (A:=E (au s23)) iU rfl (fun v w he h=>kD [2,3] v w h (by decide))) ?_
 refine st (gZ (e1:=ap) (e2:=ei) (a := -1) (b:=s23) (G:=G0) U59 rfl rfl rfl S3 S56 I59 rfl (isI rfl) (isS rfl)) ?_
 refine st (jM (e:=ap) (G:=G0) U63 I3 rfl (by decide) rfl hg0 (isI rfl) (isI rfl)) ?_
 refine st (aw (A:=E (au s24)) iU rfl (fun v w he h=>kD [2,4] v w h (by decide))) ?_
 refine st (gZ (e1:=ap) (e2:=ei) (a:=1) (b:=s24) (G:=G0) U59 rfl rfl rfl S3 S56 I59 rfl (isI rfl) (isS rfl)) ?_
 refine st (uC (e:=bR) (G:=G0) U23 I59 rfl (by decide) rfl hg0 (isR rfl) (isR rfl) (isR rfl)) ?_
 refine st (aw ly rfl (fun v w he h=>qm kt v w (hT.ext he) h (by decide))) ?_
 refine st (mv rfl) ?_
 refine st (aZ rfl rfl) ?_
 refine st ((aZ rfl rfl).eq (congrArg (Value.int .i64) qn)) ?_
 refine en fun a w e' hf=>?_
 replace hT:=hT.ext e'
 replace e:=e.tr e'
 refine ae hf rfl (by decide) fun a hf=>?_
 refine ae hf rfl (by decide) fun a hf=>?_
 refine aa ?_
 replace hf:=hf.upd 1 rfl (B:=Dv (ptE frE) G0 (some (frM kt))) (fun v h=>h.elim (·.2) (fun h=>absurd qn h.1))
 replace hf:=hf.kp [1,2]
 refine seq ?_
 refine ac 5 hf (by decide +kernel) ?_
 refine st (mv rfl) ?_
 refine st ((eT lz rfl rfl rfl (fun v u s w he h h' h''=>by cases h';cases h'';exact pN (frM kt) 2 4 _ w h gR.1 gR.2.2 hkl hkn)).eq (show Value.tuple _=.tuple #[I 2,B true] from by rw[yG])) ?_
 refine st (mv rfl) ?_
 refine st (exE rfl rfl) ?_
 refine st (exE rfl rfl) ?_
 refine en fun a w e' hf=>?_
 replace hT:=hT.ext e'
 replace e:=e.tr e'
 refine ae hf rfl (by decide) fun a hf=>?_
 refine ae hf rfl (by decide) fun a hf=>?_
 refine aa ?_
 replace hf:=hf.kp [1,2,3,4]
 refine seq ?_
 refine ac 5 hf (by decide +kernel) ?_
 refine st (mv rfl) ?_
 refine st ((eT lz rfl rfl rfl (fun v u s w he h h' h''=>by cases h';cases h'';exact pN (frM kt) 3 2 _ w h gR.2.1 gR.1 hkl hkn)).eq (show Value.tuple _=.tuple #[I 1,B true] from by rw[yH])) ?_
 refine st (mv rfl) ?_
 refine st (exE rfl rfl) ?_
 refine st (exE rfl rfl) ?_
 refine en fun a w e' hf=>?_
 replace hT:=hT.ext e'
 replace e:=e.tr e'
 refine ae hf rfl (by decide) fun a hf=>?_
 refine ae hf rfl (by decide) fun a hf=>?_
 refine aa ?_
 replace hf:=hf.kp [1,2,3,4,5,6]
 refine seq ?_
 refine ac 5 hf (by decide +kernel) ?_
 refine st (mv rfl) ?_
 refine st ((ax iV rfl rfl (fun v u w he h h'=>by cases h';exact kV (frM kt) 2 _ w h gR.1)).eq (show Value.tuple _=.tuple #[I 1,B true] from by rw[gQ,lc];rfl)) ?_
 refine st (mv rfl) ?_
 refine st (exE rfl rfl) ?_
 refine st (exE rfl rfl) ?_
 refine en fun a w e' hf=>?_
 replace hT:=hT.ext e'
 replace e:=e.tr e'
 refine ae hf rfl (by decide) fun a hf=>?_
 refine ae hf rfl (by decide) fun a hf=>?_
 refine aa ?_
 replace hf:=hf.kp [1,2,3,4,5,6,7,8]
 refine seq ?_
 refine ac 2 hf (by decide +kernel) ?_
 refine st (mv rfl) ?_
 refine st ((ax qK rfl rfl (fun v u w he h h'=>by cases h';exact kU (G:=G0) (xi (frM kt) 1 _ w h hkn hl1) (fun b hb=>hb.elim))).dv (qp)) ?_
 refine en fun a w e' hf=>?_
 replace hT:=hT.ext e'
 replace e:=e.tr e'
 refine ae hf rfl (by decide) fun a hf=>?_
 refine aa ?_
 replace hf:=hf.kp [1,2,3,4,5,6,7,8,9]
 refine seq ?_
 refine ac 54 hf (by decide +kernel) ?_
 refine st (mv rfl) ?_
 refine st ((eql rfl rfl).eq (congrArg Value.bool (show ((0:Int)==0)=true from rfl))) ?_
 refine st (mv rfl) ?_
 refine sy rfl rfl (mv rfl) ?_
 refine sy rfl rfl (aw qL rfl (fun v w he h=>xj (frM kt) v w h hkl)) ?_
 refine sy rfl rfl ((eql rfl rfl).eq (congrArg Value.bool (show ((((frM kt).1.length:Nat):Int)==3)=true from by decide))) ?_
 refine st (pkT rfl rfl) ?_
 refine st (mv rfl) ?_
 refine sy rfl rfl (mv rfl) ?_
 refine sy rfl rfl ((aw qM rfl (fun v w he h=>xl (frM kt) v w h hkl)).eq (congrArg (Value.int .i64) yK)) ?_
 refine sy rfl rfl ((eql rfl rfl).eq (congrArg Value.bool (show ((1:Int)==1)=true from rfl))) ?_
 refine st (pkT rfl rfl) ?_
 refine st (mv rfl) ?_
 refine sy rfl rfl (mv rfl) ?_
 refine sy rfl rfl ((ax qN rfl rfl (fun v u w he h h'=>by cases h';exact xg (frM kt) 1 _ w h hkn)).eq (congrArg (Value.int .i64) yI)) ?_
 refine sy rfl rfl ((eql rfl rfl).eq (congrArg Value.bool (show ((3:Int)==3)=true from rfl))) ?_
 refine st (pkT rfl rfl) ?_
 refine st (mv rfl) ?_
 refine sy rfl rfl (mv rfl) ?_
 refine sy rfl rfl ((ax qO rfl rfl (fun v u w he h h'=>by cases h';exact xh (frM kt) 1 _ w h hkn)).eq (congrArg (Value.int .i64) yJ)) ?_
 refine sy rfl rfl ((eql rfl rfl).eq (congrArg Value.bool (show ((0:Int)==0)=true from rfl))) ?_
 refine st (pkT rfl rfl) ?_
 refine st (mv rfl) ?_
 refine sy rfl rfl (mv rfl) ?_
 refine sy rfl rfl (ay U63 (isR rfl)) ?_
 refine sy rfl rfl ((eql rfl rfl).eq (congrArg Value.bool (show ((([(2:Int)].length:Nat):Int)==1)=true from rfl))) ?_
 refine st (pkT rfl rfl) ?_
 refine st (mv rfl) ?_
 refine sy rfl rfl (mv rfl) ?_
 refine sy rfl rfl (az (j:=0) U63 S3 (isR rfl) rfl rfl rfl) ?_
 refine sy rfl rfl (ldI T3 (isR rfl)) ?_
 refine sy rfl rfl ((eql rfl rfl).eq (congrArg Value.bool (show ((2:Int)==2)=true from rfl))) ?_
 refine st (pkT rfl rfl) ?_
 refine st (mv rfl) ?_
 refine sy rfl rfl (mv rfl) ?_
 refine st (pkT rfl rfl) ?_
 refine st (mv rfl) ?_
 refine sy rfl rfl (mv rfl) ?_
 refine st (pkT rfl rfl) ?_
 refine st (mv rfl) ?_
 refine sy rfl rfl (mv rfl) ?_
 refine st (pkT rfl rfl) ?_
 refine st (mv rfl) ?_
 refine sy rfl rfl (mv rfl) ?_
 refine sy rfl rfl ((eql rfl rfl).eq (congrArg Value.bool (show ((2:Int)==2)=true from rfl))) ?_
 refine st (pkT rfl rfl) ?_
 refine st (mv rfl) ?_
 refine sy rfl rfl (mv rfl) ?_
 refine sy rfl rfl ((eql rfl rfl).eq (congrArg Value.bool (show ((1:Int)==1)=true from rfl))) ?_
 refine st (pkT rfl rfl) ?_
 refine st (mv rfl) ?_
 refine sy rfl rfl (mv rfl) ?_
 refine sy rfl rfl ((eql rfl rfl).eq (congrArg Value.bool (show ((1:Int)==1)=true from rfl))) ?_
 refine st (pkT rfl rfl) ?_
 refine en fun a w e' hf=>?_
 replace hT:=hT.ext e'
 replace e:=e.tr e'
 refine ae hf rfl (by decide) fun a hf=>?_
 refine aa ?_
 refine aj ?_
 refine al rfl hf rfl ?_
 rintro _ rfl
 exact⟨_,rfl,e,rfl⟩

theorem yL {t:List (Int×BS)}(h:bp (toT t)=0):aV (toT t):=by
 by_cases hc:bi (toT t)=0
 ·exact (jE.1 hc).2
 ·rw[bp,if_pos hc] at h
  exact absurd h hc

theorem yM {t:List (Int×BS)}(h:bp (toT t)=0):∀i,i<(toT t).length→(hs (toT t) i).length≤4:=by
 by_cases hc:bi (toT t)=0
 ·rw[bp,if_neg (Classical.not_not.2 hc)] at h
  by_cases h4:∀i,i<(toT t).length→(hs (toT t) i).length≤4
  ·exact h4
  ·rw[if_neg h4] at h;cases h
 ·rw[bp,if_pos hc] at h
  exact absurd h hc

end Go.Mono
namespace Go.Mono
open Go Go.Proofs Go.RowKit Go.Gr
theorem yN {G:Nat→Prop}(g:GT)(hg:Gr.Ok g)(v:Value)(W:World)(h:(Dv gtE G g).p v W)(hl1:g.1.length≤1000)(hl2:g.2.length≤1000) :
  Calls Tryz.prog 7 #[v] W (Post (Dv (ptE (grE 2000)) G0 (some g)) W):=
 Calls.mono (xf g v W h (by omega) (by omega) (vI hg) (vJ hg)) fun en w' ⟨e,hq⟩=>by
  obtain⟨g',k1,k2,k3⟩:=vK hg
  rcases hq with ⟨g2,b1,b2,b3,q1,rfl,q3,q4,q5,q6⟩|⟨q1,_⟩
  ·rw[k1] at q1;cases q1
   exact⟨_,rfl,e,(q6.perm k2 k3).dv (by omega) (fun h=>h.elim) (fun h=>h.elim) (fun h=>h.elim)⟩
  ·rw[k1] at q1;cases q1

theorem yO (g:GT)(d:DT):(doR g d).2=bD g d:=by
 unfold doR
 split
 ·rfl
 ·rename_i h
  have h0:bD g d=0:=by simpa using h
  rw[h0]
  split
  ·rfl
  ·split <;> rfl
theorem yP {g:GT}(G:Gr.Ok g){d:DT}(hd:0≤d.2.2.2.1∧d.2.2.2.1<256)(t:List (Int×BS)):alR t t.length g d=kpR (toT t) g d:=by
 unfold alR kpR
 rw[kS G,kS (kj G hd),oL G,yO]
theorem frameFit_spec {G:Nat→Prop}(t:List (Int×BS))(l:List DT)(d:DT)(x z:Value)(W:World)(hT:Tab W)(h:(Dv aL G t).p x W)(h':(Dv (slE dtE) G l).p z W)(hlab:∀d∈l,0≤d.2.2.2.1∧d.2.2.2.1<256)
  (hlb:0≤d.2.2.2.1∧d.2.2.2.1<256) (hw:(Lit.int .i64 d.2.1).wf=true) (hw2:(Lit.int .i64 d.2.2.1).wf=true) (ho:okT d.2.2.2) :
  Calls Tryz.prog 3 #[x,z,dtV d] W (Post (E (B true)) W):=by
 refine enter (args:=[x,z,dtV d]) (As:=[Dv aL G0 t,Dv (slE dtE) G0 l,E (dtV d)]) Tryz.func3 rfl Tryz.ntmps3 (Nat.le_of_ble_eq_true rfl) ?_ (fun a hf=>?_) (Nat.le_of_ble_eq_true rfl)
 rotate_left
 dsimp only[params,Nat.reduceAdd] at hf
 rotate_right
 ·exact eo (Dv.weak h fun b _ hb=>hb.elim) (Dv.weak h' fun b _ hb=>hb.elim) rfl
 have e:=Ext.rfl' W
 have hT0:=hT.lt
 have hl:=ql t
 have htl:=bA (cd t)
 have hg0:∀{w:World},∀b,G0 b→b<w.heap.size:=fun b hb=>hb.elim
 have hgO:Gr.Ok (gE l):=km hlab 60
 have hgl:=ke l 60
 obtain⟨gg,hgg⟩:∃gg,gg=gE l:=⟨_,rfl⟩
 have hg1:gg.1.length≤60:=by rw[hgg];exact hgl.1
 have hg2:gg.2.length≤60:=by rw[hgg];exact hgl.2
 rw[← hgg] at hgO
 clear hgl
 refine seq ?_
 refine ah ?_
 refine aH hf rfl (by decide) fun a b5 w v5 hv5 e' hb5 hs5 B5 hf=>?_
 have hle5:=Nat.le_trans e.size (Nat.le_of_eq hb5.symm)
 replace hT:=hT.ext e'
 replace e:=e.tr e'
 refine ae hf rfl (by decide) fun a hf=>?_
 refine aa ?_
 cases hv5
 replace hf:=hf.kp [0,1,5]
 refine seq ?_
 refine ac 6 hf (by decide +kernel) ?_
 refine st (mv rfl) ?_
 refine st (aw En4 rfl (fun v w he h=>yy t v w (hT.ext he) h)) ?_
 refine st (mv rfl) ?_
 refine st (aZ rfl rfl) ?_
 refine st (aZ rfl rfl) ?_
 refine st (aZ rfl rfl) ?_
 refine en fun a w e' hf=>?_
 replace hT:=hT.ext e'
 replace e:=e.tr e'
 replace B5:=B5.ext e'
 refine ae hf rfl (by decide) fun a hf=>?_
 refine ae hf rfl (by decide) fun a hf=>?_
 refine ae hf rfl (by decide) fun a hf=>?_
 refine aa ?_
 replace hf:=hf.kp [1,5,7,8,9]
 by_cases hn:bp (toT (cd t))=0
 rotate_left
 ·rw[decide_eq_false hn] at hf
  repeat refine seq ?_
  refine ac 2 hf (by decide +kernel) ?_
  refine st (mv rfl) ?_
  refine st (aS rfl) ?_
  refine en fun a w e' hf=>?_
  replace hT:=hT.ext e'
  replace e:=e.tr e'
  replace B5:=B5.ext e'
  refine aa ?_
  refine ifc hf rfl (fun _=>?_) (fun h=>by cases h)
  refine seq ?_
  refine ac 1 hf (by decide +kernel) ?_
  refine st (fZ En5 (fun w he=>qq w (hT.ext he))) ?_
  refine en fun a w e' hf=>?_
  replace hT:=hT.ext e'
  replace e:=e.tr e'
  replace B5:=B5.ext e'
  refine ae hf rfl (by decide) fun a hf=>?_
  refine aa ?_
  refine aj ?_
  simp only[Exit.then,Exit.inBlock]
  refine al rfl hf rfl ?_
  rintro _ rfl
  exact⟨_,rfl,e,rfl⟩
 have V:=yL hn
 have h4:=yM hn
 rw[decide_eq_true hn] at hf
 replace hf:=hf.upd 7 rfl (B:=Dv (ptE frE) G0 (some (frM (cd t)))) (fun v h=>h.elim (·.2) (fun h=>absurd hn h.1))
 replace hf:=hf.kp [1,5,7,8,9]
 repeat refine seq ?_
 refine ac 2 hf (by decide +kernel) ?_
 refine st (mv rfl) ?_
 refine st (aS rfl) ?_
 refine en fun a w e' hf=>?_
 replace hT:=hT.ext e'
 replace e:=e.tr e'
 replace B5:=B5.ext e'
 refine aa ?_
 refine ifc hf rfl (fun h=>by cases h) (fun _=>?_)
 refine ak ?_
 simp only[Exit.then,Exit.inBlock,↓reduceIte]
 replace hf:=hf.kp [1,5,7,8]
 refine seq ?_
 refine ac 2 hf (by decide +kernel) ?_
 refine st (mv rfl) ?_
 refine st (aw (A:=Dv gtE G0 gg) En6 rfl (fun v w he h=>by rw[hgg];exact vH l v w h hg0)) ?_
 refine en fun a w e' hf=>?_
 replace hT:=hT.ext e'
 replace e:=e.tr e'
 replace B5:=B5.ext e'
 clear e'
 obtain⟨z,hz,hf⟩:=hf.fix 22 rfl
 obtain⟨N,hN⟩:∃N,N=w.heap.size:=⟨_,rfl⟩
 have hNW:W.heap.size≤N:=by rw[hN];exact e.size
 replace hz:(Dv gtE (fun b=>N≤b) gg).p z w:=Dv.weak hz fun b hb hn=>absurd hb (by omega)
 replace hf:=hf.kp [5,7,8,22]
 replace hf:=hf.upd 7 rfl (fun v hv=>Dv.weak (G':=fun b=>N≤b) hv (fun b hb hn=>absurd hb (by omega)))
 replace hf:=hf.upd 8 rfl (fun v hv=>Dv.weak (G':=fun b=>N≤b) hv (fun b hb hn=>absurd hb (by omega)))
 replace hf:=hf.kp [5,7,8,22]
 have l5:=B5.lt
 refine aJ I36 hf (by decide) fun a b10 w e' hb10 hs10 B10 hf=>?_
 have hle10:=Nat.le_trans e.size (Nat.le_of_eq hb10.symm)
 have lt10_B5:=B5.lt
 replace hT:=hT.ext e'
 replace hz:=VA.st _ _ _ _ e' hz
 replace e:=e.tr e'
 replace B5:=B5.ext e'
 clear e'
 obtain⟨z1,z2,rfl,hz1,hz2⟩:=Dv.gt.1 hz
 have l10:N≤b10:=by omega
 have n10:b5≠b10:=by omega
 haveI hinN:InR (fun b=>N≤b) (some b10):=⟨fun b hb=>by cases hb;exact l10⟩
 replace hf:=hf.kp [5,7,8,10,22]
 have hTl:=hT.lt
 refine aD T36 hf rfl rfl (aX (slOne hz1) (slOne hz2)) B10 rfl rfl fun w hg hsz B10 hf=>?_
 replace e:=e.gr hg (by omega);replace hz:=Dv.gr hz hg l10;replace B5:=B5.gr hg n10;replace hT:=hT.gr hg (by omega);clear hg hz1 hz2
 refine aa ?_
 replace hf:=hf.kp [5,7,8,10]
 refine seq ?_
 refine ac 2 hf (by decide +kernel) ?_
 refine st (ldW T36 rfl B10 rfl) ?_
 refine st (aw (A:=Dv (ptE (grE 2000)) G0 (some gg)) (B:=E (.agg #[z1,z2])) En7 rfl (fun v w he h=>by cases h;exact yN gg hgO _ w (VA.st _ _ _ _ he hz) (by omega) (by omega))) ?_
 refine en fun a w e' hf=>?_
 replace hT:=hT.ext e'
 replace hz:=VA.st _ _ _ _ e' hz
 replace e:=e.tr e'
 replace B5:=B5.ext e'
 replace B10:=B10.ext e'
 refine ae hf rfl (by decide) fun a hf=>?_
 refine aa ?_
 repeat refine seq ?_
 refine ac 6 hf (by decide +kernel) ?_
 refine st (mv rfl) ?_
 refine st (dl U27 (isR rfl)) ?_
 refine st (mv rfl) ?_
 refine sy rfl rfl (mv rfl) ?_
 refine sy rfl rfl (dl U38 (isR rfl)) ?_
 refine st (pkF rfl rfl) ?_
 refine en fun a w e' hf=>?_
 replace hT:=hT.ext e'
 replace hz:=VA.st _ _ _ _ e' hz
 replace e:=e.tr e'
 replace B5:=B5.ext e'
 replace B10:=B10.ext e'
 refine aa ?_
 refine ifc hf rfl (fun h=>by cases h) (fun _=>?_)
 refine ak ?_
 simp only[Exit.then,Exit.inBlock,↓reduceIte]
 obtain⟨tt,htt⟩:∃tt,tt=cd t:=⟨_,rfl⟩
 rw[← htt] at V hf htl h4 hl hn
 have hfl:(frM tt).1.length≤4096:=by show tt.length≤4096;omega
 have hdp:∀s:List (Int×BS),s.length≤4096→Rng s→(rootN s).length=1→Dp s s.length:=fun s hs hr h1=>Dp.mk' hs hr h1
 have hh:∀i,i<(toT tt).length→(hs (toT tt) i).length≤4096:=fun i _=>Nat.le_trans (po tt i) (by decide)
 have b1:(cgR tt tt.length gg==cM (toT tt) gg)=true:=by rw[kS hgO];exact beq_self_eq_true _
 have b2:(alR tt tt.length gg d==kpR (toT tt) gg d)=true:=by rw[yP hgO hlb];exact beq_self_eq_true _
 replace hf:=hf.kp [5,7,8,10,11]
 refine seq ?_
 refine reg 27 Mix.mix hf (by decide +kernel) ?_
 refine st (fZ En5 (fun w he=>qq w (hT.ext he))) ?_
 refine st (mv rfl) ?_
 refine sy rfl rfl (mv rfl) ?_
 refine sy rfl rfl (mv rfl) ?_
 refine sy rfl rfl (ax (A:=E (I (cgR tt tt.length gg))) En8 rfl rfl (fun v u w he h h'=>kE (frM tt) tt.length gg v u w h h' hfl (hdp tt hfl) hgO.sv hgO.se (by omega) (by omega) (by decide))) ?_
 refine sy rfl rfl (mv rfl) ?_
 refine sy rfl rfl (ldW T36 rfl B10 rfl) ?_
 refine sy rfl rfl (ax (A:=E (I (cM (toT tt) gg))) (C:=E (.agg #[z1,z2])) En9 rfl rfl (fun v u w he h h'=>by cases h';exact kT (toT tt) gg v _ w h (VA.st _ _ _ _ he hz) (by omega) hh (by omega) (by omega))) ?_
 refine sy rfl rfl ((eql rfl rfl).eq (congrArg Value.bool (b1))) ?_
 refine st (pkT rfl rfl) ?_
 refine st (mv rfl) ?_
 refine sy rfl rfl (mv rfl) ?_
 refine sy rfl rfl (mv rfl) ?_
 refine sy rfl rfl (ldW T26 rfl B5 rfl) ?_
 refine sy rfl rfl (eT (A:=E (I (alR tt tt.length gg d))) (D:=E (dtV d)) qD rfl rfl rfl (fun v u s w he h h' k=>by cases k;exact wI (frM tt) tt.length gg d v u w h h' hfl (hdp tt hfl) hgO (by omega) (by omega) (by decide) hlb hw hw2 ho)) ?_
 refine sy rfl rfl (mv rfl) ?_
 refine sy rfl rfl (ldW T36 rfl B10 rfl) ?_
 refine sy rfl rfl (ldW T26 rfl B5 rfl) ?_
 refine sy rfl rfl (eT (A:=E (I (kpR (toT tt) gg d))) (C:=E (.agg #[z1,z2])) (D:=E (dtV d)) qE rfl rfl rfl (fun v u s w he h h' k=>by cases h';cases k;exact wV (toT tt) gg d v _ w h (VA.st _ _ _ _ he hz) (by omega) hh (by omega) (by omega))) ?_
 refine sy rfl rfl ((eql rfl rfl).eq (congrArg Value.bool (b2))) ?_
 refine st (pkT rfl rfl) ?_
 refine st (mv rfl) ?_
 refine sy rfl rfl (mv rfl) ?_
 refine sy rfl rfl (aw (A:=Dv gtE G0 gg) qG rfl (fun v w he h=>wX gg v w h hgO.sv hgO.se (by omega) (by omega) (by decide))) ?_
 refine sy rfl rfl (ldW T36 rfl B10 rfl) ?_
 refine sy rfl rfl (ax (A:=E (B true)) (C:=E (.agg #[z1,z2])) qF rfl rfl (fun v u w he h h'=>by cases h';exact xc gg v _ w h (VA.st _ _ _ _ he hz) (by omega) (by omega))) ?_
 refine st (pkT rfl rfl) ?_
 refine en fun a w e' hf=>?_
 replace hT:=hT.ext e'
 replace hz:=VA.st _ _ _ _ e' hz
 replace e:=e.tr e'
 replace B5:=B5.ext e'
 replace B10:=B10.ext e'
 refine ae hf rfl (by decide) fun a hf=>?_
 refine aa ?_
 refine aj ?_
 refine al rfl hf rfl ?_
 rintro _ rfl
 exact⟨_,rfl,e,rfl⟩
end Go.Mono
