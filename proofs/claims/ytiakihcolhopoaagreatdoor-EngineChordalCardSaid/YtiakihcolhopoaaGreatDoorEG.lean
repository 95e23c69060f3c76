/-
  Walks of functions and plain facts.
  No condition.
-/
import Derived.Test.YtiakihcolhopoaaGreatDoorEF
import Derived.Test.YtiakihcolhopoaaGreatDoorEE
import Derived.Test.YtiakihcolhopoaaGreatDoorED
set_option linter.unusedVariables false
set_option linter.unusedSimpArgs false
namespace Go.Mono
open Go Go.Proofs Go.RowKit Go.Gr
def cmS (nb:Int→BS)(m K:Nat)(R:BS):List BS:=(cc nb m K R).getD []
def dy (nb:Int→BS)(m K:Nat)(V:BS)(s:List Nat):List BS:=s.foldl (fun (l:List BS) (x:Nat)=>bE nb l (cmS nb m K (V &&& ~~~ins (nb (x:Int)) (x:Int)))) []
def cQ (nb:Int→BS)(m K:Nat)(V S:BS)(l:List BS)(s:List Nat):List BS:=s.foldl (fun (l:List BS) (x:Nat)=>bE nb l (cmS nb m K (V &&& ~~~(S ||| nb (x:Int))))) l
def fG (nb:Int→BS)(m K:Nat)(V:BS):Nat→Nat→List BS→Option (List BS)
 | 0,_,_=>none
 | r+1,i,l=>if i<l.length∧l.length≤9 then fG nb m K V r (i+1) (cQ nb m K V (l.getD i 0) l (elems (l.getD i 0))) else some l
theorem a0S (nb:Int→BS)(m K:Nat)(V:BS)(i:Nat)(l:List BS):fG nb m K V 0 i l=none:=rfl
theorem a0T (nb:Int→BS)(m K:Nat)(V:BS)(r i:Nat)(l:List BS):fG nb m K V (r+1) i l=if i<l.length∧l.length≤9 then fG nb m K V r (i+1) (cQ nb m K V (l.getD i 0) l (elems (l.getD i 0))) else some l:=rfl
theorem a0U (nb:Int→BS)(m K:Nat)(V:BS)(s:List Nat)(x:Nat):dy nb m K V (s++[x])=bE nb (dy nb m K V s) (cmS nb m K (V &&& ~~~ins (nb (x:Int)) (x:Int))):=by simp only[dy,List.foldl_append,List.foldl_cons,List.foldl_nil]
theorem a0V (nb:Int→BS)(m K:Nat)(V S:BS)(l:List BS)(s:List Nat)(x:Nat):cQ nb m K V S l (s++[x])=bE nb (cQ nb m K V S l s) (cmS nb m K (V &&& ~~~(S ||| nb (x:Int)))):=by simp only[cQ,List.foldl_append,List.foldl_cons,List.foldl_nil]
theorem iQ {f:List BS→Nat→List BS}(hf:∀l x,(f l x).length≤l.length+10):∀(s:List Nat) (l:List BS),(s.foldl f l).length≤l.length+10 * s.length
 | [],l=>by simp
 | x::s,l=>by
  have h1:=iQ hf s (f l x)
  have h2:=hf l x
  rw[List.foldl_cons,List.length_cons];omega
theorem a0W {nb:Int→BS}{l:List BS}{p:BS}{i:Nat}(h:i<l.length):(cO nb l p)[i]?=l[i]?:=by
 rw[cO];split
 ·rfl
 ·rw[List.getElem?_append_left h]
theorem si {nb:Int→BS}{l:List BS}{p:BS}:l.length≤(cO nb l p).length:=by
 rw[cO];split
 ·exact Nat.le_refl _
 ·rw[List.length_append];omega
theorem sj {nb:Int→BS}:∀(L l:List BS) {i:Nat},i<l.length→(bE nb l L)[i]?=l[i]?∧l.length≤(bE nb l L).length
 | [],l,i,h=>⟨rfl,Nat.le_refl _⟩
 | p::L,l,i,h=>by
  have h1:=sj (nb:=nb) L (cO nb l p) (Nat.lt_of_lt_of_le h si)
  have h3:bE nb l (p::L)=bE nb (cO nb l p) L:=rfl
  rw[h3]
  exact⟨h1.1.trans (a0W h),Nat.le_trans si h1.2⟩
theorem sk {nb:Int→BS}{m K:Nat}{V S:BS}:∀(s:List Nat) (l:List BS) {i:Nat},i<l.length→(cQ nb m K V S l s)[i]?=l[i]?∧l.length≤(cQ nb m K V S l s).length
 | [],l,i,h=>⟨rfl,Nat.le_refl _⟩
 | x::s,l,i,h=>by
  have h0:=sj (nb:=nb) (cmS nb m K (V &&& ~~~(S ||| nb (x:Int)))) l h
  have h1:=sk (nb:=nb) (m:=m) (K:=K) (V:=V) (S:=S) s (bE nb l (cmS nb m K (V &&& ~~~(S ||| nb (x:Int))))) (Nat.lt_of_lt_of_le h h0.2)
  have h3:cQ nb m K V S l (x::s)=cQ nb m K V S (bE nb l (cmS nb m K (V &&& ~~~(S ||| nb (x:Int))))) s:=rfl
  rw[h3]
  exact⟨h1.1.trans h0.1,Nat.le_trans h0.2 h1.2⟩
def leV (b2 b6 b7:Nat):Value:=.func (.func 126) #[] #[ptr b2,ptr b6,ptr b7]
structure MsW (W:World)(gv:Value)(b2 b6 b7 b8 bm N0:Nat)(v:Value)(lp:List (BS×Bool))(xs:List BS)(w:World):Prop where
 e:Ext W w
 t:Tab w
 p2:Blk w b2 #[gv] 28
 p6:Blk w b6 #[.map (some bm)] 164
 p7:Blk w b7 #[v] 42
 p8:Blk w b8 #[leV b2 b6 b7] 167
 m:MpR gV w bm xs.length lp
 o:OwR aX 47 1 G0 w xs v
 k:∀s,lkB false lp s=decide (s∈xs)
 l:∀b,v.ownBlock=some b→N0≤b
structure MsD (W:World)(b2 b6 b7 b8 bm N0:Nat):Prop where
 hi:b2<N0∧b6<N0∧b7<N0∧b8<N0∧bm<N0∧0<N0∧W.heap.size≤N0
 lo:W.heap.size≤b7∧W.heap.size≤bm∧0<b7∧0<bm
 ne:b2≠b7∧b6≠b7∧b2≠bm∧b6≠bm∧b7≠bm∧b8≠b7∧b8≠bm
section
variable {W w w':World}{gv v v':Value}{b2 b6 b7 b8 bm N0 B:Nat}{lp lp':List (BS×Bool)}{xs xs':List BS}
theorem MsW.ext (h:MsW W gv b2 b6 b7 b8 bm N0 v lp xs w)(e:Ext w w'):MsW W gv b2 b6 b7 b8 bm N0 v lp xs w':=⟨Ext.tr h.e e,h.t.ext e,h.p2.ext e,h.p6.ext e,h.p7.ext e,h.p8.ext e,h.m.ext e,h.o.ext e,h.k,h.l⟩
theorem MsW.kp (h:MsW W gv b2 b6 b7 b8 bm N0 v lp xs w)(d:MsD W b2 b6 b7 b8 bm N0)(k:Kp B w w')(hB:N0≤B)(ho:∀b,v.ownBlock=some b→¬aT B b):MsW W gv b2 b6 b7 b8 bm N0 v lp xs w':=by
 obtain⟨q2,q6,q7,q8,qm,q0,qW⟩:=d.hi
 have no:∀{b},b<N0→¬aT B b:=fun h hh=>Nat.lt_irrefl _ (Nat.lt_of_lt_of_le h (Nat.le_trans hB hh.1))
 exact⟨h.e.kp k (Nat.le_trans qW hB),h.t.kp k (Nat.lt_of_lt_of_le q0 hB),h.p2.kp k (no q2),h.p6.kp k (no q6),h.p7.kp k (no q7),h.p8.kp k (no q8),h.m.pres (k.same _ h.m.lt (no qm)),h.o.chE k.chg ho,h.k,h.l⟩
theorem MsW.gr {b:Nat}(h:MsW W gv b2 b6 b7 b8 bm N0 v lp xs w)(d:MsD W b2 b6 b7 b8 bm N0)(hg:w.grownBy w' (some b))(hB:N0≤b)(ho:v.ownBlock≠some b):MsW W gv b2 b6 b7 b8 bm N0 v lp xs w':=by
 obtain⟨q2,q6,q7,q8,qm,q0,qW⟩:=d.hi
 have no:∀{c},c<N0→c≠b:=fun h hh=>Nat.lt_irrefl _ (Nat.lt_of_lt_of_le h (hh▸hB))
 exact⟨h.e.gr hg (Nat.le_trans qW hB),h.t.gr hg (Nat.lt_of_lt_of_le q0 hB),h.p2.gr hg (no q2),h.p6.gr hg (no q6),h.p7.gr hg (no q7),h.p8.gr hg (no q8),h.m.pres (hg.block _ h.m.lt fun e=>no qm (Option.some.inj e)),h.o.grE hg ho,h.k,h.l⟩
theorem MsW.toS (h:MsW W gv b2 b6 b7 b8 bm N0 v lp xs w):SpW w gv b2 b6 b7 bm v v lp xs w:=⟨(Ext.rfl' _).chg _,h.t,h.p2,h.p6,h.p7,h.m,h.o,h.k,fun b hb=>.inl hb⟩
theorem MsW.toD (h:MsW W gv b2 b6 b7 b8 bm N0 v lp xs w)(d:MsD W b2 b6 b7 b8 bm N0):SpD w b2 b6 b7 bm:=⟨⟨h.p2.lt,h.p6.lt,h.p7.lt,h.m.lt,h.t.lt⟩,d.ne.1,d.ne.2.1,d.ne.2.2.1,d.ne.2.2.2.1,d.ne.2.2.2.2.1,d.lo.2.2.1,d.lo.2.2.2⟩
theorem MsW.sW (h:MsW W gv b2 b6 b7 b8 bm N0 v lp xs w)(d:MsD W b2 b6 b7 b8 bm N0):∀b,SpS bm b7 v b→W.heap.size≤b:=fun b hb=>by
 rcases hb with rfl|rfl|hb
 ·exact d.lo.2.1
 ·exact d.lo.1
 ·exact Nat.le_trans d.hi.2.2.2.2.2.2 (h.l b hb)
theorem MsW.of (h:MsW W gv b2 b6 b7 b8 bm N0 v lp xs w)(d:MsD W b2 b6 b7 b8 bm N0)(hN:N0≤w.heap.size)(h':SpW w gv b2 b6 b7 bm v v' lp' xs' w'):MsW W gv b2 b6 b7 b8 bm N0 v' lp' xs' w':=
 ⟨h.e.ch h'.c (h.sW d),h'.t,h'.p1,h'.p2,h'.p3,h.p8.ch h'.c (fun hh=>by
  rcases hh with hh|hh|hh
  ·exact d.ne.2.2.2.2.2.2 hh
  ·exact d.ne.2.2.2.2.2.1 hh
  ·exact h.o.neB h.p8 (by decide) hh),h'.m,h'.o,h'.k,fun b hb=>(h'.l b hb).elim (h.l b) fun hh=>Nat.le_trans hN hh⟩
end
theorem a0X {G:Nat→Prop}{N:Nat}(g:GT)(ok:Gr.Ok g)(gv:Value)(W:World)(hT:Tab W)(h:(Dv (ptE (grE N)) G (some g)).p gv W)(hl1:g.1.length≤100000)(hl2:g.2.length≤100000)(hN:N≤1000000)(m K r0:Nat)(hK:K≤10000)(L2:List BS)
  (hC:∀X,∃L,cc (nbA g) m K (ai g.1 &&& ~~~X)=some L∧L.length≤10) (hL2:fG (nbA g) m K (ai g.1) r0 0 (dy (nbA g) m K (ai g.1) (elems (ai g.1)))=some L2) (hL9:L2.length≤9) :
  Calls Tryz.prog 90 #[gv,I 9] W (Post (Tup [⟨fun u w=>∃ys:List BS,ys.Perm L2∧ys.Pairwise (fun S T=>¬T.toNat<S.toNat)∧(Dv (slE aX) G0 ys).p u w,fun _ _ _ e ⟨xs,h1,h2,h3⟩=>⟨xs,h1,h2,VA.st _ _ _ _ e h3⟩⟩,E (I 0)]) W):=by
 have hv:(Dv (ptE (grE N)) (fun b=>W.heap.size≤b) (some g)).p gv W:=Dv.weak h fun b hb hh=>by omega
 clear h
 have hT0:=hT.lt
 have h1c:gv.cells = #[gv]:=by
  obtain⟨ad,rfl,_⟩:=Dv.pt.1 hv
  rfl
 refine dr (args:=[gv,I 9]) (As:=[E gv,E (I 9)]) Tryz.func90 rfl Tryz.ntmps90 (Nat.le_of_ble_eq_true rfl) ?_ (fun a hf=>?_) (Nat.le_of_ble_eq_true rfl)
 ·exact bq rfl (bq rfl dG)
 dsimp only[params,Nat.reduceAdd] at hf
 have e:=Ext.rfl' W
 obtain⟨V,hV⟩:∃V,V=ai g.1:=⟨_,rfl⟩
 obtain⟨nb,hnb⟩:∃nb,nb=nbA g:=⟨_,rfl⟩
 refine seq ?_
 refine aj ?_
 refine aJ hf rfl (by decide) fun a b2 w v2 hv2 e' hb2 hs2 B2 hf=>?_
 have hle2:=Nat.le_trans e.size (Nat.le_of_eq hb2.symm)
 replace hT:=hT.ext e'
 replace e:=e.tr e'
 refine ae hf rfl (by decide) fun a hf=>?_
 refine ae hf rfl (by decide) fun a hf=>?_
 refine aa ?_
 cases hv2
 rw[h1c] at B2
 replace hf:=hf.kp [1,2]
 have hv2:=VA.st _ _ _ _ e hv
 repeat refine seq ?_
 refine ac 2 hf (by decide +kernel) ?_
 refine st (ld1 (v:=gv) T28 rfl B2 rfl) ?_
 refine st (fh U28 (isE rfl hv2)) ?_
 refine en fun a w e' hf=>?_
 replace hT:=hT.ext e'
 replace e:=e.tr e'
 replace B2:=B2.ext e'
 refine aa ?_
 clear hv2
 refine ifc hf rfl (fun h=>by cases h) (fun _=>?_)
 refine ar ?_
 simp only[Exit.then,Exit.inBlock,↓reduceIte]
 replace hf:=hf.kp [1,2]
 refine seq ?_
 refine aj ?_
 have lb2:=B2.lt
 refine eM gV hf (by decide) fun a bm w e' hbm hsm HM hf=>?_
 have hWm:W.heap.size≤bm:=by have:=e.size;omega
 replace e:=e.tr e'
 replace hT:=hT.ext e'
 replace B2:=B2.ext e'
 clear e'
 have l2m:b2≠bm:=by omega
 clear lb2 hbm hsm
 have lbm:=HM.lt
 refine aC sV hf (by decide) fun a b6 w e' hb6 hs6 B6 hf=>?_
 have hle6:=Nat.le_trans e.size (Nat.le_of_eq hb6.symm)
 have lt6_B2:=B2.lt
 replace hT:=hT.ext e'
 replace HM:=HM.ext e'
 replace e:=e.tr e'
 replace B2:=B2.ext e'
 clear e'
 haveI hinr:∀G0,InR (GB W G0) (some b6):=fun G0=>InR.gb (by omega)
 refine aO jb hf rfl rfl rfl B6 (by decide) fun w hg hsz B6 hf=>?_
 replace hT:=hT.gr hg (by omega)
 replace HM:=HM.gr hg (fun h=>by cases h;omega)
 replace e:=e.gr hg (by omega)
 replace B2:=B2.gr hg (by omega)
 clear hg
 refine aa ?_
 replace B6:Blk w b6 #[.map (some bm)] 164:=B6
 have n6:b2≠b6∧b6≠bm∧W.heap.size≤b6:=by omega
 replace hf:=hf.kp [1,2,6]
 have lbm2:=HM.lt
 refine seq ?_
 refine aj ?_
 refine aC I42 hf (by decide) fun a b7 w e' hb7 hs7 B7 hf=>?_
 have hle7:=Nat.le_trans e.size (Nat.le_of_eq hb7.symm)
 have lt7_B2:=B2.lt
 have lt7_B6:=B6.lt
 replace hT:=hT.ext e'
 replace HM:=HM.ext e'
 replace e:=e.tr e'
 replace B2:=B2.ext e'
 replace B6:=B6.ext e'
 refine aa ?_
 replace B7:Blk w b7 #[.slice none 0 0] 42:=B7
 have n7:b2≠b7∧b6≠b7∧b7≠bm∧W.heap.size≤b7:=by omega
 replace hf:=hf.kp [1,2,6,7]
 have lbm3:=HM.lt
 have lb2:=B2.lt
 have lb6:=B6.lt
 have lb7:=B7.lt
 refine seq ?_
 refine aj ?_
 refine aB hf (by decide) (oN rfl rfl rfl) fun a w e' hf=>?_
 replace hT:=hT.ext e'
 replace HM:=HM.ext e'
 replace e:=e.tr e'
 replace B2:=B2.ext e'
 replace B6:=B6.ext e'
 replace B7:=B7.ext e'
 clear e'
 refine aC sX hf (by decide) fun a b8 w e' hb8 hs8 B8 hf=>?_
 have hle8:=Nat.le_trans e.size (Nat.le_of_eq hb8.symm)
 have lt8_B2:=B2.lt
 have lt8_B6:=B6.lt
 have lt8_B7:=B7.lt
 replace hT:=hT.ext e'
 replace HM:=HM.ext e'
 replace e:=e.tr e'
 replace B2:=B2.ext e'
 replace B6:=B6.ext e'
 replace B7:=B7.ext e'
 clear e'
 haveI hinr:∀G0,InR (GB W G0) (some b8):=fun G0=>InR.gb (by omega)
 refine aO kF hf rfl rfl rfl B8 (by decide) fun w hg hsz B8 hf=>?_
 replace hT:=hT.gr hg (by omega)
 replace HM:=HM.gr hg (fun h=>by cases h;omega)
 replace e:=e.gr hg (by omega)
 replace B2:=B2.gr hg (by omega)
 replace B6:=B6.gr hg (by omega)
 replace B7:=B7.gr hg (by omega)
 clear hg
 refine aa ?_
 replace B8:Blk w b8 #[leV b2 b6 b7] 167:=B8
 have n8:b8≠b7∧b8≠bm:=by omega
 replace hf:=hf.kp [1,2,6,7,8]
 obtain⟨N0,hN0⟩:∃N0,N0=w.heap.size:=⟨_,rfl⟩
 have hN0s:N0≤w.heap.size:=Nat.le_of_eq hN0
 have d:MsD W b2 b6 b7 b8 bm N0:=by
  have q2:=B2.lt;have q6:=B6.lt;have q7:=B7.lt;have q8:=B8.lt;have qm:=HM.lt;have q0:=hT.lt;have qe:=e.size
  rw[← hN0] at q2 q6 q7 q8 qm q0 qe
  exact⟨⟨q2,q6,q7,q8,qm,q0,qe⟩,⟨by omega,by omega,by omega,by omega⟩,⟨by omega,by omega,by omega,by omega,by omega,by omega,by omega⟩⟩
 have h:MsW W gv b2 b6 b7 b8 bm N0 (.slice none 0 0) [] [] w:=⟨e,hT,B2,B6,B7,B8,HM,OwR.nil aX _ (by have:=hT.lt;omega) (fun b hb=>hb.elim),fun s=>rfl,fun b hb=>by simp[Value.ownBlock] at hb⟩
 clear e hT B2 B6 B7 B8 HM hN0 lbm lbm2 lbm3 lb2 lb6 lb7 n6 n7 n8 l2m hWm
 have fC:∀X,cc nb m K (V &&& ~~~X)=some (cmS nb m K (V &&& ~~~X))∧(cmS nb m K (V &&& ~~~X)).length≤10:=fun X=>by
  obtain⟨L,q1,q2⟩:=hC X
  rw[hnb,hV,cmS,q1]
  exact⟨rfl,q2⟩
 have hstep:∀(X:BS) (xs:List BS) (v:Value) (lp:List (BS×Bool)) (w:World),MsW W gv b2 b6 b7 b8 bm N0 v lp xs w→N0≤w.heap.size→xs.length≤20000 →
   Calls Tryz.prog 126 #[ah X,ptr b2,ptr b6,ptr b7] w (fun en w'=>en=.returned (.tuple #[])∧∃v' lp',Chg (SpS bm b7 v) w w'∧OwL w v v'∧MsW W gv b2 b6 b7 b8 bm N0 v' lp' (bE nb xs (cmS nb m K (V &&& ~~~X))) w'):=fun X xs v lp w h hNw hx=>by
  have q:=a0B g ok gv X xs lp b2 b6 b7 bm v w (VA.st _ _ _ _ h.e hv) (h.sW d) h.toS (h.toD d) hl1 hl2 hN m K hK (cmS nb m K (V &&& ~~~X)) (by have:=(fC X).1;rw[hnb,hV] at this ⊢;exact this) (by have:=(fC X).2;omega) hx
  rw[← hnb] at q
  exact q.mono fun en w' ⟨k1,v',lp',k2⟩=>⟨k1,v',lp',k2.c,k2.l,h.of d hNw k2⟩
 have fNb:∀(x:Nat) (w:World),Ext W w→Calls Tryz.prog 19 #[gv,I (x:Nat)] w (Post (E (ah (nb (x:Int)))) w):=fun x w e=>by
  rw[hnb,gU ok];exact eT g _ _ w (VA.st _ _ _ _ e hv) ok.se hl2 hN
 have fVs:∀w,Ext W w→Calls Tryz.prog 29 #[gv] w (Post (E (ah V)) w):=fun w e=>by
  rw[hV];exact fw g _ w (VA.st _ _ _ _ e hv) ok.sv hl1 hN
 rw[← hnb,← hV] at hL2
 clear hC hnb hV hv
 have e0:=h.e
 obtain⟨Nz,hNz⟩:∃Nz,Nz=w.heap.size:=⟨_,rfl⟩
 repeat refine seq ?_
 refine ac 3 hf (by decide +kernel) ?_
 refine st (ld1 (v:=gv) T28 rfl h.p2 rfl) ?_
 refine st (aw (A:=E (ah V)) (B:=E gv) fa rfl (fun u w he k=>by cases k;exact fVs w (Ext.tr e0 he))) ?_
 refine st (aw (A:=cC Nz V) cJ rfl (fun v w' he h=>by cases h;exact Calls.mono (cM _ w') (fun en w2 ⟨u,h1,h2,b',h3,h4,h5⟩=>⟨u,h1,h2,b',by have:=he.size;omega,h4,h5⟩))) ?_
 refine en fun a w e' hf=>?_
 replace h:=h.ext e'
 replace hN0s:=Nat.le_trans hN0s e'.size
 refine aa ?_
 clear e0
 obtain⟨vv,⟨b18,h18,rfl,BS⟩,hf⟩:=hf.fix 18 rfl
 replace hf:=hf.kp [1,2,7,8,18]
 refine blk ?_
 refine cS (S:=V) hf rfl BS (by decide) (fun s w1=>∃v lp,MsW W gv b2 b6 b7 b8 bm N0 v lp (dy nb m K V s) w1∧∀b,v.ownBlock=some b→¬aT w.heap.size b) (fun _ _=>False) (fun s w1 ⟨_,_,h,_⟩=>h.t)
  ⟨_,_,h,fun b hb=>by simp[Value.ownBlock] at hb⟩ (fun s w1 w2 ⟨v,lp,h1,h2⟩ hs k=>⟨v,lp,h1.kp d k hN0s h2,h2⟩) (fun _ _ _ h=>h.elim) ?_ ?_ (fun _ _ _ _ _ _ h=>h.elim)
 ·intro lb s x rest a1 w1 hs hJ hlw hf
  have hx1024:x<1024:=(aK.1 (by rw[hs];simp)).1
  have hsl:s.length<1024:=by have:=cD V;rw[hs] at this;simp at this;omega
  generalize hBz:w.heap.size=Bz at *
  refine aj ?_
  refine ae hf rfl (by decide) fun a hf=>?_
  refine aa ?_
  simp only[Exit.then]
  refine⟨Kh.rfl' _ _,fun w3 k3 hsz3=>?_⟩
  obtain⟨v,lp,h1,h6⟩:=hJ
  have h3:=h1.kp d k3 hN0s h6
  have hw3:Bz+3≤w3.heap.size:=by omega
  clear h h1 BS
  replace hf:=hf.pure w3
  have h:=h3
  clear h3
  have kh:=Kh.rfl' Bz w3
  obtain⟨ys,hys⟩:∃ys,ys=dy nb m K V s:=⟨_,rfl⟩
  have hyl:ys.length≤20000:=by
   have:=iQ (f:=fun l x=>bE nb l (cmS nb m K (V &&& ~~~ins (nb (x:Int)) (x:Int)))) (fun l x=>by have h1:=gZ nb (cmS nb m K (V &&& ~~~ins (nb (x:Int)) (x:Int))) l;have h2:=(fC (ins (nb (x:Int)) (x:Int))).2;omega) s []
   rw[hys,dy]
   simp only[List.length_nil] at this
   omega
  have hyn:dy nb m K V (s++[x])=bE nb ys (cmS nb m K (V &&& ~~~ins (nb (x:Int)) (x:Int))):=by rw[a0U,hys]
  rw[← hys] at h
  have e0:=h.e
  replace hf:=hf.kp [2,8,9]
  refine blk ?_
  refine reg 6 Mix.mix hf (by decide +kernel) ?_
  refine st (ld1 (v:=leV b2 b6 b7) kF rfl h.p8 rfl) ?_
  refine st (ld1 (v:=gv) T28 rfl h.p2 rfl) ?_
  refine st (mv rfl) ?_
  refine st (aD (A:=E (ah (nb (x:Int)))) (B:=E gv) (C:=E (I (x:Nat))) dT rfl rfl (fun v u w he k1 k2=>by cases k1;cases k2;exact fNb x w (Ext.tr e0 he))) ?_
  refine st (mv rfl) ?_
  refine st (aD (A:=E (ah (ins (nb (x:Int)) (x:Int)))) (B:=E (ah (nb (x:Int)))) (C:=E (I (x:Nat))) de rfl rfl (fun v u w he h h'=>by cases h;cases h';exact di _ _ w)) ?_
  refine en fun a w e' hf=>?_
  replace h:=h.ext e'
  replace kh:=kh.tr (Kh.ext e')
  replace hw3:=Nat.le_trans hw3 e'.size
  clear e'
  clear e0
  replace hf:=hf.kp [20,25]
  refine gu (S:=SpS bm b7 v) (F:=fun w'=>∃v' lp',OwL w v v'∧MsW W gv b2 b6 b7 b8 bm N0 v' lp' (bE nb ys (cmS nb m K (V &&& ~~~ins (nb (x:Int)) (x:Int)))) w') (A:=E (.tuple #[])) hf (by decide) nw rfl ?_ fun a w4 hc hF hf=>?_
  ·have e1:a.eval (.tmp 25)=ah (ins (nb (x:Int)) (x:Int)):=hf.opd (.tmp 25) _ rfl
   simp only[List.map_toArray,List.map_cons,List.map_nil,e1]
   exact (hstep _ ys v lp _ h (by omega) hyl).mono fun en w' ⟨k1,v',lp',k2,k3,k4⟩=>⟨_,k1,k2,rfl,v',lp',k3,k4⟩
  obtain⟨v',lp',hl,h'⟩:=hF
  have hsn:∀b,SpS bm b7 v b→¬aT Bz b:=fun b hb hh=>by
   have:=hh.1
   have:=d.hi
   rcases hb with rfl|rfl|hb
   ·omega
   ·omega
   ·exact h6 b hb hh
  refine aa ?_
  simp only[Exit.inBlock]
  exact⟨⟨v',lp',by rw[hyn];exact h',fun b hb=>(hl b hb).elim (h6 b) fun hh hH=>by have:=hH.2;omega⟩,kh.tr (Kh.chg hc hsn)⟩
 ·intro a' w' hf' hJ hsz hDn
  simp only[Exit.inBlock,↓reduceIte,Exit.then]
  have hD':Ds [w.heap.size] w':=(Ds.nil w').cons hDn (by simp)
  have hf:FrD 63 (bK [w.heap.size]) a' w' [(1,E (I 9)),(2,E (ptr b2)),(7,E (ptr b7)),(8,E (ptr b8))]:=hf'.keep [1,2,7,8]
  have hDN:∀d∈[w.heap.size],N0≤d:=fun d hd=>by rw[List.mem_singleton] at hd;omega
  have hN0':N0≤w'.heap.size:=by omega
  clear hf' h hDn BS
  obtain⟨v,lp,h,-⟩:=hJ
  generalize [w.heap.size]=D at *
  have hD:=hD'
  have hN0s:=hN0'
  clear hD' hN0' hsz hNz h18
  generalize w'=w at *
  obtain⟨ys,hys⟩:∃ys,ys=dy nb m K V (elems V):=⟨_,rfl⟩
  rw[← hys] at hL2 h
  have hyl:ys.length≤20000:=by
   have h1:=iQ (f:=fun l x=>bE nb l (cmS nb m K (V &&& ~~~ins (nb (x:Int)) (x:Int)))) (fun l x=>by have h1:=gZ nb (cmS nb m K (V &&& ~~~ins (nb (x:Int)) (x:Int))) l;have h2:=(fC (ins (nb (x:Int)) (x:Int))).2;omega) (elems V) []
   have h2:=cD V
   rw[hys,dy]
   simp only[List.length_nil] at h1
   omega
  clear hys
  obtain⟨Nq,hNq0⟩:∃Nq,Nq=w.heap.size:=⟨_,rfl⟩
  have hNq:Nq≤w.heap.size:=Nat.le_of_eq hNq0
  have hoq:∀b,v.ownBlock=some b→b<Nq:=fun b hb=>by rw[hNq0];exact (h.o.lt hb).2
  have hDq:∀d∈D,d<Nq:=fun d hd=>by rw[hNq0];exact hD.lt hd
  have hNNq:N0≤Nq:=by rw[hNq0];exact hN0s
  have hWN0:W.heap.size≤N0:=d.hi.2.2.2.2.2.2
  clear hNq0
  repeat refine seq ?_
  refine aj ?_
  refine aC I3 hf (by decide) fun a b10 w e' hb10 hs10 B10 hf=>?_
  have lo10_hN0s:=Nat.le_trans hN0s (Nat.le_of_eq hb10.symm)
  have lo10_hNq:=Nat.le_trans hNq (Nat.le_of_eq hb10.symm)
  replace h:=h.ext e'
  replace hN0s:=Nat.le_trans hN0s e'.size
  replace hD:=hD.ext e'
  replace hNq:=Nat.le_trans hNq e'.size
  clear e'
  haveI hinr:∀G0,InR (GB W G0) (some b10):=fun G0=>InR.gb (by omega)
  refine aO T3 hf rfl rfl rfl B10 (by decide) fun w hg hsz B10 hf=>?_
  replace h:=h.gr d hg (by omega) (fun hh=>by have:=hoq _ hh;omega)
  replace hN0s:=Nat.le_trans hN0s hg.size
  replace hD:=hD.gr hg (fun hh=>by have:=hDq _ hh;omega)
  replace hNq:=Nat.le_trans hNq hg.size
  clear hg
  refine aa ?_
  replace B10:Blk w b10 #[I ((0:Nat):Int)] 3:=B10
  have n10:N0≤b10:=by omega
  replace hf:=hf.kp [1,2,7,8,10]
  refine blk (aW (fun q0 a w=>∃(D:List Nat) (i b10:Nat) (v:Value) (lp:List (BS×Bool)) (ys:List BS),fG nb m K V q0 i ys=some L2∧ys.length≤20000∧i≤20000∧(∀d∈D,N0≤d)∧FrD 63 (bK D) a w [(1,E (I 9)),(2,E (ptr b2)),(7,E (ptr b7)),(8,E (ptr b8)),(10,E (ptr b10))]∧MsW W gv b2 b6 b7 b8 bm N0 v lp ys w∧Blk w b10 #[I (i:Nat)] 3∧N0≤b10∧N0≤w.heap.size∧Ds D w) r0 ⟨D,0,b10,v,lp,ys,hL2,hyl,Nat.zero_le _,hDN,hf,h,B10,n10,hN0s,hD⟩ ?_)
  clear hf h B10 n10 hN0s hD hDN hL2 hyl
  rintro q0 a w ⟨D,i,b10,v,lp,ys,hL2,hyl,hil,hDN,hf,h,B10,n10,hN0s,hD⟩
  obtain⟨q,rfl⟩:∃q,q0=q+1:=by
   cases q0 with
   | zero=>rw[a0S] at hL2;cases hL2
   | succ q=>exact⟨q,rfl⟩
  rw[a0T] at hL2
  repeat refine seq ?_
  by_cases hgo:i<ys.length∧ys.length≤9
  ·rw[if_pos hgo] at hL2
   obtain⟨hi,h9⟩:=hgo
   have hg:=List.getElem?_eq_getElem hi
   have hgD:ys.getD i 0=ys[i]:=by rw[List.getD_eq_getElem?_getD,hg];rfl
   rw[hgD] at hL2
   generalize ys[i]=S at hg hL2
   refine ac 10 hf (by decide +kernel) ?_
   refine st (ld1 (v:=I (i:Nat)) T3 rfl B10 rfl) ?_
   refine st (ld1 (v:=v) T42 rfl h.p7 rfl) ?_
   refine st (bi U42 (isE rfl h.o.sl)) ?_
   refine st ((lss rfl rfl).eq (congrArg Value.bool ((decide_eq_true (by omega):_=true)))) ?_
   refine st (mv rfl) ?_
   refine sy rfl rfl (ld1 (v:=v) T42 rfl h.p7 rfl) ?_
   refine sy rfl rfl (bi U42 (isE rfl h.o.sl)) ?_
   refine sy rfl rfl (mv rfl) ?_
   refine sy rfl rfl ((leq rfl rfl).eq (congrArg Value.bool ((decide_eq_true (by omega):_=true)))) ?_
   refine st (pkT rfl rfl) ?_
   refine en fun a w e' hf=>?_
   replace h:=h.ext e'
   replace hN0s:=Nat.le_trans hN0s e'.size
   replace B10:=B10.ext e'
   replace hD:=hD.ext e'
   refine aa ?_
   refine ifc hf rfl (fun _=>ar ?_) (fun h=>by cases h)
   simp only[Exit.then,Exit.inBlock,↓reduceIte]
   replace hf:=hf.kp [1,2,7,8,10]
   refine seq ?_
   refine blk ?_
   obtain⟨Nz,hNz⟩:∃Nz,Nz=w.heap.size:=⟨_,rfl⟩
   refine seq ?_
   refine ac 5 hf (by decide +kernel) ?_
   refine st (ld1 (v:=v) T42 rfl h.p7 rfl) ?_
   refine st (ld1 (v:=I (i:Nat)) T3 rfl B10 rfl) ?_
   refine st (ba U42 S47 (isE rfl h.o.sl) rfl (by omega) (hg)) ?_
   refine st (ldS T47 (isR rfl)) ?_
   refine st (aw (A:=cC Nz S) cJ rfl (fun v w' he h=>by cases h;exact Calls.mono (cM _ w') (fun en w2 ⟨u,h1,h2,b',h3,h4,h5⟩=>⟨u,h1,h2,b',by have:=he.size;omega,h4,h5⟩))) ?_
   refine en fun a w e' hf=>?_
   replace h:=h.ext e'
   replace hN0s:=Nat.le_trans hN0s e'.size
   replace B10:=B10.ext e'
   replace hD:=hD.ext e'
   refine aa ?_
   obtain⟨vv,⟨b43,h43,rfl,BS⟩,hf⟩:=hf.fix 43 rfl
   replace hf:=hf.kp [1,2,7,8,10,43]
   have l10:=B10.lt
   have lD:∀d∈D,d<w.heap.size:=fun d hd=>hD.lt hd
   have lo0:∀b,v.ownBlock=some b→¬aT w.heap.size b:=fun b hb hh=>by have:=(h.o.lt hb).2;have:=hh.1;omega
   have no10:=h.o.neB B10 (by decide)
   refine blk ?_
   refine cS (S:=S) hf rfl BS (by decide) (fun s w1=>∃v lp,MsW W gv b2 b6 b7 b8 bm N0 v lp (cQ nb m K V S ys s) w1∧(∀b,v.ownBlock=some b→¬aT w.heap.size b)∧Blk w1 b10 #[I (i:Nat)] 3∧Ds D w1) (fun _ _=>False) (fun s w1 ⟨_,_,h,_⟩=>h.t)
    ⟨v,lp,h,lo0,B10,hD⟩ (fun s w1 w2 ⟨v,lp,h1,h2,h3,h4⟩ hs k=>⟨v,lp,h1.kp d k hN0s h2,h2,h3.kp k (fun hh=>by have:=hh.1;omega),h4.ch k.chg (fun d hd hh=>by have:=hh.1;have:=lD d hd;omega)⟩) (fun _ _ _ h=>h.elim) ?_ ?_ (fun _ _ _ _ _ _ h=>h.elim)
   ·intro lb s x rest a1 w1 hs hJ hlw hf
    have hx1024:x<1024:=(aK.1 (by rw[hs];simp)).1
    have hsl:s.length<1024:=by have:=cD S;rw[hs] at this;simp at this;omega
    generalize hBz:w.heap.size=Bz at *
    refine aj ?_
    refine ae hf rfl (by decide) fun a hf=>?_
    refine aa ?_
    simp only[Exit.then]
    refine⟨Kh.rfl' _ _,fun w3 k3 hsz3=>?_⟩
    obtain⟨v2,lp2,h1,h6,h7,h8⟩:=hJ
    have h3:=h1.kp d k3 hN0s h6
    have q10:=h7.kp k3 (fun hh=>by have:=hh.1;omega)
    have qD:=h8.ch k3.chg (fun d hd hh=>by have:=hh.1;have:=lD d hd;omega)
    have hw3:Bz+3≤w3.heap.size:=by omega
    clear h h1 BS B10 hD h7 h8
    replace hf:=hf.pure w3
    have h:=h3
    clear h3
    have kh:=Kh.rfl' Bz w3
    obtain⟨zs,hzs⟩:∃zs,zs=cQ nb m K V S ys s:=⟨_,rfl⟩
    have hzl:zs.length≤20000:=by
     have:=iQ (f:=fun l x=>bE nb l (cmS nb m K (V &&& ~~~(S ||| nb (x:Int))))) (fun l x=>by have h1:=gZ nb (cmS nb m K (V &&& ~~~(S ||| nb (x:Int)))) l;have h2:=(fC (S ||| nb (x:Int))).2;omega) s ys
     rw[hzs,cQ]
     omega
    have hzn:cQ nb m K V S ys (s++[x])=bE nb zs (cmS nb m K (V &&& ~~~(S ||| nb (x:Int)))):=by rw[a0V,hzs]
    have hzg:zs[i]?=some S:=by rw[hzs,(sk s ys hi).1,hg]
    rw[← hzs] at h
    have e0:=h.e
    replace hf:=hf.kp [2,7,8,10,11]
    refine blk ?_
    refine reg 9 Mix.mix hf (by decide +kernel) ?_
    refine st (ld1 (v:=leV b2 b6 b7) kF rfl h.p8 rfl) ?_
    refine st (ld1 (v:=v2) T42 rfl h.p7 rfl) ?_
    refine st (ld1 (v:=I (i:Nat)) T3 rfl q10 rfl) ?_
    refine st (ba U42 S47 (isE rfl h.o.sl) rfl (by omega) (hzg)) ?_
    refine st (ldS T47 (isR rfl)) ?_
    refine st (ld1 (v:=gv) T28 rfl h.p2 rfl) ?_
    refine st (mv rfl) ?_
    refine st (aD (A:=E (ah (nb (x:Int)))) (B:=E gv) (C:=E (I (x:Nat))) dT rfl rfl (fun v u w he k1 k2=>by cases k1;cases k2;exact fNb x w (Ext.tr e0 he))) ?_
    refine st (aD (A:=E (ah (S ||| nb (x:Int)))) (B:=E (ah S)) (C:=E (ah (nb (x:Int)))) jg rfl rfl (fun v u w he h h'=>by cases h;cases h';exact jn _ _ w)) ?_
    refine en fun a w e' hf=>?_
    replace h:=h.ext e'
    replace kh:=kh.tr (Kh.ext e')
    replace hw3:=Nat.le_trans hw3 e'.size
    replace q10:=q10.ext e'
    replace qD:=qD.ext e'
    clear e'
    clear e0
    replace hf:=hf.kp [45,53]
    refine gu (S:=SpS bm b7 v2) (F:=fun w'=>∃v' lp',OwL w v2 v'∧MsW W gv b2 b6 b7 b8 bm N0 v' lp' (bE nb zs (cmS nb m K (V &&& ~~~(S ||| nb (x:Int))))) w') (A:=E (.tuple #[])) hf (by decide) nw rfl ?_ fun a w4 hc hF hf=>?_
    ·have e1:a.eval (.tmp 53)=ah (S ||| nb (x:Int)):=hf.opd (.tmp 53) _ rfl
     simp only[List.map_toArray,List.map_cons,List.map_nil,e1]
     exact (hstep _ zs v2 lp2 _ h (by omega) hzl).mono fun en w' ⟨k1,v',lp',k2,k3,k4⟩=>⟨_,k1,k2,rfl,v',lp',k3,k4⟩
    obtain⟨v',lp',hl,h'⟩:=hF
    have no2:=h.o.neB q10 (by decide)
    have hsn:∀b,SpS bm b7 v2 b→¬aT Bz b:=fun b hb hh=>by
     have:=hh.1
     have:=d.hi
     rcases hb with rfl|rfl|hb
     ·omega
     ·omega
     ·exact h6 b hb hh
    refine aa ?_
    simp only[Exit.inBlock]
    refine⟨⟨v',lp',by rw[hzn];exact h',fun b hb=>(hl b hb).elim (h6 b) fun hh hH=>by have:=hH.2;omega,q10.ch hc (fun hb=>?_),qD.ch hc fun dd hd hb=>?_⟩,kh.tr (Kh.chg hc hsn)⟩
    ·have:=d.hi
     rcases hb with rfl|rfl|hb
     ·omega
     ·omega
     ·exact no2 hb
    ·have:=d.hi
     have:=hDN dd hd
     rcases hb with rfl|rfl|hb
     ·omega
     ·omega
     ·exact h.o.neDs qD hd hb
   ·intro a' w' hf' hJ hsz hDn
    simp only[Exit.inBlock,↓reduceIte,Exit.then]
    obtain⟨v2,lp2,h1,-,h2,h3⟩:=hJ
    have hD2:Ds (w.heap.size::D) w':=h3.cons hDn fun h=>by have:=lD _ h;omega
    have hf:FrD 63 (bK (w.heap.size::D)) a' w' [(1,E (I 9)),(2,E (ptr b2)),(7,E (ptr b7)),(8,E (ptr b8)),(10,E (ptr b10))]:=hf'.keep [1,2,7,8,10]
    have hDN2:∀d∈w.heap.size::D,N0≤d:=fun d hd=>(List.mem_cons.1 hd).elim (fun h=>by omega) (hDN d)
    have hNw:N0≤w'.heap.size:=by omega
    clear hf' h B10 hD hDn BS no10 lo0 l10
    generalize w.heap.size::D=D2 at *
    have h:=h1
    have B10:=h2
    have hD:=hD2
    have hN0s:=hNw
    clear h1 h2 hD2 hNw hsz hNz h43 h3 lD
    generalize w'=w at *
    obtain⟨zs,hzs⟩:∃zs,zs=cQ nb m K V S ys (elems S):=⟨_,rfl⟩
    rw[← hzs] at hL2 h
    have hzl:zs.length≤20000:=by
     have h1:=iQ (f:=fun l x=>bE nb l (cmS nb m K (V &&& ~~~(S ||| nb (x:Int))))) (fun l x=>by have h1:=gZ nb (cmS nb m K (V &&& ~~~(S ||| nb (x:Int)))) l;have h2:=(fC (S ||| nb (x:Int))).2;omega) (elems S) ys
     have h2:=cD S
     rw[hzs,cQ]
     omega
    repeat refine seq ?_
    refine ac 1 hf (by decide +kernel) ?_
    refine st (ld1 (v:=I (i:Nat)) T3 rfl B10 rfl) ?_
    refine en fun a w e' hf=>?_
    replace h:=h.ext e'
    replace hN0s:=Nat.le_trans hN0s e'.size
    replace B10:=B10.ext e'
    replace hD:=hD.ext e'
    refine aa ?_
    clear B10 n10
    replace hf:=hf.kp [1,2,7,8,55]
    obtain⟨Nq,hNq0⟩:∃Nq,Nq=w.heap.size:=⟨_,rfl⟩
    have hNq:Nq≤w.heap.size:=Nat.le_of_eq hNq0
    have hoq:∀b,v2.ownBlock=some b→b<Nq:=fun b hb=>by rw[hNq0];exact (h.o.lt hb).2
    have hDq:∀d∈D2,d<Nq:=fun d hd=>by rw[hNq0];exact hD.lt hd
    have hNNq:N0≤Nq:=by rw[hNq0];exact hN0s
    have hWN0:W.heap.size≤N0:=d.hi.2.2.2.2.2.2
    clear hNq0
    refine aj ?_
    refine aC I3 hf (by decide) fun a b10 w e' hb10 hs10 B10 hf=>?_
    have lo10_hN0s:=Nat.le_trans hN0s (Nat.le_of_eq hb10.symm)
    have lo10_hNq:=Nat.le_trans hNq (Nat.le_of_eq hb10.symm)
    replace h:=h.ext e'
    replace hN0s:=Nat.le_trans hN0s e'.size
    replace hD:=hD.ext e'
    replace hNq:=Nat.le_trans hNq e'.size
    clear e'
    haveI hinr:∀G0,InR (GB W G0) (some b10):=fun G0=>InR.gb (by omega)
    refine aO T3 hf rfl rfl rfl B10 (by decide) fun w hg hsz B10 hf=>?_
    replace h:=h.gr d hg (by omega) (fun hh=>by have:=hoq _ hh;omega)
    replace hN0s:=Nat.le_trans hN0s hg.size
    replace hD:=hD.gr hg (fun hh=>by have:=hDq _ hh;omega)
    replace hNq:=Nat.le_trans hNq hg.size
    clear hg
    refine aa ?_
    replace B10:Blk w b10 #[I (i:Nat)] 3:=B10
    have n10:N0≤b10:=by omega
    replace hf:=hf.kp [1,2,7,8,10]
    refine ac 2 hf (by decide +kernel) ?_
    refine st (ld1 (v:=I (i:Nat)) T3 rfl B10 rfl) ?_
    refine st ((add rfl rfl (by omega)).eq (congrArg (Value.int .i64) (show ((i:Nat):Int)+1=((i+1:Nat):Int) from rfl))) ?_
    refine en fun a w e' hf=>?_
    replace h:=h.ext e'
    replace hN0s:=Nat.le_trans hN0s e'.size
    replace B10:=B10.ext e'
    replace hD:=hD.ext e'
    clear e'
    have no10:=h.o.neB B10 (by decide)
    have nD10:=hD.ne B10
    refine aO T3 hf rfl rfl rfl B10 Nat.zero_lt_one fun w hg hsz B10 hf=>?_
    refine aa ?_
    replace h:=h.gr d hg n10 no10
    replace hD:=hD.gr hg nD10
    replace hN0s:=Nat.le_trans hN0s hg.size
    clear hg hsz
    replace hf:=hf.kp [1,2,7,8,10]
    exact⟨q,by omega,D2,i+1,b10,v2,lp2,zs,hL2,hzl,by omega,hDN2,hf,h,B10,n10,hN0s,hD⟩
  ·rw[if_neg hgo] at hL2
   cases hL2
   have hgo':¬i<L2.length:=fun hh=>hgo ⟨hh,hL9⟩
   refine ac 10 hf (by decide +kernel) ?_
   refine st (ld1 (v:=I (i:Nat)) T3 rfl B10 rfl) ?_
   refine st (ld1 (v:=v) T42 rfl h.p7 rfl) ?_
   refine st (bi U42 (isE rfl h.o.sl)) ?_
   refine st ((lss rfl rfl).eq (congrArg Value.bool ((decide_eq_false (by omega):_=false)))) ?_
   refine st (mv rfl) ?_
   refine sn rfl rfl rfl ?_
   refine sn rfl rfl rfl ?_
   refine sn rfl rfl rfl ?_
   refine sn rfl rfl rfl ?_
   refine st (pkF rfl rfl) ?_
   refine en fun a w e' hf=>?_
   replace h:=h.ext e'
   replace B10:=B10.ext e'
   replace hD:=hD.ext e'
   refine aa ?_
   refine ifc hf rfl (fun h=>by cases h) (fun _=>aR ?_)
   simp only[Exit.then,Exit.inBlock,↓reduceIte]
   replace hf:=hf.kp [1,7]
   repeat refine seq ?_
   refine ac 4 hf (by decide +kernel) ?_
   refine st (ld1 (v:=v) T42 rfl h.p7 rfl) ?_
   refine st (bi U42 (isE rfl h.o.sl)) ?_
   refine st (mv rfl) ?_
   refine st ((gtr rfl rfl).eq (congrArg Value.bool ((decide_eq_false (by omega):_=false)))) ?_
   refine en fun a w e' hf=>?_
   replace h:=h.ext e'
   replace B10:=B10.ext e'
   replace hD:=hD.ext e'
   refine aa ?_
   refine ifc hf rfl (fun h=>by cases h) (fun _=>?_)
   refine ar ?_
   simp only[Exit.then,Exit.inBlock,↓reduceIte]
   replace hf:=hf.kp [1,7]
   refine seq ?_
   refine ac 1 hf (by decide +kernel) ?_
   refine st (ld1 (v:=v) T42 rfl h.p7 rfl) ?_
   refine en fun a w e' hf=>?_
   replace h:=h.ext e'
   replace B10:=B10.ext e'
   replace hD:=hD.ext e'
   clear e'
   have hn7:=h.o.neB h.p7 (by decide)
   have hWo:∀b,v.ownBlock=some b→W.heap.size≤b:=fun b hb=>by have:=h.l b hb;have:=d.hi;omega
   refine cq (S:=fun b=>v.ownBlock=some b) (F:=fun z w'=>z=.tuple #[]∧∃zs,zs.Perm L2∧zs.Pairwise (fun S T=>¬T.toNat<S.toNat)∧OwR aX 47 1 G0 w' zs v) hf (by decide) nl ?_ fun a z w4 hc hF hf=>?_
   ·have e1:a.eval (.tmp 60)=v:=hf.opd (.tmp 60) _ rfl
    have e2:a.eval (.func 39)=.func (.func 39) #[] #[]:=rfl
    simp only[List.map_toArray,List.map_cons,List.map_nil,e1,e2]
    exact (sc h.o (by omega)).mono fun en w' ⟨k1,xs',k2,k3,k4,k5⟩=>⟨_,k1,k5,rfl,xs',k2,k3,k4⟩
   obtain⟨rfl,zs,hz1,hz2,Ho⟩:=hF
   have e:=h.e.ch hc hWo
   have B7:=h.p7.ch hc hn7
   replace hD:=hD.ch hc fun dd hd hb=>h.o.neDs hD hd hb
   refine aa ?_
   have hDW:∀dd∈D,W.heap.size≤dd:=fun dd hd=>by have:=hDN dd hd;have:=d.hi;omega
   clear h hc B10
   generalize w4=w at *
   replace hf:=hf.kp [7]
   refine seq ?_
   refine ac 1 hf (by decide +kernel) ?_
   refine st (ld1 (v:=v) T42 rfl B7 rfl) ?_
   refine en fun a w e' hf=>?_
   replace Ho:=Ho.ext e'
   replace e:=e.tr e'
   replace B7:=B7.ext e'
   replace hD:=hD.ext e'
   refine ae hf rfl (by decide) fun a hf=>?_
   refine ae hf rfl (by decide) fun a hf=>?_
   refine aa ?_
   refine an ?_
   exact rT rfl hf rfl rfl hD ⟨_,rfl,e.shut hDW,Tup.two ⟨zs,hz1,hz2,Dv.weak (Dv.ch (Ho.slN (N:=fun b=>b∈D) fun b hb hd=>Ho.neDs hD hd hb) (fR D w) fun b hb=>hb) fun b _ hb=>hb.elim⟩ rfl⟩
def crN (T:BS)(l:List BS):Nat:=(l.filter fun p => !(p &&& T==0)).length
theorem a0Y (T:BS)(l:List BS)(p:BS):crN T (l++[p])=if (p &&& T==0)=true then crN T l else crN T l+1:=by
 rw[crN,List.filter_append,List.length_append,List.filter_cons,List.filter_nil]
 cases h:(p &&& T==0) with
 | true=>rw[if_pos rfl,if_neg (by decide)];rfl
 | false=>rw[if_pos (show (!false)=true from rfl),if_neg (by decide)];rfl
theorem a0Z {G:Nat→Prop}{N:Nat}(g:GT)(ok:Gr.Ok g)(gv:Value)(X T:BS)(W:World)(hT:Tab W)(h:(Dv (ptE (grE N)) G (some g)).p gv W)(hl1:g.1.length≤100000)(hl2:g.2.length≤100000)(hN:N≤1000000)(m K:Nat)(hK:K≤10000)(L:List BS)(hL:cc (nbA g) m K (ai g.1 &&& ~~~X)=some L)(hLl:L.length≤10000) :
  Calls Tryz.prog 92 #[gv,ah X,ah T] W (Post (E (B (decide ((crN T L:Int) > 1)))) W):=by
 have hv:(Dv (ptE (grE N)) G0 (some g)).p gv W:=Dv.weak h fun b _ hb=>hb.elim
 clear h
 have hT0:=hT.lt
 refine enter (args:=[gv,ah X,ah T]) (As:=[E gv,E (ah X),E (ah T)]) Tryz.func92 rfl Tryz.ntmps92 (Nat.le_of_ble_eq_true rfl) ?_ (fun a hf=>?_) (Nat.le_of_ble_eq_true rfl)
 rotate_left
 dsimp only[params,Nat.reduceAdd] at hf
 rotate_right
 ·exact eH rfl rfl rfl
 have e:=Ext.rfl' W
 refine seq ?_
 refine aj ?_
 refine aJ hf rfl (by decide) fun a b4 w v4 hv4 e' hb4 hs4 B4 hf=>?_
 have hle4:=Nat.le_trans e.size (Nat.le_of_eq hb4.symm)
 replace hT:=hT.ext e'
 replace e:=e.tr e'
 clear e'
 refine aJ hf rfl (by decide) fun a b5 w v5 hv5 e' hb5 hs5 B5 hf=>?_
 have hle5:=Nat.le_trans e.size (Nat.le_of_eq hb5.symm)
 have lt5_B4:=B4.lt
 replace hT:=hT.ext e'
 replace e:=e.tr e'
 replace B4:=B4.ext e'
 refine ae hf rfl (by decide) fun a hf=>?_
 refine aa ?_
 cases hv4;cases hv5
 replace B4:Blk w b4 (au X) 47:=B4
 replace B5:Blk w b5 (au T) 47:=B5
 replace hf:=hf.kp [0,4,5]
 refine seq ?_
 refine aj ?_
 refine ae hf rfl (by decide) fun a hf=>?_
 refine aa ?_
 replace hf:=hf.kp [0,4,5,7]
 have e0:=e
 have hT1:=hT
 obtain⟨N1,hN1⟩:∃N1,N1=w.heap.size:=⟨_,rfl⟩
 have hN1s:N1≤w.heap.size:=Nat.le_of_eq hN1
 have l5:b5<N1:=by rw[hN1];exact B5.lt
 have hWN:W.heap.size≤N1:=by rw[hN1];exact e.size
 repeat refine seq ?_
 refine ac 5 hf (by decide +kernel) ?_
 refine st (mv rfl) ?_
 refine st ((ldW T47 rfl B4 rfl).eq ((rfl:_=ah X))) ?_
 refine st (aD (A:=OwA aX 47 N1 G0 L) (B:=E gv) (C:=E (ah X)) ny rfl rfl (fun v u w he k1 k2=>by cases k1;cases k2;rw[hN1];exact (rC g ok gv X w (hT1.ext he) (VA.st _ _ _ _ (Ext.tr e0 he) hv) hl1 hl2 hN m K hK L hL).mono fun en w' ⟨u,k1,k2,k3⟩=>⟨u,k1,k2,OwR.low k3 he.size fun b hb=>hb.elim⟩)) ?_
 refine st (bi U42 ⟨_,rfl,fun v w _ h=>OwR.sl h⟩) ?_
 refine st (mv rfl) ?_
 refine en fun a w e' hf=>?_
 replace hT:=hT.ext e'
 replace hN1s:=Nat.le_trans hN1s e'.size
 replace e:=e.tr e'
 replace B4:=B4.ext e'
 replace B5:=B5.ext e'
 refine aa ?_
 obtain⟨u,Ho,hf⟩:=hf.opn 12 rfl
 replace Ho:OwR aX 47 N1 G0 w L u:=Ho
 clear e0 hT1 hN1
 replace hf:=hf.kp [5,7,12,13,14]
 obtain⟨N2,hN2⟩:∃N2,N2=w.heap.size:=⟨_,rfl⟩
 have HD:(Dv (slE aX) (fun b=>N2≤b) L).p u w:=Ho.slN fun b hb hh=>by have:=(Ho.lt hb).2;omega
 have hN2s:N2≤w.heap.size:=Nat.le_of_eq hN2
 have hWN2:W.heap.size≤N2:=by rw[hN2];exact e.size
 have l52:b5<N2:=by rw[hN2];exact B5.lt
 clear hN2 Ho hT hN1s B4
 replace hf:=hf.kp [5,7,12,13,14]
 refine blk (aW (fun r0 a w=>∃(k:Nat) ,r0=L.length - k∧k≤L.length∧Fr 28 a w [(5,E (ptr b5)),(7,E (I (crN T (L.take k):Nat))),(12,E u),(13,E (I (L.length:Nat))),(14,E (I k))]∧Ext W w∧(Dv (slE aX) (fun b=>N2≤b) L).p u w∧N2≤w.heap.size∧Blk w b5 (au T) 47) L.length ⟨0,rfl,by omega,hf,e,⟨HD,hN2s,B5⟩⟩ ?_)
 clear hf e;try clear HD;try clear hN2s;try clear B5
 rintro r0 a w ⟨k,rfl,hk,hf,e,HD,hN2s,B5⟩
 refine seq ?_
 refine ac 1 hf (by decide +kernel) ?_
 refine st (lss rfl rfl) ?_
 refine en fun a w e' hf=>?_
 replace HD:=VA.st _ _ _ _ e' HD
 replace hN2s:=Nat.le_trans hN2s e'.size
 replace B5:=B5.ext e'
 replace e:=e.tr e'
 refine aa ?_
 refine seq ?_
 refine ifc hf rfl (fun hc=>ar ?_) (fun hc=>aR ?_)
 rotate_left
 rotate_left
 ·have hlt:k<L.length:=by have:=of_decide_eq_true hc;(try dsimp only at this);omega
  clear hc
  replace hf:=hf.kp [5,7,12,13,14]
  refine seq ?_
  refine blk ?_
  have hg:=List.getElem?_eq_getElem hlt
  generalize L[k]=p at hg
  have htk:L.take (k+1)=L.take k++[p]:=dh hg
  have hcl:crN T (L.take k)≤10000:=by
   have h1:crN T (L.take k)≤(L.take k).length:=List.length_filter_le _ _
   have h2:=List.length_take_le k L
   omega
  obtain⟨em,hem⟩:∃em,em=(p &&& T==0):=⟨_,rfl⟩
  have hcr:crN T (L.take (k+1))=if em=true then crN T (L.take k) else crN T (L.take k)+1:=by rw[htk,a0Y,hem]
  obtain⟨c,hc⟩:∃c,c=crN T (L.take k):=⟨_,rfl⟩
  rw[← hc] at hcr hf hcl
  refine seq ?_
  refine aj ?_
  refine aB hf (by decide) (ba U42 S47 (isE rfl HD) rfl (by omega) (hg)) fun a w e' hf=>?_
  replace HD:=VA.st _ _ _ _ e' HD
  replace hN2s:=Nat.le_trans hN2s e'.size
  replace B5:=B5.ext e'
  replace e:=e.tr e'
  clear e'
  refine aB hf (by decide) (ldS T47 (isR rfl)) fun a w e' hf=>?_
  replace HD:=VA.st _ _ _ _ e' HD
  replace hN2s:=Nat.le_trans hN2s e'.size
  replace B5:=B5.ext e'
  replace e:=e.tr e'
  clear e'
  refine aC I47 hf (by decide) fun a b9 w e' hb9 hs9 B9 hf=>?_
  have hle9:=Nat.le_trans e.size (Nat.le_of_eq hb9.symm)
  have lo9_hN2s:=Nat.le_trans hN2s (Nat.le_of_eq hb9.symm)
  replace HD:=VA.st _ _ _ _ e' HD
  replace hN2s:=Nat.le_trans hN2s e'.size
  replace B5:=B5.ext e'
  replace e:=e.tr e'
  clear e'
  have n9:N2≤b9:=lo9_hN2s
  replace hf:=hf.kp [5,7,9,12,13,14,17]
  refine aF T47 hf rfl rfl (aU _) B9 rfl rfl fun w hg' hsz B9 hf=>?_
  replace e:=e.gr hg' (by omega);replace HD:=Dv.gr HD hg' n9;replace hN2s:=Nat.le_trans hN2s hg'.size;replace B5:=B5.gr hg' (by omega)
  clear hg' hsz
  refine aa ?_
  replace hf:=hf.kp [5,7,9,12,13,14]
  have hh0:=hWN2
  cases em with
  | true=>
   rw[if_pos rfl] at hcr
   refine seq ?_
   refine ac 5 hf (by decide +kernel) ?_
   refine st ((ldW T47 rfl B9 rfl).eq ((rfl:_=ah p))) ?_
   refine st ((ldW T47 rfl B5 rfl).eq ((rfl:_=ah T))) ?_
   refine st (aD (A:=E (ah (p &&& T))) (B:=E (ah p)) (C:=E (ah T)) eB rfl rfl (fun v u w he h h'=>by cases h;cases h';exact eJ _ _ w)) ?_
   refine st (aw (A:=E (B true)) (B:=E (ah (p &&& T))) fb rfl (fun v w he h=>by cases h;rw[hem];exact fj _ w)) ?_
   refine st (bj rfl) ?_
   refine en fun a w e' hf=>?_
   replace HD:=VA.st _ _ _ _ e' HD
   replace hN2s:=Nat.le_trans hN2s e'.size
   replace B5:=B5.ext e'
   replace e:=e.tr e'
   replace B9:=B9.ext e'
   refine aa ?_
   refine ifc hf rfl (fun h=>by cases h) (fun _=>?_)
   refine ar ?_
   simp only[Exit.then,Exit.inBlock,↓reduceIte]
   replace hf:=hf.kp [5,7,12,13,14]
   rw[← hcr] at hf
   refine ac 1 hf (by decide +kernel) ?_
   refine st ((add rfl rfl (by omega)).eq (congrArg (Value.int .i64) (show (k:Int)+1=((k+1:Nat):Int) from rfl))) ?_
   refine en fun a w e' hf=>?_
   replace HD:=VA.st _ _ _ _ e' HD
   replace hN2s:=Nat.le_trans hN2s e'.size
   replace B5:=B5.ext e'
   replace e:=e.tr e'
   clear e'
   refine aB hf (by decide) (mv rfl) fun a w e' hf=>?_
   replace HD:=VA.st _ _ _ _ e' HD
   replace hN2s:=Nat.le_trans hN2s e'.size
   replace B5:=B5.ext e'
   replace e:=e.tr e'
   refine aa ?_
   replace hf:=hf.kp [5,7,12,13,14]
   refine⟨_,?_,k+1,rfl,by omega,hf,e,?_⟩
   ·omega
   exact⟨HD,hN2s,B5⟩
  | false=>
   rw[if_neg (by decide)] at hcr
   have hh0:=hWN2
   refine seq ?_
   refine ac 5 hf (by decide +kernel) ?_
   refine st ((ldW T47 rfl B9 rfl).eq ((rfl:_=ah p))) ?_
   refine st ((ldW T47 rfl B5 rfl).eq ((rfl:_=ah T))) ?_
   refine st (aD (A:=E (ah (p &&& T))) (B:=E (ah p)) (C:=E (ah T)) eB rfl rfl (fun v u w he h h'=>by cases h;cases h';exact eJ _ _ w)) ?_
   refine st (aw (A:=E (B false)) (B:=E (ah (p &&& T))) fb rfl (fun v w he h=>by cases h;rw[hem];exact fj _ w)) ?_
   refine st (bj rfl) ?_
   refine en fun a w e' hf=>?_
   replace HD:=VA.st _ _ _ _ e' HD
   replace hN2s:=Nat.le_trans hN2s e'.size
   replace B5:=B5.ext e'
   replace e:=e.tr e'
   replace B9:=B9.ext e'
   refine aa ?_
   refine ifc hf rfl (fun _=>?_) (fun h=>by cases h)
   replace hf:=hf.kp [5,7,12,13,14]
   refine ac 2 hf (by decide +kernel) ?_
   refine st (mv rfl) ?_
   refine st ((add rfl rfl (by omega)).eq (congrArg (Value.int .i64) (show ((c:Nat):Int)+1=((c+1:Nat):Int) from rfl))) ?_
   refine en fun a w e' hf=>?_
   replace HD:=VA.st _ _ _ _ e' HD
   replace hN2s:=Nat.le_trans hN2s e'.size
   replace B5:=B5.ext e'
   replace e:=e.tr e'
   refine ae hf rfl (by decide) fun a hf=>?_
   refine aa ?_
   replace hf:=hf.kp [5,7,12,13,14]
   rw[← hcr] at hf
   simp only[Exit.then,Exit.inBlock,↓reduceIte]
   refine ac 1 hf (by decide +kernel) ?_
   refine st ((add rfl rfl (by omega)).eq (congrArg (Value.int .i64) (show (k:Int)+1=((k+1:Nat):Int) from rfl))) ?_
   refine en fun a w e' hf=>?_
   replace HD:=VA.st _ _ _ _ e' HD
   replace hN2s:=Nat.le_trans hN2s e'.size
   replace B5:=B5.ext e'
   replace e:=e.tr e'
   clear e'
   refine aB hf (by decide) (mv rfl) fun a w e' hf=>?_
   replace HD:=VA.st _ _ _ _ e' HD
   replace hN2s:=Nat.le_trans hN2s e'.size
   replace B5:=B5.ext e'
   replace e:=e.tr e'
   refine aa ?_
   replace hf:=hf.kp [5,7,12,13,14]
   refine⟨_,?_,k+1,rfl,by omega,hf,e,?_⟩
   ·omega
   exact⟨HD,hN2s,B5⟩
 ·obtain rfl:L.length=k:=by have:=of_decide_eq_false hc;(try dsimp only at this);omega
  clear hc
  simp only[Exit.then,Exit.inBlock,↓reduceIte]
  rw[List.take_length] at hf
  replace hf:=hf.kp [7]
  refine seq ?_
  refine ac 2 hf (by decide +kernel) ?_
  refine st (mv rfl) ?_
  refine st (gtr rfl rfl) ?_
  refine en fun a w e' hf=>?_
  replace e:=e.tr e'
  refine ae hf rfl (by decide) fun a hf=>?_
  refine aa ?_
  refine an ?_
  refine az rfl hf rfl ?_
  rintro _ rfl
  exact⟨_,rfl,e,rfl⟩
end Go.Mono
namespace Go.Mono
open Go Go.Proofs Go.RowKit Go.Gr Go.Ms
theorem dz {S:BS}{l:List Nat}(h:elems S=l)(i:Nat):S.getLsbD i=true↔i∈l:=by
 rw[← h,aK]
 exact⟨fun k=>⟨aG k,k⟩,fun k=>k.2⟩
theorem a1a:elems (15#1024)=[0,1,2,3]:=by decide +kernel
theorem so:elems (14#1024)=[1,2,3]:=by decide +kernel
theorem kf:elems (12#1024)=[2,3]:=by decide +kernel
theorem kg:elems (10#1024)=[1,3]:=by decide +kernel
theorem el5:elems (5#1024)=[0,2]:=by decide +kernel
theorem el4:elems (4#1024)=[2]:=by decide +kernel
theorem el0:elems (0#1024)=[]:=by decide +kernel
theorem n40:(nbA (ap 4)) ((0:Nat):Int)=10#1024:=by rw[na4];decide +kernel
theorem n41:(nbA (ap 4)) ((1:Nat):Int)=5#1024:=by rw[na4];decide +kernel
theorem n42:(nbA (ap 4)) ((2:Nat):Int)=10#1024:=by rw[na4];decide +kernel
theorem n43:(nbA (ap 4)) ((3:Nat):Int)=5#1024:=by rw[na4];decide +kernel
theorem c4:card (ai (ap 4).1)=4:=by rw[v4];decide +kernel
theorem dl0:del (15#1024) ((0:Nat):Int)=14#1024:=by decide +kernel
theorem dl1:del (14#1024) ((1:Nat):Int)=12#1024:=by decide +kernel
theorem dl3:del (12#1024) ((3:Nat):Int)=4#1024:=by decide +kernel
theorem dl2:del (4#1024) ((2:Nat):Int)=0#1024:=by decide +kernel
theorem sp:mL (nbA (ap 4)) (ai (ap 4).1) 0=15#1024:=by rw[rs,v4]
theorem iR:mU (nbA (ap 4)) (ai (ap 4).1) 0=0:=by
 rw[mU,sp,bsA,a1a]
 simp[bsF,gQ]
theorem mI:mL (nbA (ap 4)) (ai (ap 4).1) 1=14#1024:=by rw[fB,sp,iR,dl0]
theorem mJ (v:Nat):MR (nbA (ap 4)) (ai (ap 4).1) 0 v↔v=1∨v=3:=by
 constructor
 ·rintro⟨-,h⟩
  rw[iR] at h
  cases h with
  | one h=>
   replace h:((nbA (ap 4)) ((0:Nat):Int)).getLsbD v=true:=h
   rw[n40,dz kg] at h
   simpa using h
  | step _ h _=>
   have:=h.2
   rw[gQ,gQ] at this
   exact absurd this (Nat.lt_irrefl _)
 ·intro h
  refine⟨?_,.one ?_⟩
  ·show (mL (nbA (ap 4)) (ai (ap 4).1) 1).getLsbD v=true
   rw[mI,dz so]
   rcases h with rfl|rfl <;> simp
  ·show ((nbA (ap 4)) (mU (nbA (ap 4)) (ai (ap 4).1) 0:Nat)).getLsbD v=true
   rw[iR,n40,dz kg]
   rcases h with rfl|rfl <;> simp
theorem mK (v:Nat):mC (nbA (ap 4)) (ai (ap 4).1) 1 v=if v=1∨v=3 then 1 else 0:=by
 rw[gR,gQ,Nat.zero_add]
 by_cases h:v=1∨v=3
 ·rw[if_pos h,if_pos (cT.2 ((mJ v).2 h))]
 ·rw[if_neg h,if_neg fun hh=>h ((mJ v).1 (cT.1 hh))]
theorem ki:mU (nbA (ap 4)) (ai (ap 4).1) 1=1:=by
 rw[mU,mI,bsA,so]
 simp[bsF,mK]
theorem kj:mL (nbA (ap 4)) (ai (ap 4).1) 2=12#1024:=by rw[fB,mI,ki,dl1]
theorem mM (v:Nat):MR (nbA (ap 4)) (ai (ap 4).1) 1 v↔v=2∨v=3:=by
 constructor
 ·rintro⟨h,-⟩
  replace h:(mL (nbA (ap 4)) (ai (ap 4).1) 2).getLsbD v=true:=h
  rw[kj,dz kf] at h
  simpa using h
 ·have h2:bO (nbA (ap 4)) (mU (nbA (ap 4)) (ai (ap 4).1) 1) 2:=by
   show ((nbA (ap 4)) (mU (nbA (ap 4)) (ai (ap 4).1) 1:Nat)).getLsbD 2=true
   rw[ki,n41,dz el5];simp
  have l2:∀v,v=2∨v=3→(mL (nbA (ap 4)) (ai (ap 4).1) 2).getLsbD v=true:=fun v h=>by
   rw[kj,dz kf]
   rcases h with rfl|rfl <;> simp
  intro h
  refine⟨l2 v h,?_⟩
  rcases h with rfl|rfl
  ·exact .one h2
  ·refine .step (.one h2) ⟨l2 2 (.inl rfl),by simp[mK]⟩ ?_
   show ((nbA (ap 4)) ((2:Nat):Int)).getLsbD 3=true
   rw[n42,dz kg];simp
theorem a1b (v:Nat):mC (nbA (ap 4)) (ai (ap 4).1) 2 v=mC (nbA (ap 4)) (ai (ap 4).1) 1 v+if v=2∨v=3 then 1 else 0:=by
 rw[gR]
 by_cases h:v=2∨v=3
 ·rw[if_pos h,if_pos (cT.2 ((mM v).2 h))]
 ·rw[if_neg h,if_neg fun hh=>h ((mM v).1 (cT.1 hh))]
theorem km:mU (nbA (ap 4)) (ai (ap 4).1) 2=3:=by
 rw[mU,kj,bsA,kf]
 simp[bsF,a1b,mK]
theorem kn:mL (nbA (ap 4)) (ai (ap 4).1) 3=4#1024:=by rw[fB,kj,km,dl3]
theorem a1c (v:Nat):MR (nbA (ap 4)) (ai (ap 4).1) 2 v↔v=2:=by
 constructor
 ·rintro⟨h,-⟩
  replace h:(mL (nbA (ap 4)) (ai (ap 4).1) 3).getLsbD v=true:=h
  rw[kn,dz el4] at h
  simpa using h
 ·rintro rfl
  refine⟨?_,.one ?_⟩
  ·show (mL (nbA (ap 4)) (ai (ap 4).1) 3).getLsbD 2=true
   rw[kn,dz el4];simp
  ·show ((nbA (ap 4)) (mU (nbA (ap 4)) (ai (ap 4).1) 2:Nat)).getLsbD 2=true
   rw[km,n43,dz el5];simp
theorem mN:mU (nbA (ap 4)) (ai (ap 4).1) 3=2:=by
 rw[mU,kn,bsA,el4]
 simp[bsF]
theorem a1d:mL (nbA (ap 4)) (ai (ap 4).1) 4=0#1024:=by rw[fB,kn,mN,dl2]
theorem a1e (v:Nat):¬MR (nbA (ap 4)) (ai (ap 4).1) 3 v:=fun⟨h,_⟩=>by
 replace h:(mL (nbA (ap 4)) (ai (ap 4).1) 4).getLsbD v=true:=h
 rw[a1d,dz el0] at h
 cases h
theorem m4o:((List.range (card (ai (ap 4).1))).map fun i=>(mU (nbA (ap 4)) (ai (ap 4).1) i:Int)).reverse=[2,3,1,0]:=by
 rw[c4]
 show [(mU (nbA (ap 4)) (ai (ap 4).1) 3:Int),(mU (nbA (ap 4)) (ai (ap 4).1) 2:Int),(mU (nbA (ap 4)) (ai (ap 4).1) 1:Int),(mU (nbA (ap 4)) (ai (ap 4).1) 0:Int)]=_
 rw[iR,ki,km,mN];rfl
theorem mRe {k:Nat}{S:BS}{l:List Nat}(he:elems S=l)(h:∀v,MR (nbA (ap 4)) (ai (ap 4).1) k v↔v∈l):mR (nbA (ap 4)) (ai (ap 4).1) k=S:=bI fun i=>by rw[cT,h,dz he]
theorem d10:elems (10#1024 &&& ~~~10#1024)=[]:=by decide +kernel
theorem d12:elems (12#1024 &&& ~~~5#1024)=[3]:=by decide +kernel
theorem d4:elems (4#1024 &&& ~~~5#1024)=[]:=by decide +kernel
theorem d0:elems (0#1024 &&& ~~~10#1024)=[]:=by decide +kernel
theorem m4f:flL (nbA (ap 4)) (ai (ap 4).1) (card (ai (ap 4).1))=[(1,3)]:=by
 have r0:=mRe (k:=0) kg fun v=>(mJ v).trans (by simp)
 have r1:=mRe (k:=1) kf fun v=>(mM v).trans (by simp)
 have r2:=mRe (k:=2) el4 fun v=>(a1c v).trans (by simp)
 have r3:=mRe (k:=3) el0 fun v=>⟨fun h=>absurd h (a1e v),fun h=>by cases h⟩
 have f0:flP (nbA (ap 4)) (ai (ap 4).1) 0=[]:=by rw[flP,r0,iR,n40,d10];rfl
 have f1:flP (nbA (ap 4)) (ai (ap 4).1) 1=[(1,3)]:=by rw[flP,r1,ki,n41,d12];rfl
 have f2:flP (nbA (ap 4)) (ai (ap 4).1) 2=[]:=by rw[flP,r2,km,n43,d4];rfl
 have f3:flP (nbA (ap 4)) (ai (ap 4).1) 3=[]:=by rw[flP,r3,mN,n42,d0];rfl
 rw[c4,gT,gT,gT,gT,f0,f1,f2,f3];rfl
def mO (o:Option (List BS)):Bool:=match o with
 | some L=>decide (L.length≤10)
 | none=>false
theorem a1f {o:Option (List BS)}(h:mO o=true):∃L,o=some L∧L.length≤10:=by
 cases o with
 | none=>cases h
 | some L=>exact⟨L,rfl,of_decide_eq_true h⟩
def sq (n:Nat):Bool:=mO (cc (lkS l4) 8 8 (BitVec.ofNat 1024 n))
theorem a1g (n:Nat):sq n=mO (cc (lkS l4) 8 8 (BitVec.ofNat 1024 n)):=rfl
theorem a1h:(List.range 16).all sq=true:=by decide +kernel
theorem a1i {f:Nat→Bool}{m:Nat}(h:(List.range m).all f=true){n:Nat}(hn:n<m):f n=true:=List.all_eq_true.1 h n (List.mem_range.2 hn)
theorem ofT (R:BS):BitVec.ofNat 1024 R.toNat=R:=by rw[BitVec.ofNat_toNat,BitVec.setWidth_eq]
theorem a1j (R:BS)(h15:R.toNat≤15):∃L,cc (lkS l4) 8 8 R=some L∧L.length≤10:=by
 have h:=a1i a1h (Nat.lt_succ_of_le h15)
 rw[a1g,ofT] at h
 exact a1f h
theorem a1k {α:Type}{ys:List α}(h:ys.length=2):∃a b,ys=[a,b]:=by
 match ys,h with
 | [a,b],_=>exact⟨a,b,rfl⟩
theorem a1l:(15#1024:BS).toNat=15:=by decide +kernel
theorem a1m (A Y:BS):(A &&& Y).toNat≤A.toNat:=by
 rw[BitVec.toNat_and]
 exact Nat.and_le_left
theorem a1n (Y:BS):(15#1024 &&& Y).toNat≤15:=by
 have:=a1m (15#1024) Y
 rwa [a1l] at this
theorem a1o (X:BS):∃L,cc (nbA (ap 4)) 8 8 ((ai (ap 4).1) &&& ~~~X)=some L∧L.length≤10:=by
 rw[na4,v4]
 exact a1j _ (a1n _)
theorem a1p:fG (lkS l4) 8 8 15#1024 12 0 (dy (lkS l4) 8 8 15#1024 (elems 15#1024))=some [10#1024,5#1024]:=by decide +kernel
theorem sp4:fG (nbA (ap 4)) 8 8 (ai (ap 4).1) 12 0 (dy (nbA (ap 4)) 8 8 (ai (ap 4).1) (elems (ai (ap 4).1)))=some [10#1024,5#1024]:=by rw[na4,v4];exact a1p
theorem a1q:cc (lkS l4) 8 8 (15#1024 &&& ~~~5#1024)=some [2#1024,8#1024]:=by decide +kernel
theorem cr4:cc (nbA (ap 4)) 8 8 ((ai (ap 4).1) &&& ~~~5#1024)=some [2#1024,8#1024]:=by rw[na4,v4];exact a1q
theorem a1r:(decide ((crN 10#1024 [2#1024,8#1024]:Int) > 1))=true:=by decide +kernel
theorem a1s:(10#1024:BS).toNat=10:=by decide +kernel
theorem a1t:(5#1024:BS).toNat=5:=by decide +kernel
theorem a1u {x y:BS}(hxy:y.toNat<x.toNat){ys:List BS}(h:ys.Perm [x,y])(hp:ys.Pairwise fun S T=>¬T.toNat<S.toNat):ys=[y,x]:=by
 have hne:x≠y:=fun e=>by rw[e] at hxy;exact Nat.lt_irrefl _ hxy
 obtain⟨a,b,rfl⟩:=a1k (show ys.length=2 from h.length_eq)
 have ha':=(h.mem_iff (a:=a)).1 (List.mem_cons_self ..)
 have hy:=(h.mem_iff (a:=y)).2 (by simp)
 have hx:=(h.mem_iff (a:=x)).2 (by simp)
 have hab:¬b.toNat<a.toNat:=(List.pairwise_cons.1 hp).1 b (List.mem_singleton.2 rfl)
 simp only[List.mem_cons,List.not_mem_nil,or_false] at ha' hy hx
 rcases ha' with rfl|rfl
 ·rcases hy with hy|hy
  ·exact absurd hy.symm hne
  ·rw[← hy] at hab;exact absurd hxy hab
 ·rcases hx with hx|hx
  ·exact absurd hx hne
  ·rw[hx]
theorem a1v {ys:List BS}(h:ys.Perm [10#1024,5#1024])(hp:ys.Pairwise fun S T=>¬T.toNat<S.toNat):ys=[5#1024,10#1024]:=a1u (by rw[a1s,a1t];omega) h hp
theorem a1w (w:World):(Op.equal 36 (etV ((1,3),(0,0))) (etV ((1,3),(0,0)))).run Tryz.prog w=.ok true w:=by kernel_rfl
end Go.Mono
namespace Go.Mono
open Go Go.Proofs Go.RowKit Go.Ms
def wyI (bw:Nat):Value:=.iface 134 (ptr bw)
theorem sr {bw:Nat} {v:Value} {w0:World} (h:Blk w0 bw #[v] 136):Mth Tryz.prog 134 (ptr bw) v "Len" 96 w0:=mB (by kernel_rfl) fM dB kN h
theorem iS {bw:Nat} {v:Value} {w0:World} (h:Blk w0 bw #[v] 136):Mth Tryz.prog 134 (ptr bw) v "Less" 173 w0:=mB (by kernel_rfl) fM dB ut h
theorem mP {bw:Nat} {v:Value} {w0:World} (h:Blk w0 bw #[v] 136):Mth Tryz.prog 134 (ptr bw) v "Swap" 176 w0:=mB (by kernel_rfl) fM dB uw h
theorem a1x (bw:Nat) (w0:World):Mth Tryz.prog 134 (ptr bw) (ptr bw) "Push" 175 w0:=rL (by kernel_rfl) fM uv
theorem a1y (bw:Nat) (w0:World):Mth Tryz.prog 134 (ptr bw) (ptr bw) "Pop" 174 w0:=rL (by kernel_rfl) fM uu
theorem HpW.swap {bw i k:Nat}{v:Value}{xs:List (Int×Nat)}{w w':World}(h:HpW bw v xs w)(hc:Chg (fun b=>v.ownBlock=some b) w w')(ho:OwR wyE 139 1 G0 w' (swp xs i k) v):HpW bw v (swp xs i k) w':=⟨h.p.ch hc h.ne,ho⟩
theorem ss {xs:List (Int×Nat)}{i j:Nat}(hi:i<xs.length)(hj:j<xs.length):cst (swp xs i j)=swc (cst xs) i j:=funext (rJ hi hj)
theorem a1z {w0:World}{L:Env}{dst:Option Tmp}{ty t yt:TypeId}{pos:String}{aft:Array Edge}{g:Option (Nat×Bool)}{x y:Operand}(hx:opd L x=some (E (I (-1))))(hy:opd L y=some (E (I 2))):OpC Tryz.prog w0 L ⟨dst,.binOp .quo t x y yt,ty,pos,aft,g⟩ (E (I 0)):=by
 refine bW ?_ hx hy
 rfl
theorem a1A (xs:List (Int×Nat))(j:Nat)(bw:Nat)(v:Value)(W:World)(H:HpW bw v xs W)(hj:j<xs.length)(hU:UpI xs.length (cst xs) j)(hl:xs.length≤100000000) :
  Calls Tryz.prog 129 #[wyI bw,I (j:Nat)] W (fun en w'=>en=.returned (.tuple #[])∧∃ys,Chg (HpS bw v) W w'∧HpW bw v ys w'∧ys.length=xs.length∧(∀e,e∈ys↔e∈xs)∧HpC xs.length (cst ys)):=by
 refine enter (args:=[wyI bw,I (j:Nat)]) (As:=[E (wyI bw),E (I (j:Nat))]) Tryz.func129 rfl Tryz.ntmps129 (Nat.le_of_ble_eq_true rfl) ?_ (fun a hf=>?_) (Nat.le_of_ble_eq_true rfl)
 rotate_left
 dsimp only[params,Nat.reduceAdd] at hf
 rotate_right
 ·exact arg2 rfl rfl
 have c:Chg (HpS bw v) W W:=Chg.rfl' _ _
 obtain⟨n,hn⟩:∃n,n=xs.length:=⟨_,rfl⟩
 rw[← hn] at hj hU hl ⊢
 refine blk (aW (fun r0 a w=>∃(ys:List (Int×Nat)) (j:Nat),j≤r0∧j<n∧UpI n (cst ys) j∧ys.length=n∧(∀e,e∈ys↔e∈xs)∧Fr 23 a w [(0,E (wyI bw)),(1,E (I (j:Nat)))]∧Chg (HpS bw v) W w∧HpW bw v ys w) j ⟨xs,j,Nat.le_refl _,hj,hU,hn.symm,fun e=>Iff.rfl,hf,c,H⟩ ?_)
 clear hf c H hU hj
 rintro r0 a w ⟨ys,j,hr0,hj,hU,hys,hmem,hf,c,H⟩
 refine blk ?_
 rcases Nat.eq_zero_or_pos j with h0|h0
 ·obtain rfl:=h0
  refine seq ?_
  refine ac 3 hf (by decide +kernel) ?_
  refine st (mv rfl) ?_
  refine st ((sub rfl rfl (by omega)).eq ((rfl:_=I (-1)))) ?_
  refine st (a1z rfl rfl) ?_
  refine en fun a w e' hf=>?_
  replace H:=H.ext e'
  replace c:=c.ext e'
  refine ae hf rfl (by decide) fun a hf=>?_
  refine aa ?_
  repeat refine seq ?_
  refine ac 10 hf (by decide +kernel) ?_
  refine st (mv rfl) ?_
  refine st (mv rfl) ?_
  refine st ((eql rfl rfl).eq (congrArg Value.bool ((show decide ((0:Int)=0)=true from rfl)))) ?_
  refine st (mv rfl) ?_
  refine sn rfl rfl rfl ?_
  refine sn rfl rfl rfl ?_
  refine sn rfl rfl rfl ?_
  refine sn rfl rfl rfl ?_
  refine sn rfl rfl rfl ?_
  refine st (pkT rfl rfl) ?_
  refine en fun a w e' hf=>?_
  replace H:=H.ext e'
  replace c:=c.ext e'
  refine aa ?_
  refine ifc hf rfl (fun _=>aR ?_) (fun h=>by cases h)
  simp only[Exit.then,Exit.inBlock,↓reduceIte]
  rw[if_neg (show ¬(0:Nat)=1 by decide)]
  exact db rfl hf ⟨rfl,ys,c,H,hys,hmem,hU.stop (.inl rfl)⟩
 ·have hi:(j - 1) / 2<n:=by omega
  obtain⟨i,hij⟩:∃i,i=(j - 1) / 2:=⟨_,rfl⟩
  rw[← hij] at hi
  have hne:decide (((i:Nat):Int)=((j:Nat):Int))=false:=decide_eq_false (by omega)
  refine seq ?_
  refine ac 3 hf (by decide +kernel) ?_
  refine st (mv rfl) ?_
  refine st ((sub rfl rfl (by omega)).eq (congrArg (Value.int .i64) (show ((j:Nat):Int) - 1=((j - 1:Nat):Int) by omega))) ?_
  refine st ((quo rfl rfl (by omega)).eq (congrArg (Value.int .i64) (show ((j - 1:Nat):Int) / 2=((i:Nat):Int) by omega))) ?_
  refine en fun a w e' hf=>?_
  replace H:=H.ext e'
  replace c:=c.ext e'
  refine ae hf rfl (by decide) fun a hf=>?_
  refine aa ?_
  by_cases hlt:cst ys j<cst ys i
  ·repeat refine seq ?_
   refine ac 10 hf (by decide +kernel) ?_
   refine st (mv rfl) ?_
   refine st (mv rfl) ?_
   refine st ((eql rfl rfl).eq (congrArg Value.bool (hne))) ?_
   refine st (mv rfl) ?_
   refine sy rfl rfl (mv rfl) ?_
   refine sy rfl rfl (mv rfl) ?_
   refine sy rfl rfl (mv rfl) ?_
   refine sy rfl rfl (iN (A:=E (B true)) (B:=E (I (j:Nat))) (C:=E (I (i:Nat))) (iS H.p) rfl rfl rfl (fun a b w he h1 h2=>by cases h1;cases h2;have:=iP ys j i v w (H.o.ext he) (by omega) (by omega);rwa [decide_eq_true hlt] at this)) ?_
   refine sy rfl rfl (bj rfl) ?_
   refine st (pkF rfl rfl) ?_
   refine en fun a w e' hf=>?_
   replace H:=H.ext e'
   replace c:=c.ext e'
   refine aa ?_
   refine ifc hf rfl (fun h=>by cases h) (fun _=>ar ?_)
   simp only[Exit.then,Exit.inBlock,↓reduceIte]
   replace hf:=hf.kp [0,1,4]
   refine seq ?_
   refine ac 3 hf (by decide +kernel) ?_
   refine st (mv rfl) ?_
   refine st (mv rfl) ?_
   refine st (mv rfl) ?_
   refine en fun a w e' hf=>?_
   replace H:=H.ext e'
   replace c:=c.ext e'
   clear e'
   refine iO (S:=fun b=>v.ownBlock=some b) (F:=fun z w'=>OwR wyE 139 1 G0 w' (swp ys i j) v) hf (by decide) (mP H.p) rfl ?_ fun a z w hc hF hf=>?_
   ·have e1:a.eval (.tmp 19)=I (i:Nat):=hf.opd (.tmp 19) _ rfl
    have e2:a.eval (.tmp 20)=I (j:Nat):=hf.opd (.tmp 20) _ rfl
    simp only[List.map_toArray,List.map_cons,List.map_nil,e1,e2]
    exact (mF ys i j v w H.o (by omega) (by omega)).mono fun en w' ⟨k1,k2,k3⟩=>⟨_,k1,k2,k3⟩
   replace H:=H.swap hc hF
   replace c:=c.tr (hc.to (S':=HpS bw v) fun b _ h=>.inr h)
   clear hc hF
   refine aa ?_
   replace hf:=hf.kp [0,1,4]
   refine ac 1 hf (by decide +kernel) ?_
   refine st (mv rfl) ?_
   refine en fun a w e' hf=>?_
   replace H:=H.ext e'
   replace c:=c.ext e'
   refine ae hf rfl (by decide) fun a hf=>?_
   refine aa ?_
   simp only[Exit.inBlock]
   replace hf:=hf.kp [0,1]
   obtain⟨f,rfl⟩:∃f,r0=f+1:=⟨r0 - 1,by omega⟩
   refine⟨f,Nat.lt_succ_self _,swp ys i j,i,by omega,hi,?_,by rw[fE,hys],fun e=>(mA (by omega) (by omega) e).trans (hmem e),hf,c,H⟩
   rw[ss (by omega) (by omega)]
   exact hU.go h0 hj hij hlt
  ·repeat refine seq ?_
   refine ac 10 hf (by decide +kernel) ?_
   refine st (mv rfl) ?_
   refine st (mv rfl) ?_
   refine st ((eql rfl rfl).eq (congrArg Value.bool (hne))) ?_
   refine st (mv rfl) ?_
   refine sy rfl rfl (mv rfl) ?_
   refine sy rfl rfl (mv rfl) ?_
   refine sy rfl rfl (mv rfl) ?_
   refine sy rfl rfl (iN (A:=E (B false)) (B:=E (I (j:Nat))) (C:=E (I (i:Nat))) (iS H.p) rfl rfl rfl (fun a b w he h1 h2=>by cases h1;cases h2;have:=iP ys j i v w (H.o.ext he) (by omega) (by omega);rwa [decide_eq_false hlt] at this)) ?_
   refine sy rfl rfl (bj rfl) ?_
   refine st (pkF rfl rfl) ?_
   refine en fun a w e' hf=>?_
   replace H:=H.ext e'
   replace c:=c.ext e'
   refine aa ?_
   refine ifc hf rfl (fun _=>aR ?_) (fun h=>by cases h)
   simp only[Exit.then,Exit.inBlock,↓reduceIte]
   rw[if_neg (show ¬(0:Nat)=1 by decide)]
   exact db rfl hf ⟨rfl,ys,c,H,hys,hmem,hU.stop (.inr (by rw[← hij];exact hlt))⟩
theorem a1B (xs:List (Int×Nat))(n:Nat)(bw:Nat)(v:Value)(W:World)(H:HpW bw v xs W)(hn:n≤xs.length)(hU:DnI n (cst xs) 0)(hl:xs.length≤100000000) :
  Calls Tryz.prog 130 #[wyI bw,I 0,I (n:Nat)] W (fun en w'=>∃b ys,en=.returned (B b)∧Chg (HpS bw v) W w'∧HpW bw v ys w'∧ys.length=xs.length∧(∀e,e∈ys↔e∈xs)∧HpC n (cst ys)∧∀k,n≤k→ys.getD k (0,0)=xs.getD k (0,0)):=by
 refine enter (args:=[wyI bw,I 0,I (n:Nat)]) (As:=[E (wyI bw),E (I 0),E (I (n:Nat))]) Tryz.func130 rfl Tryz.ntmps130 (Nat.le_of_ble_eq_true rfl) ?_ (fun a hf=>?_) (Nat.le_of_ble_eq_true rfl)
 rotate_left
 dsimp only[params,Nat.reduceAdd] at hf
 rotate_right
 ·exact eH rfl rfl rfl
 have c:Chg (HpS bw v) W W:=Chg.rfl' _ _
 obtain⟨m,hm⟩:∃m,m=xs.length:=⟨_,rfl⟩
 rw[← hm] at hn hl ⊢
 refine seq ?_
 refine aj ?_
 refine ae hf rfl (by decide) fun a hf=>?_
 refine aa ?_
 refine seq ?_
 refine ac 1 hf (by decide +kernel) ?_
 refine st (mv rfl) ?_
 refine en fun a w e' hf=>?_
 replace H:=H.ext e'
 replace c:=c.ext e'
 refine ae hf rfl (by decide) fun a hf=>?_
 refine aa ?_
 replace hf:=hf.kp [0,1,2,6,7]
 replace hf:=hf.upd 7 rfl (B:=E (I ((0:Nat):Int))) fun v h=>h
 replace hf:=hf.kp [0,1,2,6,7]
 refine seq ?_
 refine cut (J:=fun a w=>∃(ys:List (Int×Nat)) (i:Nat),HpC n (cst ys)∧ys.length=m∧(∀e,e∈ys↔e∈xs)∧(∀k,n≤k→ys.getD k (0,0)=xs.getD k (0,0))∧Fr 48 a w [(1,E (I 0)),(7,E (I (i:Nat)))]∧Chg (HpS bw v) W w∧HpW bw v ys w) ?_ (fun a w hJ=>?_)
 rotate_left
 ·clear hf c H hU
  obtain⟨ys,i,hC,hys,hmem,hgt,hf,c,H⟩:=hJ
  simp only[Exit.then]
  refine seq ?_
  refine ac 3 hf (by decide +kernel) ?_
  refine st (mv rfl) ?_
  refine st (mv rfl) ?_
  refine st (gtr rfl rfl) ?_
  refine en fun a w e' hf=>?_
  replace H:=H.ext e'
  replace c:=c.ext e'
  refine ae hf rfl (by decide) fun a hf=>?_
  refine aa ?_
  refine an ?_
  refine az rfl hf rfl ?_
  rintro _ rfl
  exact⟨_,ys,rfl,c,H,hys,hmem,hC,hgt⟩
 refine blk (aW (fun r0 a w=>∃(ys:List (Int×Nat)) (i:Nat),n≤r0+i∧DnI n (cst ys) i∧ys.length=m∧(∀e,e∈ys↔e∈xs)∧(∀k,n≤k→ys.getD k (0,0)=xs.getD k (0,0))∧i≤m∧Fr 48 a w [(0,E (wyI bw)),(1,E (I 0)),(2,E (I (n:Nat))),(7,E (I (i:Nat)))]∧Chg (HpS bw v) W w∧HpW bw v ys w) n ⟨xs,0,Nat.le_refl _,hU,hm.symm,fun e=>Iff.rfl,fun k _=>rfl,Nat.zero_le _,hf.keep [0,1,2,7],c,H⟩ ?_)
 clear hf c H hU
 rintro r0 a w ⟨ys,i,hr0,hU,hys,hmem,hgt,him,hf,c,H⟩
 refine blk ?_
 refine seq ?_
 refine ac 3 hf (by decide +kernel) ?_
 refine st (mv rfl) ?_
 refine st (mul rfl rfl (by omega)) ?_
 refine st ((add rfl rfl (by omega)).eq (congrArg (Value.int .i64) (show (2:Int) * ((i:Nat):Int)+1=((2 * i+1:Nat):Int) by omega))) ?_
 refine en fun a w e' hf=>?_
 replace H:=H.ext e'
 replace c:=c.ext e'
 refine ae hf rfl (by decide) fun a hf=>?_
 refine aa ?_
 by_cases h1:2 * i+1<n
 rotate_left
 ·repeat refine seq ?_
  refine ac 7 hf (by decide +kernel) ?_
  refine st (mv rfl) ?_
  refine st (mv rfl) ?_
  refine st ((geq rfl rfl).eq (congrArg Value.bool ((decide_eq_true (by omega):_=true)))) ?_
  refine st (mv rfl) ?_
  refine sn rfl rfl rfl ?_
  refine sn rfl rfl rfl ?_
  refine st (pkT rfl rfl) ?_
  refine en fun a w e' hf=>?_
  replace H:=H.ext e'
  replace c:=c.ext e'
  refine aa ?_
  refine ifc hf rfl (fun _=>aR ?_) (fun h=>by cases h)
  simp only[Exit.then,Exit.inBlock,↓reduceIte]
  rw[if_neg (show ¬(0:Nat)=1 by decide)]
  exact⟨trivial,ys,i,hU.stop fun k hk k0 hp=>by omega,hys,hmem,hgt,hf.keep [1,7],c,H⟩
 obtain⟨r0,rfl⟩:∃f,r0=f+1:=⟨r0 - 1,by omega⟩
 repeat refine seq ?_
 refine ac 7 hf (by decide +kernel) ?_
 refine st (mv rfl) ?_
 refine st (mv rfl) ?_
 refine st ((geq rfl rfl).eq (congrArg Value.bool ((decide_eq_false (by omega):_=false)))) ?_
 refine st (mv rfl) ?_
 refine sy rfl rfl (mv rfl) ?_
 refine sy rfl rfl ((lss rfl rfl).eq (congrArg Value.bool ((decide_eq_false (by omega):_=false)))) ?_
 refine st (pkF rfl rfl) ?_
 refine en fun a w e' hf=>?_
 replace H:=H.ext e'
 replace c:=c.ext e'
 refine aa ?_
 refine ifc hf rfl (fun h=>by cases h) (fun _=>ar ?_)
 simp only[Exit.then,Exit.inBlock,↓reduceIte]
 replace hf:=hf.kp [0,1,2,7,8]
 refine seq ?_
 refine ac 1 hf (by decide +kernel) ?_
 refine st (mv rfl) ?_
 refine en fun a w e' hf=>?_
 replace H:=H.ext e'
 replace c:=c.ext e'
 refine ae hf rfl (by decide) fun a hf=>?_
 refine aa ?_
 repeat refine seq ?_
 refine ac 2 hf (by decide +kernel) ?_
 refine st (mv rfl) ?_
 refine st ((add rfl rfl (by omega)).eq (congrArg (Value.int .i64) (show ((2 * i+1:Nat):Int)+1=((2 * i+2:Nat):Int) by omega))) ?_
 refine en fun a w e' hf=>?_
 replace H:=H.ext e'
 replace c:=c.ext e'
 refine ae hf rfl (by decide) fun a hf=>?_
 refine aa ?_
 replace hf:=hf.kp [0,1,2,7,8,9,10]
 obtain⟨q,hq⟩:∃q,q=decide (2 * i+2<n∧cst ys (2 * i+2)<cst ys (2 * i+1)):=⟨_,rfl⟩
 refine seq ?_
 refine cut (J:=fun a w=>Fr 48 a w [(0,E (wyI bw)),(1,E (I 0)),(2,E (I (n:Nat))),(7,E (I (i:Nat))),(8,E (I ((2 * i+1:Nat):Int))),(9,E (I ((2 * i+1:Nat):Int))),(10,E (I ((2 * i+2:Nat):Int))),(33,E (B q))]∧Chg (HpS bw v) W w∧HpW bw v ys w) ?_ (fun a w hJ=>?_)
 ·by_cases h2:2 * i+2<n
  ·have hqq:q=decide (cst ys (2 * i+2)<cst ys (2 * i+1)):=by
    rw[hq]
    by_cases h3:cst ys (2 * i+2)<cst ys (2 * i+1)
    ·rw[decide_eq_true h3,decide_eq_true ⟨h2,h3⟩]
    ·rw[decide_eq_false h3,decide_eq_false fun h=>h3 h.2]
   refine ac 9 hf (by decide +kernel) ?_
   refine st (mv rfl) ?_
   refine st (mv rfl) ?_
   refine st ((lss rfl rfl).eq (congrArg Value.bool ((decide_eq_true (by omega):_=true)))) ?_
   refine st (mv rfl) ?_
   refine sy rfl rfl (mv rfl) ?_
   refine sy rfl rfl (mv rfl) ?_
   refine sy rfl rfl (mv rfl) ?_
   refine sy rfl rfl (iN (A:=E (B q)) (B:=E (I ((2 * i+2:Nat):Int))) (C:=E (I ((2 * i+1:Nat):Int))) (iS H.p) rfl rfl rfl (fun a b w he h1 h2=>by cases h1;cases h2;have:=iP ys (2 * i+2) (2 * i+1) v w (H.o.ext he) (by omega) (by omega);rwa [← hqq] at this)) ?_
   refine st (pkT rfl rfl) ?_
   refine en fun a w e' hf=>?_
   replace H:=H.ext e'
   replace c:=c.ext e'
   refine aa ?_
   replace hf:=hf.kp [0,1,2,7,8,9,10,33]
   exact⟨rfl,hf,c,H⟩
  ·have hqq:false=q:=by rw[hq,decide_eq_false fun h=>h2 h.1]
   refine ac 9 hf (by decide +kernel) ?_
   refine st (mv rfl) ?_
   refine st (mv rfl) ?_
   refine st ((lss rfl rfl).eq (congrArg Value.bool ((decide_eq_false (by omega):_=false)))) ?_
   refine st (mv rfl) ?_
   refine sn rfl rfl rfl ?_
   refine sn rfl rfl rfl ?_
   refine sn rfl rfl rfl ?_
   refine sn rfl rfl rfl ?_
   refine st (pkF rfl rfl) ?_
   refine en fun a w e' hf=>?_
   replace H:=H.ext e'
   replace c:=c.ext e'
   refine aa ?_
   replace hf:=hf.kp [0,1,2,7,8,9,10,33]
   rw[hqq] at hf
   exact⟨rfl,hf,c,H⟩
 clear hf c H
 obtain⟨hf,c,H⟩:=hJ
 simp only[Exit.then]
 refine cut (J:=fun a w=>∃j:Nat,j<n∧0<j∧(j - 1) / 2=i∧(∀k,k<n→0<k→(k - 1) / 2=i→cst ys j≤cst ys k)∧Fr 48 a w [(0,E (wyI bw)),(1,E (I 0)),(2,E (I (n:Nat))),(7,E (I (i:Nat))),(9,E (I (j:Nat)))]∧Chg (HpS bw v) W w∧HpW bw v ys w) ?_ (fun a w hJ=>?_)
 ·refine ifc hf rfl (fun hb=>?_) (fun hb=>?_)
  ·replace hb:q=true:=hb
   rw[hq] at hb
   obtain⟨h2,h3⟩:=of_decide_eq_true hb
   refine ac 1 hf (by decide +kernel) ?_
   refine st (mv rfl) ?_
   refine en fun a w e' hf=>?_
   replace H:=H.ext e'
   replace c:=c.ext e'
   refine ae hf rfl (by decide) fun a hf=>?_
   refine aa ?_
   replace hf:=hf.kp [0,1,2,7,9]
   refine⟨rfl,2 * i+2,h2,by omega,by omega,fun k hk k0 hp=>?_,hf,c,H⟩
   rcases (show k=2 * i+1∨k=2 * i+2 by omega) with rfl|rfl
   ·omega
   ·exact Int.le_refl _
  ·replace hb:q=false:=hb
   rw[hq] at hb
   have h3:=of_decide_eq_false hb
   refine ar ?_
   replace hf:=hf.kp [0,1,2,7,9]
   refine⟨rfl,2 * i+1,h1,by omega,by omega,fun k hk k0 hp=>?_,hf,c,H⟩
   rcases (show k=2 * i+1∨k=2 * i+2 by omega) with rfl|rfl
   ·exact Int.le_refl _
   ·exact Int.not_lt.1 fun h=>h3 ⟨hk,h⟩
 clear hf c H hq
 obtain⟨j,hj,j0,hji,hmin,hf,c,H⟩:=hJ
 simp only[Exit.then]
 have hijn:i≠j:=by omega
 by_cases hlt:cst ys j<cst ys i
 ·repeat refine seq ?_
  refine ac 5 hf (by decide +kernel) ?_
  refine st (mv rfl) ?_
  refine st (mv rfl) ?_
  refine st (mv rfl) ?_
  refine st (iN (A:=E (B true)) (B:=E (I (j:Nat))) (C:=E (I (i:Nat))) (iS H.p) rfl rfl rfl (fun a b w he h1 h2=>by cases h1;cases h2;have:=iP ys j i v w (H.o.ext he) (by omega) (by omega);rwa [decide_eq_true hlt] at this)) ?_
  refine st (bj rfl) ?_
  refine en fun a w e' hf=>?_
  replace H:=H.ext e'
  replace c:=c.ext e'
  refine aa ?_
  refine ifc hf rfl (fun h=>by cases h) (fun _=>ar ?_)
  simp only[Exit.then,Exit.inBlock,↓reduceIte]
  replace hf:=hf.kp [0,1,2,7,9]
  refine seq ?_
  refine ac 3 hf (by decide +kernel) ?_
  refine st (mv rfl) ?_
  refine st (mv rfl) ?_
  refine st (mv rfl) ?_
  refine en fun a w e' hf=>?_
  replace H:=H.ext e'
  replace c:=c.ext e'
  clear e'
  refine iO (S:=fun b=>v.ownBlock=some b) (F:=fun z w'=>OwR wyE 139 1 G0 w' (swp ys i j) v) hf (by decide) (mP H.p) rfl ?_ fun a z w hc hF hf=>?_
  ·have e1:a.eval (.tmp 41)=I (i:Nat):=hf.opd (.tmp 41) _ rfl
   have e2:a.eval (.tmp 42)=I (j:Nat):=hf.opd (.tmp 42) _ rfl
   simp only[List.map_toArray,List.map_cons,List.map_nil,e1,e2]
   exact (mF ys i j v w H.o (by omega) (by omega)).mono fun en w' ⟨k1,k2,k3⟩=>⟨_,k1,k2,k3⟩
  replace H:=H.swap hc hF
  replace c:=c.tr (hc.to (S':=HpS bw v) fun b _ h=>.inr h)
  clear hc hF
  refine aa ?_
  replace hf:=hf.kp [0,1,2,9]
  refine ac 1 hf (by decide +kernel) ?_
  refine st (mv rfl) ?_
  refine en fun a w e' hf=>?_
  replace H:=H.ext e'
  replace c:=c.ext e'
  refine ae hf rfl (by decide) fun a hf=>?_
  refine aa ?_
  simp only[Exit.inBlock]
  replace hf:=hf.kp [0,1,2,7]
  refine⟨r0,Nat.lt_succ_self _,swp ys i j,j,by omega,?_,by rw[fE,hys],fun e=>(mA (by omega) (by omega) e).trans (hmem e),fun k hk=>?_,by omega,hf,c,H⟩
  ·rw[ss (by omega) (by omega)]
   exact hU.go j0 hj hji hlt hmin
  ·rw[fF (by omega) (by omega),if_neg (by omega),if_neg (by omega)]
   exact hgt k hk
 ·repeat refine seq ?_
  refine ac 5 hf (by decide +kernel) ?_
  refine st (mv rfl) ?_
  refine st (mv rfl) ?_
  refine st (mv rfl) ?_
  refine st (iN (A:=E (B false)) (B:=E (I (j:Nat))) (C:=E (I (i:Nat))) (iS H.p) rfl rfl rfl (fun a b w he h1 h2=>by cases h1;cases h2;have:=iP ys j i v w (H.o.ext he) (by omega) (by omega);rwa [decide_eq_false hlt] at this)) ?_
  refine st (bj rfl) ?_
  refine en fun a w e' hf=>?_
  replace H:=H.ext e'
  replace c:=c.ext e'
  refine aa ?_
  refine ifc hf rfl (fun _=>aR ?_) (fun h=>by cases h)
  simp only[Exit.then,Exit.inBlock,↓reduceIte]
  rw[if_neg (show ¬(0:Nat)=1 by decide)]
  exact⟨trivial,ys,i,hU.stop fun k hk k0 hp=>Int.le_trans (Int.not_lt.1 hlt) (hmin k hk k0 hp),hys,hmem,hgt,hf.keep [1,7],c,H⟩
theorem a1C (xs:List (Int×Nat))(x:Int×Nat)(bw:Nat)(v:Value)(W:World)(H:HpW bw v xs W)(hh:HpC xs.length (cst xs))(hl:xs.length<100000000) :
  Calls Tryz.prog 95 #[wyI bw,.iface 139 (wyV x)] W (fun en w'=>en=.returned (.tuple #[])∧∃v' ys,Chg (HpS bw v) W w'∧HpW bw v' ys w'∧OwL W v v'∧ys.length=xs.length+1∧(∀e,e∈ys↔e∈xs∨e=x)∧HpC ys.length (cst ys)):=by
 refine enter (args:=[wyI bw,.iface 139 (wyV x)]) (As:=[E (wyI bw),E (.iface 139 (wyV x))]) Tryz.func95 rfl Tryz.ntmps95 (Nat.le_of_ble_eq_true rfl) ?_ (fun a hf=>?_) (Nat.le_of_ble_eq_true rfl)
 rotate_left
 dsimp only[params,Nat.reduceAdd] at hf
 rotate_right
 ·exact arg2 rfl rfl
 have c:Chg (HpS bw v) W W:=Chg.rfl' _ _
 have hn:(xs++[x]).length=xs.length+1:=by rw[List.length_append];rfl
 refine seq ?_
 refine ac 2 hf (by decide +kernel) ?_
 refine st (mv rfl) ?_
 refine st (mv rfl) ?_
 refine en fun a w e' hf=>?_
 replace H:=H.ext e'
 replace c:=c.ext e'
 clear e'
 refine iO (S:=HpS bw v) (F:=fun z w'=>∃v',HpW bw v' (xs++[x]) w'∧OwL W v v') hf (by decide) (a1x bw _) rfl ?_ fun a z w hc hF hf=>?_
 ·have e1:a.eval (.tmp 5)=.iface 139 (wyV x):=hf.opd (.tmp 5) _ rfl
  have hs:=c.size
  simp only[List.map_toArray,List.map_cons,List.map_nil,e1]
  exact (a0y xs x bw v _ H (by omega)).mono fun en w' ⟨k1,v',k2,k3,k4⟩=>⟨_,k1,k2,v',k3,fun b hb=>(k4 b hb).imp id fun h=>Nat.le_trans hs h⟩
 replace c:=c.tr hc
 obtain⟨v',H,hle⟩:=hF
 clear hc
 refine aa ?_
 replace hf:=hf.kp [0]
 refine ac 4 hf (by decide +kernel) ?_
 refine st (mv rfl) ?_
 refine st (mv rfl) ?_
 refine st (rP (A:=E (I ((xs++[x]).length:Nat))) (sr H.p) rfl (fun w he=>jZ (xs++[x]) v' w (H.o.ext he))) ?_
 refine st ((sub rfl rfl (by omega)).eq (congrArg (Value.int .i64) (show (((xs++[x]).length:Nat):Int) - 1=((xs.length:Nat):Int) by omega))) ?_
 refine en fun a w e' hf=>?_
 replace H:=H.ext e'
 replace c:=c.ext e'
 clear e'
 have hup:=a0n x hh
 refine cq (S:=HpS bw v') (F:=fun z w'=>z=.tuple #[]∧∃ys,HpW bw v' ys w'∧ys.length=(xs++[x]).length∧(∀e,e∈ys↔e∈xs++[x])∧HpC (xs++[x]).length (cst ys)) hf (by decide) ul ?_ fun a z w hc hF hf=>?_
 ·have e1:a.eval (.tmp 7)=wyI bw:=hf.opd (.tmp 7) _ rfl
  have e2:a.eval (.tmp 10)=I (xs.length:Nat):=hf.opd (.tmp 10) _ rfl
  simp only[List.map_toArray,List.map_cons,List.map_nil,e1,e2]
  exact (a1A (xs++[x]) xs.length bw v' _ H (by omega) hup (by omega)).mono fun en w' ⟨k1,ys,k2,k3,k4,k5,k6⟩=>⟨_,k1,k2,rfl,ys,k3,k4,k5,k6⟩
 replace c:=HpS.tr c hle hc
 obtain⟨rfl,ys,H,h1,h2,h3⟩:=hF
 refine aa ?_
 exact db rfl hf ⟨rfl,v',ys,c,H,hle,h1.trans hn,fun e=>(h2 e).trans (by rw[List.mem_append,List.mem_singleton]),by rw[h1];exact h3⟩
theorem a1D (xs:List (Int×Nat))(bw:Nat)(v:Value)(W:World)(H:HpW bw v xs W)(hh:HpC xs.length (cst xs))(h0:xs≠[])(hl:xs.length≤100000000) :
  Calls Tryz.prog 97 #[wyI bw] W (fun en w'=>∃x v' ys,en=.returned (.iface 139 (wyV x))∧Chg (HpS bw v) W w'∧HpW bw v' ys w'∧OwL W v v'∧ys.length+1=xs.length∧x∈xs∧(∀e∈xs,x.1≤e.1)∧(∀e∈ys,e∈xs)∧(∀e∈xs,e≠x→e∈ys)∧HpC ys.length (cst ys)):=by
 have hl0:0<xs.length:=List.length_pos_iff.2 h0
 obtain⟨m,hm⟩:∃m,m=xs.length - 1:=⟨_,rfl⟩
 have hdn:=a0o h0 hh
 rw[← hm] at hdn
 refine enter (args:=[wyI bw]) (As:=[E (wyI bw)]) Tryz.func97 rfl Tryz.ntmps97 (Nat.le_of_ble_eq_true rfl) ?_ (fun a hf=>?_) (Nat.le_of_ble_eq_true rfl)
 rotate_left
 dsimp only[params,Nat.reduceAdd] at hf
 rotate_right
 ·exact arg1 rfl
 have c:Chg (HpS bw v) W W:=Chg.rfl' _ _
 refine seq ?_
 refine aj ?_
 refine ae hf rfl (by decide) fun a hf=>?_
 refine aa ?_
 refine seq ?_
 refine ac 3 hf (by decide +kernel) ?_
 refine st (mv rfl) ?_
 refine st (rP (A:=E (I (xs.length:Nat))) (sr H.p) rfl (fun w he=>jZ xs v w (H.o.ext he))) ?_
 refine st ((sub rfl rfl (by omega)).eq (congrArg (Value.int .i64) (show ((xs.length:Nat):Int) - 1=((m:Nat):Int) by omega))) ?_
 refine en fun a w e' hf=>?_
 replace H:=H.ext e'
 replace c:=c.ext e'
 refine ae hf rfl (by decide) fun a hf=>?_
 refine aa ?_
 replace hf:=hf.kp [0,3]
 refine seq ?_
 refine ac 2 hf (by decide +kernel) ?_
 refine st (mv rfl) ?_
 refine st (mv rfl) ?_
 refine en fun a w e' hf=>?_
 replace H:=H.ext e'
 replace c:=c.ext e'
 clear e'
 refine iO (S:=fun b=>v.ownBlock=some b) (F:=fun z w'=>OwR wyE 139 1 G0 w' (swp xs 0 m) v) hf (by decide) (mP H.p) rfl ?_ fun a z w hc hF hf=>?_
 ·have e1:a.eval (.const (.int .i64 0))=I ((0:Nat):Int):=rfl
  have e2:a.eval (.tmp 8)=I (m:Nat):=hf.opd (.tmp 8) _ rfl
  simp only[List.map_toArray,List.map_cons,List.map_nil,e1,e2]
  exact (mF xs 0 m v _ H.o (by omega) (by omega)).mono fun en w' ⟨k1,k2,k3⟩=>⟨_,k1,k2,k3⟩
 replace H:=H.swap hc hF
 replace c:=c.tr (hc.to (S':=HpS bw v) fun b _ h=>.inr h)
 clear hc hF
 refine aa ?_
 replace hf:=hf.kp [0,3]
 refine seq ?_
 refine ac 2 hf (by decide +kernel) ?_
 refine st (mv rfl) ?_
 refine st (mv rfl) ?_
 refine en fun a w e' hf=>?_
 replace H:=H.ext e'
 replace c:=c.ext e'
 clear e'
 have hsl:=fE xs 0 m
 refine cq (S:=HpS bw v) (F:=fun z w'=>(∃b,z=B b)∧∃ys,HpW bw v ys w'∧ys.length=(swp xs 0 m).length∧(∀e,e∈ys↔e∈swp xs 0 m)∧HpC m (cst ys)∧∀k,m≤k→ys.getD k (0,0)=(swp xs 0 m).getD k (0,0)) hf (by decide) um ?_ fun a z w hc hF hf=>?_
 ·have e1:a.eval (.tmp 10)=wyI bw:=hf.opd (.tmp 10) _ rfl
  have e2:a.eval (.tmp 11)=I (m:Nat):=hf.opd (.tmp 11) _ rfl
  have e3:a.eval (.const (.int .i64 0))=I 0:=rfl
  simp only[List.map_toArray,List.map_cons,List.map_nil,e1,e2,e3]
  exact (a1B (swp xs 0 m) m bw v _ H (by omega) hdn (by omega)).mono fun en w' ⟨b,ys,k1,k2,k3,k4,k5,k6,k7⟩=>⟨_,k1,k2,⟨b,rfl⟩,ys,k3,k4,k5,k6,k7⟩
 obtain⟨⟨b,rfl⟩,zs,H,z1,z2,z3,z4⟩:=hF
 replace c:=c.tr hc
 clear hc
 refine aa ?_
 replace hf:=hf.kp [0]
 obtain⟨x,hx⟩:∃x,x=xs.getD 0 (0,0):=⟨_,rfl⟩
 have hzm:zs.getD m (0,0)=x:=by
  rw[z4 m (Nat.le_refl _),fF (by omega) (by omega),if_pos rfl,hx]
 have hzl:zs.length=m+1:=by omega
 have hsplit:zs=zs.take m++[x]:=by
  rw[← hzm]
  refine List.ext_getElem? fun k=>?_
  have hl1:(zs.take m).length=m:=by rw[List.length_take];omega
  by_cases hk:k<m
  ·rw[List.getElem?_append_left (by omega),List.getElem?_take,if_pos hk]
  ·rw[List.getElem?_append_right (by omega),hl1]
   by_cases hk2:k=m
   ·rw[hk2,Nat.sub_self,List.getElem?_cons_zero]
    exact getD_some (by omega)
   ·rw[List.getElem?_eq_none (by omega),List.getElem?_eq_none (by rw[List.length_singleton];omega)]
 obtain⟨ys,hys⟩:∃ys,ys=zs.take m:=⟨_,rfl⟩
 rw[← hys] at hsplit
 have hyl:ys.length=m:=by rw[hys,List.length_take];omega
 rw[hsplit] at H
 have hmem:∀e,e∈xs↔e∈ys∨e=x:=fun e=>by
  rw[← mA (i:=0) (j:=m) (by omega) (by omega) e,← z2 e,hsplit,List.mem_append,List.mem_singleton]
 have hx0:x∈xs:=(hmem x).2 (.inr rfl)
 have hmin:∀e∈xs,x.1≤e.1:=fun e he=>by
  obtain⟨k,hk,rfl⟩:=mz.1 he
  rw[hx]
  exact hh.top k hk
 have hfin:HpC ys.length (cst ys):=by
  rw[hyl]
  exact z3.congr fun k hk=>by rw[hys];exact a0p hk
 refine seq ?_
 refine ac 1 hf (by decide +kernel) ?_
 refine st (mv rfl) ?_
 refine en fun a w e' hf=>?_
 replace H:=H.ext e'
 replace c:=c.ext e'
 clear e'
 refine iO (S:=HpS bw v) (F:=fun z w'=>z=.iface 139 (wyV x)∧∃v',HpW bw v' ys w'∧OwL W v v') hf (by decide) (a1y bw _) rfl ?_ fun a z w hc hF hf=>?_
 ·have hs:=c.size
  simp only[List.map_toArray,List.map_nil]
  exact (a0z ys x bw v _ H (by omega)).mono fun en w' ⟨k1,v',k2,k3,k4⟩=>⟨_,k1,k2,rfl,v',k3,fun b hb=>(k4 b hb).imp id fun h=>Nat.le_trans hs h⟩
 obtain⟨rfl,v',H,hle⟩:=hF
 replace c:=c.tr hc
 clear hc
 refine ae hf rfl (by decide) fun a hf=>?_
 refine aa ?_
 refine an ?_
 refine az rfl hf rfl ?_
 rintro _ rfl
 exact⟨x,v',ys,rfl,c,H,hle,by omega,hx0,hmin,fun e he=>(hmem e).2 (.inl he),fun e he hne=>((hmem e).1 he).resolve_right hne,hfin⟩
structure StW (W:World)(bw:Nat)(v0:Value)(b6 bp B:Nat)(cost:Int)(xs:List (Int×Nat))(s:List Nat)(v:Value)(ys:List (Int×Nat))(w:World):Prop where
 c:Chg (HpS bw v0) W w
 t:Tab w
 p6:Blk w b6 #[I cost] 3
 pp:Blk w bp #[ptr bw] 134
 h:HpW bw v ys w
 l:OwL W v0 v
 n:ys.length=xs.length+s.length
 m:∀e,e∈ys↔e∈xs∨(e.1=cost∧e.2∈s)
 hp:HpC ys.length (cst ys)
 k:∀b,v.ownBlock=some b→¬aT B b
theorem HpW.ch {bw:Nat}{v:Value}{xs:List (Int×Nat)}{w w':World}{S:Nat→Prop}(h:HpW bw v xs w)(c:Chg S w w')(hS:¬S bw)(hS2:∀b,v.ownBlock=some b→¬S b):HpW bw v xs w':=⟨h.p.ch c hS,h.o.chE c hS2⟩
theorem HpS.pos {bw b:Nat}{v:Value}{xs:List (Int×Nat)}{w:World}(h:HpW bw v xs w)(h0:0<bw)(hb:HpS bw v b):0<b:=hb.elim (fun e=>by rw[e];exact h0) fun e=>(h.o.lt e).1
theorem StW.kp {W:World}{bw b6 bp B:Nat}{v0 v:Value}{cost:Int}{xs ys:List (Int×Nat)}{s:List Nat}{w w':World}(h:StW W bw v0 b6 bp B cost xs s v ys w)(k:Kp B w w')(hW:W.heap.size≤B)(h0:0<B)(l6:b6<B)(lp:bp<B)(lw:bw<B):StW W bw v0 b6 bp B cost xs s v ys w':=
 ⟨h.c.kp k hW,h.t.kp k h0,h.p6.kp k (fun hh=>by have:=hh.1;omega),h.pp.kp k (fun hh=>by have:=hh.1;omega),h.h.ch k.chg (fun hh=>by have:=hh.1;omega) h.k,h.l,h.n,h.m,h.hp,h.k⟩
theorem a1E {l:List (Int×BS)}{bm nm:Nat}{w:World}(h:MpR sKV w bm nm l):(Dv (mpE sKV nm) G0 l).p (.map (some bm)) w:=⟨[.map (some bm)],⟨bm,nm,rfl,fun h=>h,Nat.le_refl _,h⟩,rfl⟩
theorem bWy (c:Int)(n:Nat):Tryz.prog.built 139 [(0,I c),(1,I (n:Nat))]=some #[I c,I (n:Nat)]:=by kernel_rfl
theorem a1F {l:List (Int×BS)}{bm nm bn br bs bp bw:Nat}{R D:BS}(cost:Int)(id:Nat)(xs:List (Int×Nat))(v:Value)(W:World)(hT:Tab W)(hid:id<1024)(hn:Blk W bn #[.map (some bm)] 75)(HM:MpR sKV W bm nm l)(hr:Blk W br (au R) 47)(hs:Blk W bs (au D) 47)(hp:Blk W bp #[ptr bw] 134)
  (H:HpW bw v xs W) (hw0:0<bw) (hh:HpC xs.length (cst xs)) (hl:xs.length≤10000000) :
  Calls Tryz.prog 94 #[I cost,I (id:Nat),ptr bn,ptr br,ptr bs,ptr bp] W (fun en w'=>en=.returned (.tuple #[])∧∃v' ys,Chg (HpS bw v) W w'∧HpW bw v' ys w'∧OwL W v v'∧ys.length≤xs.length+1024∧(∀e,e∈ys↔e∈xs∨(e.1=cost∧(lkS l (id:Int) &&& R &&& ~~~D).getLsbD e.2=true))∧HpC ys.length (cst ys)):=by
 have hwid:(Lit.int .i64 (id:Int)).wf=true:=bH (by omega) (by omega)
 have hT0:=hT.lt
 have hbwW:=H.p.lt
 have hbpW:=hp.lt
 have hownW:∀b,v.ownBlock=some b→b<W.heap.size:=fun b hb=>(H.o.lt hb).2
 have hpw:bp≠bw:=hp.ne H.p (by decide)
 refine dr (args:=[I cost,I (id:Nat),ptr bn,ptr br,ptr bs,ptr bp]) (As:=[E (I cost),E (I (id:Nat)),E (ptr bn),E (ptr br),E (ptr bs),E (ptr bp)]) Tryz.func94 rfl Tryz.ntmps94 (Nat.le_of_ble_eq_true rfl) ?_ (fun a hf=>?_) (Nat.le_of_ble_eq_true rfl)
 ·exact bq rfl (bq rfl (bq rfl (bq rfl (bq rfl (bq rfl dG)))))
 dsimp only[params,Nat.reduceAdd] at hf
 have e:=Ext.rfl' W
 refine seq ?_
 refine aj ?_
 refine aJ hf rfl (by decide) fun a b6 w v6 hv6 e' hb6 hs6 B6 hf=>?_
 have hle6:=Nat.le_trans e.size (Nat.le_of_eq hb6.symm)
 replace HM:=HM.ext e'
 replace H:=H.ext e'
 replace hT:=hT.ext e'
 replace e:=e.tr e'
 replace hn:=hn.ext e'
 replace hr:=hr.ext e'
 replace hs:=hs.ext e'
 replace hp:=hp.ext e'
 refine aa ?_
 cases hv6
 replace B6:Blk w b6 #[I cost] 3:=B6
 obtain⟨S,hS⟩:∃S,S=lkS l (id:Int) &&& R &&& ~~~D:=⟨_,rfl⟩
 obtain⟨Nz,hNz⟩:∃Nz,Nz=w.heap.size:=⟨_,rfl⟩
 have hdv:=a1E HM
 replace hf:=hf.kp [1,2,3,4,5,6]
 refine seq ?_
 refine reg 8 Mix.mix hf (by decide +kernel) ?_
 refine st (ld1 (v:=.map (some bm)) T75 rfl hn rfl) ?_
 refine st (mv rfl) ?_
 refine st (lkM (l:=l) (i:=(id:Int)) U75 lU (isE rfl hdv) rfl hwid) ?_
 refine st ((ldW T47 rfl hr rfl).eq ((rfl:_=ah R))) ?_
 refine st (aD (A:=E (ah (lkS l (id:Int) &&& R))) eB rfl rfl (fun v u w he h h'=>by cases h;cases h';exact eJ _ R w)) ?_
 refine st ((ldW T47 rfl hs rfl).eq ((rfl:_=ah D))) ?_
 refine st (aD (A:=E (ah S)) dC rfl rfl (fun v u w he h h'=>by cases h;cases h';rw[hS];exact dK _ D w)) ?_
 refine st (aw (A:=cC Nz S) cJ rfl (fun v w' he h=>by cases h;exact Calls.mono (cM _ w') (fun en w2 ⟨u,h1,h2,b',h3,h4,h5⟩=>⟨u,h1,h2,b',by have:=he.size;omega,h4,h5⟩))) ?_
 refine en fun a w e' hf=>?_
 replace H:=H.ext e'
 replace hT:=hT.ext e'
 replace e:=e.tr e'
 replace hn:=hn.ext e'
 replace hr:=hr.ext e'
 replace hs:=hs.ext e'
 replace hp:=hp.ext e'
 replace B6:=B6.ext e'
 refine aa ?_
 clear hdv
 obtain⟨vv,⟨b16,h16,rfl,BS⟩,hf⟩:=hf.fix 16 rfl
 replace hf:=hf.kp [5,6,16]
 have hBW:W.heap.size≤w.heap.size:=e.size
 have h0w:0<w.heap.size:=hT.lt
 have l6:=B6.lt
 have lp:=hp.lt
 have lw:=H.p.lt
 have n6:b6≠bw∧b6≠bp∧W.heap.size≤b6:=by omega
 have n7:b6≠0:=by omega
 refine blk ?_
 refine cS (S:=S) hf rfl BS (by decide) (fun sl w1=>∃v' ys,StW W bw v b6 bp w.heap.size cost xs sl v' ys w1) (fun _ _=>False) (fun sl w1 ⟨_,_,h⟩=>h.t)
  ⟨v,xs,e.chg _,hT,B6,hp,H,fun b hb=>.inl hb,rfl,fun e=>⟨.inl,fun h=>h.elim (fun h=>h) fun h=>by simp at h⟩,hh,fun b hb hH=>by have:=hownW b hb;have:=hH.1;omega⟩ (fun sl w1 w2 ⟨v1,ys1,h⟩ hs k=>⟨v1,ys1,h.kp k hBW h0w l6 lp lw⟩) (fun _ _ _ h=>h.elim) ?_ ?_ (fun _ _ _ _ _ _ h=>h.elim)
 ·intro lb sl x rest a1 w1 hs hJ hlw hf
  have hx1024:x<1024:=(aK.1 (by rw[hs];simp)).1
  have hsl:sl.length<1024:=by have:=cD S;rw[hs] at this;simp at this;omega
  generalize hBz:w.heap.size=Bz at *
  refine aj ?_
  refine ae hf rfl (by decide) fun a hf=>?_
  refine aa ?_
  simp only[Exit.then]
  refine⟨Kh.rfl' _ _,fun w3 k3 hsz3=>?_⟩
  obtain⟨v1,ys,hJ⟩:=hJ
  have hJ3:=hJ.kp k3 hBW h0w l6 lp lw
  have hw3:Bz+3≤w3.heap.size:=by omega
  clear e hT B6 hn hr hs hp H HM BS hJ
  replace hf:=hf.pure w3
  obtain⟨c,hT,B6,hp,H,hle,hn,hm,hhp,hk⟩:=hJ3
  have kh:=Kh.rfl' Bz w3
  have hNw:Bz+3≤w3.heap.size:=hw3
  replace hf:=hf.kp [5,6,8]
  refine blk ?_
  refine ac 6 hf (by decide +kernel) ?_
  refine st (ld1 (v:=ptr bw) ig rfl hp rfl) ?_
  refine st (mkI fM rfl rfl) ?_
  refine st (ld1 (v:=I cost) T3 rfl B6 rfl) ?_
  refine st (mv rfl) ?_
  refine st (bG [(0,_),(1,_)] rfl (bWy cost x)) ?_
  refine st (mkI cK rfl rfl) ?_
  refine en fun a w e' hf=>?_
  replace hT:=hT.ext e'
  replace H:=H.ext e'
  replace c:=c.ext e'
  replace kh:=kh.tr (Kh.ext e')
  replace hNw:=Nat.le_trans hNw e'.size
  replace B6:=B6.ext e'
  replace hp:=hp.ext e'
  clear e'
  refine cq (S:=HpS bw v1) (F:=fun z w'=>z=.tuple #[]∧∃v2 zs,HpW bw v2 zs w'∧OwL w v1 v2∧zs.length=ys.length+1∧(∀e,e∈zs↔e∈ys∨e=(cost,x))∧HpC zs.length (cst zs)) hf (by decide) ua ?_ fun a z w hc hF hf=>?_
  ·have e1:a.eval (.tmp 19)=wyI bw:=hf.opd (.tmp 19) _ rfl
   have e2:a.eval (.tmp 23)=.iface 139 (wyV (cost,x)):=hf.opd (.tmp 23) _ rfl
   simp only[List.map_toArray,List.map_cons,List.map_nil,e1,e2]
   exact (a1C ys (cost,x) bw v1 _ H hhp (by omega)).mono fun en w' ⟨k1,v2,zs,k2,k3,k4,k5,k6,k7⟩=>⟨_,k1,k2,rfl,v2,zs,k3,k4,k5,k6,k7⟩
  obtain⟨rfl,v2,zs,H2,hle2,hn2,hm2,hhp2⟩:=hF
  have hS6:¬HpS bw v1 b6:=fun h=>h.elim (fun h=>n6.1 h) fun h=>H.o.neB B6 (by decide) h
  have hSp:¬HpS bw v1 bp:=fun h=>h.elim (fun h=>hpw h) fun h=>H.o.neB hp (by decide) h
  have hS0:¬HpS bw v1 0:=fun h=>absurd (HpS.pos H hw0 h) (Nat.lt_irrefl 0)
  have hSh:∀b,HpS bw v1 b→¬aT Bz b:=fun b h=>h.elim (fun h hh=>by have:=hh.1;omega) fun h=>hk b h
  refine aa ?_
  simp only[Exit.inBlock]
  refine⟨⟨v2,zs,HpS.tr c hle hc,hT.ch hc hS0,B6.ch hc hS6,hp.ch hc hSp,H2,hle.tr hle2 c.size,by rw[hn2,hn,List.length_append];rfl,fun e=>?_,hhp2,fun b hb=>(hle2 b hb).elim (hk b) fun h hh=>by have:=hh.2;omega⟩,kh.tr (Kh.chg hc hSh)⟩
  rw[hm2,hm,List.mem_append,List.mem_singleton]
  obtain⟨e1,e2⟩:=e
  simp only[Prod.mk.injEq]
  constructor
  ·rintro ((h|⟨h1,h2⟩)|⟨h1,h2⟩)
   ·exact .inl h
   ·exact .inr ⟨h1,.inl h2⟩
   ·exact .inr ⟨h1,.inr h2⟩
  ·rintro (h|⟨h1,h2|h2⟩)
   ·exact .inl (.inl h)
   ·exact .inl (.inr ⟨h1,h2⟩)
   ·exact .inr ⟨h1,h2⟩
 ·intro a' w' hf' hJ hsz hDn
  simp only[Exit.inBlock,↓reduceIte,Exit.then]
  obtain⟨v1,ys,⟨c,hT,B6,hp,H,hle,hn,hm,hhp,hk⟩⟩:=hJ
  have hD:Ds [w.heap.size] w':=(Ds.nil w').cons hDn (by simp)
  have hf:FrD 25 (bK [w.heap.size]) a' w' []:=hf'.keep []
  have hsh:=fR [w.heap.size] w'
  have hno:∀b,b∈[w.heap.size]→aT w.heap.size b:=fun b hb=>by rw[List.mem_singleton] at hb;rw[hb];exact⟨Nat.le_refl _,by omega⟩
  have hel:(elems S).length≤1024:=cD S
  refine jr rfl hf hD ⟨rfl,v1,ys,c.tr2 hsh fun b hb=>.inr (by have:=(hno b hb).1;omega),H.ch hsh (fun h=>by have:=(hno _ h).1;omega) (fun b hb h=>hk b hb (hno b h)),hle,by omega,fun e=>(hm e).trans ?_,hhp⟩
  rw[← hS]
  exact or_congr Iff.rfl (and_congr Iff.rfl (aK.trans ⟨fun h=>h.2,fun h=>⟨aG h,h⟩⟩))
end Go.Mono
namespace Go.Ms
structure Dj (adj:Nat→Nat→Prop)(rest:Nat→Prop)(w:Nat→Nat)(u:Nat)(seen:Nat→Prop)(cost:Nat→Int)(hp:List (Int×Nat)):Prop where
 path:∀e∈hp,rest e.2∧Pt adj (fun y=>rest y∧(w y:Int)≤e.1) u e.2
 inn:∀x,seen x→rest x
 one:∀n,adj u n→rest n→¬seen n→∃e∈hp,e.2=n∧e.1 ≤ -1
 nbr:∀x n,seen x→adj x n→rest n→¬seen n→∃e∈hp,e.2=n∧e.1≤max (cost x) (w x)
 real:∀x,seen x→Pt adj (fun y=>rest y∧(w y:Int)≤cost x) u x
 least:∀x,seen x→∀s:Int,-1≤s→Pt adj (fun y=>rest y∧(w y:Int)≤s) u x→cost x≤s
section
variable {adj:Nat→Nat→Prop}{rest:Nat→Prop}{w:Nat→Nat}{u:Nat}{seen:Nat→Prop}{cost:Nat→Int}{hp hp':List (Int×Nat)}(D:Dj adj rest w u seen cost hp)
include D
theorem Dj.front {s:Int}(hs : -1≤s){b:Nat}(p:Pt adj (fun y=>rest y∧(w y:Int)≤s) u b)(hb:rest b)(hn:¬seen b):∃e∈hp,e.1≤s:=by
 induction p with
 | one h=>
  obtain⟨e,h1,_,h3⟩:=D.one _ h hb hn
  exact⟨e,h1,by omega⟩
 | @step y b h1 h2 h3 ih=>
  by_cases hy:seen y
  ·obtain⟨e,k1,_,k3⟩:=D.nbr _ _ hy h3 hb hn
   have:=D.least y hy s hs h1
   have:=h2.2
   exact⟨e,k1,by omega⟩
  ·exact ih h2.1 hy
theorem Dj.skip (h1:∀e∈hp',e∈hp)(h2:∀e∈hp,¬seen e.2→e∈hp'):Dj adj rest w u seen cost hp' where
 path:=fun e he=>D.path e (h1 e he)
 inn:=D.inn
 one:=fun n a b c=>by obtain⟨e,k1,k2,k3⟩:=D.one n a b c;exact⟨e,h2 e k1 (by rw[k2];exact c),k2,k3⟩
 nbr:=fun x n a b c d=>by obtain⟨e,k1,k2,k3⟩:=D.nbr x n a b c d;exact⟨e,h2 e k1 (by rw[k2];exact d),k2,k3⟩
 real:=D.real
 least:=D.least
theorem Dj.step {t:Int}{v:Nat}(hm:(t,v)∈hp)(hmin:∀e∈hp,t≤e.1)(hv:¬seen v)
  (h1:∀e∈hp',e∈hp∨(e.1=max t (w v)∧adj v e.2∧rest e.2)) (h2:∀e∈hp,e.2≠v→e∈hp') (h3:∀n,adj v n→rest n→n≠v→¬seen n→(max t (w v:Int),n)∈hp') :
  Dj adj rest w u (fun x=>x=v∨seen x) (fun x=>if x=v then t else cost x) hp':=by
 obtain⟨hr,hpv⟩:=D.path _ hm
 dsimp only at hr hpv
 have fl:∀x,seen x→(fun x=>if x=v then t else cost x) x=cost x:=fun x hx=>if_neg fun e:x=v=>hv (e▸hx)
 have fv:(fun x=>if x=v then t else cost x) v=t:=if_pos rfl
 generalize (fun x=>if x=v then t else cost x)=f at fl fv
 have lv:∀s:Int,-1≤s→Pt adj (fun y=>rest y∧(w y:Int)≤s) u v→t≤s:=fun s hs p=>by
  obtain⟨e,k1,k2⟩:=D.front hs p hr hv
  have:=hmin e k1
  omega
 refine⟨fun e he=>?_,fun x hx=>?_,fun n a b c=>?_,fun x n hx a b c=>?_,fun x hx=>?_,fun x hx s hs p=>?_⟩
 ·rcases h1 e he with h|⟨k1,k2,k3⟩
  ·exact D.path e h
  ·refine⟨k3,?_⟩
   rw[k1]
   exact .step (hpv.mono fun y hy=>⟨hy.1,by have:=hy.2;omega⟩) ⟨hr,by omega⟩ k2
 ·rcases hx with rfl|hx
  ·exact hr
  ·exact D.inn x hx
 ·obtain⟨e,k1,k2,k3⟩:=D.one n a b fun h=>c (.inr h)
  exact⟨e,h2 e k1 (by rw[k2];exact fun e=>c (.inl e)),k2,k3⟩
 ·have c1:n≠v:=fun e=>c (.inl e)
  have c2:¬seen n:=fun h=>c (.inr h)
  rcases hx with e|hx
  ·rw[e] at a
   exact⟨_,h3 n a b c1 c2,rfl,by rw[e,fv];exact Int.le_refl _⟩
  ·obtain⟨e,k1,k2,k3⟩:=D.nbr x n hx a b c2
   exact⟨e,h2 e k1 (by rw[k2];exact c1),k2,by rw[fl x hx];exact k3⟩
 ·rcases hx with e|hx
  ·rw[e,fv];exact hpv
  ·rw[fl x hx];exact D.real x hx
 ·rcases hx with e|hx
  ·rw[e] at p;rw[e,fv];exact lv s hs p
  ·rw[fl x hx];exact D.least x hx s hs p
end
theorem Dj.done {adj:Nat→Nat→Prop}{rest:Nat→Prop}{w:Nat→Nat}{u:Nat}{seen:Nat→Prop}{cost:Nat→Int}(D:Dj adj rest w u seen cost [])(v:Nat) :
  (seen v∧cost v<w v)↔rest v∧Pt adj (fun y=>rest y∧w y<w v) u v:=by
 constructor
 ·rintro⟨h1,h2⟩
  exact⟨D.inn v h1,(D.real v h1).mono fun y hy=>⟨hy.1,by have:=hy.2;omega⟩⟩
 ·rintro⟨h1,h2⟩
  have p:Pt adj (fun y=>rest y∧(w y:Int)≤(w v:Int) - 1) u v:=h2.mono fun y hy=>⟨hy.1,by have:=hy.2;omega⟩
  have hs:seen v:=Classical.byContradiction fun hn=>by
   obtain⟨e,he,_⟩:=D.front (by omega) p h1 hn
   simp at he
  exact⟨hs,by have:=D.least v hs _ (by omega) p;omega⟩
end Go.Ms
namespace Go.Mono
open Go Go.Proofs Go.RowKit Go.Ms
structure RcW (W:World)(l:List (Int×BS))(lc:List (Int×Int))(bm nm bc nc:Nat)(R:BS)(b4 b6 b8 b9 b10 b11 bw:Nat)(O D:BS)(v:Value)(xs:List (Int×Nat))(w:World):Prop where
 e:Ext W w
 t:Tab w
 m:MpR sKV w bm nm l
 mc:MpR iKV w bc nc lc
 p4:Blk w b4 #[.map (some bm)] 75
 p6:Blk w b6 (au R) 47
 p8:Blk w b8 (au 0) 47
 p9:Blk w b9 (au O) 47
 p10:Blk w b10 (au D) 47
 p11:Blk w b11 #[ptr bw] 134
 h:HpW bw v xs w
 o:∀b,v.ownBlock=some b→W.heap.size≤b
 hp:HpC xs.length (cst xs)
structure RcD (W:World)(bm bc b4 b6 b8 b9 b10 b11 bw:Nat):Prop where
 lo:W.heap.size≤b4∧W.heap.size≤b6∧W.heap.size≤b8∧W.heap.size≤b9∧W.heap.size≤b10∧W.heap.size≤b11∧W.heap.size≤bw
 hi:bm<W.heap.size∧bc<W.heap.size∧0<W.heap.size
 ne:b6≠b8∧b6≠b9∧b6≠b10∧b8≠b9∧b8≠b10∧b9≠b10∧b4≠b9∧b4≠b10∧b11≠b9∧b11≠b10∧bw≠b9∧bw≠b10∧b4≠b8∧b11≠b8∧bw≠b8
section
variable {W w w':World}{l:List (Int×BS)}{lc:List (Int×Int)}{bm nm bc nc:Nat}{R:BS}{b4 b6 b8 b9 b10 b11 bw:Nat}{O D O' D':BS}{v v':Value}{xs ys:List (Int×Nat)}
theorem RcW.ext (h:RcW W l lc bm nm bc nc R b4 b6 b8 b9 b10 b11 bw O D v xs w)(e:Ext w w'):RcW W l lc bm nm bc nc R b4 b6 b8 b9 b10 b11 bw O D v xs w':=
 ⟨Ext.tr h.e e,h.t.ext e,h.m.ext e,h.mc.ext e,h.p4.ext e,h.p6.ext e,h.p8.ext e,h.p9.ext e,h.p10.ext e,h.p11.ext e,h.h.ext e,h.o,h.hp⟩
theorem RcW.lo (h:RcW W l lc bm nm bc nc R b4 b6 b8 b9 b10 b11 bw O D v xs w)(d:RcD W bm bc b4 b6 b8 b9 b10 b11 bw):∀b,HpS bw v b→W.heap.size≤b:=fun b hb=>hb.elim (fun e=>by rw[e];exact d.lo.2.2.2.2.2.2) (h.o b)
theorem RcW.call (h:RcW W l lc bm nm bc nc R b4 b6 b8 b9 b10 b11 bw O D v xs w)(d:RcD W bm bc b4 b6 b8 b9 b10 b11 bw)(c:Chg (HpS bw v) w w')(h':HpW bw v' ys w')(hl:OwL w v v')(hp:HpC ys.length (cst ys)):RcW W l lc bm nm bc nc R b4 b6 b8 b9 b10 b11 bw O D v' ys w':=by
 have hlo:=h.lo d
 have no:∀b cs ty,Blk w b cs ty→ty≠136→ty≠139→¬HpS bw v b:=fun b cs ty hb h1 h2 hh=>hh.elim (fun e=>hb.ne h.h.p h1 e) fun e=>h.h.o.neB hb (fun e=>h2 e) e
 exact⟨h.e.ch c hlo,h.t.ch c fun hh=>by have:=hlo 0 hh;have:=d.hi.2.2;omega,h.m.pres (c.block bm h.m.lt fun hh=>by have:=hlo _ hh;have:=d.hi.1;omega),h.mc.pres (c.block bc h.mc.lt fun hh=>by have:=hlo _ hh;have:=d.hi.2.1;omega),
  h.p4.ch c (no _ _ _ h.p4 (by decide) (by decide)),h.p6.ch c (no _ _ _ h.p6 (by decide) (by decide)),h.p8.ch c (no _ _ _ h.p8 (by decide) (by decide)),h.p9.ch c (no _ _ _ h.p9 (by decide) (by decide)),h.p10.ch c (no _ _ _ h.p10 (by decide) (by decide)),h.p11.ch c (no _ _ _ h.p11 (by decide) (by decide)),h',
  fun b hb=>(hl b hb).elim (h.o b) fun hh=>Nat.le_trans h.e.size hh,hp⟩
theorem RcW.own (h:RcW W l lc bm nm bc nc R b4 b6 b8 b9 b10 b11 bw O D v xs w):∀b cs ty,Blk w b cs ty→ty≠139→v.ownBlock≠some b:=fun b cs ty hb h2=>h.h.o.neB hb fun e=>h2 e
theorem RcW.core (h:RcW W l lc bm nm bc nc R b4 b6 b8 b9 b10 b11 bw O D v xs w)(d:RcD W bm bc b4 b6 b8 b9 b10 b11 bw){b:Nat}(hb:W.heap.size≤b)(hg:w.grownBy w' (some b)):Ext W w'∧Tab w'∧MpR sKV w' bm nm l∧MpR iKV w' bc nc lc:=by
 obtain⟨h1,h2,h3⟩:=d.hi
 exact⟨h.e.gr hg hb,h.t.gr hg (Nat.lt_of_lt_of_le h3 hb),h.m.pres (hg.block _ h.m.lt fun e=>by cases e;exact absurd hb (Nat.not_le_of_lt h1)),h.mc.pres (hg.block _ h.mc.lt fun e=>by cases e;exact absurd hb (Nat.not_le_of_lt h2))⟩
theorem RcW.st9 (h:RcW W l lc bm nm bc nc R b4 b6 b8 b9 b10 b11 bw O D v xs w)(d:RcD W bm bc b4 b6 b8 b9 b10 b11 bw)(hg:w.grownBy w' (some b9))(hB:Blk w' b9 (au O') 47):RcW W l lc bm nm bc nc R b4 b6 b8 b9 b10 b11 bw O' D v xs w':=by
 obtain⟨q1,q2,q3,q4⟩:=h.core d d.lo.2.2.2.1 hg
 obtain⟨n68,n69,n610,n89,n810,n910,n49,n410,n119,n1110,nw9,nw10,_⟩:=d.ne
 exact⟨q1,q2,q3,q4,h.p4.gr hg n49,h.p6.gr hg n69,h.p8.gr hg n89,hB,h.p10.gr hg n910.symm,h.p11.gr hg n119,⟨h.h.p.gr hg nw9,h.h.o.grE hg (h.own _ _ _ h.p9 (by decide))⟩,h.o,h.hp⟩
theorem RcW.st10 (h:RcW W l lc bm nm bc nc R b4 b6 b8 b9 b10 b11 bw O D v xs w)(d:RcD W bm bc b4 b6 b8 b9 b10 b11 bw)(hg:w.grownBy w' (some b10))(hB:Blk w' b10 (au D') 47):RcW W l lc bm nm bc nc R b4 b6 b8 b9 b10 b11 bw O D' v xs w':=by
 obtain⟨q1,q2,q3,q4⟩:=h.core d d.lo.2.2.2.2.1 hg
 obtain⟨n68,n69,n610,n89,n810,n910,n49,n410,n119,n1110,nw9,nw10,_⟩:=d.ne
 exact⟨q1,q2,q3,q4,h.p4.gr hg n410,h.p6.gr hg n610,h.p8.gr hg n810,h.p9.gr hg n910,hB,h.p11.gr hg n1110,⟨h.h.p.gr hg nw10,h.h.o.grE hg (h.own _ _ _ h.p10 (by decide))⟩,h.o,h.hp⟩
theorem RcW.new {b:Nat}(h:RcW W l lc bm nm bc nc R b4 b6 b8 b9 b10 b11 bw O D v xs w)(d:RcD W bm bc b4 b6 b8 b9 b10 b11 bw){N:Nat}(hN:b4<N∧b6<N∧b8<N∧b9<N∧b10<N∧b11<N∧bw<N)(hNb:N≤b)(ho:∀c,v.ownBlock=some c→c<N)(hg:w.grownBy w' (some b)):RcW W l lc bm nm bc nc R b4 b6 b8 b9 b10 b11 bw O D v xs w':=by
 obtain⟨l4,l6,l8,l9,l10,l11,lw⟩:=hN
 obtain⟨q1,q2,q3,q4⟩:=h.core d (Nat.le_trans d.lo.1 (Nat.le_of_lt (Nat.lt_of_lt_of_le l4 hNb))) hg
 have ne:∀{c:Nat},c<N→c≠b:=fun h=>Nat.ne_of_lt (Nat.lt_of_lt_of_le h hNb)
 exact⟨q1,q2,q3,q4,h.p4.gr hg (ne l4),h.p6.gr hg (ne l6),h.p8.gr hg (ne l8),h.p9.gr hg (ne l9),h.p10.gr hg (ne l10),h.p11.gr hg (ne l11),⟨h.h.p.gr hg (ne lw),h.h.o.grE hg fun e=>ne (ho _ e) rfl⟩,h.o,h.hp⟩
end
theorem a1G {R D:BS}{x:Nat}(hR:R.getLsbD x=true)(hD:¬D.getLsbD x=true):card (R &&& ~~~(ins D (x:Int)))+1≤card (R &&& ~~~D):=by
 have hx:=aG hR
 refine fq (z:=x) (fun i hi=>?_) ((aP _ _ _).2 ⟨hR,hD⟩) fun h=>((aP _ _ _).1 h).2 ((aL D hx).2 (.inr rfl))
 obtain⟨h1,h2⟩:=(aP _ _ _).1 hi
 exact (aP _ _ _).2 ⟨h1,fun h=>h2 ((aL D hx).2 (.inl h))⟩
def RcA (nb:Int→BS)(R:BS)(cn:Nat→Nat)(u:Nat):VA:=⟨fun v _=>∃r:BS,v=ah r∧∀x,r.getLsbD x=true↔R.getLsbD x=true∧Ms.Pt (bO nb) (fun y=>R.getLsbD y=true∧cn y<cn x) u x,fun _ _ _ _ h=>h⟩
def stV (b4 b6 b10 b11:Nat):Value:=.func (.func 94) #[] #[ptr b4,ptr b6,ptr b10,ptr b11]
theorem a1H {l:List (Int×BS)}{lc:List (Int×Int)}{bm nm bc nc:Nat}{R:BS}{cn:Nat→Nat}(u:Nat)(W:World)(hT:Tab W)(hu:u<1024)(HM:MpR sKV W bm nm l)(HC:MpR iKV W bc nc lc)(hcn:∀x:Nat,x<1024→lkI lc (x:Int)=(cn x:Int)) :
  Calls Tryz.prog 50 #[.map (some bm),.map (some bc),ah R,I (u:Nat)] W (Post (RcA (lkS l) R cn u) W):=by
 have hT0:=hT.lt
 have lm:=HM.lt
 have lc':=HC.lt
 refine enter (args:=[.map (some bm),.map (some bc),ah R,I (u:Nat)]) (As:=[E (.map (some bm)),E (.map (some bc)),E (ah R),E (I (u:Nat))]) Tryz.func50 rfl Tryz.ntmps50 (Nat.le_of_ble_eq_true rfl) ?_ (fun a hf=>?_) (Nat.le_of_ble_eq_true rfl)
 rotate_left
 dsimp only[params,Nat.reduceAdd] at hf
 rotate_right
 ·exact bq rfl (bq rfl (bq rfl (bq rfl dG)))
 have e:=Ext.rfl' W
 refine seq ?_
 refine aj ?_
 refine aJ hf rfl (by decide) fun a b4 w v4 hv4 e' hb4 hs4 B4 hf=>?_
 have hle4:=Nat.le_trans e.size (Nat.le_of_eq hb4.symm)
 replace HM:=HM.ext e'
 replace HC:=HC.ext e'
 replace hT:=hT.ext e'
 replace e:=e.tr e'
 clear e'
 refine aJ hf rfl (by decide) fun a b6 w v6 hv6 e' hb6 hs6 B6 hf=>?_
 have hle6:=Nat.le_trans e.size (Nat.le_of_eq hb6.symm)
 have lt6_B4:=B4.lt
 replace HM:=HM.ext e'
 replace HC:=HC.ext e'
 replace hT:=hT.ext e'
 replace e:=e.tr e'
 replace B4:=B4.ext e'
 clear e'
 refine aC I47 hf (by decide) fun a b8 w e' hb8 hs8 B8 hf=>?_
 have hle8:=Nat.le_trans e.size (Nat.le_of_eq hb8.symm)
 have lt8_B4:=B4.lt
 have lt8_B6:=B6.lt
 replace HM:=HM.ext e'
 replace HC:=HC.ext e'
 replace hT:=hT.ext e'
 replace e:=e.tr e'
 replace B4:=B4.ext e'
 replace B6:=B6.ext e'
 refine aa ?_
 cases hv4;cases hv6
 replace B4:Blk w b4 #[.map (some bm)] 75:=B4
 replace B6:Blk w b6 (au R) 47:=B6
 simp only[Value.cells,cm] at B8
 refine seq ?_
 refine aj ?_
 refine aC I47 hf (by decide) fun a b9 w e' hb9 hs9 B9 hf=>?_
 have hle9:=Nat.le_trans e.size (Nat.le_of_eq hb9.symm)
 have lt9_B4:=B4.lt
 have lt9_B6:=B6.lt
 have lt9_B8:=B8.lt
 replace HM:=HM.ext e'
 replace HC:=HC.ext e'
 replace hT:=hT.ext e'
 replace e:=e.tr e'
 replace B4:=B4.ext e'
 replace B6:=B6.ext e'
 replace B8:=B8.ext e'
 clear e'
 refine aC I47 hf (by decide) fun a b10 w e' hb10 hs10 B10 hf=>?_
 have hle10:=Nat.le_trans e.size (Nat.le_of_eq hb10.symm)
 have lt10_B4:=B4.lt
 have lt10_B6:=B6.lt
 have lt10_B8:=B8.lt
 have lt10_B9:=B9.lt
 replace HM:=HM.ext e'
 replace HC:=HC.ext e'
 replace hT:=hT.ext e'
 replace e:=e.tr e'
 replace B4:=B4.ext e'
 replace B6:=B6.ext e'
 replace B8:=B8.ext e'
 replace B9:=B9.ext e'
 refine aa ?_
 simp only[Value.cells,cm] at B9 B10
 replace hf:=hf.kp [1,3,4,6,8,9,10]
 refine seq ?_
 refine aj ?_
 refine nJ 1 G0 wyE cV eA hf (by decide) hT.lt (fun b hb=>hb.elim) fun a v w e' hov Ho hf=>?_
 replace B4:=B4.ext e';replace B6:=B6.ext e';replace B8:=B8.ext e';replace B9:=B9.ext e';replace B10:=B10.ext e'
 have hWv:∀b,v.ownBlock=some b→W.heap.size≤b:=fun b hb=>by rw[hov] at hb;cases hb;exact e.size
 replace e:=e.tr e';replace HM:=HM.ext e';replace HC:=HC.ext e';replace hT:=hT.ext e';clear e' hov
 refine aJ hf rfl (by decide) fun a b16 w v16 hv16 e' hb16 hs16 B16 hf=>?_
 have hle16:=Nat.le_trans e.size (Nat.le_of_eq hb16.symm)
 have ne16_Ho:=Ho.ne_new hb16
 have lt16_B4:=B4.lt
 have lt16_B6:=B6.lt
 have lt16_B8:=B8.lt
 have lt16_B9:=B9.lt
 have lt16_B10:=B10.lt
 replace HM:=HM.ext e'
 replace HC:=HC.ext e'
 replace hT:=hT.ext e'
 replace Ho:=Ho.ext e'
 replace e:=e.tr e'
 replace B4:=B4.ext e'
 replace B6:=B6.ext e'
 replace B8:=B8.ext e'
 replace B9:=B9.ext e'
 replace B10:=B10.ext e'
 clear e'
 refine aC sU hf (by decide) fun a b11 w e' hb11 hs11 B11 hf=>?_
 have hle11:=Nat.le_trans e.size (Nat.le_of_eq hb11.symm)
 have ne11_Ho:=Ho.ne_new hb11
 have lt11_B4:=B4.lt
 have lt11_B6:=B6.lt
 have lt11_B8:=B8.lt
 have lt11_B9:=B9.lt
 have lt11_B10:=B10.lt
 have lt11_B16:=B16.lt
 replace HM:=HM.ext e'
 replace HC:=HC.ext e'
 replace hT:=hT.ext e'
 replace Ho:=Ho.ext e'
 replace e:=e.tr e'
 replace B4:=B4.ext e'
 replace B6:=B6.ext e'
 replace B8:=B8.ext e'
 replace B9:=B9.ext e'
 replace B10:=B10.ext e'
 replace B16:=B16.ext e'
 clear e'
 obtain rfl:v16=v:=hv16
 replace B16:Blk w b16 #[v16] 136:=by
  have h:=B16
  rwa [show v16.cells = #[v16] from by rcases Ho.rw gX with ⟨rfl,_⟩|⟨_,_,_,rfl,_⟩ <;> rfl] at h
 have ho11:=Ho.neB B11 (by decide)
 have d:RcD W bm bc b4 b6 b8 b9 b10 b11 b16:=⟨by omega,by omega,by omega⟩
 have hne11:b11≠b16:=by omega
 have hw11:W.heap.size≤b11:=hle11
 refine aO ig hf rfl rfl rfl B11 (by decide) fun w hg hsz B11 hf=>?_
 have h:RcW W l lc bm nm bc nc R b4 b6 b8 b9 b10 b11 b16 0 0 v16 [] w:=⟨e.gr hg hw11,hT.gr hg (by omega),HM.pres (hg.block _ HM.lt fun e=>by cases e;omega),HC.pres (hg.block _ HC.lt fun e=>by cases e;omega),B4.gr hg (by omega),B6.gr hg (by omega),B8.gr hg (by omega),B9.gr hg (by omega),B10.gr hg (by omega),B11,⟨B16.gr hg (by omega),Ho.grE hg ho11⟩,hWv,fun k hk=>absurd hk (Nat.not_lt_zero k)⟩
 clear e hT HM HC B4 B6 B8 B9 B10 B11 B16 Ho hg hWv ho11
 refine aa ?_
 replace hf:=hf.kp [1,3,8,4,6,9,10,11]
 refine seq ?_
 refine ac 1 hf (by decide +kernel) ?_
 refine st (nS rfl rfl rfl rfl) ?_
 refine en fun a w e' hf=>?_
 replace h:=h.ext e'
 refine ae hf rfl (by decide) fun a hf=>?_
 refine aa ?_
 obtain⟨bw,hbw⟩:∃bw,bw=b16:=⟨_,rfl⟩
 rw[← hbw] at h d
 clear hbw
 obtain⟨nb,hnb⟩:∃nb,nb=lkS l:=⟨_,rfl⟩
 rw[← hnb]
 have hstep:∀(cost:Int) (id:Nat) (O D:BS) (v:Value) (xs:List (Int×Nat)) (w:World),id<1024→RcW W l lc bm nm bc nc R b4 b6 b8 b9 b10 b11 bw O D v xs w→xs.length≤10000000 →
   Calls Tryz.prog 94 #[I cost,I (id:Nat),ptr b4,ptr b6,ptr b10,ptr b11] w (fun en w'=>en=.returned (.tuple #[])∧∃v' ys,Chg (HpS bw v) w w'∧RcW W l lc bm nm bc nc R b4 b6 b8 b9 b10 b11 bw O D v' ys w'∧ys.length≤xs.length+1024∧∀e,e∈ys↔e∈xs∨(e.1=cost∧(nb (id:Int) &&& R &&& ~~~D).getLsbD e.2=true)):=fun cost id O D v xs w hid h hl=>by
  rw[hnb]
  exact (a1F cost id xs v w h.t hid h.p4 h.m h.p6 h.p10 h.p11 h.h (by have:=d.lo;have:=d.hi;omega) h.hp hl).mono fun en w' ⟨k1,v',ys,k2,k3,k4,k5,k6,k7⟩=>⟨k1,v',ys,k2,h.call d k2 k3 k4 k7,k5,k6⟩
 refine seq ?_
 refine ac 2 hf (by decide +kernel) ?_
 refine st (mv rfl) ?_
 refine st (mv rfl) ?_
 refine en fun a w e' hf=>?_
 replace h:=h.ext e'
 clear e'
 refine gu (S:=HpS bw v16) (F:=fun w'=>∃v' ys,RcW W l lc bm nm bc nc R b4 b6 b8 b9 b10 b11 bw 0 0 v' ys w'∧ys.length≤1024∧∀e,e∈ys↔(e.1 = -1∧(nb (u:Int) &&& R &&& ~~~0).getLsbD e.2=true)) (A:=E (.tuple #[])) hf (by decide) nt rfl ?_ fun a w hc hF hf=>?_
 ·have e1:a.eval (.tmp 19)=I (u:Nat):=hf.opd (.tmp 19) _ rfl
  have e2:a.eval (.const (.int .i64 (-1)))=I (-1):=rfl
  simp only[List.map_toArray,List.map_cons,List.map_nil,e1,e2]
  exact (hstep (-1) u 0 0 v16 [] _ hu h (by simp)).mono fun en w' ⟨k1,v',ys,k2,k3,k4,k5⟩=>⟨_,k1,k2,rfl,v',ys,k3,by simpa using k4,fun e=>(k5 e).trans ⟨fun h=>h.resolve_left (by simp),.inr⟩⟩
 clear h hc
 obtain⟨v0,x0,h,hx0,hm0⟩:=hF
 refine aa ?_
 replace hf:=hf.kp [1,8,9,10,11,12]
 obtain⟨K,hK⟩:∃K,K=1050624:=⟨_,rfl⟩
 have hD0:Dj (bO nb) (fun x=>R.getLsbD x=true) cn u (fun x=>(0:BS).getLsbD x=true) (fun _=>0) x0:=by
  refine⟨fun e he=>?_,fun x hx=>absurd hx (aN x),fun n h1 h2 _=>?_,fun x n hx=>absurd hx (aN x),fun x hx=>absurd hx (aN x),fun x hx=>absurd hx (aN x)⟩
  ·obtain⟨h1,h2⟩:=(hm0 e).1 he
   have h3:=(bZ _ _ _).1 ((aP _ _ _).1 h2).1
   exact⟨h3.2,.one h3.1⟩
  ·exact⟨(-1,n),(hm0 _).2 ⟨rfl,(aP _ _ _).2 ⟨(bZ _ _ _).2 ⟨h1,h2⟩,aN n⟩⟩,rfl,Int.le_refl _⟩
 refine seq ?_
 refine blk (aW (fun r0 a w=>∃(O D:BS) (v:Value) (xs:List (Int×Nat)) (cost:Nat→Int),xs.length+1025 * card (R &&& ~~~D)≤r0∧r0≤K∧Dj (bO nb) (fun x=>R.getLsbD x=true) cn u (fun x=>D.getLsbD x=true) cost xs∧(∀x,O.getLsbD x=true↔D.getLsbD x=true∧cost x<cn x) ∧
  Fr 64 a w [(1,E (.map (some bc))),(8,E (ptr b8)),(9,E (ptr b9)),(10,E (ptr b10)),(11,E (ptr b11)),(12,E (stV b4 b6 b10 b11))]∧RcW W l lc bm nm bc nc R b4 b6 b8 b9 b10 b11 bw O D v xs w) K ⟨0,0,v0,x0,fun _=>0,by have:=ek (S:=R &&& ~~~0) (n:=1024) (fun i hi=>aG hi);omega,Nat.le_refl _,hD0,fun x=>⟨fun h=>absurd h (aN x),fun h=>absurd h.1 (aN x)⟩,hf,h⟩ ?_)
 clear hf h hD0 hm0 hx0 x0
 rintro r0 a w ⟨O,D,v,xs,cost,hr0,hrK,hD,hO,hf,h⟩
 have hxl:xs.length≤1050624:=by omega
 repeat refine seq ?_
 by_cases hxs:xs=[]
 ·subst hxs
  refine ac 5 hf (by decide +kernel) ?_
  refine st (ld1 (v:=ptr bw) ig rfl h.p11 rfl) ?_
  refine st (dY rfl) ?_
  refine st (ld1 (v:=v) dB rfl h.h.p rfl) ?_
  refine st (aw (A:=E (I 0)) kN rfl (fun u w he k=>by cases k;exact jZ [] v w (h.h.o.ext he))) ?_
  refine st ((gtr rfl rfl).eq (congrArg Value.bool ((decide_eq_false (by omega):_=false)))) ?_
  refine en fun a w e' hf=>?_
  replace h:=h.ext e'
  refine aa ?_
  refine ifc hf rfl (fun h=>by cases h) (fun _=>aR ?_)
  simp only[Exit.then,Exit.inBlock,↓reduceIte]
  replace hf:=hf.kp [8,9]
  refine seq ?_
  refine ac 1 hf (by decide +kernel) ?_
  refine st ((ldW T47 rfl h.p9 rfl).eq ((rfl:_=ah O))) ?_
  refine en fun a w e' hf=>?_
  replace h:=h.ext e'
  clear e'
  refine aF T47 hf rfl rfl (aU _) h.p8 rfl (bh _) fun w hg hsz B8 hf=>?_
  refine aa ?_
  refine an ?_
  refine dc rfl T47 hf rfl B8 (bh _) ?_
  exact⟨_,rfl,h.e.gr hg d.lo.2.2.1,O,rfl,fun x=>(hO x).trans (hD.done x)⟩
 ·have hpos:0<xs.length:=List.length_pos_iff.2 hxs
  refine ac 5 hf (by decide +kernel) ?_
  refine st (ld1 (v:=ptr bw) ig rfl h.p11 rfl) ?_
  refine st (dY rfl) ?_
  refine st (ld1 (v:=v) dB rfl h.h.p rfl) ?_
  refine st (aw (A:=E (I (xs.length:Nat))) kN rfl (fun u w he k=>by cases k;exact jZ xs v w (h.h.o.ext he))) ?_
  refine st ((gtr rfl rfl).eq (congrArg Value.bool ((decide_eq_true (by omega):_=true)))) ?_
  refine en fun a w e' hf=>?_
  replace h:=h.ext e'
  refine aa ?_
  refine ifc hf rfl (fun _=>ar ?_) (fun h=>by cases h)
  simp only[Exit.then,Exit.inBlock,↓reduceIte]
  refine blk ?_
  replace hf:=hf.kp [1,8,9,10,11,12]
  refine seq ?_
  refine ac 2 hf (by decide +kernel) ?_
  refine st (ld1 (v:=ptr bw) ig rfl h.p11 rfl) ?_
  refine st (mkI fM rfl rfl) ?_
  refine en fun a w e' hf=>?_
  replace h:=h.ext e'
  clear e'
  refine cq (S:=HpS bw v) (F:=fun z w'=>∃x v' ys,z=.iface 139 (wyV x)∧RcW W l lc bm nm bc nc R b4 b6 b8 b9 b10 b11 bw O D v' ys w'∧ys.length+1=xs.length∧x∈xs∧(∀e∈xs,x.1≤e.1)∧(∀e∈ys,e∈xs)∧(∀e∈xs,e≠x→e∈ys)) hf (by decide) ub ?_ fun a z w hc hF hf=>?_
  ·have e1:a.eval (.tmp 28)=wyI bw:=hf.opd (.tmp 28) _ rfl
   simp only[List.map_toArray,List.map_cons,List.map_nil,e1]
   exact (a1D xs bw v _ h.h h.hp hxs (by omega)).mono fun en w' ⟨x,v',ys,k1,k2,k3,k4,k5,k6,k7,k8,k9,k10⟩=>⟨_,k1,k2,x,v',ys,rfl,h.call d k2 k3 k4 k10,k5,k6,k7,k8,k9⟩
  clear h hc
  obtain⟨x,v2,ys,rfl,h,hyl,hx1,hx2,hy1,hy2⟩:=hF
  have hxR:=(hD.path x hx1).1
  have hx1024:x.2<1024:=aG hxR
  have hwx:(Lit.int .i64 (x.2:Int)).wf=true:=bH (by omega) (by omega)
  obtain⟨Nw,hNw⟩:∃Nw,Nw=w.heap.size:=⟨_,rfl⟩
  have hNl:b4<Nw∧b6<Nw∧b8<Nw∧b9<Nw∧b10<Nw∧b11<Nw∧bw<Nw:=by rw[hNw];exact⟨h.p4.lt,h.p6.lt,h.p8.lt,h.p9.lt,h.p10.lt,h.p11.lt,h.h.p.lt⟩
  have hNo:∀c,v2.ownBlock=some c→c<Nw:=fun c hc=>by rw[hNw];exact (h.h.o.lt hc).2
  have hN1:Nw≤w.heap.size:=Nat.le_of_eq hNw
  clear hNw
  refine aB hf (by decide) (asI cK rfl rfl) fun a w e' hf=>?_
  replace h:=h.ext e'
  replace hN1:=Nat.le_trans hN1 e'.size
  clear e'
  refine aB hf (by decide) (mv rfl) fun a w e' hf=>?_
  replace h:=h.ext e'
  replace hN1:=Nat.le_trans hN1 e'.size
  clear e'
  refine aB hf (by decide) (exE rfl rfl) fun a w e' hf=>?_
  replace h:=h.ext e'
  replace hN1:=Nat.le_trans hN1 e'.size
  clear e'
  refine aB hf (by decide) (exE rfl rfl) fun a w e' hf=>?_
  replace h:=h.ext e'
  replace hN1:=Nat.le_trans hN1 e'.size
  clear e'
  refine aC ii hf (by decide) fun a b13 w e' hb13 hs13 B13 hf=>?_
  have lo13_hN1:=Nat.le_trans hN1 (Nat.le_of_eq hb13.symm)
  replace h:=h.ext e'
  replace hN1:=Nat.le_trans hN1 e'.size
  clear e'
  have hN13:Nw≤b13:=lo13_hN1
  refine aF dS hf rfl rfl (mG x) B13 rfl rfl fun w hg hsz B13 hf=>?_
  replace h:=h.new d hNl hN13 hNo hg
  replace B13:Blk w b13 #[I x.1,I (x.2:Nat)] 139:=B13
  clear hg hsz hN1
  refine ae hf rfl (by decide) fun a hf=>?_
  refine aa ?_
  replace hf:=hf.kp [1,8,9,10,11,12,13]
  by_cases hseen:D.getLsbD x.2=true
  ·have hbs:has D (x.2:Int)=true:=(pN _ _).2 hseen
   repeat refine seq ?_
   refine ac 4 hf (by decide +kernel) ?_
   refine st ((ldW T47 rfl h.p10 rfl).eq ((rfl:_=ah D))) ?_
   refine st (am cK rfl T3 (by decide) rfl) ?_
   refine st (ld1 (v:=I (x.2:Nat)) T3 rfl B13 rfl) ?_
   refine st (aD (A:=E (B true)) (B:=E (ah D)) (C:=E (I (x.2:Nat))) nu rfl rfl (fun a b w he h1 h2=>by cases h1;cases h2;have:=nL D (x.2:Int) w;rwa [hbs] at this)) ?_
   refine en fun a w e' hf=>?_
   replace h:=h.ext e'
   replace B13:=B13.ext e'
   refine aa ?_
   refine ifc hf rfl (fun _=>aR ?_) (fun h=>by cases h)
   simp only[Exit.then,Exit.inBlock,↓reduceIte]
   replace hf:=hf.kp [1,8,9,10,11,12]
   refine⟨r0 - 1,by omega,O,D,v2,ys,cost,by omega,by omega,hD.skip hy1 (fun e he hne=>hy2 e he fun hh=>hne (by rw[hh];exact hseen)),hO,hf,h⟩
  have hbs:has D (x.2:Int)=false:=by
   cases hb:has D (x.2:Int) with
   | false=>rfl
   | true=>exact absurd ((pN _ _).1 hb) hseen
  repeat refine seq ?_
  refine ac 4 hf (by decide +kernel) ?_
  refine st ((ldW T47 rfl h.p10 rfl).eq ((rfl:_=ah D))) ?_
  refine st (am cK rfl T3 (by decide) rfl) ?_
  refine st (ld1 (v:=I (x.2:Nat)) T3 rfl B13 rfl) ?_
  refine st (aD (A:=E (B false)) (B:=E (ah D)) (C:=E (I (x.2:Nat))) nu rfl rfl (fun a b w he h1 h2=>by cases h1;cases h2;have:=nL D (x.2:Int) w;rwa [hbs] at this)) ?_
  refine en fun a w e' hf=>?_
  replace h:=h.ext e'
  replace B13:=B13.ext e'
  refine aa ?_
  refine ifc hf rfl (fun h=>by cases h) (fun _=>ar ?_)
  simp only[Exit.then,Exit.inBlock,↓reduceIte]
  replace hf:=hf.kp [1,8,9,10,11,12,13]
  have n13:b13≠b10∧b13≠b9:=by omega
  refine seq ?_
  refine ac 4 hf (by decide +kernel) ?_
  refine st ((ldW T47 rfl h.p10 rfl).eq ((rfl:_=ah D))) ?_
  refine st (am cK rfl T3 (by decide) rfl) ?_
  refine st (ld1 (v:=I (x.2:Nat)) T3 rfl B13 rfl) ?_
  refine st (aD (A:=E (ah (ins D (x.2:Int)))) de rfl rfl (fun v u w he h h'=>by cases h;cases h';exact di D (x.2:Int) w)) ?_
  refine en fun a w e' hf=>?_
  replace h:=h.ext e'
  replace B13:=B13.ext e'
  clear e'
  refine aF T47 hf rfl rfl (aU _) h.p10 rfl (bh _) fun w hg hsz B10 hf=>?_
  replace h:=h.st10 d hg B10
  replace B13:=B13.gr hg n13.1
  clear hg hsz B10
  refine aa ?_
  replace hf:=hf.kp [1,8,9,10,11,12,13]
  obtain⟨D2,hD2⟩:∃D2,D2=ins D (x.2:Int):=⟨_,rfl⟩
  rw[← hD2] at h
  have hcs:=a1G hxR hseen
  rw[← hD2] at hcs
  have hD2b:∀i,D2.getLsbD i=true↔(i=x.2∨D.getLsbD i=true):=fun i=>by rw[hD2,aL D hx1024];exact Or.comm
  clear hD2
  repeat refine seq ?_
  refine cut (J:=fun a w=>∃b:Bool,b=decide (x.1<(cn x.2:Int))∧Fr 64 a w [(1,E (.map (some bc))),(8,E (ptr b8)),(9,E (ptr b9)),(10,E (ptr b10)),(11,E (ptr b11)),(12,E (stV b4 b6 b10 b11)),(13,E (ptr b13)),(47,E (B b))]∧RcW W l lc bm nm bc nc R b4 b6 b8 b9 b10 b11 bw O D2 v2 ys w∧Blk w b13 #[I x.1,I (x.2:Nat)] 139) ?_ (fun a w hJ=>?_)
  ·repeat refine seq ?_
   refine ac 7 hf (by decide +kernel) ?_
   refine st (am cK rfl T3 (by decide) rfl) ?_
   refine st (ld1 (v:=I x.1) T3 rfl B13 rfl) ?_
   refine st (mv rfl) ?_
   refine st (am cK rfl T3 (by decide) rfl) ?_
   refine st (ld1 (v:=I (x.2:Nat)) T3 rfl B13 rfl) ?_
   refine st ((fD U83 rfl h.mc rfl hwx).eq (congrArg (Value.int .i64) (hcn x.2 hx1024))) ?_
   refine st (lss rfl rfl) ?_
   refine en fun a w e' hf=>?_
   replace h:=h.ext e'
   replace B13:=B13.ext e'
   refine aa ?_
   replace hf:=hf.kp [1,8,9,10,11,12,13,47]
   exact⟨rfl,_,rfl,hf,h,B13⟩
  clear h B13 hf
  obtain⟨bb,hbb,hf,h,B13⟩:=hJ
  simp only[Exit.then]
  refine cut (J:=fun a w=>∃O2:BS,(∀i,O2.getLsbD i=true↔O.getLsbD i=true∨(i=x.2∧x.1<(cn x.2:Int)))∧Fr 64 a w [(1,E (.map (some bc))),(8,E (ptr b8)),(9,E (ptr b9)),(10,E (ptr b10)),(11,E (ptr b11)),(12,E (stV b4 b6 b10 b11)),(13,E (ptr b13))]∧RcW W l lc bm nm bc nc R b4 b6 b8 b9 b10 b11 bw O2 D2 v2 ys w∧Blk w b13 #[I x.1,I (x.2:Nat)] 139) ?_ (fun a w hJ=>?_)
  ·refine ifc hf rfl (fun hb=>?_) (fun hb=>?_)
   ·replace hb:bb=true:=hb
    rw[hbb] at hb
    have hlt:=of_decide_eq_true hb
    refine ac 4 hf (by decide +kernel) ?_
    refine st ((ldW T47 rfl h.p9 rfl).eq ((rfl:_=ah O))) ?_
    refine st (am cK rfl T3 (by decide) rfl) ?_
    refine st (ld1 (v:=I (x.2:Nat)) T3 rfl B13 rfl) ?_
    refine st (aD (A:=E (ah (ins O (x.2:Int)))) de rfl rfl (fun v u w he h h'=>by cases h;cases h';exact di O (x.2:Int) w)) ?_
    refine en fun a w e' hf=>?_
    replace h:=h.ext e'
    replace B13:=B13.ext e'
    clear e'
    refine aF T47 hf rfl rfl (aU _) h.p9 rfl (bh _) fun w hg hsz B9 hf=>?_
    replace h:=h.st9 d hg B9
    replace B13:=B13.gr hg n13.2
    refine aa ?_
    replace hf:=hf.kp [1,8,9,10,11,12,13]
    exact⟨rfl,_,fun i=>by rw[aL O hx1024];exact or_congr Iff.rfl ⟨fun h=>⟨h,hlt⟩,fun h=>h.1⟩,hf,h,B13⟩
   ·replace hb:bb=false:=hb
    rw[hbb] at hb
    have hnl:=of_decide_eq_false hb
    refine ar ?_
    replace hf:=hf.kp [1,8,9,10,11,12,13]
    exact⟨rfl,O,fun i=>⟨.inl,fun h=>h.elim (fun h=>h) fun h=>absurd h.2 hnl⟩,hf,h,B13⟩
  clear h B13 hf hbb
  obtain⟨O2,hO2,hf,h,B13⟩:=hJ
  simp only[Exit.then]
  refine ac 10 hf (by decide +kernel) ?_
  refine st (mv rfl) ?_
  refine st (am cK rfl T3 (by decide) rfl) ?_
  refine st (ld1 (v:=I x.1) T3 rfl B13 rfl) ?_
  refine st (mv rfl) ?_
  refine st (am cK rfl T3 (by decide) rfl) ?_
  refine st (ld1 (v:=I (x.2:Nat)) T3 rfl B13 rfl) ?_
  refine st ((fD U83 rfl h.mc rfl hwx).eq (congrArg (Value.int .i64) (hcn x.2 hx1024))) ?_
  refine st (max2 rfl rfl) ?_
  refine st (am cK rfl T3 (by decide) rfl) ?_
  refine st (ld1 (v:=I (x.2:Nat)) T3 rfl B13 rfl) ?_
  refine en fun a w e' hf=>?_
  replace h:=h.ext e'
  replace B13:=B13.ext e'
  clear e'
  replace hf:=hf.kp [1,8,9,10,11,12,52,59,61]
  refine gu (S:=HpS bw v2) (F:=fun w'=>∃v' zs,RcW W l lc bm nm bc nc R b4 b6 b8 b9 b10 b11 bw O2 D2 v' zs w'∧zs.length≤ys.length+1024∧∀e,e∈zs↔e∈ys∨(e.1=max x.1 (cn x.2:Int)∧(nb (x.2:Int) &&& R &&& ~~~D2).getLsbD e.2=true)) (A:=E (.tuple #[])) hf (by decide) nt rfl ?_ fun a w hc hF hf=>?_
  ·have e1:a.eval (.tmp 59)=I (max x.1 (cn x.2:Int)):=hf.opd (.tmp 59) _ rfl
   have e2:a.eval (.tmp 61)=I (x.2:Nat):=hf.opd (.tmp 61) _ rfl
   simp only[List.map_toArray,List.map_cons,List.map_nil,e1,e2]
   exact (hstep _ x.2 O2 D2 v2 ys _ hx1024 h (by omega)).mono fun en w' ⟨k1,v',zs,k2,k3,k4,k5⟩=>⟨_,k1,k2,rfl,v',zs,k3,k4,k5⟩
  clear h hc B13
  obtain⟨v3,zs,h,hzl,hzm⟩:=hF
  refine aa ?_
  simp only[Exit.inBlock]
  replace hf:=hf.kp [1,8,9,10,11,12]
  have hDn:=hD.step (hp':=zs) hx1 hx2 hseen (fun e he=>((hzm e).1 he).imp (hy1 e) fun⟨k1,k2⟩=>by
    have k3:=(bZ _ _ _).1 ((aP _ _ _).1 k2).1
    exact⟨k1,k3.1,k3.2⟩) (fun e he hne=>(hzm e).2 (.inl (hy2 e he fun hh=>hne (by rw[hh])))) (fun n k1 k2 k3 k4=>(hzm _).2 (.inr ⟨rfl,(aP _ _ _).2 ⟨(bZ _ _ _).2 ⟨k1,k2⟩,fun hh=>((hD2b n).1 hh).elim k3 k4⟩⟩))
  rw[show (fun y=>y=x.2∨D.getLsbD y=true)=fun y=>D2.getLsbD y=true from funext fun y=>propext (hD2b y).symm] at hDn
  refine⟨r0 - 1,by omega,O2,D2,v3,zs,_,by omega,by omega,hDn,fun i=>?_,hf,h⟩
  rw[hO2,hO,hD2b]
  by_cases hi:i=x.2
  ·rw[if_pos hi,hi]
   exact⟨fun h=>h.elim (fun h=>absurd h.1 hseen) fun h=>⟨.inl rfl,h.2⟩,fun h=>.inr ⟨rfl,h.2⟩⟩
  ·rw[if_neg hi]
   exact⟨fun h=>h.elim (fun h=>⟨.inr h.1,h.2⟩) fun h=>absurd h.1 hi,fun h=>.inl ⟨h.1.resolve_left hi,h.2⟩⟩
end Go.Mono
namespace Go.Mono
open Go Go.Proofs Go.RowKit Go.Gr Go.Ms
theorem sw (c:Nat→Nat)(x:Nat):∀(l:List Nat) (b:Nat),bsF c (l++[x]) b=if c (bsF c l b)<c x then x else bsF c l b
 | [],b=>rfl
 | v::l,b=>by rw[List.cons_append,bsF,bsF,sw c x l]
def DoC (W:World)(fid:FuncId)(caps:Array Value)(n:Nat)(u:Nat→Nat)(r:Nat→BS)(S0:Nat→Prop)(J:Nat→(Nat→Prop)→World→Prop):Prop:=
 ∀k,k<n→∀K w,(∀b,K b→W.heap.size≤b∧b<w.heap.size)→W.heap.size≤w.heap.size→Tab w→J k K w →
  Calls Tryz.prog fid (#[I (u k:Nat),ah (r k)]++caps) w (fun en w'=>en=.returned (.tuple #[])∧Chg (fun b=>S0 b∨(W.heap.size≤b∧¬K b)) w w'∧J (k+1) K w')
def KS (b4 b5 b6 bm bc:Nat)(D:List Nat)(b:Nat):Prop:=b=b4∨b=b5∨b=b6∨b=bm∨b=bc∨b∈D
structure SeW (W:World)(g:GT)(S0:Nat→Prop)(J:Nat→(Nat→Prop)→World→Prop)(b4 b5 b6 bm bc k:Nat)(lc:List (Int×Int))(nc:Nat)(D:List Nat)(w:World):Prop where
 c:Chg S0 W w
 t:Tab w
 p4:Blk w b4 #[.map (some bm)] 75
 p5:Blk w b5 #[.map (some bc)] 83
 p6:Blk w b6 (au (mL (nbA g) (ai g.1) k)) 47
 m:MpR sKV w bm (elems (ai g.1)).length (nbL g (elems (ai g.1)))
 mc:MpR iKV w bc nc lc
 lk:∀v:Nat,v<1024→lkI lc (v:Int)=(mC (nbA g) (ai g.1) k v:Int)
 n:nc≤1024 * k
 d:Ds D w
 dl:∀d∈D,W.heap.size≤d
 j:J k (KS b4 b5 b6 bm bc D) w
structure SeK (wi:World)(K1:Nat→Prop)(b4 b5 b6 bm bc nm nc:Nat)(l:List (Int×BS))(lc:List (Int×Int))(L:BS)(D:List Nat)(w:World):Prop where
 c:Chg K1 wi w
 t:Tab w
 p4:Blk w b4 #[.map (some bm)] 75
 p5:Blk w b5 #[.map (some bc)] 83
 p6:Blk w b6 (au L) 47
 m:MpR sKV w bm nm l
 mc:MpR iKV w bc nc lc
 d:Ds D w
structure SeN (N b4 b5 b6 bm bc:Nat)(D:List Nat):Prop where
 lt:0<N∧b4<N∧b5<N∧b6<N∧bm<N∧bc<N
 d:∀d∈D,d<N
section
variable {wi w w':World}{K1:Nat→Prop}{b4 b5 b6 bm bc nm nc:Nat}{l:List (Int×BS)}{lc:List (Int×Int)}{L:BS}{D:List Nat}{N B b:Nat}
theorem SeK.ext (h:SeK wi K1 b4 b5 b6 bm bc nm nc l lc L D w)(e:Ext w w'):SeK wi K1 b4 b5 b6 bm bc nm nc l lc L D w':=⟨h.c.ext e,h.t.ext e,h.p4.ext e,h.p5.ext e,h.p6.ext e,h.m.ext e,h.mc.ext e,h.d.ext e⟩
theorem SeK.kp (h:SeK wi K1 b4 b5 b6 bm bc nm nc l lc L D w)(k:Kp B w w')(q:SeN N b4 b5 b6 bm bc D)(hB:N≤B)(hW:wi.heap.size≤B):SeK wi K1 b4 b5 b6 bm bc nm nc l lc L D w':=by
 obtain⟨q0,q4,q5,q6,qm,qc⟩:=q.lt
 have no:∀{b},b<N→¬aT B b:=fun h hh=>Nat.lt_irrefl _ (Nat.lt_of_lt_of_le h (Nat.le_trans hB hh.1))
 exact⟨h.c.kp k hW,h.t.kp k (Nat.lt_of_lt_of_le q0 hB),h.p4.kp k (no q4),h.p5.kp k (no q5),h.p6.kp k (no q6),h.m.pres (k.same _ h.m.lt (no qm)),h.mc.pres (k.same _ h.mc.lt (no qc)),h.d.ch k.chg fun d hd=>no (q.d d hd)⟩
theorem SeK.gr (h:SeK wi K1 b4 b5 b6 bm bc nm nc l lc L D w)(hg:w.grownBy w' (some b))(q:SeN N b4 b5 b6 bm bc D)(hB:N≤b)(hW:wi.heap.size≤b):SeK wi K1 b4 b5 b6 bm bc nm nc l lc L D w':=by
 obtain⟨q0,q4,q5,q6,qm,qc⟩:=q.lt
 have no:∀{c},c<N→c≠b:=fun h hh=>Nat.lt_irrefl _ (Nat.lt_of_lt_of_le h (hh▸hB))
 exact⟨h.c.gr hg (.inr hW),h.t.gr hg (Nat.lt_of_lt_of_le q0 hB),h.p4.gr hg (no q4),h.p5.gr hg (no q5),h.p6.gr hg (no q6),h.m.pres (hg.block _ h.m.lt fun e=>no qm (Option.some.inj e)),h.mc.pres (hg.block _ h.mc.lt fun e=>no qc (Option.some.inj e)),h.d.gr hg fun hd=>no (q.d _ hd) rfl⟩
theorem SeK.st6 {L':BS}(h:SeK wi K1 b4 b5 b6 bm bc nm nc l lc L D w)(hg:w.grownBy w' (some b6))(hB:Blk w' b6 (au L') 47)(hK:K1 b6)(hne:b4≠b6∧b5≠b6∧bm≠b6∧bc≠b6)(h0:0<b6):SeK wi K1 b4 b5 b6 bm bc nm nc l lc L' D w':=
 ⟨h.c.gr hg (.inl hK),h.t.gr hg h0,h.p4.gr hg hne.1,h.p5.gr hg hne.2.1,hB,h.m.pres (hg.block _ h.m.lt fun e=>hne.2.2.1 (Option.some.inj e)),h.mc.pres (hg.block _ h.mc.lt fun e=>hne.2.2.2 (Option.some.inj e)),h.d.gr hg (h.d.ne h.p6)⟩
theorem SeK.put {nc':Nat}{lc':List (Int×Int)}(h:SeK wi K1 b4 b5 b6 bm bc nm nc l lc L D w)(hg:w.grownBy w' (some bc))(hM:MpR iKV w' bc nc' lc')(hK:K1 bc)(hne:b4≠bc∧b5≠bc∧bm≠bc∧b6≠bc)(h0:0<bc)(hD:bc ∉ D):SeK wi K1 b4 b5 b6 bm bc nm nc' l lc' L D w':=
 ⟨h.c.gr hg (.inl hK),h.t.gr hg h0,h.p4.gr hg hne.1,h.p5.gr hg hne.2.1,h.p6.gr hg hne.2.2.2,h.m.pres (hg.block _ h.m.lt fun e=>hne.2.2.1 (Option.some.inj e)),hM,h.d.gr hg hD⟩
end
theorem a1I {L:BS}{b:Nat}(h:bd L=some b):(elems L).headD 0=b:=by
 rw[List.headD_eq_head?_getD,elems,List.head?_filter]
 rw[bd] at h
 rw[h];rfl
theorem sx {G:Nat→Prop}{N:Nat}(g:GT)(ok:Gr.Ok g)(v:Value)(fid:FuncId)(caps:Array Value)(S0:Nat→Prop)(J:Nat→(Nat→Prop)→World→Prop)(W:World)(hT:Tab W)(h:(Dv (ptE (grE N)) G (some g)).p v W)(hl1:g.1.length≤100000)(hl2:g.2.length≤100000)(hN:N≤1000000)(hen:Proofs.Enters Tryz.prog fid)
  (hS0:∀b,S0 b→0<b∧b<W.heap.size) (hJ1:∀k K w w',(∀b,K b→W.heap.size≤b)→J k K w→Chg K w w'→J k K w') (hJ2:∀k K K' w,(∀b,K' b→K b∨w.heap.size≤b)→J k K w→J k K' w)
  (hdo:DoC W fid caps (card (ai g.1)) (mU (nbA g) (ai g.1)) (mR (nbA g) (ai g.1)) S0 J) (h0:J 0 (fun b=>W.heap.size≤b) W) :
  Calls Tryz.prog 16 #[v,.func (.func fid) #[] caps] W (fun en w'=>en=.returned (.tuple #[])∧Chg S0 W w'∧∃K,(∀b,K b→W.heap.size≤b)∧J (card (ai g.1)) K w'):=by
 have hv:(Dv (ptE (grE N)) G0 (some g)).p v W:=Dv.weak h fun b _ hb=>hb.elim
 have gs1:=ok.sv
 have gs2:=ok.se
 have hT0:=hT.lt
 have h1c:v.cells = #[v]:=by
  obtain⟨ad,rfl,_⟩:=Dv.pt.1 hv
  rfl
 refine dr (args:=[v,.func (.func fid) #[] caps]) (As:=[E v,E (.func (.func fid) #[] caps)]) Tryz.func16 rfl Tryz.ntmps16 (Nat.le_of_ble_eq_true rfl) ?_ (fun a hf=>?_) (Nat.le_of_ble_eq_true rfl)
 ·exact bq rfl (bq rfl dG)
 dsimp only[params,Nat.reduceAdd] at hf
 have e:=Ext.rfl' W
 refine seq ?_
 refine aj ?_
 refine aJ hf rfl (by decide) fun a b2 w v2 hv2 e' hb2 hs2 B2 hf=>?_
 have hle2:=Nat.le_trans e.size (Nat.le_of_eq hb2.symm)
 replace hT:=hT.ext e'
 replace e:=e.tr e'
 refine aa ?_
 cases hv2
 rw[h1c] at B2
 replace hf:=hf.kp [1,2]
 refine seq ?_
 refine aj ?_
 refine eM sKV hf (by decide) fun a bm w e' hbm hsm HM hf=>?_
 replace e:=e.tr e'
 replace hT:=hT.ext e'
 replace B2:=B2.ext e'
 clear e'
 have hWm:W.heap.size≤bm:=by have:=e.size;have:=HM.lt;omega
 refine eM iKV hf (by decide) fun a bc w e' hbc hsc HC hf=>?_
 have hWc:W.heap.size≤bc:=by have:=e.size;omega
 replace e:=e.tr e'
 replace hT:=hT.ext e'
 replace B2:=B2.ext e'
 replace HM:=HM.ext e'
 clear e'
 have lm:=HM.lt
 have lc:=HC.lt
 refine aC I75 hf (by decide) fun a b4 w e' hb4 hs4 B4 hf=>?_
 have hle4:=Nat.le_trans e.size (Nat.le_of_eq hb4.symm)
 have lt4_B2:=B2.lt
 replace hT:=hT.ext e'
 replace HM:=HM.ext e'
 replace HC:=HC.ext e'
 replace e:=e.tr e'
 replace B2:=B2.ext e'
 clear e'
 refine aC I83 hf (by decide) fun a b5 w e' hb5 hs5 B5 hf=>?_
 have hle5:=Nat.le_trans e.size (Nat.le_of_eq hb5.symm)
 have lt5_B2:=B2.lt
 have lt5_B4:=B4.lt
 replace hT:=hT.ext e'
 replace HM:=HM.ext e'
 replace HC:=HC.ext e'
 replace e:=e.tr e'
 replace B2:=B2.ext e'
 replace B4:=B4.ext e'
 clear e'
 haveI hinr:∀G0,InR (GB W G0) (some b4):=fun G0=>InR.gb (by omega)
 refine aO T75 hf rfl rfl rfl B4 (by decide) fun w hg hsz B4 hf=>?_
 replace hT:=hT.gr hg (by omega)
 replace HM:=HM.gr hg (fun h=>by cases h;omega)
 replace HC:=HC.gr hg (fun h=>by cases h;omega)
 replace e:=e.gr hg (by omega)
 replace B2:=B2.gr hg (by omega)
 replace B5:=B5.gr hg (by omega)
 clear hg
 haveI hinr:∀G0,InR (GB W G0) (some b5):=fun G0=>InR.gb (by omega)
 refine aO T83 hf rfl rfl rfl B5 (by decide) fun w hg hsz B5 hf=>?_
 replace hT:=hT.gr hg (by omega)
 replace HM:=HM.gr hg (fun h=>by cases h;omega)
 replace HC:=HC.gr hg (fun h=>by cases h;omega)
 replace e:=e.gr hg (by omega)
 replace B2:=B2.gr hg (by omega)
 replace B4:=B4.gr hg (by omega)
 clear hg
 refine aa ?_
 replace B4:Blk w b4 #[.map (some bm)] 75:=B4
 replace B5:Blk w b5 #[.map (some bc)] 83:=B5
 replace hf:=hf.kp [1,2,4,5]
 obtain⟨V,hV⟩:∃V,V=ai g.1:=⟨_,rfl⟩
 have e0:=e
 refine seq ?_
 refine ac 2 hf (by decide +kernel) ?_
 refine st (ld1 (v:=v) T28 rfl B2 rfl) ?_
 refine st (aw (A:=E (ah V)) fa rfl (fun v w he k=>by cases k;rw[hV];exact fw g _ w (VA.st _ _ _ _ (Ext.tr e0 he) hv) gs1 hl1 hN)) ?_
 refine en fun a w e' hf=>?_
 replace hT:=hT.ext e'
 replace HM:=HM.ext e'
 replace HC:=HC.ext e'
 replace e:=e.tr e'
 replace B2:=B2.ext e'
 replace B4:=B4.ext e'
 replace B5:=B5.ext e'
 clear e'
 clear e0
 refine aC I47 hf (by decide) fun a b6 w e' hb6 hs6 B6 hf=>?_
 have hle6:=Nat.le_trans e.size (Nat.le_of_eq hb6.symm)
 have lt6_B2:=B2.lt
 have lt6_B4:=B4.lt
 have lt6_B5:=B5.lt
 replace hT:=hT.ext e'
 replace HM:=HM.ext e'
 replace HC:=HC.ext e'
 replace e:=e.tr e'
 replace B2:=B2.ext e'
 replace B4:=B4.ext e'
 replace B5:=B5.ext e'
 clear e'
 have n6:b2≠b6∧b4≠b6∧b5≠b6∧bm≠b6∧bc≠b6∧W.heap.size≤b6:=by have:=B2.lt;have:=B4.lt;have:=B5.lt;have:=HM.lt;have:=HC.lt;omega
 refine aF T47 hf rfl rfl (aU _) B6 rfl rfl fun w hg hsz B6 hf=>?_
 replace e:=e.gr hg (by omega);replace hT:=hT.gr hg (by omega);replace B2:=B2.gr hg (by omega);replace B4:=B4.gr hg (by omega);replace B5:=B5.gr hg (by omega);replace HM:=HM.gr hg (fun h=>by cases h;omega);replace HC:=HC.gr hg (fun h=>by cases h;omega)
 clear hg hsz
 refine aa ?_
 replace hf:=hf.kp [1,2,4,5,6]
 obtain⟨Nz,hNz⟩:∃Nz,Nz=w.heap.size:=⟨_,rfl⟩
 repeat refine seq ?_
 refine ac 2 hf (by decide +kernel) ?_
 refine st ((ldW T47 rfl B6 rfl).eq ((rfl:_=ah V))) ?_
 refine st (aw (A:=cC Nz V) cJ rfl (fun v w' he h=>by cases h;exact Calls.mono (cM _ w') (fun en w2 ⟨u,h1,h2,b',h3,h4,h5⟩=>⟨u,h1,h2,b',by have:=he.size;omega,h4,h5⟩))) ?_
 refine en fun a w e' hf=>?_
 replace hT:=hT.ext e'
 replace HM:=HM.ext e'
 replace HC:=HC.ext e'
 replace e:=e.tr e'
 replace B2:=B2.ext e'
 replace B4:=B4.ext e'
 replace B5:=B5.ext e'
 replace B6:=B6.ext e'
 refine aa ?_
 obtain⟨vv,⟨b18,h18,rfl,BS⟩,hf⟩:=hf.fix 18 rfl
 replace hf:=hf.kp [1,2,4,5,6,18]
 have hBW:W.heap.size≤w.heap.size:=e.size
 have h0w:0<w.heap.size:=hT.lt
 have l2:=B2.lt
 have l4:=B4.lt
 have l5:=B5.lt
 have l6:=B6.lt
 have lm':=HM.lt
 have lc':=HC.lt
 have hlo:W.heap.size≤b2∧W.heap.size≤b4∧W.heap.size≤b5:=by omega
 have hne:b2≠bm∧b4≠bm∧b5≠bm∧b2≠b4∧b2≠b5∧b4≠b5∧bc≠bm∧b4≠bc∧b5≠bc:=by omega
 refine blk ?_
 refine cS (S:=V) hf rfl BS (by decide) (fun s w1=>NJ W g v b2 b4 bm s w1∧Blk w1 b5 #[.map (some bc)] 83∧Blk w1 b6 (au V) 47∧MpR iKV w1 bc 0 []) (fun _ _=>False) (fun s w1 h=>h.1.t)
  ⟨⟨e,hT,B2,B4,HM⟩,B5,B6,HC⟩ (fun s w1 w2 h hs k=>⟨h.1.kp k hBW h0w l2 l4 lm',h.2.1.kp k (fun hh=>by have:=hh.1;omega),h.2.2.1.kp k (fun hh=>by have:=hh.1;omega),h.2.2.2.pres (k.same bc h.2.2.2.lt (fun hh=>by have:=hh.1;omega))⟩) (fun _ _ _ h=>h.elim) ?_ ?_ (fun _ _ _ _ _ _ h=>h.elim)
 ·intro lb s x rest a1 w1 hs hJ hlw hf
  have hx1024:x<1024:=(aK.1 (by rw[hs];simp)).1
  have hxs:x ∉ s:=by
   have hn:(elems V).Nodup:=List.Nodup.sublist List.filter_sublist List.nodup_range
   rw[hs] at hn
   intro hx
   exact (List.nodup_append.1 hn).2.2 x hx x (by simp) rfl
  have hsl:s.length≤1024:=by have:=cD V;rw[hs] at this;simp at this;omega
  generalize hBz:w.heap.size=Bz at *
  refine aj ?_
  refine ae hf rfl (by decide) fun a hf=>?_
  refine aa ?_
  simp only[Exit.then]
  refine⟨Kh.rfl' _ _,fun w3 k3 hsz3=>?_⟩
  have hJ3:=hJ.1.kp k3 hBW h0w l2 l4 lm'
  have J5:=hJ.2.1.kp k3 (fun hh=>by have:=hh.1;omega)
  have J6:=hJ.2.2.1.kp k3 (fun hh=>by have:=hh.1;omega)
  have Jc:=hJ.2.2.2.pres (k3.same bc hJ.2.2.2.lt (fun hh=>by have:=hh.1;omega))
  clear e hT B2 B4 B5 B6 HM HC BS hJ
  replace hf:=hf.pure w3
  obtain⟨e,hT,B2,B4,HM⟩:=hJ3
  have kh:=Kh.rfl' Bz w3
  have e0:=e
  replace hf:=hf.kp [2,4,7]
  refine blk ?_
  refine reg 5 Mix.mix hf (by decide +kernel) ?_
  refine st (ld1 (v:=.map (some bm)) T75 rfl B4 rfl) ?_
  refine st (mv rfl) ?_
  refine st (ld1 (v:=v) T28 rfl B2 rfl) ?_
  refine st (mv rfl) ?_
  refine st (aD (A:=E (ah (nbG g.2 (x:Int)))) dT rfl rfl (fun v u w he k1 k2=>by cases k1;cases k2;exact eT g _ _ w (VA.st _ _ _ _ (Ext.tr e0 he) hv) gs2 hl2 hN)) ?_
  refine en fun a w e' hf=>?_
  replace HM:=HM.ext e'
  replace Jc:=Jc.ext e'
  replace hT:=hT.ext e'
  replace kh:=kh.tr (Kh.ext e')
  replace e:=e.tr e'
  replace B2:=B2.ext e'
  replace B4:=B4.ext e'
  replace J5:=J5.ext e'
  replace J6:=J6.ext e'
  clear e'
  refine eK (V:=sKV) (i:=(x:Int)) (c:=nbG g.2 (x:Int)) U75 hf rfl rfl rfl HM (by simp only[maxLen];omega) (bH (by omega) (by omega)) trivial fun w hg HM hf=>?_
  replace e:=e.gr hg (by omega);replace hT:=hT.gr hg (by omega);replace B2:=B2.gr hg (by omega);replace B4:=B4.gr hg (by omega);replace J5:=J5.gr hg (by omega);replace J6:=J6.gr hg (by omega);replace Jc:=Jc.gr hg (fun h=>by cases h;omega)
  replace kh:=kh.tr (Kh.gr hg (fun hh=>by have:=hh.1;omega))
  clear hg
  refine aa ?_
  simp only[Exit.inBlock]
  exact⟨⟨⟨e,hT,B2,B4,by rw[List.length_append];exact HM.perm (qz hxs)⟩,J5,J6,Jc⟩,kh⟩
 ·intro a' w' hf' hJ hsz hDn
  simp only[Exit.inBlock,↓reduceIte,Exit.then]
  have hD:Ds [w.heap.size] w':=(Ds.nil w').cons hDn (by simp)
  have hf:FrD 63 (bK [w.heap.size]) a' w' [(1,E (.func (.func fid) #[] caps)),(4,E (ptr b4)),(5,E (ptr b5)),(6,E (ptr b6))]:=hf'.keep [1,4,5,6]
  have hDW:∀d∈[w.heap.size],W.heap.size≤d:=fun d hd=>by rw[List.mem_singleton] at hd;omega
  have hKW:∀b,KS b4 b5 b6 bm bc [w.heap.size] b→W.heap.size≤b:=fun b hb=>by
   rcases hb with rfl|rfl|rfl|rfl|rfl|hb
   all_goals first|omega|exact hDW b hb
  have hS:SeW W g S0 J b4 b5 b6 bm bc 0 [] 0 [w.heap.size] w':=by
   obtain⟨⟨e',hT',B2',B4',HM'⟩,B5',B6',HC'⟩:=hJ
   rw[hV] at HM' B6'
   refine⟨e'.chg _,hT',B4',B5',by rw[jT];exact B6',HM',HC',fun v _=>by rw[gQ];rfl,Nat.zero_le _,hD,hDW,hJ2 _ _ _ _ (fun b hb=>.inl (hKW b hb)) (hJ1 _ _ _ _ (fun b hb=>hb) h0 (e'.chg _))⟩
  clear hf' e hT B2 B4 B5 B6 HM HC BS hDn hJ hD
  have hlo6:W.heap.size≤b6∧W.heap.size≤bm∧W.heap.size≤bc:=⟨n6.2.2.2.2.2,hWm,hWc⟩
  have hne6:b4≠b6∧b5≠b6∧bm≠b6∧bc≠b6:=⟨n6.2.1,n6.2.2.1,n6.2.2.2.1,n6.2.2.2.2.1⟩
  generalize [w.heap.size]=D0 at *
  generalize w'=w at *
  clear n6 hWm hWc l2 l4 l5 l6 lm' lc' hBW h0w hsz hDW hKW hbm hsm hbc hsc
  rw[hV] at *
  clear hV
  obtain⟨nb,hnb⟩:∃nb,nb=nbA g:=⟨_,rfl⟩
  obtain⟨n,hn⟩:∃n,n=card (ai g.1):=⟨_,rfl⟩
  rw[← hn] at hdo ⊢
  refine blk (aW (fun r0 a w=>∃(k:Nat) (lc:List (Int×Int)) (nc:Nat) (D:List Nat),r0+k=n∧FrD 63 (bK D) a w [(1,E (.func (.func fid) #[] caps)),(4,E (ptr b4)),(5,E (ptr b5)),(6,E (ptr b6))]∧SeW W g S0 J b4 b5 b6 bm bc k lc nc D w) n ⟨0,[],0,D0,Nat.add_zero _,hf,hS⟩ ?_)
  clear hf hS D0
  rintro r0 a w ⟨k,lc,nc,D,hr0,hf,hS⟩
  have hcard:=rt (nbA g) (ai g.1) k (by omega)
  have hKW:∀b,KS b4 b5 b6 bm bc D b→W.heap.size≤b:=fun b hb=>by
   rcases hb with rfl|rfl|rfl|rfl|rfl|hb
   all_goals first|omega|exact hS.dl b hb
  have hKlt:∀b,KS b4 b5 b6 bm bc D b→b<w.heap.size:=fun b hb=>by
   rcases hb with rfl|rfl|rfl|rfl|rfl|hb
   ·exact hS.p4.lt
   ·exact hS.p5.lt
   ·exact hS.p6.lt
   ·exact hS.m.lt
   ·exact hS.mc.lt
   ·exact hS.d.lt hb
  obtain⟨c,hT,B4,B5,B6,HM,HC,hlk,hnc,hD,hDl,hj⟩:=hS
  obtain⟨L,hL⟩:∃L,L=mL (nbA g) (ai g.1) k:=⟨_,rfl⟩
  rw[← hL] at B6 hcard
  repeat refine seq ?_
  obtain⟨wi,hwi⟩:∃wi,wi=w:=⟨_,rfl⟩
  have ei:Ext wi w:=by rw[hwi];exact Ext.rfl' _
  rw[← hwi] at c hj hKlt
  clear hwi
  by_cases hLe:L=0
  ·have hk:k=n:=by rw[hLe,eh] at hcard;omega
   have hb0:(L==0)=true:=by rw[hLe];exact beq_self_eq_true _
   refine ac 3 hf (by decide +kernel) ?_
   refine st ((ldW T47 rfl B6 rfl).eq ((rfl:_=ah L))) ?_
   refine st (aw (A:=E (B true)) (B:=E (ah L)) fb rfl (fun v w he h=>by cases h;have:=fj L w;rwa [hb0] at this)) ?_
   refine st (bj rfl) ?_
   refine en fun a w e' hf=>?_
   replace HM:=HM.ext e'
   replace HC:=HC.ext e'
   replace hT:=hT.ext e'
   replace ei:=Ext.tr ei e'
   replace B4:=B4.ext e'
   replace B5:=B5.ext e'
   replace B6:=B6.ext e'
   replace hD:=hD.ext e'
   refine aa ?_
   refine ifc hf rfl (fun h=>by cases h) (fun _=>aR ?_)
   simp only[Exit.then,Exit.inBlock,↓reduceIte]
   subst hk
   have hsh:=fR D w
   refine jr rfl hf hD ⟨rfl,(c.ext ei).tr2 hsh fun b hb=>.inr (hDl b hb),KS b4 b5 b6 bm bc D,hKW,hJ1 _ _ _ _ hKW (hJ1 _ _ _ _ hKW hj (ei.chg _)) (hsh.to fun b _ hb=>.inr (.inr (.inr (.inr (.inr hb)))))⟩
  obtain⟨m0,hm0⟩:∃m0,bd L=some m0:=by
   cases hq:bd L with
   | none=>exact absurd (fO.1 hq) hLe
   | some m0=>exact⟨m0,rfl⟩
  have hk:k<n:=by have:=el (eQ hm0);omega
  have hb0:(L==0)=false:=beq_eq_false_iff_ne.2 hLe
  refine ac 3 hf (by decide +kernel) ?_
  refine st ((ldW T47 rfl B6 rfl).eq ((rfl:_=ah L))) ?_
  refine st (aw (A:=E (B false)) (B:=E (ah L)) fb rfl (fun v w he h=>by cases h;have:=fj L w;rwa [hb0] at this)) ?_
  refine st (bj rfl) ?_
  refine en fun a w e' hf=>?_
  replace HM:=HM.ext e'
  replace HC:=HC.ext e'
  replace hT:=hT.ext e'
  replace ei:=Ext.tr ei e'
  replace B4:=B4.ext e'
  replace B5:=B5.ext e'
  replace B6:=B6.ext e'
  replace hD:=hD.ext e'
  refine aa ?_
  refine ifc hf rfl (fun _=>ar ?_) (fun h=>by cases h)
  simp only[Exit.then,Exit.inBlock,↓reduceIte]
  refine blk ?_
  obtain⟨Nw,hNw⟩:∃Nw,Nw=wi.heap.size:=⟨_,rfl⟩
  obtain⟨K1,hK1⟩:∃K1:Nat→Prop,K1=fun b=>KS b4 b5 b6 bm bc D b∨Nw≤b:=⟨_,rfl⟩
  rw[← hNw] at hKlt
  have hWN:W.heap.size≤Nw:=by rw[hNw];exact c.size
  have hq:SeN Nw b4 b5 b6 bm bc D:=⟨⟨by omega,hKlt _ (.inl rfl),hKlt _ (.inr (.inl rfl)),hKlt _ (.inr (.inr (.inl rfl))),hKlt _ (.inr (.inr (.inr (.inl rfl)))),hKlt _ (.inr (.inr (.inr (.inr (.inl rfl)))))⟩,fun d hd=>hKlt d (.inr (.inr (.inr (.inr (.inr hd)))))⟩
  have hK1s:∀b,KS b4 b5 b6 bm bc D b→K1 b:=fun b hb=>by rw[hK1];exact .inl hb
  have hH:SeK wi K1 b4 b5 b6 bm bc (elems (ai g.1)).length nc (nbL g (elems (ai g.1))) lc L D w:=⟨ei.chg _,hT,B4,B5,B6,HM,HC,hD⟩
  have hNw':Nw≤w.heap.size:=by rw[hNw];exact ei.size
  clear hT B4 B5 B6 HM HC hD ei
  replace hf:=hf.kp [1,4,5,6]
  refine seq ?_
  refine ac 5 hf (by decide +kernel) ?_
  refine st ((ldW T47 rfl hH.p6 rfl).eq ((rfl:_=ah L))) ?_
  refine st (aw (A:=gB L) fL rfl (fun v w he h=>by cases h;exact fP _ w (hH.t.ext he))) ?_
  refine st (mv rfl) ?_
  refine st (aY rfl rfl) ?_
  refine st (aY rfl rfl) ?_
  refine en fun a w e' hf=>?_
  replace hH:=hH.ext e'
  replace hNw':=Nat.le_trans hNw' e'.size
  clear e'
  rw[hm0] at hf
  replace hf:=hf.upd 31 rfl (B:=E (I (m0:Nat))) (fun v h=>h)
  replace hf:=hf.kp [1,4,5,6,31,32]
  refine aC I3 hf (by decide) fun a b8 w e' hb8 hs8 B8 hf=>?_
  have lo8_hNw':=Nat.le_trans hNw' (Nat.le_of_eq hb8.symm)
  replace hH:=hH.ext e'
  replace hNw':=Nat.le_trans hNw' e'.size
  clear e'
  have hb8N:Nw≤b8:=by omega
  refine aO T3 hf rfl rfl rfl B8 (by decide) fun w hg hsz B8 hf=>?_
  replace hH:=hH.gr hg hq hb8N (by omega)
  replace hNw':Nw≤w.heap.size:=by omega
  replace B8:Blk w b8 #[I (m0:Nat)] 3:=B8
  clear hg hsz
  refine ae hf rfl (by decide) fun a hf=>?_
  refine aa ?_
  replace hf:=hf.kp [1,4,5,6,8]
  obtain⟨Nz,hNz⟩:∃Nz,Nz=w.heap.size:=⟨_,rfl⟩
  repeat refine seq ?_
  refine ac 2 hf (by decide +kernel) ?_
  refine st ((ldW T47 rfl hH.p6 rfl).eq ((rfl:_=ah L))) ?_
  refine st (aw (A:=cC Nz L) cJ rfl (fun v w' he h=>by cases h;exact Calls.mono (cM _ w') (fun en w2 ⟨u,h1,h2,b',h3,h4,h5⟩=>⟨u,h1,h2,b',by have:=he.size;omega,h4,h5⟩))) ?_
  refine en fun a w e' hf=>?_
  replace hH:=hH.ext e'
  replace hNw':=Nat.le_trans hNw' e'.size
  replace B8:=B8.ext e'
  refine aa ?_
  obtain⟨vv,⟨b34,h34,rfl,BS⟩,hf⟩:=hf.fix 34 rfl
  replace hf:=hf.kp [1,4,5,6,8,34]
  have l8:=B8.lt
  refine blk ?_
  refine cS (S:=L) hf rfl BS (by decide) (fun s w1=>SeK wi K1 b4 b5 b6 bm bc (elems (ai g.1)).length nc (nbL g (elems (ai g.1))) lc L D w1∧Blk w1 b8 #[I (bsF (mC (nbA g) (ai g.1) k) s m0:Nat)] 3) (fun _ _=>False) (fun s w1 h=>h.1.t)
   ⟨hH,B8⟩ (fun s w1 w2 h hs kk=>⟨h.1.kp kk hq hNw' (by omega),h.2.kp kk (fun hh=>by have:=hh.1;omega)⟩) (fun _ _ _ h=>h.elim) ?_ ?_ (fun _ _ _ _ _ _ h=>h.elim)
  ·intro lb s x rest a1 w1 hs hJ hlw hf
   have hx1024:x<1024:=(aK.1 (by rw[hs];simp)).1
   have hwx:(Lit.int .i64 (x:Int)).wf=true:=bH (by omega) (by omega)
   generalize hBz:w.heap.size=Bz at *
   refine aj ?_
   refine ae hf rfl (by decide) fun a hf=>?_
   refine aa ?_
   simp only[Exit.then]
   refine⟨Kh.rfl' _ _,fun w3 k3 hsz3=>?_⟩
   have hJ1':=hJ.1.kp k3 hq hNw' (by omega)
   have hJ2':=hJ.2.kp k3 (fun hh=>by have:=hh.1;omega)
   clear hH B8 BS hJ
   replace hf:=hf.pure w3
   have hH:=hJ1'
   have B8:=hJ2'
   clear hJ1' hJ2'
   have kh:=Kh.rfl' Bz w3
   obtain⟨q,hqq⟩:∃q,q=bsF (mC (nbA g) (ai g.1) k) s m0:=⟨_,rfl⟩
   have happ:=sw (mC (nbA g) (ai g.1) k) x s m0
   rw[← hqq] at B8 happ
   have hq1024:q<1024:=by
    rw[hqq]
    rcases (jO (mC (nbA g) (ai g.1) k) s m0).1 with h|h
    ·rw[h];exact aG (eQ hm0)
    ·exact (aK.1 (by rw[hs];exact List.mem_append_left _ h)).1
   have hwq:(Lit.int .i64 (q:Int)).wf=true:=bH (by omega) (by omega)
   clear hqq
   replace hf:=hf.kp [5,8,10]
   refine blk ?_
   by_cases hlt:mC (nbA g) (ai g.1) k q<mC (nbA g) (ai g.1) k x
   ·rw[if_pos hlt] at happ
    refine seq ?_
    refine ac 7 hf (by decide +kernel) ?_
    refine st (ld1 (v:=.map (some bc)) T83 rfl hH.p5 rfl) ?_
    refine st (mv rfl) ?_
    refine st ((fD U83 rfl hH.mc rfl hwx).eq (congrArg (Value.int .i64) (hlk x hx1024))) ?_
    refine st (ld1 (v:=.map (some bc)) T83 rfl hH.p5 rfl) ?_
    refine st (ld1 (v:=I (q:Nat)) T3 rfl B8 rfl) ?_
    refine st ((fD U83 rfl hH.mc rfl hwq).eq (congrArg (Value.int .i64) (hlk q hq1024))) ?_
    refine st ((gtr rfl rfl).eq (congrArg Value.bool ((decide_eq_true (by omega):_=true)))) ?_
    refine en fun a w e' hf=>?_
    replace hH:=hH.ext e'
    replace kh:=kh.tr (Kh.ext e')
    replace B8:=B8.ext e'
    refine aa ?_
    refine ifc hf rfl (fun _=>?_) (fun h=>by cases h)
    refine ac 1 hf (by decide +kernel) ?_
    refine st (mv rfl) ?_
    refine en fun a w e' hf=>?_
    replace hH:=hH.ext e'
    replace kh:=kh.tr (Kh.ext e')
    replace B8:=B8.ext e'
    clear e'
    refine aO T3 hf rfl rfl rfl B8 Nat.zero_lt_one fun w hg hsz B8 hf=>?_
    replace hH:=hH.gr hg hq hb8N (by omega)
    replace kh:=kh.tr (Kh.gr hg (fun hh=>by have:=hh.1;omega))
    replace B8:Blk w b8 #[I (x:Nat)] 3:=B8
    refine aa ?_
    simp only[Exit.inBlock]
    exact⟨⟨hH,by rw[happ];exact B8⟩,kh⟩
   ·rw[if_neg hlt] at happ
    refine seq ?_
    refine ac 7 hf (by decide +kernel) ?_
    refine st (ld1 (v:=.map (some bc)) T83 rfl hH.p5 rfl) ?_
    refine st (mv rfl) ?_
    refine st ((fD U83 rfl hH.mc rfl hwx).eq (congrArg (Value.int .i64) (hlk x hx1024))) ?_
    refine st (ld1 (v:=.map (some bc)) T83 rfl hH.p5 rfl) ?_
    refine st (ld1 (v:=I (q:Nat)) T3 rfl B8 rfl) ?_
    refine st ((fD U83 rfl hH.mc rfl hwq).eq (congrArg (Value.int .i64) (hlk q hq1024))) ?_
    refine st ((gtr rfl rfl).eq (congrArg Value.bool ((decide_eq_false (by omega):_=false)))) ?_
    refine en fun a w e' hf=>?_
    replace hH:=hH.ext e'
    replace kh:=kh.tr (Kh.ext e')
    replace B8:=B8.ext e'
    refine aa ?_
    refine ifc hf rfl (fun h=>by cases h) (fun _=>?_)
    refine ar ?_
    simp only[Exit.then,Exit.inBlock,↓reduceIte]
    exact⟨⟨hH,by rw[happ];exact B8⟩,kh⟩
  intro a' w' hf' hJ hsz hDn
  simp only[Exit.inBlock,↓reduceIte,Exit.then]
  obtain⟨hH',B8'⟩:=hJ
  obtain⟨u,hu⟩:∃u,u=mU (nbA g) (ai g.1) k:=⟨_,rfl⟩
  have hu8:bsF (mC (nbA g) (ai g.1) k) (elems L) m0=u:=by
   rw[hu,mU,bsA,← hL,a1I hm0]
  rw[hu8] at B8'
  have hu1024:u<1024:=by
   rw[← hu8]
   rcases (jO (mC (nbA g) (ai g.1) k) (elems L) m0).1 with h|h
   ·rw[h];exact aG (eQ hm0)
   ·exact (aK.1 h).1
  have hDD:∀d∈w.heap.size::D,KS b4 b5 b6 bm bc D d∨Nw≤d:=fun d hd=>(List.mem_cons.1 hd).elim (fun h=>.inr (by rw[h];exact hNw')) fun h=>.inl (.inr (.inr (.inr (.inr (.inr h)))))
  have hD2:Ds (w.heap.size::D) w':=hH'.d.cons hDn fun h=>by have:=hq.d _ h;omega
  have hf:FrD 63 (bK (w.heap.size::D)) a' w' [(1,E (.func (.func fid) #[] caps)),(4,E (ptr b4)),(5,E (ptr b5)),(6,E (ptr b6)),(8,E (ptr b8))]:=hf'.keep [1,4,5,6,8]
  have hH2:SeK wi K1 b4 b5 b6 bm bc (elems (ai g.1)).length nc (nbL g (elems (ai g.1))) lc L (w.heap.size::D) w':=⟨hH'.c,hH'.t,hH'.p4,hH'.p5,hH'.p6,hH'.m,hH'.mc,hD2⟩
  clear hf' hDn hH hH' B8 BS hD2
  generalize w.heap.size::D=D2 at *
  have hNw2:Nw≤w'.heap.size:=by omega
  clear hsz l8 hNw' hNz
  generalize w'=w at *
  obtain⟨N2,hN2⟩:∃N2,N2=w.heap.size:=⟨_,rfl⟩
  have hq2:SeN N2 b4 b5 b6 bm bc D2:=by rw[hN2];exact⟨⟨hH2.t.lt,hH2.p4.lt,hH2.p5.lt,hH2.p6.lt,hH2.m.lt,hH2.mc.lt⟩,fun d hd=>hH2.d.lt hd⟩
  have hN2w:N2≤w.heap.size:=Nat.le_of_eq hN2
  have hNN:Nw≤N2:=by omega
  have hb8l:b8<N2:=by rw[hN2];exact B8'.lt
  have hne2:b4≠b6∧b5≠b6∧bm≠b6∧bc≠b6:=hne6
  have hne3:b4≠bc∧b5≠bc∧bm≠bc∧b6≠bc:=⟨hne.2.2.2.2.2.2.2.1,hne.2.2.2.2.2.2.2.2,hne.2.2.2.2.2.2.1.symm,hne6.2.2.2.symm⟩
  clear hN2
  refine seq ?_
  refine ac 3 hf (by decide +kernel) ?_
  refine st ((ldW T47 rfl hH2.p6 rfl).eq ((rfl:_=ah L))) ?_
  refine st (ld1 (v:=I (u:Nat)) T3 rfl B8' rfl) ?_
  refine st (aD (A:=E (ah (del L (u:Int)))) gl rfl rfl (fun v u w he h h'=>by cases h;cases h';exact gq L _ w)) ?_
  refine en fun a w e' hf=>?_
  replace hH2:=hH2.ext e'
  replace hN2w:=Nat.le_trans hN2w e'.size
  replace B8':=B8'.ext e'
  clear e'
  refine aF T47 hf rfl rfl (aU _) hH2.p6 rfl (bh _) fun w hg hsz B6 hf=>?_
  replace hH2:=hH2.st6 hg B6 (hK1s _ (.inr (.inr (.inl rfl)))) hne2 (by omega)
  replace B8':=B8'.gr hg (by have:=hq.lt;omega)
  replace hN2w:N2≤w.heap.size:=by omega
  clear hg hsz B6
  have hL2:del L (u:Int)=mL (nbA g) (ai g.1) (k+1):=by rw[fB,hL,hu]
  rw[hL2] at hH2
  refine aa ?_
  replace hf:=hf.kp [1,4,5,6,8]
  obtain⟨L2,hL2'⟩:∃L2,L2=mL (nbA g) (ai g.1) (k+1):=⟨_,rfl⟩
  rw[← hL2'] at hH2
  clear hL2
  refine seq ?_
  refine ac 5 hf (by decide +kernel) ?_
  refine st (ld1 (v:=.map (some bm)) T75 rfl hH2.p4 rfl) ?_
  refine st (ld1 (v:=.map (some bc)) T83 rfl hH2.p5 rfl) ?_
  refine st ((ldW T47 rfl hH2.p6 rfl).eq ((rfl:_=ah L2))) ?_
  refine st (ld1 (v:=I (u:Nat)) T3 rfl B8' rfl) ?_
  refine st (vl (A:=RcA (nbA g) L2 (mC (nbA g) (ai g.1) k) u) tD rfl rfl rfl rfl (fun v1 v2 v3 v4 w he h1 h2 h3 h4=>by cases h1;cases h2;cases h3;cases h4;exact a1H u w (hH2.t.ext he) hu1024 (hH2.m.ext he) (hH2.mc.ext he) hlk)) ?_
  refine en fun a w e' hf=>?_
  replace hH2:=hH2.ext e'
  replace hN2w:=Nat.le_trans hN2w e'.size
  replace B8':=B8'.ext e'
  clear e'
  obtain⟨rv,⟨r,rfl,hr⟩,hf⟩:=hf.opn 51 rfl
  have hrr:r=mR (nbA g) (ai g.1) k:=bI fun x=>by
   rw[hr,cT,MR,Rc,hL2',hu]
  rw[hrr] at hf
  clear hrr hr
  obtain⟨r,hr⟩:∃r,r=mR (nbA g) (ai g.1) k:=⟨_,rfl⟩
  rw[← hr] at hf
  replace hf:=hf.kp [1,4,5,6,8,51]
  refine aC I47 hf (by decide) fun a b11 w e' hb11 hs11 B11 hf=>?_
  have lo11_hN2w:=Nat.le_trans hN2w (Nat.le_of_eq hb11.symm)
  have lt11_B8':=B8'.lt
  replace hH2:=hH2.ext e'
  replace hN2w:=Nat.le_trans hN2w e'.size
  replace B8':=B8'.ext e'
  clear e'
  have hb11:N2≤b11:=by omega
  refine aF T47 hf rfl rfl (aU _) B11 rfl rfl fun w hg hsz B11 hf=>?_
  replace hH2:=hH2.gr hg hq2 hb11 (by omega)
  replace B8':=B8'.gr hg (by omega)
  replace hN2w:N2≤w.heap.size:=by omega
  clear hg hsz
  refine aa ?_
  replace hf:=hf.kp [1,4,5,6,8,11]
  obtain⟨Nz,hNz⟩:∃Nz,Nz=w.heap.size:=⟨_,rfl⟩
  repeat refine seq ?_
  refine ac 2 hf (by decide +kernel) ?_
  refine st ((ldW T47 rfl B11 rfl).eq ((rfl:_=ah r))) ?_
  refine st (aw (A:=cC Nz r) cJ rfl (fun v w' he h=>by cases h;exact Calls.mono (cM _ w') (fun en w2 ⟨u,h1,h2,b',h3,h4,h5⟩=>⟨u,h1,h2,b',by have:=he.size;omega,h4,h5⟩))) ?_
  refine en fun a w e' hf=>?_
  replace hH2:=hH2.ext e'
  replace hN2w:=Nat.le_trans hN2w e'.size
  replace B8':=B8'.ext e'
  replace B11:=B11.ext e'
  refine aa ?_
  obtain⟨vv,⟨b53,h53,rfl,BS⟩,hf⟩:=hf.fix 53 rfl
  replace hf:=hf.kp [1,4,5,6,8,11,53]
  have l8:=B8'.lt
  have l11:=B11.lt
  have hbcD:bc ∉ D2:=fun h=>by
   rcases hDD bc h with h1|h1
   ·exact absurd (hH2.d.2 bc h) (by obtain⟨_,⟨_,_,h2,_⟩,_⟩:=hH2.mc;rw[h2];exact fun h=>by cases h)
   ·have:=hq.lt;omega
  refine blk ?_
  refine cS (S:=r) hf rfl BS (by decide) (fun s w1=>(∃lc2,SeK wi K1 b4 b5 b6 bm bc (elems (ai g.1)).length (nc+s.length) (nbL g (elems (ai g.1))) lc2 L2 D2 w1∧∀v:Nat,v<1024→lkI lc2 (v:Int)=((mC (nbA g) (ai g.1) k v+(if v∈s then 1 else 0):Nat):Int))∧Blk w1 b8 #[I (u:Nat)] 3∧Blk w1 b11 (au r) 47) (fun _ _=>False) (fun s w1 ⟨⟨_,h,_⟩,_⟩=>h.t)
   ⟨⟨lc,hH2,fun v hv=>by rw[hlk v hv];simp⟩,B8',B11⟩ (fun s w1 w2 ⟨⟨lc2,h,hl⟩,h8,h11⟩ hs kk=>⟨⟨lc2,h.kp kk hq2 hN2w (by omega),hl⟩,h8.kp kk (fun hh=>by have:=hh.1;omega),h11.kp kk (fun hh=>by have:=hh.1;omega)⟩) (fun _ _ _ h=>h.elim) ?_ ?_ (fun _ _ _ _ _ _ h=>h.elim)
  ·intro lb s x rest a1 w1 hs hJ hlw hf
   have hx1024:x<1024:=(aK.1 (by rw[hs];simp)).1
   have hwx:(Lit.int .i64 (x:Int)).wf=true:=bH (by omega) (by omega)
   have hxs:x ∉ s:=by
    have hn:(elems r).Nodup:=List.Nodup.sublist List.filter_sublist List.nodup_range
    rw[hs] at hn
    intro hx
    exact (List.nodup_append.1 hn).2.2 x hx x (by simp) rfl
   have hsl:s.length≤1024:=by have:=cD r;rw[hs] at this;simp at this;omega
   have hck:=ru (nbA g) (ai g.1) x k
   have hn1024:n≤1024:=by rw[hn];exact ek fun i hi=>aG hi
   generalize hBz:w.heap.size=Bz at *
   refine aj ?_
   refine ae hf rfl (by decide) fun a hf=>?_
   refine aa ?_
   simp only[Exit.then]
   refine⟨Kh.rfl' _ _,fun w3 k3 hsz3=>?_⟩
   obtain⟨⟨lc2,hJ1,hJl⟩,hJ8,hJ11⟩:=hJ
   have hJ1':=hJ1.kp k3 hq2 hN2w (by omega)
   have hJ8':=hJ8.kp k3 (fun hh=>by have:=hh.1;omega)
   have hJ11':=hJ11.kp k3 (fun hh=>by have:=hh.1;omega)
   clear hH2 B8' B11 BS hJ1 hJ8 hJ11
   replace hf:=hf.pure w3
   have hH:=hJ1'
   have B8:=hJ8'
   have B11:=hJ11'
   clear hJ1' hJ8' hJ11'
   have kh:=Kh.rfl' Bz w3
   replace hf:=hf.kp [5,12]
   refine blk ?_
   have hlx:=hJl x hx1024
   rw[if_neg hxs,Nat.add_zero] at hlx
   refine ac 4 hf (by decide +kernel) ?_
   refine st (ld1 (v:=.map (some bc)) T83 rfl hH.p5 rfl) ?_
   refine st (mv rfl) ?_
   refine st ((fD U83 rfl hH.mc rfl hwx).eq (congrArg (Value.int .i64) hlx)) ?_
   refine st ((add rfl rfl (by omega)).eq (congrArg (Value.int .i64) (show ((mC (nbA g) (ai g.1) k x:Nat):Int)+1=((mC (nbA g) (ai g.1) k x+1:Nat):Int) from rfl))) ?_
   refine en fun a w e' hf=>?_
   replace hH:=hH.ext e'
   replace kh:=kh.tr (Kh.ext e')
   replace B8:=B8.ext e'
   replace B11:=B11.ext e'
   clear e'
   refine eK (V:=iKV) (i:=(x:Int)) (c:=((mC (nbA g) (ai g.1) k x+1:Nat):Int)) U83 hf rfl rfl rfl hH.mc (by simp only[maxLen];omega) hwx (bH (by omega) (by omega)) fun w hg HM hf=>?_
   replace hH:=hH.put hg HM (hK1s _ (.inr (.inr (.inr (.inr (.inl rfl)))))) hne3 (by omega) hbcD
   replace B8:=B8.gr hg (by have:=hq.lt;omega)
   replace B11:=B11.gr hg (by have:=hq.lt;omega)
   replace kh:=kh.tr (Kh.gr hg (fun hh=>by have:=hh.1;have:=hq2.lt;omega))
   clear hg HM
   refine aa ?_
   simp only[Exit.inBlock]
   refine⟨⟨⟨_,by rw[List.length_append];exact hH,fun y hy=>?_⟩,B8,B11⟩,kh⟩
   rw[rD]
   by_cases hyx:y=x
   ·rw[hyx,if_pos rfl,if_pos (by simp)]
   ·rw[if_neg (by omega),hJl y hy]
    have:y∈s++[x]↔y∈s:=by simp[hyx]
    simp only[this]
  intro a' w' hf' hJ hsz hDn
  simp only[Exit.inBlock,↓reduceIte,Exit.then]
  obtain⟨⟨lc3,hH',hl3⟩,B8,B11⟩:=hJ
  have hDD3:∀d∈w.heap.size::D2,KS b4 b5 b6 bm bc D d∨Nw≤d:=fun d hd=>(List.mem_cons.1 hd).elim (fun h=>.inr (by omega)) (hDD d)
  have hD3:Ds (w.heap.size::D2) w':=hH'.d.cons hDn fun h=>by have:=hq2.d _ h;omega
  have hf:FrD 63 (bK (w.heap.size::D2)) a' w' [(1,E (.func (.func fid) #[] caps)),(4,E (ptr b4)),(5,E (ptr b5)),(6,E (ptr b6)),(8,E (ptr b8)),(11,E (ptr b11))]:=hf'.keep [1,4,5,6,8,11]
  have hH:SeK wi K1 b4 b5 b6 bm bc (elems (ai g.1)).length (nc+(elems r).length) (nbL g (elems (ai g.1))) lc3 L2 (w.heap.size::D2) w':=⟨hH'.c,hH'.t,hH'.p4,hH'.p5,hH'.p6,hH'.m,hH'.mc,hD3⟩
  have hrl:(elems r).length≤1024:=cD r
  have hl4:∀v:Nat,v<1024→lkI lc3 (v:Int)=(mC (nbA g) (ai g.1) (k+1) v:Int):=fun v hv=>by
   rw[hl3 v hv,gR,← hr]
   simp only[aK,hv,true_and]
  clear hf' hDn hH' hD3 BS hl3 hH2 B8' hlk
  have hDl3:∀d∈w.heap.size::D2,W.heap.size≤d:=fun d hd=>(hDD3 d hd).elim (hKW d) fun h=>Nat.le_trans hWN h
  generalize w.heap.size::D2=D3 at *
  clear hsz l8 l11 hN2w hNz
  generalize w'=w at *
  have hKK:∀b,KS b4 b5 b6 bm bc D3 b→K1 b∧W.heap.size≤b∧b<w.heap.size:=fun b hb=>by
   rcases hb with rfl|rfl|rfl|rfl|rfl|hb
   ·exact⟨hK1s _ (.inl rfl),hlo.2.1,hH.p4.lt⟩
   ·exact⟨hK1s _ (.inr (.inl rfl)),hlo.2.2,hH.p5.lt⟩
   ·exact⟨hK1s _ (.inr (.inr (.inl rfl))),hlo6.1,hH.p6.lt⟩
   ·exact⟨hK1s _ (.inr (.inr (.inr (.inl rfl)))),hlo6.2.1,hH.m.lt⟩
   ·exact⟨hK1s _ (.inr (.inr (.inr (.inr (.inl rfl))))),hlo6.2.2,hH.mc.lt⟩
   ·exact⟨by rw[hK1];exact hDD3 b hb,hDl3 b hb,hH.d.lt hb⟩
  have hjw:∀w2,Ext w w2→J k (KS b4 b5 b6 bm bc D3) w2:=fun w2 e2=>hJ2 _ _ _ _ (fun b hb=>.inl (hKK b hb).1) (hJ1 k K1 wi w2 (fun b hb=>by
   rw[hK1] at hb
   exact hb.elim (hKW b) fun h=>Nat.le_trans hWN h) (hJ2 _ _ _ _ (fun b hb=>by
   rw[hK1] at hb
   rw[← hNw]
   exact hb) hj) (hH.c.ext e2))
  have hcc:Chg S0 W w:=by
   have h1:=c.tr2 hH.c fun b hb=>.inr (by
    rw[hK1] at hb
    exact hb.elim (hKW b) fun h=>Nat.le_trans hWN h)
   exact h1
  have hws:W.heap.size≤w.heap.size:=hcc.size
  obtain⟨wj,hwj⟩:∃wj,wj=w:=⟨_,rfl⟩
  have ej:Ext wj w:=by rw[hwj];exact Ext.rfl' _
  rw[← hwj] at hjw hws
  replace hKK:∀b,KS b4 b5 b6 bm bc D3 b→W.heap.size≤b∧b<wj.heap.size:=fun b hb=>by rw[hwj];exact (hKK b hb).2
  clear hwj
  refine ac 3 hf (by decide +kernel) ?_
  refine st (mv rfl) ?_
  refine st (ld1 (v:=I (u:Nat)) T3 rfl B8 rfl) ?_
  refine st ((ldW T47 rfl B11 rfl).eq ((rfl:_=ah r))) ?_
  refine en fun a w e' hf=>?_
  replace hH:=hH.ext e'
  replace hcc:=hcc.ext e'
  replace ej:=Ext.tr ej e'
  replace B8:=B8.ext e'
  replace B11:=B11.ext e'
  clear e'
  refine gu (S:=fun b=>S0 b∨(W.heap.size≤b∧¬KS b4 b5 b6 bm bc D3 b)) (F:=fun w'=>J (k+1) (KS b4 b5 b6 bm bc D3) w') (A:=E (.tuple #[])) hf (by decide) hen rfl ?_ fun a w hc hF hf=>?_
  ·have e1:a.eval (.tmp 60)=I (u:Nat):=hf.opd (.tmp 60) _ rfl
   have e2:a.eval (.tmp 61)=ah r:=hf.opd (.tmp 61) _ rfl
   simp only[List.map_toArray,List.map_cons,List.map_nil,e1,e2]
   have:=hdo k hk (KS b4 b5 b6 bm bc D3) _ (fun b hb=>⟨(hKK b hb).1,Nat.lt_of_lt_of_le (hKK b hb).2 ej.size⟩) (Nat.le_trans hws ej.size) hH.t (hjw _ ej)
   rw[← hu,← hr] at this
   exact this.mono fun en w' ⟨k1,k2,k3⟩=>⟨_,k1,k2,rfl,k3⟩
  refine aa ?_
  simp only[Exit.inBlock]
  replace hf:=hf.kp [1,4,5,6]
  have hno:∀b,KS b4 b5 b6 bm bc D3 b→¬(S0 b∨(W.heap.size≤b∧¬KS b4 b5 b6 bm bc D3 b)):=fun b hb hh=>hh.elim (fun h=>by have:=(hS0 b h).2;have:=(hKK b hb).1;omega) fun h=>h.2 hb
  refine⟨r0 - 1,by omega,k+1,lc3,nc+(elems r).length,D3,by omega,hf,hcc.tr2 hc fun b hb=>hb.imp id fun h=>h.1,hH.t.ch hc (fun hh=>hh.elim (fun h=>by have:=(hS0 0 h).1;omega) fun h=>by omega),hH.p4.ch hc (hno _ (.inl rfl)),hH.p5.ch hc (hno _ (.inr (.inl rfl))),?_,hH.m.pres (hc.block _ hH.m.lt (hno _ (.inr (.inr (.inr (.inl rfl)))))),hH.mc.pres (hc.block _ hH.mc.lt (hno _ (.inr (.inr (.inr (.inr (.inl rfl))))))),hl4,by omega,hH.d.ch hc (fun d hd=>hno d (.inr (.inr (.inr (.inr (.inr hd)))))),hDl3,hF⟩
  rw[← hL2']
  exact hH.p6.ch hc (hno _ (.inr (.inr (.inl rfl))))
theorem a1J {cur:Array Value}{xs:List Int}(ht:cur.toList.take (xs.length * aA.k)=xs.flatMap iC){i:Nat}(hi:i<xs.length):cur[i]?=some (I (xs.getD i 0)):=by
 have h1:aA.k=1:=rfl
 rw[h1,Nat.mul_one] at ht
 have h2:(xs.flatMap iC)[i]?=some (I (xs.getD i 0)):=by
  rw[jE (k:=1) (fun _=>rfl) (by decide),Nat.div_one,Nat.mod_one,List.getElem?_eq_getElem hi,List.getD_eq_getElem?_getD,List.getElem?_eq_getElem hi];rfl
 rw[← h2,← ht,List.getElem?_take,if_pos hi,Array.getElem?_toList]
theorem a1K {cur:Array Value}{xs:List Int}(hs:xs.length≤cur.size)(h:∀i,i<xs.length→cur[i]?=some (I (xs.getD i 0))):cur.toList.take (xs.length * aA.k)=xs.flatMap iC:=by
 have h1:aA.k=1:=rfl
 rw[h1,Nat.mul_one]
 refine List.ext_getElem? fun i=>?_
 rw[List.getElem?_take,jE (k:=1) (fun _=>rfl) (by decide),Nat.div_one,Nat.mod_one]
 by_cases hi:i<xs.length
 ·rw[if_pos hi,Array.getElem?_toList,h i hi,List.getElem?_eq_getElem hi,List.getD_eq_getElem?_getD,List.getElem?_eq_getElem hi];rfl
 ·rw[if_neg hi,List.getElem?_eq_none (by omega)];rfl
theorem iat {b i:Nat}:Value.pointer (some ⟨b,0+((i:Nat):Int).toNat * 1,none⟩)=Value.pointer (some ⟨b,i,none⟩):=by rw[Int.toNat_natCast,Nat.zero_add,Nat.mul_one]
theorem a1L {N:Nat}(xs:List Int)(v:Value)(W:World)(Ho:OwR aA 3 N G0 W xs v)(hl:xs.length≤100000):Calls Tryz.prog 141 #[v] W (fun en w'=>en=.returned (.tuple #[])∧Chg (fun b=>v.ownBlock=some b) W w'∧OwR aA 3 N G0 w' xs.reverse v):=by
 have hd:=Ho.sl
 obtain⟨n,hn⟩:∃n,n=xs.length:=⟨_,rfl⟩
 rcases Ho.rw pC with ⟨rfl,rfl⟩|⟨b,cap,cur,rfl,hc,HR,ht⟩
 ·refine enter (args:=[.slice none 0 0]) (As:=[E (.slice none 0 0)]) Tryz.func141 rfl Tryz.ntmps141 (Nat.le_of_ble_eq_true rfl) ?_ (fun a hf=>?_) (Nat.le_of_ble_eq_true rfl)
  rotate_left
  dsimp only[params,Nat.reduceAdd] at hf
  rotate_right
  ·exact arg1 rfl
  have e:=Ext.rfl' W
  refine seq ?_
  refine ac 3 hf (by decide +kernel) ?_
  refine st (mv rfl) ?_
  refine st (li dD rfl) ?_
  refine st ((sub rfl rfl (by omega)).eq ((rfl:_=I (-1)))) ?_
  refine en fun a w e' hf=>?_
  replace e:=e.tr e'
  refine ae hf rfl (by decide) fun a hf=>?_
  refine ae hf rfl (by decide) fun a hf=>?_
  refine aa ?_
  replace hf:=hf.kp [0,2,3]
  refine blk (aW (fun r0 a w=>Fr 28 a w [(0,E (.slice none 0 0)),(2,E (I 0)),(3,E (I (-1)))]∧Ext W w) 0 ⟨hf,e⟩ ?_)
  clear hf e
  rintro r0 a w ⟨hf,e⟩
  repeat refine seq ?_
  refine ac 3 hf (by decide +kernel) ?_
  refine st (mv rfl) ?_
  refine st (mv rfl) ?_
  refine st ((lss rfl rfl).eq (congrArg Value.bool ((decide_eq_false (by decide):_=false)))) ?_
  refine en fun a w e' hf=>?_
  replace e:=e.tr e'
  refine aa ?_
  refine ifc hf rfl (fun h=>by cases h) (fun _=>aR ?_)
  simp only[Exit.then,Exit.inBlock,↓reduceIte]
  exact db rfl hf ⟨rfl,e.chg _,OwR.nil aA _ (Nat.le_trans Ho.base e.size) fun b hb=>hb.elim⟩
 ·have hav:=Ho.av
  have hsz:n≤cur.size:=by rw[HR.sz,hn];exact Nat.le_trans hc (Nat.le_of_eq (Nat.mul_one _).symm)
  have hcs:=HR.sz
  have hmx:=HR.mx
  have hlo:=HR.lo
  have hB:=HR.bl
  have hcell:∀i,i<n→cur[i]?=some (I (xs.getD i 0)):=fun i hi=>a1J ht (by omega)
  clear HR ht
  refine enter (args:=[.slice (some ⟨b,0,none⟩) xs.length cap]) (As:=[E (.slice (some ⟨b,0,none⟩) xs.length cap)]) Tryz.func141 rfl Tryz.ntmps141 (Nat.le_of_ble_eq_true rfl) ?_ (fun a hf=>?_) (Nat.le_of_ble_eq_true rfl)
  rotate_left
  dsimp only[params,Nat.reduceAdd] at hf
  rotate_right
  ·exact arg1 rfl
  rw[← hn] at hf
  have c:Chg (fun q=>q=b) W W:=Chg.rfl' _ _
  refine seq ?_
  refine ac 3 hf (by decide +kernel) ?_
  refine st (mv rfl) ?_
  refine st (li dD rfl) ?_
  refine st (sub rfl rfl (by omega)) ?_
  refine en fun a w e' hf=>?_
  replace c:=c.ext e'
  replace hB:=hB.ext e'
  refine ae hf rfl (by decide) fun a hf=>?_
  refine ae hf rfl (by decide) fun a hf=>?_
  refine aa ?_
  replace hf:=hf.upd 2 rfl (B:=E (I ((0:Nat):Int))) fun v h=>h
  replace hf:=hf.upd 3 rfl (B:=E (I ((n:Int) - 1 - ((0:Nat):Int)))) fun v h=>by rw[show v=_ from h];exact congrArg (Value.int .i64) (by omega)
  replace hf:=hf.kp [0,2,3]
  refine blk (aW (fun r0 a w=>∃(i:Nat) (cu:Array Value),n≤r0+i∧i≤n∧Fr 28 a w [(0,E (.slice (some ⟨b,0,none⟩) n cap)),(2,E (I (i:Nat))),(3,E (I ((n:Int) - 1 - ((i:Nat):Int))))]∧Chg (fun q=>q=b) W w∧Blk w b cu 3∧cu.size=cur.size ∧
   ∀k,k<n→cu[k]?=some (I (if k<i∨n≤k+i then xs.getD (n - 1 - k) 0 else xs.getD k 0))) n ⟨0,cur,Nat.le_refl _,Nat.zero_le _,hf,c,hB,rfl,fun k hk=>by rw[if_neg (by omega)];exact hcell k hk⟩ ?_)
  clear hf c hB
  rintro r0 a w ⟨i,cu,hr0,hin,hf,c,hB,hcu,hcc⟩
  by_cases hij:2 * i+1<n
  ·repeat refine seq ?_
   refine ac 3 hf (by decide +kernel) ?_
   refine st (mv rfl) ?_
   refine st (mv rfl) ?_
   refine st ((lss rfl rfl).eq (congrArg Value.bool ((decide_eq_true (by omega):_=true)))) ?_
   refine en fun a w e' hf=>?_
   replace c:=c.ext e'
   replace hB:=hB.ext e'
   refine aa ?_
   refine ifc hf rfl (fun _=>ar ?_) (fun h=>by cases h)
   simp only[Exit.then,Exit.inBlock,↓reduceIte]
   refine seq ?_
   refine blk ?_
   obtain⟨j,hj⟩:∃j,j=n - 1 - i:=⟨_,rfl⟩
   replace hf:=hf.upd 3 rfl (B:=E (I (j:Nat))) fun v h=>by rw[show v=_ from h];exact congrArg (Value.int .i64) (by omega)
   replace hf:=hf.kp [0,2,3]
   have ci:=hcc i (by omega)
   have cj:=hcc j (by omega)
   rw[if_neg (by omega)] at ci cj
   refine eP 15 [2,2,1,1,2,2,2,2,2,2,2,2,2] (Chg fun c=>c=b) (ct.one _) (fun w=>Blk w b (bD cu i #[I (xs.getD j 0)]) 3) (fun w w1 k h=>h.ext k) Mix.mix hf (by decide +kernel) (by decide +kernel) ?_
   refine jk (mv rfl) ?_
   refine jk (mv rfl) ?_
   refine jf (fun w1 h1=>mv rfl) ?_
   refine jf (fun w1 h1=>mv rfl) ?_
   refine jk (mv rfl) ?_
   refine jk (mv rfl) ?_
   refine jk ((idxS dD S3 rfl rfl (by omega)).eq (iat)) ?_
   refine jk (ld1 (v:=I (xs.getD j 0)) T3 rfl hB cj) ?_
   refine jk (mv rfl) ?_
   refine jk (mv rfl) ?_
   refine jk ((idxS dD S3 rfl rfl (by omega)).eq (iat)) ?_
   refine jk (ld1 (v:=I (xs.getD i 0)) T3 rfl hB ci) ?_
   refine jk ((idxS dD S3 rfl rfl (by omega)).eq (iat)) ?_
   refine jx (a0t T3 rfl rfl rfl hB (by omega)) ?_
   refine jp (fun w1 h1 HF1=>(idxS dD S3 rfl rfl (by omega)).eq (iat)) ?_
   refine je ?_
   refine fun a w hc HF hf=>?_
   try dsimp only[push] at hf
   replace c:=c.tr hc
   clear hc
   have z1:(bD cu i #[I (xs.getD j 0)]).size=cu.size:=gW (by show i+1≤_;omega)
   refine aO T3 hf rfl rfl rfl HF (by omega) fun w hg hsz' HB hf=>?_
   replace c:=c.gr hg (.inl rfl)
   clear hg HF hB
   refine aa ?_
   simp only[Exit.then,Exit.inBlock]
   replace hf:=hf.kp [0,2,3]
   refine ac 4 hf (by decide +kernel) ?_
   refine st (mv rfl) ?_
   refine st ((add rfl rfl (by omega)).eq (congrArg (Value.int .i64) (show ((i:Nat):Int)+1=((i+1:Nat):Int) from rfl))) ?_
   refine st (mv rfl) ?_
   refine st ((sub rfl rfl (by omega)).eq (congrArg (Value.int .i64) (show ((j:Nat):Int) - 1=(n:Int) - 1 - ((i+1:Nat):Int) by omega))) ?_
   refine en fun a w e' hf=>?_
   replace c:=c.ext e'
   replace HB:=HB.ext e'
   refine ae hf rfl (by decide) fun a hf=>?_
   refine ae hf rfl (by decide) fun a hf=>?_
   refine aa ?_
   replace hf:=hf.kp [0,2,3]
   refine⟨r0 - 1,by omega,i+1,_,by omega,by omega,hf,c,HB,by rw[Array.size_setIfInBounds,z1,hcu],fun k hk=>?_⟩
   by_cases h1:k=j
   ·subst h1
    rw[Array.getElem?_setIfInBounds_self_of_lt (by omega),if_pos (by omega),show n - 1 - k=i by omega]
   ·rw[Array.getElem?_setIfInBounds_ne (by omega),a0s (by omega)]
    by_cases h2:k=i
    ·subst h2
     rw[if_pos rfl,if_pos (by omega),hj]
    ·rw[if_neg h2,hcc k hk]
     by_cases h3:k<i∨n≤k+i
     ·rw[if_pos h3,if_pos (by omega)]
     ·rw[if_neg h3,if_neg (by omega)]
  ·have hnn:=hij
   repeat refine seq ?_
   refine ac 3 hf (by decide +kernel) ?_
   refine st (mv rfl) ?_
   refine st (mv rfl) ?_
   refine st ((lss rfl rfl).eq (congrArg Value.bool ((decide_eq_false (by omega):_=false)))) ?_
   refine en fun a w e' hf=>?_
   replace c:=c.ext e'
   replace hB:=hB.ext e'
   refine aa ?_
   refine ifc hf rfl (fun h=>by cases h) (fun _=>aR ?_)
   simp only[Exit.then,Exit.inBlock,↓reduceIte]
   have hRR:RwR aA.k 3 N cap b cu w:=⟨hB,hlo,hcu.trans hcs,hmx⟩
   have hrl:xs.reverse.length=xs.length:=List.length_reverse
   have hgo:cu.toList.take (xs.reverse.length * aA.k)=xs.reverse.flatMap iC:=a1K (by omega) fun k hk=>by
    rw[hcc k (by omega)]
    have e1:xs.reverse.getD k 0=xs.getD (n - 1 - k) 0:=by
     rw[List.getD_eq_getElem?_getD,List.getD_eq_getElem?_getD,List.getElem?_reverse (by omega),hn]
    rw[e1]
    by_cases h3:k<i∨n≤k+i
    ·rw[if_pos h3]
    ·rw[if_neg h3,show n - 1 - k=k by omega]
   have hO:=hRR.own (xs:=xs.reverse) (G:=G0) pC (by omega) hgo hav
   rw[hrl,← hn] at hO
   exact db rfl hf ⟨rfl,c.to fun q _ h=>by rw[h];rfl,by rw[← hn];exact hO⟩
theorem a1M {G:Nat→Prop}(t:List Int)(v:Value)(W:World)(h0:0<W.heap.size)(h:(Dv (slE aA) G t).p v W)(hl:t.length≤4096) :
  Calls Tryz.prog 140 #[v] W (Post (OwA aA 3 W.heap.size G0 t) W):=by
 have hG:∀b,G0 b→b<W.heap.size:=fun b hb=>hb.elim
 have HV:(Dv (slE aA) (GB W G0) t).p v W:=Dv.toB (Dv.weak h fun b _ hb=>hb.elim)
 have hv:∃ao n c,v=.slice ao n c∧(ao=none→t=[]∧v=.slice none 0 0):=by
  rcases Dv.sl.1 h with ⟨rfl,rfl⟩|⟨ad,cap,cs,rfl,_⟩
  ·exact⟨none,0,0,rfl,fun _=>⟨rfl,rfl⟩⟩
  ·exact⟨_,_,_,rfl,fun h=>by cases h⟩
 obtain⟨ao,n,c,hv1,hv2⟩:=hv
 refine enter (args:=[v]) (As:=[E v]) Tryz.func140 rfl Tryz.ntmps140 (Nat.le_of_ble_eq_true rfl) ?_ (fun a hf=>?_) (Nat.le_of_ble_eq_true rfl)
 rotate_left
 dsimp only[params,Nat.reduceAdd] at hf
 rotate_right
 ·exact arg1 rfl
 have e:=Ext.rfl' W
 rw[hv1] at hf
 refine seq ?_
 refine aj ?_
 refine ae hf rfl (by decide) fun a hf=>?_
 refine aa ?_
 repeat refine seq ?_
 refine ac 2 hf (by decide +kernel) ?_
 refine st (mv rfl) ?_
 refine st (vg dD rfl) ?_
 refine en fun a w e' hf=>?_
 replace HV:=Dv.ex HV e'
 replace e:=e.tr e'
 refine aa ?_
 refine ifc hf rfl (fun hb=>?_) (fun hb=>?_)
 ·have hn:ao=none:=by cases ao <;> simp at hb ⊢
  obtain⟨h1,_⟩:=hv2 hn
  subst h1
  refine seq ?_
  refine aj ?_
  refine ae hf rfl (by decide) fun a hf=>?_
  refine aa ?_
  refine an ?_
  simp only[Exit.then,Exit.inBlock]
  refine az rfl hf rfl ?_
  rintro _ rfl
  exact⟨_,rfl,e,OwR.nil aA _ e.size fun b hb=>hb.elim⟩
 ·refine ar ?_
  simp only[Exit.then,Exit.inBlock,↓reduceIte]
  refine seq ?_
  refine aj ?_
  refine nJ W.heap.size G0 aA dD S3 hf (by decide) e.size hG fun a v w e' hov Ho hf=>?_
  replace HV:=Dv.ex HV e'
  replace e:=e.tr e'
  clear e'
  refine aB hf (by decide) (mv rfl) fun a w e' hf=>?_
  replace HV:=Dv.ex HV e'
  replace e:=e.tr e'
  replace Ho:=Ho.ext e'
  clear e'
  haveI hin:∀G0,InR (GB W G0) _:=OwR.inGB (W:=W) Ho (Nat.le_refl _)
  refine bQ dD I3 rfl rfl hf (by decide) rfl Ho (isE rfl (by rw[← hv1];exact Dv.weak HV fun b _ hb=>hb.elim (fun h=>h.elim) (fun h=>.inr (Ho.row (Nat.le_refl _) b h)))) (by simp only[List.length_nil];omega) (by simp only[List.length_nil,maxLen];omega) fun a v w hg hat Hn hf=>?_
  replace e:=e.gro hg (Ho.row (W:=W) (Nat.le_refl _))
  replace Ho:=Hn;clear Hn hg hat hin
  refine ae hf rfl (by decide) fun a hf=>?_
  refine aa ?_
  refine an ?_
  refine az rfl hf rfl ?_
  rintro _ rfl
  exact⟨_,rfl,e,(by have:=Ho;simp only[List.nil_append] at this;exact this)⟩
theorem a1N {G:Nat→Prop}(t:List Int)(v:Value)(W:World)(h0:0<W.heap.size)(h:(Dv (slE aA) G t).p v W)(hl:t.length≤4096) :
  Calls Tryz.prog 125 #[v] W (Post (Dv (slE aA) G0 t.reverse) W):=by
 refine enter (args:=[v]) (As:=[E v]) Tryz.func125 rfl Tryz.ntmps125 (Nat.le_of_ble_eq_true rfl) ?_ (fun a hf=>?_) (Nat.le_of_ble_eq_true rfl)
 rotate_left
 dsimp only[params,Nat.reduceAdd] at hf
 rotate_right
 ·exact arg1 rfl
 have e:=Ext.rfl' W
 refine seq ?_
 refine aj ?_
 refine ae hf rfl (by decide) fun a hf=>?_
 refine aa ?_
 have e0:=e
 obtain⟨Nw,hNw⟩:∃Nw,Nw=W.heap.size:=⟨_,rfl⟩
 have hv0:(Dv (slE aA) G0 t).p v W:=Dv.weak h fun b _ hb=>hb.elim
 refine seq ?_
 refine ac 2 hf (by decide +kernel) ?_
 refine st (mv rfl) ?_
 refine st (aw (A:=OwA aA 3 Nw G0 t) (B:=E v) un rfl (fun u w he k=>by cases k;exact (a1M t v w (by have:=he.size;have:=e0.size;omega) (VA.st _ _ _ _ (Ext.tr e0 he) hv0) hl).mono fun en w' ⟨u,k1,k2,k3⟩=>⟨u,k1,k2,OwR.low k3 (by rw[hNw];exact (Ext.tr e0 he).size) fun b hb=>hb.elim⟩)) ?_
 refine en fun a w e' hf=>?_
 replace e:=e.tr e'
 refine ae hf rfl (by decide) fun a hf=>?_
 refine aa ?_
 obtain⟨u,Ho,hf⟩:=hf.opn 3 rfl
 replace Ho:OwR aA 3 Nw G0 w t u:=Ho
 replace hf:=hf.kp [2,3]
 refine seq ?_
 refine ac 1 hf (by decide +kernel) ?_
 refine st (mv rfl) ?_
 refine en fun a w e' hf=>?_
 replace Ho:=Ho.ext e'
 replace e:=e.tr e'
 clear e'
 refine cq (S:=fun b=>u.ownBlock=some b) (F:=fun z w'=>z=.tuple #[]∧OwR aA 3 Nw G0 w' t.reverse u) hf (by decide) uq ?_ fun a z w hc hF hf=>?_
 ·have e1:a.eval (.tmp 6)=u:=hf.opd (.tmp 6) _ rfl
  simp only[List.map_toArray,List.map_cons,List.map_nil,e1]
  exact (a1L t u _ Ho (by omega)).mono fun en w' ⟨k1,k2,k3⟩=>⟨_,k1,k2,rfl,k3⟩
 obtain⟨rfl,Ho2⟩:=hF
 replace e:=e.ch hc fun b hb=>by rw[← hNw];exact (Ho.lt hb).1
 clear hc Ho
 refine aa ?_
 replace hf:=hf.kp [2,3]
 refine seq ?_
 refine ac 1 hf (by decide +kernel) ?_
 refine st (mv rfl) ?_
 refine en fun a w e' hf=>?_
 replace Ho2:=Ho2.ext e'
 replace e:=e.tr e'
 refine ae hf rfl (by decide) fun a hf=>?_
 refine aa ?_
 refine an ?_
 refine az rfl hf rfl ?_
 rintro _ rfl
 exact⟨_,rfl,e,Ho2.sl⟩
theorem a1O (id:Nat)(r:BS)(xs:List Int)(b3:Nat)(v:Value)(W:World)(h3:Blk W b3 #[v] 129)(Ho:OwR aA 3 1 G0 W xs v)(hl:xs.length≤2000000) :
  Calls Tryz.prog 124 #[I (id:Nat),ah r,ptr b3] W (fun en w'=>en=.returned (.tuple #[])∧∃v',Chg (fun b=>b=b3∨v.ownBlock=some b) W w'∧Blk w' b3 #[v'] 129∧OwR aA 3 1 G0 w' (xs++[(id:Int)]) v'∧OwL W v v'):=by
 have hT0:b3<W.heap.size:=h3.lt
 refine enter (args:=[I (id:Nat),ah r,ptr b3]) (As:=[E (I (id:Nat)),E (ah r),E (ptr b3)]) Tryz.func124 rfl Tryz.ntmps124 (Nat.le_of_ble_eq_true rfl) ?_ (fun a hf=>?_) (Nat.le_of_ble_eq_true rfl)
 rotate_left
 dsimp only[params,Nat.reduceAdd] at hf
 rotate_right
 ·exact eH rfl rfl rfl
 have e:=Ext.rfl' W
 refine seq ?_
 refine aj ?_
 refine aJ hf rfl (by decide) fun a b4 w v4 hv4 e' hb4 hs4 B4 hf=>?_
 have hle4:=Nat.le_trans e.size (Nat.le_of_eq hb4.symm)
 have ne4_Ho:=Ho.ne_new hb4
 replace Ho:=Ho.ext e'
 replace e:=e.tr e'
 replace h3:=h3.ext e'
 refine aa ?_
 replace hf:=hf.kp [0,2]
 refine ac 3 hf (by decide +kernel) ?_
 refine st (ld1 (v:=v) kE rfl h3 rfl) ?_
 refine st (mv rfl) ?_
 refine st (bL (e:=aA) (G:=GO G0 v) dD I3 rfl (by decide) rfl Ho.avs (isI rfl)) ?_
 refine en fun a w e' hf=>?_
 replace Ho:=Ho.ext e'
 replace e:=e.tr e'
 replace h3:=h3.ext e'
 replace B4:=B4.ext e'
 clear e'
 replace hf:=hf.kp [2,5,7]
 have hn3:=Ho.neB h3 (by decide)
 have hsz0:=e.size
 refine bQ dD I3 rfl rfl hf (by decide) rfl Ho (isR rfl) (by simp only[List.length_singleton];omega) (by simp only[List.length_singleton,maxLen];omega) fun a v2 w2 hg hat Hn hf=>?_
 have hsz2:=hg.size
 replace h3:=h3.gro hg hn3
 have hle2:OwL W v v2:=fun b hb=>hat.elim (fun h=>.inl (by rw[← h];exact hb)) fun h=>.inr (by rw[h] at hb;cases hb;exact hsz0)
 have hn5:=Hn.neB h3 (by decide)
 replace hf:=hf.kp [2,8]
 refine aO kE hf rfl rfl Hn.one h3 Nat.zero_lt_one fun w4 hg2 hsz h3 hf=>?_
 refine aa ?_
 refine db rfl hf ⟨rfl,v2,?_,h3,Hn.grE hg2 hn5,hle2⟩
 exact ((e.chg _).tr2 (Chg.row hg) fun b hb=>.inl (.inr hb)).gr hg2 (.inl (.inl rfl))
structure MsJ (W:World)(g:GT)(b3 k:Nat)(K:Nat→Prop)(v:Value)(w:World):Prop where
 p3:Blk w b3 #[v] 129
 o:OwR aA 3 1 G0 w ((List.range k).map fun i=>(mU (nbA g) (ai g.1) i:Int)) v
 k:∀b,v.ownBlock=some b→W.heap.size≤b∧¬K b
theorem a1P {G:Nat→Prop}{N:Nat}(g:GT)(ok:Gr.Ok g)(gv:Value)(W:World)(hT:Tab W)(h:(Dv (ptE (grE N)) G (some g)).p gv W)(hl1:g.1.length≤100000)(hl2:g.2.length≤100000)(hN:N≤1000000) :
  Calls Tryz.prog 89 #[gv] W (Post (Dv (slE aA) G0 ((List.range (card (ai g.1))).map fun i=>(mU (nbA g) (ai g.1) i:Int)).reverse) W):=by
 have hT0:=hT.lt
 refine enter (args:=[gv]) (As:=[E gv]) Tryz.func89 rfl Tryz.ntmps89 (Nat.le_of_ble_eq_true rfl) ?_ (fun a hf=>?_) (Nat.le_of_ble_eq_true rfl)
 rotate_left
 dsimp only[params,Nat.reduceAdd] at hf
 rotate_right
 ·exact arg1 rfl
 have e:=Ext.rfl' W
 refine seq ?_
 refine aj ?_
 refine ae hf rfl (by decide) fun a hf=>?_
 refine aa ?_
 replace hf:=hf.kp [0,2]
 refine seq ?_
 refine aj ?_
 refine aC sT hf (by decide) fun a b3 w e' hb3 hs3 B3 hf=>?_
 have hle3:=Nat.le_trans e.size (Nat.le_of_eq hb3.symm)
 replace hT:=hT.ext e'
 replace e:=e.tr e'
 refine aa ?_
 replace B3:Blk w b3 #[.slice none 0 0] 129:=B3
 replace hf:=hf.kp [0,2,3]
 refine seq ?_
 refine ac 2 hf (by decide +kernel) ?_
 refine st (mv rfl) ?_
 refine st (io rfl) ?_
 refine en fun a w e' hf=>?_
 replace hT:=hT.ext e'
 replace e:=e.tr e'
 replace B3:=B3.ext e'
 clear e'
 obtain⟨W1,hW1⟩:∃W1,W1=w:=⟨_,rfl⟩
 have l3:=B3.lt
 have hn:card (ai g.1)≤1024:=ek fun i hi=>aG hi
 have hwW:=e.size
 refine cq (S:=fun b=>b=b3) (F:=fun z w'=>z=.tuple #[]∧∃K v,MsJ W1 g b3 (card (ai g.1)) K v w') hf (by decide) nf ?_ fun a z w hc hF hf=>?_
 ·have e1:a.eval (.tmp 4)=gv:=hf.opd (.tmp 4) _ rfl
  have e2:a.eval (.tmp 5)=.func (.func 124) #[] #[ptr b3]:=hf.opd (.tmp 5) _ rfl
  simp only[List.map_toArray,List.map_cons,List.map_nil,e1,e2]
  rw[hW1]
  refine (sx g ok gv 124 #[ptr b3] (fun b=>b=b3) (fun k K w'=>∃v,MsJ w g b3 k K v w') w hT (VA.st _ _ _ _ e h) hl1 hl2 hN uj (fun b hb=>by subst hb;omega) (fun k K w1 w2 hK ⟨v,hJ⟩ c=>⟨v,hJ.p3.ch c (fun hh=>by have:=hK _ hh;omega),hJ.o.chE c (fun b hb hh=>(hJ.k b hb).2 hh),hJ.k⟩) (fun k K K' w1 hK ⟨v,hJ⟩=>⟨v,hJ.p3,hJ.o,fun b hb=>⟨(hJ.k b hb).1,fun hh=>(hK b hh).elim (hJ.k b hb).2 fun hh=>by have:=(hJ.o.lt hb).2;omega⟩⟩) ?_ ⟨.slice none 0 0,B3,OwR.nil aA _ (by omega) (fun b hb=>hb.elim),fun b hb=>by simp[Value.ownBlock] at hb⟩).mono fun en w' ⟨k1,k2,K,_,v,hJ⟩=>⟨_,k1,k2,rfl,K,v,hJ⟩
  rintro k hk K w1 hK hws hT1 ⟨v,hJ⟩
  refine (a1O (mU (nbA g) (ai g.1) k) (mR (nbA g) (ai g.1) k) _ b3 v w1 hJ.p3 hJ.o (by rw[List.length_map,List.length_range];omega)).mono fun en w' ⟨k1,v',k2,k3,k4,k5⟩=>⟨k1,?_,v',k3,?_,fun b hb=>?_⟩
  ·exact k2.to fun b _ hb=>hb.imp (fun h=>h) (hJ.k b)
  ·rw[List.range_succ,List.map_append]
   exact k4
  ·exact (k5 b hb).elim (hJ.k b) fun hh=>⟨by omega,fun hK'=>by have:=(hK b hK').2;omega⟩
 obtain⟨rfl,K,v,hJ⟩:=hF
 rw[← hW1] at e hwW l3 hc
 have hb3:W.heap.size≤b3:=hle3
 replace e:=e.ch hc fun b (hb:b=b3)=>by rw[hb];exact hb3
 clear hc hW1
 obtain⟨B3,Ho,_⟩:=hJ
 refine aa ?_
 replace hf:=hf.kp [2,3]
 have e3:=e
 have hos:=Ho.sl
 have hll:((List.range (card (ai g.1))).map fun i=>(mU (nbA g) (ai g.1) i:Int)).length≤4096:=by rw[List.length_map,List.length_range];omega
 refine seq ?_
 refine ac 2 hf (by decide +kernel) ?_
 refine st (ld1 (v:=v) kE rfl B3 rfl) ?_
 refine st (aw (A:=Dv (slE aA) G0 ((List.range (card (ai g.1))).map fun i=>(mU (nbA g) (ai g.1) i:Int)).reverse) (B:=E v) uk rfl (fun u w he k=>by cases k;exact a1N _ v w (by have:=he.size;have:=e3.size;omega) (VA.st _ _ _ _ he hos) hll)) ?_
 refine en fun a w e' hf=>?_
 replace e:=e.tr e'
 replace B3:=B3.ext e'
 refine ae hf rfl (by decide) fun a hf=>?_
 refine aa ?_
 refine an ?_
 refine az rfl hf rfl ?_
 intro v hv
 exact⟨_,rfl,e,hv⟩
end Go.Mono
namespace Go.MonoD
open Go Go.Proofs Go.RowKit Go.Mono
theorem cmpF_spec (x y:(Int×Int)×(Int×Int))(W:World):Calls Tryz.prog 22 #[.agg #[.int .i64 x.1.1,.int .i64 x.1.2,.int .u8 x.2.1,.int .i64 x.2.2],.agg #[.int .i64 y.1.1,.int .i64 y.1.2,.int .u8 y.2.1,.int .i64 y.2.2]] W (Post (E (I (orI (cmpI x.1.1 y.1.1) (cmpI x.1.2 y.1.2)))) W):=by
 refine enter (args:=[.agg #[.int .i64 x.1.1,.int .i64 x.1.2,.int .u8 x.2.1,.int .i64 x.2.2],.agg #[.int .i64 y.1.1,.int .i64 y.1.2,.int .u8 y.2.1,.int .i64 y.2.2]]) (As:=[E (.agg #[.int .i64 x.1.1,.int .i64 x.1.2,.int .u8 x.2.1,.int .i64 x.2.2]),E (.agg #[.int .i64 y.1.1,.int .i64 y.1.2,.int .u8 y.2.1,.int .i64 y.2.2])]) Tryz.func22 rfl Tryz.ntmps22 (Nat.le_of_ble_eq_true rfl) ?_ (fun a hf=>?_) (Nat.le_of_ble_eq_true rfl)
 rotate_left
 dsimp only[params,Nat.reduceAdd] at hf
 rotate_right
 ·exact arg2 rfl rfl
 have e:=Ext.rfl' W
 refine seq ?_
 refine aj ?_
 refine aJ hf rfl (by decide) fun a b2 w v2 hv2 e' hb2 hs2 B2 hf=>?_
 have hle2:=Nat.le_trans e.size (Nat.le_of_eq hb2.symm)
 replace e:=e.tr e'
 clear e'
 refine aJ hf rfl (by decide) fun a b3 w v3 hv3 e' hb3 hs3 B3 hf=>?_
 have hle3:=Nat.le_trans e.size (Nat.le_of_eq hb3.symm)
 have lt3_B2:=B2.lt
 replace e:=e.tr e'
 replace B2:=B2.ext e'.toBelow
 refine ae hf rfl (by decide) fun a hf=>?_
 refine aa ?_
 cases hv2;cases hv3
 refine seq ?_
 refine reg 12 Mix.mix hf (by decide +kernel) ?_
 refine st (am Tryz.underlying36 rfl T3 (by decide) rfl) ?_
 refine st (ld1 T3 rfl B2 rfl) ?_
 refine st (am Tryz.underlying36 rfl T3 (by decide) rfl) ?_
 refine st (ld1 T3 rfl B3 rfl) ?_
 refine st (aD Mono.En24 rfl rfl (fun v u w he h h'=>iK x.1.1 y.1.1 v u w h h')) ?_
 refine st (am Tryz.underlying36 rfl T3 (by decide) rfl) ?_
 refine st (ld1 T3 rfl B2 rfl) ?_
 refine st (am Tryz.underlying36 rfl T3 (by decide) rfl) ?_
 refine st (ld1 T3 rfl B3 rfl) ?_
 refine st (aD Mono.En24 rfl rfl (fun v u w he h h'=>iK x.1.2 y.1.2 v u w h h')) ?_
 refine st (qt Tryz.underlying39 Mono.I3 rfl rfl rfl) ?_
 refine st (aw Mono.En23 rfl (fun v w he h=>by obtain⟨b,rfl,hB⟩:=h;exact qu _ _ b w hB)) ?_
 refine en fun a w e' hf=>?_
 replace e:=e.tr e'
 replace B2:=B2.ext e'.toBelow
 replace B3:=B3.ext e'.toBelow
 refine ae hf rfl (by decide) fun a hf=>?_
 refine aa ?_
 refine an ?_
 refine az rfl hf rfl ?_
 rintro _ rfl
 exact⟨_,rfl,e,rfl⟩
end Go.MonoD
namespace Go.Mono
open Go Go.Proofs Go.RowKit Go.Gr Go.Ms Go.Sort
theorem a1Q {B:Nat}{G:Nat→Prop}{w:World}{xs:List ET}{v:Value}(Ho:OwR etE 36 B G w xs v)(hl:xs.length≤100000) :
  Calls Tryz.prog 21 #[v,.func (.func 22) #[] #[]] w fun en w'=>en=.returned (.tuple #[])∧∃xs',xs'.Perm xs∧OwR etE 36 B G w' xs' v∧Chg (fun b=>v.ownBlock=some b) w w':=
 (jG (e:=etE) Tryz.sortE (fun w=>T36.agg w) (fun w=>T36.size w) etL qy (fun _=>rfl) (fun x u hu=>by simp[etL] at hu;rcases hu with rfl|rfl|rfl|rfl <;> rfl) _ qx 22 tj
  (fun x y W=>(MonoD.cmpF_spec x y W).mono fun en w' ⟨u,h1,h2,h3⟩=>by cases h3;exact⟨h1,h2.grown⟩) Ho hl).mono fun en w' ⟨h1,xs',h2,h3,h4,h5⟩=>⟨h1,xs',h2,h4,h5⟩
def eF (p:Nat×Nat):ET:=(((p.1:Int),(p.2:Int)),(0,0))
theorem a1R (u v:Nat):Tryz.prog.built 36 [(0,I (u:Nat)),(1,I (v:Nat))]=some #[I (u:Nat),I (v:Nat),.int .u8 0,.int .i64 0]:=by kernel_rfl
structure FiJ (W:World)(g:GT)(N:Nat)(gv:Value)(b1 b3 k:Nat)(K:Nat→Prop)(v:Value)(w:World):Prop where
 p1:Blk w b1 #[gv] 28
 p3:Blk w b3 #[v] 31
 o:OwR etE 36 1 Go.Mono.G0 w ((flL (nbA g) (ai g.1) k).map eF) v
 k:∀b,v.ownBlock=some b→W.heap.size≤b∧¬K b
 g:(Dv (ptE (grE N)) (fun b=>W.heap.size≤b∨b=b3) (some g)).p gv w
structure FlW (w0:World)(v0:Value)(b3 b4 B:Nat)(id:Nat)(xs:List ET)(s:List Nat)(v:Value)(w:World):Prop where
 c:Chg (fun b=>b=b3∨v0.ownBlock=some b) w0 w
 t:Tab w
 p3:Blk w b3 #[v] 31
 p4:Blk w b4 #[I (id:Nat)] 3
 o:OwR etE 36 1 Go.Mono.G0 w (xs++s.map fun x=>eF (min id x,max id x)) v
 l:OwL w0 v0 v
 k:∀b,v.ownBlock=some b→¬aT B b
theorem FlW.kp {w0:World}{v0 v:Value}{b3 b4 B id:Nat}{xs:List ET}{s:List Nat}{w w':World}(h:FlW w0 v0 b3 b4 B id xs s v w)(k:Kp B w w')(hW:w0.heap.size≤B)(h0:0<B)(l3:b3<B)(l4:b4<B):FlW w0 v0 b3 b4 B id xs s v w':=
 ⟨h.c.kp k hW,h.t.kp k h0,h.p3.kp k (fun hh=>by have:=hh.1;omega),h.p4.kp k (fun hh=>by have:=hh.1;omega),h.o.chE k.chg h.k,h.l,h.k⟩
theorem a1S {G:Nat→Prop}{N:Nat}(g:GT)(ok:Gr.Ok g)(gv:Value)(id:Nat)(r:BS)(xs:List ET)(b1 b3:Nat)(v:Value)(W:World)(hT:Tab W)(hid:id<1024)(hg:(Dv (ptE (grE N)) G (some g)).p gv W)(h1:Blk W b1 #[gv] 28)(h3:Blk W b3 #[v] 31)(Ho:OwR etE 36 1 Go.Mono.G0 W xs v)(hb3:0<b3)(hl2:g.2.length≤100000)(hN:N≤1000000)(hl:xs.length≤2000000) :
  Calls Tryz.prog 17 #[I (id:Nat),ah r,ptr b1,ptr b3] W (fun en w'=>en=.returned (.tuple #[])∧∃v',Chg (fun b=>b=b3∨v.ownBlock=some b) W w'∧Blk w' b3 #[v'] 31∧OwR etE 36 1 Go.Mono.G0 w' (xs++(elems (r &&& ~~~nbG g.2 (id:Int))).map fun x=>eF (min id x,max id x)) v'∧OwL W v v'):=by
 have hv:(Dv (ptE (grE N)) Go.Mono.G0 (some g)).p gv W:=Dv.weak hg fun b _ hb=>hb.elim
 clear hg
 have gs2:=ok.se
 have hT0:=hT.lt
 have l3W:=h3.lt
 have hownW:∀b,v.ownBlock=some b→b<W.heap.size:=fun b hb=>(Ho.lt hb).2
 refine dr (args:=[I (id:Nat),ah r,ptr b1,ptr b3]) (As:=[E (I (id:Nat)),E (ah r),E (ptr b1),E (ptr b3)]) Tryz.func17 rfl Tryz.ntmps17 (Nat.le_of_ble_eq_true rfl) ?_ (fun a hf=>?_) (Nat.le_of_ble_eq_true rfl)
 ·exact bq rfl (bq rfl (bq rfl (bq rfl dG)))
 dsimp only[params,Nat.reduceAdd] at hf
 have e:=Ext.rfl' W
 refine seq ?_
 refine aj ?_
 refine aJ hf rfl (by decide) fun a b4 w v4 hv4 e' hb4 hs4 B4 hf=>?_
 have hle4:=Nat.le_trans e.size (Nat.le_of_eq hb4.symm)
 have ne4_Ho:=Ho.ne_new hb4
 replace Ho:=Ho.ext e'
 replace hT:=hT.ext e'
 replace e:=e.tr e'
 replace h1:=h1.ext e'
 replace h3:=h3.ext e'
 clear e'
 refine aJ hf rfl (by decide) fun a b5 w v5 hv5 e' hb5 hs5 B5 hf=>?_
 have hle5:=Nat.le_trans e.size (Nat.le_of_eq hb5.symm)
 have ne5_Ho:=Ho.ne_new hb5
 have lt5_B4:=B4.lt
 replace Ho:=Ho.ext e'
 replace hT:=hT.ext e'
 replace e:=e.tr e'
 replace h1:=h1.ext e'
 replace h3:=h3.ext e'
 replace B4:=B4.ext e'
 refine aa ?_
 cases hv4;cases hv5
 replace B4:Blk w b4 #[I (id:Nat)] 3:=B4
 replace B5:Blk w b5 (au r) 47:=B5
 obtain⟨S,hS⟩:∃S,S=r &&& ~~~nbG g.2 (id:Int):=⟨_,rfl⟩
 obtain⟨Nz,hNz⟩:∃Nz,Nz=w.heap.size:=⟨_,rfl⟩
 have e0:=e
 replace hf:=hf.kp [2,3,4,5]
 refine seq ?_
 refine reg 6 Mix.mix hf (by decide +kernel) ?_
 refine st ((ldW T47 rfl B5 rfl).eq ((rfl:_=ah r))) ?_
 refine st (ld1 (v:=gv) T28 rfl h1 rfl) ?_
 refine st (ld1 (v:=I (id:Nat)) T3 rfl B4 rfl) ?_
 refine st (aD (A:=E (ah (nbG g.2 (id:Int)))) dT rfl rfl (fun v u w he k1 k2=>by cases k1;cases k2;exact eT g _ _ w (VA.st _ _ _ _ (Ext.tr e0 he) hv) gs2 hl2 hN)) ?_
 refine st (aD (A:=E (ah S)) dC rfl rfl (fun v u w he h h'=>by cases h;cases h';rw[hS];exact dK _ _ w)) ?_
 refine st (aw (A:=cC Nz S) cJ rfl (fun v w' he h=>by cases h;exact Calls.mono (cM _ w') (fun en w2 ⟨u,h1,h2,b',h3,h4,h5⟩=>⟨u,h1,h2,b',by have:=he.size;omega,h4,h5⟩))) ?_
 refine en fun a w e' hf=>?_
 replace Ho:=Ho.ext e'
 replace hT:=hT.ext e'
 replace e:=e.tr e'
 replace h1:=h1.ext e'
 replace h3:=h3.ext e'
 replace B4:=B4.ext e'
 replace B5:=B5.ext e'
 refine aa ?_
 obtain⟨vv,⟨b12,h12,rfl,BS⟩,hf⟩:=hf.fix 12 rfl
 replace hf:=hf.kp [3,4,12]
 have hBW:W.heap.size≤w.heap.size:=e.size
 have h0w:0<w.heap.size:=hT.lt
 have l4:=B4.lt
 have l3:=h3.lt
 have n34:b3≠b4∧W.heap.size≤b4:=by omega
 refine blk ?_
 refine cS (S:=S) hf rfl BS (by decide) (fun sl w1=>∃v',FlW W v b3 b4 w.heap.size id xs sl v' w1) (fun _ _=>False) (fun sl w1 ⟨_,h⟩=>h.t)
  ⟨v,e.chg _,hT,h3,B4,by simpa using Ho,fun b hb=>.inl hb,fun b hb hH=>by have:=hownW b hb;have:=hH.1;omega⟩ (fun sl w1 w2 ⟨v1,h⟩ hs k=>⟨v1,h.kp k hBW h0w l3 l4⟩) (fun _ _ _ h=>h.elim) ?_ ?_ (fun _ _ _ _ _ _ h=>h.elim)
 ·intro lb sl x rest a1 w1 hs hJ hlw hf
  have hx1024:x<1024:=(aK.1 (by rw[hs];simp)).1
  have hsl:sl.length<1024:=by have:=cD S;rw[hs] at this;simp at this;omega
  generalize hBz:w.heap.size=Bz at *
  refine aj ?_
  refine ae hf rfl (by decide) fun a hf=>?_
  refine aa ?_
  simp only[Exit.then]
  refine⟨Kh.rfl' _ _,fun w3 k3 hsz3=>?_⟩
  obtain⟨v1,hJ⟩:=hJ
  have hJ3:=hJ.kp k3 hBW h0w l3 l4
  have hw3:Bz+3≤w3.heap.size:=by omega
  clear e hT h1 h3 B4 B5 Ho BS hJ
  replace hf:=hf.pure w3
  obtain⟨c,hT,B3,B4,Ho,hle,hk⟩:=hJ3
  have kh:=Kh.rfl' Bz w3
  replace hf:=hf.kp [3,4,6]
  refine blk ?_
  obtain⟨ys,hys⟩:∃ys,ys=xs++sl.map fun x=>eF (min id x,max id x):=⟨_,rfl⟩
  have hyl:ys.length≤2002000:=by rw[hys];simp;omega
  rw[← hys] at Ho
  refine ac 9 hf (by decide +kernel) ?_
  refine st (ld1 (v:=v1) T31 rfl B3 rfl) ?_
  refine st (ld1 (v:=I (id:Nat)) T3 rfl B4 rfl) ?_
  refine st (mv rfl) ?_
  refine st ((min2 rfl rfl).eq (congrArg (Value.int .i64) (show min ((id:Nat):Int) ((x:Nat):Int)=((min id x:Nat):Int) by omega))) ?_
  refine st (ld1 (v:=I (id:Nat)) T3 rfl B4 rfl) ?_
  refine st (mv rfl) ?_
  refine st ((max2 rfl rfl).eq (congrArg (Value.int .i64) (show max ((id:Nat):Int) ((x:Nat):Int)=((max id x:Nat):Int) by omega))) ?_
  refine st (bG [(0,_),(1,_)] rfl (a1R _ _)) ?_
  refine st (bL (e:=etE) (z:=eF (min id x,max id x)) (G:=GO Go.Mono.G0 v1) Tryz.underlying31 I36 rfl (by decide) rfl Ho.avs (dq (n:=eF (min id x,max id x)) rfl)) ?_
  refine en fun a w e' hf=>?_
  replace hT:=hT.ext e'
  replace Ho:=Ho.ext e'
  replace c:=c.ext e'
  replace kh:=kh.tr (Kh.ext e')
  replace hw3:=Nat.le_trans hw3 e'.size
  replace B3:=B3.ext e'
  replace B4:=B4.ext e'
  clear e'
  replace hf:=hf.kp [3,14,22]
  have hn3:=Ho.neB B3 (by decide)
  have hn4:=Ho.neB B4 (by decide)
  refine bQ Tryz.underlying31 I36 rfl rfl hf (by decide) rfl Ho (isR rfl) (by simp only[List.length_singleton];omega) (by simp only[List.length_singleton,maxLen];omega) fun a v2 w2 hg hat Hn hf=>?_
  have hsz2:=hg.size
  replace B3:=B3.gro hg hn3
  replace B4:=B4.gro hg hn4
  replace kh:=kh.tr (Kh.gro hg hk)
  have hle2:OwL W v v2:=fun b hb=>hat.elim (fun h=>hle b (by rw[← h];exact hb)) fun h=>.inr (by rw[h] at hb;cases hb;exact c.size)
  have hk2:∀b,v2.ownBlock=some b→¬aT Bz b:=fun b hb=>hat.elim (fun h=>hk b (by rw[← h];exact hb)) fun h hh=>by rw[h] at hb;cases hb;have:=hh.2;omega
  have hn5:=Hn.neB B3 (by decide)
  replace hf:=hf.kp [3,23]
  refine aO T31 hf rfl rfl Hn.one B3 Nat.zero_lt_one fun w4 hg2 hsz B3 hf=>?_
  replace B4:=B4.gr hg2 (by omega)
  replace kh:=kh.tr (Kh.gr hg2 (fun hh=>by have:=hh.1;omega))
  refine aa ?_
  simp only[Exit.inBlock]
  refine⟨⟨v2,?_,?_,B3,B4,?_,hle2,hk2⟩,kh⟩
  ·refine ((c.tr2 (Chg.row hg) fun b hb=>?_).gr hg2 (.inl (.inl rfl)))
   exact (hle b hb).imp .inr fun h=>h
  ·exact (hT.gro hg fun b hb=>(Ho.lt hb).1).gr hg2 hb3
  ·rw[List.map_append,← List.append_assoc,← hys]
   exact Hn.grE hg2 hn5
 ·intro a' w' hf' hJ hsz hDn
  simp only[Exit.inBlock,↓reduceIte,Exit.then]
  obtain⟨v1,c,hT,B3,B4,Ho,hle,hk⟩:=hJ
  have hD:Ds [w.heap.size] w':=(Ds.nil w').cons hDn (by simp)
  have hf:FrD 24 (bK [w.heap.size]) a' w' []:=hf'.keep []
  have hsh:=fR [w.heap.size] w'
  have hno:∀b,b∈[w.heap.size]→aT w.heap.size b:=fun b hb=>by rw[List.mem_singleton] at hb;rw[hb];exact⟨Nat.le_refl _,by omega⟩
  refine jr rfl hf hD ⟨rfl,v1,c.tr2 hsh fun b hb=>.inr (by have:=(hno b hb).1;omega),B3.ch hsh (fun h=>by have:=(hno _ h).1;omega),?_,hle⟩
  rw[← hS]
  exact Ho.chE hsh fun b hb h=>hk b hb (hno b h)
theorem a1T {xs:List ET}{L:List (Nat×Nat)}(h:xs.Perm (L.map eF)):∃F:List (Nat×Nat),xs=F.map eF∧F.Perm L:=by
 have bk:∀p:Nat×Nat,((eF p).1.1.toNat,(eF p).1.2.toNat)=p:=fun p=>rfl
 refine⟨xs.map fun x=>(x.1.1.toNat,x.1.2.toNat),?_,?_⟩
 ·rw[List.map_map]
  symm
  rw[List.map_eq_iff]
  intro i
  cases hx:xs[i]? with
  | none=>rfl
  | some x=>
   obtain⟨p,_,rfl⟩:=List.mem_map.1 (h.mem_iff.1 (List.mem_of_getElem? hx))
   rfl
 ·have:=h.map fun x:ET=>(x.1.1.toNat,x.1.2.toNat)
  rwa [List.map_map,show ((fun x:ET=>(x.1.1.toNat,x.1.2.toNat)) ∘ eF)=id from funext bk,List.map_id] at this
def sD (g:GT)(N:Nat):VA:=⟨fun u w=>∃F:List (Nat×Nat),F.Perm (flL (nbA g) (ai g.1) (card (ai g.1)))∧OwR etE 36 1 Go.Mono.G0 w (F.map eF) u∧∀b,u.ownBlock=some b→N≤b,fun _ _ _ e ⟨F,h1,h2,h3⟩=>⟨F,h1,h2.ext e,h3⟩⟩
theorem FiJ.ch {W:World}{g:GT}{N:Nat}{gv:Value}{b1 b3 k:Nat}{K:Nat→Prop}{v:Value}{w w':World}(h:FiJ W g N gv b1 b3 k K v w)(l1:b1<W.heap.size)(l3:b3<W.heap.size)(hK:∀b,K b→W.heap.size≤b)(c:Chg K w w'):FiJ W g N gv b1 b3 k K v w':=
 ⟨h.p1.ch c (fun hh=>by have:=hK _ hh;omega),h.p3.ch c (fun hh=>by have:=hK _ hh;omega),h.o.chE c (fun b hb hh=>(h.k b hb).2 hh),h.k,Dv.ch h.g c fun b hb=>.inl (hK b hb)⟩
theorem mQ {G:Nat→Prop}{N:Nat}(g:GT)(ok:Gr.Ok g)(gv:Value)(W:World)(hT:Tab W)(h:(Dv (ptE (grE N)) G (some g)).p gv W)(hl1:g.1.length≤100000)(hl2:g.2.length≤100000)(hN:N≤1000000)(hc9:card (ai g.1)≤300) :
  Calls Tryz.prog 7 #[gv] W (Post (sD g W.heap.size) W):=by
 have hv:(Dv (ptE (grE N)) (fun b=>W.heap.size≤b) (some g)).p gv W:=Dv.weak h fun b hb hh=>by omega
 clear h
 have hT0:=hT.lt
 have h1c:gv.cells = #[gv]:=by
  obtain⟨ad,rfl,_⟩:=Dv.pt.1 hv
  rfl
 have hs:=fX ok
 have hi:∀i j:Nat,(nbA g (i:Int)).getLsbD j=true→(ai g.1).getLsbD i=true:=fun i j h=>eu ok j i (hs i j h)
 refine enter (args:=[gv]) (As:=[E gv]) Tryz.func7 rfl Tryz.ntmps7 (Nat.le_of_ble_eq_true rfl) ?_ (fun a hf=>?_) (Nat.le_of_ble_eq_true rfl)
 rotate_left
 dsimp only[params,Nat.reduceAdd] at hf
 rotate_right
 ·exact arg1 rfl
 have e:=Ext.rfl' W
 refine seq ?_
 refine aj ?_
 refine aJ hf rfl (by decide) fun a b1 w v1 hv1 e' hb1 hs1 B1 hf=>?_
 have hle1:=Nat.le_trans e.size (Nat.le_of_eq hb1.symm)
 replace hT:=hT.ext e'
 replace e:=e.tr e'
 refine ae hf rfl (by decide) fun a hf=>?_
 refine aa ?_
 cases hv1
 rw[h1c] at B1
 replace hf:=hf.kp [1,2]
 refine seq ?_
 refine aj ?_
 refine aC I31 hf (by decide) fun a b3 w e' hb3 hs3 B3 hf=>?_
 have hle3:=Nat.le_trans e.size (Nat.le_of_eq hb3.symm)
 have lt3_B1:=B1.lt
 replace hT:=hT.ext e'
 replace e:=e.tr e'
 replace B1:=B1.ext e'
 refine aa ?_
 replace B3:Blk w b3 #[.slice none 0 0] 31:=B3
 replace hf:=hf.kp [1,2,3]
 refine seq ?_
 refine ac 2 hf (by decide +kernel) ?_
 refine st (ld1 (v:=gv) T28 rfl B1 rfl) ?_
 refine st (ip rfl rfl) ?_
 refine en fun a w e' hf=>?_
 replace hT:=hT.ext e'
 replace e:=e.tr e'
 replace B1:=B1.ext e'
 replace B3:=B3.ext e'
 clear e'
 obtain⟨W1,hW1⟩:∃W1,W1=w:=⟨_,rfl⟩
 have l1:=B1.lt
 have l3:=B3.lt
 have hn:card (ai g.1)≤1024:=ek fun i hi=>aG hi
 have hv1:(Dv (ptE (grE N)) (fun b=>w.heap.size≤b∨b=b3) (some g)).p gv w:=Dv.weak (VA.st _ _ _ _ e hv) fun b hb hh=>hh.elim (fun hh=>by omega) fun hh=>by omega
 have hwW:=e.size
 refine cq (S:=fun b=>b=b3) (F:=fun z w'=>z=.tuple #[]∧∃K v,FiJ W1 g N gv b1 b3 (card (ai g.1)) K v w') hf (by decide) nf ?_ fun a z w hc hF hf=>?_
 ·have e1:a.eval (.tmp 4)=gv:=hf.opd (.tmp 4) _ rfl
  have e2:a.eval (.tmp 5)=.func (.func 17) #[] #[ptr b1,ptr b3]:=hf.opd (.tmp 5) _ rfl
  simp only[List.map_toArray,List.map_cons,List.map_nil,e1,e2]
  rw[hW1]
  refine (sx g ok gv 17 #[ptr b1,ptr b3] (fun b=>b=b3) (fun k K w'=>∃v,FiJ w g N gv b1 b3 k K v w') w hT (VA.st _ _ _ _ e hv) hl1 hl2 hN tg (fun b hb=>by subst hb;omega) (fun k K w1 w2 hK ⟨v,hJ⟩ c=>⟨v,hJ.ch l1 l3 hK c⟩) (fun k K K' w1 hK ⟨v,hJ⟩=>⟨v,hJ.p1,hJ.p3,hJ.o,fun b hb=>⟨(hJ.k b hb).1,fun hh=>(hK b hh).elim (hJ.k b hb).2 fun hh=>by have:=(hJ.o.lt hb).2;omega⟩,hJ.g⟩) ?_ ⟨.slice none 0 0,B1,B3,OwR.nil etE _ (by omega) (fun b hb=>hb.elim),fun b hb=>by simp[Value.ownBlock] at hb,hv1⟩).mono fun en w' ⟨k1,k2,K,_,v,hJ⟩=>⟨_,k1,k2,rfl,K,v,hJ⟩
  rintro k hk K w1 hK hws hT1 ⟨v,hJ⟩
  have hlk:=jU hs hi k (by omega)
  have hlk2:k * card (ai g.1)≤1024 * 1024:=Nat.mul_le_mul (by omega) hn
  have hU:=rx hs hi hk
  refine (a1S g ok gv (mU (nbA g) (ai g.1) k) (mR (nbA g) (ai g.1) k) _ b1 b3 v w1 hT1 (aG hU) hJ.g hJ.p1 hJ.p3 hJ.o (by omega) hl2 hN (by rw[List.length_map];omega)).mono fun en w' ⟨k1,v',k2,k3,k4,k5⟩=>⟨k1,?_,v',hJ.p1.ch k2 ?_,k3,?_,fun b hb=>?_,Dv.ch hJ.g k2 fun b hb=>?_⟩
  ·exact k2.to fun b _ hb=>hb.imp (fun h=>h) (hJ.k b)
  ·rintro (h|h)
   ·exact (hJ.p1.ne hJ.p3 (by decide)) h
   ·have:=(hJ.k _ h).1;omega
  ·rw[gT,List.map_append,flP,List.map_map]
   have hnb:nbA g (mU (nbA g) (ai g.1) k:Nat)=nbG g.2 (mU (nbA g) (ai g.1) k:Nat):=by rw[md,if_pos hU]
   rw[hnb]
   exact k4
  ·exact (k5 b hb).elim (hJ.k b) fun hh=>⟨by omega,fun hK'=>by have:=(hK b hK').2;omega⟩
  ·exact hb.elim .inr fun h=>.inl (hJ.k b h).1
 obtain⟨rfl,K,v,hJ⟩:=hF
 rw[← hW1] at e hwW l1 l3 hc
 have hb3:W.heap.size≤b3:=hle3
 have hlF:((flL (nbA g) (ai g.1) (card (ai g.1))).map eF).length≤100000:=by
  have h1:=jU hs hi _ (Nat.le_refl (card (ai g.1)))
  have h2:=Nat.mul_le_mul hc9 hc9
  rw[List.length_map]
  exact Nat.le_trans h1 (Nat.le_trans h2 (by decide))
 replace e:=e.ch hc fun b (hb:b=b3)=>by rw[hb];exact hb3
 have hJk:=hJ.k
 clear hc hW1
 obtain⟨B1,B3,Ho,_,_⟩:=hJ
 refine aa ?_
 replace hf:=hf.kp [2,3]
 refine seq ?_
 refine ac 1 hf (by decide +kernel) ?_
 refine st (ld1 (v:=v) T31 rfl B3 rfl) ?_
 refine en fun a w e' hf=>?_
 replace Ho:=Ho.ext e'
 replace e:=e.tr e'
 replace B3:=B3.ext e'
 clear e'
 have hn3:=Ho.neB B3 (by decide)
 refine cq (S:=fun b=>v.ownBlock=some b) (F:=fun z w'=>z=.tuple #[]∧∃F:List (Nat×Nat),F.Perm (flL (nbA g) (ai g.1) (card (ai g.1)))∧OwR etE 36 1 Go.Mono.G0 w' (F.map eF) v) hf (by decide) ng ?_ fun a z w hc hF hf=>?_
 ·have e1:a.eval (.tmp 7)=v:=hf.opd (.tmp 7) _ rfl
  have e2:a.eval (.func 22)=.func (.func 22) #[] #[]:=rfl
  simp only[List.map_toArray,List.map_cons,List.map_nil,e1,e2]
  exact (a1Q Ho hlF).mono fun en w' ⟨k1,xs',k2,k3,k4⟩=>by
   obtain⟨F,rfl,hF⟩:=a1T k2
   exact⟨_,k1,k4,rfl,F,hF,k3⟩
 obtain⟨rfl,F,hF,Ho2⟩:=hF
 have hWk:∀b,v.ownBlock=some b→W.heap.size≤b:=fun b hb=>Nat.le_trans hwW (hJk b hb).1
 replace e:=e.ch hc hWk
 replace B3:=B3.ch hc hn3
 clear hc Ho
 refine aa ?_
 replace hf:=hf.kp [2,3]
 refine seq ?_
 refine ac 1 hf (by decide +kernel) ?_
 refine st (ld1 (v:=v) T31 rfl B3 rfl) ?_
 refine en fun a w e' hf=>?_
 replace Ho2:=Ho2.ext e'
 replace e:=e.tr e'
 replace B3:=B3.ext e'
 refine ae hf rfl (by decide) fun a hf=>?_
 refine aa ?_
 refine an ?_
 refine az rfl hf rfl ?_
 rintro _ rfl
 exact⟨_,rfl,e,F,hF,Ho2,hWk⟩
end Go.Mono
