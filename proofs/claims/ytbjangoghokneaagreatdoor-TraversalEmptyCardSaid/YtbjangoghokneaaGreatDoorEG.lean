/-
  Walks of functions and plain facts.
  No condition.
-/
import Derived.Test.YtbjangoghokneaaGreatDoorEF
import Derived.Test.YtbjangoghokneaaGreatDoorEE
import Derived.Test.YtbjangoghokneaaGreatDoorED
import Derived.Test.YtbjangoghokneaaGreatDoorEC
set_option linter.unusedVariables false
set_option linter.unusedSimpArgs false
namespace Go.Mono
open Go Go.Proofs Go.RowKit Go.Gr
open Go.MonoD (aS)
def gJ (x:List Int):List (List Int)→List (List Int)
 | []=>[x]
 | y::l=>if aS x y≤0 then x::y::l else y::gJ x l
def fL (l:List (List Int)):List (List Int):=l.foldr gJ []
theorem mN (x:List Int):∀l,(gJ x l).Perm (x::l)
 | []=>List.Perm.refl _
 | y::l=>by
  rw[gJ];split
  ·exact List.Perm.refl _
  ·exact ((mN x l).cons y).trans (List.Perm.swap x y l)
theorem iK:∀l,(fL l).Perm l
 | []=>List.Perm.refl _
 | x::l=>(mN x _).trans ((iK l).cons x)
theorem sk {x y z:List Int}(h:¬aS y x<0)(h':¬aS z y<0):¬aS z x<0:=fun hh=>by
 have n1:=gI x y
 by_cases hz:aS x y=0
 ·have:=kc _ _ hz
  rw[this] at hh;exact h' hh
 ·exact h' (ke z x y hh (by omega))
theorem sp (x:List Int):∀l,l.Pairwise (fun x y=>¬aS y x<0)→(gJ x l).Pairwise (fun x y=>¬aS y x<0)
 | [],_=>List.pairwise_singleton _ _
 | y::l,h=>by
  obtain⟨h1,h2⟩:=List.pairwise_cons.1 h
  have n1:=gI x y
  rw[gJ];split
  ·rename_i hc
   refine List.pairwise_cons.2 ⟨fun z hz=>?_,h⟩
   rcases List.mem_cons.1 hz with rfl|hz
   ·omega
   ·exact sk (by omega) (h1 z hz)
  ·rename_i hc
   refine List.pairwise_cons.2 ⟨fun z hz=>?_,sp x l h2⟩
   rcases List.mem_cons.1 ((mN x l).mem_iff.1 hz) with rfl|hz
   ·omega
   ·exact h1 z hz
theorem mO:∀l,(fL l).Pairwise (fun x y=>¬aS y x<0)
 | []=>List.Pairwise.nil
 | x::l=>sp x _ (mO l)
theorem mP {l m:List (List Int)}(hp:m.Perm l)(hs:m.Pairwise fun x y=>¬aS y x<0):m=fL l:=by
 refine List.Perm.eq_of_pairwise (le:=fun x y=>¬aS y x<0) (fun a b _ _ h1 h2=>?_) hs (mO l) (hp.trans (iK l).symm)
 have n1:=gI a b
 exact kc _ _ (by omega)
theorem a0S {P:Program}{w0:World}{L:Env}{dst:Option Tmp}{ty:TypeId}{pos:String}{aft:Array Edge}{g:Option (Nat×Bool)}{fn:Fn}{x1 x2 x3 x4 x5 x6:Operand}{v1 v2 v3 v4 v5 v6:Value}(h1:opd L x1=some (E v1))(h2:opd L x2=some (E v2))(h3:opd L x3=some (E v3))(h4:opd L x4=some (E v4))(h5:opd L x5=some (E v5))(h6:opd L x6=some (E v6)) :
  OpC P w0 L ⟨dst,.makeFunc fn #[] #[x1,x2,x3,x4,x5,x6],ty,pos,aft,g⟩ (E (.func fn #[] #[v1,v2,v3,v4,v5,v6])):=
 aP fun ρ w _ hv=>⟨_,by
  have a1:=opE hv (x:=x1) (by simp[Op.operands]) h1
  have a2:=opE hv (x:=x2) (by simp[Op.operands]) h2
  have a3:=opE hv (x:=x3) (by simp[Op.operands]) h3
  have a4:=opE hv (x:=x4) (by simp[Op.operands]) h4
  have a5:=opE hv (x:=x5) (by simp[Op.operands]) h5
  have a6:=opE hv (x:=x6) (by simp[Op.operands]) h6
  simp[execOp,Instr.makeFunc,a1,a2,a3,a4,a5,a6],rfl⟩
def bP (nb:Int→BS)(f:Nat)(s:BcS)(id:Nat):BcS:=if lkI s.la (id:Int)=0 then bcF nb f id (-1) s else s
def dA (nb:Int→BS)(s:BcS)(id:Nat):BcS:=if nb (id:Int)=0 then { s with out:=s.out++[[(id:Int)]] } else s
def bcN (nb:Int→BS)(f:Nat)(s:BcS)(id:Nat):BcS:=dA nb (bP nb f s id) id
def bccF (nb:Int→BS)(V:BS):List (List Int):=fL ((aj V).foldl (bcN nb (card V)) ⟨[],[],[],[]⟩).out
theorem BcI.mono {V:BS}{c c':Nat}{s:BcS}(h:BcI V c s)(hc:c≤c'):BcI V c' s:=⟨h.ka,h.va,h.na,h.kl,h.vl,h.nl,h.w,h.wm,by have:=h.o;omega⟩
theorem sq {V:BS}{c:Nat}{s:BcS}{nb:Int→BS}{id:Nat}(hV:∀i j:Nat,(nb (i:Int)).getLsbD j=true→V.getLsbD j=true)(h:BcI V c s)(hid:V.getLsbD id=true):BcI V c (bP nb (card V) s id):=by
 rw[bP];split
 ·rename_i hz
  exact (kb hV (card V) id (-1) s h hid (by omega) (by rw[unv,← dL];exact List.length_filter_le _ _)).i
 ·exact h
theorem sr {V:BS}{c:Nat}{s:BcS}{nb:Int→BS}{id:Nat}(h:BcI V c s):BcI V (c+1) (dA nb s id):=by
 rw[dA];split
 ·exact⟨h.ka,h.va,h.na,h.kl,h.vl,h.nl,h.w,h.wm,by
   show (s.out++[_]).length≤s.la.length+(c+1)
   rw[List.length_append,List.length_singleton];have:=h.o;omega⟩
 ·exact h.mono (Nat.le_succ c)
def OL (s:BcS):Prop:=∀xs∈s.out,xs.length≤1024
theorem ss {s:List (List Int)}{x:List Int}(h:∀xs∈s,xs.length≤1024)(hx:x.length≤1024):∀xs∈s++[x],xs.length≤1024:=fun xs hm=>by
 rcases List.mem_append.1 hm with hm|hm
 ·exact h xs hm
 ·rw[List.mem_singleton.1 hm];exact hx
theorem a0T (nb:Int→BS):∀(f id:Nat) (frm:Int) (s:BcS),OL s→OL (bcF nb f id frm s):=by
 intro f
 induction f with
 | zero=>intro id frm s h;exact h
 | succ f ih=>
  intro id frm s h
  have key:∀(l:List Nat) (s':BcS),OL s'→OL (l.foldl (bcT (bcF nb f) id frm) s'):=by
   intro l
   induction l with
   | nil=>intro s' h';exact h'
   | cons x l ihl=>
    intro s' h'
    refine ihl _ ?_
    have h2:OL (bcM id x (bcF nb f x (id:Int) s')):=ih x (id:Int) s' h'
    rw[bcT]
    split
    ·exact h'
    split
    ·exact h'
    split
    ·exact ss h2 (mh _)
    ·exact h2
  exact key _ (bcP id s) h
theorem a0U (nb:Int→BS)(f:Nat):∀(l:List Nat) (s:BcS),OL s→OL (l.foldl (bcN nb f) s):=by
 intro l
 induction l with
 | nil=>intro s h;exact h
 | cons x l ihl=>
  intro s h
  refine ihl _ ?_
  have h2:OL (bP nb f s x):=by
   rw[bP];split
   ·exact a0T nb f x (-1) s h
   ·exact h
  rw[bcN,dA];split
  ·exact ss h2 (Nat.succ_le_of_lt (Nat.zero_lt_succ _))
  ·exact h2
structure BcO (l:List (Int×BS))(V:BS)(bm nm ba bl bw bg bd bo ma ml N:Nat)(G K:Nat→Prop)(W:World)(s:BcS)(vw vo:Value)(w:World):Prop where
 h:BcW l V bm nm ba bl bw bg bd bo ma ml N G s vw vo w
 e:Ext W w
 own:∀b,OWN vw vo b→¬K b
theorem sD {N0:Nat}(g:GT)(ok:Gr.Ok g)(v:Value)(W:World)(hT:Tab W)(h:(Gn N0 g).p v W)(hl1:g.1.length≤100000)(hl2:g.2.length≤100000)(hN0:N0≤1000000) :
  Calls Tryz.prog 19 #[v] W (Post (jN (bV 3) 35 W.heap.size (fun b=>b<W.heap.size) (bccF (nbA g) (vset g.1))) W):=by
 have hgd:=h
 have hnV:=gu ok
 obtain⟨l,hl⟩:=eqX (nbL g (aj (vset g.1)))
 have hnb:nbA g=lkS l:=by rw[hl,nbA]
 rw[hnb] at hnV ⊢
 obtain⟨V,hV⟩:=eqX (vset g.1)
 rw[← hV] at hnV ⊢
 have hT0:=hT.lt
 refine cO (args:=[v]) (As:=[E v]) Tryz.func19 rfl Tryz.ntmps19 (Nat.le_of_ble_eq_true rfl) ?_ (fun a hf=>?_) (Nat.le_of_ble_eq_true rfl)
 ·exact arg1 rfl
 dsimp only[params,Nat.reduceAdd] at hf
 have e:=Ext.rfl' W
 refine seq <| ab <| aA hf rfl (by decide) fun a hf=>aa ?_
 have e0:=e
 refine seq <| ay 2 hf (by decide +kernel) <| st (mv rfl) <| st (ak (A:=ci l V 1024) dR rfl (fun v w he k=>by cases k;rw[hl,hV];exact gG g ok _ w (hT.ext he) (vst (e0.tr he) hgd) hl1 hl2 hN0)) ?_
 refine en fun a w e' hf=>?_
 replace hT:=hT.ext e'
 replace e:=e.tr e'
 obtain⟨av,⟨mq,rfl,HV0⟩,hf⟩:=hf.opn 11 rfl
 obtain⟨cs,⟨bm,nm,rfl,_,hnm,HM⟩,hmq⟩:=HV0
 replace hmq:mq=.map (some bm):=hmq
 subst hmq
 obtain⟨N1,hN1⟩:=eqX w.heap.size
 have hN1s:N1≤w.heap.size:=Nat.le_of_eq hN1
 have hbm:bm<N1:=by rw[hN1];exact HM.lt
 have hWN1:W.heap.size≤N1:=by rw[hN1];exact e.size
 replace hf:=hf.kp [11]
 refine eD I79 hf (by decide) fun a b3 w e' hb3 hs3 B3 hf=>?_
 have hle3:=Nat.le_trans e.size (Nat.le_of_eq hb3.symm)
 have lo3_hN1s:=Nat.le_trans hN1s (Nat.le_of_eq hb3.symm)
 replace hT:=hT.ext e'
 replace HM:=HM.ext e'
 replace hN1s:=Nat.le_trans hN1s e'.size
 replace e:=e.tr e'
 have n3:N1≤b3:=lo3_hN1s
 refine az T79 hf rfl rfl (cg _ _) B3 rfl (aH _ _) fun w hg hsz B3 hf=>?_
 replace e:=e.gr hg (by omega);replace hT:=hT.gr hg (by omega);replace HM:=HM.gr hg (fun h=>by cases h;omega);replace hN1s:=Nat.le_trans hN1s hg.size;clear hg
 refine aa ?_
 have l3:=B3.lt
 replace hf:=hf.kp [3]
 refine seq <| ab <| eD I39 hf (by decide) fun a b4 w e' hb4 hs4 B4 hf=>?_
 have hle4:=Nat.le_trans e.size (Nat.le_of_eq hb4.symm)
 have lt4_B3:=B3.lt
 replace hT:=hT.ext e'
 replace HM:=HM.ext e'
 replace e:=e.tr e'
 replace B3:=B3.ext e'
 refine aa ?_
 replace B4:Blk w b4 #[.slice none 0 0] 39:=B4
 have n4:b3<b4:=by omega
 have l4:=B4.lt
 replace hf:=hf.kp [3,4]
 refine seq <| ab <| ep iKV hf (by decide) fun a ma w e' hma hsa MA hf=>?_
 replace e:=e.tr e';replace hT:=hT.ext e';replace HM:=HM.ext e';replace B3:=B3.ext e';replace B4:=B4.ext e';clear e'
 have n5:b4<ma:=by omega
 refine ep iKV hf (by decide) fun a ml w e' hml hsl ML hf=>?_
 replace e:=e.tr e';replace hT:=hT.ext e';replace HM:=HM.ext e';replace B3:=B3.ext e';replace B4:=B4.ext e';replace MA:=MA.ext e';clear e'
 have n6:ma<ml:=by omega
 have lml:=ML.lt
 obtain⟨N2,hN2⟩:=eqX w.heap.size
 have hN2s:N2≤w.heap.size:=Nat.le_of_eq hN2
 have hml2:ml<N2:=by omega
 refine eD I43 hf (by decide) fun a b5 w e' hb5 hs5 B5 hf=>?_
 have hle5:=Nat.le_trans e.size (Nat.le_of_eq hb5.symm)
 have lo5_hN2s:=Nat.le_trans hN2s (Nat.le_of_eq hb5.symm)
 replace hT:=hT.ext e'
 replace HM:=HM.ext e'
 replace MA:=MA.ext e'
 replace ML:=ML.ext e'
 replace hN2s:=Nat.le_trans hN2s e'.size
 replace e:=e.tr e'
 replace B3:=B3.ext e'
 replace B4:=B4.ext e'
 refine eD I43 hf (by decide) fun a b6 w e' hb6 hs6 B6 hf=>?_
 have lo6_hN2s:=Nat.le_trans hN2s (Nat.le_of_eq hb6.symm)
 have lt6_B3:=B3.lt
 have lt6_B4:=B4.lt
 replace hT:=hT.ext e'
 replace HM:=HM.ext e'
 replace MA:=MA.ext e'
 replace ML:=ML.ext e'
 replace hN2s:=Nat.le_trans hN2s e'.size
 replace e:=e.tr e'
 replace B3:=B3.ext e'
 replace B4:=B4.ext e'
 replace B5:=B5.ext e'
 have n7:N2≤b5:=lo5_hN2s
 have n8:N2≤b6∧b5<b6:=⟨lo6_hN2s,by omega⟩
 replace hf:=hf.kp [3,4,5,6,12,13]
 refine aI T43 hf rfl rfl rfl B5 Nat.zero_lt_one fun w hg hsz B5 hf=>?_
 replace e:=e.gr hg (by omega);replace hT:=hT.gr hg (by omega);replace HM:=HM.gr hg (fun h=>by cases h;omega);replace MA:=MA.gr hg (fun h=>by cases h;omega);replace ML:=ML.gr hg (fun h=>by cases h;omega);replace B3:=B3.gr hg (by omega);replace B4:=B4.gr hg (by omega);replace B6:=B6.gr hg (by omega);clear hg
 refine aI T43 hf rfl rfl rfl B6 Nat.zero_lt_one fun w hg hsz B6 hf=>?_
 replace e:=e.gr hg (by omega);replace hT:=hT.gr hg (by omega);replace HM:=HM.gr hg (fun h=>by cases h;omega);replace MA:=MA.gr hg (fun h=>by cases h;omega);replace ML:=ML.gr hg (fun h=>by cases h;omega);replace B3:=B3.gr hg (by omega);replace B4:=B4.gr hg (by omega);replace B5:=B5.gr hg (by omega);clear hg
 refine aa ?_
 replace B5:Blk w b5 #[.map (some ma)] 43:=B5
 replace B6:Blk w b6 #[.map (some ml)] 43:=B6
 have l6:=B6.lt
 replace hf:=hf.keep [3,4,5,6]
 refine seq <| ab <| eD I35 hf (by decide) fun a b7 w e' hb7 hs7 B7 hf=>?_
 replace hT:=hT.ext e'
 replace HM:=HM.ext e'
 replace MA:=MA.ext e'
 replace ML:=ML.ext e'
 replace e:=e.tr e'
 replace B3:=B3.ext e'
 replace B4:=B4.ext e'
 replace B5:=B5.ext e'
 replace B6:=B6.ext e'
 refine aa ?_
 replace B7:Blk w b7 #[.slice none 0 0] 35:=B7
 have n9:b6<b7:=by omega
 have l7:=B7.lt
 replace hf:=hf.keep [3,4,5,6,7]
 refine seq <| ab <| eD I95 hf (by decide) fun a b8 w e' hb8 hs8 B8 hf=>?_
 replace hT:=hT.ext e'
 replace HM:=HM.ext e'
 replace MA:=MA.ext e'
 replace ML:=ML.ext e'
 replace e:=e.tr e'
 replace B3:=B3.ext e'
 replace B4:=B4.ext e'
 replace B5:=B5.ext e'
 replace B6:=B6.ext e'
 replace B7:=B7.ext e'
 refine aa ?_
 have n10:b7<b8:=by omega
 replace hf:=hf.kp [3,4,5,6,7,8]
 refine seq <| ay 1 hf (by decide +kernel) <| st (a0S rfl rfl rfl rfl rfl rfl) <| en fun a w e' hf=>?_
 replace hT:=hT.ext e'
 replace HM:=HM.ext e'
 replace MA:=MA.ext e'
 replace ML:=ML.ext e'
 replace e:=e.tr e'
 replace B3:=B3.ext e'
 replace B4:=B4.ext e'
 replace B5:=B5.ext e'
 replace B6:=B6.ext e'
 replace B7:=B7.ext e'
 replace B8:=B8.ext e'
 refine aI T95 hf rfl rfl rfl B8 Nat.zero_lt_one fun w hg hsz B8 hf=>?_
 replace e:=e.gr hg (by omega);replace hT:=hT.gr hg (by omega);replace HM:=HM.gr hg (fun h=>by cases h;omega);replace MA:=MA.gr hg (fun h=>by cases h;omega);replace ML:=ML.gr hg (fun h=>by cases h;omega);replace B3:=B3.gr hg (by omega);replace B4:=B4.gr hg (by omega);replace B5:=B5.gr hg (by omega);replace B6:=B6.gr hg (by omega);replace B7:=B7.gr hg (by omega);clear hg
 refine aa ?_
 replace B8:Blk w b8 #[bcV b5 b6 b7 b3 b8 b4] 95:=B8
 have l8:=B8.lt
 obtain⟨N,hN⟩:=eqX w.heap.size
 have D:BcD bm b5 b6 b7 b3 b8 b4 ma ml N:=⟨by omega,by omega,by omega,by omega,by omega⟩
 have hWb:W.heap.size≤b3:=by omega
 have hlN:b7<N∧b4<N∧ma<N∧ml<N:=by omega
 have hWN:W.heap.size≤N:=by omega
 have H:BcW l V bm nm b5 b6 b7 b3 b8 b4 ma ml N (fun b=>b<N) ⟨[],[],[],[]⟩ (.slice none 0 0) (.slice none 0 0) w:=
  ⟨hT,HM,B5,B6,B7,B3,B8,B4,MA,ML,OwR.nil intE _ (Nat.le_of_eq hN) fun b hb=>hb.elim,OwX.nil _ _ (Nat.le_of_eq hN)⟩
 have hI0:BcI V 0 ⟨[],[],[],[]⟩:=⟨(fun p hp=>by cases hp),(fun p hp=>by cases hp),List.Pairwise.nil,(fun p hp=>by cases hp),(fun p hp=>by cases hp),List.Pairwise.nil,Nat.le_refl _,(fun p hp=>by cases hp),Nat.le_refl _⟩
 replace hf:=hf.kp [3,4,5,6,7,8]
 obtain⟨Nz,hNz⟩:=eqX w.heap.size
 refine seq <| seq ?_
 refine ay 3 hf (by decide +kernel) <| st (bJ Tryz.underlying79 rfl T76 (by decide) rfl) <| st ((ldP T76 rfl H.pg (by rw[aH];decide)).eq (congrArg Value.agg (bO V (.map (some bm))))) ?_
 refine st (ak (A:=cN Nz V) cV rfl (fun v w' he h=>by cases h;exact Calls.mono (cZ _ w') (fun en w2 ⟨u,h1,h2,b',h3,h4,h5⟩=>⟨u,h1,h2,b',by have:=he.size;omega,h4,h5⟩))) ?_
 refine en fun a w e' hf=>?_
 replace H:=H.ext e'
 replace e:=e.tr e'
 refine aa ?_
 obtain⟨vv,⟨b17,h17,rfl,BS⟩,hf⟩:=hf.fix 17 rfl
 replace hf:=hf.kp [3,4,5,6,7,8,17]
 have hBW:W.heap.size≤w.heap.size:=e.size
 have hNB:N≤w.heap.size:=H.ow.base
 obtain⟨G,hG⟩:∃G:Nat→Prop,G=fun b=>b<N∨aX w.heap.size b:=⟨_,rfl⟩
 have hGs:G b7∧G b4∧G ma∧G ml:=by rw[hG];exact⟨.inl hlN.1,.inl hlN.2.1,.inl hlN.2.2.1,.inl hlN.2.2.2⟩
 have hGW:∀b,b<W.heap.size→G b:=fun b hb=>by rw[hG];exact .inl (by omega)
 have hGh:∀b,aX w.heap.size b→G b:=fun b hb=>by rw[hG];exact .inr hb
 have hGl:∀b,G b→b<w.heap.size+3:=fun b hb=>by
  rw[hG] at hb
  rcases hb with hb|hb
  ·omega
  ·exact hb.2
 have hO0:BcO l V bm nm b5 b6 b7 b3 b8 b4 ma ml N G (aX w.heap.size) W ⟨[],[],[],[]⟩ (.slice none 0 0) (.slice none 0 0) w:=⟨H.weak fun b hb hh=>by
   rw[hG] at hh
   rcases hh with hh|hh
   ·exact hh
   ·have:=hh.1;omega,e,fun b hb=>by rcases hb with hb|hb <;> cases hb⟩
 obtain⟨nb,hnb'⟩:∃nb,nb=lkS l:=⟨_,rfl⟩
 rw[← hnb'] at hnV ⊢
 refine blk <| db (S:=V) hf rfl BS (by decide) (fun sl w1=>(∃vw vo,BcO l V bm nm b5 b6 b7 b3 b8 b4 ma ml N G (aX w.heap.size) W (sl.foldl (bcN nb (card V)) ⟨[],[],[],[]⟩) vw vo w1)∧BcI V sl.length (sl.foldl (bcN nb (card V)) ⟨[],[],[],[]⟩)) (fun _ _=>False) (fun sl w1 ⟨⟨_,_,h⟩,_⟩=>h.h.t)
  ⟨⟨_,_,hO0⟩,hI0⟩ (fun sl w1 w2 ⟨⟨v1,v2,h⟩,hq⟩ hs k=>⟨⟨v1,v2,h.h.ch D k.chg (fun b hb=>Nat.le_trans hNB hb.1) h.own hGh,h.e.kp k hBW,h.own⟩,hq⟩) (fun _ _ _ h=>h.elim) ?_ ?_ (fun _ _ _ _ _ _ h=>h.elim)
 ·intro lp sl' x rest a1 w1 hs hJ hlw hf
  have hxV:V.getLsbD x=true:=(aL.1 (by rw[hs];simp)).2
  have hx1024:x<1024:=aK hxV
  have hsl:sl'.length≤1024:=by have:=eT V;rw[hs] at this;simp at this;omega
  have hwx:(Lit.int .i64 (x:Int)).wf=true:=bH (by omega) (by omega)
  generalize hBz:w.heap.size=Bz at *
  refine ab <| aA hf rfl (by decide) fun a hf=>aa <| ⟨Kh.rfl' _ _,fun w3 k3 hsz3=>?_⟩
  obtain⟨⟨vx,vy,hJ⟩,hq⟩:=hJ
  have hJ3:BcO l V bm nm b5 b6 b7 b3 b8 b4 ma ml N G (aX Bz) W (sl'.foldl (bcN nb (card V)) ⟨[],[],[],[]⟩) vx vy w3:=⟨hJ.h.ch D k3.chg (fun b hb=>Nat.le_trans hNB hb.1) hJ.own hGh,hJ.e.kp k3 hBW,hJ.own⟩
  have hw3:Bz+3≤w3.heap.size:=by omega
  replace hf:=hf.pure w3
  obtain⟨H,e,hown⟩:=hJ3
  have kh:=Kh.rfl' Bz w3
  have hstep:((sl'++[x]).foldl (bcN nb (card V)) ⟨[],[],[],[]⟩)=bcN nb (card V) (sl'.foldl (bcN nb (card V)) ⟨[],[],[],[]⟩) x:=by rw[List.foldl_append];rfl
  obtain⟨sx,hsx⟩:=eqX (sl'.foldl (bcN nb (card V)) ⟨[],[],[],[]⟩)
  rw[← hsx] at H hq hstep
  obtain⟨s2,hs2⟩:=eqX (bP nb (card V) sx x)
  have hq2:BcI V sl'.length s2:=by rw[hs2];exact sq hnV hq hxV
  obtain⟨tgt,htgt⟩:=eqX (dA nb s2 x)
  have hq3:BcI V (sl'++[x]).length tgt:=by rw[htgt,List.length_append,List.length_singleton];exact sr hq2
  have fin:∀v1 v2 w1,BcO l V bm nm b5 b6 b7 b3 b8 b4 ma ml N G (aX Bz) W tgt v1 v2 w1→(∃v1 v2,BcO l V bm nm b5 b6 b7 b3 b8 b4 ma ml N G (aX Bz) W ((sl'++[x]).foldl (bcN nb (card V)) ⟨[],[],[],[]⟩) v1 v2 w1)∧BcI V (sl'++[x]).length ((sl'++[x]).foldl (bcN nb (card V)) ⟨[],[],[],[]⟩):=fun v1 v2 w1 h1=>by
   rw[hstep,bcN,← hs2,← htgt];exact⟨⟨v1,v2,h1⟩,hq3⟩
  have hal2:=hq2.al
  have hol2:=hq2.o
  have dn:=D.n
  have hgo:∀b,aX Bz b→¬(b=b7∨b=b4∨b=ma∨b=ml):=fun b hb hh=>by have:=hb.1;omega
  rw[bP] at hs2
  have hlkx:lkS l (x:Int)=nb (x:Int):=by rw[hnb']
  replace hf:=hf.keep [3,4,5,6,7,8,9]
  refine blk ?_
  refine seq <| seq ?_
  refine ay 4 hf (by decide +kernel) <| st (ld1 (v:=.map (some ma)) T43 rfl H.pa rfl) <| st (mv rfl) <| st (dz Tryz.underlying43 rfl H.ma rfl hwx) <| st (eql rfl rfl) <| en fun a w e' hf=>?_
  replace H:=H.ext e'
  replace kh:=kh.tr (Kh.ext e')
  replace e:=e.tr e'
  refine aa <| cut (J:=fun a w=>Fr 39 a w [(3,E (ptr b3)),(4,E (ptr b4)),(9,E (I (x:Nat)))]∧Ext W w∧Kh Bz w3 w∧(∃vx vy,BcW l V bm nm b5 b6 b7 b3 b8 b4 ma ml N G s2 vx vy w∧∀b,OWN vx vy b→¬aX Bz b)) ?_ (fun a w hJ=>?_)
  ·by_cases hz:lkI sx.la (x:Int)=0
   ·rw[if_pos hz] at hs2
    rw[show (lkI sx.la (x:Int)==0)=true by rw[hz];rfl] at hf
    refine ifT hf rfl ?_
    replace hf:=hf.keep [3,4,5,6,7,8,9]
    refine ay 2 hf (by decide +kernel) <| st (ld1 (v:=bcV b5 b6 b7 b3 b8 b4) T95 rfl H.pd rfl) <| st (mv rfl) <| en fun a w e' hf=>?_
    replace H:=H.ext e'
    replace kh:=kh.tr (Kh.ext e')
    replace e:=e.tr e'
    replace hf:=hf.kp [3,4,5,6,7,8,9,23,24]
    refine gS (S:=SBc b7 b4 ma ml vx vy) (F:=fun w'=>∃vw' vo',BcW l V bm nm b5 b6 b7 b3 b8 b4 ma ml N G (bcF (lkS l) (card V) x (-1) sx) vw' vo' w'∧∀b,OWN vw' vo' b→OWN vx vy b∨w.heap.size≤b) (A:=E (.tuple #[])) hf (by decide) ot rfl ?_ fun a w2 hc HF hf=>?_
    ·have e24:a.eval (.tmp 24)=I (x:Nat):=hf.opd (.tmp 24) _ rfl
     have eC:a.eval (.const (I (-1)))=I (-1):=rfl
     simp only[List.map_toArray,List.map_cons,List.map_nil,e24,eC]
     exact (a0P D (c0:=sl'.length) (by omega) (by omega) (by rw[← hnb'];exact hnV) (card V) x (-1) sx vx vy G _ (fun b hb=>by have h1:=hGl b hb;have h2:=kh.size;omega) hGs H hq hxV (by omega) (by rw[unv,← dL];exact List.length_filter_le _ _)).mono fun en w' ⟨k1,v1,v2,k2,k3,k4⟩=>⟨_,k1,k2,rfl,v1,v2,k3,k4⟩
    obtain⟨vx2,vy2,H2,hnew⟩:=HF
    rw[← hnb',← hs2] at H2
    have hwsz:=kh.size
    have hlt:∀b,OWN vx vy b→W.heap.size≤b:=fun b hb=>hb.elim (fun h=>by have:=(H.ow.lt h).1;omega) fun h=>by have:=(H.oo.lt h).1;omega
    replace e:=e.ch hc fun b hb=>by
     rcases hb with hb|hb
     ·omega
     ·exact hlt b hb
    replace kh:=kh.tr (Kh.chg hc fun b hb hh=>by
     rcases hb with hb|hb
     ·exact hgo b hh hb
     ·exact hown b hb hh)
    have hown2:∀b,OWN vx2 vy2 b→¬aX Bz b:=fun b hb=>by
     rcases hnew b hb with h|h
     ·exact hown b h
     ·exact fun hh=>by have:=hh.2;omega
    refine aa ?_
    replace hf:=hf.kp [3,4,9]
    exact⟨rfl,hf,e,kh,vx2,vy2,H2,hown2⟩
   ·rw[if_neg hz] at hs2
    rw[show (lkI sx.la (x:Int)==0)=false from beq_eq_false_iff_ne.2 hz] at hf
    refine ifF hf rfl ?_
    refine ah ?_
    simp only[Exit.then,Exit.inBlock,↓reduceIte]
    replace hf:=hf.kp [3,4,9]
    rw[← hs2] at H
    exact⟨trivial,hf,e,kh,vx,vy,H,hown⟩
  obtain⟨hf,e,kh,vx2,vy2,H,hown⟩:=hJ
  rw[dA] at htgt
  obtain⟨nx,hnx⟩:=eqX (nb (x:Int))
  rw[← hnx] at htgt hlkx
  have hdv:=MpR.dvE H.m (Nat.le_refl nm) (G:=Go.Mono.G0) (fun h=>h)
  refine seq <| ay 5 hf (by decide +kernel) <| st (bJ Tryz.underlying79 rfl T77 (by decide) rfl) <| st (ld1 (v:=.map (some bm)) T77 rfl H.pg (bI _ _)) <| st (mv rfl) <| st ((lkM (l:=l) (i:=(x:Int)) Tryz.underlying77 bW (isE rfl hdv) rfl hwx).eq (congrArg ac hlkx)) <| st (ak (A:=E (B (nx==0))) (B:=E (ac nx)) dG rfl (fun v w he h=>by cases h;exact ig _ w)) ?_
  refine en fun a w e' hf=>?_
  replace H:=H.ext e'
  replace kh:=kh.tr (Kh.ext e')
  replace e:=e.tr e'
  refine aa ?_
  replace hf:=hf.kp [3,4,9,30]
  by_cases hz:nx=0
  ·rw[if_pos hz] at htgt
   rw[show (nx==0)=true from beq_iff_eq.2 hz] at hf
   refine ifT hf rfl ?_
   replace hf:=hf.kp [3,4,9]
   have hkz:=kh.size
   have hgo2:∀b,GO (fun b=>G b∨vx2.ownBlock=some b) vy2 b→b<w.heap.size:=fun b hb=>by
    rcases hb with (hb|hb)|hb
    ·have:=hGl b hb;omega
    ·exact (H.ow.lt hb).2
    ·exact (H.oo.lt hb).2
   have hlt:∀b,vy2.ownBlock=some b→W.heap.size≤b:=fun b hb=>by have:=(H.oo.lt hb).1;omega
   have hesz:=e.size
   obtain⟨Nw,hNw⟩:=eqX w.heap.size
   refine ay 4 hf (by decide +kernel) <| st (ld1 (v:=vy2) T39 rfl H.po rfl) <| st (mv rfl) <| st ((lB (B:=Nw) (G:=Go.Mono.G0) Tryz.underlying35 I3 rfl rfl (Nat.le_of_eq hNw) (fun b hb=>hb.elim)).conv (B:=Dv (bV 3) (GO (fun b=>G b∨vx2.ownBlock=some b) vy2) [(x:Int)]) (fun v w' k=>OwR.own' k fun b hb hh=>by have h1:=hgo2 b hh;have h2:=(OwR.lt k hb).1;omega)) ?_
   refine st (aW (e:=bV 3) (G:=GO (fun b=>G b∨vx2.ownBlock=some b) vy2) Tryz.underlying39 I35 rfl (by decide) rfl hgo2 (isR rfl)) <| en fun a w e' hf=>?_
   replace H:=H.ext e'
   replace kh:=kh.tr (Kh.ext e')
   replace e:=e.tr e'
   replace hf:=hf.kp [3,4,9,31,34]
   refine kP Tryz.underlying39 I35 rfl rfl hf (by decide) rfl H.oo (isR rfl) (by simp only[List.length_singleton];omega) (by simp only[List.length_singleton,maxLen];omega) fun a vy3 w' hg hat Hn hf=>?_
   have Bo:=H.po.gro hg (fun h=>by have:=(H.oo.lt h).1;omega)
   have hksz:=kh.size
   replace hf:=hf.kp [3,4,9,35]
   refine aI T39 hf rfl rfl Hn.one Bo Nat.zero_lt_one fun w2 hg2 hsz Bo hf=>?_
   have hown3:∀b,OWN vx2 vy3 b→¬aX Bz b:=fun b hb=>by
    rcases hb with hb|hb
    ·exact hown b (.inl hb)
    ·rcases hat with h|h
     ·exact hown b (.inr (by rw[← h];exact hb))
     ·rw[h] at hb;cases hb
      exact fun hh=>by have:=hh.2;omega
   replace H:BcW l V bm nm b5 b6 b7 b3 b8 b4 ma ml N G tgt vx2 vy3 w2:=by rw[htgt];exact H.setO D hg Hn hg2 Bo hGs.2.1
   replace e:=(e.gro hg hlt).gr hg2 (by omega)
   replace kh:=(kh.tr (Kh.gro hg fun b hb hh=>hown b (.inr hb) hh)).tr (Kh.gr hg2 fun hh=>hgo _ hh (.inr (.inl rfl)))
   refine aa ?_
   simp only[Exit.inBlock]
   exact⟨fin _ _ _ ⟨H,e,hown3⟩,kh⟩
  ·rw[if_neg hz] at htgt
   rw[show (nx==0)=false from beq_eq_false_iff_ne.2 hz] at hf
   refine ifF hf rfl ?_
   refine ah ?_
   rw[← htgt] at H
   exact⟨fin _ _ _ ⟨H,e,hown⟩,kh⟩
 ·intro a' w' hf' hJ hsz hDn
  simp only[Exit.inBlock,↓reduceIte,Exit.then]
  obtain⟨⟨vx,vy,⟨H',e',hown⟩⟩,hq⟩:=hJ
  have hD:Ds [w.heap.size] w':=(Ds.nil w').cons hDn (by simp)
  have hf:FrD 39 (bL [w.heap.size]) a' w' [(4,E (ptr b4))]:=hf'.keep [4]
  have hDW:∀d∈[w.heap.size],W.heap.size≤d:=fun d hd=>by rw[List.mem_singleton] at hd;omega
  have hlv:=hq.o
  have hal:=hq.al
  have hvl:=eT V
  have dn:=D.n
  rw[bccF]
  obtain⟨sx,hsx⟩:=eqX ((aj V).foldl (bcN nb (card V)) ⟨[],[],[],[]⟩)
  have hln:∀xs∈sx.out,xs.length≤100000:=fun xs hx=>by
   rw[hsx] at hx
   have:=a0U nb (card V) (aj V) ⟨[],[],[],[]⟩ (fun xs hx=>by cases hx) xs hx
   omega
  rw[← hsx] at H' hlv hal ⊢
  have hodn:∀b,vy.ownBlock=some b→¬b∈[w.heap.size]:=fun b hb hd=>by
   rw[List.mem_singleton] at hd
   exact hown b (.inr hb) (by rw[hd];exact⟨Nat.le_refl _,by omega⟩)
  have h4d:¬b4∈[w.heap.size]:=fun hd=>by rw[List.mem_singleton] at hd;omega
  have H:=H'
  have e:=e'
  have hGD:∀d∈[w.heap.size],G d:=fun d hd=>by rw[List.mem_singleton] at hd;rw[hd];exact hGh _ ⟨Nat.le_refl _,by omega⟩
  generalize [w.heap.size]=D2 at *
  generalize w'=w at *
  refine seq <| ay 1 hf (by decide +kernel) <| st (ld1 (v:=vy) T39 rfl H.po rfl) <| en fun a w e' hf=>?_
  replace H:=H.ext e'
  replace e:=e.tr e'
  replace hD:=hD.ext e'
  replace hf:=hf.kp [4,36]
  refine em (S:=fun b=>vy.ownBlock=some b) (F:=fun z w'=>OwX (bV 3) 35 N (fun b=>b<W.heap.size∨b∈D2) w' (fL sx.out) vy) hf (by decide) uV ?_ fun a z w2 hc hF hf=>?_
  ·have e36:a.eval (.tmp 36)=vy:=hf.opd (.tmp 36) _ rfl
   have eF:a.eval (.func 67)=.func (.func 67) #[] #[]:=rfl
   simp only[List.map_toArray,List.map_cons,List.map_nil,e36,eF]
   exact (a0R rfl Dv.ownSl (Dv.own.2 (.inl ⟨rfl,rfl⟩)) H.oo (by omega) hln).mono fun en w' ⟨k1,k2,out',k3,k4,k5⟩=>⟨_,k1,k2,by rw[← mP k3 k4];exact k5.weak fun b _ hb=>.inl (hb.elim (hGW b) (hGD b))⟩
  have B4:=H.po.ch hc (fun h=>by have:=(H.oo.lt h).1;omega)
  replace hD:=hD.ch hc fun d hd h=>hodn d h hd
  replace e:=e.ch hc fun b hb=>by have:=(H.oo.lt hb).1;omega
  generalize w2=w at *
  refine aa ?_
  replace hf:=hf.kp [4]
  refine seq <| ay 1 hf (by decide +kernel) <| st (ld1 (v:=vy) T39 rfl B4 rfl) <| en fun a w e' hf=>?_
  replace hF:=hF.ext e'
  replace e:=e.tr e'
  replace B4:=B4.ext e'
  replace hD:=hD.ext e'
  refine aA hf rfl (by decide) fun a hf=>aa <| ai <| gj rfl hf rfl hD ⟨_,rfl,e.shut hDW,?_⟩
  exact OwX.low ((OwX.ch hF (dU D2 w) hodn fun b hb=>.inr hb).weak fun b _ hb=>.inl hb) hWN
theorem mQ {N0:Nat}(g:GT)(ok:Gr.Ok g)(v:Value)(W:World)(hT:Tab W)(h:(Gn N0 g).p v W)(hl1:g.1.length≤100000)(hl2:g.2.length≤100000)(hN0:N0≤1000000) :
  Calls Tryz.prog 19 #[v] W (Post (Dv (slE (slE intE)) Go.Mono.G0 (bccF (nbA g) (vset g.1))) W):=
 (sD g ok v W hT h hl1 hl2 hN0).mono fun en w' ⟨u,k1,k2,k3⟩=>⟨u,k1,k2,Dv.ownSlS (OwX.sl0 k3)⟩
end Go.Mono
namespace Go.Mono
open Go Go.Proofs Go.RowKit Go.Gr
def knV:List VT:=[(1,(0,0)),(2,(0,0)),(3,(0,0)),(4,(0,0)),(5,(0,0))]
def knE:List ET:=[((1,2),(0,0)),((2,3),(0,0)),((3,4),(0,0)),((1,4),(0,0)),((4,5),(0,0))]
def knG:GT:=(knV,[((1,2),(0,0)),((1,4),(0,0)),((2,3),(0,0)),((3,4),(0,0)),((4,5),(0,0))])
def knL:List (Int×BS):=[(1,20#1024),(2,10#1024),(3,20#1024),(4,42#1024),(5,16#1024)]
theorem a0V:Gr.Ok knG:=yA (by decide +kernel)
theorem a0W:(match dX knV knE with
 | some g=>g.1.isPerm knG.1&&g.2.isPerm knG.2
 | none=>false)=true:=by decide +kernel
theorem a0X:nbL knG (aj (vset knG.1))=knL:=by decide +kernel
theorem fc:vset knG.1=62#1024:=by decide +kernel
theorem sE:esN knG=[(1,2),(1,4),(2,3),(3,4),(4,5)]:=by decide +kernel
theorem ey:nbA knG=lkS knL:=by rw[nbA,a0X]
theorem a0Y:((prF (nbA knG) (card (vset knG.1)) (vset knG.1)).map elL)=[[1,2,3,4,5]]:=by
 rw[ey,fc];decide +kernel
theorem a0Z:(brF knG).map toI=[(4,5)]:=by
 rw[brF,ey,sE];decide +kernel
theorem a1a:ae (cvF knG)=[4]:=by
 rw[cvF,ey,fc];decide +kernel
theorem a1b:bccF (nbA knG) (vset knG.1)=[[1,2,3,4],[4,5]]:=by
 rw[ey,fc];decide +kernel
theorem a1c:ae (bpL (nbA knG) (vset knG.1))=[1,3,5]:=by
 rw[ey,fc];decide +kernel
theorem a1d:bpB (nbA knG) (vset knG.1)=true:=by
 rw[ey,fc];decide +kernel
theorem a1e:iF (nbA knG) (vset knG.1) (esN knG)=some [1,2,3,4]:=by
 rw[ey,fc,sE];decide +kernel
theorem a1f:iI (nbA knG) (vset knG.1)=none:=by
 rw[ey,fc];decide +kernel
theorem a1g:ae (spF knG 2 4)=[2,1,4]:=by
 rw[spF,dsF,ey,fc];decide +kernel
theorem sF {α:Type}{xs ys:List α}{k:Nat}{x y:α}(h:xs.take k=ys.take k)(hx:xs[k]?=some x)(hy:ys[k]?=some y):(xs.take (k+1)=ys.take (k+1))↔x=y:=by
 rw[bs hx,bs hy,h]
 simp
theorem iL {G G':Nat→Prop}(xs ys:List Int)(v u:Value)(W:World)(h:(Dv (slE intE) G xs).p v W)(h':(Dv (slE intE) G' ys).p u W)(hl:xs.length≤100000)(hl':ys.length≤100000) :
  Calls Tryz.prog 16 #[v,u] W (Post (E (B (decide (xs=ys)))) W):=by
 refine eN [v,u] [Dv (slE intE) G0 xs,Dv (slE intE) G0 ys] Tryz.func16 Tryz.ntmps16 ?_ fun a hf=>?_
 rotate_left
 rotate_right
 ·exact arg2 (Dv.weak h fun b _ hb=>hb.elim) (Dv.weak h' fun b _ hb=>hb.elim)
 have e:=Ext.rfl' W
 refine seq <| ab <| tA hf rfl fun a hf=>aa ?_
 refine seq <| seq ?_
 refine rgN 5 hf <| st (mv rfl) <| st (aB U35 (isR rfl)) <| st (mv rfl) <| st (aB U35 (isR rfl)) <| st (neq rfl rfl) <| en fun a w e' hf=>?_
 replace e:=e.tr e'
 refine aa <| ifc hf rfl (fun hb=>?_) (fun hb=>?_)
 ·have hne:xs≠ys:=fun he=>by rw[he] at hb;simp at hb
  refine seq <| ab <| tA hf rfl fun a hf=>aa <| ai <| am rfl hf rfl ?_
  rintro _ rfl
  exact⟨_,rfl,e,congrArg B (decide_eq_false hne).symm⟩
 have hll:xs.length=ys.length:=by simp at hb;omega
 refine ah ?_
 refine seq <| seq ?_
 refine ab <| tA hf rfl fun a hf=>aa ?_
 replace hf:=hf.keep [0,1,5]
 refine blk (aF (fun r0 a w=>∃(k:Nat) ,r0=xs.length - k∧k≤xs.length∧Fr 26 a w [(0,Dv (slE intE) G0 xs),(1,Dv (slE intE) G0 ys),(5,E (I k))]∧Ext W w∧xs.take k=ys.take k) xs.length ⟨0,rfl,by omega,hf,e,rfl⟩ ?_)
 rintro r0 a w ⟨k,rfl,hk,hf,e,ht⟩
 refine seq <| seq ?_
 refine rgN 4 hf <| st (mv rfl) <| st (mv rfl) <| st (aB U35 (isR rfl)) <| st (lss rfl rfl) <| en fun a w e' hf=>?_
 replace e:=e.tr e'
 refine aa <| ifc hf rfl (fun hc=>ah ?_) (fun hc=>aC ?_)
 rotate_left
 rotate_left
 ·have hlt:=ltC hc
  replace hf:=hf.keep [0,1,5]
  refine seq <| blk ?_
  have hx:=cA hlt
  have hy:=cA (show k<ys.length by omega)
  refine seq <| rgG 9 Mix.mix hf <| st (mv rfl) <| st (mv rfl) <| st (aD U35 S3 (isR rfl) rfl (by omega) (hx)) <| st (ldI T3 (isR rfl)) <| st (mv rfl) <| st (mv rfl) <| st (aD U35 S3 (isR rfl) rfl (by omega) (hy)) <| st (ldI T3 (isR rfl)) <| st (neq rfl rfl) <| en fun a w e' hf=>?_
  replace e:=e.tr e'
  refine aa <| ifc hf rfl (fun hb=>?_) (fun hb=>?_)
  ·have hne:xs≠ys:=fun he=>by rw[he] at hb;simp at hb
   refine seq <| ab <| tA hf rfl fun a hf=>aa <| ai <| am rfl hf rfl ?_
   rintro _ rfl
   exact⟨_,rfl,e,congrArg B (decide_eq_false hne).symm⟩
  ·refine ah <| rgN 2 hf <| st (mv rfl) <| st ((add rfl rfl (by omega)).eq (iN k)) <| en fun a w e' hf=>?_
   replace e:=e.tr e'
   refine tA hf rfl fun a hf=>aa ?_
   replace hf:=hf.keep [0,1,5]
   refine⟨_,?_,k+1,rfl,by omega,hf,e,?_⟩
   ·omega
   exact (yu ht hlt (by omega)).2 (by simpa using hb)
 ·obtain rfl:=dnE hc hk
  have he:xs=ys:=by rw[List.take_length,hll,List.take_length] at ht;exact ht
  refine seq <| ab <| tA hf rfl fun a hf=>aa <| ai <| am rfl hf rfl ?_
  rintro _ rfl
  exact⟨_,rfl,e,congrArg B (decide_eq_true he).symm⟩
theorem kf {G G':Nat→Prop}(xs ys:List (List Int))(v u:Value)(W:World)(h:(Dv (slE (slE intE)) G xs).p v W)(h':(Dv (slE (slE intE)) G' ys).p u W)(hl:xs.length≤100000)(hl':ys.length≤100000)(hx1:∀x∈xs,x.length≤100000)(hy1:∀x∈ys,x.length≤100000) :
  Calls Tryz.prog 20 #[v,u] W (Post (E (B (decide (xs=ys)))) W):=by
 refine eN [v,u] [Dv (slE (slE intE)) G0 xs,Dv (slE (slE intE)) G0 ys] Tryz.func20 Tryz.ntmps20 ?_ fun a hf=>?_
 rotate_left
 rotate_right
 ·exact arg2 (Dv.weak h fun b _ hb=>hb.elim) (Dv.weak h' fun b _ hb=>hb.elim)
 have e:=Ext.rfl' W
 refine seq <| ab <| tA hf rfl fun a hf=>aa ?_
 refine seq <| seq ?_
 refine rgN 5 hf <| st (mv rfl) <| st (aB U39 (isR rfl)) <| st (mv rfl) <| st (aB U39 (isR rfl)) <| st (neq rfl rfl) <| en fun a w e' hf=>?_
 replace e:=e.tr e'
 refine aa <| ifc hf rfl (fun hb=>?_) (fun hb=>?_)
 ·have hne:xs≠ys:=fun he=>by rw[he] at hb;simp at hb
  refine seq <| ab <| tA hf rfl fun a hf=>aa <| ai <| am rfl hf rfl ?_
  rintro _ rfl
  exact⟨_,rfl,e,congrArg B (decide_eq_false hne).symm⟩
 have hll:xs.length=ys.length:=by simp at hb;omega
 refine ah ?_
 refine seq <| seq ?_
 refine ab <| tA hf rfl fun a hf=>aa ?_
 replace hf:=hf.keep [0,1,5]
 refine blk (aF (fun r0 a w=>∃(k:Nat) ,r0=xs.length - k∧k≤xs.length∧Fr 27 a w [(0,Dv (slE (slE intE)) G0 xs),(1,Dv (slE (slE intE)) G0 ys),(5,E (I k))]∧Ext W w∧xs.take k=ys.take k) xs.length ⟨0,rfl,by omega,hf,e,rfl⟩ ?_)
 rintro r0 a w ⟨k,rfl,hk,hf,e,ht⟩
 refine seq <| seq ?_
 refine rgN 4 hf <| st (mv rfl) <| st (mv rfl) <| st (aB U39 (isR rfl)) <| st (lss rfl rfl) <| en fun a w e' hf=>?_
 replace e:=e.tr e'
 refine aa <| ifc hf rfl (fun hc=>ah ?_) (fun hc=>aC ?_)
 rotate_left
 rotate_left
 ·have hlt:=ltC hc
  replace hf:=hf.keep [0,1,5]
  refine seq <| blk ?_
  have hx:=List.getElem?_eq_getElem hlt
  have hy:=List.getElem?_eq_getElem (show k<ys.length by omega)
  have hxl:=hx1 _ (List.getElem_mem hlt)
  have hyl:=hy1 _ (List.getElem_mem (show k<ys.length by omega))
  have ha:∀x y,xs[k]?=some x→ys[k]?=some y→((xs.take (k+1)=ys.take (k+1))↔x=y):=fun x y hx hy=>sF ht hx hy
  generalize xs[k]=x at hx hxl
  generalize ys[k]=y at hy hyl
  have ha:=ha x y hx hy
  refine seq <| rgG 10 Mix.mix hf <| st (mv rfl) <| st (mv rfl) <| st (aD U39 S35 (isR rfl) rfl (by omega) (hx)) <| st (ldD T35 (isR rfl)) <| st (mv rfl) <| st (mv rfl) <| st (aD U39 S35 (isR rfl) rfl (by omega) (hy)) <| st (ldD T35 (isR rfl)) <| st (aw (A:=E (B (decide (x=y)))) (B:=Dv (slE intE) G0 x) (C:=Dv (slE intE) G0 y) gY rfl rfl (fun v u w he h h'=>iL x y v u w h h' hxl hyl)) <| st (aY rfl) <| en fun a w e' hf=>?_
  replace e:=e.tr e'
  refine aa <| ifc hf rfl (fun hb=>?_) (fun hb=>?_)
  ·have hne:xs≠ys:=fun he=>by
    rw[he] at hx
    rw[hx] at hy
    cases hy
    simp at hb
   refine seq <| ab <| tA hf rfl fun a hf=>aa <| ai <| am rfl hf rfl ?_
   rintro _ rfl
   exact⟨_,rfl,e,congrArg B (decide_eq_false hne).symm⟩
  ·refine ah <| rgN 2 hf <| st (mv rfl) <| st ((add rfl rfl (by omega)).eq (iN k)) <| en fun a w e' hf=>?_
   replace e:=e.tr e'
   refine tA hf rfl fun a hf=>aa ?_
   replace hf:=hf.keep [0,1,5]
   refine⟨_,?_,k+1,rfl,by omega,hf,e,?_⟩
   ·omega
   exact ha.2 (by simpa using hb)
 ·obtain rfl:=dnE hc hk
  have he:xs=ys:=by rw[List.take_length,hll,List.take_length] at ht;exact ht
  refine seq <| ab <| tA hf rfl fun a hf=>aa <| ai <| am rfl hf rfl ?_
  rintro _ rfl
  exact⟨_,rfl,e,congrArg B (decide_eq_true he).symm⟩
theorem a1h {P:Program}{t e:TypeId}(ht:P.underlying t=some (.array 2 e))(he:P.underlying e=some (.int .i64))(hs:TI P e false 1)(a b:Int×Int)(w:World):(Op.equal t (edV a) (edV b)).run P w=.ok (decide (a=b)) w:=by
 obtain⟨a1,a2⟩:=a
 obtain⟨b1,b2⟩:=b
 have p0:∀x y w,(part e #[x,y] 0).run P w=.ok x w:=fun x y w=>by simp[part,hs.agg]
 have p1:∀x y w,(part e #[x,y] 1).run P w=.ok y w:=fun x y w=>by simp[part,hs.agg]
 have q:∀x y w,(Op.equalIn 9999 e (I x) (I y)).run P w=.ok (x==y) w:=fun x y w=>run_equalIn_int w 9998 e .i64 .i64 x y he
 show (Op.equalIn 10000 t (.agg #[I a1,I a2]) (.agg #[I b1,I b2])).run P w=_
 rw[Op.equalIn]
 simp only[Sem.run_bind,run_underlying ht,Result.andThen_ok,hs.size]
 rw[Std.Legacy.Range.forIn_eq_forIn_range']
 simp only[Std.Legacy.Range.size,Nat.sub_zero,Nat.add_one_sub_one,Nat.div_one,List.range',List.forIn_cons,List.forIn_nil,Sem.run_bind,Nat.mul_one,p0,p1,q,Result.andThen_ok]
 by_cases h1:a1=b1
 ·by_cases h2:a2=b2
  ·rw[decide_eq_true (by rw[h1,h2])];simp[h1,h2,p0,p1,q]
  ·rw[decide_eq_false (fun h=>h2 (Prod.mk.inj h).2)];simp[h1,h2,p0,p1,q]
 ·rw[decide_eq_false (fun h=>h1 (Prod.mk.inj h).1)];simp[h1]
theorem a1i {P:Program}{w0:World}{L:Env}{dst:Option Tmp}{ty:TypeId}{pos:String}{aft:Array Edge}{g:Option (Nat×Bool)}{t yt e:TypeId}{x y:Operand}{a b:Int×Int}(ht:P.underlying t=some (.array 2 e))(he:P.underlying e=some (.int .i64))(hs:TI P e false 1)(hm:P.eqGuardType P.depth t=false)(hx:opd L x=some (E (edV a)))(hy:opd L y=some (E (edV b))) :
  OpC P w0 L ⟨dst,.binOp .neq t x y yt,ty,pos,aft,g⟩ (E (.bool (!decide (a=b)))):=
 kw hx hy (fun w=>kK _ _ _ _ _ _ hm w) rfl fun w _=>a1h ht he hs a b w
theorem a1j {G G':Nat→Prop}(xs ys:List (Int×Int))(v u:Value)(W:World)(h:(Dv (slE edE) G xs).p v W)(h':(Dv (slE edE) G' ys).p u W)(hl:xs.length≤100000)(hl':ys.length≤100000) :
  Calls Tryz.prog 13 #[v,u] W (Post (E (B (decide (xs=ys)))) W):=by
 refine eN [v,u] [Dv (slE edE) G0 xs,Dv (slE edE) G0 ys] Tryz.func13 Tryz.ntmps13 ?_ fun a hf=>?_
 rotate_left
 rotate_right
 ·exact arg2 (Dv.weak h fun b _ hb=>hb.elim) (Dv.weak h' fun b _ hb=>hb.elim)
 have e:=Ext.rfl' W
 refine seq <| ab <| tA hf rfl fun a hf=>aa ?_
 refine seq <| seq ?_
 refine rgN 5 hf <| st (mv rfl) <| st (aB U31 (isR rfl)) <| st (mv rfl) <| st (aB U31 (isR rfl)) <| st (neq rfl rfl) <| en fun a w e' hf=>?_
 replace e:=e.tr e'
 refine aa <| ifc hf rfl (fun hb=>?_) (fun hb=>?_)
 ·have hne:xs≠ys:=fun he=>by rw[he] at hb;simp at hb
  refine seq <| ab <| tA hf rfl fun a hf=>aa <| ai <| am rfl hf rfl ?_
  rintro _ rfl
  exact⟨_,rfl,e,congrArg B (decide_eq_false hne).symm⟩
 have hll:xs.length=ys.length:=by simp at hb;omega
 refine ah ?_
 refine seq <| seq ?_
 refine ab <| tA hf rfl fun a hf=>aa ?_
 replace hf:=hf.keep [0,1,5]
 refine blk (aF (fun r0 a w=>∃(k:Nat) ,r0=xs.length - k∧k≤xs.length∧Fr 26 a w [(0,Dv (slE edE) G0 xs),(1,Dv (slE edE) G0 ys),(5,E (I k))]∧Ext W w∧xs.take k=ys.take k) xs.length ⟨0,rfl,by omega,hf,e,rfl⟩ ?_)
 rintro r0 a w ⟨k,rfl,hk,hf,e,ht⟩
 refine seq <| seq ?_
 refine rgN 4 hf <| st (mv rfl) <| st (mv rfl) <| st (aB U31 (isR rfl)) <| st (lss rfl rfl) <| en fun a w e' hf=>?_
 replace e:=e.tr e'
 refine aa <| ifc hf rfl (fun hc=>ah ?_) (fun hc=>aC ?_)
 rotate_left
 rotate_left
 ·have hlt:=ltC hc
  replace hf:=hf.keep [0,1,5]
  refine seq <| blk ?_
  have hx:=List.getElem?_eq_getElem hlt
  have hy:=List.getElem?_eq_getElem (show k<ys.length by omega)
  have ha:∀x y,xs[k]?=some x→ys[k]?=some y→((xs.take (k+1)=ys.take (k+1))↔x=y):=fun x y hx hy=>sF ht hx hy
  generalize xs[k]=x at hx
  generalize ys[k]=y at hy
  have ha:=ha x y hx hy
  refine seq <| rgG 9 Mix.mix hf <| st (mv rfl) <| st (mv rfl) <| st (aD U31 S60 (isR rfl) rfl (by omega) (hx)) <| st (jS T60 (isR rfl)) <| st (mv rfl) <| st (mv rfl) <| st (aD U31 S60 (isR rfl) rfl (by omega) (hy)) <| st (jS T60 (isR rfl)) <| st (a1i U60 U3 T3 (by kernel_rfl) rfl rfl) <| en fun a w e' hf=>?_
  replace e:=e.tr e'
  refine aa <| ifc hf rfl (fun hb=>?_) (fun hb=>?_)
  ·have hne:xs≠ys:=fun he=>by
    rw[he] at hx
    rw[hx] at hy
    cases hy
    simp at hb
   refine seq <| ab <| tA hf rfl fun a hf=>aa <| ai <| am rfl hf rfl ?_
   rintro _ rfl
   exact⟨_,rfl,e,congrArg B (decide_eq_false hne).symm⟩
  ·refine ah <| rgN 2 hf <| st (mv rfl) <| st ((add rfl rfl (by omega)).eq (iN k)) <| en fun a w e' hf=>?_
   replace e:=e.tr e'
   refine tA hf rfl fun a hf=>aa ?_
   replace hf:=hf.keep [0,1,5]
   refine⟨_,?_,k+1,rfl,by omega,hf,e,?_⟩
   ·omega
   exact ha.2 (by simpa using hb)
 ·obtain rfl:=dnE hc hk
  have he:xs=ys:=by rw[List.take_length,hll,List.take_length] at ht;exact ht
  refine seq <| ab <| tA hf rfl fun a hf=>aa <| ai <| am rfl hf rfl ?_
  rintro _ rfl
  exact⟨_,rfl,e,congrArg B (decide_eq_true he).symm⟩
theorem a1k:∀x∈knV,okD (dV x):=by
 intro x hx
 simp only[knV,List.mem_cons,List.not_mem_nil,or_false] at hx
 rcases hx with rfl|rfl|rfl|rfl|rfl <;> exact⟨by decide,by decide,by decide,by decide⟩
theorem a1l:∀x∈knE,okD (dE x):=by
 intro x hx
 simp only[knE,List.mem_cons,List.not_mem_nil,or_false] at hx
 rcases hx with rfl|rfl|rfl|rfl|rfl <;> exact⟨by decide,by decide,by decide,by decide⟩
theorem a1m:∃g',dX knV knE=some g'∧g'.1.Perm knG.1∧g'.2.Perm knG.2:=by
 have h:=a0W
 cases hb:dX knV knE with
 | none=>rw[hb] at h;cases h
 | some g=>
  rw[hb] at h
  simp only[Bool.and_eq_true,List.isPerm_iff] at h
  exact⟨g,rfl,h.1,h.2⟩
theorem sG (W:World)(hT:Tab W):Calls Tryz.prog 12 #[] W (Post (E (B true)) W):=by
 have hT0:=hT.lt
 have ok:=a0V
 have gs1:=ok.sv
 have gs2:=ok.se
 have l1:knG.1.length≤100000:=by decide
 have l2:knG.2.length≤100000:=by decide
 have lN:2000≤1000000:=by decide
 have hVl:knV.length=5:=rfl
 refine enter (args:=[]) (As:=([]:List VA)) Tryz.func12 rfl Tryz.ntmps12 (Nat.le_of_ble_eq_true rfl) (fun i A h=>by simp at h) (fun a hf=>?_) (Nat.le_of_ble_eq_true rfl)
 have e:=Ext.rfl' W
 refine seq <| ab <| tA hf rfl fun a hf=>aa <| seq <| ab <| tA hf rfl fun a hf=>aa ?_
 refine seq <| seq ?_
 refine ab <| tA hf rfl fun a hf=>aa ?_
 replace hf:=hf.keep [0,1,2]
 refine blk (aF (fun r0 a w=>∃(k:Nat) (u:Value),r0=5 - k∧k≤5∧Fr 90 a w [(0,E (B false)),(1,E u),(2,E (I ((k+1:Nat):Int)))]∧Ext W w∧Tab w∧OwR vtE 73 W.heap.size G0 w (knV.take k) u) 5 ⟨0,.slice none 0 0,rfl,by omega,hf,e,⟨hT,OwR.nil vtE _ e.size fun b hb=>hb.elim⟩⟩ ?_)
 rintro r0 a w ⟨k,u,rfl,hk,hf,e,hT,H1⟩
 refine seq <| seq ?_
 refine rgN 2 hf <| st (mv rfl) <| st (leq rfl rfl) <| en fun a w e' hf=>?_
 obtain⟨hT,H1,e⟩:=up3 e' hT H1 e
 refine aa <| ifc hf rfl (fun hc=>ah ?_) (fun hc=>aC ?_)
 rotate_left
 rotate_left
 ·have hlt:k<5:=by have:=of_decide_eq_true hc;(try dsimp only at this);omega
  replace hf:=hf.kp [0,1,2]
  refine seq <| blk ?_
  have hx:knV[k]?=some ((((k+1:Nat):Int)),(0,0)):=by
   have:∀k<5,knV[k]?=some ((((k+1:Nat):Int)),(0,0)):=by decide
   exact this k hlt
  have hlk:=List.length_take_le k knV
  refine rgN 4 hf <| st (mv rfl) <| st (mv rfl) <| st (yy _ rfl) <| st (aW U66 I73 rfl (by decide) rfl H1.avs (eM rfl)) <| en fun a w e' hf=>?_
  obtain⟨hT,H1,e⟩:=up3 e' hT H1 e
  haveI hin:∀G0,InR (GB W G0) _:=OwR.inGB (W:=W) H1 (Nat.le_refl _)
  refine br U66 I73 rfl rfl hf (by decide) rfl H1 (isR rfl) (by simp only[List.length_singleton];omega) (by simp only[List.length_singleton,maxLen];omega) fun a v w hg hat Hn hf=>?_
  replace e:=e.gro hg (H1.row (W:=W) (Nat.le_refl _))
  have hrow:=H1.row (W:=W) (Nat.le_refl _)
  replace hT:=hT.gro hg (fun b hb=>by have:=(H1.lt hb).1;omega)
  replace H1:=Hn
  replace H1:=Hn;clear Hn hg hat hin
  refine tA hf rfl fun a hf=>aa ?_
  rw[← bs hx] at H1
  replace hf:=hf.keep [0,1,2]
  refine rgN 2 hf <| st (mv rfl) <| st ((add rfl rfl (by omega)).eq (congrArg I (show ((k+1:Nat):Int)+1=((k+1+1:Nat):Int) from rfl))) <| en fun a w e' hf=>?_
  obtain⟨hT,H1,e⟩:=up3 e' hT H1 e
  refine tA hf rfl fun a hf=>aa ?_
  replace hf:=hf.keep [0,1,2]
  exact⟨_,by omega,k+1,_,rfl,by omega,hf,e,hT,H1⟩
 ·obtain rfl:k=5:=by have:=of_decide_eq_false hc;(try dsimp only at this);omega
  rw[List.take_of_length_le (by omega)] at H1
  replace hf:=hf.keep [0,1]
  refine seq <| rgN 11 hf <| st (mv rfl) <| st (iy 1 2 rfl rfl) <| st (iy 2 3 rfl rfl) <| st (iy 3 4 rfl rfl) <| st (iy 1 4 rfl rfl) <| st (iy 4 5 rfl rfl) <| st (eU (e:=etE) (G:=G0) (zs:=knE) (xs:=[.tmp 18,.tmp 19,.tmp 20,.tmp 21,.tmp 22]) U61 I62 rfl rfl (by decide) (by decide) rfl (fun b hb=>hb.elim) ⟨dr rfl,dr rfl,dr rfl,dr rfl,dr rfl,trivial⟩) <| st (aw (A:=Tup [Dv (ptE (grE 2000)) G0 (some knG),E (I 0)]) (C:=Dv (slE etE) G0 knE) oj rfl rfl (fun v u w he k1 k2=>by cases k1;exact yx knV knE knG a1m a1k a1l _ _ w (vst he H1.sl) k2 (by decide) (by decide) (fun b hb=>hb.elim))) ?_
  refine st (mv rfl) <| st (aV rfl rfl) <| st (aV rfl rfl) <| en fun a w e' hf=>?_
  obtain⟨hT,H1,e⟩:=up3 e' hT H1 e
  refine tA hf rfl fun a hf=>tA hf rfl fun a hf=>aa ?_
  obtain⟨gv,hgv,hf⟩:=hf.opn 3 rfl
  obtain⟨W1,hW1⟩:=eqX w
  have e1:Ext W1 w:=by rw[hW1];exact Ext.rfl' _
  replace hgv:(Dv (ptE (grE 2000)) G0 (some knG)).p gv W1:=by rw[hW1];exact hgv
  replace hf:=hf.keep [0,3,4]
  refine seq <| seq ?_
  refine rgN 6 hf <| st (mv rfl) <| st (dm U26 (isE rfl (vst e1 hgv))) <| st (mv rfl) <| sy rfl rfl (mv rfl) <| sy rfl rfl (neq rfl rfl) <| st (pkF rfl rfl) <| en fun a w e' hf=>?_
  obtain⟨hT,e1,e⟩:=up3 e' hT e1 e
  refine aa <| ifF hf rfl ?_
  refine ah ?_
  have e9:=e1
  refine seq <| rgN 5 hf <| st (mv rfl) <| st (ak (A:=Tup [Dv (slE intE) G0 [1,3,5],E (B true)]) oe rfl (fun v w he k=>by cases k;have:=sc knG ok gv w (hT.ext he) (Gn.of (vst (e9.tr he) hgv)) l1 l2 lN;rwa [a1c,a1d] at this)) ?_
  refine st (mv rfl) <| st (aV rfl rfl) <| st (aV rfl rfl) <| en fun a w e' hf=>?_
  obtain⟨hT,e1,e⟩:=up3 e' hT e1 e
  refine tA hf rfl fun a hf=>tA hf rfl fun a hf=>aa ?_
  replace hf:=hf.keep [0,3,5,6]
  have d1:(decide (([[1,2,3,4,5]]:List (List Int))=[[1,2,3,4,5]]))=true:=by decide
  have d2:(decide (([(4,5)]:List (Int×Int))=[(4,5)]))=true:=by decide
  have d3:(decide (([4]:List Int)=[4]))=true:=by decide
  have d4:(decide (([[1,2,3,4],[4,5]]:List (List Int))=[[1,2,3,4],[4,5]]))=true:=by decide
  have d5:(decide (([1,3,5]:List Int)=[1,3,5]))=true:=by decide
  have d6:(decide (([1,2,3,4]:List Int)=[1,2,3,4]))=true:=by decide
  have d7:(decide (([2,1,4]:List Int)=[2,1,4]))=true:=by decide
  have ec:=e1
  refine seq <| rgN 52 hf <| st (mv rfl) <| st (ak (A:=Dv (slE (slE intE)) G0 [[1,2,3,4,5]]) jg rfl (fun v w he k=>by cases k;have:=rf knG gv w (hT.ext he) (Gn.of (vst (ec.tr he) hgv)) gs1 gs2 l1 l2 lN;rwa [a0Y] at this)) ?_
  refine st (eU (e:=intE) (G:=G0) (zs:=[1,2,3,4,5]) (xs:=[.const (I 1),.const (I 2),.const (I 3),.const (I 4),.const (I 5)]) U35 I3 rfl rfl (by decide) (by decide) rfl (fun b hb=>hb.elim) ⟨isI rfl,isI rfl,isI rfl,isI rfl,isI rfl,trivial⟩) <| st (aW (e:=slE intE) (G:=G0) U39 I35 rfl (by decide) rfl (fun b hb=>hb.elim) (isR rfl)) <| st (aw (A:=E (B true)) jd rfl rfl (fun v u w he k k'=>by have:=kf [[1,2,3,4,5]] [[1,2,3,4,5]] v u w k k' (by decide) (by decide) (by decide) (by decide);rwa [d1] at this)) ?_
  refine st (mv rfl) <| sy rfl rfl (mv rfl) <| sy rfl rfl (ak (A:=Dv (slE edE) G0 [(4,5)]) oc rfl (fun v w he k=>by cases k;have:=rP knG ok gv w (hT.ext he) (vst (ec.tr he) hgv) l1 l2 lN;rwa [a0Z] at this)) ?_
  refine sy rfl rfl ((bB [(0,_),(1,_)] rfl (bPr (4,5))).eq ((rfl:_=edV (4,5)))) <| sy rfl rfl (aW (e:=edE) (G:=G0) U31 I60 rfl (by decide) rfl (fun b hb=>hb.elim) (isE rfl (Dv.pr2.2 rfl))) <| sy rfl rfl (aw (A:=E (B true)) uJ rfl rfl (fun v u w he k k'=>by have:=a1j [(4,5)] [(4,5)] v u w k k' (by decide) (by decide);rwa [d2] at this)) ?_
  refine st (pkT rfl rfl) <| st (mv rfl) <| sy rfl rfl (mv rfl) <| sy rfl rfl (ak (A:=Dv (slE intE) G0 [4]) od rfl (fun v w he k=>by cases k;have:=rQ knG ok gv w (hT.ext he) (Gn.of (vst (ec.tr he) hgv)) l1 l2 lN;rwa [a1a] at this)) ?_
  refine sy rfl rfl (aW (e:=intE) (G:=G0) U35 I3 rfl (by decide) rfl (fun b hb=>hb.elim) (isI rfl)) <| sy rfl rfl (aw (A:=E (B true)) gY rfl rfl (fun v u w he k k'=>by have:=iL [4] [4] v u w k k' (by decide) (by decide);rwa [d3] at this)) ?_
  refine st (pkT rfl rfl) <| st (mv rfl) <| sy rfl rfl (mv rfl) <| sy rfl rfl (ak (A:=Dv (slE (slE intE)) G0 [[1,2,3,4],[4,5]]) jc rfl (fun v w he k=>by cases k;have:=mQ knG ok gv w (hT.ext he) (Gn.of (vst (ec.tr he) hgv)) l1 l2 lN;rwa [a1b] at this)) ?_
  refine sy rfl rfl (eU (e:=intE) (G:=G0) (zs:=[1,2,3,4]) (xs:=[.const (I 1),.const (I 2),.const (I 3),.const (I 4)]) U35 I3 rfl rfl (by decide) (by decide) rfl (fun b hb=>hb.elim) ⟨isI rfl,isI rfl,isI rfl,isI rfl,trivial⟩) <| sy rfl rfl (oU (e:=intE) (G:=G0) U35 I3 rfl (by decide) rfl (fun b hb=>hb.elim) (isI rfl) (isI rfl)) <| sy rfl rfl (oU (e:=slE intE) (G:=G0) U39 I35 rfl (by decide) rfl (fun b hb=>hb.elim) (isR rfl) (isR rfl)) <| sy rfl rfl (aw (A:=E (B true)) jd rfl rfl (fun v u w he k k'=>by have:=kf [[1,2,3,4],[4,5]] [[1,2,3,4],[4,5]] v u w k k' (by decide) (by decide) (by decide) (by decide);rwa [d4] at this)) ?_
  refine st (pkT rfl rfl) <| st (mv rfl) <| sy rfl rfl (mv rfl) <| sy rfl rfl (oV (e:=intE) (G:=G0) U35 I3 rfl (by decide) rfl (fun b hb=>hb.elim) (isI rfl) (isI rfl) (isI rfl)) <| sy rfl rfl (aw (A:=E (B true)) gY rfl rfl (fun v u w he k k'=>by have:=iL [1,3,5] [1,3,5] v u w k k' (by decide) (by decide);rwa [d5] at this)) ?_
  refine st (pkT rfl rfl) <| st (mv rfl) <| sy rfl rfl (mv rfl) <| st (pkT rfl rfl) <| st (mv rfl) <| sy rfl rfl (mv rfl) <| sy rfl rfl (ak (A:=Dv (slE intE) G0 [1,2,3,4]) oi rfl (fun v w he k=>by cases k;have:=rz knG ok gv w (hT.ext he) (vst (ec.tr he) hgv) l1 l2 lN;rw[a1e] at this;exact this.mono fun en w' ⟨u,k1,k2,k3⟩=>⟨u,k1,k2,k3.2⟩)) ?_
  refine sy rfl rfl (eU (e:=intE) (G:=G0) (zs:=[1,2,3,4]) (xs:=[.const (I 1),.const (I 2),.const (I 3),.const (I 4)]) U35 I3 rfl rfl (by decide) (by decide) rfl (fun b hb=>hb.elim) ⟨isI rfl,isI rfl,isI rfl,isI rfl,trivial⟩) <| sy rfl rfl (aw (A:=E (B true)) gY rfl rfl (fun v u w he k k'=>by have:=iL [1,2,3,4] [1,2,3,4] v u w k k' (by decide) (by decide);rwa [d6] at this)) ?_
  refine st (pkT rfl rfl) <| st (mv rfl) <| sy rfl rfl (mv rfl) <| sy rfl rfl (ak (A:=E (.slice none 0 0)) kU rfl (fun v w he k=>by cases k;have:=mH knG ok gv w (hT.ext he) (Gn.of (vst (ec.tr he) hgv)) l1 l2 lN;rw[a1f] at this;exact this)) ?_
  refine sy rfl rfl (eG U35 rfl) <| sy rfl rfl ((eql rfl rfl).eq (congrArg Value.bool (show (((0:Nat):Int)==0)=true from rfl))) <| st (pkT rfl rfl) <| st (mv rfl) <| sy rfl rfl (mv rfl) <| sy rfl rfl (bX (A:=Dv (slE intE) G0 [2,1,4]) og rfl rfl rfl (fun v u s w he k k' k''=>by cases k;cases k';cases k'';have:=rT knG ok 2 4 gv w (hT.ext he) (Gn.of (vst (ec.tr he) hgv)) l1 l2 lN;rwa [a1g] at this)) ?_
  refine sy rfl rfl (oV (e:=intE) (G:=G0) U35 I3 rfl (by decide) rfl (fun b hb=>hb.elim) (isI rfl) (isI rfl) (isI rfl)) <| sy rfl rfl (aw (A:=E (B true)) gY rfl rfl (fun v u w he k k'=>by have:=iL [2,1,4] [2,1,4] v u w k k' (by decide) (by decide);rwa [d7] at this)) ?_
  refine st (pkT rfl rfl) <| en fun a w e' hf=>?_
  obtain⟨hT,e1,e⟩:=up3 e' hT e1 e
  refine tA hf rfl fun a hf=>aa <| ai <| am rfl hf rfl ?_
  rintro _ rfl
  exact⟨_,rfl,e,rfl⟩
def dmS (nb:Int→BS)(m:Int)(x:Nat):Int:=max m (((lvB nb x).length:Nat) - 1)
def dmF (nb:Int→BS)(V:BS):Int:=if (prF nb (card V) V).length=1 then (aj V).foldl (dmS nb) 0 else -1
structure DmJ (W:World)(nm bm:Nat)(l:List (Int×BS))(V:BS)(b3 b4:Nat)(mx:Int)(w:World):Prop where
 e:Ext W w
 t:Tab w
 m:MpR sKV w bm nm l
 p3:Blk w b3 (adC V (.map (some bm))) 79
 p4:Blk w b4 #[I mx] 3
theorem DmJ.kp {W:World}{nm bm:Nat}{l:List (Int×BS)}{V:BS}{b3 b4:Nat}{mx:Int}{B:Nat}{w w':World}(h:DmJ W nm bm l V b3 b4 mx w)(k:Kp B w w')(hW:W.heap.size≤B)(h0:0<B)(l3:b3<B)(l4:b4<B)(lm:bm<B):DmJ W nm bm l V b3 b4 mx w':=
 have no:∀{b},b<B→¬aX B b:=fun h hh=>by have:=hh.1;omega
 ⟨h.e.kp k hW,h.t.kp k h0,h.m.pres (k.same bm h.m.lt (no lm)),h.p3.kp k (no l3),h.p4.kp k (no l4)⟩
theorem sH {N:Nat}(g:GT)(ok:Gr.Ok g)(v:Value)(W:World)(hT:Tab W)(h:(Gn N g).p v W)(hl1:g.1.length≤100000)(hl2:g.2.length≤100000)(hN:N≤1000000) :
  Calls Tryz.prog 34 #[v] W (Post (E (I (dmF (nbA g) (vset g.1)))) W):=by
 have hgd:=h
 obtain⟨l,hl⟩:=eqX (nbL g (aj (vset g.1)))
 have hnb:nbA g=lkS l:=by rw[hl,nbA]
 rw[hnb]
 obtain⟨V,hV⟩:=eqX (vset g.1)
 rw[← hV]
 obtain⟨rr,hrr⟩:=eqX (dmF (lkS l) V)
 rw[← hrr]
 rw[dmF] at hrr
 obtain⟨ps,hps⟩:=eqX (cw l V)
 rw[show prF (lkS l) (card V) V=ps by rw[hps,cw]] at hrr
 have hT0:=hT.lt
 refine cO (args:=[v]) (As:=[E v]) Tryz.func34 rfl Tryz.ntmps34 (Nat.le_of_ble_eq_true rfl) ?_ (fun a hf=>?_) (Nat.le_of_ble_eq_true rfl)
 ·exact arg1 rfl
 have e:=Ext.rfl' W
 refine seq <| ab <| tA hf rfl fun a hf=>aa ?_
 replace hf:=hf.keep [0]
 have e0:=e
 refine seq <| rgN 2 hf <| st (mv rfl) <| st (ak (A:=ci l V 1024) dR rfl (fun v w he k=>by cases k;rw[hl,hV];exact gG g ok _ w (hT.ext he) (vst (e0.tr he) hgd) hl1 hl2 hN)) ?_
 refine en fun a w e' hf=>?_
 obtain⟨hT,e⟩:=up2 e' hT e
 obtain⟨av,⟨mq,rfl,HV0⟩,hf⟩:=hf.opn 7 rfl
 obtain⟨cs,⟨bm0,nm0,rfl,_,hnm0,HM0⟩,hmq⟩:=HV0
 replace hmq:mq=.map (some bm0):=hmq
 subst hmq
 obtain⟨N1,hN1⟩:=eqX w.heap.size
 have hN1s:N1≤w.heap.size:=Nat.le_of_eq hN1
 have hbm0:bm0<N1:=by rw[hN1];exact HM0.lt
 have hWN1:W.heap.size≤N1:=by rw[hN1];exact e.size
 replace hf:=hf.kp [7]
 refine tL I79 hf fun a b3 w e' hb3 hs3 B3 hf=>?_
 have lo3_hN1s:=Nat.le_trans hN1s (Nat.le_of_eq hb3.symm)
 obtain⟨hT,HM0,hN1s,e⟩:=up4 e' hT HM0 hN1s e
 have n3:N1≤b3:=lo3_hN1s
 refine az T79 hf rfl rfl (cg _ _) B3 rfl (aH _ _) fun w hg hsz B3 hf=>?_
 replace e:=e.gr hg (by omega);replace hT:=hT.gr hg (by omega);replace HM0:=HM0.gr hg (fun h=>by cases h;omega);replace hN1s:=Nat.le_trans hN1s hg.size;clear hg
 refine aa ?_
 replace hf:=hf.keep [3]
 have hdv:=HM0.dvE hnm0 (G:=G0) (fun h=>h)
 have hp7:∀(v:Value) (w':World),Ext w w'→v=.agg (adC V (.map (some bm0)))→Calls Tryz.prog 54 #[v] w' (Post (Dv (slE aM) G0 ps) w'):=fun v w' he k=>by
  rw[k,hps];exact (iC l V _ w' (hT.ext he) (Dv.ex hdv he)).mono fun en w' ⟨u,k1,k2,k3⟩=>⟨u,k1,k2,OwR.sl k3⟩
 by_cases hp:ps.length=1
 rotate_left
 ·rw[if_neg hp] at hrr
  rw[hrr]
  refine seq <| seq ?_
  refine rgN 4 hf <| st (ldW T79 rfl B3 (aH _ _)) <| st (ak (A:=Dv (slE aM) G0 ps) (B:=E (.agg (adC V (.map (some bm0))))) fX rfl hp7) <| st (aB U83 (isR rfl)) <| st ((neq rfl rfl).eq (congrArg Value.bool ((show (((ps.length:Nat):Int) != 1)=true from bne_iff_ne.2 (by omega))))) <| en fun a w e' hf=>?_
  obtain⟨hT,HM0,hN1s,e,B3⟩:=up5 e' hT HM0 hN1s e B3
  refine aa <| ifT hf rfl ?_
  refine seq <| ab <| tA hf rfl fun a hf=>aa <| ai <| gj (D:=[]) rfl hf rfl (Ds.nil _) ⟨_,rfl,e,rfl⟩
 rw[if_pos hp] at hrr
 refine seq <| seq ?_
 refine rgN 4 hf <| st (ldW T79 rfl B3 (aH _ _)) <| st (ak (A:=Dv (slE aM) G0 ps) (B:=E (.agg (adC V (.map (some bm0))))) fX rfl hp7) <| st (aB U83 (isR rfl)) <| st ((neq rfl rfl).eq (congrArg Value.bool ((show (((ps.length:Nat):Int) != 1)=false by rw[hp];rfl)))) ?_
 refine en fun a w e' hf=>?_
 obtain⟨hT,HM0,hN1s,e,B3⟩:=up5 e' hT HM0 hN1s e B3
 refine aa <| ifF hf rfl ?_
 refine ah ?_
 replace hf:=hf.keep [3]
 refine seq <| ab <| tL I3 hf fun a b4 w e' hb4 hs4 B4 hf=>?_
 have lo4_hN1s:=Nat.le_trans hN1s (Nat.le_of_eq hb4.symm)
 have lt4_B3:=B3.lt
 obtain⟨hT,HM0,hN1s,e,B3⟩:=up5 e' hT HM0 hN1s e B3
 have n4:N1≤b4∧b3≠b4:=⟨lo4_hN1s,by omega⟩
 replace hf:=hf.kp [3,4]
 refine aI T3 hf rfl rfl rfl B4 Nat.zero_lt_one fun w hg hsz B4 hf=>?_
 replace e:=e.gr hg (by omega);replace hT:=hT.gr hg (by omega);replace HM0:=HM0.gr hg (fun h=>by cases h;omega);replace B3:=B3.gr hg (by omega);replace hN1s:=Nat.le_trans hN1s hg.size;clear hg
 refine aa ?_
 obtain⟨nb,hnb'⟩:∃nb,nb=lkS l:=⟨_,rfl⟩
 rw[← hnb'] at hrr
 replace B4:Blk w b4 #[I ([].foldl (dmS nb) 0)] 3:=B4
 replace hf:=hf.keep [3,4]
 obtain⟨Nz,hNz⟩:=eqX w.heap.size
 refine seq <| seq ?_
 refine rgN 3 hf <| st (fA U79 rfl T76 rfl) <| st ((ldP T76 rfl B3 (by rw[aH];decide)).eq (congrArg Value.agg (bO V (.map (some bm0))))) ?_
 refine st (ak (A:=cN Nz V) cV rfl (fun v w' he h=>by cases h;exact Calls.mono (cZ _ w') (fun en w2 ⟨u,h1,h2,b',h3,h4,h5⟩=>⟨u,h1,h2,b',by have:=he.size;omega,h4,h5⟩))) ?_
 refine en fun a w e' hf=>?_
 obtain⟨hT,HM0,e,B3,B4⟩:=up5 e' hT HM0 e B3 B4
 refine aa ?_
 obtain⟨vv,⟨b14,h14,rfl,BS⟩,hf⟩:=hf.fix 14 rfl
 replace hf:=hf.kp [3,4,14]
 have hBW:W.heap.size≤w.heap.size:=e.size
 have h0w:0<w.heap.size:=hT.lt
 have l3:=B3.lt
 have l4:=B4.lt
 have lm:=HM0.lt
 refine blk <| db (S:=V) hf rfl BS (by decide) (fun s w1=>DmJ W nm0 bm0 l V b3 b4 (s.foldl (dmS nb) 0) w1) (fun _ _=>False) (fun s w1 h=>h.t)
  ⟨e,hT,HM0,B3,B4⟩ (fun s w1 w2 h hs k=>h.kp k hBW h0w l3 l4 lm) (fun _ _ _ h=>h.elim) ?_ ?_ (fun _ _ _ _ _ _ h=>h.elim)
 ·intro lp s x rest a1 w1 hs hJ hlw hf
  have hxV:V.getLsbD x=true:=(aL.1 (by rw[hs];simp)).2
  have hx1024:x<1024:=aK hxV
  generalize hBz:w.heap.size=Bz at *
  refine ab <| tA hf rfl fun a hf=>aa <| ⟨Kh.rfl' _ _,fun w3 k3 hsz3=>?_⟩
  have hJ3:=hJ.kp k3 hBW h0w l3 l4 lm
  replace hf:=hf.pure w3
  obtain⟨e,hT,HM0,B3,B4⟩:=hJ3
  have kh:=Kh.rfl' Bz w3
  have hsuc:(s++[x]).foldl (dmS nb) 0=dmS nb (s.foldl (dmS nb) 0) x:=by rw[List.foldl_append];rfl
  obtain⟨m0,hm0⟩:=eqX (s.foldl (dmS nb) 0)
  rw[← hm0] at B4 hsuc
  rw[dmS,show (lvB nb x).length=(lvB (lkS l) x).length by rw[hnb']] at hsuc
  have hdv:=HM0.dvE hnm0 (G:=G0) (fun h=>h)
  have hll:=dZ (lkS l) x
  replace hf:=hf.kp [3,4,5]
  refine blk <| rgG 7 Mix.mix hf <| st (ld1 (v:=I m0) T3 rfl B4 rfl) <| st (ldW T79 rfl B3 (aH _ _)) <| st (mv rfl) <| st (aw (A:=Dv (slE aM) G0 (lvB (lkS l) x)) (B:=E (.agg (adC V (.map (some bm0))))) (C:=E (I (x:Nat))) eO rfl rfl (fun a b w he k2 k4=>by cases k2;cases k4;exact (fa l V (.map (some bm0)) x w (hT.ext he) (Dv.ex hdv he) hx1024).mono fun en w' ⟨z,q1,q2,q3⟩=>⟨z,q1,q2,OwR.sl q3⟩)) ?_
  refine st (aB U83 (isR rfl)) <| st (sub rfl rfl (by omega)) <| st (max2 rfl rfl) <| en fun a w e' hf=>?_
  obtain⟨hT,HM0⟩:=up2 e' hT HM0
  replace kh:=kh.tr (Kh.ext e')
  obtain⟨e,B3,B4⟩:=up3 e' e B3 B4
  replace hf:=hf.kp [3,4,5,22]
  refine aI T3 hf rfl rfl rfl B4 Nat.zero_lt_one fun w hg hsz B4 hf=>?_
  replace e:=e.gr hg (by omega);replace hT:=hT.gr hg (by omega);replace HM0:=HM0.gr hg (fun h=>by cases h;omega);replace B3:=B3.gr hg (by omega);replace kh:=kh.tr (Kh.gr hg (fun hh=>by have:=hh.1;omega));clear hg
  refine aa ?_
  simp only[Exit.inBlock]
  exact⟨⟨e,hT,HM0,B3,by rw[hsuc];exact B4⟩,kh⟩
 ·intro a' w' hf' hJ hsz hDn
  simp only[Exit.inBlock,↓reduceIte,Exit.then]
  have hD:Ds [w.heap.size] w':=(Ds.nil w').cons hDn (by simp)
  have hf:FrD 24 (bL [w.heap.size]) a' w' [(4,E (ptr b4))]:=hf'.keep [4]
  have hDW:∀d∈[w.heap.size],W.heap.size≤d:=fun d hd=>by rw[List.mem_singleton] at hd;omega
  obtain⟨e,hT,HM0,B3,B4⟩:=hJ
  generalize [w.heap.size]=D2 at *
  generalize w'=w at *
  rw[← hrr] at B4
  refine seq <| rgN 1 hf <| st (ld1 (v:=I rr) T3 rfl B4 rfl) <| en fun a w e' hf=>?_
  obtain⟨e,B4,hD⟩:=up3 e' e B4 hD
  refine tA hf rfl fun a hf=>aa <| ai <| gj rfl hf rfl hD ⟨_,rfl,e.shut hDW,rfl⟩
def frM (g:GT):GT×Bool:=if (decide ((7:Int)<(g.1.length:Nat)) || decide ((10:Int)<(g.2.length:Nat)))=true then (g,false) else if (ofR g.1 g.2).2≠0 then (g,false) else ((ofR g.1 g.2).1,true)
noncomputable def FrM (g:GT):VA:=⟨fun v w=>((frM g).2=true→(Dv (ptE (grE 2000)) G0 (some (frM g).1)).p v w)∧((frM g).2=false→v=.pointer none),fun v w w' e h=>⟨fun hc=>Dv.ex (h.1 hc) e,h.2⟩⟩
theorem a1n {G:Nat→Prop}(g:GT)(v:Value)(W:World)(h:(Dv gtE G g).p v W)(hV:∀x∈g.1,0≤x.2.1∧x.2.1<256)(hE:∀x∈g.2,0≤x.2.1∧x.2.1<256) :
  Calls Tryz.prog 11 #[v] W (Post (Tup [FrM g,Dv gtE G0 (frM g).1]) W):=by
 obtain⟨u1,u2,rfl,h1,h2⟩:=Dv.gt.1 (Dv.weak (G':=G0) h fun b _ hb=>hb.elim)
 have h1b:=Dv.toB h1
 have h2b:=Dv.toB h2
 have hgb:(Dv gtE (GB W G0) g).p (.agg #[u1,u2]) W:=Dv.gt.2 ⟨_,_,rfl,h1b,h2b⟩
 refine eN [.agg #[u1,u2]] [E (.agg #[u1,u2])] Tryz.func11 Tryz.ntmps11 ?_ fun a hf=>?_
 rotate_left
 dsimp only[params,Nat.reduceAdd] at hf
 rotate_right
 ·exact arg1 rfl
 have e:=Ext.rfl' W
 refine seq <| ab <| tB hf rfl fun a b1 w v1 hv1 e' hb1 hs1 B1 hf=>?_
 replace e:=e.tr e'
 refine tA hf rfl fun a hf=>tL I25 hf fun a b3 w e' hb3 hs3 B3 hf=>?_
 obtain⟨e,B1⟩:=up2 e' e B1
 refine aa ?_
 cases hv1
 refine seq <| seq ?_
 refine rgN 10 hf <| st (fA U25 rfl T22 rfl) <| st (ld1 T22 rfl (by assumption) rfl) <| st (aB U22 (isE rfl (vst e h1))) <| st (gtr rfl rfl) <| st (mv rfl) <| sgE rfl rfl (.k 1 rfl .n) (fun hgd=>fA U25 rfl T23 rfl) <| sgE rfl rfl (.c 17 rfl (fun h=>h) .n) (fun hgd=>ld1 T23 rfl (by assumption) rfl) <| sgE rfl rfl (.c 18 rfl (fun h=>h) .n) (fun hgd=>aB U23 (isE rfl (vst e h2))) <| sgE rfl rfl (.c 19 rfl (fun h=>h) .n) (fun hgd=>gtr rfl rfl) <| st (bD rfl rfl (fun h=>by rw[h];rfl)) ?_
 refine en fun a w e' hf=>?_
 obtain⟨e,B1,B3⟩:=up3 e' e B1 B3
 refine aa <| ifc hf rfl (fun hb=>?_) (fun hb=>?_)
 ·have hfw:frM g=(g,false):=by rw[frM,if_pos hb]
  have hc2:(#[u1,u2]:Array Value).all (·.oneCell')=true:=bk (slOne h1) (slOne h2)
  replace hf:=hf.kp [1,2,3]
  refine seq <| cF 3 [0,1] (Chg fun c=>c=b3) (bS.one _) (fun w=>∃cs,Blk w b3 cs 25∧(E (.agg #[u1,u2])).p (.agg cs) w) (fun w w1 k h=>h.imp fun cs h=>⟨h.1.ext k,h.2⟩) Mix.mix hf (by decide +kernel) (by decide +kernel) <| ja ((ldW T25 rfl B1 rfl).eq ((rfl:_=Value.agg #[u1,u2]))) <| jf (fun w1 h1=>asg rfl) <| jx (il T25 rfl B3 rfl rfl (fun v w hv=>⟨_,hv,rfl,hc2⟩) (fun v w w' hc hv=>hv)) <| je <| fun a w hc HF hf=>?_
  obtain⟨cs,B3,hcs⟩:=HF
  cases hcs
  replace e:=e.ch hc (fun b hb=>by rw[hb];omega)
  refine aa <| ai (lW rfl T25 hf rfl rfl B3 rfl ?_)
  rintro _ rfl
  exact⟨_,rfl,e,by rw[hfw];exact Tup.two ⟨fun h=>(by rw[hfw] at h;cases h),fun _=>rfl⟩ (vst e (Dv.weak h fun b _ hb=>hb.elim))⟩
 have hfw0:¬(decide ((7:Int)<(g.1.length:Nat)) || decide ((10:Int)<(g.2.length:Nat)))=true:=by simpa using hb
 refine ah ?_
 have hvl:g.1.length≤100∧g.2.length≤40:=by
  rw[Bool.or_eq_true,not_or,decide_eq_true_eq,decide_eq_true_eq] at hfw0
  omega
 replace hf:=hf.keep [1,2,3]
 obtain⟨N6,hN6⟩:=eqX w.heap.size
 have l5:b3<N6:=by rw[hN6];exact B3.lt
 have l2:b1<N6:=by rw[hN6];exact B1.lt
 have hN6s:N6≤w.heap.size:=Nat.le_of_eq hN6
 have hofl:=fun (h0:(ofR g.1 g.2).2=0)=>qL h0
 have hofk:=qM hV hE
 refine seq <| rgN 8 hf <| st (fA U25 rfl T22 rfl) <| st (ld1 T22 rfl (by assumption) rfl) <| st (fA U25 rfl T23 rfl) <| st (ld1 T23 rfl (by assumption) rfl) <| st (aw (A:=Tup [Dv gtE (fun b=>b<N6) (ofR g.1 g.2).1,E (I (ofR g.1 g.2).2)]) uR rfl rfl (fun v u w he k1 k2=>by cases k1;cases k2;exact yN g.1 g.2 _ _ w (vst (e.tr he) h1) (vst (e.tr he) h2) (by omega) (by omega) (fun b hb=>Nat.lt_of_lt_of_le hb (Nat.le_trans hN6s he.size)))) ?_
 refine st (mv rfl) <| st (aV rfl rfl) <| st (aV rfl rfl) <| en fun a w e' hf=>?_
 obtain⟨e,B1,B3⟩:=up3 e' e B1 B3
 obtain⟨z,hz,hf⟩:=hf.opn 29 rfl
 obtain⟨N7,hN7⟩:=eqX w.heap.size
 obtain⟨GZ,hGZ⟩:∃GZ:Nat→Prop,GZ=fun b=>b<N6∨N7≤b:=⟨_,rfl⟩
 have hzz:(Dv gtE GZ (ofR g.1 g.2).1).p z w:=by
  rw[hGZ,hN7];exact Dv.toB (Dv.weak hz fun b _ hb=>hb)
 obtain⟨z1,z2,rfl,hz1,hz2⟩:=Dv.gt.1 hzz
 have hzo:(#[z1,z2]:Array Value).all (·.oneCell')=true:=bk (slOne hz1) (slOne hz2)
 have nZ:∀bb,(bb<N6∨N7≤bb)→GZ bb:=fun bb hb=>by rw[hGZ];exact hb
 replace hf:=hf.keep [1,2,3,29,30]
 refine tL I25 hf fun a b4 w e' hb4 hs4 B4 hf=>?_
 have lt4_B3:=B3.lt
 obtain⟨hz1,hz2,e,B1,B3⟩:=up5 e' hz1 hz2 e B1 B3
 have l6:N7≤b4:=by omega
 have l67:b4<w.heap.size:=B4.lt
 replace hf:=hf.kp [1,2,3,4,29,30]
 refine az T25 hf rfl rfl hzo B4 rfl rfl fun w hg hsz B4 hf=>?_
 replace e:=e.gr hg (by omega);replace B1:=B1.gr hg (by omega);replace B3:=B3.gr hg (by omega);replace hz1:=Dv.grN hz1 hg (fun bb hb=>nZ bb (by cases hb;omega));replace hz2:=Dv.grN hz2 hg (fun bb hb=>nZ bb (by cases hb;omega));clear hg
 refine tA hf rfl fun a hf=>aa ?_
 replace hf:=hf.kp [1,2,3,4,5]
 refine seq <| seq ?_
 refine rgN 2 hf <| st (mv rfl) <| st (neq rfl rfl) <| en fun a w e' hf=>?_
 obtain⟨hz1,hz2,e,B1,B3,B4⟩:=up6 e' hz1 hz2 e B1 B3 B4
 refine aa <| ifc hf rfl (fun hb=>?_) (fun hb=>?_)
 ·have hne:(ofR g.1 g.2).2≠0:=by simpa using hb
  have hfw:frM g=(g,false):=by rw[frM,if_neg hfw0,if_pos hne]
  have hc2:(#[u1,u2]:Array Value).all (·.oneCell')=true:=bk (slOne h1) (slOne h2)
  replace hf:=hf.kp [1,2,3]
  refine seq <| cF 3 [0,1] (Chg fun c=>c=b3) (bS.one _) (fun w=>∃cs,Blk w b3 cs 25∧(E (.agg #[u1,u2])).p (.agg cs) w) (fun w w1 k h=>h.imp fun cs h=>⟨h.1.ext k,h.2⟩) Mix.mix hf (by decide +kernel) (by decide +kernel) <| ja ((ldW T25 rfl B1 rfl).eq ((rfl:_=Value.agg #[u1,u2]))) <| jf (fun w1 h1=>asg rfl) <| jx (il T25 rfl B3 rfl rfl (fun v w hv=>⟨_,hv,rfl,hc2⟩) (fun v w w' hc hv=>hv)) <| je <| fun a w hc HF hf=>?_
  try dsimp only[push] at hf
  obtain⟨cs,B3,hcs⟩:=HF
  cases hcs
  replace e:=e.ch hc (fun b hb=>by rw[hb];omega)
  refine aa <| ai (lW rfl T25 hf rfl rfl B3 rfl ?_)
  rintro _ rfl
  exact⟨_,rfl,e,by rw[hfw];exact Tup.two ⟨fun h=>(by rw[hfw] at h;cases h),fun _=>rfl⟩ (vst e (Dv.weak h fun b _ hb=>hb.elim))⟩
 have hof0:(ofR g.1 g.2).2=0:=by simpa using hb
 have hfw:frM g=((ofR g.1 g.2).1,true):=by rw[frM,if_neg hfw0,if_neg (by simpa using hof0)]
 have hol:=hofl hof0
 obtain⟨gg,hgg⟩:=eqX ((ofR g.1 g.2).1)
 rw[← hgg] at hz1 hz2 hofk hol hfw
 refine ah ?_
 replace hf:=hf.kp [2,3,4]
 obtain⟨N8,hN8⟩:=eqX w.heap.size
 have h78:N7≤N8:=by have:=B4.lt;omega
 have h68:b4<N8:=by rw[hN8];exact B4.lt
 have h58:b3<N8:=by rw[hN8];exact B3.lt
 have hW8:W.heap.size≤N8:=by rw[hN8];exact e.size
 have hN8s:N8≤w.heap.size:=Nat.le_of_eq hN8
 refine seq <| ab <| tA hf rfl fun a hf=>aa <| seq <| ab <| tA hf rfl fun a hf=>aa ?_
 refine seq <| seq ?_
 refine ab <| tA hf rfl fun a hf=>aa ?_
 replace hf:=hf.kp [2,3,4,6,7,8]
 refine blk (aF (fun r0 a w=>∃(k:Nat) (u:Value),r0=gg.1.length - k∧k≤gg.1.length∧Fr 72 a w [(2,E (.pointer none)),(3,E (.pointer (some ⟨b3,0,none⟩))),(4,E (.pointer (some ⟨b4,0,none⟩))),(6,E u),(7,E (.slice none 0 0)),(8,E (I k))]∧Ext W w∧Blk w b3 #[.slice none 0 0,.slice none 0 0] 25∧Blk w b4 #[z1,z2] 25∧(Dv (slE vtE) GZ gg.1).p z1 w∧(Dv (slE etE) GZ gg.2).p z2 w∧OwR vtE 73 N8 G0 w (gg.1.take k) u) gg.1.length ⟨0,.slice none 0 0,rfl,by omega,hf,e,⟨B3,B4,hz1,hz2,OwR.nil vtE _ hN8s fun b hb=>hb.elim⟩⟩ ?_)
 rintro r0 a w ⟨k,u,rfl,hk,hf,e,B3,B4,hz1,hz2,Ho⟩
 refine seq <| seq ?_
 refine rgN 5 hf <| st (mv rfl) <| st (fA U25 rfl T22 rfl) <| st (ld1 T22 rfl B4 rfl) <| st (aB U22 (isE rfl hz1)) <| st (lss rfl rfl) <| en fun a w e' hf=>?_
 obtain⟨hz1,hz2,e,B3,B4,Ho⟩:=up6 e' hz1 hz2 e B3 B4 Ho
 refine aa <| ifc hf rfl (fun hc=>ah ?_) (fun hc=>aC ?_)
 rotate_left
 rotate_left
 ·have hlt:=ltC hc
  replace hf:=hf.kp [2,3,4,6,7,8]
  refine seq <| blk ?_
  have hg:=List.getElem?_eq_getElem hlt
  generalize gg.1[k]=y at hg
  have hlk:=List.length_take_le k gg.1
  have n1:=Ho.neLt (b:=b4) (by omega)
  have n2:=Ho.neLt (b:=b3) (by omega)
  haveI iu:InR GZ u.ownBlock:=⟨fun b hb=>nZ b (.inr (Nat.le_trans h78 (Ho.lt hb).1))⟩
  refine rgN 7 hf <| st (mv rfl) <| st (fA U25 rfl T22 rfl) <| st (ld1 T22 rfl B4 rfl) <| st (mv rfl) <| st (aD U22 S45 (isE rfl hz1) rfl (by omega) (hg)) <| st (fV T45 (isR rfl)) <| st (aW U66 I73 rfl (by decide) rfl Ho.avs (eM rfl)) <| en fun a w e' hf=>?_
  obtain⟨hz1,hz2,Ho,e,B3,B4⟩:=up6 e' hz1 hz2 Ho e B3 B4
  haveI hin:∀G0,InR (GB W G0) _:=OwR.inGB (W:=W) Ho (by omega)
  refine br U66 I73 rfl rfl hf (by decide) rfl Ho (isR rfl) (by simp only[List.length_singleton];omega) (by simp only[List.length_singleton,maxLen];omega) fun a v w hg hat Hn hf=>?_
  replace e:=e.gro hg (Ho.row (W:=W) (by omega))
  have hrow:=Ho.row (W:=W) (by omega)
  replace hz1:=Dv.grN hz1 hg (fun bb hb=>nZ bb (.inr (Nat.le_trans h78 (Ho.lt hb).1)))
  replace hz2:=Dv.grN hz2 hg (fun bb hb=>nZ bb (.inr (Nat.le_trans h78 (Ho.lt hb).1)))
  replace Ho:=Hn
  replace B3:=B3.gro hg (by assumption)
  replace B4:=B4.gro hg (by assumption)
  replace Ho:=Hn;clear Hn hg hat hin
  refine tA hf rfl fun a hf=>aa <| rgN 2 hf <| st (mv rfl) <| st ((add rfl rfl (by omega)).eq (iN k)) <| en fun a w e' hf=>?_
  obtain⟨hz1,hz2,Ho,e,B3,B4⟩:=up6 e' hz1 hz2 Ho e B3 B4
  refine tA hf rfl fun a hf=>aa ?_
  replace hf:=hf.keep [2,3,4,6,7,8]
  refine⟨_,?_,k+1,_,rfl,by omega,hf,e,?_⟩
  ·omega
  rw[bs hg]
  exact⟨B3,B4,hz1,hz2,Ho⟩
 ·obtain rfl:=dnE hc hk
  rw[List.take_length] at Ho
  obtain⟨av,nv,cv,rfl⟩:=Dv.slF Ho.sl
  obtain⟨NV,hNV⟩:∃NV:Nat→Prop,NV=fun b=>(Value.slice av nv cv).ownBlock≠some b:=⟨_,rfl⟩
  have HD:(Dv (slE vtE) NV gg.1).p (.slice av nv cv) w:=Ho.slN fun b hb=>by rw[hNV];exact fun h=>h hb
  obtain⟨N5,hN5⟩:=eqX w.heap.size
  have h89:N8≤N5:=by rw[hN5];exact Ho.base
  have nV:∀bb,(bb<N8∨N5≤bb)→NV bb:=fun bb hb=>by rw[hNV];intro h;have h3:=Ho.lt h;omega
  have hN5s:N5≤w.heap.size:=Nat.le_of_eq hN5
  replace hf:=hf.keep [2,3,4,6,7]
  refine seq <| seq ?_
  refine ab <| tA hf rfl fun a hf=>aa ?_
  replace hf:=hf.keep [2,3,4,6,7,9]
  refine blk (aF (fun r0 a w=>∃(k:Nat) (u:Value),r0=gg.2.length - k∧k≤gg.2.length∧Fr 72 a w [(2,E (.pointer none)),(3,E (.pointer (some ⟨b3,0,none⟩))),(4,E (.pointer (some ⟨b4,0,none⟩))),(6,E (.slice av nv cv)),(7,E u),(9,E (I k))]∧Ext W w∧Blk w b3 #[.slice none 0 0,.slice none 0 0] 25∧Blk w b4 #[z1,z2] 25∧(Dv (slE vtE) GZ gg.1).p z1 w∧(Dv (slE etE) GZ gg.2).p z2 w∧(Dv (slE vtE) NV gg.1).p (.slice av nv cv) w∧OwR etE 62 N5 G0 w (gg.2.take k) u∧N5≤w.heap.size) gg.2.length ⟨0,.slice none 0 0,rfl,by omega,hf,e,⟨B3,B4,hz1,hz2,HD,OwR.nil etE _ hN5s fun b hb=>hb.elim,hN5s⟩⟩ ?_)
  rintro r0 a w ⟨k,u,rfl,hk,hf,e,B3,B4,hz1,hz2,HD,Ho,hN5s⟩
  refine seq <| seq ?_
  refine rgN 5 hf <| st (mv rfl) <| st (fA U25 rfl T23 rfl) <| st (ld1 T23 rfl B4 rfl) <| st (aB U23 (isE rfl hz2)) <| st (lss rfl rfl) <| en fun a w e' hf=>?_
  obtain⟨hz1,hz2,HD,hN5s,e,B3,B4,Ho⟩:=up8 e' hz1 hz2 HD hN5s e B3 B4 Ho
  refine aa <| ifc hf rfl (fun hc=>ah ?_) (fun hc=>aC ?_)
  rotate_left
  rotate_left
  ·have hlt:=ltC hc
   replace hf:=hf.kp [2,3,4,6,7,9]
   refine seq <| blk ?_
   have hg:=List.getElem?_eq_getElem hlt
   generalize gg.2[k]=y at hg
   have hlk:=List.length_take_le k gg.2
   have h79:N7≤N5:=Nat.le_trans h78 h89
   have n1:=Ho.neLt (b:=b4) (by omega)
   have n2:=Ho.neLt (b:=b3) (by omega)
   haveI iu:InR GZ u.ownBlock:=⟨fun b hb=>nZ b (.inr (Nat.le_trans h79 (Ho.lt hb).1))⟩
   refine rgN 7 hf <| st (mv rfl) <| st (fA U25 rfl T23 rfl) <| st (ld1 T23 rfl B4 rfl) <| st (mv rfl) <| st (aD U23 S51 (isE rfl hz2) rfl (by omega) (hg)) <| st (ft T51 (isR rfl)) <| st (aW U61 I62 rfl (by decide) rfl Ho.avs (dr rfl)) <| en fun a w e' hf=>?_
   obtain⟨hz1,hz2,HD,hN5s,Ho,e,B3,B4⟩:=up8 e' hz1 hz2 HD hN5s Ho e B3 B4
   haveI hin:∀G0,InR (GB W G0) _:=OwR.inGB (W:=W) Ho (by omega)
   refine br U61 I62 rfl rfl hf (by decide) rfl Ho (isR rfl) (by simp only[List.length_singleton];omega) (by simp only[List.length_singleton,maxLen];omega) fun a v w hg hat Hn hf=>?_
   replace e:=e.gro hg (Ho.row (W:=W) (by omega))
   have hrow:=Ho.row (W:=W) (by omega)
   replace hz1:=Dv.grN hz1 hg (fun bb hb=>nZ bb (.inr (Nat.le_trans h79 (Ho.lt hb).1)))
   replace hz2:=Dv.grN hz2 hg (fun bb hb=>nZ bb (.inr (Nat.le_trans h79 (Ho.lt hb).1)))
   replace HD:=Dv.grN HD hg (fun bb hb=>nV bb (.inr (Ho.lt hb).1))
   replace hN5s:=Nat.le_trans hN5s hg.size
   replace Ho:=Hn
   replace B3:=B3.gro hg (by assumption)
   replace B4:=B4.gro hg (by assumption)
   replace Ho:=Hn;clear Hn hg hat hin
   refine tA hf rfl fun a hf=>aa <| rgN 2 hf <| st (mv rfl) <| st ((add rfl rfl (by omega)).eq (iN k)) <| en fun a w e' hf=>?_
   obtain⟨hz1,hz2,HD,hN5s,Ho,e,B3,B4⟩:=up8 e' hz1 hz2 HD hN5s Ho e B3 B4
   refine tA hf rfl fun a hf=>aa ?_
   replace hf:=hf.kp [2,3,4,6,7,9]
   refine⟨_,?_,k+1,_,rfl,by omega,hf,e,?_⟩
   ·omega
   rw[bs hg]
   exact⟨B3,B4,hz1,hz2,HD,Ho,hN5s⟩
  ·obtain rfl:=dnE hc hk
   rw[List.take_length] at Ho
   have h65:b4<N5:=by omega
   have h55:b3<N5:=by omega
   have hlg:gg.1.length≤1000∧gg.2.length≤1000:=by omega
   replace hf:=hf.kp [2,3,4,6,7]
   refine seq <| rgN 6 hf <| st (mv rfl) <| st (mv rfl) <| st (aw (A:=Tup [Dv (ptE (grE 2000)) (fun b=>b<N5) (some gg),E (I 0)]) oj rfl rfl (fun v u w he k1 k2=>by cases k1;cases k2;exact yO gg hofk _ _ w (vst he (Dv.weak HD fun b _ hb=>hb.elim)) (vst he Ho.sl) hlg.1 hlg.2 (fun b hb=>Nat.lt_of_lt_of_le hb (Nat.le_trans hN5s he.size)))) ?_
   refine st (mv rfl) <| st (aV rfl rfl) <| st (aV rfl rfl) <| en fun a w e' hf=>?_
   obtain⟨hz1,hz2,e,B3,B4⟩:=up5 e' hz1 hz2 e B3 B4
   refine tA hf rfl fun a hf=>tA hf rfl fun a hf=>aa ?_
   replace hf:=hf.kp [2,3,4,10]
   haveI ik:InR (fun b=>b<N5) (some b3):=⟨fun b hb=>by cases hb;exact h55⟩
   have hzo:(#[z1,z2]:Array Value).all (·.oneCell')=true:=bk (slOne hz1) (slOne hz2)
   refine seq <| cF 4 [2,0,1] (Chg fun c=>c=b3) (bS.one _) (fun w=>∃cs,Blk w b3 cs 25∧(E (.agg #[z1,z2])).p (.agg cs) w) (fun w w1 k h=>h.imp fun cs h=>⟨h.1.ext k,h.2⟩) Mix.mix hf (by decide +kernel) (by decide +kernel) <| jk (mv rfl) <| ja ((ldW T25 rfl B4 rfl).eq ((rfl:_=Value.agg #[z1,z2]))) <| jf (fun w1 h1=>asg rfl) <| jx (il T25 rfl B3 rfl rfl (fun v w hv=>⟨_,hv,rfl,hzo⟩) (fun v w w' hc hv=>hv)) <| je <| fun a w hc HF hf=>?_
   try dsimp only[push] at hf
   obtain⟨cs,B3,hcs⟩:=HF
   cases hcs
   replace e:=e.ch hc (fun b hb=>by rw[hb];omega)
   replace hz1:=Dv.ch hz1 hc (fun b hb=>nZ b (.inl (by rw[hb];exact l5)))
   replace hz2:=Dv.ch hz2 hc (fun b hb=>nZ b (.inl (by rw[hb];exact l5)))
   refine aa <| ai (lW rfl T25 hf rfl rfl B3 rfl ?_)
   rintro x hx
   exact⟨_,rfl,e,Tup.two ⟨fun _=>by rw[hfw];exact Dv.weak hx fun b _ hb=>hb.elim,fun h=>by rw[hfw] at h;cases h⟩ (by rw[hfw];exact Dv.gt.2 ⟨_,_,rfl,Dv.weak hz1 fun b _ hb=>hb.elim,Dv.weak hz2 fun b _ hb=>hb.elim⟩)⟩
end Go.Mono
namespace Go.Mono
open Go Go.RowKit Go.Proofs
section
variable {P:Program}{ops:Array Oper}{Q:Exit→Act→World→Prop}{w0:World}{n:Nat}{ds:List Deferred}{r:Option Nat}
structure a1o (ops:Array Oper)(m x y:Nat)(kp:Nat→Bool)(S:World→World→Prop)(F F2:World→Prop)(n:Nat)(ds:List Deferred)(w0:World)(L:Env)(As:Nat→VA)(listed:Array Bool)(a:Act)(w:World):Prop where
 ext:S w0 w
 pre:listed.getD x true=false→Ext w0 w
 post:listed.getD x false=true→listed.getD y true=false→F w
 fin:listed.getD y false=true→F2 w
 size:a.tmps.size=n
 defers:a.defers=ds
 hL:∀t A,aG L t=some A→(∀j,j<m→aQ ops j≠some t)→A.p (a.eval (.tmp t)) w
 hA:∀i,i<m→listed.getD i false=true→(listed.getD x true=false∨((kp i=true∨x≤i)∧(listed.getD y true=false∨StJ S (As i))))→∀d,aQ ops i=some d→(As i).p (a.eval (.tmp d)) w

theorem sI {m x y:Nat}{fr kp:Nat→Bool}{S:World→World→Prop}(hR:bS S){F F2:World→Prop}(hx0:x<y)(hy0:y+1=m)(hFst:∀w w',Ext w w'→F w→F w')(hFst2:∀w w',Ext w w'→F2 w→F2 w'){ks:List Nat}{L:Env}{As:Nat→VA}(hm:m≤ops.size)(hchk:∀i,i<m→eA ops m n i=true)(hchk2:∀i,m≤i→i<ops.size→cS ops i=true)
  (hanc:∀j,j<x→fr j=false→cD ops 12 x j=true) (hancY:∀j,j<y→(j<x→fr j=false)→cD ops 12 y j=true) (hpo:∀j,x<j→j<m→cD ops 12 j x=true) (hfk:∀j,fr j=true→kp j=true)
  (hfree:∀i o,i<x→fr i=true→ops[i]?=some o→∀t,(t∈cj o∨bM ops o=some t)→∀j,j<m→aQ ops j=some t→kp j=true∧j≠x∧j<x)
  (hopsP:∀j o,x<j→j<y→ops[j]?=some o→∀w1,S w0 w1→F w1→GOp P ops w1 (aR ops L (fun j=>if kp j=true∨x≤j then As j else Any) 0 j) o (As j))
  (hops:∀j o,j<x→ops[j]?=some o→(fr j=false→GOp P ops w0 (aR ops L As 0 j) o (As j))∧(fr j=true→∀w1,S w0 w1→GOp P ops w1 (aR ops L As 0 j) o (As j))∧(kp j=true→StJ S (As j)))
  (hX:∀o,ops[x]?=some o→o.guard=none∧cG P w0 S F (aR ops L As 0 x) o (As x)) (hLav:dK S L)
  (hY:∀o,ops[y]?=some o→o.guard=none∧∀w1,S w0 w1→F w1→cG P w1 S F2 (aR ops L (fun j=>if kp j=true∨x≤j then As j else Any) 0 y) o (As y)) (hYd:aQ ops y=none) (hks:dK S (keep ks (aR ops L (fun j=>if kp j=true∨x≤j then As j else Any) 0 y)))
  (hend:∀a w,S w0 w→F2 w→FrD n ds a w (keep ks (aR ops L (fun j=>if kp j=true∨x≤j then As j else Any) 0 y))→wpListIn (FW r) 0 P ops Q (ops.toList.drop m) a w) :
  ∀(c:Nat) (listed:Array Bool) (a:Act) (w:World),(List.range m).countP (fun i => !listed.getD i true)=c→listed.size=ops.size →
   (∀j,m≤j→j<ops.size→listed.getD j true=false)→LD ops listed→a1o ops m x y kp S F F2 n ds w0 L As listed a w→wpAnyIn (FW r) 0 P .any ops Q (c+(ops.size - m)) listed a w
 | 0,listed,a,w,hc,hsz,hun,hld,hi=>by
  have hall:∀j,j<m→listed.getD j false=true:=by
   intro j hj
   have:=(List.countP_eq_zero.1 hc) j (List.mem_range.2 hj)
   have hjl:j<listed.size:=by omega
   simpa[hjl] using this
  rw[Nat.zero_add]
  refine gM m hchk2 (ops.size - m) m (by omega) (Nat.le_refl _) listed a w hall hun hsz hld (hend a w hi.ext (hi.fin (hall y (by omega))) ⟨hi.size,hi.defers,fun t A ht=>?_⟩)
  have hst:=hks.av t A ht
  have ht:=iV _ _ _ _ ht
  rcases dB L _ t A y ht with ⟨j,hj,hd,rfl⟩|⟨hn,hl⟩
  ·by_cases hk:kp j=true∨x≤j
   ·rw[if_pos hk] at hst ⊢
    exact hi.hA j (by omega) (hall j (by omega)) (.inr ⟨hk,.inr ⟨hst⟩⟩) t hd
   ·rw[if_neg hk];trivial
  ·refine hi.hL t A hl fun j hj=>?_
   by_cases hjy:j=y
   ·rw[hjy,hYd];intro h;cases h
   ·exact hn j (by omega)
 | c+1,listed,a,w,hc,hsz,hun,hld,hi=>by
  have facts:∀i o,i<m→ops[i]?=some o→(∀e∈o.after,Region.binds .any e=true→e.on<i)∧(∀d,o.dst=some d→d<n) ∧
    (∀t,t∈cj o∨bM ops o=some t→∀j,j<m→aQ ops j=some t→bnd ops i j=true)∧(∀j,j<m→j≠i→∀d,o.dst=some d→aQ ops j≠some d):=by
   intro i o hlt ho
   have:=hchk i hlt
   simp only[eA,ho,Bool.and_eq_true,Array.all_eq_true_iff_forall_mem,Bool.or_eq_true,Bool.not_eq_true',List.all_eq_true,List.mem_range,List.mem_append,Option.mem_toList] at this
   obtain⟨⟨⟨h1,h2⟩,h3⟩,h4⟩:=this
   refine⟨fun e he hb=>?_,fun d hd=>?_,fun t ht j hj hd=>?_,fun j hj hne d hd hd'=>?_⟩
   ·rcases h1 e he with h|h
    ·rw[hb] at h;cases h
    ·simpa[Nat.blt_eq] using h
   ·simpa[hd,Nat.blt_eq] using h2
   ·have:=h3 t ht j hj
    rcases this with h|h
    ·rw[hd] at h;simp at h
    ·exact h
   ·have:=h4 j hj
    rcases this with h|h
    ·exact hne (Nat.eq_of_beq_eq_true h)
    ·rw[hd,hd'] at h;simp at h
  have prog:∃i,i<m∧listed.getD i true=false∧∀j,j<i→listed.getD j true=true:=by
   have hex:∃i,i<m∧listed.getD i true=false:=by
    have hpos:0<(List.range m).countP (fun i => !listed.getD i true):=by omega
    obtain⟨i,hi,hb⟩:=List.countP_pos_iff.1 hpos
    exact⟨i,List.mem_range.1 hi,by simpa using hb⟩
   obtain⟨i,hlt,hb⟩:=hex
   induction i using Nat.strongRecOn with
   | _ i ih=>
    by_cases h:∃j,j<i∧listed.getD j true=false
    ·obtain⟨j,hj,hjb⟩:=h
     exact ih j hj (by omega) hjb
    ·refine⟨i,hlt,hb,fun j hj=>?_⟩
     cases hjb:listed.getD j true with
     | true=>rfl
     | false=>exact absurd ⟨j,hj,hjb⟩ h
  obtain⟨i0,hi0,hu0,hbelow⟩:=prog
  have hready:i0∈Region.ready .any ops listed:=by
   have ho:ops[i0]?=some (ops[i0]'(by omega)):=by simp
   refine mem_ready.2 ⟨hu0,_,ho,fun e he hb=>?_⟩
   have hlt:=(facts i0 _ hi0 ho).1 e he hb
   have:=hbelow _ hlt
   have hjl:e.on<listed.size:=by omega
   simpa[hjl] using this
  rw[show c+1+(ops.size - m)=(c+(ops.size - m))+1 by omega]
  refine⟨fun h0=>(by rw[h0] at hready;cases hready),fun i hir=>?_⟩
  obtain⟨hu,o,ho,hall⟩:=mem_ready.1 hir
  have hilt:i<ops.size:=(Array.getElem?_eq_some_iff.1 ho).1
  have listed_of_bnd:∀j,bnd ops i j=true→listed.getD j false=true:=by
   intro j hb
   simp only[bnd,ho] at hb
   obtain⟨e,he,hb⟩:=Array.any_eq_true'.1 hb
   simp only[Bool.and_eq_true] at hb
   have:=hall e he hb.1
   rwa [Nat.eq_of_beq_eq_true hb.2] at this
  have him:i<m:=by
   rcases Nat.lt_or_ge i m with h|h
   ·exact h
   ·have hc:=hchk2 i h hilt
    simp only[cS,ho,Bool.and_eq_true,List.all_eq_true,List.mem_range] at hc
    have:=cov hld 12 i i0 (hc.2 i0 (by omega)) (fun o' ho' e he hb=>by
     rw[ho] at ho'
     obtain rfl:=Option.some.inj ho'
     exact hall e he hb)
    rw[cy hu0] at this
    cases this
  obtain⟨f1,f2,f3,f4⟩:=facts i o him ho
  have hlx:x<i→listed.getD x false=true:=fun hxi=>cov hld 12 i x (hpo i hxi him) (fun o' ho' e he hb=>by
   rw[ho] at ho'
   obtain rfl:=Option.some.inj ho'
   exact hall e he hb)
  have hxun:i<x→fr i=false→listed.getD x true=false:=by
   intro hix hfr
   cases hlx:listed.getD x true with
   | false=>rfl
   | true=>
    have hxl:x<listed.size:=by omega
    have hlx':listed.getD x false=true:=by simpa[hxl] using hlx
    have:=cov hld 12 x i (hanc i hix hfr) (fun o' ho' e he hb=>hld x o' hlx' ho' e he hb)
    rw[cy hu] at this
    cases this
  have hyun:i<y→(i<x→fr i=false)→listed.getD y true=false:=by
   intro hiy hfr
   cases hly:listed.getD y true with
   | false=>rfl
   | true=>
    have hyl:y<listed.size:=by omega
    have hly':listed.getD y false=true:=by simpa[hyl] using hly
    have:=cov hld 12 y i (hancY i hiy hfr) (fun o' ho' e he hb=>hld y o' hly' ho' e he hb)
    rw[cy hu] at this
    cases this
  have hcond:i≤x→∀j,j<m→(∃t,(t∈cj o∨bM ops o=some t)∧aQ ops j=some t)→(listed.getD x true=false∨((kp j=true∨x≤j)∧(listed.getD y true=false∨StJ S (As j)))):=by
   rintro hix0 j hj ⟨t,ht,hd⟩
   by_cases hix:i=x
   ·exact .inl (hix▸hu)
   ·cases hfr:fr i with
    | true=>
     obtain⟨q1,q2,q3⟩:=hfree i o (by omega) hfr ho t ht j hj hd
     have hoj:ops[j]?=some (ops[j]'(by omega)):=by simp
     exact .inr ⟨.inl q1,.inr ((hops j _ q3 hoj).2.2 q1)⟩
    | false=>exact .inl (hxun (by omega) hfr)
  have byLook:i≤x→∀t,(t∈cj o∨bM ops o=some t)→∀B,aG (aR ops L As 0 i) t=some B→B.p (a.eval (.tmp t)) w:=by
   intro hix t ht B hB
   rcases dB L As t B i hB with ⟨j,hj,hd,rfl⟩|⟨hn,hl⟩
   ·exact hi.hA j (by omega) (listed_of_bnd j (f3 t ht j (by omega) hd)) (hcond hix j (by omega) ⟨t,ht,hd⟩) t hd
   ·refine hi.hL t B hl fun j hj hd=>?_
    have hb:=f3 t ht j hj hd
    simp only[bnd,ho] at hb
    obtain⟨e,he,hb⟩:=Array.any_eq_true'.1 hb
    simp only[Bool.and_eq_true] at hb
    have hlt:=f1 e he hb.1
    rw[Nat.eq_of_beq_eq_true hb.2] at hlt
    exact hn j hlt hd
  have byLookP:listed.getD y true=false→∀t,(t∈cj o∨bM ops o=some t)→∀B,aG (aR ops L (fun j=>if kp j=true∨x≤j then As j else Any) 0 i) t=some B→B.p (a.eval (.tmp t)) w:=by
   intro hyu t ht B hB
   rcases dB L _ t B i hB with ⟨j,hj,hd,rfl⟩|⟨hn,hl⟩
   ·by_cases hk:kp j=true∨x≤j
    ·rw[if_pos hk]
     exact hi.hA j (by omega) (listed_of_bnd j (f3 t ht j (by omega) hd)) (.inr ⟨hk,.inl hyu⟩) t hd
    ·rw[if_neg hk];trivial
   ·refine hi.hL t B hl fun j hj hd=>?_
    have hb:=f3 t ht j hj hd
    simp only[bnd,ho] at hb
    obtain⟨e,he,hb⟩:=Array.any_eq_true'.1 hb
    simp only[Bool.and_eq_true] at hb
    have hlt:=f1 e he hb.1
    rw[Nat.eq_of_beq_eq_true hb.2] at hlt
    exact hn j hlt hd
  have ops1:i≤x→∀x∈o.op.operands,∀B,opd (aR ops L As 0 i) x=some B→B.p (a.eval x) w:=fun hix x hx B hB=>by
   cases x with
   | tmp t=>exact byLook hix t (.inl (List.mem_filterMap.2 ⟨.tmp t,by simpa using hx,rfl⟩)) B hB
   | const v=>simp[opd] at hB;subst hB;rfl
   | global g=>simp[opd] at hB;subst hB;rfl
   | func f=>simp[opd] at hB;subst hB;rfl
  have ops2:listed.getD y true=false→∀x'∈o.op.operands,∀B,opd (aR ops L (fun j=>if kp j=true∨x≤j then As j else Any) 0 i) x'=some B→B.p (a.eval x') w:=fun hyu x' hx B hB=>by
   cases x' with
   | tmp t=>exact byLookP hyu t (.inl (List.mem_filterMap.2 ⟨.tmp t,by simpa using hx,rfl⟩)) B hB
   | const v=>simp[opd] at hB;subst hB;rfl
   | global g=>simp[opd] at hB;subst hB;rfl
   | func f=>simp[opd] at hB;subst hB;rfl
  have hdst:aQ ops i=o.dst:=by simp[aQ,ho]
  have step:∀v w',S w w'→(i≠x→i≠y→Ext w w')→(i=x→∀j,j<x→kp j=true→StJ S (As j))→(As i).p v w'→(i=x→F w')→(i=y→F2 w')→wpAnyIn (FW r) 0 P .any ops Q (c+(ops.size - m)) (listed.setIfInBounds i true) (a.put o.dst v) w':=by
   intro v w' hx hxe hxa hv hvF hvF2
   have stab:∀(A:VA) u,StJ S A→A.p u w→A.p u w':=fun A u hA h=>hA.av _ _ _ hx h
   refine sI hR hx0 hy0 hFst hFst2 hm hchk hchk2 hanc hancY hpo hfk hfree hopsP hops hX hLav hY hYd hks hend c _ _ _ ?_ (by simpa using hsz) ?_ ?_ ?_
   ·have:=iP m (fun j => !listed.getD j true) (fun j => !(listed.setIfInBounds i true).getD j true) i him (by simp only[hu,Bool.not_false])
     (by
       have hjl:i<listed.size:=by omega
       simp[hjl]) (fun j hj=>by simp only[getD_set_ne true (Ne.symm hj)])
    omega
   ·intro j hj hj'
    rw[getD_set_ne true (by omega)]
    exact hun j hj hj'
   ·exact hld.set fun o' ho' e he hb=>by
     rw[ho] at ho'
     obtain rfl:=Option.some.inj ho'
     exact hall e he hb
   ·refine⟨hR.tr hi.ext hx,fun hl=>?_,fun hl hl2=>?_,fun hl=>?_,by simp[hi.size],by simp[hi.defers],fun t A ht hn=>?_,fun j hj hl hcj d hd=>?_⟩
    ·have hix:i≠x:=by
      rintro rfl
      have hjl:i<listed.size:=by omega
      simp[hjl] at hl
     rw[getD_set_ne true hix] at hl
     have hiy:i≠y:=fun hiy=>by
      have h1:=hlx (by omega)
      rw[cy hl] at h1;cases h1
     exact Ext.tr (hi.pre hl) (hxe hix hiy)
    ·by_cases hix:i=x
     ·exact hvF hix
     ·have hiy:i≠y:=fun hiy=>by
       have hyl:y<listed.size:=by omega
       rw[hiy] at hl2
       simp[hyl] at hl2
      rw[getD_set_ne false hix] at hl
      rw[getD_set_ne true hiy] at hl2
      exact hFst _ _ (hxe hix hiy) (hi.post hl hl2)
    ·by_cases hiy:i=y
     ·exact hvF2 hiy
     ·rw[getD_set_ne false hiy] at hl
      have hix:i≠x:=fun hix=>by
       have:=hyun (by omega) (fun h=>by omega)
       rw[cy this] at hl;cases hl
      exact hFst2 _ _ (hxe hix hiy) (hi.fin hl)
    ·have h0:=stab A _ ⟨hLav.av t A ht⟩ (hi.hL t A ht hn)
     cases hod:o.dst with
     | none=>exact h0
     | some d=>
      have:d≠t:=fun e=>hn i him (by rw[hdst,hod,e])
      rw[eh this]
      exact h0
    ·by_cases hji:j=i
     ·subst hji
      rw[hdst] at hd
      rw[hd,gL (by rw[hi.size];exact f2 d hd)]
      exact hv
     ·have hl':listed.getD j false=true:=by rwa [getD_set_ne false (Ne.symm hji)] at hl
      have hcj':listed.getD x true=false∨((kp j=true∨x≤j)∧(listed.getD y true=false∨StJ S (As j))):=by
       by_cases hix:i=x
       ·exact .inl (hix▸hu)
       ·rw[getD_set_ne true hix] at hcj
        by_cases hiy:i=y
        ·rcases hcj with h|⟨h,_⟩
         ·exact .inl h
         ·exact .inr ⟨h,.inl (hiy▸hu)⟩
        ·rw[getD_set_ne true hiy] at hcj
         exact hcj
      have h1:=hi.hA j hj hl' hcj' d hd
      have h0:(As j).p (a.eval (.tmp d)) w':=by
       by_cases hix:i=x
       ·have hjx:j<x:=by
         rcases Nat.lt_trichotomy j x with h|h|h
         ·exact h
         ·exact absurd (h.trans hix.symm) hji
         ·have:=cov hld 12 j x (hpo j h hj) (fun o' ho' e he hb=>hld j o' hl' ho' e he hb)
          rw[cy (hix▸hu)] at this
          cases this
        refine stab _ _ (hxa hix j hjx ?_) h1
        rcases hcj with h|⟨h|h,_⟩
        ·have hxl:x<listed.size:=by omega
         subst hix
         simp[hxl] at h
        ·exact h
        ·omega
       ·by_cases hiy:i=y
        ·refine stab _ _ ?_ h1
         have hxl:listed.getD x false=true:=hlx (by omega)
         rcases hcj with h|⟨_,h|h⟩
         ·rw[getD_set_ne true hix] at h
          rw[cy h] at hxl;cases hxl
         ·have hyl:y<listed.size:=by omega
          rw[hiy] at h
          simp[hyl] at h
         ·exact h
        ·exact (As j).st _ _ _ (hxe hix hiy) h1
      cases hod:o.dst with
      | none=>exact h0
      | some d'=>
       have:d'≠d:=fun e=>f4 j hj hji d' hod (by rw[hd,e])
       rw[eh this]
       exact h0
  unfold wpOpIn
  simp only[ho]
  by_cases hix:i=x
  ·obtain⟨hgd,hxo⟩:=hX o (hix▸ho)
   have hw:Region.wanted o (yielded ops a.tmps)=true:=by unfold Region.wanted;rw[hgd]
   rw[if_pos hw]
   have hpre:Ext w0 w:=hi.pre (hix▸hu)
   exact (hxo.out a.eval w hpre (hix▸ops1 (Nat.le_of_eq hix))).wp fun v w' hv=>step v w' hv.1 (fun h=>absurd hix h) (fun _ j hj=>by
    have hoj:ops[j]?=some (ops[j]'(by omega)):=by simp
    exact fun hfj=>(hops j _ hj hoj).2.2 hfj) (hix▸hv.2.1) (fun _=>hv.2.2) (fun h=>by omega)
  ·by_cases hiy:i=y
   ·obtain⟨hgd,hyo⟩:=hY o (hiy▸ho)
    have hw:Region.wanted o (yielded ops a.tmps)=true:=by unfold Region.wanted;rw[hgd]
    rw[if_pos hw]
    have hyu:listed.getD y true=false:=hiy▸hu
    exact ((hyo w hi.ext (hi.post (hlx (by omega)) hyu)).out a.eval w (Ext.rfl' w) (hiy▸ops2 hyu)).wp fun v w' hv=>step v w' hv.1 (fun _ h=>absurd hiy h) (fun h=>absurd h hix) (hiy▸hv.2.1) (fun h=>absurd h hix) (fun _=>hv.2.2)
   ·have hg:if Region.wanted o (yielded ops a.tmps) then OpR P o a.eval w (fun v w'=>Ext w w'∧(As i).p v w') else (As i).p undef w:=by
     by_cases hlt:i<x
     ·cases hfr:fr i with
      | true=>exact (hops i o hlt ho).2.1 hfr w hi.ext a w (Ext.rfl' w) (ops1 (by omega)) (fun d B hd hB=>byLook (by omega) d (.inr hd) B hB)
      | false=>exact (hops i o hlt ho).1 hfr a w (hi.pre (hxun hlt hfr)) (ops1 (by omega)) (fun d B hd hB=>byLook (by omega) d (.inr hd) B hB)
     ·have hyu:=hyun (by omega) (fun h=>by omega)
      exact hopsP i o (by omega) (by omega) ho w hi.ext (hi.post (hlx (by omega)) hyu) a w (Ext.rfl' w) (ops2 hyu) (fun d B hd hB=>byLookP hyu d (.inr hd) B hB)
    split
    ·rename_i hw
     rw[if_pos hw] at hg
     exact (hg.wp fun v w' hv=>step v w' (hR.ext hv.1) (fun _ _=>hv.1) (fun h=>absurd h hix) hv.2 (fun h=>absurd h hix) (fun h=>absurd h hiy))
    ·rename_i hw
     rw[if_neg hw] at hg
     exact⟨fun _ _=>trivial,step undef w (hR.ext (Ext.rfl' w)) (fun _ _=>Ext.rfl' _) (fun h=>absurd h hix) hg (fun h=>absurd h hix) (fun h=>absurd h hiy)⟩

def sJ (ops:Array Oper)(y:Nat)(fr:List Nat):Bool:=
 lG ops (y+1) fr&&Nat.blt fr.length y&&((List.range y).all fun j=>(Nat.blt j fr.length&&frQ fr j) || cD ops 12 y j) &&
 ((
   List.range fr.length).all fun i => !frQ fr i || match ops[i]? with
   | none=>false
   | some o=>(cj o++(bM ops o).toList).all fun t=>(List.range (y+1)).all fun j=>(match aQ ops j with|some d => !Nat.beq d t|none=>true) || Nat.blt j fr.length) &&
 (match ops[y]? with|none=>false|some o=>o.dst.isNone&&o.guard.isNone)
theorem a1p {id:Nat}{ops:Array Oper}{L:Env}{a:Act}{w:World}(y:Nat)(fr:List Nat)(ks:List Nat)(S:World→World→Prop)(hR:bS S)(F F2:World→Prop)(hFst:∀w w',Ext w w'→F w→F w')(hFst2:∀w w',Ext w w'→F2 w→F2 w')(hmix:P.follows .mixedOrders=true)(hf:FrD n ds a w L)[hL:dK S L](hchk:chk ops (y+1) n=true)(hchkZ:sJ ops y fr=true)
  (h:du P ops w S F [] 0 fr (ops.toList.take y) (fun L'=>∃A,(∀o,ops[y]?=some o→∀w1,S w w1→F w1→cG P w1 S F2 L' o A)∧dK S (keep ks L')∧∀a' w',S w w'→F2 w'→FrD n ds a' w' (keep ks L')→wpListIn (FW r) 0 P ops Q (ops.toList.drop (y+1)) a' w') L L):(Code.region id ops true).wpIn (FW r) 0 P Q a w:=by
 simp only[chk,Bool.and_eq_true,List.all_eq_true,List.mem_range,Bool.or_eq_true,Nat.ble_eq] at hchk
 obtain⟨⟨hm,h1⟩,h2⟩:=hchk
 refine wpIn_region_any hmix ?_
 have hlen:(ops.toList.take y).length=y:=by simp;omega
 obtain⟨As,hfl,hAs,hX,hPo,A,hyA,hyst,hK⟩:=lF (ops:=ops) (ops.toList.take y) fr 0 L L (fun j hj=>by
  rw[hlen] at hj
  rw[Nat.zero_add,List.getElem?_take,if_pos hj];simp) h
 rw[hlen] at hyA hyst hK hfl hPo
 simp only[sJ,lG,js,Bool.and_eq_true,List.all_eq_true,List.mem_range,Bool.or_eq_true,Nat.blt_eq,Nat.ble_eq] at hchkZ
 obtain⟨⟨⟨⟨⟨⟨⟨hx,z1⟩,z3⟩,z2⟩,hxy⟩,z4⟩,z5⟩,z6⟩:=hchkZ
 have hext:Ext w { w with drawn:=w.drawn+1 }:=Ext.drew w
 obtain⟨As',hAs'⟩:∃As':Nat→VA,As'=fun j=>if j=y then A else As j:=⟨_,rfl⟩
 have hlt:∀j,j<y→As' j=As j:=fun j hj=>by rw[hAs'];exact if_neg (by omega)
 have hyy:As' y=A:=by rw[hAs'];exact if_pos rfl
 have hen:∀(f:Nat→VA) (f':Nat→VA) k,(∀j,j<k→f j=f' j)→aR ops L f 0 k=aR ops L f' 0 k:=fun f f' k hk=>by
  induction k with
  | zero=>rfl
  | succ k ih=>rw[aR,aR,ih (fun j hj=>hk j (by omega)),hk k (by omega)]
 have e1:∀k,k≤y→aR ops L As' 0 k=aR ops L As 0 k:=fun k hk=>hen _ _ k fun j hj=>hlt j (by omega)
 have e2:∀k,k≤y→aR ops L (fun j=>if kpQ fr j=true∨fr.length≤j then As' j else Any) 0 k=aR ops L (fun j=>if kpQ fr j=true∨fr.length≤j then As j else Any) 0 k:=fun k hk=>hen _ _ k fun j hj=>by
  show (if _ then As' j else Any)=_
  rw[hlt j (by omega)]
 have hoy:∃oy,ops[y]?=some oy∧oy.dst=none∧oy.guard=none:=by
  cases ho:ops[y]? with
  | none=>rw[ho] at z6;cases z6
  | some o=>
   rw[ho] at z6
   simp only[Bool.and_eq_true,Option.isNone_iff_eq_none] at z6
   exact⟨o,rfl,z6.1,z6.2⟩
 obtain⟨oy,hoy,hyd,hyg⟩:=hoy
 have:=sI (P:=P) (ops:=ops) (Q:=Q) (w0:=w) (n:=n) (ds:=ds) (m:=y+1) (x:=fr.length) (y:=y) (fr:=frQ fr) (kp:=kpQ fr) (S:=S) (F:=F) (F2:=F2) (ks:=ks) (r:=r) (L:=L) (As:=As') hR hxy rfl hFst hFst2 hm h1 (fun i hi hi'=>by
   rcases h2 i hi' with h|h
   ·simp only[Nat.blt_eq] at h;omega
   ·exact h) (fun j hj hfj=>by
   rcases z1 j hj with h|h
   ·rw[hfj] at h;cases h
   ·exact h) (fun j hj hfj=>by
   rcases z4 j hj with ⟨h,h'⟩|h
   ·rw[hfj h] at h';cases h'
   ·exact h) (fun j hj hjm=>by
   rcases z3 j hjm with (h|h)|h
   ·omega
   ·cases h
   ·exact h) (fun j h=>by
   unfold frQ at h
   unfold kpQ
   rw[Nat.eq_of_beq_eq_true h];rfl) (fun i o hi hfi ho t ht j hj hd=>by
   have:=z2 i hi
   rw[hfi,ho] at this
   simp only[Bool.not_true,Bool.false_eq_true,false_or,List.all_eq_true,List.mem_append,Option.mem_toList,List.mem_range,Bool.or_eq_true] at this
   rcases this t ht j hj with h|h
   ·rw[hd] at h;simp at h
   ·rw[Bool.and_eq_true,Nat.blt_eq] at h
    exact⟨h.1,by omega,h.2⟩) (fun j o hj hjm ho=>by rw[e2 j (by omega),hlt j hjm];exact fun w1 a b=>(hPo j o hj hjm (by simpa using ho)).1 w1 a (.inr b)) (fun j o hj ho=>by rw[e1 j (by omega),hlt j (by omega)];exact hAs j o hj (by simpa using ho)) (fun o ho=>by rw[e1 _ (by omega),hlt _ (by omega)];exact hX o (by simpa using ho)) hL
   (fun o ho=>by
    rw[hoy] at ho;cases ho
    exact⟨hyg,fun w1 q1 q2=>by rw[e2 y (Nat.le_refl _),hyy];exact hyA _ hoy w1 q1 q2⟩) (by simp[aQ,hoy,hyd]) (by rw[e2 y (Nat.le_refl _)];exact hyst) (fun a w hx hF hf=>hK a w hx hF (by rw[e2 y (Nat.le_refl _)] at hf;exact hf)) (y+1)
  (Array.replicate ops.size false) a { w with drawn:=w.drawn+1 } ?_ (by simp) ?_ ?_ ⟨hR.ext hext,fun _=>hext,fun hl=>?_,fun hl=>?_,hf.size,hf.defers,fun t A ht _=>A.st _ _ _ hext (hf.val t A ht),fun i hi hl=>?_⟩
 ·rwa [show y+1+(ops.size - (y+1))=ops.size by omega] at this
 ·have:(List.range (y+1)).countP (fun i => !(Array.replicate ops.size false).getD i true)=(List.range (y+1)).length:=by
   refine List.countP_eq_length.2 fun i hi=>?_
   have:=List.mem_range.1 hi
   have hlt:i<ops.size:=by omega
   simp[hlt]
  simpa using this
 ·intro j _ hj
  simp[hj]
 ·intro i o hl
  have:(Array.replicate ops.size false).getD i false=false:=by
   by_cases hlt:i<ops.size <;> simp[hlt]
  rw[this] at hl;cases hl
 ·have:(Array.replicate ops.size false).getD fr.length false=false:=by
   by_cases hlt:fr.length<ops.size <;> simp[hlt]
  rw[this] at hl;cases hl
 ·have:(Array.replicate ops.size false).getD y false=false:=by
   by_cases hlt:y<ops.size <;> simp[hlt]
  rw[this] at hl;cases hl
 ·have:(Array.replicate ops.size false).getD i false=false:=by
   by_cases hlt:i<ops.size <;> simp[hlt]
  rw[this] at hl;cases hl
end
end Go.Mono
namespace Go.Mono
open Go Go.Proofs Go.RowKit Go.Gr
theorem a1q {H:Type}{P:Program}{e:TypeId}(he:P.underlying e=some .bool){v:Value}{z:DataW H×List MemPlace}(h:plainElem P e v=some z):∃c,v=.bool c∧z=(.lit (.bool c),[]):=by
 unfold plainElem at h
 rw[he] at h
 cases v <;> simp at h
 rename_i c
 exact⟨c,rfl,h.symm⟩
noncomputable def bKV:KV Tryz.prog Int Bool where
 k:=3
 e:=4
 kv:=fun x=>.int .i64 x
 kl:=fun x=>.int .i64 x
 ok:=fun x=>(Lit.int .i64 x).wf=true
 mv:=fun c=>.bool c
 dv:=fun c=>.lit (.bool c)
 okv:=fun _=>True
 R:=plainElem Tryz.prog 4
 K:=Maps.int_keyed U3
 key:=fun x hx=>Maps.keyOf_int_mk U3 hx
 keyInv:=fun v l h=>by obtain⟨x,h1,h2,h3⟩:=Maps.keyOf_int_inv U3 h;exact⟨x,h3,h1,h2⟩
 kvInj:=fun x y h=>by cases h;rfl
 val:=fun c hc=>plainElem_bool U4 c
 valInv:=fun v y h=>by
  obtain⟨c,h1,h2⟩:=a1q U4 h
  exact⟨c,trivial,h1,h2⟩
 dvInj:=fun c c' h=>by cases h;rfl
def lkV {β:Type}(z:β)(l:List (Int×β))(i:Int):β:=((l.find? fun p=>decide (p.1=i)).map (·.2)).getD z
theorem sK {β:Type}{z:β}{l:List (Int×β)}{i:Int}(h:∀c,(i,c) ∉ l):lkV z l i=z:=by
 have:l.find? (fun p=>decide (p.1=i))=none:=by
  rw[List.find?_eq_none]
  intro p hp hh
  have h3:p.1=i:=by simpa using hh
  exact h p.2 (by rw[← h3];exact hp)
 rw[lkV,this];rfl
theorem sL {β:Type}{z c:β}{l:List (Int×β)}{i:Int}(hp:l.Pairwise fun p q=>p.1≠q.1)(h:(i,c)∈l):lkV z l i=c:=by
 cases hf:l.find? (fun p=>decide (p.1=i)) with
 | none=>have:=List.find?_eq_none.1 hf _ h;simp at this
 | some p=>
  have k1:=List.find?_some hf
  have k2:=List.mem_of_find?_eq_some hf
  have k3:p.1=i:=by simpa using k1
  have k4:p=(i,p.2):=by rw[← k3]
  rw[k4] at k2
  rw[lkV,hf]
  exact ip hp k2 h
section
variable {w0:World}{L:Env}{dst:Option Tmp}{ty:TypeId}{pos:String}{aft:Array Edge}{g:Option (Nat×Bool)}{x y:Operand}{t:TypeId}{β:Type}{l:List (Int×β)}{b n:Nat}
theorem a1r {V:KV Tryz.prog Int β}{i:Int}{z:β}(hz:∀w,(zeroValue V.e).run Tryz.prog w=.ok (V.mv z) w)(hz0:V.okv z)(ht:Tryz.prog.underlying t=some (.map V.k V.e))(hx:opd L x=some (E (.map (some b))))(hM:MpR V w0 b n l)(hy:opd L y=some (E (V.kv i)))(hi:V.ok i) :
  OpC Tryz.prog w0 L ⟨dst,.lookup t x y false,ty,pos,aft,g⟩ (E (V.mv (lkV z l i))):=
 aP fun ρ w he' hv=>by
  have h5:=opE hv (x:=x) (by simp[Op.operands]) hx
  have h6:=opE hv (x:=y) (by simp[Op.operands]) hy
  have h2:=hM.ext he'
  obtain⟨D,m1,m2,m3,m4,_⟩:=h2.has (x:=i) hi
  obtain⟨v,ps,r1,r2⟩:=m1.lookup V.K ht (hz w) (V.val z hz0) (V.key i hi)
  obtain⟨c,_,rfl,hy2⟩:=V.valInv _ _ r2
  have hcc:c=lkV z l i:=by
   have h8:=congrArg Prod.fst hy2
   simp only at h8
   by_cases hex:∃c',(i,c')∈l
   ·obtain⟨c',hc'⟩:=hex
    rw[m3 c' hc'] at h8
    obtain⟨_,_,_,_,hp⟩:=h2
    rw[sL hp hc']
    exact (V.dvInj _ _ h8).symm
   ·have hno:∀c',(i,c') ∉ l:=fun c' h=>hex ⟨c',h⟩
    rw[m4 hno] at h8
    rw[sK hno]
    exact (V.dvInj _ _ h8).symm
  rw[hcc] at r1
  exact⟨_,by simp only[execOp,h5,h6,Sem.run_bind,r1,Result.andThen_ok,Sem.run_pure],rfl⟩
end
def SeR (w:World)(b:Nat)(S:BS):Prop:=∃l:List (Int×Bool),MpR bKV w b l.length l∧(∀p∈l,p.2=true∧∃n:Nat,p.1=(n:Int)∧S.getLsbD n=true)∧∀n:Nat,S.getLsbD n=true→((n:Int),true)∈l
section
variable {w w':World}{b:Nat}{S:BS}
theorem SeR.ext (h:SeR w b S)(e':Ext w w'):SeR w' b S:=by obtain⟨l,h1,h2⟩:=h;exact⟨l,h1.ext e',h2⟩
instance:Ug w w' (SeR w b S) (SeR w' b S):=⟨fun e h=>h.ext e⟩
theorem SeR.gr (h:SeR w b S){c:Option Nat}(hg:w.grownBy w' c)(hne:some b≠c):SeR w' b S:=by obtain⟨l,h1,h2⟩:=h;exact⟨l,h1.gr hg hne,h2⟩
theorem sM {l:List (Int×Bool)}{n:Nat}(h:MpR bKV w b n l)(h2:∀p∈l,p.2=true∧∃n:Nat,p.1=(n:Int)∧S.getLsbD n=true):l.length≤1024:=by
 obtain⟨_,_,_,_,hn⟩:=h
 have:=ed (l.map (·.1)) (ae (aj S)) (List.pairwise_map.2 hn) fun x hx=>by
  obtain⟨p,hp,rfl⟩:=List.mem_map.1 hx
  obtain⟨_,n,h1,h2⟩:=h2 p hp
  rw[h1]
  exact List.mem_map.2 ⟨n,aL.2 ⟨aK h2,h2⟩,rfl⟩
 rw[List.length_map,bC,dL] at this
 exact Nat.le_trans this (dM S)
theorem SeR.put {l:List (Int×Bool)}{m n:Nat}(hn:n<1024)(h:MpR bKV w b m (aT l (n:Int) true))(h2:∀p∈l,p.2=true∧∃n:Nat,p.1=(n:Int)∧S.getLsbD n=true)(h3:∀n:Nat,S.getLsbD n=true→((n:Int),true)∈l):SeR w b (ins S (n:Int)):=by
 refine⟨_,h.tight0,fun p hp=>?_,fun k hk=>?_⟩
 ·rcases iJ hp with rfl|hp
  ·exact⟨rfl,n,rfl,(de _ hn).2 (.inr rfl)⟩
  ·obtain⟨q1,k,q2,q3⟩:=h2 p hp
   exact⟨q1,k,q2,(de _ hn).2 (.inl q3)⟩
 ·by_cases hkn:k=n
  ·rw[hkn];exact List.mem_cons_self ..
  ·have:=((de _ hn).1 hk).resolve_right hkn
   refine List.mem_cons_of_mem _ (List.mem_filter.2 ⟨h3 k this,?_⟩)
   simp only[Bool.not_eq_true',decide_eq_false_iff_not]
   omega
theorem mR (w:World):(zeroValue bKV.e).run Tryz.prog w=.ok (bKV.mv false) w:=eI I4 w
theorem mS {w0:World}{L:Env}{dst:Option Tmp}{ty:TypeId}{pos:String}{aft:Array Edge}{g:Option (Nat×Bool)}{x y:Operand}{t:TypeId}{n:Nat}(ht:Tryz.prog.underlying t=some (.map bKV.k bKV.e))(hx:opd L x=some (E (.map (some b))))(hM:SeR w0 b S)(hy:opd L y=some (E (I (n:Nat))))(hi:n<1024) :
  OpC Tryz.prog w0 L ⟨dst,.lookup t x y false,ty,pos,aft,g⟩ (E (B (S.getLsbD n))):=by
 obtain⟨l,h1,h2,h3⟩:=hM
 have hk:=a1r (V:=bKV) (z:=false) (i:=(n:Int)) (dst:=dst) (ty:=ty) (pos:=pos) (aft:=aft) (g:=g) mR trivial ht hx h1 hy (bH (by omega) (by omega))
 have hv:lkV false l (n:Int)=S.getLsbD n:=by
  cases hb:S.getLsbD n with
  | true=>obtain⟨_,_,_,_,hp⟩:=h1;exact sL hp (h3 n hb)
  | false=>
   refine sK fun c hc=>?_
   obtain⟨_,k,q1,q2⟩:=h2 _ hc
   have:k=n:=by have:(n:Int)=(k:Int):=q1;omega
   rw[this,hb] at q2;cases q2
 rw[hv] at hk
 exact hk
end
theorem a1s {G:Nat→Prop}(g:GT)(ok:Gr.Ok g)(a0:Nat)(ha:(vset g.1).getLsbD a0=true)(v:Value)(W:World)(h:(Dv gtE G g).p v W)(hl1:g.1.length≤100000)(hl2:g.2.length≤100000){K:Nat→Prop}(hK:∀b,K b→b<W.heap.size) :
  Calls Tryz.prog 81 #[v,I (a0:Nat)] W (Post (Dv (slE intE) K (elL (cpt (nbA g) a0))) W):=by
 obtain⟨u1,u2,rfl,h1,h2⟩:=Dv.gt.1 (Dv.weak (G':=G0) h fun b _ hb=>hb.elim)
 replace h1:=Dv.toB h1
 replace h2:=Dv.toB h2
 have ha1:=aK ha
 have hwa:(Lit.int .i64 (a0:Int)).wf=true:=bH (by omega) (by omega)
 have hrch:=a0d ok ha
 have hin:=rD ok ha
 have hids:=a0e ok hin
 refine eN [.agg #[u1,u2],I (a0:Nat)] [E (.agg #[u1,u2]),E (I (a0:Nat))] Tryz.func81 Tryz.ntmps81 ?_ fun a hf=>?_
 rotate_left
 dsimp only[params,Nat.reduceAdd] at hf
 rotate_right
 ·exact arg2 rfl rfl
 have e:=Ext.rfl' W
 refine seq <| ab <| tB hf rfl fun a b2 w v2 hv2 e' hb2 hs2 B2 hf=>?_
 replace e:=e.tr e'
 refine tA hf rfl fun a hf=>aa ?_
 cases hv2
 have l2:=B2.lt
 replace hf:=hf.kp [1,2]
 refine seq <| ab <| ep bKV hf (by decide) fun a bm w e' hbm hsz HM hf=>?_
 replace e:=e.tr e';replace B2:=B2.ext e';clear e'
 have nb2:b2<bm:=by omega
 have nbW:W.heap.size≤bm:=by have:=e.size;omega
 obtain⟨N1,hN1⟩:=eqX w.heap.size
 have hbN:bm<N1:=by omega
 have hN1s:N1≤w.heap.size:=Nat.le_of_eq hN1
 have hWN:W.heap.size≤N1:=by omega
 refine tP hf (mv rfl) fun a w e' hf=>?_
 obtain⟨HM,hN1s,e,B2⟩:=up4 e' HM hN1s e B2
 refine yc (V:=bKV) (i:=(a0:Int)) (c:=true) U49 hf rfl rfl rfl HM (by decide) hwa trivial fun w hg HM hf=>?_
 have HS:SeR w bm (ins 0 (a0:Int)):=SeR.put ha1 HM (fun p hp=>by cases hp) (fun n hn=>absurd hn (bF n))
 replace e:=e.gr hg (by omega);replace B2:=B2.gr hg (by omega);replace hN1s:=Nat.le_trans hN1s hg.size;clear hg HM
 refine tP hf (mv rfl) fun a w e' hf=>?_
 obtain⟨HS,hN1s,e,B2⟩:=up4 e' HS hN1s e B2
 refine tA hf rfl fun a hf=>aa ?_
 replace hf:=hf.keep [2,5]
 refine seq <| seq ?_
 refine ab <| tA hf rfl fun a hf=>aa ?_
 replace hf:=hf.keep [2,5,6]
 refine blk (aF (fun r0 a w=>∃(j:Nat) ,r0=g.1.length - j∧j≤g.1.length∧Fr 88 a w [(2,E (ptr b2)),(5,E (.map (some bm))),(6,E (I j))]∧Ext W w∧Blk w b2 #[u1,u2] 25∧SeR w bm (rcN (esN g) (ins 0 (a0:Int)) j)∧N1≤w.heap.size) g.1.length ⟨0,rfl,by omega,hf,e,⟨B2,HS,hN1s⟩⟩ ?_)
 rintro r0 a w ⟨j,rfl,hj,hf,e,B2,HS,hN1s⟩
 refine seq <| seq ?_
 refine rgN 5 hf <| st (mv rfl) <| st (fA U25 rfl T22 rfl) <| st (ld1 T22 rfl (by assumption) rfl) <| st (aB U22 (isE rfl (vst e h1))) <| st (lss rfl rfl) <| en fun a w e' hf=>?_
 obtain⟨HS,hN1s,e,B2⟩:=up4 e' HS hN1s e B2
 refine aa <| ifc hf rfl (fun hc=>ah ?_) (fun hc=>aC ?_)
 rotate_left
 rotate_left
 ·have hltj:=ltC hc
  replace hf:=hf.keep [2,5,6]
  refine seq <| blk ?_
  obtain⟨S0,hS0⟩:=eqX (rcN (esN g) (ins 0 (a0:Int)) j)
  have hS1:rcN (esN g) (ins 0 (a0:Int)) (j+1)=(esN g).foldl rcS S0:=by rw[hS0];rfl
  rw[← hS0] at HS
  have hel:(esN g).length=g.2.length:=by rw[esN,List.length_map]
  refine seq <| ab <| tA hf rfl fun a hf=>aa ?_
  replace hf:=hf.keep [2,5,6,7]
  refine blk (aF (fun r0 a w=>∃(i:Nat) ,r0=g.2.length - i∧i≤g.2.length∧Fr 88 a w [(2,E (ptr b2)),(5,E (.map (some bm))),(6,E (I j)),(7,E (I i))]∧Ext W w∧Blk w b2 #[u1,u2] 25∧SeR w bm (((esN g).take i).foldl rcS S0)∧N1≤w.heap.size) g.2.length ⟨0,rfl,by omega,hf,e,⟨B2,HS,hN1s⟩⟩ ?_)
  rintro r0 a w ⟨i,rfl,hi,hf,e,B2,HS,hN1s⟩
  refine seq <| seq ?_
  refine rgN 5 hf <| st (mv rfl) <| st (fA U25 rfl T23 rfl) <| st (ld1 T23 rfl (by assumption) rfl) <| st (aB U23 (isE rfl (vst e h2))) <| st (lss rfl rfl) <| en fun a w e' hf=>?_
  obtain⟨HS,hN1s,e,B2⟩:=up4 e' HS hN1s e B2
  refine aa <| ifc hf rfl (fun hc=>ah ?_) (fun hc=>aC ?_)
  rotate_left
  rotate_left
  ·have hlti:=ltC hc
   replace hf:=hf.keep [2,5,6,7]
   refine seq <| blk ?_
   have hg0:=List.getElem?_eq_getElem hlti
   generalize g.2[i]=x at hg0
   obtain⟨p,q,hx,hpq,hp,hq⟩:=gy ok x (List.mem_of_getElem? hg0)
   have hp1:=aK hp
   have hq1:=aK hq
   have hwp:(Lit.int .i64 (p:Int)).wf=true:=bH (by omega) (by omega)
   have hwq:(Lit.int .i64 (q:Int)).wf=true:=bH (by omega) (by omega)
   have hen:(esN g)[i]?=some (p,q):=by rw[esN,List.getElem?_map,hg0,Option.map_some,hx];rfl
   have hsc:((esN g).take (i+1)).foldl rcS S0=rcS (((esN g).take i).foldl rcS S0) (p,q):=by rw[bs hen,List.foldl_append];rfl
   obtain⟨x1,x2⟩:=x
   subst hx
   generalize ((esN g).take i).foldl rcS S0=S at hsc HS
   refine seq <| rgN 18 hf <| st (mv rfl) <| st (fA U25 rfl T23 rfl) <| st (ld1 T23 rfl (by assumption) rfl) <| st (mv rfl) <| st (aD U23 S51 (isE rfl (vst e h2)) rfl (by omega) (hg0)) <| st (ax U51 rfl T3 (by decide) (Fld.fst (Fld.fst Fld.refl)) (isR rfl)) <| st (ldI T3 (isR rfl)) <| st (mS U49 rfl HS rfl hp1) <| st (mv rfl) <| sgE rfl rfl (.k 5 rfl .n) (fun hgd=>mv rfl) <| sgE rfl rfl (.k 2 rfl .n) (fun hgd=>fA U25 rfl T23 rfl) <| sgE rfl rfl (.c 37 rfl (fun h=>h) .n) (fun hgd=>ld1 T23 rfl (by assumption) rfl) <| sgE rfl rfl (.k 7 rfl .n) (fun hgd=>mv rfl) <| sgE rfl rfl (.c 38 rfl (fun h=>h) (.c 39 rfl (fun h=>h) .n)) (fun hgd=>aD U23 S51 (isE rfl (vst e h2)) rfl rfl (hg0)) <| sgE rfl rfl (.c 40 rfl (fun h=>h) .n) (fun hgd=>ax U51 rfl T3 (by decide) (Fld.fst (Fld.snd Fld.refl rfl)) (isR rfl)) <| sgE rfl rfl (.c 41 rfl (fun h=>h) .n) (fun hgd=>ldI T3 (isR rfl)) <| sgE rfl rfl (.c 36 rfl (fun h=>h) (.c 42 rfl (fun h=>h) .n)) (fun hgd=>mS U49 rfl HS rfl hq1) <| st (bD rfl rfl (fun h=>by rw[h];rfl)) ?_
   refine en fun a w e' hf=>?_
   obtain⟨HS,hN1s,e,B2⟩:=up4 e' HS hN1s e B2
   refine aa <| ifc hf rfl (fun hb=>?_) (fun hb=>?_)
   ·rw[rcS,if_pos hb] at hsc
    replace hf:=hf.kp [2,5,6,7]
    obtain⟨l,HM,q2,q3⟩:=HS
    have hll:=sM HM q2
    have hlm:l.length<maxLen:=by simp only[maxLen];omega
    refine a1p 16 [2,0,0,0,0,0,0,1,0,0,0,0,0,2] [2,5,6,7,52,58] (Chg fun d=>d=bm) (bS.one _) (fun w=>True) (fun w=>MpR bKV w bm (l.length+1) (aT l (p:Int) true)) (fun w w1 k h=>trivial) (fun w w1 k h=>h.ext k) Mix.mix hf (by decide +kernel) (by decide +kernel) <| jk (mv rfl) <| ja (fA U25 rfl T23 rfl) <| ja (ld1 T23 rfl (by assumption) rfl) <| ja (mv rfl) <| ja (aD U23 S51 (isE rfl (vst e h2)) rfl (by omega) (hg0)) <| ja (ax U51 rfl T3 (by decide) (Fld.fst (Fld.fst Fld.refl)) (isR rfl)) <| ja (ldI T3 (isR rfl)) <| jf (fun w1 h1=>mv rfl) <| ja (fA U25 rfl T23 rfl) <| ja (ld1 T23 rfl (by assumption) rfl) <| ja (mv rfl) <| ja (aD U23 S51 (isE rfl (vst e h2)) rfl (by omega) (hg0)) <| ja (ax U51 rfl T3 (by decide) (Fld.fst (Fld.snd Fld.refl rfl)) (isR rfl)) <| jk (ldI T3 (isR rfl)) <| jx (enK (V:=bKV) (i:=(p:Int)) U49 mR rfl rfl HM hwp hlm) <| jp (fun w1 h1 HF1=>aV rfl rfl) <| je <| ⟨Any,fun o ho w1 h1 HF1=>?_,by dsimp only[push,keep,List.filterMap,aG,Nat.beq,Option.map];infer_instance,fun a w hc HF hf=>?_⟩
    ·obtain rfl:=Option.some.inj ho
     exact esK (V:=bKV) (i:=(p:Int)) (c:=true) rfl rfl rfl trivial
    try dsimp only[push,keep,List.filterMap,aG,Nat.beq,Option.map] at hf
    have HS:SeR w bm (ins S (p:Int)):=SeR.put hp1 HF q2 q3
    replace e:=e.ch hc (fun b hb=>by omega);replace B2:=B2.ch hc (fun h=>by omega);replace hN1s:=Nat.le_trans hN1s hc.size;clear hc HF HM q2 q3 hll hlm
    obtain⟨l,HM,q2,q3⟩:=HS
    have hll:=sM HM q2
    refine a0q (V:=bKV) (i:=(q:Int)) (c:=true) U49 mR hf rfl rfl (by decide) (by decide) (fun _ _=>rfl) (fun _ _=>rfl) HM (by simp only[maxLen];omega) hwq trivial fun a w v0 s9 hg HM hf=>?_
    have HS:SeR w bm (ins (ins S (p:Int)) (q:Int)):=SeR.put hq1 HM q2 q3
    replace e:=e.gr hg (by omega);replace B2:=B2.gr hg (by omega);replace hN1s:=Nat.le_trans hN1s hg.size;clear hg HM q2 q3 hll
    refine aa ?_
    rw[← hsc] at HS
    replace hf:=hf.kp [2,5,6,7]
    refine rgN 2 hf <| st (mv rfl) <| st ((add rfl rfl (by omega)).eq (iN i)) <| en fun a w e' hf=>?_
    obtain⟨HS,hN1s,e,B2⟩:=up4 e' HS hN1s e B2
    refine tA hf rfl fun a hf=>aa ?_
    replace hf:=hf.keep [2,5,6,7]
    refine⟨_,?_,i+1,rfl,by omega,hf,e,?_⟩
    ·omega
    exact⟨B2,HS,hN1s⟩
   ·rw[rcS,if_neg (by rw[hb];decide)] at hsc
    rw[← hsc] at HS
    refine ah <| rgN 2 hf <| st (mv rfl) <| st ((add rfl rfl (by omega)).eq (iN i)) <| en fun a w e' hf=>?_
    obtain⟨HS,hN1s,e,B2⟩:=up4 e' HS hN1s e B2
    refine tA hf rfl fun a hf=>aa ?_
    replace hf:=hf.keep [2,5,6,7]
    refine⟨_,?_,i+1,rfl,by omega,hf,e,?_⟩
    ·omega
    exact⟨B2,HS,hN1s⟩
  ·obtain rfl:=dnE hc hi
   rw[List.take_of_length_le (Nat.le_of_eq hel),← hS1] at HS
   replace hf:=hf.keep [2,5,6]
   refine rgN 2 hf <| st (mv rfl) <| st ((add rfl rfl (by omega)).eq (iN j)) <| en fun a w e' hf=>?_
   obtain⟨HS,hN1s,e,B2⟩:=up4 e' HS hN1s e B2
   refine tA hf rfl fun a hf=>aa ?_
   replace hf:=hf.keep [2,5,6]
   refine⟨_,?_,j+1,rfl,by omega,hf,e,?_⟩
   ·omega
   exact⟨B2,HS,hN1s⟩
 ·obtain rfl:=dnE hc hj
  rw[hrch] at HS
  obtain⟨C,hC⟩:=eqX (cpt (nbA g) a0)
  rw[← hC] at HS hids ⊢
  obtain⟨N2,hN2⟩:=eqX w.heap.size
  have hN2s:N2≤w.heap.size:=Nat.le_of_eq hN2
  have h12:N1≤N2:=by omega
  have hKN:∀b,K b→b<N2:=fun b hb=>by have:=hK b hb;omega
  replace hf:=hf.keep [2,5]
  refine seq <| ab <| tA hf rfl fun a hf=>aa ?_
  refine seq <| seq ?_
  refine ab <| tA hf rfl fun a hf=>aa ?_
  have Ho:OwR intE 3 N2 K w [] (.slice none 0 0):=OwR.nil intE _ hN2s hKN
  replace hf:=hf.kp [2,5,8,9]
  refine blk (aF (fun r0 a w=>∃(k:Nat) (u:Value),r0=g.1.length - k∧k≤g.1.length∧Fr 88 a w [(2,E (ptr b2)),(5,E (.map (some bm))),(8,E u),(9,E (I k))]∧Ext W w∧Blk w b2 #[u1,u2] 25∧SeR w bm C∧OwR intE 3 N2 K w (((bN g).take k).filter fun x=>has C x) u) g.1.length ⟨0,.slice none 0 0,rfl,by omega,hf,e,⟨B2,HS,Ho⟩⟩ ?_)
  rintro r0 a w ⟨k,u,rfl,hk,hf,e,B2,HS,Ho⟩
  refine seq <| seq ?_
  refine rgN 5 hf <| st (mv rfl) <| st (fA U25 rfl T22 rfl) <| st (ld1 T22 rfl (by assumption) rfl) <| st (aB U22 (isE rfl (vst e h1))) <| st (lss rfl rfl) <| en fun a w e' hf=>?_
  obtain⟨HS,e,B2,Ho⟩:=up4 e' HS e B2 Ho
  refine aa <| ifc hf rfl (fun hc=>ah ?_) (fun hc=>aC ?_)
  rotate_left
  rotate_left
  ·have hlt:=ltC hc
   replace hf:=hf.kp [2,5,8,9]
   refine seq <| blk ?_
   have hg0:=List.getElem?_eq_getElem hlt
   generalize g.1[k]=x at hg0
   obtain⟨n,hn,hnb,hn1⟩:∃n:Nat,x.1=(n:Int)∧n<1024∧True:=by
    have h3:=(jI ok).1 (List.mem_map.2 ⟨x,List.mem_of_getElem? hg0,rfl⟩)
    obtain⟨u,h4,h5⟩:=h3
    exact⟨u,h4,aK h5,trivial⟩
   have hik:(bN g)[k]?=some (n:Int):=by rw[bN,List.getElem?_map,hg0,Option.map_some,hn]
   obtain⟨x1,x2⟩:=x
   subst hn
   have hsc:((bN g).take (k+1)).filter (fun x=>has C x)=((bN g).take k).filter (fun x=>has C x)++(if C.getLsbD n=true then [(n:Int)] else []):=by
    have hs1:[(n:Int)].filter (fun x=>has C x)=if C.getLsbD n=true then [(n:Int)] else []:=by
     cases hh:has C (n:Int) with
     | true=>rw[List.filter_cons_of_pos hh,List.filter_nil,if_pos ((cQ C n).1 hh)]
     | false=>rw[List.filter_cons_of_neg (by rw[hh];decide),List.filter_nil,if_neg (fun h=>by rw[(cQ C n).2 h] at hh;cases hh)]
    rw[bs hik,List.filter_append,hs1]
   have hol:(((bN g).take k).filter fun x=>has C x).length≤100000:=Nat.le_trans (List.length_filter_le _ _) (Nat.le_trans (List.length_take_le' _ _) (by rw[bN,List.length_map];exact hl1))
   generalize ((bN g).take k).filter (fun x=>has C x)=out at hsc hol Ho
   refine seq <| rgN 8 hf <| st (mv rfl) <| st (fA U25 rfl T22 rfl) <| st (ld1 T22 rfl (by assumption) rfl) <| st (mv rfl) <| st (aD U22 S45 (isE rfl (vst e h1)) rfl (by omega) (hg0)) <| st (ax U45 rfl T3 (by decide) (Fld.fst Fld.refl) (isR rfl)) <| st (ldI T3 (isR rfl)) <| st (mS U49 rfl HS rfl hnb) <| en fun a w e' hf=>?_
   obtain⟨HS,e,B2,Ho⟩:=up4 e' HS e B2 Ho
   refine aa <| ifc hf rfl (fun hb=>?_) (fun hb=>?_)
   ·rw[if_pos hb] at hsc
    replace hf:=hf.kp [2,5,8,9]
    have n1:=Ho.neLt (b:=b2) (by omega)
    have n2:=Ho.neLt (b:=bm) (by omega)
    refine rgN 8 hf <| st (mv rfl) <| st (fA U25 rfl T22 rfl) <| st (ld1 T22 rfl (by assumption) rfl) <| st (mv rfl) <| st (aD U22 S45 (isE rfl (vst e h1)) rfl (by omega) (hg0)) <| st (ax U45 rfl T3 (by decide) (Fld.fst Fld.refl) (isR rfl)) <| st (ldI T3 (isR rfl)) <| st (aW U35 I3 rfl (by decide) rfl Ho.avs (isI rfl)) <| en fun a w e' hf=>?_
    obtain⟨HS,Ho,e,B2⟩:=up4 e' HS Ho e B2
    haveI hin:∀G0,InR (GB W G0) _:=OwR.inGB (W:=W) Ho (by omega)
    refine br U35 I3 rfl rfl hf (by decide) rfl Ho (isR rfl) (by simp only[List.length_singleton];omega) (by simp only[List.length_singleton,maxLen];omega) fun a v w hg hat Hn hf=>?_
    replace e:=e.gro hg (Ho.row (W:=W) (by omega))
    have hrow:=Ho.row (W:=W) (by omega)
    replace HS:=HS.gr hg (Ne.symm n2)
    replace Ho:=Hn
    replace B2:=B2.gro hg (by assumption)
    replace Ho:=Hn;clear Hn hg hat hin
    refine tA hf rfl fun a hf=>aa ?_
    rw[← hsc] at Ho
    refine rgN 2 hf <| st (mv rfl) <| st ((add rfl rfl (by omega)).eq (iN k)) <| en fun a w e' hf=>?_
    obtain⟨HS,Ho,e,B2⟩:=up4 e' HS Ho e B2
    refine tA hf rfl fun a hf=>aa ?_
    replace hf:=hf.keep [2,5,8,9]
    refine⟨_,?_,k+1,_,rfl,by omega,hf,e,?_⟩
    ·omega
    exact⟨B2,HS,Ho⟩
   ·rw[if_neg (by rw[hb];decide),List.append_nil] at hsc
    rw[← hsc] at Ho
    refine ah <| rgN 2 hf <| st (mv rfl) <| st ((add rfl rfl (by omega)).eq (iN k)) <| en fun a w e' hf=>?_
    obtain⟨HS,Ho,e,B2⟩:=up4 e' HS Ho e B2
    refine tA hf rfl fun a hf=>aa ?_
    replace hf:=hf.keep [2,5,8,9]
    refine⟨_,?_,k+1,_,rfl,by omega,hf,e,?_⟩
    ·omega
    exact⟨B2,HS,Ho⟩
  ·obtain rfl:=dnE hc hk
   rw[show (bN g).take g.1.length=bN g from List.take_of_length_le (by rw[bN,List.length_map];exact Nat.le_refl _),hids] at Ho
   replace hf:=hf.keep [8]
   refine seq <| rgN 1 hf <| st (mv rfl) <| en fun a w e' hf=>?_
   obtain⟨Ho,e⟩:=up2 e' Ho e
   refine tA hf rfl fun a hf=>aa <| ai <| am rfl hf rfl ?_
   rintro _ rfl
   exact⟨_,rfl,e,Ho.sl⟩
theorem kg {g:GT}(ok:Gr.Ok g){k:Nat}{x:VT}(h:g.1[k]?=some x):∃n:Nat,x.1=(n:Int)∧(vset g.1).getLsbD n=true∧(aj (vset g.1))[k]?=some n:=by
 obtain⟨n,h4,h5⟩:=(jI ok).1 (List.mem_map.2 ⟨x,List.mem_of_getElem? h,rfl⟩)
 refine⟨n,h4,h5,?_⟩
 have h1:(ae (aj (vset g.1)))[k]?=some (n:Int):=by rw[lZ ok,bN,List.getElem?_map,h,Option.map_some,h4]
 rw[ae,List.getElem?_map] at h1
 cases he:(aj (vset g.1))[k]? with
 | none=>rw[he] at h1;cases h1
 | some m=>
  rw[he] at h1
  have h6:(m:Int)=(n:Int):=Option.some.inj h1
  rw[show m=n by omega]
theorem ez {g:GT}(ok:Gr.Ok g):(aj (vset g.1)).length=g.1.length:=by rw[dL,jJ ok]
theorem a1t {g:GT}{a:Nat}(ha:a<1024):∃m,aU (cpt (nbA g) a)=some m:=by
 cases h:aU (cpt (nbA g) a) with
 | some m=>exact⟨m,rfl⟩
 | none=>
  have:=ea (nb:=nbA g) ha
  rw[ge.1 h] at this
  exact absurd this (bF a)
theorem a1u {G:Nat→Prop}(g:GT)(ok:Gr.Ok g)(v:Value)(W:World)(h:(Dv gtE G g).p v W)(hl1:g.1.length≤100000)(hl2:g.2.length≤100000){K:Nat→Prop}(hK:∀b,K b→b<W.heap.size) :
  Calls Tryz.prog 27 #[v] W (Post (Dv (slE (slE intE)) K (ptF g)) W):=by
 have hg0:(Dv gtE G0 g).p v W:=Dv.weak h fun b _ hb=>hb.elim
 obtain⟨u1,u2,rfl,h1,h2⟩:=Dv.gt.1 (Dv.weak (G':=G0) h fun b _ hb=>hb.elim)
 replace h1:=Dv.toB h1
 replace h2:=Dv.toB h2
 refine eN [.agg #[u1,u2]] [E (.agg #[u1,u2])] Tryz.func27 Tryz.ntmps27 ?_ fun a hf=>?_
 rotate_left
 rotate_right
 ·exact arg1 rfl
 have e:=Ext.rfl' W
 have hK0:=hK
 refine seq <| ab <| tB hf rfl fun a b1 w v1 hv1 e' hb1 hs1 B1 hf=>?_
 replace e:=e.tr e'
 refine tA hf rfl fun a hf=>aa ?_
 cases hv1
 have l1:=B1.lt
 obtain⟨N1,hN1⟩:=eqX w.heap.size
 have hN1s:N1≤w.heap.size:=Nat.le_of_eq hN1
 have hWN:W.heap.size≤N1:=by rw[hN1];exact e.size
 have lb1:b1<N1:=by rw[hN1];exact l1
 have hKN:∀b,K b→b<N1:=fun b hb=>Nat.lt_of_lt_of_le (hK b hb) hWN
 replace hf:=hf.keep [1]
 refine seq <| ab <| tA hf rfl fun a hf=>aa ?_
 refine seq <| seq ?_
 refine ab <| tA hf rfl fun a hf=>aa ?_
 obtain⟨V,hV⟩:=eqX (vset g.1)
 obtain⟨p,hp⟩:=eqX (fun v=>decide (aU (cpt (nbA g) v)=some v):Nat→Bool)
 obtain⟨F,hF⟩:=eqX (fun v=>elL (cpt (nbA g) v):Nat→List Int)
 have hpt:ptF g=((aj (vset g.1)).filter p).map F:=by rw[hp,hF,ptF]
 have hvl:=ez ok
 have Ho:OwR (slE intE) 35 N1 K w ([]:List (List Int)) (.slice none 0 0):=OwR.nil (slE intE) _ hN1s hKN
 replace hf:=hf.keep [1,3,4]
 refine blk (aF (fun r0 a w=>∃(k:Nat) (u:Value),r0=g.1.length - k∧k≤g.1.length∧Fr 36 a w [(1,E (ptr b1)),(3,E u),(4,E (I k))]∧Ext W w∧Blk w b1 #[u1,u2] 25∧OwR (slE intE) 35 N1 K w ((((aj (vset g.1)).take k).filter p).map F) u) g.1.length ⟨0,.slice none 0 0,rfl,by omega,hf,e,⟨B1,Ho⟩⟩ ?_)
 rintro r0 a w ⟨k,u,rfl,hk,hf,e,B1,Ho⟩
 refine seq <| seq ?_
 refine rgN 5 hf <| st (mv rfl) <| st (fA U25 rfl T22 rfl) <| st (ld1 T22 rfl (by assumption) rfl) <| st (aB U22 (isE rfl (vst e h1))) <| st (lss rfl rfl) <| en fun a w e' hf=>?_
 obtain⟨e,B1,Ho⟩:=up3 e' e B1 Ho
 refine aa <| ifc hf rfl (fun hc=>ah ?_) (fun hc=>aC ?_)
 rotate_left
 rotate_left
 ·have hlt:=ltC hc
  replace hf:=hf.keep [1,3,4]
  refine seq <| blk ?_
  have hg0':=List.getElem?_eq_getElem hlt
  generalize g.1[k]=x at hg0'
  obtain⟨n,hn,hnV,hen⟩:=kg ok hg0'
  have hn1:=aK hnV
  obtain⟨x1,x2⟩:=x
  subst hn
  obtain⟨m,hm⟩:=a1t (g:=g) hn1
  have hm1:=aK (eS.1 hm).2.1
  have h0:(F n)[0]?=some (m:Int):=by rw[hF];show (ae (aj _))[0]?=_;rw[a0g,hm];rfl
  have hpm:p n=decide (m=n):=by rw[hp];show decide (aU (cpt (nbA g) n)=some n)=_;rw[hm];simp
  have hsc:((((aj (vset g.1)).take (k+1)).filter p).map F)=((((aj (vset g.1)).take k).filter p).map F)++(if p n=true then [F n] else []):=by
   have hs1:[n].filter p=if p n=true then [n] else []:=by
    cases hh:p n with
    | true=>rw[List.filter_cons_of_pos hh,List.filter_nil,if_pos rfl]
    | false=>rw[List.filter_cons_of_neg (by rw[hh];decide),List.filter_nil,if_neg (by decide)]
   rw[bs hen,List.filter_append,hs1,List.map_append]
   split <;> rfl
  have hol:((((aj (vset g.1)).take k).filter p).map F).length≤100000:=by
   rw[List.length_map]
   exact Nat.le_trans (List.length_filter_le _ _) (Nat.le_trans (List.length_take_le' _ _) (by rw[hvl];exact hl1))
  have hFn:F n=elL (cpt (nbA g) n):=by rw[hF]
  have hwm:(Lit.int .i64 (m:Int)).wf=true:=bH (by omega) (by omega)
  generalize ((((aj (vset g.1)).take k).filter p).map F)=out at hsc hol Ho
  generalize F n=Fn at hsc hFn h0
  obtain⟨N2,hN2⟩:=eqX w.heap.size
  have hN2s:N2≤w.heap.size:=Nat.le_of_eq hN2
  have hown:∀b,GO K u b→b<N2:=fun b hb=>by
   rcases hb with hb|hb
   ·have:=hKN b hb;have:=Ho.base;omega
   ·have:=(Ho.lt hb).2;omega
  have e5:=e
  refine seq <| rgG 8 Mix.mix hf <| st ((ldW T25 rfl B1 rfl).eq ((rfl:_=Value.agg #[u1,u2]))) <| st (fA U25 rfl T22 rfl) <| st (ld1 T22 rfl B1 rfl) <| st (mv rfl) <| st (aD U22 S45 (isE rfl (vst e h1)) rfl (by omega) (hg0')) <| st (ax U45 rfl T3 (by decide) (Fld.fst Fld.refl) (isR rfl)) <| st (ldI T3 (isR rfl)) <| st (aw (A:=Dv (slE intE) (fun b=>b<N2) Fn) vd rfl rfl (fun v u w he k1 k2=>by cases k1;cases k2;rw[hFn];exact a1s g ok n hnV _ w (vst (e5.tr he) hg0) hl1 hl2 (fun b hb=>Nat.lt_of_lt_of_le hb (Nat.le_trans hN2s he.size)))) ?_
  refine en fun a w e' hf=>?_
  obtain⟨hN2s,e,B1,Ho⟩:=up4 e' hN2s e B1 Ho
  refine tA hf rfl fun a hf=>aa ?_
  replace hf:=hf.keep [1,3,4,5]
  replace hf:=hf.upd 5 rfl (B:=Dv (slE intE) (GO K u) Fn) (fun v h=>Dv.weak h fun b _ hb=>hown b hb)
  refine seq <| rgG 10 Mix.mix hf <| st (mv rfl) <| st (aD (j:=0) U35 S3 (isR rfl) rfl rfl h0) <| st (ldI T3 (isR rfl)) <| st (fA U25 rfl T22 rfl) <| st (ld1 T22 rfl B1 rfl) <| st (mv rfl) <| st (aD U22 S45 (isE rfl (vst e h1)) rfl (by omega) (hg0')) <| st (ax U45 rfl T3 (by decide) (Fld.fst Fld.refl) (isR rfl)) <| st (ldI T3 (isR rfl)) <| st (eql rfl rfl) <| en fun a w e' hf=>?_
  obtain⟨e,B1,Ho⟩:=up3 e' e B1 Ho
  refine aa <| ifc hf rfl (fun hb=>?_) (fun hb=>?_)
  ·have hpn:p n=true:=by rw[hpm];exact decide_eq_true (by have:=of_decide_eq_true (show decide ((m:Int)=(n:Int))=true by simpa using hb);omega)
   rw[if_pos hpn] at hsc
   replace hf:=hf.kp [1,3,4,5]
   have n1:=Ho.neLt (b:=b1) (by omega)
   refine rgN 3 hf <| st (mv rfl) <| st (mv rfl) <| st (aW U39 I35 rfl (by decide) rfl Ho.avs (isR rfl)) <| en fun a w e' hf=>?_
   obtain⟨Ho,e,B1⟩:=up3 e' Ho e B1
   haveI hin:∀G0,InR (GB W G0) _:=OwR.inGB (W:=W) Ho hWN
   refine br U39 I35 rfl rfl hf (by decide) rfl Ho (isR rfl) (by simp only[List.length_singleton];omega) (by simp only[List.length_singleton,maxLen];omega) fun a v w hg hat Hn hf=>?_
   replace e:=e.gro hg (Ho.row (W:=W) hWN)
   have hrow:=Ho.row (W:=W) hWN
   replace Ho:=Hn
   replace B1:=B1.gro hg (by assumption)
   replace Ho:=Hn;clear Hn hg hat hin
   refine tA hf rfl fun a hf=>aa ?_
   rw[← hsc] at Ho
   refine rgN 2 hf <| st (mv rfl) <| st ((add rfl rfl (by omega)).eq (iN k)) <| en fun a w e' hf=>?_
   obtain⟨Ho,e,B1⟩:=up3 e' Ho e B1
   refine tA hf rfl fun a hf=>aa ?_
   replace hf:=hf.keep [1,3,4]
   refine⟨_,?_,k+1,_,rfl,by omega,hf,e,?_⟩
   ·omega
   exact⟨B1,Ho⟩
  ·have hpn:¬p n=true:=by rw[hpm];simp at hb ⊢;omega
   rw[if_neg hpn,List.append_nil] at hsc
   rw[← hsc] at Ho
   refine ah <| rgN 2 hf <| st (mv rfl) <| st ((add rfl rfl (by omega)).eq (iN k)) <| en fun a w e' hf=>?_
   obtain⟨Ho,e,B1⟩:=up3 e' Ho e B1
   refine tA hf rfl fun a hf=>aa ?_
   replace hf:=hf.keep [1,3,4]
   refine⟨_,?_,k+1,_,rfl,by omega,hf,e,?_⟩
   ·omega
   exact⟨B1,Ho⟩
 ·obtain rfl:=dnE hc hk
  rw[show (aj (vset g.1)).take g.1.length=aj (vset g.1) from List.take_of_length_le (Nat.le_of_eq hvl),← hpt] at Ho
  replace hf:=hf.keep [3]
  refine seq <| rgN 1 hf <| st (mv rfl) <| en fun a w e' hf=>?_
  obtain⟨Ho,e⟩:=up2 e' Ho e
  refine tA hf rfl fun a hf=>aa <| ai <| am rfl hf rfl ?_
  rintro _ rfl
  exact⟨_,rfl,e,Ho.sl⟩
theorem a1v {G:Nat→Prop}(xs:List Int)(n:Int)(v:Value)(W:World)(h:(Dv (slE intE) G xs).p v W)(hl:xs.length≤100000) :
  Calls Tryz.prog 77 #[v,I n] W (Post (E (B (decide (n∈xs)))) W):=by
 refine eN [v,I n] [Dv (slE intE) G0 xs,E (I n)] Tryz.func77 Tryz.ntmps77 ?_ fun a hf=>?_
 rotate_left
 rotate_right
 ·exact arg2 (Dv.weak h fun b _ hb=>hb.elim) rfl
 have e:=Ext.rfl' W
 refine seq <| ab <| tA hf rfl fun a hf=>aa ?_
 refine seq <| seq ?_
 refine ab <| tA hf rfl fun a hf=>aa ?_
 replace hf:=hf.keep [0,1,5]
 refine blk (aF (fun r0 a w=>∃(k:Nat) ,r0=xs.length - k∧k≤xs.length∧Fr 18 a w [(0,Dv (slE intE) G0 xs),(1,E (I n)),(5,E (I k))]∧Ext W w∧(∀y∈xs.take k,y≠n)) xs.length ⟨0,rfl,by omega,hf,e,(by simp)⟩ ?_)
 rintro r0 a w ⟨k,rfl,hk,hf,e,hn⟩
 refine seq <| seq ?_
 refine rgN 4 hf <| st (mv rfl) <| st (mv rfl) <| st (aB U35 (isR rfl)) <| st (lss rfl rfl) <| en fun a w e' hf=>?_
 replace e:=e.tr e'
 refine aa <| ifc hf rfl (fun hc=>ah ?_) (fun hc=>aC ?_)
 rotate_left
 rotate_left
 ·have hlt:=ltC hc
  replace hf:=hf.keep [0,1,5]
  refine seq <| blk ?_
  have hx:=cA hlt
  refine seq <| rgN 6 hf <| st (mv rfl) <| st (mv rfl) <| st (aD U35 S3 (isR rfl) rfl (by omega) (hx)) <| st (ldI T3 (isR rfl)) <| st (mv rfl) <| st (eql rfl rfl) <| en fun a w e' hf=>?_
  replace e:=e.tr e'
  refine aa <| ifc hf rfl (fun hb=>?_) (fun hb=>?_)
  ·have hm:n∈xs:=by
    have:gi xs k=n:=by simpa using hb
    rw[← this];exact List.mem_of_getElem? hx
   refine seq <| ab <| tA hf rfl fun a hf=>aa <| ai <| am rfl hf rfl ?_
   rintro _ rfl
   exact⟨_,rfl,e,congrArg B (decide_eq_true hm).symm⟩
  ·refine ah <| rgN 2 hf <| st (mv rfl) <| st ((add rfl rfl (by omega)).eq (iN k)) <| en fun a w e' hf=>?_
   replace e:=e.tr e'
   refine tA hf rfl fun a hf=>aa ?_
   replace hf:=hf.keep [0,1,5]
   refine⟨_,?_,k+1,rfl,by omega,hf,e,?_⟩
   ·omega
   intro y hy
   rw[bs hx] at hy
   rcases List.mem_append.1 hy with hy|hy
   ·exact hn y hy
   ·rw[List.mem_singleton.1 hy];simpa using hb
 ·obtain rfl:=dnE hc hk
  have hm:¬n∈xs:=fun hm=>hn n (by rw[List.take_length];exact hm) rfl
  refine seq <| ab <| tA hf rfl fun a hf=>aa <| ai <| am rfl hf rfl ?_
  rintro _ rfl
  exact⟨_,rfl,e,congrArg B (decide_eq_false hm).symm⟩
def jnF (g:GT)(a b:Int):Bool:=has (vset g.1) a&&has (vset g.1) b&&has (cpt (nbA g) a.toNat) b
abbrev gE:GT:=([],[])
theorem okE:Gr.Ok gE:=by
 constructor <;> first|exact List.Pairwise.nil|(intro x hx;cases hx)|decide
theorem el0:aj (vset gE.1)=[]:=by
 refine List.eq_nil_iff_forall_not_mem.2 fun x hx=>bF x (aL.1 hx).2
theorem sN (a:Int):has (vset gE.1) a=false:=by
 cases h:has (vset gE.1) a with
 | false=>rfl
 | true=>obtain⟨n,_,hn⟩:=fJ h;exact absurd hn (bF n)
theorem a1w (a c:Int):jnF gE a c=false:=by rw[jnF,sN];rfl
theorem sP (a c:Int):dsF gE a c = -1:=by rw[dsF,sN,Bool.false_and,if_neg Bool.false_ne_true]
theorem a1x (a c:Int):spF gE a c=[]:=by rw[spF,if_pos (sP a c)]
theorem a1y:ptF gE=[]:=by rw[ptF,el0];rfl
theorem a1z:cvF gE=[]:=by rw[cvF,el0];rfl
theorem a1A:bccF (nbA gE) (vset gE.1)=[]:=by rw[bccF,el0];rfl
theorem sQ:bpL (nbA gE) (vset gE.1)=[]∧bpB (nbA gE) (vset gE.1)=true:=by decide +kernel
theorem a1B:iI (nbA gE) (vset gE.1)=none:=by decide +kernel
theorem a1C:iF (nbA gE) (vset gE.1) (esN gE)=none:=by decide +kernel
theorem a1D:dmF (nbA gE) (vset gE.1) = -1:=by decide +kernel
theorem a1E {G:Nat→Prop}(g:GT)(ok:Gr.Ok g)(p q:Nat)(v:Value)(W:World)(h:(Dv gtE G g).p v W)(hl2:g.2.length≤100000) :
  Calls Tryz.prog 119 #[v,I (p:Nat),I (q:Nat)] W (Post (E (B ((nbA g (p:Int)).getLsbD q))) W):=by
 have hg0:(Dv gtE G0 g).p v W:=Dv.weak h fun b _ hb=>hb.elim
 obtain⟨u1,u2,rfl,h1,h2⟩:=Dv.gt.1 (Dv.weak (G':=G0) h fun b _ hb=>hb.elim)
 have hfh:decide (ck g.2 (p:Int) (q:Int) ≥ 0)=(nbA g (p:Int)).getLsbD q:=by
  have h1:=lY ok p q
  have h2:=dx ok (i:=p) (j:=q)
  cases hh:(nbA g (p:Int)).getLsbD q with
  | true=>exact decide_eq_true (h1.2 (h2.1 hh))
  | false=>exact decide_eq_false fun h=>by rw[h2.2 (h1.1 h)] at hh;cases hh
 refine eN [.agg #[u1,u2],I (p:Nat),I (q:Nat)] [E (.agg #[u1,u2]),E (I (p:Nat)),E (I (q:Nat))] Tryz.func119 Tryz.ntmps119 ?_ fun a hf=>?_
 rotate_left
 rotate_right
 ·exact dH rfl rfl rfl
 have e:=Ext.rfl' W
 refine seq <| ab <| tB hf rfl fun a b3 w v3 hv3 e' hb3 hs3 B3 hf=>?_
 replace e:=e.tr e'
 refine tA hf rfl fun a hf=>aa ?_
 cases hv3
 replace hf:=hf.keep [1,2,3]
 have e1:=e
 refine seq <| rgN 5 hf <| st ((ldW T25 rfl B3 rfl).eq ((rfl:_=Value.agg #[u1,u2]))) <| st (mv rfl) <| st (mv rfl) <| st (bX (A:=E (I (ck g.2 (p:Int) (q:Int)))) ia rfl rfl rfl (fun v u s w he k1 k2 k3=>by cases k1;cases k2;cases k3;exact jr g _ _ _ w (vst (e1.tr he) hg0) hl2)) ?_
 refine st (geq rfl rfl) <| en fun a w e' hf=>?_
 obtain⟨e,B3⟩:=up2 e' e B3
 refine tA hf rfl fun a hf=>aa <| ai <| am rfl hf rfl ?_
 rintro _ rfl
 exact⟨_,rfl,e,congrArg B (by rw[← hfh])⟩
section
variable {nb:Int→BS}{ids:List Nat}{b f:Nat}{way:List Nat}
end
def lsF:List Nat→List Nat→Bool
 | x::a,y::b=>if x=y then lsF a b else decide (x<y)
 | [],_::_=>true
 | _,[]=>false
theorem mT (w a b:List Nat):lsF (w++a) (w++b)=lsF a b:=by
 induction w with
 | nil=>rfl
 | cons x w ih=>rw[List.cons_append,List.cons_append,lsF,if_pos rfl,ih]
def CyL (nb:Int→BS)(c:List Nat):Prop:=Cyc nb (fun i=>c.getD i 0) c.length
structure CyM (nb:Int→BS)(c:List Nat):Prop where
 cyc:CyL nb c
 min:∀i,0<i→i<c.length→c.getD 0 0<c.getD i 0
 dir:c.getD 1 0<c.getD (c.length - 1) 0
theorem ef {w:List Nat}{x i:Nat}(h:i<w.length):(w++[x]).getD i 0=w.getD i 0:=by rw[List.getD_eq_getElem?_getD,List.getD_eq_getElem?_getD,List.getElem?_append_left h]
theorem ki {w:List Nat}{x i:Nat}(h:i=w.length):(w++[x]).getD i 0=x:=by subst h;simp
theorem gK (w:List Nat):w.getLastD 0=w.getD (w.length - 1) 0:=by
 rw[List.getLastD_eq_getLast?,List.getLast?_eq_getElem?,List.getD_eq_getElem?_getD]
theorem iM {w:List Nat}{i:Nat}(h:i<w.length):w.getD i 0∈w:=by
 rw[List.getD_eq_getElem?_getD,List.getElem?_eq_getElem h];exact List.getElem_mem h
theorem mU {w:List Nat}{x:Nat}(h:x∈w):∃i,i<w.length∧w.getD i 0=x:=by
 obtain⟨i,hi,he⟩:=List.getElem_of_mem h
 exact⟨i,hi,by rw[List.getD_eq_getElem?_getD,List.getElem?_eq_getElem hi,he];rfl⟩
structure Pth (nb:Int→BS)(w:List Nat):Prop where
 inj:∀i j,i<w.length→j<w.length→w.getD i 0=w.getD j 0→i=j
 adj:∀i,i+1<w.length→(nb (w.getD i 0:Nat)).getLsbD (w.getD (i+1) 0)=true
theorem Pth.one (nb:Int→BS)(x:Nat):Pth nb [x]:=⟨fun i j hi hj _=>by rw[List.length_singleton] at hi hj;omega,fun i hi=>by rw[List.length_singleton] at hi;omega⟩
theorem Pth.snoc {nb:Int→BS}{w:List Nat}{x:Nat}(h:Pth nb w)(h0:w≠[])(h1:(nb (w.getLastD 0:Nat)).getLsbD x=true)(h2:x ∉ w):Pth nb (w++[x]):=by
 have hll:(w++[x]).length=w.length+1:=by rw[List.length_append,List.length_singleton]
 refine⟨fun i j hi hj he=>?_,fun i hi=>?_⟩
 ·rw[hll] at hi hj
  by_cases h3:i<w.length <;> by_cases h4:j<w.length
  ·rw[ef h3,ef h4] at he;exact h.inj i j h3 h4 he
  ·rw[ef h3,ki (by omega)] at he;exact absurd (by rw[← he];exact iM h3) h2
  ·rw[ki (by omega),ef h4] at he;exact absurd (by rw[he];exact iM h4) h2
  ·omega
 ·rw[hll] at hi
  by_cases h3:i+1<w.length
  ·rw[ef (by omega),ef h3];exact h.adj i h3
  ·rw[ef (by omega),ki (by omega)]
   rw[gK] at h1
   rwa [show i=w.length - 1 by omega]
theorem Pth.cyc {nb:Int→BS}{w:List Nat}(h:Pth nb w)(h3:3≤w.length)(hl:(nb (w.getLastD 0:Nat)).getLsbD (w.getD 0 0)=true):CyL nb w:=⟨h3,h.inj,h.adj,by rw[gK] at hl;exact hl⟩
def clC (nb:Int→BS)(w:List Nat):List (List Nat):=if (decide (2<w.length)&&((nb (w.getLastD 0:Nat)).getLsbD (w.getD 0 0)&&decide (w.getD 1 0<w.getLastD 0)))=true then [w] else []
def cyS (nb:Int→BS)(F:List Nat→List (List Nat))(w:List Nat)(x:Nat):List (List Nat):=if (decide (w.getD 0 0<x)&&((nb (w.getLastD 0:Nat)).getLsbD x && !w.contains x))=true then F (w++[x]) else []
def cyR (nb:Int→BS)(ids:List Nat):Nat→List Nat→List (List Nat)
 | 0,_=>[]
 | f+1,w=>clC nb w++ids.flatMap (cyS nb (cyR nb ids f) w)
section
variable {nb:Int→BS}{ids:List Nat}
theorem sR:∀(f:Nat) (w:List Nat),w≠[]→Pth nb w→(∀i,0<i→i<w.length→w.getD 0 0<w.getD i 0)→∀c∈cyR nb ids f w,CyM nb c
 | 0,w,_,_,_,c,hc=>by cases hc
 | f+1,w,h0,hp,hm,c,hc=>by
  rw[cyR] at hc
  rcases List.mem_append.1 hc with hc|hc
  ·rw[clC] at hc
   split at hc
   ·rename_i h
    simp only[Bool.and_eq_true,decide_eq_true_eq] at h
    obtain rfl:=List.mem_singleton.1 hc
    exact⟨hp.cyc (by omega) h.2.1,hm,by rw[← gK];exact h.2.2⟩
   ·cases hc
  ·obtain⟨x,hx,hc⟩:=List.mem_flatMap.1 hc
   rw[cyS] at hc
   split at hc
   ·rename_i h
    simp only[Bool.and_eq_true,decide_eq_true_eq,Bool.not_eq_true',← Bool.not_eq_true,List.contains_iff_mem] at h
    have hl:0<w.length:=List.length_pos_iff.2 h0
    refine sR f (w++[x]) (by simp) (hp.snoc h0 h.2.1 h.2.2) (fun i hi hl'=>?_) c hc
    rw[List.length_append,List.length_singleton] at hl'
    rw[ef hl]
    by_cases h3:i<w.length
    ·rw[ef h3];exact hm i hi h3
    ·rw[ki (by omega)];exact h.1
   ·cases hc
theorem fe {c:List Nat}{m i:Nat}(h:i<m):(c.take m).getD i 0=c.getD i 0:=by rw[List.getD_eq_getElem?_getD,List.getD_eq_getElem?_getD,List.getElem?_take,if_pos h]
theorem sS {c:List Nat}{m:Nat}(h:m<c.length):c.take (m+1)=c.take m++[c.getD m 0]:=by
 rw[bs (List.getElem?_eq_getElem h),List.getD_eq_getElem?_getD,List.getElem?_eq_getElem h];rfl
theorem sT {c:List Nat}{m:Nat}(h:m<c.length):(c.take (m+1)).getLastD 0=c.getD m 0:=by
 rw[gK,List.length_take,show min (m+1) c.length - 1=m by omega,fe (by omega)]
theorem a1F {c:List Nat}(h:CyL nb c){m:Nat}(hm:m<c.length):c.getD m 0 ∉ c.take m:=fun hh=>by
 obtain⟨i,hi,he⟩:=mU hh
 rw[List.length_take] at hi
 rw[fe (by omega)] at he
 have:=h.inj i m (by omega) hm he
 omega
theorem sU {c:List Nat}(hc:CyM nb c)(hids:∀x∈c,x∈ids):∀f m,m<c.length→c.length<f+(m+1)→c∈cyR nb ids f (c.take (m+1))
 | 0,m,h1,h2=>by omega
 | f+1,m,h1,h2=>by
  have h3:=hc.cyc.three
  rw[cyR]
  refine List.mem_append.2 ?_
  by_cases hm:m+1=c.length
  ·left
   rw[hm,List.take_length,clC,if_pos]
   ·exact List.mem_singleton.2 rfl
   ·simp only[Bool.and_eq_true,decide_eq_true_eq]
    rw[gK]
    exact⟨by omega,hc.cyc.last,hc.dir⟩
  ·right
   have hx:=iM (w:=c) (i:=m+1) (by omega)
   refine List.mem_flatMap.2 ⟨_,hids _ hx,?_⟩
   rw[cyS,if_pos]
   ·rw[← sS (by omega)]
    exact sU hc hids f (m+1) (by omega) (by omega)
   ·simp only[Bool.and_eq_true,decide_eq_true_eq,Bool.not_eq_true',← Bool.not_eq_true,List.contains_iff_mem]
    rw[sT h1,fe (by omega)]
    exact⟨hc.min _ (by omega) (by omega),hc.cyc.adj m (by omega),a1F hc.cyc (by omega)⟩
end
def cyA (g:GT):List (List Nat):=(aj (vset g.1)).flatMap fun x=>cyR (nbA g) (aj (vset g.1)) g.1.length [x]
theorem sV {g:GT}(ok:Gr.Ok g){c:List Nat}(h:CyL (nbA g) c):∀x∈c,x∈aj (vset g.1):=fun x hx=>by
 obtain⟨i,hi,rfl⟩:=mU hx
 have:(vset g.1).getLsbD (c.getD i 0)=true:=by
  by_cases h1:i+1<c.length
  ·exact (((dx ok).1 (h.adj i h1)).inn ok).1
  ·have:=(((dx ok).1 h.last).inn ok).1
   rwa [show c.length - 1=i by omega] at this
 exact aL.2 ⟨aK this,this⟩
theorem sW {nb:Int→BS}{c:List Nat}(h:CyL nb c):c.Nodup:=List.pairwise_iff_getElem.2 fun i j hi hj hij he=>by
 have:=h.inj i j hi hj (by rw[List.getD_eq_getElem?_getD,List.getD_eq_getElem?_getD,List.getElem?_eq_getElem hi,List.getElem?_eq_getElem hj,he])
 omega
theorem mV {g:GT}(ok:Gr.Ok g){c:List Nat}:c∈cyA g↔CyM (nbA g) c:=by
 constructor
 ·intro h
  obtain⟨x,_,hc⟩:=List.mem_flatMap.1 h
  exact sR _ [x] (by simp) (Pth.one _ x) (fun i hi hl=>by rw[List.length_singleton] at hl;omega) c hc
 ·intro h
  have h3:=h.cyc.three
  have hin:=sV ok h.cyc
  have hlen:c.length≤g.1.length:=by
   have h1:=ed (ae c) (ae (aj (vset g.1))) (List.pairwise_map.2 ((sW h.cyc).imp fun h h'=>h (by omega))) (fun x hx=>by
    obtain⟨y,hy,rfl⟩:=List.mem_map.1 hx
    exact dh.2 (hin y hy))
   rwa [bC,bC,dL,jJ ok] at h1
  have hc:=sU h hin g.1.length 0 (by omega) (by omega)
  rw[sS (by omega),List.take_zero,List.nil_append] at hc
  exact List.mem_flatMap.2 ⟨_,hin _ (iM (by omega)),hc⟩
theorem sX {w:List Nat}{i:Nat}(h:i<w.length):(ae w)[i]?=some ((w.getD i 0:Nat):Int):=by
 rw[ae,List.getElem?_map,List.getElem?_eq_getElem h,List.getD_eq_getElem?_getD,List.getElem?_eq_getElem h];rfl
theorem sY (nb:Int→BS)(w:List Nat):(clC nb w).length≤1:=by
 rw[clC];split
 ·exact Nat.le_refl _
 ·exact Nat.zero_le _
theorem iO {F:Nat→List (List Nat)}{m:Nat}(h:∀x,(F x).length≤m):∀l:List Nat,(l.flatMap F).length≤l.length * m
 | []=>Nat.zero_le _
 | x::l=>by
  rw[List.flatMap_cons,List.length_append,List.length_cons,Nat.succ_mul]
  have:=h x
  have:=iO h l
  omega
theorem kj {nb:Int→BS}{ids:List Nat}(hi:ids.length≤7):∀(f:Nat) (w:List Nat),(cyR nb ids f w).length≤8 ^ f
 | 0,w=>Nat.zero_le _
 | f+1,w=>by
  have h1:=sY nb w
  have h2:=iO (F:=cyS nb (cyR nb ids f) w) (m:=8 ^ f) (fun x=>by
   rw[cyS];split
   ·exact kj hi f _
   ·exact Nat.zero_le _) ids
  have h3:ids.length * 8 ^ f≤7 * 8 ^ f:=Nat.mul_le_mul_right _ hi
  have h4:1≤8 ^ f:=Nat.pos_of_ne_zero (by simp)
  rw[cyR,List.length_append,Nat.pow_succ]
  omega
theorem sZ {f:Nat}(h:f≤7):8 ^ f≤2097152:=Nat.pow_le_pow_right (by decide) h
def cyK (nb:Int→BS)(ids:List Nat)(f:Nat)(w:List Nat)(k:Nat):List (List Nat):=clC nb w++(ids.take k).flatMap (cyS nb (cyR nb ids f) w)
theorem a1G {nb:Int→BS}{ids:List Nat}{f:Nat}{w:List Nat}{k x:Nat}(h:ids[k]?=some x):cyK nb ids f w (k+1)=cyK nb ids f w k++cyS nb (cyR nb ids f) w x:=by
 rw[cyK,cyK,bs h,List.flatMap_append,List.append_assoc];simp
theorem a1H {nb:Int→BS}{ids:List Nat}(hi:ids.length≤7){f:Nat}(hf:f≤6)(w:List Nat)(k:Nat):(cyK nb ids f w k).length≤2097152:=by
 have h1:=sY nb w
 have h2:=iO (F:=cyS nb (cyR nb ids f) w) (m:=8 ^ f) (fun x=>by
  rw[cyS];split
  ·exact kj hi f _
  ·exact Nat.zero_le _) (ids.take k)
 have h3:(ids.take k).length * 8 ^ f≤7 * 8 ^ f:=Nat.mul_le_mul_right _ (Nat.le_trans (List.length_take_le' _ _) hi)
 have h4:8 ^ f≤8 ^ 6:=Nat.pow_le_pow_right (by decide) hf
 rw[cyK,List.length_append]
 omega
theorem a1I (g:GT)(ok:Gr.Ok g)(hl1:g.1.length≤7)(hl2:g.2.length≤100000):∀(f:Nat) (way:List Nat) (v u:Value) (K:Nat→Prop) (W:World),(∀b,K b→b<W.heap.size)→(Dv gtE G0 g).p v W→(Dv (slE intE) G0 (ae way)).p u W→way≠[]→way.Nodup→(∀x∈way,x∈aj (vset g.1))→f≤7→g.1.length<f+way.length →
  Calls Tryz.prog 114 #[v,u] W (Post (Dv (slE (slE intE)) K ((cyR (nbA g) (aj (vset g.1)) f way).map ae)) W):=by
 have hvl:=ez ok
 intro f
 induction f with
 | zero=>
  intro way v u K W hK hg0 hw hne hnd hin hf7 hlt
  have h1:=ed (ae way) (ae (aj (vset g.1))) (List.pairwise_map.2 (hnd.imp fun h h'=>h (by omega))) (fun x hx=>by
   obtain⟨y,hy,rfl⟩:=List.mem_map.1 hx
   exact dh.2 (hin y hy))
  rw[bC,bC] at h1
  omega
 | succ f ih=>
  intro way v u K W hK hg0 hw hne hnd hin hf7 hlt
  obtain⟨u1,u2,rfl,h1,h2⟩:=Dv.gt.1 hg0
  have hW0:(Dv (slE intE) (GB W G0) (ae way)).p u W:=Dv.toB hw
  replace h1:=Dv.toB h1
  have hwl:1≤way.length:=List.length_pos_iff.2 hne
  have hwn:=bC way
  have hwm:way.length≤7:=by
   have h1:=ed (ae way) (ae (aj (vset g.1))) (List.pairwise_map.2 (hnd.imp fun h h'=>h (by omega))) (fun x hx=>by
    obtain⟨y,hy,rfl⟩:=List.mem_map.1 hx
    exact dh.2 (hin y hy))
   rw[bC,bC] at h1
   omega
  obtain⟨last,hlast⟩:=eqX (way.getLastD 0)
  obtain⟨w0,hw0⟩:=eqX (way.getD 0 0)
  have hgl:=mt hne
  have hg0':=sX hwl
  rw[← hlast] at hgl
  rw[← hw0] at hg0'
  obtain⟨ids,hids⟩:=eqX (aj (vset g.1))
  have hidl:ids.length≤7:=by rw[hids,hvl];exact hl1
  rw[← hids] at hin ih hvl ⊢
  obtain⟨C,hC⟩:=eqX (clC (nbA g) way)
  obtain⟨F,hF⟩:=eqX (cyS (nbA g) (cyR (nbA g) ids f) way)
  refine eN [.agg #[u1,u2],u] [E (.agg #[u1,u2]),E u] Tryz.func114 Tryz.ntmps114 ?_ fun a hf=>?_
  rotate_left
  rotate_right
  ·exact arg2 rfl rfl
  have e:=Ext.rfl' W
  refine seq <| ab <| tB hf rfl fun a b2 w v2 hv2 e' hb2 hs2 B2 hf=>?_
  replace e:=e.tr e'
  refine tA hf rfl fun a hf=>aa ?_
  cases hv2
  obtain⟨N1,hN1⟩:=eqX w.heap.size
  have hN1s:N1≤w.heap.size:=Nat.le_of_eq hN1
  have hWN:W.heap.size≤N1:=by rw[hN1];exact e.size
  have lb2:b2<N1:=by rw[hN1];exact B2.lt
  have hKN:∀b,K b→b<N1:=fun b hb=>Nat.lt_of_lt_of_le (hK b hb) hWN
  replace hf:=hf.keep [1,2]
  refine seq <| ab <| tA hf rfl fun a hf=>aa <| seq <| rgN 6 hf <| st (mv rfl) <| st (mv rfl) <| st (aB U35 (isE rfl (vst e hW0))) <| st (sub rfl rfl (by omega)) <| st (aD U35 S3 (isE rfl (vst e hW0)) rfl (by omega) (hgl)) <| st (ldI T3 (isR rfl)) <| en fun a w e' hf=>?_
  obtain⟨hN1s,e,B2⟩:=up3 e' hN1s e B2
  refine tA hf rfl fun a hf=>aa ?_
  replace hf:=hf.keep [1,2,5,6]
  have hn7:∀(p q:Nat) (x:Bool),(nbA g ((p:Nat):Int)).getLsbD q=x→∀(a b c:Value) (W' w':World),Ext W W'→Ext W' w'→a=.agg #[u1,u2]→b=I (p:Nat)→c=I (q:Nat)→Calls Tryz.prog 119 #[a,b,c] w' (Post (E (B x)) w'):=fun p q x hx a b c W' w' e5 he k1 k2 k3=>by
   cases k1;cases k2;cases k3;rw[← hx];exact a1E g ok _ _ _ w' (vst (e5.tr he) hg0) hl2
  obtain⟨cc,hcc⟩:=eqX ((decide (2<way.length)&&((nbA g ((last:Nat):Int)).getLsbD w0&&decide (way.getD 1 0<last))))
  have hCc:C=if cc=true then [way] else []:=by rw[hC,clC,hcc,hlast,hw0]
  refine seq <| seq ?_
  refine cut (J:=fun a w=>Fr 80 a w [(1,E u),(2,E (ptr b2)),(5,E (.slice none 0 0)),(32,E (B cc)),(6,E (I (last:Nat)))]∧Ext W w∧Blk w b2 #[u1,u2] 25∧N1≤w.heap.size) ?_ (fun a w hJ=>?_)
  ·by_cases h2w:2<way.length
   ·rw[decide_eq_true h2w,Bool.true_and] at hcc
    cases hnb:(nbA g ((last:Nat):Int)).getLsbD w0 with
    | false=>
     rw[hnb,Bool.false_and] at hcc
     have hn8:=hn7 _ _ _ hnb
     have e5:=e
     refine rgG 18 Mix.mix hf <| st (mv rfl) <| st (aB U35 (isE rfl (vst e hW0))) <| st ((gtr rfl rfl).eq (congrArg Value.bool ((show decide ((((ae way).length:Nat):Int) > 2)=true from decide_eq_true (by omega))))) <| st (mv rfl) <| sy rfl rfl ((ldW T25 rfl B2 rfl).eq ((rfl:_=Value.agg #[u1,u2]))) <| sy rfl rfl (mv rfl) <| sy rfl rfl (mv rfl) <| sy rfl rfl (aD U35 S3 (isE rfl (vst e hW0)) rfl (by omega) (hg0')) <| sy rfl rfl (ldI T3 (isR rfl)) <| sy rfl rfl (bX (A:=E (B false)) (B:=E (.agg #[u1,u2])) (C:=E (I (last:Nat))) (D:=E (I (w0:Nat))) jm rfl rfl rfl (fun a b c w he k1 k2 k3=>hn8 a b c _ w e5 he k1 k2 k3)) <| st (pkT rfl rfl) <| st (mv rfl) <| sn rfl rfl rfl <| sn rfl rfl rfl <| sn rfl rfl rfl <| sn rfl rfl rfl <| sn rfl rfl rfl <| st (pkF rfl rfl) <| en fun a w e' hf=>?_
     obtain⟨hN1s,e,B2⟩:=up3 e' hN1s e B2
     refine aa ?_
     rw[← hcc] at hf
     replace hf:=hf.keep [1,2,5,32,6]
     exact⟨rfl,hf,e,B2,hN1s⟩
    | true=>
     rw[hnb,Bool.true_and] at hcc
     have hn8:=hn7 _ _ _ hnb
     have e5:=e
     have hg1:=sX (w:=way) (i:=1) (by omega)
     refine rgG 18 Mix.mix hf <| st (mv rfl) <| st (aB U35 (isE rfl (vst e hW0))) <| st ((gtr rfl rfl).eq (congrArg Value.bool ((show decide ((((ae way).length:Nat):Int) > 2)=true from decide_eq_true (by omega))))) <| st (mv rfl) <| sy rfl rfl ((ldW T25 rfl B2 rfl).eq ((rfl:_=Value.agg #[u1,u2]))) <| sy rfl rfl (mv rfl) <| sy rfl rfl (mv rfl) <| sy rfl rfl (aD U35 S3 (isE rfl (vst e hW0)) rfl (by omega) (hg0')) <| sy rfl rfl (ldI T3 (isR rfl)) <| sy rfl rfl (bX (A:=E (B true)) (B:=E (.agg #[u1,u2])) (C:=E (I (last:Nat))) (D:=E (I (w0:Nat))) jm rfl rfl rfl (fun a b c w he k1 k2 k3=>hn8 a b c _ w e5 he k1 k2 k3)) <| st (pkT rfl rfl) <| st (mv rfl) <| sy rfl rfl (mv rfl) <| sy rfl rfl (aD U35 S3 (isE rfl (vst e hW0)) rfl (by omega) (hg1)) <| sy rfl rfl (ldI T3 (isR rfl)) <| sy rfl rfl (mv rfl) <| sy rfl rfl ((lss rfl rfl).eq (congrArg Value.bool ((show decide (((way.getD 1 0:Nat):Int)<((last:Nat):Int))=cc by rw[hcc];exact decide_eq_decide.2 (by omega))))) ?_
     refine st (pkT rfl rfl) <| en fun a w e' hf=>?_
     obtain⟨hN1s,e,B2⟩:=up3 e' hN1s e B2
     refine aa ?_
     replace hf:=hf.keep [1,2,5,32,6]
     exact⟨rfl,hf,e,B2,hN1s⟩
   ·rw[decide_eq_false h2w,Bool.false_and] at hcc
    refine rgG 18 Mix.mix hf <| st (mv rfl) <| st (aB U35 (isE rfl (vst e hW0))) <| st ((gtr rfl rfl).eq (congrArg Value.bool ((show decide ((((ae way).length:Nat):Int) > 2)=false from decide_eq_false (by omega))))) <| st (mv rfl) <| sn rfl rfl rfl <| sn rfl rfl rfl <| sn rfl rfl rfl <| sn rfl rfl rfl <| sn rfl rfl rfl <| sn rfl rfl rfl <| st (pkF rfl rfl) <| st (mv rfl) <| sn rfl rfl rfl <| sn rfl rfl rfl <| sn rfl rfl rfl <| sn rfl rfl rfl <| sn rfl rfl rfl <| st (pkF rfl rfl) <| en fun a w e' hf=>?_
    obtain⟨hN1s,e,B2⟩:=up3 e' hN1s e B2
    refine aa ?_
    rw[← hcc] at hf
    replace hf:=hf.kp [1,2,5,32,6]
    exact⟨rfl,hf,e,B2,hN1s⟩
  obtain⟨hf,e,B2,hN1s⟩:=hJ
  have Ho:OwR (slE intE) 35 N1 K w ([]:List (List Int)) (.slice none 0 0):=OwR.nil (slE intE) _ hN1s hKN
  have hg0s:∀b,GO K (.slice none 0 0) b→b<N1:=fun b hb=>hb.elim (hKN b) fun h=>by cases h
  refine cut (J:=fun a w=>Fr 80 a w [(1,E u),(2,E (ptr b2)),(6,E (I (last:Nat))),(5,OwA (slE intE) 35 N1 K (C.map ae))]∧Ext W w∧Blk w b2 #[u1,u2] 25∧N1≤w.heap.size) ?_ (fun a w hJ=>?_)
  ·cases hc0:cc with
   | true=>
    rw[hc0] at hf hCc
    rw[if_pos rfl] at hCc
    refine ifT hf rfl ?_
    have n2:=Ho.neLt lb2
    have hNa:=hN1s
    refine rgN 5 hf <| st (mv rfl) <| st (qO U35 S3 hNa) <| st (mv rfl) <| st (qP (G:=GB W G0) U35 I3 rfl rfl (isE rfl (vst e hW0)) hNa (by rw[List.length_nil];simp only[maxLen];omega) (by rw[List.length_nil];omega)) ?_
    refine st (aW (e:=slE intE) (G:=GO K (.slice none 0 0)) (z:=[]++ae way) U39 I35 rfl (by decide) rfl (fun b hb=>Nat.lt_of_lt_of_le (hg0s b hb) hNa) ⟨_,rfl,fun v w _ h=>OwR.slN h fun b hb hh=>by have:=(OwR.lt h hb).1;have:=hg0s b hh;omega⟩) ?_
    refine en fun a w e' hf=>?_
    obtain⟨hN1s,Ho,e,B2⟩:=up4 e' hN1s Ho e B2
    replace hf:=hf.kp [1,2,5,6,33,37]
    haveI hin:∀G0,InR (GB W G0) _:=OwR.inGB (W:=W) Ho hWN
    refine br U39 I35 rfl rfl hf (by decide) rfl Ho (isR rfl) (by simp only[List.length_nil,List.length_singleton];omega) (by simp only[List.length_nil,List.length_singleton,maxLen];omega) fun a v w hg hat Hn hf=>?_
    replace e:=e.gro hg (Ho.row (W:=W) hWN)
    have hrow:=Ho.row (W:=W) hWN
    replace hN1s:=Nat.le_trans hN1s hg.size
    replace Ho:=Hn
    replace B2:=B2.gro hg (by assumption)
    replace Ho:=Hn;clear Hn hg hat hin
    refine tA hf rfl fun a hf=>aa ?_
    rw[List.nil_append,List.nil_append] at Ho
    replace hf:=hf.keep [1,2,5,6]
    refine⟨by trivial,?_,e,B2,hN1s⟩
    have hf':=hf.upd (B:=OwA (slE intE) 35 N1 K (C.map ae)) 5 rfl (fun v h=>by cases h;rw[hCc];exact Ho)
    have hf2:=hf'.keep [1,2,6,5]
    exact hf2
   | false=>
    rw[hc0] at hf hCc
    rw[if_neg (by decide)] at hCc
    refine ifF hf rfl ?_
    refine ah ?_
    have hf':=hf.upd (B:=OwA (slE intE) 35 N1 K (C.map ae)) 5 rfl (fun v h=>by cases h;rw[hCc];exact Ho)
    have hf2:=hf'.keep [1,2,6,5]
    exact⟨by trivial,hf2,e,B2,hN1s⟩
  obtain⟨hf,e,B2,hN1s⟩:=hJ
  obtain⟨uo,Ho,hf⟩:=hf.opn 5 rfl
  replace Ho:OwR (slE intE) 35 N1 K w (C.map ae) uo:=Ho
  have hC0:C.map ae=(cyK (nbA g) ids f way 0).map ae:=by rw[cyK,List.take_zero,hC];simp
  rw[hC0] at Ho
  replace hf:=hf.keep [1,2,5,6]
  refine seq <| seq ?_
  refine ab <| tA hf rfl fun a hf=>aa ?_
  replace hf:=hf.keep [1,2,5,6,7]
  refine blk (aF (fun r0 a w=>∃(k:Nat) (uo:Value),r0=g.1.length - k∧k≤g.1.length∧Fr 80 a w [(1,E u),(2,E (ptr b2)),(5,E uo),(6,E (I (last:Nat))),(7,E (I k))]∧Ext W w∧Blk w b2 #[u1,u2] 25∧OwR (slE intE) 35 N1 K w ((cyK (nbA g) ids f way k).map ae) uo) g.1.length ⟨0,uo,rfl,by omega,hf,e,⟨B2,Ho⟩⟩ ?_)
  rintro r0 a w ⟨k,uo,rfl,hk,hf,e,B2,Ho⟩
  refine seq <| seq ?_
  refine rgN 5 hf <| st (mv rfl) <| st (fA U25 rfl T22 rfl) <| st (ld1 T22 rfl B2 rfl) <| st (aB U22 (isE rfl (vst e h1))) <| st (lss rfl rfl) <| en fun a w e' hf=>?_
  obtain⟨e,B2,Ho⟩:=up3 e' e B2 Ho
  refine aa <| ifc hf rfl (fun hc=>ah ?_) (fun hc=>aC ?_)
  rotate_left
  rotate_left
  ·have hlt:=ltC hc
   replace hf:=hf.keep [1,2,5,6,7]
   refine seq <| blk ?_
   have hx0:=List.getElem?_eq_getElem hlt
   generalize g.1[k]=x at hx0
   obtain⟨n,hn,hnV,hen⟩:=kg ok hx0
   rw[← hids] at hen
   obtain⟨x1,x2⟩:=x
   subst hn
   have hsc:=a1G (nb:=nbA g) (f:=f) (w:=way) hen
   have hol:=a1H (nb:=nbA g) hidl (show f≤6 by omega) way (k+1)
   obtain⟨Z,hZ⟩:=eqX (cyS (nbA g) (cyR (nbA g) ids f) way n)
   obtain⟨cn,hcn⟩:=eqX ((decide (w0<n)&&((nbA g ((last:Nat):Int)).getLsbD n && !way.contains n)))
   have hZc:Z=if cn=true then cyR (nbA g) ids f (way++[n]) else []:=by rw[hZ,cyS,hcn,hlast,hw0]
   rw[← hZ] at hsc
   obtain⟨out,hout⟩:=eqX (cyK (nbA g) ids f way k)
   rw[← hout] at hsc Ho
   rw[hsc,List.length_append] at hol
   refine seq <| rgN 6 hf <| st (fA U25 rfl T22 rfl) <| st (ld1 T22 rfl B2 rfl) <| st (mv rfl) <| st (aD U22 S45 (isE rfl (vst e h1)) rfl (by omega) (hx0)) <| st (ax U45 rfl T3 (by decide) (Fld.fst Fld.refl) (isR rfl)) <| st (ldI T3 (isR rfl)) <| en fun a w e' hf=>?_
   obtain⟨e,B2,Ho⟩:=up3 e' e B2 Ho
   refine tA hf rfl fun a hf=>aa ?_
   replace hf:=hf.keep [1,2,5,6,7,8]
   refine seq <| cut (J:=fun a w=>Fr 80 a w [(1,E u),(2,E (ptr b2)),(5,E uo),(6,E (I (last:Nat))),(7,E (I k)),(8,E (I (n:Nat))),(68,E (B cn))]∧Ext W w∧Blk w b2 #[u1,u2] 25∧OwR (slE intE) 35 N1 K w (out.map ae) uo) ?_ (fun a w hJ=>?_)
   ·by_cases h0n:w0<n
    ·rw[decide_eq_true h0n,Bool.true_and] at hcn
     cases hnb:(nbA g ((last:Nat):Int)).getLsbD n with
     | false=>
      rw[hnb,Bool.false_and] at hcn
      have hn8:=hn7 _ _ _ hnb
      have e5:=e
      refine rgN 17 hf <| st (mv rfl) <| st (mv rfl) <| st (aD U35 S3 (isE rfl (vst e hW0)) rfl (by omega) (hg0')) <| st (ldI T3 (isR rfl)) <| st ((gtr rfl rfl).eq (congrArg Value.bool ((show decide (((n:Nat):Int) > ((w0:Nat):Int))=true from decide_eq_true (by omega))))) <| st (mv rfl) <| sy rfl rfl ((ldW T25 rfl B2 rfl).eq ((rfl:_=Value.agg #[u1,u2]))) <| sy rfl rfl (mv rfl) <| sy rfl rfl (mv rfl) <| sy rfl rfl (bX (A:=E (B false)) (B:=E (.agg #[u1,u2])) (C:=E (I (last:Nat))) (D:=E (I (n:Nat))) jm rfl rfl rfl (fun a b c w he k1 k2 k3=>hn8 a b c _ w e5 he k1 k2 k3)) <| st (pkT rfl rfl) <| st (mv rfl) <| sn rfl rfl rfl <| sn rfl rfl rfl <| sn rfl rfl rfl <| sn rfl rfl rfl <| st (pkF rfl rfl) <| en fun a w e' hf=>?_
      obtain⟨e,B2,Ho⟩:=up3 e' e B2 Ho
      refine aa ?_
      rw[← hcn] at hf
      replace hf:=hf.keep [1,2,5,6,7,8,68]
      exact⟨rfl,hf,e,B2,Ho⟩
     | true=>
      rw[hnb,Bool.true_and] at hcn
      have hn8:=hn7 _ _ _ hnb
      have e5:=e
      refine rgN 17 hf <| st (mv rfl) <| st (mv rfl) <| st (aD U35 S3 (isE rfl (vst e hW0)) rfl (by omega) (hg0')) <| st (ldI T3 (isR rfl)) <| st ((gtr rfl rfl).eq (congrArg Value.bool ((show decide (((n:Nat):Int) > ((w0:Nat):Int))=true from decide_eq_true (by omega))))) <| st (mv rfl) <| sy rfl rfl ((ldW T25 rfl B2 rfl).eq ((rfl:_=Value.agg #[u1,u2]))) <| sy rfl rfl (mv rfl) <| sy rfl rfl (mv rfl) <| sy rfl rfl (bX (A:=E (B true)) (B:=E (.agg #[u1,u2])) (C:=E (I (last:Nat))) (D:=E (I (n:Nat))) jm rfl rfl rfl (fun a b c w he k1 k2 k3=>hn8 a b c _ w e5 he k1 k2 k3)) <| st (pkT rfl rfl) <| st (mv rfl) <| sy rfl rfl (mv rfl) <| sy rfl rfl (mv rfl) <| sy rfl rfl (aw (A:=E (B (way.contains n))) (B:=E u) (C:=E (I (n:Nat))) vc rfl rfl (fun v s w' he k1 k2=>by cases k1;cases k2;have:=a1v (ae way) (n:Int) u w' (vst (e5.tr he) hW0) (by omega);rwa [show decide ((n:Int)∈ae way)=way.contains n by rw[Bool.eq_iff_iff,decide_eq_true_eq,dh,List.contains_iff_mem]] at this)) ?_
      refine sy rfl rfl ((aY rfl).eq (congrArg Value.bool (hcn.symm))) <| st (pkT rfl rfl) <| en fun a w e' hf=>?_
      obtain⟨e,B2,Ho⟩:=up3 e' e B2 Ho
      refine aa ?_
      replace hf:=hf.keep [1,2,5,6,7,8,68]
      exact⟨rfl,hf,e,B2,Ho⟩
    ·rw[decide_eq_false h0n,Bool.false_and] at hcn
     refine rgN 17 hf <| st (mv rfl) <| st (mv rfl) <| st (aD U35 S3 (isE rfl (vst e hW0)) rfl (by omega) (hg0')) <| st (ldI T3 (isR rfl)) <| st ((gtr rfl rfl).eq (congrArg Value.bool ((show decide (((n:Nat):Int) > ((w0:Nat):Int))=false from decide_eq_false (by omega))))) <| st (mv rfl) <| sn rfl rfl rfl <| sn rfl rfl rfl <| sn rfl rfl rfl <| sn rfl rfl rfl <| st (pkF rfl rfl) <| st (mv rfl) <| sn rfl rfl rfl <| sn rfl rfl rfl <| sn rfl rfl rfl <| sn rfl rfl rfl <| st (pkF rfl rfl) <| en fun a w e' hf=>?_
     obtain⟨e,B2,Ho⟩:=up3 e' e B2 Ho
     refine aa ?_
     rw[← hcn] at hf
     replace hf:=hf.keep [1,2,5,6,7,8,68]
     exact⟨rfl,hf,e,B2,Ho⟩
   obtain⟨hf,e,B2,Ho⟩:=hJ
   cases hc0:cn with
   | false=>
    rw[hc0] at hf hZc
    rw[if_neg (by decide)] at hZc
    rw[hZc,List.append_nil] at hsc
    refine ifF hf rfl ?_
    refine ah <| rgN 2 hf <| st (mv rfl) <| st ((add rfl rfl (by omega)).eq (iN k)) <| en fun a w e' hf=>?_
    obtain⟨e,B2,Ho⟩:=up3 e' e B2 Ho
    refine tA hf rfl fun a hf=>aa ?_
    replace hf:=hf.kp [1,2,5,6,7]
    refine⟨_,?_,k+1,uo,rfl,by omega,hf,e,?_⟩
    ·omega
    exact⟨B2,by rw[hsc];exact Ho⟩
   | true=>
    rw[hc0] at hf
    rw[hc0,if_pos rfl] at hZc
    have hnw:n ∉ way:=fun hh=>by rw[hc0,List.contains_iff_mem.2 hh] at hcn;simp at hcn
    refine ifT hf rfl ?_
    replace hf:=hf.kp [1,2,5,6,7,8]
    obtain⟨N2,hN2⟩:=eqX w.heap.size
    have hN2s:N2≤w.heap.size:=Nat.le_of_eq hN2
    have hWN2:W.heap.size≤N2:=by rw[hN2];exact e.size
    have hl2':b2<N2:=by rw[hN2];exact B2.lt
    have hown:∀b,GO K uo b→b<N2:=fun b hb=>by
     rcases hb with hb|hb
     ·have:=hKN b hb;have:=Ho.base;omega
     ·have:=(Ho.lt hb).2;omega
    haveI i1:InS (GB W G0) (fun b=>N2≤b):=⟨fun b hb=>.inr (Nat.le_trans hWN2 hb)⟩
    have e6:=e
    refine cF 9 [1,1,0,0,0,0,0] (Chg (fun b=>N2≤b)) (bS.chg _) (fun w=>True) (fun w w1 k h=>trivial) Mix.mix hf (by decide +kernel) (by decide +kernel) <| jf (fun w1 h1=>mv rfl) <| jf (fun w1 h1=>((ldW T25 rfl (B2.ch h1 (by omega)) rfl)).eq ((rfl:_=Value.agg #[u1,u2]))) <| ja (qO U35 S3 hN2s) <| ja (mv rfl) <| ja (qP (G:=GB W G0) U35 I3 rfl rfl (isE rfl (vst e hW0)) hN2s (by rw[List.length_nil];simp only[maxLen];omega) (by rw[List.length_nil];omega)) ?_
    refine ja (mv rfl) <| ja (aW (e:=intE) (G:=G0) U35 I3 rfl (by decide) rfl (fun b hb=>hb.elim) (isI rfl)) <| jx (lE (G':=G0) U35 I3 rfl rfl rfl (isR rfl) (by simp only[List.length_singleton,List.nil_append];omega) (by simp only[List.length_singleton,List.nil_append,maxLen];omega) (fun _ _ _ _=>trivial) (fun _ _=>trivial)) ?_
    refine jp (fun w1 h1 HF1=>aw (A:=Dv (slE (slE intE)) (GO K uo) ((cyR (nbA g) ids f (way++[n])).map ae)) (B:=E (.agg #[u1,u2])) (C:=OwA intE 3 N2 (fun _=>False) ([]++ae way++[(n:Int)])) oD rfl rfl (fun x y w' he k1 k2=>by cases k1;exact ih (way++[n]) _ y (GO K uo) w' (fun b hb=>by have:=hown b hb;have:=h1.size;have:=he.size;omega) (vst he (vst ⟨h1.os,h1.tape,h1.output,h1.size,fun b hb=>h1.block b hb (by omega)⟩ (vst e6 hg0))) (by rw[gw];rw[List.nil_append] at k2;exact OwR.slN k2 fun b hb hh=>hh.elim) (by simp) (List.nodup_append.2 ⟨hnd,List.nodup_cons.2 ⟨by simp,List.nodup_nil⟩,fun a ha b hb hab=>by rw[List.mem_singleton] at hb;subst hb;subst hab;exact hnw ha⟩) (fun y hy=>(List.mem_append.1 hy).elim (hin y) fun hy=>by rw[List.mem_singleton.1 hy];exact List.mem_of_getElem? hen) (by omega) (by rw[List.length_append,List.length_singleton];omega))) ?_
    refine je <| fun a w hc HF hf=>?_
    try dsimp only[push] at hf
    have e':Ext _ w:=⟨hc.os,hc.tape,hc.output,hc.size,fun b hb=>hc.block b hb (by omega)⟩
    replace e:=e.tr e';replace B2:=B2.ext e';replace Ho:=Ho.ext e'
    rw[← hZc] at hf
    replace hf:=hf.kp [1,2,6,7,8,69,77]
    have n2:=Ho.neLt lb2
    haveI hin:∀G0,InR (GB W G0) _:=OwR.inGB (W:=W) Ho hWN
    refine br U39 I35 rfl rfl hf (by decide) rfl Ho (isR rfl) (by simp only[List.length_map];omega) (by simp only[List.length_map,maxLen];omega) fun a v w hg hat Hn hf=>?_
    replace e:=e.gro hg (Ho.row (W:=W) hWN)
    have hrow:=Ho.row (W:=W) hWN
    replace Ho:=Hn
    replace B2:=B2.gro hg (by assumption)
    replace Ho:=Hn;clear Hn hg hat hin
    refine tA hf rfl fun a hf=>aa ?_
    rw[← List.map_append,← hsc] at Ho
    refine rgN 2 hf <| st (mv rfl) <| st ((add rfl rfl (by omega)).eq (iN k)) <| en fun a w e' hf=>?_
    obtain⟨Ho,e,B2⟩:=up3 e' Ho e B2
    refine tA hf rfl fun a hf=>aa ?_
    replace hf:=hf.kp [1,2,5,6,7]
    refine⟨_,?_,k+1,_,rfl,by omega,hf,e,?_⟩
    ·omega
    exact⟨B2,Ho⟩
  ·obtain rfl:=dnE hc hk
   rw[show cyK (nbA g) ids f way g.1.length=cyR (nbA g) ids (f+1) way by rw[cyK,cyR,List.take_of_length_le (Nat.le_of_eq hvl)]] at Ho
   replace hf:=hf.kp [5]
   refine seq <| rgN 1 hf <| st (mv rfl) <| en fun a w e' hf=>?_
   obtain⟨Ho,e⟩:=up2 e' Ho e
   refine tA hf rfl fun a hf=>aa <| ai <| am rfl hf rfl ?_
   rintro _ rfl
   exact⟨_,rfl,e,Ho.sl⟩
theorem a1J {G K:Nat→Prop}(g:GT)(ok:Gr.Ok g)(v:Value)(W:World)(h:(Dv gtE G g).p v W)(hl1:g.1.length≤7)(hl2:g.2.length≤100000)(hK:∀b,K b→b<W.heap.size) :
  Calls Tryz.prog 68 #[v] W (Post (Dv (slE (slE intE)) K ((cyA g).map ae)) W):=by
 have hg0:(Dv gtE G0 g).p v W:=Dv.weak h fun b _ hb=>hb.elim
 obtain⟨u1,u2,rfl,h1,h2⟩:=Dv.gt.1 hg0
 replace h1:=Dv.toB h1
 have hvl:=ez ok
 obtain⟨ids,hids⟩:=eqX (aj (vset g.1))
 obtain⟨F,hF⟩:=eqX (fun x=>cyR (nbA g) ids g.1.length [x]:Nat→List (List Nat))
 have hcy:cyA g=ids.flatMap F:=by rw[hF,hids];rfl
 rw[← hids] at hvl
 rw[hcy]
 have hFl:∀k,((ids.take k).flatMap F).length≤14680064:=fun k=>by
  have h1:=iO (F:=F) (m:=8 ^ g.1.length) (fun x=>by rw[hF];exact kj (by omega) _ _) (ids.take k)
  have h2:(ids.take k).length * 8 ^ g.1.length≤7 * 8 ^ g.1.length:=Nat.mul_le_mul_right _ (Nat.le_trans (List.length_take_le' _ _) (by omega))
  have h3:=sZ hl1
  omega
 refine eN [.agg #[u1,u2]] [E (.agg #[u1,u2])] Tryz.func68 Tryz.ntmps68 ?_ fun a hf=>?_
 rotate_left
 rotate_right
 ·exact arg1 rfl
 have e:=Ext.rfl' W
 refine seq <| ab <| tB hf rfl fun a b1 w v1 hv1 e' hb1 hs1 B1 hf=>?_
 replace e:=e.tr e'
 refine tA hf rfl fun a hf=>aa ?_
 cases hv1
 obtain⟨N1,hN1⟩:=eqX w.heap.size
 have hN1s:N1≤w.heap.size:=Nat.le_of_eq hN1
 have hWN:W.heap.size≤N1:=by rw[hN1];exact e.size
 have lb1:b1<N1:=by rw[hN1];exact B1.lt
 have hKN:∀b,K b→b<N1:=fun b hb=>Nat.lt_of_lt_of_le (hK b hb) hWN
 replace hf:=hf.keep [1]
 refine seq <| ab <| tA hf rfl fun a hf=>aa ?_
 refine seq <| seq ?_
 refine ab <| tA hf rfl fun a hf=>aa ?_
 have Ho:OwR (slE intE) 35 N1 K w (((ids.take 0).flatMap F).map ae) (.slice none 0 0):=OwR.nil (slE intE) _ hN1s hKN
 replace hf:=hf.keep [1,3,4]
 refine blk (aF (fun r0 a w=>∃(k:Nat) (uo:Value),r0=g.1.length - k∧k≤g.1.length∧Fr 24 a w [(1,E (ptr b1)),(3,E uo),(4,E (I k))]∧Ext W w∧Blk w b1 #[u1,u2] 25∧OwR (slE intE) 35 N1 K w (((ids.take k).flatMap F).map ae) uo) g.1.length ⟨0,.slice none 0 0,rfl,by omega,hf,e,⟨B1,Ho⟩⟩ ?_)
 rintro r0 a w ⟨k,uo,rfl,hk,hf,e,B1,Ho⟩
 refine seq <| seq ?_
 refine rgN 5 hf <| st (mv rfl) <| st (fA U25 rfl T22 rfl) <| st (ld1 T22 rfl B1 rfl) <| st (aB U22 (isE rfl (vst e h1))) <| st (lss rfl rfl) <| en fun a w e' hf=>?_
 obtain⟨e,B1,Ho⟩:=up3 e' e B1 Ho
 refine aa <| ifc hf rfl (fun hc=>ah ?_) (fun hc=>aC ?_)
 rotate_left
 rotate_left
 ·have hlt:=ltC hc
  replace hf:=hf.keep [1,3,4]
  refine seq <| blk ?_
  have hx0:=List.getElem?_eq_getElem hlt
  generalize g.1[k]=x at hx0
  obtain⟨n,hn,hnV,hen⟩:=kg ok hx0
  rw[← hids] at hen
  obtain⟨x1,x2⟩:=x
  subst hn
  have hsc:(ids.take (k+1)).flatMap F=(ids.take k).flatMap F++F n:=by rw[bs hen,List.flatMap_append];simp
  have hol:=hFl (k+1)
  obtain⟨out,hout⟩:=eqX ((ids.take k).flatMap F)
  rw[← hout] at hsc Ho
  rw[hsc,List.length_append] at hol
  obtain⟨N2,hN2⟩:=eqX w.heap.size
  have hown:∀b,GO K uo b→b<N2:=fun b hb=>by
   rcases hb with hb|hb
   ·have:=hKN b hb;have:=Ho.base;omega
   ·have:=(Ho.lt hb).2;omega
  have hN2s:N2≤w.heap.size:=Nat.le_of_eq hN2
  have e5:=e
  have n1:=Ho.neLt lb1
  refine rgG 10 Mix.mix hf <| st (mv rfl) <| st ((ldW T25 rfl B1 rfl).eq ((rfl:_=Value.agg #[u1,u2]))) <| st (fA U25 rfl T22 rfl) <| st (ld1 T22 rfl B1 rfl) <| st (mv rfl) <| st (aD U22 S45 (isE rfl (vst e h1)) rfl (by omega) (hx0)) <| st (ax U45 rfl T3 (by decide) (Fld.fst Fld.refl) (isR rfl)) <| st (ldI T3 (isR rfl)) <| st (aW (e:=intE) (G:=G0) U35 I3 rfl (by decide) rfl (fun b hb=>hb.elim) (isI rfl)) <| st (aw (A:=Dv (slE (slE intE)) (GO K uo) ((F n).map ae)) (B:=E (.agg #[u1,u2])) (C:=Dv (slE intE) G0 [(n:Int)]) oD rfl rfl (fun x y w' he k1 k2=>by cases k1;rw[hF,hids];exact a1I g ok hl1 hl2 g.1.length [n] _ y (GO K uo) w' (fun b hb=>by have:=hown b hb;have:=he.size;omega) (vst (e5.tr he) hg0) k2 (by simp) (by simp) (fun y hy=>by rw[List.mem_singleton.1 hy];exact aL.2 ⟨aK hnV,hnV⟩) hl1 (by simp))) ?_
  refine en fun a w e' hf=>?_
  obtain⟨Ho,e,B1⟩:=up3 e' Ho e B1
  replace hf:=hf.kp [1,3,4,12,21]
  haveI hin:∀G0,InR (GB W G0) _:=OwR.inGB (W:=W) Ho hWN
  refine br U39 I35 rfl rfl hf (by decide) rfl Ho (isR rfl) (by simp only[List.length_map];omega) (by simp only[List.length_map,maxLen];omega) fun a v w hg hat Hn hf=>?_
  replace e:=e.gro hg (Ho.row (W:=W) hWN)
  have hrow:=Ho.row (W:=W) hWN
  replace Ho:=Hn
  replace B1:=B1.gro hg (by assumption)
  replace Ho:=Hn;clear Hn hg hat hin
  refine tA hf rfl fun a hf=>aa ?_
  rw[← List.map_append,← hsc] at Ho
  refine rgN 2 hf <| st (mv rfl) <| st ((add rfl rfl (by omega)).eq (iN k)) <| en fun a w e' hf=>?_
  obtain⟨Ho,e,B1⟩:=up3 e' Ho e B1
  refine tA hf rfl fun a hf=>aa ?_
  replace hf:=hf.keep [1,3,4]
  refine⟨_,?_,k+1,_,rfl,by omega,hf,e,?_⟩
  ·omega
  exact⟨B1,Ho⟩
 ·obtain rfl:=dnE hc hk
  rw[List.take_of_length_le (Nat.le_of_eq hvl)] at Ho
  replace hf:=hf.keep [3]
  refine seq <| rgN 1 hf <| st (mv rfl) <| en fun a w e' hf=>?_
  obtain⟨Ho,e⟩:=up2 e' Ho e
  refine tA hf rfl fun a hf=>aa <| ai <| am rfl hf rfl ?_
  rintro _ rfl
  exact⟨_,rfl,e,Ho.sl⟩
theorem a1K {a b:List Nat}{k x y:Nat}(h:a.take k=b.take k)(hx:a[k]?=some x)(hy:b[k]?=some y)(hne:x≠y):lsF a b=decide (x<y):=by
 obtain⟨h1,h2⟩:=List.getElem?_eq_some_iff.1 hx
 obtain⟨h3,h4⟩:=List.getElem?_eq_some_iff.1 hy
 rw[← List.take_append_drop k a,← List.take_append_drop k b,h,mT,List.drop_eq_getElem_cons h1,List.drop_eq_getElem_cons h3,h2,h4,lsF,if_neg hne]
theorem a1L {a b:List Nat}(h:a.take (min a.length b.length)=b.take (min a.length b.length)):lsF a b=decide (a.length<b.length):=by
 by_cases hl:a.length<b.length
 ·rw[Nat.min_eq_left (by omega),List.take_length] at h
  have h1:=List.take_append_drop a.length b
  rw[← h] at h1
  have h2:lsF (a++[]) (a++b.drop a.length)=lsF [] (b.drop a.length):=mT _ _ _
  rw[List.append_nil,h1] at h2
  rw[h2,decide_eq_true hl,List.drop_eq_getElem_cons hl,lsF]
 ·rw[Nat.min_eq_right (by omega),List.take_length] at h
  have h1:=List.take_append_drop b.length a
  rw[h] at h1
  have h2:lsF (b++a.drop b.length) (b++[])=lsF (a.drop b.length) []:=mT _ _ _
  rw[List.append_nil,h1] at h2
  rw[h2,decide_eq_false hl]
  cases a.drop b.length <;> rfl
theorem fM {a:List Nat}{k x:Nat}(h:a[k]?=some x):(ae a)[k]?=some (x:Int):=by rw[ae,List.getElem?_map,h];rfl
theorem a1M {G G':Nat→Prop}(p q:List Nat)(v u:Value)(W:World)(h:(Dv (slE intE) G (ae p)).p v W)(h':(Dv (slE intE) G' (ae q)).p u W)(hl:p.length≤100000)(hl':q.length≤100000) :
  Calls Tryz.prog 71 #[v,u] W (Post (E (B (lsF p q))) W):=by
 refine eN [v,u] [Dv (slE intE) G0 (ae p),Dv (slE intE) G0 (ae q)] Tryz.func71 Tryz.ntmps71 ?_ fun a hf=>?_
 rotate_left
 rotate_right
 ·exact arg2 (Dv.weak h fun b _ hb=>hb.elim) (Dv.weak h' fun b _ hb=>hb.elim)
 have e:=Ext.rfl' W
 have hpn:=bC p
 have hqn:=bC q
 obtain⟨m,hm⟩:=eqX (min p.length q.length)
 have hcd:∀k:Nat,(decide ((k:Int)<(((ae p).length:Nat):Int))&&decide ((k:Int)<(((ae q).length:Nat):Int)))=decide (k<m):=fun k=>by
  rw[Bool.eq_iff_iff,Bool.and_eq_true,decide_eq_true_eq,decide_eq_true_eq,decide_eq_true_eq];omega
 refine seq <| ab <| tA hf rfl fun a hf=>aa ?_
 refine seq <| seq ?_
 refine ab <| tA hf rfl fun a hf=>aa ?_
 replace hf:=hf.keep [0,1,5]
 refine blk (aF (fun r0 a w=>∃(k:Nat) ,r0=m - k∧k≤m∧Fr 41 a w [(0,Dv (slE intE) G0 (ae p)),(1,Dv (slE intE) G0 (ae q)),(5,E (I k))]∧Ext W w∧p.take k=q.take k) m ⟨0,rfl,by omega,hf,e,rfl⟩ ?_)
 rintro r0 a w ⟨k,rfl,hk,hf,e,ht⟩
 refine seq <| seq ?_
 refine rgN 10 hf <| st (mv rfl) <| st (mv rfl) <| st (aB U35 (isR rfl)) <| st (lss rfl rfl) <| st (mv rfl) <| sgE rfl rfl (.k 5 rfl .n) (fun hgd=>mv rfl) <| sgE rfl rfl (.k 1 rfl .n) (fun hgd=>mv rfl) <| sgE rfl rfl (.c 12 rfl (fun h=>h) .n) (fun hgd=>aB U35 (isR rfl)) <| sgE rfl rfl (.c 11 rfl (fun h=>h) (.c 13 rfl (fun h=>h) .n)) (fun hgd=>lss rfl rfl) <| st ((bA rfl rfl (fun h=>by rw[h];rfl)).eq (congrArg Value.bool (hcd k))) ?_
 refine en fun a w e' hf=>?_
 replace e:=e.tr e'
 refine aa <| ifc hf rfl (fun hc=>ah ?_) (fun hc=>aC ?_)
 rotate_left
 rotate_left
 ·have hlt:k<m:=by have:=of_decide_eq_true hc;(try dsimp only at this);omega
  replace hf:=hf.keep [0,1,5]
  refine seq <| blk ?_
  have hx:=List.getElem?_eq_getElem (show k<p.length by omega)
  have hy:=List.getElem?_eq_getElem (show k<q.length by omega)
  generalize p[k]=x at hx
  generalize q[k]=y at hy
  refine seq <| rgG 9 Mix.mix hf <| st (mv rfl) <| st (mv rfl) <| st (aD U35 S3 (isR rfl) rfl (by omega) (fM hx)) <| st (ldI T3 (isR rfl)) <| st (mv rfl) <| st (mv rfl) <| st (aD U35 S3 (isR rfl) rfl (by omega) (fM hy)) <| st (ldI T3 (isR rfl)) <| st (neq rfl rfl) <| en fun a w e' hf=>?_
  replace e:=e.tr e'
  refine aa ?_
  by_cases hxy:x=y
  ·repeat refine seq ?_
   refine ifc hf rfl (fun hb=>?_) (fun hb=>?_)
   ·subst hxy;simp at hb
   ·refine ah <| rgN 2 hf <| st (mv rfl) <| st ((add rfl rfl (by omega)).eq (iN k)) <| en fun a w e' hf=>?_
    replace e:=e.tr e'
    refine tA hf rfl fun a hf=>aa ?_
    replace hf:=hf.keep [0,1,5]
    refine⟨_,?_,k+1,rfl,by omega,hf,e,?_⟩
    ·omega
    rw[bs hx,bs hy,ht,hxy]
  ·repeat refine seq ?_
   refine ifc hf rfl (fun hb=>?_) (fun hb=>?_)
   ·refine seq <| rgG 9 Mix.mix hf <| st (mv rfl) <| st (mv rfl) <| st (aD U35 S3 (isR rfl) rfl (by omega) (fM hx)) <| st (ldI T3 (isR rfl)) <| st (mv rfl) <| st (mv rfl) <| st (aD U35 S3 (isR rfl) rfl (by omega) (fM hy)) <| st (ldI T3 (isR rfl)) <| st (lss rfl rfl) <| en fun a w e' hf=>?_
    replace e:=e.tr e'
    refine tA hf rfl fun a hf=>aa <| ai <| am rfl hf rfl ?_
    rintro _ rfl
    exact⟨_,rfl,e,congrArg B (by rw[a1K ht hx hy hxy];exact decide_eq_decide.2 (by omega))⟩
   ·have h9:(x:Int)=y:=by simpa using hb
    exact absurd (by omega) hxy
 ·obtain rfl:k=m:=by have:=of_decide_eq_false hc;(try dsimp only at this);omega
  refine seq <| rgN 5 hf <| st (mv rfl) <| st (aB U35 (isR rfl)) <| st (mv rfl) <| st (aB U35 (isR rfl)) <| st (lss rfl rfl) <| en fun a w e' hf=>?_
  replace e:=e.tr e'
  refine tA hf rfl fun a hf=>aa ?_
  rw[hm] at ht
  refine ai <| am rfl hf rfl ?_
  rintro _ rfl
  exact⟨_,rfl,e,congrArg B (by rw[a1L ht];exact decide_eq_decide.2 (by omega))⟩
theorem a1N {g:GT}(ok:Gr.Ok g)(hl1:g.1.length≤7):(cyA g).length≤100000000∧∀c∈cyA g,c≠[]∧c.length≤100000:=by
 constructor
 ·have h1:=iO (F:=fun x=>cyR (nbA g) (aj (vset g.1)) g.1.length [x]) (m:=8 ^ g.1.length) (fun x=>kj (by rw[ez ok];exact hl1) _ _) (aj (vset g.1))
  rw[ez ok] at h1
  have h2:g.1.length * 8 ^ g.1.length≤7 * 8 ^ g.1.length:=Nat.mul_le_mul_right _ hl1
  have h3:=sZ hl1
  show (List.flatMap _ _).length≤_
  omega
 ·intro c hc
  have hM:=(mV ok).1 hc
  have h3:=hM.cyc.three
  have h1:=ed (ae c) (ae (aj (vset g.1))) (List.pairwise_map.2 ((sW hM.cyc).imp fun h h'=>h (by omega))) (fun x hx=>by
   obtain⟨y,hy,rfl⟩:=List.mem_map.1 hx
   exact dh.2 (sV ok hM.cyc y hy))
  rw[bC,bC,ez ok] at h1
  exact⟨fun h=>by rw[h] at h3;simp at h3,by omega⟩
end Go.Mono
