/-
  Walks of functions and plain facts.
  No condition.
-/
import Derived.Test.YtiakihcolhopoaaGreatDoorEB
import Derived.Maps.RangeWalk
import Derived.Test.YtiakihcolhopoaaGreatDoorEA
set_option linter.unusedVariables false
set_option linter.unusedSimpArgs false
namespace Go.Mono
open Go Go.Proofs Go.RowKit Go.Gr
def thV (c:Int×Int):Value:=.agg #[.int .u8 c.1,.int .i64 c.2]
def okT (c:Int×Int):Prop:=(Lit.int .u8 c.1).wf=true∧(Lit.int .i64 c.2).wf=true
def thD (c:Int×Int):DataW Unit:=.agg [.lit (.int .u8 c.1),.lit (.int .i64 c.2)]
theorem wk {c c':Int×Int}(h:thV c=thV c'):c=c':=by cases c;cases c';cases h;rfl
open Classical in
noncomputable def thR (v:Value):Option (DataW Unit×List MemPlace):=if h:∃c,okT c∧v=thV c then some (thD (Classical.choose h),[]) else none
theorem oP {c:Int×Int}(hc:okT c):thR (thV c)=some (thD c,[]):=by
 have h:∃c',okT c'∧thV c=thV c':=⟨c,hc,rfl⟩
 unfold thR
 rw[dif_pos h,← wk (Classical.choose_spec h).2]
theorem oQ {v:Value}{y:DataW Unit×List MemPlace}(h:thR v=some y):∃c,okT c∧v=thV c∧y=(thD c,[]):=by
 unfold thR at h
 split at h
 ·rename_i hx;cases h;exact⟨_,(Classical.choose_spec hx).1,(Classical.choose_spec hx).2,rfl⟩
 ·cases h
noncomputable def vKV:KV Tryz.prog Int (Int×Int) where
 k:=3
 e:=107
 kv:=fun x=>.int .i64 x
 kl:=fun x=>.int .i64 x
 ok:=fun x=>(Lit.int .i64 x).wf=true
 mv:=thV
 dv:=thD
 okv:=okT
 R:=thR
 K:=Maps.int_keyed U3
 key:=fun x hx=>Maps.keyOf_int_mk U3 hx
 keyInv:=fun v l h=>by obtain⟨x,h1,h2,h3⟩:=Maps.keyOf_int_inv U3 h;exact⟨x,h3,h1,h2⟩
 kvInj:=fun x y h=>by cases h;rfl
 val:=fun c hc=>oP hc
 valInv:=fun v y h=>oQ h
 dvInj:=fun c c' h=>by cases c;cases c';cases h;rfl
theorem wl:Tryz.prog.keyType 114=true:=by kernel_rfl
theorem oR:Tryz.prog.cellsOf 114=2:=by kernel_rfl
theorem oS:Tryz.prog.cellsOf 3=1:=by kernel_rfl
theorem wm:Tryz.prog.types.size=(Tryz.prog.types.size - 1)+1:=by kernel_rfl
theorem laidOut:laidOutB Tryz.prog=true:=by kernel_rfl
theorem wn:(114:TypeId)<Tryz.prog.types.size:=of_decide_eq_true (by kernel_rfl)
noncomputable def lE:Nat:=Tryz.prog.types.size - 1
theorem ju:Tryz.prog.types.size=lE+1:=wm
theorem wq {p q:Int}(hp:(Lit.int .i64 p).wf=true)(hq:(Lit.int .i64 q).wf=true):keyOf Tryz.prog 114 (.agg #[.int .i64 p,.int .i64 q])=some (.string (keyBytes [.int .i64 p,.int .i64 q])):=
 we (m:=lE) ik rfl ⟨rfl,rfl,by kernel_rfl⟩ ⟨rfl,rfl,by kernel_rfl⟩ U3 oS oR wl ju hp hq
theorem ws {v:Value}{l:Lit}(h:keyOf Tryz.prog 114 v=some l):∃p q,((Lit.int .i64 p).wf=true∧(Lit.int .i64 q).wf=true)∧v=.agg #[.int .i64 p,.int .i64 q]∧l=.string (keyBytes [.int .i64 p,.int .i64 q]):=
 wg (m:=lE) ik rfl ⟨rfl,rfl,by kernel_rfl⟩ ⟨rfl,rfl,by kernel_rfl⟩ U3 oS oR ju h
theorem wt:Tryz.prog.keyTypeAt 2 114=true:=by kernel_rfl
theorem wu:WideMaps.KeyLaw Tryz.prog 114:=by
 have h1:2+1≤10000:=by omega
 refine deep_law_laid laidOut (m:=2) h1 wn wt ?_
 rw[ik]
def enV (x:Int×Int):Value:=.agg #[.int .i64 x.1,.int .i64 x.2]
noncomputable def eKV:KV Tryz.prog (Int×Int) (Int×Int) where
 k:=114
 e:=107
 kv:=enV
 kl:=fun x=>.string (keyBytes [.int .i64 x.1,.int .i64 x.2])
 ok:=fun x=>(Lit.int .i64 x.1).wf=true∧(Lit.int .i64 x.2).wf=true
 mv:=thV
 dv:=thD
 okv:=okT
 R:=thR
 K:=Maps.Keyed.of_law wu
 key:=fun x hx=>wq hx.1 hx.2
 keyInv:=fun v l h=>by
  obtain⟨p,q,h1,h2,h3⟩:=ws h
  exact⟨(p,q),h1,h2,h3⟩
 kvInj:=fun x y h=>by cases x;cases y;cases h;rfl
 val:=fun c hc=>oP hc
 valInv:=fun v y h=>oQ h
 dvInj:=fun c c' h=>by cases c;cases c';cases h;rfl
noncomputable def grE (N:Nat):Enc GT:=prE (mpE vKV N) (mpE eKV N)
theorem wv (n:Int)(W:World):Calls Tryz.prog 60 #[I n] W (Post (E (.bool (Gr.pairs n))) W):=by
 refine enter (args:=[I n]) (As:=[E (I n)]) Tryz.func60 rfl Tryz.ntmps60 (Nat.le_of_ble_eq_true rfl) ?_ (fun a hf=>?_) (Nat.le_of_ble_eq_true rfl)
 rotate_left
 dsimp only[params,Nat.reduceAdd] at hf
 rotate_right
 ·exact arg1 rfl
 have e:=Ext.rfl' W
 refine seq ?_
 refine aj ?_
 refine ae hf rfl (by decide) fun a hf=>?_
 refine aa ?_
 refine seq ?_
 refine ac 14 hf (by decide +kernel) ?_
 refine st (mv rfl) ?_
 refine st (eql rfl rfl) ?_
 refine st (mv rfl) ?_
 refine sgE rfl rfl (.k 0 rfl .n) (fun hgd=>mv rfl) ?_
 refine sgE rfl rfl (.c 6 rfl (fun h=>h) .n) (fun hgd=>eql rfl rfl) ?_
 refine st (bF rfl rfl (fun h=>by rw[h];rfl)) ?_
 refine st (mv rfl) ?_
 refine sgE rfl rfl (.k 0 rfl .n) (fun hgd=>mv rfl) ?_
 refine sgE rfl rfl (.c 10 rfl (fun h=>h) .n) (fun hgd=>eql rfl rfl) ?_
 refine st (bF rfl rfl (fun h=>by rw[h];rfl)) ?_
 refine st (mv rfl) ?_
 refine sgE rfl rfl (.k 0 rfl .n) (fun hgd=>mv rfl) ?_
 refine sgE rfl rfl (.c 14 rfl (fun h=>h) .n) (fun hgd=>eql rfl rfl) ?_
 refine st (bF rfl rfl (fun h=>by rw[h];rfl)) ?_
 refine en fun a w e' hf=>?_
 replace e:=e.tr e'
 refine ae hf rfl (by decide) fun a hf=>?_
 refine aa ?_
 refine an ?_
 refine az rfl hf rfl ?_
 rintro _ rfl
 exact⟨_,rfl,e,rfl⟩
theorem ww (n:Int)(W:World):Calls Tryz.prog 61 #[I n] W (Post (E (.bool (Gr.weighs n))) W):=by
 refine enter (args:=[I n]) (As:=[E (I n)]) Tryz.func61 rfl Tryz.ntmps61 (Nat.le_of_ble_eq_true rfl) ?_ (fun a hf=>?_) (Nat.le_of_ble_eq_true rfl)
 rotate_left
 dsimp only[params,Nat.reduceAdd] at hf
 rotate_right
 ·exact arg1 rfl
 have e:=Ext.rfl' W
 refine seq ?_
 refine aj ?_
 refine ae hf rfl (by decide) fun a hf=>?_
 refine aa ?_
 refine seq ?_
 refine ac 14 hf (by decide +kernel) ?_
 refine st (mv rfl) ?_
 refine st (eql rfl rfl) ?_
 refine st (mv rfl) ?_
 refine sgE rfl rfl (.k 0 rfl .n) (fun hgd=>mv rfl) ?_
 refine sgE rfl rfl (.c 6 rfl (fun h=>h) .n) (fun hgd=>eql rfl rfl) ?_
 refine st (bF rfl rfl (fun h=>by rw[h];rfl)) ?_
 refine st (mv rfl) ?_
 refine sgE rfl rfl (.k 0 rfl .n) (fun hgd=>mv rfl) ?_
 refine sgE rfl rfl (.c 10 rfl (fun h=>h) .n) (fun hgd=>eql rfl rfl) ?_
 refine st (bF rfl rfl (fun h=>by rw[h];rfl)) ?_
 refine st (mv rfl) ?_
 refine sgE rfl rfl (.k 0 rfl .n) (fun hgd=>mv rfl) ?_
 refine sgE rfl rfl (.c 14 rfl (fun h=>h) .n) (fun hgd=>eql rfl rfl) ?_
 refine st (bF rfl rfl (fun h=>by rw[h];rfl)) ?_
 refine en fun a w e' hf=>?_
 replace e:=e.tr e'
 refine ae hf rfl (by decide) fun a hf=>?_
 refine aa ?_
 refine an ?_
 refine az rfl hf rfl ?_
 rintro _ rfl
 exact⟨_,rfl,e,rfl⟩
theorem wx (n:Int)(W:World):Calls Tryz.prog 59 #[I n] W (Post (E (.bool (bY n))) W):=by
 refine enter (args:=[I n]) (As:=[E (I n)]) Tryz.func59 rfl Tryz.ntmps59 (Nat.le_of_ble_eq_true rfl) ?_ (fun a hf=>?_) (Nat.le_of_ble_eq_true rfl)
 rotate_left
 dsimp only[params,Nat.reduceAdd] at hf
 rotate_right
 ·exact arg1 rfl
 have e:=Ext.rfl' W
 refine seq ?_
 refine aj ?_
 refine ae hf rfl (by decide) fun a hf=>?_
 refine aa ?_
 refine seq ?_
 refine ac 6 hf (by decide +kernel) ?_
 refine st (mv rfl) ?_
 refine st (geq rfl rfl) ?_
 refine st (mv rfl) ?_
 refine sgE rfl rfl (.k 0 rfl .n) (fun hgd=>mv rfl) ?_
 refine sgE rfl rfl (.c 6 rfl (fun h=>h) .n) (fun hgd=>lss rfl rfl) ?_
 refine st (bA rfl rfl (fun h=>by rw[h];rfl)) ?_
 refine en fun a w e' hf=>?_
 replace e:=e.tr e'
 refine ae hf rfl (by decide) fun a hf=>?_
 refine aa ?_
 refine an ?_
 refine az rfl hf rfl ?_
 rintro _ rfl
 exact⟨_,rfl,e,rfl⟩
theorem wy (n:Int)(W:World):Calls Tryz.prog 62 #[I n] W (Post (E (.bool (Gr.heavy n))) W):=by
 refine enter (args:=[I n]) (As:=[E (I n)]) Tryz.func62 rfl Tryz.ntmps62 (Nat.le_of_ble_eq_true rfl) ?_ (fun a hf=>?_) (Nat.le_of_ble_eq_true rfl)
 rotate_left
 dsimp only[params,Nat.reduceAdd] at hf
 rotate_right
 ·exact arg1 rfl
 have e:=Ext.rfl' W
 refine seq ?_
 refine aj ?_
 refine ae hf rfl (by decide) fun a hf=>?_
 refine aa ?_
 refine seq ?_
 refine ac 6 hf (by decide +kernel) ?_
 refine st (mv rfl) ?_
 refine st (lss rfl rfl) ?_
 refine st (mv rfl) ?_
 refine sgE rfl rfl (.k 0 rfl .n) (fun hgd=>mv rfl) ?_
 refine sgE rfl rfl (.c 6 rfl (fun h=>h) .n) (fun hgd=>gtr rfl rfl) ?_
 refine st (bF rfl rfl (fun h=>by rw[h];rfl)) ?_
 refine en fun a w e' hf=>?_
 replace e:=e.tr e'
 refine ae hf rfl (by decide) fun a hf=>?_
 refine aa ?_
 refine an ?_
 refine az rfl hf rfl ?_
 rintro _ rfl
 exact⟨_,rfl,e,rfl⟩
theorem bEn (x:Int×Int):Tryz.prog.built 114 [(0,.int .i64 x.1),(1,.int .i64 x.2)]=some #[.int .i64 x.1,.int .i64 x.2]:=by kernel_rfl
theorem oT (m n:Int)(W:World):Calls Tryz.prog 56 #[I m,I n] W (Post (E (enV (Gr.ends m n))) W):=by
 refine enter (args:=[I m,I n]) (As:=[E (I m),E (I n)]) Tryz.func56 rfl Tryz.ntmps56 (Nat.le_of_ble_eq_true rfl) ?_ (fun a hf=>?_) (Nat.le_of_ble_eq_true rfl)
 rotate_left
 dsimp only[params,Nat.reduceAdd] at hf
 rotate_right
 ·exact arg2 rfl rfl
 have e:=Ext.rfl' W
 refine seq ?_
 refine aj ?_
 refine aC mX hf (by decide) fun a b4 w e' hb4 hs4 B4 hf=>?_
 have hle4:=Nat.le_trans e.size (Nat.le_of_eq hb4.symm)
 replace e:=e.tr e'
 refine aa ?_
 refine seq ?_
 refine ac 7 hf (by decide +kernel) ?_
 refine st (mv rfl) ?_
 refine st (mv rfl) ?_
 refine st (min2 rfl rfl) ?_
 refine st (mv rfl) ?_
 refine st (mv rfl) ?_
 refine st (max2 rfl rfl) ?_
 refine st (bG [(0,_),(1,_)] rfl (bEn (Gr.ends m n))) ?_
 refine en fun a w e' hf=>?_
 replace e:=e.tr e'
 replace B4:=B4.ext e'
 clear e'
 haveI hinr:∀G0,InR (GB W G0) (some b4):=fun G0=>InR.gb (by omega)
 refine aF kz hf rfl rfl (bR rfl rfl) B4 rfl (rfl) fun w hg hsz B4 hf=>?_
 replace e:=e.gr hg (by omega)
 clear hg
 refine aa ?_
 refine an (dc rfl kz hf rfl B4 rfl ?_)
 exact⟨_,rfl,e,rfl⟩
end Go.Mono
namespace Go.Mono
open Go Go.Proofs Go.RowKit Go.Gr
section
variable {G G2 G3:Nat→Prop}(g:GT)(d:DT)(N:Nat)(W:World)(v v1 v2:Value)
theorem cP (n:Int)(v:Value)(w:World)(h:(E (I n)).p v w):Calls Tryz.prog 60 #[v] w (Post (E (.bool (Gr.pairs n))) w):=by cases h;exact wv n w
theorem cW (n:Int)(v:Value)(w:World)(h:(E (I n)).p v w):Calls Tryz.prog 61 #[v] w (Post (E (.bool (Gr.weighs n))) w):=by cases h;exact ww n w
theorem cI (n:Int)(v:Value)(w:World)(h:(E (I n)).p v w):Calls Tryz.prog 59 #[v] w (Post (E (.bool (bY n))) w):=by cases h;exact wx n w
theorem cH (n:Int)(v:Value)(w:World)(h:(E (I n)).p v w):Calls Tryz.prog 62 #[v] w (Post (E (.bool (Gr.heavy n))) w):=by cases h;exact wy n w
theorem wz (h:(Dv (ptE dtE) G (some d)).p v W):Calls Tryz.prog 57 #[v] W (Post (E (.bool (decide (d.1<0) || decide (8≤d.1)))) W):=by
 refine enter (args:=[v]) (As:=[Dv (ptE dtE) G (some d)]) Tryz.func57 rfl Tryz.ntmps57 (Nat.le_of_ble_eq_true rfl) ?_ (fun a hf=>?_) (Nat.le_of_ble_eq_true rfl)
 rotate_left
 dsimp only[params,Nat.reduceAdd] at hf
 rotate_right
 ·exact arg1 h
 have e:=Ext.rfl' W
 refine seq ?_
 refine aj ?_
 refine ae hf rfl (by decide) fun a hf=>?_
 refine aa ?_
 refine seq ?_
 refine ac 8 hf (by decide +kernel) ?_
 refine st (aH U38 rfl T3 (by decide) (Fld.fst Fld.refl) (isR rfl)) ?_
 refine st (ldI T3 (isR rfl)) ?_
 refine st (lss rfl rfl) ?_
 refine st (mv rfl) ?_
 refine sgE rfl rfl (.k 0 rfl .n) (fun hgd=>aH U38 rfl T3 (by decide) (Fld.fst Fld.refl) (isR rfl)) ?_
 refine sgE rfl rfl (.c 6 rfl (fun h=>h) .n) (fun hgd=>ldI T3 (isR rfl)) ?_
 refine sgE rfl rfl (.c 7 rfl (fun h=>h) .n) (fun hgd=>geq rfl rfl) ?_
 refine st (bF rfl rfl (fun h=>by rw[h];rfl)) ?_
 refine en fun a w e' hf=>?_
 replace e:=e.tr e'
 refine ae hf rfl (by decide) fun a hf=>?_
 refine aa ?_
 refine an ?_
 refine az rfl hf rfl ?_
 rintro _ rfl
 exact⟨_,rfl,e,rfl⟩
theorem wA (h:(Dv (ptE dtE) G (some d)).p v W):Calls Tryz.prog 58 #[v] W (Post (E (.bool ((!bY d.2.1) || (Gr.pairs d.1 && !bY d.2.2.1) || (Gr.weighs d.1&&Gr.heavy d.2.2.2.2)))) W):=by
 refine enter (args:=[v]) (As:=[Dv (ptE dtE) G (some d)]) Tryz.func58 rfl Tryz.ntmps58 (Nat.le_of_ble_eq_true rfl) ?_ (fun a hf=>?_) (Nat.le_of_ble_eq_true rfl)
 rotate_left
 dsimp only[params,Nat.reduceAdd] at hf
 rotate_right
 ·exact arg1 h
 have e:=Ext.rfl' W
 refine seq ?_
 refine aj ?_
 refine ae hf rfl (by decide) fun a hf=>?_
 refine aa ?_
 refine seq ?_
 refine ac 25 hf (by decide +kernel) ?_
 refine st (aH U38 rfl T3 (by decide) (Fld.snd (Fld.fst Fld.refl) rfl) (isR rfl)) ?_
 refine st (ldI T3 (isR rfl)) ?_
 refine st (aw ns rfl (fun v w he h=>cI _ v w h)) ?_
 refine st (bj rfl) ?_
 refine st (mv rfl) ?_
 refine sgE rfl rfl (.k 0 rfl .n) (fun hgd=>aH U38 rfl T3 (by decide) (Fld.fst Fld.refl) (isR rfl)) ?_
 refine sgE rfl rfl (.c 7 rfl (fun h=>h) .n) (fun hgd=>ldI T3 (isR rfl)) ?_
 refine sgE rfl rfl (.c 8 rfl (fun h=>h) .n) (fun hgd=>aw jd rfl (fun v w he h=>cP _ v w h)) ?_
 refine sgE rfl rfl (.c 9 rfl (fun h=>h) .n) (fun hgd=>mv rfl) ?_
 refine sgC rfl rfl (.k 0 rfl .n) (fun hgd=>aH U38 rfl T3 (by decide) (Fld.snd (Fld.snd (Fld.fst Fld.refl) rfl) rfl) (isR rfl)) ?_
 refine sgC rfl rfl (.c 11 rfl (fun h=>h) .n) (fun hgd=>ldI T3 (isR rfl)) ?_
 refine sgC rfl rfl (.c 12 rfl (fun h=>h) .n) (fun hgd=>aw ns rfl (fun v w he h=>cI _ v w h)) ?_
 refine sgC rfl rfl (.c 13 rfl (fun h=>h) .n) (fun hgd=>bj rfl) ?_
 refine sgE rfl rfl (.c 10 rfl (fun h=>h) (.k 14 rfl .n)) (fun hgd=>bA rfl rfl (fun h=>by rw[hgd,h];rfl)) ?_
 refine st (bF rfl rfl (fun h=>by rw[h];rfl)) ?_
 refine st (mv rfl) ?_
 refine sgE rfl rfl (.k 0 rfl .n) (fun hgd=>aH U38 rfl T3 (by decide) (Fld.fst Fld.refl) (isR rfl)) ?_
 refine sgE rfl rfl (.c 18 rfl (fun h=>h) .n) (fun hgd=>ldI T3 (isR rfl)) ?_
 refine sgE rfl rfl (.c 19 rfl (fun h=>h) .n) (fun hgd=>aw tH rfl (fun v w he h=>cW _ v w h)) ?_
 refine sgE rfl rfl (.c 20 rfl (fun h=>h) .n) (fun hgd=>mv rfl) ?_
 refine sgC rfl rfl (.k 0 rfl .n) (fun hgd=>aH U38 rfl T3 (by decide) (Fld.snd (Fld.snd (Fld.snd (Fld.snd Fld.refl rfl) rfl) rfl) rfl) (isR rfl)) ?_
 refine sgC rfl rfl (.c 22 rfl (fun h=>h) .n) (fun hgd=>ldI T3 (isR rfl)) ?_
 refine sgC rfl rfl (.c 23 rfl (fun h=>h) .n) (fun hgd=>aw tI rfl (fun v w he h=>cH _ v w h)) ?_
 refine sgE rfl rfl (.c 21 rfl (fun h=>h) (.k 24 rfl .n)) (fun hgd=>bA rfl rfl (fun h=>by rw[hgd,h];rfl)) ?_
 refine st (bF rfl rfl (fun h=>by rw[h];rfl)) ?_
 refine en fun a w e' hf=>?_
 replace e:=e.tr e'
 refine ae hf rfl (by decide) fun a hf=>?_
 refine aa ?_
 refine an ?_
 refine az rfl hf rfl ?_
 rintro _ rfl
 exact⟨_,rfl,e,rfl⟩
theorem wB (h:(Dv (ptE dtE) G (some d)).p v W):Calls Tryz.prog 63 #[v] W (Post (E (.bool (Gr.pairs d.1&&d.2.1==d.2.2.1))) W):=by
 refine enter (args:=[v]) (As:=[Dv (ptE dtE) G (some d)]) Tryz.func63 rfl Tryz.ntmps63 (Nat.le_of_ble_eq_true rfl) ?_ (fun a hf=>?_) (Nat.le_of_ble_eq_true rfl)
 rotate_left
 dsimp only[params,Nat.reduceAdd] at hf
 rotate_right
 ·exact arg1 h
 have e:=Ext.rfl' W
 refine seq ?_
 refine aj ?_
 refine ae hf rfl (by decide) fun a hf=>?_
 refine aa ?_
 refine seq ?_
 refine ac 10 hf (by decide +kernel) ?_
 refine st (aH U38 rfl T3 (by decide) (Fld.fst Fld.refl) (isR rfl)) ?_
 refine st (ldI T3 (isR rfl)) ?_
 refine st (aw jd rfl (fun v w he h=>cP _ v w h)) ?_
 refine st (mv rfl) ?_
 refine sgE rfl rfl (.k 0 rfl .n) (fun hgd=>aH U38 rfl T3 (by decide) (Fld.snd (Fld.fst Fld.refl) rfl) (isR rfl)) ?_
 refine sgE rfl rfl (.c 6 rfl (fun h=>h) .n) (fun hgd=>ldI T3 (isR rfl)) ?_
 refine sgE rfl rfl (.k 0 rfl .n) (fun hgd=>aH U38 rfl T3 (by decide) (Fld.snd (Fld.snd (Fld.fst Fld.refl) rfl) rfl) (isR rfl)) ?_
 refine sgE rfl rfl (.c 8 rfl (fun h=>h) .n) (fun hgd=>ldI T3 (isR rfl)) ?_
 refine sgE rfl rfl (.c 7 rfl (fun h=>h) (.c 9 rfl (fun h=>h) .n)) (fun hgd=>eql rfl rfl) ?_
 refine st (bA rfl rfl (fun h=>by rw[h];rfl)) ?_
 refine en fun a w e' hf=>?_
 replace e:=e.tr e'
 refine ae hf rfl (by decide) fun a hf=>?_
 refine aa ?_
 refine an ?_
 refine az rfl hf rfl ?_
 rintro _ rfl
 exact⟨_,rfl,e,rfl⟩
theorem wC (u:Bool)(h:(Dv (ptE dtE) G (some d)).p v W)(h1:(Dv (ptE cL) G2 (some u)).p v1 W):Calls Tryz.prog 64 #[v,v1] W (Post (E (.bool (d.1==0&&u))) W):=by
 refine enter (args:=[v,v1]) (As:=[Dv (ptE dtE) G (some d),Dv (ptE cL) G2 (some u)]) Tryz.func64 rfl Tryz.ntmps64 (Nat.le_of_ble_eq_true rfl) ?_ (fun a hf=>?_) (Nat.le_of_ble_eq_true rfl)
 rotate_left
 dsimp only[params,Nat.reduceAdd] at hf
 rotate_right
 ·exact arg2 h h1
 have e:=Ext.rfl' W
 refine seq ?_
 refine aj ?_
 refine ae hf rfl (by decide) fun a hf=>?_
 refine aa ?_
 refine seq ?_
 refine ac 6 hf (by decide +kernel) ?_
 refine st (aH U38 rfl T3 (by decide) (Fld.fst Fld.refl) (isR rfl)) ?_
 refine st (ldI T3 (isR rfl)) ?_
 refine st (eql rfl rfl) ?_
 refine st (mv rfl) ?_
 refine sgE rfl rfl (.k 1 rfl .n) (fun hgd=>ldB T4 (isR rfl)) ?_
 refine st (bA rfl rfl (fun h=>by rw[h];rfl)) ?_
 refine en fun a w e' hf=>?_
 replace e:=e.tr e'
 refine ae hf rfl (by decide) fun a hf=>?_
 refine aa ?_
 refine an ?_
 refine az rfl hf rfl ?_
 rintro _ rfl
 exact⟨_,rfl,e,rfl⟩
theorem wD (u u2:Bool)(h:(Dv (ptE dtE) G (some d)).p v W)(h1:(Dv (ptE cL) G2 (some u)).p v1 W)(h2:(Dv (ptE cL) G3 (some u2)).p v2 W) :
  Calls Tryz.prog 65 #[v,v1,v2] W (Post (E (.bool ((d.1 != 0 && !Gr.pairs d.1 && !u) || (d.1==2 && !(u&&u2))))) W):=by
 refine enter (args:=[v,v1,v2]) (As:=[Dv (ptE dtE) G (some d),Dv (ptE cL) G2 (some u),Dv (ptE cL) G3 (some u2)]) Tryz.func65 rfl Tryz.ntmps65 (Nat.le_of_ble_eq_true rfl) ?_ (fun a hf=>?_) (Nat.le_of_ble_eq_true rfl)
 rotate_left
 dsimp only[params,Nat.reduceAdd] at hf
 rotate_right
 ·exact eH h h1 h2
 have e:=Ext.rfl' W
 refine seq ?_
 refine aj ?_
 refine ae hf rfl (by decide) fun a hf=>?_
 refine aa ?_
 refine seq ?_
 refine ac 25 hf (by decide +kernel) ?_
 refine st (aH U38 rfl T3 (by decide) (Fld.fst Fld.refl) (isR rfl)) ?_
 refine st (ldI T3 (isR rfl)) ?_
 refine st (neq rfl rfl) ?_
 refine st (mv rfl) ?_
 refine sgE rfl rfl (.k 0 rfl .n) (fun hgd=>aH U38 rfl T3 (by decide) (Fld.fst Fld.refl) (isR rfl)) ?_
 refine sgE rfl rfl (.c 8 rfl (fun h=>h) .n) (fun hgd=>ldI T3 (isR rfl)) ?_
 refine sgE rfl rfl (.c 9 rfl (fun h=>h) .n) (fun hgd=>aw jd rfl (fun v w he h=>cP _ v w h)) ?_
 refine sgE rfl rfl (.c 10 rfl (fun h=>h) .n) (fun hgd=>bj rfl) ?_
 refine st (bA rfl rfl (fun h=>by rw[h];rfl)) ?_
 refine st (mv rfl) ?_
 refine sgE rfl rfl (.k 1 rfl .n) (fun hgd=>ldB T4 (isR rfl)) ?_
 refine sgE rfl rfl (.c 14 rfl (fun h=>h) .n) (fun hgd=>bj rfl) ?_
 refine st (bA rfl rfl (fun h=>by rw[h];rfl)) ?_
 refine st (mv rfl) ?_
 refine sgE rfl rfl (.k 0 rfl .n) (fun hgd=>aH U38 rfl T3 (by decide) (Fld.fst Fld.refl) (isR rfl)) ?_
 refine sgE rfl rfl (.c 18 rfl (fun h=>h) .n) (fun hgd=>ldI T3 (isR rfl)) ?_
 refine sgE rfl rfl (.c 19 rfl (fun h=>h) .n) (fun hgd=>eql rfl rfl) ?_
 refine sgE rfl rfl (.c 20 rfl (fun h=>h) .n) (fun hgd=>mv rfl) ?_
 refine sgC rfl rfl (.k 1 rfl .n) (fun hgd=>ldB T4 (isR rfl)) ?_
 refine sgC rfl rfl (.c 22 rfl (fun h=>h) .n) (fun hgd=>mv rfl) ?_
 refine sgC rfl rfl (.k 2 rfl .n) (fun hgd=>ldB T4 (isR rfl)) ?_
 refine sgC rfl rfl (.c 23 rfl (fun h=>h) (.k 24 rfl .n)) (fun hgd=>bA rfl rfl (fun h=>by rw[hgd,h];rfl)) ?_
 refine sgC rfl rfl (.c 25 rfl (fun h=>h) .n) (fun hgd=>bj rfl) ?_
 refine sgE rfl rfl (.c 21 rfl (fun h=>h) (.k 26 rfl .n)) (fun hgd=>bA rfl rfl (fun h=>by rw[hgd,h];rfl)) ?_
 refine st (bF rfl rfl (fun h=>by rw[h];rfl)) ?_
 refine en fun a w e' hf=>?_
 replace e:=e.tr e'
 refine ae hf rfl (by decide) fun a hf=>?_
 refine aa ?_
 refine an ?_
 refine az rfl hf rfl ?_
 rintro _ rfl
 exact⟨_,rfl,e,rfl⟩
theorem wE (u:Bool)(h:(Dv (ptE dtE) G (some d)).p v W)(h1:(Dv (ptE cL) G2 (some u)).p v1 W):Calls Tryz.prog 66 #[v,v1] W (Post (E (.bool (Gr.pairs d.1&&d.1 != 2 && !u))) W):=by
 refine enter (args:=[v,v1]) (As:=[Dv (ptE dtE) G (some d),Dv (ptE cL) G2 (some u)]) Tryz.func66 rfl Tryz.ntmps66 (Nat.le_of_ble_eq_true rfl) ?_ (fun a hf=>?_) (Nat.le_of_ble_eq_true rfl)
 rotate_left
 dsimp only[params,Nat.reduceAdd] at hf
 rotate_right
 ·exact arg2 h h1
 have e:=Ext.rfl' W
 refine seq ?_
 refine aj ?_
 refine ae hf rfl (by decide) fun a hf=>?_
 refine aa ?_
 refine seq ?_
 refine ac 12 hf (by decide +kernel) ?_
 refine st (aH U38 rfl T3 (by decide) (Fld.fst Fld.refl) (isR rfl)) ?_
 refine st (ldI T3 (isR rfl)) ?_
 refine st (aw jd rfl (fun v w he h=>cP _ v w h)) ?_
 refine st (mv rfl) ?_
 refine sgE rfl rfl (.k 0 rfl .n) (fun hgd=>aH U38 rfl T3 (by decide) (Fld.fst Fld.refl) (isR rfl)) ?_
 refine sgE rfl rfl (.c 7 rfl (fun h=>h) .n) (fun hgd=>ldI T3 (isR rfl)) ?_
 refine sgE rfl rfl (.c 8 rfl (fun h=>h) .n) (fun hgd=>neq rfl rfl) ?_
 refine st (bA rfl rfl (fun h=>by rw[h];rfl)) ?_
 refine st (mv rfl) ?_
 refine sgE rfl rfl (.k 1 rfl .n) (fun hgd=>ldB T4 (isR rfl)) ?_
 refine sgE rfl rfl (.c 12 rfl (fun h=>h) .n) (fun hgd=>bj rfl) ?_
 refine st (bA rfl rfl (fun h=>by rw[h];rfl)) ?_
 refine en fun a w e' hf=>?_
 replace e:=e.tr e'
 refine ae hf rfl (by decide) fun a hf=>?_
 refine aa ?_
 refine an ?_
 refine az rfl hf rfl ?_
 rintro _ rfl
 exact⟨_,rfl,e,rfl⟩
theorem wF (u:Bool)(h:(Dv (ptE dtE) G (some d)).p v W)(h1:(Dv (ptE cL) G2 (some u)).p v1 W):Calls Tryz.prog 67 #[v,v1] W (Post (E (.bool (d.1==2&&u))) W):=by
 refine enter (args:=[v,v1]) (As:=[Dv (ptE dtE) G (some d),Dv (ptE cL) G2 (some u)]) Tryz.func67 rfl Tryz.ntmps67 (Nat.le_of_ble_eq_true rfl) ?_ (fun a hf=>?_) (Nat.le_of_ble_eq_true rfl)
 rotate_left
 dsimp only[params,Nat.reduceAdd] at hf
 rotate_right
 ·exact arg2 h h1
 have e:=Ext.rfl' W
 refine seq ?_
 refine aj ?_
 refine ae hf rfl (by decide) fun a hf=>?_
 refine aa ?_
 refine seq ?_
 refine ac 6 hf (by decide +kernel) ?_
 refine st (aH U38 rfl T3 (by decide) (Fld.fst Fld.refl) (isR rfl)) ?_
 refine st (ldI T3 (isR rfl)) ?_
 refine st (eql rfl rfl) ?_
 refine st (mv rfl) ?_
 refine sgE rfl rfl (.k 1 rfl .n) (fun hgd=>ldB T4 (isR rfl)) ?_
 refine st (bA rfl rfl (fun h=>by rw[h];rfl)) ?_
 refine en fun a w e' hf=>?_
 replace e:=e.tr e'
 refine ae hf rfl (by decide) fun a hf=>?_
 refine aa ?_
 refine an ?_
 refine az rfl hf rfl ?_
 rintro _ rfl
 exact⟨_,rfl,e,rfl⟩
theorem wG (h:(Dv (ptE dtE) G (some d)).p v W)(h1:(Dv (ptE (ptE (grE N))) G2 (some (some g))).p v1 W):Calls Tryz.prog 68 #[v,v1] W (Post (E (.bool (d.1==2&&decide ((1024:Int)≤(g.2.length:Nat))))) W):=by
 refine enter (args:=[v,v1]) (As:=[Dv (ptE dtE) G (some d),Dv (ptE (ptE (grE N))) G2 (some (some g))]) Tryz.func68 rfl Tryz.ntmps68 (Nat.le_of_ble_eq_true rfl) ?_ (fun a hf=>?_) (Nat.le_of_ble_eq_true rfl)
 rotate_left
 dsimp only[params,Nat.reduceAdd] at hf
 rotate_right
 ·exact arg2 h h1
 have e:=Ext.rfl' W
 refine seq ?_
 refine aj ?_
 refine ae hf rfl (by decide) fun a hf=>?_
 refine aa ?_
 refine seq ?_
 refine ac 11 hf (by decide +kernel) ?_
 refine st (aH U38 rfl T3 (by decide) (Fld.fst Fld.refl) (isR rfl)) ?_
 refine st (ldI T3 (isR rfl)) ?_
 refine st (eql rfl rfl) ?_
 refine st (mv rfl) ?_
 refine sgE rfl rfl (.k 1 rfl .n) (fun hgd=>ldD T28 (isR rfl)) ?_
 refine sgE rfl rfl (.c 7 rfl (fun h=>h) .n) (fun hgd=>fg (isR rfl)) ?_
 refine sgE rfl rfl (.c 8 rfl (fun h=>h) .n) (fun hgd=>aH eE rfl dR (by decide) (Fld.snd Fld.refl rfl) (isR rfl)) ?_
 refine sgE rfl rfl (.c 9 rfl (fun h=>h) .n) (fun hgd=>ldD dR (isR rfl)) ?_
 refine sgE rfl rfl (.c 10 rfl (fun h=>h) .n) (fun hgd=>lB ij (isR rfl)) ?_
 refine sgE rfl rfl (.c 11 rfl (fun h=>h) .n) (fun hgd=>geq rfl rfl) ?_
 refine st (bA rfl rfl (fun h=>by rw[h];rfl)) ?_
 refine en fun a w e' hf=>?_
 replace e:=e.tr e'
 refine ae hf rfl (by decide) fun a hf=>?_
 refine aa ?_
 refine an ?_
 refine az rfl hf rfl ?_
 rintro _ rfl
 exact⟨_,rfl,e,rfl⟩
end
end Go.Mono
namespace Go.Mono
open Go Go.RowKit
section tail
variable {P:Program}{L:Env}{ty:TypeId}{pos:String}{aft:Array Edge}{r:Option Nat}{ds:List Deferred}
variable {ops:Array Oper}{rest:List Oper}{Q:Exit→Act→World→Prop}{n:Nat}{a:Act}{w:World}{x y:Operand}
theorem wH {t bt:TypeId}{b off s:Nat}{cs new:Array Value}(ht:TI P t true s)(hf:FrD n ds a w L)[hL:AvL b L](hx:opd L x=some (E (.pointer (some ⟨b,off,none⟩))))(hy:opd L y=some (E (.agg new)))(h1:new.all (·.oneCell')=true)
  (hb:Blk w b cs bt) (hn:new.size=s) (ho:off+s≤cs.size) (k:∀w',w.grownBy w' (some b)→w'.heap.size=w.heap.size→Blk w' b (cs.toList.take off++new.toList++cs.toList.drop (off+s)).toArray bt→FrD n ds a w' L→wpListIn (FW r) 0 P ops Q rest a w') :
  wpListIn (FW r) 0 P ops Q (⟨none,.store t x y,ty,pos,aft,none⟩::rest) a w:=
 wpListIn_plain rfl fun K hK=>by
  have hxv:a.eval x=.pointer (some ⟨b,off,none⟩):=hf.opd x _ hx
  have hyv:a.eval y=.agg new:=hf.opd y _ hy
  have hrun:=run_storeCells_at (P:=P) b off bt new.toList 0 cs w hb (by simp;omega) (fun v hv=>by rw[Array.all_eq_true_iff_forall_mem] at h1;exact h1 v (by simpa using hv))
  simp only[Nat.add_zero,Array.length_toList,hn] at hrun
  have hc:(Value.agg new).cells=new:=rfl
  refine OpR.wp (R:=fun _ w'=>w'=w.setRow b (cs.toList.take off++new.toList++cs.toList.drop (off+s)).toArray) ?_ ?_
  ·simp[OpR,execOp,Instr.storeAt,Instr.sureAddr,hxv,hyv,storeVar,hc,ht.size,hn,hrun]
  ·rintro _ w' rfl
   exact hK _ _ (k _ (dP _ _ _) (by simp) (setRow_heap _ _ _ _ _ _ hb) (hf.gr (dP _ _ _)))
end tail
section
variable {P:Program}{w0:World}{L:Env}{dst:Option Tmp}{ty:TypeId}{pos:String}{aft:Array Edge}{α:Type}{e:Enc α}
end
theorem wI {P:Program}{ty:TypeId}{α:Type}{e:Enc α}[FlE e]{G G':Nat→Prop}{w:World}{xs ys:List α}{v:Value}{t te:TypeId}{z0:Value}{sz bz B:Nat}(ht:P.underlying t=some (.slice te))(hi:(P.info? te).map (fun i=>(i.zero,i.size,i.bytes))=some (some z0,sz,bz))(hsz:sz=e.k)(hz0:z0.cells.size=e.k)
  (ho:OwR e te B G w xs v) {u:Value} (hy:(Dv (slE e) G' ys).p u w) (h63:(xs.length+ys.length)≤maxLen) (hb:(xs.length+ys.length) * bz≤140737488355328) :
  ∃v' w',(Builtin.append_ #[t,t] ty #[v,u]).run P w=.ok v' w'∧OwR e te B G w' (xs++ys) v'∧w.grownBy w' v.ownBlock∧(v'.ownBlock=v.ownBlock∨v'.ownBlock=some w.heap.size):=by
 obtain⟨it,hit,hiz,hsz',hbz⟩:=info_parts hi
 subst hsz
 obtain⟨cs,h1,h2⟩:=ho.own
 rcases Dv.sl.1 hy with ⟨rfl,rfl⟩|⟨ad,cap,ds',rfl,_,h3,h4,h5,h6⟩
 ·refine⟨v,w,run_append_owned_none w B t ty te it e.k ht hit v _ cs h1,by simpa using ho,⟨rfl,rfl,rfl,Nat.le_refl _,fun _ _ _=>rfl⟩,.inl rfl⟩
 ·obtain⟨v',w',h7,h8,h9,_,h10⟩:=run_append_own_at (P:=P) w B t ty te it z0 e.k bz ht hit hiz hsz' hbz hz0 e.pos v _ cs h1 ad ys.length cap ds' h5.len h6 h5.one h63 hb ho.base
  exact⟨v',w',h7,⟨⟨cs++ds',by simpa using h8,(Cells.fl h2).app (Cells.fl h5)⟩,ho.av,Nat.le_trans ho.base h9.size⟩,h9,h10⟩

def frQ (fr:List Nat)(j:Nat):Bool:=Nat.beq (fr.getD j 0) 1
def kpQ (fr:List Nat)(j:Nat):Bool := !Nat.beq (fr.getD j 0) 0
end Go.Mono
namespace Go.Mono
open Go Go.RowKit
structure ct (S:World→World→Prop):Prop where
 tr:∀{a b c},S a b→S b c→S a c
 ext:∀{a b},Ext a b→S a b
class StJ (S:World→World→Prop)(A:VA):Prop where
 av:∀v w w',S w w'→A.p v w→A.p v w'
class eN (S:World→World→Prop)(L:Env):Prop where
 av:∀t A,aI L t=some A→∀v w w',S w w'→A.p v w→A.p v w'
instance (S:World→World→Prop)(v:Value):StJ S (E v):=⟨fun _ _ _ _ h=>h⟩
instance (S:World→World→Prop):StJ S Any:=⟨fun _ _ _ _ h=>h⟩
instance (S:World→World→Prop):eN S []:=⟨fun t A h=>by simp[aI] at h⟩
instance (S:World→World→Prop)(k:Nat)(A:VA)(L:Env)[h:StJ S A][hl:eN S L]:eN S ((k,A)::L):=⟨fun t B ht=>by
 by_cases hkt:k=t
 ·subst hkt;rw[cF] at ht;cases ht;exact h.av
 ·rw[cG _ _ hkt] at ht;exact hl.av t B ht⟩
end Go.Mono
namespace Go.Mono
open Go Go.RowKit
def eO (P:Program)(ops:Array Oper)(w0:World)(S:World→World→Prop)(F:World→Prop)(pf:List Nat):Nat→List Oper→(Env→Prop)→Env→Prop
 | _,[],K,L2=>K L2
 | k,o::rest,K,L2=>∃A,(∀w1,S w0 w1→(pf.contains k=true∨F w1)→GOp P ops w1 L2 o A)∧(pf.contains k=true→StJ S A)∧eO P ops w0 S F pf (k+1) rest K (push o.dst A L2)
def dM (P:Program)(ops:Array Oper)(w0:World)(S:World→World→Prop)(F:World→Prop)(pf:List Nat):Nat→List Nat→List Oper→(Env→Prop)→Env→Env→Prop
 | k,[],o::rest,K,L,L2=>o.guard=none∧∃A,eb P w0 S F L o A∧eO P ops w0 S F pf (k+1) rest K (push o.dst A L2)
 | k,c::fr,o::rest,K,L,L2=>∃A,(c≠1→GOp P ops w0 L o A)∧(c=1→∀w1,S w0 w1→GOp P ops w1 L o A)∧(c≠0→StJ S A)∧dM P ops w0 S F pf (k+1) fr rest K (push o.dst A L) (push o.dst (if c≠0 then A else Any) L2)
 | _,_,_,_,_,_=>False

section
variable {P:Program}{ops:Array Oper}{Q:Exit→Act→World→Prop}{w0:World}{n:Nat}{ds:List Deferred}{r:Option Nat}

theorem oU {S:World→World→Prop}{F:World→Prop}{pf:List Nat}{K:Env→Prop}:∀(M:List Oper) (k:Nat) (L:Env),(∀j,j<M.length→ops[k+j]?=M[j]?)→eO P ops w0 S F pf k M K L →
  ∃As:Nat→VA,(∀j o,j<M.length→ops[k+j]?=some o→(∀w1,S w0 w1→(pf.contains (k+j)=true∨F w1)→GOp P ops w1 (aV ops L As k j) o (As j))∧(pf.contains (k+j)=true→StJ S (As j)))∧K (aV ops L As k M.length)
 | [],k,L,_,h=>⟨fun _=>Any,fun j o hj=>by simp at hj,h⟩
 | o::M,k,L,hM,⟨A,hA,hB,hr⟩=>by
  have h0:ops[k]?=some o:=by simpa using hM 0 (by simp)
  have hd:aS ops k=o.dst:=by simp[aS,h0]
  obtain⟨As,h1,h2⟩:=oU M (k+1) (push o.dst A L) (fun j hj=>by
   have:=hM (j+1) (by simpa using hj)
   rw[show k+1+j=k+(j+1) by omega]
   simpa using this) hr
  refine⟨dZ A As,?_,?_⟩
  ·intro j o' hj ho'
   cases j with
   | zero=>
    rw[Nat.add_zero,h0] at ho'
    obtain rfl:=Option.some.inj ho'
    exact⟨hA,hB⟩
   | succ j=>
    rw[ea,hd]
    have:=h1 j o' (by simpa using hj) (by rw[show k+1+j=k+(j+1) by omega];exact ho')
    rwa [show k+1+j=k+(j+1) by omega] at this
  ·rw[List.length_cons,ea,hd]
   exact h2
theorem oV {S:World→World→Prop}{F:World→Prop}{pf:List Nat}{K:Env→Prop}:∀(M:List Oper) (fr:List Nat) (k:Nat) (L L2:Env),(∀j,j<M.length→ops[k+j]?=M[j]?)→dM P ops w0 S F pf k fr M K L L2 →
  ∃As:Nat→VA,fr.length<M.length∧(∀j o,j<fr.length→ops[k+j]?=some o→(frQ fr j=false→GOp P ops w0 (aV ops L As k j) o (As j))∧(frQ fr j=true→∀w1,S w0 w1→GOp P ops w1 (aV ops L As k j) o (As j))∧(kpQ fr j=true→StJ S (As j))) ∧
   (∀o,ops[k+fr.length]?=some o→o.guard=none∧eb P w0 S F (aV ops L As k fr.length) o (As fr.length)) ∧
   (∀j o,fr.length<j→j<M.length→ops[k+j]?=some o→(∀w1,S w0 w1→(pf.contains (k+j)=true∨F w1)→GOp P ops w1 (aV ops L2 (fun j=>if kpQ fr j=true∨fr.length≤j then As j else Any) k j) o (As j))∧(pf.contains (k+j)=true→StJ S (As j))) ∧
   K (aV ops L2 (fun j=>if kpQ fr j=true∨fr.length≤j then As j else Any) k M.length)
 | [],[],_,_,_,_,h=>h.elim
 | [],_::_,_,_,_,_,h=>h.elim
 | o::M,[],k,L,L2,hM,⟨hg,A,h1,h2⟩=>by
  have h0:ops[k]?=some o:=by simpa using hM 0 (by simp)
  have hd:aS ops k=o.dst:=by simp[aS,h0]
  obtain⟨As,h3,h4⟩:=oU M (k+1) (push o.dst A L2) (fun j hj=>by
   have:=hM (j+1) (by simpa using hj)
   rw[show k+1+j=k+(j+1) by omega]
   simpa using this) h2
  have e:(fun j=>if kpQ [] j=true∨([]:List Nat).length≤j then dZ A As j else Any)=dZ A As:=by
   funext j
   simp
  refine⟨dZ A As,by simp,fun j o hj=>by simp at hj,fun o' ho'=>?_,fun j o' hj hj2 ho'=>?_,?_⟩
  ·rw[List.length_nil,Nat.add_zero,h0] at ho'
   obtain rfl:=Option.some.inj ho'
   exact⟨hg,h1⟩
  ·rw[e]
   cases j with
   | zero=>simp at hj
   | succ j=>
    rw[ea,hd]
    have:=h3 j o' (by simpa using hj2) (by rw[show k+1+j=k+(j+1) by omega];exact ho')
    rwa [show k+1+j=k+(j+1) by omega] at this
  ·rw[e,List.length_cons,ea,hd]
   exact h4
 | o::M,c::fr,k,L,L2,hM,⟨A,hA1,hA2,hA3,hr⟩=>by
  have h0:ops[k]?=some o:=by simpa using hM 0 (by simp)
  have hd:aS ops k=o.dst:=by simp[aS,h0]
  obtain⟨As,h1,h2,h3,h5,h4⟩:=oV M fr (k+1) _ _ (fun j hj=>by
   have:=hM (j+1) (by simpa using hj)
   rw[show k+1+j=k+(j+1) by omega]
   simpa using this) hr
  have hc1:kpQ (c::fr) 0=true↔c≠0:=by
   unfold kpQ
   cases c with
   | zero=>simp
   | succ n=>exact⟨fun _=>Nat.succ_ne_zero n,fun _=>rfl⟩
  have hc2:frQ (c::fr) 0=true↔c=1:=by
   unfold frQ
   simp[Nat.beq_eq]
  have e:(fun j=>if kpQ (c::fr) j=true∨(c::fr).length≤j then dZ A As j else Any)=dZ (if c≠0 then A else Any) (fun j=>if kpQ fr j=true∨fr.length≤j then As j else Any):=by
   funext j
   cases j with
   | zero=>
    show (if kpQ (c::fr) 0=true∨fr.length+1≤0 then A else Any)=(if c≠0 then A else Any)
    have:¬fr.length+1≤0:=by omega
    simp[this,hc1]
   | succ j=>
    show (if kpQ fr j=true∨fr.length+1≤j+1 then As j else Any)=_
    simp[dZ]
  refine⟨dZ A As,by simp only[List.length_cons];omega,?_,?_,?_,?_⟩
  ·intro j o' hj ho'
   cases j with
   | zero=>
    rw[Nat.add_zero,h0] at ho'
    obtain rfl:=Option.some.inj ho'
    exact⟨fun h=>hA1 fun hc=>(by rw[hc2.2 hc] at h;cases h),fun h=>hA2 (hc2.1 h),fun h=>hA3 (hc1.1 h)⟩
   | succ j=>
    rw[ea,hd]
    exact h2 j o' (by simpa using hj) (by rw[show k+1+j=k+(j+1) by omega];exact ho')
  ·intro o' ho'
   rw[List.length_cons,ea,hd]
   exact h3 o' (by rw[show k+1+fr.length=k+(fr.length+1) by omega];exact ho')
  ·intro j o' hj hj2 ho'
   rw[e]
   cases j with
   | zero=>simp at hj
   | succ j=>
    rw[ea,hd]
    have:=h5 j o' (by simpa using hj) (by simpa using hj2) (by rw[show k+1+j=k+(j+1) by omega];exact ho')
    rwa [show k+1+j=k+(j+1) by omega] at this
  ·rw[e,List.length_cons,ea,hd]
   exact h4

structure wJ (ops:Array Oper)(m x:Nat)(kp:Nat→Bool)(S:World→World→Prop)(F:World→Prop)(n:Nat)(ds:List Deferred)(w0:World)(L:Env)(As:Nat→VA)(listed:Array Bool)(a:Act)(w:World):Prop where
 ext:S w0 w
 pre:listed.getD x true=false→Ext w0 w
 post:listed.getD x false=true→F w
 size:a.tmps.size=n
 defers:a.defers=ds
 hL:∀t A,aI L t=some A→(∀j,j<m→aS ops j≠some t)→A.p (a.eval (.tmp t)) w
 hA:∀i,i<m→listed.getD i false=true→(listed.getD x true=false∨kp i=true∨x≤i)→∀d,aS ops i=some d→(As i).p (a.eval (.tmp d)) w

theorem oW {m x:Nat}{fr kp pf:Nat→Bool}{S:World→World→Prop}(hR:ct S){F:World→Prop}(hx0:x<m)(hFst:∀w w',Ext w w'→F w→F w'){L:Env}{As:Nat→VA}(hm:m≤ops.size)(hchk:∀i,i<m→dN ops m n i=true)(hchk2:∀i,m≤i→i<ops.size→da ops i=true)
  (hanc:∀j,j<x→fr j=false→ey ops 12 x j=true) (hpo:∀j,x<j→j<m→pf j=true∨ey ops 12 j x=true) (hpk:∀j o,x<j→j<m→ops[j]?=some o→pf j=true→StJ S (As j)) (hfk:∀j,fr j=true→kp j=true)
  (hfree:∀i o,i<x→fr i=true→ops[i]?=some o→∀t,(t∈cU o∨bV ops o=some t)→∀j,j<m→aS ops j=some t→kp j=true∧j≠x)
  (hopsP:∀j o,x<j→j<m→ops[j]?=some o→∀w1,S w0 w1→(pf j=true∨F w1)→GOp P ops w1 (aV ops L (fun j=>if kp j=true∨x≤j then As j else Any) 0 j) o (As j))
  (hops:∀j o,j<x→ops[j]?=some o→(fr j=false→GOp P ops w0 (aV ops L As 0 j) o (As j))∧(fr j=true→∀w1,S w0 w1→GOp P ops w1 (aV ops L As 0 j) o (As j))∧(kp j=true→StJ S (As j)))
  (hX:∀o,ops[x]?=some o→o.guard=none∧eb P w0 S F (aV ops L As 0 x) o (As x)) (hLav:eN S L)
  (hend:∀a w,S w0 w→F w→FrD n ds a w (aV ops L (fun j=>if kp j=true∨x≤j then As j else Any) 0 m)→wpListIn (FW r) 0 P ops Q (ops.toList.drop m) a w) :
  ∀(c:Nat) (listed:Array Bool) (a:Act) (w:World),(List.range m).countP (fun i => !listed.getD i true)=c→listed.size=ops.size →
   (∀j,m≤j→j<ops.size→listed.getD j true=false)→LD ops listed→wJ ops m x kp S F n ds w0 L As listed a w→wpAnyIn (FW r) 0 P .any ops Q (c+(ops.size - m)) listed a w
 | 0,listed,a,w,hc,hsz,hun,hld,hi=>by
  have hall:∀j,j<m→listed.getD j false=true:=by
   intro j hj
   have:=(List.countP_eq_zero.1 hc) j (List.mem_range.2 hj)
   have hjl:j<listed.size:=by omega
   simpa[hjl] using this
  rw[Nat.zero_add]
  refine hZ m hchk2 (ops.size - m) m (by omega) (Nat.le_refl _) listed a w hall hun hsz hld (hend a w hi.ext (hi.post (hall x hx0)) ⟨hi.size,hi.defers,fun t A ht=>?_⟩)
  rcases dO L _ t A m ht with ⟨j,hj,hd,rfl⟩|⟨hn,hl⟩
  ·by_cases hk:kp j=true∨x≤j
   ·rw[if_pos hk]
    exact hi.hA j hj (hall j hj) (.inr hk) t hd
   ·rw[if_neg hk];trivial
  ·exact hi.hL t A hl hn
 | c+1,listed,a,w,hc,hsz,hun,hld,hi=>by
  have facts:∀i o,i<m→ops[i]?=some o→(∀e∈o.after,Region.binds .any e=true→e.on<i)∧(∀d,o.dst=some d→d<n) ∧
    (∀t,t∈cU o∨bV ops o=some t→∀j,j<m→aS ops j=some t→bnd ops i j=true)∧(∀j,j<m→j≠i→∀d,o.dst=some d→aS ops j≠some d):=by
   intro i o hlt ho
   have:=hchk i hlt
   simp only[dN,ho,Bool.and_eq_true,Array.all_eq_true_iff_forall_mem,Bool.or_eq_true,Bool.not_eq_true',List.all_eq_true,List.mem_range,List.mem_append,Option.mem_toList] at this
   obtain⟨⟨⟨h1,h2⟩,h3⟩,h4⟩:=this
   refine⟨fun e he hb=>?_,fun d hd=>?_,fun t ht j hj hd=>?_,fun j hj hne d hd hd'=>?_⟩
   ·rcases h1 e he with h|h
    ·rw[hb] at h;cases h
    ·simpa[Nat.blt_eq] using h
   ·simpa[hd,Nat.blt_eq] using h2
   ·have:=h3 t ht j hj
    rcases this with h|h
    ·rw[hd] at h;simp at h
    ·exact h
   ·have:=h4 j hj
    rcases this with h|h
    ·exact hne (Nat.eq_of_beq_eq_true h)
    ·rw[hd,hd'] at h;simp at h
  have prog:∃i,i<m∧listed.getD i true=false∧∀j,j<i→listed.getD j true=true:=by
   have hex:∃i,i<m∧listed.getD i true=false:=by
    have hpos:0<(List.range m).countP (fun i => !listed.getD i true):=by omega
    obtain⟨i,hi,hb⟩:=List.countP_pos_iff.1 hpos
    exact⟨i,List.mem_range.1 hi,by simpa using hb⟩
   obtain⟨i,hlt,hb⟩:=hex
   induction i using Nat.strongRecOn with
   | _ i ih=>
    by_cases h:∃j,j<i∧listed.getD j true=false
    ·obtain⟨j,hj,hjb⟩:=h
     exact ih j hj (by omega) hjb
    ·refine⟨i,hlt,hb,fun j hj=>?_⟩
     cases hjb:listed.getD j true with
     | true=>rfl
     | false=>exact absurd ⟨j,hj,hjb⟩ h
  obtain⟨i0,hi0,hu0,hbelow⟩:=prog
  have hready:i0∈Region.ready .any ops listed:=by
   have ho:ops[i0]?=some (ops[i0]'(by omega)):=by simp
   refine mem_ready.2 ⟨hu0,_,ho,fun e he hb=>?_⟩
   have hlt:=(facts i0 _ hi0 ho).1 e he hb
   have:=hbelow _ hlt
   have hjl:e.on<listed.size:=by omega
   simpa[hjl] using this
  rw[show c+1+(ops.size - m)=(c+(ops.size - m))+1 by omega]
  refine⟨fun h0=>(by rw[h0] at hready;cases hready),fun i hir=>?_⟩
  obtain⟨hu,o,ho,hall⟩:=mem_ready.1 hir
  have hilt:i<ops.size:=(Array.getElem?_eq_some_iff.1 ho).1
  have listed_of_bnd:∀j,bnd ops i j=true→listed.getD j false=true:=by
   intro j hb
   simp only[bnd,ho] at hb
   obtain⟨e,he,hb⟩:=Array.any_eq_true'.1 hb
   simp only[Bool.and_eq_true] at hb
   have:=hall e he hb.1
   rwa [Nat.eq_of_beq_eq_true hb.2] at this
  have him:i<m:=by
   rcases Nat.lt_or_ge i m with h|h
   ·exact h
   ·have hc:=hchk2 i h hilt
    simp only[da,ho,Bool.and_eq_true,List.all_eq_true,List.mem_range] at hc
    have:=cov hld 12 i i0 (hc.2 i0 (by omega)) (fun o' ho' e he hb=>by
     rw[ho] at ho'
     obtain rfl:=Option.some.inj ho'
     exact hall e he hb)
    rw[ez hu0] at this
    cases this
  obtain⟨f1,f2,f3,f4⟩:=facts i o him ho
  have hlx:x<i→pf i=true∨listed.getD x false=true:=fun hxi=>(hpo i hxi him).imp id fun hco=>cov hld 12 i x hco (fun o' ho' e he hb=>by
   rw[ho] at ho'
   obtain rfl:=Option.some.inj ho'
   exact hall e he hb)
  have hxun:i<x→fr i=false→listed.getD x true=false:=by
   intro hix hfr
   cases hlx:listed.getD x true with
   | false=>rfl
   | true=>
    have hxl:x<listed.size:=by omega
    have hlx':listed.getD x false=true:=by simpa[hxl] using hlx
    have:=cov hld 12 x i (hanc i hix hfr) (fun o' ho' e he hb=>hld x o' hlx' ho' e he hb)
    rw[ez hu] at this
    cases this
  have hcond:i≤x→∀j,j<m→(∃t,(t∈cU o∨bV ops o=some t)∧aS ops j=some t)→(listed.getD x true=false∨kp j=true∨x≤j):=by
   rintro hix0 j hj ⟨t,ht,hd⟩
   by_cases hix:i=x
   ·exact .inl (hix▸hu)
   ·cases hfr:fr i with
    | true=>exact .inr (.inl ((hfree i o (by omega) hfr ho t ht j hj hd).1))
    | false=>exact .inl (hxun (by omega) hfr)
  have byLook:i≤x→∀t,(t∈cU o∨bV ops o=some t)→∀B,aI (aV ops L As 0 i) t=some B→B.p (a.eval (.tmp t)) w:=by
   intro hix t ht B hB
   rcases dO L As t B i hB with ⟨j,hj,hd,rfl⟩|⟨hn,hl⟩
   ·exact hi.hA j (by omega) (listed_of_bnd j (f3 t ht j (by omega) hd)) (hcond hix j (by omega) ⟨t,ht,hd⟩) t hd
   ·refine hi.hL t B hl fun j hj hd=>?_
    have hb:=f3 t ht j hj hd
    simp only[bnd,ho] at hb
    obtain⟨e,he,hb⟩:=Array.any_eq_true'.1 hb
    simp only[Bool.and_eq_true] at hb
    have hlt:=f1 e he hb.1
    rw[Nat.eq_of_beq_eq_true hb.2] at hlt
    exact hn j hlt hd
  have byLookP:∀t,(t∈cU o∨bV ops o=some t)→∀B,aI (aV ops L (fun j=>if kp j=true∨x≤j then As j else Any) 0 i) t=some B→B.p (a.eval (.tmp t)) w:=by
   intro t ht B hB
   rcases dO L _ t B i hB with ⟨j,hj,hd,rfl⟩|⟨hn,hl⟩
   ·by_cases hk:kp j=true∨x≤j
    ·rw[if_pos hk]
     exact hi.hA j (by omega) (listed_of_bnd j (f3 t ht j (by omega) hd)) (.inr hk) t hd
    ·rw[if_neg hk];trivial
   ·refine hi.hL t B hl fun j hj hd=>?_
    have hb:=f3 t ht j hj hd
    simp only[bnd,ho] at hb
    obtain⟨e,he,hb⟩:=Array.any_eq_true'.1 hb
    simp only[Bool.and_eq_true] at hb
    have hlt:=f1 e he hb.1
    rw[Nat.eq_of_beq_eq_true hb.2] at hlt
    exact hn j hlt hd
  have ops1:i≤x→∀x∈o.op.operands,∀B,opd (aV ops L As 0 i) x=some B→B.p (a.eval x) w:=fun hix x hx B hB=>by
   cases x with
   | tmp t=>exact byLook hix t (.inl (List.mem_filterMap.2 ⟨.tmp t,by simpa using hx,rfl⟩)) B hB
   | const v=>simp[opd] at hB;subst hB;rfl
   | global g=>simp[opd] at hB;subst hB;rfl
   | func f=>simp[opd] at hB;subst hB;rfl
  have ops2:∀x'∈o.op.operands,∀B,opd (aV ops L (fun j=>if kp j=true∨x≤j then As j else Any) 0 i) x'=some B→B.p (a.eval x') w:=fun x' hx B hB=>by
   cases x' with
   | tmp t=>exact byLookP t (.inl (List.mem_filterMap.2 ⟨.tmp t,by simpa using hx,rfl⟩)) B hB
   | const v=>simp[opd] at hB;subst hB;rfl
   | global g=>simp[opd] at hB;subst hB;rfl
   | func f=>simp[opd] at hB;subst hB;rfl
  have hdst:aS ops i=o.dst:=by simp[aS,ho]
  have step:∀v w',S w w'→(i≠x→Ext w w')→(i=x→∀j,j<x→kp j=true→StJ S (As j))→(As i).p v w'→(i=x→F w')→wpAnyIn (FW r) 0 P .any ops Q (c+(ops.size - m)) (listed.setIfInBounds i true) (a.put o.dst v) w':=by
   intro v w' hx hxe hxa hv hvF
   have stab:∀(A:VA) u,StJ S A→A.p u w→A.p u w':=fun A u hA h=>hA.av _ _ _ hx h
   refine oW hR hx0 hFst hm hchk hchk2 hanc hpo hpk hfk hfree hopsP hops hX hLav hend c _ _ _ ?_ (by simpa using hsz) ?_ ?_ ?_
   ·have:=iU m (fun j => !listed.getD j true) (fun j => !(listed.setIfInBounds i true).getD j true) i him (by simp only[hu,Bool.not_false])
     (by
       have hjl:i<listed.size:=by omega
       simp[hjl]) (fun j hj=>by simp only[getD_set_ne true (Ne.symm hj)])
    omega
   ·intro j hj hj'
    rw[getD_set_ne true (by omega)]
    exact hun j hj hj'
   ·exact hld.set fun o' ho' e he hb=>by
     rw[ho] at ho'
     obtain rfl:=Option.some.inj ho'
     exact hall e he hb
   ·refine⟨hR.tr hi.ext hx,fun hl=>?_,fun hl=>?_,by simp[hi.size],by simp[hi.defers],fun t A ht hn=>?_,fun j hj hl hcj d hd=>?_⟩
    ·have hix:i≠x:=by
      rintro rfl
      have hjl:i<listed.size:=by omega
      simp[hjl] at hl
     rw[getD_set_ne true hix] at hl
     exact Ext.tr (hi.pre hl) (hxe hix)
    ·by_cases hix:i=x
     ·exact hvF hix
     ·rw[getD_set_ne false hix] at hl
      exact hFst _ _ (hxe hix) (hi.post hl)
    ·have h0:=stab A _ ⟨hLav.av t A ht⟩ (hi.hL t A ht hn)
     cases hod:o.dst with
     | none=>exact h0
     | some d=>
      have:d≠t:=fun e=>hn i him (by rw[hdst,hod,e])
      rw[ev this]
      exact h0
    ·by_cases hji:j=i
     ·subst hji
      rw[hdst] at hd
      rw[hd,hY (by rw[hi.size];exact f2 d hd)]
      exact hv
     ·have hl':listed.getD j false=true:=by rwa [getD_set_ne false (Ne.symm hji)] at hl
      have hcj':listed.getD x true=false∨kp j=true∨x≤j:=by
       by_cases hix:i=x
       ·exact .inl (hix▸hu)
       ·rw[getD_set_ne true hix] at hcj
        exact hcj
      have h1:=hi.hA j hj hl' hcj' d hd
      have h0:(As j).p (a.eval (.tmp d)) w':=by
       by_cases hix:i=x
       ·rcases Nat.lt_trichotomy j x with hjx|h|h
        rotate_left
        ·exact absurd (h.trans hix.symm) hji
        ·rcases hpo j h hj with hp|hp
         ·exact stab _ _ (hpk j (ops[j]'(by omega)) h hj (by simp) hp) h1
         ·have:=cov hld 12 j x hp (fun o' ho' e he hb=>hld j o' hl' ho' e he hb)
          rw[ez (hix▸hu)] at this
          cases this
        refine stab _ _ (hxa hix j hjx ?_) h1
        rcases hcj with h|h|h
        ·have hxl:x<listed.size:=by omega
         subst hix
         simp[hxl] at h
        ·exact h
        ·omega
       ·exact (As j).st _ _ _ (hxe hix) h1
      cases hod:o.dst with
      | none=>exact h0
      | some d'=>
       have:d'≠d:=fun e=>f4 j hj hji d' hod (by rw[hd,e])
       rw[ev this]
       exact h0
  unfold wpOpIn
  simp only[ho]
  by_cases hix:i=x
  ·obtain⟨hgd,hxo⟩:=hX o (hix▸ho)
   have hw:Region.wanted o (yielded ops a.tmps)=true:=by unfold Region.wanted;rw[hgd]
   rw[if_pos hw]
   have hpre:Ext w0 w:=hi.pre (hix▸hu)
   exact (hxo.out a.eval w hpre (hix▸ops1 (Nat.le_of_eq hix))).wp fun v w' hv=>step v w' hv.1 (fun h=>absurd hix h) (fun _ j hj=>by
    have hoj:ops[j]?=some (ops[j]'(by omega)):=by simp
    exact fun hfj=>(hops j _ hj hoj).2.2 hfj) (hix▸hv.2.1) (fun _=>hv.2.2)
  ·have hg:if Region.wanted o (yielded ops a.tmps) then OpR P o a.eval w (fun v w'=>Ext w w'∧(As i).p v w') else (As i).p undef w:=by
    by_cases hlt:i<x
    ·cases hfr:fr i with
     | true=>exact (hops i o hlt ho).2.1 hfr w hi.ext a w (Ext.rfl' w) (ops1 (by omega)) (fun d B hd hB=>byLook (by omega) d (.inr hd) B hB)
     | false=>exact (hops i o hlt ho).1 hfr a w (hi.pre (hxun hlt hfr)) (ops1 (by omega)) (fun d B hd hB=>byLook (by omega) d (.inr hd) B hB)
    ·exact hopsP i o (by omega) him ho w hi.ext ((hlx (by omega)).imp id hi.post) a w (Ext.rfl' w) ops2 (fun d B hd hB=>byLookP d (.inr hd) B hB)
   split
   ·rename_i hw
    rw[if_pos hw] at hg
    exact (hg.wp fun v w' hv=>step v w' (hR.ext hv.1) (fun _=>hv.1) (fun h=>absurd h hix) hv.2 (fun h=>absurd h hix))
   ·rename_i hw
    rw[if_neg hw] at hg
    exact⟨fun _ _=>trivial,step undef w (hR.ext (Ext.rfl' w)) (fun _=>Ext.rfl' _) (fun h=>absurd h hix) hg (fun h=>absurd h hix)⟩

def lF (ops:Array Oper)(m:Nat)(fr pf:List Nat):Bool:=
 Nat.blt fr.length m&&((List.range fr.length).all fun j=>frQ fr j || ey ops 12 fr.length j)&&((List.range m).all fun j=>(Nat.ble j fr.length || pf.contains j) || ey ops 12 j fr.length) &&
 ((
   List.range fr.length).all fun i => !frQ fr i || match ops[i]? with
   | none=>false
   | some o=>(cU o++(bV ops o).toList).all fun t=>(List.range m).all fun j=>(match aS ops j with|some d => !Nat.beq d t|none=>true) || (kpQ fr j&&Nat.blt j fr.length))
abbrev wK (ops:Array Oper)(m:Nat)(fr:List Nat):Bool:=lF ops m fr []
theorem oX {id:Nat}{ops:Array Oper}{L:Env}{a:Act}{w:World}(m:Nat)(fr pf:List Nat)(S:World→World→Prop)(hR:ct S)(F:World→Prop)(hFst:∀w w',Ext w w'→F w→F w')(hmix:P.follows .mixedOrders=true)(hf:FrD n ds a w L)[hL:eN S L](hchk:chk ops m n=true)(hchkZ:lF ops m fr pf=true)
  (h:dM P ops w S F pf 0 fr (ops.toList.take m) (fun L'=>∀a' w',S w w'→F w'→FrD n ds a' w' L'→wpListIn (FW r) 0 P ops Q (ops.toList.drop m) a' w') L L):(Code.region id ops true).wpIn (FW r) 0 P Q a w:=by
 simp only[chk,Bool.and_eq_true,List.all_eq_true,List.mem_range,Bool.or_eq_true,Nat.ble_eq] at hchk
 obtain⟨⟨hm,h1⟩,h2⟩:=hchk
 refine wpIn_region_any hmix ?_
 have hlen:(ops.toList.take m).length=m:=by simp;omega
 obtain⟨As,hfl,hAs,hX,hPo,hK⟩:=oV (ops:=ops) (ops.toList.take m) fr 0 L L (fun j hj=>by
  rw[hlen] at hj
  rw[Nat.zero_add,List.getElem?_take,if_pos hj];simp) h
 rw[hlen] at hK hfl hPo
 simp only[lF,Bool.and_eq_true,List.all_eq_true,List.mem_range,Bool.or_eq_true,Nat.blt_eq,Nat.ble_eq] at hchkZ
 obtain⟨⟨⟨hx,z1⟩,z3⟩,z2⟩:=hchkZ
 have hext:Ext w { w with drawn:=w.drawn+1 }:=Ext.drew w
 have:=oW (P:=P) (ops:=ops) (Q:=Q) (w0:=w) (n:=n) (ds:=ds) (m:=m) (x:=fr.length) (fr:=frQ fr) (kp:=kpQ fr) (pf:=pf.contains) (S:=S) (F:=F) (r:=r) (L:=L) (As:=As) hR hx hFst hm h1 (fun i hi hi'=>by
   rcases h2 i hi' with h|h
   ·simp only[Nat.blt_eq] at h;omega
   ·exact h) (fun j hj hfj=>by
   rcases z1 j hj with h|h
   ·rw[hfj] at h;cases h
   ·exact h) (fun j hj hjm=>by
   rcases z3 j hjm with (h|h)|h
   ·omega
   ·exact .inl h
   ·exact .inr h) (fun j o hj hjm ho hp=>(hPo j o hj hjm (by simpa using ho)).2 (by simpa using hp)) (fun j h=>by
   unfold frQ at h
   unfold kpQ
   rw[Nat.eq_of_beq_eq_true h];rfl) (fun i o hi hfi ho t ht j hj hd=>by
   have:=z2 i hi
   rw[hfi,ho] at this
   simp only[Bool.not_true,Bool.false_eq_true,false_or,List.all_eq_true,List.mem_append,Option.mem_toList,List.mem_range,Bool.or_eq_true] at this
   rcases this t ht j hj with h|h
   ·rw[hd] at h;simp at h
   ·rw[Bool.and_eq_true,Nat.blt_eq] at h
    exact⟨h.1,by omega⟩) (fun j o hj hjm ho w1 a b=>(hPo j o hj hjm (by simpa using ho)).1 w1 a (by simpa using b)) (fun j o hj ho=>hAs j o hj (by simpa using ho)) (fun o ho=>hX o (by simpa using ho)) hL (fun a w hx hF hf=>hK a w hx hF hf) m
  (Array.replicate ops.size false) a { w with drawn:=w.drawn+1 } ?_ (by simp) ?_ ?_ ⟨hR.ext hext,fun _=>hext,fun hl=>?_,hf.size,hf.defers,fun t A ht _=>A.st _ _ _ hext (hf.val t A ht),fun i hi hl=>?_⟩
 ·rwa [show m+(ops.size - m)=ops.size by omega] at this
 ·have:(List.range m).countP (fun i => !(Array.replicate ops.size false).getD i true)=(List.range m).length:=by
   refine List.countP_eq_length.2 fun i hi=>?_
   have:=List.mem_range.1 hi
   have hlt:i<ops.size:=by omega
   simp[hlt]
  simpa using this
 ·intro j _ hj
  simp[hj]
 ·intro i o hl
  have:(Array.replicate ops.size false).getD i false=false:=by
   by_cases hlt:i<ops.size <;> simp[hlt]
  rw[this] at hl;cases hl
 ·have:(Array.replicate ops.size false).getD fr.length false=false:=by
   by_cases hlt:fr.length<ops.size <;> simp[hlt]
  rw[this] at hl;cases hl
 ·have:(Array.replicate ops.size false).getD i false=false:=by
   by_cases hlt:i<ops.size <;> simp[hlt]
  rw[this] at hl;cases hl
theorem eP {id:Nat}{ops:Array Oper}{L:Env}{a:Act}{w:World}(m:Nat)(fr:List Nat)(S:World→World→Prop)(hR:ct S)(F:World→Prop)(hFst:∀w w',Ext w w'→F w→F w')(hmix:P.follows .mixedOrders=true)(hf:FrD n ds a w L)[hL:eN S L](hchk:chk ops m n=true)(hchkZ:wK ops m fr=true)
  (h:dM P ops w S F [] 0 fr (ops.toList.take m) (fun L'=>∀a' w',S w w'→F w'→FrD n ds a' w' L'→wpListIn (FW r) 0 P ops Q (ops.toList.drop m) a' w') L L):(Code.region id ops true).wpIn (FW r) 0 P Q a w:=oX m fr [] S hR F hFst hmix hf hchk hchkZ h
end
section
variable {P:Program}{w0:World}{L L2:Env}{ty:TypeId}{pos:String}{aft:Array Edge}
variable {ops:Array Oper}{rest:List Oper}{K:Env→Prop}{A:VA}{op:Op}{dd:Nat}{S:World→World→Prop}{F:World→Prop}{fr pf:List Nat}{kk:Nat}
theorem jf (h:∀w1,S w0 w1→OpC P w1 L ⟨some dd,op,ty,pos,aft,none⟩ A)[hA:StJ S A](k:dM P ops w0 S F pf (kk+1) fr rest K ((dd,A)::L) ((dd,A)::L2)):dM P ops w0 S F pf kk (1::fr) (⟨some dd,op,ty,pos,aft,none⟩::rest) K L L2:=
 ⟨A,fun h=>absurd rfl h,fun _ w1 h1 a w he hv _=>by simp only[Region.wanted,if_true];exact (h w1 h1).out _ w he hv,fun _=>hA,k⟩
theorem ja (h:OpC P w0 L ⟨some dd,op,ty,pos,aft,none⟩ A)(k:dM P ops w0 S F pf (kk+1) fr rest K ((dd,A)::L) ((dd,Any)::L2)):dM P ops w0 S F pf kk (0::fr) (⟨some dd,op,ty,pos,aft,none⟩::rest) K L L2:=
 ⟨A,fun _ a w he hv _=>by simp only[Region.wanted,if_true];exact h.out _ w he hv,fun h=>(by cases h),fun h=>absurd rfl h,k⟩
theorem jk (h:OpC P w0 L ⟨some dd,op,ty,pos,aft,none⟩ A)[hA:StJ S A](k:dM P ops w0 S F pf (kk+1) fr rest K ((dd,A)::L) ((dd,A)::L2)):dM P ops w0 S F pf kk (2::fr) (⟨some dd,op,ty,pos,aft,none⟩::rest) K L L2:=
 ⟨A,fun _ a w he hv _=>by simp only[Region.wanted,if_true];exact h.out _ w he hv,fun h=>(by cases h),fun _=>hA,k⟩
theorem jx {d:Option Nat}(h:eb P w0 S F L ⟨d,op,ty,pos,aft,none⟩ A)(k:eO P ops w0 S F pf (kk+1) rest K (push d A L2)):dM P ops w0 S F pf kk [] (⟨d,op,ty,pos,aft,none⟩::rest) K L L2:=⟨rfl,A,h,k⟩
theorem jp (h:∀w1,S w0 w1→F w1→OpC P w1 L2 ⟨some dd,op,ty,pos,aft,none⟩ A)(k:eO P ops w0 S F pf (kk+1) rest K ((dd,A)::L2))(hk:pf.contains kk=false:=by exact rfl):eO P ops w0 S F pf kk (⟨some dd,op,ty,pos,aft,none⟩::rest) K L2:=
 ⟨A,fun w1 h1 h2 a w he hv _=>by simp only[Region.wanted,if_true];exact (h w1 h1 (h2.resolve_left (by rw[hk];decide))).out _ w he hv,fun h=>(by rw[hk] at h;cases h),k⟩
theorem jq (h:∀w1,S w0 w1→OpC P w1 L2 ⟨some dd,op,ty,pos,aft,none⟩ A)[hA:StJ S A](k:eO P ops w0 S F pf (kk+1) rest K ((dd,A)::L2)):eO P ops w0 S F pf kk (⟨some dd,op,ty,pos,aft,none⟩::rest) K L2:=
 ⟨A,fun w1 h1 _ a w he hv _=>by simp only[Region.wanted,if_true];exact (h w1 h1).out _ w he hv,fun _=>hA,k⟩
theorem je (h:K L2):eO P ops w0 S F pf kk [] K L2:=h
end
end Go.Mono
namespace Go.Mono
open Go Go.RowKit
structure ChT (N:Nat)(t:TypeId)(w w':World):Prop where
 chg:Chg (fun b=>N≤b) w w'
 oth:∀(b:Nat) (o:Obj),w.heap[b]?=some o→(∀cs m,o≠.cells cs t m)→w'.heap[b]?=some o
theorem ChT.rel (N:Nat)(t:TypeId):ct (ChT N t):=⟨fun h k=>⟨h.chg.tr k.chg,fun b o hb ho=>k.oth b o (h.oth b o hb ho) ho⟩,fun e=>⟨e.chg _,fun b o hb ho=>(e.block b (Array.getElem?_eq_some_iff.1 hb).1).trans hb⟩⟩
theorem Blk.chT {N:Nat}{t:TypeId}{w w':World}{b:Nat}{cs:Array Value}{t':TypeId}(h:Blk w b cs t')(k:ChT N t w w')(hne:t'≠t):Blk w' b cs t':=k.oth b _ h fun cs m hh=>hne (by cases hh;rfl)
instance (N:Nat)(t:TypeId){α:Type}(e:Enc α)(G:Nat→Prop)(x:α)[h:InS G (fun b=>N≤b)]:StJ (ChT N t) (Dv e G x):=⟨fun v w w' k h1=>Dv.ch h1 k.chg h.in'⟩
instance (N:Nat):InS (fun b=>N≤b) (fun b=>N≤b):=⟨fun _ h=>h⟩
theorem wL {N:Nat}{t t':TypeId}(B:Nat)(z:Value)(hne:t'≠t):StJ (ChT N t) (AlA B z t'):=⟨fun v w w' k ⟨b,h1,h2,h3⟩=>⟨b,h1,h2,h3.chT k hne⟩⟩
theorem xst {P:Program}{w0:World}{L:Env}{ty:TypeId}{pos:String}{aft:Array Edge}{x y:Operand}{t:TypeId}{N B s:Nat}{z:Value}{A:VA}(ht:TI P t true s)(hx:opd L x=some (AlA B z t))(hN:N≤B)(hz:z.cells.size=s)
  (hy:opd L y=some A) (hA:∀v w,A.p v w→∃cs,v=.agg cs∧cs.size=s∧cs.all (·.oneCell')=true):eb P w0 (ChT N t) (fun _=>True) L ⟨none,.store t x y,ty,pos,aft,none⟩ Any:=by
 refine⟨fun ρ w he hv=>?_⟩
 obtain⟨b,hb,hxv,hB⟩:=hv x (by simp[Op.operands]) _ hx
 obtain⟨cs,hyv,hcs,h1⟩:=hA _ _ (hv y (by simp[Op.operands]) _ hy)
 have hc:(Value.agg cs).cells=cs:=rfl
 have hrun:=run_storeCells_at (P:=P) b 0 t cs.toList 0 z.cells w hB (by simp;omega) (fun v hv=>by rw[Array.all_eq_true_iff_forall_mem] at h1;exact h1 v (by simpa using hv))
 simp only[Nat.add_zero,Array.length_toList,hcs] at hrun
 have hrun2:OpR P ⟨none,.store t x y,ty,pos,aft,none⟩ ρ w (fun _ w'=>w'=w.setRow b (z.cells.toList.take 0++cs.toList++z.cells.toList.drop (0+s)).toArray):=by
  simp[OpR,execOp,Instr.storeAt,Instr.sureAddr,hxv,hyv,storeVar,hc,ht.size,hcs,hrun]
 refine hrun2.mono ?_
 rintro v w' rfl
 have hg:=dP w b (z.cells.toList.take 0++cs.toList++z.cells.toList.drop (0+s)).toArray
 refine⟨⟨⟨hg.os,hg.tape,hg.output,hg.size,fun k hk hn=>hg.block k hk fun hh=>hn (by cases hh;omega)⟩,fun c o hc ho=>?_⟩,trivial,trivial⟩
 have hcb:c≠b:=by
  rintro rfl
  rw[hB] at hc
  cases hc
  exact ho _ _ rfl
 exact (hg.block c (Array.getElem?_eq_some_iff.1 hc).1 fun hh=>hcb (by cases hh;rfl)).trans hc
instance (S:World→World→Prop){P:Program}{α β:Type}[DecidableEq α](V:KV P α β)(l:List (α×β))(i:α)(z:β):StJ S (lC V l i z):=⟨fun _ _ _ _ h=>h⟩
instance (S:World→World→Prop)(A B:VA)[hA:StJ S A][hB:StJ S B]:StJ S (Tup [A,B]):=⟨fun v w w' k ⟨vs,h1,h2,h3⟩=>⟨vs,h1,h2,fun i C hC=>by
 have h4:=h3 i C hC
 match i,hC with
 | 0,hC=>simp at hC;subst hC;exact hA.av _ _ _ k h4
 | 1,hC=>simp at hC;subst hC;exact hB.av _ _ _ k h4⟩⟩
instance {S:Nat→Prop}{A:VA}[h:AvS S A]:StJ (Chg S) A:=⟨h.av⟩
instance {S:Nat→Prop}{L:Env}[h:ff S L]:eN (Chg S) L:=⟨h.av⟩
theorem ct.chg (S:Nat→Prop):ct (Chg S):=⟨fun h k=>h.tr k,fun e=>e.chg _⟩
theorem ct.one (b:Nat):ct (Chg fun c=>c=b):=⟨fun h k=>h.tr k,fun e=>e.chg _⟩
instance (b:Nat){α:Type}(e:Enc α)(G:Nat→Prop)(x:α)[h:InR G (some b)]:StJ (Chg fun c=>c=b) (Dv e G x):=⟨fun v w w' k h1=>Dv.ch h1 k fun c hc=>h.in' c (by rw[hc])⟩
theorem wM {P:Program}{w0:World}{L:Env}{ty:TypeId}{pos:String}{aft:Array Edge}{x y:Operand}{t bt:TypeId}{b s:Nat}{cs0:Array Value}{A:VA}(ht:TI P t true s)(hx:opd L x=some (E (.pointer (some ⟨b,0,none⟩))))(hB:Blk w0 b cs0 bt)(hz:cs0.size=s)
  (hy:opd L y=some A) (hA:∀v w,A.p v w→∃cs,v=.agg cs∧cs.size=s∧cs.all (·.oneCell')=true) (hst:∀v w w',Chg (fun c=>c=b) w w'→A.p v w→A.p v w') :
  eb P w0 (Chg fun c=>c=b) (fun w'=>∃cs,Blk w' b cs bt∧A.p (.agg cs) w') L ⟨none,.store t x y,ty,pos,aft,none⟩ Any:=by
 refine⟨fun ρ w he hv=>?_⟩
 have hxv:ρ x=.pointer (some ⟨b,0,none⟩):=hv x (by simp[Op.operands]) _ hx
 have hAy:=hv y (by simp[Op.operands]) _ hy
 obtain⟨cs,hyv,hcs,h1⟩:=hA _ _ hAy
 have hB':=hB.ext he
 have hc:(Value.agg cs).cells=cs:=rfl
 have hrun:=run_storeCells_at (P:=P) b 0 bt cs.toList 0 cs0 w hB' (by simp;omega) (fun v hv=>by rw[Array.all_eq_true_iff_forall_mem] at h1;exact h1 v (by simpa using hv))
 simp only[Nat.add_zero,Array.length_toList,hcs] at hrun
 have hfin:(cs0.toList.take 0++cs.toList++cs0.toList.drop (0+s)).toArray=cs:=by
  have:cs0.toList.drop (0+s)=[]:=by rw[List.drop_eq_nil_iff];simp;omega
  rw[this];simp
 have hrun2:OpR P ⟨none,.store t x y,ty,pos,aft,none⟩ ρ w (fun _ w'=>w'=w.setRow b (cs0.toList.take 0++cs.toList++cs0.toList.drop (0+s)).toArray):=by
  simp[OpR,execOp,Instr.storeAt,Instr.sureAddr,hxv,hyv,storeVar,hc,ht.size,hcs,hrun]
 refine hrun2.mono ?_
 rintro v w' rfl
 rw[hfin]
 have hg:=dP w b cs
 have hch:Chg (fun c=>c=b) w (w.setRow b cs):=⟨hg.os,hg.tape,hg.output,hg.size,fun k hk hn=>hg.block k hk fun hh=>hn (by cases hh;rfl)⟩
 refine⟨hch,trivial,cs,setRow_heap _ _ _ _ _ _ hB',?_⟩
 rw[← hyv]
 exact hst _ _ _ hch hAy
end Go.Mono
namespace Go.Mono
open Go Go.Proofs Go.RowKit Go.Gr
theorem bTs (id:FuncId)(caps:Array Value)(c:Int):Tryz.prog.built 116 [(0,.func (.func id) #[] caps),(1,.int .i64 c)]=some #[.func (.func id) #[] caps,.int .i64 c]:=by kernel_rfl
theorem wN {l:List (Bool×Int)}{k:Nat}{b:Bool}{c:Int}(h:∀y∈l.take k,y.1=false)(hx:l[k]?=some (b,c))(hb:b=true):eI l=c:=by
 induction l generalizing k with
 | nil=>simp at hx
 | cons y r ih=>
  cases k with
  | zero=>simp at hx;subst hx;subst hb;rfl
  | succ k=>
   have h0:=h y (by simp)
   obtain⟨y1,y2⟩:=y
   simp only at h0
   subst h0
   simp only[eI,Bool.false_eq_true,if_false]
   exact ih (fun z hz=>h z (by rw[List.take_succ_cons];exact List.mem_cons_of_mem _ hz)) (by simpa using hx)
theorem wO {l:List (Bool×Int)}(h:∀y∈l.take l.length,y.1=false):eI l=0:=by
 rw[List.take_length] at h
 induction l with
 | nil=>rfl
 | cons y r ih=>
  have h0:=h y (by simp)
  obtain⟨y1,y2⟩:=y
  simp only at h0
  subst h0
  simp only[eI,Bool.false_eq_true,if_false]
  exact ih fun z hz=>h z (by simp[hz])
theorem wP {m n:Int}(hm:(Lit.int .i64 m).wf=true)(hn:(Lit.int .i64 n).wf=true):(Lit.int .i64 (min m n)).wf=true∧(Lit.int .i64 (max m n)).wf=true:=by
 by_cases h:m≤n
 ·rw[Int.min_eq_left h,Int.max_eq_right h];exact⟨hm,hn⟩
 ·rw[Int.min_eq_right (by omega),Int.max_eq_left (by omega)];exact⟨hn,hm⟩
theorem oY {m n:Int}(hm:(Lit.int .i64 m).wf=true)(hn:(Lit.int .i64 n).wf=true):eKV.ok (Gr.ends m n):=wP hm hn
theorem th0:okT (0,0):=⟨by decide,by decide⟩
theorem Blk.bo {w:World}{b:Nat}{t:TypeId}{c:Bool}(h:Blk w b #[.bool c] t):(Dv (ptE cL) G0 (some c)).p (.pointer (some ⟨b,0,none⟩)) w:=
 Dv.pt.2 ⟨_,rfl,fun h=>h.elim,h.lt,_,rfl,fun i u hu=>by
  have:(Addr.mk b 0 none).add i=⟨b,i,none⟩:=by simp[Addr.add];intro h;exact h.symm
  rw[this,h.cell];simpa using hu⟩
instance (N B:Nat)(z:Value):StJ (ChT N 107) (AlA B z 4):=wL B z (by decide)
theorem wQ {G:Nat→Prop}{M:Nat}(g:GT)(d:DT)(v:Value)(W:World)(h:(Dv (ptE (grE M)) G (some g)).p v W)(hw:(Lit.int .i64 d.2.1).wf=true)(hw2:(Lit.int .i64 d.2.2.1).wf=true) :
  Calls Tryz.prog 25 #[v,dtV d] W (Post (E (I (bu g d))) W):=by
 refine enter (args:=[v,dtV d]) (As:=[Dv (ptE (grE M)) G0 (some g),Dv dtE G0 d]) Tryz.func25 rfl Tryz.ntmps25 (Nat.le_of_ble_eq_true rfl) ?_ (fun a hf=>?_) (Nat.le_of_ble_eq_true rfl)
 rotate_left
 dsimp only[params,Nat.reduceAdd] at hf
 rotate_right
 ·exact arg2 (Dv.weak h fun b _ hb=>hb.elim) (Dv.dt.2 rfl)
 have e:=Ext.rfl' W
 refine seq ?_
 refine aj ?_
 refine fi hf rfl (by decide) (fun _ h=>h.elim) fun a w e' hf=>?_
 replace e:=e.tr e'
 clear e'
 refine fi hf rfl (by decide) (fun _ h=>h.elim) fun a w e' hf=>?_
 replace e:=e.tr e'
 refine ae hf rfl (by decide) fun a hf=>?_
 refine aa ?_
 obtain⟨N,hN⟩:∃N,N=w.heap.size:=⟨_,rfl⟩
 have hNW:W.heap.size≤N:=by rw[hN];exact e.size
 replace hf:=hf.upd 2 rfl (fun v hv=>Dv.weak (G':=fun b=>N≤b) hv (fun b hb hn=>absurd hb (by omega)))
 replace hf:=hf.upd 3 rfl (fun v hv=>Dv.weak (G':=fun b=>N≤b) hv (fun b hb hn=>absurd hb (by omega)))
 have hNs:N≤w.heap.size:=Nat.le_of_eq hN
 clear hN
 replace hf:=hf.kp [2,3,4]
 have hq1:=hNs
 refine seq ?_
 refine eP 13 [1,1,1,1,1,1,1,1,1,1,0,2] (ChT N 107) (ChT.rel _ _) (fun w=>True) (fun w w1 k h=>trivial) Mix.mix hf (by decide +kernel) (by decide +kernel) ?_
 refine jf (fun w1 h1=>ldD T28 (isR rfl)) ?_
 refine jf (fun w1 h1=>fg (isR rfl)) ?_
 refine jf (fun w1 h1=>aH eE rfl dQ (by decide) (Fld.fst Fld.refl) (isR rfl)) ?_
 refine jf (fun w1 h1=>ldD dQ (isR rfl)) ?_
 refine jf (fun w1 h1=>aH U38 rfl T3 (by decide) (Fld.snd (Fld.fst Fld.refl) rfl) (isR rfl)) ?_
 refine jf (fun w1 h1=>ldI T3 (isR rfl)) ?_
 refine jf (fun w1 h1=>iv (V:=vKV) (i:=d.2.1) (z:=(0,0)) jh (dH eZ) th0 (isR rfl) rfl hw) ?_
 refine jf (fun w1 h1=>mv rfl) ?_
 refine jf (fun w1 h1=>aY rfl rfl) ?_
 refine jf (fun w1 h1=>aY rfl rfl) ?_
 refine ja (alD eZ) ?_
 refine jk (alD I4) ?_
 refine jx (xst ie rfl hNs rfl rfl (fun v w hv=>by obtain⟨c,rfl,_⟩:=hv;exact⟨_,rfl,rfl,bR rfl rfl⟩)) ?_
 refine je ?_
 refine fun a w hc HF hf=>?_
 try dsimp only[push] at hf
 obtain⟨_,⟨b6,hb6,rfl,B6⟩,hf⟩:=hf.fix 6 rfl
 replace e:=e.ch hc.chg (fun b hb=>by omega);replace hNs:=Nat.le_trans hNs hc.chg.size;clear hc
 haveI:InR (fun b=>N≤b) (some b6):=⟨fun b hb=>by cases hb;omega⟩
 replace hf:=hf.kp [2,3,4,6,22]
 refine aO T4 hf rfl rfl rfl B6 (by decide) fun w hg hsz B6 hf=>?_
 replace e:=e.gr hg (by omega);replace hNs:=Nat.le_trans hNs hg.size;clear hg
 refine aa ?_
 replace B6:Blk w b6 #[.bool (inV g.1 d.2.1)] 4:=B6
 replace hf:=hf.kp [2,3,4,6]
 have hq2:=hNs
 refine seq ?_
 refine eP 13 [1,1,1,1,1,1,1,1,1,1,0,2] (ChT N 107) (ChT.rel _ _) (fun w=>True) (fun w w1 k h=>trivial) Mix.mix hf (by decide +kernel) (by decide +kernel) ?_
 refine jf (fun w1 h1=>ldD T28 (isR rfl)) ?_
 refine jf (fun w1 h1=>fg (isR rfl)) ?_
 refine jf (fun w1 h1=>aH eE rfl dQ (by decide) (Fld.fst Fld.refl) (isR rfl)) ?_
 refine jf (fun w1 h1=>ldD dQ (isR rfl)) ?_
 refine jf (fun w1 h1=>aH U38 rfl T3 (by decide) (Fld.snd (Fld.snd (Fld.fst Fld.refl) rfl) rfl) (isR rfl)) ?_
 refine jf (fun w1 h1=>ldI T3 (isR rfl)) ?_
 refine jf (fun w1 h1=>iv (V:=vKV) (i:=d.2.2.1) (z:=(0,0)) jh (dH eZ) th0 (isR rfl) rfl hw2) ?_
 refine jf (fun w1 h1=>mv rfl) ?_
 refine jf (fun w1 h1=>aY rfl rfl) ?_
 refine jf (fun w1 h1=>aY rfl rfl) ?_
 refine ja (alD eZ) ?_
 refine jk (alD I4) ?_
 refine jx (xst ie rfl hNs rfl rfl (fun v w hv=>by obtain⟨c,rfl,_⟩:=hv;exact⟨_,rfl,rfl,bR rfl rfl⟩)) ?_
 refine je ?_
 refine fun a w hc HF hf=>?_
 try dsimp only[push] at hf
 obtain⟨_,⟨b8,hb8,rfl,B8⟩,hf⟩:=hf.fix 8 rfl
 have n68:b6≠b8:=by have:=B6.lt;omega
 replace e:=e.ch hc.chg (fun b hb=>by omega);replace hNs:=Nat.le_trans hNs hc.chg.size;replace B6:=B6.chT hc (by decide);clear hc
 haveI:InR (fun b=>N≤b) (some b8):=⟨fun b hb=>by cases hb;omega⟩
 replace hf:=hf.kp [2,3,4,6,8,32]
 refine aO T4 hf rfl rfl rfl B8 (by decide) fun w hg hsz B8 hf=>?_
 replace e:=e.gr hg (by omega);replace hNs:=Nat.le_trans hNs hg.size;replace B6:=B6.gr hg n68;clear hg
 refine aa ?_
 replace B8:Blk w b8 #[.bool (inV g.1 d.2.2.1)] 4:=B8
 replace hf:=hf.kp [2,3,4,6,8]
 have hq3:=hNs
 refine seq ?_
 refine eP 16 [1,1,1,1,1,1,1,1,1,1,1,1,1,0,2] (ChT N 107) (ChT.rel _ _) (fun w=>True) (fun w w1 k h=>trivial) Mix.mix hf (by decide +kernel) (by decide +kernel) ?_
 refine jf (fun w1 h1=>ldD T28 (isR rfl)) ?_
 refine jf (fun w1 h1=>fg (isR rfl)) ?_
 refine jf (fun w1 h1=>aH eE rfl dR (by decide) (Fld.snd Fld.refl rfl) (isR rfl)) ?_
 refine jf (fun w1 h1=>ldD dR (isR rfl)) ?_
 refine jf (fun w1 h1=>aH U38 rfl T3 (by decide) (Fld.snd (Fld.fst Fld.refl) rfl) (isR rfl)) ?_
 refine jf (fun w1 h1=>ldI T3 (isR rfl)) ?_
 refine jf (fun w1 h1=>aH U38 rfl T3 (by decide) (Fld.snd (Fld.snd (Fld.fst Fld.refl) rfl) rfl) (isR rfl)) ?_
 refine jf (fun w1 h1=>ldI T3 (isR rfl)) ?_
 refine jf (fun w1 h1=>aD (A:=E (enV (Gr.ends d.2.1 d.2.2.1))) nq rfl rfl (fun v u w he h h'=>by cases h;cases h';exact oT d.2.1 d.2.2.1 w)) ?_
 refine jf (fun w1 h1=>iv (V:=eKV) (i:=Gr.ends d.2.1 d.2.2.1) (z:=(0,0)) ij (dH eZ) th0 (isR rfl) rfl (oY hw hw2)) ?_
 refine jf (fun w1 h1=>mv rfl) ?_
 refine jf (fun w1 h1=>aY rfl rfl) ?_
 refine jf (fun w1 h1=>aY rfl rfl) ?_
 refine ja (alD eZ) ?_
 refine jk (alD I4) ?_
 refine jx (xst ie rfl hNs rfl rfl (fun v w hv=>by obtain⟨c,rfl,_⟩:=hv;exact⟨_,rfl,rfl,bR rfl rfl⟩)) ?_
 refine je ?_
 refine fun a w hc HF hf=>?_
 try dsimp only[push] at hf
 obtain⟨_,⟨b10,hb10,rfl,B10⟩,hf⟩:=hf.fix 10 rfl
 have n610:b6≠b10:=by have:=B6.lt;omega
 have n810:b8≠b10:=by have:=B8.lt;omega
 replace e:=e.ch hc.chg (fun b hb=>by omega);replace hNs:=Nat.le_trans hNs hc.chg.size;replace B6:=B6.chT hc (by decide);replace B8:=B8.chT hc (by decide);clear hc
 haveI:InR (fun b=>N≤b) (some b10):=⟨fun b hb=>by cases hb;omega⟩
 replace hf:=hf.kp [2,3,4,6,8,10,45]
 refine aO T4 hf rfl rfl rfl B10 (by decide) fun w hg hsz B10 hf=>?_
 replace e:=e.gr hg (by omega);replace hNs:=Nat.le_trans hNs hg.size;replace B6:=B6.gr hg n610;replace B8:=B8.gr hg n810;clear hg
 refine aa ?_
 replace B10:Blk w b10 #[.bool (inE g.2 d.2.1 d.2.2.1)] 4:=B10
 replace hf:=hf.kp [2,3,4,6,8,10]
 obtain⟨p2,hp2,hf⟩:=hf.fix 2 rfl
 obtain⟨p3,hp3,hf⟩:=hf.fix 3 rfl
 repeat refine seq ?_
 refine ac 19 hf (by decide +kernel) ?_
 refine st (io rfl) ?_
 refine st (bG [(0,_),(1,_)] rfl (bTs _ _ _)) ?_
 refine st (io rfl) ?_
 refine st (bG [(0,_),(1,_)] rfl (bTs _ _ _)) ?_
 refine st (io rfl) ?_
 refine st (bG [(0,_),(1,_)] rfl (bTs _ _ _)) ?_
 refine st (ip rfl rfl) ?_
 refine st (bG [(0,_),(1,_)] rfl (bTs _ _ _)) ?_
 refine st (oN rfl rfl rfl) ?_
 refine st (bG [(0,_),(1,_)] rfl (bTs _ _ _)) ?_
 refine st (ip rfl rfl) ?_
 refine st (bG [(0,_),(1,_)] rfl (bTs _ _ _)) ?_
 refine st (ip rfl rfl) ?_
 refine st (bG [(0,_),(1,_)] rfl (bTs _ _ _)) ?_
 refine st (ip rfl rfl) ?_
 refine st (bG [(0,_),(1,_)] rfl (bTs _ _ _)) ?_
 refine st (js (e:=tsE Tryz.prog) (G:=G0) (zs:=tests g d) (xs:=[.tmp 47,.tmp 49,.tmp 51,.tmp 53,.tmp 55,.tmp 57,.tmp 59,.tmp 61]) kP mZ rfl rfl (by decide) (by decide) rfl (fun b hb=>hb.elim)  ⟨isE rfl (Dv.ts' tF (fun w' k=>wz d w' p3 (Dv.hp hp3 k))),isE rfl (Dv.ts' tG (fun w' k=>wA d w' p3 (Dv.hp hp3 k))),isE rfl (Dv.ts' tJ (fun w' k=>wB d w' p3 (Dv.hp hp3 k))), isE rfl (Dv.ts' tK (fun w' k=>wC d w' p3 _ _ (Dv.hp hp3 k) (Dv.hp B6.bo k))),isE rfl (Dv.ts' tL (fun w' k=>wD d w' p3 _ _ _ _ (Dv.hp hp3 k) (Dv.hp B6.bo k) (Dv.hp B8.bo k))),isE rfl (Dv.ts' tM (fun w' k=>wE d w' p3 _ _ (Dv.hp hp3 k) (Dv.hp B10.bo k))), isE rfl (Dv.ts' tN (fun w' k=>wF d w' p3 _ _ (Dv.hp hp3 k) (Dv.hp B10.bo k))),isE rfl (Dv.ts' tO (fun w' k=>wG g d M w' p3 p2 (Dv.hp hp3 k) (Dv.hp hp2 k))),trivial⟩) ?_
 refine st (bi kP (isR rfl)) ?_
 refine st (mv rfl) ?_
 refine en fun a w e' hf=>?_
 replace e:=e.tr e'
 refine aa ?_
 obtain⟨W4,hW4⟩:∃W4,W4=w:=⟨_,rfl⟩
 have hNW4:W.heap.size≤W4.heap.size:=by rw[hW4];exact e.size
 replace hf:=hf.upd 62 rfl (fun v hv=>Dv.weak (G':=GB W4 G0) hv (fun b hb hn=>hn.elim id fun hn=>absurd hb (by rw[← hW4];omega)))
 have hNs4:W4.heap.size≤w.heap.size:=by rw[hW4];exact Nat.le_refl _
 replace hf:=hf.upd (B:=E (I (8:Nat))) 63 rfl (fun v hv=>hv)
 clear hW4 hNs hq1 hq2 hq3
 replace hf:=hf.kp [4,62,63,64]
 refine blk (aW (fun r0 a w=>∃(k:Nat) ,r0=8 - k∧k≤8∧Fr 74 a w [(4,E (I 0)),(62,Dv (slE (tsE Tryz.prog)) (GB W4 G0) (tests g d)),(63,E (I (8:Nat))),(64,E (I k))]∧Ext W w∧W4.heap.size≤w.heap.size∧(∀y∈(tests g d).take k,y.1=false)) 8 ⟨0,rfl,by omega,hf,e,⟨hNs4,by simp⟩⟩ ?_)
 clear hf e;try clear hNs4;try clear hn
 rintro r0 a w ⟨k,rfl,hk,hf,e,hNs4,hn⟩
 refine seq ?_
 refine ac 1 hf (by decide +kernel) ?_
 refine st (lss rfl rfl) ?_
 refine en fun a w e' hf=>?_
 replace hNs4:=Nat.le_trans hNs4 e'.size
 replace e:=e.tr e'
 refine aa ?_
 refine seq ?_
 refine ifc hf rfl (fun hc=>ar ?_) (fun hc=>aR ?_)
 rotate_left
 rotate_left
 ·have hlt:k<8:=by have:=of_decide_eq_true hc;(try dsimp only at this);omega
  clear hc
  replace hf:=hf.kp [4,62,63,64]
  refine seq ?_
  refine blk ?_
  have hg:=List.getElem?_eq_getElem (show k<(tests g d).length from hlt)
  generalize (tests g d)[k]'hlt=x at hg
  refine seq ?_
  refine aj ?_
  refine aB hf (by decide) (ba kP sY (isR rfl) rfl (by omega) (hg)) fun a w e' hf=>?_
  replace hNs4:=Nat.le_trans hNs4 e'.size
  replace e:=e.tr e'
  clear e'
  refine aB hf (by decide) (ldD mY (isR rfl)) fun a w e' hf=>?_
  replace hNs4:=Nat.le_trans hNs4 e'.size
  replace e:=e.tr e'
  clear e'
  obtain⟨v67,h67,hf⟩:=hf.fix 67 rfl
  obtain⟨id0,caps,rfl,hEn,hCa⟩:=Dv.ts h67
  replace hf:=hf.kp [4,62,63,64,67]
  haveI hiW:∀b,W4.heap.size≤b→∀G0,InR (GB W4 G0) (some b):=fun b hb G0=>InR.gb hb
  have e2:=Ext.rfl' w
  refine aC mZ hf (by decide) fun a b12 w e' hb12 hs12 B12 hf=>?_
  have hle12:=Nat.le_trans e.size (Nat.le_of_eq hb12.symm)
  have lo12_hNs4:=Nat.le_trans hNs4 (Nat.le_of_eq hb12.symm)
  replace hNs4:=Nat.le_trans hNs4 e'.size
  replace e2:=Ext.tr e2 e'
  replace e:=e.tr e'
  clear e'
  haveI hib:=hiW b12 (by omega)
  refine aF mY hf rfl rfl (bR rfl rfl) B12 rfl rfl fun w hg' hsz B12 hf=>?_
  replace e2:=e2.gr hg' (by omega)
  have hCa':∀w',Ext w w'→Calls Tryz.prog id0 caps w' (Post (E (.bool x.1)) w'):=fun w' he=>hCa w' (Ext.tr e2 he)
  clear e2
  replace e:=e.gr hg' (by omega);replace hNs4:=Nat.le_trans hNs4 hg'.size;clear hg'
  refine aa ?_
  replace hf:=hf.kp [4,12,62,63,64]
  refine seq ?_
  refine ac 3 hf (by decide +kernel) ?_
  refine st (am nA rfl T30 (by decide) rfl) ?_
  refine st ((ld1 T30 rfl (by assumption) rfl).eq ((rfl:_=Value.func (.func id0) #[] caps))) ?_
  refine st (wh hEn rfl (fun w he=>hCa' w he)) ?_
  refine en fun a w e' hf=>?_
  replace hNs4:=Nat.le_trans hNs4 e'.size
  replace e:=e.tr e'
  replace B12:=B12.ext e'
  refine aa ?_
  refine ifc hf rfl (fun hb=>?_) (fun hb=>?_)
  ·refine seq ?_
   refine ac 2 hf (by decide +kernel) ?_
   refine st (am nA rfl T33 (by decide) rfl) ?_
   refine st (ld1 T33 rfl (by assumption) rfl) ?_
   refine en fun a w e' hf=>?_
   replace hNs4:=Nat.le_trans hNs4 e'.size
   replace e:=e.tr e'
   replace B12:=B12.ext e'
   refine ae hf rfl (by decide) fun a hf=>?_
   refine aa ?_
   refine an ?_
   simp only[Exit.then,Exit.inBlock]
   refine az rfl hf rfl ?_
   rintro _ rfl
   exact⟨_,rfl,e,(congrArg I (by rw[bu];exact (wN hn hg hb).symm))⟩
  ·refine ar ?_
   simp only[Exit.then,Exit.inBlock,↓reduceIte]
   refine ac 1 hf (by decide +kernel) ?_
   refine st ((add rfl rfl (by omega)).eq (congrArg (Value.int .i64) (show (k:Int)+1=((k+1:Nat):Int) from rfl))) ?_
   refine en fun a w e' hf=>?_
   replace hNs4:=Nat.le_trans hNs4 e'.size
   replace e:=e.tr e'
   replace B12:=B12.ext e'
   clear e'
   refine aB hf (by decide) (mv rfl) fun a w e' hf=>?_
   replace hNs4:=Nat.le_trans hNs4 e'.size
   replace e:=e.tr e'
   replace B12:=B12.ext e'
   refine aa ?_
   replace hf:=hf.kp [4,62,63,64]
   refine⟨_,?_,k+1,rfl,by omega,hf,e,?_⟩
   ·omega
   exact⟨hNs4,lA (p:=fun y:Bool×Int=>y.1) hn hg hb⟩
 ·obtain rfl:k=8:=by have:=of_decide_eq_false hc;(try dsimp only at this);omega
  clear hc
  simp only[Exit.then,Exit.inBlock,↓reduceIte]
  refine seq ?_
  refine aj ?_
  refine ae hf rfl (by decide) fun a hf=>?_
  refine aa ?_
  refine an ?_
  refine az rfl hf rfl ?_
  rintro _ rfl
  exact⟨_,rfl,e,(congrArg I (by rw[bu,wO (show ∀y∈(tests g d).take (tests g d).length,y.1=false from hn)]))⟩
structure GrR (w:World)(bg bv be n:Nat)(g:GT):Prop where
 blk:Blk w bg #[.map (some bv),.map (some be)] 112
 vs:MpR vKV w bv n g.1
 es:MpR eKV w be n g.2
 ne:bv≠be
theorem MpR.neB {P:Program}{α β:Type}[DecidableEq α]{V:KV P α β}{w:World}{b c n:Nat}{l:List (α×β)}{cs:Array Value}{t:TypeId}(h:MpR V w b n l)(k:Blk w c cs t):b≠c:=by
 rintro rfl
 obtain⟨D,⟨es,clock,hb,_⟩,_⟩:=h
 rw[k] at hb;cases hb
section
variable {w w':World}{bg bv be n:Nat}{g:GT}
theorem GrR.n1 (h:GrR w bg bv be n g):bv≠bg∧be≠bg:=⟨h.vs.neB h.blk,h.es.neB h.blk⟩
theorem GrR.ext (h:GrR w bg bv be n g)(e:Ext w w'):GrR w' bg bv be n g:=⟨h.blk.ext e,h.vs.ext e,h.es.ext e,h.ne⟩
instance:Ug w w' (GrR w bg bv be n g) (GrR w' bg bv be n g):=⟨fun e h=>h.ext e⟩
theorem GrR.perm (h:GrR w bg bv be n g){g':GT}(h1:g.1.Perm g'.1)(h2:g.2.Perm g'.2):GrR w bg bv be n g':=⟨h.blk,h.vs.perm h1,h.es.perm h2,h.ne⟩
theorem GrR.mono (h:GrR w bg bv be n g){m:Nat}(hm:n≤m):GrR w bg bv be m g:=⟨h.blk,h.vs.mono hm,h.es.mono hm,h.ne⟩
theorem GrR.ch (h:GrR w bg bv be n g){S:Nat→Prop}(c:Chg S w w')(h1:¬S bg)(h2:¬S bv)(h3:¬S be):GrR w' bg bv be n g:=⟨h.blk.ch c h1,h.vs.pres (c.block _ h.vs.lt h2),h.es.pres (c.block _ h.es.lt h3),h.ne⟩
theorem GrR.dv (h:GrR w bg bv be n g){N:Nat}(hN:n≤N){G:Nat→Prop}(h1:¬G bg)(h2:¬G bv)(h3:¬G be):(Dv (ptE (grE N)) G (some g)).p (.pointer (some ⟨bg,0,none⟩)) w:=
 Dv.pt.2 ⟨_,rfl,h1,h.blk.lt,_,⟨_,_,rfl,⟨bv,n,rfl,h2,hN,h.vs⟩,⟨be,n,rfl,h3,hN,h.es⟩⟩,fun i u hu=>by
  have:(Addr.mk bg 0 none).add i=⟨bg,i,none⟩:=by simp[Addr.add];intro h;exact h.symm
  rw[this,h.blk.cell];simpa using hu⟩
end
theorem bGr (p q:Option Nat):Tryz.prog.built 112 [(0,.map p),(1,.map q)]=some #[.map p,.map q]:=by kernel_rfl
theorem bTh (c:Int×Int):Tryz.prog.built 107 [(0,.int .u8 c.1),(1,.int .i64 c.2)]=some #[.int .u8 c.1,.int .i64 c.2]:=by kernel_rfl
theorem wR (W:World):Calls Tryz.prog 46 #[] W fun en w'=>∃bg bv be,en=.returned (.pointer (some ⟨bg,0,none⟩))∧Ext W w'∧W.heap.size≤bg∧W.heap.size≤bv∧W.heap.size≤be∧GrR w' bg bv be 0 ([],[]):=by
 refine enter (args:=[]) (As:=([]:List VA)) Tryz.func46 rfl Tryz.ntmps46 (Nat.le_of_ble_eq_true rfl) ?_ (fun a hf=>?_) (Nat.le_of_ble_eq_true rfl)
 ·intro i A h;simp at h
 dsimp only[params,Nat.reduceAdd] at hf
 have e:=Ext.rfl' W
 refine seq ?_
 refine aj ?_
 refine ae hf rfl (by decide) fun a hf=>?_
 refine aa ?_
 refine seq ?_
 refine ac 0 hf (by decide +kernel) ?_
 refine en fun a w e' hf=>?_
 replace e:=e.tr e';clear e'
 refine eM vKV hf (by decide) fun a b1 w e' hb1 hs1 M1 hf=>?_
 have hle1:=Nat.le_trans e.size (Nat.le_of_eq hb1.symm)
 replace e:=e.tr e';clear e'
 refine eM eKV hf (by decide) fun a b2 w e' hb2 hs2 M2 hf=>?_
 have hle2:=Nat.le_trans e.size (Nat.le_of_eq hb2.symm)
 replace e:=e.tr e';replace M1:=M1.ext e';clear e'
 refine aB hf (by decide) (bG [(0,_),(1,_)] rfl (bGr (some b1) (some b2))) fun a w e' hf=>?_
 replace e:=e.tr e';replace M1:=M1.ext e';replace M2:=M2.ext e';clear e'
 refine aJ hf rfl (by decide) fun a b4 w v4 hv4 e' hb4 hs4 B4 hf=>?_
 cases hv4
 have hle4:=Nat.le_trans e.size (Nat.le_of_eq hb4.symm)
 replace e:=e.tr e';replace M1:=M1.ext e';replace M2:=M2.ext e';clear e'
 refine ae hf rfl (by decide) fun a hf=>?_
 refine aa ?_
 refine an ?_
 refine az rfl hf rfl ?_
 rintro _ rfl
 exact⟨b4,b1,b2,rfl,e,hle4,hle1,hle2,B4,M1,M2,by omega⟩
theorem wS (g:GT)(d:DT)(bg bv be n:Nat)(W:World)(hg:GrR W bg bv be n g)(hn:n<maxLen)(h1:vKV.ok d.2.1)(h2:okT d.2.2.2) :
  Calls Tryz.prog 69 #[.pointer (some ⟨bg,0,none⟩),dtV d] W fun en w'=>en=.returned (.tuple #[])∧Chg (fun b=>b=bv∨b=be) W w'∧GrR w' bg bv be (n+1) (bB g.1 d.2.1 d.2.2.2,g.2):=by
 refine enter (args:=[.pointer (some ⟨bg,0,none⟩),dtV d]) (As:=[E (.pointer (some ⟨bg,0,none⟩)),E (dtV d)]) Tryz.func69 rfl Tryz.ntmps69 (Nat.le_of_ble_eq_true rfl) ?_ (fun a hf=>?_) (Nat.le_of_ble_eq_true rfl)
 rotate_left
 dsimp only[params,Nat.reduceAdd] at hf
 rotate_right
 ·exact arg2 rfl rfl
 have e:=Ext.rfl' W
 have BG:=hg.blk;have MV:=hg.vs;have ME:=hg.es
 refine seq ?_
 refine aj ?_
 refine aJ hf rfl (by decide) fun a b3 w v3 hv3 e' hb3 hs3 B3 hf=>?_
 have hle3:=Nat.le_trans e.size (Nat.le_of_eq hb3.symm)
 have lt3_BG:=BG.lt
 replace e:=e.tr e'
 replace BG:=BG.ext e'
 replace MV:=MV.ext e'
 replace ME:=ME.ext e'
 refine aa ?_
 cases hv3
 refine reg 11 Mix.mix hf (by decide +kernel) ?_
 refine st (mv rfl) ?_
 refine st (dY rfl) ?_
 refine st (am eE rfl dQ (by decide) rfl) ?_
 refine st (ld1 dQ rfl BG rfl) ?_
 refine st (am U38 rfl T3 (by decide) rfl) ?_
 refine st (ld1 T3 rfl B3 rfl) ?_
 refine st (am U38 rfl T5 (by decide) rfl) ?_
 refine st (ld1 T5 rfl B3 rfl) ?_
 refine st (am U38 rfl T3 (by decide) rfl) ?_
 refine st (ld1 T3 rfl B3 rfl) ?_
 refine st (bG [(0,_),(1,_)] rfl (bTh d.2.2.2)) ?_
 refine en fun a w e' hf=>?_
 replace e:=e.tr e'
 replace BG:=BG.ext e'
 replace MV:=MV.ext e'
 replace ME:=ME.ext e'
 replace B3:=B3.ext e'
 clear e'
 replace hf:=hf.kp [7,9,14]
 refine eK (V:=vKV) (i:=d.2.1) (c:=d.2.2.2) jh hf rfl rfl rfl MV hn h1 h2 fun w hg' MV hf=>?_
 refine aa ?_
 refine db rfl hf ?_
 exact⟨rfl,(e.chg _).gr hg' (.inl (.inl rfl)),BG.gr hg' hg.n1.1.symm,MV,(ME.gr hg' (fun h=>hg.ne (by cases h;rfl))).mono (Nat.le_succ _),hg.ne⟩
theorem wT (g:GT)(d:DT)(bg bv be n:Nat)(W:World)(hg:GrR W bg bv be n g)(hn:n<maxLen)(h1:eKV.ok (Gr.ends d.2.1 d.2.2.1))(h2:okT d.2.2.2) :
  Calls Tryz.prog 71 #[.pointer (some ⟨bg,0,none⟩),dtV d] W fun en w'=>en=.returned (.tuple #[])∧Chg (fun b=>b=bv∨b=be) W w'∧GrR w' bg bv be (n+1) (g.1,bB g.2 (Gr.ends d.2.1 d.2.2.1) d.2.2.2):=by
 refine enter (args:=[.pointer (some ⟨bg,0,none⟩),dtV d]) (As:=[E (.pointer (some ⟨bg,0,none⟩)),E (dtV d)]) Tryz.func71 rfl Tryz.ntmps71 (Nat.le_of_ble_eq_true rfl) ?_ (fun a hf=>?_) (Nat.le_of_ble_eq_true rfl)
 rotate_left
 dsimp only[params,Nat.reduceAdd] at hf
 rotate_right
 ·exact arg2 rfl rfl
 have e:=Ext.rfl' W
 have BG:=hg.blk;have MV:=hg.vs;have ME:=hg.es
 refine seq ?_
 refine aj ?_
 refine aJ hf rfl (by decide) fun a b3 w v3 hv3 e' hb3 hs3 B3 hf=>?_
 have hle3:=Nat.le_trans e.size (Nat.le_of_eq hb3.symm)
 have lt3_BG:=BG.lt
 replace e:=e.tr e'
 replace BG:=BG.ext e'
 replace MV:=MV.ext e'
 replace ME:=ME.ext e'
 refine aa ?_
 cases hv3
 refine reg 14 Mix.mix hf (by decide +kernel) ?_
 refine st (mv rfl) ?_
 refine st (dY rfl) ?_
 refine st (am eE rfl dR (by decide) rfl) ?_
 refine st (ld1 dR rfl BG rfl) ?_
 refine st (am U38 rfl T3 (by decide) rfl) ?_
 refine st (ld1 T3 rfl B3 rfl) ?_
 refine st (am U38 rfl T3 (by decide) rfl) ?_
 refine st (ld1 T3 rfl B3 rfl) ?_
 refine st (aD (A:=E (enV (Gr.ends d.2.1 d.2.2.1))) nq rfl rfl (fun v u w he h h'=>by cases h;cases h';exact oT d.2.1 d.2.2.1 w)) ?_
 refine st (am U38 rfl T5 (by decide) rfl) ?_
 refine st (ld1 T5 rfl B3 rfl) ?_
 refine st (am U38 rfl T3 (by decide) rfl) ?_
 refine st (ld1 T3 rfl B3 rfl) ?_
 refine st (bG [(0,_),(1,_)] rfl (bTh d.2.2.2)) ?_
 refine en fun a w e' hf=>?_
 replace e:=e.tr e'
 replace BG:=BG.ext e'
 replace MV:=MV.ext e'
 replace ME:=ME.ext e'
 replace B3:=B3.ext e'
 clear e'
 replace hf:=hf.kp [7,12,17]
 refine eK (V:=eKV) (i:=Gr.ends d.2.1 d.2.2.1) (c:=d.2.2.2) ij hf rfl rfl rfl ME hn h1 h2 fun w hg' ME hf=>?_
 refine aa ?_
 refine db rfl hf ?_
 exact⟨rfl,(e.chg _).gr hg' (.inl (.inr rfl)),BG.gr hg' hg.n1.2.symm,(MV.gr hg' (fun h=>hg.ne (by cases h;rfl))).mono (Nat.le_succ _),ME,hg.ne⟩
def iw:Array Value := #[.func (.func 69) #[] #[],.func (.func 70) #[] #[],.func (.func 71) #[] #[],.func (.func 72) #[] #[],.func (.func 73) #[] #[],.func (.func 74) #[] #[],.func (.func 75) #[] #[],.func (.func 76) #[] #[]]
theorem wU:iw.all (·.oneCell')=true:=by decide +kernel
theorem bDe:Tryz.prog.built 72 [(0,.func (.func 69) #[] #[]),(1,.func (.func 70) #[] #[]),(2,.func (.func 71) #[] #[]),(3,.func (.func 72) #[] #[]),(4,.func (.func 73) #[] #[]),(5,.func (.func 74) #[] #[]),(6,.func (.func 75) #[] #[]),(7,.func (.func 76) #[] #[])]=some iw:=by kernel_rfl
theorem oZ (W:World):Calls Tryz.prog 26 #[] W (Post (E (.agg iw)) W):=by
 refine enter (args:=[]) (As:=([]:List VA)) Tryz.func26 rfl Tryz.ntmps26 (Nat.le_of_ble_eq_true rfl) ?_ (fun a hf=>?_) (Nat.le_of_ble_eq_true rfl)
 ·intro i A h;simp at h
 dsimp only[params,Nat.reduceAdd] at hf
 have e:=Ext.rfl' W
 refine seq ?_
 refine aj ?_
 refine aC I72 hf (by decide) fun a b0 w e' hb0 hs0 B0 hf=>?_
 have hle0:=Nat.le_trans e.size (Nat.le_of_eq hb0.symm)
 replace e:=e.tr e'
 refine aa ?_
 refine seq ?_
 refine ac 1 hf (by decide +kernel) ?_
 refine st (bG [(0,_),(1,_),(2,_),(3,_),(4,_),(5,_),(6,_),(7,_)] rfl bDe) ?_
 refine en fun a w e' hf=>?_
 replace e:=e.tr e'
 replace B0:=B0.ext e'
 clear e'
 haveI hinr:∀G0,InR (GB W G0) (some b0):=fun G0=>InR.gb (by omega)
 refine aF T72 hf rfl rfl (wU) B0 rfl (rfl) fun w hg hsz B0 hf=>?_
 replace e:=e.gr hg (by omega)
 clear hg
 refine aa ?_
 refine an (dc rfl T72 hf rfl B0 rfl ?_)
 exact⟨_,rfl,e,rfl⟩
def doP (g:GT)(d:DT):GT:=if d.1=0 then (bB g.1 d.2.1 d.2.2.2,g.2) else (g.1,bB g.2 (Gr.ends d.2.1 d.2.2.1) d.2.2.2)
def apP (g:GT)(d:DT):GT:=if bu g d=0 then doP g d else g
theorem lG (g:GT)(d:DT)(bg bv be n:Nat)(W:World)(hg:GrR W bg bv be n g)(hn:n<maxLen)(hd:d.1=0∨d.1=2∨bu g d≠0)(hw:(Lit.int .i64 d.2.1).wf=true)(hw2:(Lit.int .i64 d.2.2.1).wf=true)(ho:okT d.2.2.2) :
  Calls Tryz.prog 8 #[.pointer (some ⟨bg,0,none⟩),dtV d] W fun en w'=>en=.returned (I (bu g d))∧Chg (fun b=>b=bv∨b=be) W w'∧GrR w' bg bv be (n+1) (apP g d):=by
 refine enter (args:=[.pointer (some ⟨bg,0,none⟩),dtV d]) (As:=[E (.pointer (some ⟨bg,0,none⟩)),E (dtV d)]) Tryz.func8 rfl Tryz.ntmps8 (Nat.le_of_ble_eq_true rfl) ?_ (fun a hf=>?_) (Nat.le_of_ble_eq_true rfl)
 rotate_left
 dsimp only[params,Nat.reduceAdd] at hf
 rotate_right
 ·exact arg2 rfl rfl
 have e:=Ext.rfl' W
 refine seq ?_
 refine aj ?_
 refine aJ hf rfl (by decide) fun a b3 w v3 hv3 e' hb3 hs3 B3 hf=>?_
 have hle3:=Nat.le_trans e.size (Nat.le_of_eq hb3.symm)
 replace e:=e.tr e'
 replace hg:=hg.ext e'
 refine ae hf rfl (by decide) fun a hf=>?_
 refine aa ?_
 cases hv3
 repeat refine seq ?_
 refine ac 2 hf (by decide +kernel) ?_
 refine st (mv rfl) ?_
 refine st (fh U28 (isE rfl (hg.dv (Nat.le_refl _) (G:=G0) id id id))) ?_
 refine en fun a w e' hf=>?_
 replace e:=e.tr e'
 replace hg:=hg.ext e'
 replace B3:=B3.ext e'
 refine aa ?_
 refine ifc hf rfl (fun h=>by cases h) (fun _=>?_)
 refine ar ?_
 simp only[Exit.then,Exit.inBlock,↓reduceIte]
 replace hf:=hf.kp [0,3,4]
 repeat refine seq ?_
 refine ac 3 hf (by decide +kernel) ?_
 refine st (mv rfl) ?_
 refine st ((ldW T38 rfl B3 rfl).eq ((rfl:_=dtV d))) ?_
 refine st (aD (A:=E (I (bu g d))) tk rfl rfl (fun v u w he h h'=>by cases h;cases h';exact wQ (M:=n) (G:=G0) g d _ w ((hg.ext he).dv (Nat.le_refl _) id id id) hw hw2)) ?_
 refine en fun a w e' hf=>?_
 replace e:=e.tr e'
 replace hg:=hg.ext e'
 replace B3:=B3.ext e'
 refine ae hf rfl (by decide) fun a hf=>?_
 refine aa ?_
 refine seq ?_
 refine ac 2 hf (by decide +kernel) ?_
 refine st (mv rfl) ?_
 refine st (neq rfl rfl) ?_
 refine en fun a w e' hf=>?_
 replace e:=e.tr e'
 replace hg:=hg.ext e'
 replace B3:=B3.ext e'
 refine aa ?_
 refine ifc hf rfl (fun hb=>?_) (fun hb=>?_)
 ·have hb':¬bu g d=0:=by simpa using hb
  refine seq ?_
  refine ac 1 hf (by decide +kernel) ?_
  refine st (mv rfl) ?_
  refine en fun a w e' hf=>?_
  replace e:=e.tr e'
  replace hg:=hg.ext e'
  replace B3:=B3.ext e'
  refine ae hf rfl (by decide) fun a hf=>?_
  refine aa ?_
  refine an ?_
  simp only[Exit.then,Exit.inBlock]
  refine az rfl hf rfl ?_
  rintro _ rfl
  exact⟨rfl,e.chg _,by rw[apP,if_neg hb'];exact hg.mono (Nat.le_succ _)⟩
 ·have hb':bu g d=0:=by simpa using hb
  refine ar ?_
  simp only[Exit.then,Exit.inBlock,↓reduceIte]
  replace hf:=hf.kp [0,3,4]
  have fin:apP g d=doP g d:=by rw[apP,if_pos hb']
  rcases (show d.1=0∨d.1=2 from hd.elim .inl (fun h=>h.elim .inr (fun h=>absurd hb' h))) with hop|hop
  ·refine seq ?_
   refine eP 7 [0,0,0,0,0,0] (Chg (fun b=>b=bv∨b=be)) (ct.chg _) (fun w=>GrR w bg bv be (n+1) (doP g d)) (fun w w1 k h=>h.ext k) Mix.mix hf (by decide +kernel) (by decide +kernel) ?_
   refine ja (gf (A:=E (.agg iw)) nh (fun w he=>oZ w)) ?_
   refine ja (am U38 rfl T3 (by decide) rfl) ?_
   refine ja ((ld1 T3 rfl B3 rfl).eq ((congrArg (Value.int .i64) hop:_=I 0))) ?_
   refine ja (iY U72 T71 rfl rfl (by decide) rfl) ?_
   refine ja (mv rfl) ?_
   refine ja ((ldW T38 rfl B3 rfl).eq ((rfl:_=dtV d))) ?_
   refine jx (oO tP rfl rfl rfl (fun w he=>(wS g d bg bv be n w (hg.ext he) hn hw ho).mono fun en w' ⟨h1,h2,h3⟩=>⟨_,h1,h2,by rw[doP,if_pos hop];exact h3⟩)) ?_
   refine je ?_
   refine fun a w hc HF hf=>?_
   try dsimp only[push] at hf
   refine aa ?_
   replace hf:=hf.kp [4]
   have e3:=Ext.rfl' w
   refine seq ?_
   refine aj ?_
   refine ae hf rfl (by decide) fun a hf=>?_
   refine aa ?_
   refine an ?_
   refine az rfl hf rfl ?_
   rintro _ rfl
   exact⟨by rw[hb'],(e.chg _).tr hc,by rw[fin];exact HF⟩
  ·refine seq ?_
   refine eP 7 [0,0,0,0,0,0] (Chg (fun b=>b=bv∨b=be)) (ct.chg _) (fun w=>GrR w bg bv be (n+1) (doP g d)) (fun w w1 k h=>h.ext k) Mix.mix hf (by decide +kernel) (by decide +kernel) ?_
   refine ja (gf (A:=E (.agg iw)) nh (fun w he=>oZ w)) ?_
   refine ja (am U38 rfl T3 (by decide) rfl) ?_
   refine ja ((ld1 T3 rfl B3 rfl).eq ((congrArg (Value.int .i64) hop:_=I 2))) ?_
   refine ja (iY U72 T71 rfl rfl (by decide) rfl) ?_
   refine ja (mv rfl) ?_
   refine ja ((ldW T38 rfl B3 rfl).eq ((rfl:_=dtV d))) ?_
   refine jx (oO tQ rfl rfl rfl (fun w he=>(wT g d bg bv be n w (hg.ext he) hn (oY hw hw2) ho).mono fun en w' ⟨h1,h2,h3⟩=>⟨_,h1,h2,by rw[doP,if_neg (by rw[hop];decide)];exact h3⟩)) ?_
   refine je ?_
   refine fun a w hc HF hf=>?_
   try dsimp only[push] at hf
   refine aa ?_
   replace hf:=hf.kp [4]
   have e3:=Ext.rfl' w
   refine seq ?_
   refine aj ?_
   refine ae hf rfl (by decide) fun a hf=>?_
   refine aa ?_
   refine an ?_
   refine az rfl hf rfl ?_
   rintro _ rfl
   exact⟨by rw[hb'],(e.chg _).tr hc,by rw[fin];exact HF⟩
def atE (g:GT)(d:DT):Int:=if Gr.pairs d.1=true then ee g.2 d.2.1 d.2.2.1 else -1
def gE (g:GT)(d:DT):GT:=(g.1.filterMap (keepV d),bP d (atE g d) 0 g.2)
def doR (g:GT)(d:DT):GT×Int:=
 if (cr g d != 0)=true then (g,cr g d)
 else if (d.1==0)=true then ((insV g.1 (d.2.1,d.2.2.2),g.2),0)
 else if (d.1==2)=true then ((g.1,dj g.2 (Gr.ends d.2.1 d.2.2.1,d.2.2.2)),0)
 else (gE g d,0)
theorem bVt (x:VT):Tryz.prog.built 56 [(0,.int .i64 x.1),(1,.int .u8 x.2.1),(2,.int .i64 x.2.2)]=some #[.int .i64 x.1,.int .u8 x.2.1,.int .i64 x.2.2]:=by kernel_rfl
theorem bEt (x:ET):Tryz.prog.built 57 [(0,.int .i64 x.1.1),(1,.int .i64 x.1.2),(2,.int .u8 x.2.1),(3,.int .i64 x.2.2)]=some #[.int .i64 x.1.1,.int .i64 x.1.2,.int .u8 x.2.1,.int .i64 x.2.2]:=by kernel_rfl
theorem lI (x:VT):(#[.int .i64 x.1,.int .u8 x.2.1,.int .i64 x.2.2]:Array Value).all (·.oneCell')=true:=by simp[Array.all_eq_true_iff_forall_mem];exact⟨rfl,rfl,rfl⟩
theorem lJ (x:ET):(#[.int .i64 x.1.1,.int .i64 x.1.2,.int .u8 x.2.1,.int .i64 x.2.2]:Array Value).all (·.oneCell')=true:=by simp[Array.all_eq_true_iff_forall_mem];exact⟨rfl,rfl,rfl,rfl⟩
theorem pd:Tryz.prog.built 26 []=some #[.slice none 0 0,.slice none 0 0]:=by kernel_rfl
theorem wV {G:Nat→Prop}(g:GT)(d:DT)(v:Value)(W:World)(h:(Dv gtE G g).p v W)(hG:∀b,G b→b<W.heap.size)(hl1:g.1.length≤100000)(hl2:g.2.length≤100000) :
  Calls Tryz.prog 13 #[v,dtV d] W (Post (Tup [Dv gtE G (doR g d).1,E (I (doR g d).2)]) W):=by
 obtain⟨u1,u2,rfl,h1,h2⟩:=Dv.gt.1 h
 obtain⟨a1,n1,c1,rfl⟩:=Dv.slF h1
 obtain⟨a2,n2,c2,rfl⟩:=Dv.slF h2
 have hbb:=Dv.toB h
 have h1b:=Dv.toB h1
 have h2b:=Dv.toB h2
 refine enter (args:=[.agg #[.slice a1 n1 c1,.slice a2 n2 c2],dtV d]) (As:=[E (.agg #[.slice a1 n1 c1,.slice a2 n2 c2]),E (dtV d)]) Tryz.func13 rfl Tryz.ntmps13 (Nat.le_of_ble_eq_true rfl) ?_ (fun a hf=>?_) (Nat.le_of_ble_eq_true rfl)
 rotate_left
 dsimp only[params,Nat.reduceAdd] at hf
 rotate_right
 ·exact arg2 rfl rfl
 have e:=Ext.rfl' W
 refine seq ?_
 refine aj ?_
 refine aJ hf rfl (by decide) fun a b2 w v2 hv2 e' hb2 hs2 B2 hf=>?_
 have hle2:=Nat.le_trans e.size (Nat.le_of_eq hb2.symm)
 replace e:=e.tr e'
 clear e'
 refine aJ hf rfl (by decide) fun a b3 w v3 hv3 e' hb3 hs3 B3 hf=>?_
 have hle3:=Nat.le_trans e.size (Nat.le_of_eq hb3.symm)
 have lt3_B2:=B2.lt
 replace e:=e.tr e'
 replace B2:=B2.ext e'
 clear e'
 refine aC I26 hf (by decide) fun a b4 w e' hb4 hs4 B4 hf=>?_
 have hle4:=Nat.le_trans e.size (Nat.le_of_eq hb4.symm)
 have lt4_B2:=B2.lt
 have lt4_B3:=B3.lt
 replace e:=e.tr e'
 replace B2:=B2.ext e'
 replace B3:=B3.ext e'
 refine ae hf rfl (by decide) fun a hf=>?_
 refine aa ?_
 cases hv2;cases hv3
 have fin:∀(w:World) (g':GT) (c:Int) (z:Value),Ext W w→(Dv gtE G g').p z w→doR g d=(g',c)→(Tup [Dv gtE G (doR g d).1,E (I (doR g d).2)]).p (.tuple #[z,I c]) w:=fun w g' c z e hz hd=>by rw[hd];exact Tup.two hz rfl
 have hG4:∀(w:World),b4<w.heap.size→Ext W w→∀b,G1 G b4 b→b<w.heap.size:=fun w hb4 e b hb=>hb.elim (fun hb=>Nat.lt_of_lt_of_le (hG b hb) e.size) (fun hb=>by rw[hb];exact hb4)
 have hg4:∀w,Ext W w→(Dv gtE (G1 G b4) g).p (.agg #[.slice a1 n1 c1,.slice a2 n2 c2]) w:=fun w e=>Dv.weak (VA.st _ _ _ _ e hbb) fun b _ hq=>hq.elim .inl (fun hq=>.inr (by rw[hq];exact hle4))
 repeat refine seq ?_
 refine ac 3 hf (by decide +kernel) ?_
 refine st ((ldW T26 rfl B2 rfl).eq ((rfl:_=Value.agg #[.slice a1 n1 c1,.slice a2 n2 c2]))) ?_
 refine st ((ldW T52 rfl B3 rfl).eq ((rfl:_=dtV d))) ?_
 refine st (aD tw rfl rfl (fun v u w he k k'=>by cases k;cases k';exact vX g d _ w (VA.st _ _ _ _ (Ext.tr e he) h) hl1 hl2)) ?_
 refine en fun a w e' hf=>?_
 replace e:=e.tr e'
 replace B2:=B2.ext e'
 replace B3:=B3.ext e'
 replace B4:=B4.ext e'
 refine ae hf rfl (by decide) fun a hf=>?_
 refine aa ?_
 refine seq ?_
 refine ac 2 hf (by decide +kernel) ?_
 refine st (mv rfl) ?_
 refine st (neq rfl rfl) ?_
 refine en fun a w e' hf=>?_
 replace e:=e.tr e'
 replace B2:=B2.ext e'
 replace B3:=B3.ext e'
 replace B4:=B4.ext e'
 refine aa ?_
 refine ifc hf rfl (fun hb=>?_) (fun hb=>?_)
 ·refine seq ?_
  refine ac 2 hf (by decide +kernel) ?_
  refine st ((ldW T26 rfl B2 rfl).eq ((rfl:_=Value.agg #[.slice a1 n1 c1,.slice a2 n2 c2]))) ?_
  refine st (mv rfl) ?_
  refine en fun a w e' hf=>?_
  replace e:=e.tr e'
  replace B2:=B2.ext e'
  replace B3:=B3.ext e'
  replace B4:=B4.ext e'
  clear e'
  haveI hinr:∀G0,InR (GB W G0) (some b4):=fun G0=>InR.gb (by omega)
  refine aF T26 hf rfl rfl (bR rfl rfl) B4 rfl (rfl) fun w hg hsz B4 hf=>?_
  replace e:=e.gr hg (by omega)
  replace B2:=B2.gr hg (by omega)
  replace B3:=B3.gr hg (by omega)
  clear hg
  refine ae hf rfl (by decide) fun a hf=>?_
  refine aa ?_
  refine an (jj rfl T26 hf rfl rfl B4 rfl ?_)
  rintro _ rfl
  exact⟨_,rfl,e,fin _ _ _ _ e (VA.st _ _ _ _ e h) (by rw[doR,if_pos hb])⟩
 refine ar ?_
 simp only[Exit.then,Exit.inBlock,↓reduceIte]
 replace hf:=hf.kp [2,3,4]
 have h1n:=aM hb;clear hb
 repeat refine seq ?_
 refine ac 3 hf (by decide +kernel) ?_
 refine st (am U52 rfl T3 (by decide) rfl) ?_
 refine st (ld1 T3 rfl B3 rfl) ?_
 refine st (eql rfl rfl) ?_
 refine en fun a w e' hf=>?_
 replace e:=e.tr e'
 replace B2:=B2.ext e'
 replace B3:=B3.ext e'
 replace B4:=B4.ext e'
 refine aa ?_
 refine ifc hf rfl (fun hb=>?_) (fun hb=>?_)
 ·have h2p:=hb;clear hb
  refine seq ?_
  refine ac 9 hf (by decide +kernel) ?_
  refine st ((ldW T26 rfl B2 rfl).eq ((rfl:_=Value.agg #[.slice a1 n1 c1,.slice a2 n2 c2]))) ?_
  refine st (am U52 rfl T3 (by decide) rfl) ?_
  refine st (ld1 T3 rfl B3 rfl) ?_
  refine st (am U52 rfl T5 (by decide) rfl) ?_
  refine st (ld1 T5 rfl B3 rfl) ?_
  refine st (am U52 rfl T3 (by decide) rfl) ?_
  refine st (ld1 T3 rfl B3 rfl) ?_
  refine st (oi (d.2.1,d.2.2.2) (bVt _) rfl rfl rfl) ?_
  refine st (aD tx rfl rfl (fun v u w he k k'=>by cases k;cases k';exact wb (G:=G1 G b4) g _ _ w (hg4 w (Ext.tr e he)) (hG4 w (Nat.lt_of_lt_of_le B4.lt he.size) (Ext.tr e he)) hl1)) ?_
  refine en fun a w e' hf=>?_
  replace e:=e.tr e'
  replace B2:=B2.ext e'
  replace B3:=B3.ext e'
  replace B4:=B4.ext e'
  clear e'
  obtain⟨z,hz,hf⟩:=hf.opn 31 rfl
  obtain⟨z1,z2,rfl,hz1,hz2⟩:=Dv.gt.1 hz
  replace hf:=hf.kp [31,4]
  refine aF T26 hf rfl rfl (bR (slOne hz1) (slOne hz2)) B4 rfl rfl fun w hg hsz B4 hf=>?_
  replace e:=e.gr hg hle4;replace hz:=AvR.av (row:=some b4) _ _ _ hg hz;clear hg
  refine ae hf rfl (by decide) fun a hf=>?_
  refine aa ?_
  refine an (jj rfl T26 hf rfl rfl B4 rfl ?_)
  rintro _ rfl
  exact⟨_,rfl,e,fin _ _ _ _ e (Dv.weak hz fun b _=>.inl) (by rw[doR,if_neg h1n,if_pos h2p])⟩
 refine ar ?_
 simp only[Exit.then,Exit.inBlock,↓reduceIte]
 replace hf:=hf.kp [2,3,4]
 have h2n:=aM hb;clear hb
 repeat refine seq ?_
 refine ac 3 hf (by decide +kernel) ?_
 refine st (am U52 rfl T3 (by decide) rfl) ?_
 refine st (ld1 T3 rfl B3 rfl) ?_
 refine st (eql rfl rfl) ?_
 refine en fun a w e' hf=>?_
 replace e:=e.tr e'
 replace B2:=B2.ext e'
 replace B3:=B3.ext e'
 replace B4:=B4.ext e'
 refine aa ?_
 refine ifc hf rfl (fun hb=>?_) (fun hb=>?_)
 ·have h3p:=hb;clear hb
  refine seq ?_
  refine ac 17 hf (by decide +kernel) ?_
  refine st ((ldW T26 rfl B2 rfl).eq ((rfl:_=Value.agg #[.slice a1 n1 c1,.slice a2 n2 c2]))) ?_
  refine st (am U52 rfl T3 (by decide) rfl) ?_
  refine st (ld1 T3 rfl B3 rfl) ?_
  refine st (am U52 rfl T3 (by decide) rfl) ?_
  refine st (ld1 T3 rfl B3 rfl) ?_
  refine st (min2 rfl rfl) ?_
  refine st (am U52 rfl T3 (by decide) rfl) ?_
  refine st (ld1 T3 rfl B3 rfl) ?_
  refine st (am U52 rfl T3 (by decide) rfl) ?_
  refine st (ld1 T3 rfl B3 rfl) ?_
  refine st (max2 rfl rfl) ?_
  refine st (am U52 rfl T5 (by decide) rfl) ?_
  refine st (ld1 T5 rfl B3 rfl) ?_
  refine st (am U52 rfl T3 (by decide) rfl) ?_
  refine st (ld1 T3 rfl B3 rfl) ?_
  refine st (oj (Gr.ends d.2.1 d.2.2.1,d.2.2.2) (bEt _) rfl rfl rfl rfl) ?_
  refine st (aD tA rfl rfl (fun v u w he k k'=>by cases k;cases k';exact wc (G:=G1 G b4) g _ _ w (hg4 w (Ext.tr e he)) (hG4 w (Nat.lt_of_lt_of_le B4.lt he.size) (Ext.tr e he)) hl2)) ?_
  refine en fun a w e' hf=>?_
  replace e:=e.tr e'
  replace B2:=B2.ext e'
  replace B3:=B3.ext e'
  replace B4:=B4.ext e'
  clear e'
  obtain⟨z,hz,hf⟩:=hf.opn 51 rfl
  obtain⟨z1,z2,rfl,hz1,hz2⟩:=Dv.gt.1 hz
  replace hf:=hf.kp [51,4]
  refine aF T26 hf rfl rfl (bR (slOne hz1) (slOne hz2)) B4 rfl rfl fun w hg hsz B4 hf=>?_
  replace e:=e.gr hg hle4;replace hz:=AvR.av (row:=some b4) _ _ _ hg hz;clear hg
  refine ae hf rfl (by decide) fun a hf=>?_
  refine aa ?_
  refine an (jj rfl T26 hf rfl rfl B4 rfl ?_)
  rintro _ rfl
  exact⟨_,rfl,e,fin _ _ _ _ e (Dv.weak hz fun b _=>.inl) (by rw[doR,if_neg h1n,if_neg h2n,if_pos h3p])⟩
 refine ar ?_
 simp only[Exit.then,Exit.inBlock,↓reduceIte]
 replace hf:=hf.kp [2,3,4]
 have h3n:=aM hb;clear hb
 have hdo:doR g d=(gE g d,0):=by rw[doR,if_neg h1n,if_neg h2n,if_neg h3n]
 refine seq ?_
 refine ac 1 hf (by decide +kernel) ?_
 refine st (bG [] rfl pd) ?_
 refine en fun a w e' hf=>?_
 replace e:=e.tr e'
 replace B2:=B2.ext e'
 replace B3:=B3.ext e'
 replace B4:=B4.ext e'
 clear e'
 refine aC I26 hf (by decide) fun a b7 w e' hb7 hs7 B7 hf=>?_
 have hle7:=Nat.le_trans e.size (Nat.le_of_eq hb7.symm)
 have lt7_B2:=B2.lt
 have lt7_B3:=B3.lt
 have lt7_B4:=B4.lt
 replace e:=e.tr e'
 replace B2:=B2.ext e'
 replace B3:=B3.ext e'
 replace B4:=B4.ext e'
 clear e'
 haveI hinr:∀G0,InR (GB W G0) (some b7):=fun G0=>InR.gb (by omega)
 refine aF T26 hf rfl rfl (bR rfl rfl) B7 rfl (rfl) fun w hg hsz B7 hf=>?_
 replace e:=e.gr hg (by omega)
 replace B2:=B2.gr hg (by omega)
 replace B3:=B3.gr hg (by omega)
 replace B4:=B4.gr hg (by omega)
 clear hg
 refine aa ?_
 have hlE:=fun (k:Nat)=>Nat.le_trans (jm d (atE g d) 0 (g.2.take k)) (List.length_take_le k g.2)
 have hlV:=fun (k:Nat)=>Nat.le_trans (List.length_filterMap_le (keepV d) (g.1.take k)) (List.length_take_le k g.1)
 replace hf:=hf.kp [2,3,4,7]
 repeat refine seq ?_
 refine aj ?_
 refine ae hf rfl (by decide) fun a hf=>?_
 refine aa ?_
 replace hf:=hf.kp [2,3,4,7,8]
 refine blk (aW (fun r0 a w=>∃(k:Nat) (u:Value),r0=g.1.length - k∧k≤g.1.length∧Fr 183 a w [(2,E (.pointer (some ⟨b2,0,none⟩))),(3,E (.pointer (some ⟨b3,0,none⟩))),(4,E (.pointer (some ⟨b4,0,none⟩))),(7,E (.pointer (some ⟨b7,0,none⟩))),(8,E (I k))]∧Ext W w∧Blk w b2 #[.slice a1 n1 c1,.slice a2 n2 c2] 26∧Blk w b3 (dtV d).cells 52∧Blk w b4 #[.slice none 0 0,.slice none 0 0] 26∧Blk w b7 #[u,.slice none 0 0] 26∧OwR vtE 56 (b7+1) G w ((g.1.take k).filterMap (keepV d)) u) g.1.length ⟨0,.slice none 0 0,rfl,by omega,hf,e,⟨B2,B3,B4,B7,OwR.nil vtE _ (by have:=B7.lt;omega) fun b hb=>Nat.lt_of_lt_of_le (hG b hb) (by omega)⟩⟩ ?_)
 clear hf e;try clear B2;try clear B3;try clear B4;try clear B7;try clear Ho
 rintro r0 a w ⟨k,u,rfl,hk,hf,e,B2,B3,B4,B7,Ho⟩
 repeat refine seq ?_
 refine ac 5 hf (by decide +kernel) ?_
 refine st (mv rfl) ?_
 refine st (am U26 rfl T23 (by decide) rfl) ?_
 refine st (ld1 T23 rfl (by assumption) rfl) ?_
 refine st (bi U23 (isE rfl (VA.st _ _ _ _ e h1))) ?_
 refine st (lss rfl rfl) ?_
 refine en fun a w e' hf=>?_
 replace e:=e.tr e'
 replace B2:=B2.ext e'
 replace B3:=B3.ext e'
 replace B4:=B4.ext e'
 replace B7:=B7.ext e'
 replace Ho:=Ho.ext e'
 refine aa ?_
 refine ifc hf rfl (fun hc=>ar ?_) (fun hc=>aR ?_)
 rotate_left
 rotate_left
 ·have hlt:k<g.1.length:=by have:=of_decide_eq_true hc;(try dsimp only at this);omega
  clear hc
  replace hf:=hf.kp [2,3,4,7,8]
  refine seq ?_
  refine blk ?_
  have hg:=List.getElem?_eq_getElem hlt
  generalize g.1[k]=y at hg
  have hs:=vr d hg
  have hlk:=hlV k
  refine seq ?_
  refine aj ?_
  refine aB hf (by decide) (am U26 rfl T23 (by decide) rfl) fun a w e' hf=>?_
  replace Ho:=Ho.ext e'
  replace e:=e.tr e'
  replace B2:=B2.ext e'
  replace B3:=B3.ext e'
  replace B4:=B4.ext e'
  replace B7:=B7.ext e'
  clear e'
  refine aB hf (by decide) (ld1 T23 rfl B2 rfl) fun a w e' hf=>?_
  replace Ho:=Ho.ext e'
  replace e:=e.tr e'
  replace B2:=B2.ext e'
  replace B3:=B3.ext e'
  replace B4:=B4.ext e'
  replace B7:=B7.ext e'
  clear e'
  refine aB hf (by decide) (mv rfl) fun a w e' hf=>?_
  replace Ho:=Ho.ext e'
  replace e:=e.tr e'
  replace B2:=B2.ext e'
  replace B3:=B3.ext e'
  replace B4:=B4.ext e'
  replace B7:=B7.ext e'
  clear e'
  refine aB hf (by decide) (ba U23 S56 (isE rfl (VA.st _ _ _ _ e h1b)) rfl (by omega) (hg)) fun a w e' hf=>?_
  replace Ho:=Ho.ext e'
  replace e:=e.tr e'
  replace B2:=B2.ext e'
  replace B3:=B3.ext e'
  replace B4:=B4.ext e'
  replace B7:=B7.ext e'
  clear e'
  refine aB hf (by decide) (gy T56 (isR rfl)) fun a w e' hf=>?_
  replace Ho:=Ho.ext e'
  replace e:=e.tr e'
  replace B2:=B2.ext e'
  replace B3:=B3.ext e'
  replace B4:=B4.ext e'
  replace B7:=B7.ext e'
  clear e'
  refine aC I56 hf (by decide) fun a b9 w e' hb9 hs9 B9 hf=>?_
  have hle9:=Nat.le_trans e.size (Nat.le_of_eq hb9.symm)
  have ne9_Ho:=Ho.ne_new hb9
  have lt9_B2:=B2.lt
  have lt9_B3:=B3.lt
  have lt9_B4:=B4.lt
  have lt9_B7:=B7.lt
  replace Ho:=Ho.ext e'
  replace e:=e.tr e'
  replace B2:=B2.ext e'
  replace B3:=B3.ext e'
  replace B4:=B4.ext e'
  replace B7:=B7.ext e'
  clear e'
  have n9:=ne9_Ho
  replace hf:=hf.kp [2,3,4,7,8,9,64]
  refine aF T56 hf rfl rfl (lI y) B9 rfl rfl fun w hg' hsz B9 hf=>?_
  replace e:=e.gr hg' (by omega);replace B2:=B2.gr hg' (by omega);replace B3:=B3.gr hg' (by omega);replace B4:=B4.gr hg' (by omega);replace B7:=B7.gr hg' (by omega);replace Ho:=Ho.grE hg' n9;clear hg'
  refine aa ?_
  replace hf:=hf.kp [2,3,4,7,8,9]
  repeat refine seq ?_
  refine ac 10 hf (by decide +kernel) ?_
  refine st (am U56 rfl T3 (by decide) rfl) ?_
  refine st (ld1 T3 rfl B9 rfl) ?_
  refine st (am U52 rfl T3 (by decide) rfl) ?_
  refine st (ld1 T3 rfl B3 rfl) ?_
  refine st (eql rfl rfl) ?_
  refine st (mv rfl) ?_
  refine sgE rfl rfl (.k 3 rfl .n) (fun hgd=>am U52 rfl T3 (by decide) rfl) ?_
  refine sgE rfl rfl (.c 71 rfl (fun h=>h) .n) (fun hgd=>ld1 T3 rfl B3 rfl) ?_
  refine sgE rfl rfl (.c 72 rfl (fun h=>h) .n) (fun hgd=>eql rfl rfl) ?_
  refine st (bA rfl rfl (fun h=>by rw[h];rfl)) ?_
  refine en fun a w e' hf=>?_
  replace Ho:=Ho.ext e'
  replace e:=e.tr e'
  replace B2:=B2.ext e'
  replace B3:=B3.ext e'
  replace B4:=B4.ext e'
  replace B7:=B7.ext e'
  replace B9:=B9.ext e'
  refine aa ?_
  refine ifc hf rfl (fun hb=>?_) (fun hb=>?_)
  ·refine aR ?_
   simp only[Exit.then,Exit.inBlock,↓reduceIte]
   replace hf:=hf.kp [2,3,4,7,8]
   refine ac 2 hf (by decide +kernel) ?_
   refine st (mv rfl) ?_
   refine st ((add rfl rfl (by omega)).eq (congrArg (Value.int .i64) (show (k:Int)+1=((k+1:Nat):Int) from rfl))) ?_
   refine en fun a w e' hf=>?_
   replace Ho:=Ho.ext e'
   replace e:=e.tr e'
   replace B2:=B2.ext e'
   replace B3:=B3.ext e'
   replace B4:=B4.ext e'
   replace B7:=B7.ext e'
   refine ae hf rfl (by decide) fun a hf=>?_
   refine aa ?_
   replace hf:=hf.kp [2,3,4,7,8]
   refine⟨_,?_,k+1,u,rfl,by omega,hf,e,?_⟩
   ·omega
   rw[hs,keepV,if_pos hb]
   exact⟨B2,B3,B4,B7,by simpa using Ho⟩
  refine ar ?_
  simp only[Exit.then,Exit.inBlock,↓reduceIte]
  have hkv:=aM hb;clear hb
  replace hf:=hf.kp [2,3,4,7,8,9]
  repeat refine seq ?_
  refine ac 10 hf (by decide +kernel) ?_
  refine st (am U56 rfl T3 (by decide) rfl) ?_
  refine st (ld1 T3 rfl B9 rfl) ?_
  refine st (am U52 rfl T3 (by decide) rfl) ?_
  refine st (ld1 T3 rfl B3 rfl) ?_
  refine st (eql rfl rfl) ?_
  refine st (mv rfl) ?_
  refine sgE rfl rfl (.k 3 rfl .n) (fun hgd=>am U52 rfl T3 (by decide) rfl) ?_
  refine sgE rfl rfl (.c 81 rfl (fun h=>h) .n) (fun hgd=>ld1 T3 rfl B3 rfl) ?_
  refine sgE rfl rfl (.c 82 rfl (fun h=>h) .n) (fun hgd=>eql rfl rfl) ?_
  refine st (bA rfl rfl (fun h=>by rw[h];rfl)) ?_
  refine en fun a w e' hf=>?_
  replace Ho:=Ho.ext e'
  replace e:=e.tr e'
  replace B2:=B2.ext e'
  replace B3:=B3.ext e'
  replace B4:=B4.ext e'
  replace B7:=B7.ext e'
  replace B9:=B9.ext e'
  refine aa ?_
  refine cut (J:=fun a w=>Fr 183 a w [(2,E (.pointer (some ⟨b2,0,none⟩))),(3,E (.pointer (some ⟨b3,0,none⟩))),(4,E (.pointer (some ⟨b4,0,none⟩))),(7,E (.pointer (some ⟨b7,0,none⟩))),(8,E (I k)),(9,E (.pointer (some ⟨b9,0,none⟩)))]∧Ext W w∧Blk w b2 #[.slice a1 n1 c1,.slice a2 n2 c2] 26∧Blk w b3 (dtV d).cells 52∧Blk w b4 #[.slice none 0 0,.slice none 0 0] 26∧Blk w b7 #[u,.slice none 0 0] 26∧Blk w b9 #[.int .i64 y.1,.int .u8 (if (y.1==d.2.1&&d.1==4)=true then d.2.2.2.1 else y.2.1),.int .i64 y.2.2] 56∧OwR vtE 56 (b7+1) G w ((g.1.take k).filterMap (keepV d)) u) ?_ (fun a w hJ=>?_)
  ·repeat refine seq ?_
   refine ifc hf rfl (fun hb=>?_) (fun hb=>?_)
   ·replace hf:=hf.kp [2,3,4,7,8,9]
    refine ac 3 hf (by decide +kernel) ?_
    refine st (am U52 rfl T5 (by decide) rfl) ?_
    refine st (ld1 T5 rfl B3 rfl) ?_
    refine st (am U56 rfl T5 (by decide) rfl) ?_
    refine en fun a w e' hf=>?_
    replace Ho:=Ho.ext e'
    replace e:=e.tr e'
    replace B2:=B2.ext e'
    replace B3:=B3.ext e'
    replace B4:=B4.ext e'
    replace B7:=B7.ext e'
    replace B9:=B9.ext e'
    clear e'
    refine aO T5 hf rfl rfl (rfl) B9 (by simp) fun w hg hsz B9 hf=>?_
    replace Ho:=Ho.grE hg n9
    replace e:=e.gr hg (by omega)
    replace B2:=B2.gr hg (by omega)
    replace B3:=B3.gr hg (by omega)
    replace B4:=B4.gr hg (by omega)
    replace B7:=B7.gr hg (by omega)
    clear hg
    refine aa ?_
    rw[if_pos hb]
    replace hf:=hf.kp [2,3,4,7,8,9]
    exact⟨rfl,hf,e,B2,B3,B4,B7,B9,Ho⟩
   ·refine ar ?_
    rw[if_neg (aM hb)]
    replace hf:=hf.kp [2,3,4,7,8,9]
    exact⟨rfl,hf,e,B2,B3,B4,B7,B9,Ho⟩
  clear hf e B2 B3 B4 B7 B9 Ho
  obtain⟨hf,e,B2,B3,B4,B7,B9,Ho⟩:=hJ
  simp only[Exit.then]
  repeat refine seq ?_
  refine ac 10 hf (by decide +kernel) ?_
  refine st (am U56 rfl T3 (by decide) rfl) ?_
  refine st (ld1 T3 rfl B9 rfl) ?_
  refine st (am U52 rfl T3 (by decide) rfl) ?_
  refine st (ld1 T3 rfl B3 rfl) ?_
  refine st (eql rfl rfl) ?_
  refine st (mv rfl) ?_
  refine sgE rfl rfl (.k 3 rfl .n) (fun hgd=>am U52 rfl T3 (by decide) rfl) ?_
  refine sgE rfl rfl (.c 94 rfl (fun h=>h) .n) (fun hgd=>ld1 T3 rfl B3 rfl) ?_
  refine sgE rfl rfl (.c 95 rfl (fun h=>h) .n) (fun hgd=>eql rfl rfl) ?_
  refine st (bA rfl rfl (fun h=>by rw[h];rfl)) ?_
  refine en fun a w e' hf=>?_
  replace Ho:=Ho.ext e'
  replace e:=e.tr e'
  replace B2:=B2.ext e'
  replace B3:=B3.ext e'
  replace B4:=B4.ext e'
  replace B7:=B7.ext e'
  replace B9:=B9.ext e'
  refine aa ?_
  refine cut (J:=fun a w=>Fr 183 a w [(2,E (.pointer (some ⟨b2,0,none⟩))),(3,E (.pointer (some ⟨b3,0,none⟩))),(4,E (.pointer (some ⟨b4,0,none⟩))),(7,E (.pointer (some ⟨b7,0,none⟩))),(8,E (I k)),(9,E (.pointer (some ⟨b9,0,none⟩)))]∧Ext W w∧Blk w b2 #[.slice a1 n1 c1,.slice a2 n2 c2] 26∧Blk w b3 (dtV d).cells 52∧Blk w b4 #[.slice none 0 0,.slice none 0 0] 26∧Blk w b7 #[u,.slice none 0 0] 26∧Blk w b9 #[.int .i64 y.1,.int .u8 (if (y.1==d.2.1&&d.1==4)=true then d.2.2.2.1 else y.2.1),.int .i64 (if (y.1==d.2.1&&d.1==5)=true then d.2.2.2.2 else y.2.2)] 56∧OwR vtE 56 (b7+1) G w ((g.1.take k).filterMap (keepV d)) u) ?_ (fun a w hJ=>?_)
  ·repeat refine seq ?_
   refine ifc hf rfl (fun hb=>?_) (fun hb=>?_)
   ·replace hf:=hf.kp [2,3,4,7,8,9]
    refine ac 3 hf (by decide +kernel) ?_
    refine st (am U52 rfl T3 (by decide) rfl) ?_
    refine st (ld1 T3 rfl B3 rfl) ?_
    refine st (am U56 rfl T3 (by decide) rfl) ?_
    refine en fun a w e' hf=>?_
    replace Ho:=Ho.ext e'
    replace e:=e.tr e'
    replace B2:=B2.ext e'
    replace B3:=B3.ext e'
    replace B4:=B4.ext e'
    replace B7:=B7.ext e'
    replace B9:=B9.ext e'
    clear e'
    refine aO T3 hf rfl rfl (rfl) B9 (by simp) fun w hg hsz B9 hf=>?_
    replace Ho:=Ho.grE hg n9
    replace e:=e.gr hg (by omega)
    replace B2:=B2.gr hg (by omega)
    replace B3:=B3.gr hg (by omega)
    replace B4:=B4.gr hg (by omega)
    replace B7:=B7.gr hg (by omega)
    clear hg
    refine aa ?_
    rw[if_pos hb]
    replace hf:=hf.kp [2,3,4,7,8,9]
    exact⟨rfl,hf,e,B2,B3,B4,B7,B9,Ho⟩
   ·refine ar ?_
    rw[if_neg (aM hb)]
    replace hf:=hf.kp [2,3,4,7,8,9]
    exact⟨rfl,hf,e,B2,B3,B4,B7,B9,Ho⟩
  clear hf e B2 B3 B4 B7 B9 Ho
  obtain⟨hf,e,B2,B3,B4,B7,B9,Ho⟩:=hJ
  simp only[Exit.then]
  rw[keepV,if_neg hkv] at hs
  obtain⟨y',hy'⟩:∃y':VT,y'=(y.1,(if (y.1==d.2.1&&d.1==4)=true then d.2.2.2.1 else y.2.1),(if (y.1==d.2.1&&d.1==5)=true then d.2.2.2.2 else y.2.2)):=⟨_,rfl⟩
  replace B9:Blk w b9 (vtV y').cells 56:=by rw[hy'];exact B9
  rw[← hy'] at hs
  clear hy'
  have n2:=Ho.neLt (b:=b2) (by omega);have n3:=Ho.neLt (b:=b3) (by omega);have n4:=Ho.neLt (b:=b4) (by omega);have n7:=Ho.neLt (b:=b7) (by omega)
  refine ac 4 hf (by decide +kernel) ?_
  refine st (am U26 rfl T23 (by decide) rfl) ?_
  refine st ((ld1 T23 rfl (by assumption) rfl).eq ((rfl:_=u))) ?_
  refine st ((ldW T56 rfl B9 rfl).eq ((rfl:_=vtV y'))) ?_
  refine st (bL U23 I56 rfl (by decide) rfl Ho.avs (dJ rfl)) ?_
  refine en fun a w e' hf=>?_
  replace Ho:=Ho.ext e'
  replace e:=e.tr e'
  replace B2:=B2.ext e'
  replace B3:=B3.ext e'
  replace B4:=B4.ext e'
  replace B7:=B7.ext e'
  replace B9:=B9.ext e'
  clear e'
  haveI hin:∀G0,InR (GB W G0) _:=OwR.inGB (W:=W) Ho (by omega)
  refine bQ U23 I56 rfl rfl hf (by decide) rfl Ho (isR rfl) (by simp only[List.length_singleton];omega) (by simp only[List.length_singleton,maxLen];omega) fun a v w hg hat Hn hf=>?_
  replace e:=e.gro hg (Ho.row (W:=W) (by omega))
  have hrow:=Ho.row (W:=W) (by omega)
  replace Ho:=Hn
  clear hrow
  replace B2:=B2.gro hg (by assumption)
  replace B3:=B3.gro hg (by assumption)
  replace B4:=B4.gro hg (by assumption)
  replace B7:=B7.gro hg (by assumption)
  replace B9:=B9.gro hg (by assumption)
  replace Ho:=Hn;clear Hn hg hat hin
  replace hf:=hf.kp [2,3,4,7,8,105]
  clear n2 n3 n4 n7 n9
  refine aB hf (by decide) (am U26 rfl T23 (by decide) rfl) fun a w e' hf=>?_
  replace Ho:=Ho.ext e'
  replace e:=e.tr e'
  replace B2:=B2.ext e'
  replace B3:=B3.ext e'
  replace B4:=B4.ext e'
  replace B7:=B7.ext e'
  clear e'
  refine aO T23 hf rfl rfl (slOne Ho.sl) B7 (by simp) fun w hg hsz B7 hf=>?_
  replace Ho:=Ho.grE hg (Ho.neLt (by omega))
  replace e:=e.gr hg (by omega)
  replace B2:=B2.gr hg (by omega)
  replace B3:=B3.gr hg (by omega)
  replace B4:=B4.gr hg (by omega)
  clear hg
  refine aa ?_
  simp only[Exit.then,Exit.inBlock,↓reduceIte]
  refine ac 2 hf (by decide +kernel) ?_
  refine st (mv rfl) ?_
  refine st ((add rfl rfl (by omega)).eq (congrArg (Value.int .i64) (show (k:Int)+1=((k+1:Nat):Int) from rfl))) ?_
  refine en fun a w e' hf=>?_
  replace Ho:=Ho.ext e'
  replace e:=e.tr e'
  replace B2:=B2.ext e'
  replace B3:=B3.ext e'
  replace B4:=B4.ext e'
  replace B7:=B7.ext e'
  refine ae hf rfl (by decide) fun a hf=>?_
  refine aa ?_
  replace hf:=hf.kp [2,3,4,7,8]
  refine⟨_,?_,k+1,v,rfl,by omega,hf,e,?_⟩
  ·omega
  exact⟨B2,B3,B4,B7,by rw[hs];exact Ho⟩
 ·obtain rfl:k=g.1.length:=by have:=of_decide_eq_false hc;(try dsimp only at this);omega
  clear hc
  simp only[Exit.then,Exit.inBlock,↓reduceIte]
  rw[List.take_length] at Ho
  obtain⟨av,nv,cv,rfl⟩:=Dv.slF Ho.sl
  have hown:∀bb,(Value.slice av nv cv).ownBlock=some bb→bb<w.heap.size:=fun bb h=>(Ho.lt h).2
  have HOo:=Ho
  refine seq ?_
  refine aj ?_
  refine ae hf rfl (by decide) fun a hf=>?_
  refine aa ?_
  replace hf:=hf.kp [2,3,4,7,10]
  repeat refine seq ?_
  refine ac 2 hf (by decide +kernel) ?_
  refine st ((ldW T52 rfl B3 rfl).eq ((rfl:_=dtV d))) ?_
  refine st (aw jc rfl (fun v w he h=>by cases h;exact oI d w)) ?_
  refine en fun a w e' hf=>?_
  replace Ho:=Ho.ext e'
  replace e:=e.tr e'
  replace B2:=B2.ext e'
  replace B3:=B3.ext e'
  replace B4:=B4.ext e'
  replace B7:=B7.ext e'
  refine aa ?_
  refine cut (J:=fun a w=>Fr 183 a w [(2,E (.pointer (some ⟨b2,0,none⟩))),(3,E (.pointer (some ⟨b3,0,none⟩))),(4,E (.pointer (some ⟨b4,0,none⟩))),(7,E (.pointer (some ⟨b7,0,none⟩))),(10,E (I (atE g d)))]∧Ext W w∧Blk w b2 #[.slice a1 n1 c1,.slice a2 n2 c2] 26∧Blk w b3 (dtV d).cells 52∧Blk w b4 #[.slice none 0 0,.slice none 0 0] 26∧Blk w b7 #[.slice av nv cv,.slice none 0 0] 26∧OwR vtE 56 (b7+1) G w (g.1.filterMap (keepV d)) (.slice av nv cv)) ?_ (fun a w hJ=>?_)
  ·repeat refine seq ?_
   refine ifc hf rfl (fun hb=>?_) (fun hb=>?_)
   ·replace hf:=hf.kp [2,3,4,7]
    refine ac 6 hf (by decide +kernel) ?_
    refine st ((ldW T26 rfl B2 rfl).eq ((rfl:_=Value.agg #[.slice a1 n1 c1,.slice a2 n2 c2]))) ?_
    refine st (am U52 rfl T3 (by decide) rfl) ?_
    refine st (ld1 T3 rfl B3 rfl) ?_
    refine st (am U52 rfl T3 (by decide) rfl) ?_
    refine st (ld1 T3 rfl B3 rfl) ?_
    refine st (fI (A:=E (I (ee g.2 d.2.1 d.2.2.1))) kH rfl rfl rfl (fun v u x w he k k' k''=>by cases k;cases k';cases k'';exact oH g d.2.1 d.2.2.1 _ w (VA.st _ _ _ _ (Ext.tr e he) h) hl2)) ?_
    refine en fun a w e' hf=>?_
    replace Ho:=Ho.ext e'
    replace e:=e.tr e'
    replace B2:=B2.ext e'
    replace B3:=B3.ext e'
    replace B4:=B4.ext e'
    replace B7:=B7.ext e'
    refine ae hf rfl (by decide) fun a hf=>?_
    refine aa ?_
    rw[atE,if_pos hb]
    replace hf:=hf.kp [2,3,4,7,10]
    exact⟨rfl,hf,e,B2,B3,B4,B7,Ho⟩
   ·refine ar ?_
    rw[atE,if_neg (aM hb)]
    replace hf:=hf.kp [2,3,4,7,10]
    exact⟨rfl,hf,e,B2,B3,B4,B7,Ho⟩
  clear hf e B2 B3 B4 B7 Ho
  obtain⟨hf,e,B2,B3,B4,B7,Ho⟩:=hJ
  simp only[Exit.then]
  rw[gE] at hdo
  generalize atE g d=at' at hf hdo hlE
  obtain⟨NV,hNV⟩:∃NV:Nat→Prop,NV=fun b=>(Value.slice av nv cv).ownBlock≠some b:=⟨_,rfl⟩
  have HD:(Dv (slE vtE) NV (g.1.filterMap (keepV d))).p (.slice av nv cv) w:=Ho.slN fun b hb=>by rw[hNV];exact fun h=>h hb
  obtain⟨N5,hN5⟩:∃N5,N5=w.heap.size:=⟨_,rfl⟩
  have l7:=B7.lt
  have nV:∀bb,(bb≤b7∨N5≤bb)→NV bb:=fun bb hb=>by rw[hNV];intro h;have h3:=Ho.lt h;omega
  have hNG:∀b,G b→NV b:=fun b hb=>by rw[hNV];intro h;have h3:=Ho.lt h;have:=hG b hb;omega
  have hN7:b7<N5:=by rw[hN5];exact l7
  have hN5s:N5≤w.heap.size:=Nat.le_of_eq hN5
  clear hN5 hNV l7 Ho HOo hown
  replace hf:=hf.kp [2,3,4,7,10]
  repeat refine seq ?_
  refine aj ?_
  refine ae hf rfl (by decide) fun a hf=>?_
  refine aa ?_
  replace hf:=hf.kp [2,3,4,7,10,11]
  refine blk (aW (fun r0 a w=>∃(k:Nat) (u:Value),r0=g.2.length - k∧k≤g.2.length∧Fr 183 a w [(2,E (.pointer (some ⟨b2,0,none⟩))),(3,E (.pointer (some ⟨b3,0,none⟩))),(4,E (.pointer (some ⟨b4,0,none⟩))),(7,E (.pointer (some ⟨b7,0,none⟩))),(10,E (I at')),(11,E (I k))]∧Ext W w∧Blk w b2 #[.slice a1 n1 c1,.slice a2 n2 c2] 26∧Blk w b3 (dtV d).cells 52∧Blk w b4 #[.slice none 0 0,.slice none 0 0] 26∧Blk w b7 #[.slice av nv cv,u] 26∧(Dv (slE vtE) NV (g.1.filterMap (keepV d))).p (.slice av nv cv) w∧OwR etE 57 N5 G w (bP d at' 0 (g.2.take k)) u∧N5≤w.heap.size) g.2.length ⟨0,.slice none 0 0,rfl,by omega,hf,e,⟨B2,B3,B4,B7,HD,OwR.nil etE _ hN5s fun b hb=>Nat.lt_of_lt_of_le (hG b hb) (by omega),hN5s⟩⟩ ?_)
  clear hf e;try clear B2;try clear B3;try clear B4;try clear B7;try clear HD;try clear Ho;try clear hN5s
  rintro r0 a w ⟨k,u,rfl,hk,hf,e,B2,B3,B4,B7,HD,Ho,hN5s⟩
  repeat refine seq ?_
  refine ac 5 hf (by decide +kernel) ?_
  refine st (mv rfl) ?_
  refine st (am U26 rfl T24 (by decide) rfl) ?_
  refine st (ld1 T24 rfl (by assumption) rfl) ?_
  refine st (bi U24 (isE rfl (VA.st _ _ _ _ e h2))) ?_
  refine st (lss rfl rfl) ?_
  refine en fun a w e' hf=>?_
  replace HD:=VA.st _ _ _ _ e' HD
  replace hN5s:=Nat.le_trans hN5s e'.size
  replace e:=e.tr e'
  replace B2:=B2.ext e'
  replace B3:=B3.ext e'
  replace B4:=B4.ext e'
  replace B7:=B7.ext e'
  replace Ho:=Ho.ext e'
  refine aa ?_
  refine ifc hf rfl (fun hc=>ar ?_) (fun hc=>aR ?_)
  rotate_left
  rotate_left
  ·have hlt:k<g.2.length:=by have:=of_decide_eq_true hc;(try dsimp only at this);omega
   clear hc
   replace hf:=hf.kp [2,3,4,7,10,11]
   refine seq ?_
   refine blk ?_
   have hg:=List.getElem?_eq_getElem hlt
   generalize g.2[k]=y at hg
   have hs:=vq d at' hg
   have hlk:=hlE k
   refine seq ?_
   refine aj ?_
   refine aB hf (by decide) (am U26 rfl T24 (by decide) rfl) fun a w e' hf=>?_
   replace HD:=VA.st _ _ _ _ e' HD
   replace hN5s:=Nat.le_trans hN5s e'.size
   replace Ho:=Ho.ext e'
   replace e:=e.tr e'
   replace B2:=B2.ext e'
   replace B3:=B3.ext e'
   replace B4:=B4.ext e'
   replace B7:=B7.ext e'
   clear e'
   refine aB hf (by decide) (ld1 T24 rfl B2 rfl) fun a w e' hf=>?_
   replace HD:=VA.st _ _ _ _ e' HD
   replace hN5s:=Nat.le_trans hN5s e'.size
   replace Ho:=Ho.ext e'
   replace e:=e.tr e'
   replace B2:=B2.ext e'
   replace B3:=B3.ext e'
   replace B4:=B4.ext e'
   replace B7:=B7.ext e'
   clear e'
   refine aB hf (by decide) (mv rfl) fun a w e' hf=>?_
   replace HD:=VA.st _ _ _ _ e' HD
   replace hN5s:=Nat.le_trans hN5s e'.size
   replace Ho:=Ho.ext e'
   replace e:=e.tr e'
   replace B2:=B2.ext e'
   replace B3:=B3.ext e'
   replace B4:=B4.ext e'
   replace B7:=B7.ext e'
   clear e'
   refine aB hf (by decide) (ba U24 S57 (isE rfl (VA.st _ _ _ _ e h2b)) rfl (by omega) (hg)) fun a w e' hf=>?_
   replace HD:=VA.st _ _ _ _ e' HD
   replace hN5s:=Nat.le_trans hN5s e'.size
   replace Ho:=Ho.ext e'
   replace e:=e.tr e'
   replace B2:=B2.ext e'
   replace B3:=B3.ext e'
   replace B4:=B4.ext e'
   replace B7:=B7.ext e'
   clear e'
   refine aB hf (by decide) (gA T57 (isR rfl)) fun a w e' hf=>?_
   replace HD:=VA.st _ _ _ _ e' HD
   replace hN5s:=Nat.le_trans hN5s e'.size
   replace Ho:=Ho.ext e'
   replace e:=e.tr e'
   replace B2:=B2.ext e'
   replace B3:=B3.ext e'
   replace B4:=B4.ext e'
   replace B7:=B7.ext e'
   clear e'
   refine aC I57 hf (by decide) fun a b12 w e' hb12 hs12 B12 hf=>?_
   have hle12:=Nat.le_trans e.size (Nat.le_of_eq hb12.symm)
   have lo12_hN5s:=Nat.le_trans hN5s (Nat.le_of_eq hb12.symm)
   have ne12_Ho:=Ho.ne_new hb12
   have lt12_B2:=B2.lt
   have lt12_B3:=B3.lt
   have lt12_B4:=B4.lt
   have lt12_B7:=B7.lt
   replace HD:=VA.st _ _ _ _ e' HD
   replace hN5s:=Nat.le_trans hN5s e'.size
   replace Ho:=Ho.ext e'
   replace e:=e.tr e'
   replace B2:=B2.ext e'
   replace B3:=B3.ext e'
   replace B4:=B4.ext e'
   replace B7:=B7.ext e'
   clear e'
   have n12:=ne12_Ho
   replace hf:=hf.kp [2,3,4,7,10,11,12,126]
   refine aF T57 hf rfl rfl (lJ y) B12 rfl rfl fun w hg' hsz B12 hf=>?_
   replace e:=e.gr hg' (by omega);replace B2:=B2.gr hg' (by omega);replace B3:=B3.gr hg' (by omega);replace B4:=B4.gr hg' (by omega);replace B7:=B7.gr hg' (by omega);replace Ho:=Ho.grE hg' n12
   replace HD:=Dv.grN HD hg' (fun bb hb=>nV bb (by cases hb;omega));replace hN5s:=Nat.le_trans hN5s hg'.size;clear hg'
   refine aa ?_
   replace hf:=hf.kp [2,3,4,7,10,11,12]
   repeat refine seq ?_
   refine ac 27 hf (by decide +kernel) ?_
   refine st (am U52 rfl T3 (by decide) rfl) ?_
   refine st (ld1 T3 rfl B3 rfl) ?_
   refine st (eql rfl rfl) ?_
   refine st (mv rfl) ?_
   refine sgE rfl rfl (.k 12 rfl .n) (fun hgd=>am U57 rfl T3 (by decide) rfl) ?_
   refine sgE rfl rfl (.c 131 rfl (fun h=>h) .n) (fun hgd=>ld1 T3 rfl B12 rfl) ?_
   refine sgE rfl rfl (.k 3 rfl .n) (fun hgd=>am U52 rfl T3 (by decide) rfl) ?_
   refine sgE rfl rfl (.c 133 rfl (fun h=>h) .n) (fun hgd=>ld1 T3 rfl B3 rfl) ?_
   refine sgE rfl rfl (.c 132 rfl (fun h=>h) (.c 134 rfl (fun h=>h) .n)) (fun hgd=>eql rfl rfl) ?_
   refine sgE rfl rfl (.c 135 rfl (fun h=>h) .n) (fun hgd=>mv rfl) ?_
   refine sgC rfl rfl (.k 12 rfl .n) (fun hgd=>am U57 rfl T3 (by decide) rfl) ?_
   refine sgC rfl rfl (.c 137 rfl (fun h=>h) .n) (fun hgd=>ld1 T3 rfl B12 rfl) ?_
   refine sgC rfl rfl (.k 3 rfl .n) (fun hgd=>am U52 rfl T3 (by decide) rfl) ?_
   refine sgC rfl rfl (.c 139 rfl (fun h=>h) .n) (fun hgd=>ld1 T3 rfl B3 rfl) ?_
   refine sgC rfl rfl (.c 138 rfl (fun h=>h) (.c 140 rfl (fun h=>h) .n)) (fun hgd=>eql rfl rfl) ?_
   refine sgE rfl rfl (.c 136 rfl (fun h=>h) (.k 141 rfl .n)) (fun hgd=>bF rfl rfl (fun h=>by rw[hgd,h];rfl)) ?_
   refine st (bA rfl rfl (fun h=>by rw[h];rfl)) ?_
   refine st (mv rfl) ?_
   refine sgE rfl rfl (.k 3 rfl .n) (fun hgd=>am U52 rfl T3 (by decide) rfl) ?_
   refine sgE rfl rfl (.c 145 rfl (fun h=>h) .n) (fun hgd=>ld1 T3 rfl B3 rfl) ?_
   refine sgE rfl rfl (.c 146 rfl (fun h=>h) .n) (fun hgd=>eql rfl rfl) ?_
   refine sgE rfl rfl (.c 147 rfl (fun h=>h) .n) (fun hgd=>mv rfl) ?_
   refine sgC rfl rfl (.k 11 rfl .n) (fun hgd=>mv rfl) ?_
   refine sgC rfl rfl (.k 10 rfl .n) (fun hgd=>mv rfl) ?_
   refine sgC rfl rfl (.c 149 rfl (fun h=>h) (.c 150 rfl (fun h=>h) .n)) (fun hgd=>eql rfl rfl) ?_
   refine sgE rfl rfl (.c 148 rfl (fun h=>h) (.k 151 rfl .n)) (fun hgd=>bA rfl rfl (fun h=>by rw[hgd,h];rfl)) ?_
   refine st (bF rfl rfl (fun h=>by rw[h];rfl)) ?_
   refine en fun a w e' hf=>?_
   replace HD:=VA.st _ _ _ _ e' HD
   replace hN5s:=Nat.le_trans hN5s e'.size
   replace Ho:=Ho.ext e'
   replace e:=e.tr e'
   replace B2:=B2.ext e'
   replace B3:=B3.ext e'
   replace B4:=B4.ext e'
   replace B7:=B7.ext e'
   replace B12:=B12.ext e'
   refine aa ?_
   refine ifc hf rfl (fun hb=>?_) (fun hb=>?_)
   ·refine aR ?_
    simp only[Exit.then,Exit.inBlock,↓reduceIte]
    replace hf:=hf.kp [2,3,4,7,10,11]
    refine ac 2 hf (by decide +kernel) ?_
    refine st (mv rfl) ?_
    refine st ((add rfl rfl (by omega)).eq (congrArg (Value.int .i64) (show (k:Int)+1=((k+1:Nat):Int) from rfl))) ?_
    refine en fun a w e' hf=>?_
    replace HD:=VA.st _ _ _ _ e' HD
    replace hN5s:=Nat.le_trans hN5s e'.size
    replace Ho:=Ho.ext e'
    replace e:=e.tr e'
    replace B2:=B2.ext e'
    replace B3:=B3.ext e'
    replace B4:=B4.ext e'
    replace B7:=B7.ext e'
    refine ae hf rfl (by decide) fun a hf=>?_
    refine aa ?_
    replace hf:=hf.kp [2,3,4,7,10,11]
    refine⟨_,?_,k+1,u,rfl,by omega,hf,e,?_⟩
    ·omega
    rw[hs,dm,if_pos hb]
    exact⟨B2,B3,B4,B7,HD,by simpa using Ho,hN5s⟩
   refine ar ?_
   simp only[Exit.then,Exit.inBlock,↓reduceIte]
   have hkv:=aM hb;clear hb
   replace hf:=hf.kp [2,3,4,7,10,11,12]
   repeat refine seq ?_
   refine ac 8 hf (by decide +kernel) ?_
   refine st (mv rfl) ?_
   refine st (mv rfl) ?_
   refine st (eql rfl rfl) ?_
   refine st (mv rfl) ?_
   refine sgE rfl rfl (.k 3 rfl .n) (fun hgd=>am U52 rfl T3 (by decide) rfl) ?_
   refine sgE rfl rfl (.c 158 rfl (fun h=>h) .n) (fun hgd=>ld1 T3 rfl B3 rfl) ?_
   refine sgE rfl rfl (.c 159 rfl (fun h=>h) .n) (fun hgd=>eql rfl rfl) ?_
   refine st (bA rfl rfl (fun h=>by rw[h];rfl)) ?_
   refine en fun a w e' hf=>?_
   replace HD:=VA.st _ _ _ _ e' HD
   replace hN5s:=Nat.le_trans hN5s e'.size
   replace Ho:=Ho.ext e'
   replace e:=e.tr e'
   replace B2:=B2.ext e'
   replace B3:=B3.ext e'
   replace B4:=B4.ext e'
   replace B7:=B7.ext e'
   replace B12:=B12.ext e'
   refine aa ?_
   refine cut (J:=fun a w=>Fr 183 a w [(2,E (.pointer (some ⟨b2,0,none⟩))),(3,E (.pointer (some ⟨b3,0,none⟩))),(4,E (.pointer (some ⟨b4,0,none⟩))),(7,E (.pointer (some ⟨b7,0,none⟩))),(10,E (I at')),(11,E (I k)),(12,E (.pointer (some ⟨b12,0,none⟩)))]∧Ext W w∧Blk w b2 #[.slice a1 n1 c1,.slice a2 n2 c2] 26∧Blk w b3 (dtV d).cells 52∧Blk w b4 #[.slice none 0 0,.slice none 0 0] 26∧Blk w b7 #[.slice av nv cv,u] 26∧(Dv (slE vtE) NV (g.1.filterMap (keepV d))).p (.slice av nv cv) w∧Blk w b12 #[.int .i64 y.1.1,.int .i64 y.1.2,.int .u8 (if ((k:Int)==at'&&d.1==6)=true then d.2.2.2.1 else y.2.1),.int .i64 y.2.2] 57∧OwR etE 57 N5 G w (bP d at' 0 (g.2.take k)) u∧N5≤w.heap.size) ?_ (fun a w hJ=>?_)
   ·repeat refine seq ?_
    refine ifc hf rfl (fun hb=>?_) (fun hb=>?_)
    ·replace hf:=hf.kp [2,3,4,7,10,11,12]
     refine ac 3 hf (by decide +kernel) ?_
     refine st (am U52 rfl T5 (by decide) rfl) ?_
     refine st (ld1 T5 rfl B3 rfl) ?_
     refine st (am U57 rfl T5 (by decide) rfl) ?_
     refine en fun a w e' hf=>?_
     replace HD:=VA.st _ _ _ _ e' HD
     replace hN5s:=Nat.le_trans hN5s e'.size
     replace Ho:=Ho.ext e'
     replace e:=e.tr e'
     replace B2:=B2.ext e'
     replace B3:=B3.ext e'
     replace B4:=B4.ext e'
     replace B7:=B7.ext e'
     replace B12:=B12.ext e'
     clear e'
     refine aO T5 hf rfl rfl (rfl) B12 (by simp) fun w hg hsz B12 hf=>?_
     replace HD:=Dv.grN HD hg (fun bb hb=>nV bb (by cases hb;omega))
     replace hN5s:=Nat.le_trans hN5s hg.size
     replace Ho:=Ho.grE hg n12
     replace e:=e.gr hg (by omega)
     replace B2:=B2.gr hg (by omega)
     replace B3:=B3.gr hg (by omega)
     replace B4:=B4.gr hg (by omega)
     replace B7:=B7.gr hg (by omega)
     clear hg
     refine aa ?_
     rw[if_pos hb]
     replace hf:=hf.kp [2,3,4,7,10,11,12]
     exact⟨rfl,hf,e,B2,B3,B4,B7,HD,B12,Ho,hN5s⟩
    ·refine ar ?_
     rw[if_neg (aM hb)]
     replace hf:=hf.kp [2,3,4,7,10,11,12]
     exact⟨rfl,hf,e,B2,B3,B4,B7,HD,B12,Ho,hN5s⟩
   clear hf e B2 B3 B4 B7 HD B12 Ho hN5s
   obtain⟨hf,e,B2,B3,B4,B7,HD,B12,Ho,hN5s⟩:=hJ
   simp only[Exit.then]
   repeat refine seq ?_
   refine ac 8 hf (by decide +kernel) ?_
   refine st (mv rfl) ?_
   refine st (mv rfl) ?_
   refine st (eql rfl rfl) ?_
   refine st (mv rfl) ?_
   refine sgE rfl rfl (.k 3 rfl .n) (fun hgd=>am U52 rfl T3 (by decide) rfl) ?_
   refine sgE rfl rfl (.c 169 rfl (fun h=>h) .n) (fun hgd=>ld1 T3 rfl B3 rfl) ?_
   refine sgE rfl rfl (.c 170 rfl (fun h=>h) .n) (fun hgd=>eql rfl rfl) ?_
   refine st (bA rfl rfl (fun h=>by rw[h];rfl)) ?_
   refine en fun a w e' hf=>?_
   replace HD:=VA.st _ _ _ _ e' HD
   replace hN5s:=Nat.le_trans hN5s e'.size
   replace Ho:=Ho.ext e'
   replace e:=e.tr e'
   replace B2:=B2.ext e'
   replace B3:=B3.ext e'
   replace B4:=B4.ext e'
   replace B7:=B7.ext e'
   replace B12:=B12.ext e'
   refine aa ?_
   refine cut (J:=fun a w=>Fr 183 a w [(2,E (.pointer (some ⟨b2,0,none⟩))),(3,E (.pointer (some ⟨b3,0,none⟩))),(4,E (.pointer (some ⟨b4,0,none⟩))),(7,E (.pointer (some ⟨b7,0,none⟩))),(10,E (I at')),(11,E (I k)),(12,E (.pointer (some ⟨b12,0,none⟩)))]∧Ext W w∧Blk w b2 #[.slice a1 n1 c1,.slice a2 n2 c2] 26∧Blk w b3 (dtV d).cells 52∧Blk w b4 #[.slice none 0 0,.slice none 0 0] 26∧Blk w b7 #[.slice av nv cv,u] 26∧(Dv (slE vtE) NV (g.1.filterMap (keepV d))).p (.slice av nv cv) w∧Blk w b12 #[.int .i64 y.1.1,.int .i64 y.1.2,.int .u8 (if ((k:Int)==at'&&d.1==6)=true then d.2.2.2.1 else y.2.1),.int .i64 (if ((k:Int)==at'&&d.1==7)=true then d.2.2.2.2 else y.2.2)] 57∧OwR etE 57 N5 G w (bP d at' 0 (g.2.take k)) u∧N5≤w.heap.size) ?_ (fun a w hJ=>?_)
   ·repeat refine seq ?_
    refine ifc hf rfl (fun hb=>?_) (fun hb=>?_)
    ·replace hf:=hf.kp [2,3,4,7,10,11,12]
     refine ac 3 hf (by decide +kernel) ?_
     refine st (am U52 rfl T3 (by decide) rfl) ?_
     refine st (ld1 T3 rfl B3 rfl) ?_
     refine st (am U57 rfl T3 (by decide) rfl) ?_
     refine en fun a w e' hf=>?_
     replace HD:=VA.st _ _ _ _ e' HD
     replace hN5s:=Nat.le_trans hN5s e'.size
     replace Ho:=Ho.ext e'
     replace e:=e.tr e'
     replace B2:=B2.ext e'
     replace B3:=B3.ext e'
     replace B4:=B4.ext e'
     replace B7:=B7.ext e'
     replace B12:=B12.ext e'
     clear e'
     refine aO T3 hf rfl rfl (rfl) B12 (by simp) fun w hg hsz B12 hf=>?_
     replace HD:=Dv.grN HD hg (fun bb hb=>nV bb (by cases hb;omega))
     replace hN5s:=Nat.le_trans hN5s hg.size
     replace Ho:=Ho.grE hg n12
     replace e:=e.gr hg (by omega)
     replace B2:=B2.gr hg (by omega)
     replace B3:=B3.gr hg (by omega)
     replace B4:=B4.gr hg (by omega)
     replace B7:=B7.gr hg (by omega)
     clear hg
     refine aa ?_
     rw[if_pos hb]
     replace hf:=hf.kp [2,3,4,7,10,11,12]
     exact⟨rfl,hf,e,B2,B3,B4,B7,HD,B12,Ho,hN5s⟩
    ·refine ar ?_
     rw[if_neg (aM hb)]
     replace hf:=hf.kp [2,3,4,7,10,11,12]
     exact⟨rfl,hf,e,B2,B3,B4,B7,HD,B12,Ho,hN5s⟩
   clear hf e B2 B3 B4 B7 HD B12 Ho hN5s
   obtain⟨hf,e,B2,B3,B4,B7,HD,B12,Ho,hN5s⟩:=hJ
   simp only[Exit.then]
   rw[dm,if_neg hkv] at hs
   obtain⟨y',hy'⟩:∃y':ET,y'=(y.1,(if ((k:Int)==at'&&d.1==6)=true then d.2.2.2.1 else y.2.1),(if ((k:Int)==at'&&d.1==7)=true then d.2.2.2.2 else y.2.2)):=⟨_,rfl⟩
   replace B12:Blk w b12 (etV y').cells 57:=by rw[hy'];exact B12
   rw[← hy'] at hs
   clear hy'
   have n2:=Ho.neLt (b:=b2) (by omega);have n3:=Ho.neLt (b:=b3) (by omega);have n4:=Ho.neLt (b:=b4) (by omega);have n7:=Ho.neLt (b:=b7) (by omega)
   refine ac 4 hf (by decide +kernel) ?_
   refine st (am U26 rfl T24 (by decide) rfl) ?_
   refine st ((ld1 T24 rfl (by assumption) rfl).eq ((rfl:_=u))) ?_
   refine st ((ldW T57 rfl B12 rfl).eq ((rfl:_=etV y'))) ?_
   refine st (bL U24 I57 rfl (by decide) rfl Ho.avs (dq rfl)) ?_
   refine en fun a w e' hf=>?_
   replace HD:=VA.st _ _ _ _ e' HD
   replace hN5s:=Nat.le_trans hN5s e'.size
   replace Ho:=Ho.ext e'
   replace e:=e.tr e'
   replace B2:=B2.ext e'
   replace B3:=B3.ext e'
   replace B4:=B4.ext e'
   replace B7:=B7.ext e'
   replace B12:=B12.ext e'
   clear e'
   haveI hin:∀G0,InR (GB W G0) _:=OwR.inGB (W:=W) Ho (by omega)
   refine bQ U24 I57 rfl rfl hf (by decide) rfl Ho (isR rfl) (by simp only[List.length_singleton];omega) (by simp only[List.length_singleton,maxLen];omega) fun a v w hg hat Hn hf=>?_
   replace e:=e.gro hg (Ho.row (W:=W) (by omega))
   have hrow:=Ho.row (W:=W) (by omega)
   replace HD:=Dv.grN HD hg (fun bb hb=>nV bb (.inr (Ho.lt hb).1))
   replace hN5s:=Nat.le_trans hN5s hg.size
   replace Ho:=Hn
   clear hrow
   replace B2:=B2.gro hg (by assumption)
   replace B3:=B3.gro hg (by assumption)
   replace B4:=B4.gro hg (by assumption)
   replace B7:=B7.gro hg (by assumption)
   replace B12:=B12.gro hg (by assumption)
   replace Ho:=Hn;clear Hn hg hat hin
   replace hf:=hf.kp [2,3,4,7,10,11,180]
   clear n2 n3 n4 n7 n12
   refine aB hf (by decide) (am U26 rfl T24 (by decide) rfl) fun a w e' hf=>?_
   replace HD:=VA.st _ _ _ _ e' HD
   replace hN5s:=Nat.le_trans hN5s e'.size
   replace Ho:=Ho.ext e'
   replace e:=e.tr e'
   replace B2:=B2.ext e'
   replace B3:=B3.ext e'
   replace B4:=B4.ext e'
   replace B7:=B7.ext e'
   clear e'
   refine aO T24 hf rfl rfl (slOne Ho.sl) B7 (by simp) fun w hg hsz B7 hf=>?_
   replace HD:=Dv.grN HD hg (fun bb hb=>nV bb (by cases hb;omega))
   replace hN5s:=Nat.le_trans hN5s hg.size
   replace Ho:=Ho.grE hg (Ho.neLt (by omega))
   replace e:=e.gr hg (by omega)
   replace B2:=B2.gr hg (by omega)
   replace B3:=B3.gr hg (by omega)
   replace B4:=B4.gr hg (by omega)
   clear hg
   refine aa ?_
   simp only[Exit.then,Exit.inBlock,↓reduceIte]
   refine ac 2 hf (by decide +kernel) ?_
   refine st (mv rfl) ?_
   refine st ((add rfl rfl (by omega)).eq (congrArg (Value.int .i64) (show (k:Int)+1=((k+1:Nat):Int) from rfl))) ?_
   refine en fun a w e' hf=>?_
   replace HD:=VA.st _ _ _ _ e' HD
   replace hN5s:=Nat.le_trans hN5s e'.size
   replace Ho:=Ho.ext e'
   replace e:=e.tr e'
   replace B2:=B2.ext e'
   replace B3:=B3.ext e'
   replace B4:=B4.ext e'
   replace B7:=B7.ext e'
   refine ae hf rfl (by decide) fun a hf=>?_
   refine aa ?_
   replace hf:=hf.kp [2,3,4,7,10,11]
   refine⟨_,?_,k+1,v,rfl,by omega,hf,e,?_⟩
   ·omega
   exact⟨B2,B3,B4,B7,HD,by rw[hs];exact Ho,hN5s⟩
  ·obtain rfl:k=g.2.length:=by have:=of_decide_eq_false hc;(try dsimp only at this);omega
   clear hc
   simp only[Exit.then,Exit.inBlock,↓reduceIte]
   rw[List.take_length] at Ho
   replace hf:=hf.kp [4,7]
   refine seq ?_
   refine ac 1 hf (by decide +kernel) ?_
   refine st ((ldW T26 rfl (by assumption) rfl).eq ((rfl:_=Value.agg #[.slice av nv cv,u]))) ?_
   refine en fun a w e' hf=>?_
   replace HD:=VA.st _ _ _ _ e' HD
   replace hN5s:=Nat.le_trans hN5s e'.size
   replace Ho:=Ho.ext e'
   replace e:=e.tr e'
   replace B2:=B2.ext e'
   replace B3:=B3.ext e'
   replace B4:=B4.ext e'
   replace B7:=B7.ext e'
   clear e'
   haveI hinr:∀G0,InR (GB W G0) (some b4):=fun G0=>InR.gb (by omega)
   refine aF T26 hf rfl rfl (bR rfl (slOne Ho.sl)) B4 rfl (rfl) fun w hg hsz B4 hf=>?_
   replace HD:=Dv.grN HD hg (fun bb hb=>nV bb (by cases hb;omega))
   replace hN5s:=Nat.le_trans hN5s hg.size
   replace Ho:=Ho.grE hg (Ho.neLt (by omega))
   replace e:=e.gr hg (by omega)
   replace B2:=B2.gr hg (by omega)
   replace B3:=B3.gr hg (by omega)
   replace B7:=B7.gr hg (by omega)
   clear hg
   refine ae hf rfl (by decide) fun a hf=>?_
   refine aa ?_
   refine an (jj rfl T26 hf rfl rfl B4 rfl ?_)
   rintro _ rfl
   exact⟨_,rfl,e,fin _ _ _ _ e (Dv.gt.2 ⟨_,_,rfl,Dv.weak HD fun b _ hb=>hNG b hb,Ho.sl⟩) hdo⟩
def stepB:Option GT→DT→Option GT
 | none,_=>none
 | some g,d=>if bu g d=0 then some (doP g d) else none
def cR (V:List VT)(E:List ET):Option GT:=(E.map dE).foldl stepB ((V.map dV).foldl stepB (some ([],[])))
theorem pg (l:List DT):l.foldl stepB none=none:=by induction l with
 | nil=>rfl
 | cons d r ih=>exact ih
theorem ix {l:List DT}{k:Nat}{d:DT}(s:Option GT)(h:l[k]?=some d):(l.take (k+1)).foldl stepB s=stepB ((l.take k).foldl stepB s) d:=by
 rw[ec h,List.foldl_append];rfl
theorem pi {l:List DT}{k:Nat}{d:DT}(s:Option GT)(h:l[k]?=some d)(hn:stepB ((l.take k).foldl stepB s) d=none):l.foldl stepB s=none:=by
 rw[← List.take_append_drop (k+1) l,List.foldl_append,ix s h,hn,pg]
def okD (d:DT):Prop:=(Lit.int .i64 d.2.1).wf=true∧(Lit.int .i64 d.2.2.1).wf=true∧okT d.2.2.2
theorem bD4 (x:DT):Tryz.prog.built 38 [(0,.int .i64 x.1),(1,.int .i64 x.2.1),(3,.int .u8 x.2.2.2.1),(4,.int .i64 x.2.2.2.2)]=some #[.int .i64 x.1,.int .i64 x.2.1,.int .i64 0,.int .u8 x.2.2.2.1,.int .i64 x.2.2.2.2]:=by kernel_rfl
theorem bD5 (x:DT):Tryz.prog.built 38 [(0,.int .i64 x.1),(1,.int .i64 x.2.1),(2,.int .i64 x.2.2.1),(3,.int .u8 x.2.2.2.1),(4,.int .i64 x.2.2.2.2)]=some #[.int .i64 x.1,.int .i64 x.2.1,.int .i64 x.2.2.1,.int .u8 x.2.2.2.1,.int .i64 x.2.2.2.2]:=by kernel_rfl
def wW (V:List VT)(E:List ET)(W:World)(en:Ending)(w':World):Prop:=
 Ext W w'∧((∃g bg bv be,cR V E=some g∧en=.returned (.tuple #[.pointer (some ⟨bg,0,none⟩),I 0])∧W.heap.size≤bg∧W.heap.size≤bv∧W.heap.size≤be∧GrR w' bg bv be (V.length+E.length) g) ∨
  (∃c:Int,c≠0∧cR V E=none∧en=.returned (.tuple #[.pointer none,I c])))
theorem pj {G:Nat→Prop}(V:List VT)(E':List ET)(v u:Value)(W:World)(h1:(Dv (slE vtE) G V).p v W)(h2:(Dv (slE etE) G E').p u W)(hl1:V.length≤100000)(hl2:E'.length≤100000)(hV:∀x∈V,okD (dV x))(hE:∀x∈E',okD (dE x)) :
  Calls Tryz.prog 14 #[v,u] W (wW V E' W):=by
 refine enter (args:=[v,u]) (As:=[E v,E u]) Tryz.func14 rfl Tryz.ntmps14 (Nat.le_of_ble_eq_true rfl) ?_ (fun a hf=>?_) (Nat.le_of_ble_eq_true rfl)
 rotate_left
 dsimp only[params,Nat.reduceAdd] at hf
 rotate_right
 ·exact arg2 rfl rfl
 have e:=Ext.rfl' W
 refine seq ?_
 refine aj ?_
 refine ae hf rfl (by decide) fun a hf=>?_
 refine ae hf rfl (by decide) fun a hf=>?_
 refine aa ?_
 refine seq ?_
 refine aj ?_
 refine cq (S:=fun b=>False) (F:=fun z w'=>∃bg bv be,z=.pointer (some ⟨bg,0,none⟩)∧W.heap.size≤bg∧W.heap.size≤bv∧W.heap.size≤be∧GrR w' bg bv be 0 ([],[])) hf (by decide) tB (by simp only[List.map_toArray,List.map_nil];exact (wR _).mono fun en w' ⟨bg,bv,be,k1,k2,k3,k4,k5,k6⟩=>⟨_,k1,k2.chg _,bg,bv,be,rfl,Nat.le_trans e.size k3,Nat.le_trans e.size k4,Nat.le_trans e.size k5,k6⟩) fun a z w hc hF hf=>?_
 obtain⟨bg,bv,be,rfl,hbg,hbv,hbe,hg⟩:=hF
 replace e:=e.ch hc (fun b hb=>hb.elim)
 clear hc
 refine ae hf rfl (by decide) fun a hf=>?_
 refine aa ?_
 repeat refine seq ?_
 refine ac 3 hf (by decide +kernel) ?_
 refine st (mv rfl) ?_
 refine st (bi U53 (isE rfl (VA.st _ _ _ _ e h1))) ?_
 refine st (mv rfl) ?_
 refine en fun a w e' hf=>?_
 replace e:=e.tr e'
 replace hg:=hg.ext e'
 refine aa ?_
 replace hf:=hf.kp [1,4,5,6,14,15,16]
 refine blk (aW (fun r0 a w=>∃(k:Nat) (g:GT),r0=V.length - k∧k≤V.length∧Fr 55 a w [(1,E u),(4,E (.pointer none)),(5,E (I 0)),(6,E (.pointer (some ⟨bg,0,none⟩))),(14,E v),(15,E (I (V.length:Nat))),(16,E (I k))]∧Ext W w∧GrR w bg bv be k g∧((V.map dV).take k).foldl stepB (some ([],[]))=some g) V.length ⟨0,([], []),rfl,by omega,hf,e,⟨hg,rfl⟩⟩ ?_)
 clear hf e;try clear hg;try clear hfd
 rintro r0 a w ⟨k,g,rfl,hk,hf,e,hg,hfd⟩
 refine seq ?_
 refine ac 1 hf (by decide +kernel) ?_
 refine st (lss rfl rfl) ?_
 refine en fun a w e' hf=>?_
 replace e:=e.tr e'
 replace hg:=hg.ext e'
 refine aa ?_
 refine seq ?_
 refine ifc hf rfl (fun hc=>ar ?_) (fun hc=>aR ?_)
 rotate_left
 rotate_left
 ·have hlt:k<V.length:=by have:=of_decide_eq_true hc;(try dsimp only at this);omega
  clear hc
  replace hf:=hf.kp [1,4,5,6,14,15,16]
  refine seq ?_
  refine blk ?_
  have hx:=List.getElem?_eq_getElem hlt
  generalize V[k]=x at hx
  have hxd:(V.map dV)[k]?=some (dV x):=by rw[List.getElem?_map,hx];rfl
  have hok:=hV x (List.mem_of_getElem? hx)
  have hk:k<maxLen:=by simp only[maxLen];omega
  replace hf:=hf.kp [1,4,5,6,14,15,16]
  refine seq ?_
  refine aj ?_
  refine aB hf (by decide) (ba U53 S55 (isE rfl (VA.st _ _ _ _ e h1)) rfl (by omega) (hx)) fun a w e' hf=>?_
  replace e:=e.tr e'
  replace hg:=hg.ext e'
  clear e'
  refine aB hf (by decide) (gy T55 (isR rfl)) fun a w e' hf=>?_
  replace e:=e.tr e'
  replace hg:=hg.ext e'
  clear e'
  refine aC I55 hf (by decide) fun a b8 w e' hb8 hs8 B8 hf=>?_
  have hle8:=Nat.le_trans e.size (Nat.le_of_eq hb8.symm)
  replace e:=e.tr e'
  replace hg:=hg.ext e'
  clear e'
  replace hf:=hf.kp [1,4,5,6,8,14,15,16,19]
  have nb8:bg≠b8∧bv≠b8∧be≠b8:=⟨hg.blk.ne B8 (by decide),hg.vs.neB B8,hg.es.neB B8⟩
  refine aF T55 hf rfl rfl (lI x) B8 rfl rfl fun w hg' hsz B8 hf=>?_
  replace hg:GrR w bg bv be k g:=⟨hg.blk.gr hg' nb8.1,hg.vs.gr hg' (fun h=>nb8.2.1 (by cases h;rfl)),hg.es.gr hg' (fun h=>nb8.2.2 (by cases h;rfl)),hg.ne⟩
  replace e:=e.gr hg' (by omega);clear hg'
  refine aa ?_
  replace hf:=hf.kp [1,4,5,6,8,14,15,16]
  refine seq ?_
  refine ac 8 hf (by decide +kernel) ?_
  refine st (mv rfl) ?_
  refine st (am U55 rfl T3 (by decide) rfl) ?_
  refine st (ld1 T3 rfl B8 rfl) ?_
  refine st (am U55 rfl T5 (by decide) rfl) ?_
  refine st (ld1 T5 rfl B8 rfl) ?_
  refine st (am U55 rfl T3 (by decide) rfl) ?_
  refine st (ld1 T3 rfl B8 rfl) ?_
  refine st (vu (dV x) rfl (bD4 (dV x)) rfl rfl rfl rfl) ?_
  refine en fun a w e' hf=>?_
  replace e:=e.tr e'
  replace hg:=hg.ext e'
  replace B8:=B8.ext e'
  clear e'
  replace hf:=hf.kp [1,4,5,6,14,15,16,20,27]
  refine cq (S:=fun b=>b=bv∨b=be) (F:=fun z w'=>z=I (bu g (dV x))∧GrR w' bg bv be (k+1) (apP g (dV x))) hf (by decide) En8 ?_ fun a z w hc hF hf=>?_
  ·have h9:=lG g (dV x) bg bv be k _ hg hk (.inl rfl) hok.1 hok.2.1 hok.2.2
   have e20:a.eval (.tmp 20)=.pointer (some ⟨bg,0,none⟩):=hf.opd (.tmp 20) _ rfl
   have e27:a.eval (.tmp 27)=dtV (dV x):=hf.opd (.tmp 27) _ rfl
   simp only[List.map_toArray,List.map_cons,List.map_nil,e20,e27]
   exact h9.mono fun en w' ⟨k1,k2,k3⟩=>⟨_,k1,k2,rfl,k3⟩
  obtain⟨rfl,hg⟩:=hF
  replace e:=e.ch hc (fun b hb=>by rcases hb with rfl|rfl <;> assumption)
  clear hc B8
  replace hf:=hf.kp [1,4,5,6,14,15,16,28]
  refine ae hf rfl (by decide) fun a hf=>?_
  refine aa ?_
  refine seq ?_
  refine ac 2 hf (by decide +kernel) ?_
  refine st (mv rfl) ?_
  refine st (neq rfl rfl) ?_
  refine en fun a w e' hf=>?_
  replace e:=e.tr e'
  replace hg:=hg.ext e'
  refine aa ?_
  have hft:=ix (some ([],[])) hxd
  rw[hfd] at hft
  refine ifc hf rfl (fun hb=>?_) (fun hb=>?_)
  ·have hb':¬bu g (dV x)=0:=by simpa using hb
   have hst:stepB (((V.map dV).take k).foldl stepB (some ([],[]))) (dV x)=none:=by rw[hfd,stepB,if_neg hb']
   refine seq ?_
   refine ac 1 hf (by decide +kernel) ?_
   refine st (mv rfl) ?_
   refine en fun a w e' hf=>?_
   replace e:=e.tr e'
   replace hg:=hg.ext e'
   refine ae hf rfl (by decide) fun a hf=>?_
   refine ae hf rfl (by decide) fun a hf=>?_
   refine aa ?_
   refine an ?_
   simp only[Exit.then,Exit.inBlock]
   refine fJ rfl hf rfl rfl ?_
   rintro _ _ rfl rfl
   exact⟨e,.inr ⟨_,hb',by rw[cR,pi _ hxd hst,pg],rfl⟩⟩
  ·have hb':bu g (dV x)=0:=by simpa using hb
   refine ar ?_
   simp only[Exit.then,Exit.inBlock,↓reduceIte]
   rw[stepB,if_pos hb'] at hft
   rw[apP,if_pos hb'] at hg
   refine ac 1 hf (by decide +kernel) ?_
   refine st ((add rfl rfl (by omega)).eq (congrArg (Value.int .i64) (show (k:Int)+1=((k+1:Nat):Int) from rfl))) ?_
   refine en fun a w e' hf=>?_
   replace e:=e.tr e'
   replace hg:=hg.ext e'
   clear e'
   refine aB hf (by decide) (mv rfl) fun a w e' hf=>?_
   replace e:=e.tr e'
   replace hg:=hg.ext e'
   refine aa ?_
   replace hf:=hf.kp [1,4,5,6,14,15,16]
   refine⟨_,?_,k+1,doP g (dV x),rfl,by omega,hf,e,?_⟩
   ·omega
   exact⟨hg,hft⟩
 ·obtain rfl:k=V.length:=by have:=of_decide_eq_false hc;(try dsimp only at this);omega
  clear hc
  simp only[Exit.then,Exit.inBlock,↓reduceIte]
  rw[List.take_of_length_le (by simp)] at hfd
  repeat refine seq ?_
  refine ac 3 hf (by decide +kernel) ?_
  refine st (mv rfl) ?_
  refine st (bi U31 (isE rfl (VA.st _ _ _ _ e h2))) ?_
  refine st (mv rfl) ?_
  refine en fun a w e' hf=>?_
  replace e:=e.tr e'
  replace hg:=hg.ext e'
  refine aa ?_
  replace hf:=hf.kp [4,5,6,33,34,35]
  refine blk (aW (fun r0 a w=>∃(k:Nat) (g:GT),r0=E'.length - k∧k≤E'.length∧Fr 55 a w [(4,E (.pointer none)),(5,E (I 0)),(6,E (.pointer (some ⟨bg,0,none⟩))),(33,E u),(34,E (I (E'.length:Nat))),(35,E (I k))]∧Ext W w∧GrR w bg bv be (V.length+k) g∧((E'.map dE).take k).foldl stepB ((V.map dV).foldl stepB (some ([],[])))=some g) E'.length ⟨0,g,rfl,by omega,hf,e,⟨hg,hfd⟩⟩ ?_)
  clear hf e;try clear hg;try clear hfd
  rintro r0 a w ⟨k,g,rfl,hk,hf,e,hg,hfd⟩
  refine seq ?_
  refine ac 1 hf (by decide +kernel) ?_
  refine st (lss rfl rfl) ?_
  refine en fun a w e' hf=>?_
  replace e:=e.tr e'
  replace hg:=hg.ext e'
  refine aa ?_
  refine seq ?_
  refine ifc hf rfl (fun hc=>ar ?_) (fun hc=>aR ?_)
  rotate_left
  rotate_left
  ·have hlt:k<E'.length:=by have:=of_decide_eq_true hc;(try dsimp only at this);omega
   clear hc
   replace hf:=hf.kp [4,5,6,33,34,35]
   refine seq ?_
   refine blk ?_
   have hx:=List.getElem?_eq_getElem hlt
   generalize E'[k]=x at hx
   have hxd:(E'.map dE)[k]?=some (dE x):=by rw[List.getElem?_map,hx];rfl
   have hok:=hE x (List.mem_of_getElem? hx)
   have hk':V.length+k<maxLen:=by simp only[maxLen];omega
   replace hf:=hf.kp [4,5,6,33,34,35]
   refine seq ?_
   refine aj ?_
   refine aB hf (by decide) (ba U31 S36 (isE rfl (VA.st _ _ _ _ e h2)) rfl (by omega) (hx)) fun a w e' hf=>?_
   replace e:=e.tr e'
   replace hg:=hg.ext e'
   clear e'
   refine aB hf (by decide) (gA T36 (isR rfl)) fun a w e' hf=>?_
   replace e:=e.tr e'
   replace hg:=hg.ext e'
   clear e'
   refine aC I36 hf (by decide) fun a b11 w e' hb11 hs11 B11 hf=>?_
   have hle11:=Nat.le_trans e.size (Nat.le_of_eq hb11.symm)
   replace e:=e.tr e'
   replace hg:=hg.ext e'
   clear e'
   replace hf:=hf.kp [4,5,6,11,33,34,35,38]
   have nb8:bg≠b11∧bv≠b11∧be≠b11:=⟨hg.blk.ne B11 (by decide),hg.vs.neB B11,hg.es.neB B11⟩
   refine aF T36 hf rfl rfl (lJ x) B11 rfl rfl fun w hg' hsz B11 hf=>?_
   replace hg:GrR w bg bv be (V.length+k) g:=⟨hg.blk.gr hg' nb8.1,hg.vs.gr hg' (fun h=>nb8.2.1 (by cases h;rfl)),hg.es.gr hg' (fun h=>nb8.2.2 (by cases h;rfl)),hg.ne⟩
   replace e:=e.gr hg' (by omega);clear hg'
   refine aa ?_
   replace hf:=hf.kp [4,5,6,11,33,34,35]
   refine seq ?_
   refine ac 10 hf (by decide +kernel) ?_
   refine st (mv rfl) ?_
   refine st (am U36 rfl T3 (by decide) rfl) ?_
   refine st (ld1 T3 rfl B11 rfl) ?_
   refine st (am U36 rfl T3 (by decide) rfl) ?_
   refine st (ld1 T3 rfl B11 rfl) ?_
   refine st (am U36 rfl T5 (by decide) rfl) ?_
   refine st (ld1 T5 rfl B11 rfl) ?_
   refine st (am U36 rfl T3 (by decide) rfl) ?_
   refine st (ld1 T3 rfl B11 rfl) ?_
   refine st (vw (dE x) (bD5 (dE x)) rfl rfl rfl rfl rfl) ?_
   refine en fun a w e' hf=>?_
   replace e:=e.tr e'
   replace hg:=hg.ext e'
   replace B11:=B11.ext e'
   clear e'
   replace hf:=hf.kp [4,5,6,33,34,35,39,48]
   refine cq (S:=fun b=>b=bv∨b=be) (F:=fun z w'=>z=I (bu g (dE x))∧GrR w' bg bv be (V.length+k+1) (apP g (dE x))) hf (by decide) En8 ?_ fun a z w hc hF hf=>?_
   ·have h9:=lG g (dE x) bg bv be (V.length+k) _ hg hk' (.inr (.inl rfl)) hok.1 hok.2.1 hok.2.2
    have e20:a.eval (.tmp 39)=.pointer (some ⟨bg,0,none⟩):=hf.opd (.tmp 39) _ rfl
    have e27:a.eval (.tmp 48)=dtV (dE x):=hf.opd (.tmp 48) _ rfl
    simp only[List.map_toArray,List.map_cons,List.map_nil,e20,e27]
    exact h9.mono fun en w' ⟨k1,k2,k3⟩=>⟨_,k1,k2,rfl,k3⟩
   obtain⟨rfl,hg⟩:=hF
   replace e:=e.ch hc (fun b hb=>by rcases hb with rfl|rfl <;> assumption)
   clear hc B11
   replace hf:=hf.kp [4,5,6,33,34,35,49]
   refine ae hf rfl (by decide) fun a hf=>?_
   refine aa ?_
   refine seq ?_
   refine ac 2 hf (by decide +kernel) ?_
   refine st (mv rfl) ?_
   refine st (neq rfl rfl) ?_
   refine en fun a w e' hf=>?_
   replace e:=e.tr e'
   replace hg:=hg.ext e'
   refine aa ?_
   have hft:=ix ((V.map dV).foldl stepB (some ([],[]))) hxd
   rw[hfd] at hft
   refine ifc hf rfl (fun hb=>?_) (fun hb=>?_)
   ·have hb':¬bu g (dE x)=0:=by simpa using hb
    have hst:stepB (((E'.map dE).take k).foldl stepB ((V.map dV).foldl stepB (some ([],[])))) (dE x)=none:=by rw[hfd,stepB,if_neg hb']
    refine seq ?_
    refine ac 1 hf (by decide +kernel) ?_
    refine st (mv rfl) ?_
    refine en fun a w e' hf=>?_
    replace e:=e.tr e'
    replace hg:=hg.ext e'
    refine ae hf rfl (by decide) fun a hf=>?_
    refine ae hf rfl (by decide) fun a hf=>?_
    refine aa ?_
    refine an ?_
    simp only[Exit.then,Exit.inBlock]
    refine fJ rfl hf rfl rfl ?_
    rintro _ _ rfl rfl
    exact⟨e,.inr ⟨_,hb',by rw[cR,pi _ hxd hst],rfl⟩⟩
   ·have hb':bu g (dE x)=0:=by simpa using hb
    refine ar ?_
    simp only[Exit.then,Exit.inBlock,↓reduceIte]
    rw[stepB,if_pos hb'] at hft
    rw[apP,if_pos hb'] at hg
    refine ac 1 hf (by decide +kernel) ?_
    refine st ((add rfl rfl (by omega)).eq (congrArg (Value.int .i64) (show (k:Int)+1=((k+1:Nat):Int) from rfl))) ?_
    refine en fun a w e' hf=>?_
    replace e:=e.tr e'
    replace hg:=hg.ext e'
    clear e'
    refine aB hf (by decide) (mv rfl) fun a w e' hf=>?_
    replace e:=e.tr e'
    replace hg:=hg.ext e'
    refine aa ?_
    replace hf:=hf.kp [4,5,6,33,34,35]
    refine⟨_,?_,k+1,doP g (dE x),rfl,by omega,hf,e,?_⟩
    ·omega
    exact⟨hg,hft⟩
  ·obtain rfl:k=E'.length:=by have:=of_decide_eq_false hc;(try dsimp only at this);omega
   clear hc
   simp only[Exit.then,Exit.inBlock,↓reduceIte]
   rw[List.take_of_length_le (by simp)] at hfd
   refine seq ?_
   refine ac 1 hf (by decide +kernel) ?_
   refine st (mv rfl) ?_
   refine en fun a w e' hf=>?_
   replace e:=e.tr e'
   replace hg:=hg.ext e'
   refine ae hf rfl (by decide) fun a hf=>?_
   refine ae hf rfl (by decide) fun a hf=>?_
   refine aa ?_
   refine an ?_
   refine fJ rfl hf rfl rfl ?_
   rintro _ _ rfl rfl
   exact⟨e,.inl ⟨g,bg,bv,be,hfd,rfl,hbg,hbv,hbe,hg⟩⟩
def bS (l:List DT)(k:Nat):GT:=(l.take k).foldl (fun g d=>(doR g d).1) ([],[])
def iy (l:List DT):GT:=bS l 60
theorem iz {γ:Type}(p:γ→Bool)(x:γ)(l:List γ):(bM p x l).length=l.length+1:=by
 have:=congrArg List.length (List.takeWhile_append_dropWhile (p:=fun y => !p y) (l:=l))
 unfold bM
 simp only[List.length_append,List.length_cons] at *
 omega
theorem wX (g:GT)(d:DT):(doR g d).1.1.length≤g.1.length+1∧(doR g d).1.2.length≤g.2.length+1:=by
 unfold doR
 split
 ·simp
 ·split
  ·simp[insV,iz]
  ·split
   ·simp[dj,iz]
   ·have h1:=List.length_filterMap_le (keepV d) g.1
    have h2:=jm d (atE g d) 0 g.2
    simp only[gE]
    omega
theorem lK {l:List DT}{k:Nat}{d:DT}(h:l[k]?=some d):bS l (k+1)=(doR (bS l k) d).1:=by
 rw[bS,ec h,List.foldl_append];rfl
theorem lL (l:List DT):∀k,(bS l k).1.length≤k∧(bS l k).2.length≤k
 | 0=>by simp[bS]
 | k+1=>by
  have ih:=lL l k
  cases h:l[k]? with
  | none=>
   have:l.take (k+1)=l.take k:=by rw[List.take_of_length_le (by have:=List.getElem?_eq_none_iff.1 h;omega),List.take_of_length_le (List.getElem?_eq_none_iff.1 h)]
   rw[bS,this]
   exact⟨by have:=ih.1;rw[bS] at this;omega,by have:=ih.2;rw[bS] at this;omega⟩
  | some d=>
   rw[lK h]
   have:=wX (bS l k) d
   omega
theorem Dv.gtOne {G:Nat→Prop}{g:GT}{v:Value}{w:World}(h:(Dv gtE G g).p v w):∃cs,v=.agg cs∧cs.size=2∧cs.all (·.oneCell')=true:=by
 obtain⟨u1,u2,rfl,h1,h2⟩:=Dv.gt.1 h
 exact⟨_,rfl,rfl,bR (slOne h1) (slOne h2)⟩
theorem wY {G:Nat→Prop}(l:List DT)(v:Value)(W:World)(h:(Dv (slE dtE) G l).p v W)(hG:∀b,G b→b<W.heap.size) :
  Calls Tryz.prog 4 #[v] W (Post (Dv gtE G (iy l)) W):=by
 have hbb:=Dv.toB h
 obtain⟨N,hN⟩:∃N,N=min l.length 60:=⟨_,rfl⟩
 refine enter (args:=[v]) (As:=[E v]) Tryz.func4 rfl Tryz.ntmps4 (Nat.le_of_ble_eq_true rfl) ?_ (fun a hf=>?_) (Nat.le_of_ble_eq_true rfl)
 rotate_left
 dsimp only[params,Nat.reduceAdd] at hf
 rotate_right
 ·exact arg1 rfl
 have e:=Ext.rfl' W
 refine seq ?_
 refine aj ?_
 refine aC I26 hf (by decide) fun a b2 w e' hb2 hs2 B2 hf=>?_
 have hle2:=Nat.le_trans e.size (Nat.le_of_eq hb2.symm)
 replace e:=e.tr e'
 refine aa ?_
 refine seq ?_
 refine ac 1 hf (by decide +kernel) ?_
 refine st (bG [] rfl pd) ?_
 refine en fun a w e' hf=>?_
 replace e:=e.tr e'
 replace B2:=B2.ext e'
 clear e'
 refine aC I26 hf (by decide) fun a b3 w e' hb3 hs3 B3 hf=>?_
 have hle3:=Nat.le_trans e.size (Nat.le_of_eq hb3.symm)
 have lt3_B2:=B2.lt
 replace e:=e.tr e'
 replace B2:=B2.ext e'
 clear e'
 haveI hinr:∀G0,InR (GB W G0) (some b3):=fun G0=>InR.gb (by omega)
 refine aF T26 hf rfl rfl (bR rfl rfl) B3 rfl (rfl) fun w hg hsz B3 hf=>?_
 replace e:=e.gr hg (by omega)
 replace B2:=B2.gr hg (by omega)
 clear hg
 refine aa ?_
 obtain⟨G',hG'⟩:∃G':Nat→Prop,G'=fun b=>G b∨b=b2∨b=b3:=⟨_,rfl⟩
 haveI i3:InR G' (some b3):=⟨fun b hb=>by rw[hG'];cases hb;exact .inr (.inr rfl)⟩
 have hGb:∀w:World,Ext W w→b2<w.heap.size→b3<w.heap.size→∀b,G' b→b<w.heap.size:=fun w e h2 h3 b hb=>by
  rw[hG'] at hb
  rcases hb with hb|rfl|rfl
  ·exact Nat.lt_of_lt_of_le (hG b hb) e.size
  ·exact h2
  ·exact h3
 repeat refine seq ?_
 refine aj ?_
 refine ae hf rfl (by decide) fun a hf=>?_
 refine aa ?_
 replace hf:=hf.kp [0,2,3,4]
 refine blk (aW (fun r0 a w=>∃(k:Nat) (cs:Array Value),r0=N - k∧k≤N∧Fr 26 a w [(0,E v),(2,E (.pointer (some ⟨b2,0,none⟩))),(3,E (.pointer (some ⟨b3,0,none⟩))),(4,E (I k))]∧Ext W w∧Blk w b2 #[.slice none 0 0,.slice none 0 0] 26∧Blk w b3 cs 26∧(Dv gtE G' (bS l k)).p (.agg cs) w) N ⟨0,#[.slice none 0 0, .slice none 0 0],rfl,by omega,hf,e,⟨B2,B3,Dv.gt.2 ⟨_,_,rfl,Dv.nil,Dv.nil⟩⟩⟩ ?_)
 clear hf e;try clear B2;try clear B3;try clear HD
 rintro r0 a w ⟨k,cs,rfl,hk,hf,e,B2,B3,HD⟩
 repeat refine seq ?_
 refine ac 8 hf (by decide +kernel) ?_
 refine st (mv rfl) ?_
 refine st (mv rfl) ?_
 refine st (bi U22 (isE rfl (VA.st _ _ _ _ e h))) ?_
 refine st (lss rfl rfl) ?_
 refine st (mv rfl) ?_
 refine sgE rfl rfl (.k 4 rfl .n) (fun hgd=>mv rfl) ?_
 refine sgE rfl rfl (.c 11 rfl (fun h=>h) .n) (fun hgd=>lss rfl rfl) ?_
 refine st ((bA rfl rfl (fun h=>by rw[h];rfl)).eq (congrArg Value.bool (show (decide ((k:Int)<(l.length:Nat))&&decide ((k:Int)<60))=decide ((k:Int)<((N:Nat):Int)) from by rw[hN,← Bool.decide_and];congr 1;apply propext;omega))) ?_
 refine en fun a w e' hf=>?_
 replace HD:=VA.st _ _ _ _ e' HD
 replace e:=e.tr e'
 replace B2:=B2.ext e'
 replace B3:=B3.ext e'
 refine aa ?_
 refine ifc hf rfl (fun hc=>ar ?_) (fun hc=>aR ?_)
 rotate_left
 rotate_left
 ·have hlt:k<N:=by have:=of_decide_eq_true hc;(try dsimp only at this);omega
  clear hc
  replace hf:=hf.kp [0,2,3,4]
  refine seq ?_
  refine blk ?_
  have hk:k<l.length∧k<60:=by omega
  have hg:=List.getElem?_eq_getElem hk.1
  generalize l[k]'hk.1=d at hg
  have hs:=lK hg
  have hln:=lL l k
  have hcs:cs.size=2:=by obtain⟨cs',h1',h2',_⟩:=Dv.gtOne HD;cases h1';exact h2'
  have hv:=VA.st _ _ _ _ e h
  have l2:=B2.lt;have l3:=B3.lt
  replace hf:=hf.kp [0,2,3,4]
  refine eP 10 [0,0,0,0,0,0,2,0,1] (Chg fun c=>c=b3) (ct.one _) (fun w=>∃cs,Blk w b3 cs 26∧(Dv gtE G' (doR (bS l k) d).1).p (.agg cs) w) (fun w w1 k h=>h.imp fun cs h=>⟨h.1.ext k,VA.st _ _ _ _ k h.2⟩) Mix.mix hf (by decide +kernel) (by decide +kernel) ?_
  refine ja (ldW T26 rfl B3 hcs) ?_
  refine ja (mv rfl) ?_
  refine ja (mv rfl) ?_
  refine ja (ba U22 S38 (isE rfl hv) rfl (by omega) hg) ?_
  refine ja (ir T38 (isR rfl)) ?_
  refine ja (aD (A:=Tup [Dv gtE G' (doR (bS l k) d).1,E (I (doR (bS l k) d).2)]) td rfl rfl (fun v u w he k1 k2=>by cases k1;cases k2;exact wV (G:=G') (bS l k) d _ w (VA.st _ _ _ _ he HD) (hGb w (Ext.tr e he) (Nat.lt_of_lt_of_le l2 he.size) (Nat.lt_of_lt_of_le l3 he.size)) (by omega) (by omega))) ?_
  refine jk (mv rfl) ?_
  refine ja (aY rfl rfl) ?_
  refine jf (fun w1 h1=>aY rfl rfl) ?_
  refine jx (wM T26 rfl B3 hcs rfl (fun v w hv=>Dv.gtOne hv) (fun v w w' hc hv=>Dv.ch hv hc fun b hb=>by rw[hG',hb];exact .inr (.inr rfl))) ?_
  refine je ?_
  refine fun a w hc HF hf=>?_
  try dsimp only[push] at hf
  obtain⟨cs',B3,HD⟩:=HF
  replace e:=e.ch hc (fun b hb=>by rw[hb];omega)
  replace B2:=B2.ch hc (by omega)
  clear hc hv
  refine aa ?_
  replace hf:=hf.kp [0,2,3,4]
  simp only[Exit.then,Exit.inBlock,↓reduceIte]
  refine ac 2 hf (by decide +kernel) ?_
  refine st (mv rfl) ?_
  refine st ((add rfl rfl (by omega)).eq (congrArg (Value.int .i64) (show (k:Int)+1=((k+1:Nat):Int) from rfl))) ?_
  refine en fun a w e' hf=>?_
  replace HD:=VA.st _ _ _ _ e' HD
  replace e:=e.tr e'
  replace B2:=B2.ext e'
  replace B3:=B3.ext e'
  refine ae hf rfl (by decide) fun a hf=>?_
  refine aa ?_
  replace hf:=hf.kp [0,2,3,4]
  refine⟨_,?_,k+1,cs',rfl,by omega,hf,e,?_⟩
  ·omega
  rw[hs]
  exact⟨B2,B3,HD⟩
 ·obtain rfl:k=N:=by have:=of_decide_eq_false hc;(try dsimp only at this);omega
  clear hc
  simp only[Exit.then,Exit.inBlock,↓reduceIte]
  have hfin:bS l k=iy l:=by
   rw[iy,bS,bS,hN]
   by_cases h60:l.length≤60
   ·rw[Nat.min_eq_left h60,List.take_of_length_le (Nat.le_refl _),List.take_of_length_le h60]
   ·rw[Nat.min_eq_right (by omega)]
  rw[hfin] at HD
  obtain⟨cs',h1',hcs,h1one⟩:=Dv.gtOne HD
  cases h1'
  haveI i2:InR G' (some b2):=⟨fun b hb=>by rw[hG'];cases hb;exact .inr (.inl rfl)⟩
  replace hf:=hf.kp [2,3]
  refine seq ?_
  refine ac 1 hf (by decide +kernel) ?_
  refine st (ldW T26 rfl B3 hcs) ?_
  refine en fun a w e' hf=>?_
  replace HD:=VA.st _ _ _ _ e' HD
  replace e:=e.tr e'
  replace B2:=B2.ext e'
  replace B3:=B3.ext e'
  clear e'
  refine aF T26 hf rfl rfl h1one B2 rfl hcs fun w hg hsz B2 hf=>?_
  replace e:=e.gr hg (by omega);replace HD:=AvR.av (row:=some b2) _ _ _ hg HD;clear hg
  refine aa ?_
  refine an (dc rfl T26 hf rfl B2 hcs ?_)
  exact⟨_,rfl,e,Dv.weak HD fun b _ hb=>by rw[hG'];exact .inl hb⟩
end Go.Mono
namespace Go.Mono
open Go Go.Gr
theorem iA {γ:Type}(p:γ→Bool)(x:γ)(l:List γ):(bM p x l).Perm (x::l):=by
 unfold bM
 have h:=List.takeWhile_append_dropWhile (p:=fun y => !p y) (l:=l)
 conv=>rhs;rw[← h]
 exact List.perm_middle
theorem jv {γ κ:Type}{lt:κ→κ→Bool}(key:γ→κ)(tr:∀{a b c},lt a b=true→lt b c=true→lt a c=true)(tot:∀{a b},lt a b=false→a≠b→lt b a=true){x:γ} :
  ∀{l:List γ},l.Pairwise (fun a b=>lt (key a) (key b)=true)→(∀y∈l,key x≠key y)→(bM (fun y=>lt (key x) (key y)) x l).Pairwise fun a b=>lt (key a) (key b)=true
 | [],_,_=>by simp[bM]
 | y::r,hl,hx=>by
  obtain⟨l1,l2⟩:=List.pairwise_cons.1 hl
  unfold bM
  by_cases hy:lt (key x) (key y)=true
  ·simp only[List.takeWhile_cons,List.dropWhile_cons,hy,Bool.not_true,Bool.false_eq_true,if_false,List.nil_append]
   refine List.pairwise_cons.2 ⟨fun z hz=>?_,hl⟩
   rcases List.mem_cons.1 hz with rfl|hz
   ·exact hy
   ·exact tr hy (l1 z hz)
  ·have hy':lt (key x) (key y)=false:=by simpa using hy
   have ih:=jv (γ:=γ) (κ:=κ) (lt:=lt) key (@tr) (@tot) (l:=r) l2 fun z hz=>hx z (by simp[hz])
   have hyx:=tot hy' (hx y (by simp))
   simp only[List.takeWhile_cons,List.dropWhile_cons,hy',Bool.not_false,if_true,List.cons_append]
   refine List.pairwise_cons.2 ⟨fun z hz=>?_,ih⟩
   have:=(iA (fun y=>lt (key x) (key y)) x r).mem_iff.1 hz
   rcases List.mem_cons.1 this with rfl|hz'
   ·exact hyx
   ·exact l1 z hz'
theorem wZ {l:List VT}{n:Int}(h:dL l n<0):∀y∈l,y.1≠n:=by
 unfold dL at h
 split at h
 ·omega
 ·rename_i hn
  rw[List.findIdx?_eq_none_iff] at hn
  intro y hy
  simpa using hn y hy
theorem pk {l:List VT}{n:Int}(h:¬dL l n<0):inV l n=true:=by
 unfold dL at h
 split at h
 ·rename_i i hi
  obtain⟨h1,h2,_⟩:=List.findIdx?_eq_some_iff_getElem.1 hi
  exact List.any_eq_true.2 ⟨_,List.getElem_mem h1,h2⟩
 ·omega
theorem xa {l:List ET}{m n:Int}(h:ee l m n<0):∀y∈l,y.1≠ends m n:=by
 unfold ee at h
 split at h
 ·omega
 ·rename_i hn
  rw[List.findIdx?_eq_none_iff] at hn
  intro y hy he
  have h2:=hn y hy
  obtain⟨⟨p,q⟩,c⟩:=y
  simp only[ends,Prod.mk.injEq] at he
  simp only[lz] at h2
  by_cases hmn:m≤n
  ·rw[Int.min_eq_left hmn,Int.max_eq_right hmn] at he
   rw[he.1,he.2] at h2;simp at h2
  ·rw[Int.min_eq_right (by omega),Int.max_eq_left (by omega)] at he
   rw[he.1,he.2] at h2;simp at h2
theorem pm {l m:List VT}(h:∀y∈l,∃z∈m,z.1=y.1){n:Int}(hn:inV l n=true):inV m n=true:=by
 obtain⟨y,hy,hyn⟩:=List.any_eq_true.1 hn
 obtain⟨z,hz,hzy⟩:=h y hy
 exact List.any_eq_true.2 ⟨z,hz,by rw[hzy];exact hyn⟩
theorem pn {d:DT}{x y:VT}(h:keepV d x=some y):y.1=x.1:=by
 unfold keepV at h;split at h <;> simp at h;rw[← h]
theorem po {d:DT}{a:Int}{i:Nat}{x y:ET}(h:dm d a i x=some y):y.1=x.1:=by
 unfold dm at h;split at h <;> simp at h;rw[← h]
theorem lO {d:DT}{a:Int}:∀{i:Nat} {l:List ET} {y:ET},y∈bP d a i l→∃j,∃x∈l,dm d a j x=some y
 | _,[],y,h=>by simp[bP] at h
 | i,x::r,y,h=>by
  rw[bP,List.mem_append] at h
  rcases h with h|h
  ·exact⟨i,x,by simp,by simpa using h⟩
  ·obtain⟨j,z,hz,hj⟩:=lO h
   exact⟨j,z,by simp[hz],hj⟩
theorem pq {d:DT}{a:Int}:∀{i:Nat} {l:List ET},l.Pairwise (fun p q=>lt2 p.1 q.1=true)→(bP d a i l).Pairwise fun p q=>lt2 p.1 q.1=true
 | _,[],_=>by simp[bP]
 | i,x::r,h=>by
  obtain⟨h1,h2⟩:=List.pairwise_cons.1 h
  rw[bP,List.pairwise_append]
  refine⟨by cases dm d a i x <;> simp,pq h2,fun p hp q hq=>?_⟩
  obtain⟨j,z,hz,hj⟩:=lO hq
  have hp':dm d a i x=some p:=by simpa using hp
  rw[po hp',po hj];exact h1 z hz
theorem xb {g:GT}(G:Gr.Ok g){d:DT}(hd:0≤d.2.2.2.1∧d.2.2.2.1<256):Gr.Ok (doR g d).1:=by
 unfold doR
 by_cases hw:(cr g d != 0)=true
 ·rw[if_pos hw];exact G
 rw[if_neg hw]
 have hw0:cr g d=0:=by simpa using hw
 unfold cr at hw0
 split at hw0
 ·cases hw0
 rename_i c1
 split at hw0
 ·cases hw0
 rename_i c2
 split at hw0
 ·cases hw0
 rename_i c3
 simp only[Bool.or_eq_true,Bool.and_eq_true,decide_eq_true_eq,not_or,not_and] at c1 c2 c3
 obtain⟨⟨c2a,c2b⟩,c2c⟩:=c2
 by_cases h0:(d.1==0)=true
 ·rw[if_pos h0]
  rw[if_pos h0] at hw0
  have hd0:d.1=0:=by simpa using h0
  split at hw0
  ·cases hw0
  rename_i c4
  have hnot:=wZ (l:=g.1) (n:=d.2.1) (by simpa using c4)
  have hp:=iA (fun y:VT=>lt1 d.2.1 y.1) (d.2.1,d.2.2.2) g.1
  have hhv:=c2c (by rw[hd0];decide)
  refine⟨jv (γ:=VT) (κ:=Int) (lt:=lt1) (fun y=>y.1) (fun h k=>oa h k) (fun h k=>vn h k) (x:=(d.2.1,d.2.2.2)) G.sv fun y hy=>(hnot y hy).symm,G.se,fun y hy=>?_,fun y hy=>?_,G.ne⟩
  ·rcases List.mem_cons.1 (hp.mem_iff.1 hy) with rfl|hy
   ·refine⟨by simp[bY];omega,hd,by simp only[heavy,Bool.or_eq_false_iff,decide_eq_false_iff_not];omega⟩
   ·exact G.rv y hy
  ·obtain⟨k1,k2,k3,k4⟩:=G.re y hy
   have hm:∀z∈g.1,∃z'∈insV g.1 (d.2.1,d.2.2.2),z'.1=z.1:=fun z hz=>⟨z,hp.mem_iff.2 (by simp[hz]),rfl⟩
   exact⟨k1,pm hm k2,pm hm k3,k4⟩
 rw[if_neg h0]
 rw[if_neg h0] at hw0
 split at hw0
 ·cases hw0
 rename_i c5
 simp only[Bool.or_eq_true,Bool.and_eq_true,decide_eq_true_eq,not_or,not_and] at c5
 by_cases h2:(d.1==2)=true
 ·rw[if_pos h2]
  rw[if_pos h2] at hw0
  have hd2:d.1=2:=by simpa using h2
  split at hw0
  ·cases hw0
  rename_i c6
  split at hw0
  ·cases hw0
  rename_i c7
  have hnot:=xa (l:=g.2) (m:=d.2.1) (n:=d.2.2.1) (by simpa using c6)
  have hp:=iA (fun y:ET=>lt2 (ends d.2.1 d.2.2.1) y.1) (ends d.2.1 d.2.2.1,d.2.2.2) g.2
  have hhv:=c2c (by rw[hd2];decide)
  have hne:=c3 (by rw[hd2];decide)
  have hvv:=pk (c5.2 h2)
  have huv:=pk c5.1
  simp only[beq_iff_eq] at hne
  refine⟨G.sv,jv (γ:=ET) (κ:=Int×Int) (lt:=lt2) (fun y=>y.1) (fun h k=>lj h k) (fun h k=>nZ h k) (x:=(ends d.2.1 d.2.2.1,d.2.2.2)) G.se fun y hy=>(hnot y hy).symm,G.rv,fun y hy=>?_,?_⟩
  ·rcases List.mem_cons.1 (hp.mem_iff.1 hy) with rfl|hy
   ·refine⟨by simp only[ends];omega,?_,?_,hd,by simp only[heavy,Bool.or_eq_false_iff,decide_eq_false_iff_not];omega⟩
    ·simp only[ends];by_cases hm:d.2.1≤d.2.2.1
     ·rw[Int.min_eq_left hm];exact huv
     ·rw[Int.min_eq_right (by omega)];exact hvv
    ·simp only[ends];by_cases hm:d.2.1≤d.2.2.1
     ·rw[Int.max_eq_right hm];exact hvv
     ·rw[Int.max_eq_left (by omega)];exact huv
   ·exact G.re y hy
  ·simp only[dj,iz]
   have:¬((1024:Int)≤(g.2.length:Nat)):=by simpa using c7
   omega
 rw[if_neg h2]
 have hkeep:∀y∈g.1,d.1≠1∨y.1≠d.2.1→∃z∈g.1.filterMap (keepV d),z.1=y.1:=fun y hy hc=>by
  have hn:¬(y.1==d.2.1&&d.1==1)=true:=by simp only[Bool.and_eq_true,beq_iff_eq];omega
  have hk:∃z,keepV d y=some z∧z.1=y.1:=⟨_,if_neg hn,rfl⟩
  obtain⟨z,hz,hzy⟩:=hk
  exact⟨z,List.mem_filterMap.2 ⟨y,hy,hz⟩,hzy⟩
 refine⟨?_,pq G.se,fun y hy=>?_,fun y hy=>?_,Nat.le_trans (jm _ _ _ _) G.ne⟩
 ·simp only[gE]
  rw[List.pairwise_filterMap]
  exact G.sv.imp fun {a b} h p hp q hq=>by rw[pn hp,pn hq];exact h
 ·obtain⟨x,hx,hxy⟩:=List.mem_filterMap.1 hy
  obtain⟨k1,k2,k3⟩:=G.rv x hx
  unfold keepV at hxy
  split at hxy
  ·cases hxy
  ·simp only[Option.some.injEq] at hxy
   rw[← hxy]
   refine⟨k1,?_,?_⟩
   ·simp only;split
    ·exact hd
    ·exact k2
   ·simp only;split
    ·rename_i h5
     have h5':d.1=5:=by simp only[Bool.and_eq_true,beq_iff_eq] at h5;exact h5.2
     have hhv:=c2c (by rw[h5'];decide)
     simp only[heavy,Bool.or_eq_false_iff,decide_eq_false_iff_not];omega
    ·exact k3
 ·obtain⟨j,x,hx,hxy⟩:=lO hy
  obtain⟨k1,k2,k3,k4,k5⟩:=G.re x hx
  unfold dm at hxy
  split at hxy
  ·cases hxy
  ·rename_i hno
   simp only[Option.some.injEq] at hxy
   have hno':d.1≠1∨(x.1.1≠d.2.1∧x.1.2≠d.2.1):=by
    simp only[Bool.or_eq_true,Bool.and_eq_true,beq_iff_eq,not_or,not_and] at hno
    by_cases h1:d.1=1
    ·exact .inr ⟨fun h=>(hno.1 h1).1 h,fun h=>(hno.1 h1).2 h⟩
    ·exact .inl h1
   have stay:∀n,inV g.1 n=true→(d.1≠1∨n≠d.2.1)→inV (gE g d).1 n=true:=fun n hn hc=>by
    obtain⟨y,hy,hyn⟩:=List.any_eq_true.1 hn
    have hyn':y.1=n:=by simpa using hyn
    obtain⟨z,hz,hzy⟩:=hkeep y hy (by rw[hyn'];exact hc)
    exact List.any_eq_true.2 ⟨z,hz,by rw[hzy];exact hyn⟩
   rw[← hxy]
   refine⟨k1,stay _ k2 (hno'.imp id (·.1)),stay _ k3 (hno'.imp id (·.2)),?_,?_⟩
   ·simp only;split
    ·exact hd
    ·exact k4
   ·simp only;split
    ·rename_i h7
     have h7':d.1=7:=by simp only[Bool.and_eq_true,beq_iff_eq] at h7;exact h7.2
     have hhv:=c2c (by rw[h7'];decide)
     simp only[heavy,Bool.or_eq_false_iff,decide_eq_false_iff_not];omega
    ·exact k5
theorem lP {l:List DT}(hl:∀d∈l,0≤d.2.2.2.1∧d.2.2.2.1<256):∀k,Gr.Ok (bS l k)
 | 0=>by rw[bS];simp only[List.take_zero,List.foldl_nil];exact⟨List.Pairwise.nil,List.Pairwise.nil,by simp,by simp,by simp⟩
 | k+1=>by
  cases h:l[k]? with
  | none=>
   have:l.take (k+1)=l.take k:=by rw[List.take_of_length_le (by have:=List.getElem?_eq_none_iff.1 h;omega),List.take_of_length_le (List.getElem?_eq_none_iff.1 h)]
   rw[bS,this]
   exact lP hl k
  | some d=>rw[lK h];exact xb (lP hl k) (hl d (List.mem_of_getElem? h))
theorem bH {n:Int}(h1 : -9223372036854775808≤n)(h2:n≤9223372036854775807):(Lit.int .i64 n).wf=true:=by
 have h3:IntKind.i64.min = -9223372036854775808:=by decide
 have h4:IntKind.i64.max=9223372036854775807:=by decide
 simp only[Lit.wf,h3,h4,Bool.and_eq_true,decide_eq_true_eq]
 omega
theorem wf8 {n:Int}(h1:0≤n)(h2:n<256):(Lit.int .u8 n).wf=true:=by
 have h3:IntKind.u8.min=0:=by decide
 have h4:IntKind.u8.max=255:=by decide
 simp only[Lit.wf,h3,h4,Bool.and_eq_true,decide_eq_true_eq]
 omega
theorem jy {n:Int}(h:bY n=true):0≤n∧n<1024:=by simpa[bY] using h
theorem jz {g:GT}(G:Gr.Ok g){n:Int}(h:inV g.1 n=true):0≤n∧n<1024:=by
 obtain⟨y,hy,hyn⟩:=List.any_eq_true.1 h
 have:=jy (G.rv y hy).1
 have hyn':y.1=n:=by simpa using hyn
 rwa [hyn'] at this
theorem pr {n:Int}(h:Gr.heavy n=false) : -1048576≤n∧n≤1048576:=by
 simp only[heavy,Bool.or_eq_false_iff,decide_eq_false_iff_not] at h;omega
theorem xc {g:GT}(G:Gr.Ok g):∀x∈g.1,okD (dV x):=fun x hx=>by
 obtain⟨h1,h2,h3⟩:=G.rv x hx
 have:=jy h1;have:=pr h3
 exact⟨bH (by simp only[dV];omega) (by simp only[dV];omega),bH (by simp only[dV];omega) (by simp only[dV];omega),wf8 h2.1 h2.2,bH (by simp only[dV];omega) (by simp only[dV];omega)⟩
theorem xd {g:GT}(G:Gr.Ok g):∀x∈g.2,okD (dE x):=fun x hx=>by
 obtain⟨h1,h2,h3,h4,h5⟩:=G.re x hx
 have:=jz G h2;have:=jz G h3;have:=pr h5
 exact⟨bH (by simp only[dE];omega) (by simp only[dE];omega),bH (by simp only[dE];omega) (by simp only[dE];omega),wf8 h4.1 h4.2,bH (by simp only[dE];omega) (by simp only[dE];omega)⟩
theorem pv {g h:GT}(h1:g.1.Perm h.1)(h2:g.2.Perm h.2)(d:DT):bu g d=bu h d:=by
 unfold bu tests
 have e1:∀n,inV g.1 n=inV h.1 n:=fun n=>h1.any_eq
 have e2:∀m n,inE g.2 m n=inE h.2 m n:=fun m n=>h2.any_eq
 simp only[e1,e2,h2.length_eq]
theorem lQ {α β:Type}[DecidableEq α]{l m:List (α×β)}{k:α}{c:β}(h:l.Perm m)(hk:∀y∈m,y.1≠k):(bB l k c).Perm (m++[(k,c)]):=by
 unfold bB
 have:l.filter (fun p => !decide (p.1=k))=l:=List.filter_eq_self.2 fun p hp=>by simpa using hk p (h.mem_iff.1 hp)
 rw[this]
 exact (h.cons _).trans (List.perm_append_singleton _ _).symm
theorem px {g:GT}(G:Gr.Ok g):∀i,i≤g.1.length→∃h:GT,((g.1.map dV).take i).foldl stepB (some ([],[]))=some h∧h.1.Perm (g.1.take i)∧h.2=[]
 | 0,_=>⟨([],[]),by simp,by simp,rfl⟩
 | i+1,hi=>by
  obtain⟨h,k1,k2,k3⟩:=px G i (by omega)
  have hx:=List.getElem?_eq_getElem (show i<g.1.length by omega)
  generalize g.1[i]=x at hx
  have hxd:(g.1.map dV)[i]?=some (dV x):=by rw[List.getElem?_map,hx];rfl
  have hw:=(stepV G hx).1
  have hb:=before G.sv hx
  have hpw:bu h (dV x)=0:=by rw[pv (h:=(g.1.take i,[])) k2 (by rw[k3])];exact hw
  refine⟨doP h (dV x),by rw[ix _ hxd,k1,stepB,if_pos hpw],?_,?_⟩
  ·rw[ec hx]
   show (bB h.1 x.1 x.2).Perm _
   exact lQ k2 fun y hy=>(iq (hb y hy)).2
  ·exact k3
theorem py {g:GT}(G:Gr.Ok g){h0:GT}(p1:h0.1.Perm g.1)(p2:h0.2=[]):∀i,i≤g.2.length→∃h:GT,((g.2.map dE).take i).foldl stepB (some h0)=some h∧h.1.Perm g.1∧h.2.Perm (g.2.take i)
 | 0,_=>⟨h0,by simp,p1,by rw[p2];simp⟩
 | i+1,hi=>by
  obtain⟨h,k1,k2,k3⟩:=py G p1 p2 i (by omega)
  have hx:=List.getElem?_eq_getElem (show i<g.2.length by omega)
  generalize g.2[i]=x at hx
  have hxd:(g.2.map dE)[i]?=some (dE x):=by rw[List.getElem?_map,hx];rfl
  have hw:=(vo G hx).1
  have hb:=before G.se hx
  have hpw:bu h (dE x)=0:=by rw[pv (h:=(g.1,g.2.take i)) k2 k3];exact hw
  have he:ends x.1.1 x.1.2=x.1:=ob (G.re x (List.mem_of_getElem? hx)).1
  refine⟨doP h (dE x),by rw[ix _ hxd,k1,stepB,if_pos hpw],k2,?_⟩
  rw[ec hx]
  show (bB h.2 (ends x.1.1 x.1.2) x.2).Perm _
  rw[he]
  exact lQ k3 fun y hy=>(gw (hb y hy)).2
theorem xf {g:GT}(G:Gr.Ok g):∃g',cR g.1 g.2=some g'∧g'.1.Perm g.1∧g'.2.Perm g.2:=by
 obtain⟨h,k1,k2,k3⟩:=px G g.1.length (Nat.le_refl _)
 rw[List.take_of_length_le (by simp)] at k1
 rw[List.take_length] at k2
 obtain⟨h',l1,l2,l3⟩:=py G k2 k3 g.2.length (Nat.le_refl _)
 rw[List.take_of_length_le (by simp)] at l1
 rw[List.take_length] at l3
 exact⟨h',by rw[cR,k1,l1],l2,l3⟩
end Go.Mono
namespace Go.Mono
open Go Go.RowKit Go.Gr
section
variable {P:Program}{α β:Type}[DecidableEq α]{V:KV P α β}{w w':World}{b r n:Nat}{old rest:List (α×β)}
def RgR (V:KV P α β)(w:World)(b r n:Nat)(old rest:List (α×β)):Prop:=
 ∃es left cnt,w.ranges P V.k V.R b r n (.map es) left cnt∧es.Perm ((old++rest).map V.enc)∧(∀p∈old++rest,V.ok p.1∧V.okv p.2)∧(old++rest).Pairwise (fun p q=>p.1≠q.1) ∧
  (∀x,V.ok x→left (V.kl x)=rest.any fun p=>decide (p.1=x))
theorem RgR.map (h:RgR V w b r n old rest):MpR V w b n (old++rest):=by
 obtain⟨es,left,cnt,h1,h2,h3,h4,_⟩:=h
 exact⟨es,h1.owns,h2,h3,h4⟩
theorem RgR.lt (h:RgR V w b r n old rest):b<w.heap.size∧r<w.heap.size∧r≠b:=by
 obtain⟨es,left,cnt,h1,_⟩:=h
 exact⟨h1.owns.lt,h1.lt,h1.ne⟩
theorem RgR.gr (h:RgR V w b r n old rest){row:Option Nat}(hg:w.grownBy w' row)(h1:some b≠row)(h2:some r≠row):RgR V w' b r n old rest:=by
 obtain⟨es,left,cnt,k1,k2⟩:=h
 exact⟨es,left,cnt,k1.kept hg h1 h2,k2⟩
theorem RgR.ext (h:RgR V w b r n old rest)(e:Ext w w'):RgR V w' b r n old rest:=h.gr e.gr0 (by simp) (by simp)
instance:Ug w w' (RgR V w b r n old rest) (RgR V w' b r n old rest):=⟨fun e h=>h.ext e⟩
theorem MpR.range {t:TypeId}{l:List (α×β)}(h:MpR V w b n l)(ht:P.underlying t=some (.map V.k V.e)) :
  ∃w',(Instr.range t (.map (some b))).run P w=.ok (.pointer (some ⟨w.heap.size,0,none⟩)) w'∧RgR V w' b w.heap.size n [] l∧Ext w w'∧w'.heap.size=w.heap.size+1:=by
 obtain⟨es,h1,h2,h3,h4⟩:=h
 obtain⟨w',k1,k2,k3,k4⟩:=h1.range V.K ht
 refine⟨w',k1,⟨es,_,_,k2,h2,h3,h4,fun x hx=>?_⟩,⟨k3.os,k3.tape,k3.output,k3.size,fun b hb=>k3.block b hb (by simp)⟩,k4⟩
 obtain⟨D,h5,h6,_⟩:=MpR.has (V:=V) ⟨es,h1,h2,h3,h4⟩ hx
 show es.any (fun p=>p.1.sameKey (V.kl x))=_
 rw[h2.any_eq,List.any_map,Bool.eq_iff_iff]
 simp only[List.any_eq_true,Function.comp,KV.enc]
 exact⟨fun⟨p,hp,hq⟩=>⟨p,hp,by rwa [V.same hx (h3 p hp).1] at hq⟩,fun⟨p,hp,hq⟩=>⟨p,hp,by rwa [V.same hx (h3 p hp).1]⟩⟩
theorem gF {γ δ:Type}:∀{m:List (γ×δ)},m.Pairwise (fun p q=>p.1≠q.1)→∀{x:γ} {c c':δ},(x,c)∈m→(x,c')∈m→c=c'
 | [],_,_,_,_,h,_=>by simp at h
 | y::r,hm,x,c,c',h,h'=>by
  obtain⟨h6,h7⟩:=List.pairwise_cons.1 hm
  rcases List.mem_cons.1 h with hy|h1 <;> rcases List.mem_cons.1 h' with hy'|h2
  ·rw[← hy] at hy';exact (congrArg Prod.snd hy').symm
  ·exact absurd rfl (by have:=h6 _ h2;rwa [← hy] at this)
  ·exact absurd rfl (by have:=h6 _ h1;rwa [← hy'] at this)
  ·exact gF h7 h1 h2
theorem gG:∀{m:List (α×β)},m.Pairwise (fun p q=>p.1≠q.1)→∀{x:α} {c:β},(x,c)∈m→m.Perm ((x,c)::m.filter fun p => !decide (p.1=x))
 | [],_,_,_,h=>by simp at h
 | y::r,hm,x,c,h=>by
  obtain⟨h6,h7⟩:=List.pairwise_cons.1 hm
  rcases List.mem_cons.1 h with hy|h1
  ·subst hy
   rw[List.filter_cons_of_neg (by simp)]
   have:r.filter (fun p => !decide (p.1=x))=r:=List.filter_eq_self.2 fun p hp=>by have:=h6 p hp;simp only[Bool.not_eq_true',decide_eq_false_iff_not];exact fun h=>this h.symm
   rw[this]
  ·have hne:y.1≠x:=fun he=>h6 _ h1 he
   rw[List.filter_cons_of_pos (by simpa using hne)]
   exact ((gG h7 h1).cons y).trans (List.Perm.swap _ _ _)
theorem RgR.next (h:RgR V w b r n old rest)(ty:TypeId) :
  (rest=[]∧(Instr.next (.pointer (some ⟨r,0,none⟩)) false ty).run P w=.ok (.tuple #[.bool false]) w) ∨
  ∃x c w',(x,c)∈rest∧(Instr.next (.pointer (some ⟨r,0,none⟩)) false ty).run P w=.ok (.tuple #[.bool true,V.kv x,V.mv c]) w'∧RgR V w' b r n (old++[(x,c)]) (rest.filter fun p => !decide (p.1=x))∧w.grownBy w' (some r) ∧
   (Instr.entry (.pointer (some ⟨r,0,none⟩))).run P w'=.ok (.tuple #[V.kv x,V.mv c]) w':=by
 obtain⟨es,left,cnt,h1,h2,h3,h4,h5⟩:=h
 have hMp:MpR V w b n (old++rest):=⟨es,h1.owns,h2,h3,h4⟩
 rcases h1.next V.K ty with ⟨h0,hl,hrun⟩|⟨key,v,kl,y,w',cnt',hkey,hlk,hv,hat,hrun,hrg,_,hgr,_,hen⟩
 ·refine .inl ⟨?_,hrun⟩
  cases rest with
  | nil=>rfl
  | cons p s=>
   have:=h5 p.1 (h3 p (by simp)).1
   rw[hl] at this
   simp at this
 ·obtain⟨x,hx,rfl,rfl⟩:=V.keyInv _ _ hkey
  obtain⟨c,hc,rfl,rfl⟩:=V.valInv _ _ hv
  rw[h5 x hx,List.any_eq_true] at hlk
  obtain⟨⟨x',c'⟩,hp,hpx⟩:=hlk
  obtain rfl:x'=x:=by simpa using hpx
  obtain⟨D,k1,k2,k3,_⟩:=hMp.has hx
  have hD:∀z,(DataW.map es).atKey (V.kl x') z=V.dv c':=by
   intro z
   have hm:V.enc (x',c')∈es:=h2.mem_iff.2 (List.mem_map_of_mem (by simp[hp]))
   obtain⟨es',hD',hpw,_⟩:=h1.owns.entries V.K
   cases hD'
   have hcm:(x',c')∈old++rest:=by simp[hp]
   simp only[DataW.atKey]
   cases hf:es.find? (fun p=>p.1.sameKey (V.kl x')) with
   | none=>
    have:=List.find?_eq_none.1 hf _ hm
    simp[KV.enc,WideAt.sameKey_self (V.isKey hx)] at this
   | some q=>
    have hq:=List.mem_of_find?_eq_some hf
    have hq2:=List.find?_some hf
    obtain⟨p,hp2,rfl⟩:=List.mem_map.1 (h2.mem_iff.1 hq)
    have hpx':p.1=x':=by rw[KV.enc,V.same hx (h3 p hp2).1] at hq2;simpa using hq2
    have:p=(x',p.2):=by rw[← hpx']
    rw[this] at hp2
    rw[this,gF h4 hp2 hcm];rfl
  have hcc:c=c':=V.dvInj _ _ ((hat .nil).symm.trans (hD .nil))
  subst hcc
  have hperm:=gG (List.pairwise_append.1 h4).2.1 hp
  have hp2:(old++rest).Perm (old++[(x',c)]++rest.filter fun p => !decide (p.1=x')):=by
   rw[List.append_assoc];exact (List.Perm.append_left old hperm)
  refine .inr ⟨x',c,w',hp,hrun,⟨es,_,_,hrg,h2.trans (hp2.map _),fun p hp=>h3 p (hp2.mem_iff.2 hp),(hp2.pairwise_iff (fun {_ _} hne=>Ne.symm hne)).1 h4,fun z hz=>?_⟩,hgr,hen⟩
  rw[h5 z hz,V.same hx hz,List.any_filter]
  by_cases hzx:z=x'
  ·subst hzx
   simp only[decide_true,Bool.not_true,Bool.and_false]
   symm
   rw[List.any_eq_false]
   intro p _
   simp
  ·simp only[hzx,decide_false,Bool.not_false,Bool.and_true]
   congr 1
   funext p
   by_cases hpz:p.1=z
   ·simp[hpz,hzx]
   ·simp[hpz]
end
section tail
variable {P:Program}{L:Env}{ty:TypeId}{pos:String}{aft:Array Edge}{ro:Option Nat}{ds:List Deferred}
variable {ops:Array Oper}{rest:List Oper}{Q:Exit→Act→World→Prop}{n:Nat}{a:Act}{w:World}{x y z:Operand}{α β:Type}[DecidableEq α]{V:KV P α β}{d:Nat}
theorem pz {t:TypeId}{b nn:Nat}{l:List (α×β)}(ht:P.underlying t=some (.map V.k V.e))(hf:FrD n ds a w L)(hd:d<n)(hx:opd L x=some (E (.map (some b))))(hM:MpR V w b nn l)
  (k:∀a' r w',Ext w w'→r=w.heap.size→w'.heap.size=r+1→RgR V w' b r nn [] l→FrD n ds a' w' ((d,E (.pointer (some ⟨r,0,none⟩)))::L)→wpListIn (FW ro) 0 P ops Q rest a' w') :
  wpListIn (FW ro) 0 P ops Q (⟨some d,.range t x,ty,pos,aft,none⟩::rest) a w:=
 wpListIn_plain rfl fun K hK=>by
  have hxv:a.eval x=.map (some b):=hf.opd x _ hx
  obtain⟨w',h1,h2,h3,h4⟩:=hM.range ht
  refine OpR.wp (R:=fun v w1=>v=.pointer (some ⟨w.heap.size,0,none⟩)∧w1=w') ?_ ?_
  ·simp only[OpR,execOp,hxv,Sem.run_bind,h1,Result.andThen_ok,Sem.run_pure]
   exact⟨trivial,trivial⟩
  ·rintro v w1 ⟨rfl,rfl⟩
   exact hK _ _ (k _ _ _ h3 rfl h4 h2 (hf.put (d:=some d) h3 (fun k hk=>by cases hk;exact hd) rfl))
theorem pA {b r nn:Nat}{old rem:List (α×β)}(hf:FrD n ds a w L)[hL:AvL r L](hd:d<n)(hx:opd L x=some (E (.pointer (some ⟨r,0,none⟩))))(hR:RgR V w b r nn old rem)
  (k0:∀a',rem=[]→FrD n ds a' w ((d,E (.tuple #[.bool false]))::L)→wpListIn (FW ro) 0 P ops Q rest a' w)
  (k1:∀a' w' i c,(i,c)∈rem→w.grownBy w' (some r)→RgR V w' b r nn (old++[(i,c)]) (rem.filter fun p => !decide (p.1=i))→(Instr.entry (.pointer (some ⟨r,0,none⟩))).run P w'=.ok (.tuple #[V.kv i,V.mv c]) w' →
   FrD n ds a' w' ((d,E (.tuple #[.bool true,V.kv i,V.mv c]))::L)→wpListIn (FW ro) 0 P ops Q rest a' w') :
  wpListIn (FW ro) 0 P ops Q (⟨some d,.next x false,ty,pos,aft,none⟩::rest) a w:=
 wpListIn_plain rfl fun K hK=>by
  have hxv:a.eval x=.pointer (some ⟨r,0,none⟩):=hf.opd x _ hx
  rcases hR.next ty with ⟨h0,hrun⟩|⟨i,c,w',hm,hrun,hR',hg,hen⟩
  ·refine OpR.wp (R:=fun v w1=>v=.tuple #[.bool false]∧w1=w) ?_ ?_
   ·simp only[OpR,execOp,hxv,Sem.run_bind,hrun,Result.andThen_ok,Sem.run_pure]
    exact⟨trivial,trivial⟩
   ·rintro v w1 ⟨rfl,rfl⟩
    exact hK _ _ (k0 _ h0 (hf.put (d:=some d) (Ext.rfl' _) (fun k hk=>by cases hk;exact hd) rfl))
  ·refine OpR.wp (R:=fun v w1=>v=.tuple #[.bool true,V.kv i,V.mv c]∧w1=w') ?_ ?_
   ·simp only[OpR,execOp,hxv,Sem.run_bind,hrun,Result.andThen_ok,Sem.run_pure]
    exact⟨trivial,trivial⟩
   ·rintro v w1 ⟨rfl,rfl⟩
    exact hK _ _ (k1 _ _ _ _ hm hg hR' hen ((hf.gr hg).put (d:=some d) (Ext.rfl' _) (fun k hk=>by cases hk;exact hd) rfl))
theorem pB {r:Nat}{u:Value}(hf:FrD n ds a w L)(hd:d<n)(hx:opd L x=some (E (.pointer (some ⟨r,0,none⟩))))(hen:(Instr.entry (.pointer (some ⟨r,0,none⟩))).run P w=.ok u w)
  (k:∀a',FrD n ds a' w ((d,E u)::L)→wpListIn (FW ro) 0 P ops Q rest a' w) :
  wpListIn (FW ro) 0 P ops Q (⟨some d,.entry x,ty,pos,aft,none⟩::rest) a w:=
 wpListIn_plain rfl fun K hK=>by
  have hxv:a.eval x=.pointer (some ⟨r,0,none⟩):=hf.opd x _ hx
  refine OpR.wp (R:=fun v w1=>v=u∧w1=w) ?_ ?_
  ·simp only[OpR,execOp,hxv,Sem.run_bind,hen,Result.andThen_ok,Sem.run_pure]
   exact⟨trivial,trivial⟩
  ·rintro v w1 ⟨rfl,rfl⟩
   exact hK _ _ (k _ (hf.put (d:=some d) (Ext.rfl' _) (fun k hk=>by cases hk;exact hd) rfl))
theorem fk {vs:Array Value}{i:Nat}{u:Value}(hf:FrD n ds a w L)(hd:d<n)(hx:opd L x=some (E (.tuple vs)))(hi:vs[i]?=some u)
  (k:∀a',FrD n ds a' w ((d,E u)::L)→wpListIn (FW ro) 0 P ops Q rest a' w) :
  wpListIn (FW ro) 0 P ops Q (⟨some d,.extract x i,ty,pos,aft,none⟩::rest) a w:=
 wpListIn_plain rfl fun K hK=>by
  have hxv:a.eval x=.tuple vs:=hf.opd x _ hx
  refine OpR.wp (R:=fun v w1=>v=u∧w1=w) ?_ ?_
  ·simp[OpR,execOp,hxv,Instr.extract,part,hi]
  ·rintro v w1 ⟨rfl,rfl⟩
   exact hK _ _ (k _ (hf.put (d:=some d) (Ext.rfl' _) (fun k hk=>by cases hk;exact hd) rfl))
end tail
end Go.Mono
namespace Go.Mono
open Go Go.Proofs Go.RowKit Go.Gr

def fS (S:BS):DataW Unit:=.lit (.int .i64 (S.toNat:Int))
theorem xg {S S':BS}(h:fS S=fS S'):S=S':=by
 unfold fS at h
 injection h with h
 injection h with _ h
 exact BitVec.eq_of_toNat_eq (by omega)
theorem xh {S S':BS}(h:ah S=ah S'):S=S':=kT (by injection h)
open Classical in
noncomputable def iB (v:Value):Option (DataW Unit×List MemPlace):=if h:∃S,v=ah S then some (fS (Classical.choose h),[]) else none
theorem xi (S:BS):iB (ah S)=some (fS S,[]):=by
 have h:∃S',ah S=ah S':=⟨S,rfl⟩
 unfold iB
 rw[dif_pos h,← xh (Classical.choose_spec h)]
theorem xj {v:Value}{y:DataW Unit×List MemPlace}(h:iB v=some y):∃S,True∧v=ah S∧y=(fS S,[]):=by
 unfold iB at h
 split at h
 ·rename_i hx;cases h;exact⟨_,trivial,Classical.choose_spec hx,rfl⟩
 ·cases h
noncomputable def sKV:KV Tryz.prog Int BS where
 k:=3
 e:=47
 kv:=fun x=>.int .i64 x
 kl:=fun x=>.int .i64 x
 ok:=fun x=>(Lit.int .i64 x).wf=true
 mv:=ah
 dv:=fS
 okv:=fun _=>True
 R:=iB
 K:=Maps.int_keyed U3
 key:=fun x hx=>Maps.keyOf_int_mk U3 hx
 keyInv:=fun v l h=>by obtain⟨x,h1,h2,h3⟩:=Maps.keyOf_int_inv U3 h;exact⟨x,h3,h1,h2⟩
 kvInj:=fun x y h=>by cases h;rfl
 val:=fun c _=>xi c
 valInv:=fun v y h=>xj h
 dvInj:=fun c c' h=>xg h
end Go.Mono
namespace Go.Mono
open Go Go.Proofs Go.RowKit
def hgt (ks:Nat→List Nat):Nat→Nat→Prop
 | 0,b=>ks b=[]
 | f+1,b=>∀k∈ks b,hgt ks f k
end Go.Mono
namespace Go.Mono

def pre (ks:Nat→List Nat):Nat→Nat→List Nat
 | 0,b=>[b]
 | f+1,b=>b::(ks b).flatMap (pre ks f)
def upN (t:List (Int×BS))(i:Nat):Option Nat:=if (bg t i).1<0 then none else some (bg t i).1.toNat
def it (t:List (Int×BS)):Nat→Nat→Option Nat
 | 0,i=>some i
 | d+1,i=>(it t d i).bind (upN t)
end Go.Mono
namespace Go.Mono
open Go Go.RowKit
structure FlF {α:Type}(e:Enc α)(f:α→List Value):Prop where
 r:∀G w x cs,e.r G w x cs↔cs=f x
 len:∀x,(f x).length=e.k
def iC (n:Int):List Value:=[.int .i64 n]
theorem pC:FlF aA iC:=⟨fun _ _ _ _=>Iff.rfl,fun _=>rfl⟩
section
variable {α:Type}{e:Enc α}{f:α→List Value}{te:TypeId}{N n cap b:Nat}{cur:Array Value}{w w':World}{G:Nat→Prop}{xs:List α}{v:Value}
theorem FlF.cells (F:FlF e f):∀(xs:List α) (cs:List Value),Cells e G w xs cs↔cs=xs.flatMap f
 | [],cs=>by simp[Cells]
 | x::xs,cs=>by
  constructor
  ·rintro⟨c,d,rfl,h1,h2⟩
   rw[(F.r _ _ _ _).1 h1,(F.cells xs d).1 h2,List.flatMap_cons]
  ·intro h
   exact⟨f x,xs.flatMap f,by rw[h,List.flatMap_cons],(F.r _ _ _ _).2 rfl,(F.cells xs _).2 rfl⟩
theorem FlF.flen (F:FlF e f):∀xs:List α,(xs.flatMap f).length=xs.length * e.k
 | []=>by simp
 | x::r=>by rw[List.flatMap_cons,List.length_append,F.len,F.flen r,List.length_cons,Nat.succ_mul];omega
structure RwR (k:Nat)(te:TypeId)(N cap b:Nat)(cur:Array Value)(w:World):Prop where
 bl:Blk w b cur te
 lo:N≤b
 sz:cur.size=cap * k
 mx:cap≤maxLen
theorem RwR.ext {k:Nat}(h:RwR k te N cap b cur w)(e':Ext w w'):RwR k te N cap b cur w':=⟨h.bl.ext e',h.lo,h.sz,h.mx⟩
instance {k:Nat}:Ug w w' (RwR k te N cap b cur w) (RwR k te N cap b cur w'):=⟨fun e h=>h.ext e⟩
theorem RwR.gr {k d:Nat}(h:RwR k te N cap b cur w)(hg:w.grownBy w' (some d))(hne:b≠d):RwR k te N cap b cur w':=⟨h.bl.gr hg hne,h.lo,h.sz,h.mx⟩
theorem OwR.rw (h:OwR e te N G w xs v)(F:FlF e f):(v=.slice none 0 0∧xs=[])∨∃b cap cur,v=.slice (some ⟨b,0,none⟩) xs.length cap∧xs.length≤cap∧RwR e.k te N cap b cur w∧cur.toList.take (xs.length * e.k)=xs.flatMap f:=by
 obtain⟨cs,⟨hlen,hv⟩,hcs⟩:=h.own
 rw[F.cells] at hcs
 subst hcs
 rcases hv with ⟨rfl,hn⟩|⟨g0,cap,cur,rfl,hB,hheap,hcap,hmax,hcur,htake⟩
 ·exact .inl ⟨rfl,List.length_eq_zero_iff.1 hn⟩
 ·exact .inr ⟨g0,cap,cur,rfl,hcap,⟨hheap,hB,hcur,hmax⟩,htake⟩
theorem RwR.own (h:RwR e.k te N cap b cur w)(F:FlF e f)(hn:xs.length≤cap)(ht:cur.toList.take (xs.length * e.k)=xs.flatMap f)(hG:∀b,G b→b<N):OwR e te N G w xs (.slice (some ⟨b,0,none⟩) xs.length cap):=
 ⟨⟨xs.flatMap f,⟨F.flen xs,.inr ⟨b,cap,cur,rfl,h.lo,h.bl,hn,h.mx,h.sz,ht⟩⟩,(F.cells _ _).2 rfl⟩,hG,Nat.le_trans h.lo (Nat.le_of_lt h.bl.lt)⟩
end
section
variable {α:Type}{f:α→List Value}{k:Nat}
theorem pD (hk:∀x,(f x).length=k):∀(xs:List α) (i:Nat),(xs.flatMap f).take (i * k)=(xs.take i).flatMap f
 | [],i=>by simp
 | x::r,0=>by simp
 | x::r,i+1=>by
  rw[List.flatMap_cons,List.take_succ_cons,List.flatMap_cons,Nat.succ_mul,List.take_append,hk,List.take_of_length_le (by rw[hk];omega),show i * k+k - k=i * k by omega,pD hk r i]
end
section ops
variable {P:Program}{w0:World}{L:Env}{dst:Option Tmp}{ty:TypeId}{pos:String}{aft:Array Edge}{g:Option (Nat×Bool)}{x y:Operand}{t te:TypeId}
theorem xk {b o n c i s:Nat}(ht:P.underlying t=some (.slice te))(hs:(P.info? te).map (·.size)=some s)(hx:opd L x=some (E (.slice (some ⟨b,o,none⟩) n c)))(hy:opd L y=some (E (.int .i64 (i:Nat))))(hi:i≤c) :
  OpC P w0 L ⟨dst,.slice t x none (some y) none,ty,pos,aft,g⟩ (E (.slice (some ⟨b,o,none⟩) i c)):=
 aQ fun ρ w _ hv=>by
  have h1:=opE hv (x:=x) (by simp[Op.operands]) hx
  have h2:=opE hv (x:=y) (by simp[Op.operands]) hy
  refine⟨_,?_,rfl⟩
  have hi':(0:Int)≤(i:Int)∧(i:Int)≤(c:Int):=by omega
  simp[execOp,h1,h2,Instr.sliceAt,Instr.slice,Instr.sliceBounds,Instr.sliceBound,asIntOf,run_underlying ht,hi,vj hs,Addr.add_lit]
end ops
section
variable {P:Program}{w0:World}{L:Env}{dst:Option Tmp}{ty:TypeId}{pos:String}{aft:Array Edge}{g:Option (Nat×Bool)}{x:Operand}{t:TypeId}{α:Type}{e:Enc α}{z:α}
end
section tail
variable {P:Program}{L:Env}{ty:TypeId}{pos:String}{aft:Array Edge}{r:Option Nat}{ds:List Deferred}
variable {ops:Array Oper}{rest:List Oper}{Q:Exit→Act→World→Prop}{n:Nat}{a:Act}{w:World}{x y:Operand}{t te:TypeId}
end tail
end Go.Mono
namespace Go.Mono
open Go Go.Proofs Go.RowKit
def xl (t:List (Int×BS))(k j:Nat):BS:=
 (List.range k).foldl (fun S i=>if (bg t i).1<0 then S else if (bg t i).1=(j:Int) then ins S (i:Int) else if i=j then ins S (bg t i).1 else S) 0
def iD (t:List (Int×BS)):List BS:=(List.range t.length).map (xl t t.length)
end Go.Mono
