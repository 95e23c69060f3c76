/-
  Walks of functions and plain facts.
  No condition.
-/
import Derived.Test.YteildobhcnllmaaGreatDoorTB
import Derived.Test.YteildobhcnllmaaGreatDoorTA
import Derived.Sort.Grow
import Derived.Great.BuildSlice
import Derived.Deep.Draws
import Derived.Shelf.SlSortCmp.NoneTotal
import Derived.Maps.RangeWalk
import Derived.Test.YteildobhcnllmaaGreatDoorProg
set_option linter.unusedVariables false
set_option linter.unusedSimpArgs false
namespace Go.Mono
open Go Go.Proofs Go.RowKit Go.Gr
section
variable {G G2 G3:Nat→Prop}(g:GT)(d:DT)(N:Nat)(W:World)(v v1 v2:Value)
theorem cP (n:Int)(v:Value)(w:World)(h:(E (I n)).p v w):Calls Tryz.prog 128 #[v] w (Post (E (.bool (Gr.pairs n))) w):=by cases h;exact zF n w
theorem cW (n:Int)(v:Value)(w:World)(h:(E (I n)).p v w):Calls Tryz.prog 129 #[v] w (Post (E (.bool (Gr.weighs n))) w):=by cases h;exact zG n w
theorem cI (n:Int)(v:Value)(w:World)(h:(E (I n)).p v w):Calls Tryz.prog 127 #[v] w (Post (E (.bool (dY n))) w):=by cases h;exact zH n w
theorem cH (n:Int)(v:Value)(w:World)(h:(E (I n)).p v w):Calls Tryz.prog 130 #[v] w (Post (E (.bool (Gr.heavy n))) w):=by cases h;exact zI n w
theorem zJ (h:(Dv (ptE dtE) G (some d)).p v W):Calls Tryz.prog 125 #[v] W (Post (E (.bool (decide (d.1<0) || decide (8≤d.1)))) W):=by
 refine eN [v] [Dv (ptE dtE) G (some d)] Tryz.func125 Tryz.ntmps125 ?_ fun a hf=>?_
 rotate_left
 rotate_right
 ·exact arg1 h
 have e:=Ext.rfl' W
 refine seq <| ae <| tA hf rfl fun a hf=>aa <| seq <| rgN 8 hf <| st (aB U53 rfl T3 (by decide) (Fld.fst Fld.refl) (isR rfl)) <| st (ldI T3 (isR rfl)) <| st (lss rfl rfl) <| st (mv rfl) <| sgE rfl rfl (.k 0 rfl .n) (fun hgd=>aB U53 rfl T3 (by decide) (Fld.fst Fld.refl) (isR rfl)) <| sgE rfl rfl (.c 6 rfl (fun h=>h) .n) (fun hgd=>ldI T3 (isR rfl)) <| sgE rfl rfl (.c 7 rfl (fun h=>h) .n) (fun hgd=>geq rfl rfl) <| st (bO rfl rfl (fun h=>by rw[h];rfl)) ?_
 refine en fun a w e' hf=>?_
 replace e:=e.tr e'
 refine tA hf rfl fun a hf=>aa <| ai <| ap rfl hf rfl ?_
 rintro _ rfl
 exact⟨_,rfl,e,rfl⟩
theorem zK (h:(Dv (ptE dtE) G (some d)).p v W):Calls Tryz.prog 126 #[v] W (Post (E (.bool ((!dY d.2.1) || (Gr.pairs d.1 && !dY d.2.2.1) || (Gr.weighs d.1&&Gr.heavy d.2.2.2.2)))) W):=by
 refine eN [v] [Dv (ptE dtE) G (some d)] Tryz.func126 Tryz.ntmps126 ?_ fun a hf=>?_
 rotate_left
 rotate_right
 ·exact arg1 h
 have e:=Ext.rfl' W
 refine seq <| ae <| tA hf rfl fun a hf=>aa <| seq <| rgN 25 hf <| st (aB U53 rfl T3 (by decide) (Fld.snd (Fld.fst Fld.refl) rfl) (isR rfl)) <| st (ldI T3 (isR rfl)) <| st (an pO rfl (fun v w he h=>cI _ v w h)) <| st (bA rfl) <| st (mv rfl) <| sgE rfl rfl (.k 0 rfl .n) (fun hgd=>aB U53 rfl T3 (by decide) (Fld.fst Fld.refl) (isR rfl)) <| sgE rfl rfl (.c 7 rfl (fun h=>h) .n) (fun hgd=>ldI T3 (isR rfl)) <| sgE rfl rfl (.c 8 rfl (fun h=>h) .n) (fun hgd=>an jZ rfl (fun v w he h=>cP _ v w h)) <| sgE rfl rfl (.c 9 rfl (fun h=>h) .n) (fun hgd=>mv rfl) <| sgC rfl rfl (.k 0 rfl .n) (fun hgd=>aB U53 rfl T3 (by decide) (Fld.snd (Fld.snd (Fld.fst Fld.refl) rfl) rfl) (isR rfl)) <| sgC rfl rfl (.c 11 rfl (fun h=>h) .n) (fun hgd=>ldI T3 (isR rfl)) <| sgC rfl rfl (.c 12 rfl (fun h=>h) .n) (fun hgd=>an pO rfl (fun v w he h=>cI _ v w h)) <| sgC rfl rfl (.c 13 rfl (fun h=>h) .n) (fun hgd=>bA rfl) <| sgE rfl rfl (.c 10 rfl (fun h=>h) (.k 14 rfl .n)) (fun hgd=>bG rfl rfl (fun h=>by rw[hgd,h];rfl)) ?_
 refine st (bO rfl rfl (fun h=>by rw[h];rfl)) ?_
 refine st (mv rfl) <| sgE rfl rfl (.k 0 rfl .n) (fun hgd=>aB U53 rfl T3 (by decide) (Fld.fst Fld.refl) (isR rfl)) <| sgE rfl rfl (.c 18 rfl (fun h=>h) .n) (fun hgd=>ldI T3 (isR rfl)) <| sgE rfl rfl (.c 19 rfl (fun h=>h) .n) (fun hgd=>an xl rfl (fun v w he h=>cW _ v w h)) <| sgE rfl rfl (.c 20 rfl (fun h=>h) .n) (fun hgd=>mv rfl) <| sgC rfl rfl (.k 0 rfl .n) (fun hgd=>aB U53 rfl T3 (by decide) (Fld.snd (Fld.snd (Fld.snd (Fld.snd Fld.refl rfl) rfl) rfl) rfl) (isR rfl)) <| sgC rfl rfl (.c 22 rfl (fun h=>h) .n) (fun hgd=>ldI T3 (isR rfl)) <| sgC rfl rfl (.c 23 rfl (fun h=>h) .n) (fun hgd=>an xo rfl (fun v w he h=>cH _ v w h)) <| sgE rfl rfl (.c 21 rfl (fun h=>h) (.k 24 rfl .n)) (fun hgd=>bG rfl rfl (fun h=>by rw[hgd,h];rfl)) ?_
 refine st (bO rfl rfl (fun h=>by rw[h];rfl)) ?_
 refine en fun a w e' hf=>?_
 replace e:=e.tr e'
 refine tA hf rfl fun a hf=>aa <| ai <| ap rfl hf rfl ?_
 rintro _ rfl
 exact⟨_,rfl,e,rfl⟩
theorem zL (h:(Dv (ptE dtE) G (some d)).p v W):Calls Tryz.prog 131 #[v] W (Post (E (.bool (Gr.pairs d.1&&d.2.1==d.2.2.1))) W):=by
 refine eN [v] [Dv (ptE dtE) G (some d)] Tryz.func131 Tryz.ntmps131 ?_ fun a hf=>?_
 rotate_left
 rotate_right
 ·exact arg1 h
 have e:=Ext.rfl' W
 refine seq <| ae <| tA hf rfl fun a hf=>aa <| seq <| rgN 10 hf <| st (aB U53 rfl T3 (by decide) (Fld.fst Fld.refl) (isR rfl)) <| st (ldI T3 (isR rfl)) <| st (an jZ rfl (fun v w he h=>cP _ v w h)) <| st (mv rfl) <| sgE rfl rfl (.k 0 rfl .n) (fun hgd=>aB U53 rfl T3 (by decide) (Fld.snd (Fld.fst Fld.refl) rfl) (isR rfl)) <| sgE rfl rfl (.c 6 rfl (fun h=>h) .n) (fun hgd=>ldI T3 (isR rfl)) <| sgE rfl rfl (.k 0 rfl .n) (fun hgd=>aB U53 rfl T3 (by decide) (Fld.snd (Fld.snd (Fld.fst Fld.refl) rfl) rfl) (isR rfl)) <| sgE rfl rfl (.c 8 rfl (fun h=>h) .n) (fun hgd=>ldI T3 (isR rfl)) <| sgE rfl rfl (.c 7 rfl (fun h=>h) (.c 9 rfl (fun h=>h) .n)) (fun hgd=>eql rfl rfl) <| st (bG rfl rfl (fun h=>by rw[h];rfl)) ?_
 refine en fun a w e' hf=>?_
 replace e:=e.tr e'
 refine tA hf rfl fun a hf=>aa <| ai <| ap rfl hf rfl ?_
 rintro _ rfl
 exact⟨_,rfl,e,rfl⟩
theorem zM (u:Bool)(h:(Dv (ptE dtE) G (some d)).p v W)(h1:(Dv (ptE cZ) G2 (some u)).p v1 W):Calls Tryz.prog 132 #[v,v1] W (Post (E (.bool (d.1==0&&u))) W):=by
 refine eN [v,v1] [Dv (ptE dtE) G (some d),Dv (ptE cZ) G2 (some u)] Tryz.func132 Tryz.ntmps132 ?_ fun a hf=>?_
 rotate_left
 rotate_right
 ·exact arg2 h h1
 have e:=Ext.rfl' W
 refine seq <| ae <| tA hf rfl fun a hf=>aa <| seq <| rgN 6 hf <| st (aB U53 rfl T3 (by decide) (Fld.fst Fld.refl) (isR rfl)) <| st (ldI T3 (isR rfl)) <| st (eql rfl rfl) <| st (mv rfl) <| sgE rfl rfl (.k 1 rfl .n) (fun hgd=>ldB T4 (isR rfl)) <| st (bG rfl rfl (fun h=>by rw[h];rfl)) ?_
 refine en fun a w e' hf=>?_
 replace e:=e.tr e'
 refine tA hf rfl fun a hf=>aa <| ai <| ap rfl hf rfl ?_
 rintro _ rfl
 exact⟨_,rfl,e,rfl⟩
theorem zN (u u2:Bool)(h:(Dv (ptE dtE) G (some d)).p v W)(h1:(Dv (ptE cZ) G2 (some u)).p v1 W)(h2:(Dv (ptE cZ) G3 (some u2)).p v2 W) :
  Calls Tryz.prog 133 #[v,v1,v2] W (Post (E (.bool ((d.1 != 0 && !Gr.pairs d.1 && !u) || (d.1==2 && !(u&&u2))))) W):=by
 refine eN [v,v1,v2] [Dv (ptE dtE) G (some d),Dv (ptE cZ) G2 (some u),Dv (ptE cZ) G3 (some u2)] Tryz.func133 Tryz.ntmps133 ?_ fun a hf=>?_
 rotate_left
 rotate_right
 ·exact dS h h1 h2
 have e:=Ext.rfl' W
 refine seq <| ae <| tA hf rfl fun a hf=>aa <| seq <| rgN 25 hf <| st (aB U53 rfl T3 (by decide) (Fld.fst Fld.refl) (isR rfl)) <| st (ldI T3 (isR rfl)) <| st (neq rfl rfl) <| st (mv rfl) <| sgE rfl rfl (.k 0 rfl .n) (fun hgd=>aB U53 rfl T3 (by decide) (Fld.fst Fld.refl) (isR rfl)) <| sgE rfl rfl (.c 8 rfl (fun h=>h) .n) (fun hgd=>ldI T3 (isR rfl)) <| sgE rfl rfl (.c 9 rfl (fun h=>h) .n) (fun hgd=>an jZ rfl (fun v w he h=>cP _ v w h)) <| sgE rfl rfl (.c 10 rfl (fun h=>h) .n) (fun hgd=>bA rfl) <| st (bG rfl rfl (fun h=>by rw[h];rfl)) ?_
 refine st (mv rfl) <| sgE rfl rfl (.k 1 rfl .n) (fun hgd=>ldB T4 (isR rfl)) <| sgE rfl rfl (.c 14 rfl (fun h=>h) .n) (fun hgd=>bA rfl) <| st (bG rfl rfl (fun h=>by rw[h];rfl)) ?_
 refine st (mv rfl) <| sgE rfl rfl (.k 0 rfl .n) (fun hgd=>aB U53 rfl T3 (by decide) (Fld.fst Fld.refl) (isR rfl)) <| sgE rfl rfl (.c 18 rfl (fun h=>h) .n) (fun hgd=>ldI T3 (isR rfl)) <| sgE rfl rfl (.c 19 rfl (fun h=>h) .n) (fun hgd=>eql rfl rfl) <| sgE rfl rfl (.c 20 rfl (fun h=>h) .n) (fun hgd=>mv rfl) <| sgC rfl rfl (.k 1 rfl .n) (fun hgd=>ldB T4 (isR rfl)) <| sgC rfl rfl (.c 22 rfl (fun h=>h) .n) (fun hgd=>mv rfl) <| sgC rfl rfl (.k 2 rfl .n) (fun hgd=>ldB T4 (isR rfl)) <| sgC rfl rfl (.c 23 rfl (fun h=>h) (.k 24 rfl .n)) (fun hgd=>bG rfl rfl (fun h=>by rw[hgd,h];rfl)) ?_
 refine sgC rfl rfl (.c 25 rfl (fun h=>h) .n) (fun hgd=>bA rfl) <| sgE rfl rfl (.c 21 rfl (fun h=>h) (.k 26 rfl .n)) (fun hgd=>bG rfl rfl (fun h=>by rw[hgd,h];rfl)) ?_
 refine st (bO rfl rfl (fun h=>by rw[h];rfl)) ?_
 refine en fun a w e' hf=>?_
 replace e:=e.tr e'
 refine tA hf rfl fun a hf=>aa <| ai <| ap rfl hf rfl ?_
 rintro _ rfl
 exact⟨_,rfl,e,rfl⟩
theorem zO (u:Bool)(h:(Dv (ptE dtE) G (some d)).p v W)(h1:(Dv (ptE cZ) G2 (some u)).p v1 W):Calls Tryz.prog 134 #[v,v1] W (Post (E (.bool (Gr.pairs d.1&&d.1 != 2 && !u))) W):=by
 refine eN [v,v1] [Dv (ptE dtE) G (some d),Dv (ptE cZ) G2 (some u)] Tryz.func134 Tryz.ntmps134 ?_ fun a hf=>?_
 rotate_left
 rotate_right
 ·exact arg2 h h1
 have e:=Ext.rfl' W
 refine seq <| ae <| tA hf rfl fun a hf=>aa <| seq <| rgN 12 hf <| st (aB U53 rfl T3 (by decide) (Fld.fst Fld.refl) (isR rfl)) <| st (ldI T3 (isR rfl)) <| st (an jZ rfl (fun v w he h=>cP _ v w h)) <| st (mv rfl) <| sgE rfl rfl (.k 0 rfl .n) (fun hgd=>aB U53 rfl T3 (by decide) (Fld.fst Fld.refl) (isR rfl)) <| sgE rfl rfl (.c 7 rfl (fun h=>h) .n) (fun hgd=>ldI T3 (isR rfl)) <| sgE rfl rfl (.c 8 rfl (fun h=>h) .n) (fun hgd=>neq rfl rfl) <| st (bG rfl rfl (fun h=>by rw[h];rfl)) ?_
 refine st (mv rfl) <| sgE rfl rfl (.k 1 rfl .n) (fun hgd=>ldB T4 (isR rfl)) <| sgE rfl rfl (.c 12 rfl (fun h=>h) .n) (fun hgd=>bA rfl) <| st (bG rfl rfl (fun h=>by rw[h];rfl)) ?_
 refine en fun a w e' hf=>?_
 replace e:=e.tr e'
 refine tA hf rfl fun a hf=>aa <| ai <| ap rfl hf rfl ?_
 rintro _ rfl
 exact⟨_,rfl,e,rfl⟩
theorem zP (u:Bool)(h:(Dv (ptE dtE) G (some d)).p v W)(h1:(Dv (ptE cZ) G2 (some u)).p v1 W):Calls Tryz.prog 135 #[v,v1] W (Post (E (.bool (d.1==2&&u))) W):=by
 refine eN [v,v1] [Dv (ptE dtE) G (some d),Dv (ptE cZ) G2 (some u)] Tryz.func135 Tryz.ntmps135 ?_ fun a hf=>?_
 rotate_left
 rotate_right
 ·exact arg2 h h1
 have e:=Ext.rfl' W
 refine seq <| ae <| tA hf rfl fun a hf=>aa <| seq <| rgN 6 hf <| st (aB U53 rfl T3 (by decide) (Fld.fst Fld.refl) (isR rfl)) <| st (ldI T3 (isR rfl)) <| st (eql rfl rfl) <| st (mv rfl) <| sgE rfl rfl (.k 1 rfl .n) (fun hgd=>ldB T4 (isR rfl)) <| st (bG rfl rfl (fun h=>by rw[h];rfl)) ?_
 refine en fun a w e' hf=>?_
 replace e:=e.tr e'
 refine tA hf rfl fun a hf=>aa <| ai <| ap rfl hf rfl ?_
 rintro _ rfl
 exact⟨_,rfl,e,rfl⟩
theorem zQ (h:(Dv (ptE dtE) G (some d)).p v W)(h1:(Dv (ptE (ptE (grE N))) G2 (some (some g))).p v1 W):Calls Tryz.prog 136 #[v,v1] W (Post (E (.bool (d.1==2&&decide ((1024:Int)≤(g.2.length:Nat))))) W):=by
 refine eN [v,v1] [Dv (ptE dtE) G (some d),Dv (ptE (ptE (grE N))) G2 (some (some g))] Tryz.func136 Tryz.ntmps136 ?_ fun a hf=>?_
 rotate_left
 rotate_right
 ·exact arg2 h h1
 have e:=Ext.rfl' W
 refine seq <| ae <| tA hf rfl fun a hf=>aa <| seq <| rgN 11 hf <| st (aB U53 rfl T3 (by decide) (Fld.fst Fld.refl) (isR rfl)) <| st (ldI T3 (isR rfl)) <| st (eql rfl rfl) <| st (mv rfl) <| sgE rfl rfl (.k 1 rfl .n) (fun hgd=>ldD T28 (isR rfl)) <| sgE rfl rfl (.c 7 rfl (fun h=>h) .n) (fun hgd=>fW (isR rfl)) <| sgE rfl rfl (.c 8 rfl (fun h=>h) .n) (fun hgd=>aB fk rfl eI (by decide) (Fld.snd Fld.refl rfl) (isR rfl)) <| sgE rfl rfl (.c 9 rfl (fun h=>h) .n) (fun hgd=>ldD eI (isR rfl)) <| sgE rfl rfl (.c 10 rfl (fun h=>h) .n) (fun hgd=>eU iT (isR rfl)) <| sgE rfl rfl (.c 11 rfl (fun h=>h) .n) (fun hgd=>geq rfl rfl) <| st (bG rfl rfl (fun h=>by rw[h];rfl)) ?_
 refine en fun a w e' hf=>?_
 replace e:=e.tr e'
 refine tA hf rfl fun a hf=>aa <| ai <| ap rfl hf rfl ?_
 rintro _ rfl
 exact⟨_,rfl,e,rfl⟩
end
end Go.Mono
namespace Go.Mono
open Go Go.RowKit
section tail
variable {P:Program}{L:Env}{ty:TypeId}{pos:String}{aft:Array Edge}{r:Option Nat}{ds:List Deferred}
variable {ops:Array Oper}{rest:List Oper}{Q:Exit→Act→World→Prop}{n:Nat}{a:Act}{w:World}{x y:Operand}
theorem zR {t bt:TypeId}{b off s:Nat}{cs new:Array Value}(ht:TI P t true s)(hf:FrD n ds a w L)[hL:AvL b L](hx:opd L x=some (E (.pointer (some ⟨b,off,none⟩))))(hy:opd L y=some (E (.agg new)))(h1:new.all (·.oneCell')=true)
  (hb:Blk w b cs bt) (hn:new.size=s) (ho:off+s≤cs.size) (k:∀w',w.grownBy w' (some b)→w'.heap.size=w.heap.size→Blk w' b (cs.toList.take off++new.toList++cs.toList.drop (off+s)).toArray bt→FrD n ds a w' L→wpListIn (FW r) 0 P ops Q rest a w') :
  wpListIn (FW r) 0 P ops Q (⟨none,.store t x y,ty,pos,aft,none⟩::rest) a w:=
 wpListIn_plain rfl fun K hK=>by
  have hxv:a.eval x=.pointer (some ⟨b,off,none⟩):=hf.opd x _ hx
  have hyv:a.eval y=.agg new:=hf.opd y _ hy
  have hrun:=run_storeCells_at (P:=P) b off bt new.toList 0 cs w hb (by simp;omega) (fun v hv=>by rw[Array.all_eq_true_iff_forall_mem] at h1;exact h1 v (by simpa using hv))
  have hc:(Value.agg new).cells=new:=rfl
  refine OpR.wp (R:=fun _ w'=>w'=w.setRow b (cs.toList.take off++new.toList++cs.toList.drop (off+s)).toArray) ?_ ?_
  ·simp[OpR,execOp,Instr.storeAt,Instr.sureAddr,hxv,hyv,storeVar,hc,ht.size,hn,hrun]
  ·rintro _ w' rfl
   exact hK _ _ (k _ (eG _ _ _) (by simp) (setRow_heap _ _ _ _ _ _ hb) (hf.gr (eG _ _ _)))
end tail
section
variable {P:Program}{w0:World}{L:Env}{dst:Option Tmp}{ty:TypeId}{pos:String}{aft:Array Edge}{α:Type}{e:Enc α}
end
theorem zS {P:Program}{ty:TypeId}{α:Type}{e:Enc α}[FlE e]{G G':Nat→Prop}{w:World}{xs ys:List α}{v:Value}{t te:TypeId}{z0:Value}{sz bz B:Nat}(ht:P.underlying t=some (.slice te))(hi:(P.info? te).map (fun i=>(i.zero,i.size,i.bytes))=some (some z0,sz,bz))(hsz:sz=e.k)(hz0:z0.cells.size=e.k)
  (ho:OwR e te B G w xs v) {u:Value} (hy:(Dv (slE e) G' ys).p u w) (h63:(xs.length+ys.length)≤maxLen) (hb:(xs.length+ys.length) * bz≤140737488355328) :
  ∃v' w',(Builtin.append_ #[t,t] ty #[v,u]).run P w=.ok v' w'∧OwR e te B G w' (xs++ys) v'∧w.grownBy w' v.ownBlock∧(v'.ownBlock=v.ownBlock∨v'.ownBlock=some w.heap.size):=by
 obtain⟨it,hit,hiz,hsz',hbz⟩:=info_parts hi
 subst hsz
 obtain⟨cs,h1,h2⟩:=ho.own
 rcases Dv.sl.1 hy with ⟨rfl,rfl⟩|⟨ad,cap,ds',rfl,_,h3,h4,h5,h6⟩
 ·refine⟨v,w,run_append_owned_none w B t ty te it e.k ht hit v _ cs h1,by simpa using ho,⟨rfl,rfl,rfl,Nat.le_refl _,fun _ _ _=>rfl⟩,.inl rfl⟩
 ·obtain⟨v',w',h7,h8,h9,_,h10⟩:=run_append_own_at (P:=P) w B t ty te it z0 e.k bz ht hit hiz hsz' hbz hz0 e.pos v _ cs h1 ad ys.length cap ds' h5.len h6 h5.one h63 hb ho.base
  exact⟨v',w',h7,⟨⟨cs++ds',by simpa using h8,(Cells.fl h2).app (Cells.fl h5)⟩,ho.av,Nat.le_trans ho.base h9.size⟩,h9,h10⟩

def frQ (fr:List Nat)(j:Nat):Bool:=Nat.beq (fr.getD j 0) 1
def kpQ (fr:List Nat)(j:Nat):Bool := !Nat.beq (fr.getD j 0) 0
end Go.Mono
namespace Go.Mono
open Go Go.RowKit
structure cR (S:World→World→Prop):Prop where
 tr:∀{a b c},S a b→S b c→S a c
 ext:∀{a b},Ext a b→S a b
class StJ (S:World→World→Prop)(A:VA):Prop where
 av:∀v w w',S w w'→A.p v w→A.p v w'
class fB (S:World→World→Prop)(L:Env):Prop where
 av:∀t A,aC L t=some A→∀v w w',S w w'→A.p v w→A.p v w'
instance (S:World→World→Prop)(v:Value):StJ S (E v):=⟨fun _ _ _ _ h=>h⟩
instance (S:World→World→Prop):StJ S Any:=⟨fun _ _ _ _ h=>h⟩
instance (S:World→World→Prop):fB S []:=⟨fun t A h=>by simp[aC] at h⟩
instance (S:World→World→Prop)(k:Nat)(A:VA)(L:Env)[h:StJ S A][hl:fB S L]:fB S ((k,A)::L):=⟨fun t B ht=>by
 by_cases hkt:k=t
 ·subst hkt;rw[cT] at ht;cases ht;exact h.av
 ·rw[cU _ _ hkt] at ht;exact hl.av t B ht⟩
end Go.Mono
namespace Go.Mono
open Go Go.RowKit
def gM (P:Program)(ops:Array Oper)(w0:World)(S:World→World→Prop)(F:World→Prop)(pf:List Nat):Nat→List Oper→(Env→Prop)→Env→Prop
 | _,[],K,L2=>K L2
 | k,o::rest,K,L2=>∃A,(∀w1,S w0 w1→(pf.contains k=true∨F w1)→GOp P ops w1 L2 o A)∧(pf.contains k=true→StJ S A)∧gM P ops w0 S F pf (k+1) rest K (push o.dst A L2)
def ey (P:Program)(ops:Array Oper)(w0:World)(S:World→World→Prop)(F:World→Prop)(pf:List Nat):Nat→List Nat→List Oper→(Env→Prop)→Env→Env→Prop
 | k,[],o::rest,K,L,L2=>o.guard=none∧∃A,eR P w0 S F L o A∧gM P ops w0 S F pf (k+1) rest K (push o.dst A L2)
 | k,c::fr,o::rest,K,L,L2=>∃A,(c≠1→GOp P ops w0 L o A)∧(c=1→∀w1,S w0 w1→GOp P ops w1 L o A)∧(c≠0→StJ S A)∧ey P ops w0 S F pf (k+1) fr rest K (push o.dst A L) (push o.dst (if c≠0 then A else Any) L2)
 | _,_,_,_,_,_=>False

section
variable {P:Program}{ops:Array Oper}{Q:Exit→Act→World→Prop}{w0:World}{n:Nat}{ds:List Deferred}{r:Option Nat}

theorem ry {S:World→World→Prop}{F:World→Prop}{pf:List Nat}{K:Env→Prop}:∀(M:List Oper) (k:Nat) (L:Env),(∀j,j<M.length→ops[k+j]?=M[j]?)→gM P ops w0 S F pf k M K L →
  ∃As:Nat→VA,(∀j o,j<M.length→ops[k+j]?=some o→(∀w1,S w0 w1→(pf.contains (k+j)=true∨F w1)→GOp P ops w1 (aV ops L As k j) o (As j))∧(pf.contains (k+j)=true→StJ S (As j)))∧K (aV ops L As k M.length)
 | [],k,L,_,h=>⟨fun _=>Any,fun j o hj=>by simp at hj,h⟩
 | o::M,k,L,hM,⟨A,hA,hB,hr⟩=>by
  have h0:ops[k]?=some o:=by simpa using hM 0 (by simp)
  have hd:aR ops k=o.dst:=by simp[aR,h0]
  obtain⟨As,h1,h2⟩:=ry M (k+1) (push o.dst A L) (fun j hj=>by
   have:=hM (j+1) (by simpa using hj)
   rw[show k+1+j=k+(j+1) by omega]
   simpa using this) hr
  refine⟨eP A As,?_,?_⟩
  ·intro j o' hj ho'
   cases j with
   | zero=>
    rw[Nat.add_zero,h0] at ho'
    obtain rfl:=Option.some.inj ho'
    exact⟨hA,hB⟩
   | succ j=>
    rw[eQ,hd]
    have:=h1 j o' (by simpa using hj) (by rw[show k+1+j=k+(j+1) by omega];exact ho')
    rwa [show k+1+j=k+(j+1) by omega] at this
  ·rw[List.length_cons,eQ,hd]
   exact h2
theorem rz {S:World→World→Prop}{F:World→Prop}{pf:List Nat}{K:Env→Prop}:∀(M:List Oper) (fr:List Nat) (k:Nat) (L L2:Env),(∀j,j<M.length→ops[k+j]?=M[j]?)→ey P ops w0 S F pf k fr M K L L2 →
  ∃As:Nat→VA,fr.length<M.length∧(∀j o,j<fr.length→ops[k+j]?=some o→(frQ fr j=false→GOp P ops w0 (aV ops L As k j) o (As j))∧(frQ fr j=true→∀w1,S w0 w1→GOp P ops w1 (aV ops L As k j) o (As j))∧(kpQ fr j=true→StJ S (As j))) ∧
   (∀o,ops[k+fr.length]?=some o→o.guard=none∧eR P w0 S F (aV ops L As k fr.length) o (As fr.length)) ∧
   (∀j o,fr.length<j→j<M.length→ops[k+j]?=some o→(∀w1,S w0 w1→(pf.contains (k+j)=true∨F w1)→GOp P ops w1 (aV ops L2 (fun j=>if kpQ fr j=true∨fr.length≤j then As j else Any) k j) o (As j))∧(pf.contains (k+j)=true→StJ S (As j))) ∧
   K (aV ops L2 (fun j=>if kpQ fr j=true∨fr.length≤j then As j else Any) k M.length)
 | [],[],_,_,_,_,h=>h.elim
 | [],_::_,_,_,_,_,h=>h.elim
 | o::M,[],k,L,L2,hM,⟨hg,A,h1,h2⟩=>by
  have h0:ops[k]?=some o:=by simpa using hM 0 (by simp)
  have hd:aR ops k=o.dst:=by simp[aR,h0]
  obtain⟨As,h3,h4⟩:=ry M (k+1) (push o.dst A L2) (fun j hj=>by
   have:=hM (j+1) (by simpa using hj)
   rw[show k+1+j=k+(j+1) by omega]
   simpa using this) h2
  have e:(fun j=>if kpQ [] j=true∨([]:List Nat).length≤j then eP A As j else Any)=eP A As:=by
   funext j
   simp
  refine⟨eP A As,by simp,fun j o hj=>by simp at hj,fun o' ho'=>?_,fun j o' hj hj2 ho'=>?_,?_⟩
  ·rw[List.length_nil,Nat.add_zero,h0] at ho'
   obtain rfl:=Option.some.inj ho'
   exact⟨hg,h1⟩
  ·rw[e]
   cases j with
   | zero=>simp at hj
   | succ j=>
    rw[eQ,hd]
    have:=h3 j o' (by simpa using hj2) (by rw[show k+1+j=k+(j+1) by omega];exact ho')
    rwa [show k+1+j=k+(j+1) by omega] at this
  ·rw[e,List.length_cons,eQ,hd]
   exact h4
 | o::M,c::fr,k,L,L2,hM,⟨A,hA1,hA2,hA3,hr⟩=>by
  have h0:ops[k]?=some o:=by simpa using hM 0 (by simp)
  have hd:aR ops k=o.dst:=by simp[aR,h0]
  obtain⟨As,h1,h2,h3,h5,h4⟩:=rz M fr (k+1) _ _ (fun j hj=>by
   have:=hM (j+1) (by simpa using hj)
   rw[show k+1+j=k+(j+1) by omega]
   simpa using this) hr
  have hc1:kpQ (c::fr) 0=true↔c≠0:=by
   unfold kpQ
   cases c with
   | zero=>simp
   | succ n=>exact⟨fun _=>Nat.succ_ne_zero n,fun _=>rfl⟩
  have hc2:frQ (c::fr) 0=true↔c=1:=by
   unfold frQ
   simp[Nat.beq_eq]
  have e:(fun j=>if kpQ (c::fr) j=true∨(c::fr).length≤j then eP A As j else Any)=eP (if c≠0 then A else Any) (fun j=>if kpQ fr j=true∨fr.length≤j then As j else Any):=by
   funext j
   cases j with
   | zero=>
    show (if kpQ (c::fr) 0=true∨fr.length+1≤0 then A else Any)=(if c≠0 then A else Any)
    have:¬fr.length+1≤0:=by omega
    simp[this,hc1]
   | succ j=>
    show (if kpQ fr j=true∨fr.length+1≤j+1 then As j else Any)=_
    simp[eP]
  refine⟨eP A As,by simp only[List.length_cons];omega,?_,?_,?_,?_⟩
  ·intro j o' hj ho'
   cases j with
   | zero=>
    rw[Nat.add_zero,h0] at ho'
    obtain rfl:=Option.some.inj ho'
    exact⟨fun h=>hA1 fun hc=>(by rw[hc2.2 hc] at h;cases h),fun h=>hA2 (hc2.1 h),fun h=>hA3 (hc1.1 h)⟩
   | succ j=>
    rw[eQ,hd]
    exact h2 j o' (by simpa using hj) (by rw[show k+1+j=k+(j+1) by omega];exact ho')
  ·intro o' ho'
   rw[List.length_cons,eQ,hd]
   exact h3 o' (by rw[show k+1+fr.length=k+(fr.length+1) by omega];exact ho')
  ·intro j o' hj hj2 ho'
   rw[e]
   cases j with
   | zero=>simp at hj
   | succ j=>
    rw[eQ,hd]
    have:=h5 j o' (by simpa using hj) (by simpa using hj2) (by rw[show k+1+j=k+(j+1) by omega];exact ho')
    rwa [show k+1+j=k+(j+1) by omega] at this
  ·rw[e,List.length_cons,eQ,hd]
   exact h4

structure zT (ops:Array Oper)(m x:Nat)(kp:Nat→Bool)(S:World→World→Prop)(F:World→Prop)(n:Nat)(ds:List Deferred)(w0:World)(L:Env)(As:Nat→VA)(listed:Array Bool)(a:Act)(w:World):Prop where
 ext:S w0 w
 pre:listed.getD x true=false→Ext w0 w
 post:listed.getD x false=true→F w
 size:a.tmps.size=n
 defers:a.defers=ds
 hL:∀t A,aC L t=some A→(∀j,j<m→aR ops j≠some t)→A.p (a.eval (.tmp t)) w
 hA:∀i,i<m→listed.getD i false=true→(listed.getD x true=false∨kp i=true∨x≤i)→∀d,aR ops i=some d→(As i).p (a.eval (.tmp d)) w

theorem rA {m x:Nat}{fr kp pf:Nat→Bool}{S:World→World→Prop}(hR:cR S){F:World→Prop}(hx0:x<m)(hFst:∀w w',Ext w w'→F w→F w'){L:Env}{As:Nat→VA}(hm:m≤ops.size)(hchk:∀i,i<m→eD ops m n i=true)(hchk2:∀i,m≤i→i<ops.size→dO ops i=true)
  (hanc:∀j,j<x→fr j=false→fe ops 12 x j=true) (hpo:∀j,x<j→j<m→pf j=true∨fe ops 12 j x=true) (hpk:∀j o,x<j→j<m→ops[j]?=some o→pf j=true→StJ S (As j)) (hfk:∀j,fr j=true→kp j=true)
  (hfree:∀i o,i<x→fr i=true→ops[i]?=some o→∀t,(t∈dD o∨cx ops o=some t)→∀j,j<m→aR ops j=some t→kp j=true∧j≠x)
  (hopsP:∀j o,x<j→j<m→ops[j]?=some o→∀w1,S w0 w1→(pf j=true∨F w1)→GOp P ops w1 (aV ops L (fun j=>if kp j=true∨x≤j then As j else Any) 0 j) o (As j))
  (hops:∀j o,j<x→ops[j]?=some o→(fr j=false→GOp P ops w0 (aV ops L As 0 j) o (As j))∧(fr j=true→∀w1,S w0 w1→GOp P ops w1 (aV ops L As 0 j) o (As j))∧(kp j=true→StJ S (As j)))
  (hX:∀o,ops[x]?=some o→o.guard=none∧eR P w0 S F (aV ops L As 0 x) o (As x)) (hLav:fB S L)
  (hend:∀a w,S w0 w→F w→FrD n ds a w (aV ops L (fun j=>if kp j=true∨x≤j then As j else Any) 0 m)→wpListIn (FW r) 0 P ops Q (ops.toList.drop m) a w) :
  ∀(c:Nat) (listed:Array Bool) (a:Act) (w:World),(List.range m).countP (fun i => !listed.getD i true)=c→listed.size=ops.size →
   (∀j,m≤j→j<ops.size→listed.getD j true=false)→LD ops listed→zT ops m x kp S F n ds w0 L As listed a w→wpAnyIn (FW r) 0 P .any ops Q (c+(ops.size - m)) listed a w
 | 0,listed,a,w,hc,hsz,hun,hld,hi=>by
  have hall:∀j,j<m→listed.getD j false=true:=by
   intro j hj
   have:=(List.countP_eq_zero.1 hc) j (List.mem_range.2 hj)
   have hjl:j<listed.size:=by omega
   simpa[hjl] using this
  rw[Nat.zero_add]
  refine iL m hchk2 (ops.size - m) m (by omega) (Nat.le_refl _) listed a w hall hun hsz hld (hend a w hi.ext (hi.post (hall x hx0)) ⟨hi.size,hi.defers,fun t A ht=>?_⟩)
  rcases eE L _ t A m ht with ⟨j,hj,hd,rfl⟩|⟨hn,hl⟩
  ·by_cases hk:kp j=true∨x≤j
   ·rw[if_pos hk]
    exact hi.hA j hj (hall j hj) (.inr hk) t hd
   ·rw[if_neg hk];trivial
  ·exact hi.hL t A hl hn
 | c+1,listed,a,w,hc,hsz,hun,hld,hi=>by
  have facts:∀i o,i<m→ops[i]?=some o→(∀e∈o.after,Region.binds .any e=true→e.on<i)∧(∀d,o.dst=some d→d<n) ∧
    (∀t,t∈dD o∨cx ops o=some t→∀j,j<m→aR ops j=some t→bnd ops i j=true)∧(∀j,j<m→j≠i→∀d,o.dst=some d→aR ops j≠some d):=by
   intro i o hlt ho
   have:=hchk i hlt
   simp only[eD,ho,Bool.and_eq_true,Array.all_eq_true_iff_forall_mem,Bool.or_eq_true,Bool.not_eq_true',List.all_eq_true,List.mem_range,List.mem_append,Option.mem_toList] at this
   obtain⟨⟨⟨h1,h2⟩,h3⟩,h4⟩:=this
   refine⟨fun e he hb=>?_,fun d hd=>?_,fun t ht j hj hd=>?_,fun j hj hne d hd hd'=>?_⟩
   ·rcases h1 e he with h|h
    ·rw[hb] at h;cases h
    ·simpa[Nat.blt_eq] using h
   ·simpa[hd,Nat.blt_eq] using h2
   ·have:=h3 t ht j hj
    rcases this with h|h
    ·rw[hd] at h;simp at h
    ·exact h
   ·have:=h4 j hj
    rcases this with h|h
    ·exact hne (Nat.eq_of_beq_eq_true h)
    ·rw[hd,hd'] at h;simp at h
  have prog:∃i,i<m∧listed.getD i true=false∧∀j,j<i→listed.getD j true=true:=by
   have hex:∃i,i<m∧listed.getD i true=false:=by
    have hpos:0<(List.range m).countP (fun i => !listed.getD i true):=by omega
    obtain⟨i,hi,hb⟩:=List.countP_pos_iff.1 hpos
    exact⟨i,List.mem_range.1 hi,by simpa using hb⟩
   obtain⟨i,hlt,hb⟩:=hex
   induction i using Nat.strongRecOn with
   | _ i ih=>
    by_cases h:∃j,j<i∧listed.getD j true=false
    ·obtain⟨j,hj,hjb⟩:=h
     exact ih j hj (by omega) hjb
    ·refine⟨i,hlt,hb,fun j hj=>?_⟩
     cases hjb:listed.getD j true with
     | true=>rfl
     | false=>exact absurd ⟨j,hj,hjb⟩ h
  obtain⟨i0,hi0,hu0,hbelow⟩:=prog
  have hready:i0∈Region.ready .any ops listed:=by
   have ho:ops[i0]?=some (ops[i0]'(by omega)):=by simp
   refine mem_ready.2 ⟨hu0,_,ho,fun e he hb=>?_⟩
   have hlt:=(facts i0 _ hi0 ho).1 e he hb
   have:=hbelow _ hlt
   have hjl:e.on<listed.size:=by omega
   simpa[hjl] using this
  rw[show c+1+(ops.size - m)=(c+(ops.size - m))+1 by omega]
  refine⟨fun h0=>(by rw[h0] at hready;cases hready),fun i hir=>?_⟩
  obtain⟨hu,o,ho,hall⟩:=mem_ready.1 hir
  have hilt:i<ops.size:=(Array.getElem?_eq_some_iff.1 ho).1
  have listed_of_bnd:∀j,bnd ops i j=true→listed.getD j false=true:=by
   intro j hb
   simp only[bnd,ho] at hb
   obtain⟨e,he,hb⟩:=Array.any_eq_true'.1 hb
   simp only[Bool.and_eq_true] at hb
   have:=hall e he hb.1
   rwa [Nat.eq_of_beq_eq_true hb.2] at this
  have him:i<m:=by
   rcases Nat.lt_or_ge i m with h|h
   ·exact h
   ·have hc:=hchk2 i h hilt
    simp only[dO,ho,Bool.and_eq_true,List.all_eq_true,List.mem_range] at hc
    have:=cov hld 12 i i0 (hc.2 i0 (by omega)) (fun o' ho' e he hb=>by
     rw[ho] at ho'
     obtain rfl:=Option.some.inj ho'
     exact hall e he hb)
    rw[ff hu0] at this
    cases this
  obtain⟨f1,f2,f3,f4⟩:=facts i o him ho
  have hlx:x<i→pf i=true∨listed.getD x false=true:=fun hxi=>(hpo i hxi him).imp id fun hco=>cov hld 12 i x hco (fun o' ho' e he hb=>by
   rw[ho] at ho'
   obtain rfl:=Option.some.inj ho'
   exact hall e he hb)
  have hxun:i<x→fr i=false→listed.getD x true=false:=by
   intro hix hfr
   cases hlx:listed.getD x true with
   | false=>rfl
   | true=>
    have hxl:x<listed.size:=by omega
    have hlx':listed.getD x false=true:=by simpa[hxl] using hlx
    have:=cov hld 12 x i (hanc i hix hfr) (fun o' ho' e he hb=>hld x o' hlx' ho' e he hb)
    rw[ff hu] at this
    cases this
  have hcond:i≤x→∀j,j<m→(∃t,(t∈dD o∨cx ops o=some t)∧aR ops j=some t)→(listed.getD x true=false∨kp j=true∨x≤j):=by
   rintro hix0 j hj ⟨t,ht,hd⟩
   by_cases hix:i=x
   ·exact .inl (hix▸hu)
   ·cases hfr:fr i with
    | true=>exact .inr (.inl ((hfree i o (by omega) hfr ho t ht j hj hd).1))
    | false=>exact .inl (hxun (by omega) hfr)
  have byLook:i≤x→∀t,(t∈dD o∨cx ops o=some t)→∀B,aC (aV ops L As 0 i) t=some B→B.p (a.eval (.tmp t)) w:=by
   intro hix t ht B hB
   rcases eE L As t B i hB with ⟨j,hj,hd,rfl⟩|⟨hn,hl⟩
   ·exact hi.hA j (by omega) (listed_of_bnd j (f3 t ht j (by omega) hd)) (hcond hix j (by omega) ⟨t,ht,hd⟩) t hd
   ·refine hi.hL t B hl fun j hj hd=>?_
    have hb:=f3 t ht j hj hd
    simp only[bnd,ho] at hb
    obtain⟨e,he,hb⟩:=Array.any_eq_true'.1 hb
    simp only[Bool.and_eq_true] at hb
    have hlt:=f1 e he hb.1
    rw[Nat.eq_of_beq_eq_true hb.2] at hlt
    exact hn j hlt hd
  have byLookP:∀t,(t∈dD o∨cx ops o=some t)→∀B,aC (aV ops L (fun j=>if kp j=true∨x≤j then As j else Any) 0 i) t=some B→B.p (a.eval (.tmp t)) w:=by
   intro t ht B hB
   rcases eE L _ t B i hB with ⟨j,hj,hd,rfl⟩|⟨hn,hl⟩
   ·by_cases hk:kp j=true∨x≤j
    ·rw[if_pos hk]
     exact hi.hA j (by omega) (listed_of_bnd j (f3 t ht j (by omega) hd)) (.inr hk) t hd
    ·rw[if_neg hk];trivial
   ·refine hi.hL t B hl fun j hj hd=>?_
    have hb:=f3 t ht j hj hd
    simp only[bnd,ho] at hb
    obtain⟨e,he,hb⟩:=Array.any_eq_true'.1 hb
    simp only[Bool.and_eq_true] at hb
    have hlt:=f1 e he hb.1
    rw[Nat.eq_of_beq_eq_true hb.2] at hlt
    exact hn j hlt hd
  have ops1:i≤x→∀x∈o.op.operands,∀B,opd (aV ops L As 0 i) x=some B→B.p (a.eval x) w:=fun hix x hx B hB=>by
   cases x with
   | tmp t=>exact byLook hix t (.inl (List.mem_filterMap.2 ⟨.tmp t,by simpa using hx,rfl⟩)) B hB
   | const v=>simp[opd] at hB;subst hB;rfl
   | global g=>simp[opd] at hB;subst hB;rfl
   | func f=>simp[opd] at hB;subst hB;rfl
  have ops2:∀x'∈o.op.operands,∀B,opd (aV ops L (fun j=>if kp j=true∨x≤j then As j else Any) 0 i) x'=some B→B.p (a.eval x') w:=fun x' hx B hB=>by
   cases x' with
   | tmp t=>exact byLookP t (.inl (List.mem_filterMap.2 ⟨.tmp t,by simpa using hx,rfl⟩)) B hB
   | const v=>simp[opd] at hB;subst hB;rfl
   | global g=>simp[opd] at hB;subst hB;rfl
   | func f=>simp[opd] at hB;subst hB;rfl
  have hdst:aR ops i=o.dst:=by simp[aR,ho]
  have step:∀v w',S w w'→(i≠x→Ext w w')→(i=x→∀j,j<x→kp j=true→StJ S (As j))→(As i).p v w'→(i=x→F w')→wpAnyIn (FW r) 0 P .any ops Q (c+(ops.size - m)) (listed.setIfInBounds i true) (a.put o.dst v) w':=by
   intro v w' hx hxe hxa hv hvF
   have stab:∀(A:VA) u,StJ S A→A.p u w→A.p u w':=fun A u hA h=>hA.av _ _ _ hx h
   refine rA hR hx0 hFst hm hchk hchk2 hanc hpo hpk hfk hfree hopsP hops hX hLav hend c _ _ _ ?_ (by simpa using hsz) ?_ ?_ ?_
   ·have:=jM m (fun j => !listed.getD j true) (fun j => !(listed.setIfInBounds i true).getD j true) i him (by simp only[hu,Bool.not_false])
     (by
       have hjl:i<listed.size:=by omega
       simp[hjl]) (fun j hj=>by simp only[getD_set_ne true (Ne.symm hj)])
    omega
   ·intro j hj hj'
    rw[getD_set_ne true (by omega)]
    exact hun j hj hj'
   ·exact hld.set fun o' ho' e he hb=>by
     rw[ho] at ho'
     obtain rfl:=Option.some.inj ho'
     exact hall e he hb
   ·refine⟨hR.tr hi.ext hx,fun hl=>?_,fun hl=>?_,by simp[hi.size],by simp[hi.defers],fun t A ht hn=>?_,fun j hj hl hcj d hd=>?_⟩
    ·have hix:i≠x:=by
      rintro rfl
      have hjl:i<listed.size:=by omega
      simp[hjl] at hl
     rw[getD_set_ne true hix] at hl
     exact Ext.tr (hi.pre hl) (hxe hix)
    ·by_cases hix:i=x
     ·exact hvF hix
     ·rw[getD_set_ne false hix] at hl
      exact hFst _ _ (hxe hix) (hi.post hl)
    ·have h0:=stab A _ ⟨hLav.av t A ht⟩ (hi.hL t A ht hn)
     cases hod:o.dst with
     | none=>exact h0
     | some d=>
      have:d≠t:=fun e=>hn i him (by rw[hdst,hod,e])
      rw[fc this]
      exact h0
    ·by_cases hji:j=i
     ·subst hji
      rw[hdst] at hd
      rw[hd,iK (by rw[hi.size];exact f2 d hd)]
      exact hv
     ·have hl':listed.getD j false=true:=by rwa [getD_set_ne false (Ne.symm hji)] at hl
      have hcj':listed.getD x true=false∨kp j=true∨x≤j:=by
       by_cases hix:i=x
       ·exact .inl (hix▸hu)
       ·rw[getD_set_ne true hix] at hcj
        exact hcj
      have h1:=hi.hA j hj hl' hcj' d hd
      have h0:(As j).p (a.eval (.tmp d)) w':=by
       by_cases hix:i=x
       ·rcases Nat.lt_trichotomy j x with hjx|h|h
        rotate_left
        ·exact absurd (h.trans hix.symm) hji
        ·rcases hpo j h hj with hp|hp
         ·exact stab _ _ (hpk j (ops[j]'(by omega)) h hj (by simp) hp) h1
         ·have:=cov hld 12 j x hp (fun o' ho' e he hb=>hld j o' hl' ho' e he hb)
          rw[ff (hix▸hu)] at this
          cases this
        refine stab _ _ (hxa hix j hjx ?_) h1
        rcases hcj with h|h|h
        ·have hxl:x<listed.size:=by omega
         subst hix
         simp[hxl] at h
        ·exact h
        ·omega
       ·exact (As j).st _ _ _ (hxe hix) h1
      cases hod:o.dst with
      | none=>exact h0
      | some d'=>
       have:d'≠d:=fun e=>f4 j hj hji d' hod (by rw[hd,e])
       rw[fc this]
       exact h0
  unfold wpOpIn
  simp only[ho]
  by_cases hix:i=x
  ·obtain⟨hgd,hxo⟩:=hX o (hix▸ho)
   have hw:Region.wanted o (yielded ops a.tmps)=true:=by unfold Region.wanted;rw[hgd]
   rw[if_pos hw]
   have hpre:Ext w0 w:=hi.pre (hix▸hu)
   exact (hxo.out a.eval w hpre (hix▸ops1 (Nat.le_of_eq hix))).wp fun v w' hv=>step v w' hv.1 (fun h=>absurd hix h) (fun _ j hj=>by
    have hoj:ops[j]?=some (ops[j]'(by omega)):=by simp
    exact fun hfj=>(hops j _ hj hoj).2.2 hfj) (hix▸hv.2.1) (fun _=>hv.2.2)
  ·have hg:if Region.wanted o (yielded ops a.tmps) then OpR P o a.eval w (fun v w'=>Ext w w'∧(As i).p v w') else (As i).p undef w:=by
    by_cases hlt:i<x
    ·cases hfr:fr i with
     | true=>exact (hops i o hlt ho).2.1 hfr w hi.ext a w (Ext.rfl' w) (ops1 (by omega)) (fun d B hd hB=>byLook (by omega) d (.inr hd) B hB)
     | false=>exact (hops i o hlt ho).1 hfr a w (hi.pre (hxun hlt hfr)) (ops1 (by omega)) (fun d B hd hB=>byLook (by omega) d (.inr hd) B hB)
    ·exact hopsP i o (by omega) him ho w hi.ext ((hlx (by omega)).imp id hi.post) a w (Ext.rfl' w) ops2 (fun d B hd hB=>byLookP d (.inr hd) B hB)
   split
   ·rename_i hw
    rw[if_pos hw] at hg
    exact (hg.wp fun v w' hv=>step v w' (hR.ext hv.1) (fun _=>hv.1) (fun h=>absurd h hix) hv.2 (fun h=>absurd h hix))
   ·rename_i hw
    rw[if_neg hw] at hg
    exact⟨fun _ _=>trivial,step undef w (hR.ext (Ext.rfl' w)) (fun _=>Ext.rfl' _) (fun h=>absurd h hix) hg (fun h=>absurd h hix)⟩

def ng (ops:Array Oper)(m:Nat)(fr pf:List Nat):Bool:=
 Nat.blt fr.length m&&((List.range fr.length).all fun j=>frQ fr j || fe ops 12 fr.length j)&&((List.range m).all fun j=>(Nat.ble j fr.length || pf.contains j) || fe ops 12 j fr.length) &&
 ((
   List.range fr.length).all fun i => !frQ fr i || match ops[i]? with
   | none=>false
   | some o=>(dD o++(cx ops o).toList).all fun t=>(List.range m).all fun j=>(match aR ops j with|some d => !Nat.beq d t|none=>true) || (kpQ fr j&&Nat.blt j fr.length))
abbrev zU (ops:Array Oper)(m:Nat)(fr:List Nat):Bool:=ng ops m fr []
theorem zV {id:Nat}{ops:Array Oper}{L:Env}{a:Act}{w:World}(m:Nat)(fr pf:List Nat)(S:World→World→Prop)(hR:cR S)(F:World→Prop)(hFst:∀w w',Ext w w'→F w→F w')(hmix:P.follows .mixedOrders=true)(hf:FrD n ds a w L)[hL:fB S L](hchk:chk ops m n=true)(hchkZ:ng ops m fr pf=true)
  (h:ey P ops w S F pf 0 fr (ops.toList.take m) (fun L'=>∀a' w',S w w'→F w'→FrD n ds a' w' L'→wpListIn (FW r) 0 P ops Q (ops.toList.drop m) a' w') L L):(Code.region id ops true).wpIn (FW r) 0 P Q a w:=by
 simp only[chk,Bool.and_eq_true,List.all_eq_true,List.mem_range,Bool.or_eq_true,Nat.ble_eq] at hchk
 obtain⟨⟨hm,h1⟩,h2⟩:=hchk
 refine wpIn_region_any hmix ?_
 have hlen:(ops.toList.take m).length=m:=by simp;omega
 obtain⟨As,hfl,hAs,hX,hPo,hK⟩:=rz (ops:=ops) (ops.toList.take m) fr 0 L L (fun j hj=>by
  rw[hlen] at hj
  rw[Nat.zero_add,List.getElem?_take,if_pos hj];simp) h
 rw[hlen] at hK hfl hPo
 simp only[ng,Bool.and_eq_true,List.all_eq_true,List.mem_range,Bool.or_eq_true,Nat.blt_eq,Nat.ble_eq] at hchkZ
 obtain⟨⟨⟨hx,z1⟩,z3⟩,z2⟩:=hchkZ
 have hext:Ext w { w with drawn:=w.drawn+1 }:=Ext.drew w
 have:=rA (P:=P) (ops:=ops) (Q:=Q) (w0:=w) (n:=n) (ds:=ds) (m:=m) (x:=fr.length) (fr:=frQ fr) (kp:=kpQ fr) (pf:=pf.contains) (S:=S) (F:=F) (r:=r) (L:=L) (As:=As) hR hx hFst hm h1 (fun i hi hi'=>by
   rcases h2 i hi' with h|h
   ·simp only[Nat.blt_eq] at h;omega
   ·exact h) (fun j hj hfj=>by
   rcases z1 j hj with h|h
   ·rw[hfj] at h;cases h
   ·exact h) (fun j hj hjm=>by
   rcases z3 j hjm with (h|h)|h
   ·omega
   ·exact .inl h
   ·exact .inr h) (fun j o hj hjm ho hp=>(hPo j o hj hjm (by simpa using ho)).2 (by simpa using hp)) (fun j h=>by
   unfold frQ at h
   unfold kpQ
   rw[Nat.eq_of_beq_eq_true h];rfl) (fun i o hi hfi ho t ht j hj hd=>by
   have:=z2 i hi
   rw[hfi,ho] at this
   simp only[Bool.not_true,Bool.false_eq_true,false_or,List.all_eq_true,List.mem_append,Option.mem_toList,List.mem_range,Bool.or_eq_true] at this
   rcases this t ht j hj with h|h
   ·rw[hd] at h;simp at h
   ·rw[Bool.and_eq_true,Nat.blt_eq] at h
    exact⟨h.1,by omega⟩) (fun j o hj hjm ho w1 a b=>(hPo j o hj hjm (by simpa using ho)).1 w1 a (by simpa using b)) (fun j o hj ho=>hAs j o hj (by simpa using ho)) (fun o ho=>hX o (by simpa using ho)) hL (fun a w hx hF hf=>hK a w hx hF hf) m
  (Array.replicate ops.size false) a { w with drawn:=w.drawn+1 } ?_ (by simp) ?_ ?_ ⟨hR.ext hext,fun _=>hext,fun hl=>?_,hf.size,hf.defers,fun t A ht _=>A.st _ _ _ hext (hf.val t A ht),fun i hi hl=>?_⟩
 ·rwa [show m+(ops.size - m)=ops.size by omega] at this
 ·have:(List.range m).countP (fun i => !(Array.replicate ops.size false).getD i true)=(List.range m).length:=by
   refine List.countP_eq_length.2 fun i hi=>?_
   have:=List.mem_range.1 hi
   have hlt:i<ops.size:=by omega
   simp[hlt]
  simpa using this
 ·intro j _ hj
  simp[hj]
 ·intro i o hl
  have:(Array.replicate ops.size false).getD i false=false:=by
   by_cases hlt:i<ops.size <;> simp[hlt]
  rw[this] at hl;cases hl
 ·have:(Array.replicate ops.size false).getD fr.length false=false:=by
   by_cases hlt:fr.length<ops.size <;> simp[hlt]
  rw[this] at hl;cases hl
 ·have:(Array.replicate ops.size false).getD i false=false:=by
   by_cases hlt:i<ops.size <;> simp[hlt]
  rw[this] at hl;cases hl
theorem fD {id:Nat}{ops:Array Oper}{L:Env}{a:Act}{w:World}(m:Nat)(fr:List Nat)(S:World→World→Prop)(hR:cR S)(F:World→Prop)(hFst:∀w w',Ext w w'→F w→F w')(hmix:P.follows .mixedOrders=true)(hf:FrD n ds a w L)[hL:fB S L](hchk:chk ops m n=true)(hchkZ:zU ops m fr=true)
  (h:ey P ops w S F [] 0 fr (ops.toList.take m) (fun L'=>∀a' w',S w w'→F w'→FrD n ds a' w' L'→wpListIn (FW r) 0 P ops Q (ops.toList.drop m) a' w') L L):(Code.region id ops true).wpIn (FW r) 0 P Q a w:=zV m fr [] S hR F hFst hmix hf hchk hchkZ h
end
section
variable {P:Program}{w0:World}{L L2:Env}{ty:TypeId}{pos:String}{aft:Array Edge}
variable {ops:Array Oper}{rest:List Oper}{K:Env→Prop}{A:VA}{op:Op}{dd:Nat}{S:World→World→Prop}{F:World→Prop}{fr pf:List Nat}{kk:Nat}
theorem jf (h:∀w1,S w0 w1→OpC P w1 L ⟨some dd,op,ty,pos,aft,none⟩ A)[hA:StJ S A](k:ey P ops w0 S F pf (kk+1) fr rest K ((dd,A)::L) ((dd,A)::L2)):ey P ops w0 S F pf kk (1::fr) (⟨some dd,op,ty,pos,aft,none⟩::rest) K L L2:=
 ⟨A,fun h=>absurd rfl h,fun _ w1 h1 a w he hv _=>by simp only[Region.wanted,if_true];exact (h w1 h1).out _ w he hv,fun _=>hA,k⟩
theorem ja (h:OpC P w0 L ⟨some dd,op,ty,pos,aft,none⟩ A)(k:ey P ops w0 S F pf (kk+1) fr rest K ((dd,A)::L) ((dd,Any)::L2)):ey P ops w0 S F pf kk (0::fr) (⟨some dd,op,ty,pos,aft,none⟩::rest) K L L2:=
 ⟨A,fun _ a w he hv _=>by simp only[Region.wanted,if_true];exact h.out _ w he hv,fun h=>(by cases h),fun h=>absurd rfl h,k⟩
theorem jk (h:OpC P w0 L ⟨some dd,op,ty,pos,aft,none⟩ A)[hA:StJ S A](k:ey P ops w0 S F pf (kk+1) fr rest K ((dd,A)::L) ((dd,A)::L2)):ey P ops w0 S F pf kk (2::fr) (⟨some dd,op,ty,pos,aft,none⟩::rest) K L L2:=
 ⟨A,fun _ a w he hv _=>by simp only[Region.wanted,if_true];exact h.out _ w he hv,fun h=>(by cases h),fun _=>hA,k⟩
theorem jx {d:Option Nat}(h:eR P w0 S F L ⟨d,op,ty,pos,aft,none⟩ A)(k:gM P ops w0 S F pf (kk+1) rest K (push d A L2)):ey P ops w0 S F pf kk [] (⟨d,op,ty,pos,aft,none⟩::rest) K L L2:=⟨rfl,A,h,k⟩
theorem jp (h:∀w1,S w0 w1→F w1→OpC P w1 L2 ⟨some dd,op,ty,pos,aft,none⟩ A)(k:gM P ops w0 S F pf (kk+1) rest K ((dd,A)::L2))(hk:pf.contains kk=false:=by exact rfl):gM P ops w0 S F pf kk (⟨some dd,op,ty,pos,aft,none⟩::rest) K L2:=
 ⟨A,fun w1 h1 h2 a w he hv _=>by simp only[Region.wanted,if_true];exact (h w1 h1 (h2.resolve_left (by rw[hk];decide))).out _ w he hv,fun h=>(by rw[hk] at h;cases h),k⟩
theorem je (h:K L2):gM P ops w0 S F pf kk [] K L2:=h
end
end Go.Mono
namespace Go.Mono
open Go Go.RowKit
structure ChT (N:Nat)(t:TypeId)(w w':World):Prop where
 chg:Chg (fun b=>N≤b) w w'
 oth:∀(b:Nat) (o:Obj),w.heap[b]?=some o→(∀cs m,o≠.cells cs t m)→w'.heap[b]?=some o
theorem ChT.rel (N:Nat)(t:TypeId):cR (ChT N t):=⟨fun h k=>⟨h.chg.tr k.chg,fun b o hb ho=>k.oth b o (h.oth b o hb ho) ho⟩,fun e=>⟨e.chg _,fun b o hb ho=>(e.block b (Array.getElem?_eq_some_iff.1 hb).1).trans hb⟩⟩
theorem Blk.chT {N:Nat}{t:TypeId}{w w':World}{b:Nat}{cs:Array Value}{t':TypeId}(h:Blk w b cs t')(k:ChT N t w w')(hne:t'≠t):Blk w' b cs t':=k.oth b _ h fun cs m hh=>hne (by cases hh;rfl)
instance (N:Nat)(t:TypeId){α:Type}(e:Enc α)(G:Nat→Prop)(x:α)[h:InS G (fun b=>N≤b)]:StJ (ChT N t) (Dv e G x):=⟨fun v w w' k h1=>Dv.ch h1 k.chg h.in'⟩
instance (N:Nat):InS (fun b=>N≤b) (fun b=>N≤b):=⟨fun _ h=>h⟩
theorem zW {N:Nat}{t t':TypeId}(B:Nat)(z:Value)(hne:t'≠t):StJ (ChT N t) (AlA B z t'):=⟨fun v w w' k ⟨b,h1,h2,h3⟩=>⟨b,h1,h2,h3.chT k hne⟩⟩
theorem xst {P:Program}{w0:World}{L:Env}{ty:TypeId}{pos:String}{aft:Array Edge}{x y:Operand}{t:TypeId}{N B s:Nat}{z:Value}{A:VA}(ht:TI P t true s)(hx:opd L x=some (AlA B z t))(hN:N≤B)(hz:z.cells.size=s)
  (hy:opd L y=some A) (hA:∀v w,A.p v w→∃cs,v=.agg cs∧cs.size=s∧cs.all (·.oneCell')=true):eR P w0 (ChT N t) (fun _=>True) L ⟨none,.store t x y,ty,pos,aft,none⟩ Any:=by
 refine⟨fun ρ w he hv=>?_⟩
 obtain⟨b,hb,hxv,hB⟩:=hv x (by simp[Op.operands]) _ hx
 obtain⟨cs,hyv,hcs,h1⟩:=hA _ _ (hv y (by simp[Op.operands]) _ hy)
 have hc:(Value.agg cs).cells=cs:=rfl
 have hrun:=run_storeCells_at (P:=P) b 0 t cs.toList 0 z.cells w hB (by simp;omega) (fun v hv=>by rw[Array.all_eq_true_iff_forall_mem] at h1;exact h1 v (by simpa using hv))
 have hrun2:OpR P ⟨none,.store t x y,ty,pos,aft,none⟩ ρ w (fun _ w'=>w'=w.setRow b (z.cells.toList.take 0++cs.toList++z.cells.toList.drop (0+s)).toArray):=by
  simp[OpR,execOp,Instr.storeAt,Instr.sureAddr,hxv,hyv,storeVar,hc,ht.size,hcs,hrun]
 refine hrun2.mono ?_
 rintro v w' rfl
 have hg:=eG w b (z.cells.toList.take 0++cs.toList++z.cells.toList.drop (0+s)).toArray
 refine⟨⟨⟨hg.os,hg.tape,hg.output,hg.size,fun k hk hn=>hg.block k hk fun hh=>hn (by cases hh;omega)⟩,fun c o hc ho=>?_⟩,trivial,trivial⟩
 have hcb:c≠b:=by
  rintro rfl
  rw[hB] at hc
  cases hc
  exact ho _ _ rfl
 exact (hg.block c (Array.getElem?_eq_some_iff.1 hc).1 fun hh=>hcb (by cases hh;rfl)).trans hc
instance (S:World→World→Prop){P:Program}{α β:Type}[DecidableEq α](V:KV P α β)(l:List (α×β))(i:α)(z:β):StJ S (rl V l i z):=⟨fun _ _ _ _ h=>h⟩
instance (S:World→World→Prop)(A B:VA)[hA:StJ S A][hB:StJ S B]:StJ S (Tup [A,B]):=⟨fun v w w' k ⟨vs,h1,h2,h3⟩=>⟨vs,h1,h2,fun i C hC=>by
 have h4:=h3 i C hC
 match i,hC with
 | 0,hC=>simp at hC;subst hC;exact hA.av _ _ _ k h4
 | 1,hC=>simp at hC;subst hC;exact hB.av _ _ _ k h4⟩⟩
instance {S:Nat→Prop}{A:VA}[h:AvS S A]:StJ (Chg S) A:=⟨h.av⟩
instance {S:Nat→Prop}{L:Env}[h:fU S L]:fB (Chg S) L:=⟨h.av⟩
theorem cR.chg (S:Nat→Prop):cR (Chg S):=⟨fun h k=>h.tr k,fun e=>e.chg _⟩
theorem cR.one (b:Nat):cR (Chg fun c=>c=b):=⟨fun h k=>h.tr k,fun e=>e.chg _⟩
instance (b:Nat){α:Type}(e:Enc α)(G:Nat→Prop)(x:α)[h:InR G (some b)]:StJ (Chg fun c=>c=b) (Dv e G x):=⟨fun v w w' k h1=>Dv.ch h1 k fun c hc=>h.in' c (by rw[hc])⟩
theorem zX {P:Program}{w0:World}{L:Env}{ty:TypeId}{pos:String}{aft:Array Edge}{x y:Operand}{t bt:TypeId}{b s:Nat}{cs0:Array Value}{A:VA}(ht:TI P t true s)(hx:opd L x=some (E (.pointer (some ⟨b,0,none⟩))))(hB:Blk w0 b cs0 bt)(hz:cs0.size=s)
  (hy:opd L y=some A) (hA:∀v w,A.p v w→∃cs,v=.agg cs∧cs.size=s∧cs.all (·.oneCell')=true) (hst:∀v w w',Chg (fun c=>c=b) w w'→A.p v w→A.p v w') :
  eR P w0 (Chg fun c=>c=b) (fun w'=>∃cs,Blk w' b cs bt∧A.p (.agg cs) w') L ⟨none,.store t x y,ty,pos,aft,none⟩ Any:=by
 refine⟨fun ρ w he hv=>?_⟩
 have hxv:ρ x=.pointer (some ⟨b,0,none⟩):=hv x (by simp[Op.operands]) _ hx
 have hAy:=hv y (by simp[Op.operands]) _ hy
 obtain⟨cs,hyv,hcs,h1⟩:=hA _ _ hAy
 have hB':=hB.ext he
 have hc:(Value.agg cs).cells=cs:=rfl
 have hrun:=run_storeCells_at (P:=P) b 0 bt cs.toList 0 cs0 w hB' (by simp;omega) (fun v hv=>by rw[Array.all_eq_true_iff_forall_mem] at h1;exact h1 v (by simpa using hv))
 have hfin:(cs0.toList.take 0++cs.toList++cs0.toList.drop (0+s)).toArray=cs:=by
  have:cs0.toList.drop (0+s)=[]:=by rw[List.drop_eq_nil_iff];simp;omega
  rw[this];simp
 have hrun2:OpR P ⟨none,.store t x y,ty,pos,aft,none⟩ ρ w (fun _ w'=>w'=w.setRow b (cs0.toList.take 0++cs.toList++cs0.toList.drop (0+s)).toArray):=by
  simp[OpR,execOp,Instr.storeAt,Instr.sureAddr,hxv,hyv,storeVar,hc,ht.size,hcs,hrun]
 refine hrun2.mono ?_
 rintro v w' rfl
 rw[hfin]
 have hg:=eG w b cs
 have hch:Chg (fun c=>c=b) w (w.setRow b cs):=⟨hg.os,hg.tape,hg.output,hg.size,fun k hk hn=>hg.block k hk fun hh=>hn (by cases hh;rfl)⟩
 refine⟨hch,trivial,cs,setRow_heap _ _ _ _ _ _ hB',?_⟩
 rw[← hyv]
 exact hst _ _ _ hch hAy
end Go.Mono
namespace Go.Mono
open Go Go.Proofs Go.RowKit Go.Gr
theorem bTs (id:FuncId)(caps:Array Value)(c:Int):Tryz.prog.built 186 [(0,.func (.func id) #[] caps),(1,.int .i64 c)]=some #[.func (.func id) #[] caps,.int .i64 c]:=by kernel_rfl
theorem zY {l:List (Bool×Int)}{k:Nat}{b:Bool}{c:Int}(h:∀y∈l.take k,y.1=false)(hx:l[k]?=some (b,c))(hb:b=true):fY l=c:=by
 induction l generalizing k with
 | nil=>simp at hx
 | cons y r ih=>
  cases k with
  | zero=>simp at hx;subst hx;subst hb;rfl
  | succ k=>
   have h0:=h y (by simp)
   obtain⟨y1,y2⟩:=y
   simp only at h0
   subst h0
   simp only[fY,Bool.false_eq_true,if_false]
   exact ih (fun z hz=>h z (by rw[List.take_succ_cons];exact List.mem_cons_of_mem _ hz)) (by simpa using hx)
theorem zZ {l:List (Bool×Int)}(h:∀y∈l.take l.length,y.1=false):fY l=0:=by
 rw[List.take_length] at h
 induction l with
 | nil=>rfl
 | cons y r ih=>
  have h0:=h y (by simp)
  obtain⟨y1,y2⟩:=y
  simp only at h0
  subst h0
  simp only[fY,Bool.false_eq_true,if_false]
  exact ih fun z hz=>h z (by simp[hz])
theorem a0a {m n:Int}(hm:(Lit.int .i64 m).wf=true)(hn:(Lit.int .i64 n).wf=true):(Lit.int .i64 (min m n)).wf=true∧(Lit.int .i64 (max m n)).wf=true:=by
 by_cases h:m≤n
 ·rw[Int.min_eq_left h,Int.max_eq_right h];exact⟨hm,hn⟩
 ·rw[Int.min_eq_right (by omega),Int.max_eq_left (by omega)];exact⟨hn,hm⟩
theorem rB {m n:Int}(hm:(Lit.int .i64 m).wf=true)(hn:(Lit.int .i64 n).wf=true):eKV.ok (Gr.ends m n):=a0a hm hn
theorem th0:okT (0,0):=⟨by decide,by decide⟩
theorem Blk.bo {w:World}{b:Nat}{t:TypeId}{c:Bool}(h:Blk w b #[.bool c] t):(Dv (ptE cZ) G0 (some c)).p (.pointer (some ⟨b,0,none⟩)) w:=
 Dv.pt.2 ⟨_,rfl,fun h=>h.elim,h.lt,_,rfl,fun i u hu=>by
  have:(Addr.mk b 0 none).add i=⟨b,i,none⟩:=by simp[Addr.add];intro h;exact h.symm
  rw[this,h.cell];simpa using hu⟩
instance (N B:Nat)(z:Value):StJ (ChT N 148) (AlA B z 4):=zW B z (by decide)
theorem a0b {G:Nat→Prop}{M:Nat}(g:GT)(d:DT)(v:Value)(W:World)(h:(Dv (ptE (grE M)) G (some g)).p v W)(hw:(Lit.int .i64 d.2.1).wf=true)(hw2:(Lit.int .i64 d.2.2.1).wf=true) :
  Calls Tryz.prog 96 #[v,dtV d] W (Post (E (I (bR g d))) W):=by
 refine eN [v,dtV d] [Dv (ptE (grE M)) G0 (some g),Dv dtE G0 d] Tryz.func96 Tryz.ntmps96 ?_ fun a hf=>?_
 rotate_left
 dsimp only[params,Nat.reduceAdd] at hf
 rotate_right
 ·exact arg2 (Dv.weak h fun b _ hb=>hb.elim) (Dv.dt.2 rfl)
 have e:=Ext.rfl' W
 refine seq <| ae <| fX hf rfl (by decide) (fun _ h=>h.elim) fun a w e' hf=>?_
 replace e:=e.tr e'
 refine fX hf rfl (by decide) (fun _ h=>h.elim) fun a w e' hf=>?_
 replace e:=e.tr e'
 refine tA hf rfl fun a hf=>aa ?_
 obtain⟨N,hN⟩:∃N,N=w.heap.size:=⟨_,rfl⟩
 have hNW:W.heap.size≤N:=by rw[hN];exact e.size
 replace hf:=hf.upd 2 rfl (fun v hv=>Dv.weak (G':=fun b=>N≤b) hv (fun b hb hn=>absurd hb (by omega)))
 replace hf:=hf.upd 3 rfl (fun v hv=>Dv.weak (G':=fun b=>N≤b) hv (fun b hb hn=>absurd hb (by omega)))
 have hNs:N≤w.heap.size:=Nat.le_of_eq hN
 replace hf:=hf.kp [2,3,4]
 refine seq <| fD 13 [1,1,1,1,1,1,1,1,1,1,0,2] (ChT N 148) (ChT.rel _ _) (fun w=>True) (fun w w1 k h=>trivial) Mix.mix hf (by decide +kernel) (by decide +kernel) <| jf (fun w1 h1=>ldD T28 (isR rfl)) <| jf (fun w1 h1=>fW (isR rfl)) <| jf (fun w1 h1=>aB fk rfl eH (by decide) (Fld.fst Fld.refl) (isR rfl)) <| jf (fun w1 h1=>ldD eH (isR rfl)) <| jf (fun w1 h1=>aB U53 rfl T3 (by decide) (Fld.snd (Fld.fst Fld.refl) rfl) (isR rfl)) <| jf (fun w1 h1=>ldI T3 (isR rfl)) <| jf (fun w1 h1=>kr (V:=vKV) (i:=d.2.1) (z:=(0,0)) ka (fV fM) th0 (isR rfl) rfl hw) <| jf (fun w1 h1=>mv rfl) <| jf (fun w1 h1=>aO rfl rfl) <| jf (fun w1 h1=>aO rfl rfl) <| ja (alD fM) <| jk (alD I4) <| jx (xst iO rfl hNs rfl rfl (fun v w hv=>by obtain⟨c,rfl,_⟩:=hv;exact⟨_,rfl,rfl,bY rfl rfl⟩)) ?_
 refine je <| fun a w hc HF hf=>?_
 try dsimp only[push] at hf
 obtain⟨_,⟨b6,hb6,rfl,B6⟩,hf⟩:=hf.fix 6 rfl
 replace e:=e.ch hc.chg (fun b hb=>by omega);replace hNs:=Nat.le_trans hNs hc.chg.size;clear hc
 haveI:InR (fun b=>N≤b) (some b6):=⟨fun b hb=>by cases hb;omega⟩
 replace hf:=hf.kp [2,3,4,6,22]
 refine aA T4 hf rfl rfl rfl B6 (by decide) fun w hg hsz B6 hf=>?_
 obtain⟨e,hNs⟩:=gr2 hg e hNs
 refine aa ?_
 replace B6:Blk w b6 #[.bool (inV g.1 d.2.1)] 4:=B6
 replace hf:=hf.kp [2,3,4,6]
 have hq2:=hNs
 refine seq <| fD 13 [1,1,1,1,1,1,1,1,1,1,0,2] (ChT N 148) (ChT.rel _ _) (fun w=>True) (fun w w1 k h=>trivial) Mix.mix hf (by decide +kernel) (by decide +kernel) <| jf (fun w1 h1=>ldD T28 (isR rfl)) <| jf (fun w1 h1=>fW (isR rfl)) <| jf (fun w1 h1=>aB fk rfl eH (by decide) (Fld.fst Fld.refl) (isR rfl)) <| jf (fun w1 h1=>ldD eH (isR rfl)) <| jf (fun w1 h1=>aB U53 rfl T3 (by decide) (Fld.snd (Fld.snd (Fld.fst Fld.refl) rfl) rfl) (isR rfl)) <| jf (fun w1 h1=>ldI T3 (isR rfl)) <| jf (fun w1 h1=>kr (V:=vKV) (i:=d.2.2.1) (z:=(0,0)) ka (fV fM) th0 (isR rfl) rfl hw2) <| jf (fun w1 h1=>mv rfl) <| jf (fun w1 h1=>aO rfl rfl) <| jf (fun w1 h1=>aO rfl rfl) <| ja (alD fM) <| jk (alD I4) <| jx (xst iO rfl hNs rfl rfl (fun v w hv=>by obtain⟨c,rfl,_⟩:=hv;exact⟨_,rfl,rfl,bY rfl rfl⟩)) ?_
 refine je <| fun a w hc HF hf=>?_
 try dsimp only[push] at hf
 obtain⟨_,⟨b8,hb8,rfl,B8⟩,hf⟩:=hf.fix 8 rfl
 have n68:b6≠b8:=by have:=B6.lt;omega
 replace e:=e.ch hc.chg (fun b hb=>by omega);replace hNs:=Nat.le_trans hNs hc.chg.size;replace B6:=B6.chT hc (by decide);clear hc
 haveI:InR (fun b=>N≤b) (some b8):=⟨fun b hb=>by cases hb;omega⟩
 replace hf:=hf.kp [2,3,4,6,8,32]
 refine aA T4 hf rfl rfl rfl B8 (by decide) fun w hg hsz B8 hf=>?_
 obtain⟨e,hNs⟩:=gr2 hg e hNs
 replace B6:=B6.gr hg n68
 refine aa ?_
 replace B8:Blk w b8 #[.bool (inV g.1 d.2.2.1)] 4:=B8
 replace hf:=hf.kp [2,3,4,6,8]
 refine seq <| fD 16 [1,1,1,1,1,1,1,1,1,1,1,1,1,0,2] (ChT N 148) (ChT.rel _ _) (fun w=>True) (fun w w1 k h=>trivial) Mix.mix hf (by decide +kernel) (by decide +kernel) <| jf (fun w1 h1=>ldD T28 (isR rfl)) <| jf (fun w1 h1=>fW (isR rfl)) <| jf (fun w1 h1=>aB fk rfl eI (by decide) (Fld.snd Fld.refl rfl) (isR rfl)) <| jf (fun w1 h1=>ldD eI (isR rfl)) <| jf (fun w1 h1=>aB U53 rfl T3 (by decide) (Fld.snd (Fld.fst Fld.refl) rfl) (isR rfl)) <| jf (fun w1 h1=>ldI T3 (isR rfl)) <| jf (fun w1 h1=>aB U53 rfl T3 (by decide) (Fld.snd (Fld.snd (Fld.fst Fld.refl) rfl) rfl) (isR rfl)) <| jf (fun w1 h1=>ldI T3 (isR rfl)) <| jf (fun w1 h1=>ar (A:=E (enV (Gr.ends d.2.1 d.2.2.1))) pN rfl rfl (fun v u w he h h'=>by cases h;cases h';exact rx d.2.1 d.2.2.1 w)) ?_
 refine jf (fun w1 h1=>kr (V:=eKV) (i:=Gr.ends d.2.1 d.2.2.1) (z:=(0,0)) iT (fV fM) th0 (isR rfl) rfl (rB hw hw2)) <| jf (fun w1 h1=>mv rfl) <| jf (fun w1 h1=>aO rfl rfl) <| jf (fun w1 h1=>aO rfl rfl) <| ja (alD fM) <| jk (alD I4) <| jx (xst iO rfl hNs rfl rfl (fun v w hv=>by obtain⟨c,rfl,_⟩:=hv;exact⟨_,rfl,rfl,bY rfl rfl⟩)) ?_
 refine je <| fun a w hc HF hf=>?_
 try dsimp only[push] at hf
 obtain⟨_,⟨b10,hb10,rfl,B10⟩,hf⟩:=hf.fix 10 rfl
 have n610:b6≠b10:=by have:=B6.lt;omega
 have n810:b8≠b10:=by have:=B8.lt;omega
 replace e:=e.ch hc.chg (fun b hb=>by omega);replace hNs:=Nat.le_trans hNs hc.chg.size;replace B6:=B6.chT hc (by decide);replace B8:=B8.chT hc (by decide);clear hc
 haveI:InR (fun b=>N≤b) (some b10):=⟨fun b hb=>by cases hb;omega⟩
 replace hf:=hf.kp [2,3,4,6,8,10,45]
 refine aA T4 hf rfl rfl rfl B10 (by decide) fun w hg hsz B10 hf=>?_
 obtain⟨e,hNs⟩:=gr2 hg e hNs
 replace B6:=B6.gr hg n610;replace B8:=B8.gr hg n810
 refine aa ?_
 replace B10:Blk w b10 #[.bool (inE g.2 d.2.1 d.2.2.1)] 4:=B10
 replace hf:=hf.keep [2,3,4,6,8,10]
 obtain⟨p2,hp2,hf⟩:=hf.fix 2 rfl
 obtain⟨p3,hp3,hf⟩:=hf.fix 3 rfl
 repeat refine seq ?_
 refine rgN 19 hf <| st (dM rfl) <| st (bK [(0,_),(1,_)] rfl (bTs _ _ _)) <| st (dM rfl) <| st (bK [(0,_),(1,_)] rfl (bTs _ _ _)) <| st (dM rfl) <| st (bK [(0,_),(1,_)] rfl (bTs _ _ _)) <| st (ig rfl rfl) <| st (bK [(0,_),(1,_)] rfl (bTs _ _ _)) <| st (rp rfl rfl rfl) <| st (bK [(0,_),(1,_)] rfl (bTs _ _ _)) <| st (ig rfl rfl) <| st (bK [(0,_),(1,_)] rfl (bTs _ _ _)) <| st (ig rfl rfl) <| st (bK [(0,_),(1,_)] rfl (bTs _ _ _)) <| st (ig rfl rfl) <| st (bK [(0,_),(1,_)] rfl (bTs _ _ _)) <| st (ko (e:=tsE Tryz.prog) (G:=G0) (zs:=tests g d) (xs:=[.tmp 47,.tmp 49,.tmp 51,.tmp 53,.tmp 55,.tmp 57,.tmp 59,.tmp 61]) mB pr rfl rfl (by decide) (by decide) rfl (fun b hb=>hb.elim)  ⟨isE rfl (Dv.ts' xj (fun w' k=>zJ d w' p3 (Dv.hp hp3 k))),isE rfl (Dv.ts' xk (fun w' k=>zK d w' p3 (Dv.hp hp3 k))),isE rfl (Dv.ts' xp (fun w' k=>zL d w' p3 (Dv.hp hp3 k))), isE rfl (Dv.ts' xq (fun w' k=>zM d w' p3 _ _ (Dv.hp hp3 k) (Dv.hp B6.bo k))),isE rfl (Dv.ts' xr (fun w' k=>zN d w' p3 _ _ _ _ (Dv.hp hp3 k) (Dv.hp B6.bo k) (Dv.hp B8.bo k))),isE rfl (Dv.ts' xu (fun w' k=>zO d w' p3 _ _ (Dv.hp hp3 k) (Dv.hp B10.bo k))), isE rfl (Dv.ts' xv (fun w' k=>zP d w' p3 _ _ (Dv.hp hp3 k) (Dv.hp B10.bo k))),isE rfl (Dv.ts' xw (fun w' k=>zQ g d M w' p3 p2 (Dv.hp hp3 k) (Dv.hp hp2 k))),trivial⟩) <| st (aF mB (isR rfl)) <| st (mv rfl) <| en fun a w e' hf=>?_
 replace e:=e.tr e'
 refine aa ?_
 obtain⟨W4,hW4⟩:∃W4,W4=w:=⟨_,rfl⟩
 have hNW4:W.heap.size≤W4.heap.size:=by rw[hW4];exact e.size
 replace hf:=hf.upd 62 rfl (fun v hv=>Dv.weak (G':=GB W4 G0) hv (fun b hb hn=>hn.elim id fun hn=>absurd hb (by rw[← hW4];omega)))
 have hNs4:W4.heap.size≤w.heap.size:=by rw[hW4];exact Nat.le_refl _
 replace hf:=hf.upd (B:=E (I (8:Nat))) 63 rfl (fun v hv=>hv)
 replace hf:=hf.keep [4,62,63,64]
 refine blk (aJ (fun r0 a w=>∃(k:Nat) ,r0=8 - k∧k≤8∧Fr 74 a w [(4,E (I 0)),(62,Dv (slE (tsE Tryz.prog)) (GB W4 G0) (tests g d)),(63,E (I (8:Nat))),(64,E (I k))]∧Ext W w∧W4.heap.size≤w.heap.size∧(∀y∈(tests g d).take k,y.1=false)) 8 ⟨0,rfl,by omega,hf,e,⟨hNs4,by simp⟩⟩ ?_)
 rintro r0 a w ⟨k,rfl,hk,hf,e,hNs4,hn⟩
 refine seq <| rgN 1 hf <| st (lss rfl rfl) <| en fun a w e' hf=>?_
 obtain⟨hNs4,e⟩:=up2 e' hNs4 e
 refine aa <| seq <| ifc hf rfl (fun hc=>ak ?_) (fun hc=>aG ?_)
 rotate_left
 rotate_left
 ·have hlt:k<8:=by have:=of_decide_eq_true hc;(try dsimp only at this);omega
  replace hf:=hf.kp [4,62,63,64]
  refine seq <| blk ?_
  have hg:=List.getElem?_eq_getElem (show k<(tests g d).length from hlt)
  generalize (tests g d)[k]'hlt=x at hg
  refine seq <| ae <| tP hf (aL mB vM (isR rfl) rfl (by omega) (hg)) fun a w e' hf=>?_
  obtain⟨hNs4,e⟩:=up2 e' hNs4 e
  refine tP hf (ldD pq (isR rfl)) fun a w e' hf=>?_
  obtain⟨hNs4,e⟩:=up2 e' hNs4 e
  obtain⟨v67,h67,hf⟩:=hf.fix 67 rfl
  obtain⟨id0,caps,rfl,hEn,hCa⟩:=Dv.ts h67
  replace hf:=hf.kp [4,62,63,64,67]
  haveI hiW:∀b,W4.heap.size≤b→∀G0,InR (GB W4 G0) (some b):=fun b hb G0=>InR.gb hb
  have e2:=Ext.rfl' w
  refine tL pr hf fun a b12 w e' hb12 hs12 B12 hf=>?_
  obtain⟨hNs4,e2,e⟩:=up3 e' hNs4 e2 e
  haveI hib:=hiW b12 (by omega)
  refine az pq hf rfl rfl (bY rfl rfl) B12 rfl rfl fun w hg' hsz B12 hf=>?_
  replace e2:=e2.gr hg' (by omega)
  have hCa':∀w',Ext w w'→Calls Tryz.prog id0 caps w' (Post (E (.bool x.1)) w'):=fun w' he=>hCa w' (Ext.tr e2 he)
  replace e:=e.gr hg' (by omega);replace hNs4:=Nat.le_trans hNs4 hg'.size;clear hg'
  refine aa ?_
  replace hf:=hf.keep [4,12,62,63,64]
  refine seq <| rgN 3 hf <| st (fA pU rfl T30 rfl) <| st ((ld1 T30 rfl (by assumption) rfl).eq ((rfl:_=Value.func (.func id0) #[] caps))) <| st (zt hEn rfl (fun w he=>hCa' w he)) <| en fun a w e' hf=>?_
  obtain⟨hNs4,e,B12⟩:=up3 e' hNs4 e B12
  refine aa <| ifc hf rfl (fun hb=>?_) (fun hb=>?_)
  ·refine seq <| rgN 2 hf <| st (fA pU rfl T32 rfl) <| st (ld1 T32 rfl (by assumption) rfl) <| en fun a w e' hf=>?_
   obtain⟨hNs4,e,B12⟩:=up3 e' hNs4 e B12
   refine tA hf rfl fun a hf=>aa <| ai <| ap rfl hf rfl ?_
   rintro _ rfl
   exact⟨_,rfl,e,(congrArg I (by rw[bR];exact (zY hn hg hb).symm))⟩
  ·refine ak <| rgN 1 hf <| st ((add rfl rfl (by omega)).eq (congrArg (Value.int .i64) (show (k:Int)+1=((k+1:Nat):Int) from rfl))) <| en fun a w e' hf=>?_
   obtain⟨hNs4,e,B12⟩:=up3 e' hNs4 e B12
   refine tP hf (mv rfl) fun a w e' hf=>?_
   obtain⟨hNs4,e,B12⟩:=up3 e' hNs4 e B12
   refine aa ?_
   replace hf:=hf.keep [4,62,63,64]
   refine⟨_,?_,k+1,rfl,by omega,hf,e,?_⟩
   ·omega
   exact⟨hNs4,kn (p:=fun y:Bool×Int=>y.1) hn hg hb⟩
 ·obtain rfl:k=8:=by have:=of_decide_eq_false hc;(try dsimp only at this);omega
  refine seq <| ae <| tA hf rfl fun a hf=>aa <| ai <| ap rfl hf rfl ?_
  rintro _ rfl
  exact⟨_,rfl,e,(congrArg I (by rw[bR,zZ (show ∀y∈(tests g d).take (tests g d).length,y.1=false from hn)]))⟩
structure GrR (w:World)(bg bv be n:Nat)(g:GT):Prop where
 blk:Blk w bg #[.map (some bv),.map (some be)] 144
 vs:MpR vKV w bv n g.1
 es:MpR eKV w be n g.2
 ne:bv≠be
theorem MpR.neB {P:Program}{α β:Type}[DecidableEq α]{V:KV P α β}{w:World}{b c n:Nat}{l:List (α×β)}{cs:Array Value}{t:TypeId}(h:MpR V w b n l)(k:Blk w c cs t):b≠c:=by
 rintro rfl
 obtain⟨D,⟨es,clock,hb,_⟩,_⟩:=h
 rw[k] at hb;cases hb
section
variable {w w':World}{bg bv be n:Nat}{g:GT}
theorem GrR.n1 (h:GrR w bg bv be n g):bv≠bg∧be≠bg:=⟨h.vs.neB h.blk,h.es.neB h.blk⟩
theorem GrR.ext (h:GrR w bg bv be n g)(e:Ext w w'):GrR w' bg bv be n g:=⟨h.blk.ext e,h.vs.ext e,h.es.ext e,h.ne⟩
instance:Ug w w' (GrR w bg bv be n g) (GrR w' bg bv be n g):=⟨fun e h=>h.ext e⟩
theorem GrR.perm (h:GrR w bg bv be n g){g':GT}(h1:g.1.Perm g'.1)(h2:g.2.Perm g'.2):GrR w bg bv be n g':=⟨h.blk,h.vs.perm h1,h.es.perm h2,h.ne⟩
theorem GrR.mono (h:GrR w bg bv be n g){m:Nat}(hm:n≤m):GrR w bg bv be m g:=⟨h.blk,h.vs.mono hm,h.es.mono hm,h.ne⟩
theorem GrR.dv (h:GrR w bg bv be n g){N:Nat}(hN:n≤N){G:Nat→Prop}(h1:¬G bg)(h2:¬G bv)(h3:¬G be):(Dv (ptE (grE N)) G (some g)).p (.pointer (some ⟨bg,0,none⟩)) w:=
 Dv.pt.2 ⟨_,rfl,h1,h.blk.lt,_,⟨_,_,rfl,⟨bv,n,rfl,h2,hN,h.vs⟩,⟨be,n,rfl,h3,hN,h.es⟩⟩,fun i u hu=>by
  have:(Addr.mk bg 0 none).add i=⟨bg,i,none⟩:=by simp[Addr.add];intro h;exact h.symm
  rw[this,h.blk.cell];simpa using hu⟩
end
theorem bGr (p q:Option Nat):Tryz.prog.built 144 [(0,.map p),(1,.map q)]=some #[.map p,.map q]:=by kernel_rfl
theorem bTh (c:Int×Int):Tryz.prog.built 148 [(0,.int .u8 c.1),(1,.int .i64 c.2)]=some #[.int .u8 c.1,.int .i64 c.2]:=by kernel_rfl
theorem a0c (W:World):Calls Tryz.prog 51 #[] W fun en w'=>∃bg bv be,en=.returned (.pointer (some ⟨bg,0,none⟩))∧Ext W w'∧W.heap.size≤bg∧W.heap.size≤bv∧W.heap.size≤be∧GrR w' bg bv be 0 ([],[]):=by
 refine enter (args:=[]) (As:=([]:List VA)) Tryz.func51 rfl Tryz.ntmps51 (Nat.le_of_ble_eq_true rfl) ?_ (fun a hf=>?_) (Nat.le_of_ble_eq_true rfl)
 ·intro i A h;simp at h
 have e:=Ext.rfl' W
 refine seq <| ae <| tA hf rfl fun a hf=>aa <| seq <| rgN 0 hf <| en fun a w e' hf=>?_
 replace e:=e.tr e';clear e'
 refine eV vKV hf (by decide) fun a b1 w e' hb1 hs1 M1 hf=>?_
 have hle1:=Nat.le_trans e.size (Nat.le_of_eq hb1.symm)
 replace e:=e.tr e';clear e'
 refine eV eKV hf (by decide) fun a b2 w e' hb2 hs2 M2 hf=>?_
 have hle2:=Nat.le_trans e.size (Nat.le_of_eq hb2.symm)
 replace e:=e.tr e';replace M1:=M1.ext e';clear e'
 refine tP hf (bK [(0,_),(1,_)] rfl (bGr (some b1) (some b2))) fun a w e' hf=>?_
 replace e:=e.tr e';replace M1:=M1.ext e';replace M2:=M2.ext e';clear e'
 refine tB hf rfl fun a b4 w v4 hv4 e' hb4 hs4 B4 hf=>?_
 cases hv4
 have hle4:=Nat.le_trans e.size (Nat.le_of_eq hb4.symm)
 replace e:=e.tr e';replace M1:=M1.ext e';replace M2:=M2.ext e';clear e'
 refine tA hf rfl fun a hf=>aa <| ai <| ap rfl hf rfl ?_
 rintro _ rfl
 exact⟨b4,b1,b2,rfl,e,hle4,hle1,hle2,B4,M1,M2,by omega⟩
theorem a0d (g:GT)(d:DT)(bg bv be n:Nat)(W:World)(hg:GrR W bg bv be n g)(hn:n<maxLen)(h1:vKV.ok d.2.1)(h2:okT d.2.2.2) :
  Calls Tryz.prog 137 #[.pointer (some ⟨bg,0,none⟩),dtV d] W fun en w'=>en=.returned (.tuple #[])∧Chg (fun b=>b=bv∨b=be) W w'∧GrR w' bg bv be (n+1) (bE g.1 d.2.1 d.2.2.2,g.2):=by
 refine eN [.pointer (some ⟨bg,0,none⟩),dtV d] [E (.pointer (some ⟨bg,0,none⟩)),E (dtV d)] Tryz.func137 Tryz.ntmps137 ?_ fun a hf=>?_
 rotate_left
 rotate_right
 ·exact arg2 rfl rfl
 have e:=Ext.rfl' W
 have BG:=hg.blk;have MV:=hg.vs;have ME:=hg.es
 refine seq <| ae <| tB hf rfl fun a b3 w v3 hv3 e' hb3 hs3 B3 hf=>?_
 obtain⟨e,BG,MV,ME⟩:=up4 e' e BG MV ME
 refine aa ?_
 cases hv3
 refine rgG 11 Mix.mix hf <| st (mv rfl) <| st (eO rfl) <| st (fA fk rfl eH rfl) <| st (ld1 eH rfl BG rfl) <| st (fA U53 rfl T3 rfl) <| st (ld1 T3 rfl B3 rfl) <| st (fA U53 rfl T5 rfl) <| st (ld1 T5 rfl B3 rfl) <| st (fA U53 rfl T3 rfl) <| st (ld1 T3 rfl B3 rfl) <| st (bK [(0,_),(1,_)] rfl (bTh d.2.2.2)) <| en fun a w e' hf=>?_
 obtain⟨e,BG,MV,ME,B3⟩:=up5 e' e BG MV ME B3
 replace hf:=hf.kp [7,9,14]
 refine dc (V:=vKV) (i:=d.2.1) (c:=d.2.2.2) ka hf rfl rfl rfl MV hn h1 h2 fun w hg' MV hf=>aa <| dG rfl hf <| ⟨rfl,(e.chg _).gr hg' (.inl (.inl rfl)),BG.gr hg' hg.n1.1.symm,MV,(ME.gr hg' (fun h=>hg.ne (by cases h;rfl))).mono (Nat.le_succ _),hg.ne⟩
theorem a0e (g:GT)(d:DT)(bg bv be n:Nat)(W:World)(hg:GrR W bg bv be n g)(hn:n<maxLen)(h1:eKV.ok (Gr.ends d.2.1 d.2.2.1))(h2:okT d.2.2.2) :
  Calls Tryz.prog 139 #[.pointer (some ⟨bg,0,none⟩),dtV d] W fun en w'=>en=.returned (.tuple #[])∧Chg (fun b=>b=bv∨b=be) W w'∧GrR w' bg bv be (n+1) (g.1,bE g.2 (Gr.ends d.2.1 d.2.2.1) d.2.2.2):=by
 refine eN [.pointer (some ⟨bg,0,none⟩),dtV d] [E (.pointer (some ⟨bg,0,none⟩)),E (dtV d)] Tryz.func139 Tryz.ntmps139 ?_ fun a hf=>?_
 rotate_left
 rotate_right
 ·exact arg2 rfl rfl
 have e:=Ext.rfl' W
 have BG:=hg.blk;have MV:=hg.vs;have ME:=hg.es
 refine seq <| ae <| tB hf rfl fun a b3 w v3 hv3 e' hb3 hs3 B3 hf=>?_
 obtain⟨e,BG,MV,ME⟩:=up4 e' e BG MV ME
 refine aa ?_
 cases hv3
 refine rgG 14 Mix.mix hf <| st (mv rfl) <| st (eO rfl) <| st (fA fk rfl eI rfl) <| st (ld1 eI rfl BG rfl) <| st (fA U53 rfl T3 rfl) <| st (ld1 T3 rfl B3 rfl) <| st (fA U53 rfl T3 rfl) <| st (ld1 T3 rfl B3 rfl) <| st (ar (A:=E (enV (Gr.ends d.2.1 d.2.2.1))) pN rfl rfl (fun v u w he h h'=>by cases h;cases h';exact rx d.2.1 d.2.2.1 w)) ?_
 refine st (fA U53 rfl T5 rfl) <| st (ld1 T5 rfl B3 rfl) <| st (fA U53 rfl T3 rfl) <| st (ld1 T3 rfl B3 rfl) <| st (bK [(0,_),(1,_)] rfl (bTh d.2.2.2)) <| en fun a w e' hf=>?_
 obtain⟨e,BG,MV,ME,B3⟩:=up5 e' e BG MV ME B3
 replace hf:=hf.kp [7,12,17]
 refine dc (V:=eKV) (i:=Gr.ends d.2.1 d.2.2.1) (c:=d.2.2.2) iT hf rfl rfl rfl ME hn h1 h2 fun w hg' ME hf=>aa <| dG rfl hf <| ⟨rfl,(e.chg _).gr hg' (.inl (.inr rfl)),BG.gr hg' hg.n1.2.symm,(MV.gr hg' (fun h=>hg.ne (by cases h;rfl))).mono (Nat.le_succ _),ME,hg.ne⟩
def ji:Array Value := #[.func (.func 137) #[] #[],.func (.func 138) #[] #[],.func (.func 139) #[] #[],.func (.func 140) #[] #[],.func (.func 141) #[] #[],.func (.func 142) #[] #[],.func (.func 143) #[] #[],.func (.func 144) #[] #[]]
theorem a0f:ji.all (·.oneCell')=true:=by decide +kernel
theorem bDe:Tryz.prog.built 156 [(0,.func (.func 137) #[] #[]),(1,.func (.func 138) #[] #[]),(2,.func (.func 139) #[] #[]),(3,.func (.func 140) #[] #[]),(4,.func (.func 141) #[] #[]),(5,.func (.func 142) #[] #[]),(6,.func (.func 143) #[] #[]),(7,.func (.func 144) #[] #[])]=some ji:=by kernel_rfl
theorem rC (W:World):Calls Tryz.prog 97 #[] W (Post (E (.agg ji)) W):=by
 refine enter (args:=[]) (As:=([]:List VA)) Tryz.func97 rfl Tryz.ntmps97 (Nat.le_of_ble_eq_true rfl) ?_ (fun a hf=>?_) (Nat.le_of_ble_eq_true rfl)
 ·intro i A h;simp at h
 dsimp only[params,Nat.reduceAdd] at hf
 have e:=Ext.rfl' W
 refine seq <| ae <| tL vG hf fun a b0 w e' hb0 hs0 B0 hf=>?_
 replace e:=e.tr e'
 refine aa <| seq <| rgN 1 hf <| st (bK [(0,_),(1,_),(2,_),(3,_),(4,_),(5,_),(6,_),(7,_)] rfl bDe) <| en fun a w e' hf=>?_
 obtain⟨e,B0⟩:=up2 e' e B0
 haveI hinr:∀G0,InR (GB W G0) (some b0):=fun G0=>InR.gb (by omega)
 refine az pn hf rfl rfl (a0f) B0 rfl (rfl) fun w hg hsz B0 hf=>?_
 replace e:=e.gr hg (by omega)
 refine aa <| ai (dP rfl pn hf rfl B0 rfl ?_)
 exact⟨_,rfl,e,rfl⟩
end Go.Mono
namespace Go.MonoD
open Go Go.RowKit Go.Mono
structure Ext (w w':World):Prop extends Below w.heap.size w w' where
 drawn:w.drawn≤w'.drawn
theorem Ext.rfl' (w:World):Ext w w:=⟨Below.refl _ _,Nat.le_refl _⟩
theorem Ext.tr {a b c:World}(h:Ext a b)(k:Ext b c):Ext a c:=⟨Below.trans h.toBelow (Below.mono k.toBelow h.size),Nat.le_trans h.drawn k.drawn⟩
instance:Gro Ext:=⟨Ext.rfl',Ext.tr,fun w=>⟨(Below.refl _ _).drew,Nat.le_succ _⟩,fun w o=>⟨(Below.refl _ w).alloc (Nat.le_refl _) o,Nat.le_refl _⟩,fun h=>h.toBelow⟩
abbrev VA:=VAr Ext
abbrev Env:=aY Ext
abbrev E (x:Value):VA:=ER x
abbrev Post (A:VA)(w:World):Ending→World→Prop:=gC A w
end Go.MonoD
namespace Go.MonoD
open Go Go.Proofs Go.RowKit Go.Mono
abbrev I (n:Int):Value:=.int .i64 n
theorem Mix.mix:Tryz.prog.follows .mixedOrders=true:=Go.Mono.Mix.mix
theorem T3:TI Tryz.prog 3 false 1:=ti (by decide +kernel)
def cmpI (x y:Int):Int:=if x<y then -1 else if y<x then 1 else 0
theorem arg1 {A:VA}{v:Value}{w:World}(h:A.p v w):∀(i:Nat) (B:VA),[A][i]?=some B→B.p ([v].getD i undef) w:=fun i B hB=>by
 match i with
 | 0=>simp at hB;subst hB;exact h
 | i+1=>simp at hB
theorem arg2 {A B:VA}{u v:Value}{w:World}(h:A.p u w)(h':B.p v w):∀(i:Nat) (C:VA),[A,B][i]?=some C→C.p ([u,v].getD i undef) w:=fun i C hC=>by
 match i with
 | 0=>simp at hC;subst hC;exact h
 | 1=>simp at hC;subst hC;exact h'
 | i+2=>simp at hC
theorem a0g (x:Int)(W:World):Calls Tryz.prog 123 #[I x] W (Post (E (.bool false)) W):=by
 refine enter (args:=[I x]) (As:=[E (I x)]) Tryz.func123 rfl Tryz.ntmps123 (Nat.le_of_ble_eq_true rfl) ?_ (fun a hf=>?_) (Nat.le_of_ble_eq_true rfl)
 rotate_left
 rotate_right
 ·exact arg1 rfl
 have e:=Ext.rfl' W
 refine seq <| ae <| aI hf rfl (by decide) fun a hf=>aa <| seq <| aN 3 hf (by decide +kernel) <| st (mv rfl) <| st (mv rfl) <| st ((neq rfl rfl).eq (congrArg Value.bool ((show (x != x)=false by simp)))) <| en fun a w e' hf=>?_
 replace e:=e.tr e'
 refine aI hf rfl (by decide) fun a hf=>aa <| ai <| ap rfl hf rfl ?_
 rintro _ rfl
 exact⟨_,rfl,e,rfl⟩
theorem rD (x:Int)(v:Value)(w:World)(h:(E (I x)).p v w):Calls Tryz.prog 123 #[v] w (Post (E (.bool false)) w):=by cases h;exact a0g x w
theorem a0h (x y:Int)(W:World):Calls Tryz.prog 92 #[I x,I y] W (Post (E (I (cmpI x y))) W):=by
 refine enter (args:=[I x,I y]) (As:=[E (I x),E (I y)]) Tryz.func92 rfl Tryz.ntmps92 (Nat.le_of_ble_eq_true rfl) ?_ (fun a hf=>?_) (Nat.le_of_ble_eq_true rfl)
 rotate_left
 rotate_right
 ·exact arg2 rfl rfl
 have e:=Ext.rfl' W
 refine seq <| ae <| aI hf rfl (by decide) fun a hf=>aa <| seq <| aN 2 hf (by decide +kernel) <| st (mv rfl) <| st (an Mono.En123 rfl (fun v w he h=>rD x v w h)) <| en fun a w e' hf=>?_
 replace e:=e.tr e'
 refine aI hf rfl (by decide) fun a hf=>aa <| seq <| aN 2 hf (by decide +kernel) <| st (mv rfl) <| st (an Mono.En123 rfl (fun v w he h=>rD y v w h)) <| en fun a w e' hf=>?_
 replace e:=e.tr e'
 refine aI hf rfl (by decide) fun a hf=>aa ?_
 repeat refine seq ?_
 refine aN 1 hf (by decide +kernel) <| st (mv rfl) <| en fun a w e' hf=>?_
 replace e:=e.tr e'
 refine aa <| ifc hf rfl (fun h=>by cases h) (fun _=>?_)
 refine ak ?_
 repeat refine seq ?_
 refine aN 1 hf (by decide +kernel) <| st (mv rfl) <| en fun a w e' hf=>?_
 replace e:=e.tr e'
 refine aa <| ifc hf rfl (fun h=>by cases h) (fun _=>?_)
 refine ak ?_
 repeat refine seq ?_
 refine aN 3 hf (by decide +kernel) <| st (mv rfl) <| st (mv rfl) <| st (lss rfl rfl) <| en fun a w e' hf=>?_
 replace e:=e.tr e'
 refine aa <| ifc hf rfl (fun hb=>?_) (fun hb=>?_)
 ·refine seq <| ae <| aI hf rfl (by decide) fun a hf=>aa <| ai <| ap rfl hf rfl ?_
  rintro _ rfl
  exact⟨_,rfl,e,congrArg I (by rw[cmpI,if_pos (of_decide_eq_true hb)])⟩
 ·refine ak ?_
  repeat refine seq ?_
  refine aN 3 hf (by decide +kernel) <| st (mv rfl) <| st (mv rfl) <| st (gtr rfl rfl) <| en fun a w e' hf=>?_
  replace e:=e.tr e'
  refine aa ?_
  have hb1:=of_decide_eq_false hb
  refine ifc hf rfl (fun hb=>?_) (fun hb=>?_)
  ·refine seq <| ae <| aI hf rfl (by decide) fun a hf=>aa <| ai <| ap rfl hf rfl ?_
   rintro _ rfl
   exact⟨_,rfl,e,congrArg I (by rw[cmpI,if_neg hb1,if_pos (of_decide_eq_true hb)])⟩
  ·refine ak <| seq <| ae <| aI hf rfl (by decide) fun a hf=>aa <| ai <| ap rfl hf rfl ?_
   rintro _ rfl
   exact⟨_,rfl,e,congrArg I (by rw[cmpI,if_neg hb1,if_neg (of_decide_eq_false hb)])⟩
theorem jj (x y:Int)(v u:Value)(w:World)(h:(E (I x)).p v w)(h':(E (I y)).p u w):Calls Tryz.prog 92 #[v,u] w (Post (E (I (cmpI x y))) w):=by cases h;cases h';exact a0h x y w
theorem Ext.grown {W w:World}(e:Ext W w):∃q os,w=Sort.grow (W.drewN q) os:=by
 refine⟨w.drawn - W.drawn,w.heap.extract W.heap.size w.heap.size,?_⟩
 have hh:w.heap=W.heap++w.heap.extract W.heap.size w.heap.size:=by
  apply Array.ext_getElem?
  intro i
  rw[Array.getElem?_append]
  split
  ·rename_i h;exact e.block i h
  ·rename_i h
   rw[Array.getElem?_extract]
   by_cases hi:i<w.heap.size
   ·have e1:W.heap.size+(i - W.heap.size)=i:=by omega
    rw[if_pos (by omega),e1]
   ·rw[if_neg (by omega)]
    simp only[Array.getElem?_eq_none_iff];omega
 have hd:W.drawn+(w.drawn - W.drawn)=w.drawn:=by have:=e.drawn;omega
 cases w
 simp only at hh hd
 have ho:=e.os;have ht:=e.tape;have hp:=e.output
 simp only at ho ht hp
 simp only[Sort.grow,World.drewN,World.mk.injEq]
 exact⟨hh,ht,hd.symm,ho,hp⟩
theorem cmpV_spec (x y:Int×Int×Int)(W:World):Calls Tryz.prog 103 #[.agg #[.int .i64 x.1,.int .u8 x.2.1,.int .i64 x.2.2],.agg #[.int .i64 y.1,.int .u8 y.2.1,.int .i64 y.2.2]] W (Post (E (I (cmpI x.1 y.1))) W):=by
 refine enter (args:=[.agg #[.int .i64 x.1,.int .u8 x.2.1,.int .i64 x.2.2],.agg #[.int .i64 y.1,.int .u8 y.2.1,.int .i64 y.2.2]]) (As:=[E (.agg #[.int .i64 x.1,.int .u8 x.2.1,.int .i64 x.2.2]),E (.agg #[.int .i64 y.1,.int .u8 y.2.1,.int .i64 y.2.2])]) Tryz.func103 rfl Tryz.ntmps103 (Nat.le_of_ble_eq_true rfl) ?_ (fun a hf=>?_) (Nat.le_of_ble_eq_true rfl)
 rotate_left
 rotate_right
 ·exact arg2 rfl rfl
 have e:=Ext.rfl' W
 refine seq <| ae <| dq hf rfl (by decide) fun a b2 w v2 hv2 e' hb2 hs2 B2 hf=>?_
 replace e:=e.tr e'
 refine dq hf rfl (by decide) fun a b3 w v3 hv3 e' hb3 hs3 B3 hf=>?_
 replace e:=e.tr e'
 replace B2:=B2.ext e'.toBelow
 refine aI hf rfl (by decide) fun a hf=>aa ?_
 cases hv2;cases hv3
 refine seq <| aN 5 hf (by decide +kernel) <| st (dH Tryz.underlying57 rfl T3 (by decide) rfl) <| st (ld1 T3 rfl B2 rfl) <| st (dH Tryz.underlying57 rfl T3 (by decide) rfl) <| st (ld1 T3 rfl B3 rfl) <| st (ar Mono.En92 rfl rfl (fun v u w he h h'=>jj x.1 y.1 v u w h h')) <| en fun a w e' hf=>?_
 replace e:=e.tr e'
 replace B2:=B2.ext e'.toBelow
 replace B3:=B3.ext e'.toBelow
 refine aI hf rfl (by decide) fun a hf=>aa <| ai <| ap rfl hf rfl ?_
 rintro _ rfl
 exact⟨_,rfl,e,rfl⟩
section
variable {P:Program}{w0:World}{L:Env}{dst:Option Tmp}{ty:TypeId}{pos:String}{aft:Array Edge}{g:Option (Nat×Bool)}{t te:TypeId}{x y:Operand}
def Sl2 (t:TypeId)(p q:Int):VA:=⟨fun v w=>∃b,v=.slice (some ⟨b,0,none⟩) 2 2∧Blk w b #[I p,I q] t,fun v w w' e ⟨b,h1,h2⟩=>⟨b,h1,h2.ext e.toBelow⟩⟩
theorem rE {p q:Int}{bz:Nat}{z0:Value}(ht:P.underlying t=some (.slice te))(hi:(P.info? te).map (fun i=>(i.zero,i.size,i.bytes))=some (some z0,1,bz))(hz0:z0.cells.size=1)(hx:opd L x=some (E (I p)))(hy:opd L y=some (E (I q))) :
  OpC P w0 L ⟨dst,.buildSlice t 2 #[(0,x),(1,y)],ty,pos,aft,g⟩ (Sl2 te p q):=by
 refine⟨fun ρ w he hv=>?_⟩
 have hxv:=opE hv (x:=x) (by simp[Op.operands]) hx
 have hyv:=opE hv (x:=y) (by simp[Op.operands]) hy
 obtain⟨it,hit,hiz,hsz,_⟩:=info_parts hi
 have hfl:=Mono.fill_seq (k:=1) [I p,I q] [[I p],[I q]] 0 [] ((Array.range (2 * 1)).map (z0.cells[· % z0.cells.size]!)) rfl (by simp) (by simp) (by simp) (by simp)
 have hr:=run_buildSlice (P:=P) w t te 2 #[(0,I p),(1,I q)] #[I p,I q] it z0 ht hit hiz (by rw[hsz];omega) (by rw[hsz];omega) (by rw[hsz];exact hfl)
 have hrun:(execOp ρ ⟨dst,.buildSlice t 2 #[(0,x),(1,y)],ty,pos,aft,g⟩).run P w=.ok (.value (.slice (some ⟨w.heap.size,0,none⟩) 2 2)) (w.alloc (.cells #[I p,I q] te)):=by
  simp only[execOp,Sem.run_bind,List.map_toArray,List.map_cons,List.map_nil,hxv,hyv,hr,Result.andThen_ok,Sem.run_pure]
 simp only[OpR,hrun]
 exact⟨Gro.alloc w _,_,rfl,fK w _ _⟩
theorem idxS {b:Nat}{k:Nat}(ht:P.underlying t=some (.slice te))(hs:(P.info? te).map (·.size)=some 1)(hx:opd L x=some (E (.slice (some ⟨b,0,none⟩) 2 2)))(hy:opd L y=some (E (I k)))(hk:k<2) :
  OpC P w0 L ⟨dst,.indexAddr t x y,ty,pos,aft,g⟩ (E (.pointer (some ⟨b,k,none⟩))):=
 aM fun ρ w he hv=>by
  have h:=opE hv (x:=x) (by simp[Op.operands]) hx
  have h2:=opE hv (x:=y) (by simp[Op.operands]) hy
  have hsz:∀w,(sizeOf te).run P w=.ok 1 w:=fun w=>by
   cases hi:P.info? te with
   | none=>simp[hi] at hs
   | some i=>simp[hi] at hs;simp[sizeOf,typeInfo,hi,hs]
  have hi':(k:Int)<2:=by omega
  refine⟨_,?_,rfl⟩
  rcases (show k=0∨k=1 by omega) with rfl|rfl <;> simp[execOp,h,h2,Instr.indexAt,asIntOf,run_underlying ht,hsz,Addr.add]
theorem a0i {b:Nat}(ht:P.underlying t=some (.slice te))(hx:opd L x=some (E (.slice (some ⟨b,0,none⟩) 2 2))):OpC P w0 L ⟨dst,.call ⟨.builtin .len,#[x],#[t]⟩,ty,pos,aft,g⟩ (E (I 2)):=
 aM fun ρ w he hv=>by
  have h:=opE hv (x:=x) (by simp[Op.operands,Call.operands]) hx
  exact⟨_,by simp[execOp,resolve,invoke,builtin,Builtin.len_,h,run_underlying ht,goInt],rfl⟩
end
def orI (p q:Int):Int:=if p != 0 then p else q
theorem rF (p q:Int)(b:Nat)(W:World)(hB:Blk W b #[I p,I q] 3):Calls Tryz.prog 91 #[.slice (some ⟨b,0,none⟩) 2 2] W (Post (E (I (orI p q))) W):=by
 refine enter (args:=[.slice (some ⟨b,0,none⟩) 2 2]) (As:=[E (.slice (some ⟨b,0,none⟩) 2 2)]) Tryz.func91 rfl Tryz.ntmps91 (Nat.le_of_ble_eq_true rfl) ?_ (fun a hf=>?_) (Nat.le_of_ble_eq_true rfl)
 rotate_left
 rotate_right
 ·exact arg1 rfl
 have e:=Ext.rfl' W
 refine seq <| ae <| aI hf rfl (by decide) fun a hf=>aa <| seq <| ae <| aI hf rfl (by decide) fun a hf=>aa ?_
 repeat refine seq ?_
 refine aN 3 hf (by decide +kernel) <| st (mv rfl) <| st (a0i Tryz.underlying31 rfl) <| st (mv rfl) <| en fun a w e' hf=>?_
 replace e:=e.tr e'
 refine aa ?_
 replace hf:=hf.keep [3,6,7,8]
 refine blk (aJ (fun r0 a w=>∃(k:Nat) ,r0=2 - k∧k≤2∧Fr 18 a w [(3,E (I 0)),(6,E (.slice (some ⟨b,0,none⟩) 2 2)),(7,E (I 2)),(8,E (I k))]∧Ext W w∧(k=0∨p=0)∧(k=2→q=0)) 2 ⟨0,rfl,by omega,hf,e,⟨.inl rfl,(fun h=>by cases h)⟩⟩ ?_)
 rintro r0 a w ⟨k,rfl,hk,hf,e,hp⟩
 refine seq <| aN 1 hf (by decide +kernel) <| st (lss rfl rfl) <| en fun a w e' hf=>?_
 replace e:=e.tr e'
 refine aa <| seq <| ifc hf rfl (fun hc=>ak ?_) (fun hc=>aG ?_)
 rotate_left
 rotate_left
 ·have hlt:k<2:=by have:=of_decide_eq_true hc;(try dsimp only at this);omega
  replace hf:=hf.keep [3,6,7,8]
  refine seq <| blk ?_
  have hB':=hB.ext e.toBelow
  have hcell:(#[I p,I q]:Array Value)[k]?=some (I (if k=0 then p else q)):=by
   rcases (show k=0∨k=1 by omega) with rfl|rfl <;> rfl
  refine seq <| aN 2 hf (by decide +kernel) <| st (idxS Tryz.underlying31 Mono.S3 rfl rfl hlt) <| st (ld1 T3 rfl hB' hcell) <| en fun a w e' hf=>?_
  replace e:=e.tr e'
  refine aI hf rfl (by decide) fun a hf=>aa <| seq <| aN 3 hf (by decide +kernel) <| st (mv rfl) <| st (mv rfl) <| st (neq rfl rfl) <| en fun a w e' hf=>?_
  replace e:=e.tr e'
  refine aa <| ifc hf rfl (fun hb=>?_) (fun hb=>?_)
  ·have hb':(if k=0 then p else q)≠0:=by simpa using hb
   have hor:(if k=0 then p else q)=orI p q:=by
    rw[orI]
    rcases (show k=0∨k=1 by omega) with rfl|rfl
    ·simp only[if_true] at hb' ⊢;rw[if_pos (by simpa using hb')]
    ·simp only[Nat.one_ne_zero,if_false] at hb' ⊢;rw[if_neg (by simpa using hp.1)]
   refine seq <| aN 1 hf (by decide +kernel) <| st (mv rfl) <| en fun a w e' hf=>?_
   replace e:=e.tr e'
   refine aI hf rfl (by decide) fun a hf=>aa <| ai <| ap rfl hf rfl ?_
   rintro _ rfl
   exact⟨_,rfl,e,congrArg I hor⟩
  ·have hb':(if k=0 then p else q)=0:=by simpa using hb
   refine ak <| aN 1 hf (by decide +kernel) <| st ((add rfl rfl (by omega)).eq (congrArg (Value.int .i64) (show (k:Int)+1=((k+1:Nat):Int) from rfl))) <| en fun a w e' hf=>?_
   replace e:=e.tr e'
   refine oW hf (by decide) (mv rfl) fun a w e' hf=>?_
   replace e:=e.tr e'
   refine aa ?_
   replace hf:=hf.keep [3,6,7,8]
   refine⟨_,?_,k+1,rfl,by omega,hf,e,?_⟩
   ·omega
   rcases (show k=0∨k=1 by omega) with rfl|rfl
   ·exact⟨.inr (by simpa using hb'),fun h=>by cases h⟩
   ·exact⟨.inr (by simpa using hp.1),fun _=>by simpa using hb'⟩
 ·obtain rfl:k=2:=by have:=of_decide_eq_false hc;(try dsimp only at this);omega
  refine seq <| aN 1 hf (by decide +kernel) <| st (mv rfl) <| en fun a w e' hf=>?_
  replace e:=e.tr e'
  refine aI hf rfl (by decide) fun a hf=>aa <| ai <| ap rfl hf rfl ?_
  rintro _ rfl
  exact⟨_,rfl,e,congrArg I (by have h1:p=0:=(by simpa using hp.1);have h2:=hp.2 rfl;rw[orI,h1,h2];rfl)⟩
theorem cmpE_spec (x y:(Int×Int)×(Int×Int))(W:World):Calls Tryz.prog 90 #[.agg #[.int .i64 x.1.1,.int .i64 x.1.2,.int .u8 x.2.1,.int .i64 x.2.2],.agg #[.int .i64 y.1.1,.int .i64 y.1.2,.int .u8 y.2.1,.int .i64 y.2.2]] W (Post (E (I (orI (cmpI x.1.1 y.1.1) (cmpI x.1.2 y.1.2)))) W):=by
 refine enter (args:=[.agg #[.int .i64 x.1.1,.int .i64 x.1.2,.int .u8 x.2.1,.int .i64 x.2.2],.agg #[.int .i64 y.1.1,.int .i64 y.1.2,.int .u8 y.2.1,.int .i64 y.2.2]]) (As:=[E (.agg #[.int .i64 x.1.1,.int .i64 x.1.2,.int .u8 x.2.1,.int .i64 x.2.2]),E (.agg #[.int .i64 y.1.1,.int .i64 y.1.2,.int .u8 y.2.1,.int .i64 y.2.2])]) Tryz.func90 rfl Tryz.ntmps90 (Nat.le_of_ble_eq_true rfl) ?_ (fun a hf=>?_) (Nat.le_of_ble_eq_true rfl)
 rotate_left
 rotate_right
 ·exact arg2 rfl rfl
 have e:=Ext.rfl' W
 refine seq <| ae <| dq hf rfl (by decide) fun a b2 w v2 hv2 e' hb2 hs2 B2 hf=>?_
 replace e:=e.tr e'
 refine dq hf rfl (by decide) fun a b3 w v3 hv3 e' hb3 hs3 B3 hf=>?_
 replace e:=e.tr e'
 replace B2:=B2.ext e'.toBelow
 refine aI hf rfl (by decide) fun a hf=>aa ?_
 cases hv2;cases hv3
 refine seq <| reg 12 Mix.mix hf (by decide +kernel) <| st (dH Tryz.underlying60 rfl T3 (by decide) rfl) <| st (ld1 T3 rfl B2 rfl) <| st (dH Tryz.underlying60 rfl T3 (by decide) rfl) <| st (ld1 T3 rfl B3 rfl) <| st (ar Mono.En92 rfl rfl (fun v u w he h h'=>jj x.1.1 y.1.1 v u w h h')) <| st (dH Tryz.underlying60 rfl T3 (by decide) rfl) <| st (ld1 T3 rfl B2 rfl) <| st (dH Tryz.underlying60 rfl T3 (by decide) rfl) <| st (ld1 T3 rfl B3 rfl) <| st (ar Mono.En92 rfl rfl (fun v u w he h h'=>jj x.1.2 y.1.2 v u w h h')) <| st (rE Tryz.underlying31 Mono.I3 rfl rfl rfl) <| st (an Mono.En91 rfl (fun v w he h=>by obtain⟨b,rfl,hB⟩:=h;exact rF _ _ b w hB)) ?_
 refine en fun a w e' hf=>?_
 replace e:=e.tr e'
 replace B2:=B2.ext e'.toBelow
 replace B3:=B3.ext e'.toBelow
 refine aI hf rfl (by decide) fun a hf=>aa <| ai <| ap rfl hf rfl ?_
 rintro _ rfl
 exact⟨_,rfl,e,rfl⟩
end Go.MonoD
namespace Go.Mono
open Go Go.Proofs Go.RowKit Go.Shelf Go.Sort
theorem ku {α β:Type}{f:α→List β}{k:Nat}(hk:∀x,(f x).length=k)(h0:0<k):∀(l:List α) (t:Nat),(l.flatMap f)[t]?=(l[t / k]?).bind fun x=>(f x)[t % k]?
 | [],t=>by simp
 | x::r,t=>by
  rw[List.flatMap_cons,List.getElem?_append,hk]
  by_cases ht:t<k
  ·rw[if_pos ht,Nat.div_eq_of_lt ht,Nat.mod_eq_of_lt ht];rfl
  ·rw[if_neg ht,ku hk h0 r]
   have h1:t / k=(t - k) / k+1:=by rw[← Nat.add_div_right _ h0];congr 1;omega
   have h2:t % k=(t - k) % k:=by rw[Nat.mod_eq_sub_mod (by omega)]
   rw[h1,h2,List.getElem?_cons_succ]
theorem rG {α β:Type}{f:α→List β}{k:Nat}(hk:∀x,(f x).length=k):∀(l:List α),(l.flatMap f).length=l.length * k
 | []=>by simp
 | x::r=>by rw[List.flatMap_cons,List.length_append,hk,rG hk r,List.length_cons,Nat.succ_mul];omega
theorem rH {α:Type}[Inhabited α]{f:α→List Value}{k:Nat}(hk:∀x,(f x).length=k)(h0:0<k)(d:Array α):(flatK f k d).toList=d.toList.flatMap f:=by
 apply List.ext_getElem?
 intro t
 rw[ku hk h0,flatK,Array.toList_map,List.getElem?_map,Array.toList_range]
 by_cases ht:t<d.size * k
 ·rw[List.getElem?_range ht,Option.map_some]
  have hd:t / k<d.size:=Nat.div_lt_of_lt_mul (by rw[Nat.mul_comm];exact ht)
  have hm:t % k<k:=Nat.mod_lt _ h0
  rw[Array.getElem?_toList,Array.getElem?_eq_getElem hd,Option.bind_some,getElem!_pos d _ hd]
  have hl:t % k<(f (d[t / k]'hd)).length:=by rw[hk];exact hm
  rw[List.getElem?_eq_getElem hl,getElem!_pos (f (d[t / k]'hd)) (t % k) hl]
 ·rw[List.getElem?_eq_none (by simpa using ht),Option.map_none]
  have hd:¬t / k<d.size:=fun h=>ht (by
   have:=(Nat.div_lt_iff_lt_mul h0).1 h;exact this)
  rw[Array.getElem?_toList,Array.getElem?_eq_none (by omega)];rfl
theorem kw {α:Type}{e:Enc α}{f:α→List Value}(hf:∀G w x cs,e.r G w x cs↔cs=f x){G:Nat→Prop}{w:World}:∀(xs:List α) (cs:List Value),Cells e G w xs cs↔cs=xs.flatMap f
 | [],cs=>by simp[Cells]
 | x::xs,cs=>by
  constructor
  ·rintro⟨c,d,rfl,h1,h2⟩
   rw[(hf _ _ _ _).1 h1,(kw hf xs d).1 h2,List.flatMap_cons]
  ·intro h
   exact⟨f x,xs.flatMap f,by rw[h,List.flatMap_cons],(hf _ _ _ _).2 rfl,(kw hf xs _).2 rfl⟩
theorem kx {P:Program}{ρ:Ren}{α:Type}[Inhabited α]{e:Enc α}{ty:TypeId}{B:Nat}{G:Nat→Prop}{w:World}{xs:List α}{v:Value}(L:SlLaysF0.n6 P ρ)(aE:∀w,(isAgg (ρ.t 24)).run P w=.ok true w)(zE:∀w,(Go.sizeOf (ρ.t 24)).run P w=.ok e.k w)
  (f:α→List Value) (hf:∀G w x cs,e.r G w x cs↔cs=f x) (hk:∀x,(f x).length=e.k) (h1:∀x,∀v∈f x,v.oneCell'=true) (cf:α→α→Int) (hO:SWO (ltOf cf)) (g:Nat)
  (eg:∀args w,(callFunc g args).run P w=.ok (.enter g args) w) (hc:∀x y W,Calls P g #[.agg (f x).toArray,.agg (f y).toArray] W fun en w'=>en=.returned (.int .i64 (cf x y))∧∃q os,w'=grow (W.drewN q) os) (Ho:OwR e ty B G w xs v) (hl:xs.length≤100000) :
  Calls P (ρ.f 6) #[v,.func (.func g) #[] #[]] w fun en w'=>en=.returned (.tuple #[])∧∃xs',xs'.Perm xs∧xs'.Pairwise (fun x y=>ltOf cf y x=false)∧OwR e ty B G w' xs' v∧Chg (fun b=>v.ownBlock=some b) w w':=by
 obtain⟨cs,⟨hlen,hv⟩,hcs⟩:=Ho.own
 rw[kw hf] at hcs
 subst hcs
 rcases hv with ⟨rfl,hn⟩|⟨g0,cap,cur,rfl,hB,hheap,hcap,hmax,hcur,htake⟩
 ·have hx:xs=[]:=List.length_eq_zero_iff.1 hn
  subst hx
  exact (AnyF.slices_SortFunc_none L none 0 _ w).mono fun en w' ⟨h2,h3⟩=>by
   subst h3
   exact⟨h2,[],List.Perm.refl _,List.Pairwise.nil,Ho,Chg.rfl' _ _⟩
 ·have hk0:=e.pos
  have hcell:∀j,(xs.flatMap f)[j]?=cur[j]?∨xs.length * e.k≤j:=fun j=>by
   by_cases hj:j<xs.length * e.k
   ·left
    rw[← htake,List.getElem?_take,if_pos hj];simp
   ·right;omega
  have hH:HoldsK f e.k w g0 0 xs.toArray:=by
   intro j hj
   rw[size_flatK] at hj
   have hj':j<xs.length * e.k:=by simpa using hj
   have h2:(flatK f e.k xs.toArray)[j]?=cur[j]?:=by
    rw[← Array.getElem?_toList,rH hk hk0]
    rcases hcell j with h|h
    ·exact h
    ·omega
   have hjs:j<(flatK f e.k xs.toArray).size:=by rw[size_flatK];exact hj
   have hB1:Blk w g0 cur ty:=hheap
   constructor
   ·rw[Nat.zero_add,hB1.cell,← h2,Array.getElem?_eq_getElem hjs,getElem!_pos _ j hjs];rfl
   ·simp[World.frozen?,hheap]
  have hblk:g0<w.heap.size:=(Array.getElem?_eq_some_iff.1 hheap).1
  have hcmp:CmpLays P g #[] f e.k cf g0 0 xs.toArray.size w:=fun m os dk hd x y=>by simpa using hc x y _
  refine (AnyQ.slices_SortFunc L e.k aE zE f hk h1 cf hO g #[] g0 0 cap xs.toArray w eg hcmp hH hblk (by simp;omega)).mono ?_
  rintro en w' ⟨h2,d',n,os,hp,hs,rfl⟩
  have hds:d'.size=xs.length:=by simpa using hp.1
  have hperm:d'.toList.Perm xs:=by
   have:=hp.2.2
   rw[Array.extract_eq_self_of_le (by simp[hds]),Array.extract_eq_self_of_le (by simp)] at this
   simpa using this
  refine⟨h2,d'.toList,hperm,?_,?_,?_⟩
  ·rw[List.pairwise_iff_getElem]
   intro i j hi hj hij
   have:=hs i j (Nat.zero_le _) hij (by simpa[hds] using hj)
   simp only[Array.length_toList] at hi hj
   rw[getElem!_pos d' j hj,getElem!_pos d' i hi] at this
   simpa using this
  ·have hF:(flatK f e.k d').size=xs.length * e.k:=by rw[size_flatK,hds]
   have hcut:xs.length * e.k≤cur.size:=by rw[hcur];exact Nat.mul_le_mul_right _ hcap
   have hh:(sortWorldK f e.k w g0 0 n d' os).heap[g0]?=some (.cells (putCells id 0 (flatK f e.k d') cur) ty (0,0)):=by
    unfold sortWorldK grow putRowK putRow mapBlock
    simp only
    rw[Array.getElem?_append_left (by simpa[Sort.ahead] using hblk),Array.getElem?_modify,if_pos rfl]
    have:(Sort.ahead w n).heap[g0]?=some (Obj.cells cur ty (0,0)):=hheap
    rw[this];rfl
   have hput:(putCells id 0 (flatK f e.k d') cur).toList.take (xs.length * e.k)=d'.toList.flatMap f:=by
    rw[← rH hk hk0]
    apply List.ext_getElem?
    intro j
    rw[List.getElem?_take]
    by_cases hj:j<xs.length * e.k
    ·rw[if_pos hj,Array.getElem?_toList,Array.getElem?_toList,putCells,Array.getElem?_mapIdx,Array.getElem?_eq_getElem (show j<cur.size by omega),Option.map_some,if_pos ⟨Nat.zero_le _,by rw[Nat.zero_add,hF];exact hj⟩]
     have hjf:j<(flatK f e.k d').size:=by rw[hF];exact hj
     rw[Nat.sub_zero,getElem!_pos _ j hjf,Array.getElem?_eq_getElem hjf];rfl
    ·rw[if_neg hj,List.getElem?_eq_none]
     simp only[Array.length_toList,hF];omega
   refine⟨⟨d'.toList.flatMap f,⟨by rw[rG hk],.inr ⟨g0,cap,_,by simp[hds],hB,hh,by simpa[hds] using hcap,hmax,by simpa[putCells] using hcur,by simpa[hds] using hput⟩⟩,(kw hf _ _).2 rfl⟩,Ho.av,?_⟩
   exact Nat.le_trans Ho.base (size_sortWorldK_c f e.k w g0 0 n d' os)
  ·refine⟨rfl,rfl,rfl,size_sortWorldK_c f e.k w g0 0 n d' os,fun b hb hne=>?_⟩
   have hbg:g0≠b:=fun h=>hne (by subst h;rfl)
   unfold sortWorldK grow putRowK putRow mapBlock
   simp only
   rw[Array.getElem?_append_left (by simpa[Sort.ahead] using hb),Array.getElem?_modify,if_neg hbg]
   rfl
end Go.Mono
namespace Go.Mono
open Go Go.RowKit Go.Gr
section
variable {P:Program}{α β:Type}[DecidableEq α]{V:KV P α β}{w w':World}{b r n:Nat}{old rest:List (α×β)}
def RgR (V:KV P α β)(w:World)(b r n:Nat)(old rest:List (α×β)):Prop:=
 ∃es left cnt,w.ranges P V.k V.R b r n (.map es) left cnt∧es.Perm ((old++rest).map V.enc)∧(∀p∈old++rest,V.ok p.1∧V.okv p.2)∧(old++rest).Pairwise (fun p q=>p.1≠q.1) ∧
  (∀x,V.ok x→left (V.kl x)=rest.any fun p=>decide (p.1=x))
theorem RgR.lt (h:RgR V w b r n old rest):b<w.heap.size∧r<w.heap.size∧r≠b:=by
 obtain⟨es,left,cnt,h1,_⟩:=h
 exact⟨h1.owns.lt,h1.lt,h1.ne⟩
theorem RgR.gr (h:RgR V w b r n old rest){row:Option Nat}(hg:w.grownBy w' row)(h1:some b≠row)(h2:some r≠row):RgR V w' b r n old rest:=by
 obtain⟨es,left,cnt,k1,k2⟩:=h
 exact⟨es,left,cnt,k1.kept hg h1 h2,k2⟩
theorem RgR.ext (h:RgR V w b r n old rest)(e:Ext w w'):RgR V w' b r n old rest:=h.gr e.gr0 (by simp) (by simp)
instance:Ug w w' (RgR V w b r n old rest) (RgR V w' b r n old rest):=⟨fun e h=>h.ext e⟩
theorem MpR.range {t:TypeId}{l:List (α×β)}(h:MpR V w b n l)(ht:P.underlying t=some (.map V.k V.e)) :
  ∃w',(Instr.range t (.map (some b))).run P w=.ok (.pointer (some ⟨w.heap.size,0,none⟩)) w'∧RgR V w' b w.heap.size n [] l∧Ext w w'∧w'.heap.size=w.heap.size+1:=by
 obtain⟨es,h1,h2,h3,h4⟩:=h
 obtain⟨w',k1,k2,k3,k4⟩:=h1.range V.K ht
 refine⟨w',k1,⟨es,_,_,k2,h2,h3,h4,fun x hx=>?_⟩,⟨k3.os,k3.tape,k3.output,k3.size,fun b hb=>k3.block b hb (by simp)⟩,k4⟩
 obtain⟨D,h5,h6,_⟩:=MpR.has (V:=V) ⟨es,h1,h2,h3,h4⟩ hx
 show es.any (fun p=>p.1.sameKey (V.kl x))=_
 rw[h2.any_eq,List.any_map,Bool.eq_iff_iff]
 simp only[List.any_eq_true,Function.comp,KV.enc]
 exact⟨fun⟨p,hp,hq⟩=>⟨p,hp,by rwa [V.same hx (h3 p hp).1] at hq⟩,fun⟨p,hp,hq⟩=>⟨p,hp,by rwa [V.same hx (h3 p hp).1]⟩⟩
theorem jl {γ δ:Type}:∀{m:List (γ×δ)},m.Pairwise (fun p q=>p.1≠q.1)→∀{x:γ} {c c':δ},(x,c)∈m→(x,c')∈m→c=c'
 | [],_,_,_,_,h,_=>by simp at h
 | y::r,hm,x,c,c',h,h'=>by
  obtain⟨h6,h7⟩:=List.pairwise_cons.1 hm
  rcases List.mem_cons.1 h with hy|h1 <;> rcases List.mem_cons.1 h' with hy'|h2
  ·rw[← hy] at hy';exact (congrArg Prod.snd hy').symm
  ·exact absurd rfl (by have:=h6 _ h2;rwa [← hy] at this)
  ·exact absurd rfl (by have:=h6 _ h1;rwa [← hy'] at this)
  ·exact jl h7 h1 h2
theorem im:∀{m:List (α×β)},m.Pairwise (fun p q=>p.1≠q.1)→∀{x:α} {c:β},(x,c)∈m→m.Perm ((x,c)::m.filter fun p => !decide (p.1=x))
 | [],_,_,_,h=>by simp at h
 | y::r,hm,x,c,h=>by
  obtain⟨h6,h7⟩:=List.pairwise_cons.1 hm
  rcases List.mem_cons.1 h with hy|h1
  ·subst hy
   rw[List.filter_cons_of_neg (by simp)]
   have:r.filter (fun p => !decide (p.1=x))=r:=List.filter_eq_self.2 fun p hp=>by have:=h6 p hp;simp only[Bool.not_eq_true',decide_eq_false_iff_not];exact fun h=>this h.symm
   rw[this]
  ·have hne:y.1≠x:=fun he=>h6 _ h1 he
   rw[List.filter_cons_of_pos (by simpa using hne)]
   exact ((im h7 h1).cons y).trans (List.Perm.swap _ _ _)
theorem RgR.next (h:RgR V w b r n old rest)(ty:TypeId) :
  (rest=[]∧(Instr.next (.pointer (some ⟨r,0,none⟩)) false ty).run P w=.ok (.tuple #[.bool false]) w) ∨
  ∃x c w',(x,c)∈rest∧(Instr.next (.pointer (some ⟨r,0,none⟩)) false ty).run P w=.ok (.tuple #[.bool true,V.kv x,V.mv c]) w'∧RgR V w' b r n (old++[(x,c)]) (rest.filter fun p => !decide (p.1=x))∧w.grownBy w' (some r) ∧
   (Instr.entry (.pointer (some ⟨r,0,none⟩))).run P w'=.ok (.tuple #[V.kv x,V.mv c]) w':=by
 obtain⟨es,left,cnt,h1,h2,h3,h4,h5⟩:=h
 have hMp:MpR V w b n (old++rest):=⟨es,h1.owns,h2,h3,h4⟩
 rcases h1.next V.K ty with ⟨h0,hl,hrun⟩|⟨key,v,kl,y,w',cnt',hkey,hlk,hv,hat,hrun,hrg,_,hgr,_,hen⟩
 ·refine .inl ⟨?_,hrun⟩
  cases rest with
  | nil=>rfl
  | cons p s=>
   have:=h5 p.1 (h3 p (by simp)).1
   rw[hl] at this
   simp at this
 ·obtain⟨x,hx,rfl,rfl⟩:=V.keyInv _ _ hkey
  obtain⟨c,hc,rfl,rfl⟩:=V.valInv _ _ hv
  rw[h5 x hx,List.any_eq_true] at hlk
  obtain⟨⟨x',c'⟩,hp,hpx⟩:=hlk
  obtain rfl:x'=x:=by simpa using hpx
  obtain⟨D,k1,k2,k3,_⟩:=hMp.has hx
  have hD:∀z,(DataW.map es).atKey (V.kl x') z=V.dv c':=by
   intro z
   have hm:V.enc (x',c')∈es:=h2.mem_iff.2 (List.mem_map_of_mem (by simp[hp]))
   obtain⟨es',hD',hpw,_⟩:=h1.owns.entries V.K
   cases hD'
   have hcm:(x',c')∈old++rest:=by simp[hp]
   simp only[DataW.atKey]
   cases hf:es.find? (fun p=>p.1.sameKey (V.kl x')) with
   | none=>
    have:=List.find?_eq_none.1 hf _ hm
    simp[KV.enc,WideAt.sameKey_self (V.isKey hx)] at this
   | some q=>
    have hq:=List.mem_of_find?_eq_some hf
    have hq2:=List.find?_some hf
    obtain⟨p,hp2,rfl⟩:=List.mem_map.1 (h2.mem_iff.1 hq)
    have hpx':p.1=x':=by rw[KV.enc,V.same hx (h3 p hp2).1] at hq2;simpa using hq2
    have:p=(x',p.2):=by rw[← hpx']
    rw[this] at hp2
    rw[this,jl h4 hp2 hcm];rfl
  have hcc:c=c':=V.dvInj _ _ ((hat .nil).symm.trans (hD .nil))
  subst hcc
  have hperm:=im (List.pairwise_append.1 h4).2.1 hp
  have hp2:(old++rest).Perm (old++[(x',c)]++rest.filter fun p => !decide (p.1=x')):=by
   rw[List.append_assoc];exact (List.Perm.append_left old hperm)
  refine .inr ⟨x',c,w',hp,hrun,⟨es,_,_,hrg,h2.trans (hp2.map _),fun p hp=>h3 p (hp2.mem_iff.2 hp),(hp2.pairwise_iff (fun {_ _} hne=>Ne.symm hne)).1 h4,fun z hz=>?_⟩,hgr,hen⟩
  rw[h5 z hz,V.same hx hz,List.any_filter]
  by_cases hzx:z=x'
  ·subst hzx
   simp only[decide_true,Bool.not_true,Bool.and_false]
   symm
   rw[List.any_eq_false]
   intro p _
   simp
  ·simp only[hzx,decide_false,Bool.not_false,Bool.and_true]
   congr 1
   funext p
   by_cases hpz:p.1=z
   ·simp[hpz,hzx]
   ·simp[hpz]
end
section tail
variable {P:Program}{L:Env}{ty:TypeId}{pos:String}{aft:Array Edge}{ro:Option Nat}{ds:List Deferred}
variable {ops:Array Oper}{rest:List Oper}{Q:Exit→Act→World→Prop}{n:Nat}{a:Act}{w:World}{x y z:Operand}{α β:Type}[DecidableEq α]{V:KV P α β}{d:Nat}
theorem rI {t:TypeId}{b nn:Nat}{l:List (α×β)}(ht:P.underlying t=some (.map V.k V.e))(hf:FrD n ds a w L)(hd:d<n)(hx:opd L x=some (E (.map (some b))))(hM:MpR V w b nn l)
  (k:∀a' r w',Ext w w'→r=w.heap.size→w'.heap.size=r+1→RgR V w' b r nn [] l→FrD n ds a' w' ((d,E (.pointer (some ⟨r,0,none⟩)))::L)→wpListIn (FW ro) 0 P ops Q rest a' w') :
  wpListIn (FW ro) 0 P ops Q (⟨some d,.range t x,ty,pos,aft,none⟩::rest) a w:=
 wpListIn_plain rfl fun K hK=>by
  have hxv:a.eval x=.map (some b):=hf.opd x _ hx
  obtain⟨w',h1,h2,h3,h4⟩:=hM.range ht
  refine OpR.wp (R:=fun v w1=>v=.pointer (some ⟨w.heap.size,0,none⟩)∧w1=w') ?_ ?_
  ·simp only[OpR,execOp,hxv,Sem.run_bind,h1,Result.andThen_ok,Sem.run_pure]
   exact⟨trivial,trivial⟩
  ·rintro v w1 ⟨rfl,rfl⟩
   exact hK _ _ (k _ _ _ h3 rfl h4 h2 (hf.put (d:=some d) h3 (fun k hk=>by cases hk;exact hd) rfl))
theorem rJ {b r nn:Nat}{old rem:List (α×β)}(hf:FrD n ds a w L)[hL:AvL r L](hd:d<n)(hx:opd L x=some (E (.pointer (some ⟨r,0,none⟩))))(hR:RgR V w b r nn old rem)
  (k0:∀a',rem=[]→FrD n ds a' w ((d,E (.tuple #[.bool false]))::L)→wpListIn (FW ro) 0 P ops Q rest a' w)
  (k1:∀a' w' i c,(i,c)∈rem→w.grownBy w' (some r)→RgR V w' b r nn (old++[(i,c)]) (rem.filter fun p => !decide (p.1=i))→(Instr.entry (.pointer (some ⟨r,0,none⟩))).run P w'=.ok (.tuple #[V.kv i,V.mv c]) w' →
   FrD n ds a' w' ((d,E (.tuple #[.bool true,V.kv i,V.mv c]))::L)→wpListIn (FW ro) 0 P ops Q rest a' w') :
  wpListIn (FW ro) 0 P ops Q (⟨some d,.next x false,ty,pos,aft,none⟩::rest) a w:=
 wpListIn_plain rfl fun K hK=>by
  have hxv:a.eval x=.pointer (some ⟨r,0,none⟩):=hf.opd x _ hx
  rcases hR.next ty with ⟨h0,hrun⟩|⟨i,c,w',hm,hrun,hR',hg,hen⟩
  ·refine OpR.wp (R:=fun v w1=>v=.tuple #[.bool false]∧w1=w) ?_ ?_
   ·simp only[OpR,execOp,hxv,Sem.run_bind,hrun,Result.andThen_ok,Sem.run_pure]
    exact⟨trivial,trivial⟩
   ·rintro v w1 ⟨rfl,rfl⟩
    exact hK _ _ (k0 _ h0 (hf.put (d:=some d) (Ext.rfl' _) (fun k hk=>by cases hk;exact hd) rfl))
  ·refine OpR.wp (R:=fun v w1=>v=.tuple #[.bool true,V.kv i,V.mv c]∧w1=w') ?_ ?_
   ·simp only[OpR,execOp,hxv,Sem.run_bind,hrun,Result.andThen_ok,Sem.run_pure]
    exact⟨trivial,trivial⟩
   ·rintro v w1 ⟨rfl,rfl⟩
    exact hK _ _ (k1 _ _ _ _ hm hg hR' hen ((hf.gr hg).put (d:=some d) (Ext.rfl' _) (fun k hk=>by cases hk;exact hd) rfl))
theorem rK {r:Nat}{u:Value}(hf:FrD n ds a w L)(hd:d<n)(hx:opd L x=some (E (.pointer (some ⟨r,0,none⟩))))(hen:(Instr.entry (.pointer (some ⟨r,0,none⟩))).run P w=.ok u w)
  (k:∀a',FrD n ds a' w ((d,E u)::L)→wpListIn (FW ro) 0 P ops Q rest a' w) :
  wpListIn (FW ro) 0 P ops Q (⟨some d,.entry x,ty,pos,aft,none⟩::rest) a w:=
 wpListIn_plain rfl fun K hK=>by
  have hxv:a.eval x=.pointer (some ⟨r,0,none⟩):=hf.opd x _ hx
  refine OpR.wp (R:=fun v w1=>v=u∧w1=w) ?_ ?_
  ·simp only[OpR,execOp,hxv,Sem.run_bind,hen,Result.andThen_ok,Sem.run_pure]
   exact⟨trivial,trivial⟩
  ·rintro v w1 ⟨rfl,rfl⟩
   exact hK _ _ (k _ (hf.put (d:=some d) (Ext.rfl' _) (fun k hk=>by cases hk;exact hd) rfl))
theorem gj {vs:Array Value}{i:Nat}{u:Value}(hf:FrD n ds a w L)(hd:d<n)(hx:opd L x=some (E (.tuple vs)))(hi:vs[i]?=some u)
  (k:∀a',FrD n ds a' w ((d,E u)::L)→wpListIn (FW ro) 0 P ops Q rest a' w) :
  wpListIn (FW ro) 0 P ops Q (⟨some d,.extract x i,ty,pos,aft,none⟩::rest) a w:=
 wpListIn_plain rfl fun K hK=>by
  have hxv:a.eval x=.tuple vs:=hf.opd x _ hx
  refine OpR.wp (R:=fun v w1=>v=u∧w1=w) ?_ ?_
  ·simp[OpR,execOp,hxv,Instr.extract,part,hi]
  ·rintro v w1 ⟨rfl,rfl⟩
   exact hK _ _ (k _ (hf.put (d:=some d) (Ext.rfl' _) (fun k hk=>by cases hk;exact hd) rfl))
end tail
end Go.Mono
namespace Go.Proofs
open Go.Shelf
def Tryz.sortV_ren:Go.Shelf.Ren:=⟨fun|6=>102|15=>122|14=>152|28=>166|29=>167|20=>172|21=>173|22=>174|23=>175|24=>176|25=>177|26=>178|27=>179|46=>203|47=>190|48=>191|49=>204|50=>205|57=>213|n=>n,fun|22=>54|24=>57|25=>165|3=>3|39=>166|0=>0|53=>213|55=>66|4=>4|46=>207|45=>206|50=>114|5=>5|9=>9|66=>229|70=>233|76=>245|77=>110|n=>n,fun|n=>n⟩
theorem Tryz.sortV:Go.Proofs.SlLaysF0.n6 Tryz.prog Tryz.sortV_ren:={
 mixed:=by kernel_rfl
 f6:=⟨Tryz.f102.name,by decide,Tryz.func102.trans (congrArg some (by kernel_rfl))⟩
 f14:=⟨Tryz.f152.name,by decide,Tryz.func152.trans (congrArg some (by kernel_rfl))⟩
 f15:=Tryz.func122.trans (congrArg some (by kernel_rfl))
 f20:=⟨Tryz.f172.name,by decide,Tryz.func172.trans (congrArg some (by kernel_rfl))⟩
 f21:=⟨Tryz.f173.name,by decide,Tryz.func173.trans (congrArg some (by kernel_rfl))⟩
 f22:=⟨Tryz.f174.name,by decide,Tryz.func174.trans (congrArg some (by kernel_rfl))⟩
 f23:=⟨Tryz.f175.name,by decide,Tryz.func175.trans (congrArg some (by kernel_rfl))⟩
 f24:=⟨Tryz.f176.name,by decide,Tryz.func176.trans (congrArg some (by kernel_rfl))⟩
 f25:=⟨Tryz.f177.name,by decide,Tryz.func177.trans (congrArg some (by kernel_rfl))⟩
 f26:=⟨Tryz.f178.name,by decide,Tryz.func178.trans (congrArg some (by kernel_rfl))⟩
 f27:=⟨Tryz.f179.name,by decide,Tryz.func179.trans (congrArg some (by kernel_rfl))⟩
 f28:=Tryz.func166.trans (congrArg some (by kernel_rfl))
 f29:=Tryz.func167.trans (congrArg some (by kernel_rfl))
 f46:=⟨Tryz.f203.name,by decide,Tryz.func203.trans (congrArg some (by kernel_rfl))⟩
 f47:=Tryz.func190.trans (congrArg some (by kernel_rfl))
 f48:=Tryz.func191.trans (congrArg some (by kernel_rfl))
 f49:=⟨Tryz.f204.name,by decide,Tryz.func204.trans (congrArg some (by kernel_rfl))⟩
 f50:=⟨Tryz.f205.name,by decide,Tryz.func205.trans (congrArg some (by kernel_rfl))⟩
 f57:=⟨Tryz.f213.name,by decide,Tryz.func213.trans (congrArg some (by kernel_rfl))⟩
 t0:=Tryz.underlying0
 a0:=Tryz.isAgg0
 z0:=Tryz.sizeOf0
 v0:=Tryz.zeroValue0
 t3:=Tryz.underlying3
 a3:=Tryz.isAgg3
 z3:=Tryz.sizeOf3
 v3:=Tryz.zeroValue3
 t4:=Tryz.underlying4
 a4:=Tryz.isAgg4
 z4:=Tryz.sizeOf4
 v4:=Tryz.zeroValue4
 t5:=Tryz.underlying5
 a5:=Tryz.isAgg5
 z5:=Tryz.sizeOf5
 v5:=Tryz.zeroValue5
 t9:=Tryz.underlying9
 a9:=Tryz.isAgg9
 z9:=Tryz.sizeOf9
 v9:=Tryz.zeroValue9
 t22:=Tryz.underlying54
 a22:=Tryz.isAgg54
 z22:=Tryz.sizeOf54
 v22:=Tryz.zeroValue54
 t25:=Tryz.underlying165
 a25:=Tryz.isAgg165
 z25:=Tryz.sizeOf165
 v25:=Tryz.zeroValue165
 t39:=Tryz.underlying166
 a39:=Tryz.isAgg166
 z39:=Tryz.sizeOf166
 v39:=Tryz.zeroValue166
 t45:=Tryz.underlying206
 a45:=Tryz.isAgg206
 z45:=Tryz.sizeOf206
 v45:=Tryz.zeroValue206
 t46:=Tryz.underlying207
 a46:=Tryz.isAgg207
 z46:=Tryz.sizeOf207
 v46:=Tryz.zeroValue207
 t50:=Tryz.underlying114
 a50:=Tryz.isAgg114
 z50:=Tryz.sizeOf114
 v50:=Tryz.zeroValue114
 t53:=Tryz.underlying213
 a53:=Tryz.isAgg213
 z53:=Tryz.sizeOf213
 v53:=Tryz.zeroValue213
 t55:=Tryz.underlying66
 a55:=Tryz.isAgg66
 z55:=Tryz.sizeOf66
 v55:=Tryz.zeroValue66
 t66:=Tryz.underlying229
 a66:=Tryz.isAgg229
 z66:=Tryz.sizeOf229
 v66:=Tryz.zeroValue229
 t70:=Tryz.underlying233
 a70:=Tryz.isAgg233
 z70:=Tryz.sizeOf233
 v70:=Tryz.zeroValue233
 t76:=Tryz.underlying245
 a76:=Tryz.isAgg245
 z76:=Tryz.sizeOf245
 v76:=Tryz.zeroValue245
 t77:=Tryz.underlying110
 a77:=Tryz.isAgg110
 z77:=Tryz.sizeOf110
 v77:=Tryz.zeroValue110 }
def Tryz.sortE_ren:Go.Shelf.Ren:=⟨fun|6=>89|15=>122|14=>121|28=>166|29=>167|20=>158|21=>159|22=>160|23=>161|24=>162|25=>163|26=>164|27=>165|46=>189|47=>190|48=>191|49=>192|50=>193|57=>209|n=>n,fun|22=>55|24=>60|25=>152|3=>3|39=>166|0=>0|53=>213|55=>66|4=>4|46=>207|45=>206|50=>114|5=>5|9=>9|66=>229|70=>233|76=>245|77=>110|n=>n,fun|n=>n⟩
theorem Tryz.sortE:Go.Proofs.SlLaysF0.n6 Tryz.prog Tryz.sortE_ren:={
 mixed:=by kernel_rfl
 f6:=⟨Tryz.f89.name,by decide,Tryz.func89.trans (congrArg some (by kernel_rfl))⟩
 f14:=⟨Tryz.f121.name,by decide,Tryz.func121.trans (congrArg some (by kernel_rfl))⟩
 f15:=Tryz.func122.trans (congrArg some (by kernel_rfl))
 f20:=⟨Tryz.f158.name,by decide,Tryz.func158.trans (congrArg some (by kernel_rfl))⟩
 f21:=⟨Tryz.f159.name,by decide,Tryz.func159.trans (congrArg some (by kernel_rfl))⟩
 f22:=⟨Tryz.f160.name,by decide,Tryz.func160.trans (congrArg some (by kernel_rfl))⟩
 f23:=⟨Tryz.f161.name,by decide,Tryz.func161.trans (congrArg some (by kernel_rfl))⟩
 f24:=⟨Tryz.f162.name,by decide,Tryz.func162.trans (congrArg some (by kernel_rfl))⟩
 f25:=⟨Tryz.f163.name,by decide,Tryz.func163.trans (congrArg some (by kernel_rfl))⟩
 f26:=⟨Tryz.f164.name,by decide,Tryz.func164.trans (congrArg some (by kernel_rfl))⟩
 f27:=⟨Tryz.f165.name,by decide,Tryz.func165.trans (congrArg some (by kernel_rfl))⟩
 f28:=Tryz.func166.trans (congrArg some (by kernel_rfl))
 f29:=Tryz.func167.trans (congrArg some (by kernel_rfl))
 f46:=⟨Tryz.f189.name,by decide,Tryz.func189.trans (congrArg some (by kernel_rfl))⟩
 f47:=Tryz.func190.trans (congrArg some (by kernel_rfl))
 f48:=Tryz.func191.trans (congrArg some (by kernel_rfl))
 f49:=⟨Tryz.f192.name,by decide,Tryz.func192.trans (congrArg some (by kernel_rfl))⟩
 f50:=⟨Tryz.f193.name,by decide,Tryz.func193.trans (congrArg some (by kernel_rfl))⟩
 f57:=⟨Tryz.f209.name,by decide,Tryz.func209.trans (congrArg some (by kernel_rfl))⟩
 t0:=Tryz.underlying0
 a0:=Tryz.isAgg0
 z0:=Tryz.sizeOf0
 v0:=Tryz.zeroValue0
 t3:=Tryz.underlying3
 a3:=Tryz.isAgg3
 z3:=Tryz.sizeOf3
 v3:=Tryz.zeroValue3
 t4:=Tryz.underlying4
 a4:=Tryz.isAgg4
 z4:=Tryz.sizeOf4
 v4:=Tryz.zeroValue4
 t5:=Tryz.underlying5
 a5:=Tryz.isAgg5
 z5:=Tryz.sizeOf5
 v5:=Tryz.zeroValue5
 t9:=Tryz.underlying9
 a9:=Tryz.isAgg9
 z9:=Tryz.sizeOf9
 v9:=Tryz.zeroValue9
 t22:=Tryz.underlying55
 a22:=Tryz.isAgg55
 z22:=Tryz.sizeOf55
 v22:=Tryz.zeroValue55
 t25:=Tryz.underlying152
 a25:=Tryz.isAgg152
 z25:=Tryz.sizeOf152
 v25:=Tryz.zeroValue152
 t39:=Tryz.underlying166
 a39:=Tryz.isAgg166
 z39:=Tryz.sizeOf166
 v39:=Tryz.zeroValue166
 t45:=Tryz.underlying206
 a45:=Tryz.isAgg206
 z45:=Tryz.sizeOf206
 v45:=Tryz.zeroValue206
 t46:=Tryz.underlying207
 a46:=Tryz.isAgg207
 z46:=Tryz.sizeOf207
 v46:=Tryz.zeroValue207
 t50:=Tryz.underlying114
 a50:=Tryz.isAgg114
 z50:=Tryz.sizeOf114
 v50:=Tryz.zeroValue114
 t53:=Tryz.underlying213
 a53:=Tryz.isAgg213
 z53:=Tryz.sizeOf213
 v53:=Tryz.zeroValue213
 t55:=Tryz.underlying66
 a55:=Tryz.isAgg66
 z55:=Tryz.sizeOf66
 v55:=Tryz.zeroValue66
 t66:=Tryz.underlying229
 a66:=Tryz.isAgg229
 z66:=Tryz.sizeOf229
 v66:=Tryz.zeroValue229
 t70:=Tryz.underlying233
 a70:=Tryz.isAgg233
 z70:=Tryz.sizeOf233
 v70:=Tryz.zeroValue233
 t76:=Tryz.underlying245
 a76:=Tryz.isAgg245
 z76:=Tryz.sizeOf245
 v76:=Tryz.zeroValue245
 t77:=Tryz.underlying110
 a77:=Tryz.isAgg110
 z77:=Tryz.sizeOf110
 v77:=Tryz.zeroValue110 }
end Go.Proofs
namespace Go.Mono
open Go Go.Proofs Go.RowKit Go.Gr Go.Sort
instance:Inhabited VT:=⟨(0,(0,0))⟩
instance:Inhabited ET:=⟨((0,0),(0,0))⟩
theorem a0j (x y:Int):decide (MonoD.cmpI x y<0)=decide (x<y):=by
 unfold MonoD.cmpI
 by_cases h1:x<y
 ·simp[h1]
 ·by_cases h2:y<x <;> simp[h1,h2]
theorem ky (x y:VT):ltOf (fun x y:VT=>MonoD.cmpI x.1 y.1) x y=lt1 x.1 y.1:=a0j _ _
theorem kz (x y:ET):ltOf (fun x y:ET=>MonoD.orI (MonoD.cmpI x.1.1 y.1.1) (MonoD.cmpI x.1.2 y.1.2)) x y=lt2 x.1 y.1:=by
 unfold ltOf MonoD.orI MonoD.cmpI lt2
 by_cases h1:x.1.1<y.1.1
 ·simp[h1]
 ·by_cases h2:y.1.1<x.1.1
  ·simp[h1,h2];omega
  ·have:x.1.1=y.1.1:=by omega
   by_cases h3:x.1.2<y.1.2
   ·simp[h1,h2,h3,this]
   ·by_cases h4:y.1.2<x.1.2 <;> simp[h1,h2,h3,h4,this]
theorem a0k:SWO (ltOf fun x y:VT=>MonoD.cmpI x.1 y.1) where
 irrefl x:=by rw[ky];simp[lt1]
 trans x y z h1 h2:=by rw[ky] at *;exact qB h1 h2
 ntrans x y z h1 h2:=by rw[ky] at *;simp only[lt1,decide_eq_false_iff_not] at *;omega
theorem rL:SWO (ltOf fun x y:ET=>MonoD.orI (MonoD.cmpI x.1.1 y.1.1) (MonoD.cmpI x.1.2 y.1.2)) where
 irrefl x:=by rw[kz];exact yu _
 trans x y z h1 h2:=by rw[kz] at *;exact qA h1 h2
 ntrans x y z h1 h2:=by rw[kz] at *;simp only[lt2,decide_eq_false_iff_not] at *;omega
def vtL (x:VT):List Value:=[.int .i64 x.1,.int .u8 x.2.1,.int .i64 x.2.2]
def etL (x:ET):List Value:=[.int .i64 x.1.1,.int .i64 x.1.2,.int .u8 x.2.1,.int .i64 x.2.2]
theorem a0l (G:Nat→Prop)(w:World)(x:VT)(cs:List Value):vtE.r G w x cs↔cs=vtL x:=
 ⟨fun⟨c,d,h,h1,c2,d2,h2,h3,h4⟩=>by cases h1;cases h3;cases h4;subst h2;subst h;rfl,fun h=>⟨_,_,by rw[h];rfl,rfl,_,_,rfl,rfl,rfl⟩⟩
theorem rM (G:Nat→Prop)(w:World)(x:ET)(cs:List Value):etE.r G w x cs↔cs=etL x:=
 ⟨fun⟨c,d,h,⟨c1,d1,h1,h1a,h1b⟩,c2,d2,h2,h3,h4⟩=>by cases h1a;cases h1b;cases h3;cases h4;subst h1;subst h2;subst h;rfl,fun h=>⟨_,_,by rw[h];rfl,⟨_,_,rfl,rfl,rfl⟩,_,_,rfl,rfl,rfl⟩⟩
theorem a0m {B:Nat}{G:Nat→Prop}{w:World}{xs:List VT}{v:Value}(Ho:OwR vtE 57 B G w xs v)(hl:xs.length≤100000) :
  Calls Tryz.prog 102 #[v,.func (.func 103) #[] #[]] w fun en w'=>en=.returned (.tuple #[])∧∃xs',xs'.Perm xs∧xs'.Pairwise (fun x y=>lt1 y.1 x.1=false)∧OwR vtE 57 B G w' xs' v∧Chg (fun b=>v.ownBlock=some b) w w':=
 (kx (e:=vtE) Tryz.sortV (fun w=>T57.agg w) (fun w=>T57.size w) vtL a0l (fun _=>rfl) (fun x u hu=>by simp[vtL] at hu;rcases hu with rfl|rfl|rfl <;> rfl) _ a0k 103 wU
  (fun x y W=>(MonoD.cmpV_spec x y W).mono fun en w' ⟨u,h1,h2,h3⟩=>by cases h3;exact⟨h1,h2.grown⟩) Ho hl).mono fun en w' ⟨h1,xs',h2,h3,h4,h5⟩=>⟨h1,xs',h2,h3.imp fun {a b} h=>by rwa [ky] at h,h4,h5⟩
theorem a0n {B:Nat}{G:Nat→Prop}{w:World}{xs:List ET}{v:Value}(Ho:OwR etE 60 B G w xs v)(hl:xs.length≤100000) :
  Calls Tryz.prog 89 #[v,.func (.func 90) #[] #[]] w fun en w'=>en=.returned (.tuple #[])∧∃xs',xs'.Perm xs∧xs'.Pairwise (fun x y=>lt2 y.1 x.1=false)∧OwR etE 60 B G w' xs' v∧Chg (fun b=>v.ownBlock=some b) w w':=
 (kx (e:=etE) Tryz.sortE (fun w=>T60.agg w) (fun w=>T60.size w) etL rM (fun _=>rfl) (fun x u hu=>by simp[etL] at hu;rcases hu with rfl|rfl|rfl|rfl <;> rfl) _ rL 90 wM
  (fun x y W=>(MonoD.cmpE_spec x y W).mono fun en w' ⟨u,h1,h2,h3⟩=>by cases h3;exact⟨h1,h2.grown⟩) Ho hl).mono fun en w' ⟨h1,xs',h2,h3,h4,h5⟩=>⟨h1,xs',h2,h3.imp fun {a b} h=>by rwa [kz] at h,h4,h5⟩
theorem bVx (x:VT):Tryz.prog.built 57 [(0,.int .i64 x.1),(1,.int .u8 x.2.1),(2,.int .i64 x.2.2)]=some #[.int .i64 x.1,.int .u8 x.2.1,.int .i64 x.2.2]:=by kernel_rfl
theorem bEx (x:ET):Tryz.prog.built 60 [(0,.int .i64 x.1.1),(1,.int .i64 x.1.2),(2,.int .u8 x.2.1),(3,.int .i64 x.2.2)]=some #[.int .i64 x.1.1,.int .i64 x.1.2,.int .u8 x.2.1,.int .i64 x.2.2]:=by kernel_rfl
theorem a0o {G:Nat→Prop}{N:Nat}(g:GT)(v:Value)(W:World)(h:(Dv (ptE (grE N)) G (some g)).p v W)(hG:∀b,G b→b<W.heap.size)(hs:g.1.Pairwise fun x y=>lt1 x.1 y.1=true)(hl:g.1.length≤100000)(hN:N≤1000000) :
  Calls Tryz.prog 56 #[v] W (Post (OwA vtE 57 W.heap.size G g.1) W):=by
 refine enter (args:=[v]) (As:=[Dv (ptE (grE N)) (GB W G) (some g)]) Tryz.func56 rfl Tryz.ntmps56 (Nat.le_of_ble_eq_true rfl) ?_ (fun a hf=>?_) (Nat.le_of_ble_eq_true rfl)
 rotate_left
 rotate_right
 ·exact arg1 (Dv.toB h)
 have e:=Ext.rfl' W
 refine seq <| ae <| aI hf rfl (by decide) fun a hf=>aa ?_
 repeat refine seq ?_
 refine aN 2 hf (by decide +kernel) <| st (mv rfl) <| st (dX Tryz.underlying28 (isR rfl)) <| en fun a w e' hf=>?_
 replace e:=e.tr e'
 refine aa <| ifc hf rfl (fun h=>by cases h) (fun _=>?_)
 refine ak <| seq <| ae <| aI hf rfl (by decide) fun a hf=>aa ?_
 repeat refine seq ?_
 refine aN 4 hf (by decide +kernel) <| st (mv rfl) <| st (fW (isR rfl)) <| st (aB Tryz.underlying144 rfl eH (by decide) (Fld.fst Fld.refl) (isR rfl)) <| st (ldD eH (isR rfl)) <| en fun a w e' hf=>?_
 replace e:=e.tr e'
 obtain⟨_,⟨cs,⟨bm,nm,rfl,hGm,hNm,HM⟩,rfl⟩,hf⟩:=hf.fix 11 rfl
 have hbm:bm<W.heap.size:=Nat.lt_of_not_le fun h=>hGm (.inr h)
 refine rI (V:=vKV) Tryz.underlying141 hf (by decide) rfl HM fun a r w e' hr hsr HR hf=>?_
 have hrW:W.heap.size≤r:=Nat.le_trans e.size (Nat.le_of_eq hr.symm)
 replace e:=e.tr e'
 have hrs:r+1≤w.heap.size:=by omega
 refine aa ?_
 replace hf:=hf.keep [2,3,12]
 refine blk (aJ (fun r0 a w=>∃(old rest:List VT) (u:Value),r0=rest.length∧Fr 30 a w [(2,E (.slice none 0 0)),(3,E u),(12,E (.pointer (some ⟨r,0,none⟩)))]∧Ext W w∧RgR vKV w bm r nm old rest∧OwR vtE 57 (r+1) G w old u∧(old++rest).Perm g.1) g.1.length ⟨[],g.1,.slice none 0 0,rfl,hf,e,HR,OwR.nil vtE _ hrs fun b hb=>Nat.lt_of_lt_of_le (hG b hb) (by omega),List.Perm.refl _⟩ ?_)
 rintro r0 a w ⟨old,rest,u,rfl,hf,e,HR,Ho,hp⟩
 refine seq <| ae <| rJ hf (by decide) rfl HR (fun a hrest hf=>?_) (fun a w' x c hm hg HR hen hf=>?_)
 ·refine gj hf (by decide) rfl rfl fun a hf=>aa <| seq <| ifc hf rfl (fun h=>by cases h) (fun _=>?_)
  refine aG ?_
  subst hrest
  rw[List.append_nil] at hp
  replace hf:=hf.kp [2,3]
  refine seq <| aN 1 hf (by decide +kernel) <| st (mv rfl) <| en fun a w e' hf=>?_
  replace Ho:=Ho.ext e'
  replace e:=e.tr e'
  refine bU (S:=fun b=>u.ownBlock=some b) (F:=fun z w'=>OwR vtE 57 (r+1) G w' g.1 u) hf (by decide) wT ?_ fun a z w hc hF hf=>?_
  ·have e27:a.eval (.tmp 27)=u:=hf.opd (.tmp 27) _ rfl
   have eF:a.eval (.func 103)=.func (.func 103) #[] #[]:=rfl
   simp only[List.map_toArray,List.map_cons,List.map_nil,e27,eF]
   exact (a0m Ho (by rw[hp.length_eq];exact hl)).mono fun en w' ⟨k1,xs',k2,k3,k4,k5⟩=>⟨_,k1,k5,by rw[← mT (lt:=fun x y:VT=>lt1 x.1 y.1) (k2.trans hp) hs k3];exact k4⟩
  replace e:=e.ch hc (fun b hb=>by have:=(Ho.lt hb).1;omega)
  refine aa ?_
  replace hf:=hf.keep [2,3]
  refine seq <| aN 1 hf (by decide +kernel) <| st (mv rfl) <| en fun a w e' hf=>?_
  replace hF:=hF.ext e'
  replace e:=e.tr e'
  refine aI hf rfl (by decide) fun a hf=>aa <| ai <| ap rfl hf rfl ?_
  rintro _ rfl
  exact⟨_,rfl,e,hF.low (by omega) hG⟩
 ·have nr:u.ownBlock≠some r:=Ho.neLt (by omega)
  have HR0:(old++rest).Pairwise (fun p q:VT=>p.1≠q.1):=(hp.pairwise_iff (fun {_ _} hne=>Ne.symm hne)).2 (hs.imp fun {a b} h=>(jb h).2)
  replace e:=e.gr hg hrW;replace Ho:=Ho.grE hg nr;clear hg nr
  refine gj hf (by decide) rfl rfl fun a hf=>aa <| seq <| ifc hf rfl (fun _=>?_) (fun h=>by cases h)
  refine ak <| blk <| seq <| ae <| rK hf (by decide) rfl hen fun a hf=>?_
  have hlen:old.length+1≤g.1.length:=by
   have h1:=hp.length_eq;have h2:0<rest.length:=List.length_pos_of_mem hm
   rw[List.length_append] at h1;omega
  replace hf:=hf.keep [2,3,12,15]
  refine gj hf (by decide) rfl rfl fun a hf=>gj hf (by decide) rfl rfl fun a hf=>?_
  have lr:=HR.lt
  refine me fM hf (by decide) fun a b5 w e' hb5 hs5 B5 hf=>?_
  have ne5_Ho:=Ho.ne_new hb5
  replace HR:=HR.ext e'
  replace Ho:=Ho.ext e'
  replace e:=e.tr e'
  refine aI hf rfl (by decide) fun a hf=>?_
  have n5:=ne5_Ho
  replace HR:RgR vKV w bm r nm (old++[(x,c)]) (rest.filter fun p => !decide (p.1=x)):=HR
  replace hf:=hf.kp [2,3,4,5,12,17]
  refine az iO hf rfl rfl (bY rfl rfl) B5 rfl rfl fun w hg' hsz B5 hf=>?_
  replace e:=e.gr hg' (by omega);replace HR:=HR.gr hg' (fun h=>by cases h;omega) (fun h=>by cases h;omega);replace Ho:=Ho.grE hg' n5;clear hg'
  refine aa ?_
  replace hf:=hf.kp [2,3,4,5,12]
  refine aN 8 hf (by decide +kernel) <| st (mv rfl) <| st (mv rfl) <| st (dH Tryz.underlying148 rfl T5 (by decide) rfl) <| st (ld1 T5 rfl B5 rfl) <| st (dH Tryz.underlying148 rfl T3 (by decide) rfl) <| st (ld1 T3 rfl B5 rfl) <| st (qJ (x,c) (bVx (x,c)) rfl rfl rfl) <| st (bB Tryz.underlying54 I57 rfl (by decide) rfl Ho.avs (eu rfl)) <| en fun a w e' hf=>?_
  replace HR:=HR.ext e'
  replace Ho:=Ho.ext e'
  replace e:=e.tr e'
  replace B5:=B5.ext e'
  haveI hin:∀G0,InR (GB W G0) _:=OwR.inGB (W:=W) Ho (by omega)
  refine bI Tryz.underlying54 I57 rfl rfl hf (by decide) rfl Ho (isR rfl) (by simp only[List.length_singleton];omega) (by simp only[List.length_singleton,maxLen];omega) fun a v w hg hat Hn hf=>?_
  replace e:=e.gro hg (Ho.row (W:=W) (by omega))
  replace HR:=HR.gr hg (fun h=>by have:=(Ho.lt h.symm).1;omega) (fun h=>by have:=(Ho.lt h.symm).1;omega)
  replace Ho:=Hn
  replace B5:=B5.gro hg (by assumption)
  replace Ho:=Hn;clear Hn hg hat hin
  refine aI hf rfl (by decide) fun a hf=>aa ?_
  replace hf:=hf.keep [2,3,12]
  refine⟨_,?_,old++[(x,c)],_,_,rfl,hf,e,HR,Ho,?_⟩
  ·have:=(im (List.pairwise_append.1 HR0).2.1 hm).length_eq
   simp only[List.length_cons] at this;omega
  ·rw[List.append_assoc];exact (List.Perm.append_left old (im (List.pairwise_append.1 HR0).2.1 hm).symm).trans hp
theorem rN {G:Nat→Prop}{N:Nat}(g:GT)(v:Value)(W:World)(h:(Dv (ptE (grE N)) G (some g)).p v W)(hG:∀b,G b→b<W.heap.size)(hs:g.2.Pairwise fun x y=>lt2 x.1 y.1=true)(hl:g.2.length≤100000)(hN:N≤1000000) :
  Calls Tryz.prog 42 #[v] W (Post (OwA etE 60 W.heap.size G g.2) W):=by
 refine eN [v] [Dv (ptE (grE N)) (GB W G) (some g)] Tryz.func42 Tryz.ntmps42 ?_ fun a hf=>?_
 rotate_left
 rotate_right
 ·exact arg1 (Dv.toB h)
 have e:=Ext.rfl' W
 refine seq <| ae <| tA hf rfl fun a hf=>aa ?_
 repeat refine seq ?_
 refine rgN 2 hf <| st (mv rfl) <| st (dX U28 (isR rfl)) <| en fun a w e' hf=>?_
 replace e:=e.tr e'
 refine aa <| ifc hf rfl (fun h=>by cases h) (fun _=>?_)
 refine ak <| seq <| ae <| tA hf rfl fun a hf=>aa ?_
 repeat refine seq ?_
 refine rgN 4 hf <| st (mv rfl) <| st (fW (isR rfl)) <| st (aB fk rfl eI (by decide) (Fld.snd Fld.refl rfl) (isR rfl)) <| st (ldD eI (isR rfl)) <| en fun a w e' hf=>?_
 replace e:=e.tr e'
 obtain⟨_,⟨cs,⟨bm,nm,rfl,hGm,hNm,HM⟩,rfl⟩,hf⟩:=hf.fix 11 rfl
 have hbm:bm<W.heap.size:=Nat.lt_of_not_le fun h=>hGm (.inr h)
 refine rI (V:=eKV) iT hf (by decide) rfl HM fun a r w e' hr hsr HR hf=>?_
 have hrW:W.heap.size≤r:=Nat.le_trans e.size (Nat.le_of_eq hr.symm)
 replace e:=e.tr e'
 have hrs:r+1≤w.heap.size:=by omega
 refine aa ?_
 replace hf:=hf.keep [2,3,12]
 refine blk (aJ (fun r0 a w=>∃(old rest:List ET) (u:Value),r0=rest.length∧Fr 33 a w [(2,E (.slice none 0 0)),(3,E u),(12,E (.pointer (some ⟨r,0,none⟩)))]∧Ext W w∧RgR eKV w bm r nm old rest∧OwR etE 60 (r+1) G w old u∧(old++rest).Perm g.2) g.2.length ⟨[],g.2,.slice none 0 0,rfl,hf,e,HR,OwR.nil etE _ hrs fun b hb=>Nat.lt_of_lt_of_le (hG b hb) (by omega),List.Perm.refl _⟩ ?_)
 rintro r0 a w ⟨old,rest,u,rfl,hf,e,HR,Ho,hp⟩
 refine seq <| ae <| rJ hf (by decide) rfl HR (fun a hrest hf=>?_) (fun a w' x c hm hg HR hen hf=>?_)
 ·refine gj hf (by decide) rfl rfl fun a hf=>aa <| seq <| ifc hf rfl (fun h=>by cases h) (fun _=>?_)
  refine aG ?_
  subst hrest
  rw[List.append_nil] at hp
  replace hf:=hf.kp [2,3]
  refine seq <| rgN 1 hf <| st (mv rfl) <| en fun a w e' hf=>?_
  obtain⟨Ho,e⟩:=up2 e' Ho e
  refine bU (S:=fun b=>u.ownBlock=some b) (F:=fun z w'=>OwR etE 60 (r+1) G w' g.2 u) hf (by decide) pI ?_ fun a z w hc hF hf=>?_
  ·have e30:a.eval (.tmp 30)=u:=hf.opd (.tmp 30) _ rfl
   have eF:a.eval (.func 90)=.func (.func 90) #[] #[]:=rfl
   simp only[List.map_toArray,List.map_cons,List.map_nil,e30,eF]
   exact (a0n Ho (by rw[hp.length_eq];exact hl)).mono fun en w' ⟨k1,xs',k2,k3,k4,k5⟩=>⟨_,k1,k5,by rw[← mT (lt:=fun x y:ET=>lt2 x.1 y.1) (k2.trans hp) hs k3];exact k4⟩
  replace e:=e.ch hc (fun b hb=>by have:=(Ho.lt hb).1;omega)
  refine aa ?_
  replace hf:=hf.keep [2,3]
  refine seq <| rgN 1 hf <| st (mv rfl) <| en fun a w e' hf=>?_
  obtain⟨hF,e⟩:=up2 e' hF e
  refine tA hf rfl fun a hf=>aa <| ai <| ap rfl hf rfl ?_
  rintro _ rfl
  exact⟨_,rfl,e,hF.low (by omega) hG⟩
 ·have nr:u.ownBlock≠some r:=Ho.neLt (by omega)
  have HR0:(old++rest).Pairwise (fun p q:ET=>p.1≠q.1):=(hp.pairwise_iff (fun {_ _} hne=>Ne.symm hne)).2 (hs.imp fun {a b} h=>(iZ h).2)
  replace e:=e.gr hg hrW;replace Ho:=Ho.grE hg nr;clear hg nr
  refine gj hf (by decide) rfl rfl fun a hf=>aa <| seq <| ifc hf rfl (fun _=>?_) (fun h=>by cases h)
  refine ak <| blk <| seq <| ae <| rK hf (by decide) rfl hen fun a hf=>?_
  have hlen:old.length+1≤g.2.length:=by
   have h1:=hp.length_eq;have h2:0<rest.length:=List.length_pos_of_mem hm
   rw[List.length_append] at h1;omega
  replace hf:=hf.keep [2,3,12,15]
  refine gj hf (by decide) rfl rfl fun a hf=>gj hf (by decide) rfl rfl fun a hf=>?_
  have lr:=HR.lt
  refine tL pk hf fun a b4 w e' hb4 hs4 B4 hf=>?_
  have ne4_Ho:=Ho.ne_new hb4
  obtain⟨HR,Ho,e⟩:=up3 e' HR Ho e
  refine tL fM hf fun a b5 w e' hb5 hs5 B5 hf=>?_
  have ne5_Ho:=Ho.ne_new hb5
  obtain⟨HR,Ho,e,B4⟩:=up4 e' HR Ho e B4
  have n5:=ne5_Ho
  have n4:=ne4_Ho
  replace HR:RgR eKV w bm r nm (old++[(x,c)]) (rest.filter fun p => !decide (p.1=x)):=HR
  replace hf:=hf.kp [2,3,4,5,12,16,17]
  refine az mm hf rfl rfl (bY rfl rfl) B4 rfl rfl fun w hg' hsz B4 hf=>?_
  replace e:=e.gr hg' (by omega);replace HR:=HR.gr hg' (fun h=>by cases h;omega) (fun h=>by cases h;omega);replace Ho:=Ho.grE hg' n4;replace B5:=B5.gr hg' (by omega);clear hg'
  refine az iO hf rfl rfl (bY rfl rfl) B5 rfl rfl fun w hg' hsz B5 hf=>?_
  replace e:=e.gr hg' (by omega);replace HR:=HR.gr hg' (fun h=>by cases h;omega) (fun h=>by cases h;omega);replace Ho:=Ho.grE hg' n5;replace B4:=B4.gr hg' (by omega);clear hg'
  refine aa ?_
  replace hf:=hf.kp [2,3,4,5,12]
  refine rgN 11 hf <| st (mv rfl) <| st (fA iU rfl T3 rfl) <| st (ld1 T3 rfl B4 rfl) <| st (fA iU rfl T3 rfl) <| st (ld1 T3 rfl B4 rfl) <| st (fA pS rfl T5 rfl) <| st (ld1 T5 rfl B5 rfl) <| st (fA pS rfl T3 rfl) <| st (ld1 T3 rfl B5 rfl) <| st (qK (x,c) (bEx (x,c)) rfl rfl rfl rfl) <| st (bB U55 I60 rfl (by decide) rfl Ho.avs (ea rfl)) <| en fun a w e' hf=>?_
  obtain⟨HR,Ho,e,B4,B5⟩:=up5 e' HR Ho e B4 B5
  haveI hin:∀G0,InR (GB W G0) _:=OwR.inGB (W:=W) Ho (by omega)
  refine bI U55 I60 rfl rfl hf (by decide) rfl Ho (isR rfl) (by simp only[List.length_singleton];omega) (by simp only[List.length_singleton,maxLen];omega) fun a v w hg hat Hn hf=>?_
  replace e:=e.gro hg (Ho.row (W:=W) (by omega))
  replace HR:=HR.gr hg (fun h=>by have:=(Ho.lt h.symm).1;omega) (fun h=>by have:=(Ho.lt h.symm).1;omega)
  replace Ho:=Hn
  replace B4:=B4.gro hg (by assumption)
  replace B5:=B5.gro hg (by assumption)
  replace Ho:=Hn;clear Hn hg hat hin
  refine tA hf rfl fun a hf=>aa ?_
  replace hf:=hf.keep [2,3,12]
  refine⟨_,?_,old++[(x,c)],_,_,rfl,hf,e,HR,Ho,?_⟩
  ·have:=(im (List.pairwise_append.1 HR0).2.1 hm).length_eq
   simp only[List.length_cons] at this;omega
  ·rw[List.append_assoc];exact (List.Perm.append_left old (im (List.pairwise_append.1 HR0).2.1 hm).symm).trans hp
end Go.Mono
namespace Go.Mono
open Go Go.Proofs Go.RowKit Go.Gr
def doP (g:GT)(d:DT):GT:=if d.1=0 then (bE g.1 d.2.1 d.2.2.2,g.2) else (g.1,bE g.2 (Gr.ends d.2.1 d.2.2.1) d.2.2.2)
def apP (g:GT)(d:DT):GT:=if bR g d=0 then doP g d else g
theorem rO (g:GT)(d:DT)(bg bv be n:Nat)(W:World)(hg:GrR W bg bv be n g)(hn:n<maxLen)(hd:d.1=0∨d.1=2∨bR g d≠0)(hw:(Lit.int .i64 d.2.1).wf=true)(hw2:(Lit.int .i64 d.2.2.1).wf=true)(ho:okT d.2.2.2) :
  Calls Tryz.prog 52 #[.pointer (some ⟨bg,0,none⟩),dtV d] W fun en w'=>en=.returned (I (bR g d))∧Chg (fun b=>b=bv∨b=be) W w'∧GrR w' bg bv be (n+1) (apP g d):=by
 refine eN [.pointer (some ⟨bg,0,none⟩),dtV d] [E (.pointer (some ⟨bg,0,none⟩)),E (dtV d)] Tryz.func52 Tryz.ntmps52 ?_ fun a hf=>?_
 rotate_left
 dsimp only[params,Nat.reduceAdd] at hf
 rotate_right
 ·exact arg2 rfl rfl
 have e:=Ext.rfl' W
 refine seq <| ae <| tB hf rfl fun a b3 w v3 hv3 e' hb3 hs3 B3 hf=>?_
 obtain⟨e,hg⟩:=up2 e' e hg
 refine tA hf rfl fun a hf=>aa ?_
 cases hv3
 repeat refine seq ?_
 refine rgN 2 hf <| st (mv rfl) <| st (dX U28 (isE rfl (hg.dv (Nat.le_refl _) (G:=G0) id id id))) <| en fun a w e' hf=>?_
 obtain⟨e,hg,B3⟩:=up3 e' e hg B3
 refine aa <| ifc hf rfl (fun h=>by cases h) (fun _=>?_)
 refine ak ?_
 replace hf:=hf.keep [0,3,4]
 repeat refine seq ?_
 refine rgN 3 hf <| st (mv rfl) <| st ((ldW T53 rfl B3 rfl).eq ((rfl:_=dtV d))) <| st (ar (A:=E (I (bR g d))) wP rfl rfl (fun v u w he h h'=>by cases h;cases h';exact a0b (M:=n) (G:=G0) g d _ w ((hg.ext he).dv (Nat.le_refl _) id id id) hw hw2)) ?_
 refine en fun a w e' hf=>?_
 obtain⟨e,hg,B3⟩:=up3 e' e hg B3
 refine tA hf rfl fun a hf=>aa <| seq <| rgN 2 hf <| st (mv rfl) <| st (neq rfl rfl) <| en fun a w e' hf=>?_
 obtain⟨e,hg,B3⟩:=up3 e' e hg B3
 refine aa <| ifc hf rfl (fun hb=>?_) (fun hb=>?_)
 ·have hb':¬bR g d=0:=by simpa using hb
  refine seq <| rgN 1 hf <| st (mv rfl) <| en fun a w e' hf=>?_
  obtain⟨e,hg,B3⟩:=up3 e' e hg B3
  refine tA hf rfl fun a hf=>aa <| ai ?_
  simp only[Exit.then,Exit.inBlock]
  refine ap rfl hf rfl ?_
  rintro _ rfl
  exact⟨rfl,e.chg _,by rw[apP,if_neg hb'];exact hg.mono (Nat.le_succ _)⟩
 ·have hb':bR g d=0:=by simpa using hb
  refine ak ?_
  replace hf:=hf.kp [0,3,4]
  have fin:apP g d=doP g d:=by rw[apP,if_pos hb']
  rcases (show d.1=0∨d.1=2 from hd.elim .inl (fun h=>h.elim .inr (fun h=>absurd hb' h))) with hop|hop
  ·refine seq <| fD 7 [0,0,0,0,0,0] (Chg (fun b=>b=bv∨b=be)) (cR.chg _) (fun w=>GrR w bg bv be (n+1) (doP g d)) (fun w w1 k h=>h.ext k) Mix.mix hf (by decide +kernel) (by decide +kernel) <| ja (gD (A:=E (.agg ji)) pJ (fun w he=>rC w)) <| ja (fA U53 rfl T3 rfl) <| ja ((ld1 T3 rfl B3 rfl).eq ((congrArg (Value.int .i64) hop:_=I 0))) <| ja (jR pT pm rfl rfl (by decide) rfl) <| ja (mv rfl) <| ja ((ldW T53 rfl B3 rfl).eq ((rfl:_=dtV d))) <| jx (rq xy rfl rfl rfl (fun w he=>(a0d g d bg bv be n w (hg.ext he) hn hw ho).mono fun en w' ⟨h1,h2,h3⟩=>⟨_,h1,h2,by rw[doP,if_pos hop];exact h3⟩)) ?_
   refine je <| fun a w hc HF hf=>aa ?_
   replace hf:=hf.keep [4]
   refine seq <| ae <| tA hf rfl fun a hf=>aa <| ai <| ap rfl hf rfl ?_
   rintro _ rfl
   exact⟨by rw[hb'],(e.chg _).tr hc,by rw[fin];exact HF⟩
  ·refine seq <| fD 7 [0,0,0,0,0,0] (Chg (fun b=>b=bv∨b=be)) (cR.chg _) (fun w=>GrR w bg bv be (n+1) (doP g d)) (fun w w1 k h=>h.ext k) Mix.mix hf (by decide +kernel) (by decide +kernel) <| ja (gD (A:=E (.agg ji)) pJ (fun w he=>rC w)) <| ja (fA U53 rfl T3 rfl) <| ja ((ld1 T3 rfl B3 rfl).eq ((congrArg (Value.int .i64) hop:_=I 2))) <| ja (jR pT pm rfl rfl (by decide) rfl) <| ja (mv rfl) <| ja ((ldW T53 rfl B3 rfl).eq ((rfl:_=dtV d))) <| jx (rq xz rfl rfl rfl (fun w he=>(a0e g d bg bv be n w (hg.ext he) hn (rB hw hw2) ho).mono fun en w' ⟨h1,h2,h3⟩=>⟨_,h1,h2,by rw[doP,if_neg (by rw[hop];decide)];exact h3⟩)) ?_
   refine je <| fun a w hc HF hf=>aa ?_
   replace hf:=hf.keep [4]
   refine seq <| ae <| tA hf rfl fun a hf=>aa <| ai <| ap rfl hf rfl ?_
   rintro _ rfl
   exact⟨by rw[hb'],(e.chg _).tr hc,by rw[fin];exact HF⟩
def atE (g:GT)(d:DT):Int:=if Gr.pairs d.1=true then eT g.2 d.2.1 d.2.2.1 else -1
def io (g:GT)(d:DT):GT:=(g.1.filterMap (keepV d),bS d (atE g d) 0 g.2)
def doR (g:GT)(d:DT):GT×Int:=
 if (cL g d != 0)=true then (g,cL g d)
 else if (d.1==0)=true then ((insV g.1 (d.2.1,d.2.2.2),g.2),0)
 else if (d.1==2)=true then ((g.1,ii g.2 (Gr.ends d.2.1 d.2.2.1,d.2.2.2)),0)
 else (io g d,0)
theorem bVt (x:VT):Tryz.prog.built 58 [(0,.int .i64 x.1),(1,.int .u8 x.2.1),(2,.int .i64 x.2.2)]=some #[.int .i64 x.1,.int .u8 x.2.1,.int .i64 x.2.2]:=by kernel_rfl
theorem bEt (x:ET):Tryz.prog.built 61 [(0,.int .i64 x.1.1),(1,.int .i64 x.1.2),(2,.int .u8 x.2.1),(3,.int .i64 x.2.2)]=some #[.int .i64 x.1.1,.int .i64 x.1.2,.int .u8 x.2.1,.int .i64 x.2.2]:=by kernel_rfl
theorem ni (x:VT):(#[.int .i64 x.1,.int .u8 x.2.1,.int .i64 x.2.2]:Array Value).all (·.oneCell')=true:=by simp[Array.all_eq_true_iff_forall_mem];exact⟨rfl,rfl,rfl⟩
theorem kD (x:ET):(#[.int .i64 x.1.1,.int .i64 x.1.2,.int .u8 x.2.1,.int .i64 x.2.2]:Array Value).all (·.oneCell')=true:=by simp[Array.all_eq_true_iff_forall_mem];exact⟨rfl,rfl,rfl,rfl⟩
theorem rP:Tryz.prog.built 26 []=some #[.slice none 0 0,.slice none 0 0]:=by kernel_rfl
theorem a0p {G:Nat→Prop}(g:GT)(d:DT)(v:Value)(W:World)(h:(Dv gtE G g).p v W)(hG:∀b,G b→b<W.heap.size)(hl1:g.1.length≤100000)(hl2:g.2.length≤100000) :
  Calls Tryz.prog 15 #[v,dtV d] W (Post (Tup [Dv gtE G (doR g d).1,E (I (doR g d).2)]) W):=by
 obtain⟨u1,u2,rfl,h1,h2⟩:=Dv.gt.1 h
 obtain⟨a1,n1,c1,rfl⟩:=Dv.slF h1
 obtain⟨a2,n2,c2,rfl⟩:=Dv.slF h2
 have hbb:=Dv.toB h
 have h1b:=Dv.toB h1
 have h2b:=Dv.toB h2
 refine eN [.agg #[.slice a1 n1 c1,.slice a2 n2 c2],dtV d] [E (.agg #[.slice a1 n1 c1,.slice a2 n2 c2]),E (dtV d)] Tryz.func15 Tryz.ntmps15 ?_ fun a hf=>?_
 rotate_left
 dsimp only[params,Nat.reduceAdd] at hf
 rotate_right
 ·exact arg2 rfl rfl
 have e:=Ext.rfl' W
 refine seq <| ae <| tB hf rfl fun a b2 w v2 hv2 e' hb2 hs2 B2 hf=>?_
 replace e:=e.tr e'
 refine tB hf rfl fun a b3 w v3 hv3 e' hb3 hs3 B3 hf=>?_
 have lt3_B2:=B2.lt
 obtain⟨e,B2⟩:=up2 e' e B2
 refine tL I26 hf fun a b4 w e' hb4 hs4 B4 hf=>?_
 have hle4:=Nat.le_trans e.size (Nat.le_of_eq hb4.symm)
 have lt4_B2:=B2.lt
 obtain⟨e,B2,B3⟩:=up3 e' e B2 B3
 refine tA hf rfl fun a hf=>aa ?_
 cases hv2;cases hv3
 have fin:∀(w:World) (g':GT) (c:Int) (z:Value),Ext W w→(Dv gtE G g').p z w→doR g d=(g',c)→(Tup [Dv gtE G (doR g d).1,E (I (doR g d).2)]).p (.tuple #[z,I c]) w:=fun w g' c z e hz hd=>by rw[hd];exact Tup.two hz rfl
 have hG4:∀(w:World),b4<w.heap.size→Ext W w→∀b,G1 G b4 b→b<w.heap.size:=fun w hb4 e b hb=>hb.elim (fun hb=>Nat.lt_of_lt_of_le (hG b hb) e.size) (fun hb=>by rw[hb];exact hb4)
 have hg4:∀w,Ext W w→(Dv gtE (G1 G b4) g).p (.agg #[.slice a1 n1 c1,.slice a2 n2 c2]) w:=fun w e=>Dv.weak (VA.st _ _ _ _ e hbb) fun b _ hq=>hq.elim .inl (fun hq=>.inr (by rw[hq];exact hle4))
 repeat refine seq ?_
 refine rgN 3 hf <| st ((ldW T26 rfl B2 rfl).eq ((rfl:_=Value.agg #[.slice a1 n1 c1,.slice a2 n2 c2]))) <| st ((ldW T52 rfl B3 rfl).eq ((rfl:_=dtV d))) <| st (ar wo rfl rfl (fun v u w he k k'=>by cases k;cases k';exact zj g d _ w (VA.st _ _ _ _ (Ext.tr e he) h) hl1 hl2)) ?_
 refine en fun a w e' hf=>?_
 obtain⟨e,B2,B3,B4⟩:=up4 e' e B2 B3 B4
 refine tA hf rfl fun a hf=>aa <| seq <| rgN 2 hf <| st (mv rfl) <| st (neq rfl rfl) <| en fun a w e' hf=>?_
 obtain⟨e,B2,B3,B4⟩:=up4 e' e B2 B3 B4
 refine aa <| ifc hf rfl (fun hb=>?_) (fun hb=>?_)
 ·refine seq <| rgN 2 hf <| st ((ldW T26 rfl B2 rfl).eq ((rfl:_=Value.agg #[.slice a1 n1 c1,.slice a2 n2 c2]))) <| st (mv rfl) <| en fun a w e' hf=>?_
  obtain⟨e,B2,B3,B4⟩:=up4 e' e B2 B3 B4
  haveI hinr:∀G0,InR (GB W G0) (some b4):=fun G0=>InR.gb (by omega)
  refine az T26 hf rfl rfl (bY rfl rfl) B4 rfl (rfl) fun w hg hsz B4 hf=>?_
  obtain⟨e,B2,B3⟩:=gr3 hg e B2 B3
  refine tA hf rfl fun a hf=>aa <| ai (kg rfl T26 hf rfl rfl B4 rfl ?_)
  rintro _ rfl
  exact⟨_,rfl,e,fin _ _ _ _ e (VA.st _ _ _ _ e h) (by rw[doR,if_pos hb])⟩
 refine ak ?_
 replace hf:=hf.kp [2,3,4]
 have h1n:=aK hb;clear hb
 repeat refine seq ?_
 refine rgN 3 hf <| st (fA U52 rfl T3 rfl) <| st (ld1 T3 rfl B3 rfl) <| st (eql rfl rfl) <| en fun a w e' hf=>?_
 obtain⟨e,B2,B3,B4⟩:=up4 e' e B2 B3 B4
 refine aa <| ifc hf rfl (fun hb=>?_) (fun hb=>?_)
 ·have h2p:=hb;clear hb
  refine seq <| rgN 9 hf <| st ((ldW T26 rfl B2 rfl).eq ((rfl:_=Value.agg #[.slice a1 n1 c1,.slice a2 n2 c2]))) <| st (fA U52 rfl T3 rfl) <| st (ld1 T3 rfl B3 rfl) <| st (fA U52 rfl T5 rfl) <| st (ld1 T5 rfl B3 rfl) <| st (fA U52 rfl T3 rfl) <| st (ld1 T3 rfl B3 rfl) <| st (qJ (d.2.1,d.2.2.2) (bVt _) rfl rfl rfl) <| st (ar wq rfl rfl (fun v u w he k k'=>by cases k;cases k';exact zo (G:=G1 G b4) g _ _ w (hg4 w (Ext.tr e he)) (hG4 w (Nat.lt_of_lt_of_le B4.lt he.size) (Ext.tr e he)) hl1)) ?_
  refine en fun a w e' hf=>?_
  obtain⟨e,B2,B3,B4⟩:=up4 e' e B2 B3 B4
  obtain⟨z,hz,hf⟩:=hf.opn 31 rfl
  obtain⟨z1,z2,rfl,hz1,hz2⟩:=Dv.gt.1 hz
  replace hf:=hf.kp [31,4]
  refine az T26 hf rfl rfl (bY (slOne hz1) (slOne hz2)) B4 rfl rfl fun w hg hsz B4 hf=>?_
  replace e:=e.gr hg hle4;replace hz:=AvR.av (row:=some b4) _ _ _ hg hz;clear hg
  refine tA hf rfl fun a hf=>aa <| ai (kg rfl T26 hf rfl rfl B4 rfl ?_)
  rintro _ rfl
  exact⟨_,rfl,e,fin _ _ _ _ e (Dv.weak hz fun b _=>.inl) (by rw[doR,if_neg h1n,if_pos h2p])⟩
 refine ak ?_
 replace hf:=hf.kp [2,3,4]
 have h2n:=aK hb;clear hb
 repeat refine seq ?_
 refine rgN 3 hf <| st (fA U52 rfl T3 rfl) <| st (ld1 T3 rfl B3 rfl) <| st (eql rfl rfl) <| en fun a w e' hf=>?_
 obtain⟨e,B2,B3,B4⟩:=up4 e' e B2 B3 B4
 refine aa <| ifc hf rfl (fun hb=>?_) (fun hb=>?_)
 ·have h3p:=hb;clear hb
  refine seq <| rgN 17 hf <| st ((ldW T26 rfl B2 rfl).eq ((rfl:_=Value.agg #[.slice a1 n1 c1,.slice a2 n2 c2]))) <| st (fA U52 rfl T3 rfl) <| st (ld1 T3 rfl B3 rfl) <| st (fA U52 rfl T3 rfl) <| st (ld1 T3 rfl B3 rfl) <| st (min2 rfl rfl) <| st (fA U52 rfl T3 rfl) <| st (ld1 T3 rfl B3 rfl) <| st (fA U52 rfl T3 rfl) <| st (ld1 T3 rfl B3 rfl) <| st (max2 rfl rfl) <| st (fA U52 rfl T5 rfl) <| st (ld1 T5 rfl B3 rfl) <| st (fA U52 rfl T3 rfl) <| st (ld1 T3 rfl B3 rfl) <| st (qK (Gr.ends d.2.1 d.2.2.1,d.2.2.2) (bEt _) rfl rfl rfl rfl) <| st (ar ws rfl rfl (fun v u w he k k'=>by cases k;cases k';exact zp (G:=G1 G b4) g _ _ w (hg4 w (Ext.tr e he)) (hG4 w (Nat.lt_of_lt_of_le B4.lt he.size) (Ext.tr e he)) hl2)) ?_
  refine en fun a w e' hf=>?_
  obtain⟨e,B2,B3,B4⟩:=up4 e' e B2 B3 B4
  obtain⟨z,hz,hf⟩:=hf.opn 51 rfl
  obtain⟨z1,z2,rfl,hz1,hz2⟩:=Dv.gt.1 hz
  replace hf:=hf.kp [51,4]
  refine az T26 hf rfl rfl (bY (slOne hz1) (slOne hz2)) B4 rfl rfl fun w hg hsz B4 hf=>?_
  replace e:=e.gr hg hle4;replace hz:=AvR.av (row:=some b4) _ _ _ hg hz;clear hg
  refine tA hf rfl fun a hf=>aa <| ai (kg rfl T26 hf rfl rfl B4 rfl ?_)
  rintro _ rfl
  exact⟨_,rfl,e,fin _ _ _ _ e (Dv.weak hz fun b _=>.inl) (by rw[doR,if_neg h1n,if_neg h2n,if_pos h3p])⟩
 refine ak ?_
 replace hf:=hf.kp [2,3,4]
 have h3n:=aK hb;clear hb
 have hdo:doR g d=(io g d,0):=by rw[doR,if_neg h1n,if_neg h2n,if_neg h3n]
 refine seq <| rgN 1 hf <| st (bK [] rfl rP) <| en fun a w e' hf=>?_
 obtain⟨e,B2,B3,B4⟩:=up4 e' e B2 B3 B4
 refine tL I26 hf fun a b7 w e' hb7 hs7 B7 hf=>?_
 have lt7_B3:=B3.lt
 have lt7_B4:=B4.lt
 obtain⟨e,B2,B3,B4⟩:=up4 e' e B2 B3 B4
 haveI hinr:∀G0,InR (GB W G0) (some b7):=fun G0=>InR.gb (by omega)
 refine az T26 hf rfl rfl (bY rfl rfl) B7 rfl (rfl) fun w hg hsz B7 hf=>?_
 obtain⟨e,B2,B3,B4⟩:=gr4 hg e B2 B3 B4
 refine aa ?_
 have hlE:=fun (k:Nat)=>Nat.le_trans (kj d (atE g d) 0 (g.2.take k)) (List.length_take_le k g.2)
 have hlV:=fun (k:Nat)=>Nat.le_trans (List.length_filterMap_le (keepV d) (g.1.take k)) (List.length_take_le k g.1)
 replace hf:=hf.kp [2,3,4,7]
 repeat refine seq ?_
 refine ae <| tA hf rfl fun a hf=>aa ?_
 replace hf:=hf.kp [2,3,4,7,8]
 refine blk (aJ (fun r0 a w=>∃(k:Nat) (u:Value),r0=g.1.length - k∧k≤g.1.length∧Fr 183 a w [(2,E (.pointer (some ⟨b2,0,none⟩))),(3,E (.pointer (some ⟨b3,0,none⟩))),(4,E (.pointer (some ⟨b4,0,none⟩))),(7,E (.pointer (some ⟨b7,0,none⟩))),(8,E (I k))]∧Ext W w∧Blk w b2 #[.slice a1 n1 c1,.slice a2 n2 c2] 26∧Blk w b3 (dtV d).cells 52∧Blk w b4 #[.slice none 0 0,.slice none 0 0] 26∧Blk w b7 #[u,.slice none 0 0] 26∧OwR vtE 58 (b7+1) G w ((g.1.take k).filterMap (keepV d)) u) g.1.length ⟨0,.slice none 0 0,rfl,by omega,hf,e,⟨B2,B3,B4,B7,OwR.nil vtE _ (by have:=B7.lt;omega) fun b hb=>Nat.lt_of_lt_of_le (hG b hb) (by omega)⟩⟩ ?_)
 rintro r0 a w ⟨k,u,rfl,hk,hf,e,B2,B3,B4,B7,Ho⟩
 repeat refine seq ?_
 refine rgN 5 hf <| st (mv rfl) <| st (fA U26 rfl T23 rfl) <| st (ld1 T23 rfl (by assumption) rfl) <| st (aF U23 (isE rfl (VA.st _ _ _ _ e h1))) <| st (lss rfl rfl) <| en fun a w e' hf=>?_
 obtain⟨e,B2,B3,B4,B7,Ho⟩:=up6 e' e B2 B3 B4 B7 Ho
 refine aa <| ifc hf rfl (fun hc=>ak ?_) (fun hc=>aG ?_)
 rotate_left
 rotate_left
 ·have hlt:k<g.1.length:=by have:=of_decide_eq_true hc;(try dsimp only at this);omega
  replace hf:=hf.kp [2,3,4,7,8]
  refine seq <| blk ?_
  have hg:=List.getElem?_eq_getElem hlt
  generalize g.1[k]=y at hg
  have hs:=yA d hg
  have hlk:=hlV k
  refine seq <| ae <| tP hf (fA U26 rfl T23 rfl) fun a w e' hf=>?_
  obtain⟨Ho,e,B2,B3,B4,B7⟩:=up6 e' Ho e B2 B3 B4 B7
  refine tP hf (ld1 T23 rfl B2 rfl) fun a w e' hf=>?_
  obtain⟨Ho,e,B2,B3,B4,B7⟩:=up6 e' Ho e B2 B3 B4 B7
  refine tP hf (mv rfl) fun a w e' hf=>?_
  obtain⟨Ho,e,B2,B3,B4,B7⟩:=up6 e' Ho e B2 B3 B4 B7
  refine tP hf (aL U23 S58 (isE rfl (VA.st _ _ _ _ e h1b)) rfl (by omega) (hg)) fun a w e' hf=>?_
  obtain⟨Ho,e,B2,B3,B4,B7⟩:=up6 e' Ho e B2 B3 B4 B7
  refine tP hf (ij T58 (isR rfl)) fun a w e' hf=>?_
  obtain⟨Ho,e,B2,B3,B4,B7⟩:=up6 e' Ho e B2 B3 B4 B7
  refine tL I58 hf fun a b9 w e' hb9 hs9 B9 hf=>?_
  have hle9:=Nat.le_trans e.size (Nat.le_of_eq hb9.symm)
  have ne9_Ho:=Ho.ne_new hb9
  have lt9_B2:=B2.lt
  have lt9_B3:=B3.lt
  have lt9_B4:=B4.lt
  have lt9_B7:=B7.lt
  obtain⟨Ho,e,B2,B3,B4,B7⟩:=up6 e' Ho e B2 B3 B4 B7
  have n9:=ne9_Ho
  replace hf:=hf.kp [2,3,4,7,8,9,64]
  refine az T58 hf rfl rfl (ni y) B9 rfl rfl fun w hg' hsz B9 hf=>?_
  replace e:=e.gr hg' (by omega);replace B2:=B2.gr hg' (by omega);replace B3:=B3.gr hg' (by omega);replace B4:=B4.gr hg' (by omega);replace B7:=B7.gr hg' (by omega);replace Ho:=Ho.grE hg' n9;clear hg'
  refine aa ?_
  replace hf:=hf.kp [2,3,4,7,8,9]
  repeat refine seq ?_
  refine rgN 10 hf <| st (fA U58 rfl T3 rfl) <| st (ld1 T3 rfl B9 rfl) <| st (fA U52 rfl T3 rfl) <| st (ld1 T3 rfl B3 rfl) <| st (eql rfl rfl) <| st (mv rfl) <| sgE rfl rfl (.k 3 rfl .n) (fun hgd=>fA U52 rfl T3 rfl) <| sgE rfl rfl (.c 71 rfl (fun h=>h) .n) (fun hgd=>ld1 T3 rfl B3 rfl) <| sgE rfl rfl (.c 72 rfl (fun h=>h) .n) (fun hgd=>eql rfl rfl) <| st (bG rfl rfl (fun h=>by rw[h];rfl)) ?_
  refine en fun a w e' hf=>?_
  obtain⟨Ho,e,B2,B3,B4,B7,B9⟩:=up7 e' Ho e B2 B3 B4 B7 B9
  refine aa <| ifc hf rfl (fun hb=>?_) (fun hb=>?_)
  ·refine aG ?_
   replace hf:=hf.kp [2,3,4,7,8]
   refine rgN 2 hf <| st (mv rfl) <| st ((add rfl rfl (by omega)).eq (congrArg (Value.int .i64) (show (k:Int)+1=((k+1:Nat):Int) from rfl))) <| en fun a w e' hf=>?_
   obtain⟨Ho,e,B2,B3,B4,B7⟩:=up6 e' Ho e B2 B3 B4 B7
   refine tA hf rfl fun a hf=>aa ?_
   replace hf:=hf.kp [2,3,4,7,8]
   refine⟨_,?_,k+1,u,rfl,by omega,hf,e,?_⟩
   ·omega
   rw[hs,keepV,if_pos hb]
   exact⟨B2,B3,B4,B7,by simpa using Ho⟩
  refine ak ?_
  have hkv:=aK hb;clear hb
  replace hf:=hf.kp [2,3,4,7,8,9]
  repeat refine seq ?_
  refine rgN 10 hf <| st (fA U58 rfl T3 rfl) <| st (ld1 T3 rfl B9 rfl) <| st (fA U52 rfl T3 rfl) <| st (ld1 T3 rfl B3 rfl) <| st (eql rfl rfl) <| st (mv rfl) <| sgE rfl rfl (.k 3 rfl .n) (fun hgd=>fA U52 rfl T3 rfl) <| sgE rfl rfl (.c 81 rfl (fun h=>h) .n) (fun hgd=>ld1 T3 rfl B3 rfl) <| sgE rfl rfl (.c 82 rfl (fun h=>h) .n) (fun hgd=>eql rfl rfl) <| st (bG rfl rfl (fun h=>by rw[h];rfl)) ?_
  refine en fun a w e' hf=>?_
  obtain⟨Ho,e,B2,B3,B4,B7,B9⟩:=up7 e' Ho e B2 B3 B4 B7 B9
  refine aa <| cut (J:=fun a w=>Fr 183 a w [(2,E (.pointer (some ⟨b2,0,none⟩))),(3,E (.pointer (some ⟨b3,0,none⟩))),(4,E (.pointer (some ⟨b4,0,none⟩))),(7,E (.pointer (some ⟨b7,0,none⟩))),(8,E (I k)),(9,E (.pointer (some ⟨b9,0,none⟩)))]∧Ext W w∧Blk w b2 #[.slice a1 n1 c1,.slice a2 n2 c2] 26∧Blk w b3 (dtV d).cells 52∧Blk w b4 #[.slice none 0 0,.slice none 0 0] 26∧Blk w b7 #[u,.slice none 0 0] 26∧Blk w b9 #[.int .i64 y.1,.int .u8 (if (y.1==d.2.1&&d.1==4)=true then d.2.2.2.1 else y.2.1),.int .i64 y.2.2] 58∧OwR vtE 58 (b7+1) G w ((g.1.take k).filterMap (keepV d)) u) ?_ (fun a w hJ=>?_)
  ·repeat refine seq ?_
   refine ifc hf rfl (fun hb=>?_) (fun hb=>?_)
   ·replace hf:=hf.kp [2,3,4,7,8,9]
    refine rgN 3 hf <| st (fA U52 rfl T5 rfl) <| st (ld1 T5 rfl B3 rfl) <| st (fA U58 rfl T5 rfl) <| en fun a w e' hf=>?_
    obtain⟨Ho,e,B2,B3,B4,B7,B9⟩:=up7 e' Ho e B2 B3 B4 B7 B9
    refine aA T5 hf rfl rfl (rfl) B9 (by simp) fun w hg hsz B9 hf=>?_
    obtain⟨e,B2,B3,B4,B7⟩:=gr5 hg e B2 B3 B4 B7
    replace Ho:=Ho.grE hg n9
    refine aa ?_
    rw[if_pos hb]
    replace hf:=hf.kp [2,3,4,7,8,9]
    exact⟨rfl,hf,e,B2,B3,B4,B7,B9,Ho⟩
   ·refine ak ?_
    rw[if_neg (aK hb)]
    replace hf:=hf.kp [2,3,4,7,8,9]
    exact⟨rfl,hf,e,B2,B3,B4,B7,B9,Ho⟩
  obtain⟨hf,e,B2,B3,B4,B7,B9,Ho⟩:=hJ
  repeat refine seq ?_
  refine rgN 10 hf <| st (fA U58 rfl T3 rfl) <| st (ld1 T3 rfl B9 rfl) <| st (fA U52 rfl T3 rfl) <| st (ld1 T3 rfl B3 rfl) <| st (eql rfl rfl) <| st (mv rfl) <| sgE rfl rfl (.k 3 rfl .n) (fun hgd=>fA U52 rfl T3 rfl) <| sgE rfl rfl (.c 94 rfl (fun h=>h) .n) (fun hgd=>ld1 T3 rfl B3 rfl) <| sgE rfl rfl (.c 95 rfl (fun h=>h) .n) (fun hgd=>eql rfl rfl) <| st (bG rfl rfl (fun h=>by rw[h];rfl)) ?_
  refine en fun a w e' hf=>?_
  obtain⟨Ho,e,B2,B3,B4,B7,B9⟩:=up7 e' Ho e B2 B3 B4 B7 B9
  refine aa <| cut (J:=fun a w=>Fr 183 a w [(2,E (.pointer (some ⟨b2,0,none⟩))),(3,E (.pointer (some ⟨b3,0,none⟩))),(4,E (.pointer (some ⟨b4,0,none⟩))),(7,E (.pointer (some ⟨b7,0,none⟩))),(8,E (I k)),(9,E (.pointer (some ⟨b9,0,none⟩)))]∧Ext W w∧Blk w b2 #[.slice a1 n1 c1,.slice a2 n2 c2] 26∧Blk w b3 (dtV d).cells 52∧Blk w b4 #[.slice none 0 0,.slice none 0 0] 26∧Blk w b7 #[u,.slice none 0 0] 26∧Blk w b9 #[.int .i64 y.1,.int .u8 (if (y.1==d.2.1&&d.1==4)=true then d.2.2.2.1 else y.2.1),.int .i64 (if (y.1==d.2.1&&d.1==5)=true then d.2.2.2.2 else y.2.2)] 58∧OwR vtE 58 (b7+1) G w ((g.1.take k).filterMap (keepV d)) u) ?_ (fun a w hJ=>?_)
  ·repeat refine seq ?_
   refine ifc hf rfl (fun hb=>?_) (fun hb=>?_)
   ·replace hf:=hf.kp [2,3,4,7,8,9]
    refine rgN 3 hf <| st (fA U52 rfl T3 rfl) <| st (ld1 T3 rfl B3 rfl) <| st (fA U58 rfl T3 rfl) <| en fun a w e' hf=>?_
    obtain⟨Ho,e,B2,B3,B4,B7,B9⟩:=up7 e' Ho e B2 B3 B4 B7 B9
    refine aA T3 hf rfl rfl (rfl) B9 (by simp) fun w hg hsz B9 hf=>?_
    obtain⟨e,B2,B3,B4,B7⟩:=gr5 hg e B2 B3 B4 B7
    replace Ho:=Ho.grE hg n9
    refine aa ?_
    rw[if_pos hb]
    replace hf:=hf.kp [2,3,4,7,8,9]
    exact⟨rfl,hf,e,B2,B3,B4,B7,B9,Ho⟩
   ·refine ak ?_
    rw[if_neg (aK hb)]
    replace hf:=hf.kp [2,3,4,7,8,9]
    exact⟨rfl,hf,e,B2,B3,B4,B7,B9,Ho⟩
  obtain⟨hf,e,B2,B3,B4,B7,B9,Ho⟩:=hJ
  rw[keepV,if_neg hkv] at hs
  obtain⟨y',hy'⟩:∃y':VT,y'=(y.1,(if (y.1==d.2.1&&d.1==4)=true then d.2.2.2.1 else y.2.1),(if (y.1==d.2.1&&d.1==5)=true then d.2.2.2.2 else y.2.2)):=⟨_,rfl⟩
  replace B9:Blk w b9 (vtV y').cells 58:=by rw[hy'];exact B9
  rw[← hy'] at hs
  have n2:=Ho.neLt (b:=b2) (by omega);have n3:=Ho.neLt (b:=b3) (by omega);have n4:=Ho.neLt (b:=b4) (by omega);have n7:=Ho.neLt (b:=b7) (by omega)
  refine rgN 4 hf <| st (fA U26 rfl T23 rfl) <| st ((ld1 T23 rfl (by assumption) rfl).eq ((rfl:_=u))) <| st ((ldW T58 rfl B9 rfl).eq ((rfl:_=vtV y'))) <| st (bB U23 I58 rfl (by decide) rfl Ho.avs (eu rfl)) <| en fun a w e' hf=>?_
  obtain⟨Ho,e,B2,B3,B4,B7,B9⟩:=up7 e' Ho e B2 B3 B4 B7 B9
  haveI hin:∀G0,InR (GB W G0) _:=OwR.inGB (W:=W) Ho (by omega)
  refine bI U23 I58 rfl rfl hf (by decide) rfl Ho (isR rfl) (by simp only[List.length_singleton];omega) (by simp only[List.length_singleton,maxLen];omega) fun a v w hg hat Hn hf=>?_
  replace e:=e.gro hg (Ho.row (W:=W) (by omega))
  have hrow:=Ho.row (W:=W) (by omega)
  replace Ho:=Hn
  replace B2:=B2.gro hg (by assumption)
  replace B3:=B3.gro hg (by assumption)
  replace B4:=B4.gro hg (by assumption)
  replace B7:=B7.gro hg (by assumption)
  replace B9:=B9.gro hg (by assumption)
  replace Ho:=Hn;clear Hn hg hat hin
  replace hf:=hf.kp [2,3,4,7,8,105]
  refine tP hf (fA U26 rfl T23 rfl) fun a w e' hf=>?_
  obtain⟨Ho,e,B2,B3,B4,B7⟩:=up6 e' Ho e B2 B3 B4 B7
  refine aA T23 hf rfl rfl (slOne Ho.sl) B7 (by simp) fun w hg hsz B7 hf=>?_
  obtain⟨e,B2,B3,B4⟩:=gr4 hg e B2 B3 B4
  replace Ho:=Ho.grE hg (Ho.neLt (by omega))
  refine aa <| rgN 2 hf <| st (mv rfl) <| st ((add rfl rfl (by omega)).eq (congrArg (Value.int .i64) (show (k:Int)+1=((k+1:Nat):Int) from rfl))) <| en fun a w e' hf=>?_
  obtain⟨Ho,e,B2,B3,B4,B7⟩:=up6 e' Ho e B2 B3 B4 B7
  refine tA hf rfl fun a hf=>aa ?_
  replace hf:=hf.keep [2,3,4,7,8]
  refine⟨_,?_,k+1,v,rfl,by omega,hf,e,?_⟩
  ·omega
  exact⟨B2,B3,B4,B7,by rw[hs];exact Ho⟩
 ·obtain rfl:k=g.1.length:=by have:=of_decide_eq_false hc;(try dsimp only at this);omega
  rw[List.take_length] at Ho
  obtain⟨av,nv,cv,rfl⟩:=Dv.slF Ho.sl
  have hown:∀bb,(Value.slice av nv cv).ownBlock=some bb→bb<w.heap.size:=fun bb h=>(Ho.lt h).2
  have HOo:=Ho
  refine seq <| ae <| tA hf rfl fun a hf=>aa ?_
  replace hf:=hf.keep [2,3,4,7,10]
  repeat refine seq ?_
  refine rgN 2 hf <| st ((ldW T52 rfl B3 rfl).eq ((rfl:_=dtV d))) <| st (an jU rfl (fun v w he h=>by cases h;exact rh d w)) ?_
  refine en fun a w e' hf=>?_
  obtain⟨Ho,e,B2,B3,B4,B7⟩:=up6 e' Ho e B2 B3 B4 B7
  refine aa <| cut (J:=fun a w=>Fr 183 a w [(2,E (.pointer (some ⟨b2,0,none⟩))),(3,E (.pointer (some ⟨b3,0,none⟩))),(4,E (.pointer (some ⟨b4,0,none⟩))),(7,E (.pointer (some ⟨b7,0,none⟩))),(10,E (I (atE g d)))]∧Ext W w∧Blk w b2 #[.slice a1 n1 c1,.slice a2 n2 c2] 26∧Blk w b3 (dtV d).cells 52∧Blk w b4 #[.slice none 0 0,.slice none 0 0] 26∧Blk w b7 #[.slice av nv cv,.slice none 0 0] 26∧OwR vtE 58 (b7+1) G w (g.1.filterMap (keepV d)) (.slice av nv cv)) ?_ (fun a w hJ=>?_)
  ·repeat refine seq ?_
   refine ifc hf rfl (fun hb=>?_) (fun hb=>?_)
   ·replace hf:=hf.keep [2,3,4,7]
    refine rgN 6 hf <| st ((ldW T26 rfl B2 rfl).eq ((rfl:_=Value.agg #[.slice a1 n1 c1,.slice a2 n2 c2]))) <| st (fA U52 rfl T3 rfl) <| st (ld1 T3 rfl B3 rfl) <| st (fA U52 rfl T3 rfl) <| st (ld1 T3 rfl B3 rfl) <| st (gE (A:=E (I (eT g.2 d.2.1 d.2.2.1))) mq rfl rfl rfl (fun v u x w he k k' k''=>by cases k;cases k';cases k'';exact rf g d.2.1 d.2.2.1 _ w (VA.st _ _ _ _ (Ext.tr e he) h) hl2)) ?_
    refine en fun a w e' hf=>?_
    obtain⟨Ho,e,B2,B3,B4,B7⟩:=up6 e' Ho e B2 B3 B4 B7
    refine tA hf rfl fun a hf=>aa ?_
    rw[atE,if_pos hb]
    replace hf:=hf.keep [2,3,4,7,10]
    exact⟨rfl,hf,e,B2,B3,B4,B7,Ho⟩
   ·refine ak ?_
    rw[atE,if_neg (aK hb)]
    replace hf:=hf.keep [2,3,4,7,10]
    exact⟨rfl,hf,e,B2,B3,B4,B7,Ho⟩
  obtain⟨hf,e,B2,B3,B4,B7,Ho⟩:=hJ
  rw[io] at hdo
  generalize atE g d=at' at hf hdo hlE
  obtain⟨NV,hNV⟩:∃NV:Nat→Prop,NV=fun b=>(Value.slice av nv cv).ownBlock≠some b:=⟨_,rfl⟩
  have HD:(Dv (slE vtE) NV (g.1.filterMap (keepV d))).p (.slice av nv cv) w:=Ho.slN fun b hb=>by rw[hNV];exact fun h=>h hb
  obtain⟨N5,hN5⟩:∃N5,N5=w.heap.size:=⟨_,rfl⟩
  have l7:=B7.lt
  have nV:∀bb,(bb≤b7∨N5≤bb)→NV bb:=fun bb hb=>by rw[hNV];intro h;have h3:=Ho.lt h;omega
  have hNG:∀b,G b→NV b:=fun b hb=>by rw[hNV];intro h;have h3:=Ho.lt h;have:=hG b hb;omega
  have hN7:b7<N5:=by rw[hN5];exact l7
  have hN5s:N5≤w.heap.size:=Nat.le_of_eq hN5
  replace hf:=hf.kp [2,3,4,7,10]
  repeat refine seq ?_
  refine ae <| tA hf rfl fun a hf=>aa ?_
  replace hf:=hf.kp [2,3,4,7,10,11]
  refine blk (aJ (fun r0 a w=>∃(k:Nat) (u:Value),r0=g.2.length - k∧k≤g.2.length∧Fr 183 a w [(2,E (.pointer (some ⟨b2,0,none⟩))),(3,E (.pointer (some ⟨b3,0,none⟩))),(4,E (.pointer (some ⟨b4,0,none⟩))),(7,E (.pointer (some ⟨b7,0,none⟩))),(10,E (I at')),(11,E (I k))]∧Ext W w∧Blk w b2 #[.slice a1 n1 c1,.slice a2 n2 c2] 26∧Blk w b3 (dtV d).cells 52∧Blk w b4 #[.slice none 0 0,.slice none 0 0] 26∧Blk w b7 #[.slice av nv cv,u] 26∧(Dv (slE vtE) NV (g.1.filterMap (keepV d))).p (.slice av nv cv) w∧OwR etE 61 N5 G w (bS d at' 0 (g.2.take k)) u∧N5≤w.heap.size) g.2.length ⟨0,.slice none 0 0,rfl,by omega,hf,e,⟨B2,B3,B4,B7,HD,OwR.nil etE _ hN5s fun b hb=>Nat.lt_of_lt_of_le (hG b hb) (by omega),hN5s⟩⟩ ?_)
  rintro r0 a w ⟨k,u,rfl,hk,hf,e,B2,B3,B4,B7,HD,Ho,hN5s⟩
  repeat refine seq ?_
  refine rgN 5 hf <| st (mv rfl) <| st (fA U26 rfl T24 rfl) <| st (ld1 T24 rfl (by assumption) rfl) <| st (aF U24 (isE rfl (VA.st _ _ _ _ e h2))) <| st (lss rfl rfl) <| en fun a w e' hf=>?_
  obtain⟨HD,hN5s,e,B2,B3,B4,B7,Ho⟩:=up8 e' HD hN5s e B2 B3 B4 B7 Ho
  refine aa <| ifc hf rfl (fun hc=>ak ?_) (fun hc=>aG ?_)
  rotate_left
  rotate_left
  ·have hlt:k<g.2.length:=by have:=of_decide_eq_true hc;(try dsimp only at this);omega
   replace hf:=hf.kp [2,3,4,7,10,11]
   refine seq <| blk ?_
   have hg:=List.getElem?_eq_getElem hlt
   generalize g.2[k]=y at hg
   have hs:=yz d at' hg
   have hlk:=hlE k
   refine seq <| ae <| tP hf (fA U26 rfl T24 rfl) fun a w e' hf=>?_
   obtain⟨HD,hN5s,Ho,e,B2,B3,B4,B7⟩:=up8 e' HD hN5s Ho e B2 B3 B4 B7
   refine tP hf (ld1 T24 rfl B2 rfl) fun a w e' hf=>?_
   obtain⟨HD,hN5s,Ho,e,B2,B3,B4,B7⟩:=up8 e' HD hN5s Ho e B2 B3 B4 B7
   refine tP hf (mv rfl) fun a w e' hf=>?_
   obtain⟨HD,hN5s,Ho,e,B2,B3,B4,B7⟩:=up8 e' HD hN5s Ho e B2 B3 B4 B7
   refine tP hf (aL U24 S61 (isE rfl (VA.st _ _ _ _ e h2b)) rfl (by omega) (hg)) fun a w e' hf=>?_
   obtain⟨HD,hN5s,Ho,e,B2,B3,B4,B7⟩:=up8 e' HD hN5s Ho e B2 B3 B4 B7
   refine tP hf (gK T61 (isR rfl)) fun a w e' hf=>?_
   obtain⟨HD,hN5s,Ho,e,B2,B3,B4,B7⟩:=up8 e' HD hN5s Ho e B2 B3 B4 B7
   refine tL I61 hf fun a b12 w e' hb12 hs12 B12 hf=>?_
   have hle12:=Nat.le_trans e.size (Nat.le_of_eq hb12.symm)
   have lo12_hN5s:=Nat.le_trans hN5s (Nat.le_of_eq hb12.symm)
   have ne12_Ho:=Ho.ne_new hb12
   have lt12_B2:=B2.lt
   obtain⟨HD,hN5s,Ho,e,B2,B3,B4,B7⟩:=up8 e' HD hN5s Ho e B2 B3 B4 B7
   have n12:=ne12_Ho
   replace hf:=hf.kp [2,3,4,7,10,11,12,126]
   refine az T61 hf rfl rfl (kD y) B12 rfl rfl fun w hg' hsz B12 hf=>?_
   replace e:=e.gr hg' (by omega);replace B2:=B2.gr hg' (by omega);replace B3:=B3.gr hg' (by omega);replace B4:=B4.gr hg' (by omega);replace B7:=B7.gr hg' (by omega);replace Ho:=Ho.grE hg' n12
   replace HD:=Dv.grN HD hg' (fun bb hb=>nV bb (by cases hb;omega));replace hN5s:=Nat.le_trans hN5s hg'.size;clear hg'
   refine aa ?_
   replace hf:=hf.kp [2,3,4,7,10,11,12]
   repeat refine seq ?_
   refine rgN 27 hf <| st (fA U52 rfl T3 rfl) <| st (ld1 T3 rfl B3 rfl) <| st (eql rfl rfl) <| st (mv rfl) <| sgE rfl rfl (.k 12 rfl .n) (fun hgd=>fA U61 rfl T3 rfl) <| sgE rfl rfl (.c 131 rfl (fun h=>h) .n) (fun hgd=>ld1 T3 rfl B12 rfl) <| sgE rfl rfl (.k 3 rfl .n) (fun hgd=>fA U52 rfl T3 rfl) <| sgE rfl rfl (.c 133 rfl (fun h=>h) .n) (fun hgd=>ld1 T3 rfl B3 rfl) <| sgE rfl rfl (.c 132 rfl (fun h=>h) (.c 134 rfl (fun h=>h) .n)) (fun hgd=>eql rfl rfl) <| sgE rfl rfl (.c 135 rfl (fun h=>h) .n) (fun hgd=>mv rfl) <| sgC rfl rfl (.k 12 rfl .n) (fun hgd=>fA U61 rfl T3 rfl) <| sgC rfl rfl (.c 137 rfl (fun h=>h) .n) (fun hgd=>ld1 T3 rfl B12 rfl) <| sgC rfl rfl (.k 3 rfl .n) (fun hgd=>fA U52 rfl T3 rfl) <| sgC rfl rfl (.c 139 rfl (fun h=>h) .n) (fun hgd=>ld1 T3 rfl B3 rfl) <| sgC rfl rfl (.c 138 rfl (fun h=>h) (.c 140 rfl (fun h=>h) .n)) (fun hgd=>eql rfl rfl) <| sgE rfl rfl (.c 136 rfl (fun h=>h) (.k 141 rfl .n)) (fun hgd=>bO rfl rfl (fun h=>by rw[hgd,h];rfl)) ?_
   refine st (bG rfl rfl (fun h=>by rw[h];rfl)) ?_
   refine st (mv rfl) <| sgE rfl rfl (.k 3 rfl .n) (fun hgd=>fA U52 rfl T3 rfl) <| sgE rfl rfl (.c 145 rfl (fun h=>h) .n) (fun hgd=>ld1 T3 rfl B3 rfl) <| sgE rfl rfl (.c 146 rfl (fun h=>h) .n) (fun hgd=>eql rfl rfl) <| sgE rfl rfl (.c 147 rfl (fun h=>h) .n) (fun hgd=>mv rfl) <| sgC rfl rfl (.k 11 rfl .n) (fun hgd=>mv rfl) <| sgC rfl rfl (.k 10 rfl .n) (fun hgd=>mv rfl) <| sgC rfl rfl (.c 149 rfl (fun h=>h) (.c 150 rfl (fun h=>h) .n)) (fun hgd=>eql rfl rfl) <| sgE rfl rfl (.c 148 rfl (fun h=>h) (.k 151 rfl .n)) (fun hgd=>bG rfl rfl (fun h=>by rw[hgd,h];rfl)) ?_
   refine st (bO rfl rfl (fun h=>by rw[h];rfl)) ?_
   refine en fun a w e' hf=>?_
   obtain⟨HD,hN5s,Ho,e,B2,B3,B4,B7,B12⟩:=up9 e' HD hN5s Ho e B2 B3 B4 B7 B12
   refine aa <| ifc hf rfl (fun hb=>?_) (fun hb=>?_)
   ·refine aG ?_
    replace hf:=hf.kp [2,3,4,7,10,11]
    refine rgN 2 hf <| st (mv rfl) <| st ((add rfl rfl (by omega)).eq (congrArg (Value.int .i64) (show (k:Int)+1=((k+1:Nat):Int) from rfl))) <| en fun a w e' hf=>?_
    obtain⟨HD,hN5s,Ho,e,B2,B3,B4,B7⟩:=up8 e' HD hN5s Ho e B2 B3 B4 B7
    refine tA hf rfl fun a hf=>aa ?_
    replace hf:=hf.kp [2,3,4,7,10,11]
    refine⟨_,?_,k+1,u,rfl,by omega,hf,e,?_⟩
    ·omega
    rw[hs,dZ,if_pos hb]
    exact⟨B2,B3,B4,B7,HD,by simpa using Ho,hN5s⟩
   refine ak ?_
   have hkv:=aK hb;clear hb
   replace hf:=hf.kp [2,3,4,7,10,11,12]
   repeat refine seq ?_
   refine rgN 8 hf <| st (mv rfl) <| st (mv rfl) <| st (eql rfl rfl) <| st (mv rfl) <| sgE rfl rfl (.k 3 rfl .n) (fun hgd=>fA U52 rfl T3 rfl) <| sgE rfl rfl (.c 158 rfl (fun h=>h) .n) (fun hgd=>ld1 T3 rfl B3 rfl) <| sgE rfl rfl (.c 159 rfl (fun h=>h) .n) (fun hgd=>eql rfl rfl) <| st (bG rfl rfl (fun h=>by rw[h];rfl)) ?_
   refine en fun a w e' hf=>?_
   obtain⟨HD,hN5s,Ho,e,B2,B3,B4,B7,B12⟩:=up9 e' HD hN5s Ho e B2 B3 B4 B7 B12
   refine aa <| cut (J:=fun a w=>Fr 183 a w [(2,E (.pointer (some ⟨b2,0,none⟩))),(3,E (.pointer (some ⟨b3,0,none⟩))),(4,E (.pointer (some ⟨b4,0,none⟩))),(7,E (.pointer (some ⟨b7,0,none⟩))),(10,E (I at')),(11,E (I k)),(12,E (.pointer (some ⟨b12,0,none⟩)))]∧Ext W w∧Blk w b2 #[.slice a1 n1 c1,.slice a2 n2 c2] 26∧Blk w b3 (dtV d).cells 52∧Blk w b4 #[.slice none 0 0,.slice none 0 0] 26∧Blk w b7 #[.slice av nv cv,u] 26∧(Dv (slE vtE) NV (g.1.filterMap (keepV d))).p (.slice av nv cv) w∧Blk w b12 #[.int .i64 y.1.1,.int .i64 y.1.2,.int .u8 (if ((k:Int)==at'&&d.1==6)=true then d.2.2.2.1 else y.2.1),.int .i64 y.2.2] 61∧OwR etE 61 N5 G w (bS d at' 0 (g.2.take k)) u∧N5≤w.heap.size) ?_ (fun a w hJ=>?_)
   ·repeat refine seq ?_
    refine ifc hf rfl (fun hb=>?_) (fun hb=>?_)
    ·replace hf:=hf.kp [2,3,4,7,10,11,12]
     refine rgN 3 hf <| st (fA U52 rfl T5 rfl) <| st (ld1 T5 rfl B3 rfl) <| st (fA U61 rfl T5 rfl) <| en fun a w e' hf=>?_
     obtain⟨HD,hN5s,Ho,e,B2,B3,B4,B7,B12⟩:=up9 e' HD hN5s Ho e B2 B3 B4 B7 B12
     refine aA T5 hf rfl rfl (rfl) B12 (by simp) fun w hg hsz B12 hf=>?_
     replace HD:=Dv.grN HD hg (fun bb hb=>nV bb (by cases hb;omega))
     obtain⟨hN5s,e,B2,B3,B4,B7⟩:=gr6 hg hN5s e B2 B3 B4 B7
     replace Ho:=Ho.grE hg n12
     refine aa ?_
     rw[if_pos hb]
     replace hf:=hf.kp [2,3,4,7,10,11,12]
     exact⟨rfl,hf,e,B2,B3,B4,B7,HD,B12,Ho,hN5s⟩
    ·refine ak ?_
     rw[if_neg (aK hb)]
     replace hf:=hf.kp [2,3,4,7,10,11,12]
     exact⟨rfl,hf,e,B2,B3,B4,B7,HD,B12,Ho,hN5s⟩
   obtain⟨hf,e,B2,B3,B4,B7,HD,B12,Ho,hN5s⟩:=hJ
   repeat refine seq ?_
   refine rgN 8 hf <| st (mv rfl) <| st (mv rfl) <| st (eql rfl rfl) <| st (mv rfl) <| sgE rfl rfl (.k 3 rfl .n) (fun hgd=>fA U52 rfl T3 rfl) <| sgE rfl rfl (.c 169 rfl (fun h=>h) .n) (fun hgd=>ld1 T3 rfl B3 rfl) <| sgE rfl rfl (.c 170 rfl (fun h=>h) .n) (fun hgd=>eql rfl rfl) <| st (bG rfl rfl (fun h=>by rw[h];rfl)) ?_
   refine en fun a w e' hf=>?_
   obtain⟨HD,hN5s,Ho,e,B2,B3,B4,B7,B12⟩:=up9 e' HD hN5s Ho e B2 B3 B4 B7 B12
   refine aa <| cut (J:=fun a w=>Fr 183 a w [(2,E (.pointer (some ⟨b2,0,none⟩))),(3,E (.pointer (some ⟨b3,0,none⟩))),(4,E (.pointer (some ⟨b4,0,none⟩))),(7,E (.pointer (some ⟨b7,0,none⟩))),(10,E (I at')),(11,E (I k)),(12,E (.pointer (some ⟨b12,0,none⟩)))]∧Ext W w∧Blk w b2 #[.slice a1 n1 c1,.slice a2 n2 c2] 26∧Blk w b3 (dtV d).cells 52∧Blk w b4 #[.slice none 0 0,.slice none 0 0] 26∧Blk w b7 #[.slice av nv cv,u] 26∧(Dv (slE vtE) NV (g.1.filterMap (keepV d))).p (.slice av nv cv) w∧Blk w b12 #[.int .i64 y.1.1,.int .i64 y.1.2,.int .u8 (if ((k:Int)==at'&&d.1==6)=true then d.2.2.2.1 else y.2.1),.int .i64 (if ((k:Int)==at'&&d.1==7)=true then d.2.2.2.2 else y.2.2)] 61∧OwR etE 61 N5 G w (bS d at' 0 (g.2.take k)) u∧N5≤w.heap.size) ?_ (fun a w hJ=>?_)
   ·repeat refine seq ?_
    refine ifc hf rfl (fun hb=>?_) (fun hb=>?_)
    ·replace hf:=hf.kp [2,3,4,7,10,11,12]
     refine rgN 3 hf <| st (fA U52 rfl T3 rfl) <| st (ld1 T3 rfl B3 rfl) <| st (fA U61 rfl T3 rfl) <| en fun a w e' hf=>?_
     obtain⟨HD,hN5s,Ho,e,B2,B3,B4,B7,B12⟩:=up9 e' HD hN5s Ho e B2 B3 B4 B7 B12
     refine aA T3 hf rfl rfl (rfl) B12 (by simp) fun w hg hsz B12 hf=>?_
     replace HD:=Dv.grN HD hg (fun bb hb=>nV bb (by cases hb;omega))
     obtain⟨hN5s,e,B2,B3,B4,B7⟩:=gr6 hg hN5s e B2 B3 B4 B7
     replace Ho:=Ho.grE hg n12
     refine aa ?_
     rw[if_pos hb]
     replace hf:=hf.kp [2,3,4,7,10,11,12]
     exact⟨rfl,hf,e,B2,B3,B4,B7,HD,B12,Ho,hN5s⟩
    ·refine ak ?_
     rw[if_neg (aK hb)]
     replace hf:=hf.kp [2,3,4,7,10,11,12]
     exact⟨rfl,hf,e,B2,B3,B4,B7,HD,B12,Ho,hN5s⟩
   obtain⟨hf,e,B2,B3,B4,B7,HD,B12,Ho,hN5s⟩:=hJ
   rw[dZ,if_neg hkv] at hs
   obtain⟨y',hy'⟩:∃y':ET,y'=(y.1,(if ((k:Int)==at'&&d.1==6)=true then d.2.2.2.1 else y.2.1),(if ((k:Int)==at'&&d.1==7)=true then d.2.2.2.2 else y.2.2)):=⟨_,rfl⟩
   replace B12:Blk w b12 (etV y').cells 61:=by rw[hy'];exact B12
   rw[← hy'] at hs
   have n2:=Ho.neLt (b:=b2) (by omega);have n3:=Ho.neLt (b:=b3) (by omega);have n4:=Ho.neLt (b:=b4) (by omega);have n7:=Ho.neLt (b:=b7) (by omega)
   refine rgN 4 hf <| st (fA U26 rfl T24 rfl) <| st ((ld1 T24 rfl (by assumption) rfl).eq ((rfl:_=u))) <| st ((ldW T61 rfl B12 rfl).eq ((rfl:_=etV y'))) <| st (bB U24 I61 rfl (by decide) rfl Ho.avs (ea rfl)) <| en fun a w e' hf=>?_
   obtain⟨HD,hN5s,Ho,e,B2,B3,B4,B7,B12⟩:=up9 e' HD hN5s Ho e B2 B3 B4 B7 B12
   haveI hin:∀G0,InR (GB W G0) _:=OwR.inGB (W:=W) Ho (by omega)
   refine bI U24 I61 rfl rfl hf (by decide) rfl Ho (isR rfl) (by simp only[List.length_singleton];omega) (by simp only[List.length_singleton,maxLen];omega) fun a v w hg hat Hn hf=>?_
   replace e:=e.gro hg (Ho.row (W:=W) (by omega))
   have hrow:=Ho.row (W:=W) (by omega)
   replace HD:=Dv.grN HD hg (fun bb hb=>nV bb (.inr (Ho.lt hb).1))
   replace hN5s:=Nat.le_trans hN5s hg.size
   replace Ho:=Hn
   replace B2:=B2.gro hg (by assumption)
   replace B3:=B3.gro hg (by assumption)
   replace B4:=B4.gro hg (by assumption)
   replace B7:=B7.gro hg (by assumption)
   replace B12:=B12.gro hg (by assumption)
   replace Ho:=Hn;clear Hn hg hat hin
   replace hf:=hf.kp [2,3,4,7,10,11,180]
   refine tP hf (fA U26 rfl T24 rfl) fun a w e' hf=>?_
   obtain⟨HD,hN5s,Ho,e,B2,B3,B4,B7⟩:=up8 e' HD hN5s Ho e B2 B3 B4 B7
   refine aA T24 hf rfl rfl (slOne Ho.sl) B7 (by simp) fun w hg hsz B7 hf=>?_
   replace HD:=Dv.grN HD hg (fun bb hb=>nV bb (by cases hb;omega))
   obtain⟨hN5s,e,B2,B3,B4⟩:=gr5 hg hN5s e B2 B3 B4
   replace Ho:=Ho.grE hg (Ho.neLt (by omega))
   refine aa <| rgN 2 hf <| st (mv rfl) <| st ((add rfl rfl (by omega)).eq (congrArg (Value.int .i64) (show (k:Int)+1=((k+1:Nat):Int) from rfl))) <| en fun a w e' hf=>?_
   obtain⟨HD,hN5s,Ho,e,B2,B3,B4,B7⟩:=up8 e' HD hN5s Ho e B2 B3 B4 B7
   refine tA hf rfl fun a hf=>aa ?_
   replace hf:=hf.kp [2,3,4,7,10,11]
   refine⟨_,?_,k+1,v,rfl,by omega,hf,e,?_⟩
   ·omega
   exact⟨B2,B3,B4,B7,HD,by rw[hs];exact Ho,hN5s⟩
  ·obtain rfl:k=g.2.length:=by have:=of_decide_eq_false hc;(try dsimp only at this);omega
   rw[List.take_length] at Ho
   replace hf:=hf.kp [4,7]
   refine seq <| rgN 1 hf <| st ((ldW T26 rfl (by assumption) rfl).eq ((rfl:_=Value.agg #[.slice av nv cv,u]))) <| en fun a w e' hf=>?_
   obtain⟨HD,hN5s,Ho,e,B2,B3,B4,B7⟩:=up8 e' HD hN5s Ho e B2 B3 B4 B7
   haveI hinr:∀G0,InR (GB W G0) (some b4):=fun G0=>InR.gb (by omega)
   refine az T26 hf rfl rfl (bY rfl (slOne Ho.sl)) B4 rfl (rfl) fun w hg hsz B4 hf=>?_
   replace HD:=Dv.grN HD hg (fun bb hb=>nV bb (by cases hb;omega))
   obtain⟨hN5s,e,B2,B3,B7⟩:=gr5 hg hN5s e B2 B3 B7
   replace Ho:=Ho.grE hg (Ho.neLt (by omega))
   refine tA hf rfl fun a hf=>aa <| ai (kg rfl T26 hf rfl rfl B4 rfl ?_)
   rintro _ rfl
   exact⟨_,rfl,e,fin _ _ _ _ e (Dv.gt.2 ⟨_,_,rfl,Dv.weak HD fun b _ hb=>hNG b hb,Ho.sl⟩) hdo⟩
def stepB:Option GT→DT→Option GT
 | none,_=>none
 | some g,d=>if bR g d=0 then some (doP g d) else none
def dA (V:List VT)(E:List ET):Option GT:=(E.map dE).foldl stepB ((V.map dV).foldl stepB (some ([],[])))
theorem rQ (l:List DT):l.foldl stepB none=none:=by induction l with
 | nil=>rfl
 | cons d r ih=>exact ih
theorem jm {l:List DT}{k:Nat}{d:DT}(s:Option GT)(h:l[k]?=some d):(l.take (k+1)).foldl stepB s=stepB ((l.take k).foldl stepB s) d:=by
 rw[eS h,List.foldl_append];rfl
theorem rR {l:List DT}{k:Nat}{d:DT}(s:Option GT)(h:l[k]?=some d)(hn:stepB ((l.take k).foldl stepB s) d=none):l.foldl stepB s=none:=by
 rw[← List.take_append_drop (k+1) l,List.foldl_append,jm s h,hn,rQ]
def okD (d:DT):Prop:=(Lit.int .i64 d.2.1).wf=true∧(Lit.int .i64 d.2.2.1).wf=true∧okT d.2.2.2
theorem bD4 (x:DT):Tryz.prog.built 53 [(0,.int .i64 x.1),(1,.int .i64 x.2.1),(3,.int .u8 x.2.2.2.1),(4,.int .i64 x.2.2.2.2)]=some #[.int .i64 x.1,.int .i64 x.2.1,.int .i64 0,.int .u8 x.2.2.2.1,.int .i64 x.2.2.2.2]:=by kernel_rfl
theorem bD5 (x:DT):Tryz.prog.built 53 [(0,.int .i64 x.1),(1,.int .i64 x.2.1),(2,.int .i64 x.2.2.1),(3,.int .u8 x.2.2.2.1),(4,.int .i64 x.2.2.2.2)]=some #[.int .i64 x.1,.int .i64 x.2.1,.int .i64 x.2.2.1,.int .u8 x.2.2.2.1,.int .i64 x.2.2.2.2]:=by kernel_rfl
def a0q (V:List VT)(E:List ET)(W:World)(en:Ending)(w':World):Prop:=
 Ext W w'∧((∃g bg bv be,dA V E=some g∧en=.returned (.tuple #[.pointer (some ⟨bg,0,none⟩),I 0])∧W.heap.size≤bg∧W.heap.size≤bv∧W.heap.size≤be∧GrR w' bg bv be (V.length+E.length) g) ∨
  (∃c:Int,c≠0∧dA V E=none∧en=.returned (.tuple #[.pointer none,I c])))
theorem rS {G:Nat→Prop}(V:List VT)(E':List ET)(v u:Value)(W:World)(h1:(Dv (slE vtE) G V).p v W)(h2:(Dv (slE etE) G E').p u W)(hl1:V.length≤100000)(hl2:E'.length≤100000)(hV:∀x∈V,okD (dV x))(hE:∀x∈E',okD (dE x)) :
  Calls Tryz.prog 16 #[v,u] W (a0q V E' W):=by
 refine eN [v,u] [E v,E u] Tryz.func16 Tryz.ntmps16 ?_ fun a hf=>?_
 rotate_left
 dsimp only[params,Nat.reduceAdd] at hf
 rotate_right
 ·exact arg2 rfl rfl
 have e:=Ext.rfl' W
 refine seq <| ae <| tA hf rfl fun a hf=>tA hf rfl fun a hf=>aa <| seq <| ae <| bU (S:=fun b=>False) (F:=fun z w'=>∃bg bv be,z=.pointer (some ⟨bg,0,none⟩)∧W.heap.size≤bg∧W.heap.size≤bv∧W.heap.size≤be∧GrR w' bg bv be 0 ([],[])) hf (by decide) wt (by simp only[List.map_toArray,List.map_nil];exact (a0c _).mono fun en w' ⟨bg,bv,be,k1,k2,k3,k4,k5,k6⟩=>⟨_,k1,k2.chg _,bg,bv,be,rfl,Nat.le_trans e.size k3,Nat.le_trans e.size k4,Nat.le_trans e.size k5,k6⟩) fun a z w hc hF hf=>?_
 obtain⟨bg,bv,be,rfl,hbg,hbv,hbe,hg⟩:=hF
 replace e:=e.ch hc (fun b hb=>hb.elim)
 refine tA hf rfl fun a hf=>aa ?_
 repeat refine seq ?_
 refine rgN 3 hf <| st (mv rfl) <| st (aF U54 (isE rfl (VA.st _ _ _ _ e h1))) <| st (mv rfl) <| en fun a w e' hf=>?_
 obtain⟨e,hg⟩:=up2 e' e hg
 refine aa ?_
 replace hf:=hf.kp [1,4,5,6,14,15,16]
 refine blk (aJ (fun r0 a w=>∃(k:Nat) (g:GT),r0=V.length - k∧k≤V.length∧Fr 55 a w [(1,E u),(4,E (.pointer none)),(5,E (I 0)),(6,E (.pointer (some ⟨bg,0,none⟩))),(14,E v),(15,E (I (V.length:Nat))),(16,E (I k))]∧Ext W w∧GrR w bg bv be k g∧((V.map dV).take k).foldl stepB (some ([],[]))=some g) V.length ⟨0,([], []),rfl,by omega,hf,e,⟨hg,rfl⟩⟩ ?_)
 rintro r0 a w ⟨k,g,rfl,hk,hf,e,hg,hfd⟩
 refine seq <| rgN 1 hf <| st (lss rfl rfl) <| en fun a w e' hf=>?_
 obtain⟨e,hg⟩:=up2 e' e hg
 refine aa <| seq <| ifc hf rfl (fun hc=>ak ?_) (fun hc=>aG ?_)
 rotate_left
 rotate_left
 ·have hlt:k<V.length:=by have:=of_decide_eq_true hc;(try dsimp only at this);omega
  replace hf:=hf.keep [1,4,5,6,14,15,16]
  refine seq <| blk ?_
  have hx:=List.getElem?_eq_getElem hlt
  generalize V[k]=x at hx
  have hxd:(V.map dV)[k]?=some (dV x):=by rw[List.getElem?_map,hx];rfl
  have hok:=hV x (List.mem_of_getElem? hx)
  have hk:k<maxLen:=by simp only[maxLen];omega
  replace hf:=hf.keep [1,4,5,6,14,15,16]
  refine seq <| ae <| tP hf (aL U54 S57 (isE rfl (VA.st _ _ _ _ e h1)) rfl (by omega) (hx)) fun a w e' hf=>?_
  obtain⟨e,hg⟩:=up2 e' e hg
  refine tP hf (ij T57 (isR rfl)) fun a w e' hf=>?_
  obtain⟨e,hg⟩:=up2 e' e hg
  refine tL I57 hf fun a b8 w e' hb8 hs8 B8 hf=>?_
  have hle8:=Nat.le_trans e.size (Nat.le_of_eq hb8.symm)
  obtain⟨e,hg⟩:=up2 e' e hg
  replace hf:=hf.kp [1,4,5,6,8,14,15,16,19]
  have nb8:bg≠b8∧bv≠b8∧be≠b8:=⟨hg.blk.ne B8 (by decide),hg.vs.neB B8,hg.es.neB B8⟩
  refine az T57 hf rfl rfl (ni x) B8 rfl rfl fun w hg' hsz B8 hf=>?_
  replace hg:GrR w bg bv be k g:=⟨hg.blk.gr hg' nb8.1,hg.vs.gr hg' (fun h=>nb8.2.1 (by cases h;rfl)),hg.es.gr hg' (fun h=>nb8.2.2 (by cases h;rfl)),hg.ne⟩
  replace e:=e.gr hg' (by omega);clear hg'
  refine aa ?_
  replace hf:=hf.kp [1,4,5,6,8,14,15,16]
  refine seq <| rgN 8 hf <| st (mv rfl) <| st (fA U57 rfl T3 rfl) <| st (ld1 T3 rfl B8 rfl) <| st (fA U57 rfl T5 rfl) <| st (ld1 T5 rfl B8 rfl) <| st (fA U57 rfl T3 rfl) <| st (ld1 T3 rfl B8 rfl) <| st (yB (dV x) rfl (bD4 (dV x)) rfl rfl rfl rfl) <| en fun a w e' hf=>?_
  obtain⟨e,hg,B8⟩:=up3 e' e hg B8
  replace hf:=hf.kp [1,4,5,6,14,15,16,20,27]
  refine bU (S:=fun b=>b=bv∨b=be) (F:=fun z w'=>z=I (bR g (dV x))∧GrR w' bg bv be (k+1) (apP g (dV x))) hf (by decide) pC ?_ fun a z w hc hF hf=>?_
  ·have h9:=rO g (dV x) bg bv be k _ hg hk (.inl rfl) hok.1 hok.2.1 hok.2.2
   have e20:a.eval (.tmp 20)=.pointer (some ⟨bg,0,none⟩):=hf.opd (.tmp 20) _ rfl
   have e27:a.eval (.tmp 27)=dtV (dV x):=hf.opd (.tmp 27) _ rfl
   simp only[List.map_toArray,List.map_cons,List.map_nil,e20,e27]
   exact h9.mono fun en w' ⟨k1,k2,k3⟩=>⟨_,k1,k2,rfl,k3⟩
  obtain⟨rfl,hg⟩:=hF
  replace e:=e.ch hc (fun b hb=>by rcases hb with rfl|rfl <;> assumption)
  replace hf:=hf.kp [1,4,5,6,14,15,16,28]
  refine tA hf rfl fun a hf=>aa <| seq <| rgN 2 hf <| st (mv rfl) <| st (neq rfl rfl) <| en fun a w e' hf=>?_
  obtain⟨e,hg⟩:=up2 e' e hg
  refine aa ?_
  have hft:=jm (some ([],[])) hxd
  rw[hfd] at hft
  refine ifc hf rfl (fun hb=>?_) (fun hb=>?_)
  ·have hb':¬bR g (dV x)=0:=by simpa using hb
   have hst:stepB (((V.map dV).take k).foldl stepB (some ([],[]))) (dV x)=none:=by rw[hfd,stepB,if_neg hb']
   refine seq <| rgN 1 hf <| st (mv rfl) <| en fun a w e' hf=>?_
   obtain⟨e,hg⟩:=up2 e' e hg
   refine tA hf rfl fun a hf=>tA hf rfl fun a hf=>aa <| ai <| dF rfl hf rfl rfl ?_
   rintro _ _ rfl rfl
   exact⟨e,.inr ⟨_,hb',by rw[dA,rR _ hxd hst,rQ],rfl⟩⟩
  ·have hb':bR g (dV x)=0:=by simpa using hb
   refine ak ?_
   rw[stepB,if_pos hb'] at hft
   rw[apP,if_pos hb'] at hg
   refine rgN 1 hf <| st ((add rfl rfl (by omega)).eq (congrArg (Value.int .i64) (show (k:Int)+1=((k+1:Nat):Int) from rfl))) <| en fun a w e' hf=>?_
   obtain⟨e,hg⟩:=up2 e' e hg
   refine tP hf (mv rfl) fun a w e' hf=>?_
   obtain⟨e,hg⟩:=up2 e' e hg
   refine aa ?_
   replace hf:=hf.keep [1,4,5,6,14,15,16]
   refine⟨_,?_,k+1,doP g (dV x),rfl,by omega,hf,e,?_⟩
   ·omega
   exact⟨hg,hft⟩
 ·obtain rfl:k=V.length:=by have:=of_decide_eq_false hc;(try dsimp only at this);omega
  rw[List.take_of_length_le (by simp)] at hfd
  repeat refine seq ?_
  refine rgN 3 hf <| st (mv rfl) <| st (aF U55 (isE rfl (VA.st _ _ _ _ e h2))) <| st (mv rfl) <| en fun a w e' hf=>?_
  obtain⟨e,hg⟩:=up2 e' e hg
  refine aa ?_
  replace hf:=hf.keep [4,5,6,33,34,35]
  refine blk (aJ (fun r0 a w=>∃(k:Nat) (g:GT),r0=E'.length - k∧k≤E'.length∧Fr 55 a w [(4,E (.pointer none)),(5,E (I 0)),(6,E (.pointer (some ⟨bg,0,none⟩))),(33,E u),(34,E (I (E'.length:Nat))),(35,E (I k))]∧Ext W w∧GrR w bg bv be (V.length+k) g∧((E'.map dE).take k).foldl stepB ((V.map dV).foldl stepB (some ([],[])))=some g) E'.length ⟨0,g,rfl,by omega,hf,e,⟨hg,hfd⟩⟩ ?_)
  rintro r0 a w ⟨k,g,rfl,hk,hf,e,hg,hfd⟩
  refine seq <| rgN 1 hf <| st (lss rfl rfl) <| en fun a w e' hf=>?_
  obtain⟨e,hg⟩:=up2 e' e hg
  refine aa <| seq <| ifc hf rfl (fun hc=>ak ?_) (fun hc=>aG ?_)
  rotate_left
  rotate_left
  ·have hlt:k<E'.length:=by have:=of_decide_eq_true hc;(try dsimp only at this);omega
   replace hf:=hf.keep [4,5,6,33,34,35]
   refine seq <| blk ?_
   have hx:=List.getElem?_eq_getElem hlt
   generalize E'[k]=x at hx
   have hxd:(E'.map dE)[k]?=some (dE x):=by rw[List.getElem?_map,hx];rfl
   have hok:=hE x (List.mem_of_getElem? hx)
   have hk':V.length+k<maxLen:=by simp only[maxLen];omega
   replace hf:=hf.keep [4,5,6,33,34,35]
   refine seq <| ae <| tP hf (aL U55 S60 (isE rfl (VA.st _ _ _ _ e h2)) rfl (by omega) (hx)) fun a w e' hf=>?_
   obtain⟨e,hg⟩:=up2 e' e hg
   refine tP hf (gK T60 (isR rfl)) fun a w e' hf=>?_
   obtain⟨e,hg⟩:=up2 e' e hg
   refine tL I60 hf fun a b11 w e' hb11 hs11 B11 hf=>?_
   have hle11:=Nat.le_trans e.size (Nat.le_of_eq hb11.symm)
   obtain⟨e,hg⟩:=up2 e' e hg
   replace hf:=hf.kp [4,5,6,11,33,34,35,38]
   have nb8:bg≠b11∧bv≠b11∧be≠b11:=⟨hg.blk.ne B11 (by decide),hg.vs.neB B11,hg.es.neB B11⟩
   refine az T60 hf rfl rfl (kD x) B11 rfl rfl fun w hg' hsz B11 hf=>?_
   replace hg:GrR w bg bv be (V.length+k) g:=⟨hg.blk.gr hg' nb8.1,hg.vs.gr hg' (fun h=>nb8.2.1 (by cases h;rfl)),hg.es.gr hg' (fun h=>nb8.2.2 (by cases h;rfl)),hg.ne⟩
   replace e:=e.gr hg' (by omega);clear hg'
   refine aa ?_
   replace hf:=hf.kp [4,5,6,11,33,34,35]
   refine seq <| rgN 10 hf <| st (mv rfl) <| st (fA U60 rfl T3 rfl) <| st (ld1 T3 rfl B11 rfl) <| st (fA U60 rfl T3 rfl) <| st (ld1 T3 rfl B11 rfl) <| st (fA U60 rfl T5 rfl) <| st (ld1 T5 rfl B11 rfl) <| st (fA U60 rfl T3 rfl) <| st (ld1 T3 rfl B11 rfl) <| st (yC (dE x) (bD5 (dE x)) rfl rfl rfl rfl rfl) <| en fun a w e' hf=>?_
   obtain⟨e,hg,B11⟩:=up3 e' e hg B11
   replace hf:=hf.kp [4,5,6,33,34,35,39,48]
   refine bU (S:=fun b=>b=bv∨b=be) (F:=fun z w'=>z=I (bR g (dE x))∧GrR w' bg bv be (V.length+k+1) (apP g (dE x))) hf (by decide) pC ?_ fun a z w hc hF hf=>?_
   ·have h9:=rO g (dE x) bg bv be (V.length+k) _ hg hk' (.inr (.inl rfl)) hok.1 hok.2.1 hok.2.2
    have e20:a.eval (.tmp 39)=.pointer (some ⟨bg,0,none⟩):=hf.opd (.tmp 39) _ rfl
    have e27:a.eval (.tmp 48)=dtV (dE x):=hf.opd (.tmp 48) _ rfl
    simp only[List.map_toArray,List.map_cons,List.map_nil,e20,e27]
    exact h9.mono fun en w' ⟨k1,k2,k3⟩=>⟨_,k1,k2,rfl,k3⟩
   obtain⟨rfl,hg⟩:=hF
   replace e:=e.ch hc (fun b hb=>by rcases hb with rfl|rfl <;> assumption)
   replace hf:=hf.kp [4,5,6,33,34,35,49]
   refine tA hf rfl fun a hf=>aa <| seq <| rgN 2 hf <| st (mv rfl) <| st (neq rfl rfl) <| en fun a w e' hf=>?_
   obtain⟨e,hg⟩:=up2 e' e hg
   refine aa ?_
   have hft:=jm ((V.map dV).foldl stepB (some ([],[]))) hxd
   rw[hfd] at hft
   refine ifc hf rfl (fun hb=>?_) (fun hb=>?_)
   ·have hb':¬bR g (dE x)=0:=by simpa using hb
    have hst:stepB (((E'.map dE).take k).foldl stepB ((V.map dV).foldl stepB (some ([],[])))) (dE x)=none:=by rw[hfd,stepB,if_neg hb']
    refine seq <| rgN 1 hf <| st (mv rfl) <| en fun a w e' hf=>?_
    obtain⟨e,hg⟩:=up2 e' e hg
    refine tA hf rfl fun a hf=>tA hf rfl fun a hf=>aa <| ai <| dF rfl hf rfl rfl ?_
    rintro _ _ rfl rfl
    exact⟨e,.inr ⟨_,hb',by rw[dA,rR _ hxd hst],rfl⟩⟩
   ·have hb':bR g (dE x)=0:=by simpa using hb
    refine ak ?_
    rw[stepB,if_pos hb'] at hft
    rw[apP,if_pos hb'] at hg
    refine rgN 1 hf <| st ((add rfl rfl (by omega)).eq (congrArg (Value.int .i64) (show (k:Int)+1=((k+1:Nat):Int) from rfl))) <| en fun a w e' hf=>?_
    obtain⟨e,hg⟩:=up2 e' e hg
    refine tP hf (mv rfl) fun a w e' hf=>?_
    obtain⟨e,hg⟩:=up2 e' e hg
    refine aa ?_
    replace hf:=hf.kp [4,5,6,33,34,35]
    refine⟨_,?_,k+1,doP g (dE x),rfl,by omega,hf,e,?_⟩
    ·omega
    exact⟨hg,hft⟩
  ·obtain rfl:k=E'.length:=by have:=of_decide_eq_false hc;(try dsimp only at this);omega
   rw[List.take_of_length_le (by simp)] at hfd
   refine seq <| rgN 1 hf <| st (mv rfl) <| en fun a w e' hf=>?_
   obtain⟨e,hg⟩:=up2 e' e hg
   refine tA hf rfl fun a hf=>tA hf rfl fun a hf=>aa <| ai <| dF rfl hf rfl rfl ?_
   rintro _ _ rfl rfl
   exact⟨e,.inl ⟨g,bg,bv,be,hfd,rfl,hbg,hbv,hbe,hg⟩⟩
def bZ (l:List DT)(k:Nat):GT:=(l.take k).foldl (fun g d=>(doR g d).1) ([],[])
def jn (l:List DT):GT:=bZ l 60
theorem nj {γ:Type}(p:γ→Bool)(x:γ)(l:List γ):(bV p x l).length=l.length+1:=by
 have:=congrArg List.length (List.takeWhile_append_dropWhile (p:=fun y => !p y) (l:=l))
 unfold bV
 simp only[List.length_append,List.length_cons] at *
 omega
theorem a0r (g:GT)(d:DT):(doR g d).1.1.length≤g.1.length+1∧(doR g d).1.2.length≤g.2.length+1:=by
 unfold doR
 split
 ·simp
 ·split
  ·simp[insV,nj]
  ·split
   ·simp[ii,nj]
   ·have h1:=List.length_filterMap_le (keepV d) g.1
    have h2:=kj d (atE g d) 0 g.2
    simp only[io]
    omega
theorem nk {l:List DT}{k:Nat}{d:DT}(h:l[k]?=some d):bZ l (k+1)=(doR (bZ l k) d).1:=by
 rw[bZ,eS h,List.foldl_append];rfl
theorem nl (l:List DT):∀k,(bZ l k).1.length≤k∧(bZ l k).2.length≤k
 | 0=>by simp[bZ]
 | k+1=>by
  have ih:=nl l k
  cases h:l[k]? with
  | none=>
   have:l.take (k+1)=l.take k:=by rw[List.take_of_length_le (by have:=List.getElem?_eq_none_iff.1 h;omega),List.take_of_length_le (List.getElem?_eq_none_iff.1 h)]
   rw[bZ,this]
   exact⟨by have:=ih.1;rw[bZ] at this;omega,by have:=ih.2;rw[bZ] at this;omega⟩
  | some d=>
   rw[nk h]
   have:=a0r (bZ l k) d
   omega
theorem Dv.gtOne {G:Nat→Prop}{g:GT}{v:Value}{w:World}(h:(Dv gtE G g).p v w):∃cs,v=.agg cs∧cs.size=2∧cs.all (·.oneCell')=true:=by
 obtain⟨u1,u2,rfl,h1,h2⟩:=Dv.gt.1 h
 exact⟨_,rfl,rfl,bY (slOne h1) (slOne h2)⟩
theorem a0s {G:Nat→Prop}(l:List DT)(v:Value)(W:World)(h:(Dv (slE dtE) G l).p v W)(hG:∀b,G b→b<W.heap.size) :
  Calls Tryz.prog 4 #[v] W (Post (Dv gtE G (jn l)) W):=by
 obtain⟨N,hN⟩:∃N,N=min l.length 60:=⟨_,rfl⟩
 refine eN [v] [E v] Tryz.func4 Tryz.ntmps4 ?_ fun a hf=>?_
 rotate_left
 dsimp only[params,Nat.reduceAdd] at hf
 rotate_right
 ·exact arg1 rfl
 have e:=Ext.rfl' W
 refine seq <| ae <| tL I26 hf fun a b2 w e' hb2 hs2 B2 hf=>?_
 replace e:=e.tr e'
 refine aa <| seq <| rgN 1 hf <| st (bK [] rfl rP) <| en fun a w e' hf=>?_
 obtain⟨e,B2⟩:=up2 e' e B2
 refine tL I26 hf fun a b3 w e' hb3 hs3 B3 hf=>?_
 have lt3_B2:=B2.lt
 obtain⟨e,B2⟩:=up2 e' e B2
 haveI hinr:∀G0,InR (GB W G0) (some b3):=fun G0=>InR.gb (by omega)
 refine az T26 hf rfl rfl (bY rfl rfl) B3 rfl (rfl) fun w hg hsz B3 hf=>?_
 obtain⟨e,B2⟩:=gr2 hg e B2
 refine aa ?_
 obtain⟨G',hG'⟩:∃G':Nat→Prop,G'=fun b=>G b∨b=b2∨b=b3:=⟨_,rfl⟩
 haveI i3:InR G' (some b3):=⟨fun b hb=>by rw[hG'];cases hb;exact .inr (.inr rfl)⟩
 have hGb:∀w:World,Ext W w→b2<w.heap.size→b3<w.heap.size→∀b,G' b→b<w.heap.size:=fun w e h2 h3 b hb=>by
  rw[hG'] at hb
  rcases hb with hb|rfl|rfl
  ·exact Nat.lt_of_lt_of_le (hG b hb) e.size
  ·exact h2
  ·exact h3
 repeat refine seq ?_
 refine ae <| tA hf rfl fun a hf=>aa ?_
 replace hf:=hf.keep [0,2,3,4]
 refine blk (aJ (fun r0 a w=>∃(k:Nat) (cs:Array Value),r0=N - k∧k≤N∧Fr 26 a w [(0,E v),(2,E (.pointer (some ⟨b2,0,none⟩))),(3,E (.pointer (some ⟨b3,0,none⟩))),(4,E (I k))]∧Ext W w∧Blk w b2 #[.slice none 0 0,.slice none 0 0] 26∧Blk w b3 cs 26∧(Dv gtE G' (bZ l k)).p (.agg cs) w) N ⟨0,#[.slice none 0 0, .slice none 0 0],rfl,by omega,hf,e,⟨B2,B3,Dv.gt.2 ⟨_,_,rfl,Dv.nil,Dv.nil⟩⟩⟩ ?_)
 rintro r0 a w ⟨k,cs,rfl,hk,hf,e,B2,B3,HD⟩
 repeat refine seq ?_
 refine rgN 8 hf <| st (mv rfl) <| st (mv rfl) <| st (aF U22 (isE rfl (VA.st _ _ _ _ e h))) <| st (lss rfl rfl) <| st (mv rfl) <| sgE rfl rfl (.k 4 rfl .n) (fun hgd=>mv rfl) <| sgE rfl rfl (.c 11 rfl (fun h=>h) .n) (fun hgd=>lss rfl rfl) <| st ((bG rfl rfl (fun h=>by rw[h];rfl)).eq (congrArg Value.bool (show (decide ((k:Int)<(l.length:Nat))&&decide ((k:Int)<60))=decide ((k:Int)<((N:Nat):Int)) from by rw[hN,← Bool.decide_and];congr 1;apply propext;omega))) ?_
 refine en fun a w e' hf=>?_
 obtain⟨HD,e,B2,B3⟩:=up4 e' HD e B2 B3
 refine aa <| ifc hf rfl (fun hc=>ak ?_) (fun hc=>aG ?_)
 rotate_left
 rotate_left
 ·have hlt:k<N:=by have:=of_decide_eq_true hc;(try dsimp only at this);omega
  replace hf:=hf.keep [0,2,3,4]
  refine seq <| blk ?_
  have hk:k<l.length∧k<60:=by omega
  have hg:=List.getElem?_eq_getElem hk.1
  generalize l[k]'hk.1=d at hg
  have hs:=nk hg
  have hln:=nl l k
  have hcs:cs.size=2:=by obtain⟨cs',h1',h2',_⟩:=Dv.gtOne HD;cases h1';exact h2'
  have hv:=VA.st _ _ _ _ e h
  have l2:=B2.lt;have l3:=B3.lt
  replace hf:=hf.kp [0,2,3,4]
  refine fD 10 [0,0,0,0,0,0,2,0,1] (Chg fun c=>c=b3) (cR.one _) (fun w=>∃cs,Blk w b3 cs 26∧(Dv gtE G' (doR (bZ l k) d).1).p (.agg cs) w) (fun w w1 k h=>h.imp fun cs h=>⟨h.1.ext k,VA.st _ _ _ _ k h.2⟩) Mix.mix hf (by decide +kernel) (by decide +kernel) <| ja (ldW T26 rfl B3 hcs) <| ja (mv rfl) <| ja (mv rfl) <| ja (aL U22 S53 (isE rfl hv) rfl (by omega) hg) <| ja (jc T53 (isR rfl)) <| ja (ar (A:=Tup [Dv gtE G' (doR (bZ l k) d).1,E (I (doR (bZ l k) d).2)]) vS rfl rfl (fun v u w he k1 k2=>by cases k1;cases k2;exact a0p (G:=G') (bZ l k) d _ w (VA.st _ _ _ _ he HD) (hGb w (Ext.tr e he) (Nat.lt_of_lt_of_le l2 he.size) (Nat.lt_of_lt_of_le l3 he.size)) (by omega) (by omega))) ?_
  refine jk (mv rfl) <| ja (aO rfl rfl) <| jf (fun w1 h1=>aO rfl rfl) <| jx (zX T26 rfl B3 hcs rfl (fun v w hv=>Dv.gtOne hv) (fun v w w' hc hv=>Dv.ch hv hc fun b hb=>by rw[hG',hb];exact .inr (.inr rfl))) ?_
  refine je <| fun a w hc HF hf=>?_
  obtain⟨cs',B3,HD⟩:=HF
  replace e:=e.ch hc (fun b hb=>by rw[hb];omega)
  replace B2:=B2.ch hc (by omega)
  refine aa ?_
  replace hf:=hf.keep [0,2,3,4]
  refine rgN 2 hf <| st (mv rfl) <| st ((add rfl rfl (by omega)).eq (congrArg (Value.int .i64) (show (k:Int)+1=((k+1:Nat):Int) from rfl))) <| en fun a w e' hf=>?_
  obtain⟨HD,e,B2,B3⟩:=up4 e' HD e B2 B3
  refine tA hf rfl fun a hf=>aa ?_
  replace hf:=hf.keep [0,2,3,4]
  refine⟨_,?_,k+1,cs',rfl,by omega,hf,e,?_⟩
  ·omega
  rw[hs]
  exact⟨B2,B3,HD⟩
 ·obtain rfl:k=N:=by have:=of_decide_eq_false hc;(try dsimp only at this);omega
  have hfin:bZ l k=jn l:=by
   rw[jn,bZ,bZ,hN]
   by_cases h60:l.length≤60
   ·rw[Nat.min_eq_left h60,List.take_of_length_le (Nat.le_refl _),List.take_of_length_le h60]
   ·rw[Nat.min_eq_right (by omega)]
  rw[hfin] at HD
  obtain⟨cs',h1',hcs,h1one⟩:=Dv.gtOne HD
  cases h1'
  haveI i2:InR G' (some b2):=⟨fun b hb=>by rw[hG'];cases hb;exact .inr (.inl rfl)⟩
  replace hf:=hf.kp [2,3]
  refine seq <| rgN 1 hf <| st (ldW T26 rfl B3 hcs) <| en fun a w e' hf=>?_
  obtain⟨HD,e,B2,B3⟩:=up4 e' HD e B2 B3
  refine az T26 hf rfl rfl h1one B2 rfl hcs fun w hg hsz B2 hf=>?_
  replace e:=e.gr hg (by omega);replace HD:=AvR.av (row:=some b2) _ _ _ hg HD;clear hg
  refine aa <| ai (dP rfl T26 hf rfl B2 hcs ?_)
  exact⟨_,rfl,e,Dv.weak HD fun b _ hb=>by rw[hG'];exact .inl hb⟩
end Go.Mono
namespace Go.Mono
open Go Go.Proofs Go.RowKit
def dB (t:List (Int×BS))(k:Nat)(p:Nat):List Int:=bF (fun i=>decide ((bg t i).1=(p:Int))) k
def cF (t:List (Int×BS))(k:Nat):List (List Int):=(List.range t.length).map (dB t k)
def kE (t:List (Int×BS)):List (List Int):=cF t t.length
theorem rT (t:List (Int×BS))(k:Nat):(cF t k).length=t.length:=by simp[cF]
theorem rU {t:List (Int×BS)}{k p:Nat}(h:p<t.length):(cF t k)[p]?=some (dB t k p):=by simp[cF,h]
theorem a0t (t:List (Int×BS)):cF t 0=List.replicate t.length []:=by
 refine List.ext_getElem (by simp[cF]) fun i h1 h2=>?_
 simp[cF,dB,bF]
theorem a0u {t:List (Int×BS)}{k:Nat}(h:(bg t k).1 = -1):cF t (k+1)=cF t k:=by
 unfold cF
 refine List.map_congr_left fun p _=>?_
 rw[dB,ib,if_neg (by rw[h];simp)]
 rfl
theorem a0v {t:List (Int×BS)}{k p:Nat}(h:(bg t k).1=(p:Int))(hp:p<t.length):cF t (k+1)=(cF t k).set p (dB t k p++[(k:Int)]):=by
 refine List.ext_getElem (by simp[cF]) fun i h1 h2=>?_
 rw[List.getElem_set]
 by_cases hi:p=i
 ·subst hi
  simp[cF,dB,ib,h]
 ·have:¬(p:Int)=(i:Int):=by omega
  simp[cF,dB,ib,h,this,hi]
def Rng (t:List (Int×BS)):Prop:=∀i,i<t.length → -1≤(bg t i).1∧(bg t i).1<t.length

theorem a0w {G:Nat→Prop}(t:List (Int×BS))(v:Value)(W:World)(h:(Dv bQ G t).p v W)(hG:∀b,G b→b<W.heap.size)(hl:t.length≤4096)(hr:Rng t) :
  Calls Tryz.prog 119 #[v] W (Post (Dv (slE (slE aj)) G (kE t)) W):=by
 refine eN [v] [Dv bQ (GB W G) t] Tryz.func119 Tryz.ntmps119 ?_ fun a hf=>?_
 rotate_left
 rotate_right
 ·exact arg1 (Dv.toB h)
 have e:=Ext.rfl' W
 refine seq <| ae <| tA hf rfl fun a hf=>aa <| seq <| rgN 2 hf <| st (mv rfl) <| st (aF U41 (isR rfl)) <| en fun a w e' hf=>?_
 replace e:=e.tr e'
 refine qs dQ I31 rfl hf (by decide) rfl (by omega) (by decide) fun a b8 w e' hb8 hs8 B8 hf=>?_
 have hle8:=Nat.le_trans e.size (Nat.le_of_eq hb8.symm)
 replace e:=e.tr e'
 refine tA hf rfl fun a hf=>aa ?_
 have HR:Rows 3 W.heap.size G w b8 (cF t 0) (List.replicate t.length (.slice none 0 0)):=by rw[a0t];exact Rows.nil e.size hG
 have hlen:(List.replicate t.length (Value.slice none 0 0)).length=t.length:=by simp
 repeat refine seq ?_
 refine rgN 3 hf <| st (mv rfl) <| st (aF U41 (isR rfl)) <| st (mv rfl) <| en fun a w e' hf=>?_
 obtain⟨e,B8,HR⟩:=up3 e' e B8 HR
 refine aa ?_
 replace hf:=hf.keep [3,9,10,11]
 refine blk (aJ (fun r0 a w=>∃(k:Nat) (vs:List Value),r0=t.length - k∧k≤t.length∧Fr 33 a w [(3,E (.slice (some ⟨b8,0,none⟩) t.length t.length)),(9,Dv bQ (GB W G) t),(10,E (I (t.length:Nat))),(11,E (I k))]∧Ext W w∧Blk w b8 vs.toArray 31∧vs.length=t.length∧Rows 3 W.heap.size G w b8 (cF t k) vs) t.length ⟨0,_,rfl,by omega,hf,e,B8,hlen,HR⟩ ?_)
 rintro r0 a w ⟨k,vs,rfl,hk,hf,e,B8,hlen,HR⟩
 refine seq <| rgN 1 hf <| st (lss rfl rfl) <| en fun a w e' hf=>?_
 obtain⟨e,B8,HR⟩:=up3 e' e B8 HR
 refine aa <| seq <| ifc hf rfl (fun hc=>ak ?_) (fun hc=>aG ?_)
 rotate_left
 rotate_left
 ·have hlt:k<t.length:=by have:=of_decide_eq_true hc;(try dsimp only at this);omega
  replace hf:=hf.kp [3,9,10,11]
  refine seq <| blk ?_
  have hx:=fR hlt
  have hrk:=hr k hlt
  refine seq <| ae <| tP hf (mv rfl) fun a w e' hf=>?_
  obtain⟨e,B8,HR⟩:=up3 e' e B8 HR
  refine tP hf (aL U41 S88 (isR rfl) rfl (by omega) (hx)) fun a w e' hf=>?_
  obtain⟨e,B8,HR⟩:=up3 e' e B8 HR
  refine tP hf (fS T88 (isR rfl)) fun a w e' hf=>?_
  obtain⟨e,B8,HR⟩:=up3 e' e B8 HR
  refine tL I88 hf fun a b5 w e' hb5 hs5 B5 hf=>?_
  have ne5_HR:=HR.ne_new hb5
  have lt5_B8:=B8.lt
  obtain⟨e,B8,HR⟩:=up3 e' e B8 HR
  refine tA hf rfl fun a hf=>?_
  haveI hinr:∀G0,InR (GB W G0) (some b5):=fun G0=>InR.gb (by omega)
  refine az T88 hf rfl rfl (ft _) B5 rfl (dw _) fun w hg hsz B5 hf=>?_
  obtain⟨e,B8⟩:=gr2 hg e B8
  replace HR:=HR.gr hg (by assumption)
  refine aa <| seq <| rgN 3 hf <| st (fA U88 rfl T3 rfl) <| st (ld1 T3 rfl B5 (dW _)) <| st (neq rfl rfl) <| en fun a w e' hf=>?_
  obtain⟨e,B8,HR,B5⟩:=up4 e' e B8 HR B5
  refine aa <| ifc hf rfl (fun hb=>?_) (fun hb=>?_)
  ·have hne:(bg t k).1 ≠ -1:=by simpa using hb
   obtain⟨p,hp⟩:∃p:Nat,(bg t k).1=(p:Int):=⟨(bg t k).1.toNat,by omega⟩
   have hpl:p<t.length:=by omega
   have hvp:vs[p]?=some (vs[p]'(by omega)):=by simp
   obtain⟨u,hu⟩:∃u,u=vs[p]'(by omega):=⟨_,rfl⟩
   rw[← hu] at hvp
   obtain⟨Ho,hob⟩:=HR.at' p u _ hvp (rU hpl)
   have n5:u.ownBlock≠some b5:=ne5_HR p u hvp
   have hsel:=qd (fun i=>decide ((bg t i).1=(p:Int))) k
   haveI hin:∀G0,InR (GB W G0) u.ownBlock:=OwR.inGB Ho (Nat.le_refl _)
   replace hf:=hf.kp [3,4,5,9,10,11]
   have h8:=B8.lt
   refine qq 12 10 u.ownBlock (by decide) Mix.mix hf (by decide +kernel) <| xm (fun w1 h1=>mv rfl) <| xm (fun w1 h1=>fA U88 rfl T3 rfl) <| xm (fun w1 h1=>(ld1 T3 rfl (B5.gro h1 n5) (dW _)).eq (congrArg (Value.int .i64) hp)) <| xm (fun w1 h1=>mv rfl) <| xm (fun w1 h1=>fA U88 rfl T3 rfl) <| xm (fun w1 h1=>(ld1 T3 rfl (B5.gro h1 n5) (dW _)).eq (congrArg (Value.int .i64) hp)) <| xm (fun w1 h1=>idxS dQ S31 rfl rfl (by omega)) <| xm (fun w1 h1=>ld1 T31 rfl (B8.gro h1 hob) (yl hvp)) <| xm (fun w1 h1=>mv rfl) <| xm (fun w1 h1=>bB U31 I3 rfl (by decide) rfl (fun b hb=>Nat.lt_of_lt_of_le (Ho.avs b hb) h1.size) (isI rfl)) <| xx (qt U31 I3 rfl rfl rfl Ho rfl (by simp only[List.length_singleton,dB];omega) (by simp only[List.length_singleton,dB,maxLen];omega)) ?_
   refine xn (fun w1 h1=>idxS dQ S31 rfl rfl (by omega)) <| xe fun a w hg hf=>?_
   obtain⟨v',⟨Hn,hat⟩,hf⟩:=hf.fix 29 rfl
   replace e:=e.gro hg (Ho.row (Nat.le_refl _))
   replace HR:=HR.upd hvp hg Hn hat h8
   replace B8:=B8.gro hg hob
   have hone:=Hn.one
   have hbo:=HR.ne_bo
   rw[← a0v hp hpl] at HR
   replace hf:=hf.kp [3,9,10,11,29,30]
   haveI hinr:∀G0,InR (GB W G0) (some b8):=fun G0=>InR.gb (by omega)
   refine aA T31 hf rfl rfl hone B8 (by simp;omega) fun w hg hsz B8 hf=>?_
   replace e:=e.gr hg (by omega)
   replace HR:=HR.gr hg hbo
   rw[yk] at B8
   refine aa <| rgN 1 hf <| st ((add rfl rfl (by omega)).eq (congrArg (Value.int .i64) (show (k:Int)+1=((k+1:Nat):Int) from rfl))) <| en fun a w e' hf=>?_
   obtain⟨e,B8,HR⟩:=up3 e' e B8 HR
   refine tP hf (mv rfl) fun a w e' hf=>?_
   obtain⟨e,B8,HR⟩:=up3 e' e B8 HR
   refine aa ?_
   replace hf:=hf.keep [3,9,10,11]
   refine⟨_,?_,k+1,vs.set p v',rfl,by omega,hf,e,?_⟩
   ·omega
   exact⟨B8,by simpa using hlen,HR⟩
  ·have hne:(bg t k).1 = -1:=by simpa using hb
   refine ak <| rgN 1 hf <| st ((add rfl rfl (by omega)).eq (congrArg (Value.int .i64) (show (k:Int)+1=((k+1:Nat):Int) from rfl))) <| en fun a w e' hf=>?_
   obtain⟨e,B5,B8,HR⟩:=up4 e' e B5 B8 HR
   refine tP hf (mv rfl) fun a w e' hf=>?_
   obtain⟨e,B5,B8,HR⟩:=up4 e' e B5 B8 HR
   refine aa ?_
   replace hf:=hf.keep [3,9,10,11]
   refine⟨_,?_,k+1,vs,rfl,by omega,hf,e,?_⟩
   ·omega
   exact⟨B8,hlen,by rw[a0u hne];exact HR⟩
 ·obtain rfl:k=t.length:=by have:=of_decide_eq_false hc;(try dsimp only at this);omega
  refine seq <| rgN 1 hf <| st (mv rfl) <| en fun a w e' hf=>?_
  obtain⟨e,B8,HR⟩:=up3 e' e B8 HR
  refine tA hf rfl fun a hf=>aa ?_
  have hd:=HR.dv B8 (fun hg=>by have:=hG _ hg;omega) (Nat.le_of_eq (rT t _))
  rw[rT] at hd
  refine ai <| ap rfl hf rfl ?_
  rintro _ rfl
  exact⟨_,rfl,e,hd⟩
end Go.Mono
