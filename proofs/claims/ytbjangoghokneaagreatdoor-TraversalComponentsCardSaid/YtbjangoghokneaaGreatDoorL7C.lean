/-
  XL7C.
  No condition.
-/
import Derived.Test.YtbjangoghokneaaGreatDoorL7f
set_option linter.unusedVariables false
set_option linter.unusedSimpArgs false
namespace Go.Mono
open Go Go.Proofs Go.RowKit Go.Gr
theorem law7C_spec {G:Nat→Prop} (g:GT) (a0 c0:Int) (v:Value) (W:World) (hT:Tab W) (h:(Dv gtE G g).p v W) (hV:∀x∈g.1,0≤x.2.1∧x.2.1<256) (hE:∀x∈g.2,0≤x.2.1∧x.2.1<256) :
  Calls Tryz.prog 6 #[v,I a0,I c0] W (Post (E (B true)) W):=by
 have hT0:=hT.lt
 obtain⟨u1,u2,rfl,h1,h2⟩:=Dv.gt.1 (Dv.weak (G':=Go.Mono.G0) h fun b _ hb=>hb.elim)
 have hg0:(Dv gtE Go.Mono.G0 g).p (.agg #[u1,u2]) W:=Dv.gt.2 ⟨_,_,rfl,h1,h2⟩
 refine eN [.agg #[u1,u2],I a0,I c0] [E (.agg #[u1,u2]),E (I a0),E (I c0)] Tryz.func6 Tryz.ntmps6 ?_ fun a hf=>?_
 rotate_left
 dsimp only[params,Nat.reduceAdd] at hf
 rotate_right
 ·exact arg3 rfl rfl rfl
 have e:=Ext.rfl' W
 refine seq <| regn0 <| tB hf rfl fun a b3 w v3 hv3 e' hb3 hs3 B3 hf=>?_
 obtain⟨hT,e⟩:=up2 e' hT e
 refine tA hf rfl fun a hf=>tl_nil ?_
 cases hv3
 have e1:=e
 refine seq <| rgN 5 hf <| st ((ldW T25 rfl B3 rfl).eq ((rfl:_=Value.agg #[u1,u2]))) <| st (call1 (A:=Tup [FrM g,Dv gtE Go.Mono.G0 (frM g).1]) En11 rfl (fun v w he k1=>by cases k1;exact made07_spec g _ w (VA.st _ _ _ _ (Ext.tr e1 he) hg0) hV hE)) ?_
 refine st (mv rfl) <| st (ext_ rfl rfl) <| st (ext_ rfl rfl) <| en fun a w e' hf=>?_
 obtain⟨hT,e,B3⟩:=up3 e' hT e B3
 obtain⟨z,hz,hf⟩:=hf.opn 13 rfl
 obtain⟨z1,z2,rfl,hz1,hz2⟩:=Dv.gt.1 hz
 have hzo:(#[z1,z2]:Array Value).all (·.oneCell')=true:=one2 (slOne hz1) (slOne hz2)
 obtain⟨gv,hgv,hf⟩:=hf.opn 12 rfl
 obtain⟨W1,hW1⟩:∃W1,W1=w:=⟨_,rfl⟩
 have e2:Ext W1 w:=by rw[hW1];exact Ext.rfl' _
 replace hgv:(FrM g).p gv W1:=by rw[hW1];exact hgv
 have hzz:(Dv gtE Go.Mono.G0 (frM g).1).p (.agg #[z1,z2]) W1:=by rw[hW1];exact hz
 have hWW:W1.heap.size≤w.heap.size:=e2.size
 have hW0:W.heap.size≤W1.heap.size:=by rw[hW1];exact e.size
 replace hf:=hf.kp [1,2,12,13]
 refine tL I25 hf fun a b8 w e' hb8 hs8 B8 hf=>?_
 obtain⟨hT,e2,e⟩:=up3 e' hT e2 e
 refine tA hf rfl fun a hf=>?_
 have n8:W1.heap.size≤b8:=by omega
 refine tl_stW T25 hf rfl rfl hzo B8 rfl rfl fun w hg hsz B8 hf=>?_
 obtain⟨e,hT⟩:=gr2 hg e hT
 replace e2:=e2.gr hg n8
 refine tl_nil ?_
 replace hf:=hf.keep [1,2,7,8]
 cases hfr':(frM g).2 with
 | false=>
  obtain rfl:=hgv.2 hfr'
  repeat refine seq ?_
  refine rgN 2 hf <| st (mv rfl) <| st (eqlPP Tryz.underlying26 rfl rfl (.inl rfl)) <| en fun a w e' hf=>?_
  obtain⟨hT,e2,e,B8⟩:=up4 e' hT e2 e B8
  refine tl_nil <| ifc hf rfl (fun _=>?_) (fun h=>by cases h)
  refine seq <| rgN 1 hf <| st (call0 (A:=E (B true)) En12 (fun w he=>known07_spec w (hT.ext he))) <| en fun a w e' hf=>?_
  obtain⟨hT,e2,e,B8⟩:=up4 e' hT e2 e B8
  refine tA hf rfl fun a hf=>tl_nil <| wret <| ret1 rfl hf rfl ?_
  rintro _ rfl
  exact⟨_,rfl,e,rfl⟩
 | true=>
  obtain⟨ok,l1,l2⟩:=mdOk hfr' hV hE
  have hgd:=hgv.1 hfr'
  generalize (frM g).1=gg at ok l1 l2 hgd hzz
  have hl1:gg.1.length≤100000:=by omega
  have hl2:gg.2.length≤100000:=by omega
  repeat refine seq ?_
  refine rgN 2 hf <| st (mv rfl) <| st (eqlP Tryz.underlying26 (isE rfl (VA.st _ _ _ _ e2 hgd))) <| en fun a w e' hf=>?_
  obtain⟨hT,e2,e,B8⟩:=up4 e' hT e2 e B8
  refine tl_nil <| ifc hf rfl (fun h=>by cases h) (fun _=>?_)
  refine wskip ?_
  have hpl:=pt_len ok
  obtain⟨ps,hps⟩:∃ps,ps=ptF gg:=⟨_,rfl⟩
  have hpe:∀x∈ps,x.length≤100000:=by rw[hps];exact pt_each
  rw[← hps] at hpl
  have dd:decide (ps=ps)=true:=decide_eq_true rfl
  have e4:=e2
  refine seq <| rgG 19 Mix.mix hf <| st (mv rfl) <| st (call1 (A:=Dv (slE (slE intE)) Go.Mono.G0 ps) En22 rfl (fun v w he k=>by cases k;rw[hps];exact comps7_spec gg ok gv w (hT.ext he) (VA.st _ _ _ _ (Ext.tr e4 he) hgd) hl1 hl2 (by omega))) ?_
  refine st ((ldW T25 rfl B8 rfl).eq ((rfl:_=Value.agg #[z1,z2]))) <| st (call1 (A:=Dv (slE (slE intE)) Go.Mono.G0 ps) En27 rfl (fun v w he k=>by cases k;rw[hps];exact parts7_spec gg ok _ w (VA.st _ _ _ _ (Ext.tr e4 he) hzz) hl1 hl2 (fun b hb=>hb.elim))) ?_
  refine st (call2 (A:=E (B true)) (B:=Dv (slE (slE intE)) Go.Mono.G0 ps) (C:=Dv (slE (slE intE)) Go.Mono.G0 ps) En20 rfl rfl (fun v u w he k k'=>by have:=all07_spec ps ps v u w k k' (by omega) (by omega) hpe hpe;rwa [dd] at this)) ?_
  refine st (mv rfl) <| sy rfl rfl (mv rfl) <| sy rfl rfl (mv rfl) <| sy rfl rfl (mv rfl) <| sy rfl rfl (call3 (A:=E (B (jnF gg a0 c0))) En28 rfl rfl rfl (fun v u s w he k k' k''=>by cases k;cases k';cases k'';exact conn7_spec gg ok a0 c0 gv w (hT.ext he) (VA.st _ _ _ _ (Ext.tr e4 he) hgd) hl1 hl2 (by omega))) ?_
  refine sy rfl rfl ((ldW T25 rfl B8 rfl).eq ((rfl:_=Value.agg #[z1,z2]))) <| sy rfl rfl (mv rfl) <| sy rfl rfl (mv rfl) <| sy rfl rfl (call3 (A:=E (B (jnF gg a0 c0))) En29 rfl rfl rfl (fun v u s w he k k' k''=>by cases k;cases k';cases k'';exact joined7_spec gg ok a0 c0 _ w (VA.st _ _ _ _ (Ext.tr e4 he) hzz) hl1 hl2)) ?_
  refine sy rfl rfl ((eqlB Tryz.underlying4 rfl rfl).eq (congrArg Value.bool (beq_self_eq_true _))) <| st (pkT rfl rfl) <| st (mv rfl) <| sy rfl rfl (call0 (A:=E (B true)) En12 (fun w he=>known07_spec w (hT.ext he))) <| st (pkT rfl rfl) <| en fun a w e' hf=>?_
  obtain⟨hT,e2,e,B8⟩:=up4 e' hT e2 e B8
  refine tA hf rfl fun a hf=>tl_nil <| wret <| ret1 rfl hf rfl ?_
  rintro _ rfl
  exact⟨_,rfl,e,rfl⟩
end Go.Mono
