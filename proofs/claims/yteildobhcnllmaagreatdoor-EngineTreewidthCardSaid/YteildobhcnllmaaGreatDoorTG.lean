/-
  Walks of functions and plain facts.
  No condition.
-/
import Derived.Test.YteildobhcnllmaaGreatDoorTF
import Derived.Test.YteildobhcnllmaaGreatDoorTE
import Derived.Test.YteildobhcnllmaaGreatDoorTD
import Derived.Test.YteildobhcnllmaaGreatDoorTB
set_option linter.unusedVariables false
set_option linter.unusedSimpArgs false
namespace Go.Mono
open Go Go.Proofs Go.RowKit Go.Gr
theorem NrM.nil (nh:Nat→BS):NrM [] 0 nh:=⟨fun x=>⟨fun⟨c,h⟩=>(by cases h),fun⟨i,_,h⟩=>(by simp at h)⟩,fun i h=>(by simp at h)⟩
theorem NrM.add {l:List (Int×BS)}{J:BS}{nh:Nat→BS}(h:NrM l J nh){x:Nat}(hx:x<1024){c:BS}(hc:c=nh x):NrM (bE l (x:Int) c) (ins J (x:Int)) nh where
 key y:=by
  rw[tW,h.key]
  constructor
  ·rintro (rfl|⟨i,rfl,hi⟩)
   ·exact⟨x,rfl,(aX J hx).2 (.inr rfl)⟩
   ·exact⟨i,rfl,(aX J hx).2 (.inl hi)⟩
  ·rintro⟨i,rfl,hi⟩
   rcases (aX J hx).1 hi with hi|rfl
   ·exact .inr ⟨i,rfl,hi⟩
   ·exact .inl rfl
 val i hi:=by
  rw[tV]
  by_cases he:i=x
  ·rw[if_pos (by rw[he]),hc,he]
  ·rw[if_neg (by omega)]
   exact h.val i (((aX J hx).1 hi).resolve_right he)
theorem uJ (S:BS):aT S []=S:=rfl
theorem uK (S:BS)(l:List Nat)(x:Nat):aT S (l++[x])=ins (aT S l) (x:Int):=by rw[a2k,lh,uJ]
theorem a3A (near:Nat→BS):egL near []=near:=rfl
theorem Ds.groE {D:List Nat}{w w':World}{row:Option Nat}(h:Ds D w)(hg:w.grownBy w' row)(hb:∀d∈D,row≠some d):Ds D w':=⟨h.1,fun d hd=>(hg.block d (h.lt hd) (fun he=>hb d hd he.symm)).trans (h.2 d hd)⟩
theorem iG {l:List Nat}{k x:Nat}(h:l[k]?=some x):l.getD k 0=x:=by rw[List.getD_eq_getElem?_getD,h];rfl
theorem uL {l:List Nat}{k x:Nat}(h:l[k]?=some x):(aD l)[k]?=some (x:Int):=by rw[aD,List.getElem?_map,h];rfl
theorem a3B {g:GT}(ok:Gr.Ok g){l:List Nat}(hnd:l.Nodup)(hlt:∀x∈l,x<1024){k x:Nat}(h:l[k]?=some x):egL (fun i=>nbA g (i:Int)) (l.take k) x=foN (nbA g) l k:=by
 have hk:k<l.length:=(List.getElem?_eq_some_iff.1 h).1
 have hx:x∈l:=List.mem_of_getElem? h
 have hg:=iG h
 have:=od (gw ok) (fun a h=>(((eB ok).1 h).inn ok).2.2 rfl) l hnd hlt k (by omega) x (hlt x hx) (by rw[← hg,iE hnd hk];omega)
 rw[this,foN,hg]
def DoE (W:World)(fid:FuncId)(caps:Array Value)(g:GT)(l:List Nat)(S0:Nat→Prop)(J:Nat→(Nat→Prop)→World→Prop):Prop:=
 ∀k,k<l.length→∀K w c,(∀b,K b→W.heap.size≤b∧b<w.heap.size)→W.heap.size≤w.heap.size→Tab w→J k K w →
  Calls Tryz.prog fid (#[I (k:Nat),.agg (bJ ((l.getD k 0:Nat),foN (nbA g) l k)),c]++caps) w (fun en w'=>en=.returned (.tuple #[])∧Chg (fun b=>S0 b∨(W.heap.size≤b∧¬K b)) w w'∧J (k+1) K w')
def KE (b8 bm:Nat)(D:List Nat)(b:Nat):Prop:=b=b8∨b=bm∨b∈D
structure ElW (W:World)(g:GT)(l:List Nat)(ov:Value)(S0:Nat→Prop)(J:Nat→(Nat→Prop)→World→Prop)(b8 bm k:Nat)(D:List Nat)(w:World):Prop where
 c:Chg S0 W w
 t:Tab w
 p8:Blk w b8 #[.map (some bm)] 64
 m:∃lm,MpR sKV w bm lm.length lm∧NrM lm (ah g.1) (egL (fun i=>nbA g (i:Int)) (l.take k))
 o:(Dv (slE aj) (fun b=>S0 b∨W.heap.size≤b) (aD l)).p ov w
 d:Ds D w
 dl:∀d∈D,W.heap.size≤d
 j:J k (KE b8 bm D) w
theorem ElW.ext {W:World}{g:GT}{l:List Nat}{ov:Value}{S0:Nat→Prop}{J:Nat→(Nat→Prop)→World→Prop}{b8 bm k:Nat}{D:List Nat}{w w':World}(h:ElW W g l ov S0 J b8 bm k D w)(hJ1:∀k K w w',(∀b,K b→W.heap.size≤b)→J k K w→Chg K w w'→J k K w')(hK:∀b,KE b8 bm D b→W.heap.size≤b)(e:Ext w w'):ElW W g l ov S0 J b8 bm k D w':=by
 obtain⟨lm,m1,m2⟩:=h.m
 exact⟨h.c.ext e,h.t.ext e,h.p8.ext e,⟨lm,m1.ext e,m2⟩,VA.st _ _ _ _ e h.o,h.d.ext e,h.dl,hJ1 _ _ _ _ hK h.j (e.chg _)⟩
structure ElK (wi:World)(K1:Nat→Prop)(b8 bm b12 b13 b14 x:Nat)(S V:BS)(f:Nat→BS)(D:List Nat)(N B:Nat)(xs:List (Int×Int))(cv:Value)(lm:List (Int×BS))(w:World):Prop where
 c:Chg K1 wi w
 t:Tab w
 p8:Blk w b8 #[.map (some bm)] 64
 p12:Blk w b12 #[I (x:Nat)] 3
 p13:Blk w b13 (bJ ((x:Nat),S)) 81
 m:MpR sKV w bm lm.length lm
 r:NrM lm V f
 d:Ds D w
 p14:Blk w b14 #[cv] 82
 o:OwR edE 123 1 G0 w xs cv
 nh:∀b,cv.ownBlock=some b→N≤b∧¬aS B b
structure ElN (N b8 bm b12 b13 b14:Nat)(D:List Nat):Prop where
 lt:0<N∧b8<N∧bm<N∧b12<N∧b13<N∧b14<N
 ne:b8≠bm∧b12≠bm∧b13≠bm∧b14≠bm∧b8≠b14∧b12≠b14∧b13≠b14∧bm ∉ D∧b14 ∉ D∧0<bm∧0<b14
 d:∀d∈D,d<N
section
variable {wi w w' w2:World}{K1:Nat→Prop}{b8 bm b12 b13 b14 x:Nat}{S V:BS}{f f':Nat→BS}{D:List Nat}{N Nq B B':Nat}{xs xs':List (Int×Int)}{cv cv':Value}{lm lm':List (Int×BS)}
theorem ElK.ext (h:ElK wi K1 b8 bm b12 b13 b14 x S V f D N B xs cv lm w)(e:Ext w w'):ElK wi K1 b8 bm b12 b13 b14 x S V f D N B xs cv lm w':=
 ⟨h.c.ext e,h.t.ext e,h.p8.ext e,h.p12.ext e,h.p13.ext e,h.m.ext e,h.r,h.d.ext e,h.p14.ext e,h.o.ext e,h.nh⟩
theorem ElK.kp (h:ElK wi K1 b8 bm b12 b13 b14 x S V f D N B xs cv lm w)(k:Kp B' w w')(q:ElN Nq b8 bm b12 b13 b14 D)(hB:Nq≤B')(hW:wi.heap.size≤B')(hn:∀b,cv.ownBlock=some b→¬aS B' b):ElK wi K1 b8 bm b12 b13 b14 x S V f D N B xs cv lm w':=by
 obtain⟨q0,q8,qm,q12,q13,q14⟩:=q.lt
 have no:∀{b},b<Nq→¬aS B' b:=fun h hh=>Nat.lt_irrefl _ (Nat.lt_of_lt_of_le h (Nat.le_trans hB hh.1))
 exact⟨h.c.kp k hW,h.t.kp k (Nat.lt_of_lt_of_le q0 hB),h.p8.kp k (no q8),h.p12.kp k (no q12),h.p13.kp k (no q13),h.m.pres (k.same _ h.m.lt (no qm)),h.r,h.d.ch k.chg fun d hd=>no (q.d d hd),h.p14.kp k (no q14),h.o.chE k.chg hn,h.nh⟩
theorem ElK.gr {b:Nat}(h:ElK wi K1 b8 bm b12 b13 b14 x S V f D N B xs cv lm w)(hg:w.grownBy w' (some b))(q:ElN Nq b8 bm b12 b13 b14 D)(hB:Nq≤b)(hW:wi.heap.size≤b)(hn:cv.ownBlock≠some b):ElK wi K1 b8 bm b12 b13 b14 x S V f D N B xs cv lm w':=by
 obtain⟨q0,q8,qm,q12,q13,q14⟩:=q.lt
 have no:∀{c},c<Nq→c≠b:=fun h hh=>Nat.lt_irrefl _ (Nat.lt_of_lt_of_le h (hh▸hB))
 exact⟨h.c.gr hg (.inr hW),h.t.gr hg (Nat.lt_of_lt_of_le q0 hB),h.p8.gr hg (no q8),h.p12.gr hg (no q12),h.p13.gr hg (no q13),h.m.pres (hg.block _ h.m.lt fun e=>no qm (Option.some.inj e)),h.r,h.d.gr hg fun hd=>no (q.d _ hd) rfl,h.p14.gr hg (no q14),h.o.grE hg hn,h.nh⟩
theorem ElK.put {n:Nat}(h:ElK wi K1 b8 bm b12 b13 b14 x S V f D N B xs cv lm w)(hg:w.grownBy w' (some bm))(q:ElN Nq b8 bm b12 b13 b14 D)(hbm:bm<N)(hK:K1 bm)(hM:MpR sKV w' bm n lm')(hr:NrM lm' V f'):ElK wi K1 b8 bm b12 b13 b14 x S V f' D N B xs cv lm' w':=by
 obtain⟨n8,n12,n13,n14,_,_,_,nD,_,n0,_⟩:=q.ne
 exact⟨h.c.gr hg (.inl hK),h.t.gr hg n0,h.p8.gr hg n8,h.p12.gr hg n12,h.p13.gr hg n13,hM.tight0,hr,h.d.gr hg nD,h.p14.gr hg n14,h.o.grE hg fun hh=>Nat.lt_irrefl _ (Nat.lt_of_lt_of_le hbm (h.nh _ hh).1),h.nh⟩
theorem ElK.app (h:ElK wi K1 b8 bm b12 b13 b14 x S V f D N B xs cv lm w)(hg:w.grownBy w2 cv.ownBlock)(q:ElN N b8 bm b12 b13 b14 D)(hN:wi.heap.size≤N)(hK:wi.heap.size≤b14)(hO:OwR edE 123 1 G0 w2 xs' cv')(hat:cv'.ownBlock=cv.ownBlock∨cv'.ownBlock=some w.heap.size)(hw:N≤w.heap.size)(hwB:B+3≤w.heap.size)
  (hg2:w2.grownBy w' (some b14)) (B14:Blk w' b14 #[cv'] 82):ElK wi K1 b8 bm b12 b13 b14 x S V f D N B xs' cv' lm w':=by
 obtain⟨q0,q8,qm,q12,q13,q14⟩:=q.lt
 obtain⟨n8,n12,n13,n14,m8,m12,m13,nD,mD,n0,m0⟩:=q.ne
 have no:∀{c},c<N→cv.ownBlock≠some c:=fun h1 hh=>Nat.lt_irrefl _ (Nat.lt_of_lt_of_le h1 (h.nh _ hh).1)
 have nh':∀b,cv'.ownBlock=some b→N≤b∧¬aS B b:=fun b hb=>hat.elim (fun hh=>h.nh b (by rw[← hh];exact hb)) fun hh=>by
  rw[hh] at hb;cases hb
  exact⟨hw,fun hq=>by have:=hq.2;omega⟩
 refine⟨((h.c.tr2 (Chg.row hg) fun b hb=>.inr (Nat.le_trans hN (h.nh b hb).1)).gr hg2 (.inr hK)),(h.t.gro hg fun b hb=>Nat.lt_of_lt_of_le q0 (h.nh b hb).1).gr hg2 m0,(h.p8.gro hg (no q8)).gr hg2 m8,(h.p12.gro hg (no q12)).gr hg2 m12,(h.p13.gro hg (no q13)).gr hg2 m13,
  (h.m.pres (hg.block _ h.m.lt fun e=>no qm e.symm)).pres (hg2.block _ (Nat.lt_of_lt_of_le h.m.lt hg.size) fun e=>n14 (Option.some.inj e).symm),h.r,(h.d.groE hg fun d hd=>no (q.d d hd)).gr hg2 mD,B14,hO.grE hg2 fun hh=>Nat.lt_irrefl _ (Nat.lt_of_lt_of_le q14 (nh' _ hh).1),nh'⟩
end
section
variable {P:Program}{w0:World}{L:Env}{dst:Option Tmp}{ty:TypeId}{pos:String}{aft:Array Edge}{g:Option (Nat×Bool)}{t:TypeId}
theorem uM {fs:Array Field}{f1 f2:Field}{i1 i2:Operand}{a:Int}{S:BS}{zc:Value}{zs zb:Nat}(ht:P.underlying t=some (.struct fs))(hfs:fs = #[f1,f2])(ho1:f1.offset=0)(ho2:f2.offset=1)
  (hs1:(P.info? f1.type).map (·.size)=some 1) (hs2:(P.info? f2.type).map (·.size)=some 16) (hz:(P.info? t).map (fun i=>(i.zero,i.size,i.bytes))=some (some zc,zs,zb)) (hzs:zc.cells.size=17)
  (hx:Is L w0 i1 (Dv aj G0 a)) (hy:Is L w0 i2 (Dv bD G0 S)) :
  OpC P w0 L ⟨dst,.build t #[(0,i1),(1,i2)],ty,pos,aft,g⟩ (E (dU (a,S))):=(ya (e1:=aj) (e2:=bD) (G:=G0) ht hfs ho1 ho2 hs1 hs2 hz hzs hx hy).conv fun v w=>Dv.bag.1
end
theorem bPr (u y:Int):Tryz.prog.built 123 [(0,I u),(1,I y)]=some #[I u,I y]:=by kernel_rfl
theorem Kh.kpI {B B':Nat}{a w w':World}(h:Kh B a w)(k:Kp B' w w')(hb:B+3≤B'):Kh B a w':=⟨Nat.le_trans h.size k.size,fun x hx hh=>(k.same x (Nat.lt_of_lt_of_le hx h.size) fun h'=>by have:=h'.1;have:=hh.2;omega).trans (h.same x hx hh)⟩
theorem uN {L:Env}{w0:World}{x:Operand}{G:Nat→Prop}{n:Int×Int}(h:opd L x=some (E (.agg #[I n.1,I n.2]))):Is L w0 x (Dv edE G n):=isE h ⟨_,⟨_,_,rfl,rfl,rfl⟩,rfl⟩
set_option maxHeartbeats 2000000 in
theorem uO {G:Nat→Prop}{N:Nat}(g:GT)(ok:Gr.Ok g)(l:List Nat)(v ov:Value)(fid:FuncId)(caps:Array Value)(S0:Nat→Prop)(J:Nat→(Nat→Prop)→World→Prop)(W:World)(hT:Tab W)(h:(Dv (ptE (grE N)) G (some g)).p v W)(ho:(Dv (slE aj) (fun b=>S0 b∨W.heap.size≤b) (aD l)).p ov W)
  (hl:∀i,i∈l↔(ah g.1).getLsbD i=true) (hnd:l.Nodup) (hlen:l.length=g.1.length) (hl1:g.1.length≤4096) (hl2:g.2.length≤100000) (hN:N≤1000000) (hen:Proofs.Enters Tryz.prog fid)
  (hS0:∀b,S0 b→0<b∧b<W.heap.size) (hJ1:∀k K w w',(∀b,K b→W.heap.size≤b)→J k K w→Chg K w w'→J k K w') (hJ2:∀k K K' w,(∀b,K' b→K b∨w.heap.size≤b)→J k K w→J k K' w)
  (hdo:DoE W fid caps g l S0 J) (h0:J 0 (fun b=>W.heap.size≤b) W) :
  Calls Tryz.prog 30 #[v,ov,.func (.func fid) #[] caps] W (fun en w'=>en=.returned (I 0)∧Chg S0 W w'∧∃K,(∀b,K b→W.heap.size≤b)∧J l.length K w'):=by
 have hv:(Dv (ptE (grE N)) G0 (some g)).p v W:=Dv.weak h fun b _ hb=>hb.elim
 have hlt:∀x∈l,x<1024:=fun x hx=>ay ((hl x).1 hx)
 have hcl:∀i j:Nat,(nbA g (i:Int)).getLsbD j=true→j∈l:=fun i j h=>(hl j).2 (fG ok i j h)
 have hT0:=hT.lt
 have hnl:(aD l).length=l.length:=by rw[aD,List.length_map]
 obtain⟨n,hn⟩:∃n,n=l.length:=⟨_,rfl⟩
 have hn4:n≤4096:=by omega
 refine cq (args:=[v,ov,.func (.func fid) #[] caps]) (As:=[E v,E ov,E (.func (.func fid) #[] caps)]) Tryz.func30 rfl Tryz.ntmps30 (Nat.le_of_ble_eq_true rfl) ?_ (fun a hf=>?_) (Nat.le_of_ble_eq_true rfl)
 ·exact aQ rfl (aQ rfl (aQ rfl cO))
 dsimp only[params,Nat.reduceAdd] at hf
 have e:=Ext.rfl' W
 refine seq <| ae <| tA hf rfl fun a hf=>aa ?_
 replace hf:=hf.kp [0,1,2]
 have e0:=e
 repeat refine seq ?_
 refine rgN 3 hf <| st (mv rfl) <| st (mv rfl) <| st (ar (A:=E (I 0)) (B:=E ov) (C:=E v) wz rfl rfl (fun u1 u2 w he k1 k2=>by cases k1;cases k2;exact a3v g ok l ov v w (VA.st _ _ _ _ (Ext.tr e0 he) ho) (VA.st _ _ _ _ (Ext.tr e0 he) h) hl hlen hl1 hN)) ?_
 refine en fun a w e' hf=>?_
 obtain⟨hT,e⟩:=up2 e' hT e
 refine tA hf rfl fun a hf=>aa ?_
 replace hf:=hf.kp [0,1,2,7]
 refine seq <| rgN 2 hf <| st (mv rfl) <| st ((neq rfl rfl).eq (congrArg Value.bool ((bne_self_eq_false (0:Int):_=false)))) <| en fun a w e' hf=>?_
 obtain⟨hT,e⟩:=up2 e' hT e
 refine aa <| ifc hf rfl (fun h=>by cases h) (fun _=>?_)
 refine ak ?_
 replace hf:=hf.kp [0,1,2]
 refine seq <| ae <| eV sKV hf (by decide) fun a bm w e' hbm hsm HM hf=>?_
 have hWm:W.heap.size≤bm:=by rw[hbm];exact e.size
 obtain⟨e,hT⟩:=up2 e' e hT
 have lm:=HM.lt
 refine tL I64 hf fun a b8 w e' hb8 hs8 B8 hf=>?_
 obtain⟨hT,HM,e⟩:=up3 e' hT HM e
 haveI hinr:∀G0,InR (GB W G0) (some b8):=fun G0=>InR.gb (by omega)
 refine aA T64 hf rfl rfl rfl B8 (by decide) fun w hg hsz B8 hf=>?_
 replace hT:=hT.gr hg (by omega)
 replace HM:=HM.gr hg (fun h=>by cases h;omega)
 replace e:=e.gr hg (by omega)
 refine aa ?_
 replace B8:Blk w b8 #[.map (some bm)] 64:=B8
 have hWb8:W.heap.size≤b8:=by omega
 have n8:b8≠bm:=by omega
 replace hf:=hf.kp [0,1,2,8]
 repeat refine seq ?_
 refine rgN 3 hf <| st (mv rfl) <| st (aF U35 (isE rfl (VA.st _ _ _ _ e ho))) <| st (mv rfl) <| en fun a w e' hf=>?_
 obtain⟨hT,HM,e,B8⟩:=up4 e' hT HM e B8
 refine aa ?_
 rw[hnl,← hn] at hf
 replace hf:=hf.upd 27 rfl (B:=E (I ((0:Nat):Int))) fun v h=>h
 replace hf:=hf.kp [0,1,2,8,25,26,27]
 have hM0:∃lm,MpR sKV w bm lm.length lm∧NrM lm (aT 0 (l.take 0)) (fun i=>nbA g (i:Int)):=⟨[],HM,NrM.nil _⟩
 refine blk (aJ (fun r0 a w=>∃i:Nat,r0+i=n∧Fr 93 a w [(0,E v),(1,E ov),(2,E (.func (.func fid) #[] caps)),(8,E (ptr b8)),(25,E ov),(26,E (I (n:Nat))),(27,E (I (i:Nat)))]∧Ext W w∧Tab w∧Blk w b8 #[.map (some bm)] 64∧∃lm,MpR sKV w bm lm.length lm∧NrM lm (aT 0 (l.take i)) (fun i=>nbA g (i:Int))) n ⟨0,Nat.add_zero _,hf,e,hT,B8,hM0⟩ ?_)
 rintro r0 a w ⟨i,hr0,hf,e,hT,B8,lm,HM,hM⟩
 refine seq ?_
 by_cases hi:i<n
 ·have hx:=List.getElem?_eq_getElem (show i<l.length by omega)
  generalize l[i]=x at hx
  have hx1024:x<1024:=hlt x (List.mem_of_getElem? hx)
  have hxi:=uL hx
  have hln:lm.length≤1024:=hM.len (by obtain⟨_,_,_,hp⟩:=HM;exact hp.2)
  have lmw:=HM.lt
  refine rgN 1 hf <| st ((lss rfl rfl).eq (congrArg Value.bool ((decide_eq_true (by omega):_=true)))) <| en fun a w e' hf=>?_
  obtain⟨hT,HM,e,B8⟩:=up4 e' hT HM e B8
  refine aa <| seq <| ifc hf rfl (fun _=>ak ?_) (fun h=>by cases h)
  refine seq <| blk ?_
  replace hf:=hf.kp [0,1,2,8,25,26,27]
  refine seq <| rgN 2 hf <| st (aL (j:=i) U35 S3 (isE rfl (VA.st _ _ _ _ e ho)) rfl (by omega) hxi) <| st (ldI T3 (isR rfl)) <| en fun a w e' hf=>?_
  obtain⟨hT,HM,e,B8⟩:=up4 e' hT HM e B8
  refine tA hf rfl fun a hf=>aa ?_
  replace hf:=hf.kp [0,1,2,8,10,25,26,27]
  have e0:=e
  refine rgG 5 Mix.mix hf <| st (ld1 (v:=.map (some bm)) T64 rfl B8 rfl) <| st (mv rfl) <| st (mv rfl) <| st (mv rfl) <| st (ar (A:=E (ac (nbG g.2 (x:Int)))) (B:=E v) (C:=E (I (x:Nat))) fP rfl rfl (fun v u w he k1 k2=>by cases k1;cases k2;exact gN g _ _ w (VA.st _ _ _ _ (Ext.tr e0 he) hv) ok.se hl2 hN)) ?_
  refine en fun a w e' hf=>?_
  obtain⟨hT,HM,e,B8⟩:=up4 e' hT HM e B8
  refine dc (V:=sKV) (i:=(x:Int)) (c:=nbG g.2 (x:Int)) U64 hf rfl rfl rfl HM (by simp only[maxLen];omega) (bh (by omega) (by omega)) trivial fun w hg HM hf=>?_
  obtain⟨e,hT⟩:=gr2 hg e hT
  replace B8:=B8.gr hg n8
  refine aa ?_
  replace hf:=hf.kp [0,1,2,8,25,26,27]
  refine rgN 1 hf <| st ((add rfl rfl (by omega)).eq (congrArg (Value.int .i64) (show ((i:Nat):Int)+1=((i+1:Nat):Int) from rfl))) <| en fun a w e' hf=>?_
  obtain⟨hT,HM,e,B8⟩:=up4 e' hT HM e B8
  refine tP hf (mv rfl) fun a w e' hf=>?_
  obtain⟨hT,HM,e,B8⟩:=up4 e' hT HM e B8
  refine aa ?_
  replace hf:=hf.kp [0,1,2,8,25,26,27]
  refine⟨r0 - 1,by omega,i+1,by omega,hf,e,hT,B8,_,HM.tight0,?_⟩
  rw[cB hx,uK]
  exact hM.add hx1024 (oD ok x).symm
 ·have hie:i=n:=by omega
  rw[hie,hn,List.take_length,show aT 0 l=ah g.1 from (uF l 0).symm.trans (uG hl)] at hM
  refine rgN 1 hf <| st ((lss rfl rfl).eq (congrArg Value.bool ((decide_eq_false (by omega):_=false)))) <| en fun a w e' hf=>?_
  obtain⟨hT,HM,e,B8⟩:=up4 e' hT HM e B8
  refine aa <| seq <| ifc hf rfl (fun h=>by cases h) (fun _=>aG ?_)
  replace hf:=hf.kp [1,2,8]
  repeat refine seq ?_
  refine rgN 3 hf <| st (mv rfl) <| st (aF U35 (isE rfl (VA.st _ _ _ _ e ho))) <| st (mv rfl) <| en fun a w e' hf=>?_
  obtain⟨hT,HM,e,B8⟩:=up4 e' hT HM e B8
  refine aa ?_
  rw[hnl,← hn] at hf
  replace hf:=hf.upd 39 rfl (B:=E (I ((0:Nat):Int))) fun v h=>h
  have hKW0:∀b,KE b8 bm [] b→W.heap.size≤b:=fun b hb=>by
   rcases hb with rfl|rfl|hb
   ·exact hWb8
   ·exact hWm
   ·cases hb
  have hS:ElW W g l ov S0 J b8 bm 0 [] w:=⟨e.chg _,hT,B8,⟨lm,HM,by rw[List.take_zero,a3A];exact hM⟩,VA.st _ _ _ _ e ho,Ds.nil w,fun d hd=>by (cases hd),hJ2 _ _ _ _ (fun b hb=>.inl (hKW0 b hb)) (hJ1 _ _ _ _ (fun b hb=>hb) h0 (e.chg _))⟩
  have hf:FrD 93 (bq []) a w [(2,E (.func (.func fid) #[] caps)),(8,E (ptr b8)),(37,E ov),(38,E (I (n:Nat))),(39,E (I ((0:Nat):Int)))]:=hf.keep [2,8,37,38,39]
  refine blk (aJ (fun r0 a w=>∃(k:Nat) (D:List Nat),r0+k=n∧FrD 93 (bq D) a w [(2,E (.func (.func fid) #[] caps)),(8,E (ptr b8)),(37,E ov),(38,E (I (n:Nat))),(39,E (I (k:Nat)))]∧ElW W g l ov S0 J b8 bm k D w) n ⟨0,[],Nat.add_zero _,hf,hS⟩ ?_)
  rintro r0 a w ⟨k,D,hr0,hf,hS⟩
  have hKW:∀b,KE b8 bm D b→W.heap.size≤b:=fun b hb=>by
   rcases hb with rfl|rfl|hb
   ·exact hWb8
   ·exact hWm
   ·exact hS.dl b hb
  have hKlt:∀b,KE b8 bm D b→b<w.heap.size:=fun b hb=>by
   rcases hb with rfl|rfl|hb
   ·exact hS.p8.lt
   ·obtain⟨_,h,_⟩:=hS.m;exact h.lt
   ·exact hS.d.lt hb
  obtain⟨c,hT,B8,⟨lm,HM,hM⟩,hoi,hD,hDl,hj⟩:=hS
  refine seq ?_
  obtain⟨wi,hwi⟩:∃wi,wi=w:=⟨_,rfl⟩
  have ei:Ext wi w:=by rw[hwi];exact Ext.rfl' _
  rw[← hwi] at c hj hKlt hoi
  have hWi:W.heap.size≤wi.heap.size:=c.size
  by_cases hk:k<n
  ·have hx:=List.getElem?_eq_getElem (show k<l.length by omega)
   generalize l[k]=x at hx
   have hx1024:x<1024:=hlt x (List.mem_of_getElem? hx)
   have hwx:(Lit.int .i64 (x:Int)).wf=true:=bh (by omega) (by omega)
   have hxi:=uL hx
   have hxV:(ah g.1).getLsbD x=true:=(hl x).1 (List.mem_of_getElem? hx)
   obtain⟨S,hSe⟩:∃S,S=foN (nbA g) l k:=⟨_,rfl⟩
   obtain⟨V,hV⟩:∃V,V=ah g.1:=⟨_,rfl⟩
   obtain⟨f,hfe⟩:∃f,f=egL (fun i=>nbA g (i:Int)) (l.take k):=⟨_,rfl⟩
   have hfx:f x=S:=by rw[hfe,hSe];exact a3B ok hnd hlt hx
   have hSV:∀u,S.getLsbD u=true→V.getLsbD u=true:=fun u hu=>by
    rw[hSe] at hu
    obtain⟨j,hj,_,rfl,_⟩:=(eC hnd hlt hcl (by omega)).1 hu
    rw[hV]
    exact (hl _).1 (iF hj)
   rw[← hfe,← hV] at hM
   rw[← hV] at hxV
   have hval:lkS lm (x:Int)=S:=by rw[hM.val x hxV,hfx]
   refine rgN 1 hf <| st ((lss rfl rfl).eq (congrArg Value.bool ((decide_eq_true (by omega):_=true)))) <| en fun a w e' hf=>?_
   obtain⟨HM,hT,ei,B8,hD⟩:=up5 e' HM hT ei B8 hD
   refine aa <| seq <| ifc hf rfl (fun _=>ak ?_) (fun h=>by cases h)
   refine seq <| blk ?_
   replace hf:=hf.kp [2,8,37,38,39]
   obtain⟨Nr,hNr⟩:∃Nr,Nr=w.heap.size:=⟨_,rfl⟩
   have hNw:Nr≤w.heap.size:=Nat.le_of_eq hNr
   have l8:b8<Nr:=by rw[hNr];exact B8.lt
   have lmr:bm<Nr:=by rw[hNr];exact HM.lt
   have hDr:∀d∈D,d<Nr:=fun d hd=>by rw[hNr];exact hD.lt hd
   have hir:wi.heap.size≤Nr:=by rw[hNr];exact ei.size
   refine seq <| ae <| tP hf (mv rfl) fun a w e' hf=>?_
   obtain⟨HM,hT,ei,hNw,B8,hD⟩:=up6 e' HM hT ei hNw B8 hD
   refine tP hf (aL (j:=k) U35 S3 (isE rfl (VA.st _ _ _ _ ei hoi)) rfl (by omega) hxi) fun a w e' hf=>?_
   obtain⟨HM,hT,ei,hNw,B8,hD⟩:=up6 e' HM hT ei hNw B8 hD
   refine tP hf (ldI T3 (isR rfl)) fun a w e' hf=>?_
   obtain⟨HM,hT,ei,hNw,B8,hD⟩:=up6 e' HM hT ei hNw B8 hD
   refine tL I3 hf fun a b12 w e' hb12 hs12 B12 hf=>?_
   have lo12_hNw:=Nat.le_trans hNw (Nat.le_of_eq hb12.symm)
   obtain⟨HM,hT,ei,hNw,B8,hD⟩:=up6 e' HM hT ei hNw B8 hD
   refine tA hf rfl fun a hf=>?_
   have n12:b12≠b8∧b12≠bm∧b12 ∉ D∧wi.heap.size≤b12:=by have:=lo12_hNw;exact⟨by omega,by omega,fun h=>by have:=hDr _ h;omega,by omega⟩
   replace hf:=hf.kp [2,8,12,11,37,38,39,43]
   refine aA T3 hf rfl rfl rfl B12 Nat.zero_lt_one fun w hg hsz B12 hf=>?_
   replace B12:Blk w b12 #[I (x:Nat)] 3:=B12
   replace hT:=hT.gr hg (by omega);replace B8:=B8.gr hg n12.1.symm;replace HM:=HM.gr hg (fun h=>by cases h;omega);replace hD:=hD.gr hg n12.2.2.1;replace ei:=ei.gr hg n12.2.2.2;replace hNw:Nr≤w.heap.size:=by omega
   refine aa ?_
   replace hf:=hf.kp [2,8,11,12,37,38,39]
   have hdv:=cr HM
   refine seq <| ae <| tP hf (ld1 (v:=I (x:Nat)) T3 rfl B12 rfl) fun a w e' hf=>?_
   obtain⟨HM,hT,ei,hdv,hNw,B8,hD,B12⟩:=up8 e' HM hT ei hdv hNw B8 hD B12
   refine tP hf (ld1 (v:=.map (some bm)) T64 rfl B8 rfl) fun a w e' hf=>?_
   obtain⟨HM,hT,ei,hdv,hNw,B8,hD,B12⟩:=up8 e' HM hT ei hdv hNw B8 hD B12
   refine tP hf (ld1 (v:=I (x:Nat)) T3 rfl B12 rfl) fun a w e' hf=>?_
   obtain⟨HM,hT,ei,hdv,hNw,B8,hD,B12⟩:=up8 e' HM hT ei hdv hNw B8 hD B12
   refine tP hf ((lkM (l:=lm) (i:=(x:Int)) U64 cG (isE rfl hdv) rfl hwx).eq (congrArg ac hval)) fun a w e' hf=>?_
   obtain⟨HM,hT,ei,hdv,hNw,B8,hD,B12⟩:=up8 e' HM hT ei hdv hNw B8 hD B12
   refine tP hf (uM (a:=(x:Int)) (S:=S) U81 rfl rfl rfl S3 S68 I81 rfl (isI rfl) (isS rfl)) fun a w e' hf=>?_
   obtain⟨HM,hT,ei,hdv,hNw,B8,hD,B12⟩:=up8 e' HM hT ei hdv hNw B8 hD B12
   refine tL I81 hf fun a b13 w e' hb13 hs13 B13 hf=>?_
   have lo13_hNw:=Nat.le_trans hNw (Nat.le_of_eq hb13.symm)
   have lt13_B8:=B8.lt
   have lt13_B12:=B12.lt
   obtain⟨HM,hT,ei,hdv,hNw,B8,hD,B12⟩:=up8 e' HM hT ei hdv hNw B8 hD B12
   have n13:b13≠b8∧b13≠bm∧b13 ∉ D∧b13≠b12∧wi.heap.size≤b13:=by have:=lo13_hNw;have:=lt13_B12;exact⟨by omega,by omega,fun h=>by have:=hDr _ h;omega,by omega,by omega⟩
   replace hf:=hf.kp [2,8,11,12,13,37,38,39,48]
   refine az T81 hf rfl rfl (ft _) B13 rfl rfl fun w hg hsz B13 hf=>?_
   replace hT:=hT.gr hg (by omega);replace B8:=B8.gr hg n13.1.symm;replace HM:=HM.gr hg (fun h=>by cases h;omega);replace hD:=hD.gr hg n13.2.2.1;replace ei:=ei.gr hg n13.2.2.2.2;replace B12:=B12.gr hg n13.2.2.2.1.symm;replace hNw:Nr≤w.heap.size:=by omega
   refine aa ?_
   replace hf:=hf.kp [2,8,11,12,13,37,38,39]
   refine seq <| ae <| tL I82 hf fun a b14 w e' hb14 hs14 B14 hf=>?_
   have lo14_hNw:=Nat.le_trans hNw (Nat.le_of_eq hb14.symm)
   have lt14_B12:=B12.lt
   have lt14_B13:=B13.lt
   obtain⟨HM,hT,ei,hNw,B8,hD,B12,B13⟩:=up8 e' HM hT ei hNw B8 hD B12 B13
   refine aa ?_
   replace B14:Blk w b14 #[.slice none 0 0] 82:=B14
   have n14:b14≠b8∧b14≠bm∧b14 ∉ D∧b14≠b12∧b14≠b13∧wi.heap.size≤b14∧0<b14:=by have:=lo14_hNw;have:=lt14_B12;have:=lt14_B13;exact⟨by omega,by omega,fun h=>by have:=hDr _ h;omega,by omega,by omega,by omega,by omega⟩
   have hbmD:bm ∉ D:=fun h=>absurd (hD.2 bm h) (by obtain⟨_,⟨_,_,h2,_⟩,_⟩:=HM;rw[h2];exact fun h=>by cases h)
   have hbm0:0<bm:=by omega
   obtain⟨K1,hK1⟩:∃K1:Nat→Prop,K1=fun b=>KE b8 bm D b∨wi.heap.size≤b:=⟨_,rfl⟩
   have hK1m:K1 bm:=by rw[hK1];exact .inl (.inr (.inl rfl))
   have hK1W:∀b,K1 b→W.heap.size≤b:=fun b hb=>by rw[hK1] at hb;exact hb.elim (hKW b) fun h=>Nat.le_trans hWi h
   obtain⟨N1,hN1⟩:∃N1,N1=w.heap.size:=⟨_,rfl⟩
   have hq:ElN N1 b8 bm b12 b13 b14 D:=by rw[hN1];exact⟨⟨hT.lt,B8.lt,HM.lt,B12.lt,B13.lt,B14.lt⟩,⟨n8,n12.2.1,n13.2.1,n14.2.1,n14.1.symm,n14.2.2.2.1.symm,n14.2.2.2.2.1.symm,hbmD,n14.2.2.1,hbm0,n14.2.2.2.2.2.2⟩,fun d hd=>hD.lt hd⟩
   have hiN:wi.heap.size≤N1:=by rw[hN1];exact ei.size
   have hi14:wi.heap.size≤b14:=n14.2.2.2.2.2.1
   have hH:ElK wi K1 b8 bm b12 b13 b14 x S V f D N1 N1 [] (.slice none 0 0) lm w:=⟨ei.chg _,hT,B8,B12,B13,HM.tight0,hM,hD,B14,OwR.nil edE _ hT.lt (fun b hb=>hb.elim),fun b hb=>by simp[Value.ownBlock] at hb⟩
   have hN1w:N1≤w.heap.size:=Nat.le_of_eq hN1
   replace hf:=hf.kp [2,8,11,12,13,14,37,38,39]
   obtain⟨Nz,hNz⟩:∃Nz,Nz=w.heap.size:=⟨_,rfl⟩
   repeat refine seq ?_
   refine rgN 3 hf <| st (fA U81 rfl T68 rfl) <| st ((ldP T68 rfl hH.p13 (dx _)).eq (dy _)) <| st (an (A:=bW Nz S) (B:=E (ac S)) cg rfl (fun v w' he h=>by cases h;exact Calls.mono (cm _ w') (fun en w2 ⟨u,h1,h2,b',h3,h4,h5⟩=>⟨u,h1,h2,b',by have:=he.size;omega,h4,h5⟩))) ?_
   refine en fun a w e' hf=>?_
   replace hH:=hH.ext e'
   replace hN1w:=Nat.le_trans hN1w e'.size
   refine aa ?_
   obtain⟨vv,⟨b51,h51,rfl,BS⟩,hf⟩:=hf.fix 51 rfl
   replace hf:=hf.kp [2,8,11,12,13,14,37,38,39,51]
   refine blk <| sp (S:=S) hf rfl BS (by decide) (fun s w1=>∃xs cv,ElK wi K1 b8 bm b12 b13 b14 x S V f D N1 w.heap.size xs cv lm w1∧xs.length≤1024 * s.length) (fun _ _=>False) (fun s w1 ⟨_,_,h,_⟩=>h.t)
    ⟨[],.slice none 0 0,⟨hH.c,hH.t,hH.p8,hH.p12,hH.p13,hH.m,hH.r,hH.d,hH.p14,hH.o,fun b hb=>by simp[Value.ownBlock] at hb⟩,Nat.zero_le _⟩ (fun s w1 w2 ⟨xs,cv,h,hl⟩ hs k=>⟨xs,cv,h.kp k hq hN1w (Nat.le_trans hiN hN1w) fun b hb=>(h.nh b hb).2,hl⟩) (fun _ _ _ h=>h.elim) ?_ ?_ (fun _ _ _ _ _ _ h=>h.elim)
   ·intro lb s u rest a1 w1 hs hJ hlw hf hhl
    have huS:S.getLsbD u=true:=(aH.1 (by rw[hs];simp)).2
    have hu1024:u<1024:=ay huS
    have hwu:(Lit.int .i64 (u:Int)).wf=true:=bh (by omega) (by omega)
    have hvu:lkS lm (u:Int)=f u:=hH.r.val u (hSV u huS)
    have hsl:s.length<1024:=by have:=bX S;rw[hs] at this;simp at this;omega
    generalize hBz:w.heap.size=Bz at *
    obtain⟨xs,cv,hJ,hxl⟩:=hJ
    have hown:∀b,cv.ownBlock=some b→b<w1.heap.size:=fun b hb=>(hJ.o.lt hb).2
    have kh:=Kh.rfl' Bz w1
    have hw1:Bz+3≤w1.heap.size:=hlw
    refine ae <| tL I3 hf fun a b15 w e' hb15 hs15 B15 hf=>?_
    replace hJ:=hJ.ext e'
    replace kh:=kh.tr (Kh.ext e')
    have hb15':b15=w1.heap.size:=hb15
    refine aA T3 hf rfl rfl rfl B15 Nat.zero_lt_one fun w2 hg hsz B15 hf=>?_
    replace B15:Blk w2 b15 #[I (u:Nat)] 3:=B15
    replace hJ:=hJ.gr hg hq (by omega) (by omega) fun hh=>by have:=hown _ hh;omega
    replace kh:=kh.tr (Kh.gr hg fun hh=>by have:=hh.2;omega)
    have hw2:w1.heap.size<w2.heap.size:=by omega
    refine aa <| ⟨kh,fun w3 k3 hsz3 hlp=>?_⟩
    replace hJ:=hJ.kp k3 hq (by omega) (by omega) fun b hb=>(hJ.nh b hb).2
    replace B15:=B15.kp k3 (fun hh=>by have:=hh.2;omega)
    replace hf:=hf.pure w3
    have kh:=Kh.rfl' Bz w3
    have hdv:=cr hJ.m
    obtain⟨T,hTe⟩:∃T,T=(S &&& ~~~cJ (u+1)) &&& ~~~f u:=⟨_,rfl⟩
    replace hf:=hf.kp [8,12,13,14,15]
    refine blk ?_
    obtain⟨Nz,hNz⟩:∃Nz,Nz=w3.heap.size:=⟨_,rfl⟩
    refine seq <| rgG 11 Mix.mix hf <| st (fA U81 rfl T68 rfl) <| st ((ldP T68 rfl hJ.p13 (dx _)).eq (dy _)) <| st (ld1 (v:=I (u:Nat)) T3 rfl B15 rfl) <| st ((add rfl rfl (by omega)).eq (congrArg (Value.int .i64) (show ((u:Nat):Int)+1=((u+1:Nat):Int) from rfl))) <| st (an (A:=E (ac (cJ (u+1)))) (B:=E (I (u+1:Nat))) wA rfl (fun v w he h=>by cases h;exact a2f (u+1) w (by omega))) ?_
    refine st (ar (A:=E (ac (S &&& ~~~cJ (u+1)))) (B:=E (ac S)) (C:=E (ac (cJ (u+1)))) cX rfl rfl (fun v u w he h h'=>by cases h;cases h';exact db _ _ w)) ?_
    refine st (ld1 (v:=.map (some bm)) T64 rfl hJ.p8 rfl) <| st (ld1 (v:=I (u:Nat)) T3 rfl B15 rfl) <| st ((lkM (l:=lm) (i:=(u:Int)) U64 cG (isE rfl hdv) rfl hwu).eq (congrArg ac hvu)) <| st (ar (A:=E (ac T)) (B:=E (ac (S &&& ~~~cJ (u+1)))) (C:=E (ac (f u))) cX rfl rfl (fun v u w he h h'=>by cases h;cases h';rw[hTe];exact db _ _ w)) ?_
    refine st (an (A:=bW Nz T) (B:=E (ac T)) cg rfl (fun v w' he h=>by cases h;exact Calls.mono (cm _ w') (fun en w2 ⟨u,h1,h2,b',h3,h4,h5⟩=>⟨u,h1,h2,b',by have:=he.size;omega,h4,h5⟩))) ?_
    refine en fun a w e' hf=>?_
    replace hJ:=hJ.ext e'
    replace kh:=kh.tr (Kh.ext e')
    replace B15:=B15.ext e'
    refine aa ?_
    obtain⟨vv2,⟨b63,h63,rfl,BT⟩,hf⟩:=hf.fix 63 rfl
    replace hf:=hf.kp [8,12,13,14,15,63]
    obtain⟨r0',hl0⟩:=hlp
    have hll0:lb<w3.heap.size:=(Array.getElem?_eq_some_iff.1 hl0).1
    have hl0w:=(kh.same lb hll0 hhl).trans hl0
    have l15:=B15.lt
    have hB3:Bz+3≤w.heap.size:=by have:=kh.size;omega
    have hN1b:N1≤w.heap.size:=by omega
    have hib:wi.heap.size≤w.heap.size:=by omega
    refine blk <| a0S hl0w hf rfl BT (by decide) (fun s2 w4=>∃xs cv,ElK wi K1 b8 bm b12 b13 b14 x S V f D N1 Bz xs cv lm w4∧xs.length≤1024 * s.length+s2.length∧Kh Bz w3 w4∧Blk w4 b15 #[I (u:Nat)] 3∧∀b,cv.ownBlock=some b→¬aS w.heap.size b) (fun _ _=>False) (fun s w1 ⟨_,_,h,_⟩=>h.t)
     ⟨xs,cv,hJ,hxl,kh,B15,fun b hb hh=>by have:=(hJ.o.lt hb).2;have:=hh.1;omega⟩ (fun s2 w4 w5 ⟨xs,cv,h1,h2,h3,h4,h5⟩ hs kk=>⟨xs,cv,h1.kp kk hq hN1b hib h5,h2,h3.kpI kk hB3,h4.kp kk (fun hh=>by have:=hh.1;omega),h5⟩) (fun _ _ _ h=>h.elim) ?_ ?_ (fun _ _ _ _ _ _ h=>h.elim)
    ·intro lb2 s2 y rest2 a2 w4 hs2 hJ2 hlw2 hf
     have hy1024:y<1024:=(aH.1 (by rw[hs2];simp)).1
     have hsl2:s2.length<1024:=by have:=bX T;rw[hs2] at this;simp at this;omega
     generalize hB2:w.heap.size=B2 at *
     refine ae <| tA hf rfl fun a hf=>aa <| ⟨Kh.rfl' _ _,fun w5 k5 hsz5=>?_⟩
     obtain⟨xs,cv,h1,h2,h3,h4,h5⟩:=hJ2
     have hJ:=h1.kp k5 hq hN1b hib h5
     have kh:=h3.kpI k5 hB3
     have B15:=h4.kp k5 (fun hh=>by have:=hh.1;omega)
     replace hf:=hf.pure w5
     have kh2:=Kh.rfl' B2 w5
     have hw5:B2+2≤w5.heap.size:=by omega
     replace hf:=hf.kp [14,15,16]
     refine blk ?_
     have hown5:∀b,cv.ownBlock=some b→b<w5.heap.size:=fun b hb=>(hJ.o.lt hb).2
     obtain⟨G5,hG5⟩:∃G5:Nat→Prop,G5=fun b=>b<w5.heap.size:=⟨_,rfl⟩
     refine rgN 5 hf <| st (ld1 (v:=cv) T82 rfl hJ.p14 rfl) <| st (ld1 (v:=I (u:Nat)) T3 rfl B15 rfl) <| st (mv rfl) <| st (bK [(0,_),(1,_)] rfl (bPr _ _)) <| st (bB (e:=edE) (z:=((u:Int),(y:Int))) (G:=G5) U82 pd rfl (by decide) rfl (by rw[hG5];exact fun b h=>h) (uN (n:=((u:Int),(y:Int))) rfl)) ?_
     refine en fun a w e' hf=>?_
     replace hJ:=hJ.ext e'
     replace kh:=kh.tr (Kh.ext e')
     replace kh2:=kh2.tr (Kh.ext e')
     replace B15:=B15.ext e'
     obtain⟨pv,hpv,hf⟩:=hf.opn 69 rfl
     have hw6:B2+3≤w.heap.size:=by
      rcases Dv.sl.1 hpv with ⟨_,h⟩|⟨ad,_,_,_,_,h1,h2,_⟩
      ·cases h
      ·rw[hG5] at h1
       omega
     have hpv':(Dv (slE edE) (GO G0 cv) [((u:Int),(y:Int))]).p pv w:=Dv.weak hpv fun b _ hb=>by
      rw[hG5]
      exact hb.elim (fun h=>h.elim) fun h=>hown5 b h
     replace hf:=hf.kp [14,65,69]
     have hnB:∀b,cv.ownBlock=some b→b≠b15:=fun b hb h=>hJ.o.neB B15 (by decide) (h▸hb)
     have hn14:cv.ownBlock≠some b14:=fun h=>by have:=(hJ.nh _ h).1;have:=hq.lt;omega
     refine bI U82 pd rfl rfl hf (by decide) rfl hJ.o (isE rfl hpv') (by simp only[List.length_singleton];omega) (by simp only[List.length_singleton,maxLen];omega) fun a cv2 w6 hg hat Hn hf=>?_
     have hsz6:=hg.size
     replace B15:=B15.gro hg fun h=>hnB _ h rfl
     replace kh:=kh.tr (Kh.gro hg fun b hb=>(hJ.nh b hb).2)
     replace kh2:=kh2.tr (Kh.gro hg h5)
     have hn15:b15≠b14:=by have:=hq.lt;omega
     replace hf:=hf.kp [14,70]
     refine aA T82 hf rfl rfl Hn.one (hJ.p14.gro hg hn14) Nat.zero_lt_one fun w7 hg2 hsz B14 hf=>?_
     replace hJ:=hJ.app hg hq hiN hi14 Hn hat (by omega) (by omega) hg2 B14
     replace B15:=B15.gr hg2 hn15
     replace kh:=kh.tr (Kh.gr hg2 fun hh=>by have:=hh.1;have:=hq.lt;omega)
     replace kh2:=kh2.tr (Kh.gr hg2 fun hh=>by have:=hh.1;have:=hq.lt;omega)
     refine aa ?_
     simp only[Exit.inBlock]
     refine⟨⟨_,cv2,hJ,by rw[List.length_append,List.length_append,List.length_singleton,List.length_singleton];omega,kh,B15,fun b hb=>hat.elim (fun h=>h5 b (by rw[← h];exact hb)) fun h hh=>?_⟩,kh2⟩
     rw[h] at hb;cases hb
     have:=hh.2;omega
    ·intro a' w' hf' hJ' hsz
     simp only[Exit.inBlock,↓reduceIte,Exit.then]
     obtain⟨xs2,cv2,h1,h2,h3,h4,h5⟩:=hJ'
     have hTl:=bX T
     exact⟨⟨xs2,cv2,h1,by rw[List.length_append,List.length_singleton];omega⟩,h3⟩
   intro a' w' hf' hJ hsz hDn
   simp only[Exit.inBlock,↓reduceIte,Exit.then]
   obtain⟨xs,cv,hJ,hxl⟩:=hJ
   have hDD:∀d∈w.heap.size::D,KE b8 bm D d∨N1≤d:=fun d hd=>(List.mem_cons.1 hd).elim (fun h=>.inr (by omega)) fun h=>.inl (.inr (.inr h))
   have hD2:Ds (w.heap.size::D) w':=hJ.d.cons hDn fun h=>by have:=hq.d _ h;omega
   have hf:FrD 93 (bq (w.heap.size::D)) a' w' [(2,E (.func (.func fid) #[] caps)),(8,E (ptr b8)),(11,E (I (k:Nat))),(12,E (ptr b12)),(13,E (ptr b13)),(14,E (ptr b14)),(37,E ov),(38,E (I (n:Nat))),(39,E (I (k:Nat)))]:=hf'.keep [2,8,11,12,13,14,37,38,39]
   have hH2:ElK wi K1 b8 bm b12 b13 b14 x S V f (w.heap.size::D) N1 w'.heap.size xs cv lm w':=⟨hJ.c,hJ.t,hJ.p8,hJ.p12,hJ.p13,hJ.m,hJ.r,hD2,hJ.p14,hJ.o,fun b hb=>⟨(hJ.nh b hb).1,fun hh=>by have:=(hJ.o.lt hb).2;have:=hh.1;omega⟩⟩
   have hbmD2:bm ∉ w.heap.size::D:=fun h=>(List.mem_cons.1 h).elim (fun h=>by have:=hq.lt;omega) hbmD
   have hb14D2:b14 ∉ w.heap.size::D:=fun h=>(List.mem_cons.1 h).elim (fun h=>by have:=hq.lt;omega) hq.ne.2.2.2.2.2.2.2.2.1
   have hbmN:bm<N1:=hq.lt.2.2.1
   have hqq:=hq.ne
   have hN1':N1≤w'.heap.size:=by omega
   generalize w.heap.size::D=D1 at *
   generalize w'=w at *
   obtain⟨N2,hN2⟩:∃N2,N2=w.heap.size:=⟨_,rfl⟩
   have hq:ElN N2 b8 bm b12 b13 b14 D1:=by rw[hN2];exact⟨⟨hH2.t.lt,hH2.p8.lt,hH2.m.lt,hH2.p12.lt,hH2.p13.lt,hH2.p14.lt⟩,⟨hqq.1,hqq.2.1,hqq.2.2.1,hqq.2.2.2.1,hqq.2.2.2.2.1,hqq.2.2.2.2.2.1,hqq.2.2.2.2.2.2.1,hbmD2,hb14D2,hqq.2.2.2.2.2.2.2.2.2.1,hqq.2.2.2.2.2.2.2.2.2.2⟩,fun d hd=>hH2.d.lt hd⟩
   have hN2w:N2≤w.heap.size:=Nat.le_of_eq hN2
   have hN12:N1≤N2:=by omega
   obtain⟨Nz,hNz⟩:∃Nz,Nz=w.heap.size:=⟨_,rfl⟩
   repeat refine seq ?_
   refine rgN 3 hf <| st (fA U81 rfl T68 rfl) <| st ((ldP T68 rfl hH2.p13 (dx _)).eq (dy _)) <| st (an (A:=bW Nz S) (B:=E (ac S)) cg rfl (fun v w' he h=>by cases h;exact Calls.mono (cm _ w') (fun en w2 ⟨u,h1,h2,b',h3,h4,h5⟩=>⟨u,h1,h2,b',by have:=he.size;omega,h4,h5⟩))) ?_
   refine en fun a w e' hf=>?_
   replace hH2:=hH2.ext e'
   replace hN2w:=Nat.le_trans hN2w e'.size
   refine aa ?_
   obtain⟨vv,⟨b73,h73,rfl,BS⟩,hf⟩:=hf.fix 73 rfl
   replace hf:=hf.kp [2,8,11,12,13,14,37,38,39,73]
   refine blk <| cC (S:=S) hf rfl BS (by decide) (fun s w1=>∃lm,ElK wi K1 b8 bm b12 b13 b14 x S V (fun o=>if o∈s then del (del (f o ||| S) (o:Int)) (x:Int) else f o) D1 N1 w.heap.size xs cv lm w1) (fun _ _=>False) (fun s w1 ⟨_,h⟩=>h.t)
    ⟨lm,⟨hH2.c,hH2.t,hH2.p8,hH2.p12,hH2.p13,hH2.m,hH2.r.eq fun i hi=>by rw[if_neg (by simp)],hH2.d,hH2.p14,hH2.o,fun b hb=>⟨(hH2.nh b hb).1,fun hh=>by have:=(hH2.o.lt hb).2;have:=hh.1;omega⟩⟩⟩ (fun s w1 w2 ⟨lm,h⟩ hs k=>⟨lm,h.kp k hq hN2w (by omega) fun b hb=>(h.nh b hb).2⟩) (fun _ _ _ h=>h.elim) ?_ ?_ (fun _ _ _ _ _ _ h=>h.elim)
   ·intro lb s u rest a1 w1 hs hJ hlw hf
    have huS:S.getLsbD u=true:=(aH.1 (by rw[hs];simp)).2
    have hu1024:u<1024:=ay huS
    have huV:=hSV u huS
    have hwu:(Lit.int .i64 (u:Int)).wf=true:=bh (by omega) (by omega)
    have hus:u ∉ s:=by
     have hn:(elems S).Nodup:=List.Nodup.sublist List.filter_sublist List.nodup_range
     rw[hs] at hn
     intro hx
     exact (List.nodup_append.1 hn).2.2 u hx u (by simp) rfl
    generalize hBz:w.heap.size=Bz at *
    refine ae <| tA hf rfl fun a hf=>aa <| ⟨Kh.rfl' _ _,fun w3 k3 hsz3=>?_⟩
    obtain⟨lm',hJ⟩:=hJ
    replace hJ:=hJ.kp k3 hq hN2w (by omega) fun b hb=>(hJ.nh b hb).2
    replace hf:=hf.pure w3
    have kh:=Kh.rfl' Bz w3
    have hvu:lkS lm' (u:Int)=f u:=by rw[hJ.r.val u huV,if_neg hus]
    have hln:lm'.length≤1024:=hJ.r.len (by obtain⟨_,_,_,hp⟩:=hJ.m;exact hp.2)
    have hdv:=cr hJ.m
    replace hf:=hf.kp [8,12,13,17]
    refine blk <| rgG 12 Mix.mix hf <| st (ld1 (v:=.map (some bm)) T64 rfl hJ.p8 rfl) <| st (mv rfl) <| st (ld1 (v:=.map (some bm)) T64 rfl hJ.p8 rfl) <| st (mv rfl) <| st ((lkM (l:=lm') (i:=(u:Int)) U64 cG (isE rfl hdv) rfl hwu).eq (congrArg ac hvu)) <| st (fA U81 rfl T68 rfl) <| st ((ldP T68 rfl hJ.p13 (dx _)).eq (dy _)) <| st (ar (A:=E (ac (f u ||| S))) (B:=E (ac (f u))) (C:=E (ac S)) fO rfl rfl (fun v u w he k1 k2=>by cases k1;cases k2;exact fZ _ _ w)) ?_
    refine st (mv rfl) <| st (ar (A:=E (ac (del (f u ||| S) (u:Int)))) (B:=E (ac (f u ||| S))) (C:=E (I (u:Nat))) fi rfl rfl (fun v u w he k1 k2=>by cases k1;cases k2;exact fq _ _ w)) ?_
    refine st (ld1 (v:=I (x:Nat)) T3 rfl hJ.p12 rfl) <| st (ar (A:=E (ac (del (del (f u ||| S) (u:Int)) (x:Int)))) (B:=E (ac (del (f u ||| S) (u:Int)))) (C:=E (I (x:Nat))) fi rfl rfl (fun v u w he k1 k2=>by cases k1;cases k2;exact fq _ _ w)) ?_
    refine en fun a w e' hf=>?_
    replace hJ:=hJ.ext e'
    replace kh:=kh.tr (Kh.ext e')
    refine dc (V:=sKV) (i:=(u:Int)) (c:=del (del (f u ||| S) (u:Int)) (x:Int)) U64 hf rfl rfl rfl hJ.m (by simp only[maxLen];omega) hwu trivial fun w hg HM hf=>?_
    replace hJ:=hJ.put hg hq hbmN hK1m HM (hJ.r.put huV (del (del (f u ||| S) (u:Int)) (x:Int)))
    replace kh:=kh.tr (Kh.gr hg fun hh=>by have:=hh.1;have:=hq.lt;omega)
    refine aa ?_
    simp only[Exit.inBlock]
    refine⟨⟨_,⟨hJ.c,hJ.t,hJ.p8,hJ.p12,hJ.p13,hJ.m,hJ.r.eq fun i hi=>?_,hJ.d,hJ.p14,hJ.o,hJ.nh⟩⟩,kh⟩
    by_cases hix:i=u
    ·rw[if_pos hix,if_pos (by rw[hix];simp),hix]
    ·rw[if_neg hix]
     by_cases his:i∈s
     ·rw[if_pos his,if_pos (List.mem_append_left _ his)]
     ·rw[if_neg his,if_neg fun hh=>(List.mem_append.1 hh).elim his fun hh=>hix (List.mem_singleton.1 hh)]
   intro a' w' hf' hJ hsz hDn
   simp only[Exit.inBlock,↓reduceIte,Exit.then]
   obtain⟨lm',hJ⟩:=hJ
   have hDD3:∀d∈w.heap.size::D1,KE b8 bm D d∨N1≤d:=fun d hd=>(List.mem_cons.1 hd).elim (fun h=>.inr (by omega)) (hDD d)
   have hD3:Ds (w.heap.size::D1) w':=hJ.d.cons hDn fun h=>by have:=hq.d _ h;omega
   have hf:FrD 93 (bq (w.heap.size::D1)) a' w' [(2,E (.func (.func fid) #[] caps)),(8,E (ptr b8)),(11,E (I (k:Nat))),(13,E (ptr b13)),(14,E (ptr b14)),(37,E ov),(38,E (I (n:Nat))),(39,E (I (k:Nat)))]:=hf'.keep [2,8,11,13,14,37,38,39]
   have hr:NrM lm' V (egL (fun i=>nbA g (i:Int)) (l.take (k+1))):=hJ.r.eq fun i hi=>by
    rw[cB hx,tS,← hfe,egS,hfx]
    by_cases hiS:S.getLsbD i=true
    ·rw[if_pos (aH.2 ⟨ay hiS,hiS⟩),if_pos hiS]
    ·rw[if_neg fun hh=>hiS (aH.1 hh).2,if_neg hiS]
   have hDl3:∀d∈w.heap.size::D1,W.heap.size≤d:=fun d hd=>(hDD3 d hd).elim (hKW d) fun h=>by omega
   obtain⟨hc,hT,B8,B12,B13,HM,_,_,B14,_,_⟩:=hJ
   generalize w.heap.size::D1=D2 at *
   generalize w'=w at *
   have hKK:∀b,KE b8 bm D2 b→K1 b∧W.heap.size≤b∧b<w.heap.size:=fun b hb=>by
    rcases hb with rfl|rfl|hb
    ·exact⟨by rw[hK1];exact .inl (.inl rfl),hWb8,B8.lt⟩
    ·exact⟨hK1m,hWm,HM.lt⟩
    ·exact⟨by rw[hK1];exact (hDD3 b hb).imp id fun h=>by omega,hDl3 b hb,hD3.lt hb⟩
   have hjw:∀w2,Ext w w2→J k (KE b8 bm D2) w2:=fun w2 e2=>hJ2 _ _ _ _ (fun b hb=>.inl (hKK b hb).1) (hJ1 k K1 wi w2 hK1W (hJ2 _ _ _ _ (fun b hb=>by rw[hK1] at hb;exact hb) hj) (hc.ext e2))
   have hcc:Chg S0 W w:=c.tr2 hc fun b hb=>.inr (hK1W b hb)
   have hws:W.heap.size≤w.heap.size:=hcc.size
   replace hoi:(Dv (slE aj) (fun b=>S0 b∨W.heap.size≤b) (aD l)).p ov w:=Dv.ch hoi hc fun b hb=>.inr (hK1W b hb)
   obtain⟨wj,hwj⟩:∃wj,wj=w:=⟨_,rfl⟩
   have ej:Ext wj w:=by rw[hwj];exact Ext.rfl' _
   rw[← hwj] at hjw hws
   replace hKK:∀b,KE b8 bm D2 b→W.heap.size≤b∧b<wj.heap.size:=fun b hb=>by rw[hwj];exact (hKK b hb).2
   refine rgN 4 hf <| st (mv rfl) <| st (mv rfl) <| st (ldW T81 rfl B13 (dw _)) <| st (ld1 (v:=cv) T82 rfl B14 rfl) <| en fun a w e' hf=>?_
   obtain⟨hT,HM,hcc,hoi,ej,B8,B13,B14,hD3⟩:=up9 e' hT HM hcc hoi ej B8 B13 B14 hD3
   refine fu (S:=fun b=>S0 b∨(W.heap.size≤b∧¬KE b8 bm D2 b)) (F:=fun w'=>J (k+1) (KE b8 bm D2) w') (A:=E (.tuple #[])) hf (by decide) hen rfl ?_ fun a w hc hF hf=>?_
   ·have e1:a.eval (.tmp 88)=I (k:Nat):=hf.opd (.tmp 88) _ rfl
    have e2:a.eval (.tmp 89)=.agg (bJ ((x:Nat),S)):=hf.opd (.tmp 89) _ rfl
    have e3:a.eval (.tmp 90)=cv:=hf.opd (.tmp 90) _ rfl
    simp only[List.map_toArray,List.map_cons,List.map_nil,e1,e2,e3]
    have:=hdo k (by omega) (KE b8 bm D2) _ cv (fun b hb=>⟨(hKK b hb).1,Nat.lt_of_lt_of_le (hKK b hb).2 ej.size⟩) (Nat.le_trans hws ej.size) hT (hjw _ ej)
    rw[iG hx,← hSe] at this
    exact this.mono fun en w' ⟨k1,k2,k3⟩=>⟨_,k1,k2,rfl,k3⟩
   refine aa ?_
   simp only[Exit.inBlock]
   replace hf:=hf.kp [2,8,37,38,39]
   have hno:∀b,KE b8 bm D2 b→¬(S0 b∨(W.heap.size≤b∧¬KE b8 bm D2 b)):=fun b hb hh=>hh.elim (fun h=>by have:=(hS0 b h).2;have:=(hKK b hb).1;omega) fun h=>h.2 hb
   have hS:ElW W g l ov S0 J b8 bm (k+1) D2 w:=⟨hcc.tr2 hc fun b hb=>hb.imp id fun h=>h.1,hT.ch hc (fun hh=>hh.elim (fun h=>by have:=(hS0 0 h).1;omega) fun h=>by omega),B8.ch hc (hno _ (.inl rfl)),⟨lm',HM.pres (hc.block _ HM.lt (hno _ (.inr (.inl rfl)))),hV▸hr⟩,Dv.ch hoi hc fun b hb=>hb.imp id fun h=>h.1,hD3.ch hc (fun d hd=>hno d (.inr (.inr hd))),hDl3,hF⟩
   have hKW2:∀b,KE b8 bm D2 b→W.heap.size≤b:=fun b hb=>(hKK b hb).1
   refine rgN 1 hf <| st ((add rfl rfl (by omega)).eq (congrArg (Value.int .i64) (show ((k:Nat):Int)+1=((k+1:Nat):Int) from rfl))) <| en fun a w e' hf=>?_
   replace hS:=hS.ext hJ1 hKW2 e'
   refine tP hf (mv rfl) fun a w e' hf=>?_
   replace hS:=hS.ext hJ1 hKW2 e'
   refine aa ?_
   replace hf:=hf.kp [2,8,37,38,39]
   exact⟨r0 - 1,by omega,k+1,D2,by omega,hf,hS⟩
  ·have hkn:k=n:=by omega
   refine rgN 1 hf <| st ((lss rfl rfl).eq (congrArg Value.bool ((decide_eq_false (by omega):_=false)))) <| en fun a w e' hf=>?_
   obtain⟨HM,hT,ei,B8,hD⟩:=up5 e' HM hT ei B8 hD
   refine aa <| seq <| ifc hf rfl (fun h=>by cases h) (fun _=>aG ?_)
   replace hf:=hf.kp [2]
   refine seq <| ae <| tA hf rfl fun a hf=>aa <| ai ?_
   have hsh:=eb D w
   refine gf rfl hf rfl hD ⟨rfl,(c.ext ei).tr2 hsh fun b hb=>.inr (hDl b hb),KE b8 bm D,hKW,?_⟩
   rw[← hn,← hkn]
   exact hJ1 _ _ _ _ hKW (hJ1 _ _ _ _ hKW hj (ei.chg _)) (hsh.to fun b _ hb=>.inr (.inr hb))
theorem uP {k:Nat}:∀{t:List (Int×BS)} (S:BS),(t.foldl (fun S b=>S ||| b.2) S).getLsbD k=true↔S.getLsbD k=true∨∃b∈t,b.2.getLsbD k=true
 | [],S=>by simp
 | b::t,S=>by rw[List.foldl_cons,uP,BitVec.getLsbD_or,Bool.or_eq_true,or_assoc];simp
theorem a3C {t:List (Int×BS)}{e:ET}:eY t e=true↔∃i,i<t.length∧(has (bg t i).2 e.1.1&&has (bg t i).2 e.1.2)=true:=by
 constructor
 ·intro h
  apply Classical.byContradiction
  intro hno
  have:=(kG (p:=fun b=>has b.2 e.1.1&&has b.2 e.1.2) (t:=t)).2 fun i hi=>by
   cases hx:(has (bg t i).2 e.1.1&&has (bg t i).2 e.1.2) with
   | false=>rfl
   | true=>exact absurd ⟨i,hi,hx⟩ hno
  rw[eY,this] at h;cases h
 ·rintro⟨i,hi,h⟩
  cases hc:eY t e with
  | true=>rfl
  | false=>
   have:=kG.1 hc i hi
   rw[h] at this;cases this
section
variable {g:GT}(G:Gr.Ok g){l:List Nat}(hn:l.Nodup)(hl:∀i,i∈l↔(ah g.1).getLsbD i=true)
include G hn hl
theorem a3D (h0:0<l.length):cgR (bN (nbA g) l) (bN (nbA g) l).length g=0:=by
 have hs:=gw G
 have hlt:∀x∈l,x<1024:=fun x hx=>ay ((hl x).1 hx)
 have hcl:∀i j:Nat,(nbA g (i:Int)).getLsbD j=true→j∈l:=fun i j h=>(hl j).2 (fG G i j h)
 have hL:=gT (nbA g) l
 have hc:=a3z hs hn hlt hcl h0
 have hV:(!(ah g.1 &&& ~~~eX (bN (nbA g) l)==0))=false:=by
  rw[Bool.not_eq_false',beq_iff_eq]
  refine bT fun x=>⟨fun h=>?_,fun h=>absurd h (aW x)⟩
  exfalso
  obtain⟨h1,h2⟩:=(bH _ _ _).1 h
  obtain⟨j,hj,rfl⟩:=jI ((hl x).2 h1)
  refine h2 ?_
  rw[eX,uP]
  exact .inr ⟨bg (bN (nbA g) l) j,List.mem_of_getElem? (fR (by omega)),(gV hlt hj).2 (.inr rfl)⟩
 have hE:g.2.all (eY (bN (nbA g) l))=true:=by
  refine List.all_eq_true.2 fun x hx=>?_
  obtain⟨e1,⟨e2,e3⟩,e4,e5⟩:=kY G x hx
  obtain⟨a,ha⟩:∃a:Nat,x.1.1=(a:Int):=⟨x.1.1.toNat,by omega⟩
  obtain⟨b,hb⟩:∃b:Nat,x.1.2=(b:Int):=⟨x.1.2.toNat,by omega⟩
  have hab:(nbA g (a:Int)).getLsbD b=true:=(eB G).2 ⟨x,hx,.inl (by rw[← ha,← hb])⟩
  have hba:=hs a b hab
  obtain⟨i,hi,hai⟩:=jI (hcl b a hba)
  obtain⟨j,hj,hbj⟩:=jI (hcl a b hab)
  have hne:i≠j:=fun e=>by
   have:a=b:=by rw[hai,hbj,e]
   omega
  rw[a3C]
  rcases Nat.lt_or_ge i j with hij|hij
  ·refine⟨i,by omega,?_⟩
   rw[ha,hb,Bool.and_eq_true,gQ,gQ,gV hlt hi,gV hlt hi]
   exact⟨.inr hai,.inl ((eC hn hlt hcl hi).2 ⟨j,hj,hij,hbj,.one (by rw[← hai];exact hab)⟩)⟩
  ·refine⟨j,by omega,?_⟩
   rw[ha,hb,Bool.and_eq_true,gQ,gQ,gV hlt hj,gV hlt hj]
   exact⟨.inl ((eC hn hlt hcl hj).2 ⟨i,hi,by omega,hai,.one (by rw[← hbj];exact hba)⟩),.inr hbj⟩
 have c1:¬(dC (bN (nbA g) l) (bN (nbA g) l).length != 0)=true:=by rw[hc];decide
 rw[cgR,if_neg c1,hV,if_neg (by decide),hE,if_pos rfl]
end
theorem a3E {S:BS}{x:Nat}(hx:x<1024)(h:¬S.getLsbD x=true):card (ins S (x:Int))=card S+1:=by
 have h1:=gR (S:=ins S (x:Int)) (p:=x) ((aX S hx).2 (.inr rfl))
 have h2:del (ins S (x:Int)) (x:Int)=S:=bT fun i=>by
  rw[bu _ hx,aX S hx]
  exact⟨fun⟨h3,h4⟩=>h3.resolve_right h4,fun h3=>⟨.inl h3,fun e=>h (e▸h3)⟩⟩
 rw[h2] at h1
 exact h1
theorem a3F (A:Int)(c:Nat):max A (((c+1:Nat):Int) - 1)=max A (c:Int):=by omega
theorem a3G {nb:Int→BS}{l:List Nat}(hn:l.Nodup)(hlt:∀x∈l,x<1024)(hcl:∀i j:Nat,(nb (i:Int)).getLsbD j=true→j∈l):lg (bN nb l)=bi nb 0 l:=by
 have key:∀k,k≤l.length→dN (bN nb l) k=bi nb 0 (l.take k):=by
  intro k
  induction k with
  | zero=>intro _;rfl
  | succ k ih=>
   intro hk
   have hkl:k<l.length:=by omega
   have hg:l[k]?=some (l.getD k 0):=by rw[List.getD_eq_getElem?_getD,List.getElem?_eq_getElem hkl];rfl
   rw[ob (by rw[gT];exact hkl),ih (by omega),cB hg,oc,lE hkl,foB]
   have hnot:¬(foN nb l k).getLsbD (l.getD k 0)=true:=fun h=>by
    rw[foN,ee (hlt _ (iF hkl))] at h
    exact h.2.2 rfl
   have hcd:=a3E (S:=foN nb l k) (hlt _ (iF hkl)) hnot
   have e1:rn nb (aT 0 (l.take k)) (l.getD k 0)=(card (foN nb l k):Nat):=rfl
   rw[e1]
   rw[hcd]
   exact a3F _ _
 rw[lg,gT,key _ (Nat.le_refl _),List.take_length]
theorem a3H {nb:Int→BS}{l:List Nat}{k x:Nat}(h:l[k]?=some x):bi nb 0 (l.take (k+1))=max (bi nb 0 (l.take k)) ((card (foN nb l k):Nat):Int):=by
 rw[cB h,oc,foN,iG h];rfl
theorem jJ {G G2:Nat→Prop}{N:Nat}(g:GT)(ok:Gr.Ok g)(l:List Nat)(gv ov:Value)(W:World)(hT:Tab W)(h:(Dv (ptE (grE N)) G (some g)).p gv W)(ho:(Dv (slE aj) G2 (aD l)).p ov W)
  (hl:∀i,i∈l↔(ah g.1).getLsbD i=true) (hnd:l.Nodup) (hlen:l.length=g.1.length) (hl1:g.1.length≤4096) (hl2:g.2.length≤100000) (hN:N≤1000000) :
  Calls Tryz.prog 9 #[gv,ov] W (Post (Tup [E (I (bi (nbA g) 0 l)),E (I 0)]) W):=by
 have ho':(Dv (slE aj) (fun b=>W.heap.size≤b) (aD l)).p ov W:=Dv.weak ho fun b hb hh=>by omega
 have hg':(Dv (ptE (grE N)) G0 (some g)).p gv W:=Dv.weak h fun b _ hb=>hb.elim
 have hT0:=hT.lt
 refine eN [gv,ov] [E gv,E ov] Tryz.func9 Tryz.ntmps9 ?_ fun a hf=>?_
 rotate_left
 dsimp only[params,Nat.reduceAdd] at hf
 rotate_right
 ·exact arg2 rfl rfl
 have e:=Ext.rfl' W
 refine seq <| ae <| tA hf rfl fun a hf=>tA hf rfl fun a hf=>aa ?_
 replace hf:=hf.kp [0,1]
 refine seq <| ae <| tL I3 hf fun a b6 w e' hb6 hs6 B6 hf=>?_
 have hle6:=Nat.le_trans e.size (Nat.le_of_eq hb6.symm)
 obtain⟨hT,e⟩:=up2 e' hT e
 haveI hinr:∀G0,InR (GB W G0) (some b6):=fun G0=>InR.gb (by omega)
 refine aA T3 hf rfl rfl rfl B6 (by decide) fun w hg hsz B6 hf=>?_
 obtain⟨hT,e⟩:=gr2 hg hT e
 refine aa ?_
 replace B6:Blk w b6 #[I (-1)] 3:=B6
 replace hf:=hf.kp [0,1,6]
 repeat refine seq ?_
 refine rgN 3 hf <| st (mv rfl) <| st (mv rfl) <| st (dM rfl) <| en fun a w e' hf=>?_
 obtain⟨hT,e,B6⟩:=up3 e' hT e B6
 have l6:=B6.lt
 have hb6:W.heap.size≤b6:=hle6
 have hof:(Dv (slE aj) (fun b=>b=b6∨w.heap.size≤b) (aD l)).p ov w:=Dv.weak (VA.st _ _ _ _ e ho') fun b _ hh=>hh.elim (fun h=>by show W.heap.size≤b;omega) fun h=>by show W.heap.size≤b;omega
 refine bU (S:=fun b=>b=b6) (F:=fun z w'=>z=I 0∧Blk w' b6 #[I (bi (nbA g) 0 l)] 3) hf (by decide) pz ?_ fun a z w hc hF hf=>?_
 ·have e1:a.eval (.tmp 8)=gv:=hf.opd (.tmp 8) _ rfl
  have e2:a.eval (.tmp 9)=ov:=hf.opd (.tmp 9) _ rfl
  have e3:a.eval (.tmp 10)=.func (.func 31) #[] #[ptr b6]:=hf.opd (.tmp 10) _ rfl
  simp only[List.map_toArray,List.map_cons,List.map_nil,e1,e2,e3]
  refine (uO g ok l gv ov 31 #[ptr b6] (fun b=>b=b6) (fun k K w'=>Blk w' b6 #[I (bi (nbA g) 0 (l.take k))] 3) w hT (VA.st _ _ _ _ e hg') hof hl hnd hlen hl1 hl2 hN wa (fun b hb=>by subst hb;omega) (fun k K w1 w2 hK hJ c=>hJ.ch c (fun hh=>by have:=hK _ hh;omega)) (fun k K K' w1 hK hJ=>hJ) ?_ B6).mono fun en w' ⟨k1,k2,K,_,hJ⟩=>⟨_,k1,k2,rfl,by rwa [List.take_length] at hJ⟩
  rintro k hk K w1 c hK hws hT1 hJ
  have hx:=List.getElem?_eq_getElem hk
  refine (a3t (k:Int) _ _ c b6 w1 hJ).mono fun en w' ⟨k1,k2,k3⟩=>⟨k1,k2.to fun b _ hb=>.inl hb,?_⟩
  show Blk w' b6 #[I (bi (nbA g) 0 (l.take (k+1)))] 3
  rw[a3H hx]
  generalize foN (nbA g) l k=S at k3 ⊢
  generalize bi (nbA g) 0 (l.take k)=m at k3 ⊢
  exact k3
 obtain⟨rfl,B6⟩:=hF
 replace e:=e.ch hc fun b hb=>by rw[show b=b6 from hb];exact hb6
 refine tA hf rfl fun a hf=>aa ?_
 replace hf:=hf.keep [0,1,6,7]
 refine seq <| rgN 2 hf <| st (mv rfl) <| st ((neq rfl rfl).eq (congrArg Value.bool ((bne_self_eq_false (0:Int):_=false)))) <| en fun a w e' hf=>?_
 obtain⟨e,B6⟩:=up2 e' e B6
 refine aa <| ifc hf rfl (fun h=>by cases h) (fun _=>?_)
 refine ak <| seq <| rgN 1 hf <| st (ld1 (v:=I (bi (nbA g) 0 l)) T3 rfl B6 rfl) <| en fun a w e' hf=>?_
 obtain⟨e,B6⟩:=up2 e' e B6
 refine tA hf rfl fun a hf=>tA hf rfl fun a hf=>aa <| ai (dF rfl hf rfl rfl ?_)
 rintro _ _ rfl rfl
 exact⟨_,rfl,e,Tup.two rfl rfl⟩
def stB (nb:Int→BS)(l:List Nat)(i:Nat):Int×BS:=((l.getD i 0:Nat),foN nb l i)
def stL (nb:Int→BS)(l:List Nat)(k:Nat):List (Int×BS):=(List.range k).map (stB nb l)
theorem a3I (nb:Int→BS)(l:List Nat)(k:Nat):stL nb l (k+1)=stL nb l k++[stB nb l k]:=by rw[stL,List.range_succ,List.map_append];rfl
theorem uQ (nb:Int→BS)(l:List Nat)(k:Nat):(stL nb l k).length=k:=by rw[stL,List.length_map,List.length_range]
structure uR (W:World)(g:GT)(l:List Nat)(b6 k:Nat)(K:Nat→Prop)(v:Value)(w:World):Prop where
 p6:Blk w b6 #[v] 84
 o:OwR ck 81 1 G0 w (stL (nbA g) l k) v
 k:∀b,v.ownBlock=some b→W.heap.size≤b∧¬K b
theorem a3J {G G2:Nat→Prop}{N:Nat}(g:GT)(ok:Gr.Ok g)(l:List Nat)(gv ov:Value)(W:World)(hT:Tab W)(h:(Dv (ptE (grE N)) G (some g)).p gv W)(ho:(Dv (slE aj) G2 (aD l)).p ov W)
  (hl:∀i,i∈l↔(ah g.1).getLsbD i=true) (hnd:l.Nodup) (hlen:l.length=g.1.length) (hl1:g.1.length≤4096) (hl2:g.2.length≤100000) (hN:N≤1000000) :
  Calls Tryz.prog 32 #[gv,ov] W (Post (Tup [Dv (slE ck) G0 (stL (nbA g) l l.length),E (I 0)]) W):=by
 have ho':(Dv (slE aj) (fun b=>W.heap.size≤b) (aD l)).p ov W:=Dv.weak ho fun b hb hh=>by omega
 have hg':(Dv (ptE (grE N)) G0 (some g)).p gv W:=Dv.weak h fun b _ hb=>hb.elim
 have hT0:=hT.lt
 refine eN [gv,ov] [E gv,E ov] Tryz.func32 Tryz.ntmps32 ?_ fun a hf=>?_
 rotate_left
 dsimp only[params,Nat.reduceAdd] at hf
 rotate_right
 ·exact arg2 rfl rfl
 have e:=Ext.rfl' W
 refine seq <| ae <| tA hf rfl fun a hf=>tA hf rfl fun a hf=>aa ?_
 replace hf:=hf.keep [0,1]
 refine seq <| ae <| tL I84 hf fun a b6 w e' hb6 hs6 B6 hf=>?_
 have hle6:=Nat.le_trans e.size (Nat.le_of_eq hb6.symm)
 obtain⟨hT,e⟩:=up2 e' hT e
 refine aa ?_
 replace B6:Blk w b6 #[.slice none 0 0] 84:=B6
 replace hf:=hf.kp [0,1,6]
 refine seq <| rgN 3 hf <| st (mv rfl) <| st (mv rfl) <| st (dM rfl) <| en fun a w e' hf=>?_
 obtain⟨hT,e,B6⟩:=up3 e' hT e B6
 have l6:=B6.lt
 have hb6:W.heap.size≤b6:=hle6
 obtain⟨W1,hW1⟩:∃W1,W1=w:=⟨_,rfl⟩
 have hof:(Dv (slE aj) (fun b=>b=b6∨w.heap.size≤b) (aD l)).p ov w:=Dv.weak (VA.st _ _ _ _ e ho') fun b _ hh=>hh.elim (fun h=>by show W.heap.size≤b;omega) fun h=>by show W.heap.size≤b;omega
 refine bU (S:=fun b=>b=b6) (F:=fun z w'=>z=I 0∧∃K v,uR W1 g l b6 l.length K v w') hf (by decide) pz ?_ fun a z w hc hF hf=>?_
 ·have e1:a.eval (.tmp 8)=gv:=hf.opd (.tmp 8) _ rfl
  have e2:a.eval (.tmp 9)=ov:=hf.opd (.tmp 9) _ rfl
  have e3:a.eval (.tmp 10)=.func (.func 70) #[] #[ptr b6]:=hf.opd (.tmp 10) _ rfl
  simp only[List.map_toArray,List.map_cons,List.map_nil,e1,e2,e3]
  rw[hW1]
  refine (uO g ok l gv ov 70 #[ptr b6] (fun b=>b=b6) (fun k K w'=>∃v,uR w g l b6 k K v w') w hT (VA.st _ _ _ _ e hg') hof hl hnd hlen hl1 hl2 hN wB (fun b hb=>by subst hb;omega) (fun k K w1 w2 hK ⟨v,hJ⟩ c=>⟨v,hJ.p6.ch c (fun hh=>by have:=hK _ hh;omega),hJ.o.chE c (fun b hb hh=>(hJ.k b hb).2 hh),hJ.k⟩) (fun k K K' w1 hK ⟨v,hJ⟩=>⟨v,hJ.p6,hJ.o,fun b hb=>⟨(hJ.k b hb).1,fun hh=>(hK b hh).elim (hJ.k b hb).2 fun hh=>by have:=(hJ.o.lt hb).2;omega⟩⟩) ?_ ⟨.slice none 0 0,B6,OwR.nil ck _ (by omega) (fun b hb=>hb.elim),fun b hb=>by simp[Value.ownBlock] at hb⟩).mono fun en w' ⟨k1,k2,K,_,v,hJ⟩=>⟨_,k1,k2,rfl,K,v,hJ⟩
  rintro k hk K w1 c hK hws hT1 ⟨v,hJ⟩
  refine (a3u (k:Int) (stB (nbA g) l k) c b6 _ v w1 hJ.p6 hJ.o (by rw[uQ];omega)).mono fun en w' ⟨k1,v',k2,k3,k4,k5⟩=>⟨k1,?_,v',k3,?_,fun b hb=>?_⟩
  ·exact k2.to fun b _ hb=>hb.imp (fun h=>h) (hJ.k b)
  ·rw[a3I]
   exact k4
  ·exact (k5 b hb).elim (hJ.k b) fun hh=>⟨by omega,fun hK'=>by have:=(hK b hK').2;omega⟩
 obtain⟨rfl,K,v,hJ⟩:=hF
 obtain⟨B6,Ho,_⟩:=hJ
 rw[← hW1] at e l6 hc
 replace e:=e.ch hc fun b hb=>by rw[show b=b6 from hb];exact hb6
 refine tA hf rfl fun a hf=>aa ?_
 replace hf:=hf.keep [6,7]
 have hos:=Ho.sl
 refine seq <| rgN 2 hf <| st (ld1 (v:=v) T84 rfl B6 rfl) <| st (mv rfl) <| en fun a w e' hf=>?_
 obtain⟨hos,e,B6⟩:=up3 e' hos e B6
 refine tA hf rfl fun a hf=>tA hf rfl fun a hf=>aa <| ai (dF rfl hf rfl rfl ?_)
 rintro _ _ rfl rfl
 exact⟨_,rfl,e,Tup.two hos rfl⟩
theorem a3K {G:Nat→Prop}{N:Nat}(g:GT)(ok:Gr.Ok g)(v:Value)(W:World)(hT:Tab W)(h:(Dv (ptE (grE N)) G (some g)).p v W)(hl1:g.1.length≤12)(hl2:g.2.length≤100000)(hN:N≤1000000) :
  Calls Tryz.prog 28 #[v] W (Post (OrA g) W):=by
 refine eN [v] [E v] Tryz.func28 Tryz.ntmps28 ?_ fun a hf=>?_
 rotate_left
 rotate_right
 ·exact arg1 rfl
 have e:=Ext.rfl' W
 refine seq <| ae <| tA hf rfl fun a hf=>aa ?_
 have e0:=e
 refine seq <| rgN 2 hf <| st (mv rfl) <| st (ar (A:=OrA g) (B:=E v) (C:=E (.func (.func 66) #[] #[])) pE rfl rfl (fun v u w he k k'=>by cases k;cases k';exact uE g ok _ 66 hY (fun lm x=>((card (lkS lm (x:Int)):Nat):Int)) (fun w bm n lm x hx ht hm=>iA x w hx hm) w (hT.ext (Ext.tr e0 he)) (VA.st _ _ _ _ (Ext.tr e0 he) h) hl1 hl2 hN)) ?_
 refine en fun a w e' hf=>?_
 replace e:=e.tr e'
 refine tA hf rfl fun a hf=>aa <| ai <| ap rfl hf rfl ?_
 intro v hv
 exact⟨_,rfl,e,hv⟩
theorem a3L {G:Nat→Prop}{N:Nat}(g:GT)(ok:Gr.Ok g)(v:Value)(W:World)(hT:Tab W)(h:(Dv (ptE (grE N)) G (some g)).p v W)(hl1:g.1.length≤12)(hl2:g.2.length≤100000)(hN:N≤1000000) :
  Calls Tryz.prog 29 #[v] W (Post (OrA g) W):=by
 refine eN [v] [E v] Tryz.func29 Tryz.ntmps29 ?_ fun a hf=>?_
 rotate_left
 rotate_right
 ·exact arg1 rfl
 have e:=Ext.rfl' W
 refine seq <| ae <| tA hf rfl fun a hf=>aa ?_
 have e0:=e
 refine seq <| rgN 2 hf <| st (mv rfl) <| st (ar (A:=OrA g) (B:=E v) (C:=E (.func (.func 67) #[] #[])) pE rfl rfl (fun v u w he k k'=>by cases k;cases k';exact uE g ok _ 67 wy (fun lm x=>((flK lm (lkS lm (x:Int)) (elems (lkS lm (x:Int))):Nat):Int).tdiv 2) (fun w bm n lm x hx ht hm=>a3d x w ht hx hm) w (hT.ext (Ext.tr e0 he)) (VA.st _ _ _ _ (Ext.tr e0 he) h) hl1 hl2 hN)) ?_
 refine en fun a w e' hf=>?_
 replace e:=e.tr e'
 refine tA hf rfl fun a hf=>aa <| ai <| ap rfl hf rfl ?_
 intro v hv
 exact⟨_,rfl,e,hv⟩
def UpA (g:GT):VA:=⟨fun v w=>∃l u,OrP g l∧v=.tuple #[I (bi (nbA g) 0 l),u]∧(Dv (slE aj) G0 (aD l)).p u w,fun _ _ _ e ⟨l,u,h1,h2,h3⟩=>⟨l,u,h1,h2,VA.st _ _ _ _ e h3⟩⟩
theorem a3M {G:Nat→Prop}{N:Nat}(g:GT)(ok:Gr.Ok g)(v x y:Value)(W:World)(hT:Tab W)(h:(Dv (ptE (grE N)) G (some g)).p v W)(hx:(OrA g).p x W)(hy:(OrA g).p y W)(hl1:g.1.length≤12)(hl2:g.2.length≤100000)(hN:N≤1000000) :
  Calls Tryz.prog 27 #[v,x,y] W (Post (UpA g) W):=by
 obtain⟨l1,p1,h1⟩:=hx
 obtain⟨l2,p2,h2⟩:=hy
 obtain⟨m1,hm1⟩:∃m1,m1=bi (nbA g) 0 l1:=⟨_,rfl⟩
 obtain⟨m2,hm2⟩:∃m2,m2=bi (nbA g) 0 l2:=⟨_,rfl⟩
 refine eN [v,x,y] [E v,E x,E y] Tryz.func27 Tryz.ntmps27 ?_ fun a hf=>?_
 rotate_left
 rotate_right
 ·exact dS rfl rfl rfl
 have e:=Ext.rfl' W
 refine seq <| ae <| tA hf rfl fun a hf=>tA hf rfl fun a hf=>aa ?_
 replace hf:=hf.keep [0,1,2]
 have e0:=e
 refine seq <| rgN 6 hf <| st (mv rfl) <| st (mv rfl) <| st (ar (A:=Tup [E (I m1),E (I 0)]) (B:=E v) (C:=E x) En9 rfl rfl (fun u1 u2 w he k1 k2=>by cases k1;cases k2;rw[hm1];exact jJ g ok l1 v x w (hT.ext (Ext.tr e0 he)) (VA.st _ _ _ _ (Ext.tr e0 he) h) (VA.st _ _ _ _ (Ext.tr e0 he) h1) p1.2 p1.1 (p1.len ok) (by omega) hl2 hN)) ?_
 refine st (mv rfl) <| st (aO rfl rfl) <| st (aO rfl rfl) <| en fun a w e' hf=>?_
 replace e:=e.tr e'
 refine tA hf rfl fun a hf=>tA hf rfl fun a hf=>aa ?_
 replace hf:=hf.keep [0,1,2,8]
 have e0:=e
 refine seq <| rgN 6 hf <| st (mv rfl) <| st (mv rfl) <| st (ar (A:=Tup [E (I m2),E (I 0)]) (B:=E v) (C:=E y) En9 rfl rfl (fun u1 u2 w he k1 k2=>by cases k1;cases k2;rw[hm2];exact jJ g ok l2 v y w (hT.ext (Ext.tr e0 he)) (VA.st _ _ _ _ (Ext.tr e0 he) h) (VA.st _ _ _ _ (Ext.tr e0 he) h2) p2.2 p2.1 (p2.len ok) (by omega) hl2 hN)) ?_
 refine st (mv rfl) <| st (aO rfl rfl) <| st (aO rfl rfl) <| en fun a w e' hf=>?_
 replace e:=e.tr e'
 refine tA hf rfl fun a hf=>tA hf rfl fun a hf=>aa ?_
 replace hf:=hf.keep [1,2,8,10]
 repeat refine seq ?_
 refine rgN 3 hf <| st (mv rfl) <| st (mv rfl) <| st (lss rfl rfl) <| en fun a w e' hf=>?_
 replace e:=e.tr e'
 refine aa <| ifc hf rfl (fun hb=>?_) (fun hb=>?_)
 ·refine seq <| rgN 2 hf <| st (mv rfl) <| st (mv rfl) <| en fun a w e' hf=>?_
  replace e:=e.tr e'
  refine tA hf rfl fun a hf=>tA hf rfl fun a hf=>aa <| ai (dF rfl hf rfl rfl ?_)
  rintro _ _ rfl rfl
  exact⟨_,rfl,e,l2,_,p2,by rw[hm2],VA.st _ _ _ _ e h2⟩
 ·refine ak <| seq <| rgN 2 hf <| st (mv rfl) <| st (mv rfl) <| en fun a w e' hf=>?_
  replace e:=e.tr e'
  refine tA hf rfl fun a hf=>tA hf rfl fun a hf=>aa <| ai (dF rfl hf rfl rfl ?_)
  rintro _ _ rfl rfl
  exact⟨_,rfl,e,l1,_,p1,by rw[hm1],VA.st _ _ _ _ e h1⟩
theorem a3N {G:Nat→Prop}{N:Nat}(g:GT)(ok:Gr.Ok g)(v:Value)(W:World)(hT:Tab W)(h:(Dv (ptE (grE N)) G (some g)).p v W)(hl1:g.1.length≤12)(hl2:g.2.length≤100000)(hN:N≤1000000) :
  Calls Tryz.prog 8 #[v] W (Post (UpA g) W):=by
 have hv:(Dv (ptE (grE N)) G0 (some g)).p v W:=Dv.weak h fun b _ hb=>hb.elim
 refine eN [v] [E v] Tryz.func8 Tryz.ntmps8 ?_ fun a hf=>?_
 rotate_left
 rotate_right
 ·exact arg1 rfl
 have e:=Ext.rfl' W
 refine seq <| ae <| tA hf rfl fun a hf=>tA hf rfl fun a hf=>aa ?_
 replace hf:=hf.keep [0]
 repeat refine seq ?_
 refine rgN 2 hf <| st (mv rfl) <| st (dX U28 (isE rfl (VA.st _ _ _ _ e hv))) <| en fun a w e' hf=>?_
 replace e:=e.tr e'
 refine aa <| ifc hf rfl (fun h=>by cases h) (fun _=>?_)
 refine ak ?_
 replace hf:=hf.keep [0]
 have e0:=e
 refine seq <| rgN 6 hf <| st (mv rfl) <| st (mv rfl) <| st (an (A:=OrA g) (B:=E v) vY rfl (fun u w he k=>by cases k;exact a3K g ok _ w (hT.ext (Ext.tr e0 he)) (VA.st _ _ _ _ (Ext.tr e0 he) hv) hl1 hl2 hN)) ?_
 refine st (mv rfl) <| st (an (A:=OrA g) (B:=E v) vZ rfl (fun u w he k=>by cases k;exact a3L g ok _ w (hT.ext (Ext.tr e0 he)) (VA.st _ _ _ _ (Ext.tr e0 he) hv) hl1 hl2 hN)) ?_
 refine st (gE (A:=UpA g) (B:=E v) (C:=OrA g) (D:=OrA g) vX rfl rfl rfl (fun u1 u2 u3 w he k1 k2 k3=>by cases k1;exact a3M g ok _ u2 u3 w (hT.ext (Ext.tr e0 he)) (VA.st _ _ _ _ (Ext.tr e0 he) hv) k2 k3 hl1 hl2 hN)) ?_
 refine en fun a w e' hf=>?_
 replace e:=e.tr e'
 obtain⟨tv,⟨l,u,hp,rfl,hu⟩,hf⟩:=hf.opn 11 rfl
 replace hf:=hf.keep [11]
 refine tP hf (exE rfl rfl) fun a w e' hf=>?_
 obtain⟨hu,e⟩:=up2 e' hu e
 refine tP hf (exE rfl rfl) fun a w e' hf=>?_
 obtain⟨hu,e⟩:=up2 e' hu e
 refine tA hf rfl fun a hf=>tA hf rfl fun a hf=>aa <| ai (dF rfl hf rfl rfl ?_)
 rintro _ _ rfl rfl
 exact⟨_,rfl,e,l,_,hp,rfl,hu⟩
def DgA (g:GT):VA:=⟨fun v w=>∃m u,v=.tuple #[I m,u]∧m≤twG g,fun _ _ _ _ h=>h⟩
structure OdN (W:World)(bm:Nat)(J:BS)(nh:Nat→BS)(lm:List (Int×BS))(w:World):Prop where
 e:Ext W w
 t:Tab w
 m:MpR sKV w bm lm.length lm
 r:NrM lm J nh
 s:Nr J nh
section
variable {W w w':World}{J J':BS}{nh nh':Nat→BS}{bm:Nat}{lm lm':List (Int×BS)}
theorem OdN.ext (h:OdN W bm J nh lm w)(e:Ext w w'):OdN W bm J nh lm w':=⟨Ext.tr h.e e,h.t.ext e,h.m.ext e,h.r,h.s⟩
theorem OdN.gro {row:Option Nat}(h:OdN W bm J nh lm w)(hg:w.grownBy w' row)(hr:∀b,row=some b→W.heap.size≤b)(h0:0<W.heap.size)(hm:row≠some bm):OdN W bm J nh lm w':=
 ⟨h.e.gro hg hr,h.t.gro hg fun b hb=>Nat.lt_of_lt_of_le h0 (hr b hb),h.m.pres (hg.block _ h.m.lt fun e=>hm e.symm),h.r,h.s⟩
theorem OdN.ch (h:OdN W bm J nh lm w)(c:Chg (fun b=>b=bm) w w')(hW:W.heap.size≤bm)(h0:0<bm)(m:MpR sKV w' bm lm'.length lm')(r:NrM lm' J' nh')(s:Nr J' nh'):OdN W bm J' nh' lm' w':=
 ⟨h.e.ch c fun b hb=>by rw[show b=bm from hb];exact hW,h.t.ch c fun hh=>Nat.lt_irrefl _ (Nat.lt_of_lt_of_le h0 (Nat.le_of_eq (show 0=bm from hh).symm)),m,r,s⟩
end
theorem uS {lm:List (Int×BS)}{J:BS}{nh:Nat→BS}(hM:NrM lm J nh){i:Nat}(hi:J.getLsbD i=true)(hm:∀j:Nat,J.getLsbD j=true→((card (lkS lm (i:Int)):Nat):Int)≤((card (lkS lm (j:Int)):Nat):Int)):∀j,J.getLsbD j=true→card (nh i)≤card (nh j):=fun j hj=>by
 have:=hm j hj
 rw[hM.val i hi,hM.val j hj] at this
 omega
theorem a3O {G:Nat→Prop}{N:Nat}(g:GT)(ok:Gr.Ok g)(v:Value)(W:World)(hT:Tab W)(h:(Dv (ptE (grE N)) G (some g)).p v W)(hl1:g.1.length≤12)(hl2:g.2.length≤100000)(hN:N≤1000000) :
  Calls Tryz.prog 36 #[v] W (Post (DgA g) W):=by
 have hT0:=hT.lt
 have hlo:=tM g
 refine eN [v] [E v] Tryz.func36 Tryz.ntmps36 ?_ fun a hf=>?_
 rotate_left
 rotate_right
 ·exact arg1 rfl
 have e:=Ext.rfl' W
 refine seq <| ae <| tA hf rfl fun a hf=>tA hf rfl fun a hf=>aa ?_
 replace hf:=hf.keep [0]
 have e0:=e
 refine seq <| rgN 2 hf <| st (mv rfl) <| st (an (A:=OwM W.heap.size (elems (ah g.1)).length (nbL g (elems (ah g.1)))) (B:=E v) jV rfl (fun u w' he k=>by cases k;exact (kL g v w' (hT.ext he) (VA.st _ _ _ _ (Ext.tr e0 he) h) ok.sv ok.se (by omega) hl2 hN).mono fun en w2 ⟨u,k1,k2,bm,k3,k4,k5⟩=>⟨u,k1,k2,bm,k3,Nat.le_trans (Ext.tr e0 he).size k4,k5⟩)) ?_
 refine en fun a w e' hf=>?_
 obtain⟨hT,e⟩:=up2 e' hT e
 refine tA hf rfl fun a hf=>aa ?_
 obtain⟨mv,⟨bm,rfl,hbm,HM⟩,hf⟩:=hf.opn 4 rfl
 have hWm:W.heap.size≤bm:=hbm
 have h0m:0<bm:=by omega
 have hH:OdN W bm (ah g.1) (fun j=>nbA g (j:Int)) (nbL g (elems (ah g.1))) w:=⟨e,hT,HM.tight0,ll ok,oe ok⟩
 replace hf:=hf.keep [4]
 refine seq <| ae <| tA hf rfl fun a hf=>aa <| seq <| ae <| tA hf rfl fun a hf=>aa ?_
 replace hf:=hf.keep [4,5,6]
 have Ho:OwR aj 3 W.heap.size G0 w (aD []) (.slice none 0 0):=OwR.nil aj _ hH.e.size fun b hb=>hb.elim
 have hP:=OdP.nil (ah g.1)
 have hMn:=tR ok
 refine seq <| blk (aJ (fun r0 a w=>∃(J:BS) (nh:Nat→BS) (done:List Nat) (lm:List (Int×BS)) (u:Value) (mx:Int) (B:Nat→Nat→Prop),card J=r0∧Fr 32 a w [(4,E (.map (some bm))),(5,E (I mx)),(6,E u)]∧OdN W bm J nh lm w∧OwR aj 3 W.heap.size G0 w (aD done) u∧OdP (ah g.1) J done∧mx≤twG g∧Mnr (nbA g) (ah g.1) J nh B) (card (ah g.1)) ⟨_,_,[],_,_,-1,_,rfl,hf,hH,Ho,hP,hlo,hMn⟩ ?_)
 rintro r0 a w ⟨J,nh,done,lm,u,mx,B,hr0,hf,hH,Ho,hP,hmx,hMn⟩
 have hln:lm.length≤1024:=hH.r.len (by obtain⟨_,_,_,hp⟩:=hH.m;exact hp.2)
 have hdl:done.length≤1024:=uD hP
 have hdv:=cr hH.m
 repeat refine seq ?_
 by_cases hpos:0<lm.length
 ·repeat refine seq ?_
  refine rgN 3 hf <| st (mv rfl) <| st (eU bP (isE rfl hdv)) <| st ((gtr rfl rfl).eq (congrArg Value.bool ((decide_eq_true (by omega):_=true)))) <| en fun a w e' hf=>?_
  replace hH:=hH.ext e'
  replace Ho:=Ho.ext e'
  refine aa <| ifc hf rfl (fun _=>ak ?_) (fun h=>by cases h)
  refine blk ?_
  replace hf:=hf.keep [4,5,6]
  refine seq <| rgN 5 hf <| st (mv rfl) <| st (an (A:=cK 0 lm) (B:=E (.map (some bm))) jX rfl (fun v w he h=>by cases h;exact (lC w (hH.m.ext he) hln).mono fun en w' ⟨u,k1,k2,k3⟩=>⟨u,k1,k2,cK.low k3⟩)) ?_
  refine st (mv rfl) <| st (oA rfl) <| st (ar (A:=iD J (fun x=>((card (lkS lm (x:Int)):Nat):Int))) (B:=cK 0 lm) (C:=E (.func (.func 66) #[.map (some bm)] #[])) jW rfl rfl (fun v u w he k k'=>by cases k';exact oF k hH.r hpos hln 66 #[.map (some bm)] #[] hY (fun x=>((card (lkS lm (x:Int)):Nat):Int)) (fun w' e' x hx=>iA x w' (ay hx) (hH.m.ext (Ext.tr he e'))))) ?_
  refine en fun a w e' hf=>?_
  replace hH:=hH.ext e'
  replace Ho:=Ho.ext e'
  refine tA hf rfl fun a hf=>aa ?_
  obtain⟨v7,⟨i,rfl,hi,hmin⟩,hf⟩:=hf.opn 7 rfl
  have hnh:=uS hH.r hi hmin
  have htw:=tU ok hl1 hMn hi hnh
  have hlk:=hH.r.val i hi
  obtain⟨c,hc⟩:∃c:Int,c=((card (lkS lm (i:Int)):Nat):Int):=⟨_,rfl⟩
  have hctw:max mx c≤twG g:=by rw[← hlk,← hc] at htw;omega
  replace hf:=hf.keep [4,5,6,7]
  refine seq <| rgN 5 hf <| st (mv rfl) <| st (mv rfl) <| st (mv rfl) <| st (ar (A:=E (I c)) (B:=E (.map (some bm))) (C:=E (I (i:Nat))) hY rfl rfl (fun v u w he k k'=>by cases k;cases k';rw[hc];exact iA i w (ay hi) (hH.m.ext he))) ?_
  refine st (max2 rfl rfl) <| en fun a w e' hf=>?_
  replace hH:=hH.ext e'
  replace Ho:=Ho.ext e'
  refine tA hf rfl fun a hf=>aa ?_
  replace hf:=hf.kp [4,5,6,7]
  have hnl:(aD done).length=done.length:=by rw[aD,List.length_map]
  refine seq <| rgN 3 hf <| st (mv rfl) <| st (mv rfl) <| st (bB (e:=aj) (G:=GO G0 u) U35 I3 rfl (by decide) rfl Ho.avs (isI rfl)) <| en fun a w e' hf=>?_
  replace hH:=hH.ext e'
  replace Ho:=Ho.ext e'
  replace hf:=hf.kp [4,5,7,23,25]
  have hnm:=Ho.neMp hH.m
  have hlo':=fun b hb=>(Ho.lt (b:=b) hb).1
  refine bI U35 I3 rfl rfl hf (by decide) rfl Ho (isR rfl) (by simp only[List.length_singleton];omega) (by simp only[List.length_singleton,maxLen];omega) fun a u2 w hg hat Hn hf=>?_
  replace hH:=hH.gro hg hlo' hT0 hnm
  replace Ho:OwR aj 3 W.heap.size G0 w (aD (done++[i])) u2:=by rw[aD,List.map_append];exact Hn
  refine tA hf rfl fun a hf=>aa ?_
  replace hf:=hf.kp [4,5,6,7]
  refine rgN 2 hf <| st (mv rfl) <| st (mv rfl) <| en fun a w e' hf=>?_
  replace hH:=hH.ext e'
  replace Ho:=Ho.ext e'
  refine bU (S:=fun b=>b=bm) (F:=fun z w'=>z=.tuple #[]∧∃l',MpR sKV w' bm l'.length l'∧NrM l' (del J (i:Int)) (awN nh i)) hf (by decide) mu ?_ fun a z w hc hF hf=>?_
  ·have e1:a.eval (.tmp 27)=.map (some bm):=hf.opd (.tmp 27) _ rfl
   have e2:a.eval (.tmp 28)=I (i:Nat):=hf.opd (.tmp 28) _ rfl
   simp only[List.map_toArray,List.map_cons,List.map_nil,e1,e2]
   exact (ot i J _ _ hH.t hH.m hH.r hH.s hi h0m).mono fun en w' ⟨k1,k2,k3⟩=>⟨_,k1,k2,rfl,k3⟩
  obtain⟨rfl,l3,HM3,hM3⟩:=hF
  have hnm:=Ho.neMp hH.m
  replace Ho:=Ho.chE hc fun b hb h=>hnm (by rw[hb,show b=bm from h])
  have hs:=hH.s
  replace hH:=hH.ch hc hWm h0m HM3 hM3 (hs.aw hi)
  refine aa ?_
  replace hf:=hf.keep [4,5,6]
  have hcd:=gR hi
  exact⟨card (del J (i:Int)),by omega,del J (i:Int),_,done++[i],_,u2,_,_,rfl,hf,hH,Ho,hP.step hi,hctw,tT hMn hs hi⟩
 ·have hz:=hpos
  refine rgN 3 hf <| st (mv rfl) <| st (eU bP (isE rfl hdv)) <| st ((gtr rfl rfl).eq (congrArg Value.bool ((decide_eq_false (by omega):_=false)))) <| en fun a w e' hf=>?_
  replace hH:=hH.ext e'
  replace Ho:=Ho.ext e'
  refine aa <| ifc hf rfl (fun h=>by cases h) (fun _=>aG ?_)
  replace hf:=hf.keep [5,6]
  refine seq <| rgN 2 hf <| st (mv rfl) <| st (mv rfl) <| en fun a w e' hf=>?_
  replace hH:=hH.ext e'
  replace Ho:=Ho.ext e'
  refine tA hf rfl fun a hf=>tA hf rfl fun a hf=>aa <| ai (dF rfl hf rfl rfl ?_)
  rintro _ _ rfl rfl
  exact⟨_,rfl,hH.e,mx,_,rfl,hmx⟩
section
variable {W w w':World}{v ov:Value}{b1 b4 b5 B:Nat}{L:BS}{out:List Nat}{D:List Nat}
end
theorem oG {fn:Func}{t u:Nat}{R:Ending→World→Prop}{n:Nat}{a:Act}{w:World}{v x:Value}{L:Env}{D:List Nat}(hr:fn.results = #[.tmp t,.tmp u])(hf:FrD n (bq D) a w L)(h:aC L t=some (E v))(h':aC L u=some (E x))
  (hD:Ds D w) (hR:R (.returned (.tuple #[v,x])) (shut D w)):bodyPostM (FW none) 0 Tryz.prog fn R .ret a w:=by
 have hv:a.eval (.tmp t)=v:=hf.val t _ h
 have hx:a.eval (.tmp u)=x:=hf.val u _ h'
 show LeavesInM _ _ _ _ _ _ _ _ _
 rw[hf.defers]
 refine gL D w hD ?_ hR
 rw[← hv,← hx]
 simp[results,hr,Act.eval]
def ctS (nh:Nat→BS)(d:Nat)(s:List Nat)(o:Nat):BS:=if o=d then aT (nh d) s else if o∈s then ins (nh o) (d:Int) else nh o
theorem a3P (nh:Nat→BS)(d:Nat)(o:Nat):ctS nh d [] o=nh o:=by
 rw[ctS]
 by_cases h:o=d
 ·rw[if_pos h,h,uJ]
 ·rw[if_neg h,if_neg (by simp)]
theorem a3Q {J:BS}{nh:Nat→BS}{i d:Nat}(hi:J.getLsbD i=true)(hd:(nh i).getLsbD d=true)(o:Nat):ctS nh d (elems (del (nh i) (d:Int))) o=ctN nh i d o:=by
 have hd':=ay hd
 rw[ctS,ctN]
 by_cases h:o=d
 ·rw[if_pos h,if_pos h]
  refine bT fun x=>?_
  rw[gS _ _ (fun y hy=>(aH.1 hy).1) x,ez,aH]
  exact⟨fun hh=>hh.imp id fun hh=>hh.2,fun hh=>hh.imp id fun hh=>⟨ay hh,hh⟩⟩
 ·rw[if_neg h,if_neg h]
  by_cases hs:(nh i).getLsbD o=true
  ·rw[if_pos hs,if_pos (aH.2 ⟨ay hs,(bu _ hd').2 ⟨hs,h⟩⟩)]
  ·rw[if_neg hs,if_neg fun hh=>hs ((bu _ hd').1 (aH.1 hh).2).1]
structure CtW (W:World)(b4 b8 bm i d:Nat)(J:BS)(f:Nat→BS)(xs:List (Int×Int))(u:Value)(D:List Nat)(lm:List (Int×BS))(w:World):Prop where
 e:Ext W w
 t:Tab w
 p4:Blk w b4 #[.map (some bm)] 121
 p8:Blk w b8 #[I (i:Nat),I (d:Nat)] 132
 m:MpR sKV w bm lm.length lm
 r:NrM lm J f
 o:OwR edE 132 W.heap.size G0 w xs u
 dd:Ds D w
structure CtN (N b4 b8 bm:Nat)(u:Value)(D:List Nat):Prop where
 lt:0<N∧b4<N∧b8<N∧bm<N
 u:∀b,u.ownBlock=some b→b<N
 d:∀d∈D,d<N
section
variable {W w w':World}{b4 b8 bm i d N B n:Nat}{J:BS}{f f':Nat→BS}{xs:List (Int×Int)}{u:Value}{D:List Nat}{lm lm':List (Int×BS)}
theorem CtW.ext (h:CtW W b4 b8 bm i d J f xs u D lm w)(e:Ext w w'):CtW W b4 b8 bm i d J f xs u D lm w':=⟨Ext.tr h.e e,h.t.ext e,h.p4.ext e,h.p8.ext e,h.m.ext e,h.r,h.o.ext e,h.dd.ext e⟩
theorem CtW.kp (h:CtW W b4 b8 bm i d J f xs u D lm w)(k:Kp B w w')(q:CtN N b4 b8 bm u D)(hB:N≤B)(hW:W.heap.size≤B):CtW W b4 b8 bm i d J f xs u D lm w':=by
 obtain⟨q0,q4,q8,qm⟩:=q.lt
 have no:∀{b},b<N→¬aS B b:=fun h hh=>Nat.lt_irrefl _ (Nat.lt_of_lt_of_le h (Nat.le_trans hB hh.1))
 exact⟨h.e.kp k hW,h.t.kp k (Nat.lt_of_lt_of_le q0 hB),h.p4.kp k (no q4),h.p8.kp k (no q8),h.m.pres (k.same _ h.m.lt (no qm)),h.r,h.o.chE k.chg fun b hb=>no (q.u b hb),h.dd.ch k.chg fun d hd=>no (q.d d hd)⟩
theorem CtW.put (h:CtW W b4 b8 bm i d J f xs u D lm w)(hg:w.grownBy w' (some bm))(hW:W.heap.size≤bm)(h0:0<bm)(n4:b4≠bm)(n8:b8≠bm)(hD:bm ∉ D)(hM:MpR sKV w' bm n lm')(hr:NrM lm' J f'):CtW W b4 b8 bm i d J f' xs u D lm' w':=
 ⟨h.e.gr hg hW,h.t.gr hg h0,h.p4.gr hg n4,h.p8.gr hg n8,hM.tight0,hr,h.o.grE hg (h.o.neMp h.m),h.dd.gr hg hD⟩
end
theorem bCt (u y:Int):Tryz.prog.built 132 [(0,I u),(1,I y)]=some #[I u,I y]:=by kernel_rfl
theorem Ds.neMp {β γ:Type}{V:KV Tryz.prog β γ}{D:List Nat}{w:World}{bm n:Nat}{l:List (β×γ)}(h:Ds D w)(HM:MpR V w bm n l):bm ∉ D:=fun hh=>absurd (h.2 bm hh) (by obtain⟨_,⟨_,_,h2,_⟩,_⟩:=HM;rw[h2];exact fun h=>by cases h)
theorem a3R {G:Nat→Prop}{S:BS}{v:Value}{w:World}(hv:(Dv (slE aj) G (cc (elems S))).p v w)(hS:S≠0)(fid:FuncId)(fst caps:Array Value)(hen:Proofs.Enters Tryz.prog fid)(key:Nat→Int)
  (hp:∀w',Ext w w'→∀x:Nat,S.getLsbD x=true→Calls Tryz.prog fid (fst ++ #[I (x:Nat)]++caps) w' (Post (E (I (key x))) w')):Calls Tryz.prog 76 #[v,.func (.func fid) fst caps] w (Post (iD S key) w):=by
 obtain⟨k,hk⟩:∃k,bj S=some k:=by
  cases hm:bj S with
  | none=>exact absurd (jg.1 hm) hS
  | some k=>exact⟨k,rfl⟩
 have hel:=qX hk
 have hmem:∀x:Int,x∈cc (elems S)↔∃i:Nat,x=(i:Int)∧S.getLsbD i=true:=fun x=>by
  rw[cc,List.mem_map]
  exact⟨fun⟨n,hn,he⟩=>⟨n,he.symm,(aH.1 hn).2⟩,fun⟨n,he,hn⟩=>⟨n,aH.2 ⟨ay hn,hn⟩,he.symm⟩⟩
 have hlen:(cc (elems S)).length≤1024:=by rw[cc,List.length_map];exact bX S
 obtain⟨x0,r,hls⟩:=List.exists_cons_of_ne_nil (show cc (elems S)≠[] from fun h=>by rw[hel] at h;simp[cc] at h)
 rw[hls] at hv hmem hlen
 refine (uw x0 r (by simp at hlen;omega) v w hv fid fst caps hen (fun x=>key x.toNat) fun w' e' x hx=>?_).mono ?_
 ·obtain⟨i,rfl,hi⟩:=(hmem x).1 hx
  exact hp w' e' i hi
 ·rintro en w' ⟨u,k1,k2,rfl⟩
  obtain⟨m1,m2⟩:=uo (fun x=>key x.toNat) (xs:=x0::r) (by simp)
  obtain⟨i,hi1,hi2⟩:=(hmem _).1 m1
  refine⟨_,k1,k2,i,by rw[hi1],hi2,fun j hj=>?_⟩
  have:=m2 (j:Int) ((hmem _).2 ⟨j,rfl,hj⟩)
  rw[hi1] at this
  exact this
set_option maxHeartbeats 2000000 in
theorem a3S {G:Nat→Prop}{N:Nat}(g:GT)(ok:Gr.Ok g)(v:Value)(W:World)(hT:Tab W)(h:(Dv (ptE (grE N)) G (some g)).p v W)(hl1:g.1.length≤12)(hl2:g.2.length≤100000)(hN:N≤1000000) :
  Calls Tryz.prog 37 #[v] W (Post (DgA g) W):=by
 have hT0:=hT.lt
 have hlo:=tM g
 have hcV:card (ah g.1)≤1024:=fE fun i hi=>ay hi
 refine cq (args:=[v]) (As:=[E v]) Tryz.func37 rfl Tryz.ntmps37 (Nat.le_of_ble_eq_true rfl) ?_ (fun a hf=>?_) (Nat.le_of_ble_eq_true rfl)
 ·exact arg1 rfl
 have e:=Ext.rfl' W
 refine seq <| ae <| tA hf rfl fun a hf=>tA hf rfl fun a hf=>aa ?_
 replace hf:=hf.keep [0]
 have e0:=e
 refine seq <| rgN 2 hf <| st (mv rfl) <| st (an (A:=OwM W.heap.size (elems (ah g.1)).length (nbL g (elems (ah g.1)))) (B:=E v) jV rfl (fun u w' he k=>by cases k;exact (kL g v w' (hT.ext he) (VA.st _ _ _ _ (Ext.tr e0 he) h) ok.sv ok.se (by omega) hl2 hN).mono fun en w2 ⟨u,k1,k2,bm,k3,k4,k5⟩=>⟨u,k1,k2,bm,k3,Nat.le_trans (Ext.tr e0 he).size k4,k5⟩)) ?_
 refine en fun a w e' hf=>?_
 obtain⟨hT,e⟩:=up2 e' hT e
 obtain⟨mv,⟨bm,rfl,hbm,HM⟩,hf⟩:=hf.opn 12 rfl
 have hWm:W.heap.size≤bm:=hbm
 have h0m:0<bm:=by omega
 have lmw:=HM.lt
 replace hf:=hf.kp [12]
 refine tL mj hf fun a b4 w e' hb4 hs4 B4 hf=>?_
 obtain⟨hT,HM,e⟩:=up3 e' hT HM e
 haveI hinr:∀G0,InR (GB W G0) (some b4):=fun G0=>InR.gb (by omega)
 refine aA bC hf rfl rfl rfl B4 (by decide) fun w hg hsz B4 hf=>?_
 replace hT:=hT.gr hg (by omega)
 replace HM:=HM.gr hg (fun h=>by cases h;omega)
 replace e:=e.gr hg (by omega)
 refine aa ?_
 replace B4:Blk w b4 #[.map (some bm)] 121:=B4
 have n4:b4≠bm∧W.heap.size≤b4:=by omega
 have hH:OdM W b4 bm (ah g.1) (fun j=>nbA g (j:Int)) (nbL g (elems (ah g.1))) w:=⟨e,hT,B4,HM.tight0,ll ok,oe ok⟩
 replace hf:=hf.kp [4]
 refine seq <| ae <| tA hf rfl fun a hf=>aa <| seq <| ae <| tA hf rfl fun a hf=>aa ?_
 replace hf:=hf.kp [4,5,6]
 have Ho:OwR edE 132 W.heap.size G0 w [] (.slice none 0 0):=OwR.nil edE _ hH.e.size fun b hb=>hb.elim
 have hMn:=tR ok
 have hf:FrD 72 (bq []) a w [(4,E (ptr b4)),(5,E (I (-1))),(6,E (.slice none 0 0))]:=hf.keep [4,5,6]
 have hD:=Ds.nil w
 refine seq <| blk (aJ (fun r0 a w=>∃(J:BS) (nh:Nat→BS) (xs:List (Int×Int)) (lm:List (Int×BS)) (u:Value) (mx:Int) (Bq:Nat→Nat→Prop) (D:List Nat),card J=r0∧xs.length+card J=card (ah g.1)∧FrD 72 (bq D) a w [(4,E (ptr b4)),(5,E (I mx)),(6,E u)]∧OdM W b4 bm J nh lm w∧OwR edE 132 W.heap.size G0 w xs u∧mx≤twG g∧Mnr (nbA g) (ah g.1) J nh Bq∧Ds D w∧∀d∈D,W.heap.size≤d) (card (ah g.1)) ⟨_,_,[],_,_,-1,_,[],rfl,Nat.zero_add _,hf,hH,Ho,hlo,hMn,hD,fun d hd=>(by cases hd)⟩ ?_)
 rintro r0 a w ⟨J,nh,xs,lm,u,mx,Bq,D,hr0,hxl,hf,hH,Ho,hmx,hMn,hD,hDl⟩
 have hln:lm.length≤1024:=hH.r.len (by obtain⟨_,_,_,hp⟩:=hH.m;exact hp.2)
 have hdv:=cr hH.m
 repeat refine seq ?_
 by_cases hpos:0<lm.length
 ·repeat refine seq ?_
  refine rgN 3 hf <| st (ld1 (v:=.map (some bm)) bC rfl hH.p5 rfl) <| st (eU bP (isE rfl hdv)) <| st ((gtr rfl rfl).eq (congrArg Value.bool ((decide_eq_true (by omega):_=true)))) <| en fun a w e' hf=>?_
  replace hH:=hH.ext e'
  replace Ho:=Ho.ext e'
  replace hD:=hD.ext e'
  refine aa <| ifc hf rfl (fun _=>ak ?_) (fun h=>by cases h)
  refine blk ?_
  replace hf:=hf.keep [4,5,6]
  refine seq <| rgG 5 Mix.mix hf <| st (ld1 (v:=.map (some bm)) bC rfl hH.p5 rfl) <| st (an (A:=cK 0 lm) (B:=E (.map (some bm))) jX rfl (fun v w he h=>by cases h;exact (lC w (hH.m.ext he) hln).mono fun en w' ⟨u,k1,k2,k3⟩=>⟨u,k1,k2,cK.low k3⟩)) ?_
  refine st (ld1 (v:=.map (some bm)) bC rfl hH.p5 rfl) <| st (oA rfl) <| st (ar (A:=iD J (fun x=>((card (lkS lm (x:Int)):Nat):Int))) (B:=cK 0 lm) (C:=E (.func (.func 66) #[.map (some bm)] #[])) jW rfl rfl (fun v u w he k k'=>by cases k';exact oF k hH.r hpos hln 66 #[.map (some bm)] #[] hY (fun x=>((card (lkS lm (x:Int)):Nat):Int)) (fun w' e' x hx=>iA x w' (ay hx) (hH.m.ext (Ext.tr he e'))))) ?_
  refine en fun a w e' hf=>?_
  replace hH:=hH.ext e'
  replace Ho:=Ho.ext e'
  replace hD:=hD.ext e'
  refine tA hf rfl fun a hf=>aa ?_
  obtain⟨v7,⟨i,rfl,hi,hmin⟩,hf⟩:=hf.opn 7 rfl
  have hi1024:=ay hi
  have hwi:(Lit.int .i64 (i:Int)).wf=true:=bh (by omega) (by omega)
  have hnh:=uS hH.r hi hmin
  have htw:=tU ok hl1 hMn hi hnh
  have hlk:=hH.r.val i hi
  obtain⟨c,hc⟩:∃c:Int,c=((card (lkS lm (i:Int)):Nat):Int):=⟨_,rfl⟩
  have hctw:max mx c≤twG g:=by rw[← hlk,← hc] at htw;omega
  obtain⟨S,hS⟩:∃S,S=nh i:=⟨_,rfl⟩
  rw[← hS] at hlk
  replace hf:=hf.keep [4,5,6,7]
  refine seq <| rgN 5 hf <| st (mv rfl) <| st (ld1 (v:=.map (some bm)) bC rfl hH.p5 rfl) <| st (mv rfl) <| st (ar (A:=E (I c)) (B:=E (.map (some bm))) (C:=E (I (i:Nat))) hY rfl rfl (fun v u w he k k'=>by cases k;cases k';rw[hc];exact iA i w (ay hi) (hH.m.ext he))) ?_
  refine st (max2 rfl rfl) <| en fun a w e' hf=>?_
  replace hH:=hH.ext e'
  replace Ho:=Ho.ext e'
  replace hD:=hD.ext e'
  refine tA hf rfl fun a hf=>aa ?_
  replace hf:=hf.keep [4,5,6,7]
  obtain⟨Nr,hNr⟩:∃Nr,Nr=w.heap.size:=⟨_,rfl⟩
  have hNw:Nr≤w.heap.size:=Nat.le_of_eq hNr
  have hu:∀b,u.ownBlock=some b→b<Nr:=fun b hb=>by rw[hNr];exact (Ho.lt hb).2
  have hDr:∀d∈D,d<Nr:=fun d hd=>by rw[hNr];exact hD.lt hd
  have l4:b4<Nr∧bm<Nr∧W.heap.size≤Nr:=by rw[hNr];exact⟨hH.p5.lt,hH.m.lt,hH.e.size⟩
  refine seq <| ae <| tP hf (mv rfl) fun a w e' hf=>?_
  replace hH:=hH.ext e'
  replace Ho:=Ho.ext e'
  replace hNw:=Nat.le_trans hNw e'.size
  replace hD:=hD.ext e'
  refine tP hf (bK [(0,_),(1,_)] rfl (bCt _ _)) fun a w e' hf=>?_
  replace hH:=hH.ext e'
  replace Ho:=Ho.ext e'
  replace hNw:=Nat.le_trans hNw e'.size
  replace hD:=hD.ext e'
  refine tL ml hf fun a b8 w e' hb8 hs8 B8 hf=>?_
  have lo8_hNw:=Nat.le_trans hNw (Nat.le_of_eq hb8.symm)
  replace hH:=hH.ext e'
  replace Ho:=Ho.ext e'
  replace hNw:=Nat.le_trans hNw e'.size
  replace hD:=hD.ext e'
  have n8:Nr≤b8:=lo8_hNw
  replace hf:=hf.kp [4,5,6,7,8,27]
  refine az pg hf rfl rfl (by simp[Value.oneCell']) B8 rfl rfl fun w hg hsz B8 hf=>?_
  replace B8:Blk w b8 #[I (i:Nat),I (-1)] 132:=B8
  have gr0:∀(w w':World) (b:Nat) (f:Nat→BS) (lm:List (Int×BS)),OdM W b4 bm J f lm w→w.grownBy w' (some b)→Nr≤b→OdM W b4 bm J f lm w':=fun w w' b f lm hH hg hb=>hH.gro hg (fun c hc=>by cases hc;omega) hT0 (fun h=>by cases h;omega) (fun h=>by cases h;omega)
  replace hH:=gr0 _ _ _ _ _ hH hg n8
  replace Ho:=Ho.grE hg fun h=>by have:=hu _ h;omega
  replace hD:=hD.gr hg fun h=>by have:=hDr _ h;omega
  replace hNw:Nr≤w.heap.size:=by omega
  refine aa ?_
  replace hf:=hf.kp [4,5,6,7,8]
  have hdv:=cr hH.m
  repeat refine seq ?_
  refine ae <| tP hf (ld1 (v:=.map (some bm)) bC rfl hH.p5 rfl) fun a w e' hf=>?_
  replace hH:=hH.ext e'
  replace Ho:=Ho.ext e'
  replace hNw:=Nat.le_trans hNw e'.size
  replace hdv:=VA.st _ _ _ _ e' hdv
  replace hD:=hD.ext e'
  replace B8:=B8.ext e'
  refine tP hf (mv rfl) fun a w e' hf=>?_
  replace hH:=hH.ext e'
  replace Ho:=Ho.ext e'
  replace hNw:=Nat.le_trans hNw e'.size
  replace hdv:=VA.st _ _ _ _ e' hdv
  replace hD:=hD.ext e'
  replace B8:=B8.ext e'
  refine tP hf ((lkM (l:=lm) (i:=(i:Int)) bP cG (isE rfl hdv) rfl hwi).eq (congrArg ac hlk)) fun a w e' hf=>?_
  replace hH:=hH.ext e'
  replace Ho:=Ho.ext e'
  replace hNw:=Nat.le_trans hNw e'.size
  replace hdv:=VA.st _ _ _ _ e' hdv
  replace hD:=hD.ext e'
  replace B8:=B8.ext e'
  refine tL I68 hf fun a b9 w e' hb9 hs9 B9 hf=>?_
  have lo9_hNw:=Nat.le_trans hNw (Nat.le_of_eq hb9.symm)
  have lt9_B8:=B8.lt
  replace hH:=hH.ext e'
  replace Ho:=Ho.ext e'
  replace hNw:=Nat.le_trans hNw e'.size
  replace hdv:=VA.st _ _ _ _ e' hdv
  replace hD:=hD.ext e'
  replace B8:=B8.ext e'
  have n9:Nr≤b9∧b9≠b8:=by have:=lo9_hNw;have:=lt9_B8;omega
  refine az T68 hf rfl rfl (aP _) B9 rfl rfl fun w hg hsz B9 hf=>?_
  replace hH:=gr0 _ _ _ _ _ hH hg n9.1
  replace Ho:=Ho.grE hg fun h=>by have:=hu _ h;omega
  replace hD:=hD.gr hg fun h=>by have:=hDr _ h;omega
  replace B8:=B8.gr hg n9.2.symm
  replace hNw:Nr≤w.heap.size:=by omega
  refine aa ?_
  replace hf:=hf.kp [4,5,6,7,8,9]
  obtain⟨bb,hbb⟩:∃bb,(S==0)=bb:=⟨_,rfl⟩
  refine seq <| rgN 3 hf <| st ((ldW T68 rfl B9 rfl).eq ((rfl:_=ac S))) <| st (an (A:=E (B bb)) (B:=E (ac S)) fQ rfl (fun v w he h=>by cases h;have:=ga S w;rwa [hbb] at this)) ?_
  refine st (bA rfl) <| en fun a w e' hf=>?_
  replace hH:=hH.ext e'
  replace Ho:=Ho.ext e'
  replace hNw:=Nat.le_trans hNw e'.size
  replace hD:=hD.ext e'
  replace B8:=B8.ext e'
  replace B9:=B9.ext e'
  refine aa <| cut (J:=fun a w=>∃(nh':Nat→BS) (lm':List (Int×BS)) (D':List Nat) (dv:Int) (B':Nat→Nat→Prop),FrD 72 (bq D') a w [(4,E (ptr b4)),(5,E (I (max mx c))),(6,E u),(7,E (I (i:Nat))),(8,E (ptr b8))]∧OdM W b4 bm J nh' lm' w∧OwR edE 132 W.heap.size G0 w xs u∧Mnr (nbA g) (ah g.1) (del J (i:Int)) (awN nh' i) B'∧Ds D' w∧(∀d∈D',W.heap.size≤d)∧Blk w b8 #[I (i:Nat),I dv] 132) ?_ (fun a w hJ=>?_)
  ·refine ifc hf rfl (fun hcb=>?_) (fun hcb=>?_)
   ·have hS0:S≠0:=beq_eq_false_iff_ne.1 (by rw[hbb];revert hcb;cases bb <;> simp)
    replace hf:=hf.kp [4,5,6,7,8,9]
    refine seq <| rgG 6 Mix.mix hf <| st ((ldW T68 rfl B9 rfl).eq ((rfl:_=ac S))) <| st (an (A:=Dv (slE aj) G0 (cc (elems S))) (B:=E (ac S)) wF rfl (fun v w he h=>by cases h;exact a2b S w (hH.t.ext he))) ?_
    refine st (ld1 (v:=.map (some bm)) bC rfl hH.p5 rfl) <| st (oA rfl) <| st (ar (A:=iD S (fun x=>((card (lkS lm (x:Int)):Nat):Int))) (B:=Dv (slE aj) G0 (cc (elems S))) (C:=E (.func (.func 66) #[.map (some bm)] #[])) jW rfl rfl (fun v u w he k k'=>by cases k';exact a3R k hS0 66 #[.map (some bm)] #[] hY (fun x=>((card (lkS lm (x:Int)):Nat):Int)) (fun w' e' x hx=>iA x w' (ay hx) (hH.m.ext (Ext.tr he e'))))) ?_
    refine st (fA iS rfl T3 rfl) <| en fun a w e' hf=>?_
    replace hH:=hH.ext e'
    replace Ho:=Ho.ext e'
    replace hNw:=Nat.le_trans hNw e'.size
    replace hD:=hD.ext e'
    replace B8:=B8.ext e'
    replace B9:=B9.ext e'
    obtain⟨v38,⟨d,rfl,hd,_⟩,hf⟩:=hf.opn 38 rfl
    have hd':(nh i).getLsbD d=true:=by rw[← hS];exact hd
    have hdJ:J.getLsbD d=true:=(hH.s i d hi hd').1
    have hd1024:=ay hd
    have hwd:(Lit.int .i64 (d:Int)).wf=true:=bh (by omega) (by omega)
    replace hf:=hf.kp [4,5,6,7,8,9,38,39]
    refine aA T3 hf rfl rfl rfl B8 (show 1<2 by decide) fun w hg hsz B8 hf=>?_
    replace B8:Blk w b8 #[I (i:Nat),I (d:Nat)] 132:=B8
    replace hH:=gr0 _ _ _ _ _ hH hg n8
    replace Ho:=Ho.grE hg fun h=>by have:=hu _ h;omega
    replace hD:=hD.gr hg fun h=>by have:=hDr _ h;omega
    replace B9:=B9.gr hg n9.2
    replace hNw:Nr≤w.heap.size:=by omega
    refine aa ?_
    replace hf:=hf.kp [4,5,6,7,8,9]
    obtain⟨T,hT⟩:∃T,T=del S (d:Int):=⟨_,rfl⟩
    obtain⟨Nz,hNz⟩:∃Nz,Nz=w.heap.size:=⟨_,rfl⟩
    refine seq <| rgN 5 hf <| st ((ldW T68 rfl B9 rfl).eq ((rfl:_=ac S))) <| st (fA iS rfl T3 rfl) <| st (ld1 (v:=I (d:Nat)) T3 rfl B8 rfl) <| st (ar (A:=E (ac T)) (B:=E (ac S)) (C:=E (I (d:Nat))) fi rfl rfl (fun v u w he h h'=>by cases h;cases h';rw[hT];exact fq _ _ w)) ?_
    refine st (an (A:=bW Nz T) (B:=E (ac T)) cg rfl (fun v w' he h=>by cases h;exact Calls.mono (cm _ w') (fun en w2 ⟨u,h1,h2,b',h3,h4,h5⟩=>⟨u,h1,h2,b',by have:=he.size;omega,h4,h5⟩))) ?_
    refine en fun a w e' hf=>?_
    replace hH:=hH.ext e'
    replace Ho:=Ho.ext e'
    replace hD:=hD.ext e'
    replace B8:=B8.ext e'
    replace B9:=B9.ext e'
    refine aa ?_
    obtain⟨vv,⟨b44,h44,rfl,BT⟩,hf⟩:=hf.fix 44 rfl
    replace hf:=hf.kp [4,5,6,7,8,44]
    have hs:=hH.s
    have hC:CtW W b4 b8 bm i d J (ctS nh d []) xs u D lm w:=⟨hH.e,hH.t,hH.p5,B8,hH.m,hH.r.eq fun o _=>(a3P nh d o).symm,Ho,hD⟩
    obtain⟨Nq,hNq⟩:∃Nq,Nq=w.heap.size:=⟨_,rfl⟩
    have hq:CtN Nq b4 b8 bm u D:=by rw[hNq];exact⟨⟨hH.t.lt,hH.p5.lt,B8.lt,hH.m.lt⟩,fun b hb=>(Ho.lt hb).2,fun d hd=>hD.lt hd⟩
    have hNqw:Nq≤w.heap.size:=Nat.le_of_eq hNq
    have hWq:W.heap.size≤w.heap.size:=hH.e.size
    have hDm:=hD.neMp hH.m
    refine blk <| cC (S:=T) hf rfl BT (by decide) (fun s w1=>∃lm',CtW W b4 b8 bm i d J (ctS nh d s) xs u D lm' w1) (fun _ _=>False) (fun s w1 ⟨_,h⟩=>h.t)
     ⟨lm,hC⟩ (fun s w1 w2 ⟨lm',h⟩ hss k=>⟨lm',h.kp k hq hNqw hWq⟩) (fun _ _ _ h=>h.elim) ?_ ?_ (fun _ _ _ _ _ _ h=>h.elim)
    ·intro lb s x rest a1 w1 hs1 hJ hlw hf
     have hxT:T.getLsbD x=true:=(aH.1 (by rw[hs1];simp)).2
     rw[hT] at hxT
     obtain⟨hxS,hxd⟩:=(bu S hd1024).1 hxT
     have hx1024:x<1024:=ay hxS
     have hxJ:J.getLsbD x=true:=(hs i x hi (by rw[← hS];exact hxS)).1
     have hwx:(Lit.int .i64 (x:Int)).wf=true:=bh (by omega) (by omega)
     have hxs:x ∉ s:=by
      have hn:(elems T).Nodup:=List.Nodup.sublist List.filter_sublist List.nodup_range
      rw[hs1] at hn
      intro hx
      exact (List.nodup_append.1 hn).2.2 x hx x (by simp) rfl
     generalize hBz:w.heap.size=Bz at *
     refine ae <| tA hf rfl fun a hf=>aa <| ⟨Kh.rfl' _ _,fun w3 k3 hsz3=>?_⟩
     obtain⟨lm1,hJ⟩:=hJ
     have h:=hJ.kp k3 hq hNqw hWq
     replace hf:=hf.pure w3
     have kh:=Kh.rfl' Bz w3
     have hvx:lkS lm1 (x:Int)=nh x:=by rw[h.r.val x hxJ,ctS,if_neg hxd,if_neg hxs]
     have hln1:lm1.length≤1024:=h.r.len (by obtain⟨_,_,_,hp⟩:=h.m;exact hp.2)
     have hdv:=cr h.m
     replace hf:=hf.kp [4,8,10]
     refine blk <| seq <| rgG 8 Mix.mix hf <| st (ld1 (v:=.map (some bm)) bC rfl h.p4 rfl) <| st (mv rfl) <| st (ld1 (v:=.map (some bm)) bC rfl h.p4 rfl) <| st (mv rfl) <| st ((lkM (l:=lm1) (i:=(x:Int)) bP cG (isE rfl hdv) rfl hwx).eq (congrArg ac hvx)) <| st (fA iS rfl T3 rfl) <| st (ld1 (v:=I (d:Nat)) T3 rfl h.p8 rfl) <| st (ar (A:=E (ac (ins (nh x) (d:Int)))) (B:=E (ac (nh x))) (C:=E (I (d:Nat))) dr rfl rfl (fun v u w he k1 k2=>by cases k1;cases k2;exact du _ _ w)) ?_
     refine en fun a w e' hf=>?_
     replace h:=h.ext e'
     replace kh:=kh.tr (Kh.ext e')
     refine dc (V:=sKV) (i:=(x:Int)) (c:=ins (nh x) (d:Int)) bP hf rfl rfl rfl h.m (by simp only[maxLen];omega) hwx trivial fun w hg HM hf=>?_
     replace h:=h.put hg hWm h0m n4.1 (by omega) hDm HM (h.r.put hxJ (ins (nh x) (d:Int)))
     replace kh:=kh.tr (Kh.gr hg fun hh=>by have:=hh.1;have:=hq.lt;omega)
     refine aa ?_
     replace hf:=hf.kp [4,8,10]
     have hvd:lkS (bE lm1 (x:Int) (ins (nh x) (d:Int))) (d:Int)=aT (nh d) s:=by rw[h.r.val d hdJ,if_neg (Ne.symm hxd),ctS,if_pos rfl]
     generalize bE lm1 (x:Int) (ins (nh x) (d:Int))=lm2 at h hvd
     have hln2:lm2.length≤1024:=h.r.len (by obtain⟨_,_,_,hp⟩:=h.m;exact hp.2)
     have hdv:=cr h.m
     obtain⟨Q,hQ⟩:∃Q,Q=ins (aT (nh d) s) (x:Int):=⟨_,rfl⟩
     refine rgG 9 Mix.mix hf <| st (ld1 (v:=.map (some bm)) bC rfl h.p4 rfl) <| st (fA iS rfl T3 rfl) <| st (ld1 (v:=I (d:Nat)) T3 rfl h.p8 rfl) <| st (ld1 (v:=.map (some bm)) bC rfl h.p4 rfl) <| st (fA iS rfl T3 rfl) <| st (ld1 (v:=I (d:Nat)) T3 rfl h.p8 rfl) <| st ((lkM (l:=lm2) (i:=(d:Int)) bP cG (isE rfl hdv) rfl hwd).eq (congrArg ac hvd)) <| st (mv rfl) <| st (ar (A:=E (ac Q)) (B:=E (ac (aT (nh d) s))) (C:=E (I (x:Nat))) dr rfl rfl (fun v u w he k1 k2=>by cases k1;cases k2;rw[hQ];exact du _ _ w)) ?_
     refine en fun a w e' hf=>?_
     replace h:=h.ext e'
     replace kh:=kh.tr (Kh.ext e')
     refine dc (V:=sKV) (i:=(d:Int)) (c:=Q) bP hf rfl rfl rfl h.m (by simp only[maxLen];omega) hwd trivial fun w hg HM hf=>?_
     replace h:=h.put hg hWm h0m n4.1 (by omega) hDm HM (h.r.put hdJ Q)
     replace kh:=kh.tr (Kh.gr hg fun hh=>by have:=hh.1;have:=hq.lt;omega)
     refine aa ?_
     simp only[Exit.inBlock]
     refine⟨⟨_,⟨h.e,h.t,h.p4,h.p8,h.m,h.r.eq fun o _=>?_,h.o,h.dd⟩⟩,kh⟩
     show (if o=d then Q else if o=x then ins (nh x) (d:Int) else ctS nh d s o)=ctS nh d (s++[x]) o
     rw[ctS,ctS]
     by_cases hod:o=d
     ·rw[if_pos hod,if_pos hod,hQ,uK]
     ·rw[if_neg hod,if_neg hod,if_neg hod]
      by_cases hox:o=x
      ·rw[if_pos hox,if_pos (by rw[hox];simp),hox]
      ·rw[if_neg hox]
       by_cases hos:o∈s
       ·rw[if_pos hos,if_pos (List.mem_append_left _ hos)]
       ·rw[if_neg hos,if_neg fun hh=>(List.mem_append.1 hh).elim hos fun hh=>hox (List.mem_singleton.1 hh)]
    intro a' w' hf' hJ hsz hDn
    simp only[Exit.inBlock,↓reduceIte,Exit.then]
    obtain⟨lm1,h⟩:=hJ
    have hD2:Ds (w.heap.size::D) w':=h.dd.cons hDn fun hh=>by have:=hq.d _ hh;omega
    have hf:FrD 72 (bq (w.heap.size::D)) a' w' [(4,E (ptr b4)),(5,E (I (max mx c))),(6,E u),(7,E (I (i:Nat))),(8,E (ptr b8))]:=hf'.keep [4,5,6,7,8]
    refine⟨trivial,ctN nh i d,lm1,w.heap.size::D,(d:Int),_,hf,⟨h.e,h.t,h.p4,h.m,h.r.eq fun o _=>?_,hs.ct hi hd'⟩,h.o,a2r (gw ok) hMn hs hi hd',hD2,fun q hq=>(List.mem_cons.1 hq).elim (fun h=>by omega) (hDl q),h.p8⟩
    rw[hT,hS,a3Q hi hd']
   ·refine ak ?_
    replace hf:=hf.kp [4,5,6,7,8]
    exact⟨rfl,nh,lm,D,-1,Bq,hf,hH,Ho,tT hMn hH.s hi,hD,hDl,B8⟩
  obtain⟨nh',lm',D',dv,B',hf,hH,Ho,hMn,hD,hDl',B8⟩:=hJ
  have h8m:b8≠bm:=by omega
  refine seq <| rgN 2 hf <| st (ld1 (v:=.map (some bm)) bC rfl hH.p5 rfl) <| st (mv rfl) <| en fun a w e' hf=>?_
  replace hH:=hH.ext e'
  replace Ho:=Ho.ext e'
  replace hD:=hD.ext e'
  replace B8:=B8.ext e'
  refine bU (S:=fun b=>b=bm) (F:=fun z w'=>z=.tuple #[]∧∃l',MpR sKV w' bm l'.length l'∧NrM l' (del J (i:Int)) (awN nh' i)) hf (by decide) mu ?_ fun a z w hc hF hf=>?_
  ·have e1:a.eval (.tmp 63)=.map (some bm):=hf.opd (.tmp 63) _ rfl
   have e2:a.eval (.tmp 64)=I (i:Nat):=hf.opd (.tmp 64) _ rfl
   simp only[List.map_toArray,List.map_cons,List.map_nil,e1,e2]
   exact (ot i J _ _ hH.t hH.m hH.r hH.s hi h0m).mono fun en w' ⟨k1,k2,k3⟩=>⟨_,k1,k2,rfl,k3⟩
  obtain⟨rfl,l3,HM3,hM3⟩:=hF
  have hnm:=Ho.neMp hH.m
  have hDm:=hD.neMp hH.m
  replace Ho:=Ho.chE hc fun b hb h=>hnm (by rw[hb,show b=bm from h])
  replace hD:=hD.ch hc fun d hd h=>hDm (by rw[← show d=bm from h];exact hd)
  replace B8:=B8.ch hc h8m
  replace hH:=hH.ch hc hWm h0m n4.1 HM3 hM3 (hH.s.aw hi)
  refine aa ?_
  have hcd:=gR hi
  replace hf:=hf.kp [4,5,6,8]
  refine rgN 3 hf <| st (mv rfl) <| st (ldW pg rfl B8 rfl) <| st (bB (e:=edE) (z:=((i:Int),dv)) (G:=GO G0 u) U93 ml rfl (by decide) rfl Ho.avs (uN (n:=((i:Int),dv)) rfl)) <| en fun a w e' hf=>?_
  replace hH:=hH.ext e'
  replace Ho:=Ho.ext e'
  replace hD:=hD.ext e'
  replace B8:=B8.ext e'
  replace hf:=hf.kp [4,5,66,68]
  have hn4:=Ho.neB hH.p5 (by decide)
  have hnm:=Ho.neMp hH.m
  have hnD:∀d∈D',u.ownBlock≠some d:=fun d hd h=>Ho.neDs hD hd h
  have hlo':=fun b hb=>(Ho.lt (b:=b) hb).1
  refine bI U93 ml rfl rfl hf (by decide) rfl Ho (isR rfl) (by simp only[List.length_singleton];omega) (by simp only[List.length_singleton,maxLen];omega) fun a u2 w hg hat Hn hf=>?_
  replace hH:=hH.gro hg hlo' hT0 hn4 hnm
  replace hD:=hD.groE hg hnD
  refine tA hf rfl fun a hf=>aa ?_
  replace hf:=hf.kp [4,5,6]
  exact⟨card (del J (i:Int)),by omega,del J (i:Int),_,_,_,u2,_,_,D',rfl,by rw[List.length_append,List.length_singleton];omega,hf,hH,Hn,hctw,hMn,hD,hDl'⟩
 ·have hz:=hpos
  refine rgN 3 hf <| st (ld1 (v:=.map (some bm)) bC rfl hH.p5 rfl) <| st (eU bP (isE rfl hdv)) <| st ((gtr rfl rfl).eq (congrArg Value.bool ((decide_eq_false (by omega):_=false)))) <| en fun a w e' hf=>?_
  replace hH:=hH.ext e'
  replace hD:=hD.ext e'
  refine aa <| ifc hf rfl (fun h=>by cases h) (fun _=>aG ?_)
  replace hf:=hf.kp [5,6]
  refine seq <| rgN 2 hf <| st (mv rfl) <| st (mv rfl) <| en fun a w e' hf=>?_
  replace hH:=hH.ext e'
  replace hD:=hD.ext e'
  refine tA hf rfl fun a hf=>tA hf rfl fun a hf=>aa <| ai <| oG rfl hf rfl rfl hD ⟨_,rfl,hH.e.shut hDl,mx,_,rfl,hmx⟩
def dh:VA:=⟨fun v _=>∃i:Int,v=I i,fun _ _ _ _ h=>h⟩
def co (xss:List (List Int)):VA:=⟨fun v w=>∃L∈xss,(Dv (slE aj) G0 L).p v w,fun _ _ _ e ⟨L,h1,h2⟩=>⟨L,h1,VA.st _ _ _ _ e h2⟩⟩
section
variable {P:Program}{w0:World}{L:Env}{dst:Option Tmp}{ty:TypeId}{pos:String}{aft:Array Edge}{g:Option (Nat×Bool)}{t:TypeId}{x y z:Operand}
theorem a3T {n:Int}(hx:opd L x=some (E (I n))):OpC P w0 L ⟨dst,.unOp .neg t x,ty,pos,aft,g⟩ dh:=
 aM fun ρ w _ hv=>by
  have h1:=opE hv (x:=x) (by simp[Op.operands]) hx
  have e2:(Op.unary .neg (I n))=pure (Value.int .i64 (IntKind.i64.wrap (0 - n))):=rfl
  refine⟨_,?_,IntKind.i64.wrap (0 - n),rfl⟩
  simp only[execOp,h1,e2,Sem.run_bind,Sem.run_pure,Result.andThen_ok]
theorem a3U {tys:Array TypeId}{a b c:Int}(hx:opd L x=some (E (I a)))(hy:opd L y=some (E (I b)))(hz:opd L z=some (E (I c))) :
  OpC P w0 L ⟨dst,.call ⟨.builtin .max,#[x,y,z],tys⟩,ty,pos,aft,g⟩ (E (I (max (max a b) c))):=
 aM fun ρ w _ hv=>by
  have h1:=opE hv (x:=x) (by simp[Op.operands,Call.operands]) hx
  have h2:=opE hv (x:=y) (by simp[Op.operands,Call.operands]) hy
  have h3:=opE hv (x:=z) (by simp[Op.operands,Call.operands]) hz
  refine⟨_,?_,rfl⟩
  have e:∀a b:Int,(if b > a then b else a)=max a b:=fun a b=>by rw[Int.max_def];split <;> split <;> omega
  simp[execOp,resolve,invoke,builtin,h1,h2,h3,Builtin.max_,Builtin.max2,e]
end
theorem a3V {G:Nat→Prop}(x0:List Int)(r:List (List Int))(hl:r.length≤100000)(v:Value)(W:World)(h:(Dv (slE (slE aj)) G (x0::r)).p v W)(cid:FuncId)(caps:Array Value)(hen:Proofs.Enters Tryz.prog cid)
  (hp:∀w',Ext W w'→∀x y,(co (x0::r)).p x w'→(co (x0::r)).p y w'→Calls Tryz.prog cid (#[x,y]++caps) w' (Post dh w')) :
  Calls Tryz.prog 117 #[v,.func (.func cid) #[] caps] W (Post (co (x0::r)) W):=by
 have hv:(Dv (slE (slE aj)) G0 (x0::r)).p v W:=Dv.weak h fun b _ hb=>hb.elim
 refine eN [v,.func (.func cid) #[] caps] [E v,E (.func (.func cid) #[] caps)] Tryz.func117 Tryz.ntmps117 ?_ fun a hf=>?_
 rotate_left
 rotate_right
 ·exact arg2 rfl rfl
 have e:=Ext.rfl' W
 refine seq <| ae <| tA hf rfl fun a hf=>aa ?_
 have hlen:(x0::r).length=r.length+1:=rfl
 repeat refine seq ?_
 refine rgN 3 hf <| st (mv rfl) <| st (aF dQ (isE rfl (VA.st _ _ _ _ e hv))) <| st ((lss rfl rfl).eq (congrArg Value.bool ((decide_eq_false (by rw[hlen];omega):_=false)))) ?_
 refine en fun a w e' hf=>?_
 replace e:=e.tr e'
 refine aa <| ifc hf rfl (fun h=>by cases h) (fun _=>?_)
 refine ak ?_
 have hx0:(x0::r)[0]?=some x0:=rfl
 refine seq <| rgN 3 hf <| st (mv rfl) <| st (aL (j:=0) dQ S31 (isE rfl (VA.st _ _ _ _ e hv)) rfl rfl hx0) <| st (ldD T31 (isR rfl)) <| en fun a w e' hf=>?_
 replace e:=e.tr e'
 refine tA hf rfl fun a hf=>aa ?_
 repeat refine seq ?_
 refine ae <| tA hf rfl fun a hf=>aa ?_
 replace hf:=hf.keep [0,1,5,6]
 replace hf:=hf.upd 5 rfl (B:=co (x0::r)) (fun v h=>⟨x0,List.mem_cons_self ..,h⟩)
 replace hf:=hf.upd 6 rfl (B:=E (I (((0:Nat):Int)+1))) (fun v h=>by rw[show (((0:Nat):Int)+1)=1 from rfl];exact h)
 replace hf:=hf.keep [0,1,5,6]
 refine blk (aJ (fun q0 a w=>∃k:Nat,k≤r.length∧r.length≤q0+k∧Fr 33 a w [(0,E v),(1,E (.func (.func cid) #[] caps)),(5,co (x0::r)),(6,E (I ((k:Int)+1)))]∧Ext W w) r.length ⟨0,Nat.zero_le _,by omega,hf,e⟩ ?_)
 rintro q0 a w ⟨k,hk,hq,hf,e⟩
 repeat refine seq ?_
 by_cases hkl:k<r.length
 ·have hg:=List.getElem?_eq_getElem hkl
  generalize r[k]=x at hg
  have hg2:(x0::r)[k+1]?=some x:=by rw[List.getElem?_cons_succ];exact hg
  have hxm:x∈x0::r:=List.mem_cons_of_mem _ (List.mem_of_getElem? hg)
  replace hf:=hf.upd 6 rfl (B:=E (I ((k+1:Nat):Int))) fun v h=>h
  refine rgN 4 hf <| st (mv rfl) <| st (mv rfl) <| st (aF dQ (isE rfl (VA.st _ _ _ _ e hv))) <| st ((lss rfl rfl).eq (congrArg Value.bool ((decide_eq_true (by rw[hlen];omega):_=true)))) ?_
  refine en fun a w e' hf=>?_
  replace e:=e.tr e'
  refine aa <| ifc hf rfl (fun _=>ak ?_) (fun h=>by cases h)
  refine seq <| blk ?_
  replace hf:=hf.keep [0,1,5,6]
  have e0:=e
  refine seq <| rgN 7 hf <| st (mv rfl) <| st (mv rfl) <| st (mv rfl) <| st (aL dQ S31 (isE rfl (VA.st _ _ _ _ e hv)) rfl (by omega) (hg2)) <| st (ldD T31 (isR rfl)) <| st (mv rfl) <| st (ke (A:=dh) (B:=Dv (slE aj) G0 x) (C:=co (x0::r)) hen rfl rfl rfl (fun v u w' he h h'=>hp w' (Ext.tr e0 he) v u ⟨x,hxm,h⟩ h')) <| en fun a w e' hf=>?_
  replace e:=e.tr e'
  obtain⟨zv,⟨z,rfl⟩,hf⟩:=hf.opn 26 rfl
  refine tP hf (lss rfl rfl) fun a w e' hf=>?_
  replace e:=e.tr e'
  refine aa <| ifc hf rfl (fun hb=>?_) (fun hb=>?_)
  ·replace hf:=hf.keep [0,1,5,6]
   refine rgN 4 hf <| st (mv rfl) <| st (mv rfl) <| st (aL dQ S31 (isE rfl (VA.st _ _ _ _ e hv)) rfl (by omega) (hg2)) <| st (ldD T31 (isR rfl)) <| en fun a w e' hf=>?_
   replace e:=e.tr e'
   refine tA hf rfl fun a hf=>aa ?_
   replace hf:=hf.keep [0,1,5,6]
   replace hf:=hf.upd 5 rfl (B:=co (x0::r)) (fun v h=>⟨x,hxm,h⟩)
   replace hf:=hf.keep [0,1,5,6]
   refine rgN 2 hf <| st (mv rfl) <| st (add rfl rfl (by omega)) <| en fun a w e' hf=>?_
   replace e:=e.tr e'
   refine tA hf rfl fun a hf=>aa <| ⟨q0 - 1,by omega,k+1,by omega,by omega,?_,e⟩
   exact (hf.upd 6 rfl (B:=E (I (((k+1:Nat):Int)+1))) (fun v h=>h)).keep [0,1,5,6]
  ·refine ak ?_
   replace hf:=hf.keep [0,1,5,6]
   refine rgN 2 hf <| st (mv rfl) <| st (add rfl rfl (by omega)) <| en fun a w e' hf=>?_
   replace e:=e.tr e'
   refine tA hf rfl fun a hf=>aa <| ⟨q0 - 1,by omega,k+1,by omega,by omega,?_,e⟩
   exact (hf.upd 6 rfl (B:=E (I (((k+1:Nat):Int)+1))) (fun v h=>h)).keep [0,1,5,6]
 ·have hke:k=r.length:=by omega
  rw[hke] at hf
  replace hf:=hf.upd 6 rfl (B:=E (I ((r.length+1:Nat):Int))) fun v h=>h
  refine rgN 4 hf <| st (mv rfl) <| st (mv rfl) <| st (aF dQ (isE rfl (VA.st _ _ _ _ e hv))) <| st ((lss rfl rfl).eq (congrArg Value.bool ((decide_eq_false (by rw[hlen];omega):_=false)))) ?_
  refine en fun a w e' hf=>?_
  replace e:=e.tr e'
  refine aa <| ifc hf rfl (fun h=>by cases h) (fun _=>aG ?_)
  replace hf:=hf.keep [5]
  refine seq <| rgN 1 hf <| st (mv rfl) <| en fun a w e' hf=>?_
  replace e:=e.tr e'
  refine tA hf rfl fun a hf=>aa <| ai <| ap rfl hf rfl ?_
  intro v hv
  exact⟨_,rfl,e,hv⟩
theorem a3W (v u:Value)(w:World)(h:dh.p v w)(h':dh.p u w):Calls Tryz.prog 92 #[v,u] w (Post dh w):=by
 obtain⟨i,rfl⟩:=h
 obtain⟨j,rfl⟩:=h'
 exact (uu i j w).mono fun en w' ⟨u,k1,k2,k3⟩=>⟨u,k1,k2,_,k3⟩
theorem a3X (xss:List (List Int))(x y:Value)(b:Nat)(fid:FuncId)(fst caps:Array Value)(hen:Proofs.Enters Tryz.prog fid)(W:World)(hB:Blk W b #[.func (.func fid) fst caps] 138)(hx:(co xss).p x W)(hy:(co xss).p y W)(hp:∀w',Ext W w'→∀z,(co xss).p z w'→Calls Tryz.prog fid (fst ++ #[z]++caps) w' (Post dh w')) :
  Calls Tryz.prog 118 #[x,y,ptr b] W (Post dh W):=by
 refine eN [x,y,ptr b] [co xss,co xss,E (ptr b)] Tryz.func118 Tryz.ntmps118 ?_ fun a hf=>?_
 rotate_left
 rotate_right
 ·exact dS hx hy rfl
 have e:=Ext.rfl' W
 refine seq <| ae <| tA hf rfl fun a hf=>aa ?_
 have e0:=e
 refine seq <| rgG 7 Mix.mix hf <| st (ld1 (v:=.func (.func fid) fst caps) pj rfl hB rfl) <| st (mv rfl) <| st (lA (A:=dh) (B:=co xss) hen rfl rfl (fun v w he h=>hp w (Ext.tr e0 he) v h)) <| st (ld1 (v:=.func (.func fid) fst caps) pj rfl hB rfl) <| st (mv rfl) <| st (lA (A:=dh) (B:=co xss) hen rfl rfl (fun v w he h=>hp w (Ext.tr e0 he) v h)) <| st (ar (A:=dh) (B:=dh) (C:=dh) En92 rfl rfl (fun v u w he h h'=>a3W v u w h h')) <| en fun a w e' hf=>?_
 obtain⟨hB,e⟩:=up2 e' hB e
 refine tA hf rfl fun a hf=>aa <| ai <| ap rfl hf rfl ?_
 intro v hv
 exact⟨_,rfl,e,hv⟩
theorem a3Y {G:Nat→Prop}(x0:List Int)(r:List (List Int))(hl:r.length≤100000)(v:Value)(W:World)(h:(Dv (slE (slE aj)) G (x0::r)).p v W)(fid:FuncId)(fst caps:Array Value)(hen:Proofs.Enters Tryz.prog fid)(hp:∀w',Ext W w'→∀z,(co (x0::r)).p z w'→Calls Tryz.prog fid (fst ++ #[z]++caps) w' (Post dh w')) :
  Calls Tryz.prog 83 #[v,.func (.func fid) fst caps] W (Post (co (x0::r)) W):=by
 have hv:(Dv (slE (slE aj)) G0 (x0::r)).p v W:=Dv.weak h fun b _ hb=>hb.elim
 refine eN [v,.func (.func fid) fst caps] [E v,E (.func (.func fid) fst caps)] Tryz.func83 Tryz.ntmps83 ?_ fun a hf=>?_
 rotate_left
 rotate_right
 ·exact arg2 rfl rfl
 have e:=Ext.rfl' W
 refine seq <| ae <| tB hf rfl fun a b3 w v3 hv3 e' hb3 hs3 B3 hf=>?_
 replace e:=e.tr e'
 refine tA hf rfl fun a hf=>aa ?_
 cases hv3
 replace B3:Blk w b3 #[.func (.func fid) fst caps] 138:=B3
 have e0:=e
 have hB:=B3
 refine seq <| rgN 3 hf <| st (mv rfl) <| st (dM rfl) <| st (ar (A:=co (x0::r)) (B:=E v) (C:=E (.func (.func 118) #[] #[ptr b3])) xg rfl rfl (fun v u w he k k'=>by cases k;cases k';exact a3V x0 r hl _ w (VA.st _ _ _ _ (Ext.tr e0 he) hv) 118 #[ptr b3] xh (fun w' he' x y hx hy=>a3X (x0::r) x y b3 fid fst caps hen w' (hB.ext (Ext.tr he he')) hx hy (fun w'' h'' z hz=>hp w'' (Ext.tr (Ext.tr (Ext.tr e0 he) he') h'') z hz)))) ?_
 refine en fun a w e' hf=>?_
 obtain⟨e,B3⟩:=up2 e' e B3
 refine tA hf rfl fun a hf=>aa <| ai <| ap rfl hf rfl ?_
 intro v hv
 exact⟨_,rfl,e,hv⟩
theorem a3Z (xss:List (List Int))(v:Value)(W:World)(h:(co xss).p v W):Calls Tryz.prog 84 #[v] W (Post dh W):=by
 obtain⟨L,hL,hv⟩:=h
 refine eN [v] [Dv (slE aj) G0 L] Tryz.func84 Tryz.ntmps84 ?_ fun a hf=>?_
 rotate_left
 rotate_right
 ·exact arg1 hv
 have e:=Ext.rfl' W
 refine seq <| ae <| tA hf rfl fun a hf=>aa <| seq <| rgN 3 hf <| st (mv rfl) <| st (aF U31 (isR rfl)) <| st (a3T rfl) <| en fun a w e' hf=>?_
 replace e:=e.tr e'
 refine tA hf rfl fun a hf=>aa <| ai <| ap rfl hf rfl ?_
 intro v hv
 exact⟨_,rfl,e,hv⟩
end Go.Mono
namespace Go.Mono
open Go Go.Proofs Go.RowKit
def vlV (bs:Nat):Value:=.func (.func 116) #[] #[ptr bs]
def VlA (xs:List Int)(N:Nat):VA:=⟨fun v w=>∃bs sv,v=vlV bs∧N≤bs∧Blk w bs #[sv] 31∧(Dv (slE aj) G0 xs).p sv w,fun _ _ _ e ⟨bs,sv,h1,h2,h3,h4⟩=>⟨bs,sv,h1,h2,h3.ext e,VA.st _ _ _ _ e h4⟩⟩
theorem a4a (xs:List Int)(sv:Value)(W:World)(h:(Dv (slE aj) G0 xs).p sv W):Calls Tryz.prog 82 #[sv] W (Post (VlA xs W.heap.size) W):=by
 have h1:sv.cells = #[sv]:=by
  obtain⟨ao,n,c,rfl⟩:=Dv.slF h
  rfl
 refine eN [sv] [E sv] Tryz.func82 Tryz.ntmps82 ?_ fun a hf=>?_
 rotate_left
 rotate_right
 ·exact arg1 rfl
 have e:=Ext.rfl' W
 refine seq <| ae <| tB hf rfl fun a b1 w v1 hv1 e' hb1 hs1 B1 hf=>?_
 replace e:=e.tr e'
 refine tA hf rfl fun a hf=>aa ?_
 cases hv1
 rw[h1] at B1
 refine seq <| rgN 1 hf <| st (dM rfl) <| en fun a w e' hf=>?_
 obtain⟨e,B1⟩:=up2 e' e B1
 refine tA hf rfl fun a hf=>aa <| ai <| ap rfl hf rfl ?_
 rintro _ rfl
 exact⟨_,rfl,e,⟨b1,_,rfl,by omega,B1,VA.st _ _ _ _ e h⟩⟩
theorem a4b (xs:List Int)(sv:Value)(l bs:Nat)(W:World)(I:Nat→World→Prop)(hl:xs.length≤100000)
  (hS:∀k w,I k w→(Dv (slE aj) G0 xs).p sv w∧Blk w bs #[sv] 31) (h0:I 0 W)
  (hI:∀(k:Nat) (w w':World),I k w→Ext w w'→I k w')
  (hy:∀(k:Nat) (x:Int) (w:World),k<xs.length→xs[k]?=some x→I k w→∃fn tmps assign body,(Instr.yield l #[Mono.I x]).run Tryz.prog w=.ok (.round l fn tmps assign body) w ∧
   RoundIn Fence.wide 0 Tryz.prog l fn tmps assign body w (fun e w2=>∃u,e=.returned u∧u=.bool true∧I (k+1) w2)) :
  Calls Tryz.prog 116 #[.func (.yield l) #[] #[],ptr bs] W (fun e w'=>e=.returned (.tuple #[])∧I xs.length w'):=by
 refine eN [.func (.yield l) #[] #[],ptr bs] [E (.func (.yield l) #[] #[]),E (ptr bs)] Tryz.func116 Tryz.ntmps116 ?_ fun a hf=>?_
 rotate_left
 rotate_right
 ·exact arg2 rfl rfl
 obtain⟨HD,HB⟩:=hS _ _ h0
 obtain⟨n,hn⟩:∃n,n=xs.length:=⟨_,rfl⟩
 refine seq <| rgN 3 hf <| st (ld1 (v:=sv) T31 rfl HB rfl) <| st (aF U31 (isE rfl HD)) <| st (mv rfl) <| en fun a w e' hf=>?_
 replace h0:=hI _ _ _ h0 e'
 refine aa ?_
 rw[← hn] at hf
 replace hf:=hf.upd 7 rfl (B:=E (Mono.I ((0:Nat):Int))) fun v h=>h
 replace hf:=hf.keep [0,5,6,7]
 refine blk (aJ (fun r0 a w=>∃k:Nat,r0+k=n∧Fr 16 a w [(0,E (.func (.yield l) #[] #[])),(5,E sv),(6,E (Mono.I (n:Nat))),(7,E (Mono.I (k:Nat)))]∧I k w) n ⟨0,Nat.add_zero _,hf,h0⟩ ?_)
 rintro r0 a w ⟨k,hr0,hf,h0⟩
 obtain⟨HD,HB⟩:=hS _ _ h0
 by_cases hk:k=n
 ·subst hk
  refine seq <| rgN 1 hf <| st ((lss rfl rfl).eq (congrArg Value.bool ((decide_eq_false (by omega):_=false)))) <| en fun a w e' hf=>?_
  replace h0:=hI _ _ _ h0 e'
  replace HD:=VA.st _ _ _ _ e' HD
  refine aa <| seq <| ifc hf rfl (fun h=>by cases h) (fun _=>aG ?_)
  simp only[Exit.then,Exit.inBlock,↓reduceIte]
  exact dG rfl hf ⟨rfl,by rw[← hn];exact h0⟩
 ·refine seq <| rgN 1 hf <| st ((lss rfl rfl).eq (congrArg Value.bool ((decide_eq_true (by omega):_=true)))) <| en fun a w e' hf=>?_
  replace h0:=hI _ _ _ h0 e'
  replace HD:=VA.st _ _ _ _ e' HD
  refine aa <| seq <| ifc hf rfl (fun _=>ak ?_) (fun h=>by cases h)
  refine seq <| blk ?_
  have hj:k<xs.length:=by omega
  have hx:=List.getElem?_eq_getElem hj
  generalize xs[k]=x at hx
  refine seq <| rgN 2 hf <| st (aL (j:=k) U31 S3 (isE rfl HD) rfl (by omega) hx) <| st (ldI T3 (isR rfl)) <| en fun a w e' hf=>?_
  replace h0:=hI _ _ _ h0 e'
  replace HD:=VA.st _ _ _ _ e' HD
  refine tA hf rfl fun a hf=>aa ?_
  replace hf:=hf.keep [0,4,5,6,7]
  refine seq <| rgN 2 hf <| st (mv rfl) <| st (mv rfl) <| en fun a w e' hf=>?_
  replace h0:=hI _ _ _ h0 e'
  replace HD:=VA.st _ _ _ _ e' HD
  replace hf:=hf.kp [0,5,6,7,11,12]
  refine qY hf rfl rfl (R:=fun u w2=>u=.bool true∧I (k+1) w2) (hy k x w hj hx h0) fun u w2 hu=>?_
  obtain⟨rfl,k0⟩:=hu
  replace hf:=(hf.pure w2).put (d:=some 13) (Ext.rfl' _) (by rintro _ ⟨⟩;decide) (A:=E (.bool true)) rfl
  have h0:=k0
  refine tP hf (bA rfl) fun a w e' hf=>?_
  replace h0:=hI _ _ _ h0 e'
  refine aa <| ifc hf rfl (fun h=>by cases h) (fun _=>ak ?_)
  replace hf:=hf.keep [0,5,6,7]
  refine rgN 1 hf <| st ((add rfl rfl (by omega)).eq (congrArg (Value.int .i64) (show ((k:Nat):Int)+1=((k+1:Nat):Int) from rfl))) <| en fun a w e' hf=>?_
  replace h0:=hI _ _ _ h0 e'
  refine tP hf (mv rfl) fun a w e' hf=>?_
  replace h0:=hI _ _ _ h0 e'
  refine aa ?_
  replace hf:=hf.keep [0,5,6,7]
  exact⟨r0 - 1,by omega,k+1,by omega,hf,h0⟩
section
variable {g:Operand}{p0:Nat}{assign body:Code}{Q:Exit→Act→World→Prop}{n bs:Nat}{ds:List Deferred}{a:Act}{w:World}{L:Env}
theorem a4c [dm L]{xs:List Int}{sv:Value}(hf:FrD n ds a w L)(hx:opd L g=some (E (vlV bs)))(hp0:p0<n)(hl:xs.length≤100000)
  (J:Nat→World→Prop) (hS:∀k w1,J k w1→(Dv (slE aj) G0 xs).p sv w1∧Blk w1 bs #[sv] 31) (h0:J 0 w)
  (hJ:∀k w1 w2,J k w1→w.heap.size≤w1.heap.size→Kp w.heap.size w1 w2→J k w2)
  (hbody:∀(l k:Nat) (x:Int) (a1:Act) (w1:World),k<xs.length→xs[k]?=some x→J k w1→w.heap.size+2≤w1.heap.size→FrD n [] a1 w1 ((p0,E (I x))::L) →
   assign.wpIn (FW (some l)) 0 Tryz.prog (Exit.then (fun a2 w2=>Kh w.heap.size w1 w2∧∀w3,Kp w.heap.size w2 w3→w3.heap.size=w2.heap.size→(∃r0,w3.heap[l]?=some (.loop r0))→aS w.heap.size l→body.wpIn (FW (some l)) 0 Tryz.prog (fun ex _ w4=>ex=.normal∧J (k+1) w4∧Kh w.heap.size w3 w4) a2 w3) (fun _ _ _=>False)) a1 w1)
  (hdone:∀a' w',FrD n ({ target:=.collected w.heap.size,args := #[] }::ds) a' w' L→J xs.length w'→w.heap.size≤w'.heap.size→w'.heap[w.heap.size]?=some (.deferred (some []))→Q .normal a' w') :
  (Code.rangeFunc g #[p0] assign body).wpIn (FW none) 0 Tryz.prog Q a w:=by
 have hxv:a.eval g=vlV bs:=hf.opd g _ hx
 refine wpIn_rangeFunc fun fn _=>?_
 obtain⟨df,hdf⟩:∃df,df=w.heap.size:=⟨_,rfl⟩
 obtain⟨l,hl'⟩:∃l,l=w.heap.size+1:=⟨_,rfl⟩
 obtain⟨mark,hmark⟩:∃mark:List Deferred,mark=[{ target:=.collected w.heap.size,args := #[] }]:=⟨_,rfl⟩
 obtain⟨W1,hrun,hlw,he,hsz,hd⟩:∃W1,(Instr.enterLoop fn a.tmps #[p0] assign body none).run Tryz.prog w=.ok (l,mark) W1∧W1.heap[l]?=some (.loop { state:=.ready,pending:=none,fn,tmps:=a.tmps,params := #[p0],assign,body,defers:=df })∧Ext w W1 ∧
   W1.heap.size=w.heap.size+2∧W1.heap[df]?=some (.deferred (some [])):=by
  refine⟨_,by rw[hl',hmark];exact run_enterLoop_outer fn a.tmps #[p0] assign body,?_,?_,by simp,?_⟩
  ·have:=World.alloc_heap_new (w.alloc (.deferred (some []))) (.loop { state:=.ready,pending:=none,fn,tmps:=a.tmps,params := #[p0],assign,body,defers:=w.heap.size })
   rw[World.size_alloc] at this
   rw[hl',hdf];exact this
  ·exact Ext.tr (cV w _) (cV _ _)
  ·rw[hdf,Below.heap_alloc _ _ _ (by simp)]
   exact World.alloc_heap_new w _
 have hlt:l<W1.heap.size:=(Array.getElem?_eq_some_iff.1 hlw).1
 have hres:(resolve a.eval (rangeCall g l) 0).run Tryz.prog W1=.ok { target:=.fn (.func 116) #[ptr bs],args := #[.func (.yield l) #[] #[]] } W1:=by
  have hev:a.eval (.const (.func (.yield l) #[] #[]))=.func (.yield l) #[] #[]:=rfl
  simp[resolve,hxv,hev,vlV,Deferred.ofValue]
 refine⟨l,mark,W1,_,W1,116,#[.func (.yield l) #[] #[],ptr bs],W1,hrun,hres,fun _ _=>trivial,?_,fun hd=>(by simp[FW] at hd),?_⟩
 ·exact xf _ W1
 generalize hrec:({ state:=.ready,pending:=none,fn,tmps:=a.tmps,params := #[p0],assign,body,defers:=df }:Loop)=rec0 at hlw
 have hhole:aS w.heap.size l:=⟨by omega,by omega⟩
 have hholed:aS w.heap.size df:=⟨by omega,by omega⟩
 have hdl:df≠l:=by omega
 refine lY none ((a4b xs sv l bs W1
  (fun k w1=>J k w1∧W1.heap.size≤w1.heap.size∧w1.heap[l]?=some (.loop rec0)∧w1.heap[df]?=some (.deferred (some []))) hl (fun k w1 h=>hS k w1 h.1) ⟨hJ 0 w W1 h0 (Nat.le_refl _) (Kp.ext he),Nat.le_refl _,hlw,hd⟩ ?_ ?_).mono ?_)
 ·rintro k w1 w2 ⟨j1,j2,j3,j4⟩ e2
  exact⟨hJ k w1 w2 j1 (by omega) (Kp.ext e2),Nat.le_trans j2 e2.size,(e2.block l (by omega)).trans j3,(e2.block df (by omega)).trans j4⟩
 ·rintro k x w1 hk hx ⟨j1,j2,j3,j4⟩
  have hy:=run_yield (P:=Tryz.prog) (args := #[I x]) j3 (by subst hrec;rfl)
  have htm:(rec0.params.zip #[I x]).foldl (fun tmps (t,a)=>tmps.setIfInBounds t a) rec0.tmps=a.tmps.setIfInBounds p0 (I x):=by
   subst hrec;simp
  have hfn:rec0.assign=assign∧rec0.body=body∧rec0.fn=fn∧rec0.state=.ready:=by subst hrec;exact⟨rfl,rfl,rfl,rfl⟩
  rw[htm,hfn.1,hfn.2.1] at hy
  refine⟨_,_,_,_,hy,?_⟩
  have hf0:FrD n [] { tmps:=a.tmps,defers:=[] } w1 L:=⟨hf.size,rfl,fun t A ht=>dm.pu t A ht _ _ _ (hf.val t A ht)⟩
  have hf2:FrD n [] { tmps:=a.tmps.setIfInBounds p0 (I x),defers:=[] } w1 ((p0,E (I x))::L):=
   hf0.put (d:=some p0) (v:=I x) (A:=E (I x)) (Ext.rfl' _) (fun k hk=>by cases hk;exact hp0) rfl
  refine roundIn_of_wpIn (F:=Fence.wide) (n:=0) trivial <| wpIn_mono (hbody l k x _ w1 hk hx j1 (by omega) hf2) fun e2 a2 w2 hq=>?_
  cases e2 with
  | normal=>
   obtain⟨kh,hb2⟩:=hq
   have j3':w2.heap[l]?=some (.loop rec0):=(kh.same l (by omega) hhole).trans j3
   have hl2:l<w2.heap.size:=(Array.getElem?_eq_some_iff.1 j3').1
   refine⟨_,run_beginRound j3' hfn.2.2.2,?_⟩
   refine wpIn_mono (hb2 (w2.putObj l (.loop { rec0 with state:=.busy })) (Kp.put hhole) (by simp) ⟨_,World.putObj_heap_same hl2⟩ hhole) fun e3 a3 w3 hq3=>?_
   obtain⟨rfl,q1,q2⟩:=hq3
   have rec3:w3.heap[l]?=some (.loop { rec0 with state:=.busy }):=(q2.same l (by simpa using hl2) hhole).trans (World.putObj_heap_same hl2)
   have size3:w1.heap.size≤w3.heap.size:=by
    have h1:=q2.size
    have h2:=kh.size
    simp at h1
    omega
   have d3:∀o,(w3.putObj l o).heap[df]?=some (.deferred (some [])):=fun o=>by
    have hdlt:df<w1.heap.size:=(Array.getElem?_eq_some_iff.1 j4).1
    have hk2:=kh.size
    rw[World.putObj_heap_other hdl,q2.same df (by simp;omega) hholed,World.putObj_heap_other hdl,kh.same df hdlt hholed]
    exact j4
   refine⟨_,_,run_endRound none rec3,_,rfl,rfl,hJ _ _ _ q1 (by omega) (Kp.put hhole),?_,?_,d3 _⟩
   ·simp;omega
   ·rw[World.putObj_heap_same (Array.getElem?_eq_some_iff.1 rec3).1]
    subst hrec
    rfl
  | _=>exact hq.elim
 ·rintro e w2 ⟨rfl,j1,j2,j3,j4⟩
  refine⟨none,w2.putObj l (.loop { rec0 with state:=.exhausted }),?_,?_⟩
  ·have:=run_endLoop (P:=Tryz.prog) j3 (by subst hrec;simp)
   subst hrec
   exact this
  ·have h1:FrD n (mark++ds) { a with defers:=mark++a.defers } (w2.putObj l (.loop { rec0 with state:=.exhausted })) L:=⟨hf.size,by simp[hf.defers],fun t A ht=>dm.pu t A ht _ _ _ (hf.val t A ht)⟩
   rw[hmark] at h1 ⊢
   refine hdone _ _ h1 (hJ _ _ _ j1 (by omega) (Kp.put hhole)) (by simp;omega) ?_
   rw[World.putObj_heap_other (by omega),← hdf]
   exact j4
end
end Go.Mono
namespace Go.Mono
open Go Go.Proofs Go.RowKit
structure AvJ (W:World)(N b2 bs B:Nat)(sv:Value)(xs:List Int)(k:Nat)(w:World):Prop where
 e:Ext W w
 t:Tab w
 s:(Dv (slE aj) (fun b=>W.heap.size≤b) xs).p sv w
 pb:Blk w bs #[sv] 31
 p:∃u,Blk w b2 #[u] 31∧OwR aj 3 N G0 w (xs.take k) u∧∀g,u.ownBlock=some g→¬aS B g
theorem AvJ.kp {W:World}{N b2 bs B:Nat}{sv:Value}{xs:List Int}{k:Nat}{w w':World}(h:AvJ W N b2 bs B sv xs k w)(kk:Kp B w w')(hW:W.heap.size≤B)(h0:0<B)(l2:b2<B)(ls:bs<B):AvJ W N b2 bs B sv xs k w':=by
 obtain⟨u,q1,q2,q3⟩:=h.p
 exact⟨h.e.kp kk hW,h.t.kp kk h0,Dv.ch h.s kk.chg fun b hb=>Nat.le_trans hW hb.1,h.pb.kp kk (fun hh=>by have:=hh.1;omega),⟨u,q1.kp kk (fun hh=>by have:=hh.1;omega),q2.chE kk.chg q3,q3⟩⟩
theorem a4d (xs:List Int)(sv:Value)(bs:Nat)(W:World)(hT:Tab W)(hs:(Dv (slE aj) G0 xs).p sv W)(hb:Blk W bs #[sv] 31)(hl:xs.length≤100000) :
  Calls Tryz.prog 156 #[.slice none 0 0,vlV bs] W (Post (OwA aj 3 W.heap.size G0 xs) W):=by
 have hT0:=hT.lt
 have lbs:=hb.lt
 replace hs:(Dv (slE aj) (fun b=>W.heap.size≤b) xs).p sv W:=Dv.weak hs fun b hb hh=>absurd (show W.heap.size≤b from hh) (by omega)
 refine cq (args:=[.slice none 0 0,vlV bs]) (As:=[E (.slice none 0 0),E (vlV bs)]) Tryz.func156 rfl Tryz.ntmps156 (Nat.le_of_ble_eq_true rfl) ?_ (fun a hf=>?_) (Nat.le_of_ble_eq_true rfl)
 ·exact arg2 rfl rfl
 dsimp only[params,Nat.reduceAdd] at hf
 have e:=Ext.rfl' W
 refine seq <| ae <| tB hf rfl fun a b2 w v2 hv2 e' hb2 hs2 B2 hf=>?_
 have hle2:=Nat.le_trans e.size (Nat.le_of_eq hb2.symm)
 obtain⟨hT,hs,e,hb⟩:=up4 e' hT hs e hb
 refine tA hf rfl fun a hf=>aa ?_
 cases hv2
 replace B2:Blk w b2 #[.slice none 0 0] 31:=B2
 replace hf:=hf.keep [1,2]
 repeat refine seq ?_
 refine rgN 1 hf <| st (mv rfl) <| en fun a w e' hf=>?_
 obtain⟨hT,hs,e,hb,B2⟩:=up5 e' hT hs e hb B2
 refine aa ?_
 replace hf:=hf.kp [2,6]
 have n2:W.heap.size≤b2:=hle2
 have hBW:W.heap.size≤w.heap.size:=e.size
 have h0w:0<w.heap.size:=hT.lt
 have l2:=B2.lt
 obtain⟨N,hN⟩:∃N,N=w.heap.size:=⟨_,rfl⟩
 have hNs:N≤w.heap.size:=Nat.le_of_eq hN
 have l2N:b2<N:=by omega
 have hWN:W.heap.size≤N:=by omega
 have lbw:bs<w.heap.size:=by omega
 have n2s:b2≠bs:=by omega
 refine blk <| a4c (xs:=xs) (sv:=sv) hf rfl (by decide) hl (fun k w1=>AvJ W N b2 bs w.heap.size sv xs k w1) (fun k w1 h=>⟨Dv.weak h.s fun b _ hb=>hb.elim,h.pb⟩)
  ⟨e,hT,hs,hb,⟨_,B2,OwR.nil aj _ hNs (fun b hb=>hb.elim),fun g hg=>by cases hg⟩⟩ (fun k w1 w2 h hs kk=>h.kp kk hBW h0w l2 lbw) ?_ ?_
 ·intro lp k x a1 w1 hk hx hJ hlw hf
  generalize hBz:w.heap.size=Bz at *
  refine ae <| tA hf rfl fun a hf=>aa <| ⟨Kh.rfl' _ _,fun w3 k3 hsz3 _ _=>?_⟩
  have hJ3:=hJ.kp k3 hBW h0w l2 lbw
  have hw3:Bz+2≤w3.heap.size:=by omega
  replace hf:=hf.pure w3
  obtain⟨e,hT,hs,hb,⟨u,B2,Ho,lH⟩⟩:=hJ3
  have kh:=Kh.rfl' Bz w3
  have hown5:∀b,u.ownBlock=some b→b<w3.heap.size:=fun b hb=>(Ho.lt hb).2
  obtain⟨G5,hG5⟩:∃G5:Nat→Prop,G5=fun b=>b<w3.heap.size:=⟨_,rfl⟩
  replace hf:=hf.keep [2,5]
  refine blk ?_
  have hln:(xs.take k).length≤100000:=Nat.le_trans (List.length_take_le' _ _) hl
  refine rgN 3 hf <| st (ld1 (v:=u) T31 rfl B2 rfl) <| st (mv rfl) <| st (bB (e:=aj) (z:=x) (G:=G5) U31 I3 rfl (by decide) rfl (by rw[hG5];exact fun b h=>h) (isI rfl)) ?_
  refine en fun a w e' hf=>?_
  obtain⟨hT,hs⟩:=up2 e' hT hs
  replace kh:=kh.tr (Kh.ext e')
  obtain⟨e,B2,Ho,hb⟩:=up4 e' e B2 Ho hb
  obtain⟨pv,hpv,hf⟩:=hf.opn 10 rfl
  have hw6:Bz+3≤w.heap.size:=by
   rcases Dv.sl.1 hpv with ⟨_,h⟩|⟨ad,_,_,_,_,h1,h2,_⟩
   ·cases h
   ·rw[hG5] at h1
    omega
  have hpv':(Dv (slE aj) (GO G0 u) [x]).p pv w:=Dv.weak hpv fun b _ hb=>by
   rw[hG5]
   exact hb.elim (fun h=>h.elim) fun h=>hown5 b h
  replace hf:=hf.kp [2,8,10]
  have hrow:∀b,u.ownBlock=some b→N≤b:=fun b hb=>(Ho.lt hb).1
  have hnb:=Ho.neB hb (by decide)
  have htk:=cB hx
  refine bI U31 I3 rfl rfl hf (by decide) rfl Ho (isE rfl hpv') (by rw[List.length_singleton];omega) (by rw[List.length_singleton];simp only[maxLen];omega) fun a u' w hg hat Hn hf=>?_
  replace B2:=B2.gro hg (Ho.neB B2 (by decide))
  replace hb:=hb.gro hg hnb
  replace e:=e.gro hg (fun b hb=>by have:=hrow b hb;omega)
  replace hT:=hT.gro hg (fun b hb=>by have:=hrow b hb;omega)
  replace hs:=Dv.grN hs hg fun b hb=>by have:=hrow b hb;show W.heap.size≤b;omega
  replace kh:=kh.tr (Kh.gro hg lH)
  have lH':∀g,u'.ownBlock=some g→¬aS Bz g:=fun g hgg=>hat.elim (fun h=>lH g (by rw[← h];exact hgg)) fun h hh=>by
   rw[h] at hgg;cases hgg
   have:=hh.2;omega
  have z2:u'.ownBlock≠some b2:=Hn.neB B2 (by decide)
  have hone:=Hn.one
  replace hf:=hf.kp [2,11]
  refine aA T31 hf rfl rfl hone B2 Nat.zero_lt_one fun w hg hsz B2 hf=>?_
  replace B2:Blk w b2 #[u'] 31:=B2
  obtain⟨e,hT⟩:=gr2 hg e hT
  replace hb:=hb.gr hg n2s.symm
  replace hs:=Dv.grN hs hg fun b hb=>by cases hb;exact n2
  replace kh:=kh.tr (Kh.gr hg (fun hh=>by have:=hh.1;omega))
  replace Hn:=Hn.grE hg z2
  refine aa ?_
  simp only[Exit.inBlock]
  exact⟨trivial,⟨e,hT,hs,hb,⟨u',B2,by rw[htk];exact Hn,lH'⟩⟩,kh⟩
 ·intro a' w' hf' hJ hsz hDn
  simp only[Exit.inBlock,↓reduceIte,Exit.then]
  have hD:Ds [w.heap.size] w':=(Ds.nil w').cons hDn (by simp)
  have hf:FrD 13 (bq [w.heap.size]) a' w' [(2,E (ptr b2))]:=hf'.keep [2]
  have hDW:∀d∈[w.heap.size],W.heap.size≤d:=fun d hd=>by rw[List.mem_singleton] at hd;omega
  obtain⟨e,hT,hs,hb,⟨u,B2,Ho,_⟩⟩:=hJ
  rw[List.take_length] at Ho
  generalize [w.heap.size]=D2 at *
  generalize w'=w at *
  refine seq <| rgN 1 hf <| st (ld1 (v:=u) T31 rfl B2 rfl) <| en fun a w e' hf=>?_
  obtain⟨e,B2,hD,Ho⟩:=up4 e' e B2 hD Ho
  refine tA hf rfl fun a hf=>aa <| ai <| gf rfl hf rfl hD ⟨_,rfl,e.shut hDW,?_⟩
  exact (Ho.chE (eb D2 w) fun b hb hm=>Ho.neDs hD hm hb).low hWN fun b hb=>hb.elim
theorem a4e (xs:List Int)(N:Nat)(v:Value)(W:World)(hT:Tab W)(hv:(VlA xs N).p v W)(hl:xs.length≤100000) :
  Calls Tryz.prog 114 #[v] W (Post (OwA aj 3 W.heap.size G0 xs) W):=by
 obtain⟨bs,sv,rfl,_,hb,hs⟩:=hv
 obtain⟨Nw,hNw⟩:∃Nw,Nw=W.heap.size:=⟨_,rfl⟩
 rw[← hNw]
 refine eN [vlV bs] [E (vlV bs)] Tryz.func114 Tryz.ntmps114 ?_ fun a hf=>?_
 rotate_left
 rotate_right
 ·exact arg1 rfl
 have e:=Ext.rfl' W
 refine seq <| ae <| tA hf rfl fun a hf=>aa ?_
 have e0:=e
 refine seq <| rgN 2 hf <| st (mv rfl) <| st (ar (A:=OwA aj 3 Nw G0 xs) pR rfl rfl (fun v u w he k1 k2=>by cases k1;cases k2;exact (a4d xs sv bs w (hT.ext he) (VA.st _ _ _ _ he hs) (hb.ext he) hl).mono fun en w' ⟨u,k1,k2,k3⟩=>⟨u,k1,k2,OwR.low k3 (by rw[hNw];exact (Ext.tr e0 he).size) fun b hb=>hb.elim⟩)) ?_
 refine en fun a w e' hf=>?_
 obtain⟨hT,hs,e,hb⟩:=up4 e' hT hs e hb
 refine tA hf rfl fun a hf=>aa <| ai <| ap rfl hf rfl ?_
 intro v hv
 exact⟨_,rfl,e,hv⟩
open Go.Shelf Go.Sort in
theorem a4f {B:Nat}{w:World}{xs:List Int}{v:Value}(Ho:OwR aj 3 B G0 w xs v)(hl:xs.length≤100000) :
  Calls Tryz.prog 115 #[v] w fun en w'=>en=.returned (.tuple #[])∧Chg (fun b=>v.ownBlock=some b) w w'∧∃ys:List Int,ys.length=xs.length∧OwR aj 3 B G0 w' ys v:=by
 obtain⟨cs,h1,h2⟩:=Ho.own
 have hcs:=tH h2
 rcases h1.2 with ⟨rfl,hx⟩|⟨gb,cap,cur,rfl,hbase,hgb,r1,r2,r3,r4⟩
 ·refine (AnyM.slices_Sort_int_none Tryz.sortN none 0 w).mono ?_
  rintro en w' ⟨rfl,rfl⟩
  exact⟨rfl,Chg.rfl' _ _,xs,rfl,Ho⟩
 ·have hgl:gb<w.heap.size:=(Array.getElem?_eq_some_iff.1 hgb).1
  have ht:cur.toList.take xs.length=xs.map encZ:=by
   rw[hcs,show aj.k=1 from rfl,Nat.mul_one] at r4
   exact r4
  have hH:Holds encZ w gb 0 xs.toArray:=holds_of_block_i hgb ht
  refine (AnyM.slices_Sort_int Tryz.sortN gb 0 cap xs w hH hgl (by omega)).mono ?_
  rintro en w' ⟨rfl,nn,os,rfl⟩
  have hml:(xs.mergeSort fun x y=>decide (x≤y)).length=xs.length:=List.length_mergeSort _
  have hgr:=grownBy_sorted_i (w:=w) (g:=gb) (n:=nn) (os:=os) (xs.mergeSort fun x y=>decide (x≤y)).toArray
  have hown:=ownsRow_sorted_i (n:=nn) (os:=os) hml hbase hgb r1 r2 r3
  refine⟨rfl,?_,_,hml,⟨⟨_,by rw[hml];exact hown,nZ _⟩,fun b hb=>hb.elim,Nat.le_trans Ho.base hgr.size⟩⟩
  exact⟨hgr.os,hgr.tape,hgr.output,hgr.size,fun b hb hn=>hgr.block b hb fun h=>hn h.symm⟩
def a4g (n:Nat):VA:=⟨fun v w=>∃ys:List Int,ys.length=n∧(Dv (slE aj) G0 ys).p v w,fun _ _ _ e ⟨ys,h1,h2⟩=>⟨ys,h1,VA.st _ _ _ _ e h2⟩⟩
theorem a4h (xs:List Int)(N:Nat)(v:Value)(W:World)(hT:Tab W)(hv:(VlA xs N).p v W)(hl:xs.length≤100000) :
  Calls Tryz.prog 81 #[v] W (Post (a4g xs.length) W):=by
 obtain⟨Nw,hNw⟩:∃Nw,Nw=W.heap.size:=⟨_,rfl⟩
 refine eN [v] [E v] Tryz.func81 Tryz.ntmps81 ?_ fun a hf=>?_
 rotate_left
 rotate_right
 ·exact arg1 rfl
 have e:=Ext.rfl' W
 refine seq <| ae <| tA hf rfl fun a hf=>aa ?_
 have e0:=e
 refine seq <| rgN 2 hf <| st (mv rfl) <| st (an (A:=OwA aj 3 Nw G0 xs) (B:=E v) pL rfl (fun u w he k1=>by cases k1;exact (a4e xs N _ w (hT.ext (Ext.tr e0 he)) (VA.st _ _ _ _ (Ext.tr e0 he) hv) hl).mono fun en w' ⟨u,k1,k2,k3⟩=>⟨u,k1,k2,OwR.low k3 (by rw[hNw];exact (Ext.tr e0 he).size) fun b hb=>hb.elim⟩)) ?_
 refine en fun a w e' hf=>?_
 replace e:=e.tr e'
 refine tA hf rfl fun a hf=>aa ?_
 obtain⟨u,Ho,hf⟩:=hf.opn 3 rfl
 replace Ho:OwR aj 3 Nw G0 w xs u:=Ho
 replace hf:=hf.kp [3]
 refine seq <| rgN 1 hf <| st (mv rfl) <| en fun a w e' hf=>?_
 obtain⟨Ho,e⟩:=up2 e' Ho e
 refine bU (S:=fun b=>u.ownBlock=some b) (F:=fun z w'=>z=.tuple #[]∧∃ys:List Int,ys.length=xs.length∧OwR aj 3 Nw G0 w' ys u) hf (by decide) xd ?_ fun a z w hc hF hf=>?_
 ·have e1:a.eval (.tmp 6)=u:=hf.opd (.tmp 6) _ rfl
  simp only[List.map_toArray,List.map_cons,List.map_nil,e1]
  exact (a4f Ho hl).mono fun en w' ⟨k1,k2,k3⟩=>⟨_,k1,k2,rfl,k3⟩
 obtain⟨rfl,ys,hys,Ho2⟩:=hF
 replace e:=e.ch hc fun b hb=>by rw[← hNw];exact (Ho.lt hb).1
 refine aa ?_
 replace hf:=hf.keep [3]
 refine seq <| rgN 1 hf <| st (mv rfl) <| en fun a w e' hf=>?_
 obtain⟨Ho2,e⟩:=up2 e' Ho2 e
 refine tA hf rfl fun a hf=>aa <| ai <| ap rfl hf rfl ?_
 rintro _ rfl
 exact⟨_,rfl,e,ys,hys,Ho2.sl⟩
end Go.Mono
namespace Go.Mono
open Go Go.Proofs Go.RowKit Go.Gr
def GcA (g:GT):VA:=⟨fun v w=>∃ys:List Int,ys.length≤1026∧((ys.length:Nat):Int)≤twG g+1∧(Dv (slE aj) G0 ys).p v w,fun _ _ _ e ⟨ys,h1,h2,h3⟩=>⟨ys,h1,h2,VA.st _ _ _ _ e h3⟩⟩
def VlX (xss:List (List Int)):VA:=⟨fun v w=>∃L∈xss,(VlA L 0).p v w,fun _ _ _ e ⟨L,h1,h2⟩=>⟨L,h1,VA.st _ _ _ _ e h2⟩⟩
theorem uT (nb:Int→BS):∀(k:Nat) (may:BS),(clG nb k may).length≤k
 | 0,may=>Nat.le_refl _
 | k+1,may=>by
  cases h:bj may with
  | none=>rw[ou nb k h];exact Nat.zero_le _
  | some o=>rw[ow nb k h,List.length_cons];have:=uT nb k (may &&& nb (o:Int));omega
theorem a4i (xss:List (List Int))(v:Value)(W:World)(h:(co xss).p v W):Calls Tryz.prog 82 #[v] W (Post (VlX xss) W):=by
 obtain⟨L,hL,hv⟩:=h
 exact (a4a L v W hv).mono fun en w' ⟨u,k1,k2,bs,sv,k3,k4,k5,k6⟩=>⟨u,k1,k2,L,hL,bs,sv,k3,Nat.zero_le _,k5,k6⟩
theorem a4j {G:Nat→Prop}{N:Nat}(g:GT)(ok:Gr.Ok g)(v:Value)(W:World)(hT:Tab W)(h:(Dv (ptE (grE N)) G (some g)).p v W)(hl0:0<g.1.length)(hl1:g.1.length≤12)(hl2:g.2.length≤100000)(hN:N≤1000000) :
  Calls Tryz.prog 38 #[v] W (Post (GcA g) W):=by
 have hT0:=hT.lt
 have hir:∀o:Nat,¬(nbA g (o:Int)).getLsbD o=true:=fun a h=>(((eB ok).1 h).inn ok).2.2 rfl
 refine eN [v] [E v] Tryz.func38 Tryz.ntmps38 ?_ fun a hf=>?_
 rotate_left
 rotate_right
 ·exact arg1 rfl
 have e:=Ext.rfl' W
 refine seq <| ae <| tA hf rfl fun a hf=>aa ?_
 replace hf:=hf.keep [0]
 have e0:=e
 refine seq <| rgN 2 hf <| st (mv rfl) <| st (an (A:=OwM W.heap.size (elems (ah g.1)).length (nbL g (elems (ah g.1)))) (B:=E v) jV rfl (fun u w' he k=>by cases k;exact (kL g v w' (hT.ext he) (VA.st _ _ _ _ (Ext.tr e0 he) h) ok.sv ok.se (by omega) hl2 hN).mono fun en w2 ⟨u,k1,k2,bm,k3,k4,k5⟩=>⟨u,k1,k2,bm,k3,Nat.le_trans (Ext.tr e0 he).size k4,k5⟩)) ?_
 refine en fun a w e' hf=>?_
 obtain⟨hT,e⟩:=up2 e' hT e
 refine tA hf rfl fun a hf=>aa ?_
 obtain⟨mv,⟨bm,rfl,hbm,HM⟩,hf⟩:=hf.opn 3 rfl
 obtain⟨lm,hlm⟩:∃lm,lm=nbL g (elems (ah g.1)):=⟨_,rfl⟩
 have hM:=ll ok
 have hlk:lkS lm=nbA g:=by rw[hlm];rfl
 rw[← hlm] at hM
 have hml:lm.length=(elems (ah g.1)).length:=by rw[hlm,nbL,List.length_map]
 rw[← hlm] at HM
 replace HM:=HM.tight0
 have hel:(elems (ah g.1)).length=g.1.length:=(eA _).trans (tO ok)
 have hpos:0<lm.length:=by omega
 have hln:lm.length≤1024:=by omega
 have hdv:=cr HM
 replace hf:=hf.keep [3]
 repeat refine seq ?_
 refine rgN 3 hf <| st (mv rfl) <| st (eU bP (isE rfl hdv)) <| st ((eql rfl rfl).eq (congrArg Value.bool ((beq_false_of_ne (by omega):(((lm.length:Nat):Int)==0)=false)))) <| en fun a w e' hf=>?_
 obtain⟨hT,HM,e⟩:=up3 e' hT HM e
 refine aa <| ifc hf rfl (fun h=>by cases h) (fun _=>?_)
 refine ak ?_
 replace hf:=hf.keep [3]
 refine seq <| ae <| tA hf rfl fun a hf=>aa ?_
 replace hf:=hf.keep [3,4]
 repeat refine seq ?_
 refine rgN 2 hf <| st (mv rfl) <| st (an (A:=cK 0 lm) (B:=E (.map (some bm))) jX rfl (fun v w he h=>by cases h;exact (lC w (HM.ext he) hln).mono fun en w' ⟨u,k1,k2,k3⟩=>⟨u,k1,k2,cK.low k3⟩)) ?_
 refine en fun a w e' hf=>?_
 obtain⟨hT,HM,e⟩:=up3 e' hT HM e
 obtain⟨lv,⟨ss,hp1,Hl⟩,hf⟩:=hf.opn 13 rfl
 have hps:(ss.mergeSort fun x y=>decide (x≤y)).Perm (lm.map fun p:Int×BS=>p.1):=(List.mergeSort_perm ss _).trans hp1
 replace Hl:OwR aj 3 0 G0 w (ss.mergeSort fun x y=>decide (x≤y)) lv:=Hl
 generalize ss.mergeSort (fun x y=>decide (x≤y))=ls at hps Hl
 have hmem:∀x:Int,x∈ls→∃i:Nat,x=(i:Int)∧(ah g.1).getLsbD i=true:=fun x hx=>by
  rw[hps.mem_iff,List.mem_map] at hx
  obtain⟨p,hp,rfl⟩:=hx
  exact (hM.key p.1).1 ⟨p.2,hp⟩
 obtain⟨n,hn⟩:∃n,n=ls.length:=⟨_,rfl⟩
 have hnl:n=lm.length:=by rw[hn,hps.length_eq,List.length_map]
 obtain⟨N1,hN1⟩:∃N1,N1=w.heap.size:=⟨_,rfl⟩
 have hlv:(Dv (slE aj) (fun b=>N1≤b) ls).p lv w:=Dv.weak Hl.sl fun b hb hh=>absurd (show N1≤b from hh) (by omega)
 have hW1:W.heap.size≤N1:=by rw[hN1];exact e.size
 have lm1:bm<N1:=by rw[hN1];exact HM.lt
 have hN1w:N1≤w.heap.size:=Nat.le_of_eq hN1
 replace hf:=hf.keep [3,4,13]
 refine tP hf (aF U31 (isE rfl hlv)) fun a w e' hf=>?_
 obtain⟨hT,HM,hlv,hN1w,e⟩:=up5 e' hT HM hlv hN1w e
 refine tP hf (mv rfl) fun a w e' hf=>?_
 obtain⟨hT,HM,hlv,hN1w,e⟩:=up5 e' hT HM hlv hN1w e
 refine aa ?_
 rw[← hn] at hf
 replace hf:=hf.upd 15 rfl (B:=E (I ((0:Nat):Int))) fun v h=>h
 replace hf:=hf.keep [3,4,13,14,15]
 have Ho:OwR (slE aj) 31 N1 G0 w [] (.slice none 0 0):=OwR.nil (slE aj) _ hN1w fun b hb=>hb.elim
 refine blk (aJ (fun r0 a w=>∃(k:Nat) (xss:List (List Int)) (u:Value),r0+k=n∧xss.length=k∧(∀L∈xss,L.length≤1026∧((L.length:Nat):Int)≤twG g+1)∧Fr 30 a w [(3,E (.map (some bm))),(4,E u),(13,E lv),(14,E (I (n:Nat))),(15,E (I (k:Nat)))]∧Ext W w∧Tab w∧MpR sKV w bm lm.length lm∧(Dv (slE aj) (fun b=>N1≤b) ls).p lv w∧OwR (slE aj) 31 N1 G0 w xss u) n ⟨0,[],_,Nat.add_zero _,rfl,fun L hL=>(by cases hL),hf,e,hT,HM,hlv,Ho⟩ ?_)
 rintro r0 a w ⟨k,xss,u,hr0,hxl,hbd,hf,e,hT,HM,hlv,Ho⟩
 refine seq ?_
 by_cases hk:k<n
 ·have hx:=List.getElem?_eq_getElem (show k<ls.length by omega)
  generalize ls[k]=x at hx
  obtain⟨i,rfl,hi⟩:=hmem x (List.mem_of_getElem? hx)
  have hi1024:=ay hi
  obtain⟨L,hL⟩:∃L,L=aD (i::clG (lkS lm) 1025 (lkS lm (i:Int))):=⟨_,rfl⟩
  have hLl:L.length≤1026:=by
   rw[hL,aD,List.length_map,List.length_cons]
   have:=uT (lkS lm) 1025 (lkS lm (i:Int))
   omega
  have hLt:((L.length:Nat):Int)≤twG g+1:=by
   rw[hL,aD,List.length_map,hlk]
   exact a2T ok hl1 hi 1025
  refine rgN 1 hf <| st ((lss rfl rfl).eq (congrArg Value.bool ((decide_eq_true (by omega):_=true)))) <| en fun a w e' hf=>?_
  obtain⟨hT,HM,hlv,Ho,e⟩:=up5 e' hT HM hlv Ho e
  refine aa <| seq <| ifc hf rfl (fun _=>ak ?_) (fun h=>by cases h)
  refine seq <| blk <| seq <| rgN 2 hf <| st (aL (j:=k) U31 S3 (isE rfl hlv) rfl (by omega) hx) <| st (ldI T3 (isR rfl)) <| en fun a w e' hf=>?_
  obtain⟨hT,HM,hlv,Ho,e⟩:=up5 e' hT HM hlv Ho e
  refine tA hf rfl fun a hf=>aa ?_
  replace hf:=hf.kp [3,4,6,13,14,15]
  obtain⟨Nk,hNk⟩:∃Nk,Nk=w.heap.size:=⟨_,rfl⟩
  have hNkw:Nk≤w.heap.size:=Nat.le_of_eq hNk
  have hou:∀b,u.ownBlock=some b→b<Nk:=fun b hb=>by rw[hNk];exact (Ho.lt hb).2
  obtain⟨Gk,hGk⟩:∃Gk:Nat→Prop,Gk=fun b=>b<Nk:=⟨_,rfl⟩
  refine rgN 5 hf <| st (mv rfl) <| st (mv rfl) <| st (mv rfl) <| st (ar (A:=Dv (slE aj) Gk L) (B:=E (.map (some bm))) (C:=E (I (i:Nat))) wG rfl rfl (fun v u w he k k'=>by cases k;cases k';rw[hL];exact (a2U i w (hT.ext he) hi1024 (HM.ext he) (by rw[hlk];exact hir)).mono fun en w' ⟨u,k1,k2,k3⟩=>⟨u,k1,k2,Dv.ownSl (OwR.own' k3 fun b hb hh=>by have:=(OwR.lt k3 hb).1;have:=he.size;rw[hGk] at hh;omega)⟩)) ?_
  refine st (bB (e:=slE aj) (z:=L) (G:=Gk) dQ I31 rfl (by decide) rfl (by rw[hGk];exact fun b h=>Nat.lt_of_lt_of_le h hNkw) (isR rfl)) ?_
  refine en fun a w e' hf=>?_
  obtain⟨hT,HM,hlv,Ho,hNkw,e⟩:=up6 e' hT HM hlv Ho hNkw e
  obtain⟨pv,hpv,hf⟩:=hf.opn 23 rfl
  have hpv':(Dv (slE (slE aj)) (GO G0 u) [L]).p pv w:=Dv.weak hpv fun b _ hb=>by
   rw[hGk]
   exact hb.elim (fun h=>h.elim) fun h=>hou b h
  replace hf:=hf.kp [3,13,14,15,19,23]
  have hlo:∀b,u.ownBlock=some b→N1≤b:=fun b hb=>(Ho.lt hb).1
  have hnm:u.ownBlock≠some bm:=fun h=>by have:=hlo _ h;omega
  refine bI dQ I31 rfl rfl hf (by decide) rfl Ho (isE rfl hpv') (by simp only[List.length_singleton];omega) (by simp only[List.length_singleton,maxLen];omega) fun a u2 w hg hat Hn hf=>?_
  replace e:=e.gro hg fun b hb=>by have:=hlo b hb;omega
  replace hT:=hT.gro hg fun b hb=>by have:=hlo b hb;omega
  replace HM:=HM.pres (hg.block _ HM.lt fun e=>hnm e.symm)
  replace hlv:=Dv.grN hlv hg fun b hb=>hlo b hb
  refine tA hf rfl fun a hf=>aa ?_
  replace hf:=hf.keep [3,4,13,14,15]
  refine rgN 1 hf <| st ((add rfl rfl (by omega)).eq (congrArg (Value.int .i64) (show ((k:Nat):Int)+1=((k+1:Nat):Int) from rfl))) <| en fun a w e' hf=>?_
  obtain⟨hT,HM,hlv,Hn,e⟩:=up5 e' hT HM hlv Hn e
  refine tP hf (mv rfl) fun a w e' hf=>?_
  obtain⟨hT,HM,hlv,Hn,e⟩:=up5 e' hT HM hlv Hn e
  refine aa ?_
  replace hf:=hf.keep [3,4,13,14,15]
  refine⟨r0 - 1,by omega,k+1,xss++[L],u2,by omega,by rw[List.length_append,List.length_singleton];omega,fun M hM=>?_,hf,e,hT,HM,hlv,Hn⟩
  rcases List.mem_append.1 hM with hM|hM
  ·exact hbd M hM
  ·rw[List.mem_singleton.1 hM];exact⟨hLl,hLt⟩
 ·have hke:k=n:=by omega
  refine rgN 1 hf <| st ((lss rfl rfl).eq (congrArg Value.bool ((decide_eq_false (by omega):_=false)))) <| en fun a w e' hf=>?_
  obtain⟨hT,Ho,e⟩:=up3 e' hT Ho e
  refine aa <| seq <| ifc hf rfl (fun h=>by cases h) (fun _=>aG ?_)
  replace hf:=hf.keep [4]
  obtain⟨x0,r,rfl⟩:=List.exists_cons_of_ne_nil (show xss≠[] from fun h=>by rw[h] at hxl;simp at hxl;omega)
  have hos:=Ho.sl
  have e0:=e
  refine seq <| rgN 4 hf <| st (mv rfl) <| st (ar (A:=co (x0::r)) (B:=E u) (C:=E (.func (.func 84) #[] #[])) wI rfl rfl (fun v w' w he k k'=>by cases k;cases k';exact a3Y x0 r (by simp at hxl;omega) _ w (VA.st _ _ _ _ he hos) 84 #[] #[] wJ (fun w' e' z hz=>a3Z _ z w' hz))) ?_
  refine st (an (A:=VlX (x0::r)) (B:=co (x0::r)) wH rfl (fun v w he k=>a4i _ v w k)) <| st (an (A:=GcA g) (B:=VlX (x0::r)) pF rfl (fun v w he ⟨L,hL,hv⟩=>(a4h L 0 v w (hT.ext he) hv (by have:=(hbd L hL).1;omega)).mono fun en w' ⟨u,k1,k2,ys,k3,k4⟩=>⟨u,k1,k2,ys,by rw[k3];exact (hbd L hL).1,by rw[k3];exact (hbd L hL).2,k4⟩)) ?_
  refine en fun a w e' hf=>?_
  obtain⟨hT,Ho,e⟩:=up3 e' hT Ho e
  refine tA hf rfl fun a hf=>aa <| ai <| ap rfl hf rfl ?_
  intro v hv
  exact⟨_,rfl,e,hv⟩
def LwA (g:GT):VA:=⟨fun v w=>∃m:Int,v=I m∧m≤twG g,fun _ _ _ _ h=>h⟩
theorem a4k {G:Nat→Prop}{N:Nat}(g:GT)(ok:Gr.Ok g)(v:Value)(W:World)(hT:Tab W)(h:(Dv (ptE (grE N)) G (some g)).p v W)(hl0:0<g.1.length)(hl1:g.1.length≤12)(hl2:g.2.length≤100000)(hN:N≤1000000) :
  Calls Tryz.prog 12 #[v] W (Post (LwA g) W):=by
 refine eN [v] [E v] Tryz.func12 Tryz.ntmps12 ?_ fun a hf=>?_
 rotate_left
 rotate_right
 ·exact arg1 rfl
 have e:=Ext.rfl' W
 refine seq <| ae <| tA hf rfl fun a hf=>aa ?_
 replace hf:=hf.keep [0]
 have e0:=e
 refine seq <| rgN 2 hf <| st (mv rfl) <| st (an (A:=DgA g) (B:=E v) wg rfl (fun u w he k=>by cases k;exact a3O g ok _ w (hT.ext (Ext.tr e0 he)) (VA.st _ _ _ _ (Ext.tr e0 he) h) hl1 hl2 hN)) ?_
 refine en fun a w e' hf=>?_
 replace e:=e.tr e'
 obtain⟨t1,⟨m1,u1,rfl,hm1⟩,hf⟩:=hf.opn 9 rfl
 refine tP hf (mv rfl) fun a w e' hf=>?_
 replace e:=e.tr e'
 refine tP hf (exE rfl rfl) fun a w e' hf=>?_
 replace e:=e.tr e'
 refine tP hf (exE rfl rfl) fun a w e' hf=>?_
 replace e:=e.tr e'
 refine tA hf rfl fun a hf=>tA hf rfl fun a hf=>aa ?_
 replace hf:=hf.keep [0,3]
 have e0:=e
 refine seq <| rgN 2 hf <| st (mv rfl) <| st (an (A:=DgA g) (B:=E v) wh rfl (fun u w he k=>by cases k;exact a3S g ok _ w (hT.ext (Ext.tr e0 he)) (VA.st _ _ _ _ (Ext.tr e0 he) h) hl1 hl2 hN)) ?_
 refine en fun a w e' hf=>?_
 replace e:=e.tr e'
 obtain⟨t2,⟨m2,u2,rfl,hm2⟩,hf⟩:=hf.opn 14 rfl
 refine tP hf (mv rfl) fun a w e' hf=>?_
 replace e:=e.tr e'
 refine tP hf (exE rfl rfl) fun a w e' hf=>?_
 replace e:=e.tr e'
 refine tP hf (exE rfl rfl) fun a w e' hf=>?_
 replace e:=e.tr e'
 refine tA hf rfl fun a hf=>tA hf rfl fun a hf=>aa ?_
 replace hf:=hf.keep [0,3,5]
 have e0:=e
 refine seq <| rgN 4 hf <| st (mv rfl) <| st (mv rfl) <| st (mv rfl) <| st (an (A:=GcA g) (B:=E v) wk rfl (fun u w he k=>by cases k;exact a4j g ok _ w (hT.ext (Ext.tr e0 he)) (VA.st _ _ _ _ (Ext.tr e0 he) h) hl0 hl1 hl2 hN)) ?_
 refine en fun a w e' hf=>?_
 replace e:=e.tr e'
 obtain⟨t3,⟨ys,hy1,hy2,hy3⟩,hf⟩:=hf.opn 20 rfl
 refine tP hf (aF U31 (isE rfl hy3)) fun a w e' hf=>?_
 obtain⟨hy3,e⟩:=up2 e' hy3 e
 refine tP hf (sub rfl rfl (by omega)) fun a w e' hf=>?_
 obtain⟨hy3,e⟩:=up2 e' hy3 e
 refine tP hf (a3U rfl rfl rfl) fun a w e' hf=>?_
 obtain⟨hy3,e⟩:=up2 e' hy3 e
 refine tA hf rfl fun a hf=>aa <| ai <| ap rfl hf rfl ?_
 rintro _ rfl
 exact⟨_,rfl,e,_,rfl,by omega⟩
section
variable {P:Program}{L:Env}{ty:TypeId}{pos:String}{aft:Array Edge}{r:Option Nat}{ds:List Deferred}{ops:Array Oper}{rest:List Oper}{Q:Exit→Act→World→Prop}{n:Nat}{a:Act}{w:World}{x:Operand}{α:Type}{e:Enc α}
theorem a4l {t te:TypeId}{z:Value}{k:IntKind}{d c sz bz:Nat}(B:Nat)(G:Nat→Prop)(ht:P.underlying t=some (.slice te))(hi:(P.info? te).map (fun i=>(i.zero,i.size,i.bytes))=some (some z,sz,bz))(hsz:sz=e.k)(hf:FrD n ds a w L)(hd:d<n)
  (hx:opd L x=some (E (.int k (c:Nat)))) (hc:c≤1048576) (hb:bz≤1048576) (hB:B≤w.heap.size) (hG:∀b,G b→b<B)
  (h:∀a' v w',Ext w w'→v.ownBlock=some w.heap.size→OwR e te B G w' [] v→FrD n ds a' w' ((d,E v)::L)→wpListIn (FW r) 0 P ops Q rest a' w') :
  wpListIn (FW r) 0 P ops Q (⟨some d,.makeSlice t (.const (.int .i64 0)) x,ty,pos,aft,none⟩::rest) a w:=
 wpListIn_plain rfl fun K hK=>by
  obtain⟨it,hit,hiz,hs,hby⟩:=info_parts hi
  have hxv:a.eval x=.int k (c:Nat):=hf.opd x _ hx
  have h0v:a.eval (.const (.int .i64 0))=.int .i64 0:=rfl
  have hprod:(bz:Int) * (c:Nat)≤1048576 * 1048576:=Int.mul_le_mul (by omega) (by omega) (by omega) (by omega)
  have hr:=run_make (P:=P) w t te it z ht hit hiz .i64 k 0 (c:Nat) (by omega) (by omega) (by rw[hby];omega) (by omega)
  rw[hs,Int.toNat_natCast] at hr
  have hms:(madeCells z.cells (c * sz)).size=c * sz:=by simp[madeCells]
  refine OpR.wp (R:=fun v w'=>v=.slice (some ⟨w.heap.size,0,none⟩) 0 c∧w'=w.alloc (.cells (madeCells z.cells (c * sz)) te)) ?_ ?_
  ·simp only[OpR,execOp,hxv,h0v,Sem.run_bind,hr,Result.andThen_ok,Sem.run_pure,and_self,Int.toNat_zero]
  ·rintro v w' ⟨rfl,rfl⟩
   have h1:=cV w (.cells (madeCells z.cells (c * sz)) te)
   exact hK _ _ (h _ _ _ h1 rfl ⟨⟨[],World.ownsRow_made w _ c hB (by simp only[maxLen];omega) (by rw[hms,hsz]),rfl⟩,hG,Nat.le_trans hB h1.size⟩ (hf.put (d:=some d) h1 (fun k hk=>by cases hk;exact hd) rfl))
end
theorem uU (p q:Int)(S:BS):(bJ (p,S)).setIfInBounds (0+0) (I q)=bJ (q,S):=by simp[bJ]
structure FoK (W:World)(N1 N2 b8 bm nn:Nat)(lm:List (Int×Int))(sv:Value)(ss out:List (Int×BS))(u:Value)(D:List Nat)(w:World):Prop where
 e:Ext W w
 t:Tab w
 p8:Blk w b8 #[.map (some bm)] 89
 m:MpR iKV w bm nn lm
 s:(Dv (slE ck) (fun b=>N1≤b) ss).p sv w
 o:OwR ck 88 N2 G0 w out u
 d:Ds D w
structure FoN (N N1 N2 b8 bm:Nat)(u:Value)(D:List Nat):Prop where
 lt:0<N∧b8<N∧bm<N∧N1≤N∧N2≤N
 u:∀b,u.ownBlock=some b→b<N
 d:∀d∈D,d<N
section
variable {W w w':World}{N N1 N2 b8 bm nn B b:Nat}{lm:List (Int×Int)}{sv:Value}{ss out out':List (Int×BS)}{u u':Value}{D:List Nat}
theorem FoK.ext (h:FoK W N1 N2 b8 bm nn lm sv ss out u D w)(e:Ext w w'):FoK W N1 N2 b8 bm nn lm sv ss out u D w':=⟨Ext.tr h.e e,h.t.ext e,h.p8.ext e,h.m.ext e,VA.st _ _ _ _ e h.s,h.o.ext e,h.d.ext e⟩
theorem FoK.kp (h:FoK W N1 N2 b8 bm nn lm sv ss out u D w)(k:Kp B w w')(q:FoN N N1 N2 b8 bm u D)(hB:N≤B)(hW:W.heap.size≤B):FoK W N1 N2 b8 bm nn lm sv ss out u D w':=by
 obtain⟨q0,q8,qm,q1,q2⟩:=q.lt
 have no:∀{b},b<N→¬aS B b:=fun h hh=>Nat.lt_irrefl _ (Nat.lt_of_lt_of_le h (Nat.le_trans hB hh.1))
 exact⟨h.e.kp k hW,h.t.kp k (Nat.lt_of_lt_of_le q0 hB),h.p8.kp k (no q8),h.m.pres (k.same _ h.m.lt (no qm)),Dv.ch h.s k.chg fun b hb=>Nat.le_trans q1 (Nat.le_trans hB hb.1),h.o.chE k.chg fun b hb=>no (q.u b hb),h.d.ch k.chg fun d hd=>no (q.d d hd)⟩
theorem FoK.gr (h:FoK W N1 N2 b8 bm nn lm sv ss out u D w)(hg:w.grownBy w' (some b))(q:FoN N N1 N2 b8 bm u D)(hB:N≤b)(hW:W.heap.size≤b):FoK W N1 N2 b8 bm nn lm sv ss out u D w':=by
 obtain⟨q0,q8,qm,q1,q2⟩:=q.lt
 have no:∀{c},c<N→c≠b:=fun h hh=>Nat.lt_irrefl _ (Nat.lt_of_lt_of_le h (hh▸hB))
 exact⟨h.e.gr hg hW,h.t.gr hg (Nat.lt_of_lt_of_le q0 hB),h.p8.gr hg (no q8),h.m.pres (hg.block _ h.m.lt fun e=>no qm (Option.some.inj e)),Dv.grN h.s hg (fun c hc=>by cases hc;show N1≤b;omega),h.o.grE hg fun hh=>no (q.u _ hh) rfl,h.d.gr hg fun hd=>no (q.d _ hd) rfl⟩
theorem FoK.app (h:FoK W N1 N2 b8 bm nn lm sv ss out u D w)(hg:w.grownBy w' u.ownBlock)(hO:OwR ck 88 N2 G0 w' out' u')(h1:N1≤N2)(h2:W.heap.size≤N2)(h8:b8<N2)(hm:bm<N2)(hu:∀d∈D,u.ownBlock≠some d):FoK W N1 N2 b8 bm nn lm sv ss out' u' D w':=by
 have lo:∀b,u.ownBlock=some b→N2≤b:=fun b hb=>(h.o.lt hb).1
 have no:∀{c},c<N2→u.ownBlock≠some c:=fun h hh=>Nat.lt_irrefl _ (Nat.lt_of_lt_of_le h (lo _ hh))
 exact⟨h.e.gro hg fun b hb=>Nat.le_trans h2 (lo b hb),h.t.gro hg fun b hb=>Nat.lt_of_le_of_lt (Nat.zero_le _) (Nat.lt_of_lt_of_le h8 (lo b hb)),h.p8.gro hg (no h8),h.m.pres (hg.block _ h.m.lt fun e=>no hm e.symm),Dv.grN h.s hg (fun b hb=>Nat.le_trans h1 (lo b hb)),hO,h.d.gro hg hu⟩
end
theorem a4m {nb:Int→BS}{l:List Nat}(k:Nat):(List.range (k+1)).map (foB nb l)=(List.range k).map (foB nb l)++[foB nb l k]:=by rw[List.range_succ,List.map_append];rfl
theorem a4n {G G2:Nat→Prop}{N:Nat}(g:GT)(ok:Gr.Ok g)(l:List Nat)(gv ov:Value)(W:World)(hT:Tab W)(h:(Dv (ptE (grE N)) G (some g)).p gv W)(ho:(Dv (slE aj) G2 (aD l)).p ov W)
  (hl:∀i,i∈l↔(ah g.1).getLsbD i=true) (hnd:l.Nodup) (hlen:l.length=g.1.length) (hl0:0<g.1.length) (hl1:g.1.length≤4096) (hl2:g.2.length≤100000) (hN:N≤1000000) :
  Calls Tryz.prog 10 #[gv,ov] W (Post (Tup [Dv (slE ck) G0 (bN (nbA g) l),E (I 0)]) W):=by
 have hlt:∀x∈l,x<1024:=fun x hx=>ay ((hl x).1 hx)
 have hcl:∀i j:Nat,(nbA g (i:Int)).getLsbD j=true→j∈l:=fun i j h=>(hl j).2 (fG ok i j h)
 have hT0:=hT.lt
 obtain⟨n,hn⟩:∃n,n=l.length:=⟨_,rfl⟩
 have hn4:n≤4096:=by omega
 have hn0:0<n:=by omega
 refine cq (args:=[gv,ov]) (As:=[E gv,E ov]) Tryz.func10 rfl Tryz.ntmps10 (Nat.le_of_ble_eq_true rfl) ?_ (fun a hf=>?_) (Nat.le_of_ble_eq_true rfl)
 ·exact aQ rfl (aQ rfl cO)
 have e:=Ext.rfl' W
 refine seq <| ae <| tA hf rfl fun a hf=>tA hf rfl fun a hf=>aa ?_
 replace hf:=hf.keep [0,1]
 have e0:=e
 obtain⟨ss,hss⟩:∃ss,ss=stL (nbA g) l l.length:=⟨_,rfl⟩
 have hssl:ss.length=n:=by rw[hss,uQ,hn]
 have hsi:∀{i x:Nat},l[i]?=some x→ss[i]?=some ((x:Int),foN (nbA g) l i):=fun {i x} hx=>by
  have hi:=(List.getElem?_eq_some_iff.1 hx).1
  rw[hss,stL,List.getElem?_map,List.getElem?_range hi,Option.map_some,stB,iG hx]
 refine seq <| rgN 6 hf <| st (mv rfl) <| st (mv rfl) <| st (ar (A:=Tup [Dv (slE ck) G0 ss,E (I 0)]) (B:=E gv) (C:=E ov) wb rfl rfl (fun u1 u2 w he k1 k2=>by cases k1;cases k2;rw[hss];exact a3J g ok l gv ov w (hT.ext he) (VA.st _ _ _ _ (Ext.tr e0 he) h) (VA.st _ _ _ _ (Ext.tr e0 he) ho) hl hnd hlen hl1 hl2 hN)) ?_
 refine st (mv rfl) <| st (aO rfl rfl) <| st (aO rfl rfl) <| en fun a w e' hf=>?_
 obtain⟨hT,e⟩:=up2 e' hT e
 refine tA hf rfl fun a hf=>tA hf rfl fun a hf=>aa ?_
 replace hf:=hf.keep [6,7]
 obtain⟨sv,hsv0,hf⟩:=hf.opn 6 rfl
 replace hf:=hf.kp [6,7]
 obtain⟨N1,hN1⟩:∃N1,N1=w.heap.size:=⟨_,rfl⟩
 have hsv:(Dv (slE ck) (fun b=>N1≤b) ss).p sv w:=Dv.weak hsv0 fun b hb hh=>by exact absurd (show N1≤b from hh) (by omega)
 have hN1w:N1≤w.heap.size:=Nat.le_of_eq hN1
 have hWN:W.heap.size≤N1:=by rw[hN1];exact e.size
 repeat refine seq ?_
 refine rgN 2 hf <| st (mv rfl) <| st ((neq rfl rfl).eq (congrArg Value.bool ((bne_self_eq_false (0:Int):_=false)))) <| en fun a w e' hf=>?_
 obtain⟨hT,hsv,hN1w,e⟩:=up4 e' hT hsv hN1w e
 refine aa <| ifc hf rfl (fun h=>by cases h) (fun _=>?_)
 refine ak ?_
 replace hf:=hf.kp [6]
 repeat refine seq ?_
 refine rgN 3 hf <| st (mv rfl) <| st (aF U84 (isE rfl hsv)) <| st ((eql rfl rfl).eq (congrArg Value.bool ((by rw[hssl];exact beq_false_of_ne (by omega):(((ss.length:Nat):Int)==0)=false)))) ?_
 refine en fun a w e' hf=>?_
 obtain⟨hT,hsv,hN1w,e⟩:=up4 e' hT hsv hN1w e
 refine aa <| ifc hf rfl (fun h=>by cases h) (fun _=>?_)
 refine ak ?_
 replace hf:=hf.kp [6]
 refine seq <| ae <| eV iKV hf (by decide) fun a bm w e' hbm hsm HM hf=>?_
 obtain⟨e,hT,hsv⟩:=up3 e' e hT hsv
 have hWm:N1≤bm:=by rw[hbm];exact hN1w
 have lmw:=HM.lt
 refine tL I89 hf fun a b8 w e' hb8 hs8 B8 hf=>?_
 obtain⟨hT,HM,hsv,e⟩:=up4 e' hT HM hsv e
 haveI hinr:∀G0,InR (GB W G0) (some b8):=fun G0=>InR.gb (by omega)
 refine aA T89 hf rfl rfl rfl B8 (by decide) fun w hg hsz B8 hf=>?_
 replace hT:=hT.gr hg (by omega)
 replace HM:=HM.gr hg (fun h=>by cases h;omega)
 replace hsv:=Dv.grN hsv hg (fun b h=>by cases h;show N1≤_;omega)
 replace e:=e.gr hg (by omega)
 refine aa ?_
 replace B8:Blk w b8 #[.map (some bm)] 89:=B8
 have hWb8:N1≤b8:=by omega
 have n8:b8≠bm:=by omega
 replace hf:=hf.kp [6,8]
 repeat refine seq ?_
 refine rgN 3 hf <| st (mv rfl) <| st (aF U84 (isE rfl hsv)) <| st (mv rfl) <| en fun a w e' hf=>?_
 obtain⟨hT,HM,hsv,e,B8⟩:=up5 e' hT HM hsv e B8
 refine aa ?_
 rw[hssl] at hf
 replace hf:=hf.upd 34 rfl (B:=E (I ((0:Nat):Int))) fun v h=>h
 replace hf:=hf.kp [6,8,32,33,34]
 refine blk (aJ (fun r0 a w=>∃(i:Nat) (lm:List (Int×Int)),r0+i=n∧Fr 85 a w [(6,E sv),(8,E (ptr b8)),(32,E sv),(33,E (I (n:Nat))),(34,E (I (i:Nat)))]∧Ext W w∧Tab w∧Blk w b8 #[.map (some bm)] 89∧MpR iKV w bm i lm∧(Dv (slE ck) (fun b=>N1≤b) ss).p sv w∧∀x∈l.take i,lkI lm (x:Int)=(l.idxOf x:Nat)) n ⟨0,[],Nat.add_zero _,hf,e,hT,B8,HM,hsv,fun x hx=>by rw[List.take_zero] at hx;cases hx⟩ ?_)
 rintro r0 a w ⟨i,lm,hr0,hf,e,hT,B8,HM,hsv,hlk⟩
 refine seq ?_
 by_cases hi:i<n
 ·have hx:=List.getElem?_eq_getElem (show i<l.length by omega)
  generalize l[i]=x at hx
  have hx1024:x<1024:=hlt x (List.mem_of_getElem? hx)
  have hxi:=hsi hx
  have lmw:=HM.lt
  obtain⟨bs,hbs⟩:∃bs:Int×BS,bs=((x:Int),foN (nbA g) l i):=⟨_,rfl⟩
  rw[← hbs] at hxi
  refine rgN 1 hf <| st ((lss rfl rfl).eq (congrArg Value.bool ((decide_eq_true (by omega):_=true)))) <| en fun a w e' hf=>?_
  obtain⟨hT,HM,hsv,e,B8⟩:=up5 e' hT HM hsv e B8
  refine aa <| seq <| ifc hf rfl (fun _=>ak ?_) (fun h=>by cases h)
  refine seq <| blk ?_
  replace hf:=hf.kp [6,8,32,33,34]
  obtain⟨Nr,hNr⟩:∃Nr,Nr=w.heap.size:=⟨_,rfl⟩
  have hNw:Nr≤w.heap.size:=Nat.le_of_eq hNr
  have lmr:bm<Nr:=by rw[hNr];exact HM.lt
  have l8r:b8<Nr:=by rw[hNr];exact B8.lt
  refine seq <| ae <| tP hf (mv rfl) fun a w e' hf=>?_
  obtain⟨hT,HM,hsv,hNw,e,B8⟩:=up6 e' hT HM hsv hNw e B8
  refine tP hf (aL (j:=i) U84 S81 (isE rfl hsv) rfl (by omega) hxi) fun a w e' hf=>?_
  obtain⟨hT,HM,hsv,hNw,e,B8⟩:=up6 e' hT HM hsv hNw e B8
  refine tP hf (fS T81 (isR rfl)) fun a w e' hf=>?_
  obtain⟨hT,HM,hsv,hNw,e,B8⟩:=up6 e' hT HM hsv hNw e B8
  refine tL I81 hf fun a b10 w e' hb10 hs10 B10 hf=>?_
  have lo10_hNw:=Nat.le_trans hNw (Nat.le_of_eq hb10.symm)
  obtain⟨hT,HM,hsv,hNw,e,B8⟩:=up6 e' hT HM hsv hNw e B8
  refine tA hf rfl fun a hf=>?_
  have n10:b10≠b8∧b10≠bm∧W.heap.size≤b10:=by have:=lo10_hNw;omega
  replace hf:=hf.kp [6,8,9,10,32,33,34,38]
  refine az T81 hf rfl rfl (ft _) B10 rfl (dw _) fun w hg hsz B10 hf=>?_
  replace e:=e.gr hg n10.2.2;replace hT:=hT.gr hg (by omega);replace B8:=B8.gr hg n10.1.symm;replace HM:=HM.gr hg (fun h=>by cases h;omega);replace hsv:=Dv.grN hsv hg (fun b h=>by cases h;show N1≤_;omega)
  refine aa ?_
  replace hf:=hf.kp [6,8,9,10,32,33,34]
  have hb0:(bJ bs)[0+0]?=some (I (x:Nat)):=by rw[hbs];exact dW _
  refine rgN 4 hf <| st (ld1 (v:=.map (some bm)) T89 rfl B8 rfl) <| st (fA U81 rfl T3 rfl) <| st (ld1 (v:=I (x:Nat)) T3 rfl B10 hb0) <| st (mv rfl) <| en fun a w e' hf=>?_
  obtain⟨hT,HM,hsv,e,B8,B10⟩:=up6 e' hT HM hsv e B8 B10
  refine dc (V:=iKV) (i:=(x:Int)) (c:=((i:Nat):Int)) U89 hf rfl rfl rfl HM (by simp only[maxLen];omega) (bh (by omega) (by omega)) (bh (by omega) (by omega)) fun w hg HM hf=>?_
  replace e:=e.gr hg (by omega);replace hT:=hT.gr hg (by omega);replace B8:=B8.gr hg n8;replace hsv:=Dv.grN hsv hg (fun b h=>by cases h;exact hWm)
  refine aa ?_
  replace hf:=hf.keep [6,8,32,33,34]
  refine rgN 1 hf <| st ((add rfl rfl (by omega)).eq (congrArg (Value.int .i64) (show ((i:Nat):Int)+1=((i+1:Nat):Int) from rfl))) <| en fun a w e' hf=>?_
  obtain⟨hT,HM,hsv,e,B8⟩:=up5 e' hT HM hsv e B8
  refine tP hf (mv rfl) fun a w e' hf=>?_
  obtain⟨hT,HM,hsv,e,B8⟩:=up5 e' hT HM hsv e B8
  refine aa ?_
  replace hf:=hf.keep [6,8,32,33,34]
  refine⟨r0 - 1,by omega,i+1,_,by omega,hf,e,hT,B8,HM,hsv,fun y hy=>?_⟩
  rw[cB hx,List.mem_append,List.mem_singleton] at hy
  have hxx:l.idxOf x=i:=by
   have:=gA hnd (j:=i) (by omega)
   rwa [iG hx] at this
  rw[uB]
  by_cases hyx:y=x
  ·rw[if_pos (by rw[hyx]),hyx,hxx]
  ·rw[if_neg (by omega)]
   exact hlk y (hy.resolve_right hyx)
 have hie:i=n:=by omega
 rw[hie,hn,List.take_length] at hlk
 rw[hie] at HM
 have l8:=B8.lt
 have lmw:=HM.lt
 refine rgN 1 hf <| st ((lss rfl rfl).eq (congrArg Value.bool ((decide_eq_false (by omega):_=false)))) <| en fun a w e' hf=>?_
 obtain⟨hT,HM,hsv,e,B8⟩:=up5 e' hT HM hsv e B8
 refine aa <| seq <| ifc hf rfl (fun h=>by cases h) (fun _=>aG ?_)
 replace hf:=hf.keep [6,8]
 refine seq <| rgN 3 hf <| st (mv rfl) <| st (aF U84 (isE rfl hsv)) <| st (sub rfl rfl (by omega)) <| en fun a w e' hf=>?_
 obtain⟨hT,HM,hsv,e,B8⟩:=up5 e' hT HM hsv e B8
 refine tA hf rfl fun a hf=>aa ?_
 rw[hssl] at hf
 obtain⟨ms,hms⟩:∃ms:Int,ms=(n:Int) - 1:=⟨_,rfl⟩
 replace hf:=hf.upd 11 rfl (B:=E (I ms)) fun v h=>by rw[hms];exact h
 replace hf:=hf.keep [6,8,11]
 refine seq <| rgN 2 hf <| st (mv rfl) <| st (aF U84 (isE rfl hsv)) <| en fun a w e' hf=>?_
 obtain⟨hT,HM,hsv,e,B8⟩:=up5 e' hT HM hsv e B8
 rw[hssl] at hf
 obtain⟨N2,hN2⟩:∃N2,N2=w.heap.size:=⟨_,rfl⟩
 have h8N:b8<N2:=by rw[hN2];exact B8.lt
 have hmN:bm<N2:=by rw[hN2];exact HM.lt
 have h12:N1≤N2:=by omega
 have hW2:W.heap.size≤N2:=by omega
 refine a4l (e:=ck) N2 G0 U41 I88 rfl hf (by decide) rfl (by omega) (by decide) (Nat.le_of_eq hN2) (fun b hb=>hb.elim) fun a u0 w e' hu0 Ho hf=>?_
 replace e:=e.tr e';replace hT:=hT.ext e';replace B8:=B8.ext e';replace HM:=HM.ext e';replace hsv:=VA.st _ _ _ _ e' hsv
 refine tA hf rfl fun a hf=>aa ?_
 replace hf:=hf.kp [6,8,11,12]
 repeat refine seq ?_
 refine rgN 3 hf <| st (mv rfl) <| st (aF U84 (isE rfl hsv)) <| st (mv rfl) <| en fun a w e' hf=>?_
 obtain⟨hT,HM,Ho,hsv,e,B8⟩:=up6 e' hT HM Ho hsv e B8
 refine aa ?_
 rw[hssl] at hf
 replace hf:=hf.upd 52 rfl (B:=E (I ((0:Nat):Int))) fun v h=>h
 have hf:FrD 85 (bq []) a w [(8,E (ptr b8)),(11,E (I ms)),(12,E u0),(50,E sv),(51,E (I (n:Nat))),(52,E (I ((0:Nat):Int)))]:=hf.keep [8,11,12,50,51,52]
 have hK:FoK W N1 N2 b8 bm n lm sv ss ((List.range 0).map (foB (nbA g) l)) u0 [] w:=⟨e,hT,B8,HM,hsv,Ho,Ds.nil w⟩
 refine blk (aJ (fun r0 a w=>∃(k:Nat) (u:Value) (D:List Nat),r0+k=n∧FrD 85 (bq D) a w [(8,E (ptr b8)),(11,E (I ms)),(12,E u),(50,E sv),(51,E (I (n:Nat))),(52,E (I (k:Nat)))]∧FoK W N1 N2 b8 bm n lm sv ss ((List.range k).map (foB (nbA g) l)) u D w∧∀d∈D,W.heap.size≤d) n ⟨0,u0,[],Nat.add_zero _,hf,hK,fun d hd=>(by cases hd)⟩ ?_)
 rintro r0 a w ⟨k,u,D,hr0,hf,hK,hDl⟩
 have huD:∀d∈D,u.ownBlock≠some d:=fun d hd h=>by
  obtain⟨cs,h1,_⟩:=hK.o.own
  rcases h1.2 with ⟨h2,_⟩|⟨g',cap,cur,h2,_,h3,_⟩
  ·rw[h2] at h;simp[Value.ownBlock] at h
  ·rw[h2] at h
   simp only[Value.ownBlock,Option.some.injEq] at h
   rw[h] at h3
   rw[hK.d.2 d hd] at h3
   cases h3
 refine seq ?_
 by_cases hk:k<n
 ·have hx:=List.getElem?_eq_getElem (show k<l.length by omega)
  generalize l[k]=x at hx
  have hx1024:x<1024:=hlt x (List.mem_of_getElem? hx)
  have hxi:=hsi hx
  obtain⟨S,hS⟩:∃S,S=foN (nbA g) l k:=⟨_,rfl⟩
  rw[← hS] at hxi
  have hSl:∀y,S.getLsbD y=true→y∈l:=fun y hy=>by
   rw[hS] at hy
   obtain⟨j,hj,_,rfl,_⟩:=(eC hnd hlt hcl (by omega)).1 hy
   exact iF hj
  obtain⟨bs,hbs⟩:∃bs:Int×BS,bs=((x:Int),S):=⟨_,rfl⟩
  rw[← hbs] at hxi
  obtain⟨Nk,hNk⟩:∃Nk,Nk=w.heap.size:=⟨_,rfl⟩
  have hq:FoN Nk N1 N2 b8 bm u D:=by rw[hNk];exact⟨⟨hK.t.lt,hK.p8.lt,hK.m.lt,Nat.le_trans h12 hK.o.base,hK.o.base⟩,fun b hb=>(hK.o.lt hb).2,fun d hd=>hK.d.lt hd⟩
  have hNw:Nk≤w.heap.size:=Nat.le_of_eq hNk
  have hWk:W.heap.size≤Nk:=by have:=hq.lt;omega
  refine rgN 1 hf <| st ((lss rfl rfl).eq (congrArg Value.bool ((decide_eq_true (by omega):_=true)))) <| en fun a w e' hf=>?_
  replace hK:=hK.ext e'
  replace hNw:=Nat.le_trans hNw e'.size
  refine aa <| seq <| ifc hf rfl (fun _=>ak ?_) (fun h=>by cases h)
  refine seq <| blk ?_
  replace hf:=hf.kp [8,11,12,50,51,52]
  refine seq <| ae <| tP hf (mv rfl) fun a w e' hf=>?_
  replace hK:=hK.ext e'
  replace hNw:=Nat.le_trans hNw e'.size
  refine tP hf (aL (j:=k) U84 S81 (isE rfl hK.s) rfl (by omega) hxi) fun a w e' hf=>?_
  replace hK:=hK.ext e'
  replace hNw:=Nat.le_trans hNw e'.size
  refine tP hf (fS T81 (isR rfl)) fun a w e' hf=>?_
  replace hK:=hK.ext e'
  replace hNw:=Nat.le_trans hNw e'.size
  refine tL I81 hf fun a b14 w e' hb14 hs14 B14 hf=>?_
  have lo14_hNw:=Nat.le_trans hNw (Nat.le_of_eq hb14.symm)
  replace hK:=hK.ext e'
  replace hNw:=Nat.le_trans hNw e'.size
  refine tA hf rfl fun a hf=>?_
  have hb14N:Nk≤b14:=by have:=lo14_hNw;omega
  replace hf:=hf.kp [8,11,12,13,14,50,51,52,56]
  refine az T81 hf rfl rfl (ft _) B14 rfl (dw _) fun w hg hsz B14 hf=>?_
  replace hK:=hK.gr hg hq hb14N (by omega)
  replace hNw:Nk≤w.heap.size:=by omega
  refine aa ?_
  replace hf:=hf.kp [8,11,12,13,14,50,51,52]
  rw[hbs] at B14
  obtain⟨T,hT⟩:∃T,T=ins S (x:Int):=⟨_,rfl⟩
  refine seq <| rgN 7 hf <| st (mv rfl) <| st (fA U81 rfl T68 rfl) <| st ((ldP T68 rfl B14 (dx _)).eq (dy _)) <| st (fA U81 rfl T3 rfl) <| st (ld1 (v:=I (x:Nat)) T3 rfl B14 (dW _)) <| st (ar (A:=E (ac T)) (B:=E (ac S)) (C:=E (I (x:Nat))) dr rfl rfl (fun v u w he h h'=>by cases h;cases h';rw[hT];exact du _ _ w)) ?_
  refine st (uM (a:=ms) (S:=T) U88 rfl rfl rfl S3 S68 I88 rfl (isI rfl) (isS rfl)) <| en fun a w e' hf=>?_
  replace hK:=hK.ext e'
  replace hNw:=Nat.le_trans hNw e'.size
  replace B14:=B14.ext e'
  refine tL I88 hf fun a b15 w e' hb15 hs15 B15 hf=>?_
  have lo15_hNw:=Nat.le_trans hNw (Nat.le_of_eq hb15.symm)
  have lt15_B14:=B14.lt
  replace hK:=hK.ext e'
  replace hNw:=Nat.le_trans hNw e'.size
  replace B14:=B14.ext e'
  have hb15N:Nk≤b15∧b15≠b14:=by have:=lo15_hNw;have:=lt15_B14;omega
  replace hf:=hf.kp [8,11,12,13,14,15,50,51,52,63]
  refine az T88 hf rfl rfl (ft _) B15 rfl (dw _) fun w hg hsz B15 hf=>?_
  replace hK:=hK.gr hg hq hb15N.1 (by omega)
  replace B14:=B14.gr hg hb15N.2.symm
  replace hNw:Nk≤w.heap.size:=by omega
  refine aa ?_
  replace hf:=hf.kp [8,11,12,13,14,15,50,51,52]
  obtain⟨Nz,hNz⟩:∃Nz,Nz=w.heap.size:=⟨_,rfl⟩
  repeat refine seq ?_
  refine rgN 3 hf <| st (fA U81 rfl T68 rfl) <| st ((ldP T68 rfl B14 (dx _)).eq (dy _)) <| st (an (A:=bW Nz S) (B:=E (ac S)) cg rfl (fun v w' he h=>by cases h;exact Calls.mono (cm _ w') (fun en w2 ⟨u,h1,h2,b',h3,h4,h5⟩=>⟨u,h1,h2,b',by have:=he.size;omega,h4,h5⟩))) ?_
  refine en fun a w e' hf=>?_
  replace hK:=hK.ext e'
  replace hNw:=Nat.le_trans hNw e'.size
  replace B14:=B14.ext e'
  replace B15:=B15.ext e'
  refine aa ?_
  obtain⟨vv,⟨b66,h66,rfl,BS⟩,hf⟩:=hf.fix 66 rfl
  replace hf:=hf.kp [8,11,12,13,15,50,51,52,66]
  have l15:=B15.lt
  refine blk <| cC (S:=S) hf rfl BS (by decide) (fun s w1=>FoK W N1 N2 b8 bm n lm sv ss ((List.range k).map (foB (nbA g) l)) u D w1∧Blk w1 b15 (bJ (s.foldl (fun (m:Int) (y:Nat)=>min m (l.idxOf y:Nat)) ms,T)) 88) (fun _ _=>False) (fun s w1 h=>h.1.t)
   ⟨hK,B15⟩ (fun s w1 w2 h hs kk=>⟨h.1.kp kk hq hNw (Nat.le_trans hWk hNw),h.2.kp kk (fun hh=>by have:=hh.1;omega)⟩) (fun _ _ _ h=>h.elim) ?_ ?_ (fun _ _ _ _ _ _ h=>h.elim)
  ·intro lb s y rest a1 w1 hs hJ hlw hf
   have hyS:S.getLsbD y=true:=(aH.1 (by rw[hs];simp)).2
   have hy1024:y<1024:=ay hyS
   have hwy:(Lit.int .i64 (y:Int)).wf=true:=bh (by omega) (by omega)
   have hly:=hlk y (hSl y hyS)
   generalize hBz:w.heap.size=Bz at *
   refine ae <| tA hf rfl fun a hf=>aa <| ⟨Kh.rfl' _ _,fun w3 k3 hsz3=>?_⟩
   have hK:=hJ.1.kp k3 hq hNw (Nat.le_trans hWk hNw)
   have B15:=hJ.2.kp k3 (fun hh=>by have:=hh.1;omega)
   replace hf:=hf.pure w3
   have kh:=Kh.rfl' Bz w3
   obtain⟨q,hqs⟩:∃q,q=s.foldl (fun (m:Int) (y:Nat)=>min m (l.idxOf y:Nat)) ms:=⟨_,rfl⟩
   rw[← hqs] at B15
   replace hf:=hf.kp [8,15,16]
   refine blk <| rgN 7 hf <| st (fA U88 rfl T3 rfl) <| st (ld1 (v:=I q) T3 rfl B15 (dW _)) <| st (ld1 (v:=.map (some bm)) T89 rfl hK.p8 rfl) <| st (mv rfl) <| st ((gz U89 rfl hK.m rfl hwy).eq (congrArg (Value.int .i64) hly)) <| st (min2 rfl rfl) <| st (fA U88 rfl T3 rfl) <| en fun a w e' hf=>?_
   replace hK:=hK.ext e'
   replace kh:=kh.tr (Kh.ext e')
   replace B15:=B15.ext e'
   refine aA T3 hf rfl rfl rfl B15 (by rw[dw];decide) fun w hg hsz B15 hf=>?_
   replace B15:Blk w b15 ((bJ (q,T)).setIfInBounds (0+0) (I (min q (l.idxOf y:Nat)))) 88:=B15
   rw[uU] at B15
   replace hK:=hK.gr hg hq hb15N.1 (by omega)
   replace kh:=kh.tr (Kh.gr hg (fun hh=>by have:=hh.1;omega))
   refine aa ?_
   simp only[Exit.inBlock]
   exact⟨⟨hK,by rw[List.foldl_append,List.foldl_cons,List.foldl_nil,← hqs];exact B15⟩,kh⟩
  intro a' w' hf' hJ hsz hDn
  simp only[Exit.inBlock,↓reduceIte,Exit.then]
  obtain⟨hK',B15'⟩:=hJ
  obtain⟨q,hqe⟩:∃q,q=(elems S).foldl (fun (m:Int) (y:Nat)=>min m (l.idxOf y:Nat)) ms:=⟨_,rfl⟩
  rw[← hqe] at B15'
  have hD2:Ds (w.heap.size::D) w':=hK'.d.cons hDn fun h=>by have:=hq.d _ h;omega
  have hf:FrD 85 (bq (w.heap.size::D)) a' w' [(8,E (ptr b8)),(11,E (I ms)),(12,E u),(13,E (I (k:Nat))),(15,E (ptr b15)),(50,E sv),(51,E (I (n:Nat))),(52,E (I (k:Nat)))]:=hf'.keep [8,11,12,13,15,50,51,52]
  have hDl2:∀d∈w.heap.size::D,W.heap.size≤d:=fun d hd=>(List.mem_cons.1 hd).elim (fun h=>by omega) (hDl d)
  have huD2:∀d∈w.heap.size::D,u.ownBlock≠some d:=fun d hd h=>(List.mem_cons.1 hd).elim (fun hh=>by have:=hq.u d h;omega) fun hh=>huD d hh h
  have hn15D:b15 ∉ w.heap.size::D:=fun h=>(List.mem_cons.1 h).elim (fun h=>by omega) fun h=>by have:=hq.d _ h;omega
  have hu15:u.ownBlock≠some b15:=fun h=>by have:=hq.u _ h;omega
  have hK:FoK W N1 N2 b8 bm n lm sv ss ((List.range k).map (foB (nbA g) l)) u (w.heap.size::D) w':=⟨hK'.e,hK'.t,hK'.p8,hK'.m,hK'.s,hK'.o,hD2⟩
  generalize w.heap.size::D=D2 at *
  have hb15w:b15<w'.heap.size:=by omega
  generalize w'=w at *
  have hmsn:((k:Nat):Int)=ms↔k+1=l.length:=by omega
  have hkey:∀q',q'=foU (nbA g) l k→(q',T)=foB (nbA g) l k:=fun q' hq'=>by rw[foB,hq',hT,hS,iG hx]
  have hlq:(elems S).foldl (fun (m:Int) (y:Nat)=>min m (l.idxOf y:Nat)) ((l.length:Int) - 1)=q:=by rw[hqe,hms,hn]
  have hgr:∀(w w':World),FoK W N1 N2 b8 bm n lm sv ss ((List.range k).map (foB (nbA g) l)) u D2 w→w.grownBy w' (some b15)→FoK W N1 N2 b8 bm n lm sv ss ((List.range k).map (foB (nbA g) l)) u D2 w':=fun w w' hK hg=>⟨hK.e.gr hg (by omega),hK.t.gr hg (by omega),hK.p8.gr hg (by have:=hq.lt;omega),hK.m.gr hg (fun h=>by have:=hq.lt;cases h;omega),Dv.grN hK.s hg (fun c hc=>by cases hc;have:=hq.lt;show N1≤_;omega),hK.o.grE hg hu15,hK.d.gr hg hn15D⟩
  obtain⟨bb,hbb⟩:∃bb,(((k:Nat):Int)==ms)=bb:=⟨_,rfl⟩
  have hq0:bb=true→foU (nbA g) l k = -1:=fun h=>by rw[foU,if_pos (hmsn.1 (beq_iff_eq.1 (hbb.trans h)))]
  have hq1:bb=false→foU (nbA g) l k=q:=fun h=>by
   have hne:¬k+1=l.length:=fun h2=>by
    rw[beq_iff_eq.2 (hmsn.2 h2)] at hbb
    rw[← hbb] at h
    cases h
   rw[foU,if_neg hne,← hS,hlq]
  repeat refine seq ?_
  refine rgN 3 hf <| st (mv rfl) <| st (mv rfl) <| st ((eql rfl rfl).eq (congrArg Value.bool (hbb))) <| en fun a w e' hf=>?_
  replace hK:=hK.ext e'
  replace B15':=B15'.ext e'
  refine aa <| cut (J:=fun a w=>FrD 85 (bq D2) a w [(8,E (ptr b8)),(11,E (I ms)),(12,E u),(15,E (ptr b15)),(50,E sv),(51,E (I (n:Nat))),(52,E (I (k:Nat)))]∧FoK W N1 N2 b8 bm n lm sv ss ((List.range k).map (foB (nbA g) l)) u D2 w∧Blk w b15 (bJ (foB (nbA g) l k)) 88) ?_ (fun a w hJ=>?_)
  ·refine ifc hf rfl (fun hc=>?_) (fun hc=>?_)
   ·replace hf:=hf.kp [8,11,12,15,50,51,52]
    refine rgN 1 hf <| st (fA U88 rfl T3 rfl) <| en fun a w e' hf=>?_
    replace hK:=hK.ext e'
    replace B15':=B15'.ext e'
    refine aA T3 hf rfl rfl rfl B15' (by rw[dw];decide) fun w hg hsz B15 hf=>?_
    replace B15:Blk w b15 ((bJ (q,T)).setIfInBounds (0+0) (I (-1))) 88:=B15
    rw[uU] at B15
    rw[hkey (-1) (hq0 hc).symm] at B15
    refine aa ?_
    replace hf:=hf.kp [8,11,12,15,50,51,52]
    exact⟨rfl,hf,hgr _ _ hK hg,B15⟩
   ·refine ak ?_
    rw[hkey q (hq1 hc).symm] at B15'
    replace hf:=hf.kp [8,11,12,15,50,51,52]
    exact⟨rfl,hf,hK,B15'⟩
  obtain⟨hf,hK,B15⟩:=hJ
  refine rgN 3 hf <| st (mv rfl) <| st (ldW T88 rfl B15 (dw _)) <| st (bB (e:=ck) (z:=foB (nbA g) l k) (G:=GO G0 u) U41 I88 rfl (by decide) rfl hK.o.avs (qi rfl)) <| en fun a w e' hf=>?_
  replace hK:=hK.ext e'
  replace B15:=B15.ext e'
  replace hf:=hf.kp [8,11,50,51,52,79,81]
  refine bI U41 I88 rfl rfl hf (by decide) rfl hK.o (isR rfl) (by simp only[List.length_singleton,List.length_map,List.length_range];omega) (by simp only[List.length_singleton,List.length_map,List.length_range,maxLen];omega) fun a u2 w hg hat Hn hf=>?_
  replace hK:=hK.app hg Hn h12 hW2 h8N hmN huD2
  rw[← a4m] at hK
  refine tA hf rfl fun a hf=>aa ?_
  simp only[Exit.inBlock]
  replace hf:=hf.kp [8,11,12,50,51,52]
  refine rgN 1 hf <| st ((add rfl rfl (by omega)).eq (congrArg (Value.int .i64) (show ((k:Nat):Int)+1=((k+1:Nat):Int) from rfl))) <| en fun a w e' hf=>?_
  replace hK:=hK.ext e'
  refine tP hf (mv rfl) fun a w e' hf=>?_
  replace hK:=hK.ext e'
  refine aa ?_
  replace hf:=hf.kp [8,11,12,50,51,52]
  exact⟨r0 - 1,by omega,k+1,u2,D2,by omega,hf,hK,hDl2⟩
 ·have hkn:k=n:=by omega
  refine rgN 1 hf <| st ((lss rfl rfl).eq (congrArg Value.bool ((decide_eq_false (by omega):_=false)))) <| en fun a w e' hf=>?_
  replace hK:=hK.ext e'
  refine aa <| seq <| ifc hf rfl (fun h=>by cases h) (fun _=>aG ?_)
  replace hf:=hf.kp [12]
  refine seq <| rgN 1 hf <| st (mv rfl) <| en fun a w e' hf=>?_
  replace hK:=hK.ext e'
  refine tA hf rfl fun a hf=>tA hf rfl fun a hf=>aa <| ai ?_
  have hos:=(hK.o.chE (eb D w) fun b hb h=>huD b h hb).sl
  rw[hkn,hn] at hos
  exact oG rfl hf rfl rfl hK.d ⟨_,rfl,hK.e.shut hDl,Tup.two hos rfl⟩
end Go.Mono
namespace Go.Ms
inductive Pt (adj:Nat→Nat→Prop)(P:Nat→Prop)(a:Nat):Nat→Prop
 | one {b:Nat}:adj a b→Pt adj P a b
 | step {y b:Nat}:Pt adj P a y→P y→adj y b→Pt adj P a b
section
variable {adj adj':Nat→Nat→Prop}{P Q:Nat→Prop}{a b y:Nat}
theorem Pt.mono (h:Pt adj P a b)(hP:∀y,P y→Q y):Pt adj Q a b:=by
 induction h with
 | one h=>exact .one h
 | step _ h1 h2 ih=>exact .step ih (hP _ h1) h2
end
structure Run (adj:Nat→Nat→Prop)(n:Nat)(u:Nat→Nat)(R:Nat→Nat→Prop)(cnt:Nat→Nat→Nat):Prop where
 sym:∀a b,adj a b→adj b a
 inn:∀a b,adj a b→R 0 a
 mem:∀k,k<n→R k (u k)
 next:∀k,k<n→∀v,R (k+1) v↔R k v∧v≠u k
 all:∀v,¬R n v
 out:∀k,n≤k→∀v,R k v→R n v
 best:∀k,k<n→∀v,R k v→cnt k v≤cnt k (u k)
 yes:∀k,k<n→∀v,R (k+1) v→Pt adj (fun y=>R (k+1) y∧cnt k y<cnt k v) (u k) v→cnt (k+1) v=cnt k v+1
 no:∀k,k<n→∀v,R (k+1) v→¬Pt adj (fun y=>R (k+1) y∧cnt k y<cnt k v) (u k) v→cnt (k+1) v=cnt k v
def Rc (adj:Nat→Nat→Prop)(u:Nat→Nat)(R:Nat→Nat→Prop)(cnt:Nat→Nat→Nat)(k v:Nat):Prop:=R (k+1) v∧Pt adj (fun y=>R (k+1) y∧cnt k y<cnt k v) (u k) v
section
variable {adj:Nat→Nat→Prop}{n:Nat}{u:Nat→Nat}{R:Nat→Nat→Prop}{cnt:Nat→Nat→Nat}(H:Run adj n u R cnt)
include H
theorem Run.sub {k m:Nat}(hkm:k≤m)(hm:m≤n){v:Nat}(h:R m v):R k v:=by
 induction m with
 | zero=>rw[Nat.le_zero.1 hkm];exact h
 | succ m ih=>
  rcases Nat.eq_or_lt_of_le hkm with e|e
  ·rw[e];exact h
  ·exact ih (by omega) (by omega) ((H.next m (by omega) v).1 h).1
end
end Go.Ms
namespace Go.Ms
structure Dj (adj:Nat→Nat→Prop)(rest:Nat→Prop)(w:Nat→Nat)(u:Nat)(seen:Nat→Prop)(cost:Nat→Int)(hp:List (Int×Nat)):Prop where
 path:∀e∈hp,rest e.2∧Pt adj (fun y=>rest y∧(w y:Int)≤e.1) u e.2
 inn:∀x,seen x→rest x
 one:∀n,adj u n→rest n→¬seen n→∃e∈hp,e.2=n∧e.1 ≤ -1
 nbr:∀x n,seen x→adj x n→rest n→¬seen n→∃e∈hp,e.2=n∧e.1≤max (cost x) (w x)
 real:∀x,seen x→Pt adj (fun y=>rest y∧(w y:Int)≤cost x) u x
 least:∀x,seen x→∀s:Int,-1≤s→Pt adj (fun y=>rest y∧(w y:Int)≤s) u x→cost x≤s
section
variable {adj:Nat→Nat→Prop}{rest:Nat→Prop}{w:Nat→Nat}{u:Nat}{seen:Nat→Prop}{cost:Nat→Int}{hp hp':List (Int×Nat)}(D:Dj adj rest w u seen cost hp)
include D
theorem Dj.front {s:Int}(hs : -1≤s){b:Nat}(p:Pt adj (fun y=>rest y∧(w y:Int)≤s) u b)(hb:rest b)(hn:¬seen b):∃e∈hp,e.1≤s:=by
 induction p with
 | one h=>
  obtain⟨e,h1,_,h3⟩:=D.one _ h hb hn
  exact⟨e,h1,by omega⟩
 | @step y b h1 h2 h3 ih=>
  by_cases hy:seen y
  ·obtain⟨e,k1,_,k3⟩:=D.nbr _ _ hy h3 hb hn
   have:=D.least y hy s hs h1
   exact⟨e,k1,by omega⟩
  ·exact ih h2.1 hy
theorem Dj.skip (h1:∀e∈hp',e∈hp)(h2:∀e∈hp,¬seen e.2→e∈hp'):Dj adj rest w u seen cost hp' where
 path:=fun e he=>D.path e (h1 e he)
 inn:=D.inn
 one:=fun n a b c=>by obtain⟨e,k1,k2,k3⟩:=D.one n a b c;exact⟨e,h2 e k1 (by rw[k2];exact c),k2,k3⟩
 nbr:=fun x n a b c d=>by obtain⟨e,k1,k2,k3⟩:=D.nbr x n a b c d;exact⟨e,h2 e k1 (by rw[k2];exact d),k2,k3⟩
 real:=D.real
 least:=D.least
theorem Dj.step {t:Int}{v:Nat}(hm:(t,v)∈hp)(hmin:∀e∈hp,t≤e.1)(hv:¬seen v)
  (h1:∀e∈hp',e∈hp∨(e.1=max t (w v)∧adj v e.2∧rest e.2)) (h2:∀e∈hp,e.2≠v→e∈hp') (h3:∀n,adj v n→rest n→n≠v→¬seen n→(max t (w v:Int),n)∈hp') :
  Dj adj rest w u (fun x=>x=v∨seen x) (fun x=>if x=v then t else cost x) hp':=by
 obtain⟨hr,hpv⟩:=D.path _ hm
 dsimp only at hr hpv
 have fl:∀x,seen x→(fun x=>if x=v then t else cost x) x=cost x:=fun x hx=>if_neg fun e:x=v=>hv (e▸hx)
 have fv:(fun x=>if x=v then t else cost x) v=t:=if_pos rfl
 generalize (fun x=>if x=v then t else cost x)=f at fl fv
 have lv:∀s:Int,-1≤s→Pt adj (fun y=>rest y∧(w y:Int)≤s) u v→t≤s:=fun s hs p=>by
  obtain⟨e,k1,k2⟩:=D.front hs p hr hv
  have:=hmin e k1
  omega
 refine⟨fun e he=>?_,fun x hx=>?_,fun n a b c=>?_,fun x n hx a b c=>?_,fun x hx=>?_,fun x hx s hs p=>?_⟩
 ·rcases h1 e he with h|⟨k1,k2,k3⟩
  ·exact D.path e h
  ·refine⟨k3,?_⟩
   rw[k1]
   exact .step (hpv.mono fun y hy=>⟨hy.1,by have:=hy.2;omega⟩) ⟨hr,by omega⟩ k2
 ·rcases hx with rfl|hx
  ·exact hr
  ·exact D.inn x hx
 ·obtain⟨e,k1,k2,k3⟩:=D.one n a b fun h=>c (.inr h)
  exact⟨e,h2 e k1 (by rw[k2];exact fun e=>c (.inl e)),k2,k3⟩
 ·have c1:n≠v:=fun e=>c (.inl e)
  have c2:¬seen n:=fun h=>c (.inr h)
  rcases hx with e|hx
  ·rw[e] at a
   exact⟨_,h3 n a b c1 c2,rfl,by rw[e,fv];exact Int.le_refl _⟩
  ·obtain⟨e,k1,k2,k3⟩:=D.nbr x n hx a b c2
   exact⟨e,h2 e k1 (by rw[k2];exact c1),k2,by rw[fl x hx];exact k3⟩
 ·rcases hx with e|hx
  ·rw[e,fv];exact hpv
  ·rw[fl x hx];exact D.real x hx
 ·rcases hx with e|hx
  ·rw[e] at p;rw[e,fv];exact lv s hs p
  ·rw[fl x hx];exact D.least x hx s hs p
end
theorem Dj.done {adj:Nat→Nat→Prop}{rest:Nat→Prop}{w:Nat→Nat}{u:Nat}{seen:Nat→Prop}{cost:Nat→Int}(D:Dj adj rest w u seen cost [])(v:Nat) :
  (seen v∧cost v<w v)↔rest v∧Pt adj (fun y=>rest y∧w y<w v) u v:=by
 constructor
 ·rintro⟨h1,h2⟩
  exact⟨D.inn v h1,(D.real v h1).mono fun y hy=>⟨hy.1,by have:=hy.2;omega⟩⟩
 ·rintro⟨h1,h2⟩
  have p:Pt adj (fun y=>rest y∧(w y:Int)≤(w v:Int) - 1) u v:=h2.mono fun y hy=>⟨hy.1,by have:=hy.2;omega⟩
  have hs:seen v:=Classical.byContradiction fun hn=>by
   obtain⟨e,he,_⟩:=D.front (by omega) p h1 hn
   simp at he
  exact⟨hs,by have:=D.least v hs _ (by omega) p;omega⟩
end Go.Ms
namespace Go.Mono
open Go Go.Proofs Go.RowKit
def di (nb:Int→BS)(a b:Nat):Prop:=(nb (a:Int)).getLsbD b=true
end Go.Mono
namespace Go.Mono
open Go Go.Proofs Go.RowKit Go.Ms
structure RcW (W:World)(l:List (Int×BS))(lc:List (Int×Int))(bm nm bc nc:Nat)(R:BS)(b4 b6 b8 b9 b10 b11 bw:Nat)(O D:BS)(v:Value)(xs:List (Int×Nat))(w:World):Prop where
 e:Ext W w
 t:Tab w
 m:MpR sKV w bm nm l
 mc:MpR iKV w bc nc lc
 p4:Blk w b4 #[.map (some bm)] 64
 p6:Blk w b6 (au R) 68
 p8:Blk w b8 (au 0) 68
 p9:Blk w b9 (au O) 68
 p10:Blk w b10 (au D) 68
 p11:Blk w b11 #[ptr bw] 167
 h:HpW bw v xs w
 o:∀b,v.ownBlock=some b→W.heap.size≤b
 hp:HpC xs.length (cst xs)
structure RcD (W:World)(bm bc b4 b6 b8 b9 b10 b11 bw:Nat):Prop where
 lo:W.heap.size≤b4∧W.heap.size≤b6∧W.heap.size≤b8∧W.heap.size≤b9∧W.heap.size≤b10∧W.heap.size≤b11∧W.heap.size≤bw
 hi:bm<W.heap.size∧bc<W.heap.size∧0<W.heap.size
 ne:b6≠b8∧b6≠b9∧b6≠b10∧b8≠b9∧b8≠b10∧b9≠b10∧b4≠b9∧b4≠b10∧b11≠b9∧b11≠b10∧bw≠b9∧bw≠b10∧b4≠b8∧b11≠b8∧bw≠b8
section
variable {W w w':World}{l:List (Int×BS)}{lc:List (Int×Int)}{bm nm bc nc:Nat}{R:BS}{b4 b6 b8 b9 b10 b11 bw:Nat}{O D O' D':BS}{v v':Value}{xs ys:List (Int×Nat)}
theorem RcW.ext (h:RcW W l lc bm nm bc nc R b4 b6 b8 b9 b10 b11 bw O D v xs w)(e:Ext w w'):RcW W l lc bm nm bc nc R b4 b6 b8 b9 b10 b11 bw O D v xs w':=
 ⟨Ext.tr h.e e,h.t.ext e,h.m.ext e,h.mc.ext e,h.p4.ext e,h.p6.ext e,h.p8.ext e,h.p9.ext e,h.p10.ext e,h.p11.ext e,h.h.ext e,h.o,h.hp⟩
theorem RcW.lo (h:RcW W l lc bm nm bc nc R b4 b6 b8 b9 b10 b11 bw O D v xs w)(d:RcD W bm bc b4 b6 b8 b9 b10 b11 bw):∀b,HpS bw v b→W.heap.size≤b:=fun b hb=>hb.elim (fun e=>by rw[e];exact d.lo.2.2.2.2.2.2) (h.o b)
theorem RcW.call (h:RcW W l lc bm nm bc nc R b4 b6 b8 b9 b10 b11 bw O D v xs w)(d:RcD W bm bc b4 b6 b8 b9 b10 b11 bw)(c:Chg (HpS bw v) w w')(h':HpW bw v' ys w')(hl:OwL w v v')(hp:HpC ys.length (cst ys)):RcW W l lc bm nm bc nc R b4 b6 b8 b9 b10 b11 bw O D v' ys w':=by
 have hlo:=h.lo d
 have no:∀b cs ty,Blk w b cs ty→ty≠169→ty≠172→¬HpS bw v b:=fun b cs ty hb h1 h2 hh=>hh.elim (fun e=>hb.ne h.h.p h1 e) fun e=>h.h.o.neB hb (fun e=>h2 e) e
 exact⟨h.e.ch c hlo,h.t.ch c fun hh=>by have:=hlo 0 hh;have:=d.hi.2.2;omega,h.m.pres (c.block bm h.m.lt fun hh=>by have:=hlo _ hh;have:=d.hi.1;omega),h.mc.pres (c.block bc h.mc.lt fun hh=>by have:=hlo _ hh;have:=d.hi.2.1;omega),
  h.p4.ch c (no _ _ _ h.p4 (by decide) (by decide)),h.p6.ch c (no _ _ _ h.p6 (by decide) (by decide)),h.p8.ch c (no _ _ _ h.p8 (by decide) (by decide)),h.p9.ch c (no _ _ _ h.p9 (by decide) (by decide)),h.p10.ch c (no _ _ _ h.p10 (by decide) (by decide)),h.p11.ch c (no _ _ _ h.p11 (by decide) (by decide)),h',
  fun b hb=>(hl b hb).elim (h.o b) fun hh=>Nat.le_trans h.e.size hh,hp⟩
theorem RcW.own (h:RcW W l lc bm nm bc nc R b4 b6 b8 b9 b10 b11 bw O D v xs w):∀b cs ty,Blk w b cs ty→ty≠172→v.ownBlock≠some b:=fun b cs ty hb h2=>h.h.o.neB hb fun e=>h2 e
theorem RcW.core (h:RcW W l lc bm nm bc nc R b4 b6 b8 b9 b10 b11 bw O D v xs w)(d:RcD W bm bc b4 b6 b8 b9 b10 b11 bw){b:Nat}(hb:W.heap.size≤b)(hg:w.grownBy w' (some b)):Ext W w'∧Tab w'∧MpR sKV w' bm nm l∧MpR iKV w' bc nc lc:=by
 obtain⟨h1,h2,h3⟩:=d.hi
 exact⟨h.e.gr hg hb,h.t.gr hg (Nat.lt_of_lt_of_le h3 hb),h.m.pres (hg.block _ h.m.lt fun e=>by cases e;exact absurd hb (Nat.not_le_of_lt h1)),h.mc.pres (hg.block _ h.mc.lt fun e=>by cases e;exact absurd hb (Nat.not_le_of_lt h2))⟩
theorem RcW.st9 (h:RcW W l lc bm nm bc nc R b4 b6 b8 b9 b10 b11 bw O D v xs w)(d:RcD W bm bc b4 b6 b8 b9 b10 b11 bw)(hg:w.grownBy w' (some b9))(hB:Blk w' b9 (au O') 68):RcW W l lc bm nm bc nc R b4 b6 b8 b9 b10 b11 bw O' D v xs w':=by
 obtain⟨q1,q2,q3,q4⟩:=h.core d d.lo.2.2.2.1 hg
 obtain⟨n68,n69,n610,n89,n810,n910,n49,n410,n119,n1110,nw9,nw10,_⟩:=d.ne
 exact⟨q1,q2,q3,q4,h.p4.gr hg n49,h.p6.gr hg n69,h.p8.gr hg n89,hB,h.p10.gr hg n910.symm,h.p11.gr hg n119,⟨h.h.p.gr hg nw9,h.h.o.grE hg (h.own _ _ _ h.p9 (by decide))⟩,h.o,h.hp⟩
theorem RcW.st10 (h:RcW W l lc bm nm bc nc R b4 b6 b8 b9 b10 b11 bw O D v xs w)(d:RcD W bm bc b4 b6 b8 b9 b10 b11 bw)(hg:w.grownBy w' (some b10))(hB:Blk w' b10 (au D') 68):RcW W l lc bm nm bc nc R b4 b6 b8 b9 b10 b11 bw O D' v xs w':=by
 obtain⟨q1,q2,q3,q4⟩:=h.core d d.lo.2.2.2.2.1 hg
 obtain⟨n68,n69,n610,n89,n810,n910,n49,n410,n119,n1110,nw9,nw10,_⟩:=d.ne
 exact⟨q1,q2,q3,q4,h.p4.gr hg n410,h.p6.gr hg n610,h.p8.gr hg n810,h.p9.gr hg n910,hB,h.p11.gr hg n1110,⟨h.h.p.gr hg nw10,h.h.o.grE hg (h.own _ _ _ h.p10 (by decide))⟩,h.o,h.hp⟩
theorem RcW.new {b:Nat}(h:RcW W l lc bm nm bc nc R b4 b6 b8 b9 b10 b11 bw O D v xs w)(d:RcD W bm bc b4 b6 b8 b9 b10 b11 bw){N:Nat}(hN:b4<N∧b6<N∧b8<N∧b9<N∧b10<N∧b11<N∧bw<N)(hNb:N≤b)(ho:∀c,v.ownBlock=some c→c<N)(hg:w.grownBy w' (some b)):RcW W l lc bm nm bc nc R b4 b6 b8 b9 b10 b11 bw O D v xs w':=by
 obtain⟨l4,l6,l8,l9,l10,l11,lw⟩:=hN
 obtain⟨q1,q2,q3,q4⟩:=h.core d (Nat.le_trans d.lo.1 (Nat.le_of_lt (Nat.lt_of_lt_of_le l4 hNb))) hg
 have ne:∀{c:Nat},c<N→c≠b:=fun h=>Nat.ne_of_lt (Nat.lt_of_lt_of_le h hNb)
 exact⟨q1,q2,q3,q4,h.p4.gr hg (ne l4),h.p6.gr hg (ne l6),h.p8.gr hg (ne l8),h.p9.gr hg (ne l9),h.p10.gr hg (ne l10),h.p11.gr hg (ne l11),⟨h.h.p.gr hg (ne lw),h.h.o.grE hg fun e=>ne (ho _ e) rfl⟩,h.o,h.hp⟩
end
theorem a4o {R D:BS}{x:Nat}(hR:R.getLsbD x=true)(hD:¬D.getLsbD x=true):card (R &&& ~~~(ins D (x:Int)))+1≤card (R &&& ~~~D):=by
 have hx:=ay hR
 refine iu (z:=x) (fun i hi=>?_) ((bH _ _ _).2 ⟨hR,hD⟩) fun h=>((bH _ _ _).1 h).2 ((aX D hx).2 (.inr rfl))
 obtain⟨h1,h2⟩:=(bH _ _ _).1 hi
 exact (bH _ _ _).2 ⟨h1,fun h=>h2 ((aX D hx).2 (.inl h))⟩
def RcA (nb:Int→BS)(R:BS)(cn:Nat→Nat)(u:Nat):VA:=⟨fun v _=>∃r:BS,v=ac r∧∀x,r.getLsbD x=true↔R.getLsbD x=true∧Ms.Pt (di nb) (fun y=>R.getLsbD y=true∧cn y<cn x) u x,fun _ _ _ _ h=>h⟩
def stV (b4 b6 b10 b11:Nat):Value:=.func (.func 107) #[] #[ptr b4,ptr b6,ptr b10,ptr b11]
theorem a4p {l:List (Int×BS)}{lc:List (Int×Int)}{bm nm bc nc:Nat}{R:BS}{cn:Nat→Nat}(u:Nat)(W:World)(hT:Tab W)(hu:u<1024)(HM:MpR sKV W bm nm l)(HC:MpR iKV W bc nc lc)(hcn:∀x:Nat,x<1024→lkI lc (x:Int)=(cn x:Int)) :
  Calls Tryz.prog 72 #[.map (some bm),.map (some bc),ac R,I (u:Nat)] W (Post (RcA (lkS l) R cn u) W):=by
 have hT0:=hT.lt
 have lm:=HM.lt
 have lc':=HC.lt
 refine eN [.map (some bm),.map (some bc),ac R,I (u:Nat)] [E (.map (some bm)),E (.map (some bc)),E (ac R),E (I (u:Nat))] Tryz.func72 Tryz.ntmps72 ?_ fun a hf=>?_
 rotate_left
 dsimp only[params,Nat.reduceAdd] at hf
 rotate_right
 ·exact aQ rfl (aQ rfl (aQ rfl (aQ rfl cO)))
 have e:=Ext.rfl' W
 refine seq <| ae <| tB hf rfl fun a b4 w v4 hv4 e' hb4 hs4 B4 hf=>?_
 obtain⟨HM,HC,hT,e⟩:=up4 e' HM HC hT e
 refine tB hf rfl fun a b6 w v6 hv6 e' hb6 hs6 B6 hf=>?_
 obtain⟨HM,HC,hT,e,B4⟩:=up5 e' HM HC hT e B4
 refine tL I68 hf fun a b8 w e' hb8 hs8 B8 hf=>?_
 obtain⟨HM,HC,hT,e,B4,B6⟩:=up6 e' HM HC hT e B4 B6
 refine aa ?_
 cases hv4;cases hv6
 replace B4:Blk w b4 #[.map (some bm)] 64:=B4
 replace B6:Blk w b6 (au R) 68:=B6
 simp only[Value.cells,cE] at B8
 refine seq <| ae <| tL I68 hf fun a b9 w e' hb9 hs9 B9 hf=>?_
 obtain⟨HM,HC,hT,e,B4,B6,B8⟩:=up7 e' HM HC hT e B4 B6 B8
 refine tL I68 hf fun a b10 w e' hb10 hs10 B10 hf=>?_
 obtain⟨HM,HC,hT,e,B4,B6,B8,B9⟩:=up8 e' HM HC hT e B4 B6 B8 B9
 refine aa ?_
 simp only[Value.cells,cE] at B9 B10
 replace hf:=hf.kp [1,3,4,6,8,9,10]
 refine seq <| ae <| qg 1 G0 wyE dI fg hf (by decide) hT.lt (fun b hb=>hb.elim) fun a v w e' hov Ho hf=>?_
 replace B4:=B4.ext e';replace B6:=B6.ext e';replace B8:=B8.ext e';replace B9:=B9.ext e';replace B10:=B10.ext e'
 have hWv:∀b,v.ownBlock=some b→W.heap.size≤b:=fun b hb=>by rw[hov] at hb;cases hb;exact e.size
 replace e:=e.tr e';replace HM:=HM.ext e';replace HC:=HC.ext e';replace hT:=hT.ext e';clear e' hov
 refine tB hf rfl fun a b16 w v16 hv16 e' hb16 hs16 B16 hf=>?_
 have lt16_B8:=B8.lt
 have lt16_B9:=B9.lt
 have lt16_B10:=B10.lt
 replace HM:=HM.ext e'
 replace HC:=HC.ext e'
 replace hT:=hT.ext e'
 replace Ho:=Ho.ext e'
 replace e:=e.tr e'
 replace B4:=B4.ext e'
 replace B6:=B6.ext e'
 replace B8:=B8.ext e'
 replace B9:=B9.ext e'
 replace B10:=B10.ext e'
 refine tL vI hf fun a b11 w e' hb11 hs11 B11 hf=>?_
 have hle11:=Nat.le_trans e.size (Nat.le_of_eq hb11.symm)
 have lt11_B9:=B9.lt
 have lt11_B10:=B10.lt
 have lt11_B16:=B16.lt
 obtain⟨HM,HC,hT,Ho,e,B4,B6,B8,B9⟩:=up9 e' HM HC hT Ho e B4 B6 B8 B9
 obtain⟨B10,B16⟩:=up2 e' B10 B16
 obtain rfl:v16=v:=hv16
 replace B16:Blk w b16 #[v16] 169:=by
  have h:=B16
  rwa [show v16.cells = #[v16] from by rcases Ho.rw iy with ⟨rfl,_⟩|⟨_,_,_,rfl,_⟩ <;> rfl] at h
 have ho11:=Ho.neB B11 (by decide)
 have d:RcD W bm bc b4 b6 b8 b9 b10 b11 b16:=⟨by omega,by omega,by omega⟩
 have hne11:b11≠b16:=by omega
 have hw11:W.heap.size≤b11:=hle11
 refine aA iP hf rfl rfl rfl B11 (by decide) fun w hg hsz B11 hf=>?_
 have h:RcW W l lc bm nm bc nc R b4 b6 b8 b9 b10 b11 b16 0 0 v16 [] w:=⟨e.gr hg hw11,hT.gr hg (by omega),HM.pres (hg.block _ HM.lt fun e=>by cases e;omega),HC.pres (hg.block _ HC.lt fun e=>by cases e;omega),B4.gr hg (by omega),B6.gr hg (by omega),B8.gr hg (by omega),B9.gr hg (by omega),B10.gr hg (by omega),B11,⟨B16.gr hg (by omega),Ho.grE hg ho11⟩,hWv,fun k hk=>absurd hk (Nat.not_lt_zero k)⟩
 refine aa ?_
 replace hf:=hf.kp [1,3,8,4,6,9,10,11]
 refine seq <| rgN 1 hf <| st (mS rfl rfl rfl rfl) <| en fun a w e' hf=>?_
 replace h:=h.ext e'
 refine tA hf rfl fun a hf=>aa ?_
 obtain⟨bw,hbw⟩:∃bw,bw=b16:=⟨_,rfl⟩
 rw[← hbw] at h d
 obtain⟨nb,hnb⟩:∃nb,nb=lkS l:=⟨_,rfl⟩
 rw[← hnb]
 have hstep:∀(cost:Int) (id:Nat) (O D:BS) (v:Value) (xs:List (Int×Nat)) (w:World),id<1024→RcW W l lc bm nm bc nc R b4 b6 b8 b9 b10 b11 bw O D v xs w→xs.length≤10000000 →
   Calls Tryz.prog 107 #[I cost,I (id:Nat),ptr b4,ptr b6,ptr b10,ptr b11] w (fun en w'=>en=.returned (.tuple #[])∧∃v' ys,Chg (HpS bw v) w w'∧RcW W l lc bm nm bc nc R b4 b6 b8 b9 b10 b11 bw O D v' ys w'∧ys.length≤xs.length+1024∧∀e,e∈ys↔e∈xs∨(e.1=cost∧(nb (id:Int) &&& R &&& ~~~D).getLsbD e.2=true)):=fun cost id O D v xs w hid h hl=>by
  rw[hnb]
  exact (a2Q cost id xs v w h.t hid h.p4 h.m h.p6 h.p10 h.p11 h.h (by have:=d.lo;have:=d.hi;omega) h.hp hl).mono fun en w' ⟨k1,v',ys,k2,k3,k4,k5,k6,k7⟩=>⟨k1,v',ys,k2,h.call d k2 k3 k4 k7,k5,k6⟩
 refine seq <| rgN 2 hf <| st (mv rfl) <| st (mv rfl) <| en fun a w e' hf=>?_
 replace h:=h.ext e'
 refine fu (S:=HpS bw v16) (F:=fun w'=>∃v' ys,RcW W l lc bm nm bc nc R b4 b6 b8 b9 b10 b11 bw 0 0 v' ys w'∧ys.length≤1024∧∀e,e∈ys↔(e.1 = -1∧(nb (u:Int) &&& R &&& ~~~0).getLsbD e.2=true)) (A:=E (.tuple #[])) hf (by decide) pK rfl ?_ fun a w hc hF hf=>?_
 ·have e1:a.eval (.tmp 19)=I (u:Nat):=hf.opd (.tmp 19) _ rfl
  have e2:a.eval (.const (.int .i64 (-1)))=I (-1):=rfl
  simp only[List.map_toArray,List.map_cons,List.map_nil,e1,e2]
  exact (hstep (-1) u 0 0 v16 [] _ hu h (by simp)).mono fun en w' ⟨k1,v',ys,k2,k3,k4,k5⟩=>⟨_,k1,k2,rfl,v',ys,k3,by simpa using k4,fun e=>(k5 e).trans ⟨fun h=>h.resolve_left (by simp),.inr⟩⟩
 obtain⟨v0,x0,h,hx0,hm0⟩:=hF
 refine aa ?_
 replace hf:=hf.kp [1,8,9,10,11,12]
 obtain⟨K,hK⟩:∃K,K=1050624:=⟨_,rfl⟩
 have hD0:Dj (di nb) (fun x=>R.getLsbD x=true) cn u (fun x=>(0:BS).getLsbD x=true) (fun _=>0) x0:=by
  refine⟨fun e he=>?_,fun x hx=>absurd hx (aW x),fun n h1 h2 _=>?_,fun x n hx=>absurd hx (aW x),fun x hx=>absurd hx (aW x),fun x hx=>absurd hx (aW x)⟩
  ·obtain⟨h1,h2⟩:=(hm0 e).1 he
   have h3:=(ed _ _ _).1 ((bH _ _ _).1 h2).1
   exact⟨h3.2,.one h3.1⟩
  ·exact⟨(-1,n),(hm0 _).2 ⟨rfl,(bH _ _ _).2 ⟨(ed _ _ _).2 ⟨h1,h2⟩,aW n⟩⟩,rfl,Int.le_refl _⟩
 refine seq <| blk (aJ (fun r0 a w=>∃(O D:BS) (v:Value) (xs:List (Int×Nat)) (cost:Nat→Int),xs.length+1025 * card (R &&& ~~~D)≤r0∧r0≤K∧Dj (di nb) (fun x=>R.getLsbD x=true) cn u (fun x=>D.getLsbD x=true) cost xs∧(∀x,O.getLsbD x=true↔D.getLsbD x=true∧cost x<cn x) ∧
  Fr 64 a w [(1,E (.map (some bc))),(8,E (ptr b8)),(9,E (ptr b9)),(10,E (ptr b10)),(11,E (ptr b11)),(12,E (stV b4 b6 b10 b11))]∧RcW W l lc bm nm bc nc R b4 b6 b8 b9 b10 b11 bw O D v xs w) K ⟨0,0,v0,x0,fun _=>0,by have:=fE (S:=R &&& ~~~0) (n:=1024) (fun i hi=>ay hi);omega,Nat.le_refl _,hD0,fun x=>⟨fun h=>absurd h (aW x),fun h=>absurd h.1 (aW x)⟩,hf,h⟩ ?_)
 rintro r0 a w ⟨O,D,v,xs,cost,hr0,hrK,hD,hO,hf,h⟩
 have hxl:xs.length≤1050624:=by omega
 repeat refine seq ?_
 by_cases hxs:xs=[]
 ·subst hxs
  refine rgN 5 hf <| st (ld1 (v:=ptr bw) iP rfl h.p11 rfl) <| st (eO rfl) <| st (ld1 (v:=v) el rfl h.h.p rfl) <| st (an (A:=E (I 0)) my rfl (fun u w he k=>by cases k;exact ly [] v w (h.h.o.ext he))) ?_
  refine st ((gtr rfl rfl).eq (congrArg Value.bool ((decide_eq_false (by omega):_=false)))) <| en fun a w e' hf=>?_
  replace h:=h.ext e'
  refine aa <| ifc hf rfl (fun h=>by cases h) (fun _=>aG ?_)
  replace hf:=hf.kp [8,9]
  refine seq <| rgN 1 hf <| st ((ldW T68 rfl h.p9 rfl).eq ((rfl:_=ac O))) <| en fun a w e' hf=>?_
  replace h:=h.ext e'
  refine az T68 hf rfl rfl (aP _) h.p8 rfl (aZ _) fun w hg hsz B8 hf=>aa <| ai <| dP rfl T68 hf rfl B8 (aZ _) <| ⟨_,rfl,h.e.gr hg d.lo.2.2.1,O,rfl,fun x=>(hO x).trans (hD.done x)⟩
 ·have hpos:0<xs.length:=List.length_pos_iff.2 hxs
  refine rgN 5 hf <| st (ld1 (v:=ptr bw) iP rfl h.p11 rfl) <| st (eO rfl) <| st (ld1 (v:=v) el rfl h.h.p rfl) <| st (an (A:=E (I (xs.length:Nat))) my rfl (fun u w he k=>by cases k;exact ly xs v w (h.h.o.ext he))) ?_
  refine st ((gtr rfl rfl).eq (congrArg Value.bool ((decide_eq_true (by omega):_=true)))) <| en fun a w e' hf=>?_
  replace h:=h.ext e'
  refine aa <| ifc hf rfl (fun _=>ak ?_) (fun h=>by cases h)
  refine blk ?_
  replace hf:=hf.kp [1,8,9,10,11,12]
  refine seq <| rgN 2 hf <| st (ld1 (v:=ptr bw) iP rfl h.p11 rfl) <| st (mkI gG rfl rfl) <| en fun a w e' hf=>?_
  replace h:=h.ext e'
  refine bU (S:=HpS bw v) (F:=fun z w'=>∃x v' ys,z=.iface 172 (wyV x)∧RcW W l lc bm nm bc nc R b4 b6 b8 b9 b10 b11 bw O D v' ys w'∧ys.length+1=xs.length∧x∈xs∧(∀e∈xs,x.1≤e.1)∧(∀e∈ys,e∈xs)∧(∀e∈xs,e≠x→e∈ys)) hf (by decide) wZ ?_ fun a z w hc hF hf=>?_
  ·have e1:a.eval (.tmp 28)=wyI bw:=hf.opd (.tmp 28) _ rfl
   simp only[List.map_toArray,List.map_cons,List.map_nil,e1]
   exact (a2P xs bw v _ h.h h.hp hxs (by omega)).mono fun en w' ⟨x,v',ys,k1,k2,k3,k4,k5,k6,k7,k8,k9,k10⟩=>⟨_,k1,k2,x,v',ys,rfl,h.call d k2 k3 k4 k10,k5,k6,k7,k8,k9⟩
  obtain⟨x,v2,ys,rfl,h,hyl,hx1,hx2,hy1,hy2⟩:=hF
  have hxR:=(hD.path x hx1).1
  have hx1024:x.2<1024:=ay hxR
  have hwx:(Lit.int .i64 (x.2:Int)).wf=true:=bh (by omega) (by omega)
  obtain⟨Nw,hNw⟩:∃Nw,Nw=w.heap.size:=⟨_,rfl⟩
  have hNl:b4<Nw∧b6<Nw∧b8<Nw∧b9<Nw∧b10<Nw∧b11<Nw∧bw<Nw:=by rw[hNw];exact⟨h.p4.lt,h.p6.lt,h.p8.lt,h.p9.lt,h.p10.lt,h.p11.lt,h.h.p.lt⟩
  have hNo:∀c,v2.ownBlock=some c→c<Nw:=fun c hc=>by rw[hNw];exact (h.h.o.lt hc).2
  have hN1:Nw≤w.heap.size:=Nat.le_of_eq hNw
  refine tP hf (asI cY rfl rfl) fun a w e' hf=>?_
  replace h:=h.ext e'
  replace hN1:=Nat.le_trans hN1 e'.size
  refine tP hf (mv rfl) fun a w e' hf=>?_
  replace h:=h.ext e'
  replace hN1:=Nat.le_trans hN1 e'.size
  refine tP hf (exE rfl rfl) fun a w e' hf=>?_
  replace h:=h.ext e'
  replace hN1:=Nat.le_trans hN1 e'.size
  refine tP hf (exE rfl rfl) fun a w e' hf=>?_
  replace h:=h.ext e'
  replace hN1:=Nat.le_trans hN1 e'.size
  refine tL iQ hf fun a b13 w e' hb13 hs13 B13 hf=>?_
  have lo13_hN1:=Nat.le_trans hN1 (Nat.le_of_eq hb13.symm)
  replace h:=h.ext e'
  replace hN1:=Nat.le_trans hN1 e'.size
  have hN13:Nw≤b13:=lo13_hN1
  refine az eK hf rfl rfl (oo x) B13 rfl rfl fun w hg hsz B13 hf=>?_
  replace h:=h.new d hNl hN13 hNo hg
  replace B13:Blk w b13 #[I x.1,I (x.2:Nat)] 172:=B13
  refine tA hf rfl fun a hf=>aa ?_
  replace hf:=hf.kp [1,8,9,10,11,12,13]
  by_cases hseen:D.getLsbD x.2=true
  ·have hbs:has D (x.2:Int)=true:=(gQ _ _).2 hseen
   repeat refine seq ?_
   refine rgN 4 hf <| st ((ldW T68 rfl h.p10 rfl).eq ((rfl:_=ac D))) <| st (fA cY rfl T3 rfl) <| st (ld1 (v:=I (x.2:Nat)) T3 rfl B13 rfl) <| st (ar (A:=E (B true)) (B:=E (ac D)) (C:=E (I (x.2:Nat))) iR rfl rfl (fun a b w he h1 h2=>by cases h1;cases h2;have:=iX D (x.2:Int) w;rwa [hbs] at this)) ?_
   refine en fun a w e' hf=>?_
   replace h:=h.ext e'
   replace B13:=B13.ext e'
   refine aa <| ifc hf rfl (fun _=>aG ?_) (fun h=>by cases h)
   replace hf:=hf.kp [1,8,9,10,11,12]
   refine⟨r0 - 1,by omega,O,D,v2,ys,cost,by omega,by omega,hD.skip hy1 (fun e he hne=>hy2 e he fun hh=>hne (by rw[hh];exact hseen)),hO,hf,h⟩
  have hbs:has D (x.2:Int)=false:=by
   cases hb:has D (x.2:Int) with
   | false=>rfl
   | true=>exact absurd ((gQ _ _).1 hb) hseen
  repeat refine seq ?_
  refine rgN 4 hf <| st ((ldW T68 rfl h.p10 rfl).eq ((rfl:_=ac D))) <| st (fA cY rfl T3 rfl) <| st (ld1 (v:=I (x.2:Nat)) T3 rfl B13 rfl) <| st (ar (A:=E (B false)) (B:=E (ac D)) (C:=E (I (x.2:Nat))) iR rfl rfl (fun a b w he h1 h2=>by cases h1;cases h2;have:=iX D (x.2:Int) w;rwa [hbs] at this)) ?_
  refine en fun a w e' hf=>?_
  replace h:=h.ext e'
  replace B13:=B13.ext e'
  refine aa <| ifc hf rfl (fun h=>by cases h) (fun _=>ak ?_)
  replace hf:=hf.kp [1,8,9,10,11,12,13]
  have n13:b13≠b10∧b13≠b9:=by omega
  refine seq <| rgN 4 hf <| st ((ldW T68 rfl h.p10 rfl).eq ((rfl:_=ac D))) <| st (fA cY rfl T3 rfl) <| st (ld1 (v:=I (x.2:Nat)) T3 rfl B13 rfl) <| st (ar (A:=E (ac (ins D (x.2:Int)))) dr rfl rfl (fun v u w he h h'=>by cases h;cases h';exact du D (x.2:Int) w)) ?_
  refine en fun a w e' hf=>?_
  replace h:=h.ext e'
  replace B13:=B13.ext e'
  refine az T68 hf rfl rfl (aP _) h.p10 rfl (aZ _) fun w hg hsz B10 hf=>?_
  replace h:=h.st10 d hg B10
  replace B13:=B13.gr hg n13.1
  refine aa ?_
  replace hf:=hf.keep [1,8,9,10,11,12,13]
  obtain⟨D2,hD2⟩:∃D2,D2=ins D (x.2:Int):=⟨_,rfl⟩
  rw[← hD2] at h
  have hcs:=a4o hxR hseen
  rw[← hD2] at hcs
  have hD2b:∀i,D2.getLsbD i=true↔(i=x.2∨D.getLsbD i=true):=fun i=>by rw[hD2,aX D hx1024];exact Or.comm
  repeat refine seq ?_
  refine cut (J:=fun a w=>∃b:Bool,b=decide (x.1<(cn x.2:Int))∧Fr 64 a w [(1,E (.map (some bc))),(8,E (ptr b8)),(9,E (ptr b9)),(10,E (ptr b10)),(11,E (ptr b11)),(12,E (stV b4 b6 b10 b11)),(13,E (ptr b13)),(47,E (B b))]∧RcW W l lc bm nm bc nc R b4 b6 b8 b9 b10 b11 bw O D2 v2 ys w∧Blk w b13 #[I x.1,I (x.2:Nat)] 172) ?_ (fun a w hJ=>?_)
  ·repeat refine seq ?_
   refine rgN 7 hf <| st (fA cY rfl T3 rfl) <| st (ld1 (v:=I x.1) T3 rfl B13 rfl) <| st (mv rfl) <| st (fA cY rfl T3 rfl) <| st (ld1 (v:=I (x.2:Nat)) T3 rfl B13 rfl) <| st ((gz U89 rfl h.mc rfl hwx).eq (congrArg (Value.int .i64) (hcn x.2 hx1024))) <| st (lss rfl rfl) <| en fun a w e' hf=>?_
   replace h:=h.ext e'
   replace B13:=B13.ext e'
   refine aa ?_
   replace hf:=hf.keep [1,8,9,10,11,12,13,47]
   exact⟨rfl,_,rfl,hf,h,B13⟩
  obtain⟨bb,hbb,hf,h,B13⟩:=hJ
  refine cut (J:=fun a w=>∃O2:BS,(∀i,O2.getLsbD i=true↔O.getLsbD i=true∨(i=x.2∧x.1<(cn x.2:Int)))∧Fr 64 a w [(1,E (.map (some bc))),(8,E (ptr b8)),(9,E (ptr b9)),(10,E (ptr b10)),(11,E (ptr b11)),(12,E (stV b4 b6 b10 b11)),(13,E (ptr b13))]∧RcW W l lc bm nm bc nc R b4 b6 b8 b9 b10 b11 bw O2 D2 v2 ys w∧Blk w b13 #[I x.1,I (x.2:Nat)] 172) ?_ (fun a w hJ=>?_)
  ·refine ifc hf rfl (fun hb=>?_) (fun hb=>?_)
   ·replace hb:bb=true:=hb
    rw[hbb] at hb
    have hlt:=of_decide_eq_true hb
    refine rgN 4 hf <| st ((ldW T68 rfl h.p9 rfl).eq ((rfl:_=ac O))) <| st (fA cY rfl T3 rfl) <| st (ld1 (v:=I (x.2:Nat)) T3 rfl B13 rfl) <| st (ar (A:=E (ac (ins O (x.2:Int)))) dr rfl rfl (fun v u w he h h'=>by cases h;cases h';exact du O (x.2:Int) w)) ?_
    refine en fun a w e' hf=>?_
    replace h:=h.ext e'
    replace B13:=B13.ext e'
    refine az T68 hf rfl rfl (aP _) h.p9 rfl (aZ _) fun w hg hsz B9 hf=>?_
    replace h:=h.st9 d hg B9
    replace B13:=B13.gr hg n13.2
    refine aa ?_
    replace hf:=hf.keep [1,8,9,10,11,12,13]
    exact⟨rfl,_,fun i=>by rw[aX O hx1024];exact or_congr Iff.rfl ⟨fun h=>⟨h,hlt⟩,fun h=>h.1⟩,hf,h,B13⟩
   ·replace hb:bb=false:=hb
    rw[hbb] at hb
    have hnl:=of_decide_eq_false hb
    refine ak ?_
    replace hf:=hf.keep [1,8,9,10,11,12,13]
    exact⟨rfl,O,fun i=>⟨.inl,fun h=>h.elim (fun h=>h) fun h=>absurd h.2 hnl⟩,hf,h,B13⟩
  obtain⟨O2,hO2,hf,h,B13⟩:=hJ
  refine rgN 10 hf <| st (mv rfl) <| st (fA cY rfl T3 rfl) <| st (ld1 (v:=I x.1) T3 rfl B13 rfl) <| st (mv rfl) <| st (fA cY rfl T3 rfl) <| st (ld1 (v:=I (x.2:Nat)) T3 rfl B13 rfl) <| st ((gz U89 rfl h.mc rfl hwx).eq (congrArg (Value.int .i64) (hcn x.2 hx1024))) <| st (max2 rfl rfl) <| st (fA cY rfl T3 rfl) <| st (ld1 (v:=I (x.2:Nat)) T3 rfl B13 rfl) <| en fun a w e' hf=>?_
  replace h:=h.ext e'
  replace B13:=B13.ext e'
  replace hf:=hf.kp [1,8,9,10,11,12,52,59,61]
  refine fu (S:=HpS bw v2) (F:=fun w'=>∃v' zs,RcW W l lc bm nm bc nc R b4 b6 b8 b9 b10 b11 bw O2 D2 v' zs w'∧zs.length≤ys.length+1024∧∀e,e∈zs↔e∈ys∨(e.1=max x.1 (cn x.2:Int)∧(nb (x.2:Int) &&& R &&& ~~~D2).getLsbD e.2=true)) (A:=E (.tuple #[])) hf (by decide) pK rfl ?_ fun a w hc hF hf=>?_
  ·have e1:a.eval (.tmp 59)=I (max x.1 (cn x.2:Int)):=hf.opd (.tmp 59) _ rfl
   have e2:a.eval (.tmp 61)=I (x.2:Nat):=hf.opd (.tmp 61) _ rfl
   simp only[List.map_toArray,List.map_cons,List.map_nil,e1,e2]
   exact (hstep _ x.2 O2 D2 v2 ys _ hx1024 h (by omega)).mono fun en w' ⟨k1,v',zs,k2,k3,k4,k5⟩=>⟨_,k1,k2,rfl,v',zs,k3,k4,k5⟩
  obtain⟨v3,zs,h,hzl,hzm⟩:=hF
  refine aa ?_
  simp only[Exit.inBlock]
  replace hf:=hf.kp [1,8,9,10,11,12]
  have hDn:=hD.step (hp':=zs) hx1 hx2 hseen (fun e he=>((hzm e).1 he).imp (hy1 e) fun⟨k1,k2⟩=>by
    have k3:=(ed _ _ _).1 ((bH _ _ _).1 k2).1
    exact⟨k1,k3.1,k3.2⟩) (fun e he hne=>(hzm e).2 (.inl (hy2 e he fun hh=>hne (by rw[hh])))) (fun n k1 k2 k3 k4=>(hzm _).2 (.inr ⟨rfl,(bH _ _ _).2 ⟨(ed _ _ _).2 ⟨k1,k2⟩,fun hh=>((hD2b n).1 hh).elim k3 k4⟩⟩))
  rw[show (fun y=>y=x.2∨D.getLsbD y=true)=fun y=>D2.getLsbD y=true from funext fun y=>propext (hD2b y).symm] at hDn
  refine⟨r0 - 1,by omega,O2,D2,v3,zs,_,by omega,by omega,hDn,fun i=>?_,hf,h⟩
  rw[hO2,hO,hD2b]
  by_cases hi:i=x.2
  ·rw[if_pos hi,hi]
   exact⟨fun h=>h.elim (fun h=>absurd h.1 hseen) fun h=>⟨.inl rfl,h.2⟩,fun h=>.inr ⟨rfl,h.2⟩⟩
  ·rw[if_neg hi]
   exact⟨fun h=>h.elim (fun h=>⟨.inr h.1,h.2⟩) fun h=>absurd h.1 hi,fun h=>.inl ⟨h.1.resolve_left hi,h.2⟩⟩
end Go.Mono
