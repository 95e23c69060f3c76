/-
  Walks of functions and plain facts.
  No condition.
-/
import Derived.Test.YtbjangoghokneaaGreatDoorRF
import Derived.Test.YtbjangoghokneaaGreatDoorRC
import Derived.Test.YtbjangoghokneaaGreatDoorRD
import Derived.Test.YtbjangoghokneaaGreatDoorRE
import Derived.Test.YtbjangoghokneaaGreatDoorRA
import Derived.Test.YtbjangoghokneaaGreatDoorRB
set_option linter.unusedVariables false
set_option linter.unusedSimpArgs false
namespace Go.Mono
open Go Go.Proofs Go.RowKit Go.Gr
def wkN (nb:Int→BS)(a:Nat):Nat→BS
 | 0=>ins 0 (a:Int)
 | n+1=>nxN nb (wkN nb a n)
def wkL (nb:Int→BS)(a m:Nat):List BS:=(List.range (m+1)).map (wkN nb a)
theorem wkL_succ (nb:Int→BS)(a m:Nat):wkL nb a (m+1)=wkL nb a m++[nxN nb (wkN nb a m)]:=by rw[wkL,List.range_succ,List.map_append];rfl
theorem wkL_len (nb:Int→BS)(a m:Nat):(wkL nb a m).length=m+1:=by simp[wkL]
theorem wkL_at (nb:Int→BS)(a:Nat){m i:Nat}(h:i≤m):(wkL nb a m)[i]?=some (wkN nb a i):=by
 rw[wkL,List.getElem?_map,List.getElem?_range (by omega)];rfl
structure WkK (W:World)(N0 N:Nat)(S0:BS)(mq:Value)(l:List (Int×BS))(b3:Nat)(u:Value)(out:List BS)(D:List Nat)(w:World):Prop where
 e:Ext W w
 t:Tab w
 hv:(Dv (mpE sKV N0) (GB W Go.Mono.G0) l).p mq w
 b3:Blk w b3 (adC S0 mq) 79
 o:OwR setE 76 N Go.Mono.G0 w out u
 ds:Ds D w
theorem WkK.kp {W:World}{N0 N:Nat}{S0:BS}{mq:Value}{l:List (Int×BS)}{b3:Nat}{u:Value}{out:List BS}{D:List Nat}{B:Nat}{w w':World}(h:WkK W N0 N S0 mq l b3 u out D w)(k:Kp B w w')(hW:W.heap.size≤B)(h0:0<B)(l3:b3<B)(lu:∀g,u.ownBlock=some g→g<B)(hD:∀d∈D,d<B) :
  WkK W N0 N S0 mq l b3 u out D w':=
 have no:∀{b},b<B→¬Hole B b:=fun h hh=>by have:=hh.1;omega
 ⟨h.e.kp k hW,h.t.kp k h0,Dv.ch h.hv k.chg (fun b hb=>.inr (by have:=hb.1;omega)),h.b3.kp k (no l3),h.o.chE k.chg fun g hg=>no (lu g hg),h.ds.ch k.chg fun d hd=>no (hD d hd)⟩
theorem walks_spec {G:Nat→Prop}{N0:Nat}(l:List (Int×BS))(S0:BS)(mq:Value)(x m:Nat)(W:World)(hT:Tab W)(h:(Dv (mpE sKV N0) G l).p mq W)(hx:x<1024)(hm:m≤2000) :
  Calls Tryz.prog 79 #[.agg (adC S0 mq),I (x:Nat),I (m:Nat)] W (Post (OwA setE 76 W.heap.size Go.Mono.G0 (wkL (lkS l) x m)) W):=by
 have HV:(Dv (mpE sKV N0) (GB W Go.Mono.G0) l).p mq W:=Dv.toB (Dv.weak h fun b _ hb=>hb.elim)
 have hT0:=hT.lt
 refine enterM (args:=[.agg (adC S0 mq),I (x:Nat),I (m:Nat)]) (As:=[E (.agg (adC S0 mq)),E (I (x:Nat)),E (I (m:Nat))]) Tryz.func79 rfl Tryz.ntmps79 (Nat.le_of_ble_eq_true rfl) ?_ (fun a hf=>?_) (Nat.le_of_ble_eq_true rfl)
 ·exact arg3 rfl rfl rfl
 have e:=Ext.rfl' W
 refine seq <| regn0 <| tB hf rfl fun a b3 w v3 hv3 e' hb3 hs3 B3 hf=>?_
 obtain⟨hT,HV,e⟩:=up3 e' hT HV e
 refine tA hf rfl fun a hf=>tl_nil ?_
 cases hv3
 replace B3:Blk w b3 (adC S0 mq) 79:=B3
 have hW3:W.heap.size≤b3:=by omega
 replace hf:=hf.keep [1,2,3]
 obtain⟨N,hN⟩:∃N,N=w.heap.size:=⟨_,rfl⟩
 have hNs:N≤w.heap.size:=Nat.le_of_eq hN
 have hWN:W.heap.size≤N:=by rw[hN];exact e.size
 have h3N:b3<N:=by rw[hN];exact B3.lt
 obtain⟨S1,hS1⟩:∃S1,S1=ins 0 (x:Int):=⟨_,rfl⟩
 refine seq <| rgN 4 hf <| st (mv rfl) <| st (bsl1 (e:=intE) (G:=Go.Mono.G0) U35 I3 rfl (by decide) rfl (fun b hb=>hb.elim) (isI rfl)) <| st ((call1 En63 rfl (fun v w he h=>of_spec [(x:Int)] v w h (by simp))).eq (congrArg setV ((fold1 (x:Int) 0).trans hS1.symm))) <| st (bslOF (e:=setE) (B:=N) (G:=Go.Mono.G0) (G0:=Go.Mono.G0) U83 I76 rfl (by decide) rfl (isS rfl) hNs (fun b hb=>hb.elim)) <| en fun a w e' hf=>?_
 obtain⟨hT,HV,e,B3⟩:=up4 e' hT HV e B3
 refine tA hf rfl fun a hf=>tl_nil ?_
 obtain⟨u0,Ho,hf⟩:=hf.opn 7 rfl
 replace Ho:OwR setE 76 N Go.Mono.G0 w [S1] u0:=Ho
 replace hf:=hf.keep [2,3,7]
 repeat refine seq ?_
 refine rgN 2 hf <| st (mv rfl) <| st (mv rfl) <| en fun a w e' hf=>?_
 obtain⟨hT,HV,Ho,e,B3⟩:=up5 e' hT HV Ho e B3
 refine tl_nil ?_
 have h00:wkL (lkS l) x 0=[S1]:=by rw[hS1];rfl
 rw[← h00] at Ho
 replace hf:=hf.keep [3,7,14,15]
 refine blk (loopN (fun r0 a w=>∃(k:Nat) (u:Value) (D:List Nat),r0=m - k∧k≤m∧FrD 37 (marks D) a w [(3,E (ptr b3)),(7,E u),(14,E (I (m:Nat))),(15,E (I (k:Nat)))]∧WkK W N0 N S0 mq l b3 u (wkL (lkS l) x k) D w∧∀d∈D,W.heap.size≤d) m ⟨0,u0,[],rfl,Nat.zero_le _,hf,⟨e,hT,HV,B3,Ho,Ds.nil _⟩,fun d hd=>by cases hd⟩ ?_)
 rintro r0 a w ⟨k,u,D,rfl,hkm,hf,⟨e,hT,HV,B3,Ho,hD⟩,hDW⟩
 refine seq <| rgN 1 hf <| st (lss rfl rfl) <| en fun a w e' hf=>?_
 obtain⟨hT,HV,e,B3,hD,Ho⟩:=up6 e' hT HV e B3 hD Ho
 refine tl_nil <| seq <| ifc hf rfl (fun hc=>wskip ?_) (fun hc=>wexit ?_)
 rotate_left
 ·obtain rfl:k=m:=by have:=of_decide_eq_false hc;omega
  replace hf:=hf.keep [7]
  refine seq <| rgN 1 hf <| st (mv rfl) <| en fun a w e' hf=>?_
  obtain⟨e,hD,Ho⟩:=up3 e' e hD Ho
  refine tA hf rfl fun a hf=>tl_nil <| wret <| ret1M rfl hf rfl hD ⟨_,rfl,e.shut hDW,?_⟩
  exact (Ho.chE (chg_shut D w) fun b hb hm=>Ho.neDs hD hm hb).low (by omega) fun b hb=>hb.elim
 have hlt:k<m:=by have:=of_decide_eq_true hc;omega
 refine seq <| blk ?_
 obtain⟨out,hout⟩:∃out,out=wkL (lkS l) x k:=⟨_,rfl⟩
 obtain⟨at',hat'⟩:∃at',at'=wkN (lkS l) x k:=⟨_,rfl⟩
 have hol:out.length=k+1:=by rw[hout,wkL_len]
 have hola:out[k]?=some at':=by rw[hout,hat'];exact wkL_at _ _ (Nat.le_refl k)
 have hsuc:wkL (lkS l) x (k+1)=out++[nxN (lkS l) at']:=by rw[wkL_succ,hout,hat']
 rw[← hout] at Ho
 replace hf:=hf.keep [3,7,14,15]
 refine seq <| regn0 <| tL I76 hf fun a b8 w e' hb8 hs8 B8 hf=>?_
 have hle8:=Nat.le_trans e.size (Nat.le_of_eq hb8.symm)
 have ne8_Ho:=Ho.ne_new hb8
 have lt8_B3:=B3.lt
 obtain⟨hT,HV,e,B3,hD,Ho⟩:=up6 e' hT HV e B3 hD Ho
 refine tl_nil ?_
 simp only[Value.cells,zeroC] at B8
 have hW8:W.heap.size≤b8:=hle8
 have n8:b3≠b8:=by have:=B3.lt;omega
 have hu8:=ne8_Ho
 have hD8:¬b8∈D:=hD.ne B8
 replace hf:=hf.kp [3,7,8,14,15]
 obtain⟨Nz,hNz⟩:∃Nz,Nz=w.heap.size:=⟨_,rfl⟩
 have hix:((out.length:Nat):Int) - 1=((k:Nat):Int):=by rw[hol];omega
 repeat refine seq ?_
 refine rgN 7 hf <| st (mv rfl) <| st (mv rfl) <| st (lenD U83 (isE rfl Ho.sl)) <| st ((sub rfl rfl (by omega)).eq (congrArg (Value.int .i64) hix)) <| st (idxD U83 S76 (isE rfl Ho.sl) rfl (by omega) (hola)) <| st (ldS T76 (isR rfl)) <| st (call1 (A:=SeqA Nz at') En62 rfl (fun v w' he h=>by cases h;exact Calls.mono (all_spec _ w') (fun en w2 ⟨u,h1,h2,b',h3,h4,h5⟩=>⟨u,h1,h2,b',by have:=he.size;omega,h4,h5⟩))) ?_
 refine en fun a w e' hf=>?_
 obtain⟨hT,HV,e,B3,B8,hD,Ho⟩:=up7 e' hT HV e B3 B8 hD Ho
 refine tl_nil ?_
 obtain⟨vv,⟨b23,h23,rfl,BS⟩,hf⟩:=hf.fix 23 rfl
 replace hf:=hf.kp [3,7,8,14,15,23]
 have l3:=B3.lt
 have l8:=B8.lt
 have lu:∀g,u.ownBlock=some g→g<w.heap.size:=fun g hg=>(Ho.lt hg).2
 have lD:∀d∈D,d<w.heap.size:=fun d hd=>hD.lt hd
 have hBW:W.heap.size≤w.heap.size:=e.size
 have h0w:0<w.heap.size:=hT.lt
 refine blk <| range_all3 (S:=at') hf rfl BS (by decide) (fun s w1=>WkK W N0 N S0 mq l b3 u out D w1∧Blk w1 b8 (setC (nxP (lkS l) s)) 76) (fun _ _=>False) (fun s w1 h=>h.1.t)
  ⟨⟨e,hT,HV,B3,Ho,hD⟩,B8⟩ (fun s w1 w2 h hs k=>⟨h.1.kp k hBW h0w l3 lu lD,h.2.kp k (fun hh=>by have:=hh.1;omega)⟩) (fun _ _ _ h=>h.elim) ?_ ?_ (fun _ _ _ _ _ _ h=>h.elim)
 ·intro lp s y rest a1 w1 hs hJ hlw hf
  have hy1024:y<1024:=(mem_elems.1 (by rw[hs];simp)).1
  generalize hBz:w.heap.size=Bz at *
  refine regn0 <| tA hf rfl fun a hf=>tl_nil <| ⟨Kh.rfl' _ _,fun w3 k3 hsz3=>?_⟩
  have hJ3:=hJ.1.kp k3 hBW h0w l3 lu lD
  have hJ8:=hJ.2.kp k3 (fun hh=>by have:=hh.1;omega)
  replace hf:=hf.pure w3
  obtain⟨e,hT,HV,B3,Ho,hD⟩:=hJ3
  have B8:=hJ8
  have kh:=Kh.rfl' Bz w3
  obtain⟨X,hX⟩:∃X,X=nxP (lkS l) s:=⟨_,rfl⟩
  rw[← hX] at B8
  replace hf:=hf.kp [3,7,8,9,14,15]
  refine blk <| rgN 6 hf <| st ((ldW T76 rfl B8 rfl).eq ((rfl:_=setV X))) <| st (fA U79 rfl T77 rfl) <| st (ld1 (v:=mq) T77 rfl B3 (adC_map _ _)) <| st (mv rfl) <| st (lkM (l:=l) (i:=(y:Int)) U77 zero_set (isE rfl HV) rfl (wf64 (by omega) (by omega))) <| st (call2 (A:=E (setV (X ||| lkS l (y:Int)))) En73 rfl rfl (fun v u w he h h'=>by cases h;cases h';exact union_spec X _ w)) ?_
  refine en fun a w e' hf=>?_
  obtain⟨hT,HV⟩:=up2 e' hT HV
  replace kh:=kh.tr (Kh.ext e')
  obtain⟨e,B3,B8,hD,Ho⟩:=up5 e' e B3 B8 hD Ho
  refine tl_stW T76 hf rfl rfl (wordsC_one _) B8 rfl (setC_size _) fun w hg hsz B8 hf=>?_
  obtain⟨e,hT,HV,B3⟩:=gr4 hg e hT HV B3
  replace Ho:=Ho.grE hg hu8;replace hD:=hD.gr hg hD8
  replace kh:=kh.tr (Kh.gr hg (fun hh=>by have:=hh.1;omega))
  refine tl_nil ?_
  simp only[Exit.inBlock]
  exact⟨⟨⟨e,hT,HV,B3,Ho,hD⟩,by rw[nxP_app,← hX];exact B8⟩,kh⟩
 ·intro a' w' hf' hJ hsz hDn
  simp only[Exit.inBlock,↓reduceIte,Exit.then]
  have hD2:Ds (w.heap.size::D) w':=hJ.1.ds.cons hDn fun hm=>Nat.lt_irrefl _ (lD _ hm)
  have hf:FrD 37 (marks (w.heap.size::D)) a' w' [(3,E (ptr b3)),(7,E u),(8,E (ptr b8)),(14,E (I (m:Nat))),(15,E (I (k:Nat)))]:=hf'.keep [3,7,8,14,15]
  have hDW2:∀d∈w.heap.size::D,W.heap.size≤d:=fun d hd=>by
   rcases List.mem_cons.1 hd with rfl|hd
   ·exact hBW
   ·exact hDW d hd
  obtain⟨⟨e,hT,HV,B3,Ho,_⟩,B8⟩:=hJ
  replace hD:=hD2
  generalize w.heap.size::D=D2 at *
  generalize w'=w at *
  replace B8:Blk w b8 (setC (nxN (lkS l) at')) 76:=B8
  obtain⟨nx,hnx⟩:∃nx,nx=nxN (lkS l) at':=⟨_,rfl⟩
  rw[← hnx] at B8 hsuc
  refine rgN 3 hf <| st (mv rfl) <| st ((ldW T76 rfl B8 rfl).eq ((rfl:_=setV nx))) <| st (bsl1 U83 I76 rfl (by decide) rfl Ho.avs (isS rfl)) <| en fun a w e' hf=>?_
  obtain⟨hT,HV,B3,hD,B8,Ho,e⟩:=up7 e' hT HV B3 hD B8 Ho e
  haveI hin:∀G0,InR (GB W G0) _:=OwR.inGB (W:=W) Ho (by omega)
  refine tl_app U83 I76 rfl rfl hf (by decide) rfl Ho (isR rfl) (by rw[hol,List.length_singleton];omega) (by rw[hol,List.length_singleton];simp only[maxLen];omega) fun a v w hg hat Hn hf=>?_
  replace e:=e.gro hg (Ho.row (W:=W) (by omega))
  have hrow:=Ho.row (W:=W) (by omega)
  replace hT:=hT.gro hg (fun b hb=>by have:=(Ho.lt hb).1;omega)
  replace HV:=Dv.gro HV hg (fun b hb=>.inr (by have:=(Ho.lt hb).1;omega))
  replace B3:=B3.gro hg (Ho.neLt h3N)
  replace hD:=hD.gro hg fun d hd=>Ho.neDs hD hd
  replace B8:=B8.gro hg hu8
  replace Ho:=Hn
  replace Ho:=Hn;clear Hn hg hat hin
  refine tA hf rfl fun a hf=>tl_nil ?_
  rw[← hsuc] at Ho
  replace hf:=hf.keep [3,7,14,15]
  refine rgN 1 hf <| st ((add rfl rfl (by omega)).eq (congrArg (Value.int .i64) (show (k:Int)+1=((k+1:Nat):Int) from rfl))) <| en fun a w e' hf=>?_
  obtain⟨hT,HV,e,B3,hD,Ho⟩:=up6 e' hT HV e B3 hD Ho
  refine tP hf (mv rfl) fun a w e' hf=>?_
  obtain⟨hT,HV,e,B3,hD,Ho⟩:=up6 e' hT HV e B3 hD Ho
  refine tl_nil ?_
  replace hf:=hf.keep [3,7,14,15]
  exact⟨m - (k+1),by omega,k+1,v,D2,rfl,by omega,hf,⟨e,hT,HV,B3,Ho,hD⟩,hDW2⟩
def odN (nb:Int→BS)(x:Nat):Nat→Nat→Nat→Nat
 | 0,_,bst=>bst
 | f+1,n,bst=>if n<bst then odN nb x f (n+2) (if (wkN nb x n).getLsbD x=true then n else bst) else bst
def odS (nb:Int→BS)(bst x:Nat):Nat:=odN nb x bst 3 bst
theorem odN_le (nb:Int→BS)(x:Nat):∀f n bst,odN nb x f n bst≤bst
 | 0,n,bst=>Nat.le_refl _
 | f+1,n,bst=>by
  rw[odN];split
  ·refine Nat.le_trans (odN_le nb x f _ _) ?_
   split <;> omega
  ·exact Nat.le_refl _
theorem odN_ge (nb:Int→BS)(x:Nat):∀f n bst k,k≤n→k≤bst→k≤odN nb x f n bst
 | 0,n,bst,k,h1,h2=>h2
 | f+1,n,bst,k,h1,h2=>by
  rw[odN];split
  ·refine odN_ge nb x f _ _ k (by omega) ?_
   split <;> omega
  ·exact h2
def odB (nb:Int→BS)(V:BS)(s:List Nat):Nat:=s.foldl (odS nb) (card V+1)
theorem odB_app (nb:Int→BS)(V:BS)(s:List Nat)(x:Nat):odB nb V (s++[x])=odS nb (odB nb V s) x:=by rw[odB,List.foldl_append];rfl
theorem odB_le (nb:Int→BS)(V:BS):∀s,odB nb V s≤card V+1:=by
 have key:∀(s:List Nat) (b:Nat),s.foldl (odS nb) b≤b:=by
  intro s
  induction s with
  | nil=>intro b;exact Nat.le_refl _
  | cons x s ih=>intro b;exact Nat.le_trans (ih _) (odN_le nb x _ _ _)
 exact fun s=>key s _
theorem odB_ge (nb:Int→BS)(V:BS):∀s,1≤odB nb V s:=by
 have key:∀(s:List Nat) (b:Nat),1≤b→1≤s.foldl (odS nb) b:=by
  intro s
  induction s with
  | nil=>intro b h;exact h
  | cons x s ih=>intro b h;exact ih _ (odN_ge nb x _ _ _ 1 (by omega) h)
 exact fun s=>key s _ (by omega)
def ocG (nb:Int→BS)(x:Nat):Nat→Nat→List Nat
 | 0,_=>[]
 | n+1,last=>(minOf (nb (last:Int) &&& wkN nb x (n+1))).getD 0::ocG nb x n ((minOf (nb (last:Int) &&& wkN nb x (n+1))).getD 0)
def ocL (nb:Int→BS)(V:BS)(n:Nat):List Nat→BS→Option (List Nat)
 | [],_=>none
 | x::r,left=>if (wkN (nbWi nb (V &&& left)) x n).getLsbD x=true then some (x::ocG (nbWi nb (V &&& left)) x (n - 1) x) else ocL nb V n r (del left (x:Int))
def oddF (nb:Int→BS)(V:BS):Option (List Nat):=if card V<odB nb V (elems V) then none else ocL nb V (odB nb V (elems V)) (elems V) V
theorem tup_any {A B:VA}{v:Value}{w:World}(h:(Tup [A,B]).p v w):(Tup [A,Any]).p v w:=by
 obtain⟨vs,h1,h2,h3⟩:=h
 refine⟨vs,h1,h2,fun i C hi=>?_⟩
 rcases i with _|_|i
 ·cases hi;exact h3 0 _ rfl
 ·cases hi;trivial
 ·simp at hi
theorem min_lt (S:BS):(minOf S).getD 0<1024:=by
 cases h:minOf S with
 | none=>decide
 | some k=>exact bit_lt (minOf_mem h)
structure OdJ (W:World)(nm bm:Nat)(l:List (Int×BS))(V:BS)(b2 b3 b4 n:Nat)(w:World):Prop where
 e:Ext W w
 t:Tab w
 m:MpR sKV w bm nm l
 p2:Blk w b2 #[.slice none 0 0] 35
 p3:Blk w b3 (adC V (.map (some bm))) 79
 p4:Blk w b4 #[I (n:Nat)] 3
theorem OdJ.kp {W:World}{nm bm:Nat}{l:List (Int×BS)}{V:BS}{b2 b3 b4 n:Nat}{B:Nat}{w w':World}(h:OdJ W nm bm l V b2 b3 b4 n w)(k:Kp B w w')(hW:W.heap.size≤B)(h0:0<B)(l2:b2<B)(l3:b3<B)(l4:b4<B)(lm:bm<B) :
  OdJ W nm bm l V b2 b3 b4 n w':=
 have no:∀{b},b<B→¬Hole B b:=fun h hh=>by have:=hh.1;omega
 ⟨h.e.kp k hW,h.t.kp k h0,h.m.pres (k.same bm h.m.lt (no lm)),h.p2.kp k (no l2),h.p3.kp k (no l3),h.p4.kp k (no l4)⟩
theorem sodd_spec {G:Nat→Prop}{N:Nat}(g:GT)(ok:Gr.Ok g)(v:Value)(W:World)(hT:Tab W)(h:(Dv (ptE (grE N)) G (some g)).p v W)(hl1:g.1.length≤100000)(hl2:g.2.length≤100000)(hN:N≤1000000) :
  Calls Tryz.prog 25 #[v] W (Post (CyA G0 (oddF (nbA g) (vset g.1))) W):=by
 have hgd:(Dv (ptE (grE N)) G0 (some g)).p v W:=Dv.weak h fun b _ hb=>hb.elim
 obtain⟨l,hl⟩:∃l,l=nbL g (elems (vset g.1)):=⟨_,rfl⟩
 have hnb:nbA g=lkS l:=by rw[hl,nbA]
 rw[hnb]
 obtain⟨V,hV⟩:∃V,V=vset g.1:=⟨_,rfl⟩
 rw[← hV]
 obtain⟨rr,hrr⟩:∃rr,rr=oddF (lkS l) V:=⟨_,rfl⟩
 rw[← hrr]
 rw[oddF] at hrr
 have hcV:=card_le_1024 V
 have hT0:=hT.lt
 refine enterM (args:=[v]) (As:=[E v]) Tryz.func25 rfl Tryz.ntmps25 (Nat.le_of_ble_eq_true rfl) ?_ (fun a hf=>?_) (Nat.le_of_ble_eq_true rfl)
 ·exact arg1 rfl
 dsimp only[params,Nat.reduceAdd] at hf
 have e:=Ext.rfl' W
 refine seq <| regn0 <| tL I35 hf fun a b2 w e' hb2 hs2 B2 hf=>?_
 have hle2:=Nat.le_trans e.size (Nat.le_of_eq hb2.symm)
 obtain⟨hT,e⟩:=up2 e' hT e
 refine tl_nil ?_
 replace B2:Blk w b2 #[.slice none 0 0] 35:=B2
 have n2:W.heap.size≤b2:=hle2
 replace hf:=hf.kp [0,2]
 have e0:=e
 refine seq <| rgN 2 hf <| st (mv rfl) <| st (call1 (A:=AdjA l V 1024) En46 rfl (fun v w he k=>by cases k;rw[hl,hV];exact ofA_spec g ok _ w (hT.ext he) (VA.st _ _ _ _ (Ext.tr e0 he) hgd) hl1 hl2 hN)) ?_
 refine en fun a w e' hf=>?_
 obtain⟨hT,e,B2⟩:=up3 e' hT e B2
 obtain⟨av,⟨mq,rfl,HV0⟩,hf⟩:=hf.opn 17 rfl
 obtain⟨cs,⟨bm0,nm0,rfl,_,hnm0,HM0⟩,hmq⟩:=HV0
 replace hmq:mq=.map (some bm0):=hmq
 subst hmq
 obtain⟨N1,hN1⟩:∃N1,N1=w.heap.size:=⟨_,rfl⟩
 have hN1s:N1≤w.heap.size:=Nat.le_of_eq hN1
 have hbm0:bm0<N1:=by rw[hN1];exact HM0.lt
 have hb2N:b2<N1:=by rw[hN1];exact B2.lt
 have hWN1:W.heap.size≤N1:=by rw[hN1];exact e.size
 replace hf:=hf.kp [2,17]
 refine tL I79 hf fun a b3 w e' hb3 hs3 B3 hf=>?_
 have hle3:=Nat.le_trans e.size (Nat.le_of_eq hb3.symm)
 have lo3_hN1s:=Nat.le_trans hN1s (Nat.le_of_eq hb3.symm)
 have lt3_B2:=B2.lt
 obtain⟨hT,HM0,hN1s,e,B2⟩:=up5 e' hT HM0 hN1s e B2
 have n3:N1≤b3:=lo3_hN1s
 refine tl_stW T79 hf rfl rfl (adC_one _ _) B3 rfl (adC_size _ _) fun w hg hsz B3 hf=>?_
 replace e:=e.gr hg (by omega);replace hT:=hT.gr hg (by omega);replace HM0:=HM0.gr hg (fun h=>by cases h;omega);replace B2:=B2.gr hg (by omega);replace hN1s:=Nat.le_trans hN1s hg.size;clear hg
 refine tl_nil ?_
 replace hf:=hf.kp [2,3]
 have l3':=B3.lt
 refine seq <| rgN 4 hf <| st (fA U79 rfl T76 rfl) <| st ((ldP T76 rfl B3 (by rw[adC_size];decide)).eq (congrArg Value.agg (adC_set V (.map (some bm0))))) ?_
 refine st (call1 (A:=E (I (card V))) (B:=E (setV V)) En78 rfl (fun v w he h=>by cases h;exact len_spec V w)) ?_
 refine st ((add rfl rfl (by omega)).eq (congrArg (Value.int .i64) (show (card V:Int)+1=((card V+1:Nat):Int) from rfl))) <| en fun a w e' hf=>?_
 obtain⟨hT,HM0,hN1s,e,B2,B3⟩:=up6 e' hT HM0 hN1s e B2 B3
 refine tL I3 hf fun a b4 w e' hb4 hs4 B4 hf=>?_
 have hle4:=Nat.le_trans e.size (Nat.le_of_eq hb4.symm)
 have lo4_hN1s:=Nat.le_trans hN1s (Nat.le_of_eq hb4.symm)
 have lt4_B2:=B2.lt
 have lt4_B3:=B3.lt
 obtain⟨hT,HM0,hN1s,e,B2,B3⟩:=up6 e' hT HM0 hN1s e B2 B3
 have n4:N1≤b4∧b3≠b4∧b2≠b4:=⟨lo4_hN1s,by omega,by omega⟩
 replace hf:=hf.kp [2,3,4,21]
 refine tl_st1 T3 hf rfl rfl rfl B4 Nat.zero_lt_one fun w hg hsz B4 hf=>?_
 replace e:=e.gr hg (by omega);replace hT:=hT.gr hg (by omega);replace HM0:=HM0.gr hg (fun h=>by cases h;omega);replace B2:=B2.gr hg (by omega);replace B3:=B3.gr hg (by omega);replace hN1s:=Nat.le_trans hN1s hg.size;clear hg
 refine tl_nil ?_
 replace B4:Blk w b4 #[I ((odB (lkS l) V []:Nat))] 3:=B4
 replace hf:=hf.kp [2,3,4]
 obtain⟨Nz,hNz⟩:∃Nz,Nz=w.heap.size:=⟨_,rfl⟩
 repeat refine seq ?_
 refine rgN 3 hf <| st (fA U79 rfl T76 rfl) <| st ((ldP T76 rfl B3 (by rw[adC_size];decide)).eq (congrArg Value.agg (adC_set V (.map (some bm0))))) ?_
 refine st (call1 (A:=SeqA Nz V) En62 rfl (fun v w' he h=>by cases h;exact Calls.mono (all_spec _ w') (fun en w2 ⟨u,h1,h2,b',h3,h4,h5⟩=>⟨u,h1,h2,b',by have:=he.size;omega,h4,h5⟩))) ?_
 refine en fun a w e' hf=>?_
 obtain⟨hT,HM0,hN1s,e,B2,B3,B4⟩:=up7 e' hT HM0 hN1s e B2 B3 B4
 refine tl_nil ?_
 obtain⟨vv,⟨b24,h24,rfl,BS⟩,hf⟩:=hf.fix 24 rfl
 replace hf:=hf.kp [2,3,4,24]
 obtain⟨nb,hnb'⟩:∃nb,nb=lkS l:=⟨_,rfl⟩
 rw[← hnb'] at hrr B4
 have hBW:W.heap.size≤w.heap.size:=e.size
 have h0w:0<w.heap.size:=hT.lt
 have l2:=B2.lt
 have l3:=B3.lt
 have l4:=B4.lt
 have lm:=HM0.lt
 refine blk <| range_all3 (S:=V) hf rfl BS (by decide) (fun s w1=>OdJ W nm0 bm0 l V b2 b3 b4 (odB nb V s) w1) (fun _ _=>False) (fun s w1 h=>h.t)
  ⟨e,hT,HM0,B2,B3,B4⟩ (fun s w1 w2 h hs k=>h.kp k hBW h0w l2 l3 l4 lm) (fun _ _ _ h=>h.elim) ?_ ?_ (fun _ _ _ _ _ _ h=>h.elim)
 ·intro lp s x rest a1 w1 hs hJ hlw hf
  have hxV:V.getLsbD x=true:=(mem_elems.1 (by rw[hs];simp)).2
  have hx1024:x<1024:=bit_lt hxV
  generalize hBz:w.heap.size=Bz at *
  refine regn0 <| tA hf rfl fun a hf=>tl_nil <| ⟨Kh.rfl' _ _,fun w3 k3 hsz3=>?_⟩
  have hJ3:=hJ.kp k3 hBW h0w l2 l3 l4 lm
  have hw3:Bz+3≤w3.heap.size:=by omega
  replace hf:=hf.pure w3
  obtain⟨e,hT,HM0,B2,B3,B4⟩:=hJ3
  have kh:=Kh.rfl' Bz w3
  have hsuc:=odB_app nb V s x
  obtain⟨b0,hb0⟩:∃b0,b0=odB nb V s:=⟨_,rfl⟩
  have hb0l:b0≤1025:=by rw[hb0];have:=odB_le nb V s;omega
  rw[← hb0] at B4 hsuc
  rw[odS] at hsuc
  have hdv:=HM0.dvE hnm0 (G:=G0) (fun h=>h)
  obtain⟨Nw,hNw⟩:∃Nw,Nw=w3.heap.size:=⟨_,rfl⟩
  have hNws:Nw≤w3.heap.size:=Nat.le_of_eq hNw
  have h4w:b4<Nw:=by rw[hNw];exact B4.lt
  replace hf:=hf.kp [2,3,4,5]
  refine blk <| seq <| rgN 4 hf <| st (ldW T79 rfl B3 (adC_size _ _)) <| st (mv rfl) <| st (ld1 (v:=I (b0:Nat)) T3 rfl B4 rfl) <| st (call3 (A:=OwA setE 76 Nw G0 (wkL nb x b0)) (B:=E (.agg (adC V (.map (some bm0))))) (C:=E (I (x:Nat))) (D:=E (I (b0:Nat))) En79 rfl rfl rfl (fun a b c w he k1 k2 k3=>by cases k1;cases k2;cases k3;rw[hnb'];exact (walks_spec l V (.map (some bm0)) x b0 w (hT.ext he) (Dv.ex hdv he) hx1024 (by omega)).mono fun en w' ⟨u,k1,k2,k3⟩=>⟨u,k1,k2,OwR.low k3 (Nat.le_trans hNws he.size) fun b hb=>hb.elim⟩)) ?_
  refine en fun a w e' hf=>?_
  obtain⟨hT,HM0⟩:=up2 e' hT HM0
  replace kh:=kh.tr (Kh.ext e')
  obtain⟨e,B2,B3,B4⟩:=up4 e' e B2 B3 B4
  refine tA hf rfl fun a hf=>tl_nil ?_
  replace hf:=hf.kp [2,3,4,5,6]
  obtain⟨wv,HW,hf⟩:=hf.opn 6 rfl
  replace HW:OwR setE 76 Nw G0 w (wkL nb x b0) wv:=HW
  refine seq <| regn0 <| tA hf rfl fun a hf=>tl_nil ?_
  replace hf:=hf.kp [2,3,4,5,6,7]
  refine blk (loopN (fun r0 a w=>∃(n bst:Nat),odN nb x r0 n bst=odB nb V (s++[x])∧bst≤n+r0∧bst≤b0∧n+2 * r0≤3000∧Fr 101 a w [(2,E (ptr b2)),(3,E (ptr b3)),(4,E (ptr b4)),(5,E (I (x:Nat))),(6,E wv),(7,E (I (n:Nat)))]∧OdJ W nm0 bm0 l V b2 b3 b4 bst w∧Kh Bz w3 w∧OwR setE 76 Nw G0 w (wkL nb x b0) wv) b0 ⟨3,b0,hsuc.symm,by omega,Nat.le_refl _,by omega,hf,⟨e,hT,HM0,B2,B3,B4⟩,kh,HW⟩ ?_)
  rintro r0 a w ⟨n,bst,hR,hbr,hb0',hn3,hf,⟨e,hT,HM0,B2,B3,B4⟩,kh,HW⟩
  repeat refine seq ?_
  refine rgN 3 hf <| st (mv rfl) <| st (ld1 (v:=I (bst:Nat)) T3 rfl B4 rfl) <| st (lss rfl rfl) <| en fun a w e' hf=>?_
  obtain⟨hT,HM0⟩:=up2 e' hT HM0
  replace kh:=kh.tr (Kh.ext e')
  obtain⟨HW,e,B2,B3,B4⟩:=up5 e' HW e B2 B3 B4
  refine tl_nil <| ifc hf rfl (fun hc=>wskip ?_) (fun hc=>wexit ?_)
  ·have hlt:n<bst:=by have:=of_decide_eq_true hc;omega
   obtain⟨f,rfl⟩:∃f,r0=f+1:=⟨r0 - 1,by omega⟩
   rw[odN,if_pos hlt] at hR
   refine seq <| blk ?_
   have hwn:=wkL_at nb x (m:=b0) (i:=n) (by omega)
   obtain⟨Sn,hSn⟩:∃Sn,Sn=wkN nb x n:=⟨_,rfl⟩
   rw[← hSn] at hwn hR
   have hbit:has Sn (x:Int)=Sn.getLsbD x:=by rw[Bool.eq_iff_iff];exact has_bit Sn x
   replace hf:=hf.kp [2,3,4,5,6,7]
   refine seq <| rgN 6 hf <| st (mv rfl) <| st (mv rfl) <| st (idxD U83 S76 (isE rfl HW.sl) rfl (by omega) (hwn)) <| st (ldS T76 (isR rfl)) <| st (mv rfl) <| st (call2 (A:=E (B (Sn.getLsbD x))) (B:=E (setV Sn)) (C:=E (I (x:Nat))) En75 rfl rfl (fun v u w he h h'=>by cases h;cases h';rw[← hbit];exact has_spec _ _ w)) ?_
   refine en fun a w e' hf=>?_
   obtain⟨hT,HM0⟩:=up2 e' hT HM0
   replace kh:=kh.tr (Kh.ext e')
   obtain⟨HW,e,B2,B3,B4⟩:=up5 e' HW e B2 B3 B4
   refine tl_nil ?_
   replace hf:=hf.kp [2,3,4,5,6,7,40]
   by_cases hh:Sn.getLsbD x=true
   ·rw[if_pos hh] at hR
    rw[hh] at hf
    refine ifc hf rfl (fun _=>?_) (fun h=>by cases h)
    refine rgN 1 hf <| st (mv rfl) <| en fun a w e' hf=>?_
    obtain⟨hT,HM0⟩:=up2 e' hT HM0
    replace kh:=kh.tr (Kh.ext e')
    obtain⟨HW,e,B2,B3,B4⟩:=up5 e' HW e B2 B3 B4
    replace hf:=hf.kp [2,3,4,5,6,7,41]
    refine tl_st1 T3 hf rfl rfl rfl B4 Nat.zero_lt_one fun w hg hsz B4 hf=>?_
    replace e:=e.gr hg (by omega);replace hT:=hT.gr hg (by omega);replace HM0:=HM0.gr hg (fun h=>by cases h;omega);replace B2:=B2.gr hg (by omega);replace B3:=B3.gr hg (by omega);replace kh:=kh.tr (Kh.gr hg (fun hh=>by have:=hh.1;omega));replace HW:=HW.grE hg (HW.neLt h4w);clear hg
    refine tl_nil ?_
    replace B4:Blk w b4 #[I (n:Nat)] 3:=B4
    replace hf:=hf.kp [2,3,4,5,6,7]
    refine rgN 2 hf <| st (mv rfl) <| st ((add rfl rfl (by omega)).eq (congrArg (Value.int .i64) (show (n:Int)+2=((n+2:Nat):Int) from rfl))) <| en fun a w e' hf=>?_
    obtain⟨hT,HM0⟩:=up2 e' hT HM0
    replace kh:=kh.tr (Kh.ext e')
    obtain⟨HW,e,B2,B3,B4⟩:=up5 e' HW e B2 B3 B4
    refine tA hf rfl fun a hf=>tl_nil ?_
    replace hf:=hf.kp [2,3,4,5,6,7]
    exact⟨f,Nat.lt_succ_self _,n+2,n,hR,by omega,by omega,by omega,hf,⟨e,hT,HM0,B2,B3,B4⟩,kh,HW⟩
   ·rw[if_neg hh] at hR
    rw[Bool.eq_false_iff.2 hh] at hf
    refine ifc hf rfl (fun h=>by cases h) (fun _=>?_)
    refine wskip ?_
    replace hf:=hf.kp [2,3,4,5,6,7]
    refine rgN 2 hf <| st (mv rfl) <| st ((add rfl rfl (by omega)).eq (congrArg (Value.int .i64) (show (n:Int)+2=((n+2:Nat):Int) from rfl))) <| en fun a w e' hf=>?_
    obtain⟨hT,HM0⟩:=up2 e' hT HM0
    replace kh:=kh.tr (Kh.ext e')
    obtain⟨HW,e,B2,B3,B4⟩:=up5 e' HW e B2 B3 B4
    refine tA hf rfl fun a hf=>tl_nil ?_
    replace hf:=hf.kp [2,3,4,5,6,7]
    exact⟨f,Nat.lt_succ_self _,n+2,bst,hR,by omega,by omega,by omega,hf,⟨e,hT,HM0,B2,B3,B4⟩,kh,HW⟩
  ·have hge:¬n<bst:=by have:=of_decide_eq_false hc;omega
   have hR2:odB nb V (s++[x])=bst:=by
    rw[← hR]
    cases r0 with
    | zero=>rfl
    | succ f=>rw[odN,if_neg hge]
   exact⟨⟨e,hT,HM0,B2,B3,by rw[hR2];exact B4⟩,kh⟩
 ·intro a' w' hf' hJ hsz hDn
  simp only[Exit.inBlock,↓reduceIte,Exit.then]
  have hD:Ds [w.heap.size] w':=(Ds.nil w').cons hDn (by simp)
  have hf:FrD 101 (marks [w.heap.size]) a' w' [(2,E (ptr b2)),(3,E (ptr b3)),(4,E (ptr b4))]:=hf'.keep [2,3,4]
  obtain⟨d1,hd1⟩:∃d1,d1=w.heap.size:=⟨_,rfl⟩
  rw[← hd1] at hD hf
  have hDW:∀d∈[d1],W.heap.size≤d:=fun d hd=>by rw[List.mem_singleton] at hd;omega
  obtain⟨e,hT,HM0,B2,B3,B4⟩:=hJ
  obtain⟨n,hn⟩:∃n,n=odB nb V (elems V):=⟨_,rfl⟩
  rw[← hn] at B4 hrr
  have hn1:1≤n:=by rw[hn];exact odB_ge nb V _
  have hn2:n≤1025:=by rw[hn];have:=odB_le nb V (elems V);omega
  have hd1w:d1<w'.heap.size:=hD.lt (by simp)
  have nb2:=hD.ne B2
  have nb3:=hD.ne B3
  have nb4:=hD.ne B4
  generalize w'=w at *
  by_cases hcn:card V<n
  ·rw[if_pos hcn] at hrr
   subst hrr
   repeat refine seq ?_
   refine rgG 5 Mix.mix hf <| st (ld1 (v:=I (n:Nat)) T3 rfl B4 rfl) <| st (fA U79 rfl T76 rfl) <| st ((ldP T76 rfl B3 (by rw[adC_size];decide)).eq (congrArg Value.agg (adC_set V (.map (some bm0))))) ?_
   refine st (call1 (A:=E (I (card V))) (B:=E (setV V)) En78 rfl (fun v w he h=>by cases h;exact len_spec V w)) ?_
   refine st ((gtr rfl rfl).eq (congrArg Value.bool (decide_eq_true (show (card V:Int)<(n:Int) by omega)))) <| en fun a w e' hf=>?_
   obtain⟨hT,HM0,e,B2,B3,B4,hD⟩:=up7 e' hT HM0 e B2 B3 B4 hD
   refine tl_nil <| ifc hf rfl (fun _=>?_) (fun h=>by cases h)
   replace hf:=hf.kp [2]
   refine seq <| regn0 <| tl_st1 T35 hf rfl rfl rfl B2 Nat.zero_lt_one fun w hg hsz B2 hf=>?_
   replace e:=e.gr hg (by omega)
   replace hD:=hD.gr hg nb2
   refine tl_nil <| wret <| retc1M rfl T35 hf rfl B2 hD ⟨_,rfl,e.shut hDW,rfl⟩
  rw[if_neg hcn] at hrr
  repeat refine seq ?_
  refine rgG 5 Mix.mix hf <| st (ld1 (v:=I (n:Nat)) T3 rfl B4 rfl) <| st (fA U79 rfl T76 rfl) <| st ((ldP T76 rfl B3 (by rw[adC_size];decide)).eq (congrArg Value.agg (adC_set V (.map (some bm0))))) ?_
  refine st (call1 (A:=E (I (card V))) (B:=E (setV V)) En78 rfl (fun v w he h=>by cases h;exact len_spec V w)) ?_
  refine st ((gtr rfl rfl).eq (congrArg Value.bool (decide_eq_false (show ¬(card V:Int)<(n:Int) by omega)))) <| en fun a w e' hf=>?_
  obtain⟨hT,HM0,e,B2,B3,B4,hD⟩:=up7 e' hT HM0 e B2 B3 B4 hD
  refine tl_nil <| ifc hf rfl (fun h=>by cases h) (fun _=>?_)
  refine wskip ?_
  replace hf:=hf.kp [2,3,4]
  obtain⟨N6,hN6⟩:∃N6,N6=w.heap.size:=⟨_,rfl⟩
  have hN6s:N6≤w.heap.size:=Nat.le_of_eq hN6
  have hl6:b2<N6∧b3<N6∧b4<N6∧bm0<N6∧d1<N6∧W.heap.size≤N6:=by have h1:=B2.lt;have h2:=B3.lt;have h3:=B4.lt;have h4:=HM0.lt;have h5:=e.size;have h6:=hD.lt (List.mem_singleton.2 rfl:d1∈[d1]);omega
  refine seq <| regn0 <| tP hf (fA U79 rfl T76 rfl) fun a w e' hf=>?_
  obtain⟨hT,HM0,hN6s,e,B2,B3,B4,hD⟩:=up8 e' hT HM0 hN6s e B2 B3 B4 hD
  refine tP hf ((ldP T76 rfl B3 (by rw[adC_size];decide)).eq (congrArg Value.agg (adC_set V (.map (some bm0))))) fun a w e' hf=>?_
  obtain⟨hT,HM0,hN6s,e,B2,B3,B4,hD⟩:=up8 e' hT HM0 hN6s e B2 B3 B4 hD
  refine tL I76 hf fun a b8 w e' hb8 hs8 B8 hf=>?_
  have hle8:=Nat.le_trans e.size (Nat.le_of_eq hb8.symm)
  have lo8_hN6s:=Nat.le_trans hN6s (Nat.le_of_eq hb8.symm)
  have lt8_B2:=B2.lt
  obtain⟨hT,HM0,hN6s,e,B2,B3,B4,hD⟩:=up8 e' hT HM0 hN6s e B2 B3 B4 hD
  have n8:N6≤b8:=lo8_hN6s
  have nd8:¬b8∈[d1]:=fun h=>by rw[List.mem_singleton] at h;omega
  replace hf:=hf.kp [2,3,4,8,48]
  refine tl_stW T76 hf rfl rfl (wordsC_one _) B8 rfl (setC_size _) fun w hg hsz B8 hf=>?_
  replace e:=e.gr hg (by omega);replace hT:=hT.gr hg (by omega);replace HM0:=HM0.gr hg (fun h=>by cases h;omega);replace B2:=B2.gr hg (by omega);replace B3:=B3.gr hg (by omega);replace B4:=B4.gr hg (by omega);replace hD:=hD.gr hg nd8;clear hg hN6s
  refine tl_nil ?_
  replace hf:=hf.kp [2,3,4,8]
  obtain⟨Nz,hNz⟩:∃Nz,Nz=w.heap.size:=⟨_,rfl⟩
  repeat refine seq ?_
  refine rgN 3 hf <| st (fA U79 rfl T76 rfl) <| st ((ldP T76 rfl B3 (by rw[adC_size];decide)).eq (congrArg Value.agg (adC_set V (.map (some bm0))))) ?_
  refine st (call1 (A:=SeqA Nz V) En62 rfl (fun v w' he h=>by cases h;exact Calls.mono (all_spec _ w') (fun en w2 ⟨u,h1,h2,b',h3,h4,h5⟩=>⟨u,h1,h2,b',by have:=he.size;omega,h4,h5⟩))) ?_
  refine en fun a w e' hf=>?_
  obtain⟨hT,HM0,e,B2,B3,B4,B8,hD⟩:=up8 e' hT HM0 e B2 B3 B4 B8 hD
  refine tl_nil ?_
  obtain⟨vv,⟨b51,h51,rfl,BS⟩,hf⟩:=hf.fix 51 rfl
  replace hf:=hf.kp [2,3,4,8,51]
  have hBW:W.heap.size≤w.heap.size:=e.size
  have h0w:0<w.heap.size:=hT.lt
  have l2:=B2.lt
  have l3:=B3.lt
  have l4:=B4.lt
  have l8:=B8.lt
  have lm:=HM0.lt
  have ld1':=hD.lt (List.mem_singleton.2 rfl:d1∈[d1])
  refine blk <| range_all3 (S:=V) hf rfl BS (by decide) (fun s w1=>(ScJ W nm0 bm0 l V b2 b3 b4 b8 n (.slice none 0 0) (delL V s) w1∧Ds [d1] w1)∧(∀rest,elems V=s++rest→ocL nb V n (elems V) V=ocL nb V n rest (delL V s)))
   (fun ex w1=>ex=.ret∧∃r out left,(ScJ W nm0 bm0 l V b2 b3 b4 b8 n r left w1∧Ds [d1] w1)∧ocL nb V n (elems V) V=some out∧out≠[]∧(Dv (slE intE) (fun b=>b<w.heap.size+3) (natE out)).p r w1) (fun s w1 h=>h.1.1.t)
   ⟨⟨⟨e,hT,HM0,B2,B3,B4,B8⟩,hD⟩,fun rest hr=>by rw[List.nil_append] at hr;rw[← hr];rfl⟩ (fun s w1 w2 h hs k=>⟨⟨h.1.1.kp k hBW h0w l2 l3 l4 l8 lm,h.1.2.ch k.chg fun d hd hh=>by rw[List.mem_singleton] at hd;have:=hh.1;omega⟩,h.2⟩)
   (fun ex w1 w2 ⟨q1,r,out,left,q2,q3,q4,q5⟩ hs k=>⟨q1,r,out,left,⟨q2.1.kp k hBW h0w l2 l3 l4 l8 lm,q2.2.ch k.chg fun d hd hh=>by rw[List.mem_singleton] at hd;have:=hh.1;omega⟩,q3,q4,Dv.ch q5 k.chg fun b hb=>hb.2⟩) ?_ ?_ ?_
  ·intro lp s x rest a1 w1 hs hJ hlw hf
   have hxV:V.getLsbD x=true:=(mem_elems.1 (by rw[hs];simp)).2
   have hx1024:x<1024:=bit_lt hxV
   generalize hBz:w.heap.size=Bz at *
   refine regn0 <| tA hf rfl fun a hf=>tl_nil <| ⟨Kh.rfl' _ _,fun w3 k3 hsz3=>?_⟩
   have hJ3:=hJ.1.1.kp k3 hBW h0w l2 l3 l4 l8 lm
   have hJd:=hJ.1.2.ch k3.chg fun d hd hh=>by rw[List.mem_singleton] at hd;have:=hh.1;omega
   have hJs:=hJ.2
   have hw3:Bz+3≤w3.heap.size:=by omega
   replace hf:=hf.pure w3
   obtain⟨e,hT,HM0,B2,B3,B4,B8⟩:=hJ3
   have hD:=hJd
   have kh:=Kh.rfl' Bz w3
   obtain⟨left,hleft⟩:∃left,left=delL V s:=⟨_,rfl⟩
   have hdl:delL V (s++[x])=del left (x:Int):=by rw[delL_app,hleft]
   have hsc:=hJs (x::rest) hs
   rw[← hleft] at B8 hsc
   rw[ocL] at hsc
   obtain⟨S7,hS7⟩:∃S7,S7=V &&& left:=⟨_,rfl⟩
   rw[← hS7] at hsc
   have hwi:=lk_wi l S7
   rw[← hnb'] at hwi
   obtain⟨nw,hnw⟩:∃nw,nw=nbWi nb S7:=⟨_,rfl⟩
   rw[← hnw] at hsc hwi
   have hdv:=HM0.dvE hnm0 (G:=G0) (fun h=>h)
   have nd8':=hD.ne B8
   replace hf:=hf.kp [2,3,4,8,9]
   refine blk <| seq <| rgN 3 hf <| st (ldW T79 rfl B3 (adC_size _ _)) <| st ((ldW T76 rfl B8 rfl).eq ((rfl:_=setV left))) <| st (call2 (A:=AdjA (wiL l S7) S7 1024) (B:=E (.agg (adC V (.map (some bm0))))) (C:=E (setV left)) En58 rfl rfl (fun a b w he k1 k2=>by cases k1;cases k2;rw[hS7];exact within_spec l V left (.map (some bm0)) w (hT.ext he) (Dv.ex hdv he))) ?_
   refine en fun a w e' hf=>?_
   obtain⟨hT,HM0⟩:=up2 e' hT HM0
   replace kh:=kh.tr (Kh.ext e')
   obtain⟨hw3,e,B2,B3,B4,B8,hD⟩:=up7 e' hw3 e B2 B3 B4 B8 hD
   obtain⟨av,⟨mq7,rfl,HV7⟩,hf⟩:=hf.opn 55 rfl
   obtain⟨cs7,⟨bm7,nm7,rfl,_,hnm7,HM7⟩,hmq7⟩:=HV7
   replace hmq7:mq7=.map (some bm7):=hmq7
   subst hmq7
   have hbn7:bm7≠b8:=HM7.neB B8
   have hbn2:bm7≠b2:=HM7.neB B2
   have nd8':=hD.ne B8
   obtain⟨N7,hN7⟩:∃N7,N7=w.heap.size:=⟨_,rfl⟩
   have hN7s:N7≤w.heap.size:=Nat.le_of_eq hN7
   have hl7:b2<N7∧b3<N7∧b4<N7∧b8<N7∧bm0<N7∧bm7<N7∧Bz+3≤N7∧d1<N7∧W.heap.size≤N7:=by have:=HM7.lt;have:=hD.lt (List.mem_singleton.2 rfl:d1∈[d1]);have:=e.size;have h1:=B2.lt;have h2:=B3.lt;have h3:=B4.lt;have h4:=B8.lt;have h5:=HM0.lt;omega
   replace hf:=hf.kp [2,3,4,8,9,55]
   refine tL I79 hf fun a b10 w e' hb10 hs10 B10 hf=>?_
   have lo10_hN7s:=Nat.le_trans hN7s (Nat.le_of_eq hb10.symm)
   have lt10_B2:=B2.lt
   obtain⟨hT,HM0⟩:=up2 e' hT HM0
   replace kh:=kh.tr (Kh.ext e')
   obtain⟨hw3,HM7,hN7s,e,B2,B3,B4,B8,hD⟩:=up9 e' hw3 HM7 hN7s e B2 B3 B4 B8 hD
   have n10:N7≤b10:=lo10_hN7s
   have nd10:¬b10∈[d1]:=fun h=>by rw[List.mem_singleton] at h;omega
   refine tl_stW T79 hf rfl rfl (adC_one _ _) B10 rfl (adC_size _ _) fun w hg hsz B10 hf=>?_
   replace e:=e.gr hg (by omega);replace hT:=hT.gr hg (by omega);replace HM0:=HM0.gr hg (fun h=>by cases h;omega);replace HM7:=HM7.gr hg (fun h=>by cases h;omega);replace B2:=B2.gr hg (by omega);replace B3:=B3.gr hg (by omega);replace B4:=B4.gr hg (by omega);replace B8:=B8.gr hg (by omega);replace hD:=hD.gr hg nd10;replace kh:=kh.tr (Kh.gr hg (fun hh=>by have:=hh.2;omega));clear hg hN7s
   refine tl_nil ?_
   have hl10:=B10.lt
   replace hf:=hf.kp [2,3,4,8,9,10]
   refine seq <| rgN 3 hf <| st ((ldW T76 rfl B8 rfl).eq ((rfl:_=setV left))) <| st (mv rfl) <| st (call2 (A:=E (setV (del left (x:Int)))) (B:=E (setV left)) (C:=E (I (x:Nat))) En59 rfl rfl (fun v u w he h h'=>by cases h;cases h';exact without_spec _ _ w)) ?_
   refine en fun a w e' hf=>?_
   obtain⟨hT,HM0,HM7⟩:=up3 e' hT HM0 HM7
   replace kh:=kh.tr (Kh.ext e')
   obtain⟨e,B2,B3,B4,B8,B10,hD⟩:=up7 e' e B2 B3 B4 B8 B10 hD
   refine tl_stW T76 hf rfl rfl (wordsC_one _) B8 (setC_size _) (setC_size _) fun w hg hsz B8 hf=>?_
   replace e:=e.gr hg (by omega);replace hT:=hT.gr hg (by omega);replace HM0:=HM0.gr hg (fun h=>by cases h;omega);replace HM7:=HM7.gr hg (fun h=>by cases h;omega);replace B2:=B2.gr hg (by omega);replace B3:=B3.gr hg (by omega);replace B4:=B4.gr hg (by omega);replace B10:=B10.gr hg (by omega);replace hD:=hD.gr hg nd8';replace kh:=kh.tr (Kh.gr hg (fun hh=>by have:=hh.1;omega));clear hg
   refine tl_nil ?_
   replace hf:=hf.kp [2,3,4,8,9,10]
   obtain⟨N8,hN8⟩:∃N8,N8=w.heap.size:=⟨_,rfl⟩
   have hN8s:N8≤w.heap.size:=Nat.le_of_eq hN8
   have hl8:N7≤N8∧b10<N8:=by rw[hN8];exact⟨by have:=B10.lt;omega,B10.lt⟩
   have hdv7:=HM7.dvE hnm7 (G:=G0) (fun h=>h)
   refine seq <| rgN 4 hf <| st (ldW T79 rfl B10 (adC_size _ _)) <| st (mv rfl) <| st (ld1 (v:=I (n:Nat)) T3 rfl B4 rfl) <| st (call3 (A:=OwA setE 76 N8 G0 (wkL nw x n)) (B:=E (.agg (adC S7 (.map (some bm7))))) (C:=E (I (x:Nat))) (D:=E (I (n:Nat))) En79 rfl rfl rfl (fun a b c w he k1 k2 k3=>by cases k1;cases k2;cases k3;rw[← hwi];exact (walks_spec (wiL l S7) S7 (.map (some bm7)) x n w (hT.ext he) (Dv.ex hdv7 he) hx1024 (by omega)).mono fun en w' ⟨u,k1,k2,k3⟩=>⟨u,k1,k2,OwR.low k3 (Nat.le_trans hN8s he.size) fun b hb=>hb.elim⟩)) ?_
   refine en fun a w e' hf=>?_
   obtain⟨hT,HM0,HM7⟩:=up3 e' hT HM0 HM7
   replace kh:=kh.tr (Kh.ext e')
   obtain⟨e,B2,B3,B4,B8,B10,hD⟩:=up7 e' e B2 B3 B4 B8 B10 hD
   refine tA hf rfl fun a hf=>tl_nil ?_
   replace hf:=hf.kp [2,3,4,8,9,10,11]
   obtain⟨wv,HW,hf⟩:=hf.opn 11 rfl
   replace HW:OwR setE 76 N8 G0 w (wkL nw x n) wv:=HW
   have hwn:=wkL_at nw x (m:=n) (i:=n) (Nat.le_refl n)
   obtain⟨Sn,hSn⟩:∃Sn,Sn=wkN nw x n:=⟨_,rfl⟩
   rw[← hSn] at hwn hsc
   have hbit:has Sn (x:Int)=Sn.getLsbD x:=by rw[Bool.eq_iff_iff];exact has_bit Sn x
   repeat refine seq ?_
   refine rgN 7 hf <| st (mv rfl) <| st (ld1 (v:=I (n:Nat)) T3 rfl B4 rfl) <| st (idxD U83 S76 (isE rfl HW.sl) rfl (by omega) (hwn)) <| st (ldS T76 (isR rfl)) <| st (mv rfl) <| st (call2 (A:=E (B (Sn.getLsbD x))) (B:=E (setV Sn)) (C:=E (I (x:Nat))) En75 rfl rfl (fun v u w he h h'=>by cases h;cases h';rw[← hbit];exact has_spec _ _ w)) ?_
   refine st (notp rfl) <| en fun a w e' hf=>?_
   obtain⟨hT,HM0,HM7⟩:=up3 e' hT HM0 HM7
   replace kh:=kh.tr (Kh.ext e')
   obtain⟨HW,e,B2,B3,B4,B8,B10,hD⟩:=up8 e' HW e B2 B3 B4 B8 B10 hD
   refine tl_nil ?_
   replace hf:=hf.keep [2,3,4,8,9,10,11,69]
   by_cases hh:Sn.getLsbD x=true
   ·rw[if_pos hh] at hsc
    rw[hh] at hf
    refine ifc hf rfl (fun h=>by cases h) (fun _=>?_)
    refine wskip ?_
    replace hf:=hf.keep [2,3,4,8,9,10,11]
    obtain⟨N9,hN9⟩:∃N9,N9=w.heap.size:=⟨_,rfl⟩
    have hN9s:N9≤w.heap.size:=Nat.le_of_eq hN9
    have hl9:N8≤N9∧∀b,wv.ownBlock=some b→b<N9:=by rw[hN9];exact⟨by have:=HW.base;omega,fun b hb=>(HW.lt hb).2⟩
    have hW9:0<N9:=by omega
    refine seq <| rgN 2 hf <| st (mv rfl) <| st (bslO1 (B:=N9) (G:=G0) U35 I3 rfl rfl hN9s (fun b hb=>hb.elim)) <| en fun a w e' hf=>?_
    obtain⟨hT,HM0,HM7⟩:=up3 e' hT HM0 HM7
    replace kh:=kh.tr (Kh.ext e')
    obtain⟨HW,hN9s,e,B2,B3,B4,B8,B10,hD⟩:=up9 e' HW hN9s e B2 B3 B4 B8 B10 hD
    refine tA hf rfl fun a hf=>tl_nil ?_
    obtain⟨u0,Ho,hf⟩:=hf.opn 12 rfl
    replace Ho:OwR intE 3 N9 G0 w (natE [x]) u0:=Ho
    replace hf:=hf.keep [2,3,4,8,9,10,11,12]
    repeat refine seq ?_
    refine rgN 2 hf <| st (ld1 (v:=I (n:Nat)) T3 rfl B4 rfl) <| st ((sub rfl rfl (by omega)).eq (congrArg (Value.int .i64) (show (n:Int) - 1=((n - 1:Nat):Int) by omega))) <| en fun a w e' hf=>?_
    obtain⟨hT,HM0,HM7⟩:=up3 e' hT HM0 HM7
    replace kh:=kh.tr (Kh.ext e')
    obtain⟨HW,Ho,e,B2,B3,B4,B8,B10,hD⟩:=up9 e' HW Ho e B2 B3 B4 B8 B10 hD
    refine tA hf rfl fun a hf=>tl_nil ?_
    replace hf:=hf.keep [2,3,4,8,9,10,11,12,13]
    obtain⟨tot,htot⟩:∃tot,tot=x::ocG nw x (n - 1) x:=⟨_,rfl⟩
    rw[← htot] at hsc
    refine blk (loopN (fun r0 a w=>∃(last:Nat) (out:List Nat) (u:Value),out++ocG nw x r0 last=tot∧out≠[]∧out.getLastD 0=last∧last<1024∧r0≤n - 1∧out.length+r0≤1026∧Fr 101 a w [(2,E (ptr b2)),(3,E (ptr b3)),(4,E (ptr b4)),(8,E (ptr b8)),(9,E (I (x:Nat))),(10,E (ptr b10)),(11,E wv),(12,E u),(13,E (I (r0:Nat)))] ∧
     ScJ W nm0 bm0 l V b2 b3 b4 b8 n (.slice none 0 0) (del left (x:Int)) w∧Ds [d1] w∧Kh Bz w3 w∧Blk w b10 (adC S7 (.map (some bm7))) 79∧MpR sKV w bm7 nm7 (wiL l S7)∧OwR setE 76 N8 G0 w (wkL nw x n) wv∧OwR intE 3 N9 G0 w (natE out) u) (n - 1)
     ⟨x,[x],u0,by rw[htot];rfl,by simp,rfl,hx1024,Nat.le_refl _,by simp only[List.length_singleton];omega,hf,⟨e,hT,HM0,B2,B3,B4,B8⟩,hD,kh,B10,HM7,HW,Ho⟩ ?_)
    rintro r0 a w ⟨last,out,u,hR,hne,hla,hl1024,hrn,hlen,hf,⟨e,hT,HM0,B2,B3,B4,B8⟩,hD,kh,B10,HM7,HW,Ho⟩
    repeat refine seq ?_
    refine rgN 2 hf <| st (mv rfl) <| st (gtr rfl rfl) <| en fun a w e' hf=>?_
    obtain⟨hT,HM0,HM7⟩:=up3 e' hT HM0 HM7
    replace kh:=kh.tr (Kh.ext e')
    obtain⟨HW,Ho,e,B2,B3,B4,B8,B10,hD⟩:=up9 e' HW Ho e B2 B3 B4 B8 B10 hD
    refine tl_nil <| ifc hf rfl (fun hc=>wskip ?_) (fun hc=>wexit ?_)
    ·obtain⟨k,rfl⟩:∃k,r0=k+1:=⟨r0 - 1,by have:=of_decide_eq_true hc;omega⟩
     refine seq <| blk ?_
     have hgl:=natE_last hne
     rw[hla] at hgl
     have hwl:1≤out.length:=by
      cases out with
      | nil=>exact absurd rfl hne
      | cons _ _=>rw[List.length_cons];omega
     have hol:(natE out).length=out.length:=natE_len out
     have hwk:=wkL_at nw x (m:=n) (i:=k+1) (by omega)
     obtain⟨Sk,hSk⟩:∃Sk,Sk=wkN nw x (k+1):=⟨_,rfl⟩
     rw[← hSk] at hwk
     rw[ocG,← hSk] at hR
     obtain⟨nx,hnx⟩:∃nx,nx=(minOf (nw (last:Int) &&& Sk)).getD 0:=⟨_,rfl⟩
     have hnx1:nx<1024:=by rw[hnx];exact min_lt _
     rw[← hnx] at hR
     have hwz:(Lit.int .i64 (last:Int)).wf=true:=wf64 (by omega) (by omega)
     have hdv7:=HM7.dvE hnm7 (G:=G0) (fun h=>h)
     have hix:((((natE out).length:Nat):Int) - 1)=(((out.length - 1:Nat)):Int):=by rw[hol];omega
     replace hf:=hf.kp [2,3,4,8,9,10,11,12,13]
     refine seq <| rgG 20 Mix.mix hf <| st (fA U79 rfl T77 rfl) <| st (ld1 (v:=.map (some bm7)) T77 rfl B10 (adC_map _ _)) <| st (mv rfl) <| st (mv rfl) <| st (lenD U35 (isE rfl Ho.sl)) <| st ((sub rfl rfl (by omega)).eq (congrArg (Value.int .i64) hix)) <| st (idxD U35 S3 (isE rfl Ho.sl) rfl (by omega) (hgl)) <| st (ldI T3 (isR rfl)) <| st ((lkM (l:=wiL l S7) (i:=(last:Int)) U77 zero_set (isE rfl hdv7) rfl hwz).eq (congrArg setV (congrFun hwi (last:Int)))) <| st (mv rfl) <| st (mv rfl) <| st (idxD U83 S76 (isE rfl HW.sl) rfl (by omega) (hwk)) <| st (ldS T76 (isR rfl)) <| st (call2 (A:=E (setV (nw (last:Int) &&& Sk))) (B:=E (setV (nw (last:Int)))) (C:=E (setV Sk)) En74 rfl rfl (fun v u w he h h'=>by cases h;cases h';exact inter_spec _ Sk w)) ?_
     refine st (call1 (A:=Tup [E (I (nx:Nat)),Any]) En72 rfl (fun v w he h=>by cases h;have hm:=min_spec (nw (last:Int) &&& Sk) w (hT.ext he);rw[minP,← hnx] at hm;exact hm.mono fun en w' ⟨u,k1,k2,k3⟩=>⟨u,k1,k2,tup_any k3⟩)) ?_
     refine st (mv rfl) <| st (ext_ rfl rfl) <| st (ext_ rfl rfl) <| st (asg rfl) <| st (asg rfl) <| en fun a w e' hf=>?_
     obtain⟨hT,HM0,HM7⟩:=up3 e' hT HM0 HM7
     replace kh:=kh.tr (Kh.ext e')
     obtain⟨HW,Ho,e,B2,B3,B4,B8,B10,hD⟩:=up9 e' HW Ho e B2 B3 B4 B8 B10 hD
     refine tl_nil ?_
     replace hf:=hf.kp [2,3,4,8,9,10,11,12,13,14]
     refine rgN 3 hf <| st (mv rfl) <| st (mv rfl) <| st (bsl1 U35 I3 rfl (by decide) rfl Ho.avs (isI rfl)) <| en fun a w e' hf=>?_
     obtain⟨hT,HM0,HM7⟩:=up3 e' hT HM0 HM7
     replace kh:=kh.tr (Kh.ext e')
     obtain⟨HW,hD,B2,B3,B4,B8,B10,Ho,e⟩:=up9 e' HW hD B2 B3 B4 B8 B10 Ho e
     haveI hin:∀G0,InR (GB W G0) _:=OwR.inGB (W:=W) Ho (by omega)
     refine tl_app U35 I3 rfl rfl hf (by decide) rfl Ho (isR rfl) (by rw[natE_len,List.length_singleton];omega) (by rw[natE_len,List.length_singleton];simp only[maxLen];omega) fun a v w hg hat Hn hf=>?_
     replace e:=e.gro hg (Ho.row (W:=W) (by omega))
     have hrow:=Ho.row (W:=W) (by omega)
     replace hT:=hT.gro hg (fun b hb=>by have:=(Ho.lt hb).1;omega)
     replace HM0:=HM0.gr hg (fun h=>by have:=(Ho.lt h.symm).1;omega)
     replace HM7:=HM7.gr hg (fun h=>by have:=(Ho.lt h.symm).1;omega)
     replace kh:=kh.tr (Kh.gro hg (fun b hb hh=>by have h1:=(Ho.lt hb).1;have h2:=hh.2;omega))
     replace HW:=HW.groE hg (fun b hb hh=>by have h1:=(Ho.lt hh).1;have h2:=hl9.2 b hb;omega)
     replace hD:=hD.gro hg (fun d hd hh=>by rw[List.mem_singleton] at hd;have h1:=(Ho.lt hh).1;omega)
     replace B2:=B2.gro hg (Ho.neLt (by omega))
     replace B3:=B3.gro hg (Ho.neLt (by omega))
     replace B4:=B4.gro hg (Ho.neLt (by omega))
     replace B8:=B8.gro hg (Ho.neLt (by omega))
     replace B10:=B10.gro hg (Ho.neLt (by omega))
     replace Ho:=Hn
     replace Ho:=Hn;clear Hn hg hat hin
     refine tA hf rfl fun a hf=>tl_nil ?_
     rw[← natE_app] at Ho
     replace hf:=hf.kp [2,3,4,8,9,10,11,12,13]
     refine rgN 2 hf <| st (mv rfl) <| st ((sub rfl rfl (by omega)).eq (congrArg (Value.int .i64) (show ((k+1:Nat):Int) - 1=((k:Nat):Int) by omega))) <| en fun a w e' hf=>?_
     obtain⟨hT,HM0,HM7⟩:=up3 e' hT HM0 HM7
     replace kh:=kh.tr (Kh.ext e')
     obtain⟨HW,Ho,e,B2,B3,B4,B8,B10,hD⟩:=up9 e' HW Ho e B2 B3 B4 B8 B10 hD
     refine tA hf rfl fun a hf=>tl_nil ?_
     replace hf:=hf.kp [2,3,4,8,9,10,11,12,13]
     exact⟨k,Nat.lt_succ_self _,nx,out++[nx],_,by rw[List.append_assoc];exact hR,by simp,last_app _ _,hnx1,by omega,by rw[List.length_append,List.length_singleton];omega,hf,⟨e,hT,HM0,B2,B3,B4,B8⟩,hD,kh,B10,HM7,HW,Ho⟩
    ·obtain rfl:r0=0:=by have:=of_decide_eq_false hc;omega
     rw[ocG,List.append_nil] at hR
     subst hR
     have hro:u.oneCell'=true:=Ho.one
     have nu2:u.ownBlock≠some b2:=Ho.neLt (by omega)
     have nd2:=hD.ne B2
     have nm2:bm0≠b2:=HM0.neB B2
     replace hf:=hf.kp [2,12]
     refine seq <| rgN 1 hf <| st (mv rfl) <| en fun a w e' hf=>?_
     obtain⟨hT,HM0⟩:=up2 e' hT HM0
     replace kh:=kh.tr (Kh.ext e')
     obtain⟨Ho,e,B2,B3,B4,B8,hD⟩:=up7 e' Ho e B2 B3 B4 B8 hD
     refine tl_st1 T35 hf rfl rfl hro B2 Nat.zero_lt_one fun w hg hsz B2 hf=>?_
     replace e:=e.gr hg (by omega);replace hT:=hT.gr hg (by omega);replace HM0:=HM0.gr hg (fun h=>nm2 (Option.some.inj h));replace B3:=B3.gr hg (by omega);replace B4:=B4.gr hg (by omega);replace B8:=B8.gr hg (by omega);replace Ho:=Ho.grE hg nu2;replace kh:=kh.tr (Kh.gr hg (fun hh=>by have:=hh.1;omega))
     replace hD:=hD.gr hg nd2
     refine tl_nil <| wret <| ⟨⟨rfl,_,_,_,⟨⟨e,hT,HM0,B2,B3,B4,B8⟩,hD⟩,hsc,hne,Ho.slN fun b hb hh=>by have h1:=(Ho.lt hb).1;omega⟩,kh⟩
   ·rw[if_neg hh] at hsc
    rw[Bool.eq_false_iff.2 hh] at hf
    refine ifc hf rfl (fun _=>?_) (fun h=>by cases h)
    refine wexit <| ⟨⟨⟨⟨e,hT,HM0,B2,B3,B4,by rw[hdl];exact B8⟩,hD⟩,fun rest' hr'=>by
     have:rest'=rest:=by rw[hs,List.append_assoc] at hr';simpa using hr'.symm
     rw[this,hdl];exact hsc⟩,kh⟩
  ·intro a' w' hf' hJ hsz hDn
   simp only[Exit.inBlock,↓reduceIte,Exit.then]
   have hfs:=hJ.2 [] (by rw[List.append_nil])
   rw[hfs,ocL] at hrr
   subst hrr
   have hD2:Ds (w.heap.size::[d1]) w':=hJ.1.2.cons hDn fun hm=>by rw[List.mem_singleton] at hm;omega
   have hf:FrD 101 (marks (w.heap.size::[d1])) a' w' [(2,E (ptr b2))]:=hf'.keep [2]
   have hDW2:∀d∈w.heap.size::[d1],W.heap.size≤d:=fun d hd=>by
    rcases List.mem_cons.1 hd with rfl|hd
    ·exact hBW
    ·exact hDW d hd
   obtain⟨e,hT,HM0,B2,B3,B4,B8⟩:=hJ.1.1
   have hb2:=hD2.ne B2
   generalize w.heap.size::[d1]=D2 at *
   generalize w'=w at *
   refine seq <| regn0 <| tl_st1 T35 hf rfl rfl rfl B2 Nat.zero_lt_one fun w hg hsz B2 hf=>?_
   replace e:=e.gr hg (by omega)
   replace hD2:=hD2.gr hg hb2
   refine tl_nil <| wret <| retc1M rfl T35 hf rfl B2 hD2 ⟨_,rfl,e.shut hDW2,rfl⟩
  ·intro ex c a' w' hcd hf' hX hsz hDn
   obtain⟨rfl,r,out,left,⟨hJ,hJd⟩,hfs,hr1,HR⟩:=hX
   simp only[Exit.inBlock,↓reduceIte,Exit.then]
   rw[hfs] at hrr
   subst hrr
   have hD2:Ds (w.heap.size::[d1]) w':=hJd.cons hDn fun hm=>by rw[List.mem_singleton] at hm;omega
   have hf:FrD 101 (marks (w.heap.size::[d1])) a' w' [(2,E (ptr b2))]:=hf'.keep [2]
   have hDW2:∀d∈w.heap.size::[d1],W.heap.size≤d:=fun d hd=>by
    rcases List.mem_cons.1 hd with rfl|hd
    ·exact hBW
    ·exact hDW d hd
   refine retc1M rfl T35 hf rfl hJ.p2 hD2 ⟨_,rfl,hJ.e.shut hDW2,hr1,?_⟩
   exact Dv.weak (Dv.ch HR (chg_shut _ _) fun b hb=>by
    rcases List.mem_cons.1 hb with rfl|hb
    ·show _<_;omega
    ·rw[List.mem_singleton] at hb;show _<_;omega) fun b _ hb=>hb.elim
theorem retc2M {fn:Func}{t u t' u':Nat}{R:Ending→World→Prop}{n:Nat}{a:Act}{w:World}{b b':Nat}{v v':Value}{bt bt':TypeId}{L:Env}{D:List Nat}(hr:fn.results = #[.cell t u,.cell t' u'])(ht:TI Tryz.prog u false 1)(ht':TI Tryz.prog u' false 1)(hf:FrD n (marks D) a w L)(h:look L t=some (E (.pointer (some ⟨b,0,none⟩))))(h':look L t'=some (E (.pointer (some ⟨b',0,none⟩))))
  (hb:Blk w b #[v] bt) (hb':Blk w b' #[v'] bt') (hD:Ds D w) (hR:R (.returned (.tuple #[v,v'])) (shut D w)):bodyPostM (FW none) 0 Tryz.prog fn R .ret a w:=by
 have hv:a.tmps.getD t undef=.pointer (some ⟨b,0,none⟩):=hf.val t _ h
 have hv':a.tmps[t]?.getD undef=.pointer (some ⟨b,0,none⟩):=by simpa using hv
 have hw:a.tmps.getD t' undef=.pointer (some ⟨b',0,none⟩):=hf.val t' _ h'
 have hw':a.tmps[t']?.getD undef=.pointer (some ⟨b',0,none⟩):=by simpa using hw
 have hc:(shut D w).cell? ⟨b,0,none⟩=some v:=by rw[(hb.shut (hD.ne hb)).cell 0];rfl
 have hc':(shut D w).cell? ⟨b',0,none⟩=some v':=by rw[(hb'.shut (hD.ne hb')).cell 0];rfl
 show LeavesInM _ _ _ _ _ _ _ _ _
 rw[hf.defers]
 exact leaves D w hD (by simp[results,hr,hv',hw',asAddr,loadVar1 ht hc,loadVar1 ht' hc']) hR
def evS (L:List BS)(s:BS):Nat→BS
 | 0=>s
 | j+1=>if j % 2=0 then evS L s j ||| gs L j else evS L s j
def oneF (nb:Int→BS)(ps:List BS):Nat→BS
 | 0=>0
 | k+1=>evS (lvB nb ((minOf (gs ps k)).getD 0)) (oneF nb ps k) (lvB nb ((minOf (gs ps k)).getD 0)).length
def bdB (nb:Int→BS)(one:BS)(x:Nat):Bool:=
 ((!((nb (x:Int) &&& one)==0))==one.getLsbD x && !(nb (x:Int)==0)) || ((one.getLsbD x && !((nb (x:Int) &&& one)==0)) || (!one.getLsbD x && !((nb (x:Int) &&& ~~~one)==0)))
def bpO (nb:Int→BS)(V:BS):BS:=oneF nb (prF nb (card V) V) (prF nb (card V) V).length
def bpB (nb:Int→BS)(V:BS):Bool := !(elems V).any (bdB nb (bpO nb V))
def bpL (nb:Int→BS)(V:BS):List Nat:=if bpB nb V=true then elems (bpO nb V) else []
structure BpJ (W:World)(nm bm:Nat)(l:List (Int×BS))(V one:BS)(b2 b3 b4 b5:Nat)(w:World):Prop where
 e:Ext W w
 t:Tab w
 m:MpR sKV w bm nm l
 p2:Blk w b2 #[.slice none 0 0] 35
 p3:Blk w b3 #[B false] 4
 p4:Blk w b4 (adC V (.map (some bm))) 79
 p5:Blk w b5 (setC one) 76
theorem BpJ.kp {W:World}{nm bm:Nat}{l:List (Int×BS)}{V one:BS}{b2 b3 b4 b5:Nat}{B:Nat}{w w':World}(h:BpJ W nm bm l V one b2 b3 b4 b5 w)(k:Kp B w w')(hW:W.heap.size≤B)(h0:0<B)(l2:b2<B)(l3:b3<B)(l4:b4<B)(l5:b5<B)(lm:bm<B):BpJ W nm bm l V one b2 b3 b4 b5 w':=
 have no:∀{b},b<B→¬Hole B b:=fun h hh=>by have:=hh.1;omega
 ⟨h.e.kp k hW,h.t.kp k h0,h.m.pres (k.same bm h.m.lt (no lm)),h.p2.kp k (no l2),h.p3.kp k (no l3),h.p4.kp k (no l4),h.p5.kp k (no l5)⟩
theorem bip_spec {G:Nat→Prop}{N:Nat}(g:GT)(ok:Gr.Ok g)(v:Value)(W:World)(hT:Tab W)(h:(Dv (ptE (grE N)) G (some g)).p v W)(hl1:g.1.length≤100000)(hl2:g.2.length≤100000)(hN:N≤1000000) :
  Calls Tryz.prog 23 #[v] W (Post (Tup [Dv (slE intE) G0 (natE (bpL (nbA g) (vset g.1))),E (B (bpB (nbA g) (vset g.1)))]) W):=by
 have hgd:(Dv (ptE (grE N)) G0 (some g)).p v W:=Dv.weak h fun b _ hb=>hb.elim
 obtain⟨l,hl⟩:∃l,l=nbL g (elems (vset g.1)):=⟨_,rfl⟩
 have hnb:nbA g=lkS l:=by rw[hl,nbA]
 rw[hnb]
 obtain⟨V,hV⟩:∃V,V=vset g.1:=⟨_,rfl⟩
 rw[← hV]
 obtain⟨ps,hps⟩:∃ps,ps=cmpB l V:=⟨_,rfl⟩
 have hpl:ps.length≤1024:=by rw[hps,cmpB];exact Nat.le_trans (prF_len _ _ _) (card_le_1024 V)
 obtain⟨rl,hrl⟩:∃rl,rl=bpL (lkS l) V:=⟨_,rfl⟩
 obtain⟨rb,hrb⟩:∃rb,rb=bpB (lkS l) V:=⟨_,rfl⟩
 rw[← hrl,← hrb]
 rw[bpL,← hrb] at hrl
 rw[bpB] at hrb
 have hbo:bpO (lkS l) V=oneF (lkS l) ps ps.length:=by rw[hps,cmpB,bpO]
 rw[hbo] at hrl hrb
 have hT0:=hT.lt
 refine enterM (args:=[v]) (As:=[E v]) Tryz.func23 rfl Tryz.ntmps23 (Nat.le_of_ble_eq_true rfl) ?_ (fun a hf=>?_) (Nat.le_of_ble_eq_true rfl)
 ·exact arg1 rfl
 dsimp only[params,Nat.reduceAdd] at hf
 have e:=Ext.rfl' W
 refine seq <| regn0 <| tL I35 hf fun a b2 w e' hb2 hs2 B2 hf=>?_
 have hle2:=Nat.le_trans e.size (Nat.le_of_eq hb2.symm)
 obtain⟨hT,e⟩:=up2 e' hT e
 refine tL I4 hf fun a b3 w e' hb3 hs3 B3 hf=>?_
 have hle3:=Nat.le_trans e.size (Nat.le_of_eq hb3.symm)
 have lt3_B2:=B2.lt
 obtain⟨hT,e,B2⟩:=up3 e' hT e B2
 refine tl_nil ?_
 replace B2:Blk w b2 #[.slice none 0 0] 35:=B2
 replace B3:Blk w b3 #[B false] 4:=B3
 have n23:W.heap.size≤b2∧W.heap.size≤b3∧b2≠b3:=by have:=B2.lt;exact⟨hle2,hle3,by omega⟩
 replace hf:=hf.kp [0,2,3]
 have e0:=e
 refine seq <| rgN 2 hf <| st (mv rfl) <| st (call1 (A:=AdjA l V 1024) En46 rfl (fun v w he k=>by cases k;rw[hl,hV];exact ofA_spec g ok _ w (hT.ext he) (VA.st _ _ _ _ (Ext.tr e0 he) hgd) hl1 hl2 hN)) ?_
 refine en fun a w e' hf=>?_
 obtain⟨hT,e,B2,B3⟩:=up4 e' hT e B2 B3
 obtain⟨av,⟨mq,rfl,HV0⟩,hf⟩:=hf.opn 14 rfl
 obtain⟨cs,⟨bm0,nm0,rfl,_,hnm0,HM0⟩,hmq⟩:=HV0
 replace hmq:mq=.map (some bm0):=hmq
 subst hmq
 have nm23:bm0≠b2∧bm0≠b3:=⟨HM0.neB B2,HM0.neB B3⟩
 obtain⟨N1,hN1⟩:∃N1,N1=w.heap.size:=⟨_,rfl⟩
 have hN1s:N1≤w.heap.size:=Nat.le_of_eq hN1
 have hbm0:bm0<N1∧b2<N1∧b3<N1:=by rw[hN1];exact⟨HM0.lt,B2.lt,B3.lt⟩
 have hWN1:W.heap.size≤N1:=by rw[hN1];exact e.size
 replace hf:=hf.kp [2,3,14]
 refine tL I79 hf fun a b4 w e' hb4 hs4 B4 hf=>?_
 have hle4:=Nat.le_trans e.size (Nat.le_of_eq hb4.symm)
 have lo4_hN1s:=Nat.le_trans hN1s (Nat.le_of_eq hb4.symm)
 have lt4_B2:=B2.lt
 have lt4_B3:=B3.lt
 obtain⟨hT,HM0,hN1s,e,B2,B3⟩:=up6 e' hT HM0 hN1s e B2 B3
 have n4:N1≤b4:=lo4_hN1s
 refine tl_stW T79 hf rfl rfl (adC_one _ _) B4 rfl (adC_size _ _) fun w hg hsz B4 hf=>?_
 replace e:=e.gr hg (by omega);replace hT:=hT.gr hg (by omega);replace HM0:=HM0.gr hg (fun h=>by cases h;omega);replace B2:=B2.gr hg (by omega);replace B3:=B3.gr hg (by omega);replace hN1s:=Nat.le_trans hN1s hg.size;clear hg
 refine tl_nil ?_
 replace hf:=hf.kp [2,3,4]
 have l4':=B4.lt
 refine seq <| regn0 <| tL I76 hf fun a b5 w e' hb5 hs5 B5 hf=>?_
 have hle5:=Nat.le_trans e.size (Nat.le_of_eq hb5.symm)
 have lo5_hN1s:=Nat.le_trans hN1s (Nat.le_of_eq hb5.symm)
 obtain⟨hT,HM0,hN1s,e,B2,B3,B4⟩:=up7 e' hT HM0 hN1s e B2 B3 B4
 refine tl_nil ?_
 have n5:N1≤b5∧b4≠b5:=⟨lo5_hN1s,by omega⟩
 simp only[Value.cells,zeroC] at B5
 replace B5:Blk w b5 (setC (oneF (lkS l) ps 0)) 76:=by rw[show oneF (lkS l) ps 0=0 from rfl];exact B5
 replace hf:=hf.kp [2,3,4,5]
 obtain⟨N2,hN2⟩:∃N2,N2=w.heap.size:=⟨_,rfl⟩
 have hN2s:N2≤w.heap.size:=Nat.le_of_eq hN2
 have hl2':b2<N2∧b3<N2∧b4<N2∧b5<N2∧bm0<N2:=by have h1:=B2.lt;have h2:=B3.lt;have h3:=B4.lt;have h4:=B5.lt;have h5:=HM0.lt;omega
 have hdv:=HM0.dvE hnm0 (G:=G0) (fun h=>h)
 repeat refine seq ?_
 refine rgN 4 hf <| st (ldW T79 rfl B4 (adC_size _ _)) <| st (call1 (A:=OwA setE 76 N2 G0 ps) (B:=E (.agg (adC V (.map (some bm0))))) En54 rfl (fun v w he k1=>by cases k1;rw[hps];exact (parts_spec l V (.map (some bm0)) w (hT.ext he) (Dv.ex hdv he)).mono fun en w' ⟨u,k1,k2,k3⟩=>⟨u,k1,k2,OwR.low k3 (Nat.le_trans hN2s he.size) fun b hb=>hb.elim⟩)) ?_
 refine st (lenD U83 ⟨_,rfl,fun v w _ h=>OwR.sl h⟩) <| st (mv rfl) <| en fun a w e' hf=>?_
 obtain⟨hT,HM0,e,B2,B3,B4,B5⟩:=up7 e' hT HM0 e B2 B3 B4 B5
 refine tl_nil ?_
 obtain⟨pv,HoP,hf⟩:=hf.opn 16 rfl
 replace HoP:OwR setE 76 N2 G0 w ps pv:=HoP
 obtain⟨nb,hnb'⟩:∃nb,nb=lkS l:=⟨_,rfl⟩
 rw[← hnb'] at hrb hrl B5
 replace hf:=hf.kp [2,3,4,5,16,17,18]
 replace hf:=hf.kp [2,3,4,5,16,17,18]
 refine blk (loopN (fun r0 a w=>∃(j:Nat) ,r0=ps.length - j∧j≤ps.length∧Fr 98 a w [(2,E (ptr b2)),(3,E (ptr b3)),(4,E (ptr b4)),(5,E (ptr b5)),(16,E pv),(17,E (I (ps.length:Nat))),(18,E (I j))]∧Ext W w∧Tab w∧MpR sKV w bm0 nm0 l∧Blk w b2 #[.slice none 0 0] 35∧Blk w b3 #[B false] 4∧Blk w b4 (adC V (.map (some bm0))) 79∧Blk w b5 (setC (oneF nb ps j)) 76∧OwR setE 76 N2 G0 w ps pv) ps.length ⟨0,rfl,by omega,hf,e,⟨hT,HM0,B2,B3,B4,B5,HoP⟩⟩ ?_)
 rintro r0 a w ⟨j,rfl,hj,hf,e,hT,HM0,B2,B3,B4,B5,HoP⟩
 refine seq <| rgN 1 hf <| st (lss rfl rfl) <| en fun a w e' hf=>?_
 obtain⟨hT,HM0,HoP,e,B2,B3,B4,B5⟩:=up8 e' hT HM0 HoP e B2 B3 B4 B5
 refine tl_nil <| seq <| ifc hf rfl (fun hc=>wskip ?_) (fun hc=>wexit ?_)
 rotate_left
 rotate_left
 ·have hltj:j<ps.length:=by have:=of_decide_eq_true hc;(try dsimp only at this);omega
  replace hf:=hf.kp [2,3,4,5,16,17,18]
  refine seq <| blk ?_
  have hgp:=gs_get hltj
  obtain⟨C,hC⟩:∃C,C=gs ps j:=⟨_,rfl⟩
  obtain⟨x,hx⟩:∃x,x=(minOf C).getD 0:=⟨_,rfl⟩
  have hx1:x<1024:=by rw[hx];exact min_lt _
  obtain⟨s0,hs0⟩:∃s0,s0=oneF nb ps j:=⟨_,rfl⟩
  have hsc:oneF nb ps (j+1)=evS (lvB nb x) s0 (lvB nb x).length:=by rw[oneF,← hC,← hx,← hs0]
  rw[← hC] at hgp
  rw[← hs0] at B5
  have l2:=B2.lt
  have l3:=B3.lt
  have l4:=B4.lt
  have l5:=B5.lt
  have lm:=HM0.lt
  obtain⟨N3,hN3⟩:∃N3,N3=w.heap.size:=⟨_,rfl⟩
  have hN3s:N3≤w.heap.size:=Nat.le_of_eq hN3
  rw[← hN3] at l2 l3 l4 l5 lm
  have hW3:W.heap.size≤N3:=by rw[hN3];exact e.size
  refine seq <| regn0 <| tP hf (idxD U83 S76 (isE rfl HoP.sl) rfl (by omega) (hgp)) fun a w e' hf=>?_
  obtain⟨hT,HM0,HoP,hN3s,e,B2,B3,B4,B5⟩:=up9 e' hT HM0 HoP hN3s e B2 B3 B4 B5
  refine tP hf (ldS T76 (isR rfl)) fun a w e' hf=>?_
  obtain⟨hT,HM0,HoP,hN3s,e,B2,B3,B4,B5⟩:=up9 e' hT HM0 HoP hN3s e B2 B3 B4 B5
  refine tL I76 hf fun a b7 w e' hb7 hs7 B7 hf=>?_
  have lo7_hN3s:=Nat.le_trans hN3s (Nat.le_of_eq hb7.symm)
  have ne7_HoP:=HoP.ne_new hb7
  have lt7_B2:=B2.lt
  obtain⟨hT,HM0,HoP,hN3s,e,B2,B3,B4,B5⟩:=up9 e' hT HM0 HoP hN3s e B2 B3 B4 B5
  have n7:N3≤b7:=lo7_hN3s
  have hp7:=ne7_HoP
  replace hf:=hf.kp [2,3,4,5,7,16,17,18,21]
  refine tl_stW T76 hf rfl rfl (wordsC_one _) B7 rfl (setC_size _) fun w hg hsz B7 hf=>?_
  replace e:=e.gr hg (by omega);replace hT:=hT.gr hg (by omega);replace HM0:=HM0.gr hg (fun h=>by cases h;omega);replace B2:=B2.gr hg (by omega);replace B3:=B3.gr hg (by omega);replace B4:=B4.gr hg (by omega);replace B5:=B5.gr hg (by omega);replace HoP:=HoP.grE hg hp7;replace hN3s:=Nat.le_trans hN3s hg.size;clear hg
  refine tl_nil ?_
  have l7:=B7.lt
  replace hf:=hf.kp [2,3,4,5,7,16,17,18]
  refine seq <| rgN 7 hf <| st ((ldW T76 rfl B7 rfl).eq ((rfl:_=setV C))) <| st (call1 (A:=Tup [E (I (x:Nat)),Any]) En72 rfl (fun v w he h=>by cases h;have hm:=min_spec C w (hT.ext he);rw[minP,← hx] at hm;exact hm.mono fun en w' ⟨u,k1,k2,k3⟩=>⟨u,k1,k2,tup_any k3⟩)) ?_
  refine st (mv rfl) <| st (ext_ rfl rfl) <| st (ext_ rfl rfl) <| st (asg rfl) <| st (asg rfl) <| en fun a w e' hf=>?_
  replace hT:=hT.ext e'
  replace HM0:=HM0.ext e'
  replace HoP:=HoP.ext e'
  replace hN3s:=Nat.le_trans hN3s e'.size
  replace e:=e.tr e'
  replace B2:=B2.ext e'
  replace B3:=B3.ext e'
  replace B4:=B4.ext e'
  replace B5:=B5.ext e'
  replace B7:=B7.ext e'
  refine tl_nil ?_
  replace hf:=hf.kp [2,3,4,5,8,16,17,18]
  obtain⟨L,hL⟩:∃L,L=lvB nb x:=⟨_,rfl⟩
  have hLl:L.length≤1025:=by rw[hL];exact lvB_len _ _
  rw[← hL] at hsc
  obtain⟨N4,hN4⟩:∃N4,N4=w.heap.size:=⟨_,rfl⟩
  have hN4s:N4≤w.heap.size:=Nat.le_of_eq hN4
  have hl4:N3≤N4:=by rw[hN4];exact hN3s
  have hdv:=HM0.dvE hnm0 (G:=G0) (fun h=>h)
  refine seq <| rgN 5 hf <| st (ldW T79 rfl B4 (adC_size _ _)) <| st (mv rfl) <| st (call2 (A:=OwA setE 76 N4 G0 L) (B:=E (.agg (adC V (.map (some bm0))))) (C:=E (I (x:Nat))) En52 rfl rfl (fun a b w he k2 k4=>by cases k2;cases k4;rw[hL,hnb'];exact (levels_spec l V (.map (some bm0)) x w (hT.ext he) (Dv.ex hdv he) hx1).mono fun en w' ⟨z,q1,q2,q3⟩=>⟨z,q1,q2,OwR.low q3 (Nat.le_trans hN4s he.size) fun b hb=>hb.elim⟩)) ?_
  refine st (lenD U83 ⟨_,rfl,fun v w _ h=>OwR.sl h⟩) <| st (mv rfl) <| en fun a w e' hf=>?_
  replace hT:=hT.ext e'
  replace HM0:=HM0.ext e'
  replace HoP:=HoP.ext e'
  replace hN3s:=Nat.le_trans hN3s e'.size
  replace e:=e.tr e'
  replace B2:=B2.ext e'
  replace B3:=B3.ext e'
  replace B4:=B4.ext e'
  replace B5:=B5.ext e'
  replace B7:=B7.ext e'
  refine tl_nil ?_
  obtain⟨lv,HoL,hf⟩:=hf.opn 29 rfl
  replace HoL:OwR setE 76 N4 G0 w L lv:=HoL
  replace B5:Blk w b5 (setC (evS L s0 0)) 76:=B5
  replace hf:=hf.kp [2,3,4,5,16,17,18,29,30,31]
  replace hf:=hf.kp [2,3,4,5,16,17,18,29,30,31]
  refine blk (loopN (fun r0 a w=>∃(i:Nat) ,r0=L.length - i∧i≤L.length∧Fr 98 a w [(2,E (ptr b2)),(3,E (ptr b3)),(4,E (ptr b4)),(5,E (ptr b5)),(16,E pv),(17,E (I (ps.length:Nat))),(18,E (I j)),(29,E lv),(30,E (I (L.length:Nat))),(31,E (I i))]∧Ext W w∧Tab w∧MpR sKV w bm0 nm0 l∧Blk w b2 #[.slice none 0 0] 35∧Blk w b3 #[B false] 4∧Blk w b4 (adC V (.map (some bm0))) 79∧Blk w b5 (setC (evS L s0 i)) 76∧OwR setE 76 N2 G0 w ps pv∧OwR setE 76 N4 G0 w L lv∧N4≤w.heap.size) L.length ⟨0,rfl,by omega,hf,e,⟨hT,HM0,B2,B3,B4,B5,HoP,HoL,HoL.base⟩⟩ ?_)
  rintro r0 a w ⟨i,rfl,hi,hf,e,hT,HM0,B2,B3,B4,B5,HoP,HoL,hN4s⟩
  refine seq <| rgN 1 hf <| st (lss rfl rfl) <| en fun a w e' hf=>?_
  replace hT:=hT.ext e'
  replace HM0:=HM0.ext e'
  replace HoP:=HoP.ext e'
  replace HoL:=HoL.ext e'
  replace hN4s:=Nat.le_trans hN4s e'.size
  replace e:=e.tr e'
  replace B2:=B2.ext e'
  replace B3:=B3.ext e'
  replace B4:=B4.ext e'
  replace B5:=B5.ext e'
  refine tl_nil <| seq <| ifc hf rfl (fun hc=>wskip ?_) (fun hc=>wexit ?_)
  rotate_left
  rotate_left
  ·have hlti:i<L.length:=by have:=of_decide_eq_true hc;(try dsimp only at this);omega
   replace hf:=hf.kp [2,3,4,5,16,17,18,29,30,31]
   refine seq <| blk ?_
   have hgi:=gs_get hlti
   obtain⟨R,hR⟩:∃R,R=gs L i:=⟨_,rfl⟩
   obtain⟨s1,hs1⟩:∃s1,s1=evS L s0 i:=⟨_,rfl⟩
   have hsi:evS L s0 (i+1)=if i % 2=0 then s1 ||| R else s1:=by rw[evS,← hR,← hs1]
   rw[← hR] at hgi
   rw[← hs1] at B5
   refine seq <| regn0 <| tP hf (mv rfl) fun a w e' hf=>?_
   replace hT:=hT.ext e'
   replace HM0:=HM0.ext e'
   replace HoP:=HoP.ext e'
   replace HoL:=HoL.ext e'
   replace hN4s:=Nat.le_trans hN4s e'.size
   replace e:=e.tr e'
   replace B2:=B2.ext e'
   replace B3:=B3.ext e'
   replace B4:=B4.ext e'
   replace B5:=B5.ext e'
   refine tP hf (idxD U83 S76 (isE rfl HoL.sl) rfl (by omega) (hgi)) fun a w e' hf=>?_
   replace hT:=hT.ext e'
   replace HM0:=HM0.ext e'
   replace HoP:=HoP.ext e'
   replace HoL:=HoL.ext e'
   replace hN4s:=Nat.le_trans hN4s e'.size
   replace e:=e.tr e'
   replace B2:=B2.ext e'
   replace B3:=B3.ext e'
   replace B4:=B4.ext e'
   replace B5:=B5.ext e'
   refine tP hf (ldS T76 (isR rfl)) fun a w e' hf=>?_
   replace hT:=hT.ext e'
   replace HM0:=HM0.ext e'
   replace HoP:=HoP.ext e'
   replace HoL:=HoL.ext e'
   replace hN4s:=Nat.le_trans hN4s e'.size
   replace e:=e.tr e'
   replace B2:=B2.ext e'
   replace B3:=B3.ext e'
   replace B4:=B4.ext e'
   replace B5:=B5.ext e'
   refine tL I76 hf fun a b11 w e' hb11 hs11 B11 hf=>?_
   have lo11_hN4s:=Nat.le_trans hN4s (Nat.le_of_eq hb11.symm)
   have ne11_HoP:=HoP.ne_new hb11
   have ne11_HoL:=HoL.ne_new hb11
   replace hT:=hT.ext e'
   replace HM0:=HM0.ext e'
   replace HoP:=HoP.ext e'
   replace HoL:=HoL.ext e'
   replace hN4s:=Nat.le_trans hN4s e'.size
   replace e:=e.tr e'
   replace B2:=B2.ext e'
   replace B3:=B3.ext e'
   replace B4:=B4.ext e'
   replace B5:=B5.ext e'
   refine tA hf rfl fun a hf=>?_
   have n11:N4≤b11:=lo11_hN4s
   have hp11:=ne11_HoP
   have hl11:=ne11_HoL
   replace hf:=hf.kp [2,3,4,5,10,11,16,17,18,29,30,31,35]
   refine tl_stW T76 hf rfl rfl (wordsC_one _) B11 rfl (setC_size _) fun w hg hsz B11 hf=>?_
   replace e:=e.gr hg (by omega);replace hT:=hT.gr hg (by omega);replace HM0:=HM0.gr hg (fun h=>by cases h;omega);replace B2:=B2.gr hg (by omega);replace B3:=B3.gr hg (by omega);replace B4:=B4.gr hg (by omega);replace B5:=B5.gr hg (by omega);replace HoP:=HoP.grE hg hp11;replace HoL:=HoL.grE hg hl11;replace hN4s:=Nat.le_trans hN4s hg.size;clear hg
   refine tl_nil ?_
   have l11:=B11.lt
   replace hf:=hf.kp [2,3,4,5,10,11,16,17,18,29,30,31]
   have htm:(i:Int).tmod 2=((i % 2:Nat):Int):=rfl
   by_cases hev:i % 2=0
   ·rw[if_pos hev] at hsi
    refine seq <| rgN 3 hf <| st (mv rfl) <| st (rem rfl rfl (by omega)) <| st ((eql rfl rfl).eq (congrArg Value.bool ((by rw[htm,hev];rfl:((i:Int).tmod 2==0)=true)))) ?_
    refine en fun a w e' hf=>?_
    obtain⟨hT,HM0,HoP,HoL,hN4s,e,B2,B3,B4⟩:=up9 e' hT HM0 HoP HoL hN4s e B2 B3 B4
    obtain⟨B5,B11⟩:=up2 e' B5 B11
    refine tl_nil <| ifc hf rfl (fun _=>?_) (fun h=>by cases h)
    replace hf:=hf.kp [2,3,4,5,11,16,17,18,29,30,31]
    refine rgN 3 hf <| st ((ldW T76 rfl B5 rfl).eq ((rfl:_=setV s1))) <| st ((ldW T76 rfl B11 rfl).eq ((rfl:_=setV R))) <| st (call2 (A:=E (setV (s1 ||| R))) En73 rfl rfl (fun v u w he h h'=>by cases h;cases h';exact union_spec s1 R w)) ?_
    refine en fun a w e' hf=>?_
    obtain⟨hT,HM0,HoP,HoL,hN4s,e,B2,B3,B4⟩:=up9 e' hT HM0 HoP HoL hN4s e B2 B3 B4
    obtain⟨B5,B11⟩:=up2 e' B5 B11
    have hp5:pv.ownBlock≠some b5:=HoP.neLt (by omega)
    have hl5:lv.ownBlock≠some b5:=HoL.neLt (by omega)
    replace hf:=hf.kp [2,3,4,5,16,17,18,29,30,31,41]
    refine tl_stW T76 hf rfl rfl (wordsC_one _) B5 rfl (setC_size _) fun w hg hsz B5 hf=>?_
    replace e:=e.gr hg (by omega);replace hT:=hT.gr hg (by omega);replace HM0:=HM0.gr hg (fun h=>by cases h;omega);replace B2:=B2.gr hg (by omega);replace B3:=B3.gr hg (by omega);replace B4:=B4.gr hg (by omega);replace HoP:=HoP.grE hg hp5;replace HoL:=HoL.grE hg hl5;replace hN4s:=Nat.le_trans hN4s hg.size;clear hg
    refine tl_nil ?_
    rw[← hsi] at B5
    replace hf:=hf.kp [2,3,4,5,16,17,18,29,30,31]
    refine rgN 1 hf <| st ((add rfl rfl (by omega)).eq (congrArg (Value.int .i64) (show (i:Int)+1=((i+1:Nat):Int) from rfl))) <| en fun a w e' hf=>?_
    replace hT:=hT.ext e'
    replace HM0:=HM0.ext e'
    replace HoP:=HoP.ext e'
    replace HoL:=HoL.ext e'
    replace hN4s:=Nat.le_trans hN4s e'.size
    replace e:=e.tr e'
    replace B2:=B2.ext e'
    replace B3:=B3.ext e'
    replace B4:=B4.ext e'
    replace B5:=B5.ext e'
    refine tP hf (mv rfl) fun a w e' hf=>?_
    replace hT:=hT.ext e'
    replace HM0:=HM0.ext e'
    replace HoP:=HoP.ext e'
    replace HoL:=HoL.ext e'
    replace hN4s:=Nat.le_trans hN4s e'.size
    replace e:=e.tr e'
    replace B2:=B2.ext e'
    replace B3:=B3.ext e'
    replace B4:=B4.ext e'
    replace B5:=B5.ext e'
    refine tl_nil ?_
    replace hf:=hf.kp [2,3,4,5,16,17,18,29,30,31]
    refine⟨_,?_,i+1,rfl,by omega,hf,e,?_⟩
    ·omega
    exact⟨hT,HM0,B2,B3,B4,B5,HoP,HoL,hN4s⟩
   ·rw[if_neg hev] at hsi
    refine seq <| rgN 3 hf <| st (mv rfl) <| st (rem rfl rfl (by omega)) <| st ((eql rfl rfl).eq (congrArg Value.bool ((by rw[htm];exact beq_eq_false_iff_ne.2 (by omega):((i:Int).tmod 2==0)=false)))) ?_
    refine en fun a w e' hf=>?_
    replace hT:=hT.ext e'
    replace HM0:=HM0.ext e'
    replace HoP:=HoP.ext e'
    replace HoL:=HoL.ext e'
    replace hN4s:=Nat.le_trans hN4s e'.size
    replace e:=e.tr e'
    replace B2:=B2.ext e'
    replace B3:=B3.ext e'
    replace B4:=B4.ext e'
    replace B5:=B5.ext e'
    refine tl_nil <| ifc hf rfl (fun h=>by cases h) (fun _=>?_)
    refine wskip ?_
    rw[← hsi] at B5
    replace hf:=hf.kp [2,3,4,5,16,17,18,29,30,31]
    refine rgN 1 hf <| st ((add rfl rfl (by omega)).eq (congrArg (Value.int .i64) (show (i:Int)+1=((i+1:Nat):Int) from rfl))) <| en fun a w e' hf=>?_
    replace hT:=hT.ext e'
    replace HM0:=HM0.ext e'
    replace HoP:=HoP.ext e'
    replace HoL:=HoL.ext e'
    replace hN4s:=Nat.le_trans hN4s e'.size
    replace e:=e.tr e'
    replace B2:=B2.ext e'
    replace B3:=B3.ext e'
    replace B4:=B4.ext e'
    replace B5:=B5.ext e'
    refine tP hf (mv rfl) fun a w e' hf=>?_
    replace hT:=hT.ext e'
    replace HM0:=HM0.ext e'
    replace HoP:=HoP.ext e'
    replace HoL:=HoL.ext e'
    replace hN4s:=Nat.le_trans hN4s e'.size
    replace e:=e.tr e'
    replace B2:=B2.ext e'
    replace B3:=B3.ext e'
    replace B4:=B4.ext e'
    replace B5:=B5.ext e'
    refine tl_nil ?_
    replace hf:=hf.kp [2,3,4,5,16,17,18,29,30,31]
    refine⟨_,?_,i+1,rfl,by omega,hf,e,?_⟩
    ·omega
    exact⟨hT,HM0,B2,B3,B4,B5,HoP,HoL,hN4s⟩
  ·obtain rfl:i=L.length:=by have:=of_decide_eq_false hc;(try dsimp only at this);omega
   rw[← hsc] at B5
   replace hf:=hf.kp [2,3,4,5,16,17,18]
   refine rgN 1 hf <| st ((add rfl rfl (by omega)).eq (congrArg (Value.int .i64) (show (j:Int)+1=((j+1:Nat):Int) from rfl))) <| en fun a w e' hf=>?_
   obtain⟨hT,HM0,HoP,e,B2,B3,B4,B5⟩:=up8 e' hT HM0 HoP e B2 B3 B4 B5
   refine tP hf (mv rfl) fun a w e' hf=>?_
   obtain⟨hT,HM0,HoP,e,B2,B3,B4,B5⟩:=up8 e' hT HM0 HoP e B2 B3 B4 B5
   refine tl_nil ?_
   replace hf:=hf.kp [2,3,4,5,16,17,18]
   refine⟨_,?_,j+1,rfl,by omega,hf,e,?_⟩
   ·omega
   exact⟨hT,HM0,B2,B3,B4,B5,HoP⟩
 ·obtain rfl:j=ps.length:=by have:=of_decide_eq_false hc;(try dsimp only at this);omega
  obtain⟨one,hone⟩:∃one,one=oneF nb ps ps.length:=⟨_,rfl⟩
  rw[← hone] at B5 hrl hrb
  replace hf:=hf.kp [2,3,4,5]
  obtain⟨Nz,hNz⟩:∃Nz,Nz=w.heap.size:=⟨_,rfl⟩
  repeat refine seq ?_
  refine rgN 3 hf <| st (fA U79 rfl T76 rfl) <| st ((ldP T76 rfl B4 (by rw[adC_size];decide)).eq (congrArg Value.agg (adC_set V (.map (some bm0))))) ?_
  refine st (call1 (A:=SeqA Nz V) En62 rfl (fun v w' he h=>by cases h;exact Calls.mono (all_spec _ w') (fun en w2 ⟨u,h1,h2,b',h3,h4,h5⟩=>⟨u,h1,h2,b',by have:=he.size;omega,h4,h5⟩))) ?_
  refine en fun a w e' hf=>?_
  obtain⟨hT,HM0,e,B2,B3,B4,B5⟩:=up7 e' hT HM0 e B2 B3 B4 B5
  refine tl_nil ?_
  obtain⟨vv,⟨b46,h46,rfl,BS⟩,hf⟩:=hf.fix 46 rfl
  replace hf:=hf.kp [2,3,4,5,46]
  have hBW:W.heap.size≤w.heap.size:=e.size
  have h0w:0<w.heap.size:=hT.lt
  have l2:=B2.lt
  have l3:=B3.lt
  have l4:=B4.lt
  have l5:=B5.lt
  have lm:=HM0.lt
  refine blk <| range_all3 (S:=V) hf rfl BS (by decide) (fun s w1=>BpJ W nm0 bm0 l V one b2 b3 b4 b5 w1∧s.any (bdB nb one)=false)
   (fun ex w1=>ex=.ret∧BpJ W nm0 bm0 l V one b2 b3 b4 b5 w1∧(elems V).any (bdB nb one)=true) (fun s w1 h=>h.1.t)
   ⟨⟨e,hT,HM0,B2,B3,B4,B5⟩,rfl⟩ (fun s w1 w2 h hs k=>⟨h.1.kp k hBW h0w l2 l3 l4 l5 lm,h.2⟩)
   (fun ex w1 w2 ⟨q1,q2,q3⟩ hs k=>⟨q1,q2.kp k hBW h0w l2 l3 l4 l5 lm,q3⟩) ?_ ?_ ?_
  ·intro lp s x rest a1 w1 hs hJ hlw hf
   have hxV:V.getLsbD x=true:=(mem_elems.1 (by rw[hs];simp)).2
   have hx1024:x<1024:=bit_lt hxV
   generalize hBz:w.heap.size=Bz at *
   refine regn0 <| tA hf rfl fun a hf=>tl_nil <| ⟨Kh.rfl' _ _,fun w3 k3 hsz3=>?_⟩
   have hJ3:=hJ.1.kp k3 hBW h0w l2 l3 l4 l5 lm
   have hJs:=hJ.2
   replace hf:=hf.pure w3
   obtain⟨e,hT,HM0,B2,B3,B4,B5⟩:=hJ3
   have kh:=Kh.rfl' Bz w3
   have hgood:bdB nb one x=false→(s++[x]).any (bdB nb one)=false:=fun h=>by rw[List.any_append,hJs];simp[h]
   have hbad:bdB nb one x=true→(elems V).any (bdB nb one)=true:=fun h=>List.any_eq_true.2 ⟨x,by rw[hs];simp,h⟩
   rw[bdB] at hgood hbad
   obtain⟨nx,hnx⟩:∃nx,nx=nb (x:Int):=⟨_,rfl⟩
   rw[← hnx] at hgood hbad
   obtain⟨H,hH⟩:∃H,H=one.getLsbD x:=⟨_,rfl⟩
   have hbit:has one (x:Int)=H:=by rw[hH,Bool.eq_iff_iff];exact has_bit one x
   obtain⟨E2,hE2⟩:∃E2,E2=((nx &&& one)==0):=⟨_,rfl⟩
   obtain⟨E3,hE3⟩:∃E3,E3=(nx==0):=⟨_,rfl⟩
   obtain⟨Sb,hSb⟩:∃Sb,Sb=((nx &&& ~~~one)==0):=⟨_,rfl⟩
   rw[← hH,← hE2,← hE3,← hSb] at hgood hbad
   have hwx:(Lit.int .i64 (x:Int)).wf=true:=wf64 (by omega) (by omega)
   have hdv:=HM0.dvE hnm0 (G:=G0) (fun h=>h)
   have hlk:lkS l (x:Int)=nx:=by rw[hnx,hnb']
   have fI:∀w (v u:Value),(E (setV nx)).p v w→(E (setV one)).p u w→Calls Tryz.prog 74 #[v,u] w (Post (E (setV (nx &&& one))) w):=fun w v u k1 k2=>by cases k1;cases k2;exact inter_spec _ _ w
   have fE2:∀w (v:Value),(E (setV (nx &&& one))).p v w→Calls Tryz.prog 65 #[v] w (Post (E (B E2)) w):=fun w v k1=>by cases k1;rw[hE2];exact isEmpty_spec _ w
   have fE3:∀w (v:Value),(E (setV nx)).p v w→Calls Tryz.prog 65 #[v] w (Post (E (B E3)) w):=fun w v k1=>by cases k1;rw[hE3];exact isEmpty_spec _ w
   have fH:∀w (v u:Value),(E (setV one)).p v w→(E (I (x:Nat))).p u w→Calls Tryz.prog 75 #[v,u] w (Post (E (B H)) w):=fun w v u k1 k2=>by cases k1;cases k2;rw[← hbit];exact has_spec _ _ w
   have fS:∀w (v u:Value),(E (setV nx)).p v w→(E (setV one)).p u w→Calls Tryz.prog 76 #[v,u] w (Post (E (B Sb)) w):=fun w v u k1 k2=>by cases k1;cases k2;rw[hSb];exact subset_spec _ _ w
   replace hf:=hf.kp [2,3,4,5,12]
   refine blk ?_
   cases H with
   | false=>
    cases E2 with
    | false=>
     repeat refine seq ?_
     refine rgG 20 Mix.mix hf <| st (fA U79 rfl T77 rfl) <| st (ld1 (v:=.map (some bm0)) T77 rfl B4 (adC_map _ _)) <| st (mv rfl) <| st ((lkM (l:=l) (i:=(x:Int)) U77 zero_set (isE rfl hdv) rfl hwx).eq (congrArg setV hlk)) <| st ((ldW T76 rfl B5 rfl).eq ((rfl:_=setV one))) <| st (call2 (A:=E (setV (nx &&& one))) (B:=E (setV nx)) (C:=E (setV one)) En74 rfl rfl (fun v u w he h h'=>fI w v u h h')) <| st (call1 (A:=E (B false)) (B:=E (setV (nx &&& one))) En65 rfl (fun v w he h=>fE2 w v h)) <| st (notp rfl) <| st ((ldW T76 rfl B5 rfl).eq ((rfl:_=setV one))) <| st (mv rfl) <| st (call2 (A:=E (B false)) (B:=E (setV one)) (C:=E (I (x:Nat))) En75 rfl rfl (fun v u w he h h'=>fH w v u h h')) <| st (eqlB U4 rfl rfl) <| st (mv rfl) <| sn rfl rfl rfl <| sn rfl rfl rfl <| sn rfl rfl rfl <| sn rfl rfl rfl <| sn rfl rfl rfl <| sn rfl rfl rfl <| st (pkF rfl rfl) <| en fun a w e' hf=>?_
     obtain⟨hT,HM0⟩:=up2 e' hT HM0
     replace kh:=kh.tr (Kh.ext e')
     obtain⟨hdv,e,B2,B3,B4,B5⟩:=up6 e' hdv e B2 B3 B4 B5
     refine tl_nil ?_
     replace hf:=hf.kp [2,3,4,5,12,67]
     refine ifc hf rfl (fun h=>by cases h) (fun _=>?_)
     refine wskip ?_
     replace hf:=hf.kp [2,3,4,5,12]
     refine seq <| rgN 28 hf <| st ((ldW T76 rfl B5 rfl).eq ((rfl:_=setV one))) <| st (mv rfl) <| st (call2 (A:=E (B false)) (B:=E (setV one)) (C:=E (I (x:Nat))) En75 rfl rfl (fun v u w he h h'=>fH w v u h h')) <| st (mv rfl) <| sn rfl rfl rfl <| sn rfl rfl rfl <| sn rfl rfl rfl <| sn rfl rfl rfl <| sn rfl rfl rfl <| sn rfl rfl rfl <| sn rfl rfl rfl <| sn rfl rfl rfl <| st (pkF rfl rfl) <| st (mv rfl) <| sy rfl rfl ((ldW T76 rfl B5 rfl).eq ((rfl:_=setV one))) <| sy rfl rfl (mv rfl) <| sy rfl rfl (call2 (A:=E (B false)) (B:=E (setV one)) (C:=E (I (x:Nat))) En75 rfl rfl (fun v u w he h h'=>fH w v u h h')) <| sy rfl rfl (notp rfl) <| sy rfl rfl (mv rfl) <| sy rfl rfl (fA U79 rfl T77 rfl) <| sy rfl rfl (ld1 (v:=.map (some bm0)) T77 rfl B4 (adC_map _ _)) <| sy rfl rfl (mv rfl) <| sy rfl rfl ((lkM (l:=l) (i:=(x:Int)) U77 zero_set (isE rfl hdv) rfl hwx).eq (congrArg setV hlk)) <| sy rfl rfl ((ldW T76 rfl B5 rfl).eq ((rfl:_=setV one))) <| sy rfl rfl (call2 (A:=E (B Sb)) (B:=E (setV nx)) (C:=E (setV one)) En76 rfl rfl (fun v u w he h h'=>fS w v u h h')) <| sy rfl rfl (notp rfl) <| sy rfl rfl (pkT rfl rfl) <| st (pkF rfl rfl) <| en fun a w e' hf=>?_
     obtain⟨hT,HM0⟩:=up2 e' hT HM0
     replace kh:=kh.tr (Kh.ext e')
     obtain⟨hdv,e,B2,B3,B4,B5⟩:=up6 e' hdv e B2 B3 B4 B5
     refine tl_nil ?_
     replace hf:=hf.kp [2,3,4,5,12,95]
     cases Sb with
     | false=>
      refine ifc hf rfl (fun _=>?_) (fun h=>by cases h)
      replace hf:=hf.kp [2,3]
      have kk:=B2.lt
      refine seq <| regn0 <| tl_st1 T35 hf rfl rfl rfl B2 Nat.zero_lt_one fun w hg hsz B2 hf=>?_
      replace e:=e.gr hg (by omega);replace hT:=hT.gr hg (by omega);replace HM0:=HM0.gr hg (fun h=>nm23.1 (Option.some.inj h));replace B3:=B3.gr hg (by omega);replace B4:=B4.gr hg (by omega);replace B5:=B5.gr hg (by omega);replace kh:=kh.tr (Kh.gr hg (fun hh=>by have:=hh.1;omega));clear hg
      refine tl_st1 T4 hf rfl rfl rfl B3 Nat.zero_lt_one fun w hg hsz B3 hf=>?_
      replace e:=e.gr hg (by omega);replace hT:=hT.gr hg (by omega);replace HM0:=HM0.gr hg (fun h=>nm23.2 (Option.some.inj h));replace B2:=B2.gr hg (by omega);replace B4:=B4.gr hg (by omega);replace B5:=B5.gr hg (by omega);replace kh:=kh.tr (Kh.gr hg (fun hh=>by have:=hh.1;omega));clear hg
      refine tl_nil <| wret ?_
      exact⟨⟨rfl,⟨e,hT,HM0,B2,B3,B4,B5⟩,hbad (by cases E3 <;> rfl)⟩,kh⟩
     | true=>
      refine ifc hf rfl (fun h=>by cases h) (fun _=>?_)
      refine wskip ?_
      exact⟨⟨⟨e,hT,HM0,B2,B3,B4,B5⟩,hgood (by cases E3 <;> rfl)⟩,kh⟩
    | true=>
     repeat refine seq ?_
     refine rgG 20 Mix.mix hf <| st (fA U79 rfl T77 rfl) <| st (ld1 (v:=.map (some bm0)) T77 rfl B4 (adC_map _ _)) <| st (mv rfl) <| st ((lkM (l:=l) (i:=(x:Int)) U77 zero_set (isE rfl hdv) rfl hwx).eq (congrArg setV hlk)) <| st ((ldW T76 rfl B5 rfl).eq ((rfl:_=setV one))) <| st (call2 (A:=E (setV (nx &&& one))) (B:=E (setV nx)) (C:=E (setV one)) En74 rfl rfl (fun v u w he h h'=>fI w v u h h')) <| st (call1 (A:=E (B true)) (B:=E (setV (nx &&& one))) En65 rfl (fun v w he h=>fE2 w v h)) <| st (notp rfl) <| st ((ldW T76 rfl B5 rfl).eq ((rfl:_=setV one))) <| st (mv rfl) <| st (call2 (A:=E (B false)) (B:=E (setV one)) (C:=E (I (x:Nat))) En75 rfl rfl (fun v u w he h h'=>fH w v u h h')) <| st (eqlB U4 rfl rfl) <| st (mv rfl) <| sy rfl rfl (fA U79 rfl T77 rfl) <| sy rfl rfl (ld1 (v:=.map (some bm0)) T77 rfl B4 (adC_map _ _)) <| sy rfl rfl (mv rfl) <| sy rfl rfl ((lkM (l:=l) (i:=(x:Int)) U77 zero_set (isE rfl hdv) rfl hwx).eq (congrArg setV hlk)) <| sy rfl rfl (call1 (A:=E (B E3)) (B:=E (setV nx)) En65 rfl (fun v w he h=>fE3 w v h)) <| sy rfl rfl (notp rfl) <| st (pkT rfl rfl) <| en fun a w e' hf=>?_
     obtain⟨hT,HM0⟩:=up2 e' hT HM0
     replace kh:=kh.tr (Kh.ext e')
     obtain⟨hdv,e,B2,B3,B4,B5⟩:=up6 e' hdv e B2 B3 B4 B5
     refine tl_nil ?_
     replace hf:=hf.kp [2,3,4,5,12,67]
     cases E3 with
     | false=>
      refine ifc hf rfl (fun _=>?_) (fun h=>by cases h)
      replace hf:=hf.kp [2,3]
      have kk:=B2.lt
      refine seq <| regn0 <| tl_st1 T35 hf rfl rfl rfl B2 Nat.zero_lt_one fun w hg hsz B2 hf=>?_
      replace e:=e.gr hg (by omega);replace hT:=hT.gr hg (by omega);replace HM0:=HM0.gr hg (fun h=>nm23.1 (Option.some.inj h));replace B3:=B3.gr hg (by omega);replace B4:=B4.gr hg (by omega);replace B5:=B5.gr hg (by omega);replace kh:=kh.tr (Kh.gr hg (fun hh=>by have:=hh.1;omega));clear hg
      refine tl_st1 T4 hf rfl rfl rfl B3 Nat.zero_lt_one fun w hg hsz B3 hf=>?_
      replace e:=e.gr hg (by omega);replace hT:=hT.gr hg (by omega);replace HM0:=HM0.gr hg (fun h=>nm23.2 (Option.some.inj h));replace B2:=B2.gr hg (by omega);replace B4:=B4.gr hg (by omega);replace B5:=B5.gr hg (by omega);replace kh:=kh.tr (Kh.gr hg (fun hh=>by have:=hh.1;omega));clear hg
      refine tl_nil <| wret <| ⟨⟨rfl,⟨e,hT,HM0,B2,B3,B4,B5⟩,hbad (by rfl)⟩,kh⟩
     | true=>
      refine ifc hf rfl (fun h=>by cases h) (fun _=>?_)
      refine wskip ?_
      replace hf:=hf.kp [2,3,4,5,12]
      refine seq <| rgN 28 hf <| st ((ldW T76 rfl B5 rfl).eq ((rfl:_=setV one))) <| st (mv rfl) <| st (call2 (A:=E (B false)) (B:=E (setV one)) (C:=E (I (x:Nat))) En75 rfl rfl (fun v u w he h h'=>fH w v u h h')) <| st (mv rfl) <| sn rfl rfl rfl <| sn rfl rfl rfl <| sn rfl rfl rfl <| sn rfl rfl rfl <| sn rfl rfl rfl <| sn rfl rfl rfl <| sn rfl rfl rfl <| sn rfl rfl rfl <| st (pkF rfl rfl) <| st (mv rfl) <| sy rfl rfl ((ldW T76 rfl B5 rfl).eq ((rfl:_=setV one))) <| sy rfl rfl (mv rfl) <| sy rfl rfl (call2 (A:=E (B false)) (B:=E (setV one)) (C:=E (I (x:Nat))) En75 rfl rfl (fun v u w he h h'=>fH w v u h h')) <| sy rfl rfl (notp rfl) <| sy rfl rfl (mv rfl) <| sy rfl rfl (fA U79 rfl T77 rfl) <| sy rfl rfl (ld1 (v:=.map (some bm0)) T77 rfl B4 (adC_map _ _)) <| sy rfl rfl (mv rfl) <| sy rfl rfl ((lkM (l:=l) (i:=(x:Int)) U77 zero_set (isE rfl hdv) rfl hwx).eq (congrArg setV hlk)) <| sy rfl rfl ((ldW T76 rfl B5 rfl).eq ((rfl:_=setV one))) <| sy rfl rfl (call2 (A:=E (B Sb)) (B:=E (setV nx)) (C:=E (setV one)) En76 rfl rfl (fun v u w he h h'=>fS w v u h h')) <| sy rfl rfl (notp rfl) <| sy rfl rfl (pkT rfl rfl) <| st (pkF rfl rfl) <| en fun a w e' hf=>?_
      obtain⟨hT,HM0⟩:=up2 e' hT HM0
      replace kh:=kh.tr (Kh.ext e')
      obtain⟨hdv,e,B2,B3,B4,B5⟩:=up6 e' hdv e B2 B3 B4 B5
      refine tl_nil ?_
      replace hf:=hf.kp [2,3,4,5,12,95]
      cases Sb with
      | false=>
       refine ifc hf rfl (fun _=>?_) (fun h=>by cases h)
       replace hf:=hf.kp [2,3]
       have kk:=B2.lt
       refine seq <| regn0 <| tl_st1 T35 hf rfl rfl rfl B2 Nat.zero_lt_one fun w hg hsz B2 hf=>?_
       replace e:=e.gr hg (by omega);replace hT:=hT.gr hg (by omega);replace HM0:=HM0.gr hg (fun h=>nm23.1 (Option.some.inj h));replace B3:=B3.gr hg (by omega);replace B4:=B4.gr hg (by omega);replace B5:=B5.gr hg (by omega);replace kh:=kh.tr (Kh.gr hg (fun hh=>by have:=hh.1;omega));clear hg
       refine tl_st1 T4 hf rfl rfl rfl B3 Nat.zero_lt_one fun w hg hsz B3 hf=>?_
       replace e:=e.gr hg (by omega);replace hT:=hT.gr hg (by omega);replace HM0:=HM0.gr hg (fun h=>nm23.2 (Option.some.inj h));replace B2:=B2.gr hg (by omega);replace B4:=B4.gr hg (by omega);replace B5:=B5.gr hg (by omega);replace kh:=kh.tr (Kh.gr hg (fun hh=>by have:=hh.1;omega));clear hg
       refine tl_nil <| wret <| ⟨⟨rfl,⟨e,hT,HM0,B2,B3,B4,B5⟩,hbad (by rfl)⟩,kh⟩
      | true=>
       refine ifc hf rfl (fun h=>by cases h) (fun _=>?_)
       refine wskip <| ⟨⟨⟨e,hT,HM0,B2,B3,B4,B5⟩,hgood rfl⟩,kh⟩
   | true=>
    cases E2 with
    | false=>
     repeat refine seq ?_
     refine rgG 20 Mix.mix hf <| st (fA U79 rfl T77 rfl) <| st (ld1 (v:=.map (some bm0)) T77 rfl B4 (adC_map _ _)) <| st (mv rfl) <| st ((lkM (l:=l) (i:=(x:Int)) U77 zero_set (isE rfl hdv) rfl hwx).eq (congrArg setV hlk)) <| st ((ldW T76 rfl B5 rfl).eq ((rfl:_=setV one))) <| st (call2 (A:=E (setV (nx &&& one))) (B:=E (setV nx)) (C:=E (setV one)) En74 rfl rfl (fun v u w he h h'=>fI w v u h h')) <| st (call1 (A:=E (B false)) (B:=E (setV (nx &&& one))) En65 rfl (fun v w he h=>fE2 w v h)) <| st (notp rfl) <| st ((ldW T76 rfl B5 rfl).eq ((rfl:_=setV one))) <| st (mv rfl) <| st (call2 (A:=E (B true)) (B:=E (setV one)) (C:=E (I (x:Nat))) En75 rfl rfl (fun v u w he h h'=>fH w v u h h')) <| st (eqlB U4 rfl rfl) <| st (mv rfl) <| sy rfl rfl (fA U79 rfl T77 rfl) <| sy rfl rfl (ld1 (v:=.map (some bm0)) T77 rfl B4 (adC_map _ _)) <| sy rfl rfl (mv rfl) <| sy rfl rfl ((lkM (l:=l) (i:=(x:Int)) U77 zero_set (isE rfl hdv) rfl hwx).eq (congrArg setV hlk)) <| sy rfl rfl (call1 (A:=E (B E3)) (B:=E (setV nx)) En65 rfl (fun v w he h=>fE3 w v h)) <| sy rfl rfl (notp rfl) <| st (pkT rfl rfl) <| en fun a w e' hf=>?_
     obtain⟨hT,HM0⟩:=up2 e' hT HM0
     replace kh:=kh.tr (Kh.ext e')
     obtain⟨hdv,e,B2,B3,B4,B5⟩:=up6 e' hdv e B2 B3 B4 B5
     refine tl_nil ?_
     replace hf:=hf.kp [2,3,4,5,12,67]
     cases E3 with
     | false=>
      refine ifc hf rfl (fun _=>?_) (fun h=>by cases h)
      replace hf:=hf.kp [2,3]
      have kk:=B2.lt
      refine seq <| regn0 <| tl_st1 T35 hf rfl rfl rfl B2 Nat.zero_lt_one fun w hg hsz B2 hf=>?_
      replace e:=e.gr hg (by omega);replace hT:=hT.gr hg (by omega);replace HM0:=HM0.gr hg (fun h=>nm23.1 (Option.some.inj h));replace B3:=B3.gr hg (by omega);replace B4:=B4.gr hg (by omega);replace B5:=B5.gr hg (by omega);replace kh:=kh.tr (Kh.gr hg (fun hh=>by have:=hh.1;omega));clear hg
      refine tl_st1 T4 hf rfl rfl rfl B3 Nat.zero_lt_one fun w hg hsz B3 hf=>?_
      replace e:=e.gr hg (by omega);replace hT:=hT.gr hg (by omega);replace HM0:=HM0.gr hg (fun h=>nm23.2 (Option.some.inj h));replace B2:=B2.gr hg (by omega);replace B4:=B4.gr hg (by omega);replace B5:=B5.gr hg (by omega);replace kh:=kh.tr (Kh.gr hg (fun hh=>by have:=hh.1;omega));clear hg
      refine tl_nil <| wret <| ⟨⟨rfl,⟨e,hT,HM0,B2,B3,B4,B5⟩,hbad (by rfl)⟩,kh⟩
     | true=>
      refine ifc hf rfl (fun h=>by cases h) (fun _=>?_)
      refine wskip ?_
      replace hf:=hf.kp [2,3,4,5,12]
      refine seq <| rgN 28 hf <| st ((ldW T76 rfl B5 rfl).eq ((rfl:_=setV one))) <| st (mv rfl) <| st (call2 (A:=E (B true)) (B:=E (setV one)) (C:=E (I (x:Nat))) En75 rfl rfl (fun v u w he h h'=>fH w v u h h')) <| st (mv rfl) <| sy rfl rfl (fA U79 rfl T77 rfl) <| sy rfl rfl (ld1 (v:=.map (some bm0)) T77 rfl B4 (adC_map _ _)) <| sy rfl rfl (mv rfl) <| sy rfl rfl ((lkM (l:=l) (i:=(x:Int)) U77 zero_set (isE rfl hdv) rfl hwx).eq (congrArg setV hlk)) <| sy rfl rfl ((ldW T76 rfl B5 rfl).eq ((rfl:_=setV one))) <| sy rfl rfl (call2 (A:=E (setV (nx &&& one))) (B:=E (setV nx)) (C:=E (setV one)) En74 rfl rfl (fun v u w he h h'=>fI w v u h h')) <| sy rfl rfl (call1 (A:=E (B false)) (B:=E (setV (nx &&& one))) En65 rfl (fun v w he h=>fE2 w v h)) <| sy rfl rfl (notp rfl) <| st (pkT rfl rfl) <| st (mv rfl) <| sn rfl rfl rfl <| sn rfl rfl rfl <| sn rfl rfl rfl <| sn rfl rfl rfl <| sn rfl rfl rfl <| su rfl rfl <| su rfl rfl <| su rfl rfl <| su rfl rfl <| su rfl rfl <| su rfl rfl <| su rfl rfl <| sn rfl rfl rfl <| st (pkT rfl rfl) <| en fun a w e' hf=>?_
      obtain⟨hT,HM0⟩:=up2 e' hT HM0
      replace kh:=kh.tr (Kh.ext e')
      obtain⟨hdv,e,B2,B3,B4,B5⟩:=up6 e' hdv e B2 B3 B4 B5
      refine tl_nil ?_
      replace hf:=hf.kp [2,3,4,5,12,95]
      refine ifc hf rfl (fun _=>?_) (fun h=>by cases h)
      replace hf:=hf.kp [2,3]
      have kk:=B2.lt
      refine seq <| regn0 <| tl_st1 T35 hf rfl rfl rfl B2 Nat.zero_lt_one fun w hg hsz B2 hf=>?_
      replace e:=e.gr hg (by omega);replace hT:=hT.gr hg (by omega);replace HM0:=HM0.gr hg (fun h=>nm23.1 (Option.some.inj h));replace B3:=B3.gr hg (by omega);replace B4:=B4.gr hg (by omega);replace B5:=B5.gr hg (by omega);replace kh:=kh.tr (Kh.gr hg (fun hh=>by have:=hh.1;omega));clear hg
      refine tl_st1 T4 hf rfl rfl rfl B3 Nat.zero_lt_one fun w hg hsz B3 hf=>?_
      replace e:=e.gr hg (by omega);replace hT:=hT.gr hg (by omega);replace HM0:=HM0.gr hg (fun h=>nm23.2 (Option.some.inj h));replace B2:=B2.gr hg (by omega);replace B4:=B4.gr hg (by omega);replace B5:=B5.gr hg (by omega);replace kh:=kh.tr (Kh.gr hg (fun hh=>by have:=hh.1;omega));clear hg
      refine tl_nil <| wret <| ⟨⟨rfl,⟨e,hT,HM0,B2,B3,B4,B5⟩,hbad (by rfl)⟩,kh⟩
    | true=>
     repeat refine seq ?_
     refine rgG 20 Mix.mix hf <| st (fA U79 rfl T77 rfl) <| st (ld1 (v:=.map (some bm0)) T77 rfl B4 (adC_map _ _)) <| st (mv rfl) <| st ((lkM (l:=l) (i:=(x:Int)) U77 zero_set (isE rfl hdv) rfl hwx).eq (congrArg setV hlk)) <| st ((ldW T76 rfl B5 rfl).eq ((rfl:_=setV one))) <| st (call2 (A:=E (setV (nx &&& one))) (B:=E (setV nx)) (C:=E (setV one)) En74 rfl rfl (fun v u w he h h'=>fI w v u h h')) <| st (call1 (A:=E (B true)) (B:=E (setV (nx &&& one))) En65 rfl (fun v w he h=>fE2 w v h)) <| st (notp rfl) <| st ((ldW T76 rfl B5 rfl).eq ((rfl:_=setV one))) <| st (mv rfl) <| st (call2 (A:=E (B true)) (B:=E (setV one)) (C:=E (I (x:Nat))) En75 rfl rfl (fun v u w he h h'=>fH w v u h h')) <| st (eqlB U4 rfl rfl) <| st (mv rfl) <| sn rfl rfl rfl <| sn rfl rfl rfl <| sn rfl rfl rfl <| sn rfl rfl rfl <| sn rfl rfl rfl <| sn rfl rfl rfl <| st (pkF rfl rfl) <| en fun a w e' hf=>?_
     obtain⟨hT,HM0⟩:=up2 e' hT HM0
     replace kh:=kh.tr (Kh.ext e')
     obtain⟨hdv,e,B2,B3,B4,B5⟩:=up6 e' hdv e B2 B3 B4 B5
     refine tl_nil ?_
     replace hf:=hf.kp [2,3,4,5,12,67]
     refine ifc hf rfl (fun h=>by cases h) (fun _=>?_)
     refine wskip ?_
     replace hf:=hf.kp [2,3,4,5,12]
     refine seq <| rgN 28 hf <| st ((ldW T76 rfl B5 rfl).eq ((rfl:_=setV one))) <| st (mv rfl) <| st (call2 (A:=E (B true)) (B:=E (setV one)) (C:=E (I (x:Nat))) En75 rfl rfl (fun v u w he h h'=>fH w v u h h')) <| st (mv rfl) <| sy rfl rfl (fA U79 rfl T77 rfl) <| sy rfl rfl (ld1 (v:=.map (some bm0)) T77 rfl B4 (adC_map _ _)) <| sy rfl rfl (mv rfl) <| sy rfl rfl ((lkM (l:=l) (i:=(x:Int)) U77 zero_set (isE rfl hdv) rfl hwx).eq (congrArg setV hlk)) <| sy rfl rfl ((ldW T76 rfl B5 rfl).eq ((rfl:_=setV one))) <| sy rfl rfl (call2 (A:=E (setV (nx &&& one))) (B:=E (setV nx)) (C:=E (setV one)) En74 rfl rfl (fun v u w he h h'=>fI w v u h h')) <| sy rfl rfl (call1 (A:=E (B true)) (B:=E (setV (nx &&& one))) En65 rfl (fun v w he h=>fE2 w v h)) <| sy rfl rfl (notp rfl) <| st (pkT rfl rfl) <| st (mv rfl) <| sy rfl rfl ((ldW T76 rfl B5 rfl).eq ((rfl:_=setV one))) <| sy rfl rfl (mv rfl) <| sy rfl rfl (call2 (A:=E (B true)) (B:=E (setV one)) (C:=E (I (x:Nat))) En75 rfl rfl (fun v u w he h h'=>fH w v u h h')) <| sy rfl rfl (notp rfl) <| sy rfl rfl (mv rfl) <| sn rfl rfl rfl <| sn rfl rfl rfl <| sn rfl rfl rfl <| sn rfl rfl rfl <| sn rfl rfl rfl <| sn rfl rfl rfl <| sn rfl rfl rfl <| sy rfl rfl (pkF rfl rfl) <| st (pkF rfl rfl) <| en fun a w e' hf=>?_
     obtain⟨hT,HM0⟩:=up2 e' hT HM0
     replace kh:=kh.tr (Kh.ext e')
     obtain⟨hdv,e,B2,B3,B4,B5⟩:=up6 e' hdv e B2 B3 B4 B5
     refine tl_nil ?_
     replace hf:=hf.kp [2,3,4,5,12,95]
     refine ifc hf rfl (fun h=>by cases h) (fun _=>?_)
     refine wskip ?_
     exact⟨⟨⟨e,hT,HM0,B2,B3,B4,B5⟩,hgood (by cases E3 <;> rfl)⟩,kh⟩
  ·intro a' w' hf' hJ hsz hDn
   simp only[Exit.inBlock,↓reduceIte,Exit.then]
   rw[hJ.2] at hrb
   replace hrb:rb=true:=hrb
   rw[hrb,if_pos rfl] at hrl
   have hD:Ds [w.heap.size] w':=(Ds.nil w').cons hDn (by simp)
   have hf:FrD 98 (marks [w.heap.size]) a' w' [(2,E (ptr b2)),(3,E (ptr b3)),(5,E (ptr b5))]:=hf'.keep [2,3,5]
   have hDW:∀d∈[w.heap.size],W.heap.size≤d:=fun d hd=>by rw[List.mem_singleton] at hd;omega
   obtain⟨e,hT,HM0,B2,B3,B4,B5⟩:=hJ.1
   have hb2:=hD.ne B2
   have hb3:=hD.ne B3
   generalize [w.heap.size]=D2 at *
   generalize w'=w at *
   obtain⟨N9,hN9⟩:∃N9,N9=w.heap.size:=⟨_,rfl⟩
   have hN9s:N9≤w.heap.size:=Nat.le_of_eq hN9
   have hl9:b2<N9∧b3<N9:=by rw[hN9];exact⟨B2.lt,B3.lt⟩
   have hd9:∀d∈D2,d<N9:=fun d hd=>by rw[hN9];exact hD.lt hd
   refine seq <| rgN 2 hf <| st ((ldW T76 rfl B5 rfl).eq ((rfl:_=setV one))) <| st (call1 (A:=OwA intE 3 N9 G0 (elL one)) (B:=E (setV one)) En56 rfl (fun u w he k=>by cases k;exact (elementsO_spec one w (hT.ext he)).mono fun en w' ⟨u,k1,k2,k3⟩=>⟨u,k1,k2,OwR.low k3 (Nat.le_trans hN9s he.size) fun b hb=>hb.elim⟩)) ?_
   refine en fun a w e' hf=>?_
   obtain⟨hT,e,B2,B3,B5,hD⟩:=up6 e' hT e B2 B3 B5 hD
   obtain⟨ev,HoE,hf⟩:=hf.opn 97 rfl
   replace HoE:OwR intE 3 N9 G0 w (elL one) ev:=HoE
   have hro:ev.oneCell'=true:=HoE.one
   replace hf:=hf.kp [2,3,97]
   refine tl_st1 T35 hf rfl rfl hro B2 Nat.zero_lt_one fun w hg hsz B2 hf=>?_
   obtain⟨e,B3⟩:=gr2 hg e B3
   replace hD:=hD.gr hg hb2;replace HoE:=HoE.grE hg (HoE.neLt hl9.1)
   refine tl_st1 T4 hf rfl rfl rfl B3 Nat.zero_lt_one fun w hg hsz B3 hf=>?_
   obtain⟨e,B2⟩:=gr2 hg e B2
   replace hD:=hD.gr hg hb3;replace HoE:=HoE.grE hg (HoE.neLt hl9.2)
   refine tl_nil ?_
   replace B2:Blk w b2 #[ev] 35:=B2
   replace B3:Blk w b3 #[B true] 4:=B3
   refine wret <| retc2M rfl T35 T4 hf rfl rfl B2 B3 hD ⟨_,rfl,e.shut hDW,Tup.two ?_ (by rw[hrb];rfl)⟩
   rw[hrl]
   exact ((HoE.chE (chg_shut D2 w) fun b hb hm=>by have h1:=(HoE.lt hb).1;have h2:=hd9 b hm;omega)).sl
  ·intro ex c a' w' hcd hf' hX hsz hDn
   obtain⟨rfl,hJ,hany⟩:=hX
   simp only[Exit.inBlock,↓reduceIte,Exit.then]
   rw[hany] at hrb
   replace hrb:rb=false:=hrb
   rw[hrb,if_neg (by decide)] at hrl
   subst hrl hrb
   have hD:Ds [w.heap.size] w':=(Ds.nil w').cons hDn (by simp)
   have hf:FrD 98 (marks [w.heap.size]) a' w' [(2,E (ptr b2)),(3,E (ptr b3))]:=hf'.keep [2,3]
   have hDW:∀d∈[w.heap.size],W.heap.size≤d:=fun d hd=>by rw[List.mem_singleton] at hd;omega
   exact retc2M rfl T35 T4 hf rfl rfl hJ.p2 hJ.p3 hD ⟨_,rfl,hJ.e.shut hDW,Tup.two Dv.nil rfl⟩
def lkI (l:List (Int×Int))(i:Int):Int:=((l.find? fun p=>decide (p.1=i)).map (·.2)).getD 0
theorem lkI_put (l:List (Int×Int))(x:Int)(c:Int)(i:Int):lkI (putP l x c) i=if i=x then c else lkI l i:=by
 rw[lkI,putP,List.find?_cons]
 by_cases h:x=i
 ·subst h;simp
 ·have h1:decide ((x,c).1=i)=false:=by simp[h]
  rw[h1,if_neg (Ne.symm h),lkI]
  congr 2
  induction l with
  | nil=>rfl
  | cons p l ih=>
   rw[List.filter_cons]
   by_cases hp:p.1=x
   ·have h2:decide (p.1=i)=false:=by rw[hp];simp[h]
    rw[if_neg (by simp[hp]),List.find?_cons,h2];exact ih
   ·rw[if_pos (by simp[hp]),List.find?_cons,List.find?_cons]
    cases decide (p.1=i) <;> simp[ih]
theorem lkI_mem {l:List (Int×Int)}{i:Int}(h:lkI l i≠0):(i,lkI l i)∈l:=by
 rw[lkI] at h ⊢
 cases hf:l.find? (fun p=>decide (p.1=i)) with
 | none=>rw[hf] at h;exact absurd rfl h
 | some p=>
  have h1:p.1=i:=by simpa using List.find?_some hf
  have h2:=List.mem_of_find?_eq_some hf
  show (i,p.2)∈l
  rw[← h1];exact h2
theorem lkI_range {l:List (Int×Int)}{lo hi:Int}(h:∀p∈l,lo≤p.2∧p.2≤hi)(h0:lo≤0)(h1:0≤hi)(i:Int):lo≤lkI l i∧lkI l i≤hi:=by
 by_cases hz:lkI l i=0
 ·rw[hz];exact⟨h0,h1⟩
 ·exact h _ (lkI_mem hz)
theorem lkI_pos {l:List (Int×Int)}(h:∀p∈l,0<p.2){i c:Int}(hm:(i,c)∈l):0<lkI l i:=by
 rw[lkI]
 cases hf:l.find? (fun p=>decide (p.1=i)) with
 | none=>have:=List.find?_eq_none.1 hf _ hm;simp at this
 | some p=>exact h p (List.mem_of_find?_eq_some hf)
theorem putP_mem {α β:Type}[DecidableEq α]{l:List (α×β)}{x:α}{c:β}{p:α×β}(h:p∈putP l x c):p=(x,c)∨p∈l:=by
 rcases List.mem_cons.1 h with h|h
 ·exact .inl h
 ·exact .inr (List.mem_filter.1 h).1
theorem putP_pw {α β:Type}[DecidableEq α]{l:List (α×β)}(x:α)(c:β)(h:l.Pairwise fun p q=>p.1≠q.1):(putP l x c).Pairwise fun p q=>p.1≠q.1:=by
 refine List.pairwise_cons.2 ⟨fun q hq=>?_,h.filter _⟩
 have:=(List.mem_filter.1 hq).2
 simp only[Bool.not_eq_true',decide_eq_false_iff_not] at this
 exact fun e=>this e.symm
theorem putP_len {α β:Type}[DecidableEq α]{l:List (α×β)}{x:α}(c:β)(h:∀d,(x,d) ∉ l):(putP l x c).length=l.length+1:=by
 rw[(putP_new' (c:=c) h).length_eq,List.length_append];rfl
structure BcS where
 la:List (Int×Int)
 ll:List (Int×Int)
 way:List Nat
 out:List (List Int)
def bcP (id:Nat)(s:BcS):BcS:={ s with la:=putP s.la (id:Int) ((s.la.length:Nat)+1:Int),ll:=putP s.ll (id:Int) (lkI (putP s.la (id:Int) ((s.la.length:Nat)+1:Int)) (id:Int)),way:=s.way++[id] }
def bcL (id next:Nat)(s:BcS):BcS:={ s with ll:=putP s.ll (id:Int) (min (lkI s.ll (id:Int)) (lkI s.la (next:Int))) }
def bcM (id next:Nat)(s:BcS):BcS:={ s with ll:=putP s.ll (id:Int) (min (lkI s.ll (id:Int)) (lkI s.ll (next:Int))) }
def bcC (id behind:Nat)(s:BcS):BcS:={ s with out:=s.out++[elL ((natE (s.way.drop behind++[id])).foldl ins 0)],way:=s.way.take behind }
def bcT (R:Nat→Int→BcS→BcS)(id:Nat)(frm:Int)(s:BcS)(next:Nat):BcS:=
 if (next:Int)=frm then s
 else if 0<lkI s.la (next:Int) then bcL id next s
 else if lkI (bcM id next (R next (id:Int) s)).la (id:Int)≤lkI (bcM id next (R next (id:Int) s)).ll (next:Int) then bcC id s.way.length (bcM id next (R next (id:Int) s)) else bcM id next (R next (id:Int) s)
def bcF (nb:Int→BS):Nat→Nat→Int→BcS→BcS
 | 0,_,_,s=>s
 | f+1,id,frm,s=>(elems (nb (id:Int))).foldl (bcT (bcF nb f) id frm) (bcP id s)
structure BcI (V:BS)(c:Nat)(s:BcS):Prop where
 ka:∀p∈s.la,∃n:Nat,p.1=(n:Int)∧V.getLsbD n=true
 va:∀p∈s.la,1≤p.2∧p.2≤1025
 na:s.la.Pairwise fun p q=>p.1≠q.1
 kl:∀p∈s.ll,∃n:Nat,p.1=(n:Int)∧V.getLsbD n=true
 vl:∀p∈s.ll,0≤p.2∧p.2≤1025
 nl:s.ll.Pairwise fun p q=>p.1≠q.1
 w:s.way.length≤s.la.length
 wm:∀x∈s.way,x<1024
 o:s.out.length≤s.la.length+c
theorem keys_le {V:BS}{l:List (Int×Int)}(hk:∀p∈l,∃n:Nat,p.1=(n:Int)∧V.getLsbD n=true)(hn:l.Pairwise fun p q=>p.1≠q.1):l.length≤card V:=by
 have:=nd_lenI (l.map (·.1)) (natE (elems V)) (List.pairwise_map.2 hn) fun x hx=>by
  obtain⟨p,hp,rfl⟩:=List.mem_map.1 hx
  obtain⟨n,h1,h2⟩:=hk p hp
  rw[h1]
  exact List.mem_map.2 ⟨n,mem_elems.2 ⟨bit_lt h2,h2⟩,rfl⟩
 rw[List.length_map,natE_len,card_elems] at this
 exact this
section
variable {V:BS}{c:Nat}{s:BcS}
theorem BcI.al (h:BcI V c s):s.la.length≤1024:=Nat.le_trans (keys_le h.ka h.na) (card_le_1024 V)
theorem BcI.ll' (h:BcI V c s):s.ll.length≤1024:=Nat.le_trans (keys_le h.kl h.nl) (card_le_1024 V)
theorem BcI.ar (h:BcI V c s)(i:Int):0≤lkI s.la i∧lkI s.la i≤1025:=lkI_range (fun p hp=>⟨by have:=h.va p hp;omega,(h.va p hp).2⟩) (by omega) (by omega) i
theorem BcI.lr (h:BcI V c s)(i:Int):0≤lkI s.ll i∧lkI s.ll i≤1025:=lkI_range h.vl (by omega) (by omega) i
theorem BcI.new (h:BcI V c s){id:Int}(hi:lkI s.la id≤0):∀d,(id,d) ∉ s.la:=fun d hd=>by
 have:=lkI_pos (fun p hp=>by have:=h.va p hp;omega) hd
 omega
theorem BcI.setL (h:BcI V c s){id:Nat}(hid:V.getLsbD id=true){v:Int}(hv:0≤v∧v≤1025):BcI V c { s with ll:=putP s.ll (id:Int) v }:=
 ⟨h.ka,h.va,h.na,fun p hp=>by
  rcases putP_mem hp with rfl|hp
  ·exact⟨id,rfl,hid⟩
  ·exact h.kl p hp,fun p hp=>by
  rcases putP_mem hp with rfl|hp
  ·exact hv
  ·exact h.vl p hp,putP_pw _ _ h.nl,h.w,h.wm,h.o⟩
theorem BcI.push (h:BcI V c s){id:Nat}(hid:V.getLsbD id=true)(hi:lkI s.la (id:Int)≤0):BcI V c (bcP id s)∧(bcP id s).la.length=s.la.length+1:=by
 have hlen:=putP_len ((s.la.length:Nat)+1:Int) (h.new hi)
 have hal:=h.al
 have h1:BcI V c { s with la:=putP s.la (id:Int) ((s.la.length:Nat)+1:Int),way:=s.way++[id] }:=
  ⟨fun p hp=>by
   rcases putP_mem hp with rfl|hp
   ·exact⟨id,rfl,hid⟩
   ·exact h.ka p hp,fun p hp=>by
   rcases putP_mem hp with rfl|hp
   ·dsimp only;omega
   ·exact h.va p hp,putP_pw _ _ h.na,h.kl,h.vl,h.nl,by
    show (s.way++[id]).length≤(putP s.la (id:Int) ((s.la.length:Nat)+1:Int)).length
    rw[hlen,List.length_append,List.length_singleton];have:=h.w;omega,fun x hx=>by
   rcases List.mem_append.1 hx with hx|hx
   ·exact h.wm x hx
   ·rw[List.mem_singleton.1 hx];exact bit_lt hid,by
    show s.out.length≤(putP s.la (id:Int) ((s.la.length:Nat)+1:Int)).length+c
    rw[hlen];have:=h.o;omega⟩
 exact⟨h1.setL hid (h1.ar (id:Int)),hlen⟩
def unv (V:BS)(la:List (Int×Int)):Nat:=((elems V).filter fun v:Nat=>decide (lkI la (v:Int)≤0)).length
theorem unv_mono {V:BS}{la la':List (Int×Int)}(h:∀i,0<lkI la i→0<lkI la' i):unv V la'≤unv V la:=by
 rw[unv,unv,← List.countP_eq_length_filter,← List.countP_eq_length_filter]
 refine List.countP_mono_left fun v _ hv=>?_
 have h1:=of_decide_eq_true hv
 refine decide_eq_true <| Classical.byContradiction fun hn=>?_
 have:=h (v:Int) (by omega)
 omega
theorem unv_lt {V:BS}{la la':List (Int×Int)}{id:Nat}(hid:V.getLsbD id=true)(h0:lkI la (id:Int)≤0)(h1:0<lkI la' (id:Int))(h:∀i,0<lkI la i→0<lkI la' i):unv V la'<unv V la:=by
 rw[unv,unv]
 have hm:id∈elems V:=mem_elems.2 ⟨bit_lt hid,hid⟩
 generalize elems V=l at hm
 have hle:∀l:List Nat,(l.filter fun v:Nat=>decide (lkI la' (v:Int)≤0)).length≤(l.filter fun v:Nat=>decide (lkI la (v:Int)≤0)).length:=fun l=>by
  rw[← List.countP_eq_length_filter,← List.countP_eq_length_filter]
  refine List.countP_mono_left fun v _ hv=>decide_eq_true ?_
  have h2:=of_decide_eq_true hv
  refine Classical.byContradiction fun hn=>?_
  have:=h (v:Int) (by omega)
  omega
 induction l with
 | nil=>cases hm
 | cons x l ih=>
  rw[List.filter_cons,List.filter_cons]
  rcases List.mem_cons.1 hm with rfl|hm
  ·rw[if_neg (by simp;omega),if_pos (by simp;omega),List.length_cons]
   have:=hle l
   omega
  ·have:=ih hm
   by_cases hx:lkI la' (x:Int)≤0
   ·have hx2:lkI la (x:Int)≤0:=Classical.byContradiction fun hn=>by
     have:=h (x:Int) (by omega);omega
    rw[if_pos (decide_eq_true hx),if_pos (decide_eq_true hx2),List.length_cons,List.length_cons]
    omega
   ·rw[if_neg (by simpa using hx)]
    split
    ·rw[List.length_cons];omega
    ·exact this
structure BcQ (V:BS)(c:Nat)(s1 s:BcS):Prop where
 i:BcI V c s
 m:∀i,0<lkI s1.la i→0<lkI s.la i
 w:∃t,s.way=s1.way++t
 d:s.out.length+s1.la.length≤s1.out.length+s.la.length
theorem BcQ.rfl' (h:BcI V c s):BcQ V c s s:=⟨h,fun _ h=>h,⟨[],(List.append_nil _).symm⟩,Nat.le_refl _⟩
structure BcR (V:BS)(c:Nat)(id:Nat)(s s':BcS):Prop where
 i:BcI V c s'
 m:∀i,0<lkI s.la i→0<lkI s'.la i
 w:∃t,s'.way=s.way++id::t
 d:s'.out.length+s.la.length+1≤s.out.length+s'.la.length
theorem bcM_la (id next:Nat)(s:BcS):(bcM id next s).la=s.la:=rfl
theorem bcM_way (id next:Nat)(s:BcS):(bcM id next s).way=s.way:=rfl
theorem bcM_out (id next:Nat)(s:BcS):(bcM id next s).out=s.out:=rfl
theorem BcI.setM (h:BcI V c s){id:Nat}(hid:V.getLsbD id=true)(next:Nat):BcI V c (bcM id next s):=
 h.setL hid (by have h1:=h.lr (id:Int);have h2:=h.lr (next:Int);omega)
theorem BcI.setL2 (h:BcI V c s){id:Nat}(hid:V.getLsbD id=true)(next:Nat):BcI V c (bcL id next s):=
 h.setL hid (by have h1:=h.lr (id:Int);have h2:=h.ar (next:Int);omega)
theorem bc_step {s1:BcS}{R:Nat→Int→BcS→BcS}{id next:Nat}{frm:Int}(hid:V.getLsbD id=true)(h:BcQ V c s1 s)(hR:lkI s.la (next:Int)≤0→BcR V c next s (R next (id:Int) s)):BcQ V c s1 (bcT R id frm s next):=by
 rw[bcT]
 split
 ·exact h
 split
 ·exact⟨h.i.setL2 hid next,h.m,h.w,h.d⟩
 ·rename_i _ hn
  have r:=hR (by omega)
  obtain⟨t1,ht1⟩:=h.w
  obtain⟨t2,ht2⟩:=r.w
  have hd1:=h.d
  have hd2:=r.d
  have ri:=r.i.setM hid next
  have rm:=r.m
  generalize R next (id:Int) s=s2 at *
  split
  ·refine⟨⟨ri.ka,ri.va,ri.na,ri.kl,ri.vl,ri.nl,?_,fun x hx=>ri.wm x (List.mem_of_mem_take hx),?_⟩,fun i hi=>rm i (h.m i hi),⟨t1,?_⟩,?_⟩
   ·refine Nat.le_trans (List.length_take_le' _ _) ri.w
   ·show (s2.out++[_]).length≤s2.la.length+c
    rw[List.length_append,List.length_singleton]
    have:=h.i.o
    omega
   ·show s2.way.take s.way.length=s1.way++t1
    rw[ht2,List.take_append_of_le_length (Nat.le_refl _),List.take_length,ht1]
   ·show (s2.out++[_]).length+s1.la.length≤s1.out.length+s2.la.length
    rw[List.length_append,List.length_singleton]
    omega
  ·exact⟨ri,fun i hi=>rm i (h.m i hi),⟨t1++next::t2,by rw[bcM_way,ht2,ht1,List.append_assoc]⟩,by rw[bcM_out,bcM_la];omega⟩
theorem bc_start {id:Nat}(h:BcI V c s)(hid:V.getLsbD id=true)(hi:lkI s.la (id:Int)≤0):(∀i,0<lkI s.la i→0<lkI (bcP id s).la i)∧0<lkI (bcP id s).la (id:Int)∧unv V (bcP id s).la<unv V s.la:=by
 have h1:∀i,lkI (bcP id s).la i=if i=(id:Int) then ((s.la.length:Nat)+1:Int) else lkI s.la i:=fun i=>lkI_put _ _ _ _
 have h2:0<lkI (bcP id s).la (id:Int):=by rw[h1,if_pos rfl];omega
 have h3:∀i,0<lkI s.la i→0<lkI (bcP id s).la i:=fun i hh=>by rw[h1];split <;> omega
 exact⟨h3,h2,unv_lt hid hi h2 h3⟩
theorem bc_ok {nb:Int→BS}(hV:∀i j:Nat,(nb (i:Int)).getLsbD j=true→V.getLsbD j=true):∀(f:Nat) (id:Nat) (frm:Int) (s:BcS),BcI V c s→V.getLsbD id=true→lkI s.la (id:Int)≤0→unv V s.la≤f→BcR V c id s (bcF nb f id frm s):=by
 intro f
 induction f with
 | zero=>
  intro id frm s h hid hi hu
  exfalso
  have hm:id∈(elems V).filter fun v:Nat=>decide (lkI s.la (v:Int)≤0):=List.mem_filter.2 ⟨mem_elems.2 ⟨bit_lt hid,hid⟩,decide_eq_true hi⟩
  have:=List.length_pos_of_mem hm
  rw[unv] at hu
  omega
 | succ f ih=>
  intro id frm s h hid hi hu
  obtain⟨p1,p2⟩:=h.push hid hi
  obtain⟨q1,q2,q3⟩:=bc_start h hid hi
  have key:∀(l:List Nat),(∀x∈l,V.getLsbD x=true)→∀s',BcQ V c (bcP id s) s'→BcQ V c (bcP id s) (l.foldl (bcT (bcF nb f) id frm) s'):=by
   intro l
   induction l with
   | nil=>intro _ s' h';exact h'
   | cons x l ihl=>
    intro hl s' h'
    exact ihl (fun y hy=>hl y (List.mem_cons_of_mem _ hy)) _ (bc_step hid h' fun hx=>ih x (id:Int) s' h'.i (hl x (List.mem_cons_self ..)) hx (by have:=unv_mono (V:=V) h'.m;omega))
  have hq:=key (elems (nb (id:Int))) (fun x hx=>hV id x (mem_elems.1 hx).2) _ (BcQ.rfl' p1)
  obtain⟨t,ht⟩:=hq.w
  have hqd:=hq.d
  rw[p2] at hqd
  have ho:(bcP id s).out=s.out:=rfl
  rw[ho] at hqd
  exact⟨hq.i,fun i hi=>hq.m i (q1 i hi),⟨t,by rw[bcF,ht];show s.way++[id]++t=_;rw[List.append_assoc];rfl⟩,by rw[bcF];omega⟩
end
noncomputable def iKV:KV Tryz.prog Int Int where
 k:=3
 e:=3
 kv:=fun x=>.int .i64 x
 kl:=fun x=>.int .i64 x
 ok:=fun x=>(Lit.int .i64 x).wf=true
 mv:=fun c=>.int .i64 c
 dv:=fun c=>.lit (.int .i64 c)
 okv:=fun c=>(Lit.int .i64 c).wf=true
 R:=plainElem Tryz.prog 3
 K:=Maps.int_keyed U3
 key:=fun x hx=>Maps.keyOf_int_mk U3 hx
 keyInv:=fun v l h=>by obtain⟨x,h1,h2,h3⟩:=Maps.keyOf_int_inv U3 h;exact⟨x,h3,h1,h2⟩
 kvInj:=fun x y h=>by cases h;rfl
 val:=fun c hc=>plainElem_int U3 hc
 valInv:=fun v y h=>by
  obtain⟨c,h1,h2,h3⟩:=plainElem_int_inv U3 h
  exact⟨c,h3,h1,h2⟩
 dvInj:=fun c c' h=>by cases h;rfl
theorem lkI_no {l:List (Int×Int)}{i:Int}(h:∀c,(i,c) ∉ l):lkI l i=0:=by
 have:l.find? (fun p=>decide (p.1=i))=none:=by
  rw[List.find?_eq_none]
  intro p hp hh
  have h3:p.1=i:=by simpa using hh
  exact h p.2 (by rw[← h3];exact hp)
 rw[lkI,this];rfl
section
variable {w0:World}{L:Env}{dst:Option Tmp}{ty:TypeId}{pos:String}{aft:Array Edge}{g:Option (Nat×Bool)}{x y:Operand}{t:TypeId}{l:List (Int×Int)}{b n:Nat}
theorem lkIM {i:Int}(ht:Tryz.prog.underlying t=some (.map iKV.k iKV.e))(hx:opd L x=some (E (.map (some b))))(hM:MpR iKV w0 b n l)(hy:opd L y=some (E (I i)))(hi:(Lit.int .i64 i).wf=true) :
  OpC Tryz.prog w0 L ⟨dst,.lookup t x y false,ty,pos,aft,g⟩ (E (I (lkI l i))):=
 opc_pure fun ρ w he' hv=>by
  have h5:=opE hv (x:=x) (by simp[Op.operands]) hx
  have h6:=opE hv (x:=y) (by simp[Op.operands]) hy
  have h2:=hM.ext he'
  obtain⟨D,m1,m2,m3,m4,_⟩:=h2.has (x:=i) hi
  have hz0:(Lit.int .i64 0).wf=true:=by decide
  obtain⟨v,ps,r1,r2⟩:=m1.lookup iKV.K ht (zero_of I3 w) (iKV.val 0 hz0) (iKV.key i hi)
  obtain⟨c,_,rfl,hy2⟩:=iKV.valInv _ _ r2
  have hcc:c=lkI l i:=by
   have h8:=congrArg Prod.fst hy2
   simp only at h8
   by_cases hex:∃c',(i,c')∈l
   ·obtain⟨c',hc'⟩:=hex
    rw[m3 c' hc'] at h8
    have h9:lkI l i=c':=by
     obtain⟨_,_,_,_,hp⟩:=h2
     cases hf:l.find? (fun p=>decide (p.1=i)) with
     | none=>have:=List.find?_eq_none.1 hf _ hc';simp at this
     | some p=>
      have k1:=List.find?_some hf
      have k2:=List.mem_of_find?_eq_some hf
      have k3:p.1=i:=by simpa using k1
      have k4:p=(i,p.2):=by rw[← k3]
      rw[k4] at k2
      rw[lkI,hf]
      exact nodup_val hp k2 hc'
    rw[h9]
    exact (iKV.dvInj _ _ h8).symm
   ·have hno:∀c',(i,c') ∉ l:=fun c' h=>hex ⟨c',h⟩
    rw[m4 hno] at h8
    rw[lkI_no hno]
    exact (iKV.dvInj _ _ h8).symm
  rw[hcc] at r1
  have r1:(Instr.lookup t (.map (some b)) (I i) false).run Tryz.prog w=.ok (I (lkI l i)) w:=r1
  exact⟨_,by simp only[execOp,h5,h6,Sem.run_bind,r1,Result.andThen_ok,Sem.run_pure],rfl⟩
theorem lenMM (ht:Tryz.prog.underlying t=some (.map iKV.k iKV.e))(hx:opd L x=some (E (.map (some b))))(hM:MpR iKV w0 b n l):OpC Tryz.prog w0 L ⟨dst,.call ⟨.builtin .len,#[x],#[t]⟩,ty,pos,aft,g⟩ (E (I (l.length:Nat))):=
 lenM (V:=iKV) (N:=n) (G:=G0) ht (isE hx (MpR.dvE hM (Nat.le_refl n) fun h=>h))
end
theorem OwR.cut {te:TypeId}{N:Nat}{w:World}{xs:List Int}{v:Value}(h:OwR intE te N G0 w xs v){k:Nat}(hk:k≤xs.length)(h0:0<k):∃b c,v=.slice (some ⟨b,0,none⟩) xs.length c∧xs.length≤c∧OwR intE te N G0 w (xs.take k) (.slice (some ⟨b,0,none⟩) k c):=by
 rcases h.rw intFF with ⟨_,rfl⟩|⟨b,cap,cur,rfl,hc,HR,ht⟩
 ·rw[List.length_nil] at hk;omega
 ·refine⟨b,cap,rfl,hc,?_⟩
  have hl:(xs.take k).length=k:=by rw[List.length_take];omega
  have:=HR.own (xs:=xs.take k) (G:=G0) intFF (by omega) (by
   rw[hl]
   have h1:=congrArg (List.take (k * intE.k)) ht
   rw[take_flat intFF.len,List.take_take,Nat.min_eq_left (Nat.mul_le_mul_right _ hk)] at h1
   exact h1) fun b hb=>hb.elim
  rw[hl] at this
  exact this
def OWN (vw vo:Value)(b:Nat):Prop:=vw.ownBlock=some b∨vo.ownBlock=some b
def bcV (ba bl bw bg bd bo:Nat):Value:=.func (.func 61) #[] #[ptr ba,ptr bl,ptr bw,ptr bg,ptr bd,ptr bo]
structure BcD (bm ba bl bw bg bd bo ma ml N:Nat):Prop where
 n:0<N∧bm<N∧ba<N∧bl<N∧bw<N∧bg<N∧bd<N∧bo<N∧ma<N∧ml<N
 w:bw≠ba∧bw≠bl∧bw≠bg∧bw≠bd∧bw≠bo∧bw≠bm∧bw≠0
 o:bo≠ba∧bo≠bl∧bo≠bg∧bo≠bd∧bo≠bm∧bo≠0
 a:ma≠ba∧ma≠bl∧ma≠bw∧ma≠bg∧ma≠bd∧ma≠bo∧ma≠bm∧ma≠ml∧ma≠0
 l:ml≠ba∧ml≠bl∧ml≠bw∧ml≠bg∧ml≠bd∧ml≠bo∧ml≠bm∧ml≠0
structure BcW (l:List (Int×BS))(V:BS)(bm nm ba bl bw bg bd bo ma ml N:Nat)(G:Nat→Prop)(s:BcS)(vw vo:Value)(w:World):Prop where
 t:Tab w
 m:MpR sKV w bm nm l
 pa:Blk w ba #[.map (some ma)] 43
 pl:Blk w bl #[.map (some ml)] 43
 pw:Blk w bw #[vw] 35
 pg:Blk w bg (adC V (.map (some bm))) 79
 pd:Blk w bd #[bcV ba bl bw bg bd bo] 95
 po:Blk w bo #[vo] 39
 ma:MpR iKV w ma s.la.length s.la
 ml:MpR iKV w ml s.ll.length s.ll
 ow:OwR intE 3 N G0 w (natE s.way) vw
 oo:OwX (slE intE) 35 N (fun b=>G b∨vw.ownBlock=some b) w s.out vo
section
variable {l:List (Int×BS)}{V:BS}{bm nm ba bl bw bg bd bo ma ml N:Nat}{G G':Nat→Prop}{s:BcS}{vw vo:Value}{w w' w2:World}
theorem BcW.ownNe (h:BcW l V bm nm ba bl bw bg bd bo ma ml N G s vw vo w){b:Nat}(h1:vw.ownBlock=some b):vo.ownBlock≠some b:=fun h2=>by
 refine h.oo.neR h.ow ?_ h2 h1
 decide
theorem BcW.ch (h:BcW l V bm nm ba bl bw bg bd bo ma ml N G s vw vo w)(D:BcD bm ba bl bw bg bd bo ma ml N){S:Nat→Prop}(c:Chg S w w')(hN:∀b,S b→N≤b)(hO:∀b,OWN vw vo b→¬S b)(hG:∀b,S b→G b):BcW l V bm nm ba bl bw bg bd bo ma ml N G s vw vo w':=by
 have no:∀{b},b<N→¬S b:=fun hb hs=>Nat.lt_irrefl _ (Nat.lt_of_lt_of_le hb (hN _ hs))
 obtain⟨n0,n1,n2,n3,n4,n5,n6,n7,n8,n9⟩:=D.n
 exact⟨h.t.ch c (no n0),h.m.pres (c.block _ h.m.lt (no n1)),h.pa.ch c (no n2),h.pl.ch c (no n3),h.pw.ch c (no n4),h.pg.ch c (no n5),h.pd.ch c (no n6),h.po.ch c (no n7),h.ma.pres (c.block _ h.ma.lt (no n8)),h.ml.pres (c.block _ h.ml.lt (no n9)),
  h.ow.chE c fun b hb=>hO b (.inl hb),h.oo.ch c (fun b hb=>hO b (.inr hb)) fun b hb=>.inl (hG b hb)⟩
theorem BcW.ext (h:BcW l V bm nm ba bl bw bg bd bo ma ml N G s vw vo w)(e:Ext w w'):BcW l V bm nm ba bl bw bg bd bo ma ml N G s vw vo w':=
 ⟨h.t.ext e,h.m.ext e,h.pa.ext e,h.pl.ext e,h.pw.ext e,h.pg.ext e,h.pd.ext e,h.po.ext e,h.ma.ext e,h.ml.ext e,h.ow.ext e,h.oo.ext e⟩
instance:Ug w w' (BcW l V bm nm ba bl bw bg bd bo ma ml N G s vw vo w) (BcW l V bm nm ba bl bw bg bd bo ma ml N G s vw vo w'):=⟨fun e h=>h.ext e⟩
theorem BcW.weak (h:BcW l V bm nm ba bl bw bg bd bo ma ml N G s vw vo w)(hG:∀b,b<w.heap.size→G' b→G b):BcW l V bm nm ba bl bw bg bd bo ma ml N G' s vw vo w:=
 ⟨h.t,h.m,h.pa,h.pl,h.pw,h.pg,h.pd,h.po,h.ma,h.ml,h.ow,h.oo.weak fun b hb hh=>hh.imp (hG b hb) id⟩
theorem BcW.putA (h:BcW l V bm nm ba bl bw bg bd bo ma ml N G s vw vo w)(D:BcD bm ba bl bw bg bd bo ma ml N)(hg:w.grownBy w' (some ma)){k:Nat}{la:List (Int×Int)}(HM:MpR iKV w' ma k la)(hG:G ma):BcW l V bm nm ba bl bw bg bd bo ma ml N G { s with la:=la } vw vo w':=by
 obtain⟨n0,n1,n2,n3,n4,n5,n6,n7,n8,n9⟩:=D.n
 obtain⟨d1,d2,d3,d4,d5,d6,d7,d8,d9⟩:=D.a
 have c:Chg (fun b=>b=ma) w w':=(Chg.rfl' _ w).gr hg (.inl rfl)
 exact⟨h.t.ch c (fun e=>d9 e.symm),h.m.pres (c.block _ h.m.lt fun e=>d7 e.symm),h.pa.ch c (fun e=>d1 e.symm),h.pl.ch c (fun e=>d2 e.symm),h.pw.ch c (fun e=>d3 e.symm),h.pg.ch c (fun e=>d4 e.symm),h.pd.ch c (fun e=>d5 e.symm),h.po.ch c (fun e=>d6 e.symm),HM.tight,h.ml.pres (c.block _ h.ml.lt fun e=>d8 e.symm),
  h.ow.chE c fun b hb e=>by have:=(h.ow.lt hb).1;omega,h.oo.ch c (fun b hb e=>by have:=(h.oo.lt hb).1;omega) fun b hb=>.inl (by rw[hb];exact hG)⟩
theorem BcW.putL (h:BcW l V bm nm ba bl bw bg bd bo ma ml N G s vw vo w)(D:BcD bm ba bl bw bg bd bo ma ml N)(hg:w.grownBy w' (some ml)){k:Nat}{ll:List (Int×Int)}(HM:MpR iKV w' ml k ll)(hG:G ml):BcW l V bm nm ba bl bw bg bd bo ma ml N G { s with ll:=ll } vw vo w':=by
 obtain⟨n0,n1,n2,n3,n4,n5,n6,n7,n8,n9⟩:=D.n
 obtain⟨d1,d2,d3,d4,d5,d6,d7,d8⟩:=D.l
 have d9:=D.a.2.2.2.2.2.2.2.1
 have c:Chg (fun b=>b=ml) w w':=(Chg.rfl' _ w).gr hg (.inl rfl)
 exact⟨h.t.ch c (fun e=>d8 e.symm),h.m.pres (c.block _ h.m.lt fun e=>d7 e.symm),h.pa.ch c (fun e=>d1 e.symm),h.pl.ch c (fun e=>d2 e.symm),h.pw.ch c (fun e=>d3 e.symm),h.pg.ch c (fun e=>d4 e.symm),h.pd.ch c (fun e=>d5 e.symm),h.po.ch c (fun e=>d6 e.symm),h.ma.pres (c.block _ h.ma.lt fun e=>d9 e),HM.tight,
  h.ow.chE c fun b hb e=>by have:=(h.ow.lt hb).1;omega,h.oo.ch c (fun b hb e=>by have:=(h.oo.lt hb).1;omega) fun b hb=>.inl (by rw[hb];exact hG)⟩
theorem BcW.setW (h:BcW l V bm nm ba bl bw bg bd bo ma ml N G s vw vo w)(D:BcD bm ba bl bw bg bd bo ma ml N){vw':Value}{way:List Nat}(hg:w.grownBy w' vw.ownBlock)(hat:vw'.ownBlock=vw.ownBlock∨vw'.ownBlock=some w.heap.size)(Hn:OwR intE 3 N G0 w' (natE way) vw')
  (hg2:w'.grownBy w2 (some bw)) (B:Blk w2 bw #[vw'] 35) (hGw:G bw):BcW l V bm nm ba bl bw bg bd bo ma ml N G { s with way:=way } vw' vo w2:=by
 obtain⟨n0,n1,n2,n3,n4,n5,n6,n7,n8,n9⟩:=D.n
 obtain⟨d1,d2,d3,d4,d5,d6,d7⟩:=D.w
 have a3:=D.a.2.2.1
 have l3:=D.l.2.2.1
 have c1:Chg (fun b=>vw.ownBlock=some b) w w':=Chg.row hg
 have c2:Chg (fun b=>b=bw) w' w2:=(Chg.rfl' _ w').gr hg2 (.inl rfl)
 have lo:∀b,vw.ownBlock=some b→N≤b:=fun b hb=>(h.ow.lt hb).1
 have no:∀{b},b<N→¬vw.ownBlock=some b:=fun hb hs=>Nat.lt_irrefl _ (Nat.lt_of_lt_of_le hb (lo _ hs))
 have hoo:OwX (slE intE) 35 N (fun b=>G b∨vw'.ownBlock=some b) w' s.out vo:=
  (h.oo.weak (G':=fun b=>(G b∨vw.ownBlock=some b)∨vw'.ownBlock=some b) fun b hb hh=>hh.elim id fun hh=>by
   rcases hat with e|e
   ·exact .inr (by rw[← e];exact hh)
   ·rw[e] at hh;cases hh;omega).ch c1 (fun b hb hh=>h.ownNe hh hb) (fun b hb=>.inl (.inr hb)) |>.weak fun b _ hh=>hh.elim (fun hh=>.inl (.inl hh)) .inr
 exact⟨(h.t.ch c1 (no n0)).ch c2 (fun e=>d7 e.symm),(h.m.pres (c1.block _ h.m.lt (no n1))).pres (c2.block _ (Nat.lt_of_lt_of_le h.m.lt c1.size) fun e=>d6 e.symm),(h.pa.ch c1 (no n2)).ch c2 (fun e=>d1 e.symm),(h.pl.ch c1 (no n3)).ch c2 (fun e=>d2 e.symm),B,(h.pg.ch c1 (no n5)).ch c2 (fun e=>d3 e.symm),(h.pd.ch c1 (no n6)).ch c2 (fun e=>d4 e.symm),(h.po.ch c1 (no n7)).ch c2 (fun e=>d5 e.symm),
  (h.ma.pres (c1.block _ h.ma.lt (no n8))).pres (c2.block _ (Nat.lt_of_lt_of_le h.ma.lt c1.size) a3),(h.ml.pres (c1.block _ h.ml.lt (no n9))).pres (c2.block _ (Nat.lt_of_lt_of_le h.ml.lt c1.size) l3),
  Hn.chE c2 fun b hb e=>by have:=(Hn.lt hb).1;omega,hoo.ch c2 (fun b hb e=>by have:=(hoo.lt hb).1;omega) fun b hb=>.inl (by rw[hb];exact hGw)⟩
theorem BcW.setO (h:BcW l V bm nm ba bl bw bg bd bo ma ml N G s vw vo w)(D:BcD bm ba bl bw bg bd bo ma ml N){vo':Value}{out:List (List Int)}(hg:w.grownBy w' vo.ownBlock)(Hn:OwX (slE intE) 35 N (fun b=>G b∨vw.ownBlock=some b) w' out vo')
  (hg2:w'.grownBy w2 (some bo)) (B:Blk w2 bo #[vo'] 39) (hGo:G bo):BcW l V bm nm ba bl bw bg bd bo ma ml N G { s with out:=out } vw vo' w2:=by
 obtain⟨n0,n1,n2,n3,n4,n5,n6,n7,n8,n9⟩:=D.n
 obtain⟨d1,d2,d3,d4,d5,d6⟩:=D.o
 have d7:=D.w.2.2.2.2.1
 have a6:=D.a.2.2.2.2.2.1
 have l6:=D.l.2.2.2.2.2.1
 have c1:Chg (fun b=>vo.ownBlock=some b) w w':=Chg.row hg
 have c2:Chg (fun b=>b=bo) w' w2:=(Chg.rfl' _ w').gr hg2 (.inl rfl)
 have lo:∀b,vo.ownBlock=some b→N≤b:=fun b hb=>(h.oo.lt hb).1
 have no:∀{b},b<N→¬vo.ownBlock=some b:=fun hb hs=>Nat.lt_irrefl _ (Nat.lt_of_lt_of_le hb (lo _ hs))
 have how:=(h.ow.chE c1 fun b hb hh=>h.ownNe hb hh)
 exact⟨(h.t.ch c1 (no n0)).ch c2 (fun e=>d6 e.symm),(h.m.pres (c1.block _ h.m.lt (no n1))).pres (c2.block _ (Nat.lt_of_lt_of_le h.m.lt c1.size) fun e=>d5 e.symm),(h.pa.ch c1 (no n2)).ch c2 (fun e=>d1 e.symm),(h.pl.ch c1 (no n3)).ch c2 (fun e=>d2 e.symm),(h.pw.ch c1 (no n4)).ch c2 (fun e=>d7 e),(h.pg.ch c1 (no n5)).ch c2 (fun e=>d3 e.symm),(h.pd.ch c1 (no n6)).ch c2 (fun e=>d4 e.symm),B,
  (h.ma.pres (c1.block _ h.ma.lt (no n8))).pres (c2.block _ (Nat.lt_of_lt_of_le h.ma.lt c1.size) a6),(h.ml.pres (c1.block _ h.ml.lt (no n9))).pres (c2.block _ (Nat.lt_of_lt_of_le h.ml.lt c1.size) l6),
  how.chE c2 fun b hb e=>by have:=(how.lt hb).1;omega,Hn.ch c2 (fun b hb e=>by have:=(Hn.lt hb).1;omega) fun b hb=>.inl (by rw[hb];exact hGo)⟩
end
theorem plainElem_bool_inv {H:Type}{P:Program}{e:TypeId}(he:P.underlying e=some .bool){v:Value}{z:DataW H×List MemPlace}(h:plainElem P e v=some z):∃c,v=.bool c∧z=(.lit (.bool c),[]):=by
 unfold plainElem at h
 rw[he] at h
 cases v <;> simp at h
 rename_i c
 exact⟨c,rfl,h.symm⟩
noncomputable def bKV:KV Tryz.prog Int Bool where
 k:=3
 e:=4
 kv:=fun x=>.int .i64 x
 kl:=fun x=>.int .i64 x
 ok:=fun x=>(Lit.int .i64 x).wf=true
 mv:=fun c=>.bool c
 dv:=fun c=>.lit (.bool c)
 okv:=fun _=>True
 R:=plainElem Tryz.prog 4
 K:=Maps.int_keyed U3
 key:=fun x hx=>Maps.keyOf_int_mk U3 hx
 keyInv:=fun v l h=>by obtain⟨x,h1,h2,h3⟩:=Maps.keyOf_int_inv U3 h;exact⟨x,h3,h1,h2⟩
 kvInj:=fun x y h=>by cases h;rfl
 val:=fun c hc=>plainElem_bool U4 c
 valInv:=fun v y h=>by
  obtain⟨c,h1,h2⟩:=plainElem_bool_inv U4 h
  exact⟨c,trivial,h1,h2⟩
 dvInj:=fun c c' h=>by cases h;rfl
section
variable {w0:World}{L:Env}{dst:Option Tmp}{ty:TypeId}{pos:String}{aft:Array Edge}{g:Option (Nat×Bool)}{x y:Operand}{t:TypeId}{β:Type}{l:List (Int×β)}{b n:Nat}
end
def SeR (w:World)(b:Nat)(S:BS):Prop:=∃l:List (Int×Bool),MpR bKV w b l.length l∧(∀p∈l,p.2=true∧∃n:Nat,p.1=(n:Int)∧S.getLsbD n=true)∧∀n:Nat,S.getLsbD n=true→((n:Int),true)∈l
section
variable {w w':World}{b:Nat}{S:BS}
theorem SeR.lt (h:SeR w b S):b<w.heap.size:=by obtain⟨l,h,_⟩:=h;exact h.lt
theorem SeR.ext (h:SeR w b S)(e':Ext w w'):SeR w' b S:=by obtain⟨l,h1,h2⟩:=h;exact⟨l,h1.ext e',h2⟩
instance:Ug w w' (SeR w b S) (SeR w' b S):=⟨fun e h=>h.ext e⟩
theorem SeR.gr (h:SeR w b S){c:Option Nat}(hg:w.grownBy w' c)(hne:some b≠c):SeR w' b S:=by obtain⟨l,h1,h2⟩:=h;exact⟨l,h1.gr hg hne,h2⟩
theorem SeR.put {l:List (Int×Bool)}{m n:Nat}(hn:n<1024)(h:MpR bKV w b m (putP l (n:Int) true))(h2:∀p∈l,p.2=true∧∃n:Nat,p.1=(n:Int)∧S.getLsbD n=true)(h3:∀n:Nat,S.getLsbD n=true→((n:Int),true)∈l):SeR w b (ins S (n:Int)):=by
 refine⟨_,h.tight0,fun p hp=>?_,fun k hk=>?_⟩
 ·rcases putP_mem hp with rfl|hp
  ·exact⟨rfl,n,rfl,(bit_ins _ hn).2 (.inr rfl)⟩
  ·obtain⟨q1,k,q2,q3⟩:=h2 p hp
   exact⟨q1,k,q2,(bit_ins _ hn).2 (.inl q3)⟩
 ·by_cases hkn:k=n
  ·rw[hkn];exact List.mem_cons_self ..
  ·have:=((bit_ins _ hn).1 hk).resolve_right hkn
   refine List.mem_cons_of_mem _ (List.mem_filter.2 ⟨h3 k this,?_⟩)
   simp only[Bool.not_eq_true',decide_eq_false_iff_not]
   omega
end
theorem vt_at {g:GT}(ok:Gr.Ok g){k:Nat}{x:VT}(h:g.1[k]?=some x):∃n:Nat,x.1=(n:Int)∧(vset g.1).getLsbD n=true∧(elems (vset g.1))[k]?=some n:=by
 obtain⟨n,h4,h5⟩:=(mem_ids ok).1 (List.mem_map.2 ⟨x,List.mem_of_getElem? h,rfl⟩)
 refine⟨n,h4,h5,?_⟩
 have h1:(natE (elems (vset g.1)))[k]?=some (n:Int):=by rw[ids_elems ok,idsG,List.getElem?_map,h,Option.map_some,h4]
 rw[natE,List.getElem?_map] at h1
 cases he:(elems (vset g.1))[k]? with
 | none=>rw[he] at h1;cases h1
 | some m=>
  rw[he] at h1
  have h6:(m:Int)=(n:Int):=Option.some.inj h1
  rw[show m=n by omega]
theorem elems_vlen {g:GT}(ok:Gr.Ok g):(elems (vset g.1)).length=g.1.length:=by rw[card_elems,card_vs ok]
theorem in7_spec {G:Nat→Prop}(xs:List Int)(n:Int)(v:Value)(W:World)(h:(Dv (slE intE) G xs).p v W)(hl:xs.length≤100000) :
  Calls Tryz.prog 77 #[v,I n] W (Post (E (B (decide (n∈xs)))) W):=by
 refine eN [v,I n] [Dv (slE intE) G0 xs,E (I n)] Tryz.func77 Tryz.ntmps77 ?_ fun a hf=>?_
 rotate_left
 rotate_right
 ·exact arg2 (Dv.weak h fun b _ hb=>hb.elim) rfl
 have e:=Ext.rfl' W
 refine seq <| regn0 <| tA hf rfl fun a hf=>tl_nil ?_
 repeat refine seq ?_
 refine regn0 <| tA hf rfl fun a hf=>tl_nil ?_
 replace hf:=hf.keep [0,1,5]
 refine blk (loopN (fun r0 a w=>∃(k:Nat) ,r0=xs.length - k∧k≤xs.length∧Fr 18 a w [(0,Dv (slE intE) G0 xs),(1,E (I n)),(5,E (I k))]∧Ext W w∧(∀y∈xs.take k,y≠n)) xs.length ⟨0,rfl,by omega,hf,e,(by simp)⟩ ?_)
 rintro r0 a w ⟨k,rfl,hk,hf,e,hn⟩
 repeat refine seq ?_
 refine rgN 4 hf <| st (mv rfl) <| st (mv rfl) <| st (lenD U35 (isR rfl)) <| st (lss rfl rfl) <| en fun a w e' hf=>?_
 replace e:=e.tr e'
 refine tl_nil <| ifc hf rfl (fun hc=>wskip ?_) (fun hc=>wexit ?_)
 rotate_left
 rotate_left
 ·have hlt:k<xs.length:=by have:=of_decide_eq_true hc;(try dsimp only at this);omega
  replace hf:=hf.keep [0,1,5]
  refine seq <| blk ?_
  have hx:=gi_get hlt
  refine seq <| rgN 6 hf <| st (mv rfl) <| st (mv rfl) <| st (idxD U35 S3 (isR rfl) rfl (by omega) (hx)) <| st (ldI T3 (isR rfl)) <| st (mv rfl) <| st (eql rfl rfl) <| en fun a w e' hf=>?_
  replace e:=e.tr e'
  refine tl_nil <| ifc hf rfl (fun hb=>?_) (fun hb=>?_)
  ·have hm:n∈xs:=by
    have:gi xs k=n:=by simpa using hb
    rw[← this];exact List.mem_of_getElem? hx
   refine seq <| regn0 <| tA hf rfl fun a hf=>tl_nil <| wret <| ret1 rfl hf rfl ?_
   rintro _ rfl
   exact⟨_,rfl,e,congrArg B (decide_eq_true hm).symm⟩
  ·refine wskip <| rgN 2 hf <| st (mv rfl) <| st ((add rfl rfl (by omega)).eq (congrArg (Value.int .i64) (show (k:Int)+1=((k+1:Nat):Int) from rfl))) <| en fun a w e' hf=>?_
   replace e:=e.tr e'
   refine tA hf rfl fun a hf=>tl_nil ?_
   replace hf:=hf.keep [0,1,5]
   refine⟨_,?_,k+1,rfl,by omega,hf,e,?_⟩
   ·omega
   intro y hy
   rw[take_succ_get hx] at hy
   rcases List.mem_append.1 hy with hy|hy
   ·exact hn y hy
   ·rw[List.mem_singleton.1 hy];simpa using hb
 ·obtain rfl:k=xs.length:=by have:=of_decide_eq_false hc;(try dsimp only at this);omega
  have hm:¬n∈xs:=fun hm=>hn n (by rw[List.take_length];exact hm) rfl
  refine seq <| regn0 <| tA hf rfl fun a hf=>tl_nil <| wret <| ret1 rfl hf rfl ?_
  rintro _ rfl
  exact⟨_,rfl,e,congrArg B (decide_eq_false hm).symm⟩
theorem near7_spec {G:Nat→Prop}(g:GT)(ok:Gr.Ok g)(p q:Nat)(v:Value)(W:World)(h:(Dv gtE G g).p v W)(hl2:g.2.length≤100000) :
  Calls Tryz.prog 119 #[v,I (p:Nat),I (q:Nat)] W (Post (E (B ((nbA g (p:Int)).getLsbD q))) W):=by
 have hg0:(Dv gtE G0 g).p v W:=Dv.weak h fun b _ hb=>hb.elim
 obtain⟨u1,u2,rfl,h1,h2⟩:=Dv.gt.1 (Dv.weak (G':=G0) h fun b _ hb=>hb.elim)
 have hfh:decide (edgF g.2 (p:Int) (q:Int) ≥ 0)=(nbA g (p:Int)).getLsbD q:=by
  have h1:=edg_at ok p q
  have h2:=nbA_bit ok (i:=p) (j:=q)
  cases hh:(nbA g (p:Int)).getLsbD q with
  | true=>exact decide_eq_true (h1.2 (h2.1 hh))
  | false=>exact decide_eq_false fun h=>by rw[h2.2 (h1.1 h)] at hh;cases hh
 refine enter (args:=[.agg #[u1,u2],I (p:Nat),I (q:Nat)]) (As:=[E (.agg #[u1,u2]),E (I (p:Nat)),E (I (q:Nat))]) Tryz.func119 rfl Tryz.ntmps119 (Nat.le_of_ble_eq_true rfl) ?_ (fun a hf=>?_) (Nat.le_of_ble_eq_true rfl)
 rotate_left
 dsimp only[params,Nat.reduceAdd] at hf
 rotate_right
 ·exact arg3 rfl rfl rfl
 have e:=Ext.rfl' W
 refine seq ?_
 refine regn0 ?_
 refine tl_box hf rfl (by decide) fun a b3 w v3 hv3 e' hb3 hs3 B3 hf=>?_
 have hle3:=Nat.le_trans e.size (Nat.le_of_eq hb3.symm)
 replace e:=e.tr e'
 refine tl_as hf rfl (by decide) fun a hf=>?_
 refine tl_nil ?_
 cases hv3
 replace hf:=hf.kp [1,2,3]
 have e1:=e
 refine seq ?_
 refine regn 5 hf (by decide +kernel) ?_
 refine st ((ldW T25 rfl B3 rfl).eq ((rfl:_=Value.agg #[u1,u2]))) ?_
 refine st (mv rfl) ?_
 refine st (mv rfl) ?_
 refine st (call3 (A:=E (I (edgF g.2 (p:Int) (q:Int)))) En115 rfl rfl rfl (fun v u s w he k1 k2 k3=>by cases k1;cases k2;cases k3;exact edge_spec g _ _ _ w (VA.st _ _ _ _ (Ext.tr e1 he) hg0) hl2)) ?_
 refine st (geq rfl rfl) ?_
 refine en fun a w e' hf=>?_
 replace e:=e.tr e'
 replace B3:=B3.ext e'
 refine tl_as hf rfl (by decide) fun a hf=>?_
 refine tl_nil ?_
 refine wret ?_
 refine ret1 rfl hf rfl ?_
 rintro _ rfl
 exact⟨_,rfl,e,congrArg B (by rw[← hfh])⟩
section
variable {nb:Int→BS}{ids:List Nat}{b f:Nat}{way:List Nat}
end
theorem natE_at {w:List Nat}{i:Nat}(h:i<w.length):(natE w)[i]?=some ((w.getD i 0:Nat):Int):=by
 rw[natE,List.getElem?_map,List.getElem?_eq_getElem h,List.getD_eq_getElem?_getD,List.getElem?_eq_getElem h];rfl
theorem clC_len (nb:Int→BS)(w:List Nat):(clC nb w).length≤1:=by
 rw[clC];split
 ·exact Nat.le_refl _
 ·exact Nat.zero_le _
theorem cyFl_len {F:Nat→List (List Nat)}{m:Nat}(h:∀x,(F x).length≤m):∀l:List Nat,(l.flatMap F).length≤l.length * m
 | []=>Nat.zero_le _
 | x::l=>by
  rw[List.flatMap_cons,List.length_append,List.length_cons,Nat.succ_mul]
  have:=h x
  have:=cyFl_len h l
  omega
theorem cyR_len {nb:Int→BS}{ids:List Nat}(hi:ids.length≤7):∀(f:Nat) (w:List Nat),(cyR nb ids f w).length≤8 ^ f
 | 0,w=>Nat.zero_le _
 | f+1,w=>by
  have h1:=clC_len nb w
  have h2:=cyFl_len (F:=cyS nb (cyR nb ids f) w) (m:=8 ^ f) (fun x=>by
   rw[cyS];split
   ·exact cyR_len hi f _
   ·exact Nat.zero_le _) ids
  have h3:ids.length * 8 ^ f≤7 * 8 ^ f:=Nat.mul_le_mul_right _ hi
  have h4:1≤8 ^ f:=Nat.pos_of_ne_zero (by simp)
  rw[cyR,List.length_append,Nat.pow_succ]
  omega
theorem pow8 {f:Nat}(h:f≤7):8 ^ f≤2097152:=Nat.pow_le_pow_right (by decide) h
def cyK (nb:Int→BS)(ids:List Nat)(f:Nat)(w:List Nat)(k:Nat):List (List Nat):=clC nb w++(ids.take k).flatMap (cyS nb (cyR nb ids f) w)
theorem cyK_succ {nb:Int→BS}{ids:List Nat}{f:Nat}{w:List Nat}{k x:Nat}(h:ids[k]?=some x):cyK nb ids f w (k+1)=cyK nb ids f w k++cyS nb (cyR nb ids f) w x:=by
 rw[cyK,cyK,take_succ_get h,List.flatMap_append,List.append_assoc];simp
theorem cyK_len {nb:Int→BS}{ids:List Nat}(hi:ids.length≤7){f:Nat}(hf:f≤6)(w:List Nat)(k:Nat):(cyK nb ids f w k).length≤2097152:=by
 have h1:=clC_len nb w
 have h2:=cyFl_len (F:=cyS nb (cyR nb ids f) w) (m:=8 ^ f) (fun x=>by
  rw[cyS];split
  ·exact cyR_len hi f _
  ·exact Nat.zero_le _) (ids.take k)
 have h3:(ids.take k).length * 8 ^ f≤7 * 8 ^ f:=Nat.mul_le_mul_right _ (Nat.le_trans (List.length_take_le' _ _) hi)
 have h4:8 ^ f≤8 ^ 6:=Nat.pow_le_pow_right (by decide) hf
 have h5:(8:Nat) ^ 6=262144:=by decide
 rw[cyK,List.length_append]
 omega
theorem cyc7_spec (g:GT)(ok:Gr.Ok g)(hl1:g.1.length≤7)(hl2:g.2.length≤100000):∀(f:Nat) (way:List Nat) (v u:Value) (K:Nat→Prop) (W:World),(∀b,K b→b<W.heap.size)→(Dv gtE G0 g).p v W→(Dv (slE intE) G0 (natE way)).p u W→way≠[]→way.Nodup→(∀x∈way,x∈elems (vset g.1))→f≤7→g.1.length<f+way.length →
  Calls Tryz.prog 114 #[v,u] W (Post (Dv (slE (slE intE)) K ((cyR (nbA g) (elems (vset g.1)) f way).map natE)) W):=by
 have hvl:=elems_vlen ok
 intro f
 induction f with
 | zero=>
  intro way v u K W hK hg0 hw hne hnd hin hf7 hlt
  have h1:=nd_lenI (natE way) (natE (elems (vset g.1))) (List.pairwise_map.2 (hnd.imp fun h h'=>h (by omega))) (fun x hx=>by
   obtain⟨y,hy,rfl⟩:=List.mem_map.1 hx
   exact natE_mem.2 (hin y hy))
  rw[natE_len,natE_len] at h1
  omega
 | succ f ih=>
  intro way v u K W hK hg0 hw hne hnd hin hf7 hlt
  obtain⟨u1,u2,rfl,h1,h2⟩:=Dv.gt.1 hg0
  have hW0:(Dv (slE intE) (GB W G0) (natE way)).p u W:=Dv.toB hw
  replace h1:=Dv.toB h1
  have hwl:1≤way.length:=List.length_pos_iff.2 hne
  have hwn:=natE_len way
  have hwm:way.length≤7:=by
   have h1:=nd_lenI (natE way) (natE (elems (vset g.1))) (List.pairwise_map.2 (hnd.imp fun h h'=>h (by omega))) (fun x hx=>by
    obtain⟨y,hy,rfl⟩:=List.mem_map.1 hx
    exact natE_mem.2 (hin y hy))
   rw[natE_len,natE_len] at h1
   omega
  obtain⟨last,hlast⟩:∃last,last=way.getLastD 0:=⟨_,rfl⟩
  obtain⟨w0,hw0⟩:∃w0,w0=way.getD 0 0:=⟨_,rfl⟩
  have hgl:=natE_last hne
  have hg0':=natE_at hwl
  rw[← hlast] at hgl
  rw[← hw0] at hg0'
  obtain⟨ids,hids⟩:∃ids,ids=elems (vset g.1):=⟨_,rfl⟩
  have hidl:ids.length≤7:=by rw[hids,hvl];exact hl1
  rw[← hids] at hin ih hvl ⊢
  obtain⟨C,hC⟩:∃C,C=clC (nbA g) way:=⟨_,rfl⟩
  obtain⟨F,hF⟩:∃F,F=cyS (nbA g) (cyR (nbA g) ids f) way:=⟨_,rfl⟩
  refine enter (args:=[.agg #[u1,u2],u]) (As:=[E (.agg #[u1,u2]),E u]) Tryz.func114 rfl Tryz.ntmps114 (Nat.le_of_ble_eq_true rfl) ?_ (fun a hf=>?_) (Nat.le_of_ble_eq_true rfl)
  rotate_left
  dsimp only[params,Nat.reduceAdd] at hf
  rotate_right
  ·exact arg2 rfl rfl
  have e:=Ext.rfl' W
  refine seq ?_
  refine regn0 ?_
  refine tl_box hf rfl (by decide) fun a b2 w v2 hv2 e' hb2 hs2 B2 hf=>?_
  have hle2:=Nat.le_trans e.size (Nat.le_of_eq hb2.symm)
  replace e:=e.tr e'
  refine tl_as hf rfl (by decide) fun a hf=>?_
  refine tl_nil ?_
  cases hv2
  obtain⟨N1,hN1⟩:∃N1,N1=w.heap.size:=⟨_,rfl⟩
  have hN1s:N1≤w.heap.size:=Nat.le_of_eq hN1
  have hWN:W.heap.size≤N1:=by rw[hN1];exact e.size
  have lb2:b2<N1:=by rw[hN1];exact B2.lt
  clear hN1
  have hKN:∀b,K b→b<N1:=fun b hb=>Nat.lt_of_lt_of_le (hK b hb) hWN
  replace hf:=hf.kp [1,2]
  refine seq ?_
  refine regn0 ?_
  refine tl_as hf rfl (by decide) fun a hf=>?_
  refine tl_nil ?_
  refine seq ?_
  refine regn 6 hf (by decide +kernel) ?_
  refine st (mv rfl) ?_
  refine st (mv rfl) ?_
  refine st (lenD U35 (isE rfl (VA.st _ _ _ _ e hW0))) ?_
  refine st (sub rfl rfl (by omega)) ?_
  refine st (idxD U35 S3 (isE rfl (VA.st _ _ _ _ e hW0)) rfl (by omega) (hgl)) ?_
  refine st (ldI T3 (isR rfl)) ?_
  refine en fun a w e' hf=>?_
  replace hN1s:=Nat.le_trans hN1s e'.size
  replace e:=e.tr e'
  replace B2:=B2.ext e'
  refine tl_as hf rfl (by decide) fun a hf=>?_
  refine tl_nil ?_
  replace hf:=hf.kp [1,2,5,6]
  have hn7:∀(p q:Nat) (x:Bool),(nbA g ((p:Nat):Int)).getLsbD q=x→∀(a b c:Value) (W' w':World),Ext W W'→Ext W' w'→a=.agg #[u1,u2]→b=I (p:Nat)→c=I (q:Nat)→Calls Tryz.prog 119 #[a,b,c] w' (Post (E (B x)) w'):=fun p q x hx a b c W' w' e5 he k1 k2 k3=>by
   cases k1;cases k2;cases k3;rw[← hx];exact near7_spec g ok _ _ _ w' (VA.st _ _ _ _ (Ext.tr e5 he) hg0) hl2
  obtain⟨cc,hcc⟩:∃cc,cc=(decide (2<way.length)&&((nbA g ((last:Nat):Int)).getLsbD w0&&decide (way.getD 1 0<last))):=⟨_,rfl⟩
  have hCc:C=if cc=true then [way] else []:=by rw[hC,clC,hcc,hlast,hw0]
  repeat refine seq ?_
  refine cut (J:=fun a w=>Fr 80 a w [(1,E u),(2,E (ptr b2)),(5,E (.slice none 0 0)),(32,E (B cc)),(6,E (I (last:Nat)))]∧Ext W w∧Blk w b2 #[u1,u2] 25∧N1≤w.heap.size) ?_ (fun a w hJ=>?_)
  ·by_cases h2w:2<way.length
   ·rw[decide_eq_true h2w,Bool.true_and] at hcc
    cases hnb:(nbA g ((last:Nat):Int)).getLsbD w0 with
    | false=>
     rw[hnb,Bool.false_and] at hcc
     have hn8:=hn7 _ _ _ hnb
     have e5:=e
     refine reg 18 Mix.mix hf (by decide +kernel) ?_
     refine st (mv rfl) ?_
     refine st (lenD U35 (isE rfl (VA.st _ _ _ _ e hW0))) ?_
     refine st ((gtr rfl rfl).eq (congrArg Value.bool ((show decide ((((natE way).length:Nat):Int) > 2)=true from decide_eq_true (by omega))))) ?_
     refine st (mv rfl) ?_
     refine sy rfl rfl ((ldW T25 rfl B2 rfl).eq ((rfl:_=Value.agg #[u1,u2]))) ?_
     refine sy rfl rfl (mv rfl) ?_
     refine sy rfl rfl (mv rfl) ?_
     refine sy rfl rfl (idxD U35 S3 (isE rfl (VA.st _ _ _ _ e hW0)) rfl (by omega) (hg0')) ?_
     refine sy rfl rfl (ldI T3 (isR rfl)) ?_
     refine sy rfl rfl (call3 (A:=E (B false)) (B:=E (.agg #[u1,u2])) (C:=E (I (last:Nat))) (D:=E (I (w0:Nat))) En119 rfl rfl rfl (fun a b c w he k1 k2 k3=>hn8 a b c _ w e5 he k1 k2 k3)) ?_
     refine st (pkT rfl rfl) ?_
     refine st (mv rfl) ?_
     refine sn rfl rfl rfl ?_
     refine sn rfl rfl rfl ?_
     refine sn rfl rfl rfl ?_
     refine sn rfl rfl rfl ?_
     refine sn rfl rfl rfl ?_
     refine st (pkF rfl rfl) ?_
     refine en fun a w e' hf=>?_
     replace hN1s:=Nat.le_trans hN1s e'.size
     replace e:=e.tr e'
     replace B2:=B2.ext e'
     refine tl_nil ?_
     rw[← hcc] at hf
     replace hf:=hf.kp [1,2,5,32,6]
     exact⟨rfl,hf,e,B2,hN1s⟩
    | true=>
     rw[hnb,Bool.true_and] at hcc
     have hn8:=hn7 _ _ _ hnb
     have e5:=e
     have hg1:=natE_at (w:=way) (i:=1) (by omega)
     refine reg 18 Mix.mix hf (by decide +kernel) ?_
     refine st (mv rfl) ?_
     refine st (lenD U35 (isE rfl (VA.st _ _ _ _ e hW0))) ?_
     refine st ((gtr rfl rfl).eq (congrArg Value.bool ((show decide ((((natE way).length:Nat):Int) > 2)=true from decide_eq_true (by omega))))) ?_
     refine st (mv rfl) ?_
     refine sy rfl rfl ((ldW T25 rfl B2 rfl).eq ((rfl:_=Value.agg #[u1,u2]))) ?_
     refine sy rfl rfl (mv rfl) ?_
     refine sy rfl rfl (mv rfl) ?_
     refine sy rfl rfl (idxD U35 S3 (isE rfl (VA.st _ _ _ _ e hW0)) rfl (by omega) (hg0')) ?_
     refine sy rfl rfl (ldI T3 (isR rfl)) ?_
     refine sy rfl rfl (call3 (A:=E (B true)) (B:=E (.agg #[u1,u2])) (C:=E (I (last:Nat))) (D:=E (I (w0:Nat))) En119 rfl rfl rfl (fun a b c w he k1 k2 k3=>hn8 a b c _ w e5 he k1 k2 k3)) ?_
     refine st (pkT rfl rfl) ?_
     refine st (mv rfl) ?_
     refine sy rfl rfl (mv rfl) ?_
     refine sy rfl rfl (idxD U35 S3 (isE rfl (VA.st _ _ _ _ e hW0)) rfl (by omega) (hg1)) ?_
     refine sy rfl rfl (ldI T3 (isR rfl)) ?_
     refine sy rfl rfl (mv rfl) ?_
     refine sy rfl rfl ((lss rfl rfl).eq (congrArg Value.bool ((show decide (((way.getD 1 0:Nat):Int)<((last:Nat):Int))=cc by rw[hcc];exact decide_eq_decide.2 (by omega))))) ?_
     refine st (pkT rfl rfl) ?_
     refine en fun a w e' hf=>?_
     replace hN1s:=Nat.le_trans hN1s e'.size
     replace e:=e.tr e'
     replace B2:=B2.ext e'
     refine tl_nil ?_
     replace hf:=hf.kp [1,2,5,32,6]
     exact⟨rfl,hf,e,B2,hN1s⟩
   ·rw[decide_eq_false h2w,Bool.false_and] at hcc
    refine reg 18 Mix.mix hf (by decide +kernel) ?_
    refine st (mv rfl) ?_
    refine st (lenD U35 (isE rfl (VA.st _ _ _ _ e hW0))) ?_
    refine st ((gtr rfl rfl).eq (congrArg Value.bool ((show decide ((((natE way).length:Nat):Int) > 2)=false from decide_eq_false (by omega))))) ?_
    refine st (mv rfl) ?_
    refine sn rfl rfl rfl ?_
    refine sn rfl rfl rfl ?_
    refine sn rfl rfl rfl ?_
    refine sn rfl rfl rfl ?_
    refine sn rfl rfl rfl ?_
    refine sn rfl rfl rfl ?_
    refine st (pkF rfl rfl) ?_
    refine st (mv rfl) ?_
    refine sn rfl rfl rfl ?_
    refine sn rfl rfl rfl ?_
    refine sn rfl rfl rfl ?_
    refine sn rfl rfl rfl ?_
    refine sn rfl rfl rfl ?_
    refine st (pkF rfl rfl) ?_
    refine en fun a w e' hf=>?_
    replace hN1s:=Nat.le_trans hN1s e'.size
    replace e:=e.tr e'
    replace B2:=B2.ext e'
    refine tl_nil ?_
    rw[← hcc] at hf
    replace hf:=hf.kp [1,2,5,32,6]
    exact⟨rfl,hf,e,B2,hN1s⟩
  clear hf e B2 hN1s
  obtain⟨hf,e,B2,hN1s⟩:=hJ
  simp only[Exit.then]
  have Ho:OwR (slE intE) 35 N1 K w ([]:List (List Int)) (.slice none 0 0):=OwR.nil (slE intE) _ hN1s hKN
  have hg0s:∀b,GO K (.slice none 0 0) b→b<N1:=fun b hb=>hb.elim (hKN b) fun h=>by cases h
  refine cut (J:=fun a w=>Fr 80 a w [(1,E u),(2,E (ptr b2)),(6,E (I (last:Nat))),(5,OwA (slE intE) 35 N1 K (C.map natE))]∧Ext W w∧Blk w b2 #[u1,u2] 25∧N1≤w.heap.size) ?_ (fun a w hJ=>?_)
  ·cases hc0:cc with
   | true=>
    rw[hc0] at hf hCc
    rw[if_pos rfl] at hCc
    refine ifc hf rfl (fun _=>?_) (fun h=>by cases h)
    have n2:=Ho.neLt lb2
    have hNa:=hN1s
    refine regn 5 hf (by decide +kernel) ?_
    refine st (mv rfl) ?_
    refine st (bslF0 U35 S3 hNa) ?_
    refine st (mv rfl) ?_
    refine st (appF (G:=GB W G0) U35 I3 rfl rfl (isE rfl (VA.st _ _ _ _ e hW0)) hNa (by rw[List.length_nil];simp only[maxLen];omega) (by rw[List.length_nil];omega)) ?_
    refine st (bsl1 (e:=slE intE) (G:=GO K (.slice none 0 0)) (z:=[]++natE way) U39 I35 rfl (by decide) rfl (fun b hb=>Nat.lt_of_lt_of_le (hg0s b hb) hNa) ⟨_,rfl,fun v w _ h=>OwR.slN h fun b hb hh=>by have:=(OwR.lt h hb).1;have:=hg0s b hh;omega⟩) ?_
    refine en fun a w e' hf=>?_
    replace hN1s:=Nat.le_trans hN1s e'.size
    replace Ho:=Ho.ext e'
    replace e:=e.tr e'
    replace B2:=B2.ext e'
    clear e'
    replace hf:=hf.kp [1,2,5,6,33,37]
    haveI hin:∀G0,InR (GB W G0) _:=OwR.inGB (W:=W) Ho hWN
    refine tl_app U39 I35 rfl rfl hf (by decide) rfl Ho (isR rfl) (by simp only[List.length_nil,List.length_singleton];omega) (by simp only[List.length_nil,List.length_singleton,maxLen];omega) fun a v w hg hat Hn hf=>?_
    replace e:=e.gro hg (Ho.row (W:=W) hWN)
    have hrow:=Ho.row (W:=W) hWN
    replace hN1s:=Nat.le_trans hN1s hg.size
    replace Ho:=Hn
    clear hrow
    replace B2:=B2.gro hg (by assumption)
    replace Ho:=Hn;clear Hn hg hat hin
    refine tl_as hf rfl (by decide) fun a hf=>?_
    refine tl_nil ?_
    rw[List.nil_append,List.nil_append] at Ho
    replace hf:=hf.kp [1,2,5,6]
    refine⟨by trivial,?_,e,B2,hN1s⟩
    have hf':=hf.upd (B:=OwA (slE intE) 35 N1 K (C.map natE)) 5 rfl (fun v h=>by cases h;rw[hCc];exact Ho)
    have hf2:=hf'.keep [1,2,6,5]
    exact hf2
   | false=>
    rw[hc0] at hf hCc
    rw[if_neg (by decide)] at hCc
    refine ifc hf rfl (fun h=>by cases h) (fun _=>?_)
    refine wskip ?_
    simp only[Exit.then,Exit.inBlock,↓reduceIte]
    have hf':=hf.upd (B:=OwA (slE intE) 35 N1 K (C.map natE)) 5 rfl (fun v h=>by cases h;rw[hCc];exact Ho)
    have hf2:=hf'.keep [1,2,6,5]
    exact⟨by trivial,hf2,e,B2,hN1s⟩
  clear hf e B2 hN1s
  obtain⟨hf,e,B2,hN1s⟩:=hJ
  simp only[Exit.then]
  clear Ho
  obtain⟨uo,Ho,hf⟩:=hf.opn 5 rfl
  replace Ho:OwR (slE intE) 35 N1 K w (C.map natE) uo:=Ho
  have hC0:C.map natE=(cyK (nbA g) ids f way 0).map natE:=by rw[cyK,List.take_zero,hC];simp
  rw[hC0] at Ho
  clear hC0 hCc hcc
  replace hf:=hf.kp [1,2,5,6]
  repeat refine seq ?_
  refine regn0 ?_
  refine tl_as hf rfl (by decide) fun a hf=>?_
  refine tl_nil ?_
  replace hf:=hf.kp [1,2,5,6,7]
  refine blk (loopN (fun r0 a w=>∃(k:Nat) (uo:Value),r0=g.1.length - k∧k≤g.1.length∧Fr 80 a w [(1,E u),(2,E (ptr b2)),(5,E uo),(6,E (I (last:Nat))),(7,E (I k))]∧Ext W w∧Blk w b2 #[u1,u2] 25∧OwR (slE intE) 35 N1 K w ((cyK (nbA g) ids f way k).map natE) uo) g.1.length ⟨0,uo,rfl,by omega,hf,e,⟨B2,Ho⟩⟩ ?_)
  clear hf e;try clear B2;try clear Ho
  rintro r0 a w ⟨k,uo,rfl,hk,hf,e,B2,Ho⟩
  repeat refine seq ?_
  refine regn 5 hf (by decide +kernel) ?_
  refine st (mv rfl) ?_
  refine st (fldA U25 rfl T22 (by decide) rfl) ?_
  refine st (ld1 T22 rfl B2 rfl) ?_
  refine st (lenD U22 (isE rfl (VA.st _ _ _ _ e h1))) ?_
  refine st (lss rfl rfl) ?_
  refine en fun a w e' hf=>?_
  replace e:=e.tr e'
  replace B2:=B2.ext e'
  replace Ho:=Ho.ext e'
  refine tl_nil ?_
  refine ifc hf rfl (fun hc=>wskip ?_) (fun hc=>wexit ?_)
  rotate_left
  rotate_left
  ·have hlt:k<g.1.length:=by have:=of_decide_eq_true hc;(try dsimp only at this);omega
   clear hc
   replace hf:=hf.kp [1,2,5,6,7]
   refine seq ?_
   refine blk ?_
   have hx0:=List.getElem?_eq_getElem hlt
   generalize g.1[k]=x at hx0
   obtain⟨n,hn,hnV,hen⟩:=vt_at ok hx0
   rw[← hids] at hen
   obtain⟨x1,x2⟩:=x
   dsimp only at hn
   subst hn
   have hsc:=cyK_succ (nb:=nbA g) (f:=f) (w:=way) hen
   have hol:=cyK_len (nb:=nbA g) hidl (show f≤6 by omega) way (k+1)
   obtain⟨Z,hZ⟩:∃Z,Z=cyS (nbA g) (cyR (nbA g) ids f) way n:=⟨_,rfl⟩
   obtain⟨cn,hcn⟩:∃cn,cn=(decide (w0<n)&&((nbA g ((last:Nat):Int)).getLsbD n && !way.contains n)):=⟨_,rfl⟩
   have hZc:Z=if cn=true then cyR (nbA g) ids f (way++[n]) else []:=by rw[hZ,cyS,hcn,hlast,hw0]
   rw[← hZ] at hsc
   obtain⟨out,hout⟩:∃out,out=cyK (nbA g) ids f way k:=⟨_,rfl⟩
   rw[← hout] at hsc Ho
   rw[hsc,List.length_append] at hol
   refine seq ?_
   refine regn 6 hf (by decide +kernel) ?_
   refine st (fldA U25 rfl T22 (by decide) rfl) ?_
   refine st (ld1 T22 rfl B2 rfl) ?_
   refine st (mv rfl) ?_
   refine st (idxD U22 S45 (isE rfl (VA.st _ _ _ _ e h1)) rfl (by omega) (hx0)) ?_
   refine st (fldD U45 rfl T3 (by decide) (Fld.fst Fld.refl) (isR rfl)) ?_
   refine st (ldI T3 (isR rfl)) ?_
   refine en fun a w e' hf=>?_
   replace e:=e.tr e'
   replace B2:=B2.ext e'
   replace Ho:=Ho.ext e'
   refine tl_as hf rfl (by decide) fun a hf=>?_
   refine tl_nil ?_
   replace hf:=hf.kp [1,2,5,6,7,8]
   refine seq ?_
   refine cut (J:=fun a w=>Fr 80 a w [(1,E u),(2,E (ptr b2)),(5,E uo),(6,E (I (last:Nat))),(7,E (I k)),(8,E (I (n:Nat))),(68,E (B cn))]∧Ext W w∧Blk w b2 #[u1,u2] 25∧OwR (slE intE) 35 N1 K w (out.map natE) uo) ?_ (fun a w hJ=>?_)
   ·by_cases h0n:w0<n
    ·rw[decide_eq_true h0n,Bool.true_and] at hcn
     cases hnb:(nbA g ((last:Nat):Int)).getLsbD n with
     | false=>
      rw[hnb,Bool.false_and] at hcn
      have hn8:=hn7 _ _ _ hnb
      have e5:=e
      refine regn 17 hf (by decide +kernel) ?_
      refine st (mv rfl) ?_
      refine st (mv rfl) ?_
      refine st (idxD U35 S3 (isE rfl (VA.st _ _ _ _ e hW0)) rfl (by omega) (hg0')) ?_
      refine st (ldI T3 (isR rfl)) ?_
      refine st ((gtr rfl rfl).eq (congrArg Value.bool ((show decide (((n:Nat):Int) > ((w0:Nat):Int))=true from decide_eq_true (by omega))))) ?_
      refine st (mv rfl) ?_
      refine sy rfl rfl ((ldW T25 rfl B2 rfl).eq ((rfl:_=Value.agg #[u1,u2]))) ?_
      refine sy rfl rfl (mv rfl) ?_
      refine sy rfl rfl (mv rfl) ?_
      refine sy rfl rfl (call3 (A:=E (B false)) (B:=E (.agg #[u1,u2])) (C:=E (I (last:Nat))) (D:=E (I (n:Nat))) En119 rfl rfl rfl (fun a b c w he k1 k2 k3=>hn8 a b c _ w e5 he k1 k2 k3)) ?_
      refine st (pkT rfl rfl) ?_
      refine st (mv rfl) ?_
      refine sn rfl rfl rfl ?_
      refine sn rfl rfl rfl ?_
      refine sn rfl rfl rfl ?_
      refine sn rfl rfl rfl ?_
      refine st (pkF rfl rfl) ?_
      refine en fun a w e' hf=>?_
      replace e:=e.tr e'
      replace B2:=B2.ext e'
      replace Ho:=Ho.ext e'
      refine tl_nil ?_
      rw[← hcn] at hf
      replace hf:=hf.kp [1,2,5,6,7,8,68]
      exact⟨rfl,hf,e,B2,Ho⟩
     | true=>
      rw[hnb,Bool.true_and] at hcn
      have hn8:=hn7 _ _ _ hnb
      have e5:=e
      refine regn 17 hf (by decide +kernel) ?_
      refine st (mv rfl) ?_
      refine st (mv rfl) ?_
      refine st (idxD U35 S3 (isE rfl (VA.st _ _ _ _ e hW0)) rfl (by omega) (hg0')) ?_
      refine st (ldI T3 (isR rfl)) ?_
      refine st ((gtr rfl rfl).eq (congrArg Value.bool ((show decide (((n:Nat):Int) > ((w0:Nat):Int))=true from decide_eq_true (by omega))))) ?_
      refine st (mv rfl) ?_
      refine sy rfl rfl ((ldW T25 rfl B2 rfl).eq ((rfl:_=Value.agg #[u1,u2]))) ?_
      refine sy rfl rfl (mv rfl) ?_
      refine sy rfl rfl (mv rfl) ?_
      refine sy rfl rfl (call3 (A:=E (B true)) (B:=E (.agg #[u1,u2])) (C:=E (I (last:Nat))) (D:=E (I (n:Nat))) En119 rfl rfl rfl (fun a b c w he k1 k2 k3=>hn8 a b c _ w e5 he k1 k2 k3)) ?_
      refine st (pkT rfl rfl) ?_
      refine st (mv rfl) ?_
      refine sy rfl rfl (mv rfl) ?_
      refine sy rfl rfl (mv rfl) ?_
      refine sy rfl rfl (call2 (A:=E (B (way.contains n))) (B:=E u) (C:=E (I (n:Nat))) En77 rfl rfl (fun v s w' he k1 k2=>by cases k1;cases k2;have:=in7_spec (natE way) (n:Int) u w' (VA.st _ _ _ _ (Ext.tr e5 he) hW0) (by omega);rwa [show decide ((n:Int)∈natE way)=way.contains n by rw[Bool.eq_iff_iff,decide_eq_true_eq,natE_mem,List.contains_iff_mem]] at this)) ?_
      refine sy rfl rfl ((notp rfl).eq (congrArg Value.bool (hcn.symm))) ?_
      refine st (pkT rfl rfl) ?_
      refine en fun a w e' hf=>?_
      replace e:=e.tr e'
      replace B2:=B2.ext e'
      replace Ho:=Ho.ext e'
      refine tl_nil ?_
      replace hf:=hf.kp [1,2,5,6,7,8,68]
      exact⟨rfl,hf,e,B2,Ho⟩
    ·rw[decide_eq_false h0n,Bool.false_and] at hcn
     refine regn 17 hf (by decide +kernel) ?_
     refine st (mv rfl) ?_
     refine st (mv rfl) ?_
     refine st (idxD U35 S3 (isE rfl (VA.st _ _ _ _ e hW0)) rfl (by omega) (hg0')) ?_
     refine st (ldI T3 (isR rfl)) ?_
     refine st ((gtr rfl rfl).eq (congrArg Value.bool ((show decide (((n:Nat):Int) > ((w0:Nat):Int))=false from decide_eq_false (by omega))))) ?_
     refine st (mv rfl) ?_
     refine sn rfl rfl rfl ?_
     refine sn rfl rfl rfl ?_
     refine sn rfl rfl rfl ?_
     refine sn rfl rfl rfl ?_
     refine st (pkF rfl rfl) ?_
     refine st (mv rfl) ?_
     refine sn rfl rfl rfl ?_
     refine sn rfl rfl rfl ?_
     refine sn rfl rfl rfl ?_
     refine sn rfl rfl rfl ?_
     refine st (pkF rfl rfl) ?_
     refine en fun a w e' hf=>?_
     replace e:=e.tr e'
     replace B2:=B2.ext e'
     replace Ho:=Ho.ext e'
     refine tl_nil ?_
     rw[← hcn] at hf
     replace hf:=hf.kp [1,2,5,6,7,8,68]
     exact⟨rfl,hf,e,B2,Ho⟩
   clear hf e B2 Ho
   obtain⟨hf,e,B2,Ho⟩:=hJ
   simp only[Exit.then]
   cases hc0:cn with
   | false=>
    rw[hc0] at hf hZc
    rw[if_neg (by decide)] at hZc
    rw[hZc,List.append_nil] at hsc
    refine ifc hf rfl (fun h=>by cases h) (fun _=>?_)
    refine wskip ?_
    simp only[Exit.then,Exit.inBlock,↓reduceIte]
    refine regn 2 hf (by decide +kernel) ?_
    refine st (mv rfl) ?_
    refine st ((add rfl rfl (by omega)).eq (congrArg (Value.int .i64) (show (k:Int)+1=((k+1:Nat):Int) from rfl))) ?_
    refine en fun a w e' hf=>?_
    replace e:=e.tr e'
    replace B2:=B2.ext e'
    replace Ho:=Ho.ext e'
    refine tl_as hf rfl (by decide) fun a hf=>?_
    refine tl_nil ?_
    replace hf:=hf.kp [1,2,5,6,7]
    refine⟨_,?_,k+1,uo,rfl,by omega,hf,e,?_⟩
    ·omega
    exact⟨B2,by rw[hsc];exact Ho⟩
   | true=>
    rw[hc0] at hf
    rw[hc0,if_pos rfl] at hZc
    have hnw:n ∉ way:=fun hh=>by rw[hc0,List.contains_iff_mem.2 hh] at hcn;simp at hcn
    refine ifc hf rfl (fun _=>?_) (fun h=>by cases h)
    replace hf:=hf.kp [1,2,5,6,7,8]
    obtain⟨N2,hN2⟩:∃N2,N2=w.heap.size:=⟨_,rfl⟩
    have hN2s:N2≤w.heap.size:=Nat.le_of_eq hN2
    have hWN2:W.heap.size≤N2:=by rw[hN2];exact e.size
    have hl2':b2<N2:=by rw[hN2];exact B2.lt
    have hown:∀b,GO K uo b→b<N2:=fun b hb=>by
     rcases hb with hb|hb
     ·have:=hKN b hb;have:=Ho.base;omega
     ·have:=(Ho.lt hb).2;omega
    haveI i1:InS (GB W G0) (fun b=>N2≤b):=⟨fun b hb=>.inr (Nat.le_trans hWN2 hb)⟩
    have e6:=e
    refine regJ 9 [1,1,0,0,0,0,0] (Chg (fun b=>N2≤b)) (RelJ.chg _) (fun w=>True) (fun w w1 k h=>trivial) Mix.mix hf (by decide +kernel) (by decide +kernel) ?_
    refine jf (fun w1 h1=>mv rfl) ?_
    refine jf (fun w1 h1=>((ldW T25 rfl (B2.ch h1 (by omega)) rfl)).eq ((rfl:_=Value.agg #[u1,u2]))) ?_
    refine ja (bslF0 U35 S3 hN2s) ?_
    refine ja (mv rfl) ?_
    refine ja (appF (G:=GB W G0) U35 I3 rfl rfl (isE rfl (VA.st _ _ _ _ e hW0)) hN2s (by rw[List.length_nil];simp only[maxLen];omega) (by rw[List.length_nil];omega)) ?_
    refine ja (mv rfl) ?_
    refine ja (bsl1 (e:=intE) (G:=G0) U35 I3 rfl (by decide) rfl (fun b hb=>hb.elim) (isI rfl)) ?_
    refine jx (xappF (G':=G0) U35 I3 rfl rfl rfl (isR rfl) (by simp only[List.length_singleton,List.nil_append];omega) (by simp only[List.length_singleton,List.nil_append,maxLen];omega) (fun _ _ _ _=>trivial) (fun _ _=>trivial)) ?_
    refine jp (fun w1 h1 HF1=>call2 (A:=Dv (slE (slE intE)) (GO K uo) ((cyR (nbA g) ids f (way++[n])).map natE)) (B:=E (.agg #[u1,u2])) (C:=OwA intE 3 N2 (fun _=>False) ([]++natE way++[(n:Int)])) En114 rfl rfl (fun x y w' he k1 k2=>by cases k1;exact ih (way++[n]) _ y (GO K uo) w' (fun b hb=>by have:=hown b hb;have:=h1.size;have:=he.size;omega) (VA.st _ _ _ _ he (VA.st _ _ _ _ ⟨h1.os,h1.tape,h1.output,h1.size,fun b hb=>h1.block b hb (by omega)⟩ (VA.st _ _ _ _ e6 hg0))) (by rw[natE_app];rw[List.nil_append] at k2;exact OwR.slN k2 fun b hb hh=>hh.elim) (by simp) (List.nodup_append.2 ⟨hnd,List.nodup_cons.2 ⟨by simp,List.nodup_nil⟩,fun a ha b hb hab=>by rw[List.mem_singleton] at hb;subst hb;subst hab;exact hnw ha⟩) (fun y hy=>(List.mem_append.1 hy).elim (hin y) fun hy=>by rw[List.mem_singleton.1 hy];exact List.mem_of_getElem? hen) (by omega) (by rw[List.length_append,List.length_singleton];omega))) ?_
    refine je ?_
    refine fun a w hc HF hf=>?_
    try dsimp only[push] at hf
    have e':Ext _ w:=⟨hc.os,hc.tape,hc.output,hc.size,fun b hb=>hc.block b hb (by omega)⟩
    replace e:=e.tr e';replace B2:=B2.ext e';replace Ho:=Ho.ext e'
    clear hc HF e' hN2s hN2
    rw[← hZc] at hf
    replace hf:=hf.kp [1,2,6,7,8,69,77]
    have n2:=Ho.neLt lb2
    haveI hin:∀G0,InR (GB W G0) _:=OwR.inGB (W:=W) Ho hWN
    refine tl_app U39 I35 rfl rfl hf (by decide) rfl Ho (isR rfl) (by simp only[List.length_map];omega) (by simp only[List.length_map,maxLen];omega) fun a v w hg hat Hn hf=>?_
    replace e:=e.gro hg (Ho.row (W:=W) hWN)
    have hrow:=Ho.row (W:=W) hWN
    replace Ho:=Hn
    clear hrow
    replace B2:=B2.gro hg (by assumption)
    replace Ho:=Hn;clear Hn hg hat hin
    refine tl_as hf rfl (by decide) fun a hf=>?_
    refine tl_nil ?_
    rw[← List.map_append,← hsc] at Ho
    simp only[Exit.then,Exit.inBlock,↓reduceIte]
    refine regn 2 hf (by decide +kernel) ?_
    refine st (mv rfl) ?_
    refine st ((add rfl rfl (by omega)).eq (congrArg (Value.int .i64) (show (k:Int)+1=((k+1:Nat):Int) from rfl))) ?_
    refine en fun a w e' hf=>?_
    replace Ho:=Ho.ext e'
    replace e:=e.tr e'
    replace B2:=B2.ext e'
    refine tl_as hf rfl (by decide) fun a hf=>?_
    refine tl_nil ?_
    replace hf:=hf.kp [1,2,5,6,7]
    refine⟨_,?_,k+1,_,rfl,by omega,hf,e,?_⟩
    ·omega
    exact⟨B2,Ho⟩
  ·obtain rfl:k=g.1.length:=by have:=of_decide_eq_false hc;(try dsimp only at this);omega
   clear hc
   simp only[Exit.then,Exit.inBlock,↓reduceIte]
   rw[show cyK (nbA g) ids f way g.1.length=cyR (nbA g) ids (f+1) way by rw[cyK,cyR,List.take_of_length_le (Nat.le_of_eq hvl)]] at Ho
   replace hf:=hf.kp [5]
   refine seq ?_
   refine regn 1 hf (by decide +kernel) ?_
   refine st (mv rfl) ?_
   refine en fun a w e' hf=>?_
   replace Ho:=Ho.ext e'
   replace e:=e.tr e'
   refine tl_as hf rfl (by decide) fun a hf=>?_
   refine tl_nil ?_
   refine wret ?_
   refine ret1 rfl hf rfl ?_
   rintro _ rfl
   exact⟨_,rfl,e,Ho.sl⟩
theorem cycs7_spec {G K:Nat→Prop}(g:GT)(ok:Gr.Ok g)(v:Value)(W:World)(h:(Dv gtE G g).p v W)(hl1:g.1.length≤7)(hl2:g.2.length≤100000)(hK:∀b,K b→b<W.heap.size) :
  Calls Tryz.prog 68 #[v] W (Post (Dv (slE (slE intE)) K ((cyA g).map natE)) W):=by
 have hg0:(Dv gtE G0 g).p v W:=Dv.weak h fun b _ hb=>hb.elim
 obtain⟨u1,u2,rfl,h1,h2⟩:=Dv.gt.1 hg0
 replace h1:=Dv.toB h1
 have hvl:=elems_vlen ok
 obtain⟨ids,hids⟩:∃ids,ids=elems (vset g.1):=⟨_,rfl⟩
 obtain⟨F,hF⟩:∃F:Nat→List (List Nat),F=fun x=>cyR (nbA g) ids g.1.length [x]:=⟨_,rfl⟩
 have hcy:cyA g=ids.flatMap F:=by rw[hF,hids];rfl
 rw[← hids] at hvl
 rw[hcy]
 have hFl:∀k,((ids.take k).flatMap F).length≤14680064:=fun k=>by
  have h1:=cyFl_len (F:=F) (m:=8 ^ g.1.length) (fun x=>by rw[hF];exact cyR_len (by omega) _ _) (ids.take k)
  have h2:(ids.take k).length * 8 ^ g.1.length≤7 * 8 ^ g.1.length:=Nat.mul_le_mul_right _ (Nat.le_trans (List.length_take_le' _ _) (by omega))
  have h3:=pow8 hl1
  omega
 refine enter (args:=[.agg #[u1,u2]]) (As:=[E (.agg #[u1,u2])]) Tryz.func68 rfl Tryz.ntmps68 (Nat.le_of_ble_eq_true rfl) ?_ (fun a hf=>?_) (Nat.le_of_ble_eq_true rfl)
 rotate_left
 dsimp only[params,Nat.reduceAdd] at hf
 rotate_right
 ·exact arg1 rfl
 have e:=Ext.rfl' W
 refine seq ?_
 refine regn0 ?_
 refine tl_box hf rfl (by decide) fun a b1 w v1 hv1 e' hb1 hs1 B1 hf=>?_
 have hle1:=Nat.le_trans e.size (Nat.le_of_eq hb1.symm)
 replace e:=e.tr e'
 refine tl_as hf rfl (by decide) fun a hf=>?_
 refine tl_nil ?_
 cases hv1
 obtain⟨N1,hN1⟩:∃N1,N1=w.heap.size:=⟨_,rfl⟩
 have hN1s:N1≤w.heap.size:=Nat.le_of_eq hN1
 have hWN:W.heap.size≤N1:=by rw[hN1];exact e.size
 have lb1:b1<N1:=by rw[hN1];exact B1.lt
 clear hN1
 have hKN:∀b,K b→b<N1:=fun b hb=>Nat.lt_of_lt_of_le (hK b hb) hWN
 replace hf:=hf.kp [1]
 refine seq ?_
 refine regn0 ?_
 refine tl_as hf rfl (by decide) fun a hf=>?_
 refine tl_nil ?_
 repeat refine seq ?_
 refine regn0 ?_
 refine tl_as hf rfl (by decide) fun a hf=>?_
 refine tl_nil ?_
 have Ho:OwR (slE intE) 35 N1 K w (((ids.take 0).flatMap F).map natE) (.slice none 0 0):=OwR.nil (slE intE) _ hN1s hKN
 replace hf:=hf.kp [1,3,4]
 refine blk (loopN (fun r0 a w=>∃(k:Nat) (uo:Value),r0=g.1.length - k∧k≤g.1.length∧Fr 24 a w [(1,E (ptr b1)),(3,E uo),(4,E (I k))]∧Ext W w∧Blk w b1 #[u1,u2] 25∧OwR (slE intE) 35 N1 K w (((ids.take k).flatMap F).map natE) uo) g.1.length ⟨0,.slice none 0 0,rfl,by omega,hf,e,⟨B1,Ho⟩⟩ ?_)
 clear hf e;try clear B1;try clear Ho
 rintro r0 a w ⟨k,uo,rfl,hk,hf,e,B1,Ho⟩
 repeat refine seq ?_
 refine regn 5 hf (by decide +kernel) ?_
 refine st (mv rfl) ?_
 refine st (fldA U25 rfl T22 (by decide) rfl) ?_
 refine st (ld1 T22 rfl B1 rfl) ?_
 refine st (lenD U22 (isE rfl (VA.st _ _ _ _ e h1))) ?_
 refine st (lss rfl rfl) ?_
 refine en fun a w e' hf=>?_
 replace e:=e.tr e'
 replace B1:=B1.ext e'
 replace Ho:=Ho.ext e'
 refine tl_nil ?_
 refine ifc hf rfl (fun hc=>wskip ?_) (fun hc=>wexit ?_)
 rotate_left
 rotate_left
 ·have hlt:k<g.1.length:=by have:=of_decide_eq_true hc;(try dsimp only at this);omega
  clear hc
  replace hf:=hf.kp [1,3,4]
  refine seq ?_
  refine blk ?_
  have hx0:=List.getElem?_eq_getElem hlt
  generalize g.1[k]=x at hx0
  obtain⟨n,hn,hnV,hen⟩:=vt_at ok hx0
  rw[← hids] at hen
  obtain⟨x1,x2⟩:=x
  dsimp only at hn
  subst hn
  have hsc:(ids.take (k+1)).flatMap F=(ids.take k).flatMap F++F n:=by rw[take_succ_get hen,List.flatMap_append];simp
  have hol:=hFl (k+1)
  obtain⟨out,hout⟩:∃out,out=(ids.take k).flatMap F:=⟨_,rfl⟩
  rw[← hout] at hsc Ho
  rw[hsc,List.length_append] at hol
  obtain⟨N2,hN2⟩:∃N2,N2=w.heap.size:=⟨_,rfl⟩
  have hown:∀b,GO K uo b→b<N2:=fun b hb=>by
   rcases hb with hb|hb
   ·have:=hKN b hb;have:=Ho.base;omega
   ·have:=(Ho.lt hb).2;omega
  have hN2s:N2≤w.heap.size:=Nat.le_of_eq hN2
  clear hN2
  have e5:=e
  have n1:=Ho.neLt lb1
  refine reg 10 Mix.mix hf (by decide +kernel) ?_
  refine st (mv rfl) ?_
  refine st ((ldW T25 rfl B1 rfl).eq ((rfl:_=Value.agg #[u1,u2]))) ?_
  refine st (fldA U25 rfl T22 (by decide) rfl) ?_
  refine st (ld1 T22 rfl B1 rfl) ?_
  refine st (mv rfl) ?_
  refine st (idxD U22 S45 (isE rfl (VA.st _ _ _ _ e h1)) rfl (by omega) (hx0)) ?_
  refine st (fldD U45 rfl T3 (by decide) (Fld.fst Fld.refl) (isR rfl)) ?_
  refine st (ldI T3 (isR rfl)) ?_
  refine st (bsl1 (e:=intE) (G:=G0) U35 I3 rfl (by decide) rfl (fun b hb=>hb.elim) (isI rfl)) ?_
  refine st (call2 (A:=Dv (slE (slE intE)) (GO K uo) ((F n).map natE)) (B:=E (.agg #[u1,u2])) (C:=Dv (slE intE) G0 [(n:Int)]) En114 rfl rfl (fun x y w' he k1 k2=>by cases k1;rw[hF,hids];exact cyc7_spec g ok hl1 hl2 g.1.length [n] _ y (GO K uo) w' (fun b hb=>by have:=hown b hb;have:=he.size;omega) (VA.st _ _ _ _ (Ext.tr e5 he) hg0) k2 (by simp) (by simp) (fun y hy=>by rw[List.mem_singleton.1 hy];exact mem_elems.2 ⟨bit_lt hnV,hnV⟩) hl1 (by simp))) ?_
  refine en fun a w e' hf=>?_
  replace Ho:=Ho.ext e'
  replace e:=e.tr e'
  replace B1:=B1.ext e'
  clear e'
  replace hf:=hf.kp [1,3,4,12,21]
  haveI hin:∀G0,InR (GB W G0) _:=OwR.inGB (W:=W) Ho hWN
  refine tl_app U39 I35 rfl rfl hf (by decide) rfl Ho (isR rfl) (by simp only[List.length_map];omega) (by simp only[List.length_map,maxLen];omega) fun a v w hg hat Hn hf=>?_
  replace e:=e.gro hg (Ho.row (W:=W) hWN)
  have hrow:=Ho.row (W:=W) hWN
  replace Ho:=Hn
  clear hrow
  replace B1:=B1.gro hg (by assumption)
  replace Ho:=Hn;clear Hn hg hat hin
  refine tl_as hf rfl (by decide) fun a hf=>?_
  refine tl_nil ?_
  rw[← List.map_append,← hsc] at Ho
  simp only[Exit.then,Exit.inBlock,↓reduceIte]
  refine regn 2 hf (by decide +kernel) ?_
  refine st (mv rfl) ?_
  refine st ((add rfl rfl (by omega)).eq (congrArg (Value.int .i64) (show (k:Int)+1=((k+1:Nat):Int) from rfl))) ?_
  refine en fun a w e' hf=>?_
  replace Ho:=Ho.ext e'
  replace e:=e.tr e'
  replace B1:=B1.ext e'
  refine tl_as hf rfl (by decide) fun a hf=>?_
  refine tl_nil ?_
  replace hf:=hf.kp [1,3,4]
  refine⟨_,?_,k+1,_,rfl,by omega,hf,e,?_⟩
  ·omega
  exact⟨B1,Ho⟩
 ·obtain rfl:k=g.1.length:=by have:=of_decide_eq_false hc;(try dsimp only at this);omega
  clear hc
  simp only[Exit.then,Exit.inBlock,↓reduceIte]
  rw[List.take_of_length_le (Nat.le_of_eq hvl)] at Ho
  replace hf:=hf.kp [3]
  refine seq ?_
  refine regn 1 hf (by decide +kernel) ?_
  refine st (mv rfl) ?_
  refine en fun a w e' hf=>?_
  replace Ho:=Ho.ext e'
  replace e:=e.tr e'
  refine tl_as hf rfl (by decide) fun a hf=>?_
  refine tl_nil ?_
  refine wret ?_
  refine ret1 rfl hf rfl ?_
  rintro _ rfl
  exact⟨_,rfl,e,Ho.sl⟩
theorem lsF_at {a b:List Nat}{k x y:Nat}(h:a.take k=b.take k)(hx:a[k]?=some x)(hy:b[k]?=some y)(hne:x≠y):lsF a b=decide (x<y):=by
 obtain⟨h1,h2⟩:=List.getElem?_eq_some_iff.1 hx
 obtain⟨h3,h4⟩:=List.getElem?_eq_some_iff.1 hy
 rw[← List.take_append_drop k a,← List.take_append_drop k b,h,lsF_app,List.drop_eq_getElem_cons h1,List.drop_eq_getElem_cons h3,h2,h4,lsF,if_neg hne]
theorem lsF_end {a b:List Nat}(h:a.take (min a.length b.length)=b.take (min a.length b.length)):lsF a b=decide (a.length<b.length):=by
 by_cases hl:a.length<b.length
 ·rw[Nat.min_eq_left (by omega),List.take_length] at h
  have h1:=List.take_append_drop a.length b
  rw[← h] at h1
  have h2:lsF (a++[]) (a++b.drop a.length)=lsF [] (b.drop a.length):=lsF_app _ _ _
  rw[List.append_nil,h1] at h2
  rw[h2,decide_eq_true hl,List.drop_eq_getElem_cons hl,lsF]
 ·rw[Nat.min_eq_right (by omega),List.take_length] at h
  have h1:=List.take_append_drop b.length a
  rw[h] at h1
  have h2:lsF (b++a.drop b.length) (b++[])=lsF (a.drop b.length) []:=lsF_app _ _ _
  rw[List.append_nil,h1] at h2
  rw[h2,decide_eq_false hl]
  cases a.drop b.length <;> rfl
theorem natE_get {a:List Nat}{k x:Nat}(h:a[k]?=some x):(natE a)[k]?=some (x:Int):=by rw[natE,List.getElem?_map,h];rfl
theorem less7_spec {G G':Nat→Prop}(p q:List Nat)(v u:Value)(W:World)(h:(Dv (slE intE) G (natE p)).p v W)(h':(Dv (slE intE) G' (natE q)).p u W)(hl:p.length≤100000)(hl':q.length≤100000) :
  Calls Tryz.prog 71 #[v,u] W (Post (E (B (lsF p q))) W):=by
 refine enter (args:=[v,u]) (As:=[Dv (slE intE) G0 (natE p),Dv (slE intE) G0 (natE q)]) Tryz.func71 rfl Tryz.ntmps71 (Nat.le_of_ble_eq_true rfl) ?_ (fun a hf=>?_) (Nat.le_of_ble_eq_true rfl)
 rotate_left
 dsimp only[params,Nat.reduceAdd] at hf
 rotate_right
 ·exact arg2 (Dv.weak h fun b _ hb=>hb.elim) (Dv.weak h' fun b _ hb=>hb.elim)
 have e:=Ext.rfl' W
 have hpn:=natE_len p
 have hqn:=natE_len q
 obtain⟨m,hm⟩:∃m,m=min p.length q.length:=⟨_,rfl⟩
 have hcd:∀k:Nat,(decide ((k:Int)<(((natE p).length:Nat):Int))&&decide ((k:Int)<(((natE q).length:Nat):Int)))=decide (k<m):=fun k=>by
  rw[Bool.eq_iff_iff,Bool.and_eq_true,decide_eq_true_eq,decide_eq_true_eq,decide_eq_true_eq];omega
 refine seq ?_
 refine regn0 ?_
 refine tl_as hf rfl (by decide) fun a hf=>?_
 refine tl_nil ?_
 repeat refine seq ?_
 refine regn0 ?_
 refine tl_as hf rfl (by decide) fun a hf=>?_
 refine tl_nil ?_
 replace hf:=hf.kp [0,1,5]
 refine blk (loopN (fun r0 a w=>∃(k:Nat) ,r0=m - k∧k≤m∧Fr 41 a w [(0,Dv (slE intE) G0 (natE p)),(1,Dv (slE intE) G0 (natE q)),(5,E (I k))]∧Ext W w∧p.take k=q.take k) m ⟨0,rfl,by omega,hf,e,rfl⟩ ?_)
 clear hf e;try clear ht
 rintro r0 a w ⟨k,rfl,hk,hf,e,ht⟩
 repeat refine seq ?_
 refine regn 10 hf (by decide +kernel) ?_
 refine st (mv rfl) ?_
 refine st (mv rfl) ?_
 refine st (lenD U35 (isR rfl)) ?_
 refine st (lss rfl rfl) ?_
 refine st (mv rfl) ?_
 refine sgE rfl rfl (.k 5 rfl .n) (fun hgd=>mv rfl) ?_
 refine sgE rfl rfl (.k 1 rfl .n) (fun hgd=>mv rfl) ?_
 refine sgE rfl rfl (.c 12 rfl (fun h=>h) .n) (fun hgd=>lenD U35 (isR rfl)) ?_
 refine sgE rfl rfl (.c 11 rfl (fun h=>h) (.c 13 rfl (fun h=>h) .n)) (fun hgd=>lss rfl rfl) ?_
 refine st ((pkAnd rfl rfl (fun h=>by rw[h];rfl)).eq (congrArg Value.bool (hcd k))) ?_
 refine en fun a w e' hf=>?_
 replace e:=e.tr e'
 refine tl_nil ?_
 refine ifc hf rfl (fun hc=>wskip ?_) (fun hc=>wexit ?_)
 rotate_left
 rotate_left
 ·have hlt:k<m:=by have:=of_decide_eq_true hc;(try dsimp only at this);omega
  clear hc
  replace hf:=hf.kp [0,1,5]
  refine seq ?_
  refine blk ?_
  have hx:=List.getElem?_eq_getElem (show k<p.length by omega)
  have hy:=List.getElem?_eq_getElem (show k<q.length by omega)
  generalize p[k]=x at hx
  generalize q[k]=y at hy
  refine seq ?_
  refine reg 9 Mix.mix hf (by decide +kernel) ?_
  refine st (mv rfl) ?_
  refine st (mv rfl) ?_
  refine st (idxD U35 S3 (isR rfl) rfl (by omega) (natE_get hx)) ?_
  refine st (ldI T3 (isR rfl)) ?_
  refine st (mv rfl) ?_
  refine st (mv rfl) ?_
  refine st (idxD U35 S3 (isR rfl) rfl (by omega) (natE_get hy)) ?_
  refine st (ldI T3 (isR rfl)) ?_
  refine st (neq rfl rfl) ?_
  refine en fun a w e' hf=>?_
  replace e:=e.tr e'
  refine tl_nil ?_
  by_cases hxy:x=y
  ·repeat refine seq ?_
   refine ifc hf rfl (fun hb=>?_) (fun hb=>?_)
   ·subst hxy;simp at hb
   ·refine wskip ?_
    simp only[Exit.then,Exit.inBlock,↓reduceIte]
    refine regn 2 hf (by decide +kernel) ?_
    refine st (mv rfl) ?_
    refine st ((add rfl rfl (by omega)).eq (congrArg (Value.int .i64) (show (k:Int)+1=((k+1:Nat):Int) from rfl))) ?_
    refine en fun a w e' hf=>?_
    replace e:=e.tr e'
    refine tl_as hf rfl (by decide) fun a hf=>?_
    refine tl_nil ?_
    replace hf:=hf.kp [0,1,5]
    refine⟨_,?_,k+1,rfl,by omega,hf,e,?_⟩
    ·omega
    rw[take_succ_get hx,take_succ_get hy,ht,hxy]
  ·repeat refine seq ?_
   refine ifc hf rfl (fun hb=>?_) (fun hb=>?_)
   ·refine seq ?_
    refine reg 9 Mix.mix hf (by decide +kernel) ?_
    refine st (mv rfl) ?_
    refine st (mv rfl) ?_
    refine st (idxD U35 S3 (isR rfl) rfl (by omega) (natE_get hx)) ?_
    refine st (ldI T3 (isR rfl)) ?_
    refine st (mv rfl) ?_
    refine st (mv rfl) ?_
    refine st (idxD U35 S3 (isR rfl) rfl (by omega) (natE_get hy)) ?_
    refine st (ldI T3 (isR rfl)) ?_
    refine st (lss rfl rfl) ?_
    refine en fun a w e' hf=>?_
    replace e:=e.tr e'
    refine tl_as hf rfl (by decide) fun a hf=>?_
    refine tl_nil ?_
    refine wret ?_
    simp only[Exit.then,Exit.inBlock]
    refine ret1 rfl hf rfl ?_
    rintro _ rfl
    exact⟨_,rfl,e,congrArg B (by rw[lsF_at ht hx hy hxy];exact decide_eq_decide.2 (by omega))⟩
   ·have h9:(x:Int)=y:=by simpa using hb
    exact absurd (by omega) hxy
 ·obtain rfl:k=m:=by have:=of_decide_eq_false hc;(try dsimp only at this);omega
  clear hc
  simp only[Exit.then,Exit.inBlock,↓reduceIte]
  refine seq ?_
  refine regn 5 hf (by decide +kernel) ?_
  refine st (mv rfl) ?_
  refine st (lenD U35 (isR rfl)) ?_
  refine st (mv rfl) ?_
  refine st (lenD U35 (isR rfl)) ?_
  refine st (lss rfl rfl) ?_
  refine en fun a w e' hf=>?_
  replace e:=e.tr e'
  refine tl_as hf rfl (by decide) fun a hf=>?_
  refine tl_nil ?_
  rw[hm] at ht
  refine wret ?_
  refine ret1 rfl hf rfl ?_
  rintro _ rfl
  exact⟨_,rfl,e,congrArg B (by rw[lsF_end ht];exact decide_eq_decide.2 (by omega))⟩
def btO (best:Option (List Nat))(c:List Nat):Bool:=match best with
 | none=>true
 | some b=>btr c b
theorem shortest7_spec {K:Nat→Prop}(l:List (List Nat))(odd:Bool)(v:Value)(W:World)(h:(Dv (slE (slE intE)) K (l.map natE)).p v W)(hl:l.length≤100000000)(hc:∀c∈l,c≠[]∧c.length≤100000) :
  Calls Tryz.prog 80 #[v,B odd] W (Post (CyA K (shF odd l)) W):=by
 have hml:(l.map natE).length=l.length:=List.length_map ..
 refine enter (args:=[v,B odd]) (As:=[Dv (slE (slE intE)) K (l.map natE),E (B odd)]) Tryz.func80 rfl Tryz.ntmps80 (Nat.le_of_ble_eq_true rfl) ?_ (fun a hf=>?_) (Nat.le_of_ble_eq_true rfl)
 rotate_left
 dsimp only[params,Nat.reduceAdd] at hf
 rotate_right
 ·exact arg2 h rfl
 have e:=Ext.rfl' W
 refine seq ?_
 refine regn0 ?_
 refine tl_as hf rfl (by decide) fun a hf=>?_
 refine tl_nil ?_
 refine seq ?_
 refine regn0 ?_
 refine tl_as hf rfl (by decide) fun a hf=>?_
 refine tl_nil ?_
 repeat refine seq ?_
 refine regn0 ?_
 refine tl_as hf rfl (by decide) fun a hf=>?_
 refine tl_nil ?_
 have HR:(CyA K ((l.take 0).foldl (shS odd) none)).p (.slice none 0 0) W:=rfl
 replace hf:=hf.kp [0,1,5,6]
 refine blk (loopN (fun r0 a w=>∃(k:Nat) (r:Value),r0=(l.map natE).length - k∧k≤(l.map natE).length∧Fr 48 a w [(0,Dv (slE (slE intE)) K (l.map natE)),(1,E (B odd)),(5,E r),(6,E (I k))]∧Ext W w∧(CyA K ((l.take k).foldl (shS odd) none)).p r w) (l.map natE).length ⟨0,.slice none 0 0,rfl,by omega,hf,e,HR⟩ ?_)
 clear hf e;try clear HR
 rintro r0 a w ⟨k,r,rfl,hk,hf,e,HR⟩
 repeat refine seq ?_
 refine regn 4 hf (by decide +kernel) ?_
 refine st (mv rfl) ?_
 refine st (mv rfl) ?_
 refine st (lenD U39 (isR rfl)) ?_
 refine st (lss rfl rfl) ?_
 refine en fun a w e' hf=>?_
 replace HR:=VA.st _ _ _ _ e' HR
 replace e:=e.tr e'
 refine tl_nil ?_
 refine ifc hf rfl (fun hc=>wskip ?_) (fun hc=>wexit ?_)
 rotate_left
 rotate_left
 ·have hlt:k<(l.map natE).length:=by have:=of_decide_eq_true hc;(try dsimp only at this);omega
  clear hc
  replace hf:=hf.kp [0,1,5,6]
  refine seq ?_
  refine blk ?_
  have hx:=List.getElem?_eq_getElem (show k<l.length by omega)
  generalize l[k]=c at hx
  obtain⟨hc0,hcl⟩:=hc c (List.mem_of_getElem? hx)
  have hxm:(l.map natE)[k]?=some (natE c):=by rw[List.getElem?_map,hx];rfl
  have hsc:(l.take (k+1)).foldl (shS odd) none=shS odd ((l.take k).foldl (shS odd) none) c:=by rw[take_succ_get hx,List.foldl_append];rfl
  have hbl:∀b,(l.take k).foldl (shS odd) none=some b→b.length≤100000:=fun b hb=>(hc b (List.take_subset _ _ (((shTo odd (l.take k) none).2 b hb).1.resolve_left (by simp)).1)).2
  generalize (l.take k).foldl (shS odd) none=best at hsc hbl HR
  obtain⟨best',hbest⟩:∃best',best'=(l.take (k+1)).foldl (shS odd) none:=⟨_,rfl⟩
  rw[← hbest] at hsc
  have hcn:=natE_len c
  refine seq ?_
  refine regn 4 hf (by decide +kernel) ?_
  refine st (mv rfl) ?_
  refine st (mv rfl) ?_
  refine st (idxD U39 S35 (isR rfl) rfl (by omega) (hxm)) ?_
  refine st (ldD T35 (isR rfl)) ?_
  refine en fun a w e' hf=>?_
  replace HR:=VA.st _ _ _ _ e' HR
  replace e:=e.tr e'
  refine tl_as hf rfl (by decide) fun a hf=>?_
  refine tl_nil ?_
  obtain⟨cv,HQ,hf⟩:=hf.opn 7 rfl
  replace HQ:(Dv (slE intE) K (natE c)).p cv w:=HQ
  replace hf:=hf.kp [0,1,5,6,7]
  obtain⟨od,hod⟩:∃od,od=ods odd c:=⟨_,rfl⟩
  repeat refine seq ?_
  refine cut (J:=fun a w=>Fr 48 a w [(0,Dv (slE (slE intE)) K (l.map natE)),(1,E (B odd)),(5,E r),(6,E (I k)),(7,E cv),(24,E (B od))]∧Ext W w∧(CyA K best).p r w∧(Dv (slE intE) K (natE c)).p cv w) ?_ (fun a w hJ=>?_)
  ·cases odd with
   | false=>
    obtain rfl:od=false:=hod
    refine regn 7 hf (by decide +kernel) ?_
    refine st (mv rfl) ?_
    refine st (mv rfl) ?_
    refine sn rfl rfl rfl ?_
    refine sn rfl rfl rfl ?_
    refine sn rfl rfl rfl ?_
    refine sn rfl rfl rfl ?_
    refine st (pkF rfl rfl) ?_
    refine en fun a w e' hf=>?_
    replace HR:=VA.st _ _ _ _ e' HR
    replace HQ:=VA.st _ _ _ _ e' HQ
    replace e:=e.tr e'
    refine tl_nil ?_
    replace hf:=hf.kp [0,1,5,6,7,24]
    exact⟨rfl,hf,e,HR,HQ⟩
   | true=>
    refine regn 7 hf (by decide +kernel) ?_
    refine st (mv rfl) ?_
    refine st (mv rfl) ?_
    refine sy rfl rfl (mv rfl) ?_
    refine sy rfl rfl (lenD U35 (isE rfl HQ)) ?_
    refine sy rfl rfl (rem rfl rfl (by omega)) ?_
    refine sy rfl rfl ((eql rfl rfl).eq (congrArg Value.bool ((show (((((natE c).length:Nat):Int) % 2)==0)=od by rw[hod,ods,Bool.true_and,Bool.eq_iff_iff,beq_iff_eq,decide_eq_true_eq];omega)))) ?_
    refine st (pkT rfl rfl) ?_
    refine en fun a w e' hf=>?_
    replace HR:=VA.st _ _ _ _ e' HR
    replace HQ:=VA.st _ _ _ _ e' HQ
    replace e:=e.tr e'
    refine tl_nil ?_
    replace hf:=hf.kp [0,1,5,6,7,24]
    exact⟨rfl,hf,e,HR,HQ⟩
  clear hf e HR HQ
  obtain⟨hf,e,HR,HQ⟩:=hJ
  simp only[Exit.then]
  rw[shS,← hod] at hsc
  cases od with
  | true=>
   rw[if_pos rfl] at hsc
   refine ifc hf rfl (fun _=>?_) (fun h=>by cases h)
   refine wexit ?_
   simp only[Exit.then,Exit.inBlock,↓reduceIte]
   refine regn 2 hf (by decide +kernel) ?_
   refine st (mv rfl) ?_
   refine st ((add rfl rfl (by omega)).eq (congrArg (Value.int .i64) (show (k:Int)+1=((k+1:Nat):Int) from rfl))) ?_
   refine en fun a w e' hf=>?_
   replace HR:=VA.st _ _ _ _ e' HR
   replace HQ:=VA.st _ _ _ _ e' HQ
   replace e:=e.tr e'
   refine tl_as hf rfl (by decide) fun a hf=>?_
   refine tl_nil ?_
   replace hf:=hf.kp [0,1,5,6]
   refine⟨_,?_,k+1,_,rfl,by omega,hf,e,?_⟩
   ·omega
   rw[← hbest,hsc];exact HR
  | false=>
   rw[if_neg (by decide)] at hsc
   refine ifc hf rfl (fun h=>by cases h) (fun _=>?_)
   refine wskip ?_
   simp only[Exit.then,Exit.inBlock,↓reduceIte]
   obtain⟨bt,hbt⟩:∃bt:Bool,bt=btO best c:=⟨_,rfl⟩
   have hsb:best'=if bt=true then some c else best:=by
    rw[hsc,hbt]
    cases best with
    | none=>rfl
    | some b=>rfl
   replace hf:=hf.kp [0,1,5,6,7]
   refine seq ?_
   refine cut (J:=fun a w=>Fr 48 a w [(0,Dv (slE (slE intE)) K (l.map natE)),(1,E (B odd)),(5,E r),(6,E (I k)),(7,E cv),(45,E (B bt))]∧Ext W w∧(CyA K best).p r w∧(Dv (slE intE) K (natE c)).p cv w) ?_ (fun a w hJ=>?_)
   ·cases best with
    | none=>
     obtain rfl:bt=true:=hbt
     obtain rfl:r=.slice none 0 0:=HR
     have HR:True:=trivial
     refine regn 21 hf (by decide +kernel) ?_
     refine st (mv rfl) ?_
     refine st (eqlNil U35 rfl) ?_
     refine st (mv rfl) ?_
     refine sn rfl rfl rfl ?_
     refine sn rfl rfl rfl ?_
     refine sn rfl rfl rfl ?_
     refine sn rfl rfl rfl ?_
     refine sn rfl rfl rfl ?_
     refine st (pkT rfl rfl) ?_
     refine st (mv rfl) ?_
     refine sn rfl rfl rfl ?_
     refine sn rfl rfl rfl ?_
     refine sn rfl rfl rfl ?_
     refine sn rfl rfl rfl ?_
     refine sn rfl rfl rfl ?_
     refine sn rfl rfl rfl ?_
     refine su rfl rfl ?_
     refine su rfl rfl ?_
     refine su rfl rfl ?_
     refine sn rfl rfl rfl ?_
     refine st (pkT rfl rfl) ?_
     refine en fun a w e' hf=>?_
     replace HR:=trivial
     replace HQ:=VA.st _ _ _ _ e' HQ
     replace e:=e.tr e'
     refine tl_nil ?_
     have HR:(CyA K none).p (.slice none 0 0) w:=rfl
     replace hf:=hf.kp [0,1,5,6,7,45]
     exact⟨rfl,hf,e,HR,HQ⟩
    | some b=>
     have hbn:=natE_len b
     have hb5:=hbl b rfl
     have hnb:natE b≠[]:=fun h=>HR.1 (by rw[natE] at h;exact List.map_eq_nil_iff.1 h)
     obtain⟨ad,n',c',rfl⟩:=slSome HR.2 hnb
     replace hbt:bt=btr c b:=hbt
     by_cases hlt1:c.length<b.length
     ·have:bt=true:=by rw[hbt];exact btr_iff.2 (.inl hlt1)
      subst this
      refine regn 21 hf (by decide +kernel) ?_
      refine st (mv rfl) ?_
      refine st (eqlNil U35 rfl) ?_
      refine st (mv rfl) ?_
      refine sy rfl rfl (mv rfl) ?_
      refine sy rfl rfl (lenD U35 (isE rfl HQ)) ?_
      refine sy rfl rfl (mv rfl) ?_
      refine sy rfl rfl (lenD U35 (isE rfl HR.2)) ?_
      refine sy rfl rfl ((lss rfl rfl).eq (congrArg Value.bool ((show decide ((((natE c).length:Nat):Int)<(((natE b).length:Nat):Int))=true from decide_eq_true (by omega))))) ?_
      refine st (pkF rfl rfl) ?_
      refine st (mv rfl) ?_
      refine sn rfl rfl rfl ?_
      refine sn rfl rfl rfl ?_
      refine sn rfl rfl rfl ?_
      refine sn rfl rfl rfl ?_
      refine sn rfl rfl rfl ?_
      refine sn rfl rfl rfl ?_
      refine su rfl rfl ?_
      refine su rfl rfl ?_
      refine su rfl rfl ?_
      refine sn rfl rfl rfl ?_
      refine st (pkT rfl rfl) ?_
      refine en fun a w e' hf=>?_
      replace HR:=VA.st _ _ _ _ e' HR
      replace HQ:=VA.st _ _ _ _ e' HQ
      replace e:=e.tr e'
      refine tl_nil ?_
      replace hf:=hf.kp [0,1,5,6,7,45]
      exact⟨rfl,hf,e,HR,HQ⟩
     ·by_cases heq:c.length=b.length
      ·have hbl':bt=lsF c b:=by rw[hbt,btr,decide_eq_false hlt1,decide_eq_true heq,Bool.false_or,Bool.true_and]
       have HR7:=HR
       have HQ7:=HQ
       refine regn 21 hf (by decide +kernel) ?_
       refine st (mv rfl) ?_
       refine st (eqlNil U35 rfl) ?_
       refine st (mv rfl) ?_
       refine sy rfl rfl (mv rfl) ?_
       refine sy rfl rfl (lenD U35 (isE rfl HQ)) ?_
       refine sy rfl rfl (mv rfl) ?_
       refine sy rfl rfl (lenD U35 (isE rfl HR.2)) ?_
       refine sy rfl rfl ((lss rfl rfl).eq (congrArg Value.bool ((show decide ((((natE c).length:Nat):Int)<(((natE b).length:Nat):Int))=false from decide_eq_false (by omega))))) ?_
       refine st (pkF rfl rfl) ?_
       refine st (mv rfl) ?_
       refine sy rfl rfl (mv rfl) ?_
       refine sy rfl rfl (lenD U35 (isE rfl HQ)) ?_
       refine sy rfl rfl (mv rfl) ?_
       refine sy rfl rfl (lenD U35 (isE rfl HR.2)) ?_
       refine sy rfl rfl ((eql rfl rfl).eq (congrArg Value.bool ((show ((((natE c).length:Nat):Int)==(((natE b).length:Nat):Int))=true from beq_iff_eq.2 (by omega))))) ?_
       refine sy rfl rfl (mv rfl) ?_
       refine sy rfl rfl (mv rfl) ?_
       refine sy rfl rfl (mv rfl) ?_
       refine sy rfl rfl (call2 (A:=E (B bt)) (B:=E cv) (C:=E (.slice (some ad) n' c')) En71 rfl rfl (fun x y w' he k1 k2=>by cases k1;cases k2;rw[hbl'];exact less7_spec c b _ _ w' (VA.st _ _ _ _ he HQ7) (VA.st _ _ _ _ he HR7.2) hcl hb5)) ?_
       refine sy rfl rfl (pkT rfl rfl) ?_
       refine st (pkF rfl rfl) ?_
       refine en fun a w e' hf=>?_
       replace HR:=VA.st _ _ _ _ e' HR
       replace HQ:=VA.st _ _ _ _ e' HQ
       replace e:=e.tr e'
       refine tl_nil ?_
       clear HR7 HQ7
       replace hf:=hf.kp [0,1,5,6,7,45]
       exact⟨rfl,hf,e,HR,HQ⟩
      ·have:bt=false:=by rw[hbt,btr,decide_eq_false hlt1,decide_eq_false heq];rfl
       subst this
       refine regn 21 hf (by decide +kernel) ?_
       refine st (mv rfl) ?_
       refine st (eqlNil U35 rfl) ?_
       refine st (mv rfl) ?_
       refine sy rfl rfl (mv rfl) ?_
       refine sy rfl rfl (lenD U35 (isE rfl HQ)) ?_
       refine sy rfl rfl (mv rfl) ?_
       refine sy rfl rfl (lenD U35 (isE rfl HR.2)) ?_
       refine sy rfl rfl ((lss rfl rfl).eq (congrArg Value.bool ((show decide ((((natE c).length:Nat):Int)<(((natE b).length:Nat):Int))=false from decide_eq_false (by omega))))) ?_
       refine st (pkF rfl rfl) ?_
       refine st (mv rfl) ?_
       refine sy rfl rfl (mv rfl) ?_
       refine sy rfl rfl (lenD U35 (isE rfl HQ)) ?_
       refine sy rfl rfl (mv rfl) ?_
       refine sy rfl rfl (lenD U35 (isE rfl HR.2)) ?_
       refine sy rfl rfl ((eql rfl rfl).eq (congrArg Value.bool ((show ((((natE c).length:Nat):Int)==(((natE b).length:Nat):Int))=false from beq_eq_false_iff_ne.2 (by omega))))) ?_
       refine sy rfl rfl (mv rfl) ?_
       refine sn rfl rfl rfl ?_
       refine sn rfl rfl rfl ?_
       refine sn rfl rfl rfl ?_
       refine sy rfl rfl (pkF rfl rfl) ?_
       refine st (pkF rfl rfl) ?_
       refine en fun a w e' hf=>?_
       replace HR:=VA.st _ _ _ _ e' HR
       replace HQ:=VA.st _ _ _ _ e' HQ
       replace e:=e.tr e'
       refine tl_nil ?_
       replace hf:=hf.kp [0,1,5,6,7,45]
       exact⟨rfl,hf,e,HR,HQ⟩
   clear hf e HR HQ
   obtain⟨hf,e,HR,HQ⟩:=hJ
   simp only[Exit.then]
   cases bt with
   | true=>
    rw[if_pos rfl] at hsb
    refine ifc hf rfl (fun _=>?_) (fun h=>by cases h)
    refine regn 1 hf (by decide +kernel) ?_
    refine st (mv rfl) ?_
    refine en fun a w e' hf=>?_
    replace HR:=VA.st _ _ _ _ e' HR
    replace HQ:=VA.st _ _ _ _ e' HQ
    replace e:=e.tr e'
    refine tl_as hf rfl (by decide) fun a hf=>?_
    refine tl_nil ?_
    simp only[Exit.then,Exit.inBlock,↓reduceIte]
    refine regn 2 hf (by decide +kernel) ?_
    refine st (mv rfl) ?_
    refine st ((add rfl rfl (by omega)).eq (congrArg (Value.int .i64) (show (k:Int)+1=((k+1:Nat):Int) from rfl))) ?_
    refine en fun a w e' hf=>?_
    replace HR:=VA.st _ _ _ _ e' HR
    replace HQ:=VA.st _ _ _ _ e' HQ
    replace e:=e.tr e'
    refine tl_as hf rfl (by decide) fun a hf=>?_
    refine tl_nil ?_
    replace hf:=hf.kp [0,1,5,6]
    refine⟨_,?_,k+1,_,rfl,by omega,hf,e,?_⟩
    ·omega
    rw[← hbest,hsb];exact⟨hc0,HQ⟩
   | false=>
    rw[if_neg (by decide)] at hsb
    refine ifc hf rfl (fun h=>by cases h) (fun _=>?_)
    refine wskip ?_
    simp only[Exit.then,Exit.inBlock,↓reduceIte]
    refine regn 2 hf (by decide +kernel) ?_
    refine st (mv rfl) ?_
    refine st ((add rfl rfl (by omega)).eq (congrArg (Value.int .i64) (show (k:Int)+1=((k+1:Nat):Int) from rfl))) ?_
    refine en fun a w e' hf=>?_
    replace HR:=VA.st _ _ _ _ e' HR
    replace HQ:=VA.st _ _ _ _ e' HQ
    replace e:=e.tr e'
    refine tl_as hf rfl (by decide) fun a hf=>?_
    refine tl_nil ?_
    replace hf:=hf.kp [0,1,5,6]
    refine⟨_,?_,k+1,_,rfl,by omega,hf,e,?_⟩
    ·omega
    rw[← hbest,hsb];exact HR
 ·obtain rfl:k=(l.map natE).length:=by have:=of_decide_eq_false hc;(try dsimp only at this);omega
  clear hc
  simp only[Exit.then,Exit.inBlock,↓reduceIte]
  rw[hml,List.take_length] at HR
  replace hf:=hf.kp [5]
  refine seq ?_
  refine regn 1 hf (by decide +kernel) ?_
  refine st (mv rfl) ?_
  refine en fun a w e' hf=>?_
  replace HR:=VA.st _ _ _ _ e' HR
  replace e:=e.tr e'
  refine tl_as hf rfl (by decide) fun a hf=>?_
  refine tl_nil ?_
  refine wret ?_
  refine ret1 rfl hf rfl ?_
  rintro _ rfl
  exact⟨_,rfl,e,HR⟩
theorem cyA_all {g:GT}(ok:Gr.Ok g)(hl1:g.1.length≤7):(cyA g).length≤100000000∧∀c∈cyA g,c≠[]∧c.length≤100000:=by
 constructor
 ·have h1:=cyFl_len (F:=fun x=>cyR (nbA g) (elems (vset g.1)) g.1.length [x]) (m:=8 ^ g.1.length) (fun x=>cyR_len (by rw[elems_vlen ok];exact hl1) _ _) (elems (vset g.1))
  rw[elems_vlen ok] at h1
  have h2:g.1.length * 8 ^ g.1.length≤7 * 8 ^ g.1.length:=Nat.mul_le_mul_right _ hl1
  have h3:=pow8 hl1
  show (List.flatMap _ _).length≤_
  omega
 ·intro c hc
  have hM:=(cyA_mem ok).1 hc
  have h3:=hM.cyc.three
  have h1:=nd_lenI (natE c) (natE (elems (vset g.1))) (List.pairwise_map.2 ((nodup_of hM.cyc).imp fun h h'=>h (by omega))) (fun x hx=>by
   obtain⟨y,hy,rfl⟩:=List.mem_map.1 hx
   exact natE_mem.2 (cyc_in ok hM.cyc y hy))
  rw[natE_len,natE_len,elems_vlen ok] at h1
  exact⟨fun h=>by rw[h] at h3;simp at h3,by omega⟩
theorem ring7_spec {G:Nat→Prop}(g:GT)(ok:Gr.Ok g)(v:Value)(W:World)(h:(Dv gtE G g).p v W)(hl1:g.1.length≤7)(hl2:g.2.length≤100000) :
  Calls Tryz.prog 37 #[v] W (Post (CyA G0 (shF false (cyA g))) W):=by
 have hg0:(Dv gtE G0 g).p v W:=Dv.weak h fun b _ hb=>hb.elim
 obtain⟨u1,u2,rfl,_,_⟩:=Dv.gt.1 hg0
 obtain⟨hal,hac⟩:=cyA_all ok hl1
 obtain⟨o,ho⟩:∃o,o=shF false (cyA g):=⟨_,rfl⟩
 rw[← ho]
 refine enter (args:=[.agg #[u1,u2]]) (As:=[E (.agg #[u1,u2])]) Tryz.func37 rfl Tryz.ntmps37 (Nat.le_of_ble_eq_true rfl) ?_ (fun a hf=>?_) (Nat.le_of_ble_eq_true rfl)
 rotate_left
 dsimp only[params,Nat.reduceAdd] at hf
 rotate_right
 ·exact arg1 rfl
 have e:=Ext.rfl' W
 refine seq ?_
 refine regn0 ?_
 refine tl_box hf rfl (by decide) fun a b1 w v1 hv1 e' hb1 hs1 B1 hf=>?_
 have hle1:=Nat.le_trans e.size (Nat.le_of_eq hb1.symm)
 replace e:=e.tr e'
 refine tl_as hf rfl (by decide) fun a hf=>?_
 refine tl_nil ?_
 cases hv1
 have e1:=e
 refine seq ?_
 refine regn 3 hf (by decide +kernel) ?_
 refine st ((ldW T25 rfl B1 rfl).eq ((rfl:_=Value.agg #[u1,u2]))) ?_
 refine st (call1 (A:=Dv (slE (slE intE)) G0 ((cyA g).map natE)) (B:=E (.agg #[u1,u2])) En68 rfl (fun v w he k=>by cases k;exact cycs7_spec g ok _ w (VA.st _ _ _ _ (Ext.tr e1 he) hg0) hl1 hl2 (fun b hb=>hb.elim))) ?_
 refine st (call2 (A:=CyA G0 o) (B:=Dv (slE (slE intE)) G0 ((cyA g).map natE)) (C:=E (B false)) En80 rfl rfl (fun v u w he k k'=>by cases k';rw[ho];exact shortest7_spec (cyA g) false v w k hal hac)) ?_
 refine en fun a w e' hf=>?_
 replace e:=e.tr e'
 replace B1:=B1.ext e'
 refine tl_as hf rfl (by decide) fun a hf=>?_
 refine tl_nil ?_
 refine wret ?_
 refine ret1 rfl hf rfl ?_
 intro v hv
 exact⟨_,rfl,e,hv⟩
def upC (n:Nat)(up:Nat→Nat):Array Value:=((List.range n).map fun i=>I (up i:Nat)).toArray
theorem upC_size (n:Nat)(up:Nat→Nat):(upC n up).size=n:=by simp[upC]
theorem upC_get {n a:Nat}(up:Nat→Nat)(h:a<n):(upC n up)[a]?=some (I (up a:Nat)):=by simp[upC,h]
theorem upC_set (n:Nat)(up:Nat→Nat)(a r:Nat):(upC n up).setIfInBounds a (I (r:Nat))=upC n (setU up a r):=by
 refine Array.ext_getElem? fun i=>?_
 rw[Array.getElem?_setIfInBounds,upC_size]
 by_cases hi:i<n
 ·rw[upC_get _ hi,upC_get _ hi,setU]
  by_cases h:a=i
  ·rw[if_pos h,if_pos (by omega),if_pos h.symm]
  ·rw[if_neg h,if_neg fun h'=>h h'.symm]
 ·have h1:∀up,(upC n up)[i]?=none:=fun up=>Array.getElem?_eq_none (by rw[upC_size];omega)
  rw[h1,h1]
  by_cases h:a=i
  ·rw[if_pos h,if_neg (by omega)]
  ·rw[if_neg h]
theorem upC_zero (n:Nat):(List.replicate n (I 0)).toArray=upC n fun _=>0:=by
 rw[upC];congr 1;simp[List.map_const']
theorem upC_fun {n:Nat}{up up':Nat→Nat}(h:∀i,i<n→up i=up' i):upC n up=upC n up':=by
 rw[upC,upC];congr 1
 exact List.map_congr_left fun i hi=>by rw[h i (List.mem_range.1 hi)]
structure PtB (w:World)(bp bu n:Nat)(up:Nat→Nat):Prop where
 p:Blk w bp #[.slice (some ⟨bu,0,none⟩) n n] 158
 u:Blk w bu (upC n up) 3
theorem PtB.ext {w w':World}{bp bu n:Nat}{up:Nat→Nat}(h:PtB w bp bu n up)(e:Ext w w'):PtB w' bp bu n up:=⟨h.p.ext e,h.u.ext e⟩
instance {w w':World}{bp bu n:Nat}{up:Nat→Nat}:Ug w w' (PtB w bp bu n up) (PtB w' bp bu n up):=⟨fun e h=>h.ext e⟩
theorem PtB.gr {w w':World}{bp bu n b:Nat}{up:Nat→Nat}(h:PtB w bp bu n up)(g:w.grownBy w' (some b))(h1:bp≠b∧bu≠b):PtB w' bp bu n up:=⟨h.p.gr g h1.1,h.u.gr g h1.2⟩
theorem PtB.ch {w w':World}{bp bu n:Nat}{up:Nat→Nat}{S:Nat→Prop}(h:PtB w bp bu n up)(c:Chg S w w')(h1:¬S bp)(h2:¬S bu):PtB w' bp bu n up:=⟨h.p.ch c h1,h.u.ch c h2⟩
theorem PtB.ne {w:World}{bp bu n:Nat}{up:Nat→Nat}(h:PtB w bp bu n up):bp≠bu:=h.p.ne h.u (by decide)
def PtQ (bp bu n:Nat)(ρ:Nat→Nat)(w:World):Prop:=∃up,PtB w bp bu n up∧Dn up∧∀x,rt up x=ρ x
theorem PtQ.ext {w w':World}{bp bu n:Nat}{ρ:Nat→Nat}(h:PtQ bp bu n ρ w)(e:Ext w w'):PtQ bp bu n ρ w':=by
 obtain⟨up,h1,h2⟩:=h
 exact⟨up,h1.ext e,h2⟩
theorem PtQ.ch {w w':World}{bp bu n:Nat}{ρ:Nat→Nat}{S:Nat→Prop}(h:PtQ bp bu n ρ w)(c:Chg S w w')(h1:¬S bp)(h2:¬S bu):PtQ bp bu n ρ w':=by
 obtain⟨up,h3,h4⟩:=h
 exact⟨up,h3.ch c h1 h2,h4⟩
theorem atZ {b k:Nat}:Value.pointer (some ⟨b,0+((k:Nat):Int).toNat * 1,none⟩)=Value.pointer (some ⟨b,k,none⟩):=by rw[Int.toNat_natCast,Nat.zero_add,Nat.mul_one]
theorem neqPE {P:Program}{w0:World}{L:Env}{dst:Option Tmp}{ty:TypeId}{pos:String}{aft:Array Edge}{g:Option (Nat×Bool)}{x:Operand}{t yt pe:TypeId}{p:Option Addr}(ht0:P.underlying t=some (.pointer pe))(hx:opd L x=some (E (.pointer p))) :
  OpC P w0 L ⟨dst,.binOp .neq t x (.const (.pointer none)) yt,ty,pos,aft,g⟩ (E (.bool !(p.isNone&&true))):=
 opc_neq hx rfl (fun w=>rfl) rfl fun w _=>run_equal_pp w t p none (ptee ht0) (.inr rfl)
theorem bPv (ad:Option Addr)(n c:Nat):Tryz.prog.built 158 [(0,.slice ad n c)]=some #[.slice ad n c]:=by kernel_rfl
theorem pnew_spec {m:Nat}(hm:m≤4096)(W:World):Calls Tryz.prog 86 #[I (m:Nat)] W (fun en w'=>∃bp bu,en=.returned (.tuple #[ptr bp,I 0])∧Ext W w'∧W.heap.size≤bp∧W.heap.size≤bu∧PtQ bp bu m id w'):=by
 refine eN [I (m:Nat)] [E (I (m:Nat))] Tryz.func86 Tryz.ntmps86 ?_ fun a hf=>?_
 rotate_left
 rotate_right
 ·exact arg1 rfl
 have e:=Ext.rfl' W
 refine seq <| regn0 <| tA hf rfl fun a hf=>tA hf rfl fun a hf=>tl_nil ?_
 repeat refine seq ?_
 refine rgN 6 hf <| st (mv rfl) <| st ((lss rfl rfl).eq (congrArg Value.bool (decide_eq_false (by omega)))) <| st (mv rfl) <| sy rfl rfl (mv rfl) <| sy rfl rfl ((gtr rfl rfl).eq (congrArg Value.bool (decide_eq_false (by omega)))) <| st (pkF rfl rfl) <| en fun a w e' hf=>?_
 replace e:=e.tr e'
 refine tl_nil <| ifc hf rfl (fun h=>by cases h) (fun _=>?_)
 refine wskip ?_
 obtain⟨N1,hN1⟩:∃N1,N1=w.heap.size:=⟨_,rfl⟩
 have hN1s:N1≤w.heap.size:=Nat.le_of_eq hN1
 have hW1:W.heap.size≤N1:=by rw[hN1];exact e.size
 replace hf:=hf.keep [0]
 refine seq <| regn0 <| tP hf (mv rfl) fun a w e' hf=>?_
 obtain⟨hN1s,e⟩:=up2 e' hN1s e
 refine tl_mk U35 I3 rfl hf (by decide) rfl (by omega) (by decide) fun a b13 w e' hb13 hs13 B13 hf=>?_
 have lo13_hN1s:=Nat.le_trans hN1s (Nat.le_of_eq hb13.symm)
 obtain⟨hN1s,e⟩:=up2 e' hN1s e
 refine tP hf (bldV [(0,_)] rfl (bPv _ _ _)) fun a w e' hf=>?_
 obtain⟨hN1s,e,B13⟩:=up3 e' hN1s e B13
 refine tB hf rfl fun a b15 w v15 hv15 e' hb15 hs15 B15 hf=>?_
 have lo15_hN1s:=Nat.le_trans hN1s (Nat.le_of_eq hb15.symm)
 have lt15_B13:=B13.lt
 obtain⟨hN1s,e,B13⟩:=up3 e' hN1s e B13
 refine tA hf rfl fun a hf=>tl_nil ?_
 cases hv15
 replace B15:Blk w b15 #[.slice (some ⟨b13,0,none⟩) m m] 158:=B15
 replace B13:Blk w b13 (upC m fun i=>if i<0 then i else 0) 3:=by
  rw[upC_fun (up':=fun _=>0) (fun i _=>if_neg (Nat.not_lt_zero _)),← upC_zero];exact B13
 repeat refine seq ?_
 refine rgN 2 hf <| st (mv rfl) <| st (mv rfl) <| en fun a w e' hf=>?_
 obtain⟨e,B13,B15⟩:=up3 e' e B13 B15
 refine tl_nil ?_
 replace hf:=hf.keep [2,3,4,16,17]
 refine blk (loopN (fun r0 a w=>∃(k:Nat) ,r0=m - k∧k≤m∧Fr 29 a w [(4,E (ptr b15)),(16,E (I (m:Nat))),(17,E (I k))]∧Ext W w∧Blk w b13 (upC m fun i=>if i<k then i else 0) 3∧Blk w b15 #[.slice (some ⟨b13,0,none⟩) m m] 158) m ⟨0,rfl,by omega,hf,e,⟨B13,B15⟩⟩ ?_)
 rintro r0 a w ⟨k,rfl,hk,hf,e,B13,B15⟩
 refine seq <| rgN 1 hf <| st (lss rfl rfl) <| en fun a w e' hf=>?_
 obtain⟨e,B13,B15⟩:=up3 e' e B13 B15
 refine tl_nil <| seq <| ifc hf rfl (fun hc=>wskip ?_) (fun hc=>wexit ?_)
 rotate_left
 rotate_left
 ·have hlt:k<m:=by have:=of_decide_eq_true hc;(try dsimp only at this);omega
  replace hf:=hf.kp [2,3,4,16,17]
  refine seq <| blk <| seq <| rgN 1 hf <| st (mv rfl) <| en fun a w e' hf=>?_
  obtain⟨e,B13,B15⟩:=up3 e' e B13 B15
  refine tA hf rfl fun a hf=>tl_nil <| rgN 7 hf <| st (mv rfl) <| st (nilE rfl) <| st (fA U158 rfl T35 rfl) <| st (ld1 (v:=.slice (some ⟨b13,0,none⟩) m m) T35 rfl B15 rfl) <| st (mv rfl) <| st (mv rfl) <| st ((idxS U35 S3 rfl rfl (by omega)).eq (atZ)) <| en fun a w e' hf=>?_
  obtain⟨e,B13,B15⟩:=up3 e' e B13 B15
  refine tl_st1 T3 hf rfl rfl rfl B13 (by rw[upC_size];exact hlt) fun w hg hsz B13 hf=>?_
  obtain⟨e,B15⟩:=gr2 hg e B15
  refine tl_nil ?_
  rw[upC_set,upC_fun (up':=fun i=>if i<k+1 then i else 0) (fun i _=>by
   rw[setU]
   by_cases h1:i=k
   ·rw[if_pos h1,if_pos (by omega),h1]
   ·rw[if_neg h1]
    by_cases h2:i<k
    ·rw[if_pos h2,if_pos (by omega)]
    ·rw[if_neg h2,if_neg (by omega)])] at B13
  refine rgN 1 hf <| st ((add rfl rfl (by omega)).eq (congrArg (Value.int .i64) (show (k:Int)+1=((k+1:Nat):Int) from rfl))) <| en fun a w e' hf=>?_
  obtain⟨e,B13,B15⟩:=up3 e' e B13 B15
  refine tP hf (mv rfl) fun a w e' hf=>?_
  obtain⟨e,B13,B15⟩:=up3 e' e B13 B15
  refine tl_nil ?_
  replace hf:=hf.keep [2,3,4,16,17]
  refine⟨_,?_,k+1,rfl,by omega,hf,e,?_⟩
  ·omega
  exact⟨B13,B15⟩
 ·obtain rfl:k=m:=by have:=of_decide_eq_false hc;(try dsimp only at this);omega
  rw[upC_fun (up:=fun i=>if i<k then i else 0) (up':=id) (fun i hi=>if_pos hi)] at B13
  replace hf:=hf.keep [4]
  refine seq <| rgN 1 hf <| st (mv rfl) <| en fun a w e' hf=>?_
  obtain⟨e,B13,B15⟩:=up3 e' e B13 B15
  refine tA hf rfl fun a hf=>tA hf rfl fun a hf=>tl_nil <| wret <| ret2 rfl hf rfl rfl ?_
  rintro _ _ rfl rfl
  exact⟨b15,b13,rfl,e,by omega,by omega,id,⟨B15,B13⟩,fun x=>Nat.le_refl x,fun x=>rt_fix rfl⟩
theorem pthere_spec {bp bu n:Nat}{up:Nat→Nat}(a:Nat)(W:World)(h:PtB W bp bu n up)(ha:a<n)(hn:n≤4096):Calls Tryz.prog 122 #[ptr bp,I a] W (Post (E (B true)) W):=by
 refine eN [ptr bp,I a] [E (ptr bp),E (I a)] Tryz.func122 Tryz.ntmps122 ?_ fun a hf=>?_
 rotate_left
 rotate_right
 ·exact arg2 rfl rfl
 have e:=Ext.rfl' W
 have hB:=h.p
 refine seq <| regn0 <| tA hf rfl fun a hf=>tl_nil <| seq <| rgN 15 hf <| st (mv rfl) <| st (neqPE U119 rfl) <| st (mv rfl) <| sy rfl rfl (mv rfl) <| sy rfl rfl ((geq rfl rfl).eq (congrArg Value.bool (decide_eq_true (by omega)))) <| st (pkT rfl rfl) <| st (mv rfl) <| sy rfl rfl (mv rfl) <| sy rfl rfl (mv rfl) <| sy rfl rfl (nilE rfl) <| sy rfl rfl (fA U158 rfl T35 rfl) <| sy rfl rfl (ld1 (v:=.slice (some ⟨bu,0,none⟩) n n) T35 rfl hB rfl) <| sy rfl rfl (lenE U35 rfl) <| sy rfl rfl ((lss rfl rfl).eq (congrArg Value.bool (decide_eq_true (by omega)))) <| st (pkT rfl rfl) <| en fun a w e' hf=>?_
 obtain⟨e,hB⟩:=up2 e' e hB
 refine tA hf rfl fun a hf=>tl_nil <| wret <| ret1 rfl hf rfl ?_
 rintro _ rfl
 exact⟨_,rfl,e,rfl⟩
end Go.Mono
