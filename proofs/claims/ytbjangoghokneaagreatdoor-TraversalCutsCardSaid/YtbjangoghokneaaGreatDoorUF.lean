/-
  Walks of functions and plain facts.
  No condition.
-/
import Derived.Test.YtbjangoghokneaaGreatDoorUD
import Derived.Test.YtbjangoghokneaaGreatDoorUB
import Derived.Test.YtbjangoghokneaaGreatDoorUE
import Derived.Test.YtbjangoghokneaaGreatDoorUC
import Derived.Test.YtbjangoghokneaaGreatDoorUA
set_option linter.unusedVariables false
set_option linter.unusedSimpArgs false
namespace Go.Mono
open Go Go.Proofs Go.RowKit Go.Gr

theorem putP_new {α β:Type}[DecidableEq α]{l:List (α×β)}{x:α}{c:β}(hx:∀c,(x,c) ∉ l):(putP l x c).Perm (l++[(x,c)]):=by
 have hf:l.filter (fun p => !decide (p.1=x))=l:=by
  rw[List.filter_eq_self]
  intro p hp
  have:p.1≠x:=fun e=>hx p.2 (by rw[← e];exact hp)
  simp[this]
 rw[putP,hf]
 exact List.perm_append_comm (l₁:=[(x,c)])
theorem RgR.okn {P:Program}{α β:Type}[DecidableEq α]{V:KV P α β}{w:World}{b r n:Nat}{old rest:List (α×β)}(h:RgR V w b r n old rest):(∀p∈old++rest,V.ok p.1∧V.okv p.2)∧(old++rest).Pairwise fun p q=>p.1≠q.1:=by
 obtain⟨es,left,cnt,h1,h2,h3,h4,h5⟩:=h
 exact⟨h3,h4⟩
theorem not_before {α β:Type}{old rest:List (α×β)}(h:(old++rest).Pairwise fun p q=>p.1≠q.1){x:α}{c:β}(hm:(x,c)∈rest):∀c',(x,c') ∉ old:=fun c' hc'=>(List.pairwise_append.1 h).2.2 _ hc' _ hm rfl
theorem len_rest {α β:Type}{old rest l:List (α×β)}(hp:(old++rest).Perm l){x:α×β}(hm:x∈rest):old.length+1≤l.length:=by
 have h1:=hp.length_eq;have h2:0<rest.length:=List.length_pos_of_mem hm
 rw[List.length_append] at h1;omega
theorem GrR.gr {w w':World}{bg bv be n b:Nat}{g:GT}(h:GrR w bg bv be n g)(hg:w.grownBy w' (some b))(h1:bg≠b)(h2:bv≠b)(h3:be≠b):GrR w' bg bv be n g:=
 ⟨h.blk.gr hg h1,h.vs.gr hg (fun h=>h2 (by cases h;rfl)),h.es.gr hg (fun h=>h3 (by cases h;rfl)),h.ne⟩
theorem rest_less {α β:Type}[DecidableEq α]{rest:List (α×β)}{x:α}{c:β}(hm:(x,c)∈rest):(rest.filter fun p => !decide (p.1=x)).length<rest.length:=by
 rw[← List.countP_eq_length_filter]
 refine Nat.lt_of_le_of_ne List.countP_le_length fun h=>?_
 have:=List.countP_eq_length.1 h _ hm
 simp at this

theorem lkS_put (l:List (Int×BS))(x:Int)(c:BS)(i:Int):lkS (putP l x c) i=if i=x then c else lkS l i:=by
 rw[lkS,putP,List.find?_cons]
 by_cases h:x=i
 ·subst h;simp
 ·have h1:decide ((x,c).1=i)=false:=by simp[h]
  rw[h1,if_neg (Ne.symm h),lkS]
  congr 2
  induction l with
  | nil=>rfl
  | cons p l ih=>
   rw[List.filter_cons]
   by_cases hp:p.1=x
   ·have h2:decide (p.1=i)=false:=by rw[hp];simp[h]
    rw[if_neg (by simp[hp]),List.find?_cons,h2];exact ih
   ·rw[if_pos (by simp[hp]),List.find?_cons,List.find?_cons]
    cases decide (p.1=i) <;> simp[ih]
theorem lk_wo (l:List (Int×BS)){u v:Nat}(huv:u≠v):lkS (putP (putP l (u:Int) (del (lkS l (u:Int)) (v:Int))) (v:Int) (del (lkS l (v:Int)) (u:Int)))=wo (lkS l) u v:=by
 funext i
 rw[lkS_put,lkS_put,wo]
 by_cases h1:i=(u:Int)
 ·rw[if_neg (by omega),if_pos h1,if_pos h1,h1]
 ·by_cases h2:i=(v:Int)
  ·rw[if_pos h2,if_neg h1,if_pos h2,h2]
  ·rw[if_neg h2,if_neg h1,if_neg h1,if_neg h2]
def WoA (nb:Int→BS)(S:BS)(N:Nat):VA:=⟨fun v w=>∃l,lkS l=nb∧(AdjA l S N).p v w,fun v w w' e ⟨l,h1,h2⟩=>⟨l,h1,(AdjA l S N).st v w w' e h2⟩⟩
theorem without07_spec {G:Nat→Prop}{N0:Nat}(l:List (Int×BS))(S0:BS)(u v:Nat)(mq:Value)(W:World)(hT:Tab W)(h:(Dv (mpE sKV N0) G l).p mq W)(hN:N0≤100000)(hu:u<1024)(hv:v<1024)(huv:u≠v)(hmu:((u:Int),lkS l (u:Int))∈l) :
  Calls Tryz.prog 51 #[.agg (adC S0 mq),I (u:Nat),I (v:Nat)] W (Post (WoA (wo (lkS l) u v) S0 (N0+2)) W):=by
 obtain⟨cs,⟨b0,n0,rfl,hG0,hn0,HM0⟩,hmq⟩:=(Dv.toB (Dv.weak h fun b _ hb=>hb.elim):(Dv (mpE sKV N0) (GB W G0) l).p mq W)
 replace hmq:mq=.map (some b0):=hmq
 subst hmq
 have hb0:b0<W.heap.size:=Nat.lt_of_not_le fun h=>hG0 (.inr h)
 have hll:l.length≤N0:=Nat.le_trans HM0.size_le hn0
 have hwu:(Lit.int .i64 (u:Int)).wf=true:=wf64 (by omega) (by omega)
 have hwv:(Lit.int .i64 (v:Int)).wf=true:=wf64 (by omega) (by omega)
 have hwo:=lk_wo l huv
 obtain⟨au,hau⟩:∃au,au=del (lkS l (u:Int)) (v:Int):=⟨_,rfl⟩
 obtain⟨av,hav⟩:∃av,av=del (lkS l (v:Int)) (u:Int):=⟨_,rfl⟩
 rw[← hau,← hav] at hwo
 have hT0:=hT.lt
 refine eN [.agg (adC S0 (.map (some b0))),I (u:Nat),I (v:Nat)] [E (.agg (adC S0 (.map (some b0)))),E (I (u:Nat)),E (I (v:Nat))] Tryz.func51 Tryz.ntmps51 ?_ fun a hf=>?_
 rotate_left
 dsimp only[params,Nat.reduceAdd] at hf
 rotate_right
 ·exact arg3 rfl rfl rfl
 have e:=Ext.rfl' W
 refine seq <| regn0 <| tB hf rfl fun a b3 w v3 hv3 e' hb3 hs3 B3 hf=>?_
 obtain⟨hT,HM0,e⟩:=up3 e' hT HM0 e
 refine tL I79 hf fun a b6 w e' hb6 hs6 B6 hf=>?_
 obtain⟨hT,HM0,e,B3⟩:=up4 e' hT HM0 e B3
 refine tl_nil ?_
 cases hv3
 replace B3:Blk w b3 (adC S0 (.map (some b0))) 79:=B3
 have n36:b3≠b6∧W.heap.size≤b3∧W.heap.size≤b6:=by omega
 replace hf:=hf.kp [1,2,3,6]
 refine seq <| rgN 2 hf <| st (fA U79 rfl T76 rfl) <| st ((ldP T76 rfl B3 (by rw[adC_size];decide)).eq (congrArg Value.agg (adC_set S0 (.map (some b0))))) ?_
 refine en fun a w e' hf=>?_
 obtain⟨hT,HM0,e,B3,B6⟩:=up5 e' hT HM0 e B3 B6
 refine tl_mkV sKV hf (by decide) fun a bm w e' hbm hsm HM hf=>?_
 have lb3:=B3.lt
 have lb6:=B6.lt
 have hle:=e.size
 have nm:b3<bm∧b6<bm∧W.heap.size≤bm:=by omega
 replace e:=e.tr e';replace hT:=hT.ext e';replace HM0:=HM0.ext e';replace B3:=B3.ext e';replace B6:=B6.ext e'
 have hNm:bm+1≤w.heap.size:=HM.lt
 refine tP hf (bldV [(0,_),(1,_)] rfl (bAd2 S0 bm)) fun a w e' hf=>?_
 obtain⟨hT,HM0,HM,hNm,e,B3,B6⟩:=up7 e' hT HM0 HM hNm e B3 B6
 refine tL I79 hf fun a b7 w e' hb7 hs7 B7 hf=>?_
 obtain⟨hT,HM0,HM,hNm,e,B3,B6⟩:=up7 e' hT HM0 HM hNm e B3 B6
 have n7:b3≠b7∧b6≠b7∧b7≠bm∧W.heap.size≤b7∧bm<b7:=by have:=B3.lt;have:=B6.lt;omega
 refine tl_stW T79 hf rfl rfl (adC_one _ _) B7 rfl (adC_size _ _) fun w hg hsz B7 hf=>?_
 replace e:=e.gr hg (by omega);replace hT:=hT.gr hg (by omega);replace HM0:=HM0.gr hg (fun h=>by cases h;omega);replace B3:=B3.gr hg (by omega);replace B6:=B6.gr hg (by omega);replace HM:=HM.gr hg (fun h=>by cases h;omega);clear hg hNm
 refine tl_nil ?_
 replace hf:=hf.keep [1,2,3,6,7]
 repeat refine seq ?_
 refine rgN 2 hf <| st (fA U79 rfl T77 rfl) <| st (ld1 (v:=.map (some b0)) T77 rfl B3 (adC_map _ _)) <| en fun a w e' hf=>?_
 obtain⟨hT,HM0,HM,e,B3,B6,B7⟩:=up7 e' hT HM0 HM e B3 B6 B7
 replace hf:=hf.keep [1,2,6,7,15]
 have l7w:=B7.lt
 refine tl_range (V:=sKV) U77 hf (by decide) rfl HM0 fun a r w e' hr hsr HR hf=>?_
 have hr7:b7<r:=by omega
 have hrW:W.heap.size≤r:=by omega
 have hNr:r+1≤w.heap.size:=by omega
 replace e:=e.tr e';replace hT:=hT.ext e';replace B6:=B6.ext e';replace B7:=B7.ext e';replace HM:=HM.ext e'
 refine tl_nil ?_
 replace hf:=hf.keep [1,2,6,7,16]
 obtain⟨c6,hc6,hB6⟩:∃c6:Array Value,c6.size=17∧Blk w b6 c6 79:=⟨_,by rfl,B6⟩
 have B6:=hB6
 refine cut (J:=fun a w=>Fr 47 a w [(1,E (I (u:Nat))),(2,E (I (v:Nat))),(6,E (ptr b6)),(7,E (ptr b7))]∧Ext W w∧Tab w∧Blk w b6 c6 79∧Blk w b7 (adC S0 (.map (some bm))) 79∧MpR sKV w bm l.length l) ?_ (fun a w hJ=>?_)
 ·refine blk (loopN (fun r0 a w=>∃(old rest:List (Int×BS)),r0=rest.length∧Fr 47 a w [(1,E (I (u:Nat))),(2,E (I (v:Nat))),(6,E (ptr b6)),(7,E (ptr b7)),(16,E (ptr r))]∧Ext W w∧Tab w∧Blk w b6 c6 79∧Blk w b7 (adC S0 (.map (some bm))) 79∧RgR sKV w b0 r n0 old rest∧MpR sKV w bm old.length old∧r+1≤w.heap.size∧(old++rest).Perm l) l.length ⟨[],l,rfl,hf,e,hT,B6,B7,HR,HM,hNr,List.Perm.refl _⟩ ?_)
  rintro r0 a w ⟨old,rest,rfl,hf,e,hT,B6,B7,HR,HM,hNr,hp⟩
  obtain⟨hok,hpw⟩:=HR.okn
  refine seq <| regn0 <| tl_next hf (by decide) rfl HR (fun a hrest hf=>?_) (fun a w' x c hm hg HR hen hf=>?_)
  ·refine tl_exE hf (by decide) rfl rfl fun a hf=>tl_nil <| seq <| ifc hf rfl (fun h=>by cases h) (fun _=>?_)
   refine wexit ?_
   simp only[Exit.then,Exit.inBlock,↓reduceIte]
   subst hrest
   rw[List.append_nil] at hp
   replace HM:=(HM.perm hp).mono (Nat.le_of_eq hp.length_eq)
   replace hf:=hf.keep [1,2,6,7]
   exact⟨trivial,hf,e,hT,B6,B7,HM⟩
  ·have hxc:=hok (x,c) (List.mem_append_right _ hm)
   have hno:=not_before hpw hm
   have hlen:=len_rest hp hm
   have hmr:=rest_less hm
   have hp':(old++[(x,c)]++rest.filter fun p => !decide (p.1=x)).Perm l:=by
    rw[List.append_assoc];exact (List.Perm.append_left old (filter_one_perm (List.pairwise_append.1 hpw).2.1 hm).symm).trans hp
   replace e:=e.gr hg hrW;replace hT:=hT.gr hg (by omega);replace B6:=B6.gr hg (by omega);replace B7:=B7.gr hg (by omega);replace HM:=HM.gr hg (fun h=>by cases h;omega);replace hNr:=Nat.le_trans hNr hg.size;clear hg
   refine tl_exE hf (by decide) rfl rfl fun a hf=>tl_nil <| seq <| ifc hf rfl (fun _=>?_) (fun h=>by cases h)
   refine wskip <| blk <| seq <| regn0 <| tl_entry hf (by decide) rfl hen fun a hf=>?_
   replace hf:=hf.kp [1,2,6,7,16,19]
   refine tl_exE hf (by decide) rfl rfl fun a hf=>tl_exE hf (by decide) rfl rfl fun a hf=>tL I76 hf fun a b9 w e' hb9 hs9 B9 hf=>?_
   obtain⟨hT,HM,HR,hNr,e,B6,B7⟩:=up7 e' hT HM HR hNr e B6 B7
   refine tA hf rfl fun a hf=>?_
   replace HR:RgR sKV w b0 r n0 (old++[(x,c)]) (rest.filter fun p => !decide (p.1=x)):=HR
   have h9:r<b9:=by omega
   refine tl_stW T76 hf rfl rfl (wordsC_one _) B9 rfl (setC_size _) fun w hg hsz B9 hf=>?_
   replace e:=e.gr hg (by omega);replace hT:=hT.gr hg (by omega);replace B6:=B6.gr hg (by omega);replace B7:=B7.gr hg (by omega);replace HR:=HR.gr hg (fun h=>by cases h;omega) (fun h=>by cases h;omega);replace HM:=HM.gr hg (fun h=>by cases h;omega);replace hNr:=Nat.le_trans hNr hg.size;clear hg
   refine tl_nil ?_
   replace hf:=hf.kp [1,2,6,7,8,9,16]
   refine rgN 4 hf <| st (fA U79 rfl T77 rfl) <| st (ld1 (v:=.map (some bm)) T77 rfl B7 (adC_map _ _)) <| st (mv rfl) <| st ((ldW T76 rfl B9 rfl).eq ((rfl:_=setV c))) <| en fun a w e' hf=>?_
   obtain⟨hT,HM,HR,hNr,e,B6,B7,B9⟩:=up8 e' hT HM HR hNr e B6 B7 B9
   refine tl_mputV (V:=sKV) (i:=x) (c:=c) U77 hf rfl rfl rfl HM (by simp only[maxLen];omega) hxc.1 trivial fun w hg HM hf=>?_
   replace e:=e.gr hg (by omega);replace hT:=hT.gr hg (by omega);replace B6:=B6.gr hg (by omega);replace B7:=B7.gr hg (by omega);replace HR:=HR.gr hg (fun h=>by cases h;omega) (fun h=>by cases h;omega);replace hNr:=Nat.le_trans hNr hg.size;clear hg
   refine tl_nil ?_
   replace hf:=hf.keep [1,2,6,7,16]
   exact⟨_,hmr,old++[(x,c)],_,rfl,hf,e,hT,B6,B7,HR,by rw[List.length_append];exact HM.perm (putP_new hno),hNr,hp'⟩
 obtain⟨hf,e,hT,B6,B7,HM⟩:=hJ
 have hlm:l.length<maxLen:=by simp only[maxLen];omega
 have hlm1:l.length+1<maxLen:=by simp only[maxLen];omega
 have hd:=HM.dvE (N:=l.length) (Nat.le_refl _) (G:=G0) (fun h=>h)
 refine seq <| regJ 21 [0,0,0,1,1,1,0,0,0,0,0,0,0,0,0,0,0,2,0,0] (Chg fun c=>c=bm) (RelJ.one _) (fun w=>MpR sKV w bm (l.length+1) (putP l (u:Int) au)) (fun w w1 k h=>h.ext k) Mix.mix hf (by decide +kernel) (by decide +kernel) <| ja (fA U79 rfl T77 rfl) <| ja (ld1 (v:=.map (some bm)) T77 rfl B7 (adC_map _ _)) <| ja (mv rfl) <| jf (fun w1 h1=>fA U79 rfl T77 rfl) <| jf (fun w1 h1=>ld1 (v:=.map (some bm)) T77 rfl (B7.ch h1 (fun h=>by omega)) (adC_map _ _)) <| jf (fun w1 h1=>mv rfl) <| ja (fA U79 rfl T77 rfl) <| ja (ld1 (v:=.map (some bm)) T77 rfl B7 (adC_map _ _)) <| ja (mv rfl) <| ja (lkM (l:=l) (i:=(u:Int)) U77 zero_set (isE rfl hd) rfl hwu) <| ja (mv rfl) <| ja (call2 (A:=E (setV au)) (B:=E (setV (lkS l (u:Int)))) (C:=E (I (v:Nat))) En59 rfl rfl (fun v u w he h h'=>by cases h;cases h';rw[hau];exact without_spec _ _ w)) ?_
 refine ja (fA U79 rfl T77 rfl) <| ja (ld1 (v:=.map (some bm)) T77 rfl B7 (adC_map _ _)) <| ja (mv rfl) <| ja (lkM (l:=l) (i:=(v:Int)) U77 zero_set (isE rfl hd) rfl hwv) <| ja (mv rfl) <| jk (call2 (A:=E (setV av)) (B:=E (setV (lkS l (v:Int)))) (C:=E (I (u:Nat))) En59 rfl rfl (fun v u w he h h'=>by cases h;cases h';rw[hav];exact without_spec _ _ w)) ?_
 refine ja (enS (V:=sKV) (i:=(u:Int)) (c:=lkS l (u:Int)) U77 rfl rfl HM hwu hmu) <| ja (ext_ rfl rfl) <| jx (esJ (V:=sKV) (i:=(u:Int)) (c:=au) U77 rfl rfl rfl HM hwu trivial hlm) <| je <| fun a w hc HF hf=>?_
 try dsimp only[push] at hf
 replace e:=e.ch hc (fun b hb=>by omega)
 replace B6:=B6.ch hc (fun h=>by omega)
 replace B7:=B7.ch hc (fun h=>by omega)
 have HM:=HF
 refine tl_mputV (V:=sKV) (i:=(v:Int)) (c:=av) U77 hf rfl rfl rfl HM hlm1 hwv trivial fun w hg HM hf=>?_
 obtain⟨e,B6,B7⟩:=gr3 hg e B6 B7
 refine tl_nil ?_
 replace hf:=hf.kp [6,7]
 refine seq <| rgN 1 hf <| st (ldW T79 rfl B7 (adC_size _ _)) <| en fun a w e' hf=>?_
 obtain⟨HM,e,B6,B7⟩:=up4 e' HM e B6 B7
 refine tl_stW T79 hf rfl rfl (adC_one _ _) B6 hc6 (adC_size _ _) fun w hg hsz B6 hf=>?_
 replace e:=e.gr hg (by omega)
 replace HM:=HM.gr hg (fun h=>by cases h;omega)
 refine tl_nil <| wret <| retc rfl T79 hf rfl B6 (adC_size _ _) <| ⟨_,rfl,e,_,hwo,.map (some bm),rfl,MpR.dvE HM (by omega) fun h=>h⟩
def toI (e:Nat×Nat):Int×Int:=((e.1:Int),(e.2:Int))
theorem farF_hi (L:List BS)(b:Nat):farF L b≤L.length:=by
 rw[← far_fst,fstS]
 rcases fstN_cases (fun i=>has (gs L i) (b:Int)) L.length with ⟨h1,_⟩|⟨k,hk,h1,_⟩ <;> omega
def gst (nb:Int→BS)(best:Int)(e:Nat×Nat):Int:=if farF (lvB (wo nb e.1 e.2) e.1) e.2 ≠ -1∧(best=0∨farF (lvB (wo nb e.1 e.2) e.1) e.2+1<best) then farF (lvB (wo nb e.1 e.2) e.1) e.2+1 else best
theorem girF_app (nb:Int→BS)(es:List (Nat×Nat))(e:Nat×Nat):girF nb (es++[e])=gst nb (girF nb es) e:=by
 rw[girF,List.foldl_append,List.foldl_cons,List.foldl_nil,girF,gst]
theorem girth_spec {G G2:Nat→Prop}{N0:Nat}(l:List (Int×BS))(S0:BS)(es:List (Nat×Nat))(mq ev:Value)(W:World)(hT:Tab W)(h:(Dv (mpE sKV N0) G l).p mq W)(hN:N0≤100000)(hel:es.length≤100000)(h':(Dv (slE edE) G2 (es.map toI)).p ev W)
  (hes:∀e∈es,e.1<1024∧e.2<1024∧e.1≠e.2∧((e.1:Int),lkS l (e.1:Int))∈l) :
  Calls Tryz.prog 84 #[.agg (adC S0 mq),ev] W (Post (E (I (girF (lkS l) es))) W):=by
 have HV:(Dv (mpE sKV N0) G0 l).p mq W:=Dv.weak h fun b _ hb=>hb.elim
 have HE:(Dv (slE edE) G0 (es.map toI)).p ev W:=Dv.weak h' fun b _ hb=>hb.elim
 have hT0:=hT.lt
 obtain⟨nb,hnb⟩:∃nb,nb=lkS l:=⟨_,rfl⟩
 rw[← hnb]
 refine eN [.agg (adC S0 mq),ev] [E (.agg (adC S0 mq)),E ev] Tryz.func84 Tryz.ntmps84 ?_ fun a hf=>?_
 rotate_left
 rotate_right
 ·exact arg2 rfl rfl
 have e:=Ext.rfl' W
 refine seq <| regn0 <| tB hf rfl fun a b2 w v2 hv2 e' hb2 hs2 B2 hf=>?_
 obtain⟨hT,e⟩:=up2 e' hT e
 refine tA hf rfl fun a hf=>tl_nil ?_
 cases hv2
 replace B2:Blk w b2 (adC S0 mq) 79:=B2
 have n2:W.heap.size≤b2:=by omega
 refine seq <| regn0 <| tA hf rfl fun a hf=>tl_nil ?_
 replace hf:=hf.keep [1,2,5]
 obtain⟨Ls,hLs⟩:∃Ls,Ls=es.map toI:=⟨_,rfl⟩
 have hLl:Ls.length=es.length:=by rw[hLs,List.length_map]
 rw[← hLs] at HE
 repeat refine seq ?_
 refine rgN 3 hf <| st (mv rfl) <| st (lenD U31 (isE rfl (VA.st _ _ _ _ e HE))) <| st (mv rfl) <| en fun a w e' hf=>?_
 obtain⟨hT,e,B2⟩:=up3 e' hT e B2
 refine tl_nil ?_
 replace hf:=hf.keep [2,5,9,10,11]
 refine blk (loopN (fun r0 a w=>∃(j:Nat) ,r0=Ls.length - j∧j≤Ls.length∧Fr 43 a w [(2,E (ptr b2)),(5,E (I (girF nb (es.take j)))),(9,E ev),(10,E (I (Ls.length:Nat))),(11,E (I j))]∧Ext W w∧Tab w∧Blk w b2 (adC S0 mq) 79) Ls.length ⟨0,rfl,by omega,hf,e,⟨hT,B2⟩⟩ ?_)
 rintro r0 a w ⟨j,rfl,hj,hf,e,hT,B2⟩
 refine seq <| rgN 1 hf <| st (lss rfl rfl) <| en fun a w e' hf=>?_
 obtain⟨hT,e,B2⟩:=up3 e' hT e B2
 refine tl_nil <| seq <| ifc hf rfl (fun hc=>wskip ?_) (fun hc=>wexit ?_)
 rotate_left
 rotate_left
 ·have hltj:j<Ls.length:=by have:=of_decide_eq_true hc;(try dsimp only at this);omega
  replace hf:=hf.keep [2,5,9,10,11]
  refine seq <| blk ?_
  have hjp:j<es.length:=by omega
  have hy:=List.getElem?_eq_getElem hjp
  generalize es[j]=x at hy
  have hy':Ls[j]?=some (toI x):=by rw[hLs,List.getElem?_map,hy];rfl
  have hsc:girF nb (es.take (j+1))=gst nb (girF nb (es.take j)) x:=by rw[take_succ_get hy,girF_app]
  generalize girF nb (es.take j)=best at hsc hf
  obtain⟨x1,x2,x3,x4⟩:=hes x (List.mem_of_getElem? hy)
  obtain⟨u,v⟩:=x
  replace x1:u<1024:=x1
  replace x2:v<1024:=x2
  replace x3:u≠v:=x3
  replace x4:((u:Int),lkS l (u:Int))∈l:=x4
  replace hy':Ls[j]?=some ((u:Int),(v:Int)):=hy'
  rw[gst] at hsc
  obtain⟨d,hd⟩:∃d,d=farF (lvB (wo nb u v) u) v:=⟨_,rfl⟩
  rw[← hd] at hsc
  have hd1 : -1≤d:=by rw[hd];exact farF_lo _ _
  have hd2:d≤1025:=by rw[hd];have h1:=farF_hi (lvB (wo nb u v) u) v;have h2:=lvB_len (wo nb u v) u;omega
  refine seq <| regn0 <| tP hf (idxD U31 S60 (isE rfl (VA.st _ _ _ _ e HE)) rfl (by omega) (hy')) fun a w e' hf=>?_
  obtain⟨hT,e,B2⟩:=up3 e' hT e B2
  refine tP hf (ldE2 T60 (isR rfl)) fun a w e' hf=>?_
  obtain⟨hT,e,B2⟩:=up3 e' hT e B2
  refine tL I60 hf fun a b7 w e' hb7 hs7 B7 hf=>?_
  have lt7_B2:=B2.lt
  obtain⟨hT,e,B2⟩:=up3 e' hT e B2
  have n7:b2≠b7∧W.heap.size≤b7:=by have:=B2.lt;omega
  replace hf:=hf.kp [2,5,7,9,10,11,14]
  refine tl_stW T60 hf rfl rfl (one2 rfl rfl) B7 rfl rfl fun w hg hsz B7 hf=>?_
  obtain⟨e,hT,B2⟩:=gr3 hg e hT B2
  refine tl_nil ?_
  replace B7:Blk w b7 #[I (u:Nat),I (v:Nat)] 60:=B7
  replace hf:=hf.kp [2,5,7,9,10,11]
  have e5:=e
  refine seq <| rgG 12 Mix.mix hf <| st (ldW T79 rfl B2 (adC_size _ _)) <| st (idxA U60 ⟨_,T3⟩ rfl rfl (by omega)) <| st (ld1 T3 rfl B7 rfl) <| st (idxA U60 ⟨_,T3⟩ rfl rfl (by omega)) <| st (ld1 T3 rfl B7 rfl) <| st (call3 (A:=WoA (wo nb u v) S0 (N0+2)) (B:=E (.agg (adC S0 mq))) (C:=E (I (u:Nat))) (D:=E (I (v:Nat))) En51 rfl rfl rfl (fun a b c w he k1 k2 k3=>by cases k1;cases k2;cases k3;rw[hnb];exact without07_spec l S0 u v mq w (hT.ext he) (VA.st _ _ _ _ (Ext.tr e5 he) HV) hN x1 x2 x3 x4)) ?_
  refine st (idxA U60 ⟨_,T3⟩ rfl rfl (by omega)) <| st (ld1 T3 rfl B7 rfl) <| st (call2 (A:=Dv (slE setE) G0 (lvB (wo nb u v) u)) (B:=WoA (wo nb u v) S0 (N0+2)) (C:=E (I (u:Nat))) En52 rfl rfl (fun a b w he ⟨l2,k1,mq2,k2,k3⟩ k4=>by subst k2;cases k4;rw[← k1];exact (levels_spec l2 S0 mq2 u w (hT.ext he) k3 x1).mono fun en w' ⟨z,q1,q2,q3⟩=>⟨z,q1,q2,OwR.sl q3⟩)) ?_
  refine st (idxA U60 ⟨_,T3⟩ rfl rfl (by omega)) <| st (ld1 T3 rfl B7 rfl) <| st (call2 (A:=E (I d)) (B:=Dv (slE setE) G0 (lvB (wo nb u v) u)) (C:=E (I (v:Nat))) En50 rfl rfl (fun a b w he k1 k2=>by cases k2;rw[hd];exact far_spec _ v a w k1 (Nat.le_trans (lvB_len _ _) (by decide)))) ?_
  refine en fun a w e' hf=>?_
  obtain⟨hT,e,B2,B7⟩:=up4 e' hT e B2 B7
  refine tA hf rfl fun a hf=>tl_nil ?_
  replace hf:=hf.keep [2,5,8,9,10,11]
  by_cases c1:d = -1
  ·rw[if_neg (fun h=>h.1 c1)] at hsc
   refine seq <| rgN 12 hf <| st (mv rfl) <| st ((neq rfl rfl).eq (congrArg Value.bool (show (d != -1)=false by simp[c1]))) <| st (mv rfl) <| sn rfl rfl rfl <| sn rfl rfl rfl <| sn rfl rfl rfl <| su rfl rfl <| su rfl rfl <| su rfl rfl <| su rfl rfl <| sn rfl rfl rfl <| st (pkF rfl rfl) <| en fun a w e' hf=>?_
   obtain⟨hT,e,B2⟩:=up3 e' hT e B2
   refine tl_nil <| ifc hf rfl (fun h=>by cases h) (fun _=>?_)
   refine wskip ?_
   rw[← hsc] at hf
   refine rgN 1 hf <| st ((add rfl rfl (by omega)).eq (congrArg (Value.int .i64) (show (j:Int)+1=((j+1:Nat):Int) from rfl))) <| en fun a w e' hf=>?_
   obtain⟨hT,e,B2⟩:=up3 e' hT e B2
   refine tP hf (mv rfl) fun a w e' hf=>?_
   obtain⟨hT,e,B2⟩:=up3 e' hT e B2
   refine tl_nil ?_
   replace hf:=hf.keep [2,5,9,10,11]
   refine⟨_,?_,j+1,rfl,by omega,hf,e,?_⟩
   ·omega
   exact⟨hT,B2⟩
  ·have c1':(d != -1)=true:=by simp[c1]
   by_cases c2:best=0
   ·rw[if_pos ⟨c1,.inl c2⟩] at hsc
    refine seq <| rgN 12 hf <| st (mv rfl) <| st ((neq rfl rfl).eq (congrArg Value.bool (c1'))) <| st (mv rfl) <| sy rfl rfl (mv rfl) <| sy rfl rfl ((eql rfl rfl).eq (congrArg Value.bool (show (best==0)=true by simp[c2]))) <| sy rfl rfl (mv rfl) <| sn rfl rfl rfl <| sn rfl rfl rfl <| sn rfl rfl rfl <| sn rfl rfl rfl <| sy rfl rfl (pkT rfl rfl) <| st (pkT rfl rfl) <| en fun a w e' hf=>?_
    obtain⟨hT,e,B2⟩:=up3 e' hT e B2
    refine tl_nil <| ifc hf rfl (fun _=>?_) (fun h=>by cases h)
    refine rgN 2 hf <| st (mv rfl) <| st (add rfl rfl (by omega)) <| en fun a w e' hf=>?_
    obtain⟨hT,e,B2⟩:=up3 e' hT e B2
    refine tA hf rfl fun a hf=>tl_nil ?_
    rw[← hsc] at hf
    refine rgN 1 hf <| st ((add rfl rfl (by omega)).eq (congrArg (Value.int .i64) (show (j:Int)+1=((j+1:Nat):Int) from rfl))) <| en fun a w e' hf=>?_
    obtain⟨hT,e,B2⟩:=up3 e' hT e B2
    refine tP hf (mv rfl) fun a w e' hf=>?_
    obtain⟨hT,e,B2⟩:=up3 e' hT e B2
    refine tl_nil ?_
    replace hf:=hf.keep [2,5,9,10,11]
    refine⟨_,?_,j+1,rfl,by omega,hf,e,?_⟩
    ·omega
    exact⟨hT,B2⟩
   ·have c2':(best==0)=false:=by simp[c2]
    by_cases c3:d+1<best
    ·rw[if_pos ⟨c1,.inr c3⟩] at hsc
     refine seq <| rgN 12 hf <| st (mv rfl) <| st ((neq rfl rfl).eq (congrArg Value.bool (c1'))) <| st (mv rfl) <| sy rfl rfl (mv rfl) <| sy rfl rfl ((eql rfl rfl).eq (congrArg Value.bool (c2'))) <| sy rfl rfl (mv rfl) <| sy rfl rfl (mv rfl) <| sy rfl rfl (add rfl rfl (by omega)) <| sy rfl rfl (mv rfl) <| sy rfl rfl ((lss rfl rfl).eq (congrArg Value.bool (decide_eq_true c3))) <| sy rfl rfl (pkF rfl rfl) <| st (pkT rfl rfl) <| en fun a w e' hf=>?_
     obtain⟨hT,e,B2⟩:=up3 e' hT e B2
     refine tl_nil <| ifc hf rfl (fun _=>?_) (fun h=>by cases h)
     refine rgN 2 hf <| st (mv rfl) <| st (add rfl rfl (by omega)) <| en fun a w e' hf=>?_
     obtain⟨hT,e,B2⟩:=up3 e' hT e B2
     refine tA hf rfl fun a hf=>tl_nil ?_
     rw[← hsc] at hf
     refine rgN 1 hf <| st ((add rfl rfl (by omega)).eq (congrArg (Value.int .i64) (show (j:Int)+1=((j+1:Nat):Int) from rfl))) <| en fun a w e' hf=>?_
     obtain⟨hT,e,B2⟩:=up3 e' hT e B2
     refine tP hf (mv rfl) fun a w e' hf=>?_
     obtain⟨hT,e,B2⟩:=up3 e' hT e B2
     refine tl_nil ?_
     replace hf:=hf.keep [2,5,9,10,11]
     refine⟨_,?_,j+1,rfl,by omega,hf,e,?_⟩
     ·omega
     exact⟨hT,B2⟩
    ·rw[if_neg (fun h=>h.2.elim c2 c3)] at hsc
     refine seq <| rgN 12 hf <| st (mv rfl) <| st ((neq rfl rfl).eq (congrArg Value.bool (c1'))) <| st (mv rfl) <| sy rfl rfl (mv rfl) <| sy rfl rfl ((eql rfl rfl).eq (congrArg Value.bool (c2'))) <| sy rfl rfl (mv rfl) <| sy rfl rfl (mv rfl) <| sy rfl rfl (add rfl rfl (by omega)) <| sy rfl rfl (mv rfl) <| sy rfl rfl ((lss rfl rfl).eq (congrArg Value.bool (decide_eq_false c3))) <| sy rfl rfl (pkF rfl rfl) <| st (pkT rfl rfl) <| en fun a w e' hf=>?_
     obtain⟨hT,e,B2⟩:=up3 e' hT e B2
     refine tl_nil <| ifc hf rfl (fun h=>by cases h) (fun _=>?_)
     refine wskip ?_
     rw[← hsc] at hf
     refine rgN 1 hf <| st ((add rfl rfl (by omega)).eq (congrArg (Value.int .i64) (show (j:Int)+1=((j+1:Nat):Int) from rfl))) <| en fun a w e' hf=>?_
     obtain⟨hT,e,B2⟩:=up3 e' hT e B2
     refine tP hf (mv rfl) fun a w e' hf=>?_
     obtain⟨hT,e,B2⟩:=up3 e' hT e B2
     refine tl_nil ?_
     replace hf:=hf.keep [2,5,9,10,11]
     refine⟨_,?_,j+1,rfl,by omega,hf,e,?_⟩
     ·omega
     exact⟨hT,B2⟩
 ·obtain rfl:j=Ls.length:=by have:=of_decide_eq_false hc;(try dsimp only at this);omega
  rw[hLl,List.take_length] at hf
  replace hf:=hf.keep [5]
  refine seq <| rgN 1 hf <| st (mv rfl) <| en fun a w e' hf=>?_
  obtain⟨hT,e,B2⟩:=up3 e' hT e B2
  refine tA hf rfl fun a hf=>tl_nil <| wret <| ret1 rfl hf rfl ?_
  rintro _ rfl
  exact⟨_,rfl,e,rfl⟩
theorem neqNil {P:Program}{w0:World}{L:Env}{dst:Option Tmp}{ty:TypeId}{pos:String}{aft:Array Edge}{g:Option (Nat×Bool)}{x:Operand}{t yt te:TypeId}{ao:Option Addr}{n c:Nat}(ht:P.underlying t=some (.slice te))(hx:opd L x=some (E (.slice ao n c))) :
  OpC P w0 L ⟨dst,.binOp .neq t x (.const (.slice none 0 0)) yt,ty,pos,aft,g⟩ (E (.bool !ao.isNone)):=
 opc_neq hx rfl (fun _=>rfl) rfl fun w _=>run_equal_slice_nil w t te ao n c ht
theorem slSome {α:Type}{e:Enc α}{G:Nat→Prop}{xs:List α}{v:Value}{w:World}(h:(Dv (slE e) G xs).p v w)(hx:xs≠[]):∃ad n c,v=.slice (some ad) n c:=by
 rcases Dv.sl.1 h with ⟨_,h0⟩|⟨ad,cap,cs,h1,_⟩
 ·exact absurd h0 hx
 ·exact⟨ad,_,cap,h1⟩
def ixI (l:List Int)(x:Int):Int:=fstN (fun i=>x==gi l i) l.length
theorem ixI_mem (l:List Int)(x:Int):decide (0≤ixI l x)=decide (x∈l):=by
 rw[ixI]
 rcases fstN_cases (fun i=>x==gi l i) l.length with ⟨h1,h2⟩|⟨k,hk,h1,h2,_⟩
 ·rw[h1,decide_eq_false (by omega),decide_eq_false]
  intro hm
  obtain⟨i,hi,he⟩:=List.getElem_of_mem hm
  have:=h2 i hi
  have hg:=gi_get hi
  rw[List.getElem?_eq_getElem hi,he] at hg
  rw[← Option.some.inj hg] at this
  simp at this
 ·rw[h1,decide_eq_true (by omega),decide_eq_true]
  have h3:x=gi l k:=by simpa using h2
  rw[h3]
  exact List.mem_of_getElem? (gi_get hk)
theorem sindex_spec {G:Nat→Prop}(l:List Int)(x:Int)(v:Value)(W:World)(h:(Dv (slE intE) G l).p v W)(hl:l.length≤100000):Calls Tryz.prog 147 #[v,I x] W (Post (E (I (ixI l x))) W):=by
 refine eN [v,I x] [Dv (slE intE) G l,E (I x)] Tryz.func147 Tryz.ntmps147 ?_ fun a hf=>?_
 rotate_left
 rotate_right
 ·exact arg2 h rfl
 have e:=Ext.rfl' W
 refine seq <| regn0 <| tA hf rfl fun a hf=>tl_nil ?_
 repeat refine seq ?_
 refine rgN 3 hf <| st (mv rfl) <| st (lenD U35 (isR rfl)) <| st (mv rfl) <| en fun a w e' hf=>?_
 replace e:=e.tr e'
 refine tl_nil ?_
 replace hf:=hf.keep [0,1,7,8]
 refine blk (loopN (fun r0 a w=>∃(k:Nat) ,r0=l.length - k∧k≤l.length∧Fr 19 a w [(0,Dv (slE intE) G l),(1,E (I x)),(7,E (I (l.length:Nat))),(8,E (I k))]∧Ext W w∧∀i,i<k→(x==gi l i)=false) l.length ⟨0,rfl,by omega,hf,e,(fun i hi=>by omega)⟩ ?_)
 rintro r0 a w ⟨k,rfl,hk,hf,e,Ho⟩
 refine seq <| rgN 1 hf <| st (lss rfl rfl) <| en fun a w e' hf=>?_
 replace e:=e.tr e'
 refine tl_nil <| seq <| ifc hf rfl (fun hc=>wskip ?_) (fun hc=>wexit ?_)
 rotate_left
 rotate_left
 ·have hlt:k<l.length:=by have:=of_decide_eq_true hc;(try dsimp only at this);omega
  replace hf:=hf.keep [0,1,7,8]
  refine seq <| blk <| seq <| rgN 1 hf <| st (mv rfl) <| en fun a w e' hf=>?_
  replace e:=e.tr e'
  refine tA hf rfl fun a hf=>tl_nil <| seq <| rgN 6 hf <| st (mv rfl) <| st (mv rfl) <| st (mv rfl) <| st (idxD U35 S3 (isR rfl) rfl (by omega) (gi_get hlt)) <| st (ldI T3 (isR rfl)) <| st (eql rfl rfl) <| en fun a w e' hf=>?_
  replace e:=e.tr e'
  refine tl_nil <| ifc hf rfl (fun hb=>?_) (fun hb=>?_)
  ·refine seq <| rgN 1 hf <| st (mv rfl) <| en fun a w e' hf=>?_
   replace e:=e.tr e'
   refine tA hf rfl fun a hf=>tl_nil <| wret <| ret1 rfl hf rfl ?_
   rintro _ rfl
   exact⟨_,rfl,e,congrArg I (fstN_hit hlt Ho hb).symm⟩
  ·refine wskip <| rgN 1 hf <| st ((add rfl rfl (by omega)).eq (congrArg (Value.int .i64) (show (k:Int)+1=((k+1:Nat):Int) from rfl))) <| en fun a w e' hf=>?_
   replace e:=e.tr e'
   refine tP hf (mv rfl) fun a w e' hf=>?_
   replace e:=e.tr e'
   refine tl_nil ?_
   replace hf:=hf.keep [0,1,7,8]
   refine⟨_,?_,k+1,rfl,by omega,hf,e,?_⟩
   ·omega
   intro i hi
   by_cases hk:i=k
   ·subst hk;exact hb
   ·exact Ho i (by omega)
 ·obtain rfl:k=l.length:=by have:=of_decide_eq_false hc;(try dsimp only at this);omega
  refine seq <| regn0 <| tA hf rfl fun a hf=>tl_nil <| wret <| ret1 rfl hf rfl ?_
  rintro _ rfl
  exact⟨_,rfl,e,congrArg I (fstN_none Ho).symm⟩
theorem scontains_spec {G:Nat→Prop}(l:List Int)(x:Int)(v:Value)(W:World)(h:(Dv (slE intE) G l).p v W)(hl:l.length≤100000):Calls Tryz.prog 121 #[v,I x] W (Post (E (B (decide (x∈l)))) W):=by
 have hv:(Dv (slE intE) G0 l).p v W:=Dv.weak h fun b _ hb=>hb.elim
 refine eN [v,I x] [E v,E (I x)] Tryz.func121 Tryz.ntmps121 ?_ fun a hf=>?_
 rotate_left
 rotate_right
 ·exact arg2 rfl rfl
 have e:=Ext.rfl' W
 refine seq <| regn0 <| tA hf rfl fun a hf=>tl_nil <| seq <| rgN 4 hf <| st (mv rfl) <| st (mv rfl) <| st (call2 (A:=E (I (ixI l x))) (B:=E v) (C:=E (I x)) En147 rfl rfl (fun u u' w he k1 k2=>by cases k1;cases k2;exact sindex_spec l x v w (VA.st _ _ _ _ he hv) hl)) ?_
 refine st ((geq rfl rfl).eq (congrArg Value.bool (ixI_mem l x))) <| en fun a w e' hf=>?_
 replace e:=e.tr e'
 refine tA hf rfl fun a hf=>tl_nil <| wret <| ret1 rfl hf rfl ?_
 rintro _ rfl
 exact⟨_,rfl,e,rfl⟩
theorem sclone_spec {G:Nat→Prop}(l:List Int)(v:Value)(W:World)(h:(Dv (slE intE) G l).p v W)(hl:l.length≤100000)(hne:l≠[]):Calls Tryz.prog 64 #[v] W (Post (OwA intE 3 W.heap.size G0 l) W):=by
 have HL:(Dv (slE intE) (GB W G0) l).p v W:=Dv.toB (Dv.weak h fun b _ hb=>hb.elim)
 obtain⟨ad,n,c,rfl⟩:=slSome h hne
 have hG:∀b,G0 b→b<W.heap.size:=fun b hb=>hb.elim
 refine eN [.slice (some ad) n c] [E (.slice (some ad) n c)] Tryz.func64 Tryz.ntmps64 ?_ fun a hf=>?_
 rotate_left
 dsimp only[params,Nat.reduceAdd] at hf
 rotate_right
 ·exact arg1 rfl
 have e:=Ext.rfl' W
 refine seq <| regn0 <| tA hf rfl fun a hf=>tl_nil ?_
 repeat refine seq ?_
 refine rgN 2 hf <| st (mv rfl) <| st (eqlNil U35 rfl) <| en fun a w e' hf=>?_
 obtain⟨HL,e⟩:=up2 e' HL e
 refine tl_nil <| ifc hf rfl (fun h=>by cases h) (fun _=>?_)
 refine wskip ?_
 replace hf:=hf.kp [0]
 refine seq <| regn0 <| tl_bsl0 W.heap.size G0 intE U35 S3 hf (by decide) e.size hG fun a v w e' hov Ho hf=>?_
 obtain⟨HL,e⟩:=up2 e' HL e
 refine tP hf (mv rfl) fun a w e' hf=>?_
 obtain⟨HL,e,Ho⟩:=up3 e' HL e Ho
 haveI hin:∀G0,InR (GB W G0) _:=OwR.inGB (W:=W) Ho (Nat.le_refl _)
 refine tl_app U35 I3 rfl rfl hf (by decide) rfl Ho (isE rfl (Dv.weak HL fun b hb hh=>hh.elim (fun h=>h.elim) fun h=>.inr (Ho.lt h).1)) (by simp only[List.length_nil];omega) (by simp only[List.length_nil,maxLen];omega) fun a v w hg hat Hn hf=>?_
 replace e:=e.gro hg (Ho.row (W:=W) (Nat.le_refl _))
 replace HL:=Dv.gro HL hg (fun b hb=>.inr (Ho.lt hb).1)
 replace Ho:=Hn;clear Hn hg hat hin
 refine tA hf rfl fun a hf=>tl_nil <| wret <| ret1 rfl hf rfl ?_
 rintro _ rfl
 exact⟨_,rfl,e,Ho⟩
def CyA (G:Nat→Prop)(o:Option (List Nat)):VA:=⟨fun v w=>match o with
 | none=>v=.slice none 0 0
 | some out=>out≠[]∧(Dv (slE intE) G (natE out)).p v w,fun v w w' e h=>by
  cases o with
  | none=>exact h
  | some out=>exact⟨h.1,VA.st _ _ _ _ e h.2⟩⟩
def cyF (bn bl ba bv be:Nat):Value:=.func (.func 120) #[] #[ptr bn,ptr bl,ptr ba,ptr bv,ptr be]
structure CyE (G:Nat→Prop)(n a:Nat)(l:List (Int×BS))(S0:BS)(mq lv:Value)(N0 bn bl ba bv be:Nat)(w:World):Prop where
 t:Tab w
 hv:(Dv (mpE sKV N0) G l).p mq w
 hl:(Dv (slE setE) G (lvB (lkS l) a)).p lv w
 pn:Blk w bn #[I (n:Nat)] 3
 pl:Blk w bl (adC S0 mq) 79
 pa:Blk w ba #[I (a:Nat)] 3
 pv:Blk w bv #[lv] 83
 pe:Blk w be #[cyF bn bl ba bv be] 100
section
variable {G:Nat→Prop}{n a:Nat}{l:List (Int×BS)}{S0:BS}{mq lv:Value}{N0 bn bl ba bv be:Nat}{w w':World}
theorem CyE.ext (h:CyE G n a l S0 mq lv N0 bn bl ba bv be w)(e:Ext w w'):CyE G n a l S0 mq lv N0 bn bl ba bv be w':=
 ⟨h.t.ext e,Dv.ex h.hv e,Dv.ex h.hl e,h.pn.ext e,h.pl.ext e,h.pa.ext e,h.pv.ext e,h.pe.ext e⟩
instance:Ug w w' (CyE G n a l S0 mq lv N0 bn bl ba bv be w) (CyE G n a l S0 mq lv N0 bn bl ba bv be w'):=⟨fun e h=>h.ext e⟩
theorem CyE.ch {S:Nat→Prop}(h:CyE G n a l S0 mq lv N0 bn bl ba bv be w)(c:Chg S w w')(hS:∀b,S b→G b)(h0:¬S 0)(h1:¬S bn)(h2:¬S bl)(h3:¬S ba)(h4:¬S bv)(h5:¬S be):CyE G n a l S0 mq lv N0 bn bl ba bv be w':=
 ⟨h.t.ch c h0,Dv.ch h.hv c hS,Dv.ch h.hl c hS,h.pn.ch c h1,h.pl.ch c h2,h.pa.ch c h3,h.pv.ch c h4,h.pe.ch c h5⟩
theorem CyE.weak {G':Nat→Prop}(h:CyE G n a l S0 mq lv N0 bn bl ba bv be w)(hG:∀b,b<w.heap.size→G' b→G b):CyE G' n a l S0 mq lv N0 bn bl ba bv be w:=
 ⟨h.t,Dv.weak h.hv hG,Dv.weak h.hl hG,h.pn,h.pl,h.pa,h.pv,h.pe⟩
theorem CyE.low (h:CyE G n a l S0 mq lv N0 bn bl ba bv be w):bn<w.heap.size∧bl<w.heap.size∧ba<w.heap.size∧bv<w.heap.size∧be<w.heap.size∧0<w.heap.size:=⟨h.pn.lt,h.pl.lt,h.pa.lt,h.pv.lt,h.pe.lt,h.t.lt⟩
end
def exS (nb:Int→BS)(a n f:Nat)(way:List Nat)(next:Nat):Option (List Nat):=if way.contains next=true∨(n:Int) - way.length<farF (lvB nb a) next then none else extF nb a n f (way++[next])
theorem extF_go {nb:Int→BS}{a n f:Nat}{way:List Nat}(h:way.length≠n):extF nb a n (f+1) way=(elems (nb (way.getLastD 0:Nat))).findSome? (exS nb a n f way):=by
 rw[extF,if_neg h];rfl
theorem extF_at {nb:Int→BS}{a n f:Nat}{way:List Nat}(h:way.length=n):extF nb a n (f+1) way=if (nb (way.getLastD 0:Nat)).getLsbD a=true then some way else none:=by
 rw[extF,if_pos h]
theorem natE_last {way:List Nat}(h:way≠[]):(natE way)[way.length - 1]?=some ((way.getLastD 0:Nat):Int):=by
 have h1:way[way.length - 1]?=some (way.getLastD 0):=by
  rw[← List.getLast?_eq_getElem?,List.getLastD_eq_getLast?]
  cases h2:way.getLast? with
  | none=>rw[List.getLast?_eq_none_iff] at h2;exact absurd h2 h
  | some x=>rfl
 rw[natE,List.getElem?_map,h1];rfl
theorem natE_len (l:List Nat):(natE l).length=l.length:=by rw[natE,List.length_map]
theorem natE_mem {x:Nat}{l:List Nat}:((x:Int)∈natE l)↔x∈l:=by
 rw[natE,List.mem_map]
 constructor
 ·rintro⟨y,hy,h⟩
  have:y=x:=by omega
  rwa [← this]
 ·intro h;exact⟨x,h,rfl⟩
theorem natE_app (l:List Nat)(x:Nat):natE (l++[x])=natE l++[(x:Int)]:=by rw[natE,natE,List.map_append];rfl
structure CyJ (W:World)(G:Nat→Prop)(n a:Nat)(l:List (Int×BS))(S0:BS)(mq lv v:Value)(N0 bn bl ba bv be b6 b7:Nat)(way:List Nat)(r:Value)(w:World):Prop where
 e:Ext W w
 c:CyE (GB W G0) n a l S0 mq lv N0 bn bl ba bv be w
 hw:(Dv (slE intE) (GB W G) (natE way)).p v w
 p6:Blk w b6 #[v] 35
 p7:Blk w b7 #[r] 35
theorem CyJ.kp {W:World}{G:Nat→Prop}{n a:Nat}{l:List (Int×BS)}{S0:BS}{mq lv v:Value}{N0 bn bl ba bv be b6 b7:Nat}{way:List Nat}{r:Value}{B:Nat}{w w':World}(h:CyJ W G n a l S0 mq lv v N0 bn bl ba bv be b6 b7 way r w)(k:Kp B w w')(hW:W.heap.size≤B)(h0:0<B)(hl:bn<B∧bl<B∧ba<B∧bv<B∧be<B)(l6:b6<B)(l7:b7<B) :
  CyJ W G n a l S0 mq lv v N0 bn bl ba bv be b6 b7 way r w':=
 have no:∀{b},b<B→¬Hole B b:=fun h hh=>by have:=hh.1;omega
 have hH:∀b,Hole B b→GB W G0 b:=fun b hb=>.inr (by have:=hb.1;omega)
 ⟨h.e.kp k hW,h.c.ch k.chg hH (no h0) (no hl.1) (no hl.2.1) (no hl.2.2.1) (no hl.2.2.2.1) (no hl.2.2.2.2),Dv.ch h.hw k.chg (fun b hb=>.inr (by have:=hb.1;omega)),h.p6.kp k (no l6),h.p7.kp k (no l7)⟩
theorem has_far {nb:Int→BS}{a:Nat}(b:Nat):farF (lvB nb a) b≤1025:=by have h1:=farF_hi (lvB nb a) b;have h2:=lvB_len nb a;omega
theorem cyc1_spec {n vo:Nat}{l:List (Int×BS)}{S0:BS}{mq lv:Value}{N0 bn bl ba bv be:Nat}(hn:n≤1500):∀(f:Nat) (way:List Nat) (v:Value) (G:Nat→Prop) (W:World),(∀b,G b→b<W.heap.size)→CyE G0 n vo l S0 mq lv N0 bn bl ba bv be W→(Dv (slE intE) G (natE way)).p v W→way≠[]→way.length≤n→n<f+way.length→(∀x∈way,x<1024) →
  Calls Tryz.prog 120 #[v,ptr bn,ptr bl,ptr ba,ptr bv,ptr be] W (Post (CyA G (extF (lkS l) vo n f way)) W):=by
 intro f
 induction f with
 | zero=>intro way v G W hG hC hw hne hle hlt;omega
 | succ f ih=>
  intro way v G W hG hC0 hw0 hne hle hlt hx
  have C:CyE (GB W G0) n vo l S0 mq lv N0 bn bl ba bv be W:=hC0.weak fun b hb hh=>hh.elim id fun h=>absurd hb (Nat.not_lt.2 h)
  have HW:(Dv (slE intE) (GB W G) (natE way)).p v W:=Dv.toB hw0
  have h1c:=one_cells (Dv.slOne hw0)
  have hlo:=hC0.low
  have hwl:1≤way.length:=by
   cases way with
   | nil=>exact absurd rfl hne
   | cons x r=>rw[List.length_cons];omega
  have hwn:=natE_len way
  obtain⟨last,hlast⟩:∃last,last=way.getLastD 0:=⟨_,rfl⟩
  have hgl:=natE_last hne
  rw[← hlast] at hgl
  have hl1024:last<1024:=hx last (by rw[hlast];have h:=List.mem_of_getElem? hgl;rw[hlast] at h;exact natE_mem.1 h)
  have hwlast:(Lit.int .i64 (last:Int)).wf=true:=wf64 (by omega) (by omega)
  refine enterM (args:=[v,ptr bn,ptr bl,ptr ba,ptr bv,ptr be]) (As:=[E v,E (ptr bn),E (ptr bl),E (ptr ba),E (ptr bv),E (ptr be)]) Tryz.func120 rfl Tryz.ntmps120 (Nat.le_of_ble_eq_true rfl) ?_ (fun a hf=>?_) (Nat.le_of_ble_eq_true rfl)
  ·exact argC rfl (argC rfl (argC rfl (argC rfl (argC rfl (argC rfl argZ)))))
  dsimp only[params,Nat.reduceAdd] at hf
  have e:=Ext.rfl' W
  refine seq <| regn0 <| tB hf rfl fun a b6 w v6 hv6 e' hb6 hs6 B6 hf=>?_
  obtain⟨C,HW,e⟩:=up3 e' C HW e
  refine tL I35 hf fun a b7 w e' hb7 hs7 B7 hf=>?_
  obtain⟨C,HW,e,B6⟩:=up4 e' C HW e B6
  refine tl_nil ?_
  cases hv6
  rw[h1c] at B6
  replace B7:Blk w b7 #[.slice none 0 0] 35:=B7
  have n67:b6≠b7∧W.heap.size≤b6∧W.heap.size≤b7:=by omega
  replace hf:=hf.keep [1,2,3,4,5,6,7]
  refine seq <| rgN 6 hf <| st (ld1 (v:=v) T35 rfl B6 rfl) <| st (ld1 (v:=v) T35 rfl B6 rfl) <| st (lenD U35 (isE rfl HW)) <| st (sub rfl rfl (by omega)) <| st (idxD U35 S3 (isE rfl HW) rfl (by omega) (hgl)) <| st (ldI T3 (isR rfl)) <| en fun a w e' hf=>?_
  obtain⟨C,HW,e,B6,B7⟩:=up5 e' C HW e B6 B7
  refine tA hf rfl fun a hf=>tl_nil ?_
  replace hf:=hf.keep [1,2,3,4,5,6,7,8]
  have hov:v.oneCell'=true:=Dv.slOne HW
  obtain⟨Nb,hNb⟩:∃Nb,Nb=lkS l (last:Int):=⟨_,rfl⟩
  have hasb:∀b:Nat,has Nb (b:Int)=Nb.getLsbD b:=fun b=>by rw[Bool.eq_iff_iff];exact has_bit Nb b
  by_cases hln:way.length=n
  ·have hb3:(((natE way).length:Nat):Int)==((n:Nat):Int):=by rw[hwn,hln];exact beq_self_eq_true _
   rw[extF_at hln,← hlast,← hNb]
   repeat refine seq ?_
   refine rgN 4 hf <| st (ld1 (v:=v) T35 rfl B6 rfl) <| st (lenD U35 (isE rfl HW)) <| st (ld1 (v:=I (n:Nat)) T3 rfl C.pn rfl) <| st ((eql rfl rfl).eq (congrArg Value.bool (hb3))) <| en fun a w e' hf=>?_
   obtain⟨C,HW,e,B6,B7⟩:=up5 e' C HW e B6 B7
   refine tl_nil <| ifc hf rfl (fun _=>?_) (fun h=>by cases h)
   replace hf:=hf.keep [1,2,3,4,5,6,7,8]
   repeat refine seq ?_
   refine rgN 6 hf <| st (fA U79 rfl T77 rfl) <| st (ld1 (v:=mq) T77 rfl C.pl (adC_map _ _)) <| st (mv rfl) <| st (lkM (l:=l) (i:=(last:Int)) U77 zero_set (isE rfl C.hv) rfl hwlast) <| st (ld1 (v:=I (vo:Nat)) T3 rfl C.pa rfl) <| st (call2 (A:=E (B (Nb.getLsbD vo))) (B:=E (setV (lkS l (last:Int)))) (C:=E (I (vo:Nat))) En75 rfl rfl (fun v u w he h h'=>by cases h;cases h';rw[← hNb,← hasb];exact has_spec _ _ w)) ?_
   refine en fun a w e' hf=>?_
   obtain⟨C,HW,e,B6,B7⟩:=up5 e' C HW e B6 B7
   refine tl_nil ?_
   replace hf:=hf.kp [6,7,27]
   refine ifc hf rfl (fun hb=>?_) (fun hb=>?_)
   ·rw[if_pos hb]
    refine seq <| rgN 1 hf <| st (ld1 (v:=v) T35 rfl B6 rfl) <| en fun a w e' hf=>?_
    obtain⟨HW,e,B6,B7⟩:=up4 e' HW e B6 B7
    refine tl_st1 T35 hf rfl rfl hov B7 Nat.zero_lt_one fun w hg hsz B7 hf=>?_
    obtain⟨e,HW⟩:=gr2 hg e HW
    refine tl_nil <| wret <| retc1M (D:=[]) rfl T35 hf rfl B7 (Ds.nil _) ⟨_,rfl,e,hne,Dv.weak HW fun b _ hb=>.inl hb⟩
   ·rw[if_neg (by rw[hb];decide)]
    refine wskip ?_
    replace hf:=hf.kp [6,7]
    refine seq <| regn0 <| tl_st1 T35 hf rfl rfl rfl B7 Nat.zero_lt_one fun w hg hsz B7 hf=>?_
    replace e:=e.gr hg (by omega);clear hg
    refine tl_nil <| wret <| retc1M (D:=[]) rfl T35 hf rfl B7 (Ds.nil _) ⟨_,rfl,e,rfl⟩
  ·have hb3:((((natE way).length:Nat):Int)==((n:Nat):Int))=false:=by rw[hwn];exact beq_eq_false_iff_ne.2 (by omega)
   rw[extF_go hln,← hlast,← hNb]
   repeat refine seq ?_
   refine rgN 4 hf <| st (ld1 (v:=v) T35 rfl B6 rfl) <| st (lenD U35 (isE rfl HW)) <| st (ld1 (v:=I (n:Nat)) T3 rfl C.pn rfl) <| st ((eql rfl rfl).eq (congrArg Value.bool (hb3))) <| en fun a w e' hf=>?_
   obtain⟨C,HW,e,B6,B7⟩:=up5 e' C HW e B6 B7
   refine tl_nil <| ifc hf rfl (fun h=>by cases h) (fun _=>?_)
   refine wskip ?_
   replace hf:=hf.keep [1,2,3,4,5,6,7,8]
   obtain⟨Nz,hNz⟩:∃Nz,Nz=w.heap.size:=⟨_,rfl⟩
   have hTw:=C.t
   repeat refine seq ?_
   refine rgN 5 hf <| st (fA U79 rfl T77 rfl) <| st (ld1 (v:=mq) T77 rfl C.pl (adC_map _ _)) <| st (mv rfl) <| st (lkM (l:=l) (i:=(last:Int)) U77 zero_set (isE rfl C.hv) rfl hwlast) <| st (call1 (A:=SeqA Nz Nb) (B:=E (setV (lkS l (last:Int)))) En62 rfl (fun v w' he h=>by cases h;rw[hNb];exact Calls.mono (all_spec _ w') (fun en w2 ⟨u,h1,h2,b',h3,h4,h5⟩=>⟨u,h1,h2,b',by have:=he.size;omega,h4,h5⟩))) ?_
   refine en fun a w e' hf=>?_
   obtain⟨C,HW,e,B6,B7⟩:=up5 e' C HW e B6 B7
   refine tl_nil ?_
   obtain⟨vv,⟨b33,h33,rfl,BS⟩,hf⟩:=hf.fix 33 rfl
   replace hf:=hf.kp [1,2,3,4,5,6,7,33]
   obtain⟨nb,hnb⟩:∃nb,nb=lkS l:=⟨_,rfl⟩
   rw[← hnb]
   have hlo2:bn<w.heap.size∧bl<w.heap.size∧ba<w.heap.size∧bv<w.heap.size∧be<w.heap.size:=by have:=e.size;omega
   have hBW:W.heap.size≤w.heap.size:=e.size
   have h0w:0<w.heap.size:=C.t.lt
   have l6:=B6.lt
   have l7:=B7.lt
   refine blk <| range_all3 (S:=Nb) hf rfl BS (by decide) (fun s w1=>CyJ W G n vo l S0 mq lv v N0 bn bl ba bv be b6 b7 way (.slice none 0 0) w1∧∀y∈s,exS nb vo n f way y=none)
    (fun ex w1=>ex=.ret∧∃r out,CyJ W G n vo l S0 mq lv v N0 bn bl ba bv be b6 b7 way r w1∧(elems Nb).findSome? (exS nb vo n f way)=some out∧out≠[]∧(Dv (slE intE) (fun b=>b<w.heap.size+3) (natE out)).p r w1) (fun s w1 h=>h.1.c.t)
    ⟨⟨e,C,HW,B6,B7⟩,fun y hy=>by cases hy⟩ (fun s w1 w2 h hs k=>⟨h.1.kp k hBW h0w hlo2 l6 l7,h.2⟩)
    (fun ex w1 w2 ⟨q1,r,out,q2,q3,q4,q5⟩ hs k=>⟨q1,r,out,q2.kp k hBW h0w hlo2 l6 l7,q3,q4,Dv.ch q5 k.chg fun b hb=>hb.2⟩) ?_ ?_ ?_
   ·intro lp s x rest a1 w1 hs hJ hlw hf
    have hxN:Nb.getLsbD x=true:=(mem_elems.1 (by rw[hs];simp)).2
    have hx1024:x<1024:=bit_lt hxN
    generalize hBz:w.heap.size=Bz at *
    refine regn0 <| tA hf rfl fun a hf=>tl_nil <| ⟨Kh.rfl' _ _,fun w3 k3 hsz3=>?_⟩
    have hJ3:=hJ.1.kp k3 hBW h0w hlo2 l6 l7
    have hJs:=hJ.2
    have hw3:Bz+3≤w3.heap.size:=by omega
    replace hf:=hf.pure w3
    obtain⟨e,C,HW,B6,B7⟩:=hJ3
    have kh:=Kh.rfl' Bz w3
    replace hf:=hf.kp [1,2,3,4,5,6,7,9]
    refine blk ?_
    have hd2:farF (lvB nb vo) x≤1025:=has_far x
    have hd1 : -1≤farF (lvB nb vo) x:=farF_lo _ _
    obtain⟨d,hd⟩:∃d,d=farF (lvB nb vo) x:=⟨_,rfl⟩
    have hex:exS nb vo n f way x=if way.contains x=true∨(n:Int) - way.length<d then none else extF nb vo n f (way++[x]):=by rw[exS,hd]
    rw[← hd] at hd1 hd2
    repeat refine seq ?_
    refine rgN 3 hf <| st (ld1 (v:=lv) T83 rfl C.pv rfl) <| st (mv rfl) <| st (call2 (A:=E (I d)) (B:=E lv) (C:=E (I (x:Nat))) En50 rfl rfl (fun a b w he k1 k2=>by cases k1;cases k2;rw[hd,hnb];exact far_spec _ x lv w (Dv.ex C.hl he) (Nat.le_trans (lvB_len _ _) (by decide)))) ?_
    refine en fun a w e' hf=>?_
    obtain⟨C,HW⟩:=up2 e' C HW
    replace kh:=kh.tr (Kh.ext e')
    obtain⟨hw3,e,B6,B7⟩:=up4 e' hw3 e B6 B7
    refine tA hf rfl fun a hf=>tl_nil ?_
    replace hf:=hf.kp [1,2,3,4,5,6,7,9,10]
    have fin:∀{w2:World},exS nb vo n f way x=none→Ext W w2→CyE (GB W G0) n vo l S0 mq lv N0 bn bl ba bv be w2→(Dv (slE intE) (GB W G) (natE way)).p v w2→Blk w2 b6 #[v] 35→Blk w2 b7 #[.slice none 0 0] 35→Kh Bz w3 w2 →
      (CyJ W G n vo l S0 mq lv v N0 bn bl ba bv be b6 b7 way (.slice none 0 0) w2∧∀y∈s++[x],exS nb vo n f way y=none)∧Kh Bz w3 w2:=fun {w2} h0 h1 h2 h3 h4 h5 h6=>⟨⟨⟨h1,h2,h3,h4,h5⟩,fun y hy=>by
     rcases List.mem_append.1 hy with hy|hy
     ·exact hJs y hy
     ·rw[List.mem_singleton.1 hy];exact h0⟩,h6⟩
    by_cases hcon:x∈way
    ·rw[if_pos (.inl (List.contains_iff_mem.2 hcon))] at hex
     refine seq <| rgN 11 hf <| st (ld1 (v:=v) T35 rfl B6 rfl) <| st (mv rfl) <| st (call2 (A:=E (B true)) (B:=E v) (C:=E (I (x:Nat))) En121 rfl rfl (fun a b w he k1 k2=>by cases k1;cases k2;have h:=scontains_spec (natE way) (x:Int) v w (Dv.ex HW he) (by omega);rwa [decide_eq_true (natE_mem.2 hcon)] at h)) ?_
     refine st (mv rfl) <| sn rfl rfl rfl <| sn rfl rfl rfl <| sn rfl rfl rfl <| sn rfl rfl rfl <| sn rfl rfl rfl <| sn rfl rfl rfl <| st (pkT rfl rfl) <| en fun a w e' hf=>?_
     obtain⟨C,HW⟩:=up2 e' C HW
     replace kh:=kh.tr (Kh.ext e')
     obtain⟨hw3,e,B6,B7⟩:=up4 e' hw3 e B6 B7
     refine tl_nil <| ifc hf rfl (fun _=>?_) (fun h=>by cases h)
     refine wexit <| fin hex e C HW B6 B7 kh
    ·by_cases hfar:(n:Int) - way.length<d
     ·rw[if_pos (.inr hfar)] at hex
      refine seq <| rgN 11 hf <| st (ld1 (v:=v) T35 rfl B6 rfl) <| st (mv rfl) <| st (call2 (A:=E (B false)) (B:=E v) (C:=E (I (x:Nat))) En121 rfl rfl (fun a b w he k1 k2=>by cases k1;cases k2;have h:=scontains_spec (natE way) (x:Int) v w (Dv.ex HW he) (by omega);rwa [decide_eq_false (fun h=>hcon (natE_mem.1 h))] at h)) ?_
      refine st (mv rfl) <| sy rfl rfl (mv rfl) <| sy rfl rfl (ld1 (v:=I (n:Nat)) T3 rfl C.pn rfl) <| sy rfl rfl (ld1 (v:=v) T35 rfl B6 rfl) <| sy rfl rfl (lenD U35 (isE rfl HW)) <| sy rfl rfl (sub rfl rfl (by omega)) <| sy rfl rfl ((gtr rfl rfl).eq (congrArg Value.bool (decide_eq_true (show (n:Int) - ((natE way).length:Nat)<d by rw[hwn];exact hfar)))) ?_
      refine st (pkF rfl rfl) <| en fun a w e' hf=>?_
      obtain⟨C,HW⟩:=up2 e' C HW
      replace kh:=kh.tr (Kh.ext e')
      obtain⟨hw3,e,B6,B7⟩:=up4 e' hw3 e B6 B7
      refine tl_nil <| ifc hf rfl (fun _=>?_) (fun h=>by cases h)
      refine wexit <| fin hex e C HW B6 B7 kh
     ·rw[if_neg (fun h=>h.elim (fun h=>hcon (List.contains_iff_mem.1 h)) hfar)] at hex
      refine seq <| rgN 11 hf <| st (ld1 (v:=v) T35 rfl B6 rfl) <| st (mv rfl) <| st (call2 (A:=E (B false)) (B:=E v) (C:=E (I (x:Nat))) En121 rfl rfl (fun a b w he k1 k2=>by cases k1;cases k2;have h:=scontains_spec (natE way) (x:Int) v w (Dv.ex HW he) (by omega);rwa [decide_eq_false (fun h=>hcon (natE_mem.1 h))] at h)) ?_
      refine st (mv rfl) <| sy rfl rfl (mv rfl) <| sy rfl rfl (ld1 (v:=I (n:Nat)) T3 rfl C.pn rfl) <| sy rfl rfl (ld1 (v:=v) T35 rfl B6 rfl) <| sy rfl rfl (lenD U35 (isE rfl HW)) <| sy rfl rfl (sub rfl rfl (by omega)) <| sy rfl rfl ((gtr rfl rfl).eq (congrArg Value.bool (decide_eq_false (show ¬(n:Int) - ((natE way).length:Nat)<d by rw[hwn];exact hfar)))) ?_
      refine st (pkF rfl rfl) <| en fun a w e' hf=>?_
      obtain⟨C,HW⟩:=up2 e' C HW
      replace kh:=kh.tr (Kh.ext e')
      obtain⟨hw3,e,B6,B7⟩:=up4 e' hw3 e B6 B7
      refine tl_nil <| ifc hf rfl (fun h=>by cases h) (fun _=>?_)
      refine wskip ?_
      replace hf:=hf.kp [1,2,3,4,5,6,7,9]
      obtain⟨N1,hN1⟩:∃N1,N1=w.heap.size:=⟨_,rfl⟩
      have hN1s:N1≤w.heap.size:=Nat.le_of_eq hN1
      have hN1b:Bz+3≤N1:=by rw[hN1];exact hw3
      have hsub:∀b,N1≤b→GB W G0 b:=fun b hb=>.inr (by omega)
      have hwn1:(natE way).length+1≤2000:=by omega
      have hne1:natE way≠[]:=fun h=>by rw[h] at hwn;simp at hwn;omega
      refine seq <| regJ 7 [1,0,0,0,0] (Chg (fun b=>N1≤b)) (RelJ.chg _) (fun w=>True) (fun w w1 k h=>trivial) Mix.mix hf (by decide +kernel) (by decide +kernel) <| jf (fun w1 h1=>ld1 (v:=cyF bn bl ba bv be) T100 rfl (C.pe.ch h1 (by omega)) rfl) <| ja (ld1 (v:=v) T35 rfl B6 rfl) <| ja (call1 (A:=OwA intE 3 N1 G0 (natE way)) (B:=E v) En64 rfl (fun u w he k=>by cases k;exact (sclone_spec (natE way) v w (Dv.ex HW he) (by omega) hne1).mono fun en w' ⟨u,k1,k2,k3⟩=>⟨u,k1,k2,OwR.low k3 (Nat.le_trans hN1s he.size) fun b hb=>hb.elim⟩)) ?_
      refine ja (mv rfl) <| ja (bsl1 (e:=intE) (G:=G0) U35 I3 rfl (by decide) rfl (fun b hb=>hb.elim) (isI rfl)) <| jx (xappF (G':=G0) U35 I3 rfl rfl rfl (isR rfl) (by simp only[List.length_singleton];omega) (by simp only[List.length_singleton,maxLen];omega) (fun _ _ _ _=>trivial) (fun _ _=>trivial)) ?_
      refine jp (fun w1 h1 HF1=>callV1 (A:=CyA (fun b=>b<N1) (extF nb vo n f (way++[x]))) (B:=OwA intE 3 N1 G0 (natE way++[(x:Int)])) En120 rfl rfl (fun u w he k=>by rw[hnb];exact ih (way++[x]) u (fun b=>b<N1) w (fun b hb=>by have:=h1.size;have:=he.size;omega) (((C.ch h1 hsub (by omega) (by omega) (by omega) (by omega) (by omega) (by omega)).ext he).weak fun b _ hb=>hb.elim) (by rw[natE_app];exact OwR.slN k fun b hb hh=>by have:=(OwR.lt k hb).1;omega) (by simp) (by rw[List.length_append,List.length_singleton];omega) (by rw[List.length_append,List.length_singleton];omega) (fun y hy=>(List.mem_append.1 hy).elim (hx y) fun h=>by rw[List.mem_singleton.1 h];exact hx1024))) ?_
      refine je <| fun a w hc HF hf=>?_
      try dsimp only[push] at hf
      have e':Ext _ w:=⟨hc.os,hc.tape,hc.output,hc.size,fun b hb=>hc.block b hb (by omega)⟩
      replace e:=e.tr e';replace C:=C.ext e';replace HW:=Dv.ex HW e';replace B6:=B6.ext e';replace B7:=B7.ext e';replace kh:=kh.tr (Kh.ext e');replace hw3:=Nat.le_trans hw3 e'.size
      refine tA hf rfl fun a hf=>tl_nil ?_
      obtain⟨r,hr,hf⟩:=hf.opn 11 rfl
      replace hf:=hf.kp [1,2,3,4,5,6,7,9,11]
      obtain⟨o,ho⟩:∃o,o=extF nb vo n f (way++[x]):=⟨_,rfl⟩
      rw[← ho] at hr hex
      cases o with
      | none=>
       obtain rfl:r=.slice none 0 0:=hr
       refine seq <| rgN 2 hf <| st (mv rfl) <| st (neqNil U35 rfl) <| en fun a w e' hf=>?_
       obtain⟨C,HW⟩:=up2 e' C HW
       replace kh:=kh.tr (Kh.ext e')
       obtain⟨e,B6,B7⟩:=up3 e' e B6 B7
       refine tl_nil <| ifc hf rfl (fun h=>by cases h) (fun _=>?_)
       refine wskip <| fin hex e C HW B6 B7 kh
      | some out=>
       obtain⟨hr1,hr2⟩:=hr
       have hro:r.oneCell'=true:=Dv.slOne hr2
       have hne2:natE out≠[]:=fun h=>hr1 (by rw[natE] at h;exact List.map_eq_nil_iff.1 h)
       obtain⟨ad,n',c',hre⟩:=slSome hr2 hne2
       have HR:(Dv (slE intE) (fun b=>b<Bz+3) (natE out)).p r w:=Dv.weak hr2 fun b _ hb=>by omega
       subst hre
       refine seq <| rgN 2 hf <| st (mv rfl) <| st (neqNil U35 rfl) <| en fun a w e' hf=>?_
       obtain⟨C,HW⟩:=up2 e' C HW
       replace kh:=kh.tr (Kh.ext e')
       obtain⟨HR,e,B6,B7⟩:=up4 e' HR e B6 B7
       refine tl_nil <| ifc hf rfl (fun _=>?_) (fun h=>by cases h)
       refine seq <| rgN 1 hf <| st (mv rfl) <| en fun a w e' hf=>?_
       obtain⟨C,HW⟩:=up2 e' C HW
       replace kh:=kh.tr (Kh.ext e')
       obtain⟨HR,e,B6,B7⟩:=up4 e' HR e B6 B7
       refine tl_st1 T35 hf rfl rfl hro B7 Nat.zero_lt_one fun w hg hsz B7 hf=>?_
       have hch:=(Chg.rfl' (fun b=>b=b7) _).gr hg (.inl rfl)
       replace e:=e.gr hg (by omega)
       replace C:=C.ch hch (fun b hb=>.inr (by omega)) (by omega) (by omega) (by omega) (by omega) (by omega) (by omega)
       obtain⟨HW,B6⟩:=gr2 hg HW B6
       replace HR:=Dv.gr HR hg (by omega)
       replace kh:=kh.tr (Kh.gr hg (fun hh=>by have:=hh.1;omega))
       refine tl_nil <| wret ?_
       have hfs:(elems Nb).findSome? (exS nb vo n f way)=some out:=by
        rw[hs,List.findSome?_append,List.findSome?_eq_none_iff.2 hJs,List.findSome?_cons,hex];rfl
       exact⟨⟨rfl,_,out,⟨e,C,HW,B6,B7⟩,hfs,hr1,HR⟩,kh⟩
   ·intro a' w' hf' hJ hsz hDn
    simp only[Exit.inBlock,↓reduceIte,Exit.then]
    have hfs:(elems Nb).findSome? (exS nb vo n f way)=none:=List.findSome?_eq_none_iff.2 hJ.2
    rw[hfs]
    have hD:Ds [w.heap.size] w':=(Ds.nil w').cons hDn (by simp)
    have hf:FrD 59 (marks [w.heap.size]) a' w' [(7,E (ptr b7))]:=hf'.keep [7]
    have hDW:∀d∈[w.heap.size],W.heap.size≤d:=fun d hd=>by rw[List.mem_singleton] at hd;omega
    obtain⟨e,C,HW,B6,B7⟩:=hJ.1
    have hb7:=hD.ne B7
    generalize [w.heap.size]=D2 at *
    generalize w'=w at *
    refine seq <| regn0 <| tl_st1 T35 hf rfl rfl rfl B7 Nat.zero_lt_one fun w hg hsz B7 hf=>?_
    replace e:=e.gr hg (by omega)
    replace hD:=hD.gr hg hb7
    refine tl_nil <| wret <| retc1M rfl T35 hf rfl B7 hD ⟨_,rfl,e.shut hDW,rfl⟩
   ·intro ex c a' w' hcd hf' hX hsz hDn
    obtain⟨rfl,r,out,hJ,hfs,hr1,HR⟩:=hX
    simp only[Exit.inBlock,↓reduceIte,Exit.then]
    rw[hfs]
    have hD:Ds [w.heap.size] w':=(Ds.nil w').cons hDn (by simp)
    have hf:FrD 59 (marks [w.heap.size]) a' w' [(7,E (ptr b7))]:=hf'.keep [7]
    have hDW:∀d∈[w.heap.size],W.heap.size≤d:=fun d hd=>by rw[List.mem_singleton] at hd;omega
    refine retc1M rfl T35 hf rfl hJ.p7 hD ⟨_,rfl,hJ.e.shut hDW,hr1,?_⟩
    exact Dv.weak (Dv.ch HR (chg_shut _ _) fun b hb=>by rw[List.mem_singleton] at hb;show b<_;omega) fun b _ hb=>by have:=hG b hb;show b<_;omega
theorem cycle_spec {G:Nat→Prop}{N0:Nat}(l:List (Int×BS))(S0:BS)(mq:Value)(vo n:Nat)(W:World)(hT:Tab W)(h:(Dv (mpE sKV N0) G l).p mq W)(hvo:vo<1024)(hn1:1≤n)(hn:n≤1500) :
  Calls Tryz.prog 85 #[.agg (adC S0 mq),I (vo:Nat),I (n:Nat)] W (Post (CyA (fun b=>b<W.heap.size) (extF (lkS l) vo n n [vo])) W):=by
 have HV:(Dv (mpE sKV N0) (GB W G0) l).p mq W:=Dv.toB (Dv.weak h fun b _ hb=>hb.elim)
 have hT0:=hT.lt
 refine eN [.agg (adC S0 mq),I (vo:Nat),I (n:Nat)] [E (.agg (adC S0 mq)),E (I (vo:Nat)),E (I (n:Nat))] Tryz.func85 Tryz.ntmps85 ?_ fun a hf=>?_
 rotate_left
 rotate_right
 ·exact arg3 rfl rfl rfl
 have e:=Ext.rfl' W
 refine seq <| regn0 <| tB hf rfl fun a b3 w v3 hv3 e' hb3 hs3 B3 hf=>?_
 obtain⟨hT,HV,e⟩:=up3 e' hT HV e
 refine tB hf rfl fun a b4 w v4 hv4 e' hb4 hs4 B4 hf=>?_
 obtain⟨hT,HV,e,B3⟩:=up4 e' hT HV e B3
 refine tB hf rfl fun a b5 w v5 hv5 e' hb5 hs5 B5 hf=>?_
 obtain⟨hT,HV,e,B3,B4⟩:=up5 e' hT HV e B3 B4
 refine tA hf rfl fun a hf=>tl_nil ?_
 cases hv3
 cases hv4
 cases hv5
 replace B3:Blk w b3 (adC S0 mq) 79:=B3
 replace B4:Blk w b4 #[I (vo:Nat)] 3:=B4
 replace B5:Blk w b5 #[I (n:Nat)] 3:=B5
 have n5:b3≠b4∧b3≠b5∧b4≠b5∧W.heap.size≤b3∧W.heap.size≤b4∧W.heap.size≤b5:=by omega
 replace hf:=hf.keep [3,4,5]
 obtain⟨lv0,hlv0⟩:∃lv0,lv0=lvB (lkS l) vo:=⟨_,rfl⟩
 obtain⟨N1,hN1⟩:∃N1,N1=w.heap.size:=⟨_,rfl⟩
 have hN1s:N1≤w.heap.size:=Nat.le_of_eq hN1
 have hl5:b3<N1∧b4<N1∧b5<N1:=by have:=B3.lt;have:=B4.lt;have:=B5.lt;omega
 refine seq <| rgN 3 hf <| st (ldW T79 rfl B3 (adC_size _ _)) <| st (ld1 (v:=I (vo:Nat)) T3 rfl B4 rfl) <| st (call2 (A:=OwA setE 76 N1 G0 lv0) (B:=E (.agg (adC S0 mq))) (C:=E (I (vo:Nat))) En52 rfl rfl (fun v u w he k1 k2=>by cases k1;cases k2;exact (levels_spec l S0 mq vo w (hT.ext he) (Dv.ex HV he) hvo).mono fun en w' ⟨u,k1,k2,k3⟩=>⟨u,k1,k2,by rw[hlv0];exact OwR.low k3 (Nat.le_trans hN1s he.size) fun b hb=>hb.elim⟩)) ?_
 refine en fun a w e' hf=>?_
 obtain⟨hT,HV,e,B3,B4,B5⟩:=up6 e' hT HV e B3 B4 B5
 obtain⟨lv,Hr,hf⟩:=hf.opn 11 rfl
 replace Hr:OwR setE 76 N1 G0 w lv0 lv:=Hr
 obtain⟨N2,hN2⟩:∃N2,N2=w.heap.size:=⟨_,rfl⟩
 have hN2s:N2≤w.heap.size:=Nat.le_of_eq hN2
 have hl5':b3<N2∧b4<N2∧b5<N2:=by have:=B3.lt;have:=B4.lt;have:=B5.lt;omega
 have HL:(Dv (slE setE) (fun b=>N2≤b) lv0).p lv w:=Hr.slN fun b hb hh=>by have:=(Hr.lt hb).2;omega
 have hlo:lv.oneCell'=true:=Hr.one
 have hWN2:W.heap.size≤N2:=by rw[hN2];exact e.size
 replace hf:=hf.kp [3,4,5,11]
 refine tL I83 hf fun a b7 w e' hb7 hs7 B7 hf=>?_
 have hle7:=Nat.le_trans e.size (Nat.le_of_eq hb7.symm)
 have lo7_hN2s:=Nat.le_trans hN2s (Nat.le_of_eq hb7.symm)
 obtain⟨hT,HV,HL,hN2s,e,B3,B4,B5⟩:=up8 e' hT HV HL hN2s e B3 B4 B5
 have n7:N2≤b7:=lo7_hN2s
 refine tl_st1 T83 hf rfl rfl hlo B7 Nat.zero_lt_one fun w hg hsz B7 hf=>?_
 replace e:=e.gr hg (by omega);replace hT:=hT.gr hg (by omega);replace HV:=Dv.gr HV hg (.inr (by omega));replace HL:=Dv.gr HL hg n7;replace B3:=B3.gr hg (by omega);replace B4:=B4.gr hg (by omega);replace B5:=B5.gr hg (by omega);replace hN2s:=Nat.le_trans hN2s hg.size;clear hg
 refine tl_nil ?_
 replace B7:Blk w b7 #[lv] 83:=B7
 replace hf:=hf.keep [3,4,5,7]
 refine seq <| regn0 <| tL I100 hf fun a b8 w e' hb8 hs8 B8 hf=>?_
 have lo8_hN2s:=Nat.le_trans hN2s (Nat.le_of_eq hb8.symm)
 have lt8_B3:=B3.lt
 obtain⟨hT,HV,HL,hN2s,e,B3,B4,B5,B7⟩:=up9 e' hT HV HL hN2s e B3 B4 B5 B7
 refine tl_nil ?_
 have n8:N2≤b8∧b7≠b8:=⟨lo8_hN2s,by omega⟩
 replace hf:=hf.kp [3,4,5,7,8]
 refine seq <| rgN 1 hf <| st (makeF5 rfl rfl rfl rfl rfl) <| en fun a w e' hf=>?_
 replace hT:=hT.ext e'
 replace HV:=Dv.ex HV e'
 replace HL:=Dv.ex HL e'
 replace hN2s:=Nat.le_trans hN2s e'.size
 replace e:=e.tr e'
 replace B3:=B3.ext e'
 replace B4:=B4.ext e'
 replace B5:=B5.ext e'
 replace B7:=B7.ext e'
 replace B8:=B8.ext e'
 refine tl_st1 T100 hf rfl rfl rfl B8 Nat.zero_lt_one fun w hg hsz B8 hf=>?_
 obtain⟨e,hT,HV,B3,B4,B5,B7⟩:=gr7 hg e hT HV B3 B4 B5 B7
 replace HL:=Dv.gr HL hg n8.1
 refine tl_nil ?_
 replace B8:Blk w b8 #[cyF b5 b3 b4 b7 b8] 100:=B8
 have C:CyE G0 n vo l S0 mq lv N0 b5 b3 b4 b7 b8 w:=⟨hT,Dv.weak HV fun b _ hb=>hb.elim,by rw[← hlv0];exact Dv.weak HL fun b _ hb=>hb.elim,B5,B3,B4,B7,B8⟩
 replace hf:=hf.keep [3,4,5,7,8]
 have e4:=e
 refine seq <| rgN 4 hf <| st (ld1 (v:=cyF b5 b3 b4 b7 b8) T100 rfl B8 rfl) <| st (ld1 (v:=I (vo:Nat)) T3 rfl B4 rfl) <| st (bsl1 (e:=intE) (G:=fun b=>b<W.heap.size) U35 I3 rfl (by decide) rfl (fun b hb=>Nat.lt_of_lt_of_le hb e4.size) (isI rfl)) <| st (callV1 (A:=CyA (fun b=>b<W.heap.size) (extF (lkS l) vo n n [vo])) (B:=Dv (slE intE) (fun b=>b<W.heap.size) [(vo:Int)]) En120 rfl rfl (fun u w he k=>cyc1_spec hn n [vo] u (fun b=>b<W.heap.size) w (fun b hb=>Nat.lt_of_lt_of_le hb (Ext.tr e4 he).size) (C.ext he) k (by simp) (by simp;omega) (by simp) (fun y hy=>by rw[List.mem_singleton.1 hy];exact hvo))) ?_
 refine en fun a w e' hf=>?_
 obtain⟨C,e,B4,B8⟩:=up4 e' C e B4 B8
 refine tA hf rfl fun a hf=>tl_nil <| wret <| ret1 rfl hf rfl ?_
 intro v hv
 exact⟨_,rfl,e,hv⟩
def scL (nb:Int→BS)(V:BS)(n:Nat):List Nat→BS→Option (List Nat)
 | [],_=>none
 | x::r,left=>match extF (nbWi nb (V &&& left)) x n n [x] with
  | some o=>some o
  | none=>scL nb V n r (del left (x:Int))
def delL (S:BS)(s:List Nat):BS:=s.foldl (fun (S:BS) (x:Nat)=>del S (x:Int)) S
theorem delL_app (S:BS)(s:List Nat)(x:Nat):delL S (s++[x])=del (delL S s) (x:Int):=by rw[delL,List.foldl_append,List.foldl_cons,List.foldl_nil,delL]
def shcF (nb:Int→BS)(V:BS)(es:List (Nat×Nat)):Option (List Nat):=if girF nb es=0 then none else scL nb V (girF nb es).toNat (elems V) V
structure ScJ (W:World)(nm bm:Nat)(l:List (Int×BS))(V:BS)(b2 b3 b4 b5 n:Nat)(r:Value)(left:BS)(w:World):Prop where
 e:Ext W w
 t:Tab w
 m:MpR sKV w bm nm l
 p2:Blk w b2 #[r] 35
 p3:Blk w b3 (adC V (.map (some bm))) 79
 p4:Blk w b4 #[I (n:Nat)] 3
 p5:Blk w b5 (setC left) 76
theorem ScJ.kp {W:World}{nm bm:Nat}{l:List (Int×BS)}{V:BS}{b2 b3 b4 b5 n:Nat}{r:Value}{left:BS}{B:Nat}{w w':World}(h:ScJ W nm bm l V b2 b3 b4 b5 n r left w)(k:Kp B w w')(hW:W.heap.size≤B)(h0:0<B)(l2:b2<B)(l3:b3<B)(l4:b4<B)(l5:b5<B)(lm:bm<B) :
  ScJ W nm bm l V b2 b3 b4 b5 n r left w':=
 have no:∀{b},b<B→¬Hole B b:=fun h hh=>by have:=hh.1;omega
 ⟨h.e.kp k hW,h.t.kp k h0,h.m.pres (k.same bm h.m.lt (no lm)),h.p2.kp k (no l2),h.p3.kp k (no l3),h.p4.kp k (no l4),h.p5.kp k (no l5)⟩
def esN (g:GT):List (Nat×Nat):=g.2.map fun x=>(x.1.1.toNat,x.1.2.toNat)
theorem ed_nat {g:GT}(ok:Gr.Ok g):∀x∈g.2,∃u v:Nat,x.1=((u:Int),(v:Int))∧u<v∧(vset g.1).getLsbD u=true∧(vset g.1).getLsbD v=true:=fun x hx=>by
 obtain⟨q1,q2,q3,_⟩:=ok.re x hx
 have h2:=q2
 have h3:=q3
 rw[inV,List.any_eq_true] at h2 h3
 obtain⟨y,hy,e1⟩:=h2
 obtain⟨z,hz,e2⟩:=h3
 have r1:=idOk_r (ok.rv y hy).1
 have r2:=idOk_r (ok.rv z hz).1
 rw[of_decide_eq_true e1] at r1
 rw[of_decide_eq_true e2] at r2
 obtain⟨⟨p,q⟩,c⟩:=x
 dsimp only at q1 q2 q3 r1 r2 ⊢
 obtain⟨u,rfl⟩:∃u:Nat,p=u:=⟨p.toNat,by omega⟩
 obtain⟨v,rfl⟩:∃v:Nat,q=v:=⟨q.toNat,by omega⟩
 exact⟨u,v,rfl,by omega,(inV_vset ok).2 q2,(inV_vset ok).2 q3⟩
theorem es_toI {g:GT}(ok:Gr.Ok g):g.2.map (·.1)=(esN g).map toI:=by
 rw[esN,List.map_map]
 refine List.map_congr_left fun x hx=>?_
 obtain⟨u,v,he,_⟩:=ed_nat ok x hx
 rw[he,Function.comp,he];rfl
theorem es_in {g:GT}(ok:Gr.Ok g):∀e∈esN g,e.1<e.2∧(vset g.1).getLsbD e.1=true∧(vset g.1).getLsbD e.2=true:=fun e he=>by
 obtain⟨x,hx,rfl⟩:=List.mem_map.1 he
 obtain⟨u,v,he,h1,h2,h3⟩:=ed_nat ok x hx
 rw[he];exact⟨h1,h2,h3⟩
theorem es_adj {g:GT}(ok:Gr.Ok g)(i j:Nat):Adj g i j↔(i,j)∈esN g∨(j,i)∈esN g:=by
 constructor
 ·rintro⟨x,hx,h|h⟩
  ·exact .inl (List.mem_map.2 ⟨x,hx,by rw[h];rfl⟩)
  ·exact .inr (List.mem_map.2 ⟨x,hx,by rw[h];rfl⟩)
 ·rintro (h|h)
  ·obtain⟨x,hx,he⟩:=List.mem_map.1 h
   obtain⟨u,v,h1,_⟩:=ed_nat ok x hx
   rw[h1] at he
   have:u=i∧v=j:=by simpa using he
   exact⟨x,hx,.inl (by rw[h1,this.1,this.2])⟩
  ·obtain⟨x,hx,he⟩:=List.mem_map.1 h
   obtain⟨u,v,h1,_⟩:=ed_nat ok x hx
   rw[h1] at he
   have:u=j∧v=i:=by simpa using he
   exact⟨x,hx,.inr (by rw[h1,this.1,this.2])⟩
theorem gst_hi (nb:Int→BS)(b:Int)(e:Nat×Nat)(h:0≤b)(h':b≤1026):0≤gst nb b e∧gst nb b e≤1026:=by
 have h1:=farF_lo (lvB (wo nb e.1 e.2) e.1) e.2
 have h2:=has_far (nb:=wo nb e.1 e.2) (a:=e.1) e.2
 rw[gst]
 split <;> omega
theorem girF_hi (nb:Int→BS)(es:List (Nat×Nat)):0≤girF nb es∧girF nb es≤1026:=by
 have key:∀k,k≤es.length→0≤girF nb (es.take k)∧girF nb (es.take k)≤1026:=by
  intro k
  induction k with
  | zero=>intro _;rw[List.take_zero,girF,List.foldl_nil];decide
  | succ k ih=>
   intro hk
   have h1:=ih (by omega)
   have h2:es.take (k+1)=es.take k++[es[k]]:=take_succ_get (List.getElem?_eq_getElem (by omega))
   rw[h2,girF_app]
   exact gst_hi nb _ _ h1.1 h1.2
 have:=key es.length (Nat.le_refl _)
 rwa [List.take_length] at this
theorem CyA_weak {G G':Nat→Prop}{o:Option (List Nat)}{v:Value}{w:World}(hG:∀b,G' b→G b)(h:(CyA G o).p v w):(CyA G' o).p v w:=by
 cases o with
 | none=>exact h
 | some out=>exact⟨h.1,Dv.weak h.2 fun b _ hb=>hG b hb⟩
theorem scyc_spec {G:Nat→Prop}{N:Nat}(g:GT)(ok:Gr.Ok g)(v:Value)(W:World)(hT:Tab W)(h:(Dv (ptE (grE N)) G (some g)).p v W)(hl1:g.1.length≤100000)(hl2:g.2.length≤100000)(hN:N≤1000000) :
  Calls Tryz.prog 36 #[v] W (Post (CyA G0 (shcF (nbA g) (vset g.1) (esN g))) W):=by
 have hgd:(Dv (ptE (grE N)) G0 (some g)).p v W:=Dv.weak h fun b _ hb=>hb.elim
 have gs1:=ok.sv
 have gs2:=ok.se
 obtain⟨l,hl⟩:∃l,l=nbL g (elems (vset g.1)):=⟨_,rfl⟩
 obtain⟨V,hV⟩:∃V,V=vset g.1:=⟨_,rfl⟩
 obtain⟨es,hes⟩:∃es,es=esN g:=⟨_,rfl⟩
 have hnb:nbA g=lkS l:=by rw[hl,nbA]
 have hti:=es_toI ok
 have hin:=es_in ok
 rw[hnb,← hV,← hes]
 rw[← hes] at hti hin
 rw[← hV] at hin
 have hel:es.length≤100000:=by rw[hes,esN,List.length_map];exact hl2
 have hmem:∀e∈es,e.1<1024∧e.2<1024∧e.1≠e.2∧((e.1:Int),lkS l (e.1:Int))∈l:=fun e he=>by
  obtain⟨h1,h2,h3⟩:=hin e he
  refine⟨bit_lt h2,bit_lt h3,by omega,?_⟩
  have h4:((e.1:Int),nbG g.2 (e.1:Int))∈l:=by
   rw[hl,nbL]
   exact List.mem_map.2 ⟨e.1,mem_elems.2 ⟨bit_lt h2,by rw[← hV];exact h2⟩,rfl⟩
  have h5:lkS l (e.1:Int)=nbG g.2 (e.1:Int):=by
   rw[hl,nbL,lkS_map (fun n=>nbG g.2 (n:Int)),if_pos (mem_elems.2 ⟨bit_lt h2,by rw[← hV];exact h2⟩)]
  rw[h5];exact h4
 have hgi:=girF_hi (lkS l) es
 have hT0:=hT.lt
 refine enterM (args:=[v]) (As:=[E v]) Tryz.func36 rfl Tryz.ntmps36 (Nat.le_of_ble_eq_true rfl) ?_ (fun a hf=>?_) (Nat.le_of_ble_eq_true rfl)
 ·exact arg1 rfl
 dsimp only[params,Nat.reduceAdd] at hf
 have e:=Ext.rfl' W
 refine seq <| regn0 <| tL I35 hf fun a b2 w e' hb2 hs2 B2 hf=>?_
 have hle2:=Nat.le_trans e.size (Nat.le_of_eq hb2.symm)
 obtain⟨hT,e⟩:=up2 e' hT e
 refine tl_nil ?_
 replace B2:Blk w b2 #[.slice none 0 0] 35:=B2
 have n2:W.heap.size≤b2:=hle2
 repeat refine seq ?_
 refine rgN 2 hf <| st (mv rfl) <| st (eqlP U26 (isE rfl (VA.st _ _ _ _ e hgd))) <| en fun a w e' hf=>?_
 obtain⟨hT,e,B2⟩:=up3 e' hT e B2
 refine tl_nil <| ifc hf rfl (fun h=>by cases h) (fun _=>?_)
 refine wskip ?_
 replace hf:=hf.kp [0,2]
 have e0:=e
 refine seq <| rgN 2 hf <| st (mv rfl) <| st (call1 (A:=AdjA l V 1024) En46 rfl (fun v w he k=>by cases k;rw[hl,hV];exact (of07_spec g _ w (hT.ext he) (VA.st _ _ _ _ (Ext.tr e0 he) hgd) gs1 gs2 hl1 hl2 hN).mono fun en w' ⟨k1,mq,k2,k3⟩=>⟨_,k2,k1,mq,rfl,k3⟩)) ?_
 refine en fun a w e' hf=>?_
 obtain⟨hT,e,B2⟩:=up3 e' hT e B2
 obtain⟨av,⟨mq,rfl,HV0⟩,hf⟩:=hf.opn 12 rfl
 obtain⟨cs,⟨bm0,nm0,rfl,_,hnm0,HM0⟩,hmq⟩:=HV0
 replace hmq:mq=.map (some bm0):=hmq
 subst hmq
 obtain⟨N1,hN1⟩:∃N1,N1=w.heap.size:=⟨_,rfl⟩
 have hN1s:N1≤w.heap.size:=Nat.le_of_eq hN1
 have hbm0:bm0<N1:=by rw[hN1];exact HM0.lt
 have hb2N:b2<N1:=by rw[hN1];exact B2.lt
 have hWN1:W.heap.size≤N1:=by rw[hN1];exact e.size
 replace hf:=hf.kp [0,2,12]
 have nm2:bm0≠b2:=HM0.neB B2
 refine tL I79 hf fun a b3 w e' hb3 hs3 B3 hf=>?_
 have hle3:=Nat.le_trans e.size (Nat.le_of_eq hb3.symm)
 have lo3_hN1s:=Nat.le_trans hN1s (Nat.le_of_eq hb3.symm)
 obtain⟨hT,HM0,hN1s,e,B2⟩:=up5 e' hT HM0 hN1s e B2
 have n3:N1≤b3:=lo3_hN1s
 refine tl_stW T79 hf rfl rfl (adC_one _ _) B3 rfl (adC_size _ _) fun w hg hsz B3 hf=>?_
 replace e:=e.gr hg (by omega);replace hT:=hT.gr hg (by omega);replace HM0:=HM0.gr hg (fun h=>by cases h;omega);replace B2:=B2.gr hg (by omega);replace hN1s:=Nat.le_trans hN1s hg.size;clear hg
 refine tl_nil ?_
 replace hf:=hf.kp [0,2,3]
 have e4:=e
 have hN4:=hN1s
 have l3':=B3.lt
 have l2':=B2.lt
 have hdv:=HM0.dvE hnm0 (G:=G0) (fun h=>h)
 obtain⟨n,hn⟩:∃n:Nat,girF (lkS l) es=(n:Int):=⟨(girF (lkS l) es).toNat,by omega⟩
 have hn2:n≤1026:=by omega
 refine seq <| rgG 5 Mix.mix hf <| st (ldW T79 rfl B3 (adC_size _ _)) <| st (mv rfl) <| st (call1 (A:=Dv (slE edE) G0 (es.map toI)) (B:=E v) En48 rfl (fun u w he k=>by cases k;rw[← hti];exact (ends_spec g v w (VA.st _ _ _ _ (Ext.tr e4 he) hgd) gs2 hl2 hN).mono fun en w' ⟨u,k1,k2,k3⟩=>⟨u,k1,k2,OwR.sl k3⟩)) ?_
 refine st (call2 (A:=E (I (n:Nat))) (B:=E (.agg (adC V (.map (some bm0))))) (C:=Dv (slE edE) G0 (es.map toI)) En84 rfl rfl (fun a b w he k1 k2=>by cases k1;rw[← hn];exact girth_spec l V es (.map (some bm0)) b w (hT.ext he) (Dv.ex hdv he) (by omega) hel k2 hmem)) ?_
 refine st (alD I3) <| en fun a w e' hf=>?_
 obtain⟨hT,HM0,hN1s,e,B2,B3⟩:=up6 e' hT HM0 hN1s e B2 B3
 obtain⟨v4,⟨b4,h4,rfl,B4⟩,hf⟩:=hf.fix 4 rfl
 have n4:N1≤b4∧b3≠b4∧b2≠b4:=⟨Nat.le_trans hN4 h4,by omega,by omega⟩
 replace hf:=hf.kp [2,3,4,16]
 refine tl_st1 T3 hf rfl rfl rfl B4 Nat.zero_lt_one fun w hg hsz B4 hf=>?_
 replace e:=e.gr hg (by omega);replace hT:=hT.gr hg (by omega);replace HM0:=HM0.gr hg (fun h=>by cases h;omega);replace B2:=B2.gr hg (by omega);replace B3:=B3.gr hg (by omega);replace hN1s:=Nat.le_trans hN1s hg.size;clear hg
 refine tl_nil ?_
 replace B4:Blk w b4 #[I (n:Nat)] 3:=B4
 replace hf:=hf.kp [2,3,4]
 by_cases hn0:n=0
 ·rw[shcF,if_pos (show girF (lkS l) es=0 by rw[hn,hn0];rfl)]
  repeat refine seq ?_
  refine rgN 2 hf <| st (ld1 (v:=I (n:Nat)) T3 rfl B4 rfl) <| st ((eql rfl rfl).eq (congrArg Value.bool (show ((n:Int)==0)=true by rw[hn0];rfl))) ?_
  refine en fun a w e' hf=>?_
  obtain⟨hT,HM0,hN1s,e,B2,B3,B4⟩:=up7 e' hT HM0 hN1s e B2 B3 B4
  refine tl_nil <| ifc hf rfl (fun _=>?_) (fun h=>by cases h)
  replace hf:=hf.kp [2]
  refine seq <| regn0 <| tl_st1 T35 hf rfl rfl rfl B2 Nat.zero_lt_one fun w hg hsz B2 hf=>?_
  replace e:=e.gr hg (by omega);clear hg
  refine tl_nil <| wret <| retc1M (D:=[]) rfl T35 hf rfl B2 (Ds.nil _) ⟨_,rfl,e,rfl⟩
 have hnz:((n:Int)==0)=false:=beq_eq_false_iff_ne.2 (by omega)
 have hgz:¬girF (lkS l) es=0:=by omega
 rw[shcF,if_neg hgz,hn,Int.toNat_natCast]
 repeat refine seq ?_
 refine rgN 2 hf <| st (ld1 (v:=I (n:Nat)) T3 rfl B4 rfl) <| st ((eql rfl rfl).eq (congrArg Value.bool (hnz))) <| en fun a w e' hf=>?_
 obtain⟨hT,HM0,hN1s,e,B2,B3,B4⟩:=up7 e' hT HM0 hN1s e B2 B3 B4
 refine tl_nil <| ifc hf rfl (fun h=>by cases h) (fun _=>?_)
 refine wskip ?_
 replace hf:=hf.kp [2,3,4]
 refine seq <| regn0 <| tP hf (fA U79 rfl T76 rfl) fun a w e' hf=>?_
 obtain⟨hT,HM0,hN1s,e,B2,B3,B4⟩:=up7 e' hT HM0 hN1s e B2 B3 B4
 refine tP hf ((ldP T76 rfl B3 (by rw[adC_size];decide)).eq (congrArg Value.agg (adC_set V (.map (some bm0))))) fun a w e' hf=>?_
 obtain⟨hT,HM0,hN1s,e,B2,B3,B4⟩:=up7 e' hT HM0 hN1s e B2 B3 B4
 refine tL I76 hf fun a b5 w e' hb5 hs5 B5 hf=>?_
 have lo5_hN1s:=Nat.le_trans hN1s (Nat.le_of_eq hb5.symm)
 have lt5_B2:=B2.lt
 have lt5_B3:=B3.lt
 have lt5_B4:=B4.lt
 obtain⟨hT,HM0,hN1s,e,B2,B3,B4⟩:=up7 e' hT HM0 hN1s e B2 B3 B4
 have n5:N1≤b5∧b3≠b5∧b4≠b5:=⟨lo5_hN1s,by omega⟩
 refine tl_stW T76 hf rfl rfl (wordsC_one _) B5 rfl (setC_size _) fun w hg hsz B5 hf=>?_
 replace e:=e.gr hg (by omega);replace hT:=hT.gr hg (by omega);replace HM0:=HM0.gr hg (fun h=>by cases h;omega);replace B2:=B2.gr hg (by omega);replace B3:=B3.gr hg (by omega);replace B4:=B4.gr hg (by omega);replace hN1s:=Nat.le_trans hN1s hg.size;clear hg
 refine tl_nil ?_
 replace hf:=hf.kp [2,3,4,5]
 obtain⟨Nz,hNz⟩:∃Nz,Nz=w.heap.size:=⟨_,rfl⟩
 repeat refine seq ?_
 refine rgN 3 hf <| st (fA U79 rfl T76 rfl) <| st ((ldP T76 rfl B3 (by rw[adC_size];decide)).eq (congrArg Value.agg (adC_set V (.map (some bm0))))) ?_
 refine st (call1 (A:=SeqA Nz V) En62 rfl (fun v w' he h=>by cases h;exact Calls.mono (all_spec _ w') (fun en w2 ⟨u,h1,h2,b',h3,h4,h5⟩=>⟨u,h1,h2,b',by have:=he.size;omega,h4,h5⟩))) ?_
 refine en fun a w e' hf=>?_
 obtain⟨hT,HM0,hN1s,e,B2,B3,B4,B5⟩:=up8 e' hT HM0 hN1s e B2 B3 B4 B5
 refine tl_nil ?_
 obtain⟨vv,⟨b23,h23,rfl,BS⟩,hf⟩:=hf.fix 23 rfl
 replace hf:=hf.kp [2,3,4,5,23]
 obtain⟨nb,hnb'⟩:∃nb,nb=lkS l:=⟨_,rfl⟩
 rw[← hnb']
 have hBW:W.heap.size≤w.heap.size:=e.size
 have h0w:0<w.heap.size:=hT.lt
 have l2:=B2.lt
 have l3:=B3.lt
 have l4:=B4.lt
 have l5:=B5.lt
 have lm:=HM0.lt
 refine blk <| range_all3 (S:=V) hf rfl BS (by decide) (fun s w1=>ScJ W nm0 bm0 l V b2 b3 b4 b5 n (.slice none 0 0) (delL V s) w1∧(∀rest,elems V=s++rest→scL nb V n (elems V) V=scL nb V n rest (delL V s)))
  (fun ex w1=>ex=.ret∧∃r out left,ScJ W nm0 bm0 l V b2 b3 b4 b5 n r left w1∧scL nb V n (elems V) V=some out∧out≠[]∧(Dv (slE intE) (fun b=>b<w.heap.size+3) (natE out)).p r w1) (fun s w1 h=>h.1.t)
  ⟨⟨e,hT,HM0,B2,B3,B4,B5⟩,fun rest hr=>by rw[List.nil_append] at hr;rw[← hr];rfl⟩ (fun s w1 w2 h hs k=>⟨h.1.kp k hBW h0w l2 l3 l4 l5 lm,h.2⟩)
  (fun ex w1 w2 ⟨q1,r,out,left,q2,q3,q4,q5⟩ hs k=>⟨q1,r,out,left,q2.kp k hBW h0w l2 l3 l4 l5 lm,q3,q4,Dv.ch q5 k.chg fun b hb=>hb.2⟩) ?_ ?_ ?_
 ·intro lp s x rest a1 w1 hs hJ hlw hf
  have hxV:V.getLsbD x=true:=(mem_elems.1 (by rw[hs];simp)).2
  have hx1024:x<1024:=bit_lt hxV
  generalize hBz:w.heap.size=Bz at *
  refine regn0 <| tA hf rfl fun a hf=>tl_nil <| ⟨Kh.rfl' _ _,fun w3 k3 hsz3=>?_⟩
  have hJ3:=hJ.1.kp k3 hBW h0w l2 l3 l4 l5 lm
  have hJs:=hJ.2
  have hw3:Bz+3≤w3.heap.size:=by omega
  replace hf:=hf.pure w3
  obtain⟨e,hT,HM0,B2,B3,B4,B5⟩:=hJ3
  have kh:=Kh.rfl' Bz w3
  obtain⟨left,hleft⟩:∃left,left=delL V s:=⟨_,rfl⟩
  have hdl:delL V (s++[x])=del left (x:Int):=by rw[delL_app,hleft]
  have hsc:=hJs (x::rest) hs
  rw[← hleft] at B5 hsc
  rw[scL] at hsc
  obtain⟨o,ho⟩:∃o,o=extF (nbWi nb (V &&& left)) x n n [x]:=⟨_,rfl⟩
  rw[← ho] at hsc
  have hwi:=lk_wi l (V &&& left)
  rw[← hnb'] at hwi
  have hdv:=HM0.dvE hnm0 (G:=G0) (fun h=>h)
  replace hf:=hf.kp [2,3,4,5,6]
  refine blk ?_
  have e10:=e
  refine seq <| rgN 3 hf <| st (ldW T79 rfl B3 (adC_size _ _)) <| st ((ldW T76 rfl B5 rfl).eq ((rfl:_=setV left))) <| st (call2 (A:=AdjA (wiL l (V &&& left)) (V &&& left) 1024) (B:=E (.agg (adC V (.map (some bm0))))) (C:=E (setV left)) En58 rfl rfl (fun a b w he k1 k2=>by cases k1;cases k2;exact within_spec l V left (.map (some bm0)) w (hT.ext he) (Dv.ex hdv he))) ?_
  refine en fun a w e' hf=>?_
  obtain⟨hT,HM0⟩:=up2 e' hT HM0
  replace kh:=kh.tr (Kh.ext e')
  obtain⟨hw3,e,B2,B3,B4,B5⟩:=up6 e' hw3 e B2 B3 B4 B5
  obtain⟨av,⟨mq7,rfl,HV7⟩,hf⟩:=hf.opn 27 rfl
  obtain⟨cs7,⟨bm7,nm7,rfl,_,hnm7,HM7⟩,hmq7⟩:=HV7
  replace hmq7:mq7=.map (some bm7):=hmq7
  subst hmq7
  have hbn7:bm7≠b5:=HM7.neB B5
  replace hf:=hf.kp [2,3,4,5,6,27]
  obtain⟨N7,hN7⟩:∃N7,N7=w.heap.size:=⟨_,rfl⟩
  have hN7s:N7≤w.heap.size:=Nat.le_of_eq hN7
  have hl7:b2<N7∧b3<N7∧b4<N7∧b5<N7∧bm0<N7∧bm7<N7∧Bz+3≤N7:=by have:=HM7.lt;omega
  refine tL I79 hf fun a b7 w e' hb7 hs7 B7 hf=>?_
  have hle7:=Nat.le_trans e.size (Nat.le_of_eq hb7.symm)
  have lo7_hN7s:=Nat.le_trans hN7s (Nat.le_of_eq hb7.symm)
  obtain⟨hT,HM0,HM7⟩:=up3 e' hT HM0 HM7
  replace kh:=kh.tr (Kh.ext e')
  obtain⟨hN7s,e,B2,B3,B4,B5⟩:=up6 e' hN7s e B2 B3 B4 B5
  have n7:N7≤b7:=lo7_hN7s
  refine tl_stW T79 hf rfl rfl (adC_one _ _) B7 rfl (adC_size _ _) fun w hg hsz B7 hf=>?_
  replace e:=e.gr hg (by omega);replace hT:=hT.gr hg (by omega);replace HM0:=HM0.gr hg (fun h=>by cases h;omega);replace HM7:=HM7.gr hg (fun h=>by cases h;omega);replace B2:=B2.gr hg (by omega);replace B3:=B3.gr hg (by omega);replace B4:=B4.gr hg (by omega);replace B5:=B5.gr hg (by omega);replace kh:=kh.tr (Kh.gr hg (fun hh=>by have:=hh.2;omega));clear hg hN7s
  refine tl_nil ?_
  replace hf:=hf.kp [2,3,4,5,6,7]
  refine seq <| rgN 3 hf <| st ((ldW T76 rfl B5 rfl).eq ((rfl:_=setV left))) <| st (mv rfl) <| st (call2 (A:=E (setV (del left (x:Int)))) (B:=E (setV left)) (C:=E (I (x:Nat))) En59 rfl rfl (fun v u w he h h'=>by cases h;cases h';exact without_spec _ _ w)) ?_
  refine en fun a w e' hf=>?_
  obtain⟨hT,HM0,HM7⟩:=up3 e' hT HM0 HM7
  replace kh:=kh.tr (Kh.ext e')
  obtain⟨e,B2,B3,B4,B5,B7⟩:=up6 e' e B2 B3 B4 B5 B7
  refine tl_stW T76 hf rfl rfl (wordsC_one _) B5 (setC_size _) (setC_size _) fun w hg hsz B5 hf=>?_
  replace e:=e.gr hg (by omega);replace hT:=hT.gr hg (by omega);replace HM0:=HM0.gr hg (fun h=>by cases h;omega);replace HM7:=HM7.gr hg (fun h=>by cases h;omega);replace B2:=B2.gr hg (by omega);replace B3:=B3.gr hg (by omega);replace B4:=B4.gr hg (by omega);replace B7:=B7.gr hg (by omega);replace kh:=kh.tr (Kh.gr hg (fun hh=>by have:=hh.1;omega));clear hg
  refine tl_nil ?_
  replace hf:=hf.kp [2,3,4,5,6,7]
  obtain⟨S7,hS7⟩:∃S7,S7=V &&& left:=⟨_,rfl⟩
  rw[← hS7] at B7 HM7 hwi ho
  obtain⟨N8,hN8⟩:∃N8,N8=w.heap.size:=⟨_,rfl⟩
  have hN8s:N8≤w.heap.size:=Nat.le_of_eq hN8
  have hN8b:Bz+3≤N8:=by have:=kh.size;omega
  have hdv7:=HM7.dvE hnm7 (G:=G0) (fun h=>h)
  refine seq <| rgN 4 hf <| st (ldW T79 rfl B7 (adC_size _ _)) <| st (mv rfl) <| st (ld1 (v:=I (n:Nat)) T3 rfl B4 rfl) <| st (call3 (A:=CyA (fun b=>b<N8) o) (B:=E (.agg (adC S7 (.map (some bm7))))) (C:=E (I (x:Nat))) (D:=E (I (n:Nat))) En85 rfl rfl rfl (fun a b c w he k1 k2 k3=>by cases k1;cases k2;cases k3;rw[ho,← hwi];exact (cycle_spec (wiL l S7) S7 (.map (some bm7)) x n w (hT.ext he) (Dv.ex hdv7 he) hx1024 (by omega) (by omega)).mono fun en w' ⟨z,q1,q2,q3⟩=>⟨z,q1,q2,CyA_weak (fun b hb=>Nat.lt_of_lt_of_le hb (Nat.le_trans hN8s he.size)) q3⟩)) ?_
  refine en fun a w e' hf=>?_
  obtain⟨hT,HM0⟩:=up2 e' hT HM0
  replace kh:=kh.tr (Kh.ext e')
  obtain⟨e,B2,B3,B4,B5⟩:=up5 e' e B2 B3 B4 B5
  refine tA hf rfl fun a hf=>tl_nil ?_
  obtain⟨r,hr,hf⟩:=hf.opn 8 rfl
  replace hf:=hf.kp [2,3,4,5,6,8]
  cases o with
  | none=>
   obtain rfl:r=.slice none 0 0:=hr
   refine seq <| rgN 2 hf <| st (mv rfl) <| st (neqNil U35 rfl) <| en fun a w e' hf=>?_
   obtain⟨hT,HM0⟩:=up2 e' hT HM0
   replace kh:=kh.tr (Kh.ext e')
   obtain⟨e,B2,B3,B4,B5⟩:=up5 e' e B2 B3 B4 B5
   refine tl_nil <| ifc hf rfl (fun h=>by cases h) (fun _=>?_)
   refine wskip <| ⟨⟨⟨e,hT,HM0,B2,B3,B4,by rw[hdl];exact B5⟩,fun rest' hr'=>by
    have:rest'=rest:=by rw[hs,List.append_assoc] at hr';simpa using hr'.symm
    rw[this,hdl];exact hsc⟩,kh⟩
  | some out=>
   obtain⟨hr1,hr2⟩:=hr
   have hro:r.oneCell'=true:=Dv.slOne hr2
   have hne2:natE out≠[]:=fun h=>hr1 (by rw[natE] at h;exact List.map_eq_nil_iff.1 h)
   obtain⟨ad,n',c',hre⟩:=slSome hr2 hne2
   have HR:(Dv (slE intE) (fun b=>b<Bz+3) (natE out)).p r w:=Dv.weak hr2 fun b _ hb=>by omega
   subst hre
   refine seq <| rgN 2 hf <| st (mv rfl) <| st (neqNil U35 rfl) <| en fun a w e' hf=>?_
   obtain⟨hT,HM0⟩:=up2 e' hT HM0
   replace kh:=kh.tr (Kh.ext e')
   obtain⟨HR,e,B2,B3,B4,B5⟩:=up6 e' HR e B2 B3 B4 B5
   refine tl_nil <| ifc hf rfl (fun _=>?_) (fun h=>by cases h)
   refine seq <| rgN 1 hf <| st (mv rfl) <| en fun a w e' hf=>?_
   obtain⟨hT,HM0⟩:=up2 e' hT HM0
   replace kh:=kh.tr (Kh.ext e')
   obtain⟨HR,e,B2,B3,B4,B5⟩:=up6 e' HR e B2 B3 B4 B5
   refine tl_st1 T35 hf rfl rfl hro B2 Nat.zero_lt_one fun w hg hsz B2 hf=>?_
   replace e:=e.gr hg (by omega);replace hT:=hT.gr hg (by omega);replace HM0:=HM0.gr hg (fun h=>by cases h;omega);replace B3:=B3.gr hg (by omega);replace B4:=B4.gr hg (by omega);replace B5:=B5.gr hg (by omega);replace HR:=Dv.gr HR hg (by omega);replace kh:=kh.tr (Kh.gr hg (fun hh=>by have:=hh.1;omega));clear hg
   refine tl_nil <| wret <| ⟨⟨rfl,_,out,_,⟨e,hT,HM0,B2,B3,B4,B5⟩,hsc,hr1,HR⟩,kh⟩
 ·intro a' w' hf' hJ hsz hDn
  simp only[Exit.inBlock,↓reduceIte,Exit.then]
  have hfs:=hJ.2 [] (by rw[List.append_nil])
  rw[hfs,scL]
  have hD:Ds [w.heap.size] w':=(Ds.nil w').cons hDn (by simp)
  have hf:FrD 38 (marks [w.heap.size]) a' w' [(2,E (ptr b2))]:=hf'.keep [2]
  have hDW:∀d∈[w.heap.size],W.heap.size≤d:=fun d hd=>by rw[List.mem_singleton] at hd;omega
  obtain⟨e,hT,HM0,B2,B3,B4,B5⟩:=hJ.1
  have hb2:=hD.ne B2
  generalize [w.heap.size]=D2 at *
  generalize w'=w at *
  refine seq <| regn0 <| tl_st1 T35 hf rfl rfl rfl B2 Nat.zero_lt_one fun w hg hsz B2 hf=>?_
  replace e:=e.gr hg (by omega)
  replace hD:=hD.gr hg hb2
  refine tl_nil <| wret <| retc1M rfl T35 hf rfl B2 hD ⟨_,rfl,e.shut hDW,rfl⟩
 ·intro ex c a' w' hcd hf' hX hsz hDn
  obtain⟨rfl,r,out,left,hJ,hfs,hr1,HR⟩:=hX
  simp only[Exit.inBlock,↓reduceIte,Exit.then]
  rw[hfs]
  have hD:Ds [w.heap.size] w':=(Ds.nil w').cons hDn (by simp)
  have hf:FrD 38 (marks [w.heap.size]) a' w' [(2,E (ptr b2))]:=hf'.keep [2]
  have hDW:∀d∈[w.heap.size],W.heap.size≤d:=fun d hd=>by rw[List.mem_singleton] at hd;omega
  refine retc1M rfl T35 hf rfl hJ.p2 hD ⟨_,rfl,hJ.e.shut hDW,hr1,?_⟩
  exact Dv.weak (Dv.ch HR (chg_shut _ _) fun b hb=>by rw[List.mem_singleton] at hb;show b<_;omega) fun b _ hb=>hb.elim
def vn (g:GT)(p:Nat):Nat:=((g.1[p]?).map fun x=>x.1.toNat).getD 0
theorem nbWi_bit {nb:Int→BS}{S:BS}{i j:Nat}:(nbWi nb S (i:Int)).getLsbD j=true↔S.getLsbD i=true∧(nb (i:Int)).getLsbD j=true∧S.getLsbD j=true:=by
 rw[nbWi]
 split
 ·rename_i h
  rw[bit_and]
  exact⟨fun hh=>⟨(has_bit S i).1 h,hh⟩,fun hh=>hh.2⟩
 ·rename_i h
  exact⟨fun hh=>absurd hh (bit_zero j),fun hh=>absurd ((has_bit S i).2 hh.1) h⟩
def cpt (nb:Int→BS)(a:Nat):BS:=unL (lvB nb a)
theorem natE_inj {l m:List Nat}(h:natE l=natE m):l=m:=(List.map_inj_right (f:=fun i:Nat=>(i:Int)) fun {x y} h=>by omega).1 h
theorem sorted_eqN (l m:List Nat)(hl:l.Pairwise (· < ·))(hm:m.Pairwise (· < ·))(h:∀x,x∈l↔x∈m):l=m:=
 natE_inj (sorted_eq _ _ (List.pairwise_map.2 (hl.imp fun h=>by omega)) (List.pairwise_map.2 (hm.imp fun h=>by omega)) fun x=>by
  simp only[natE,List.mem_map]
  exact⟨fun⟨y,hy,e⟩=>⟨y,(h y).1 hy,e⟩,fun⟨y,hy,e⟩=>⟨y,(h y).2 hy,e⟩⟩)
section
variable {nb:Int→BS}{V:BS}
theorem cpt_mem {a:Nat}(ha:a<1024):(cpt nb a).getLsbD a=true:=(lvB_ok (nb:=nb) ha).1
theorem cpt_cl {a:Nat}(ha:a<1024):∀i j:Nat,(cpt nb a).getLsbD i=true→(nb (i:Int)).getLsbD j=true→(cpt nb a).getLsbD j=true:=(lvB_ok (nb:=nb) ha).2.1
theorem cpt_least {a:Nat}(ha:a<1024)(K:BS)(hK:K.getLsbD a=true)(hc:∀i j:Nat,K.getLsbD i=true→(nb (i:Int)).getLsbD j=true→K.getLsbD j=true):∀i,(cpt nb a).getLsbD i=true→K.getLsbD i=true:=(lvB_ok (nb:=nb) ha).2.2 K hK hc
theorem cpt_symm (hs:∀i j:Nat,(nb (i:Int)).getLsbD j=true→(nb (j:Int)).getLsbD i=true){a b:Nat}(ha:a<1024)(h:(cpt nb a).getLsbD b=true):(cpt nb b).getLsbD a=true:=by
 have hb:b<1024:=bit_lt h
 refine Classical.byContradiction fun hn=>?_
 have key:=cpt_least (nb:=nb) ha (cpt nb a &&& ~~~cpt nb b) ((bit_diff _ _ _).2 ⟨cpt_mem ha,hn⟩) (fun i j hi hij=>by
  obtain⟨h1,h2⟩:=(bit_diff _ _ _).1 hi
  exact (bit_diff _ _ _).2 ⟨cpt_cl ha i j h1 hij,fun hh=>h2 (cpt_cl hb j i hh (hs i j hij))⟩) b h
 exact ((bit_diff _ _ _).1 key).2 (cpt_mem hb)
theorem cpt_eq (hs:∀i j:Nat,(nb (i:Int)).getLsbD j=true→(nb (j:Int)).getLsbD i=true){a b:Nat}(ha:a<1024)(h:(cpt nb a).getLsbD b=true):cpt nb b=cpt nb a:=by
 have hb:b<1024:=bit_lt h
 exact set_ext' fun i=>⟨cpt_least hb _ h (cpt_cl ha) i,cpt_least ha _ (cpt_symm hs ha h) (cpt_cl hb) i⟩
theorem elems_split {S T:BS}{a:Nat}(ha:S.getLsbD a=true)(hmin:∀j,j<a→S.getLsbD j=false)(p:Nat→Bool)(hp:p a=true)(hT:∀v,p v=true→(T.getLsbD v=true↔S.getLsbD v=true∧v≠a)):(elems S).filter p=a::(elems T).filter p:=by
 refine sorted_eqN _ _ ((elems_pair S).filter _) (List.pairwise_cons.2 ⟨fun v hv=>?_,(elems_pair T).filter _⟩) fun v=>?_
 ·obtain⟨h1,h2⟩:=List.mem_filter.1 hv
  obtain⟨h3,h4⟩:=(hT v h2).1 (mem_elems.1 h1).2
  refine Classical.byContradiction fun hn=>?_
  have:=hmin v (by omega)
  rw[h3] at this;cases this
 ·rw[List.mem_cons,List.mem_filter,List.mem_filter]
  constructor
  ·rintro⟨h1,h2⟩
   by_cases hv:v=a
   ·exact .inl hv
   ·exact .inr ⟨mem_elems.2 ⟨(mem_elems.1 h1).1,(hT v h2).2 ⟨(mem_elems.1 h1).2,hv⟩⟩,h2⟩
  ·rintro (rfl|⟨h1,h2⟩)
   ·exact⟨mem_elems.2 ⟨bit_lt ha,ha⟩,hp⟩
   ·exact⟨mem_elems.2 ⟨(mem_elems.1 h1).1,((hT v h2).1 (mem_elems.1 h1).2).1⟩,h2⟩
theorem pr_filter (hs:∀i j:Nat,(nb (i:Int)).getLsbD j=true→(nb (j:Int)).getLsbD i=true):∀(f:Nat) (left:BS),card left≤f→(∀i j:Nat,left.getLsbD i=true→(nb (i:Int)).getLsbD j=true→left.getLsbD j=true) →
  prF nb f left=((elems left).filter fun v=>decide (minOf (cpt nb v)=some v)).map (cpt nb):=by
 intro f
 induction f with
 | zero=>
  intro left hc hcl
  have h0:elems left=[]:=List.eq_nil_iff_forall_not_mem.2 fun v hv=>by have:=card_pos (mem_elems.1 hv).2;omega
  show ([]:List BS)=_
  generalize elems left=l at h0 ⊢
  rw[h0];rfl
 | succ f ih=>
  intro left hc hcl
  cases hm:minOf left with
  | none=>
   have h0:elems left=[]:=List.eq_nil_iff_forall_not_mem.2 fun v hv=>by
    have h1:=(mem_elems.1 hv).2
    rw[minOf_none.1 hm] at h1;exact bit_zero _ h1
   rw[prF_none hm]
   generalize elems left=l at h0 ⊢
   rw[h0];rfl
  | some a=>
   obtain⟨ha,hal,hmin⟩:=minOf_some.1 hm
   have hsub:∀i,(cpt nb a).getLsbD i=true→left.getLsbD i=true:=cpt_least ha left hal hcl
   have hma:minOf (cpt nb a)=some a:=minOf_some.2 ⟨ha,cpt_mem ha,fun j hj=>by
    cases h:(cpt nb a).getLsbD j with
    | false=>rfl
    | true=>rw[← hmin j hj];exact (hsub j h).symm⟩
   rw[prF_some hm,ih (left &&& ~~~unL (lvB nb a))]
   ·obtain⟨p,hp⟩:∃p:Nat→Bool,p=fun v=>decide (minOf (cpt nb v)=some v):=⟨_,rfl⟩
    have hpa:p a=true:=by rw[hp];exact decide_eq_true hma
    have hpv:∀v,p v=true→minOf (cpt nb v)=some v:=fun v h=>by rw[hp] at h;exact of_decide_eq_true h
    rw[← hp]
    rw[elems_split (T:=left &&& ~~~unL (lvB nb a)) hal hmin p hpa fun v hv=>?_]
    ·rw[List.map_cons];rfl
    ·rw[bit_diff]
     refine and_congr_right fun hl=>⟨fun h e=>h (by rw[e];exact cpt_mem ha),fun h e=>h ?_⟩
     have h1:=hpv v hv
     rw[cpt_eq hs ha e,hma] at h1
     exact (Option.some.inj h1).symm
   ·have:=card_lt (S:=left &&& ~~~unL (lvB nb a)) (T:=left) (z:=a) (fun i hi=>((bit_diff _ _ _).1 hi).1) hal fun h=>((bit_diff _ _ _).1 h).2 (cpt_mem ha)
    omega
   ·intro i j hi hij
    obtain⟨h1,h2⟩:=(bit_diff _ _ _).1 hi
    exact (bit_diff _ _ _).2 ⟨hcl i j h1 hij,fun h=>h2 (cpt_cl ha j i h (hs i j hij))⟩
def rcS (s:BS)(e:Nat×Nat):BS:=if (s.getLsbD e.1 || s.getLsbD e.2)=true then ins (ins s (e.1:Int)) (e.2:Int) else s
def rcP (es:List (Nat×Nat))(s:BS):BS:=es.foldl rcS s
def rcN (es:List (Nat×Nat))(s:BS):Nat→BS
 | 0=>s
 | n+1=>rcP es (rcN es s n)
theorem rcS_bit {s:BS}{e:Nat×Nat}(h1:e.1<1024)(h2:e.2<1024)(i:Nat):(rcS s e).getLsbD i=true↔s.getLsbD i=true∨((s.getLsbD e.1=true∨s.getLsbD e.2=true)∧(i=e.1∨i=e.2)):=by
 rw[rcS]
 split
 ·rename_i h
  rw[Bool.or_eq_true] at h
  rw[bit_ins _ h2,bit_ins _ h1]
  constructor
  ·rintro ((h3|h3)|h3)
   ·exact .inl h3
   ·exact .inr ⟨h,.inl h3⟩
   ·exact .inr ⟨h,.inr h3⟩
  ·rintro (h3|⟨_,h3|h3⟩)
   ·exact .inl (.inl h3)
   ·exact .inl (.inr h3)
   ·exact .inr h3
 ·rename_i h
  rw[Bool.or_eq_true] at h
  exact⟨.inl,fun hh=>hh.elim id fun hh=>absurd hh.1 h⟩
theorem rcP_up {es:List (Nat×Nat)}(hb:∀e∈es,e.1<1024∧e.2<1024):∀s i,s.getLsbD i=true→(rcP es s).getLsbD i=true:=by
 induction es with
 | nil=>intro s i h;exact h
 | cons e es ih=>
  intro s i h
  have h1:=hb e (List.mem_cons_self ..)
  exact ih (fun e he=>hb e (List.mem_cons_of_mem _ he)) (rcS s e) i ((rcS_bit h1.1 h1.2 i).2 (.inl h))
theorem rcP_in {es:List (Nat×Nat)}(hb:∀e∈es,e.1<1024∧e.2<1024){C:BS}(hC:∀e∈es,C.getLsbD e.1=true∨C.getLsbD e.2=true→C.getLsbD e.1=true∧C.getLsbD e.2=true):∀s,(∀i,s.getLsbD i=true→C.getLsbD i=true)→∀i,(rcP es s).getLsbD i=true→C.getLsbD i=true:=by
 induction es with
 | nil=>intro s h;exact h
 | cons e es ih=>
  intro s h
  have h1:=hb e (List.mem_cons_self ..)
  refine ih (fun e he=>hb e (List.mem_cons_of_mem _ he)) (fun e he=>hC e (List.mem_cons_of_mem _ he)) (rcS s e) fun i hi=>?_
  rcases (rcS_bit h1.1 h1.2 i).1 hi with hi|⟨h2,h3⟩
  ·exact h i hi
  ·have h4:=hC e (List.mem_cons_self ..) (h2.imp (h _) (h _))
   rcases h3 with rfl|rfl
   ·exact h4.1
   ·exact h4.2
theorem rcP_both {es:List (Nat×Nat)}(hb:∀e∈es,e.1<1024∧e.2<1024):∀s,∀e∈es,s.getLsbD e.1=true∨s.getLsbD e.2=true→(rcP es s).getLsbD e.1=true∧(rcP es s).getLsbD e.2=true:=by
 induction es with
 | nil=>intro s e he;cases he
 | cons d es ih=>
  intro s e he h
  have h1:=hb d (List.mem_cons_self ..)
  have hb':∀e∈es,e.1<1024∧e.2<1024:=fun e he=>hb e (List.mem_cons_of_mem _ he)
  show (rcP es (rcS s d)).getLsbD e.1=true∧(rcP es (rcS s d)).getLsbD e.2=true
  rcases List.mem_cons.1 he with rfl|he
  ·exact⟨rcP_up hb' _ _ ((rcS_bit h1.1 h1.2 _).2 (.inr ⟨h,.inl rfl⟩)),rcP_up hb' _ _ ((rcS_bit h1.1 h1.2 _).2 (.inr ⟨h,.inr rfl⟩))⟩
  ·exact ih hb' (rcS s d) e he (h.imp (fun h=>(rcS_bit h1.1 h1.2 _).2 (.inl h)) fun h=>(rcS_bit h1.1 h1.2 _).2 (.inl h))
theorem rcN_card {es:List (Nat×Nat)}(hb:∀e∈es,e.1<1024∧e.2<1024){s:BS}(hs:1≤card s):∀n,rcP es (rcN es s n)=rcN es s n∨n+1≤card (rcN es s n):=by
 intro n
 induction n with
 | zero=>exact .inr hs
 | succ n ih=>
  by_cases h:rcP es (rcN es s n)=rcN es s n
  ·left
   show rcP es (rcP es (rcN es s n))=rcP es (rcN es s n)
   rw[h,h]
  ·have h1:=ih.resolve_left h
   right
   have h2:card (rcN es s n)<card (rcN es s (n+1)):=by
    refine Classical.byContradiction fun hn=>h <| (card_eq_sub (rcP_up hb _) ?_).symm
    have:=card_mono (rcP_up hb (rcN es s n))
    have h3:card (rcN es s (n+1))=card (rcP es (rcN es s n)):=rfl
    omega
   omega
theorem rcN_is (hs:∀i j:Nat,(nb (i:Int)).getLsbD j=true→(nb (j:Int)).getLsbD i=true){es:List (Nat×Nat)}(hb:∀e∈es,e.1<1024∧e.2<1024)(hes:∀i j:Nat,(nb (i:Int)).getLsbD j=true↔(i,j)∈es∨(j,i)∈es){a n:Nat}(ha:a<1024)(hn:card (cpt nb a)≤n):rcN es (ins 0 (a:Int)) n=cpt nb a:=by
 have h1:∀i,(ins 0 (a:Int)).getLsbD i=true↔i=a:=fun i=>by
  rw[bit_ins _ ha]
  exact⟨fun h=>h.resolve_left (bit_zero i),.inr⟩
 have hc1:1≤card (ins 0 (a:Int)):=card_pos ((h1 a).2 rfl)
 have hC:∀e∈es,(cpt nb a).getLsbD e.1=true∨(cpt nb a).getLsbD e.2=true→(cpt nb a).getLsbD e.1=true∧(cpt nb a).getLsbD e.2=true:=fun e he h=>by
  rcases h with h|h
  ·exact⟨h,cpt_cl ha _ _ h ((hes _ _).2 (.inl he))⟩
  ·exact⟨cpt_cl ha _ _ h ((hes _ _).2 (.inr he)),h⟩
 have hsub:∀n i,(rcN es (ins 0 (a:Int)) n).getLsbD i=true→(cpt nb a).getLsbD i=true:=by
  intro n
  induction n with
  | zero=>intro i hi;rw[(h1 i).1 hi];exact cpt_mem ha
  | succ n ih=>exact rcP_in hb hC _ ih
 have hin:∀n,(rcN es (ins 0 (a:Int)) n).getLsbD a=true:=by
  intro n
  induction n with
  | zero=>exact (h1 a).2 rfl
  | succ n ih=>exact rcP_up hb _ _ ih
 rcases rcN_card hb hc1 n with h|h
 ·refine set_ext' fun i=>⟨hsub n i,cpt_least ha _ (hin n) (fun i j hi hij=>?_) i⟩
  rcases (hes i j).1 hij with he|he
  ·have:=rcP_both hb (rcN es (ins 0 (a:Int)) n) _ he (.inl hi)
   rw[h] at this;exact this.2
  ·have:=rcP_both hb (rcN es (ins 0 (a:Int)) n) _ he (.inr hi)
   rw[h] at this;exact this.1
 ·have:=card_mono (hsub n)
  omega
end
theorem cpt_in {g:GT}(G:Gr.Ok g){a:Nat}(ha:(vset g.1).getLsbD a=true):∀i,(cpt (nbA g) a).getLsbD i=true→(vset g.1).getLsbD i=true:=
 cpt_least (bit_lt ha) _ ha fun i j _ hij=>nb_in G i j hij
theorem cpt_card {g:GT}(G:Gr.Ok g){a:Nat}(ha:(vset g.1).getLsbD a=true):card (cpt (nbA g) a)≤g.1.length:=by
 rw[← card_vs G];exact card_mono (cpt_in G ha)
theorem reach_is {g:GT}(G:Gr.Ok g){a:Nat}(ha:(vset g.1).getLsbD a=true):rcN (esN g) (ins 0 (a:Int)) g.1.length=cpt (nbA g) a:=
 rcN_is (nb_symm G) (fun e he=>⟨bit_lt (es_in G e he).2.1,bit_lt (es_in G e he).2.2⟩) (fun i j=>(nbA_bit G).trans (es_adj G i j)) (bit_lt ha) (cpt_card G ha)
theorem ids_in {g:GT}(G:Gr.Ok g){C:BS}(hC:∀i,C.getLsbD i=true→(vset g.1).getLsbD i=true):(idsG g).filter (fun x=>has C x)=elL C:=by
 refine sorted_eq _ _ ((ids_sorted G).filter _) (natE_sorted C) fun x=>?_
 rw[List.mem_filter,← ids_elems G,elL,natE,natE,List.mem_map,List.mem_map]
 constructor
 ·rintro⟨⟨y,hy,rfl⟩,h⟩
  have:=(has_bit C y).1 h
  exact⟨y,mem_elems.2 ⟨bit_lt this,this⟩,rfl⟩
 ·rintro⟨y,hy,rfl⟩
  obtain⟨h1,h2⟩:=mem_elems.1 hy
  exact⟨⟨y,mem_elems.2 ⟨h1,hC y h2⟩,rfl⟩,(has_bit C y).2 h2⟩
theorem elems_nil {C:BS}(h:minOf C=none):elems C=[]:=List.eq_nil_iff_forall_not_mem.2 fun v hv=>by
 have h1:=(mem_elems.1 hv).2
 rw[minOf_none.1 h] at h1;exact bit_zero _ h1
theorem elL_head (C:BS):(natE (elems C))[0]?=(minOf C).map fun i:Nat=>(i:Int):=by
 cases h:minOf C with
 | none=>
  have h0:elems C=[]:=elems_nil h
  generalize elems C=l at h0 ⊢
  rw[h0];rfl
 | some a=>
  obtain⟨ha,hal,hmin⟩:=minOf_some.1 h
  have h1:=elems_split (T:=C &&& ~~~(ins 0 (a:Int))) hal hmin (fun _=>true) rfl fun v _=>by
   rw[bit_diff,bit_ins _ ha]
   exact and_congr_right fun _=>⟨fun h e=>h (.inr e),fun h e=>e.elim (bit_zero v) h⟩
  rw[List.filter_eq_self.2 fun _ _=>rfl] at h1
  rw[List.filter_eq_self.2 fun _ _=>rfl] at h1
  generalize elems (C &&& ~~~(ins 0 (a:Int)))=m at h1
  generalize elems C=l at h1 ⊢
  rw[h1];rfl
def ptF (g:GT):List (List Int):=((elems (vset g.1)).filter fun v=>decide (minOf (cpt (nbA g) v)=some v)).map fun v=>elL (cpt (nbA g) v)
theorem comps_ref {g:GT}(G:Gr.Ok g):(prF (nbA g) (card (vset g.1)) (vset g.1)).map elL=ptF g:=by
 rw[pr_filter (nb_symm G) _ _ (Nat.le_refl _) fun i j _ hij=>nb_in G i j hij,List.map_map,ptF,Function.comp_def]
section
variable {nb:Int→BS}
def dsT (nb:Int→BS)(b x:Nat):Int:=farF (lvB nb b) x
theorem one_bit {a:Nat}(ha:a<1024)(i:Nat):(ins 0 (a:Int)).getLsbD i=true↔i=a:=by
 rw[bit_ins _ ha]
 exact⟨fun h=>h.resolve_left (bit_zero i),.inr⟩
theorem ds_walk {b m:Nat}(hb:b<1024)(q:Nat→Nat)(h0:q 0=b)(hq:∀i,i<m→(nb (q i:Int)).getLsbD (q (i+1))=true):0≤dsT nb b (q m)∧dsT nb b (q m)≤m:=by
 obtain⟨k,T,h1,h2,h3⟩:=lv_far hb q h0 m hq
 have:=farF_le h2 h3
 rw[dsT];omega
theorem ds_path {b x k:Nat}(hb:b<1024)(h:dsT nb b x=(k:Int)):∃q:Nat→Nat,q 0=b∧q k=x∧∀i,i<k→(nb (q i:Int)).getLsbD (q (i+1))=true:=by
 obtain⟨T,h1,h2⟩:=farF_some h
 rw[lvB] at h1
 obtain⟨p,p1,p2,_,p4⟩:=lv_path _ _ _ _ _ _ h1 h2
 exact⟨p,(one_bit hb _).1 p1,p2,p4⟩
theorem ds_lo (b x:Nat) : -1≤dsT nb b x:=farF_lo _ _
theorem ds_level {b x k:Nat}:dsT nb b x=(k:Int)↔∃T,(lvB nb b)[k]?=some T∧T.getLsbD x=true:=by
 refine⟨farF_some,fun⟨T,h1,h2⟩=>?_⟩
 obtain⟨h3,h4⟩:=farF_le h1 h2
 obtain⟨j,hj⟩:∃j:Nat,farF (lvB nb b) x=(j:Int):=⟨(farF (lvB nb b) x).toNat,by omega⟩
 obtain⟨U,h5,h6⟩:=farF_some hj
 rw[dsT,hj]
 by_cases hjk:j=k
 ·rw[hjk]
 ·rw[lvB] at h1 h5
  exact absurd h2 (lv_dis _ _ _ (fun i h=>h) j k x U T (by omega) h5 h1 h6)
section
theorem ds_step {b x y:Nat}(hb:b<1024)(hx:0≤dsT nb b x)(h:(nb (x:Int)).getLsbD y=true):0≤dsT nb b y∧dsT nb b y≤dsT nb b x+1:=by
 obtain⟨k,hk⟩:∃k:Nat,dsT nb b x=(k:Int):=⟨(dsT nb b x).toNat,by omega⟩
 obtain⟨q,q0,qk,hq⟩:=ds_path hb hk
 have:=ds_walk (nb:=nb) (m:=k+1) hb (fun i=>if i=k+1 then y else q i) (by simpa using q0) fun i hi=>by
  by_cases hik:i=k
  ·subst hik;simp[qk,h]
  ·have h1:¬i=k+1:=by omega
   have h2:¬i+1=k+1:=by omega
   simp only[h1,h2,if_false]
   exact hq i (by omega)
 simp only[if_true] at this
 omega
theorem ds_back (hs:∀i j:Nat,(nb (i:Int)).getLsbD j=true→(nb (j:Int)).getLsbD i=true){b x k:Nat}(hb:b<1024)(h:dsT nb b x=((k+1:Nat):Int)):∃y,(nb (x:Int)).getLsbD y=true∧dsT nb b y=(k:Int):=by
 obtain⟨q,q0,qk,hq⟩:=ds_path hb h
 have h1:=ds_walk (nb:=nb) (m:=k) hb q q0 fun i hi=>hq i (by omega)
 have h2:=hq k (by omega)
 rw[qk] at h2
 have h3:=ds_step hb h1.1 h2
 exact⟨q k,hs _ _ h2,by omega⟩
theorem ds_rev (hs:∀i j:Nat,(nb (i:Int)).getLsbD j=true→(nb (j:Int)).getLsbD i=true){a b k:Nat}(ha:a<1024)(hb:b<1024)(h:dsT nb a b=(k:Int)):0≤dsT nb b a∧dsT nb b a≤k:=by
 obtain⟨q,q0,qk,hq⟩:=ds_path ha h
 have:=ds_walk (nb:=nb) (m:=k) hb (fun i=>q (k - i)) (by simpa using qk) fun i hi=>by
  have h1:=hs _ _ (hq (k - i - 1) (by omega))
  rw[show k - i - 1+1=k - i by omega] at h1
  rw[show k - (i+1)=k - i - 1 by omega]
  exact h1
 simpa[q0] using this
theorem ds_symm (hs:∀i j:Nat,(nb (i:Int)).getLsbD j=true→(nb (j:Int)).getLsbD i=true){a b:Nat}(ha:a<1024)(hb:b<1024):dsT nb a b=dsT nb b a:=by
 have h1:=ds_lo (nb:=nb) a b
 have h2:=ds_lo (nb:=nb) b a
 by_cases h3:dsT nb a b = -1
 ·by_cases h4:dsT nb b a = -1
  ·rw[h3,h4]
  ·have:=ds_rev hs hb ha (k:=(dsT nb b a).toNat) (by omega);omega
 ·have h5:=ds_rev hs ha hb (k:=(dsT nb a b).toNat) (by omega)
  have h6:=ds_rev hs hb ha (k:=(dsT nb b a).toNat) (by omega)
  omega
theorem ds_some {a b:Nat}:dsT nb a b = -1↔¬(cpt nb a).getLsbD b=true:=farF_none
def geF (nb:Int→BS)(L:List BS):Nat→Nat→List Nat
 | 0,_=>[]
 | n+1,a=>(minOf (nb (a:Int) &&& gs L n)).getD 0::geF nb L n ((minOf (nb (a:Int) &&& gs L n)).getD 0)
theorem last_app (l:List Nat)(x:Nat):(l++[x]).getLastD 0=x:=by simp[List.getLastD_eq_getLast?]
end
end
theorem nd_lenI:∀(l m:List Int),l.Nodup→(∀x∈l,x∈m)→l.length≤m.length
 | [],m,_,_=>Nat.zero_le _
 | x::l,m,hn,hs=>by
  have hx:=hs x (List.mem_cons_self ..)
  have h1:=nd_lenI l (m.erase x) (List.nodup_cons.1 hn).2 fun y hy=>(List.mem_erase_of_ne (fun h=>(List.nodup_cons.1 hn).1 (by rw[← h];exact hy))).2 (hs y (List.mem_cons_of_mem _ hy))
  have h2:=List.length_erase_of_mem hx
  have h3:=List.length_pos_of_mem hx
  rw[List.length_cons];omega
def g2 (l:List (Int×Int))(i:Nat):Int×Int:=(l[i]?).getD (0,0)
theorem g2_get {l:List (Int×Int)}{i:Nat}(h:i<l.length):l[i]?=some (g2 l i):=by simp[g2,h]
theorem indexFuncI_spec {G:Nat→Prop}(l:List Int)(v:Value)(id:FuncId)(caps:Array Value)(p:Int→Bool)(W:World)(hen:Proofs.Enters Tryz.prog id)(h:(Dv (slE intE) G l).p v W)
  (hp:∀w x,x∈l→Ext W w→Calls Tryz.prog id (#[I x]++caps) w (Post (E (B (p x))) w)) (hl:l.length≤100000) :
  Calls Tryz.prog 105 #[v,.func (.func id) #[] caps] W (Post (E (I (fstN (fun i=>p (gi l i)) l.length))) W):=by
 refine eN [v,.func (.func id) #[] caps] [Dv (slE intE) G l,E (.func (.func id) #[] caps)] Tryz.func105 Tryz.ntmps105 ?_ fun a hf=>?_
 rotate_left
 rotate_right
 ·exact arg2 h rfl
 have e:=Ext.rfl' W
 refine seq <| regn0 <| tA hf rfl fun a hf=>tl_nil ?_
 repeat refine seq ?_
 refine rgN 3 hf <| st (mv rfl) <| st (lenD U35 (isR rfl)) <| st (mv rfl) <| en fun a w e' hf=>?_
 replace e:=e.tr e'
 refine tl_nil ?_
 replace hf:=hf.keep [0,1,7,8]
 refine blk (loopN (fun r0 a w=>∃(k:Nat) ,r0=l.length - k∧k≤l.length∧Fr 19 a w [(0,Dv (slE intE) G l),(1,E (.func (.func id) #[] caps)),(7,E (I (l.length:Nat))),(8,E (I k))]∧Ext W w∧∀i,i<k→p (gi l i)=false) l.length ⟨0,rfl,by omega,hf,e,(fun i hi=>by omega)⟩ ?_)
 rintro r0 a w ⟨k,rfl,hk,hf,e,Ho⟩
 refine seq <| rgN 1 hf <| st (lss rfl rfl) <| en fun a w e' hf=>?_
 replace e:=e.tr e'
 refine tl_nil <| seq <| ifc hf rfl (fun hc=>wskip ?_) (fun hc=>wexit ?_)
 rotate_left
 rotate_left
 ·have hlt:k<l.length:=by have:=of_decide_eq_true hc;(try dsimp only at this);omega
  replace hf:=hf.keep [0,1,7,8]
  refine seq <| blk <| seq <| rgN 1 hf <| st (mv rfl) <| en fun a w e' hf=>?_
  replace e:=e.tr e'
  refine tA hf rfl fun a hf=>tl_nil ?_
  have hm:=List.mem_of_getElem? (gi_get hlt)
  refine seq <| rgN 6 hf <| st (mv rfl) <| st (mv rfl) <| st (mv rfl) <| st (idxD U35 S3 (isR rfl) rfl (by omega) (gi_get hlt)) <| st (ldI T3 (isR rfl)) <| st (callV1 hen rfl rfl (fun v w he h=>by cases h;exact hp w _ hm (Ext.tr e he))) ?_
  refine en fun a w e' hf=>?_
  replace e:=e.tr e'
  refine tl_nil <| ifc hf rfl (fun hb=>?_) (fun hb=>?_)
  ·refine seq <| rgN 1 hf <| st (mv rfl) <| en fun a w e' hf=>?_
   replace e:=e.tr e'
   refine tA hf rfl fun a hf=>tl_nil <| wret <| ret1 rfl hf rfl ?_
   rintro _ rfl
   exact⟨_,rfl,e,congrArg I (fstN_hit hlt Ho hb).symm⟩
  ·refine wskip <| rgN 1 hf <| st ((add rfl rfl (by omega)).eq (congrArg (Value.int .i64) (show (k:Int)+1=((k+1:Nat):Int) from rfl))) <| en fun a w e' hf=>?_
   replace e:=e.tr e'
   refine tP hf (mv rfl) fun a w e' hf=>?_
   replace e:=e.tr e'
   refine tl_nil ?_
   replace hf:=hf.keep [0,1,7,8]
   refine⟨_,?_,k+1,rfl,by omega,hf,e,?_⟩
   ·omega
   intro i hi
   by_cases hk:i=k
   ·subst hk;exact hb
   ·exact Ho i (by omega)
 ·obtain rfl:k=l.length:=by have:=of_decide_eq_false hc;(try dsimp only at this);omega
  refine seq <| regn0 <| tA hf rfl fun a hf=>tl_nil <| wret <| ret1 rfl hf rfl ?_
  rintro _ rfl
  exact⟨_,rfl,e,congrArg I (fstN_none Ho).symm⟩
theorem indexFuncE_spec {G:Nat→Prop}(l:List (Int×Int))(v:Value)(id:FuncId)(caps:Array Value)(p:Int×Int→Bool)(W:World)(hen:Proofs.Enters Tryz.prog id)(h:(Dv (slE edE) G l).p v W)
  (hp:∀w x,x∈l→Ext W w→Calls Tryz.prog id (#[edV x]++caps) w (Post (E (B (p x))) w)) (hl:l.length≤100000) :
  Calls Tryz.prog 100 #[v,.func (.func id) #[] caps] W (Post (E (I (fstN (fun i=>p (g2 l i)) l.length))) W):=by
 refine eN [v,.func (.func id) #[] caps] [Dv (slE edE) G l,E (.func (.func id) #[] caps)] Tryz.func100 Tryz.ntmps100 ?_ fun a hf=>?_
 rotate_left
 rotate_right
 ·exact arg2 h rfl
 have e:=Ext.rfl' W
 refine seq <| regn0 <| tA hf rfl fun a hf=>tl_nil ?_
 repeat refine seq ?_
 refine rgN 3 hf <| st (mv rfl) <| st (lenD U31 (isR rfl)) <| st (mv rfl) <| en fun a w e' hf=>?_
 replace e:=e.tr e'
 refine tl_nil ?_
 replace hf:=hf.keep [0,1,7,8]
 refine blk (loopN (fun r0 a w=>∃(k:Nat) ,r0=l.length - k∧k≤l.length∧Fr 19 a w [(0,Dv (slE edE) G l),(1,E (.func (.func id) #[] caps)),(7,E (I (l.length:Nat))),(8,E (I k))]∧Ext W w∧∀i,i<k→p (g2 l i)=false) l.length ⟨0,rfl,by omega,hf,e,(fun i hi=>by omega)⟩ ?_)
 rintro r0 a w ⟨k,rfl,hk,hf,e,Ho⟩
 refine seq <| rgN 1 hf <| st (lss rfl rfl) <| en fun a w e' hf=>?_
 replace e:=e.tr e'
 refine tl_nil <| seq <| ifc hf rfl (fun hc=>wskip ?_) (fun hc=>wexit ?_)
 rotate_left
 rotate_left
 ·have hlt:k<l.length:=by have:=of_decide_eq_true hc;(try dsimp only at this);omega
  replace hf:=hf.keep [0,1,7,8]
  refine seq <| blk <| seq <| rgN 1 hf <| st (mv rfl) <| en fun a w e' hf=>?_
  replace e:=e.tr e'
  refine tA hf rfl fun a hf=>tl_nil ?_
  have hm:=List.mem_of_getElem? (g2_get hlt)
  refine seq <| rgN 6 hf <| st (mv rfl) <| st (mv rfl) <| st (mv rfl) <| st (idxD U31 S60 (isR rfl) rfl (by omega) (g2_get hlt)) <| st (ldE2 T60 (isR rfl)) <| st (callV1 hen rfl rfl (fun v w he h=>by cases h;exact hp w _ hm (Ext.tr e he))) ?_
  refine en fun a w e' hf=>?_
  replace e:=e.tr e'
  refine tl_nil <| ifc hf rfl (fun hb=>?_) (fun hb=>?_)
  ·refine seq <| rgN 1 hf <| st (mv rfl) <| en fun a w e' hf=>?_
   replace e:=e.tr e'
   refine tA hf rfl fun a hf=>tl_nil <| wret <| ret1 rfl hf rfl ?_
   rintro _ rfl
   exact⟨_,rfl,e,congrArg I (fstN_hit hlt Ho hb).symm⟩
  ·refine wskip <| rgN 1 hf <| st ((add rfl rfl (by omega)).eq (congrArg (Value.int .i64) (show (k:Int)+1=((k+1:Nat):Int) from rfl))) <| en fun a w e' hf=>?_
   replace e:=e.tr e'
   refine tP hf (mv rfl) fun a w e' hf=>?_
   replace e:=e.tr e'
   refine tl_nil ?_
   replace hf:=hf.keep [0,1,7,8]
   refine⟨_,?_,k+1,rfl,by omega,hf,e,?_⟩
   ·omega
   intro i hi
   by_cases hk:i=k
   ·subst hk;exact hb
   ·exact Ho i (by omega)
 ·obtain rfl:k=l.length:=by have:=of_decide_eq_false hc;(try dsimp only at this);omega
  refine seq <| regn0 <| tA hf rfl fun a hf=>tl_nil <| wret <| ret1 rfl hf rfl ?_
  rintro _ rfl
  exact⟨_,rfl,e,congrArg I (fstN_none Ho).symm⟩
def noW (w:World):World:={ w with heap := #[] }
theorem noW_ext {U w:World}{S:Nat→Prop}(c:Chg S U w):Ext (noW U) w:=⟨c.os,c.tape,c.output,Nat.zero_le _,fun k hk=>absurd hk (Nat.not_lt_zero _)⟩
theorem filt_none {α:Type}{p:α→Bool}{l:List α}(h:∀x∈l,p x=false):(l.filter fun x => !p x)=l:=List.filter_eq_self.2 fun x hx=>by rw[h x hx];rfl
theorem filt_upto {α:Type}{p:α→Bool}{l:List α}{k:Nat}{x:α}(hx:l[k]?=some x)(h:∀y∈l.take k,p y=false)(hp:p x=true):((l.take (k+1)).filter fun x => !p x)=l.take k:=by
 rw[take_succ_get hx,List.filter_append,filt_none h]
 simp[hp]
theorem filt_succ {α:Type}{p:α→Bool}{l:List α}{j:Nat}{x:α}(hx:l[j]?=some x):((l.take (j+1)).filter fun x => !p x)=((l.take j).filter fun x => !p x)++if p x=true then [] else [x]:=by
 rw[take_succ_get hx,List.filter_append,List.filter_cons,List.filter_nil]
 cases p x <;> rfl
theorem filt_lt {α:Type}{p:α→Bool}{l:List α}{k j:Nat}{x:α}(hx:l[k]?=some x)(hp:p x=true)(hkj:k<j):((l.take j).filter fun x => !p x).length<j:=by
 have h1:k+1≤j:=hkj
 have h2:l.take j=l.take (k+1)++(l.take j).drop (k+1):=by
  have:=List.take_append_drop (k+1) (l.take j)
  rw[List.take_take,Nat.min_eq_left h1] at this
  exact this.symm
 rw[h2,List.filter_append,List.length_append,take_succ_get hx,List.filter_append,List.length_append]
 have h3:=List.length_filter_le (fun x => !p x) (l.take k)
 have h4:=List.length_take_le k l
 have h5:=List.length_filter_le (fun x => !p x) ((l.take j).drop (k+1))
 have h6:((l.take j).drop (k+1)).length≤j - (k+1):=by rw[List.length_drop];have:=List.length_take_le j l;omega
 have h7:([x].filter fun x => !p x).length=0:=by simp[hp]
 omega
theorem edFL:∀x,(edF x).length=2:=fun _=>rfl
theorem intFL:∀x,(intF x).length=1:=fun _=>rfl
theorem deleteE_spec (l:List (Int×Int))(v:Value)(id:FuncId)(caps:Array Value)(p:Int×Int→Bool)(N:Nat)(U:World)(hen:Proofs.Enters Tryz.prog id)(Ho:OwR edE 60 N G0 U l v)(hl:l.length≤100000)
  (hp:∀w x,x∈l→Chg (fun b=>v.ownBlock=some b) U w→Calls Tryz.prog id (#[edV x]++caps) w (Post (E (B (p x))) w)) :
  Calls Tryz.prog 47 #[v,.func (.func id) #[] caps] U fun en w'=>∃u,en=.returned u∧Chg (fun b=>v.ownBlock=some b) U w'∧OwR edE 60 N G0 w' (l.filter fun x => !p x) u:=by
 obtain⟨S,hS⟩:∃S:Nat→Prop,S=fun b=>v.ownBlock=some b:=⟨_,rfl⟩
 rw[← hS]
 replace hp:∀w x,x∈l→Chg S U w→Calls Tryz.prog id (#[edV x]++caps) w (Post (E (B (p x))) w):=by rw[hS];exact hp
 have Hc:Chg S U U:=Chg.rfl' _ _
 obtain⟨W,hW⟩:∃W,W=noW U:=⟨_,rfl⟩
 have hW0:W.heap.size=0:=by rw[hW];rfl
 have e:Ext W U:=by rw[hW];exact noW_ext Hc
 obtain⟨w,hwU⟩:∃w,w=U:=⟨_,rfl⟩
 have goal:Calls Tryz.prog 47 #[v,.func (.func id) #[] caps] w fun en w'=>∃u,en=.returned u∧Chg S U w'∧OwR edE 60 N G0 w' (l.filter fun x => !p x) u:=by
  have Hw:Chg S U w:=by rw[hwU];exact Hc
  have e:Ext W w:=by rw[hwU];exact e
  have Ho:OwR edE 60 N G0 w l v:=by rw[hwU];exact Ho
  refine eN [v,.func (.func id) #[] caps] [E v,E (.func (.func id) #[] caps)] Tryz.func47 Tryz.ntmps47 ?_ fun a hf=>?_
  ·exact arg2 rfl rfl
  refine seq <| regn0 <| tA hf rfl fun a hf=>tl_nil ?_
  obtain⟨i0,hi0⟩:∃i0,i0=fstN (fun i=>p (g2 l i)) l.length:=⟨_,rfl⟩
  have Hw1:=Hw
  have Ho1:=Ho
  refine seq <| rgN 3 hf <| st (mv rfl) <| st (mv rfl) <| st (call2 (A:=E (I i0)) (B:=E v) (C:=E (.func (.func id) #[] caps)) En100 rfl rfl (fun u u' w he k1 k2=>by cases k1;cases k2;rw[hi0];exact indexFuncE_spec l v id caps p w hen (Ho1.ext he).sl (fun w' x hx he'=>hp w' x hx ((Hw1.ext he).ext he')) hl)) ?_
  refine en fun a w e' hf=>?_
  obtain⟨Hw,Ho,e⟩:=up3 e' Hw Ho e
  refine tA hf rfl fun a hf=>tl_nil ?_
  replace hf:=hf.keep [0,1,5]
  rcases fstN_cases (fun i=>p (g2 l i)) l.length with ⟨h1,h2⟩|⟨k,hk,h1,h2,h3⟩
  ·rw[← hi0] at h1
   subst h1
   repeat refine seq ?_
   refine rgN 2 hf <| st (mv rfl) <| st ((eql rfl rfl).eq (congrArg Value.bool (show ((-1:Int) == -1)=true from rfl))) <| en fun a w e' hf=>?_
   obtain⟨Hw,Ho,e⟩:=up3 e' Hw Ho e
   refine tl_nil <| ifc hf rfl (fun _=>?_) (fun h=>by cases h)
   refine seq <| rgN 1 hf <| st (mv rfl) <| en fun a w e' hf=>?_
   obtain⟨Hw,Ho,e⟩:=up3 e' Hw Ho e
   refine tA hf rfl fun a hf=>tl_nil <| wret ?_
   simp only[Exit.then,Exit.inBlock]
   refine ret1 rfl hf rfl ?_
   rintro _ rfl
   rw[filt_none fun x hx=>by
    obtain⟨i,hi,he⟩:=List.getElem_of_mem hx
    have h4:=g2_get hi
    rw[List.getElem?_eq_getElem hi,he] at h4
    rw[Option.some.inj h4]
    exact h2 i hi]
   exact⟨_,rfl,Hw,Ho⟩
  ·rw[← hi0] at h1
   subst h1
   have hxk:l[k]?=some (g2 l k):=g2_get hk
   obtain⟨xk,hxk'⟩:∃xk,xk=g2 l k:=⟨_,rfl⟩
   rw[← hxk'] at hxk
   replace h2:p xk=true:=by rw[hxk'];exact h2
   have h3':∀y∈l.take k,p y=false:=fun y hy=>by
    obtain⟨i,hi,he⟩:=List.getElem_of_mem hy
    rw[List.length_take] at hi
    have h4:l[i]?=some (g2 l i):=g2_get (by omega)
    rw[List.getElem_take] at he
    rw[List.getElem?_eq_getElem (by omega),he] at h4
    rw[Option.some.inj h4]
    exact h3 i (by omega)
   have hk1:(((k:Nat):Int) == -1)=false:=beq_eq_false_iff_ne.2 (by omega)
   rcases Ho.rw edFF with ⟨_,h0⟩|⟨b,cap,cur0,hv,hcap,HR,ht0⟩
   ·rw[h0] at hk;exact absurd hk (Nat.not_lt_zero _)
   have hSb:S b:=by rw[hS,hv];rfl
   have hflen:=edFF.flen l
   subst hv
   replace ht0:cur0.toList.take (l.length * 2)=l.flatMap edF:=ht0
   replace HR:RwR 2 60 N cap b cur0 w:=HR
   repeat refine seq ?_
   refine rgN 2 hf <| st (mv rfl) <| st ((eql rfl rfl).eq (congrArg Value.bool (hk1))) <| en fun a w e' hf=>?_
   obtain⟨Hw,HR,e⟩:=up3 e' Hw HR e
   refine tl_nil <| ifc hf rfl (fun h=>by cases h) (fun _=>?_)
   refine wskip ?_
   repeat refine seq ?_
   refine rgN 2 hf <| st (mv rfl) <| st ((add rfl rfl (by omega)).eq (congrArg (Value.int .i64) (show (k:Int)+1=((k+1:Nat):Int) from rfl))) <| en fun a w e' hf=>?_
   obtain⟨Hw,HR,e⟩:=up3 e' Hw HR e
   refine tA hf rfl fun a hf=>tl_nil ?_
   replace hf:=hf.keep [0,1,5,6]
   have hkj:=Nat.lt_succ_self k
   have hfu:=filt_upto hxk h3' h2
   have hlk:(l.take k).length=k:=by rw[List.length_take];omega
   have hd0:(cur0.toList.drop ((k+1) * 2)).take ((l.length - (k+1)) * 2)=(l.drop (k+1)).flatMap edF:=by
    have:=congrArg (List.drop ((k+1) * 2)) ht0
    rw[drop_flat edFL,List.drop_take] at this
    rw[Nat.sub_mul];exact this
   have ht1:cur0.toList.take (((l.take (k+1)).filter fun x => !p x).length * 2)=((l.take (k+1)).filter fun x => !p x).flatMap edF:=by
    rw[hfu,hlk]
    have:=congrArg (List.take (k * 2)) ht0
    rw[take_flat edFL,List.take_take,Nat.min_eq_left (Nat.mul_le_mul_right _ (Nat.le_of_lt hk))] at this
    exact this
   have hfk:(k:Int)=((((l.take (k+1)).filter fun x => !p x).length:Nat):Int):=by rw[hfu,hlk]
   rw[hfk] at hf
   refine blk (loopN (fun r0 a w=>∃(j:Nat) (cur:Array Value),r0=l.length - j∧k<j∧j≤l.length∧Fr 42 a w [(0,E (.slice (some ⟨b,0,none⟩) l.length cap)),(1,E (.func (.func id) #[] caps)),(5,E (I ((((l.take j).filter fun x => !p x).length:Nat)))),(6,E (I (j:Nat)))]∧Ext W w∧Chg S U w∧RwR 2 60 N cap b cur w ∧
    cur.toList.take (((l.take j).filter fun x => !p x).length * 2)=((l.take j).filter fun x => !p x).flatMap edF∧(cur.toList.drop (j * 2)).take ((l.length - j) * 2)=(l.drop j).flatMap edF) (l.length - (k+1)) ⟨k+1,cur0,rfl,hkj,hk,hf,e,Hw,HR,ht1,hd0⟩ ?_)
   rintro r0 a w ⟨j,cur,rfl,hkj,hjl,hf,e,Hw,HR,ht,hd⟩
   have hfl:=filt_lt (l:=l) hxk h2 hkj
   obtain⟨ys,hys⟩:∃ys,ys=(l.take j).filter fun x => !p x:=⟨_,rfl⟩
   rw[← hys] at ht hfl hf
   repeat refine seq ?_
   refine rgN 4 hf <| st (mv rfl) <| st (mv rfl) <| st (lenE U31 rfl) <| st (lss rfl rfl) <| en fun a w e' hf=>?_
   obtain⟨Hw,HR,e⟩:=up3 e' Hw HR e
   refine tl_nil <| ifc hf rfl (fun hc=>wskip ?_) (fun hc=>wexit ?_)
   ·have hlt:j<l.length:=by have:=of_decide_eq_true hc;omega
    have hx:=g2_get hlt
    generalize g2 l j=x at hx
    have hm:=List.mem_of_getElem? hx
    have hfs:=filt_succ (p:=p) hx
    rw[← hys] at hfs
    have hcx:=cell_at edFL hd hx (by omega)
    have hdn:(cur.toList.drop ((j+1) * 2)).take ((l.length - (j+1)) * 2)=(l.drop (j+1)).flatMap edF:=cell_next edFL (m:=l.length - (j+1)) (by rw[show l.length - (j+1)+1=l.length - j by omega];exact hd)
    have hszc:(j+1) * 2≤cur.size:=by rw[HR.sz];exact Nat.mul_le_mul_right _ (by omega)
    refine seq <| blk ?_
    have hcx2:Value.agg (cur.extract (j * 2) (j * 2+2))=edV x:=by
     rw[edV]
     refine congrArg Value.agg (Array.ext' ?_)
     rw[Array.toList_extract,List.extract_eq_take_drop,show j * 2+2 - j * 2=2 by omega]
     exact hcx
    obtain⟨N5,hN5⟩:∃N5,N5=w.heap.size:=⟨_,rfl⟩
    have hN5s:N5≤w.heap.size:=Nat.le_of_eq hN5
    have hU5:U.heap.size≤N5:=by rw[hN5];exact Hw.size
    have hb5:b<N5:=by rw[hN5];exact HR.bl.lt
    refine seq <| regn0 <| tP hf (mv rfl) fun a w e' hf=>?_
    obtain⟨Hw,HR,hN5s,e⟩:=up4 e' Hw HR hN5s e
    refine tP hf (mv rfl) fun a w e' hf=>?_
    obtain⟨Hw,HR,hN5s,e⟩:=up4 e' Hw HR hN5s e
    refine tP hf ((idxS U31 S60 rfl rfl (by omega)).eq ((by rw[Int.toNat_natCast,Nat.zero_add]:Value.pointer (some ⟨b,0+((j:Nat):Int).toNat * 2,none⟩)=Value.pointer (some ⟨b,j * 2,none⟩)))) fun a w e' hf=>?_
    obtain⟨Hw,HR,hN5s,e⟩:=up4 e' Hw HR hN5s e
    refine tP hf ((ldP T60 rfl HR.bl (by omega)).eq (hcx2)) fun a w e' hf=>?_
    obtain⟨Hw,HR,hN5s,e⟩:=up4 e' Hw HR hN5s e
    refine tL I60 hf fun a b7 w e' hb7 hs7 B7 hf=>?_
    have lo7_hN5s:=Nat.le_trans hN5s (Nat.le_of_eq hb7.symm)
    obtain⟨Hw,HR,hN5s,e⟩:=up4 e' Hw HR hN5s e
    have n7:N5≤b7:=lo7_hN5s
    have nb7:b≠b7:=by omega
    refine tl_stW T60 hf rfl rfl (one2 rfl rfl) B7 rfl rfl fun w hg hsz B7 hf=>?_
    replace e:=e.gr hg (by omega);replace Hw:=Hw.gr hg (.inr (by omega));replace HR:=HR.gr hg (by omega);clear hg
    refine tl_nil ?_
    replace B7:Blk w b7 #[I x.1,I x.2] 60:=B7
    replace hf:=hf.keep [0,1,5,6,7]
    have Hw8:=Hw
    refine seq <| rgN 4 hf <| st (mv rfl) <| st ((ldW T60 rfl B7 rfl).eq ((rfl:_=edV x))) <| st (callV1 hen rfl rfl (fun v w he h=>by cases h;exact hp w x hm (Hw8.ext he))) ?_
    refine st (notp rfl) <| en fun a w e' hf=>?_
    obtain⟨Hw,HR,e,B7⟩:=up4 e' Hw HR e B7
    refine tl_nil ?_
    replace hf:=hf.kp [0,1,5,6,7,29]
    by_cases hpx:p x=true
    ·rw[if_pos hpx,List.append_nil] at hfs
     refine ifc hf rfl (fun h=>by rw[hpx] at h;cases h) (fun _=>?_)
     refine wskip ?_
     rw[← hfs] at ht hf
     replace hf:=hf.kp [0,1,5,6]
     refine rgN 2 hf <| st (mv rfl) <| st ((add rfl rfl (by omega)).eq (congrArg (Value.int .i64) (show (j:Int)+1=((j+1:Nat):Int) from rfl))) <| en fun a w e' hf=>?_
     obtain⟨Hw,HR,e,B7⟩:=up4 e' Hw HR e B7
     refine tA hf rfl fun a hf=>tl_nil ?_
     replace hf:=hf.keep [0,1,5,6]
     exact⟨l.length - (j+1),by omega,j+1,cur,rfl,by omega,hlt,hf,e,Hw,HR,ht,hdn⟩
    ·rw[if_neg hpx] at hfs
     refine ifc hf rfl (fun _=>?_) (fun h=>absurd (by simpa using h) hpx)
     have hys1:ys.length+1≤j:=hfl
     have hszy:(ys.length+1) * 2≤cur.size:=Nat.le_trans (Nat.mul_le_mul_right _ (by omega)) hszc
     refine seq <| rgN 4 hf <| st (mv rfl) <| st (mv rfl) <| st ((ldW T60 rfl B7 rfl).eq ((rfl:_=edV x))) <| st ((idxS U31 S60 rfl rfl (by omega)).eq ((by rw[Int.toNat_natCast,Nat.zero_add]:Value.pointer (some ⟨b,0+((ys.length:Nat):Int).toNat * 2,none⟩)=Value.pointer (some ⟨b,ys.length * 2,none⟩)))) <| en fun a w e' hf=>?_
     obtain⟨Hw,HR,e,B7⟩:=up4 e' Hw HR e B7
     refine tl_stP T60 hf rfl rfl (one2 rfl rfl) HR.bl rfl (by omega) fun w hg hsz hB hf=>?_
     replace e:=e.gr hg (by omega);replace Hw:=Hw.gr hg (.inl hSb);clear hg
     have ht2:=put_cells (x:=x) edFL ht (by rw[Array.length_toList];exact hszy)
     have hdd:=put_drop (x:=x) edFL (cur:=cur.toList) (i:=ys.length) (j:=j+1) (by rw[Array.length_toList];exact hszy) (by omega)
     have HR2:RwR 2 60 N cap b (cur.toList.take (ys.length * 2)++edF x++cur.toList.drop (ys.length * 2+2)).toArray w:=⟨hB,HR.lo,by
      have h5:=HR.sz
      have h6:(edF x).length=2:=rfl
      simp only[List.size_toArray,List.length_append,List.length_take,List.length_drop,h6,Array.length_toList]
      omega,HR.mx⟩
     have hdn2:=hdn
     rw[← hdd] at hdn2
     replace ht2:(cur.toList.take (ys.length * 2)++edF x++cur.toList.drop (ys.length * 2+2)).toArray.toList.take ((ys++[x]).length * 2)=(ys++[x]).flatMap edF:=by rw[List.length_append,List.length_singleton];exact ht2
     replace hdn2:((cur.toList.take (ys.length * 2)++edF x++cur.toList.drop (ys.length * 2+2)).toArray.toList.drop ((j+1) * 2)).take ((l.length - (j+1)) * 2)=(l.drop (j+1)).flatMap edF:=hdn2
     generalize (cur.toList.take (ys.length * 2)++edF x++cur.toList.drop (ys.length * 2+2)).toArray=cur2 at HR2 ht2 hdn2
     refine tl_nil ?_
     replace hf:=hf.keep [0,1,5,6]
     refine rgN 2 hf <| st (mv rfl) <| st ((add rfl rfl (by omega)).eq (congrArg (Value.int .i64) (show ((ys.length:Nat):Int)+1=(((ys++[x]).length:Nat):Int) by simp))) <| en fun a w e' hf=>?_
     obtain⟨Hw,HR2,e⟩:=up3 e' Hw HR2 e
     refine tA hf rfl fun a hf=>tl_nil ?_
     rw[← hfs] at ht2 hf
     replace hf:=hf.keep [0,1,5,6]
     refine rgN 2 hf <| st (mv rfl) <| st ((add rfl rfl (by omega)).eq (congrArg (Value.int .i64) (show (j:Int)+1=((j+1:Nat):Int) from rfl))) <| en fun a w e' hf=>?_
     obtain⟨Hw,HR2,e⟩:=up3 e' Hw HR2 e
     refine tA hf rfl fun a hf=>tl_nil ?_
     replace hf:=hf.keep [0,1,5,6]
     exact⟨l.length - (j+1),by omega,j+1,_,rfl,by omega,hlt,hf,e,Hw,HR2,ht2,hdn2⟩
   ·have hjl2:j=l.length:=by have:=of_decide_eq_false hc;omega
    subst hjl2
    rw[List.take_length] at hys
    rw[← hys]
    have hszc:ys.length * 2+(l.length - ys.length) * 2≤cur.size:=by rw[HR.sz,← Nat.add_mul];exact Nat.mul_le_mul_right _ (by omega)
    replace hf:=hf.kp [0,5]
    refine seq <| rgN 3 hf <| st (mv rfl) <| st (mv rfl) <| st ((slcLoK U31 S60 rfl rfl (by omega) (by omega)).eq ((by rw[Nat.zero_add]:Value.slice (some ⟨b,0+ys.length * 2,none⟩) (l.length - ys.length) (cap - ys.length)=Value.slice (some ⟨b,ys.length * 2,none⟩) (l.length - ys.length) (cap - ys.length)))) <| en fun a w e' hf=>?_
    obtain⟨Hw,HR,e⟩:=up3 e' Hw HR e
    refine tl_clearK U31 I60 (by intro v hv;simp[Value.cells] at hv;subst hv;rfl) (by decide) rfl hf rfl HR.bl (by omega) hszc (fun k hk=>by cases hk) fun a w zs hg hsz hzl hB hf=>?_
    replace e:=e.gr hg (by omega)
    replace Hw:=Hw.gr hg (.inl hSb)
    refine tl_nil ?_
    have HR2:RwR 2 60 N cap b (cur.toList.take (ys.length * 2)++zs++cur.toList.drop (ys.length * 2+(l.length - ys.length) * 2)).toArray w:=⟨hB,HR.lo,by
     have h5:=HR.sz
     simp only[List.size_toArray,List.length_append,List.length_take,List.length_drop,hzl,Array.length_toList]
     omega,HR.mx⟩
    have hfin:(cur.toList.take (ys.length * 2)++zs++cur.toList.drop (ys.length * 2+(l.length - ys.length) * 2)).toArray.toList.take (ys.length * 2)=ys.flatMap edF:=by
     rw[List.toList_toArray,List.append_assoc,List.take_append_of_le_length (by have h7:cur.toList.length=cur.size:=Array.length_toList;rw[List.length_take];omega),List.take_take,Nat.min_self];exact ht
    obtain⟨cur2,hcur2⟩:∃cur2,cur2=(cur.toList.take (ys.length * 2)++zs++cur.toList.drop (ys.length * 2+(l.length - ys.length) * 2)).toArray:=⟨_,rfl⟩
    rw[← hcur2] at HR2 hfin
    replace hf:=hf.kp [0,5]
    refine seq <| rgN 3 hf <| st (mv rfl) <| st (mv rfl) <| st (slcHiK U31 S60 rfl rfl (by omega)) <| en fun a w e' hf=>?_
    obtain⟨Hw,HR2,e⟩:=up3 e' Hw HR2 e
    refine tA hf rfl fun a hf=>tl_nil <| wret <| ret1 rfl hf rfl ?_
    rintro _ rfl
    exact⟨_,rfl,Hw,HR2.own edFF (by omega) hfin fun b hb=>hb.elim⟩
 rw[hwU] at goal
 exact goal
theorem deleteI_spec (l:List (Int))(v:Value)(id:FuncId)(caps:Array Value)(p:Int→Bool)(N:Nat)(U:World)(hen:Proofs.Enters Tryz.prog id)(Ho:OwR intE 3 N G0 U l v)(hl:l.length≤100000)
  (hp:∀w x,x∈l→Chg (fun b=>v.ownBlock=some b) U w→Calls Tryz.prog id (#[I x]++caps) w (Post (E (B (p x))) w)) :
  Calls Tryz.prog 55 #[v,.func (.func id) #[] caps] U fun en w'=>∃u,en=.returned u∧Chg (fun b=>v.ownBlock=some b) U w'∧OwR intE 3 N G0 w' (l.filter fun x => !p x) u:=by
 obtain⟨S,hS⟩:∃S:Nat→Prop,S=fun b=>v.ownBlock=some b:=⟨_,rfl⟩
 rw[← hS]
 replace hp:∀w x,x∈l→Chg S U w→Calls Tryz.prog id (#[I x]++caps) w (Post (E (B (p x))) w):=by rw[hS];exact hp
 have Hc:Chg S U U:=Chg.rfl' _ _
 obtain⟨W,hW⟩:∃W,W=noW U:=⟨_,rfl⟩
 have hW0:W.heap.size=0:=by rw[hW];rfl
 have e:Ext W U:=by rw[hW];exact noW_ext Hc
 obtain⟨w,hwU⟩:∃w,w=U:=⟨_,rfl⟩
 have goal:Calls Tryz.prog 55 #[v,.func (.func id) #[] caps] w fun en w'=>∃u,en=.returned u∧Chg S U w'∧OwR intE 3 N G0 w' (l.filter fun x => !p x) u:=by
  have Hw:Chg S U w:=by rw[hwU];exact Hc
  have e:Ext W w:=by rw[hwU];exact e
  have Ho:OwR intE 3 N G0 w l v:=by rw[hwU];exact Ho
  refine eN [v,.func (.func id) #[] caps] [E v,E (.func (.func id) #[] caps)] Tryz.func55 Tryz.ntmps55 ?_ fun a hf=>?_
  ·exact arg2 rfl rfl
  refine seq <| regn0 <| tA hf rfl fun a hf=>tl_nil ?_
  obtain⟨i0,hi0⟩:∃i0,i0=fstN (fun i=>p (gi l i)) l.length:=⟨_,rfl⟩
  have Hw1:=Hw
  have Ho1:=Ho
  refine seq <| rgN 3 hf <| st (mv rfl) <| st (mv rfl) <| st (call2 (A:=E (I i0)) (B:=E v) (C:=E (.func (.func id) #[] caps)) En105 rfl rfl (fun u u' w he k1 k2=>by cases k1;cases k2;rw[hi0];exact indexFuncI_spec l v id caps p w hen (Ho1.ext he).sl (fun w' x hx he'=>hp w' x hx ((Hw1.ext he).ext he')) hl)) ?_
  refine en fun a w e' hf=>?_
  obtain⟨Hw,Ho,e⟩:=up3 e' Hw Ho e
  refine tA hf rfl fun a hf=>tl_nil ?_
  replace hf:=hf.keep [0,1,5]
  rcases fstN_cases (fun i=>p (gi l i)) l.length with ⟨h1,h2⟩|⟨k,hk,h1,h2,h3⟩
  ·rw[← hi0] at h1
   subst h1
   repeat refine seq ?_
   refine rgN 2 hf <| st (mv rfl) <| st ((eql rfl rfl).eq (congrArg Value.bool (show ((-1:Int) == -1)=true from rfl))) <| en fun a w e' hf=>?_
   obtain⟨Hw,Ho,e⟩:=up3 e' Hw Ho e
   refine tl_nil <| ifc hf rfl (fun _=>?_) (fun h=>by cases h)
   refine seq <| rgN 1 hf <| st (mv rfl) <| en fun a w e' hf=>?_
   obtain⟨Hw,Ho,e⟩:=up3 e' Hw Ho e
   refine tA hf rfl fun a hf=>tl_nil <| wret ?_
   simp only[Exit.then,Exit.inBlock]
   refine ret1 rfl hf rfl ?_
   rintro _ rfl
   rw[filt_none fun x hx=>by
    obtain⟨i,hi,he⟩:=List.getElem_of_mem hx
    have h4:=gi_get hi
    rw[List.getElem?_eq_getElem hi,he] at h4
    rw[Option.some.inj h4]
    exact h2 i hi]
   exact⟨_,rfl,Hw,Ho⟩
  ·rw[← hi0] at h1
   subst h1
   have hxk:l[k]?=some (gi l k):=gi_get hk
   obtain⟨xk,hxk'⟩:∃xk,xk=gi l k:=⟨_,rfl⟩
   rw[← hxk'] at hxk
   replace h2:p xk=true:=by rw[hxk'];exact h2
   have h3':∀y∈l.take k,p y=false:=fun y hy=>by
    obtain⟨i,hi,he⟩:=List.getElem_of_mem hy
    rw[List.length_take] at hi
    have h4:l[i]?=some (gi l i):=gi_get (by omega)
    rw[List.getElem_take] at he
    rw[List.getElem?_eq_getElem (by omega),he] at h4
    rw[Option.some.inj h4]
    exact h3 i (by omega)
   have hk1:(((k:Nat):Int) == -1)=false:=beq_eq_false_iff_ne.2 (by omega)
   rcases Ho.rw intFF with ⟨_,h0⟩|⟨b,cap,cur0,hv,hcap,HR,ht0⟩
   ·rw[h0] at hk;exact absurd hk (Nat.not_lt_zero _)
   have hSb:S b:=by rw[hS,hv];rfl
   have hflen:=intFF.flen l
   subst hv
   replace ht0:cur0.toList.take (l.length * 1)=l.flatMap intF:=ht0
   replace HR:RwR 1 3 N cap b cur0 w:=HR
   repeat refine seq ?_
   refine rgN 2 hf <| st (mv rfl) <| st ((eql rfl rfl).eq (congrArg Value.bool (hk1))) <| en fun a w e' hf=>?_
   obtain⟨Hw,HR,e⟩:=up3 e' Hw HR e
   refine tl_nil <| ifc hf rfl (fun h=>by cases h) (fun _=>?_)
   refine wskip ?_
   repeat refine seq ?_
   refine rgN 2 hf <| st (mv rfl) <| st ((add rfl rfl (by omega)).eq (congrArg (Value.int .i64) (show (k:Int)+1=((k+1:Nat):Int) from rfl))) <| en fun a w e' hf=>?_
   obtain⟨Hw,HR,e⟩:=up3 e' Hw HR e
   refine tA hf rfl fun a hf=>tl_nil ?_
   replace hf:=hf.keep [0,1,5,6]
   have hkj:=Nat.lt_succ_self k
   have hfu:=filt_upto hxk h3' h2
   have hlk:(l.take k).length=k:=by rw[List.length_take];omega
   have hd0:(cur0.toList.drop ((k+1) * 1)).take ((l.length - (k+1)) * 1)=(l.drop (k+1)).flatMap intF:=by
    have:=congrArg (List.drop ((k+1) * 1)) ht0
    rw[drop_flat intFL,List.drop_take] at this
    rw[Nat.sub_mul];exact this
   have ht1:cur0.toList.take (((l.take (k+1)).filter fun x => !p x).length * 1)=((l.take (k+1)).filter fun x => !p x).flatMap intF:=by
    rw[hfu,hlk]
    have:=congrArg (List.take (k * 1)) ht0
    rw[take_flat intFL,List.take_take,Nat.min_eq_left (Nat.mul_le_mul_right _ (Nat.le_of_lt hk))] at this
    exact this
   have hfk:(k:Int)=((((l.take (k+1)).filter fun x => !p x).length:Nat):Int):=by rw[hfu,hlk]
   rw[hfk] at hf
   refine blk (loopN (fun r0 a w=>∃(j:Nat) (cur:Array Value),r0=l.length - j∧k<j∧j≤l.length∧Fr 42 a w [(0,E (.slice (some ⟨b,0,none⟩) l.length cap)),(1,E (.func (.func id) #[] caps)),(5,E (I ((((l.take j).filter fun x => !p x).length:Nat)))),(6,E (I (j:Nat)))]∧Ext W w∧Chg S U w∧RwR 1 3 N cap b cur w ∧
    cur.toList.take (((l.take j).filter fun x => !p x).length * 1)=((l.take j).filter fun x => !p x).flatMap intF∧(cur.toList.drop (j * 1)).take ((l.length - j) * 1)=(l.drop j).flatMap intF) (l.length - (k+1)) ⟨k+1,cur0,rfl,hkj,hk,hf,e,Hw,HR,ht1,hd0⟩ ?_)
   rintro r0 a w ⟨j,cur,rfl,hkj,hjl,hf,e,Hw,HR,ht,hd⟩
   have hfl:=filt_lt (l:=l) hxk h2 hkj
   obtain⟨ys,hys⟩:∃ys,ys=(l.take j).filter fun x => !p x:=⟨_,rfl⟩
   rw[← hys] at ht hfl hf
   repeat refine seq ?_
   refine rgN 4 hf <| st (mv rfl) <| st (mv rfl) <| st (lenE U35 rfl) <| st (lss rfl rfl) <| en fun a w e' hf=>?_
   obtain⟨Hw,HR,e⟩:=up3 e' Hw HR e
   refine tl_nil <| ifc hf rfl (fun hc=>wskip ?_) (fun hc=>wexit ?_)
   ·have hlt:j<l.length:=by have:=of_decide_eq_true hc;omega
    have hx:=gi_get hlt
    generalize gi l j=x at hx
    have hm:=List.mem_of_getElem? hx
    have hfs:=filt_succ (p:=p) hx
    rw[← hys] at hfs
    have hcx:=cell_at intFL hd hx (by omega)
    have hdn:(cur.toList.drop ((j+1) * 1)).take ((l.length - (j+1)) * 1)=(l.drop (j+1)).flatMap intF:=cell_next intFL (m:=l.length - (j+1)) (by rw[show l.length - (j+1)+1=l.length - j by omega];exact hd)
    have hszc:(j+1) * 1≤cur.size:=by rw[HR.sz];exact Nat.mul_le_mul_right _ (by omega)
    refine seq <| blk ?_
    have hcx2:cur[j]?=some (I x):=by
     rw[← Array.getElem?_toList]
     have h5:((cur.toList.drop (j * 1)).take 1)[0]?=some (I x):=by rw[hcx];rfl
     rw[List.getElem?_take,if_pos Nat.zero_lt_one,List.getElem?_drop] at h5
     simpa using h5
    obtain⟨N5,hN5⟩:∃N5,N5=w.heap.size:=⟨_,rfl⟩
    have hN5s:N5≤w.heap.size:=Nat.le_of_eq hN5
    have hU5:U.heap.size≤N5:=by rw[hN5];exact Hw.size
    have hb5:b<N5:=by rw[hN5];exact HR.bl.lt
    refine seq <| rgN 4 hf <| st (mv rfl) <| st (mv rfl) <| st ((idxS U35 S3 rfl rfl (by omega)).eq ((by rw[Int.toNat_natCast,Nat.zero_add,Nat.mul_one]:Value.pointer (some ⟨b,0+((j:Nat):Int).toNat * 1,none⟩)=Value.pointer (some ⟨b,j,none⟩)))) <| st (ld1 (v:=I x) T3 rfl HR.bl hcx2) <| en fun a w e' hf=>?_
    obtain⟨Hw,HR,hN5s,e⟩:=up4 e' Hw HR hN5s e
    refine tA hf rfl fun a hf=>tl_nil ?_
    replace hf:=hf.keep [0,1,5,6,7]
    have Hw8:=Hw
    refine seq <| rgN 4 hf <| st (mv rfl) <| st (mv rfl) <| st (callV1 hen rfl rfl (fun v w he h=>by cases h;exact hp w x hm (Hw8.ext he))) ?_
    refine st (notp rfl) <| en fun a w e' hf=>?_
    obtain⟨Hw,HR,e⟩:=up3 e' Hw HR e
    refine tl_nil ?_
    replace hf:=hf.kp [0,1,5,6,7,29]
    by_cases hpx:p x=true
    ·rw[if_pos hpx,List.append_nil] at hfs
     refine ifc hf rfl (fun h=>by rw[hpx] at h;cases h) (fun _=>?_)
     refine wskip ?_
     rw[← hfs] at ht hf
     replace hf:=hf.kp [0,1,5,6]
     refine rgN 2 hf <| st (mv rfl) <| st ((add rfl rfl (by omega)).eq (congrArg (Value.int .i64) (show (j:Int)+1=((j+1:Nat):Int) from rfl))) <| en fun a w e' hf=>?_
     obtain⟨Hw,HR,e⟩:=up3 e' Hw HR e
     refine tA hf rfl fun a hf=>tl_nil ?_
     replace hf:=hf.keep [0,1,5,6]
     exact⟨l.length - (j+1),by omega,j+1,cur,rfl,by omega,hlt,hf,e,Hw,HR,ht,hdn⟩
    ·rw[if_neg hpx] at hfs
     refine ifc hf rfl (fun _=>?_) (fun h=>absurd (by simpa using h) hpx)
     have hys1:ys.length+1≤j:=hfl
     have hszy:(ys.length+1) * 1≤cur.size:=Nat.le_trans (Nat.mul_le_mul_right _ (by omega)) hszc
     refine seq <| rgN 4 hf <| st (mv rfl) <| st (mv rfl) <| st (mv rfl) <| st ((idxS U35 S3 rfl rfl (by omega)).eq ((by rw[Int.toNat_natCast,Nat.zero_add]:Value.pointer (some ⟨b,0+((ys.length:Nat):Int).toNat * 1,none⟩)=Value.pointer (some ⟨b,ys.length * 1,none⟩)))) <| en fun a w e' hf=>?_
     obtain⟨Hw,HR,e⟩:=up3 e' Hw HR e
     refine tl_st1 T3 hf rfl rfl rfl HR.bl (by omega) fun w hg hsz hB hf=>?_
     replace e:=e.gr hg (by omega);replace Hw:=Hw.gr hg (.inl hSb);clear hg
     have hset:(cur.setIfInBounds (ys.length * 1) (I x))=(cur.toList.take (ys.length * 1)++intF x++cur.toList.drop (ys.length * 1+1)).toArray:=by
      apply Array.ext'
      rw[Array.toList_setIfInBounds,List.toList_toArray,List.set_eq_take_append_cons_drop,if_pos (by have h7:cur.toList.length=cur.size:=Array.length_toList;omega)]
      simp[intF]
     rw[hset] at hB
     have ht2:=put_cells (x:=x) intFL ht (by rw[Array.length_toList];exact hszy)
     have hdd:=put_drop (x:=x) intFL (cur:=cur.toList) (i:=ys.length) (j:=j+1) (by rw[Array.length_toList];exact hszy) (by omega)
     have HR2:RwR 1 3 N cap b (cur.toList.take (ys.length * 1)++intF x++cur.toList.drop (ys.length * 1+1)).toArray w:=⟨hB,HR.lo,by
      have h5:=HR.sz
      have h6:(intF x).length=1:=rfl
      simp only[List.size_toArray,List.length_append,List.length_take,List.length_drop,h6,Array.length_toList]
      omega,HR.mx⟩
     have hdn2:=hdn
     rw[← hdd] at hdn2
     replace ht2:(cur.toList.take (ys.length * 1)++intF x++cur.toList.drop (ys.length * 1+1)).toArray.toList.take ((ys++[x]).length * 1)=(ys++[x]).flatMap intF:=by rw[List.length_append,List.length_singleton];exact ht2
     replace hdn2:((cur.toList.take (ys.length * 1)++intF x++cur.toList.drop (ys.length * 1+1)).toArray.toList.drop ((j+1) * 1)).take ((l.length - (j+1)) * 1)=(l.drop (j+1)).flatMap intF:=hdn2
     generalize (cur.toList.take (ys.length * 1)++intF x++cur.toList.drop (ys.length * 1+1)).toArray=cur2 at HR2 ht2 hdn2
     refine tl_nil ?_
     replace hf:=hf.keep [0,1,5,6]
     refine rgN 2 hf <| st (mv rfl) <| st ((add rfl rfl (by omega)).eq (congrArg (Value.int .i64) (show ((ys.length:Nat):Int)+1=(((ys++[x]).length:Nat):Int) by simp))) <| en fun a w e' hf=>?_
     obtain⟨Hw,HR2,e⟩:=up3 e' Hw HR2 e
     refine tA hf rfl fun a hf=>tl_nil ?_
     rw[← hfs] at ht2 hf
     replace hf:=hf.keep [0,1,5,6]
     refine rgN 2 hf <| st (mv rfl) <| st ((add rfl rfl (by omega)).eq (congrArg (Value.int .i64) (show (j:Int)+1=((j+1:Nat):Int) from rfl))) <| en fun a w e' hf=>?_
     obtain⟨Hw,HR2,e⟩:=up3 e' Hw HR2 e
     refine tA hf rfl fun a hf=>tl_nil ?_
     replace hf:=hf.keep [0,1,5,6]
     exact⟨l.length - (j+1),by omega,j+1,_,rfl,by omega,hlt,hf,e,Hw,HR2,ht2,hdn2⟩
   ·have hjl2:j=l.length:=by have:=of_decide_eq_false hc;omega
    subst hjl2
    rw[List.take_length] at hys
    rw[← hys]
    have hszc:ys.length * 1+(l.length - ys.length) * 1≤cur.size:=by rw[HR.sz,← Nat.add_mul];exact Nat.mul_le_mul_right _ (by omega)
    replace hf:=hf.kp [0,5]
    refine seq <| rgN 3 hf <| st (mv rfl) <| st (mv rfl) <| st ((slcLoK U35 S3 rfl rfl (by omega) (by omega)).eq ((by rw[Nat.zero_add]:Value.slice (some ⟨b,0+ys.length * 1,none⟩) (l.length - ys.length) (cap - ys.length)=Value.slice (some ⟨b,ys.length * 1,none⟩) (l.length - ys.length) (cap - ys.length)))) <| en fun a w e' hf=>?_
    obtain⟨Hw,HR,e⟩:=up3 e' Hw HR e
    refine tl_clearK U35 I3 (by intro v hv;simp[Value.cells] at hv;subst hv;rfl) (by decide) rfl hf rfl HR.bl (by omega) hszc (fun k hk=>by cases hk) fun a w zs hg hsz hzl hB hf=>?_
    replace e:=e.gr hg (by omega)
    replace Hw:=Hw.gr hg (.inl hSb)
    refine tl_nil ?_
    have HR2:RwR 1 3 N cap b (cur.toList.take (ys.length * 1)++zs++cur.toList.drop (ys.length * 1+(l.length - ys.length) * 1)).toArray w:=⟨hB,HR.lo,by
     have h5:=HR.sz
     simp only[List.size_toArray,List.length_append,List.length_take,List.length_drop,hzl,Array.length_toList]
     omega,HR.mx⟩
    have hfin:(cur.toList.take (ys.length * 1)++zs++cur.toList.drop (ys.length * 1+(l.length - ys.length) * 1)).toArray.toList.take (ys.length * 1)=ys.flatMap intF:=by
     rw[List.toList_toArray,List.append_assoc,List.take_append_of_le_length (by have h7:cur.toList.length=cur.size:=Array.length_toList;rw[List.length_take];omega),List.take_take,Nat.min_self];exact ht
    obtain⟨cur2,hcur2⟩:∃cur2,cur2=(cur.toList.take (ys.length * 1)++zs++cur.toList.drop (ys.length * 1+(l.length - ys.length) * 1)).toArray:=⟨_,rfl⟩
    rw[← hcur2] at HR2 hfin
    replace hf:=hf.kp [0,5]
    refine seq <| rgN 3 hf <| st (mv rfl) <| st (mv rfl) <| st (slcHiK U35 S3 rfl rfl (by omega)) <| en fun a w e' hf=>?_
    obtain⟨Hw,HR2,e⟩:=up3 e' Hw HR2 e
    refine tA hf rfl fun a hf=>tl_nil <| wret <| ret1 rfl hf rfl ?_
    rintro _ rfl
    exact⟨_,rfl,Hw,HR2.own intFF (by omega) hfin fun b hb=>hb.elim⟩
 rw[hwU] at goal
 exact goal
theorem mpE_map {P:Program}{α β:Type}[DecidableEq α]{V:KV P α β}{N:Nat}{G:Nat→Prop}{l:List (α×β)}{v:Value}{w:World}(h:(Dv (mpE V N) G l).p v w):∃b,v=.map (some b):=by
 obtain⟨cs,⟨b,n,rfl,_⟩,hv⟩:=h
 exact⟨b,hv⟩
def brD (nb:Int→BS)(e:Nat×Nat):Int:=farF (lvB (wo nb e.1 e.2) e.1) e.2
def toN (x:Int×Int):Nat×Nat:=(x.1.toNat,x.2.toNat)
theorem toN_toI (e:Nat×Nat):toN (toI e)=e:=by simp[toN,toI]
theorem br1_spec {G:Nat→Prop}{N0:Nat}(l:List (Int×BS))(S0:BS)(mq:Value)(u v c:Nat)(W:World)(hT:Tab W)(HV:(Dv (mpE sKV N0) G l).p mq W)(hc:Blk W c (adC S0 mq) 79)(hN:N0≤100000)(hu:u<1024)(hv:v<1024)(huv:u≠v)(hm:((u:Int),lkS l (u:Int))∈l) :
  Calls Tryz.prog 49 #[edV (toI (u,v)),ptr c] W (Post (E (B (brD (lkS l) (u,v) != -1))) W):=by
 obtain⟨nb,hnb⟩:∃nb,nb=lkS l:=⟨_,rfl⟩
 rw[← hnb]
 obtain⟨d,hd⟩:∃d,d=brD nb (u,v):=⟨_,rfl⟩
 rw[← hd]
 rw[brD] at hd
 refine eN [edV (toI (u,v)),ptr c] [E (edV (toI (u,v))),E (ptr c)] Tryz.func49 Tryz.ntmps49 ?_ fun a hf=>?_
 rotate_left
 rotate_right
 ·exact arg2 rfl rfl
 have e:=Ext.rfl' W
 refine seq <| regn0 <| tB hf rfl fun a b2 w v2 hv2 e' hb2 hs2 B2 hf=>?_
 obtain⟨hT,HV,e,hc⟩:=up4 e' hT HV e hc
 refine tA hf rfl fun a hf=>tl_nil ?_
 cases hv2
 replace B2:Blk w b2 #[I (u:Nat),I (v:Nat)] 60:=B2
 refine seq <| rgG 13 Mix.mix hf <| st (ldW T79 rfl hc (adC_size _ _)) <| st (idxA U60 ⟨_,T3⟩ rfl rfl (by omega)) <| st (ld1 T3 rfl B2 rfl) <| st (idxA U60 ⟨_,T3⟩ rfl rfl (by omega)) <| st (ld1 T3 rfl B2 rfl) <| st (call3 (A:=WoA (wo nb u v) S0 (N0+2)) (B:=E (.agg (adC S0 mq))) (C:=E (I (u:Nat))) (D:=E (I (v:Nat))) En51 rfl rfl rfl (fun a b c w he k1 k2 k3=>by cases k1;cases k2;cases k3;rw[hnb];exact without07_spec l S0 u v mq w (hT.ext he) (Dv.ex HV he) hN hu hv huv hm)) ?_
 refine st (idxA U60 ⟨_,T3⟩ rfl rfl (by omega)) <| st (ld1 T3 rfl B2 rfl) <| st (call2 (A:=Dv (slE setE) G0 (lvB (wo nb u v) u)) (B:=WoA (wo nb u v) S0 (N0+2)) (C:=E (I (u:Nat))) En52 rfl rfl (fun a b w he ⟨l2,k1,mq2,k2,k3⟩ k4=>by subst k2;cases k4;rw[← k1];exact (levels_spec l2 S0 mq2 u w (hT.ext he) k3 hu).mono fun en w' ⟨z,q1,q2,q3⟩=>⟨z,q1,q2,OwR.sl q3⟩)) ?_
 refine st (idxA U60 ⟨_,T3⟩ rfl rfl (by omega)) <| st (ld1 T3 rfl B2 rfl) <| st (call2 (A:=E (I d)) (B:=Dv (slE setE) G0 (lvB (wo nb u v) u)) (C:=E (I (v:Nat))) En50 rfl rfl (fun a b w he k1 k2=>by cases k2;rw[hd];exact far_spec _ v a w k1 (Nat.le_trans (lvB_len _ _) (by decide)))) ?_
 refine st (neq rfl rfl) <| en fun a w e' hf=>?_
 obtain⟨hT,HV,e,hc,B2⟩:=up5 e' hT HV e hc B2
 refine tA hf rfl fun a hf=>tl_nil <| wret <| ret1 rfl hf rfl ?_
 rintro _ rfl
 exact⟨_,rfl,e,rfl⟩
def brF (g:GT):List (Nat×Nat):=(esN g).filter fun e => !(brD (nbA g) e != -1)
theorem es_mem {g:GT}{l:List (Int×BS)}(ok:Gr.Ok g)(hl:l=nbL g (elems (vset g.1))):∀e∈esN g,e.1<1024∧e.2<1024∧e.1≠e.2∧((e.1:Int),lkS l (e.1:Int))∈l:=fun e he=>by
 obtain⟨h1,h2,h3⟩:=es_in ok e he
 refine⟨bit_lt h2,bit_lt h3,by omega,?_⟩
 have h4:((e.1:Int),nbG g.2 (e.1:Int))∈l:=by
  rw[hl,nbL]
  exact List.mem_map.2 ⟨e.1,mem_elems.2 ⟨bit_lt h2,h2⟩,rfl⟩
 have h5:lkS l (e.1:Int)=nbG g.2 (e.1:Int):=by
  rw[hl,nbL,lkS_map (fun n=>nbG g.2 (n:Int)),if_pos (mem_elems.2 ⟨bit_lt h2,h2⟩)]
 rw[h5];exact h4
theorem bridges_spec {G:Nat→Prop}{N:Nat}(g:GT)(ok:Gr.Ok g)(v:Value)(W:World)(hT:Tab W)(h:(Dv (ptE (grE N)) G (some g)).p v W)(hl1:g.1.length≤100000)(hl2:g.2.length≤100000)(hN:N≤1000000) :
  Calls Tryz.prog 14 #[v] W (Post (Dv (slE edE) G0 ((brF g).map toI)) W):=by
 have hgd:(Dv (ptE (grE N)) G0 (some g)).p v W:=Dv.weak h fun b _ hb=>hb.elim
 have gs1:=ok.sv
 have gs2:=ok.se
 obtain⟨l,hl⟩:∃l,l=nbL g (elems (vset g.1)):=⟨_,rfl⟩
 have hmem:=es_mem ok hl
 obtain⟨V,hV⟩:∃V,V=vset g.1:=⟨_,rfl⟩
 have hnb:nbA g=lkS l:=by rw[hl,nbA]
 have hti:=es_toI ok
 rw[brF,hnb]
 obtain⟨es,hes⟩:∃es,es=esN g:=⟨_,rfl⟩
 rw[← hes] at hti hmem ⊢
 have hel:es.length≤100000:=by rw[hes,esN,List.length_map];exact hl2
 obtain⟨p,hp⟩:∃p:Int×Int→Bool,p=fun x=>brD (lkS l) (toN x) != -1:=⟨_,rfl⟩
 have hfil:((es.map toI).filter fun x => !p x)=(es.filter fun e => !(brD (lkS l) e != -1)).map toI:=by
  rw[List.filter_map,hp]
  refine congrArg (List.map toI) (List.filter_congr fun x _=>?_)
  simp only[Function.comp,toN_toI]
 rw[← hfil]
 have hT0:=hT.lt
 refine eN [v] [E v] Tryz.func14 Tryz.ntmps14 ?_ fun a hf=>?_
 rotate_left
 dsimp only[params,Nat.reduceAdd] at hf
 rotate_right
 ·exact arg1 rfl
 have e:=Ext.rfl' W
 refine seq <| regn0 <| tA hf rfl fun a hf=>tl_nil ?_
 repeat refine seq ?_
 refine rgN 2 hf <| st (mv rfl) <| st (eqlP U26 (isE rfl (VA.st _ _ _ _ e hgd))) <| en fun a w e' hf=>?_
 obtain⟨hT,e⟩:=up2 e' hT e
 refine tl_nil <| ifc hf rfl (fun h=>by cases h) (fun _=>?_)
 refine wskip ?_
 replace hf:=hf.keep [0]
 have e0:=e
 refine seq <| rgN 2 hf <| st (mv rfl) <| st (call1 (A:=AdjA l V 1024) En46 rfl (fun v w he k=>by cases k;rw[hl,hV];exact (of07_spec g _ w (hT.ext he) (VA.st _ _ _ _ (Ext.tr e0 he) hgd) gs1 gs2 hl1 hl2 hN).mono fun en w' ⟨k1,mq,k2,k3⟩=>⟨_,k2,k1,mq,rfl,k3⟩)) ?_
 refine en fun a w e' hf=>?_
 obtain⟨hT,e⟩:=up2 e' hT e
 obtain⟨av,⟨mq,rfl,HV0⟩,hf⟩:=hf.opn 7 rfl
 obtain⟨bm,rfl⟩:=mpE_map HV0
 obtain⟨N1,hN1⟩:∃N1,N1=w.heap.size:=⟨_,rfl⟩
 have hN1s:N1≤w.heap.size:=Nat.le_of_eq hN1
 have hWN1:W.heap.size≤N1:=by rw[hN1];exact e.size
 have HV:(Dv (mpE sKV 1024) (fun b=>N1≤b) l).p (.map (some bm)) w:=Dv.weak HV0 fun b hb hh=>by omega
 replace hf:=hf.kp [0,7]
 refine tL I79 hf fun a b3 w e' hb3 hs3 B3 hf=>?_
 have lo3_hN1s:=Nat.le_trans hN1s (Nat.le_of_eq hb3.symm)
 obtain⟨hT,HV,hN1s,e⟩:=up4 e' hT HV hN1s e
 have n3:N1≤b3:=lo3_hN1s
 refine tl_stW T79 hf rfl rfl (adC_one _ _) B3 rfl (adC_size _ _) fun w hg hsz B3 hf=>?_
 replace e:=e.gr hg (by omega);replace hT:=hT.gr hg (by omega);replace HV:=Dv.gr HV hg n3;replace hN1s:=Nat.le_trans hN1s hg.size;clear hg
 refine tl_nil ?_
 replace hf:=hf.keep [0,3]
 have e4:=e
 obtain⟨N2,hN2⟩:∃N2,N2=w.heap.size:=⟨_,rfl⟩
 have hN2s:N2≤w.heap.size:=Nat.le_of_eq hN2
 have l3:b3<N2:=by rw[hN2];exact B3.lt
 have h12:N1≤N2:=by omega
 refine seq <| rgN 3 hf <| st (mv rfl) <| st (call1 (A:=OwA edE 60 N2 G0 (es.map toI)) (B:=E v) En48 rfl (fun u w he k=>by cases k;rw[← hti];exact (ends_spec g v w (VA.st _ _ _ _ (Ext.tr e4 he) hgd) gs2 hl2 hN).mono fun en w' ⟨u,k1,k2,k3⟩=>⟨u,k1,k2,OwR.low k3 (Nat.le_trans hN2s he.size) fun b hb=>hb.elim⟩)) ?_
 refine st (makeF1 rfl) <| en fun a w e' hf=>?_
 obtain⟨hT,HV,e,B3⟩:=up4 e' hT HV e B3
 obtain⟨ev,HoE,hf⟩:=hf.opn 9 rfl
 replace HoE:OwR edE 60 N2 G0 w (es.map toI) ev:=HoE
 replace hf:=hf.kp [9,10]
 refine tl_callE (S:=fun b=>ev.ownBlock=some b) (F:=fun z w'=>OwR edE 60 N2 G0 w' ((es.map toI).filter fun x => !p x) z) hf (by decide) En47 ?_ fun a z w hc hF hf=>?_
 ·have e9:a.eval (.tmp 9)=ev:=hf.opd (.tmp 9) _ rfl
  have e10:a.eval (.tmp 10)=.func (.func 49) #[] #[ptr b3]:=hf.opd (.tmp 10) _ rfl
  simp only[List.map_toArray,List.map_cons,List.map_nil,e9,e10]
  refine (deleteE_spec (es.map toI) ev 49 #[ptr b3] p N2 _ En49 HoE (by rw[List.length_map];exact hel) fun w' x hx hc=>?_).mono fun en w' h=>h
  obtain⟨e,he,rfl⟩:=List.mem_map.1 hx
  obtain⟨u,v⟩:=e
  obtain⟨m1,m2,m3,m4⟩:=hmem _ he
  have hpe:p (toI (u,v))=(brD (lkS l) (u,v) != -1):=by rw[hp];show (brD (lkS l) (toN (toI (u,v))) != -1)=_;rw[toN_toI]
  rw[hpe]
  exact br1_spec l V (.map (some bm)) u v b3 w' (hT.ch hc fun h0=>by have:=(HoE.lt h0).1;omega) (Dv.ch HV hc fun b hb=>by have:=(HoE.lt hb).1;omega) (B3.ch hc fun h0=>by have:=(HoE.lt h0).1;omega) (by decide) m1 m2 m3 m4
 replace e:=e.ch hc fun b hb=>by have:=(HoE.lt hb).1;omega
 have HoE:=hF
 refine tA hf rfl fun a hf=>tl_nil <| wret <| ret1 rfl hf rfl ?_
 rintro _ rfl
 exact⟨_,rfl,e,HoE.sl⟩
def cvN (nb:Int→BS)(V:BS)(x:Nat):Nat:=(prF (nbWi nb (V &&& del V (x:Int))) (card (V &&& del V (x:Int))) (V &&& del V (x:Int))).length
theorem cmp_wi (l:List (Int×BS))(S T:BS)(h:S=T):(cmpB (wiL l S) T).length=(prF (nbWi (lkS l) S) (card S) S).length:=by subst h;rw[cmpB,lk_wi]
theorem cv1_spec {G:Nat→Prop}{N0 n:Nat}(l:List (Int×BS))(V:BS)(mq:Value)(x c d:Nat)(W:World)(hT:Tab W)(HV:(Dv (mpE sKV N0) G l).p mq W)(hc:Blk W c (adC V mq) 79)(hd:Blk W d #[I (n:Nat)] 3) :
  Calls Tryz.prog 57 #[I (x:Nat),ptr c,ptr d] W (Post (E (B (decide (cvN (lkS l) V x≤n)))) W):=by
 obtain⟨S,hS⟩:∃S,S=V &&& del V (x:Int):=⟨_,rfl⟩
 have hcv:cvN (lkS l) V x=(cmpB (wiL l S) S).length:=by rw[cvN,← hS,cmp_wi l S S rfl]
 obtain⟨ps,hps⟩:∃ps,ps=cmpB (wiL l S) S:=⟨_,rfl⟩
 rw[hcv,← hps]
 refine eN [I (x:Nat),ptr c,ptr d] [E (I (x:Nat)),E (ptr c),E (ptr d)] Tryz.func57 Tryz.ntmps57 ?_ fun a hf=>?_
 rotate_left
 rotate_right
 ·exact arg3 rfl rfl rfl
 have e:=Ext.rfl' W
 refine seq <| regn0 <| tA hf rfl fun a hf=>tl_nil <| seq <| rgG 10 Mix.mix hf <| st (ldW T79 rfl hc (adC_size _ _)) <| st (fA U79 rfl T76 rfl) <| st ((ldP T76 rfl hc (by rw[adC_size];decide)).eq (congrArg Value.agg (adC_set V mq))) ?_
 refine st (mv rfl) <| st (call2 (A:=E (setV (del V (x:Int)))) (B:=E (setV V)) (C:=E (I (x:Nat))) En59 rfl rfl (fun v u w he h h'=>by cases h;cases h';exact without_spec _ _ w)) ?_
 refine st (call2 (A:=AdjA (wiL l S) S 1024) (B:=E (.agg (adC V mq))) (C:=E (setV (del V (x:Int)))) En58 rfl rfl (fun a b w he k1 k2=>by cases k1;cases k2;rw[hS];exact within_spec l V (del V (x:Int)) mq w (hT.ext he) (Dv.ex HV he))) ?_
 refine st (call1 (A:=Dv (slE setE) G0 ps) (B:=AdjA (wiL l S) S 1024) En54 rfl (fun v w he ⟨mq2,k1,k2⟩=>by rw[k1,hps];exact (parts_spec (wiL l S) S mq2 w (hT.ext he) k2).mono fun en w' ⟨u,k1,k2,k3⟩=>⟨u,k1,k2,OwR.sl k3⟩)) ?_
 refine st (lenD U83 (isR rfl)) <| st (ld1 (v:=I (n:Nat)) T3 rfl hd rfl) <| st ((leq rfl rfl).eq (congrArg B (show decide ((ps.length:Int)≤(n:Int))=decide (ps.length≤n) from decide_eq_decide.2 Int.ofNat_le))) <| en fun a w e' hf=>?_
 obtain⟨hT,HV,e,hc,hd⟩:=up5 e' hT HV e hc hd
 refine tA hf rfl fun a hf=>tl_nil <| wret <| ret1 rfl hf rfl ?_
 rintro _ rfl
 exact⟨_,rfl,e,rfl⟩
def cvF (g:GT):List Nat:=(elems (vset g.1)).filter fun x => !decide (cvN (nbA g) (vset g.1) x≤(prF (nbA g) (card (vset g.1)) (vset g.1)).length)
theorem cuts_spec {G:Nat→Prop}{N:Nat}(g:GT)(ok:Gr.Ok g)(v:Value)(W:World)(hT:Tab W)(h:(Dv (ptE (grE N)) G (some g)).p v W)(hl1:g.1.length≤100000)(hl2:g.2.length≤100000)(hN:N≤1000000) :
  Calls Tryz.prog 17 #[v] W (Post (Dv (slE intE) G0 (natE (cvF g))) W):=by
 have hgd:(Dv (ptE (grE N)) G0 (some g)).p v W:=Dv.weak h fun b _ hb=>hb.elim
 have gs1:=ok.sv
 have gs2:=ok.se
 obtain⟨l,hl⟩:∃l,l=nbL g (elems (vset g.1)):=⟨_,rfl⟩
 have hnb:nbA g=lkS l:=by rw[hl,nbA]
 rw[cvF,hnb]
 obtain⟨V,hV⟩:∃V,V=vset g.1:=⟨_,rfl⟩
 rw[← hV]
 obtain⟨ps,hps⟩:∃ps,ps=cmpB l V:=⟨_,rfl⟩
 rw[show prF (lkS l) (card V) V=ps by rw[hps,cmpB]]
 obtain⟨n,hn⟩:∃n,n=ps.length:=⟨_,rfl⟩
 rw[← hn]
 obtain⟨p,hp⟩:∃p:Int→Bool,p=fun x=>decide (cvN (lkS l) V x.toNat≤n):=⟨_,rfl⟩
 have hfil:(elL V).filter (fun x => !p x)=natE ((elems V).filter fun x => !decide (cvN (lkS l) V x≤n)):=by
  rw[elL,natE,natE,List.filter_map,hp]
  refine congrArg (List.map _) (List.filter_congr fun x _=>?_)
  simp only[Function.comp,Int.toNat_natCast]
 rw[← hfil]
 have hT0:=hT.lt
 refine eN [v] [E v] Tryz.func17 Tryz.ntmps17 ?_ fun a hf=>?_
 rotate_left
 dsimp only[params,Nat.reduceAdd] at hf
 rotate_right
 ·exact arg1 rfl
 have e:=Ext.rfl' W
 refine seq <| regn0 <| tA hf rfl fun a hf=>tl_nil ?_
 replace hf:=hf.keep [0]
 have e0:=e
 refine seq <| rgN 2 hf <| st (mv rfl) <| st (call1 (A:=AdjA l V 1024) En46 rfl (fun v w he k=>by cases k;rw[hl,hV];exact (of07_spec g _ w (hT.ext he) (VA.st _ _ _ _ (Ext.tr e0 he) hgd) gs1 gs2 hl1 hl2 hN).mono fun en w' ⟨k1,mq,k2,k3⟩=>⟨_,k2,k1,mq,rfl,k3⟩)) ?_
 refine en fun a w e' hf=>?_
 obtain⟨hT,e⟩:=up2 e' hT e
 obtain⟨av,⟨mq,rfl,HV0⟩,hf⟩:=hf.opn 6 rfl
 obtain⟨bm,rfl⟩:=mpE_map HV0
 obtain⟨N1,hN1⟩:∃N1,N1=w.heap.size:=⟨_,rfl⟩
 have hN1s:N1≤w.heap.size:=Nat.le_of_eq hN1
 have hWN1:W.heap.size≤N1:=by rw[hN1];exact e.size
 have HV:(Dv (mpE sKV 1024) (fun b=>N1≤b) l).p (.map (some bm)) w:=Dv.weak HV0 fun b hb hh=>by omega
 replace hf:=hf.kp [0,6]
 refine tL I79 hf fun a b3 w e' hb3 hs3 B3 hf=>?_
 have lo3_hN1s:=Nat.le_trans hN1s (Nat.le_of_eq hb3.symm)
 obtain⟨hT,HV,hN1s,e⟩:=up4 e' hT HV hN1s e
 have n3:N1≤b3:=lo3_hN1s
 refine tl_stW T79 hf rfl rfl (adC_one _ _) B3 rfl (adC_size _ _) fun w hg hsz B3 hf=>?_
 replace e:=e.gr hg (by omega);replace hT:=hT.gr hg (by omega);replace HV:=Dv.gr HV hg n3;replace hN1s:=Nat.le_trans hN1s hg.size;clear hg
 refine tl_nil ?_
 replace hf:=hf.keep [3]
 have hdv:(Dv (mpE sKV 1024) G0 l).p (.map (some bm)) w:=Dv.weak HV fun b _ hb=>hb.elim
 refine seq <| rgN 3 hf <| st (ldW T79 rfl B3 (adC_size _ _)) <| st (call1 (A:=Dv (slE setE) G0 ps) (B:=E (.agg (adC V (.map (some bm))))) En54 rfl (fun v w he k1=>by cases k1;rw[hps];exact (parts_spec l V (.map (some bm)) w (hT.ext he) (Dv.ex hdv he)).mono fun en w' ⟨u,k1,k2,k3⟩=>⟨u,k1,k2,OwR.sl k3⟩)) ?_
 refine st (lenD U83 (isR rfl)) <| en fun a w e' hf=>?_
 obtain⟨hT,HV,hN1s,e,B3⟩:=up5 e' hT HV hN1s e B3
 rw[← hn] at hf
 have n34:=B3.lt
 refine tL I3 hf fun a b4 w e' hb4 hs4 B4 hf=>?_
 have lo4_hN1s:=Nat.le_trans hN1s (Nat.le_of_eq hb4.symm)
 obtain⟨hT,HV,hN1s,e,B3⟩:=up5 e' hT HV hN1s e B3
 have n4:N1≤b4∧b3≠b4:=⟨lo4_hN1s,by omega⟩
 replace hf:=hf.kp [3,4,9]
 refine tl_st1 T3 hf rfl rfl rfl B4 Nat.zero_lt_one fun w hg hsz B4 hf=>?_
 obtain⟨e,hT,hN1s⟩:=gr3 hg e hT hN1s
 replace HV:=Dv.gr HV hg n4.1;replace B3:=B3.gr hg n4.2
 refine tl_nil ?_
 replace B4:Blk w b4 #[I (n:Nat)] 3:=B4
 replace hf:=hf.keep [3,4]
 obtain⟨N2,hN2⟩:∃N2,N2=w.heap.size:=⟨_,rfl⟩
 have hN2s:N2≤w.heap.size:=Nat.le_of_eq hN2
 refine seq <| rgN 4 hf <| st (fA U79 rfl T76 rfl) <| st ((ldP T76 rfl B3 (by rw[adC_size];decide)).eq (congrArg Value.agg (adC_set V (.map (some bm))))) ?_
 refine st (call1 (A:=OwA intE 3 N2 G0 (elL V)) (B:=E (setV V)) En56 rfl (fun u w he k=>by cases k;exact (elementsO_spec V w (hT.ext he)).mono fun en w' ⟨u,k1,k2,k3⟩=>⟨u,k1,k2,OwR.low k3 (Nat.le_trans hN2s he.size) fun b hb=>hb.elim⟩)) ?_
 refine st (makeF2 rfl rfl) <| en fun a w e' hf=>?_
 obtain⟨hT,HV,e,B3,B4⟩:=up5 e' hT HV e B3 B4
 obtain⟨ev,HoE,hf⟩:=hf.opn 12 rfl
 replace HoE:OwR intE 3 N2 G0 w (elL V) ev:=HoE
 replace hf:=hf.kp [12,13]
 refine tl_callE (S:=fun b=>ev.ownBlock=some b) (F:=fun z w'=>OwR intE 3 N2 G0 w' ((elL V).filter fun x => !p x) z) hf (by decide) En55 ?_ fun a z w hc hF hf=>?_
 ·have e9:a.eval (.tmp 12)=ev:=hf.opd (.tmp 12) _ rfl
  have e10:a.eval (.tmp 13)=.func (.func 57) #[] #[ptr b3,ptr b4]:=hf.opd (.tmp 13) _ rfl
  simp only[List.map_toArray,List.map_cons,List.map_nil,e9,e10]
  refine (deleteI_spec (elL V) ev 57 #[ptr b3,ptr b4] p N2 _ En57 HoE (Nat.le_trans (elL_len V) (by decide)) fun w' x hx hc=>?_).mono fun en w' h=>h
  obtain⟨y,he,rfl⟩:=List.mem_map.1 hx
  have hpe:p (y:Int)=decide (cvN (lkS l) V y≤n):=by rw[hp];simp only[Int.toNat_natCast]
  rw[hpe]
  exact cv1_spec l V (.map (some bm)) y b3 b4 w' (hT.ch hc fun h0=>by have:=(HoE.lt h0).1;omega) (Dv.ch HV hc fun b hb=>by have:=(HoE.lt hb).1;omega) (B3.ch hc fun h0=>by have:=(HoE.lt h0).1;omega) (B4.ch hc fun h0=>by have:=(HoE.lt h0).1;omega)
 replace e:=e.ch hc fun b hb=>by have:=(HoE.lt hb).1;omega
 have HoE:=hF
 refine tA hf rfl fun a hf=>tl_nil <| wret <| ret1 rfl hf rfl ?_
 rintro _ rfl
 exact⟨_,rfl,e,HoE.sl⟩
end Go.Mono
namespace Go.Mono
open Go Go.RowKit
def chkOpV (ops:Array Oper)(m N i:Nat):Bool:=
 match ops[i]? with
 | none=>false
 | some o=>
  (o.after.all fun e => !Region.binds .any e || Nat.blt e.on i) &&
  (match o.dst with|some d=>Nat.blt d N|none=>true) &&
  ((tmpsOf o++(gdst ops o).toList).all fun t=>(List.range m).all fun j=>(match dstOf ops j with|some d => !Nat.beq d t|none=>true) || bnd ops i j || (Nat.blt i j&&covers ops 12 j i)) &&
  ((List.range m).all fun j=>Nat.beq j i || (match o.dst,dstOf ops j with|some d,some e => !Nat.beq d e|_,_=>true))
def chkV (ops:Array Oper)(m N:Nat):Bool:=
 Nat.ble m ops.size&&((List.range m).all fun i=>chkOpV ops m N i)&&((List.range ops.size).all fun i=>Nat.blt i m || chkTail ops i)
section
variable {P:Program}{ops:Array Oper}{Q:Exit→Act→World→Prop}{w0:World}{n:Nat}{ds:List Deferred}{r:Option Nat}
structure InvV (ops:Array Oper)(m n:Nat)(ds:List Deferred)(w0:World)(L:Env)(As:Nat→VA)(listed:Array Bool)(a:Act)(w:World):Prop where
 ext:Ext w0 w
 size:a.tmps.size=n
 defers:a.defers=ds
 hL:∀t A,look L t=some A→(∀j,j<m→dstOf ops j=some t→listed.getD j false=false)→A.p (a.eval (.tmp t)) w
 hA:∀i,i<m→listed.getD i false=true→∀d,dstOf ops i=some d→(As i).p (a.eval (.tmp d)) w

theorem wpAny_mainV {m:Nat}{L:Env}{As:Nat→VA}(hm:m≤ops.size)(hchk:∀i,i<m→chkOpV ops m n i=true)(hchk2:∀i,m≤i→i<ops.size→chkTail ops i=true)
  (hops:∀j o,j<m→ops[j]?=some o→GOp P ops w0 (envF ops L As 0 j) o (As j))
  (hend:∀a w,Ext w0 w→FrD n ds a w (envF ops L As 0 m)→wpListIn (FW r) 0 P ops Q (ops.toList.drop m) a w) :
  ∀(c:Nat) (listed:Array Bool) (a:Act) (w:World),(List.range m).countP (fun i => !listed.getD i true)=c→listed.size=ops.size →
   (∀j,m≤j→j<ops.size→listed.getD j true=false)→LD ops listed→InvV ops m n ds w0 L As listed a w→wpAnyIn (FW r) 0 P .any ops Q (c+(ops.size - m)) listed a w
 | 0,listed,a,w,hc,hsz,hun,hld,hi=>by
  have hall:∀j,j<m→listed.getD j false=true:=by
   intro j hj
   have:=(List.countP_eq_zero.1 hc) j (List.mem_range.2 hj)
   have hjl:j<listed.size:=by omega
   simpa[hjl] using this
  rw[Nat.zero_add]
  refine wpAny_tail m hchk2 (ops.size - m) m (by omega) (Nat.le_refl _) listed a w hall hun hsz hld (hend a w hi.ext ⟨hi.size,hi.defers,fun t A ht=>?_⟩)
  rcases look_envF L As t A m ht with ⟨j,hj,hd,rfl⟩|⟨hn,hl⟩
  ·exact hi.hA j hj (hall j hj) t hd
  ·exact hi.hL t A hl fun j hj hd=>absurd hd (hn j hj)
 | c+1,listed,a,w,hc,hsz,hun,hld,hi=>by
  have facts:∀i o,i<m→ops[i]?=some o→(∀e∈o.after,Region.binds .any e=true→e.on<i)∧(∀d,o.dst=some d→d<n) ∧
    (∀t,t∈tmpsOf o∨gdst ops o=some t→∀j,j<m→dstOf ops j=some t→bnd ops i j=true∨(i<j∧covers ops 12 j i=true))∧(∀j,j<m→j≠i→∀d,o.dst=some d→dstOf ops j≠some d):=by
   intro i o hlt ho
   have:=hchk i hlt
   simp only[chkOpV,ho,Bool.and_eq_true,Array.all_eq_true_iff_forall_mem,Bool.or_eq_true,Bool.not_eq_true',List.all_eq_true,List.mem_range,List.mem_append,Option.mem_toList] at this
   obtain⟨⟨⟨h1,h2⟩,h3⟩,h4⟩:=this
   refine⟨fun e he hb=>?_,fun d hd=>?_,fun t ht j hj hd=>?_,fun j hj hne d hd hd'=>?_⟩
   ·rcases h1 e he with h|h
    ·rw[hb] at h;cases h
    ·simpa[Nat.blt_eq] using h
   ·simpa[hd,Nat.blt_eq] using h2
   ·have:=h3 t ht j hj
    rcases this with (h|h)|h
    ·rw[hd] at h;simp at h
    ·exact .inl h
    ·exact .inr ⟨by simpa[Nat.blt_eq] using h.1,h.2⟩
   ·have:=h4 j hj
    rcases this with h|h
    ·exact hne (Nat.eq_of_beq_eq_true h)
    ·rw[hd,hd'] at h;simp at h
  have prog:∃i,i<m∧listed.getD i true=false∧∀j,j<i→listed.getD j true=true:=by
   have hex:∃i,i<m∧listed.getD i true=false:=by
    have hpos:0<(List.range m).countP (fun i => !listed.getD i true):=by omega
    obtain⟨i,hi,hb⟩:=List.countP_pos_iff.1 hpos
    exact⟨i,List.mem_range.1 hi,by simpa using hb⟩
   obtain⟨i,hlt,hb⟩:=hex
   induction i using Nat.strongRecOn with
   | _ i ih=>
    by_cases h:∃j,j<i∧listed.getD j true=false
    ·obtain⟨j,hj,hjb⟩:=h
     exact ih j hj (by omega) hjb
    ·refine⟨i,hlt,hb,fun j hj=>?_⟩
     cases hjb:listed.getD j true with
     | true=>rfl
     | false=>exact absurd ⟨j,hj,hjb⟩ h
  obtain⟨i0,hi0,hu0,hbelow⟩:=prog
  have hready:i0∈Region.ready .any ops listed:=by
   have ho:ops[i0]?=some (ops[i0]'(by omega)):=by simp
   refine mem_ready.2 ⟨hu0,_,ho,fun e he hb=>?_⟩
   have hlt:=(facts i0 _ hi0 ho).1 e he hb
   have:=hbelow _ hlt
   have hjl:e.on<listed.size:=by omega
   simpa[hjl] using this
  rw[show c+1+(ops.size - m)=(c+(ops.size - m))+1 by omega]
  refine⟨fun h0=>(by rw[h0] at hready;cases hready),fun i hir=>?_⟩
  obtain⟨hu,o,ho,hall⟩:=mem_ready.1 hir
  have hilt:i<ops.size:=(Array.getElem?_eq_some_iff.1 ho).1
  have listed_of_bnd:∀j,bnd ops i j=true→listed.getD j false=true:=by
   intro j hb
   simp only[bnd,ho] at hb
   obtain⟨e,he,hb⟩:=Array.any_eq_true'.1 hb
   simp only[Bool.and_eq_true] at hb
   have:=hall e he hb.1
   rwa [Nat.eq_of_beq_eq_true hb.2] at this
  have him:i<m:=by
   rcases Nat.lt_or_ge i m with h|h
   ·exact h
   ·have hc:=hchk2 i h hilt
    simp only[chkTail,ho,Bool.and_eq_true,List.all_eq_true,List.mem_range] at hc
    have:=cov hld 12 i i0 (hc.2 i0 (by omega)) (fun o' ho' e he hb=>by
     rw[ho] at ho'
     obtain rfl:=Option.some.inj ho'
     exact hall e he hb)
    rw[not_listed hu0] at this
    cases this
  obtain⟨f1,f2,f3,f4⟩:=facts i o him ho
  have byLook:∀t,(t∈tmpsOf o∨gdst ops o=some t)→∀B,look (envF ops L As 0 i) t=some B→B.p (a.eval (.tmp t)) w:=by
   intro t ht B hB
   rcases look_envF L As t B i hB with ⟨j,hj,hd,rfl⟩|⟨hn,hl⟩
   ·exact hi.hA j (by omega) (listed_of_bnd j ((f3 t ht j (by omega) hd).resolve_right fun h=>by omega)) t hd
   ·refine hi.hL t B hl fun j hj hd=>?_
    rcases f3 t ht j hj hd with hb|⟨hij,hcv⟩
    ·simp only[bnd,ho] at hb
     obtain⟨e,he,hb⟩:=Array.any_eq_true'.1 hb
     simp only[Bool.and_eq_true] at hb
     have hlt:=f1 e he hb.1
     rw[Nat.eq_of_beq_eq_true hb.2] at hlt
     exact absurd hd (hn j hlt)
    ·cases hlj:listed.getD j false with
     | false=>rfl
     | true=>
      have:=cov hld 12 j i hcv (fun o' ho' e he hb=>hld j o' hlj ho' e he hb)
      rw[not_listed hu] at this
      cases this
  have hg:=hops i o him ho a w hi.ext (fun x hx B hB=>by
   cases x with
   | tmp t=>exact byLook t (.inl (List.mem_filterMap.2 ⟨.tmp t,by simpa using hx,rfl⟩)) B hB
   | const v=>simp[opd] at hB;subst hB;rfl
   | global g=>simp[opd] at hB;subst hB;rfl
   | func f=>simp[opd] at hB;subst hB;rfl) (fun d B hd hB=>byLook d (.inr hd) B hB)
  have hdst:dstOf ops i=o.dst:=by simp[dstOf,ho]
  have step:∀v w',Ext w w'→(As i).p v w'→wpAnyIn (FW r) 0 P .any ops Q (c+(ops.size - m)) (listed.setIfInBounds i true) (a.put o.dst v) w':=by
   intro v w' hx hv
   refine wpAny_mainV hm hchk hchk2 hops hend c _ _ _ ?_ (by simpa using hsz) ?_ ?_ ?_
   ·have:=countP_upd m (fun j => !listed.getD j true) (fun j => !(listed.setIfInBounds i true).getD j true) i him (by simp only[hu,Bool.not_false])
     (by
       have hjl:i<listed.size:=by omega
       simp[hjl]) (fun j hj=>by simp only[getD_set_ne true (Ne.symm hj)])
    omega
   ·intro j hj hj'
    rw[getD_set_ne true (by omega)]
    exact hun j hj hj'
   ·exact hld.set fun o' ho' e he hb=>by
     rw[ho] at ho'
     obtain rfl:=Option.some.inj ho'
     exact hall e he hb
   ·refine⟨Ext.tr hi.ext hx,by simp[hi.size],by simp[hi.defers],fun t A ht hn=>?_,fun j hj hl d hd=>?_⟩
    ·have h0:=A.st _ _ _ hx (hi.hL t A ht fun j hj hd=>by
      have h1:=hn j hj hd
      by_cases hji:j=i
      ·subst hji
       have hjl:j<listed.size:=by omega
       simp[hjl] at h1
      ·rwa [getD_set_ne false (Ne.symm hji)] at h1)
     cases hod:o.dst with
     | none=>exact h0
     | some d=>
      have:d≠t:=fun e=>by
       have h1:=hn i him (by rw[hdst,hod,e])
       have hjl:i<listed.size:=by omega
       simp[hjl] at h1
      rw[eval_put_ne this]
      exact h0
    ·by_cases hji:j=i
     ·subst hji
      rw[hdst] at hd
      rw[hd,eval_put_same (by rw[hi.size];exact f2 d hd)]
      exact hv
     ·have hl':listed.getD j false=true:=by rwa [getD_set_ne false (Ne.symm hji)] at hl
      have h0:=(As j).st _ _ _ hx (hi.hA j hj hl' d hd)
      cases hod:o.dst with
      | none=>exact h0
      | some d'=>
       have:d'≠d:=fun e=>f4 j hj hji d' hod (by rw[hd,e])
       rw[eval_put_ne this]
       exact h0
  unfold wpOpIn
  simp only[ho]
  split
  ·rename_i hw
   rw[if_pos hw] at hg
   exact (hg.wp fun v w' hv=>step v w' hv.1 hv.2)
  ·rename_i hw
   rw[if_neg hw] at hg
   exact⟨fun _ _=>trivial,step undef w (Ext.rfl' _) hg⟩
theorem regV {id:Nat}{ops:Array Oper}{L:Env}{a:Act}{w:World}(m:Nat)(hmix:P.follows .mixedOrders=true)(hf:FrD n ds a w L)(hchk:chkV ops m n=true)
  (h:RegM P ops w (ops.toList.take m) (fun L'=>∀a' w',Ext w w'→FrD n ds a' w' L'→wpListIn (FW r) 0 P ops Q (ops.toList.drop m) a' w') L):(Code.region id ops true).wpIn (FW r) 0 P Q a w:=by
 simp only[chkV,Bool.and_eq_true,List.all_eq_true,List.mem_range,Bool.or_eq_true,Nat.ble_eq] at hchk
 obtain⟨⟨hm,h1⟩,h2⟩:=hchk
 have hlen:(ops.toList.take m).length=m:=by simp;omega
 refine wpIn_region_any hmix ?_
 obtain⟨As,hAs,hK⟩:=RegM_As (ops.toList.take m) 0 L (fun j hj=>by
  rw[hlen] at hj
  rw[Nat.zero_add,List.getElem?_take,if_pos hj];simp) h
 rw[hlen] at hAs hK
 have hext:Ext w { w with drawn:=w.drawn+1 }:=Ext.drew w
 have:=wpAny_mainV (P:=P) (ops:=ops) (Q:=Q) (w0:=w) (n:=n) (ds:=ds) (m:=m) (r:=r) (L:=L) (As:=As) hm h1 (fun i hi hi'=>by
   rcases h2 i hi' with h|h
   ·simp only[Nat.blt_eq] at h;omega
   ·exact h) (fun j o hj ho=>hAs j o hj (by simpa using ho)) (fun a w hx hf=>hK a w hx hf) m
  (Array.replicate ops.size false) a { w with drawn:=w.drawn+1 } ?_ (by simp) ?_ ?_ ⟨hext,hf.size,hf.defers,fun t A ht _=>A.st _ _ _ hext (hf.val t A ht),fun i hi hl=>?_⟩
 ·rwa [show m+(ops.size - m)=ops.size by omega] at this
 ·have:(List.range m).countP (fun i => !(Array.replicate ops.size false).getD i true)=(List.range m).length:=by
   refine List.countP_eq_length.2 fun i hi=>?_
   have:=List.mem_range.1 hi
   have hlt:i<ops.size:=by omega
   simp[hlt]
  simpa using this
 ·intro j _ hj
  simp[hj]
 ·intro i o hl
  have:(Array.replicate ops.size false).getD i false=false:=by
   by_cases hlt:i<ops.size <;> simp[hlt]
  rw[this] at hl;cases hl
 ·have:(Array.replicate ops.size false).getD i false=false:=by
   by_cases hlt:i<ops.size <;> simp[hlt]
  rw[this] at hl;cases hl
end
end Go.Mono
namespace Go.Mono
open Go Go.Proofs Go.RowKit Go.Gr
def dsF (g:GT)(a b:Int):Int:=if (has (vset g.1) a&&has (vset g.1) b)=true then dsT (nbA g) a.toNat b.toNat else -1
theorem has_nat {S:BS}{a:Int}(h:has S a=true):∃n:Nat,a=n∧S.getLsbD n=true:=by
 have h':=h
 rw[has,Bool.and_eq_true,fitsB_iff] at h'
 refine⟨a.toNat,by omega,?_⟩
 exact h'.2
theorem ds_hi2 (nb:Int→BS)(a b:Nat):dsT nb a b≤1025:=has_far b
theorem ofA_spec {G:Nat→Prop}{N:Nat}(g:GT)(ok:Gr.Ok g)(v:Value)(W:World)(hT:Tab W)(h:(Dv (ptE (grE N)) G (some g)).p v W)(hl1:g.1.length≤100000)(hl2:g.2.length≤100000)(hN:N≤1000000) :
  Calls Tryz.prog 46 #[v] W (Post (AdjA (nbL g (elems (vset g.1))) (vset g.1) 1024) W):=
 (of07_spec g v W hT h ok.sv ok.se hl1 hl2 hN).mono fun en w' ⟨k1,mq,k2,k3⟩=>⟨_,k2,k1,mq,rfl,k3⟩
theorem dist_spec {G:Nat→Prop}{N:Nat}(g:GT)(ok:Gr.Ok g)(a0 c0:Int)(v:Value)(W:World)(hT:Tab W)(h:(Dv (ptE (grE N)) G (some g)).p v W)(hl1:g.1.length≤100000)(hl2:g.2.length≤100000)(hN:N≤1000000) :
  Calls Tryz.prog 30 #[v,I a0,I c0] W (Post (E (I (dsF g a0 c0))) W):=by
 have hgd:(Dv (ptE (grE N)) G0 (some g)).p v W:=Dv.weak h fun b _ hb=>hb.elim
 obtain⟨rr,hrr⟩:∃rr,rr=dsF g a0 c0:=⟨_,rfl⟩
 rw[← hrr]
 rw[dsF] at hrr
 obtain⟨l,hl⟩:∃l,l=nbL g (elems (vset g.1)):=⟨_,rfl⟩
 have hnb:nbA g=lkS l:=by rw[hl,nbA]
 rw[hnb] at hrr
 obtain⟨V,hV⟩:∃V,V=vset g.1:=⟨_,rfl⟩
 rw[← hV] at hrr
 have hT0:=hT.lt
 refine eN [v,I a0,I c0] [E v,E (I a0),E (I c0)] Tryz.func30 Tryz.ntmps30 ?_ fun a hf=>?_
 rotate_left
 dsimp only[params,Nat.reduceAdd] at hf
 rotate_right
 ·exact arg3 rfl rfl rfl
 have e:=Ext.rfl' W
 refine seq <| regn0 <| tA hf rfl fun a hf=>tl_nil ?_
 replace hf:=hf.keep [0,1,2]
 have e0:=e
 refine seq <| rgN 2 hf <| st (mv rfl) <| st (call1 (A:=AdjA l V 1024) En46 rfl (fun v w he k=>by cases k;rw[hl,hV];exact ofA_spec g ok _ w (hT.ext he) (VA.st _ _ _ _ (Ext.tr e0 he) hgd) hl1 hl2 hN)) ?_
 refine en fun a w e' hf=>?_
 obtain⟨hT,e⟩:=up2 e' hT e
 obtain⟨av,⟨mq,rfl,HV⟩,hf⟩:=hf.opn 9 rfl
 obtain⟨bm,rfl⟩:=mpE_map HV
 obtain⟨N1,hN1⟩:∃N1,N1=w.heap.size:=⟨_,rfl⟩
 have hN1s:N1≤w.heap.size:=Nat.le_of_eq hN1
 have hWN1:W.heap.size≤N1:=by rw[hN1];exact e.size
 replace HV:(Dv (mpE sKV 1024) (fun b=>N1≤b) l).p (.map (some bm)) w:=Dv.weak HV fun b hb hh=>by omega
 replace hf:=hf.kp [1,2,9]
 refine tL I79 hf fun a b7 w e' hb7 hs7 B7 hf=>?_
 have lo7_hN1s:=Nat.le_trans hN1s (Nat.le_of_eq hb7.symm)
 obtain⟨hT,HV⟩:=up2 e' hT HV
 replace hN1s:=Nat.le_trans hN1s e'.size
 replace e:=e.tr e'
 have n7:N1≤b7:=lo7_hN1s
 refine tl_stW T79 hf rfl rfl (adC_one _ _) B7 rfl (adC_size _ _) fun w hg hsz B7 hf=>?_
 replace e:=e.gr hg (by omega);replace hT:=hT.gr hg (by omega);replace HV:=Dv.gr HV hg n7;replace hN1s:=Nat.le_trans hN1s hg.size;clear hg
 refine tl_nil ?_
 replace hf:=hf.keep [1,2,7]
 have hdv:(Dv (mpE sKV 1024) G0 l).p (.map (some bm)) w:=Dv.weak HV fun b _ hb=>hb.elim
 by_cases ha:has V a0=true
 ·by_cases hc:has V c0=true
  ·rw[ha,hc,if_pos (show (true&&true)=true from rfl)] at hrr
   obtain⟨x,rfl,hx⟩:=has_nat ha
   obtain⟨y,rfl,hy⟩:=has_nat hc
   rw[Int.toNat_natCast,Int.toNat_natCast] at hrr
   rw[dsT] at hrr
   have hx1:=bit_lt hx
   repeat refine seq ?_
   refine rgN 12 hf <| st (fA U79 rfl T76 rfl) <| st ((ldP T76 rfl B7 (by rw[adC_size];decide)).eq (congrArg Value.agg (adC_set V (.map (some bm))))) ?_
   refine st (mv rfl) <| st (call2 (A:=E (B true)) (B:=E (setV V)) (C:=E (I (x:Nat))) En75 rfl rfl (fun v u w he h h'=>by cases h;cases h';rw[← ha];exact has_spec _ _ w)) ?_
   refine st (notp rfl) <| st (mv rfl) <| sy rfl rfl (fA U79 rfl T76 rfl) <| sy rfl rfl ((ldP T76 rfl B7 (by rw[adC_size];decide)).eq (congrArg Value.agg (adC_set V (.map (some bm))))) ?_
   refine sy rfl rfl (mv rfl) <| sy rfl rfl (call2 (A:=E (B true)) (B:=E (setV V)) (C:=E (I (y:Nat))) En75 rfl rfl (fun v u w he h h'=>by cases h;cases h';rw[← hc];exact has_spec _ _ w)) ?_
   refine sy rfl rfl (notp rfl) <| st (pkF rfl rfl) <| en fun a w e' hf=>?_
   replace hT:=hT.ext e'
   replace hdv:=Dv.ex hdv e'
   replace e:=e.tr e'
   replace B7:=B7.ext e'
   refine tl_nil <| ifc hf rfl (fun h=>by cases h) (fun _=>?_)
   refine wskip ?_
   replace hf:=hf.keep [1,2,7]
   refine seq <| rgN 5 hf <| st (ldW T79 rfl B7 (adC_size _ _)) <| st (mv rfl) <| st (call2 (A:=Dv (slE setE) G0 (lvB (lkS l) x)) (B:=E (.agg (adC V (.map (some bm))))) (C:=E (I (x:Nat))) En52 rfl rfl (fun a b w he k2 k4=>by cases k2;cases k4;exact (levels_spec l V (.map (some bm)) x w (hT.ext he) (Dv.ex hdv he) hx1).mono fun en w' ⟨z,q1,q2,q3⟩=>⟨z,q1,q2,OwR.sl q3⟩)) ?_
   refine st (mv rfl) <| st (call2 (A:=E (I rr)) (B:=Dv (slE setE) G0 (lvB (lkS l) x)) (C:=E (I (y:Nat))) En50 rfl rfl (fun a b w he k1 k2=>by cases k2;rw[hrr];exact far_spec _ y a w k1 (Nat.le_trans (lvB_len _ _) (by decide)))) ?_
   refine en fun a w e' hf=>?_
   replace hT:=hT.ext e'
   replace hdv:=Dv.ex hdv e'
   replace e:=e.tr e'
   replace B7:=B7.ext e'
   refine tA hf rfl fun a hf=>tl_nil <| wret <| ret1 rfl hf rfl ?_
   rintro _ rfl
   exact⟨_,rfl,e,rfl⟩
  ·have hc':has V c0=false:=Bool.eq_false_iff.2 hc
   rw[ha,hc',if_neg (by decide)] at hrr
   subst hrr
   repeat refine seq ?_
   refine rgN 12 hf <| st (fA U79 rfl T76 rfl) <| st ((ldP T76 rfl B7 (by rw[adC_size];decide)).eq (congrArg Value.agg (adC_set V (.map (some bm))))) ?_
   refine st (mv rfl) <| st (call2 (A:=E (B true)) (B:=E (setV V)) (C:=E (I a0)) En75 rfl rfl (fun v u w he h h'=>by cases h;cases h';rw[← ha];exact has_spec _ _ w)) ?_
   refine st (notp rfl) <| st (mv rfl) <| sy rfl rfl (fA U79 rfl T76 rfl) <| sy rfl rfl ((ldP T76 rfl B7 (by rw[adC_size];decide)).eq (congrArg Value.agg (adC_set V (.map (some bm))))) ?_
   refine sy rfl rfl (mv rfl) <| sy rfl rfl (call2 (A:=E (B false)) (B:=E (setV V)) (C:=E (I c0)) En75 rfl rfl (fun v u w he h h'=>by cases h;cases h';rw[← hc'];exact has_spec _ _ w)) ?_
   refine sy rfl rfl (notp rfl) <| st (pkF rfl rfl) <| en fun a w e' hf=>?_
   replace hT:=hT.ext e'
   replace hdv:=Dv.ex hdv e'
   replace e:=e.tr e'
   replace B7:=B7.ext e'
   refine tl_nil <| ifc hf rfl (fun _=>?_) (fun h=>by cases h)
   refine seq <| regn0 <| tA hf rfl fun a hf=>tl_nil <| wret <| ret1 rfl hf rfl ?_
   rintro _ rfl
   exact⟨_,rfl,e,rfl⟩
 ·have ha':has V a0=false:=Bool.eq_false_iff.2 ha
  rw[ha',if_neg (by rw[Bool.false_and];decide)] at hrr
  subst hrr
  repeat refine seq ?_
  refine rgN 12 hf <| st (fA U79 rfl T76 rfl) <| st ((ldP T76 rfl B7 (by rw[adC_size];decide)).eq (congrArg Value.agg (adC_set V (.map (some bm))))) ?_
  refine st (mv rfl) <| st (call2 (A:=E (B false)) (B:=E (setV V)) (C:=E (I a0)) En75 rfl rfl (fun v u w he h h'=>by cases h;cases h';rw[← ha'];exact has_spec _ _ w)) ?_
  refine st (notp rfl) <| st (mv rfl) <| sn rfl rfl rfl <| sn rfl rfl rfl <| sn rfl rfl rfl <| sn rfl rfl rfl <| sn rfl rfl rfl <| st (pkT rfl rfl) <| en fun a w e' hf=>?_
  replace hT:=hT.ext e'
  replace hdv:=Dv.ex hdv e'
  replace e:=e.tr e'
  replace B7:=B7.ext e'
  refine tl_nil <| ifc hf rfl (fun _=>?_) (fun h=>by cases h)
  refine seq <| regn0 <| tA hf rfl fun a hf=>tl_nil <| wret <| ret1 rfl hf rfl ?_
  rintro _ rfl
  exact⟨_,rfl,e,rfl⟩
def spF (g:GT)(a b:Int):List Nat:=if dsF g a b = -1 then [] else a.toNat::geF (nbA g) (lvB (nbA g) b.toNat) (dsF g a b).toNat a.toNat
theorem spath_spec {G:Nat→Prop}{N:Nat}(g:GT)(ok:Gr.Ok g)(a0 c0:Int)(v:Value)(W:World)(hT:Tab W)(h:(Dv (ptE (grE N)) G (some g)).p v W)(hl1:g.1.length≤100000)(hl2:g.2.length≤100000)(hN:N≤1000000) :
  Calls Tryz.prog 32 #[v,I a0,I c0] W (Post (Dv (slE intE) G0 (natE (spF g a0 c0))) W):=by
 have hgd:(Dv (ptE (grE N)) G0 (some g)).p v W:=Dv.weak h fun b _ hb=>hb.elim
 have hT0:=hT.lt
 obtain⟨d,hd⟩:∃d,d=dsF g a0 c0:=⟨_,rfl⟩
 obtain⟨rr,hrr⟩:∃rr,rr=spF g a0 c0:=⟨_,rfl⟩
 rw[← hrr]
 rw[spF,← hd] at hrr
 refine eN [v,I a0,I c0] [E v,E (I a0),E (I c0)] Tryz.func32 Tryz.ntmps32 ?_ fun a hf=>?_
 rotate_left
 dsimp only[params,Nat.reduceAdd] at hf
 rotate_right
 ·exact arg3 rfl rfl rfl
 have e:=Ext.rfl' W
 refine seq <| regn0 <| tA hf rfl fun a hf=>tl_nil ?_
 have e0:=e
 refine seq <| rgN 4 hf <| st (mv rfl) <| st (mv rfl) <| st (mv rfl) <| st (call3 (A:=E (I d)) (B:=E v) (C:=E (I a0)) (D:=E (I c0)) En30 rfl rfl rfl (fun a b c w he k1 k2 k3=>by cases k1;cases k2;cases k3;rw[hd];exact dist_spec g ok a0 c0 v w (hT.ext he) (VA.st _ _ _ _ (Ext.tr e0 he) hgd) hl1 hl2 hN)) ?_
 refine en fun a w e' hf=>?_
 obtain⟨hT,e⟩:=up2 e' hT e
 refine tA hf rfl fun a hf=>tl_nil ?_
 replace hf:=hf.keep [0,1,2,7]
 by_cases h1:d = -1
 ·rw[if_pos h1] at hrr
  subst hrr
  repeat refine seq ?_
  refine rgN 2 hf <| st (mv rfl) <| st ((eql rfl rfl).eq (congrArg Value.bool ((by rw[h1];rfl:(d == -1)=true)))) ?_
  refine en fun a w e' hf=>?_
  obtain⟨hT,e⟩:=up2 e' hT e
  refine tl_nil <| ifc hf rfl (fun _=>?_) (fun h=>by cases h)
  refine seq <| regn0 <| tA hf rfl fun a hf=>tl_nil <| wret <| ret1 rfl hf rfl ?_
  rintro _ rfl
  exact⟨_,rfl,e,Dv.nil⟩
 rw[if_neg h1] at hrr
 repeat refine seq ?_
 refine rgN 2 hf <| st (mv rfl) <| st ((eql rfl rfl).eq (congrArg Value.bool ((beq_eq_false_iff_ne.2 h1:(d == -1)=false)))) <| en fun a w e' hf=>?_
 obtain⟨hT,e⟩:=up2 e' hT e
 refine tl_nil <| ifc hf rfl (fun h=>by cases h) (fun _=>?_)
 refine wskip ?_
 replace hf:=hf.keep [0,1,2,7]
 have hac:(has (vset g.1) a0&&has (vset g.1) c0)=true:=by
  rw[dsF] at hd
  split at hd
  ·assumption
  ·exact absurd hd h1
 have hd2:=hd
 rw[dsF,if_pos hac] at hd2
 rw[Bool.and_eq_true] at hac
 obtain⟨x,rfl,hx⟩:=has_nat hac.1
 obtain⟨y,rfl,hy⟩:=has_nat hac.2
 rw[Int.toNat_natCast,Int.toNat_natCast] at hd2 hrr
 have hx1:=bit_lt hx
 have hy1:=bit_lt hy
 rw[ds_symm (nb_symm ok) hx1 hy1] at hd2
 have hdl:=ds_lo (nb:=nbA g) y x
 have hdh:=ds_hi2 (nbA g) y x
 obtain⟨n,hn⟩:∃n:Nat,d=(n:Int):=⟨d.toNat,by omega⟩
 subst hn
 rw[Int.toNat_natCast] at hrr
 have hnsy:=nb_symm ok
 obtain⟨l,hl⟩:∃l,l=nbL g (elems (vset g.1)):=⟨_,rfl⟩
 have hnb:nbA g=lkS l:=by rw[hl,nbA]
 rw[hnb] at hrr hd2 hnsy hdl hdh
 obtain⟨V,hV⟩:∃V,V=vset g.1:=⟨_,rfl⟩
 have e4:=e
 refine seq <| rgN 2 hf <| st (mv rfl) <| st (call1 (A:=AdjA l V 1024) En46 rfl (fun v w he k=>by cases k;rw[hl,hV];exact ofA_spec g ok _ w (hT.ext he) (VA.st _ _ _ _ (Ext.tr e4 he) hgd) hl1 hl2 hN)) ?_
 refine en fun a w e' hf=>?_
 obtain⟨hT,e⟩:=up2 e' hT e
 obtain⟨av,⟨mq,rfl,HV⟩,hf⟩:=hf.opn 18 rfl
 obtain⟨bm,rfl⟩:=mpE_map HV
 obtain⟨N1,hN1⟩:∃N1,N1=w.heap.size:=⟨_,rfl⟩
 have hN1s:N1≤w.heap.size:=Nat.le_of_eq hN1
 have hWN1:W.heap.size≤N1:=by rw[hN1];exact e.size
 replace HV:(Dv (mpE sKV 1024) (fun b=>N1≤b) l).p (.map (some bm)) w:=Dv.weak HV fun b hb hh=>by omega
 replace hf:=hf.kp [1,2,7,18]
 refine tL I79 hf fun a b8 w e' hb8 hs8 B8 hf=>?_
 have lo8_hN1s:=Nat.le_trans hN1s (Nat.le_of_eq hb8.symm)
 obtain⟨hT,HV⟩:=up2 e' hT HV
 replace hN1s:=Nat.le_trans hN1s e'.size
 replace e:=e.tr e'
 have n8:N1≤b8:=lo8_hN1s
 refine tl_stW T79 hf rfl rfl (adC_one _ _) B8 rfl (adC_size _ _) fun w hg hsz B8 hf=>?_
 replace e:=e.gr hg (by omega);replace hT:=hT.gr hg (by omega);replace HV:=Dv.gr HV hg n8;replace hN1s:=Nat.le_trans hN1s hg.size;clear hg
 refine tl_nil ?_
 replace hf:=hf.keep [1,2,7,8]
 obtain⟨L,hL⟩:∃L,L=lvB (lkS l) y:=⟨_,rfl⟩
 obtain⟨N2,hN2⟩:∃N2,N2=w.heap.size:=⟨_,rfl⟩
 have hN2s:N2≤w.heap.size:=Nat.le_of_eq hN2
 have hdv:(Dv (mpE sKV 1024) G0 l).p (.map (some bm)) w:=Dv.weak HV fun b _ hb=>hb.elim
 refine seq <| rgN 3 hf <| st (ldW T79 rfl B8 (adC_size _ _)) <| st (mv rfl) <| st (call2 (A:=OwA setE 76 N2 G0 L) (B:=E (.agg (adC V (.map (some bm))))) (C:=E (I (y:Nat))) En52 rfl rfl (fun a b w he k2 k4=>by cases k2;cases k4;rw[hL];exact (levels_spec l V (.map (some bm)) y w (hT.ext he) (Dv.ex hdv he) hy1).mono fun en w' ⟨z,q1,q2,q3⟩=>⟨z,q1,q2,OwR.low q3 (Nat.le_trans hN2s he.size) fun b hb=>hb.elim⟩)) ?_
 refine en fun a w e' hf=>?_
 obtain⟨hT,HV,hdv⟩:=up3 e' hT HV hdv
 replace hN1s:=Nat.le_trans hN1s e'.size
 replace e:=e.tr e'
 replace B8:=B8.ext e'
 refine tA hf rfl fun a hf=>tl_nil ?_
 obtain⟨lv,Hr,hf⟩:=hf.opn 9 rfl
 replace Hr:OwR setE 76 N2 G0 w L lv:=Hr
 obtain⟨N3,hN3⟩:∃N3,N3=w.heap.size:=⟨_,rfl⟩
 have hN3s:N3≤w.heap.size:=Nat.le_of_eq hN3
 have HL:(Dv (slE setE) (fun b=>N3≤b) L).p lv w:=Hr.slN fun b hb hh=>by have:=(Hr.lt hb).2;omega
 have HM:(Dv (mpE sKV 1024) (fun b=>N3≤b) l).p (.map (some bm)) w:=Dv.weak hdv fun b hb hh=>by omega
 have h8:b8<N3:=by rw[hN3];exact B8.lt
 replace hf:=hf.keep [1,7,8,9]
 refine seq <| rgN 2 hf <| st (mv rfl) <| st (bslO1 (B:=N3) (G:=G0) U35 I3 rfl rfl hN3s (fun b hb=>hb.elim)) <| en fun a w e' hf=>?_
 obtain⟨hT,HL,HM⟩:=up3 e' hT HL HM
 replace hN3s:=Nat.le_trans hN3s e'.size
 replace e:=e.tr e'
 replace B8:=B8.ext e'
 refine tA hf rfl fun a hf=>tl_nil ?_
 obtain⟨u0,Ho,hf⟩:=hf.opn 10 rfl
 replace Ho:OwR intE 3 N3 G0 w (natE [x]) u0:=Ho
 replace hf:=hf.keep [1,7,8,9,10]
 repeat refine seq ?_
 refine rgN 2 hf <| st (mv rfl) <| st (sub rfl rfl (by omega)) <| en fun a w e' hf=>?_
 replace hT:=hT.ext e'
 replace HL:=Dv.ex HL e'
 replace HM:=Dv.ex HM e'
 replace Ho:=Ho.ext e'
 replace e:=e.tr e'
 replace B8:=B8.ext e'
 refine tA hf rfl fun a hf=>tl_nil ?_
 replace hf:=hf.keep [1,7,8,9,10]
 refine blk (loopN (fun r0 a w=>∃(z:Nat) (out:List Nat) (u:Value),dsT (lkS l) y z=(r0:Int)∧z<1024∧out++geF (lkS l) L r0 z=rr∧out.length+r0≤1026∧Fr 48 a w [(1,E (I (z:Nat))),(7,E (I ((r0:Int) - 1))),(8,E (ptr b8)),(9,E lv),(10,E u)]∧Ext W w∧Tab w∧Blk w b8 (adC V (.map (some bm))) 79 ∧
  (Dv (slE setE) (fun b=>N3≤b) L).p lv w∧(Dv (mpE sKV 1024) (fun b=>N3≤b) l).p (.map (some bm)) w∧OwR intE 3 N3 G0 w (natE out) u) n ⟨x,[x],u0,hd2.symm,hx1,by rw[hrr,hL];rfl,by simp only[List.length_singleton];omega,hf,e,hT,B8,HL,HM,Ho⟩ ?_)
 rintro r0 a w ⟨z,out,u,hdz,hz,hR,hlen,hf,e,hT,B8,HL,HM,Ho⟩
 repeat refine seq ?_
 refine rgN 2 hf <| st (mv rfl) <| st (geq rfl rfl) <| en fun a w e' hf=>?_
 replace hT:=hT.ext e'
 replace HL:=Dv.ex HL e'
 replace HM:=Dv.ex HM e'
 replace Ho:=Ho.ext e'
 replace e:=e.tr e'
 replace B8:=B8.ext e'
 refine tl_nil <| ifc hf rfl (fun hc=>wskip ?_) (fun hc=>wexit ?_)
 ·obtain⟨k,rfl⟩:∃k,r0=k+1:=⟨r0 - 1,by have:=of_decide_eq_true hc;omega⟩
  refine seq <| blk ?_
  rw[show (((k+1:Nat):Int) - 1)=((k:Nat):Int) by omega] at hf
  obtain⟨q,hq1,hq2⟩:=ds_back hnsy hy1 hdz
  obtain⟨T,hT1,hT2⟩:=ds_level.1 hq2
  rw[← hL] at hT1
  have hgs:gs L k=T:=by rw[gs,hT1];rfl
  have hmn:minOf (lkS l (z:Int) &&& T)≠none:=fun h=>by
   have h2:=minOf_none.1 h
   have h3:=(bit_and _ _ _).2 ⟨hq1,hT2⟩
   rw[h2] at h3;exact bit_zero _ h3
  rw[geF,hgs] at hR
  obtain⟨z2,hz2⟩:∃z2,minOf (lkS l (z:Int) &&& T)=some z2:=Option.ne_none_iff_exists'.1 hmn
  have hz2m:=minOf_mem hz2
  have hz2d:dsT (lkS l) y z2=(k:Int):=ds_level.2 ⟨T,by rw[← hL];exact hT1,((bit_and _ _ _).1 hz2m).2⟩
  have hz21:=bit_lt hz2m
  have hwz:(Lit.int .i64 (z:Int)).wf=true:=wf64 (by omega) (by omega)
  rw[hz2,Option.getD_some] at hR
  replace hf:=hf.keep [1,7,8,9,10]
  refine seq <| regV 14 Mix.mix hf (by decide +kernel) <| st (fA U79 rfl T77 rfl) <| st (ld1 (v:=.map (some bm)) T77 rfl B8 (adC_map _ _)) <| st (mv rfl) <| st (lkM (l:=l) (i:=(z:Int)) U77 zero_set (isE rfl HM) rfl hwz) <| st (mv rfl) <| st (mv rfl) <| st (idxD U83 S76 (isE rfl HL) rfl (by omega) (hT1)) <| st (ldS T76 (isR rfl)) <| st (call2 (A:=E (setV (lkS l (z:Int) &&& T))) (B:=E (setV (lkS l (z:Int)))) (C:=E (setV T)) En74 rfl rfl (fun v u w he h h'=>by cases h;cases h';exact inter_spec _ T w)) ?_
  refine st (call1 (A:=Tup [E (I (z2:Nat)),E (B true)]) En72 rfl (fun v w he h=>by cases h;have hm:=min_spec (lkS l (z:Int) &&& T) w (hT.ext he);rw[minP,hz2] at hm;exact hm)) ?_
  refine st (mv rfl) <| st (ext_ rfl rfl) <| st (ext_ rfl rfl) <| st (asg rfl) <| en fun a w e' hf=>?_
  replace hT:=hT.ext e'
  replace HL:=Dv.ex HL e'
  replace HM:=Dv.ex HM e'
  replace Ho:=Ho.ext e'
  replace e:=e.tr e'
  replace B8:=B8.ext e'
  refine tl_nil ?_
  replace hf:=hf.kp [1,7,8,9,10]
  refine rgN 3 hf <| st (mv rfl) <| st (mv rfl) <| st (bsl1 U35 I3 rfl (by decide) rfl Ho.avs (isI rfl)) <| en fun a w e' hf=>?_
  replace hT:=hT.ext e'
  replace B8:=B8.ext e'
  replace HL:=Dv.ex HL e'
  replace HM:=Dv.ex HM e'
  replace Ho:=Ho.ext e'
  replace e:=e.tr e'
  haveI hin:∀G0,InR (GB W G0) _:=OwR.inGB (W:=W) Ho (by omega)
  refine tl_app U35 I3 rfl rfl hf (by decide) rfl Ho (isR rfl) (by rw[natE_len,List.length_singleton];omega) (by rw[natE_len,List.length_singleton];simp only[maxLen];omega) fun a v w hg hat Hn hf=>?_
  replace e:=e.gro hg (Ho.row (W:=W) (by omega))
  replace hT:=hT.gro hg (fun b hb=>by have:=(Ho.lt hb).1;omega)
  replace B8:=B8.gro hg (Ho.neLt h8)
  replace HL:=Dv.gro HL hg (fun b hb=>(Ho.lt hb).1)
  replace HM:=Dv.gro HM hg (fun b hb=>(Ho.lt hb).1)
  replace Ho:=Hn
  replace Ho:=Hn;clear Hn hg hat hin
  refine tA hf rfl fun a hf=>tl_nil ?_
  rw[← natE_app] at Ho
  replace hf:=hf.keep [1,7,8,9,10]
  refine rgN 2 hf <| st (mv rfl) <| st (sub rfl rfl (by omega)) <| en fun a w e' hf=>?_
  replace hT:=hT.ext e'
  replace HL:=Dv.ex HL e'
  replace HM:=Dv.ex HM e'
  replace Ho:=Ho.ext e'
  replace e:=e.tr e'
  replace B8:=B8.ext e'
  refine tA hf rfl fun a hf=>tl_nil ?_
  replace hf:=hf.keep [1,7,8,9,10]
  exact⟨k,Nat.lt_succ_self _,z2,out++[z2],_,hz2d,hz21,by rw[List.append_assoc];exact hR,by rw[List.length_append,List.length_singleton];omega,hf,e,hT,B8,HL,HM,Ho⟩
 ·obtain rfl:r0=0:=by have:=of_decide_eq_false hc;omega
  rw[geF,List.append_nil] at hR
  rw[hR] at Ho
  replace hf:=hf.keep [10]
  refine seq <| rgN 1 hf <| st (mv rfl) <| en fun a w e' hf=>?_
  replace Ho:=Ho.ext e'
  replace e:=e.tr e'
  refine tA hf rfl fun a hf=>tl_nil <| wret <| ret1 rfl hf rfl ?_
  rintro _ rfl
  exact⟨_,rfl,e,Ho.sl⟩
def wkN (nb:Int→BS)(a:Nat):Nat→BS
 | 0=>ins 0 (a:Int)
 | n+1=>nxN nb (wkN nb a n)
def wkL (nb:Int→BS)(a m:Nat):List BS:=(List.range (m+1)).map (wkN nb a)
theorem wkL_succ (nb:Int→BS)(a m:Nat):wkL nb a (m+1)=wkL nb a m++[nxN nb (wkN nb a m)]:=by rw[wkL,List.range_succ,List.map_append];rfl
theorem wkL_len (nb:Int→BS)(a m:Nat):(wkL nb a m).length=m+1:=by simp[wkL]
theorem wkL_at (nb:Int→BS)(a:Nat){m i:Nat}(h:i≤m):(wkL nb a m)[i]?=some (wkN nb a i):=by
 rw[wkL,List.getElem?_map,List.getElem?_range (by omega)];rfl
structure WkK (W:World)(N0 N:Nat)(S0:BS)(mq:Value)(l:List (Int×BS))(b3:Nat)(u:Value)(out:List BS)(D:List Nat)(w:World):Prop where
 e:Ext W w
 t:Tab w
 hv:(Dv (mpE sKV N0) (GB W Go.Mono.G0) l).p mq w
 b3:Blk w b3 (adC S0 mq) 79
 o:OwR setE 76 N Go.Mono.G0 w out u
 ds:Ds D w
theorem WkK.kp {W:World}{N0 N:Nat}{S0:BS}{mq:Value}{l:List (Int×BS)}{b3:Nat}{u:Value}{out:List BS}{D:List Nat}{B:Nat}{w w':World}(h:WkK W N0 N S0 mq l b3 u out D w)(k:Kp B w w')(hW:W.heap.size≤B)(h0:0<B)(l3:b3<B)(lu:∀g,u.ownBlock=some g→g<B)(hD:∀d∈D,d<B) :
  WkK W N0 N S0 mq l b3 u out D w':=
 have no:∀{b},b<B→¬Hole B b:=fun h hh=>by have:=hh.1;omega
 ⟨h.e.kp k hW,h.t.kp k h0,Dv.ch h.hv k.chg (fun b hb=>.inr (by have:=hb.1;omega)),h.b3.kp k (no l3),h.o.chE k.chg fun g hg=>no (lu g hg),h.ds.ch k.chg fun d hd=>no (hD d hd)⟩
theorem walks_spec {G:Nat→Prop}{N0:Nat}(l:List (Int×BS))(S0:BS)(mq:Value)(x m:Nat)(W:World)(hT:Tab W)(h:(Dv (mpE sKV N0) G l).p mq W)(hx:x<1024)(hm:m≤2000) :
  Calls Tryz.prog 79 #[.agg (adC S0 mq),I (x:Nat),I (m:Nat)] W (Post (OwA setE 76 W.heap.size Go.Mono.G0 (wkL (lkS l) x m)) W):=by
 have HV:(Dv (mpE sKV N0) (GB W Go.Mono.G0) l).p mq W:=Dv.toB (Dv.weak h fun b _ hb=>hb.elim)
 have hT0:=hT.lt
 refine enterM (args:=[.agg (adC S0 mq),I (x:Nat),I (m:Nat)]) (As:=[E (.agg (adC S0 mq)),E (I (x:Nat)),E (I (m:Nat))]) Tryz.func79 rfl Tryz.ntmps79 (Nat.le_of_ble_eq_true rfl) ?_ (fun a hf=>?_) (Nat.le_of_ble_eq_true rfl)
 ·exact arg3 rfl rfl rfl
 have e:=Ext.rfl' W
 refine seq <| regn0 <| tB hf rfl fun a b3 w v3 hv3 e' hb3 hs3 B3 hf=>?_
 obtain⟨hT,HV,e⟩:=up3 e' hT HV e
 refine tA hf rfl fun a hf=>tl_nil ?_
 cases hv3
 replace B3:Blk w b3 (adC S0 mq) 79:=B3
 have hW3:W.heap.size≤b3:=by omega
 replace hf:=hf.keep [1,2,3]
 obtain⟨N,hN⟩:∃N,N=w.heap.size:=⟨_,rfl⟩
 have hNs:N≤w.heap.size:=Nat.le_of_eq hN
 have hWN:W.heap.size≤N:=by rw[hN];exact e.size
 have h3N:b3<N:=by rw[hN];exact B3.lt
 obtain⟨S1,hS1⟩:∃S1,S1=ins 0 (x:Int):=⟨_,rfl⟩
 refine seq <| rgN 4 hf <| st (mv rfl) <| st (bsl1 (e:=intE) (G:=Go.Mono.G0) U35 I3 rfl (by decide) rfl (fun b hb=>hb.elim) (isI rfl)) <| st ((call1 En63 rfl (fun v w he h=>of_spec [(x:Int)] v w h (by simp))).eq (congrArg setV ((fold1 (x:Int) 0).trans hS1.symm))) <| st (bslOF (e:=setE) (B:=N) (G:=Go.Mono.G0) (G0:=Go.Mono.G0) U83 I76 rfl (by decide) rfl (isS rfl) hNs (fun b hb=>hb.elim)) <| en fun a w e' hf=>?_
 obtain⟨hT,HV,e,B3⟩:=up4 e' hT HV e B3
 refine tA hf rfl fun a hf=>tl_nil ?_
 obtain⟨u0,Ho,hf⟩:=hf.opn 7 rfl
 replace Ho:OwR setE 76 N Go.Mono.G0 w [S1] u0:=Ho
 replace hf:=hf.keep [2,3,7]
 repeat refine seq ?_
 refine rgN 2 hf <| st (mv rfl) <| st (mv rfl) <| en fun a w e' hf=>?_
 obtain⟨hT,HV,Ho,e,B3⟩:=up5 e' hT HV Ho e B3
 refine tl_nil ?_
 have h00:wkL (lkS l) x 0=[S1]:=by rw[hS1];rfl
 rw[← h00] at Ho
 replace hf:=hf.keep [3,7,14,15]
 refine blk (loopN (fun r0 a w=>∃(k:Nat) (u:Value) (D:List Nat),r0=m - k∧k≤m∧FrD 37 (marks D) a w [(3,E (ptr b3)),(7,E u),(14,E (I (m:Nat))),(15,E (I (k:Nat)))]∧WkK W N0 N S0 mq l b3 u (wkL (lkS l) x k) D w∧∀d∈D,W.heap.size≤d) m ⟨0,u0,[],rfl,Nat.zero_le _,hf,⟨e,hT,HV,B3,Ho,Ds.nil _⟩,fun d hd=>by cases hd⟩ ?_)
 rintro r0 a w ⟨k,u,D,rfl,hkm,hf,⟨e,hT,HV,B3,Ho,hD⟩,hDW⟩
 refine seq <| rgN 1 hf <| st (lss rfl rfl) <| en fun a w e' hf=>?_
 obtain⟨hT,HV,e,B3,hD,Ho⟩:=up6 e' hT HV e B3 hD Ho
 refine tl_nil <| seq <| ifc hf rfl (fun hc=>wskip ?_) (fun hc=>wexit ?_)
 rotate_left
 ·obtain rfl:k=m:=by have:=of_decide_eq_false hc;omega
  replace hf:=hf.keep [7]
  refine seq <| rgN 1 hf <| st (mv rfl) <| en fun a w e' hf=>?_
  obtain⟨e,hD,Ho⟩:=up3 e' e hD Ho
  refine tA hf rfl fun a hf=>tl_nil <| wret <| ret1M rfl hf rfl hD ⟨_,rfl,e.shut hDW,?_⟩
  exact (Ho.chE (chg_shut D w) fun b hb hm=>Ho.neDs hD hm hb).low (by omega) fun b hb=>hb.elim
 have hlt:k<m:=by have:=of_decide_eq_true hc;omega
 refine seq <| blk ?_
 obtain⟨out,hout⟩:∃out,out=wkL (lkS l) x k:=⟨_,rfl⟩
 obtain⟨at',hat'⟩:∃at',at'=wkN (lkS l) x k:=⟨_,rfl⟩
 have hol:out.length=k+1:=by rw[hout,wkL_len]
 have hola:out[k]?=some at':=by rw[hout,hat'];exact wkL_at _ _ (Nat.le_refl k)
 have hsuc:wkL (lkS l) x (k+1)=out++[nxN (lkS l) at']:=by rw[wkL_succ,hout,hat']
 rw[← hout] at Ho
 replace hf:=hf.keep [3,7,14,15]
 refine seq <| regn0 <| tL I76 hf fun a b8 w e' hb8 hs8 B8 hf=>?_
 have hle8:=Nat.le_trans e.size (Nat.le_of_eq hb8.symm)
 have ne8_Ho:=Ho.ne_new hb8
 have lt8_B3:=B3.lt
 obtain⟨hT,HV,e,B3,hD,Ho⟩:=up6 e' hT HV e B3 hD Ho
 refine tl_nil ?_
 simp only[Value.cells,zeroC] at B8
 have hW8:W.heap.size≤b8:=hle8
 have n8:b3≠b8:=by have:=B3.lt;omega
 have hu8:=ne8_Ho
 have hD8:¬b8∈D:=hD.ne B8
 replace hf:=hf.kp [3,7,8,14,15]
 obtain⟨Nz,hNz⟩:∃Nz,Nz=w.heap.size:=⟨_,rfl⟩
 have hix:((out.length:Nat):Int) - 1=((k:Nat):Int):=by rw[hol];omega
 repeat refine seq ?_
 refine rgN 7 hf <| st (mv rfl) <| st (mv rfl) <| st (lenD U83 (isE rfl Ho.sl)) <| st ((sub rfl rfl (by omega)).eq (congrArg (Value.int .i64) hix)) <| st (idxD U83 S76 (isE rfl Ho.sl) rfl (by omega) (hola)) <| st (ldS T76 (isR rfl)) <| st (call1 (A:=SeqA Nz at') En62 rfl (fun v w' he h=>by cases h;exact Calls.mono (all_spec _ w') (fun en w2 ⟨u,h1,h2,b',h3,h4,h5⟩=>⟨u,h1,h2,b',by have:=he.size;omega,h4,h5⟩))) ?_
 refine en fun a w e' hf=>?_
 obtain⟨hT,HV,e,B3,B8,hD,Ho⟩:=up7 e' hT HV e B3 B8 hD Ho
 refine tl_nil ?_
 obtain⟨vv,⟨b23,h23,rfl,BS⟩,hf⟩:=hf.fix 23 rfl
 replace hf:=hf.kp [3,7,8,14,15,23]
 have l3:=B3.lt
 have l8:=B8.lt
 have lu:∀g,u.ownBlock=some g→g<w.heap.size:=fun g hg=>(Ho.lt hg).2
 have lD:∀d∈D,d<w.heap.size:=fun d hd=>hD.lt hd
 have hBW:W.heap.size≤w.heap.size:=e.size
 have h0w:0<w.heap.size:=hT.lt
 refine blk <| range_all3 (S:=at') hf rfl BS (by decide) (fun s w1=>WkK W N0 N S0 mq l b3 u out D w1∧Blk w1 b8 (setC (nxP (lkS l) s)) 76) (fun _ _=>False) (fun s w1 h=>h.1.t)
  ⟨⟨e,hT,HV,B3,Ho,hD⟩,B8⟩ (fun s w1 w2 h hs k=>⟨h.1.kp k hBW h0w l3 lu lD,h.2.kp k (fun hh=>by have:=hh.1;omega)⟩) (fun _ _ _ h=>h.elim) ?_ ?_ (fun _ _ _ _ _ _ h=>h.elim)
 ·intro lp s y rest a1 w1 hs hJ hlw hf
  have hy1024:y<1024:=(mem_elems.1 (by rw[hs];simp)).1
  generalize hBz:w.heap.size=Bz at *
  refine regn0 <| tA hf rfl fun a hf=>tl_nil <| ⟨Kh.rfl' _ _,fun w3 k3 hsz3=>?_⟩
  have hJ3:=hJ.1.kp k3 hBW h0w l3 lu lD
  have hJ8:=hJ.2.kp k3 (fun hh=>by have:=hh.1;omega)
  replace hf:=hf.pure w3
  obtain⟨e,hT,HV,B3,Ho,hD⟩:=hJ3
  have B8:=hJ8
  have kh:=Kh.rfl' Bz w3
  obtain⟨X,hX⟩:∃X,X=nxP (lkS l) s:=⟨_,rfl⟩
  rw[← hX] at B8
  replace hf:=hf.kp [3,7,8,9,14,15]
  refine blk <| rgN 6 hf <| st ((ldW T76 rfl B8 rfl).eq ((rfl:_=setV X))) <| st (fA U79 rfl T77 rfl) <| st (ld1 (v:=mq) T77 rfl B3 (adC_map _ _)) <| st (mv rfl) <| st (lkM (l:=l) (i:=(y:Int)) U77 zero_set (isE rfl HV) rfl (wf64 (by omega) (by omega))) <| st (call2 (A:=E (setV (X ||| lkS l (y:Int)))) En73 rfl rfl (fun v u w he h h'=>by cases h;cases h';exact union_spec X _ w)) ?_
  refine en fun a w e' hf=>?_
  obtain⟨hT,HV⟩:=up2 e' hT HV
  replace kh:=kh.tr (Kh.ext e')
  obtain⟨e,B3,B8,hD,Ho⟩:=up5 e' e B3 B8 hD Ho
  refine tl_stW T76 hf rfl rfl (wordsC_one _) B8 rfl (setC_size _) fun w hg hsz B8 hf=>?_
  obtain⟨e,hT,HV,B3⟩:=gr4 hg e hT HV B3
  replace Ho:=Ho.grE hg hu8;replace hD:=hD.gr hg hD8
  replace kh:=kh.tr (Kh.gr hg (fun hh=>by have:=hh.1;omega))
  refine tl_nil ?_
  simp only[Exit.inBlock]
  exact⟨⟨⟨e,hT,HV,B3,Ho,hD⟩,by rw[nxP_app,← hX];exact B8⟩,kh⟩
 ·intro a' w' hf' hJ hsz hDn
  simp only[Exit.inBlock,↓reduceIte,Exit.then]
  have hD2:Ds (w.heap.size::D) w':=hJ.1.ds.cons hDn fun hm=>Nat.lt_irrefl _ (lD _ hm)
  have hf:FrD 37 (marks (w.heap.size::D)) a' w' [(3,E (ptr b3)),(7,E u),(8,E (ptr b8)),(14,E (I (m:Nat))),(15,E (I (k:Nat)))]:=hf'.keep [3,7,8,14,15]
  have hDW2:∀d∈w.heap.size::D,W.heap.size≤d:=fun d hd=>by
   rcases List.mem_cons.1 hd with rfl|hd
   ·exact hBW
   ·exact hDW d hd
  obtain⟨⟨e,hT,HV,B3,Ho,_⟩,B8⟩:=hJ
  replace hD:=hD2
  generalize w.heap.size::D=D2 at *
  generalize w'=w at *
  replace B8:Blk w b8 (setC (nxN (lkS l) at')) 76:=B8
  obtain⟨nx,hnx⟩:∃nx,nx=nxN (lkS l) at':=⟨_,rfl⟩
  rw[← hnx] at B8 hsuc
  refine rgN 3 hf <| st (mv rfl) <| st ((ldW T76 rfl B8 rfl).eq ((rfl:_=setV nx))) <| st (bsl1 U83 I76 rfl (by decide) rfl Ho.avs (isS rfl)) <| en fun a w e' hf=>?_
  obtain⟨hT,HV,B3,hD,B8,Ho,e⟩:=up7 e' hT HV B3 hD B8 Ho e
  haveI hin:∀G0,InR (GB W G0) _:=OwR.inGB (W:=W) Ho (by omega)
  refine tl_app U83 I76 rfl rfl hf (by decide) rfl Ho (isR rfl) (by rw[hol,List.length_singleton];omega) (by rw[hol,List.length_singleton];simp only[maxLen];omega) fun a v w hg hat Hn hf=>?_
  replace e:=e.gro hg (Ho.row (W:=W) (by omega))
  have hrow:=Ho.row (W:=W) (by omega)
  replace hT:=hT.gro hg (fun b hb=>by have:=(Ho.lt hb).1;omega)
  replace HV:=Dv.gro HV hg (fun b hb=>.inr (by have:=(Ho.lt hb).1;omega))
  replace B3:=B3.gro hg (Ho.neLt h3N)
  replace hD:=hD.gro hg fun d hd=>Ho.neDs hD hd
  replace B8:=B8.gro hg hu8
  replace Ho:=Hn
  replace Ho:=Hn;clear Hn hg hat hin
  refine tA hf rfl fun a hf=>tl_nil ?_
  rw[← hsuc] at Ho
  replace hf:=hf.keep [3,7,14,15]
  refine rgN 1 hf <| st ((add rfl rfl (by omega)).eq (congrArg (Value.int .i64) (show (k:Int)+1=((k+1:Nat):Int) from rfl))) <| en fun a w e' hf=>?_
  obtain⟨hT,HV,e,B3,hD,Ho⟩:=up6 e' hT HV e B3 hD Ho
  refine tP hf (mv rfl) fun a w e' hf=>?_
  obtain⟨hT,HV,e,B3,hD,Ho⟩:=up6 e' hT HV e B3 hD Ho
  refine tl_nil ?_
  replace hf:=hf.keep [3,7,14,15]
  exact⟨m - (k+1),by omega,k+1,v,D2,rfl,by omega,hf,⟨e,hT,HV,B3,Ho,hD⟩,hDW2⟩
end Go.Mono
