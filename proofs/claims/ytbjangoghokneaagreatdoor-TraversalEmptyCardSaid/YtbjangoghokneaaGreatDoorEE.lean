/-
  Walks of functions and plain facts.
  No condition.
-/
import Derived.Test.YtbjangoghokneaaGreatDoorED
import Derived.Test.YtbjangoghokneaaGreatDoorEB
import Derived.Test.YtbjangoghokneaaGreatDoorEC
import Derived.Test.YtbjangoghokneaaGreatDoorEA
set_option linter.unusedVariables false
set_option linter.unusedSimpArgs false
namespace Go.Mono
open Go Go.Proofs Go.RowKit Go.Gr

theorem rk (l:List (Int×BS))(x:Int)(c:BS)(i:Int):lkS (aT l x c) i=if i=x then c else lkS l i:=by
 rw[lkS,aT,List.find?_cons]
 by_cases h:x=i
 ·subst h;simp
 ·have h1:decide ((x,c).1=i)=false:=by simp[h]
  rw[h1,if_neg (Ne.symm h),lkS]
  congr 2
  induction l with
  | nil=>rfl
  | cons p l ih=>
   rw[List.filter_cons]
   by_cases hp:p.1=x
   ·have h2:decide (p.1=i)=false:=by rw[hp];simp[h]
    rw[if_neg (by simp[hp]),List.find?_cons,h2];exact ih
   ·rw[if_pos (by simp[hp]),List.find?_cons,List.find?_cons]
    cases decide (p.1=i) <;> simp[ih]
theorem zH (l:List (Int×BS)){u v:Nat}(huv:u≠v):lkS (aT (aT l (u:Int) (del (lkS l (u:Int)) (v:Int))) (v:Int) (del (lkS l (v:Int)) (u:Int)))=wo (lkS l) u v:=by
 funext i
 rw[rk,rk,wo]
 by_cases h1:i=(u:Int)
 ·rw[if_neg (by omega),if_pos h1,if_pos h1,h1]
 ·by_cases h2:i=(v:Int)
  ·rw[if_pos h2,if_neg h1,if_pos h2,h2]
  ·rw[if_neg h2,if_neg h1,if_neg h1,if_neg h2]
def WoA (nb:Int→BS)(S:BS)(N:Nat):VA:=⟨fun v w=>∃l,lkS l=nb∧(ci l S N).p v w,fun v w w' e ⟨l,h1,h2⟩=>⟨l,h1,(ci l S N).st v w w' e h2⟩⟩
theorem rn {G:Nat→Prop}{N0:Nat}(l:List (Int×BS))(S0:BS)(u v:Nat)(mq:Value)(W:World)(hT:Tab W)(h:(Dv (mpE sKV N0) G l).p mq W)(hN:N0≤100000)(hu:u<1024)(hv:v<1024)(huv:u≠v)(hmu:((u:Int),lkS l (u:Int))∈l) :
  Calls Tryz.prog 51 #[.agg (adC S0 mq),I (u:Nat),I (v:Nat)] W (Post (WoA (wo (lkS l) u v) S0 (N0+2)) W):=by
 obtain⟨cs,⟨b0,n0,rfl,hG0,hn0,HM0⟩,hmq⟩:=(Dv.toB (Dv.weak h fun b _ hb=>hb.elim):(Dv (mpE sKV N0) (GB W G0) l).p mq W)
 replace hmq:mq=.map (some b0):=hmq
 subst hmq
 have hb0:b0<W.heap.size:=Nat.lt_of_not_le fun h=>hG0 (.inr h)
 have hll:l.length≤N0:=Nat.le_trans HM0.size_le hn0
 have hwu:(Lit.int .i64 (u:Int)).wf=true:=bH (by omega) (by omega)
 have hwv:(Lit.int .i64 (v:Int)).wf=true:=bH (by omega) (by omega)
 have hwo:=zH l huv
 obtain⟨au,hau⟩:=eqX (del (lkS l (u:Int)) (v:Int))
 obtain⟨av,hav⟩:=eqX (del (lkS l (v:Int)) (u:Int))
 rw[← hau,← hav] at hwo
 have hT0:=hT.lt
 refine eN [.agg (adC S0 (.map (some b0))),I (u:Nat),I (v:Nat)] [E (.agg (adC S0 (.map (some b0)))),E (I (u:Nat)),E (I (v:Nat))] Tryz.func51 Tryz.ntmps51 ?_ fun a hf=>?_
 rotate_left
 dsimp only[params,Nat.reduceAdd] at hf
 rotate_right
 ·exact dH rfl rfl rfl
 have e:=Ext.rfl' W
 refine seq <| ab <| tB hf rfl fun a b3 w v3 hv3 e' hb3 hs3 B3 hf=>?_
 obtain⟨hT,HM0,e⟩:=up3 e' hT HM0 e
 refine tL I79 hf fun a b6 w e' hb6 hs6 B6 hf=>?_
 obtain⟨hT,HM0,e,B3⟩:=up4 e' hT HM0 e B3
 refine aa ?_
 cases hv3
 replace B3:Blk w b3 (adC S0 (.map (some b0))) 79:=B3
 have n36:b3≠b6∧W.heap.size≤b3∧W.heap.size≤b6:=by omega
 replace hf:=hf.kp [1,2,3,6]
 refine seq <| rgN 2 hf <| st (fA U79 rfl T76 rfl) <| st ((ldP T76 rfl B3 (by rw[aH];decide)).eq (congrArg Value.agg (bO S0 (.map (some b0))))) ?_
 refine en fun a w e' hf=>?_
 obtain⟨hT,HM0,e,B3,B6⟩:=up5 e' hT HM0 e B3 B6
 refine ep sKV hf (by decide) fun a bm w e' hbm hsm HM hf=>?_
 have lb3:=B3.lt
 have lb6:=B6.lt
 have hle:=e.size
 have nm:b3<bm∧b6<bm∧W.heap.size≤bm:=by omega
 replace e:=e.tr e';replace hT:=hT.ext e';replace HM0:=HM0.ext e';replace B3:=B3.ext e';replace B6:=B6.ext e'
 have hNm:bm+1≤w.heap.size:=HM.lt
 refine tP hf (bB [(0,_),(1,_)] rfl (rh S0 bm)) fun a w e' hf=>?_
 obtain⟨hT,HM0,HM,hNm,e,B3,B6⟩:=up7 e' hT HM0 HM hNm e B3 B6
 refine tL I79 hf fun a b7 w e' hb7 hs7 B7 hf=>?_
 obtain⟨hT,HM0,HM,hNm,e,B3,B6⟩:=up7 e' hT HM0 HM hNm e B3 B6
 have n7:b3≠b7∧b6≠b7∧b7≠bm∧W.heap.size≤b7∧bm<b7:=by have:=B3.lt;have:=B6.lt;omega
 refine az T79 hf rfl rfl (cg _ _) B7 rfl (aH _ _) fun w hg hsz B7 hf=>?_
 replace e:=e.gr hg (by omega);replace hT:=hT.gr hg (by omega);replace HM0:=HM0.gr hg (fun h=>by cases h;omega);replace B3:=B3.gr hg (by omega);replace B6:=B6.gr hg (by omega);replace HM:=HM.gr hg (fun h=>by cases h;omega);clear hg hNm
 refine aa ?_
 replace hf:=hf.keep [1,2,3,6,7]
 refine seq <| seq ?_
 refine rgN 2 hf <| st (fA U79 rfl T77 rfl) <| st (ld1 (v:=.map (some b0)) T77 rfl B3 (bI _ _)) <| en fun a w e' hf=>?_
 obtain⟨hT,HM0,HM,e,B3,B6,B7⟩:=up7 e' hT HM0 HM e B3 B6 B7
 replace hf:=hf.keep [1,2,6,7,15]
 have l7w:=B7.lt
 refine iq (V:=sKV) U77 hf (by decide) rfl HM0 fun a r w e' hr hsr HR hf=>?_
 have hr7:b7<r:=by omega
 have hrW:W.heap.size≤r:=by omega
 have hNr:r+1≤w.heap.size:=by omega
 replace e:=e.tr e';replace hT:=hT.ext e';replace B6:=B6.ext e';replace B7:=B7.ext e';replace HM:=HM.ext e'
 refine aa ?_
 replace hf:=hf.keep [1,2,6,7,16]
 obtain⟨c6,hc6,hB6⟩:∃c6:Array Value,c6.size=17∧Blk w b6 c6 79:=⟨_,by rfl,B6⟩
 have B6:=hB6
 refine cut (J:=fun a w=>Fr 47 a w [(1,E (I (u:Nat))),(2,E (I (v:Nat))),(6,E (ptr b6)),(7,E (ptr b7))]∧Ext W w∧Tab w∧Blk w b6 c6 79∧Blk w b7 (adC S0 (.map (some bm))) 79∧MpR sKV w bm l.length l) ?_ (fun a w hJ=>?_)
 ·refine blk (aF (fun r0 a w=>∃(old rest:List (Int×BS)),r0=rest.length∧Fr 47 a w [(1,E (I (u:Nat))),(2,E (I (v:Nat))),(6,E (ptr b6)),(7,E (ptr b7)),(16,E (ptr r))]∧Ext W w∧Tab w∧Blk w b6 c6 79∧Blk w b7 (adC S0 (.map (some bm))) 79∧RgR sKV w b0 r n0 old rest∧MpR sKV w bm old.length old∧r+1≤w.heap.size∧(old++rest).Perm l) l.length ⟨[],l,rfl,hf,e,hT,B6,B7,HR,HM,hNr,List.Perm.refl _⟩ ?_)
  rintro r0 a w ⟨old,rest,rfl,hf,e,hT,B6,B7,HR,HM,hNr,hp⟩
  obtain⟨hok,hpw⟩:=HR.okn
  refine seq <| ab <| ir hf (by decide) rfl HR (fun a hrest hf=>?_) (fun a w' x c hm hg HR hen hf=>?_)
  ·refine ca hf (by decide) rfl rfl fun a hf=>aa <| seq <| ifF hf rfl ?_
   refine aC ?_
   simp only[Exit.then,Exit.inBlock,↓reduceIte]
   subst hrest
   rw[List.append_nil] at hp
   replace HM:=(HM.perm hp).mono (Nat.le_of_eq hp.length_eq)
   replace hf:=hf.keep [1,2,6,7]
   exact⟨trivial,hf,e,hT,B6,B7,HM⟩
  ·have hxc:=hok (x,c) (List.mem_append_right _ hm)
   have hno:=zF hpw hm
   have hlen:=zG hp hm
   have hmr:=mn hm
   have hp':(old++[(x,c)]++rest.filter fun p => !decide (p.1=x)).Perm l:=by
    rw[List.append_assoc];exact (List.Perm.append_left old (er (List.pairwise_append.1 hpw).2.1 hm).symm).trans hp
   replace e:=e.gr hg hrW;replace hT:=hT.gr hg (by omega);replace B6:=B6.gr hg (by omega);replace B7:=B7.gr hg (by omega);replace HM:=HM.gr hg (fun h=>by cases h;omega);replace hNr:=Nat.le_trans hNr hg.size;clear hg
   refine ca hf (by decide) rfl rfl fun a hf=>aa <| seq <| ifT hf rfl ?_
   refine ah <| blk <| seq <| ab <| iv hf (by decide) rfl hen fun a hf=>?_
   replace hf:=hf.kp [1,2,6,7,16,19]
   refine ca hf (by decide) rfl rfl fun a hf=>ca hf (by decide) rfl rfl fun a hf=>tL I76 hf fun a b9 w e' hb9 hs9 B9 hf=>?_
   obtain⟨hT,HM,HR,hNr,e,B6,B7⟩:=up7 e' hT HM HR hNr e B6 B7
   refine tA hf rfl fun a hf=>?_
   replace HR:RgR sKV w b0 r n0 (old++[(x,c)]) (rest.filter fun p => !decide (p.1=x)):=HR
   have h9:r<b9:=by omega
   refine az T76 hf rfl rfl (bj _) B9 rfl (bh _) fun w hg hsz B9 hf=>?_
   replace e:=e.gr hg (by omega);replace hT:=hT.gr hg (by omega);replace B6:=B6.gr hg (by omega);replace B7:=B7.gr hg (by omega);replace HR:=HR.gr hg (fun h=>by cases h;omega) (fun h=>by cases h;omega);replace HM:=HM.gr hg (fun h=>by cases h;omega);replace hNr:=Nat.le_trans hNr hg.size;clear hg
   refine aa ?_
   replace hf:=hf.kp [1,2,6,7,8,9,16]
   refine rgN 4 hf <| st (fA U79 rfl T77 rfl) <| st (ld1 (v:=.map (some bm)) T77 rfl B7 (bI _ _)) <| st (mv rfl) <| st ((ldW T76 rfl B9 rfl).eq ((rfl:_=ac c))) <| en fun a w e' hf=>?_
   obtain⟨hT,HM,HR,hNr,e,B6,B7,B9⟩:=up8 e' hT HM HR hNr e B6 B7 B9
   refine dW (V:=sKV) (i:=x) (c:=c) U77 hf rfl rfl rfl HM (by simp only[maxLen];omega) hxc.1 trivial fun w hg HM hf=>?_
   replace e:=e.gr hg (by omega);replace hT:=hT.gr hg (by omega);replace B6:=B6.gr hg (by omega);replace B7:=B7.gr hg (by omega);replace HR:=HR.gr hg (fun h=>by cases h;omega) (fun h=>by cases h;omega);replace hNr:=Nat.le_trans hNr hg.size;clear hg
   refine aa ?_
   replace hf:=hf.keep [1,2,6,7,16]
   exact⟨_,hmr,old++[(x,c)],_,rfl,hf,e,hT,B6,B7,HR,by rw[List.length_append];exact HM.perm (zD hno),hNr,hp'⟩
 obtain⟨hf,e,hT,B6,B7,HM⟩:=hJ
 have hlm:l.length<maxLen:=by simp only[maxLen];omega
 have hlm1:l.length+1<maxLen:=by simp only[maxLen];omega
 have hd:=HM.dvE (N:=l.length) (Nat.le_refl _) (G:=G0) (fun h=>h)
 refine seq <| cF 21 [0,0,0,1,1,1,0,0,0,0,0,0,0,0,0,0,0,2,0,0] (Chg fun c=>c=bm) (bS.one _) (fun w=>MpR sKV w bm (l.length+1) (aT l (u:Int) au)) (fun w w1 k h=>h.ext k) Mix.mix hf (by decide +kernel) (by decide +kernel) <| ja (fA U79 rfl T77 rfl) <| ja (ld1 (v:=.map (some bm)) T77 rfl B7 (bI _ _)) <| ja (mv rfl) <| jf (fun w1 h1=>fA U79 rfl T77 rfl) <| jf (fun w1 h1=>ld1 (v:=.map (some bm)) T77 rfl (B7.ch h1 (fun h=>by omega)) (bI _ _)) <| jf (fun w1 h1=>mv rfl) <| ja (fA U79 rfl T77 rfl) <| ja (ld1 (v:=.map (some bm)) T77 rfl B7 (bI _ _)) <| ja (mv rfl) <| ja (lkM (l:=l) (i:=(u:Int)) U77 bW (isE rfl hd) rfl hwu) <| ja (mv rfl) <| ja (aw (A:=E (ac au)) (B:=E (ac (lkS l (u:Int)))) (C:=E (I (v:Nat))) fY rfl rfl (fun v u w he h h'=>by cases h;cases h';rw[hau];exact gd _ _ w)) ?_
 refine ja (fA U79 rfl T77 rfl) <| ja (ld1 (v:=.map (some bm)) T77 rfl B7 (bI _ _)) <| ja (mv rfl) <| ja (lkM (l:=l) (i:=(v:Int)) U77 bW (isE rfl hd) rfl hwv) <| ja (mv rfl) <| jk (aw (A:=E (ac av)) (B:=E (ac (lkS l (v:Int)))) (C:=E (I (u:Nat))) fY rfl rfl (fun v u w he h h'=>by cases h;cases h';rw[hav];exact gd _ _ w)) ?_
 refine ja (enS (V:=sKV) (i:=(u:Int)) (c:=lkS l (u:Int)) U77 rfl rfl HM hwu hmu) <| ja (aV rfl rfl) <| jx (esJ (V:=sKV) (i:=(u:Int)) (c:=au) U77 rfl rfl rfl HM hwu trivial hlm) <| je <| fun a w hc HF hf=>?_
 try dsimp only[push] at hf
 replace e:=e.ch hc (fun b hb=>by omega)
 replace B6:=B6.ch hc (fun h=>by omega)
 replace B7:=B7.ch hc (fun h=>by omega)
 have HM:=HF
 refine dW (V:=sKV) (i:=(v:Int)) (c:=av) U77 hf rfl rfl rfl HM hlm1 hwv trivial fun w hg HM hf=>?_
 obtain⟨e,B6,B7⟩:=gr3 hg e B6 B7
 refine aa ?_
 replace hf:=hf.kp [6,7]
 refine seq <| rgN 1 hf <| st (ldW T79 rfl B7 (aH _ _)) <| en fun a w e' hf=>?_
 obtain⟨HM,e,B6,B7⟩:=up4 e' HM e B6 B7
 refine az T79 hf rfl rfl (cg _ _) B6 hc6 (aH _ _) fun w hg hsz B6 hf=>?_
 replace e:=e.gr hg (by omega)
 replace HM:=HM.gr hg (fun h=>by cases h;omega)
 refine aa <| ai <| dP rfl T79 hf rfl B6 (aH _ _) <| ⟨_,rfl,e,_,hwo,.map (some bm),rfl,MpR.dvE HM (by omega) fun h=>h⟩
end Go.Mono
namespace Go.Mono

theorem iD (p:Nat→Bool)(n:Nat):(cr p n = -1∧∀i,i<n→p i=false)∨∃k:Nat,k<n∧cr p n=(k:Int)∧p k=true∧∀i,i<k→p i=false:=by
 by_cases h:∃k,k<n∧p k=true
 ·obtain⟨k,⟨h1,h2⟩,h3⟩:=gO h
  have h4:∀i,i<k→p i=false:=fun i hi=>by
   cases hp:p i
   ·rfl
   ·exact absurd ⟨by omega,hp⟩ (h3 i hi)
  exact .inr ⟨k,h1,fw h1 h4 h2,h2,h4⟩
 ·have h4:∀i,i<n→p i=false:=fun i hi=>by
   cases hp:p i
   ·rfl
   ·exact absurd ⟨i,hi,hp⟩ h
  exact .inl ⟨eR h4,h4⟩
end Go.Mono
namespace Go.Mono
open Go Go.Proofs Go.RowKit Go.Gr

def gs (l:List BS)(i:Nat):BS:=(l[i]?).getD 0
theorem iE {l:List BS}{i:Nat}(h:i<l.length):l[i]?=some (gs l i):=by simp[gs,h]
def jQ (p:BS→Bool)(l:List BS):Int:=cr (fun i=>p (gs l i)) l.length
theorem rp (L:List BS)(b:Nat):jQ (fun S=>has S (b:Int)) L=bG L b:=by
 rw[jQ,bG]
 rcases iD (fun i=>has (gs L i) (b:Int)) L.length with ⟨h1,h2⟩|⟨k,hk,h1,h2,h3⟩
 ·have:L.findIdx? (fun S=>S.getLsbD b)=none:=List.findIdx?_eq_none_iff.2 fun S hS=>by
   obtain⟨i,hi,he⟩:=List.getElem_of_mem hS
   have h4:=h2 i hi
   have h5:gs L i=S:=by have:=iE hi;rw[List.getElem?_eq_getElem hi,he] at this;exact (Option.some.inj this).symm
   rw[h5] at h4
   cases hb:S.getLsbD b with
   | false=>rfl
   | true=>rw[(cQ S b).2 hb] at h4;cases h4
  rw[h1,this]
 ·have:L.findIdx? (fun S=>S.getLsbD b)=some k:=by
   rw[List.findIdx?_eq_some_iff_getElem]
   have hg:∀i (hi:i<L.length),L[i]=gs L i:=fun i hi=>by have:=iE hi;rw[List.getElem?_eq_getElem hi] at this;exact Option.some.inj this
   refine⟨hk,?_,fun j hj=>?_⟩
   ·rw[hg k hk];exact (cQ _ b).1 h2
   ·rw[hg j (by omega)]
    intro hh
    have:=h3 j hj
    rw[(cQ _ b).2 hh] at this;cases this
  rw[h1,this]
theorem zI {G:Nat→Prop}(l:List BS)(v:Value)(id:FuncId)(caps:Array Value)(p:BS→Bool)(W:World)(hen:Proofs.Enters Tryz.prog id)(h:(Dv (slE aM) G l).p v W)
  (hp:∀w S,Ext W w→Calls Tryz.prog id (#[ac S]++caps) w (Post (E (B (p S))) w)) (hl:l.length≤4096) :
  Calls Tryz.prog 102 #[v,.func (.func id) #[] caps] W (Post (E (I (jQ p l))) W):=by
 refine eN [v,.func (.func id) #[] caps] [Dv (slE aM) G l,E (.func (.func id) #[] caps)] Tryz.func102 Tryz.ntmps102 ?_ fun a hf=>?_
 rotate_left
 rotate_right
 ·exact arg2 h rfl
 have e:=Ext.rfl' W
 refine seq <| ab <| tA hf rfl fun a hf=>aa ?_
 refine seq <| seq ?_
 refine rgN 3 hf <| st (mv rfl) <| st (aB U83 (isR rfl)) <| st (mv rfl) <| en fun a w e' hf=>?_
 replace e:=e.tr e'
 refine aa ?_
 replace hf:=hf.keep [0,1,7,8]
 refine blk (aF (fun r0 a w=>∃(k:Nat) ,r0=l.length - k∧k≤l.length∧Fr 19 a w [(0,Dv (slE aM) G l),(1,E (.func (.func id) #[] caps)),(7,E (I (l.length:Nat))),(8,E (I k))]∧Ext W w∧∀i,i<k→p (gs l i)=false) l.length ⟨0,rfl,by omega,hf,e,(fun i hi=>by omega)⟩ ?_)
 rintro r0 a w ⟨k,rfl,hk,hf,e,Ho⟩
 refine seq <| rgN 1 hf <| st (lss rfl rfl) <| en fun a w e' hf=>?_
 replace e:=e.tr e'
 refine aa <| seq <| ifc hf rfl (fun hc=>ah ?_) (fun hc=>aC ?_)
 rotate_left
 rotate_left
 ·have hlt:=ltC hc
  replace hf:=hf.keep [0,1,7,8]
  refine seq <| blk <| seq <| rgN 1 hf <| st (mv rfl) <| en fun a w e' hf=>?_
  replace e:=e.tr e'
  refine tA hf rfl fun a hf=>aa <| seq <| rgN 6 hf <| st (mv rfl) <| st (mv rfl) <| st (mv rfl) <| st (aD U83 S76 (isR rfl) rfl (by omega) (iE hlt)) <| st (ldS T76 (isR rfl)) <| st (gR hen rfl rfl (fun v w he h=>by cases h;exact hp w _ (e.tr he))) ?_
  refine en fun a w e' hf=>?_
  replace e:=e.tr e'
  refine aa <| ifc hf rfl (fun hb=>?_) (fun hb=>?_)
  ·refine seq <| rgN 1 hf <| st (mv rfl) <| en fun a w e' hf=>?_
   replace e:=e.tr e'
   refine tA hf rfl fun a hf=>aa <| ai <| am rfl hf rfl ?_
   rintro _ rfl
   exact⟨_,rfl,e,congrArg I (fw hlt Ho hb).symm⟩
  ·refine ah <| rgN 1 hf <| st ((add rfl rfl (by omega)).eq (iN k)) <| en fun a w e' hf=>?_
   replace e:=e.tr e'
   refine tP hf (mv rfl) fun a w e' hf=>?_
   replace e:=e.tr e'
   refine aa ?_
   replace hf:=hf.keep [0,1,7,8]
   refine⟨_,?_,k+1,rfl,by omega,hf,e,?_⟩
   ·omega
   intro i hi
   by_cases hk:i=k
   ·subst hk;exact hb
   ·exact Ho i (by omega)
 ·obtain rfl:=dnE hc hk
  refine seq <| ab <| tA hf rfl fun a hf=>aa <| ai <| am rfl hf rfl ?_
  rintro _ rfl
  exact⟨_,rfl,e,congrArg I (eR Ho).symm⟩
theorem zJ (S:BS)(b:Int)(c:Nat)(W:World)(hc:Blk W c #[I b] 3):Calls Tryz.prog 103 #[ac S,ptr c] W (Post (E (B (has S b))) W):=by
 refine eN [ac S,ptr c] [E (ac S),E (ptr c)] Tryz.func103 Tryz.ntmps103 ?_ fun a hf=>?_
 rotate_left
 rotate_right
 ·exact arg2 rfl rfl
 have e:=Ext.rfl' W
 refine seq <| ab <| tB hf rfl fun a b2 w v2 hv2 e' hb2 hs2 B2 hf=>?_
 obtain⟨e,hc⟩:=up2 e' e hc
 refine tA hf rfl fun a hf=>aa ?_
 cases hv2
 replace B2:Blk w b2 (aJ S) 76:=B2
 refine seq <| rgN 3 hf <| st ((ldW T76 rfl B2 rfl).eq ((rfl:_=ac S))) <| st (ld1 (v:=I b) T3 rfl hc rfl) <| st (aw (A:=E (B (has S b))) (B:=E (ac S)) (C:=E (I b)) bZ rfl rfl (fun v u w he h h'=>by cases h;cases h';exact dT _ _ w)) ?_
 refine en fun a w e' hf=>?_
 obtain⟨e,hc,B2⟩:=up3 e' e hc B2
 refine tA hf rfl fun a hf=>aa <| ai <| am rfl hf rfl ?_
 rintro _ rfl
 exact⟨_,rfl,e,rfl⟩
theorem jR {G:Nat→Prop}(L:List BS)(b:Nat)(v:Value)(W:World)(h:(Dv (slE aM) G L).p v W)(hl:L.length≤4096):Calls Tryz.prog 50 #[v,I (b:Nat)] W (Post (E (I (bG L b))) W):=by
 have hv:(Dv (slE aM) G0 L).p v W:=Dv.weak h fun b _ hb=>hb.elim
 refine eN [v,I (b:Nat)] [E v,E (I (b:Nat))] Tryz.func50 Tryz.ntmps50 ?_ fun a hf=>?_
 rotate_left
 rotate_right
 ·exact arg2 rfl rfl
 have e:=Ext.rfl' W
 refine seq <| ab <| tB hf rfl fun a b3 w v3 hv3 e' hb3 hs3 B3 hf=>?_
 replace e:=e.tr e'
 refine tA hf rfl fun a hf=>aa ?_
 cases hv3
 replace B3:Blk w b3 #[I (b:Nat)] 3:=B3
 replace hf:=hf.keep [0,3]
 have e1:=e
 refine seq <| rgN 3 hf <| st (mv rfl) <| st (fT rfl) <| st (aw (A:=E (I (bG L b))) (B:=E v) (C:=E (.func (.func 103) #[] #[ptr b3])) vz rfl rfl (fun u u' w he k1 k2=>by cases k1;cases k2;rw[← rp];exact zI L v _ _ (fun S=>has S (b:Int)) w vA (vst (e1.tr he) hv) (fun w' S he'=>zJ S (b:Int) b3 w' (B3.ext (he.tr he'))) hl)) ?_
 refine en fun a w e' hf=>?_
 obtain⟨e,B3⟩:=up2 e' e B3
 refine tA hf rfl fun a hf=>aa <| ai <| am rfl hf rfl ?_
 rintro _ rfl
 exact⟨_,rfl,e,rfl⟩
def edV (x:Int×Int):Value:=.agg #[.int .i64 x.1,.int .i64 x.2]
theorem Dv.pr2 {G:Nat→Prop}{w:World}{x:Int×Int}{v:Value}:(Dv edE G x).p v w↔v=edV x:=by
 constructor
 ·rintro⟨cs,⟨c,d,h,h1,h2⟩,hv⟩
  cases h1;cases h2;subst h
  exact hv
 ·rintro rfl
  exact⟨_,⟨_,_,rfl,rfl,rfl⟩,rfl⟩
theorem zK {L:Env}{w0:World}{x:Operand}{G:Nat→Prop}{n:Int×Int}(h:opd L x=some (E (edV n))):Is L w0 x (Dv edE G n):=isE h (Dv.pr2.2 rfl)
theorem jS {P:Program}{w0:World}{L:Env}{dst:Option Tmp}{ty:TypeId}{pos:String}{aft:Array Edge}{g:Option (Nat×Bool)}{t:TypeId}{x:Operand}{G:Nat→Prop}{n:Int×Int}(ht:TI P t true 2)(hx:Is L w0 x (Dv (ptE edE) G (some n))):OpC P w0 L ⟨dst,.load t x,ty,pos,aft,g⟩ (E (edV n)):=(ldD (e:=edE) ht hx).conv fun v w=>Dv.pr2.1
theorem bPr (x:Int×Int):Tryz.prog.built 60 [(0,.int .i64 x.1),(1,.int .i64 x.2)]=some #[.int .i64 x.1,.int .i64 x.2]:=by kernel_rfl
theorem mo {G:Nat→Prop}{N:Nat}(g:GT)(v:Value)(W:World)(h:(Dv (ptE (grE N)) G (some g)).p v W)(hs:g.2.Pairwise fun x y=>lt2 x.1 y.1=true)(hl:g.2.length≤100000)(hN:N≤1000000) :
  Calls Tryz.prog 48 #[v] W (Post (OwA edE 60 W.heap.size G0 (g.2.map (·.1))) W):=by
 have hgd:(Dv (ptE (grE N)) G0 (some g)).p v W:=Dv.weak h fun b _ hb=>hb.elim
 refine eN [v] [E v] Tryz.func48 Tryz.ntmps48 ?_ fun a hf=>?_
 rotate_left
 rotate_right
 ·exact arg1 rfl
 have e:=Ext.rfl' W
 refine seq <| ab <| tA hf rfl fun a hf=>aa <| seq <| ab <| tA hf rfl fun a hf=>aa ?_
 have e0:=e
 obtain⟨N1,hN1⟩:=eqX W.heap.size
 have hN1s:N1≤W.heap.size:=Nat.le_of_eq hN1
 have hWN:W.heap.size≤N1:=Nat.le_of_eq hN1.symm
 refine seq <| seq ?_
 refine rgN 4 hf <| st (mv rfl) <| st (ak (A:=OwA etE 62 N1 G0 g.2) oC rfl (fun v w he k=>by cases k;exact (qs (G:=G0) g _ w (vst (e0.tr he) hgd) (fun b hb=>hb.elim) hs hl hN).mono fun en w' ⟨u,k1,k2,k3⟩=>⟨u,k1,k2,OwR.low k3 (Nat.le_trans hN1s he.size) fun b hb=>hb.elim⟩)) ?_
 refine st (aB U61 ⟨_,rfl,fun v w _ h=>OwR.sl h⟩) <| st (mv rfl) <| en fun a w e' hf=>?_
 replace e:=e.tr e'
 refine aa ?_
 obtain⟨ev,HoE,hf⟩:=hf.opn 7 rfl
 replace HoE:OwR etE 62 N1 G0 w g.2 ev:=HoE
 obtain⟨N2,hN2⟩:=eqX w.heap.size
 have lp:∀b,ev.ownBlock=some b→b<N2:=fun b hb=>by rw[hN2];exact (HoE.lt hb).2
 have Ho:OwR edE 60 N2 G0 w [] (.slice none 0 0):=OwR.nil edE _ (Nat.le_of_eq hN2) fun b hb=>hb.elim
 have hWN2:W.heap.size≤N2:=by rw[hN2];exact e.size
 replace hf:=hf.keep [3,7,8,9]
 replace hf:=hf.keep [3,7,8,9]
 refine blk (aF (fun r0 a w=>∃(j:Nat) (u:Value),r0=g.2.length - j∧j≤g.2.length∧Fr 23 a w [(3,E u),(7,E ev),(8,E (I (g.2.length:Nat))),(9,E (I j))]∧Ext W w∧OwR etE 62 N1 G0 w g.2 ev∧OwR edE 60 N2 G0 w ((g.2.take j).map (·.1)) u) g.2.length ⟨0,.slice none 0 0,rfl,by omega,hf,e,⟨HoE,Ho⟩⟩ ?_)
 rintro r0 a w ⟨j,u,rfl,hj,hf,e,HoE,Ho⟩
 refine seq <| rgN 1 hf <| st (lss rfl rfl) <| en fun a w e' hf=>?_
 obtain⟨HoE,Ho,e⟩:=up3 e' HoE Ho e
 refine aa <| seq <| ifc hf rfl (fun hc=>ah ?_) (fun hc=>aC ?_)
 rotate_left
 rotate_left
 ·have hltj:=ltC hc
  replace hf:=hf.keep [3,7,8,9]
  refine seq <| blk ?_
  have hy:=List.getElem?_eq_getElem hltj
  generalize g.2[j]=x at hy
  have hsc:(g.2.take (j+1)).map (·.1)=(g.2.take j).map (·.1)++[x.1]:=by rw[bs hy,List.map_append];rfl
  have hlo:((g.2.take j).map (·.1)).length≤100000:=by rw[List.length_map];exact Nat.le_trans (List.length_take_le' _ _) hl
  generalize (g.2.take j).map (·.1)=out at hsc hlo Ho
  refine seq <| ab <| tP hf (aD U61 S62 (isE rfl (HoE.slN (N:=G0) fun b hb hh=>hh)) rfl (by omega) (hy)) fun a w e' hf=>?_
  obtain⟨e,HoE,Ho⟩:=up3 e' e HoE Ho
  refine tP hf (ft T62 (isR rfl)) fun a w e' hf=>?_
  obtain⟨e,HoE,Ho⟩:=up3 e' e HoE Ho
  refine tL I62 hf fun a b5 w e' hb5 hs5 B5 hf=>?_
  have hle5:=Nat.le_trans e.size (Nat.le_of_eq hb5.symm)
  have ne5_HoE:=HoE.ne_new hb5
  have ne5_Ho:=Ho.ne_new hb5
  obtain⟨e,HoE,Ho⟩:=up3 e' e HoE Ho
  have hr5:=ne5_HoE
  have hu5:=ne5_Ho
  have hW5:W.heap.size≤b5:=hle5
  replace hf:=hf.kp [3,5,7,8,9,12]
  refine az T62 hf rfl rfl (jt x) B5 rfl rfl fun w hg hsz B5 hf=>?_
  replace e:=e.gr hg (by omega);replace HoE:=HoE.grE hg hr5;replace Ho:=Ho.grE hg hu5;clear hg
  refine aa ?_
  replace hf:=hf.kp [3,5,7,8,9]
  refine rgN 7 hf <| st (mv rfl) <| st (fA U62 rfl T3 rfl) <| st (ld1 T3 rfl B5 rfl) <| st (fA U62 rfl T3 rfl) <| st (ld1 T3 rfl B5 rfl) <| st (bB [(0,_),(1,_)] rfl (bPr x.1)) <| st (aW U31 I60 rfl (by decide) rfl Ho.avs (zK rfl)) <| en fun a w e' hf=>?_
  obtain⟨HoE,B5,Ho,e⟩:=up4 e' HoE B5 Ho e
  haveI hin:∀G0,InR (GB W G0) _:=OwR.inGB (W:=W) Ho (by omega)
  refine br U31 I60 rfl rfl hf (by decide) rfl Ho (isR rfl) (by simp only[List.length_singleton];omega) (by simp only[List.length_singleton,maxLen];omega) fun a v w hg hat Hn hf=>?_
  replace e:=e.gro hg (Ho.row (W:=W) (by omega))
  have hrow:=Ho.row (W:=W) (by omega)
  replace HoE:=HoE.groE hg (fun b hb hh=>by have h1:=hrow b hh;have h2:=lp b hb;have h3:=(Ho.lt hh).1;omega)
  replace B5:=B5.gro hg hu5
  replace Ho:=Hn
  replace Ho:=Hn;clear Hn hg hat hin
  refine tA hf rfl fun a hf=>aa ?_
  rw[← hsc] at Ho
  replace hf:=hf.keep [3,7,8,9]
  refine rgN 1 hf <| st ((add rfl rfl (by omega)).eq (iN j)) <| en fun a w e' hf=>?_
  obtain⟨HoE,Ho,e⟩:=up3 e' HoE Ho e
  refine tP hf (mv rfl) fun a w e' hf=>?_
  obtain⟨HoE,Ho,e⟩:=up3 e' HoE Ho e
  refine aa ?_
  replace hf:=hf.keep [3,7,8,9]
  refine⟨_,?_,j+1,_,rfl,by omega,hf,e,?_⟩
  ·omega
  exact⟨HoE,Ho⟩
 ·obtain rfl:=dnE hc hj
  rw[List.take_length] at Ho
  replace hf:=hf.keep [3]
  refine seq <| rgN 1 hf <| st (mv rfl) <| en fun a w e' hf=>?_
  obtain⟨Ho,e⟩:=up2 e' Ho e
  refine tA hf rfl fun a hf=>aa <| ai <| am rfl hf rfl ?_
  rintro _ rfl
  exact⟨_,rfl,e,Ho.low hWN2 fun b hb=>hb.elim⟩
def toI (e:Nat×Nat):Int×Int:=((e.1:Int),(e.2:Int))
theorem rq (L:List BS)(b:Nat):bG L b≤L.length:=by
 rw[← rp,jQ]
 rcases iD (fun i=>has (gs L i) (b:Int)) L.length with ⟨h1,_⟩|⟨k,hk,h1,_⟩ <;> omega
def gst (nb:Int→BS)(best:Int)(e:Nat×Nat):Int:=if bG (lvB (wo nb e.1 e.2) e.1) e.2 ≠ -1∧(best=0∨bG (lvB (wo nb e.1 e.2) e.1) e.2+1<best) then bG (lvB (wo nb e.1 e.2) e.1) e.2+1 else best
theorem rs (nb:Int→BS)(es:List (Nat×Nat))(e:Nat×Nat):cd nb (es++[e])=gst nb (cd nb es) e:=by
 rw[cd,List.foldl_append,List.foldl_cons,List.foldl_nil,cd,gst]
theorem zL {G G2:Nat→Prop}{N0:Nat}(l:List (Int×BS))(S0:BS)(es:List (Nat×Nat))(mq ev:Value)(W:World)(hT:Tab W)(h:(Dv (mpE sKV N0) G l).p mq W)(hN:N0≤100000)(hel:es.length≤100000)(h':(Dv (slE edE) G2 (es.map toI)).p ev W)
  (hes:∀e∈es,e.1<1024∧e.2<1024∧e.1≠e.2∧((e.1:Int),lkS l (e.1:Int))∈l) :
  Calls Tryz.prog 84 #[.agg (adC S0 mq),ev] W (Post (E (I (cd (lkS l) es))) W):=by
 have HV:(Dv (mpE sKV N0) G0 l).p mq W:=Dv.weak h fun b _ hb=>hb.elim
 have HE:(Dv (slE edE) G0 (es.map toI)).p ev W:=Dv.weak h' fun b _ hb=>hb.elim
 have hT0:=hT.lt
 obtain⟨nb,hnb⟩:=eqX (lkS l)
 rw[← hnb]
 refine eN [.agg (adC S0 mq),ev] [E (.agg (adC S0 mq)),E ev] Tryz.func84 Tryz.ntmps84 ?_ fun a hf=>?_
 rotate_left
 rotate_right
 ·exact arg2 rfl rfl
 have e:=Ext.rfl' W
 refine seq <| ab <| tB hf rfl fun a b2 w v2 hv2 e' hb2 hs2 B2 hf=>?_
 obtain⟨hT,e⟩:=up2 e' hT e
 refine tA hf rfl fun a hf=>aa ?_
 cases hv2
 replace B2:Blk w b2 (adC S0 mq) 79:=B2
 have n2:W.heap.size≤b2:=by omega
 refine seq <| ab <| tA hf rfl fun a hf=>aa ?_
 replace hf:=hf.keep [1,2,5]
 obtain⟨Ls,hLs⟩:=eqX (es.map toI)
 have hLl:Ls.length=es.length:=by rw[hLs,List.length_map]
 rw[← hLs] at HE
 refine seq <| seq ?_
 refine rgN 3 hf <| st (mv rfl) <| st (aB U31 (isE rfl (vst e HE))) <| st (mv rfl) <| en fun a w e' hf=>?_
 obtain⟨hT,e,B2⟩:=up3 e' hT e B2
 refine aa ?_
 replace hf:=hf.keep [2,5,9,10,11]
 refine blk (aF (fun r0 a w=>∃(j:Nat) ,r0=Ls.length - j∧j≤Ls.length∧Fr 43 a w [(2,E (ptr b2)),(5,E (I (cd nb (es.take j)))),(9,E ev),(10,E (I (Ls.length:Nat))),(11,E (I j))]∧Ext W w∧Tab w∧Blk w b2 (adC S0 mq) 79) Ls.length ⟨0,rfl,by omega,hf,e,⟨hT,B2⟩⟩ ?_)
 rintro r0 a w ⟨j,rfl,hj,hf,e,hT,B2⟩
 refine seq <| rgN 1 hf <| st (lss rfl rfl) <| en fun a w e' hf=>?_
 obtain⟨hT,e,B2⟩:=up3 e' hT e B2
 refine aa <| seq <| ifc hf rfl (fun hc=>ah ?_) (fun hc=>aC ?_)
 rotate_left
 rotate_left
 ·have hltj:=ltC hc
  replace hf:=hf.keep [2,5,9,10,11]
  refine seq <| blk ?_
  have hjp:j<es.length:=by omega
  have hy:=List.getElem?_eq_getElem hjp
  generalize es[j]=x at hy
  have hy':Ls[j]?=some (toI x):=by rw[hLs,List.getElem?_map,hy];rfl
  have hsc:cd nb (es.take (j+1))=gst nb (cd nb (es.take j)) x:=by rw[bs hy,rs]
  generalize cd nb (es.take j)=best at hsc hf
  obtain⟨x1,x2,x3,x4⟩:=hes x (List.mem_of_getElem? hy)
  obtain⟨u,v⟩:=x
  replace x1:u<1024:=x1
  replace x2:v<1024:=x2
  replace x3:u≠v:=x3
  replace x4:((u:Int),lkS l (u:Int))∈l:=x4
  replace hy':Ls[j]?=some ((u:Int),(v:Int)):=hy'
  rw[gst] at hsc
  obtain⟨d,hd⟩:=eqX (bG (lvB (wo nb u v) u) v)
  rw[← hd] at hsc
  have hd1 : -1≤d:=by rw[hd];exact iB _ _
  have hd2:d≤1025:=by rw[hd];have h1:=rq (lvB (wo nb u v) u) v;have h2:=dZ (wo nb u v) u;omega
  refine seq <| ab <| tP hf (aD U31 S60 (isE rfl (vst e HE)) rfl (by omega) (hy')) fun a w e' hf=>?_
  obtain⟨hT,e,B2⟩:=up3 e' hT e B2
  refine tP hf (jS T60 (isR rfl)) fun a w e' hf=>?_
  obtain⟨hT,e,B2⟩:=up3 e' hT e B2
  refine tL I60 hf fun a b7 w e' hb7 hs7 B7 hf=>?_
  have lt7_B2:=B2.lt
  obtain⟨hT,e,B2⟩:=up3 e' hT e B2
  have n7:b2≠b7∧W.heap.size≤b7:=by have:=B2.lt;omega
  replace hf:=hf.kp [2,5,7,9,10,11,14]
  refine az T60 hf rfl rfl (bk rfl rfl) B7 rfl rfl fun w hg hsz B7 hf=>?_
  obtain⟨e,hT,B2⟩:=gr3 hg e hT B2
  refine aa ?_
  replace B7:Blk w b7 #[I (u:Nat),I (v:Nat)] 60:=B7
  replace hf:=hf.kp [2,5,7,9,10,11]
  have e5:=e
  refine seq <| rgG 12 Mix.mix hf <| st (ldW T79 rfl B2 (aH _ _)) <| st (bQ U60 ⟨_,T3⟩ rfl rfl (by omega)) <| st (ld1 T3 rfl B7 rfl) <| st (bQ U60 ⟨_,T3⟩ rfl rfl (by omega)) <| st (ld1 T3 rfl B7 rfl) <| st (bX (A:=WoA (wo nb u v) S0 (N0+2)) (B:=E (.agg (adC S0 mq))) (C:=E (I (u:Nat))) (D:=E (I (v:Nat))) oq rfl rfl rfl (fun a b c w he k1 k2 k3=>by cases k1;cases k2;cases k3;rw[hnb];exact rn l S0 u v mq w (hT.ext he) (vst (e5.tr he) HV) hN x1 x2 x3 x4)) ?_
  refine st (bQ U60 ⟨_,T3⟩ rfl rfl (by omega)) <| st (ld1 T3 rfl B7 rfl) <| st (aw (A:=Dv (slE aM) G0 (lvB (wo nb u v) u)) (B:=WoA (wo nb u v) S0 (N0+2)) (C:=E (I (u:Nat))) eO rfl rfl (fun a b w he ⟨l2,k1,mq2,k2,k3⟩ k4=>by subst k2;cases k4;rw[← k1];exact (fa l2 S0 mq2 u w (hT.ext he) k3 x1).mono fun en w' ⟨z,q1,q2,q3⟩=>⟨z,q1,q2,OwR.sl q3⟩)) ?_
  refine st (bQ U60 ⟨_,T3⟩ rfl rfl (by omega)) <| st (ld1 T3 rfl B7 rfl) <| st (aw (A:=E (I d)) (B:=Dv (slE aM) G0 (lvB (wo nb u v) u)) (C:=E (I (v:Nat))) jh rfl rfl (fun a b w he k1 k2=>by cases k2;rw[hd];exact jR _ v a w k1 (Nat.le_trans (dZ _ _) (by decide)))) ?_
  refine en fun a w e' hf=>?_
  obtain⟨hT,e,B2,B7⟩:=up4 e' hT e B2 B7
  refine tA hf rfl fun a hf=>aa ?_
  replace hf:=hf.keep [2,5,8,9,10,11]
  by_cases c1:d = -1
  ·rw[if_neg (fun h=>h.1 c1)] at hsc
   refine seq <| rgN 12 hf <| st (mv rfl) <| st ((neq rfl rfl).eq (congrArg Value.bool (show (d != -1)=false by simp[c1]))) <| st (mv rfl) <| sn rfl rfl rfl <| sn rfl rfl rfl <| sn rfl rfl rfl <| su rfl rfl <| su rfl rfl <| su rfl rfl <| su rfl rfl <| sn rfl rfl rfl <| st (pkF rfl rfl) <| en fun a w e' hf=>?_
   obtain⟨hT,e,B2⟩:=up3 e' hT e B2
   refine aa <| ifF hf rfl ?_
   refine ah ?_
   rw[← hsc] at hf
   refine rgN 1 hf <| st ((add rfl rfl (by omega)).eq (iN j)) <| en fun a w e' hf=>?_
   obtain⟨hT,e,B2⟩:=up3 e' hT e B2
   refine tP hf (mv rfl) fun a w e' hf=>?_
   obtain⟨hT,e,B2⟩:=up3 e' hT e B2
   refine aa ?_
   replace hf:=hf.keep [2,5,9,10,11]
   refine⟨_,?_,j+1,rfl,by omega,hf,e,?_⟩
   ·omega
   exact⟨hT,B2⟩
  ·have c1':(d != -1)=true:=by simp[c1]
   by_cases c2:best=0
   ·rw[if_pos ⟨c1,.inl c2⟩] at hsc
    refine seq <| rgN 12 hf <| st (mv rfl) <| st ((neq rfl rfl).eq (congrArg Value.bool (c1'))) <| st (mv rfl) <| sy rfl rfl (mv rfl) <| sy rfl rfl ((eql rfl rfl).eq (congrArg Value.bool (show (best==0)=true by simp[c2]))) <| sy rfl rfl (mv rfl) <| sn rfl rfl rfl <| sn rfl rfl rfl <| sn rfl rfl rfl <| sn rfl rfl rfl <| sy rfl rfl (pkT rfl rfl) <| st (pkT rfl rfl) <| en fun a w e' hf=>?_
    obtain⟨hT,e,B2⟩:=up3 e' hT e B2
    refine aa <| ifT hf rfl ?_
    refine rgN 2 hf <| st (mv rfl) <| st (add rfl rfl (by omega)) <| en fun a w e' hf=>?_
    obtain⟨hT,e,B2⟩:=up3 e' hT e B2
    refine tA hf rfl fun a hf=>aa ?_
    rw[← hsc] at hf
    refine rgN 1 hf <| st ((add rfl rfl (by omega)).eq (iN j)) <| en fun a w e' hf=>?_
    obtain⟨hT,e,B2⟩:=up3 e' hT e B2
    refine tP hf (mv rfl) fun a w e' hf=>?_
    obtain⟨hT,e,B2⟩:=up3 e' hT e B2
    refine aa ?_
    replace hf:=hf.keep [2,5,9,10,11]
    refine⟨_,?_,j+1,rfl,by omega,hf,e,?_⟩
    ·omega
    exact⟨hT,B2⟩
   ·have c2':(best==0)=false:=by simp[c2]
    by_cases c3:d+1<best
    ·rw[if_pos ⟨c1,.inr c3⟩] at hsc
     refine seq <| rgN 12 hf <| st (mv rfl) <| st ((neq rfl rfl).eq (congrArg Value.bool (c1'))) <| st (mv rfl) <| sy rfl rfl (mv rfl) <| sy rfl rfl ((eql rfl rfl).eq (congrArg Value.bool (c2'))) <| sy rfl rfl (mv rfl) <| sy rfl rfl (mv rfl) <| sy rfl rfl (add rfl rfl (by omega)) <| sy rfl rfl (mv rfl) <| sy rfl rfl ((lss rfl rfl).eq (congrArg Value.bool (decide_eq_true c3))) <| sy rfl rfl (pkF rfl rfl) <| st (pkT rfl rfl) <| en fun a w e' hf=>?_
     obtain⟨hT,e,B2⟩:=up3 e' hT e B2
     refine aa <| ifT hf rfl ?_
     refine rgN 2 hf <| st (mv rfl) <| st (add rfl rfl (by omega)) <| en fun a w e' hf=>?_
     obtain⟨hT,e,B2⟩:=up3 e' hT e B2
     refine tA hf rfl fun a hf=>aa ?_
     rw[← hsc] at hf
     refine rgN 1 hf <| st ((add rfl rfl (by omega)).eq (iN j)) <| en fun a w e' hf=>?_
     obtain⟨hT,e,B2⟩:=up3 e' hT e B2
     refine tP hf (mv rfl) fun a w e' hf=>?_
     obtain⟨hT,e,B2⟩:=up3 e' hT e B2
     refine aa ?_
     replace hf:=hf.keep [2,5,9,10,11]
     refine⟨_,?_,j+1,rfl,by omega,hf,e,?_⟩
     ·omega
     exact⟨hT,B2⟩
    ·rw[if_neg (fun h=>h.2.elim c2 c3)] at hsc
     refine seq <| rgN 12 hf <| st (mv rfl) <| st ((neq rfl rfl).eq (congrArg Value.bool (c1'))) <| st (mv rfl) <| sy rfl rfl (mv rfl) <| sy rfl rfl ((eql rfl rfl).eq (congrArg Value.bool (c2'))) <| sy rfl rfl (mv rfl) <| sy rfl rfl (mv rfl) <| sy rfl rfl (add rfl rfl (by omega)) <| sy rfl rfl (mv rfl) <| sy rfl rfl ((lss rfl rfl).eq (congrArg Value.bool (decide_eq_false c3))) <| sy rfl rfl (pkF rfl rfl) <| st (pkT rfl rfl) <| en fun a w e' hf=>?_
     obtain⟨hT,e,B2⟩:=up3 e' hT e B2
     refine aa <| ifF hf rfl ?_
     refine ah ?_
     rw[← hsc] at hf
     refine rgN 1 hf <| st ((add rfl rfl (by omega)).eq (iN j)) <| en fun a w e' hf=>?_
     obtain⟨hT,e,B2⟩:=up3 e' hT e B2
     refine tP hf (mv rfl) fun a w e' hf=>?_
     obtain⟨hT,e,B2⟩:=up3 e' hT e B2
     refine aa ?_
     replace hf:=hf.keep [2,5,9,10,11]
     refine⟨_,?_,j+1,rfl,by omega,hf,e,?_⟩
     ·omega
     exact⟨hT,B2⟩
 ·obtain rfl:=dnE hc hj
  rw[hLl,List.take_length] at hf
  replace hf:=hf.keep [5]
  refine seq <| rgN 1 hf <| st (mv rfl) <| en fun a w e' hf=>?_
  obtain⟨hT,e,B2⟩:=up3 e' hT e B2
  refine tA hf rfl fun a hf=>aa <| ai <| am rfl hf rfl ?_
  rintro _ rfl
  exact⟨_,rfl,e,rfl⟩
theorem jT {P:Program}{w0:World}{L:Env}{dst:Option Tmp}{ty:TypeId}{pos:String}{aft:Array Edge}{g:Option (Nat×Bool)}{x:Operand}{t yt te:TypeId}{ao:Option Addr}{n c:Nat}(ht:P.underlying t=some (.slice te))(hx:opd L x=some (E (.slice ao n c))) :
  OpC P w0 L ⟨dst,.binOp .neq t x (.const (.slice none 0 0)) yt,ty,pos,aft,g⟩ (E (.bool !ao.isNone)):=
 kw hx rfl (fun _=>rfl) rfl fun w _=>run_equal_slice_nil w t te ao n c ht
theorem mp {α:Type}{e:Enc α}{G:Nat→Prop}{xs:List α}{v:Value}{w:World}(h:(Dv (slE e) G xs).p v w)(hx:xs≠[]):∃ad n c,v=.slice (some ad) n c:=by
 rcases Dv.sl.1 h with ⟨_,h0⟩|⟨ad,cap,cs,h1,_⟩
 ·exact absurd h0 hx
 ·exact⟨ad,_,cap,h1⟩
def ixI (l:List Int)(x:Int):Int:=cr (fun i=>x==gi l i) l.length
theorem zM (l:List Int)(x:Int):decide (0≤ixI l x)=decide (x∈l):=by
 rw[ixI]
 rcases iD (fun i=>x==gi l i) l.length with ⟨h1,h2⟩|⟨k,hk,h1,h2,_⟩
 ·rw[h1,decide_eq_false (by omega),decide_eq_false]
  intro hm
  obtain⟨i,hi,he⟩:=List.getElem_of_mem hm
  have:=h2 i hi
  have hg:=cA hi
  rw[List.getElem?_eq_getElem hi,he] at hg
  rw[← Option.some.inj hg] at this
  simp at this
 ·rw[h1,decide_eq_true (by omega),decide_eq_true]
  have h3:x=gi l k:=by simpa using h2
  rw[h3]
  exact List.mem_of_getElem? (cA hk)
theorem zN {G:Nat→Prop}(l:List Int)(x:Int)(v:Value)(W:World)(h:(Dv (slE intE) G l).p v W)(hl:l.length≤100000):Calls Tryz.prog 147 #[v,I x] W (Post (E (I (ixI l x))) W):=by
 refine eN [v,I x] [Dv (slE intE) G l,E (I x)] Tryz.func147 Tryz.ntmps147 ?_ fun a hf=>?_
 rotate_left
 rotate_right
 ·exact arg2 h rfl
 have e:=Ext.rfl' W
 refine seq <| ab <| tA hf rfl fun a hf=>aa ?_
 refine seq <| seq ?_
 refine rgN 3 hf <| st (mv rfl) <| st (aB U35 (isR rfl)) <| st (mv rfl) <| en fun a w e' hf=>?_
 replace e:=e.tr e'
 refine aa ?_
 replace hf:=hf.keep [0,1,7,8]
 refine blk (aF (fun r0 a w=>∃(k:Nat) ,r0=l.length - k∧k≤l.length∧Fr 19 a w [(0,Dv (slE intE) G l),(1,E (I x)),(7,E (I (l.length:Nat))),(8,E (I k))]∧Ext W w∧∀i,i<k→(x==gi l i)=false) l.length ⟨0,rfl,by omega,hf,e,(fun i hi=>by omega)⟩ ?_)
 rintro r0 a w ⟨k,rfl,hk,hf,e,Ho⟩
 refine seq <| rgN 1 hf <| st (lss rfl rfl) <| en fun a w e' hf=>?_
 replace e:=e.tr e'
 refine aa <| seq <| ifc hf rfl (fun hc=>ah ?_) (fun hc=>aC ?_)
 rotate_left
 rotate_left
 ·have hlt:=ltC hc
  replace hf:=hf.keep [0,1,7,8]
  refine seq <| blk <| seq <| rgN 1 hf <| st (mv rfl) <| en fun a w e' hf=>?_
  replace e:=e.tr e'
  refine tA hf rfl fun a hf=>aa <| seq <| rgN 6 hf <| st (mv rfl) <| st (mv rfl) <| st (mv rfl) <| st (aD U35 S3 (isR rfl) rfl (by omega) (cA hlt)) <| st (ldI T3 (isR rfl)) <| st (eql rfl rfl) <| en fun a w e' hf=>?_
  replace e:=e.tr e'
  refine aa <| ifc hf rfl (fun hb=>?_) (fun hb=>?_)
  ·refine seq <| rgN 1 hf <| st (mv rfl) <| en fun a w e' hf=>?_
   replace e:=e.tr e'
   refine tA hf rfl fun a hf=>aa <| ai <| am rfl hf rfl ?_
   rintro _ rfl
   exact⟨_,rfl,e,congrArg I (fw hlt Ho hb).symm⟩
  ·refine ah <| rgN 1 hf <| st ((add rfl rfl (by omega)).eq (iN k)) <| en fun a w e' hf=>?_
   replace e:=e.tr e'
   refine tP hf (mv rfl) fun a w e' hf=>?_
   replace e:=e.tr e'
   refine aa ?_
   replace hf:=hf.keep [0,1,7,8]
   refine⟨_,?_,k+1,rfl,by omega,hf,e,?_⟩
   ·omega
   intro i hi
   by_cases hk:i=k
   ·subst hk;exact hb
   ·exact Ho i (by omega)
 ·obtain rfl:=dnE hc hk
  refine seq <| ab <| tA hf rfl fun a hf=>aa <| ai <| am rfl hf rfl ?_
  rintro _ rfl
  exact⟨_,rfl,e,congrArg I (eR Ho).symm⟩
theorem mr {G:Nat→Prop}(l:List Int)(x:Int)(v:Value)(W:World)(h:(Dv (slE intE) G l).p v W)(hl:l.length≤100000):Calls Tryz.prog 121 #[v,I x] W (Post (E (B (decide (x∈l)))) W):=by
 have hv:(Dv (slE intE) G0 l).p v W:=Dv.weak h fun b _ hb=>hb.elim
 refine eN [v,I x] [E v,E (I x)] Tryz.func121 Tryz.ntmps121 ?_ fun a hf=>?_
 rotate_left
 rotate_right
 ·exact arg2 rfl rfl
 have e:=Ext.rfl' W
 refine seq <| ab <| tA hf rfl fun a hf=>aa <| seq <| rgN 4 hf <| st (mv rfl) <| st (mv rfl) <| st (aw (A:=E (I (ixI l x))) (B:=E v) (C:=E (I x)) vO rfl rfl (fun u u' w he k1 k2=>by cases k1;cases k2;exact zN l x v w (vst he hv) hl)) ?_
 refine st ((geq rfl rfl).eq (congrArg Value.bool (zM l x))) <| en fun a w e' hf=>?_
 replace e:=e.tr e'
 refine tA hf rfl fun a hf=>aa <| ai <| am rfl hf rfl ?_
 rintro _ rfl
 exact⟨_,rfl,e,rfl⟩
theorem ru {G:Nat→Prop}(l:List Int)(v:Value)(W:World)(h:(Dv (slE intE) G l).p v W)(hl:l.length≤100000)(hne:l≠[]):Calls Tryz.prog 64 #[v] W (Post (OwA intE 3 W.heap.size G0 l) W):=by
 have HL:(Dv (slE intE) (GB W G0) l).p v W:=Dv.toB (Dv.weak h fun b _ hb=>hb.elim)
 obtain⟨ad,n,c,rfl⟩:=mp h hne
 have hG:∀b,G0 b→b<W.heap.size:=fun b hb=>hb.elim
 refine eN [.slice (some ad) n c] [E (.slice (some ad) n c)] Tryz.func64 Tryz.ntmps64 ?_ fun a hf=>?_
 rotate_left
 dsimp only[params,Nat.reduceAdd] at hf
 rotate_right
 ·exact arg1 rfl
 have e:=Ext.rfl' W
 refine seq <| ab <| tA hf rfl fun a hf=>aa ?_
 refine seq <| seq ?_
 refine rgN 2 hf <| st (mv rfl) <| st (un U35 rfl) <| en fun a w e' hf=>?_
 obtain⟨HL,e⟩:=up2 e' HL e
 refine aa <| ifF hf rfl ?_
 refine ah ?_
 replace hf:=hf.kp [0]
 refine seq <| ab <| kM W.heap.size G0 intE U35 S3 hf (by decide) e.size hG fun a v w e' hov Ho hf=>?_
 obtain⟨HL,e⟩:=up2 e' HL e
 refine tP hf (mv rfl) fun a w e' hf=>?_
 obtain⟨HL,e,Ho⟩:=up3 e' HL e Ho
 haveI hin:∀G0,InR (GB W G0) _:=OwR.inGB (W:=W) Ho (Nat.le_refl _)
 refine br U35 I3 rfl rfl hf (by decide) rfl Ho (isE rfl (Dv.weak HL fun b hb hh=>hh.elim (fun h=>h.elim) fun h=>.inr (Ho.lt h).1)) (by simp only[List.length_nil];omega) (by simp only[List.length_nil,maxLen];omega) fun a v w hg hat Hn hf=>?_
 replace e:=e.gro hg (Ho.row (W:=W) (Nat.le_refl _))
 replace HL:=Dv.gro HL hg (fun b hb=>.inr (Ho.lt hb).1)
 replace Ho:=Hn;clear Hn hg hat hin
 refine tA hf rfl fun a hf=>aa <| ai <| am rfl hf rfl ?_
 rintro _ rfl
 exact⟨_,rfl,e,Ho⟩
def CyA (G:Nat→Prop)(o:Option (List Nat)):VA:=⟨fun v w=>match o with
 | none=>v=.slice none 0 0
 | some out=>out≠[]∧(Dv (slE intE) G (ae out)).p v w,fun v w w' e h=>by
  cases o with
  | none=>exact h
  | some out=>exact⟨h.1,vst e h.2⟩⟩
def cyF (bn bl ba bv be:Nat):Value:=.func (.func 120) #[] #[ptr bn,ptr bl,ptr ba,ptr bv,ptr be]
structure CyE (G:Nat→Prop)(n a:Nat)(l:List (Int×BS))(S0:BS)(mq lv:Value)(N0 bn bl ba bv be:Nat)(w:World):Prop where
 t:Tab w
 hv:(Dv (mpE sKV N0) G l).p mq w
 hl:(Dv (slE aM) G (lvB (lkS l) a)).p lv w
 pn:Blk w bn #[I (n:Nat)] 3
 pl:Blk w bl (adC S0 mq) 79
 pa:Blk w ba #[I (a:Nat)] 3
 pv:Blk w bv #[lv] 83
 pe:Blk w be #[cyF bn bl ba bv be] 100
section
variable {G:Nat→Prop}{n a:Nat}{l:List (Int×BS)}{S0:BS}{mq lv:Value}{N0 bn bl ba bv be:Nat}{w w':World}
theorem CyE.ext (h:CyE G n a l S0 mq lv N0 bn bl ba bv be w)(e:Ext w w'):CyE G n a l S0 mq lv N0 bn bl ba bv be w':=
 ⟨h.t.ext e,Dv.ex h.hv e,Dv.ex h.hl e,h.pn.ext e,h.pl.ext e,h.pa.ext e,h.pv.ext e,h.pe.ext e⟩
instance:Ug w w' (CyE G n a l S0 mq lv N0 bn bl ba bv be w) (CyE G n a l S0 mq lv N0 bn bl ba bv be w'):=⟨fun e h=>h.ext e⟩
theorem CyE.ch {S:Nat→Prop}(h:CyE G n a l S0 mq lv N0 bn bl ba bv be w)(c:Chg S w w')(hS:∀b,S b→G b)(h0:¬S 0)(h1:¬S bn)(h2:¬S bl)(h3:¬S ba)(h4:¬S bv)(h5:¬S be):CyE G n a l S0 mq lv N0 bn bl ba bv be w':=
 ⟨h.t.ch c h0,Dv.ch h.hv c hS,Dv.ch h.hl c hS,h.pn.ch c h1,h.pl.ch c h2,h.pa.ch c h3,h.pv.ch c h4,h.pe.ch c h5⟩
theorem CyE.weak {G':Nat→Prop}(h:CyE G n a l S0 mq lv N0 bn bl ba bv be w)(hG:∀b,b<w.heap.size→G' b→G b):CyE G' n a l S0 mq lv N0 bn bl ba bv be w:=
 ⟨h.t,Dv.weak h.hv hG,Dv.weak h.hl hG,h.pn,h.pl,h.pa,h.pv,h.pe⟩
theorem CyE.low (h:CyE G n a l S0 mq lv N0 bn bl ba bv be w):bn<w.heap.size∧bl<w.heap.size∧ba<w.heap.size∧bv<w.heap.size∧be<w.heap.size∧0<w.heap.size:=⟨h.pn.lt,h.pl.lt,h.pa.lt,h.pv.lt,h.pe.lt,h.t.lt⟩
end
def exS (nb:Int→BS)(a n f:Nat)(way:List Nat)(next:Nat):Option (List Nat):=if way.contains next=true∨(n:Int) - way.length<bG (lvB nb a) next then none else cR nb a n f (way++[next])
theorem zO {nb:Int→BS}{a n f:Nat}{way:List Nat}(h:way.length≠n):cR nb a n (f+1) way=(aj (nb (way.getLastD 0:Nat))).findSome? (exS nb a n f way):=by
 rw[cR,if_neg h];rfl
theorem zP {nb:Int→BS}{a n f:Nat}{way:List Nat}(h:way.length=n):cR nb a n (f+1) way=if (nb (way.getLastD 0:Nat)).getLsbD a=true then some way else none:=by
 rw[cR,if_pos h]
theorem mt {way:List Nat}(h:way≠[]):(ae way)[way.length - 1]?=some ((way.getLastD 0:Nat):Int):=by
 have h1:way[way.length - 1]?=some (way.getLastD 0):=by
  rw[← List.getLast?_eq_getElem?,List.getLastD_eq_getLast?]
  cases h2:way.getLast? with
  | none=>rw[List.getLast?_eq_none_iff] at h2;exact absurd h2 h
  | some x=>rfl
 rw[ae,List.getElem?_map,h1];rfl
theorem bC (l:List Nat):(ae l).length=l.length:=by rw[ae,List.length_map]
theorem dh {x:Nat}{l:List Nat}:((x:Int)∈ae l)↔x∈l:=by
 rw[ae,List.mem_map]
 constructor
 ·rintro⟨y,hy,h⟩
  have:y=x:=by omega
  rwa [← this]
 ·intro h;exact⟨x,h,rfl⟩
theorem gw (l:List Nat)(x:Nat):ae (l++[x])=ae l++[(x:Int)]:=by rw[ae,ae,List.map_append];rfl
structure CyJ (W:World)(G:Nat→Prop)(n a:Nat)(l:List (Int×BS))(S0:BS)(mq lv v:Value)(N0 bn bl ba bv be b6 b7:Nat)(way:List Nat)(r:Value)(w:World):Prop where
 e:Ext W w
 c:CyE (GB W G0) n a l S0 mq lv N0 bn bl ba bv be w
 hw:(Dv (slE intE) (GB W G) (ae way)).p v w
 p6:Blk w b6 #[v] 35
 p7:Blk w b7 #[r] 35
theorem CyJ.kp {W:World}{G:Nat→Prop}{n a:Nat}{l:List (Int×BS)}{S0:BS}{mq lv v:Value}{N0 bn bl ba bv be b6 b7:Nat}{way:List Nat}{r:Value}{B:Nat}{w w':World}(h:CyJ W G n a l S0 mq lv v N0 bn bl ba bv be b6 b7 way r w)(k:Kp B w w')(hW:W.heap.size≤B)(h0:0<B)(hl:bn<B∧bl<B∧ba<B∧bv<B∧be<B)(l6:b6<B)(l7:b7<B) :
  CyJ W G n a l S0 mq lv v N0 bn bl ba bv be b6 b7 way r w':=
 have no:∀{b},b<B→¬aX B b:=fun h hh=>by have:=hh.1;omega
 have hH:∀b,aX B b→GB W G0 b:=fun b hb=>.inr (by have:=hb.1;omega)
 ⟨h.e.kp k hW,h.c.ch k.chg hH (no h0) (no hl.1) (no hl.2.1) (no hl.2.2.1) (no hl.2.2.2.1) (no hl.2.2.2.2),Dv.ch h.hw k.chg (fun b hb=>.inr (by have:=hb.1;omega)),h.p6.kp k (no l6),h.p7.kp k (no l7)⟩
theorem mu {nb:Int→BS}{a:Nat}(b:Nat):bG (lvB nb a) b≤1025:=by have h1:=rq (lvB nb a) b;have h2:=dZ nb a;omega
theorem zQ {n vo:Nat}{l:List (Int×BS)}{S0:BS}{mq lv:Value}{N0 bn bl ba bv be:Nat}(hn:n≤1500):∀(f:Nat) (way:List Nat) (v:Value) (G:Nat→Prop) (W:World),(∀b,G b→b<W.heap.size)→CyE G0 n vo l S0 mq lv N0 bn bl ba bv be W→(Dv (slE intE) G (ae way)).p v W→way≠[]→way.length≤n→n<f+way.length→(∀x∈way,x<1024) →
  Calls Tryz.prog 120 #[v,ptr bn,ptr bl,ptr ba,ptr bv,ptr be] W (Post (CyA G (cR (lkS l) vo n f way)) W):=by
 intro f
 induction f with
 | zero=>intro way v G W hG hC hw hne hle hlt;omega
 | succ f ih=>
  intro way v G W hG hC0 hw0 hne hle hlt hx
  have C:CyE (GB W G0) n vo l S0 mq lv N0 bn bl ba bv be W:=hC0.weak fun b hb hh=>hh.elim id fun h=>absurd hb (Nat.not_lt.2 h)
  have HW:(Dv (slE intE) (GB W G) (ae way)).p v W:=Dv.toB hw0
  have h1c:=nC (Dv.slOne hw0)
  have hlo:=hC0.low
  have hwl:1≤way.length:=by
   cases way with
   | nil=>exact absurd rfl hne
   | cons x r=>rw[List.length_cons];omega
  have hwn:=bC way
  obtain⟨last,hlast⟩:=eqX (way.getLastD 0)
  have hgl:=mt hne
  rw[← hlast] at hgl
  have hl1024:last<1024:=hx last (by rw[hlast];have h:=List.mem_of_getElem? hgl;rw[hlast] at h;exact dh.1 h)
  have hwlast:(Lit.int .i64 (last:Int)).wf=true:=bH (by omega) (by omega)
  refine cO (args:=[v,ptr bn,ptr bl,ptr ba,ptr bv,ptr be]) (As:=[E v,E (ptr bn),E (ptr bl),E (ptr ba),E (ptr bv),E (ptr be)]) Tryz.func120 rfl Tryz.ntmps120 (Nat.le_of_ble_eq_true rfl) ?_ (fun a hf=>?_) (Nat.le_of_ble_eq_true rfl)
  ·exact cM rfl (cM rfl (cM rfl (cM rfl (cM rfl (cM rfl oL)))))
  dsimp only[params,Nat.reduceAdd] at hf
  have e:=Ext.rfl' W
  refine seq <| ab <| tB hf rfl fun a b6 w v6 hv6 e' hb6 hs6 B6 hf=>?_
  obtain⟨C,HW,e⟩:=up3 e' C HW e
  refine tL I35 hf fun a b7 w e' hb7 hs7 B7 hf=>?_
  obtain⟨C,HW,e,B6⟩:=up4 e' C HW e B6
  refine aa ?_
  cases hv6
  rw[h1c] at B6
  replace B7:Blk w b7 #[.slice none 0 0] 35:=B7
  have n67:b6≠b7∧W.heap.size≤b6∧W.heap.size≤b7:=by omega
  replace hf:=hf.keep [1,2,3,4,5,6,7]
  refine seq <| rgN 6 hf <| st (ld1 (v:=v) T35 rfl B6 rfl) <| st (ld1 (v:=v) T35 rfl B6 rfl) <| st (aB U35 (isE rfl HW)) <| st (sub rfl rfl (by omega)) <| st (aD U35 S3 (isE rfl HW) rfl (by omega) (hgl)) <| st (ldI T3 (isR rfl)) <| en fun a w e' hf=>?_
  obtain⟨C,HW,e,B6,B7⟩:=up5 e' C HW e B6 B7
  refine tA hf rfl fun a hf=>aa ?_
  replace hf:=hf.keep [1,2,3,4,5,6,7,8]
  have hov:v.oneCell'=true:=Dv.slOne HW
  obtain⟨Nb,hNb⟩:=eqX (lkS l (last:Int))
  have hasb:∀b:Nat,has Nb (b:Int)=Nb.getLsbD b:=fun b=>by rw[Bool.eq_iff_iff];exact cQ Nb b
  by_cases hln:way.length=n
  ·have hb3:(((ae way).length:Nat):Int)==((n:Nat):Int):=by rw[hwn,hln];exact beq_self_eq_true _
   rw[zP hln,← hlast,← hNb]
   refine seq <| seq ?_
   refine rgN 4 hf <| st (ld1 (v:=v) T35 rfl B6 rfl) <| st (aB U35 (isE rfl HW)) <| st (ld1 (v:=I (n:Nat)) T3 rfl C.pn rfl) <| st ((eql rfl rfl).eq (congrArg Value.bool (hb3))) <| en fun a w e' hf=>?_
   obtain⟨C,HW,e,B6,B7⟩:=up5 e' C HW e B6 B7
   refine aa <| ifT hf rfl ?_
   replace hf:=hf.keep [1,2,3,4,5,6,7,8]
   refine seq <| seq ?_
   refine rgN 6 hf <| st (fA U79 rfl T77 rfl) <| st (ld1 (v:=mq) T77 rfl C.pl (bI _ _)) <| st (mv rfl) <| st (lkM (l:=l) (i:=(last:Int)) U77 bW (isE rfl C.hv) rfl hwlast) <| st (ld1 (v:=I (vo:Nat)) T3 rfl C.pa rfl) <| st (aw (A:=E (B (Nb.getLsbD vo))) (B:=E (ac (lkS l (last:Int)))) (C:=E (I (vo:Nat))) bZ rfl rfl (fun v u w he h h'=>by cases h;cases h';rw[← hNb,← hasb];exact dT _ _ w)) ?_
   refine en fun a w e' hf=>?_
   obtain⟨C,HW,e,B6,B7⟩:=up5 e' C HW e B6 B7
   refine aa ?_
   replace hf:=hf.kp [6,7,27]
   refine ifc hf rfl (fun hb=>?_) (fun hb=>?_)
   ·rw[if_pos hb]
    refine seq <| rgN 1 hf <| st (ld1 (v:=v) T35 rfl B6 rfl) <| en fun a w e' hf=>?_
    obtain⟨HW,e,B6,B7⟩:=up4 e' HW e B6 B7
    refine aI T35 hf rfl rfl hov B7 Nat.zero_lt_one fun w hg hsz B7 hf=>?_
    obtain⟨e,HW⟩:=gr2 hg e HW
    refine aa <| ai <| dI (D:=[]) rfl T35 hf rfl B7 (Ds.nil _) ⟨_,rfl,e,hne,Dv.weak HW fun b _ hb=>.inl hb⟩
   ·rw[if_neg (by rw[hb];decide)]
    refine ah ?_
    replace hf:=hf.kp [6,7]
    refine seq <| ab <| aI T35 hf rfl rfl rfl B7 Nat.zero_lt_one fun w hg hsz B7 hf=>?_
    replace e:=e.gr hg (by omega);clear hg
    refine aa <| ai <| dI (D:=[]) rfl T35 hf rfl B7 (Ds.nil _) ⟨_,rfl,e,rfl⟩
  ·have hb3:((((ae way).length:Nat):Int)==((n:Nat):Int))=false:=by rw[hwn];exact beq_eq_false_iff_ne.2 (by omega)
   rw[zO hln,← hlast,← hNb]
   refine seq <| seq ?_
   refine rgN 4 hf <| st (ld1 (v:=v) T35 rfl B6 rfl) <| st (aB U35 (isE rfl HW)) <| st (ld1 (v:=I (n:Nat)) T3 rfl C.pn rfl) <| st ((eql rfl rfl).eq (congrArg Value.bool (hb3))) <| en fun a w e' hf=>?_
   obtain⟨C,HW,e,B6,B7⟩:=up5 e' C HW e B6 B7
   refine aa <| ifF hf rfl ?_
   refine ah ?_
   replace hf:=hf.keep [1,2,3,4,5,6,7,8]
   obtain⟨Nz,hNz⟩:=eqX w.heap.size
   have hTw:=C.t
   refine seq <| seq ?_
   refine rgN 5 hf <| st (fA U79 rfl T77 rfl) <| st (ld1 (v:=mq) T77 rfl C.pl (bI _ _)) <| st (mv rfl) <| st (lkM (l:=l) (i:=(last:Int)) U77 bW (isE rfl C.hv) rfl hwlast) <| st (ak (A:=cN Nz Nb) (B:=E (ac (lkS l (last:Int)))) cV rfl (fun v w' he h=>by cases h;rw[hNb];exact Calls.mono (cZ _ w') (fun en w2 ⟨u,h1,h2,b',h3,h4,h5⟩=>⟨u,h1,h2,b',by have:=he.size;omega,h4,h5⟩))) ?_
   refine en fun a w e' hf=>?_
   obtain⟨C,HW,e,B6,B7⟩:=up5 e' C HW e B6 B7
   refine aa ?_
   obtain⟨vv,⟨b33,h33,rfl,BS⟩,hf⟩:=hf.fix 33 rfl
   replace hf:=hf.kp [1,2,3,4,5,6,7,33]
   obtain⟨nb,hnb⟩:=eqX (lkS l)
   rw[← hnb]
   have hlo2:bn<w.heap.size∧bl<w.heap.size∧ba<w.heap.size∧bv<w.heap.size∧be<w.heap.size:=by have:=e.size;omega
   have hBW:W.heap.size≤w.heap.size:=e.size
   have h0w:0<w.heap.size:=C.t.lt
   have l6:=B6.lt
   have l7:=B7.lt
   refine blk <| db (S:=Nb) hf rfl BS (by decide) (fun s w1=>CyJ W G n vo l S0 mq lv v N0 bn bl ba bv be b6 b7 way (.slice none 0 0) w1∧∀y∈s,exS nb vo n f way y=none)
    (fun ex w1=>ex=.ret∧∃r out,CyJ W G n vo l S0 mq lv v N0 bn bl ba bv be b6 b7 way r w1∧(aj Nb).findSome? (exS nb vo n f way)=some out∧out≠[]∧(Dv (slE intE) (fun b=>b<w.heap.size+3) (ae out)).p r w1) (fun s w1 h=>h.1.c.t)
    ⟨⟨e,C,HW,B6,B7⟩,fun y hy=>by cases hy⟩ (fun s w1 w2 h hs k=>⟨h.1.kp k hBW h0w hlo2 l6 l7,h.2⟩)
    (fun ex w1 w2 ⟨q1,r,out,q2,q3,q4,q5⟩ hs k=>⟨q1,r,out,q2.kp k hBW h0w hlo2 l6 l7,q3,q4,Dv.ch q5 k.chg fun b hb=>hb.2⟩) ?_ ?_ ?_
   ·intro lp s x rest a1 w1 hs hJ hlw hf
    have hxN:Nb.getLsbD x=true:=(aL.1 (by rw[hs];simp)).2
    have hx1024:x<1024:=aK hxN
    generalize hBz:w.heap.size=Bz at *
    refine ab <| tA hf rfl fun a hf=>aa <| ⟨Kh.rfl' _ _,fun w3 k3 hsz3=>?_⟩
    have hJ3:=hJ.1.kp k3 hBW h0w hlo2 l6 l7
    have hJs:=hJ.2
    have hw3:Bz+3≤w3.heap.size:=by omega
    replace hf:=hf.pure w3
    obtain⟨e,C,HW,B6,B7⟩:=hJ3
    have kh:=Kh.rfl' Bz w3
    replace hf:=hf.kp [1,2,3,4,5,6,7,9]
    refine blk ?_
    have hd2:bG (lvB nb vo) x≤1025:=mu x
    have hd1 : -1≤bG (lvB nb vo) x:=iB _ _
    obtain⟨d,hd⟩:=eqX (bG (lvB nb vo) x)
    have hex:exS nb vo n f way x=if way.contains x=true∨(n:Int) - way.length<d then none else cR nb vo n f (way++[x]):=by rw[exS,hd]
    rw[← hd] at hd1 hd2
    refine seq <| seq ?_
    refine rgN 3 hf <| st (ld1 (v:=lv) T83 rfl C.pv rfl) <| st (mv rfl) <| st (aw (A:=E (I d)) (B:=E lv) (C:=E (I (x:Nat))) jh rfl rfl (fun a b w he k1 k2=>by cases k1;cases k2;rw[hd,hnb];exact jR _ x lv w (Dv.ex C.hl he) (Nat.le_trans (dZ _ _) (by decide)))) ?_
    refine en fun a w e' hf=>?_
    obtain⟨C,HW⟩:=up2 e' C HW
    replace kh:=kh.tr (Kh.ext e')
    obtain⟨hw3,e,B6,B7⟩:=up4 e' hw3 e B6 B7
    refine tA hf rfl fun a hf=>aa ?_
    replace hf:=hf.kp [1,2,3,4,5,6,7,9,10]
    have fin:∀{w2:World},exS nb vo n f way x=none→Ext W w2→CyE (GB W G0) n vo l S0 mq lv N0 bn bl ba bv be w2→(Dv (slE intE) (GB W G) (ae way)).p v w2→Blk w2 b6 #[v] 35→Blk w2 b7 #[.slice none 0 0] 35→Kh Bz w3 w2 →
      (CyJ W G n vo l S0 mq lv v N0 bn bl ba bv be b6 b7 way (.slice none 0 0) w2∧∀y∈s++[x],exS nb vo n f way y=none)∧Kh Bz w3 w2:=fun {w2} h0 h1 h2 h3 h4 h5 h6=>⟨⟨⟨h1,h2,h3,h4,h5⟩,fun y hy=>by
     rcases List.mem_append.1 hy with hy|hy
     ·exact hJs y hy
     ·rw[List.mem_singleton.1 hy];exact h0⟩,h6⟩
    by_cases hcon:x∈way
    ·rw[if_pos (.inl (List.contains_iff_mem.2 hcon))] at hex
     refine seq <| rgN 11 hf <| st (ld1 (v:=v) T35 rfl B6 rfl) <| st (mv rfl) <| st (aw (A:=E (B true)) (B:=E v) (C:=E (I (x:Nat))) lh rfl rfl (fun a b w he k1 k2=>by cases k1;cases k2;have h:=mr (ae way) (x:Int) v w (Dv.ex HW he) (by omega);rwa [decide_eq_true (dh.2 hcon)] at h)) ?_
     refine st (mv rfl) <| sn rfl rfl rfl <| sn rfl rfl rfl <| sn rfl rfl rfl <| sn rfl rfl rfl <| sn rfl rfl rfl <| sn rfl rfl rfl <| st (pkT rfl rfl) <| en fun a w e' hf=>?_
     obtain⟨C,HW⟩:=up2 e' C HW
     replace kh:=kh.tr (Kh.ext e')
     obtain⟨hw3,e,B6,B7⟩:=up4 e' hw3 e B6 B7
     refine aa <| ifT hf rfl ?_
     refine aC <| fin hex e C HW B6 B7 kh
    ·by_cases hfar:(n:Int) - way.length<d
     ·rw[if_pos (.inr hfar)] at hex
      refine seq <| rgN 11 hf <| st (ld1 (v:=v) T35 rfl B6 rfl) <| st (mv rfl) <| st (aw (A:=E (B false)) (B:=E v) (C:=E (I (x:Nat))) lh rfl rfl (fun a b w he k1 k2=>by cases k1;cases k2;have h:=mr (ae way) (x:Int) v w (Dv.ex HW he) (by omega);rwa [decide_eq_false (fun h=>hcon (dh.1 h))] at h)) ?_
      refine st (mv rfl) <| sy rfl rfl (mv rfl) <| sy rfl rfl (ld1 (v:=I (n:Nat)) T3 rfl C.pn rfl) <| sy rfl rfl (ld1 (v:=v) T35 rfl B6 rfl) <| sy rfl rfl (aB U35 (isE rfl HW)) <| sy rfl rfl (sub rfl rfl (by omega)) <| sy rfl rfl ((gtr rfl rfl).eq (congrArg Value.bool (decide_eq_true (show (n:Int) - ((ae way).length:Nat)<d by rw[hwn];exact hfar)))) ?_
      refine st (pkF rfl rfl) <| en fun a w e' hf=>?_
      obtain⟨C,HW⟩:=up2 e' C HW
      replace kh:=kh.tr (Kh.ext e')
      obtain⟨hw3,e,B6,B7⟩:=up4 e' hw3 e B6 B7
      refine aa <| ifT hf rfl ?_
      refine aC <| fin hex e C HW B6 B7 kh
     ·rw[if_neg (fun h=>h.elim (fun h=>hcon (List.contains_iff_mem.1 h)) hfar)] at hex
      refine seq <| rgN 11 hf <| st (ld1 (v:=v) T35 rfl B6 rfl) <| st (mv rfl) <| st (aw (A:=E (B false)) (B:=E v) (C:=E (I (x:Nat))) lh rfl rfl (fun a b w he k1 k2=>by cases k1;cases k2;have h:=mr (ae way) (x:Int) v w (Dv.ex HW he) (by omega);rwa [decide_eq_false (fun h=>hcon (dh.1 h))] at h)) ?_
      refine st (mv rfl) <| sy rfl rfl (mv rfl) <| sy rfl rfl (ld1 (v:=I (n:Nat)) T3 rfl C.pn rfl) <| sy rfl rfl (ld1 (v:=v) T35 rfl B6 rfl) <| sy rfl rfl (aB U35 (isE rfl HW)) <| sy rfl rfl (sub rfl rfl (by omega)) <| sy rfl rfl ((gtr rfl rfl).eq (congrArg Value.bool (decide_eq_false (show ¬(n:Int) - ((ae way).length:Nat)<d by rw[hwn];exact hfar)))) ?_
      refine st (pkF rfl rfl) <| en fun a w e' hf=>?_
      obtain⟨C,HW⟩:=up2 e' C HW
      replace kh:=kh.tr (Kh.ext e')
      obtain⟨hw3,e,B6,B7⟩:=up4 e' hw3 e B6 B7
      refine aa <| ifF hf rfl ?_
      refine ah ?_
      replace hf:=hf.kp [1,2,3,4,5,6,7,9]
      obtain⟨N1,hN1⟩:=eqX w.heap.size
      have hN1s:N1≤w.heap.size:=Nat.le_of_eq hN1
      have hN1b:Bz+3≤N1:=by rw[hN1];exact hw3
      have hsub:∀b,N1≤b→GB W G0 b:=fun b hb=>.inr (by omega)
      have hwn1:(ae way).length+1≤2000:=by omega
      have hne1:ae way≠[]:=fun h=>by rw[h] at hwn;simp at hwn;omega
      refine seq <| cF 7 [1,0,0,0,0] (Chg (fun b=>N1≤b)) (bS.chg _) (fun w=>True) (fun w w1 k h=>trivial) Mix.mix hf (by decide +kernel) (by decide +kernel) <| jf (fun w1 h1=>ld1 (v:=cyF bn bl ba bv be) kR rfl (C.pe.ch h1 (by omega)) rfl) <| ja (ld1 (v:=v) T35 rfl B6 rfl) <| ja (ak (A:=OwA intE 3 N1 G0 (ae way)) (B:=E v) ou rfl (fun u w he k=>by cases k;exact (ru (ae way) v w (Dv.ex HW he) (by omega) hne1).mono fun en w' ⟨u,k1,k2,k3⟩=>⟨u,k1,k2,OwR.low k3 (Nat.le_trans hN1s he.size) fun b hb=>hb.elim⟩)) ?_
      refine ja (mv rfl) <| ja (aW (e:=intE) (G:=G0) U35 I3 rfl (by decide) rfl (fun b hb=>hb.elim) (isI rfl)) <| jx (lE (G':=G0) U35 I3 rfl rfl rfl (isR rfl) (by simp only[List.length_singleton];omega) (by simp only[List.length_singleton,maxLen];omega) (fun _ _ _ _=>trivial) (fun _ _=>trivial)) ?_
      refine jp (fun w1 h1 HF1=>gR (A:=CyA (fun b=>b<N1) (cR nb vo n f (way++[x]))) (B:=OwA intE 3 N1 G0 (ae way++[(x:Int)])) oE rfl rfl (fun u w he k=>by rw[hnb];exact ih (way++[x]) u (fun b=>b<N1) w (fun b hb=>by have:=h1.size;have:=he.size;omega) (((C.ch h1 hsub (by omega) (by omega) (by omega) (by omega) (by omega) (by omega)).ext he).weak fun b _ hb=>hb.elim) (by rw[gw];exact OwR.slN k fun b hb hh=>by have:=(OwR.lt k hb).1;omega) (by simp) (by rw[List.length_append,List.length_singleton];omega) (by rw[List.length_append,List.length_singleton];omega) (fun y hy=>(List.mem_append.1 hy).elim (hx y) fun h=>by rw[List.mem_singleton.1 h];exact hx1024))) ?_
      refine je <| fun a w hc HF hf=>?_
      try dsimp only[push] at hf
      have e':Ext _ w:=⟨hc.os,hc.tape,hc.output,hc.size,fun b hb=>hc.block b hb (by omega)⟩
      replace e:=e.tr e';replace C:=C.ext e';replace HW:=Dv.ex HW e';replace B6:=B6.ext e';replace B7:=B7.ext e';replace kh:=kh.tr (Kh.ext e');replace hw3:=Nat.le_trans hw3 e'.size
      refine tA hf rfl fun a hf=>aa ?_
      obtain⟨r,hr,hf⟩:=hf.opn 11 rfl
      replace hf:=hf.kp [1,2,3,4,5,6,7,9,11]
      obtain⟨o,ho⟩:=eqX (cR nb vo n f (way++[x]))
      rw[← ho] at hr hex
      cases o with
      | none=>
       obtain rfl:r=.slice none 0 0:=hr
       refine seq <| rgN 2 hf <| st (mv rfl) <| st (jT U35 rfl) <| en fun a w e' hf=>?_
       obtain⟨C,HW⟩:=up2 e' C HW
       replace kh:=kh.tr (Kh.ext e')
       obtain⟨e,B6,B7⟩:=up3 e' e B6 B7
       refine aa <| ifF hf rfl ?_
       refine ah <| fin hex e C HW B6 B7 kh
      | some out=>
       obtain⟨hr1,hr2⟩:=hr
       have hro:r.oneCell'=true:=Dv.slOne hr2
       have hne2:ae out≠[]:=fun h=>hr1 (by rw[ae] at h;exact List.map_eq_nil_iff.1 h)
       obtain⟨ad,n',c',hre⟩:=mp hr2 hne2
       have HR:(Dv (slE intE) (fun b=>b<Bz+3) (ae out)).p r w:=Dv.weak hr2 fun b _ hb=>by omega
       subst hre
       refine seq <| rgN 2 hf <| st (mv rfl) <| st (jT U35 rfl) <| en fun a w e' hf=>?_
       obtain⟨C,HW⟩:=up2 e' C HW
       replace kh:=kh.tr (Kh.ext e')
       obtain⟨HR,e,B6,B7⟩:=up4 e' HR e B6 B7
       refine aa <| ifT hf rfl ?_
       refine seq <| rgN 1 hf <| st (mv rfl) <| en fun a w e' hf=>?_
       obtain⟨C,HW⟩:=up2 e' C HW
       replace kh:=kh.tr (Kh.ext e')
       obtain⟨HR,e,B6,B7⟩:=up4 e' HR e B6 B7
       refine aI T35 hf rfl rfl hro B7 Nat.zero_lt_one fun w hg hsz B7 hf=>?_
       have hch:=(Chg.rfl' (fun b=>b=b7) _).gr hg (.inl rfl)
       replace e:=e.gr hg (by omega)
       replace C:=C.ch hch (fun b hb=>.inr (by omega)) (by omega) (by omega) (by omega) (by omega) (by omega) (by omega)
       obtain⟨HW,B6⟩:=gr2 hg HW B6
       replace HR:=Dv.gr HR hg (by omega)
       replace kh:=kh.tr (Kh.gr hg (fun hh=>by have:=hh.1;omega))
       refine aa <| ai ?_
       have hfs:(aj Nb).findSome? (exS nb vo n f way)=some out:=by
        rw[hs,List.findSome?_append,List.findSome?_eq_none_iff.2 hJs,List.findSome?_cons,hex];rfl
       exact⟨⟨rfl,_,out,⟨e,C,HW,B6,B7⟩,hfs,hr1,HR⟩,kh⟩
   ·intro a' w' hf' hJ hsz hDn
    simp only[Exit.inBlock,↓reduceIte,Exit.then]
    have hfs:(aj Nb).findSome? (exS nb vo n f way)=none:=List.findSome?_eq_none_iff.2 hJ.2
    rw[hfs]
    have hD:Ds [w.heap.size] w':=(Ds.nil w').cons hDn (by simp)
    have hf:FrD 59 (bL [w.heap.size]) a' w' [(7,E (ptr b7))]:=hf'.keep [7]
    have hDW:∀d∈[w.heap.size],W.heap.size≤d:=fun d hd=>by rw[List.mem_singleton] at hd;omega
    obtain⟨e,C,HW,B6,B7⟩:=hJ.1
    have hb7:=hD.ne B7
    generalize [w.heap.size]=D2 at *
    generalize w'=w at *
    refine seq <| ab <| aI T35 hf rfl rfl rfl B7 Nat.zero_lt_one fun w hg hsz B7 hf=>?_
    replace e:=e.gr hg (by omega)
    replace hD:=hD.gr hg hb7
    refine aa <| ai <| dI rfl T35 hf rfl B7 hD ⟨_,rfl,e.shut hDW,rfl⟩
   ·intro ex c a' w' hcd hf' hX hsz hDn
    obtain⟨rfl,r,out,hJ,hfs,hr1,HR⟩:=hX
    simp only[Exit.inBlock,↓reduceIte,Exit.then]
    rw[hfs]
    have hD:Ds [w.heap.size] w':=(Ds.nil w').cons hDn (by simp)
    have hf:FrD 59 (bL [w.heap.size]) a' w' [(7,E (ptr b7))]:=hf'.keep [7]
    have hDW:∀d∈[w.heap.size],W.heap.size≤d:=fun d hd=>by rw[List.mem_singleton] at hd;omega
    refine dI rfl T35 hf rfl hJ.p7 hD ⟨_,rfl,hJ.e.shut hDW,hr1,?_⟩
    exact Dv.weak (Dv.ch HR (dU _ _) fun b hb=>by rw[List.mem_singleton] at hb;show b<_;omega) fun b _ hb=>by have:=hG b hb;show b<_;omega
theorem zR {G:Nat→Prop}{N0:Nat}(l:List (Int×BS))(S0:BS)(mq:Value)(vo n:Nat)(W:World)(hT:Tab W)(h:(Dv (mpE sKV N0) G l).p mq W)(hvo:vo<1024)(hn1:1≤n)(hn:n≤1500) :
  Calls Tryz.prog 85 #[.agg (adC S0 mq),I (vo:Nat),I (n:Nat)] W (Post (CyA (fun b=>b<W.heap.size) (cR (lkS l) vo n n [vo])) W):=by
 have HV:(Dv (mpE sKV N0) (GB W G0) l).p mq W:=Dv.toB (Dv.weak h fun b _ hb=>hb.elim)
 have hT0:=hT.lt
 refine eN [.agg (adC S0 mq),I (vo:Nat),I (n:Nat)] [E (.agg (adC S0 mq)),E (I (vo:Nat)),E (I (n:Nat))] Tryz.func85 Tryz.ntmps85 ?_ fun a hf=>?_
 rotate_left
 rotate_right
 ·exact dH rfl rfl rfl
 have e:=Ext.rfl' W
 refine seq <| ab <| tB hf rfl fun a b3 w v3 hv3 e' hb3 hs3 B3 hf=>?_
 obtain⟨hT,HV,e⟩:=up3 e' hT HV e
 refine tB hf rfl fun a b4 w v4 hv4 e' hb4 hs4 B4 hf=>?_
 obtain⟨hT,HV,e,B3⟩:=up4 e' hT HV e B3
 refine tB hf rfl fun a b5 w v5 hv5 e' hb5 hs5 B5 hf=>?_
 obtain⟨hT,HV,e,B3,B4⟩:=up5 e' hT HV e B3 B4
 refine tA hf rfl fun a hf=>aa ?_
 cases hv3
 cases hv4
 cases hv5
 replace B3:Blk w b3 (adC S0 mq) 79:=B3
 replace B4:Blk w b4 #[I (vo:Nat)] 3:=B4
 replace B5:Blk w b5 #[I (n:Nat)] 3:=B5
 have n5:b3≠b4∧b3≠b5∧b4≠b5∧W.heap.size≤b3∧W.heap.size≤b4∧W.heap.size≤b5:=by omega
 replace hf:=hf.keep [3,4,5]
 obtain⟨lv0,hlv0⟩:=eqX (lvB (lkS l) vo)
 obtain⟨N1,hN1⟩:=eqX w.heap.size
 have hN1s:N1≤w.heap.size:=Nat.le_of_eq hN1
 have hl5:b3<N1∧b4<N1∧b5<N1:=by have:=B3.lt;have:=B4.lt;have:=B5.lt;omega
 refine seq <| rgN 3 hf <| st (ldW T79 rfl B3 (aH _ _)) <| st (ld1 (v:=I (vo:Nat)) T3 rfl B4 rfl) <| st (aw (A:=OwA aM 76 N1 G0 lv0) (B:=E (.agg (adC S0 mq))) (C:=E (I (vo:Nat))) eO rfl rfl (fun v u w he k1 k2=>by cases k1;cases k2;exact (fa l S0 mq vo w (hT.ext he) (Dv.ex HV he) hvo).mono fun en w' ⟨u,k1,k2,k3⟩=>⟨u,k1,k2,by rw[hlv0];exact OwR.low k3 (Nat.le_trans hN1s he.size) fun b hb=>hb.elim⟩)) ?_
 refine en fun a w e' hf=>?_
 obtain⟨hT,HV,e,B3,B4,B5⟩:=up6 e' hT HV e B3 B4 B5
 obtain⟨lv,Hr,hf⟩:=hf.opn 11 rfl
 replace Hr:OwR aM 76 N1 G0 w lv0 lv:=Hr
 obtain⟨N2,hN2⟩:=eqX w.heap.size
 have hN2s:N2≤w.heap.size:=Nat.le_of_eq hN2
 have hl5':b3<N2∧b4<N2∧b5<N2:=by have:=B3.lt;have:=B4.lt;have:=B5.lt;omega
 have HL:(Dv (slE aM) (fun b=>N2≤b) lv0).p lv w:=Hr.slN fun b hb hh=>by have:=(Hr.lt hb).2;omega
 have hlo:lv.oneCell'=true:=Hr.one
 have hWN2:W.heap.size≤N2:=by rw[hN2];exact e.size
 replace hf:=hf.kp [3,4,5,11]
 refine tL I83 hf fun a b7 w e' hb7 hs7 B7 hf=>?_
 have hle7:=Nat.le_trans e.size (Nat.le_of_eq hb7.symm)
 have lo7_hN2s:=Nat.le_trans hN2s (Nat.le_of_eq hb7.symm)
 obtain⟨hT,HV,HL,hN2s,e,B3,B4,B5⟩:=up8 e' hT HV HL hN2s e B3 B4 B5
 have n7:N2≤b7:=lo7_hN2s
 refine aI T83 hf rfl rfl hlo B7 Nat.zero_lt_one fun w hg hsz B7 hf=>?_
 replace e:=e.gr hg (by omega);replace hT:=hT.gr hg (by omega);replace HV:=Dv.gr HV hg (.inr (by omega));replace HL:=Dv.gr HL hg n7;replace B3:=B3.gr hg (by omega);replace B4:=B4.gr hg (by omega);replace B5:=B5.gr hg (by omega);replace hN2s:=Nat.le_trans hN2s hg.size;clear hg
 refine aa ?_
 replace B7:Blk w b7 #[lv] 83:=B7
 replace hf:=hf.keep [3,4,5,7]
 refine seq <| ab <| tL uC hf fun a b8 w e' hb8 hs8 B8 hf=>?_
 have lo8_hN2s:=Nat.le_trans hN2s (Nat.le_of_eq hb8.symm)
 have lt8_B3:=B3.lt
 obtain⟨hT,HV,HL,hN2s,e,B3,B4,B5,B7⟩:=up9 e' hT HV HL hN2s e B3 B4 B5 B7
 refine aa ?_
 have n8:N2≤b8∧b7≠b8:=⟨lo8_hN2s,by omega⟩
 replace hf:=hf.kp [3,4,5,7,8]
 refine seq <| rgN 1 hf <| st (ut rfl rfl rfl rfl rfl) <| en fun a w e' hf=>?_
 replace hT:=hT.ext e'
 replace HV:=Dv.ex HV e'
 replace HL:=Dv.ex HL e'
 replace hN2s:=Nat.le_trans hN2s e'.size
 replace e:=e.tr e'
 replace B3:=B3.ext e'
 replace B4:=B4.ext e'
 replace B5:=B5.ext e'
 replace B7:=B7.ext e'
 replace B8:=B8.ext e'
 refine aI kR hf rfl rfl rfl B8 Nat.zero_lt_one fun w hg hsz B8 hf=>?_
 obtain⟨e,hT,HV,B3,B4,B5,B7⟩:=gr7 hg e hT HV B3 B4 B5 B7
 replace HL:=Dv.gr HL hg n8.1
 refine aa ?_
 replace B8:Blk w b8 #[cyF b5 b3 b4 b7 b8] 100:=B8
 have C:CyE G0 n vo l S0 mq lv N0 b5 b3 b4 b7 b8 w:=⟨hT,Dv.weak HV fun b _ hb=>hb.elim,by rw[← hlv0];exact Dv.weak HL fun b _ hb=>hb.elim,B5,B3,B4,B7,B8⟩
 replace hf:=hf.keep [3,4,5,7,8]
 have e4:=e
 refine seq <| rgN 4 hf <| st (ld1 (v:=cyF b5 b3 b4 b7 b8) kR rfl B8 rfl) <| st (ld1 (v:=I (vo:Nat)) T3 rfl B4 rfl) <| st (aW (e:=intE) (G:=fun b=>b<W.heap.size) U35 I3 rfl (by decide) rfl (fun b hb=>Nat.lt_of_lt_of_le hb e4.size) (isI rfl)) <| st (gR (A:=CyA (fun b=>b<W.heap.size) (cR (lkS l) vo n n [vo])) (B:=Dv (slE intE) (fun b=>b<W.heap.size) [(vo:Int)]) oE rfl rfl (fun u w he k=>zQ hn n [vo] u (fun b=>b<W.heap.size) w (fun b hb=>Nat.lt_of_lt_of_le hb (e4.tr he).size) (C.ext he) k (by simp) (by simp;omega) (by simp) (fun y hy=>by rw[List.mem_singleton.1 hy];exact hvo))) ?_
 refine en fun a w e' hf=>?_
 obtain⟨C,e,B4,B8⟩:=up4 e' C e B4 B8
 refine tA hf rfl fun a hf=>aa <| ai <| am rfl hf rfl ?_
 intro v hv
 exact⟨_,rfl,e,hv⟩
def scL (nb:Int→BS)(V:BS)(n:Nat):List Nat→BS→Option (List Nat)
 | [],_=>none
 | x::r,left=>match cR (ew nb (V &&& left)) x n n [x] with
  | some o=>some o
  | none=>scL nb V n r (del left (x:Int))
def dy (S:BS)(s:List Nat):BS:=s.foldl (fun (S:BS) (x:Nat)=>del S (x:Int)) S
theorem ry (S:BS)(s:List Nat)(x:Nat):dy S (s++[x])=del (dy S s) (x:Int):=by rw[dy,List.foldl_append,List.foldl_cons,List.foldl_nil,dy]
def iF (nb:Int→BS)(V:BS)(es:List (Nat×Nat)):Option (List Nat):=if cd nb es=0 then none else scL nb V (cd nb es).toNat (aj V) V
structure ScJ (W:World)(nm bm:Nat)(l:List (Int×BS))(V:BS)(b2 b3 b4 b5 n:Nat)(r:Value)(left:BS)(w:World):Prop where
 e:Ext W w
 t:Tab w
 m:MpR sKV w bm nm l
 p2:Blk w b2 #[r] 35
 p3:Blk w b3 (adC V (.map (some bm))) 79
 p4:Blk w b4 #[I (n:Nat)] 3
 p5:Blk w b5 (aJ left) 76
theorem ScJ.kp {W:World}{nm bm:Nat}{l:List (Int×BS)}{V:BS}{b2 b3 b4 b5 n:Nat}{r:Value}{left:BS}{B:Nat}{w w':World}(h:ScJ W nm bm l V b2 b3 b4 b5 n r left w)(k:Kp B w w')(hW:W.heap.size≤B)(h0:0<B)(l2:b2<B)(l3:b3<B)(l4:b4<B)(l5:b5<B)(lm:bm<B) :
  ScJ W nm bm l V b2 b3 b4 b5 n r left w':=
 have no:∀{b},b<B→¬aX B b:=fun h hh=>by have:=hh.1;omega
 ⟨h.e.kp k hW,h.t.kp k h0,h.m.pres (k.same bm h.m.lt (no lm)),h.p2.kp k (no l2),h.p3.kp k (no l3),h.p4.kp k (no l4),h.p5.kp k (no l5)⟩
def esN (g:GT):List (Nat×Nat):=g.2.map fun x=>(x.1.1.toNat,x.1.2.toNat)
theorem gy {g:GT}(ok:Gr.Ok g):∀x∈g.2,∃u v:Nat,x.1=((u:Int),(v:Int))∧u<v∧(vset g.1).getLsbD u=true∧(vset g.1).getLsbD v=true:=fun x hx=>by
 obtain⟨q1,q2,q3,_⟩:=ok.re x hx
 have h2:=q2
 have h3:=q3
 rw[inV,List.any_eq_true] at h2 h3
 obtain⟨y,hy,e1⟩:=h2
 obtain⟨z,hz,e2⟩:=h3
 have r1:=gn (ok.rv y hy).1
 have r2:=gn (ok.rv z hz).1
 rw[of_decide_eq_true e1] at r1
 rw[of_decide_eq_true e2] at r2
 obtain⟨⟨p,q⟩,c⟩:=x
 dsimp only at q1 q2 q3 r1 r2 ⊢
 obtain⟨u,rfl⟩:∃u:Nat,p=u:=⟨p.toNat,by omega⟩
 obtain⟨v,rfl⟩:∃v:Nat,q=v:=⟨q.toNat,by omega⟩
 exact⟨u,v,rfl,by omega,(gq ok).2 q2,(gq ok).2 q3⟩
theorem mw {g:GT}(ok:Gr.Ok g):g.2.map (·.1)=(esN g).map toI:=by
 rw[esN,List.map_map]
 refine List.map_congr_left fun x hx=>?_
 obtain⟨u,v,he,_⟩:=gy ok x hx
 rw[he,Function.comp,he];rfl
theorem gz {g:GT}(ok:Gr.Ok g):∀e∈esN g,e.1<e.2∧(vset g.1).getLsbD e.1=true∧(vset g.1).getLsbD e.2=true:=fun e he=>by
 obtain⟨x,hx,rfl⟩:=List.mem_map.1 he
 obtain⟨u,v,he,h1,h2,h3⟩:=gy ok x hx
 rw[he];exact⟨h1,h2,h3⟩
theorem my {g:GT}(ok:Gr.Ok g)(i j:Nat):Adj g i j↔(i,j)∈esN g∨(j,i)∈esN g:=by
 constructor
 ·rintro⟨x,hx,h|h⟩
  ·exact .inl (List.mem_map.2 ⟨x,hx,by rw[h];rfl⟩)
  ·exact .inr (List.mem_map.2 ⟨x,hx,by rw[h];rfl⟩)
 ·rintro (h|h)
  ·obtain⟨x,hx,he⟩:=List.mem_map.1 h
   obtain⟨u,v,h1,_⟩:=gy ok x hx
   rw[h1] at he
   have:u=i∧v=j:=by simpa using he
   exact⟨x,hx,.inl (by rw[h1,this.1,this.2])⟩
  ·obtain⟨x,hx,he⟩:=List.mem_map.1 h
   obtain⟨u,v,h1,_⟩:=gy ok x hx
   rw[h1] at he
   have:u=j∧v=i:=by simpa using he
   exact⟨x,hx,.inr (by rw[h1,this.1,this.2])⟩
theorem zS (nb:Int→BS)(b:Int)(e:Nat×Nat)(h:0≤b)(h':b≤1026):0≤gst nb b e∧gst nb b e≤1026:=by
 have h1:=iB (lvB (wo nb e.1 e.2) e.1) e.2
 have h2:=mu (nb:=wo nb e.1 e.2) (a:=e.1) e.2
 rw[gst]
 split <;> omega
theorem zT (nb:Int→BS)(es:List (Nat×Nat)):0≤cd nb es∧cd nb es≤1026:=by
 have key:∀k,k≤es.length→0≤cd nb (es.take k)∧cd nb (es.take k)≤1026:=by
  intro k
  induction k with
  | zero=>intro _;rw[List.take_zero,cd,List.foldl_nil];decide
  | succ k ih=>
   intro hk
   have h1:=ih (by omega)
   have h2:es.take (k+1)=es.take k++[es[k]]:=bs (List.getElem?_eq_getElem (by omega))
   rw[h2,rs]
   exact zS nb _ _ h1.1 h1.2
 have:=key es.length (Nat.le_refl _)
 rwa [List.take_length] at this
theorem zU {G G':Nat→Prop}{o:Option (List Nat)}{v:Value}{w:World}(hG:∀b,G' b→G b)(h:(CyA G o).p v w):(CyA G' o).p v w:=by
 cases o with
 | none=>exact h
 | some out=>exact⟨h.1,Dv.weak h.2 fun b _ hb=>hG b hb⟩
theorem rz {G:Nat→Prop}{N:Nat}(g:GT)(ok:Gr.Ok g)(v:Value)(W:World)(hT:Tab W)(h:(Dv (ptE (grE N)) G (some g)).p v W)(hl1:g.1.length≤100000)(hl2:g.2.length≤100000)(hN:N≤1000000) :
  Calls Tryz.prog 36 #[v] W (Post (CyA G0 (iF (nbA g) (vset g.1) (esN g))) W):=by
 have hgd:(Dv (ptE (grE N)) G0 (some g)).p v W:=Dv.weak h fun b _ hb=>hb.elim
 have gs1:=ok.sv
 have gs2:=ok.se
 obtain⟨l,hl⟩:=eqX (nbL g (aj (vset g.1)))
 obtain⟨V,hV⟩:=eqX (vset g.1)
 obtain⟨es,hes⟩:=eqX (esN g)
 have hnb:nbA g=lkS l:=by rw[hl,nbA]
 have hti:=mw ok
 have hin:=gz ok
 rw[hnb,← hV,← hes]
 rw[← hes] at hti hin
 rw[← hV] at hin
 have hel:es.length≤100000:=by rw[hes,esN,List.length_map];exact hl2
 have hmem:∀e∈es,e.1<1024∧e.2<1024∧e.1≠e.2∧((e.1:Int),lkS l (e.1:Int))∈l:=fun e he=>by
  obtain⟨h1,h2,h3⟩:=hin e he
  refine⟨aK h2,aK h3,by omega,?_⟩
  have h4:((e.1:Int),nbG g.2 (e.1:Int))∈l:=by
   rw[hl,nbL]
   exact List.mem_map.2 ⟨e.1,aL.2 ⟨aK h2,by rw[← hV];exact h2⟩,rfl⟩
  have h5:lkS l (e.1:Int)=nbG g.2 (e.1:Int):=by
   rw[hl,nbL,jP (fun n=>nbG g.2 (n:Int)),if_pos (aL.2 ⟨aK h2,by rw[← hV];exact h2⟩)]
  rw[h5];exact h4
 have hgi:=zT (lkS l) es
 have hT0:=hT.lt
 refine cO (args:=[v]) (As:=[E v]) Tryz.func36 rfl Tryz.ntmps36 (Nat.le_of_ble_eq_true rfl) ?_ (fun a hf=>?_) (Nat.le_of_ble_eq_true rfl)
 ·exact arg1 rfl
 dsimp only[params,Nat.reduceAdd] at hf
 have e:=Ext.rfl' W
 refine seq <| ab <| tL I35 hf fun a b2 w e' hb2 hs2 B2 hf=>?_
 have hle2:=Nat.le_trans e.size (Nat.le_of_eq hb2.symm)
 obtain⟨hT,e⟩:=up2 e' hT e
 refine aa ?_
 replace B2:Blk w b2 #[.slice none 0 0] 35:=B2
 have n2:W.heap.size≤b2:=hle2
 refine seq <| seq ?_
 refine rgN 2 hf <| st (mv rfl) <| st (dm U26 (isE rfl (vst e hgd))) <| en fun a w e' hf=>?_
 obtain⟨hT,e,B2⟩:=up3 e' hT e B2
 refine aa <| ifF hf rfl ?_
 refine ah ?_
 replace hf:=hf.kp [0,2]
 have e0:=e
 refine seq <| rgN 2 hf <| st (mv rfl) <| st (ak (A:=ci l V 1024) dR rfl (fun v w he k=>by cases k;rw[hl,hV];exact (mf g _ w (hT.ext he) (vst (e0.tr he) hgd) gs1 gs2 hl1 hl2 hN).mono fun en w' ⟨k1,mq,k2,k3⟩=>⟨_,k2,k1,mq,rfl,k3⟩)) ?_
 refine en fun a w e' hf=>?_
 obtain⟨hT,e,B2⟩:=up3 e' hT e B2
 obtain⟨av,⟨mq,rfl,HV0⟩,hf⟩:=hf.opn 12 rfl
 obtain⟨cs,⟨bm0,nm0,rfl,_,hnm0,HM0⟩,hmq⟩:=HV0
 replace hmq:mq=.map (some bm0):=hmq
 subst hmq
 obtain⟨N1,hN1⟩:=eqX w.heap.size
 have hN1s:N1≤w.heap.size:=Nat.le_of_eq hN1
 have hbm0:bm0<N1:=by rw[hN1];exact HM0.lt
 have hb2N:b2<N1:=by rw[hN1];exact B2.lt
 have hWN1:W.heap.size≤N1:=by rw[hN1];exact e.size
 replace hf:=hf.kp [0,2,12]
 have nm2:bm0≠b2:=HM0.neB B2
 refine tL I79 hf fun a b3 w e' hb3 hs3 B3 hf=>?_
 have hle3:=Nat.le_trans e.size (Nat.le_of_eq hb3.symm)
 have lo3_hN1s:=Nat.le_trans hN1s (Nat.le_of_eq hb3.symm)
 obtain⟨hT,HM0,hN1s,e,B2⟩:=up5 e' hT HM0 hN1s e B2
 have n3:N1≤b3:=lo3_hN1s
 refine az T79 hf rfl rfl (cg _ _) B3 rfl (aH _ _) fun w hg hsz B3 hf=>?_
 replace e:=e.gr hg (by omega);replace hT:=hT.gr hg (by omega);replace HM0:=HM0.gr hg (fun h=>by cases h;omega);replace B2:=B2.gr hg (by omega);replace hN1s:=Nat.le_trans hN1s hg.size;clear hg
 refine aa ?_
 replace hf:=hf.kp [0,2,3]
 have e4:=e
 have hN4:=hN1s
 have l3':=B3.lt
 have l2':=B2.lt
 have hdv:=HM0.dvE hnm0 (G:=G0) (fun h=>h)
 obtain⟨n,hn⟩:∃n:Nat,cd (lkS l) es=(n:Int):=⟨(cd (lkS l) es).toNat,by omega⟩
 have hn2:n≤1026:=by omega
 refine seq <| rgG 5 Mix.mix hf <| st (ldW T79 rfl B3 (aH _ _)) <| st (mv rfl) <| st (ak (A:=Dv (slE edE) G0 (es.map toI)) (B:=E v) kW rfl (fun u w he k=>by cases k;rw[← hti];exact (mo g v w (vst (e4.tr he) hgd) gs2 hl2 hN).mono fun en w' ⟨u,k1,k2,k3⟩=>⟨u,k1,k2,OwR.sl k3⟩)) ?_
 refine st (aw (A:=E (I (n:Nat))) (B:=E (.agg (adC V (.map (some bm0))))) (C:=Dv (slE edE) G0 (es.map toI)) ve rfl rfl (fun a b w he k1 k2=>by cases k1;rw[← hn];exact zL l V es (.map (some bm0)) b w (hT.ext he) (Dv.ex hdv he) (by omega) hel k2 hmem)) ?_
 refine st (alD I3) <| en fun a w e' hf=>?_
 obtain⟨hT,HM0,hN1s,e,B2,B3⟩:=up6 e' hT HM0 hN1s e B2 B3
 obtain⟨v4,⟨b4,h4,rfl,B4⟩,hf⟩:=hf.fix 4 rfl
 have n4:N1≤b4∧b3≠b4∧b2≠b4:=⟨Nat.le_trans hN4 h4,by omega,by omega⟩
 replace hf:=hf.kp [2,3,4,16]
 refine aI T3 hf rfl rfl rfl B4 Nat.zero_lt_one fun w hg hsz B4 hf=>?_
 replace e:=e.gr hg (by omega);replace hT:=hT.gr hg (by omega);replace HM0:=HM0.gr hg (fun h=>by cases h;omega);replace B2:=B2.gr hg (by omega);replace B3:=B3.gr hg (by omega);replace hN1s:=Nat.le_trans hN1s hg.size;clear hg
 refine aa ?_
 replace B4:Blk w b4 #[I (n:Nat)] 3:=B4
 replace hf:=hf.kp [2,3,4]
 by_cases hn0:n=0
 ·rw[iF,if_pos (show cd (lkS l) es=0 by rw[hn,hn0];rfl)]
  refine seq <| seq ?_
  refine rgN 2 hf <| st (ld1 (v:=I (n:Nat)) T3 rfl B4 rfl) <| st ((eql rfl rfl).eq (congrArg Value.bool (show ((n:Int)==0)=true by rw[hn0];rfl))) ?_
  refine en fun a w e' hf=>?_
  obtain⟨hT,HM0,hN1s,e,B2,B3,B4⟩:=up7 e' hT HM0 hN1s e B2 B3 B4
  refine aa <| ifT hf rfl ?_
  replace hf:=hf.kp [2]
  refine seq <| ab <| aI T35 hf rfl rfl rfl B2 Nat.zero_lt_one fun w hg hsz B2 hf=>?_
  replace e:=e.gr hg (by omega);clear hg
  refine aa <| ai <| dI (D:=[]) rfl T35 hf rfl B2 (Ds.nil _) ⟨_,rfl,e,rfl⟩
 have hnz:((n:Int)==0)=false:=beq_eq_false_iff_ne.2 (by omega)
 have hgz:¬cd (lkS l) es=0:=by omega
 rw[iF,if_neg hgz,hn,Int.toNat_natCast]
 refine seq <| seq ?_
 refine rgN 2 hf <| st (ld1 (v:=I (n:Nat)) T3 rfl B4 rfl) <| st ((eql rfl rfl).eq (congrArg Value.bool (hnz))) <| en fun a w e' hf=>?_
 obtain⟨hT,HM0,hN1s,e,B2,B3,B4⟩:=up7 e' hT HM0 hN1s e B2 B3 B4
 refine aa <| ifF hf rfl ?_
 refine ah ?_
 replace hf:=hf.kp [2,3,4]
 refine seq <| ab <| tP hf (fA U79 rfl T76 rfl) fun a w e' hf=>?_
 obtain⟨hT,HM0,hN1s,e,B2,B3,B4⟩:=up7 e' hT HM0 hN1s e B2 B3 B4
 refine tP hf ((ldP T76 rfl B3 (by rw[aH];decide)).eq (congrArg Value.agg (bO V (.map (some bm0))))) fun a w e' hf=>?_
 obtain⟨hT,HM0,hN1s,e,B2,B3,B4⟩:=up7 e' hT HM0 hN1s e B2 B3 B4
 refine tL I76 hf fun a b5 w e' hb5 hs5 B5 hf=>?_
 have lo5_hN1s:=Nat.le_trans hN1s (Nat.le_of_eq hb5.symm)
 have lt5_B2:=B2.lt
 have lt5_B3:=B3.lt
 have lt5_B4:=B4.lt
 obtain⟨hT,HM0,hN1s,e,B2,B3,B4⟩:=up7 e' hT HM0 hN1s e B2 B3 B4
 have n5:N1≤b5∧b3≠b5∧b4≠b5:=⟨lo5_hN1s,by omega⟩
 refine az T76 hf rfl rfl (bj _) B5 rfl (bh _) fun w hg hsz B5 hf=>?_
 replace e:=e.gr hg (by omega);replace hT:=hT.gr hg (by omega);replace HM0:=HM0.gr hg (fun h=>by cases h;omega);replace B2:=B2.gr hg (by omega);replace B3:=B3.gr hg (by omega);replace B4:=B4.gr hg (by omega);replace hN1s:=Nat.le_trans hN1s hg.size;clear hg
 refine aa ?_
 replace hf:=hf.kp [2,3,4,5]
 obtain⟨Nz,hNz⟩:=eqX w.heap.size
 refine seq <| seq ?_
 refine rgN 3 hf <| st (fA U79 rfl T76 rfl) <| st ((ldP T76 rfl B3 (by rw[aH];decide)).eq (congrArg Value.agg (bO V (.map (some bm0))))) ?_
 refine st (ak (A:=cN Nz V) cV rfl (fun v w' he h=>by cases h;exact Calls.mono (cZ _ w') (fun en w2 ⟨u,h1,h2,b',h3,h4,h5⟩=>⟨u,h1,h2,b',by have:=he.size;omega,h4,h5⟩))) ?_
 refine en fun a w e' hf=>?_
 obtain⟨hT,HM0,hN1s,e,B2,B3,B4,B5⟩:=up8 e' hT HM0 hN1s e B2 B3 B4 B5
 refine aa ?_
 obtain⟨vv,⟨b23,h23,rfl,BS⟩,hf⟩:=hf.fix 23 rfl
 replace hf:=hf.kp [2,3,4,5,23]
 obtain⟨nb,hnb'⟩:∃nb,nb=lkS l:=⟨_,rfl⟩
 rw[← hnb']
 have hBW:W.heap.size≤w.heap.size:=e.size
 have h0w:0<w.heap.size:=hT.lt
 have l2:=B2.lt
 have l3:=B3.lt
 have l4:=B4.lt
 have l5:=B5.lt
 have lm:=HM0.lt
 refine blk <| db (S:=V) hf rfl BS (by decide) (fun s w1=>ScJ W nm0 bm0 l V b2 b3 b4 b5 n (.slice none 0 0) (dy V s) w1∧(∀rest,aj V=s++rest→scL nb V n (aj V) V=scL nb V n rest (dy V s)))
  (fun ex w1=>ex=.ret∧∃r out left,ScJ W nm0 bm0 l V b2 b3 b4 b5 n r left w1∧scL nb V n (aj V) V=some out∧out≠[]∧(Dv (slE intE) (fun b=>b<w.heap.size+3) (ae out)).p r w1) (fun s w1 h=>h.1.t)
  ⟨⟨e,hT,HM0,B2,B3,B4,B5⟩,fun rest hr=>by rw[List.nil_append] at hr;rw[← hr];rfl⟩ (fun s w1 w2 h hs k=>⟨h.1.kp k hBW h0w l2 l3 l4 l5 lm,h.2⟩)
  (fun ex w1 w2 ⟨q1,r,out,left,q2,q3,q4,q5⟩ hs k=>⟨q1,r,out,left,q2.kp k hBW h0w l2 l3 l4 l5 lm,q3,q4,Dv.ch q5 k.chg fun b hb=>hb.2⟩) ?_ ?_ ?_
 ·intro lp s x rest a1 w1 hs hJ hlw hf
  have hxV:V.getLsbD x=true:=(aL.1 (by rw[hs];simp)).2
  have hx1024:x<1024:=aK hxV
  generalize hBz:w.heap.size=Bz at *
  refine ab <| tA hf rfl fun a hf=>aa <| ⟨Kh.rfl' _ _,fun w3 k3 hsz3=>?_⟩
  have hJ3:=hJ.1.kp k3 hBW h0w l2 l3 l4 l5 lm
  have hJs:=hJ.2
  have hw3:Bz+3≤w3.heap.size:=by omega
  replace hf:=hf.pure w3
  obtain⟨e,hT,HM0,B2,B3,B4,B5⟩:=hJ3
  have kh:=Kh.rfl' Bz w3
  obtain⟨left,hleft⟩:=eqX (dy V s)
  have hdl:dy V (s++[x])=del left (x:Int):=by rw[ry,hleft]
  have hsc:=hJs (x::rest) hs
  rw[← hleft] at B5 hsc
  rw[scL] at hsc
  obtain⟨o,ho⟩:=eqX (cR (ew nb (V &&& left)) x n n [x])
  rw[← ho] at hsc
  have hwi:=mj l (V &&& left)
  rw[← hnb'] at hwi
  have hdv:=HM0.dvE hnm0 (G:=G0) (fun h=>h)
  replace hf:=hf.kp [2,3,4,5,6]
  refine blk ?_
  have e10:=e
  refine seq <| rgN 3 hf <| st (ldW T79 rfl B3 (aH _ _)) <| st ((ldW T76 rfl B5 rfl).eq ((rfl:_=ac left))) <| st (aw (A:=ci (wiL l (V &&& left)) (V &&& left) 1024) (B:=E (.agg (adC V (.map (some bm0))))) (C:=E (ac left)) kY rfl rfl (fun a b w he k1 k2=>by cases k1;cases k2;exact mm l V left (.map (some bm0)) w (hT.ext he) (Dv.ex hdv he))) ?_
  refine en fun a w e' hf=>?_
  obtain⟨hT,HM0⟩:=up2 e' hT HM0
  replace kh:=kh.tr (Kh.ext e')
  obtain⟨hw3,e,B2,B3,B4,B5⟩:=up6 e' hw3 e B2 B3 B4 B5
  obtain⟨av,⟨mq7,rfl,HV7⟩,hf⟩:=hf.opn 27 rfl
  obtain⟨cs7,⟨bm7,nm7,rfl,_,hnm7,HM7⟩,hmq7⟩:=HV7
  replace hmq7:mq7=.map (some bm7):=hmq7
  subst hmq7
  have hbn7:bm7≠b5:=HM7.neB B5
  replace hf:=hf.kp [2,3,4,5,6,27]
  obtain⟨N7,hN7⟩:=eqX w.heap.size
  have hN7s:N7≤w.heap.size:=Nat.le_of_eq hN7
  have hl7:b2<N7∧b3<N7∧b4<N7∧b5<N7∧bm0<N7∧bm7<N7∧Bz+3≤N7:=by have:=HM7.lt;omega
  refine tL I79 hf fun a b7 w e' hb7 hs7 B7 hf=>?_
  have hle7:=Nat.le_trans e.size (Nat.le_of_eq hb7.symm)
  have lo7_hN7s:=Nat.le_trans hN7s (Nat.le_of_eq hb7.symm)
  obtain⟨hT,HM0,HM7⟩:=up3 e' hT HM0 HM7
  replace kh:=kh.tr (Kh.ext e')
  obtain⟨hN7s,e,B2,B3,B4,B5⟩:=up6 e' hN7s e B2 B3 B4 B5
  have n7:N7≤b7:=lo7_hN7s
  refine az T79 hf rfl rfl (cg _ _) B7 rfl (aH _ _) fun w hg hsz B7 hf=>?_
  replace e:=e.gr hg (by omega);replace hT:=hT.gr hg (by omega);replace HM0:=HM0.gr hg (fun h=>by cases h;omega);replace HM7:=HM7.gr hg (fun h=>by cases h;omega);replace B2:=B2.gr hg (by omega);replace B3:=B3.gr hg (by omega);replace B4:=B4.gr hg (by omega);replace B5:=B5.gr hg (by omega);replace kh:=kh.tr (Kh.gr hg (fun hh=>by have:=hh.2;omega));clear hg hN7s
  refine aa ?_
  replace hf:=hf.kp [2,3,4,5,6,7]
  refine seq <| rgN 3 hf <| st ((ldW T76 rfl B5 rfl).eq ((rfl:_=ac left))) <| st (mv rfl) <| st (aw (A:=E (ac (del left (x:Int)))) (B:=E (ac left)) (C:=E (I (x:Nat))) fY rfl rfl (fun v u w he h h'=>by cases h;cases h';exact gd _ _ w)) ?_
  refine en fun a w e' hf=>?_
  obtain⟨hT,HM0,HM7⟩:=up3 e' hT HM0 HM7
  replace kh:=kh.tr (Kh.ext e')
  obtain⟨e,B2,B3,B4,B5,B7⟩:=up6 e' e B2 B3 B4 B5 B7
  refine az T76 hf rfl rfl (bj _) B5 (bh _) (bh _) fun w hg hsz B5 hf=>?_
  replace e:=e.gr hg (by omega);replace hT:=hT.gr hg (by omega);replace HM0:=HM0.gr hg (fun h=>by cases h;omega);replace HM7:=HM7.gr hg (fun h=>by cases h;omega);replace B2:=B2.gr hg (by omega);replace B3:=B3.gr hg (by omega);replace B4:=B4.gr hg (by omega);replace B7:=B7.gr hg (by omega);replace kh:=kh.tr (Kh.gr hg (fun hh=>by have:=hh.1;omega));clear hg
  refine aa ?_
  replace hf:=hf.kp [2,3,4,5,6,7]
  obtain⟨S7,hS7⟩:=eqX (V &&& left)
  rw[← hS7] at B7 HM7 hwi ho
  obtain⟨N8,hN8⟩:=eqX w.heap.size
  have hN8s:N8≤w.heap.size:=Nat.le_of_eq hN8
  have hN8b:Bz+3≤N8:=by have:=kh.size;omega
  have hdv7:=HM7.dvE hnm7 (G:=G0) (fun h=>h)
  refine seq <| rgN 4 hf <| st (ldW T79 rfl B7 (aH _ _)) <| st (mv rfl) <| st (ld1 (v:=I (n:Nat)) T3 rfl B4 rfl) <| st (bX (A:=CyA (fun b=>b<N8) o) (B:=E (.agg (adC S7 (.map (some bm7))))) (C:=E (I (x:Nat))) (D:=E (I (n:Nat))) vf rfl rfl rfl (fun a b c w he k1 k2 k3=>by cases k1;cases k2;cases k3;rw[ho,← hwi];exact (zR (wiL l S7) S7 (.map (some bm7)) x n w (hT.ext he) (Dv.ex hdv7 he) hx1024 (by omega) (by omega)).mono fun en w' ⟨z,q1,q2,q3⟩=>⟨z,q1,q2,zU (fun b hb=>Nat.lt_of_lt_of_le hb (Nat.le_trans hN8s he.size)) q3⟩)) ?_
  refine en fun a w e' hf=>?_
  obtain⟨hT,HM0⟩:=up2 e' hT HM0
  replace kh:=kh.tr (Kh.ext e')
  obtain⟨e,B2,B3,B4,B5⟩:=up5 e' e B2 B3 B4 B5
  refine tA hf rfl fun a hf=>aa ?_
  obtain⟨r,hr,hf⟩:=hf.opn 8 rfl
  replace hf:=hf.kp [2,3,4,5,6,8]
  cases o with
  | none=>
   obtain rfl:r=.slice none 0 0:=hr
   refine seq <| rgN 2 hf <| st (mv rfl) <| st (jT U35 rfl) <| en fun a w e' hf=>?_
   obtain⟨hT,HM0⟩:=up2 e' hT HM0
   replace kh:=kh.tr (Kh.ext e')
   obtain⟨e,B2,B3,B4,B5⟩:=up5 e' e B2 B3 B4 B5
   refine aa <| ifF hf rfl ?_
   refine ah <| ⟨⟨⟨e,hT,HM0,B2,B3,B4,by rw[hdl];exact B5⟩,fun rest' hr'=>by
    have:rest'=rest:=by rw[hs,List.append_assoc] at hr';simpa using hr'.symm
    rw[this,hdl];exact hsc⟩,kh⟩
  | some out=>
   obtain⟨hr1,hr2⟩:=hr
   have hro:r.oneCell'=true:=Dv.slOne hr2
   have hne2:ae out≠[]:=fun h=>hr1 (by rw[ae] at h;exact List.map_eq_nil_iff.1 h)
   obtain⟨ad,n',c',hre⟩:=mp hr2 hne2
   have HR:(Dv (slE intE) (fun b=>b<Bz+3) (ae out)).p r w:=Dv.weak hr2 fun b _ hb=>by omega
   subst hre
   refine seq <| rgN 2 hf <| st (mv rfl) <| st (jT U35 rfl) <| en fun a w e' hf=>?_
   obtain⟨hT,HM0⟩:=up2 e' hT HM0
   replace kh:=kh.tr (Kh.ext e')
   obtain⟨HR,e,B2,B3,B4,B5⟩:=up6 e' HR e B2 B3 B4 B5
   refine aa <| ifT hf rfl ?_
   refine seq <| rgN 1 hf <| st (mv rfl) <| en fun a w e' hf=>?_
   obtain⟨hT,HM0⟩:=up2 e' hT HM0
   replace kh:=kh.tr (Kh.ext e')
   obtain⟨HR,e,B2,B3,B4,B5⟩:=up6 e' HR e B2 B3 B4 B5
   refine aI T35 hf rfl rfl hro B2 Nat.zero_lt_one fun w hg hsz B2 hf=>?_
   replace e:=e.gr hg (by omega);replace hT:=hT.gr hg (by omega);replace HM0:=HM0.gr hg (fun h=>by cases h;omega);replace B3:=B3.gr hg (by omega);replace B4:=B4.gr hg (by omega);replace B5:=B5.gr hg (by omega);replace HR:=Dv.gr HR hg (by omega);replace kh:=kh.tr (Kh.gr hg (fun hh=>by have:=hh.1;omega));clear hg
   refine aa <| ai <| ⟨⟨rfl,_,out,_,⟨e,hT,HM0,B2,B3,B4,B5⟩,hsc,hr1,HR⟩,kh⟩
 ·intro a' w' hf' hJ hsz hDn
  simp only[Exit.inBlock,↓reduceIte,Exit.then]
  have hfs:=hJ.2 [] (by rw[List.append_nil])
  rw[hfs,scL]
  have hD:Ds [w.heap.size] w':=(Ds.nil w').cons hDn (by simp)
  have hf:FrD 38 (bL [w.heap.size]) a' w' [(2,E (ptr b2))]:=hf'.keep [2]
  have hDW:∀d∈[w.heap.size],W.heap.size≤d:=fun d hd=>by rw[List.mem_singleton] at hd;omega
  obtain⟨e,hT,HM0,B2,B3,B4,B5⟩:=hJ.1
  have hb2:=hD.ne B2
  generalize [w.heap.size]=D2 at *
  generalize w'=w at *
  refine seq <| ab <| aI T35 hf rfl rfl rfl B2 Nat.zero_lt_one fun w hg hsz B2 hf=>?_
  replace e:=e.gr hg (by omega)
  replace hD:=hD.gr hg hb2
  refine aa <| ai <| dI rfl T35 hf rfl B2 hD ⟨_,rfl,e.shut hDW,rfl⟩
 ·intro ex c a' w' hcd hf' hX hsz hDn
  obtain⟨rfl,r,out,left,hJ,hfs,hr1,HR⟩:=hX
  simp only[Exit.inBlock,↓reduceIte,Exit.then]
  rw[hfs]
  have hD:Ds [w.heap.size] w':=(Ds.nil w').cons hDn (by simp)
  have hf:FrD 38 (bL [w.heap.size]) a' w' [(2,E (ptr b2))]:=hf'.keep [2]
  have hDW:∀d∈[w.heap.size],W.heap.size≤d:=fun d hd=>by rw[List.mem_singleton] at hd;omega
  refine dI rfl T35 hf rfl hJ.p2 hD ⟨_,rfl,hJ.e.shut hDW,hr1,?_⟩
  exact Dv.weak (Dv.ch HR (dU _ _) fun b hb=>by rw[List.mem_singleton] at hb;show b<_;omega) fun b _ hb=>hb.elim
end Go.Mono
namespace Go.Mono
open Go Go.Proofs Go.RowKit Go.Gr
def cpt (nb:Int→BS)(a:Nat):BS:=unL (lvB nb a)
theorem zV {l m:List Nat}(h:ae l=ae m):l=m:=(List.map_inj_right (f:=fun i:Nat=>(i:Int)) fun {x y} h=>by omega).1 h
theorem rA (l m:List Nat)(hl:l.Pairwise (· < ·))(hm:m.Pairwise (· < ·))(h:∀x,x∈l↔x∈m):l=m:=
 zV (jH _ _ (List.pairwise_map.2 (hl.imp fun h=>by omega)) (List.pairwise_map.2 (hm.imp fun h=>by omega)) fun x=>by
  simp only[ae,List.mem_map]
  exact⟨fun⟨y,hy,e⟩=>⟨y,(h y).1 hy,e⟩,fun⟨y,hy,e⟩=>⟨y,(h y).2 hy,e⟩⟩)
section
variable {nb:Int→BS}{V:BS}
theorem ea {a:Nat}(ha:a<1024):(cpt nb a).getLsbD a=true:=(jK (nb:=nb) ha).1
theorem fb {a:Nat}(ha:a<1024):∀i j:Nat,(cpt nb a).getLsbD i=true→(nb (i:Int)).getLsbD j=true→(cpt nb a).getLsbD j=true:=(jK (nb:=nb) ha).2.1
theorem fG {a:Nat}(ha:a<1024)(K:BS)(hK:K.getLsbD a=true)(hc:∀i j:Nat,K.getLsbD i=true→(nb (i:Int)).getLsbD j=true→K.getLsbD j=true):∀i,(cpt nb a).getLsbD i=true→K.getLsbD i=true:=(jK (nb:=nb) ha).2.2 K hK hc
theorem zW (hs:∀i j:Nat,(nb (i:Int)).getLsbD j=true→(nb (j:Int)).getLsbD i=true){a b:Nat}(ha:a<1024)(h:(cpt nb a).getLsbD b=true):(cpt nb b).getLsbD a=true:=by
 have hb:b<1024:=aK h
 refine Classical.byContradiction fun hn=>?_
 have key:=fG (nb:=nb) ha (cpt nb a &&& ~~~cpt nb b) ((cm _ _ _).2 ⟨ea ha,hn⟩) (fun i j hi hij=>by
  obtain⟨h1,h2⟩:=(cm _ _ _).1 hi
  exact (cm _ _ _).2 ⟨fb ha i j h1 hij,fun hh=>h2 (fb hb j i hh (hs i j hij))⟩) b h
 exact ((cm _ _ _).1 key).2 (ea hb)
theorem zX (hs:∀i j:Nat,(nb (i:Int)).getLsbD j=true→(nb (j:Int)).getLsbD i=true){a b:Nat}(ha:a<1024)(h:(cpt nb a).getLsbD b=true):cpt nb b=cpt nb a:=by
 have hb:b<1024:=aK h
 exact fC fun i=>⟨fG hb _ h (fb ha) i,fG ha _ (zW hs ha h) (fb hb) i⟩
theorem rB {S T:BS}{a:Nat}(ha:S.getLsbD a=true)(hmin:∀j,j<a→S.getLsbD j=false)(p:Nat→Bool)(hp:p a=true)(hT:∀v,p v=true→(T.getLsbD v=true↔S.getLsbD v=true∧v≠a)):(aj S).filter p=a::(aj T).filter p:=by
 refine rA _ _ ((eX S).filter _) (List.pairwise_cons.2 ⟨fun v hv=>?_,(eX T).filter _⟩) fun v=>?_
 ·obtain⟨h1,h2⟩:=List.mem_filter.1 hv
  obtain⟨h3,h4⟩:=(hT v h2).1 (aL.1 h1).2
  refine Classical.byContradiction fun hn=>?_
  have:=hmin v (by omega)
  rw[h3] at this;cases this
 ·rw[List.mem_cons,List.mem_filter,List.mem_filter]
  constructor
  ·rintro⟨h1,h2⟩
   by_cases hv:v=a
   ·exact .inl hv
   ·exact .inr ⟨aL.2 ⟨(aL.1 h1).1,(hT v h2).2 ⟨(aL.1 h1).2,hv⟩⟩,h2⟩
  ·rintro (rfl|⟨h1,h2⟩)
   ·exact⟨aL.2 ⟨aK ha,ha⟩,hp⟩
   ·exact⟨aL.2 ⟨(aL.1 h1).1,((hT v h2).1 (aL.1 h1).2).1⟩,h2⟩
theorem zY (hs:∀i j:Nat,(nb (i:Int)).getLsbD j=true→(nb (j:Int)).getLsbD i=true):∀(f:Nat) (left:BS),card left≤f→(∀i j:Nat,left.getLsbD i=true→(nb (i:Int)).getLsbD j=true→left.getLsbD j=true) →
  prF nb f left=((aj left).filter fun v=>decide (aU (cpt nb v)=some v)).map (cpt nb):=by
 intro f
 induction f with
 | zero=>
  intro left hc hcl
  have h0:aj left=[]:=List.eq_nil_iff_forall_not_mem.2 fun v hv=>by have:=qh (aL.1 hv).2;omega
  show ([]:List BS)=_
  generalize aj left=l at h0 ⊢
  rw[h0];rfl
 | succ f ih=>
  intro left hc hcl
  cases hm:aU left with
  | none=>
   have h0:aj left=[]:=List.eq_nil_iff_forall_not_mem.2 fun v hv=>by
    have h1:=(aL.1 hv).2
    rw[ge.1 hm] at h1;exact bF _ h1
   rw[mc hm]
   generalize aj left=l at h0 ⊢
   rw[h0];rfl
  | some a=>
   obtain⟨ha,hal,hmin⟩:=eS.1 hm
   have hsub:∀i,(cpt nb a).getLsbD i=true→left.getLsbD i=true:=fG ha left hal hcl
   have hma:aU (cpt nb a)=some a:=eS.2 ⟨ha,ea ha,fun j hj=>by
    cases h:(cpt nb a).getLsbD j with
    | false=>rfl
    | true=>rw[← hmin j hj];exact (hsub j h).symm⟩
   rw[md hm,ih (left &&& ~~~unL (lvB nb a))]
   ·obtain⟨p,hp⟩:=eqX (fun v=>decide (aU (cpt nb v)=some v):Nat→Bool)
    have hpa:p a=true:=by rw[hp];exact decide_eq_true hma
    have hpv:∀v,p v=true→aU (cpt nb v)=some v:=fun v h=>by rw[hp] at h;exact of_decide_eq_true h
    rw[← hp]
    rw[rB (T:=left &&& ~~~unL (lvB nb a)) hal hmin p hpa fun v hv=>?_]
    ·rw[List.map_cons];rfl
    ·rw[cm]
     refine and_congr_right fun hl=>⟨fun h e=>h (by rw[e];exact ea ha),fun h e=>h ?_⟩
     have h1:=hpv v hv
     rw[zX hs ha e,hma] at h1
     exact (Option.some.inj h1).symm
   ·have:=gp (S:=left &&& ~~~unL (lvB nb a)) (T:=left) (z:=a) (fun i hi=>((cm _ _ _).1 hi).1) hal fun h=>((cm _ _ _).1 h).2 (ea ha)
    omega
   ·intro i j hi hij
    obtain⟨h1,h2⟩:=(cm _ _ _).1 hi
    exact (cm _ _ _).2 ⟨hcl i j h1 hij,fun h=>h2 (fb ha j i h (hs i j hij))⟩
def rcS (s:BS)(e:Nat×Nat):BS:=if (s.getLsbD e.1 || s.getLsbD e.2)=true then ins (ins s (e.1:Int)) (e.2:Int) else s
def rcP (es:List (Nat×Nat))(s:BS):BS:=es.foldl rcS s
def rcN (es:List (Nat×Nat))(s:BS):Nat→BS
 | 0=>s
 | n+1=>rcP es (rcN es s n)
theorem gA {s:BS}{e:Nat×Nat}(h1:e.1<1024)(h2:e.2<1024)(i:Nat):(rcS s e).getLsbD i=true↔s.getLsbD i=true∨((s.getLsbD e.1=true∨s.getLsbD e.2=true)∧(i=e.1∨i=e.2)):=by
 rw[rcS]
 split
 ·rename_i h
  rw[Bool.or_eq_true] at h
  rw[de _ h2,de _ h1]
  constructor
  ·rintro ((h3|h3)|h3)
   ·exact .inl h3
   ·exact .inr ⟨h,.inl h3⟩
   ·exact .inr ⟨h,.inr h3⟩
  ·rintro (h3|⟨_,h3|h3⟩)
   ·exact .inl (.inl h3)
   ·exact .inl (.inr h3)
   ·exact .inr h3
 ·rename_i h
  rw[Bool.or_eq_true] at h
  exact⟨.inl,fun hh=>hh.elim id fun hh=>absurd hh.1 h⟩
theorem iG {es:List (Nat×Nat)}(hb:∀e∈es,e.1<1024∧e.2<1024):∀s i,s.getLsbD i=true→(rcP es s).getLsbD i=true:=by
 induction es with
 | nil=>intro s i h;exact h
 | cons e es ih=>
  intro s i h
  have h1:=hb e (List.mem_cons_self ..)
  exact ih (fun e he=>hb e (List.mem_cons_of_mem _ he)) (rcS s e) i ((gA h1.1 h1.2 i).2 (.inl h))
theorem zZ {es:List (Nat×Nat)}(hb:∀e∈es,e.1<1024∧e.2<1024){C:BS}(hC:∀e∈es,C.getLsbD e.1=true∨C.getLsbD e.2=true→C.getLsbD e.1=true∧C.getLsbD e.2=true):∀s,(∀i,s.getLsbD i=true→C.getLsbD i=true)→∀i,(rcP es s).getLsbD i=true→C.getLsbD i=true:=by
 induction es with
 | nil=>intro s h;exact h
 | cons e es ih=>
  intro s h
  have h1:=hb e (List.mem_cons_self ..)
  refine ih (fun e he=>hb e (List.mem_cons_of_mem _ he)) (fun e he=>hC e (List.mem_cons_of_mem _ he)) (rcS s e) fun i hi=>?_
  rcases (gA h1.1 h1.2 i).1 hi with hi|⟨h2,h3⟩
  ·exact h i hi
  ·have h4:=hC e (List.mem_cons_self ..) (h2.imp (h _) (h _))
   rcases h3 with rfl|rfl
   ·exact h4.1
   ·exact h4.2
theorem rC {es:List (Nat×Nat)}(hb:∀e∈es,e.1<1024∧e.2<1024):∀s,∀e∈es,s.getLsbD e.1=true∨s.getLsbD e.2=true→(rcP es s).getLsbD e.1=true∧(rcP es s).getLsbD e.2=true:=by
 induction es with
 | nil=>intro s e he;cases he
 | cons d es ih=>
  intro s e he h
  have h1:=hb d (List.mem_cons_self ..)
  have hb':∀e∈es,e.1<1024∧e.2<1024:=fun e he=>hb e (List.mem_cons_of_mem _ he)
  show (rcP es (rcS s d)).getLsbD e.1=true∧(rcP es (rcS s d)).getLsbD e.2=true
  rcases List.mem_cons.1 he with rfl|he
  ·exact⟨iG hb' _ _ ((gA h1.1 h1.2 _).2 (.inr ⟨h,.inl rfl⟩)),iG hb' _ _ ((gA h1.1 h1.2 _).2 (.inr ⟨h,.inr rfl⟩))⟩
  ·exact ih hb' (rcS s d) e he (h.imp (fun h=>(gA h1.1 h1.2 _).2 (.inl h)) fun h=>(gA h1.1 h1.2 _).2 (.inl h))
theorem a0a {es:List (Nat×Nat)}(hb:∀e∈es,e.1<1024∧e.2<1024){s:BS}(hs:1≤card s):∀n,rcP es (rcN es s n)=rcN es s n∨n+1≤card (rcN es s n):=by
 intro n
 induction n with
 | zero=>exact .inr hs
 | succ n ih=>
  by_cases h:rcP es (rcN es s n)=rcN es s n
  ·left
   show rcP es (rcP es (rcN es s n))=rcP es (rcN es s n)
   rw[h,h]
  ·have h1:=ih.resolve_left h
   right
   have h2:card (rcN es s n)<card (rcN es s (n+1)):=by
    refine Classical.byContradiction fun hn=>h <| (zh (iG hb _) ?_).symm
    have:=lT (iG hb (rcN es s n))
    have h3:card (rcN es s (n+1))=card (rcP es (rcN es s n)):=rfl
    omega
   omega
theorem a0b (hs:∀i j:Nat,(nb (i:Int)).getLsbD j=true→(nb (j:Int)).getLsbD i=true){es:List (Nat×Nat)}(hb:∀e∈es,e.1<1024∧e.2<1024)(hes:∀i j:Nat,(nb (i:Int)).getLsbD j=true↔(i,j)∈es∨(j,i)∈es){a n:Nat}(ha:a<1024)(hn:card (cpt nb a)≤n):rcN es (ins 0 (a:Int)) n=cpt nb a:=by
 have h1:∀i,(ins 0 (a:Int)).getLsbD i=true↔i=a:=fun i=>by
  rw[de _ ha]
  exact⟨fun h=>h.resolve_left (bF i),.inr⟩
 have hc1:1≤card (ins 0 (a:Int)):=qh ((h1 a).2 rfl)
 have hC:∀e∈es,(cpt nb a).getLsbD e.1=true∨(cpt nb a).getLsbD e.2=true→(cpt nb a).getLsbD e.1=true∧(cpt nb a).getLsbD e.2=true:=fun e he h=>by
  rcases h with h|h
  ·exact⟨h,fb ha _ _ h ((hes _ _).2 (.inl he))⟩
  ·exact⟨fb ha _ _ h ((hes _ _).2 (.inr he)),h⟩
 have hsub:∀n i,(rcN es (ins 0 (a:Int)) n).getLsbD i=true→(cpt nb a).getLsbD i=true:=by
  intro n
  induction n with
  | zero=>intro i hi;rw[(h1 i).1 hi];exact ea ha
  | succ n ih=>exact zZ hb hC _ ih
 have hin:∀n,(rcN es (ins 0 (a:Int)) n).getLsbD a=true:=by
  intro n
  induction n with
  | zero=>exact (h1 a).2 rfl
  | succ n ih=>exact iG hb _ _ ih
 rcases a0a hb hc1 n with h|h
 ·refine fC fun i=>⟨hsub n i,fG ha _ (hin n) (fun i j hi hij=>?_) i⟩
  rcases (hes i j).1 hij with he|he
  ·have:=rC hb (rcN es (ins 0 (a:Int)) n) _ he (.inl hi)
   rw[h] at this;exact this.2
  ·have:=rC hb (rcN es (ins 0 (a:Int)) n) _ he (.inr hi)
   rw[h] at this;exact this.1
 ·have:=lT (hsub n)
  omega
end
theorem rD {g:GT}(G:Gr.Ok g){a:Nat}(ha:(vset g.1).getLsbD a=true):∀i,(cpt (nbA g) a).getLsbD i=true→(vset g.1).getLsbD i=true:=
 fG (aK ha) _ ha fun i j _ hij=>gu G i j hij
theorem a0c {g:GT}(G:Gr.Ok g){a:Nat}(ha:(vset g.1).getLsbD a=true):card (cpt (nbA g) a)≤g.1.length:=by
 rw[← jJ G];exact lT (rD G ha)
theorem a0d {g:GT}(G:Gr.Ok g){a:Nat}(ha:(vset g.1).getLsbD a=true):rcN (esN g) (ins 0 (a:Int)) g.1.length=cpt (nbA g) a:=
 a0b (fF G) (fun e he=>⟨aK (gz G e he).2.1,aK (gz G e he).2.2⟩) (fun i j=>(dx G).trans (my G i j)) (aK ha) (a0c G ha)
theorem a0e {g:GT}(G:Gr.Ok g){C:BS}(hC:∀i,C.getLsbD i=true→(vset g.1).getLsbD i=true):(bN g).filter (fun x=>has C x)=elL C:=by
 refine jH _ _ ((qR G).filter _) (qS C) fun x=>?_
 rw[List.mem_filter,← lZ G,elL,ae,ae,List.mem_map,List.mem_map]
 constructor
 ·rintro⟨⟨y,hy,rfl⟩,h⟩
  have:=(cQ C y).1 h
  exact⟨y,aL.2 ⟨aK this,this⟩,rfl⟩
 ·rintro⟨y,hy,rfl⟩
  obtain⟨h1,h2⟩:=aL.1 hy
  exact⟨⟨y,aL.2 ⟨h1,hC y h2⟩,rfl⟩,(cQ C y).2 h2⟩
theorem a0f {C:BS}(h:aU C=none):aj C=[]:=List.eq_nil_iff_forall_not_mem.2 fun v hv=>by
 have h1:=(aL.1 hv).2
 rw[ge.1 h] at h1;exact bF _ h1
theorem a0g (C:BS):(ae (aj C))[0]?=(aU C).map fun i:Nat=>(i:Int):=by
 cases h:aU C with
 | none=>
  have h0:aj C=[]:=a0f h
  generalize aj C=l at h0 ⊢
  rw[h0];rfl
 | some a=>
  obtain⟨ha,hal,hmin⟩:=eS.1 h
  have h1:=rB (T:=C &&& ~~~(ins 0 (a:Int))) hal hmin (fun _=>true) rfl fun v _=>by
   rw[cm,de _ ha]
   exact and_congr_right fun _=>⟨fun h e=>h (.inr e),fun h e=>e.elim (bF v) h⟩
  rw[List.filter_eq_self.2 fun _ _=>rfl] at h1
  rw[List.filter_eq_self.2 fun _ _=>rfl] at h1
  generalize aj (C &&& ~~~(ins 0 (a:Int)))=m at h1
  generalize aj C=l at h1 ⊢
  rw[h1];rfl
def ptF (g:GT):List (List Int):=((aj (vset g.1)).filter fun v=>decide (aU (cpt (nbA g) v)=some v)).map fun v=>elL (cpt (nbA g) v)
theorem iH {g:GT}(G:Gr.Ok g):(prF (nbA g) (card (vset g.1)) (vset g.1)).map elL=ptF g:=by
 rw[zY (fF G) _ _ (Nat.le_refl _) fun i j _ hij=>gu G i j hij,List.map_map,ptF,Function.comp_def]
section
variable {nb:Int→BS}
def dsT (nb:Int→BS)(b x:Nat):Int:=bG (lvB nb b) x
theorem a0h {a:Nat}(ha:a<1024)(i:Nat):(ins 0 (a:Int)).getLsbD i=true↔i=a:=by
 rw[de _ ha]
 exact⟨fun h=>h.resolve_left (bF i),.inr⟩
theorem mz {b m:Nat}(hb:b<1024)(q:Nat→Nat)(h0:q 0=b)(hq:∀i,i<m→(nb (q i:Int)).getLsbD (q (i+1))=true):0≤dsT nb b (q m)∧dsT nb b (q m)≤m:=by
 obtain⟨k,T,h1,h2,h3⟩:=zn hb q h0 m hq
 have:=me h2 h3
 rw[dsT];omega
theorem mA {b x k:Nat}(hb:b<1024)(h:dsT nb b x=(k:Int)):∃q:Nat→Nat,q 0=b∧q k=x∧∀i,i<k→(nb (q i:Int)).getLsbD (q (i+1))=true:=by
 obtain⟨T,h1,h2⟩:=jL h
 rw[lvB] at h1
 obtain⟨p,p1,p2,_,p4⟩:=zj _ _ _ _ _ _ h1 h2
 exact⟨p,(a0h hb _).1 p1,p2,p4⟩
theorem mB (b x:Nat) : -1≤dsT nb b x:=iB _ _
theorem rE {b x k:Nat}:dsT nb b x=(k:Int)↔∃T,(lvB nb b)[k]?=some T∧T.getLsbD x=true:=by
 refine⟨jL,fun⟨T,h1,h2⟩=>?_⟩
 obtain⟨h3,h4⟩:=me h1 h2
 obtain⟨j,hj⟩:∃j:Nat,bG (lvB nb b) x=(j:Int):=⟨(bG (lvB nb b) x).toNat,by omega⟩
 obtain⟨U,h5,h6⟩:=jL hj
 rw[dsT,hj]
 by_cases hjk:j=k
 ·rw[hjk]
 ·rw[lvB] at h1 h5
  exact absurd h2 (zl _ _ _ (fun i h=>h) j k x U T (by omega) h5 h1 h6)
section
theorem a0i {b x y:Nat}(hb:b<1024)(hx:0≤dsT nb b x)(h:(nb (x:Int)).getLsbD y=true):0≤dsT nb b y∧dsT nb b y≤dsT nb b x+1:=by
 obtain⟨k,hk⟩:∃k:Nat,dsT nb b x=(k:Int):=⟨(dsT nb b x).toNat,by omega⟩
 obtain⟨q,q0,qk,hq⟩:=mA hb hk
 have:=mz (nb:=nb) (m:=k+1) hb (fun i=>if i=k+1 then y else q i) (by simpa using q0) fun i hi=>by
  by_cases hik:i=k
  ·subst hik;simp[qk,h]
  ·have h1:¬i=k+1:=by omega
   have h2:¬i+1=k+1:=by omega
   simp only[h1,h2,if_false]
   exact hq i (by omega)
 simp only[if_true] at this
 omega
theorem a0j (hs:∀i j:Nat,(nb (i:Int)).getLsbD j=true→(nb (j:Int)).getLsbD i=true){b x k:Nat}(hb:b<1024)(h:dsT nb b x=((k+1:Nat):Int)):∃y,(nb (x:Int)).getLsbD y=true∧dsT nb b y=(k:Int):=by
 obtain⟨q,q0,qk,hq⟩:=mA hb h
 have h1:=mz (nb:=nb) (m:=k) hb q q0 fun i hi=>hq i (by omega)
 have h2:=hq k (by omega)
 rw[qk] at h2
 have h3:=a0i hb h1.1 h2
 exact⟨q k,hs _ _ h2,by omega⟩
theorem mC (hs:∀i j:Nat,(nb (i:Int)).getLsbD j=true→(nb (j:Int)).getLsbD i=true){a b k:Nat}(ha:a<1024)(hb:b<1024)(h:dsT nb a b=(k:Int)):0≤dsT nb b a∧dsT nb b a≤k:=by
 obtain⟨q,q0,qk,hq⟩:=mA ha h
 have:=mz (nb:=nb) (m:=k) hb (fun i=>q (k - i)) (by simpa using qk) fun i hi=>by
  have h1:=hs _ _ (hq (k - i - 1) (by omega))
  rw[show k - i - 1+1=k - i by omega] at h1
  rw[show k - (i+1)=k - i - 1 by omega]
  exact h1
 simpa[q0] using this
theorem a0k (hs:∀i j:Nat,(nb (i:Int)).getLsbD j=true→(nb (j:Int)).getLsbD i=true){a b:Nat}(ha:a<1024)(hb:b<1024):dsT nb a b=dsT nb b a:=by
 have h1:=mB (nb:=nb) a b
 have h2:=mB (nb:=nb) b a
 by_cases h3:dsT nb a b = -1
 ·by_cases h4:dsT nb b a = -1
  ·rw[h3,h4]
  ·have:=mC hs hb ha (k:=(dsT nb b a).toNat) (by omega);omega
 ·have h5:=mC hs ha hb (k:=(dsT nb a b).toNat) (by omega)
  have h6:=mC hs hb ha (k:=(dsT nb b a).toNat) (by omega)
  omega
theorem a0l {a b:Nat}:dsT nb a b = -1↔¬(cpt nb a).getLsbD b=true:=zp
def geF (nb:Int→BS)(L:List BS):Nat→Nat→List Nat
 | 0,_=>[]
 | n+1,a=>(aU (nb (a:Int) &&& gs L n)).getD 0::geF nb L n ((aU (nb (a:Int) &&& gs L n)).getD 0)
theorem a0m (l:List Nat)(x:Nat):(l++[x]).getLastD 0=x:=by simp[List.getLastD_eq_getLast?]
end
end
theorem ed:∀(l m:List Int),l.Nodup→(∀x∈l,x∈m)→l.length≤m.length
 | [],m,_,_=>Nat.zero_le _
 | x::l,m,hn,hs=>by
  have hx:=hs x (List.mem_cons_self ..)
  have h1:=ed l (m.erase x) (List.nodup_cons.1 hn).2 fun y hy=>(List.mem_erase_of_ne (fun h=>(List.nodup_cons.1 hn).1 (by rw[← h];exact hy))).2 (hs y (List.mem_cons_of_mem _ hy))
  have h2:=List.length_erase_of_mem hx
  have h3:=List.length_pos_of_mem hx
  rw[List.length_cons];omega
def g2 (l:List (Int×Int))(i:Nat):Int×Int:=(l[i]?).getD (0,0)
theorem gB {l:List (Int×Int)}{i:Nat}(h:i<l.length):l[i]?=some (g2 l i):=by simp[g2,h]
theorem a0n {G:Nat→Prop}(l:List Int)(v:Value)(id:FuncId)(caps:Array Value)(p:Int→Bool)(W:World)(hen:Proofs.Enters Tryz.prog id)(h:(Dv (slE intE) G l).p v W)
  (hp:∀w x,x∈l→Ext W w→Calls Tryz.prog id (#[I x]++caps) w (Post (E (B (p x))) w)) (hl:l.length≤100000) :
  Calls Tryz.prog 105 #[v,.func (.func id) #[] caps] W (Post (E (I (cr (fun i=>p (gi l i)) l.length))) W):=by
 refine eN [v,.func (.func id) #[] caps] [Dv (slE intE) G l,E (.func (.func id) #[] caps)] Tryz.func105 Tryz.ntmps105 ?_ fun a hf=>?_
 rotate_left
 rotate_right
 ·exact arg2 h rfl
 have e:=Ext.rfl' W
 refine seq <| ab <| tA hf rfl fun a hf=>aa ?_
 refine seq <| seq ?_
 refine rgN 3 hf <| st (mv rfl) <| st (aB U35 (isR rfl)) <| st (mv rfl) <| en fun a w e' hf=>?_
 replace e:=e.tr e'
 refine aa ?_
 replace hf:=hf.keep [0,1,7,8]
 refine blk (aF (fun r0 a w=>∃(k:Nat) ,r0=l.length - k∧k≤l.length∧Fr 19 a w [(0,Dv (slE intE) G l),(1,E (.func (.func id) #[] caps)),(7,E (I (l.length:Nat))),(8,E (I k))]∧Ext W w∧∀i,i<k→p (gi l i)=false) l.length ⟨0,rfl,by omega,hf,e,(fun i hi=>by omega)⟩ ?_)
 rintro r0 a w ⟨k,rfl,hk,hf,e,Ho⟩
 refine seq <| rgN 1 hf <| st (lss rfl rfl) <| en fun a w e' hf=>?_
 replace e:=e.tr e'
 refine aa <| seq <| ifc hf rfl (fun hc=>ah ?_) (fun hc=>aC ?_)
 rotate_left
 rotate_left
 ·have hlt:=ltC hc
  replace hf:=hf.keep [0,1,7,8]
  refine seq <| blk <| seq <| rgN 1 hf <| st (mv rfl) <| en fun a w e' hf=>?_
  replace e:=e.tr e'
  refine tA hf rfl fun a hf=>aa ?_
  have hm:=List.mem_of_getElem? (cA hlt)
  refine seq <| rgN 6 hf <| st (mv rfl) <| st (mv rfl) <| st (mv rfl) <| st (aD U35 S3 (isR rfl) rfl (by omega) (cA hlt)) <| st (ldI T3 (isR rfl)) <| st (gR hen rfl rfl (fun v w he h=>by cases h;exact hp w _ hm (e.tr he))) ?_
  refine en fun a w e' hf=>?_
  replace e:=e.tr e'
  refine aa <| ifc hf rfl (fun hb=>?_) (fun hb=>?_)
  ·refine seq <| rgN 1 hf <| st (mv rfl) <| en fun a w e' hf=>?_
   replace e:=e.tr e'
   refine tA hf rfl fun a hf=>aa <| ai <| am rfl hf rfl ?_
   rintro _ rfl
   exact⟨_,rfl,e,congrArg I (fw hlt Ho hb).symm⟩
  ·refine ah <| rgN 1 hf <| st ((add rfl rfl (by omega)).eq (iN k)) <| en fun a w e' hf=>?_
   replace e:=e.tr e'
   refine tP hf (mv rfl) fun a w e' hf=>?_
   replace e:=e.tr e'
   refine aa ?_
   replace hf:=hf.keep [0,1,7,8]
   refine⟨_,?_,k+1,rfl,by omega,hf,e,?_⟩
   ·omega
   intro i hi
   by_cases hk:i=k
   ·subst hk;exact hb
   ·exact Ho i (by omega)
 ·obtain rfl:=dnE hc hk
  refine seq <| ab <| tA hf rfl fun a hf=>aa <| ai <| am rfl hf rfl ?_
  rintro _ rfl
  exact⟨_,rfl,e,congrArg I (eR Ho).symm⟩
def noW (w:World):World:={ w with heap := #[] }
theorem gC {U w:World}{S:Nat→Prop}(c:Chg S U w):Ext (noW U) w:=⟨c.os,c.tape,c.output,Nat.zero_le _,fun k hk=>absurd hk (Nat.not_lt_zero _)⟩
theorem rF {α:Type}{p:α→Bool}{l:List α}(h:∀x∈l,p x=false):(l.filter fun x => !p x)=l:=List.filter_eq_self.2 fun x hx=>by rw[h x hx];rfl
theorem a0o {α:Type}{p:α→Bool}{l:List α}{k:Nat}{x:α}(hx:l[k]?=some x)(h:∀y∈l.take k,p y=false)(hp:p x=true):((l.take (k+1)).filter fun x => !p x)=l.take k:=by
 rw[bs hx,List.filter_append,rF h]
 simp[hp]
theorem rG {α:Type}{p:α→Bool}{l:List α}{j:Nat}{x:α}(hx:l[j]?=some x):((l.take (j+1)).filter fun x => !p x)=((l.take j).filter fun x => !p x)++if p x=true then [] else [x]:=by
 rw[bs hx,List.filter_append,List.filter_cons,List.filter_nil]
 cases p x <;> rfl
theorem a0p {α:Type}{p:α→Bool}{l:List α}{k j:Nat}{x:α}(hx:l[k]?=some x)(hp:p x=true)(hkj:k<j):((l.take j).filter fun x => !p x).length<j:=by
 have h1:k+1≤j:=hkj
 have h2:l.take j=l.take (k+1)++(l.take j).drop (k+1):=by
  have:=List.take_append_drop (k+1) (l.take j)
  rw[List.take_take,Nat.min_eq_left h1] at this
  exact this.symm
 rw[h2,List.filter_append,List.length_append,bs hx,List.filter_append,List.length_append]
 have h3:=List.length_filter_le (fun x => !p x) (l.take k)
 have h4:=List.length_take_le k l
 have h5:=List.length_filter_le (fun x => !p x) ((l.take j).drop (k+1))
 have h6:((l.take j).drop (k+1)).length≤j - (k+1):=by rw[List.length_drop];have:=List.length_take_le j l;omega
 have h7:([x].filter fun x => !p x).length=0:=by simp[hp]
 omega
end Go.Mono
namespace Go.Mono
open Go Go.Proofs Go.RowKit
open Go.ChangeMaps (setBlock)
theorem rH (w:World)(b:Nat)(o o':Obj):setBlock (setBlock w b o) b o'=setBlock w b o':=by
 unfold setBlock
 simp only[Array.setIfInBounds_setIfInBounds]
theorem jU (w:World)(b:Nat)(o:Obj):w.grownBy (setBlock w b o) (some b):=by
 refine⟨rfl,rfl,rfl,?_,fun k hk hne=>?_⟩
 ·simp[setBlock]
 ·unfold setBlock
  rw[Array.getElem?_setIfInBounds_ne (fun h=>hne (by rw[h]))]
section
variable {P:Program}{α β:Type}{V:KV P α β}{w:World}{b n:Nat}{l:List (α×β)}
open Go.WideElems (findIdx_arr findIdx_born modify_last)
theorem jV {w:World}{b:Nat}{o:Obj}(h:b<w.heap.size):(setBlock w b o).heap[b]?=some o:=by unfold setBlock;simp[h]
theorem MpR.slot2 {t:TypeId}(h:MpR V w b n l)(ht:P.underlying t=some (.map V.k V.e)){z0:Value}(hz0:∀w,(zeroValue V.e).run P w=.ok z0 w){x:α}(hx:V.ok x) :
  ∃(v0:Value) (st:Nat) (o1:Obj),(Instr.mapEntry t (.map (some b)) (V.kv x)).run P w=.ok (.tuple #[v0,goInt st]) (setBlock w b o1) ∧
   ∀w2 val,w2.heap[b]?=some o1→∃o2,(Instr.entryStore t (.map (some b)) (goInt st) val).run P w2=.ok () (setBlock w2 b o2)∧(Instr.mapUpdate t (.map (some b)) (V.kv x) val).run P w=.ok () (setBlock w b o2):=by
 obtain⟨es,⟨arr,clock,hb,F,hs,hD⟩,hp,hok,hpw⟩:=h
 have hkey:=V.key x hx
 obtain⟨s1,s2,s3⟩:=F.stamped
 rcases V.K.find w hkey arr.toList F.keys with ⟨q1,q2⟩|⟨j,e0,q1,q2,q3⟩
 ·-- no entry: one is made
  refine⟨z0,clock,.map (arr.push ⟨V.kv x,z0,clock⟩) (clock+1),?_,fun w2 val hw2=>⟨.map (arr.push ⟨V.kv x,val,clock⟩) (clock+1),?_,?_⟩⟩
  ·simp[Instr.mapEntry,run_underlying ht,MapKept.run_getObj_map hb,V.K.check w false hkey,q1,hz0,MapKept.run_setObj_map _ hb,Result.andThen,setBlock]
  ·have hidx:(arr.push ⟨V.kv x,z0,clock⟩).findIdx? (fun e=>((e.born:Nat):Int)==((clock:Nat):Int))=some arr.size:=by
    have hnd:((arr.push ⟨V.kv x,z0,clock⟩).toList.map (·.born)).Nodup:=by
     rw[Array.toList_push,List.map_append]
     refine List.nodup_append.2 ⟨s2,List.pairwise_singleton _ _,fun a ha c hc=>?_⟩
     obtain⟨y,hy,rfl⟩:=List.mem_map.1 ha
     rw[List.map_cons,List.map_nil,List.mem_singleton] at hc
     rw[hc]
     exact Nat.ne_of_lt (s1 y hy)
    rw[findIdx_arr]
    exact findIdx_born hnd (e0:=⟨V.kv x,z0,clock⟩) (by simp)
   have hmod:(arr.push ⟨V.kv x,z0,clock⟩).modify arr.size (fun e=>{ e with val:=val })=arr.push ⟨V.kv x,val,clock⟩:=by
    apply Array.ext'
    rw[Array.toList_modify,Array.toList_push,Array.toList_push,← Array.length_toList,modify_last]
   simp[Instr.entryStore,MapKept.run_getObj_map hw2,asInt,asIntOf,goInt,hidx,hmod,MapKept.run_setObj_map _ hw2,Result.andThen,setBlock]
  ·simp[Instr.mapUpdate,run_underlying ht,MapKept.run_getObj_map hb,V.K.check w false hkey,q1,MapKept.run_setObj_map _ hb,Result.andThen,setBlock]
 ·have hj:arr[j]?=some e0:=by simpa using q2
  have hsame:arr.modify j (fun e=>{ e with key:=V.kv x })=arr:=by
   apply Array.ext'
   rw[Array.toList_modify,Go.ChangeMaps.modify_eq_set _ _ _ _ q2]
   have:({ e0 with key:=V.kv x }:MapEntry)=e0:=by rw[← q3]
   rw[this]
   exact Go.WideElems.set_self _ _ _ q2
  refine⟨e0.val,e0.born,.map arr clock,?_,fun w2 val hw2=>⟨.map (arr.modify j fun e=>{ e with key:=V.kv x,val:=val }) clock,?_,?_⟩⟩
  ·simp[Instr.mapEntry,run_underlying ht,MapKept.run_getObj_map hb,V.K.check w false hkey,q1,hj,q3,V.K.stays w hkey,hsame,MapKept.run_setObj_map _ hb,Result.andThen,setBlock]
  ·have hidx:arr.findIdx? (fun e=>((e.born:Nat):Int)==((e0.born:Nat):Int))=some j:=by
    rw[findIdx_arr]
    exact findIdx_born s2 q2
   have hmod:arr.modify j (fun e=>{ e with val:=val })=arr.modify j (fun e'=>{ e' with key:=V.kv x,val:=val }):=by
    apply Array.ext'
    rw[Array.toList_modify,Array.toList_modify,Go.ChangeMaps.modify_eq_set _ _ _ _ q2,Go.ChangeMaps.modify_eq_set _ _ _ _ q2,← q3]
   simp[Instr.entryStore,MapKept.run_getObj_map hw2,asInt,asIntOf,goInt,hidx,hmod,MapKept.run_setObj_map _ hw2,Result.andThen,setBlock]
  ·simp[Instr.mapUpdate,run_underlying ht,MapKept.run_getObj_map hb,V.K.check w false hkey,q1,hj,q3,V.K.stays w hkey,MapKept.run_setObj_map _ hb,Result.andThen,setBlock]
end
section tail
variable {P:Program}{L:Env}{ty ty2:TypeId}{pos pos2 pos3:String}{aft aft2 aft3:Array Edge}{r:Option Nat}{ds:List Deferred}
variable {ops:Array Oper}{rest:List Oper}{Q:Exit→Act→World→Prop}{n:Nat}{a:Act}{w:World}{x y z x2:Operand}{α β:Type}[DecidableEq α]
theorem a0q {V:KV P α β}{t d1 d2:Nat}{bm nn:Nat}{l:List (α×β)}{i:α}{c:β}{z0:Value}(ht:P.underlying t=some (.map V.k V.e))(hz0:∀w,(zeroValue V.e).run P w=.ok z0 w)(hf:FrD n ds a w L)[hL:AvL bm L](hx:opd L x=some (E (.map (some bm))))
  (hy:opd L y=some (E (V.kv i))) (h1:d1<n) (h2:d2<n) (hx2:∀v0 st,opd ((d2,E st)::(d1,E (.tuple #[v0,st]))::L) x2=some (E (.map (some bm)))) (hz:∀v0 st,opd ((d2,E st)::(d1,E (.tuple #[v0,st]))::L) z=some (E (V.mv c))) (hM:MpR V w bm nn l) (hn:nn<maxLen) (hi:V.ok i) (hc:V.okv c)
  (kk:∀a' w' v0 st,w.grownBy w' (some bm)→MpR V w' bm (nn+1) (aT l i c)→FrD n ds a' w' ((d2,E st)::(d1,E (.tuple #[v0,st]))::L)→wpListIn (FW r) 0 P ops Q rest a' w') :
  wpListIn (FW r) 0 P ops Q (⟨some d1,.mapEntry t x y,ty,pos,aft,none⟩::⟨some d2,.extract (.tmp d1) 1,ty2,pos2,aft2,none⟩::⟨none,.entryStore t x2 (.tmp d2) z,ty,pos3,aft3,none⟩::rest) a w:=
 wpListIn_plain rfl fun K hK=>by
  have hxv:a.eval x=.map (some bm):=hf.opd x _ hx
  have hyv:a.eval y=V.kv i:=hf.opd y _ hy
  obtain⟨w',q1,q2,q3⟩:=hM.put hi hc ht hn
  obtain⟨v0,st,o1,k1,k3⟩:=hM.slot2 ht hz0 hi
  obtain⟨o2,k4,k5⟩:=k3 (setBlock w bm o1) (V.mv c) (jV hM.lt)
  rw[rH] at k4
  obtain⟨w1,hw1⟩:=eqX (setBlock w bm o1)
  rw[← hw1] at k1 k4
  have hww:setBlock w bm o2=w':=by
   rw[q1] at k5
   exact ((Result.ok.inj k5).2).symm
  have hw2:setBlock w1 bm o2=w':=by rw[hw1,rH];exact hww
  rw[hww] at k4
  have g1:w.grownBy w1 (some bm):=by rw[hw1];exact jU _ _ _
  have g2:w1.grownBy w' (some bm):=by rw[← hw2];exact jU _ _ _
  refine OpR.wp (R:=fun u w2=>u=.tuple #[v0,goInt st]∧w2=w1) ?_ ?_
  ·simp only[OpR,execOp,hxv,hyv,Sem.run_bind,k1,Result.andThen_ok,Sem.run_pure]
   exact⟨trivial,trivial⟩
  ·rintro u w2 ⟨rfl,hw⟩
   rw[hw]
   refine hK _ _ ?_
   have hf1:=(hf.gr g1).put (d:=some d1) (v:=.tuple #[v0,goInt st]) (A:=E (.tuple #[v0,goInt st])) (Ext.rfl' _) (fun k hk=>by cases hk;exact h1) rfl
   refine wpListIn_plain rfl fun K hK=>?_
   have hev:(a.put (some d1) (.tuple #[v0,goInt st])).eval (.tmp d1)=.tuple #[v0,goInt st]:=hf1.opd (.tmp d1) (E (.tuple #[v0,goInt st])) (by simp[opd,aG,push])
   refine OpR.wp (R:=fun u w2=>u=goInt st∧w2=w1) ?_ ?_
   ·simp only[OpR,execOp,hev]
    simp[Instr.extract]
   ·rintro u w2 ⟨rfl,hw⟩
    rw[hw]
    refine hK _ _ ?_
    have hf2:=hf1.put (d:=some d2) (v:=goInt st) (A:=E (goInt st)) (Ext.rfl' _) (fun k hk=>by cases hk;exact h2) rfl
    refine wpListIn_plain rfl fun K hK=>?_
    have e1:((a.put (some d1) (.tuple #[v0,goInt st])).put (some d2) (goInt st)).eval x2=.map (some bm):=hf2.opd x2 _ (hx2 _ _)
    have e2:((a.put (some d1) (.tuple #[v0,goInt st])).put (some d2) (goInt st)).eval z=V.mv c:=hf2.opd z _ (hz _ _)
    have e3:((a.put (some d1) (.tuple #[v0,goInt st])).put (some d2) (goInt st)).eval (.tmp d2)=goInt st:=hf2.opd (.tmp d2) (E (goInt st)) (by simp[opd,aG,push])
    refine OpR.wp (R:=fun _ w2=>w2=w') ?_ ?_
    ·simp only[OpR,execOp,e1,e2,e3,Sem.run_bind,k4,Result.andThen_ok,Sem.run_pure]
    ·rintro _ w2 rfl
     exact hK _ _ (kk _ _ _ _ q3 q2 (FrD.gr (L:=(d2,E (goInt st))::(d1,E (.tuple #[v0,goInt st]))::L) hf2 g2))
end tail
section ops
variable {P:Program}{w0:World}{L:Env}{ty:TypeId}{pos:String}{aft:Array Edge}{x y s:Operand}{t b n:Nat}
variable {α β:Type}[DecidableEq α]{V:KV P α β}{l:List (α×β)}{i:α}{c:β}
def SlK (V:KV P α β)(t b n:Nat)(l:List (α×β))(i:α):VA:=⟨fun st w=>b<w.heap.size∧∀w2 c,V.okv c→w2.heap[b]?=w.heap[b]?→∃w3,(Instr.entryStore t (.map (some b)) st (V.mv c)).run P w2=.ok () w3∧w2.grownBy w3 (some b)∧MpR V w3 b (n+1) (aT l i c),
 fun v w w' e ⟨h1,h2⟩=>⟨Nat.lt_of_lt_of_le h1 e.size,fun w2 c hc hw=>h2 w2 c hc (hw.trans (e.block b h1))⟩⟩
theorem mD {w w':World}{b:Nat}(h:w.grownBy w' (some b)):Chg (fun d=>d=b) w w':=⟨h.os,h.tape,h.output,h.size,fun k hk hn=>h.block k hk fun hh=>hn (by cases hh;rfl)⟩
theorem enK {z0:Value}(ht:P.underlying t=some (.map V.k V.e))(hz0:∀w,(zeroValue V.e).run P w=.ok z0 w)(hx:opd L x=some (E (.map (some b))))(hy:opd L y=some (E (V.kv i)))(hM:MpR V w0 b n l)(hi:V.ok i)(hn:n<maxLen){d:Option Tmp} :
  cG P w0 (Chg fun d=>d=b) (fun _=>True) L ⟨d,.mapEntry t x y,ty,pos,aft,none⟩ (Tup [Any,SlK V t b n l i]):=by
 refine⟨fun ρ w he hv=>?_⟩
 have hxv:ρ x=.map (some b):=hv x (by simp[Op.operands]) _ hx
 have hyv:ρ y=V.kv i:=hv y (by simp[Op.operands]) _ hy
 have hM1:=hM.ext he
 obtain⟨v0,st,o1,k1,k3⟩:=hM1.slot2 ht hz0 hi
 simp only[OpR,execOp,hxv,hyv,Sem.run_bind,k1,Result.andThen_ok,Sem.run_pure]
 refine⟨mD (jU _ _ _),Tup.two trivial ⟨by simpa[setBlock] using hM1.lt,fun w2 c hc hw2=>?_⟩,trivial⟩
 rw[jV hM1.lt] at hw2
 have hbl:b<w2.heap.size:=(Array.getElem?_eq_some_iff.1 hw2).1
 obtain⟨o2,k4,k5⟩:=k3 w2 (V.mv c) hw2
 obtain⟨w',q1,q2,q3⟩:=hM1.put hi hc ht hn
 have hww:setBlock w b o2=w':=by
  rw[q1] at k5
  exact ((Result.ok.inj k5).2).symm
 exact⟨_,k4,jU _ _ _,q2.pres (by rw[← hww,jV hbl,jV hM1.lt])⟩
theorem esK (hx:opd L x=some (E (.map (some b))))(hs:opd L s=some (SlK V t b n l i))(hy:opd L y=some (E (V.mv c)))(hc:V.okv c) :
  cG P w0 (Chg fun d=>d=b) (fun w'=>MpR V w' b (n+1) (aT l i c)) L ⟨none,.entryStore t x s y,ty,pos,aft,none⟩ Any:=by
 refine⟨fun ρ w he hv=>?_⟩
 have hxv:ρ x=.map (some b):=hv x (by simp[Op.operands]) _ hx
 have hsv:=hv s (by simp[Op.operands]) _ hs
 have hyv:ρ y=V.mv c:=hv y (by simp[Op.operands]) _ hy
 obtain⟨w3,k1,k2,k3⟩:=hsv.2 w c hc rfl
 simp only[OpR,execOp,hxv,hyv,Sem.run_bind,k1,Result.andThen_ok,Sem.run_pure]
 exact⟨mD k2,trivial,k3⟩
end ops
end Go.Mono
namespace Go.Mono
open Go Go.Proofs Go.RowKit Go.Gr
theorem gD:∀x,(edF x).length=2:=fun _=>rfl
theorem gF:∀x,(intF x).length=1:=fun _=>rfl
def kp {α:Type}(l:List α)(p:Nat→Bool):Nat→List α
 | 0=>[]
 | j+1=>kp l p j++if p j=true then [] else (l[j]?).toList
theorem jW {α:Type}{l:List α}{p:Nat→Bool}{j:Nat}{x:α}(hx:l[j]?=some x):kp l p (j+1)=kp l p j++if p j=true then [] else [x]:=by rw[kp,hx];rfl
theorem rI {α:Type}(l:List α)(p:Nat→Bool):∀j,(kp l p j).length≤j
 | 0=>Nat.le_refl _
 | j+1=>by
  have h:=rI l p j
  rw[kp,List.length_append]
  split
  ·exact Nat.le_succ_of_le h
  ·cases l[j]? with
   | none=>exact Nat.le_succ_of_le h
   | some x=>exact Nat.succ_le_succ h
theorem mE {α:Type}{l:List α}{p:Nat→Bool}:∀{k:Nat},k≤l.length→(∀i,i<k→p i=false)→kp l p k=l.take k
 | 0,_,_=>rfl
 | k+1,h,hp=>by
  have hx:=List.getElem?_eq_getElem (show k<l.length by omega)
  rw[jW hx,mE (by omega) (fun i hi=>hp i (by omega)),if_neg (by rw[hp k (by omega)];decide),bs hx]
theorem rJ {α:Type}{l:List α}{p:Nat→Bool}{k:Nat}(hk:p k=true):∀{j:Nat},k<j→(kp l p j).length<j
 | 0,h=>by omega
 | j+1,h=>by
  by_cases h1:k=j
  ·subst h1
   rw[kp,if_pos hk,List.append_nil]
   exact Nat.lt_succ_of_le (rI l p _)
  ·have h2:=rJ (l:=l) hk (show k<j by omega)
   rw[kp,List.length_append]
   split
   ·exact Nat.lt_succ_of_lt h2
   ·cases l[j]? with
    | none=>exact Nat.lt_succ_of_lt h2
    | some x=>exact Nat.succ_lt_succ h2
theorem rK {l:List (Int×Int)}{p:Int×Int→Bool}:∀k,k≤l.length→kp l (fun i=>p (g2 l i)) k=(l.take k).filter fun x => !p x
 | 0,_=>rfl
 | k+1,h=>by rw[jW (gB (by omega)),rK k (by omega),rG (gB (by omega))]
def stp (p:Nat→Bool)(n:Nat):Nat:=if cr p n = -1 then n else (cr p n).toNat+1
theorem rL {p:Nat→Bool}{k n:Nat}(hk:k<n)(h1:∀i,i<k→p i=false)(h2:p k=true):stp p n=k+1:=by
 rw[stp,fw hk h1 h2,if_neg (by omega),Int.toNat_natCast]
theorem rM {p:Nat→Bool}{n:Nat}(h:∀i,i<n→p i=false):stp p n=n:=by rw[stp,eR h,if_pos rfl]
def StC (P:Program)(id:FuncId)(caps:Array Value)(T:Nat→Prop)(l:List (Int×Int))(p:Nat→Bool)(J:Nat→World→Prop):Prop:=
 ∀k x w,l[k]?=some x→J k w→Calls P id (#[edV x]++caps) w (fun en w'=>∃u,en=.returned u∧Chg T w w'∧(E (B (p k))).p u w'∧J (k+1) w')
theorem a0r {T:Nat→Prop}(l:List (Int×Int))(v:Value)(id:FuncId)(caps:Array Value)(p:Nat→Bool)(J:Nat→World→Prop)(U:World)(hen:Proofs.Enters Tryz.prog id)(h:(Dv (slE edE) T l).p v U)
  (hJe:∀k w w',J k w→Ext w w'→J k w') (hp:StC Tryz.prog id caps T l p J) (HJ:J 0 U) (hl:l.length≤100000) :
  Calls Tryz.prog 100 #[v,.func (.func id) #[] caps] U (fun en w'=>∃u,en=.returned u∧Chg T U w'∧(E (I (cr p l.length))).p u w'∧J (stp p l.length) w'):=by
 haveI:InS T T:=⟨fun _ h=>h⟩
 have Hw:Chg T U U:=Chg.rfl' _ _
 obtain⟨W,hW⟩:=eqX (noW U)
 have e:Ext W U:=by rw[hW];exact gC Hw
 obtain⟨w,hwU⟩:=eqX U
 have goal:Calls Tryz.prog 100 #[v,.func (.func id) #[] caps] w (fun en w'=>∃u,en=.returned u∧Chg T U w'∧(E (I (cr p l.length))).p u w'∧J (stp p l.length) w'):=by
  replace Hw:Chg T U w:=by rw[hwU];exact Hw
  replace e:Ext W w:=by rw[hwU];exact e
  replace HJ:J 0 w:=by rw[hwU];exact HJ
  replace h:(Dv (slE edE) T l).p v w:=by rw[hwU];exact h
  refine eN [v,.func (.func id) #[] caps] [Dv (slE edE) T l,E (.func (.func id) #[] caps)] Tryz.func100 Tryz.ntmps100 ?_ fun a hf=>?_
  rotate_left
  rotate_right
  ·exact arg2 h rfl
  refine seq <| ab <| tA hf rfl fun a hf=>aa ?_
  refine seq <| seq ?_
  refine rgN 3 hf <| st (mv rfl) <| st (aB U31 (isR rfl)) <| st (mv rfl) <| en fun a w e' hf=>?_
  replace Hw:=Hw.ext e'
  replace HJ:=hJe _ _ _ HJ e'
  replace e:=e.tr e'
  refine aa ?_
  replace hf:=hf.keep [0,1,7,8]
  refine blk (aF (fun r0 a w=>∃(k:Nat) ,r0=l.length - k∧k≤l.length∧Fr 19 a w [(0,Dv (slE edE) T l),(1,E (.func (.func id) #[] caps)),(7,E (I (l.length:Nat))),(8,E (I k))]∧Ext W w∧(∀i,i<k→p i=false)∧Chg T U w∧J k w) l.length ⟨0,rfl,by omega,hf,e,⟨fun i hi=>by omega,Hw,HJ⟩⟩ ?_)
  rintro r0 a w ⟨k,rfl,hk,hf,e,Ho,Hw,HJ⟩
  refine seq <| rgN 1 hf <| st (lss rfl rfl) <| en fun a w e' hf=>?_
  replace Hw:=Hw.ext e'
  replace HJ:=hJe _ _ _ HJ e'
  replace e:=e.tr e'
  refine aa <| seq <| ifc hf rfl (fun hc=>ah ?_) (fun hc=>aC ?_)
  rotate_left
  rotate_left
  ·have hlt:=ltC hc
   replace hf:=hf.kp [0,1,7,8]
   refine seq <| blk <| seq <| rgN 1 hf <| st (mv rfl) <| en fun a w e' hf=>?_
   replace Hw:=Hw.ext e'
   replace HJ:=hJe _ _ _ HJ e'
   replace e:=e.tr e'
   refine tA hf rfl fun a hf=>aa <| seq <| rgN 5 hf <| st (mv rfl) <| st (mv rfl) <| st (mv rfl) <| st (aD U31 S60 (isR rfl) rfl (by omega) (gB hlt)) <| st (jS T60 (isR rfl)) <| en fun a w e' hf=>?_
   replace Hw:=Hw.ext e'
   replace HJ:=hJe _ _ _ HJ e'
   replace e:=e.tr e'
   refine gS (S:=T) (F:=J (k+1)) (A:=E (B (p k))) hf (by decide) hen (hfo:=by exact rfl) ?_ fun a w hc HF hf=>?_
   ·have e15:a.eval (.tmp 15)=edV (g2 l k):=hf.opd (.tmp 15) _ rfl
    simp only[List.map_toArray,List.map_cons,List.map_nil,e15]
    exact hp k _ w (gB hlt) HJ
   replace Hw:=Hw.tr hc
   replace e:Ext W w:=by rw[hW];exact gC Hw
   have HJ:=HF
   refine aa <| ifc hf rfl (fun hb=>?_) (fun hb=>?_)
   ·refine seq <| rgN 1 hf <| st (mv rfl) <| en fun a w e' hf=>?_
    replace Hw:=Hw.ext e'
    replace HJ:=hJe _ _ _ HJ e'
    replace e:=e.tr e'
    refine tA hf rfl fun a hf=>aa <| ai ?_
    simp only[Exit.then,Exit.inBlock]
    refine am rfl hf rfl ?_
    rintro _ rfl
    exact⟨_,rfl,Hw,congrArg I (fw hlt Ho hb).symm,by rw[rL hlt Ho hb];exact HJ⟩
   ·refine ah <| rgN 1 hf <| st ((add rfl rfl (by omega)).eq (iN k)) <| en fun a w e' hf=>?_
    replace Hw:=Hw.ext e'
    replace HJ:=hJe _ _ _ HJ e'
    replace e:=e.tr e'
    refine tP hf (mv rfl) fun a w e' hf=>?_
    replace Hw:=Hw.ext e'
    replace HJ:=hJe _ _ _ HJ e'
    replace e:=e.tr e'
    refine aa ?_
    replace hf:=hf.keep [0,1,7,8]
    refine⟨_,?_,k+1,rfl,by omega,hf,e,?_⟩
    ·omega
    exact⟨fun i hi=>by
     by_cases hk:i=k
     ·subst hk;exact hb
     ·exact Ho i (by omega),Hw,HJ⟩
  ·obtain rfl:=dnE hc hk
   refine seq <| ab <| tA hf rfl fun a hf=>aa <| ai <| am rfl hf rfl ?_
   rintro _ rfl
   exact⟨_,rfl,Hw,congrArg I (eR Ho).symm,by rw[rM Ho];exact HJ⟩
 rw[hwU] at goal
 exact goal
theorem a0s {T:Nat→Prop}(l:List (Int×Int))(v:Value)(id:FuncId)(caps:Array Value)(p:Nat→Bool)(J:Nat→World→Prop)(N:Nat)(U:World)(hen:Proofs.Enters Tryz.prog id)(Ho:OwR edE 60 N G0 U l v)(hl:l.length≤100000)
  (hT:∀b,v.ownBlock=some b→¬T b) (hTU:∀b,T b→b<U.heap.size) (hJe:∀k w w',J k w→Ext w w'→J k w') (hJo:∀k w w',J k w→Chg (fun b=>v.ownBlock=some b) w w'→J k w') (hp:StC Tryz.prog id caps T l p J) (HJ:J 0 U) :
  Calls Tryz.prog 47 #[v,.func (.func id) #[] caps] U fun en w'=>∃u,en=.returned u∧Chg (fun b=>v.ownBlock=some b∨T b) U w'∧OwR edE 60 N G0 w' (kp l p l.length) u∧J l.length w':=by
 obtain⟨S,hS⟩:∃S:Nat→Prop,S=fun b=>v.ownBlock=some b∨T b:=⟨_,rfl⟩
 rw[← hS]
 have hTS:∀b,T b→S b:=fun b hb=>by rw[hS];exact .inr hb
 have Hc:Chg S U U:=Chg.rfl' _ _
 obtain⟨W,hW⟩:=eqX (noW U)
 have hW0:W.heap.size=0:=by rw[hW];rfl
 have e:Ext W U:=by rw[hW];exact gC Hc
 obtain⟨w,hwU⟩:=eqX U
 have goal:Calls Tryz.prog 47 #[v,.func (.func id) #[] caps] w fun en w'=>∃u,en=.returned u∧Chg S U w'∧OwR edE 60 N G0 w' (kp l p l.length) u∧J l.length w':=by
  have Hw:Chg S U w:=by rw[hwU];exact Hc
  have e:Ext W w:=by rw[hwU];exact e
  replace Ho:OwR edE 60 N G0 w l v:=by rw[hwU];exact Ho
  replace HJ:J 0 w:=by rw[hwU];exact HJ
  refine eN [v,.func (.func id) #[] caps] [E v,E (.func (.func id) #[] caps)] Tryz.func47 Tryz.ntmps47 ?_ fun a hf=>?_
  ·exact arg2 rfl rfl
  dsimp only[params,Nat.reduceAdd] at hf
  refine seq <| ab <| tA hf rfl fun a hf=>aa ?_
  obtain⟨i0,hi0⟩:=eqX (cr p l.length)
  refine seq <| rgN 2 hf <| st (mv rfl) <| st (mv rfl) <| en fun a w e' hf=>?_
  obtain⟨Hw,Ho⟩:=up2 e' Hw Ho
  replace HJ:=hJe _ _ _ HJ e'
  replace e:=e.tr e'
  refine uj (S:=T) (F:=J (stp p l.length)) (A:=E (I i0)) hf (by decide) vu ?_ fun a w hc HF hf=>?_
  ·have e8:a.eval (.tmp 8)=v:=hf.opd (.tmp 8) _ rfl
   have e9:a.eval (.tmp 9)=.func (.func id) #[] caps:=hf.opd (.tmp 9) _ rfl
   simp only[List.map_toArray,List.map_cons,List.map_nil,e8,e9]
   rw[hi0]
   exact a0r l v id caps p J w hen (OwR.slN Ho hT) hJe hp HJ hl
  replace Hw:=Hw.tr (hc.to fun b _ hb=>hTS b hb)
  replace Ho:=OwR.chE Ho hc hT
  replace e:Ext W w:=by rw[hW];exact gC Hw
  have HJ:=HF
  refine tA hf rfl fun a hf=>aa ?_
  replace hf:=hf.keep [0,1,5]
  rcases iD p l.length with ⟨h1,h2⟩|⟨k,hk,h1,h2,h3⟩
  ·rw[← hi0] at h1
   subst h1
   refine seq <| seq ?_
   refine rgN 2 hf <| st (mv rfl) <| st ((eql rfl rfl).eq (congrArg Value.bool (show ((-1:Int) == -1)=true from rfl))) <| en fun a w e' hf=>?_
   obtain⟨Hw,Ho⟩:=up2 e' Hw Ho
   replace HJ:=hJe _ _ _ HJ e'
   replace e:=e.tr e'
   refine aa <| ifT hf rfl ?_
   refine seq <| rgN 1 hf <| st (mv rfl) <| en fun a w e' hf=>?_
   obtain⟨Hw,Ho⟩:=up2 e' Hw Ho
   replace HJ:=hJe _ _ _ HJ e'
   replace e:=e.tr e'
   refine tA hf rfl fun a hf=>aa <| ai ?_
   simp only[Exit.then,Exit.inBlock]
   refine am rfl hf rfl ?_
   rintro _ rfl
   rw[rM h2] at HJ
   rw[mE (Nat.le_refl _) h2,List.take_length]
   exact⟨_,rfl,Hw,Ho,HJ⟩
  ·rw[← hi0] at h1
   subst h1
   have hxk:l[k]?=some (g2 l k):=gB hk
   rw[rL hk h3 h2] at HJ
   have hk1:(((k:Nat):Int) == -1)=false:=beq_eq_false_iff_ne.2 (by omega)
   rcases Ho.rw lO with ⟨_,h0⟩|⟨b,cap,cur0,hv,hcap,HR,ht0⟩
   ·rw[h0] at hk;exact absurd hk (Nat.not_lt_zero _)
   have hSb:S b:=by rw[hS,hv];exact .inl rfl
   have hTb:¬T b:=hT b (by rw[hv];rfl)
   replace hJo:∀k w w',J k w→w.grownBy w' (some b)→J k w':=fun k w w' h1 hg=>hJo k w w' h1 ((mD hg).to fun c _ hc=>by rw[hc,hv];rfl)
   have hflen:=lO.flen l
   subst hv
   replace ht0:cur0.toList.take (l.length * 2)=l.flatMap edF:=ht0
   replace HR:RwR 2 60 N cap b cur0 w:=HR
   refine seq <| seq ?_
   refine rgN 2 hf <| st (mv rfl) <| st ((eql rfl rfl).eq (congrArg Value.bool (hk1))) <| en fun a w e' hf=>?_
   obtain⟨Hw,HR⟩:=up2 e' Hw HR
   replace HJ:=hJe _ _ _ HJ e'
   replace e:=e.tr e'
   refine aa <| ifF hf rfl ?_
   refine ah ?_
   refine seq <| seq ?_
   refine rgN 2 hf <| st (mv rfl) <| st ((add rfl rfl (by omega)).eq (iN k)) <| en fun a w e' hf=>?_
   obtain⟨Hw,HR⟩:=up2 e' Hw HR
   replace HJ:=hJe _ _ _ HJ e'
   replace e:=e.tr e'
   refine tA hf rfl fun a hf=>aa ?_
   replace hf:=hf.keep [0,1,5,6]
   have hkj:=Nat.lt_succ_self k
   have hfu:kp l p (k+1)=l.take k:=by rw[jW hxk,mE (by omega) h3,if_pos h2,List.append_nil]
   have hlk:(l.take k).length=k:=by rw[List.length_take];omega
   have hd0:(cur0.toList.drop ((k+1) * 2)).take ((l.length - (k+1)) * 2)=(l.drop (k+1)).flatMap edF:=by
    have:=congrArg (List.drop ((k+1) * 2)) ht0
    rw[jz gD,List.drop_take] at this
    rw[Nat.sub_mul];exact this
   have ht1:cur0.toList.take ((kp l p (k+1)).length * 2)=(kp l p (k+1)).flatMap edF:=by
    rw[hfu,hlk]
    have:=congrArg (List.take (k * 2)) ht0
    rw[jy gD,List.take_take,Nat.min_eq_left (Nat.mul_le_mul_right _ (Nat.le_of_lt hk))] at this
    exact this
   have hfk:(k:Int)=(((kp l p (k+1)).length:Nat):Int):=by rw[hfu,hlk]
   rw[hfk] at hf
   refine blk (aF (fun r0 a w=>∃(j:Nat) (cur:Array Value),r0=l.length - j∧k<j∧j≤l.length∧Fr 42 a w [(0,E (.slice (some ⟨b,0,none⟩) l.length cap)),(1,E (.func (.func id) #[] caps)),(5,E (I (((kp l p j).length:Nat)))),(6,E (I (j:Nat)))]∧Ext W w∧Chg S U w∧J j w∧RwR 2 60 N cap b cur w ∧
    cur.toList.take ((kp l p j).length * 2)=(kp l p j).flatMap edF∧(cur.toList.drop (j * 2)).take ((l.length - j) * 2)=(l.drop j).flatMap edF) (l.length - (k+1)) ⟨k+1,cur0,rfl,hkj,hk,hf,e,Hw,HJ,HR,ht1,hd0⟩ ?_)
   rintro r0 a w ⟨j,cur,rfl,hkj,hjl,hf,e,Hw,HJ,HR,ht,hd⟩
   have hfl:=rJ (l:=l) h2 hkj
   obtain⟨ys,hys⟩:=eqX (kp l p j)
   rw[← hys] at ht hfl hf
   refine seq <| seq ?_
   refine rgN 4 hf <| st (mv rfl) <| st (mv rfl) <| st (eG U31 rfl) <| st (lss rfl rfl) <| en fun a w e' hf=>?_
   obtain⟨Hw,HR⟩:=up2 e' Hw HR
   replace HJ:=hJe _ _ _ HJ e'
   replace e:=e.tr e'
   refine aa <| ifc hf rfl (fun hc=>ah ?_) (fun hc=>aC ?_)
   ·have hlt:j<l.length:=by have:=of_decide_eq_true hc;omega
    have hx:=gB hlt
    generalize g2 l j=x at hx
    have hm:=List.mem_of_getElem? hx
    have hfs:=jW (p:=p) hx
    rw[← hys] at hfs
    have hcx:=pS gD hd hx (by omega)
    have hdn:(cur.toList.drop ((j+1) * 2)).take ((l.length - (j+1)) * 2)=(l.drop (j+1)).flatMap edF:=pT gD (m:=l.length - (j+1)) (by rw[show l.length - (j+1)+1=l.length - j by omega];exact hd)
    have hszc:(j+1) * 2≤cur.size:=by rw[HR.sz];exact Nat.mul_le_mul_right _ (by omega)
    refine seq <| blk ?_
    have hcx2:Value.agg (cur.extract (j * 2) (j * 2+2))=edV x:=by
     rw[edV]
     refine congrArg Value.agg (Array.ext' ?_)
     rw[Array.toList_extract,List.extract_eq_take_drop,show j * 2+2 - j * 2=2 by omega]
     exact hcx
    obtain⟨N5,hN5⟩:=eqX w.heap.size
    have hN5s:N5≤w.heap.size:=Nat.le_of_eq hN5
    have hU5:U.heap.size≤N5:=by rw[hN5];exact Hw.size
    have hb5:b<N5:=by rw[hN5];exact HR.bl.lt
    have eb:=Ext.rfl' w
    obtain⟨w5,hw5⟩:=eqX w
    rw[← hw5] at HJ
    have hN5w:w5.heap.size=N5:=by rw[hw5,hN5]
    replace eb:Ext w5 w:=by rw[hw5];exact Ext.rfl' _
    refine seq <| ab <| tP hf (mv rfl) fun a w e' hf=>?_
    obtain⟨Hw,HR,hN5s,eb,e⟩:=up5 e' Hw HR hN5s eb e
    refine tP hf (mv rfl) fun a w e' hf=>?_
    obtain⟨Hw,HR,hN5s,eb,e⟩:=up5 e' Hw HR hN5s eb e
    refine tP hf ((idxS U31 S60 rfl rfl (by omega)).eq ((by rw[Int.toNat_natCast,Nat.zero_add]:Value.pointer (some ⟨b,0+((j:Nat):Int).toNat * 2,none⟩)=Value.pointer (some ⟨b,j * 2,none⟩)))) fun a w e' hf=>?_
    obtain⟨Hw,HR,hN5s,eb,e⟩:=up5 e' Hw HR hN5s eb e
    refine tP hf ((ldP T60 rfl HR.bl (by omega)).eq (hcx2)) fun a w e' hf=>?_
    obtain⟨Hw,HR,hN5s,eb,e⟩:=up5 e' Hw HR hN5s eb e
    refine tL I60 hf fun a b7 w e' hb7 hs7 B7 hf=>?_
    have lo7_hN5s:=Nat.le_trans hN5s (Nat.le_of_eq hb7.symm)
    obtain⟨Hw,HR,hN5s,eb,e⟩:=up5 e' Hw HR hN5s eb e
    have n7:N5≤b7:=lo7_hN5s
    have nb7:b≠b7:=by omega
    refine az T60 hf rfl rfl (bk rfl rfl) B7 rfl rfl fun w hg hsz B7 hf=>?_
    replace e:=e.gr hg (by omega);replace Hw:=Hw.gr hg (.inr (by omega));replace HR:=HR.gr hg (by omega);replace eb:=eb.gr hg (by omega);clear hg
    replace HJ:=hJe _ _ _ HJ eb
    refine aa ?_
    replace B7:Blk w b7 #[I x.1,I x.2] 60:=B7
    replace hf:=hf.kp [0,1,5,6,7]
    refine seq <| rgN 2 hf <| st (mv rfl) <| st ((ldW T60 rfl B7 rfl).eq ((rfl:_=edV x))) <| en fun a w e' hf=>?_
    obtain⟨Hw,HR⟩:=up2 e' Hw HR
    replace HJ:=hJe _ _ _ HJ e'
    obtain⟨e,B7⟩:=up2 e' e B7
    refine gS (S:=T) (F:=J (j+1)) (A:=E (B (p j))) hf (by decide) hen (hfo:=by exact rfl) ?_ fun a w hc HF hf=>?_
    ·have e27:a.eval (.tmp 27)=edV x:=hf.opd (.tmp 27) _ rfl
     simp only[List.map_toArray,List.map_cons,List.map_nil,e27]
     exact hp j _ w hx HJ
    have hT7:¬T b7:=fun h=>by have:=hTU b7 h;omega
    replace Hw:=Hw.tr (hc.to fun b _ hb=>hTS b hb)
    replace e:Ext W w:=by rw[hW];exact gC Hw
    replace HR:RwR 2 60 N cap b cur w:=⟨HR.bl.ch hc hTb,HR.lo,HR.sz,HR.mx⟩
    replace B7:=B7.ch hc hT7
    have HJ:=HF
    refine tP hf (aY rfl) fun a w e' hf=>?_
    obtain⟨Hw,HR⟩:=up2 e' Hw HR
    replace HJ:=hJe _ _ _ HJ e'
    obtain⟨e,B7⟩:=up2 e' e B7
    refine aa ?_
    replace hf:=hf.kp [0,1,5,6,7,29]
    by_cases hpx:p j=true
    ·rw[if_pos hpx,List.append_nil] at hfs
     refine ifc hf rfl (fun h=>by rw[hpx] at h;cases h) (fun _=>?_)
     refine ah ?_
     rw[← hfs] at ht hf
     replace hf:=hf.kp [0,1,5,6]
     refine rgN 2 hf <| st (mv rfl) <| st ((add rfl rfl (by omega)).eq (iN j)) <| en fun a w e' hf=>?_
     obtain⟨Hw,HR⟩:=up2 e' Hw HR
     replace HJ:=hJe _ _ _ HJ e'
     obtain⟨e,B7⟩:=up2 e' e B7
     refine tA hf rfl fun a hf=>aa ?_
     replace hf:=hf.keep [0,1,5,6]
     exact⟨l.length - (j+1),by omega,j+1,cur,rfl,by omega,hlt,hf,e,Hw,HJ,HR,ht,hdn⟩
    ·rw[if_neg hpx] at hfs
     refine ifc hf rfl (fun _=>?_) (fun h=>absurd (by simpa using h) hpx)
     have hys1:ys.length+1≤j:=hfl
     have hszy:(ys.length+1) * 2≤cur.size:=Nat.le_trans (Nat.mul_le_mul_right _ (by omega)) hszc
     refine seq <| rgN 4 hf <| st (mv rfl) <| st (mv rfl) <| st ((ldW T60 rfl B7 rfl).eq ((rfl:_=edV x))) <| st ((idxS U31 S60 rfl rfl (by omega)).eq ((by rw[Int.toNat_natCast,Nat.zero_add]:Value.pointer (some ⟨b,0+((ys.length:Nat):Int).toNat * 2,none⟩)=Value.pointer (some ⟨b,ys.length * 2,none⟩)))) <| en fun a w e' hf=>?_
     obtain⟨Hw,HR⟩:=up2 e' Hw HR
     replace HJ:=hJe _ _ _ HJ e'
     obtain⟨e,B7⟩:=up2 e' e B7
     refine pq T60 hf rfl rfl (bk rfl rfl) HR.bl rfl (by omega) fun w hg hsz hB hf=>?_
     replace e:=e.gr hg (by omega);replace Hw:=Hw.gr hg (.inl hSb);replace HJ:=hJo _ _ _ HJ hg;clear hg
     have ht2:=pU (x:=x) gD ht (by rw[Array.length_toList];exact hszy)
     have hdd:=pV (x:=x) gD (cur:=cur.toList) (i:=ys.length) (j:=j+1) (by rw[Array.length_toList];exact hszy) (by omega)
     have HR2:RwR 2 60 N cap b (cur.toList.take (ys.length * 2)++edF x++cur.toList.drop (ys.length * 2+2)).toArray w:=⟨hB,HR.lo,by
      have h5:=HR.sz
      have h6:(edF x).length=2:=rfl
      simp only[List.size_toArray,List.length_append,List.length_take,List.length_drop,h6,Array.length_toList]
      omega,HR.mx⟩
     have hdn2:=hdn
     rw[← hdd] at hdn2
     replace ht2:(cur.toList.take (ys.length * 2)++edF x++cur.toList.drop (ys.length * 2+2)).toArray.toList.take ((ys++[x]).length * 2)=(ys++[x]).flatMap edF:=by rw[List.length_append,List.length_singleton];exact ht2
     replace hdn2:((cur.toList.take (ys.length * 2)++edF x++cur.toList.drop (ys.length * 2+2)).toArray.toList.drop ((j+1) * 2)).take ((l.length - (j+1)) * 2)=(l.drop (j+1)).flatMap edF:=hdn2
     generalize (cur.toList.take (ys.length * 2)++edF x++cur.toList.drop (ys.length * 2+2)).toArray=cur2 at HR2 ht2 hdn2
     refine aa ?_
     replace hf:=hf.keep [0,1,5,6]
     refine rgN 2 hf <| st (mv rfl) <| st ((add rfl rfl (by omega)).eq (congrArg (Value.int .i64) (show ((ys.length:Nat):Int)+1=(((ys++[x]).length:Nat):Int) by simp))) <| en fun a w e' hf=>?_
     obtain⟨Hw,HR2⟩:=up2 e' Hw HR2
     replace HJ:=hJe _ _ _ HJ e'
     replace e:=e.tr e'
     refine tA hf rfl fun a hf=>aa ?_
     rw[← hfs] at ht2 hf
     replace hf:=hf.keep [0,1,5,6]
     refine rgN 2 hf <| st (mv rfl) <| st ((add rfl rfl (by omega)).eq (iN j)) <| en fun a w e' hf=>?_
     obtain⟨Hw,HR2⟩:=up2 e' Hw HR2
     replace HJ:=hJe _ _ _ HJ e'
     replace e:=e.tr e'
     refine tA hf rfl fun a hf=>aa ?_
     replace hf:=hf.keep [0,1,5,6]
     exact⟨l.length - (j+1),by omega,j+1,_,rfl,by omega,hlt,hf,e,Hw,HJ,HR2,ht2,hdn2⟩
   ·have hjl2:j=l.length:=by have:=of_decide_eq_false hc;omega
    subst hjl2
    rw[← hys]
    have hszc:ys.length * 2+(l.length - ys.length) * 2≤cur.size:=by rw[HR.sz,← Nat.add_mul];exact Nat.mul_le_mul_right _ (by omega)
    replace hf:=hf.kp [0,5]
    refine seq <| rgN 3 hf <| st (mv rfl) <| st (mv rfl) <| st ((pW U31 S60 rfl rfl (by omega) (by omega)).eq ((by rw[Nat.zero_add]:Value.slice (some ⟨b,0+ys.length * 2,none⟩) (l.length - ys.length) (cap - ys.length)=Value.slice (some ⟨b,ys.length * 2,none⟩) (l.length - ys.length) (cap - ys.length)))) <| en fun a w e' hf=>?_
    obtain⟨Hw,HR⟩:=up2 e' Hw HR
    replace HJ:=hJe _ _ _ HJ e'
    replace e:=e.tr e'
    refine pX U31 I60 (by intro v hv;simp[Value.cells] at hv;subst hv;rfl) (by decide) rfl hf rfl HR.bl (by omega) hszc (fun k hk=>by cases hk) fun a w zs hg hsz hzl hB hf=>?_
    replace e:=e.gr hg (by omega)
    replace Hw:=Hw.gr hg (.inl hSb)
    replace HJ:=hJo _ _ _ HJ hg
    refine aa ?_
    have HR2:RwR 2 60 N cap b (cur.toList.take (ys.length * 2)++zs++cur.toList.drop (ys.length * 2+(l.length - ys.length) * 2)).toArray w:=⟨hB,HR.lo,by
     have h5:=HR.sz
     simp only[List.size_toArray,List.length_append,List.length_take,List.length_drop,hzl,Array.length_toList]
     omega,HR.mx⟩
    have hfin:(cur.toList.take (ys.length * 2)++zs++cur.toList.drop (ys.length * 2+(l.length - ys.length) * 2)).toArray.toList.take (ys.length * 2)=ys.flatMap edF:=by
     rw[List.toList_toArray,List.append_assoc,List.take_append_of_le_length (by have h7:cur.toList.length=cur.size:=Array.length_toList;rw[List.length_take];omega),List.take_take,Nat.min_self];exact ht
    obtain⟨cur2,hcur2⟩:=eqX ((cur.toList.take (ys.length * 2)++zs++cur.toList.drop (ys.length * 2+(l.length - ys.length) * 2)).toArray)
    rw[← hcur2] at HR2 hfin
    replace hf:=hf.kp [0,5]
    refine seq <| rgN 3 hf <| st (mv rfl) <| st (mv rfl) <| st (lP U31 S60 rfl rfl (by omega)) <| en fun a w e' hf=>?_
    obtain⟨Hw,HR2⟩:=up2 e' Hw HR2
    replace HJ:=hJe _ _ _ HJ e'
    replace e:=e.tr e'
    refine tA hf rfl fun a hf=>aa <| ai <| am rfl hf rfl ?_
    rintro _ rfl
    exact⟨_,rfl,Hw,HR2.own lO (by omega) hfin (fun b hb=>hb.elim),HJ⟩
 rw[hwU] at goal
 exact goal
theorem rN (l:List (Int×Int))(v:Value)(id:FuncId)(caps:Array Value)(p:Int×Int→Bool)(N:Nat)(U:World)(hen:Proofs.Enters Tryz.prog id)(Ho:OwR edE 60 N G0 U l v)(hl:l.length≤100000)
  (hp:∀w x,x∈l→Chg (fun b=>v.ownBlock=some b) U w→Calls Tryz.prog id (#[edV x]++caps) w (Post (E (B (p x))) w)) :
  Calls Tryz.prog 47 #[v,.func (.func id) #[] caps] U fun en w'=>∃u,en=.returned u∧Chg (fun b=>v.ownBlock=some b) U w'∧OwR edE 60 N G0 w' (l.filter fun x => !p x) u:=by
 have h:=a0s (T:=fun _=>False) l v id caps (fun i=>p (g2 l i)) (fun _ w=>Chg (fun b=>v.ownBlock=some b) U w) N U hen Ho hl (fun _ _ h=>h) (fun _ h=>h.elim) (fun _ _ _ h k=>h.ext k) (fun _ _ _ h k=>h.tr k) (fun k x w hx hJ=>by
  have hm:=List.mem_of_getElem? hx
  have hg:g2 l k=x:=by rw[g2,hx];rfl
  dsimp only
  rw[hg]
  exact (hp w x hm hJ).mono fun en w' ⟨u,h1,h2,h3⟩=>⟨u,h1,h2.chg _,h3,hJ.ext h2⟩) (Chg.rfl' _ _)
 rw[rK _ (Nat.le_refl _),List.take_length] at h
 exact h.mono fun en w' ⟨u,h1,_,h3,h4⟩=>⟨u,h1,h4,h3⟩
theorem a0t (l:List (Int))(v:Value)(id:FuncId)(caps:Array Value)(p:Int→Bool)(N:Nat)(U:World)(hen:Proofs.Enters Tryz.prog id)(Ho:OwR intE 3 N G0 U l v)(hl:l.length≤100000)
  (hp:∀w x,x∈l→Chg (fun b=>v.ownBlock=some b) U w→Calls Tryz.prog id (#[I x]++caps) w (Post (E (B (p x))) w)) :
  Calls Tryz.prog 55 #[v,.func (.func id) #[] caps] U fun en w'=>∃u,en=.returned u∧Chg (fun b=>v.ownBlock=some b) U w'∧OwR intE 3 N G0 w' (l.filter fun x => !p x) u:=by
 obtain⟨S,hS⟩:∃S:Nat→Prop,S=fun b=>v.ownBlock=some b:=⟨_,rfl⟩
 rw[← hS]
 replace hp:∀w x,x∈l→Chg S U w→Calls Tryz.prog id (#[I x]++caps) w (Post (E (B (p x))) w):=by rw[hS];exact hp
 have Hc:Chg S U U:=Chg.rfl' _ _
 obtain⟨W,hW⟩:=eqX (noW U)
 have hW0:W.heap.size=0:=by rw[hW];rfl
 have e:Ext W U:=by rw[hW];exact gC Hc
 obtain⟨w,hwU⟩:=eqX U
 have goal:Calls Tryz.prog 55 #[v,.func (.func id) #[] caps] w fun en w'=>∃u,en=.returned u∧Chg S U w'∧OwR intE 3 N G0 w' (l.filter fun x => !p x) u:=by
  have Hw:Chg S U w:=by rw[hwU];exact Hc
  have e:Ext W w:=by rw[hwU];exact e
  have Ho:OwR intE 3 N G0 w l v:=by rw[hwU];exact Ho
  refine eN [v,.func (.func id) #[] caps] [E v,E (.func (.func id) #[] caps)] Tryz.func55 Tryz.ntmps55 ?_ fun a hf=>?_
  ·exact arg2 rfl rfl
  refine seq <| ab <| tA hf rfl fun a hf=>aa ?_
  obtain⟨i0,hi0⟩:=eqX (cr (fun i=>p (gi l i)) l.length)
  have Hw1:=Hw
  have Ho1:=Ho
  refine seq <| rgN 3 hf <| st (mv rfl) <| st (mv rfl) <| st (aw (A:=E (I i0)) (B:=E v) (C:=E (.func (.func id) #[] caps)) vB rfl rfl (fun u u' w he k1 k2=>by cases k1;cases k2;rw[hi0];exact a0n l v id caps p w hen (Ho1.ext he).sl (fun w' x hx he'=>hp w' x hx ((Hw1.ext he).ext he')) hl)) ?_
  refine en fun a w e' hf=>?_
  obtain⟨Hw,Ho,e⟩:=up3 e' Hw Ho e
  refine tA hf rfl fun a hf=>aa ?_
  replace hf:=hf.keep [0,1,5]
  rcases iD (fun i=>p (gi l i)) l.length with ⟨h1,h2⟩|⟨k,hk,h1,h2,h3⟩
  ·rw[← hi0] at h1
   subst h1
   refine seq <| seq ?_
   refine rgN 2 hf <| st (mv rfl) <| st ((eql rfl rfl).eq (congrArg Value.bool (show ((-1:Int) == -1)=true from rfl))) <| en fun a w e' hf=>?_
   obtain⟨Hw,Ho,e⟩:=up3 e' Hw Ho e
   refine aa <| ifT hf rfl ?_
   refine seq <| rgN 1 hf <| st (mv rfl) <| en fun a w e' hf=>?_
   obtain⟨Hw,Ho,e⟩:=up3 e' Hw Ho e
   refine tA hf rfl fun a hf=>aa <| ai ?_
   simp only[Exit.then,Exit.inBlock]
   refine am rfl hf rfl ?_
   rintro _ rfl
   rw[rF fun x hx=>by
    obtain⟨i,hi,he⟩:=List.getElem_of_mem hx
    have h4:=cA hi
    rw[List.getElem?_eq_getElem hi,he] at h4
    rw[Option.some.inj h4]
    exact h2 i hi]
   exact⟨_,rfl,Hw,Ho⟩
  ·rw[← hi0] at h1
   subst h1
   have hxk:l[k]?=some (gi l k):=cA hk
   obtain⟨xk,hxk'⟩:∃xk,xk=gi l k:=⟨_,rfl⟩
   rw[← hxk'] at hxk
   replace h2:p xk=true:=by rw[hxk'];exact h2
   have h3':∀y∈l.take k,p y=false:=fun y hy=>by
    obtain⟨i,hi,he⟩:=List.getElem_of_mem hy
    rw[List.length_take] at hi
    have h4:l[i]?=some (gi l i):=cA (by omega)
    rw[List.getElem_take] at he
    rw[List.getElem?_eq_getElem (by omega),he] at h4
    rw[Option.some.inj h4]
    exact h3 i (by omega)
   have hk1:(((k:Nat):Int) == -1)=false:=beq_eq_false_iff_ne.2 (by omega)
   rcases Ho.rw intFF with ⟨_,h0⟩|⟨b,cap,cur0,hv,hcap,HR,ht0⟩
   ·rw[h0] at hk;exact absurd hk (Nat.not_lt_zero _)
   have hSb:S b:=by rw[hS,hv];rfl
   have hflen:=intFF.flen l
   subst hv
   replace ht0:cur0.toList.take (l.length * 1)=l.flatMap intF:=ht0
   replace HR:RwR 1 3 N cap b cur0 w:=HR
   refine seq <| seq ?_
   refine rgN 2 hf <| st (mv rfl) <| st ((eql rfl rfl).eq (congrArg Value.bool (hk1))) <| en fun a w e' hf=>?_
   obtain⟨Hw,HR,e⟩:=up3 e' Hw HR e
   refine aa <| ifF hf rfl ?_
   refine ah ?_
   refine seq <| seq ?_
   refine rgN 2 hf <| st (mv rfl) <| st ((add rfl rfl (by omega)).eq (iN k)) <| en fun a w e' hf=>?_
   obtain⟨Hw,HR,e⟩:=up3 e' Hw HR e
   refine tA hf rfl fun a hf=>aa ?_
   replace hf:=hf.keep [0,1,5,6]
   have hkj:=Nat.lt_succ_self k
   have hfu:=a0o hxk h3' h2
   have hlk:(l.take k).length=k:=by rw[List.length_take];omega
   have hd0:(cur0.toList.drop ((k+1) * 1)).take ((l.length - (k+1)) * 1)=(l.drop (k+1)).flatMap intF:=by
    have:=congrArg (List.drop ((k+1) * 1)) ht0
    rw[jz gF,List.drop_take] at this
    rw[Nat.sub_mul];exact this
   have ht1:cur0.toList.take (((l.take (k+1)).filter fun x => !p x).length * 1)=((l.take (k+1)).filter fun x => !p x).flatMap intF:=by
    rw[hfu,hlk]
    have:=congrArg (List.take (k * 1)) ht0
    rw[jy gF,List.take_take,Nat.min_eq_left (Nat.mul_le_mul_right _ (Nat.le_of_lt hk))] at this
    exact this
   have hfk:(k:Int)=((((l.take (k+1)).filter fun x => !p x).length:Nat):Int):=by rw[hfu,hlk]
   rw[hfk] at hf
   refine blk (aF (fun r0 a w=>∃(j:Nat) (cur:Array Value),r0=l.length - j∧k<j∧j≤l.length∧Fr 42 a w [(0,E (.slice (some ⟨b,0,none⟩) l.length cap)),(1,E (.func (.func id) #[] caps)),(5,E (I ((((l.take j).filter fun x => !p x).length:Nat)))),(6,E (I (j:Nat)))]∧Ext W w∧Chg S U w∧RwR 1 3 N cap b cur w ∧
    cur.toList.take (((l.take j).filter fun x => !p x).length * 1)=((l.take j).filter fun x => !p x).flatMap intF∧(cur.toList.drop (j * 1)).take ((l.length - j) * 1)=(l.drop j).flatMap intF) (l.length - (k+1)) ⟨k+1,cur0,rfl,hkj,hk,hf,e,Hw,HR,ht1,hd0⟩ ?_)
   rintro r0 a w ⟨j,cur,rfl,hkj,hjl,hf,e,Hw,HR,ht,hd⟩
   have hfl:=a0p (l:=l) hxk h2 hkj
   obtain⟨ys,hys⟩:=eqX ((l.take j).filter fun x => !p x)
   rw[← hys] at ht hfl hf
   refine seq <| seq ?_
   refine rgN 4 hf <| st (mv rfl) <| st (mv rfl) <| st (eG U35 rfl) <| st (lss rfl rfl) <| en fun a w e' hf=>?_
   obtain⟨Hw,HR,e⟩:=up3 e' Hw HR e
   refine aa <| ifc hf rfl (fun hc=>ah ?_) (fun hc=>aC ?_)
   ·have hlt:j<l.length:=by have:=of_decide_eq_true hc;omega
    have hx:=cA hlt
    generalize gi l j=x at hx
    have hm:=List.mem_of_getElem? hx
    have hfs:=rG (p:=p) hx
    rw[← hys] at hfs
    have hcx:=pS gF hd hx (by omega)
    have hdn:(cur.toList.drop ((j+1) * 1)).take ((l.length - (j+1)) * 1)=(l.drop (j+1)).flatMap intF:=pT gF (m:=l.length - (j+1)) (by rw[show l.length - (j+1)+1=l.length - j by omega];exact hd)
    have hszc:(j+1) * 1≤cur.size:=by rw[HR.sz];exact Nat.mul_le_mul_right _ (by omega)
    refine seq <| blk ?_
    have hcx2:cur[j]?=some (I x):=by
     rw[← Array.getElem?_toList]
     have h5:((cur.toList.drop (j * 1)).take 1)[0]?=some (I x):=by rw[hcx];rfl
     rw[List.getElem?_take,if_pos Nat.zero_lt_one,List.getElem?_drop] at h5
     simpa using h5
    obtain⟨N5,hN5⟩:=eqX w.heap.size
    have hN5s:N5≤w.heap.size:=Nat.le_of_eq hN5
    have hU5:U.heap.size≤N5:=by rw[hN5];exact Hw.size
    have hb5:b<N5:=by rw[hN5];exact HR.bl.lt
    refine seq <| rgN 4 hf <| st (mv rfl) <| st (mv rfl) <| st ((idxS U35 S3 rfl rfl (by omega)).eq ((by rw[Int.toNat_natCast,Nat.zero_add,Nat.mul_one]:Value.pointer (some ⟨b,0+((j:Nat):Int).toNat * 1,none⟩)=Value.pointer (some ⟨b,j,none⟩)))) <| st (ld1 (v:=I x) T3 rfl HR.bl hcx2) <| en fun a w e' hf=>?_
    obtain⟨Hw,HR,hN5s,e⟩:=up4 e' Hw HR hN5s e
    refine tA hf rfl fun a hf=>aa ?_
    replace hf:=hf.keep [0,1,5,6,7]
    have Hw8:=Hw
    refine seq <| rgN 4 hf <| st (mv rfl) <| st (mv rfl) <| st (gR hen rfl rfl (fun v w he h=>by cases h;exact hp w x hm (Hw8.ext he))) ?_
    refine st (aY rfl) <| en fun a w e' hf=>?_
    obtain⟨Hw,HR,e⟩:=up3 e' Hw HR e
    refine aa ?_
    replace hf:=hf.kp [0,1,5,6,7,29]
    by_cases hpx:p x=true
    ·rw[if_pos hpx,List.append_nil] at hfs
     refine ifc hf rfl (fun h=>by rw[hpx] at h;cases h) (fun _=>?_)
     refine ah ?_
     rw[← hfs] at ht hf
     replace hf:=hf.kp [0,1,5,6]
     refine rgN 2 hf <| st (mv rfl) <| st ((add rfl rfl (by omega)).eq (iN j)) <| en fun a w e' hf=>?_
     obtain⟨Hw,HR,e⟩:=up3 e' Hw HR e
     refine tA hf rfl fun a hf=>aa ?_
     replace hf:=hf.keep [0,1,5,6]
     exact⟨l.length - (j+1),by omega,j+1,cur,rfl,by omega,hlt,hf,e,Hw,HR,ht,hdn⟩
    ·rw[if_neg hpx] at hfs
     refine ifc hf rfl (fun _=>?_) (fun h=>absurd (by simpa using h) hpx)
     have hys1:ys.length+1≤j:=hfl
     have hszy:(ys.length+1) * 1≤cur.size:=Nat.le_trans (Nat.mul_le_mul_right _ (by omega)) hszc
     refine seq <| rgN 4 hf <| st (mv rfl) <| st (mv rfl) <| st (mv rfl) <| st ((idxS U35 S3 rfl rfl (by omega)).eq ((by rw[Int.toNat_natCast,Nat.zero_add]:Value.pointer (some ⟨b,0+((ys.length:Nat):Int).toNat * 1,none⟩)=Value.pointer (some ⟨b,ys.length * 1,none⟩)))) <| en fun a w e' hf=>?_
     obtain⟨Hw,HR,e⟩:=up3 e' Hw HR e
     refine aI T3 hf rfl rfl rfl HR.bl (by omega) fun w hg hsz hB hf=>?_
     replace e:=e.gr hg (by omega);replace Hw:=Hw.gr hg (.inl hSb);clear hg
     have hset:(cur.setIfInBounds (ys.length * 1) (I x))=(cur.toList.take (ys.length * 1)++intF x++cur.toList.drop (ys.length * 1+1)).toArray:=by
      apply Array.ext'
      rw[Array.toList_setIfInBounds,List.toList_toArray,List.set_eq_take_append_cons_drop,if_pos (by have h7:cur.toList.length=cur.size:=Array.length_toList;omega)]
      simp[intF]
     rw[hset] at hB
     have ht2:=pU (x:=x) gF ht (by rw[Array.length_toList];exact hszy)
     have hdd:=pV (x:=x) gF (cur:=cur.toList) (i:=ys.length) (j:=j+1) (by rw[Array.length_toList];exact hszy) (by omega)
     have HR2:RwR 1 3 N cap b (cur.toList.take (ys.length * 1)++intF x++cur.toList.drop (ys.length * 1+1)).toArray w:=⟨hB,HR.lo,by
      have h5:=HR.sz
      have h6:(intF x).length=1:=rfl
      simp only[List.size_toArray,List.length_append,List.length_take,List.length_drop,h6,Array.length_toList]
      omega,HR.mx⟩
     have hdn2:=hdn
     rw[← hdd] at hdn2
     replace ht2:(cur.toList.take (ys.length * 1)++intF x++cur.toList.drop (ys.length * 1+1)).toArray.toList.take ((ys++[x]).length * 1)=(ys++[x]).flatMap intF:=by rw[List.length_append,List.length_singleton];exact ht2
     replace hdn2:((cur.toList.take (ys.length * 1)++intF x++cur.toList.drop (ys.length * 1+1)).toArray.toList.drop ((j+1) * 1)).take ((l.length - (j+1)) * 1)=(l.drop (j+1)).flatMap intF:=hdn2
     generalize (cur.toList.take (ys.length * 1)++intF x++cur.toList.drop (ys.length * 1+1)).toArray=cur2 at HR2 ht2 hdn2
     refine aa ?_
     replace hf:=hf.keep [0,1,5,6]
     refine rgN 2 hf <| st (mv rfl) <| st ((add rfl rfl (by omega)).eq (congrArg (Value.int .i64) (show ((ys.length:Nat):Int)+1=(((ys++[x]).length:Nat):Int) by simp))) <| en fun a w e' hf=>?_
     obtain⟨Hw,HR2,e⟩:=up3 e' Hw HR2 e
     refine tA hf rfl fun a hf=>aa ?_
     rw[← hfs] at ht2 hf
     replace hf:=hf.keep [0,1,5,6]
     refine rgN 2 hf <| st (mv rfl) <| st ((add rfl rfl (by omega)).eq (iN j)) <| en fun a w e' hf=>?_
     obtain⟨Hw,HR2,e⟩:=up3 e' Hw HR2 e
     refine tA hf rfl fun a hf=>aa ?_
     replace hf:=hf.keep [0,1,5,6]
     exact⟨l.length - (j+1),by omega,j+1,_,rfl,by omega,hlt,hf,e,Hw,HR2,ht2,hdn2⟩
   ·have hjl2:j=l.length:=by have:=of_decide_eq_false hc;omega
    subst hjl2
    rw[List.take_length] at hys
    rw[← hys]
    have hszc:ys.length * 1+(l.length - ys.length) * 1≤cur.size:=by rw[HR.sz,← Nat.add_mul];exact Nat.mul_le_mul_right _ (by omega)
    replace hf:=hf.kp [0,5]
    refine seq <| rgN 3 hf <| st (mv rfl) <| st (mv rfl) <| st ((pW U35 S3 rfl rfl (by omega) (by omega)).eq ((by rw[Nat.zero_add]:Value.slice (some ⟨b,0+ys.length * 1,none⟩) (l.length - ys.length) (cap - ys.length)=Value.slice (some ⟨b,ys.length * 1,none⟩) (l.length - ys.length) (cap - ys.length)))) <| en fun a w e' hf=>?_
    obtain⟨Hw,HR,e⟩:=up3 e' Hw HR e
    refine pX U35 I3 (by intro v hv;simp[Value.cells] at hv;subst hv;rfl) (by decide) rfl hf rfl HR.bl (by omega) hszc (fun k hk=>by cases hk) fun a w zs hg hsz hzl hB hf=>?_
    replace e:=e.gr hg (by omega)
    replace Hw:=Hw.gr hg (.inl hSb)
    refine aa ?_
    have HR2:RwR 1 3 N cap b (cur.toList.take (ys.length * 1)++zs++cur.toList.drop (ys.length * 1+(l.length - ys.length) * 1)).toArray w:=⟨hB,HR.lo,by
     have h5:=HR.sz
     simp only[List.size_toArray,List.length_append,List.length_take,List.length_drop,hzl,Array.length_toList]
     omega,HR.mx⟩
    have hfin:(cur.toList.take (ys.length * 1)++zs++cur.toList.drop (ys.length * 1+(l.length - ys.length) * 1)).toArray.toList.take (ys.length * 1)=ys.flatMap intF:=by
     rw[List.toList_toArray,List.append_assoc,List.take_append_of_le_length (by have h7:cur.toList.length=cur.size:=Array.length_toList;rw[List.length_take];omega),List.take_take,Nat.min_self];exact ht
    obtain⟨cur2,hcur2⟩:=eqX ((cur.toList.take (ys.length * 1)++zs++cur.toList.drop (ys.length * 1+(l.length - ys.length) * 1)).toArray)
    rw[← hcur2] at HR2 hfin
    replace hf:=hf.kp [0,5]
    refine seq <| rgN 3 hf <| st (mv rfl) <| st (mv rfl) <| st (lP U35 S3 rfl rfl (by omega)) <| en fun a w e' hf=>?_
    obtain⟨Hw,HR2,e⟩:=up3 e' Hw HR2 e
    refine tA hf rfl fun a hf=>aa <| ai <| am rfl hf rfl ?_
    rintro _ rfl
    exact⟨_,rfl,Hw,HR2.own intFF (by omega) hfin fun b hb=>hb.elim⟩
 rw[hwU] at goal
 exact goal
theorem jX {P:Program}{α β:Type}[DecidableEq α]{V:KV P α β}{N:Nat}{G:Nat→Prop}{l:List (α×β)}{v:Value}{w:World}(h:(Dv (mpE V N) G l).p v w):∃b,v=.map (some b):=by
 obtain⟨cs,⟨b,n,rfl,_⟩,hv⟩:=h
 exact⟨b,hv⟩
def brD (nb:Int→BS)(e:Nat×Nat):Int:=bG (lvB (wo nb e.1 e.2) e.1) e.2
def toN (x:Int×Int):Nat×Nat:=(x.1.toNat,x.2.toNat)
theorem rO (e:Nat×Nat):toN (toI e)=e:=by simp[toN,toI]
theorem a0u {G:Nat→Prop}{N0:Nat}(l:List (Int×BS))(S0:BS)(mq:Value)(u v c:Nat)(W:World)(hT:Tab W)(HV:(Dv (mpE sKV N0) G l).p mq W)(hc:Blk W c (adC S0 mq) 79)(hN:N0≤100000)(hu:u<1024)(hv:v<1024)(huv:u≠v)(hm:((u:Int),lkS l (u:Int))∈l) :
  Calls Tryz.prog 49 #[edV (toI (u,v)),ptr c] W (Post (E (B (brD (lkS l) (u,v) != -1))) W):=by
 obtain⟨nb,hnb⟩:=eqX (lkS l)
 rw[← hnb]
 obtain⟨d,hd⟩:=eqX (brD nb (u,v))
 rw[← hd]
 rw[brD] at hd
 refine eN [edV (toI (u,v)),ptr c] [E (edV (toI (u,v))),E (ptr c)] Tryz.func49 Tryz.ntmps49 ?_ fun a hf=>?_
 rotate_left
 rotate_right
 ·exact arg2 rfl rfl
 have e:=Ext.rfl' W
 refine seq <| ab <| tB hf rfl fun a b2 w v2 hv2 e' hb2 hs2 B2 hf=>?_
 obtain⟨hT,HV,e,hc⟩:=up4 e' hT HV e hc
 refine tA hf rfl fun a hf=>aa ?_
 cases hv2
 replace B2:Blk w b2 #[I (u:Nat),I (v:Nat)] 60:=B2
 refine seq <| rgG 13 Mix.mix hf <| st (ldW T79 rfl hc (aH _ _)) <| st (bQ U60 ⟨_,T3⟩ rfl rfl (by omega)) <| st (ld1 T3 rfl B2 rfl) <| st (bQ U60 ⟨_,T3⟩ rfl rfl (by omega)) <| st (ld1 T3 rfl B2 rfl) <| st (bX (A:=WoA (wo nb u v) S0 (N0+2)) (B:=E (.agg (adC S0 mq))) (C:=E (I (u:Nat))) (D:=E (I (v:Nat))) oq rfl rfl rfl (fun a b c w he k1 k2 k3=>by cases k1;cases k2;cases k3;rw[hnb];exact rn l S0 u v mq w (hT.ext he) (Dv.ex HV he) hN hu hv huv hm)) ?_
 refine st (bQ U60 ⟨_,T3⟩ rfl rfl (by omega)) <| st (ld1 T3 rfl B2 rfl) <| st (aw (A:=Dv (slE aM) G0 (lvB (wo nb u v) u)) (B:=WoA (wo nb u v) S0 (N0+2)) (C:=E (I (u:Nat))) eO rfl rfl (fun a b w he ⟨l2,k1,mq2,k2,k3⟩ k4=>by subst k2;cases k4;rw[← k1];exact (fa l2 S0 mq2 u w (hT.ext he) k3 hu).mono fun en w' ⟨z,q1,q2,q3⟩=>⟨z,q1,q2,OwR.sl q3⟩)) ?_
 refine st (bQ U60 ⟨_,T3⟩ rfl rfl (by omega)) <| st (ld1 T3 rfl B2 rfl) <| st (aw (A:=E (I d)) (B:=Dv (slE aM) G0 (lvB (wo nb u v) u)) (C:=E (I (v:Nat))) jh rfl rfl (fun a b w he k1 k2=>by cases k2;rw[hd];exact jR _ v a w k1 (Nat.le_trans (dZ _ _) (by decide)))) ?_
 refine st (neq rfl rfl) <| en fun a w e' hf=>?_
 obtain⟨hT,HV,e,hc,B2⟩:=up5 e' hT HV e hc B2
 refine tA hf rfl fun a hf=>aa <| ai <| am rfl hf rfl ?_
 rintro _ rfl
 exact⟨_,rfl,e,rfl⟩
def brF (g:GT):List (Nat×Nat):=(esN g).filter fun e => !(brD (nbA g) e != -1)
theorem a0v {g:GT}{l:List (Int×BS)}(ok:Gr.Ok g)(hl:l=nbL g (aj (vset g.1))):∀e∈esN g,e.1<1024∧e.2<1024∧e.1≠e.2∧((e.1:Int),lkS l (e.1:Int))∈l:=fun e he=>by
 obtain⟨h1,h2,h3⟩:=gz ok e he
 refine⟨aK h2,aK h3,by omega,?_⟩
 have h4:((e.1:Int),nbG g.2 (e.1:Int))∈l:=by
  rw[hl,nbL]
  exact List.mem_map.2 ⟨e.1,aL.2 ⟨aK h2,h2⟩,rfl⟩
 have h5:lkS l (e.1:Int)=nbG g.2 (e.1:Int):=by
  rw[hl,nbL,jP (fun n=>nbG g.2 (n:Int)),if_pos (aL.2 ⟨aK h2,h2⟩)]
 rw[h5];exact h4
theorem rP {G:Nat→Prop}{N:Nat}(g:GT)(ok:Gr.Ok g)(v:Value)(W:World)(hT:Tab W)(h:(Dv (ptE (grE N)) G (some g)).p v W)(hl1:g.1.length≤100000)(hl2:g.2.length≤100000)(hN:N≤1000000) :
  Calls Tryz.prog 14 #[v] W (Post (Dv (slE edE) G0 ((brF g).map toI)) W):=by
 have hgd:(Dv (ptE (grE N)) G0 (some g)).p v W:=Dv.weak h fun b _ hb=>hb.elim
 have gs1:=ok.sv
 have gs2:=ok.se
 obtain⟨l,hl⟩:=eqX (nbL g (aj (vset g.1)))
 have hmem:=a0v ok hl
 obtain⟨V,hV⟩:=eqX (vset g.1)
 have hnb:nbA g=lkS l:=by rw[hl,nbA]
 have hti:=mw ok
 rw[brF,hnb]
 obtain⟨es,hes⟩:=eqX (esN g)
 rw[← hes] at hti hmem ⊢
 have hel:es.length≤100000:=by rw[hes,esN,List.length_map];exact hl2
 obtain⟨p,hp⟩:=eqX (fun x=>brD (lkS l) (toN x) != -1:Int×Int→Bool)
 have hfil:((es.map toI).filter fun x => !p x)=(es.filter fun e => !(brD (lkS l) e != -1)).map toI:=by
  rw[List.filter_map,hp]
  refine congrArg (List.map toI) (List.filter_congr fun x _=>?_)
  simp only[Function.comp,rO]
 rw[← hfil]
 have hT0:=hT.lt
 refine eN [v] [E v] Tryz.func14 Tryz.ntmps14 ?_ fun a hf=>?_
 rotate_left
 dsimp only[params,Nat.reduceAdd] at hf
 rotate_right
 ·exact arg1 rfl
 have e:=Ext.rfl' W
 refine seq <| ab <| tA hf rfl fun a hf=>aa ?_
 refine seq <| seq ?_
 refine rgN 2 hf <| st (mv rfl) <| st (dm U26 (isE rfl (vst e hgd))) <| en fun a w e' hf=>?_
 obtain⟨hT,e⟩:=up2 e' hT e
 refine aa <| ifF hf rfl ?_
 refine ah ?_
 replace hf:=hf.keep [0]
 have e0:=e
 refine seq <| rgN 2 hf <| st (mv rfl) <| st (ak (A:=ci l V 1024) dR rfl (fun v w he k=>by cases k;rw[hl,hV];exact (mf g _ w (hT.ext he) (vst (e0.tr he) hgd) gs1 gs2 hl1 hl2 hN).mono fun en w' ⟨k1,mq,k2,k3⟩=>⟨_,k2,k1,mq,rfl,k3⟩)) ?_
 refine en fun a w e' hf=>?_
 obtain⟨hT,e⟩:=up2 e' hT e
 obtain⟨av,⟨mq,rfl,HV0⟩,hf⟩:=hf.opn 7 rfl
 obtain⟨bm,rfl⟩:=jX HV0
 obtain⟨N1,hN1⟩:=eqX w.heap.size
 have hN1s:N1≤w.heap.size:=Nat.le_of_eq hN1
 have hWN1:W.heap.size≤N1:=by rw[hN1];exact e.size
 have HV:(Dv (mpE sKV 1024) (fun b=>N1≤b) l).p (.map (some bm)) w:=Dv.weak HV0 fun b hb hh=>by omega
 replace hf:=hf.kp [0,7]
 refine tL I79 hf fun a b3 w e' hb3 hs3 B3 hf=>?_
 have lo3_hN1s:=Nat.le_trans hN1s (Nat.le_of_eq hb3.symm)
 obtain⟨hT,HV,hN1s,e⟩:=up4 e' hT HV hN1s e
 have n3:N1≤b3:=lo3_hN1s
 refine az T79 hf rfl rfl (cg _ _) B3 rfl (aH _ _) fun w hg hsz B3 hf=>?_
 replace e:=e.gr hg (by omega);replace hT:=hT.gr hg (by omega);replace HV:=Dv.gr HV hg n3;replace hN1s:=Nat.le_trans hN1s hg.size;clear hg
 refine aa ?_
 replace hf:=hf.keep [0,3]
 have e4:=e
 obtain⟨N2,hN2⟩:=eqX w.heap.size
 have hN2s:N2≤w.heap.size:=Nat.le_of_eq hN2
 have l3:b3<N2:=by rw[hN2];exact B3.lt
 have h12:N1≤N2:=by omega
 refine seq <| rgN 3 hf <| st (mv rfl) <| st (ak (A:=OwA edE 60 N2 G0 (es.map toI)) (B:=E v) kW rfl (fun u w he k=>by cases k;rw[← hti];exact (mo g v w (vst (e4.tr he) hgd) gs2 hl2 hN).mono fun en w' ⟨u,k1,k2,k3⟩=>⟨u,k1,k2,OwR.low k3 (Nat.le_trans hN2s he.size) fun b hb=>hb.elim⟩)) ?_
 refine st (fT rfl) <| en fun a w e' hf=>?_
 obtain⟨hT,HV,e,B3⟩:=up4 e' hT HV e B3
 obtain⟨ev,HoE,hf⟩:=hf.opn 9 rfl
 replace HoE:OwR edE 60 N2 G0 w (es.map toI) ev:=HoE
 replace hf:=hf.kp [9,10]
 refine em (S:=fun b=>ev.ownBlock=some b) (F:=fun z w'=>OwR edE 60 N2 G0 w' ((es.map toI).filter fun x => !p x) z) hf (by decide) om ?_ fun a z w hc hF hf=>?_
 ·have e9:a.eval (.tmp 9)=ev:=hf.opd (.tmp 9) _ rfl
  have e10:a.eval (.tmp 10)=.func (.func 49) #[] #[ptr b3]:=hf.opd (.tmp 10) _ rfl
  simp only[List.map_toArray,List.map_cons,List.map_nil,e9,e10]
  refine (rN (es.map toI) ev 49 #[ptr b3] p N2 _ uS HoE (by rw[List.length_map];exact hel) fun w' x hx hc=>?_).mono fun en w' h=>h
  obtain⟨e,he,rfl⟩:=List.mem_map.1 hx
  obtain⟨u,v⟩:=e
  obtain⟨m1,m2,m3,m4⟩:=hmem _ he
  have hpe:p (toI (u,v))=(brD (lkS l) (u,v) != -1):=by rw[hp];show (brD (lkS l) (toN (toI (u,v))) != -1)=_;rw[rO]
  rw[hpe]
  exact a0u l V (.map (some bm)) u v b3 w' (hT.ch hc fun h0=>by have:=(HoE.lt h0).1;omega) (Dv.ch HV hc fun b hb=>by have:=(HoE.lt hb).1;omega) (B3.ch hc fun h0=>by have:=(HoE.lt h0).1;omega) (by decide) m1 m2 m3 m4
 replace e:=e.ch hc fun b hb=>by have:=(HoE.lt hb).1;omega
 have HoE:=hF
 refine tA hf rfl fun a hf=>aa <| ai <| am rfl hf rfl ?_
 rintro _ rfl
 exact⟨_,rfl,e,HoE.sl⟩
def cvN (nb:Int→BS)(V:BS)(x:Nat):Nat:=(prF (ew nb (V &&& del V (x:Int))) (card (V &&& del V (x:Int))) (V &&& del V (x:Int))).length
theorem a0w (l:List (Int×BS))(S T:BS)(h:S=T):(cw (wiL l S) T).length=(prF (ew (lkS l) S) (card S) S).length:=by subst h;rw[cw,mj]
theorem a0x {G:Nat→Prop}{N0 n:Nat}(l:List (Int×BS))(V:BS)(mq:Value)(x c d:Nat)(W:World)(hT:Tab W)(HV:(Dv (mpE sKV N0) G l).p mq W)(hc:Blk W c (adC V mq) 79)(hd:Blk W d #[I (n:Nat)] 3) :
  Calls Tryz.prog 57 #[I (x:Nat),ptr c,ptr d] W (Post (E (B (decide (cvN (lkS l) V x≤n)))) W):=by
 obtain⟨S,hS⟩:=eqX (V &&& del V (x:Int))
 have hcv:cvN (lkS l) V x=(cw (wiL l S) S).length:=by rw[cvN,← hS,a0w l S S rfl]
 obtain⟨ps,hps⟩:=eqX (cw (wiL l S) S)
 rw[hcv,← hps]
 refine eN [I (x:Nat),ptr c,ptr d] [E (I (x:Nat)),E (ptr c),E (ptr d)] Tryz.func57 Tryz.ntmps57 ?_ fun a hf=>?_
 rotate_left
 rotate_right
 ·exact dH rfl rfl rfl
 have e:=Ext.rfl' W
 refine seq <| ab <| tA hf rfl fun a hf=>aa <| seq <| rgG 10 Mix.mix hf <| st (ldW T79 rfl hc (aH _ _)) <| st (fA U79 rfl T76 rfl) <| st ((ldP T76 rfl hc (by rw[aH];decide)).eq (congrArg Value.agg (bO V mq))) ?_
 refine st (mv rfl) <| st (aw (A:=E (ac (del V (x:Int)))) (B:=E (ac V)) (C:=E (I (x:Nat))) fY rfl rfl (fun v u w he h h'=>by cases h;cases h';exact gd _ _ w)) ?_
 refine st (aw (A:=ci (wiL l S) S 1024) (B:=E (.agg (adC V mq))) (C:=E (ac (del V (x:Int)))) kY rfl rfl (fun a b w he k1 k2=>by cases k1;cases k2;rw[hS];exact mm l V (del V (x:Int)) mq w (hT.ext he) (Dv.ex HV he))) ?_
 refine st (ak (A:=Dv (slE aM) G0 ps) (B:=ci (wiL l S) S 1024) fX rfl (fun v w he ⟨mq2,k1,k2⟩=>by rw[k1,hps];exact (iC (wiL l S) S mq2 w (hT.ext he) k2).mono fun en w' ⟨u,k1,k2,k3⟩=>⟨u,k1,k2,OwR.sl k3⟩)) ?_
 refine st (aB U83 (isR rfl)) <| st (ld1 (v:=I (n:Nat)) T3 rfl hd rfl) <| st ((leq rfl rfl).eq (congrArg B (show decide ((ps.length:Int)≤(n:Int))=decide (ps.length≤n) from decide_eq_decide.2 Int.ofNat_le))) <| en fun a w e' hf=>?_
 obtain⟨hT,HV,e,hc,hd⟩:=up5 e' hT HV e hc hd
 refine tA hf rfl fun a hf=>aa <| ai <| am rfl hf rfl ?_
 rintro _ rfl
 exact⟨_,rfl,e,rfl⟩
def cvF (g:GT):List Nat:=(aj (vset g.1)).filter fun x => !decide (cvN (nbA g) (vset g.1) x≤(prF (nbA g) (card (vset g.1)) (vset g.1)).length)
theorem rQ {N:Nat}(g:GT)(ok:Gr.Ok g)(v:Value)(W:World)(hT:Tab W)(h:(Gn N g).p v W)(hl1:g.1.length≤100000)(hl2:g.2.length≤100000)(hN:N≤1000000) :
  Calls Tryz.prog 17 #[v] W (Post (Dv (slE intE) G0 (ae (cvF g))) W):=by
 have hgd:=h
 have gs1:=ok.sv
 have gs2:=ok.se
 obtain⟨l,hl⟩:=eqX (nbL g (aj (vset g.1)))
 have hnb:nbA g=lkS l:=by rw[hl,nbA]
 rw[cvF,hnb]
 obtain⟨V,hV⟩:=eqX (vset g.1)
 rw[← hV]
 obtain⟨ps,hps⟩:=eqX (cw l V)
 rw[show prF (lkS l) (card V) V=ps by rw[hps,cw]]
 obtain⟨n,hn⟩:=eqX ps.length
 rw[← hn]
 obtain⟨p,hp⟩:=eqX (fun x=>decide (cvN (lkS l) V x.toNat≤n):Int→Bool)
 have hfil:(elL V).filter (fun x => !p x)=ae ((aj V).filter fun x => !decide (cvN (lkS l) V x≤n)):=by
  rw[elL,ae,ae,List.filter_map,hp]
  refine congrArg (List.map _) (List.filter_congr fun x _=>?_)
  simp only[Function.comp,Int.toNat_natCast]
 rw[← hfil]
 have hT0:=hT.lt
 refine eN [v] [E v] Tryz.func17 Tryz.ntmps17 ?_ fun a hf=>?_
 rotate_left
 dsimp only[params,Nat.reduceAdd] at hf
 rotate_right
 ·exact arg1 rfl
 have e:=Ext.rfl' W
 refine seq <| ab <| tA hf rfl fun a hf=>aa ?_
 replace hf:=hf.keep [0]
 have e0:=e
 refine seq <| rgN 2 hf <| st (mv rfl) <| st (ak (A:=ci l V 1024) dR rfl (fun v w he k=>by cases k;rw[hl,hV];exact (mg g _ w (hT.ext he) (vst (e0.tr he) hgd) gs1 gs2 hl1 hl2 hN).mono fun en w' ⟨k1,mq,k2,k3⟩=>⟨_,k2,k1,mq,rfl,k3⟩)) ?_
 refine en fun a w e' hf=>?_
 obtain⟨hT,e⟩:=up2 e' hT e
 obtain⟨av,⟨mq,rfl,HV0⟩,hf⟩:=hf.opn 6 rfl
 obtain⟨bm,rfl⟩:=jX HV0
 obtain⟨N1,hN1⟩:=eqX w.heap.size
 have hN1s:N1≤w.heap.size:=Nat.le_of_eq hN1
 have hWN1:W.heap.size≤N1:=by rw[hN1];exact e.size
 have HV:(Dv (mpE sKV 1024) (fun b=>N1≤b) l).p (.map (some bm)) w:=Dv.weak HV0 fun b hb hh=>by omega
 replace hf:=hf.kp [0,6]
 refine tL I79 hf fun a b3 w e' hb3 hs3 B3 hf=>?_
 have lo3_hN1s:=Nat.le_trans hN1s (Nat.le_of_eq hb3.symm)
 obtain⟨hT,HV,hN1s,e⟩:=up4 e' hT HV hN1s e
 have n3:N1≤b3:=lo3_hN1s
 refine az T79 hf rfl rfl (cg _ _) B3 rfl (aH _ _) fun w hg hsz B3 hf=>?_
 replace e:=e.gr hg (by omega);replace hT:=hT.gr hg (by omega);replace HV:=Dv.gr HV hg n3;replace hN1s:=Nat.le_trans hN1s hg.size;clear hg
 refine aa ?_
 replace hf:=hf.keep [3]
 have hdv:(Dv (mpE sKV 1024) G0 l).p (.map (some bm)) w:=Dv.weak HV fun b _ hb=>hb.elim
 refine seq <| rgN 3 hf <| st (ldW T79 rfl B3 (aH _ _)) <| st (ak (A:=Dv (slE aM) G0 ps) (B:=E (.agg (adC V (.map (some bm))))) fX rfl (fun v w he k1=>by cases k1;rw[hps];exact (iC l V (.map (some bm)) w (hT.ext he) (Dv.ex hdv he)).mono fun en w' ⟨u,k1,k2,k3⟩=>⟨u,k1,k2,OwR.sl k3⟩)) ?_
 refine st (aB U83 (isR rfl)) <| en fun a w e' hf=>?_
 obtain⟨hT,HV,hN1s,e,B3⟩:=up5 e' hT HV hN1s e B3
 rw[← hn] at hf
 have n34:=B3.lt
 refine tL I3 hf fun a b4 w e' hb4 hs4 B4 hf=>?_
 have lo4_hN1s:=Nat.le_trans hN1s (Nat.le_of_eq hb4.symm)
 obtain⟨hT,HV,hN1s,e,B3⟩:=up5 e' hT HV hN1s e B3
 have n4:N1≤b4∧b3≠b4:=⟨lo4_hN1s,by omega⟩
 replace hf:=hf.kp [3,4,9]
 refine aI T3 hf rfl rfl rfl B4 Nat.zero_lt_one fun w hg hsz B4 hf=>?_
 obtain⟨e,hT,hN1s⟩:=gr3 hg e hT hN1s
 replace HV:=Dv.gr HV hg n4.1;replace B3:=B3.gr hg n4.2
 refine aa ?_
 replace B4:Blk w b4 #[I (n:Nat)] 3:=B4
 replace hf:=hf.keep [3,4]
 obtain⟨N2,hN2⟩:=eqX w.heap.size
 have hN2s:N2≤w.heap.size:=Nat.le_of_eq hN2
 refine seq <| rgN 4 hf <| st (fA U79 rfl T76 rfl) <| st ((ldP T76 rfl B3 (by rw[aH];decide)).eq (congrArg Value.agg (bO V (.map (some bm))))) ?_
 refine st (ak (A:=OwA intE 3 N2 G0 (elL V)) (B:=E (ac V)) ji rfl (fun u w he k=>by cases k;exact (jO V w (hT.ext he)).mono fun en w' ⟨u,k1,k2,k3⟩=>⟨u,k1,k2,OwR.low k3 (Nat.le_trans hN2s he.size) fun b hb=>hb.elim⟩)) ?_
 refine st (gT rfl rfl) <| en fun a w e' hf=>?_
 obtain⟨hT,HV,e,B3,B4⟩:=up5 e' hT HV e B3 B4
 obtain⟨ev,HoE,hf⟩:=hf.opn 12 rfl
 replace HoE:OwR intE 3 N2 G0 w (elL V) ev:=HoE
 replace hf:=hf.kp [12,13]
 refine em (S:=fun b=>ev.ownBlock=some b) (F:=fun z w'=>OwR intE 3 N2 G0 w' ((elL V).filter fun x => !p x) z) hf (by decide) uT ?_ fun a z w hc hF hf=>?_
 ·have e9:a.eval (.tmp 12)=ev:=hf.opd (.tmp 12) _ rfl
  have e10:a.eval (.tmp 13)=.func (.func 57) #[] #[ptr b3,ptr b4]:=hf.opd (.tmp 13) _ rfl
  simp only[List.map_toArray,List.map_cons,List.map_nil,e9,e10]
  refine (a0t (elL V) ev 57 #[ptr b3,ptr b4] p N2 _ uU HoE (Nat.le_trans (mh V) (by decide)) fun w' x hx hc=>?_).mono fun en w' h=>h
  obtain⟨y,he,rfl⟩:=List.mem_map.1 hx
  have hpe:p (y:Int)=decide (cvN (lkS l) V y≤n):=by rw[hp];simp only[Int.toNat_natCast]
  rw[hpe]
  exact a0x l V (.map (some bm)) y b3 b4 w' (hT.ch hc fun h0=>by have:=(HoE.lt h0).1;omega) (Dv.ch HV hc fun b hb=>by have:=(HoE.lt hb).1;omega) (B3.ch hc fun h0=>by have:=(HoE.lt h0).1;omega) (B4.ch hc fun h0=>by have:=(HoE.lt h0).1;omega)
 replace e:=e.ch hc fun b hb=>by have:=(HoE.lt hb).1;omega
 have HoE:=hF
 refine tA hf rfl fun a hf=>aa <| ai <| am rfl hf rfl ?_
 rintro _ rfl
 exact⟨_,rfl,e,HoE.sl⟩
end Go.Mono
namespace Go.Mono
open Go Go.RowKit
def mF (ops:Array Oper)(m N i:Nat):Bool:=
 match ops[i]? with
 | none=>false
 | some o=>
  (o.after.all fun e => !Region.binds .any e || Nat.blt e.on i) &&
  (match o.dst with|some d=>Nat.blt d N|none=>true) &&
  ((cj o++(bM ops o).toList).all fun t=>(List.range m).all fun j=>(match aQ ops j with|some d => !Nat.beq d t|none=>true) || bnd ops i j || (Nat.blt i j&&cD ops 12 j i)) &&
  ((List.range m).all fun j=>Nat.beq j i || (match o.dst,aQ ops j with|some d,some e => !Nat.beq d e|_,_=>true))
def rR (ops:Array Oper)(m N:Nat):Bool:=
 Nat.ble m ops.size&&((List.range m).all fun i=>mF ops m N i)&&((List.range ops.size).all fun i=>Nat.blt i m || cS ops i)
section
variable {P:Program}{ops:Array Oper}{Q:Exit→Act→World→Prop}{w0:World}{n:Nat}{ds:List Deferred}{r:Option Nat}
structure a0y (ops:Array Oper)(m n:Nat)(ds:List Deferred)(w0:World)(L:Env)(As:Nat→VA)(listed:Array Bool)(a:Act)(w:World):Prop where
 ext:Ext w0 w
 size:a.tmps.size=n
 defers:a.defers=ds
 hL:∀t A,aG L t=some A→(∀j,j<m→aQ ops j=some t→listed.getD j false=false)→A.p (a.eval (.tmp t)) w
 hA:∀i,i<m→listed.getD i false=true→∀d,aQ ops i=some d→(As i).p (a.eval (.tmp d)) w

theorem rS {m:Nat}{L:Env}{As:Nat→VA}(hm:m≤ops.size)(hchk:∀i,i<m→mF ops m n i=true)(hchk2:∀i,m≤i→i<ops.size→cS ops i=true)
  (hops:∀j o,j<m→ops[j]?=some o→GOp P ops w0 (aR ops L As 0 j) o (As j))
  (hend:∀a w,Ext w0 w→FrD n ds a w (aR ops L As 0 m)→wpListIn (FW r) 0 P ops Q (ops.toList.drop m) a w) :
  ∀(c:Nat) (listed:Array Bool) (a:Act) (w:World),(List.range m).countP (fun i => !listed.getD i true)=c→listed.size=ops.size →
   (∀j,m≤j→j<ops.size→listed.getD j true=false)→LD ops listed→a0y ops m n ds w0 L As listed a w→wpAnyIn (FW r) 0 P .any ops Q (c+(ops.size - m)) listed a w
 | 0,listed,a,w,hc,hsz,hun,hld,hi=>by
  have hall:∀j,j<m→listed.getD j false=true:=by
   intro j hj
   have:=(List.countP_eq_zero.1 hc) j (List.mem_range.2 hj)
   have hjl:j<listed.size:=by omega
   simpa[hjl] using this
  rw[Nat.zero_add]
  refine gM m hchk2 (ops.size - m) m (by omega) (Nat.le_refl _) listed a w hall hun hsz hld (hend a w hi.ext ⟨hi.size,hi.defers,fun t A ht=>?_⟩)
  rcases dB L As t A m ht with ⟨j,hj,hd,rfl⟩|⟨hn,hl⟩
  ·exact hi.hA j hj (hall j hj) t hd
  ·exact hi.hL t A hl fun j hj hd=>absurd hd (hn j hj)
 | c+1,listed,a,w,hc,hsz,hun,hld,hi=>by
  have facts:∀i o,i<m→ops[i]?=some o→(∀e∈o.after,Region.binds .any e=true→e.on<i)∧(∀d,o.dst=some d→d<n) ∧
    (∀t,t∈cj o∨bM ops o=some t→∀j,j<m→aQ ops j=some t→bnd ops i j=true∨(i<j∧cD ops 12 j i=true))∧(∀j,j<m→j≠i→∀d,o.dst=some d→aQ ops j≠some d):=by
   intro i o hlt ho
   have:=hchk i hlt
   simp only[mF,ho,Bool.and_eq_true,Array.all_eq_true_iff_forall_mem,Bool.or_eq_true,Bool.not_eq_true',List.all_eq_true,List.mem_range,List.mem_append,Option.mem_toList] at this
   obtain⟨⟨⟨h1,h2⟩,h3⟩,h4⟩:=this
   refine⟨fun e he hb=>?_,fun d hd=>?_,fun t ht j hj hd=>?_,fun j hj hne d hd hd'=>?_⟩
   ·rcases h1 e he with h|h
    ·rw[hb] at h;cases h
    ·simpa[Nat.blt_eq] using h
   ·simpa[hd,Nat.blt_eq] using h2
   ·have:=h3 t ht j hj
    rcases this with (h|h)|h
    ·rw[hd] at h;simp at h
    ·exact .inl h
    ·exact .inr ⟨by simpa[Nat.blt_eq] using h.1,h.2⟩
   ·have:=h4 j hj
    rcases this with h|h
    ·exact hne (Nat.eq_of_beq_eq_true h)
    ·rw[hd,hd'] at h;simp at h
  have prog:∃i,i<m∧listed.getD i true=false∧∀j,j<i→listed.getD j true=true:=by
   have hex:∃i,i<m∧listed.getD i true=false:=by
    have hpos:0<(List.range m).countP (fun i => !listed.getD i true):=by omega
    obtain⟨i,hi,hb⟩:=List.countP_pos_iff.1 hpos
    exact⟨i,List.mem_range.1 hi,by simpa using hb⟩
   obtain⟨i,hlt,hb⟩:=hex
   induction i using Nat.strongRecOn with
   | _ i ih=>
    by_cases h:∃j,j<i∧listed.getD j true=false
    ·obtain⟨j,hj,hjb⟩:=h
     exact ih j hj (by omega) hjb
    ·refine⟨i,hlt,hb,fun j hj=>?_⟩
     cases hjb:listed.getD j true with
     | true=>rfl
     | false=>exact absurd ⟨j,hj,hjb⟩ h
  obtain⟨i0,hi0,hu0,hbelow⟩:=prog
  have hready:i0∈Region.ready .any ops listed:=by
   have ho:ops[i0]?=some (ops[i0]'(by omega)):=by simp
   refine mem_ready.2 ⟨hu0,_,ho,fun e he hb=>?_⟩
   have hlt:=(facts i0 _ hi0 ho).1 e he hb
   have:=hbelow _ hlt
   have hjl:e.on<listed.size:=by omega
   simpa[hjl] using this
  rw[show c+1+(ops.size - m)=(c+(ops.size - m))+1 by omega]
  refine⟨fun h0=>(by rw[h0] at hready;cases hready),fun i hir=>?_⟩
  obtain⟨hu,o,ho,hall⟩:=mem_ready.1 hir
  have hilt:i<ops.size:=(Array.getElem?_eq_some_iff.1 ho).1
  have listed_of_bnd:∀j,bnd ops i j=true→listed.getD j false=true:=by
   intro j hb
   simp only[bnd,ho] at hb
   obtain⟨e,he,hb⟩:=Array.any_eq_true'.1 hb
   simp only[Bool.and_eq_true] at hb
   have:=hall e he hb.1
   rwa [Nat.eq_of_beq_eq_true hb.2] at this
  have him:i<m:=by
   rcases Nat.lt_or_ge i m with h|h
   ·exact h
   ·have hc:=hchk2 i h hilt
    simp only[cS,ho,Bool.and_eq_true,List.all_eq_true,List.mem_range] at hc
    have:=cov hld 12 i i0 (hc.2 i0 (by omega)) (fun o' ho' e he hb=>by
     rw[ho] at ho'
     obtain rfl:=Option.some.inj ho'
     exact hall e he hb)
    rw[cy hu0] at this
    cases this
  obtain⟨f1,f2,f3,f4⟩:=facts i o him ho
  have byLook:∀t,(t∈cj o∨bM ops o=some t)→∀B,aG (aR ops L As 0 i) t=some B→B.p (a.eval (.tmp t)) w:=by
   intro t ht B hB
   rcases dB L As t B i hB with ⟨j,hj,hd,rfl⟩|⟨hn,hl⟩
   ·exact hi.hA j (by omega) (listed_of_bnd j ((f3 t ht j (by omega) hd).resolve_right fun h=>by omega)) t hd
   ·refine hi.hL t B hl fun j hj hd=>?_
    rcases f3 t ht j hj hd with hb|⟨hij,hcv⟩
    ·simp only[bnd,ho] at hb
     obtain⟨e,he,hb⟩:=Array.any_eq_true'.1 hb
     simp only[Bool.and_eq_true] at hb
     have hlt:=f1 e he hb.1
     rw[Nat.eq_of_beq_eq_true hb.2] at hlt
     exact absurd hd (hn j hlt)
    ·cases hlj:listed.getD j false with
     | false=>rfl
     | true=>
      have:=cov hld 12 j i hcv (fun o' ho' e he hb=>hld j o' hlj ho' e he hb)
      rw[cy hu] at this
      cases this
  have hg:=hops i o him ho a w hi.ext (fun x hx B hB=>by
   cases x with
   | tmp t=>exact byLook t (.inl (List.mem_filterMap.2 ⟨.tmp t,by simpa using hx,rfl⟩)) B hB
   | const v=>simp[opd] at hB;subst hB;rfl
   | global g=>simp[opd] at hB;subst hB;rfl
   | func f=>simp[opd] at hB;subst hB;rfl) (fun d B hd hB=>byLook d (.inr hd) B hB)
  have hdst:aQ ops i=o.dst:=by simp[aQ,ho]
  have step:∀v w',Ext w w'→(As i).p v w'→wpAnyIn (FW r) 0 P .any ops Q (c+(ops.size - m)) (listed.setIfInBounds i true) (a.put o.dst v) w':=by
   intro v w' hx hv
   refine rS hm hchk hchk2 hops hend c _ _ _ ?_ (by simpa using hsz) ?_ ?_ ?_
   ·have:=iP m (fun j => !listed.getD j true) (fun j => !(listed.setIfInBounds i true).getD j true) i him (by simp only[hu,Bool.not_false])
     (by
       have hjl:i<listed.size:=by omega
       simp[hjl]) (fun j hj=>by simp only[getD_set_ne true (Ne.symm hj)])
    omega
   ·intro j hj hj'
    rw[getD_set_ne true (by omega)]
    exact hun j hj hj'
   ·exact hld.set fun o' ho' e he hb=>by
     rw[ho] at ho'
     obtain rfl:=Option.some.inj ho'
     exact hall e he hb
   ·refine⟨Ext.tr hi.ext hx,by simp[hi.size],by simp[hi.defers],fun t A ht hn=>?_,fun j hj hl d hd=>?_⟩
    ·have h0:=A.st _ _ _ hx (hi.hL t A ht fun j hj hd=>by
      have h1:=hn j hj hd
      by_cases hji:j=i
      ·subst hji
       have hjl:j<listed.size:=by omega
       simp[hjl] at h1
      ·rwa [getD_set_ne false (Ne.symm hji)] at h1)
     cases hod:o.dst with
     | none=>exact h0
     | some d=>
      have:d≠t:=fun e=>by
       have h1:=hn i him (by rw[hdst,hod,e])
       have hjl:i<listed.size:=by omega
       simp[hjl] at h1
      rw[eh this]
      exact h0
    ·by_cases hji:j=i
     ·subst hji
      rw[hdst] at hd
      rw[hd,gL (by rw[hi.size];exact f2 d hd)]
      exact hv
     ·have hl':listed.getD j false=true:=by rwa [getD_set_ne false (Ne.symm hji)] at hl
      have h0:=(As j).st _ _ _ hx (hi.hA j hj hl' d hd)
      cases hod:o.dst with
      | none=>exact h0
      | some d'=>
       have:d'≠d:=fun e=>f4 j hj hji d' hod (by rw[hd,e])
       rw[eh this]
       exact h0
  unfold wpOpIn
  simp only[ho]
  split
  ·rename_i hw
   rw[if_pos hw] at hg
   exact (hg.wp fun v w' hv=>step v w' hv.1 hv.2)
  ·rename_i hw
   rw[if_neg hw] at hg
   exact⟨fun _ _=>trivial,step undef w (Ext.rfl' _) hg⟩
theorem a0z {id:Nat}{ops:Array Oper}{L:Env}{a:Act}{w:World}(m:Nat)(hmix:P.follows .mixedOrders=true)(hf:FrD n ds a w L)(hchk:rR ops m n=true)
  (h:bT P ops w (ops.toList.take m) (fun L'=>∀a' w',Ext w w'→FrD n ds a' w' L'→wpListIn (FW r) 0 P ops Q (ops.toList.drop m) a' w') L):(Code.region id ops true).wpIn (FW r) 0 P Q a w:=by
 simp only[rR,Bool.and_eq_true,List.all_eq_true,List.mem_range,Bool.or_eq_true,Nat.ble_eq] at hchk
 obtain⟨⟨hm,h1⟩,h2⟩:=hchk
 have hlen:(ops.toList.take m).length=m:=by simp;omega
 refine wpIn_region_any hmix ?_
 obtain⟨As,hAs,hK⟩:=ku (ops.toList.take m) 0 L (fun j hj=>by
  rw[hlen] at hj
  rw[Nat.zero_add,List.getElem?_take,if_pos hj];simp) h
 rw[hlen] at hAs hK
 have hext:Ext w { w with drawn:=w.drawn+1 }:=Ext.drew w
 have:=rS (P:=P) (ops:=ops) (Q:=Q) (w0:=w) (n:=n) (ds:=ds) (m:=m) (r:=r) (L:=L) (As:=As) hm h1 (fun i hi hi'=>by
   rcases h2 i hi' with h|h
   ·simp only[Nat.blt_eq] at h;omega
   ·exact h) (fun j o hj ho=>hAs j o hj (by simpa using ho)) (fun a w hx hf=>hK a w hx hf) m
  (Array.replicate ops.size false) a { w with drawn:=w.drawn+1 } ?_ (by simp) ?_ ?_ ⟨hext,hf.size,hf.defers,fun t A ht _=>A.st _ _ _ hext (hf.val t A ht),fun i hi hl=>?_⟩
 ·rwa [show m+(ops.size - m)=ops.size by omega] at this
 ·have:(List.range m).countP (fun i => !(Array.replicate ops.size false).getD i true)=(List.range m).length:=by
   refine List.countP_eq_length.2 fun i hi=>?_
   have:=List.mem_range.1 hi
   have hlt:i<ops.size:=by omega
   simp[hlt]
  simpa using this
 ·intro j _ hj
  simp[hj]
 ·intro i o hl
  have:(Array.replicate ops.size false).getD i false=false:=by
   by_cases hlt:i<ops.size <;> simp[hlt]
  rw[this] at hl;cases hl
 ·have:(Array.replicate ops.size false).getD i false=false:=by
   by_cases hlt:i<ops.size <;> simp[hlt]
  rw[this] at hl;cases hl
end
end Go.Mono
