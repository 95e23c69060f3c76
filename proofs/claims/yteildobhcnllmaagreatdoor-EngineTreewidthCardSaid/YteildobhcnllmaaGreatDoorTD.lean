/-
  Walks of functions and plain facts.
  No condition.
-/
import Derived.Test.YteildobhcnllmaaGreatDoorTC
import Derived.Test.YteildobhcnllmaaGreatDoorTB
import Derived.Test.YteildobhcnllmaaGreatDoorTA
import Derived.ArgAppend
set_option linter.unusedVariables false
set_option linter.unusedSimpArgs false
namespace Go.Mono
open Go Go.Proofs Go.RowKit
def kN (t:List (Int×BS))(p:Nat):List Nat:=(List.range t.length).filter fun i=>decide ((bg t i).1=(p:Int))
theorem rV (t:List (Int×BS))(p:Nat):dB t t.length p=(kN t p).map fun i:Nat=>(i:Int):=rfl
def dnF (ks:Nat→List Nat):Nat→Nat→Int→List Int×Int→List Int×Int
 | 0,b,deep,s=>(s.1.set b deep,s.2+1)
 | f+1,b,deep,s=>(ks b).foldl (fun s k=>dnF ks f k (deep+1) s) (s.1.set b deep,s.2+1)
def hgt (ks:Nat→List Nat):Nat→Nat→Prop
 | 0,b=>ks b=[]
 | f+1,b=>∀k∈ks b,hgt ks f k
theorem rW (ks:Nat→List Nat):∀f b deep s,(dnF ks f b deep s).1.length=s.1.length
 | 0,b,deep,s=>by simp[dnF]
 | f+1,b,deep,s=>by
  rw[dnF]
  have:∀(l:List Nat) s,(l.foldl (fun s k=>dnF ks f k (deep+1) s) s).1.length=s.1.length:=by
   intro l
   induction l with
   | nil=>intro s;rfl
   | cons k l ih=>intro s;rw[List.foldl_cons,ih,rW ks f]
  rw[this];simp
theorem np (ks:Nat→List Nat):∀f b deep s,s.2+1≤(dnF ks f b deep s).2
 | 0,b,deep,s=>by simp[dnF]
 | f+1,b,deep,s=>by
  rw[dnF]
  have:∀(l:List Nat) s,s.2≤(l.foldl (fun s k=>dnF ks f k (deep+1) s) s).2:=by
   intro l
   induction l with
   | nil=>intro s;exact Int.le_refl _
   | cons k l ih=>
    intro s
    rw[List.foldl_cons]
    have:=ih (dnF ks f k (deep+1) s)
    have:=np ks f k (deep+1) s
    omega
  exact this _ _
theorem jo (ks:Nat→List Nat)(f:Nat)(deep:Int):∀(l:List Nat) s,s.2≤(l.foldl (fun s k=>dnF ks f k deep s) s).2
 | [],s=>Int.le_refl _
 | k::l,s=>by
  rw[List.foldl_cons]
  have:=jo ks f deep l (dnF ks f k deep s)
  have:=np ks f k deep s
  omega
theorem kF (ks:Nat→List Nat)(f:Nat)(deep:Int):∀(l:List Nat) s,(l.foldl (fun s k=>dnF ks f k deep s) s).1.length=s.1.length
 | [],s=>rfl
 | k::l,s=>by rw[List.foldl_cons,kF ks f deep l,rW]

theorem a0x {ks:Nat→List Nat}{f b:Nat}{deep:Int}{s:List Int×Int}(h:hgt ks f b):dnF ks f b deep s=(ks b).foldl (fun s k=>dnF ks (f - 1) k (deep+1) s) (s.1.set b deep,s.2+1):=by
 cases f with
 | zero=>rw[show ks b=[] from h];rfl
 | succ f=>rfl
theorem a0y {ks:Nat→List Nat}{f b k:Nat}(h:hgt ks f b)(hk:k∈ks b):0<f∧hgt ks (f - 1) k:=by
 cases f with
 | zero=>rw[show ks b=[] from h] at hk;cases hk
 | succ f=>exact⟨Nat.succ_pos _,h k hk⟩
theorem nq {t:List (Int×BS)}{b k:Nat}:k∈kN t b↔k<t.length∧(bg t k).1=(b:Int):=by simp[kN]

def SD (ba bf:Nat)(b:Nat):Prop:=b=ba∨b=bf
structure DC (t:List (Int×BS))(G:Nat→Prop)(ba bf bo bk bd:Nat)(kv:Value)(w:World):Prop where
 o:Blk w bo #[.slice (some ⟨ba,0,none⟩) t.length t.length] 31
 k:Blk w bk #[kv] 133
 d:Blk w bd #[.func (.func 120) #[] #[.pointer (some ⟨bo,0,none⟩),.pointer (some ⟨bf,0,none⟩),.pointer (some ⟨bk,0,none⟩),.pointer (some ⟨bd,0,none⟩)]] 173
 kd:(Dv (slE (slE aj)) G (kE t)).p kv w
 g:∀b,SD ba bf b→G b
 ne:ba≠bf∧¬SD ba bf bo∧¬SD ba bf bk∧¬SD ba bf bd
theorem DC.ch {t:List (Int×BS)}{G:Nat→Prop}{ba bf bo bk bd:Nat}{kv:Value}{w w':World}(h:DC t G ba bf bo bk bd kv w)(c:Chg (SD ba bf) w w'):DC t G ba bf bo bk bd kv w':=
 ⟨h.o.ch c h.ne.2.1,h.k.ch c h.ne.2.2.1,h.d.ch c h.ne.2.2.2,Dv.ch h.kd c h.g,h.g,h.ne⟩

theorem a0z (t:List (Int×BS))(G:Nat→Prop)(ba bf bo bk bd:Nat)(kv:Value)(hl:t.length≤4096):∀(f b:Nat) (deep:Int) (s:List Int×Int) (W:World),DC t G ba bf bo bk bd kv W→Blk W ba (da s.1) 3→Blk W bf #[I s.2] 3 →
  hgt (kN t) f b→b<t.length→s.1.length=t.length→0≤s.2→(dnF (kN t) f b deep s).2≤100000→0≤deep→deep+f≤100000 →
  Calls Tryz.prog 120 #[I (b:Nat),I deep,.pointer (some ⟨bo,0,none⟩),.pointer (some ⟨bf,0,none⟩),.pointer (some ⟨bk,0,none⟩),.pointer (some ⟨bd,0,none⟩)] W
   (fun e w'=>∃v,e=.returned v∧Chg (SD ba bf) W w'∧Any.p v w'∧Blk w' ba (da (dnF (kN t) f b deep s).1) 3∧Blk w' bf #[I (dnF (kN t) f b deep s).2] 3):=by
 intro f
 induction f using Nat.strongRecOn with
 | _ f ih=>
  intro b deep s W D BA BF hh hb hs h0 hle hd0 hdl
  have heq:=a0x (deep:=deep) (s:=s) hh
  refine eN [I (b:Nat),I deep,.pointer (some ⟨bo,0,none⟩),.pointer (some ⟨bf,0,none⟩),.pointer (some ⟨bk,0,none⟩),.pointer (some ⟨bd,0,none⟩)] [E (I (b:Nat)),E (I deep),E (.pointer (some ⟨bo,0,none⟩)),E (.pointer (some ⟨bf,0,none⟩)),E (.pointer (some ⟨bk,0,none⟩)),E (.pointer (some ⟨bd,0,none⟩))] Tryz.func120 Tryz.ntmps120 ?_ fun a hf=>?_
  rotate_left
  dsimp only[params,Nat.reduceAdd] at hf
  rotate_right
  ·exact aQ rfl (aQ rfl (aQ rfl (aQ rfl (aQ rfl (aQ rfl cO)))))
  have c:=Chg.rfl' (SD ba bf) W
  have hne:=D.ne.1
  refine seq <| rgN 4 hf <| st (ld1 T31 rfl D.o rfl) <| st (mv rfl) <| st (mv rfl) <| st (idxS U31 S3 rfl rfl (by omega)) <| en fun a w e' hf=>?_
  replace D:=D.ch (e'.chg _)
  obtain⟨c,BA,BF⟩:=up3 e' c BA BF
  refine aA T3 hf rfl rfl rfl BA (by simp[yn];omega) fun w hg hsz BA hf=>?_
  replace D:=D.ch ((Chg.rfl' _ _).gr hg (.inl (by first|exact .inl rfl|exact .inr rfl)))
  replace c:=c.gr hg (.inl (by first|exact .inl rfl|exact .inr rfl))
  replace BF:=BF.gr hg (by omega)
  refine aa ?_
  rw[show 0+((b:Nat):Int).toNat * 1=b by omega,ym] at BA
  replace hf:=hf.kp [0,1,2,3,4,5]
  have hsz:=np (kN t) f b deep s
  refine seq <| rgN 2 hf <| st (ld1 T3 rfl BF rfl) <| st (add rfl rfl (by omega)) <| en fun a w e' hf=>?_
  replace D:=D.ch (e'.chg _)
  obtain⟨c,BA,BF⟩:=up3 e' c BA BF
  refine aA T3 hf rfl rfl rfl BF (by simp) fun w hg hsz BF hf=>?_
  replace D:=D.ch ((Chg.rfl' _ _).gr hg (.inl (by first|exact .inl rfl|exact .inr rfl)))
  replace c:=c.gr hg (.inl (by first|exact .inl rfl|exact .inr rfl))
  replace BA:=BA.gr hg (by omega)
  refine aa ?_
  rw[show (#[I s.2]:Array Value).setIfInBounds 0 (I (s.2+1)) = #[I (s.2+1)] from rfl] at BF
  replace hf:=hf.keep [0,1,2,3,4,5]
  have hkb:(kE t)[b]?=some (dB t t.length b):=rU hb
  refine seq <| rgN 6 hf <| st (ld1 pi rfl D.k rfl) <| st (mv rfl) <| st (aL dQ S31 (isE rfl D.kd) rfl (by omega) (hkb)) <| st (ldD T31 (isR rfl)) <| st (aF U31 (isR rfl)) <| st (mv rfl) <| en fun a w e' hf=>?_
  replace D:=D.ch (e'.chg _)
  obtain⟨c,BA,BF⟩:=up3 e' c BA BF
  refine aa ?_
  obtain⟨s1,hs1⟩:∃s1:List Int×Int,s1=(s.1.set b deep,s.2+1):=⟨_,rfl⟩
  have hs1l:s1.1.length=t.length:=by rw[hs1];simpa using hs
  have e1:s.1.set b deep=s1.1:=by rw[hs1]
  have e2:s.2+1=s1.2:=by rw[hs1]
  rw[e1] at BA
  rw[e2] at BF
  have h01:0≤s1.2:=by omega
  rw[← hs1] at heq
  have hkl:(dB t t.length b).length=(kN t b).length:=by rw[rV,List.length_map]
  have hkl2:(kN t b).length≤t.length:=by have:=List.length_filter_le (fun i=>decide ((bg t i).1=(b:Int))) (List.range t.length);simpa[kN] using this
  rw[hkl] at hf
  replace hf:=hf.keep [0,1,2,3,4,5,19,20,21]
  haveI hin:InS G (SD ba bf):=⟨D.g⟩
  refine blk (aJ (fun r0 a w=>∃(k:Nat),r0=(kN t b).length - k∧k≤(kN t b).length∧Fr 31 a w [(0,E (I (b:Nat))),(1,E (I deep)),(2,E (.pointer (some ⟨bo,0,none⟩))),(3,E (.pointer (some ⟨bf,0,none⟩))),(4,E (.pointer (some ⟨bk,0,none⟩))),(5,E (.pointer (some ⟨bd,0,none⟩))),(19,Dv (slE aj) G (dB t t.length b)),(20,E (I ((kN t b).length:Nat))),(21,E (I k))] ∧
   Chg (SD ba bf) W w∧DC t G ba bf bo bk bd kv w∧Blk w ba (da (((kN t b).take k).foldl (fun s k=>dnF (kN t) (f - 1) k (deep+1) s) s1).1) 3∧Blk w bf #[I (((kN t b).take k).foldl (fun s k=>dnF (kN t) (f - 1) k (deep+1) s) s1).2] 3) (kN t b).length ⟨0,rfl,by omega,hf,c,D,BA,BF⟩ ?_)
  rintro r0 a w ⟨k,rfl,hk,hf,c,D,BA,BF⟩
  refine seq <| rgN 1 hf <| st (lss rfl rfl) <| en fun a w e' hf=>?_
  replace D:=D.ch (e'.chg _)
  obtain⟨c,BA,BF⟩:=up3 e' c BA BF
  refine aa <| seq <| ifc hf rfl (fun hc=>ak ?_) (fun hc=>aG ?_)
  ·have hlt:k<(kN t b).length:=by have:=of_decide_eq_true hc;omega
   replace hf:=hf.keep [0,1,2,3,4,5,19,20,21]
   obtain⟨j,hj⟩:∃j,(kN t b)[k]?=some j:=⟨_,List.getElem?_eq_getElem hlt⟩
   have hjm:=List.mem_of_getElem? hj
   obtain⟨hf0,hhj⟩:=a0y hh hjm
   have hj':(dB t t.length b)[k]?=some (j:Int):=by rw[rV,List.getElem?_map,hj];rfl
   have hstep:((kN t b).take (k+1)).foldl (fun s k=>dnF (kN t) (f - 1) k (deep+1) s) s1=dnF (kN t) (f - 1) j (deep+1) (((kN t b).take k).foldl (fun s k=>dnF (kN t) (f - 1) k (deep+1) s) s1):=by
    rw[cB hj,List.foldl_append];rfl
   obtain⟨sk,hsk⟩:∃sk,sk=((kN t b).take k).foldl (fun s k=>dnF (kN t) (f - 1) k (deep+1) s) s1:=⟨_,rfl⟩
   have hskl:sk.1.length=t.length:=by rw[hsk,kF];exact hs1l
   have hsk0:s1.2≤sk.2:=by rw[hsk];exact jo _ _ _ _ _
   have hskle:(dnF (kN t) (f - 1) j (deep+1) sk).2≤(dnF (kN t) f b deep s).2:=by
    rw[hsk,← hstep,heq]
    conv=>rhs;rw[← List.take_append_drop (k+1) (kN t b),List.foldl_append]
    exact jo _ _ _ _ _
   rw[← hsk] at BA BF hstep
   refine seq <| blk <| seq <| rgN 2 hf <| st (aL U31 S3 (isR rfl) rfl (by omega) (hj')) <| st (ldI T3 (isR rfl)) <| en fun a w e' hf=>?_
   replace D:=D.ch (e'.chg _)
   obtain⟨c,BA,BF⟩:=up3 e' c BA BF
   refine tA hf rfl fun a hf=>aa ?_
   replace hf:=hf.kp [0,1,2,3,4,5,9,19,20,21]
   refine rgN 4 hf <| st (ld1 mn rfl D.d rfl) <| st (mv rfl) <| st (mv rfl) <| st (add rfl rfl (by omega)) <| en fun a w e' hf=>?_
   replace D:=D.ch (e'.chg _)
   obtain⟨c,BA,BF⟩:=up3 e' c BA BF
   have v26:a.eval (.tmp 26)=I (j:Nat):=hf.val 26 _ rfl
   have v28:a.eval (.tmp 28)=I (deep+1):=hf.val 28 _ rfl
   refine fu (S:=SD ba bf) (F:=fun w'=>Blk w' ba (da (dnF (kN t) (f - 1) j (deep+1) sk).1) 3∧Blk w' bf #[I (dnF (kN t) (f - 1) j (deep+1) sk).2] 3) (A:=Any) hf (by decide) pM rfl ?_ fun a w hc hF hf=>?_
   ·have:=ih (f - 1) (by omega) j (deep+1) sk w D BA BF hhj (nq.1 hjm).1 hskl (by omega) (by omega) (by omega) (by omega)
    simpa[v26,v28] using this
   replace D:=D.ch hc
   replace c:=c.tr hc
   replace BA:=hF.1
   replace BF:=hF.2
   refine aa ?_
   replace hf:=hf.keep [0,1,2,3,4,5,19,20,21]
   refine rgN 1 hf <| st ((add rfl rfl (by omega)).eq (congrArg (Value.int .i64) (show (k:Int)+1=((k+1:Nat):Int) from rfl))) <| en fun a w e' hf=>?_
   replace D:=D.ch (e'.chg _)
   obtain⟨c,BA,BF⟩:=up3 e' c BA BF
   refine tP hf (mv rfl) fun a w e' hf=>?_
   replace D:=D.ch (e'.chg _)
   obtain⟨c,BA,BF⟩:=up3 e' c BA BF
   refine aa ?_
   replace hf:=hf.keep [0,1,2,3,4,5,19,20,21]
   exact⟨(kN t b).length - (k+1),by omega,k+1,rfl,by omega,hf,c,D,by rw[hstep];exact BA,by rw[hstep];exact BF⟩
  ·obtain rfl:k=(kN t b).length:=by have:=of_decide_eq_false hc;omega
   simp only[Exit.then,Exit.inBlock,↓reduceIte]
   refine dG rfl hf ?_
   rw[List.take_length,← heq] at BA BF
   exact⟨_,rfl,c,trivial,BA,BF⟩

theorem rX {G:Nat→Prop}{w:World}:∀l:List Int,Cells aj G w l (l.map (Value.int .i64))
 | []=>rfl
 | x::l=>⟨[I x],l.map (Value.int .i64),rfl,rfl,rX l⟩
theorem a0A {G:Nat→Prop}{w:World}{b:Nat}{l:List Int}{bt:TypeId}(h:Blk w b (da l) bt)(hG:¬G b):(Dv (slE aj) G l).p (.slice (some ⟨b,0,none⟩) l.length l.length) w:=
 Dv.sl.2 (.inr ⟨_,l.length,l.map (Value.int .i64),rfl,Nat.le_refl _,hG,h.lt,rX l,fun i u hu=>by
  rw[Addr.add_lit,Nat.zero_add,h.cell i,da,List.getElem?_toArray];exact hu⟩)
def rootN (t:List (Int×BS)):List Nat:=(List.range t.length).filter fun i=>decide ((bg t i).1 = -1)
theorem ns (t:List (Int×BS)):fT t=(rootN t).map fun i:Nat=>(i:Int):=rfl
def ca (t:List (Int×BS))(f:Nat)(l:List Nat):List Int×Int:=l.foldl (fun s b=>dnF (kN t) f b 0 s) (List.replicate t.length 0,0)

theorem a0B {G:Nat→Prop}(t:List (Int×BS))(f:Nat)(v:Value)(W:World)(h:(Dv bQ G t).p v W)(hG:∀b,G b→b<W.heap.size)(hl:t.length≤4096)(hr:Rng t)(hh:∀b∈rootN t,hgt (kN t) f b)(hf:f≤50000)(hle:(ca t f (rootN t)).2≤100000) :
  Calls Tryz.prog 87 #[v] W (Post (Tup [Dv (slE aj) G (ca t f (rootN t)).1,E (B ((ca t f (rootN t)).2==(t.length:Nat)))]) W):=by
 have hfb:=hf
 refine eN [v] [Dv bQ (GB W G) t] Tryz.func87 Tryz.ntmps87 ?_ fun a hf=>?_
 rotate_left
 dsimp only[params,Nat.reduceAdd] at hf
 rotate_right
 ·exact arg1 (Dv.toB h)
 have e:=Ext.rfl' W
 refine seq <| ae <| tA hf rfl fun a hf=>tA hf rfl fun a hf=>aa <| seq <| rgN 2 hf <| st (mv rfl) <| st (aF U41 (isR rfl)) <| en fun a w e' hf=>?_
 replace e:=e.tr e'
 refine qs U31 I3 rfl hf (by decide) rfl (by omega) (by decide) fun a b12 w e' hb12 hs12 B12 hf=>?_
 have hle12:=Nat.le_trans e.size (Nat.le_of_eq hb12.symm)
 replace e:=e.tr e'
 refine tL I31 hf fun a b4 w e' hb4 hs4 B4 hf=>?_
 obtain⟨e,B12⟩:=up2 e' e B12
 haveI hinr:∀G0,InR (GB W G0) (some b4):=fun G0=>InR.gb (by omega)
 refine aA T31 hf rfl rfl rfl B4 (by decide) fun w hg hsz B4 hf=>?_
 obtain⟨e,B12⟩:=gr2 hg e B12
 refine aa ?_
 rw[show (List.replicate t.length (I 0)).toArray=da (List.replicate t.length 0) from by simp[da]] at B12
 have B4':Blk w b4 #[.slice (some ⟨b12,0,none⟩) t.length t.length] 31:=B4
 replace B4:=B4';clear B4'
 replace hf:=hf.kp [0,4]
 refine seq <| ae <| tL I3 hf fun a b5 w e' hb5 hs5 B5 hf=>?_
 obtain⟨e,B12,B4⟩:=up3 e' e B12 B4
 haveI hinr:∀G0,InR (GB W G0) (some b5):=fun G0=>InR.gb (by omega)
 refine aA T3 hf rfl rfl rfl B5 (by decide) fun w hg hsz B5 hf=>?_
 obtain⟨e,B12,B4⟩:=gr3 hg e B12 B4
 refine aa ?_
 have B5':Blk w b5 #[I 0] 3:=B5
 replace B5:=B5';clear B5'
 have hSD:∀b,SD b12 b5 b→b<w.heap.size:=by
  have:=B12.lt
  have:=B5.lt
  rintro b (rfl|rfl) <;> assumption
 have hSB:∀b,SD b12 b5 b→W.heap.size≤b:=by rintro b (rfl|rfl) <;> omega
 haveI hinS:InS (GB W G) (SD b12 b5):=⟨fun b hb=>.inr (hSB b hb)⟩
 replace hf:=hf.kp [0,4,5]
 have l12:=B12.lt
 have l4:=B4.lt
 refine seq <| rgN 2 hf <| st (mv rfl) <| st (an xi rfl (fun v u he h=>a0w (G:=SD b12 b5) _ _ _ (Dv.weak h fun b _ hb=>.inr (hSB b hb)) (fun b hb=>Nat.lt_of_lt_of_le (hSD b hb) he.size) hl hr)) <| en fun a w e' hf=>?_
 obtain⟨e,B12,B4,B5⟩:=up4 e' e B12 B4 B5
 obtain⟨kv,KD,hf⟩:=hf.fix 14 rfl
 obtain⟨N,hN⟩:∃N,N=w.heap.size:=⟨_,rfl⟩
 have KD':(Dv (slE (slE aj)) (fun b=>SD b12 b5 b∨N≤b) (kE t)).p kv w:=Dv.weak KD fun b hb hg=>hg.elim id fun hg=>by omega
 replace KD:=KD'
 replace hf:=hf.kp [0,4,5,14]
 have l5:=B5.lt
 have hkv:=Dv.slOne KD
 refine tL vF hf fun a b6 w e' hb6 hs6 B6 hf=>?_
 obtain⟨KD,e,B12,B4,B5⟩:=up5 e' KD e B12 B4 B5
 haveI hinr:∀G0,InR (GB W G0) (some b6):=fun G0=>InR.gb (by omega)
 refine aA pi hf rfl rfl (hkv) B6 (by decide) fun w hg hsz B6 hf=>?_
 replace KD:=Dv.gr KD hg (.inr (by omega))
 replace e:=e.gr hg (by omega)
 replace B12:=B12.gr hg (by omega)
 replace B4:=B4.gr hg (by omega)
 replace B5:=B5.gr hg (by omega)
 refine aa ?_
 have B6':Blk w b6 #[kv] 133:=B6
 replace B6:=B6';clear B6'
 replace hf:=hf.kp [0,4,5,6]
 refine seq <| ae <| tL vJ hf fun a b7 w e' hb7 hs7 B7 hf=>?_
 obtain⟨KD,e,B12,B4,B5,B6⟩:=up6 e' KD e B12 B4 B5 B6
 refine aa ?_
 replace hf:=hf.kp [0,4,5,6,7]
 have h7:b7≠b4∧b7≠b5∧b7≠b12∧b7≠b6:=by omega
 refine seq <| rgN 1 hf <| st (mS rfl rfl rfl rfl) <| en fun a w e' hf=>?_
 obtain⟨KD,e,B12,B4,B5,B6,B7⟩:=up7 e' KD e B12 B4 B5 B6 B7
 haveI hinr:∀G0,InR (GB W G0) (some b7):=fun G0=>InR.gb (by omega)
 refine aA mn hf rfl rfl rfl B7 (by decide) fun w hg hsz B7 hf=>?_
 replace KD:=Dv.gr KD hg (.inr (by omega))
 replace e:=e.gr hg (by omega)
 replace B12:=B12.gr hg (by omega)
 replace B4:=B4.gr hg (by omega)
 replace B5:=B5.gr hg (by omega)
 replace B6:=B6.gr hg (by omega)
 refine aa ?_
 have D:DC t (fun b=>SD b12 b5 b∨N≤b) b12 b5 b4 b6 b7 kv w:=
  ⟨B4,B6,B7,KD,fun b hb=>.inl hb,by omega,by unfold SD;omega,by unfold SD;omega,by unfold SD;omega⟩
 have hrl:(fT t).length=(rootN t).length:=by rw[ns,List.length_map]
 have hrl2:(rootN t).length≤t.length:=by have:=List.length_filter_le (fun i=>decide ((bg t i).1 = -1)) (List.range t.length);simpa[rootN] using this
 have hSD':∀b,SD b12 b5 b→b<w.heap.size:=by
  have:=B12.lt
  have:=B5.lt
  rintro b (rfl|rfl) <;> assumption
 replace hf:=hf.keep [0,4,5,6,7]
 repeat refine seq ?_
 refine rgN 4 hf <| st (mv rfl) <| st (an pH rfl (fun v u he h=>qj (G:=SD b12 b5) _ _ _ (Dv.weak h fun b _ hb=>.inr (hSB b hb)) (fun b hb=>Nat.lt_of_lt_of_le (hSD' b hb) he.size) hl)) <| st (aF U31 (isR rfl)) <| st (mv rfl) <| en fun a w e' hf=>?_
 replace D:=D.ch (e'.chg _)
 obtain⟨e,B12,B5⟩:=up3 e' e B12 B5
 refine aa ?_
 haveI hinS2:InS (SD b12 b5) (SD b12 b5):=⟨fun b hb=>hb⟩
 rw[hrl] at hf
 replace hf:=hf.keep [0,4,5,7,17,18,19]
 refine blk (aJ (fun r0 a w=>∃(k:Nat),r0=(rootN t).length - k∧k≤(rootN t).length∧Fr 32 a w [(0,Dv bQ (GB W G) t),(4,E (.pointer (some ⟨b4,0,none⟩))),(5,E (.pointer (some ⟨b5,0,none⟩))),(7,E (.pointer (some ⟨b7,0,none⟩))),(17,Dv (slE aj) (SD b12 b5) (fT t)),(18,E (I ((rootN t).length:Nat))),(19,E (I k))] ∧
   Ext W w∧DC t (fun b=>SD b12 b5 b∨N≤b) b12 b5 b4 b6 b7 kv w∧Blk w b12 (da (ca t f ((rootN t).take k)).1) 3∧Blk w b5 #[I (ca t f ((rootN t).take k)).2] 3) (rootN t).length ⟨0,rfl,by omega,hf,e,D,B12,B5⟩ ?_)
 rintro r0 a w ⟨k,rfl,hk,hf,e,D,B12,B5⟩
 refine seq <| rgN 1 hf <| st (lss rfl rfl) <| en fun a w e' hf=>?_
 replace D:=D.ch (e'.chg _)
 obtain⟨e,B12,B5⟩:=up3 e' e B12 B5
 refine aa <| seq <| ifc hf rfl (fun hc=>ak ?_) (fun hc=>aG ?_)
 ·have hlt:k<(rootN t).length:=by have:=of_decide_eq_true hc;omega
  replace hf:=hf.keep [0,4,5,7,17,18,19]
  obtain⟨j,hj⟩:∃j,(rootN t)[k]?=some j:=⟨_,List.getElem?_eq_getElem hlt⟩
  have hjm:=List.mem_of_getElem? hj
  have hj':(fT t)[k]?=some (j:Int):=by rw[ns,List.getElem?_map,hj];rfl
  have hjl:j<t.length:=by have:=List.mem_filter.1 hjm;simpa using this.1
  obtain⟨sk,hsk⟩:∃sk,sk=ca t f ((rootN t).take k):=⟨_,rfl⟩
  have hstep:ca t f ((rootN t).take (k+1))=dnF (kN t) f j 0 sk:=by
   rw[hsk,ca,ca,cB hj,List.foldl_append];rfl
  have hskl:sk.1.length=t.length:=by rw[hsk,ca,kF];simp
  have hsk0:0≤sk.2:=by rw[hsk];exact jo _ _ _ _ _
  have hskle:(dnF (kN t) f j 0 sk).2≤(ca t f (rootN t)).2:=by
   rw[← hstep,ca,ca]
   conv=>rhs;rw[← List.take_append_drop (k+1) (rootN t),List.foldl_append]
   exact jo _ _ _ _ _
  rw[← hsk] at B12 B5
  refine seq <| blk <| seq <| rgN 2 hf <| st (aL U31 S3 (isR rfl) rfl (by omega) (hj')) <| st (ldI T3 (isR rfl)) <| en fun a w e' hf=>?_
  replace D:=D.ch (e'.chg _)
  obtain⟨e,B12,B5⟩:=up3 e' e B12 B5
  refine tA hf rfl fun a hf=>aa ?_
  replace hf:=hf.kp [0,4,5,7,9,17,18,19]
  refine rgN 2 hf <| st (ld1 mn rfl D.d rfl) <| st (mv rfl) <| en fun a w e' hf=>?_
  replace D:=D.ch (e'.chg _)
  obtain⟨e,B12,B5⟩:=up3 e' e B12 B5
  have v24:a.eval (.tmp 24)=I (j:Nat):=hf.val 24 _ rfl
  refine fu (S:=SD b12 b5) (F:=fun w'=>Blk w' b12 (da (dnF (kN t) f j 0 sk).1) 3∧Blk w' b5 #[I (dnF (kN t) f j 0 sk).2] 3) (A:=Any) hf (by decide) pM rfl ?_ fun a w hc hF hf=>?_
  ·have:=a0z t _ b12 b5 b4 b6 b7 kv hl f j 0 sk w D B12 B5 (hh j hjm) hjl hskl hsk0 (by omega) (by omega) (by omega)
   have vc:a.eval (.const (I 0))=I 0:=rfl
   simpa[v24,vc] using this
  replace D:=D.ch hc
  replace e:=e.ch hc hSB
  replace B12:=hF.1
  replace B5:=hF.2
  refine aa ?_
  replace hf:=hf.kp [0,4,5,7,17,18,19]
  refine rgN 1 hf <| st ((add rfl rfl (by omega)).eq (congrArg (Value.int .i64) (show (k:Int)+1=((k+1:Nat):Int) from rfl))) <| en fun a w e' hf=>?_
  replace D:=D.ch (e'.chg _)
  obtain⟨e,B12,B5⟩:=up3 e' e B12 B5
  refine tP hf (mv rfl) fun a w e' hf=>?_
  replace D:=D.ch (e'.chg _)
  obtain⟨e,B12,B5⟩:=up3 e' e B12 B5
  refine aa ?_
  replace hf:=hf.keep [0,4,5,7,17,18,19]
  exact⟨(rootN t).length - (k+1),by omega,k+1,rfl,by omega,hf,e,D,by rw[hstep];exact B12,by rw[hstep];exact B5⟩
 ·obtain rfl:k=(rootN t).length:=by have:=of_decide_eq_false hc;omega
  rw[List.take_length] at B12 B5
  replace hf:=hf.keep [0,4,5]
  refine seq <| rgG 7 Mix.mix hf <| st (ld1 T31 rfl D.o rfl) <| st (ld1 T3 rfl B5 rfl) <| st (mv rfl) <| st (aF U41 (isR rfl)) <| st (eql rfl rfl) <| st (asg rfl) <| st (asg rfl) <| en fun a w e' hf=>?_
  replace D:=D.ch (e'.chg _)
  obtain⟨e,B12,B5⟩:=up3 e' e B12 B5
  refine aa <| ai <| dF rfl hf rfl rfl ?_
  rintro _ _ rfl rfl
  have hlen:(ca t f (rootN t)).1.length=t.length:=by rw[ca,kF];simp
  refine⟨_,rfl,e,Tup.two ?_ rfl⟩
  have:=a0A (G:=G) B12 (fun hg=>by have:=hG _ hg;omega)
  rwa [hlen] at this
end Go.Mono
namespace Go.Mono
open Go Go.Proofs Go.RowKit
def ec (t:List (Int×BS))(i:Nat):BS:=if (bg t i).1 = -1 then (bg t i).2 else (bg t i).2 &&& ~~~(bg t (bg t i).1.toNat).2

theorem a0C {G:Nat→Prop}(t:List (Int×BS))(i:Nat)(v:Value)(W:World)(h:(Dv bQ G t).p v W)(hr:Rng t)(hi:i<t.length) :
  Calls Tryz.prog 88 #[v,I (i:Nat)] W (Post (E (ac (ec t i))) W):=by
 have hri:=hr i hi
 refine eN [v,I (i:Nat)] [Dv bQ (GB W G) t,E (I (i:Nat))] Tryz.func88 Tryz.ntmps88 ?_ fun a hf=>?_
 rotate_left
 dsimp only[params,Nat.reduceAdd] at hf
 rotate_right
 ·exact arg2 (Dv.toB h) rfl
 have e:=Ext.rfl' W
 refine seq <| ae <| tL I68 hf fun a b4 w e' hb4 hs4 B4 hf=>?_
 replace e:=e.tr e'
 refine aa <| seq <| ae <| tP hf (mv rfl) fun a w e' hf=>?_
 obtain⟨e,B4⟩:=up2 e' e B4
 refine tP hf (mv rfl) fun a w e' hf=>?_
 obtain⟨e,B4⟩:=up2 e' e B4
 refine tP hf (aL U41 S88 (isR rfl) rfl (by omega) (fR hi)) fun a w e' hf=>?_
 obtain⟨e,B4⟩:=up2 e' e B4
 refine tP hf (fS T88 (isR rfl)) fun a w e' hf=>?_
 obtain⟨e,B4⟩:=up2 e' e B4
 refine tL I88 hf fun a b5 w e' hb5 hs5 B5 hf=>?_
 have lt5_B4:=B4.lt
 obtain⟨e,B4⟩:=up2 e' e B4
 haveI hinr:∀G0,InR (GB W G0) (some b5):=fun G0=>InR.gb (by omega)
 refine az T88 hf rfl rfl (ft _) B5 rfl (dw _) fun w hg hsz B5 hf=>?_
 obtain⟨e,B4⟩:=gr2 hg e B4
 refine aa ?_
 repeat refine seq ?_
 refine rgN 3 hf <| st (fA U88 rfl T3 rfl) <| st (ld1 T3 rfl B5 (dW _)) <| st (eql rfl rfl) <| en fun a w e' hf=>?_
 obtain⟨e,B4,B5⟩:=up3 e' e B4 B5
 refine aa <| ifc hf rfl (fun hb=>?_) (fun hb=>?_)
 ·have hb':(bg t i).1 = -1:=by simpa using hb
  replace hf:=hf.kp [4,5]
  refine seq <| rgN 2 hf <| st (fA U88 rfl T68 rfl) <| st ((ldP T68 rfl B5 (dx _)).eq (dy _)) <| en fun a w e' hf=>?_
  obtain⟨e,B4,B5⟩:=up3 e' e B4 B5
  haveI hinr:∀G0,InR (GB W G0) (some b4):=fun G0=>InR.gb (by omega)
  refine az T68 hf rfl rfl (aP _) B4 rfl (rfl) fun w hg hsz B4 hf=>?_
  obtain⟨e,B5⟩:=gr2 hg e B5
  refine aa <| ai (ep rfl T68 hf rfl B4 e ?_)
  rw[ec,if_pos hb']
 ·have hb':(bg t i).1 ≠ -1:=by simpa using hb
  refine ak <| seq <| rgG 9 Mix.mix hf <| st (fA U88 rfl T68 rfl) <| st ((ldP T68 rfl B5 (dx _)).eq (dy _)) <| st (mv rfl) <| st (fA U88 rfl T3 rfl) <| st (ld1 T3 rfl B5 (dW _)) <| st (aL U41 S88 (isR rfl) rfl (by omega) (fR (i:=(bg t i).1.toNat) (by omega))) <| st (aB U88 rfl T68 (by decide) (Fld.snd Fld.refl rfl) (isR rfl)) <| st (ldS T68 (isR rfl)) <| st (ar cX rfl rfl (fun v u w he h h'=>by cases h;cases h';exact db _ _ w)) ?_
  refine en fun a w e' hf=>?_
  obtain⟨e,B4,B5⟩:=up3 e' e B4 B5
  haveI hinr:∀G0,InR (GB W G0) (some b4):=fun G0=>InR.gb (by omega)
  refine az T68 hf rfl rfl (aP _) B4 rfl (rfl) fun w hg hsz B4 hf=>?_
  obtain⟨e,B5⟩:=gr2 hg e B5
  refine aa <| ai (ep rfl T68 hf rfl B4 e ?_)
  rw[ec,if_neg hb']
structure Dp (t:List (Int×BS))(f:Nat):Prop where
 fb:f≤50000
 hh:∀b∈rootN t,hgt (kN t) f b
 le:(ca t f (rootN t)).2≤100000
def eW (t:List (Int×BS)):Nat→BS
 | 0=>0
 | k+1=>eW t k ||| ec t k
open Classical in
noncomputable def dC (t:List (Int×BS))(f:Nat):Int:=
 if t.length=0 then 2 else
 if ¬Rng t then 3 else
 if ¬(rootN t).length=1 then 3 else
 if ¬(ca t f (rootN t)).2=(t.length:Nat) then 15 else
 if ¬∀i,i<t.length→ec t i &&& eW t i=0 then 7 else 0
theorem kG {p:Int×BS→Bool}{t:List (Int×BS)}:decide (0≤gJ p t)=false↔∀i,i<t.length→p (bg t i)=false:=by
 constructor
 ·intro h i hi
  cases hp:p (bg t i)
  ·rfl
  ·exfalso
   obtain⟨m,hm,hmin⟩:=least (p:=fun j=>j<t.length∧p (bg t j)=true) ⟨i,hi,hp⟩
   have:gJ p t=(m:Nat):=mN hm.1 (fun j hj=>by
    cases ht:p (bg t j)
    ·rfl
    ·exact absurd ⟨by omega,ht⟩ (hmin j hj)) hm.2
   rw[this] at h
   exact absurd h (by simp)
 ·intro h
  rw[gJ,kf h];rfl

theorem a0D {G:Nat→Prop}(t:List (Int×BS))(f:Nat)(v:Value)(W:World)(h:(Dv bQ G t).p v W)(hl:t.length≤4096)
  (hd:Rng t→(rootN t).length=1→Dp t f) :
  Calls Tryz.prog 39 #[v] W (Post (E (I (dC t f))) W):=by
 refine eN [v] [Dv bQ (GB W G0) t] Tryz.func39 Tryz.ntmps39 ?_ fun a hf=>?_
 rotate_left
 rotate_right
 ·exact arg1 (Dv.toB (Dv.weak h fun b _ hb=>hb.elim))
 have e:=Ext.rfl' W
 refine seq <| ae <| tB hf rfl fun a b1 w v1 hv1 e' hb1 hs1 B1 hf=>?_
 replace e:=e.tr e'
 refine tA hf rfl fun a hf=>aa ?_
 rw[qb (Dv.slOne hv1)] at B1
 have HV:=Dv.ex hv1 e
 cases h0:(((t.length:Nat):Int)==0)
 rotate_left
 ·have h0':t.length=0:=by
    have:((t.length:Nat):Int)=0:=by simpa using h0
    omega
  repeat refine seq ?_
  refine rgN 8 hf <| st (ld1 T41 rfl (by assumption) rfl) <| st (aF U41 (isE rfl HV)) <| st ((eql rfl rfl).eq (congrArg Value.bool (h0))) <| st (mv rfl) <| sn rfl rfl rfl <| sn rfl rfl rfl <| sn rfl rfl rfl <| st (pkT rfl rfl) <| en fun a w e' hf=>?_
  obtain⟨HV,e,B1⟩:=up3 e' HV e B1
  refine aa <| ifc hf rfl (fun _=>?_) (fun h=>by cases h)
  refine seq <| ae <| tA hf rfl fun a hf=>aa <| ai <| ap rfl hf rfl ?_
  rintro _ rfl
  exact⟨_,rfl,e,congrArg I (by rw[dC,if_pos h0'])⟩
 have h0':¬t.length=0:=by
  have:¬((t.length:Nat):Int)=0:=by simpa using h0
  omega
 repeat refine seq ?_
 refine rgN 8 hf <| st (ld1 T41 rfl (by assumption) rfl) <| st (aF U41 (isE rfl HV)) <| st ((eql rfl rfl).eq (congrArg Value.bool (h0))) <| st (mv rfl) <| sy rfl rfl (ld1 T41 rfl (by assumption) rfl) <| sy rfl rfl (aF U41 (isE rfl HV)) <| sy rfl rfl ((gtr rfl rfl).eq (congrArg Value.bool (show decide ((4096:Int)<(t.length:Nat))=false from decide_eq_false (by omega)))) <| st (pkF rfl rfl) <| en fun a w e' hf=>?_
 obtain⟨HV,e,B1⟩:=up3 e' HV e B1
 refine aa <| ifc hf rfl (fun h=>by cases h) (fun _=>?_)
 refine ak ?_
 replace hf:=hf.keep [1]
 cases h1:decide (0≤gJ (fun b=>decide (b.1 < -1∨(t.length:Int)≤b.1)) t)
 rotate_left
 ·repeat refine seq ?_
  refine rgN 9 hf <| st (ld1 T41 rfl (by assumption) rfl) <| st (dM rfl) <| st ((ar mp rfl rfl (fun v u w he h h'=>by cases h;cases h';exact mO t _ _ _ (fun b=>decide (b.1 < -1∨(t.length:Int)≤b.1)) w pG (Dv.ex HV he) (fun w' b he'=>by simpa using qk b b1 t _ w' (B1.ext (Ext.tr he he')) (Dv.ex HV (Ext.tr he he')) hl) hl)).eq (congrArg Value.bool (h1))) ?_
  refine st (mv rfl) <| sn rfl rfl rfl <| sn rfl rfl rfl <| sn rfl rfl rfl <| sn rfl rfl rfl <| st (pkT rfl rfl) <| en fun a w e' hf=>?_
  obtain⟨HV,e,B1⟩:=up3 e' HV e B1
  refine aa <| ifc hf rfl (fun _=>?_) (fun h=>by cases h)
  refine seq <| ae <| tA hf rfl fun a hf=>aa ?_
  have hn:¬Rng t:=fun hr=>by
   have:=(kG (p:=fun b=>decide (b.1 < -1∨(t.length:Int)≤b.1)) (t:=t)).2 (fun i hi=>decide_eq_false (by have:=hr i hi;omega))
   rw[h1] at this;cases this
  refine ai <| ap rfl hf rfl ?_
  rintro _ rfl
  exact⟨_,rfl,e,congrArg I (by rw[dC,if_neg h0',if_pos hn])⟩
 have hr:Rng t:=fun i hi=>by
  have:=of_decide_eq_false (kG.1 h1 i hi)
  omega
 have c1:=Classical.not_not.2 hr
 repeat refine seq ?_
 refine rgN 9 hf <| st (ld1 T41 rfl (by assumption) rfl) <| st (dM rfl) <| st ((ar mp rfl rfl (fun v u w he h h'=>by cases h;cases h';exact mO t _ _ _ (fun b=>decide (b.1 < -1∨(t.length:Int)≤b.1)) w pG (Dv.ex HV he) (fun w' b he'=>by simpa using qk b b1 t _ w' (B1.ext (Ext.tr he he')) (Dv.ex HV (Ext.tr he he')) hl) hl)).eq (congrArg Value.bool (h1))) ?_
 refine st (mv rfl) <| sy rfl rfl (ld1 T41 rfl (by assumption) rfl) <| sy rfl rfl (an pH rfl (fun v w he h=>by cases h;exact qj (G:=G0) t _ w (Dv.weak (Dv.ex HV he) fun b _ hb=>hb.elim) (fun b hb=>hb.elim) hl)) ?_
 refine sy rfl rfl (aF U31 (isR rfl)) <| sy rfl rfl (neq rfl rfl) <| st (pkF rfl rfl) <| en fun a w e' hf=>?_
 obtain⟨HV,e,B1⟩:=up3 e' HV e B1
 refine aa ?_
 have hrl:(fT t).length=(rootN t).length:=by rw[ns,List.length_map]
 refine ifc hf rfl (fun hb=>?_) (fun hb=>?_)
 ·have hb':¬(rootN t).length=1:=by
   have:¬((fT t).length:Int)=1:=by simpa using hb
   omega
  refine seq <| ae <| tA hf rfl fun a hf=>aa <| ai <| ap rfl hf rfl ?_
  rintro _ rfl
  exact⟨_,rfl,e,congrArg I (by rw[dC,if_neg h0',if_neg c1,if_pos hb'])⟩
 have hb':(rootN t).length=1:=by
  have:((fT t).length:Int)=1:=by simpa using hb
  omega
 have c2:=Classical.not_not.2 hb'
 have hdp:=hd hr hb'
 refine ak ?_
 replace hf:=hf.keep [1]
 repeat refine seq ?_
 refine rgN 5 hf <| st (ld1 T41 rfl (by assumption) rfl) <| st (an wK rfl (fun v w he h=>by cases h;exact a0B (G:=G0) t f _ w (Dv.weak (Dv.ex HV he) fun b _ hb=>hb.elim) (fun b hb=>hb.elim) hl hr hdp.hh hdp.fb hdp.le)) ?_
 refine st (mv rfl) <| st (aO rfl rfl) <| st (aO rfl rfl) <| en fun a w e' hf=>?_
 obtain⟨HV,e,B1⟩:=up3 e' HV e B1
 refine tA hf rfl fun a hf=>tA hf rfl fun a hf=>aa <| seq <| rgN 2 hf <| st (mv rfl) <| st (bA rfl) <| en fun a w e' hf=>?_
 obtain⟨HV,e,B1⟩:=up3 e' HV e B1
 refine aa ?_
 replace hf:=hf.keep [1,31]
 refine ifc hf rfl (fun hb=>?_) (fun hb=>?_)
 ·have hb2:¬(ca t f (rootN t)).2=(t.length:Nat):=by simpa using hb
  refine seq <| ae <| tA hf rfl fun a hf=>aa <| ai <| ap rfl hf rfl ?_
  rintro _ rfl
  exact⟨_,rfl,e,congrArg I (by rw[dC,if_neg h0',if_neg c1,if_neg c2,if_pos hb2])⟩
 have hb2:(ca t f (rootN t)).2=(t.length:Nat):=by simpa using hb
 have c3:=Classical.not_not.2 hb2
 refine ak ?_
 replace hf:=hf.keep [1]
 refine seq <| ae <| tL I68 hf fun a b5 w e' hb5 hs5 B5 hf=>?_
 have lt5_B1:=B1.lt
 obtain⟨HV,e,B1⟩:=up3 e' HV e B1
 refine aa ?_
 simp only[Value.cells,cE] at B5
 repeat refine seq ?_
 refine rgN 3 hf <| st (ld1 T41 rfl (by assumption) rfl) <| st (aF U41 (isE rfl HV)) <| st (mv rfl) <| en fun a w e' hf=>?_
 obtain⟨HV,e,B1,B5⟩:=up4 e' HV e B1 B5
 refine aa ?_
 replace hf:=hf.keep [1,5,33,34]
 refine blk (aJ (fun r0 a w=>∃(k:Nat) ,r0=t.length - k∧k≤t.length∧Fr 49 a w [(1,E (.pointer (some ⟨b1,0,none⟩))),(5,E (.pointer (some ⟨b5,0,none⟩))),(33,E (I (t.length:Nat))),(34,E (I k))]∧Ext W w∧Blk w b1 #[v1] 41∧Blk w b5 (au (eW t k)) 68∧(Dv bQ (GB W G0) t).p v1 w∧∀i,i<k→ec t i &&& eW t i=0) t.length ⟨0,rfl,by omega,hf,e,B1,B5,HV,(fun i hi=>by omega)⟩ ?_)
 rintro r0 a w ⟨k,rfl,hk,hf,e,B1,B5,HV,Ho⟩
 refine seq <| rgN 1 hf <| st (lss rfl rfl) <| en fun a w e' hf=>?_
 obtain⟨HV,e,B1,B5⟩:=up4 e' HV e B1 B5
 refine aa <| seq <| ifc hf rfl (fun hc=>ak ?_) (fun hc=>aG ?_)
 rotate_left
 rotate_left
 ·have hlt:k<t.length:=by have:=of_decide_eq_true hc;(try dsimp only at this);omega
  replace hf:=hf.kp [1,5,33,34]
  refine seq <| blk <| seq <| rgN 1 hf <| st (mv rfl) <| en fun a w e' hf=>?_
  obtain⟨HV,e,B1,B5⟩:=up4 e' HV e B1 B5
  refine tA hf rfl fun a hf=>aa <| seq <| rgN 3 hf <| st (ld1 T41 rfl (by assumption) rfl) <| st (mv rfl) <| st (ar wL rfl rfl (fun v u w he h h'=>by cases h;cases h';exact a0C t k _ w (Dv.ex HV he) hr hlt)) ?_
  refine en fun a w e' hf=>?_
  obtain⟨HV,e,B1,B5⟩:=up4 e' HV e B1 B5
  refine tL I68 hf fun a b7 w e' hb7 hs7 B7 hf=>?_
  have lt7_B5:=B5.lt
  obtain⟨HV,e,B1,B5⟩:=up4 e' HV e B1 B5
  haveI hinr:∀G0,InR (GB W G0) (some b7):=fun G0=>InR.gb (by omega)
  refine az T68 hf rfl rfl (aP _) B7 rfl (rfl) fun w hg hsz B7 hf=>?_
  obtain⟨HV,e,B1,B5⟩:=gr4 hg HV e B1 B5
  refine aa ?_
  replace hf:=hf.keep [1,5,7,33,34]
  repeat refine seq ?_
  refine rgN 5 hf <| st (ldW T68 rfl (by assumption) rfl) <| st (ldW T68 rfl (by assumption) rfl) <| st (ar fj rfl rfl (fun v u w he h h'=>by cases h;cases h';exact fw _ _ w)) ?_
  refine st (an fQ rfl (fun v w he h=>by cases h;exact ga _ w)) ?_
  refine st (bA rfl) <| en fun a w e' hf=>?_
  obtain⟨HV,e,B1,B5,B7⟩:=up5 e' HV e B1 B5 B7
  refine aa <| ifc hf rfl (fun hb=>?_) (fun hb=>?_)
  ·have hb3:¬ec t k &&& eW t k=0:=by simpa using hb
   refine seq <| ae <| tA hf rfl fun a hf=>aa <| ai <| ap rfl hf rfl ?_
   rintro _ rfl
   exact⟨_,rfl,e,congrArg I (by rw[dC,if_neg h0',if_neg c1,if_neg c2,if_neg c3,if_pos (fun h=>hb3 (h k hlt))])⟩
  ·have hb3:ec t k &&& eW t k=0:=by simpa using hb
   refine ak ?_
   replace hf:=hf.kp [1,5,7,33,34]
   refine rgN 3 hf <| st (ldW T68 rfl (by assumption) rfl) <| st (ldW T68 rfl (by assumption) rfl) <| st (ar fO rfl rfl (fun v u w he h h'=>by cases h;cases h';exact fZ _ _ w)) ?_
   refine en fun a w e' hf=>?_
   obtain⟨HV,e,B1,B5,B7⟩:=up5 e' HV e B1 B5 B7
   haveI hinr:∀G0,InR (GB W G0) (some b5):=fun G0=>InR.gb (by omega)
   refine az T68 hf rfl rfl (aP _) B5 rfl (rfl) fun w hg hsz B5 hf=>?_
   obtain⟨HV,e,B1,B7⟩:=gr4 hg HV e B1 B7
   refine aa <| rgN 1 hf <| st ((add rfl rfl (by omega)).eq (congrArg (Value.int .i64) (show (k:Int)+1=((k+1:Nat):Int) from rfl))) <| en fun a w e' hf=>?_
   obtain⟨HV,e,B1,B5,B7⟩:=up5 e' HV e B1 B5 B7
   refine tP hf (mv rfl) fun a w e' hf=>?_
   obtain⟨HV,e,B1,B5,B7⟩:=up5 e' HV e B1 B5 B7
   refine aa ?_
   replace hf:=hf.kp [1,5,33,34]
   refine⟨_,?_,k+1,rfl,by omega,hf,e,?_⟩
   ·omega
   refine⟨B1,B5,HV,fun i hi=>?_⟩
   by_cases hk:i=k
   ·subst hk;exact hb3
   ·exact Ho i (by omega)
 ·obtain rfl:k=t.length:=by have:=of_decide_eq_false hc;(try dsimp only at this);omega
  refine seq <| ae <| tA hf rfl fun a hf=>aa <| ai <| ap rfl hf rfl ?_
  rintro _ rfl
  exact⟨_,rfl,e,congrArg I (by rw[dC,if_neg h0',if_neg c1,if_neg c2,if_neg c3,if_neg (Classical.not_not.2 Ho)])⟩
end Go.Mono
namespace Go.Mono
open Go Go.Proofs Go.RowKit

theorem kH {G:Nat→Prop}(r:List Int)(v:Value)(W:World)(h:(Dv (slE aj) G r).p v W)(hl:r.length≤4096) :
  Calls Tryz.prog 100 #[v] W (Post (E (ac (r.foldl ins 0))) W):=by
 refine eN [v] [Dv (slE aj) (GB W G) r] Tryz.func100 Tryz.ntmps100 ?_ fun a hf=>?_
 rotate_left
 rotate_right
 ·exact arg1 (Dv.toB h)
 have e:=Ext.rfl' W
 refine seq <| ae <| tL I68 hf fun a b2 w e' hb2 hs2 B2 hf=>?_
 replace e:=e.tr e'
 refine aa <| seq <| ae <| tL I68 hf fun a b3 w e' hb3 hs3 B3 hf=>?_
 obtain⟨e,B2⟩:=up2 e' e B2
 refine aa ?_
 simp only[Value.cells,cE] at B2 B3
 repeat refine seq ?_
 refine rgN 3 hf <| st (mv rfl) <| st (aF U31 (isR rfl)) <| st (mv rfl) <| en fun a w e' hf=>?_
 obtain⟨e,B2,B3⟩:=up3 e' e B2 B3
 refine aa ?_
 replace hf:=hf.keep [2,3,6,7,8]
 refine blk (aJ (fun r0 a w=>∃(k:Nat) ,r0=r.length - k∧k≤r.length∧Fr 17 a w [(2,E (.pointer (some ⟨b2,0,none⟩))),(3,E (.pointer (some ⟨b3,0,none⟩))),(6,Dv (slE aj) (GB W G) r),(7,E (I (r.length:Nat))),(8,E (I k))]∧Ext W w∧Blk w b2 (au 0) 68∧Blk w b3 (au ((r.take k).foldl ins 0)) 68) r.length ⟨0,rfl,by omega,hf,e,B2,B3⟩ ?_)
 rintro r0 a w ⟨k,rfl,hk,hf,e,B2,B3⟩
 refine seq <| rgN 1 hf <| st (lss rfl rfl) <| en fun a w e' hf=>?_
 obtain⟨e,B2,B3⟩:=up3 e' e B2 B3
 refine aa <| seq <| ifc hf rfl (fun hc=>ak ?_) (fun hc=>aG ?_)
 rotate_left
 rotate_left
 ·have hlt:k<r.length:=by have:=of_decide_eq_true hc;(try dsimp only at this);omega
  replace hf:=hf.kp [2,3,6,7,8]
  refine seq <| blk ?_
  have hx:=qh hlt
  have hS:(r.take (k+1)).foldl ins 0=ins ((r.take k).foldl ins 0) (gi r k):=by rw[yb hlt,List.foldl_append];rfl
  refine seq <| rgN 2 hf <| st (aL U31 S3 (isR rfl) rfl (by omega) (hx)) <| st (ldI T3 (isR rfl)) <| en fun a w e' hf=>?_
  obtain⟨e,B2,B3⟩:=up3 e' e B2 B3
  refine tA hf rfl fun a hf=>aa <| rgN 3 hf <| st (ldW T68 rfl (by assumption) rfl) <| st (mv rfl) <| st (ar dr rfl rfl (fun v u w he h h'=>by cases h;cases h';exact du _ _ w)) ?_
  refine en fun a w e' hf=>?_
  obtain⟨e,B2,B3⟩:=up3 e' e B2 B3
  haveI hinr:∀G0,InR (GB W G0) (some b3):=fun G0=>InR.gb (by omega)
  refine az T68 hf rfl rfl (aP _) B3 rfl (rfl) fun w hg hsz B3 hf=>?_
  obtain⟨e,B2⟩:=gr2 hg e B2
  refine aa ?_
  rw[← hS] at B3
  refine rgN 1 hf <| st ((add rfl rfl (by omega)).eq (congrArg (Value.int .i64) (show (k:Int)+1=((k+1:Nat):Int) from rfl))) <| en fun a w e' hf=>?_
  obtain⟨e,B2,B3⟩:=up3 e' e B2 B3
  refine tP hf (mv rfl) fun a w e' hf=>?_
  obtain⟨e,B2,B3⟩:=up3 e' e B2 B3
  refine aa ?_
  replace hf:=hf.keep [2,3,6,7,8]
  refine⟨_,?_,k+1,rfl,by omega,hf,e,?_⟩
  ·omega
  exact⟨B2,B3⟩
 ·obtain rfl:k=r.length:=by have:=of_decide_eq_false hc;(try dsimp only at this);omega
  rw[List.take_length] at B3
  replace hf:=hf.kp [2,3]
  refine seq <| rgN 1 hf <| st (ldW T68 rfl (by assumption) rfl) <| en fun a w e' hf=>?_
  obtain⟨e,B2,B3⟩:=up3 e' e B2 B3
  haveI hinr:∀G0,InR (GB W G0) (some b2):=fun G0=>InR.gb (by omega)
  refine az T68 hf rfl rfl (aP _) B2 rfl (rfl) fun w hg hsz B2 hf=>?_
  obtain⟨e,B3⟩:=gr2 hg e B3
  refine aa <| ai (ep rfl T68 hf rfl B2 e rfl)
end Go.Mono
namespace Go.Mono
open Go Go.Proofs Go.RowKit Go.Gr
def ah (l:List VT):BS:=(l.map (·.1)).foldl ins 0
def eX (t:List (Int×BS)):BS:=t.foldl (fun S b=>S ||| b.2) 0
def eY (t:List (Int×BS))(e:ET):Bool:=decide (0≤gJ (fun b=>has b.2 e.1.1&&has b.2 e.1.2) t)
noncomputable def cgR (t:List (Int×BS))(f:Nat)(g:GT):Int:=
 if (dC t f != 0)=true then dC t f else if (!(ah g.1 &&& ~~~eX t==0))=true then 9 else if g.2.all (eY t)=true then 0 else 23
theorem gk {G:Nat→Prop}{N:Nat}(g:GT)(v:Value)(W:World)(h:(Dv (ptE (grE N)) G (some g)).p v W)(hs:g.1.Pairwise fun x y=>lt1 x.1 y.1=true)(hl:g.1.length≤100000)(hN:N≤1000000) :
  Calls Tryz.prog 20 #[v] W (Post (E (ac (ah g.1))) W):=by
 have h0:(Dv (ptE (grE N)) G0 (some g)).p v W:=Dv.weak h fun b _ hb=>hb.elim
 refine eN [v] [E v] Tryz.func20 Tryz.ntmps20 ?_ fun a hf=>?_
 rotate_left
 rotate_right
 ·exact arg1 rfl
 have e:=Ext.rfl' W
 refine seq <| ae <| tL I68 hf fun a b2 w e' hb2 hs2 B2 hf=>?_
 replace e:=e.tr e'
 refine aa <| seq <| ae <| tL I68 hf fun a b3 w e' hb3 hs3 B3 hf=>?_
 obtain⟨e,B2⟩:=up2 e' e B2
 refine aa ?_
 simp only[Value.cells,cE] at B2 B3
 obtain⟨N0,hN0⟩:∃N0,N0=w.heap.size:=⟨_,rfl⟩
 have l3:b3<N0:=by rw[hN0];exact B3.lt
 have hN0':N0≤w.heap.size:=Nat.le_of_eq hN0
 have e0:=e
 repeat refine seq ?_
 refine rgN 2 hf <| st (mv rfl) <| st (an (A:=OwA vtE 57 N0 G0 g.1) wv rfl (fun v w he k=>by cases k;exact (a0o (G:=G0) g _ w (VA.st _ _ _ _ (Ext.tr e0 he) h0) (fun b hb=>hb.elim) hs hl hN).mono fun en w' ⟨u,k1,k2,k3⟩=>⟨u,k1,k2,OwR.low k3 (Nat.le_trans hN0' he.size) fun b hb=>hb.elim⟩)) ?_
 refine en fun a w e' hf=>?_
 obtain⟨e,B2,B3⟩:=up3 e' e B2 B3
 obtain⟨u,Ho,hf⟩:=hf.fix 7 rfl
 replace Ho:OwR vtE 57 N0 G0 w g.1 u:=Ho
 obtain⟨NV,hNV⟩:∃NV:Nat→Prop,NV=fun b=>u.ownBlock≠some b:=⟨_,rfl⟩
 have HD:(Dv (slE vtE) NV g.1).p u w:=Ho.slN fun b hb=>by rw[hNV];exact fun h=>h hb
 obtain⟨N5,hN5⟩:∃N5,N5=w.heap.size:=⟨_,rfl⟩
 have nV:∀bb,(bb<N0∨N5≤bb)→NV bb:=fun bb hb=>by rw[hNV];intro h;have h3:=Ho.lt h;omega
 have hN5s:N5≤w.heap.size:=Nat.le_of_eq hN5
 have hNN:N0≤N5:=by rw[hN5];exact Ho.base
 refine tP hf (aF U54 (isE rfl HD)) fun a w e' hf=>?_
 obtain⟨HD,hN5s,e,B2,B3⟩:=up5 e' HD hN5s e B2 B3
 refine tP hf (mv rfl) fun a w e' hf=>?_
 obtain⟨HD,hN5s,e,B2,B3⟩:=up5 e' HD hN5s e B2 B3
 refine aa ?_
 replace hf:=hf.keep [2,3,7,8,9]
 refine blk (aJ (fun r0 a w=>∃(k:Nat) ,r0=g.1.length - k∧k≤g.1.length∧Fr 19 a w [(2,E (.pointer (some ⟨b2,0,none⟩))),(3,E (.pointer (some ⟨b3,0,none⟩))),(7,E u),(8,E (I (g.1.length:Nat))),(9,E (I k))]∧Ext W w∧Blk w b2 (au 0) 68∧Blk w b3 (au (((g.1.take k).map (·.1)).foldl ins 0)) 68∧(Dv (slE vtE) NV g.1).p u w∧N5≤w.heap.size) g.1.length ⟨0,rfl,by omega,hf,e,⟨B2,B3,HD,hN5s⟩⟩ ?_)
 rintro r0 a w ⟨k,rfl,hk,hf,e,B2,B3,HD,hN5s⟩
 refine seq <| rgN 1 hf <| st (lss rfl rfl) <| en fun a w e' hf=>?_
 obtain⟨HD,hN5s,e,B2,B3⟩:=up5 e' HD hN5s e B2 B3
 refine aa <| seq <| ifc hf rfl (fun hc=>ak ?_) (fun hc=>aG ?_)
 rotate_left
 rotate_left
 ·have hlt:k<g.1.length:=by have:=of_decide_eq_true hc;(try dsimp only at this);omega
  replace hf:=hf.keep [2,3,7,8,9]
  refine seq <| blk ?_
  have hg:=List.getElem?_eq_getElem hlt
  generalize g.1[k]=y at hg
  have hS:((g.1.take (k+1)).map (·.1)).foldl ins 0=ins (((g.1.take k).map (·.1)).foldl ins 0) y.1:=by rw[cB hg,List.map_append,List.foldl_append];rfl
  obtain⟨S,hS0⟩:∃S,S=((g.1.take k).map (·.1)).foldl ins 0:=⟨_,rfl⟩
  rw[← hS0] at B3 hS
  refine seq <| ae <| tP hf (aL U54 S57 (isE rfl HD) rfl (by omega) (hg)) fun a w e' hf=>?_
  obtain⟨HD,hN5s,e,B2,B3⟩:=up5 e' HD hN5s e B2 B3
  refine tP hf (ij T57 (isR rfl)) fun a w e' hf=>?_
  obtain⟨HD,hN5s,e,B2,B3⟩:=up5 e' HD hN5s e B2 B3
  refine tL I57 hf fun a b5 w e' hb5 hs5 B5 hf=>?_
  obtain⟨HD,hN5s,e,B2,B3⟩:=up5 e' HD hN5s e B2 B3
  replace hf:=hf.kp [2,3,5,7,8,9,12]
  refine az T57 hf rfl rfl (ni y) B5 rfl rfl fun w hg' hsz B5 hf=>?_
  replace e:=e.gr hg' (by omega);replace B2:=B2.gr hg' (by omega);replace B3:=B3.gr hg' (by omega);replace HD:=Dv.grN HD hg' (fun bb hb=>nV bb (by cases hb;omega));replace hN5s:=Nat.le_trans hN5s hg'.size;clear hg'
  refine aa ?_
  replace hf:=hf.keep [2,3,5,7,8,9]
  refine rgN 4 hf <| st ((ldW T68 rfl B3 rfl).eq ((rfl:_=ac S))) <| st (fA U57 rfl T3 rfl) <| st (ld1 T3 rfl B5 rfl) <| st (ar (A:=E (ac (ins S y.1))) dr rfl rfl (fun v u w he h h'=>by cases h;cases h';exact du S y.1 w)) ?_
  refine en fun a w e' hf=>?_
  obtain⟨HD,hN5s,e,B2,B3,B5⟩:=up6 e' HD hN5s e B2 B3 B5
  replace hf:=hf.kp [2,3,7,8,9,16]
  refine az T68 hf rfl rfl (aP _) B3 rfl (aZ _) fun w hg' hsz B3 hf=>?_
  replace e:=e.gr hg' (by omega);replace B2:=B2.gr hg' (by omega);replace HD:=Dv.grN HD hg' (fun bb hb=>nV bb (by cases hb;omega));replace hN5s:=Nat.le_trans hN5s hg'.size;clear hg' B5
  refine aa <| rgN 1 hf <| st ((add rfl rfl (by omega)).eq (congrArg (Value.int .i64) (show (k:Int)+1=((k+1:Nat):Int) from rfl))) <| en fun a w e' hf=>?_
  obtain⟨HD,hN5s,e,B2,B3⟩:=up5 e' HD hN5s e B2 B3
  refine tP hf (mv rfl) fun a w e' hf=>?_
  obtain⟨HD,hN5s,e,B2,B3⟩:=up5 e' HD hN5s e B2 B3
  refine aa ?_
  replace hf:=hf.keep [2,3,7,8,9]
  refine⟨_,?_,k+1,rfl,by omega,hf,e,?_⟩
  ·omega
  rw[hS]
  exact⟨B2,B3,HD,hN5s⟩
 ·obtain rfl:k=g.1.length:=by have:=of_decide_eq_false hc;(try dsimp only at this);omega
  rw[List.take_length] at B3
  replace hf:=hf.kp [2,3]
  refine seq <| rgN 1 hf <| st ((ldW T68 rfl B3 rfl).eq ((rfl:_=ac (ah g.1)))) <| en fun a w e' hf=>?_
  obtain⟨HD,hN5s,e,B2,B3⟩:=up5 e' HD hN5s e B2 B3
  haveI hinr:∀G0,InR (GB W G0) (some b2):=fun G0=>InR.gb (by omega)
  refine az T68 hf rfl rfl (aP _) B2 rfl (rfl) fun w hg hsz B2 hf=>?_
  replace HD:=Dv.grN HD hg (fun bb hb=>nV bb (by cases hb;omega))
  obtain⟨hN5s,e,B3⟩:=gr3 hg hN5s e B3
  refine aa <| ai (dP rfl T68 hf rfl B2 (aZ _) ?_)
  exact⟨_,rfl,e,rfl⟩
theorem a0E (b:Int×BS)(c:Nat)(x:ET)(W:World)(hc:Blk W c (etV x).cells 60) :
  Calls Tryz.prog 44 #[dU b,.pointer (some ⟨c,0,none⟩)] W (Post (E (B (has b.2 x.1.1&&has b.2 x.1.2))) W):=by
 refine eN [dU b,.pointer (some ⟨c,0,none⟩)] [E (dU b),E (.pointer (some ⟨c,0,none⟩))] Tryz.func44 Tryz.ntmps44 ?_ fun a hf=>?_
 rotate_left
 rotate_right
 ·exact arg2 rfl rfl
 have e:=Ext.rfl' W
 have HC:=hc
 refine seq <| ae <| tB hf rfl fun a b2 w v2 hv2 e' hb2 hs2 B2 hf=>?_
 obtain⟨e,HC⟩:=up2 e' e HC
 refine tA hf rfl fun a hf=>aa ?_
 cases hv2
 replace B2:Blk w b2 (bJ b) 88:=B2
 cases h1:has b.2 x.1.1
 ·refine seq <| rgN 12 hf <| st (fA U88 rfl T68 rfl) <| st ((ldP T68 rfl B2 (dx _)).eq (dy _)) <| st (fA U60 rfl T3 rfl) <| st (ld1 T3 rfl HC rfl) <| st ((ar iR rfl rfl (fun v u w he h h'=>by cases h;cases h';exact iX b.2 x.1.1 w)).eq (congrArg Value.bool (h1))) ?_
  refine st (mv rfl) <| sn rfl rfl rfl <| sn rfl rfl rfl <| sn rfl rfl rfl <| sn rfl rfl rfl <| sn rfl rfl rfl <| st (pkF rfl rfl) <| en fun a w e' hf=>?_
  obtain⟨e,HC,B2⟩:=up3 e' e HC B2
  refine tA hf rfl fun a hf=>aa <| ai <| ap rfl hf rfl ?_
  rintro _ rfl
  exact⟨_,rfl,e,rfl⟩
 ·refine seq <| rgN 12 hf <| st (fA U88 rfl T68 rfl) <| st ((ldP T68 rfl B2 (dx _)).eq (dy _)) <| st (fA U60 rfl T3 rfl) <| st (ld1 T3 rfl HC rfl) <| st ((ar iR rfl rfl (fun v u w he h h'=>by cases h;cases h';exact iX b.2 x.1.1 w)).eq (congrArg Value.bool (h1))) ?_
  refine st (mv rfl) <| sy rfl rfl (fA U88 rfl T68 rfl) <| sy rfl rfl ((ldP T68 rfl B2 (dx _)).eq (dy _)) <| sy rfl rfl (fA U60 rfl T3 rfl) <| sy rfl rfl (ld1 T3 rfl HC rfl) <| sy rfl rfl (ar iR rfl rfl (fun v u w he h h'=>by cases h;cases h';exact iX b.2 x.1.2 w)) ?_
  refine st (pkT rfl rfl) <| en fun a w e' hf=>?_
  obtain⟨e,HC,B2⟩:=up3 e' e HC B2
  refine tA hf rfl fun a hf=>aa <| ai <| ap rfl hf rfl ?_
  rintro _ rfl
  exact⟨_,rfl,e,rfl⟩
theorem a0F {t:List (Int×BS)}{k:Nat}{b:Int×BS}(h:t[k]?=some b):eX (t.take (k+1))=eX (t.take k) ||| b.2:=by
 rw[eX,cB h,List.foldl_append];rfl
theorem a0G {G G2:Nat→Prop}{N:Nat}(t:List (Int×BS))(f:Nat)(g:GT)(v u:Value)(W:World)(h:(Dv bQ G t).p v W)(hg:(Dv (ptE (grE N)) G2 (some g)).p u W)(hl:t.length≤4096)(hd:Rng t→(rootN t).length=1→Dp t f)
  (hs:g.1.Pairwise fun x y=>lt1 x.1 y.1=true) (hs2:g.2.Pairwise fun x y=>lt2 x.1 y.1=true) (hl1:g.1.length≤100000) (hl2:g.2.length≤100000) (hN:N≤1000000) :
  Calls Tryz.prog 13 #[v,u] W (Post (E (I (cgR t f g))) W):=by
 replace hg:(Dv (ptE (grE N)) G0 (some g)).p u W:=Dv.weak hg fun b _ hb=>hb.elim
 refine eN [v,u] [E v,E u] Tryz.func13 Tryz.ntmps13 ?_ fun a hf=>?_
 rotate_left
 rotate_right
 ·exact arg2 rfl rfl
 have e:=Ext.rfl' W
 refine seq <| ae <| tA hf rfl fun a hf=>aa ?_
 repeat refine seq ?_
 refine rgN 2 hf <| st (mv rfl) <| st (dX U28 (isE rfl (VA.st _ _ _ _ e hg))) <| en fun a w e' hf=>?_
 replace e:=e.tr e'
 refine aa <| ifc hf rfl (fun h=>by cases h) (fun _=>?_)
 refine ak ?_
 replace hf:=hf.keep [0,1,4]
 repeat refine seq ?_
 refine rgN 2 hf <| st (mv rfl) <| st (an (A:=E (I (dC t f))) wl rfl (fun v w he k=>by cases k;exact a0D t f _ w (VA.st _ _ _ _ (Ext.tr e he) h) hl hd)) ?_
 refine en fun a w e' hf=>?_
 replace e:=e.tr e'
 refine tA hf rfl fun a hf=>aa <| seq <| rgN 2 hf <| st (mv rfl) <| st (neq rfl rfl) <| en fun a w e' hf=>?_
 replace e:=e.tr e'
 refine aa <| ifc hf rfl (fun hb=>?_) (fun hb=>?_)
 ·refine seq <| rgN 1 hf <| st (mv rfl) <| en fun a w e' hf=>?_
  replace e:=e.tr e'
  refine tA hf rfl fun a hf=>aa <| ai <| ap rfl hf rfl ?_
  rintro _ rfl
  exact⟨_,rfl,e,congrArg I (by rw[cgR,if_pos hb])⟩
 refine ak ?_
 have h1n:=aK hb;clear hb
 replace hf:=hf.keep [0,1,4]
 refine seq <| ae <| tL I68 hf fun a b6 w e' hb6 hs6 B6 hf=>?_
 have hle6:=Nat.le_trans e.size (Nat.le_of_eq hb6.symm)
 replace e:=e.tr e'
 refine aa ?_
 simp only[Value.cells,cE] at B6
 repeat refine seq ?_
 refine rgN 3 hf <| st (mv rfl) <| st (aF U41 (isE rfl (VA.st _ _ _ _ e h))) <| st (mv rfl) <| en fun a w e' hf=>?_
 obtain⟨e,B6⟩:=up2 e' e B6
 refine aa ?_
 replace hf:=hf.keep [0,1,4,6,18,19,20]
 refine blk (aJ (fun r0 a w=>∃(k:Nat) ,r0=t.length - k∧k≤t.length∧Fr 46 a w [(0,E v),(1,E u),(4,E (I 0)),(6,E (.pointer (some ⟨b6,0,none⟩))),(18,E v),(19,E (I (t.length:Nat))),(20,E (I k))]∧Ext W w∧Blk w b6 (au (eX (t.take k))) 68) t.length ⟨0,rfl,by omega,hf,e,B6⟩ ?_)
 rintro r0 a w ⟨k,rfl,hk,hf,e,B6⟩
 refine seq <| rgN 1 hf <| st (lss rfl rfl) <| en fun a w e' hf=>?_
 obtain⟨e,B6⟩:=up2 e' e B6
 refine aa <| seq <| ifc hf rfl (fun hc=>ak ?_) (fun hc=>aG ?_)
 rotate_left
 rotate_left
 ·have hlt:k<t.length:=by have:=of_decide_eq_true hc;(try dsimp only at this);omega
  replace hf:=hf.kp [0,1,4,6,18,19,20]
  refine seq <| blk ?_
  have hx:=List.getElem?_eq_getElem hlt
  generalize t[k]=b at hx
  have hS:=a0F hx
  obtain⟨S,hS0⟩:∃S,S=eX (t.take k):=⟨_,rfl⟩
  rw[← hS0] at B6 hS
  refine seq <| ae <| tP hf (aL U41 S88 (isE rfl (VA.st _ _ _ _ e h)) rfl (by omega) (hx)) fun a w e' hf=>?_
  obtain⟨e,B6⟩:=up2 e' e B6
  refine tP hf (fS T88 (isR rfl)) fun a w e' hf=>?_
  obtain⟨e,B6⟩:=up2 e' e B6
  refine tL I88 hf fun a b8 w e' hb8 hs8 B8 hf=>?_
  have lt8_B6:=B6.lt
  obtain⟨e,B6⟩:=up2 e' e B6
  replace hf:=hf.kp [0,1,4,6,8,18,19,20,23]
  refine az T88 hf rfl rfl (ft _) B8 rfl (dw _) fun w hg' hsz B8 hf=>?_
  replace e:=e.gr hg' (by omega);replace B6:=B6.gr hg' (by omega);clear hg'
  refine aa ?_
  replace hf:=hf.kp [0,1,4,6,8,18,19,20]
  refine rgN 4 hf <| st ((ldW T68 rfl B6 rfl).eq ((rfl:_=ac S))) <| st (fA U88 rfl T68 rfl) <| st ((ldP T68 rfl B8 (dx _)).eq (dy _)) <| st (ar (A:=E (ac (S ||| b.2))) fO rfl rfl (fun v u w he h h'=>by cases h;cases h';exact fZ S b.2 w)) ?_
  refine en fun a w e' hf=>?_
  obtain⟨e,B6,B8⟩:=up3 e' e B6 B8
  replace hf:=hf.kp [0,1,4,6,18,19,20,27]
  refine az T68 hf rfl rfl (aP _) B6 rfl (aZ _) fun w hg' hsz B6 hf=>?_
  replace e:=e.gr hg' (by omega);clear hg' B8
  refine aa <| rgN 1 hf <| st ((add rfl rfl (by omega)).eq (congrArg (Value.int .i64) (show (k:Int)+1=((k+1:Nat):Int) from rfl))) <| en fun a w e' hf=>?_
  obtain⟨e,B6⟩:=up2 e' e B6
  refine tP hf (mv rfl) fun a w e' hf=>?_
  obtain⟨e,B6⟩:=up2 e' e B6
  refine aa ?_
  replace hf:=hf.keep [0,1,4,6,18,19,20]
  refine⟨_,?_,k+1,rfl,by omega,hf,e,?_⟩
  ·omega
  rw[hS];exact B6
 obtain rfl:k=t.length:=by have:=of_decide_eq_false hc;(try dsimp only at this);omega
 rw[List.take_length] at B6
 replace hf:=hf.keep [0,1,4,6]
 repeat refine seq ?_
 refine rgG 5 Mix.mix hf <| st (mv rfl) <| st (an (A:=E (ac (ah g.1))) fN rfl (fun v w he k=>by cases k;exact gk g _ w (VA.st _ _ _ _ (Ext.tr e he) hg) hs hl1 hN)) ?_
 refine st ((ldW T68 rfl B6 rfl).eq ((rfl:_=ac (eX t)))) <| st (ar (A:=E (B (ah g.1 &&& ~~~eX t==0))) wm rfl rfl (fun v u w he h h'=>by cases h;cases h';exact yG _ _ w)) ?_
 refine st (bA rfl) <| en fun a w e' hf=>?_
 obtain⟨e,B6⟩:=up2 e' e B6
 refine aa <| ifc hf rfl (fun hb=>?_) (fun hb=>?_)
 ·refine seq <| ae <| tA hf rfl fun a hf=>aa <| ai <| ap rfl hf rfl ?_
  rintro _ rfl
  exact⟨_,rfl,e,congrArg I (by rw[cgR,if_neg h1n,if_pos hb])⟩
 refine ak ?_
 have h2n:=aK hb;clear hb
 replace hf:=hf.keep [0,1,4]
 have e0:=e
 repeat refine seq ?_
 refine rgN 2 hf <| st (mv rfl) <| st (an (A:=OwA etE 60 W.heap.size G0 g.2) pB rfl (fun v w he k=>by cases k;exact (rN (G:=G0) g _ w (VA.st _ _ _ _ (Ext.tr e0 he) hg) (fun b hb=>hb.elim) hs2 hl2 hN).mono fun en w' ⟨z,k1,k2,k3⟩=>⟨z,k1,k2,OwR.low k3 (Ext.tr e0 he).size fun b hb=>hb.elim⟩)) ?_
 refine en fun a w e' hf=>?_
 replace e:=e.tr e'
 obtain⟨z,Ho,hf⟩:=hf.fix 35 rfl
 replace Ho:OwR etE 60 W.heap.size G0 w g.2 z:=Ho
 obtain⟨NV,hNV⟩:∃NV:Nat→Prop,NV=fun b=>z.ownBlock≠some b:=⟨_,rfl⟩
 have HD:(Dv (slE etE) NV g.2).p z w:=Ho.slN fun b hb=>by rw[hNV];exact fun h=>h hb
 obtain⟨N5,hN5⟩:∃N5,N5=w.heap.size:=⟨_,rfl⟩
 have nV:∀bb,N5≤bb→NV bb:=fun bb hb=>by rw[hNV];intro h;have h3:=Ho.lt h;omega
 have hN5s:N5≤w.heap.size:=Nat.le_of_eq hN5
 refine tP hf (aF U55 (isE rfl HD)) fun a w e' hf=>?_
 obtain⟨HD,hN5s,e⟩:=up3 e' HD hN5s e
 refine tP hf (mv rfl) fun a w e' hf=>?_
 obtain⟨HD,hN5s,e⟩:=up3 e' HD hN5s e
 refine aa ?_
 replace hf:=hf.keep [0,4,35,36,37]
 refine blk (aJ (fun r0 a w=>∃(k:Nat) ,r0=g.2.length - k∧k≤g.2.length∧Fr 46 a w [(0,E v),(4,E (I 0)),(35,E z),(36,E (I (g.2.length:Nat))),(37,E (I k))]∧Ext W w∧(Dv (slE etE) NV g.2).p z w∧N5≤w.heap.size∧(∀y∈g.2.take k,(!eY t y)=false)) g.2.length ⟨0,rfl,by omega,hf,e,⟨HD,hN5s,by simp⟩⟩ ?_)
 rintro r0 a w ⟨k,rfl,hk,hf,e,HD,hN5s,hn⟩
 refine seq <| rgN 1 hf <| st (lss rfl rfl) <| en fun a w e' hf=>?_
 obtain⟨HD,hN5s,e⟩:=up3 e' HD hN5s e
 refine aa <| seq <| ifc hf rfl (fun hc=>ak ?_) (fun hc=>aG ?_)
 rotate_left
 rotate_left
 ·have hlt:k<g.2.length:=by have:=of_decide_eq_true hc;(try dsimp only at this);omega
  replace hf:=hf.kp [0,4,35,36,37]
  refine seq <| blk ?_
  have hx:=List.getElem?_eq_getElem hlt
  generalize g.2[k]=x at hx
  refine seq <| ae <| tP hf (aL U55 S60 (isE rfl HD) rfl (by omega) (hx)) fun a w e' hf=>?_
  obtain⟨HD,hN5s,e⟩:=up3 e' HD hN5s e
  refine tP hf (gK T60 (isR rfl)) fun a w e' hf=>?_
  obtain⟨HD,hN5s,e⟩:=up3 e' HD hN5s e
  refine tL I60 hf fun a b10 w e' hb10 hs10 B10 hf=>?_
  have hle10:=Nat.le_trans e.size (Nat.le_of_eq hb10.symm)
  obtain⟨HD,hN5s,e⟩:=up3 e' HD hN5s e
  replace hf:=hf.kp [0,4,10,35,36,37,40]
  refine az T60 hf rfl rfl (kD x) B10 rfl rfl fun w hg' hsz B10 hf=>?_
  replace e:=e.gr hg' (by omega);replace HD:=Dv.grN HD hg' (fun bb hb=>nV bb (by cases hb;omega));replace hN5s:=Nat.le_trans hN5s hg'.size;clear hg'
  refine aa ?_
  replace hf:=hf.keep [0,4,10,35,36,37]
  refine seq <| rgN 4 hf <| st (mv rfl) <| st (dM rfl) <| st (ar (A:=E (B (eY t x))) mp rfl rfl (fun v u w he k k'=>by cases k;cases k';exact mO t _ _ _ (fun b=>has b.2 x.1.1&&has b.2 x.1.2) w wn (VA.st _ _ _ _ (Ext.tr e he) h) (fun w' b he'=>by simpa using a0E b b10 x w' (B10.ext (Ext.tr he he'))) hl)) ?_
  refine st (bA rfl) <| en fun a w e' hf=>?_
  obtain⟨HD,hN5s,e,B10⟩:=up4 e' HD hN5s e B10
  refine aa <| ifc hf rfl (fun hb=>?_) (fun hb=>?_)
  ·refine seq <| ae <| tA hf rfl fun a hf=>aa ?_
   have hno:¬(g.2.all (eY t)=true):=by
    rw[List.all_eq_true];intro hall
    have:=hall x (List.mem_of_getElem? hx)
    rw[this] at hb;cases hb
   refine ai <| ap rfl hf rfl ?_
   rintro _ rfl
   exact⟨_,rfl,e,congrArg I (by rw[cgR,if_neg h1n,if_neg h2n,if_neg hno])⟩
  ·refine ak <| rgN 1 hf <| st ((add rfl rfl (by omega)).eq (congrArg (Value.int .i64) (show (k:Int)+1=((k+1:Nat):Int) from rfl))) <| en fun a w e' hf=>?_
   obtain⟨HD,hN5s,e⟩:=up3 e' HD hN5s e
   refine tP hf (mv rfl) fun a w e' hf=>?_
   obtain⟨HD,hN5s,e⟩:=up3 e' HD hN5s e
   refine aa ?_
   replace hf:=hf.keep [0,4,35,36,37]
   refine⟨_,?_,k+1,rfl,by omega,hf,e,?_⟩
   ·omega
   exact⟨HD,hN5s,kn (p:=fun y => !eY t y) hn hx hb⟩
 ·obtain rfl:k=g.2.length:=by have:=of_decide_eq_false hc;(try dsimp only at this);omega
  rw[List.take_length] at hn
  have hall:g.2.all (eY t)=true:=by
   rw[List.all_eq_true];intro y hy
   simpa using hn y hy
  refine seq <| ae <| tA hf rfl fun a hf=>aa <| ai <| ap rfl hf rfl ?_
  rintro _ rfl
  exact⟨_,rfl,e,congrArg I (by rw[cgR,if_neg h1n,if_neg h2n,if_pos hall])⟩

theorem rY {G:Nat→Prop}{N:Nat}(g:GT)(v:Value)(W:World)(h:(Dv (ptE (grE N)) G (some g)).p v W) :
  Calls Tryz.prog 54 #[v] W (Post (Tup [E (I (g.1.length:Nat)),E (I (g.2.length:Nat))]) W):=by
 refine eN [v] [Dv (ptE (grE N)) G0 (some g)] Tryz.func54 Tryz.ntmps54 ?_ fun a hf=>?_
 rotate_left
 rotate_right
 ·exact arg1 (Dv.weak h fun b _ hb=>hb.elim)
 have e:=Ext.rfl' W
 refine seq <| ae <| tA hf rfl fun a hf=>tA hf rfl fun a hf=>aa ?_
 repeat refine seq ?_
 refine rgN 2 hf <| st (mv rfl) <| st (dX U28 (isR rfl)) <| en fun a w e' hf=>?_
 replace e:=e.tr e'
 refine aa <| ifc hf rfl (fun h=>by cases h) (fun _=>?_)
 refine ak <| seq <| rgG 10 Mix.mix hf <| st (mv rfl) <| st (fW (isR rfl)) <| st (aB fk rfl eH (by decide) (Fld.fst Fld.refl) (isR rfl)) <| st (ldD eH (isR rfl)) <| st (eU ka (isR rfl)) <| st (mv rfl) <| st (fW (isR rfl)) <| st (aB fk rfl eI (by decide) (Fld.snd Fld.refl rfl) (isR rfl)) <| st (ldD eI (isR rfl)) <| st (eU iT (isR rfl)) <| en fun a w e' hf=>?_
 replace e:=e.tr e'
 refine tA hf rfl fun a hf=>tA hf rfl fun a hf=>aa <| ai (dF rfl hf rfl rfl ?_)
 rintro _ _ rfl rfl
 exact⟨_,rfl,e,Tup.two rfl rfl⟩
def ckW (g:GT):Int:=if 12<g.1.length then 2 else 0
theorem a0H {G:Nat→Prop}{N:Nat}(g:GT)(v:Value)(W:World)(h:(Dv (ptE (grE N)) G (some g)).p v W) :
  Calls Tryz.prog 18 #[v] W (Post (E (I (ckW g))) W):=by
 refine eN [v] [Dv (ptE (grE N)) G0 (some g)] Tryz.func18 Tryz.ntmps18 ?_ fun a hf=>?_
 rotate_left
 rotate_right
 ·exact arg1 (Dv.weak h fun b _ hb=>hb.elim)
 have e:=Ext.rfl' W
 refine seq <| ae <| tA hf rfl fun a hf=>aa ?_
 repeat refine seq ?_
 refine rgN 2 hf <| st (mv rfl) <| st (dX U28 (isR rfl)) <| en fun a w e' hf=>?_
 replace e:=e.tr e'
 refine aa <| ifc hf rfl (fun h=>by cases h) (fun _=>?_)
 refine ak ?_
 repeat refine seq ?_
 refine rgN 5 hf <| st (mv rfl) <| st (an pD rfl (fun v w he h=>rY g v w h)) <| st (mv rfl) <| st (aO rfl rfl) <| st (aO rfl rfl) <| en fun a w e' hf=>?_
 replace e:=e.tr e'
 refine tA hf rfl fun a hf=>tA hf rfl fun a hf=>aa <| seq <| rgN 2 hf <| st (mv rfl) <| st (gtr rfl rfl) <| en fun a w e' hf=>?_
 replace e:=e.tr e'
 refine aa <| ifc hf rfl (fun hb=>?_) (fun hb=>?_)
 ·have hb':12<g.1.length:=by have:=of_decide_eq_true hb;omega
  refine seq <| ae <| tA hf rfl fun a hf=>aa <| ai <| ap rfl hf rfl ?_
  rintro _ rfl
  exact⟨_,rfl,e,congrArg I (by rw[ckW,if_pos hb'])⟩
 ·have hb':¬12<g.1.length:=by have:=of_decide_eq_false hb;omega
  refine ak <| seq <| ae <| tA hf rfl fun a hf=>aa <| ai <| ap rfl hf rfl ?_
  rintro _ rfl
  exact⟨_,rfl,e,congrArg I (by rw[ckW,if_neg hb'])⟩
def nbI (id:Int)(S:BS)(x:ET):BS:=if id=x.1.1 then ins S x.1.2 else if id=x.1.2 then ins S x.1.1 else S
def nbG (E:List ET)(id:Int):BS:=E.foldl (nbI id) 0
theorem gN {G:Nat→Prop}{N:Nat}(g:GT)(id:Int)(v:Value)(W:World)(h:(Dv (ptE (grE N)) G (some g)).p v W)(hs:g.2.Pairwise fun x y=>lt2 x.1 y.1=true)(hl:g.2.length≤100000)(hN:N≤1000000) :
  Calls Tryz.prog 55 #[v,I id] W (Post (E (ac (nbG g.2 id))) W):=by
 have h0:(Dv (ptE (grE N)) G0 (some g)).p v W:=Dv.weak h fun b _ hb=>hb.elim
 refine eN [v,I id] [E v,E (I id)] Tryz.func55 Tryz.ntmps55 ?_ fun a hf=>?_
 rotate_left
 rotate_right
 ·exact arg2 rfl rfl
 have e:=Ext.rfl' W
 refine seq <| ae <| tL I68 hf fun a b4 w e' hb4 hs4 B4 hf=>?_
 replace e:=e.tr e'
 refine aa <| seq <| ae <| tL I68 hf fun a b5 w e' hb5 hs5 B5 hf=>?_
 obtain⟨e,B4⟩:=up2 e' e B4
 refine aa ?_
 simp only[Value.cells,cE] at B4 B5
 obtain⟨N0,hN0⟩:∃N0,N0=w.heap.size:=⟨_,rfl⟩
 have l5:b5<N0:=by rw[hN0];exact B5.lt
 have hN0':N0≤w.heap.size:=Nat.le_of_eq hN0
 have e0:=e
 repeat refine seq ?_
 refine rgN 2 hf <| st (mv rfl) <| st (an (A:=OwA etE 60 N0 G0 g.2) pB rfl (fun v w he k=>by cases k;exact (rN (G:=G0) g _ w (VA.st _ _ _ _ (Ext.tr e0 he) h0) (fun b hb=>hb.elim) hs hl hN).mono fun en w' ⟨u,k1,k2,k3⟩=>⟨u,k1,k2,OwR.low k3 (Nat.le_trans hN0' he.size) fun b hb=>hb.elim⟩)) ?_
 refine en fun a w e' hf=>?_
 obtain⟨e,B4,B5⟩:=up3 e' e B4 B5
 obtain⟨u,Ho,hf⟩:=hf.fix 9 rfl
 replace Ho:OwR etE 60 N0 G0 w g.2 u:=Ho
 obtain⟨NV,hNV⟩:∃NV:Nat→Prop,NV=fun b=>u.ownBlock≠some b:=⟨_,rfl⟩
 have HD:(Dv (slE etE) NV g.2).p u w:=Ho.slN fun b hb=>by rw[hNV];exact fun h=>h hb
 obtain⟨N5,hN5⟩:∃N5,N5=w.heap.size:=⟨_,rfl⟩
 have nV:∀bb,(bb<N0∨N5≤bb)→NV bb:=fun bb hb=>by rw[hNV];intro h;have h3:=Ho.lt h;omega
 have hN5s:N5≤w.heap.size:=Nat.le_of_eq hN5
 have hNN:N0≤N5:=by rw[hN5];exact Ho.base
 refine tP hf (aF U55 (isE rfl HD)) fun a w e' hf=>?_
 obtain⟨HD,hN5s,e,B4,B5⟩:=up5 e' HD hN5s e B4 B5
 refine tP hf (mv rfl) fun a w e' hf=>?_
 obtain⟨HD,hN5s,e,B4,B5⟩:=up5 e' HD hN5s e B4 B5
 refine aa ?_
 replace hf:=hf.keep [1,4,5,9,10,11]
 refine blk (aJ (fun r0 a w=>∃(k:Nat) ,r0=g.2.length - k∧k≤g.2.length∧Fr 34 a w [(1,E (I id)),(4,E (.pointer (some ⟨b4,0,none⟩))),(5,E (.pointer (some ⟨b5,0,none⟩))),(9,E u),(10,E (I (g.2.length:Nat))),(11,E (I k))]∧Ext W w∧Blk w b4 (au 0) 68∧Blk w b5 (au (nbG (g.2.take k) id)) 68∧(Dv (slE etE) NV g.2).p u w∧N5≤w.heap.size) g.2.length ⟨0,rfl,by omega,hf,e,⟨B4,B5,HD,hN5s⟩⟩ ?_)
 rintro r0 a w ⟨k,rfl,hk,hf,e,B4,B5,HD,hN5s⟩
 refine seq <| rgN 1 hf <| st (lss rfl rfl) <| en fun a w e' hf=>?_
 obtain⟨HD,hN5s,e,B4,B5⟩:=up5 e' HD hN5s e B4 B5
 refine aa <| seq <| ifc hf rfl (fun hc=>ak ?_) (fun hc=>aG ?_)
 rotate_left
 rotate_left
 ·have hlt:k<g.2.length:=by have:=of_decide_eq_true hc;(try dsimp only at this);omega
  replace hf:=hf.keep [1,4,5,9,10,11]
  refine seq <| blk ?_
  have hg:=List.getElem?_eq_getElem hlt
  generalize g.2[k]=y at hg
  have hS:nbG (g.2.take (k+1)) id=nbI id (nbG (g.2.take k) id) y:=by rw[nbG,cB hg,List.foldl_append];rfl
  obtain⟨S,hS0⟩:∃S,S=nbG (g.2.take k) id:=⟨_,rfl⟩
  rw[← hS0] at B5 hS
  refine seq <| ae <| tP hf (aL U55 S60 (isE rfl HD) rfl (by omega) (hg)) fun a w e' hf=>?_
  obtain⟨HD,hN5s,e,B4,B5⟩:=up5 e' HD hN5s e B4 B5
  refine tP hf (gK T60 (isR rfl)) fun a w e' hf=>?_
  obtain⟨HD,hN5s,e,B4,B5⟩:=up5 e' HD hN5s e B4 B5
  refine tL I60 hf fun a b7 w e' hb7 hs7 B7 hf=>?_
  obtain⟨HD,hN5s,e,B4,B5⟩:=up5 e' HD hN5s e B4 B5
  replace hf:=hf.kp [1,4,5,7,9,10,11,14]
  refine az T60 hf rfl rfl (kD y) B7 rfl rfl fun w hg' hsz B7 hf=>?_
  replace e:=e.gr hg' (by omega);replace B4:=B4.gr hg' (by omega);replace B5:=B5.gr hg' (by omega);replace HD:=Dv.grN HD hg' (fun bb hb=>nV bb (by cases hb;omega));replace hN5s:=Nat.le_trans hN5s hg'.size;clear hg'
  refine aa ?_
  replace hf:=hf.kp [1,4,5,7,9,10,11]
  refine seq <| rgN 1 hf <| st (mv rfl) <| en fun a w e' hf=>?_
  obtain⟨HD,hN5s,e,B4,B5,B7⟩:=up6 e' HD hN5s e B4 B5 B7
  refine aa <| blk ?_
  by_cases h1:id=y.1.1
  ·have hS':nbI id S y=ins S y.1.2:=by rw[nbI,if_pos h1]
   rw[hS'] at hS
   refine seq <| rgN 3 hf <| st (fA U60 rfl T3 rfl) <| st (ld1 T3 rfl B7 rfl) <| st ((eql rfl rfl).eq (congrArg Value.bool (decide_eq_true h1))) <| en fun a w e' hf=>?_
   obtain⟨HD,hN5s,e,B4,B5,B7⟩:=up6 e' HD hN5s e B4 B5 B7
   refine tA hf rfl fun a hf=>aa <| ifc hf rfl (fun _=>?_) (fun h=>by cases h)
   refine rgN 4 hf <| st ((ldW T68 rfl B5 rfl).eq ((rfl:_=ac S))) <| st (fA U60 rfl T3 rfl) <| st (ld1 T3 rfl B7 rfl) <| st (ar (A:=E (ac (ins S y.1.2))) dr rfl rfl (fun v u w he h h'=>by cases h;cases h';exact du S y.1.2 w)) ?_
   refine en fun a w e' hf=>?_
   obtain⟨HD,hN5s,e,B4,B5,B7⟩:=up6 e' HD hN5s e B4 B5 B7
   replace hf:=hf.kp [1,4,5,9,10,11,23]
   refine az T68 hf rfl rfl (aP _) B5 rfl (aZ _) fun w hg' hsz B5 hf=>?_
   replace e:=e.gr hg' (by omega);replace B4:=B4.gr hg' (by omega);replace HD:=Dv.grN HD hg' (fun bb hb=>nV bb (by cases hb;omega));replace hN5s:=Nat.le_trans hN5s hg'.size;clear hg' B7
   refine aa <| rgN 1 hf <| st ((add rfl rfl (by omega)).eq (congrArg (Value.int .i64) (show (k:Int)+1=((k+1:Nat):Int) from rfl))) <| en fun a w e' hf=>?_
   obtain⟨HD,hN5s,e,B4,B5⟩:=up5 e' HD hN5s e B4 B5
   refine tP hf (mv rfl) fun a w e' hf=>?_
   obtain⟨HD,hN5s,e,B4,B5⟩:=up5 e' HD hN5s e B4 B5
   refine aa ?_
   replace hf:=hf.kp [1,4,5,9,10,11]
   refine⟨_,?_,k+1,rfl,by omega,hf,e,?_⟩
   ·omega
   rw[hS]
   exact⟨B4,B5,HD,hN5s⟩
  by_cases h2:id=y.1.2
  ·have hS':nbI id S y=ins S y.1.1:=by rw[nbI,if_neg h1,if_pos h2]
   rw[hS'] at hS
   refine seq <| rgN 3 hf <| st (fA U60 rfl T3 rfl) <| st (ld1 T3 rfl B7 rfl) <| st ((eql rfl rfl).eq (congrArg Value.bool (decide_eq_false h1))) <| en fun a w e' hf=>?_
   obtain⟨HD,hN5s,e,B4,B5,B7⟩:=up6 e' HD hN5s e B4 B5 B7
   refine tA hf rfl fun a hf=>aa <| ifc hf rfl (fun h=>by cases h) (fun _=>?_)
   refine seq <| rgN 3 hf <| st (fA U60 rfl T3 rfl) <| st (ld1 T3 rfl B7 rfl) <| st ((eql rfl rfl).eq (congrArg Value.bool (decide_eq_true h2))) <| en fun a w e' hf=>?_
   obtain⟨HD,hN5s,e,B4,B5,B7⟩:=up6 e' HD hN5s e B4 B5 B7
   refine tA hf rfl fun a hf=>aa <| ifc hf rfl (fun _=>?_) (fun h=>by cases h)
   refine rgN 4 hf <| st ((ldW T68 rfl B5 rfl).eq ((rfl:_=ac S))) <| st (fA U60 rfl T3 rfl) <| st (ld1 T3 rfl B7 rfl) <| st (ar (A:=E (ac (ins S y.1.1))) dr rfl rfl (fun v u w he h h'=>by cases h;cases h';exact du S y.1.1 w)) ?_
   refine en fun a w e' hf=>?_
   obtain⟨HD,hN5s,e,B4,B5,B7⟩:=up6 e' HD hN5s e B4 B5 B7
   replace hf:=hf.kp [1,4,5,9,10,11,31]
   refine az T68 hf rfl rfl (aP _) B5 rfl (aZ _) fun w hg' hsz B5 hf=>?_
   replace e:=e.gr hg' (by omega);replace B4:=B4.gr hg' (by omega);replace HD:=Dv.grN HD hg' (fun bb hb=>nV bb (by cases hb;omega));replace hN5s:=Nat.le_trans hN5s hg'.size;clear hg' B7
   refine aa <| rgN 1 hf <| st ((add rfl rfl (by omega)).eq (congrArg (Value.int .i64) (show (k:Int)+1=((k+1:Nat):Int) from rfl))) <| en fun a w e' hf=>?_
   obtain⟨HD,hN5s,e,B4,B5⟩:=up5 e' HD hN5s e B4 B5
   refine tP hf (mv rfl) fun a w e' hf=>?_
   obtain⟨HD,hN5s,e,B4,B5⟩:=up5 e' HD hN5s e B4 B5
   refine aa ?_
   replace hf:=hf.keep [1,4,5,9,10,11]
   refine⟨_,?_,k+1,rfl,by omega,hf,e,?_⟩
   ·omega
   rw[hS]
   exact⟨B4,B5,HD,hN5s⟩
  ·have hS':nbI id S y=S:=by rw[nbI,if_neg h1,if_neg h2]
   rw[hS'] at hS
   refine seq <| rgN 3 hf <| st (fA U60 rfl T3 rfl) <| st (ld1 T3 rfl B7 rfl) <| st ((eql rfl rfl).eq (congrArg Value.bool (decide_eq_false h1))) <| en fun a w e' hf=>?_
   obtain⟨HD,hN5s,e,B4,B5,B7⟩:=up6 e' HD hN5s e B4 B5 B7
   refine tA hf rfl fun a hf=>aa <| ifc hf rfl (fun h=>by cases h) (fun _=>?_)
   refine seq <| rgN 3 hf <| st (fA U60 rfl T3 rfl) <| st (ld1 T3 rfl B7 rfl) <| st ((eql rfl rfl).eq (congrArg Value.bool (decide_eq_false h2))) <| en fun a w e' hf=>?_
   obtain⟨HD,hN5s,e,B4,B5,B7⟩:=up6 e' HD hN5s e B4 B5 B7
   refine tA hf rfl fun a hf=>aa <| ifc hf rfl (fun h=>by cases h) (fun _=>?_)
   refine ak <| rgN 1 hf <| st ((add rfl rfl (by omega)).eq (congrArg (Value.int .i64) (show (k:Int)+1=((k+1:Nat):Int) from rfl))) <| en fun a w e' hf=>?_
   obtain⟨HD,hN5s,e,B4,B5⟩:=up5 e' HD hN5s e B4 B5
   refine tP hf (mv rfl) fun a w e' hf=>?_
   obtain⟨HD,hN5s,e,B4,B5⟩:=up5 e' HD hN5s e B4 B5
   refine aa ?_
   replace hf:=hf.kp [1,4,5,9,10,11]
   refine⟨_,?_,k+1,rfl,by omega,hf,e,?_⟩
   ·omega
   rw[hS]
   exact⟨B4,B5,HD,hN5s⟩
 ·obtain rfl:k=g.2.length:=by have:=of_decide_eq_false hc;(try dsimp only at this);omega
  rw[List.take_length] at B5
  replace hf:=hf.kp [4,5]
  refine seq <| rgN 1 hf <| st ((ldW T68 rfl B5 rfl).eq ((rfl:_=ac (nbG g.2 id)))) <| en fun a w e' hf=>?_
  obtain⟨HD,hN5s,e,B4,B5⟩:=up5 e' HD hN5s e B4 B5
  haveI hinr:∀G0,InR (GB W G0) (some b4):=fun G0=>InR.gb (by omega)
  refine az T68 hf rfl rfl (aP _) B4 rfl (rfl) fun w hg hsz B4 hf=>?_
  replace HD:=Dv.grN HD hg (fun bb hb=>nV bb (by cases hb;omega))
  obtain⟨hN5s,e,B5⟩:=gr3 hg hN5s e B5
  refine aa <| ai (dP rfl T68 hf rfl B4 (aZ _) ?_)
  exact⟨_,rfl,e,rfl⟩
end Go.Mono
namespace Go.Mono
open Go Go.Gr
theorem nt {γ:Type}(p:γ→Bool)(x:γ)(l:List γ):(bV p x l).Perm (x::l):=by
 unfold bV
 have h:=List.takeWhile_append_dropWhile (p:=fun y => !p y) (l:=l)
 conv=>rhs;rw[← h]
 exact List.perm_middle
theorem nu {γ κ:Type}{lt:κ→κ→Bool}(key:γ→κ)(tr:∀{a b c},lt a b=true→lt b c=true→lt a c=true)(tot:∀{a b},lt a b=false→a≠b→lt b a=true){x:γ} :
  ∀{l:List γ},l.Pairwise (fun a b=>lt (key a) (key b)=true)→(∀y∈l,key x≠key y)→(bV (fun y=>lt (key x) (key y)) x l).Pairwise fun a b=>lt (key a) (key b)=true
 | [],_,_=>by simp[bV]
 | y::r,hl,hx=>by
  obtain⟨l1,l2⟩:=List.pairwise_cons.1 hl
  unfold bV
  by_cases hy:lt (key x) (key y)=true
  ·simp only[List.takeWhile_cons,List.dropWhile_cons,hy,Bool.not_true,Bool.false_eq_true,if_false,List.nil_append]
   refine List.pairwise_cons.2 ⟨fun z hz=>?_,hl⟩
   rcases List.mem_cons.1 hz with rfl|hz
   ·exact hy
   ·exact tr hy (l1 z hz)
  ·have hy':lt (key x) (key y)=false:=by simpa using hy
   have ih:=nu (γ:=γ) (κ:=κ) (lt:=lt) key (@tr) (@tot) (l:=r) l2 fun z hz=>hx z (by simp[hz])
   have hyx:=tot hy' (hx y (by simp))
   simp only[List.takeWhile_cons,List.dropWhile_cons,hy',Bool.not_false,if_true,List.cons_append]
   refine List.pairwise_cons.2 ⟨fun z hz=>?_,ih⟩
   have:=(nt (fun y=>lt (key x) (key y)) x r).mem_iff.1 hz
   rcases List.mem_cons.1 this with rfl|hz'
   ·exact hyx
   ·exact l1 z hz'
theorem a0I {l:List VT}{n:Int}(h:ev l n<0):∀y∈l,y.1≠n:=by
 unfold ev at h
 split at h
 ·omega
 ·rename_i hn
  rw[List.findIdx?_eq_none_iff] at hn
  intro y hy
  simpa using hn y hy
theorem rZ {l:List VT}{n:Int}(h:¬ev l n<0):inV l n=true:=by
 unfold ev at h
 split at h
 ·rename_i i hi
  obtain⟨h1,h2,_⟩:=List.findIdx?_eq_some_iff_getElem.1 hi
  exact List.any_eq_true.2 ⟨_,List.getElem_mem h1,h2⟩
 ·omega
theorem a0J {l:List ET}{m n:Int}(h:eT l m n<0):∀y∈l,y.1≠ends m n:=by
 unfold eT at h
 split at h
 ·omega
 ·rename_i hn
  rw[List.findIdx?_eq_none_iff] at hn
  intro y hy he
  have h2:=hn y hy
  obtain⟨⟨p,q⟩,c⟩:=y
  simp only[ends,Prod.mk.injEq] at he
  simp only[na] at h2
  by_cases hmn:m≤n
  ·rw[Int.min_eq_left hmn,Int.max_eq_right hmn] at he
   rw[he.1,he.2] at h2;simp at h2
  ·rw[Int.min_eq_right (by omega),Int.max_eq_left (by omega)] at he
   rw[he.1,he.2] at h2;simp at h2
theorem sa {l m:List VT}(h:∀y∈l,∃z∈m,z.1=y.1){n:Int}(hn:inV l n=true):inV m n=true:=by
 obtain⟨y,hy,hyn⟩:=List.any_eq_true.1 hn
 obtain⟨z,hz,hzy⟩:=h y hy
 exact List.any_eq_true.2 ⟨z,hz,by rw[hzy];exact hyn⟩
theorem sb {d:DT}{x y:VT}(h:keepV d x=some y):y.1=x.1:=by
 unfold keepV at h;split at h <;> simp at h;rw[← h]
theorem sc {d:DT}{a:Int}{i:Nat}{x y:ET}(h:dZ d a i x=some y):y.1=x.1:=by
 unfold dZ at h;split at h <;> simp at h;rw[← h]
theorem nw {d:DT}{a:Int}:∀{i:Nat} {l:List ET} {y:ET},y∈bS d a i l→∃j,∃x∈l,dZ d a j x=some y
 | _,[],y,h=>by simp[bS] at h
 | i,x::r,y,h=>by
  rw[bS,List.mem_append] at h
  rcases h with h|h
  ·exact⟨i,x,by simp,by simpa using h⟩
  ·obtain⟨j,z,hz,hj⟩:=nw h
   exact⟨j,z,by simp[hz],hj⟩
theorem sd {d:DT}{a:Int}:∀{i:Nat} {l:List ET},l.Pairwise (fun p q=>lt2 p.1 q.1=true)→(bS d a i l).Pairwise fun p q=>lt2 p.1 q.1=true
 | _,[],_=>by simp[bS]
 | i,x::r,h=>by
  obtain⟨h1,h2⟩:=List.pairwise_cons.1 h
  rw[bS,List.pairwise_append]
  refine⟨by cases dZ d a i x <;> simp,sd h2,fun p hp q hq=>?_⟩
  obtain⟨j,z,hz,hj⟩:=nw hq
  have hp':dZ d a i x=some p:=by simpa using hp
  rw[sc hp',sc hj];exact h1 z hz
theorem a0K {g:GT}(G:Gr.Ok g){d:DT}(hd:0≤d.2.2.2.1∧d.2.2.2.1<256):Gr.Ok (doR g d).1:=by
 unfold doR
 by_cases hw:(cL g d != 0)=true
 ·rw[if_pos hw];exact G
 rw[if_neg hw]
 have hw0:cL g d=0:=by simpa using hw
 unfold cL at hw0
 split at hw0
 ·cases hw0
 rename_i c1
 split at hw0
 ·cases hw0
 rename_i c2
 split at hw0
 ·cases hw0
 rename_i c3
 simp only[Bool.or_eq_true,Bool.and_eq_true,decide_eq_true_eq,not_or,not_and] at c1 c2 c3
 obtain⟨⟨c2a,c2b⟩,c2c⟩:=c2
 by_cases h0:(d.1==0)=true
 ·rw[if_pos h0]
  rw[if_pos h0] at hw0
  have hd0:d.1=0:=by simpa using h0
  split at hw0
  ·cases hw0
  rename_i c4
  have hnot:=a0I (l:=g.1) (n:=d.2.1) (by simpa using c4)
  have hp:=nt (fun y:VT=>lt1 d.2.1 y.1) (d.2.1,d.2.2.2) g.1
  have hhv:=c2c (by rw[hd0];decide)
  refine⟨nu (γ:=VT) (κ:=Int) (lt:=lt1) (fun y=>y.1) (fun h k=>qB h k) (fun h k=>yw h k) (x:=(d.2.1,d.2.2.2)) G.sv fun y hy=>(hnot y hy).symm,G.se,fun y hy=>?_,fun y hy=>?_,G.ne⟩
  ·rcases List.mem_cons.1 (hp.mem_iff.1 hy) with rfl|hy
   ·refine⟨by simp[dY];omega,hd,by simp only[heavy,Bool.or_eq_false_iff,decide_eq_false_iff_not];omega⟩
   ·exact G.rv y hy
  ·obtain⟨k1,k2,k3,k4⟩:=G.re y hy
   have hm:∀z∈g.1,∃z'∈insV g.1 (d.2.1,d.2.2.2),z'.1=z.1:=fun z hz=>⟨z,hp.mem_iff.2 (by simp[hz]),rfl⟩
   exact⟨k1,sa hm k2,sa hm k3,k4⟩
 rw[if_neg h0]
 rw[if_neg h0] at hw0
 split at hw0
 ·cases hw0
 rename_i c5
 simp only[Bool.or_eq_true,Bool.and_eq_true,decide_eq_true_eq,not_or,not_and] at c5
 by_cases h2:(d.1==2)=true
 ·rw[if_pos h2]
  rw[if_pos h2] at hw0
  have hd2:d.1=2:=by simpa using h2
  split at hw0
  ·cases hw0
  rename_i c6
  split at hw0
  ·cases hw0
  rename_i c7
  have hnot:=a0J (l:=g.2) (m:=d.2.1) (n:=d.2.2.1) (by simpa using c6)
  have hp:=nt (fun y:ET=>lt2 (ends d.2.1 d.2.2.1) y.1) (ends d.2.1 d.2.2.1,d.2.2.2) g.2
  have hhv:=c2c (by rw[hd2];decide)
  have hne:=c3 (by rw[hd2];decide)
  have hvv:=rZ (c5.2 h2)
  have huv:=rZ c5.1
  simp only[beq_iff_eq] at hne
  refine⟨G.sv,nu (γ:=ET) (κ:=Int×Int) (lt:=lt2) (fun y=>y.1) (fun h k=>qA h k) (fun h k=>yv h k) (x:=(ends d.2.1 d.2.2.1,d.2.2.2)) G.se fun y hy=>(hnot y hy).symm,G.rv,fun y hy=>?_,?_⟩
  ·rcases List.mem_cons.1 (hp.mem_iff.1 hy) with rfl|hy
   ·refine⟨by simp only[ends];omega,?_,?_,hd,by simp only[heavy,Bool.or_eq_false_iff,decide_eq_false_iff_not];omega⟩
    ·simp only[ends];by_cases hm:d.2.1≤d.2.2.1
     ·rw[Int.min_eq_left hm];exact huv
     ·rw[Int.min_eq_right (by omega)];exact hvv
    ·simp only[ends];by_cases hm:d.2.1≤d.2.2.1
     ·rw[Int.max_eq_right hm];exact hvv
     ·rw[Int.max_eq_left (by omega)];exact huv
   ·exact G.re y hy
  ·simp only[ii,nj]
   have:¬((1024:Int)≤(g.2.length:Nat)):=by simpa using c7
   omega
 rw[if_neg h2]
 have hkeep:∀y∈g.1,d.1≠1∨y.1≠d.2.1→∃z∈g.1.filterMap (keepV d),z.1=y.1:=fun y hy hc=>by
  have hn:¬(y.1==d.2.1&&d.1==1)=true:=by simp only[Bool.and_eq_true,beq_iff_eq];omega
  have hk:∃z,keepV d y=some z∧z.1=y.1:=⟨_,if_neg hn,rfl⟩
  obtain⟨z,hz,hzy⟩:=hk
  exact⟨z,List.mem_filterMap.2 ⟨y,hy,hz⟩,hzy⟩
 refine⟨?_,sd G.se,fun y hy=>?_,fun y hy=>?_,Nat.le_trans (kj _ _ _ _) G.ne⟩
 ·simp only[io]
  rw[List.pairwise_filterMap]
  exact G.sv.imp fun {a b} h p hp q hq=>by rw[sb hp,sb hq];exact h
 ·obtain⟨x,hx,hxy⟩:=List.mem_filterMap.1 hy
  obtain⟨k1,k2,k3⟩:=G.rv x hx
  unfold keepV at hxy
  split at hxy
  ·cases hxy
  ·simp only[Option.some.injEq] at hxy
   rw[← hxy]
   refine⟨k1,?_,?_⟩
   ·simp only;split
    ·exact hd
    ·exact k2
   ·simp only;split
    ·rename_i h5
     have h5':d.1=5:=by simp only[Bool.and_eq_true,beq_iff_eq] at h5;exact h5.2
     have hhv:=c2c (by rw[h5'];decide)
     simp only[heavy,Bool.or_eq_false_iff,decide_eq_false_iff_not];omega
    ·exact k3
 ·obtain⟨j,x,hx,hxy⟩:=nw hy
  obtain⟨k1,k2,k3,k4,k5⟩:=G.re x hx
  unfold dZ at hxy
  split at hxy
  ·cases hxy
  ·rename_i hno
   simp only[Option.some.injEq] at hxy
   have hno':d.1≠1∨(x.1.1≠d.2.1∧x.1.2≠d.2.1):=by
    simp only[Bool.or_eq_true,Bool.and_eq_true,beq_iff_eq,not_or,not_and] at hno
    by_cases h1:d.1=1
    ·exact .inr ⟨fun h=>(hno.1 h1).1 h,fun h=>(hno.1 h1).2 h⟩
    ·exact .inl h1
   have stay:∀n,inV g.1 n=true→(d.1≠1∨n≠d.2.1)→inV (io g d).1 n=true:=fun n hn hc=>by
    obtain⟨y,hy,hyn⟩:=List.any_eq_true.1 hn
    have hyn':y.1=n:=by simpa using hyn
    obtain⟨z,hz,hzy⟩:=hkeep y hy (by rw[hyn'];exact hc)
    exact List.any_eq_true.2 ⟨z,hz,by rw[hzy];exact hyn⟩
   rw[← hxy]
   refine⟨k1,stay _ k2 (hno'.imp id (·.1)),stay _ k3 (hno'.imp id (·.2)),?_,?_⟩
   ·simp only;split
    ·exact hd
    ·exact k4
   ·simp only;split
    ·rename_i h7
     have h7':d.1=7:=by simp only[Bool.and_eq_true,beq_iff_eq] at h7;exact h7.2
     have hhv:=c2c (by rw[h7'];decide)
     simp only[heavy,Bool.or_eq_false_iff,decide_eq_false_iff_not];omega
    ·exact k5
theorem ny {l:List DT}(hl:∀d∈l,0≤d.2.2.2.1∧d.2.2.2.1<256):∀k,Gr.Ok (bZ l k)
 | 0=>by rw[bZ];simp only[List.take_zero,List.foldl_nil];exact⟨List.Pairwise.nil,List.Pairwise.nil,by simp,by simp,by simp⟩
 | k+1=>by
  cases h:l[k]? with
  | none=>
   have:l.take (k+1)=l.take k:=by rw[List.take_of_length_le (by have:=List.getElem?_eq_none_iff.1 h;omega),List.take_of_length_le (List.getElem?_eq_none_iff.1 h)]
   rw[bZ,this]
   exact ny hl k
  | some d=>rw[nk h];exact a0K (ny hl k) (hl d (List.mem_of_getElem? h))
theorem bh {n:Int}(h1 : -9223372036854775808≤n)(h2:n≤9223372036854775807):(Lit.int .i64 n).wf=true:=by
 have h3:IntKind.i64.min = -9223372036854775808:=by decide
 have h4:IntKind.i64.max=9223372036854775807:=by decide
 simp only[Lit.wf,h3,h4,Bool.and_eq_true,decide_eq_true_eq]
 omega
theorem wf8 {n:Int}(h1:0≤n)(h2:n<256):(Lit.int .u8 n).wf=true:=by
 have h3:IntKind.u8.min=0:=by decide
 have h4:IntKind.u8.max=255:=by decide
 simp only[Lit.wf,h3,h4,Bool.and_eq_true,decide_eq_true_eq]
 omega
theorem kJ {n:Int}(h:dY n=true):0≤n∧n<1024:=by simpa[dY] using h
theorem kK {g:GT}(G:Gr.Ok g){n:Int}(h:inV g.1 n=true):0≤n∧n<1024:=by
 obtain⟨y,hy,hyn⟩:=List.any_eq_true.1 h
 have:=kJ (G.rv y hy).1
 have hyn':y.1=n:=by simpa using hyn
 rwa [hyn'] at this
theorem sf {n:Int}(h:Gr.heavy n=false) : -1048576≤n∧n≤1048576:=by
 simp only[heavy,Bool.or_eq_false_iff,decide_eq_false_iff_not] at h;omega
theorem a0L {g:GT}(G:Gr.Ok g):∀x∈g.1,okD (dV x):=fun x hx=>by
 obtain⟨h1,h2,h3⟩:=G.rv x hx
 have:=kJ h1;have:=sf h3
 exact⟨bh (by simp only[dV];omega) (by simp only[dV];omega),bh (by simp only[dV];omega) (by simp only[dV];omega),wf8 h2.1 h2.2,bh (by simp only[dV];omega) (by simp only[dV];omega)⟩
theorem a0M {g:GT}(G:Gr.Ok g):∀x∈g.2,okD (dE x):=fun x hx=>by
 obtain⟨h1,h2,h3,h4,h5⟩:=G.re x hx
 have:=kK G h2;have:=kK G h3;have:=sf h5
 exact⟨bh (by simp only[dE];omega) (by simp only[dE];omega),bh (by simp only[dE];omega) (by simp only[dE];omega),wf8 h4.1 h4.2,bh (by simp only[dE];omega) (by simp only[dE];omega)⟩
theorem sg {g h:GT}(h1:g.1.Perm h.1)(h2:g.2.Perm h.2)(d:DT):bR g d=bR h d:=by
 unfold bR tests
 have e1:∀n,inV g.1 n=inV h.1 n:=fun n=>h1.any_eq
 have e2:∀m n,inE g.2 m n=inE h.2 m n:=fun m n=>h2.any_eq
 simp only[e1,e2,h2.length_eq]
theorem sh {α β:Type}[DecidableEq α]{l m:List (α×β)}{k:α}{c:β}(h:l.Perm m)(hk:∀y∈m,y.1≠k):(bE l k c).Perm (m++[(k,c)]):=by
 unfold bE
 have:l.filter (fun p => !decide (p.1=k))=l:=List.filter_eq_self.2 fun p hp=>by simpa using hk p (h.mem_iff.1 hp)
 rw[this]
 exact (h.cons _).trans (List.perm_append_singleton _ _).symm
theorem si {g:GT}(G:Gr.Ok g):∀i,i≤g.1.length→∃h:GT,((g.1.map dV).take i).foldl stepB (some ([],[]))=some h∧h.1.Perm (g.1.take i)∧h.2=[]
 | 0,_=>⟨([],[]),by simp,by simp,rfl⟩
 | i+1,hi=>by
  obtain⟨h,k1,k2,k3⟩:=si G i (by omega)
  have hx:=List.getElem?_eq_getElem (show i<g.1.length by omega)
  generalize g.1[i]=x at hx
  have hxd:(g.1.map dV)[i]?=some (dV x):=by rw[List.getElem?_map,hx];rfl
  have hw:=(stepV G hx).1
  have hb:=before G.sv hx
  have hpw:bR h (dV x)=0:=by rw[sg (h:=(g.1.take i,[])) k2 (by rw[k3])];exact hw
  refine⟨doP h (dV x),by rw[jm _ hxd,k1,stepB,if_pos hpw],?_,?_⟩
  ·rw[eS hx]
   show (bE h.1 x.1 x.2).Perm _
   exact sh k2 fun y hy=>(jb (hb y hy)).2
  ·exact k3
theorem sj {g:GT}(G:Gr.Ok g){h0:GT}(p1:h0.1.Perm g.1)(p2:h0.2=[]):∀i,i≤g.2.length→∃h:GT,((g.2.map dE).take i).foldl stepB (some h0)=some h∧h.1.Perm g.1∧h.2.Perm (g.2.take i)
 | 0,_=>⟨h0,by simp,p1,by rw[p2];simp⟩
 | i+1,hi=>by
  obtain⟨h,k1,k2,k3⟩:=sj G p1 p2 i (by omega)
  have hx:=List.getElem?_eq_getElem (show i<g.2.length by omega)
  generalize g.2[i]=x at hx
  have hxd:(g.2.map dE)[i]?=some (dE x):=by rw[List.getElem?_map,hx];rfl
  have hw:=(yx G hx).1
  have hb:=before G.se hx
  have hpw:bR h (dE x)=0:=by rw[sg (h:=(g.1,g.2.take i)) k2 k3];exact hw
  have he:ends x.1.1 x.1.2=x.1:=qC (G.re x (List.mem_of_getElem? hx)).1
  refine⟨doP h (dE x),by rw[jm _ hxd,k1,stepB,if_pos hpw],k2,?_⟩
  rw[eS hx]
  show (bE h.2 (ends x.1.1 x.1.2) x.2).Perm _
  rw[he]
  exact sh k3 fun y hy=>(iZ (hb y hy)).2
theorem a0N {g:GT}(G:Gr.Ok g):∃g',dA g.1 g.2=some g'∧g'.1.Perm g.1∧g'.2.Perm g.2:=by
 obtain⟨h,k1,k2,k3⟩:=si G g.1.length (Nat.le_refl _)
 rw[List.take_of_length_le (by simp)] at k1
 rw[List.take_length] at k2
 obtain⟨h',l1,l2,l3⟩:=sj G k2 k3 g.2.length (Nat.le_refl _)
 rw[List.take_of_length_le (by simp)] at l1
 rw[List.take_length] at l3
 exact⟨h',by rw[dA,k1,l1],l2,l3⟩
end Go.Mono
namespace Go.Mono
open Go Go.Proofs Go.RowKit Go.Gr

def gO (S:BS):DataW Unit:=.lit (.int .i64 (S.toNat:Int))
theorem a0O {S S':BS}(h:gO S=gO S'):S=S':=by
 unfold gO at h
 injection h with h
 injection h with _ h
 exact BitVec.eq_of_toNat_eq (by omega)
theorem a0P {S S':BS}(h:ac S=ac S'):S=S':=mG (by injection h)
open Classical in
noncomputable def jq (v:Value):Option (DataW Unit×List MemPlace):=if h:∃S,v=ac S then some (gO (Classical.choose h),[]) else none
theorem a0Q (S:BS):jq (ac S)=some (gO S,[]):=by
 have h:∃S',ac S=ac S':=⟨S,rfl⟩
 unfold jq
 rw[dif_pos h,← a0P (Classical.choose_spec h)]
theorem a0R {v:Value}{y:DataW Unit×List MemPlace}(h:jq v=some y):∃S,True∧v=ac S∧y=(gO S,[]):=by
 unfold jq at h
 split at h
 ·rename_i hx;cases h;exact⟨_,trivial,Classical.choose_spec hx,rfl⟩
 ·cases h
noncomputable def sKV:KV Tryz.prog Int BS where
 k:=3
 e:=68
 kv:=fun x=>.int .i64 x
 kl:=fun x=>.int .i64 x
 ok:=fun x=>(Lit.int .i64 x).wf=true
 mv:=ac
 dv:=gO
 okv:=fun _=>True
 R:=jq
 K:=Maps.int_keyed U3
 key:=fun x hx=>Maps.keyOf_int_mk U3 hx
 keyInv:=fun v l h=>by obtain⟨x,h1,h2,h3⟩:=Maps.keyOf_int_inv U3 h;exact⟨x,h3,h1,h2⟩
 kvInj:=fun x y h=>by cases h;rfl
 val:=fun c _=>a0Q c
 valInv:=fun v y h=>a0R h
 dvInj:=fun c c' h=>a0O h
end Go.Mono
namespace Go.Mono
open Go Go.Proofs Go.RowKit

section
variable {g:Operand}{p:Nat}{assign body:Code}{Q:Exit→Act→World→Prop}{n b:Nat}{ds:List Deferred}{a:Act}{w:World}{S:BS}{L:Env}{r:Option Nat}

theorem so (lo:Nat)[dm L]{l:Nat}{mark:List Deferred}{df:Nat}{D:Option Nat}(hf:FrD n ds a w L)(hx:opd L g=some (E (dz b)))(hb:Blk w b (au S) 68)(hp:p<n)
  (J:List Nat→World→Prop) (X:Exit→World→Prop)
  (henter:∀fn,∃W1,(Instr.enterLoop fn a.tmps #[p] assign body r).run Tryz.prog w=.ok (l,mark) W1∧W1.heap[l]?=some (.loop { state:=.ready,pending:=none,fn,tmps:=a.tmps,params := #[p],assign,body,defers:=df })∧Ext w W1 ∧
   W1.heap.size≤w.heap.size+2∧w.heap.size+lo≤W1.heap.size∧w.heap.size≤l∧∀d,D=some d→W1.heap[d]?=some (.deferred (some []))∧d≠l∧w.heap.size≤d)
  (hT:∀s w1,J s w1→Tab w1) (h0:J [] w)
  (hJ:∀s w1 w2,J s w1→w.heap.size≤w1.heap.size→Kp w.heap.size w1 w2→J s w2)
  (hX:∀e w1 w2,X e w1→w.heap.size≤w1.heap.size→Kp w.heap.size w1 w2→X e w2)
  (hbody:∀(l s x) (rest:List Nat) (a1:Act) (w1:World),elems S=s++x::rest→J s w1→w.heap.size+lo<w1.heap.size→FrD n [] a1 w1 ((p,E (I (x:Nat)))::L)→aS w.heap.size l →
   assign.wpIn (FW (some l)) 0 Tryz.prog (Exit.then (fun a2 w2=>Kh w.heap.size w1 w2∧∀w3,Kp w.heap.size w2 w3→w3.heap.size=w2.heap.size→(∃r0,w3.heap[l]?=some (.loop r0))→body.wpIn (FW (some l)) 0 Tryz.prog (Rd J X s x w.heap.size w3) a2 w3) (fun _ _ _=>False)) a1 w1)
  (hdone:∀a' w',FrD n (mark++ds) a' w' L→J (elems S) w'→w.heap.size≤w'.heap.size→(∀d,D=some d→w'.heap[d]?=some (.deferred (some [])))→Q .normal a' w')
  (hexit:∀e c a' w',jh e=some c→FrD n (mark++ds) a' w' L→X e w'→w.heap.size≤w'.heap.size→(∀d,D=some d→w'.heap[d]?=some (.deferred (some [])))→Q e a' w') :
  (Code.rangeFunc g #[p] assign body).wpIn (FW r) 0 Tryz.prog Q a w:=by
 have hxv:a.eval g=dz b:=hf.opd g _ hx
 refine wpIn_rangeFunc fun fn _=>?_
 obtain⟨W1,hrun,hl,he,hsz,hlo,hwl,hD⟩:=henter fn
 have hlt:l<W1.heap.size:=(Array.getElem?_eq_some_iff.1 hl).1
 have hres:(resolve a.eval (rangeCall g l) 0).run Tryz.prog W1=.ok { target:=.fn (.func 58) #[.pointer (some ⟨b,0,none⟩)],args := #[.func (.yield l) #[] #[]] } W1:=by
  have hev:a.eval (.const (.func (.yield l) #[] #[]))=.func (.yield l) #[] #[]:=rfl
  simp[resolve,hxv,hev,dz,Deferred.ofValue]
 refine⟨l,mark,W1,_,W1,58,#[.func (.yield l) #[] #[],.pointer (some ⟨b,0,none⟩)],W1,hrun,hres,fun _ _=>trivial,?_,fun hd=>(by simp[FW] at hd),?_⟩
 ·exact ww _ W1
 generalize hrec:({ state:=.ready,pending:=none,fn,tmps:=a.tmps,params := #[p],assign,body,defers:=df }:Loop)=rec0 at hl
 have hhole:aS w.heap.size l:=⟨hwl,by omega⟩
 have hW3:∀x,x<W1.heap.size→w.heap.size≤x→aS w.heap.size x:=fun x h1 h2=>⟨h2,by omega⟩
 refine lY r ((za S l b w.heap.size W1
  (fun s w1=>J s w1∧W1.heap.size≤w1.heap.size∧w1.heap[l]?=some (.loop rec0)∧∀d,D=some d→w1.heap[d]?=some (.deferred (some [])))
  (fun w1=>∃e c,jh e=some c∧X e w1∧W1.heap.size≤w1.heap.size∧w1.heap[l]?=some (.loop { rec0 with state:=.done,pending:=some c })∧∀d,D=some d→w1.heap[d]?=some (.deferred (some [])))
  ((hT [] w h0).ext he) (hb.ext he) hb.lt he.size (by omega) ⟨hJ [] w W1 h0 (Nat.le_refl _) (Kp.ext he),Nat.le_refl _,hl,fun d hd=>(hD d hd).1⟩ ?_ ?_ ?_ ?_).mono ?_)
 ·rintro s w1 w2 ⟨j1,j2,j3,j4⟩ k hsz1 hsame
  refine⟨hJ s w1 w2 j1 (Nat.le_trans he.size j2) k,Nat.le_trans j2 k.size,(hsame l hlt).trans j3,fun d hd=>(hsame d ?_).trans (j4 d hd)⟩
  exact (Array.getElem?_eq_some_iff.1 (hD d hd).1).1
 ·rintro w1 w2 ⟨e,c,x1,x2,x3,x4,x5⟩ k
  exact⟨e,c,x1,hX e w1 w2 x2 (Nat.le_trans he.size x3) (Kp.ext k),Nat.le_trans x3 k.size,(k.block l (by omega)).trans x4,fun d hd=>(k.block d (Array.getElem?_eq_some_iff.1 (x5 d hd)).1).trans (x5 d hd)⟩
 ·rintro s w1 ⟨j1,_⟩
  exact hT s w1 j1
 ·rintro s x rest w1 hs ⟨j1,j2,j3,j4⟩ hltW
  have hy:=run_yield (P:=Tryz.prog) (args := #[I (x:Nat)]) j3 (by subst hrec;rfl)
  have htm:(rec0.params.zip #[I (x:Nat)]).foldl (fun tmps (t,a)=>tmps.setIfInBounds t a) rec0.tmps=a.tmps.setIfInBounds p (I (x:Nat)):=by
   subst hrec;simp
  have hfn:rec0.assign=assign∧rec0.body=body∧rec0.fn=fn∧rec0.state=.ready:=by subst hrec;exact⟨rfl,rfl,rfl,rfl⟩
  rw[htm,hfn.1,hfn.2.1] at hy
  refine⟨_,_,_,_,hy,?_⟩
  have hf0:FrD n [] { tmps:=a.tmps,defers:=[] } w1 L:=⟨hf.size,rfl,fun t A ht=>dm.pu t A ht _ _ _ (hf.val t A ht)⟩
  have hf1:FrD n [] { tmps:=a.tmps.setIfInBounds p (I (x:Nat)),defers:=[] } w1 ((p,E (I (x:Nat)))::L):=
   hf0.put (d:=some p) (v:=I (x:Nat)) (A:=E (I (x:Nat))) (Ext.rfl' _) (fun k hk=>by cases hk;exact hp) rfl
  refine roundIn_of_wpIn (F:=Fence.wide) (n:=0) trivial <| wpIn_mono (hbody l s x rest _ w1 hs j1 (by omega) hf1 hhole) fun e2 a2 w2 hq=>?_
  cases e2 with
  | normal=>
   obtain⟨kh,hb2⟩:=hq
   have j3':w2.heap[l]?=some (.loop rec0):=(kh.same l (by omega) hhole).trans j3
   refine⟨_,run_beginRound j3' hfn.2.2.2,?_⟩
   have hl2:l<w2.heap.size:=(Array.getElem?_eq_some_iff.1 j3').1
   refine wpIn_mono (hb2 (w2.putObj l (.loop { rec0 with state:=.busy })) (Kp.put hhole) (by simp) ⟨_,World.putObj_heap_same hl2⟩) fun e3 a3 w3 hq3=>?_
   have rec3:∀{w3:World},Kh w.heap.size (w2.putObj l (.loop { rec0 with state:=.busy })) w3→w3.heap[l]?=some (.loop { rec0 with state:=.busy }):=fun k=>
    (k.same l (by simpa using hl2) hhole).trans (World.putObj_heap_same hl2)
   have size3:∀{w3:World},Kh w.heap.size (w2.putObj l (.loop { rec0 with state:=.busy })) w3→w1.heap.size≤w3.heap.size:=fun k=>by
    have h1:=k.size
    have h2:=kh.size
    simp at h1
    omega
   have d3:∀{w3:World},Kh w.heap.size (w2.putObj l (.loop { rec0 with state:=.busy })) w3→∀o,∀d,D=some d→(w3.putObj l o).heap[d]?=some (.deferred (some [])):=fun {w3} k o d hd=>by
    have h1:=hD d hd
    have hdlt:d<w1.heap.size:=(Array.getElem?_eq_some_iff.1 (j4 d hd)).1
    have hdh:aS w.heap.size d:=hW3 d (Array.getElem?_eq_some_iff.1 h1.1).1 h1.2.2
    have hk2:=kh.size
    rw[World.putObj_heap_other h1.2.1,k.same d (by simp;omega) hdh,World.putObj_heap_other h1.2.1,kh.same d hdlt hdh]
    exact j4 d hd
   have rb3:∀{w3:World},Kh w.heap.size (w2.putObj l (.loop { rec0 with state:=.busy })) w3→∀o,(w3.putObj l o).heap[W1.heap.size]?=w1.heap[W1.heap.size]?:=fun {w3} k o=>by
    have hne:W1.heap.size≠l:=by omega
    have hr:aS w.heap.size W1.heap.size:=⟨he.size,by omega⟩
    have hk2:=kh.size
    rw[World.putObj_heap_other hne,k.same _ (by simp;omega) hr,World.putObj_heap_other hne,kh.same _ hltW hr]
   cases e3 with
   | normal=>
    obtain⟨q1,q2⟩:=hq3
    refine⟨_,_,run_endRound none (rec3 q2),_,rfl,.inl ⟨rfl,⟨hJ _ _ _ q1 (Nat.le_trans (Nat.le_trans he.size j2) (size3 q2)) (Kp.put hhole),?_,?_,d3 q2 _⟩,by simpa using size3 q2,rb3 q2 _⟩⟩
    ·have:=size3 q2;simp;omega
    ·rw[World.putObj_heap_same (Array.getElem?_eq_some_iff.1 (rec3 q2)).1]
     subst hrec
     rfl
   | ret=>
    obtain⟨q1,q2⟩:=hq3
    refine⟨_,_,run_endRound (some .ret) (rec3 q2),_,rfl,.inr ⟨rfl,.ret,.ret,rfl,hX _ _ _ q1 (Nat.le_trans (Nat.le_trans he.size j2) (size3 q2)) (Kp.put hhole),?_,?_,d3 q2 _⟩⟩
    ·have:=size3 q2;simp;omega
    ·rw[World.putObj_heap_same (Array.getElem?_eq_some_iff.1 (rec3 q2)).1]
     rfl
   | exit id=>
    obtain⟨q1,q2⟩:=hq3
    refine⟨_,_,run_endRound (some (.exit id)) (rec3 q2),_,rfl,.inr ⟨rfl,.exit id,.exit id,rfl,hX _ _ _ q1 (Nat.le_trans (Nat.le_trans he.size j2) (size3 q2)) (Kp.put hhole),?_,?_,d3 q2 _⟩⟩
    ·have:=size3 q2;simp;omega
    ·rw[World.putObj_heap_same (Array.getElem?_eq_some_iff.1 (rec3 q2)).1]
     rfl
   | goto t=>exact hq3.elim
   | panic c=>exact hq3.elim
   | outgrown=>exact hq3.elim
  | _=>exact hq.elim
 ·rintro e w2 ⟨rfl,h|h⟩
  ·obtain⟨j1,j2,j3,j4⟩:=h
   refine⟨none,w2.putObj l (.loop { rec0 with state:=.exhausted }),?_,hdone _ _ (⟨hf.size,by simp[hf.defers],fun t A ht=>dm.pu t A ht _ _ _ (hf.val t A ht)⟩) (hJ _ _ _ j1 (Nat.le_trans he.size j2) (Kp.put hhole)) ?_ ?_⟩
   ·have:=run_endLoop (P:=Tryz.prog) j3 (by subst hrec;simp)
    subst hrec
    exact this
   ·have:=he.size;simp;omega
   ·intro d hd
    rw[World.putObj_heap_other (hD d hd).2.1]
    exact j4 d hd
  ·obtain⟨ex,c,x1,x2,x3,x4,x5⟩:=h
   refine⟨some c,_,run_endLoop (P:=Tryz.prog) x4 (by simp),?_⟩
   have hQ:=hexit ex c { a with defers:=mark++a.defers } (w2.putObj l (.loop { rec0 with state:=.exhausted,pending:=some c })) x1 (⟨hf.size,by simp[hf.defers],fun t A ht=>dm.pu t A ht _ _ _ (hf.val t A ht)⟩)
    (hX _ _ _ x2 (Nat.le_trans he.size x3) (Kp.put hhole)) (by have:=he.size;simp;omega) (fun d hd=>by
     rw[World.putObj_heap_other (hD d hd).2.1]
     exact x5 d hd)
   cases ex with
   | ret=>cases x1;exact wpIn_ret hQ
   | exit id=>cases x1;exact wpIn_exit hQ
   | _=>cases x1
theorem sp [dm L](hf:FrD n ds a w L)(hx:opd L g=some (E (dz b)))(hb:Blk w b (au S) 68)(hp:p<n)
  (J:List Nat→World→Prop) (X:Exit→World→Prop)
  (hT:∀s w1,J s w1→Tab w1) (h0:J [] w)
  (hJ:∀s w1 w2,J s w1→w.heap.size≤w1.heap.size→Kp w.heap.size w1 w2→J s w2)
  (hX:∀e w1 w2,X e w1→w.heap.size≤w1.heap.size→Kp w.heap.size w1 w2→X e w2)
  (hbody:∀(l s x) (rest:List Nat) (a1:Act) (w1:World),elems S=s++x::rest→J s w1→w.heap.size+3≤w1.heap.size→FrD n [] a1 w1 ((p,E (I (x:Nat)))::L)→aS w.heap.size l →
   assign.wpIn (FW (some l)) 0 Tryz.prog (Exit.then (fun a2 w2=>Kh w.heap.size w1 w2∧∀w3,Kp w.heap.size w2 w3→w3.heap.size=w2.heap.size→(∃r0,w3.heap[l]?=some (.loop r0))→body.wpIn (FW (some l)) 0 Tryz.prog (Rd J X s x w.heap.size w3) a2 w3) (fun _ _ _=>False)) a1 w1)
  (hdone:∀a' w',FrD n ({ target:=.collected w.heap.size,args := #[] }::ds) a' w' L→J (elems S) w'→w.heap.size≤w'.heap.size→w'.heap[w.heap.size]?=some (.deferred (some []))→Q .normal a' w')
  (hexit:∀e c a' w',jh e=some c→FrD n ({ target:=.collected w.heap.size,args := #[] }::ds) a' w' L→X e w'→w.heap.size≤w'.heap.size→w'.heap[w.heap.size]?=some (.deferred (some []))→Q e a' w') :
  (Code.rangeFunc g #[p] assign body).wpIn (FW none) 0 Tryz.prog Q a w:=by
 refine so 2 (l:=w.heap.size+1) (mark:=[{ target:=.collected w.heap.size,args := #[] }]) (df:=w.heap.size) (D:=some w.heap.size) hf hx hb hp J X ?_ hT h0 hJ hX (fun l s x rest a1 w1 h1 h2 h3=>hbody l s x rest a1 w1 h1 h2 (by omega))
  (fun a' w' h1 h2 h3 h4=>hdone a' w' h1 h2 h3 (h4 _ rfl)) (fun e c a' w' h1 h2 h3 h4 h5=>hexit e c a' w' h1 h2 h3 h4 (h5 _ rfl))
 intro fn
 refine⟨_,run_enterLoop_outer fn a.tmps #[p] assign body,?_,?_,?_,by simp,by omega,?_⟩
 ·have:=World.alloc_heap_new (w.alloc (.deferred (some []))) (.loop { state:=.ready,pending:=none,fn,tmps:=a.tmps,params := #[p],assign,body,defers:=w.heap.size })
  rwa [World.size_alloc] at this
 ·exact Ext.tr (cV w _) (cV _ _)
 ·simp
 ·rintro d hd
  cases hd
  refine⟨?_,by omega,Nat.le_refl _⟩
  rw[Below.heap_alloc _ _ _ (by simp)]
  exact World.alloc_heap_new w _

theorem cC [dm L](hf:FrD n ds a w L)(hx:opd L g=some (E (dz b)))(hb:Blk w b (au S) 68)(hp:p<n)
  (J:List Nat→World→Prop) (X:Exit→World→Prop)
  (hT:∀s w1,J s w1→Tab w1) (h0:J [] w)
  (hJ:∀s w1 w2,J s w1→w.heap.size≤w1.heap.size→Kp w.heap.size w1 w2→J s w2)
  (hX:∀e w1 w2,X e w1→w.heap.size≤w1.heap.size→Kp w.heap.size w1 w2→X e w2)
  (hbody:∀(l s x) (rest:List Nat) (a1:Act) (w1:World),elems S=s++x::rest→J s w1→w.heap.size+3≤w1.heap.size→FrD n [] a1 w1 ((p,E (I (x:Nat)))::L) →
   assign.wpIn (FW (some l)) 0 Tryz.prog (Exit.then (fun a2 w2=>Kh w.heap.size w1 w2∧∀w3,Kp w.heap.size w2 w3→w3.heap.size=w2.heap.size→body.wpIn (FW (some l)) 0 Tryz.prog (Rd J X s x w.heap.size w3) a2 w3) (fun _ _ _=>False)) a1 w1)
  (hdone:∀a' w',FrD n ({ target:=.collected w.heap.size,args := #[] }::ds) a' w' L→J (elems S) w'→w.heap.size≤w'.heap.size→w'.heap[w.heap.size]?=some (.deferred (some []))→Q .normal a' w')
  (hexit:∀e c a' w',jh e=some c→FrD n ({ target:=.collected w.heap.size,args := #[] }::ds) a' w' L→X e w'→w.heap.size≤w'.heap.size→w'.heap[w.heap.size]?=some (.deferred (some []))→Q e a' w') :
  (Code.rangeFunc g #[p] assign body).wpIn (FW none) 0 Tryz.prog Q a w:=
 sp hf hx hb hp J X hT h0 hJ hX (fun l s x rest a1 w1 h1 h2 h3 h4 _=>wpIn_mono (hbody l s x rest a1 w1 h1 h2 h3 h4) fun e a w hq=>by
  cases e with
  | normal=>exact⟨hq.1,fun w3 k s _=>hq.2 w3 k s⟩
  | _=>exact hq) hdone hexit
theorem a0S [dm L]{l0:Nat}{r0:Loop}(hl0:w.heap[l0]?=some (.loop r0))(hf:FrD n ds a w L)(hx:opd L g=some (E (dz b)))(hb:Blk w b (au S) 68)(hp:p<n)
  (J:List Nat→World→Prop) (X:Exit→World→Prop)
  (hT:∀s w1,J s w1→Tab w1) (h0:J [] w)
  (hJ:∀s w1 w2,J s w1→w.heap.size≤w1.heap.size→Kp w.heap.size w1 w2→J s w2)
  (hX:∀e w1 w2,X e w1→w.heap.size≤w1.heap.size→Kp w.heap.size w1 w2→X e w2)
  (hbody:∀(l s x) (rest:List Nat) (a1:Act) (w1:World),elems S=s++x::rest→J s w1→w.heap.size+2≤w1.heap.size→FrD n [] a1 w1 ((p,E (I (x:Nat)))::L) →
   assign.wpIn (FW (some l)) 0 Tryz.prog (Exit.then (fun a2 w2=>Kh w.heap.size w1 w2∧∀w3,Kp w.heap.size w2 w3→w3.heap.size=w2.heap.size→body.wpIn (FW (some l)) 0 Tryz.prog (Rd J X s x w.heap.size w3) a2 w3) (fun _ _ _=>False)) a1 w1)
  (hdone:∀a' w',FrD n ds a' w' L→J (elems S) w'→w.heap.size≤w'.heap.size→Q .normal a' w')
  (hexit:∀e c a' w',jh e=some c→FrD n ds a' w' L→X e w'→w.heap.size≤w'.heap.size→Q e a' w') :
  (Code.rangeFunc g #[p] assign body).wpIn (FW (some l0)) 0 Tryz.prog Q a w:=by
 refine so 1 (l:=w.heap.size) (mark:=[]) (df:=r0.defers) (D:=none) hf hx hb hp J X ?_ hT h0 hJ hX (fun l s x rest a1 w1 h1 h2 h3 h4 _=>wpIn_mono (hbody l s x rest a1 w1 h1 h2 (by omega) h4) fun e a w hq=>by
  cases e with
  | normal=>exact⟨hq.1,fun w3 k s _=>hq.2 w3 k s⟩
  | _=>exact hq)
  (fun a' w' h1 h2 h3 h4=>hdone a' w' h1 h2 h3) (fun e c a' w' h1 h2 h3 h4 h5=>hexit e c a' w' h1 h2 h3 h4)
 intro fn
 refine⟨w.alloc (.loop { state:=.ready,pending:=none,fn,tmps:=a.tmps,params := #[p],assign,body,defers:=r0.defers }),?_,World.alloc_heap_new _ _,cV _ _,by simp,by simp,Nat.le_refl _,fun d hd=>by cases hd⟩
 unfold Instr.enterLoop
 simp only[Sem.run_bind,run_getLoop hl0,Result.andThen_ok,Sem.run_pure,run_newObj_alloc]

end
end Go.Mono
namespace Go.Mono
open Go Go.Proofs Go.RowKit Go.Gr
def nbL (g:GT)(s:List Nat):List (Int×BS):=s.map fun n:Nat=>((n:Int),nbG g.2 (n:Int))
theorem nz {g:GT}{s:List Nat}{x:Nat}(hx:x ∉ s):(bE (nbL g s) (x:Int) (nbG g.2 x)).Perm (nbL g (s++[x])):=by
 have hf:(nbL g s).filter (fun p => !decide (p.1=(x:Int)))=nbL g s:=by
  rw[List.filter_eq_self]
  intro p hp
  obtain⟨n,hn,rfl⟩:=List.mem_map.1 hp
  have:n≠x:=fun e=>hx (by rw[← e];exact hn)
  simp;omega
 rw[bE,hf,nbL,nbL,List.map_append]
 exact List.perm_append_comm (l₁:=[((x:Int),nbG g.2 x)])
structure NJ (W:World)(g:GT)(v:Value)(b1 b3 bm:Nat)(s:List Nat)(w:World):Prop where
 e:Ext W w
 t:Tab w
 p1:Blk w b1 #[v] 28
 p3:Blk w b3 #[.map (some bm)] 64
 m:MpR sKV w bm s.length (nbL g s)
theorem NJ.kp {W:World}{g:GT}{v:Value}{b1 b3 bm:Nat}{s:List Nat}{B:Nat}{w w':World}(h:NJ W g v b1 b3 bm s w)(k:Kp B w w')(hW:W.heap.size≤B)(h0:0<B)(l1:b1<B)(l3:b3<B)(lm:bm<B):NJ W g v b1 b3 bm s w':=
 ⟨h.e.kp k hW,h.t.kp k h0,h.p1.kp k (fun hh=>by have:=hh.1;omega),h.p3.kp k (fun hh=>by have:=hh.1;omega),h.m.pres (k.same bm h.m.lt (fun hh=>by have:=hh.1;omega))⟩
theorem a0T {G:Nat→Prop}{N:Nat}(g:GT)(v:Value)(W:World)(hT:Tab W)(h:(Dv (ptE (grE N)) G (some g)).p v W)(gs1:g.1.Pairwise fun x y=>lt1 x.1 y.1=true)(gs2:g.2.Pairwise fun x y=>lt2 x.1 y.1=true)(hl1:g.1.length≤100000)(hl2:g.2.length≤100000)(hN:N≤1000000) :
  Calls Tryz.prog 19 #[v] W (Post (Dv (mpE sKV 1024) G0 (nbL g (elems (ah g.1)))) W):=by
 have hv:(Dv (ptE (grE N)) G0 (some g)).p v W:=Dv.weak h fun b _ hb=>hb.elim
 have hT0:=hT.lt
 have h1c:v.cells = #[v]:=by
  obtain⟨ad,rfl,_⟩:=Dv.pt.1 hv
  rfl
 refine cq (args:=[v]) (As:=[E v]) Tryz.func19 rfl Tryz.ntmps19 (Nat.le_of_ble_eq_true rfl) ?_ (fun a hf=>?_) (Nat.le_of_ble_eq_true rfl)
 ·exact arg1 rfl
 have e:=Ext.rfl' W
 refine seq <| ae <| tB hf rfl fun a b1 w v1 hv1 e' hb1 hs1 B1 hf=>?_
 obtain⟨hT,e⟩:=up2 e' hT e
 refine tA hf rfl fun a hf=>aa ?_
 cases hv1
 rw[h1c] at B1
 replace hf:=hf.kp [1]
 refine seq <| ae <| eV sKV hf (by decide) fun a bm w e' hbm hsm HM hf=>?_
 obtain⟨e,hT,B1⟩:=up3 e' e hT B1
 have lm:=HM.lt
 have hWm:W.heap.size≤bm:=by have:=e.size;omega
 refine tL I64 hf fun a b3 w e' hb3 hs3 B3 hf=>?_
 obtain⟨hT,HM,e,B1⟩:=up4 e' hT HM e B1
 haveI hinr:∀G0,InR (GB W G0) (some b3):=fun G0=>InR.gb (by omega)
 refine aA T64 hf rfl rfl rfl B3 (by decide) fun w hg hsz B3 hf=>?_
 replace hT:=hT.gr hg (by omega)
 replace HM:=HM.gr hg (fun h=>by cases h;omega)
 obtain⟨e,B1⟩:=gr2 hg e B1
 refine aa ?_
 replace hf:=hf.keep [1,3]
 obtain⟨Nz,hNz⟩:∃Nz,Nz=w.heap.size:=⟨_,rfl⟩
 have e0:=e
 have l1:=B1.lt
 have l3:=B3.lt
 have lm2:=HM.lt
 have n3:b1≠bm∧b3≠bm∧b3≠b1∧W.heap.size≤b1∧W.heap.size≤b3:=by omega
 obtain⟨S,hS⟩:∃S,S=ah g.1:=⟨_,rfl⟩
 repeat refine seq ?_
 refine rgN 3 hf <| st (ld1 (v:=v) T28 rfl B1 rfl) <| st (an (A:=E (ac S)) fN rfl (fun v w he k=>by cases k;rw[hS];exact gk g _ w (VA.st _ _ _ _ (Ext.tr e0 he) hv) gs1 hl1 hN)) ?_
 refine st (an (A:=bW Nz S) cg rfl (fun v w' he h=>by cases h;exact Calls.mono (cm _ w') (fun en w2 ⟨u,h1,h2,b',h3,h4,h5⟩=>⟨u,h1,h2,b',by have:=he.size;omega,h4,h5⟩))) ?_
 refine en fun a w e' hf=>?_
 obtain⟨HM,hT,e,B1,B3⟩:=up5 e' HM hT e B1 B3
 refine aa ?_
 obtain⟨v8,⟨b8,h8,rfl,BS⟩,hf⟩:=hf.fix 8 rfl
 replace hf:=hf.kp [1,3,8]
 have hBW:W.heap.size≤w.heap.size:=e.size
 have h0w:0<w.heap.size:=hT.lt
 have l1':=B1.lt
 have l3':=B3.lt
 have lm':=HM.lt
 refine blk <| cC (S:=S) hf rfl BS (by decide) (fun s w1=>NJ W g v b1 b3 bm s w1) (fun _ _=>False) (fun s w1 h=>h.t)
  ⟨e,hT,B1,B3,HM⟩ (fun s w1 w2 h hs k=>h.kp k hBW h0w l1' l3' lm') (fun _ _ _ h=>h.elim) ?_ ?_ (fun _ _ _ _ _ _ h=>h.elim)
 ·intro l s x rest a1 w1 hs hJ hlw hf
  have hx1024:x<1024:=(aH.1 (by rw[hs];simp)).1
  have hxs:x ∉ s:=by
   have hn:(elems S).Nodup:=List.Nodup.sublist List.filter_sublist List.nodup_range
   rw[hs] at hn
   intro hx
   exact (List.nodup_append.1 hn).2.2 x hx x (by simp) rfl
  have hsl:s.length≤1024:=by have:=bX S;rw[hs] at this;simp at this;omega
  generalize hBz:w.heap.size=Bz at *
  refine ae <| tA hf rfl fun a hf=>aa <| ⟨Kh.rfl' _ _,fun w3 k3 hsz3=>?_⟩
  have hJ3:=hJ.kp k3 hBW h0w l1' l3' lm'
  replace hf:=hf.pure w3
  obtain⟨e,hT,B1,B3,HM⟩:=hJ3
  have kh:=Kh.rfl' Bz w3
  have e0:=e
  replace hf:=hf.kp [1,3,4]
  refine blk <| rgG 5 Mix.mix hf <| st (ld1 (v:=.map (some bm)) T64 rfl B3 rfl) <| st (mv rfl) <| st (ld1 (v:=v) T28 rfl B1 rfl) <| st (mv rfl) <| st (ar (A:=E (ac (nbG g.2 (x:Int)))) fP rfl rfl (fun v u w he k1 k2=>by cases k1;cases k2;exact gN g _ _ w (VA.st _ _ _ _ (Ext.tr e0 he) hv) gs2 hl2 hN)) ?_
  refine en fun a w e' hf=>?_
  obtain⟨HM,hT⟩:=up2 e' HM hT
  replace kh:=kh.tr (Kh.ext e')
  obtain⟨e,B1,B3⟩:=up3 e' e B1 B3
  refine dc (V:=sKV) (i:=(x:Int)) (c:=nbG g.2 (x:Int)) U64 hf rfl rfl rfl HM (by simp only[maxLen];omega) (bh (by omega) (by omega)) trivial fun w hg HM hf=>?_
  obtain⟨e,hT,B1,B3⟩:=gr4 hg e hT B1 B3
  replace kh:=kh.tr (Kh.gr hg (fun hh=>by have:=hh.1;omega))
  refine aa ?_
  simp only[Exit.inBlock]
  exact⟨⟨e,hT,B1,B3,by rw[List.length_append];exact HM.perm (nz hxs)⟩,kh⟩
 ·intro a' w' hf' hJ hsz hDn
  simp only[Exit.inBlock,↓reduceIte,Exit.then]
  have hD:Ds [w.heap.size] w':=(Ds.nil w').cons hDn (by simp)
  have hf:FrD 16 (bq [w.heap.size]) a' w' [(1,E (.pointer (some ⟨b1,0,none⟩))),(3,E (.pointer (some ⟨b3,0,none⟩)))]:=hf'.keep [1,3]
  have hDW:∀d∈[w.heap.size],W.heap.size≤d:=fun d hd=>by rw[List.mem_singleton] at hd;omega
  obtain⟨e,hT,B1,B3,HM⟩:=hJ
  have hbD:¬bm∈[w.heap.size]:=fun h=>by rw[List.mem_singleton] at h;omega
  generalize [w.heap.size]=D2 at *
  generalize w'=w at *
  refine seq <| rgN 1 hf <| st (ld1 (v:=.map (some bm)) T64 rfl B3 rfl) <| en fun a w e' hf=>?_
  obtain⟨HM,e,B1,B3,hD⟩:=up5 e' HM e B1 B3 hD
  refine tA hf rfl fun a hf=>aa <| ai <| gf rfl hf rfl hD ⟨_,rfl,e.shut hDW,?_⟩
  rw[← hS]
  exact⟨[.map (some bm)],⟨bm,_,rfl,fun h=>h.elim,bX S,HM.pres (fz D2 w bm hbD)⟩,rfl⟩
def OwM (N n:Nat)(l:List (Int×BS)):VA:=⟨fun v w=>∃bm,v=.map (some bm)∧N≤bm∧MpR sKV w bm n l,fun _ _ _ e ⟨bm,h1,h2,h3⟩=>⟨bm,h1,h2,h3.ext e⟩⟩
structure NsJ (W:World)(g:GT)(v:Value)(b1 b3 bm:Nat)(s:List Nat)(w:World):Prop where
 e:Ext W w
 t:Tab w
 p1:Blk w b1 #[v] 28
 p3:Blk w b3 #[.map (some bm)] 121
 m:MpR sKV w bm s.length (nbL g s)
theorem NsJ.kp {W:World}{g:GT}{v:Value}{b1 b3 bm:Nat}{s:List Nat}{B:Nat}{w w':World}(h:NsJ W g v b1 b3 bm s w)(k:Kp B w w')(hW:W.heap.size≤B)(h0:0<B)(l1:b1<B)(l3:b3<B)(lm:bm<B):NsJ W g v b1 b3 bm s w':=
 ⟨h.e.kp k hW,h.t.kp k h0,h.p1.kp k (fun hh=>by have:=hh.1;omega),h.p3.kp k (fun hh=>by have:=hh.1;omega),h.m.pres (k.same bm h.m.lt (fun hh=>by have:=hh.1;omega))⟩
theorem kL {G:Nat→Prop}{N:Nat}(g:GT)(v:Value)(W:World)(hT:Tab W)(h:(Dv (ptE (grE N)) G (some g)).p v W)(gs1:g.1.Pairwise fun x y=>lt1 x.1 y.1=true)(gs2:g.2.Pairwise fun x y=>lt2 x.1 y.1=true)(hl1:g.1.length≤100000)(hl2:g.2.length≤100000)(hN:N≤1000000) :
  Calls Tryz.prog 75 #[v] W (Post (OwM W.heap.size (elems (ah g.1)).length (nbL g (elems (ah g.1)))) W):=by
 have hv:(Dv (ptE (grE N)) G0 (some g)).p v W:=Dv.weak h fun b _ hb=>hb.elim
 have hT0:=hT.lt
 have h1c:v.cells = #[v]:=by
  obtain⟨ad,rfl,_⟩:=Dv.pt.1 hv
  rfl
 refine cq (args:=[v]) (As:=[E v]) Tryz.func75 rfl Tryz.ntmps75 (Nat.le_of_ble_eq_true rfl) ?_ (fun a hf=>?_) (Nat.le_of_ble_eq_true rfl)
 ·exact arg1 rfl
 have e:=Ext.rfl' W
 refine seq <| ae <| tB hf rfl fun a b1 w v1 hv1 e' hb1 hs1 B1 hf=>?_
 obtain⟨hT,e⟩:=up2 e' hT e
 refine tA hf rfl fun a hf=>aa ?_
 cases hv1
 rw[h1c] at B1
 replace hf:=hf.kp [1]
 refine seq <| ae <| eV sKV hf (by decide) fun a bm w e' hbm hsm HM hf=>?_
 obtain⟨e,hT,B1⟩:=up3 e' e hT B1
 have lm:=HM.lt
 have hWm:W.heap.size≤bm:=by have:=e.size;omega
 refine tL mj hf fun a b3 w e' hb3 hs3 B3 hf=>?_
 obtain⟨hT,HM,e,B1⟩:=up4 e' hT HM e B1
 haveI hinr:∀G0,InR (GB W G0) (some b3):=fun G0=>InR.gb (by omega)
 refine aA bC hf rfl rfl rfl B3 (by decide) fun w hg hsz B3 hf=>?_
 replace hT:=hT.gr hg (by omega)
 replace HM:=HM.gr hg (fun h=>by cases h;omega)
 obtain⟨e,B1⟩:=gr2 hg e B1
 refine aa ?_
 replace hf:=hf.keep [1,3]
 obtain⟨Nz,hNz⟩:∃Nz,Nz=w.heap.size:=⟨_,rfl⟩
 have e0:=e
 have l1:=B1.lt
 have l3:=B3.lt
 have lm2:=HM.lt
 have n3:b1≠bm∧b3≠bm∧b3≠b1∧W.heap.size≤b1∧W.heap.size≤b3:=by omega
 obtain⟨S,hS⟩:∃S,S=ah g.1:=⟨_,rfl⟩
 repeat refine seq ?_
 refine rgN 3 hf <| st (ld1 (v:=v) T28 rfl B1 rfl) <| st (an (A:=E (ac S)) fN rfl (fun v w he k=>by cases k;rw[hS];exact gk g _ w (VA.st _ _ _ _ (Ext.tr e0 he) hv) gs1 hl1 hN)) ?_
 refine st (an (A:=bW Nz S) cg rfl (fun v w' he h=>by cases h;exact Calls.mono (cm _ w') (fun en w2 ⟨u,h1,h2,b',h3,h4,h5⟩=>⟨u,h1,h2,b',by have:=he.size;omega,h4,h5⟩))) ?_
 refine en fun a w e' hf=>?_
 obtain⟨HM,hT,e,B1,B3⟩:=up5 e' HM hT e B1 B3
 refine aa ?_
 obtain⟨v8,⟨b8,h8,rfl,BS⟩,hf⟩:=hf.fix 8 rfl
 replace hf:=hf.kp [1,3,8]
 have hBW:W.heap.size≤w.heap.size:=e.size
 have h0w:0<w.heap.size:=hT.lt
 have l1':=B1.lt
 have l3':=B3.lt
 have lm':=HM.lt
 refine blk <| cC (S:=S) hf rfl BS (by decide) (fun s w1=>NsJ W g v b1 b3 bm s w1) (fun _ _=>False) (fun s w1 h=>h.t)
  ⟨e,hT,B1,B3,HM⟩ (fun s w1 w2 h hs k=>h.kp k hBW h0w l1' l3' lm') (fun _ _ _ h=>h.elim) ?_ ?_ (fun _ _ _ _ _ _ h=>h.elim)
 ·intro l s x rest a1 w1 hs hJ hlw hf
  have hx1024:x<1024:=(aH.1 (by rw[hs];simp)).1
  have hxs:x ∉ s:=by
   have hn:(elems S).Nodup:=List.Nodup.sublist List.filter_sublist List.nodup_range
   rw[hs] at hn
   intro hx
   exact (List.nodup_append.1 hn).2.2 x hx x (by simp) rfl
  have hsl:s.length≤1024:=by have:=bX S;rw[hs] at this;simp at this;omega
  generalize hBz:w.heap.size=Bz at *
  refine ae <| tA hf rfl fun a hf=>aa <| ⟨Kh.rfl' _ _,fun w3 k3 hsz3=>?_⟩
  have hJ3:=hJ.kp k3 hBW h0w l1' l3' lm'
  replace hf:=hf.pure w3
  obtain⟨e,hT,B1,B3,HM⟩:=hJ3
  have kh:=Kh.rfl' Bz w3
  have e0:=e
  replace hf:=hf.kp [1,3,4]
  refine blk <| rgG 5 Mix.mix hf <| st (ld1 (v:=.map (some bm)) bC rfl B3 rfl) <| st (mv rfl) <| st (ld1 (v:=v) T28 rfl B1 rfl) <| st (mv rfl) <| st (ar (A:=E (ac (nbG g.2 (x:Int)))) fP rfl rfl (fun v u w he k1 k2=>by cases k1;cases k2;exact gN g _ _ w (VA.st _ _ _ _ (Ext.tr e0 he) hv) gs2 hl2 hN)) ?_
  refine en fun a w e' hf=>?_
  obtain⟨HM,hT⟩:=up2 e' HM hT
  replace kh:=kh.tr (Kh.ext e')
  obtain⟨e,B1,B3⟩:=up3 e' e B1 B3
  refine dc (V:=sKV) (i:=(x:Int)) (c:=nbG g.2 (x:Int)) bP hf rfl rfl rfl HM (by simp only[maxLen];omega) (bh (by omega) (by omega)) trivial fun w hg HM hf=>?_
  obtain⟨e,hT,B1,B3⟩:=gr4 hg e hT B1 B3
  replace kh:=kh.tr (Kh.gr hg (fun hh=>by have:=hh.1;omega))
  refine aa ?_
  simp only[Exit.inBlock]
  exact⟨⟨e,hT,B1,B3,by rw[List.length_append];exact HM.perm (nz hxs)⟩,kh⟩
 ·intro a' w' hf' hJ hsz hDn
  simp only[Exit.inBlock,↓reduceIte,Exit.then]
  have hD:Ds [w.heap.size] w':=(Ds.nil w').cons hDn (by simp)
  have hf:FrD 16 (bq [w.heap.size]) a' w' [(1,E (.pointer (some ⟨b1,0,none⟩))),(3,E (.pointer (some ⟨b3,0,none⟩)))]:=hf'.keep [1,3]
  have hDW:∀d∈[w.heap.size],W.heap.size≤d:=fun d hd=>by rw[List.mem_singleton] at hd;omega
  obtain⟨e,hT,B1,B3,HM⟩:=hJ
  have hbD:¬bm∈[w.heap.size]:=fun h=>by rw[List.mem_singleton] at h;omega
  generalize [w.heap.size]=D2 at *
  generalize w'=w at *
  refine seq <| rgN 1 hf <| st (ld1 (v:=.map (some bm)) bC rfl B3 rfl) <| en fun a w e' hf=>?_
  obtain⟨HM,e,B1,B3,hD⟩:=up5 e' HM e B1 B3 hD
  refine tA hf rfl fun a hf=>aa <| ai <| gf rfl hf rfl hD ⟨_,rfl,e.shut hDW,?_⟩
  rw[← hS]
  exact⟨bm,rfl,hWm,HM.pres (fz D2 w bm hbD)⟩
end Go.Mono
namespace Go.Mono
open Go
abbrev ptr (b:Nat):Value:=.pointer (some ⟨b,0,none⟩)
end Go.Mono
namespace Go.Mono

theorem eZ (t:List (Int×BS)):(toT t).length=t.length:=by simp[toT]
theorem gl {t:List (Int×BS)}{i:Nat}(h:i<t.length):up (toT t) i=(bg t i).1:=by
 simp[up,toT,bg,h,toB]
theorem jr {t:List (Int×BS)}{i:Nat}(h:i<t.length):hs (toT t) i=toL (bg t i).2:=by
 simp[hs,toT,bg,h,toB]
theorem kM (S:BS)(n:Int):eM (toL S) n=has S n:=by
 rw[eM,has,Bool.eq_iff_iff,decide_eq_true_eq,toL,ik,Bool.and_eq_true,cN]
 constructor
 ·rintro⟨i,h1,h2,rfl⟩
  exact⟨⟨by omega,by omega⟩,by simpa using h2⟩
 ·rintro⟨⟨h1,h2⟩,h3⟩
  exact⟨n.toNat,by omega,h3,by omega⟩
def pre (ks:Nat→List Nat):Nat→Nat→List Nat
 | 0,b=>[b]
 | f+1,b=>b::(ks b).flatMap (pre ks f)
theorem sq (ks:Nat→List Nat):∀f b deep s,(dnF ks f b deep s).2=s.2+((pre ks f b).length:Nat)
 | 0,b,deep,s=>by simp[dnF,pre]
 | f+1,b,deep,s=>by
  rw[dnF,pre]
  have:∀(l:List Nat) (s:List Int×Int),(l.foldl (fun s k=>dnF ks f k (deep+1) s) s).2=s.2+((l.flatMap (pre ks f)).length:Nat):=by
   intro l
   induction l with
   | nil=>intro s;simp
   | cons k l ih=>
    intro s
    rw[List.foldl_cons,ih,sq ks f,List.flatMap_cons,List.length_append]
    omega
  rw[this,List.length_cons]
  show s.2+1+_=_
  omega

def upN (t:List (Int×BS))(i:Nat):Option Nat:=if (bg t i).1<0 then none else some (bg t i).1.toNat
def it (t:List (Int×BS)):Nat→Nat→Option Nat
 | 0,i=>some i
 | d+1,i=>(it t d i).bind (upN t)
theorem ip (t:List (Int×BS)):∀d i,it t (d+1) i=(upN t i).bind (it t d)
 | 0,i=>by
  show (some i).bind (upN t)=_
  cases h:upN t i <;> simp[h,it]
 | d+1,i=>by
  rw[it,ip t d i]
  cases h:upN t i <;> simp[it]
theorem nA {t:List (Int×BS)}(hr:Rng t){i j:Nat}(hi:i<t.length)(h:upN t i=some j):j<t.length∧(bg t i).1=(j:Int):=by
 have:=hr i hi
 unfold upN at h
 split at h
 ·cases h
 ·cases h;omega
theorem kO {t:List (Int×BS)}(hr:Rng t){i:Nat}(hi:i<t.length):∀d j,it t d i=some j→j<t.length
 | 0,j,h=>by cases h;exact hi
 | d+1,j,h=>by
  rw[it] at h
  cases hx:it t d i with
  | none=>rw[hx] at h;cases h
  | some k=>
   rw[hx] at h
   exact (nA hr (kO hr hi d k hx) h).1
theorem a0U (t:List (Int×BS))(b:Nat):(kN t b).Nodup:=List.Nodup.sublist List.filter_sublist List.nodup_range
theorem sr {t:List (Int×BS)}(hr:Rng t){j b:Nat}(hj:j<t.length):decide (j∈kN t b)=decide (upN t j=some b):=by
 rw[decide_eq_decide,nq]
 constructor
 ·rintro⟨_,h⟩
  rw[upN,if_neg (by omega),h];rfl
 ·intro h
  exact⟨hj,(nA hr hj h).2⟩
theorem a0V {t:List (Int×BS)}(hr:Rng t)(b:Nat)(x:Option Nat)(hx:∀j,x=some j→j<t.length):((kN t b).map fun k=>ind (decide (x=some k))).sum=ind (decide (x.bind (upN t)=some b)):=by
 cases x with
 | none=>
  have:∀l:List Nat,(l.map fun k=>ind (decide ((none:Option Nat)=some k))).sum=0:=by
   intro l
   induction l with
   | nil=>rfl
   | cons k l ih=>rw[List.map_cons,List.sum_cons,ih];rfl
  rw[this];rfl
 | some j=>
  rw[show (some j).bind (upN t)=upN t j from rfl,← sr hr (hx j rfl),← qT (a0U t b)]
  refine il fun k _=>?_
  congr 1
  rw[decide_eq_decide]
  exact Option.some_inj
theorem su (g:Nat→List Nat)(i:Nat):∀l:List Nat,(l.flatMap g).count i=(l.map fun k=>(g k).count i).sum
 | []=>rfl
 | k::l=>by rw[List.flatMap_cons,List.count_append,su g i l,List.map_cons,List.sum_cons]
theorem nB (i b:Nat)(l:List Nat):(b::l).count i=ind (decide (i=b))+l.count i:=by
 rw[List.count_cons]
 by_cases h:b=i
 ·subst h;simp[ind];omega
 ·have:¬i=b:=Ne.symm h
  simp[ind,h,this]
theorem kP {t:List (Int×BS)}(hr:Rng t){i:Nat}(hi:i<t.length):∀f b,(pre (kN t) f b).count i=((List.range (f+1)).map fun d=>ind (decide (it t d i=some b))).sum
 | 0,b=>by
  rw[pre,nB]
  simp[it]
 | f+1,b=>by
  rw[pre,nB,su]
  have h1:((kN t b).map fun k=>(pre (kN t) f k).count i).sum=((kN t b).map fun k=>((List.range (f+1)).map fun d=>ind (decide (it t d i=some k))).sum).sum:=il fun k _=>kP hr hi f k
  rw[h1,qU (fun k d=>ind (decide (it t d i=some k)))]
  rw[List.range_succ_eq_map (n:=f+1),List.map_cons,List.sum_cons,List.map_map]
  congr 1
  ·simp[it]
  ·refine il fun d _=>?_
   rw[a0V hr b (it t d i) (fun j hj=>kO hr hi d j hj)]
   rfl
theorem sw {t:List (Int×BS)}(h:(rootN t).length=1):∃r,rootN t=[r]∧r<t.length∧(bg t r).1 = -1∧∀j,j<t.length→(bg t j).1 = -1→j=r:=by
 match hx:rootN t,h with
 | [r],_=>
  have hm:∀j,j∈rootN t↔j<t.length∧(bg t j).1 = -1:=by intro j;simp[rootN]
  have h1:=(hm r).1 (by rw[hx];simp)
  refine⟨r,rfl,h1.1,h1.2,fun j hj h=>?_⟩
  have:=(hm j).2 ⟨hj,h⟩
  rw[hx] at this
  simpa using this
theorem sx {t:List (Int×BS)}{r:Nat}(hu:(bg t r).1 = -1)(i:Nat):∀F,((List.range F).map fun d=>ind (decide (it t d i=some r))).sum≤1∧(1≤((List.range F).map fun d=>ind (decide (it t d i=some r))).sum→it t F i=none)
 | 0=>⟨by simp,by simp⟩
 | F+1=>by
  obtain⟨h1,h2⟩:=sx hu i F
  rw[List.range_succ,List.map_append,List.sum_append]
  simp only[List.map_cons,List.map_nil,List.sum_cons,List.sum_nil,Nat.add_zero]
  by_cases h:it t F i=some r
  ·have h0:¬1≤((List.range F).map fun d=>ind (decide (it t d i=some r))).sum:=fun h'=>by rw[h2 h'] at h;cases h
   rw[show decide (it t F i=some r)=true from decide_eq_true h]
   refine⟨by rw[show ind true=1 from rfl];omega,fun _=>?_⟩
   rw[it,h]
   show upN t r=none
   rw[upN,hu];rfl
  ·rw[show decide (it t F i=some r)=false from decide_eq_false h]
   rw[show ind false=0 from rfl,Nat.add_zero]
   refine⟨h1,fun h'=>?_⟩
   have:=h2 h'
   rw[it,this];rfl
theorem nC {n:Nat}:∀{l:List Nat},(∀x∈l,x<n)→l.length=((List.range n).map fun i=>l.count i).sum
 | [],_=>by
  have:∀m:List Nat,(m.map fun i=>([]:List Nat).count i).sum=0:=by
   intro m
   induction m with
   | nil=>rfl
   | cons x m ih=>rw[List.map_cons,List.sum_cons,ih];rfl
  rw[this];rfl
 | x::l,h=>by
  have e:((List.range n).map fun i=>(x::l).count i).sum=((List.range n).map fun i=>ind (decide (i=x))+l.count i).sum:=il fun i _=>nB i x l
  rw[e,mY,← nC (l:=l) fun y hy=>h y (by simp[hy])]
  have e2:((List.range n).map fun i=>ind (decide (i=x))).sum=((List.range n).map fun k=>ind (decide (x=k))).sum:=il fun i _=>by
   congr 1
   rw[decide_eq_decide];exact eq_comm
  rw[e2,qT List.nodup_range]
  have hx:=h x (by simp)
  simp[ind,hx];omega
theorem nE {t:List (Int×BS)}:∀f b,b<t.length→∀x∈pre (kN t) f b,x<t.length
 | 0,b,hb,x,hx=>by rw[pre,List.mem_singleton] at hx;omega
 | f+1,b,hb,x,hx=>by
  rw[pre,List.mem_cons,List.mem_flatMap] at hx
  rcases hx with rfl|⟨k,hk,hx⟩
  ·exact hb
  ·exact nE f k (nq.1 hk).1 x hx
theorem nF {f:Nat→Nat}:∀{l:List Nat},(∀x∈l,f x≤1)→(l.map f).sum≤l.length
 | [],_=>by simp
 | x::l,h=>by
  have:=nF (l:=l) fun y hy=>h y (by simp[hy])
  have:=h x (by simp)
  simp;omega
theorem sD {f:Nat→Nat}:∀{l:List Nat},(∀x∈l,f x≤1)→((l.map f).sum=l.length↔∀x∈l,f x=1)
 | [],_=>by simp
 | x::l,h=>by
  have h1:=nF (l:=l) fun y hy=>h y (by simp[hy])
  have h2:=sD (l:=l) fun y hy=>h y (by simp[hy])
  have h3:=h x (by simp)
  rw[List.map_cons,List.sum_cons,List.length_cons]
  constructor
  ·intro h4
   have h5:(l.map f).sum=l.length:=by omega
   have h6:=h2.1 h5
   intro y hy
   rcases List.mem_cons.1 hy with rfl|hy
   ·omega
   ·exact h6 y hy
  ·intro h4
   have:=h2.2 fun y hy=>h4 y (by simp[hy])
   have:=h4 x (by simp)
   omega
theorem nG {t:List (Int×BS)}(hr:Rng t){r:Nat}(hu:(bg t r).1 = -1)(f:Nat){i:Nat}(hi:i<t.length):(pre (kN t) f r).count i≤1:=by
 rw[kP hr hi];exact (sx hu i _).1
theorem nH {t:List (Int×BS)}(hr:Rng t){r:Nat}(hrl:r<t.length)(hu:(bg t r).1 = -1)(f:Nat):(pre (kN t) f r).length≤t.length:=by
 rw[nC (nE f r hrl)]
 have:=nF (f:=fun i=>(pre (kN t) f r).count i) (l:=List.range t.length) fun i hi=>nG hr hu f (List.mem_range.1 hi)
 simpa using this
theorem nI {g:Nat→List Nat}{k:Nat}:∀{l:List Nat},k∈l→(g k).length≤(l.flatMap g).length
 | [],h=>by cases h
 | x::l,h=>by
  rw[List.flatMap_cons,List.length_append]
  rcases List.mem_cons.1 h with rfl|h
  ·omega
  ·have:=nI (g:=g) h;omega
theorem sE {ks:Nat→List Nat}:∀f b,¬hgt ks f b→f+2≤(pre ks (f+1) b).length
 | 0,b,h=>by
  rw[pre]
  cases hk:ks b with
  | nil=>exact absurd hk h
  | cons k l=>simp[pre]
 | f+1,b,h=>by
  rw[hgt] at h
  obtain⟨k,hk,hn⟩:∃k,k∈ks b∧¬hgt ks f k:=by
   apply Classical.byContradiction
   intro hne
   exact h fun k hk=>Classical.byContradiction fun hn=>hne ⟨k,hk,hn⟩
  have:=sE f k hn
  rw[pre,List.length_cons]
  have:=nI (g:=pre ks (f+1)) hk
  omega
theorem sF {t:List (Int×BS)}(hr:Rng t){i:Nat}(hi:i<t.length):∀d b,it t d i=some b→d+1≤(pre (kN t) d b).length
 | 0,b,_=>by simp[pre]
 | d+1,b,h=>by
  rw[it] at h
  cases hx:it t d i with
  | none=>rw[hx] at h;cases h
  | some j=>
   rw[hx] at h
   have hj:=kO hr hi d j hx
   have hm:j∈kN t b:=by
    have:=sr (b:=b) hr hj
    rw[show decide (upN t j=some b)=true from decide_eq_true h] at this
    exact of_decide_eq_true this
   have:=sF hr hi d j hx
   have:=nI (g:=pre (kN t) d) hm
   rw[pre,List.length_cons]
   omega
theorem sG {t:List (Int×BS)}{r:Nat}(h:rootN t=[r])(f:Nat):(ca t f (rootN t)).2=((pre (kN t) f r).length:Nat):=by
 rw[h,ca,List.foldl_cons,List.foldl_nil,sq]
 show (0:Int)+_=_
 omega
theorem Dp.mk' {t:List (Int×BS)}(hl:t.length≤4096)(hr:Rng t)(h1:(rootN t).length=1):Dp t t.length:=by
 obtain⟨r,h2,h3,h4,h5⟩:=sw h1
 refine⟨by omega,fun b hb=>?_,?_⟩
 ·rw[h2,List.mem_singleton] at hb
  subst hb
  apply Classical.byContradiction
  intro hn
  have:=sE _ _ hn
  have:=nH hr h3 h4 (t.length+1)
  omega
 ·rw[sG h2]
  have:=nH hr h3 h4 t.length
  omega
theorem sH {t:List (Int×BS)}(hr:Rng t):∀f j,j<t.length→((abv (toT t) f (up (toT t) j)).isSome=true↔∃d,d≤f∧it t (d+1) j=none)
 | 0,j,hj=>by
  rw[gl hj,abv]
  constructor
  ·intro h
   refine⟨0,Nat.le_refl _,?_⟩
   rw[ip,upN]
   split at h
   ·rename_i h';rw[if_pos h'];rfl
   ·cases h
  ·rintro⟨d,hd,h⟩
   obtain rfl:d=0:=by omega
   rw[ip,upN] at h
   split at h
   ·rename_i h';rw[if_pos h'];rfl
   ·cases h
 | f+1,j,hj=>by
  rw[gl hj,abv]
  by_cases h':(bg t j).1<0
  ·rw[if_pos h']
   refine⟨fun _=>⟨0,Nat.zero_le _,?_⟩,fun _=>rfl⟩
   rw[ip,upN,if_pos h'];rfl
  ·have hu:upN t j=some (bg t j).1.toNat:=by rw[upN,if_neg h']
   have hk:=(nA hr hj hu).1
   rw[if_neg h',Option.isSome_map,sH hr f _ hk]
   constructor
   ·rintro⟨d,h1,h2⟩
    exact⟨d+1,by omega,by rw[ip,hu];exact h2⟩
   ·rintro⟨d,h1,h2⟩
    rw[ip,hu] at h2
    cases d with
    | zero=>cases h2
    | succ d=>exact⟨d,by omega,h2⟩
theorem sI {t:List (Int×BS)}(hr:Rng t){r:Nat}(hrl:r<t.length)(hu:(bg t r).1 = -1)(h1:∀j,j<t.length→(bg t j).1 = -1→j=r){i:Nat}(hi:i<t.length) :
  (dT (toT t) i).isSome=true↔(pre (kN t) t.length r).count i=1:=by
 rw[dT,sH hr _ _ hi,eZ]
 have hle:=nG hr hu t.length hi
 constructor
 ·intro h
  obtain⟨d,⟨hd,hn⟩,hmin⟩:=least h
  have hs:∃j,it t d i=some j:=by
   cases d with
   | zero=>exact⟨i,rfl⟩
   | succ d=>
    cases hx:it t (d+1) i with
    | some j=>exact⟨j,rfl⟩
    | none=>exact absurd ⟨by omega,hx⟩ (hmin d (by omega))
  obtain⟨j,hj⟩:=hs
  have hjl:=kO hr hi d j hj
  have hjr:j=r:=h1 j hjl (by
   rw[it,hj] at hn
   have hrj:=hr j hjl
   change upN t j=none at hn
   unfold upN at hn
   split at hn
   ·omega
   ·cases hn)
  subst hjr
  have hdl:=sF hr hi d j hj
  have:=nH hr hrl hu d
  have hc:=kP hr hi t.length j
  have h2:1≤((List.range (t.length+1)).map fun d=>ind (decide (it t d i=some j))).sum:=by
   have:∀l:List Nat,d∈l→1≤(l.map fun d=>ind (decide (it t d i=some j))).sum:=by
    intro l
    induction l with
    | nil=>intro h;cases h
    | cons x l ih=>
     intro h
     rw[List.map_cons,List.sum_cons]
     rcases List.mem_cons.1 h with rfl|h
     ·rw[decide_eq_true hj];simp[ind]
     ·have:=ih h;omega
   exact this _ (List.mem_range.2 (by omega))
  omega
 ·intro h
  rw[kP hr hi] at h
  have:∃d,d∈List.range (t.length+1)∧it t d i=some r:=by
   apply Classical.byContradiction
   intro hne
   have:∀l:List Nat,(∀d∈l,d∈List.range (t.length+1))→(l.map fun d=>ind (decide (it t d i=some r))).sum=0:=by
    intro l
    induction l with
    | nil=>intro _;rfl
    | cons x l ih=>
     intro h
     rw[List.map_cons,List.sum_cons,ih fun d hd=>h d (by simp[hd]),decide_eq_false fun he=>hne ⟨x,h x (by simp),he⟩]
     rfl
   rw[this _ fun d hd=>hd] at h
   cases h
  obtain⟨d,hd,h2⟩:=this
  have:=List.mem_range.1 hd
  refine⟨d,by omega,?_⟩
  rw[it,h2]
  show upN t r=none
  rw[upN,hu];rfl

theorem kQ {t:List (Int×BS)}(hr:Rng t){i:Nat}(hi:i<t.length){k:Nat}(hk:k<1024):(ec t i).getLsbD k=cQ (toT t) (k:Nat) i:=by
 have hri:=hr i hi
 have fit:cA (k:Nat)=true:=cN.2 ⟨by omega,by omega⟩
 have hh:∀S:BS,has S (k:Nat)=S.getLsbD k:=fun S=>by rw[has,fit,Int.toNat_natCast];rfl
 rw[cQ,jr hi,kM,hh,gl hi,ec]
 by_cases h:(bg t i).1 = -1
 ·rw[if_pos h,h];simp
 ·rw[if_neg h,jr (by omega),kM,hh]
  have:¬(bg t i).1<0:=by omega
  simp[this,hk]
theorem nJ {t:List (Int×BS)}(k:Nat):∀i,(eW t i).getLsbD k=true↔∃j,j<i∧(ec t j).getLsbD k=true
 | 0=>by simp[eW]
 | i+1=>by
  rw[eW,BitVec.getLsbD_or,Bool.or_eq_true,nJ k i]
  constructor
  ·rintro (⟨j,h1,h2⟩|h)
   ·exact⟨j,by omega,h2⟩
   ·exact⟨i,by omega,h⟩
  ·rintro⟨j,h1,h2⟩
   by_cases hj:j=i
   ·subst hj;exact .inr h2
   ·exact .inl ⟨j,by omega,h2⟩
theorem sJ {S T:BS}:S &&& T=0↔∀k,k<1024→¬(S.getLsbD k=true∧T.getLsbD k=true):=by
 constructor
 ·intro h k hk ⟨h1,h2⟩
  have:=congrArg (fun S=>S.getLsbD k) h
  simp[h1,h2] at this
 ·intro h
  refine BitVec.eq_of_getLsbD_eq fun k hk=>?_
  have:=h k hk
  rw[BitVec.getLsbD_and]
  cases h1:S.getLsbD k <;> cases h2:T.getLsbD k <;> simp[h1,h2] at this ⊢
def Uni (xs:List RB):Prop:=∀(id:Int) (j i:Nat),j<i→i<xs.length→¬(cQ xs id i=true∧cQ xs id j=true)
theorem js {p:Nat→Bool}:∀{n:Nat},(bF p n).length≤1↔∀j i,j<i→i<n→¬(p i=true∧p j=true)
 | 0=>⟨fun _ j i _ h=>by omega,fun _=>by simp[bF]⟩
 | n+1=>by
  rw[ib]
  constructor
  ·intro h j i hji hi ⟨h1,h2⟩
   have hl:(bF p n).length≤1:=by
    split at h
    ·rw[List.length_append,List.length_singleton] at h;omega
    ·exact h
   by_cases hin:i=n
   ·subst hin
    rw[if_pos h1] at h
    have:(j:Int)∈bF p i:=ik.2 ⟨j,hji,h2,rfl⟩
    cases hs:bF p i with
    | nil=>rw[hs] at this;cases this
    | cons x l=>rw[hs] at h;simp at h
   ·exact js.1 hl j i hji (by omega) ⟨h1,h2⟩
  ·intro h
   have hl:(bF p n).length≤1:=js.2 fun j i hji hi=>h j i hji (by omega)
   split
   ·rename_i hp
    have:bF p n=[]:=by
     cases hs:bF p n with
     | nil=>rfl
     | cons x l=>
      have:x∈bF p n:=by rw[hs];simp
      obtain⟨j,h1,h2,_⟩:=ik.1 this
      exact absurd ⟨hp,h2⟩ (h j n h1 (by omega))
    rw[this];simp
   ·exact hl
theorem a0W {t:List (Int×BS)}{id:Int}{i:Nat}(hi:i<t.length)(h:cQ (toT t) id i=true):∃k:Nat,k<1024∧id=(k:Int):=by
 rw[cQ,jr hi,kM,has,Bool.and_eq_true,Bool.and_eq_true,cN] at h
 exact⟨id.toNat,by omega,by omega⟩
theorem a0X {t:List (Int×BS)}(hr:Rng t):(∀i,i<t.length→ec t i &&& eW t i=0)↔Uni (toT t):=by
 constructor
 ·intro h id j i hji hi ⟨h1,h2⟩
  rw[eZ] at hi
  obtain⟨k,hk,rfl⟩:=a0W hi h1
  have:=sJ.1 (h i hi) k hk
  exact this ⟨by rw[kQ hr hi hk];exact h1,(nJ k i).2 ⟨j,hji,by rw[kQ hr (by omega) hk];exact h2⟩⟩
 ·intro h i hi
  refine sJ.2 fun k hk ⟨h1,h2⟩=>?_
  obtain⟨j,hj,h3⟩:=(nJ k i).1 h2
  rw[kQ hr hi hk] at h1
  rw[kQ hr (by omega) hk] at h3
  exact h k j i hj (by rw[eZ];exact hi) ⟨h1,h3⟩
def fa (xs:List RB):List RB:=xs.map fun b=>(b.1,[])
theorem gP (xs:List RB):(fa xs).length=xs.length:=by simp[fa]
theorem iq (xs:List RB)(i:Nat):up (fa xs) i=up xs i:=by
 unfold up fa
 rw[List.getElem?_map]
 cases xs[i]? <;> rfl
theorem a0Y (xs:List RB)(i:Nat):hs (fa xs) i=[]:=by
 unfold hs fa
 rw[List.getElem?_map]
 cases xs[i]? <;> rfl
theorem sK (xs:List RB):∀f a,abv (fa xs) f a=abv xs f a
 | 0,a=>rfl
 | f+1,a=>by rw[abv,abv,iq,sK xs f]
theorem a0Z {xs:List RB}(h1:∀i,i<xs.length → -1≤up xs i∧up xs i<xs.length)(h2:(bF (fun i=>decide (up xs i<0)) xs.length).length=1)(h3:∀i,i<xs.length→(dT xs i).isSome=true):fy (fa xs):=by
 refine⟨fun i hi=>?_,?_,fun i hi=>?_,fun i hi id hid=>?_⟩
 ·rw[gP] at hi ⊢
  rw[iq];exact h1 i hi
 ·rw[gP]
  simp only[iq]
  exact h2
 ·rw[gP] at hi
  rw[dT,sK,iq,gP]
  exact h3 i hi
 ·rw[a0Y] at hid;cases hid
theorem a1a {xs:List RB}(V:fy (fa xs))(id:Int):∀i,i<xs.length→id∈hs xs i→∃j,j<xs.length∧cQ xs id j=true:=by
 intro i hi
 refine yX V (p:=fun i=>id∈hs xs i→∃j,j<xs.length∧cQ xs id j=true) (fun i hi hu h=>⟨i,?_,?_⟩) (fun i j hi hj hu ih h=>?_) i (by rw[gP];exact hi)
 ·rwa [gP] at hi
 ·rw[iq] at hu
  rw[cQ,eM,decide_eq_true h,hu];rfl
 ·rw[gP] at hi
  rw[iq] at hu
  by_cases hj2:id∈hs xs j
  ·exact ih hj2
  ·refine⟨i,hi,?_⟩
   rw[cQ,eM,eM,decide_eq_true h,hu,Int.toNat_natCast,decide_eq_false hj2]
   simp
theorem a1b {xs:List RB}(V:fy (fa xs)):(∀i,i<xs.length→∀id∈hs xs i,(ie xs id).length=1)↔Uni xs:=by
 constructor
 ·intro h id j i hji hi ⟨h1,h2⟩
  have hm:id∈hs xs i:=by
   rw[cQ,Bool.and_eq_true] at h1
   exact of_decide_eq_true h1.1
  have:=h i hi id hm
  exact js.1 (Nat.le_of_eq this) j i hji hi ⟨h1,h2⟩
 ·intro h i hi id hid
  have h1:(ie xs id).length≤1:=js.2 fun j i hji hi=>h id j i hji hi
  obtain⟨j,hj,ht⟩:=a1a V id i hi hid
  have:(j:Int)∈ie xs id:=ik.2 ⟨j,hj,ht,rfl⟩
  have:=List.length_pos_of_mem this
  omega
theorem jt {α:Type}{p q:Prop}{_:Decidable p}{_:Decidable q}{a b c d:α}(h:p↔q)(h1:p→a=c)(h2:¬p→b=d):(if p then a else b)=(if q then c else d):=by
 by_cases hp:p
 ·rw[if_pos hp,if_pos (h.1 hp)];exact h1 hp
 ·rw[if_neg hp,if_neg (fun hq=>hp (h.2 hq))];exact h2 hp
theorem a1c {t:List (Int×BS)}:dC t t.length=km (toT t):=by
 unfold dC km
 rw[eZ]
 refine jt (by omega) (fun _=>rfl) fun h0=>?_
 have e1:Rng t↔∀i,i<t.length → -1≤up (toT t) i∧up (toT t) i<t.length:=by
  constructor
  ·intro h i hi;rw[gl hi];exact h i hi
  ·intro h i hi;have:=h i hi;rwa [gl hi] at this
 refine jt (not_congr e1) (fun _=>rfl) fun hr=>?_
 replace hr:=Classical.not_not.1 hr
 have e2:(bF (fun i=>decide (up (toT t) i<0)) t.length).length=(rootN t).length:=by
  rw[bF,List.length_map,rootN]
  congr 1
  refine List.filter_congr fun i hi=>?_
  have hi:=List.mem_range.1 hi
  have:=hr i hi
  rw[gl hi,decide_eq_decide]
  omega
 rw[e2]
 refine jt Iff.rfl (fun _=>rfl) fun h1=>?_
 replace h1:=Classical.not_not.1 h1
 obtain⟨r,r1,r2,r3,r4⟩:=sw h1
 have e3:(ca t t.length (rootN t)).2=(t.length:Nat)↔∀i,i<t.length→(dT (toT t) i).isSome=true:=by
  rw[sG r1,nC (nE _ r r2)]
  have:=sD (f:=fun i=>(pre (kN t) t.length r).count i) (l:=List.range t.length) fun i hi=>nG hr r3 t.length (List.mem_range.1 hi)
  rw[List.length_range] at this
  rw[Int.ofNat_inj,this]
  constructor
  ·intro h i hi
   exact (sI hr r2 r3 r4 hi).2 (h i (List.mem_range.2 hi))
  ·intro h i hi
   exact (sI hr r2 r3 r4 (List.mem_range.1 hi)).1 (h i (List.mem_range.1 hi))
 refine jt (not_congr e3) (fun _=>rfl) fun h2=>?_
 replace h2:=Classical.not_not.1 h2
 have V:=a0Z (xs:=toT t) (by rw[eZ];exact e1.1 hr) (by rw[eZ,e2];exact h1) (by rw[eZ];exact e3.1 h2)
 have e4:=a1b V
 rw[eZ] at e4
 exact jt (not_congr ((a0X hr).trans e4.symm)) (fun _=>rfl) fun _=>rfl
end Go.Mono
namespace Go.Mono
open Go Go.RowKit
structure FlF {α:Type}(e:Enc α)(f:α→List Value):Prop where
 r:∀G w x cs,e.r G w x cs↔cs=f x
 len:∀x,(f x).length=e.k
def ju (n:Int):List Value:=[.int .i64 n]
theorem sL:FlF aj ju:=⟨fun _ _ _ _=>Iff.rfl,fun _=>rfl⟩
section
variable {α:Type}{e:Enc α}{f:α→List Value}{te:TypeId}{N n cap b:Nat}{cur:Array Value}{w w':World}{G:Nat→Prop}{xs:List α}{v:Value}
theorem FlF.cells (F:FlF e f):∀(xs:List α) (cs:List Value),Cells e G w xs cs↔cs=xs.flatMap f
 | [],cs=>by simp[Cells]
 | x::xs,cs=>by
  constructor
  ·rintro⟨c,d,rfl,h1,h2⟩
   rw[(F.r _ _ _ _).1 h1,(F.cells xs d).1 h2,List.flatMap_cons]
  ·intro h
   exact⟨f x,xs.flatMap f,by rw[h,List.flatMap_cons],(F.r _ _ _ _).2 rfl,(F.cells xs _).2 rfl⟩
theorem FlF.flen (F:FlF e f):∀xs:List α,(xs.flatMap f).length=xs.length * e.k
 | []=>by simp
 | x::r=>by rw[List.flatMap_cons,List.length_append,F.len,F.flen r,List.length_cons,Nat.succ_mul];omega
structure RwR (k:Nat)(te:TypeId)(N cap b:Nat)(cur:Array Value)(w:World):Prop where
 bl:Blk w b cur te
 lo:N≤b
 sz:cur.size=cap * k
 mx:cap≤maxLen
theorem RwR.ext {k:Nat}(h:RwR k te N cap b cur w)(e':Ext w w'):RwR k te N cap b cur w':=⟨h.bl.ext e',h.lo,h.sz,h.mx⟩
instance {k:Nat}:Ug w w' (RwR k te N cap b cur w) (RwR k te N cap b cur w'):=⟨fun e h=>h.ext e⟩
theorem OwR.rw (h:OwR e te N G w xs v)(F:FlF e f):(v=.slice none 0 0∧xs=[])∨∃b cap cur,v=.slice (some ⟨b,0,none⟩) xs.length cap∧xs.length≤cap∧RwR e.k te N cap b cur w∧cur.toList.take (xs.length * e.k)=xs.flatMap f:=by
 obtain⟨cs,⟨hlen,hv⟩,hcs⟩:=h.own
 rw[F.cells] at hcs
 subst hcs
 rcases hv with ⟨rfl,hn⟩|⟨g0,cap,cur,rfl,hB,hheap,hcap,hmax,hcur,htake⟩
 ·exact .inl ⟨rfl,List.length_eq_zero_iff.1 hn⟩
 ·exact .inr ⟨g0,cap,cur,rfl,hcap,⟨hheap,hB,hcur,hmax⟩,htake⟩
theorem RwR.own (h:RwR e.k te N cap b cur w)(F:FlF e f)(hn:xs.length≤cap)(ht:cur.toList.take (xs.length * e.k)=xs.flatMap f)(hG:∀b,G b→b<N):OwR e te N G w xs (.slice (some ⟨b,0,none⟩) xs.length cap):=
 ⟨⟨xs.flatMap f,⟨F.flen xs,.inr ⟨b,cap,cur,rfl,h.lo,h.bl,hn,h.mx,h.sz,ht⟩⟩,(F.cells _ _).2 rfl⟩,hG,Nat.le_trans h.lo (Nat.le_of_lt h.bl.lt)⟩
end
section
variable {α:Type}{f:α→List Value}{k:Nat}
theorem sM (hk:∀x,(f x).length=k):∀(xs:List α) (i:Nat),(xs.flatMap f).take (i * k)=(xs.take i).flatMap f
 | [],i=>by simp
 | x::r,0=>by simp
 | x::r,i+1=>by
  rw[List.flatMap_cons,List.take_succ_cons,List.flatMap_cons,Nat.succ_mul,List.take_append,hk,List.take_of_length_le (by rw[hk];omega),show i * k+k - k=i * k by omega,sM hk r i]
end
section ops
variable {P:Program}{w0:World}{L:Env}{dst:Option Tmp}{ty:TypeId}{pos:String}{aft:Array Edge}{g:Option (Nat×Bool)}{x y:Operand}{t te:TypeId}
theorem a1d {b o n c i s:Nat}(ht:P.underlying t=some (.slice te))(hs:(P.info? te).map (·.size)=some s)(hx:opd L x=some (E (.slice (some ⟨b,o,none⟩) n c)))(hy:opd L y=some (E (.int .i64 (i:Nat))))(hi:i≤c) :
  OpC P w0 L ⟨dst,.slice t x none (some y) none,ty,pos,aft,g⟩ (E (.slice (some ⟨b,o,none⟩) i c)):=
 aM fun ρ w _ hv=>by
  have h1:=opE hv (x:=x) (by simp[Op.operands]) hx
  have h2:=opE hv (x:=y) (by simp[Op.operands]) hy
  refine⟨_,?_,rfl⟩
  have hi':(0:Int)≤(i:Int)∧(i:Int)≤(c:Int):=by omega
  simp[execOp,h1,h2,Instr.sliceAt,Instr.slice,Instr.sliceBounds,Instr.sliceBound,asIntOf,run_underlying ht,hi,yp hs,Addr.add_lit]
end ops
section
variable {P:Program}{w0:World}{L:Env}{dst:Option Tmp}{ty:TypeId}{pos:String}{aft:Array Edge}{g:Option (Nat×Bool)}{x:Operand}{t:TypeId}{α:Type}{e:Enc α}{z:α}
end
section tail
variable {P:Program}{L:Env}{ty:TypeId}{pos:String}{aft:Array Edge}{r:Option Nat}{ds:List Deferred}
variable {ops:Array Oper}{rest:List Oper}{Q:Exit→Act→World→Prop}{n:Nat}{a:Act}{w:World}{x y:Operand}{t te:TypeId}
end tail
theorem MpR.tight0 {P:Program}{α β:Type}{V:KV P α β}{w:World}{b n:Nat}{l:List (α×β)}(h:MpR V w b n l):MpR V w b l.length l:=by
 obtain⟨es,⟨arr,clock,h1,F,hs,hD⟩,hp,hok,hpw⟩:=h
 have key:∀m:List (Lit×DataW Unit),(m.foldr DataW.insert []).Perm m:=by
  intro m
  induction m with
  | nil=>exact List.Perm.refl _
  | cons x m ih=>exact (kq x _).trans (ih.cons x)
 refine⟨es,⟨arr,clock,h1,F,?_,hD⟩,hp,hok,hpw⟩
 cases hD
 have h2:=(key (arr.toList.map (Go.WideElems.rg P V.k V.R))).length_eq
 have h3:=hp.length_eq
 rw[List.length_map] at h3
 rw[h3] at h2
 rw[List.length_map,Array.length_toList] at h2
 exact Nat.le_of_eq h2.symm
end Go.Mono
namespace Go.Mono.Pop

theorem a1e (k M c z:Nat)(hc:c<2 ^ k):z &&& (2 ^ k * M+c)=2 ^ k * ((z / 2 ^ k) &&& M)+((z % 2 ^ k) &&& c):=by
 have h1:(z % 2 ^ k) &&& c<2 ^ k:=Nat.lt_of_le_of_lt Nat.and_le_right hc
 apply Nat.eq_of_testBit_eq
 intro i
 rw[Nat.testBit_and,Nat.testBit_two_pow_mul_add _ hc,Nat.testBit_two_pow_mul_add _ h1]
 split
 ·rename_i hi
  rw[Nat.testBit_and,Nat.testBit_mod_two_pow]
  simp[hi]
 ·rename_i hi
  rw[Nat.testBit_and,Nat.testBit_div_two_pow]
  congr 2
  omega
theorem jv (M c z:Nat)(hc:c<256):z &&& (256 * M+c)=256 * ((z / 256) &&& M)+((z % 256) &&& c):=a1e 8 M c z hc

def mask (c:Nat):Nat→Nat
 | 0=>0
 | n+1=>256 * mask c n+c
def pc (b:Nat):Nat:=(List.range 8).countP fun i=>b.testBit i
def F:Nat→Nat→Nat
 | 0,_=>0
 | n+1,x=>pc (x % 256)+256 * F n (x / 256)
def sA (m x:Nat):Nat:=((x / 2) &&& m)+(x &&& m)
def sB (m x:Nat):Nat:=((x / 4) &&& m)+(x &&& m)
def sC (m x:Nat):Nat:=(x / 16+x) &&& m

theorem kA:∀b,b<256→∀e,e<2→(b / 2+128 * e) &&& 85=(b / 2) &&& 85:=by decide +kernel
theorem kA2:∀b,b<256→sA 85 b<256:=by decide +kernel
theorem kB:∀b,b<256→∀e,e<4→(b / 4+64 * e) &&& 51=(b / 4) &&& 51:=by decide +kernel
theorem kB2:∀b,b<256→sB 51 (sA 85 b)<256∧sB 51 (sA 85 b) % 16<5:=by decide +kernel
theorem kC:∀b,b<256→∀e,e<5→e * 16+(sB 51 (sA 85 b) / 16+sB 51 (sA 85 b))<256∧(e * 16+(sB 51 (sA 85 b) / 16+sB 51 (sA 85 b))) &&& 15=pc b:=by decide +kernel
theorem a1f:∀b,b<256→pc b≤8:=by decide +kernel

theorem a1g (n x:Nat):sA (mask 85 (n+1)) x=sA 85 (x % 256)+256 * sA (mask 85 n) (x / 256):=by
 unfold sA
 rw[mask,jv _ _ _ (by decide),jv _ _ _ (by decide)]
 have h1:x / 2 / 256=x / 256 / 2:=by omega
 have h2:x / 2 % 256=x % 256 / 2+128 * (x / 256 % 2):=by omega
 rw[h1,h2,kA _ (Nat.mod_lt _ (by decide)) _ (Nat.mod_lt _ (by decide))]
 omega
theorem stepB (n y:Nat):sB (mask 51 (n+1)) y=sB 51 (y % 256)+256 * sB (mask 51 n) (y / 256):=by
 unfold sB
 rw[mask,jv _ _ _ (by decide),jv _ _ _ (by decide)]
 have h1:y / 4 / 256=y / 256 / 4:=by omega
 have h2:y / 4 % 256=y % 256 / 4+64 * (y / 256 % 4):=by omega
 rw[h1,h2,kB _ (Nat.mod_lt _ (by decide)) _ (Nat.mod_lt _ (by decide))]
 omega
theorem AB (n x:Nat):sB (mask 51 (n+1)) (sA (mask 85 (n+1)) x)=sB 51 (sA 85 (x % 256))+256 * sB (mask 51 n) (sA (mask 85 n) (x / 256)):=by
 have h:=kA2 (x % 256) (Nat.mod_lt _ (by decide))
 rw[a1g,stepB]
 have h1:(sA 85 (x % 256)+256 * sA (mask 85 n) (x / 256)) % 256=sA 85 (x % 256):=by omega
 have h2:(sA 85 (x % 256)+256 * sA (mask 85 n) (x / 256)) / 256=sA (mask 85 n) (x / 256):=by omega
 rw[h1,h2]
theorem a1h:∀(n x:Nat),sB (mask 51 n) (sA (mask 85 n) x) % 16<5
 | 0,x=>by simp[sB,sA,mask]
 | n+1,x=>by
  rw[AB]
  have:=(kB2 (x % 256) (Nat.mod_lt _ (by decide))).2
  omega
theorem ABC:∀(n x:Nat),sC (mask 15 n) (sB (mask 51 n) (sA (mask 85 n) x))=F n x
 | 0,x=>by simp[sC,mask,F]
 | n+1,x=>by
  have hb:=Nat.mod_lt x (show 256 > 0 by decide)
  have hq:=a1h n (x / 256)
  have ih:=ABC n (x / 256)
  obtain⟨k1,k2⟩:=kC _ hb _ hq
  rw[AB,F,← ih]
  generalize sB (mask 51 n) (sA (mask 85 n) (x / 256))=q at *
  generalize sB 51 (sA 85 (x % 256))=b at *
  unfold sC
  rw[mask,jv _ _ _ (by decide)]
  have h1:(b+256 * q) / 16+(b+256 * q)=256 * (q / 16+q)+(q % 16 * 16+(b / 16+b)):=by omega
  rw[h1]
  have h2:(256 * (q / 16+q)+(q % 16 * 16+(b / 16+b))) / 256=q / 16+q:=by omega
  have h3:(256 * (q / 16+q)+(q % 16 * 16+(b / 16+b))) % 256=q % 16 * 16+(b / 16+b):=by omega
  rw[h2,h3,k2]
  omega
theorem masks:mask 85 8=6148914691236517205∧mask 51 8=3689348814741910323∧mask 15 8=1085102592571150095:=by decide
def G:Nat→Nat→Nat
 | 0,_=>0
 | n+1,x=>pc (x % 256)+G n (x / 256)
def V:List Nat→Nat
 | []=>0
 | a::l=>a+256 * V l
def addL:List Nat→List Nat→List Nat
 | [],m=>m
 | l,[]=>l
 | a::l,b::m=>(a+b)::addL l m
theorem sN:∀l m,V (addL l m)=V l+V m
 | [],m=>by simp[addL,V]
 | a::l,[]=>by simp[addL,V]
 | a::l,b::m=>by simp only[addL,V,sN l m];omega
theorem sO:∀(k:Nat) (l:List Nat),(∀a∈l,a<256)→V l / 256 ^ k=V (l.drop k)
 | 0,l,_=>by simp
 | k+1,[],_=>by simp[V]
 | k+1,a::l,h=>by
  have h1:V (a::l) / 256=V l:=by
   have:=h a (by simp)
   simp only[V]
   omega
  rw[Nat.pow_succ,Nat.mul_comm,← Nat.div_div_eq_div_mul,h1,sO k l (fun x hx=>h x (by simp[hx]))]
  simp
theorem sP:∀(l:List Nat),(∀a∈l,a<256)→V l<256 ^ l.length
 | [],_=>by simp[V]
 | a::l,h=>by
  have h1:=h a (by simp)
  have h2:=sP l (fun x hx=>h x (by simp[hx]))
  simp only[V,List.length_cons,Nat.pow_succ]
  omega
theorem sQ (x y:Nat):∀(l m:List Nat),(∀a∈l,a≤x)→(∀a∈m,a≤y)→∀a∈addL l m,a≤x+y
 | [],m,_,h2=>fun a ha=>by have:=h2 a (by simpa[addL] using ha);omega
 | a::l,[],h1,_=>fun b hb=>by have:=h1 b (by simpa[addL] using hb);omega
 | a::l,b::m,h1,h2=>fun c hc=>by
  simp only[addL,List.mem_cons] at hc
  rcases hc with rfl|hc
  ·have:=h1 a (by simp);have:=h2 b (by simp);omega
  ·exact sQ x y l m (fun x hx=>h1 x (by simp[hx])) (fun x hx=>h2 x (by simp[hx])) c hc
theorem sR:∀(l m:List Nat),m.length≤l.length→(addL l m).length=l.length
 | [],[],_=>rfl
 | a::l,[],_=>rfl
 | a::l,b::m,h=>by simp only[addL,List.length_cons] at h ⊢;rw[sR l m (by omega)]
theorem stepV (k b:Nat)(l:List Nat)(hl:l.length=8)(hb:∀a∈l,a≤b)(h:b+b<256) :
  (V l+V l / 256 ^ k) % 18446744073709551616=V (addL l (l.drop k))∧(addL l (l.drop k)).length=8∧∀a∈addL l (l.drop k),a≤b+b:=by
 have hd:∀a∈l.drop k,a≤b:=fun a ha=>hb a (List.mem_of_mem_drop ha)
 have h3:=sQ b b l (l.drop k) hb hd
 have h2:=sR l (l.drop k) (by simp)
 refine⟨?_,by omega,h3⟩
 rw[sO k l (fun a ha=>by have:=hb a ha;omega),← sN]
 refine Nat.mod_eq_of_lt ?_
 have:=sP (addL l (l.drop k)) (fun a ha=>by have:=h3 a ha;omega)
 rw[h2,hl] at this
 exact this
def bytes (x:Nat):List Nat:=[pc (x % 256),pc (x / 256 % 256),pc (x / 256 / 256 % 256),pc (x / 256 / 256 / 256 % 256),pc (x / 256 / 256 / 256 / 256 % 256),pc (x / 256 / 256 / 256 / 256 / 256 % 256),
 pc (x / 256 / 256 / 256 / 256 / 256 / 256 % 256),pc (x / 256 / 256 / 256 / 256 / 256 / 256 / 256 % 256)]
theorem F_V (x:Nat):F 8 x=V (bytes x):=rfl
theorem sS (x:Nat):∀a∈bytes x,a≤8:=by
 intro a ha
 simp only[bytes,List.mem_cons,List.not_mem_nil,or_false] at ha
 rcases ha with rfl|rfl|rfl|rfl|rfl|rfl|rfl|rfl <;> exact a1f _ (Nat.mod_lt _ (by decide))
theorem a1i:∀p0 p1 p2 p3 p4 p5 p6 p7:Nat,∃t,addL (addL (addL [p0,p1,p2,p3,p4,p5,p6,p7] [p1,p2,p3,p4,p5,p6,p7]) ((addL [p0,p1,p2,p3,p4,p5,p6,p7] [p1,p2,p3,p4,p5,p6,p7]).drop 2)) ((addL (addL [p0,p1,p2,p3,p4,p5,p6,p7] [p1,p2,p3,p4,p5,p6,p7]) ((addL [p0,p1,p2,p3,p4,p5,p6,p7] [p1,p2,p3,p4,p5,p6,p7]).drop 2)).drop 4)=(p0+p1+(p2+p3)+(p4+p5+(p6+p7)))::t:=by
 intros
 exact⟨_,rfl⟩
theorem fold8 (x y4 y5 y6:Nat)(h4:y4=(F 8 x+F 8 x / 256) % 18446744073709551616)(h5:y5=(y4+y4 / 65536) % 18446744073709551616)(h6:y6=(y5+y5 / 4294967296) % 18446744073709551616) :
  y6 % 128=G 8 x:=by
 rw[F_V] at h4
 obtain⟨a1,a2,a3⟩:=stepV 1 8 (bytes x) rfl (sS x) (by decide)
 rw[Nat.pow_one] at a1
 rw[a1] at h4
 obtain⟨b1,b2,b3⟩:=stepV 2 16 _ a2 a3 (by decide)
 rw[h4,show (65536:Nat)=256 ^ 2 from rfl,b1] at h5
 obtain⟨c1,c2,c3⟩:=stepV 4 32 _ b2 b3 (by decide)
 rw[h5,show (4294967296:Nat)=256 ^ 4 from rfl,c1] at h6
 obtain⟨t,ht⟩:=a1i (pc (x % 256)) (pc (x / 256 % 256)) (pc (x / 256 / 256 % 256)) (pc (x / 256 / 256 / 256 % 256)) (pc (x / 256 / 256 / 256 / 256 % 256)) (pc (x / 256 / 256 / 256 / 256 / 256 % 256))
  (pc (x / 256 / 256 / 256 / 256 / 256 / 256 % 256)) (pc (x / 256 / 256 / 256 / 256 / 256 / 256 / 256 % 256))
 have hb:=sS x
 simp only[bytes,List.mem_cons,List.not_mem_nil,or_false,forall_eq_or_imp,forall_eq] at hb
 have h7:y6=V ((pc (x % 256)+pc (x / 256 % 256)+(pc (x / 256 / 256 % 256)+pc (x / 256 / 256 / 256 % 256))+(pc (x / 256 / 256 / 256 / 256 % 256)+pc (x / 256 / 256 / 256 / 256 / 256 % 256) +
  (pc (x / 256 / 256 / 256 / 256 / 256 / 256 % 256)+pc (x / 256 / 256 / 256 / 256 / 256 / 256 / 256 % 256))))::t):=by
  rw[h6,← ht]
  rfl
 rw[h7]
 simp only[V,G]
 obtain⟨g0,g1,g2,g3,g4,g5,g6,g7⟩:=hb
 generalize pc (x % 256)=p0 at *
 generalize pc (x / 256 % 256)=p1 at *
 generalize pc (x / 256 / 256 % 256)=p2 at *
 generalize pc (x / 256 / 256 / 256 % 256)=p3 at *
 generalize pc (x / 256 / 256 / 256 / 256 % 256)=p4 at *
 generalize pc (x / 256 / 256 / 256 / 256 / 256 % 256)=p5 at *
 generalize pc (x / 256 / 256 / 256 / 256 / 256 / 256 % 256)=p6 at *
 generalize pc (x / 256 / 256 / 256 / 256 / 256 / 256 / 256 % 256)=p7 at *
 generalize V t=z
 omega
theorem a1j (n:Nat)(f:Nat→Bool):(List.range (8 * (n+1))).countP f=(List.range 8).countP f+(List.range (8 * n)).countP (fun i=>f (i+8)):=by
 rw[show 8 * (n+1)=8+8 * n by omega,List.range_add,List.countP_append,List.countP_map]
 congr 1
 refine List.countP_congr fun i _=>?_
 simp[Function.comp,Nat.add_comm]
theorem count_G:∀(n x:Nat),(List.range (8 * n)).countP (fun i=>x.testBit i)=G n x
 | 0,x=>rfl
 | n+1,x=>by
  rw[a1j,G,← count_G n (x / 256)]
  congr 1
  ·unfold pc
   refine List.countP_congr fun i hi=>?_
   have:=List.mem_range.1 hi
   rw[show (256:Nat)=2 ^ 8 from rfl,Nat.testBit_mod_two_pow]
   simp[this]
  ·refine List.countP_congr fun i _=>?_
   rw[show (256:Nat)=2 ^ 8 from rfl,Nat.testBit_div_two_pow]
end Go.Mono.Pop
namespace Go.Mono
open Go Go.Proofs Go.RowKit

def gm (x:BitVec 64):Nat:=(List.range 64).countP fun i=>x.getLsbD i
theorem sT (x:BitVec 64):gm x≤64:=by
 have:=List.countP_le_length (p:=fun i=>x.getLsbD i) (l:=List.range 64)
 simpa[gm] using this
theorem a1k (x:BitVec 64):gm x=Pop.G 8 x.toNat:=by
 rw[← Pop.count_G 8 x.toNat]
 rfl
theorem a1l (x x1 x2 x3 x4 x5 x6:BitVec 64)(h1:x1=((x >>> 1) &&& 6148914691236517205#64)+(x &&& 6148914691236517205#64))(h2:x2=((x1 >>> 2) &&& 3689348814741910323#64)+(x1 &&& 3689348814741910323#64))
  (h3:x3=((x2 >>> 4)+x2) &&& 1085102592571150095#64) (h4:x4=x3+(x3 >>> 8)) (h5:x5=x4+(x4 >>> 16)) (h6:x6=x5+(x5 >>> 32)):(x6 &&& 127#64).toNat=gm x:=by
 have e1:x1.toNat=Pop.sA (Pop.mask 85 8) x.toNat:=by
  rw[h1,Pop.masks.1,BitVec.toNat_add,BitVec.toNat_and,BitVec.toNat_and,BitVec.toNat_ushiftRight,Nat.shiftRight_eq_div_pow]
  show ((x.toNat / 2 &&& 6148914691236517205)+(x.toNat &&& 6148914691236517205)) % 2 ^ 64=_
  have a1:=@Nat.and_le_right (x.toNat / 2) 6148914691236517205
  have a2:=@Nat.and_le_right x.toNat 6148914691236517205
  rw[Nat.mod_eq_of_lt (by omega)]
  rfl
 have e2:x2.toNat=Pop.sB (Pop.mask 51 8) x1.toNat∧x2.toNat≤7378697629483820646:=by
  rw[h2,Pop.masks.2.1,BitVec.toNat_add,BitVec.toNat_and,BitVec.toNat_and,BitVec.toNat_ushiftRight,Nat.shiftRight_eq_div_pow]
  show ((x1.toNat / 4 &&& 3689348814741910323)+(x1.toNat &&& 3689348814741910323)) % 2 ^ 64=_∧((x1.toNat / 4 &&& 3689348814741910323)+(x1.toNat &&& 3689348814741910323)) % 2 ^ 64≤_
  have a1:=@Nat.and_le_right (x1.toNat / 4) 3689348814741910323
  have a2:=@Nat.and_le_right x1.toNat 3689348814741910323
  rw[Nat.mod_eq_of_lt (by omega)]
  exact⟨rfl,by omega⟩
 have e3:x3.toNat=Pop.sC (Pop.mask 15 8) x2.toNat:=by
  rw[h3,Pop.masks.2.2,BitVec.toNat_and,BitVec.toNat_add,BitVec.toNat_ushiftRight,Nat.shiftRight_eq_div_pow]
  show (x2.toNat / 16+x2.toNat) % 2 ^ 64 &&& 1085102592571150095=_
  rw[Nat.mod_eq_of_lt (by omega)]
  rfl
 have e3':x3.toNat=Pop.F 8 x.toNat:=by rw[e3,e2.1,e1,Pop.ABC]
 have e4:x4.toNat=(Pop.F 8 x.toNat+Pop.F 8 x.toNat / 256) % 18446744073709551616:=by
  rw[h4,BitVec.toNat_add,BitVec.toNat_ushiftRight,Nat.shiftRight_eq_div_pow,e3']
 have e5:x5.toNat=(x4.toNat+x4.toNat / 65536) % 18446744073709551616:=by
  rw[h5,BitVec.toNat_add,BitVec.toNat_ushiftRight,Nat.shiftRight_eq_div_pow]
 have e6:x6.toNat=(x5.toNat+x5.toNat / 4294967296) % 18446744073709551616:=by
  rw[h6,BitVec.toNat_add,BitVec.toNat_ushiftRight,Nat.shiftRight_eq_div_pow]
 have:=Pop.fold8 _ _ _ _ e4 e5 e6
 rw[a1k,← this,BitVec.toNat_and]
 exact Nat.and_two_pow_sub_one_eq_mod x6.toNat 7

theorem a1m {P:Program}{w0:World}{L:Env}{dst:Option Tmp}{ty:TypeId}{pos:String}{aft:Array Edge}{g:Option (Nat×Bool)}{x y:Operand}{t yt:TypeId}{a b:Int}
  (hx:opd L x=some (E (.int .i64 a))) (hy:opd L y=some (E (.int .i64 b))) :
  OpC P w0 L ⟨dst,.binOp .and t x y yt,ty,pos,aft,g⟩ (E (.int .i64 (IntKind.i64.wrap ((BitVec.ofInt 64 a &&& BitVec.ofInt 64 b).toNat:Int)))):=
 ce rfl hx hy
theorem a1n (x:BitVec 64):BitVec.ofInt 64 (IntKind.i64.wrap (x.toNat:Int))=x:=by
 apply BitVec.eq_of_toInt_eq
 rw[BitVec.toInt_ofInt]
 rw[BitVec.toInt_eq_toNat_bmod]
 rw[IntKind.wrap_i64]
 simp only[Int.bmod]
 split <;> split <;> omega
theorem a1o {x:BitVec 64}{n:Nat}(h:(x &&& 127#64).toNat=n)(hn:n≤64):IntKind.i64.wrap ((BitVec.ofInt 64 (IntKind.i64.wrap (x.toNat:Int)) &&& BitVec.ofInt 64 127).toNat:Int)=n:=by
 rw[a1n]
 have e:BitVec.ofInt 64 127=127#64:=by decide
 rw[e,h]
 exact IntWalk.i64_in _ (by omega)

theorem a1p (x:BitVec 64)(W:World):Calls Tryz.prog 62 #[Mono.W x] W (Post (E (I (gm x))) W):=by
 obtain⟨x1,h1⟩:∃x1,x1=((x >>> 1) &&& 6148914691236517205#64)+(x &&& 6148914691236517205#64):=⟨_,rfl⟩
 obtain⟨x2,h2⟩:∃x2,x2=((x1 >>> 2) &&& 3689348814741910323#64)+(x1 &&& 3689348814741910323#64):=⟨_,rfl⟩
 obtain⟨x3,h3⟩:∃x3,x3=((x2 >>> 4)+x2) &&& 1085102592571150095#64:=⟨_,rfl⟩
 obtain⟨x4,h4⟩:∃x4,x4=x3+(x3 >>> 8):=⟨_,rfl⟩
 obtain⟨x5,h5⟩:∃x5,x5=x4+(x4 >>> 16):=⟨_,rfl⟩
 obtain⟨x6,h6⟩:∃x6,x6=x5+(x5 >>> 32):=⟨_,rfl⟩
 have hc:=a1o (a1l x x1 x2 x3 x4 x5 x6 h1 h2 h3 h4 h5 h6) (sT x)
 refine eN [Mono.W x] [E (Mono.W x)] Tryz.func62 Tryz.ntmps62 ?_ fun a hf=>?_
 rotate_left
 rotate_right
 ·exact arg1 rfl
 have e:=Ext.rfl' W
 refine seq <| ae <| tA hf rfl fun a hf=>aa ?_
 replace hf:=hf.keep [0]
 refine seq <| rgN 6 hf <| st (mv rfl) <| st (gF rfl rfl (by omega)) <| st (fL (v:=6148914691236517205#64) rfl rfl) <| st (mv rfl) <| st (fL (v:=6148914691236517205#64) rfl rfl) <| st ((gX rfl rfl).eq (show Mono.W _=Mono.W x1 from by rw[h1];rfl)) ?_
 refine en fun a w e' hf=>?_
 replace e:=e.tr e'
 refine tA hf rfl fun a hf=>aa ?_
 replace hf:=hf.keep [0]
 refine seq <| rgN 6 hf <| st (mv rfl) <| st (gF rfl rfl (by omega)) <| st (fL (v:=3689348814741910323#64) rfl rfl) <| st (mv rfl) <| st (fL (v:=3689348814741910323#64) rfl rfl) <| st ((gX rfl rfl).eq (show Mono.W _=Mono.W x2 from by rw[h2];rfl)) ?_
 refine en fun a w e' hf=>?_
 replace e:=e.tr e'
 refine tA hf rfl fun a hf=>aa ?_
 replace hf:=hf.keep [0]
 refine seq <| rgN 5 hf <| st (mv rfl) <| st (gF rfl rfl (by omega)) <| st (mv rfl) <| st (gX rfl rfl) <| st ((fL (v:=1085102592571150095#64) rfl rfl).eq (show Mono.W _=Mono.W x3 from by rw[h3];rfl)) ?_
 refine en fun a w e' hf=>?_
 replace e:=e.tr e'
 refine tA hf rfl fun a hf=>aa ?_
 replace hf:=hf.keep [0]
 refine seq <| rgN 4 hf <| st (mv rfl) <| st (mv rfl) <| st (gF rfl rfl (by omega)) <| st ((gX rfl rfl).eq (show Mono.W _=Mono.W x4 from by rw[h4];rfl)) ?_
 refine en fun a w e' hf=>?_
 replace e:=e.tr e'
 refine tA hf rfl fun a hf=>aa ?_
 replace hf:=hf.keep [0]
 refine seq <| rgN 4 hf <| st (mv rfl) <| st (mv rfl) <| st (gF rfl rfl (by omega)) <| st ((gX rfl rfl).eq (show Mono.W _=Mono.W x5 from by rw[h5];rfl)) ?_
 refine en fun a w e' hf=>?_
 replace e:=e.tr e'
 refine tA hf rfl fun a hf=>aa ?_
 replace hf:=hf.keep [0]
 refine seq <| rgN 4 hf <| st (mv rfl) <| st (mv rfl) <| st (gF rfl rfl (by omega)) <| st ((gX rfl rfl).eq (show Mono.W _=Mono.W x6 from by rw[h6];rfl)) ?_
 refine en fun a w e' hf=>?_
 replace e:=e.tr e'
 refine tA hf rfl fun a hf=>aa ?_
 replace hf:=hf.keep [0]
 refine seq <| rgN 3 hf <| st (mv rfl) <| st (qa U66 U3 rfl) <| st ((a1m rfl rfl).eq (congrArg (Value.int .i64) hc)) <| en fun a w e' hf=>?_
 replace e:=e.tr e'
 refine tA hf rfl fun a hf=>aa <| ai (ap rfl hf rfl ?_)
 rintro v rfl
 exact⟨_,rfl,e,rfl⟩
def card (S:BS):Nat:=(List.range 1024).countP fun i=>S.getLsbD i
def cardTo (S:BS)(k:Nat):Nat:=(List.range (64 * k)).countP fun i=>S.getLsbD i
theorem a1q (S:BS)(k:Nat):cardTo S (k+1)=cardTo S k+gm (am S k):=by
 unfold cardTo gm
 rw[show 64 * (k+1)=64 * k+64 by omega,List.range_add,List.countP_append,List.countP_map]
 refine congrArg (fun n=>(List.range (64 * k)).countP (fun i=>S.getLsbD i)+n) (List.countP_congr fun i hi=>?_)
 have:=List.mem_range.1 hi
 simp[dR _ _ _ this]
theorem a1r (S:BS):cardTo S 16=card S:=by simp only[cardTo,card,Nat.reduceMul]
theorem a1s (S:BS)(k:Nat):cardTo S k≤64 * k:=by
 have:=List.countP_le_length (p:=fun i=>S.getLsbD i) (l:=List.range (64 * k))
 simpa[cardTo] using this

theorem ir (S:BS)(W:World):Calls Tryz.prog 25 #[ac S] W (Post (E (I (card S))) W):=by
 refine eN [ac S] [E (ac S)] Tryz.func25 Tryz.ntmps25 ?_ fun a hf=>?_
 rotate_left
 rotate_right
 ·exact arg1 rfl
 have e:=Ext.rfl' W
 refine seq <| ae <| tB hf rfl fun a b1 w v1 hv1 e' hb1 hs1 B1 hf=>?_
 replace e:=e.tr e'
 refine tA hf rfl fun a hf=>aa ?_
 subst hv1
 rw[fp] at B1
 refine seq <| ae <| tA hf rfl fun a hf=>aa ?_
 repeat refine seq ?_
 refine rgN 2 hf <| st (ldW T68 rfl (by assumption) rfl) <| st (mv rfl) <| en fun a w e' hf=>?_
 obtain⟨e,B1⟩:=up2 e' e B1
 refine aa ?_
 replace hf:=hf.keep [3,6,7]
 refine blk (aJ (fun r a w=>∃k:Nat,r=16 - k∧k≤16∧Fr 16 a w [(3,E (I (cardTo S k))),(6,E (ac S)),(7,E (I k))]∧Ext W w) 16 ⟨0,rfl,by omega,hf,e⟩ ?_)
 rintro r a w ⟨k,rfl,hk,hf,e⟩
 by_cases hlt:k<16
 ·refine seq <| rgN 1 hf <| st ((lss rfl rfl).eq (congrArg Value.bool (show decide ((k:Int)<16)=true from decide_eq_true (by omega)))) <| en fun a w e' hf=>?_
  replace e:=e.tr e'
  refine aa <| seq <| ifc hf rfl (fun _=>ak ?_) (fun h=>by cases h)
  refine seq <| blk <| seq <| rgN 1 hf <| st (jR U68 T66 rfl rfl (by omega) (by simpa[au] using cp (am S) k hlt)) <| en fun a w e' hf=>?_
  replace e:=e.tr e'
  refine tA hf rfl fun a hf=>aa ?_
  have hp:=sT (am S k)
  have hq:=a1s S k
  refine rgN 4 hf <| st (mv rfl) <| st (mv rfl) <| st (an wx rfl (fun v w' e' h=>by cases h;exact a1p _ w')) ?_
  refine st ((add rfl rfl (by omega)).eq (congrArg (Value.int .i64) (show ((cardTo S k:Nat):Int)+(gm (am S k):Nat)=(cardTo S (k+1):Nat) from by rw[a1q];omega))) ?_
  refine en fun a w e' hf=>?_
  replace e:=e.tr e'
  refine tA hf rfl fun a hf=>aa <| rgN 1 hf <| st (add rfl rfl (by omega)) <| en fun a w e' hf=>?_
  replace e:=e.tr e'
  refine tP hf (mv rfl) fun a w e' hf=>?_
  replace e:=e.tr e'
  refine aa ?_
  replace hf:=hf.kp [3,6,7]
  exact⟨16 - (k+1),by omega,k+1,rfl,by omega,by simpa using hf,e⟩
 ·obtain rfl:k=16:=by omega
  refine seq <| rgN 1 hf <| st ((lss rfl rfl).eq (congrArg Value.bool (show decide (((16:Nat):Int)<16)=false from rfl))) <| en fun a w e' hf=>?_
  replace e:=e.tr e'
  refine aa <| seq <| ifc hf rfl (fun h=>by cases h) (fun _=>aG ?_)
  refine seq <| rgN 1 hf <| st (mv rfl) <| en fun a w e' hf=>?_
  replace e:=e.tr e'
  refine tA hf rfl fun a hf=>aa <| ai (ap rfl hf rfl ?_)
  rintro v rfl
  exact⟨_,rfl,e,by rw[a1r];rfl⟩
end Go.Mono
namespace Go.Mono
open Classical
structure Tr where
 n:Nat
 par:Nat→Option Nat
 dep:Nat→Nat
 lt:∀{i j},i<n→par i=some j→j<n
 dp:∀{i j},i<n→par i=some j→dep i=dep j+1
 one:∀{i j},i<n→j<n→par i=none→par j=none→i=j

namespace Tr
variable (T:Tr)

variable {T}{A B C D:Nat→Prop}{x y z u c k m:Nat}
end Tr
end Go.Mono
namespace Go.Mono

theorem ay {S:BS}{i:Nat}(h:S.getLsbD i=true):i<1024:=Classical.byContradiction fun hn=>by
 rw[BitVec.getLsbD_of_ge _ _ (by omega)] at h;cases h
theorem bH (S T:BS)(i:Nat):(S &&& ~~~T).getLsbD i=true↔S.getLsbD i=true∧¬T.getLsbD i=true:=by
 rw[BitVec.getLsbD_and,BitVec.getLsbD_not,Bool.and_eq_true,Bool.and_eq_true]
 constructor
 ·rintro⟨h1,_,h2⟩;exact⟨h1,by simpa using h2⟩
 ·rintro⟨h1,h2⟩;exact⟨h1,by simpa using ay h1,by simpa using h2⟩
theorem ed (S T:BS)(i:Nat):(S &&& T).getLsbD i=true↔S.getLsbD i=true∧T.getLsbD i=true:=by
 rw[BitVec.getLsbD_and,Bool.and_eq_true]
theorem ez (S T:BS)(i:Nat):(S ||| T).getLsbD i=true↔S.getLsbD i=true∨T.getLsbD i=true:=by
 rw[BitVec.getLsbD_or,Bool.or_eq_true]
theorem aW (i:Nat):¬(0:BS).getLsbD i=true:=by simp
theorem aX (S:BS){p i:Nat}(hp:p<1024):(ins S (p:Int)).getLsbD i=true↔S.getLsbD i=true∨i=p:=by
 by_cases hi:i<1024
 ·rw[qZ _ _ _ hi,Bool.or_eq_true,decide_eq_true_eq]
  constructor
  ·rintro (h|h)
   ·exact .inl h
   ·exact .inr (by omega)
  ·rintro (h|h)
   ·exact .inl h
   ·exact .inr (by omega)
 ·constructor
  ·intro h;exact absurd (ay h) hi
  ·rintro (h|h)
   ·exact absurd (ay h) hi
   ·omega
theorem bu (S:BS){p i:Nat}(hp:p<1024):(del S (p:Int)).getLsbD i=true↔S.getLsbD i=true∧i≠p:=by
 unfold del
 rw[if_pos (cN.2 (by omega)),bH,Int.toNat_natCast]
 constructor
 ·rintro⟨h1,h2⟩
  refine⟨h1,fun e=>h2 ?_⟩
  rw[iV _ _ hp,e];simp
 ·rintro⟨h1,h2⟩
  refine⟨h1,fun h=>h2 ?_⟩
  rw[iV _ _ hp] at h
  exact of_decide_eq_true h
theorem bT {S T:BS}(h:∀k,S.getLsbD k=true↔T.getLsbD k=true):S=T:=zf fun k _=>h k
theorem gQ (S:BS)(p:Nat):has S (p:Int)=true↔S.getLsbD p=true:=by
 rw[has,Bool.and_eq_true,cN,Int.toNat_natCast]
 exact⟨fun h=>h.2,fun h=>⟨by have:=ay h;omega,h⟩⟩

theorem kR {α:Type}{p q:α→Bool}:∀{l:List α},(∀x∈l,p x=true→q x=true)→l.countP p≤l.countP q
 | [],_=>Nat.le_refl _
 | x::l,h=>by
  have ih:=kR (l:=l) fun y hy=>h y (by simp[hy])
  rw[List.countP_cons,List.countP_cons]
  by_cases hx:p x=true
  ·rw[if_pos hx,if_pos (h x (by simp) hx)];omega
  ·rw[if_neg hx];split <;> omega
theorem sU {α:Type}{p q:α→Bool}{z:α}:∀{l:List α},(∀x∈l,p x=true→q x=true)→z∈l→q z=true→¬p z=true→l.countP p<l.countP q
 | [],_,hz,_,_=>by cases hz
 | x::l,h,hz,h1,h2=>by
  have ih:=kR (p:=p) (q:=q) (l:=l) fun y hy=>h y (by simp[hy])
  rw[List.countP_cons,List.countP_cons]
  rcases List.mem_cons.1 hz with rfl|hz
  ·rw[if_neg h2,if_pos h1];omega
  ·have ih:=sU (l:=l) (fun y hy=>h y (by simp[hy])) hz h1 h2
   by_cases hx:p x=true
   ·rw[if_pos hx,if_pos (h x (by simp) hx)];omega
   ·rw[if_neg hx];split <;> omega
theorem sV {α:Type}{p q r:α→Bool}:∀{l:List α},(∀x∈l,r x=true↔p x=true∨q x=true)→(∀x∈l,¬(p x=true∧q x=true))→l.countP r=l.countP p+l.countP q
 | [],_,_=>rfl
 | x::l,h,hd=>by
  have ih:=sV (l:=l) (p:=p) (q:=q) (r:=r) (fun y hy=>h y (by simp[hy])) fun y hy=>hd y (by simp[hy])
  rw[List.countP_cons,List.countP_cons,List.countP_cons,ih]
  have h1:=h x (by simp)
  have h2:=hd x (by simp)
  by_cases hp:p x=true
  ·have hq:¬q x=true:=fun hq=>h2 ⟨hp,hq⟩
   rw[if_pos hp,if_neg hq,if_pos (h1.2 (.inl hp))];omega
  ·by_cases hq:q x=true
   ·rw[if_neg hp,if_pos hq,if_pos (h1.2 (.inr hq))];omega
   ·rw[if_neg hp,if_neg hq,if_neg (fun hr=>(h1.1 hr).elim hp hq)];omega
theorem nK {S T:BS}(h:∀i,S.getLsbD i=true→T.getLsbD i=true):card S≤card T:=kR fun i _ hi=>h i hi
theorem iu {S T:BS}{z:Nat}(h:∀i,S.getLsbD i=true→T.getLsbD i=true)(h1:T.getLsbD z=true)(h2:¬S.getLsbD z=true):card S<card T:=
 sU (fun i _ hi=>h i hi) (List.mem_range.2 (ay h1)) h1 h2
theorem nL {S T U:BS}(h:∀i,U.getLsbD i=true↔S.getLsbD i=true∨T.getLsbD i=true)(hd:∀i,¬(S.getLsbD i=true∧T.getLsbD i=true)):card U=card S+card T:=
 sV (fun i _=>h i) fun i _=>hd i
theorem eA (S:BS):(elems S).length=card S:=by rw[elems,card,List.countP_eq_length_filter]
theorem gn:card 0=0:=by rw[← eA,qV];rfl
theorem sX (n:Nat):∀m,(List.range m).countP (fun i=>decide (i<n))≤n
 | 0=>by simp
 | m+1=>by
  rw[List.range_succ,List.countP_append]
  have ih:=sX n m
  by_cases h:m<n
  ·have:=List.countP_le_length (p:=fun i=>decide (i<n)) (l:=List.range m)
   rw[List.length_range] at this
   simp[h];omega
  ·simp[h];omega
theorem fE {S:BS}{n:Nat}(h:∀i,S.getLsbD i=true→i<n):card S≤n:=
 Nat.le_trans (kR fun i _ hi=>decide_eq_true (h i hi)) (sX n 1024)
theorem nM {S:BS}{p:Nat}(h:∀i,S.getLsbD i=true↔i=p):card S=1:=by
 have hp:p<1024:=ay ((h p).2 rfl)
 have:∀m,(List.range m).countP (fun i=>S.getLsbD i)=if p<m then 1 else 0:=by
  intro m
  induction m with
  | zero=>simp
  | succ m ih=>
   rw[List.range_succ,List.countP_append,ih]
   by_cases hm:m=p
   ·subst hm
    simp[(h m).2 rfl]
   ·have:¬S.getLsbD m=true:=fun hh=>hm ((h m).1 hh)
    rw[List.countP_singleton,if_neg this]
    split <;> split <;> omega
 rw[card,this,if_pos hp]
theorem jy {S:BS}{p:Nat}(h:S.getLsbD p=true):0<card S:=by
 rw[← eA]
 exact List.length_pos_of_mem (aH.2 ⟨ay h,h⟩)
theorem gp {S:BS}{k:Nat}(h:bj S=some k):S.getLsbD k=true:=(mX.1 h).2.1
end Go.Mono
namespace Go.Mono
open Go Go.Proofs Go.RowKit

def oB (o:Option Nat)(a:BS)(g:Nat→BS):BS:=match o with
 | none=>a
 | some k=>g k
def reF (nb:Int→BS)(th:BS):Nat→BS→BS→BS
 | 0,s,_=>s
 | f+1,s,d=>oB (bj (s &&& th &&& ~~~d)) s fun k=>reF nb th f (s ||| nb (k:Int)) (ins d (k:Int))
def reB (nb:Int→BS)(th:BS)(v:Int):BS:=del (reF nb th 1024 (nb v) 0 &&& ~~~th) v
theorem sY {nb:Int→BS}{th s d:BS}(h:bj (s &&& th &&& ~~~d)=none)(f:Nat):reF nb th f s d=s:=by
 cases f with
 | zero=>rfl
 | succ f=>
  show oB (bj (s &&& th &&& ~~~d)) s _=s
  rw[h];rfl
theorem sZ {nb:Int→BS}{th s d:BS}{k:Nat}(h:bj (s &&& th &&& ~~~d)=some k)(f:Nat):reF nb th (f+1) s d=reF nb th f (s ||| nb (k:Int)) (ins d (k:Int)):=by
 show oB (bj (s &&& th &&& ~~~d)) s _=_
 rw[h];rfl
end Go.Mono
namespace Go.Mono
open Go Go.Proofs Go.RowKit Go.Gr
def lkS (l:List (Int×BS))(i:Int):BS:=((l.find? fun p=>decide (p.1=i)).map (·.2)).getD 0
section
variable {w0:World}{L:Env}{dst:Option Tmp}{ty:TypeId}{pos:String}{aft:Array Edge}{g:Option (Nat×Bool)}{x y:Operand}{t:TypeId}{G:Nat→Prop}{N:Nat}{l:List (Int×BS)}
theorem a1t {n:Nat}{b:Nat}{w:World}(h:MpR sKV w b n l){i:Int}{c:BS}(hc:(i,c)∈l):lkS l i=c:=by
 obtain⟨_,_,_,_,hp⟩:=h
 cases hf:l.find? (fun p=>decide (p.1=i)) with
 | none=>have:=List.find?_eq_none.1 hf _ hc;simp at this
 | some p=>
  have h1:=List.find?_some hf
  have h2:=List.mem_of_find?_eq_some hf
  have h3:p.1=i:=by simpa using h1
  have h4:p=(i,p.2):=by rw[← h3]
  rw[h4] at h2
  rw[lkS,hf]
  exact jl hp h2 hc
theorem a1u {i:Int}(h:∀c,(i,c) ∉ l):lkS l i=0:=by
 have:l.find? (fun p=>decide (p.1=i))=none:=by
  rw[List.find?_eq_none]
  intro p hp hh
  have h3:p.1=i:=by simpa using hh
  exact h p.2 (by rw[← h3];exact hp)
 rw[lkS,this];rfl
theorem lkM {i:Int}(ht:Tryz.prog.underlying t=some (.map sKV.k sKV.e))(hz:∀w,(zeroValue sKV.e).run Tryz.prog w=.ok (ac 0) w)(hx:Is L w0 x (Dv (mpE sKV N) G l))(hy:opd L y=some (E (I i)))(hi:(Lit.int .i64 i).wf=true) :
  OpC Tryz.prog w0 L ⟨dst,.lookup t x y false,ty,pos,aft,g⟩ (E (ac (lkS l i))):=
 aM fun ρ w he' hv=>by
  obtain⟨cs,⟨b,n,h1,_,_,h2⟩,h4⟩:=hx.v he' hv (by simp[Op.operands])
  subst h1
  have h5:ρ x=.map (some b):=h4
  have h6:=opE hv (x:=y) (by simp[Op.operands]) hy
  obtain⟨D,m1,m2,m3,m4,_⟩:=h2.has (x:=i) hi
  obtain⟨v,ps,r1,r2⟩:=m1.lookup sKV.K ht (hz w) (sKV.val 0 trivial) (sKV.key i hi)
  obtain⟨c,_,rfl,hy2⟩:=sKV.valInv _ _ r2
  have hcc:c=lkS l i:=by
   have h8:=congrArg Prod.fst hy2
   simp only at h8
   by_cases hex:∃c',(i,c')∈l
   ·obtain⟨c',hc'⟩:=hex
    rw[m3 c' hc'] at h8
    rw[a1t h2 hc']
    exact (sKV.dvInj _ _ h8).symm
   ·have hno:∀c',(i,c') ∉ l:=fun c' h=>hex ⟨c',h⟩
    rw[m4 hno] at h8
    rw[a1u hno]
    exact (sKV.dvInj _ _ h8).symm
  rw[hcc] at r1
  have r1:(Instr.lookup t (.map (some b)) (I i) false).run Tryz.prog w=.ok (ac (lkS l i)) w:=r1
  exact⟨_,by simp only[execOp,h5,h6,Sem.run_bind,r1,Result.andThen_ok,Sem.run_pure],rfl⟩
end
theorem cG (w:World):(zeroValue 68).run Tryz.prog w=.ok (ac 0) w:=by
 rw[← pY];exact fV I68 w
theorem ta:Tryz.prog.built 68 []=some (au 0):=by rw[← cE];kernel_rfl
theorem tb {G:Nat→Prop}{N:Nat}(l:List (Int×BS))(th:BS)(x:Int)(v:Value)(W:World)(hT:Tab W)(h:(Dv (mpE sKV N) G l).p v W)(hx:(Lit.int .i64 x).wf=true) :
  Calls Tryz.prog 24 #[v,ac th,I x] W (Post (E (ac (reB (lkS l) th x))) W):=by
 refine eN [v,ac th,I x] [Dv (mpE sKV N) (GB W G0) l,E (ac th),E (I x)] Tryz.func24 Tryz.ntmps24 ?_ fun a hf=>?_
 rotate_left
 dsimp only[params,Nat.reduceAdd] at hf
 rotate_right
 ·exact dS (Dv.toB (Dv.weak h fun b _ hb=>hb.elim)) rfl rfl
 have e:=Ext.rfl' W
 refine seq <| ae <| tB hf rfl fun a b4 w v4 hv4 e' hb4 hs4 B4 hf=>?_
 obtain⟨hT,e⟩:=up2 e' hT e
 refine tL I68 hf fun a b6 w e' hb6 hs6 B6 hf=>?_
 obtain⟨hT,e,B4⟩:=up3 e' hT e B4
 refine aa ?_
 cases hv4
 replace B4:Blk w b4 (au th) 68:=B4
 simp only[Value.cells,cE] at B6
 replace hf:=hf.kp [0,2,4,6]
 refine seq <| rgN 4 hf <| st (mv rfl) <| st (mv rfl) <| st (lkM (l:=l) (i:=x) U64 cG (isR rfl) rfl hx) <| st (bK [] rfl ta) <| en fun a w e' hf=>?_
 obtain⟨hT,e,B4,B6⟩:=up4 e' hT e B4 B6
 refine tL I68 hf fun a b7 w e' hb7 hs7 B7 hf=>?_
 have lt7_B6:=B6.lt
 obtain⟨hT,e,B4,B6⟩:=up4 e' hT e B4 B6
 refine tL I68 hf fun a b8 w e' hb8 hs8 B8 hf=>?_
 obtain⟨hT,e,B4,B6,B7⟩:=up5 e' hT e B4 B6 B7
 haveI i6:∀G0,InR (GB W G0) (some b6):=fun G0=>InR.gb (by omega)
 haveI i7:∀G0,InR (GB W G0) (some b7):=fun G0=>InR.gb (by omega)
 haveI i8:∀G0,InR (GB W G0) (some b8):=fun G0=>InR.gb (by omega)
 refine az T68 hf rfl rfl (aP _) B7 rfl (aZ _) fun w hg hsz B7 hf=>?_
 obtain⟨e,hT,B4,B6,B8⟩:=gr5 hg e hT B4 B6 B8
 refine az T68 hf rfl rfl (aP _) B8 rfl (aZ _) fun w hg hsz B8 hf=>?_
 obtain⟨e,hT,B4,B6,B7⟩:=gr5 hg e hT B4 B6 B7
 refine aa ?_
 replace hf:=hf.keep [0,2,4,6,7,8]
 have n4:b4≠b6∧b4≠b7∧b4≠b8∧b6≠b7∧b6≠b8∧b7≠b8:=by omega
 have hc0:card (0:BS)=0:=gn
 obtain⟨K,hK⟩:∃K:Nat,K=1024:=⟨_,rfl⟩
 have hre:reB (lkS l) th x=del (reF (lkS l) th K (lkS l x) 0 &&& ~~~th) x:=by rw[hK,reB]
 refine blk (aJ (fun r0 a w=>∃(s d:BS),K≤r0+card d∧reF (lkS l) th r0 s d=reF (lkS l) th K (lkS l x) 0∧Fr 39 a w [(0,Dv (mpE sKV N) (GB W G0) l),(2,E (I x)),(4,E (.pointer (some ⟨b4,0,none⟩))),(6,E (.pointer (some ⟨b6,0,none⟩))),(7,E (.pointer (some ⟨b7,0,none⟩))),(8,E (.pointer (some ⟨b8,0,none⟩)))]∧Ext W w∧Tab w∧Blk w b4 (au th) 68∧Blk w b6 (au 0) 68∧Blk w b7 (au s) 68∧Blk w b8 (au d) 68) K ⟨lkS l x,0,Nat.le_add_right _ _,rfl,hf,e,hT,B4,B6,B7,B8⟩ ?_)
 rintro r0 a w ⟨s,d,hr0,hR,hf,e,hT,B4,B6,B7,B8⟩
 refine blk ?_
 replace hf:=hf.keep [0,2,4,6,7,8]
 cases hq:bj (s &&& th &&& ~~~d) with
 | none=>
  refine seq <| rgG 11 Mix.mix hf <| st ((ldW T68 rfl B7 rfl).eq ((rfl:_=ac s))) <| st ((ldW T68 rfl B4 rfl).eq ((rfl:_=ac th))) <| st (ar (A:=E (ac (s &&& th))) fj rfl rfl (fun v u w he h h'=>by cases h;cases h';exact fw s th w)) ?_
  refine st ((ldW T68 rfl B8 rfl).eq ((rfl:_=ac d))) <| st (ar (A:=E (ac (s &&& th &&& ~~~d))) cX rfl rfl (fun v u w he h h'=>by cases h;cases h';exact db (s &&& th) d w)) ?_
  refine st (an (A:=ge (s &&& th &&& ~~~d)) fh rfl (fun v w he h=>by cases h;exact fx _ w (hT.ext he))) ?_
  refine st (mv rfl) <| st (aO rfl rfl) <| st (aO rfl rfl) <| st (asg rfl) <| st (asg rfl) <| en fun a w e' hf=>?_
  obtain⟨hT,e,B4,B6,B7,B8⟩:=up6 e' hT e B4 B6 B7 B8
  refine aa ?_
  rw[hq] at hf
  replace hf:=hf.kp [0,2,4,6,7,8,9,10]
  repeat refine seq ?_
  refine rgN 2 hf <| st (mv rfl) <| st ((bA rfl).eq (congrArg Value.bool (show (!(none:Option Nat).isSome)=true from rfl))) <| en fun a w e' hf=>?_
  obtain⟨hT,e,B4,B6,B7,B8⟩:=up6 e' hT e B4 B6 B7 B8
  refine aa <| ifc hf rfl (fun _=>?_) (fun h=>by cases h)
  refine seq <| rgN 5 hf <| st ((ldW T68 rfl B7 rfl).eq ((rfl:_=ac s))) <| st ((ldW T68 rfl B4 rfl).eq ((rfl:_=ac th))) <| st (ar (A:=E (ac (s &&& ~~~th))) cX rfl rfl (fun v u w he h h'=>by cases h;cases h';exact db s th w)) ?_
  refine st (mv rfl) <| st (ar (A:=E (ac (del (s &&& ~~~th) x))) fi rfl rfl (fun v u w he h h'=>by cases h;cases h';exact fq (s &&& ~~~th) x w)) ?_
  refine en fun a w e' hf=>?_
  obtain⟨hT,e,B4,B6,B7,B8⟩:=up6 e' hT e B4 B6 B7 B8
  refine az T68 hf rfl rfl (aP _) B6 rfl (aZ _) fun w hg hsz B6 hf=>?_
  replace e:=e.gr hg (by omega);clear hg
  refine aa <| ai <| dP rfl T68 hf rfl B6 (aZ _) <| ⟨_,rfl,e,by rw[hre,← hR,sY hq];rfl⟩
 | some k=>
  have hkb:=gp hq
  have hk:k<1024:=ay hkb
  have hkd:¬d.getLsbD k=true:=fun h=>by
   rw[BitVec.getLsbD_and,BitVec.getLsbD_not,h] at hkb
   simp at hkb
  have hlt:card d<card (ins d (k:Int)):=iu (z:=k) (fun i hi=>(aX d hk).2 (.inl hi)) ((aX d hk).2 (.inr rfl)) hkd
  have hle:card (ins d (k:Int))≤K:=by rw[hK];exact fE fun i hi=>ay hi
  obtain⟨f,rfl⟩:∃f,r0=f+1:=⟨r0 - 1,by omega⟩
  have hst:=sZ (nb:=lkS l) hq f
  rw[hst] at hR
  have hwk:(Lit.int .i64 (k:Int)).wf=true:=bh (by omega) (by omega)
  refine seq <| rgG 11 Mix.mix hf <| st ((ldW T68 rfl B7 rfl).eq ((rfl:_=ac s))) <| st ((ldW T68 rfl B4 rfl).eq ((rfl:_=ac th))) <| st (ar (A:=E (ac (s &&& th))) fj rfl rfl (fun v u w he h h'=>by cases h;cases h';exact fw s th w)) ?_
  refine st ((ldW T68 rfl B8 rfl).eq ((rfl:_=ac d))) <| st (ar (A:=E (ac (s &&& th &&& ~~~d))) cX rfl rfl (fun v u w he h h'=>by cases h;cases h';exact db (s &&& th) d w)) ?_
  refine st (an (A:=ge (s &&& th &&& ~~~d)) fh rfl (fun v w he h=>by cases h;exact fx _ w (hT.ext he))) ?_
  refine st (mv rfl) <| st (aO rfl rfl) <| st (aO rfl rfl) <| st (asg rfl) <| st (asg rfl) <| en fun a w e' hf=>?_
  obtain⟨hT,e,B4,B6,B7,B8⟩:=up6 e' hT e B4 B6 B7 B8
  refine aa ?_
  rw[hq] at hf
  replace hf:=hf.upd 9 rfl (B:=E (I (k:Int))) (fun v h=>h)
  replace hf:=hf.keep [0,2,4,6,7,8,9,10]
  repeat refine seq ?_
  refine rgN 2 hf <| st (mv rfl) <| st ((bA rfl).eq (congrArg Value.bool (show (!(some k).isSome)=false from rfl))) <| en fun a w e' hf=>?_
  obtain⟨hT,e,B4,B6,B7,B8⟩:=up6 e' hT e B4 B6 B7 B8
  refine aa <| ifc hf rfl (fun h=>by cases h) (fun _=>?_)
  refine ak ?_
  replace hf:=hf.kp [0,2,4,6,7,8,9]
  refine seq <| rgN 3 hf <| st ((ldW T68 rfl B8 rfl).eq ((rfl:_=ac d))) <| st (mv rfl) <| st (ar (A:=E (ac (ins d (k:Int)))) dr rfl rfl (fun v u w he h h'=>by cases h;cases h';exact du d (k:Int) w)) ?_
  refine en fun a w e' hf=>?_
  obtain⟨hT,e,B4,B6,B7,B8⟩:=up6 e' hT e B4 B6 B7 B8
  refine az T68 hf rfl rfl (aP _) B8 rfl (aZ _) fun w hg hsz B8 hf=>?_
  obtain⟨e,hT,B4,B6,B7⟩:=gr5 hg e hT B4 B6 B7
  refine aa ?_
  replace hf:=hf.kp [0,2,4,6,7,8,9]
  refine rgN 5 hf <| st ((ldW T68 rfl B7 rfl).eq ((rfl:_=ac s))) <| st (mv rfl) <| st (mv rfl) <| st (lkM (l:=l) (i:=(k:Int)) U64 cG (isR rfl) rfl hwk) <| st (ar (A:=E (ac (s ||| lkS l (k:Int)))) fO rfl rfl (fun v u w he h h'=>by cases h;cases h';exact fZ s _ w)) ?_
  refine en fun a w e' hf=>?_
  obtain⟨hT,e,B4,B6,B7,B8⟩:=up6 e' hT e B4 B6 B7 B8
  refine az T68 hf rfl rfl (aP _) B7 rfl (aZ _) fun w hg hsz B7 hf=>?_
  obtain⟨e,hT,B4,B6,B8⟩:=gr5 hg e hT B4 B6 B8
  refine aa ?_
  replace hf:=hf.kp [0,2,4,6,7,8]
  exact⟨f,by omega,s ||| lkS l (k:Int),ins d (k:Int),by omega,hR,hf,e,hT,B4,B6,B7,B8⟩
end Go.Mono
namespace Go.Mono
open Go Go.Proofs Go.RowKit
inductive Via (nb:Int→BS)(th:BS)(v:Nat):Nat→Prop
 | one {u:Nat}:(nb (v:Int)).getLsbD u=true→Via nb th v u
 | step {t u:Nat}:Via nb th v t→th.getLsbD t=true→(nb (t:Int)).getLsbD u=true→Via nb th v u
section
variable {nb:Int→BS}{S T th:BS}{a b t u v x:Nat}
theorem a1v:∀(f:Nat) (s d:BS),1024≤f+card d→(∀u,s.getLsbD u=true→Via nb th v u)→(∀u,(nb (v:Int)).getLsbD u=true→s.getLsbD u=true) →
  (∀t,d.getLsbD t=true→∀u,(nb (t:Int)).getLsbD u=true→s.getLsbD u=true)→∀u,(reF nb th f s d).getLsbD u=true↔Via nb th v u:=by
 intro f
 induction f with
 | zero=>
  intro s d hc h1 h2 h3 u
  have hall:∀t,t<1024→d.getLsbD t=true:=fun t ht=>Classical.byContradiction fun hn=>by
   have h4:=iu (S:=d) (T:=ins d (t:Int)) (z:=t) (fun i hi=>(aX d ht).2 (.inl hi)) ((aX d ht).2 (.inr rfl)) hn
   have h5:card (ins d (t:Int))≤1024:=fE fun i hi=>ay hi
   omega
  refine⟨h1 u,fun h=>?_⟩
  induction h with
  | one h=>exact h2 _ h
  | step _ ht hu ih=>exact h3 _ (hall _ (ay ht)) _ hu
 | succ f ih=>
  intro s d hc h1 h2 h3 u
  cases hq:bj (s &&& th &&& ~~~d) with
  | none=>
   rw[sY hq]
   refine⟨h1 u,fun h=>?_⟩
   induction h with
   | one h=>exact h2 _ h
   | @step t u _ ht hu ih=>
    have hz:=jg.1 hq
    have hd:d.getLsbD t=true:=Classical.byContradiction fun hn=>by
     have h5:(s &&& th &&& ~~~d).getLsbD t=true:=(bH _ _ _).2 ⟨(ed _ _ _).2 ⟨ih,ht⟩,hn⟩
     rw[hz] at h5;exact aW _ h5
    exact h3 _ hd _ hu
  | some k=>
   have hkb:=(bH _ _ _).1 (gp hq)
   have hst:=(ed _ _ _).1 hkb.1
   have hk:=ay hst.1
   rw[sZ hq]
   refine ih _ _ ?_ ?_ ?_ ?_ u
   ·have:=iu (S:=d) (T:=ins d (k:Int)) (z:=k) (fun i hi=>(aX d hk).2 (.inl hi)) ((aX d hk).2 (.inr rfl)) hkb.2
    omega
   ·intro u hu
    rcases (ez _ _ _).1 hu with h|h
    ·exact h1 u h
    ·exact .step (h1 k hst.1) hst.2 h
   ·exact fun u hu=>(ez _ _ _).2 (.inl (h2 u hu))
   ·intro t ht u hu
    rcases (aX d hk).1 ht with h|rfl
    ·exact (ez _ _ _).2 (.inl (h3 t h u hu))
    ·exact (ez _ _ _).2 (.inr hu)
theorem ee (hv:v<1024):(reB nb th (v:Int)).getLsbD u=true↔Via nb th v u∧¬th.getLsbD u=true∧u≠v:=by
 rw[reB,bu _ hv,bH,a1v 1024 (nb v) 0 (Nat.le_add_right _ _) (fun u h=>.one h) (fun u h=>h) (fun t h=>absurd h (aW t))]
 exact and_assoc
theorem Via.mono (h:Via nb S a b)(hs:∀i,S.getLsbD i=true→T.getLsbD i=true):Via nb T a b:=by
 induction h with
 | one h=>exact .one h
 | step _ ht hu ih=>exact .step ih (hs _ ht) hu
theorem Via.cat (h:Via nb S a t)(ht:S.getLsbD t=true)(k:Via nb S t b):Via nb S a b:=by
 induction k with
 | one k=>exact .step h ht k
 | step _ h1 h2 ih=>exact .step ih h1 h2
theorem Via.symm (hs:∀i j:Nat,(nb (i:Int)).getLsbD j=true→(nb (j:Int)).getLsbD i=true)(h:Via nb S a b):Via nb S b a:=by
 induction h with
 | one h=>exact .one (hs _ _ h)
 | step _ ht hu ih=>exact Via.cat (.one (hs _ _ hu)) ht ih
theorem Via.ins (hx:x<1024):Via nb (Mono.ins S (x:Int)) a b↔Via nb S a b∨(Via nb S a x∧Via nb S x b):=by
 constructor
 ·intro h
  induction h with
  | one h=>exact .inl (.one h)
  | @step t u _ ht hu ih=>
   rcases (aX S hx).1 ht with hS|rfl
   ·rcases ih with h|⟨h1,h2⟩
    ·exact .inl (.step h hS hu)
    ·exact .inr ⟨h1,.step h2 hS hu⟩
   ·rcases ih with h|⟨h1,_⟩
    ·exact .inr ⟨h,.one hu⟩
    ·exact .inr ⟨h1,.one hu⟩
 ·have hm:∀i,S.getLsbD i=true→(Mono.ins S (x:Int)).getLsbD i=true:=fun i hi=>(aX S hx).2 (.inl hi)
  rintro (h|⟨h1,h2⟩)
  ·exact h.mono hm
  ·exact (h1.mono hm).cat ((aX S hx).2 (.inr rfl)) (h2.mono hm)
theorem Via.inn {V:BS}(hV:∀i j:Nat,(nb (i:Int)).getLsbD j=true→V.getLsbD j=true)(h:Via nb S a b):V.getLsbD b=true:=by
 cases h with
 | one h=>exact hV _ _ h
 | step _ _ hu=>exact hV _ _ hu
end
def rn (nb:Int→BS)(S:BS)(v:Nat):Int:=(card (reB nb S (v:Int)):Nat)
def bi (nb:Int→BS):BS→List Nat→Int
 | _,[] => -1
 | S,v::r=>max (rn nb S v) (bi nb (ins S (v:Int)) r)
def rsS (nb:Int→BS)(R:BS→Int)(S:BS)(best:Int)(v:Nat):Int:=if rn nb S v<best then min best (max (rn nb S v) (R (ins S (v:Int)))) else best
def rsF (nb:Int→BS)(all:BS):Nat→BS→Int
 | 0,_ => -1
 | f+1,S=>(elems (all &&& ~~~S)).foldl (rsS nb (rsF nb all f) S) 12
def rsR (nb:Int→BS)(all S:BS):Int:=rsF nb all (card (all &&& ~~~S)) S
section
variable {nb:Int→BS}{all S:BS}{v:Nat}
theorem iv (hv:v<1024)(i:Nat):(all &&& ~~~(ins S (v:Int))).getLsbD i=true↔(all &&& ~~~S).getLsbD i=true∧i≠v:=by
 rw[bH,bH,aX S hv]
 exact⟨fun⟨h1,h2⟩=>⟨⟨h1,fun h=>h2 (.inl h)⟩,fun h=>h2 (.inr h)⟩,fun⟨⟨h1,h2⟩,h3⟩=>⟨h1,fun h=>h.elim h2 h3⟩⟩
theorem gq (hv:(all &&& ~~~S).getLsbD v=true):card (all &&& ~~~S)=card (all &&& ~~~(ins S (v:Int)))+1:=by
 have hv':=ay hv
 have h1:card (ins (0:BS) (v:Int))=1:=nM (p:=v) fun i=>by
  rw[aX 0 hv'];exact⟨fun h=>h.elim (fun h=>absurd h (aW i)) id,.inr⟩
 rw[nL (S:=all &&& ~~~(ins S (v:Int))) (T:=ins 0 (v:Int)) (U:=all &&& ~~~S),h1]
 ·intro i
  rw[iv hv',aX 0 hv']
  constructor
  ·intro h
   by_cases hi:i=v
   ·exact .inr (.inr hi)
   ·exact .inl ⟨h,hi⟩
  ·rintro (h|h|rfl)
   ·exact h.1
   ·exact absurd h (aW i)
   ·exact hv
 ·rintro i ⟨h1,h2⟩
  rw[iv hv'] at h1
  rw[aX 0 hv'] at h2
  rcases h2 with h|h
  ·exact aW i h
  ·exact h1.2 h
theorem tc {α β:Type}{f g:β→α→β}:∀{l:List α} {z:β},(∀a∈l,∀b,f b a=g b a)→l.foldl f z=l.foldl g z
 | [],_,_=>rfl
 | a::l,z,h=>by rw[List.foldl_cons,List.foldl_cons,h a (by simp),tc fun a ha=>h a (by simp[ha])]
theorem jz (hv:(all &&& ~~~S).getLsbD v=true):rsR nb all S=(elems (all &&& ~~~S)).foldl (rsS nb (rsR nb all) S) 12:=by
 unfold rsR
 rw[gq hv,rsF]
 refine tc fun a ha b=>?_
 have ha:=(aH.1 ha).2
 have h1:=gq hv
 have h2:=gq ha
 unfold rsS
 rw[show card (all &&& ~~~(ins S (v:Int)))=card (all &&& ~~~(ins S (a:Int))) by omega]
theorem kS (h:∀i,¬(all &&& ~~~S).getLsbD i=true):rsR nb all S = -1:=by
 have:card (all &&& ~~~S)=0:=Classical.byContradiction fun hn=>by
  have:=gn
  have h0:(all &&& ~~~S)=0:=bT fun k=>⟨fun hk=>absurd hk (h k),fun hk=>absurd hk (aW k)⟩
  rw[h0] at hn;exact hn this
 rw[rsR,this];rfl
theorem a1w {R:BS→Int}{b:Int}:rsS nb R S b v≤b∧rsS nb R S b v≤max (rn nb S v) (R (ins S (v:Int))):=by
 unfold rsS;split <;> omega
theorem a1x {R:BS→Int}{b:Int}:rsS nb R S b v=b∨rsS nb R S b v=max (rn nb S v) (R (ins S (v:Int))):=by
 unfold rsS;split <;> omega
theorem nN {R:BS→Int}:∀(l:List Nat) (b:Int),l.foldl (rsS nb R S) b≤b∧∀v∈l,l.foldl (rsS nb R S) b≤max (rn nb S v) (R (ins S (v:Int)))
 | [],b=>⟨Int.le_refl _,fun v hv=>by cases hv⟩
 | x::l,b=>by
  obtain⟨h1,h2⟩:=nN (R:=R) l (rsS nb R S b x)
  have h3:=a1w (nb:=nb) (S:=S) (v:=x) (R:=R) (b:=b)
  rw[List.foldl_cons]
  refine⟨by omega,fun v hv=>?_⟩
  rcases List.mem_cons.1 hv with rfl|hv
  ·omega
  ·exact h2 v hv
theorem nO {R:BS→Int}:∀(l:List Nat) (b:Int),l.foldl (rsS nb R S) b=b∨∃v∈l,l.foldl (rsS nb R S) b=max (rn nb S v) (R (ins S (v:Int)))
 | [],b=>.inl rfl
 | x::l,b=>by
  rw[List.foldl_cons]
  rcases nO (R:=R) l (rsS nb R S b x) with h|⟨v,hv,h⟩
  ·rw[h]
   rcases a1x (nb:=nb) (S:=S) (v:=x) (R:=R) (b:=b) with h'|h'
   ·exact .inl h'
   ·exact .inr ⟨x,by simp,h'⟩
  ·exact .inr ⟨v,by simp[hv],h⟩
theorem td (hv:(all &&& ~~~S).getLsbD v=true):rsR nb all S≤max (rn nb S v) (rsR nb all (ins S (v:Int))):=by
 rw[jz hv]
 exact (nN _ _).2 v (aH.2 ⟨ay hv,hv⟩)
theorem kT (S:BS) : -1≤rsR nb all S∧rsR nb all S≤12:=by
 by_cases hex:∃v,(all &&& ~~~S).getLsbD v=true
 ·obtain⟨v,hv⟩:=hex
  rw[jz hv]
  have h1:=(nN (nb:=nb) (S:=S) (R:=rsR nb all) (elems (all &&& ~~~S)) 12).1
  rcases nO (nb:=nb) (S:=S) (R:=rsR nb all) (elems (all &&& ~~~S)) 12 with h|⟨u,_,h⟩
  ·omega
  ·have:0≤rn nb S u:=by unfold rn;omega
   omega
 ·rw[kS fun i hi=>hex ⟨i,hi⟩];omega
def Sml (nb:Int→BS)(all:BS):Prop:=∀(S:BS) (v:Nat),all.getLsbD v=true→rn nb S v<12
theorem a1y {V:BS}(hV:∀i j:Nat,(nb (i:Int)).getLsbD j=true→V.getLsbD j=true)(hc:card V≤12)(ha:∀i,all.getLsbD i=true→V.getLsbD i=true):Sml nb all:=fun S v hv=>by
 have hv':=ay hv
 have h1:card (reB nb S (v:Int))<card V:=iu (z:=v) (fun i hi=>((ee hv').1 hi).1.inn hV) (ha v hv) fun h=>((ee hv').1 h).2.2 rfl
 unfold rn;omega
theorem a1z (hs:Sml nb all):∀(n:Nat) (S:BS),card (all &&& ~~~S)=n→rsR nb all S<12 ∧ -1≤rsR nb all S∧∀v,(all &&& ~~~S).getLsbD v=true→∃v,(all &&& ~~~S).getLsbD v=true∧rsR nb all S=max (rn nb S v) (rsR nb all (ins S (v:Int))):=by
 intro n
 induction n with
 | zero=>
  intro S hc
  have hno:∀i,¬(all &&& ~~~S).getLsbD i=true:=fun i hi=>by have:=jy hi;omega
  rw[kS hno]
  exact⟨by omega,by omega,fun v hv=>absurd hv (hno v)⟩
 | succ n ih=>
  intro S hc
  have hex:∃v,(all &&& ~~~S).getLsbD v=true:=Classical.byContradiction fun hn=>by
   have h0:(all &&& ~~~S)=0:=bT fun k=>⟨fun hk=>absurd ⟨k,hk⟩ hn,fun hk=>absurd hk (aW k)⟩
   rw[h0,gn] at hc;cases hc
  obtain⟨v,hv⟩:=hex
  have lt:∀v,(all &&& ~~~S).getLsbD v=true→max (rn nb S v) (rsR nb all (ins S (v:Int)))<12:=fun v hv=>by
   have h1:=hs S v ((bH _ _ _).1 hv).1
   have h2:=(ih (ins S (v:Int)) (by have:=gq hv;omega)).1
   omega
  have hm:rsR nb all S<12:=by have:=td (nb:=nb) hv;have:=lt v hv;omega
  have hw:∃v,(all &&& ~~~S).getLsbD v=true∧rsR nb all S=max (rn nb S v) (rsR nb all (ins S (v:Int))):=by
   rcases nO (nb:=nb) (S:=S) (R:=rsR nb all) (elems (all &&& ~~~S)) 12 with h|⟨u,hu,h⟩
   ·rw[← jz hv] at h;omega
   ·rw[← jz hv] at h;exact⟨u,(aH.1 hu).2,h⟩
  refine⟨hm,?_,fun _ _=>hw⟩
  obtain⟨u,_,h⟩:=hw
  have:0≤rn nb S u:=by unfold rn;omega
  omega
theorem nP:∀(l:List Nat) (S:BS),l.Nodup→(∀i,i∈l↔(all &&& ~~~S).getLsbD i=true)→rsR nb all S≤bi nb S l
 | [],S,_,h=>by rw[kS fun i hi=>by have:=(h i).2 hi;cases this];exact Int.le_refl _
 | v::r,S,hn,h=>by
  have hv:=(h v).1 (by simp)
  have hv':=ay hv
  obtain⟨h1,h2⟩:=List.nodup_cons.1 hn
  have h3:=nP r (ins S (v:Int)) h2 fun i=>by
   rw[iv hv',← h i,List.mem_cons]
   constructor
   ·intro hi;exact⟨.inr hi,fun e=>h1 (e▸hi)⟩
   ·rintro⟨rfl|hi,hne⟩
    ·exact absurd rfl hne
    ·exact hi
  have h4:=td (nb:=nb) hv
  rw[bi];omega
def nxt (nb:Int→BS)(all:BS)(W:Int)(S:BS):Option Nat:=(elems (all &&& ~~~S)).find? fun v=>decide (max (rn nb S v) (rsR nb all (ins S (v:Int)))≤W)
def oL (o:Option Nat)(g:Nat→List Nat):List Nat:=match o with
 | none=>[]
 | some k=>g k
def grF (nb:Int→BS)(all:BS)(W:Int):Nat→BS→List Nat
 | 0,_=>[]
 | f+1,S=>oL (nxt nb all W S) fun v=>v::grF nb all W f (ins S (v:Int))
theorem a1A {W:Int}{f:Nat}(h:nxt nb all W S=none):grF nb all W (f+1) S=[]:=by
 show oL (nxt nb all W S) _=_
 rw[h];rfl
theorem nQ {W:Int}{f v:Nat}(h:nxt nb all W S=some v):grF nb all W (f+1) S=v::grF nb all W f (ins S (v:Int)):=by
 show oL (nxt nb all W S) _=_
 rw[h];rfl
theorem nR {W:Int}{v:Nat}(h:nxt nb all W S=some v):(all &&& ~~~S).getLsbD v=true∧rn nb S v≤W∧rsR nb all (ins S (v:Int))≤W:=by
 have h1:=List.find?_some h
 have h2:=List.mem_of_find?_eq_some h
 simp only[decide_eq_true_eq] at h1
 exact⟨(aH.1 h2).2,by omega,by omega⟩
theorem tf {W:Int}(hs:Sml nb all)(hW:rsR nb all S≤W){u:Nat}(hu:(all &&& ~~~S).getLsbD u=true):∃v,nxt nb all W S=some v:=by
 obtain⟨v,hv,h⟩:=(a1z hs _ S rfl).2.2 u hu
 cases hq:nxt nb all W S with
 | some v=>exact⟨v,rfl⟩
 | none=>
  have:=List.find?_eq_none.1 hq v (aH.2 ⟨ay hv,hv⟩)
  simp only[decide_eq_true_eq] at this
  omega
theorem a1B {W:Int}(hs:Sml nb all)(hW0 : -1≤W):∀(f:Nat) (S:BS),card (all &&& ~~~S)=f→rsR nb all S≤W →
  (grF nb all W f S).Nodup∧(∀i,i∈grF nb all W f S↔(all &&& ~~~S).getLsbD i=true)∧bi nb S (grF nb all W f S)≤W:=by
 intro f
 induction f with
 | zero=>
  intro S hc hW
  have hno:∀i,¬(all &&& ~~~S).getLsbD i=true:=fun i hi=>by have:=jy hi;omega
  exact⟨List.nodup_nil,fun i=>⟨fun h=>(nomatch h),fun h=>absurd h (hno i)⟩,hW0⟩
 | succ f ih=>
  intro S hc hW
  have hex:∃v,(all &&& ~~~S).getLsbD v=true:=Classical.byContradiction fun hn=>by
   have h0:(all &&& ~~~S)=0:=bT fun k=>⟨fun hk=>absurd ⟨k,hk⟩ hn,fun hk=>absurd hk (aW k)⟩
   rw[h0,gn] at hc;cases hc
  obtain⟨u,hu⟩:=hex
  obtain⟨v,hv⟩:=tf hs hW hu
  obtain⟨h1,h2,h3⟩:=nR hv
  have hv':=ay h1
  have hcd:=gq h1
  obtain⟨k1,k2,k3⟩:=ih (ins S (v:Int)) (by omega) h3
  rw[nQ hv]
  refine⟨List.nodup_cons.2 ⟨fun h=>((iv hv' v).1 ((k2 v).1 h)).2 rfl,k1⟩,fun i=>?_,?_⟩
  ·rw[List.mem_cons,k2 i,iv hv']
   constructor
   ·rintro (rfl|h)
    ·exact h1
    ·exact h.1
   ·intro h
    by_cases hi:i=v
    ·exact .inl hi
    ·exact .inr ⟨h,hi⟩
  ·rw[bi];omega
end
end Go.Mono
