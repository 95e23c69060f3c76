/-
  Walks of functions and plain facts.
  No condition.
-/
import Derived.Test.YtbjangoghokneaaGreatDoorProg
import Derived.Test.YtbjangoghokneaaGreatDoorNA
import Derived.KernelRfl
import Derived.RangeFuncRecord
import Derived.Maps.Range
import Derived.DeepKeys4
set_option linter.unusedVariables false
set_option linter.unusedSimpArgs false
namespace Go.Mono
open Go Go.Proofs
abbrev If (t:TypeId)(z:Value)(s b:Nat):Prop:=(Tryz.prog.info? t).map (fun i=>(i.zero,i.size,i.bytes))=some (some z,s,b)
abbrev Nn (f:FuncId):Prop:=Proofs.Enters Tryz.prog f
theorem Ee {i:FuncId} {f:Func} {c:Code} (h:Tryz.prog.funcs[i]?=some f) (h2:(f.name == "runtime.NumGoroutine")=false:=by kernel_rfl) (h3:f.body=some c:=by rfl):Nn i:=enters_of h h2 h3
theorem Mix.mix:Tryz.prog.follows .mixedOrders=true:=by kernel_rfl
theorem T3:TI Tryz.prog 3 false 1:=ti (by decide +kernel)
theorem I3:If 3 (.int .i64 0) 1 8:=by unfold If;kernel_rfl
theorem T4:TI Tryz.prog 4 false 1:=ti (by decide +kernel)
theorem I4:If 4 (.bool false) 1 1:=by unfold If;kernel_rfl
theorem T5:TI Tryz.prog 5 false 1:=ti (by decide +kernel)
theorem T22:TI Tryz.prog 22 false 1:=ti (by decide +kernel)
theorem T23:TI Tryz.prog 23 false 1:=ti (by decide +kernel)
theorem T25:TI Tryz.prog 25 true 2:=ti (by decide +kernel)
theorem I25:If 25 (.agg #[.slice none 0 0,.slice none 0 0]) 2 48:=by unfold If;kernel_rfl
theorem T26:TI Tryz.prog 26 false 1:=ti (by decide +kernel)
theorem T29:TI Tryz.prog 29 false 1:=ti (by decide +kernel)
theorem T35:TI Tryz.prog 35 false 1:=ti (by decide +kernel)
theorem I35:If 35 (.slice none 0 0) 1 24:=by unfold If;kernel_rfl
theorem T39:TI Tryz.prog 39 false 1:=ti (by decide +kernel)
theorem I39:If 39 (.slice none 0 0) 1 24:=by unfold If;kernel_rfl
theorem T43:TI Tryz.prog 43 false 1:=ti (by decide +kernel)
theorem I43:If 43 (.map none) 1 8:=by unfold If;kernel_rfl
theorem T45:TI Tryz.prog 45 true 3:=ti (by decide +kernel)
theorem I45:If 45 (.agg #[.int .i64 0,.int .u8 0,.int .i64 0]) 3 24:=by unfold If;kernel_rfl
theorem T51:TI Tryz.prog 51 true 4:=ti (by decide +kernel)
theorem I51:If 51 (.agg #[.int .i64 0,.int .i64 0,.int .u8 0,.int .i64 0]) 4 32:=by unfold If;kernel_rfl
theorem T60:TI Tryz.prog 60 true 2:=ti (by decide +kernel)
theorem I60:If 60 (.agg #[.int .i64 0,.int .i64 0]) 2 16:=by unfold If;kernel_rfl
theorem T62:TI Tryz.prog 62 true 4:=ti (by decide +kernel)
theorem I62:If 62 (.agg #[.int .i64 0,.int .i64 0,.int .u8 0,.int .i64 0]) 4 32:=by unfold If;kernel_rfl
theorem T63:TI Tryz.prog 63 false 1:=ti (by decide +kernel)
theorem T73:TI Tryz.prog 73 true 3:=ti (by decide +kernel)
theorem I73:If 73 (.agg #[.int .i64 0,.int .u8 0,.int .i64 0]) 3 24:=by unfold If;kernel_rfl
theorem T74:TI Tryz.prog 74 false 1:=ti (by decide +kernel)
theorem T76:TI Tryz.prog 76 true 16:=ti (by decide +kernel)
theorem I76:If 76 (.agg #[.int .u64 0,.int .u64 0,.int .u64 0,.int .u64 0,.int .u64 0,.int .u64 0,.int .u64 0,.int .u64 0,.int .u64 0,.int .u64 0,.int .u64 0,.int .u64 0,.int .u64 0,.int .u64 0,.int .u64 0,.int .u64 0]) 16 128:=by unfold If;kernel_rfl
theorem T77:TI Tryz.prog 77 false 1:=ti (by decide +kernel)
theorem T79:TI Tryz.prog 79 true 17:=ti (by decide +kernel)
theorem I79:If 79 (.agg #[.int .u64 0,.int .u64 0,.int .u64 0,.int .u64 0,.int .u64 0,.int .u64 0,.int .u64 0,.int .u64 0,.int .u64 0,.int .u64 0,.int .u64 0,.int .u64 0,.int .u64 0,.int .u64 0,.int .u64 0,.int .u64 0,.map none]) 17 136:=by unfold If;kernel_rfl
theorem T83:TI Tryz.prog 83 false 1:=ti (by decide +kernel)
theorem I83:If 83 (.slice none 0 0) 1 24:=by unfold If;kernel_rfl
theorem T95:TI Tryz.prog 95 false 1:=ti (by decide +kernel)
theorem I95:If 95 (.nilFunc) 1 8:=by unfold If;kernel_rfl
theorem lL:TI Tryz.prog 100 false 1:=ti (by decide +kernel)
theorem vR:If 100 (.nilFunc) 1 8:=by unfold If;kernel_rfl
theorem lM:TI Tryz.prog 126 true 5:=ti (by decide +kernel)
theorem fg:TI Tryz.prog 127 false 1:=ti (by decide +kernel)
theorem fh:TI Tryz.prog 128 false 1:=ti (by decide +kernel)
theorem iw:TI Tryz.prog 132 true 2:=ti (by decide +kernel)
theorem fj:If 132 (.agg #[.int .u8 0,.int .i64 0]) 2 16:=by unfold If;kernel_rfl
theorem lO:TI Tryz.prog 139 true 2:=ti (by decide +kernel)
theorem pi:If 139 (.agg #[.int .i64 0,.int .i64 0]) 2 16:=by unfold If;kernel_rfl
theorem gF:TI Tryz.prog 143 true 5:=ti (by decide +kernel)
theorem pj:TI Tryz.prog 160 false 1:=ti (by decide +kernel)
theorem pk:TI Tryz.prog 161 true 8:=ti (by decide +kernel)
theorem vS:If 161 (.agg #[.nilFunc,.nilFunc,.nilFunc,.nilFunc,.nilFunc,.nilFunc,.nilFunc,.nilFunc]) 8 64:=by unfold If;kernel_rfl
theorem pp:TI Tryz.prog 187 true 2:=ti (by decide +kernel)
theorem pq:If 187 (.agg #[.nilFunc,.int .i64 0]) 2 16:=by unfold If;kernel_rfl
theorem S3:(Tryz.prog.info? 3).map (·.size)=some 1:=by kernel_rfl
theorem S4:(Tryz.prog.info? 4).map (·.size)=some 1:=by kernel_rfl
theorem S5:(Tryz.prog.info? 5).map (·.size)=some 1:=by kernel_rfl
theorem S9:(Tryz.prog.info? 9).map (·.size)=some 1:=by kernel_rfl
theorem S35:(Tryz.prog.info? 35).map (·.size)=some 1:=by kernel_rfl
theorem S45:(Tryz.prog.info? 45).map (·.size)=some 3:=by kernel_rfl
theorem S51:(Tryz.prog.info? 51).map (·.size)=some 4:=by kernel_rfl
theorem S60:(Tryz.prog.info? 60).map (·.size)=some 2:=by kernel_rfl
theorem S62:(Tryz.prog.info? 62).map (·.size)=some 4:=by kernel_rfl
theorem S73:(Tryz.prog.info? 73).map (·.size)=some 3:=by kernel_rfl
theorem S76:(Tryz.prog.info? 76).map (·.size)=some 16:=by kernel_rfl
theorem vT:(Tryz.prog.info? 187).map (·.size)=some 2:=by kernel_rfl
theorem vU:Tryz.prog.built 76 []=some (#[.int .u64 0,.int .u64 0,.int .u64 0,.int .u64 0,.int .u64 0,.int .u64 0,.int .u64 0,.int .u64 0,.int .u64 0,.int .u64 0,.int .u64 0,.int .u64 0,.int .u64 0,.int .u64 0,.int .u64 0,.int .u64 0]):=by kernel_rfl
theorem vV:Nn 11:=Ee Tryz.func11
theorem px:Nn 12:=Ee Tryz.func12
theorem vW:Nn 13:=Ee Tryz.func13
theorem vX:Nn 14:=Ee Tryz.func14
theorem ix:Nn 16:=Ee Tryz.func16
theorem py:Nn 17:=Ee Tryz.func17
theorem pz:Nn 19:=Ee Tryz.func19
theorem lP:Nn 20:=Ee Tryz.func20
theorem vY:Nn 21:=Ee Tryz.func21
theorem pA:Nn 22:=Ee Tryz.func22
theorem vZ:Nn 23:=Ee Tryz.func23
theorem wa:Nn 25:=Ee Tryz.func25
theorem wb:Nn 30:=Ee Tryz.func30
theorem wc:Nn 32:=Ee Tryz.func32
theorem we:Nn 36:=Ee Tryz.func36
theorem pC:Nn 40:=Ee Tryz.func40
theorem wg:Nn 41:=Ee Tryz.func41
theorem wh:Nn 42:=Ee Tryz.func42
theorem wi:Nn 45:=Ee Tryz.func45
theorem eH:Nn 46:=Ee Tryz.func46
theorem wj:Nn 47:=Ee Tryz.func47
theorem pD:Nn 48:=Ee Tryz.func48
theorem wk:Nn 49:=Ee Tryz.func49
theorem jz:Nn 50:=Ee Tryz.func50
theorem pE:Nn 51:=Ee Tryz.func51
theorem fO:Nn 52:=Ee Tryz.func52
theorem jA:Nn 54:=Ee Tryz.func54
theorem wl:Nn 55:=Ee Tryz.func55
theorem jB:Nn 56:=Ee Tryz.func56
theorem wn:Nn 57:=Ee Tryz.func57
theorem lQ:Nn 58:=Ee Tryz.func58
theorem gG:Nn 59:=Ee Tryz.func59
theorem pF:Nn 61:=Ee Tryz.func61
theorem dr:Nn 62:=Ee Tryz.func62
theorem jC:Nn 63:=Ee Tryz.func63
theorem pG:Nn 64:=Ee Tryz.func64
theorem dN:Nn 65:=Ee Tryz.func65
theorem wq:Nn 66:=Ee Tryz.func66
theorem ws:Nn 67:=Ee Tryz.func67
theorem wt:Nn 68:=Ee Tryz.func68
theorem wu:Nn 69:=Ee Tryz.func69
theorem ww:Nn 70:=Ee Tryz.func70
theorem wx:Nn 71:=Ee Tryz.func71
theorem fP:Nn 72:=Ee Tryz.func72
theorem iy:Nn 73:=Ee Tryz.func73
theorem dZ:Nn 74:=Ee Tryz.func74
theorem ce:Nn 75:=Ee Tryz.func75
theorem pH:Nn 76:=Ee Tryz.func76
theorem wy:Nn 77:=Ee Tryz.func77
theorem lR:Nn 78:=Ee Tryz.func78
theorem pJ:Nn 79:=Ee Tryz.func79
theorem wz:Nn 84:=Ee Tryz.func84
theorem wA:Nn 85:=Ee Tryz.func85
theorem pK:Nn 89:=Ee Tryz.func89
theorem wB:Nn 90:=Ee Tryz.func90
theorem wC:Nn 91:=Ee Tryz.func91
theorem En92:Nn 92:=Ee Tryz.func92
theorem pL:Nn 97:=Ee Tryz.func97
theorem wD:Nn 98:=Ee Tryz.func98
theorem wE:Nn 99:=Ee Tryz.func99
theorem wF:Nn 100:=Ee Tryz.func100
theorem pM:Nn 101:=Ee Tryz.func101
theorem wG:Nn 102:=Ee Tryz.func102
theorem wH:Nn 103:=Ee Tryz.func103
theorem lS:Nn 104:=Ee Tryz.func104
theorem wI:Nn 105:=Ee Tryz.func105
theorem wJ:Nn 106:=Ee Tryz.func106
theorem gH:Nn 107:=Ee Tryz.func107
theorem lT:Nn 108:=Ee Tryz.func108
theorem wK:Nn 110:=Ee Tryz.func110
theorem jD:Nn 111:=Ee Tryz.func111
theorem pN:Nn 114:=Ee Tryz.func114
theorem iz:Nn 115:=Ee Tryz.func115
theorem wL:Nn 116:=Ee Tryz.func116
theorem wM:Nn 117:=Ee Tryz.func117
theorem lU:Nn 118:=Ee Tryz.func118
theorem jE:Nn 119:=Ee Tryz.func119
theorem pO:Nn 120:=Ee Tryz.func120
theorem lV:Nn 121:=Ee Tryz.func121
theorem wN:Nn 124:=Ee Tryz.func124
theorem pP:Nn 125:=Ee Tryz.func125
theorem En127:Nn 127:=Ee Tryz.func127
theorem wO:Nn 129:=Ee Tryz.func129
theorem wP:Nn 130:=Ee Tryz.func130
theorem wQ:Nn 131:=Ee Tryz.func131
theorem jF:Nn 132:=Ee Tryz.func132
theorem wR:Nn 133:=Ee Tryz.func133
theorem wS:Nn 134:=Ee Tryz.func134
theorem En135:Nn 135:=Ee Tryz.func135
theorem wT:Nn 136:=Ee Tryz.func136
theorem wU:Nn 147:=Ee Tryz.func147
theorem pQ:Nn 149:=Ee Tryz.func149
theorem wV:Nn 150:=Ee Tryz.func150
theorem wW:Nn 151:=Ee Tryz.func151
theorem pR:Nn 152:=Ee Tryz.func152
theorem jG:Nn 153:=Ee Tryz.func153
theorem wX:Nn 154:=Ee Tryz.func154
theorem wY:Nn 155:=Ee Tryz.func155
theorem wZ:Nn 156:=Ee Tryz.func156
theorem xa:Nn 157:=Ee Tryz.func157
theorem xb:Nn 158:=Ee Tryz.func158
theorem xc:Nn 159:=Ee Tryz.func159
theorem xd:Nn 160:=Ee Tryz.func160
theorem xe:Nn 161:=Ee Tryz.func161
theorem xg:Nn 162:=Ee Tryz.func162
theorem xh:Nn 164:=Ee Tryz.func164
theorem xl:Nn 178:=Ee Tryz.func178
abbrev U3:=@Tryz.underlying3
abbrev U4:=@Tryz.underlying4
abbrev U5:=@Tryz.underlying5
abbrev U22:=@Tryz.underlying22
abbrev U23:=@Tryz.underlying23
abbrev U25:=@Tryz.underlying25
abbrev U26:=@Tryz.underlying26
abbrev U31:=@Tryz.underlying31
abbrev U35:=@Tryz.underlying35
abbrev U39:=@Tryz.underlying39
abbrev U43:=@Tryz.underlying43
abbrev U45:=@Tryz.underlying45
abbrev U51:=@Tryz.underlying51
abbrev U60:=@Tryz.underlying60
abbrev U61:=@Tryz.underlying61
abbrev U62:=@Tryz.underlying62
abbrev U66:=@Tryz.underlying66
abbrev U73:=@Tryz.underlying73
abbrev U74:=@Tryz.underlying74
abbrev U76:=@Tryz.underlying76
abbrev U77:=@Tryz.underlying77
abbrev U79:=@Tryz.underlying79
abbrev U83:=@Tryz.underlying83
abbrev bJ:=@Tryz.underlying126
abbrev lW:=@Tryz.underlying127
abbrev jH:=@Tryz.underlying128
abbrev fQ:=@Tryz.underlying130
abbrev pS:=@Tryz.underlying132
abbrev iA:=@Tryz.underlying139
abbrev aQ:=@Tryz.underlying143
abbrev pT:=@Tryz.underlying161
abbrev xm:=@Tryz.underlying183
abbrev pU:=@Tryz.underlying187
abbrev lX:=@Tryz.underlying188
end Go.Mono
namespace Go.Mono
open Go Go.Proofs Go.RowKit

theorem arg1 {A:VA}{v:Value}{w:World}(h:A.p v w):∀(i:Nat) (B:VA),[A][i]?=some B→B.p ([v].getD i undef) w:=fun i B hB=>by
 match i with
 | 0=>simp at hB;subst hB;exact h
 | i+1=>simp at hB
theorem arg2 {A B:VA}{u v:Value}{w:World}(h:A.p u w)(h':B.p v w):∀(i:Nat) (C:VA),[A,B][i]?=some C→C.p ([u,v].getD i undef) w:=fun i C hC=>by
 match i with
 | 0=>simp at hC;subst hC;exact h
 | 1=>simp at hC;subst hC;exact h'
 | i+2=>simp at hC
theorem eI {A B C:VA}{u v x:Value}{w:World}(h:A.p u w)(h':B.p v w)(h'':C.p x w):∀(i:Nat) (D:VA),[A,B,C][i]?=some D→D.p ([u,v,x].getD i undef) w:=fun i D hD=>by
 match i with
 | 0=>simp at hD;subst hD;exact h
 | 1=>simp at hD;subst hD;exact h'
 | 2=>simp at hD;subst hD;exact h''
 | i+3=>simp at hD
theorem cX {A:VA}{As:List VA}{v:Value}{vs:List Value}{w:World}(h:A.p v w)(hs:∀(i:Nat) (B:VA),As[i]?=some B→B.p (vs.getD i undef) w):∀(i:Nat) (B:VA),(A::As)[i]?=some B→B.p ((v::vs).getD i undef) w:=fun i B hB=>by
 match i with
 | 0=>simp at hB;subst hB;exact h
 | i+1=>exact hs i B (by simpa using hB)
theorem pV {w:World}:∀(i:Nat) (B:VA),([]:List VA)[i]?=some B→B.p (([]:List Value).getD i undef) w:=fun i B hB=>by simp at hB

theorem gI (n:Int)(W:World):Calls Tryz.prog 107 #[I n] W (Post (E (B (cq n))) W):=by
 refine eN [I n] [E (I n)] Tryz.func107 Tryz.ntmps107 ?_ fun a hf=>?_
 rotate_left
 rotate_right
 ·exact arg1 rfl
 have e:=Ext.rfl' W
 cases hb:decide (0≤n)
 all_goals
  refine seq <| ac <| tA hf rfl fun a hf=>aa <| seq <| rgN 6 hf <| st (mv rfl) <| st ((geq rfl rfl).eq (congrArg Value.bool (hb))) <| st (mv rfl) ?_
  first|refine sn rfl rfl rfl ?_|refine sy rfl rfl (mv rfl) ?_
  first|refine sn rfl rfl rfl ?_|refine sy rfl rfl (lss rfl rfl) ?_
  first|refine st (pkT rfl rfl) ?_|refine st (pkF rfl rfl) ?_
  refine en fun a w e' hf=>?_
  replace e:=e.tr e'
  refine tA hf rfl fun a hf=>aa <| ak (an rfl hf rfl ?_)
  rintro v rfl
  exact⟨_,rfl,e,by simp[E,ER,cq,hb]⟩

theorem lY (n:Int)(W:World)(h0:0≤n):Calls Tryz.prog 108 #[I n] W (Post (E (Mono.W (1#64 <<< (n % 64).toNat))) W):=by
 refine eN [I n] [E (I n)] Tryz.func108 Tryz.ntmps108 ?_ fun a hf=>?_
 rotate_left
 rotate_right
 ·exact arg1 rfl
 have e:=Ext.rfl' W
 refine seq <| ac <| tA hf rfl fun a hf=>aa <| seq <| rgN 3 hf <| st (mv rfl) <| st (rem rfl rfl (by omega)) <| st (uV (u:=1#64) rfl rfl (by omega)) <| en fun a w e' hf=>?_
 replace e:=e.tr e'
 refine tA hf rfl fun a hf=>aa <| ak (an rfl hf rfl ?_)
 rintro v rfl
 exact⟨_,rfl,e,rfl⟩

theorem ea (S:BS)(n:Int)(W:World):Calls Tryz.prog 75 #[ae S,I n] W (Post (E (B (has S n))) W):=by
 refine eN [ae S,I n] [E (ae S),E (I n)] Tryz.func75 Tryz.ntmps75 ?_ fun a hf=>?_
 rotate_left
 rotate_right
 ·exact arg2 rfl rfl
 have e:=Ext.rfl' W
 refine seq <| ac <| tB hf rfl fun a b2 w v2 hv2 e' hb2 hs2 B2 hf=>?_
 replace e:=e.tr e'
 refine tA hf rfl fun a hf=>aa ?_
 subst hv2
 cases hb:cq n
 ·refine seq <| rgG 12 Mix.mix hf <| st (mv rfl) <| st ((aw gH rfl (fun v w _ h=>by cases h;exact gI n w)).eq (congrArg Value.bool (hb))) ?_
  refine st (mv rfl) <| sn rfl rfl rfl <| sn rfl rfl rfl <| sn rfl rfl rfl <| sn rfl rfl rfl <| sn rfl rfl rfl <| sn rfl rfl rfl <| sn rfl rfl rfl <| sn rfl rfl rfl <| st (pkF rfl rfl) <| en fun a w e' hf=>?_
  obtain⟨e,B2⟩:=up2 e' e B2
  refine tA hf rfl fun a hf=>aa <| ak (an rfl hf rfl ?_)
  rintro v rfl
  exact⟨_,rfl,e,by simp[E,ER,has,hb]⟩
 ·have hn:=cV.1 hb
  refine seq <| rgG 12 Mix.mix hf <| st (mv rfl) <| st ((aw gH rfl (fun v w _ h=>by cases h;exact gI n w)).eq (congrArg Value.bool (hb))) ?_
  refine st (mv rfl) <| sy rfl rfl (mv rfl) <| sy rfl rfl (quo rfl rfl (by omega)) <| sy rfl rfl (bU U76 ⟨_,T74⟩ rfl rfl (by omega)) <| sy rfl rfl (ld1 T74 rfl B2 (by rw[Nat.zero_add,Nat.mul_one];exact cp _ _ (by omega))) ?_
  refine sy rfl rfl (mv rfl) <| sy rfl rfl (aw lT rfl (fun v w _ h=>by cases h;exact lY n w hn.1)) ?_
  refine sy rfl rfl (eW rfl rfl) <| sy rfl rfl (lz (v:=0#64) rfl rfl) <| st (pkT rfl rfl) <| en fun a w e' hf=>?_
  obtain⟨e,B2⟩:=up2 e' e B2
  refine tA hf rfl fun a hf=>aa <| ak (an rfl hf rfl ?_)
  rintro v rfl
  exact⟨_,rfl,e,congrArg B (vc S n hb)⟩

theorem fk {fn:Func}{t u:Nat}{n:Nat}{a:Act}{w W:World}{b:Nat}{S T:BS}{bt:TypeId}{L:Env}(hr:fn.results = #[.cell t u])(ht:TI Tryz.prog u true 16)(hf:Fr n a w L)(h:aL L t=some (E (.pointer (some ⟨b,0,none⟩))))
  (hb:Blk w b (aJ S) bt) (e:Ext W w) (hST:S=T):bodyPost Tryz.prog fn (Post (E (ae T)) W) .ret a w:=
 dX hr ht hf h hb (bc _) ⟨_,rfl,e,by subst hST;rfl⟩

theorem jI (S:BS)(n:Int)(W:World):Calls Tryz.prog 111 #[ae S,I n] W (Post (E (ae (ins S n))) W):=by
 refine eN [ae S,I n] [E (ae S),E (I n)] Tryz.func111 Tryz.ntmps111 ?_ fun a hf=>?_
 rotate_left
 dsimp only[params,Nat.reduceAdd] at hf
 rotate_right
 ·exact arg2 rfl rfl
 have e:=Ext.rfl' W
 refine seq <| ac <| tB hf rfl fun a b2 w v2 hv2 e' hb2 hs2 B2 hf=>?_
 replace e:=e.tr e'
 refine tL I76 hf fun a b4 w e' hb4 hs4 B4 hf=>?_
 obtain⟨e,B2⟩:=up2 e' e B2
 refine aa ?_
 subst hv2
 simp only[ez] at B2
 cases hb:cq n
 ·refine seq <| seq ?_
  refine rgN 2 hf <| st (mv rfl) <| st ((aw gH rfl (fun v w _ h=>by cases h;exact gI n w)).eq (congrArg Value.bool (hb))) ?_
  refine en fun a w e' hf=>?_
  obtain⟨e,B2,B4⟩:=up3 e' e B2 B4
  refine aa <| ifc hf rfl (fun h=>by cases h) (fun _=>aj ?_)
  refine seq <| rgN 1 hf <| st (ldW T76 rfl (by assumption) rfl) <| en fun a w e' hf=>?_
  obtain⟨e,B2,B4⟩:=up3 e' e B2 B4
  haveI hinr:∀G0,InR (GB W G0) (some b4):=fun G0=>InR.gb (by omega)
  refine aF T76 hf rfl rfl (bk _) B4 rfl (rfl) fun w hg hsz B4 hf=>?_
  obtain⟨e,B2⟩:=gr2 hg e B2
  refine aa <| ak (fk rfl T76 hf rfl B4 e ?_)
  simp[ins,hb]
 ·have hn:=cV.1 hb
  refine seq <| seq ?_
  refine rgN 2 hf <| st (mv rfl) <| st ((aw gH rfl (fun v w _ h=>by cases h;exact gI n w)).eq (congrArg Value.bool (hb))) ?_
  refine en fun a w e' hf=>?_
  obtain⟨e,B2,B4⟩:=up3 e' e B2 B4
  refine aa <| ifT hf rfl ?_
  replace hf:=hf.kp [1,2,4]
  refine rgG 8 Mix.mix hf <| st (mv rfl) <| st (quo rfl rfl (by omega)) <| st (bU U76 ⟨_,T74⟩ rfl rfl (by omega)) <| st (ld1 T74 rfl B2 (by rw[Nat.zero_add,Nat.mul_one];exact cp _ _ (by omega))) ?_
  refine st (mv rfl) <| st (aw lT rfl (fun v w _ h=>by cases h;exact lY n w hn.1)) ?_
  refine st (orW rfl rfl) <| st (bU U76 ⟨_,T74⟩ rfl rfl (by omega)) <| en fun a w e' hf=>?_
  obtain⟨e,B2,B4⟩:=up3 e' e B2 B4
  refine aO T74 hf rfl rfl rfl B2 (by rw[bc];omega) fun w hg hsz B2 hf=>?_
  obtain⟨e,B4⟩:=gr2 hg e B4
  refine aa ?_
  rw[Nat.zero_add,Nat.mul_one,aJ,ig,ve S hb] at B2
  refine seq <| rgN 1 hf <| st (ldW T76 rfl (by assumption) rfl) <| en fun a w e' hf=>?_
  obtain⟨e,B2,B4⟩:=up3 e' e B2 B4
  haveI hinr:∀G0,InR (GB W G0) (some b4):=fun G0=>InR.gb (by omega)
  refine aF T76 hf rfl rfl (bk _) B4 rfl (rfl) fun w hg hsz B4 hf=>?_
  obtain⟨e,B2⟩:=gr2 hg e B2
  refine aa <| ak (fk rfl T76 hf rfl B4 e rfl)

theorem gJ (S:BS)(n:Int)(W:World):Calls Tryz.prog 59 #[ae S,I n] W (Post (E (ae (del S n))) W):=by
 refine eN [ae S,I n] [E (ae S),E (I n)] Tryz.func59 Tryz.ntmps59 ?_ fun a hf=>?_
 rotate_left
 dsimp only[params,Nat.reduceAdd] at hf
 rotate_right
 ·exact arg2 rfl rfl
 have e:=Ext.rfl' W
 refine seq <| ac <| tB hf rfl fun a b2 w v2 hv2 e' hb2 hs2 B2 hf=>?_
 replace e:=e.tr e'
 refine tL I76 hf fun a b4 w e' hb4 hs4 B4 hf=>?_
 obtain⟨e,B2⟩:=up2 e' e B2
 refine aa ?_
 subst hv2
 simp only[ez] at B2
 cases hb:cq n
 ·refine seq <| seq ?_
  refine rgN 2 hf <| st (mv rfl) <| st ((aw gH rfl (fun v w _ h=>by cases h;exact gI n w)).eq (congrArg Value.bool (hb))) ?_
  refine en fun a w e' hf=>?_
  obtain⟨e,B2,B4⟩:=up3 e' e B2 B4
  refine aa <| ifc hf rfl (fun h=>by cases h) (fun _=>aj ?_)
  refine seq <| rgN 1 hf <| st (ldW T76 rfl (by assumption) rfl) <| en fun a w e' hf=>?_
  obtain⟨e,B2,B4⟩:=up3 e' e B2 B4
  haveI hinr:∀G0,InR (GB W G0) (some b4):=fun G0=>InR.gb (by omega)
  refine aF T76 hf rfl rfl (bk _) B4 rfl (rfl) fun w hg hsz B4 hf=>?_
  obtain⟨e,B2⟩:=gr2 hg e B2
  refine aa <| ak (fk rfl T76 hf rfl B4 e ?_)
  simp[del,hb]
 ·have hn:=cV.1 hb
  refine seq <| seq ?_
  refine rgN 2 hf <| st (mv rfl) <| st ((aw gH rfl (fun v w _ h=>by cases h;exact gI n w)).eq (congrArg Value.bool (hb))) ?_
  refine en fun a w e' hf=>?_
  obtain⟨e,B2,B4⟩:=up3 e' e B2 B4
  refine aa <| ifT hf rfl ?_
  replace hf:=hf.kp [1,2,4]
  refine rgG 8 Mix.mix hf <| st (mv rfl) <| st (quo rfl rfl (by omega)) <| st (bU U76 ⟨_,T74⟩ rfl rfl (by omega)) <| st (ld1 T74 rfl B2 (by rw[Nat.zero_add,Nat.mul_one];exact cp _ _ (by omega))) ?_
  refine st (mv rfl) <| st (aw lT rfl (fun v w _ h=>by cases h;exact lY n w hn.1)) ?_
  refine st (ou rfl rfl) <| st (bU U76 ⟨_,T74⟩ rfl rfl (by omega)) <| en fun a w e' hf=>?_
  obtain⟨e,B2,B4⟩:=up3 e' e B2 B4
  refine aO T74 hf rfl rfl rfl B2 (by rw[bc];omega) fun w hg hsz B2 hf=>?_
  obtain⟨e,B4⟩:=gr2 hg e B4
  refine aa ?_
  rw[Nat.zero_add,Nat.mul_one,aJ,ig,vf S hb] at B2
  refine seq <| rgN 1 hf <| st (ldW T76 rfl (by assumption) rfl) <| en fun a w e' hf=>?_
  obtain⟨e,B2,B4⟩:=up3 e' e B2 B4
  haveI hinr:∀G0,InR (GB W G0) (some b4):=fun G0=>InR.gb (by omega)
  refine aF T76 hf rfl rfl (bk _) B4 rfl (rfl) fun w hg hsz B4 hf=>?_
  obtain⟨e,B2⟩:=gr2 hg e B2
  refine aa <| ak (fk rfl T76 hf rfl B4 e rfl)


def pW (r:List Int)(n:Int):Bool:=decide (n∈r)

def toL (S:BS):List Int:=lF (fun i=>S.getLsbD i) 1024
abbrev RB:=Int×List Int
def up (xs:List RB)(i:Nat):Int:=match xs[i]? with
 | some b=>b.1
 | none=>0
def hs (xs:List RB)(i:Nat):List Int:=match xs[i]? with
 | some b=>b.2
 | none=>[]
def cA (p:Nat→Bool):Nat→Int
 | 0 => -1
 | n+1=>if cA p n = -1 then (if p n then (n:Int) else -1) else cA p n
theorem fm {p:Nat→Bool}:∀{n:Nat},(∀i,i<n→p i=false)→cA p n = -1
 | 0,_=>rfl
 | n+1,h=>by
  rw[cA,if_pos (fm fun i hi=>h i (by omega)),h n (by omega)];rfl
theorem fR {p:Nat→Bool}{k:Nat}:∀{n:Nat},k<n→(∀i,i<k→p i=false)→p k=true→cA p n=k
 | 0,h,_,_=>by omega
 | n+1,h,h1,h2=>by
  rw[cA]
  by_cases hk:k=n
  ·subst hk
   rw[if_pos (fm h1),h2];rfl
  ·rw[fR (by omega) h1 h2,if_neg (by omega)]
def xn (xs:List RB)(id:Int)(i:Nat):Bool:=pW (hs xs i) id&&(decide (up xs i<0) || !pW (hs xs (up xs i).toNat) id)
def xo (xs:List RB)(id:Int):List Int:=lF (xn xs id) xs.length
structure Ok (xs:List RB):Prop where
 up:∀i,i<xs.length→up xs i<xs.length
 hs:∀i,i<xs.length→(hs xs i).length≤4096
def abv (xs:List RB):Nat→Int→Option (List Int)
 | 0,a=>if a<0 then some [] else none
 | f+1,a=>if a<0 then some [] else (abv xs f (up xs a.toNat)).map (a :: ·)
def pX (xs:List RB)(i:Nat):Option (List Int):=abv xs (xs.length+1) (up xs i)


structure pY (xs:List RB):Prop where
 range:∀i,i<xs.length → -1≤up xs i∧up xs i<xs.length
 root:(lF (fun i=>decide (up xs i<0)) xs.length).length=1
 loop:∀i,i<xs.length→(pX xs i).isSome=true
 dup:∀i,i<xs.length→∀id∈hs xs i,(xo xs id).length=1
end Go.Mono
namespace Go.Mono
def ab (xs:List RB)(i:Nat):List Int:=(pX xs i).getD []
def dsc (xs:List RB)(b i:Nat):Bool:=decide (i=b) || decide ((b:Int)∈ab xs i)
def ind (b:Bool):Nat:=if b then 1 else 0
def cnt (xs:List RB)(b:Nat):Nat:=((List.range xs.length).map fun i=>ind (dsc xs b i)).sum
end Go.Mono
namespace Go.Mono
open Go Go.Proofs Go.RowKit
theorem iB (S T:BS)(W:World):Calls Tryz.prog 73 #[ae S,ae T] W (Post (E (ae (S |||T))) W):=by
 refine eN [ae S,ae T] [E (ae S),E (ae T)] Tryz.func73 Tryz.ntmps73 ?_ fun a hf=>?_
 rotate_left
 rotate_right
 ·exact arg2 rfl rfl
 have e:=Ext.rfl' W
 refine seq <| ac <| tB hf rfl fun a b2 w v2 hv2 e' hb2 hs2 B2 hf=>?_
 replace e:=e.tr e'
 refine tB hf rfl fun a b3 w v3 hv3 e' hb3 hs3 B3 hf=>?_
 obtain⟨e,B2⟩:=up2 e' e B2
 refine tL I76 hf fun a b4 w e' hb4 hs4 B4 hf=>?_
 obtain⟨e,B2,B3⟩:=up3 e' e B2 B3
 refine aa ?_
 subst hv2
 subst hv3
 rw[ez] at B2 B3
 simp only[Value.cells,dL] at B4
 refine seq <| seq ?_
 refine rgN 1 hf <| st (mv rfl) <| en fun a w e' hf=>?_
 obtain⟨e,B2,B3,B4⟩:=up4 e' e B2 B3 B4
 refine aa ?_
 replace hf:=hf.keep [2,3,4,6]
 refine blk (aK (fun r a w=>∃k:Nat,r=16 - k∧k≤16∧Fr 19 a w [(2,E (.pointer (some ⟨b2,0,none⟩))),(3,E (.pointer (some ⟨b3,0,none⟩))),(4,E (.pointer (some ⟨b4,0,none⟩))),(6,E (I k))]∧Ext W w ∧
  Blk w b2 (bh fun i=>if i<k then am S i ||| am T i else am S i) 76∧Blk w b3 (aJ T) 76∧Blk w b4 (aJ 0) 76) 16 ⟨0,rfl,by omega,hf,e,?_,B3,B4⟩ ?_)
 ·simpa[aJ] using B2
 rintro r a w ⟨k,rfl,hk,hf,e,B2,B3,B4⟩
 by_cases hlt:k<16
 ·refine seq <| rgN 1 hf <| st ((lss rfl rfl).eq (congrArg Value.bool (show decide ((k:Int)<16)=true from decide_eq_true (by omega)))) <| en fun a w e' hf=>?_
  obtain⟨e,B2,B3,B4⟩:=up4 e' e B2 B3 B4
  refine aa <| seq <| ifc hf rfl (fun _=>aj ?_) (fun h=>by cases h)
  refine seq <| blk <| seq <| rgN 1 hf <| st (mv rfl) <| en fun a w e' hf=>?_
  obtain⟨e,B2,B3,B4⟩:=up4 e' e B2 B3 B4
  refine tA hf rfl fun a hf=>aa ?_
  have g2:(bh fun i=>if i<k then am S i ||| am T i else am S i)[k]?=some (Mono.W (am S k)):=by rw[cp _ _ hlt];simp
  refine rgG 8 Mix.mix hf <| st (mv rfl) <| st (bU U76 ⟨_,T74⟩ rfl rfl (by omega)) <| st (ld1 T74 rfl B2 (by simpa using g2)) <| st (mv rfl) <| st (bU U76 ⟨_,T74⟩ rfl rfl (by omega)) <| st (ld1 T74 rfl B3 (by simpa[aJ] using cp (am T) k hlt)) <| st (orW rfl rfl) <| st (bU U76 ⟨_,T74⟩ rfl rfl (by omega)) <| en fun a w e' hf=>?_
  obtain⟨e,B2,B3,B4⟩:=up4 e' e B2 B3 B4
  refine aO T74 hf rfl rfl rfl B2 (by rw[eX];simp;omega) fun w hg hsz B2 hf=>?_
  obtain⟨e,B3,B4⟩:=gr3 hg e B3 B4
  refine aa ?_
  replace B2:Blk w b2 (bh fun i=>if i<k+1 then am S i ||| am T i else am S i) 76:=by
   have:(bh fun i=>if i<k then am S i ||| am T i else am S i).setIfInBounds k (Mono.W (am S k ||| am T k))=bh fun i=>if i<k+1 then am S i ||| am T i else am S i:=by
    rw[ig]
    refine dY fun i hi=>?_
    by_cases h1:i=k
    ·subst h1;simp
    ·simp only[h1,if_false]
     by_cases h2:i<k
     ·simp[h2,show i<k+1 by omega]
     ·simp[h2,show ¬i<k+1 by omega]
   rw[← this]
   simpa using B2
  replace hf:=hf.keep [2,3,4,6]
  refine rgN 1 hf <| st (add rfl rfl (by omega)) <| en fun a w e' hf=>?_
  obtain⟨e,B2,B3,B4⟩:=up4 e' e B2 B3 B4
  refine tP hf (mv rfl) fun a w e' hf=>?_
  obtain⟨e,B2,B3,B4⟩:=up4 e' e B2 B3 B4
  refine aa ?_
  replace hf:=hf.kp [2,3,4,6]
  exact⟨16 - (k+1),by omega,k+1,rfl,by omega,by simpa using hf,e,B2,B3,B4⟩
 ·obtain rfl:k=16:=by omega
  refine seq <| rgN 1 hf <| st ((lss rfl rfl).eq (congrArg Value.bool (show decide (((16:Nat):Int)<16)=false from rfl))) <| en fun a w e' hf=>?_
  obtain⟨e,B2,B3,B4⟩:=up4 e' e B2 B3 B4
  refine aa <| seq <| ifc hf rfl (fun h=>by cases h) (fun _=>aH ?_)
  have hC:(bh fun i=>if i<16 then am S i ||| am T i else am S i)=aJ (S |||T):=dY fun i hi=>by
   simp only[hi,if_true,lB]
  rw[hC] at B2
  refine seq <| rgN 1 hf <| st (ldW T76 rfl (by assumption) rfl) <| en fun a w e' hf=>?_
  obtain⟨e,B2,B3,B4⟩:=up4 e' e B2 B3 B4
  haveI hinr:∀G0,InR (GB W G0) (some b4):=fun G0=>InR.gb (by omega)
  refine aF T76 hf rfl rfl (bk _) B4 rfl (rfl) fun w hg hsz B4 hf=>?_
  obtain⟨e,B2,B3⟩:=gr3 hg e B2 B3
  refine aa <| ak (fk rfl T76 hf rfl B4 e rfl)

theorem iC (S T:BS)(W:World):Calls Tryz.prog 74 #[ae S,ae T] W (Post (E (ae (S &&&T))) W):=by
 refine eN [ae S,ae T] [E (ae S),E (ae T)] Tryz.func74 Tryz.ntmps74 ?_ fun a hf=>?_
 rotate_left
 rotate_right
 ·exact arg2 rfl rfl
 have e:=Ext.rfl' W
 refine seq <| ac <| tB hf rfl fun a b2 w v2 hv2 e' hb2 hs2 B2 hf=>?_
 replace e:=e.tr e'
 refine tB hf rfl fun a b3 w v3 hv3 e' hb3 hs3 B3 hf=>?_
 obtain⟨e,B2⟩:=up2 e' e B2
 refine tL I76 hf fun a b4 w e' hb4 hs4 B4 hf=>?_
 obtain⟨e,B2,B3⟩:=up3 e' e B2 B3
 refine aa ?_
 subst hv2
 subst hv3
 rw[ez] at B2 B3
 simp only[Value.cells,dL] at B4
 refine seq <| seq ?_
 refine rgN 1 hf <| st (mv rfl) <| en fun a w e' hf=>?_
 obtain⟨e,B2,B3,B4⟩:=up4 e' e B2 B3 B4
 refine aa ?_
 replace hf:=hf.keep [2,3,4,6]
 refine blk (aK (fun r a w=>∃k:Nat,r=16 - k∧k≤16∧Fr 19 a w [(2,E (.pointer (some ⟨b2,0,none⟩))),(3,E (.pointer (some ⟨b3,0,none⟩))),(4,E (.pointer (some ⟨b4,0,none⟩))),(6,E (I k))]∧Ext W w ∧
  Blk w b2 (bh fun i=>if i<k then am S i &&& am T i else am S i) 76∧Blk w b3 (aJ T) 76∧Blk w b4 (aJ 0) 76) 16 ⟨0,rfl,by omega,hf,e,?_,B3,B4⟩ ?_)
 ·simpa[aJ] using B2
 rintro r a w ⟨k,rfl,hk,hf,e,B2,B3,B4⟩
 by_cases hlt:k<16
 ·refine seq <| rgN 1 hf <| st ((lss rfl rfl).eq (congrArg Value.bool (show decide ((k:Int)<16)=true from decide_eq_true (by omega)))) <| en fun a w e' hf=>?_
  obtain⟨e,B2,B3,B4⟩:=up4 e' e B2 B3 B4
  refine aa <| seq <| ifc hf rfl (fun _=>aj ?_) (fun h=>by cases h)
  refine seq <| blk <| seq <| rgN 1 hf <| st (mv rfl) <| en fun a w e' hf=>?_
  obtain⟨e,B2,B3,B4⟩:=up4 e' e B2 B3 B4
  refine tA hf rfl fun a hf=>aa ?_
  have g2:(bh fun i=>if i<k then am S i &&& am T i else am S i)[k]?=some (Mono.W (am S k)):=by rw[cp _ _ hlt];simp
  refine rgG 8 Mix.mix hf <| st (mv rfl) <| st (bU U76 ⟨_,T74⟩ rfl rfl (by omega)) <| st (ld1 T74 rfl B2 (by simpa using g2)) <| st (mv rfl) <| st (bU U76 ⟨_,T74⟩ rfl rfl (by omega)) <| st (ld1 T74 rfl B3 (by simpa[aJ] using cp (am T) k hlt)) <| st (eW rfl rfl) <| st (bU U76 ⟨_,T74⟩ rfl rfl (by omega)) <| en fun a w e' hf=>?_
  obtain⟨e,B2,B3,B4⟩:=up4 e' e B2 B3 B4
  refine aO T74 hf rfl rfl rfl B2 (by rw[eX];simp;omega) fun w hg hsz B2 hf=>?_
  obtain⟨e,B3,B4⟩:=gr3 hg e B3 B4
  refine aa ?_
  replace B2:Blk w b2 (bh fun i=>if i<k+1 then am S i &&& am T i else am S i) 76:=by
   have:(bh fun i=>if i<k then am S i &&& am T i else am S i).setIfInBounds k (Mono.W (am S k &&& am T k))=bh fun i=>if i<k+1 then am S i &&& am T i else am S i:=by
    rw[ig]
    refine dY fun i hi=>?_
    by_cases h1:i=k
    ·subst h1;simp
    ·simp only[h1,if_false]
     by_cases h2:i<k
     ·simp[h2,show i<k+1 by omega]
     ·simp[h2,show ¬i<k+1 by omega]
   rw[← this]
   simpa using B2
  replace hf:=hf.keep [2,3,4,6]
  refine rgN 1 hf <| st (add rfl rfl (by omega)) <| en fun a w e' hf=>?_
  obtain⟨e,B2,B3,B4⟩:=up4 e' e B2 B3 B4
  refine tP hf (mv rfl) fun a w e' hf=>?_
  obtain⟨e,B2,B3,B4⟩:=up4 e' e B2 B3 B4
  refine aa ?_
  replace hf:=hf.kp [2,3,4,6]
  exact⟨16 - (k+1),by omega,k+1,rfl,by omega,by simpa using hf,e,B2,B3,B4⟩
 ·obtain rfl:k=16:=by omega
  refine seq <| rgN 1 hf <| st ((lss rfl rfl).eq (congrArg Value.bool (show decide (((16:Nat):Int)<16)=false from rfl))) <| en fun a w e' hf=>?_
  obtain⟨e,B2,B3,B4⟩:=up4 e' e B2 B3 B4
  refine aa <| seq <| ifc hf rfl (fun h=>by cases h) (fun _=>aH ?_)
  have hC:(bh fun i=>if i<16 then am S i &&& am T i else am S i)=aJ (S &&&T):=dY fun i hi=>by
   simp only[hi,if_true,uX]
  rw[hC] at B2
  refine seq <| rgN 1 hf <| st (ldW T76 rfl (by assumption) rfl) <| en fun a w e' hf=>?_
  obtain⟨e,B2,B3,B4⟩:=up4 e' e B2 B3 B4
  haveI hinr:∀G0,InR (GB W G0) (some b4):=fun G0=>InR.gb (by omega)
  refine aF T76 hf rfl rfl (bk _) B4 rfl (rfl) fun w hg hsz B4 hf=>?_
  obtain⟨e,B2,B3⟩:=gr3 hg e B2 B3
  refine aa <| ak (fk rfl T76 hf rfl B4 e rfl)

theorem lZ (S T:BS)(W:World):Calls Tryz.prog 104 #[ae S,ae T] W (Post (E (ae (S &&& ~~~T))) W):=by
 refine eN [ae S,ae T] [E (ae S),E (ae T)] Tryz.func104 Tryz.ntmps104 ?_ fun a hf=>?_
 rotate_left
 rotate_right
 ·exact arg2 rfl rfl
 have e:=Ext.rfl' W
 refine seq <| ac <| tB hf rfl fun a b2 w v2 hv2 e' hb2 hs2 B2 hf=>?_
 replace e:=e.tr e'
 refine tB hf rfl fun a b3 w v3 hv3 e' hb3 hs3 B3 hf=>?_
 obtain⟨e,B2⟩:=up2 e' e B2
 refine tL I76 hf fun a b4 w e' hb4 hs4 B4 hf=>?_
 obtain⟨e,B2,B3⟩:=up3 e' e B2 B3
 refine aa ?_
 subst hv2
 subst hv3
 rw[ez] at B2 B3
 simp only[Value.cells,dL] at B4
 refine seq <| seq ?_
 refine rgN 1 hf <| st (mv rfl) <| en fun a w e' hf=>?_
 obtain⟨e,B2,B3,B4⟩:=up4 e' e B2 B3 B4
 refine aa ?_
 replace hf:=hf.keep [2,3,4,6]
 refine blk (aK (fun r a w=>∃k:Nat,r=16 - k∧k≤16∧Fr 19 a w [(2,E (.pointer (some ⟨b2,0,none⟩))),(3,E (.pointer (some ⟨b3,0,none⟩))),(4,E (.pointer (some ⟨b4,0,none⟩))),(6,E (I k))]∧Ext W w ∧
  Blk w b2 (bh fun i=>if i<k then am S i &&& ~~~am T i else am S i) 76∧Blk w b3 (aJ T) 76∧Blk w b4 (aJ 0) 76) 16 ⟨0,rfl,by omega,hf,e,?_,B3,B4⟩ ?_)
 ·simpa[aJ] using B2
 rintro r a w ⟨k,rfl,hk,hf,e,B2,B3,B4⟩
 by_cases hlt:k<16
 ·refine seq <| rgN 1 hf <| st ((lss rfl rfl).eq (congrArg Value.bool (show decide ((k:Int)<16)=true from decide_eq_true (by omega)))) <| en fun a w e' hf=>?_
  obtain⟨e,B2,B3,B4⟩:=up4 e' e B2 B3 B4
  refine aa <| seq <| ifc hf rfl (fun _=>aj ?_) (fun h=>by cases h)
  refine seq <| blk <| seq <| rgN 1 hf <| st (mv rfl) <| en fun a w e' hf=>?_
  obtain⟨e,B2,B3,B4⟩:=up4 e' e B2 B3 B4
  refine tA hf rfl fun a hf=>aa ?_
  have g2:(bh fun i=>if i<k then am S i &&& ~~~am T i else am S i)[k]?=some (Mono.W (am S k)):=by rw[cp _ _ hlt];simp
  refine rgG 8 Mix.mix hf <| st (mv rfl) <| st (bU U76 ⟨_,T74⟩ rfl rfl (by omega)) <| st (ld1 T74 rfl B2 (by simpa using g2)) <| st (mv rfl) <| st (bU U76 ⟨_,T74⟩ rfl rfl (by omega)) <| st (ld1 T74 rfl B3 (by simpa[aJ] using cp (am T) k hlt)) <| st (ou rfl rfl) <| st (bU U76 ⟨_,T74⟩ rfl rfl (by omega)) <| en fun a w e' hf=>?_
  obtain⟨e,B2,B3,B4⟩:=up4 e' e B2 B3 B4
  refine aO T74 hf rfl rfl rfl B2 (by rw[eX];simp;omega) fun w hg hsz B2 hf=>?_
  obtain⟨e,B3,B4⟩:=gr3 hg e B3 B4
  refine aa ?_
  replace B2:Blk w b2 (bh fun i=>if i<k+1 then am S i &&& ~~~am T i else am S i) 76:=by
   have:(bh fun i=>if i<k then am S i &&& ~~~am T i else am S i).setIfInBounds k (Mono.W (am S k &&& ~~~am T k))=bh fun i=>if i<k+1 then am S i &&& ~~~am T i else am S i:=by
    rw[ig]
    refine dY fun i hi=>?_
    by_cases h1:i=k
    ·subst h1;simp
    ·simp only[h1,if_false]
     by_cases h2:i<k
     ·simp[h2,show i<k+1 by omega]
     ·simp[h2,show ¬i<k+1 by omega]
   rw[← this]
   simpa using B2
  replace hf:=hf.keep [2,3,4,6]
  refine rgN 1 hf <| st (add rfl rfl (by omega)) <| en fun a w e' hf=>?_
  obtain⟨e,B2,B3,B4⟩:=up4 e' e B2 B3 B4
  refine tP hf (mv rfl) fun a w e' hf=>?_
  obtain⟨e,B2,B3,B4⟩:=up4 e' e B2 B3 B4
  refine aa ?_
  replace hf:=hf.kp [2,3,4,6]
  exact⟨16 - (k+1),by omega,k+1,rfl,by omega,by simpa using hf,e,B2,B3,B4⟩
 ·obtain rfl:k=16:=by omega
  refine seq <| rgN 1 hf <| st ((lss rfl rfl).eq (congrArg Value.bool (show decide (((16:Nat):Int)<16)=false from rfl))) <| en fun a w e' hf=>?_
  obtain⟨e,B2,B3,B4⟩:=up4 e' e B2 B3 B4
  refine aa <| seq <| ifc hf rfl (fun h=>by cases h) (fun _=>aH ?_)
  have hC:(bh fun i=>if i<16 then am S i &&& ~~~am T i else am S i)=aJ (S &&& ~~~T):=dY fun i hi=>by
   simp only[hi,if_true,oy]
  rw[hC] at B2
  refine seq <| rgN 1 hf <| st (ldW T76 rfl (by assumption) rfl) <| en fun a w e' hf=>?_
  obtain⟨e,B2,B3,B4⟩:=up4 e' e B2 B3 B4
  haveI hinr:∀G0,InR (GB W G0) (some b4):=fun G0=>InR.gb (by omega)
  refine aF T76 hf rfl rfl (bk _) B4 rfl (rfl) fun w hg hsz B4 hf=>?_
  obtain⟨e,B2,B3⟩:=gr3 hg e B2 B3
  refine aa <| ak (fk rfl T76 hf rfl B4 e rfl)

theorem iD (S:BS)(W:World):Calls Tryz.prog 65 #[ae S] W (Post (E (B (S==0))) W):=by
 refine eN [ae S] [E (ae S)] Tryz.func65 Tryz.ntmps65 ?_ fun a hf=>?_
 rotate_left
 rotate_right
 ·exact arg1 rfl
 have e:=Ext.rfl' W
 refine seq <| ac <| tB hf rfl fun a b1 w v1 hv1 e' hb1 hs1 B1 hf=>?_
 replace e:=e.tr e'
 refine tA hf rfl fun a hf=>aa ?_
 subst hv1
 refine seq <| rgN 3 hf <| st (ldW T76 rfl (by assumption) rfl) <| st ((vk vU).eq (oA)) <| st (eqS (S:=S) (T:=0) U76 U74 T74 (by kernel_rfl) rfl rfl) <| en fun a w e' hf=>?_
 obtain⟨e,B1⟩:=up2 e' e B1
 refine tA hf rfl fun a hf=>aa <| ak (an rfl hf rfl ?_)
 rintro v rfl
 exact⟨_,rfl,e,rfl⟩

theorem xp (S T:BS)(W:World):Calls Tryz.prog 76 #[ae S,ae T] W (Post (E (B (S &&& ~~~T==0))) W):=by
 refine eN [ae S,ae T] [E (ae S),E (ae T)] Tryz.func76 Tryz.ntmps76 ?_ fun a hf=>?_
 rotate_left
 rotate_right
 ·exact arg2 rfl rfl
 have e:=Ext.rfl' W
 refine seq <| ac <| tB hf rfl fun a b2 w v2 hv2 e' hb2 hs2 B2 hf=>?_
 replace e:=e.tr e'
 refine tB hf rfl fun a b3 w v3 hv3 e' hb3 hs3 B3 hf=>?_
 obtain⟨e,B2⟩:=up2 e' e B2
 refine tA hf rfl fun a hf=>aa ?_
 subst hv2
 subst hv3
 simp only[ez] at B2 B3
 refine seq <| rgN 4 hf <| st (ldW T76 rfl (by assumption) rfl) <| st (ldW T76 rfl (by assumption) rfl) <| st (ap lS rfl rfl (fun v u w _ h h'=>by cases h;cases h';exact lZ S T w)) ?_
 refine st (aw dN rfl (fun v w _ h=>by cases h;exact iD _ w)) ?_
 refine en fun a w e' hf=>?_
 obtain⟨e,B2,B3⟩:=up3 e' e B2 B3
 refine tA hf rfl fun a hf=>aa <| ak (an rfl hf rfl ?_)
 rintro v rfl
 exact⟨_,rfl,e,rfl⟩
end Go.Mono
namespace Go.Mono
open Go
def tz (x:BitVec 64):Nat:=((List.range 64).find? fun i=>x.getLsbD i).getD 64
def tabZ:List Nat:=[0,1,56,2,57,49,28,3,61,58,42,50,38,29,17,4,62,47,59,36,45,43,51,22,53,39,33,30,24,18,12,5,63,55,48,27,60,41,37,16,46,35,44,21,52,32,23,11,54,26,40,15,34,20,31,10,25,14,19,9,13,8,7,6]
theorem xq:∀k,k<64→tabZ.getD (((1#64 <<< k) * 285870213051353865#64) >>> 58).toNat 0=k:=by decide
theorem mb {x:BitVec 64}(h:x≠0):∃k,k<64∧tz x=k∧x.getLsbD k=true∧∀j,j<k→x.getLsbD j=false:=by
 cases hf:(List.range 64).find? fun i=>x.getLsbD i with
 | none=>
  exfalso
  apply h
  apply BitVec.eq_of_getLsbD_eq
  intro i hi
  have:=List.find?_eq_none.1 hf i (List.mem_range.2 hi)
  simpa using this
 | some k=>
  have hk:=List.find?_some hf
  have hm:=List.mem_range.1 (List.mem_of_find?_eq_some hf)
  refine⟨k,hm,by simp[tz,hf],hk,fun j hj=>?_⟩
  have:=(List.find?_range_eq_some.1 hf).2.2 j hj
  simpa using this
theorem xr {x:BitVec 64}{k:Nat}(hk:k<64)(h:x.getLsbD k=true)(h0:∀j,j<k→x.getLsbD j=false):x &&& -x=1#64 <<< k:=by
 apply BitVec.eq_of_getLsbD_eq
 intro i hi
 rw[BitVec.getLsbD_and,BitVec.getLsbD_neg,BitVec.getLsbD_shiftLeft,BitVec.getLsbD_one]
 rcases Nat.lt_trichotomy i k with hik|hik|hik
 ·simp[h0 i hik,hik]
 ·subst hik
  have:¬∃j,j<i∧x.getLsbD j=true:=fun⟨j,hj,hb⟩=>by rw[h0 j hj] at hb;cases hb
  rw[decide_eq_false this]
  simp only[h]
  simp[hi]
 ·have:∃j,j<i∧x.getLsbD j=true:=⟨k,hik,h⟩
  rw[decide_eq_true this]
  have hne:i - k≠0:=by omega
  simp only[decide_eq_false hne,hi,decide_true,Bool.true_and,Bool.and_true,Bool.xor_true,Bool.and_false]
  cases x.getLsbD i <;> rfl
theorem xt {x:BitVec 64}(h:x≠0):(((x &&& -x) * 285870213051353865#64) >>> 58).toNat<64∧tabZ.getD (((x &&& -x) * 285870213051353865#64) >>> 58).toNat 0=tz x:=by
 obtain⟨k,hk,ht,hb,h0⟩:=mb h
 constructor
 ·have:(((x &&& -x) * 285870213051353865#64) >>> 58).toNat<64:=by
   rw[BitVec.toNat_ushiftRight,Nat.shiftRight_eq_div_pow]
   omega
  exact this
 ·rw[xr hk hb h0,xq k hk,ht]
theorem pZ {x:BitVec 64}(h:x≠0):tz x<64:=by
 obtain⟨k,hk,ht,_⟩:=mb h
 omega
def aN (S:BS):Option Nat:=(List.range 1024).find? fun i=>S.getLsbD i
theorem eJ {S:BS}:aN S=none↔S=0:=by
 constructor
 ·intro h
  apply BitVec.eq_of_getLsbD_eq
  intro i hi
  have:=List.find?_eq_none.1 h i (List.mem_range.2 hi)
  simpa using this
 ·rintro rfl
  exact List.find?_eq_none.2 fun x hx=>by simp
theorem xu {p:Nat→Bool}{n k:Nat}(hk:k<n)(h:p k=true)(h0:∀j,j<k→p j=false):(List.range n).find? p=some k:=by
 rw[List.find?_range_eq_some]
 exact⟨h,List.mem_range.2 hk,fun j hj=>by simp[h0 j hj]⟩
theorem fp {S:BS}{k:Nat}:aN S=some k↔k<1024∧S.getLsbD k=true∧∀j,j<k→S.getLsbD j=false:=by
 constructor
 ·intro h
  have:=List.find?_range_eq_some.1 h
  exact⟨List.mem_range.1 this.2.1,this.1,fun j hj=>by simpa using this.2.2 j hj⟩
 ·rintro⟨h1,h2,h3⟩
  exact xu h1 h2 h3
theorem xv {S:BS}{k:Nat}(hk:k<16)(h0:∀i,i<k→am S i=0)(h:am S k≠0):aN S=some (64 * k+tz (am S k)):=by
 obtain⟨t,ht,e,hb,hz⟩:=mb h
 rw[e]
 refine fp.2 ⟨by omega,?_,fun j hj=>?_⟩
 ·rwa [dK _ _ _ ht] at hb
 ·by_cases hjk:j / 64<k
  ·have h1:=h0 _ hjk
   have h2:=congrArg (fun v=>v.getLsbD (j % 64)) h1
   simp only[dK _ _ _ (Nat.mod_lt j (by decide:0<64)),Nat.div_add_mod] at h2
   simpa using h2
  ·have hj64:j / 64=k:=by omega
   have h1:=hz (j % 64) (by omega)
   rw[dK _ _ _ (Nat.mod_lt j (by decide))] at h1
   rw[← hj64,Nat.div_add_mod] at h1
   exact h1
theorem xw {S:BS}(h:∀i,i<16→am S i=0):S=0:=lA fun i hi=>by rw[h i hi,lC]
end Go.Mono
namespace Go.Mono
open Go Go.Proofs Go.RowKit
def Tab (w:World):Prop:=∀i,i<64→w.cell? ⟨0,i,none⟩=some (.int .u8 (tabZ.getD i 0:Nat))
theorem Tab.ext {w w':World}(h:Tab w)(e:Ext w w'):Tab w':=fun i hi=>
 (Below.cell e (p:=⟨0,i,none⟩) (World.block_lt_of_cell? w ⟨0,i,none⟩ (h i hi))).trans (h i hi)
instance {w w':World}:Ug w w' (Tab w) (Tab w'):=⟨fun e h=>h.ext e⟩
theorem Tab.lt {w:World}(h:Tab w):0<w.heap.size:=World.block_lt_of_cell? w ⟨0,0,none⟩ (h 0 (by decide))

theorem xx (x:BitVec 64)(W:World)(hT:Tab W):Calls Tryz.prog 116 #[Mono.W x] W (Post (E (I (tz x))) W):=by
 refine eN [Mono.W x] [E (Mono.W x)] Tryz.func116 Tryz.ntmps116 ?_ fun a hf=>?_
 rotate_left
 rotate_right
 ·exact arg1 rfl
 have e:=Ext.rfl' W
 refine seq <| ac <| tA hf rfl fun a hf=>aa ?_
 cases hb:(x==0#64)
 ·have hx:x≠0:=by simpa using hb
  obtain⟨h1,h2⟩:=xt hx
  obtain⟨p,hp⟩:=eqX (((x &&& -x) * 285870213051353865#64) >>> 58:BitVec 64)
  rw[← hp] at h1 h2
  refine seq <| seq ?_
  refine rgN 2 hf <| st (mv rfl) <| st ((ov (v:=0#64) rfl rfl).eq (congrArg Value.bool (hb))) <| en fun a w e' hf=>?_
  replace e:=e.tr e'
  refine aa <| ifc hf rfl (fun h=>by cases h) (fun _=>aj ?_)
  refine seq <| rgN 9 hf <| st (mv rfl) <| st (mv rfl) <| st (vn rfl) <| st (eW rfl rfl) <| st (vm (v:=285870213051353865#64) rfl rfl) <| st ((fL rfl rfl (by omega)).eq (show Mono.W _=Mono.W p from by rw[hp];rfl)) ?_
  refine st (bU xm ⟨_,T5⟩ rfl rfl (by constructor <;> omega)) ?_
  refine st (ldC T5 rfl (v:=.int .u8 (tabZ.getD p.toNat 0:Nat)) (fun w' e'=>by simpa using hT.ext (e.tr e') _ h1)) <| st (oF U5 U3 rfl) <| en fun a w e' hf=>?_
  replace e:=e.tr e'
  refine tA hf rfl fun a hf=>aa <| ak (an rfl hf rfl ?_)
  rintro v rfl
  refine⟨_,rfl,e,?_⟩
  have h3:=pZ hx
  show Value.int .i64 _=Value.int .i64 _
  rw[h2,IntWalk.i64_in _ (by omega)]
 ·have hx:x=0:=by simpa using hb
  refine seq <| seq ?_
  refine rgN 2 hf <| st (mv rfl) <| st ((ov (v:=0#64) rfl rfl).eq (congrArg Value.bool (hb))) <| en fun a w e' hf=>?_
  replace e:=e.tr e'
  refine aa <| ifT hf rfl ?_
  refine seq <| ac <| tA hf rfl fun a hf=>aa <| ak (an rfl hf rfl ?_)
  rintro v rfl
  refine⟨_,rfl,e,?_⟩
  subst hx
  rfl
def gK (S:BS):VA:=Tup [E (I ((aN S).getD 0:Nat)),E (B (aN S).isSome)]

theorem fT (S:BS)(W:World)(hT:Tab W):Calls Tryz.prog 72 #[ae S] W (Post (gK S) W):=by
 refine eN [ae S] [E (ae S)] Tryz.func72 Tryz.ntmps72 ?_ fun a hf=>?_
 rotate_left
 rotate_right
 ·exact arg1 rfl
 have e:=Ext.rfl' W
 refine seq <| ac <| tB hf rfl fun a b1 w v1 hv1 e' hb1 hs1 B1 hf=>?_
 replace e:=e.tr e'
 refine tA hf rfl fun a hf=>tA hf rfl fun a hf=>aa ?_
 subst hv1
 rw[ez] at B1
 refine seq <| seq ?_
 refine rgN 2 hf <| st (ldW T76 rfl (by assumption) rfl) <| st (mv rfl) <| en fun a w e' hf=>?_
 obtain⟨e,B1⟩:=up2 e' e B1
 refine aa ?_
 replace hf:=hf.keep [6,7]
 refine blk (aK (fun r a w=>∃k:Nat,r=16 - k∧k≤16∧Fr 19 a w [(6,E (ae S)),(7,E (I k))]∧Ext W w∧∀i,i<k→am S i=0) 16 ⟨0,rfl,by omega,hf,e,fun i hi=>by omega⟩ ?_)
 rintro r a w ⟨k,rfl,hk,hf,e,hz⟩
 by_cases hlt:k<16
 ·refine seq <| rgN 1 hf <| st ((lss rfl rfl).eq (congrArg Value.bool (show decide ((k:Int)<16)=true from decide_eq_true (by omega)))) <| en fun a w e' hf=>?_
  replace e:=e.tr e'
  refine aa <| seq <| ifc hf rfl (fun _=>aj ?_) (fun h=>by cases h)
  refine seq <| blk <| seq <| rgN 2 hf <| st (mv rfl) <| st (ju U76 T74 rfl rfl (by omega) (by simpa[aJ] using cp (am S) k hlt)) <| en fun a w e' hf=>?_
  replace e:=e.tr e'
  refine tA hf rfl fun a hf=>tA hf rfl fun a hf=>aa ?_
  cases hb:(am S k != 0#64)
  ·have hw:am S k=0:=by simpa using hb
   refine seq <| rgN 2 hf <| st (mv rfl) <| st ((lz (v:=0#64) rfl rfl).eq (congrArg Value.bool (hb))) <| en fun a w e' hf=>?_
   replace e:=e.tr e'
   refine aa <| ifc hf rfl (fun h=>by cases h) (fun _=>aj ?_)
   refine rgN 1 hf <| st (add rfl rfl (by omega)) <| en fun a w e' hf=>?_
   replace e:=e.tr e'
   refine tP hf (mv rfl) fun a w e' hf=>?_
   replace e:=e.tr e'
   refine aa ?_
   replace hf:=hf.kp [6,7]
   exact⟨16 - (k+1),by omega,k+1,rfl,by omega,by simpa using hf,e,fun i hi=>by
    by_cases h:i=k
    ·subst h;exact hw
    ·exact hz i (by omega)⟩
  ·have hw:am S k≠0:=by simpa using hb
   have hm:=xv hlt hz hw
   have htz:=pZ hw
   refine seq <| rgN 2 hf <| st (mv rfl) <| st ((lz (v:=0#64) rfl rfl).eq (congrArg Value.bool (hb))) <| en fun a w e' hf=>?_
   replace e:=e.tr e'
   refine aa <| ifT hf rfl ?_
   refine seq <| rgN 5 hf <| st (mv rfl) <| st (mul rfl rfl (by omega)) <| st (mv rfl) <| st (aw wL rfl (fun v w' e' h=>by cases h;exact xx _ w' (hT.ext (e.tr e')))) ?_
   refine st (add rfl rfl (by omega)) <| en fun a w e' hf=>?_
   replace e:=e.tr e'
   refine tA hf rfl fun a hf=>tA hf rfl fun a hf=>aa <| ak (gx rfl hf rfl rfl ?_)
   rintro u v rfl rfl
   refine⟨_,rfl,e,Tup.two ?_ ?_⟩
   ·rw[hm];simp[E,ER]
   ·rw[hm];rfl
 ·obtain rfl:k=16:=by omega
  have hm:aN S=none:=eJ.2 (xw hz)
  refine seq <| rgN 1 hf <| st ((lss rfl rfl).eq (congrArg Value.bool (show decide (((16:Nat):Int)<16)=false from rfl))) <| en fun a w e' hf=>?_
  replace e:=e.tr e'
  refine aa <| seq <| ifc hf rfl (fun h=>by cases h) (fun _=>aH ?_)
  refine seq <| ac <| tA hf rfl fun a hf=>tA hf rfl fun a hf=>aa <| ak (gx rfl hf rfl rfl ?_)
  rintro u v rfl rfl
  refine⟨_,rfl,e,Tup.two ?_ ?_⟩
  ·rw[hm];rfl
  ·rw[hm];rfl
def ai (S:BS):List Nat:=(List.range 1024).filter fun i=>S.getLsbD i
theorem aD {S:BS}{i:Nat}:i∈ai S↔i<1024∧S.getLsbD i=true:=by simp[ai,List.mem_filter]
theorem qa:ai 0=[]:=by
 refine List.filter_eq_nil_iff.2 fun i _=>by simp
theorem xy (n k:Nat)(hk:k<n):List.range n=List.range k++k::(List.range (n - (k+1))).map (fun i=>k+1+i):=by
 have h1:List.range n=List.range (k+(1+(n - (k+1)))):=congrArg List.range (by omega)
 rw[h1,List.range_add,List.range_add,List.map_append,List.map_map]
 simp[Function.comp,Nat.add_assoc]
theorem xz {S:BS}{k:Nat}(h:aN S=some k):ai S=k::ai (del S k):=by
 obtain⟨hk,hb,h0⟩:=fp.1 h
 have hfit:cq (k:Int)=true:=cV.2 ⟨by omega,by omega⟩
 have hdel:∀i,(del S (k:Int)).getLsbD i=(S.getLsbD i && !decide (i=k)):=by
  intro i
  rw[del,if_pos hfit,BitVec.getLsbD_and,BitVec.getLsbD_not,Int.toNat_natCast,ii _ _ hk]
  by_cases hi:i<1024
  ·simp[hi]
  ·simp[hi,BitVec.getLsbD_of_ge S i (by omega)]
 unfold ai
 rw[xy 1024 k hk,List.filter_append,List.filter_append,List.filter_cons_of_pos (by simpa using hb),List.filter_cons_of_neg (by simp[hdel])]
 have z1:(List.range k).filter (fun i=>S.getLsbD i)=[]:=List.filter_eq_nil_iff.2 fun i hi=>by simpa using h0 i (List.mem_range.1 hi)
 have z2:(List.range k).filter (fun i=>(del S (k:Int)).getLsbD i)=[]:=List.filter_eq_nil_iff.2 fun i hi=>by simp[hdel,h0 i (List.mem_range.1 hi)]
 rw[z1,z2,List.nil_append,List.nil_append]
 refine congrArg (k :: ·) (List.filter_congr fun i hi=>?_)
 obtain⟨j,_,rfl⟩:=List.mem_map.1 hi
 rw[hdel]
 simp
 omega
theorem xA {S:BS}(h:aN S=none):ai S=[]:=by rw[eJ.1 h];exact qa
def de (b:Nat):Value:=.func (.func 110) #[] #[.pointer (some ⟨b,0,none⟩)]
def dh (n:Nat)(S:BS):VA:=⟨fun v w=>∃b,n≤b∧v=de b∧Blk w b (aJ S) 76,fun v w w' e ⟨b,h1,h2,h3⟩=>⟨b,h1,h2,h3.ext e⟩⟩

theorem du (S:BS)(W:World):Calls Tryz.prog 62 #[ae S] W (Post (dh W.heap.size S) W):=by
 refine eN [ae S] [E (ae S)] Tryz.func62 Tryz.ntmps62 ?_ fun a hf=>?_
 rotate_left
 rotate_right
 ·exact arg1 rfl
 have e:=Ext.rfl' W
 refine seq <| ac <| tB hf rfl fun a b1 w v1 hv1 e' hb1 hs1 B1 hf=>?_
 have hle1:=Nat.le_trans e.size (Nat.le_of_eq hb1.symm)
 replace e:=e.tr e'
 refine tA hf rfl fun a hf=>aa ?_
 subst hv1
 rw[ez] at B1
 refine seq <| rgN 1 hf <| st (vp (vs:=fun _=>.pointer (some ⟨b1,0,none⟩)) (by intro x hx;simp at hx;subst hx;rfl)) ?_
 refine en fun a w e' hf=>?_
 obtain⟨e,B1⟩:=up2 e' e B1
 refine tA hf rfl fun a hf=>aa <| ak (an rfl hf rfl ?_)
 rintro v rfl
 exact⟨_,rfl,e,b1,hle1,by simp[de],B1⟩

def aW (B b:Nat):Prop:=B≤b∧b<B+3
structure Kp (B:Nat)(w w':World):Prop where
 os:w'.os=w.os
 tape:w'.tape=w.tape
 output:w'.output=w.output
 size:w.heap.size≤w'.heap.size
 same:∀b,b<w.heap.size→¬aW B b→w'.heap[b]?=w.heap[b]?
structure Kh (B:Nat)(w w':World):Prop where
 size:w.heap.size≤w'.heap.size
 same:∀b,b<w.heap.size→aW B b→w'.heap[b]?=w.heap[b]?
theorem Kp.rfl' (B:Nat)(w:World):Kp B w w:=⟨rfl,rfl,rfl,Nat.le_refl _,fun _ _ _=>rfl⟩
theorem Kp.tr {B:Nat}{a b c:World}(h:Kp B a b)(k:Kp B b c):Kp B a c:=
 ⟨k.os.trans h.os,k.tape.trans h.tape,k.output.trans h.output,Nat.le_trans h.size k.size,fun x hx hh=>(k.same x (Nat.lt_of_lt_of_le hx h.size) hh).trans (h.same x hx hh)⟩
theorem Kp.ext {B:Nat}{w w':World}(e:Ext w w'):Kp B w w':=⟨e.os,e.tape,e.output,e.size,fun b hb _=>e.block b hb⟩
theorem Kp.gr {B b:Nat}{w w':World}(h:w.grownBy w' (some b))(hb:aW B b):Kp B w w':=
 ⟨h.os,h.tape,h.output,h.size,fun x hx hh=>h.block x hx (fun e=>by cases e;exact hh hb)⟩
theorem Kp.put {B b:Nat}{w:World}{o:Obj}(hb:aW B b):Kp B w (w.putObj b o):=
 ⟨rfl,rfl,rfl,by simp,fun x hx hh=>World.putObj_heap_other (fun e=>by subst e;exact hh hb)⟩
theorem Kh.rfl' (B:Nat)(w:World):Kh B w w:=⟨Nat.le_refl _,fun _ _ _=>rfl⟩
theorem Kh.tr {B:Nat}{a b c:World}(h:Kh B a b)(k:Kh B b c):Kh B a c:=⟨Nat.le_trans h.size k.size,fun x hx hh=>(k.same x (Nat.lt_of_lt_of_le hx h.size) hh).trans (h.same x hx hh)⟩
theorem Kh.ext {B:Nat}{w w':World}(e:Ext w w'):Kh B w w':=⟨e.size,fun b hb _=>e.block b hb⟩
instance {B:Nat}{a w w':World}:Ug w w' (Kh B a w) (Kh B a w'):=⟨fun e h=>h.tr (Kh.ext e)⟩
theorem Kh.gr {B b:Nat}{w w':World}(h:w.grownBy w' (some b))(hb:¬aW B b):Kh B w w':=⟨h.size,fun x hx hh=>h.block x hx (fun e=>by cases e;exact hb hh)⟩
theorem Ext.kp {B:Nat}{W w w':World}(e:Ext W w)(k:Kp B w w')(h:W.heap.size≤B):Ext W w':=
 Below.trans e ⟨k.os,k.tape,k.output,k.size,fun b hb=>k.same b (Nat.lt_of_lt_of_le hb e.size) (fun hh=>by have:=hh.1;omega)⟩
theorem Blk.kp {B b:Nat}{w w':World}{cs:Array Value}{t:TypeId}(h:Blk w b cs t)(k:Kp B w w')(hb:¬aW B b):Blk w' b cs t:=(k.same b h.lt hb).trans h
theorem Blk.kh {B b:Nat}{w w':World}{cs:Array Value}{t:TypeId}(h:Blk w b cs t)(k:Kh B w w')(hb:aW B b):Blk w' b cs t:=(k.same b h.lt hb).trans h
theorem Tab.kp {B:Nat}{w w':World}(h:Tab w)(k:Kp B w w')(hB:0<B):Tab w':=fun i hi=>
 (World.cell?_of_block (k.same 0 h.lt (fun hh=>by have:=hh.1;omega))).trans (h i hi)
theorem xB {P:Program}{L:Env}{ty:TypeId}{pos:String}{aft:Array Edge}{r:Option Nat}{ds:List Deferred}{ops:Array Oper}{rest:List Oper}{Q:Exit→Act→World→Prop}{n:Nat}{a:Act}{w:World}{x y:Operand}{tys:Array TypeId}{d l:Nat}{v:Value}
  {R:Value→World→Prop} (hf:FrD n ds a w L) (hx:opd L x=some (E (.func (.yield l) #[] #[]))) (hy:opd L y=some (E v))
  (h:∃fn tmps assign body,(Instr.yield l #[v]).run P w=.ok (.round l fn tmps assign body) w∧RoundIn Fence.wide 0 P l fn tmps assign body w (fun e w2=>∃u,e=.returned u∧R u w2))
  (k:∀u w2,R u w2→wpListIn (FW r) 0 P ops Q rest (a.put (some d) u) w2) :
  wpListIn (FW r) 0 P ops Q (⟨some d,.call ⟨.value x,#[y],tys⟩,ty,pos,aft,none⟩::rest) a w:=
 wpListIn_plain rfl fun K hK=>by
  obtain⟨fn,tmps,assign,body,hrun,hR⟩:=h
  have hxv:a.eval x=.func (.yield l) #[] #[]:=hf.opd x _ hx
  have hyv:a.eval y=v:=hf.opd y _ hy
  refine OpR.wp (R:=R) ?_ (fun u w2 hu=>hK _ _ (k u w2 hu))
  simp[OpR,execOp,resolve,hxv,hyv,Deferred.ofValue,invoke,hrun]
  exact hR
theorem xC (S:BS)(l b B0:Nat)(W:World)(I:List Nat→World→Prop)(X:World→Prop)(hT:Tab W)(hb:Blk W b (aJ S) 76)(hB:b<B0)(hBW:B0≤W.heap.size)(hW3:W.heap.size<B0+3)(h0:I [] W)
  (hI:∀(s:List Nat) (w w':World),I s w→Kp B0 w w'→W.heap.size≤w.heap.size→(∀x,x<W.heap.size→w'.heap[x]?=w.heap[x]?)→I s w')
  (hX:∀w w',X w→Ext w w'→X w')
  (hE:∀s w,I s w→Tab w)
  (hy:∀(s:List Nat) (x:Nat) (rest:List Nat) (w:World),ai S=s++x::rest→I s w→W.heap.size<w.heap.size→∃fn tmps assign body,(Instr.yield l #[Mono.I x]).run Tryz.prog w=.ok (.round l fn tmps assign body) w ∧
   RoundIn Fence.wide 0 Tryz.prog l fn tmps assign body w (fun e w2=>∃u,e=.returned u∧((u=.bool true∧I (s++[x]) w2∧w.heap.size≤w2.heap.size∧w2.heap[W.heap.size]?=w.heap[W.heap.size]?)∨(u=.bool false∧X w2)))) :
  Calls Tryz.prog 110 #[.func (.yield l) #[] #[],.pointer (some ⟨b,0,none⟩)] W (fun e w'=>e=.returned (.tuple #[])∧(I (ai S) w'∨X w')):=by
 refine eN [.func (.yield l) #[] #[],.pointer (some ⟨b,0,none⟩)] [E (.func (.yield l) #[] #[]),E (.pointer (some ⟨b,0,none⟩))] Tryz.func110 Tryz.ntmps110 ?_ fun a hf=>?_
 rotate_left
 dsimp only[params,Nat.reduceAdd] at hf
 rotate_right
 ·exact arg2 rfl rfl
 have e:=Ext.rfl' W
 refine seq <| ac <| uS T76 hf rfl hb (bc _) (by decide) fun a hf=>tL I76 hf fun a b3 w e' hb3 hs3 B3 hf=>?_
 obtain⟨e,hb⟩:=up2 e' e hb
 haveI hinr:∀G0,InR (GB W G0) (some b3):=fun G0=>InR.gb (by omega)
 refine aF T76 hf rfl rfl (bk _) B3 rfl (rfl) fun w hg hsz B3 hf=>?_
 obtain⟨e,hb⟩:=gr2 hg e hb
 refine aa ?_
 have k0:I [] w:=hI [] W w h0 (Kp.ext ⟨e.os,e.tape,e.output,e.size,e.block⟩) (Nat.le_refl _) (fun x hx=>e.block x hx)
 obtain rfl:b3=W.heap.size:=by omega
 have hlt3:W.heap.size<w.heap.size:=by omega
 have hT:=hE _ _ k0
 refine seq <| rgN 5 hf <| st (ldW T76 rfl (by assumption) rfl) <| st (aw fP rfl (fun v w' e' h=>by cases h;exact fT S w' (hT.ext e'))) ?_
 refine st (mv rfl) <| st (bs rfl rfl) <| st (bs rfl rfl) <| en fun a w e' hf=>?_
 replace hT:=hE _ _ k0
 replace k0:=hI _ _ _ k0 (Kp.ext e') (by omega) (fun x hx=>e'.block x (by omega))
 replace hlt3:=Nat.lt_of_lt_of_le hlt3 e'.size
 replace B3:=B3.ext e'
 refine tA hf rfl fun a hf=>tA hf rfl fun a hf=>aa ?_
 replace hf:=hf.keep [0,3,4,5]
 refine blk (aK (fun r a w=>∃(T:BS) (s:List Nat),r=(ai T).length∧ai S=s++ai T∧Fr 25 a w [(0,E (.func (.yield l) #[] #[])),(3,E (.pointer (some ⟨W.heap.size,0,none⟩))),(4,E (Mono.I ((aN T).getD 0:Nat))),(5,E (B (aN T).isSome))] ∧
  I s w∧Blk w W.heap.size (aJ T) 76∧W.heap.size<w.heap.size) (ai S).length ⟨S,[],Eq.refl (ai S).length,(List.nil_append _).symm,hf,k0,B3,hlt3⟩ ?_)
 rintro r a w ⟨T,s,hr,hs,hf,k0,B3,hlt3⟩
 cases hm:aN T with
 | none=>
  rw[hm] at hf
  refine seq <| seq ?_
  refine rgN 1 hf <| st (mv rfl) <| en fun a w e' hf=>?_
  replace hT:=hE _ _ k0
  replace k0:=hI _ _ _ k0 (Kp.ext e') (by omega) (fun x hx=>e'.block x (by omega))
  replace hlt3:=Nat.lt_of_lt_of_le hlt3 e'.size
  replace B3:=B3.ext e'
  refine aa <| ifc hf rfl (fun h=>by cases h) (fun _=>aH ?_)
  simp only[Exit.then,Exit.inBlock,↓reduceIte]
  rw[xA hm,List.append_nil] at hs
  exact lq rfl hf ⟨rfl,.inl (hs▸k0)⟩
 | some k=>
  rw[hm] at hf
  have he:=xz hm
  refine seq <| seq ?_
  refine rgN 1 hf <| st (mv rfl) <| en fun a w e' hf=>?_
  replace hT:=hE _ _ k0
  replace k0:=hI _ _ _ k0 (Kp.ext e') (by omega) (fun x hx=>e'.block x (by omega))
  replace hlt3:=Nat.lt_of_lt_of_le hlt3 e'.size
  replace B3:=B3.ext e'
  refine aa <| ifc hf rfl (fun _=>aj ?_) (fun h=>by cases h)
  refine seq <| blk ?_
  refine seq <| seq ?_
  refine rgN 2 hf <| st (mv rfl) <| st (mv rfl) <| en fun a w e' hf=>?_
  replace hT:=hE _ _ k0
  replace k0:=hI _ _ _ k0 (Kp.ext e') (by omega) (fun x hx=>e'.block x (by omega))
  replace hlt3:=Nat.lt_of_lt_of_le hlt3 e'.size
  replace B3:=B3.ext e'
  refine xB hf rfl rfl (hy s k (ai (del T k)) w (by rw[hs,he]) k0 hlt3) fun u w2 hu=>?_
  rcases hu with ⟨rfl,kI,hsz,hrb⟩|⟨rfl,kX⟩
  ·replace hf:=(hf.pure w2).put (d:=some 20) (Ext.rfl' _) (by rintro _ ⟨⟩;decide) (A:=E (.bool true)) rfl
   dsimp only[push] at hf
   replace k0:=kI
   replace B3:Blk w2 W.heap.size (aJ T) 76:=hrb.trans B3
   replace hlt3:=Nat.lt_of_lt_of_le hlt3 hsz
   refine tP hf (aZ rfl) fun a w e' hf=>?_
   replace hT:=hE _ _ k0
   replace k0:=hI _ _ _ k0 (Kp.ext e') (by omega) (fun x hx=>e'.block x (by omega))
   replace hlt3:=Nat.lt_of_lt_of_le hlt3 e'.size
   replace B3:=B3.ext e'
   refine aa <| ifc hf rfl (fun h=>by cases h) (fun _=>aj ?_)
   replace hf:=hf.kp [0,3,4]
   refine rgN 2 hf <| st (ldW T76 rfl (by assumption) rfl) <| st (mv rfl) <| en fun a w e' hf=>?_
   replace hT:=hE _ _ k0
   replace k0:=hI _ _ _ k0 (Kp.ext e') (by omega) (fun x hx=>e'.block x (by omega))
   replace hlt3:=Nat.lt_of_lt_of_le hlt3 e'.size
   replace B3:=B3.ext e'
   refine tP hf (ap gG rfl rfl (fun v u w' e' h h'=>by cases h;cases h';exact gJ T k w')) fun a w e' hf=>?_
   replace hT:=hE _ _ k0
   replace k0:=hI _ _ _ k0 (Kp.ext e') (by omega) (fun x hx=>e'.block x (by omega))
   replace hlt3:=Nat.lt_of_lt_of_le hlt3 e'.size
   replace B3:=B3.ext e'
   refine aF T76 hf rfl rfl (bk _) B3 rfl (rfl) fun w hg hsz B3 hf=>?_
   replace hT:=hE _ _ k0
   replace k0:=hI _ _ _ k0 (Kp.gr hg ⟨hBW,hW3⟩) (by omega) (fun x hx=>hg.block x (by omega) (by simp;omega))
   replace hlt3:=Nat.lt_of_lt_of_le hlt3 hg.size
   refine aa ?_
   replace hf:=hf.keep [0,3]
   have hT:=hE _ _ k0
   refine rgN 5 hf <| st (ldW T76 rfl (by assumption) rfl) <| st (aw fP rfl (fun v w' e' h=>by cases h;exact fT _ w' (hT.ext e'))) ?_
   refine st (mv rfl) <| st (bs rfl rfl) <| st (bs rfl rfl) <| en fun a w e' hf=>?_
   replace hT:=hE _ _ k0
   replace k0:=hI _ _ _ k0 (Kp.ext e') (by omega) (fun x hx=>e'.block x (by omega))
   replace hlt3:=Nat.lt_of_lt_of_le hlt3 e'.size
   replace B3:=B3.ext e'
   refine tA hf rfl fun a hf=>tA hf rfl fun a hf=>aa ?_
   replace hf:=hf.keep [0,3,4,5]
   refine⟨(ai (del T k)).length,by rw[hr,he];exact Nat.lt_succ_self _,del T k,s++[k],Eq.refl (ai (del T k)).length,by rw[hs,he,List.append_assoc];exact congrArg (s ++ ·) (List.singleton_append).symm,hf,k0,B3,hlt3⟩
  ·replace hf:=(hf.pure w2).put (d:=some 20) (Ext.rfl' _) (by rintro _ ⟨⟩;decide) (A:=E (.bool false)) rfl
   refine tP hf (aZ rfl) fun a w e' hf=>?_
   replace kX:=hX _ _ kX e'
   refine aa <| ifT hf rfl ?_
   refine ak ?_
   simp only[Exit.then,Exit.inBlock]
   exact uR rfl hf ⟨rfl,.inr kX⟩
def Rd (J:List Nat→World→Prop)(X:Exit→World→Prop)(s:List Nat)(x B:Nat)(w3:World):Exit→Act→World→Prop
 | .normal,_,w=>J (s++[x]) w∧Kh B w3 w
 | .ret,_,w=>X .ret w∧Kh B w3 w
 | .exit id,_,w=>X (.exit id) w∧Kh B w3 w
 | _,_,_=>False

def mc:Exit→Option Code
 | .ret=>some .ret
 | .exit id=>some (.exit id)
 | _=>none

section
variable {g:Operand}{p:Nat}{assign body:Code}{Q:Exit→Act→World→Prop}{n b:Nat}{ds:List Deferred}{a:Act}{w:World}{S:BS}{L:Env}{r:Option Nat}
theorem dx {f:FuncId}{fn:Func}{c:Code}{n:Nat}{args:List Value}{As:List VA}{w:World}{R:Ending→World→Prop}(hf:Tryz.prog.funcs[f]?=some fn)(hb:fn.body=some c)(hn:fn.ntmps=n)(hl:args.length≤n)
  (hA:∀(i:Nat) (A:VA),As[i]?=some A→A.p (args.getD i undef) w) (h:∀a,Fr n a w (params 0 As)→c.wpIn (FW none) 0 Tryz.prog (bodyPostM (FW none) 0 Tryz.prog fn R) a w) (hlen:As.length≤args.length):Calls Tryz.prog f args.toArray w R:=by
 refine (callsIn_wide (n:=0)).1 (callsIn_of_wp_marks (F:=Fence.wide) hf hb trivial (h _ ⟨?_,rfl,fun t A ht=>?_⟩))
 ·simp[hn];omega
 ·obtain⟨_,h2⟩:=ln As 0 t A ht
  rw[Nat.sub_zero] at h2
  have hlt:t<As.length:=(List.getElem?_eq_some_iff.1 h2).1
  have:=hA t A h2
  have e:(args.toArray++Array.replicate (fn.ntmps - args.toArray.size) undef).getD t undef=args.getD t undef:=by
   have:t<args.length:=by omega
   simp[Array.getElem?_append,this]
  simp only[Act.eval,e]
  exact this
def bS (l:List Nat):List Deferred:=l.map fun D=>{ target:=.collected D,args := #[] }
def Ds (l:List Nat)(w:World):Prop:=l.Nodup∧∀D∈l,w.heap[D]?=some (.deferred (some []))
def shut:List Nat→World→World
 | [],w=>w
 | D::l,w=>shut l (w.putObj D (.deferred none))
theorem fU:∀(l:List Nat) (w:World) (b:Nat),b ∉ l→(shut l w).heap[b]?=w.heap[b]?
 | [],w,b,_=>rfl
 | D::l,w,b,h=>by
  rw[shut,fU l _ b (fun h'=>h (by simp[h'])),World.putObj_heap_other (fun e=>h (by simp[e]))]
theorem md:∀(l:List Nat) (w:World),(shut l w).os=w.os∧(shut l w).tape=w.tape∧(shut l w).output=w.output∧(shut l w).heap.size=w.heap.size
 | [],w=>⟨rfl,rfl,rfl,rfl⟩
 | D::l,w=>by
  obtain⟨h1,h2,h3,h4⟩:=md l (w.putObj D (.deferred none))
  exact⟨h1,h2,h3,by rw[shut,h4];simp⟩
theorem Ext.shut {W w:World}{l:List Nat}(e:Ext W w)(h:∀D∈l,W.heap.size≤D):Ext W (Mono.shut l w):=by
 obtain⟨h1,h2,h3,h4⟩:=md l w
 exact Below.trans e ⟨h1,h2,h3,by rw[h4];exact Nat.le_refl _,fun b hb=>fU l w b (fun hm=>by have:=h b hm;omega)⟩
theorem gL {fn:Func}{tmps:Array Value}{R:Ending→World→Prop}{v:Value}:∀(l:List Nat) (w:World),Ds l w→(results fn tmps).run Tryz.prog (shut l w)=.ok v (shut l w)→R (.returned v) (shut l w) →
  LeavesInM (FW none) 0 Tryz.prog fn tmps R (bS l) .returning w
 | [],w,_,hr,hR=>⟨v,hr,hR⟩
 | D::l,w,hD,hr,hR=>by
  have h1:=hD.2 D (by simp)
  have hnd:=List.nodup_cons.1 hD.1
  refine⟨by simp,.inl ⟨D,_,rfl,run_takeDeferred h1,gL l _ ⟨hnd.2,fun d hd=>?_⟩ hr hR⟩⟩
  rw[World.putObj_heap_other (fun e=>by subst e;exact hnd.1 hd)]
  exact hD.2 d (by simp[hd])
end

theorem Kp.chg {B:Nat}{w w':World}(k:Kp B w w'):Chg (aW B) w w':=⟨k.os,k.tape,k.output,k.size,fun b hb hh=>k.same b hb hh⟩
theorem ed (l:List Nat)(w:World):Chg (fun c=>c∈l) w (shut l w):=by
 obtain⟨h1,h2,h3,h4⟩:=md l w
 exact⟨h1,h2,h3,by rw[h4];exact Nat.le_refl _,fun b hb hS=>fU l w b hS⟩
theorem Tab.gr {w w':World}{b:Nat}(h:Tab w)(hg:w.grownBy w' (some b))(hb:0<b):Tab w':=fun i hi=>(World.cell?_of_block (hg.block 0 h.lt (by simp;omega))).trans (h i hi)
instance {w w':World}{b:Nat}:Gg b w w' (Tab w) (0<b) (Tab w'):=⟨fun g s h=>h.gr g s⟩
theorem Tab.ch {w w':World}{S:Nat→Prop}(h:Tab w)(c:Chg S w w')(hS:¬S 0):Tab w':=fun i hi=>(World.cell?_of_block (c.block 0 h.lt hS)).trans (h i hi)
theorem Tab.gro {w w':World}{row:Option Nat}(h:Tab w)(hg:w.grownBy w' row)(hb:∀b,row=some b→0<b):Tab w':=fun i hi=>(World.cell?_of_block (hg.block 0 h.lt (fun e=>by have:=hb 0 e.symm;omega))).trans (h i hi)
theorem Dv.gro {α:Type}{e:Enc α}{G:Nat→Prop}{x:α}{v:Value}{w w':World}{row:Option Nat}(h:(Dv e G x).p v w)(hg:w.grownBy w' row)(hG:∀b,row=some b→G b):(Dv e G x).p v w':=by
 obtain⟨cs,h1,h2⟩:=h
 exact⟨cs,Enc.gro h1 hg hG,h2⟩
theorem Kh.gro {B:Nat}{w w':World}{row:Option Nat}(hg:w.grownBy w' row)(h:∀b,row=some b→¬aW B b):Kh B w w':=⟨hg.size,fun x hx hh=>hg.block x hx (fun e=>h x e.symm hh)⟩
theorem xD {v v':Value}{n B:Nat}(h:v'.ownBlock=v.ownBlock∨v'.ownBlock=some n)(hv:∀g,v.ownBlock=some g→¬aW B g)(hn:B+3≤n):∀g,v'.ownBlock=some g→¬aW B g:=fun g hg=>by
 rcases h with h|h
 ·rw[h] at hg;exact hv g hg
 ·rw[h] at hg
  cases hg
  intro hh
  have:=hh.2
  omega
theorem Chg.tr2 {S T:Nat→Prop}{W w w':World}(h:Chg S W w)(k:Chg T w w')(hT:∀b,T b→S b∨W.heap.size≤b):Chg S W w':=
 ⟨k.os.trans h.os,k.tape.trans h.tape,k.output.trans h.output,Nat.le_trans h.size k.size,fun b hb hS=>(k.block b (Nat.lt_of_lt_of_le hb h.size) (fun ht=>(hT b ht).elim hS (fun h=>by omega))).trans (h.block b hb hS)⟩

theorem fq (S:BS):(ai S).length≤1024:=by
 have:=List.length_filter_le (fun i=>S.getLsbD i) (List.range 1024)
 simpa[ai] using this

theorem qb (S:BS)(n:Int)(k:Nat)(hk:k<1024):(ins S n).getLsbD k=(S.getLsbD k || decide (n=(k:Int))):=by
 unfold ins
 by_cases hf:cq n=true
 ·have h:=cV.1 hf
  rw[if_pos hf,BitVec.getLsbD_or,ii _ _ (by omega)]
  congr 1
  rw[decide_eq_decide];omega
 ·rw[if_neg hf]
  have:¬n=(k:Int):=fun h=>hf (cV.2 (by omega))
  simp[this]
theorem qc (k:Nat)(hk:k<1024):∀(l:List Int) (S:BS),(l.foldl ins S).getLsbD k=(S.getLsbD k || decide ((k:Int)∈l))
 | [],S=>by simp
 | x::l,S=>by
  rw[List.foldl_cons,qc k hk l,qb _ _ _ hk,Bool.or_assoc]
  congr 1
  by_cases h1:x=(k:Int)
  ·simp[h1]
  ·have:¬(k:Int)=x:=Ne.symm h1
   simp[h1,this]
theorem xE {S T:BS}(h:∀k,k<1024→(S.getLsbD k=true↔T.getLsbD k=true)):S=T:=
 BitVec.eq_of_getLsbD_eq fun k hk=>Bool.eq_iff_iff.2 (h k hk)
theorem Ds.ne {D:List Nat}{w:World}(h:Ds D w){b:Nat}{cs:Array Value}{t:TypeId}(hb:Blk w b cs t):¬b∈D:=fun hm=>by
 have h1:=h.2 b hm
 unfold Blk at hb
 rw[hb] at h1
 cases h1
theorem Ds.lt {D:List Nat}{w:World}(h:Ds D w){b:Nat}(hm:b∈D):b<w.heap.size:=(Array.getElem?_eq_some_iff.1 (h.2 b hm)).1
theorem Ds.ch {D:List Nat}{w w':World}{S:Nat→Prop}(h:Ds D w)(c:Chg S w w')(hS:∀d∈D,¬S d):Ds D w':=⟨h.1,fun d hd=>(c.block d (h.lt hd) (hS d hd)).trans (h.2 d hd)⟩
theorem Ds.ext {D:List Nat}{w w':World}(h:Ds D w)(e:Ext w w'):Ds D w':=⟨h.1,fun d hd=>(e.block d (h.lt hd)).trans (h.2 d hd)⟩
instance {D:List Nat}{w w':World}:Ug w w' (Ds D w) (Ds D w'):=⟨fun e h=>h.ext e⟩
theorem Ds.gr {D:List Nat}{w w':World}{b:Nat}(h:Ds D w)(hg:w.grownBy w' (some b))(hb:¬b∈D):Ds D w':=⟨h.1,fun d hd=>(hg.block d (h.lt hd) (fun he=>hb (by cases he;exact hd))).trans (h.2 d hd)⟩
theorem Ds.nil (w:World):Ds [] w:=⟨List.nodup_nil,fun d hd=>by cases hd⟩
theorem Ds.cons {D:List Nat}{w:World}{d:Nat}(h:Ds D w)(hd:w.heap[d]?=some (.deferred (some [])))(hn:¬d∈D):Ds (d::D) w:=
 ⟨List.nodup_cons.2 ⟨hn,h.1⟩,fun x hx=>by rcases List.mem_cons.1 hx with rfl|hx;exact hd;exact h.2 x hx⟩
theorem Blk.shut {w:World}{b:Nat}{cs:Array Value}{t:TypeId}{D:List Nat}(h:Blk w b cs t)(hb:¬b∈D):Blk (shut D w) b cs t:=(fU D w b hb).trans h
theorem me {fn:Func}{t u s:Nat}{R:Ending→World→Prop}{n:Nat}{a:Act}{w:World}{b:Nat}{cs:Array Value}{bt:TypeId}{L:Env}{D:List Nat}(hr:fn.results = #[.cell t u])(ht:TI Tryz.prog u true s)(hf:FrD n (bS D) a w L)(h:aL L t=some (E (.pointer (some ⟨b,0,none⟩))))
  (hb:Blk w b cs bt) (hs:cs.size=s) (hD:Ds D w) (hR:R (.returned (.agg cs)) (shut D w)):bodyPostM (FW none) 0 Tryz.prog fn R .ret a w:=by
 have hv:a.tmps.getD t undef=.pointer (some ⟨b,0,none⟩):=hf.val t _ h
 obtain⟨d,h1,h2⟩:=ht.u
 show LeavesInM _ _ _ _ _ _ _ _ _
 rw[hf.defers]
 exact gL D w hD (results_cell_row hr a.tmps (shut D w) b bt cs (0,0) d hv (hb.shut (hD.ne hb)) h1 (by cases d <;> simp_all) (by rw[ht.s,hs])) hR
theorem jJ {fn:Func}{t:Nat}{R:Ending→World→Prop}{n:Nat}{a:Act}{w:World}{v:Value}{L:Env}{D:List Nat}(hr:fn.results = #[.tmp t])(hf:FrD n (bS D) a w L)(h:aL L t=some (E v))
  (hD:Ds D w) (hR:R (.returned v) (shut D w)):bodyPostM (FW none) 0 Tryz.prog fn R .ret a w:=by
 have hv:a.tmps.getD t undef=v:=hf.val t _ h
 show LeavesInM _ _ _ _ _ _ _ _ _
 rw[hf.defers]
 exact gL D w hD (by rw[← hv];exact results_tmp hr _ _ _) hR
theorem ee {fn:Func}{t u:Nat}{R:Ending→World→Prop}{n:Nat}{a:Act}{w:World}{b:Nat}{v:Value}{bt:TypeId}{L:Env}{D:List Nat}(hr:fn.results = #[.cell t u])(ht:TI Tryz.prog u false 1)(hf:FrD n (bS D) a w L)(h:aL L t=some (E (.pointer (some ⟨b,0,none⟩))))
  (hb:Blk w b #[v] bt) (hD:Ds D w) (hR:R (.returned v) (shut D w)):bodyPostM (FW none) 0 Tryz.prog fn R .ret a w:=by
 have hv:a.tmps.getD t undef=.pointer (some ⟨b,0,none⟩):=hf.val t _ h
 have hv':a.tmps[t]?.getD undef=.pointer (some ⟨b,0,none⟩):=by simpa using hv
 have hc:(shut D w).cell? ⟨b,0,none⟩=some v:=by rw[(hb.shut (hD.ne hb)).cell 0];rfl
 show LeavesInM _ _ _ _ _ _ _ _ _
 rw[hf.defers]
 exact gL D w hD (by simp[results,hr,hv',asAddr,fJ ht hc]) hR
theorem xF {fn:Func}{R:Ending→World→Prop}{n:Nat}{a:Act}{w:World}{L:Env}{D:List Nat}(hr:fn.results = #[])(hf:FrD n (bS D) a w L)(hD:Ds D w)(hR:R (.returned (.tuple #[])) (shut D w)):bodyPostM (FW none) 0 Tryz.prog fn R .normal a w:=by
 show LeavesInM _ _ _ _ _ _ _ _ _
 rw[hf.defers]
 exact gL D w hD (results_none hr _ _ _) hR
end Go.Mono
namespace Go.Mono
open Go Go.Proofs Go.RowKit Go.Gr
def dO (l:List VT)(n:Int):Int:=match l.findIdx? (fun y=>decide (y.1=n)) with
 | some i=>(i:Int)
 | none => -1
def gM (y:ET)(u v:Int):Bool:=(y.1.1==u&&y.1.2==v) || (y.1.1==v&&y.1.2==u)
def cr (l:List ET)(u v:Int):Int:=match l.findIdx? (fun y=>gM y u v) with
 | some i=>(i:Int)
 | none => -1
theorem qd {α:Type}{p:α→Bool}{l:List α}{k:Nat}{x:α}(h:∀y∈l.take k,p y=false)(hx:l[k]?=some x)(hp:p x=true):l.findIdx? p=some k:=by
 rw[List.findIdx?_eq_some_iff_getElem]
 obtain⟨hk,rfl⟩:=List.getElem?_eq_some_iff.1 hx
 refine⟨hk,hp,fun j hj=>?_⟩
 have:=h (l[j]'(by omega)) (by rw[List.mem_take_iff_getElem];exact⟨j,by omega,rfl⟩)
 simp[this]
theorem qe {α:Type}{p:α→Bool}{l:List α}(h:∀y∈l.take l.length,p y=false):l.findIdx? p=none:=by
 rw[List.findIdx?_eq_none_iff]
 intro y hy
 rw[List.take_length] at h
 simp[h y hy]
theorem mf {α:Type}{p:α→Bool}{l:List α}{k:Nat}{x:α}(h:∀y∈l.take k,p y=false)(hx:l[k]?=some x)(hp:p x=false):∀y∈l.take (k+1),p y=false:=by
 rw[bA hx]
 intro y hy
 rcases List.mem_append.1 hy with h1|h1
 ·exact h y h1
 ·rw[List.mem_singleton] at h1;rw[h1];exact hp
theorem xG {G:Nat→Prop}(g:GT)(n:Int)(v:Value)(W:World)(h:(Dv gtE G g).p v W)(hl:g.1.length≤100000) :
  Calls Tryz.prog 118 #[v,I n] W (Post (E (I (dO g.1 n))) W):=by
 refine eN [v,I n] [Dv gtE G0 g,E (I n)] Tryz.func118 Tryz.ntmps118 ?_ fun a hf=>?_
 rotate_left
 rotate_right
 ·exact arg2 (Dv.weak h fun b _ hb=>hb.elim) rfl
 have e:=Ext.rfl' W
 refine seq <| ac <| fc hf rfl (by decide) (fun _ h=>h.elim) fun a w e' hf=>?_
 replace e:=e.tr e'
 refine tA hf rfl fun a hf=>aa ?_
 refine seq <| seq ?_
 refine ac <| tA hf rfl fun a hf=>aa ?_
 replace hf:=hf.keep [1,2,4,5]
 refine blk (aK (fun r0 a w=>∃(k:Nat) ,r0=g.1.length - k∧k≤g.1.length∧Fr 22 a w [(1,E (I n)),(2,Dv (ptE gtE) G0 (some g)),(4,E (I 0)),(5,E (I k))]∧Ext W w∧(∀y∈g.1.take k,decide (y.1=n)=false)) g.1.length ⟨0,rfl,by omega,hf,e,(by simp)⟩ ?_)
 rintro r0 a w ⟨k,rfl,hk,hf,e,hn⟩
 refine seq <| seq ?_
 refine rgN 5 hf <| st (mv rfl) <| st (aB U25 rfl T22 (by decide) (Fld.fst Fld.refl) (isR rfl)) <| st (ldD T22 (isR rfl)) <| st (aI U22 (isR rfl)) <| st (lss rfl rfl) <| en fun a w e' hf=>?_
 replace e:=e.tr e'
 refine aa <| ifc hf rfl (fun hc=>aj ?_) (fun hc=>aH ?_)
 rotate_left
 rotate_left
 ·have hlt:=ltC hc
  replace hf:=hf.keep [1,2,4,5]
  refine seq <| blk ?_
  have hg:=List.getElem?_eq_getElem hlt
  generalize g.1[k]=x at hg
  refine seq <| rgN 8 hf <| st (aB U25 rfl T22 (by decide) (Fld.fst Fld.refl) (isR rfl)) <| st (ldD T22 (isR rfl)) <| st (mv rfl) <| st (aG U22 S45 (isR rfl) rfl (by omega) (hg)) <| st (aB U45 rfl T3 (by decide) (Fld.fst Fld.refl) (isR rfl)) <| st (ldI T3 (isR rfl)) <| st (mv rfl) <| st (eql rfl rfl) <| en fun a w e' hf=>?_
  replace e:=e.tr e'
  refine aa <| ifc hf rfl (fun hb=>?_) (fun hb=>?_)
  ·refine seq <| rgN 1 hf <| st (mv rfl) <| en fun a w e' hf=>?_
   replace e:=e.tr e'
   refine tA hf rfl fun a hf=>aa <| ak <| an rfl hf rfl ?_
   rintro _ rfl
   exact⟨_,rfl,e,(congrArg I (by rw[dO,qd hn hg (by simpa using hb)]))⟩
  ·refine aj <| rgN 2 hf <| st (mv rfl) <| st ((add rfl rfl (by omega)).eq (iN k)) <| en fun a w e' hf=>?_
   replace e:=e.tr e'
   refine tA hf rfl fun a hf=>aa ?_
   replace hf:=hf.keep [1,2,4,5]
   refine⟨_,?_,k+1,rfl,by omega,hf,e,?_⟩
   ·omega
   exact mf hn hg (by simpa using hb)
 ·obtain rfl:=dnE hc hk
  refine seq <| ac <| tA hf rfl fun a hf=>aa <| ak <| an rfl hf rfl ?_
  rintro _ rfl
  exact⟨_,rfl,e,(congrArg I (by rw[dO,qe hn]))⟩
theorem jK {G:Nat→Prop}(g:GT)(m n:Int)(v:Value)(W:World)(h:(Dv gtE G g).p v W)(hl:g.2.length≤100000) :
  Calls Tryz.prog 115 #[v,I m,I n] W (Post (E (I (cr g.2 m n))) W):=by
 refine eN [v,I m,I n] [Dv gtE G0 g,E (I m),E (I n)] Tryz.func115 Tryz.ntmps115 ?_ fun a hf=>?_
 rotate_left
 rotate_right
 ·exact eI (Dv.weak h fun b _ hb=>hb.elim) rfl rfl
 have e:=Ext.rfl' W
 refine seq <| ac <| fc hf rfl (by decide) (fun _ h=>h.elim) fun a w e' hf=>?_
 replace e:=e.tr e'
 refine tA hf rfl fun a hf=>aa ?_
 refine seq <| seq ?_
 refine ac <| tA hf rfl fun a hf=>aa ?_
 replace hf:=hf.keep [1,2,3,6,7]
 refine blk (aK (fun r0 a w=>∃(k:Nat) ,r0=g.2.length - k∧k≤g.2.length∧Fr 54 a w [(1,E (I m)),(2,E (I n)),(3,Dv (ptE gtE) G0 (some g)),(6,E (I 0)),(7,E (I k))]∧Ext W w∧(∀y∈g.2.take k,gM y m n=false)) g.2.length ⟨0,rfl,by omega,hf,e,(by simp)⟩ ?_)
 rintro r0 a w ⟨k,rfl,hk,hf,e,hn⟩
 refine seq <| seq ?_
 refine rgN 5 hf <| st (mv rfl) <| st (aB U25 rfl T23 (by decide) (Fld.snd Fld.refl rfl) (isR rfl)) <| st (ldD T23 (isR rfl)) <| st (aI U23 (isR rfl)) <| st (lss rfl rfl) <| en fun a w e' hf=>?_
 replace e:=e.tr e'
 refine aa <| ifc hf rfl (fun hc=>aj ?_) (fun hc=>aH ?_)
 rotate_left
 rotate_left
 ·have hlt:=ltC hc
  replace hf:=hf.keep [1,2,3,6,7]
  refine seq <| blk ?_
  have hg:=List.getElem?_eq_getElem hlt
  generalize g.2[k]=x at hg
  refine seq <| rgN 38 hf <| st (aB U25 rfl T23 (by decide) (Fld.snd Fld.refl rfl) (isR rfl)) <| st (ldD T23 (isR rfl)) <| st (mv rfl) <| st (aG U23 S51 (isR rfl) rfl (by omega) (hg)) <| st (aB U51 rfl T3 (by decide) (Fld.fst (Fld.fst Fld.refl)) (isR rfl)) <| st (ldI T3 (isR rfl)) <| st (mv rfl) <| st (eql rfl rfl) <| st (mv rfl) <| sgE rfl rfl (.k 3 rfl .n) (fun hgd=>aB U25 rfl T23 (by decide) (Fld.snd Fld.refl rfl) (isR rfl)) <| sgE rfl rfl (.c 24 rfl (fun h=>h) .n) (fun hgd=>ldD T23 (isR rfl)) <| sgE rfl rfl (.k 7 rfl .n) (fun hgd=>mv rfl) <| sgE rfl rfl (.c 25 rfl (fun h=>h) (.c 26 rfl (fun h=>h) .n)) (fun hgd=>aG U23 S51 (isR rfl) rfl rfl (hg)) <| sgE rfl rfl (.c 27 rfl (fun h=>h) .n) (fun hgd=>aB U51 rfl T3 (by decide) (Fld.fst (Fld.snd Fld.refl rfl)) (isR rfl)) <| sgE rfl rfl (.c 28 rfl (fun h=>h) .n) (fun hgd=>ldI T3 (isR rfl)) <| sgE rfl rfl (.k 2 rfl .n) (fun hgd=>mv rfl) <| sgE rfl rfl (.c 29 rfl (fun h=>h) (.c 30 rfl (fun h=>h) .n)) (fun hgd=>eql rfl rfl) <| st (bF rfl rfl (fun h=>by rw[h];rfl)) ?_
  refine st (mv rfl) <| sgE rfl rfl (.k 3 rfl .n) (fun hgd=>aB U25 rfl T23 (by decide) (Fld.snd Fld.refl rfl) (isR rfl)) <| sgE rfl rfl (.c 34 rfl (fun h=>h) .n) (fun hgd=>ldD T23 (isR rfl)) <| sgE rfl rfl (.k 7 rfl .n) (fun hgd=>mv rfl) <| sgE rfl rfl (.c 35 rfl (fun h=>h) (.c 36 rfl (fun h=>h) .n)) (fun hgd=>aG U23 S51 (isR rfl) rfl rfl (hg)) <| sgE rfl rfl (.c 37 rfl (fun h=>h) .n) (fun hgd=>aB U51 rfl T3 (by decide) (Fld.fst (Fld.fst Fld.refl)) (isR rfl)) <| sgE rfl rfl (.c 38 rfl (fun h=>h) .n) (fun hgd=>ldI T3 (isR rfl)) <| sgE rfl rfl (.k 2 rfl .n) (fun hgd=>mv rfl) <| sgE rfl rfl (.c 39 rfl (fun h=>h) (.c 40 rfl (fun h=>h) .n)) (fun hgd=>eql rfl rfl) <| sgE rfl rfl (.c 41 rfl (fun h=>h) .n) (fun hgd=>mv rfl) <| sgC rfl rfl (.k 3 rfl .n) (fun hgd=>aB U25 rfl T23 (by decide) (Fld.snd Fld.refl rfl) (isR rfl)) <| sgC rfl rfl (.c 43 rfl (fun h=>h) .n) (fun hgd=>ldD T23 (isR rfl)) <| sgC rfl rfl (.k 7 rfl .n) (fun hgd=>mv rfl) <| sgC rfl rfl (.c 44 rfl (fun h=>h) (.c 45 rfl (fun h=>h) .n)) (fun hgd=>aG U23 S51 (isR rfl) rfl rfl (hg)) <| sgC rfl rfl (.c 46 rfl (fun h=>h) .n) (fun hgd=>aB U51 rfl T3 (by decide) (Fld.fst (Fld.snd Fld.refl rfl)) (isR rfl)) <| sgC rfl rfl (.c 47 rfl (fun h=>h) .n) (fun hgd=>ldI T3 (isR rfl)) <| sgC rfl rfl (.k 1 rfl .n) (fun hgd=>mv rfl) <| sgC rfl rfl (.c 48 rfl (fun h=>h) (.c 49 rfl (fun h=>h) .n)) (fun hgd=>eql rfl rfl) <| sgE rfl rfl (.c 42 rfl (fun h=>h) (.k 50 rfl .n)) (fun hgd=>bF rfl rfl (fun h=>by rw[hgd,h];rfl)) ?_
  refine st (bH rfl rfl (fun h=>by rw[h];rfl)) ?_
  refine en fun a w e' hf=>?_
  replace e:=e.tr e'
  refine aa <| ifc hf rfl (fun hb=>?_) (fun hb=>?_)
  ·refine seq <| rgN 1 hf <| st (mv rfl) <| en fun a w e' hf=>?_
   replace e:=e.tr e'
   refine tA hf rfl fun a hf=>aa <| ak <| an rfl hf rfl ?_
   rintro _ rfl
   exact⟨_,rfl,e,(congrArg I (by rw[cr,qd hn hg hb]))⟩
  ·refine aj <| rgN 2 hf <| st (mv rfl) <| st ((add rfl rfl (by omega)).eq (iN k)) <| en fun a w e' hf=>?_
   replace e:=e.tr e'
   refine tA hf rfl fun a hf=>aa ?_
   replace hf:=hf.keep [1,2,3,6,7]
   refine⟨_,?_,k+1,rfl,by omega,hf,e,?_⟩
   ·omega
   exact mf hn hg hb
 ·obtain rfl:=dnE hc hk
  refine seq <| ac <| tA hf rfl fun a hf=>aa <| ak <| an rfl hf rfl ?_
  rintro _ rfl
  exact⟨_,rfl,e,(congrArg I (by rw[cr,qe hn]))⟩
theorem qf (d:DT)(W:World):Calls Tryz.prog 132 #[dtV d] W (Post (E (.bool (Gr.pairs d.1))) W):=by
 refine eN [dtV d] [Dv dtE G0 d] Tryz.func132 Tryz.ntmps132 ?_ fun a hf=>?_
 rotate_left
 rotate_right
 ·exact arg1 (Dv.dt.2 rfl)
 have e:=Ext.rfl' W
 refine seq <| ac <| fc hf rfl (by decide) (fun _ h=>h.elim) fun a w e' hf=>?_
 replace e:=e.tr e'
 refine tA hf rfl fun a hf=>aa <| seq <| rgN 18 hf <| st (aB aQ rfl T3 (by decide) (Fld.fst Fld.refl) (isR rfl)) <| st (ldI T3 (isR rfl)) <| st (eql rfl rfl) <| st (mv rfl) <| sgE rfl rfl (.k 1 rfl .n) (fun hgd=>aB aQ rfl T3 (by decide) (Fld.fst Fld.refl) (isR rfl)) <| sgE rfl rfl (.c 7 rfl (fun h=>h) .n) (fun hgd=>ldI T3 (isR rfl)) <| sgE rfl rfl (.c 8 rfl (fun h=>h) .n) (fun hgd=>eql rfl rfl) <| st (bH rfl rfl (fun h=>by rw[h];rfl)) ?_
 refine st (mv rfl) <| sgE rfl rfl (.k 1 rfl .n) (fun hgd=>aB aQ rfl T3 (by decide) (Fld.fst Fld.refl) (isR rfl)) <| sgE rfl rfl (.c 12 rfl (fun h=>h) .n) (fun hgd=>ldI T3 (isR rfl)) <| sgE rfl rfl (.c 13 rfl (fun h=>h) .n) (fun hgd=>eql rfl rfl) <| st (bH rfl rfl (fun h=>by rw[h];rfl)) ?_
 refine st (mv rfl) <| sgE rfl rfl (.k 1 rfl .n) (fun hgd=>aB aQ rfl T3 (by decide) (Fld.fst Fld.refl) (isR rfl)) <| sgE rfl rfl (.c 17 rfl (fun h=>h) .n) (fun hgd=>ldI T3 (isR rfl)) <| sgE rfl rfl (.c 18 rfl (fun h=>h) .n) (fun hgd=>eql rfl rfl) <| st (bH rfl rfl (fun h=>by rw[h];rfl)) ?_
 refine en fun a w e' hf=>?_
 replace e:=e.tr e'
 refine tA hf rfl fun a hf=>aa <| ak <| an rfl hf rfl ?_
 rintro _ rfl
 exact⟨_,rfl,e,rfl⟩
theorem xH (d:DT)(W:World):Calls Tryz.prog 178 #[dtV d] W (Post (E (.bool (Gr.weighs d.1))) W):=by
 refine eN [dtV d] [Dv dtE G0 d] Tryz.func178 Tryz.ntmps178 ?_ fun a hf=>?_
 rotate_left
 rotate_right
 ·exact arg1 (Dv.dt.2 rfl)
 have e:=Ext.rfl' W
 refine seq <| ac <| fc hf rfl (by decide) (fun _ h=>h.elim) fun a w e' hf=>?_
 replace e:=e.tr e'
 refine tA hf rfl fun a hf=>aa <| seq <| rgN 18 hf <| st (aB aQ rfl T3 (by decide) (Fld.fst Fld.refl) (isR rfl)) <| st (ldI T3 (isR rfl)) <| st (eql rfl rfl) <| st (mv rfl) <| sgE rfl rfl (.k 1 rfl .n) (fun hgd=>aB aQ rfl T3 (by decide) (Fld.fst Fld.refl) (isR rfl)) <| sgE rfl rfl (.c 7 rfl (fun h=>h) .n) (fun hgd=>ldI T3 (isR rfl)) <| sgE rfl rfl (.c 8 rfl (fun h=>h) .n) (fun hgd=>eql rfl rfl) <| st (bH rfl rfl (fun h=>by rw[h];rfl)) ?_
 refine st (mv rfl) <| sgE rfl rfl (.k 1 rfl .n) (fun hgd=>aB aQ rfl T3 (by decide) (Fld.fst Fld.refl) (isR rfl)) <| sgE rfl rfl (.c 12 rfl (fun h=>h) .n) (fun hgd=>ldI T3 (isR rfl)) <| sgE rfl rfl (.c 13 rfl (fun h=>h) .n) (fun hgd=>eql rfl rfl) <| st (bH rfl rfl (fun h=>by rw[h];rfl)) ?_
 refine st (mv rfl) <| sgE rfl rfl (.k 1 rfl .n) (fun hgd=>aB aQ rfl T3 (by decide) (Fld.fst Fld.refl) (isR rfl)) <| sgE rfl rfl (.c 17 rfl (fun h=>h) .n) (fun hgd=>ldI T3 (isR rfl)) <| sgE rfl rfl (.c 18 rfl (fun h=>h) .n) (fun hgd=>eql rfl rfl) <| st (bH rfl rfl (fun h=>by rw[h];rfl)) ?_
 refine en fun a w e' hf=>?_
 replace e:=e.tr e'
 refine tA hf rfl fun a hf=>aa <| ak <| an rfl hf rfl ?_
 rintro _ rfl
 exact⟨_,rfl,e,rfl⟩
def cB (g:GT)(d:DT):Int:=
 if (decide (d.1<0) || decide (7<d.1))=true then 11
 else if (((decide (d.2.1<0) || decide (1023<d.2.1)) || (Gr.pairs d.1&&(decide (d.2.2.1<0) || decide (1023<d.2.2.1)))) || (Gr.weighs d.1&&(decide (d.2.2.2.2 < -1048576) || decide (1048576<d.2.2.2.2))))=true then 2
 else if (Gr.pairs d.1&&d.2.1==d.2.2.1)=true then 15
 else if (d.1==0)=true then (if decide (0≤dO g.1 d.2.1)=true then 7 else 0)
 else if (decide (dO g.1 d.2.1<0) || (d.1==2&&decide (dO g.1 d.2.2.1<0)))=true then 9
 else if (d.1==2)=true then (if decide (0≤cr g.2 d.2.1 d.2.2.1)=true then 7 else if decide ((1024:Int)≤(g.2.length:Nat))=true then 8 else 0)
 else if (Gr.pairs d.1&&decide (cr g.2 d.2.1 d.2.2.1<0))=true then 9 else 0
theorem aR {b:Bool}(h:b=false):¬(b=true):=by rw[h];decide
theorem xI {G:Nat→Prop}(g:GT)(d:DT)(v:Value)(W:World)(h:(Dv gtE G g).p v W)(hl1:g.1.length≤100000)(hl2:g.2.length≤100000) :
  Calls Tryz.prog 129 #[v,dtV d] W (Post (E (I (cB g d))) W):=by
 refine eN [v,dtV d] [Dv gtE G0 g,Dv dtE G0 d] Tryz.func129 Tryz.ntmps129 ?_ fun a hf=>?_
 rotate_left
 rotate_right
 ·exact arg2 (Dv.weak h fun b _ hb=>hb.elim) (Dv.dt.2 rfl)
 have e:=Ext.rfl' W
 have hp:∀(v:Value) (w:World),Ext W w→v=dtV d→Calls Tryz.prog 132 #[v] w (Post (E (.bool (Gr.pairs d.1))) w):=fun v w _ hv=>by cases hv;exact qf d w
 have hh:∀(v:Value) (w:World),Ext W w→v=dtV d→Calls Tryz.prog 178 #[v] w (Post (E (.bool (Gr.weighs d.1))) w):=fun v w _ hv=>by cases hv;exact xH d w
 have hF:∀(n:Int) (v u:Value) (w:World),(Dv gtE G0 g).p v w→u=I n→Calls Tryz.prog 118 #[v,u] w (Post (E (I (dO g.1 n))) w):=fun n v u w h1 h2=>by cases h2;exact xG g n v w h1 hl1
 have hE:∀(m n:Int) (v u x:Value) (w:World),(Dv gtE G0 g).p v w→u=I m→x=I n→Calls Tryz.prog 115 #[v,u,x] w (Post (E (I (cr g.2 m n))) w):=fun m n v u x w h1 h2 h3=>by cases h2;cases h3;exact jK g m n v w h1 hl2
 refine seq <| ac <| fc hf rfl (by decide) (fun _ h=>h.elim) fun a w e' hf=>?_
 replace e:=e.tr e'
 refine fc hf rfl (by decide) (fun _ h=>h.elim) fun a w e' hf=>?_
 replace e:=e.tr e'
 refine tA hf rfl fun a hf=>aa ?_
 refine seq <| seq ?_
 refine rgN 8 hf <| st (aB aQ rfl T3 (by decide) (Fld.fst Fld.refl) (isR rfl)) <| st (ldI T3 (isR rfl)) <| st (lss rfl rfl) <| st (mv rfl) <| sgE rfl rfl (.k 3 rfl .n) (fun hgd=>aB aQ rfl T3 (by decide) (Fld.fst Fld.refl) (isR rfl)) <| sgE rfl rfl (.c 9 rfl (fun h=>h) .n) (fun hgd=>ldI T3 (isR rfl)) <| sgE rfl rfl (.c 10 rfl (fun h=>h) .n) (fun hgd=>gtr rfl rfl) <| st (bH rfl rfl (fun h=>by rw[h];rfl)) ?_
 refine en fun a w e' hf=>?_
 replace e:=e.tr e'
 refine aa <| ifc hf rfl (fun hb=>?_) (fun hb=>?_)
 ·refine seq <| ac <| tA hf rfl fun a hf=>aa <| ak <| an rfl hf rfl ?_
  rintro _ rfl
  exact⟨_,rfl,e,(congrArg I (by rw[cB,if_pos hb]))⟩
 refine aj ?_
 replace hf:=hf.keep [2,3,4]
 have h1:=hb;clear hb
 refine seq <| seq ?_
 refine rgN 36 hf <| st (aB aQ rfl T3 (by decide) (Fld.snd (Fld.fst Fld.refl) rfl) (isR rfl)) <| st (ldI T3 (isR rfl)) <| st (lss rfl rfl) <| st (mv rfl) <| sgE rfl rfl (.k 3 rfl .n) (fun hgd=>aB aQ rfl T3 (by decide) (Fld.snd (Fld.fst Fld.refl) rfl) (isR rfl)) <| sgE rfl rfl (.c 17 rfl (fun h=>h) .n) (fun hgd=>ldI T3 (isR rfl)) <| sgE rfl rfl (.c 18 rfl (fun h=>h) .n) (fun hgd=>gtr rfl rfl) <| st (bH rfl rfl (fun h=>by rw[h];rfl)) ?_
 refine st (mv rfl) <| sgE rfl rfl (.k 3 rfl .n) (fun hgd=>jy gF (isR rfl)) <| sgE rfl rfl (.c 22 rfl (fun h=>h) .n) (fun hgd=>aw jF rfl (fun v w he h=>hp v w (e.tr he) h)) <| sgE rfl rfl (.c 23 rfl (fun h=>h) .n) (fun hgd=>mv rfl) <| sgC rfl rfl (.k 3 rfl .n) (fun hgd=>aB aQ rfl T3 (by decide) (Fld.snd (Fld.snd (Fld.fst Fld.refl) rfl) rfl) (isR rfl)) <| sgC rfl rfl (.c 25 rfl (fun h=>h) .n) (fun hgd=>ldI T3 (isR rfl)) <| sgC rfl rfl (.c 26 rfl (fun h=>h) .n) (fun hgd=>lss rfl rfl) <| sgC rfl rfl (.c 27 rfl (fun h=>h) .n) (fun hgd=>mv rfl) <| sgC rfl rfl (.k 3 rfl .n) (fun hgd=>aB aQ rfl T3 (by decide) (Fld.snd (Fld.snd (Fld.fst Fld.refl) rfl) rfl) (isR rfl)) <| sgC rfl rfl (.c 29 rfl (fun h=>h) .n) (fun hgd=>ldI T3 (isR rfl)) <| sgC rfl rfl (.c 30 rfl (fun h=>h) .n) (fun hgd=>gtr rfl rfl) <| sgC rfl rfl (.c 28 rfl (fun h=>h) (.k 31 rfl .n)) (fun hgd=>bH rfl rfl (fun h=>by rw[hgd,h];rfl)) ?_
 refine sgE rfl rfl (.c 24 rfl (fun h=>h) (.k 32 rfl .n)) (fun hgd=>bF rfl rfl (fun h=>by rw[hgd,h];rfl)) ?_
 refine st (bH rfl rfl (fun h=>by rw[h];rfl)) ?_
 refine st (mv rfl) <| sgE rfl rfl (.k 3 rfl .n) (fun hgd=>jy gF (isR rfl)) <| sgE rfl rfl (.c 36 rfl (fun h=>h) .n) (fun hgd=>aw xl rfl (fun v w he h=>hh v w (e.tr he) h)) <| sgE rfl rfl (.c 37 rfl (fun h=>h) .n) (fun hgd=>mv rfl) <| sgC rfl rfl (.k 3 rfl .n) (fun hgd=>aB aQ rfl T3 (by decide) (Fld.snd (Fld.snd (Fld.snd (Fld.snd Fld.refl rfl) rfl) rfl) rfl) (isR rfl)) <| sgC rfl rfl (.c 39 rfl (fun h=>h) .n) (fun hgd=>ldI T3 (isR rfl)) <| sgC rfl rfl (.c 40 rfl (fun h=>h) .n) (fun hgd=>lss rfl rfl) <| sgC rfl rfl (.c 41 rfl (fun h=>h) .n) (fun hgd=>mv rfl) <| sgC rfl rfl (.k 3 rfl .n) (fun hgd=>aB aQ rfl T3 (by decide) (Fld.snd (Fld.snd (Fld.snd (Fld.snd Fld.refl rfl) rfl) rfl) rfl) (isR rfl)) <| sgC rfl rfl (.c 43 rfl (fun h=>h) .n) (fun hgd=>ldI T3 (isR rfl)) <| sgC rfl rfl (.c 44 rfl (fun h=>h) .n) (fun hgd=>gtr rfl rfl) <| sgC rfl rfl (.c 42 rfl (fun h=>h) (.k 45 rfl .n)) (fun hgd=>bH rfl rfl (fun h=>by rw[hgd,h];rfl)) ?_
 refine sgE rfl rfl (.c 38 rfl (fun h=>h) (.k 46 rfl .n)) (fun hgd=>bF rfl rfl (fun h=>by rw[hgd,h];rfl)) ?_
 refine st (bH rfl rfl (fun h=>by rw[h];rfl)) ?_
 refine en fun a w e' hf=>?_
 replace e:=e.tr e'
 refine aa <| ifc hf rfl (fun hb=>?_) (fun hb=>?_)
 ·refine seq <| ac <| tA hf rfl fun a hf=>aa <| ak <| an rfl hf rfl ?_
  rintro _ rfl
  exact⟨_,rfl,e,(congrArg I (by rw[cB,if_neg (aR h1),if_pos hb]))⟩
 refine aj ?_
 replace hf:=hf.keep [2,3,4]
 have h2:=hb;clear hb
 refine seq <| seq ?_
 refine rgN 9 hf <| st (jy gF (isR rfl)) <| st (aw jF rfl (fun v w he h=>hp v w (e.tr he) h)) <| st (mv rfl) <| sgE rfl rfl (.k 3 rfl .n) (fun hgd=>aB aQ rfl T3 (by decide) (Fld.snd (Fld.fst Fld.refl) rfl) (isR rfl)) <| sgE rfl rfl (.c 52 rfl (fun h=>h) .n) (fun hgd=>ldI T3 (isR rfl)) <| sgE rfl rfl (.k 3 rfl .n) (fun hgd=>aB aQ rfl T3 (by decide) (Fld.snd (Fld.snd (Fld.fst Fld.refl) rfl) rfl) (isR rfl)) <| sgE rfl rfl (.c 54 rfl (fun h=>h) .n) (fun hgd=>ldI T3 (isR rfl)) <| sgE rfl rfl (.c 53 rfl (fun h=>h) (.c 55 rfl (fun h=>h) .n)) (fun hgd=>eql rfl rfl) <| st (bF rfl rfl (fun h=>by rw[h];rfl)) ?_
 refine en fun a w e' hf=>?_
 replace e:=e.tr e'
 refine aa <| ifc hf rfl (fun hb=>?_) (fun hb=>?_)
 ·refine seq <| ac <| tA hf rfl fun a hf=>aa <| ak <| an rfl hf rfl ?_
  rintro _ rfl
  exact⟨_,rfl,e,(congrArg I (by rw[cB,if_neg (aR h1),if_neg (aR h2),if_pos hb]))⟩
 refine aj ?_
 replace hf:=hf.keep [2,3,4]
 have h3:=hb;clear hb
 refine seq <| seq ?_
 refine rgN 3 hf <| st (aB aQ rfl T3 (by decide) (Fld.fst Fld.refl) (isR rfl)) <| st (ldI T3 (isR rfl)) <| st (eql rfl rfl) <| en fun a w e' hf=>?_
 replace e:=e.tr e'
 refine aa <| ifc hf rfl (fun hb=>?_) (fun hb=>?_)
 ·have h4:=hb;clear hb
  refine seq <| seq ?_
  refine rgN 5 hf <| st (ldD T25 (isR rfl)) <| st (aB aQ rfl T3 (by decide) (Fld.snd (Fld.fst Fld.refl) rfl) (isR rfl)) <| st (ldI T3 (isR rfl)) <| st (ap lU rfl rfl (fun v u w he h h'=>hF _ v u w h h')) <| st (geq rfl rfl) <| en fun a w e' hf=>?_
  replace e:=e.tr e'
  refine aa <| ifc hf rfl (fun hb=>?_) (fun hb=>?_)
  ·refine seq <| ac <| tA hf rfl fun a hf=>aa <| ak <| an rfl hf rfl ?_
   rintro _ rfl
   exact⟨_,rfl,e,(congrArg I (by rw[cB,if_neg (aR h1),if_neg (aR h2),if_neg (aR h3),if_pos h4,if_pos hb]))⟩
  refine aj <| seq <| ac <| tA hf rfl fun a hf=>aa <| ak <| an rfl hf rfl ?_
  rintro _ rfl
  exact⟨_,rfl,e,(congrArg I (by rw[cB,if_neg (aR h1),if_neg (aR h2),if_neg (aR h3),if_pos h4,if_neg (aR hb)]))⟩
 refine aj ?_
 replace hf:=hf.keep [2,3,4]
 have h4:=hb;clear hb
 refine seq <| seq ?_
 refine rgN 17 hf <| st (ldD T25 (isR rfl)) <| st (aB aQ rfl T3 (by decide) (Fld.snd (Fld.fst Fld.refl) rfl) (isR rfl)) <| st (ldI T3 (isR rfl)) <| st (ap lU rfl rfl (fun v u w he h h'=>hF _ v u w h h')) <| st (lss rfl rfl) <| st (mv rfl) <| sgE rfl rfl (.k 3 rfl .n) (fun hgd=>aB aQ rfl T3 (by decide) (Fld.fst Fld.refl) (isR rfl)) <| sgE rfl rfl (.c 72 rfl (fun h=>h) .n) (fun hgd=>ldI T3 (isR rfl)) <| sgE rfl rfl (.c 73 rfl (fun h=>h) .n) (fun hgd=>eql rfl rfl) <| sgE rfl rfl (.c 74 rfl (fun h=>h) .n) (fun hgd=>mv rfl) <| sgC rfl rfl (.k 2 rfl .n) (fun hgd=>ldD T25 (isR rfl)) <| sgC rfl rfl (.k 3 rfl .n) (fun hgd=>aB aQ rfl T3 (by decide) (Fld.snd (Fld.snd (Fld.fst Fld.refl) rfl) rfl) (isR rfl)) <| sgC rfl rfl (.c 77 rfl (fun h=>h) .n) (fun hgd=>ldI T3 (isR rfl)) <| sgC rfl rfl (.c 76 rfl (fun h=>h) (.c 78 rfl (fun h=>h) .n)) (fun hgd=>ap lU rfl rfl (fun v u w he h h'=>hF _ v u w h h')) <| sgC rfl rfl (.c 79 rfl (fun h=>h) .n) (fun hgd=>lss rfl rfl) <| sgE rfl rfl (.c 75 rfl (fun h=>h) (.k 80 rfl .n)) (fun hgd=>bF rfl rfl (fun h=>by rw[hgd,h];rfl)) ?_
 refine st (bH rfl rfl (fun h=>by rw[h];rfl)) ?_
 refine en fun a w e' hf=>?_
 replace e:=e.tr e'
 refine aa <| ifc hf rfl (fun hb=>?_) (fun hb=>?_)
 ·refine seq <| ac <| tA hf rfl fun a hf=>aa <| ak <| an rfl hf rfl ?_
  rintro _ rfl
  exact⟨_,rfl,e,(congrArg I (by rw[cB,if_neg (aR h1),if_neg (aR h2),if_neg (aR h3),if_neg (aR h4),if_pos hb]))⟩
 refine aj ?_
 replace hf:=hf.keep [2,3,4]
 have h5:=hb;clear hb
 refine seq <| seq ?_
 refine rgN 3 hf <| st (aB aQ rfl T3 (by decide) (Fld.fst Fld.refl) (isR rfl)) <| st (ldI T3 (isR rfl)) <| st (eql rfl rfl) <| en fun a w e' hf=>?_
 replace e:=e.tr e'
 refine aa <| ifc hf rfl (fun hb=>?_) (fun hb=>?_)
 ·have h6:=hb;clear hb
  refine seq <| seq ?_
  refine rgN 7 hf <| st (ldD T25 (isR rfl)) <| st (aB aQ rfl T3 (by decide) (Fld.snd (Fld.fst Fld.refl) rfl) (isR rfl)) <| st (ldI T3 (isR rfl)) <| st (aB aQ rfl T3 (by decide) (Fld.snd (Fld.snd (Fld.fst Fld.refl) rfl) rfl) (isR rfl)) <| st (ldI T3 (isR rfl)) <| st (cE iz rfl rfl rfl (fun v u x w he h h' h''=>hE _ _ v u x w h h' h'')) <| st (geq rfl rfl) <| en fun a w e' hf=>?_
  replace e:=e.tr e'
  refine aa <| ifc hf rfl (fun hb=>?_) (fun hb=>?_)
  ·refine seq <| ac <| tA hf rfl fun a hf=>aa <| ak <| an rfl hf rfl ?_
   rintro _ rfl
   exact⟨_,rfl,e,(congrArg I (by rw[cB,if_neg (aR h1),if_neg (aR h2),if_neg (aR h3),if_neg (aR h4),if_neg (aR h5),if_pos h6,if_pos hb]))⟩
  refine aj ?_
  have h7:=hb;clear hb
  replace hf:=hf.keep [2,3,4]
  refine seq <| seq ?_
  refine rgN 4 hf <| st (aB U25 rfl T23 (by decide) (Fld.snd Fld.refl rfl) (isR rfl)) <| st (ldD T23 (isR rfl)) <| st (aI U23 (isR rfl)) <| st (geq rfl rfl) <| en fun a w e' hf=>?_
  replace e:=e.tr e'
  refine aa <| ifc hf rfl (fun hb=>?_) (fun hb=>?_)
  ·refine seq <| ac <| tA hf rfl fun a hf=>aa <| ak <| an rfl hf rfl ?_
   rintro _ rfl
   exact⟨_,rfl,e,(congrArg I (by rw[cB,if_neg (aR h1),if_neg (aR h2),if_neg (aR h3),if_neg (aR h4),if_neg (aR h5),if_pos h6,if_neg (aR h7),if_pos hb]))⟩
  refine aj <| seq <| ac <| tA hf rfl fun a hf=>aa <| ak <| an rfl hf rfl ?_
  rintro _ rfl
  exact⟨_,rfl,e,(congrArg I (by rw[cB,if_neg (aR h1),if_neg (aR h2),if_neg (aR h3),if_neg (aR h4),if_neg (aR h5),if_pos h6,if_neg (aR h7),if_neg (aR hb)]))⟩
 refine aj ?_
 replace hf:=hf.keep [2,3,4]
 have h6:=hb;clear hb
 refine seq <| seq ?_
 refine rgN 11 hf <| st (jy gF (isR rfl)) <| st (aw jF rfl (fun v w he h=>hp v w (e.tr he) h)) <| st (mv rfl) <| sgE rfl rfl (.k 2 rfl .n) (fun hgd=>ldD T25 (isR rfl)) <| sgE rfl rfl (.k 3 rfl .n) (fun hgd=>aB aQ rfl T3 (by decide) (Fld.snd (Fld.fst Fld.refl) rfl) (isR rfl)) <| sgE rfl rfl (.c 101 rfl (fun h=>h) .n) (fun hgd=>ldI T3 (isR rfl)) <| sgE rfl rfl (.k 3 rfl .n) (fun hgd=>aB aQ rfl T3 (by decide) (Fld.snd (Fld.snd (Fld.fst Fld.refl) rfl) rfl) (isR rfl)) <| sgE rfl rfl (.c 103 rfl (fun h=>h) .n) (fun hgd=>ldI T3 (isR rfl)) <| sgE rfl rfl (.c 100 rfl (fun h=>h) (.c 102 rfl (fun h=>h) (.c 104 rfl (fun h=>h) .n))) (fun hgd=>cE iz rfl rfl rfl (fun v u x w he h h' h''=>hE _ _ v u x w h h' h'')) <| sgE rfl rfl (.c 105 rfl (fun h=>h) .n) (fun hgd=>lss rfl rfl) <| st (bF rfl rfl (fun h=>by rw[h];rfl)) ?_
 refine en fun a w e' hf=>?_
 replace e:=e.tr e'
 refine aa <| ifc hf rfl (fun hb=>?_) (fun hb=>?_)
 ·refine seq <| ac <| tA hf rfl fun a hf=>aa <| ak <| an rfl hf rfl ?_
  rintro _ rfl
  exact⟨_,rfl,e,(congrArg I (by rw[cB,if_neg (aR h1),if_neg (aR h2),if_neg (aR h3),if_neg (aR h4),if_neg (aR h5),if_neg (aR h6),if_pos hb]))⟩
 refine aj <| seq <| ac <| tA hf rfl fun a hf=>aa <| ak <| an rfl hf rfl ?_
 rintro _ rfl
 exact⟨_,rfl,e,(congrArg I (by rw[cB,if_neg (aR h1),if_neg (aR h2),if_neg (aR h3),if_neg (aR h4),if_neg (aR h5),if_neg (aR h6),if_neg (aR hb)]))⟩
end Go.Mono
namespace Go.Mono
open Go Go.RowKit

theorem xJ:∀(c:List Value) (n off:Nat) (cells:Array Value),off+n+c.length≤cells.size →
  (c.zipIdx n).foldl (fun cs (p:Value×Nat)=>cs.setIfInBounds (off+p.2) p.1) cells=(cells.toList.take (off+n)++c++cells.toList.drop (off+n+c.length)).toArray:=by
 intro c
 induction c with
 | nil=>intro n off cells h;simp
 | cons u c ih=>
  intro n off cells h
  simp only[List.length_cons] at h
  rw[List.zipIdx_cons,List.foldl_cons,ih (n+1) off _ (by simp;omega)]
  simp only[Array.toList_setIfInBounds,List.length_cons]
  congr 1
  have hlt:off+n<cells.toList.length:=by simp;omega
  rw[← Nat.add_assoc,List.take_succ_eq_append_getElem (by simpa using hlt),List.getElem_set_self,List.take_set_of_le (Nat.le_refl _),List.drop_set_of_lt (by omega)]
  rw[show off+n+1+c.length=off+n+(c.length+1) by omega]
  simp
def pl {α:Type}:Nat→List α→List (Nat×α)
 | _,[]=>[]
 | n,v::vs=>(n,v)::pl (n+1) vs
theorem qg {α β:Type}(f:α→β):∀(n:Nat) (vs:List α),(pl n vs).map (fun p=>(p.1,f p.2))=pl n (vs.map f)
 | _,[]=>rfl
 | n,v::vs=>by rw[pl,List.map_cons,qg f (n+1) vs];rfl
theorem fill_seq {k:Nat}:∀(vs:List Value) (cs:List (List Value)) (n:Nat) (done:List Value) (cells:Array Value),vs.map Value.cells=cs.map List.toArray→(∀c∈cs,c.length=k)→done.length=n * k→cells.toList.take (n * k)=done→cells.size=(n+vs.length) * k →
  Instr.fill (fun i=>some (i * k,k)) cells (pl n vs)=some (done++cs.flatten).toArray
 | [],cs,n,done,cells,hv,hc,hd,ht,hs=>by
  have:cs=[]:=by cases cs <;> simp at hv ⊢
  subst this
  have:cells.toList=done:=by rw[← ht,List.take_of_length_le];rw[Array.length_toList,hs];simp
  simp[pl,Instr.fill,← this]
 | v::vs,[],n,done,cells,hv,hc,hd,ht,hs=>by simp at hv
 | v::vs,c::cs,n,done,cells,hv,hc,hd,ht,hs=>by
  simp only[List.map_cons,List.cons.injEq] at hv
  have hcl:=hc c (by simp)
  have hsz:v.cells.size=k:=by rw[hv.1,List.size_toArray,hcl]
  rw[List.length_cons] at hs
  have hb:n * k+k≤cells.size:=by rw[hs,Nat.add_mul,Nat.add_mul];omega
  rw[pl,Instr.fill]
  have n1:¬(n * k+k > cells.size):=by omega
  simp only[hsz,ne_eq,not_true_eq_false,decide_false,Bool.false_or,decide_eq_true_eq,n1,if_false,Bool.false_eq_true]
  rw[hv.1]
  have e1:c.toArray.zipIdx.foldl (fun cs (p:Value×Nat)=>cs.setIfInBounds (n * k+p.2) p.1) cells=(cells.toList.take (n * k)++c++cells.toList.drop (n * k+c.length)).toArray:=by
   rw[lE]
   have:=xJ c 0 (n * k) cells (by omega)
   simpa using this
  have e2:=fill_seq vs cs (n+1) (done++c) (cells.toList.take (n * k)++c++cells.toList.drop (n * k+c.length)).toArray hv.2 (fun x hx=>hc x (by simp[hx])) (by rw[List.length_append,hd,hcl,Nat.add_mul,Nat.one_mul]) (by
   rw[ht]
   simp only[List.append_assoc]
   rw[← List.append_assoc,List.take_left' (by rw[List.length_append,hd,hcl,Nat.add_mul,Nat.one_mul])]) (by
   simp only[List.size_toArray,List.length_append,List.length_take,List.length_drop,Array.length_toList,hcl]
   rw[Nat.min_eq_left (by omega),hs]
   have:(n+(vs.length+1)) * k=(n+1+vs.length) * k:=by congr 1;omega
   rw[this] at hs ⊢
   have:n * k+k≤(n+1+vs.length) * k:=by omega
   omega)
  rw[List.flatten_cons,← List.append_assoc,← e2]
  exact congrArg (fun x=>Instr.fill (fun i=>some (i * k,k)) x (pl (n+1) vs)) e1
section
variable {P:Program}{w0:World}{L:Env}{dst:Option Tmp}{ty:TypeId}{pos:String}{aft:Array Edge}{g:Option (Nat×Bool)}{t te:TypeId}
variable {α:Type}{e:Enc α}{G:Nat→Prop}
def IsL (L:Env)(w0:World)(e:Enc α)(G:Nat→Prop):List Operand→List α→Prop
 | [],[]=>True
 | x::xs,z::zs=>Is L w0 x (Dv e G z)∧IsL L w0 e G xs zs
 | _,_=>False
theorem qh {ρ:Operand→Value}{w:World}{xs0:List Operand}(he:Ext w0 w)(hv:∀x∈xs0,∀B,opd L x=some B→B.p (ρ x) w):∀(xs:List Operand) (zs:List α),(∀x∈xs,x∈xs0)→IsL L w0 e G xs zs →
  ∃cs:List (List Value),(xs.map ρ).map Value.cells=cs.map List.toArray∧(∀c∈cs,c.length=e.k)∧Cells e G w zs cs.flatten∧xs.length=zs.length
 | [],[],_,_=>⟨[],rfl,(fun c hc=>by cases hc),rfl,rfl⟩
 | [],_::_,_,h=>h.elim
 | _::_,[],_,h=>h.elim
 | x::xs,z::zs,hm,h=>by
  obtain⟨⟨B,hB,hB2⟩,h2⟩:=h
  obtain⟨c,h3,h4⟩:=hB2 _ _ he (hv x (hm x (by simp)) B hB)
  obtain⟨cs,a1,a2,a3,a4⟩:=qh he hv xs zs (fun y hy=>hm y (by simp[hy])) h2
  refine⟨c::cs,?_,?_,⟨c,cs.flatten,rfl,h3,a3⟩,by simp[a4]⟩
  ·simp only[List.map_cons,a1]
   rw[h4,e.pack_cells h3]
  ·intro d hd
   rcases List.mem_cons.1 hd with rfl|hd
   ·exact e.len h3
   ·exact a2 d hd
theorem fV {z0:Value}{sz bz n:Nat}{xs:List Operand}{zs:List α}(ht:P.underlying t=some (.slice te))(hi:(P.info? te).map (fun i=>(i.zero,i.size,i.bytes))=some (some z0,sz,bz))(hk:sz=e.k)(hn:zs.length=n)(hn0:0<n)(hk2:n * e.k≤16777216)(hz0:z0.cells.size=e.k)(hG:∀b,G b→b<w0.heap.size)
  (hx:IsL L w0 e G xs zs):OpC P w0 L ⟨dst,.buildSlice t n (pl 0 xs).toArray,ty,pos,aft,g⟩ (Dv (slE e) G zs):=by
 refine⟨fun ρ w he hv=>?_⟩
 obtain⟨it,hit,hiz,hsz,_⟩:=info_parts hi
 subst hk
 have hops:(Op.buildSlice t n (pl 0 xs).toArray).operands=xs.toArray:=by
  have:∀(k:Nat) (xs:List Operand),(pl k xs).map (·.2)=xs:=by
   intro k xs
   induction xs generalizing k with
   | nil=>rfl
   | cons x xs ih=>rw[pl,List.map_cons,ih]
  simp[Op.operands,this]
 have hv':∀x∈xs,∀B,opd L x=some B→B.p (ρ x) w:=fun x hx B hB=>hv x (by
  show x∈(Op.buildSlice t n (pl 0 xs).toArray).operands
  rw[hops];simpa using hx) B hB
 obtain⟨cs,a1,a2,a3,a4⟩:=qh he hv' xs zs (fun x h=>h) hx
 have hxl:xs.length=n:=by rw[a4,hn]
 have hpos:=e.pos
 have hnk:0<n * e.k:=Nat.mul_pos hn0 hpos
 have hfl:=fill_seq (k:=e.k) (xs.map ρ) cs 0 [] ((Array.range (n * it.size)).map (z0.cells[· % z0.cells.size]!)) a1 a2 (by simp) (by simp) (by simp[hsz,hxl])
 have hr:=run_buildSlice (P:=P) w t te n (pl 0 (xs.map ρ)).toArray cs.flatten.toArray it z0 ht hit hiz (by rw[hsz];omega) (by rw[hsz];omega) (by rw[hsz] at hfl ⊢;simpa using hfl)
 have hm:((pl 0 xs).toArray.map fun p=>(p.1,ρ p.2))=(pl 0 (xs.map ρ)).toArray:=by
  rw[List.map_toArray,qg]
 have hrun:(execOp ρ ⟨dst,.buildSlice t n (pl 0 xs).toArray,ty,pos,aft,g⟩).run P w=.ok (.value (.slice (some ⟨w.heap.size,0,none⟩) n n)) (w.alloc (.cells cs.flatten.toArray te)):=by
  simp only[execOp,Sem.run_bind]
  rw[show ((pl 0 xs).toArray.map fun (x:Nat×Operand)=>match x with|(i,x)=>(i,ρ x))=(pl 0 (xs.map ρ)).toArray from hm,hr]
  simp only[Result.andThen_ok,Sem.run_pure]
 simp only[OpR,hrun]
 have hx:=db w (.cells cs.flatten.toArray te)
 refine⟨hx,Dv.sl.2 (.inr ⟨_,n,cs.flatten,by rw[hn],by omega,fun hg=>?_,by simp,a3.pres (fun b hb hn=>hx.block b hb) hx.size,fun i u hu=>?_⟩)⟩
 ·exact absurd (hG _ hg) (Nat.not_lt.2 he.size)
 ·rw[Addr.add_lit,Nat.zero_add,(dW w cs.flatten.toArray te).cell i,List.getElem?_toArray]
  exact hu
theorem qi {z0:Value}{sz bz:Nat}{x y:Operand}{a b:α}(ht:P.underlying t=some (.slice te))(hi:(P.info? te).map (fun i=>(i.zero,i.size,i.bytes))=some (some z0,sz,bz))(hk:sz=e.k)(hk2:2 * e.k≤16777216)(hz0:z0.cells.size=e.k)(hG:∀b,G b→b<w0.heap.size)
  (hx:Is L w0 x (Dv e G a)) (hy:Is L w0 y (Dv e G b)):OpC P w0 L ⟨dst,.buildSlice t 2 #[(0,x),(1,y)],ty,pos,aft,g⟩ (Dv (slE e) G [a,b]):=
 fV (n:=2) (xs:=[x,y]) ht hi hk rfl (by decide) hk2 hz0 hG ⟨hx,hy,trivial⟩
theorem qj {z0:Value}{sz bz:Nat}{x y z:Operand}{a b c:α}(ht:P.underlying t=some (.slice te))(hi:(P.info? te).map (fun i=>(i.zero,i.size,i.bytes))=some (some z0,sz,bz))(hk:sz=e.k)(hk2:3 * e.k≤16777216)(hz0:z0.cells.size=e.k)(hG:∀b,G b→b<w0.heap.size)
  (hx:Is L w0 x (Dv e G a)) (hy:Is L w0 y (Dv e G b)) (hz:Is L w0 z (Dv e G c)):OpC P w0 L ⟨dst,.buildSlice t 3 #[(0,x),(1,y),(2,z)],ty,pos,aft,g⟩ (Dv (slE e) G [a,b,c]):=
 fV (n:=3) (xs:=[x,y,z]) ht hi hk rfl (by decide) hk2 hz0 hG ⟨hx,hy,hz,trivial⟩

end
theorem mg {P:Program}{w0:World}{L:Env}{dst:Option Tmp}{ty:TypeId}{pos:String}{aft:Array Edge}{g:Option (Nat×Bool)}{t te:TypeId}{x:Operand}{B:Nat}{G:Nat→Prop}{z:Int}{bz:Nat}{z0:Value}(ht:P.underlying t=some (.slice te))(hi:(P.info? te).map (fun i=>(i.zero,i.size,i.bytes))=some (some z0,1,bz))(hz0:z0.cells.size=1)
  (hx:opd L x=some (E (.int .i64 z))) (hB:B≤w0.heap.size) (hG:∀b,G b→b<B):OpC P w0 L ⟨dst,.buildSlice t 1 #[(0,x)],ty,pos,aft,g⟩ (OwA intE te B G [z]):=by
 refine⟨fun ρ w he hv=>?_⟩
 have hxv:=opE hv (x:=x) (by simp[Op.operands]) hx
 obtain⟨it,hit,hiz,hsz,_⟩:=info_parts hi
 have hfl:=fill_seq (k:=1) [Value.int .i64 z] [[Value.int .i64 z]] 0 [] ((Array.range (1 * 1)).map (z0.cells[· % z0.cells.size]!)) rfl (by simp) (by simp) (by simp) (by simp)
 have hr:=run_buildSlice (P:=P) w t te 1 #[(0,.int .i64 z)] #[.int .i64 z] it z0 ht hit hiz (by rw[hsz];omega) (by rw[hsz];omega) (by rw[hsz];exact hfl)
 have hrun:(execOp ρ ⟨dst,.buildSlice t 1 #[(0,x)],ty,pos,aft,g⟩).run P w=.ok (.value (.slice (some ⟨w.heap.size,0,none⟩) 1 1)) (w.alloc (.cells #[.int .i64 z] te)):=by
  simp only[execOp,Sem.run_bind,List.map_toArray,List.map_cons,List.map_nil,hxv,hr,Result.andThen_ok,Sem.run_pure]
 simp only[OpR,hrun]
 have hx:=db w (.cells #[.int .i64 z] te)
 have hBw:B≤w.heap.size:=Nat.le_trans hB he.size
 refine⟨hx,⟨[.int .i64 z],⟨rfl,.inr ⟨w.heap.size,1,#[.int .i64 z],rfl,hBw,dW w _ _,Nat.le_refl _,by decide,rfl,rfl⟩⟩,⟨[.int .i64 z],[],rfl,rfl,rfl⟩⟩,hG,Nat.le_trans hBw hx.size⟩
theorem OwR.slN {α:Type}{e:Enc α}[FlE e]{ty:TypeId}{B:Nat}{G N:Nat→Prop}{w:World}{xs:List α}{v:Value}(h:OwR e ty B G w xs v)(hN:∀b,v.ownBlock=some b→¬N b):(Dv (slE e) N xs).p v w:=by
 obtain⟨cs,h1,h2⟩:=h.own
 refine Dv.sl.2 ?_
 rcases h1.2 with ⟨hv,hn⟩|⟨g,cap,cur,hv,hB,hg,hn,hm,hs,ht⟩
 ·exact .inl ⟨hv,List.eq_nil_of_length_eq_zero hn⟩
 ·exact .inr ⟨_,cap,cs,hv,hn,hN g (by rw[hv];rfl),(Array.getElem?_eq_some_iff.1 hg).1,Cells.fl h2,h1.cells (by rw[hv];rfl)⟩
end Go.Mono
namespace Go.Mono
open Go Go.Proofs Go.RowKit Go.Gr
theorem xK (ao:Option Addr)(n c:Nat):Tryz.prog.built 25 [(1,.slice ao n c)]=some #[.slice none 0 0,.slice ao n c]:=by kernel_rfl
theorem xL (ao:Option Addr)(n c:Nat):Tryz.prog.built 25 [(0,.slice ao n c)]=some #[.slice ao n c,.slice none 0 0]:=by kernel_rfl
theorem slOne {α:Type}{e:Enc α}{G:Nat→Prop}{xs:List α}{v:Value}{w:World}(h:(Dv (slE e) G xs).p v w):v.oneCell'=true:=by
 obtain⟨ao,n,c,rfl⟩:=Dv.slF h;rfl
theorem bK {u v:Value}(h:u.oneCell'=true)(k:v.oneCell'=true):(#[u,v]:Array Value).all (·.oneCell')=true:=by simp[h,k]
theorem xM {G:Nat→Prop}(g:GT)(x:VT)(v:Value)(W:World)(h:(Dv gtE G g).p v W)(hG:∀b,G b→b<W.heap.size)(hl:g.1.length≤100000) :
  Calls Tryz.prog 130 #[v,vtV x] W (Post (Dv gtE G (insV g.1 x,g.2)) W):=by
 obtain⟨u1,u2,rfl,h1,h2⟩:=Dv.gt.1 h
 obtain⟨a2,n2,c2,rfl⟩:=Dv.slF h2
 have h1b:=Dv.toB h1
 have hl2:=fun k=>oU (fun y:VT=>lt1 x.1 y.1) x g.1 k
 refine eN [.agg #[u1,.slice a2 n2 c2],vtV x] [E (.agg #[u1,.slice a2 n2 c2]),E (vtV x)] Tryz.func130 Tryz.ntmps130 ?_ fun a hf=>?_
 rotate_left
 dsimp only[params,Nat.reduceAdd] at hf
 rotate_right
 ·exact arg2 rfl rfl
 have e:=Ext.rfl' W
 refine seq <| ac <| tB hf rfl fun a b2 w v2 hv2 e' hb2 hs2 B2 hf=>?_
 replace e:=e.tr e'
 refine tB hf rfl fun a b3 w v3 hv3 e' hb3 hs3 B3 hf=>?_
 obtain⟨e,B2⟩:=up2 e' e B2
 refine tL I25 hf fun a b4 w e' hb4 hs4 B4 hf=>?_
 obtain⟨e,B2,B3⟩:=up3 e' e B2 B3
 refine aa ?_
 cases hv2;cases hv3
 refine seq <| rgN 3 hf <| st (fA U25 rfl T23 rfl) <| st (ld1 T23 rfl (by assumption) rfl) <| st (bI [(1,_)] rfl (xK a2 n2 c2)) <| en fun a w e' hf=>?_
 obtain⟨e,B2,B3,B4⟩:=up4 e' e B2 B3 B4
 refine tL I25 hf fun a b5 w e' hb5 hs5 B5 hf=>?_
 have lt5_B3:=B3.lt
 have lt5_B4:=B4.lt
 obtain⟨e,B2,B3,B4⟩:=up4 e' e B2 B3 B4
 haveI hinr:∀G0,InR (GB W G0) (some b5):=fun G0=>InR.gb (by omega)
 refine aF T25 hf rfl rfl (bK rfl rfl) B5 rfl (rfl) fun w hg hsz B5 hf=>?_
 obtain⟨e,B2,B3,B4⟩:=gr4 hg e B2 B3 B4
 refine aa <| seq <| ac <| tA hf rfl fun a hf=>aa ?_
 refine seq <| seq ?_
 refine ac <| tA hf rfl fun a hf=>aa ?_
 replace hf:=hf.keep [2,3,4,5,6,7]
 refine blk (aK (fun r0 a w=>∃(k:Nat) (u:Value) (dn:Bool),r0=g.1.length - k∧k≤g.1.length∧Fr 56 a w [(2,E (.pointer (some ⟨b2,0,none⟩))),(3,E (.pointer (some ⟨b3,0,none⟩))),(4,E (.pointer (some ⟨b4,0,none⟩))),(5,E (.pointer (some ⟨b5,0,none⟩))),(6,E (.bool dn)),(7,E (I k))]∧Ext W w∧Blk w b2 #[u1,.slice a2 n2 c2] 25∧Blk w b3 (vtV x).cells 45∧Blk w b4 #[.slice none 0 0,.slice none 0 0] 25∧Blk w b5 #[u,.slice a2 n2 c2] 25∧OwR vtE 45 (b5+1) G w (dM (fun y=>lt1 x.1 y.1) x g.1 k) u∧dn=(g.1.take k).any (fun y=>lt1 x.1 y.1)) g.1.length ⟨0,.slice none 0 0, false,rfl,by omega,hf,e,⟨B2,B3,B4,B5,OwR.nil vtE _ (by have:=B5.lt;omega) fun b hb=>Nat.lt_of_lt_of_le (hG b hb) (by omega),by simp⟩⟩ ?_)
 rintro r0 a w ⟨k,u,dn,rfl,hk,hf,e,B2,B3,B4,B5,Ho,hdn⟩
 refine seq <| seq ?_
 refine rgN 5 hf <| st (mv rfl) <| st (fA U25 rfl T22 rfl) <| st (ld1 T22 rfl (by assumption) rfl) <| st (aI U22 (isE rfl (vst e h1))) <| st (lss rfl rfl) <| en fun a w e' hf=>?_
 obtain⟨e,B2,B3,B4,B5,Ho⟩:=up6 e' e B2 B3 B4 B5 Ho
 refine aa <| ifc hf rfl (fun hc=>aj ?_) (fun hc=>aH ?_)
 rotate_left
 rotate_left
 ·have hlt:=ltC hc
  replace hf:=hf.keep [2,3,4,5,6,7]
  refine seq <| blk ?_
  have hg:=List.getElem?_eq_getElem hlt
  generalize g.1[k]=y at hg
  have hs:=oS (fun y:VT=>lt1 x.1 y.1) x g.1 hg
  have ha:=any_succ (fun y:VT=>lt1 x.1 y.1) g.1 hg
  have hlk:=hl2 k
  have hlk':=hl2 (k+1)
  refine seq <| seq ?_
  refine rgG 13 Mix.mix hf <| st (mv rfl) <| st (aZ rfl) <| st (mv rfl) <| sgE rfl rfl (.k 2 rfl .n) (fun hgd=>fA U25 rfl T22 rfl) <| sgE rfl rfl (.c 21 rfl (fun h=>h) .n) (fun hgd=>ld1 T22 rfl B2 rfl) <| sgE rfl rfl (.k 7 rfl .n) (fun hgd=>mv rfl) <| sgE rfl rfl (.c 22 rfl (fun h=>h) (.c 23 rfl (fun h=>h) .n)) (fun hgd=>aG U22 S45 (isE rfl (vst e h1)) rfl rfl (hg)) <| sgE rfl rfl (.c 24 rfl (fun h=>h) .n) (fun hgd=>aB U45 rfl T3 (by decide) (Fld.fst Fld.refl) (isR rfl)) <| sgE rfl rfl (.c 25 rfl (fun h=>h) .n) (fun hgd=>ldI T3 (isR rfl)) <| sgE rfl rfl (.k 3 rfl .n) (fun hgd=>fA U45 rfl T3 rfl) <| sgE rfl rfl (.c 27 rfl (fun h=>h) .n) (fun hgd=>ld1 T3 rfl B3 rfl) <| sgE rfl rfl (.c 26 rfl (fun h=>h) (.c 28 rfl (fun h=>h) .n)) (fun hgd=>(gtr rfl rfl).eq (congrArg Value.bool ((rfl:_=lt1 x.1 y.1)))) <| st (bF rfl rfl (fun h=>by rw[h];rfl)) ?_
  refine en fun a w e' hf=>?_
  obtain⟨Ho,e,B2,B3,B4,B5⟩:=up6 e' Ho e B2 B3 B4 B5
  refine aa <| ifc hf rfl (fun hb=>?_) (fun hb=>?_)
  ·replace hf:=hf.kp [2,3,4,5,6,7]
   rw[← hdn,if_pos hb] at hs
   have hd:(g.1.take (k+1)).any (fun y=>lt1 x.1 y.1)=true:=by rw[ha];simp only[Bool.and_eq_true] at hb;rw[hb.2,Bool.or_true]
   have n2:=Ho.neLt (b:=b2) (by omega);have n3:=Ho.neLt (b:=b3) (by omega);have n4:=Ho.neLt (b:=b4) (by omega);have n5:=Ho.neLt (b:=b5) (by omega)
   refine seq <| rgN 4 hf <| st (fA U25 rfl T22 rfl) <| st ((ld1 T22 rfl (by assumption) rfl).eq ((rfl:_=u))) <| st ((ldW T45 rfl (by assumption) rfl).eq ((rfl:_=vtV x))) <| st (aX U22 I45 rfl (by decide) rfl Ho.avs (ff rfl)) <| en fun a w e' hf=>?_
   obtain⟨Ho,e,B2,B3,B4,B5⟩:=up6 e' Ho e B2 B3 B4 B5
   haveI hin:∀G0,InR (GB W G0) _:=OwR.inGB (W:=W) Ho (by omega)
   refine bG U22 I45 rfl rfl hf (by decide) rfl Ho (isR rfl) (by simp only[List.length_singleton];omega) (by simp only[List.length_singleton,maxLen];omega) fun a v w hg hat Hn hf=>?_
   replace e:=e.gro hg (Ho.row (W:=W) (by omega))
   have hrow:=Ho.row (W:=W) (by omega)
   replace Ho:=Hn
   replace B2:=B2.gro hg (by assumption)
   replace B3:=B3.gro hg (by assumption)
   replace B4:=B4.gro hg (by assumption)
   replace B5:=B5.gro hg (by assumption)
   replace Ho:=Hn;clear Hn hg hat hin
   replace hf:=hf.kp [2,3,4,5,7,35]
   clear n2 n3 n4 n5
   refine tP hf (fA U25 rfl T22 rfl) fun a w e' hf=>?_
   obtain⟨Ho,e,B2,B3,B4,B5⟩:=up6 e' Ho e B2 B3 B4 B5
   refine aO T22 hf rfl rfl (slOne Ho.sl) B5 (by simp) fun w hg hsz B5 hf=>?_
   replace Ho:=Ho.grE hg (Ho.neLt (by omega))
   replace e:=e.gr hg (by omega)
   replace B2:=B2.gr hg (by omega)
   replace B3:=B3.gr hg (by omega)
   replace B4:=B4.gr hg (by omega)
   clear hg
   refine aa ?_
   replace hf:=hf.kp [2,3,4,5,7]
   refine ac <| tA hf rfl fun a hf=>aa ?_
   replace hf:=hf.kp [2,3,4,5,6,7]
   have n2:=Ho.neLt (b:=b2) (by omega);have n3:=Ho.neLt (b:=b3) (by omega);have n4:=Ho.neLt (b:=b4) (by omega);have n5:=Ho.neLt (b:=b5) (by omega)
   refine rgG 8 Mix.mix hf <| st (fA U25 rfl T22 rfl) <| st ((ld1 T22 rfl (by assumption) rfl).eq ((rfl:_=v))) <| st (fA U25 rfl T22 rfl) <| st (ld1 T22 rfl B2 rfl) <| st (mv rfl) <| st (aG U22 S45 (isE rfl (vst e h1b)) rfl (by omega) (hg)) <| st (gE T45 (isR rfl)) <| st (aX U22 I45 rfl (by decide) rfl Ho.avs (ff rfl)) <| en fun a w e' hf=>?_
   obtain⟨Ho,e,B2,B3,B4,B5⟩:=up6 e' Ho e B2 B3 B4 B5
   haveI hin:∀G0,InR (GB W G0) _:=OwR.inGB (W:=W) Ho (by omega)
   refine bG U22 I45 rfl rfl hf (by decide) rfl Ho (isR rfl) (by simp only[List.length_singleton,List.length_append];omega) (by simp only[List.length_singleton,List.length_append,maxLen];omega) fun a v w hg hat Hn hf=>?_
   replace e:=e.gro hg (Ho.row (W:=W) (by omega))
   have hrow:=Ho.row (W:=W) (by omega)
   replace Ho:=Hn
   replace B2:=B2.gro hg (by assumption)
   replace B3:=B3.gro hg (by assumption)
   replace B4:=B4.gro hg (by assumption)
   replace B5:=B5.gro hg (by assumption)
   replace Ho:=Hn;clear Hn hg hat hin
   replace hf:=hf.kp [2,3,4,5,6,7,45]
   refine tP hf (fA U25 rfl T22 rfl) fun a w e' hf=>?_
   obtain⟨Ho,e,B2,B3,B4,B5⟩:=up6 e' Ho e B2 B3 B4 B5
   refine aO T22 hf rfl rfl (slOne Ho.sl) B5 (by simp) fun w hg hsz B5 hf=>?_
   obtain⟨e,B2,B3,B4⟩:=gr4 hg e B2 B3 B4
   replace Ho:=Ho.grE hg (Ho.neLt (by omega))
   refine aa <| rgN 2 hf <| st (mv rfl) <| st ((add rfl rfl (by omega)).eq (iN k)) <| en fun a w e' hf=>?_
   obtain⟨Ho,e,B2,B3,B4,B5⟩:=up6 e' Ho e B2 B3 B4 B5
   refine tA hf rfl fun a hf=>aa ?_
   replace hf:=hf.kp [2,3,4,5,6,7]
   refine⟨_,?_,k+1,v,_,rfl,by omega,hf,e,?_⟩
   ·omega
   exact⟨B2,B3,B4,B5,by rw[hs];exact Ho,hd.symm⟩
  ·replace hf:=hf.kp [2,3,4,5,6,7]
   refine aj ?_
   rw[← hdn,if_neg (aR hb)] at hs
   have hd:(g.1.take (k+1)).any (fun y=>lt1 x.1 y.1)=dn:=by
    rw[ha,← hdn]
    cases hq:dn
    ·rw[hq] at hb;simpa using hb
    ·rfl
   have n2:=Ho.neLt (b:=b2) (by omega);have n3:=Ho.neLt (b:=b3) (by omega);have n4:=Ho.neLt (b:=b4) (by omega);have n5:=Ho.neLt (b:=b5) (by omega)
   refine rgG 8 Mix.mix hf <| st (fA U25 rfl T22 rfl) <| st ((ld1 T22 rfl (by assumption) rfl).eq ((rfl:_=u))) <| st (fA U25 rfl T22 rfl) <| st (ld1 T22 rfl B2 rfl) <| st (mv rfl) <| st (aG U22 S45 (isE rfl (vst e h1b)) rfl (by omega) (hg)) <| st (gE T45 (isR rfl)) <| st (aX U22 I45 rfl (by decide) rfl Ho.avs (ff rfl)) <| en fun a w e' hf=>?_
   obtain⟨Ho,e,B2,B3,B4,B5⟩:=up6 e' Ho e B2 B3 B4 B5
   haveI hin:∀G0,InR (GB W G0) _:=OwR.inGB (W:=W) Ho (by omega)
   refine bG U22 I45 rfl rfl hf (by decide) rfl Ho (isR rfl) (by simp only[List.length_singleton,List.length_append];omega) (by simp only[List.length_singleton,List.length_append,maxLen];omega) fun a v w hg hat Hn hf=>?_
   replace e:=e.gro hg (Ho.row (W:=W) (by omega))
   have hrow:=Ho.row (W:=W) (by omega)
   replace Ho:=Hn
   replace B2:=B2.gro hg (by assumption)
   replace B3:=B3.gro hg (by assumption)
   replace B4:=B4.gro hg (by assumption)
   replace B5:=B5.gro hg (by assumption)
   replace Ho:=Hn;clear Hn hg hat hin
   replace hf:=hf.kp [2,3,4,5,6,7,45]
   refine tP hf (fA U25 rfl T22 rfl) fun a w e' hf=>?_
   obtain⟨Ho,e,B2,B3,B4,B5⟩:=up6 e' Ho e B2 B3 B4 B5
   refine aO T22 hf rfl rfl (slOne Ho.sl) B5 (by simp) fun w hg hsz B5 hf=>?_
   obtain⟨e,B2,B3,B4⟩:=gr4 hg e B2 B3 B4
   replace Ho:=Ho.grE hg (Ho.neLt (by omega))
   refine aa <| rgN 2 hf <| st (mv rfl) <| st ((add rfl rfl (by omega)).eq (iN k)) <| en fun a w e' hf=>?_
   obtain⟨Ho,e,B2,B3,B4,B5⟩:=up6 e' Ho e B2 B3 B4 B5
   refine tA hf rfl fun a hf=>aa ?_
   replace hf:=hf.kp [2,3,4,5,6,7]
   refine⟨_,?_,k+1,v,_,rfl,by omega,hf,e,?_⟩
   ·omega
   exact⟨B2,B3,B4,B5,by rw[hs];exact Ho,hd.symm⟩
 ·obtain rfl:=dnE hc hk
  rw[List.take_length] at hdn
  have hend:=oT (fun y:VT=>lt1 x.1 y.1) x g.1
  rw[← hdn] at hend
  have fin:∀(w:World) (z:Value) (L:List VT),Ext W w→OwR vtE 45 (b5+1) G w L z→L=bY (fun y=>lt1 x.1 y.1) x g.1→(Dv gtE G (insV g.1 x,g.2)).p (.agg #[z,.slice a2 n2 c2]) w:=fun w z L e Ho hL=>Dv.gt.2 ⟨_,_,rfl,by rw[insV,← hL];exact Ho.sl,vst e h2⟩
  refine seq <| seq ?_
  refine rgN 2 hf <| st (mv rfl) <| st (aZ rfl) <| en fun a w e' hf=>?_
  obtain⟨Ho,e,B2,B3,B4,B5⟩:=up6 e' Ho e B2 B3 B4 B5
  refine aa <| ifc hf rfl (fun hb=>?_) (fun hb=>?_)
  ·have hd:dn=false:=by simpa using hb
   rw[hd,if_neg (by decide)] at hend
   have n2:=Ho.neLt (b:=b2) (by omega);have n3:=Ho.neLt (b:=b3) (by omega);have n4:=Ho.neLt (b:=b4) (by omega);have n5:=Ho.neLt (b:=b5) (by omega)
   have hlk:=hl2 g.1.length
   refine rgN 4 hf <| st (fA U25 rfl T22 rfl) <| st ((ld1 T22 rfl (by assumption) rfl).eq ((rfl:_=u))) <| st ((ldW T45 rfl (by assumption) rfl).eq ((rfl:_=vtV x))) <| st (aX U22 I45 rfl (by decide) rfl Ho.avs (ff rfl)) <| en fun a w e' hf=>?_
   obtain⟨Ho,e,B2,B3,B4,B5⟩:=up6 e' Ho e B2 B3 B4 B5
   haveI hin:∀G0,InR (GB W G0) _:=OwR.inGB (W:=W) Ho (by omega)
   refine bG U22 I45 rfl rfl hf (by decide) rfl Ho (isR rfl) (by simp only[List.length_singleton];omega) (by simp only[List.length_singleton,maxLen];omega) fun a v w hg hat Hn hf=>?_
   replace e:=e.gro hg (Ho.row (W:=W) (by omega))
   have hrow:=Ho.row (W:=W) (by omega)
   replace Ho:=Hn
   clear hrow
   replace B2:=B2.gro hg (by assumption)
   replace B3:=B3.gro hg (by assumption)
   replace B4:=B4.gro hg (by assumption)
   replace B5:=B5.gro hg (by assumption)
   replace Ho:=Hn;clear Hn hg hat hin
   replace hf:=hf.kp [2,3,4,5,7,53]
   clear n2 n3 n4 n5
   refine tP hf (fA U25 rfl T22 rfl) fun a w e' hf=>?_
   obtain⟨Ho,e,B2,B3,B4,B5⟩:=up6 e' Ho e B2 B3 B4 B5
   refine aO T22 hf rfl rfl (slOne Ho.sl) B5 (by simp) fun w hg hsz B5 hf=>?_
   obtain⟨e,B2,B3,B4⟩:=gr4 hg e B2 B3 B4
   replace Ho:=Ho.grE hg (Ho.neLt (by omega))
   refine aa ?_
   replace hf:=hf.kp [2,3,4,5,7]
   refine seq <| rgN 1 hf <| st ((ldW T25 rfl (by assumption) rfl).eq ((rfl:_=Value.agg #[v,.slice a2 n2 c2]))) <| en fun a w e' hf=>?_
   obtain⟨Ho,e,B2,B3,B4,B5⟩:=up6 e' Ho e B2 B3 B4 B5
   haveI hinr:∀G0,InR (GB W G0) (some b4):=fun G0=>InR.gb (by omega)
   refine aF T25 hf rfl rfl (bK (slOne Ho.sl) rfl) B4 rfl (rfl) fun w hg hsz B4 hf=>?_
   obtain⟨e,B2,B3,B5⟩:=gr4 hg e B2 B3 B5
   replace Ho:=Ho.grE hg (Ho.neLt (by omega))
   refine aa <| ak (dX rfl T25 hf rfl B4 rfl ?_)
   exact⟨_,rfl,e,fin _ _ _ e Ho hend⟩
  ·have hd:dn=true:=by simpa using hb
   rw[hd,if_pos rfl] at hend
   refine aj ?_
   replace hf:=hf.kp [2,3,4,5,7]
   refine seq <| rgN 1 hf <| st ((ldW T25 rfl (by assumption) rfl).eq ((rfl:_=Value.agg #[u,.slice a2 n2 c2]))) <| en fun a w e' hf=>?_
   obtain⟨Ho,e,B2,B3,B4,B5⟩:=up6 e' Ho e B2 B3 B4 B5
   haveI hinr:∀G0,InR (GB W G0) (some b4):=fun G0=>InR.gb (by omega)
   refine aF T25 hf rfl rfl (bK (slOne Ho.sl) rfl) B4 rfl (rfl) fun w hg hsz B4 hf=>?_
   obtain⟨e,B2,B3,B5⟩:=gr4 hg e B2 B3 B5
   replace Ho:=Ho.grE hg (Ho.neLt (by omega))
   refine aa <| ak (dX rfl T25 hf rfl B4 rfl ?_)
   exact⟨_,rfl,e,fin _ _ _ e Ho hend⟩
theorem xN {G:Nat→Prop}(g:GT)(x:ET)(v:Value)(W:World)(h:(Dv gtE G g).p v W)(hG:∀b,G b→b<W.heap.size)(hl:g.2.length≤100000) :
  Calls Tryz.prog 131 #[v,etV x] W (Post (Dv gtE G (g.1,gD g.2 x)) W):=by
 obtain⟨u1,u2,rfl,h1,h2⟩:=Dv.gt.1 h
 obtain⟨a2,n2,c2,rfl⟩:=Dv.slF h1
 have h1b:=Dv.toB h2
 have hl2:=fun k=>oU (fun y:ET=>lt2 x.1 y.1) x g.2 k
 refine eN [.agg #[.slice a2 n2 c2,u2],etV x] [E (.agg #[.slice a2 n2 c2,u2]),E (etV x)] Tryz.func131 Tryz.ntmps131 ?_ fun a hf=>?_
 rotate_left
 dsimp only[params,Nat.reduceAdd] at hf
 rotate_right
 ·exact arg2 rfl rfl
 have e:=Ext.rfl' W
 refine seq <| ac <| tB hf rfl fun a b2 w v2 hv2 e' hb2 hs2 B2 hf=>?_
 replace e:=e.tr e'
 refine tB hf rfl fun a b3 w v3 hv3 e' hb3 hs3 B3 hf=>?_
 obtain⟨e,B2⟩:=up2 e' e B2
 refine tL I25 hf fun a b4 w e' hb4 hs4 B4 hf=>?_
 obtain⟨e,B2,B3⟩:=up3 e' e B2 B3
 refine aa ?_
 cases hv2;cases hv3
 refine seq <| rgN 3 hf <| st (fA U25 rfl T22 rfl) <| st (ld1 T22 rfl (by assumption) rfl) <| st (bI [(0,_)] rfl (xL a2 n2 c2)) <| en fun a w e' hf=>?_
 obtain⟨e,B2,B3,B4⟩:=up4 e' e B2 B3 B4
 refine tL I25 hf fun a b5 w e' hb5 hs5 B5 hf=>?_
 have lt5_B3:=B3.lt
 have lt5_B4:=B4.lt
 obtain⟨e,B2,B3,B4⟩:=up4 e' e B2 B3 B4
 haveI hinr:∀G0,InR (GB W G0) (some b5):=fun G0=>InR.gb (by omega)
 refine aF T25 hf rfl rfl (bK rfl rfl) B5 rfl (rfl) fun w hg hsz B5 hf=>?_
 obtain⟨e,B2,B3,B4⟩:=gr4 hg e B2 B3 B4
 refine aa <| seq <| ac <| tA hf rfl fun a hf=>aa ?_
 refine seq <| seq ?_
 refine ac <| tA hf rfl fun a hf=>aa ?_
 replace hf:=hf.kp [2,3,4,5,6,7]
 refine blk (aK (fun r0 a w=>∃(k:Nat) (u:Value) (dn:Bool),r0=g.2.length - k∧k≤g.2.length∧Fr 68 a w [(2,E (.pointer (some ⟨b2,0,none⟩))),(3,E (.pointer (some ⟨b3,0,none⟩))),(4,E (.pointer (some ⟨b4,0,none⟩))),(5,E (.pointer (some ⟨b5,0,none⟩))),(6,E (.bool dn)),(7,E (I k))]∧Ext W w∧Blk w b2 #[.slice a2 n2 c2,u2] 25∧Blk w b3 (etV x).cells 51∧Blk w b4 #[.slice none 0 0,.slice none 0 0] 25∧Blk w b5 #[.slice a2 n2 c2,u] 25∧OwR etE 51 (b5+1) G w (dM (fun y=>lt2 x.1 y.1) x g.2 k) u∧dn=(g.2.take k).any (fun y=>lt2 x.1 y.1)) g.2.length ⟨0,.slice none 0 0, false,rfl,by omega,hf,e,⟨B2,B3,B4,B5,OwR.nil etE _ (by have:=B5.lt;omega) fun b hb=>Nat.lt_of_lt_of_le (hG b hb) (by omega),by simp⟩⟩ ?_)
 rintro r0 a w ⟨k,u,dn,rfl,hk,hf,e,B2,B3,B4,B5,Ho,hdn⟩
 refine seq <| seq ?_
 refine rgN 5 hf <| st (mv rfl) <| st (fA U25 rfl T23 rfl) <| st (ld1 T23 rfl (by assumption) rfl) <| st (aI U23 (isE rfl (vst e h2))) <| st (lss rfl rfl) <| en fun a w e' hf=>?_
 obtain⟨e,B2,B3,B4,B5,Ho⟩:=up6 e' e B2 B3 B4 B5 Ho
 refine aa <| ifc hf rfl (fun hc=>aj ?_) (fun hc=>aH ?_)
 rotate_left
 rotate_left
 ·have hlt:=ltC hc
  replace hf:=hf.kp [2,3,4,5,6,7]
  refine seq <| blk ?_
  have hg:=List.getElem?_eq_getElem hlt
  generalize g.2[k]=y at hg
  have hs:=oS (fun y:ET=>lt2 x.1 y.1) x g.2 hg
  have ha:=any_succ (fun y:ET=>lt2 x.1 y.1) g.2 hg
  have hlk:=hl2 k
  have hlk':=hl2 (k+1)
  refine seq <| ac <| tP hf (fA U25 rfl T23 rfl) fun a w e' hf=>?_
  obtain⟨Ho,e,B2,B3,B4,B5⟩:=up6 e' Ho e B2 B3 B4 B5
  refine tP hf (ld1 T23 rfl B2 rfl) fun a w e' hf=>?_
  obtain⟨Ho,e,B2,B3,B4,B5⟩:=up6 e' Ho e B2 B3 B4 B5
  refine tP hf (mv rfl) fun a w e' hf=>?_
  obtain⟨Ho,e,B2,B3,B4,B5⟩:=up6 e' Ho e B2 B3 B4 B5
  refine tP hf (aG U23 S51 (isE rfl (vst e h1b)) rfl (by omega) (hg)) fun a w e' hf=>?_
  obtain⟨Ho,e,B2,B3,B4,B5⟩:=up6 e' Ho e B2 B3 B4 B5
  refine tP hf (fN T51 (isR rfl)) fun a w e' hf=>?_
  obtain⟨Ho,e,B2,B3,B4,B5⟩:=up6 e' Ho e B2 B3 B4 B5
  refine tL I51 hf fun a b8 w e' hb8 hs8 B8 hf=>?_
  have hle8:=Nat.le_trans e.size (Nat.le_of_eq hb8.symm)
  have ne8_Ho:=Ho.ne_new hb8
  have lt8_B4:=B4.lt
  have lt8_B5:=B5.lt
  obtain⟨Ho,e,B2,B3,B4,B5⟩:=up6 e' Ho e B2 B3 B4 B5
  have n8:=ne8_Ho
  replace hf:=hf.kp [2,3,4,5,6,7,8,23]
  refine aF T51 hf rfl rfl (by simp[Array.all_eq_true_iff_forall_mem];exact⟨rfl,rfl,rfl,rfl⟩) B8 rfl rfl fun w hg' hsz B8 hf=>?_
  replace e:=e.gr hg' (by omega);replace B2:=B2.gr hg' (by omega);replace B3:=B3.gr hg' (by omega);replace B4:=B4.gr hg' (by omega);replace B5:=B5.gr hg' (by omega);replace Ho:=Ho.grE hg' n8;clear hg'
  refine aa ?_
  have hll:lt2 x.1 y.1=(decide (x.1.1<y.1.1) || (y.1.1==x.1.1&&decide (x.1.2<y.1.2))):=by
   rw[Bool.eq_iff_iff];simp only[lt2,decide_eq_true_eq,Bool.or_eq_true,Bool.and_eq_true,beq_iff_eq];omega
  replace hf:=hf.kp [2,3,4,5,6,7,8]
  refine seq <| seq ?_
  refine rgN 23 hf <| st (mv rfl) <| st (aZ rfl) <| st (mv rfl) <| sgE rfl rfl (.k 8 rfl .n) (fun hgd=>fA U51 rfl T3 rfl) <| sgE rfl rfl (.c 27 rfl (fun h=>h) .n) (fun hgd=>ld1 T3 rfl B8 rfl) <| sgE rfl rfl (.k 3 rfl .n) (fun hgd=>fA U51 rfl T3 rfl) <| sgE rfl rfl (.c 29 rfl (fun h=>h) .n) (fun hgd=>ld1 T3 rfl B3 rfl) <| sgE rfl rfl (.c 28 rfl (fun h=>h) (.c 30 rfl (fun h=>h) .n)) (fun hgd=>gtr rfl rfl) <| sgE rfl rfl (.c 31 rfl (fun h=>h) .n) (fun hgd=>mv rfl) <| sgC rfl rfl (.k 8 rfl .n) (fun hgd=>fA U51 rfl T3 rfl) <| sgC rfl rfl (.c 33 rfl (fun h=>h) .n) (fun hgd=>ld1 T3 rfl B8 rfl) <| sgC rfl rfl (.k 3 rfl .n) (fun hgd=>fA U51 rfl T3 rfl) <| sgC rfl rfl (.c 35 rfl (fun h=>h) .n) (fun hgd=>ld1 T3 rfl B3 rfl) <| sgC rfl rfl (.c 34 rfl (fun h=>h) (.c 36 rfl (fun h=>h) .n)) (fun hgd=>eql rfl rfl) <| sgC rfl rfl (.c 37 rfl (fun h=>h) .n) (fun hgd=>mv rfl) <| sgC rfl rfl (.k 8 rfl .n) (fun hgd=>fA U51 rfl T3 rfl) <| sgC rfl rfl (.c 39 rfl (fun h=>h) .n) (fun hgd=>ld1 T3 rfl B8 rfl) <| sgC rfl rfl (.k 3 rfl .n) (fun hgd=>fA U51 rfl T3 rfl) <| sgC rfl rfl (.c 41 rfl (fun h=>h) .n) (fun hgd=>ld1 T3 rfl B3 rfl) <| sgC rfl rfl (.c 40 rfl (fun h=>h) (.c 42 rfl (fun h=>h) .n)) (fun hgd=>gtr rfl rfl) <| sgC rfl rfl (.c 38 rfl (fun h=>h) (.k 43 rfl .n)) (fun hgd=>bF rfl rfl (fun h=>by rw[hgd,h];rfl)) ?_
  refine sgE rfl rfl (.c 32 rfl (fun h=>h) (.k 44 rfl .n)) (fun hgd=>bH rfl rfl (fun h=>by rw[hgd,h];rfl)) ?_
  refine st (bF rfl rfl (fun h=>by rw[h];rfl)) ?_
  refine en fun a w e' hf=>?_
  obtain⟨Ho,e,B2,B3,B4,B5,B8⟩:=up7 e' Ho e B2 B3 B4 B5 B8
  refine aa <| ifc hf rfl (fun hb=>?_) (fun hb=>?_)
  ·replace hf:=hf.kp [2,3,4,5,6,7,8]
   rw[← hll] at hb
   rw[← hdn,if_pos hb] at hs
   have hd:(g.2.take (k+1)).any (fun y=>lt2 x.1 y.1)=true:=by rw[ha];simp only[Bool.and_eq_true] at hb;rw[hb.2,Bool.or_true]
   have n2:=Ho.neLt (b:=b2) (by omega);have n3:=Ho.neLt (b:=b3) (by omega);have n4:=Ho.neLt (b:=b4) (by omega);have n5:=Ho.neLt (b:=b5) (by omega)
   refine seq <| rgN 4 hf <| st (fA U25 rfl T23 rfl) <| st ((ld1 T23 rfl (by assumption) rfl).eq ((rfl:_=u))) <| st ((ldW T51 rfl B3 rfl).eq ((rfl:_=etV x))) <| st (aX U23 I51 rfl (by decide) rfl Ho.avs (dq rfl)) <| en fun a w e' hf=>?_
   obtain⟨Ho,e,B2,B3,B4,B5,B8⟩:=up7 e' Ho e B2 B3 B4 B5 B8
   haveI hin:∀G0,InR (GB W G0) _:=OwR.inGB (W:=W) Ho (by omega)
   refine bG U23 I51 rfl rfl hf (by decide) rfl Ho (isR rfl) (by simp only[List.length_singleton];omega) (by simp only[List.length_singleton,maxLen];omega) fun a v w hg hat Hn hf=>?_
   replace e:=e.gro hg (Ho.row (W:=W) (by omega))
   have hrow:=Ho.row (W:=W) (by omega)
   replace Ho:=Hn
   have n8':=lI hat n8 B8.lt
   replace B2:=B2.gro hg (by assumption)
   replace B3:=B3.gro hg (by assumption)
   replace B4:=B4.gro hg (by assumption)
   replace B5:=B5.gro hg (by assumption)
   replace B8:=B8.gro hg (by assumption)
   replace n8:=n8';clear n8'
   replace Ho:=Hn;clear Hn hg hat hin
   replace hf:=hf.kp [2,3,4,5,7,8,51]
   refine tP hf (fA U25 rfl T23 rfl) fun a w e' hf=>?_
   obtain⟨Ho,e,B2,B3,B4,B5,B8⟩:=up7 e' Ho e B2 B3 B4 B5 B8
   refine aO T23 hf rfl rfl (slOne Ho.sl) B5 (by simp) fun w hg hsz B5 hf=>?_
   obtain⟨e,B2,B3,B4,B8⟩:=gr5 hg e B2 B3 B4 B8
   replace Ho:=Ho.grE hg (Ho.neLt (by omega))
   refine aa ?_
   replace hf:=hf.kp [2,3,4,5,7,8]
   refine ac <| tA hf rfl fun a hf=>aa ?_
   replace hf:=hf.kp [2,3,4,5,6,7,8]
   have n2:=Ho.neLt (b:=b2) (by omega);have n3:=Ho.neLt (b:=b3) (by omega);have n4:=Ho.neLt (b:=b4) (by omega);have n5:=Ho.neLt (b:=b5) (by omega)
   refine rgN 4 hf <| st (fA U25 rfl T23 rfl) <| st ((ld1 T23 rfl (by assumption) rfl).eq ((rfl:_=v))) <| st ((ldW T51 rfl B8 rfl).eq ((rfl:_=etV y))) <| st (aX U23 I51 rfl (by decide) rfl Ho.avs (dq rfl)) <| en fun a w e' hf=>?_
   obtain⟨Ho,e,B2,B3,B4,B5,B8⟩:=up7 e' Ho e B2 B3 B4 B5 B8
   haveI hin:∀G0,InR (GB W G0) _:=OwR.inGB (W:=W) Ho (by omega)
   refine bG U23 I51 rfl rfl hf (by decide) rfl Ho (isR rfl) (by simp only[List.length_singleton,List.length_append];omega) (by simp only[List.length_singleton,List.length_append,maxLen];omega) fun a v w hg hat Hn hf=>?_
   replace e:=e.gro hg (Ho.row (W:=W) (by omega))
   have hrow:=Ho.row (W:=W) (by omega)
   replace Ho:=Hn
   replace B2:=B2.gro hg (by assumption)
   replace B3:=B3.gro hg (by assumption)
   replace B4:=B4.gro hg (by assumption)
   replace B5:=B5.gro hg (by assumption)
   replace B8:=B8.gro hg (by assumption)
   replace Ho:=Hn;clear Hn hg hat hin
   replace hf:=hf.kp [2,3,4,5,6,7,57]
   refine tP hf (fA U25 rfl T23 rfl) fun a w e' hf=>?_
   obtain⟨Ho,e,B2,B3,B4,B5,B8⟩:=up7 e' Ho e B2 B3 B4 B5 B8
   refine aO T23 hf rfl rfl (slOne Ho.sl) B5 (by simp) fun w hg hsz B5 hf=>?_
   obtain⟨e,B2,B3,B4,B8⟩:=gr5 hg e B2 B3 B4 B8
   replace Ho:=Ho.grE hg (Ho.neLt (by omega))
   refine aa <| rgN 2 hf <| st (mv rfl) <| st ((add rfl rfl (by omega)).eq (iN k)) <| en fun a w e' hf=>?_
   obtain⟨Ho,e,B2,B3,B4,B5,B8⟩:=up7 e' Ho e B2 B3 B4 B5 B8
   refine tA hf rfl fun a hf=>aa ?_
   replace hf:=hf.kp [2,3,4,5,6,7]
   refine⟨_,?_,k+1,v,_,rfl,by omega,hf,e,?_⟩
   ·omega
   exact⟨B2,B3,B4,B5,by rw[hs];exact Ho,hd.symm⟩
  ·replace hf:=hf.kp [2,3,4,5,6,7,8]
   refine aj ?_
   rw[← hll] at hb
   rw[← hdn,if_neg (aR hb)] at hs
   have hd:(g.2.take (k+1)).any (fun y=>lt2 x.1 y.1)=dn:=by
    rw[ha,← hdn]
    cases hq:dn
    ·rw[hq] at hb;simpa using hb
    ·rfl
   have n2:=Ho.neLt (b:=b2) (by omega);have n3:=Ho.neLt (b:=b3) (by omega);have n4:=Ho.neLt (b:=b4) (by omega);have n5:=Ho.neLt (b:=b5) (by omega)
   refine rgN 4 hf <| st (fA U25 rfl T23 rfl) <| st ((ld1 T23 rfl (by assumption) rfl).eq ((rfl:_=u))) <| st ((ldW T51 rfl B8 rfl).eq ((rfl:_=etV y))) <| st (aX U23 I51 rfl (by decide) rfl Ho.avs (dq rfl)) <| en fun a w e' hf=>?_
   obtain⟨Ho,e,B2,B3,B4,B5,B8⟩:=up7 e' Ho e B2 B3 B4 B5 B8
   haveI hin:∀G0,InR (GB W G0) _:=OwR.inGB (W:=W) Ho (by omega)
   refine bG U23 I51 rfl rfl hf (by decide) rfl Ho (isR rfl) (by simp only[List.length_singleton,List.length_append];omega) (by simp only[List.length_singleton,List.length_append,maxLen];omega) fun a v w hg hat Hn hf=>?_
   replace e:=e.gro hg (Ho.row (W:=W) (by omega))
   have hrow:=Ho.row (W:=W) (by omega)
   replace Ho:=Hn
   replace B2:=B2.gro hg (by assumption)
   replace B3:=B3.gro hg (by assumption)
   replace B4:=B4.gro hg (by assumption)
   replace B5:=B5.gro hg (by assumption)
   replace B8:=B8.gro hg (by assumption)
   replace Ho:=Hn;clear Hn hg hat hin
   replace hf:=hf.kp [2,3,4,5,6,7,57]
   refine tP hf (fA U25 rfl T23 rfl) fun a w e' hf=>?_
   obtain⟨Ho,e,B2,B3,B4,B5,B8⟩:=up7 e' Ho e B2 B3 B4 B5 B8
   refine aO T23 hf rfl rfl (slOne Ho.sl) B5 (by simp) fun w hg hsz B5 hf=>?_
   obtain⟨e,B2,B3,B4,B8⟩:=gr5 hg e B2 B3 B4 B8
   replace Ho:=Ho.grE hg (Ho.neLt (by omega))
   refine aa <| rgN 2 hf <| st (mv rfl) <| st ((add rfl rfl (by omega)).eq (iN k)) <| en fun a w e' hf=>?_
   obtain⟨Ho,e,B2,B3,B4,B5,B8⟩:=up7 e' Ho e B2 B3 B4 B5 B8
   refine tA hf rfl fun a hf=>aa ?_
   replace hf:=hf.kp [2,3,4,5,6,7]
   refine⟨_,?_,k+1,v,_,rfl,by omega,hf,e,?_⟩
   ·omega
   exact⟨B2,B3,B4,B5,by rw[hs];exact Ho,hd.symm⟩
 ·obtain rfl:=dnE hc hk
  rw[List.take_length] at hdn
  have hend:=oT (fun y:ET=>lt2 x.1 y.1) x g.2
  rw[← hdn] at hend
  have fin:∀(w:World) (z:Value) (L:List ET),Ext W w→OwR etE 51 (b5+1) G w L z→L=bY (fun y=>lt2 x.1 y.1) x g.2→(Dv gtE G (g.1,gD g.2 x)).p (.agg #[.slice a2 n2 c2,z]) w:=fun w z L e Ho hL=>Dv.gt.2 ⟨_,_,rfl,vst e h1,by rw[gD,← hL];exact Ho.sl⟩
  refine seq <| seq ?_
  refine rgN 2 hf <| st (mv rfl) <| st (aZ rfl) <| en fun a w e' hf=>?_
  obtain⟨Ho,e,B2,B3,B4,B5⟩:=up6 e' Ho e B2 B3 B4 B5
  refine aa <| ifc hf rfl (fun hb=>?_) (fun hb=>?_)
  ·have hd:dn=false:=by simpa using hb
   rw[hd,if_neg (by decide)] at hend
   have n2:=Ho.neLt (b:=b2) (by omega);have n3:=Ho.neLt (b:=b3) (by omega);have n4:=Ho.neLt (b:=b4) (by omega);have n5:=Ho.neLt (b:=b5) (by omega)
   have hlk:=hl2 g.2.length
   refine rgN 4 hf <| st (fA U25 rfl T23 rfl) <| st ((ld1 T23 rfl (by assumption) rfl).eq ((rfl:_=u))) <| st ((ldW T51 rfl B3 rfl).eq ((rfl:_=etV x))) <| st (aX U23 I51 rfl (by decide) rfl Ho.avs (dq rfl)) <| en fun a w e' hf=>?_
   obtain⟨Ho,e,B2,B3,B4,B5⟩:=up6 e' Ho e B2 B3 B4 B5
   haveI hin:∀G0,InR (GB W G0) _:=OwR.inGB (W:=W) Ho (by omega)
   refine bG U23 I51 rfl rfl hf (by decide) rfl Ho (isR rfl) (by simp only[List.length_singleton];omega) (by simp only[List.length_singleton,maxLen];omega) fun a v w hg hat Hn hf=>?_
   replace e:=e.gro hg (Ho.row (W:=W) (by omega))
   have hrow:=Ho.row (W:=W) (by omega)
   replace Ho:=Hn
   clear hrow
   replace B2:=B2.gro hg (by assumption)
   replace B3:=B3.gro hg (by assumption)
   replace B4:=B4.gro hg (by assumption)
   replace B5:=B5.gro hg (by assumption)
   replace Ho:=Hn;clear Hn hg hat hin
   replace hf:=hf.kp [2,3,4,5,7,65]
   clear n2 n3 n4 n5
   refine tP hf (fA U25 rfl T23 rfl) fun a w e' hf=>?_
   obtain⟨Ho,e,B2,B3,B4,B5⟩:=up6 e' Ho e B2 B3 B4 B5
   refine aO T23 hf rfl rfl (slOne Ho.sl) B5 (by simp) fun w hg hsz B5 hf=>?_
   obtain⟨e,B2,B3,B4⟩:=gr4 hg e B2 B3 B4
   replace Ho:=Ho.grE hg (Ho.neLt (by omega))
   refine aa ?_
   replace hf:=hf.kp [2,3,4,5,7]
   refine seq <| rgN 1 hf <| st ((ldW T25 rfl (by assumption) rfl).eq ((rfl:_=Value.agg #[.slice a2 n2 c2,v]))) <| en fun a w e' hf=>?_
   obtain⟨Ho,e,B2,B3,B4,B5⟩:=up6 e' Ho e B2 B3 B4 B5
   haveI hinr:∀G0,InR (GB W G0) (some b4):=fun G0=>InR.gb (by omega)
   refine aF T25 hf rfl rfl (bK rfl (slOne Ho.sl)) B4 rfl (rfl) fun w hg hsz B4 hf=>?_
   obtain⟨e,B2,B3,B5⟩:=gr4 hg e B2 B3 B5
   replace Ho:=Ho.grE hg (Ho.neLt (by omega))
   refine aa <| ak (dX rfl T25 hf rfl B4 rfl ?_)
   exact⟨_,rfl,e,fin _ _ _ e Ho hend⟩
  ·have hd:dn=true:=by simpa using hb
   rw[hd,if_pos rfl] at hend
   refine aj ?_
   replace hf:=hf.kp [2,3,4,5,7]
   refine seq <| rgN 1 hf <| st ((ldW T25 rfl (by assumption) rfl).eq ((rfl:_=Value.agg #[.slice a2 n2 c2,u]))) <| en fun a w e' hf=>?_
   obtain⟨Ho,e,B2,B3,B4,B5⟩:=up6 e' Ho e B2 B3 B4 B5
   haveI hinr:∀G0,InR (GB W G0) (some b4):=fun G0=>InR.gb (by omega)
   refine aF T25 hf rfl rfl (bK rfl (slOne Ho.sl)) B4 rfl (rfl) fun w hg hsz B4 hf=>?_
   obtain⟨e,B2,B3,B5⟩:=gr4 hg e B2 B3 B5
   replace Ho:=Ho.grE hg (Ho.neLt (by omega))
   refine aa <| ak (dX rfl T25 hf rfl B4 rfl ?_)
   exact⟨_,rfl,e,fin _ _ _ e Ho hend⟩
end Go.Mono
namespace Go.Mono
open Go Go.RowKit Go.Gr
structure KV (P:Program)(α β:Type) where
 k:TypeId
 e:TypeId
 kv:α→Value
 kl:α→Lit
 ok:α→Prop
 mv:β→Value
 dv:β→DataW Unit
 okv:β→Prop
 R:Value→Option (DataW Unit×List MemPlace)
 K:Maps.Keyed P k
 key:∀x,ok x→keyOf P k (kv x)=some (kl x)
 keyInv:∀v l,keyOf P k v=some l→∃x,ok x∧v=kv x∧l=kl x
 kvInj:∀x y,kv x=kv y→x=y
 val:∀c,okv c→R (mv c)=some (dv c,[])
 valInv:∀v y,R v=some y→∃c,okv c∧v=mv c∧y=(dv c,[])
 dvInj:∀c c',dv c=dv c'→c=c'
variable {P:Program}{α β:Type}{V:KV P α β}{w w':World}{b n:Nat}{l:List (α×β)}
def KV.enc (V:KV P α β)(p:α×β):Lit×DataW Unit:=(V.kl p.1,V.dv p.2)
def MpR (V:KV P α β)(w:World)(b n:Nat)(l:List (α×β)):Prop:=
 ∃es,w.ownsMap P V.k V.R b n (.map es)∧es.Perm (l.map V.enc)∧(∀p∈l,V.ok p.1∧V.okv p.2)∧l.Pairwise fun p q=>p.1≠q.1
theorem MpR.lt (h:MpR V w b n l):b<w.heap.size:=by obtain⟨es,h,_⟩:=h;exact h.lt
theorem MpR.pres (h:MpR V w b n l)(hb:w'.heap[b]?=w.heap[b]?):MpR V w' b n l:=by
 obtain⟨D,⟨es,clock,h1,h2⟩,h3⟩:=h
 exact⟨D,⟨es,clock,hb.trans h1,h2⟩,h3⟩
theorem MpR.ext (h:MpR V w b n l)(e':Ext w w'):MpR V w' b n l:=h.pres (e'.block b h.lt)
instance:Ug w w' (MpR V w b n l) (MpR V w' b n l):=⟨fun e h=>h.ext e⟩
theorem MpR.gr (h:MpR V w b n l){c:Option Nat}(hg:w.grownBy w' c)(hne:some b≠c):MpR V w' b n l:=h.pres (hg.block b h.lt hne)
instance {d:Nat}:Gg d w w' (MpR V w b n l) (b≠d) (MpR V w' b n l):=⟨fun g s h=>h.gr g fun e=>s (Option.some.inj e)⟩
theorem MpR.perm {l':List (α×β)}(h:MpR V w b n l)(hp:l.Perm l'):MpR V w b n l':=by
 obtain⟨es,h1,h2,h3,h4⟩:=h
 exact⟨es,h1,h2.trans (hp.map _),fun p hp'=>h3 p (hp.mem_iff.2 hp'),(hp.pairwise_iff (fun {_ _} hne=>Ne.symm hne)).1 h4⟩
theorem MpR.mono {n':Nat}(h:MpR V w b n l)(hn:n≤n'):MpR V w b n' l:=by
 obtain⟨es,h1,h2⟩:=h
 exact⟨es,h1.mono hn,h2⟩
theorem MpR.made (V:KV P α β)(w:World):MpR V (w.alloc (.map #[] 0)) w.heap.size 0 []:=
 ⟨[],World.ownsMap_made w P _ _,List.Perm.refl _,fun p hp=>by simp at hp,List.Pairwise.nil⟩
theorem KV.isKey (V:KV P α β){x:α}(hx:V.ok x):WideAt.IsKeyLit (V.kl x):=V.K.one.key ⟨_,V.key x hx⟩
theorem KV.klInj (V:KV P α β){x y:α}(hx:V.ok x)(hy:V.ok y)(h:V.kl x=V.kl y):x=y:=V.kvInj _ _ (V.K.inj (V.key x hx) (by rw[h];exact V.key y hy))
theorem MpR.size_le (h:MpR V w b n l):l.length≤n:=by
 obtain⟨es,h1,h2,_⟩:=h
 have:=h1.size_le
 rw[Maps.size_eq,h2.length_eq,List.length_map] at this;exact this
theorem MpR.len {t e:TypeId}(h:MpR V w b n l)(ht:P.underlying t=some (.map V.k e))(ty:TypeId):(Builtin.len_ #[t] ty #[.map (some b)]).run P w=.ok (.int .i64 (l.length:Nat)) w:=by
 obtain⟨es,h1,h2,_⟩:=h
 have:=h1.len ht ty
 rw[Maps.size_eq,h2.length_eq,List.length_map] at this;exact this
variable [DecidableEq α]
theorem KV.same (V:KV P α β){x y:α}(hx:V.ok x)(hy:V.ok y):(V.kl y).sameKey (V.kl x)=decide (y=x):=by
 by_cases h:y=x
 ·subst h;simp[WideAt.sameKey_self (V.isKey hx)]
 ·rw[Maps.sameKey_ne fun e=>h (V.klInj hy hx e)];simp[h]
theorem MpR.has {x:α}(h:MpR V w b n l)(hx:V.ok x):∃D,w.ownsMap P V.k V.R b n D∧Maps.has D (V.kl x)=l.any (fun p=>decide (p.1=x))∧(∀c,(x,c)∈l→∀z,D.atKey (V.kl x) z=V.dv c)∧((∀c,(x,c) ∉ l)→∀z,D.atKey (V.kl x) z=z)∧Maps.size D=l.length:=by
 obtain⟨es,h1,h2,h3,h4⟩:=h
 have hany:es.any (fun p=>p.1.sameKey (V.kl x))=l.any (fun p=>decide (p.1=x)):=by
  rw[h2.any_eq,List.any_map,Bool.eq_iff_iff]
  simp only[List.any_eq_true,Function.comp,KV.enc]
  exact⟨fun⟨p,hp,hq⟩=>⟨p,hp,by rwa [V.same hx (h3 p hp).1] at hq⟩,fun⟨p,hp,hq⟩=>⟨p,hp,by rwa [V.same hx (h3 p hp).1]⟩⟩
 refine⟨_,h1,hany,fun c hc z=>?_,fun hc z=>?_,by rw[Maps.size_eq,h2.length_eq,List.length_map]⟩
 ·have hm:V.enc (x,c)∈es:=h2.mem_iff.2 (List.mem_map_of_mem hc)
  obtain⟨es',hD,hpw,_⟩:=h1.entries V.K
  cases hD
  simp only[DataW.atKey]
  cases hf:es.find? (fun p=>p.1.sameKey (V.kl x)) with
  | none=>
   have:=List.find?_eq_none.1 hf _ hm
   simp[KV.enc,WideAt.sameKey_self (V.isKey hx)] at this
  | some q=>
   have hq:=List.mem_of_find?_eq_some hf
   have hq2:=List.find?_some hf
   obtain⟨p,hp,rfl⟩:=List.mem_map.1 (h2.mem_iff.1 hq)
   have:p.1=x:=by rw[KV.enc,V.same hx (h3 p hp).1] at hq2;simpa using hq2
   have hpc:p=(x,c):=by
    apply Classical.byContradiction
    intro hne
    have h5:∀{m:List (α×β)},m.Pairwise (fun p q=>p.1≠q.1)→p∈m→(x,c)∈m→False:=by
     intro m
     induction m with
     | nil=>intro _ hp;simp at hp
     | cons y r ih=>
      intro hm hp hc
      obtain⟨h6,h7⟩:=List.pairwise_cons.1 hm
      rcases List.mem_cons.1 hp with rfl|hp' <;> rcases List.mem_cons.1 hc with hy|hc'
      ·exact hne hy.symm
      ·exact h6 _ hc' this
      ·exact h6 _ hp' (by rw[← hy];exact this.symm)
      ·exact ih h7 hp' hc'
    exact h5 h4 hp hc
   rw[hpc];rfl
 ·simp only[DataW.atKey]
  rw[List.find?_eq_none.2 fun p hp=>?_]
  obtain⟨q,hq,rfl⟩:=List.mem_map.1 (h2.mem_iff.1 hp)
  rw[KV.enc,V.same hx (h3 q hq).1]
  simp only[decide_eq_true_eq]
  rintro rfl
  exact hc q.2 hq
theorem iE (x:Lit×DataW Unit):∀l:List (Lit×DataW Unit),(DataW.insert x l).Perm (x::l)
 | []=>by simp[DataW.insert]
 | y::r=>by
  unfold DataW.insert
  split
  ·exact List.Perm.refl _
  ·exact ((iE x r).cons y).trans (List.Perm.swap x y r)
def aV (l:List (α×β))(x:α)(c:β):List (α×β):=(x,c)::l.filter fun p => !decide (p.1=x)
theorem MpR.put {t:TypeId}{x:α}{c:β}(h:MpR V w b n l)(hx:V.ok x)(hc:V.okv c)(ht:P.underlying t=some (.map V.k V.e))(hn:n<maxLen) :
  ∃w',(Instr.mapUpdate t (.map (some b)) (V.kv x) (V.mv c)).run P w=.ok () w'∧MpR V w' b (n+1) (aV l x c)∧w.grownBy w' (some b):=by
 obtain⟨es,h1,h2,h3,h4⟩:=h
 obtain⟨w',r1,r2,r3⟩:=h1.update V.K ht hn (V.key x hx) (V.val c hc)
 refine⟨w',r1,⟨_,r2,?_,?_,?_⟩,r3⟩
 ·refine (iE _ _).trans ?_
  rw[aV,List.map_cons]
  refine List.Perm.cons _ ?_
  have:=h2.filter (fun p => !p.1.sameKey (V.kl x))
  refine this.trans ?_
  rw[List.filter_map]
  rw[List.filter_congr (q:=fun p:α×β => !decide (p.1=x)) fun p hp=>by simp only[Function.comp,KV.enc,V.same hx (h3 p hp).1]]
 ·intro p hp
  rcases List.mem_cons.1 hp with rfl|hp
  ·exact⟨hx,hc⟩
  ·exact h3 p (List.mem_filter.1 hp).1
 ·refine List.pairwise_cons.2 ⟨fun q hq=>?_,h4.filter _⟩
  have:=(List.mem_filter.1 hq).2
  simp only[Bool.not_eq_true',decide_eq_false_iff_not] at this
  exact fun h=>this h.symm
theorem MpR.get {t:TypeId}{x:α}{z:β}(h:MpR V w b n l)(hx:V.ok x)(ht:P.underlying t=some (.map V.k V.e))(hz:(zeroValue V.e).run P w=.ok (V.mv z) w)(hzo:V.okv z) :
  ∃c,(Instr.lookup t (.map (some b)) (V.kv x) true).run P w=.ok (.tuple #[V.mv c,.bool (l.any fun p=>decide (p.1=x))]) w∧((∃c',(x,c')∈l)→(x,c)∈l)∧((∀c',(x,c') ∉ l)→c=z):=by
 obtain⟨D,h1,h2,h3,h4,_⟩:=h.has hx
 obtain⟨v,ps,r1,r2⟩:=h1.look_ok V.K ht hz (V.val z hzo) (V.key x hx)
 obtain⟨c,hc,rfl,hy⟩:=V.valInv _ _ r2
 rw[h2] at r1
 refine⟨c,r1,fun⟨c',hc'⟩=>?_,fun hno=>?_⟩
 ·have:=congrArg Prod.fst hy
  simp only at this
  rw[h3 c' hc'] at this
  rw[← V.dvInj _ _ this];exact hc'
 ·have:=congrArg Prod.fst hy
  simp only at this
  rw[h4 hno] at this
  exact (V.dvInj _ _ this).symm
def mpE (V:KV P α β)(N:Nat):Enc (List (α×β)) where
 k:=1
 agg:=false
 r:=fun G w l cs=>∃b n,cs=[.map (some b)]∧¬G b∧n≤N∧MpR V w b n l
 pos:=by decide
 k1:=fun _=>rfl
 len:=fun⟨b,n,h,_⟩=>by rw[h];rfl
 one:=fun⟨b,n,h,_⟩ u hu=>by rw[h] at hu;simp at hu;subst hu;rfl
 pres:=fun⟨b,n,h1,h2,h3,h4⟩ hk hs=>⟨b,n,h1,h2,h3,h4.pres (hk b h4.lt h2)⟩
 weak:=fun⟨b,n,h1,h2,h3,h4⟩ hk=>⟨b,n,h1,fun hg=>h2 (hk b h4.lt hg),h3,h4⟩
section
variable {w0:World}{L:Env}{dst:Option Tmp}{ty:TypeId}{pos:String}{aft:Array Edge}{g:Option (Nat×Bool)}{x y:Operand}{t:TypeId}{G:Nat→Prop}{N:Nat}
theorem ql {γ δ:Type}{V:KV P γ δ}{l:List (γ×δ)}(ht:P.underlying t=some (.map V.k V.e))(hx:Is L w0 x (Dv (mpE V N) G l)):OpC P w0 L ⟨dst,.call ⟨.builtin .len,#[x],#[t]⟩,ty,pos,aft,g⟩ (E (.int .i64 (l.length:Nat))):=
 aS fun ρ w he hv=>by
  obtain⟨cs,⟨b,n,h1,_,_,h2⟩,h3⟩:=hx.v he hv (by simp[Op.operands,Call.operands])
  subst h1
  have h5:ρ x=.map (some b):=h3
  refine⟨_,?_,rfl⟩
  simp[execOp,resolve,invoke,builtin,h5,h2.len ht]
def qm (V:KV P α β)(l:List (α×β))(i:α)(z:β):VA:=⟨fun v _=>∃c,v=V.mv c∧((∃c',(i,c')∈l)→(i,c)∈l)∧((∀c',(i,c') ∉ l)→c=z),fun _ _ _ _ h=>h⟩
theorem mh {i:α}{z:β}(ht:P.underlying t=some (.map V.k V.e))(hz:∀w,(zeroValue V.e).run P w=.ok (V.mv z) w)(hzo:V.okv z)(hx:Is L w0 x (Dv (mpE V N) G l))(hy:opd L y=some (E (V.kv i)))(hi:V.ok i) :
  OpC P w0 L ⟨dst,.lookup t x y true,ty,pos,aft,g⟩ (Tup [qm V l i z,E (.bool (l.any fun p=>decide (p.1=i)))]):=
 aS fun ρ w he' hv=>by
  obtain⟨cs,⟨b,n,h1,_,_,h2⟩,h4⟩:=hx.v he' hv (by simp[Op.operands])
  subst h1
  have h5:ρ x=.map (some b):=h4
  have h6:=opE hv (x:=y) (by simp[Op.operands]) hy
  obtain⟨c,h7,h8,h9⟩:=h2.get hi ht (hz w) hzo
  exact⟨_,by simp only[execOp,h5,h6,Sem.run_bind,h7,Result.andThen_ok,Sem.run_pure],Tup.two ⟨c,rfl,h8,h9⟩ rfl⟩
end
theorem xO {P:Program} {k t1 m:Nat} {fs:Array Field} {f1 f2:Field} (hu:P.underlying k=some (.struct fs)) (hfs:fs = #[f1,f2]) (h1:f1.type=t1∧f1.offset=0∧(f1.name != "_")=true) (h2:f2.type=t1∧f2.offset=1∧(f2.name != "_")=true)
  (ht:P.underlying t1=some (.int .i64)) (hc1:P.cellsOf t1=1) (hc:P.cellsOf k=2) (hk:P.keyType k=true) (hm:P.types.size=m+1) {a b:Int} (ha:(Lit.int .i64 a).wf=true) (hb:(Lit.int .i64 b).wf=true) :
  keyOf P k (.agg #[.int .i64 a,.int .i64 b])=some (.string (keyBytes [.int .i64 a,.int .i64 b])):=by
 subst hfs
 obtain⟨e1,e2,e3⟩:=h1
 obtain⟨e4,e5,e6⟩:=h2
 simp[keyOf,hu,hk,Value.formed,hc,hm,Program.keyLits,e1,e2,e3,e4,e5,e6,ht,hc1,ha,hb,Value.cells]
theorem xP {P:Program} {k t1 m:Nat} {fs:Array Field} {f1 f2:Field} (hu:P.underlying k=some (.struct fs)) (hfs:fs = #[f1,f2]) (h1:f1.type=t1∧f1.offset=0∧(f1.name != "_")=true) (h2:f2.type=t1∧f2.offset=1∧(f2.name != "_")=true)
  (ht:P.underlying t1=some (.int .i64)) (hc1:P.cellsOf t1=1) (hc:P.cellsOf k=2) (hm:P.types.size=m+1) {v:Value} {l:Lit} (h:keyOf P k v=some l) :
  ∃a b,((Lit.int .i64 a).wf=true∧(Lit.int .i64 b).wf=true)∧v=.agg #[.int .i64 a,.int .i64 b]∧l=.string (keyBytes [.int .i64 a,.int .i64 b]):=by
 subst hfs
 obtain⟨e1,e2,e3⟩:=h1
 obtain⟨e4,e5,e6⟩:=h2
 obtain⟨xs,L,rfl,hL,rfl⟩:=keyOf_top (by simp[hu]) h
 have one:∀cs M,P.keyLits (m+1) t1 cs=some M→∃a,(Lit.int .i64 a).wf=true∧cs=[.int .i64 a]∧M=[.int .i64 a]:=by
  intro cs M hM
  unfold Program.keyLits at hM
  split at hM <;> simp_all
  rename_i n _
  exact⟨n,by simp_all⟩
 obtain⟨xs⟩:=xs
 rw[hm] at hL
 unfold Program.keyLits at hL
 simp only[hu,hc] at hL
 split at hL
 ·rename_i hl
  match xs,hl.1 with
  | [x,y],_=>
   simp only[List.mapM_cons,List.mapM_nil,e1,e2,e4,e5,hc1,List.drop_zero,List.drop_succ_cons,List.take_succ_cons,List.take_zero,Option.map_eq_some_iff,Option.bind_eq_bind,Option.bind_eq_some_iff,Option.pure_def,Option.some.injEq] at hL
   obtain⟨_,⟨M1,hM1,_,⟨M2,hM2,_,rfl,rfl⟩,rfl⟩,rfl⟩:=hL
   obtain⟨a,ha,hxa,rfl⟩:=one _ _ hM1
   obtain⟨b,hb,hyb,rfl⟩:=one _ _ hM2
   simp only[List.cons.injEq,and_true] at hxa hyb
   subst hxa;subst hyb
   exact⟨a,b,⟨ha,hb⟩,rfl,rfl⟩
 ·cases hL
end Go.Mono
namespace Go.Mono
open Go Go.RowKit Go.Gr
section tail
variable {P:Program}{L:Env}{ty:TypeId}{pos:String}{aft:Array Edge}{r:Option Nat}{ds:List Deferred}
variable {ops:Array Oper}{rest:List Oper}{Q:Exit→Act→World→Prop}{n:Nat}{a:Act}{w:World}{x y z:Operand}{α β:Type}[DecidableEq α]
theorem dP {V:KV P α β}{t:TypeId}{bm nn:Nat}{l:List (α×β)}{i:α}{c:β}(ht:P.underlying t=some (.map V.k V.e))(hf:FrD n ds a w L)[hL:AvL bm L](hx:opd L x=some (E (.map (some bm))))
  (hy:opd L y=some (E (V.kv i))) (hz:opd L z=some (E (V.mv c))) (hM:MpR V w bm nn l) (hn:nn<maxLen) (hi:V.ok i) (hc:V.okv c)
  (kk:∀w',w.grownBy w' (some bm)→MpR V w' bm (nn+1) (aV l i c)→FrD n ds a w' L→wpListIn (FW r) 0 P ops Q rest a w') :
  wpListIn (FW r) 0 P ops Q (⟨none,.mapUpdate t x y z,ty,pos,aft,none⟩::rest) a w:=
 wpListIn_plain rfl fun K hK=>by
  have hxv:a.eval x=.map (some bm):=hf.opd x _ hx
  have hyv:a.eval y=V.kv i:=hf.opd y _ hy
  have hzv:a.eval z=V.mv c:=hf.opd z _ hz
  obtain⟨w',h1,h2,h3⟩:=hM.put hi hc ht hn
  refine OpR.wp (R:=fun _ w1=>w1=w') ?_ ?_
  ·simp only[OpR,execOp,hxv,hyv,hzv,Sem.run_bind,h1,Result.andThen_ok,Sem.run_pure]
  ·rintro _ w1 rfl
   exact hK _ _ (kk _ h3 h2 (hf.gr h3))
theorem eK {γ δ:Type}(V:KV P γ δ){t:TypeId}{d:Nat}(hf:FrD n ds a w L)(hd:d<n)
  (k:∀a' b w',Ext w w'→b=w.heap.size→w'.heap.size=b+1→MpR V w' b 0 []→FrD n ds a' w' ((d,E (.map (some b)))::L)→wpListIn (FW r) 0 P ops Q rest a' w') :
  wpListIn (FW r) 0 P ops Q (⟨some d,.makeMap t none,ty,pos,aft,none⟩::rest) a w:=
 wpListIn_plain rfl fun K hK=>by
  refine OpR.wp (R:=fun v w'=>v=.map (some w.heap.size)∧w'=w.alloc (.map #[] 0)) ?_ ?_
  ·simp only[OpR,execOp,Sem.run_bind,Option.map_none,run_makeMap,Result.andThen_ok,Sem.run_pure]
   exact⟨trivial,trivial⟩
  ·rintro v w' ⟨rfl,rfl⟩
   exact hK _ _ (k _ _ _ (db _ _) rfl (by simp) (MpR.made V w) (hf.put (d:=some d) (db _ _) (fun k hk=>by cases hk;exact hd) rfl))
end tail
def tsE (P:Program):Enc (Bool×Int) where
 k:=2
 agg:=true
 r:=fun G w x cs=>∃id caps,cs=[.func (.func id) #[] caps,.int .i64 x.2]∧Proofs.Enters P id∧∀w',(∀b,b<w.heap.size→¬G b→w'.heap[b]?=w.heap[b]?)→w.heap.size≤w'.heap.size→Calls P id caps w' (Post (E (.bool x.1)) w')
 pos:=by decide
 k1:=fun h=>by cases h
 len:=fun⟨id,caps,h,_⟩=>by rw[h];rfl
 one:=fun⟨id,caps,h,_⟩ u hu=>by rw[h] at hu;simp at hu;rcases hu with rfl|rfl <;> rfl
 pres:=fun⟨id,caps,h1,h2,h3⟩ hk hs=>⟨id,caps,h1,h2,fun w' h4 h5=>h3 w' (fun b hb hg=>(h4 b (Nat.lt_of_lt_of_le hb hs) hg).trans (hk b hb hg)) (Nat.le_trans hs h5)⟩
 weak:=fun⟨id,caps,h1,h2,h3⟩ hk=>⟨id,caps,h1,h2,fun w' h4 h5=>h3 w' (fun b hb hg=>h4 b hb fun hg'=>hg (hk b hb hg')) h5⟩
section
variable {P:Program}{w0 w:World}{L:Env}{dst:Option Tmp}{ty:TypeId}{pos:String}{aft:Array Edge}{g:Option (Nat×Bool)}
theorem xQ {fn:Fn}{x1 x2 x3:Operand}{v1 v2 v3:Value}(h1:opd L x1=some (E v1))(h2:opd L x2=some (E v2))(h3:opd L x3=some (E v3)):OpC P w0 L ⟨dst,.makeFunc fn #[] #[x1,x2,x3],ty,pos,aft,g⟩ (E (.func fn #[] #[v1,v2,v3])):=
 aS fun ρ w _ hv=>⟨_,by
  have a1:=opE hv (x:=x1) (by simp[Op.operands]) h1
  have a2:=opE hv (x:=x2) (by simp[Op.operands]) h2
  have a3:=opE hv (x:=x3) (by simp[Op.operands]) h3
  simp[execOp,Instr.makeFunc,a1,a2,a3],rfl⟩
theorem xR {fo:Operand}{id:FuncId}{caps:Array Value}{tys:Array TypeId}{A:VA}(hf:Proofs.Enters P id)(hfo:opd L fo=some (E (.func (.func id) #[] caps)))
  (h:∀w,Ext w0 w→Calls P id caps w (Post A w)):OpC P w0 L ⟨dst,.call ⟨.value fo,#[],tys⟩,ty,pos,aft,g⟩ A:=
 oH hf hfo fun ρ w he hv=>by simpa using h w he
theorem Dv.ts {G:Nat→Prop}{x:Bool×Int}{v:Value}(h:(Dv (tsE P) G x).p v w):∃id caps,v=.agg #[.func (.func id) #[] caps,.int .i64 x.2]∧Proofs.Enters P id∧∀w',Ext w w'→Calls P id caps w' (Post (E (.bool x.1)) w'):=by
 obtain⟨cs,⟨id,caps,h1,h2,h3⟩,hv⟩:=h
 subst h1
 exact⟨id,caps,hv,h2,fun w' e=>h3 w' (fun b hb _=>e.block b hb) e.size⟩
def Hp (w w':World):Prop:=(∀b,b<w.heap.size→w'.heap[b]?=w.heap[b]?)∧w.heap.size≤w'.heap.size
theorem Dv.hp {α:Type}{e:Enc α}{G:Nat→Prop}{x:α}{v:Value}{w':World}(h:(Dv e G x).p v w)(k:Hp w w'):(Dv e G x).p v w':=by
 obtain⟨cs,h1,h2⟩:=h
 exact⟨cs,e.pres h1 (fun b hb _=>k.1 b hb) k.2,h2⟩
theorem Dv.ts' {id:FuncId}{caps:Array Value}{b:Bool}{c:Int}(h2:Proofs.Enters P id)(h3:∀w',Hp w w'→Calls P id caps w' (Post (E (.bool b)) w')):(Dv (tsE P) G0 (b,c)).p (.agg #[.func (.func id) #[] caps,.int .i64 c]) w:=
 ⟨_,⟨id,caps,rfl,h2,fun w' h4 h5=>h3 w' ⟨fun b hb=>h4 b hb fun h=>h.elim,h5⟩⟩,rfl⟩
end
section
variable {P:Program}{w0:World}{L:Env}{dst:Option Tmp}{ty:TypeId}{pos:String}{aft:Array Edge}{S:Nat→Prop}{F:World→Prop}
theorem qo {f:FuncId}{fo x y:Operand}{u v:Value}{tys:Array TypeId}(hf:Proofs.Enters P f)(hfo:opd L fo=some (E (.func (.func f) #[] #[])))(hx:opd L x=some (E u))(hy:opd L y=some (E v))
  (h:∀w,Ext w0 w→Calls P f #[u,v] w (fun e w'=>∃r,e=.returned r∧Chg S w w'∧F w')) :
  oK P w0 S F L ⟨dst,.call ⟨.value fo,#[x,y],tys⟩,ty,pos,aft,none⟩ Any:=by
 refine⟨fun ρ w he hv=>?_⟩
 have hfv:ρ fo=.func (.func f) #[] #[]:=hv fo (by simp[Op.operands,Call.operands]) _ hfo
 have hxv:ρ x=u:=hv x (by simp[Op.operands,Call.operands]) _ hx
 have hyv:ρ y=v:=hv y (by simp[Op.operands,Call.operands]) _ hy
 have hrun:(execOp ρ ⟨dst,.call ⟨.value fo,#[x,y],tys⟩,ty,pos,aft,none⟩).run P w=.ok (.enter f #[u,v]) w:=by
  have h9:=hf #[u,v] w
  simp[execOp,resolve,hfv,Deferred.ofValue,invoke,hxv,hyv,h9]
 simp only[OpR,hrun]
 exact (h w he).mono fun e w' ⟨r,h1,h2,h3⟩=>⟨r,h1,h2,trivial,h3⟩
end
end Go.Mono
namespace Go.Mono
open Go Go.Proofs Go.RowKit Go.Gr
def thV (c:Int×Int):Value:=.agg #[.int .u8 c.1,.int .i64 c.2]
def okT (c:Int×Int):Prop:=(Lit.int .u8 c.1).wf=true∧(Lit.int .i64 c.2).wf=true
def thD (c:Int×Int):DataW Unit:=.agg [.lit (.int .u8 c.1),.lit (.int .i64 c.2)]
theorem xS {c c':Int×Int}(h:thV c=thV c'):c=c':=by cases c;cases c';cases h;rfl
open Classical in
noncomputable def thR (v:Value):Option (DataW Unit×List MemPlace):=if h:∃c,okT c∧v=thV c then some (thD (Classical.choose h),[]) else none
theorem qp {c:Int×Int}(hc:okT c):thR (thV c)=some (thD c,[]):=by
 have h:∃c',okT c'∧thV c=thV c':=⟨c,hc,rfl⟩
 unfold thR
 rw[dif_pos h,← xS (Classical.choose_spec h).2]
theorem qq {v:Value}{y:DataW Unit×List MemPlace}(h:thR v=some y):∃c,okT c∧v=thV c∧y=(thD c,[]):=by
 unfold thR at h
 split at h
 ·rename_i hx;cases h;exact⟨_,(Classical.choose_spec hx).1,(Classical.choose_spec hx).2,rfl⟩
 ·cases h
noncomputable def vKV:KV Tryz.prog Int (Int×Int) where
 k:=3
 e:=132
 kv:=fun x=>.int .i64 x
 kl:=fun x=>.int .i64 x
 ok:=fun x=>(Lit.int .i64 x).wf=true
 mv:=thV
 dv:=thD
 okv:=okT
 R:=thR
 K:=Maps.int_keyed U3
 key:=fun x hx=>Maps.keyOf_int_mk U3 hx
 keyInv:=fun v l h=>by obtain⟨x,h1,h2,h3⟩:=Maps.keyOf_int_inv U3 h;exact⟨x,h3,h1,h2⟩
 kvInj:=fun x y h=>by cases h;rfl
 val:=fun c hc=>qp hc
 valInv:=fun v y h=>qq h
 dvInj:=fun c c' h=>by cases c;cases c';cases h;rfl
theorem xT:Tryz.prog.keyType 139=true:=by kernel_rfl
theorem qs:Tryz.prog.cellsOf 139=2:=by kernel_rfl
theorem qt:Tryz.prog.cellsOf 3=1:=by kernel_rfl
theorem xU:Tryz.prog.types.size=(Tryz.prog.types.size - 1)+1:=by kernel_rfl
theorem laidOut:laidOutB Tryz.prog=true:=by kernel_rfl
theorem xV:(139:TypeId)<Tryz.prog.types.size:=of_decide_eq_true (by kernel_rfl)
noncomputable def mj:Nat:=Tryz.prog.types.size - 1
theorem jL:Tryz.prog.types.size=mj+1:=xU
theorem xW {p q:Int}(hp:(Lit.int .i64 p).wf=true)(hq:(Lit.int .i64 q).wf=true):keyOf Tryz.prog 139 (.agg #[.int .i64 p,.int .i64 q])=some (.string (keyBytes [.int .i64 p,.int .i64 q])):=
 xO (m:=mj) iA rfl ⟨rfl,rfl,by kernel_rfl⟩ ⟨rfl,rfl,by kernel_rfl⟩ U3 qt qs xT jL hp hq
theorem xX {v:Value}{l:Lit}(h:keyOf Tryz.prog 139 v=some l):∃p q,((Lit.int .i64 p).wf=true∧(Lit.int .i64 q).wf=true)∧v=.agg #[.int .i64 p,.int .i64 q]∧l=.string (keyBytes [.int .i64 p,.int .i64 q]):=
 xP (m:=mj) iA rfl ⟨rfl,rfl,by kernel_rfl⟩ ⟨rfl,rfl,by kernel_rfl⟩ U3 qt qs jL h
theorem xY:Tryz.prog.keyTypeAt 2 139=true:=by kernel_rfl
theorem xZ:WideMaps.KeyLaw Tryz.prog 139:=by
 have h1:2+1≤10000:=by omega
 refine deep_law_laid laidOut (m:=2) h1 xV xY ?_
 rw[iA]
def enV (x:Int×Int):Value:=.agg #[.int .i64 x.1,.int .i64 x.2]
noncomputable def eKV:KV Tryz.prog (Int×Int) (Int×Int) where
 k:=139
 e:=132
 kv:=enV
 kl:=fun x=>.string (keyBytes [.int .i64 x.1,.int .i64 x.2])
 ok:=fun x=>(Lit.int .i64 x.1).wf=true∧(Lit.int .i64 x.2).wf=true
 mv:=thV
 dv:=thD
 okv:=okT
 R:=thR
 K:=Maps.Keyed.of_law xZ
 key:=fun x hx=>xW hx.1 hx.2
 keyInv:=fun v l h=>by
  obtain⟨p,q,h1,h2,h3⟩:=xX h
  exact⟨(p,q),h1,h2,h3⟩
 kvInj:=fun x y h=>by cases x;cases y;cases h;rfl
 val:=fun c hc=>qp hc
 valInv:=fun v y h=>qq h
 dvInj:=fun c c' h=>by cases c;cases c';cases h;rfl
noncomputable def grE (N:Nat):Enc GT:=prE (mpE vKV N) (mpE eKV N)
theorem ya (n:Int)(W:World):Calls Tryz.prog 153 #[I n] W (Post (E (.bool (Gr.pairs n))) W):=by
 refine eN [I n] [E (I n)] Tryz.func153 Tryz.ntmps153 ?_ fun a hf=>?_
 rotate_left
 rotate_right
 ·exact arg1 rfl
 have e:=Ext.rfl' W
 refine seq <| ac <| tA hf rfl fun a hf=>aa <| seq <| rgN 14 hf <| st (mv rfl) <| st (eql rfl rfl) <| st (mv rfl) <| sgE rfl rfl (.k 0 rfl .n) (fun hgd=>mv rfl) <| sgE rfl rfl (.c 6 rfl (fun h=>h) .n) (fun hgd=>eql rfl rfl) <| st (bH rfl rfl (fun h=>by rw[h];rfl)) ?_
 refine st (mv rfl) <| sgE rfl rfl (.k 0 rfl .n) (fun hgd=>mv rfl) <| sgE rfl rfl (.c 10 rfl (fun h=>h) .n) (fun hgd=>eql rfl rfl) <| st (bH rfl rfl (fun h=>by rw[h];rfl)) ?_
 refine st (mv rfl) <| sgE rfl rfl (.k 0 rfl .n) (fun hgd=>mv rfl) <| sgE rfl rfl (.c 14 rfl (fun h=>h) .n) (fun hgd=>eql rfl rfl) <| st (bH rfl rfl (fun h=>by rw[h];rfl)) ?_
 refine en fun a w e' hf=>?_
 replace e:=e.tr e'
 refine tA hf rfl fun a hf=>aa <| ak <| an rfl hf rfl ?_
 rintro _ rfl
 exact⟨_,rfl,e,rfl⟩
theorem yb (n:Int)(W:World):Calls Tryz.prog 154 #[I n] W (Post (E (.bool (Gr.weighs n))) W):=by
 refine eN [I n] [E (I n)] Tryz.func154 Tryz.ntmps154 ?_ fun a hf=>?_
 rotate_left
 rotate_right
 ·exact arg1 rfl
 have e:=Ext.rfl' W
 refine seq <| ac <| tA hf rfl fun a hf=>aa <| seq <| rgN 14 hf <| st (mv rfl) <| st (eql rfl rfl) <| st (mv rfl) <| sgE rfl rfl (.k 0 rfl .n) (fun hgd=>mv rfl) <| sgE rfl rfl (.c 6 rfl (fun h=>h) .n) (fun hgd=>eql rfl rfl) <| st (bH rfl rfl (fun h=>by rw[h];rfl)) ?_
 refine st (mv rfl) <| sgE rfl rfl (.k 0 rfl .n) (fun hgd=>mv rfl) <| sgE rfl rfl (.c 10 rfl (fun h=>h) .n) (fun hgd=>eql rfl rfl) <| st (bH rfl rfl (fun h=>by rw[h];rfl)) ?_
 refine st (mv rfl) <| sgE rfl rfl (.k 0 rfl .n) (fun hgd=>mv rfl) <| sgE rfl rfl (.c 14 rfl (fun h=>h) .n) (fun hgd=>eql rfl rfl) <| st (bH rfl rfl (fun h=>by rw[h];rfl)) ?_
 refine en fun a w e' hf=>?_
 replace e:=e.tr e'
 refine tA hf rfl fun a hf=>aa <| ak <| an rfl hf rfl ?_
 rintro _ rfl
 exact⟨_,rfl,e,rfl⟩
theorem yc (n:Int)(W:World):Calls Tryz.prog 152 #[I n] W (Post (E (.bool (dj n))) W):=by
 refine eN [I n] [E (I n)] Tryz.func152 Tryz.ntmps152 ?_ fun a hf=>?_
 rotate_left
 rotate_right
 ·exact arg1 rfl
 have e:=Ext.rfl' W
 refine seq <| ac <| tA hf rfl fun a hf=>aa <| seq <| rgN 6 hf <| st (mv rfl) <| st (geq rfl rfl) <| st (mv rfl) <| sgE rfl rfl (.k 0 rfl .n) (fun hgd=>mv rfl) <| sgE rfl rfl (.c 6 rfl (fun h=>h) .n) (fun hgd=>lss rfl rfl) <| st (bF rfl rfl (fun h=>by rw[h];rfl)) ?_
 refine en fun a w e' hf=>?_
 replace e:=e.tr e'
 refine tA hf rfl fun a hf=>aa <| ak <| an rfl hf rfl ?_
 rintro _ rfl
 exact⟨_,rfl,e,rfl⟩
theorem yd (n:Int)(W:World):Calls Tryz.prog 155 #[I n] W (Post (E (.bool (Gr.heavy n))) W):=by
 refine eN [I n] [E (I n)] Tryz.func155 Tryz.ntmps155 ?_ fun a hf=>?_
 rotate_left
 rotate_right
 ·exact arg1 rfl
 have e:=Ext.rfl' W
 refine seq <| ac <| tA hf rfl fun a hf=>aa <| seq <| rgN 6 hf <| st (mv rfl) <| st (lss rfl rfl) <| st (mv rfl) <| sgE rfl rfl (.k 0 rfl .n) (fun hgd=>mv rfl) <| sgE rfl rfl (.c 6 rfl (fun h=>h) .n) (fun hgd=>gtr rfl rfl) <| st (bH rfl rfl (fun h=>by rw[h];rfl)) ?_
 refine en fun a w e' hf=>?_
 replace e:=e.tr e'
 refine tA hf rfl fun a hf=>aa <| ak <| an rfl hf rfl ?_
 rintro _ rfl
 exact⟨_,rfl,e,rfl⟩
theorem bEn (x:Int×Int):Tryz.prog.built 139 [(0,.int .i64 x.1),(1,.int .i64 x.2)]=some #[.int .i64 x.1,.int .i64 x.2]:=by kernel_rfl
theorem qu (m n:Int)(W:World):Calls Tryz.prog 149 #[I m,I n] W (Post (E (enV (Gr.ends m n))) W):=by
 refine eN [I m,I n] [E (I m),E (I n)] Tryz.func149 Tryz.ntmps149 ?_ fun a hf=>?_
 rotate_left
 dsimp only[params,Nat.reduceAdd] at hf
 rotate_right
 ·exact arg2 rfl rfl
 have e:=Ext.rfl' W
 refine seq <| ac <| tL pi hf fun a b4 w e' hb4 hs4 B4 hf=>?_
 replace e:=e.tr e'
 refine aa <| seq <| rgN 7 hf <| st (mv rfl) <| st (mv rfl) <| st (min2 rfl rfl) <| st (mv rfl) <| st (mv rfl) <| st (max2 rfl rfl) <| st (bI [(0,_),(1,_)] rfl (bEn (Gr.ends m n))) <| en fun a w e' hf=>?_
 obtain⟨e,B4⟩:=up2 e' e B4
 haveI hinr:∀G0,InR (GB W G0) (some b4):=fun G0=>InR.gb (by omega)
 refine aF lO hf rfl rfl (bK rfl rfl) B4 rfl (rfl) fun w hg hsz B4 hf=>?_
 replace e:=e.gr hg (by omega)
 refine aa <| ak (dX rfl lO hf rfl B4 rfl ?_)
 exact⟨_,rfl,e,rfl⟩
end Go.Mono
namespace Go.Mono
open Go Go.Proofs Go.RowKit Go.Gr
section
variable {G G2 G3:Nat→Prop}(g:GT)(d:DT)(N:Nat)(W:World)(v v1 v2:Value)
theorem cP (n:Int)(v:Value)(w:World)(h:(E (I n)).p v w):Calls Tryz.prog 153 #[v] w (Post (E (.bool (Gr.pairs n))) w):=by cases h;exact ya n w
theorem cW (n:Int)(v:Value)(w:World)(h:(E (I n)).p v w):Calls Tryz.prog 154 #[v] w (Post (E (.bool (Gr.weighs n))) w):=by cases h;exact yb n w
theorem cI (n:Int)(v:Value)(w:World)(h:(E (I n)).p v w):Calls Tryz.prog 152 #[v] w (Post (E (.bool (dj n))) w):=by cases h;exact yc n w
theorem cH (n:Int)(v:Value)(w:World)(h:(E (I n)).p v w):Calls Tryz.prog 155 #[v] w (Post (E (.bool (Gr.heavy n))) w):=by cases h;exact yd n w
theorem ye (h:(Dv (ptE dtE) G (some d)).p v W):Calls Tryz.prog 150 #[v] W (Post (E (.bool (decide (d.1<0) || decide (8≤d.1)))) W):=by
 refine eN [v] [Dv (ptE dtE) G (some d)] Tryz.func150 Tryz.ntmps150 ?_ fun a hf=>?_
 rotate_left
 rotate_right
 ·exact arg1 h
 have e:=Ext.rfl' W
 refine seq <| ac <| tA hf rfl fun a hf=>aa <| seq <| rgN 8 hf <| st (aB bJ rfl T3 (by decide) (Fld.fst Fld.refl) (isR rfl)) <| st (ldI T3 (isR rfl)) <| st (lss rfl rfl) <| st (mv rfl) <| sgE rfl rfl (.k 0 rfl .n) (fun hgd=>aB bJ rfl T3 (by decide) (Fld.fst Fld.refl) (isR rfl)) <| sgE rfl rfl (.c 6 rfl (fun h=>h) .n) (fun hgd=>ldI T3 (isR rfl)) <| sgE rfl rfl (.c 7 rfl (fun h=>h) .n) (fun hgd=>geq rfl rfl) <| st (bH rfl rfl (fun h=>by rw[h];rfl)) ?_
 refine en fun a w e' hf=>?_
 replace e:=e.tr e'
 refine tA hf rfl fun a hf=>aa <| ak <| an rfl hf rfl ?_
 rintro _ rfl
 exact⟨_,rfl,e,rfl⟩
theorem yf (h:(Dv (ptE dtE) G (some d)).p v W):Calls Tryz.prog 151 #[v] W (Post (E (.bool ((!dj d.2.1) || (Gr.pairs d.1 && !dj d.2.2.1) || (Gr.weighs d.1&&Gr.heavy d.2.2.2.2)))) W):=by
 refine eN [v] [Dv (ptE dtE) G (some d)] Tryz.func151 Tryz.ntmps151 ?_ fun a hf=>?_
 rotate_left
 rotate_right
 ·exact arg1 h
 have e:=Ext.rfl' W
 refine seq <| ac <| tA hf rfl fun a hf=>aa <| seq <| rgN 25 hf <| st (aB bJ rfl T3 (by decide) (Fld.snd (Fld.fst Fld.refl) rfl) (isR rfl)) <| st (ldI T3 (isR rfl)) <| st (aw pR rfl (fun v w he h=>cI _ v w h)) <| st (aZ rfl) <| st (mv rfl) <| sgE rfl rfl (.k 0 rfl .n) (fun hgd=>aB bJ rfl T3 (by decide) (Fld.fst Fld.refl) (isR rfl)) <| sgE rfl rfl (.c 7 rfl (fun h=>h) .n) (fun hgd=>ldI T3 (isR rfl)) <| sgE rfl rfl (.c 8 rfl (fun h=>h) .n) (fun hgd=>aw jG rfl (fun v w he h=>cP _ v w h)) <| sgE rfl rfl (.c 9 rfl (fun h=>h) .n) (fun hgd=>mv rfl) <| sgC rfl rfl (.k 0 rfl .n) (fun hgd=>aB bJ rfl T3 (by decide) (Fld.snd (Fld.snd (Fld.fst Fld.refl) rfl) rfl) (isR rfl)) <| sgC rfl rfl (.c 11 rfl (fun h=>h) .n) (fun hgd=>ldI T3 (isR rfl)) <| sgC rfl rfl (.c 12 rfl (fun h=>h) .n) (fun hgd=>aw pR rfl (fun v w he h=>cI _ v w h)) <| sgC rfl rfl (.c 13 rfl (fun h=>h) .n) (fun hgd=>aZ rfl) <| sgE rfl rfl (.c 10 rfl (fun h=>h) (.k 14 rfl .n)) (fun hgd=>bF rfl rfl (fun h=>by rw[hgd,h];rfl)) ?_
 refine st (bH rfl rfl (fun h=>by rw[h];rfl)) ?_
 refine st (mv rfl) <| sgE rfl rfl (.k 0 rfl .n) (fun hgd=>aB bJ rfl T3 (by decide) (Fld.fst Fld.refl) (isR rfl)) <| sgE rfl rfl (.c 18 rfl (fun h=>h) .n) (fun hgd=>ldI T3 (isR rfl)) <| sgE rfl rfl (.c 19 rfl (fun h=>h) .n) (fun hgd=>aw wX rfl (fun v w he h=>cW _ v w h)) <| sgE rfl rfl (.c 20 rfl (fun h=>h) .n) (fun hgd=>mv rfl) <| sgC rfl rfl (.k 0 rfl .n) (fun hgd=>aB bJ rfl T3 (by decide) (Fld.snd (Fld.snd (Fld.snd (Fld.snd Fld.refl rfl) rfl) rfl) rfl) (isR rfl)) <| sgC rfl rfl (.c 22 rfl (fun h=>h) .n) (fun hgd=>ldI T3 (isR rfl)) <| sgC rfl rfl (.c 23 rfl (fun h=>h) .n) (fun hgd=>aw wY rfl (fun v w he h=>cH _ v w h)) <| sgE rfl rfl (.c 21 rfl (fun h=>h) (.k 24 rfl .n)) (fun hgd=>bF rfl rfl (fun h=>by rw[hgd,h];rfl)) ?_
 refine st (bH rfl rfl (fun h=>by rw[h];rfl)) ?_
 refine en fun a w e' hf=>?_
 replace e:=e.tr e'
 refine tA hf rfl fun a hf=>aa <| ak <| an rfl hf rfl ?_
 rintro _ rfl
 exact⟨_,rfl,e,rfl⟩
theorem yg (h:(Dv (ptE dtE) G (some d)).p v W):Calls Tryz.prog 156 #[v] W (Post (E (.bool (Gr.pairs d.1&&d.2.1==d.2.2.1))) W):=by
 refine eN [v] [Dv (ptE dtE) G (some d)] Tryz.func156 Tryz.ntmps156 ?_ fun a hf=>?_
 rotate_left
 rotate_right
 ·exact arg1 h
 have e:=Ext.rfl' W
 refine seq <| ac <| tA hf rfl fun a hf=>aa <| seq <| rgN 10 hf <| st (aB bJ rfl T3 (by decide) (Fld.fst Fld.refl) (isR rfl)) <| st (ldI T3 (isR rfl)) <| st (aw jG rfl (fun v w he h=>cP _ v w h)) <| st (mv rfl) <| sgE rfl rfl (.k 0 rfl .n) (fun hgd=>aB bJ rfl T3 (by decide) (Fld.snd (Fld.fst Fld.refl) rfl) (isR rfl)) <| sgE rfl rfl (.c 6 rfl (fun h=>h) .n) (fun hgd=>ldI T3 (isR rfl)) <| sgE rfl rfl (.k 0 rfl .n) (fun hgd=>aB bJ rfl T3 (by decide) (Fld.snd (Fld.snd (Fld.fst Fld.refl) rfl) rfl) (isR rfl)) <| sgE rfl rfl (.c 8 rfl (fun h=>h) .n) (fun hgd=>ldI T3 (isR rfl)) <| sgE rfl rfl (.c 7 rfl (fun h=>h) (.c 9 rfl (fun h=>h) .n)) (fun hgd=>eql rfl rfl) <| st (bF rfl rfl (fun h=>by rw[h];rfl)) ?_
 refine en fun a w e' hf=>?_
 replace e:=e.tr e'
 refine tA hf rfl fun a hf=>aa <| ak <| an rfl hf rfl ?_
 rintro _ rfl
 exact⟨_,rfl,e,rfl⟩
theorem yh (u:Bool)(h:(Dv (ptE dtE) G (some d)).p v W)(h1:(Dv (ptE cN) G2 (some u)).p v1 W):Calls Tryz.prog 157 #[v,v1] W (Post (E (.bool (d.1==0&&u))) W):=by
 refine eN [v,v1] [Dv (ptE dtE) G (some d),Dv (ptE cN) G2 (some u)] Tryz.func157 Tryz.ntmps157 ?_ fun a hf=>?_
 rotate_left
 rotate_right
 ·exact arg2 h h1
 have e:=Ext.rfl' W
 refine seq <| ac <| tA hf rfl fun a hf=>aa <| seq <| rgN 6 hf <| st (aB bJ rfl T3 (by decide) (Fld.fst Fld.refl) (isR rfl)) <| st (ldI T3 (isR rfl)) <| st (eql rfl rfl) <| st (mv rfl) <| sgE rfl rfl (.k 1 rfl .n) (fun hgd=>ldB T4 (isR rfl)) <| st (bF rfl rfl (fun h=>by rw[h];rfl)) ?_
 refine en fun a w e' hf=>?_
 replace e:=e.tr e'
 refine tA hf rfl fun a hf=>aa <| ak <| an rfl hf rfl ?_
 rintro _ rfl
 exact⟨_,rfl,e,rfl⟩
theorem yi (u u2:Bool)(h:(Dv (ptE dtE) G (some d)).p v W)(h1:(Dv (ptE cN) G2 (some u)).p v1 W)(h2:(Dv (ptE cN) G3 (some u2)).p v2 W) :
  Calls Tryz.prog 158 #[v,v1,v2] W (Post (E (.bool ((d.1 != 0 && !Gr.pairs d.1 && !u) || (d.1==2 && !(u&&u2))))) W):=by
 refine eN [v,v1,v2] [Dv (ptE dtE) G (some d),Dv (ptE cN) G2 (some u),Dv (ptE cN) G3 (some u2)] Tryz.func158 Tryz.ntmps158 ?_ fun a hf=>?_
 rotate_left
 rotate_right
 ·exact eI h h1 h2
 have e:=Ext.rfl' W
 refine seq <| ac <| tA hf rfl fun a hf=>aa <| seq <| rgN 25 hf <| st (aB bJ rfl T3 (by decide) (Fld.fst Fld.refl) (isR rfl)) <| st (ldI T3 (isR rfl)) <| st (neq rfl rfl) <| st (mv rfl) <| sgE rfl rfl (.k 0 rfl .n) (fun hgd=>aB bJ rfl T3 (by decide) (Fld.fst Fld.refl) (isR rfl)) <| sgE rfl rfl (.c 8 rfl (fun h=>h) .n) (fun hgd=>ldI T3 (isR rfl)) <| sgE rfl rfl (.c 9 rfl (fun h=>h) .n) (fun hgd=>aw jG rfl (fun v w he h=>cP _ v w h)) <| sgE rfl rfl (.c 10 rfl (fun h=>h) .n) (fun hgd=>aZ rfl) <| st (bF rfl rfl (fun h=>by rw[h];rfl)) ?_
 refine st (mv rfl) <| sgE rfl rfl (.k 1 rfl .n) (fun hgd=>ldB T4 (isR rfl)) <| sgE rfl rfl (.c 14 rfl (fun h=>h) .n) (fun hgd=>aZ rfl) <| st (bF rfl rfl (fun h=>by rw[h];rfl)) ?_
 refine st (mv rfl) <| sgE rfl rfl (.k 0 rfl .n) (fun hgd=>aB bJ rfl T3 (by decide) (Fld.fst Fld.refl) (isR rfl)) <| sgE rfl rfl (.c 18 rfl (fun h=>h) .n) (fun hgd=>ldI T3 (isR rfl)) <| sgE rfl rfl (.c 19 rfl (fun h=>h) .n) (fun hgd=>eql rfl rfl) <| sgE rfl rfl (.c 20 rfl (fun h=>h) .n) (fun hgd=>mv rfl) <| sgC rfl rfl (.k 1 rfl .n) (fun hgd=>ldB T4 (isR rfl)) <| sgC rfl rfl (.c 22 rfl (fun h=>h) .n) (fun hgd=>mv rfl) <| sgC rfl rfl (.k 2 rfl .n) (fun hgd=>ldB T4 (isR rfl)) <| sgC rfl rfl (.c 23 rfl (fun h=>h) (.k 24 rfl .n)) (fun hgd=>bF rfl rfl (fun h=>by rw[hgd,h];rfl)) ?_
 refine sgC rfl rfl (.c 25 rfl (fun h=>h) .n) (fun hgd=>aZ rfl) <| sgE rfl rfl (.c 21 rfl (fun h=>h) (.k 26 rfl .n)) (fun hgd=>bF rfl rfl (fun h=>by rw[hgd,h];rfl)) ?_
 refine st (bH rfl rfl (fun h=>by rw[h];rfl)) ?_
 refine en fun a w e' hf=>?_
 replace e:=e.tr e'
 refine tA hf rfl fun a hf=>aa <| ak <| an rfl hf rfl ?_
 rintro _ rfl
 exact⟨_,rfl,e,rfl⟩
theorem yk (u:Bool)(h:(Dv (ptE dtE) G (some d)).p v W)(h1:(Dv (ptE cN) G2 (some u)).p v1 W):Calls Tryz.prog 159 #[v,v1] W (Post (E (.bool (Gr.pairs d.1&&d.1 != 2 && !u))) W):=by
 refine eN [v,v1] [Dv (ptE dtE) G (some d),Dv (ptE cN) G2 (some u)] Tryz.func159 Tryz.ntmps159 ?_ fun a hf=>?_
 rotate_left
 rotate_right
 ·exact arg2 h h1
 have e:=Ext.rfl' W
 refine seq <| ac <| tA hf rfl fun a hf=>aa <| seq <| rgN 12 hf <| st (aB bJ rfl T3 (by decide) (Fld.fst Fld.refl) (isR rfl)) <| st (ldI T3 (isR rfl)) <| st (aw jG rfl (fun v w he h=>cP _ v w h)) <| st (mv rfl) <| sgE rfl rfl (.k 0 rfl .n) (fun hgd=>aB bJ rfl T3 (by decide) (Fld.fst Fld.refl) (isR rfl)) <| sgE rfl rfl (.c 7 rfl (fun h=>h) .n) (fun hgd=>ldI T3 (isR rfl)) <| sgE rfl rfl (.c 8 rfl (fun h=>h) .n) (fun hgd=>neq rfl rfl) <| st (bF rfl rfl (fun h=>by rw[h];rfl)) ?_
 refine st (mv rfl) <| sgE rfl rfl (.k 1 rfl .n) (fun hgd=>ldB T4 (isR rfl)) <| sgE rfl rfl (.c 12 rfl (fun h=>h) .n) (fun hgd=>aZ rfl) <| st (bF rfl rfl (fun h=>by rw[h];rfl)) ?_
 refine en fun a w e' hf=>?_
 replace e:=e.tr e'
 refine tA hf rfl fun a hf=>aa <| ak <| an rfl hf rfl ?_
 rintro _ rfl
 exact⟨_,rfl,e,rfl⟩
theorem yl (u:Bool)(h:(Dv (ptE dtE) G (some d)).p v W)(h1:(Dv (ptE cN) G2 (some u)).p v1 W):Calls Tryz.prog 160 #[v,v1] W (Post (E (.bool (d.1==2&&u))) W):=by
 refine eN [v,v1] [Dv (ptE dtE) G (some d),Dv (ptE cN) G2 (some u)] Tryz.func160 Tryz.ntmps160 ?_ fun a hf=>?_
 rotate_left
 rotate_right
 ·exact arg2 h h1
 have e:=Ext.rfl' W
 refine seq <| ac <| tA hf rfl fun a hf=>aa <| seq <| rgN 6 hf <| st (aB bJ rfl T3 (by decide) (Fld.fst Fld.refl) (isR rfl)) <| st (ldI T3 (isR rfl)) <| st (eql rfl rfl) <| st (mv rfl) <| sgE rfl rfl (.k 1 rfl .n) (fun hgd=>ldB T4 (isR rfl)) <| st (bF rfl rfl (fun h=>by rw[h];rfl)) ?_
 refine en fun a w e' hf=>?_
 replace e:=e.tr e'
 refine tA hf rfl fun a hf=>aa <| ak <| an rfl hf rfl ?_
 rintro _ rfl
 exact⟨_,rfl,e,rfl⟩
theorem ym (h:(Dv (ptE dtE) G (some d)).p v W)(h1:(Dv (ptE (ptE (grE N))) G2 (some (some g))).p v1 W):Calls Tryz.prog 161 #[v,v1] W (Post (E (.bool (d.1==2&&decide ((1024:Int)≤(g.2.length:Nat))))) W):=by
 refine eN [v,v1] [Dv (ptE dtE) G (some d),Dv (ptE (ptE (grE N))) G2 (some (some g))] Tryz.func161 Tryz.ntmps161 ?_ fun a hf=>?_
 rotate_left
 rotate_right
 ·exact arg2 h h1
 have e:=Ext.rfl' W
 refine seq <| ac <| tA hf rfl fun a hf=>aa <| seq <| rgN 11 hf <| st (aB bJ rfl T3 (by decide) (Fld.fst Fld.refl) (isR rfl)) <| st (ldI T3 (isR rfl)) <| st (eql rfl rfl) <| st (mv rfl) <| sgE rfl rfl (.k 1 rfl .n) (fun hgd=>ldD T26 (isR rfl)) <| sgE rfl rfl (.c 7 rfl (fun h=>h) .n) (fun hgd=>gC (isR rfl)) <| sgE rfl rfl (.c 8 rfl (fun h=>h) .n) (fun hgd=>aB fQ rfl fh (by decide) (Fld.snd Fld.refl rfl) (isR rfl)) <| sgE rfl rfl (.c 9 rfl (fun h=>h) .n) (fun hgd=>ldD fh (isR rfl)) <| sgE rfl rfl (.c 10 rfl (fun h=>h) .n) (fun hgd=>ql jH (isR rfl)) <| sgE rfl rfl (.c 11 rfl (fun h=>h) .n) (fun hgd=>geq rfl rfl) <| st (bF rfl rfl (fun h=>by rw[h];rfl)) ?_
 refine en fun a w e' hf=>?_
 replace e:=e.tr e'
 refine tA hf rfl fun a hf=>aa <| ak <| an rfl hf rfl ?_
 rintro _ rfl
 exact⟨_,rfl,e,rfl⟩
end
end Go.Mono
namespace Go.Mono
open Go Go.RowKit
section tail
variable {P:Program}{L:Env}{ty:TypeId}{pos:String}{aft:Array Edge}{r:Option Nat}{ds:List Deferred}
variable {ops:Array Oper}{rest:List Oper}{Q:Exit→Act→World→Prop}{n:Nat}{a:Act}{w:World}{x y:Operand}
theorem qv {t bt:TypeId}{b off s:Nat}{cs new:Array Value}(ht:TI P t true s)(hf:FrD n ds a w L)[hL:AvL b L](hx:opd L x=some (E (.pointer (some ⟨b,off,none⟩))))(hy:opd L y=some (E (.agg new)))(h1:new.all (·.oneCell')=true)
  (hb:Blk w b cs bt) (hn:new.size=s) (ho:off+s≤cs.size) (k:∀w',w.grownBy w' (some b)→w'.heap.size=w.heap.size→Blk w' b (cs.toList.take off++new.toList++cs.toList.drop (off+s)).toArray bt→FrD n ds a w' L→wpListIn (FW r) 0 P ops Q rest a w') :
  wpListIn (FW r) 0 P ops Q (⟨none,.store t x y,ty,pos,aft,none⟩::rest) a w:=
 wpListIn_plain rfl fun K hK=>by
  have hxv:a.eval x=.pointer (some ⟨b,off,none⟩):=hf.opd x _ hx
  have hyv:a.eval y=.agg new:=hf.opd y _ hy
  have hrun:=run_storeCells_at (P:=P) b off bt new.toList 0 cs w hb (by simp;omega) (fun v hv=>by rw[Array.all_eq_true_iff_forall_mem] at h1;exact h1 v (by simpa using hv))
  have hc:(Value.agg new).cells=new:=rfl
  refine OpR.wp (R:=fun _ w'=>w'=w.setRow b (cs.toList.take off++new.toList++cs.toList.drop (off+s)).toArray) ?_ ?_
  ·simp[OpR,execOp,Instr.storeAt,Instr.sureAddr,hxv,hyv,storeVar,hc,ht.size,hn,hrun]
  ·rintro _ w' rfl
   exact hK _ _ (k _ (dJ _ _ _) (by simp) (setRow_heap _ _ _ _ _ _ hb) (hf.gr (dJ _ _ _)))
end tail
section
variable {P:Program}{w0:World}{L:Env}{dst:Option Tmp}{ty:TypeId}{pos:String}{aft:Array Edge}{α:Type}{e:Enc α}
end
theorem yn {P:Program}{ty:TypeId}{α:Type}{e:Enc α}[FlE e]{G G':Nat→Prop}{w:World}{xs ys:List α}{v:Value}{t te:TypeId}{z0:Value}{sz bz B:Nat}(ht:P.underlying t=some (.slice te))(hi:(P.info? te).map (fun i=>(i.zero,i.size,i.bytes))=some (some z0,sz,bz))(hsz:sz=e.k)(hz0:z0.cells.size=e.k)
  (ho:OwR e te B G w xs v) {u:Value} (hy:(Dv (slE e) G' ys).p u w) (h63:(xs.length+ys.length)≤maxLen) (hb:(xs.length+ys.length) * bz≤140737488355328) :
  ∃v' w',(Builtin.append_ #[t,t] ty #[v,u]).run P w=.ok v' w'∧OwR e te B G w' (xs++ys) v'∧w.grownBy w' v.ownBlock∧(v'.ownBlock=v.ownBlock∨v'.ownBlock=some w.heap.size):=by
 obtain⟨it,hit,hiz,hsz',hbz⟩:=info_parts hi
 subst hsz
 obtain⟨cs,h1,h2⟩:=ho.own
 rcases Dv.sl.1 hy with ⟨rfl,rfl⟩|⟨ad,cap,ds',rfl,_,h3,h4,h5,h6⟩
 ·refine⟨v,w,run_append_owned_none w B t ty te it e.k ht hit v _ cs h1,by simpa using ho,⟨rfl,rfl,rfl,Nat.le_refl _,fun _ _ _=>rfl⟩,.inl rfl⟩
 ·obtain⟨v',w',h7,h8,h9,_,h10⟩:=run_append_own_at (P:=P) w B t ty te it z0 e.k bz ht hit hiz hsz' hbz hz0 e.pos v _ cs h1 ad ys.length cap ds' h5.len h6 h5.one h63 hb ho.base
  exact⟨v',w',h7,⟨⟨cs++ds',by simpa using h8,(Cells.fl h2).app (Cells.fl h5)⟩,ho.av,Nat.le_trans ho.base h9.size⟩,h9,h10⟩
theorem mm {P:Program}{w0:World}{L:Env}{dst:Option Tmp}{ty:TypeId}{pos:String}{aft:Array Edge}{α:Type}{e:Enc α}[FlE e]{x y:Operand}{t te:TypeId}{z0:Value}{sz bz N:Nat}{G G':Nat→Prop}{F:World→Prop}{xs ys:List α}(ht:P.underlying t=some (.slice te))(hi:(P.info? te).map (fun i=>(i.zero,i.size,i.bytes))=some (some z0,sz,bz))(hsz:sz=e.k)(hz0:z0.cells.size=e.k)
  (hx:opd L x=some (OwA e te N G xs)) (hy:Is L w0 y (Dv (slE e) G' ys)) (hb:(xs.length+ys.length) * bz≤140737488355328) (h63:xs.length+ys.length≤maxLen) (hF:∀w w',Chg (fun b=>N≤b) w w'→F w→F w') (hF0:∀w,Ext w0 w→F w) :
  oK P w0 (fun b=>N≤b) F L ⟨dst,.call ⟨.builtin .append,#[x,y],#[t,t]⟩,ty,pos,aft,none⟩ (OwA e te N G (xs++ys)):=by
 refine⟨fun ρ w he hv=>?_⟩
 have ho:OwR e te N G w xs (ρ x):=hv x (by simp[Op.operands,Call.operands]) _ hx
 have hyv:=hy.v he hv (by simp[Op.operands,Call.operands])
 obtain⟨v',w',h1,h2,h3,h4⟩:=yn (P:=P) (ty:=ty) ht hi hsz hz0 ho hyv h63 hb
 simp only[OpR,execOp,resolve,invoke,builtin,Sem.run_bind,Sem.run_pure,Result.andThen_ok,List.map_toArray,List.map_cons,List.map_nil,h1]
 have hc:Chg (fun b=>N≤b) w w':=⟨h3.os,h3.tape,h3.output,h3.size,fun b hb hS=>h3.block b hb fun hbb=>hS (ho.lt hbb.symm).1⟩
 exact⟨hc,h2,hF _ _ hc (hF0 w he)⟩

def frQ (fr:List Nat)(j:Nat):Bool:=Nat.beq (fr.getD j 0) 1
def kpQ (fr:List Nat)(j:Nat):Bool := !Nat.beq (fr.getD j 0) 0
end Go.Mono
