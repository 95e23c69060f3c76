/-
  Walks of functions and plain facts.
  No condition.
-/
import Derived.Test.YtpjmfmjgmgjioaaGreatDoorFC
import Derived.Shelf.SlSortCmp.NoneTotal
import Derived.Test.YtpjmfmjgmgjioaaGreatDoorProg
import Derived.Test.YtpjmfmjgmgjioaaGreatDoorFD
import Derived.Test.YtpjmfmjgmgjioaaGreatDoorFB
import Derived.Shelf.SlMaps.Clone
import Derived.Test.YtpjmfmjgmgjioaaGreatDoorFA
set_option linter.unusedVariables false
set_option linter.unusedSimpArgs false
namespace Go.Mono
open Go Go.Proofs Go.RowKit Go.Shelf Go.Sort
theorem oV {α β:Type}{f:α→List β}{k:Nat}(hk:∀x,(f x).length=k)(h0:0<k):∀(l:List α) (t:Nat),(l.flatMap f)[t]?=(l[t / k]?).bind fun x=>(f x)[t % k]?
 | [],t=>by simp
 | x::r,t=>by
  rw[List.flatMap_cons,List.getElem?_append,hk]
  by_cases ht:t<k
  ·rw[if_pos ht,Nat.div_eq_of_lt ht,Nat.mod_eq_of_lt ht];rfl
  ·rw[if_neg ht,oV hk h0 r]
   have h1:t / k=(t - k) / k+1:=by rw[← Nat.add_div_right _ h0];congr 1;omega
   have h2:t % k=(t - k) % k:=by rw[Nat.mod_eq_sub_mod (by omega)]
   rw[h1,h2,List.getElem?_cons_succ]
theorem oW {α β:Type}{f:α→List β}{k:Nat}(hk:∀x,(f x).length=k):∀(l:List α),(l.flatMap f).length=l.length * k
 | []=>by simp
 | x::r=>by rw[List.flatMap_cons,List.length_append,hk,oW hk r,List.length_cons,Nat.succ_mul];omega
theorem oX {α:Type}[Inhabited α]{f:α→List Value}{k:Nat}(hk:∀x,(f x).length=k)(h0:0<k)(d:Array α):(flatK f k d).toList=d.toList.flatMap f:=by
 apply List.ext_getElem?
 intro t
 rw[oV hk h0,flatK,Array.toList_map,List.getElem?_map,Array.toList_range]
 by_cases ht:t<d.size * k
 ·rw[List.getElem?_range ht,Option.map_some]
  have hd:t / k<d.size:=Nat.div_lt_of_lt_mul (by rw[Nat.mul_comm];exact ht)
  have hm:t % k<k:=Nat.mod_lt _ h0
  rw[Array.getElem?_toList,Array.getElem?_eq_getElem hd,Option.bind_some,getElem!_pos d _ hd]
  have hl:t % k<(f (d[t / k]'hd)).length:=by rw[hk];exact hm
  rw[List.getElem?_eq_getElem hl,getElem!_pos (f (d[t / k]'hd)) (t % k) hl]
 ·rw[List.getElem?_eq_none (by simpa using ht),Option.map_none]
  have hd:¬t / k<d.size:=fun h=>ht (by
   have:=(Nat.div_lt_iff_lt_mul h0).1 h;exact this)
  rw[Array.getElem?_toList,Array.getElem?_eq_none (by omega)];rfl
theorem ix {α:Type}{e:Enc α}{f:α→List Value}(hf:∀G w x cs,e.r G w x cs↔cs=f x){G:Nat→Prop}{w:World}:∀(xs:List α) (cs:List Value),Cells e G w xs cs↔cs=xs.flatMap f
 | [],cs=>by simp[Cells]
 | x::xs,cs=>by
  constructor
  ·rintro⟨c,d,rfl,h1,h2⟩
   rw[(hf _ _ _ _).1 h1,(ix hf xs d).1 h2,List.flatMap_cons]
  ·intro h
   exact⟨f x,xs.flatMap f,by rw[h,List.flatMap_cons],(hf _ _ _ _).2 rfl,(ix hf xs _).2 rfl⟩
theorem oY {P:Program}{ρ:Ren}{α:Type}[Inhabited α]{e:Enc α}{ty:TypeId}{B:Nat}{G:Nat→Prop}{w:World}{xs:List α}{v:Value}(L:SlLaysF0.n6 P ρ)(aE:∀w,(isAgg (ρ.t 24)).run P w=.ok true w)(zE:∀w,(Go.sizeOf (ρ.t 24)).run P w=.ok e.k w)
  (f:α→List Value) (hf:∀G w x cs,e.r G w x cs↔cs=f x) (hk:∀x,(f x).length=e.k) (h1:∀x,∀v∈f x,v.oneCell'=true) (cf:α→α→Int) (hO:SWO (ltOf cf)) (g:Nat)
  (eg:∀args w,(callFunc g args).run P w=.ok (.enter g args) w) (hc:∀x y W,Calls P g #[.agg (f x).toArray,.agg (f y).toArray] W fun en w'=>en=.returned (.int .i64 (cf x y))∧∃q os,w'=grow (W.drewN q) os) (Ho:OwR e ty B G w xs v) (hl:xs.length≤100000) :
  Calls P (ρ.f 6) #[v,.func (.func g) #[] #[]] w fun en w'=>en=.returned (.tuple #[])∧∃xs',xs'.Perm xs∧xs'.Pairwise (fun x y=>ltOf cf y x=false)∧OwR e ty B G w' xs' v∧Chg (fun b=>v.ownBlock=some b) w w':=by
 obtain⟨cs,⟨hlen,hv⟩,hcs⟩:=Ho.own
 rw[ix hf] at hcs
 subst hcs
 rcases hv with ⟨rfl,hn⟩|⟨g0,cap,cur,rfl,hB,hheap,hcap,hmax,hcur,htake⟩
 ·have hx:xs=[]:=List.length_eq_zero_iff.1 hn
  subst hx
  exact (AnyF.slices_SortFunc_none L none 0 _ w).mono fun en w' ⟨h2,h3⟩=>by
   subst h3
   exact⟨h2,[],List.Perm.refl _,List.Pairwise.nil,Ho,Chg.rfl' _ _⟩
 ·have hk0:=e.pos
  have hcell:∀j,(xs.flatMap f)[j]?=cur[j]?∨xs.length * e.k≤j:=fun j=>by
   by_cases hj:j<xs.length * e.k
   ·left
    rw[← htake,List.getElem?_take,if_pos hj];simp
   ·right;omega
  have hH:HoldsK f e.k w g0 0 xs.toArray:=by
   intro j hj
   rw[size_flatK] at hj
   have hj':j<xs.length * e.k:=by simpa using hj
   have h2:(flatK f e.k xs.toArray)[j]?=cur[j]?:=by
    rw[← Array.getElem?_toList,oX hk hk0]
    rcases hcell j with h|h
    ·exact h
    ·omega
   have hjs:j<(flatK f e.k xs.toArray).size:=by rw[size_flatK];exact hj
   have hB1:Blk w g0 cur ty:=hheap
   constructor
   ·rw[Nat.zero_add,hB1.cell,← h2,Array.getElem?_eq_getElem hjs,getElem!_pos _ j hjs];rfl
   ·simp[World.frozen?,hheap]
  have hblk:g0<w.heap.size:=(Array.getElem?_eq_some_iff.1 hheap).1
  have hcmp:CmpLays P g #[] f e.k cf g0 0 xs.toArray.size w:=fun m os dk hd x y=>by simpa using hc x y _
  refine (AnyQ.slices_SortFunc L e.k aE zE f hk h1 cf hO g #[] g0 0 cap xs.toArray w eg hcmp hH hblk (by simp;omega)).mono ?_
  rintro en w' ⟨h2,d',n,os,hp,hs,rfl⟩
  have hds:d'.size=xs.length:=by simpa using hp.1
  have hperm:d'.toList.Perm xs:=by
   have:=hp.2.2
   rw[Array.extract_eq_self_of_le (by simp[hds]),Array.extract_eq_self_of_le (by simp)] at this
   simpa using this
  refine⟨h2,d'.toList,hperm,?_,?_,?_⟩
  ·rw[List.pairwise_iff_getElem]
   intro i j hi hj hij
   have:=hs i j (Nat.zero_le _) hij (by simpa[hds] using hj)
   simp only[Array.length_toList] at hi hj
   rw[getElem!_pos d' j hj,getElem!_pos d' i hi] at this
   simpa using this
  ·have hF:(flatK f e.k d').size=xs.length * e.k:=by rw[size_flatK,hds]
   have hcut:xs.length * e.k≤cur.size:=by rw[hcur];exact Nat.mul_le_mul_right _ hcap
   have hh:(sortWorldK f e.k w g0 0 n d' os).heap[g0]?=some (.cells (putCells id 0 (flatK f e.k d') cur) ty (0,0)):=by
    unfold sortWorldK grow putRowK putRow mapBlock
    simp only
    rw[Array.getElem?_append_left (by simpa[Sort.ahead] using hblk),Array.getElem?_modify,if_pos rfl]
    have:(Sort.ahead w n).heap[g0]?=some (Obj.cells cur ty (0,0)):=hheap
    rw[this];rfl
   have hput:(putCells id 0 (flatK f e.k d') cur).toList.take (xs.length * e.k)=d'.toList.flatMap f:=by
    rw[← oX hk hk0]
    apply List.ext_getElem?
    intro j
    rw[List.getElem?_take]
    by_cases hj:j<xs.length * e.k
    ·rw[if_pos hj,Array.getElem?_toList,Array.getElem?_toList,putCells,Array.getElem?_mapIdx,Array.getElem?_eq_getElem (show j<cur.size by omega),Option.map_some,if_pos ⟨Nat.zero_le _,by rw[Nat.zero_add,hF];exact hj⟩]
     have hjf:j<(flatK f e.k d').size:=by rw[hF];exact hj
     rw[Nat.sub_zero,getElem!_pos _ j hjf,Array.getElem?_eq_getElem hjf];rfl
    ·rw[if_neg hj,List.getElem?_eq_none]
     simp only[Array.length_toList,hF];omega
   refine⟨⟨d'.toList.flatMap f,⟨by rw[oW hk],.inr ⟨g0,cap,_,by simp[hds],hB,hh,by simpa[hds] using hcap,hmax,by simpa[putCells] using hcur,by simpa[hds] using hput⟩⟩,(ix hf _ _).2 rfl⟩,Ho.av,?_⟩
   exact Nat.le_trans Ho.base (size_sortWorldK_c f e.k w g0 0 n d' os)
  ·refine⟨rfl,rfl,rfl,size_sortWorldK_c f e.k w g0 0 n d' os,fun b hb hne=>?_⟩
   have hbg:g0≠b:=fun h=>hne (by subst h;rfl)
   unfold sortWorldK grow putRowK putRow mapBlock
   simp only
   rw[Array.getElem?_append_left (by simpa[Sort.ahead] using hb),Array.getElem?_modify,if_neg hbg]
   rfl
end Go.Mono
namespace Go.Proofs
open Go.Shelf
def Tryz.sortV_ren:Go.Shelf.Ren:=⟨fun|6=>76|15=>123|14=>122|28=>138|29=>139|20=>130|21=>131|22=>132|23=>133|24=>134|25=>135|26=>136|27=>137|46=>148|47=>149|48=>150|49=>151|50=>152|57=>156|n=>n,fun|22=>69|24=>72|25=>138|3=>3|39=>157|0=>0|53=>170|55=>54|4=>4|46=>164|45=>163|50=>60|5=>5|9=>9|66=>177|70=>181|76=>185|77=>186|n=>n,fun|n=>n⟩
theorem Tryz.sortV:Go.Proofs.SlLaysF0.n6 Tryz.prog Tryz.sortV_ren:={
 mixed:=by kernel_rfl
 f6:=⟨Tryz.f76.name,by decide,Tryz.func76.trans (congrArg some (by kernel_rfl))⟩
 f14:=⟨Tryz.f122.name,by decide,Tryz.func122.trans (congrArg some (by kernel_rfl))⟩
 f15:=Tryz.func123.trans (congrArg some (by kernel_rfl))
 f20:=⟨Tryz.f130.name,by decide,Tryz.func130.trans (congrArg some (by kernel_rfl))⟩
 f21:=⟨Tryz.f131.name,by decide,Tryz.func131.trans (congrArg some (by kernel_rfl))⟩
 f22:=⟨Tryz.f132.name,by decide,Tryz.func132.trans (congrArg some (by kernel_rfl))⟩
 f23:=⟨Tryz.f133.name,by decide,Tryz.func133.trans (congrArg some (by kernel_rfl))⟩
 f24:=⟨Tryz.f134.name,by decide,Tryz.func134.trans (congrArg some (by kernel_rfl))⟩
 f25:=⟨Tryz.f135.name,by decide,Tryz.func135.trans (congrArg some (by kernel_rfl))⟩
 f26:=⟨Tryz.f136.name,by decide,Tryz.func136.trans (congrArg some (by kernel_rfl))⟩
 f27:=⟨Tryz.f137.name,by decide,Tryz.func137.trans (congrArg some (by kernel_rfl))⟩
 f28:=Tryz.func138.trans (congrArg some (by kernel_rfl))
 f29:=Tryz.func139.trans (congrArg some (by kernel_rfl))
 f46:=⟨Tryz.f148.name,by decide,Tryz.func148.trans (congrArg some (by kernel_rfl))⟩
 f47:=Tryz.func149.trans (congrArg some (by kernel_rfl))
 f48:=Tryz.func150.trans (congrArg some (by kernel_rfl))
 f49:=⟨Tryz.f151.name,by decide,Tryz.func151.trans (congrArg some (by kernel_rfl))⟩
 f50:=⟨Tryz.f152.name,by decide,Tryz.func152.trans (congrArg some (by kernel_rfl))⟩
 f57:=⟨Tryz.f156.name,by decide,Tryz.func156.trans (congrArg some (by kernel_rfl))⟩
 t0:=Tryz.underlying0
 a0:=Tryz.isAgg0
 z0:=Tryz.sizeOf0
 v0:=Tryz.zeroValue0
 t3:=Tryz.underlying3
 a3:=Tryz.isAgg3
 z3:=Tryz.sizeOf3
 v3:=Tryz.zeroValue3
 t4:=Tryz.underlying4
 a4:=Tryz.isAgg4
 z4:=Tryz.sizeOf4
 v4:=Tryz.zeroValue4
 t5:=Tryz.underlying5
 a5:=Tryz.isAgg5
 z5:=Tryz.sizeOf5
 v5:=Tryz.zeroValue5
 t9:=Tryz.underlying9
 a9:=Tryz.isAgg9
 z9:=Tryz.sizeOf9
 v9:=Tryz.zeroValue9
 t22:=Tryz.underlying69
 a22:=Tryz.isAgg69
 z22:=Tryz.sizeOf69
 v22:=Tryz.zeroValue69
 t25:=Tryz.underlying138
 a25:=Tryz.isAgg138
 z25:=Tryz.sizeOf138
 v25:=Tryz.zeroValue138
 t39:=Tryz.underlying157
 a39:=Tryz.isAgg157
 z39:=Tryz.sizeOf157
 v39:=Tryz.zeroValue157
 t45:=Tryz.underlying163
 a45:=Tryz.isAgg163
 z45:=Tryz.sizeOf163
 v45:=Tryz.zeroValue163
 t46:=Tryz.underlying164
 a46:=Tryz.isAgg164
 z46:=Tryz.sizeOf164
 v46:=Tryz.zeroValue164
 t50:=Tryz.underlying60
 a50:=Tryz.isAgg60
 z50:=Tryz.sizeOf60
 v50:=Tryz.zeroValue60
 t53:=Tryz.underlying170
 a53:=Tryz.isAgg170
 z53:=Tryz.sizeOf170
 v53:=Tryz.zeroValue170
 t55:=Tryz.underlying54
 a55:=Tryz.isAgg54
 z55:=Tryz.sizeOf54
 v55:=Tryz.zeroValue54
 t66:=Tryz.underlying177
 a66:=Tryz.isAgg177
 z66:=Tryz.sizeOf177
 v66:=Tryz.zeroValue177
 t70:=Tryz.underlying181
 a70:=Tryz.isAgg181
 z70:=Tryz.sizeOf181
 v70:=Tryz.zeroValue181
 t76:=Tryz.underlying185
 a76:=Tryz.isAgg185
 z76:=Tryz.sizeOf185
 v76:=Tryz.zeroValue185
 t77:=Tryz.underlying186
 a77:=Tryz.isAgg186
 z77:=Tryz.sizeOf186
 v77:=Tryz.zeroValue186 }
def Tryz.sortE_ren:Go.Shelf.Ren:=⟨fun|6=>79|15=>123|14=>125|28=>138|29=>139|20=>140|21=>141|22=>142|23=>143|24=>144|25=>145|26=>146|27=>147|46=>153|47=>149|48=>150|49=>154|50=>155|57=>157|n=>n,fun|22=>70|24=>75|25=>141|3=>3|39=>157|0=>0|53=>170|55=>54|4=>4|46=>164|45=>163|50=>60|5=>5|9=>9|66=>177|70=>181|76=>185|77=>186|n=>n,fun|n=>n⟩
theorem Tryz.sortE:Go.Proofs.SlLaysF0.n6 Tryz.prog Tryz.sortE_ren:={
 mixed:=by kernel_rfl
 f6:=⟨Tryz.f79.name,by decide,Tryz.func79.trans (congrArg some (by kernel_rfl))⟩
 f14:=⟨Tryz.f125.name,by decide,Tryz.func125.trans (congrArg some (by kernel_rfl))⟩
 f15:=Tryz.func123.trans (congrArg some (by kernel_rfl))
 f20:=⟨Tryz.f140.name,by decide,Tryz.func140.trans (congrArg some (by kernel_rfl))⟩
 f21:=⟨Tryz.f141.name,by decide,Tryz.func141.trans (congrArg some (by kernel_rfl))⟩
 f22:=⟨Tryz.f142.name,by decide,Tryz.func142.trans (congrArg some (by kernel_rfl))⟩
 f23:=⟨Tryz.f143.name,by decide,Tryz.func143.trans (congrArg some (by kernel_rfl))⟩
 f24:=⟨Tryz.f144.name,by decide,Tryz.func144.trans (congrArg some (by kernel_rfl))⟩
 f25:=⟨Tryz.f145.name,by decide,Tryz.func145.trans (congrArg some (by kernel_rfl))⟩
 f26:=⟨Tryz.f146.name,by decide,Tryz.func146.trans (congrArg some (by kernel_rfl))⟩
 f27:=⟨Tryz.f147.name,by decide,Tryz.func147.trans (congrArg some (by kernel_rfl))⟩
 f28:=Tryz.func138.trans (congrArg some (by kernel_rfl))
 f29:=Tryz.func139.trans (congrArg some (by kernel_rfl))
 f46:=⟨Tryz.f153.name,by decide,Tryz.func153.trans (congrArg some (by kernel_rfl))⟩
 f47:=Tryz.func149.trans (congrArg some (by kernel_rfl))
 f48:=Tryz.func150.trans (congrArg some (by kernel_rfl))
 f49:=⟨Tryz.f154.name,by decide,Tryz.func154.trans (congrArg some (by kernel_rfl))⟩
 f50:=⟨Tryz.f155.name,by decide,Tryz.func155.trans (congrArg some (by kernel_rfl))⟩
 f57:=⟨Tryz.f157.name,by decide,Tryz.func157.trans (congrArg some (by kernel_rfl))⟩
 t0:=Tryz.underlying0
 a0:=Tryz.isAgg0
 z0:=Tryz.sizeOf0
 v0:=Tryz.zeroValue0
 t3:=Tryz.underlying3
 a3:=Tryz.isAgg3
 z3:=Tryz.sizeOf3
 v3:=Tryz.zeroValue3
 t4:=Tryz.underlying4
 a4:=Tryz.isAgg4
 z4:=Tryz.sizeOf4
 v4:=Tryz.zeroValue4
 t5:=Tryz.underlying5
 a5:=Tryz.isAgg5
 z5:=Tryz.sizeOf5
 v5:=Tryz.zeroValue5
 t9:=Tryz.underlying9
 a9:=Tryz.isAgg9
 z9:=Tryz.sizeOf9
 v9:=Tryz.zeroValue9
 t22:=Tryz.underlying70
 a22:=Tryz.isAgg70
 z22:=Tryz.sizeOf70
 v22:=Tryz.zeroValue70
 t25:=Tryz.underlying141
 a25:=Tryz.isAgg141
 z25:=Tryz.sizeOf141
 v25:=Tryz.zeroValue141
 t39:=Tryz.underlying157
 a39:=Tryz.isAgg157
 z39:=Tryz.sizeOf157
 v39:=Tryz.zeroValue157
 t45:=Tryz.underlying163
 a45:=Tryz.isAgg163
 z45:=Tryz.sizeOf163
 v45:=Tryz.zeroValue163
 t46:=Tryz.underlying164
 a46:=Tryz.isAgg164
 z46:=Tryz.sizeOf164
 v46:=Tryz.zeroValue164
 t50:=Tryz.underlying60
 a50:=Tryz.isAgg60
 z50:=Tryz.sizeOf60
 v50:=Tryz.zeroValue60
 t53:=Tryz.underlying170
 a53:=Tryz.isAgg170
 z53:=Tryz.sizeOf170
 v53:=Tryz.zeroValue170
 t55:=Tryz.underlying54
 a55:=Tryz.isAgg54
 z55:=Tryz.sizeOf54
 v55:=Tryz.zeroValue54
 t66:=Tryz.underlying177
 a66:=Tryz.isAgg177
 z66:=Tryz.sizeOf177
 v66:=Tryz.zeroValue177
 t70:=Tryz.underlying181
 a70:=Tryz.isAgg181
 z70:=Tryz.sizeOf181
 v70:=Tryz.zeroValue181
 t76:=Tryz.underlying185
 a76:=Tryz.isAgg185
 z76:=Tryz.sizeOf185
 v76:=Tryz.zeroValue185
 t77:=Tryz.underlying186
 a77:=Tryz.isAgg186
 z77:=Tryz.sizeOf186
 v77:=Tryz.zeroValue186 }
end Go.Proofs
namespace Go.Mono
open Go Go.Proofs Go.RowKit Go.Gr Go.Sort
instance:Inhabited VT:=⟨(0,(0,0))⟩
instance:Inhabited ET:=⟨((0,0),(0,0))⟩
theorem vX (x y:Int):decide (MonoD.cmpI x y<0)=decide (x<y):=by
 unfold MonoD.cmpI
 by_cases h1:x<y
 ·simp[h1]
 ·by_cases h2:y<x <;> simp[h1,h2]
theorem iy (x y:VT):ltOf (fun x y:VT=>MonoD.cmpI x.1 y.1) x y=lt1 x.1 y.1:=vX _ _
theorem iz (x y:ET):ltOf (fun x y:ET=>MonoD.orI (MonoD.cmpI x.1.1 y.1.1) (MonoD.cmpI x.1.2 y.1.2)) x y=lt2 x.1 y.1:=by
 unfold ltOf MonoD.orI MonoD.cmpI lt2
 by_cases h1:x.1.1<y.1.1
 ·simp[h1]
 ·by_cases h2:y.1.1<x.1.1
  ·simp[h1,h2];omega
  ·have:x.1.1=y.1.1:=by omega
   by_cases h3:x.1.2<y.1.2
   ·simp[h1,h2,h3,this]
   ·by_cases h4:y.1.2<x.1.2 <;> simp[h1,h2,h3,h4,this]
theorem vY:SWO (ltOf fun x y:VT=>MonoD.cmpI x.1 y.1) where
 irrefl x:=by rw[iy];simp[lt1]
 trans x y z h1 h2:=by rw[iy] at *;exact mM h1 h2
 ntrans x y z h1 h2:=by rw[iy] at *;simp only[lt1,decide_eq_false_iff_not] at *;omega
theorem vZ:SWO (ltOf fun x y:ET=>MonoD.orI (MonoD.cmpI x.1.1 y.1.1) (MonoD.cmpI x.1.2 y.1.2)) where
 irrefl x:=by rw[iz];exact tC _
 trans x y z h1 h2:=by rw[iz] at *;exact mL h1 h2
 ntrans x y z h1 h2:=by rw[iz] at *;simp only[lt2,decide_eq_false_iff_not] at *;omega
def vtL (x:VT):List Value:=[.int .i64 x.1,.int .u8 x.2.1,.int .i64 x.2.2]
def etL (x:ET):List Value:=[.int .i64 x.1.1,.int .i64 x.1.2,.int .u8 x.2.1,.int .i64 x.2.2]
theorem wa (G:Nat→Prop)(w:World)(x:VT)(cs:List Value):vtE.r G w x cs↔cs=vtL x:=
 ⟨fun⟨c,d,h,h1,c2,d2,h2,h3,h4⟩=>by cases h1;cases h3;cases h4;subst h2;subst h;rfl,fun h=>⟨_,_,by rw[h];rfl,rfl,_,_,rfl,rfl,rfl⟩⟩
theorem wb (G:Nat→Prop)(w:World)(x:ET)(cs:List Value):etE.r G w x cs↔cs=etL x:=
 ⟨fun⟨c,d,h,⟨c1,d1,h1,h1a,h1b⟩,c2,d2,h2,h3,h4⟩=>by cases h1a;cases h1b;cases h3;cases h4;subst h1;subst h2;subst h;rfl,fun h=>⟨_,_,by rw[h];rfl,⟨_,_,rfl,rfl,rfl⟩,_,_,rfl,rfl,rfl⟩⟩
theorem wc {B:Nat}{G:Nat→Prop}{w:World}{xs:List VT}{v:Value}(Ho:OwR vtE 72 B G w xs v)(hl:xs.length≤100000) :
  Calls Tryz.prog 76 #[v,.func (.func 77) #[] #[]] w fun en w'=>en=.returned (.tuple #[])∧∃xs',xs'.Perm xs∧xs'.Pairwise (fun x y=>lt1 y.1 x.1=false)∧OwR vtE 72 B G w' xs' v∧Chg (fun b=>v.ownBlock=some b) w w':=
 (oY (e:=vtE) Tryz.sortV (fun w=>T72.agg w) (fun w=>T72.size w) vtL wa (fun _=>rfl) (fun x u hu=>by simp[vtL] at hu;rcases hu with rfl|rfl|rfl <;> rfl) _ vY 77 ru
  (fun x y W=>(MonoD.cmpV_spec x y W).mono fun en w' ⟨u,h1,h2,h3⟩=>by cases h3;exact⟨h1,h2.grown⟩) Ho hl).mono fun en w' ⟨h1,xs',h2,h3,h4,h5⟩=>⟨h1,xs',h2,h3.imp fun {a b} h=>by rwa [iy] at h,h4,h5⟩
theorem wd {B:Nat}{G:Nat→Prop}{w:World}{xs:List ET}{v:Value}(Ho:OwR etE 75 B G w xs v)(hl:xs.length≤100000) :
  Calls Tryz.prog 79 #[v,.func (.func 80) #[] #[]] w fun en w'=>en=.returned (.tuple #[])∧∃xs',xs'.Perm xs∧xs'.Pairwise (fun x y=>lt2 y.1 x.1=false)∧OwR etE 75 B G w' xs' v∧Chg (fun b=>v.ownBlock=some b) w w':=
 (oY (e:=etE) Tryz.sortE (fun w=>T75.agg w) (fun w=>T75.size w) etL wb (fun _=>rfl) (fun x u hu=>by simp[etL] at hu;rcases hu with rfl|rfl|rfl|rfl <;> rfl) _ vZ 80 ry
  (fun x y W=>(MonoD.cmpE_spec x y W).mono fun en w' ⟨u,h1,h2,h3⟩=>by cases h3;exact⟨h1,h2.grown⟩) Ho hl).mono fun en w' ⟨h1,xs',h2,h3,h4,h5⟩=>⟨h1,xs',h2,h3.imp fun {a b} h=>by rwa [iz] at h,h4,h5⟩
theorem bVx (x:VT):Tryz.prog.built 72 [(0,.int .i64 x.1),(1,.int .u8 x.2.1),(2,.int .i64 x.2.2)]=some #[.int .i64 x.1,.int .u8 x.2.1,.int .i64 x.2.2]:=by kernel_rfl
theorem bEx (x:ET):Tryz.prog.built 75 [(0,.int .i64 x.1.1),(1,.int .i64 x.1.2),(2,.int .u8 x.2.1),(3,.int .i64 x.2.2)]=some #[.int .i64 x.1.1,.int .i64 x.1.2,.int .u8 x.2.1,.int .i64 x.2.2]:=by kernel_rfl
theorem oZ {G:Nat→Prop}{N:Nat}(g:GT)(v:Value)(W:World)(h:(Dv (ptE (grE N)) G (some g)).p v W)(hG:∀b,G b→b<W.heap.size)(hs:g.1.Pairwise fun x y=>lt1 x.1 y.1=true)(hl:g.1.length≤100000)(hN:N≤1000000) :
  Calls Tryz.prog 34 #[v] W (Post (OwA vtE 72 W.heap.size G g.1) W):=by
 refine enter (args:=[v]) (As:=[Dv (ptE (grE N)) (GB W G) (some g)]) Tryz.func34 rfl Tryz.ntmps34 (Nat.le_of_ble_eq_true rfl) ?_ (fun a hf=>?_) (Nat.le_of_ble_eq_true rfl)
 rotate_left
 dsimp only[params,Nat.reduceAdd] at hf
 rotate_right
 ·exact arg1 (Dv.toB h)
 have e:=Ext.rfl' W
 refine seq ?_
 refine ah ?_
 refine ae hf rfl (by decide) fun a hf=>?_
 refine aa ?_
 repeat refine seq ?_
 refine ac 2 hf (by decide +kernel) ?_
 refine st (mv rfl) ?_
 refine st (dl Tryz.underlying38 (isR rfl)) ?_
 refine en fun a w e' hf=>?_
 replace e:=e.tr e'
 refine aa ?_
 refine ifc hf rfl (fun h=>by cases h) (fun _=>?_)
 refine ak ?_
 simp only[Exit.then,Exit.inBlock,↓reduceIte]
 refine seq ?_
 refine ah ?_
 refine ae hf rfl (by decide) fun a hf=>?_
 refine aa ?_
 repeat refine seq ?_
 refine ac 4 hf (by decide +kernel) ?_
 refine st (mv rfl) ?_
 refine st (ct (isR rfl)) ?_
 refine st (am Tryz.underlying129 rfl bO (by decide) (Fld.fst Fld.refl) (isR rfl)) ?_
 refine st (ldD bO (isR rfl)) ?_
 refine en fun a w e' hf=>?_
 replace e:=e.tr e'
 clear e'
 obtain⟨_,⟨cs,⟨bm,nm,rfl,hGm,hNm,HM⟩,rfl⟩,hf⟩:=hf.fix 11 rfl
 have hbm:bm<W.heap.size:=Nat.lt_of_not_le fun h=>hGm (.inr h)
 refine jU (V:=vKV) Tryz.underlying123 hf (by decide) rfl HM fun a r w e' hr hsr HR hf=>?_
 have hrW:W.heap.size≤r:=Nat.le_trans e.size (Nat.le_of_eq hr.symm)
 replace e:=e.tr e'
 have hrs:r+1≤w.heap.size:=by omega
 clear HM e'
 refine aa ?_
 replace hf:=hf.kp [2,3,12]
 refine blk (aG (fun r0 a w=>∃(old rest:List VT) (u:Value),r0=rest.length∧Fr 30 a w [(2,E (.slice none 0 0)),(3,E u),(12,E (.pointer (some ⟨r,0,none⟩)))]∧Ext W w∧RgR vKV w bm r nm old rest∧OwR vtE 72 (r+1) G w old u∧(old++rest).Perm g.1) g.1.length ⟨[],g.1,.slice none 0 0,rfl,hf,e,HR,OwR.nil vtE _ hrs fun b hb=>Nat.lt_of_lt_of_le (hG b hb) (by omega),List.Perm.refl _⟩ ?_)
 clear hf e HR hrs
 rintro r0 a w ⟨old,rest,u,rfl,hf,e,HR,Ho,hp⟩
 refine seq ?_
 refine ah ?_
 refine jV hf (by decide) rfl HR (fun a hrest hf=>?_) (fun a w' x c hm hg HR hen hf=>?_)
 ·refine cY hf (by decide) rfl rfl fun a hf=>?_
  refine aa ?_
  refine seq ?_
  refine ifc hf rfl (fun h=>by cases h) (fun _=>?_)
  refine aF ?_
  simp only[Exit.then,Exit.inBlock,↓reduceIte]
  subst hrest
  rw[List.append_nil] at hp
  replace hf:=hf.kp [2,3]
  refine seq ?_
  refine ac 1 hf (by decide +kernel) ?_
  refine st (mv rfl) ?_
  refine en fun a w e' hf=>?_
  replace Ho:=Ho.ext e'
  replace e:=e.tr e'
  clear e'
  refine fM (S:=fun b=>u.ownBlock=some b) (F:=fun z w'=>OwR vtE 72 (r+1) G w' g.1 u) hf (by decide) rt ?_ fun a z w hc hF hf=>?_
  ·have e27:a.eval (.tmp 27)=u:=hf.opd (.tmp 27) _ rfl
   have eF:a.eval (.func 77)=.func (.func 77) #[] #[]:=rfl
   simp only[List.map_toArray,List.map_cons,List.map_nil,e27,eF]
   exact (wc Ho (by rw[hp.length_eq];exact hl)).mono fun en w' ⟨k1,xs',k2,k3,k4,k5⟩=>⟨_,k1,k5,by rw[← jB (lt:=fun x y:VT=>lt1 x.1 y.1) (k2.trans hp) hs k3];exact k4⟩
  replace e:=e.ch hc (fun b hb=>by have:=(Ho.lt hb).1;omega)
  clear hc Ho
  refine aa ?_
  replace hf:=hf.kp [2,3]
  refine seq ?_
  refine ac 1 hf (by decide +kernel) ?_
  refine st (mv rfl) ?_
  refine en fun a w e' hf=>?_
  replace hF:=hF.ext e'
  replace e:=e.tr e'
  refine ae hf rfl (by decide) fun a hf=>?_
  refine aa ?_
  refine aj ?_
  refine al rfl hf rfl ?_
  rintro _ rfl
  exact⟨_,rfl,e,hF.low (by omega) hG⟩
 ·have nr:u.ownBlock≠some r:=Ho.neLt (by omega)
  have HR0:(old++rest).Pairwise (fun p q:VT=>p.1≠q.1):=(hp.pairwise_iff (fun {_ _} hne=>Ne.symm hne)).2 (hs.imp fun {a b} h=>(gw h).2)
  replace e:=e.gr hg hrW;replace Ho:=Ho.grE hg nr;clear hg nr
  refine cY hf (by decide) rfl rfl fun a hf=>?_
  refine aa ?_
  refine seq ?_
  refine ifc hf rfl (fun _=>?_) (fun h=>by cases h)
  refine ak ?_
  simp only[Exit.then,Exit.inBlock,↓reduceIte]
  refine blk ?_
  refine seq ?_
  refine ah ?_
  refine jW hf (by decide) rfl hen fun a hf=>?_
  clear hen
  have hlen:old.length+1≤g.1.length:=by
   have h1:=hp.length_eq;have h2:0<rest.length:=List.length_pos_of_mem hm
   rw[List.length_append] at h1;omega
  replace hf:=hf.kp [2,3,12,15]
  refine cY hf (by decide) rfl rfl fun a hf=>?_
  refine cY hf (by decide) rfl rfl fun a hf=>?_
  have lr:=HR.lt
  refine aJ cF hf (by decide) fun a b5 w e' hb5 hs5 B5 hf=>?_
  have hle5:=Nat.le_trans e.size (Nat.le_of_eq hb5.symm)
  have ne5_Ho:=Ho.ne_new hb5
  replace HR:=HR.ext e'
  replace Ho:=Ho.ext e'
  replace e:=e.tr e'
  refine ae hf rfl (by decide) fun a hf=>?_
  have n5:=ne5_Ho
  have h5r:r<b5∧bm<b5:=by omega
  replace HR:RgR vKV w bm r nm (old++[(x,c)]) (rest.filter fun p => !decide (p.1=x)):=HR
  replace hf:=hf.kp [2,3,4,5,12,17]
  refine aD eV hf rfl rfl (aX rfl rfl) B5 rfl rfl fun w hg' hsz B5 hf=>?_
  replace e:=e.gr hg' (by omega);replace HR:=HR.gr hg' (fun h=>by cases h;omega) (fun h=>by cases h;omega);replace Ho:=Ho.grE hg' n5;clear hg'
  refine aa ?_
  replace hf:=hf.kp [2,3,4,5,12]
  refine ac 8 hf (by decide +kernel) ?_
  refine st (mv rfl) ?_
  refine st (mv rfl) ?_
  refine st (ai Tryz.underlying126 rfl T5 (by decide) rfl) ?_
  refine st (ld1 T5 rfl B5 rfl) ?_
  refine st (ai Tryz.underlying126 rfl T3 (by decide) rfl) ?_
  refine st (ld1 T3 rfl B5 rfl) ?_
  refine st (mU (x,c) (bVx (x,c)) rfl rfl rfl) ?_
  refine st (br Tryz.underlying69 I72 rfl (by decide) rfl Ho.avs (eI rfl)) ?_
  refine en fun a w e' hf=>?_
  replace HR:=HR.ext e'
  replace Ho:=Ho.ext e'
  replace e:=e.tr e'
  replace B5:=B5.ext e'
  clear e'
  haveI hin:∀G0,InR (GB W G0) _:=OwR.inGB (W:=W) Ho (by omega)
  refine bs Tryz.underlying69 I72 rfl rfl hf (by decide) rfl Ho (isR rfl) (by simp only[List.length_singleton];omega) (by simp only[List.length_singleton,maxLen];omega) fun a v w hg hat Hn hf=>?_
  replace e:=e.gro hg (Ho.row (W:=W) (by omega))
  have hrow:=Ho.row (W:=W) (by omega)
  replace HR:=HR.gr hg (fun h=>by have:=(Ho.lt h.symm).1;omega) (fun h=>by have:=(Ho.lt h.symm).1;omega)
  replace Ho:=Hn
  clear hrow
  replace B5:=B5.gro hg (by assumption)
  replace Ho:=Hn;clear Hn hg hat hin
  refine ae hf rfl (by decide) fun a hf=>?_
  refine aa ?_
  simp only[Exit.then,Exit.inBlock,↓reduceIte]
  replace hf:=hf.kp [2,3,12]
  refine⟨_,?_,old++[(x,c)],_,_,rfl,hf,e,HR,Ho,?_⟩
  ·have:=(eM (List.pairwise_append.1 HR0).2.1 hm).length_eq
   simp only[List.length_cons] at this;omega
  ·rw[List.append_assoc];exact (List.Perm.append_left old (eM (List.pairwise_append.1 HR0).2.1 hm).symm).trans hp
theorem pa {G:Nat→Prop}{N:Nat}(g:GT)(v:Value)(W:World)(h:(Dv (ptE (grE N)) G (some g)).p v W)(hG:∀b,G b→b<W.heap.size)(hs:g.2.Pairwise fun x y=>lt2 x.1 y.1=true)(hl:g.2.length≤100000)(hN:N≤1000000) :
  Calls Tryz.prog 35 #[v] W (Post (OwA etE 75 W.heap.size G g.2) W):=by
 refine enter (args:=[v]) (As:=[Dv (ptE (grE N)) (GB W G) (some g)]) Tryz.func35 rfl Tryz.ntmps35 (Nat.le_of_ble_eq_true rfl) ?_ (fun a hf=>?_) (Nat.le_of_ble_eq_true rfl)
 rotate_left
 dsimp only[params,Nat.reduceAdd] at hf
 rotate_right
 ·exact arg1 (Dv.toB h)
 have e:=Ext.rfl' W
 refine seq ?_
 refine ah ?_
 refine ae hf rfl (by decide) fun a hf=>?_
 refine aa ?_
 repeat refine seq ?_
 refine ac 2 hf (by decide +kernel) ?_
 refine st (mv rfl) ?_
 refine st (dl U38 (isR rfl)) ?_
 refine en fun a w e' hf=>?_
 replace e:=e.tr e'
 refine aa ?_
 refine ifc hf rfl (fun h=>by cases h) (fun _=>?_)
 refine ak ?_
 simp only[Exit.then,Exit.inBlock,↓reduceIte]
 refine seq ?_
 refine ah ?_
 refine ae hf rfl (by decide) fun a hf=>?_
 refine aa ?_
 repeat refine seq ?_
 refine ac 4 hf (by decide +kernel) ?_
 refine st (mv rfl) ?_
 refine st (ct (isR rfl)) ?_
 refine st (am bP rfl bG (by decide) (Fld.snd Fld.refl rfl) (isR rfl)) ?_
 refine st (ldD bG (isR rfl)) ?_
 refine en fun a w e' hf=>?_
 replace e:=e.tr e'
 clear e'
 obtain⟨_,⟨cs,⟨bm,nm,rfl,hGm,hNm,HM⟩,rfl⟩,hf⟩:=hf.fix 11 rfl
 have hbm:bm<W.heap.size:=Nat.lt_of_not_le fun h=>hGm (.inr h)
 refine jU (V:=eKV) dc hf (by decide) rfl HM fun a r w e' hr hsr HR hf=>?_
 have hrW:W.heap.size≤r:=Nat.le_trans e.size (Nat.le_of_eq hr.symm)
 replace e:=e.tr e'
 have hrs:r+1≤w.heap.size:=by omega
 clear HM e'
 refine aa ?_
 replace hf:=hf.kp [2,3,12]
 refine blk (aG (fun r0 a w=>∃(old rest:List ET) (u:Value),r0=rest.length∧Fr 33 a w [(2,E (.slice none 0 0)),(3,E u),(12,E (.pointer (some ⟨r,0,none⟩)))]∧Ext W w∧RgR eKV w bm r nm old rest∧OwR etE 75 (r+1) G w old u∧(old++rest).Perm g.2) g.2.length ⟨[],g.2,.slice none 0 0,rfl,hf,e,HR,OwR.nil etE _ hrs fun b hb=>Nat.lt_of_lt_of_le (hG b hb) (by omega),List.Perm.refl _⟩ ?_)
 clear hf e HR hrs
 rintro r0 a w ⟨old,rest,u,rfl,hf,e,HR,Ho,hp⟩
 refine seq ?_
 refine ah ?_
 refine jV hf (by decide) rfl HR (fun a hrest hf=>?_) (fun a w' x c hm hg HR hen hf=>?_)
 ·refine cY hf (by decide) rfl rfl fun a hf=>?_
  refine aa ?_
  refine seq ?_
  refine ifc hf rfl (fun h=>by cases h) (fun _=>?_)
  refine aF ?_
  simp only[Exit.then,Exit.inBlock,↓reduceIte]
  subst hrest
  rw[List.append_nil] at hp
  replace hf:=hf.kp [2,3]
  refine seq ?_
  refine ac 1 hf (by decide +kernel) ?_
  refine st (mv rfl) ?_
  refine en fun a w e' hf=>?_
  replace Ho:=Ho.ext e'
  replace e:=e.tr e'
  clear e'
  refine fM (S:=fun b=>u.ownBlock=some b) (F:=fun z w'=>OwR etE 75 (r+1) G w' g.2 u) hf (by decide) rx ?_ fun a z w hc hF hf=>?_
  ·have e30:a.eval (.tmp 30)=u:=hf.opd (.tmp 30) _ rfl
   have eF:a.eval (.func 80)=.func (.func 80) #[] #[]:=rfl
   simp only[List.map_toArray,List.map_cons,List.map_nil,e30,eF]
   exact (wd Ho (by rw[hp.length_eq];exact hl)).mono fun en w' ⟨k1,xs',k2,k3,k4,k5⟩=>⟨_,k1,k5,by rw[← jB (lt:=fun x y:ET=>lt2 x.1 y.1) (k2.trans hp) hs k3];exact k4⟩
  replace e:=e.ch hc (fun b hb=>by have:=(Ho.lt hb).1;omega)
  clear hc Ho
  refine aa ?_
  replace hf:=hf.kp [2,3]
  refine seq ?_
  refine ac 1 hf (by decide +kernel) ?_
  refine st (mv rfl) ?_
  refine en fun a w e' hf=>?_
  replace hF:=hF.ext e'
  replace e:=e.tr e'
  refine ae hf rfl (by decide) fun a hf=>?_
  refine aa ?_
  refine aj ?_
  refine al rfl hf rfl ?_
  rintro _ rfl
  exact⟨_,rfl,e,hF.low (by omega) hG⟩
 ·have nr:u.ownBlock≠some r:=Ho.neLt (by omega)
  have HR0:(old++rest).Pairwise (fun p q:ET=>p.1≠q.1):=(hp.pairwise_iff (fun {_ _} hne=>Ne.symm hne)).2 (hs.imp fun {a b} h=>(fe h).2)
  replace e:=e.gr hg hrW;replace Ho:=Ho.grE hg nr;clear hg nr
  refine cY hf (by decide) rfl rfl fun a hf=>?_
  refine aa ?_
  refine seq ?_
  refine ifc hf rfl (fun _=>?_) (fun h=>by cases h)
  refine ak ?_
  simp only[Exit.then,Exit.inBlock,↓reduceIte]
  refine blk ?_
  refine seq ?_
  refine ah ?_
  refine jW hf (by decide) rfl hen fun a hf=>?_
  clear hen
  have hlen:old.length+1≤g.2.length:=by
   have h1:=hp.length_eq;have h2:0<rest.length:=List.length_pos_of_mem hm
   rw[List.length_append] at h1;omega
  replace hf:=hf.kp [2,3,12,15]
  refine cY hf (by decide) rfl rfl fun a hf=>?_
  refine cY hf (by decide) rfl rfl fun a hf=>?_
  have lr:=HR.lt
  refine aJ gf hf (by decide) fun a b4 w e' hb4 hs4 B4 hf=>?_
  have hle4:=Nat.le_trans e.size (Nat.le_of_eq hb4.symm)
  have ne4_Ho:=Ho.ne_new hb4
  replace HR:=HR.ext e'
  replace Ho:=Ho.ext e'
  replace e:=e.tr e'
  clear e'
  refine aJ cF hf (by decide) fun a b5 w e' hb5 hs5 B5 hf=>?_
  have hle5:=Nat.le_trans e.size (Nat.le_of_eq hb5.symm)
  have ne5_Ho:=Ho.ne_new hb5
  have lt5_B4:=B4.lt
  replace HR:=HR.ext e'
  replace Ho:=Ho.ext e'
  replace e:=e.tr e'
  replace B4:=B4.ext e'
  clear e'
  have n5:=ne5_Ho
  have n4:=ne4_Ho
  have h5r:r<b4∧bm<b4∧b4<b5:=by omega
  replace HR:RgR eKV w bm r nm (old++[(x,c)]) (rest.filter fun p => !decide (p.1=x)):=HR
  replace hf:=hf.kp [2,3,4,5,12,16,17]
  refine aD cT hf rfl rfl (aX rfl rfl) B4 rfl rfl fun w hg' hsz B4 hf=>?_
  replace e:=e.gr hg' (by omega);replace HR:=HR.gr hg' (fun h=>by cases h;omega) (fun h=>by cases h;omega);replace Ho:=Ho.grE hg' n4;replace B5:=B5.gr hg' (by omega);clear hg'
  refine aD eV hf rfl rfl (aX rfl rfl) B5 rfl rfl fun w hg' hsz B5 hf=>?_
  replace e:=e.gr hg' (by omega);replace HR:=HR.gr hg' (fun h=>by cases h;omega) (fun h=>by cases h;omega);replace Ho:=Ho.grE hg' n5;replace B4:=B4.gr hg' (by omega);clear hg'
  refine aa ?_
  replace hf:=hf.kp [2,3,4,5,12]
  refine ac 11 hf (by decide +kernel) ?_
  refine st (mv rfl) ?_
  refine st (ai eW rfl T3 (by decide) rfl) ?_
  refine st (ld1 T3 rfl B4 rfl) ?_
  refine st (ai eW rfl T3 (by decide) rfl) ?_
  refine st (ld1 T3 rfl B4 rfl) ?_
  refine st (ai fD rfl T5 (by decide) rfl) ?_
  refine st (ld1 T5 rfl B5 rfl) ?_
  refine st (ai fD rfl T3 (by decide) rfl) ?_
  refine st (ld1 T3 rfl B5 rfl) ?_
  refine st (mV (x,c) (bEx (x,c)) rfl rfl rfl rfl) ?_
  refine st (br U70 I75 rfl (by decide) rfl Ho.avs (eJ rfl)) ?_
  refine en fun a w e' hf=>?_
  replace HR:=HR.ext e'
  replace Ho:=Ho.ext e'
  replace e:=e.tr e'
  replace B4:=B4.ext e'
  replace B5:=B5.ext e'
  clear e'
  haveI hin:∀G0,InR (GB W G0) _:=OwR.inGB (W:=W) Ho (by omega)
  refine bs U70 I75 rfl rfl hf (by decide) rfl Ho (isR rfl) (by simp only[List.length_singleton];omega) (by simp only[List.length_singleton,maxLen];omega) fun a v w hg hat Hn hf=>?_
  replace e:=e.gro hg (Ho.row (W:=W) (by omega))
  have hrow:=Ho.row (W:=W) (by omega)
  replace HR:=HR.gr hg (fun h=>by have:=(Ho.lt h.symm).1;omega) (fun h=>by have:=(Ho.lt h.symm).1;omega)
  replace Ho:=Hn
  clear hrow
  replace B4:=B4.gro hg (by assumption)
  replace B5:=B5.gro hg (by assumption)
  replace Ho:=Hn;clear Hn hg hat hin
  refine ae hf rfl (by decide) fun a hf=>?_
  refine aa ?_
  simp only[Exit.then,Exit.inBlock,↓reduceIte]
  replace hf:=hf.kp [2,3,12]
  refine⟨_,?_,old++[(x,c)],_,_,rfl,hf,e,HR,Ho,?_⟩
  ·have:=(eM (List.pairwise_append.1 HR0).2.1 hm).length_eq
   simp only[List.length_cons] at this;omega
  ·rw[List.append_assoc];exact (List.Perm.append_left old (eM (List.pairwise_append.1 HR0).2.1 hm).symm).trans hp
end Go.Mono
namespace Go.Mono
open Go Go.Proofs Go.RowKit Go.Gr

theorem GrR.gr {w w':World}{bg bv be n b:Nat}{g:GT}(h:GrR w bg bv be n g)(hg:w.grownBy w' (some b))(h1:bg≠b)(h2:bv≠b)(h3:be≠b):GrR w' bg bv be n g:=
 ⟨h.blk.gr hg h1,h.vs.gr hg (fun h=>h2 (by cases h;rfl)),h.es.gr hg (fun h=>h3 (by cases h;rfl)),h.ne⟩
end Go.Mono
namespace Go.Mono
open Go Go.Proofs Go.RowKit
def kr (P:Program)(ops:Array Oper)(w0:World)(fr:Bool)(L:Env)(o:Oper)(A:VA):Prop:=
 ∀(a:Act) w,Ext w0 w→(∀x∈o.op.operands,∀B,opd L x=some B→B.p (a.eval x) w)→(∀d B,bE ops o=some d→aA L d=some B→B.p (a.eval (.tmp d)) w) →
  if Region.wanted o (yielded ops a.tmps) then OpR P o a.eval w (fun v w'=>Ext w w'∧A.p v w'∧(fr=true→∀b,v=.map (some b)→w.heap.size≤b∧b<w'.heap.size)) else A.p undef w
def eN (fr:List Bool)(j:Nat):Bool:=fr.getD j false
def ey (P:Program)(ops:Array Oper)(w0:World):List Bool→List Oper→(Env→Prop)→Env→Prop
 | _,[],K,L=>K L
 | fr,o::rest,K,L=>∃A,kr P ops w0 (fr.headD false) L o A∧ey P ops w0 fr.tail rest K (push o.dst A L)
def ku (ops:Array Oper)(m:Nat)(fr:Nat→Bool)(a:Act):Prop:=
 ∀i j,i<m→j<m→i≠j→fr i=true→fr j=true→∀d d',aB ops i=some d→aB ops j=some d'→∀b,a.eval (.tmp d)=.map (some b)→a.eval (.tmp d')≠.map (some b)
section reg
variable {P:Program}{ops:Array Oper}{Q:Exit→Act→World→Prop}{w0:World}{n:Nat}{ds:List Deferred}{r:Option Nat}
theorem we (fr:List Bool)(j:Nat):eN fr.tail j=eN fr (j+1):=by cases fr <;> simp[eN]
theorem pb {K:Env→Prop}:∀(M:List Oper) (fr:List Bool) (k:Nat) (L:Env),(∀j,j<M.length→ops[k+j]?=M[j]?)→ey P ops w0 fr M K L →
  ∃As:Nat→VA,(∀j o,j<M.length→ops[k+j]?=some o→kr P ops w0 (eN fr j) (aK ops L As k j) o (As j))∧K (aK ops L As k M.length)
 | [],fr,k,L,_,h=>⟨fun _=>Any,fun j o hj=>by simp at hj,h⟩
 | o::M,fr,k,L,hM,⟨A,hA,hr⟩=>by
  have h0:ops[k]?=some o:=by simpa using hM 0 (by simp)
  have hd:aB ops k=o.dst:=by simp[aB,h0]
  obtain⟨As,h1,h2⟩:=pb M fr.tail (k+1) (push o.dst A L) (fun j hj=>by
   have:=hM (j+1) (by simpa using hj)
   rw[show k+1+j=k+(j+1) by omega]
   simpa using this) hr
  refine⟨ju A As,?_,?_⟩
  ·intro j o' hj ho'
   cases j with
   | zero=>
    rw[Nat.add_zero,h0] at ho'
    obtain rfl:=Option.some.inj ho'
    have:eN fr 0=fr.headD false:=by cases fr <;> rfl
    rw[this]
    exact hA
   | succ j=>
    rw[gu,hd,← we]
    exact h1 j o' (by simpa using hj) (by rw[show k+1+j=k+(j+1) by omega];exact ho')
  ·rw[List.length_cons,gu,hd]
   exact h2

structure wg (ops:Array Oper)(m n:Nat)(fr:Nat→Bool)(ds:List Deferred)(w0:World)(L:Env)(As:Nat→VA)(listed:Array Bool)(a:Act)(w:World):Prop where
 ext:Ext w0 w
 size:a.tmps.size=n
 defers:a.defers=ds
 hL:∀t A,aA L t=some A→(∀j,j<m→aB ops j≠some t)→A.p (a.eval (.tmp t)) w
 hA:∀i,i<m→listed.getD i false=true→∀d,aB ops i=some d→(As i).p (a.eval (.tmp d)) w
 hF:∀i,i<m→fr i=true→listed.getD i false=true→∀d,aB ops i=some d→∀b,a.eval (.tmp d)=.map (some b)→b<w.heap.size
 hD:∀i j,i<m→j<m→i≠j→fr i=true→fr j=true→listed.getD i false=true→listed.getD j false=true→∀d d',aB ops i=some d→aB ops j=some d'→∀b,a.eval (.tmp d)=.map (some b)→a.eval (.tmp d')≠.map (some b)

theorem pd {m:Nat}{fr:Nat→Bool}{L:Env}{As:Nat→VA}(hm:m≤ops.size)(hchk:∀i,i<m→cO ops m n i=true)(hchk2:∀i,m≤i→i<ops.size→cx ops i=true)
  (hops:∀j o,j<m→ops[j]?=some o→kr P ops w0 (fr j) (aK ops L As 0 j) o (As j))
  (hend:∀a w,Ext w0 w→FrD n ds a w (aK ops L As 0 m)→ku ops m fr a→wpListIn (FW r) 0 P ops Q (ops.toList.drop m) a w) :
  ∀(c:Nat) (listed:Array Bool) (a:Act) (w:World),(List.range m).countP (fun i => !listed.getD i true)=c→listed.size=ops.size →
   (∀j,m≤j→j<ops.size→listed.getD j true=false)→LD ops listed→wg ops m n fr ds w0 L As listed a w→wpAnyIn (FW r) 0 P .any ops Q (c+(ops.size - m)) listed a w
 | 0,listed,a,w,hc,hsz,hun,hld,hi=>by
  have hall:∀j,j<m→listed.getD j false=true:=by
   intro j hj
   have:=(List.countP_eq_zero.1 hc) j (List.mem_range.2 hj)
   have hjl:j<listed.size:=by omega
   simpa[hjl] using this
  rw[Nat.zero_add]
  refine fx m hchk2 (ops.size - m) m (by omega) (Nat.le_refl _) listed a w hall hun hsz hld (hend a w hi.ext ⟨hi.size,hi.defers,fun t A ht=>?_⟩ fun i j h1 h2 h3 h4 h5=>hi.hD i j h1 h2 h3 h4 h5 (hall i h1) (hall j h2))
  rcases cQ L As t A m ht with ⟨j,hj,hd,rfl⟩|⟨hn,hl⟩
  ·exact hi.hA j hj (hall j hj) t hd
  ·exact hi.hL t A hl hn
 | c+1,listed,a,w,hc,hsz,hun,hld,hi=>by
  have facts:∀i o,i<m→ops[i]?=some o→(∀e∈o.after,Region.binds .any e=true→e.on<i)∧(∀d,o.dst=some d→d<n) ∧
    (∀t,t∈co o∨bE ops o=some t→∀j,j<m→aB ops j=some t→bnd ops i j=true)∧(∀j,j<m→j≠i→∀d,o.dst=some d→aB ops j≠some d):=by
   intro i o hlt ho
   have:=hchk i hlt
   simp only[cO,ho,Bool.and_eq_true,Array.all_eq_true_iff_forall_mem,Bool.or_eq_true,Bool.not_eq_true',List.all_eq_true,List.mem_range,List.mem_append,Option.mem_toList] at this
   obtain⟨⟨⟨h1,h2⟩,h3⟩,h4⟩:=this
   refine⟨fun e he hb=>?_,fun d hd=>?_,fun t ht j hj hd=>?_,fun j hj hne d hd hd'=>?_⟩
   ·rcases h1 e he with h|h
    ·rw[hb] at h;cases h
    ·simpa[Nat.blt_eq] using h
   ·simpa[hd,Nat.blt_eq] using h2
   ·have:=h3 t ht j hj
    rcases this with h|h
    ·rw[hd] at h;simp at h
    ·exact h
   ·have:=h4 j hj
    rcases this with h|h
    ·exact hne (Nat.eq_of_beq_eq_true h)
    ·rw[hd,hd'] at h;simp at h
  have prog:∃i,i<m∧listed.getD i true=false∧∀j,j<i→listed.getD j true=true:=by
   have hex:∃i,i<m∧listed.getD i true=false:=by
    have hpos:0<(List.range m).countP (fun i => !listed.getD i true):=by omega
    obtain⟨i,hi,hb⟩:=List.countP_pos_iff.1 hpos
    exact⟨i,List.mem_range.1 hi,by simpa using hb⟩
   obtain⟨i,hlt,hb⟩:=hex
   induction i using Nat.strongRecOn with
   | _ i ih=>
    by_cases h:∃j,j<i∧listed.getD j true=false
    ·obtain⟨j,hj,hjb⟩:=h
     exact ih j hj (by omega) hjb
    ·refine⟨i,hlt,hb,fun j hj=>?_⟩
     cases hjb:listed.getD j true with
     | true=>rfl
     | false=>exact absurd ⟨j,hj,hjb⟩ h
  obtain⟨i0,hi0,hu0,hbelow⟩:=prog
  have hready:i0∈Region.ready .any ops listed:=by
   have ho:ops[i0]?=some (ops[i0]'(by omega)):=by simp
   refine mem_ready.2 ⟨hu0,_,ho,fun e he hb=>?_⟩
   have hlt:=(facts i0 _ hi0 ho).1 e he hb
   have:=hbelow _ hlt
   have hjl:e.on<listed.size:=by omega
   simpa[hjl] using this
  rw[show c+1+(ops.size - m)=(c+(ops.size - m))+1 by omega]
  refine⟨fun h0=>(by rw[h0] at hready;cases hready),fun i hir=>?_⟩
  obtain⟨hu,o,ho,hall⟩:=mem_ready.1 hir
  have hilt:i<ops.size:=(Array.getElem?_eq_some_iff.1 ho).1
  have listed_of_bnd:∀j,bnd ops i j=true→listed.getD j false=true:=by
   intro j hb
   simp only[bnd,ho] at hb
   obtain⟨e,he,hb⟩:=Array.any_eq_true'.1 hb
   simp only[Bool.and_eq_true] at hb
   have:=hall e he hb.1
   rwa [Nat.eq_of_beq_eq_true hb.2] at this
  have him:i<m:=by
   rcases Nat.lt_or_ge i m with h|h
   ·exact h
   ·have hc:=hchk2 i h hilt
    simp only[cx,ho,Bool.and_eq_true,List.all_eq_true,List.mem_range] at hc
    have:=cov hld 12 i i0 (hc.2 i0 (by omega)) (fun o' ho' e he hb=>by
     rw[ho] at ho'
     obtain rfl:=Option.some.inj ho'
     exact hall e he hb)
    rw[dC hu0] at this
    cases this
  obtain⟨f1,f2,f3,f4⟩:=facts i o him ho
  have byLook:∀t,(t∈co o∨bE ops o=some t)→∀B,aA (aK ops L As 0 i) t=some B→B.p (a.eval (.tmp t)) w:=by
   intro t ht B hB
   rcases cQ L As t B i hB with ⟨j,hj,hd,rfl⟩|⟨hn,hl⟩
   ·exact hi.hA j (by omega) (listed_of_bnd j (f3 t ht j (by omega) hd)) t hd
   ·refine hi.hL t B hl fun j hj hd=>?_
    have hb:=f3 t ht j hj hd
    simp only[bnd,ho] at hb
    obtain⟨e,he,hb⟩:=Array.any_eq_true'.1 hb
    simp only[Bool.and_eq_true] at hb
    have hlt:=f1 e he hb.1
    rw[Nat.eq_of_beq_eq_true hb.2] at hlt
    exact hn j hlt hd
  have hg:=hops i o him ho a w hi.ext (fun x hx B hB=>by
   cases x with
   | tmp t=>exact byLook t (.inl (List.mem_filterMap.2 ⟨.tmp t,by simpa using hx,rfl⟩)) B hB
   | const v=>simp[opd] at hB;subst hB;rfl
   | global g=>simp[opd] at hB;subst hB;rfl
   | func f=>simp[opd] at hB;subst hB;rfl) (fun d B hd hB=>byLook d (.inr hd) B hB)
  have hdst:aB ops i=o.dst:=by simp[aB,ho]
  have step:∀v w',Ext w w'→(As i).p v w'→(fr i=true→∀b,v=.map (some b)→w.heap.size≤b∧b<w'.heap.size)→wpAnyIn (FW r) 0 P .any ops Q (c+(ops.size - m)) (listed.setIfInBounds i true) (a.put o.dst v) w':=by
   intro v w' hx hv hfr
   have oth:∀j,j<m→j≠i→∀d,aB ops j=some d→(a.put o.dst v).eval (.tmp d)=a.eval (.tmp d):=fun j hj hji d hd=>by
    cases hod:o.dst with
    | none=>rfl
    | some d'=>
     have:d'≠d:=fun e=>f4 j hj hji d' hod (by rw[hd,e])
     rw[cN this]
   refine pd hm hchk hchk2 hops hend c _ _ _ ?_ (by simpa using hsz) ?_ ?_ ?_
   ·have:=fX m (fun j => !listed.getD j true) (fun j => !(listed.setIfInBounds i true).getD j true) i him (by simp only[hu,Bool.not_false])
     (by
       have hjl:i<listed.size:=by omega
       simp[hjl]) (fun j hj=>by simp only[getD_set_ne true (Ne.symm hj)])
    omega
   ·intro j hj hj'
    rw[getD_set_ne true (by omega)]
    exact hun j hj hj'
   ·exact hld.set fun o' ho' e he hb=>by
     rw[ho] at ho'
     obtain rfl:=Option.some.inj ho'
     exact hall e he hb
   ·refine⟨Ext.tr hi.ext hx,by simp[hi.size],by simp[hi.defers],fun t A ht hn=>?_,fun j hj hl d hd=>?_,fun j hj hjf hl d hd b hb=>?_,fun j k hj hk hjk hjf hkf hlj hlk d d' hd hd' b hb hb'=>?_⟩
    ·have h0:=A.st _ _ _ hx (hi.hL t A ht hn)
     cases hod:o.dst with
     | none=>exact h0
     | some d=>
      have:d≠t:=fun e=>hn i him (by rw[hdst,hod,e])
      rw[cN this]
      exact h0
    ·by_cases hji:j=i
     ·subst hji
      rw[hdst] at hd
      rw[hd,dW (by rw[hi.size];exact f2 d hd)]
      exact hv
     ·have hl':listed.getD j false=true:=by rwa [getD_set_ne false (Ne.symm hji)] at hl
      have h0:=(As j).st _ _ _ hx (hi.hA j hj hl' d hd)
      cases hod:o.dst with
      | none=>exact h0
      | some d'=>
       have:d'≠d:=fun e=>f4 j hj hji d' hod (by rw[hd,e])
       rw[cN this]
       exact h0
    ·by_cases hji:j=i
     ·subst hji
      rw[hdst] at hd
      rw[hd,dW (by rw[hi.size];exact f2 d hd)] at hb
      exact (hfr hjf b hb).2
     ·have hl':listed.getD j false=true:=by rwa [getD_set_ne false (Ne.symm hji)] at hl
      rw[oth j hj hji d hd] at hb
      exact Nat.lt_of_lt_of_le (hi.hF j hj hjf hl' d hd b hb) hx.size
    ·by_cases hji:j=i
     ·subst hji
      have hki:k≠j:=Ne.symm hjk
      have hl':listed.getD k false=true:=by rwa [getD_set_ne false (Ne.symm hki)] at hlk
      rw[oth k hk hki d' hd'] at hb'
      rw[hdst] at hd
      rw[hd,dW (by rw[hi.size];exact f2 d hd)] at hb
      have h1:=(hfr hjf b hb).1
      have h2:=hi.hF k hk hkf hl' d' hd' b hb'
      omega
     ·have hlj':listed.getD j false=true:=by rwa [getD_set_ne false (Ne.symm hji)] at hlj
      rw[oth j hj hji d hd] at hb
      by_cases hki:k=i
      ·subst hki
       rw[hdst] at hd'
       rw[hd',dW (by rw[hi.size];exact f2 d' hd')] at hb'
       have h1:=(hfr hkf b hb').1
       have h2:=hi.hF j hj hjf hlj' d hd b hb
       omega
      ·have hlk':listed.getD k false=true:=by rwa [getD_set_ne false (Ne.symm hki)] at hlk
       rw[oth k hk hki d' hd'] at hb'
       exact hi.hD j k hj hk hjk hjf hkf hlj' hlk' d d' hd hd' b hb hb'
  unfold wpOpIn
  simp only[ho]
  split
  ·rename_i hw
   rw[if_pos hw] at hg
   exact (hg.wp fun v w' hv=>step v w' hv.1 hv.2.1 hv.2.2)
  ·rename_i hw
   rw[if_neg hw] at hg
   exact⟨fun _ _=>trivial,step undef w (Ext.rfl' _) hg fun _ b hb=>by cases hb⟩
theorem wh {id:Nat}{fr:List Bool}{M S:List Oper}{L:Env}{a:Act}{w:World}(hmix:P.follows .mixedOrders=true)(hchk:chk (M++S).toArray M.length n=true)(hf:FrD n ds a w L)
  (h:ey P (M++S).toArray w fr M (fun L'=>∀a' w',Ext w w'→FrD n ds a' w' L'→ku (M++S).toArray M.length (eN fr) a'→wpListIn (FW r) 0 P (M++S).toArray Q S a' w') L):(Code.region id (M++S).toArray true).wpIn (FW r) 0 P Q a w:=by
 simp only[chk,Bool.and_eq_true,List.all_eq_true,List.mem_range,Bool.or_eq_true] at hchk
 obtain⟨⟨hm,h1⟩,h2⟩:=hchk
 have hm:M.length≤(M++S).toArray.size:=by simp
 refine wpIn_region_any hmix ?_
 obtain⟨As,hAs,hK⟩:=pb M fr 0 L (fun j hj=>by rw[Nat.zero_add,List.getElem?_toArray,List.getElem?_append_left hj]) h
 have hext:Ext w { w with drawn:=w.drawn+1 }:=Ext.drew w
 have:=pd (P:=P) (fr:=eN fr) (ops:=(M++S).toArray) (Q:=Q) (w0:=w) (n:=n) (ds:=ds) (m:=M.length) (L:=L) (As:=As) hm h1 (fun i hi hi'=>by
   rcases h2 i hi' with h|h
   ·simp only[Nat.blt_eq] at h;omega
   ·exact h) (fun j o hj ho=>hAs j o hj (by simpa using ho)) (fun a w hx hf hd=>by simpa using hK a w hx hf hd) M.length
  (Array.replicate (M++S).toArray.size false) a { w with drawn:=w.drawn+1 } ?_ (by simp) ?_ ?_ ⟨hext,hf.size,hf.defers,fun t A ht _=>A.st _ _ _ hext (hf.val t A ht),fun i hi hl=>?_,fun i hi _ hl=>?_,fun i j _ _ _ _ _ hl=>?_⟩
 ·rwa [show M.length+((M++S).toArray.size - M.length)=(M++S).toArray.size by simp] at this
 ·have:(List.range M.length).countP (fun i => !(Array.replicate (M++S).toArray.size false).getD i true)=(List.range M.length).length:=by
   refine List.countP_eq_length.2 fun i hi=>?_
   have:=List.mem_range.1 hi
   have hlt:i<M.length+S.length:=by omega
   simp[hlt]
  simpa using this
 ·intro j _ hj
  have hlt:j<M.length+S.length:=by simpa using hj
  simp[hlt]
 ·intro i o hl
  have:(Array.replicate (M++S).toArray.size false).getD i false=false:=by
   by_cases hlt:i<M.length+S.length <;> simp[hlt]
  rw[this] at hl;cases hl
 ·have:(Array.replicate (M++S).toArray.size false).getD i false=false:=by
   by_cases hlt:i<M.length+S.length <;> simp[hlt]
  rw[this] at hl;cases hl
 ·have:(Array.replicate (M++S).toArray.size false).getD i false=false:=by
   by_cases hlt:i<M.length+S.length <;> simp[hlt]
  rw[this] at hl;cases hl
 ·have:(Array.replicate (M++S).toArray.size false).getD i false=false:=by
   by_cases hlt:i<M.length+S.length <;> simp[hlt]
  rw[this] at hl;cases hl
theorem wi {id:Nat}{ops:Array Oper}{L:Env}{a:Act}{w:World}(m:Nat)(fr:List Bool)(hmix:P.follows .mixedOrders=true)(hf:FrD n ds a w L)(hchk:chk ops m n=true)
  (h:ey P ops w fr (ops.toList.take m) (fun L'=>∀a' w',Ext w w'→FrD n ds a' w' L'→ku ops m (eN fr) a'→wpListIn (FW r) 0 P ops Q (ops.toList.drop m) a' w') L):(Code.region id ops true).wpIn (FW r) 0 P Q a w:=by
 have e:(ops.toList.take m++ops.toList.drop m).toArray=ops:=by simp
 have hl:(ops.toList.take m).length=m:=by
  simp only[chk,Bool.and_eq_true,Nat.ble_eq] at hchk
  simp
  omega
 have:=wh (P:=P) (fr:=fr) (Q:=Q) (n:=n) (ds:=ds) (id:=id) (M:=ops.toList.take m) (S:=ops.toList.drop m) (L:=L) (a:=a) (w:=w) hmix (by rw[e,hl];exact hchk) hf (by rw[e,hl];exact h)
 rwa [e] at this

end reg
section ops
variable {P:Program}{ops:Array Oper}{w0:World}{L:Env}{rest:List Oper}{K:Env→Prop}{op:Op}{dd:Nat}{ty:TypeId}{pos:String}{aft:Array Edge}{A:VA}{fr:List Bool}
theorem dm (h:OpC P w0 L ⟨some dd,op,ty,pos,aft,none⟩ A)(k:ey P ops w0 fr rest K ((dd,A)::L)):ey P ops w0 (false::fr) (⟨some dd,op,ty,pos,aft,none⟩::rest) K L:=
 ⟨A,fun a w he hv _=>by
  simp only[Region.wanted,if_true]
  exact OpR.mono (h.out _ w he hv) fun v w' hv=>⟨hv.1,hv.2,fun hf=>by cases hf⟩,k⟩
structure OpN (P:Program)(w0:World)(L:Env)(o:Oper)(A:VA):Prop where
 out:∀ρ w,Ext w0 w→(∀x∈o.op.operands,∀B,opd L x=some B→B.p (ρ x) w)→OpR P o ρ w (fun v w'=>Ext w w'∧A.p v w'∧∀b,v=.map (some b)→w.heap.size≤b∧b<w'.heap.size)
theorem dn (h:OpN P w0 L ⟨some dd,op,ty,pos,aft,none⟩ A)(k:ey P ops w0 fr rest K ((dd,A)::L)):ey P ops w0 (true::fr) (⟨some dd,op,ty,pos,aft,none⟩::rest) K L:=
 ⟨A,fun a w he hv _=>by
  simp only[Region.wanted,if_true]
  exact OpR.mono (h.out _ w he hv) fun v w' hv=>⟨hv.1,hv.2.1,fun _=>hv.2.2⟩,k⟩
theorem de (h:K L):ey P ops w0 [] [] K L:=h
theorem pg {dst:Option Tmp}{g:Option (Nat×Bool)}{f:FuncId}{x:Operand}{tys:Array TypeId}{B:VA}(hf:Proofs.Enters P f)(hx:opd L x=some B)
  (h:∀v w,Ext w0 w→B.p v w→Calls P f #[v] w fun en w'=>∃u,en=.returned u∧Ext w w'∧A.p u w'∧∀b,u=.map (some b)→w.heap.size≤b∧b<w'.heap.size) :
  OpN P w0 L ⟨dst,.call ⟨.value (.func f),#[x],tys⟩,ty,pos,aft,g⟩ A:=by
 refine⟨fun ρ w he hv=>?_⟩
 have hfv:ρ (.func f)=.func (.func f) #[] #[]:=hv (.func f) (by simp[Op.operands,Call.operands]) _ rfl
 have hrun:(execOp ρ ⟨dst,.call ⟨.value (.func f),#[x],tys⟩,ty,pos,aft,g⟩).run P w=.ok (.enter f #[ρ x]) w:=by
  simp[execOp,resolve,hfv,Deferred.ofValue,invoke,hf #[ρ x] w]
 simp only[OpR,hrun]
 exact h (ρ x) w he (hv x (by simp[Op.operands,Call.operands]) _ hx)
def MpN {α β:Type}[DecidableEq α](V:KV P α β)(N n:Nat)(l:List (α×β)):VA:=⟨fun v w=>∃b,N≤b∧v=.map (some b)∧MpR V w b n l,fun v w w' e ⟨b,h1,h2,h3⟩=>⟨b,h1,h2,h3.ext e⟩⟩
end ops
end Go.Mono
namespace Go.Proofs
open Go.Shelf
def Tryz.cloneV_ren:Go.Shelf.Ren:=⟨fun|5=>72|7=>100|n=>n,fun|23=>123|25=>3|3=>126|4=>4|20=>20|n=>n,fun|n=>n⟩
theorem Tryz.cloneV:Go.Proofs.SlLaysW.n5 Tryz.prog Tryz.cloneV_ren:={
 mixed:=by kernel_rfl
 f5:=⟨Tryz.f72.name,by decide,Tryz.func72.trans (congrArg some (by kernel_rfl))⟩
 f7:=Tryz.func100.trans (congrArg some (by kernel_rfl))
 t4:=Tryz.underlying4
 a4:=Tryz.isAgg4
 z4:=Tryz.sizeOf4
 v4:=Tryz.zeroValue4
 t20:=Tryz.underlying20
 a20:=Tryz.isAgg20
 z20:=Tryz.sizeOf20
 v20:=Tryz.zeroValue20
 t23:=Tryz.underlying123
 a23:=Tryz.isAgg123
 z23:=Tryz.sizeOf123
 v23:=Tryz.zeroValue123 }
def Tryz.cloneE_ren:Go.Shelf.Ren:=⟨fun|5=>73|7=>100|n=>n,fun|23=>127|25=>132|3=>126|4=>4|20=>20|n=>n,fun|n=>n⟩
theorem Tryz.cloneE:Go.Proofs.SlLaysW.n5 Tryz.prog Tryz.cloneE_ren:={
 mixed:=by kernel_rfl
 f5:=⟨Tryz.f73.name,by decide,Tryz.func73.trans (congrArg some (by kernel_rfl))⟩
 f7:=Tryz.func100.trans (congrArg some (by kernel_rfl))
 t4:=Tryz.underlying4
 a4:=Tryz.isAgg4
 z4:=Tryz.sizeOf4
 v4:=Tryz.zeroValue4
 t20:=Tryz.underlying20
 a20:=Tryz.isAgg20
 z20:=Tryz.sizeOf20
 v20:=Tryz.zeroValue20
 t23:=Tryz.underlying127
 a23:=Tryz.isAgg127
 z23:=Tryz.sizeOf127
 v23:=Tryz.zeroValue127 }
end Go.Proofs
namespace Go.Mono
open Go Go.Proofs Go.RowKit Go.Gr
theorem wj (b n:Nat)(l:List VT)(W:World)(h:MpR vKV W b n l):Calls Tryz.prog 72 #[.map (some b)] W fun en w'=>∃u,en=.returned u∧Ext W w'∧(MpN vKV W.heap.size n l).p u w'∧∀b',u=.map (some b')→W.heap.size≤b'∧b'<w'.heap.size:=by
 obtain⟨es,h1,h2,h3,h4⟩:=h
 exact (AnyW.maps_Clone_owns Tryz.cloneV vKV.k vKV.R b n (.map es) W h1).mono fun en w' ⟨k1,k2,k3,k4⟩=>⟨_,k1,k4,⟨_,Nat.le_refl _,rfl,es,k2,h2,h3,h4⟩,fun b' hb=>by cases hb;exact⟨Nat.le_refl _,k2.lt⟩⟩
theorem wk (b n:Nat)(l:List ET)(W:World)(h:MpR eKV W b n l):Calls Tryz.prog 73 #[.map (some b)] W fun en w'=>∃u,en=.returned u∧Ext W w'∧(MpN eKV W.heap.size n l).p u w'∧∀b',u=.map (some b')→W.heap.size≤b'∧b'<w'.heap.size:=by
 obtain⟨es,h1,h2,h3,h4⟩:=h
 exact (AnyW.maps_Clone_owns Tryz.cloneE eKV.k eKV.R b n (.map es) W h1).mono fun en w' ⟨k1,k2,k3,k4⟩=>⟨_,k1,k4,⟨_,Nat.le_refl _,rfl,es,k2,h2,h3,h4⟩,fun b' hb=>by cases hb;exact⟨Nat.le_refl _,k2.lt⟩⟩
theorem wl {G:Nat→Prop}{N:Nat}(g:GT)(v:Value)(W:World)(h:(Dv (ptE (grE N)) G (some g)).p v W) :
  Calls Tryz.prog 32 #[v] W fun en w'=>∃bg bv be,en=.returned (.pointer (some ⟨bg,0,none⟩))∧Ext W w'∧W.heap.size≤bg∧W.heap.size≤bv∧W.heap.size≤be∧GrR w' bg bv be N g:=by
 have hv:(Dv (ptE (grE N)) G0 (some g)).p v W:=Dv.weak h fun b _ hb=>hb.elim
 clear h
 refine enter (args:=[v]) (As:=[E v]) Tryz.func32 rfl Tryz.ntmps32 (Nat.le_of_ble_eq_true rfl) ?_ (fun a hf=>?_) (Nat.le_of_ble_eq_true rfl)
 rotate_left
 dsimp only[params,Nat.reduceAdd] at hf
 rotate_right
 ·exact arg1 rfl
 have e:=Ext.rfl' W
 refine seq ?_
 refine ah ?_
 refine ae hf rfl (by decide) fun a hf=>?_
 refine aa ?_
 repeat refine seq ?_
 refine ac 2 hf (by decide +kernel) ?_
 refine st (mv rfl) ?_
 refine st (dl U38 (isE rfl (VA.st _ _ _ _ e hv))) ?_
 refine en fun a w e' hf=>?_
 replace e:=e.tr e'
 refine aa ?_
 refine ifc hf rfl (fun h=>by cases h) (fun _=>?_)
 refine ak ?_
 simp only[Exit.then,Exit.inBlock,↓reduceIte]
 replace hf:=hf.kp [0]
 refine seq ?_
 refine wi 10 [false,false,false,false,true,false,false,false,false,true] Mix.mix hf (by decide +kernel) ?_
 refine dm (mv rfl) ?_
 refine dm (ct (isE rfl (VA.st _ _ _ _ e hv))) ?_
 refine dm (am bP rfl bO (by decide) (Fld.fst Fld.refl) (isR rfl)) ?_
 refine dm (ldD bO (isR rfl)) ?_
 refine dn (pg (A:=MpN vKV W.heap.size N g.1) rr rfl (fun v w he ⟨cs,⟨bm,nm,hcs,_,hNm,HM⟩,hv⟩=>by subst hcs;cases hv;exact (wj bm nm g.1 w HM).mono fun en w' ⟨u,k1,k2,⟨b,q1,q2,q3⟩,k4⟩=>⟨u,k1,k2,⟨b,Nat.le_trans (Ext.tr e he).size q1,q2,q3.mono hNm⟩,k4⟩)) ?_
 refine dm (mv rfl) ?_
 refine dm (ct (isE rfl (VA.st _ _ _ _ e hv))) ?_
 refine dm (am bP rfl bG (by decide) (Fld.snd Fld.refl rfl) (isR rfl)) ?_
 refine dm (ldD bG (isR rfl)) ?_
 refine dn (pg (A:=MpN eKV W.heap.size N g.2) rs rfl (fun v w he ⟨cs,⟨bm,nm,hcs,_,hNm,HM⟩,hv⟩=>by subst hcs;cases hv;exact (wk bm nm g.2 w HM).mono fun en w' ⟨u,k1,k2,⟨b,q1,q2,q3⟩,k4⟩=>⟨u,k1,k2,⟨b,Nat.le_trans (Ext.tr e he).size q1,q2,q3.mono hNm⟩,k4⟩)) ?_
 refine de ?_
 refine fun a w e' hf hDis=>?_
 try dsimp only[push] at hf
 replace e:=e.tr e'
 clear e'
 obtain⟨v1,⟨bv,hbv,rfl,MV⟩,hf⟩:=hf.fix 9 rfl
 obtain⟨v2,⟨be,hbe,rfl,ME⟩,hf⟩:=hf.fix 14 rfl
 have hne:bv≠be:=by
  have h9:a.eval (.tmp 9)=.map (some bv):=hf.val 9 _ rfl
  have h14:a.eval (.tmp 14)=.map (some be):=hf.val 14 _ rfl
  intro hh
  exact hDis 4 9 (by decide) (by decide) (by decide) rfl rfl 9 14 rfl rfl bv h9 (by rw[h14,hh])
 clear hDis
 replace hf:=hf.kp [9,14]
 refine ar hf (by decide) (bh [(0,_),(1,_)] rfl (bGr (some bv) (some be))) fun a w e' hf=>?_
 replace e:=e.tr e';replace MV:=MV.ext e';replace ME:=ME.ext e';clear e'
 refine aH hf rfl (by decide) fun a bg w u hu e' hbg hsg BG hf=>?_
 cases hu
 have hle:=Nat.le_trans e.size (Nat.le_of_eq hbg.symm)
 replace e:=e.tr e';replace MV:=MV.ext e';replace ME:=ME.ext e';clear e'
 refine ae hf rfl (by decide) fun a hf=>?_
 refine aa ?_
 refine aj ?_
 refine al rfl hf rfl ?_
 rintro _ rfl
 exact⟨bg,bv,be,rfl,e,hle,hbv,hbe,BG,MV,ME,hne⟩
end Go.Mono
namespace Go.Mono
open Go Go.Proofs Go.RowKit
def cc (t:List (Int×BS))(k:Nat)(p:Nat):List Int:=aO (fun i=>decide ((bg t i).1=(p:Int))) k
def bT (t:List (Int×BS))(k:Nat):List (List Int):=(List.range t.length).map (cc t k)
def dP (t:List (Int×BS)):List (List Int):=bT t t.length
theorem gI (t:List (Int×BS))(k:Nat):(bT t k).length=t.length:=by simp[bT]
theorem iA {t:List (Int×BS)}{k p:Nat}(h:p<t.length):(bT t k)[p]?=some (cc t k p):=by simp[bT,h]
theorem pi (t:List (Int×BS)):bT t 0=List.replicate t.length []:=by
 refine List.ext_getElem (by simp[bT]) fun i h1 h2=>?_
 simp[bT,cc,aO]
theorem pj {t:List (Int×BS)}{k:Nat}(h:(bg t k).1 = -1):bT t (k+1)=bT t k:=by
 unfold bT
 refine List.map_congr_left fun p _=>?_
 rw[cc,cz,if_neg (by rw[h];simp)]
 rfl
theorem pk {t:List (Int×BS)}{k p:Nat}(h:(bg t k).1=(p:Int))(hp:p<t.length):bT t (k+1)=(bT t k).set p (cc t k p++[(k:Int)]):=by
 refine List.ext_getElem (by simp[bT]) fun i h1 h2=>?_
 rw[List.getElem_set]
 by_cases hi:p=i
 ·subst hi
  simp[bT,cc,cz,h]
 ·have:¬(p:Int)=(i:Int):=by omega
  simp[bT,cc,cz,h,this,hi]
def Rng (t:List (Int×BS)):Prop:=∀i,i<t.length → -1≤(bg t i).1∧(bg t i).1<t.length

theorem wm {G:Nat→Prop}(t:List (Int×BS))(v:Value)(W:World)(h:(Dv aL G t).p v W)(hG:∀b,G b→b<W.heap.size)(hl:t.length≤4096)(hr:Rng t) :
  Calls Tryz.prog 90 #[v] W (Post (Dv (slE (slE ap)) G (dP t)) W):=by
 refine enter (args:=[v]) (As:=[Dv aL (GB W G) t]) Tryz.func90 rfl Tryz.ntmps90 (Nat.le_of_ble_eq_true rfl) ?_ (fun a hf=>?_) (Nat.le_of_ble_eq_true rfl)
 rotate_left
 dsimp only[params,Nat.reduceAdd] at hf
 rotate_right
 ·exact arg1 (Dv.toB h)
 have e:=Ext.rfl' W
 refine seq ?_
 refine ah ?_
 refine ae hf rfl (by decide) fun a hf=>?_
 refine aa ?_
 refine seq ?_
 refine ac 2 hf (by decide +kernel) ?_
 refine st (mv rfl) ?_
 refine st (ay U23 (isR rfl)) ?_
 refine en fun a w e' hf=>?_
 replace e:=e.tr e'
 clear e'
 refine jv U97 I63 rfl hf (by decide) rfl (by omega) (by decide) fun a b8 w e' hb8 hs8 B8 hf=>?_
 have hle8:=Nat.le_trans e.size (Nat.le_of_eq hb8.symm)
 replace e:=e.tr e'
 refine ae hf rfl (by decide) fun a hf=>?_
 refine aa ?_
 have HR:Rows 3 W.heap.size G w b8 (bT t 0) (List.replicate t.length (.slice none 0 0)):=by rw[pi];exact Rows.nil e.size hG
 have hlen:(List.replicate t.length (Value.slice none 0 0)).length=t.length:=by simp
 repeat refine seq ?_
 refine ac 3 hf (by decide +kernel) ?_
 refine st (mv rfl) ?_
 refine st (ay U23 (isR rfl)) ?_
 refine st (mv rfl) ?_
 refine en fun a w e' hf=>?_
 replace e:=e.tr e'
 replace B8:=B8.ext e'
 replace HR:=HR.ext e'
 refine aa ?_
 replace hf:=hf.kp [3,9,10,11]
 refine blk (aG (fun r0 a w=>∃(k:Nat) (vs:List Value),r0=t.length - k∧k≤t.length∧Fr 33 a w [(3,E (.slice (some ⟨b8,0,none⟩) t.length t.length)),(9,Dv aL (GB W G) t),(10,E (I (t.length:Nat))),(11,E (I k))]∧Ext W w∧Blk w b8 vs.toArray 63∧vs.length=t.length∧Rows 3 W.heap.size G w b8 (bT t k) vs) t.length ⟨0,_,rfl,by omega,hf,e,B8,hlen,HR⟩ ?_)
 clear hf e;try clear B8;try clear hlen;try clear HR
 rintro r0 a w ⟨k,vs,rfl,hk,hf,e,B8,hlen,HR⟩
 refine seq ?_
 refine ac 1 hf (by decide +kernel) ?_
 refine st (lss rfl rfl) ?_
 refine en fun a w e' hf=>?_
 replace e:=e.tr e'
 replace B8:=B8.ext e'
 replace HR:=HR.ext e'
 refine aa ?_
 refine seq ?_
 refine ifc hf rfl (fun hc=>ak ?_) (fun hc=>aF ?_)
 rotate_left
 rotate_left
 ·have hlt:k<t.length:=by have:=of_decide_eq_true hc;(try dsimp only at this);omega
  clear hc
  replace hf:=hf.kp [3,9,10,11]
  refine seq ?_
  refine blk ?_
  have hx:=cX hlt
  have hrk:=hr k hlt
  refine seq ?_
  refine ah ?_
  refine ar hf (by decide) (mv rfl) fun a w e' hf=>?_
  replace e:=e.tr e'
  replace B8:=B8.ext e'
  replace HR:=HR.ext e'
  clear e'
  refine ar hf (by decide) (az U23 S59 (isR rfl) rfl (by omega) (hx)) fun a w e' hf=>?_
  replace e:=e.tr e'
  replace B8:=B8.ext e'
  replace HR:=HR.ext e'
  clear e'
  refine ar hf (by decide) (fJ T59 (isR rfl)) fun a w e' hf=>?_
  replace e:=e.tr e'
  replace B8:=B8.ext e'
  replace HR:=HR.ext e'
  clear e'
  refine aJ I59 hf (by decide) fun a b5 w e' hb5 hs5 B5 hf=>?_
  have hle5:=Nat.le_trans e.size (Nat.le_of_eq hb5.symm)
  have ne5_HR:=HR.ne_new hb5
  have lt5_B8:=B8.lt
  replace e:=e.tr e'
  replace B8:=B8.ext e'
  replace HR:=HR.ext e'
  refine ae hf rfl (by decide) fun a hf=>?_
  haveI hinr:∀G0,InR (GB W G0) (some b5):=fun G0=>InR.gb (by omega)
  refine aD T59 hf rfl rfl (gq _) B5 rfl (eY _) fun w hg hsz B5 hf=>?_
  replace e:=e.gr hg (by omega)
  replace B8:=B8.gr hg (by omega)
  replace HR:=HR.gr hg (by assumption)
  clear hg
  refine aa ?_
  refine seq ?_
  refine ac 3 hf (by decide +kernel) ?_
  refine st (ai U59 rfl T3 (by decide) rfl) ?_
  refine st (ld1 T3 rfl B5 (cK _)) ?_
  refine st (neq rfl rfl) ?_
  refine en fun a w e' hf=>?_
  replace e:=e.tr e'
  replace B8:=B8.ext e'
  replace HR:=HR.ext e'
  replace B5:=B5.ext e'
  refine aa ?_
  refine ifc hf rfl (fun hb=>?_) (fun hb=>?_)
  ·have hne:(bg t k).1 ≠ -1:=by simpa using hb
   obtain⟨p,hp⟩:∃p:Nat,(bg t k).1=(p:Int):=⟨(bg t k).1.toNat,by omega⟩
   have hpl:p<t.length:=by omega
   have hvp:vs[p]?=some (vs[p]'(by omega)):=by simp
   obtain⟨u,hu⟩:∃u,u=vs[p]'(by omega):=⟨_,rfl⟩
   rw[← hu] at hvp
   obtain⟨Ho,hob⟩:=HR.at' p u _ hvp (iA hpl)
   have n5:u.ownBlock≠some b5:=ne5_HR p u hvp
   have hsel:=ek (fun i=>decide ((bg t i).1=(p:Int))) k
   haveI hin:∀G0,InR (GB W G0) u.ownBlock:=OwR.inGB Ho (Nat.le_refl _)
   replace hf:=hf.kp [3,4,5,9,10,11]
   have h8:=B8.lt
   refine hU 12 10 u.ownBlock (by decide) Mix.mix hf (by decide +kernel) ?_
   refine xm (fun w1 h1=>mv rfl) ?_
   refine xm (fun w1 h1=>ai U59 rfl T3 (by decide) rfl) ?_
   refine xm (fun w1 h1=>(ld1 T3 rfl (B5.gro h1 n5) (cK _)).eq (congrArg (Value.int .i64) hp)) ?_
   refine xm (fun w1 h1=>mv rfl) ?_
   refine xm (fun w1 h1=>ai U59 rfl T3 (by decide) rfl) ?_
   refine xm (fun w1 h1=>(ld1 T3 rfl (B5.gro h1 n5) (cK _)).eq (congrArg (Value.int .i64) hp)) ?_
   refine xm (fun w1 h1=>idxS U97 S63 rfl rfl (by omega)) ?_
   refine xm (fun w1 h1=>ld1 T63 rfl (B8.gro h1 hob) (mA hvp)) ?_
   refine xm (fun w1 h1=>mv rfl) ?_
   refine xm (fun w1 h1=>br U63 I3 rfl (by decide) rfl (fun b hb=>Nat.lt_of_lt_of_le (Ho.avs b hb) h1.size) (isI rfl)) ?_
   refine xx (hY U63 I3 rfl rfl rfl Ho rfl (by simp only[List.length_singleton,cc];omega) (by simp only[List.length_singleton,cc,maxLen];omega)) ?_
   refine xn (fun w1 h1=>idxS U97 S63 rfl rfl (by omega)) ?_
   refine xe fun a w hg hf=>?_
   obtain⟨v',⟨Hn,hat⟩,hf⟩:=hf.fix 29 rfl
   replace e:=e.gro hg (Ho.row (Nat.le_refl _))
   replace HR:=HR.upd hvp hg Hn hat h8
   replace B8:=B8.gro hg hob
   have hone:=Hn.one
   have hbo:=HR.ne_bo
   clear Ho Hn hg hat B5
   rw[← pk hp hpl] at HR
   replace hf:=hf.kp [3,9,10,11,29,30]
   haveI hinr:∀G0,InR (GB W G0) (some b8):=fun G0=>InR.gb (by omega)
   refine aP T63 hf rfl rfl hone B8 (by simp;omega) fun w hg hsz B8 hf=>?_
   replace e:=e.gr hg (by omega)
   replace HR:=HR.gr hg hbo
   rw[mz] at B8
   refine aa ?_
   simp only[Exit.then,Exit.inBlock,↓reduceIte]
   refine ac 1 hf (by decide +kernel) ?_
   refine st ((add rfl rfl (by omega)).eq (congrArg (Value.int .i64) (show (k:Int)+1=((k+1:Nat):Int) from rfl))) ?_
   refine en fun a w e' hf=>?_
   replace e:=e.tr e'
   replace B8:=B8.ext e'
   replace HR:=HR.ext e'
   clear e'
   refine ar hf (by decide) (mv rfl) fun a w e' hf=>?_
   replace e:=e.tr e'
   replace B8:=B8.ext e'
   replace HR:=HR.ext e'
   refine aa ?_
   replace hf:=hf.kp [3,9,10,11]
   refine⟨_,?_,k+1,vs.set p v',rfl,by omega,hf,e,?_⟩
   ·omega
   exact⟨B8,by simpa using hlen,HR⟩
  ·have hne:(bg t k).1 = -1:=by simpa using hb
   refine ak ?_
   simp only[Exit.then,Exit.inBlock,↓reduceIte]
   refine ac 1 hf (by decide +kernel) ?_
   refine st ((add rfl rfl (by omega)).eq (congrArg (Value.int .i64) (show (k:Int)+1=((k+1:Nat):Int) from rfl))) ?_
   refine en fun a w e' hf=>?_
   replace e:=e.tr e'
   replace B5:=B5.ext e'
   replace B8:=B8.ext e'
   replace HR:=HR.ext e'
   clear e'
   refine ar hf (by decide) (mv rfl) fun a w e' hf=>?_
   replace e:=e.tr e'
   replace B5:=B5.ext e'
   replace B8:=B8.ext e'
   replace HR:=HR.ext e'
   refine aa ?_
   replace hf:=hf.kp [3,9,10,11]
   refine⟨_,?_,k+1,vs,rfl,by omega,hf,e,?_⟩
   ·omega
   exact⟨B8,hlen,by rw[pj hne];exact HR⟩
 ·obtain rfl:k=t.length:=by have:=of_decide_eq_false hc;(try dsimp only at this);omega
  clear hc
  simp only[Exit.then,Exit.inBlock,↓reduceIte]
  refine seq ?_
  refine ac 1 hf (by decide +kernel) ?_
  refine st (mv rfl) ?_
  refine en fun a w e' hf=>?_
  replace e:=e.tr e'
  replace B8:=B8.ext e'
  replace HR:=HR.ext e'
  refine ae hf rfl (by decide) fun a hf=>?_
  refine aa ?_
  have hd:=HR.dv B8 (fun hg=>by have:=hG _ hg;omega) (Nat.le_of_eq (gI t _))
  rw[gI] at hd
  refine aj ?_
  refine al rfl hf rfl ?_
  rintro _ rfl
  exact⟨_,rfl,e,hd⟩
def kN (t:List (Int×BS))(p:Nat):List Nat:=(List.range t.length).filter fun i=>decide ((bg t i).1=(p:Int))
theorem pm (t:List (Int×BS))(p:Nat):cc t t.length p=(kN t p).map fun i:Nat=>(i:Int):=rfl
def dnF (ks:Nat→List Nat):Nat→Nat→Int→List Int×Int→List Int×Int
 | 0,b,deep,s=>(s.1.set b deep,s.2+1)
 | f+1,b,deep,s=>(ks b).foldl (fun s k=>dnF ks f k (deep+1) s) (s.1.set b deep,s.2+1)
def hgt (ks:Nat→List Nat):Nat→Nat→Prop
 | 0,b=>ks b=[]
 | f+1,b=>∀k∈ks b,hgt ks f k
theorem pn (ks:Nat→List Nat):∀f b deep s,(dnF ks f b deep s).1.length=s.1.length
 | 0,b,deep,s=>by simp[dnF]
 | f+1,b,deep,s=>by
  rw[dnF]
  have:∀(l:List Nat) s,(l.foldl (fun s k=>dnF ks f k (deep+1) s) s).1.length=s.1.length:=by
   intro l
   induction l with
   | nil=>intro s;rfl
   | cons k l ih=>intro s;rw[List.foldl_cons,ih,pn ks f]
  rw[this];simp
theorem kw (ks:Nat→List Nat):∀f b deep s,s.2+1≤(dnF ks f b deep s).2
 | 0,b,deep,s=>by simp[dnF]
 | f+1,b,deep,s=>by
  rw[dnF]
  have:∀(l:List Nat) s,s.2≤(l.foldl (fun s k=>dnF ks f k (deep+1) s) s).2:=by
   intro l
   induction l with
   | nil=>intro s;exact Int.le_refl _
   | cons k l ih=>
    intro s
    rw[List.foldl_cons]
    have:=ih (dnF ks f k (deep+1) s)
    have:=kw ks f k (deep+1) s
    omega
  exact this _ _
theorem gJ (ks:Nat→List Nat)(f:Nat)(deep:Int):∀(l:List Nat) s,s.2≤(l.foldl (fun s k=>dnF ks f k deep s) s).2
 | [],s=>Int.le_refl _
 | k::l,s=>by
  rw[List.foldl_cons]
  have:=gJ ks f deep l (dnF ks f k deep s)
  have:=kw ks f k deep s
  omega
theorem iB (ks:Nat→List Nat)(f:Nat)(deep:Int):∀(l:List Nat) s,(l.foldl (fun s k=>dnF ks f k deep s) s).1.length=s.1.length
 | [],s=>rfl
 | k::l,s=>by rw[List.foldl_cons,iB ks f deep l,pn]

theorem wn {ks:Nat→List Nat}{f b:Nat}{deep:Int}{s:List Int×Int}(h:hgt ks f b):dnF ks f b deep s=(ks b).foldl (fun s k=>dnF ks (f - 1) k (deep+1) s) (s.1.set b deep,s.2+1):=by
 cases f with
 | zero=>rw[show ks b=[] from h];rfl
 | succ f=>rfl
theorem wo {ks:Nat→List Nat}{f b k:Nat}(h:hgt ks f b)(hk:k∈ks b):0<f∧hgt ks (f - 1) k:=by
 cases f with
 | zero=>rw[show ks b=[] from h] at hk;cases hk
 | succ f=>exact⟨Nat.succ_pos _,h k hk⟩
theorem ky {t:List (Int×BS)}{b k:Nat}:k∈kN t b↔k<t.length∧(bg t k).1=(b:Int):=by simp[kN]

def SD (ba bf:Nat)(b:Nat):Prop:=b=ba∨b=bf
structure DC (t:List (Int×BS))(G:Nat→Prop)(ba bf bo bk bd:Nat)(kv:Value)(w:World):Prop where
 o:Blk w bo #[.slice (some ⟨ba,0,none⟩) t.length t.length] 63
 k:Blk w bk #[kv] 97
 d:Blk w bd #[.func (.func 126) #[] #[.pointer (some ⟨bo,0,none⟩),.pointer (some ⟨bf,0,none⟩),.pointer (some ⟨bk,0,none⟩),.pointer (some ⟨bd,0,none⟩)]] 159
 kd:(Dv (slE (slE ap)) G (dP t)).p kv w
 g:∀b,SD ba bf b→G b
 ne:ba≠bf∧¬SD ba bf bo∧¬SD ba bf bk∧¬SD ba bf bd
theorem DC.ch {t:List (Int×BS)}{G:Nat→Prop}{ba bf bo bk bd:Nat}{kv:Value}{w w':World}(h:DC t G ba bf bo bk bd kv w)(c:Chg (SD ba bf) w w'):DC t G ba bf bo bk bd kv w':=
 ⟨h.o.ch c h.ne.2.1,h.k.ch c h.ne.2.2.1,h.d.ch c h.ne.2.2.2,Dv.ch h.kd c h.g,h.g,h.ne⟩

theorem wq (t:List (Int×BS))(G:Nat→Prop)(ba bf bo bk bd:Nat)(kv:Value)(hl:t.length≤4096):∀(f b:Nat) (deep:Int) (s:List Int×Int) (W:World),DC t G ba bf bo bk bd kv W→Blk W ba (cr s.1) 3→Blk W bf #[I s.2] 3 →
  hgt (kN t) f b→b<t.length→s.1.length=t.length→0≤s.2→(dnF (kN t) f b deep s).2≤100000→0≤deep→deep+f≤100000 →
  Calls Tryz.prog 126 #[I (b:Nat),I deep,.pointer (some ⟨bo,0,none⟩),.pointer (some ⟨bf,0,none⟩),.pointer (some ⟨bk,0,none⟩),.pointer (some ⟨bd,0,none⟩)] W
   (fun e w'=>∃v,e=.returned v∧Chg (SD ba bf) W w'∧Any.p v w'∧Blk w' ba (cr (dnF (kN t) f b deep s).1) 3∧Blk w' bf #[I (dnF (kN t) f b deep s).2] 3):=by
 intro f
 induction f using Nat.strongRecOn with
 | _ f ih=>
  intro b deep s W D BA BF hh hb hs h0 hle hd0 hdl
  have heq:=wn (deep:=deep) (s:=s) hh
  refine enter (args:=[I (b:Nat),I deep,.pointer (some ⟨bo,0,none⟩),.pointer (some ⟨bf,0,none⟩),.pointer (some ⟨bk,0,none⟩),.pointer (some ⟨bd,0,none⟩)]) (As:=[E (I (b:Nat)),E (I deep),E (.pointer (some ⟨bo,0,none⟩)),E (.pointer (some ⟨bf,0,none⟩)),E (.pointer (some ⟨bk,0,none⟩)),E (.pointer (some ⟨bd,0,none⟩))]) Tryz.func126 rfl Tryz.ntmps126 (Nat.le_of_ble_eq_true rfl) ?_ (fun a hf=>?_) (Nat.le_of_ble_eq_true rfl)
  rotate_left
  dsimp only[params,Nat.reduceAdd] at hf
  rotate_right
  ·exact dG rfl (dG rfl (dG rfl (dG rfl (dG rfl (dG rfl jr)))))
  have c:=Chg.rfl' (SD ba bf) W
  have hne:=D.ne.1
  refine seq ?_
  refine ac 4 hf (by decide +kernel) ?_
  refine st (ld1 T63 rfl D.o rfl) ?_
  refine st (mv rfl) ?_
  refine st (mv rfl) ?_
  refine st (idxS U63 S3 rfl rfl (by omega)) ?_
  refine en fun a w e' hf=>?_
  replace D:=D.ch (e'.chg _)
  replace c:=c.ext e'
  replace BA:=BA.ext e'
  replace BF:=BF.ext e'
  clear e'
  refine aP T3 hf rfl rfl rfl BA (by simp[tb];omega) fun w hg hsz BA hf=>?_
  replace D:=D.ch ((Chg.rfl' _ _).gr hg (.inl (by first|exact .inl rfl|exact .inr rfl)))
  replace c:=c.gr hg (.inl (by first|exact .inl rfl|exact .inr rfl))
  replace BF:=BF.gr hg (by omega)
  clear hg
  refine aa ?_
  rw[show 0+((b:Nat):Int).toNat * 1=b by omega,ta] at BA
  replace hf:=hf.kp [0,1,2,3,4,5]
  have hsz:=kw (kN t) f b deep s
  refine seq ?_
  refine ac 2 hf (by decide +kernel) ?_
  refine st (ld1 T3 rfl BF rfl) ?_
  refine st (add rfl rfl (by omega)) ?_
  refine en fun a w e' hf=>?_
  replace D:=D.ch (e'.chg _)
  replace c:=c.ext e'
  replace BA:=BA.ext e'
  replace BF:=BF.ext e'
  clear e'
  refine aP T3 hf rfl rfl rfl BF (by simp) fun w hg hsz BF hf=>?_
  replace D:=D.ch ((Chg.rfl' _ _).gr hg (.inl (by first|exact .inl rfl|exact .inr rfl)))
  replace c:=c.gr hg (.inl (by first|exact .inl rfl|exact .inr rfl))
  replace BA:=BA.gr hg (by omega)
  clear hg
  refine aa ?_
  rw[show (#[I s.2]:Array Value).setIfInBounds 0 (I (s.2+1)) = #[I (s.2+1)] from rfl] at BF
  replace hf:=hf.kp [0,1,2,3,4,5]
  have hkb:(dP t)[b]?=some (cc t t.length b):=iA hb
  refine seq ?_
  refine ac 6 hf (by decide +kernel) ?_
  refine st (ld1 T97 rfl D.k rfl) ?_
  refine st (mv rfl) ?_
  refine st (az U97 S63 (isE rfl D.kd) rfl (by omega) (hkb)) ?_
  refine st (ldD T63 (isR rfl)) ?_
  refine st (ay U63 (isR rfl)) ?_
  refine st (mv rfl) ?_
  refine en fun a w e' hf=>?_
  replace D:=D.ch (e'.chg _)
  replace c:=c.ext e'
  replace BA:=BA.ext e'
  replace BF:=BF.ext e'
  refine aa ?_
  obtain⟨s1,hs1⟩:∃s1:List Int×Int,s1=(s.1.set b deep,s.2+1):=⟨_,rfl⟩
  have hs1l:s1.1.length=t.length:=by rw[hs1];simpa using hs
  have e1:s.1.set b deep=s1.1:=by rw[hs1]
  have e2:s.2+1=s1.2:=by rw[hs1]
  rw[e1] at BA
  rw[e2] at BF
  have h01:0≤s1.2:=by omega
  rw[← hs1] at heq
  have hkl:(cc t t.length b).length=(kN t b).length:=by rw[pm,List.length_map]
  have hkl2:(kN t b).length≤t.length:=by have:=List.length_filter_le (fun i=>decide ((bg t i).1=(b:Int))) (List.range t.length);simpa[kN] using this
  clear e1 e2
  rw[hkl] at hf
  replace hf:=hf.kp [0,1,2,3,4,5,19,20,21]
  haveI hin:InS G (SD ba bf):=⟨D.g⟩
  refine blk (aG (fun r0 a w=>∃(k:Nat),r0=(kN t b).length - k∧k≤(kN t b).length∧Fr 31 a w [(0,E (I (b:Nat))),(1,E (I deep)),(2,E (.pointer (some ⟨bo,0,none⟩))),(3,E (.pointer (some ⟨bf,0,none⟩))),(4,E (.pointer (some ⟨bk,0,none⟩))),(5,E (.pointer (some ⟨bd,0,none⟩))),(19,Dv (slE ap) G (cc t t.length b)),(20,E (I ((kN t b).length:Nat))),(21,E (I k))] ∧
   Chg (SD ba bf) W w∧DC t G ba bf bo bk bd kv w∧Blk w ba (cr (((kN t b).take k).foldl (fun s k=>dnF (kN t) (f - 1) k (deep+1) s) s1).1) 3∧Blk w bf #[I (((kN t b).take k).foldl (fun s k=>dnF (kN t) (f - 1) k (deep+1) s) s1).2] 3) (kN t b).length ⟨0,rfl,by omega,hf,c,D,BA,BF⟩ ?_)
  clear hf c D BA BF
  rintro r0 a w ⟨k,rfl,hk,hf,c,D,BA,BF⟩
  refine seq ?_
  refine ac 1 hf (by decide +kernel) ?_
  refine st (lss rfl rfl) ?_
  refine en fun a w e' hf=>?_
  replace D:=D.ch (e'.chg _)
  replace c:=c.ext e'
  replace BA:=BA.ext e'
  replace BF:=BF.ext e'
  refine aa ?_
  refine seq ?_
  refine ifc hf rfl (fun hc=>ak ?_) (fun hc=>aF ?_)
  ·have hlt:k<(kN t b).length:=by have:=of_decide_eq_true hc;omega
   clear hc
   replace hf:=hf.kp [0,1,2,3,4,5,19,20,21]
   obtain⟨j,hj⟩:∃j,(kN t b)[k]?=some j:=⟨_,List.getElem?_eq_getElem hlt⟩
   have hjm:=List.mem_of_getElem? hj
   obtain⟨hf0,hhj⟩:=wo hh hjm
   have hj':(cc t t.length b)[k]?=some (j:Int):=by rw[pm,List.getElem?_map,hj];rfl
   have hstep:((kN t b).take (k+1)).foldl (fun s k=>dnF (kN t) (f - 1) k (deep+1) s) s1=dnF (kN t) (f - 1) j (deep+1) (((kN t b).take k).foldl (fun s k=>dnF (kN t) (f - 1) k (deep+1) s) s1):=by
    rw[cG hj,List.foldl_append];rfl
   obtain⟨sk,hsk⟩:∃sk,sk=((kN t b).take k).foldl (fun s k=>dnF (kN t) (f - 1) k (deep+1) s) s1:=⟨_,rfl⟩
   have hskl:sk.1.length=t.length:=by rw[hsk,iB];exact hs1l
   have hsk0:s1.2≤sk.2:=by rw[hsk];exact gJ _ _ _ _ _
   have hskle:(dnF (kN t) (f - 1) j (deep+1) sk).2≤(dnF (kN t) f b deep s).2:=by
    rw[hsk,← hstep,heq]
    conv=>rhs;rw[← List.take_append_drop (k+1) (kN t b),List.foldl_append]
    exact gJ _ _ _ _ _
   rw[← hsk] at BA BF hstep
   refine seq ?_
   refine blk ?_
   refine seq ?_
   refine ac 2 hf (by decide +kernel) ?_
   refine st (az U63 S3 (isR rfl) rfl (by omega) (hj')) ?_
   refine st (ldI T3 (isR rfl)) ?_
   refine en fun a w e' hf=>?_
   replace D:=D.ch (e'.chg _)
   replace c:=c.ext e'
   replace BA:=BA.ext e'
   replace BF:=BF.ext e'
   refine ae hf rfl (by decide) fun a hf=>?_
   refine aa ?_
   replace hf:=hf.kp [0,1,2,3,4,5,9,19,20,21]
   refine ac 4 hf (by decide +kernel) ?_
   refine st (ld1 iT rfl D.d rfl) ?_
   refine st (mv rfl) ?_
   refine st (mv rfl) ?_
   refine st (add rfl rfl (by omega)) ?_
   refine en fun a w e' hf=>?_
   replace D:=D.ch (e'.chg _)
   replace c:=c.ext e'
   replace BA:=BA.ext e'
   replace BF:=BF.ext e'
   clear e'
   have v26:a.eval (.tmp 26)=I (j:Nat):=hf.val 26 _ rfl
   have v28:a.eval (.tmp 28)=I (deep+1):=hf.val 28 _ rfl
   refine gv (S:=SD ba bf) (F:=fun w'=>Blk w' ba (cr (dnF (kN t) (f - 1) j (deep+1) sk).1) 3∧Blk w' bf #[I (dnF (kN t) (f - 1) j (deep+1) sk).2] 3) (A:=Any) hf (by decide) ma rfl ?_ fun a w hc hF hf=>?_
   ·have:=ih (f - 1) (by omega) j (deep+1) sk w D BA BF hhj (ky.1 hjm).1 hskl (by omega) (by omega) (by omega) (by omega)
    simpa[v26,v28] using this
   replace D:=D.ch hc
   replace c:=c.tr hc
   replace BA:=hF.1
   replace BF:=hF.2
   clear hc hF
   refine aa ?_
   simp only[Exit.then,Exit.inBlock,↓reduceIte]
   replace hf:=hf.kp [0,1,2,3,4,5,19,20,21]
   refine ac 1 hf (by decide +kernel) ?_
   refine st ((add rfl rfl (by omega)).eq (congrArg (Value.int .i64) (show (k:Int)+1=((k+1:Nat):Int) from rfl))) ?_
   refine en fun a w e' hf=>?_
   replace D:=D.ch (e'.chg _)
   replace c:=c.ext e'
   replace BA:=BA.ext e'
   replace BF:=BF.ext e'
   clear e'
   refine ar hf (by decide) (mv rfl) fun a w e' hf=>?_
   replace D:=D.ch (e'.chg _)
   replace c:=c.ext e'
   replace BA:=BA.ext e'
   replace BF:=BF.ext e'
   refine aa ?_
   replace hf:=hf.kp [0,1,2,3,4,5,19,20,21]
   exact⟨(kN t b).length - (k+1),by omega,k+1,rfl,by omega,hf,c,D,by rw[hstep];exact BA,by rw[hstep];exact BF⟩
  ·obtain rfl:k=(kN t b).length:=by have:=of_decide_eq_false hc;omega
   simp only[Exit.then,Exit.inBlock,↓reduceIte]
   refine cE rfl hf ?_
   rw[List.take_length,← heq] at BA BF
   exact⟨_,rfl,c,trivial,BA,BF⟩

theorem kz {G:Nat→Prop}{w:World}:∀l:List Int,Cells ap G w l (l.map (Value.int .i64))
 | []=>rfl
 | x::l=>⟨[I x],l.map (Value.int .i64),rfl,rfl,kz l⟩
theorem ws {G:Nat→Prop}{w:World}{b:Nat}{l:List Int}{bt:TypeId}(h:Blk w b (cr l) bt)(hG:¬G b):(Dv (slE ap) G l).p (.slice (some ⟨b,0,none⟩) l.length l.length) w:=
 Dv.sl.2 (.inr ⟨_,l.length,l.map (Value.int .i64),rfl,Nat.le_refl _,hG,h.lt,kz l,fun i u hu=>by
  rw[Addr.add_lit,Nat.zero_add,h.cell i,cr,List.getElem?_toArray];exact hu⟩)
def rootN (t:List (Int×BS)):List Nat:=(List.range t.length).filter fun i=>decide ((bg t i).1 = -1)
theorem iC (t:List (Int×BS)):dK t=(rootN t).map fun i:Nat=>(i:Int):=rfl
def bJ (t:List (Int×BS))(f:Nat)(l:List Nat):List Int×Int:=l.foldl (fun s b=>dnF (kN t) f b 0 s) (List.replicate t.length 0,0)

theorem wu {G:Nat→Prop}(t:List (Int×BS))(f:Nat)(v:Value)(W:World)(h:(Dv aL G t).p v W)(hG:∀b,G b→b<W.heap.size)(hl:t.length≤4096)(hr:Rng t)(hh:∀b∈rootN t,hgt (kN t) f b)(hf:f≤50000)(hle:(bJ t f (rootN t)).2≤100000) :
  Calls Tryz.prog 84 #[v] W (Post (Tup [Dv (slE ap) G (bJ t f (rootN t)).1,E (B ((bJ t f (rootN t)).2==(t.length:Nat)))]) W):=by
 have hfb:=hf
 clear hf
 refine enter (args:=[v]) (As:=[Dv aL (GB W G) t]) Tryz.func84 rfl Tryz.ntmps84 (Nat.le_of_ble_eq_true rfl) ?_ (fun a hf=>?_) (Nat.le_of_ble_eq_true rfl)
 rotate_left
 dsimp only[params,Nat.reduceAdd] at hf
 rotate_right
 ·exact arg1 (Dv.toB h)
 have e:=Ext.rfl' W
 refine seq ?_
 refine ah ?_
 refine ae hf rfl (by decide) fun a hf=>?_
 refine ae hf rfl (by decide) fun a hf=>?_
 refine aa ?_
 refine seq ?_
 refine ac 2 hf (by decide +kernel) ?_
 refine st (mv rfl) ?_
 refine st (ay U23 (isR rfl)) ?_
 refine en fun a w e' hf=>?_
 replace e:=e.tr e'
 clear e'
 refine jv U63 I3 rfl hf (by decide) rfl (by omega) (by decide) fun a b12 w e' hb12 hs12 B12 hf=>?_
 have hle12:=Nat.le_trans e.size (Nat.le_of_eq hb12.symm)
 replace e:=e.tr e'
 clear e'
 refine aJ I63 hf (by decide) fun a b4 w e' hb4 hs4 B4 hf=>?_
 have hle4:=Nat.le_trans e.size (Nat.le_of_eq hb4.symm)
 have lt4_B12:=B12.lt
 replace e:=e.tr e'
 replace B12:=B12.ext e'
 clear e'
 haveI hinr:∀G0,InR (GB W G0) (some b4):=fun G0=>InR.gb (by omega)
 refine aP T63 hf rfl rfl rfl B4 (by decide) fun w hg hsz B4 hf=>?_
 replace e:=e.gr hg (by omega)
 replace B12:=B12.gr hg (by omega)
 clear hg
 refine aa ?_
 have h12:b12≠b4:=by omega
 rw[show (List.replicate t.length (I 0)).toArray=cr (List.replicate t.length 0) from by simp[cr]] at B12
 have B4':Blk w b4 #[.slice (some ⟨b12,0,none⟩) t.length t.length] 63:=B4
 replace B4:=B4';clear B4'
 replace hf:=hf.kp [0,4]
 refine seq ?_
 refine ah ?_
 refine aJ I3 hf (by decide) fun a b5 w e' hb5 hs5 B5 hf=>?_
 have hle5:=Nat.le_trans e.size (Nat.le_of_eq hb5.symm)
 have lt5_B12:=B12.lt
 have lt5_B4:=B4.lt
 replace e:=e.tr e'
 replace B12:=B12.ext e'
 replace B4:=B4.ext e'
 clear e'
 haveI hinr:∀G0,InR (GB W G0) (some b5):=fun G0=>InR.gb (by omega)
 refine aP T3 hf rfl rfl rfl B5 (by decide) fun w hg hsz B5 hf=>?_
 replace e:=e.gr hg (by omega)
 replace B12:=B12.gr hg (by omega)
 replace B4:=B4.gr hg (by omega)
 clear hg
 refine aa ?_
 have B5':Blk w b5 #[I 0] 3:=B5
 replace B5:=B5';clear B5'
 have h5:b5≠b4∧b5≠b12:=by omega
 have hSD:∀b,SD b12 b5 b→b<w.heap.size:=by
  have:=B12.lt
  have:=B5.lt
  rintro b (rfl|rfl) <;> assumption
 have hle12:W.heap.size≤b12:=by omega
 have hSB:∀b,SD b12 b5 b→W.heap.size≤b:=by rintro b (rfl|rfl) <;> omega
 haveI hinS:InS (GB W G) (SD b12 b5):=⟨fun b hb=>.inr (hSB b hb)⟩
 replace hf:=hf.kp [0,4,5]
 have l12:=B12.lt
 have l4:=B4.lt
 have l5:=B5.lt
 refine seq ?_
 refine ac 2 hf (by decide +kernel) ?_
 refine st (mv rfl) ?_
 refine st (aw lV rfl (fun v u he h=>wm (G:=SD b12 b5) _ _ _ (Dv.weak h fun b _ hb=>.inr (hSB b hb)) (fun b hb=>Nat.lt_of_lt_of_le (hSD b hb) he.size) hl hr)) ?_
 refine en fun a w e' hf=>?_
 replace e:=e.tr e'
 replace B12:=B12.ext e'
 replace B4:=B4.ext e'
 replace B5:=B5.ext e'
 clear e'
 obtain⟨kv,KD,hf⟩:=hf.fix 14 rfl
 obtain⟨N,hN⟩:∃N,N=w.heap.size:=⟨_,rfl⟩
 have KD':(Dv (slE (slE ap)) (fun b=>SD b12 b5 b∨N≤b) (dP t)).p kv w:=Dv.weak KD fun b hb hg=>hg.elim id fun hg=>by omega
 replace KD:=KD'
 clear KD'
 replace hf:=hf.kp [0,4,5,14]
 have l12:=B12.lt
 have l4:=B4.lt
 have l5:=B5.lt
 have hkv:=Dv.slOne KD
 refine aJ I97 hf (by decide) fun a b6 w e' hb6 hs6 B6 hf=>?_
 have hle6:=Nat.le_trans e.size (Nat.le_of_eq hb6.symm)
 have lt6_B12:=B12.lt
 have lt6_B4:=B4.lt
 have lt6_B5:=B5.lt
 replace KD:=Dv.ex KD e'
 replace e:=e.tr e'
 replace B12:=B12.ext e'
 replace B4:=B4.ext e'
 replace B5:=B5.ext e'
 clear e'
 haveI hinr:∀G0,InR (GB W G0) (some b6):=fun G0=>InR.gb (by omega)
 refine aP T97 hf rfl rfl (hkv) B6 (by decide) fun w hg hsz B6 hf=>?_
 replace KD:=Dv.gr KD hg (.inr (by omega))
 replace e:=e.gr hg (by omega)
 replace B12:=B12.gr hg (by omega)
 replace B4:=B4.gr hg (by omega)
 replace B5:=B5.gr hg (by omega)
 clear hg
 refine aa ?_
 have B6':Blk w b6 #[kv] 97:=B6
 replace B6:=B6';clear B6'
 replace hf:=hf.kp [0,4,5,6]
 refine seq ?_
 refine ah ?_
 refine aJ qA hf (by decide) fun a b7 w e' hb7 hs7 B7 hf=>?_
 have hle7:=Nat.le_trans e.size (Nat.le_of_eq hb7.symm)
 have lt7_B12:=B12.lt
 have lt7_B4:=B4.lt
 have lt7_B5:=B5.lt
 have lt7_B6:=B6.lt
 replace KD:=Dv.ex KD e'
 replace e:=e.tr e'
 replace B12:=B12.ext e'
 replace B4:=B4.ext e'
 replace B5:=B5.ext e'
 replace B6:=B6.ext e'
 refine aa ?_
 replace hf:=hf.kp [0,4,5,6,7]
 have h7:b7≠b4∧b7≠b5∧b7≠b12∧b7≠b6:=by omega
 refine seq ?_
 refine ac 1 hf (by decide +kernel) ?_
 refine st (tc rfl rfl rfl rfl) ?_
 refine en fun a w e' hf=>?_
 replace KD:=Dv.ex KD e'
 replace e:=e.tr e'
 replace B12:=B12.ext e'
 replace B4:=B4.ext e'
 replace B5:=B5.ext e'
 replace B6:=B6.ext e'
 replace B7:=B7.ext e'
 clear e'
 haveI hinr:∀G0,InR (GB W G0) (some b7):=fun G0=>InR.gb (by omega)
 refine aP iT hf rfl rfl rfl B7 (by decide) fun w hg hsz B7 hf=>?_
 replace KD:=Dv.gr KD hg (.inr (by omega))
 replace e:=e.gr hg (by omega)
 replace B12:=B12.gr hg (by omega)
 replace B4:=B4.gr hg (by omega)
 replace B5:=B5.gr hg (by omega)
 replace B6:=B6.gr hg (by omega)
 clear hg
 refine aa ?_
 have D:DC t (fun b=>SD b12 b5 b∨N≤b) b12 b5 b4 b6 b7 kv w:=
  ⟨B4,B6,B7,KD,fun b hb=>.inl hb,by omega,by unfold SD;omega,by unfold SD;omega,by unfold SD;omega⟩
 clear B4 B6 B7 KD
 have hrl:(dK t).length=(rootN t).length:=by rw[iC,List.length_map]
 have hrl2:(rootN t).length≤t.length:=by have:=List.length_filter_le (fun i=>decide ((bg t i).1 = -1)) (List.range t.length);simpa[rootN] using this
 have hSD':∀b,SD b12 b5 b→b<w.heap.size:=by
  have:=B12.lt
  have:=B5.lt
  rintro b (rfl|rfl) <;> assumption
 replace hf:=hf.kp [0,4,5,6,7]
 repeat refine seq ?_
 refine ac 4 hf (by decide +kernel) ?_
 refine st (mv rfl) ?_
 refine st (aw jb rfl (fun v u he h=>jt (G:=SD b12 b5) _ _ _ (Dv.weak h fun b _ hb=>.inr (hSB b hb)) (fun b hb=>Nat.lt_of_lt_of_le (hSD' b hb) he.size) hl)) ?_
 refine st (ay U63 (isR rfl)) ?_
 refine st (mv rfl) ?_
 refine en fun a w e' hf=>?_
 replace D:=D.ch (e'.chg _)
 replace e:=e.tr e'
 replace B12:=B12.ext e'
 replace B5:=B5.ext e'
 refine aa ?_
 haveI hinS2:InS (SD b12 b5) (SD b12 b5):=⟨fun b hb=>hb⟩
 rw[hrl] at hf
 replace hf:=hf.kp [0,4,5,7,17,18,19]
 refine blk (aG (fun r0 a w=>∃(k:Nat),r0=(rootN t).length - k∧k≤(rootN t).length∧Fr 32 a w [(0,Dv aL (GB W G) t),(4,E (.pointer (some ⟨b4,0,none⟩))),(5,E (.pointer (some ⟨b5,0,none⟩))),(7,E (.pointer (some ⟨b7,0,none⟩))),(17,Dv (slE ap) (SD b12 b5) (dK t)),(18,E (I ((rootN t).length:Nat))),(19,E (I k))] ∧
   Ext W w∧DC t (fun b=>SD b12 b5 b∨N≤b) b12 b5 b4 b6 b7 kv w∧Blk w b12 (cr (bJ t f ((rootN t).take k)).1) 3∧Blk w b5 #[I (bJ t f ((rootN t).take k)).2] 3) (rootN t).length ⟨0,rfl,by omega,hf,e,D,B12,B5⟩ ?_)
 clear hf e D B12 B5
 rintro r0 a w ⟨k,rfl,hk,hf,e,D,B12,B5⟩
 refine seq ?_
 refine ac 1 hf (by decide +kernel) ?_
 refine st (lss rfl rfl) ?_
 refine en fun a w e' hf=>?_
 replace D:=D.ch (e'.chg _)
 replace e:=e.tr e'
 replace B12:=B12.ext e'
 replace B5:=B5.ext e'
 refine aa ?_
 refine seq ?_
 refine ifc hf rfl (fun hc=>ak ?_) (fun hc=>aF ?_)
 ·have hlt:k<(rootN t).length:=by have:=of_decide_eq_true hc;omega
  clear hc
  replace hf:=hf.kp [0,4,5,7,17,18,19]
  obtain⟨j,hj⟩:∃j,(rootN t)[k]?=some j:=⟨_,List.getElem?_eq_getElem hlt⟩
  have hjm:=List.mem_of_getElem? hj
  have hj':(dK t)[k]?=some (j:Int):=by rw[iC,List.getElem?_map,hj];rfl
  have hjl:j<t.length:=by have:=List.mem_filter.1 hjm;simpa using this.1
  obtain⟨sk,hsk⟩:∃sk,sk=bJ t f ((rootN t).take k):=⟨_,rfl⟩
  have hstep:bJ t f ((rootN t).take (k+1))=dnF (kN t) f j 0 sk:=by
   rw[hsk,bJ,bJ,cG hj,List.foldl_append];rfl
  have hskl:sk.1.length=t.length:=by rw[hsk,bJ,iB];simp
  have hsk0:0≤sk.2:=by rw[hsk];exact gJ _ _ _ _ _
  have hskle:(dnF (kN t) f j 0 sk).2≤(bJ t f (rootN t)).2:=by
   rw[← hstep,bJ,bJ]
   conv=>rhs;rw[← List.take_append_drop (k+1) (rootN t),List.foldl_append]
   exact gJ _ _ _ _ _
  rw[← hsk] at B12 B5
  refine seq ?_
  refine blk ?_
  refine seq ?_
  refine ac 2 hf (by decide +kernel) ?_
  refine st (az U63 S3 (isR rfl) rfl (by omega) (hj')) ?_
  refine st (ldI T3 (isR rfl)) ?_
  refine en fun a w e' hf=>?_
  replace D:=D.ch (e'.chg _)
  replace e:=e.tr e'
  replace B12:=B12.ext e'
  replace B5:=B5.ext e'
  refine ae hf rfl (by decide) fun a hf=>?_
  refine aa ?_
  replace hf:=hf.kp [0,4,5,7,9,17,18,19]
  refine ac 2 hf (by decide +kernel) ?_
  refine st (ld1 iT rfl D.d rfl) ?_
  refine st (mv rfl) ?_
  refine en fun a w e' hf=>?_
  replace D:=D.ch (e'.chg _)
  replace e:=e.tr e'
  replace B12:=B12.ext e'
  replace B5:=B5.ext e'
  clear e'
  have v24:a.eval (.tmp 24)=I (j:Nat):=hf.val 24 _ rfl
  refine gv (S:=SD b12 b5) (F:=fun w'=>Blk w' b12 (cr (dnF (kN t) f j 0 sk).1) 3∧Blk w' b5 #[I (dnF (kN t) f j 0 sk).2] 3) (A:=Any) hf (by decide) ma rfl ?_ fun a w hc hF hf=>?_
  ·have:=wq t _ b12 b5 b4 b6 b7 kv hl f j 0 sk w D B12 B5 (hh j hjm) hjl hskl hsk0 (by omega) (by omega) (by omega)
   have vc:a.eval (.const (I 0))=I 0:=rfl
   simpa[v24,vc] using this
  replace D:=D.ch hc
  replace e:=e.ch hc hSB
  replace B12:=hF.1
  replace B5:=hF.2
  clear hc hF
  refine aa ?_
  simp only[Exit.then,Exit.inBlock,↓reduceIte]
  replace hf:=hf.kp [0,4,5,7,17,18,19]
  refine ac 1 hf (by decide +kernel) ?_
  refine st ((add rfl rfl (by omega)).eq (congrArg (Value.int .i64) (show (k:Int)+1=((k+1:Nat):Int) from rfl))) ?_
  refine en fun a w e' hf=>?_
  replace D:=D.ch (e'.chg _)
  replace e:=e.tr e'
  replace B12:=B12.ext e'
  replace B5:=B5.ext e'
  clear e'
  refine ar hf (by decide) (mv rfl) fun a w e' hf=>?_
  replace D:=D.ch (e'.chg _)
  replace e:=e.tr e'
  replace B12:=B12.ext e'
  replace B5:=B5.ext e'
  refine aa ?_
  replace hf:=hf.kp [0,4,5,7,17,18,19]
  exact⟨(rootN t).length - (k+1),by omega,k+1,rfl,by omega,hf,e,D,by rw[hstep];exact B12,by rw[hstep];exact B5⟩
 ·obtain rfl:k=(rootN t).length:=by have:=of_decide_eq_false hc;omega
  simp only[Exit.then,Exit.inBlock,↓reduceIte]
  rw[List.take_length] at B12 B5
  replace hf:=hf.kp [0,4,5]
  refine seq ?_
  refine reg 7 Mix.mix hf (by decide +kernel) ?_
  refine st (ld1 T63 rfl D.o rfl) ?_
  refine st (ld1 T3 rfl B5 rfl) ?_
  refine st (mv rfl) ?_
  refine st (ay U23 (isR rfl)) ?_
  refine st (eql rfl rfl) ?_
  refine st (asg rfl) ?_
  refine st (asg rfl) ?_
  refine en fun a w e' hf=>?_
  replace D:=D.ch (e'.chg _)
  replace e:=e.tr e'
  replace B12:=B12.ext e'
  replace B5:=B5.ext e'
  refine aa ?_
  refine aj ?_
  refine cb rfl hf rfl rfl ?_
  rintro _ _ rfl rfl
  have hlen:(bJ t f (rootN t)).1.length=t.length:=by rw[bJ,iB];simp
  refine⟨_,rfl,e,Tup.two ?_ rfl⟩
  have:=ws (G:=G) B12 (fun hg=>by have:=hG _ hg;omega)
  rwa [hlen] at this
end Go.Mono
namespace Go.Mono
open Go Go.Proofs Go.RowKit
def bK (t:List (Int×BS))(i:Nat):BS:=if (bg t i).1 = -1 then (bg t i).2 else (bg t i).2 &&& ~~~(bg t (bg t i).1.toNat).2

theorem wv {G:Nat→Prop}(t:List (Int×BS))(i:Nat)(v:Value)(W:World)(h:(Dv aL G t).p v W)(hr:Rng t)(hi:i<t.length) :
  Calls Tryz.prog 85 #[v,I (i:Nat)] W (Post (E (au (bK t i))) W):=by
 have hri:=hr i hi
 refine enter (args:=[v,I (i:Nat)]) (As:=[Dv aL (GB W G) t,E (I (i:Nat))]) Tryz.func85 rfl Tryz.ntmps85 (Nat.le_of_ble_eq_true rfl) ?_ (fun a hf=>?_) (Nat.le_of_ble_eq_true rfl)
 rotate_left
 dsimp only[params,Nat.reduceAdd] at hf
 rotate_right
 ·exact arg2 (Dv.toB h) rfl
 have e:=Ext.rfl' W
 refine seq ?_
 refine ah ?_
 refine aJ I56 hf (by decide) fun a b4 w e' hb4 hs4 B4 hf=>?_
 have hle4:=Nat.le_trans e.size (Nat.le_of_eq hb4.symm)
 replace e:=e.tr e'
 refine aa ?_
 simp only[Value.cells,cV] at B4
 refine seq ?_
 refine ah ?_
 refine ar hf (by decide) (mv rfl) fun a w e' hf=>?_
 replace e:=e.tr e'
 replace B4:=B4.ext e'
 clear e'
 refine ar hf (by decide) (mv rfl) fun a w e' hf=>?_
 replace e:=e.tr e'
 replace B4:=B4.ext e'
 clear e'
 refine ar hf (by decide) (az U23 S59 (isR rfl) rfl (by omega) (cX hi)) fun a w e' hf=>?_
 replace e:=e.tr e'
 replace B4:=B4.ext e'
 clear e'
 refine ar hf (by decide) (fJ T59 (isR rfl)) fun a w e' hf=>?_
 replace e:=e.tr e'
 replace B4:=B4.ext e'
 clear e'
 refine aJ I59 hf (by decide) fun a b5 w e' hb5 hs5 B5 hf=>?_
 have hle5:=Nat.le_trans e.size (Nat.le_of_eq hb5.symm)
 have lt5_B4:=B4.lt
 replace e:=e.tr e'
 replace B4:=B4.ext e'
 clear e'
 haveI hinr:∀G0,InR (GB W G0) (some b5):=fun G0=>InR.gb (by omega)
 refine aD T59 hf rfl rfl (gq _) B5 rfl (eY _) fun w hg hsz B5 hf=>?_
 replace e:=e.gr hg (by omega)
 replace B4:=B4.gr hg (by omega)
 clear hg
 refine aa ?_
 have hne:b4≠b5:=by omega
 repeat refine seq ?_
 refine ac 3 hf (by decide +kernel) ?_
 refine st (ai U59 rfl T3 (by decide) rfl) ?_
 refine st (ld1 T3 rfl B5 (cK _)) ?_
 refine st (eql rfl rfl) ?_
 refine en fun a w e' hf=>?_
 replace e:=e.tr e'
 replace B4:=B4.ext e'
 replace B5:=B5.ext e'
 refine aa ?_
 refine ifc hf rfl (fun hb=>?_) (fun hb=>?_)
 ·have hb':(bg t i).1 = -1:=by simpa using hb
  replace hf:=hf.kp [4,5]
  refine seq ?_
  refine ac 2 hf (by decide +kernel) ?_
  refine st (ai U59 rfl T56 (by decide) rfl) ?_
  refine st ((ldP T56 rfl B5 (dI _)).eq (dJ _)) ?_
  refine en fun a w e' hf=>?_
  replace e:=e.tr e'
  replace B4:=B4.ext e'
  replace B5:=B5.ext e'
  clear e'
  haveI hinr:∀G0,InR (GB W G0) (some b4):=fun G0=>InR.gb (by omega)
  refine aD T56 hf rfl rfl (bL _) B4 rfl (rfl) fun w hg hsz B4 hf=>?_
  replace e:=e.gr hg (by omega)
  replace B5:=B5.gr hg (by omega)
  clear hg
  refine aa ?_
  refine aj (dH rfl T56 hf rfl B4 e ?_)
  rw[bK,if_pos hb']
 ·have hb':(bg t i).1 ≠ -1:=by simpa using hb
  refine ak ?_
  simp only[Exit.then,Exit.inBlock,↓reduceIte]
  refine seq ?_
  refine reg 9 Mix.mix hf (by decide +kernel) ?_
  refine st (ai U59 rfl T56 (by decide) rfl) ?_
  refine st ((ldP T56 rfl B5 (dI _)).eq (dJ _)) ?_
  refine st (mv rfl) ?_
  refine st (ai U59 rfl T3 (by decide) rfl) ?_
  refine st (ld1 T3 rfl B5 (cK _)) ?_
  refine st (az U23 S59 (isR rfl) rfl (by omega) (cX (i:=(bg t i).1.toNat) (by omega))) ?_
  refine st (am U59 rfl T56 (by decide) (Fld.snd Fld.refl rfl) (isR rfl)) ?_
  refine st (ldS T56 (isR rfl)) ?_
  refine st (ax iX rfl rfl (fun v u w he h h'=>by cases h;cases h';exact jC _ _ w)) ?_
  refine en fun a w e' hf=>?_
  replace e:=e.tr e'
  replace B4:=B4.ext e'
  replace B5:=B5.ext e'
  clear e'
  haveI hinr:∀G0,InR (GB W G0) (some b4):=fun G0=>InR.gb (by omega)
  refine aD T56 hf rfl rfl (bL _) B4 rfl (rfl) fun w hg hsz B4 hf=>?_
  replace e:=e.gr hg (by omega)
  replace B5:=B5.gr hg (by omega)
  clear hg
  refine aa ?_
  refine aj (dH rfl T56 hf rfl B4 e ?_)
  rw[bK,if_neg hb']
structure Dp (t:List (Int×BS))(f:Nat):Prop where
 fb:f≤50000
 hh:∀b∈rootN t,hgt (kN t) f b
 le:(bJ t f (rootN t)).2≤100000
def dQ (t:List (Int×BS)):Nat→BS
 | 0=>0
 | k+1=>dQ t k ||| bK t k
open Classical in
noncomputable def bZ (t:List (Int×BS))(f:Nat):Int:=
 if t.length=0 then 2 else
 if ¬Rng t then 3 else
 if ¬(rootN t).length=1 then 3 else
 if ¬(bJ t f (rootN t)).2=(t.length:Nat) then 15 else
 if ¬∀i,i<t.length→bK t i &&& dQ t i=0 then 7 else 0
theorem gK {p:Int×BS→Bool}{t:List (Int×BS)}:decide (0≤dj p t)=false↔∀i,i<t.length→p (bg t i)=false:=by
 constructor
 ·intro h i hi
  cases hp:p (bg t i)
  ·rfl
  ·exfalso
   obtain⟨m,hm,hmin⟩:=eU (p:=fun j=>j<t.length∧p (bg t j)=true) ⟨i,hi,hp⟩
   have:dj p t=(m:Nat):=fI hm.1 (fun j hj=>by
    cases ht:p (bg t j)
    ·rfl
    ·exact absurd ⟨by omega,ht⟩ (hmin j hj)) hm.2
   rw[this] at h
   exact absurd h (by simp)
 ·intro h
  rw[dj,fH h];rfl

theorem iD {G:Nat→Prop}(t:List (Int×BS))(f:Nat)(v:Value)(W:World)(h:(Dv aL G t).p v W)(hl:t.length≤4096)
  (hd:Rng t→(rootN t).length=1→Dp t f) :
  Calls Tryz.prog 37 #[v] W (Post (E (I (bZ t f))) W):=by
 refine enter (args:=[v]) (As:=[Dv aL (GB W G0) t]) Tryz.func37 rfl Tryz.ntmps37 (Nat.le_of_ble_eq_true rfl) ?_ (fun a hf=>?_) (Nat.le_of_ble_eq_true rfl)
 rotate_left
 dsimp only[params,Nat.reduceAdd] at hf
 rotate_right
 ·exact arg1 (Dv.toB (Dv.weak h fun b _ hb=>hb.elim))
 have e:=Ext.rfl' W
 refine seq ?_
 refine ah ?_
 refine aH hf rfl (by decide) fun a b1 w v1 hv1 e' hb1 hs1 B1 hf=>?_
 have hle1:=Nat.le_trans e.size (Nat.le_of_eq hb1.symm)
 replace e:=e.tr e'
 refine ae hf rfl (by decide) fun a hf=>?_
 refine aa ?_
 rw[jn (Dv.slOne hv1)] at B1
 have HV:=Dv.ex hv1 e
 cases h0:(((t.length:Nat):Int)==0)
 rotate_left
 ·have h0':t.length=0:=by
    have:((t.length:Nat):Int)=0:=by simpa using h0
    omega
  repeat refine seq ?_
  refine ac 8 hf (by decide +kernel) ?_
  refine st (ld1 T23 rfl (by assumption) rfl) ?_
  refine st (ay U23 (isE rfl HV)) ?_
  refine st ((eql rfl rfl).eq (congrArg Value.bool (h0))) ?_
  refine st (mv rfl) ?_
  refine sn rfl rfl rfl ?_
  refine sn rfl rfl rfl ?_
  refine sn rfl rfl rfl ?_
  refine st (pkT rfl rfl) ?_
  refine en fun a w e' hf=>?_
  replace HV:=Dv.ex HV e'
  replace e:=e.tr e'
  replace B1:=B1.ext e'
  refine aa ?_
  refine ifc hf rfl (fun _=>?_) (fun h=>by cases h)
  refine seq ?_
  refine ah ?_
  refine ae hf rfl (by decide) fun a hf=>?_
  refine aa ?_
  refine aj ?_
  simp only[Exit.then,Exit.inBlock]
  refine al rfl hf rfl ?_
  rintro _ rfl
  exact⟨_,rfl,e,congrArg I (by rw[bZ,if_pos h0'])⟩
 have h0':¬t.length=0:=by
  have:¬((t.length:Nat):Int)=0:=by simpa using h0
  omega
 repeat refine seq ?_
 refine ac 8 hf (by decide +kernel) ?_
 refine st (ld1 T23 rfl (by assumption) rfl) ?_
 refine st (ay U23 (isE rfl HV)) ?_
 refine st ((eql rfl rfl).eq (congrArg Value.bool (h0))) ?_
 refine st (mv rfl) ?_
 refine sy rfl rfl (ld1 T23 rfl (by assumption) rfl) ?_
 refine sy rfl rfl (ay U23 (isE rfl HV)) ?_
 refine sy rfl rfl ((gtr rfl rfl).eq (congrArg Value.bool (show decide ((4096:Int)<(t.length:Nat))=false from decide_eq_false (by omega)))) ?_
 refine st (pkF rfl rfl) ?_
 refine en fun a w e' hf=>?_
 replace HV:=Dv.ex HV e'
 replace e:=e.tr e'
 replace B1:=B1.ext e'
 refine aa ?_
 refine ifc hf rfl (fun h=>by cases h) (fun _=>?_)
 refine ak ?_
 simp only[Exit.then,Exit.inBlock,↓reduceIte]
 replace hf:=hf.kp [1]
 cases h1:decide (0≤dj (fun b=>decide (b.1 < -1∨(t.length:Int)≤b.1)) t)
 rotate_left
 ·repeat refine seq ?_
  refine ac 9 hf (by decide +kernel) ?_
  refine st (ld1 T23 rfl (by assumption) rfl) ?_
  refine st (er rfl) ?_
  refine st ((ax fA rfl rfl (fun v u w he h h'=>by cases h;cases h';exact fK t _ _ _ (fun b=>decide (b.1 < -1∨(t.length:Int)≤b.1)) w lS (Dv.ex HV he) (fun w' b he'=>by simpa using mn b b1 t _ w' (B1.ext (Ext.tr he he')) (Dv.ex HV (Ext.tr he he')) hl) hl)).eq (congrArg Value.bool (h1))) ?_
  refine st (mv rfl) ?_
  refine sn rfl rfl rfl ?_
  refine sn rfl rfl rfl ?_
  refine sn rfl rfl rfl ?_
  refine sn rfl rfl rfl ?_
  refine st (pkT rfl rfl) ?_
  refine en fun a w e' hf=>?_
  replace HV:=Dv.ex HV e'
  replace e:=e.tr e'
  replace B1:=B1.ext e'
  refine aa ?_
  refine ifc hf rfl (fun _=>?_) (fun h=>by cases h)
  refine seq ?_
  refine ah ?_
  refine ae hf rfl (by decide) fun a hf=>?_
  refine aa ?_
  have hn:¬Rng t:=fun hr=>by
   have:=(gK (p:=fun b=>decide (b.1 < -1∨(t.length:Int)≤b.1)) (t:=t)).2 (fun i hi=>decide_eq_false (by have:=hr i hi;omega))
   rw[h1] at this;cases this
  refine aj ?_
  simp only[Exit.then,Exit.inBlock]
  refine al rfl hf rfl ?_
  rintro _ rfl
  exact⟨_,rfl,e,congrArg I (by rw[bZ,if_neg h0',if_pos hn])⟩
 have hr:Rng t:=fun i hi=>by
  have:=of_decide_eq_false (gK.1 h1 i hi)
  omega
 have c1:=Classical.not_not.2 hr
 repeat refine seq ?_
 refine ac 9 hf (by decide +kernel) ?_
 refine st (ld1 T23 rfl (by assumption) rfl) ?_
 refine st (er rfl) ?_
 refine st ((ax fA rfl rfl (fun v u w he h h'=>by cases h;cases h';exact fK t _ _ _ (fun b=>decide (b.1 < -1∨(t.length:Int)≤b.1)) w lS (Dv.ex HV he) (fun w' b he'=>by simpa using mn b b1 t _ w' (B1.ext (Ext.tr he he')) (Dv.ex HV (Ext.tr he he')) hl) hl)).eq (congrArg Value.bool (h1))) ?_
 refine st (mv rfl) ?_
 refine sy rfl rfl (ld1 T23 rfl (by assumption) rfl) ?_
 refine sy rfl rfl (aw jb rfl (fun v w he h=>by cases h;exact jt (G:=G0) t _ w (Dv.weak (Dv.ex HV he) fun b _ hb=>hb.elim) (fun b hb=>hb.elim) hl)) ?_
 refine sy rfl rfl (ay U63 (isR rfl)) ?_
 refine sy rfl rfl (neq rfl rfl) ?_
 refine st (pkF rfl rfl) ?_
 refine en fun a w e' hf=>?_
 replace HV:=Dv.ex HV e'
 replace e:=e.tr e'
 replace B1:=B1.ext e'
 refine aa ?_
 have hrl:(dK t).length=(rootN t).length:=by rw[iC,List.length_map]
 refine ifc hf rfl (fun hb=>?_) (fun hb=>?_)
 ·have hb':¬(rootN t).length=1:=by
   have:¬((dK t).length:Int)=1:=by simpa using hb
   omega
  refine seq ?_
  refine ah ?_
  refine ae hf rfl (by decide) fun a hf=>?_
  refine aa ?_
  refine aj ?_
  simp only[Exit.then,Exit.inBlock]
  refine al rfl hf rfl ?_
  rintro _ rfl
  exact⟨_,rfl,e,congrArg I (by rw[bZ,if_neg h0',if_neg c1,if_pos hb'])⟩
 have hb':(rootN t).length=1:=by
  have:((dK t).length:Int)=1:=by simpa using hb
  omega
 have c2:=Classical.not_not.2 hb'
 have hdp:=hd hr hb'
 refine ak ?_
 simp only[Exit.then,Exit.inBlock,↓reduceIte]
 replace hf:=hf.kp [1]
 repeat refine seq ?_
 refine ac 5 hf (by decide +kernel) ?_
 refine st (ld1 T23 rfl (by assumption) rfl) ?_
 refine st (aw rz rfl (fun v w he h=>by cases h;exact wu (G:=G0) t f _ w (Dv.weak (Dv.ex HV he) fun b _ hb=>hb.elim) (fun b hb=>hb.elim) hl hr hdp.hh hdp.fb hdp.le)) ?_
 refine st (mv rfl) ?_
 refine st (aZ rfl rfl) ?_
 refine st (aZ rfl rfl) ?_
 refine en fun a w e' hf=>?_
 replace HV:=Dv.ex HV e'
 replace e:=e.tr e'
 replace B1:=B1.ext e'
 refine ae hf rfl (by decide) fun a hf=>?_
 refine ae hf rfl (by decide) fun a hf=>?_
 refine aa ?_
 refine seq ?_
 refine ac 2 hf (by decide +kernel) ?_
 refine st (mv rfl) ?_
 refine st (aS rfl) ?_
 refine en fun a w e' hf=>?_
 replace HV:=Dv.ex HV e'
 replace e:=e.tr e'
 replace B1:=B1.ext e'
 refine aa ?_
 replace hf:=hf.kp [1,31]
 refine ifc hf rfl (fun hb=>?_) (fun hb=>?_)
 ·have hb2:¬(bJ t f (rootN t)).2=(t.length:Nat):=by simpa using hb
  refine seq ?_
  refine ah ?_
  refine ae hf rfl (by decide) fun a hf=>?_
  refine aa ?_
  refine aj ?_
  simp only[Exit.then,Exit.inBlock]
  refine al rfl hf rfl ?_
  rintro _ rfl
  exact⟨_,rfl,e,congrArg I (by rw[bZ,if_neg h0',if_neg c1,if_neg c2,if_pos hb2])⟩
 have hb2:(bJ t f (rootN t)).2=(t.length:Nat):=by simpa using hb
 have c3:=Classical.not_not.2 hb2
 refine ak ?_
 simp only[Exit.then,Exit.inBlock,↓reduceIte]
 replace hf:=hf.kp [1]
 refine seq ?_
 refine ah ?_
 refine aJ I56 hf (by decide) fun a b5 w e' hb5 hs5 B5 hf=>?_
 have hle5:=Nat.le_trans e.size (Nat.le_of_eq hb5.symm)
 have lt5_B1:=B1.lt
 replace HV:=Dv.ex HV e'
 replace e:=e.tr e'
 replace B1:=B1.ext e'
 refine aa ?_
 simp only[Value.cells,cV] at B5
 have hne:b1≠b5:=by have:=B1.lt;omega
 clear hb h1 h0 hb2 hrl
 repeat refine seq ?_
 refine ac 3 hf (by decide +kernel) ?_
 refine st (ld1 T23 rfl (by assumption) rfl) ?_
 refine st (ay U23 (isE rfl HV)) ?_
 refine st (mv rfl) ?_
 refine en fun a w e' hf=>?_
 replace HV:=Dv.ex HV e'
 replace e:=e.tr e'
 replace B1:=B1.ext e'
 replace B5:=B5.ext e'
 refine aa ?_
 replace hf:=hf.kp [1,5,33,34]
 refine blk (aG (fun r0 a w=>∃(k:Nat) ,r0=t.length - k∧k≤t.length∧Fr 49 a w [(1,E (.pointer (some ⟨b1,0,none⟩))),(5,E (.pointer (some ⟨b5,0,none⟩))),(33,E (I (t.length:Nat))),(34,E (I k))]∧Ext W w∧Blk w b1 #[v1] 23∧Blk w b5 (aM (dQ t k)) 56∧(Dv aL (GB W G0) t).p v1 w∧∀i,i<k→bK t i &&& dQ t i=0) t.length ⟨0,rfl,by omega,hf,e,B1,B5,HV,(fun i hi=>by omega)⟩ ?_)
 clear hf e;try clear B1;try clear B5;try clear HV;try clear Ho
 rintro r0 a w ⟨k,rfl,hk,hf,e,B1,B5,HV,Ho⟩
 refine seq ?_
 refine ac 1 hf (by decide +kernel) ?_
 refine st (lss rfl rfl) ?_
 refine en fun a w e' hf=>?_
 replace HV:=Dv.ex HV e'
 replace e:=e.tr e'
 replace B1:=B1.ext e'
 replace B5:=B5.ext e'
 refine aa ?_
 refine seq ?_
 refine ifc hf rfl (fun hc=>ak ?_) (fun hc=>aF ?_)
 rotate_left
 rotate_left
 ·have hlt:k<t.length:=by have:=of_decide_eq_true hc;(try dsimp only at this);omega
  clear hc
  replace hf:=hf.kp [1,5,33,34]
  refine seq ?_
  refine blk ?_
  refine seq ?_
  refine ac 1 hf (by decide +kernel) ?_
  refine st (mv rfl) ?_
  refine en fun a w e' hf=>?_
  replace HV:=Dv.ex HV e'
  replace e:=e.tr e'
  replace B1:=B1.ext e'
  replace B5:=B5.ext e'
  refine ae hf rfl (by decide) fun a hf=>?_
  refine aa ?_
  refine seq ?_
  refine ac 3 hf (by decide +kernel) ?_
  refine st (ld1 T23 rfl (by assumption) rfl) ?_
  refine st (mv rfl) ?_
  refine st (ax rA rfl rfl (fun v u w he h h'=>by cases h;cases h';exact wv t k _ w (Dv.ex HV he) hr hlt)) ?_
  refine en fun a w e' hf=>?_
  replace HV:=Dv.ex HV e'
  replace e:=e.tr e'
  replace B1:=B1.ext e'
  replace B5:=B5.ext e'
  clear e'
  refine aJ I56 hf (by decide) fun a b7 w e' hb7 hs7 B7 hf=>?_
  have hle7:=Nat.le_trans e.size (Nat.le_of_eq hb7.symm)
  have lt7_B1:=B1.lt
  have lt7_B5:=B5.lt
  replace HV:=Dv.ex HV e'
  replace e:=e.tr e'
  replace B1:=B1.ext e'
  replace B5:=B5.ext e'
  clear e'
  haveI hinr:∀G0,InR (GB W G0) (some b7):=fun G0=>InR.gb (by omega)
  refine aD T56 hf rfl rfl (bL _) B7 rfl (rfl) fun w hg hsz B7 hf=>?_
  replace HV:=Dv.gr HV hg (.inr (by omega))
  replace e:=e.gr hg (by omega)
  replace B1:=B1.gr hg (by omega)
  replace B5:=B5.gr hg (by omega)
  clear hg
  refine aa ?_
  have hne7:b7≠b5∧b7≠b1:=by omega
  replace hf:=hf.kp [1,5,7,33,34]
  repeat refine seq ?_
  refine ac 5 hf (by decide +kernel) ?_
  refine st (ldW T56 rfl (by assumption) rfl) ?_
  refine st (ldW T56 rfl (by assumption) rfl) ?_
  refine st (ax rB rfl rfl (fun v u w he h h'=>by cases h;cases h';exact tP _ _ w)) ?_
  refine st (aw lT rfl (fun v w he h=>by cases h;exact nb _ w)) ?_
  refine st (aS rfl) ?_
  refine en fun a w e' hf=>?_
  replace HV:=Dv.ex HV e'
  replace e:=e.tr e'
  replace B1:=B1.ext e'
  replace B5:=B5.ext e'
  replace B7:=B7.ext e'
  refine aa ?_
  refine ifc hf rfl (fun hb=>?_) (fun hb=>?_)
  ·have hb3:¬bK t k &&& dQ t k=0:=by simpa using hb
   refine seq ?_
   refine ah ?_
   refine ae hf rfl (by decide) fun a hf=>?_
   refine aa ?_
   refine aj ?_
   simp only[Exit.then,Exit.inBlock]
   refine al rfl hf rfl ?_
   rintro _ rfl
   exact⟨_,rfl,e,congrArg I (by rw[bZ,if_neg h0',if_neg c1,if_neg c2,if_neg c3,if_pos (fun h=>hb3 (h k hlt))])⟩
  ·have hb3:bK t k &&& dQ t k=0:=by simpa using hb
   refine ak ?_
   simp only[Exit.then,Exit.inBlock,↓reduceIte]
   replace hf:=hf.kp [1,5,7,33,34]
   refine ac 3 hf (by decide +kernel) ?_
   refine st (ldW T56 rfl (by assumption) rfl) ?_
   refine st (ldW T56 rfl (by assumption) rfl) ?_
   refine st (ax lQ rfl rfl (fun v u w he h h'=>by cases h;cases h';exact na _ _ w)) ?_
   refine en fun a w e' hf=>?_
   replace HV:=Dv.ex HV e'
   replace e:=e.tr e'
   replace B1:=B1.ext e'
   replace B5:=B5.ext e'
   replace B7:=B7.ext e'
   clear e'
   haveI hinr:∀G0,InR (GB W G0) (some b5):=fun G0=>InR.gb (by omega)
   refine aD T56 hf rfl rfl (bL _) B5 rfl (rfl) fun w hg hsz B5 hf=>?_
   replace HV:=Dv.gr HV hg (.inr (by omega))
   replace e:=e.gr hg (by omega)
   replace B1:=B1.gr hg (by omega)
   replace B7:=B7.gr hg (by omega)
   clear hg
   refine aa ?_
   simp only[Exit.then,Exit.inBlock,↓reduceIte]
   refine ac 1 hf (by decide +kernel) ?_
   refine st ((add rfl rfl (by omega)).eq (congrArg (Value.int .i64) (show (k:Int)+1=((k+1:Nat):Int) from rfl))) ?_
   refine en fun a w e' hf=>?_
   replace HV:=Dv.ex HV e'
   replace e:=e.tr e'
   replace B1:=B1.ext e'
   replace B5:=B5.ext e'
   replace B7:=B7.ext e'
   clear e'
   refine ar hf (by decide) (mv rfl) fun a w e' hf=>?_
   replace HV:=Dv.ex HV e'
   replace e:=e.tr e'
   replace B1:=B1.ext e'
   replace B5:=B5.ext e'
   replace B7:=B7.ext e'
   refine aa ?_
   replace hf:=hf.kp [1,5,33,34]
   refine⟨_,?_,k+1,rfl,by omega,hf,e,?_⟩
   ·omega
   refine⟨B1,B5,HV,fun i hi=>?_⟩
   by_cases hk:i=k
   ·subst hk;exact hb3
   ·exact Ho i (by omega)
 ·obtain rfl:k=t.length:=by have:=of_decide_eq_false hc;(try dsimp only at this);omega
  clear hc
  simp only[Exit.then,Exit.inBlock,↓reduceIte]
  refine seq ?_
  refine ah ?_
  refine ae hf rfl (by decide) fun a hf=>?_
  refine aa ?_
  refine aj ?_
  refine al rfl hf rfl ?_
  rintro _ rfl
  exact⟨_,rfl,e,congrArg I (by rw[bZ,if_neg h0',if_neg c1,if_neg c2,if_neg c3,if_neg (Classical.not_not.2 Ho)])⟩
end Go.Mono
namespace Go.Mono
open Go Go.Proofs Go.RowKit

theorem ww {G:Nat→Prop}(t:List (Int×BS))(v:Value)(W:World)(h:(Dv (slE bR) G t).p v W)(hl:t.length≤4096) :
  Calls Tryz.prog 89 #[v] W (Post (Dv (slE bR) (fun b=>b<W.heap.size) t) W):=by
 have hG:∀b,G0 b→b<W.heap.size:=fun b hb=>hb.elim
 have HV:(Dv (slE bR) (GB W G0) t).p v W:=Dv.toB (Dv.weak h fun b _ hb=>hb.elim)
 have hv:∃ao n c,v=.slice ao n c∧(ao=none→t=[]∧v=.slice none 0 0):=by
  rcases Dv.sl.1 h with ⟨rfl,rfl⟩|⟨ad,cap,cs,rfl,_⟩
  ·exact⟨none,0,0,rfl,fun _=>⟨rfl,rfl⟩⟩
  ·exact⟨_,_,_,rfl,fun h=>by cases h⟩
 obtain⟨ao,n,c,hv1,hv2⟩:=hv
 refine enter (args:=[v]) (As:=[E v]) Tryz.func89 rfl Tryz.ntmps89 (Nat.le_of_ble_eq_true rfl) ?_ (fun a hf=>?_) (Nat.le_of_ble_eq_true rfl)
 rotate_left
 dsimp only[params,Nat.reduceAdd] at hf
 rotate_right
 ·exact arg1 rfl
 have e:=Ext.rfl' W
 rw[hv1] at hf
 refine seq ?_
 refine ah ?_
 refine ae hf rfl (by decide) fun a hf=>?_
 refine aa ?_
 repeat refine seq ?_
 refine ac 2 hf (by decide +kernel) ?_
 refine st (mv rfl) ?_
 refine st (hZ U23 rfl) ?_
 refine en fun a w e' hf=>?_
 replace HV:=Dv.ex HV e'
 replace e:=e.tr e'
 refine aa ?_
 refine ifc hf rfl (fun hb=>?_) (fun hb=>?_)
 ·have hn:ao=none:=by cases ao <;> simp at hb ⊢
  obtain⟨h1,_⟩:=hv2 hn
  subst h1
  refine seq ?_
  refine ah ?_
  refine ae hf rfl (by decide) fun a hf=>?_
  refine aa ?_
  refine aj ?_
  simp only[Exit.then,Exit.inBlock]
  refine al rfl hf rfl ?_
  rintro _ rfl
  exact⟨_,rfl,e,Dv.nil⟩
 ·refine ak ?_
  simp only[Exit.then,Exit.inBlock,↓reduceIte]
  refine seq ?_
  refine ah ?_
  refine gm W.heap.size G0 bR U23 S59 hf (by decide) e.size hG fun a v w e' hov Ho hf=>?_
  replace HV:=Dv.ex HV e'
  replace e:=e.tr e'
  clear e'
  refine ar hf (by decide) (mv rfl) fun a w e' hf=>?_
  replace HV:=Dv.ex HV e'
  replace e:=e.tr e'
  replace Ho:=Ho.ext e'
  clear e'
  haveI hin:∀G0,InR (GB W G0) _:=OwR.inGB (W:=W) Ho (Nat.le_refl _)
  refine bs U23 I59 rfl rfl hf (by decide) rfl Ho (isE rfl (by rw[← hv1];exact Dv.weak HV fun b _ hb=>hb.elim (fun h=>h.elim) (fun h=>.inr (Ho.row (Nat.le_refl _) b h)))) (by simp only[List.length_nil];omega) (by simp only[List.length_nil,maxLen];omega) fun a v w hg hat Hn hf=>?_
  replace e:=e.gro hg (Ho.row (W:=W) (Nat.le_refl _))
  replace Ho:=Hn;clear Hn hg hat hin
  refine ae hf rfl (by decide) fun a hf=>?_
  refine aa ?_
  refine aj ?_
  refine al rfl hf rfl ?_
  rintro _ rfl
  exact⟨_,rfl,e,(OwR.reG (by simpa using Ho) (fun b hb=>hb)).sl⟩

theorem wx {G:Nat→Prop}(t:List (Int))(v:Value)(W:World)(h:(Dv (slE ap) G t).p v W)(hl:t.length≤4096) :
  Calls Tryz.prog 50 #[v] W (Post (Dv (slE ap) (fun b=>b<W.heap.size) t) W):=by
 have hG:∀b,G0 b→b<W.heap.size:=fun b hb=>hb.elim
 have HV:(Dv (slE ap) (GB W G0) t).p v W:=Dv.toB (Dv.weak h fun b _ hb=>hb.elim)
 have hv:∃ao n c,v=.slice ao n c∧(ao=none→t=[]∧v=.slice none 0 0):=by
  rcases Dv.sl.1 h with ⟨rfl,rfl⟩|⟨ad,cap,cs,rfl,_⟩
  ·exact⟨none,0,0,rfl,fun _=>⟨rfl,rfl⟩⟩
  ·exact⟨_,_,_,rfl,fun h=>by cases h⟩
 obtain⟨ao,n,c,hv1,hv2⟩:=hv
 refine enter (args:=[v]) (As:=[E v]) Tryz.func50 rfl Tryz.ntmps50 (Nat.le_of_ble_eq_true rfl) ?_ (fun a hf=>?_) (Nat.le_of_ble_eq_true rfl)
 rotate_left
 dsimp only[params,Nat.reduceAdd] at hf
 rotate_right
 ·exact arg1 rfl
 have e:=Ext.rfl' W
 rw[hv1] at hf
 refine seq ?_
 refine ah ?_
 refine ae hf rfl (by decide) fun a hf=>?_
 refine aa ?_
 repeat refine seq ?_
 refine ac 2 hf (by decide +kernel) ?_
 refine st (mv rfl) ?_
 refine st (hZ U63 rfl) ?_
 refine en fun a w e' hf=>?_
 replace HV:=Dv.ex HV e'
 replace e:=e.tr e'
 refine aa ?_
 refine ifc hf rfl (fun hb=>?_) (fun hb=>?_)
 ·have hn:ao=none:=by cases ao <;> simp at hb ⊢
  obtain⟨h1,_⟩:=hv2 hn
  subst h1
  refine seq ?_
  refine ah ?_
  refine ae hf rfl (by decide) fun a hf=>?_
  refine aa ?_
  refine aj ?_
  simp only[Exit.then,Exit.inBlock]
  refine al rfl hf rfl ?_
  rintro _ rfl
  exact⟨_,rfl,e,Dv.nil⟩
 ·refine ak ?_
  simp only[Exit.then,Exit.inBlock,↓reduceIte]
  refine seq ?_
  refine ah ?_
  refine gm W.heap.size G0 ap U63 S3 hf (by decide) e.size hG fun a v w e' hov Ho hf=>?_
  replace HV:=Dv.ex HV e'
  replace e:=e.tr e'
  clear e'
  refine ar hf (by decide) (mv rfl) fun a w e' hf=>?_
  replace HV:=Dv.ex HV e'
  replace e:=e.tr e'
  replace Ho:=Ho.ext e'
  clear e'
  haveI hin:∀G0,InR (GB W G0) _:=OwR.inGB (W:=W) Ho (Nat.le_refl _)
  refine bs U63 I3 rfl rfl hf (by decide) rfl Ho (isE rfl (by rw[← hv1];exact Dv.weak HV fun b _ hb=>hb.elim (fun h=>h.elim) (fun h=>.inr (Ho.row (Nat.le_refl _) b h)))) (by simp only[List.length_nil];omega) (by simp only[List.length_nil,maxLen];omega) fun a v w hg hat Hn hf=>?_
  replace e:=e.gro hg (Ho.row (W:=W) (Nat.le_refl _))
  replace Ho:=Hn;clear Hn hg hat hin
  refine ae hf rfl (by decide) fun a hf=>?_
  refine aa ?_
  refine aj ?_
  refine al rfl hf rfl ?_
  rintro _ rfl
  exact⟨_,rfl,e,(OwR.reG (by simpa using Ho) (fun b hb=>hb)).sl⟩


theorem wy {G:Nat→Prop}(t:List (Int×BS))(v:Value)(W:World)(h:(Dv aL G t).p v W)(hl:t.length≤4096) :
  Calls Tryz.prog 41 #[v] W (Post (Dv aL (fun b=>b<W.heap.size) t) W):=by
 refine enter (args:=[v]) (As:=[Dv aL G t]) Tryz.func41 rfl Tryz.ntmps41 (Nat.le_of_ble_eq_true rfl) ?_ (fun a hf=>?_) (Nat.le_of_ble_eq_true rfl)
 rotate_left
 dsimp only[params,Nat.reduceAdd] at hf
 rotate_right
 ·exact arg1 h
 have e:=Ext.rfl' W
 refine seq ?_
 refine ah ?_
 refine ae hf rfl (by decide) fun a hf=>?_
 refine aa ?_
 refine seq ?_
 refine ac 2 hf (by decide +kernel) ?_
 refine st (mv rfl) ?_
 refine st (aw lU rfl (fun v w he h=>Calls.mono (ww _ _ w h hl) (fun en w' ⟨u,h1,h2,h3⟩=>⟨u,h1,h2,Dv.weak (G':=fun b=>b<W.heap.size) h3 fun b _ hb=>Nat.lt_of_lt_of_le hb (Nat.le_trans e.size he.size)⟩))) ?_
 refine en fun a w e' hf=>?_
 replace e:=e.tr e'
 refine ae hf rfl (by decide) fun a hf=>?_
 refine aa ?_
 refine aj ?_
 refine al rfl hf rfl ?_
 intro v hv
 exact⟨_,rfl,e,hv⟩


theorem wz {G:Nat→Prop}(t:List (Int×BS))(f:Nat)(v:Value)(W:World)(h:(Dv aL G t).p v W)(hl:t.length≤4096)
  (hd:Rng t→(rootN t).length=1→Dp t f) (hc:bZ t f=0) (r0:Nat) (hr0:(dK t)[0]?=some (r0:Int)) :
  Calls Tryz.prog 44 #[v] W (Post (E (I (r0:Nat))) W):=by
 refine enter (args:=[v]) (As:=[Dv aL G0 t]) Tryz.func44 rfl Tryz.ntmps44 (Nat.le_of_ble_eq_true rfl) ?_ (fun a hf=>?_) (Nat.le_of_ble_eq_true rfl)
 rotate_left
 dsimp only[params,Nat.reduceAdd] at hf
 rotate_right
 ·exact arg1 (Dv.weak h fun b _ hb=>hb.elim)
 have e:=Ext.rfl' W
 refine seq ?_
 refine ah ?_
 refine ae hf rfl (by decide) fun a hf=>?_
 refine aa ?_
 repeat refine seq ?_
 refine ac 3 hf (by decide +kernel) ?_
 refine st (mv rfl) ?_
 refine st (aw gV rfl (fun v w he h=>iD t f _ w h hl hd)) ?_
 refine st ((neq rfl rfl).eq (congrArg Value.bool (show (bZ t f != 0)=false from by rw[hc];rfl))) ?_
 refine en fun a w e' hf=>?_
 replace e:=e.tr e'
 refine aa ?_
 refine ifc hf rfl (fun h=>by cases h) (fun _=>?_)
 refine ak ?_
 simp only[Exit.then,Exit.inBlock,↓reduceIte]
 refine seq ?_
 refine ac 4 hf (by decide +kernel) ?_
 refine st (mv rfl) ?_
 refine st (aw jb rfl (fun v w he h=>jt (G:=G0) t _ w h (fun b hb=>hb.elim) hl)) ?_
 refine st (az U63 S3 (isR rfl) rfl (by omega) (hr0)) ?_
 refine st (ldI T3 (isR rfl)) ?_
 refine en fun a w e' hf=>?_
 replace e:=e.tr e'
 refine ae hf rfl (by decide) fun a hf=>?_
 refine aa ?_
 refine aj ?_
 refine al rfl hf rfl ?_
 rintro _ rfl
 exact⟨_,rfl,e,rfl⟩

theorem kD {G:Nat→Prop}(r:List Int)(v:Value)(W:World)(h:(Dv (slE ap) G r).p v W)(hl:r.length≤4096) :
  Calls Tryz.prog 18 #[v] W (Post (E (au (r.foldl ins 0))) W):=by
 refine enter (args:=[v]) (As:=[Dv (slE ap) (GB W G) r]) Tryz.func18 rfl Tryz.ntmps18 (Nat.le_of_ble_eq_true rfl) ?_ (fun a hf=>?_) (Nat.le_of_ble_eq_true rfl)
 rotate_left
 dsimp only[params,Nat.reduceAdd] at hf
 rotate_right
 ·exact arg1 (Dv.toB h)
 have e:=Ext.rfl' W
 refine seq ?_
 refine ah ?_
 refine aJ I56 hf (by decide) fun a b2 w e' hb2 hs2 B2 hf=>?_
 have hle2:=Nat.le_trans e.size (Nat.le_of_eq hb2.symm)
 replace e:=e.tr e'
 refine aa ?_
 refine seq ?_
 refine ah ?_
 refine aJ I56 hf (by decide) fun a b3 w e' hb3 hs3 B3 hf=>?_
 have hle3:=Nat.le_trans e.size (Nat.le_of_eq hb3.symm)
 have lt3_B2:=B2.lt
 replace e:=e.tr e'
 replace B2:=B2.ext e'
 refine aa ?_
 have hne:b2≠b3:=by omega
 simp only[Value.cells,cV] at B2 B3
 repeat refine seq ?_
 refine ac 3 hf (by decide +kernel) ?_
 refine st (mv rfl) ?_
 refine st (ay U63 (isR rfl)) ?_
 refine st (mv rfl) ?_
 refine en fun a w e' hf=>?_
 replace e:=e.tr e'
 replace B2:=B2.ext e'
 replace B3:=B3.ext e'
 refine aa ?_
 replace hf:=hf.kp [2,3,6,7,8]
 refine blk (aG (fun r0 a w=>∃(k:Nat) ,r0=r.length - k∧k≤r.length∧Fr 17 a w [(2,E (.pointer (some ⟨b2,0,none⟩))),(3,E (.pointer (some ⟨b3,0,none⟩))),(6,Dv (slE ap) (GB W G) r),(7,E (I (r.length:Nat))),(8,E (I k))]∧Ext W w∧Blk w b2 (aM 0) 56∧Blk w b3 (aM ((r.take k).foldl ins 0)) 56) r.length ⟨0,rfl,by omega,hf,e,B2,B3⟩ ?_)
 clear hf e;try clear B2;try clear B3
 rintro r0 a w ⟨k,rfl,hk,hf,e,B2,B3⟩
 refine seq ?_
 refine ac 1 hf (by decide +kernel) ?_
 refine st (lss rfl rfl) ?_
 refine en fun a w e' hf=>?_
 replace e:=e.tr e'
 replace B2:=B2.ext e'
 replace B3:=B3.ext e'
 refine aa ?_
 refine seq ?_
 refine ifc hf rfl (fun hc=>ak ?_) (fun hc=>aF ?_)
 rotate_left
 rotate_left
 ·have hlt:k<r.length:=by have:=of_decide_eq_true hc;(try dsimp only at this);omega
  clear hc
  replace hf:=hf.kp [2,3,6,7,8]
  refine seq ?_
  refine blk ?_
  have hx:=em hlt
  have hS:(r.take (k+1)).foldl ins 0=ins ((r.take k).foldl ins 0) (gi r k):=by rw[fE hlt,List.foldl_append];rfl
  refine seq ?_
  refine ac 2 hf (by decide +kernel) ?_
  refine st (az U63 S3 (isR rfl) rfl (by omega) (hx)) ?_
  refine st (ldI T3 (isR rfl)) ?_
  refine en fun a w e' hf=>?_
  replace e:=e.tr e'
  replace B2:=B2.ext e'
  replace B3:=B3.ext e'
  refine ae hf rfl (by decide) fun a hf=>?_
  refine aa ?_
  refine ac 3 hf (by decide +kernel) ?_
  refine st (ldW T56 rfl (by assumption) rfl) ?_
  refine st (mv rfl) ?_
  refine st (ax lJ rfl rfl (fun v u w he h h'=>by cases h;cases h';exact mj _ _ w)) ?_
  refine en fun a w e' hf=>?_
  replace e:=e.tr e'
  replace B2:=B2.ext e'
  replace B3:=B3.ext e'
  clear e'
  haveI hinr:∀G0,InR (GB W G0) (some b3):=fun G0=>InR.gb (by omega)
  refine aD T56 hf rfl rfl (bL _) B3 rfl (rfl) fun w hg hsz B3 hf=>?_
  replace e:=e.gr hg (by omega)
  replace B2:=B2.gr hg (by omega)
  clear hg
  refine aa ?_
  simp only[Exit.then,Exit.inBlock,↓reduceIte]
  rw[← hS] at B3
  refine ac 1 hf (by decide +kernel) ?_
  refine st ((add rfl rfl (by omega)).eq (congrArg (Value.int .i64) (show (k:Int)+1=((k+1:Nat):Int) from rfl))) ?_
  refine en fun a w e' hf=>?_
  replace e:=e.tr e'
  replace B2:=B2.ext e'
  replace B3:=B3.ext e'
  clear e'
  refine ar hf (by decide) (mv rfl) fun a w e' hf=>?_
  replace e:=e.tr e'
  replace B2:=B2.ext e'
  replace B3:=B3.ext e'
  refine aa ?_
  replace hf:=hf.kp [2,3,6,7,8]
  refine⟨_,?_,k+1,rfl,by omega,hf,e,?_⟩
  ·omega
  exact⟨B2,B3⟩
 ·obtain rfl:k=r.length:=by have:=of_decide_eq_false hc;(try dsimp only at this);omega
  clear hc
  simp only[Exit.then,Exit.inBlock,↓reduceIte]
  rw[List.take_length] at B3
  replace hf:=hf.kp [2,3]
  refine seq ?_
  refine ac 1 hf (by decide +kernel) ?_
  refine st (ldW T56 rfl (by assumption) rfl) ?_
  refine en fun a w e' hf=>?_
  replace e:=e.tr e'
  replace B2:=B2.ext e'
  replace B3:=B3.ext e'
  clear e'
  haveI hinr:∀G0,InR (GB W G0) (some b2):=fun G0=>InR.gb (by omega)
  refine aD T56 hf rfl rfl (bL _) B2 rfl (rfl) fun w hg hsz B2 hf=>?_
  replace e:=e.gr hg (by omega)
  replace B3:=B3.gr hg (by omega)
  clear hg
  refine aa ?_
  refine aj (dH rfl T56 hf rfl B2 e rfl)
abbrev Nd:=List Int×List Int×Int×Int×Int
abbrev dR:Enc Nd:=prE (slE ap) (prE (slE ap) (prE ap (prE ap ap)))
abbrev Fm:=List (Int×BS)×List Nd×(Int→Option Int)
noncomputable abbrev frE:Enc Fm:=prE aL (prE (slE dR) (jy Tryz.prog 3 3))
def inT (t:List (Int×BS))(b:Int):Bool:=decide (0≤b)&&decide (b<(t.length:Nat))

theorem wA {G:Nat→Prop}(F:Fm)(b:Int)(v:Value)(W:World)(h:(Dv (ptE frE) G (some F)).p v W) :
  Calls Tryz.prog 97 #[v,I b] W (Post (E (B (inT F.1 b))) W):=by
 refine enter (args:=[v,I b]) (As:=[Dv (ptE frE) G (some F),E (I b)]) Tryz.func97 rfl Tryz.ntmps97 (Nat.le_of_ble_eq_true rfl) ?_ (fun a hf=>?_) (Nat.le_of_ble_eq_true rfl)
 rotate_left
 dsimp only[params,Nat.reduceAdd] at hf
 rotate_right
 ·exact arg2 h rfl
 have e:=Ext.rfl' W
 refine seq ?_
 refine ah ?_
 refine ae hf rfl (by decide) fun a hf=>?_
 refine aa ?_
 cases h1:decide (0≤b)
 ·refine seq ?_
  refine ac 15 hf (by decide +kernel) ?_
  refine st (mv rfl) ?_
  refine st (mD U27 (isR rfl)) ?_
  refine st (mv rfl) ?_
  refine sy rfl rfl (mv rfl) ?_
  refine sy rfl rfl ((geq rfl rfl).eq (congrArg Value.bool (h1))) ?_
  refine st (pkT rfl rfl) ?_
  refine st (mv rfl) ?_
  refine sn rfl rfl rfl ?_
  refine sn rfl rfl rfl ?_
  refine sn rfl rfl rfl ?_
  refine sn rfl rfl rfl ?_
  refine sn rfl rfl rfl ?_
  refine sn rfl rfl rfl ?_
  refine sn rfl rfl rfl ?_
  refine st (pkF rfl rfl) ?_
  refine en fun a w e' hf=>?_
  replace e:=e.tr e'
  refine ae hf rfl (by decide) fun a hf=>?_
  refine aa ?_
  refine aj ?_
  refine al rfl hf rfl ?_
  rintro _ rfl
  exact⟨_,rfl,e,congrArg B (by rw[inT,h1];rfl)⟩
 ·refine seq ?_
  refine ac 15 hf (by decide +kernel) ?_
  refine st (mv rfl) ?_
  refine st (mD U27 (isR rfl)) ?_
  refine st (mv rfl) ?_
  refine sy rfl rfl (mv rfl) ?_
  refine sy rfl rfl ((geq rfl rfl).eq (congrArg Value.bool (h1))) ?_
  refine st (pkT rfl rfl) ?_
  refine st (mv rfl) ?_
  refine sy rfl rfl (mv rfl) ?_
  refine sy rfl rfl (mv rfl) ?_
  refine sy rfl rfl (ct (isR rfl)) ?_
  refine sy rfl rfl (am U82 rfl T23 (by decide) (Fld.fst Fld.refl) (isR rfl)) ?_
  refine sy rfl rfl (ldD T23 (isR rfl)) ?_
  refine sy rfl rfl (ay U23 (isR rfl)) ?_
  refine sy rfl rfl (lss rfl rfl) ?_
  refine st (pkT rfl rfl) ?_
  refine en fun a w e' hf=>?_
  replace e:=e.tr e'
  refine ae hf rfl (by decide) fun a hf=>?_
  refine aa ?_
  refine aj ?_
  refine al rfl hf rfl ?_
  rintro _ rfl
  exact⟨_,rfl,e,congrArg B (by rw[inT,h1];rfl)⟩

def ndG (F:Fm)(i:Nat):Nd:=match F.2.1[i]? with
 | some x=>x
 | none=>([],[],0,-1,0)
theorem wB {F:Fm}{i:Nat}(h:i<F.2.1.length):F.2.1[i]?=some (ndG F i):=by simp[ndG,h]
def ofF (F:Fm)(b:Int):Nd:=if inT F.1 b then ndG F b.toNat else ([],[],0,-1,0)
theorem wC:Tryz.prog.built 100 [(3,I (-1))]=some #[.slice none 0 0,.slice none 0 0,I 0,I (-1),I 0]:=by kernel_rfl
theorem wD {G:Nat→Prop}{w:World}:dR.r G w ([],[],0,-1,0) [.slice none 0 0,.slice none 0 0,I 0,I (-1),I 0]:=
 ⟨[.slice none 0 0],[.slice none 0 0,I 0,I (-1),I 0],rfl,⟨_,rfl,.inl ⟨rfl,rfl⟩⟩,[.slice none 0 0],[I 0,I (-1),I 0],rfl,⟨_,rfl,.inl ⟨rfl,rfl⟩⟩,[I 0],[I (-1),I 0],rfl,rfl,[I (-1)],[I 0],rfl,rfl,rfl⟩

theorem iE {G:Nat→Prop}(F:Fm)(b:Int)(v:Value)(W:World)(h:(Dv (ptE frE) G (some F)).p v W)(hl:F.2.1.length=F.1.length) :
  Calls Tryz.prog 56 #[v,I b] W (Post (Dv dR G (ofF F b)) W):=by
 refine enter (args:=[v,I b]) (As:=[Dv (ptE frE) (GB W G) (some F),E (I b)]) Tryz.func56 rfl Tryz.ntmps56 (Nat.le_of_ble_eq_true rfl) ?_ (fun a hf=>?_) (Nat.le_of_ble_eq_true rfl)
 rotate_left
 dsimp only[params,Nat.reduceAdd] at hf
 rotate_right
 ·exact arg2 (Dv.toB h) rfl
 have e:=Ext.rfl' W
 refine seq ?_
 refine ah ?_
 refine aJ ls hf (by decide) fun a b4 w e' hb4 hs4 B4 hf=>?_
 have hle4:=Nat.le_trans e.size (Nat.le_of_eq hb4.symm)
 replace e:=e.tr e'
 refine aa ?_
 repeat refine seq ?_
 refine ac 4 hf (by decide +kernel) ?_
 refine st (mv rfl) ?_
 refine st (mv rfl) ?_
 refine st (ax rG rfl rfl (fun v u w he h h'=>by cases h';exact wA F _ _ w h)) ?_
 refine st (aS rfl) ?_
 refine en fun a w e' hf=>?_
 replace e:=e.tr e'
 replace B4:=B4.ext e'
 refine aa ?_
 refine ifc hf rfl (fun hb=>?_) (fun hb=>?_)
 ·have hb':inT F.1 b=false:=by simpa using hb
  replace hf:=hf.kp [4]
  refine seq ?_
  refine ac 1 hf (by decide +kernel) ?_
  refine st (tj wC) ?_
  refine en fun a w e' hf=>?_
  replace e:=e.tr e'
  replace B4:=B4.ext e'
  clear e'
  haveI hinr:∀G0,InR (GB W G0) (some b4):=fun G0=>InR.gb (by omega)
  refine aD ge hf rfl rfl (by decide +kernel) B4 rfl (rfl) fun w hg hsz B4 hf=>?_
  replace e:=e.gr hg (by omega)
  clear hg
  refine aa ?_
  refine aj (cR rfl ge hf rfl B4 rfl ⟨_,rfl,e,?_⟩)
  rw[ofF,hb']
  exact⟨_,wD,rfl⟩
 ·have hb':inT F.1 b=true:=by simpa using hb
  have hb2:0≤b∧b<(F.1.length:Nat):=by simpa[inT] using hb'
  refine ak ?_
  simp only[Exit.then,Exit.inBlock,↓reduceIte]
  refine seq ?_
  refine ac 7 hf (by decide +kernel) ?_
  refine st (mv rfl) ?_
  refine st (ct (isR rfl)) ?_
  refine st (am U82 rfl T79 (by decide) (Fld.snd (Fld.fst Fld.refl) rfl) (isR rfl)) ?_
  refine st (ldD T79 (isR rfl)) ?_
  refine st (mv rfl) ?_
  refine st (az U79 ee (isR rfl) rfl (by omega) (wB (i:=b.toNat) (by omega))) ?_
  refine st (ldD ge (isR rfl)) ?_
  refine en fun a w e' hf=>?_
  replace e:=e.tr e'
  replace B4:=B4.ext e'
  clear e'
  obtain⟨v,⟨cs,hcs,hv⟩,hf⟩:=hf.fix 16 rfl
  subst hv
  have hcl:cs.toArray.size=5:=by rw[List.size_toArray];exact dR.len hcs
  replace hf:=hf.kp [4,16]
  haveI hinr:∀G0,InR (GB W G0) (some b4):=fun G0=>InR.gb (by omega)
  refine aD ge hf rfl rfl (Array.all_eq_true_iff_forall_mem.2 fun u hu=>dR.one hcs u (by simpa using hu)) B4 rfl hcl fun w hg hsz B4 hf=>?_
  replace e:=e.gr hg (by omega)
  replace hcs:=Enc.gro hcs hg (fun c hc=>by cases hc;exact .inr (by omega))
  refine aa ?_
  refine aj (cR rfl ge hf rfl B4 hcl ⟨_,rfl,e,?_⟩)
  rw[ofF,hb']
  exact⟨cs,dR.weak hcs fun b _ hb=>.inl hb,rfl⟩
end Go.Mono
namespace Go.Mono
open Go Go.Proofs Go.RowKit Go.Gr
def eO (l:List VT):BS:=(l.map (·.1)).foldl ins 0
def dy (t:List (Int×BS)):BS:=t.foldl (fun S b=>S ||| b.2) 0
def dz (t:List (Int×BS))(e:ET):Bool:=decide (0≤dj (fun b=>has b.2 e.1.1&&has b.2 e.1.2) t)
noncomputable def cgR (t:List (Int×BS))(f:Nat)(g:GT):Int:=
 if (bZ t f != 0)=true then bZ t f else if (!(eO g.1 &&& ~~~dy t==0))=true then 9 else if g.2.all (dz t)=true then 0 else 23
theorem wE {G:Nat→Prop}{N:Nat}(g:GT)(v:Value)(W:World)(h:(Dv (ptE (grE N)) G (some g)).p v W)(hs:g.1.Pairwise fun x y=>lt1 x.1 y.1=true)(hl:g.1.length≤100000)(hN:N≤1000000) :
  Calls Tryz.prog 67 #[v] W (Post (E (au (eO g.1))) W):=by
 have h0:(Dv (ptE (grE N)) G0 (some g)).p v W:=Dv.weak h fun b _ hb=>hb.elim
 refine enter (args:=[v]) (As:=[E v]) Tryz.func67 rfl Tryz.ntmps67 (Nat.le_of_ble_eq_true rfl) ?_ (fun a hf=>?_) (Nat.le_of_ble_eq_true rfl)
 rotate_left
 dsimp only[params,Nat.reduceAdd] at hf
 rotate_right
 ·exact arg1 rfl
 have e:=Ext.rfl' W
 refine seq ?_
 refine ah ?_
 refine aJ I56 hf (by decide) fun a b2 w e' hb2 hs2 B2 hf=>?_
 have hle2:=Nat.le_trans e.size (Nat.le_of_eq hb2.symm)
 replace e:=e.tr e'
 refine aa ?_
 refine seq ?_
 refine ah ?_
 refine aJ I56 hf (by decide) fun a b3 w e' hb3 hs3 B3 hf=>?_
 have hle3:=Nat.le_trans e.size (Nat.le_of_eq hb3.symm)
 have lt3_B2:=B2.lt
 replace e:=e.tr e'
 replace B2:=B2.ext e'
 refine aa ?_
 simp only[Value.cells,cV] at B2 B3
 obtain⟨N0,hN0⟩:∃N0,N0=w.heap.size:=⟨_,rfl⟩
 have l2:b2<N0:=by rw[hN0];exact B2.lt
 have l3:b3<N0:=by rw[hN0];exact B3.lt
 have hN0':N0≤w.heap.size:=Nat.le_of_eq hN0
 have e0:=e
 repeat refine seq ?_
 refine ac 2 hf (by decide +kernel) ?_
 refine st (mv rfl) ?_
 refine st (aw (A:=OwA vtE 72 N0 G0 g.1) lC rfl (fun v w he k=>by cases k;exact (oZ (G:=G0) g _ w (VA.st _ _ _ _ (Ext.tr e0 he) h0) (fun b hb=>hb.elim) hs hl hN).mono fun en w' ⟨u,k1,k2,k3⟩=>⟨u,k1,k2,OwR.low k3 (Nat.le_trans hN0' he.size) fun b hb=>hb.elim⟩)) ?_
 refine en fun a w e' hf=>?_
 replace e:=e.tr e'
 replace B2:=B2.ext e'
 replace B3:=B3.ext e'
 clear e'
 obtain⟨u,Ho,hf⟩:=hf.fix 7 rfl
 replace Ho:OwR vtE 72 N0 G0 w g.1 u:=Ho
 obtain⟨NV,hNV⟩:∃NV:Nat→Prop,NV=fun b=>u.ownBlock≠some b:=⟨_,rfl⟩
 have HD:(Dv (slE vtE) NV g.1).p u w:=Ho.slN fun b hb=>by rw[hNV];exact fun h=>h hb
 obtain⟨N5,hN5⟩:∃N5,N5=w.heap.size:=⟨_,rfl⟩
 have nV:∀bb,(bb<N0∨N5≤bb)→NV bb:=fun bb hb=>by rw[hNV];intro h;have h3:=Ho.lt h;omega
 have hN5s:N5≤w.heap.size:=Nat.le_of_eq hN5
 have hNN:N0≤N5:=by rw[hN5];exact Ho.base
 clear hN5 hNV Ho e0 hN0' hN0
 refine ar hf (by decide) (ay U69 (isE rfl HD)) fun a w e' hf=>?_
 replace HD:=VA.st _ _ _ _ e' HD
 replace hN5s:=Nat.le_trans hN5s e'.size
 replace e:=e.tr e'
 replace B2:=B2.ext e'
 replace B3:=B3.ext e'
 clear e'
 refine ar hf (by decide) (mv rfl) fun a w e' hf=>?_
 replace HD:=VA.st _ _ _ _ e' HD
 replace hN5s:=Nat.le_trans hN5s e'.size
 replace e:=e.tr e'
 replace B2:=B2.ext e'
 replace B3:=B3.ext e'
 refine aa ?_
 replace hf:=hf.kp [2,3,7,8,9]
 refine blk (aG (fun r0 a w=>∃(k:Nat) ,r0=g.1.length - k∧k≤g.1.length∧Fr 19 a w [(2,E (.pointer (some ⟨b2,0,none⟩))),(3,E (.pointer (some ⟨b3,0,none⟩))),(7,E u),(8,E (I (g.1.length:Nat))),(9,E (I k))]∧Ext W w∧Blk w b2 (aM 0) 56∧Blk w b3 (aM (((g.1.take k).map (·.1)).foldl ins 0)) 56∧(Dv (slE vtE) NV g.1).p u w∧N5≤w.heap.size) g.1.length ⟨0,rfl,by omega,hf,e,⟨B2,B3,HD,hN5s⟩⟩ ?_)
 clear hf e;try clear B2;try clear B3;try clear HD;try clear hN5s
 rintro r0 a w ⟨k,rfl,hk,hf,e,B2,B3,HD,hN5s⟩
 refine seq ?_
 refine ac 1 hf (by decide +kernel) ?_
 refine st (lss rfl rfl) ?_
 refine en fun a w e' hf=>?_
 replace HD:=VA.st _ _ _ _ e' HD
 replace hN5s:=Nat.le_trans hN5s e'.size
 replace e:=e.tr e'
 replace B2:=B2.ext e'
 replace B3:=B3.ext e'
 refine aa ?_
 refine seq ?_
 refine ifc hf rfl (fun hc=>ak ?_) (fun hc=>aF ?_)
 rotate_left
 rotate_left
 ·have hlt:k<g.1.length:=by have:=of_decide_eq_true hc;(try dsimp only at this);omega
  clear hc
  replace hf:=hf.kp [2,3,7,8,9]
  refine seq ?_
  refine blk ?_
  have hg:=List.getElem?_eq_getElem hlt
  generalize g.1[k]=y at hg
  have hS:((g.1.take (k+1)).map (·.1)).foldl ins 0=ins (((g.1.take k).map (·.1)).foldl ins 0) y.1:=by rw[cG hg,List.map_append,List.foldl_append];rfl
  obtain⟨S,hS0⟩:∃S,S=((g.1.take k).map (·.1)).foldl ins 0:=⟨_,rfl⟩
  rw[← hS0] at B3 hS
  refine seq ?_
  refine ah ?_
  refine ar hf (by decide) (az U69 S72 (isE rfl HD) rfl (by omega) (hg)) fun a w e' hf=>?_
  replace HD:=VA.st _ _ _ _ e' HD
  replace hN5s:=Nat.le_trans hN5s e'.size
  replace e:=e.tr e'
  replace B2:=B2.ext e'
  replace B3:=B3.ext e'
  clear e'
  refine ar hf (by decide) (ev T72 (isR rfl)) fun a w e' hf=>?_
  replace HD:=VA.st _ _ _ _ e' HD
  replace hN5s:=Nat.le_trans hN5s e'.size
  replace e:=e.tr e'
  replace B2:=B2.ext e'
  replace B3:=B3.ext e'
  clear e'
  refine aJ I72 hf (by decide) fun a b5 w e' hb5 hs5 B5 hf=>?_
  have hle5:=Nat.le_trans e.size (Nat.le_of_eq hb5.symm)
  have lo5_hN5s:=Nat.le_trans hN5s (Nat.le_of_eq hb5.symm)
  have lt5_B2:=B2.lt
  have lt5_B3:=B3.lt
  replace HD:=VA.st _ _ _ _ e' HD
  replace hN5s:=Nat.le_trans hN5s e'.size
  replace e:=e.tr e'
  replace B2:=B2.ext e'
  replace B3:=B3.ext e'
  clear e'
  replace hf:=hf.kp [2,3,5,7,8,9,12]
  refine aD T72 hf rfl rfl (jX y) B5 rfl rfl fun w hg' hsz B5 hf=>?_
  replace e:=e.gr hg' (by omega);replace B2:=B2.gr hg' (by omega);replace B3:=B3.gr hg' (by omega);replace HD:=Dv.grN HD hg' (fun bb hb=>nV bb (by cases hb;omega));replace hN5s:=Nat.le_trans hN5s hg'.size;clear hg'
  refine aa ?_
  replace hf:=hf.kp [2,3,5,7,8,9]
  refine ac 4 hf (by decide +kernel) ?_
  refine st ((ldW T56 rfl B3 rfl).eq ((rfl:_=au S))) ?_
  refine st (ai U72 rfl T3 (by decide) rfl) ?_
  refine st (ld1 T3 rfl B5 rfl) ?_
  refine st (ax (A:=E (au (ins S y.1))) lJ rfl rfl (fun v u w he h h'=>by cases h;cases h';exact mj S y.1 w)) ?_
  refine en fun a w e' hf=>?_
  replace HD:=VA.st _ _ _ _ e' HD
  replace hN5s:=Nat.le_trans hN5s e'.size
  replace e:=e.tr e'
  replace B2:=B2.ext e'
  replace B3:=B3.ext e'
  replace B5:=B5.ext e'
  clear e'
  replace hf:=hf.kp [2,3,7,8,9,16]
  refine aD T56 hf rfl rfl (bL _) B3 rfl (dF _) fun w hg' hsz B3 hf=>?_
  replace e:=e.gr hg' (by omega);replace B2:=B2.gr hg' (by omega);replace HD:=Dv.grN HD hg' (fun bb hb=>nV bb (by cases hb;omega));replace hN5s:=Nat.le_trans hN5s hg'.size;clear hg' B5
  refine aa ?_
  simp only[Exit.then,Exit.inBlock,↓reduceIte]
  refine ac 1 hf (by decide +kernel) ?_
  refine st ((add rfl rfl (by omega)).eq (congrArg (Value.int .i64) (show (k:Int)+1=((k+1:Nat):Int) from rfl))) ?_
  refine en fun a w e' hf=>?_
  replace HD:=VA.st _ _ _ _ e' HD
  replace hN5s:=Nat.le_trans hN5s e'.size
  replace e:=e.tr e'
  replace B2:=B2.ext e'
  replace B3:=B3.ext e'
  clear e'
  refine ar hf (by decide) (mv rfl) fun a w e' hf=>?_
  replace HD:=VA.st _ _ _ _ e' HD
  replace hN5s:=Nat.le_trans hN5s e'.size
  replace e:=e.tr e'
  replace B2:=B2.ext e'
  replace B3:=B3.ext e'
  refine aa ?_
  replace hf:=hf.kp [2,3,7,8,9]
  refine⟨_,?_,k+1,rfl,by omega,hf,e,?_⟩
  ·omega
  rw[hS]
  exact⟨B2,B3,HD,hN5s⟩
 ·obtain rfl:k=g.1.length:=by have:=of_decide_eq_false hc;(try dsimp only at this);omega
  clear hc
  simp only[Exit.then,Exit.inBlock,↓reduceIte]
  rw[List.take_length] at B3
  replace hf:=hf.kp [2,3]
  refine seq ?_
  refine ac 1 hf (by decide +kernel) ?_
  refine st ((ldW T56 rfl B3 rfl).eq ((rfl:_=au (eO g.1)))) ?_
  refine en fun a w e' hf=>?_
  replace HD:=VA.st _ _ _ _ e' HD
  replace hN5s:=Nat.le_trans hN5s e'.size
  replace e:=e.tr e'
  replace B2:=B2.ext e'
  replace B3:=B3.ext e'
  clear e'
  haveI hinr:∀G0,InR (GB W G0) (some b2):=fun G0=>InR.gb (by omega)
  refine aD T56 hf rfl rfl (bL _) B2 rfl (rfl) fun w hg hsz B2 hf=>?_
  replace HD:=Dv.grN HD hg (fun bb hb=>nV bb (by cases hb;omega))
  replace hN5s:=Nat.le_trans hN5s hg.size
  replace e:=e.gr hg (by omega)
  replace B3:=B3.gr hg (by omega)
  clear hg
  refine aa ?_
  refine aj (cR rfl T56 hf rfl B2 (dF _) ?_)
  exact⟨_,rfl,e,rfl⟩
theorem wF (b:Int×BS)(c:Nat)(x:ET)(W:World)(hc:Blk W c (etV x).cells 75) :
  Calls Tryz.prog 69 #[bY b,.pointer (some ⟨c,0,none⟩)] W (Post (E (B (has b.2 x.1.1&&has b.2 x.1.2))) W):=by
 refine enter (args:=[bY b,.pointer (some ⟨c,0,none⟩)]) (As:=[E (bY b),E (.pointer (some ⟨c,0,none⟩))]) Tryz.func69 rfl Tryz.ntmps69 (Nat.le_of_ble_eq_true rfl) ?_ (fun a hf=>?_) (Nat.le_of_ble_eq_true rfl)
 rotate_left
 dsimp only[params,Nat.reduceAdd] at hf
 rotate_right
 ·exact arg2 rfl rfl
 have e:=Ext.rfl' W
 have HC:=hc
 refine seq ?_
 refine ah ?_
 refine aH hf rfl (by decide) fun a b2 w v2 hv2 e' hb2 hs2 B2 hf=>?_
 have hle2:=Nat.le_trans e.size (Nat.le_of_eq hb2.symm)
 replace e:=e.tr e'
 replace HC:=HC.ext e'
 refine ae hf rfl (by decide) fun a hf=>?_
 refine aa ?_
 cases hv2
 replace B2:Blk w b2 (bX b) 59:=B2
 cases h1:has b.2 x.1.1
 ·refine seq ?_
  refine ac 12 hf (by decide +kernel) ?_
  refine st (ai U59 rfl T56 (by decide) rfl) ?_
  refine st ((ldP T56 rfl B2 (dI _)).eq (dJ _)) ?_
  refine st (ai U75 rfl T3 (by decide) rfl) ?_
  refine st (ld1 T3 rfl HC rfl) ?_
  refine st ((ax fB rfl rfl (fun v u w he h h'=>by cases h;cases h';exact fG b.2 x.1.1 w)).eq (congrArg Value.bool (h1))) ?_
  refine st (mv rfl) ?_
  refine sn rfl rfl rfl ?_
  refine sn rfl rfl rfl ?_
  refine sn rfl rfl rfl ?_
  refine sn rfl rfl rfl ?_
  refine sn rfl rfl rfl ?_
  refine st (pkF rfl rfl) ?_
  refine en fun a w e' hf=>?_
  replace e:=e.tr e'
  replace HC:=HC.ext e'
  replace B2:=B2.ext e'
  refine ae hf rfl (by decide) fun a hf=>?_
  refine aa ?_
  refine aj ?_
  refine al rfl hf rfl ?_
  rintro _ rfl
  exact⟨_,rfl,e,rfl⟩
 ·refine seq ?_
  refine ac 12 hf (by decide +kernel) ?_
  refine st (ai U59 rfl T56 (by decide) rfl) ?_
  refine st ((ldP T56 rfl B2 (dI _)).eq (dJ _)) ?_
  refine st (ai U75 rfl T3 (by decide) rfl) ?_
  refine st (ld1 T3 rfl HC rfl) ?_
  refine st ((ax fB rfl rfl (fun v u w he h h'=>by cases h;cases h';exact fG b.2 x.1.1 w)).eq (congrArg Value.bool (h1))) ?_
  refine st (mv rfl) ?_
  refine sy rfl rfl (ai U59 rfl T56 (by decide) rfl) ?_
  refine sy rfl rfl ((ldP T56 rfl B2 (dI _)).eq (dJ _)) ?_
  refine sy rfl rfl (ai U75 rfl T3 (by decide) rfl) ?_
  refine sy rfl rfl (ld1 T3 rfl HC rfl) ?_
  refine sy rfl rfl (ax fB rfl rfl (fun v u w he h h'=>by cases h;cases h';exact fG b.2 x.1.2 w)) ?_
  refine st (pkT rfl rfl) ?_
  refine en fun a w e' hf=>?_
  replace e:=e.tr e'
  replace HC:=HC.ext e'
  replace B2:=B2.ext e'
  refine ae hf rfl (by decide) fun a hf=>?_
  refine aa ?_
  refine aj ?_
  refine al rfl hf rfl ?_
  rintro _ rfl
  exact⟨_,rfl,e,rfl⟩
theorem wG {t:List (Int×BS)}{k:Nat}{b:Int×BS}(h:t[k]?=some b):dy (t.take (k+1))=dy (t.take k) ||| b.2:=by
 rw[dy,cG h,List.foldl_append];rfl
theorem wH {G G2:Nat→Prop}{N:Nat}(t:List (Int×BS))(f:Nat)(g:GT)(v u:Value)(W:World)(h:(Dv aL G t).p v W)(hg:(Dv (ptE (grE N)) G2 (some g)).p u W)(hl:t.length≤4096)(hd:Rng t→(rootN t).length=1→Dp t f)
  (hs:g.1.Pairwise fun x y=>lt1 x.1 y.1=true) (hs2:g.2.Pairwise fun x y=>lt2 x.1 y.1=true) (hl1:g.1.length≤100000) (hl2:g.2.length≤100000) (hN:N≤1000000) :
  Calls Tryz.prog 28 #[v,u] W (Post (E (I (cgR t f g))) W):=by
 replace hg:(Dv (ptE (grE N)) G0 (some g)).p u W:=Dv.weak hg fun b _ hb=>hb.elim
 refine enter (args:=[v,u]) (As:=[E v,E u]) Tryz.func28 rfl Tryz.ntmps28 (Nat.le_of_ble_eq_true rfl) ?_ (fun a hf=>?_) (Nat.le_of_ble_eq_true rfl)
 rotate_left
 dsimp only[params,Nat.reduceAdd] at hf
 rotate_right
 ·exact arg2 rfl rfl
 have e:=Ext.rfl' W
 refine seq ?_
 refine ah ?_
 refine ae hf rfl (by decide) fun a hf=>?_
 refine aa ?_
 repeat refine seq ?_
 refine ac 2 hf (by decide +kernel) ?_
 refine st (mv rfl) ?_
 refine st (dl U38 (isE rfl (VA.st _ _ _ _ e hg))) ?_
 refine en fun a w e' hf=>?_
 replace e:=e.tr e'
 refine aa ?_
 refine ifc hf rfl (fun h=>by cases h) (fun _=>?_)
 refine ak ?_
 simp only[Exit.then,Exit.inBlock,↓reduceIte]
 replace hf:=hf.kp [0,1,4]
 repeat refine seq ?_
 refine ac 2 hf (by decide +kernel) ?_
 refine st (mv rfl) ?_
 refine st (aw (A:=E (I (bZ t f))) gV rfl (fun v w he k=>by cases k;exact iD t f _ w (VA.st _ _ _ _ (Ext.tr e he) h) hl hd)) ?_
 refine en fun a w e' hf=>?_
 replace e:=e.tr e'
 refine ae hf rfl (by decide) fun a hf=>?_
 refine aa ?_
 refine seq ?_
 refine ac 2 hf (by decide +kernel) ?_
 refine st (mv rfl) ?_
 refine st (neq rfl rfl) ?_
 refine en fun a w e' hf=>?_
 replace e:=e.tr e'
 refine aa ?_
 refine ifc hf rfl (fun hb=>?_) (fun hb=>?_)
 ·refine seq ?_
  refine ac 1 hf (by decide +kernel) ?_
  refine st (mv rfl) ?_
  refine en fun a w e' hf=>?_
  replace e:=e.tr e'
  refine ae hf rfl (by decide) fun a hf=>?_
  refine aa ?_
  refine aj ?_
  simp only[Exit.then,Exit.inBlock]
  refine al rfl hf rfl ?_
  rintro _ rfl
  exact⟨_,rfl,e,congrArg I (by rw[cgR,if_pos hb])⟩
 refine ak ?_
 simp only[Exit.then,Exit.inBlock,↓reduceIte]
 have h1n:=aC hb;clear hb
 replace hf:=hf.kp [0,1,4]
 refine seq ?_
 refine ah ?_
 refine aJ I56 hf (by decide) fun a b6 w e' hb6 hs6 B6 hf=>?_
 have hle6:=Nat.le_trans e.size (Nat.le_of_eq hb6.symm)
 replace e:=e.tr e'
 refine aa ?_
 simp only[Value.cells,cV] at B6
 repeat refine seq ?_
 refine ac 3 hf (by decide +kernel) ?_
 refine st (mv rfl) ?_
 refine st (ay U23 (isE rfl (VA.st _ _ _ _ e h))) ?_
 refine st (mv rfl) ?_
 refine en fun a w e' hf=>?_
 replace e:=e.tr e'
 replace B6:=B6.ext e'
 refine aa ?_
 replace hf:=hf.kp [0,1,4,6,18,19,20]
 refine blk (aG (fun r0 a w=>∃(k:Nat) ,r0=t.length - k∧k≤t.length∧Fr 46 a w [(0,E v),(1,E u),(4,E (I 0)),(6,E (.pointer (some ⟨b6,0,none⟩))),(18,E v),(19,E (I (t.length:Nat))),(20,E (I k))]∧Ext W w∧Blk w b6 (aM (dy (t.take k))) 56) t.length ⟨0,rfl,by omega,hf,e,B6⟩ ?_)
 clear hf e;try clear B6
 rintro r0 a w ⟨k,rfl,hk,hf,e,B6⟩
 refine seq ?_
 refine ac 1 hf (by decide +kernel) ?_
 refine st (lss rfl rfl) ?_
 refine en fun a w e' hf=>?_
 replace e:=e.tr e'
 replace B6:=B6.ext e'
 refine aa ?_
 refine seq ?_
 refine ifc hf rfl (fun hc=>ak ?_) (fun hc=>aF ?_)
 rotate_left
 rotate_left
 ·have hlt:k<t.length:=by have:=of_decide_eq_true hc;(try dsimp only at this);omega
  clear hc
  replace hf:=hf.kp [0,1,4,6,18,19,20]
  refine seq ?_
  refine blk ?_
  have hx:=List.getElem?_eq_getElem hlt
  generalize t[k]=b at hx
  have hS:=wG hx
  obtain⟨S,hS0⟩:∃S,S=dy (t.take k):=⟨_,rfl⟩
  rw[← hS0] at B6 hS
  refine seq ?_
  refine ah ?_
  refine ar hf (by decide) (az U23 S59 (isE rfl (VA.st _ _ _ _ e h)) rfl (by omega) (hx)) fun a w e' hf=>?_
  replace e:=e.tr e'
  replace B6:=B6.ext e'
  clear e'
  refine ar hf (by decide) (fJ T59 (isR rfl)) fun a w e' hf=>?_
  replace e:=e.tr e'
  replace B6:=B6.ext e'
  clear e'
  refine aJ I59 hf (by decide) fun a b8 w e' hb8 hs8 B8 hf=>?_
  have hle8:=Nat.le_trans e.size (Nat.le_of_eq hb8.symm)
  have lt8_B6:=B6.lt
  replace e:=e.tr e'
  replace B6:=B6.ext e'
  clear e'
  replace hf:=hf.kp [0,1,4,6,8,18,19,20,23]
  refine aD T59 hf rfl rfl (gq _) B8 rfl (eY _) fun w hg' hsz B8 hf=>?_
  replace e:=e.gr hg' (by omega);replace B6:=B6.gr hg' (by omega);clear hg'
  refine aa ?_
  replace hf:=hf.kp [0,1,4,6,8,18,19,20]
  refine ac 4 hf (by decide +kernel) ?_
  refine st ((ldW T56 rfl B6 rfl).eq ((rfl:_=au S))) ?_
  refine st (ai U59 rfl T56 (by decide) rfl) ?_
  refine st ((ldP T56 rfl B8 (dI _)).eq (dJ _)) ?_
  refine st (ax (A:=E (au (S ||| b.2))) lQ rfl rfl (fun v u w he h h'=>by cases h;cases h';exact na S b.2 w)) ?_
  refine en fun a w e' hf=>?_
  replace e:=e.tr e'
  replace B6:=B6.ext e'
  replace B8:=B8.ext e'
  clear e'
  replace hf:=hf.kp [0,1,4,6,18,19,20,27]
  refine aD T56 hf rfl rfl (bL _) B6 rfl (dF _) fun w hg' hsz B6 hf=>?_
  replace e:=e.gr hg' (by omega);clear hg' B8
  refine aa ?_
  simp only[Exit.then,Exit.inBlock,↓reduceIte]
  refine ac 1 hf (by decide +kernel) ?_
  refine st ((add rfl rfl (by omega)).eq (congrArg (Value.int .i64) (show (k:Int)+1=((k+1:Nat):Int) from rfl))) ?_
  refine en fun a w e' hf=>?_
  replace e:=e.tr e'
  replace B6:=B6.ext e'
  clear e'
  refine ar hf (by decide) (mv rfl) fun a w e' hf=>?_
  replace e:=e.tr e'
  replace B6:=B6.ext e'
  refine aa ?_
  replace hf:=hf.kp [0,1,4,6,18,19,20]
  refine⟨_,?_,k+1,rfl,by omega,hf,e,?_⟩
  ·omega
  rw[hS];exact B6
 obtain rfl:k=t.length:=by have:=of_decide_eq_false hc;(try dsimp only at this);omega
 clear hc
 simp only[Exit.then,Exit.inBlock,↓reduceIte]
 rw[List.take_length] at B6
 replace hf:=hf.kp [0,1,4,6]
 repeat refine seq ?_
 refine reg 5 Mix.mix hf (by decide +kernel) ?_
 refine st (mv rfl) ?_
 refine st (aw (A:=E (au (eO g.1))) rl rfl (fun v w he k=>by cases k;exact wE g _ w (VA.st _ _ _ _ (Ext.tr e he) hg) hs hl1 hN)) ?_
 refine st ((ldW T56 rfl B6 rfl).eq ((rfl:_=au (dy t)))) ?_
 refine st (ax (A:=E (B (eO g.1 &&& ~~~dy t==0))) rm rfl rfl (fun v u w he h h'=>by cases h;cases h';exact tQ _ _ w)) ?_
 refine st (aS rfl) ?_
 refine en fun a w e' hf=>?_
 replace e:=e.tr e'
 replace B6:=B6.ext e'
 refine aa ?_
 refine ifc hf rfl (fun hb=>?_) (fun hb=>?_)
 ·refine seq ?_
  refine ah ?_
  refine ae hf rfl (by decide) fun a hf=>?_
  refine aa ?_
  refine aj ?_
  simp only[Exit.then,Exit.inBlock]
  refine al rfl hf rfl ?_
  rintro _ rfl
  exact⟨_,rfl,e,congrArg I (by rw[cgR,if_neg h1n,if_pos hb])⟩
 refine ak ?_
 simp only[Exit.then,Exit.inBlock,↓reduceIte]
 have h2n:=aC hb;clear hb
 replace hf:=hf.kp [0,1,4]
 clear B6
 have e0:=e
 repeat refine seq ?_
 refine ac 2 hf (by decide +kernel) ?_
 refine st (mv rfl) ?_
 refine st (aw (A:=OwA etE 75 W.heap.size G0 g.2) lD rfl (fun v w he k=>by cases k;exact (pa (G:=G0) g _ w (VA.st _ _ _ _ (Ext.tr e0 he) hg) (fun b hb=>hb.elim) hs2 hl2 hN).mono fun en w' ⟨z,k1,k2,k3⟩=>⟨z,k1,k2,OwR.low k3 (Ext.tr e0 he).size fun b hb=>hb.elim⟩)) ?_
 refine en fun a w e' hf=>?_
 replace e:=e.tr e'
 clear e'
 obtain⟨z,Ho,hf⟩:=hf.fix 35 rfl
 replace Ho:OwR etE 75 W.heap.size G0 w g.2 z:=Ho
 obtain⟨NV,hNV⟩:∃NV:Nat→Prop,NV=fun b=>z.ownBlock≠some b:=⟨_,rfl⟩
 have HD:(Dv (slE etE) NV g.2).p z w:=Ho.slN fun b hb=>by rw[hNV];exact fun h=>h hb
 obtain⟨N5,hN5⟩:∃N5,N5=w.heap.size:=⟨_,rfl⟩
 have nV:∀bb,N5≤bb→NV bb:=fun bb hb=>by rw[hNV];intro h;have h3:=Ho.lt h;omega
 have hN5s:N5≤w.heap.size:=Nat.le_of_eq hN5
 clear hN5 hNV Ho e0
 refine ar hf (by decide) (ay U70 (isE rfl HD)) fun a w e' hf=>?_
 replace HD:=VA.st _ _ _ _ e' HD
 replace hN5s:=Nat.le_trans hN5s e'.size
 replace e:=e.tr e'
 clear e'
 refine ar hf (by decide) (mv rfl) fun a w e' hf=>?_
 replace HD:=VA.st _ _ _ _ e' HD
 replace hN5s:=Nat.le_trans hN5s e'.size
 replace e:=e.tr e'
 refine aa ?_
 replace hf:=hf.kp [0,4,35,36,37]
 refine blk (aG (fun r0 a w=>∃(k:Nat) ,r0=g.2.length - k∧k≤g.2.length∧Fr 46 a w [(0,E v),(4,E (I 0)),(35,E z),(36,E (I (g.2.length:Nat))),(37,E (I k))]∧Ext W w∧(Dv (slE etE) NV g.2).p z w∧N5≤w.heap.size∧(∀y∈g.2.take k,(!dz t y)=false)) g.2.length ⟨0,rfl,by omega,hf,e,⟨HD,hN5s,by simp⟩⟩ ?_)
 clear hf e;try clear HD;try clear hN5s;try clear hn
 rintro r0 a w ⟨k,rfl,hk,hf,e,HD,hN5s,hn⟩
 refine seq ?_
 refine ac 1 hf (by decide +kernel) ?_
 refine st (lss rfl rfl) ?_
 refine en fun a w e' hf=>?_
 replace HD:=VA.st _ _ _ _ e' HD
 replace hN5s:=Nat.le_trans hN5s e'.size
 replace e:=e.tr e'
 refine aa ?_
 refine seq ?_
 refine ifc hf rfl (fun hc=>ak ?_) (fun hc=>aF ?_)
 rotate_left
 rotate_left
 ·have hlt:k<g.2.length:=by have:=of_decide_eq_true hc;(try dsimp only at this);omega
  clear hc
  replace hf:=hf.kp [0,4,35,36,37]
  refine seq ?_
  refine blk ?_
  have hx:=List.getElem?_eq_getElem hlt
  generalize g.2[k]=x at hx
  refine seq ?_
  refine ah ?_
  refine ar hf (by decide) (az U70 S75 (isE rfl HD) rfl (by omega) (hx)) fun a w e' hf=>?_
  replace HD:=VA.st _ _ _ _ e' HD
  replace hN5s:=Nat.le_trans hN5s e'.size
  replace e:=e.tr e'
  clear e'
  refine ar hf (by decide) (eH T75 (isR rfl)) fun a w e' hf=>?_
  replace HD:=VA.st _ _ _ _ e' HD
  replace hN5s:=Nat.le_trans hN5s e'.size
  replace e:=e.tr e'
  clear e'
  refine aJ I75 hf (by decide) fun a b10 w e' hb10 hs10 B10 hf=>?_
  have hle10:=Nat.le_trans e.size (Nat.le_of_eq hb10.symm)
  have lo10_hN5s:=Nat.le_trans hN5s (Nat.le_of_eq hb10.symm)
  replace HD:=VA.st _ _ _ _ e' HD
  replace hN5s:=Nat.le_trans hN5s e'.size
  replace e:=e.tr e'
  clear e'
  replace hf:=hf.kp [0,4,10,35,36,37,40]
  refine aD T75 hf rfl rfl (jY x) B10 rfl rfl fun w hg' hsz B10 hf=>?_
  replace e:=e.gr hg' (by omega);replace HD:=Dv.grN HD hg' (fun bb hb=>nV bb (by cases hb;omega));replace hN5s:=Nat.le_trans hN5s hg'.size;clear hg'
  refine aa ?_
  replace hf:=hf.kp [0,4,10,35,36,37]
  refine seq ?_
  refine ac 4 hf (by decide +kernel) ?_
  refine st (mv rfl) ?_
  refine st (er rfl) ?_
  refine st (ax (A:=E (B (dz t x))) fA rfl rfl (fun v u w he k k'=>by cases k;cases k';exact fK t _ _ _ (fun b=>has b.2 x.1.1&&has b.2 x.1.2) w rn (VA.st _ _ _ _ (Ext.tr e he) h) (fun w' b he'=>by simpa using wF b b10 x w' (B10.ext (Ext.tr he he'))) hl)) ?_
  refine st (aS rfl) ?_
  refine en fun a w e' hf=>?_
  replace HD:=VA.st _ _ _ _ e' HD
  replace hN5s:=Nat.le_trans hN5s e'.size
  replace e:=e.tr e'
  replace B10:=B10.ext e'
  refine aa ?_
  refine ifc hf rfl (fun hb=>?_) (fun hb=>?_)
  ·refine seq ?_
   refine ah ?_
   refine ae hf rfl (by decide) fun a hf=>?_
   refine aa ?_
   have hno:¬(g.2.all (dz t)=true):=by
    rw[List.all_eq_true];intro hall
    have:=hall x (List.mem_of_getElem? hx)
    rw[this] at hb;cases hb
   refine aj ?_
   simp only[Exit.then,Exit.inBlock]
   refine al rfl hf rfl ?_
   rintro _ rfl
   exact⟨_,rfl,e,congrArg I (by rw[cgR,if_neg h1n,if_neg h2n,if_neg hno])⟩
  ·refine ak ?_
   simp only[Exit.then,Exit.inBlock,↓reduceIte]
   refine ac 1 hf (by decide +kernel) ?_
   refine st ((add rfl rfl (by omega)).eq (congrArg (Value.int .i64) (show (k:Int)+1=((k+1:Nat):Int) from rfl))) ?_
   refine en fun a w e' hf=>?_
   replace HD:=VA.st _ _ _ _ e' HD
   replace hN5s:=Nat.le_trans hN5s e'.size
   replace e:=e.tr e'
   clear e'
   refine ar hf (by decide) (mv rfl) fun a w e' hf=>?_
   replace HD:=VA.st _ _ _ _ e' HD
   replace hN5s:=Nat.le_trans hN5s e'.size
   replace e:=e.tr e'
   refine aa ?_
   replace hf:=hf.kp [0,4,35,36,37]
   refine⟨_,?_,k+1,rfl,by omega,hf,e,?_⟩
   ·omega
   exact⟨HD,hN5s,fO (p:=fun y => !dz t y) hn hx hb⟩
 ·obtain rfl:k=g.2.length:=by have:=of_decide_eq_false hc;(try dsimp only at this);omega
  clear hc
  simp only[Exit.then,Exit.inBlock,↓reduceIte]
  rw[List.take_length] at hn
  have hall:g.2.all (dz t)=true:=by
   rw[List.all_eq_true];intro y hy
   simpa using hn y hy
  refine seq ?_
  refine ah ?_
  refine ae hf rfl (by decide) fun a hf=>?_
  refine aa ?_
  refine aj ?_
  refine al rfl hf rfl ?_
  rintro _ rfl
  exact⟨_,rfl,e,congrArg I (by rw[cgR,if_neg h1n,if_neg h2n,if_pos hall])⟩
theorem kE {G G2:Nat→Prop}{N:Nat}(F:Fm)(f:Nat)(g:GT)(v u:Value)(W:World)(h:(Dv (ptE frE) G (some F)).p v W)(hg:(Dv (ptE (grE N)) G2 (some g)).p u W)(hl:F.1.length≤4096)(hd:Rng F.1→(rootN F.1).length=1→Dp F.1 f)
  (hs:g.1.Pairwise fun x y=>lt1 x.1 y.1=true) (hs2:g.2.Pairwise fun x y=>lt2 x.1 y.1=true) (hl1:g.1.length≤100000) (hl2:g.2.length≤100000) (hN:N≤1000000) :
  Calls Tryz.prog 8 #[v,u] W (Post (E (I (cgR F.1 f g))) W):=by
 refine enter (args:=[v,u]) (As:=[Dv (ptE frE) G0 (some F),E u]) Tryz.func8 rfl Tryz.ntmps8 (Nat.le_of_ble_eq_true rfl) ?_ (fun a hf=>?_) (Nat.le_of_ble_eq_true rfl)
 rotate_left
 dsimp only[params,Nat.reduceAdd] at hf
 rotate_right
 ·exact arg2 (Dv.weak h fun b _ hb=>hb.elim) rfl
 have e:=Ext.rfl' W
 refine seq ?_
 refine ah ?_
 refine ae hf rfl (by decide) fun a hf=>?_
 refine aa ?_
 repeat refine seq ?_
 refine ac 2 hf (by decide +kernel) ?_
 refine st (mv rfl) ?_
 refine st (dl U27 (isR rfl)) ?_
 refine en fun a w e' hf=>?_
 replace e:=e.tr e'
 refine aa ?_
 refine ifc hf rfl (fun h=>by cases h) (fun _=>?_)
 refine ak ?_
 simp only[Exit.then,Exit.inBlock,↓reduceIte]
 refine seq ?_
 refine ac 6 hf (by decide +kernel) ?_
 refine st (mv rfl) ?_
 refine st (ct (isR rfl)) ?_
 refine st (am U82 rfl T23 (by decide) (Fld.fst Fld.refl) (isR rfl)) ?_
 refine st (ldD T23 (isR rfl)) ?_
 refine st (mv rfl) ?_
 refine st (ax (A:=E (I (cgR F.1 f g))) qQ rfl rfl (fun v u w he k k'=>by cases k';exact wH F.1 f g _ _ w k (VA.st _ _ _ _ (Ext.tr e he) hg) hl hd hs hs2 hl1 hl2 hN)) ?_
 refine en fun a w e' hf=>?_
 replace e:=e.tr e'
 refine ae hf rfl (by decide) fun a hf=>?_
 refine aa ?_
 refine aj ?_
 refine al rfl hf rfl ?_
 rintro _ rfl
 exact⟨_,rfl,e,rfl⟩
def ClA (N B:Nat)(g:GT):VA:=⟨fun v w=>∃bg bv be,v=.pointer (some ⟨bg,0,none⟩)∧B≤bg∧B≤bv∧B≤be∧GrR w bg bv be N g,fun v w w' e ⟨bg,bv,be,h1,h2,h3,h4,h5⟩=>⟨bg,bv,be,h1,h2,h3,h4,h5.ext e⟩⟩
noncomputable def alR (t:List (Int×BS))(f:Nat)(g:GT)(d:DT):Int:=if (cgR t f g != 0)=true then cgR t f g else if (aN g d != 0)=true then aN g d else cgR t f (doR g d).1
theorem wI {G G2:Nat→Prop}{N:Nat}(F:Fm)(f:Nat)(g:GT)(d:DT)(v u:Value)(W:World)(h:(Dv (ptE frE) G (some F)).p v W)(hg:(Dv (ptE (grE N)) G2 (some g)).p u W)(hl:F.1.length≤4096)(hd:Rng F.1→(rootN F.1).length=1→Dp F.1 f)
  (ok:Gr.Ok g) (hl1:g.1.length≤10000) (hl2:g.2.length≤10000) (hN:N≤100000) (hlb:0≤d.2.2.2.1∧d.2.2.2.1<256) (hw:(Lit.int .i64 d.2.1).wf=true) (hw2:(Lit.int .i64 d.2.2.1).wf=true) (ho:okT d.2.2.2) :
  Calls Tryz.prog 10 #[v,u,dtV d] W (Post (E (I (alR F.1 f g d))) W):=by
 have okD:=kj ok (d:=d) hlb
 have hdl:=kb g d
 refine enter (args:=[v,u,dtV d]) (As:=[Dv (ptE frE) (GB W G) (some F),Dv (ptE (grE N)) (GB W G2) (some g),E (dtV d)]) Tryz.func10 rfl Tryz.ntmps10 (Nat.le_of_ble_eq_true rfl) ?_ (fun a hf=>?_) (Nat.le_of_ble_eq_true rfl)
 rotate_left
 dsimp only[params,Nat.reduceAdd] at hf
 rotate_right
 ·exact eo (Dv.toB h) (Dv.toB hg) rfl
 have e:=Ext.rfl' W
 refine seq ?_
 refine ah ?_
 refine aH hf rfl (by decide) fun a b5 w v5 hv5 e' hb5 hs5 B5 hf=>?_
 have hle5:=Nat.le_trans e.size (Nat.le_of_eq hb5.symm)
 replace e:=e.tr e'
 refine ae hf rfl (by decide) fun a hf=>?_
 refine aa ?_
 cases hv5
 repeat refine seq ?_
 refine ac 3 hf (by decide +kernel) ?_
 refine st (mv rfl) ?_
 refine st (mv rfl) ?_
 refine st (ax (A:=E (I (cgR F.1 f g))) (B:=Dv (ptE frE) (GB W G) (some F)) (C:=Dv (ptE (grE N)) (GB W G2) (some g)) En8 rfl rfl (fun v u w he k k'=>kE F f g v u w k k' hl hd ok.sv ok.se (by omega) (by omega) (by omega))) ?_
 refine en fun a w e' hf=>?_
 replace e:=e.tr e'
 replace B5:=B5.ext e'
 refine ae hf rfl (by decide) fun a hf=>?_
 refine aa ?_
 refine seq ?_
 refine ac 2 hf (by decide +kernel) ?_
 refine st (mv rfl) ?_
 refine st (neq rfl rfl) ?_
 refine en fun a w e' hf=>?_
 replace e:=e.tr e'
 replace B5:=B5.ext e'
 refine aa ?_
 refine ifc hf rfl (fun hb=>?_) (fun hb=>?_)
 ·refine seq ?_
  refine ac 1 hf (by decide +kernel) ?_
  refine st (mv rfl) ?_
  refine en fun a w e' hf=>?_
  replace e:=e.tr e'
  replace B5:=B5.ext e'
  refine ae hf rfl (by decide) fun a hf=>?_
  refine aa ?_
  refine aj ?_
  simp only[Exit.then,Exit.inBlock]
  refine al rfl hf rfl ?_
  rintro _ rfl
  exact⟨_,rfl,e,congrArg I (by rw[alR,if_pos hb])⟩
 refine ak ?_
 simp only[Exit.then,Exit.inBlock,↓reduceIte]
 have c1:¬(cgR F.1 f g != 0)=true:=aC hb
 clear hb
 replace hf:=hf.kp [0,1,5]
 have e1:=e
 refine seq ?_
 refine ac 2 hf (by decide +kernel) ?_
 refine st (mv rfl) ?_
 refine st (aw (A:=ClA N W.heap.size g) (B:=Dv (ptE (grE N)) (GB W G2) (some g)) qS rfl (fun v w he k=>(wl g v w k).mono fun en w' ⟨bg,bv,be,k1,k2,k3,k4,k5,k6⟩=>⟨_,k1,k2,bg,bv,be,rfl,Nat.le_trans (Ext.tr e1 he).size k3,Nat.le_trans (Ext.tr e1 he).size k4,Nat.le_trans (Ext.tr e1 he).size k5,k6⟩)) ?_
 refine en fun a w e' hf=>?_
 replace e:=e.tr e'
 replace B5:=B5.ext e'
 refine ae hf rfl (by decide) fun a hf=>?_
 refine aa ?_
 obtain⟨_,⟨bg,bv,be,rfl,l1,l2,l3,HG⟩,hf⟩:=hf.fix 8 rfl
 haveI hinS:∀G0,InS (GB W G0) (fun b=>b=bv∨b=be):=fun G0=>⟨by rintro b (rfl|rfl);exact .inr l2;exact .inr l3⟩
 replace hf:=hf.kp [0,5,8]
 repeat refine seq ?_
 refine ac 2 hf (by decide +kernel) ?_
 refine st (mv rfl) ?_
 refine st (ldW T26 rfl B5 rfl) ?_
 refine en fun a w e' hf=>?_
 replace HG:=HG.ext e'
 replace e:=e.tr e'
 replace B5:=B5.ext e'
 clear e'
 refine jw (S:=fun b=>b=bv∨b=be) (F:=fun w=>GrR w bg bv be (N+1) (apA g d)) (A:=E (I (aN g d))) hf (by decide) iW ?_ fun a w hc HF hf=>?_
 ·have e7:a.eval (.tmp 18)=.pointer (some ⟨bg,0,none⟩):=hf.opd (.tmp 18) _ rfl
  have e8:a.eval (.tmp 19)=dtV d:=hf.opd (.tmp 19) _ rfl
  simp only[List.map_toArray,List.map_cons,List.map_nil,e7,e8]
  exact (vR g d bg bv be N w HG (by simp only[maxLen];omega) hw hw2 ho).mono fun en w' ⟨k1,k2,k3⟩=>⟨_,k1,k2,rfl,k3⟩
 replace e:=e.ch hc (by rintro b (rfl|rfl);exact l2;exact l3)
 clear hc HG
 replace hf:=hf.kp [0,8,20]
 refine ae hf rfl (by decide) fun a hf=>?_
 refine aa ?_
 replace hf:=hf.kp [0,8,9]
 refine seq ?_
 refine ac 2 hf (by decide +kernel) ?_
 refine st (mv rfl) ?_
 refine st (neq rfl rfl) ?_
 refine en fun a w e' hf=>?_
 replace HF:=HF.ext e'
 replace e:=e.tr e'
 refine aa ?_
 refine ifc hf rfl (fun hb=>?_) (fun hb=>?_)
 ·refine seq ?_
  refine ac 1 hf (by decide +kernel) ?_
  refine st (mv rfl) ?_
  refine en fun a w e' hf=>?_
  replace HF:=HF.ext e'
  replace e:=e.tr e'
  refine ae hf rfl (by decide) fun a hf=>?_
  refine aa ?_
  refine aj ?_
  simp only[Exit.then,Exit.inBlock]
  refine al rfl hf rfl ?_
  rintro _ rfl
  exact⟨_,rfl,e,congrArg I (by rw[alR,if_neg c1,if_pos hb])⟩
 refine ak ?_
 simp only[Exit.then,Exit.inBlock,↓reduceIte]
 have c2:¬(aN g d != 0)=true:=aC hb
 clear hb
 have hb0:aN g d=0:=by simpa using c2
 rw[apA,if_pos hb0] at HF
 obtain⟨p1,p2⟩:=vO ok hb0
 have HD:(Dv (ptE (grE (N+1))) G0 (some (doR g d).1)).p (.pointer (some ⟨bg,0,none⟩)) w:=(HF.perm p1 p2).dv (Nat.le_refl _) (fun h=>h.elim) (fun h=>h.elim) (fun h=>h.elim)
 refine seq ?_
 refine ac 3 hf (by decide +kernel) ?_
 refine st (mv rfl) ?_
 refine st (mv rfl) ?_
 refine st (ax (A:=E (I (cgR F.1 f (doR g d).1))) (B:=Dv (ptE frE) (GB W G) (some F)) (C:=E (.pointer (some ⟨bg,0,none⟩))) En8 rfl rfl (fun v u w he k k'=>by cases k';exact kE F f (doR g d).1 v _ w k (VA.st _ _ _ _ he HD) hl hd okD.sv okD.se (by omega) (by omega) (by omega))) ?_
 refine en fun a w e' hf=>?_
 replace HD:=VA.st _ _ _ _ e' HD
 replace e:=e.tr e'
 refine ae hf rfl (by decide) fun a hf=>?_
 refine aa ?_
 refine aj ?_
 refine al rfl hf rfl ?_
 rintro _ rfl
 exact⟨_,rfl,e,congrArg I (by rw[alR,if_neg c1,if_neg c2])⟩
end Go.Mono
namespace Go.Mono

theorem bA (t:List (Int×BS)):(toT t).length=t.length:=by simp[toT]
theorem dA {t:List (Int×BS)}{i:Nat}(h:i<t.length):up (toT t) i=(bg t i).1:=by
 simp[up,toT,bg,h,toB]
theorem dB {t:List (Int×BS)}{i:Nat}(h:i<t.length):hs (toT t) i=toL (bg t i).2:=by
 simp[hs,toT,bg,h,toB]
theorem dS (S:BS)(n:Int):bC (toL S) n=has S n:=by
 rw[bC,has,Bool.eq_iff_iff,decide_eq_true_eq,toL,ff,Bool.and_eq_true,cp]
 constructor
 ·rintro⟨i,h1,h2,rfl⟩
  exact⟨⟨by omega,by omega⟩,by simpa using h2⟩
 ·rintro⟨⟨h1,h2⟩,h3⟩
  exact⟨n.toNat,by omega,h3,by omega⟩
theorem po (t:List (Int×BS))(i:Nat):(hs (toT t) i).length≤1024:=by
 by_cases h:i<t.length
 ·rw[dB h];exact sJ _
 ·have:(toT t)[i]?=none:=by rw[List.getElem?_eq_none_iff,bA];omega
  simp[hs,this]

def pre (ks:Nat→List Nat):Nat→Nat→List Nat
 | 0,b=>[b]
 | f+1,b=>b::(ks b).flatMap (pre ks f)
theorem pp (ks:Nat→List Nat):∀f b deep s,(dnF ks f b deep s).2=s.2+((pre ks f b).length:Nat)
 | 0,b,deep,s=>by simp[dnF,pre]
 | f+1,b,deep,s=>by
  rw[dnF,pre]
  have:∀(l:List Nat) (s:List Int×Int),(l.foldl (fun s k=>dnF ks f k (deep+1) s) s).2=s.2+((l.flatMap (pre ks f)).length:Nat):=by
   intro l
   induction l with
   | nil=>intro s;simp
   | cons k l ih=>
    intro s
    rw[List.foldl_cons,ih,pp ks f,List.flatMap_cons,List.length_append]
    omega
  rw[this,List.length_cons]
  show s.2+1+_=_
  omega

def upN (t:List (Int×BS))(i:Nat):Option Nat:=if (bg t i).1<0 then none else some (bg t i).1.toNat
def it (t:List (Int×BS)):Nat→Nat→Option Nat
 | 0,i=>some i
 | d+1,i=>(it t d i).bind (upN t)
theorem fR (t:List (Int×BS)):∀d i,it t (d+1) i=(upN t i).bind (it t d)
 | 0,i=>by
  show (some i).bind (upN t)=_
  cases h:upN t i <;> simp[h,it]
 | d+1,i=>by
  rw[it,fR t d i]
  cases h:upN t i <;> simp[it]
theorem kF {t:List (Int×BS)}(hr:Rng t){i j:Nat}(hi:i<t.length)(h:upN t i=some j):j<t.length∧(bg t i).1=(j:Int):=by
 have:=hr i hi
 unfold upN at h
 split at h
 ·cases h
 ·cases h;omega
theorem iF {t:List (Int×BS)}(hr:Rng t){i:Nat}(hi:i<t.length):∀d j,it t d i=some j→j<t.length
 | 0,j,h=>by cases h;exact hi
 | d+1,j,h=>by
  rw[it] at h
  cases hx:it t d i with
  | none=>rw[hx] at h;cases h
  | some k=>
   rw[hx] at h
   exact (kF hr (iF hr hi d k hx) h).1
theorem wJ (t:List (Int×BS))(b:Nat):(kN t b).Nodup:=List.Nodup.sublist List.filter_sublist List.nodup_range
theorem pq {t:List (Int×BS)}(hr:Rng t){j b:Nat}(hj:j<t.length):decide (j∈kN t b)=decide (upN t j=some b):=by
 have:=hr j hj
 rw[decide_eq_decide,ky]
 constructor
 ·rintro⟨_,h⟩
  rw[upN,if_neg (by omega),h];rfl
 ·intro h
  exact⟨hj,(kF hr hj h).2⟩
theorem wK {t:List (Int×BS)}(hr:Rng t)(b:Nat)(x:Option Nat)(hx:∀j,x=some j→j<t.length):((kN t b).map fun k=>ind (decide (x=some k))).sum=ind (decide (x.bind (upN t)=some b)):=by
 cases x with
 | none=>
  have:∀l:List Nat,(l.map fun k=>ind (decide ((none:Option Nat)=some k))).sum=0:=by
   intro l
   induction l with
   | nil=>rfl
   | cons k l ih=>rw[List.map_cons,List.sum_cons,ih];rfl
  rw[this];rfl
 | some j=>
  rw[show (some j).bind (upN t)=upN t j from rfl,← pq hr (hx j rfl),← gz (wJ t b)]
  refine dN fun k _=>?_
  congr 1
  rw[decide_eq_decide]
  exact Option.some_inj
theorem pr (g:Nat→List Nat)(i:Nat):∀l:List Nat,(l.flatMap g).count i=(l.map fun k=>(g k).count i).sum
 | []=>rfl
 | k::l=>by rw[List.flatMap_cons,List.count_append,pr g i l,List.map_cons,List.sum_cons]
theorem kG (i b:Nat)(l:List Nat):(b::l).count i=ind (decide (i=b))+l.count i:=by
 rw[List.count_cons]
 by_cases h:b=i
 ·subst h;simp[ind];omega
 ·have:¬i=b:=Ne.symm h
  simp[ind,h,this]
theorem iG {t:List (Int×BS)}(hr:Rng t){i:Nat}(hi:i<t.length):∀f b,(pre (kN t) f b).count i=((List.range (f+1)).map fun d=>ind (decide (it t d i=some b))).sum
 | 0,b=>by
  rw[pre,kG]
  simp[it]
 | f+1,b=>by
  rw[pre,kG,pr]
  have h1:((kN t b).map fun k=>(pre (kN t) f k).count i).sum=((kN t b).map fun k=>((List.range (f+1)).map fun d=>ind (decide (it t d i=some k))).sum).sum:=dN fun k _=>iG hr hi f k
  rw[h1,jG (fun k d=>ind (decide (it t d i=some k)))]
  rw[List.range_succ_eq_map (n:=f+1),List.map_cons,List.sum_cons,List.map_map]
  congr 1
  ·simp[it]
  ·refine dN fun d _=>?_
   rw[wK hr b (it t d i) (fun j hj=>iF hr hi d j hj)]
   rfl
theorem kH {t:List (Int×BS)}(h:(rootN t).length=1):∃r,rootN t=[r]∧r<t.length∧(bg t r).1 = -1∧∀j,j<t.length→(bg t j).1 = -1→j=r:=by
 match hx:rootN t,h with
 | [r],_=>
  have hm:∀j,j∈rootN t↔j<t.length∧(bg t j).1 = -1:=by intro j;simp[rootN]
  have h1:=(hm r).1 (by rw[hx];simp)
  refine⟨r,rfl,h1.1,h1.2,fun j hj h=>?_⟩
  have:=(hm j).2 ⟨hj,h⟩
  rw[hx] at this
  simpa using this
theorem pv {t:List (Int×BS)}{r:Nat}(hu:(bg t r).1 = -1)(i:Nat):∀F,((List.range F).map fun d=>ind (decide (it t d i=some r))).sum≤1∧(1≤((List.range F).map fun d=>ind (decide (it t d i=some r))).sum→it t F i=none)
 | 0=>⟨by simp,by simp⟩
 | F+1=>by
  obtain⟨h1,h2⟩:=pv hu i F
  rw[List.range_succ,List.map_append,List.sum_append]
  simp only[List.map_cons,List.map_nil,List.sum_cons,List.sum_nil,Nat.add_zero]
  by_cases h:it t F i=some r
  ·have h0:¬1≤((List.range F).map fun d=>ind (decide (it t d i=some r))).sum:=fun h'=>by rw[h2 h'] at h;cases h
   rw[show decide (it t F i=some r)=true from decide_eq_true h]
   refine⟨by rw[show ind true=1 from rfl];omega,fun _=>?_⟩
   rw[it,h]
   show upN t r=none
   rw[upN,hu];rfl
  ·rw[show decide (it t F i=some r)=false from decide_eq_false h]
   rw[show ind false=0 from rfl,Nat.add_zero]
   refine⟨h1,fun h'=>?_⟩
   have:=h2 h'
   rw[it,this];rfl
theorem kJ {n:Nat}:∀{l:List Nat},(∀x∈l,x<n)→l.length=((List.range n).map fun i=>l.count i).sum
 | [],_=>by
  have:∀m:List Nat,(m.map fun i=>([]:List Nat).count i).sum=0:=by
   intro m
   induction m with
   | nil=>rfl
   | cons x m ih=>rw[List.map_cons,List.sum_cons,ih];rfl
  rw[this];rfl
 | x::l,h=>by
  have e:((List.range n).map fun i=>(x::l).count i).sum=((List.range n).map fun i=>ind (decide (i=x))+l.count i).sum:=dN fun i _=>kG i x l
  rw[e,gA,← kJ (l:=l) fun y hy=>h y (by simp[hy])]
  have e2:((List.range n).map fun i=>ind (decide (i=x))).sum=((List.range n).map fun k=>ind (decide (x=k))).sum:=dN fun i _=>by
   congr 1
   rw[decide_eq_decide];exact eq_comm
  rw[e2,gz List.nodup_range]
  have hx:=h x (by simp)
  simp[ind,hx];omega
theorem kK {t:List (Int×BS)}:∀f b,b<t.length→∀x∈pre (kN t) f b,x<t.length
 | 0,b,hb,x,hx=>by rw[pre,List.mem_singleton] at hx;omega
 | f+1,b,hb,x,hx=>by
  rw[pre,List.mem_cons,List.mem_flatMap] at hx
  rcases hx with rfl|⟨k,hk,hx⟩
  ·exact hb
  ·exact kK f k (ky.1 hk).1 x hx
theorem kL {f:Nat→Nat}:∀{l:List Nat},(∀x∈l,f x≤1)→(l.map f).sum≤l.length
 | [],_=>by simp
 | x::l,h=>by
  have:=kL (l:=l) fun y hy=>h y (by simp[hy])
  have:=h x (by simp)
  simp;omega
theorem pw {f:Nat→Nat}:∀{l:List Nat},(∀x∈l,f x≤1)→((l.map f).sum=l.length↔∀x∈l,f x=1)
 | [],_=>by simp
 | x::l,h=>by
  have h1:=kL (l:=l) fun y hy=>h y (by simp[hy])
  have h2:=pw (l:=l) fun y hy=>h y (by simp[hy])
  have h3:=h x (by simp)
  rw[List.map_cons,List.sum_cons,List.length_cons]
  constructor
  ·intro h4
   have h5:(l.map f).sum=l.length:=by omega
   have h6:=h2.1 h5
   intro y hy
   rcases List.mem_cons.1 hy with rfl|hy
   ·omega
   ·exact h6 y hy
  ·intro h4
   have:=h2.2 fun y hy=>h4 y (by simp[hy])
   have:=h4 x (by simp)
   omega
theorem kM {t:List (Int×BS)}(hr:Rng t){r:Nat}(hu:(bg t r).1 = -1)(f:Nat){i:Nat}(hi:i<t.length):(pre (kN t) f r).count i≤1:=by
 rw[iG hr hi];exact (pv hu i _).1
theorem kO {t:List (Int×BS)}(hr:Rng t){r:Nat}(hrl:r<t.length)(hu:(bg t r).1 = -1)(f:Nat):(pre (kN t) f r).length≤t.length:=by
 rw[kJ (kK f r hrl)]
 have:=kL (f:=fun i=>(pre (kN t) f r).count i) (l:=List.range t.length) fun i hi=>kM hr hu f (List.mem_range.1 hi)
 simpa using this
theorem kP {g:Nat→List Nat}{k:Nat}:∀{l:List Nat},k∈l→(g k).length≤(l.flatMap g).length
 | [],h=>by cases h
 | x::l,h=>by
  rw[List.flatMap_cons,List.length_append]
  rcases List.mem_cons.1 h with rfl|h
  ·omega
  ·have:=kP (g:=g) h;omega
theorem px {ks:Nat→List Nat}:∀f b,¬hgt ks f b→f+2≤(pre ks (f+1) b).length
 | 0,b,h=>by
  rw[pre]
  cases hk:ks b with
  | nil=>exact absurd hk h
  | cons k l=>simp[pre]
 | f+1,b,h=>by
  rw[hgt] at h
  obtain⟨k,hk,hn⟩:∃k,k∈ks b∧¬hgt ks f k:=by
   apply Classical.byContradiction
   intro hne
   exact h fun k hk=>Classical.byContradiction fun hn=>hne ⟨k,hk,hn⟩
  have:=px f k hn
  rw[pre,List.length_cons]
  have:=kP (g:=pre ks (f+1)) hk
  omega
theorem py {t:List (Int×BS)}(hr:Rng t){i:Nat}(hi:i<t.length):∀d b,it t d i=some b→d+1≤(pre (kN t) d b).length
 | 0,b,_=>by simp[pre]
 | d+1,b,h=>by
  rw[it] at h
  cases hx:it t d i with
  | none=>rw[hx] at h;cases h
  | some j=>
   rw[hx] at h
   have hj:=iF hr hi d j hx
   have hm:j∈kN t b:=by
    have:=pq (b:=b) hr hj
    rw[show decide (upN t j=some b)=true from decide_eq_true h] at this
    exact of_decide_eq_true this
   have:=py hr hi d j hx
   have:=kP (g:=pre (kN t) d) hm
   rw[pre,List.length_cons]
   omega
theorem pz {t:List (Int×BS)}{r:Nat}(h:rootN t=[r])(f:Nat):(bJ t f (rootN t)).2=((pre (kN t) f r).length:Nat):=by
 rw[h,bJ,List.foldl_cons,List.foldl_nil,pp]
 show (0:Int)+_=_
 omega
theorem Dp.mk' {t:List (Int×BS)}(hl:t.length≤4096)(hr:Rng t)(h1:(rootN t).length=1):Dp t t.length:=by
 obtain⟨r,h2,h3,h4,h5⟩:=kH h1
 refine⟨by omega,fun b hb=>?_,?_⟩
 ·rw[h2,List.mem_singleton] at hb
  subst hb
  apply Classical.byContradiction
  intro hn
  have:=px _ _ hn
  have:=kO hr h3 h4 (t.length+1)
  omega
 ·rw[pz h2]
  have:=kO hr h3 h4 t.length
  omega
theorem pA {t:List (Int×BS)}(hr:Rng t):∀f j,j<t.length→((abv (toT t) f (up (toT t) j)).isSome=true↔∃d,d≤f∧it t (d+1) j=none)
 | 0,j,hj=>by
  rw[dA hj,abv]
  constructor
  ·intro h
   refine⟨0,Nat.le_refl _,?_⟩
   rw[fR,upN]
   split at h
   ·rename_i h';rw[if_pos h'];rfl
   ·cases h
  ·rintro⟨d,hd,h⟩
   obtain rfl:d=0:=by omega
   rw[fR,upN] at h
   split at h
   ·rename_i h';rw[if_pos h'];rfl
   ·cases h
 | f+1,j,hj=>by
  rw[dA hj,abv]
  by_cases h':(bg t j).1<0
  ·rw[if_pos h']
   refine⟨fun _=>⟨0,Nat.zero_le _,?_⟩,fun _=>rfl⟩
   rw[fR,upN,if_pos h'];rfl
  ·have hu:upN t j=some (bg t j).1.toNat:=by rw[upN,if_neg h']
   have hk:=(kF hr hj hu).1
   rw[if_neg h',Option.isSome_map,pA hr f _ hk]
   constructor
   ·rintro⟨d,h1,h2⟩
    exact⟨d+1,by omega,by rw[fR,hu];exact h2⟩
   ·rintro⟨d,h1,h2⟩
    rw[fR,hu] at h2
    cases d with
    | zero=>cases h2
    | succ d=>exact⟨d,by omega,h2⟩
theorem pB {t:List (Int×BS)}(hr:Rng t){r:Nat}(hrl:r<t.length)(hu:(bg t r).1 = -1)(h1:∀j,j<t.length→(bg t j).1 = -1→j=r){i:Nat}(hi:i<t.length) :
  (bM (toT t) i).isSome=true↔(pre (kN t) t.length r).count i=1:=by
 rw[bM,pA hr _ _ hi,bA]
 have hle:=kM hr hu t.length hi
 constructor
 ·intro h
  obtain⟨d,⟨hd,hn⟩,hmin⟩:=eU h
  have hs:∃j,it t d i=some j:=by
   cases d with
   | zero=>exact⟨i,rfl⟩
   | succ d=>
    cases hx:it t (d+1) i with
    | some j=>exact⟨j,rfl⟩
    | none=>exact absurd ⟨by omega,hx⟩ (hmin d (by omega))
  obtain⟨j,hj⟩:=hs
  have hjl:=iF hr hi d j hj
  have hjr:j=r:=h1 j hjl (by
   rw[it,hj] at hn
   have hrj:=hr j hjl
   change upN t j=none at hn
   unfold upN at hn
   split at hn
   ·omega
   ·cases hn)
  subst hjr
  have hdl:=py hr hi d j hj
  have:=kO hr hrl hu d
  have hc:=iG hr hi t.length j
  have h2:1≤((List.range (t.length+1)).map fun d=>ind (decide (it t d i=some j))).sum:=by
   have:∀l:List Nat,d∈l→1≤(l.map fun d=>ind (decide (it t d i=some j))).sum:=by
    intro l
    induction l with
    | nil=>intro h;cases h
    | cons x l ih=>
     intro h
     rw[List.map_cons,List.sum_cons]
     rcases List.mem_cons.1 h with rfl|h
     ·rw[decide_eq_true hj];simp[ind]
     ·have:=ih h;omega
   exact this _ (List.mem_range.2 (by omega))
  omega
 ·intro h
  rw[iG hr hi] at h
  have:∃d,d∈List.range (t.length+1)∧it t d i=some r:=by
   apply Classical.byContradiction
   intro hne
   have:∀l:List Nat,(∀d∈l,d∈List.range (t.length+1))→(l.map fun d=>ind (decide (it t d i=some r))).sum=0:=by
    intro l
    induction l with
    | nil=>intro _;rfl
    | cons x l ih=>
     intro h
     rw[List.map_cons,List.sum_cons,ih fun d hd=>h d (by simp[hd]),decide_eq_false fun he=>hne ⟨x,h x (by simp),he⟩]
     rfl
   rw[this _ fun d hd=>hd] at h
   cases h
  obtain⟨d,hd,h2⟩:=this
  have:=List.mem_range.1 hd
  refine⟨d,by omega,?_⟩
  rw[it,h2]
  show upN t r=none
  rw[upN,hu];rfl

theorem gL {t:List (Int×BS)}(hr:Rng t){i:Nat}(hi:i<t.length){k:Nat}(hk:k<1024):(bK t i).getLsbD k=bc (toT t) (k:Nat) i:=by
 have hri:=hr i hi
 have fit:bQ (k:Nat)=true:=cp.2 ⟨by omega,by omega⟩
 have hh:∀S:BS,has S (k:Nat)=S.getLsbD k:=fun S=>by rw[has,fit,Int.toNat_natCast];rfl
 rw[bc,dB hi,dS,hh,dA hi,bK]
 by_cases h:(bg t i).1 = -1
 ·rw[if_pos h,h];simp
 ·rw[if_neg h,dB (by omega),dS,hh]
  have:¬(bg t i).1<0:=by omega
  simp[this,hk]
theorem kQ {t:List (Int×BS)}(k:Nat):∀i,(dQ t i).getLsbD k=true↔∃j,j<i∧(bK t j).getLsbD k=true
 | 0=>by simp[dQ]
 | i+1=>by
  rw[dQ,BitVec.getLsbD_or,Bool.or_eq_true,kQ k i]
  constructor
  ·rintro (⟨j,h1,h2⟩|h)
   ·exact⟨j,by omega,h2⟩
   ·exact⟨i,by omega,h⟩
  ·rintro⟨j,h1,h2⟩
   by_cases hj:j=i
   ·subst hj;exact .inr h2
   ·exact .inl ⟨j,by omega,h2⟩
theorem kR {S T:BS}:S &&& T=0↔∀k,k<1024→¬(S.getLsbD k=true∧T.getLsbD k=true):=by
 constructor
 ·intro h k hk ⟨h1,h2⟩
  have:=congrArg (fun S=>S.getLsbD k) h
  simp[h1,h2] at this
 ·intro h
  refine BitVec.eq_of_getLsbD_eq fun k hk=>?_
  have:=h k hk
  rw[BitVec.getLsbD_and]
  cases h1:S.getLsbD k <;> cases h2:T.getLsbD k <;> simp[h1,h2] at this ⊢
def Uni (xs:List RB):Prop:=∀(id:Int) (j i:Nat),j<i→i<xs.length→¬(bc xs id i=true∧bc xs id j=true)
theorem iH {p:Nat→Bool}:∀{n:Nat},(aO p n).length≤1↔∀j i,j<i→i<n→¬(p i=true∧p j=true)
 | 0=>⟨fun _ j i _ h=>by omega,fun _=>by simp[aO]⟩
 | n+1=>by
  rw[cz]
  constructor
  ·intro h j i hji hi ⟨h1,h2⟩
   have hl:(aO p n).length≤1:=by
    split at h
    ·rw[List.length_append,List.length_singleton] at h;omega
    ·exact h
   by_cases hin:i=n
   ·subst hin
    rw[if_pos h1] at h
    have:(j:Int)∈aO p i:=ff.2 ⟨j,hji,h2,rfl⟩
    cases hs:aO p i with
    | nil=>rw[hs] at this;cases this
    | cons x l=>rw[hs] at h;simp at h
   ·exact iH.1 hl j i hji (by omega) ⟨h1,h2⟩
  ·intro h
   have hl:(aO p n).length≤1:=iH.2 fun j i hji hi=>h j i hji (by omega)
   split
   ·rename_i hp
    have:aO p n=[]:=by
     cases hs:aO p n with
     | nil=>rfl
     | cons x l=>
      have:x∈aO p n:=by rw[hs];simp
      obtain⟨j,h1,h2,_⟩:=ff.1 this
      exact absurd ⟨hp,h2⟩ (h j n h1 (by omega))
    rw[this];simp
   ·exact hl
theorem wL {t:List (Int×BS)}{id:Int}{i:Nat}(hi:i<t.length)(h:bc (toT t) id i=true):∃k:Nat,k<1024∧id=(k:Int):=by
 rw[bc,dB hi,dS,has,Bool.and_eq_true,Bool.and_eq_true,cp] at h
 exact⟨id.toNat,by omega,by omega⟩
theorem wM {t:List (Int×BS)}(hr:Rng t):(∀i,i<t.length→bK t i &&& dQ t i=0)↔Uni (toT t):=by
 constructor
 ·intro h id j i hji hi ⟨h1,h2⟩
  rw[bA] at hi
  obtain⟨k,hk,rfl⟩:=wL hi h1
  have:=kR.1 (h i hi) k hk
  exact this ⟨by rw[gL hr hi hk];exact h1,(kQ k i).2 ⟨j,hji,by rw[gL hr (by omega) hk];exact h2⟩⟩
 ·intro h i hi
  refine kR.2 fun k hk ⟨h1,h2⟩=>?_
  obtain⟨j,hj,h3⟩:=(kQ k i).1 h2
  rw[gL hr hi hk] at h1
  rw[gL hr (by omega) hk] at h3
  exact h k j i hj (by rw[bA];exact hi) ⟨h1,h3⟩
def dT (xs:List RB):List RB:=xs.map fun b=>(b.1,[])
theorem fp (xs:List RB):(dT xs).length=xs.length:=by simp[dT]
theorem fS (xs:List RB)(i:Nat):up (dT xs) i=up xs i:=by
 unfold up dT
 rw[List.getElem?_map]
 cases xs[i]? <;> rfl
theorem wN (xs:List RB)(i:Nat):hs (dT xs) i=[]:=by
 unfold hs dT
 rw[List.getElem?_map]
 cases xs[i]? <;> rfl
theorem pC (xs:List RB):∀f a,abv (dT xs) f a=abv xs f a
 | 0,a=>rfl
 | f+1,a=>by rw[abv,abv,fS,pC xs f]
theorem pD {xs:List RB}(h1:∀i,i<xs.length → -1≤up xs i∧up xs i<xs.length)(h2:(aO (fun i=>decide (up xs i<0)) xs.length).length=1)(h3:∀i,i<xs.length→(bM xs i).isSome=true):aV (dT xs):=by
 refine⟨fun i hi=>?_,?_,fun i hi=>?_,fun i hi id hid=>?_⟩
 ·rw[fp] at hi ⊢
  rw[fS];exact h1 i hi
 ·rw[fp]
  simp only[fS]
  exact h2
 ·rw[fp] at hi
  rw[bM,pC,fS,fp]
  exact h3 i hi
 ·rw[wN] at hid;cases hid
theorem wO {xs:List RB}(V:aV (dT xs))(id:Int):∀i,i<xs.length→id∈hs xs i→∃j,j<xs.length∧bc xs id j=true:=by
 intro i hi
 refine ik V (p:=fun i=>id∈hs xs i→∃j,j<xs.length∧bc xs id j=true) (fun i hi hu h=>⟨i,?_,?_⟩) (fun i j hi hj hu ih h=>?_) i (by rw[fp];exact hi)
 ·rwa [fp] at hi
 ·rw[fS] at hu
  rw[bc,bC,decide_eq_true h,hu];rfl
 ·rw[fp] at hi
  rw[fS] at hu
  by_cases hj2:id∈hs xs j
  ·exact ih hj2
  ·refine⟨i,hi,?_⟩
   rw[bc,bC,bC,decide_eq_true h,hu,Int.toNat_natCast,decide_eq_false hj2]
   simp
theorem pE {xs:List RB}(V:aV (dT xs)):(∀i,i<xs.length→∀id∈hs xs i,(cJ xs id).length=1)↔Uni xs:=by
 constructor
 ·intro h id j i hji hi ⟨h1,h2⟩
  have hm:id∈hs xs i:=by
   rw[bc,Bool.and_eq_true] at h1
   exact of_decide_eq_true h1.1
  have:=h i hi id hm
  exact iH.1 (Nat.le_of_eq this) j i hji hi ⟨h1,h2⟩
 ·intro h i hi id hid
  have h1:(cJ xs id).length≤1:=iH.2 fun j i hji hi=>h id j i hji hi
  obtain⟨j,hj,ht⟩:=wO V id i hi hid
  have:(j:Int)∈cJ xs id:=ff.2 ⟨j,hj,ht,rfl⟩
  have:=List.length_pos_of_mem this
  omega
theorem gM {α:Type}{p q:Prop}{_:Decidable p}{_:Decidable q}{a b c d:α}(h:p↔q)(h1:p→a=c)(h2:¬p→b=d):(if p then a else b)=(if q then c else d):=by
 by_cases hp:p
 ·rw[if_pos hp,if_pos (h.1 hp)];exact h1 hp
 ·rw[if_neg hp,if_neg (fun hq=>hp (h.2 hq))];exact h2 hp
theorem pF {t:List (Int×BS)}:bZ t t.length=bi (toT t):=by
 unfold bZ bi
 rw[bA]
 refine gM (by omega) (fun _=>rfl) fun h0=>?_
 have e1:Rng t↔∀i,i<t.length → -1≤up (toT t) i∧up (toT t) i<t.length:=by
  constructor
  ·intro h i hi;rw[dA hi];exact h i hi
  ·intro h i hi;have:=h i hi;rwa [dA hi] at this
 refine gM (not_congr e1) (fun _=>rfl) fun hr=>?_
 replace hr:=Classical.not_not.1 hr
 have e2:(aO (fun i=>decide (up (toT t) i<0)) t.length).length=(rootN t).length:=by
  rw[aO,List.length_map,rootN]
  congr 1
  refine List.filter_congr fun i hi=>?_
  have hi:=List.mem_range.1 hi
  have:=hr i hi
  rw[dA hi,decide_eq_decide]
  omega
 rw[e2]
 refine gM Iff.rfl (fun _=>rfl) fun h1=>?_
 replace h1:=Classical.not_not.1 h1
 obtain⟨r,r1,r2,r3,r4⟩:=kH h1
 have e3:(bJ t t.length (rootN t)).2=(t.length:Nat)↔∀i,i<t.length→(bM (toT t) i).isSome=true:=by
  rw[pz r1,kJ (kK _ r r2)]
  have:=pw (f:=fun i=>(pre (kN t) t.length r).count i) (l:=List.range t.length) fun i hi=>kM hr r3 t.length (List.mem_range.1 hi)
  rw[List.length_range] at this
  rw[Int.ofNat_inj,this]
  constructor
  ·intro h i hi
   exact (pB hr r2 r3 r4 hi).2 (h i (List.mem_range.2 hi))
  ·intro h i hi
   exact (pB hr r2 r3 r4 (List.mem_range.1 hi)).1 (h i (List.mem_range.1 hi))
 refine gM (not_congr e3) (fun _=>rfl) fun h2=>?_
 replace h2:=Classical.not_not.1 h2
 have V:=pD (xs:=toT t) (by rw[bA];exact e1.1 hr) (by rw[bA,e2];exact h1) (by rw[bA];exact e3.1 h2)
 have e4:=pE V
 rw[bA] at e4
 exact gM (not_congr ((wM hr).trans e4.symm)) (fun _=>rfl) fun _=>rfl
end Go.Mono
namespace Go.Mono
open Go Go.Proofs Go.RowKit Go.Gr
def whR (xs:List RB)(n:Int):List Int:=aO (fun i=>bC (hs xs i) n) xs.length
def vMs (xs:List RB)(x:VT):Bool:=decide ((whR xs x.1).length=0)
def eP (xs:List RB)(e:ET)(k:Nat):Bool:=(List.range k).any fun i=>bC (hs xs i) e.1.1&&bC (hs xs i) e.1.2
def eHd (xs:List RB)(e:ET):Bool:=eP xs e xs.length
noncomputable def cM (xs:List RB)(g:GT):Int:=
 if (bi xs != 0)=true then bi xs else if g.1.any (vMs xs)=true then 9 else if g.2.all (eHd xs)=true then 0 else 23
theorem wP (xs:List RB)(e:ET)(k:Nat):eP xs e (k+1)=(eP xs e k || (bC (hs xs k) e.1.1&&bC (hs xs k) e.1.2)):=by
 unfold eP;rw[List.range_succ,List.any_append];simp
theorem pG {k:Nat}:∀{t:List (Int×BS)} (S:BS),(t.foldl (fun S b=>S ||| b.2) S).getLsbD k=true↔S.getLsbD k=true∨∃b∈t,b.2.getLsbD k=true
 | [],S=>by simp
 | b::t,S=>by rw[List.foldl_cons,pG,BitVec.getLsbD_or,Bool.or_eq_true,or_assoc];simp
theorem wQ {t:List (Int×BS)}{e:ET}:dz t e=true↔∃i,i<t.length∧(has (bg t i).2 e.1.1&&has (bg t i).2 e.1.2)=true:=by
 constructor
 ·intro h
  apply Classical.byContradiction
  intro hno
  have:=(gK (p:=fun b=>has b.2 e.1.1&&has b.2 e.1.2) (t:=t)).2 fun i hi=>by
   cases hx:(has (bg t i).2 e.1.1&&has (bg t i).2 e.1.2) with
   | false=>rfl
   | true=>exact absurd ⟨i,hi,hx⟩ hno
  rw[dz,this] at h;cases h
 ·rintro⟨i,hi,h⟩
  cases hc:dz t e with
  | true=>rfl
  | false=>
   have:=gK.1 hc i hi
   rw[h] at this;cases this
theorem wR (t:List (Int×BS))(e:ET):eHd (toT t) e=dz t e:=by
 rw[Bool.eq_iff_iff,wQ,eHd,eP,List.any_eq_true]
 constructor
 ·rintro⟨i,hi,h⟩
  have hi:=List.mem_range.1 hi
  rw[bA] at hi
  rw[dB hi,dS,dS] at h
  exact⟨i,hi,h⟩
 ·rintro⟨i,hi,h⟩
  refine⟨i,List.mem_range.2 (by rw[bA];exact hi),?_⟩
  rw[dB hi,dS,dS];exact h
theorem pH {t:List (Int×BS)}{n:Int}:(whR (toT t) n).length=0↔∀i,i<t.length→has (bg t i).2 n=false:=by
 rw[List.length_eq_zero_iff,List.eq_nil_iff_forall_not_mem]
 constructor
 ·intro h i hi
  cases hx:has (bg t i).2 n with
  | false=>rfl
  | true=>exact absurd (ff.2 ⟨i,by rw[bA];exact hi,by rw[dB hi,dS];exact hx,rfl⟩) (h (i:Int))
 ·intro h x hx
  obtain⟨i,h1,h2,_⟩:=ff.1 hx
  rw[bA] at h1
  rw[dB h1,dS,h i h1] at h2;cases h2
theorem wS {g:GT}(G:Gr.Ok g)(t:List (Int×BS)):(!(eO g.1 &&& ~~~dy t==0))=g.1.any (vMs (toT t)):=by
 rw[Bool.eq_iff_iff,Bool.not_eq_true',beq_eq_false_iff_ne,ne_eq,kR,List.any_eq_true]
 have hv:∀k,k<1024→((eO g.1).getLsbD k=true↔∃x∈g.1,x.1=(k:Int)):=fun k hk=>by
  rw[eO,nL k hk]
  have hz:(0:BS).getLsbD k=false:=BitVec.getLsbD_zero
  rw[hz,Bool.false_or,decide_eq_true_eq,List.mem_map]
 have ha:∀k:Nat,k<1024→((~~~dy t).getLsbD k=true↔∀i,i<t.length→has (bg t i).2 (k:Int)=false):=fun k hk=>by
  rw[BitVec.getLsbD_not]
  simp only[hk,decide_true,Bool.true_and,Bool.not_eq_true']
  rw[← Bool.not_eq_true,dy,pG]
  have hz:(0:BS).getLsbD k=false:=BitVec.getLsbD_zero
  rw[hz]
  simp only[Bool.false_eq_true,false_or,not_exists,not_and,Bool.not_eq_true]
  have hk':∀S:BS,has S (k:Int)=S.getLsbD k:=fun S=>by rw[has,cp.2 ⟨by omega,by omega⟩];simp
  constructor
  ·exact fun h i hi=>by rw[hk'];exact h _ (List.mem_of_getElem? (cX hi))
  ·intro h b hb
   obtain⟨i,hi⟩:=List.mem_iff_getElem?.1 hb
   have hlt:=(List.getElem?_eq_some_iff.1 hi).1
   have:=h i hlt
   rw[cX hlt] at hi;cases hi
   rw[hk'] at this;exact this
 constructor
 ·intro h
  apply Classical.byContradiction
  intro hno
  refine h fun k hk ⟨h1,h2⟩=>hno ?_
  obtain⟨x,hx,hxk⟩:=(hv k hk).1 h1
  exact⟨x,hx,decide_eq_true (pH.2 (by rw[hxk];exact (ha k hk).1 h2))⟩
 ·rintro⟨x,hx,h⟩ hno
  obtain⟨h0,h1⟩:=kn (G.rv x hx).1
  refine hno x.1.toNat (by omega) ⟨(hv _ (by omega)).2 ⟨x,hx,by omega⟩,(ha _ (by omega)).2 ?_⟩
  rw[Int.toNat_of_nonneg h0]
  exact pH.1 (of_decide_eq_true h)
theorem kS {g:GT}(G:Gr.Ok g)(t:List (Int×BS)):cgR t t.length g=cM (toT t) g:=by
 unfold cgR cM
 rw[pF,wS G,show dz t=eHd (toT t) from funext fun e=>(wR t e).symm]
end Go.Mono
