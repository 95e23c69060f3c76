/-
  XL7f.
  No condition.
-/
import Derived.Test.YtbjangoghokneaaGreatDoorCG
import Derived.Test.YtbjangoghokneaaGreatDoorCH
import Derived.Test.YtbjangoghokneaaGreatDoorCD
set_option linter.unusedVariables false
set_option linter.unusedSimpArgs false
namespace Go.Mono
open Go Go.Proofs Go.RowKit Go.Gr
structure MdOk (g:GT):Prop where
 ok:Gr.Ok g
 l1:g.1.length≤7
 l2:g.2.length≤17
theorem mdOk {g:GT} (h:(frM g).2=true) (hV:∀x∈g.1,0≤x.2.1∧x.2.1<256) (hE:∀x∈g.2,0≤x.2.1∧x.2.1<256):MdOk (frM g).1:=by
 by_cases h1:(decide ((7:Int)<(g.1.length:Nat)) || decide ((10:Int)<(g.2.length:Nat)))=true
 ·rw[frM,if_pos h1] at h;cases h
 ·by_cases h2:(ofR g.1 g.2).2≠0
  ·rw[frM,if_neg h1,if_pos h2] at h;cases h
  ·have e:frM g=((ofR g.1 g.2).1,true):=by rw[frM,if_neg h1,if_neg h2]
   have h3:=ofR_vlen g.1 g.2
   have h4:=ofR_len (V:=g.1) (E:=g.2) (Decidable.not_not.1 h2)
   rw[Bool.or_eq_true,not_or,decide_eq_true_eq,decide_eq_true_eq] at h1
   rw[e]
   exact⟨ofR_ok hV hE,by dsimp only;omega,by dsimp only;omega⟩
theorem conn_eq {g:GT} (ok:Gr.Ok g) (a b:Int):(dsF g a b != -1)=jnF g a b:=by
 rw[dsF,jnF]
 cases ha:has (vset g.1) a with
 | false=>rw[Bool.false_and,if_neg (by decide)];rfl
 | true=>
  cases hb:has (vset g.1) b with
  | false=>rw[if_neg (by decide)];rfl
  | true=>
   rw[Bool.true_and,if_pos rfl,Bool.true_and]
   obtain⟨n,rfl,hn⟩:=has_nat ha
   obtain⟨m,rfl,hm⟩:=has_nat hb
   rw[Int.toNat_natCast,Int.toNat_natCast]
   have h1:=ds_some (nb:=nbA g) (a:=n) (b:=m)
   have h2:=has_bit (cpt (nbA g) n) m
   cases hh:has (cpt (nbA g) n) (m:Int) with
   | true=>exact bne_iff_ne.2 fun h=>h1.1 h (h2.1 hh)
   | false=>
    have:dsT (nbA g) n m = -1:=h1.2 fun h=>by rw[h2.2 h] at hh;cases hh
    rw[this];rfl
theorem pt_len {g:GT} (ok:Gr.Ok g):(ptF g).length≤g.1.length:=by
 rw[ptF,List.length_map]
 exact Nat.le_trans (List.length_filter_le _ _) (Nat.le_of_eq (elems_vlen ok))
theorem pt_each {g:GT}:∀x∈ptF g,x.length≤100000:=fun x hx=>by
 obtain⟨v,_,rfl⟩:=List.mem_map.1 hx
 exact Nat.le_trans (elL_len _) (by decide)
theorem comps7_spec {G:Nat→Prop} {N:Nat} (g:GT) (ok:Gr.Ok g) (v:Value) (W:World) (hT:Tab W) (h:(Dv (ptE (grE N)) G (some g)).p v W) (hl1:g.1.length≤100000) (hl2:g.2.length≤100000) (hN:N≤1000000) :
  Calls Tryz.prog 22 #[v] W (Post (Dv (slE (slE intE)) Go.Mono.G0 (ptF g)) W):=by
 have:=comps_spec g v W hT h ok.sv ok.se hl1 hl2 hN
 rwa [comps_ref ok] at this
theorem conn7_spec {G:Nat→Prop} {N:Nat} (g:GT) (ok:Gr.Ok g) (a0 c0:Int) (v:Value) (W:World) (hT:Tab W) (h:(Dv (ptE (grE N)) G (some g)).p v W) (hl1:g.1.length≤100000) (hl2:g.2.length≤100000) (hN:N≤1000000) :
  Calls Tryz.prog 28 #[v,I a0,I c0] W (Post (E (B (jnF g a0 c0))) W):=by
 have:=conn_spec g ok a0 c0 v W hT h hl1 hl2 hN
 rwa [conn_eq ok] at this
end Go.Mono
