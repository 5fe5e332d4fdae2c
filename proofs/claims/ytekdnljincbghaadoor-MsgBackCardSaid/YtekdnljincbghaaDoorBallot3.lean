/- The walks of the ballot package: its bytes. -/
import Derived.Test.YtekdnljincbghaaDoorBallot2
import Derived.Test.YtekdnljincbghaaDoorVarintW
import Derived.Test.YtekdnljincbghaaDoorRef01
namespace Go.Proofs.YtekdnljincbghaaDoor
open Go Go.RowKit Go.Lib

set_option maxHeartbeats 1000000 in
theorem put_any (ao : Option Addr) (len cap n r : Nat) (xs : List UInt8) (w : World) (hlen : xs.length = len) (hown : OwnB w ao cap xs) (hb : len ≤ 140737488354000) (hn : n < 18446744073709551616) (hr : r < 9223372036854775808) :
    Calls Tryd.prog 50 #[.slice ao len cap, ballot n r] w (RetApp w ao (xs ++ enc7 n ++ enc7 r)) := by
  unfold ballot
  have HO := Lib.hid hown
  have hlt := Own.lt hown
  have hw : IntKind.u64.wrap (r : Int) = (r : Int) := IntWalk.u64_in _ (by omega)
  have hl1 := (enc7_length n).2
  clear hown
  go_enter Tryd.func50, Tryd.ntmps50
  go_upto_region 1 with (fail)
  have hb1 := heap_alloc_new w (.cells #[.int .u64 (n : Int), .int .i64 (r : Int)] 24)
  have m0 := Mod.alloc [] w (.cells #[.int .u64 (n : Int), .int .i64 (r : Int)] 24)
  refine rest_start (blk ao) 9 #[false, false, false, false, false, false, false, false, false] rfl (by kernel_rfl) (by kernel_rfl) ?_
  intro w1 m1
  have A0 := Lib.hid (cell_of_block (i := 0) (m1.get hb1 (by simp)))
  have A1 := Lib.hid (cell_of_block (i := 1) (m1.get hb1 (by simp)))
  have M1 := Lib.hid (m0.trans' m1)
  have O1 := Lib.hid (Own.mod0 HO.out M1.out)
  have HK : Hid (w.heap.size ∉ blk ao) := fun h => Nat.lt_irrefl _ (hlt _ h)
  clear hb1 m0 m1 hlt
  refine rest_got (i := 0) (v := ?v1) rfl (by kernel_rfl) (by kernel_rfl) (by kernel_rfl) (fun _ _ _ h => h) (by rfl) ?y1 ?r1
  case y1 => (intro w9q hSwq; clear hSwq; go_simp; with_reducible rfl)
  try simp only [Act.put, List.setIfInBounds_toArray, List.set_cons_zero, List.set_cons_succ]
  refine rest_got (i := 1) (v := ?v2) rfl (by kernel_rfl) (by kernel_rfl) (by kernel_rfl) (fun _ _ _ h => h) (by rfl) ?y2 ?r2
  case y2 => (intro w9q hSwq; clear hSwq; go_simp; with_reducible rfl)
  try simp only [Act.put, List.setIfInBounds_toArray, List.set_cons_zero, List.set_cons_succ]
  refine rest_got (i := 2) (v := ?v3) rfl (by kernel_rfl) (by kernel_rfl) (by kernel_rfl) (fun _ _ _ h => h) (by rfl) ?y3 ?r3
  case y3 => ((intro w' hm; have hc' := Mod.cell hm A0.out HK.out; clear hm; go_simp; with_reducible rfl))
  try simp only [Act.put, List.setIfInBounds_toArray, List.set_cons_zero, List.set_cons_succ]
  refine rest_got (i := 4) (v := ?v4) rfl (by kernel_rfl) (by kernel_rfl) (by kernel_rfl) (fun _ _ _ h => h) (by rfl) ?y4 ?r4
  case y4 => (intro w9q hSwq; clear hSwq; go_simp; with_reducible rfl)
  try simp only [Act.put, List.setIfInBounds_toArray, List.set_cons_zero, List.set_cons_succ]
  refine rest_got (i := 5) (v := ?v5) rfl (by kernel_rfl) (by kernel_rfl) (by kernel_rfl) (fun _ _ _ h => h) (by rfl) ?y5 ?r5
  case y5 => ((intro w' hm; have hc' := Mod.cell hm A1.out HK.out; clear hm; go_simp; with_reducible rfl))
  try simp only [Act.put, List.setIfInBounds_toArray, List.set_cons_zero, List.set_cons_succ]
  refine rest_got (i := 6) (v := ?v6) rfl (by kernel_rfl) (by kernel_rfl) (by kernel_rfl) (fun _ _ _ h => h) (by rfl) ?y6 ?r6
  case y6 => (intro w9q hSwq; clear hSwq; go_simp; with_reducible rfl)
  try simp only [Act.put, List.setIfInBounds_toArray, List.set_cons_zero, List.set_cons_succ]
  refine rest_one (i := 3) (by kernel_rfl) rfl (by rfl) ?_
  go_wp2_with fail
  refine (vuint_any _ _ _ _ xs _ hlen O1.out hn (by omega)).mono ?_
  rintro e w2 ⟨a2, k2, c2, rfl, hk2, o2, m2, n2⟩
  have hb2 : k2 ≤ 140737488354020 := by rw [← hk2]; simp; omega
  have K2 := Lib.hid hk2
  have M2 := Lib.hid (Mod.trans (S := blk ao) (M1.out.nil) m2 (fun i hi _ => hi))
  have N2 := Lib.hid (show SameOrNew w w2 ao a2 from n2.imp id (fun ⟨g, h1, h2, h3⟩ => ⟨g, h1, Nat.le_trans M1.out.size h2, h3⟩))
  have O2 := Lib.hid o2
  go_wp2_with fail
  refine back_to (K1 := blk a2) m2 (fun i hi hl => by rcases n2.blk i hi with h | h; exact h; omega) ?_
  clear m2 n2 o2 hk2 A0 A1 M1 O1 HK
  
  refine rest_one (i := 7) (by kernel_rfl) rfl (by rfl) ?_
  go_wp2_with fail
  refine (vuint_any _ _ _ _ _ _ K2.out O2.out (by omega) (by omega)).mono ?_
  rintro e w3 ⟨a3, k3, c3, rfl, hk3, o3, m3, n3⟩
  have HR := Lib.hid (RetApp.chain M2.out N2.out ⟨a3, k3, c3, rfl, hk3, o3, m3, n3⟩)
  go_wp2_with fail
  refine back_to (K1 := []) m3 (by simp) ?_
  clear hk3 o3 m3 n3 M2 N2 O2 K2
  refine rest_got (i := 8) (v := ?v7) rfl (by kernel_rfl) (by kernel_rfl) (by kernel_rfl) (fun _ _ _ h => h) (by rfl) ?y7 ?r7
  case y7 => (intro w9q hSwq; clear hSwq; go_simp; with_reducible rfl)
  try simp only [Act.put, List.setIfInBounds_toArray, List.set_cons_zero, List.set_cons_succ]
  refine rest_done (by kernel_rfl) ?_ _
  go_wp2
  go_ret
  exact HR.out

set_option maxHeartbeats 1000000 in
theorem refBytes_any (n r : Nat) (w : World) (hn : n < 18446744073709551616) (hr : r < 9223372036854775808) :
    Calls Tryd.prog 35 #[ballot n r] w (RetApp w none (enc7 n ++ enc7 r)) := by
  unfold ballot
  have hw : IntKind.u64.wrap (r : Int) = (r : Int) := IntWalk.u64_in _ (by omega)
  have hl1 := (enc7_length n).2
  have hl2 := (enc7_length r).2
  go_enter Tryd.func35, Tryd.ntmps35
  go_upto_region 1 with (fail)
  have hb1 := heap_alloc_new w (.cells #[.int .u64 (n : Int), .int .i64 (r : Int)] 24)
  have m0 := Mod.alloc [] w (.cells #[.int .u64 (n : Int), .int .i64 (r : Int)] 24)
  refine rest_start [] 9 #[false, false, false, false, false, false, false, false, false] rfl (by kernel_rfl) (by kernel_rfl) ?_
  intro w1 m1
  have A0 := Lib.hid (cell_of_block (i := 0) (m1.get hb1 (by simp)))
  have A1 := Lib.hid (cell_of_block (i := 1) (m1.get hb1 (by simp)))
  have M1 := Lib.hid (m0.trans' m1)
  clear hb1 m0 m1
  refine rest_got (i := 0) (v := ?v8) rfl (by kernel_rfl) (by kernel_rfl) (by kernel_rfl) (fun _ _ _ h => h) (by rfl) ?y8 ?r8
  case y8 => (intro w9q hSwq; clear hSwq; go_simp; with_reducible rfl)
  try simp only [Act.put, List.setIfInBounds_toArray, List.set_cons_zero, List.set_cons_succ]
  refine rest_got (i := 1) (v := ?v9) rfl (by kernel_rfl) (by kernel_rfl) (by kernel_rfl) (fun _ _ _ h => h) (by rfl) ?y9 ?r9
  case y9 => ((intro w9' hm9'; have hc9' := Mod.cell hm9' A0.out (by first | exact List.not_mem_nil | (simp; omega)); clear hm9'; go_simp; with_reducible rfl))
  try simp only [Act.put, List.setIfInBounds_toArray, List.set_cons_zero, List.set_cons_succ]
  refine rest_got (i := 3) (v := ?v10) rfl (by kernel_rfl) (by kernel_rfl) (by kernel_rfl) (fun _ _ _ h => h) (by rfl) ?y10 ?r10
  case y10 => (intro w9q hSwq; clear hSwq; go_simp; with_reducible rfl)
  try simp only [Act.put, List.setIfInBounds_toArray, List.set_cons_zero, List.set_cons_succ]
  refine rest_got (i := 4) (v := ?v11) rfl (by kernel_rfl) (by kernel_rfl) (by kernel_rfl) (fun _ _ _ h => h) (by rfl) ?y11 ?r11
  case y11 => ((intro w9' hm9'; have hc9' := Mod.cell hm9' A1.out (by first | exact List.not_mem_nil | (simp; omega)); clear hm9'; go_simp; with_reducible rfl))
  try simp only [Act.put, List.setIfInBounds_toArray, List.set_cons_zero, List.set_cons_succ]
  refine rest_got (i := 5) (v := ?v12) rfl (by kernel_rfl) (by kernel_rfl) (by kernel_rfl) (fun _ _ _ h => h) (by rfl) ?y12 ?r12
  case y12 => (intro w9q hSwq; clear hSwq; go_simp; with_reducible rfl)
  try simp only [Act.put, List.setIfInBounds_toArray, List.set_cons_zero, List.set_cons_succ]
  refine rest_one (i := 2) (by kernel_rfl) rfl (by rfl) ?_
  go_wp2_with fail
  refine (refUint_any n _ hn).mono ?_
  rintro e w2 ⟨a2, k2, c2, rfl, hk2, o2, m2, n2⟩
  subst hk2
  go_wp2_with fail
  refine back_to (K1 := blk a2) m2 (fresh_of n2) ?_
  have M2 := Lib.hid (M1.out.trans' m2)
  have N2 := Lib.hid (show SameOrNew w w2 none a2 from n2.imp id (fun ⟨g, h1, h2, h3⟩ => ⟨g, h1, Nat.le_trans M1.out.size h2, h3⟩))
  have O2 := Lib.hid o2
  clear A0 A1 M1 m2 n2 o2
  
  refine rest_one (i := 6) (by kernel_rfl) rfl (by rfl) ?_
  go_wp2_with fail
  refine (refUint_any r _ (by omega)).mono ?_
  rintro e w3 ⟨a3, k3, c3, rfl, hk3, o3, m3, n3⟩
  subst hk3
  go_wp2_with fail
  refine back_to (K1 := blk a2) (Mod.nil m3) (fun i hi _ => hi) ?_
  have M3 := Lib.hid (M2.out.trans' m3)
  have N3 := Lib.hid (show SameOrNew w w3 none a2 from N2.out.imp id (fun ⟨g, h1, h2, h3⟩ => ⟨g, h1, h2, Nat.lt_of_lt_of_le h3 m3.size⟩))
  have O3a := Lib.hid (Own.mod0 O2.out m3)
  have O3 := Lib.hid o3
  clear M2 N2 O2 m3 n3 o3
  
  refine rest_one (i := 7) (by kernel_rfl) rfl (by rfl) ?_
  go_wp2_with (at_builtin; refine wpl_app8 _ _ a2 _ c2 (enc7 n) rfl rfl O3a.out a3 _ c3 (enc7 r) rfl rfl O3.out.sees (by omega) ?_; intro a4 c4 w4 o4 m4 n4)
  refine back_to (K1 := []) m4 (by simp) ?_
  have HR := Lib.hid (RetApp.chain (x := none) (e := .returned (.slice a4 ((enc7 n).length + (enc7 r).length) c4)) M3.out N3.out ⟨a4, _, c4, rfl, by simp, o4, m4, n4⟩)
  clear o4 m4 n4 M3 N3 O3a O3
  refine rest_got (i := 8) (v := ?v13) rfl (by kernel_rfl) (by kernel_rfl) (by kernel_rfl) (fun _ _ _ h => h) (by rfl) ?y13 ?r13
  case y13 => (intro w9q hSwq; clear hSwq; go_simp; with_reducible rfl)
  try simp only [Act.put, List.setIfInBounds_toArray, List.set_cons_zero, List.set_cons_succ]
  refine rest_done (by kernel_rfl) ?_ _
  go_wp2
  go_ret
  exact HR.out
end Go.Proofs.YtekdnljincbghaaDoor
