/- The walks of the net laws' reference: a letter is sent. -/
import Derived.Test.YtihhbphlhckakaaRef18
namespace Go.Proofs.Ytihhbphlhckakaa
open Go Go.RowKit Go.Lib

set_option maxRecDepth 100000 in
set_option maxHeartbeats 2000000 in
theorem refsend_bad (row : Value) (fr to : Int) (t : ByteArray) (w : World) (hb : fr < 0 ∨ 6 < fr ∨ to < 0 ∨ 6 < to ∨ fr = to) :
    Calls Try.prog 30 #[row, .agg #[.int .i64 fr, .int .i64 to, .string t]] w fun e w' => e = .returned (.tuple #[row, .int .i64 1]) ∧ Mod [] w w' := by
  by_cases h1 : fr < 0
  · clear hb
    go_enter Try.func30, Try.ntmps30
    go_wp2
    ((try simp only [Exit.inBlock, Exit.then]); refine bodyPost_ret (by simp [results, Try.results30, go_sem, *]; try rfl) rfl ?_)
    exact ⟨rfl, Mod.alloc _ _ _⟩
  by_cases h2 : 6 < fr
  · clear hb
    go_enter Try.func30, Try.ntmps30
    go_wp2
    ((try simp only [Exit.inBlock, Exit.then]); refine bodyPost_ret (by simp [results, Try.results30, go_sem, *]; try rfl) rfl ?_)
    exact ⟨rfl, Mod.alloc _ _ _⟩
  by_cases h3 : to < 0
  · clear hb
    go_enter Try.func30, Try.ntmps30
    go_wp2
    ((try simp only [Exit.inBlock, Exit.then]); refine bodyPost_ret (by simp [results, Try.results30, go_sem, *]; try rfl) rfl ?_)
    exact ⟨rfl, Mod.alloc _ _ _⟩
  by_cases h4 : 6 < to
  · clear hb
    go_enter Try.func30, Try.ntmps30
    go_wp2
    ((try simp only [Exit.inBlock, Exit.then]); refine bodyPost_ret (by simp [results, Try.results30, go_sem, *]; try rfl) rfl ?_)
    exact ⟨rfl, Mod.alloc _ _ _⟩
  have h5 : fr = to := by omega
  subst h5
  clear hb
  go_enter Try.func30, Try.ntmps30
  go_wp2
  ((try simp only [Exit.inBlock, Exit.then]); refine bodyPost_ret (by simp [results, Try.results30, go_sem, *]; try rfl) rfl ?_)
  exact ⟨rfl, Mod.alloc _ _ _⟩
set_option maxRecDepth 100000 in
set_option maxHeartbeats 2000000 in
theorem refsend_full (a : Option Addr) (n c : Nat) (fr to : Int) (t : ByteArray) (w : World) (h1 : ¬ fr < 0) (h2 : ¬ 6 < fr) (h3 : ¬ to < 0) (h4 : ¬ 6 < to) (h5 : ¬ fr = to) (hn : 256 ≤ n) :
    Calls Try.prog 30 #[.slice a n c, .agg #[.int .i64 fr, .int .i64 to, .string t]] w fun e w' => e = .returned (.tuple #[.slice a n c, .int .i64 30]) ∧ Mod [] w w' := by
  go_enter Try.func30, Try.ntmps30
  go_wp2
  ((try simp only [Exit.inBlock, Exit.then]); refine bodyPost_ret (by simp [results, Try.results30, go_sem, *]; try rfl) rfl ?_)
  exact ⟨rfl, Mod.alloc _ _ _⟩
set_option maxRecDepth 100000 in
set_option maxHeartbeats 2000000 in
theorem refsend_ok (a : Option Addr) (c : Nat) (L : List Lr) (fr to : Int) (bs : List UInt8) (w : World) (h : OwnR w a c L) (h1 : ¬ fr < 0) (h2 : ¬ 6 < fr) (h3 : ¬ to < 0) (h4 : ¬ 6 < to) (h5 : ¬ fr = to) (hn : L.length < 256) :
    Calls Try.prog 30 #[.slice a L.length c, .agg #[.int .i64 fr, .int .i64 to, strV bs]] w fun e w' => ∃ a' c', e = .returned (.tuple #[.slice a' (L.length + 1) c', .int .i64 0]) ∧ OwnR w' a' c' (L ++ [(fr, to, bs)]) ∧ Mod [] w w' ∧ ∀ j, j ∈ blk a' → w.heap.size ≤ j := by
  have H := Lib.hid h
  clear h
  unfold strV
  go_enter Try.func30, Try.ntmps30
  go_upto_region 5 with (fail)
  have mb := Mod.alloc [] w (.cells #[.int .i64 fr, .int .i64 to, strV bs] 58)
  have hb := heap_alloc_new w (.cells #[.int .i64 fr, .int .i64 to, strV bs] 58)
  unfold strV at mb hb
  refine rest_start [] 7 #[false, false, false, false, false, false, false] rfl (by kernel_rfl) (by kernel_rfl) ?_
  intro w1 m1
  have hb1 := m1.get hb (by simp)
  have X0 := Lib.hid (cell_of_block (i := 0) hb1)
  have X1 := Lib.hid (cell_of_block (i := 1) hb1)
  have X2 := Lib.hid (cell_of_block (i := 2) hb1)
  have mm := mb.trans' m1
  have M1 := Lib.hid mm
  have H1 := Lib.hid (Own.mod0 H.out mm)
  have HW := Lib.hid (show wo L (-1) L.length = L by rw [wo_none L (-1) (by omega) _ (Nat.le_refl _), List.take_length])
  clear mb hb m1 hb1 mm
  refine rest_got (i := 0) (v := ?v1) rfl (by kernel_rfl) (by kernel_rfl) (by kernel_rfl) (fun _ _ _ h => h) (by rfl) ?y1 ?r1
  case y1 => (intro w9q hSwq; clear hSwq; go_simp; with_reducible rfl)
  try simp only [Act.put, List.setIfInBounds_toArray, List.set_cons_zero, List.set_cons_succ]
  refine rest_got (i := 2) (v := ?v2) rfl (by kernel_rfl) (by kernel_rfl) (by kernel_rfl) (fun _ _ _ h => h) (by rfl) ?y2 ?r2
  case y2 => ((intro w9' hm9'; have hc9' := Mod.cell hm9' X0.out (by first | exact List.not_mem_nil | (simp; done) | (simp; omega)); have hd9' := Mod.cell hm9' X1.out (by first | exact List.not_mem_nil | (simp; done) | (simp; omega)); have he9' := Mod.cell hm9' X2.out (by first | exact List.not_mem_nil | (simp; done) | (simp; omega)); clear hm9'; go_simp; with_reducible rfl))
  try simp only [Act.put, List.setIfInBounds_toArray, List.set_cons_zero, List.set_cons_succ]
  clear X0 X1 X2
  refine rest_two (i := 1) (j := 3) (by kernel_rfl) rfl (by rfl) rfl (by rfl) ?_ ?_
  · go_wp2_with fail
    refine (without_any a c L (-1) _ H1.out (by omega)).mono ?_
    rw [HW.out]
    rintro e w3 ⟨a3, c3, rfl, o3, m3, f3⟩
    have HO3 := Lib.hid o3
    have M3 := Lib.hid (M1.out.trans' m3)
    have HA : Hid (∀ j, j ∈ blk a3 → w.heap.size ≤ j) := fun j hj => Nat.le_trans M1.out.size (f3 j hj)
    go_wp2_with fail
    refine back_to (K1 := blk a3) m3 (fun k hk hl => by have := f3 k hk; omega) ?_
    clear o3 m3 f3
    
    refine rest_one (i := 3) (by kernel_rfl) rfl (by rfl) ?_
    have mc := Mod.alloc [] w3 (.cells #[.int .i64 fr, .int .i64 to, strV bs] 58)
    have HSH := Lib.hid (showsR (x := (fr, to, bs)) (heap_alloc_new w3 (.cells #[.int .i64 fr, .int .i64 to, strV bs] 58)))
    have HO4 := Lib.hid (Own.mod0 HO3.out mc)
    have M4 := Lib.hid (M3.out.trans' mc)
    unfold strV at mc HSH HO4 M4
    go_wp2_with fail
    refine back_to (K1 := blk a3) mc.nil (fun _ h _ => h) ?_
    clear mc
    
    refine rest_one (i := 4) (by kernel_rfl) rfl (by rfl) ?_
    go_wp2_with (first | (at_builtin; refine wpl_appR (dst := some 40) _ _ a3 L.length c3 L rfl rfl HO4.out _ (fr, to, bs) rfl HSH.out (by omega) ?_) | fail)
    intro a5 c5 w5 o5 m5 s5
    have HO5 := Lib.hid o5
    have M5 : Hid (Mod [] w w5) := M4.out.trans m5 (fun i hi hl => by have := HA.out i hi; omega)
    have HA5 : Hid (∀ j, j ∈ blk a5 → w.heap.size ≤ j) := fun j hj => by
      rcases s5.blk j hj with h | h
      · exact HA.out j h
      · exact Nat.le_trans M4.out.size h
    go_wp2_with fail
    refine back_to (K1 := []) m5 (by simp) ?_
    clear o5 m5 s5
    refine rest_got (i := 5) (v := ?v3) rfl (by kernel_rfl) (by kernel_rfl) (by kernel_rfl) (fun _ _ _ h => h) (by rfl) ?y3 ?r3
    case y3 => (intro w9q hSwq; clear hSwq; go_simp; with_reducible rfl)
    try simp only [Act.put, List.setIfInBounds_toArray, List.set_cons_zero, List.set_cons_succ]
    refine rest_got (i := 6) (v := ?v4) rfl (by kernel_rfl) (by kernel_rfl) (by kernel_rfl) (fun _ _ _ h => h) (by rfl) ?y4 ?r4
    case y4 => (intro w9q hSwq; clear hSwq; go_simp; with_reducible rfl)
    try simp only [Act.put, List.setIfInBounds_toArray, List.set_cons_zero, List.set_cons_succ]
    refine rest_done (by kernel_rfl) ?_ _
    go_wp2
    ((try simp only [Exit.inBlock, Exit.then]); refine bodyPost_ret (by simp [results, Try.results30, go_sem, *]; try rfl) rfl ?_)
    exact ⟨a5, c5, rfl, HO5.out, M5.out, HA5.out⟩
  · have mc := Mod.alloc [] w1 (.cells #[.int .i64 fr, .int .i64 to, strV bs] 58)
    have hsh := heap_alloc_new w1 (.cells #[.int .i64 fr, .int .i64 to, strV bs] 58)
    have H2 := Lib.hid (Own.mod0 H1.out mc)
    have M2 := Lib.hid (M1.out.trans' mc)
    have HX := Lib.hid hsh
    unfold strV at mc H2 M2 HX
    go_wp2_with fail
    refine back_to (K1 := []) mc (by simp) ?_
    clear mc hsh
    
    refine rest_one (i := 1) (by kernel_rfl) rfl (by rfl) ?_
    go_wp2_with fail
    refine (without_any a c L (-1) _ H2.out (by omega)).mono ?_
    rw [HW.out]
    rintro e w3 ⟨a3, c3, rfl, o3, m3, f3⟩
    have HO4 := Lib.hid o3
    have M4 := Lib.hid (M2.out.trans' m3)
    have HA : Hid (∀ j, j ∈ blk a3 → w.heap.size ≤ j) := fun j hj => Nat.le_trans M2.out.size (f3 j hj)
    have HSH := Lib.hid (showsR (x := (fr, to, bs)) (m3.get HX.out (by simp)))
    go_wp2_with fail
    refine back_to (K1 := blk a3) m3 (fun k hk hl => by have := f3 k hk; omega) ?_
    clear o3 m3 f3
    
    refine rest_one (i := 4) (by kernel_rfl) rfl (by rfl) ?_
    go_wp2_with (first | (at_builtin; refine wpl_appR (dst := some 40) _ _ a3 L.length c3 L rfl rfl HO4.out _ (fr, to, bs) rfl HSH.out (by omega) ?_) | fail)
    intro a5 c5 w5 o5 m5 s5
    have HO5 := Lib.hid o5
    have M5 : Hid (Mod [] w w5) := M4.out.trans m5 (fun i hi hl => by have := HA.out i hi; omega)
    have HA5 : Hid (∀ j, j ∈ blk a5 → w.heap.size ≤ j) := fun j hj => by
      rcases s5.blk j hj with h | h
      · exact HA.out j h
      · exact Nat.le_trans M4.out.size h
    go_wp2_with fail
    refine back_to (K1 := []) m5 (by simp) ?_
    clear o5 m5 s5
    refine rest_got (i := 5) (v := ?v5) rfl (by kernel_rfl) (by kernel_rfl) (by kernel_rfl) (fun _ _ _ h => h) (by rfl) ?y5 ?r5
    case y5 => (intro w9q hSwq; clear hSwq; go_simp; with_reducible rfl)
    try simp only [Act.put, List.setIfInBounds_toArray, List.set_cons_zero, List.set_cons_succ]
    refine rest_got (i := 6) (v := ?v6) rfl (by kernel_rfl) (by kernel_rfl) (by kernel_rfl) (fun _ _ _ h => h) (by rfl) ?y6 ?r6
    case y6 => (intro w9q hSwq; clear hSwq; go_simp; with_reducible rfl)
    try simp only [Act.put, List.setIfInBounds_toArray, List.set_cons_zero, List.set_cons_succ]
    refine rest_done (by kernel_rfl) ?_ _
    go_wp2
    ((try simp only [Exit.inBlock, Exit.then]); refine bodyPost_ret (by simp [results, Try.results30, go_sem, *]; try rfl) rfl ?_)
    exact ⟨a5, c5, rfl, HO5.out, M5.out, HA5.out⟩
end Go.Proofs.Ytihhbphlhckakaa
