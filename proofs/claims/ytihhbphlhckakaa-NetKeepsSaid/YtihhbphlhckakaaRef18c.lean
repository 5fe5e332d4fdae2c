/- The walks of the net laws' reference: what is done with a letter. -/
import Derived.Test.YtihhbphlhckakaaRef18b
namespace Go.Proofs.Ytihhbphlhckakaa
open Go Go.RowKit Go.Lib

theorem Mod.only3 {a b c : World} {S : List Nat} (h : Mod [] a b) (k : Mod S b c) (hs : ∀ j, j ∈ S → a.heap.size ≤ j) : Mod [] a c :=
  h.trans k (fun i hi hl => by have := hs i hi; omega)
set_option maxRecDepth 100000 in
set_option maxHeartbeats 2000000 in
theorem refdo_out (a : Option Addr) (n c : Nat) (d k bit : Int) (w : World) (hk : k < 0 ∨ (n : Int) ≤ k) :
    Calls Try.prog 31 #[.slice a n c, .int .u8 d, .int .i64 k, .int .i64 bit] w fun e w' => e = .returned (.tuple #[.slice a n c, .agg #[.int .i64 0, .int .i64 0, .string ⟨#[]⟩], .int .i64 1]) ∧ Mod [] w w' := by
  by_cases h0 : k < 0
  · clear hk
    go_enter Try.func31, Try.ntmps31
    go_wp2
    ((try simp only [Exit.inBlock, Exit.then]); refine bodyPost_ret (by simp [results, Try.results31, go_sem, *]; try rfl) rfl ?_)
    exact ⟨rfl, .ofBelow (by go_grown)⟩
  · have hk1 : (n : Int) ≤ k := by omega
    clear hk
    go_enter Try.func31, Try.ntmps31
    go_wp2
    ((try simp only [Exit.inBlock, Exit.then]); refine bodyPost_ret (by simp [results, Try.results31, go_sem, *]; try rfl) rfl ?_)
    exact ⟨rfl, .ofBelow (by go_grown)⟩
set_option maxRecDepth 100000 in
set_option maxHeartbeats 4000000 in
theorem refdo_drop (a : Option Addr) (c : Nat) (L : List Lr) (k : Nat) (bit : Int) (w : World) (h : OwnR w a c L) (hk : k < L.length) (hl : L.length ≤ 1000) (fr to : Int) (bs : List UInt8) (hx : L[k] = (fr, to, bs)) :
    Calls Try.prog 31 #[.slice a L.length c, .int .u8 2, .int .i64 (k : Int), .int .i64 bit] w fun e w' => ∃ a' c', e = .returned (.tuple #[.slice a' (L.eraseIdx k).length c', .agg #[.int .i64 0, .int .i64 0, .string ⟨#[]⟩], .int .i64 0]) ∧ OwnR w' a' c' (L.eraseIdx k) ∧ Mod [] w w' ∧ ∀ j, j ∈ blk a' → w.heap.size ≤ j := by
  have H := Lib.hid h
  obtain ⟨b, rfl, p0, p1, p2, -⟩ := OwnR.at' h hk
  rw [hx] at p0 p1 p2
  dsimp only at p0 p1 p2
  unfold strV at p2
  try unfold strV
  have hlb := World.block_lt_of_cell? w _ p0
  have hwk := wo_above L k hk L.length (Nat.le_refl _) hk
  rw [List.take_length] at hwk
  have HWK := Lib.hid hwk
  have HW := Lib.hid (show wo L (-1) L.length = L by rw [wo_none L (-1) (by omega) _ (Nat.le_refl _), List.take_length])
  clear h hwk
  go_enter Try.func31, Try.ntmps31
  go_wp2_with fail
  have m1 := Mod.alloc [] w (.cells #[.int .i64 0, .int .i64 0, .string ⟨#[]⟩] 58)
  have m2 := Mod.alloc [] (w.alloc (.cells #[.int .i64 0, .int .i64 0, .string ⟨#[]⟩] 58)) (.cells #[.int .i64 fr, .int .i64 to, .string ⟨bs.toArray⟩] 58)
  have hm := m1.trans' m2
  have hz := m2.get (heap_alloc_new w (.cells #[.int .i64 0, .int .i64 0, .string ⟨#[]⟩] 58)) (by simp)
  refine (without_any _ c L k _ (Own.mod0 H.out hm) (by omega)).mono ?_
  rw [HWK.out]
  rintro e w3 ⟨a3, c3, rfl, o3, m3, f3⟩
  have Z3 := m3.get hz (by simp)
  have z0 := cell_of_block (i := 0) Z3
  have z1 := cell_of_block (i := 1) Z3
  have z2 := cell_of_block (i := 2) Z3
  have y0 := free_of_block (i := 0) Z3
  have y1 := free_of_block (i := 1) Z3
  have y2 := free_of_block (i := 2) Z3
  have HO3 := Lib.hid o3
  have M3 := Lib.hid (hm.trans' m3)
  have F3 : Hid (∀ j, j ∈ blk a3 → w.heap.size < j) := fun j hj => by have := f3 j hj; simp at this; omega
  clear m1 m2 hm hz o3 m3 f3 Z3 p0 p1 p2
  go_wp2
  ((try simp only [Exit.inBlock, Exit.then]); refine bodyPost_ret (by simp [results, Try.results31, go_sem, *]; try rfl) rfl ?_)
  have m6 := three_mod w3 w.heap.size (.int .i64 0) (.int .i64 0) (.string ⟨#[]⟩)
  exact ⟨a3, c3, rfl, Own.mod HO3.out m6 (fun j hj => by have := F3.out j hj; simp; omega), M3.out.only3 m6 (fun j hj => by simp at hj; omega), fun j hj => by have := F3.out j hj; omega⟩
set_option maxRecDepth 100000 in
set_option maxHeartbeats 4000000 in
theorem refdo_take (a : Option Addr) (c : Nat) (L : List Lr) (k : Nat) (bit : Int) (w : World) (h : OwnR w a c L) (hk : k < L.length) (hl : L.length ≤ 1000) (fr to : Int) (bs : List UInt8) (hx : L[k] = (fr, to, bs)) :
    Calls Try.prog 31 #[.slice a L.length c, .int .u8 1, .int .i64 (k : Int), .int .i64 bit] w fun e w' => ∃ a' c', e = .returned (.tuple #[.slice a' (L.eraseIdx k).length c', .agg #[.int .i64 fr, .int .i64 to, strV bs], .int .i64 0]) ∧ OwnR w' a' c' (L.eraseIdx k) ∧ Mod [] w w' ∧ ∀ j, j ∈ blk a' → w.heap.size ≤ j := by
  have H := Lib.hid h
  obtain ⟨b, rfl, p0, p1, p2, -⟩ := OwnR.at' h hk
  rw [hx] at p0 p1 p2
  dsimp only at p0 p1 p2
  unfold strV at p2
  try unfold strV
  have hlb := World.block_lt_of_cell? w _ p0
  have hwk := wo_above L k hk L.length (Nat.le_refl _) hk
  rw [List.take_length] at hwk
  have HWK := Lib.hid hwk
  have HW := Lib.hid (show wo L (-1) L.length = L by rw [wo_none L (-1) (by omega) _ (Nat.le_refl _), List.take_length])
  clear h hwk
  go_enter Try.func31, Try.ntmps31
  go_upto_region 6 with (fail)
  have m1 := Mod.alloc [] w (.cells #[.int .i64 0, .int .i64 0, .string ⟨#[]⟩] 58)
  have m2 := Mod.alloc [] (w.alloc (.cells #[.int .i64 0, .int .i64 0, .string ⟨#[]⟩] 58)) (.cells #[.int .i64 fr, .int .i64 to, .string ⟨bs.toArray⟩] 58)
  have hm := m1.trans' m2
  have hz := m2.get (heap_alloc_new w (.cells #[.int .i64 0, .int .i64 0, .string ⟨#[]⟩] 58)) (by simp)
  have hb := heap_alloc_new (w.alloc (.cells #[.int .i64 0, .int .i64 0, .string ⟨#[]⟩] 58)) (.cells #[.int .i64 fr, .int .i64 to, .string ⟨bs.toArray⟩] 58)
  have z1 : (w.alloc (.cells #[.int .i64 0, .int .i64 0, .string ⟨#[]⟩] 58)).heap.size = w.heap.size + 1 := by simp
  rw [z1] at hb
  refine rest_start [w.heap.size] 7 #[false, false, false, false, false, false, false] rfl (by kernel_rfl) (by kernel_rfl) ?_
  intro w1 mm
  have hb1 := mm.get hb (by simp)
  have Z1 := Lib.hid (mm.get hz (by simp))
  have X0 := Lib.hid (cell_of_block (i := 0) hb1)
  have X1 := Lib.hid (cell_of_block (i := 1) hb1)
  have X2 := Lib.hid (cell_of_block (i := 2) hb1)
  have hm2 := hm.trans' mm
  have M1 := Lib.hid hm2
  have H1 := Lib.hid (Own.mod0 H.out hm2)
  have S1 : Hid (w.heap.size + 1 < w1.heap.size) := lt_of_block hb1
  clear m1 m2 hm hz hb z1 mm hb1 hm2 p0 p1 p2
  refine rest_got (i := 0) (v := ?v1) rfl (by kernel_rfl) (by kernel_rfl) (by kernel_rfl) (fun _ _ _ h => h) (by rfl) ?y1 ?r1
  case y1 => (intro w9q hSwq; clear hSwq; go_simp; with_reducible rfl)
  try simp only [Act.put, List.setIfInBounds_toArray, List.set_cons_zero, List.set_cons_succ]
  refine rest_got (i := 1) (v := ?v2) rfl (by kernel_rfl) (by kernel_rfl) (by kernel_rfl) (fun _ _ _ h => h) (by rfl) ?y2 ?r2
  case y2 => (intro w9q hSwq; clear hSwq; go_simp; with_reducible rfl)
  try simp only [Act.put, List.setIfInBounds_toArray, List.set_cons_zero, List.set_cons_succ]
  refine rest_got (i := 3) (v := ?v3) rfl (by kernel_rfl) (by kernel_rfl) (by kernel_rfl) (fun _ _ _ h => h) (by rfl) ?y3 ?r3
  case y3 => ((intro w9' hm9'; have hc9' := Mod.cell hm9' X0.out (by first | exact List.not_mem_nil | (simp; done) | (simp; omega)); have hd9' := Mod.cell hm9' X1.out (by first | exact List.not_mem_nil | (simp; done) | (simp; omega)); have he9' := Mod.cell hm9' X2.out (by first | exact List.not_mem_nil | (simp; done) | (simp; omega)); clear hm9'; go_simp; with_reducible rfl))
  try simp only [Act.put, List.setIfInBounds_toArray, List.set_cons_zero, List.set_cons_succ]
  clear X0 X1 X2
  refine rest_one (i := 2) (by kernel_rfl) rfl (by rfl) ?_
  go_wp2_with fail
  refine (without_any _ c L k _ H1.out (by omega)).mono ?_
  rw [HWK.out]
  rintro e w3 ⟨a3, c3, rfl, o3, m3, f3⟩
  have HO3 := Lib.hid o3
  have M3 := Lib.hid (M1.out.trans' m3)
  have F3 : Hid (∀ j, j ∈ blk a3 → w.heap.size < j) := fun j hj => by have := f3 j hj; have := S1.out; omega
  have Z3 := Lib.hid (m3.get Z1.out (by simp))
  go_wp2_with fail
  refine back_to (K1 := [w.heap.size]) m3.nil (fun _ h _ => h) ?_
  clear o3 m3 f3
  refine rest_got (i := 4) (v := ?v4) rfl (by kernel_rfl) (by kernel_rfl) (by kernel_rfl) (fun _ _ _ h => h) (by rfl) ?y4 ?r4
  case y4 => (intro w9q hSwq; clear hSwq; go_simp; with_reducible rfl)
  try simp only [Act.put, List.setIfInBounds_toArray, List.set_cons_zero, List.set_cons_succ]
  have Z5 := Z3.out
  have z0 := cell_of_block (i := 0) Z5
  have z1 := cell_of_block (i := 1) Z5
  have z2 := cell_of_block (i := 2) Z5
  have y0 := free_of_block (i := 0) Z5
  have y1 := free_of_block (i := 1) Z5
  have y2 := free_of_block (i := 2) Z5
  refine rest_one (i := 5) (by kernel_rfl) rfl (by rfl) ?_
  go_wp2_with fail
  have m6 := three_mod w3 w.heap.size (.int .i64 fr) (.int .i64 to) (.string ⟨bs.toArray⟩)
  have HO6 := Lib.hid (Own.mod (S := [w.heap.size]) HO3.out m6 (fun j hj => by have := F3.out j hj; simp; omega))
  have M6 := Lib.hid (M3.out.only3 m6 (fun j hj => by simp at hj; omega))
  have R6 := Lib.hid (three_set Z5 (.int .i64 fr) (.int .i64 to) (.string ⟨bs.toArray⟩))
  refine back_to (K1 := []) m6 (by simp) ?_
  clear m6 Z5 z0 z1 z2 y0 y1 y2
  refine rest_got (i := 6) (v := ?v5) rfl (by kernel_rfl) (by kernel_rfl) (by kernel_rfl) (fun _ _ _ h => h) (by rfl) ?y5 ?r5
  case y5 => (intro w9q hSwq; clear hSwq; go_simp; with_reducible rfl)
  try simp only [Act.put, List.setIfInBounds_toArray, List.set_cons_zero, List.set_cons_succ]
  refine rest_done (by kernel_rfl) ?_ _
  have r0 := cell_of_block (i := 0) R6.out
  have r1 := cell_of_block (i := 1) R6.out
  have r2 := cell_of_block (i := 2) R6.out
  have w0 := free_of_block (i := 0) R6.out
  go_wp2
  ((try simp only [Exit.inBlock, Exit.then]); refine bodyPost_ret (by simp [results, Try.results31, go_sem, *]; try rfl) rfl ?_)
  exact ⟨a3, c3, by simp, HO6.out, M6.out, fun j hj => by have := F3.out j hj; omega⟩
set_option maxRecDepth 100000 in
set_option maxHeartbeats 4000000 in
theorem refdo_double (a : Option Addr) (c : Nat) (L : List Lr) (k : Nat) (bit : Int) (w : World) (h : OwnR w a c L) (hk : k < L.length) (hl : L.length < 256) (fr to : Int) (bs : List UInt8) (hx : L[k] = (fr, to, bs)) :
    Calls Try.prog 31 #[.slice a L.length c, .int .u8 3, .int .i64 (k : Int), .int .i64 bit] w fun e w' => ∃ a' c', e = .returned (.tuple #[.slice a' (L ++ [(fr, to, bs)]).length c', .agg #[.int .i64 0, .int .i64 0, .string ⟨#[]⟩], .int .i64 0]) ∧ OwnR w' a' c' (L ++ [(fr, to, bs)]) ∧ Mod [] w w' ∧ ∀ j, j ∈ blk a' → w.heap.size ≤ j := by
  have H := Lib.hid h
  obtain ⟨b, rfl, p0, p1, p2, -⟩ := OwnR.at' h hk
  rw [hx] at p0 p1 p2
  dsimp only at p0 p1 p2
  unfold strV at p2
  try unfold strV
  have hlb := World.block_lt_of_cell? w _ p0
  have hwk := wo_above L k hk L.length (Nat.le_refl _) hk
  rw [List.take_length] at hwk
  have HWK := Lib.hid hwk
  have HW := Lib.hid (show wo L (-1) L.length = L by rw [wo_none L (-1) (by omega) _ (Nat.le_refl _), List.take_length])
  clear h hwk
  go_enter Try.func31, Try.ntmps31
  go_upto_region 12 with (fail)
  have m1 := Mod.alloc [] w (.cells #[.int .i64 0, .int .i64 0, .string ⟨#[]⟩] 58)
  have m2 := Mod.alloc [] (w.alloc (.cells #[.int .i64 0, .int .i64 0, .string ⟨#[]⟩] 58)) (.cells #[.int .i64 fr, .int .i64 to, .string ⟨bs.toArray⟩] 58)
  have hm := m1.trans' m2
  have hz := m2.get (heap_alloc_new w (.cells #[.int .i64 0, .int .i64 0, .string ⟨#[]⟩] 58)) (by simp)
  have hb := heap_alloc_new (w.alloc (.cells #[.int .i64 0, .int .i64 0, .string ⟨#[]⟩] 58)) (.cells #[.int .i64 fr, .int .i64 to, .string ⟨bs.toArray⟩] 58)
  have z1 : (w.alloc (.cells #[.int .i64 0, .int .i64 0, .string ⟨#[]⟩] 58)).heap.size = w.heap.size + 1 := by simp
  rw [z1] at hb
  refine rest_start [w.heap.size] 9 #[false, false, false, false, false, false, false, false, false] rfl (by kernel_rfl) (by kernel_rfl) ?_
  intro w1 mm
  have hb1 := mm.get hb (by simp)
  have Z1 := Lib.hid (mm.get hz (by simp))
  have X0 := Lib.hid (cell_of_block (i := 0) hb1)
  have X1 := Lib.hid (cell_of_block (i := 1) hb1)
  have X2 := Lib.hid (cell_of_block (i := 2) hb1)
  have hm2 := hm.trans' mm
  have M1 := Lib.hid hm2
  have H1 := Lib.hid (Own.mod0 H.out hm2)
  have S1 : Hid (w.heap.size + 1 < w1.heap.size) := lt_of_block hb1
  clear m1 m2 hm hz hb z1 mm hb1 hm2 p0 p1 p2
  refine rest_got (i := 0) (v := ?v6) rfl (by kernel_rfl) (by kernel_rfl) (by kernel_rfl) (fun _ _ _ h => h) (by rfl) ?y6 ?r6
  case y6 => (intro w9q hSwq; clear hSwq; go_simp; with_reducible rfl)
  try simp only [Act.put, List.setIfInBounds_toArray, List.set_cons_zero, List.set_cons_succ]
  refine rest_got (i := 2) (v := ?v7) rfl (by kernel_rfl) (by kernel_rfl) (by kernel_rfl) (fun _ _ _ h => h) (by rfl) ?y7 ?r7
  case y7 => ((intro w9' hm9'; have hc9' := Mod.cell hm9' X0.out (by first | exact List.not_mem_nil | (simp; done) | (simp; omega)); have hd9' := Mod.cell hm9' X1.out (by first | exact List.not_mem_nil | (simp; done) | (simp; omega)); have he9' := Mod.cell hm9' X2.out (by first | exact List.not_mem_nil | (simp; done) | (simp; omega)); clear hm9'; go_simp; with_reducible rfl))
  try simp only [Act.put, List.setIfInBounds_toArray, List.set_cons_zero, List.set_cons_succ]
  refine rest_got (i := 5) (v := ?v8) rfl (by kernel_rfl) (by kernel_rfl) (by kernel_rfl) (fun _ _ _ h => h) (by rfl) ?y8 ?r8
  case y8 => (intro w9q hSwq; clear hSwq; go_simp; with_reducible rfl)
  try simp only [Act.put, List.setIfInBounds_toArray, List.set_cons_zero, List.set_cons_succ]
  clear X0 X1 X2
  refine rest_two (i := 1) (j := 3) (by kernel_rfl) rfl (by rfl) rfl (by rfl) ?_ ?_
  · go_wp2_with fail
    refine (without_any _ c L (-1) _ H1.out (by omega)).mono ?_
    rw [HW.out]
    rintro e w3 ⟨a3, c3, rfl, o3, m3, f3⟩
    have HO3 := Lib.hid o3
    have M3 := Lib.hid (M1.out.trans' m3)
    have F4 : Hid (∀ j, j ∈ blk a3 → w.heap.size < j) := fun j hj => by have := f3 j hj; have := S1.out; omega
    have Z3 := Lib.hid (m3.get Z1.out (by simp))
    have M31 := Lib.hid m3.size
    go_wp2_with fail
    refine back_to (K1 := w.heap.size :: blk a3) m3.nil (fun k hk hl => by rcases List.mem_cons.1 hk with h | h; exact List.mem_cons.2 (.inl h); exact absurd (f3 k h) (by omega)) ?_
    clear o3 m3 f3
    
    refine rest_one (i := 3) (by kernel_rfl) rfl (by rfl) ?_
    have mc := Mod.alloc [] w3 (.cells #[.int .i64 fr, .int .i64 to, strV bs] 58)
    have HSH := Lib.hid (showsR (x := (fr, to, bs)) (heap_alloc_new w3 (.cells #[.int .i64 fr, .int .i64 to, strV bs] 58)))
    have HO4 := Lib.hid (Own.mod0 HO3.out mc)
    have M4 := Lib.hid (M3.out.trans' mc)
    have Z4 := Lib.hid (mc.get Z3.out (by simp))
    have M41 : Hid (w1.heap.size ≤ (w3.alloc (.cells #[.int .i64 fr, .int .i64 to, strV bs] 58)).heap.size) := Nat.le_trans M31.out mc.size
    unfold strV at mc HSH HO4 M4 Z4 M41
    go_wp2_with fail
    refine back_to (K1 := w.heap.size :: blk a3) mc.nil (fun _ h _ => h) ?_
    clear mc
    
    refine rest_one (i := 4) (by kernel_rfl) rfl (by rfl) ?_
    go_wp2_with (first | (at_builtin; refine wpl_appR (dst := some 52) _ _ a3 (L).length c3 ((L)) rfl rfl HO4.out _ (fr, to, bs) rfl HSH.out (by omega) ?_) | fail)
    intro a5 c5 w5 o5 m5 s5
    have HO5 := Lib.hid o5
    have M5 := Lib.hid (M4.out.only3 m5 (fun i hi => by have := F4.out i hi; omega))
    have F5 : Hid (∀ j, j ∈ blk a5 → w.heap.size < j) := fun j hj => by
      rcases s5.blk j hj with h | h
      · exact F4.out j h
      · have := M1.out.size; have := S1.out; have := M41.out; omega
    have Z5h := Lib.hid (m5.get Z4.out (fun hj => by have := F4.out _ hj; omega))
    go_wp2_with fail
    refine back_to (K1 := [w.heap.size]) (m5.weaken (fun j hj => List.mem_cons_of_mem _ hj)) (fun k hk _ => by simp at hk; subst hk; simp) ?_
    clear o5 m5 s5
    refine rest_got (i := 6) (v := ?v9) rfl (by kernel_rfl) (by kernel_rfl) (by kernel_rfl) (fun _ _ _ h => h) (by rfl) ?y9 ?r9
    case y9 => (intro w9q hSwq; clear hSwq; go_simp; with_reducible rfl)
    try simp only [Act.put, List.setIfInBounds_toArray, List.set_cons_zero, List.set_cons_succ]
    have Z5 := Z5h.out
    have z0 := cell_of_block (i := 0) Z5
    have z1 := cell_of_block (i := 1) Z5
    have z2 := cell_of_block (i := 2) Z5
    have y0 := free_of_block (i := 0) Z5
    have y1 := free_of_block (i := 1) Z5
    have y2 := free_of_block (i := 2) Z5
    refine rest_one (i := 7) (by kernel_rfl) rfl (by rfl) ?_
    go_wp2_with fail
    have m6 := three_mod w5 w.heap.size (.int .i64 0) (.int .i64 0) (.string ⟨#[]⟩)
    have HO6 := Lib.hid (Own.mod (S := [w.heap.size]) HO5.out m6 (fun j hj => by have := F5.out j hj; simp; omega))
    have M6 := Lib.hid (M5.out.only3 m6 (fun j hj => by simp at hj; omega))
    have R6 := Lib.hid (three_set Z5 (.int .i64 0) (.int .i64 0) (.string ⟨#[]⟩))
    refine back_to (K1 := []) m6 (by simp) ?_
    clear m6 Z5 z0 z1 z2 y0 y1 y2
    refine rest_got (i := 8) (v := ?v10) rfl (by kernel_rfl) (by kernel_rfl) (by kernel_rfl) (fun _ _ _ h => h) (by rfl) ?y10 ?r10
    case y10 => (intro w9q hSwq; clear hSwq; go_simp; with_reducible rfl)
    try simp only [Act.put, List.setIfInBounds_toArray, List.set_cons_zero, List.set_cons_succ]
    refine rest_done (by kernel_rfl) ?_ _
    have r0 := cell_of_block (i := 0) R6.out
    have r1 := cell_of_block (i := 1) R6.out
    have r2 := cell_of_block (i := 2) R6.out
    have w0 := free_of_block (i := 0) R6.out
    go_wp2
    ((try simp only [Exit.inBlock, Exit.then]); refine bodyPost_ret (by simp [results, Try.results31, go_sem, *]; try rfl) rfl ?_)
    exact ⟨a5, c5, by simp, HO6.out, M6.out, fun j hj => by have := F5.out j hj; omega⟩
  · have mc := Mod.alloc [] w1 (.cells #[.int .i64 fr, .int .i64 to, strV bs] 58)
    have H2 := Lib.hid (Own.mod0 H1.out mc)
    have M2 := Lib.hid (M1.out.trans' mc)
    have HX := Lib.hid (heap_alloc_new w1 (.cells #[.int .i64 fr, .int .i64 to, strV bs] 58))
    have Z2 := Lib.hid (mc.get Z1.out (by simp))
    have M21 := Lib.hid mc.size
    unfold strV at mc H2 M2 HX Z2 M21
    go_wp2_with fail
    refine back_to (K1 := [w.heap.size]) mc.nil (fun _ h _ => h) ?_
    clear mc
    
    refine rest_one (i := 1) (by kernel_rfl) rfl (by rfl) ?_
    go_wp2_with fail
    refine (without_any _ c L (-1) _ H2.out (by omega)).mono ?_
    rw [HW.out]
    rintro e w3 ⟨a3, c3, rfl, o3, m3, f3⟩
    have HO4 := Lib.hid o3
    have M4 := Lib.hid (M2.out.trans' m3)
    have F4 : Hid (∀ j, j ∈ blk a3 → w.heap.size < j) := fun j hj => by have := f3 j hj; have := S1.out; have := M21.out; omega
    have Z4 := Lib.hid (m3.get Z2.out (by simp))
    have HSH := Lib.hid (showsR (x := (fr, to, bs)) (m3.get HX.out (by simp)))
    have M41 : Hid (w1.heap.size ≤ w3.heap.size) := Nat.le_trans M21.out m3.size
    go_wp2_with fail
    refine back_to (K1 := w.heap.size :: blk a3) m3.nil (fun k hk hl => by rcases List.mem_cons.1 hk with h | h; exact List.mem_cons.2 (.inl h); exact absurd (f3 k h) (by have := M21.out; omega)) ?_
    clear o3 m3 f3
    
    refine rest_one (i := 4) (by kernel_rfl) rfl (by rfl) ?_
    go_wp2_with (first | (at_builtin; refine wpl_appR (dst := some 52) _ _ a3 (L).length c3 ((L)) rfl rfl HO4.out _ (fr, to, bs) rfl HSH.out (by omega) ?_) | fail)
    intro a5 c5 w5 o5 m5 s5
    have HO5 := Lib.hid o5
    have M5 := Lib.hid (M4.out.only3 m5 (fun i hi => by have := F4.out i hi; omega))
    have F5 : Hid (∀ j, j ∈ blk a5 → w.heap.size < j) := fun j hj => by
      rcases s5.blk j hj with h | h
      · exact F4.out j h
      · have := M1.out.size; have := S1.out; have := M41.out; omega
    have Z5h := Lib.hid (m5.get Z4.out (fun hj => by have := F4.out _ hj; omega))
    go_wp2_with fail
    refine back_to (K1 := [w.heap.size]) (m5.weaken (fun j hj => List.mem_cons_of_mem _ hj)) (fun k hk _ => by simp at hk; subst hk; simp) ?_
    clear o5 m5 s5
    refine rest_got (i := 6) (v := ?v11) rfl (by kernel_rfl) (by kernel_rfl) (by kernel_rfl) (fun _ _ _ h => h) (by rfl) ?y11 ?r11
    case y11 => (intro w9q hSwq; clear hSwq; go_simp; with_reducible rfl)
    try simp only [Act.put, List.setIfInBounds_toArray, List.set_cons_zero, List.set_cons_succ]
    have Z5 := Z5h.out
    have z0 := cell_of_block (i := 0) Z5
    have z1 := cell_of_block (i := 1) Z5
    have z2 := cell_of_block (i := 2) Z5
    have y0 := free_of_block (i := 0) Z5
    have y1 := free_of_block (i := 1) Z5
    have y2 := free_of_block (i := 2) Z5
    refine rest_one (i := 7) (by kernel_rfl) rfl (by rfl) ?_
    go_wp2_with fail
    have m6 := three_mod w5 w.heap.size (.int .i64 0) (.int .i64 0) (.string ⟨#[]⟩)
    have HO6 := Lib.hid (Own.mod (S := [w.heap.size]) HO5.out m6 (fun j hj => by have := F5.out j hj; simp; omega))
    have M6 := Lib.hid (M5.out.only3 m6 (fun j hj => by simp at hj; omega))
    have R6 := Lib.hid (three_set Z5 (.int .i64 0) (.int .i64 0) (.string ⟨#[]⟩))
    refine back_to (K1 := []) m6 (by simp) ?_
    clear m6 Z5 z0 z1 z2 y0 y1 y2
    refine rest_got (i := 8) (v := ?v12) rfl (by kernel_rfl) (by kernel_rfl) (by kernel_rfl) (fun _ _ _ h => h) (by rfl) ?y12 ?r12
    case y12 => (intro w9q hSwq; clear hSwq; go_simp; with_reducible rfl)
    try simp only [Act.put, List.setIfInBounds_toArray, List.set_cons_zero, List.set_cons_succ]
    refine rest_done (by kernel_rfl) ?_ _
    have r0 := cell_of_block (i := 0) R6.out
    have r1 := cell_of_block (i := 1) R6.out
    have r2 := cell_of_block (i := 2) R6.out
    have w0 := free_of_block (i := 0) R6.out
    go_wp2
    ((try simp only [Exit.inBlock, Exit.then]); refine bodyPost_ret (by simp [results, Try.results31, go_sem, *]; try rfl) rfl ?_)
    exact ⟨a5, c5, by simp, HO6.out, M6.out, fun j hj => by have := F5.out j hj; omega⟩
set_option maxRecDepth 100000 in
set_option maxHeartbeats 4000000 in
theorem refdo_hold (a : Option Addr) (c : Nat) (L : List Lr) (k : Nat) (bit : Int) (w : World) (h : OwnR w a c L) (hk : k < L.length) (hl : L.length ≤ 256) (fr to : Int) (bs : List UInt8) (hx : L[k] = (fr, to, bs)) :
    Calls Try.prog 31 #[.slice a L.length c, .int .u8 4, .int .i64 (k : Int), .int .i64 bit] w fun e w' => ∃ a' c', e = .returned (.tuple #[.slice a' (L.eraseIdx k ++ [(fr, to, bs)]).length c', .agg #[.int .i64 0, .int .i64 0, .string ⟨#[]⟩], .int .i64 0]) ∧ OwnR w' a' c' (L.eraseIdx k ++ [(fr, to, bs)]) ∧ Mod [] w w' ∧ ∀ j, j ∈ blk a' → w.heap.size ≤ j := by
  have H := Lib.hid h
  obtain ⟨b, rfl, p0, p1, p2, -⟩ := OwnR.at' h hk
  rw [hx] at p0 p1 p2
  dsimp only at p0 p1 p2
  unfold strV at p2
  try unfold strV
  have hlb := World.block_lt_of_cell? w _ p0
  have hwk := wo_above L k hk L.length (Nat.le_refl _) hk
  rw [List.take_length] at hwk
  have HWK := Lib.hid hwk
  have HW := Lib.hid (show wo L (-1) L.length = L by rw [wo_none L (-1) (by omega) _ (Nat.le_refl _), List.take_length])
  clear h hwk
  go_enter Try.func31, Try.ntmps31
  go_upto_region 14 with (fail)
  have m1 := Mod.alloc [] w (.cells #[.int .i64 0, .int .i64 0, .string ⟨#[]⟩] 58)
  have m2 := Mod.alloc [] (w.alloc (.cells #[.int .i64 0, .int .i64 0, .string ⟨#[]⟩] 58)) (.cells #[.int .i64 fr, .int .i64 to, .string ⟨bs.toArray⟩] 58)
  have hm := m1.trans' m2
  have hz := m2.get (heap_alloc_new w (.cells #[.int .i64 0, .int .i64 0, .string ⟨#[]⟩] 58)) (by simp)
  have hb := heap_alloc_new (w.alloc (.cells #[.int .i64 0, .int .i64 0, .string ⟨#[]⟩] 58)) (.cells #[.int .i64 fr, .int .i64 to, .string ⟨bs.toArray⟩] 58)
  have z1 : (w.alloc (.cells #[.int .i64 0, .int .i64 0, .string ⟨#[]⟩] 58)).heap.size = w.heap.size + 1 := by simp
  rw [z1] at hb
  refine rest_start [w.heap.size] 10 #[false, false, false, false, false, false, false, false, false, false] rfl (by kernel_rfl) (by kernel_rfl) ?_
  intro w1 mm
  have hb1 := mm.get hb (by simp)
  have Z1 := Lib.hid (mm.get hz (by simp))
  have X0 := Lib.hid (cell_of_block (i := 0) hb1)
  have X1 := Lib.hid (cell_of_block (i := 1) hb1)
  have X2 := Lib.hid (cell_of_block (i := 2) hb1)
  have hm2 := hm.trans' mm
  have M1 := Lib.hid hm2
  have H1 := Lib.hid (Own.mod0 H.out hm2)
  have S1 : Hid (w.heap.size + 1 < w1.heap.size) := lt_of_block hb1
  clear m1 m2 hm hz hb z1 mm hb1 hm2 p0 p1 p2
  refine rest_got (i := 0) (v := ?v13) rfl (by kernel_rfl) (by kernel_rfl) (by kernel_rfl) (fun _ _ _ h => h) (by rfl) ?y13 ?r13
  case y13 => (intro w9q hSwq; clear hSwq; go_simp; with_reducible rfl)
  try simp only [Act.put, List.setIfInBounds_toArray, List.set_cons_zero, List.set_cons_succ]
  refine rest_got (i := 1) (v := ?v14) rfl (by kernel_rfl) (by kernel_rfl) (by kernel_rfl) (fun _ _ _ h => h) (by rfl) ?y14 ?r14
  case y14 => (intro w9q hSwq; clear hSwq; go_simp; with_reducible rfl)
  try simp only [Act.put, List.setIfInBounds_toArray, List.set_cons_zero, List.set_cons_succ]
  refine rest_got (i := 3) (v := ?v15) rfl (by kernel_rfl) (by kernel_rfl) (by kernel_rfl) (fun _ _ _ h => h) (by rfl) ?y15 ?r15
  case y15 => ((intro w9' hm9'; have hc9' := Mod.cell hm9' X0.out (by first | exact List.not_mem_nil | (simp; done) | (simp; omega)); have hd9' := Mod.cell hm9' X1.out (by first | exact List.not_mem_nil | (simp; done) | (simp; omega)); have he9' := Mod.cell hm9' X2.out (by first | exact List.not_mem_nil | (simp; done) | (simp; omega)); clear hm9'; go_simp; with_reducible rfl))
  try simp only [Act.put, List.setIfInBounds_toArray, List.set_cons_zero, List.set_cons_succ]
  refine rest_got (i := 6) (v := ?v16) rfl (by kernel_rfl) (by kernel_rfl) (by kernel_rfl) (fun _ _ _ h => h) (by rfl) ?y16 ?r16
  case y16 => (intro w9q hSwq; clear hSwq; go_simp; with_reducible rfl)
  try simp only [Act.put, List.setIfInBounds_toArray, List.set_cons_zero, List.set_cons_succ]
  clear X0 X1 X2
  refine rest_two (i := 2) (j := 4) (by kernel_rfl) rfl (by rfl) rfl (by rfl) ?_ ?_
  · go_wp2_with fail
    refine (without_any _ c L k _ H1.out (by omega)).mono ?_
    rw [HWK.out]
    rintro e w3 ⟨a3, c3, rfl, o3, m3, f3⟩
    have HO3 := Lib.hid o3
    have M3 := Lib.hid (M1.out.trans' m3)
    have F4 : Hid (∀ j, j ∈ blk a3 → w.heap.size < j) := fun j hj => by have := f3 j hj; have := S1.out; omega
    have Z3 := Lib.hid (m3.get Z1.out (by simp))
    have M31 := Lib.hid m3.size
    go_wp2_with fail
    refine back_to (K1 := w.heap.size :: blk a3) m3.nil (fun k hk hl => by rcases List.mem_cons.1 hk with h | h; exact List.mem_cons.2 (.inl h); exact absurd (f3 k h) (by omega)) ?_
    clear o3 m3 f3
    
    refine rest_one (i := 4) (by kernel_rfl) rfl (by rfl) ?_
    have mc := Mod.alloc [] w3 (.cells #[.int .i64 fr, .int .i64 to, strV bs] 58)
    have HSH := Lib.hid (showsR (x := (fr, to, bs)) (heap_alloc_new w3 (.cells #[.int .i64 fr, .int .i64 to, strV bs] 58)))
    have HO4 := Lib.hid (Own.mod0 HO3.out mc)
    have M4 := Lib.hid (M3.out.trans' mc)
    have Z4 := Lib.hid (mc.get Z3.out (by simp))
    have M41 : Hid (w1.heap.size ≤ (w3.alloc (.cells #[.int .i64 fr, .int .i64 to, strV bs] 58)).heap.size) := Nat.le_trans M31.out mc.size
    unfold strV at mc HSH HO4 M4 Z4 M41
    go_wp2_with fail
    refine back_to (K1 := w.heap.size :: blk a3) mc.nil (fun _ h _ => h) ?_
    clear mc
    
    refine rest_one (i := 5) (by kernel_rfl) rfl (by rfl) ?_
    go_wp2_with (first | (at_builtin; refine wpl_appR (dst := some 61) _ _ a3 (L.eraseIdx k).length c3 ((L.eraseIdx k)) rfl rfl HO4.out _ (fr, to, bs) rfl HSH.out (by have := List.length_eraseIdx_le L k; omega) ?_) | fail)
    intro a5 c5 w5 o5 m5 s5
    have HO5 := Lib.hid o5
    have M5 := Lib.hid (M4.out.only3 m5 (fun i hi => by have := F4.out i hi; omega))
    have F5 : Hid (∀ j, j ∈ blk a5 → w.heap.size < j) := fun j hj => by
      rcases s5.blk j hj with h | h
      · exact F4.out j h
      · have := M1.out.size; have := S1.out; have := M41.out; omega
    have Z5h := Lib.hid (m5.get Z4.out (fun hj => by have := F4.out _ hj; omega))
    go_wp2_with fail
    refine back_to (K1 := [w.heap.size]) (m5.weaken (fun j hj => List.mem_cons_of_mem _ hj)) (fun k hk _ => by simp at hk; subst hk; simp) ?_
    clear o5 m5 s5
    refine rest_got (i := 7) (v := ?v17) rfl (by kernel_rfl) (by kernel_rfl) (by kernel_rfl) (fun _ _ _ h => h) (by rfl) ?y17 ?r17
    case y17 => (intro w9q hSwq; clear hSwq; go_simp; with_reducible rfl)
    try simp only [Act.put, List.setIfInBounds_toArray, List.set_cons_zero, List.set_cons_succ]
    have Z5 := Z5h.out
    have z0 := cell_of_block (i := 0) Z5
    have z1 := cell_of_block (i := 1) Z5
    have z2 := cell_of_block (i := 2) Z5
    have y0 := free_of_block (i := 0) Z5
    have y1 := free_of_block (i := 1) Z5
    have y2 := free_of_block (i := 2) Z5
    refine rest_one (i := 8) (by kernel_rfl) rfl (by rfl) ?_
    go_wp2_with fail
    have m6 := three_mod w5 w.heap.size (.int .i64 0) (.int .i64 0) (.string ⟨#[]⟩)
    have HO6 := Lib.hid (Own.mod (S := [w.heap.size]) HO5.out m6 (fun j hj => by have := F5.out j hj; simp; omega))
    have M6 := Lib.hid (M5.out.only3 m6 (fun j hj => by simp at hj; omega))
    have R6 := Lib.hid (three_set Z5 (.int .i64 0) (.int .i64 0) (.string ⟨#[]⟩))
    refine back_to (K1 := []) m6 (by simp) ?_
    clear m6 Z5 z0 z1 z2 y0 y1 y2
    refine rest_got (i := 9) (v := ?v18) rfl (by kernel_rfl) (by kernel_rfl) (by kernel_rfl) (fun _ _ _ h => h) (by rfl) ?y18 ?r18
    case y18 => (intro w9q hSwq; clear hSwq; go_simp; with_reducible rfl)
    try simp only [Act.put, List.setIfInBounds_toArray, List.set_cons_zero, List.set_cons_succ]
    refine rest_done (by kernel_rfl) ?_ _
    have r0 := cell_of_block (i := 0) R6.out
    have r1 := cell_of_block (i := 1) R6.out
    have r2 := cell_of_block (i := 2) R6.out
    have w0 := free_of_block (i := 0) R6.out
    go_wp2
    ((try simp only [Exit.inBlock, Exit.then]); refine bodyPost_ret (by simp [results, Try.results31, go_sem, *]; try rfl) rfl ?_)
    exact ⟨a5, c5, by simp, HO6.out, M6.out, fun j hj => by have := F5.out j hj; omega⟩
  · have mc := Mod.alloc [] w1 (.cells #[.int .i64 fr, .int .i64 to, strV bs] 58)
    have H2 := Lib.hid (Own.mod0 H1.out mc)
    have M2 := Lib.hid (M1.out.trans' mc)
    have HX := Lib.hid (heap_alloc_new w1 (.cells #[.int .i64 fr, .int .i64 to, strV bs] 58))
    have Z2 := Lib.hid (mc.get Z1.out (by simp))
    have M21 := Lib.hid mc.size
    unfold strV at mc H2 M2 HX Z2 M21
    go_wp2_with fail
    refine back_to (K1 := [w.heap.size]) mc.nil (fun _ h _ => h) ?_
    clear mc
    
    refine rest_one (i := 2) (by kernel_rfl) rfl (by rfl) ?_
    go_wp2_with fail
    refine (without_any _ c L k _ H2.out (by omega)).mono ?_
    rw [HWK.out]
    rintro e w3 ⟨a3, c3, rfl, o3, m3, f3⟩
    have HO4 := Lib.hid o3
    have M4 := Lib.hid (M2.out.trans' m3)
    have F4 : Hid (∀ j, j ∈ blk a3 → w.heap.size < j) := fun j hj => by have := f3 j hj; have := S1.out; have := M21.out; omega
    have Z4 := Lib.hid (m3.get Z2.out (by simp))
    have HSH := Lib.hid (showsR (x := (fr, to, bs)) (m3.get HX.out (by simp)))
    have M41 : Hid (w1.heap.size ≤ w3.heap.size) := Nat.le_trans M21.out m3.size
    go_wp2_with fail
    refine back_to (K1 := w.heap.size :: blk a3) m3.nil (fun k hk hl => by rcases List.mem_cons.1 hk with h | h; exact List.mem_cons.2 (.inl h); exact absurd (f3 k h) (by have := M21.out; omega)) ?_
    clear o3 m3 f3
    
    refine rest_one (i := 5) (by kernel_rfl) rfl (by rfl) ?_
    go_wp2_with (first | (at_builtin; refine wpl_appR (dst := some 61) _ _ a3 (L.eraseIdx k).length c3 ((L.eraseIdx k)) rfl rfl HO4.out _ (fr, to, bs) rfl HSH.out (by have := List.length_eraseIdx_le L k; omega) ?_) | fail)
    intro a5 c5 w5 o5 m5 s5
    have HO5 := Lib.hid o5
    have M5 := Lib.hid (M4.out.only3 m5 (fun i hi => by have := F4.out i hi; omega))
    have F5 : Hid (∀ j, j ∈ blk a5 → w.heap.size < j) := fun j hj => by
      rcases s5.blk j hj with h | h
      · exact F4.out j h
      · have := M1.out.size; have := S1.out; have := M41.out; omega
    have Z5h := Lib.hid (m5.get Z4.out (fun hj => by have := F4.out _ hj; omega))
    go_wp2_with fail
    refine back_to (K1 := [w.heap.size]) (m5.weaken (fun j hj => List.mem_cons_of_mem _ hj)) (fun k hk _ => by simp at hk; subst hk; simp) ?_
    clear o5 m5 s5
    refine rest_got (i := 7) (v := ?v19) rfl (by kernel_rfl) (by kernel_rfl) (by kernel_rfl) (fun _ _ _ h => h) (by rfl) ?y19 ?r19
    case y19 => (intro w9q hSwq; clear hSwq; go_simp; with_reducible rfl)
    try simp only [Act.put, List.setIfInBounds_toArray, List.set_cons_zero, List.set_cons_succ]
    have Z5 := Z5h.out
    have z0 := cell_of_block (i := 0) Z5
    have z1 := cell_of_block (i := 1) Z5
    have z2 := cell_of_block (i := 2) Z5
    have y0 := free_of_block (i := 0) Z5
    have y1 := free_of_block (i := 1) Z5
    have y2 := free_of_block (i := 2) Z5
    refine rest_one (i := 8) (by kernel_rfl) rfl (by rfl) ?_
    go_wp2_with fail
    have m6 := three_mod w5 w.heap.size (.int .i64 0) (.int .i64 0) (.string ⟨#[]⟩)
    have HO6 := Lib.hid (Own.mod (S := [w.heap.size]) HO5.out m6 (fun j hj => by have := F5.out j hj; simp; omega))
    have M6 := Lib.hid (M5.out.only3 m6 (fun j hj => by simp at hj; omega))
    have R6 := Lib.hid (three_set Z5 (.int .i64 0) (.int .i64 0) (.string ⟨#[]⟩))
    refine back_to (K1 := []) m6 (by simp) ?_
    clear m6 Z5 z0 z1 z2 y0 y1 y2
    refine rest_got (i := 9) (v := ?v20) rfl (by kernel_rfl) (by kernel_rfl) (by kernel_rfl) (fun _ _ _ h => h) (by rfl) ?y20 ?r20
    case y20 => (intro w9q hSwq; clear hSwq; go_simp; with_reducible rfl)
    try simp only [Act.put, List.setIfInBounds_toArray, List.set_cons_zero, List.set_cons_succ]
    refine rest_done (by kernel_rfl) ?_ _
    have r0 := cell_of_block (i := 0) R6.out
    have r1 := cell_of_block (i := 1) R6.out
    have r2 := cell_of_block (i := 2) R6.out
    have w0 := free_of_block (i := 0) R6.out
    go_wp2
    ((try simp only [Exit.inBlock, Exit.then]); refine bodyPost_ret (by simp [results, Try.results31, go_sem, *]; try rfl) rfl ?_)
    exact ⟨a5, c5, by simp, HO6.out, M6.out, fun j hj => by have := F5.out j hj; omega⟩
set_option maxRecDepth 100000 in
set_option maxHeartbeats 4000000 in
theorem refdo_full (a : Option Addr) (c : Nat) (L : List Lr) (k : Nat) (bit : Int) (w : World) (h : OwnR w a c L) (hk : k < L.length) (hl : L.length = 256) (fr to : Int) (bs : List UInt8) (hx : L[k] = (fr, to, bs)) :
    Calls Try.prog 31 #[.slice a L.length c, .int .u8 3, .int .i64 (k : Int), .int .i64 bit] w fun e w' => e = .returned (.tuple #[.slice a L.length c, .agg #[.int .i64 0, .int .i64 0, .string ⟨#[]⟩], .int .i64 30]) ∧ Mod [] w w' := by
  have H := Lib.hid h
  obtain ⟨b, rfl, p0, p1, p2, -⟩ := OwnR.at' h hk
  rw [hx] at p0 p1 p2
  dsimp only at p0 p1 p2
  unfold strV at p2
  try unfold strV
  have hlb := World.block_lt_of_cell? w _ p0
  have hwk := wo_above L k hk L.length (Nat.le_refl _) hk
  rw [List.take_length] at hwk
  have HWK := Lib.hid hwk
  have HW := Lib.hid (show wo L (-1) L.length = L by rw [wo_none L (-1) (by omega) _ (Nat.le_refl _), List.take_length])
  clear h hwk
  go_enter Try.func31, Try.ntmps31
  go_wp2
  ((try simp only [Exit.inBlock, Exit.then]); refine bodyPost_ret (by simp [results, Try.results31, go_sem, *]; try rfl) rfl ?_)
  exact ⟨by simp, .ofBelow (by go_grown)⟩
end Go.Proofs.Ytihhbphlhckakaa
