/- The pool laws' wakes: true. -/
import Derived.Test.YtfpmdacpmcdleaaPool7
namespace Go.Proofs.Ytfpmdacpmcdleaa
open Go Go.RowKit Go.Lib

def PStep (w w' : World) (g : Nat) (F : List Nat) (L : List Bm) (fr : List Nat) : Prop := PMoved w w' g F 4 L fr
theorem wk_get1 (g : Nat) (F : List Nat) (w : World) (h : PoolW w g F 4 [([], 0, false), ([], 0, false)] [1, 0]) :
    Calls Try.prog 6 #[.pointer (some ⟨g, 0, none⟩)] w fun e w' => e = .returned (.tuple #[.agg #[.int .i64 0, .int .u32 1], .int .i64 0]) ∧ PStep w w' g F [([], 1, true), ([], 0, false)] [1] :=
  get_w g F 4 [([], 0, false), ([], 0, false)] [1] 0 (by simp) w h
theorem wk_get2 (g : Nat) (F : List Nat) (w : World) (h : PoolW w g F 4 [([], 1, true), ([], 0, false)] [1]) :
    Calls Try.prog 6 #[.pointer (some ⟨g, 0, none⟩)] w fun e w' => e = .returned (.tuple #[.agg #[.int .i64 1, .int .u32 1], .int .i64 0]) ∧ PStep w w' g F [([], 1, true), ([], 1, true)] [] :=
  get_w g F 4 [([], 1, true), ([], 0, false)] [] 1 (by simp) w h
theorem wk_back1 (g : Nat) (F : List Nat) (w : World) (h : PoolW w g F 4 [([], 1, true), ([], 1, true)] []) :
    Calls Try.prog 8 #[.pointer (some ⟨g, 0, none⟩), .agg #[.int .i64 0, .int .u32 1]] w fun e w' => e = .returned (.int .i64 0) ∧ PStep w w' g F [([], 1, false), ([], 1, true)] [0] :=
  back_w g F 4 [([], 1, true), ([], 1, true)] [] 0 1 (by simp) w h rfl rfl (by simp)
theorem wk_back2 (g : Nat) (F : List Nat) (w : World) (h : PoolW w g F 4 [([], 1, false), ([], 1, true)] [0]) :
    Calls Try.prog 8 #[.pointer (some ⟨g, 0, none⟩), .agg #[.int .i64 0, .int .u32 1]] w fun e w' => e = .returned (.int .i64 15) ∧ Mod [] w w' :=
  back_stalew g F 4 [([], 1, false), ([], 1, true)] [0] 0 1 w h (by
    rintro ⟨k, hk, hk2, h1, h2⟩
    obtain rfl : k = 0 := by omega
    cases h1)
theorem wk_get3 (g : Nat) (F : List Nat) (w : World) (h : PoolW w g F 4 [([], 1, false), ([], 1, true)] [0]) :
    Calls Try.prog 6 #[.pointer (some ⟨g, 0, none⟩)] w fun e w' => e = .returned (.tuple #[.agg #[.int .i64 0, .int .u32 2], .int .i64 0]) ∧ PStep w w' g F [([], 2, true), ([], 1, true)] [] :=
  get_w g F 4 [([], 1, false), ([], 1, true)] [] 0 (by simp) w h

theorem only_new {w a b : World} {F : List Nat} (h : Mod [] w a) (k : Mod F a b) (hF : ∀ j, j ∈ F → w.heap.size ≤ j) : Mod [] w b :=
  h.trans k (fun i hi hl => by have := hF i hi; omega)
theorem new_of {w a : World} {F F' : List Nat} (h : Mod [] w a) (hF : ∀ j, j ∈ F → w.heap.size ≤ j) (k : ∀ j, j ∈ F' → j ∈ F ∨ a.heap.size ≤ j) : ∀ j, j ∈ F' → w.heap.size ≤ j := fun j hj => by
  rcases k j hj with h1 | h1
  · exact hF j h1
  · exact Nat.le_trans h.size h1

set_option maxRecDepth 100000 in
set_option maxHeartbeats 4000000 in
theorem wakes_any (w : World) : Calls Try.prog 11 #[] w fun e w' => e = .returned (.bool true) ∧ Mod [] w w' := by
  go_enter Try.func11, Try.ntmps11
  go_wp2_with fail
  refine (new_ok 2 4 w (by omega) (by omega) (by omega) (by omega)).mono ?_
  rintro e w1 ⟨g, F, rfl, h1, m1, n1⟩
  have H1 : Hid (PoolW w1 g F 4 [([], 0, false), ([], 0, false)] [1, 0]) := h1
  have M1 := Lib.hid m1
  have N1 := Lib.hid n1
  clear h1 m1 n1
  go_wp2_with fail
  refine (wk_get1 g F _ H1.out).mono ?_
  rintro e w2 ⟨rfl, F2, h2, m2, n2⟩
  have ma2 := Mod.alloc [] w2 (.cells #[.int .i64 0, .int .u32 1] 29)
  have H2 := Lib.hid (h2.mod0 ma2)
  have Z2 := Lib.hid h2.lt
  have M2 := Lib.hid ((only_new M1.out m2 N1.out).trans' ma2)
  have N2 := Lib.hid (new_of M1.out N1.out n2)
  clear h2 m2 n2 H1 M1 N1
  have X2 := Lib.hid (heap_alloc_new w2 (.cells #[.int .i64 0, .int .u32 1] 29))
  have D2_A2 : Hid (w2.heap.size ∉ F2) := fun hm => by have := Z2.out _ hm; omega
  have L2_A2 := Lib.hid (lt_of_block X2.out)
  clear ma2
  go_wp2_with fail
  generalize hA2 : w2.heap.size = A2 at *
  generalize w2.alloc (.cells #[.int .i64 0, .int .u32 1] 29) = v2 at *
  refine (wk_get2 g F2 _ H2.out).mono ?_
  rintro e w3 ⟨rfl, F3, h3, m3, n3⟩
  have ma3 := Mod.alloc [] w3 (.cells #[.int .i64 1, .int .u32 1] 29)
  have H3 := Lib.hid (h3.mod0 ma3)
  have Z3 := Lib.hid h3.lt
  have X2 := Lib.hid (ma3.get (m3.get X2.out (D2_A2.out)) (by simp))
  have D3_A2 : Hid (A2 ∉ F3) := fun hm => by
    rcases n3 A2 hm with h | h
    · exact D2_A2.out h
    · have := L2_A2.out; omega
  have L3_A2 := Lib.hid (lt_of_block X2.out)
  have M3 := Lib.hid ((only_new M2.out m3 N2.out).trans' ma3)
  have N3 := Lib.hid (new_of M2.out N2.out n3)
  clear h3 m3 n3 H2 M2 N2
  have X3 := Lib.hid (heap_alloc_new w3 (.cells #[.int .i64 1, .int .u32 1] 29))
  have D3_A3 : Hid (w3.heap.size ∉ F3) := fun hm => by have := Z3.out _ hm; omega
  have L3_A3 := Lib.hid (lt_of_block X3.out)
  clear ma3
  go_wp2_with fail
  generalize hA3 : w3.heap.size = A3 at *
  generalize w3.alloc (.cells #[.int .i64 1, .int .u32 1] 29) = v3 at *
  refine (get_fullw g F3 4 _ _ H3.out).mono ?_
  rintro e w4 ⟨rfl, m4⟩
  have ma4 := Mod.alloc [] w4 (.cells #[.int .i64 0, .int .u32 0] 29)
  have H4 := Lib.hid ((H3.out.mod0 m4).mod0 ma4)
  have N4 := N3
  have M4 := Lib.hid ((M3.out.trans' m4).trans' ma4)
  have X2 := Lib.hid (ma4.get (m4.get X2.out (by simp)) (by simp))
  have X3 := Lib.hid (ma4.get (m4.get X3.out (by simp)) (by simp))
  clear m4 ma4 H3 M3 N3
  have c20 := cell_of_block (i := 0) X2.out
  have c21 := cell_of_block (i := 1) X2.out
  go_wp2_with fail
  clear c20 c21
  generalize w4.alloc (.cells #[.int .i64 0, .int .u32 0] 29) = v4 at *
  refine (wk_back1 g F3 _ H4.out).mono ?_
  rintro e w5 ⟨rfl, F5, h5, m5, n5⟩
  have H5 := Lib.hid h5
  have L4 : Hid (A2 < v4.heap.size ∧ A3 < v4.heap.size) := ⟨lt_of_block X2.out, lt_of_block X3.out⟩
  have X2 := Lib.hid (m5.get X2.out D3_A2.out)
  have X3 := Lib.hid (m5.get X3.out D3_A3.out)
  have D5_A2 : Hid (A2 ∉ F5) := fun hm => by
    rcases n5 A2 hm with h | h
    · exact D3_A2.out h
    · have := L4.out.1; omega
  have D5_A3 : Hid (A3 ∉ F5) := fun hm => by
    rcases n5 A3 hm with h | h
    · exact D3_A3.out h
    · have := L4.out.2; omega
  have M5 := Lib.hid (only_new M4.out m5 N4.out)
  have N5 := Lib.hid (new_of M4.out N4.out n5)
  clear h5 m5 n5 H4 M4 N4
  have c20 := cell_of_block (i := 0) X2.out
  have c21 := cell_of_block (i := 1) X2.out
  go_wp2_with fail
  clear c20 c21
  refine (wk_back2 g F5 _ H5.out).mono ?_
  rintro e w6 ⟨rfl, m6⟩
  have H6 := Lib.hid (H5.out.mod0 m6)
  have X2 := Lib.hid (m6.get X2.out (by simp))
  have X3 := Lib.hid (m6.get X3.out (by simp))
  have M6 := Lib.hid (M5.out.trans' m6)
  clear m6 H5 M5
  go_wp2_with fail
  refine (wk_get3 g F5 _ H6.out).mono ?_
  rintro e w7 ⟨rfl, F7, h7, m7, n7⟩
  have ma7 := Mod.alloc [] w7 (.cells #[.int .i64 0, .int .u32 2] 29)
  have H7 := Lib.hid (h7.mod0 ma7)
  have X2 := Lib.hid (ma7.get (m7.get X2.out D5_A2.out) (by simp))
  have X3 := Lib.hid (ma7.get (m7.get X3.out D5_A3.out) (by simp))
  have X7 := Lib.hid (heap_alloc_new w7 (.cells #[.int .i64 0, .int .u32 2] 29))
  have M7 := Lib.hid ((only_new M6.out m7 N5.out).trans' ma7)
  clear h7 m7 n7 ma7 H6 M6
  have c20 := cell_of_block (i := 0) X2.out
  have c21 := cell_of_block (i := 1) X2.out
  have c30 := cell_of_block (i := 0) X3.out
  have c31 := cell_of_block (i := 1) X3.out
  have c70 := cell_of_block (i := 0) X7.out
  have c71 := cell_of_block (i := 1) X7.out
  go_wp2_with fail
  refine (free_w g F7 4 _ [] _ H7.out).mono ?_
  rintro e w8 ⟨rfl, rfl⟩
  go_wp2
  go_ret
  exact ⟨rfl, M7.out⟩
end Go.Proofs.Ytfpmdacpmcdleaa
