/- The walk of the net laws' wakes; the law of nil. -/
import Derived.Test.YtihhbphlhckakaaNet10
import Derived.Lib.SlBytesConst
namespace Go.Proofs.Ytihhbphlhckakaa
open Go Go.RowKit Go.Lib

theorem Moved.step {w0 w w' : World} {g : Nat} {F : List Nat} {L : List (Int × Int × List UInt8)} (hm : Mod [] w0 w) (hf : ∀ j, j ∈ F → w0.heap.size ≤ j) (h : Moved w w' g F L) :
    ∃ F', NetW w' g F' L ∧ Mod [] w0 w' ∧ ∀ j, j ∈ F' → w0.heap.size ≤ j := by
  obtain ⟨F', h1, h2, h3⟩ := h
  exact ⟨F', h1, hm.trans h2 (fun i hi hl => by have := hf i hi; omega), fun j hj => (h3 j hj).elim (hf j) (fun h => Nat.le_trans hm.size h)⟩
theorem Lets.at' {w : World} {a : Option Addr} {c : Nat} {l : List Lt} (h : Lets w a c l) {j : Nat} (hj : j < l.length) :
    ∃ b, a = some ⟨b, 0, none⟩ ∧ w.cell? ⟨b, j * 3, none⟩ = some (.int .i64 l[j].1) ∧ w.cell? ⟨b, j * 3 + 1, none⟩ = some (.int .i64 l[j].2.1) ∧ w.cell? ⟨b, j * 3 + 2, none⟩ = some (.slice l[j].2.2.1 l[j].2.2.2.2.length l[j].2.2.2.1) ∧ OwnB w l[j].2.2.1 l[j].2.2.2.1 l[j].2.2.2.2 := by
  obtain ⟨b, h1, h2, h3, h4⟩ := OwnL.at' h.1 hj
  exact ⟨b, h1, h2, h3, h4, h.2.1 _ (List.getElem_mem _)⟩
theorem sees1 {w : World} {g : Nat} {x : UInt8} {t : TypeId} {z : Nat × Nat} (h : w.heap[g]? = some (.cells #[.int .u8 ((x.toNat : Nat) : Int)] t z)) : Sees w (some ⟨g, 0, none⟩) [x] := by
  intro j hj
  have : j = 0 := by simp at hj; omega
  subst this
  exact ⟨g, 0, rfl, by rw [cell_of_block h]; rfl⟩

theorem conv_const (w : World) (x : Value) : (convert 22 22 (.slice (some ⟨w.heap.size, 0, none⟩) 1 1)).run Try.prog (w.alloc (.cells #[x] 5)) = .ok (.slice (some ⟨w.heap.size, 0, none⟩) 1 1) (w.alloc (.cells #[x] 5 (1, 2))) :=
  Go.Lib.run_convert_bytes_const w _ _ #[x] 1 1 Try.underlying22 Try.underlying5
set_option maxRecDepth 100000 in
set_option maxHeartbeats 4000000 in
theorem wakes18_any (w : World) : Calls Try.prog 8 #[] w fun e w' => e = .returned (.bool true) ∧ Mod [] w w' := by
  have hcv := conv_const
  go_enter Try.func8, Try.ntmps8
  go_wp2_with fail
  refine (new_any _).mono ?_
  rintro e w1 ⟨g, rfl, h1, m1, z1⟩
  have H1 := Lib.hid h1
  have M1 := Lib.hid m1
  have F1 : Hid (∀ j, j ∈ [g] → w.heap.size ≤ j) := fun j hj => by simp at hj; subst hj; exact z1
  clear h1 m1 z1
  go_wp2_with fail
  have ma := Mod.alloc [] w1 (.cells #[.int .u8 97] 5 (1, 2))
  refine (send_ok g _ _ 0 1 _ 1 1 [97] _ (H1.out.mod0 ma) (by decide) rfl (sees1 (x := 97) (heap_alloc_new w1 (.cells #[.int .u8 97] 5 (1, 2)))) (by omega) rfl rfl (by decide)).mono ?_
  rintro e w2 ⟨rfl, mv⟩
  obtain ⟨Fa, h2, m2, f2⟩ := (mv.later ma).step M1.out F1.out
  have H2 := Lib.hid h2
  have M2 := Lib.hid m2
  have F2 := Lib.hid f2
  clear mv ma h2 m2 f2 H1 M1 F1
  go_wp2_with fail
  have ma := Mod.alloc [] w2 (.cells #[.int .u8 98] 5 (1, 2))
  refine (send_ok g _ _ 1 2 _ 1 1 [98] _ (H2.out.mod0 ma) (by decide) rfl (sees1 (x := 98) (heap_alloc_new w2 (.cells #[.int .u8 98] 5 (1, 2)))) (by omega) rfl rfl (by decide)).mono ?_
  rintro e w3 ⟨rfl, mv⟩
  obtain ⟨Fb, h3, m3, f3⟩ := (mv.later ma).step M2.out F2.out
  have H3 := Lib.hid h3
  have M3 := Lib.hid m3
  have F3 := Lib.hid f3
  clear mv ma h3 m3 f3 H2 M2 F2
  go_wp2_with fail
  refine (send_bad _ 1 1 _ _ _ _ (.inr (.inr rfl)) rfl).mono ?_
  rintro e w4 ⟨rfl, m4⟩
  have H4 := Lib.hid (H3.out.mod0 m4)
  have M4 := Lib.hid (M3.out.trans' m4)
  clear m4 H3 M3
  go_wp2_with fail
  refine (double_w g _ _ 0 _ H4.out (by decide) (by decide) (by decide)).mono ?_
  rintro e w5 ⟨rfl, mv⟩
  obtain ⟨Fc, h5, m5, f5⟩ := mv.step M4.out F3.out
  have H5 := Lib.hid h5
  have M5 := Lib.hid m5
  have F5 := Lib.hid f5
  clear mv h5 m5 f5 H4 M4 F3
  go_wp2_with fail
  refine (hold_w g _ _ 0 _ H5.out (by decide) (by decide)).mono ?_
  rintro e w6 ⟨rfl, mv⟩
  obtain ⟨Fd, h6, m6, f6⟩ := mv.step M5.out F5.out
  have H6 : Hid (NetW w6 g Fd [(1, 2, [98]), (0, 1, [97]), (0, 1, [97])]) := h6
  have M6 := Lib.hid m6
  have F6 := Lib.hid f6
  clear mv h6 m6 f6 H5 M5 F5
  go_wp2_with fail
  refine (take_w g _ _ 0 _ H6.out (by decide) (by decide)).mono ?_
  rintro e w7 ⟨a7, c7, rfl, o7, Fe, h7, m7, f7, d7⟩
  have H7 : Hid (NetW w7 g Fe [(0, 1, [97]), (0, 1, [97])]) := h7
  have M7 : Hid (Mod [] w w7) := M6.out.trans m7 (fun i hi hl => by have := F6.out i hi; omega)
  have F7 : Hid (∀ j, j ∈ Fe → w.heap.size ≤ j) := fun j hj => (f7 j hj).elim (F6.out j) (fun h => Nat.le_trans M6.out.size h)
  have O7 : Hid (OwnB w7 a7 c7 [98]) := o7
  have D7 := Lib.hid d7
  have L7 := Lib.hid (Own.lt o7)
  clear h7 m7 f7 o7 d7 H6 M6 F6
  go_wp2_with fail
  have ma := Mod.alloc [] w7 (.cells #[.int .i64 1, .int .i64 2, .slice a7 1 c7] 29)
  refine (spoil_w g _ _ 0 0 0 0 _ (H7.out.mod0 ma) (by decide) rfl rfl (by decide) (by decide)).mono ?_
  rintro e w8 ⟨rfl, mv⟩
  have hx7 := heap_alloc_new w7 (.cells #[.int .i64 1, .int .i64 2, .slice a7 1 c7] 29)
  obtain ⟨Fx, hx, mx, fx⟩ := mv
  have hn7 : w7.heap.size ∉ Fe := fun hm => by have := H7.out.lt _ hm; omega
  have X8 := mx.get hx7 hn7
  have O8 := (O7.out.mod0 ma).mod mx (fun j hj => (D7.out j hj).2)
  obtain ⟨Ff, h8, m8, f8⟩ := (Moved.later ma ⟨Fx, hx, mx, fx⟩).step M7.out F7.out
  have H8 : Hid (NetW w8 g Ff [(0, 1, [96]), (0, 1, [97])]) := h8
  have M8 := Lib.hid m8
  have F8 := Lib.hid f8
  clear ma hx7 hx mx fx h8 m8 f8 H7 M7 F7 O7 D7 L7 hn7
  have x0 := Lib.hid (cell_of_block (i := 0) X8)
  have x2 := Lib.hid (cell_of_block (i := 2) X8)
  have O8h := Lib.hid O8
  clear X8 O8
  go_wp2_with fail
  refine (letters_w g _ _ _ H8.out (by decide) (by decide)).mono ?_
  rintro e w9 ⟨a9, c9, l9, rfl, hl9, lt9, fr9, m9⟩
  have hlen9 : l9.length = 2 := by have := congrArg List.length hl9; simpa using this
  obtain ⟨u0, u1, rfl⟩ : ∃ u0 u1, l9 = [u0, u1] := by
    match l9, hlen9 with
    | [u0, u1], _ => exact ⟨u0, u1, rfl⟩
  obtain ⟨b9, rfl, -, -, p0, q0⟩ := lt9.at' (j := 0) (by simp)
  obtain ⟨b9', hb, -, -, p1, q1⟩ := lt9.at' (j := 1) (by simp)
  cases hb
  simp only [List.map_cons, List.map_nil, List.cons.injEq, and_true] at hl9
  obtain ⟨e0, e1⟩ := hl9
  obtain ⟨f0, t0, s0, k0, y0⟩ := u0
  obtain ⟨f1, t1, s1, k1, y1⟩ := u1
  simp only [stripL, Prod.mk.injEq] at e0 e1
  obtain ⟨rfl, rfl, rfl⟩ := e0
  obtain ⟨rfl, rfl, rfl⟩ := e1
  have M9 := Lib.hid (M8.out.trans' m9)
  have H9 := Lib.hid (H8.out.mod0 m9)
  have O9 := Lib.hid (O8h.out.mod0 m9)
  have P0 : w9.cell? ⟨b9, 0 * 3 + 2, none⟩ = some (.slice s0 1 k0) := p0
  have P1 : w9.cell? ⟨b9, 1 * 3 + 2, none⟩ = some (.slice s1 1 k1) := p1
  have Q0 : Hid (OwnB w9 s0 k0 [96]) := q0
  have Q1 : Hid (OwnB w9 s1 k1 [97]) := q1
  have X0 := m9.cell x0.out (by simp)
  have X2 := m9.cell x2.out (by simp)
  simp only [Nat.zero_mul, Nat.zero_add, Nat.one_mul, Nat.reduceAdd] at P0 P1
  clear lt9 fr9 m9 p0 p1 q0 q1 x0 x2 O8h H8 M8 F8 hlen9
  go_wp2_with (first | (refine wpl_str (dst := some 68) _ a7 _ c7 [98] rfl rfl O9.out.sees (by rfl) ?_) | fail)
  refine (len_w g _ _ _ H9.out).mono ?_
  rintro e w10 ⟨rfl, rfl⟩
  go_wp2_with (first | (refine wpl_str (dst := some 90) _ s0 _ k0 [96] rfl rfl Q0.out.sees (by rfl) ?_) | (refine wpl_str (dst := some 98) _ s1 _ k1 [97] rfl rfl Q1.out.sees (by rfl) ?_) | fail)
  go_ret
  exact ⟨rfl, M9.out⟩
end Go.Proofs.Ytihhbphlhckakaa
