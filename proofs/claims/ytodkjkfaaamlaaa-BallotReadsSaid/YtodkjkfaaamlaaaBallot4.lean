/- The walks of the ballot package: the greatest one. -/
import Derived.Test.YtodkjkfaaamlaaaBallot2
namespace Go.Proofs.Ytodkjkfaaamlaaa
open Go Go.RowKit Go.Lib

/-- The slice at 'ao' shows these ballots. -/
def SeesB (w : World) (ao : Option Addr) (l : List (Int × Int)) : Prop :=
  ∀ j (h : j < l.length), ∃ b off, ao = some ⟨b, off, none⟩ ∧ w.cell? ⟨b, off + j * 2, none⟩ = some (.int .u64 l[j].1) ∧ w.cell? ⟨b, off + j * 2 + 1, none⟩ = some (.int .i64 l[j].2)
theorem SeesB.mod0 {w w' : World} {ao : Option Addr} {l : List (Int × Int)} (h : SeesB w ao l) (hm : Mod [] w w') : SeesB w' ao l := by
  intro j hj
  obtain ⟨b, off, h1, h2, h3⟩ := h j hj
  exact ⟨b, off, h1, hm.cell h2 (by simp), hm.cell h3 (by simp)⟩

theorem two_set {w : World} {g : Nat} {t : TypeId} {a b : Value} (h : w.heap[g]? = some (.cells #[a, b] t (0, 0))) (u v : Value) :
    ((w.setCell ⟨g, 0, none⟩ u).setCell ⟨g, 1, none⟩ v).heap[g]? = some (.cells #[u, v] t (0, 0)) := by
  rw [heap_setCell_same (heap_setCell_same h u) v]; rfl
theorem two_mod (w : World) (g : Nat) (u v : Value) : Mod [g] w ((w.setCell ⟨g, 0, none⟩ u).setCell ⟨g, 1, none⟩ v) :=
  (Mod.setCell _ _ _ (by simp)).trans' (Mod.setCell _ _ _ (by simp))
/-- The greatest of the first k. -/
def maxK (l : List (Int × Int)) : Nat → Int × Int
  | 0 => (0, 0)
  | k + 1 => if k = 0 ∨ lessB (maxK l k).1 (maxK l k).2 (l.getD k (0, 0)).1 (l.getD k (0, 0)).2 = true then l.getD k (0, 0) else maxK l k

set_option maxHeartbeats 1000000 in
theorem max_any (ao : Option Addr) (len cap : Nat) (l : List (Int × Int)) (w : World) (hl : l.length = len) (hlen : len ≤ 9223372036854775807) (hs : SeesB w ao l) :
    Calls Try.prog 12 #[.slice ao len cap] w fun e w' => e = .returned (ballot (maxK l l.length).1 (maxK l l.length).2) ∧ Mod [] w w' := by
  subst hl
  unfold ballot
  have HS := Lib.hid hs
  clear hs
  go_enter Try.func12, Try.ntmps12
  go_wp2
  go_loopw [8] (fun i wr => ∃ k : Nat, k ≤ l.length ∧ i = .int .i64 (k : Int) ∧ wr.heap[w.heap.size + 1]? = some (.cells #[.int .u64 (maxK l k).1, .int .i64 (maxK l k).2] 24 (0, 0)) ∧ wr.heap[w.heap.size]? = some (.cells #[.int .u64 0, .int .i64 0] 24 (0, 0)) ∧ Mod [] w wr) (fun i _ => l.length - (intOf i).toNat)
  case atStart =>
    refine ⟨0, Nat.zero_le _, rfl, ?_, ?_, (Mod.alloc _ _ _).trans' (Mod.alloc _ _ _)⟩
    · have := heap_alloc_new (w.alloc (.cells #[.int .u64 0, .int .i64 0] 24)) (.cells #[.int .u64 0, .int .i64 0] 24)
      have h2 : (w.alloc (.cells #[.int .u64 0, .int .i64 0] 24)).heap.size = w.heap.size + 1 := by simp
      rw [h2] at this
      exact this
    · exact (Mod.alloc [] (w.alloc (.cells #[.int .u64 0, .int .i64 0] 24)) (.cells #[.int .u64 0, .int .i64 0] 24)).get (heap_alloc_new w _) (by simp)
  case round =>
    obtain ⟨k, hk, rfl, hb1, hb0, hm⟩ := hrel
    have HM := Lib.hid hm
    have HB1 := Lib.hid hb1
    have HB0 := Lib.hid hb0
    clear hm hb1 hb0
    by_cases hlt : k < l.length
    · obtain ⟨b, off, rfl, hc0, hc1⟩ := (HS.out.mod0 HM.out) k hlt
      have a0 := cell_of_block (i := 0) HB1.out
      have a1 := cell_of_block (i := 1) HB1.out
      have f0 := free_of_block (i := 0) HB1.out
      have f1 := free_of_block (i := 1) HB1.out
      have hlt2 := lt_of_block HB1.out
      have hd : l.getD k (0, 0) = l[k] := by simp [List.getD, List.getElem?_eq_getElem hlt]
      by_cases hk0 : k = 0
      · subst hk0
        simp only [Nat.zero_mul, Nat.add_zero] at hc0 hc1
        have hmx : Hid (maxK l 1 = l[0]) := by show (if 0 = 0 ∨ _ then _ else _) = _; rw [if_pos (.inl rfl), hd]
        go_wp2_with fail
        go_roundw
        case rel =>
          refine ⟨1, by omega, by go_num, ?_, ?_, ?_⟩
          · rw [hmx.out]
            exact (Mod.alloc [] _ _).get (two_set HB1.out _ _) (by simp)
          · exact (Mod.alloc [] _ _).get ((two_mod _ _ _ _).get HB0.out (by simp)) (by simp)
          · exact (HM.out.trans (two_mod _ _ _ _) (by simp)).trans' (Mod.alloc _ _ _)
        case measure => simp [intOf]; omega
      · by_cases hless : lessB (maxK l k).1 (maxK l k).2 l[k].1 l[k].2 = true
        · have hmx : Hid (maxK l (k + 1) = l[k]) := by show (if _ then _ else _) = _; rw [hd, if_pos (.inr hless)]
          go_wp2_with fail
          refine (less_any _ _ _ _ _).mono ?_
          rintro e w1 ⟨rfl, m1⟩
          rw [hless]
          have x0 : w1.cell? ⟨wr.heap.size, 0, none⟩ = some (.int .u64 l[k].1) := m1.cell (by go_cell) (by simp)
          have x1 : w1.cell? ⟨wr.heap.size, 1, none⟩ = some (.int .i64 l[k].2) := m1.cell (by go_cell) (by simp)
          have HC1 := Lib.hid (m1.get ((Mod.alloc [] _ _).get HB1.out (by simp)) (by simp))
          have HC0 := Lib.hid (m1.get ((Mod.alloc [] _ _).get HB0.out (by simp)) (by simp))
          have MC := Lib.hid ((HM.out.trans' (Mod.alloc [] wr (.cells #[.int .u64 l[k].1, .int .i64 l[k].2] 24))).trans' m1)
          have c0 := cell_of_block (i := 0) HC1.out
          have c1 := cell_of_block (i := 1) HC1.out
          have g0 := free_of_block (i := 0) HC1.out
          have g1 := free_of_block (i := 1) HC1.out
          clear m1 a0 a1 f0 f1
          go_wp2
          go_roundw
          case rel => exact ⟨k + 1, by omega, by go_num, by rw [hmx.out]; exact two_set HC1.out _ _, (two_mod _ _ _ _).get HC0.out (by simp), MC.out.trans (two_mod _ _ _ _) (by simp)⟩
          case measure => simp [intOf]; omega
        · have hl' : lessB (maxK l k).1 (maxK l k).2 l[k].1 l[k].2 = false := by simpa using hless
          have hmx : Hid (maxK l (k + 1) = maxK l k) := by show (if _ then _ else _) = _; rw [hd, if_neg (by simp [hk0, hl'])]
          go_wp2_with fail
          refine (less_any _ _ _ _ _).mono ?_
          rintro e w1 ⟨rfl, m1⟩
          rw [hl']
          have x0 : w1.cell? ⟨wr.heap.size, 0, none⟩ = some (.int .u64 l[k].1) := m1.cell (by go_cell) (by simp)
          have x1 : w1.cell? ⟨wr.heap.size, 1, none⟩ = some (.int .i64 l[k].2) := m1.cell (by go_cell) (by simp)
          have HC1 := Lib.hid (m1.get ((Mod.alloc [] _ _).get HB1.out (by simp)) (by simp))
          have HC0 := Lib.hid (m1.get ((Mod.alloc [] _ _).get HB0.out (by simp)) (by simp))
          have MC := Lib.hid ((HM.out.trans' (Mod.alloc [] wr (.cells #[.int .u64 l[k].1, .int .i64 l[k].2] 24))).trans' m1)
          have c0 := cell_of_block (i := 0) HC1.out
          have c1 := cell_of_block (i := 1) HC1.out
          have g0 := free_of_block (i := 0) HC1.out
          have g1 := free_of_block (i := 1) HC1.out
          clear m1 a0 a1 f0 f1
          go_wp2
          go_roundw
          case rel => exact ⟨k + 1, by omega, by go_num, by rw [hmx.out]; exact HC1.out, HC0.out, MC.out⟩
          case measure => simp [intOf]; omega
    · have hke : k = l.length := by omega
      subst hke
      have a0 := cell_of_block (i := 0) HB1.out
      have a1 := cell_of_block (i := 1) HB1.out
      have b0 := cell_of_block (i := 0) HB0.out
      have b1 := cell_of_block (i := 1) HB0.out
      have f0 := free_of_block (i := 0) HB0.out
      have f1 := free_of_block (i := 1) HB0.out
      go_wp2
      ((try simp only [Exit.inBlock, Exit.then]); refine bodyPost_ret (by simp [results, Try.results12, go_sem, *]; try rfl) rfl ?_)
      exact ⟨rfl, Mod.setCell' _ _ _ _ (Mod.setCell' _ _ _ _ HM.out (by simp)) (by simp)⟩
end Go.Proofs.Ytodkjkfaaamlaaa
