/- The walk of ballot.Take. -/
import Derived.Test.YtekdnljincbghaaDoorBalWakes
import Derived.Test.YtekdnljincbghaaDoorRead3
import Derived.Test.YtekdnljincbghaaDoorVarLaw
import Derived.Handy
namespace Go.Proofs.YtekdnljincbghaaDoor
open Go Go.RowKit Go.Lib

/-- A ballot that is read: the number, whose, the error; what is left. -/
def takeB (e : Int) (l : List UInt8) : Nat × Nat × Int × Int × List UInt8 :=
  if (uintE 10 0 0 (uintE 10 0 0 e l).2.1 (uintE 10 0 0 e l).2.2).2.1 ≠ 0 then (0, 0, (uintE 10 0 0 (uintE 10 0 0 e l).2.1 (uintE 10 0 0 e l).2.2).2.1, (uintE 10 0 0 (uintE 10 0 0 e l).2.1 (uintE 10 0 0 e l).2.2).2)
  else if 7 ≤ (uintE 10 0 0 (uintE 10 0 0 e l).2.1 (uintE 10 0 0 e l).2.2).1 then (0, 0, 11, (uintE 10 0 0 (uintE 10 0 0 e l).2.1 (uintE 10 0 0 e l).2.2).2)
  else ((uintE 10 0 0 e l).1, (uintE 10 0 0 (uintE 10 0 0 e l).2.1 (uintE 10 0 0 e l).2.2).1, 0, (uintE 10 0 0 (uintE 10 0 0 e l).2.1 (uintE 10 0 0 e l).2.2).2)
set_option maxHeartbeats 1000000 in
theorem take_any (g : Nat) (bs : List Nat) (e : Int) (l : List UInt8) (lim : Int) (w : World) (h : Rd w g bs e l lim) (hb : ∀ k, k ∈ bs → k < w.heap.size) :
    Calls Tryd.prog 71 #[.pointer (some ⟨g, 0, none⟩)] w fun r w' => r = .returned (.tuple #[.agg #[.int .u64 ((takeB e l).1 : Int), .int .i64 ((takeB e l).2.1 : Int)], .int .i64 (takeB e l).2.2.1]) ∧ Rd w' g bs (takeB e l).2.2.2.1 (takeB e l).2.2.2.2 lim ∧ Mod [g] w w' := by
  obtain ⟨⟨n1, e1, l1⟩, hu1⟩ : ∃ p, uintE 10 0 0 e l = p := ⟨_, rfl⟩
  obtain ⟨⟨n2, e2, l2⟩, hu2⟩ : ∃ p, uintE 10 0 0 e1 l1 = p := ⟨_, rfl⟩
  have HT : Hid (takeB e l = if e2 ≠ 0 then (0, 0, e2, e2, l2) else if 7 ≤ n2 then (0, 0, 11, e2, l2) else (n1, n2, 0, e2, l2)) := by
    show takeB e l = _
    unfold takeB
    rw [hu1]
    dsimp only
    rw [hu2]
  have HG := Lib.hid (show g < w.heap.size from h.lt)
  have H := Lib.hid h
  have HU1 := Lib.hid hu1
  have HU2 := Lib.hid hu2
  clear h hu1 hu2
  go_enter Tryd.func71, Tryd.ntmps71
  go_wp2_with fail
  refine (ruint_any g bs e l lim _ (H.out.mod0 (Mod.alloc [] w _))).mono ?_
  rw [HU1.out]
  rintro r w1 ⟨rfl, r1, m1⟩
  have R1 := Lib.hid r1
  have A0 : Hid (w1.cell? ⟨w.heap.size, 0, none⟩ = some (.int .u64 0)) := m1.cell (by go_cell) (by have := HG.out; simp; omega)
  have A1 : Hid (w1.cell? ⟨w.heap.size, 1, none⟩ = some (.int .i64 0)) := m1.cell (by go_cell) (by have := HG.out; simp; omega)
  have F0 : Hid (∀ i, w1.frozen? ⟨w.heap.size, i, none⟩ = false) := fun i => by
    show w1.frozen? _ = _
    rw [m1.frozen (by simp) (by have := HG.out; simp; omega)]; exact free_of_block (heap_alloc_new w _)
  have M1 := Lib.hid ((Mod.alloc [g] w (.cells #[.int .u64 0, .int .i64 0] 24)).trans' m1)
  have HS1 := Lib.hid (show w.heap.size < w1.heap.size from World.block_lt_of_cell? w1 _ A0.out)
  clear r1 m1 H
  go_wp2_with fail
  refine (ruint_any g bs e1 l1 lim _ R1.out).mono ?_
  rw [HU2.out]
  rintro r w2 ⟨rfl, r2, m2⟩
  have R2 := Lib.hid r2
  have B0 := Lib.hid (m2.cell A0.out (by have := HG.out; simp; omega))
  have B1 := Lib.hid (m2.cell A1.out (by have := HG.out; simp; omega))
  have G0 : Hid (∀ i, w2.frozen? ⟨w.heap.size, i, none⟩ = false) := fun i => by
    show w2.frozen? _ = _
    rw [m2.frozen HS1.out (by have := HG.out; simp; omega)]; exact F0.out i
  have M2 := Lib.hid (M1.out.trans' m2)
  clear r2 m2 R1 A0 A1 F0 M1 HS1
  go_wp2_with fail
  refine (err_any g bs _ _ lim _ R2.out).mono ?_
  rintro r w3 ⟨rfl, rfl⟩
  have b0 := B0.out
  have b1 := B1.out
  have f0 := G0.out 0
  have f1 := G0.out 1
  have hgn := Lib.hid (show w.heap.size ∉ bs from fun hm => Nat.lt_irrefl _ (hb _ hm))
  have hgg := Lib.hid (show g ≠ w.heap.size by have := HG.out; omega)
  clear B0 B1 G0 HU1 HU2 hb
  by_cases he : e2 = 0
  · subst he
    by_cases h7 : 7 ≤ n2
    · have hv := HT.out
      rw [if_neg (by simp), if_pos h7] at hv
      have HV := Lib.hid hv
      clear hv HT
      go_wp2
      ((try simp only [Exit.inBlock, Exit.then]); refine bodyPost_ret (by simp [results, Tryd.results71, go_sem, *]; try rfl) rfl ?_)
      rw [HV.out]
      exact ⟨rfl, (R2.out.mod (two_mod _ _ _ _) (by simpa using hgg.out) (fun k hk h => hgn.out (by simp only [List.mem_singleton] at h; subst h; exact hk))), (M2.out.trans (two_mod _ _ _ _) (by simp))⟩
    · have hv := HT.out
      rw [if_neg (by simp), if_neg h7] at hv
      have HV := Lib.hid hv
      have hw : IntKind.i64.wrap (n2 : Int) = (n2 : Int) := IntWalk.i64_in _ (by omega)
      clear hv HT
      go_wp2
      ((try simp only [Exit.inBlock, Exit.then]); refine bodyPost_ret (by simp [results, Tryd.results71, go_sem, *]; try rfl) rfl ?_)
      rw [HV.out]
      exact ⟨rfl, (R2.out.mod (two_mod _ _ _ _) (by simpa using hgg.out) (fun k hk h => hgn.out (by simp only [List.mem_singleton] at h; subst h; exact hk))), (M2.out.trans (two_mod _ _ _ _) (by simp))⟩
  · have hv := HT.out
    rw [if_pos he] at hv
    have HV := Lib.hid hv
    clear hv HT
    go_wp2
    ((try simp only [Exit.inBlock, Exit.then]); refine bodyPost_ret (by simp [results, Tryd.results71, go_sem, *]; try rfl) rfl ?_)
    rw [HV.out]
    exact ⟨rfl, (R2.out.mod (two_mod _ _ _ _) (by simpa using hgg.out) (fun k hk h => hgn.out (by simp only [List.mem_singleton] at h; subst h; exact hk))), (M2.out.trans (two_mod _ _ _ _) (by simp))⟩
end Go.Proofs.YtekdnljincbghaaDoor
