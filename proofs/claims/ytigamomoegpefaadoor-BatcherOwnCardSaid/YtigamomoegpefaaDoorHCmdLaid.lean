/- The table of the cmd package, out of the row's condition. -/
import Derived.Test.YtigamomoegpefaaDoorZ3
import Derived.Test.YtigamomoegpefaaDoorRows
import Derived.ProofKit
import Derived.LaidMore
import Derived.Stop.Joined
import Derived.Lib.LaidTab
namespace Go.Proofs.YtigamomoegpefaaDoor
open Go Go.Lib
theorem gCounts : Tryd.prog.globalNamed "quorate/cmd.counts" = some 0 := by kernel_rfl
theorem tCounts : (Tryd.prog.globals[0]?).map (·.type) = some 91 := by kernel_rfl
/-- A row of rows: each of them reads by itself. -/
theorem rows_of_agg {H : Type} {enc : TypeId × Value → H} {P : Program} {w : World} {base : Nat} {sp : Nat → Bool} {held : Bool} {fuel : Nat} {t e : TypeId} {n m : Nat} {cs : List Value} {ds : List (DataW H)} {p : List MemPlace}
    (ht : P.underlying t = some (.array n e)) (hce : P.cellsOf e = m) (h : DataW.trod enc P w base sp held fuel t cs = some (.agg ds, p)) (i : Nat) (hi : i < n) (d : DataW H) (hd : ds[i]? = some d) :
    ∃ f q, DataW.trod enc P w base sp held f e ((cs.drop (i * m)).take m) = some (d, q) := by
  cases fuel with
  | zero => simp [DataW.trod] at h
  | succ fuel =>
    simp only [DataW.trod, ht, hce] at h
    split at h
    · obtain ⟨xs, hm, hx⟩ := Option.map_eq_some_iff.1 h
      obtain ⟨b, hb, hf⟩ := mapM_at hm i i (by simp [hi])
      have hxs : xs.map (·.1) = ds := by
        have := congrArg Prod.fst hx
        simpa using this
      have h2 : (xs.map (·.1))[i]? = some b.1 := by simp [hb]
      rw [hxs, hd] at h2
      have h3 : d = b.1 := Option.some.inj h2
      subst h3
      exact ⟨fuel, b.2, hf⟩
    · cases h
theorem cnt_of_laid {W : World} (h : laidMetH Tryd.prog [("quorate/cmd.counts", Rows.laid_quorate_cmd_counts)] W) : Cnt W := by
  rw [MakeChecks.laidMetH_plain _ _ _ (by kernel_rfl)] at h
  obtain ⟨ps, ⟨g', t', cs, fuel, p, q, hg', ht', hvar, hd, _, _⟩, _⟩ := h
  obtain rfl := Option.some.inj (gCounts.symm.trans hg')
  obtain rfl := Option.some.inj (tCounts.symm.trans ht')
  have hcell : ∀ i, W.cell? ⟨0, i, none⟩ = cs[i]? := fun i => by
    have := World.var?_cell gCounts hvar i
    simpa using this
  have key : ∀ k lo hi, k < 9 → (Rows.laid_quorate_cmd_counts (H := Unit)) = .agg [tabData .i64 [0, 0], tabData .i64 [1, 1], tabData .i64 [1, 1], tabData .i64 [1, 1], tabData .i64 [1, 1], tabData .i64 [1, 1], tabData .i64 [2, 2], tabData .i64 [1, 16], tabData .i64 [1, 16]] →
      ([tabData .i64 [0, 0], tabData .i64 [1, 1], tabData .i64 [1, 1], tabData .i64 [1, 1], tabData .i64 [1, 1], tabData .i64 [1, 1], tabData .i64 [2, 2], tabData .i64 [1, 16], tabData .i64 [1, 16]] : List (DataW Unit))[k]? = some (tabData .i64 [lo, hi]) →
      cs[k * 2]? = some (.int .i64 lo) ∧ cs[k * 2 + 1]? = some (.int .i64 hi) := by
    intro k lo hi hk e hkd
    rw [e] at hd
    obtain ⟨f, q2, hf⟩ := rows_of_agg Tryd.underlying91 (show Tryd.prog.cellsOf 90 = 2 by kernel_rfl) hd k hk _ hkd
    have hc := cells_of_tab Tryd.underlying90 Tryd.underlying3 (by kernel_rfl) (by kernel_rfl) hf
    have h0 := congrArg (·[0]?) hc
    have h1 := congrArg (·[1]?) hc
    simp [List.getElem?_drop] at h0 h1
    exact ⟨h0, h1⟩
  intro k h1 h2
  rw [hcell, hcell]
  have h8 : k = 1 ∨ k = 2 ∨ k = 3 ∨ k = 4 ∨ k = 5 ∨ k = 6 ∨ k = 7 ∨ k = 8 := by omega
  rcases h8 with rfl | rfl | rfl | rfl | rfl | rfl | rfl | rfl <;> exact key _ _ _ (by decide) rfl rfl
end Go.Proofs.YtigamomoegpefaaDoor
