/- The tables of the crc and msg packages, out of the row's condition. -/
import Derived.Test.YtekdnljincbghaaDoorZ4
import Derived.Test.YtekdnljincbghaaDoorRows
import Derived.ProofKit
import Derived.LaidMore
import Derived.Stop.Joined
import Derived.Lib.LaidTab
namespace Go.Proofs.YtekdnljincbghaaDoor
open Go Go.Lib
theorem gSteps : Tryd.prog.globalNamed "quorate/crc.steps" = some 2 := by kernel_rfl
theorem tSteps : (Tryd.prog.globals[2]?).map (·.type) = some 117 := by kernel_rfl
theorem gFields : Tryd.prog.globalNamed "quorate/msg.fields" = some 0 := by kernel_rfl
theorem tFields : (Tryd.prog.globals[0]?).map (·.type) = some 60 := by kernel_rfl
/-- A row of rows: each of them reads by itself. -/
theorem rows_of_agg {H : Type} {enc : TypeId × Value → H} {P : Program} {w : World} {base : Nat} {sp : Nat → Bool} {held : Bool} {fuel : Nat} {t e : TypeId} {n m : Nat} {cs : List Value} {ds : List (DataW H)} {p : List MemPlace}
    (ht : P.underlying t = some (.array n e)) (hce : P.cellsOf e = m) (h : DataW.trod enc P w base sp held fuel t cs = some (.agg ds, p)) (i : Nat) (hi : i < n) (d : DataW H) (hd : ds[i]? = some d) :
    ∃ f q, DataW.trod enc P w base sp held f e ((cs.drop (i * m)).take m) = some (d, q) := by
  cases fuel with
  | zero => simp [DataW.trod] at h
  | succ fuel =>
    simp only [DataW.trod, ht, hce] at h
    split at h
    · obtain ⟨xs, hm, hx⟩ := Option.map_eq_some_iff.1 h
      obtain ⟨b, hb, hf⟩ := mapM_at hm i i (by simp [hi])
      have hxs : xs.map (·.1) = ds := by
        have := congrArg Prod.fst hx
        simpa using this
      have h2 : (xs.map (·.1))[i]? = some b.1 := by simp [hb]
      rw [hxs, hd] at h2
      have h3 : d = b.1 := Option.some.inj h2
      subst h3
      exact ⟨fuel, b.2, hf⟩
    · cases h
theorem msg_of_laid {W : World} (h : laidMetH Tryd.prog [("quorate/crc.steps", Rows.laid_quorate_crc_steps), ("quorate/msg.fields", Rows.laid_quorate_msg_fields)] W) : TableAt W T0 ∧ Flds W := by
  rw [MakeChecks.laidMetH_plain _ _ _ (by kernel_rfl)] at h
  have hT := Lib.tabIs_of_head (k := .u32) (zs := tab) (rest := [("quorate/msg.fields", Rows.laid_quorate_msg_fields)]) gSteps tSteps Tryd.underlying117 Tryd.underlying56 (by kernel_rfl) (by kernel_rfl) h
  have hc : ∀ i, i < 16 → W.cell? ⟨2, i, none⟩ = some (.int .u32 (T0 i)) := fun i hi => hT.cell gSteps i hi
  refine ⟨⟨World.block_lt_of_cell? W _ (hc 0 (by omega)), hc⟩, ?_⟩
  obtain ⟨ps, ⟨_, _, _, _, _, _, _, _, _, _, ⟨g', t', cs, fuel, p, q, hg', ht', hvar, hd, _, _⟩, _⟩, _⟩ := h
  obtain rfl := Option.some.inj (gFields.symm.trans hg')
  obtain rfl := Option.some.inj (tFields.symm.trans ht')
  have hcell : ∀ i, W.cell? ⟨0, i, none⟩ = cs[i]? := fun i => by
    have := World.var?_cell gFields hvar i
    simpa using this
  have key : ∀ k (l : List UInt8), k < 9 → ([.lit (.string []), .lit (.string [98]), .lit (.string [98, 99, 118]), .lit (.string [98]), .lit (.string [98, 99, 102, 115]), .lit (.string [98, 102, 108]), .lit (.string [102]), .lit (.string [102, 115]), .lit (.string [102, 112])] : List (DataW Unit))[k]? = some (.lit (.string l)) → cs[k]? = some (.string ⟨l.toArray⟩) := by
    intro k l hk hkd
    obtain ⟨f, q2, hf⟩ := rows_of_agg Tryd.underlying60 (show Tryd.prog.cellsOf 9 = 1 by kernel_rfl) hd k hk _ hkd
    obtain ⟨x, hx, hy, _⟩ := DataW.trod_string Tryd.underlying9 hf
    have h0 := congrArg (·[0]?) hx
    simp [List.getElem?_drop] at h0
    rw [h0]
    simp at hy
    rw [hy.1]
  intro k hk
  rw [hcell]
  have h8 : k = 0 ∨ k = 1 ∨ k = 2 ∨ k = 3 ∨ k = 4 ∨ k = 5 ∨ k = 6 ∨ k = 7 ∨ k = 8 := by omega
  rcases h8 with rfl | rfl | rfl | rfl | rfl | rfl | rfl | rfl | rfl <;> exact key _ _ (by decide) rfl
end Go.Proofs.YtekdnljincbghaaDoor
