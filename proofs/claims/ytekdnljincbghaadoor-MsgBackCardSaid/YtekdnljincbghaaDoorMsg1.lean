/- Messages: their data, what the world shows of them; the letters of a kind; strings.Contains at a string of one byte. -/
import Derived.Test.YtekdnljincbghaaDoorBase
import Derived.Test.YtekdnljincbghaaDoorProg
import Derived.Lib.IndexLaws
import Derived.BigQuiet
namespace Go.Proofs.YtekdnljincbghaaDoor
open Go Go.RowKit Go.Lib

theorem Mod.drewN (S : List Nat) (w : World) (n : Nat) : Mod S w (w.drewN n) := ⟨rfl, rfl, rfl, Nat.le_refl _, fun _ _ _ => rfl⟩
/-- The letters of a kind. -/
def Fl : Nat → List UInt8
  | 1 => [98]
  | 2 => [98, 99, 118]
  | 3 => [98]
  | 4 => [98, 99, 102, 115]
  | 5 => [98, 102, 108]
  | 6 => [102]
  | 7 => [102, 115]
  | 8 => [102, 112]
  | _ => []
/-- The package's table. -/
def Flds (w : World) : Prop := ∀ k, k < 9 → w.cell? ⟨0, k, none⟩ = some (.string ⟨(Fl k).toArray⟩)
theorem Flds.lt {w : World} (h : Flds w) : 0 < w.heap.size := World.block_lt_of_cell? w _ (h 0 (by omega))
theorem Flds.mod {S : List Nat} {w w' : World} (h : Flds w) (hm : Mod S w w') (hn : 0 ∉ S) : Flds w' := fun k hk => hm.cell (h k hk) hn
theorem Flds.mod0 {w w' : World} (h : Flds w) (hm : Mod [] w w') : Flds w' := h.mod hm List.not_mem_nil

theorem idxByte_any (s : ByteArray) (c : UInt8) (w : World) : Calls Tryd.prog 74 #[.string s, .int .u8 (c.toNat : Int)] w fun e w' => e = .returned (.int .i64 (indexByte s.data.toList c)) ∧ w' = w := by
  have hc : ((c.toNat : Int)).toNat.toUInt8 = c := by simp
  go_enter Tryd.func74, Tryd.ntmps74
  go_wp2_with fail
  rw [run_callFunc_extern Tryd.func79 (by kernel_rfl) (by kernel_rfl) (by kernel_rfl) (e := Extern.BytealgIndexByte.indexByte) (by kernel_rfl), Lib.run_indexByteString, hc]
  simp only [Result.andThen]
  rw [Oper.upon_value]
  go_wp2_with fail
  go_ret
  exact ⟨rfl, rfl⟩
theorem indexByte_has (l : List UInt8) (c : UInt8) : decide (0 ≤ indexByte l c) = decide (c ∈ l) := by
  have h0 := indexByte_ge l c
  by_cases h : indexByte l c = -1
  · have h1 := indexByte_none h
    rw [decide_eq_false (by omega), decide_eq_false]
    intro hc
    obtain ⟨k, hk, he⟩ := List.getElem_of_mem hc
    exact h1 k (by rw [List.getElem?_eq_getElem hk, he])
  · obtain ⟨o, ho⟩ : ∃ o : Nat, indexByte l c = o := ⟨(indexByte l c).toNat, by omega⟩
    have h1 := (indexByte_some ho).1
    rw [decide_eq_true (by omega), decide_eq_true (List.mem_of_getElem? h1)]
theorem slIndex_any (l : List UInt8) (c : UInt8) (w : World) : Calls Tryd.prog 68 #[.string ⟨l.toArray⟩, .string ⟨#[c]⟩] w fun e w' => (∃ r : Int, e = .returned (.int .i64 r) ∧ decide (0 ≤ r) = decide (c ∈ l)) ∧ w' = w := by
  have HI := Lib.hid (idxByte_any ⟨l.toArray⟩ c w)
  have HH := Lib.hid (indexByte_has l c)
  obtain ⟨q, hq⟩ : ∃ q, ([c] == l) = q := ⟨_, rfl⟩
  have HQ := Lib.hid hq
  go_enter Tryd.func68, Tryd.ntmps68
  cases q
  case true =>
    go_wp2_with fail
    go_ret
    have h : [c] = l := by simpa using HQ.out
    subst h
    exact ⟨⟨0, rfl, by simp⟩, rfl⟩
  go_wp2_with fail
  refine HI.out.mono ?_
  rintro e w1 ⟨rfl, rfl⟩
  go_wp2_with fail
  go_ret
  exact ⟨⟨_, rfl, HH.out⟩, rfl⟩
theorem strIndex_any (l : List UInt8) (c : UInt8) (w : World) : Calls Tryd.prog 49 #[.string ⟨l.toArray⟩, .string ⟨#[c]⟩] w fun e w' => (∃ r : Int, e = .returned (.int .i64 r) ∧ decide (0 ≤ r) = decide (c ∈ l)) ∧ w' = w := by
  have HI := Lib.hid (slIndex_any l c w)
  go_enter Tryd.func49, Tryd.ntmps49
  go_wp2_with fail
  refine HI.out.mono ?_
  rintro e w1 ⟨⟨r, rfl, hr⟩, rfl⟩
  have HR := Lib.hid hr
  clear hr
  go_wp2_with fail
  go_ret
  exact ⟨⟨_, rfl, HR.out⟩, rfl⟩
theorem contains_any (l : List UInt8) (c : UInt8) (w : World) : Calls Tryd.prog 25 #[.string ⟨l.toArray⟩, .string ⟨#[c]⟩] w fun e w' => e = .returned (.bool (decide (c ∈ l))) ∧ w' = w := by
  have HI := Lib.hid (strIndex_any l c w)
  go_enter Tryd.func25, Tryd.ntmps25
  go_wp2_with fail
  refine HI.out.mono ?_
  rintro e w1 ⟨⟨r, rfl, hr⟩, rfl⟩
  have HR := Lib.hid hr
  clear hr
  go_wp2_with fail
  go_ret
  exact ⟨by rw [← HR.out]; rfl, rfl⟩
/-- Is a kind one? -/
def Known (k : Nat) : Prop := 1 ≤ k ∧ k ≤ 8
instance (k : Nat) : Decidable (Known k) := inferInstanceAs (Decidable (_ ∧ _))
theorem Fl_known : ∀ k, k < 9 → ((Fl k == []) = true ↔ ¬ Known k) := by decide
theorem known_any (k : Nat) (w : World) (hf : Flds w) : Calls Tryd.prog 23 #[.int .u64 (k : Int)] w fun e w' => e = .returned (.bool (decide (Known k))) ∧ w' = w := by
  by_cases h : k < 9
  · have h0 := hf k h
    have h2 : (k : Int) < 9 := by omega
    have D : decide ((k : Int) < 9) = true := decide_eq_true h2
    obtain ⟨q, hq⟩ : ∃ q, (Fl k == []) = q := ⟨_, rfl⟩
    have HQ : Hid (decide (Known k) = !q) := Lib.hid (by
      have := Fl_known k h
      rw [hq] at this
      cases q
      · rw [decide_eq_true]
        · rfl
        · exact Classical.not_not.1 (fun hc => by simpa using this.2 hc)
      · rw [decide_eq_false (this.1 rfl)]
        rfl)
    obtain ⟨s, hs⟩ : ∃ s, Fl k = s := ⟨_, rfl⟩
    rw [hs] at h0 hq
    clear hs
    go_enter Tryd.func23, Tryd.ntmps23
    go_wp2_with fail
    go_ret
    exact ⟨by rw [HQ.out]; rfl, rfl⟩
  · have D : decide ((k : Int) < 9) = false := decide_eq_false (by omega)
    have HQ : Hid (decide (Known k) = false) := Lib.hid (decide_eq_false (by unfold Known; omega))
    clear h hf
    go_enter Tryd.func23, Tryd.ntmps23
    go_wp2_with fail
    go_ret
    exact ⟨by rw [HQ.out]; rfl, rfl⟩
/-- Is there a replica of a ballot's place? -/
def Place (r : Int) : Prop := 0 ≤ r ∧ r ≤ 6
instance (r : Int) : Decidable (Place r) := inferInstanceAs (Decidable (_ ∧ _))
theorem place_any (n r : Int) (w : World) : Calls Tryd.prog 26 #[.agg #[.int .u64 n, .int .i64 r]] w fun e w' => e = .returned (.bool (decide (Place r))) ∧ Mod [] w w' := by
  have m1 := Mod.alloc [] w (.cells #[.int .u64 n, .int .i64 r] 24)
  have hb := heap_alloc_new w (.cells #[.int .u64 n, .int .i64 r] 24)
  obtain ⟨w1, hw1⟩ : ∃ x, w.alloc (.cells #[.int .u64 n, .int .i64 r] 24) = x := ⟨_, rfl⟩
  rw [hw1] at m1 hb
  have c1 := cell_of_block (i := 1) hb
  have M1 := Lib.hid m1
  clear m1 hb
  have hq : (decide (0 ≤ r) = false ∧ decide (Place r) = false) ∨ (decide (0 ≤ r) = true ∧ decide (r < 7) = false ∧ decide (Place r) = false) ∨ (decide (0 ≤ r) = true ∧ decide (r < 7) = true ∧ decide (Place r) = true) := by
    simp only [decide_eq_true_eq, decide_eq_false_iff_not]
    unfold Place
    omega
  go_enter Tryd.func26, Tryd.ntmps26
  rcases hq with ⟨D1, h⟩ | ⟨D1, D2, h⟩ | ⟨D1, D2, h⟩
  all_goals
    have HH := Lib.hid h
    clear h
    go_wp2_with fail
    go_ret
    exact ⟨by rw [HH.out]; rfl, M1.out⟩
/-- Check's inner function. -/
theorem no_any (b k : Nat) (c : UInt8) (w : World) (hk : k < 9) (hb : w.cell? ⟨b, 0, none⟩ = some (.int .u8 (k : Int))) (hf : Flds w) :
    Calls Tryd.prog 24 #[.string ⟨#[c]⟩, .pointer (some ⟨b, 0, none⟩)] w fun e w' => e = .returned (.bool (!decide (c ∈ Fl k))) ∧ w' = w := by
  have h0 := hf k hk
  have h2 : (k : Int) < 9 := by omega
  have HC := Lib.hid (contains_any (Fl k) c w)
  obtain ⟨s, hs⟩ : ∃ s, Fl k = s := ⟨_, rfl⟩
  rw [hs] at h0 HC ⊢
  obtain ⟨q, hq⟩ : ∃ q, decide (c ∈ s) = q := ⟨_, rfl⟩
  rw [hq] at HC ⊢
  clear hs hf hq
  go_enter Tryd.func24, Tryd.ntmps24
  go_wp2_with fail
  refine HC.out.mono ?_
  rintro e w1 ⟨rfl, rfl⟩
  go_wp2_with fail
  go_ret
  exact ⟨rfl, rfl⟩
end Go.Proofs.YtekdnljincbghaaDoor
