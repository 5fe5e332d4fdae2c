/- The reference's fields, and whether a kind has one. -/
import Derived.Test.YtekdnljincbghaaDoorZ4
namespace Go.Proofs.YtekdnljincbghaaDoor
open Go Go.RowKit Go.Lib

set_option maxRecDepth 100000 in
theorem fields17_any (k : Nat) (w : World) : Calls Tryd.prog 31 #[.int .i64 (k : Int)] w fun e w' => e = .returned (strV (Fl k)) ∧ w' = w := by
  by_cases h : k < 9
  · have h8 : k = 0 ∨ k = 1 ∨ k = 2 ∨ k = 3 ∨ k = 4 ∨ k = 5 ∨ k = 6 ∨ k = 7 ∨ k = 8 := by omega
    rcases h8 with rfl | rfl | rfl | rfl | rfl | rfl | rfl | rfl | rfl
    all_goals
      go_enter Tryd.func31, Tryd.ntmps31
      go_wp2_with fail
      go_ret
      exact ⟨rfl, rfl⟩
  · have hF : Hid (strV (Fl k) = .string ⟨#[]⟩) := Lib.hid (by
      have : Fl k = [] := by unfold Fl; split <;> first | omega | rfl
      rw [this])
    have D1 : ((k : Int) == 1) = false := by simp; omega
    have D2 : ((k : Int) == 2) = false := by simp; omega
    have D3 : ((k : Int) == 3) = false := by simp; omega
    have D4 : ((k : Int) == 4) = false := by simp; omega
    have D5 : ((k : Int) == 5) = false := by simp; omega
    have D6 : ((k : Int) == 6) = false := by simp; omega
    have D7 : ((k : Int) == 7) = false := by simp; omega
    have D8 : ((k : Int) == 8) = false := by simp; omega
    rw [hF.out]
    clear h
    go_enter Tryd.func31, Tryd.ntmps31
    go_wp2_with fail
    go_ret
    exact ⟨rfl, rfl⟩
set_option maxRecDepth 100000 in
theorem has17_any (k : Nat) (c : UInt8) (w : World) : Calls Tryd.prog 33 #[.int .i64 (k : Int), .int .u8 (c.toNat : Int)] w fun e w' => e = .returned (.bool (decide (c ∈ Fl k))) ∧ w' = w := by
  have HF := Lib.hid (fields17_any k w)
  have hn := Fl_len k
  obtain ⟨Fs, hFs⟩ : ∃ l, Fl k = l := ⟨_, rfl⟩
  rw [hFs] at HF hn ⊢
  clear hFs
  obtain ⟨q, hq⟩ : ∃ q, decide (c ∈ Fs) = q := ⟨_, rfl⟩
  rw [hq]
  have HQ := Lib.hid hq
  clear hq
  go_enter Tryd.func33, Tryd.ntmps33
  go_wp2_with fail
  refine HF.out.mono ?_
  rintro e w1 ⟨rfl, he⟩
  subst he
  have hsz : (⟨Fs.toArray⟩ : ByteArray).size = Fs.length := by show Fs.toArray.size = _; simp
  go_wp2_with fail
  go_loopw [6] (fun s6 wr => ∃ i : Nat, i ≤ Fs.length ∧ s6 = .int .i64 (i : Int) ∧ c ∉ Fs.take i ∧ Mod [] w1 w1 ∧ w1 = wr) (fun s6 _ => Fs.length - (intOf s6).toNat)
  case atStart => exact ⟨0, Nat.zero_le _, rfl, by simp, Mod.refl _ _, rfl⟩
  case round =>
    obtain ⟨i, hi, rfl, hni, -, hw⟩ := hrel
    rename World => wr
    have HNI := Lib.hid hni
    have HW := Lib.hid hw
    clear hni hw
    by_cases hlt : i < Fs.length
    · have hlt2 : (i : Int) < (Fs.length : Int) := by omega
      have hs : i < (⟨Fs.toArray⟩ : ByteArray).size := by rw [hsz]; exact hlt
      have hb : (⟨Fs.toArray⟩ : ByteArray)[i] = Fs[i] := rfl
      by_cases hc : Fs[i] = c
      · have D : (((⟨Fs.toArray⟩ : ByteArray)[i].toNat : Int) == (c.toNat : Int)) = true := by rw [hb, hc]; simp
        have HH : Hid (q = true) := Lib.hid (by rw [← HQ.out]; exact decide_eq_true (by rw [← hc]; exact List.getElem_mem hlt))
        clear hc hb
        go_wp2_with fail
        go_ret
        exact ⟨by rw [HH.out]; rfl, HW.out.symm⟩
      · have D : (((⟨Fs.toArray⟩ : ByteArray)[i].toNat : Int) == (c.toNat : Int)) = false := by
          rw [hb, beq_eq_false_iff_ne]
          intro h
          exact hc (UInt8.toNat_inj.1 (by omega))
        have HN2 : Hid (c ∉ Fs.take (i + 1)) := Lib.hid (by
          rw [List.take_succ_eq_append_getElem hlt]
          intro h
          rcases List.mem_append.1 h with h | h
          · exact HNI.out h
          · simp only [List.mem_singleton] at h
            exact hc h.symm)
        clear hc hb
        go_wp2_with fail
        go_roundw
        case rel => exact ⟨i + 1, by omega, by go_num, HN2.out, Mod.refl _ _, HW.out⟩
        case measure => simp [intOf]; omega
    · have hke : i = Fs.length := by omega
      have HH : Hid (q = false) := Lib.hid (by
        rw [← HQ.out]
        refine decide_eq_false (fun h => HNI.out ?_)
        rw [hke, List.take_length]
        exact h)
      clear HNI
      subst hke
      go_wp2_with fail
      go_ret
      exact ⟨by rw [HH.out]; rfl, HW.out.symm⟩
end Go.Proofs.YtekdnljincbghaaDoor
