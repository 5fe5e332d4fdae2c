/- The law's guard: the walk of quoratelaw17.Great. -/
import Derived.Test.YtekdnljincbghaaDoorMsg12
import Derived.Deep.CutRange
namespace Go.Proofs.YtekdnljincbghaaDoor
open Go Go.RowKit Go.Lib

/-- A message that the guard lets through. -/
structure FineM (m : Mm) : Prop where
  votes : m.votes.length ≤ 300
  vote : ∀ v ∈ m.votes, v.2.1.length ≤ 300
  batches : m.batches.length ≤ 30
  batch : ∀ b ∈ m.batches, b.1.length ≤ 300
  snap : m.p.1.length ≤ 300
theorem FineM.small {m : Mm} (h : FineM m) : SmallM m := ⟨h.votes, fun v hv => Nat.le_trans (h.vote v hv) (by omega), Nat.le_trans h.batches (by omega), fun v hv => Nat.le_trans (h.batch v hv) (by omega), Nat.le_trans h.snap (by omega)⟩
/-- What the guard tells. -/
def GreatR (m : Mm) (e : Ending) : Prop := ∃ q, e = .returned (.bool q) ∧ (q = false → FineM m)
set_option maxRecDepth 100000 in
set_option maxHeartbeats 4000000 in
theorem great17_any (m : Mm) (w : World) (hs : SeesM w m) (hw : WfM m) : Calls Tryd.prog 10 #[msgV m] w fun e w' => GreatR m e ∧ Mod [] w w' := by
  have HR : Hid (GreatR m (.returned (.bool true)) ∧ (FineM m → GreatR m (.returned (.bool false)))) := Lib.hid ⟨⟨true, rfl, fun h => absurd h (by decide)⟩, fun h => ⟨false, rfl, fun _ => h⟩⟩
  have HFI : Hid (m.votes.length ≤ 300 → m.batches.length ≤ 30 → m.p.1.length ≤ 300 → (∀ v ∈ m.votes, v.2.1.length ≤ 300) → (∀ b ∈ m.batches, b.1.length ≤ 300) → FineM m) := Lib.hid (fun a b c d e => ⟨a, d, b, e, c⟩)
  obtain ⟨mm, hmm⟩ : ∃ x, GreatR m = x := ⟨_, rfl⟩
  rw [hmm] at HR ⊢
  clear hmm
  obtain ⟨fm, hfm⟩ : ∃ x, FineM m = x := ⟨_, rfl⟩
  rw [hfm] at HR HFI
  clear hfm
  have l1 := hw.vlen
  have l2 := hw.blen
  have HSV := Lib.hid hs.votes
  have HSB := Lib.hid hs.batches
  obtain ⟨⟨kind, bn, br, first, last, commit⟩, vo, vc, votes, so, sc, batches, pl, po, pc⟩ := m
  dsimp only at l1 l2 HSV HSB HFI
  obtain ⟨vl, hvl⟩ : ∃ n, votes.length = n := ⟨_, rfl⟩
  obtain ⟨bl, hbl⟩ : ∃ n, batches.length = n := ⟨_, rfl⟩
  obtain ⟨sl, hsl⟩ : ∃ n, pl.length = n := ⟨_, rfl⟩
  unfold msgV mC
  dsimp only
  rw [hvl, hbl, hsl] at HFI ⊢
  rw [hvl] at l1
  rw [hbl] at l2
  have HVL := Lib.hid hvl
  have HBL := Lib.hid hbl
  clear hs hw hvl hbl hsl
  have m1 := Mod.alloc [] w (.cells #[.int .u8 (kind : Int), .int .u64 (bn : Int), .int .i64 br, .int .u64 (first : Int), .int .u64 (last : Int), .int .u64 (commit : Int), .slice vo vl vc, .slice so bl sc, .slice po sl pc] 29)
  have hb := heap_alloc_new w (.cells #[.int .u8 (kind : Int), .int .u64 (bn : Int), .int .i64 br, .int .u64 (first : Int), .int .u64 (last : Int), .int .u64 (commit : Int), .slice vo vl vc, .slice so bl sc, .slice po sl pc] 29)
  obtain ⟨w1, hw1⟩ : ∃ x, w.alloc (.cells #[.int .u8 (kind : Int), .int .u64 (bn : Int), .int .i64 br, .int .u64 (first : Int), .int .u64 (last : Int), .int .u64 (commit : Int), .slice vo vl vc, .slice so bl sc, .slice po sl pc] 29) = x := ⟨_, rfl⟩
  rw [hw1] at m1 hb
  have c6 := cell_of_block (i := 6) hb
  have c7 := cell_of_block (i := 7) hb
  have c8 := cell_of_block (i := 8) hb
  simp only [List.getElem?_toArray, List.getElem?_cons_succ, List.getElem?_cons_zero] at c6 c7 c8
  have HB := Lib.hid hb
  have M1 := Lib.hid m1
  replace HSV := Lib.hid (HSV.out.mod0 m1)
  replace HSB := Lib.hid (HSB.out.mod0 m1)
  clear m1 hb
  go_enter Tryd.func10, Tryd.ntmps10
  by_cases h1 : 300 < vl
  case pos =>
    have D1 : decide ((300 : Int) < (vl : Int)) = true := decide_eq_true (by omega)
    clear h1
    go_wp2_with fail
    go_ret
    exact ⟨HR.out.1, M1.out⟩
  have D1 : decide ((300 : Int) < (vl : Int)) = false := decide_eq_false (by omega)
  by_cases h2 : 30 < bl
  case pos =>
    have D2 : decide ((30 : Int) < (bl : Int)) = true := decide_eq_true (by omega)
    clear h1 h2
    go_wp2_with fail
    go_ret
    exact ⟨HR.out.1, M1.out⟩
  have D2 : decide ((30 : Int) < (bl : Int)) = false := decide_eq_false (by omega)
  by_cases h3 : 300 < sl
  case pos =>
    have D3 : decide ((300 : Int) < (sl : Int)) = true := decide_eq_true (by omega)
    clear h1 h2 h3
    go_wp2_with fail
    go_ret
    exact ⟨HR.out.1, M1.out⟩
  have D3 : decide ((300 : Int) < (sl : Int)) = false := decide_eq_false (by omega)
  have HF2 : Hid ((∀ v ∈ votes, v.2.1.length ≤ 300) → (∀ b ∈ batches, b.1.length ≤ 300) → fm) := Lib.hid (HFI.out (by omega) (by omega) (by omega))
  clear HFI h1 h2 h3
  go_wp2_with fail
  clear D1 D2 D3
  go_loopw [3] (fun s3 wr => ∃ k : Nat, k ≤ vl ∧ s3 = .int .i64 (k : Int) ∧ (∀ j (h : j < votes.length), j < k → votes[j].2.1.length ≤ 300) ∧ Mod [] w1 wr) (fun s3 _ => vl - (intOf s3).toNat)
  case atStart => exact ⟨0, Nat.zero_le _, rfl, fun j h h' => absurd h' (by omega), Mod.refl _ _⟩
  case round =>
    obtain ⟨k, hk, rfl, hall, hm⟩ := hrel
    rename World => wr
    have HA := Lib.hid hall
    have HM := Lib.hid hm
    have MM := Lib.hid (M1.out.trans' hm)
    have HBr := Lib.hid (hm.get HB.out List.not_mem_nil)
    clear hall hm c6 c7 c8 hw1
    have c6 := cell_of_block (i := 6) HBr.out
    have c7 := cell_of_block (i := 7) HBr.out
    simp only [List.getElem?_toArray, List.getElem?_cons_succ, List.getElem?_cons_zero] at c6 c7
    by_cases hlt : k < vl
    · have hlt2 : (k : Int) < (vl : Int) := by omega
      have g1 : k < votes.length := by rw [HVL.out]; exact hlt
      obtain ⟨b, off, rfl, hc⟩ := HSV.out.vote g1
      obtain ⟨-, -, -, p3, -⟩ := hc wr HM.out
      by_cases h4 : 300 < votes[k].2.1.length
      · have D : decide ((300 : Int) < (votes[k].2.1.length : Int)) = true := decide_eq_true (by omega)
        clear hc h4
        go_wp2_with fail
        go_ret
        exact ⟨HR.out.1, MM.out⟩
      · have D : decide ((300 : Int) < (votes[k].2.1.length : Int)) = false := decide_eq_false (by omega)
        have HA2 : Hid (∀ j (h : j < votes.length), j < k + 1 → votes[j].2.1.length ≤ 300) := Lib.hid (fun j h h' => by
          rcases Nat.lt_or_ge j k with h5 | h5
          · exact HA.out j h h5
          · obtain rfl : j = k := by omega
            omega)
        clear hc h4 HA
        go_wp2_with fail
        go_roundw
        case rel => exact ⟨k + 1, by omega, by go_num, HA2.out, HM.out⟩
        case measure => simp [intOf]; omega
    · have hke : k = vl := by omega
      subst hke
      have HV1 : Hid (∀ v ∈ votes, v.2.1.length ≤ 300) := Lib.hid (fun v hv => by
        obtain ⟨j, hj, rfl⟩ := List.getElem_of_mem hv
        exact HA.out j hj (by have := HVL.out; omega))
      clear HA
      go_wp2_with fail
      go_loopw [4] (fun s4 wr' => ∃ k : Nat, k ≤ bl ∧ s4 = .int .i64 (k : Int) ∧ (∀ j (h : j < batches.length), j < k → batches[j].1.length ≤ 300) ∧ Mod [] wr wr') (fun s4 _ => bl - (intOf s4).toNat)
      case atStart => exact ⟨0, Nat.zero_le _, rfl, fun j h h' => absurd h' (by omega), Mod.refl _ _⟩
      case round =>
        obtain ⟨k2, hk2, rfl, hall, hm⟩ := hrel
        rename World => wr2
        have HA := Lib.hid hall
        have HM3 := Lib.hid hm
        have HM2 := Lib.hid (HM.out.trans' hm)
        have MM2 := Lib.hid (MM.out.trans' hm)
        have HBr2 := Lib.hid (hm.get HBr.out List.not_mem_nil)
        clear hall hm c6 c7
        have c7 := cell_of_block (i := 7) HBr2.out
        simp only [List.getElem?_toArray, List.getElem?_cons_succ, List.getElem?_cons_zero] at c7
        by_cases hlt4 : k2 < bl
        · have hlt5 : (k2 : Int) < (bl : Int) := by omega
          have g1 : k2 < batches.length := by rw [HBL.out]; exact hlt4
          obtain ⟨b, off, rfl, hc⟩ := HSB.out.batch g1
          obtain ⟨p3, -⟩ := hc wr2 HM2.out
          by_cases h4 : 300 < batches[k2].1.length
          · have D : decide ((300 : Int) < (batches[k2].1.length : Int)) = true := decide_eq_true (by omega)
            clear hc h4
            go_wp2_with fail
            go_ret
            exact ⟨HR.out.1, MM2.out⟩
          · have D : decide ((300 : Int) < (batches[k2].1.length : Int)) = false := decide_eq_false (by omega)
            have HA2 : Hid (∀ j (h : j < batches.length), j < k2 + 1 → batches[j].1.length ≤ 300) := Lib.hid (fun j h h' => by
              rcases Nat.lt_or_ge j k2 with h5 | h5
              · exact HA.out j h h5
              · obtain rfl : j = k2 := by omega
                omega)
            clear hc h4 HA
            go_wp2_with fail
            go_roundw
            case rel => exact ⟨k2 + 1, by omega, by go_num, HA2.out, HM3.out⟩
            case measure => simp [intOf]; omega
        · have hke2 : k2 = bl := by omega
          subst hke2
          have HV2 : Hid (∀ v ∈ batches, v.1.length ≤ 300) := Lib.hid (fun v hv => by
            obtain ⟨j, hj, rfl⟩ := List.getElem_of_mem hv
            exact HA.out j hj (by have := HBL.out; omega))
          have HFF := Lib.hid (HR.out.2 (HF2.out HV1.out HV2.out))
          clear HA
          go_wp2_with fail
          go_ret
          exact ⟨HFF.out, MM2.out⟩
end Go.Proofs.YtekdnljincbghaaDoor
