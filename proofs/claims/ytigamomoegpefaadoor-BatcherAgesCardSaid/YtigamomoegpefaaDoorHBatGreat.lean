/- Acts in a row; the walk of the batcher laws' Great. -/
import Derived.Test.YtigamomoegpefaaDoorZ7
namespace Go.Proofs.YtigamomoegpefaaDoor
open Go Go.RowKit Go.Lib

/-- Acts that lie in a row. -/
abbrev Ab := Nat × Int × Cm
def SeesA (w : World) (ao : Option Addr) (l : List Ab) : Prop :=
  ∀ j (h : j < l.length), ∃ b off, ao = some ⟨b, off, none⟩ ∧ (w.cell? ⟨b, off + j * 9, none⟩ = some (.int .u8 (l[j].1 : Int)) ∧ w.cell? ⟨b, off + j * 9 + 1, none⟩ = some (.int .i64 l[j].2.1) ∧
    w.cell? ⟨b, off + j * 9 + 2, none⟩ = some (.int .u32 (l[j].2.2.1.client : Int)) ∧ w.cell? ⟨b, off + j * 9 + 3, none⟩ = some (.int .u32 (l[j].2.2.1.seq : Int)) ∧ w.cell? ⟨b, off + j * 9 + 4, none⟩ = some (.int .u8 (l[j].2.2.1.kind : Int)) ∧ w.cell? ⟨b, off + j * 9 + 5, none⟩ = some (.slice l[j].2.2.2.1 l[j].2.2.1.keys.length l[j].2.2.2.2) ∧
    w.cell? ⟨b, off + j * 9 + 6, none⟩ = some (.string l[j].2.2.1.old) ∧ w.cell? ⟨b, off + j * 9 + 7, none⟩ = some (.string l[j].2.2.1.fresh) ∧ w.cell? ⟨b, off + j * 9 + 8, none⟩ = some (.int .i64 l[j].2.2.1.n)) ∧ SeesT w l[j].2.2.2.1 l[j].2.2.1.keys ∧ Wf l[j].2.2.1
theorem SeesA.mod0 {w w' : World} {ao : Option Addr} {l : List Ab} (h : SeesA w ao l) (hm : Mod [] w w') : SeesA w' ao l := by
  intro j hj
  obtain ⟨b, off, h1, ⟨c0, c1, c2, c3, c4, c5, c6, c7, c8⟩, ht, hf⟩ := h j hj
  exact ⟨b, off, h1, ⟨hm.cell c0 (by simp), hm.cell c1 (by simp), hm.cell c2 (by simp), hm.cell c3 (by simp), hm.cell c4 (by simp), hm.cell c5 (by simp), hm.cell c6 (by simp), hm.cell c7 (by simp), hm.cell c8 (by simp)⟩, ht.mod0 hm, hf⟩

/-- What the test of great ones tells. -/
def Great19W (w : World) (n : Nat) (e : Ending) (w' : World) : Prop := ∃ t, e = .returned (.bool t) ∧ Mod [] w w' ∧ (t = false → n ≤ 200)
set_option maxRecDepth 100000 in
set_option maxHeartbeats 4000000 in
theorem great19_any (ao : Option Addr) (len cap : Nat) (l : List Ab) (w : World) (hl : l.length = len) (hs : SeesA w ao l) (hlen : len ≤ 9223372036854775807) :
    Calls Tryd.prog 8 #[.slice ao len cap] w (Great19W w len) := by
  subst hl
  have HS := Lib.hid hs
  clear hs
  by_cases hbig : 200 < l.length
  · have D1 : decide ((200 : Int) < (l.length : Int)) = true := decide_eq_true (by omega)
    go_enter Tryd.func8, Tryd.ntmps8
    go_wp2_with fail
    go_ret
    exact ⟨true, rfl, Mod.refl _ _, fun h => absurd h (by decide)⟩
  have D0 : decide ((200 : Int) < (l.length : Int)) = false := decide_eq_false (by omega)
  go_enter Tryd.func8, Tryd.ntmps8
  go_wp2_with fail
  go_loopw [3] (fun i wr => ∃ k : Nat, k ≤ l.length ∧ i = .int .i64 (k : Int) ∧ Mod [] w wr) (fun i _ => l.length - (intOf i).toNat)
  case atStart => exact ⟨0, Nat.zero_le _, rfl, Mod.refl _ _⟩
  case round =>
    obtain ⟨k, hk, rfl, hm⟩ := hrel
    have HM := Lib.hid hm
    clear hm D0
    by_cases hlt : k < l.length
    · obtain ⟨b, off, rfl, ⟨-, -, c0, c1, c2, c3, c4, c5, c6⟩, ht, hf⟩ := (HS.out.mod0 HM.out) k hlt
      obtain ⟨⟨dd, NN, ⟨client, seq, kind, keys, old, fresh, n⟩, kao, kcap⟩, hx⟩ : ∃ x, l[k] = x := ⟨_, rfl⟩
      rw [hx] at c0 c1 c2 c3 c4 c5 c6 ht hf
      dsimp only at c0 c1 c2 c3 c4 c5 c6 ht hf
      obtain ⟨-, -, -, f4, f5, f6, f7, -, -⟩ := hf
      dsimp only at f4 f5 f6 f7
      have F5 := Lib.hid f5
      clear hx f5
      obtain ⟨w2, hw2', M2, z2, q0, q1, q2, q3, q4, q5, q6⟩ := box_facts (⟨client, seq, kind, keys, old, fresh, n⟩, kao, kcap) wr
      dsimp only at hw2' q0 q1 q2 q3 q4 q5 q6
      have HM2 := Lib.hid (HM.out.trans' M2)
      have HT := Lib.hid (ht.mod0 M2)
      clear ht M2
      by_cases h3 : 30 < keys.length
      · have D3 : decide ((30 : Int) < (keys.length : Int)) = true := decide_eq_true (by omega)
        go_wp2_with fail
        go_ret
        exact ⟨true, rfl, HM2.out, fun h => absurd h (by decide)⟩
      have D3 : decide ((30 : Int) < (keys.length : Int)) = false := decide_eq_false (by omega)
      by_cases h1 : 100 < old.size
      · have D1 : decide ((100 : Int) < (old.size : Int)) = true := decide_eq_true (by omega)
        go_wp2_with fail
        go_ret
        exact ⟨true, rfl, HM2.out, fun h => absurd h (by decide)⟩
      have D1 : decide ((100 : Int) < (old.size : Int)) = false := decide_eq_false (by omega)
      by_cases h2 : 100 < fresh.size
      · have D2 : decide ((100 : Int) < (fresh.size : Int)) = true := decide_eq_true (by omega)
        go_wp2_with fail
        go_ret
        exact ⟨true, rfl, HM2.out, fun h => absurd h (by decide)⟩
      have D2 : decide ((100 : Int) < (fresh.size : Int)) = false := decide_eq_false (by omega)
      go_wp2_with fail
      clear hw2' D1 D2 D3 c0 c1 c2 c3 c4 c5 c6
      go_loopw [5] (fun i wq => ∃ p : Nat, p ≤ keys.length ∧ i = .int .i64 (p : Int) ∧ wq = w2) (fun i _ => keys.length - (intOf i).toNat)
      case atStart => exact ⟨0, Nat.zero_le _, rfl, rfl⟩
      case round =>
        obtain ⟨p, hp, rfl, rfl⟩ := hrel
        by_cases hpt : p < keys.length
        · obtain ⟨b2, off2, rfl, p0⟩ := HT.out p hpt
          have f5 := F5.out _ (List.getElem_mem hpt)
          obtain ⟨t, ht⟩ : ∃ t, keys[p] = t := ⟨_, rfl⟩
          rw [ht] at p0 f5
          clear ht
          by_cases h5 : 100 < t.size
          · have D1 : decide ((100 : Int) < (t.size : Int)) = true := decide_eq_true (by omega)
            go_wp2_with fail
            go_ret
            exact ⟨true, rfl, HM2.out, fun h => absurd h (by decide)⟩
          · have D1 : decide ((100 : Int) < (t.size : Int)) = false := decide_eq_false (by omega)
            go_wp2_with fail
            go_roundw
            case rel => exact ⟨p + 1, by omega, by go_num, by first | rfl | trivial⟩
            case measure => simp [intOf]; omega
        · have hpe : p = keys.length := by omega
          subst hpe
          go_wp2_with fail
          go_roundw
          case rel => exact ⟨k + 1, by omega, by go_num, HM2.out⟩
          case measure => simp [intOf]; omega
    · have hke : k = l.length := by omega
      subst hke
      go_wp2_with fail
      go_ret
      exact ⟨false, rfl, HM.out, fun _ => by omega⟩


/-- What the laws hold of an act in a row. -/
theorem SeesA.act {w : World} {ao : Option Addr} {l : List Ab} (h : SeesA w ao l) {j : Nat} (hj : j < l.length) : ∃ b off, ao = some ⟨b, off, none⟩ ∧ ∀ w', Mod [] w w' →
    w'.cell? ⟨b, off + j * 9, none⟩ = some (.int .u8 (l[j].1 : Int)) ∧ w'.cell? ⟨b, off + j * 9 + 1, none⟩ = some (.int .i64 l[j].2.1) ∧
    w'.cell? ⟨b, off + j * 9 + 2, none⟩ = some (.int .u32 (l[j].2.2.1.client : Int)) ∧ w'.cell? ⟨b, off + j * 9 + 3, none⟩ = some (.int .u32 (l[j].2.2.1.seq : Int)) ∧ w'.cell? ⟨b, off + j * 9 + 4, none⟩ = some (.int .u8 (l[j].2.2.1.kind : Int)) ∧ w'.cell? ⟨b, off + j * 9 + 5, none⟩ = some (.slice l[j].2.2.2.1 l[j].2.2.1.keys.length l[j].2.2.2.2) ∧
    w'.cell? ⟨b, off + j * 9 + 6, none⟩ = some (.string l[j].2.2.1.old) ∧ w'.cell? ⟨b, off + j * 9 + 7, none⟩ = some (.string l[j].2.2.1.fresh) ∧ w'.cell? ⟨b, off + j * 9 + 8, none⟩ = some (.int .i64 l[j].2.2.1.n) := by
  obtain ⟨b, off, h1, _⟩ := h j hj
  refine ⟨b, off, h1, fun w' m => ?_⟩
  obtain ⟨b', off', h1', h2, _⟩ := (h.mod0 m) j hj
  rw [h1] at h1'
  cases h1'
  exact h2

end Go.Proofs.YtigamomoegpefaaDoor
