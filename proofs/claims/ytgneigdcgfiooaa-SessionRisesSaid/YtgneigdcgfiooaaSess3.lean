/- The walks of the session laws' helpers: whether acts are too many, a table that is known. -/
import Derived.Test.YtgneigdcgfiooaaSess2
namespace Go.Proofs.Ytgneigdcgfiooaa
open Go Go.RowKit Go.Lib Go.MapKept

/-- An act: whether it keeps; client, number, code, text. -/
abbrev ActS := Bool × Int × Int × Int × ByteArray
def SeesA (w : World) (ao : Option Addr) (l : List ActS) : Prop :=
  ∀ j (h : j < l.length), ∃ b off, ao = some ⟨b, off, none⟩ ∧ w.cell? ⟨b, off + j * 5, none⟩ = some (.bool l[j].1) ∧ w.cell? ⟨b, off + j * 5 + 1, none⟩ = some (.int .u32 l[j].2.1) ∧
    w.cell? ⟨b, off + j * 5 + 2, none⟩ = some (.int .u32 l[j].2.2.1) ∧ w.cell? ⟨b, off + j * 5 + 3, none⟩ = some (.int .u8 l[j].2.2.2.1) ∧ w.cell? ⟨b, off + j * 5 + 4, none⟩ = some (.string l[j].2.2.2.2)
theorem SeesA.mod {S : List Nat} {w w' : World} {ao : Option Addr} {l : List ActS} (h : SeesA w ao l) (hm : Mod S w w') (hn : ∀ k, k ∈ S → ∀ a, ao = some a → a.block ≠ k) : SeesA w' ao l := by
  intro j hj
  obtain ⟨b, off, h1, h2, h3, h4, h5, h6⟩ := h j hj
  have hb : b ∉ S := fun hb => hn b hb _ h1 rfl
  exact ⟨b, off, h1, hm.cell h2 hb, hm.cell h3 hb, hm.cell h4 hb, hm.cell h5 hb, hm.cell h6 hb⟩
theorem SeesA.mod0 {w w' : World} {ao : Option Addr} {l : List ActS} (h : SeesA w ao l) (hm : Mod [] w w') : SeesA w' ao l := h.mod hm (by simp)

set_option maxRecDepth 100000 in
set_option maxHeartbeats 1000000 in
theorem great_any (ao : Option Addr) (len cap : Nat) (l : List ActS) (w : World) (hl : l.length = len) (hlen : len ≤ 9223372036854775807) (hs : SeesA w ao l) (hsz : ∀ x ∈ l, x.2.2.2.2.size ≤ 9223372036854775807) :
    Calls Try.prog 6 #[.slice ao len cap] w fun e w' => ∃ v, e = .returned (.bool v) ∧ Mod [] w w' := by
  subst hl
  have HS := Lib.hid hs
  have HZ := Lib.hid hsz
  clear hs hsz
  go_enter Try.func6, Try.ntmps6
  go_wp2
  go_loopw [3] (fun i wr => ∃ k : Nat, k ≤ l.length ∧ i = .int .i64 (k : Int) ∧ Mod [] w wr) (fun i _ => l.length - (intOf i).toNat)
  case atStart => exact ⟨0, Nat.zero_le _, rfl, Mod.refl _ _⟩
  case round =>
    obtain ⟨k, hk, rfl, hm⟩ := hrel
    have HM := Lib.hid hm
    by_cases hlt : k < l.length
    · by_cases h201 : k < 201
      · obtain ⟨b, off, rfl, hc0, hc1, hc2, hc3, hc4⟩ := (HS.out.mod0 hm) k hlt
        have hz := HZ.out l[k] (List.getElem_mem hlt)
        obtain ⟨⟨kp, ac, aq, cd, t⟩, hlk⟩ : ∃ p, l[k] = p := ⟨_, rfl⟩
        rw [hlk] at hc0 hc1 hc2 hc3 hc4 hz
        dsimp only at hc0 hc1 hc2 hc3 hc4 hz
        clear hlk hm
        by_cases hts : 100 < t.size
        · go_wp2
          go_ret
          exact ⟨.inr rfl, HM.out⟩
        · by_cases hcd : 3 < cd
          · go_wp2
            go_ret
            exact ⟨true, rfl, HM.out⟩
          · go_wp2
            go_roundw
            case rel => exact ⟨k + 1, by omega, by go_num, HM.out⟩
            case measure => simp [intOf]; omega
      · clear hm
        go_wp2
        go_ret
        exact ⟨_, rfl, HM.out⟩
    · have hke : k = l.length := by omega
      subst hke
      clear hm
      go_wp2
      go_ret
      exact ⟨_, rfl, HM.out⟩

theorem look_w (g b n : Nat) (f : Int → Option Ent) (c s cd wh : Int) (t : ByteArray) (w : World) (h : Tab w g b n f) (hv : lookF f c s = ((cd, t), wh)) :
    Calls Try.prog 10 #[.pointer (some ⟨g, 0, none⟩), .int .u32 c, .int .u32 s] w fun e w' =>
      e = .returned (.tuple #[.agg #[.int .u8 cd, .string t], .int .u8 wh]) ∧ Mod [] w w' := by
  have := look_any g b n f c s w h
  rw [hv] at this
  exact this

set_option maxRecDepth 100000 in
set_option maxHeartbeats 4000000 in
theorem wakes10_any (w : World) : Calls Try.prog 7 #[] w fun e w' => e = .returned (.bool true) ∧ Mod [] w w' := by
  have K1 : Hid (keepF (fun _ => none) 1 3 (0, ⟨#[120]⟩) = fun k => if k = 1 then some (3, 0, ⟨#[120]⟩) else none) := by show _ = _; unfold keepF; rw [if_pos ⟨by decide, rfl⟩]
  have K2 : Hid (keepN (fun _ => none) 0 1 3 = 1) := by show _ = _; rfl
  have L1 : Hid (lookF (fun k => if k = 1 then some (3, 0, ⟨#[120]⟩) else none) 1 3 = ((0, ⟨#[120]⟩), 1)) := by show _ = _; rfl
  have L2 : Hid (lookF (fun k => if k = 1 then some (3, 0, ⟨#[120]⟩) else none) 1 2 = ((3, ⟨#[]⟩), 2)) := by show _ = _; rfl
  have L3 : Hid (lookF (fun k => if k = 1 then some (3, 0, ⟨#[120]⟩) else none) 1 4 = ((0, ⟨#[]⟩), 0)) := by show _ = _; rfl
  go_enter Try.func7, Try.ntmps7
  go_wp2_with fail
  refine (new_any _).mono ?_
  rintro e w1 ⟨g, b, rfl, t1, m1, z1⟩
  have T1 := Lib.hid t1
  have M1 := Lib.hid m1
  have Z := Lib.hid z1
  clear t1 m1 z1
  go_wp2_with fail
  refine (look_w g b 0 _ 1 1 0 0 ⟨#[]⟩ _ T1.out rfl).mono ?_
  rintro e w2 ⟨rfl, m2⟩
  have T2 := Lib.hid (T1.out.mod0 m2)
  have M2 := Lib.hid (M1.out.trans' m2)
  clear m2 T1 M1
  go_wp2_with fail
  refine (keep_any g b 0 _ 1 3 0 ⟨#[120]⟩ _ (T2.out.mod0 (Mod.alloc _ _ _))).mono ?_
  rw [K1.out, K2.out]
  rintro e w3 ⟨⟨v, rfl⟩, t3, m3⟩
  have T3 := Lib.hid t3
  have M3 := Lib.hid ((M2.out.trans' (Mod.alloc [] w2 (.cells #[.int .u8 0, .string ⟨#[]⟩] 25))).fresh1 m3 Z.out)
  clear t3 m3 T2 M2
  go_wp2_with fail
  refine (look_w g b 1 _ 1 3 0 1 ⟨#[120]⟩ _ T3.out L1.out).mono ?_
  rintro e w4 ⟨rfl, m4⟩
  have T4 := Lib.hid (T3.out.mod0 m4)
  have M4 := Lib.hid (M3.out.trans' m4)
  clear m4 T3 M3
  go_wp2_with fail
  have ma := Mod.alloc [] w4 (.cells #[.int .u8 0, .string ⟨#[120]⟩] 25)
  refine (look_w g b 1 _ 1 2 3 2 ⟨#[]⟩ _ (T4.out.mod0 ma) L2.out).mono ?_
  rintro e w5 ⟨rfl, m5⟩
  have A1 : Hid (w5.cell? ⟨w4.heap.size, 1, none⟩ = some (.string ⟨#[120]⟩)) := m5.cell (by go_cell) (by simp)
  have T5 := Lib.hid ((T4.out.mod0 ma).mod0 m5)
  have M5 := Lib.hid ((M4.out.trans' ma).trans' m5)
  clear m5 T4 M4 ma
  go_wp2_with fail
  have ma := Mod.alloc [] w5 (.cells #[.int .u8 3, .string ⟨#[]⟩] 25)
  refine (look_w g b 1 _ 1 4 0 0 ⟨#[]⟩ _ (T5.out.mod0 ma) L3.out).mono ?_
  rintro e w6 ⟨rfl, m6⟩
  have A2 := Lib.hid (m6.cell (ma.cell A1.out (by simp)) (by simp))
  have B0 : Hid (w6.cell? ⟨w5.heap.size, 0, none⟩ = some (.int .u8 3)) := m6.cell (by go_cell) (by simp)
  have B1 : Hid (w6.cell? ⟨w5.heap.size, 1, none⟩ = some (.string ⟨#[]⟩)) := m6.cell (by go_cell) (by simp)
  have T6 := Lib.hid ((T5.out.mod0 ma).mod0 m6)
  have M6 := Lib.hid ((M5.out.trans' ma).trans' m6)
  clear m6 T5 M5 ma A1
  have a2 := A2.out
  have b0 := B0.out
  have b1 := B1.out
  have hl1 := World.block_lt_of_cell? w6 _ a2
  have hl2 := World.block_lt_of_cell? w6 _ b0
  go_wp2_with fail
  refine (tlen_any g b 1 _ _ (T6.out.mod0 (Mod.alloc _ _ _))).mono ?_
  rintro e w7 ⟨rfl, rfl⟩
  go_wp2
  go_ret
  exact ⟨rfl, M6.out.trans' (Mod.alloc _ _ _)⟩
end Go.Proofs.Ytgneigdcgfiooaa
