/- The walk of the session package: what is kept. -/
import Derived.Test.YtgneigdcgfiooaaSess
namespace Go.Proofs.Ytgneigdcgfiooaa
open Go Go.RowKit Go.Lib Go.MapKept

theorem mapV_at (f : Int → Option Ent) (c : Int) (x : Ent) : mapV (fun k => if k = c then some x else f k) (.int .u32 c) = some (entV x) := by
  show (if c = c then some x else f c).map entV = _
  rw [if_pos rfl]; rfl
theorem mapV_set (f : Int → Option Ent) (c : Int) (x : Ent) (k' : Value) (hk : k' ≠ .int .u32 c) : mapV (fun k => if k = c then some x else f k) k' = mapV f k' := by
  unfold mapV
  split
  · rename_i k
    have : k ≠ c := fun h => hk (by rw [h])
    simp [this]
  · rfl
def keepF (f : Int → Option Ent) (c s : Int) (r : Int × ByteArray) : Int → Option Ent :=
  if c ≠ 0 ∧ (lookF f c s).2 = 0 then (fun k => if k = c then some (s, r) else f k) else f
def keepN (f : Int → Option Ent) (n : Nat) (c s : Int) : Nat :=
  if c ≠ 0 ∧ (lookF f c s).2 = 0 then (if (f c).isSome then n else n + 1) else n

set_option maxRecDepth 100000 in
set_option maxHeartbeats 1000000 in
theorem keep_any (g b n : Nat) (f : Int → Option Ent) (c s cd : Int) (t : ByteArray) (w : World) (h : Tab w g b n f) :
    Calls Try.prog 9 #[.pointer (some ⟨g, 0, none⟩), .int .u32 c, .int .u32 s, .agg #[.int .u8 cd, .string t]] w fun e w' =>
      (∃ v, e = .returned v) ∧ Tab w' g b (keepN f n c s) (keepF f c s (cd, t)) ∧ Mod [b] w w' := by
  have H := Lib.hid h
  have HK : Hid (keepF f c s (cd, t) = if c ≠ 0 ∧ (lookF f c s).2 = 0 then (fun k => if k = c then some (s, cd, t) else f k) else f) := rfl
  have HN : Hid (keepN f n c s = if c ≠ 0 ∧ (lookF f c s).2 = 0 then (if (f c).isSome then n else n + 1) else n) := rfl
  clear h
  obtain ⟨⟨⟨cd0, t0⟩, what⟩, hlk⟩ : ∃ p, lookF f c s = p := ⟨_, rfl⟩
  have hk := HK.out
  have hn := HN.out
  rw [hlk] at hk hn
  dsimp only at hk hn
  clear HK HN
  go_enter Try.func9, Try.ntmps9
  go_wp2_with fail
  refine (look_any g b n f c s _ (H.out.mod0 (Mod.alloc _ _ _))).mono ?_
  rw [hlk]
  rintro e w1 ⟨rfl, m1⟩
  dsimp only
  have A0 : Hid (w1.cell? ⟨w.heap.size, 0, none⟩ = some (.int .u8 cd)) := m1.cell (by go_cell) (by simp)
  have A1 : Hid (w1.cell? ⟨w.heap.size, 1, none⟩ = some (.string t)) := m1.cell (by go_cell) (by simp)
  have M1 := Lib.hid ((Mod.alloc [] w (.cells #[.int .u8 cd, .string t] 25)).trans' m1)
  clear m1 hlk
  by_cases hc : c = 0
  · subst hc
    rw [if_neg (by simp)] at hk hn
    have HK := Lib.hid hk
    have HN := Lib.hid hn
    clear hk hn
    go_wp2
    go_end0
    rw [HK.out, HN.out]
    exact ⟨⟨_, rfl⟩, H.out.mod0 (M1.out.trans' (Mod.alloc _ _ _)), (M1.out.trans' (Mod.alloc _ _ _)).nil⟩
  · by_cases hw : what = 0
    · subst hw
      rw [if_pos ⟨hc, rfl⟩] at hk hn
      have HK := Lib.hid hk
      have HN := Lib.hid hn
      clear hk hn
      obtain ⟨nn, hnn⟩ : ∃ nn, (if (f c).isSome then n else n + 1) = nn := ⟨_, rfl⟩
      have HE : Hid ((if (mapV f (.int .u32 c)).isSome then n else n + 1) = nn) := by
        have e : (mapV f (.int .u32 c)).isSome = (f c).isSome := by show ((f c).map entV).isSome = _; cases f c <;> rfl
        show _ = _
        rw [e]; exact hnn
      have HNN := Lib.hid hnn
      clear hnn
      go_upto_region 3 with (fail)
      refine rest_start [b] 12 #[false, false, false, false, false, false, false, false, false, false, false, false] rfl (by kernel_rfl) (by kernel_rfl) ?_
      intro w2 m2
      have m3 := (M1.out.trans' (Mod.alloc [] w1 (.cells #[.int .u8 cd0, .string t0] 25))).trans' m2
      have mm := (Mod.alloc [] w1 (.cells #[.int .u8 cd0, .string t0] 25)).trans' m2
      have M3 := Lib.hid m3
      have A2 := Lib.hid (mm.cell A0.out (by simp))
      have A3 := Lib.hid (mm.cell A1.out (by simp))
      have H2 := Lib.hid (H.out.mod0 m3)
      have hbw : b < w.heap.size := by obtain ⟨gc, h1, h2, h3⟩ := H.out; exact h3.lt
      obtain ⟨gc, h1, h2, h3⟩ := H2.out
      have hgb := h3.cell_ne h1
      have hgcb := h3.cell_ne h2
      have E0 : Hid (w2.cell? ⟨g, 0, none⟩ = some (.pointer (some ⟨gc, 0, none⟩))) := by show _ = _; rw [cell_of_block h1]; rfl
      have E1 : Hid (w2.cell? ⟨gc, 0, none⟩ = some (.map (some b))) := by show _ = _; rw [cell_of_block h2]; rfl
      have E2 := Lib.hid h1
      have E3 := Lib.hid h2
      have E4 := Lib.hid h3
      have HD := Lib.hid (show entV (s, cd, t) = .agg #[.int .u32 s, .int .u8 cd, .string t] from rfl)
      clear h1 h2 h3 m2 m3 mm A0 A1 M1
      refine rest_got (i := 0) (v := ?v1) rfl (by kernel_rfl) (by kernel_rfl) (by kernel_rfl) (fun _ _ _ h => h) (by rfl) ?y1 ?r1
      case y1 => (intro w9q hSwq; clear hSwq; go_simp; with_reducible rfl)
      try simp only [Act.put, List.setIfInBounds_toArray, List.set_cons_zero, List.set_cons_succ]
      refine rest_got (i := 1) (v := ?v2) rfl (by kernel_rfl) (by kernel_rfl) (by kernel_rfl) (fun _ _ _ h => h) (by rfl) ?y2 ?r2
      case y2 => (intro w9q hSwq; clear hSwq; go_simp; with_reducible rfl)
      try simp only [Act.put, List.setIfInBounds_toArray, List.set_cons_zero, List.set_cons_succ]
      refine rest_got (i := 2) (v := ?v3) rfl (by kernel_rfl) (by kernel_rfl) (by kernel_rfl) (fun _ _ _ h => h) (by rfl) ?y3 ?r3
      case y3 => (intro w9q hSwq; clear hSwq; go_simp; with_reducible rfl)
      try simp only [Act.put, List.setIfInBounds_toArray, List.set_cons_zero, List.set_cons_succ]
      refine rest_got (i := 3) (v := ?v4) rfl (by kernel_rfl) (by kernel_rfl) (by kernel_rfl) (fun _ _ _ h => h) (by rfl) ?y4 ?r4
      case y4 => ((intro w9' hm9'; have hc9' := Mod.cell hm9' E0.out (by first | exact List.not_mem_nil | (simp; omega)); clear hm9'; go_simp; with_reducible rfl))
      try simp only [Act.put, List.setIfInBounds_toArray, List.set_cons_zero, List.set_cons_succ]
      refine rest_got (i := 4) (v := ?v5) rfl (by kernel_rfl) (by kernel_rfl) (by kernel_rfl) (fun _ _ _ h => h) (by rfl) ?y5 ?r5
      case y5 => (intro w9q hSwq; clear hSwq; go_simp; with_reducible rfl)
      try simp only [Act.put, List.setIfInBounds_toArray, List.set_cons_zero, List.set_cons_succ]
      refine rest_got (i := 5) (v := ?v6) rfl (by kernel_rfl) (by kernel_rfl) (by kernel_rfl) (fun _ _ _ h => h) (by rfl) ?y6 ?r6
      case y6 => (intro w9q hSwq; clear hSwq; go_simp; with_reducible rfl)
      try simp only [Act.put, List.setIfInBounds_toArray, List.set_cons_zero, List.set_cons_succ]
      refine rest_got (i := 6) (v := ?v7) rfl (by kernel_rfl) (by kernel_rfl) (by kernel_rfl) (fun _ _ _ h => h) (by rfl) ?y7 ?r7
      case y7 => ((intro w9' hm9'; have hc9' := Mod.cell hm9' E1.out (by first | exact List.not_mem_nil | (simp; omega)); clear hm9'; go_simp; with_reducible rfl))
      try simp only [Act.put, List.setIfInBounds_toArray, List.set_cons_zero, List.set_cons_succ]
      refine rest_got (i := 7) (v := ?v8) rfl (by kernel_rfl) (by kernel_rfl) (by kernel_rfl) (fun _ _ _ h => h) (by rfl) ?y8 ?r8
      case y8 => (intro w9q hSwq; clear hSwq; go_simp; with_reducible rfl)
      try simp only [Act.put, List.setIfInBounds_toArray, List.set_cons_zero, List.set_cons_succ]
      refine rest_got (i := 8) (v := ?v9) rfl (by kernel_rfl) (by kernel_rfl) (by kernel_rfl) (fun _ _ _ h => h) (by rfl) ?y9 ?r9
      case y9 => (intro w9q hSwq; clear hSwq; go_simp; with_reducible rfl)
      try simp only [Act.put, List.setIfInBounds_toArray, List.set_cons_zero, List.set_cons_succ]
      refine rest_got (i := 9) (v := ?v10) rfl (by kernel_rfl) (by kernel_rfl) (by kernel_rfl) (fun _ _ _ h => h) (by rfl) ?y10 ?r10
      case y10 => ((intro w9' hm9'; have hc9' := Mod.cell hm9' A2.out (by first | exact List.not_mem_nil | (simp; omega)); have hd9' := Mod.cell hm9' A3.out (by first | exact List.not_mem_nil | (simp; omega)); clear hm9'; go_simp; with_reducible rfl))
      try simp only [Act.put, List.setIfInBounds_toArray, List.set_cons_zero, List.set_cons_succ]
      refine rest_got (i := 10) (v := ?v11) rfl (by kernel_rfl) (by kernel_rfl) (by kernel_rfl) (fun _ _ _ h => h) (by rfl) ?y11 ?r11
      case y11 => (intro w9q hSwq; clear hSwq; go_simp; with_reducible rfl)
      try simp only [Act.put, List.setIfInBounds_toArray, List.set_cons_zero, List.set_cons_succ]
      refine rest_one (i := 11) (by kernel_rfl) rfl (by rfl) ?_
      go_wp2_with (first | (at_mapUpdate; refine wpl_update (k := .int .u32 c) (v := entV (s, cd, t)) _ _ _ _ E4.out Try.underlying48 Try.underlying23 rfl rfl rfl rfl (mapV (fun k => if k = c then some (s, cd, t) else f k)) (mapV_at f c (s, cd, t)) (fun k' hk' => mapV_set f c (s, cd, t) k' hk') nn HE.out ?_) | fail)
      intro w7 m7 H7
      have E5 := Lib.hid (m7.get E2.out (by simp; omega))
      have E6 := Lib.hid (m7.get E3.out (by simp; omega))
      have M7 := Lib.hid (M3.out.nil.trans' m7)
      go_wp2_with fail
      refine back_to (K1 := []) m7 (by simp) ?_
      clear m7
      refine rest_done (by kernel_rfl) ?_ _
      go_wp2
      go_end0
      rw [HK.out, HN.out]
      refine ⟨⟨_, rfl⟩, ⟨gc, E5.out, E6.out, ?_⟩, M7.out⟩
      rw [HNN.out]
      exact H7.out
    · rw [if_neg (by simp [hw])] at hk hn
      have hwb : (what == 0) = false := by simpa using hw
      have hcb : (c != 0) = true := by simpa using hc
      have HK := Lib.hid hk
      have HN := Lib.hid hn
      clear hk hn
      go_wp2
      go_end0
      rw [HK.out, HN.out]
      exact ⟨⟨_, rfl⟩, H.out.mod0 (M1.out.trans' (Mod.alloc _ _ _)), (M1.out.trans' (Mod.alloc _ _ _)).nil⟩
end Go.Proofs.Ytgneigdcgfiooaa
