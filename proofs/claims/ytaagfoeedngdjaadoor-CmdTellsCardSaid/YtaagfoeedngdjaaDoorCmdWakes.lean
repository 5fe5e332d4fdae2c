/- The walk of the command laws' wakes. -/
import Derived.Test.YtaagfoeedngdjaaDoorCmd13
import Derived.Test.YtaagfoeedngdjaaDoorCmdLaw2
namespace Go.Proofs.YtaagfoeedngdjaaDoor
open Go Go.RowKit Go.Lib

theorem Own.cap_le {w : World} {e : TypeId} {sz : Nat} {ao : Option Addr} {n cap : Nat} {xs : List Value} (h : Own w e sz ao n cap xs) : cap ≤ maxLen := by
  rcases h.2 with ⟨_, _, rfl⟩ | ⟨g, cur, fz, _, _, _, _, h, _⟩
  · unfold maxLen; omega
  · exact h
def knownC : Cd := ⟨1, 1, 1, [⟨#[107]⟩], ⟨#[]⟩, ⟨#[120]⟩, 0⟩
theorem knownC_may : May knownC := by decide +kernel
theorem knownC_wf : Wf knownC := ⟨by decide, by decide, by decide, by decide, fun t ht => by simp [knownC] at ht; subst ht; decide, by decide, by decide, by decide, by decide⟩
theorem knownC_small : Small knownC := ⟨by decide, fun t ht => by simp [knownC] at ht; subst ht; decide, by decide, by decide⟩
theorem zeroC_no : ¬ May zeroC := by decide +kernel
theorem known_batch (ko : Option Addr) (kc : Nat) : batchR [(knownC, ko, kc)] = ([1, 1, 1, 1, 1, 1, 107, 0, 1, 120, 0], 0) := by
  have h : BatchOk [(knownC, ko, kc)] := ⟨by simp, fun c hc => by simp at hc; subst hc; exact knownC_may⟩
  rw [show batchR [(knownC, ko, kc)] = (batchB [(knownC, ko, kc)], 0) from if_pos h]
  have : batchB [(knownC, ko, kc)] = enc7 1 ++ (oneB knownC ++ []) := rfl
  rw [this]
  decide +kernel
theorem known_parse : parseR [1, 1, 1, 1, 1, 1, 107, 0, 1, 120, 0] = ([knownC], 0) := by decide +kernel

/-- The known command lies in these cells. -/
def KnownAt (w : World) (b ko : Nat) : Prop := w.cell? ⟨b, 0, none⟩ = some (.int .u32 1) ∧ w.cell? ⟨b, 1, none⟩ = some (.int .u32 1) ∧ w.cell? ⟨b, 2, none⟩ = some (.int .u8 1) ∧ w.cell? ⟨b, 3, none⟩ = some (.slice (some ⟨ko, 0, none⟩) 1 1) ∧
  w.cell? ⟨b, 4, none⟩ = some (.string ⟨#[]⟩) ∧ w.cell? ⟨b, 5, none⟩ = some (.string ⟨#[120]⟩) ∧ w.cell? ⟨b, 6, none⟩ = some (.int .i64 0) ∧ w.cell? ⟨ko, 0, none⟩ = some (.string ⟨#[107]⟩)
theorem KnownAt.mod0 {w w' : World} {b ko : Nat} (h : KnownAt w b ko) (m : Mod [] w w') : KnownAt w' b ko := by
  obtain ⟨h0, h1, h2, h3, h4, h5, h6, h7⟩ := h
  exact ⟨m.cell h0 List.not_mem_nil, m.cell h1 List.not_mem_nil, m.cell h2 List.not_mem_nil, m.cell h3 List.not_mem_nil, m.cell h4 List.not_mem_nil, m.cell h5 List.not_mem_nil, m.cell h6 List.not_mem_nil, m.cell h7 List.not_mem_nil⟩
theorem KnownAt.keys {w : World} {b ko : Nat} (h : KnownAt w b ko) : SeesT w (some ⟨ko, 0, none⟩) knownC.keys := by
  intro j hj
  have : j = 0 := by have h1 : j < 1 := hj; omega
  subst this
  exact ⟨ko, 0, rfl, h.2.2.2.2.2.2.2⟩
theorem KnownAt.sees {w : World} {b ko : Nat} (h : KnownAt w b ko) : SeesC w (some ⟨b, 0, none⟩) [(knownC, some ⟨ko, 0, none⟩, 1)] := by
  have hk := h.keys
  obtain ⟨h0, h1, h2, h3, h4, h5, h6, h7⟩ := h
  intro j hj
  have : j = 0 := by have h1 : j < 1 := hj; omega
  subst this
  exact ⟨b, 0, rfl, h0, h1, h2, h3, h4, h5, h6, hk, knownC_wf⟩
theorem known_world (w : World) : ∃ w1, ((w.alloc (.cells #[.string ⟨#[107]⟩] 9)).alloc (.cells #[.int .u32 1, .int .u32 1, .int .u8 1, .slice (some ⟨w.heap.size, 0, none⟩) 1 1, .string ⟨#[]⟩, .string ⟨#[120]⟩, .int .i64 0] 36)).alloc (.cells #[.int .u32 1, .int .u32 1, .int .u8 1, .slice (some ⟨w.heap.size, 0, none⟩) 1 1, .string ⟨#[]⟩, .string ⟨#[120]⟩, .int .i64 0] 36) = w1 ∧
    Mod [] w w1 ∧ KnownAt w1 (w.heap.size + 1) w.heap.size ∧ KnownAt w1 (w.heap.size + 1 + 1) w.heap.size := by
  have m1 := Mod.alloc [] w (.cells #[.string ⟨#[107]⟩] 9)
  have b1 := heap_alloc_new w (.cells #[.string ⟨#[107]⟩] 9)
  have z1 : (w.alloc (.cells #[.string ⟨#[107]⟩] 9)).heap.size = w.heap.size + 1 := by simp
  generalize w.alloc (.cells #[.string ⟨#[107]⟩] 9) = v1 at *
  have m2 := Mod.alloc [] v1 (.cells #[.int .u32 1, .int .u32 1, .int .u8 1, .slice (some ⟨w.heap.size, 0, none⟩) 1 1, .string ⟨#[]⟩, .string ⟨#[120]⟩, .int .i64 0] 36)
  have b2 := heap_alloc_new v1 (.cells #[.int .u32 1, .int .u32 1, .int .u8 1, .slice (some ⟨w.heap.size, 0, none⟩) 1 1, .string ⟨#[]⟩, .string ⟨#[120]⟩, .int .i64 0] 36)
  have z2 : (v1.alloc (.cells #[.int .u32 1, .int .u32 1, .int .u8 1, .slice (some ⟨w.heap.size, 0, none⟩) 1 1, .string ⟨#[]⟩, .string ⟨#[120]⟩, .int .i64 0] 36)).heap.size = w.heap.size + 1 + 1 := by simp [z1]
  generalize v1.alloc (.cells #[.int .u32 1, .int .u32 1, .int .u8 1, .slice (some ⟨w.heap.size, 0, none⟩) 1 1, .string ⟨#[]⟩, .string ⟨#[120]⟩, .int .i64 0] 36) = v2 at *
  have m3 := Mod.alloc [] v2 (.cells #[.int .u32 1, .int .u32 1, .int .u8 1, .slice (some ⟨w.heap.size, 0, none⟩) 1 1, .string ⟨#[]⟩, .string ⟨#[120]⟩, .int .i64 0] 36)
  have b3 := heap_alloc_new v2 (.cells #[.int .u32 1, .int .u32 1, .int .u8 1, .slice (some ⟨w.heap.size, 0, none⟩) 1 1, .string ⟨#[]⟩, .string ⟨#[120]⟩, .int .i64 0] 36)
  rw [z1] at b2
  rw [z2] at b3
  have k0 := cell_of_block (i := 0) ((m2.trans' m3).get b1 List.not_mem_nil)
  have c2 := m3.get b2 List.not_mem_nil
  exact ⟨_, rfl, (m1.trans' m2).trans' m3, ⟨cell_of_block c2, cell_of_block c2, cell_of_block c2, cell_of_block c2, cell_of_block c2, cell_of_block c2, cell_of_block c2, k0⟩,
    ⟨cell_of_block b3, cell_of_block b3, cell_of_block b3, cell_of_block b3, cell_of_block b3, cell_of_block b3, cell_of_block b3, k0⟩⟩

set_option maxRecDepth 100000 in
set_option maxHeartbeats 4000000 in
theorem wakes08_any (w : World) (ht : Cnt w) : Calls Tryd.prog 7 #[] w fun e w' => e = .returned (.bool true) ∧ Mod [] w w' := by
  obtain ⟨w1, hw1, m1, ka, kb⟩ := known_world w
  have HT := Lib.hid (ht.mod0 m1)
  have M1 := Lib.hid m1
  have KA := Lib.hid ka
  have HB := Lib.hid (batch_any (some ⟨w.heap.size + 1 + 1, 0, none⟩) 1 1 [(knownC, some ⟨w.heap.size, 0, none⟩, 1)] w1 rfl kb.sees (by omega) (fun c hc => by simp at hc; subst hc; exact knownC_small) HT.out)
  obtain ⟨q0, q1, q2, q3, q4, q5, q6, -⟩ := ka
  clear ht m1 kb
  go_enter Tryd.func7, Tryd.ntmps7
  go_wp2_with fail
  refine HB.out.mono ?_
  rintro e w2 ⟨a2, k2, c2, he, hk2, o2, m2, n2⟩
  rw [known_batch] at he hk2 o2
  dsimp only at he hk2 o2
  subst he
  have hk : k2 = 11 := hk2.symm
  subst hk
  have M2 := Lib.hid (M1.out.trans' m2)
  have O2 := Lib.hid o2
  have K2 := Lib.hid (KA.out.mod0 m2)
  have HP := Lib.hid (parse_any a2 11 c2 _ w2 hk2 (Own.le o2) (by have := Own.cap_le o2; unfold maxLen at this; omega) o2.sees (HT.out.mod0 m2))
  have HT2 := Lib.hid (HT.out.mod0 m2)
  clear o2 m2 n2 hk2 HB hw1 q0 q1 q2 q3 q4 q5 q6 M1 KA HT
  go_wp2_with fail
  refine HP.out.mono ?_
  rintro e w3 ⟨a3, c3, out, he, ho, hs, m3⟩
  rw [known_parse] at he ho
  dsimp only at he ho
  subst he
  obtain ⟨x, rfl⟩ : ∃ x, out = [x] := by
    cases out with
    | nil => simp at ho
    | cons x r => cases r with
      | nil => exact ⟨x, rfl⟩
      | cons y r => simp at ho
  obtain ⟨cx, ko, kc⟩ := x
  have hcx : cx = knownC := by simpa using ho
  subst hcx
  obtain ⟨b, off, rfl, p0, p1, p2, p3, p4, p5, p6, pt, pf⟩ := hs 0 (by simp)
  rw [Nat.zero_mul, Nat.add_zero] at p0 p1 p2 p3 p4 p5 p6
  have PT := Lib.hid pt
  have K3 := Lib.hid (K2.out.mod0 m3)
  have O3 := Lib.hid (OwnB.mod0 O2.out m3)
  have HT3 := Lib.hid (HT2.out.mod0 m3)
  have M3 := Lib.hid (M2.out.trans' m3)
  have P3 : Hid (w3.cell? ⟨b, off, none⟩ = some (.int .u32 1) ∧ w3.cell? ⟨b, off + 1, none⟩ = some (.int .u32 1) ∧ w3.cell? ⟨b, off + 2, none⟩ = some (.int .u8 1) ∧ w3.cell? ⟨b, off + 3, none⟩ = some (.slice ko 1 kc) ∧ w3.cell? ⟨b, off + 4, none⟩ = some (.string ⟨#[]⟩) ∧ w3.cell? ⟨b, off + 5, none⟩ = some (.string ⟨#[120]⟩) ∧ w3.cell? ⟨b, off + 6, none⟩ = some (.int .i64 0)) :=
    Lib.hid ⟨p0, p1, p2, p3, p4, p5, p6⟩
  clear ho hs m3 K2 O2 HT2 M2 HP p0 p1 p2 p3 p4 p5 p6 pt pf
  go_upto_region 4 with (fail)
  refine rest_start [] 34 #[false, false, false, false, false, false, false, false, false, false, false, false, false, false, false, false, false, false, false, false, false, false, false, false, false, false, false, false, false, false, false, false, false, false] rfl (by kernel_rfl) (by kernel_rfl) ?_
  intro w4 m4
  have LA : Hid (∀ w', Mod [] w4 w' → KnownAt w' (w.heap.size + 1) w.heap.size) := Lib.hid (fun w' m => K3.out.mod0 (m4.trans' m))
  have LA7 : Hid (∀ w', Mod [] w4 w' → w'.cell? ⟨w.heap.size + 1, 0, none⟩ = some (.int .u32 1) ∧ w'.cell? ⟨w.heap.size + 1, 1, none⟩ = some (.int .u32 1) ∧ w'.cell? ⟨w.heap.size + 1, 2, none⟩ = some (.int .u8 1) ∧ w'.cell? ⟨w.heap.size + 1, 3, none⟩ = some (.slice (some ⟨w.heap.size, 0, none⟩) 1 1) ∧
    w'.cell? ⟨w.heap.size + 1, 4, none⟩ = some (.string ⟨#[]⟩) ∧ w'.cell? ⟨w.heap.size + 1, 5, none⟩ = some (.string ⟨#[120]⟩) ∧ w'.cell? ⟨w.heap.size + 1, 6, none⟩ = some (.int .i64 0)) :=
    Lib.hid (fun w' m => by obtain ⟨h0, h1, h2, h3, h4, h5, h6, -⟩ := LA.out w' m; exact ⟨h0, h1, h2, h3, h4, h5, h6⟩)
  have O4 := Lib.hid (OwnB.mod0 O3.out m4)
  have M4 := Lib.hid (M3.out.trans' m4)
  have HC := Lib.hid (check_any (knownC, some ⟨w.heap.size, 0, none⟩, 1) w4 knownC_wf (LA.out w4 (Mod.refl _ _)).keys (HT3.out.mod0 m4))
  rw [if_pos knownC_may] at HC
  have HT4 := Lib.hid (HT3.out.mod0 m4)
  have PT4 := Lib.hid (PT.out.mod0 m4)
  have P4 : Hid (∀ w', Mod [] w4 w' → w'.cell? ⟨b, off, none⟩ = some (.int .u32 1) ∧ w'.cell? ⟨b, off + 1, none⟩ = some (.int .u32 1) ∧ w'.cell? ⟨b, off + 2, none⟩ = some (.int .u8 1) ∧ w'.cell? ⟨b, off + 3, none⟩ = some (.slice ko 1 kc) ∧ w'.cell? ⟨b, off + 4, none⟩ = some (.string ⟨#[]⟩) ∧ w'.cell? ⟨b, off + 5, none⟩ = some (.string ⟨#[120]⟩) ∧ w'.cell? ⟨b, off + 6, none⟩ = some (.int .i64 0)) :=
    Lib.hid (fun w' m => by
      obtain ⟨h0, h1, h2, h3, h4, h5, h6⟩ := P3.out
      have mm := m4.trans' m
      exact ⟨mm.cell h0 List.not_mem_nil, mm.cell h1 List.not_mem_nil, mm.cell h2 List.not_mem_nil, mm.cell h3 List.not_mem_nil, mm.cell h4 List.not_mem_nil, mm.cell h5 List.not_mem_nil, mm.cell h6 List.not_mem_nil⟩)
  clear m4 K3 O3 M3 HT3 PT P3
  refine rest_got (i := 0) (v := ?v1) rfl (by kernel_rfl) (by kernel_rfl) (by kernel_rfl) (fun _ _ _ h => h) (by rfl) ?y1 ?r1
  case y1 => ((intro w9' hm9'; obtain ⟨hc0', hc1', hc2', hc3', hc4', hc5', hc6'⟩ := LA7.out w9' hm9'; clear hm9'; go_simp; with_reducible rfl))
  try simp only [Act.put, List.setIfInBounds_toArray, List.set_cons_zero, List.set_cons_succ]
  refine rest_one (i := 1) (by kernel_rfl) rfl (by rfl) ?_
  go_wp2_with fail
  refine HC.out.mono ?_
  rintro e w5 ⟨rfl, m5⟩
  go_wp2_with fail
  refine back_to (K1 := []) m5 (by simp) ?_
  have LA5 : Hid (∀ w', Mod [] w5 w' → w'.cell? ⟨w.heap.size + 1, 0, none⟩ = some (.int .u32 1) ∧ w'.cell? ⟨w.heap.size + 1, 1, none⟩ = some (.int .u32 1) ∧ w'.cell? ⟨w.heap.size + 1, 2, none⟩ = some (.int .u8 1) ∧ w'.cell? ⟨w.heap.size + 1, 3, none⟩ = some (.slice (some ⟨w.heap.size, 0, none⟩) 1 1) ∧
    w'.cell? ⟨w.heap.size + 1, 4, none⟩ = some (.string ⟨#[]⟩) ∧ w'.cell? ⟨w.heap.size + 1, 5, none⟩ = some (.string ⟨#[120]⟩) ∧ w'.cell? ⟨w.heap.size + 1, 6, none⟩ = some (.int .i64 0)) := Lib.hid (fun w' m => LA7.out w' (m5.trans' m))
  have P5 := Lib.hid (fun w' (m : Mod [] w5 w') => P4.out w' (m5.trans' m))
  have O5 := Lib.hid (OwnB.mod0 O4.out m5)
  have M5 := Lib.hid (M4.out.trans' m5)
  have HT5 := Lib.hid (HT4.out.mod0 m5)
  have HS := Lib.hid (sameRef_any (knownC, ko, kc) (knownC, some ⟨w.heap.size, 0, none⟩, 1) w5 knownC_wf knownC_wf (PT4.out.mod0 m5) (LA.out w5 m5).keys)
  rw [decide_eq_true ((same_iff knownC knownC).2 rfl)] at HS
  clear m5 LA7 P4 O4 M4 HT4 HC PT4
  refine rest_got (i := 2) (v := ?v2) rfl (by kernel_rfl) (by kernel_rfl) (by kernel_rfl) (fun _ _ _ h => h) (by rfl) ?y2 ?r2
  case y2 => (intro w9q hSwq; clear hSwq; go_simp; with_reducible rfl)
  try simp only [Act.put, List.setIfInBounds_toArray, List.set_cons_zero, List.set_cons_succ]
  refine rest_got (i := 3) (v := ?v3) rfl (by kernel_rfl) (by kernel_rfl) (by kernel_rfl) (fun _ _ _ h => h) (by rfl) ?y3 ?r3
  case y3 => (intro w9q hSwq; clear hSwq; go_simp; with_reducible rfl)
  try simp only [Act.put, List.setIfInBounds_toArray, List.set_cons_zero, List.set_cons_succ]
  refine rest_got (i := 4) (v := ?v4) rfl (by kernel_rfl) (by kernel_rfl) (by kernel_rfl) (fun _ _ _ h => h) (by rfl) ?y4 ?r4
  case y4 => (intro w9q hSwq; clear hSwq; go_simp; with_reducible rfl)
  try simp only [Act.put, List.setIfInBounds_toArray, List.set_cons_zero, List.set_cons_succ]
  refine rest_got (i := 5) (v := ?v5) rfl (by kernel_rfl) (by kernel_rfl) (by kernel_rfl) (fun _ _ _ h => h) (by rfl) ?y5 ?r5
  case y5 => (intro w9q hSwq; clear hSwq; go_simp; with_reducible rfl)
  try simp only [Act.put, List.setIfInBounds_toArray, List.set_cons_zero, List.set_cons_succ]
  refine rest_got (i := 6) (v := ?v6) rfl (by kernel_rfl) (by kernel_rfl) (by kernel_rfl) (fun _ _ _ h => h) (by rfl) ?y6 ?r6
  case y6 => (intro w9q hSwq; clear hSwq; go_simp; with_reducible rfl)
  try simp only [Act.put, List.setIfInBounds_toArray, List.set_cons_zero, List.set_cons_succ]
  refine rest_got (i := 7) (v := ?v7) rfl (by kernel_rfl) (by kernel_rfl) (by kernel_rfl) (fun _ _ _ h => h) (by rfl) ?y7 ?r7
  case y7 => (intro w9q hSwq; clear hSwq; go_simp; with_reducible rfl)
  try simp only [Act.put, List.setIfInBounds_toArray, List.set_cons_zero, List.set_cons_succ]
  refine rest_got (i := 8) (v := ?v8) rfl (by kernel_rfl) (by kernel_rfl) (by kernel_rfl) (fun _ _ _ h => h) (by rfl) ?y8 ?r8
  case y8 => (intro w9q hSwq; clear hSwq; go_simp; with_reducible rfl)
  try simp only [Act.put, List.setIfInBounds_toArray, List.set_cons_zero, List.set_cons_succ]
  refine rest_got (i := 9) (v := ?v9) rfl (by kernel_rfl) (by kernel_rfl) (by kernel_rfl) (fun _ _ _ h => h) (by rfl) ?y9 ?r9
  case y9 => ((intro w9' hm9'; refine Eq.trans (reads_str _ _ _ _ 5 Tryd.underlying23 Tryd.underlying5 Tryd.underlying9 _ _ _ _ rfl (by first | rfl | simp) O5.out.sees (by first | (intro k _ hk; exact (List.not_mem_nil hk)) | simp) w9' hm9') ?_; with_reducible rfl))
  try simp only [Act.put, List.setIfInBounds_toArray, List.set_cons_zero, List.set_cons_succ]
  refine rest_got (i := 10) (v := ?v10) rfl (by kernel_rfl) (by kernel_rfl) (by kernel_rfl) (fun _ _ _ h => h) (by rfl) ?y10 ?r10
  case y10 => ((intro w9' hm9'; refine Eq.trans (reads_eqs w9' _ _ _ _ _ rfl rfl) ?_; refine Eq.trans (congrArg (fun b => Result.ok (Next.value (Value.bool b)) w9') (decide_eq_true rfl)) ?_; with_reducible rfl))
  try simp only [Act.put, List.setIfInBounds_toArray, List.set_cons_zero, List.set_cons_succ]
  refine rest_got (i := 11) (v := ?v11) rfl (by kernel_rfl) (by kernel_rfl) (by kernel_rfl) (fun _ _ _ h => h) (by rfl) ?y11 ?r11
  case y11 => (intro w9q hSwq; clear hSwq; go_simp; with_reducible rfl)
  try simp only [Act.put, List.setIfInBounds_toArray, List.set_cons_zero, List.set_cons_succ]
  refine rest_got (i := 12) (v := ?v12) rfl (by kernel_rfl) (by kernel_rfl) (by kernel_rfl) (fun _ _ _ h => h) (by rfl) ?y12 ?r12
  case y12 => (intro w9q hSwq; clear hSwq; go_simp; with_reducible rfl)
  try simp only [Act.put, List.setIfInBounds_toArray, List.set_cons_zero, List.set_cons_succ]
  refine rest_got (i := 13) (v := ?v13) rfl (by kernel_rfl) (by kernel_rfl) (by kernel_rfl) (fun _ _ _ h => h) (by rfl) ?y13 ?r13
  case y13 => (intro w9q hSwq; clear hSwq; go_simp; with_reducible rfl)
  try simp only [Act.put, List.setIfInBounds_toArray, List.set_cons_zero, List.set_cons_succ]
  refine rest_got (i := 14) (v := ?v14) rfl (by kernel_rfl) (by kernel_rfl) (by kernel_rfl) (fun _ _ _ h => h) (by rfl) ?y14 ?r14
  case y14 => (intro w9q hSwq; clear hSwq; go_simp; with_reducible rfl)
  try simp only [Act.put, List.setIfInBounds_toArray, List.set_cons_zero, List.set_cons_succ]
  refine rest_got (i := 15) (v := ?v15) rfl (by kernel_rfl) (by kernel_rfl) (by kernel_rfl) (fun _ _ _ h => h) (by rfl) ?y15 ?r15
  case y15 => (intro w9q hSwq; clear hSwq; go_simp; with_reducible rfl)
  try simp only [Act.put, List.setIfInBounds_toArray, List.set_cons_zero, List.set_cons_succ]
  refine rest_got (i := 16) (v := ?v16) rfl (by kernel_rfl) (by kernel_rfl) (by kernel_rfl) (fun _ _ _ h => h) (by rfl) ?y16 ?r16
  case y16 => (intro w9q hSwq; clear hSwq; go_simp; with_reducible rfl)
  try simp only [Act.put, List.setIfInBounds_toArray, List.set_cons_zero, List.set_cons_succ]
  refine rest_got (i := 17) (v := ?v17) rfl (by kernel_rfl) (by kernel_rfl) (by kernel_rfl) (fun _ _ _ h => h) (by rfl) ?y17 ?r17
  case y17 => (intro w9q hSwq; clear hSwq; go_simp; with_reducible rfl)
  try simp only [Act.put, List.setIfInBounds_toArray, List.set_cons_zero, List.set_cons_succ]
  refine rest_got (i := 18) (v := ?v18) rfl (by kernel_rfl) (by kernel_rfl) (by kernel_rfl) (fun _ _ _ h => h) (by rfl) ?y18 ?r18
  case y18 => (intro w9q hSwq; clear hSwq; go_simp; with_reducible rfl)
  try simp only [Act.put, List.setIfInBounds_toArray, List.set_cons_zero, List.set_cons_succ]
  refine rest_got (i := 19) (v := ?v19) rfl (by kernel_rfl) (by kernel_rfl) (by kernel_rfl) (fun _ _ _ h => h) (by rfl) ?y19 ?r19
  case y19 => (intro w9q hSwq; clear hSwq; go_simp; with_reducible rfl)
  try simp only [Act.put, List.setIfInBounds_toArray, List.set_cons_zero, List.set_cons_succ]
  refine rest_got (i := 20) (v := ?v20) rfl (by kernel_rfl) (by kernel_rfl) (by kernel_rfl) (fun _ _ _ h => h) (by rfl) ?y20 ?r20
  case y20 => (intro w9q hSwq; clear hSwq; go_simp; with_reducible rfl)
  try simp only [Act.put, List.setIfInBounds_toArray, List.set_cons_zero, List.set_cons_succ]
  refine rest_got (i := 21) (v := ?v21) rfl (by kernel_rfl) (by kernel_rfl) (by kernel_rfl) (fun _ _ _ h => h) (by rfl) ?y21 ?r21
  case y21 => (intro w9q hSwq; clear hSwq; go_simp; with_reducible rfl)
  try simp only [Act.put, List.setIfInBounds_toArray, List.set_cons_zero, List.set_cons_succ]
  refine rest_got (i := 22) (v := ?v22) rfl (by kernel_rfl) (by kernel_rfl) (by kernel_rfl) (fun _ _ _ h => h) (by rfl) ?y22 ?r22
  case y22 => (intro w9q hSwq; clear hSwq; go_simp; with_reducible rfl)
  try simp only [Act.put, List.setIfInBounds_toArray, List.set_cons_zero, List.set_cons_succ]
  refine rest_got (i := 23) (v := ?v23) rfl (by kernel_rfl) (by kernel_rfl) (by kernel_rfl) (fun _ _ _ h => h) (by rfl) ?y23 ?r23
  case y23 => (intro w9q hSwq; clear hSwq; go_simp; with_reducible rfl)
  try simp only [Act.put, List.setIfInBounds_toArray, List.set_cons_zero, List.set_cons_succ]
  refine rest_got (i := 24) (v := ?v24) rfl (by kernel_rfl) (by kernel_rfl) (by kernel_rfl) (fun _ _ _ h => h) (by rfl) ?y24 ?r24
  case y24 => ((intro w9' hm9'; obtain ⟨hc0', hc1', hc2', hc3', hc4', hc5', hc6'⟩ := P5.out w9' hm9'; clear hm9'; go_simp; with_reducible rfl))
  try simp only [Act.put, List.setIfInBounds_toArray, List.set_cons_zero, List.set_cons_succ]
  refine rest_got (i := 25) (v := ?v25) rfl (by kernel_rfl) (by kernel_rfl) (by kernel_rfl) (fun _ _ _ h => h) (by rfl) ?y25 ?r25
  case y25 => ((intro w9' hm9'; obtain ⟨hc0', hc1', hc2', hc3', hc4', hc5', hc6'⟩ := LA5.out w9' hm9'; clear hm9'; go_simp; with_reducible rfl))
  try simp only [Act.put, List.setIfInBounds_toArray, List.set_cons_zero, List.set_cons_succ]
  refine rest_one (i := 26) (by kernel_rfl) rfl (by rfl) ?_
  go_wp2_with fail
  refine HS.out.mono ?_
  rintro e w6 ⟨rfl, m6⟩
  go_wp2_with fail
  refine back_to (K1 := []) m6 (by simp) ?_
  have M6 := Lib.hid (M5.out.trans' m6)
  have HZ := Lib.hid (check_any (zeroC, none, 0) w6 zeroC_wf.1 (SeesT.nil _ _) (HT5.out.mod0 m6))
  rw [if_neg zeroC_no] at HZ
  clear m6 LA5 P5 O5 M5 HT5 HS LA
  refine rest_got (i := 27) (v := ?v26) rfl (by kernel_rfl) (by kernel_rfl) (by kernel_rfl) (fun _ _ _ h => h) (by rfl) ?y26 ?r26
  case y26 => (intro w9q hSwq; clear hSwq; go_simp; with_reducible rfl)
  try simp only [Act.put, List.setIfInBounds_toArray, List.set_cons_zero, List.set_cons_succ]
  refine rest_got (i := 28) (v := ?v27) rfl (by kernel_rfl) (by kernel_rfl) (by kernel_rfl) (fun _ _ _ h => h) (by rfl) ?y27 ?r27
  case y27 => (intro w9q hSwq; clear hSwq; go_simp; with_reducible rfl)
  try simp only [Act.put, List.setIfInBounds_toArray, List.set_cons_zero, List.set_cons_succ]
  refine rest_got (i := 29) (v := ?v28) rfl (by kernel_rfl) (by kernel_rfl) (by kernel_rfl) (fun _ _ _ h => h) (by rfl) ?y28 ?r28
  case y28 => (intro w9q hSwq; clear hSwq; go_simp; with_reducible rfl)
  try simp only [Act.put, List.setIfInBounds_toArray, List.set_cons_zero, List.set_cons_succ]
  refine rest_one (i := 30) (by kernel_rfl) rfl (by rfl) ?_
  go_wp2_with fail
  refine HZ.out.mono ?_
  rintro e w7 ⟨rfl, m7⟩
  go_wp2_with fail
  refine back_to (K1 := []) m7 (by simp) ?_
  have M7 := Lib.hid (M6.out.trans' m7)
  clear m7 M6 HZ
  refine rest_got (i := 31) (v := ?v29) rfl (by kernel_rfl) (by kernel_rfl) (by kernel_rfl) (fun _ _ _ h => h) (by rfl) ?y29 ?r29
  case y29 => (intro w9q hSwq; clear hSwq; go_simp; with_reducible rfl)
  try simp only [Act.put, List.setIfInBounds_toArray, List.set_cons_zero, List.set_cons_succ]
  refine rest_got (i := 32) (v := ?v30) rfl (by kernel_rfl) (by kernel_rfl) (by kernel_rfl) (fun _ _ _ h => h) (by rfl) ?y30 ?r30
  case y30 => (intro w9q hSwq; clear hSwq; go_simp; with_reducible rfl)
  try simp only [Act.put, List.setIfInBounds_toArray, List.set_cons_zero, List.set_cons_succ]
  refine rest_got (i := 33) (v := ?v31) rfl (by kernel_rfl) (by kernel_rfl) (by kernel_rfl) (fun _ _ _ h => h) (by rfl) ?y31 ?r31
  case y31 => (intro w9q hSwq; clear hSwq; go_simp; with_reducible rfl)
  try simp only [Act.put, List.setIfInBounds_toArray, List.set_cons_zero, List.set_cons_succ]
  refine rest_done (by kernel_rfl) ?_ _
  go_wp2
  go_ret
  exact ⟨rfl, M7.out⟩
end Go.Proofs.YtaagfoeedngdjaaDoor
