/- The walks of the net package: a letter goes out of the row; it is taken, lost. -/
import Derived.Test.YtihhbphlhckakaaNet3
namespace Go.Proofs.Ytihhbphlhckakaa
open Go Go.RowKit Go.Lib

theorem Own.take {w : World} {e : TypeId} {sz g n cap : Nat} {xs : List Value} (h : Own w e sz (some ⟨g, 0, none⟩) n cap xs) (k : Nat) (hk : k ≤ n) : Own w e sz (some ⟨g, 0, none⟩) k k (xs.take (k * sz)) := by
  rcases h.2 with ⟨h0, _⟩ | ⟨g', cur, fz, hg, hb, hz, hn, hm, hs, ht⟩
  · cases h0
  · cases hg
    have h1 : k * sz ≤ n * sz := Nat.mul_le_mul_right _ hk
    have h2 : n * sz ≤ cap * sz := Nat.mul_le_mul_right _ hn
    refine ⟨by rw [List.length_take, h.1]; omega, .inr ⟨g, cur, fz, rfl, hb, hz, Nat.le_refl _, by omega, by omega, ?_⟩⟩
    rw [← ht, List.take_take, Nat.min_eq_left h1]
theorem cellsL_take (l : List Lt) : ∀ k, (cellsL l).take (k * 3) = cellsL (l.take k) := by
  induction l with
  | nil => intro k; simp [cellsL]
  | cons a r ih =>
    intro k
    cases k with
    | zero => simp [cellsL]
    | succ k =>
      have e : (k + 1) * 3 = k * 3 + 1 + 1 + 1 := by omega
      rw [e]
      show letC a ++ (cellsL r).take (k * 3) = letC a ++ cellsL (r.take k)
      rw [ih]
theorem cellsL_drop (l : List Lt) : ∀ k, (cellsL l).drop (k * 3) = cellsL (l.drop k) := by
  induction l with
  | nil => intro k; simp [cellsL]
  | cons a r ih =>
    intro k
    cases k with
    | zero => simp
    | succ k =>
      have e : (k + 1) * 3 = k * 3 + 1 + 1 + 1 := by omega
      rw [e]
      show (cellsL r).drop (k * 3) = cellsL (r.drop k)
      rw [ih]
theorem fpL_erase (l : List Lt) : ∀ k, (fpL (l.eraseIdx k)).Sublist (fpL l) := by
  induction l with
  | nil => intro k; simp [fpL]
  | cons a r ih =>
    intro k
    cases k with
    | zero => exact List.sublist_append_right _ _
    | succ k => exact List.Sublist.append (List.Sublist.refl _) (ih k)
theorem OwnL.drop {w : World} {g cap : Nat} {l : List Lt} (h : OwnL w (some ⟨g, 0, none⟩) cap l) (k : Nat) : Shows w (some ⟨g, k * 3, none⟩) (cellsL (l.drop k)) := by
  intro j u hj
  rw [← cellsL_drop, List.getElem?_drop] at hj
  obtain ⟨g', h1, h2, _⟩ := Own.cell h hj
  cases h1
  exact ⟨_, rfl, by rw [Addr.add_lit]; exact h2⟩
theorem NetF.erase {w : World} {g : Nat} {ra : Option Addr} {rc : Nat} {l : List Lt} (h : NetF w g ra rc l) (k : Nat) :
    (∀ x, x ∈ l.eraseIdx k → OwnB w x.2.2.1 x.2.2.2.1 x.2.2.2.2 ∧ ∀ j, j ∈ blk x.2.2.1 → j ∉ g :: blk ra) ∧ (g :: (blk ra ++ fpL (l.eraseIdx k))).Nodup := by
  refine ⟨fun x hx => ?_, ?_⟩
  · have hx' : x ∈ l := List.mem_of_mem_eraseIdx hx
    refine ⟨h.2.2.1 x hx', fun j hj hk2 => ?_⟩
    have hf : j ∈ fpL l := List.mem_flatMap.2 ⟨x, hx', hj⟩
    have hnd := h.2.2.2
    rw [List.nodup_cons, List.nodup_append] at hnd
    rcases List.mem_cons.1 hk2 with rfl | hk2
    · exact hnd.1 (List.mem_append.2 (.inr hf))
    · exact hnd.2.2.2 j hk2 j hf rfl
  · exact (h.2.2.2).sublist ((List.Sublist.append (List.Sublist.refl _) (fpL_erase l k)).cons_cons _)

set_option maxRecDepth 100000 in
set_option maxHeartbeats 2000000 in
theorem out_any (g : Nat) (ra : Option Addr) (rc : Nat) (l : List Lt) (k : Nat) (w : World) (h : NetF w g ra rc l) (hk : k < l.length) (hl : l.length ≤ 1000) :
    Calls Try.prog 29 #[.pointer (some ⟨g, 0, none⟩), .int .i64 (k : Int)] w fun e w' => (∃ v, e = .returned v) ∧
      ∃ ra' rc', NetF w' g ra' rc' (l.eraseIdx k) ∧ Mod (g :: blk ra) w w' ∧ SameOrNew w w' ra ra' := by
  obtain ⟨b, rfl, -, -, -⟩ := OwnL.at' h.2.1 hk
  have H := Lib.hid h
  have hlc : l.length ≤ rc := Own.le h.2.1
  have hcm : rc ≤ 9223372036854775807 := by have := Own.cap_le h.2.1; unfold maxLen at this; omega
  have hlt := lt_of_block h.1
  clear h
  go_enter Try.func29, Try.ntmps29
  go_upto_region 0 with (fail)
  refine rest_start [g, b] 19 #[false, false, false, false, false, false, false, false, false, false, false, false, false, false, false, false, false, false, false] rfl (by kernel_rfl) (by kernel_rfl) ?_
  intro w1 m1
  have M1 := Lib.hid m1
  have H1 := Lib.hid (H.out.mod0 m1)
  have c1 := cell_of_block (i := 0) H1.out.1
  have hkc : k ≤ rc := by omega
  have hkc1 : k + 1 ≤ rc := by omega
  have hkl1 : k + 1 ≤ l.length := by omega
  have HD := Lib.hid (Own.take H1.out.2.1 k (by omega))
  have HDR := Lib.hid (OwnL.drop H1.out.2.1 (k + 1))
  have hki1 : (k : Int) ≤ (k : Int) + 1 := by omega
  have hki2 : (k : Int) + 1 ≤ (k : Int) + 1 := by omega
  have hwk : IntKind.i64.wrap ((k : Int) + 1) = (k : Int) + 1 := IntWalk.i64_in _ (by omega)
  have hsl : (0 : Int) ≤ (k : Int) + 1 ∧ (k : Int) + 1 ≤ (l.length : Int) := by omega
  have hln : (l.drop (k + 1)).length = l.length - (k + 1) := List.length_drop
  have hlt1 := lt_of_block H1.out.1
  have hgr : g ∉ [b] := fun hk => by have := H.out.2.2.2; rw [List.nodup_cons] at this; exact this.1 (List.mem_append.2 (.inl hk))
  clear m1
  refine rest_got (i := 0) (v := ?v1) rfl (by kernel_rfl) (by kernel_rfl) (by kernel_rfl) (fun _ _ _ h => h) (by rfl) ?y1 ?r1
  case y1 => (intro w9q hSwq; clear hSwq; go_simp; with_reducible rfl)
  try simp only [Act.put, List.setIfInBounds_toArray, List.set_cons_zero, List.set_cons_succ]
  refine rest_got (i := 1) (v := ?v2) rfl (by kernel_rfl) (by kernel_rfl) (by kernel_rfl) (fun _ _ _ h => h) (by rfl) ?y2 ?r2
  case y2 => (intro w9q hSwq; clear hSwq; go_simp; with_reducible rfl)
  try simp only [Act.put, List.setIfInBounds_toArray, List.set_cons_zero, List.set_cons_succ]
  refine rest_got (i := 2) (v := ?v3) rfl (by kernel_rfl) (by kernel_rfl) (by kernel_rfl) (fun _ _ _ h => h) (by rfl) ?y3 ?r3
  case y3 => (intro w9q hSwq; clear hSwq; go_simp; with_reducible rfl)
  try simp only [Act.put, List.setIfInBounds_toArray, List.set_cons_zero, List.set_cons_succ]
  refine rest_got (i := 3) (v := ?v4) rfl (by kernel_rfl) (by kernel_rfl) (by kernel_rfl) (fun _ _ _ h => h) (by rfl) ?y4 ?r4
  case y4 => (intro w9q hSwq; clear hSwq; go_simp; with_reducible rfl)
  try simp only [Act.put, List.setIfInBounds_toArray, List.set_cons_zero, List.set_cons_succ]
  refine rest_got (i := 5) (v := ?v5) rfl (by kernel_rfl) (by kernel_rfl) (by kernel_rfl) (fun _ _ _ h => h) (by rfl) ?y5 ?r5
  case y5 => (intro w9q hSwq; clear hSwq; go_simp; with_reducible rfl)
  try simp only [Act.put, List.setIfInBounds_toArray, List.set_cons_zero, List.set_cons_succ]
  refine rest_got (i := 6) (v := ?v6) rfl (by kernel_rfl) (by kernel_rfl) (by kernel_rfl) (fun _ _ _ h => h) (by rfl) ?y6 ?r6
  case y6 => (intro w9q hSwq; clear hSwq; go_simp; with_reducible rfl)
  try simp only [Act.put, List.setIfInBounds_toArray, List.set_cons_zero, List.set_cons_succ]
  refine rest_got (i := 8) (v := ?v7) rfl (by kernel_rfl) (by kernel_rfl) (by kernel_rfl) (fun _ _ _ h => h) (by rfl) ?y7 ?r7
  case y7 => (intro w9q hSwq; clear hSwq; go_simp; with_reducible rfl)
  try simp only [Act.put, List.setIfInBounds_toArray, List.set_cons_zero, List.set_cons_succ]
  refine rest_got (i := 9) (v := ?v8) rfl (by kernel_rfl) (by kernel_rfl) (by kernel_rfl) (fun _ _ _ h => h) (by rfl) ?y8 ?r8
  case y8 => (intro w9q hSwq; clear hSwq; go_simp; with_reducible rfl)
  try simp only [Act.put, List.setIfInBounds_toArray, List.set_cons_zero, List.set_cons_succ]
  refine rest_got (i := 10) (v := ?v9) rfl (by kernel_rfl) (by kernel_rfl) (by kernel_rfl) (fun _ _ _ h => h) (by rfl) ?y9 ?r9
  case y9 => (intro w9q hSwq; clear hSwq; go_simp; with_reducible rfl)
  try simp only [Act.put, List.setIfInBounds_toArray, List.set_cons_zero, List.set_cons_succ]
  refine rest_got (i := 12) (v := ?v10) rfl (by kernel_rfl) (by kernel_rfl) (by kernel_rfl) (fun _ _ _ h => h) (by rfl) ?y10 ?r10
  case y10 => (intro w9q hSwq; clear hSwq; go_simp; with_reducible rfl)
  try simp only [Act.put, List.setIfInBounds_toArray, List.set_cons_zero, List.set_cons_succ]
  refine rest_got (i := 13) (v := ?v11) rfl (by kernel_rfl) (by kernel_rfl) (by kernel_rfl) (fun _ _ _ h => h) (by rfl) ?y11 ?r11
  case y11 => (intro w9q hSwq; clear hSwq; go_simp; with_reducible rfl)
  try simp only [Act.put, List.setIfInBounds_toArray, List.set_cons_zero, List.set_cons_succ]
  by_cases hrc : rc = k + 1
  · have hll : l.length = k + 1 := by omega
    have hl0 : l.drop (k + 1) = [] := List.drop_eq_nil_of_le (by omega)
    refine rest_two (i := 4) (j := 11) (by kernel_rfl) rfl (by rfl) rfl (by rfl) ?_ ?_
    · go_wp2_with fail
      refine back_to (K1 := [g, b]) (Mod.refl _ _) (fun _ h _ => h) ?_
      refine rest_got (i := 7) (v := ?v12) rfl (by kernel_rfl) (by kernel_rfl) (by kernel_rfl) (fun _ _ _ h => h) (by rfl) ?y12 ?r12
      case y12 => (intro w9q hSwq; clear hSwq; go_simp; with_reducible rfl)
      try simp only [Act.put, List.setIfInBounds_toArray, List.set_cons_zero, List.set_cons_succ]
      refine rest_one (i := 11) (by kernel_rfl) rfl (by rfl) ?_
      go_wp2_with fail
      refine back_to (K1 := [g, b]) (Mod.refl _ _) (fun _ h _ => h) ?_
      refine rest_got (i := 14) (v := ?v13) rfl (by kernel_rfl) (by kernel_rfl) (by kernel_rfl) (fun _ _ _ h => h) (by rfl) ?y13 ?r13
      case y13 => (intro w9q hSwq; clear hSwq; go_simp; with_reducible rfl)
      try simp only [Act.put, List.setIfInBounds_toArray, List.set_cons_zero, List.set_cons_succ]
      refine rest_one (i := 15) (by kernel_rfl) rfl (by rfl) ?_
      go_wp2_with fail
      have m2 : Mod [b] w1 w1 := Mod.refl _ _
      have s2 : SameOrNew w1 w1 (some ⟨b, 0, none⟩) (some ⟨b, 0, none⟩) := .inl rfl
      have HO2 : Hid (OwnL w1 (some ⟨b, 0, none⟩) k (l.eraseIdx k)) := by
        have e2 : l.eraseIdx k = l.take k := by rw [List.eraseIdx_eq_take_drop_succ, hl0, List.append_nil]
        show OwnL _ _ _ _
        rw [e2, OwnL, List.length_take, Nat.min_eq_left (by omega), ← cellsL_take]
        exact HD.out
      have G2 := Lib.hid (m2.get H1.out.1 hgr)
      have HM2 : Hid (Mod [g, b] w w1) := (M1.out.nil.trans m2 (fun k hk _ => List.mem_cons.2 (.inr hk)))
      have HS2 : Hid (SameOrNew w w1 (some ⟨b, 0, none⟩) (some ⟨b, 0, none⟩)) := s2.imp id (fun ⟨g, h1, h2, h3⟩ => ⟨g, h1, Nat.le_trans M1.out.size h2, h3⟩)
      refine back_to (K1 := [g]) (m2.weaken (fun k hk => List.mem_cons.2 (.inr hk))) (fun k hk _ => by simp at hk; subst hk; exact List.mem_cons.2 (.inl rfl)) ?_
      clear m2 s2
      refine rest_got (i := 16) (v := ?v14) rfl (by kernel_rfl) (by kernel_rfl) (by kernel_rfl) (fun _ _ _ h => h) (by rfl) ?y14 ?r14
      case y14 => (intro w9q hSwq; clear hSwq; go_simp; with_reducible rfl)
      try simp only [Act.put, List.setIfInBounds_toArray, List.set_cons_zero, List.set_cons_succ]
      refine rest_got (i := 17) (v := ?v15) rfl (by kernel_rfl) (by kernel_rfl) (by kernel_rfl) (fun _ _ _ h => h) (by rfl) ?y15 ?r15
      case y15 => (intro w9q hSwq; clear hSwq; go_simp; with_reducible rfl)
      try simp only [Act.put, List.setIfInBounds_toArray, List.set_cons_zero, List.set_cons_succ]
      have g2 := cell_of_block (i := 0) G2.out
      have f2 := free_of_block (i := 0) G2.out
      refine rest_one (i := 18) (by kernel_rfl) rfl (by rfl) ?_
      go_wp2_with fail
      refine back_to (K1 := []) (Mod.setCell _ _ _ (by simp)) (by simp) ?_
      clear g2 f2
      refine rest_done (by kernel_rfl) ?_ _
      go_wp2
      go_end0
      have hlen : k = (l.eraseIdx k).length := by rw [List.length_eraseIdx]; simp only [hk, if_true]; omega
      have m3 := Mod.setCell (S := [g]) w1 ⟨g, 0, none⟩ (.slice (some ⟨b, 0, none⟩) k k) (by simp)
      have G3 := heap_setCell_same (i := 0) G2.out (.slice (some ⟨b, 0, none⟩) k k)
      have hgb : g ∉ blk (some (⟨b, 0, none⟩ : Addr)) := fun hk => by
        rcases HS2.out.blk g hk with h | h
        · exact hgr h
        · omega
      obtain ⟨er1, er2⟩ := H.out.erase k
      refine ⟨⟨_, rfl⟩, some ⟨b, 0, none⟩, k, ?_, HM2.out.trans m3 (fun k hk _ => by simp at hk; subst hk; exact List.mem_cons.2 (.inl rfl)), ?_⟩
      · refine NetF.setRow H.out (HM2.out.trans m3 (fun k hk _ => by simp at hk; subst hk; exact List.mem_cons.2 (.inl rfl))) (HS2.out.imp id (fun ⟨g, h1, h2, h3⟩ => ⟨g, h1, h2, Nat.lt_of_lt_of_le h3 m3.size⟩)) ?_ (Own.mod HO2.out m3 (fun k hk => by simp; rintro rfl; exact hgb hk)) er1 er2
        rw [G3, ← hlen]; rfl
      · exact HS2.out.imp id (fun ⟨g, h1, h2, h3⟩ => ⟨g, h1, h2, Nat.lt_of_lt_of_le h3 m3.size⟩)
    · go_wp2_with fail
      refine back_to (K1 := [g, b]) (Mod.refl _ _) (fun _ h _ => h) ?_
      refine rest_got (i := 14) (v := ?v16) rfl (by kernel_rfl) (by kernel_rfl) (by kernel_rfl) (fun _ _ _ h => h) (by rfl) ?y16 ?r16
      case y16 => (intro w9q hSwq; clear hSwq; go_simp; with_reducible rfl)
      try simp only [Act.put, List.setIfInBounds_toArray, List.set_cons_zero, List.set_cons_succ]
      refine rest_one (i := 4) (by kernel_rfl) rfl (by rfl) ?_
      go_wp2_with fail
      refine back_to (K1 := [g, b]) (Mod.refl _ _) (fun _ h _ => h) ?_
      refine rest_got (i := 7) (v := ?v17) rfl (by kernel_rfl) (by kernel_rfl) (by kernel_rfl) (fun _ _ _ h => h) (by rfl) ?y17 ?r17
      case y17 => (intro w9q hSwq; clear hSwq; go_simp; with_reducible rfl)
      try simp only [Act.put, List.setIfInBounds_toArray, List.set_cons_zero, List.set_cons_succ]
      refine rest_one (i := 15) (by kernel_rfl) rfl (by rfl) ?_
      go_wp2_with fail
      have m2 : Mod [b] w1 w1 := Mod.refl _ _
      have s2 : SameOrNew w1 w1 (some ⟨b, 0, none⟩) (some ⟨b, 0, none⟩) := .inl rfl
      have HO2 : Hid (OwnL w1 (some ⟨b, 0, none⟩) k (l.eraseIdx k)) := by
        have e2 : l.eraseIdx k = l.take k := by rw [List.eraseIdx_eq_take_drop_succ, hl0, List.append_nil]
        show OwnL _ _ _ _
        rw [e2, OwnL, List.length_take, Nat.min_eq_left (by omega), ← cellsL_take]
        exact HD.out
      have G2 := Lib.hid (m2.get H1.out.1 hgr)
      have HM2 : Hid (Mod [g, b] w w1) := (M1.out.nil.trans m2 (fun k hk _ => List.mem_cons.2 (.inr hk)))
      have HS2 : Hid (SameOrNew w w1 (some ⟨b, 0, none⟩) (some ⟨b, 0, none⟩)) := s2.imp id (fun ⟨g, h1, h2, h3⟩ => ⟨g, h1, Nat.le_trans M1.out.size h2, h3⟩)
      refine back_to (K1 := [g]) (m2.weaken (fun k hk => List.mem_cons.2 (.inr hk))) (fun k hk _ => by simp at hk; subst hk; exact List.mem_cons.2 (.inl rfl)) ?_
      clear m2 s2
      refine rest_got (i := 16) (v := ?v18) rfl (by kernel_rfl) (by kernel_rfl) (by kernel_rfl) (fun _ _ _ h => h) (by rfl) ?y18 ?r18
      case y18 => (intro w9q hSwq; clear hSwq; go_simp; with_reducible rfl)
      try simp only [Act.put, List.setIfInBounds_toArray, List.set_cons_zero, List.set_cons_succ]
      refine rest_got (i := 17) (v := ?v19) rfl (by kernel_rfl) (by kernel_rfl) (by kernel_rfl) (fun _ _ _ h => h) (by rfl) ?y19 ?r19
      case y19 => (intro w9q hSwq; clear hSwq; go_simp; with_reducible rfl)
      try simp only [Act.put, List.setIfInBounds_toArray, List.set_cons_zero, List.set_cons_succ]
      have g2 := cell_of_block (i := 0) G2.out
      have f2 := free_of_block (i := 0) G2.out
      refine rest_one (i := 18) (by kernel_rfl) rfl (by rfl) ?_
      go_wp2_with fail
      refine back_to (K1 := []) (Mod.setCell _ _ _ (by simp)) (by simp) ?_
      clear g2 f2
      refine rest_done (by kernel_rfl) ?_ _
      go_wp2
      go_end0
      have hlen : k = (l.eraseIdx k).length := by rw [List.length_eraseIdx]; simp only [hk, if_true]; omega
      have m3 := Mod.setCell (S := [g]) w1 ⟨g, 0, none⟩ (.slice (some ⟨b, 0, none⟩) k k) (by simp)
      have G3 := heap_setCell_same (i := 0) G2.out (.slice (some ⟨b, 0, none⟩) k k)
      have hgb : g ∉ blk (some (⟨b, 0, none⟩ : Addr)) := fun hk => by
        rcases HS2.out.blk g hk with h | h
        · exact hgr h
        · omega
      obtain ⟨er1, er2⟩ := H.out.erase k
      refine ⟨⟨_, rfl⟩, some ⟨b, 0, none⟩, k, ?_, HM2.out.trans m3 (fun k hk _ => by simp at hk; subst hk; exact List.mem_cons.2 (.inl rfl)), ?_⟩
      · refine NetF.setRow H.out (HM2.out.trans m3 (fun k hk _ => by simp at hk; subst hk; exact List.mem_cons.2 (.inl rfl))) (HS2.out.imp id (fun ⟨g, h1, h2, h3⟩ => ⟨g, h1, h2, Nat.lt_of_lt_of_le h3 m3.size⟩)) ?_ (Own.mod HO2.out m3 (fun k hk => by simp; rintro rfl; exact hgb hk)) er1 er2
        rw [G3, ← hlen]; rfl
      · exact HS2.out.imp id (fun ⟨g, h1, h2, h3⟩ => ⟨g, h1, h2, Nat.lt_of_lt_of_le h3 m3.size⟩)
  · refine rest_two (i := 4) (j := 11) (by kernel_rfl) rfl (by rfl) rfl (by rfl) ?_ ?_
    · go_wp2_with fail
      refine back_to (K1 := [g, b]) (Mod.refl _ _) (fun _ h _ => h) ?_
      refine rest_got (i := 7) (v := ?v20) rfl (by kernel_rfl) (by kernel_rfl) (by kernel_rfl) (fun _ _ _ h => h) (by rfl) ?y20 ?r20
      case y20 => (intro w9q hSwq; clear hSwq; go_simp; with_reducible rfl)
      try simp only [Act.put, List.setIfInBounds_toArray, List.set_cons_zero, List.set_cons_succ]
      refine rest_one (i := 11) (by kernel_rfl) rfl (by rfl) ?_
      go_wp2_with fail
      refine back_to (K1 := [g, b]) (Mod.refl _ _) (fun _ h _ => h) ?_
      refine rest_got (i := 14) (v := ?v21) rfl (by kernel_rfl) (by kernel_rfl) (by kernel_rfl) (fun _ _ _ h => h) (by rfl) ?y21 ?r21
      case y21 => (intro w9q hSwq; clear hSwq; go_simp; with_reducible rfl)
      try simp only [Act.put, List.setIfInBounds_toArray, List.set_cons_zero, List.set_cons_succ]
      refine rest_one (i := 15) (by kernel_rfl) rfl (by rfl) ?_
      go_wp2_with (first | (at_builtin; refine wpl_appL (dst := some 19) _ _ (some ⟨b, 0, none⟩) k k (l.take k) rfl (by rw [List.length_take]; omega) (by rw [OwnL, List.length_take, Nat.min_eq_left (by omega), ← cellsL_take]; exact HD.out) _ _ _ (l.drop (k + 1)) rfl hln HDR.out (by omega) ?_) | fail)
      intro a2 c2 w2 o2 m2 s2
      have e2 : (l.take k ++ l.drop (k + 1)) = l.eraseIdx k := (List.eraseIdx_eq_take_drop_succ l k).symm
      rw [e2] at o2
      have HO2 := Lib.hid o2
      have G2 := Lib.hid (m2.get H1.out.1 hgr)
      have HM2 : Hid (Mod [g, b] w w2) := (M1.out.nil.trans m2 (fun k hk _ => List.mem_cons.2 (.inr hk)))
      have HS2 : Hid (SameOrNew w w2 (some ⟨b, 0, none⟩) a2) := s2.imp id (fun ⟨g, h1, h2, h3⟩ => ⟨g, h1, Nat.le_trans M1.out.size h2, h3⟩)
      go_wp2_with fail
      refine back_to (K1 := [g]) (m2.weaken (fun k hk => List.mem_cons.2 (.inr hk))) (fun k hk _ => by simp at hk; subst hk; exact List.mem_cons.2 (.inl rfl)) ?_
      clear o2 m2 s2 e2
      refine rest_got (i := 16) (v := ?v22) rfl (by kernel_rfl) (by kernel_rfl) (by kernel_rfl) (fun _ _ _ h => h) (by rfl) ?y22 ?r22
      case y22 => (intro w9q hSwq; clear hSwq; go_simp; with_reducible rfl)
      try simp only [Act.put, List.setIfInBounds_toArray, List.set_cons_zero, List.set_cons_succ]
      refine rest_got (i := 17) (v := ?v23) rfl (by kernel_rfl) (by kernel_rfl) (by kernel_rfl) (fun _ _ _ h => h) (by rfl) ?y23 ?r23
      case y23 => (intro w9q hSwq; clear hSwq; go_simp; with_reducible rfl)
      try simp only [Act.put, List.setIfInBounds_toArray, List.set_cons_zero, List.set_cons_succ]
      have g2 := cell_of_block (i := 0) G2.out
      have f2 := free_of_block (i := 0) G2.out
      refine rest_one (i := 18) (by kernel_rfl) rfl (by rfl) ?_
      go_wp2_with fail
      refine back_to (K1 := []) (Mod.setCell _ _ _ (by simp)) (by simp) ?_
      clear g2 f2
      refine rest_done (by kernel_rfl) ?_ _
      go_wp2
      go_end0
      have hlen : k + (l.length - (k + 1)) = (l.eraseIdx k).length := by rw [List.length_eraseIdx]; simp only [hk, if_true]; omega
      have m3 := Mod.setCell (S := [g]) w2 ⟨g, 0, none⟩ (.slice a2 (k + (l.length - (k + 1))) c2) (by simp)
      have G3 := heap_setCell_same (i := 0) G2.out (.slice a2 (k + (l.length - (k + 1))) c2)
      have hgb : g ∉ blk a2 := fun hk => by
        rcases HS2.out.blk g hk with h | h
        · exact hgr h
        · omega
      obtain ⟨er1, er2⟩ := H.out.erase k
      refine ⟨⟨_, rfl⟩, a2, c2, ?_, HM2.out.trans m3 (fun k hk _ => by simp at hk; subst hk; exact List.mem_cons.2 (.inl rfl)), ?_⟩
      · refine NetF.setRow H.out (HM2.out.trans m3 (fun k hk _ => by simp at hk; subst hk; exact List.mem_cons.2 (.inl rfl))) (HS2.out.imp id (fun ⟨g, h1, h2, h3⟩ => ⟨g, h1, h2, Nat.lt_of_lt_of_le h3 m3.size⟩)) ?_ (Own.mod HO2.out m3 (fun k hk => by simp; rintro rfl; exact hgb hk)) er1 er2
        rw [G3, ← hlen]; simp
      · exact HS2.out.imp id (fun ⟨g, h1, h2, h3⟩ => ⟨g, h1, h2, Nat.lt_of_lt_of_le h3 m3.size⟩)
    · go_wp2_with fail
      refine back_to (K1 := [g, b]) (Mod.refl _ _) (fun _ h _ => h) ?_
      refine rest_got (i := 14) (v := ?v24) rfl (by kernel_rfl) (by kernel_rfl) (by kernel_rfl) (fun _ _ _ h => h) (by rfl) ?y24 ?r24
      case y24 => (intro w9q hSwq; clear hSwq; go_simp; with_reducible rfl)
      try simp only [Act.put, List.setIfInBounds_toArray, List.set_cons_zero, List.set_cons_succ]
      refine rest_one (i := 4) (by kernel_rfl) rfl (by rfl) ?_
      go_wp2_with fail
      refine back_to (K1 := [g, b]) (Mod.refl _ _) (fun _ h _ => h) ?_
      refine rest_got (i := 7) (v := ?v25) rfl (by kernel_rfl) (by kernel_rfl) (by kernel_rfl) (fun _ _ _ h => h) (by rfl) ?y25 ?r25
      case y25 => (intro w9q hSwq; clear hSwq; go_simp; with_reducible rfl)
      try simp only [Act.put, List.setIfInBounds_toArray, List.set_cons_zero, List.set_cons_succ]
      refine rest_one (i := 15) (by kernel_rfl) rfl (by rfl) ?_
      go_wp2_with (first | (at_builtin; refine wpl_appL (dst := some 19) _ _ (some ⟨b, 0, none⟩) k k (l.take k) rfl (by rw [List.length_take]; omega) (by rw [OwnL, List.length_take, Nat.min_eq_left (by omega), ← cellsL_take]; exact HD.out) _ _ _ (l.drop (k + 1)) rfl hln HDR.out (by omega) ?_) | fail)
      intro a2 c2 w2 o2 m2 s2
      have e2 : (l.take k ++ l.drop (k + 1)) = l.eraseIdx k := (List.eraseIdx_eq_take_drop_succ l k).symm
      rw [e2] at o2
      have HO2 := Lib.hid o2
      have G2 := Lib.hid (m2.get H1.out.1 hgr)
      have HM2 : Hid (Mod [g, b] w w2) := (M1.out.nil.trans m2 (fun k hk _ => List.mem_cons.2 (.inr hk)))
      have HS2 : Hid (SameOrNew w w2 (some ⟨b, 0, none⟩) a2) := s2.imp id (fun ⟨g, h1, h2, h3⟩ => ⟨g, h1, Nat.le_trans M1.out.size h2, h3⟩)
      go_wp2_with fail
      refine back_to (K1 := [g]) (m2.weaken (fun k hk => List.mem_cons.2 (.inr hk))) (fun k hk _ => by simp at hk; subst hk; exact List.mem_cons.2 (.inl rfl)) ?_
      clear o2 m2 s2 e2
      refine rest_got (i := 16) (v := ?v26) rfl (by kernel_rfl) (by kernel_rfl) (by kernel_rfl) (fun _ _ _ h => h) (by rfl) ?y26 ?r26
      case y26 => (intro w9q hSwq; clear hSwq; go_simp; with_reducible rfl)
      try simp only [Act.put, List.setIfInBounds_toArray, List.set_cons_zero, List.set_cons_succ]
      refine rest_got (i := 17) (v := ?v27) rfl (by kernel_rfl) (by kernel_rfl) (by kernel_rfl) (fun _ _ _ h => h) (by rfl) ?y27 ?r27
      case y27 => (intro w9q hSwq; clear hSwq; go_simp; with_reducible rfl)
      try simp only [Act.put, List.setIfInBounds_toArray, List.set_cons_zero, List.set_cons_succ]
      have g2 := cell_of_block (i := 0) G2.out
      have f2 := free_of_block (i := 0) G2.out
      refine rest_one (i := 18) (by kernel_rfl) rfl (by rfl) ?_
      go_wp2_with fail
      refine back_to (K1 := []) (Mod.setCell _ _ _ (by simp)) (by simp) ?_
      clear g2 f2
      refine rest_done (by kernel_rfl) ?_ _
      go_wp2
      go_end0
      have hlen : k + (l.length - (k + 1)) = (l.eraseIdx k).length := by rw [List.length_eraseIdx]; simp only [hk, if_true]; omega
      have m3 := Mod.setCell (S := [g]) w2 ⟨g, 0, none⟩ (.slice a2 (k + (l.length - (k + 1))) c2) (by simp)
      have G3 := heap_setCell_same (i := 0) G2.out (.slice a2 (k + (l.length - (k + 1))) c2)
      have hgb : g ∉ blk a2 := fun hk => by
        rcases HS2.out.blk g hk with h | h
        · exact hgr h
        · omega
      obtain ⟨er1, er2⟩ := H.out.erase k
      refine ⟨⟨_, rfl⟩, a2, c2, ?_, HM2.out.trans m3 (fun k hk _ => by simp at hk; subst hk; exact List.mem_cons.2 (.inl rfl)), ?_⟩
      · refine NetF.setRow H.out (HM2.out.trans m3 (fun k hk _ => by simp at hk; subst hk; exact List.mem_cons.2 (.inl rfl))) (HS2.out.imp id (fun ⟨g, h1, h2, h3⟩ => ⟨g, h1, h2, Nat.lt_of_lt_of_le h3 m3.size⟩)) ?_ (Own.mod HO2.out m3 (fun k hk => by simp; rintro rfl; exact hgb hk)) er1 er2
        rw [G3, ← hlen]; simp
      · exact HS2.out.imp id (fun ⟨g, h1, h2, h3⟩ => ⟨g, h1, h2, Nat.lt_of_lt_of_le h3 m3.size⟩)
end Go.Proofs.Ytihhbphlhckakaa
