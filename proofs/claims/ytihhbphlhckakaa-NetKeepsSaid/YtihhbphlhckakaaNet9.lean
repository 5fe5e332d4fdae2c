/- The walks of the net package: a letter at a place is spoilt; all letters. -/
import Derived.Test.YtihhbphlhckakaaNet8
namespace Go.Proofs.Ytihhbphlhckakaa
open Go Go.RowKit Go.Lib

theorem cellsL_set (l : List Lt) : ∀ (k : Nat) (hk : k < l.length) (x : Lt), letC x = letC l[k] → cellsL (l.set k x) = cellsL l := by
  induction l with
  | nil => intro k hk; exact absurd hk (by simp)
  | cons a r ih =>
    intro k hk x hx
    cases k with
    | zero => show letC x ++ cellsL r = letC a ++ cellsL r; rw [hx]; rfl
    | succ k => show letC a ++ cellsL (r.set k x) = letC a ++ cellsL r; rw [ih k (by simpa using hk) x hx]
theorem fpL_set (l : List Lt) : ∀ (k : Nat) (hk : k < l.length) (x : Lt), x.2.2.1 = l[k].2.2.1 → fpL (l.set k x) = fpL l := by
  induction l with
  | nil => intro k hk; exact absurd hk (by simp)
  | cons a r ih =>
    intro k hk x hx
    cases k with
    | zero => show blk x.2.2.1 ++ fpL r = blk a.2.2.1 ++ fpL r; rw [hx]; rfl
    | succ k => show blk a.2.2.1 ++ fpL (r.set k x) = blk a.2.2.1 ++ fpL r; rw [ih k (by simpa using hk) x hx]
theorem fpL_two (l : List Lt) : ∀ (i k : Nat) (hi : i < l.length) (hk : k < l.length), i ≠ k → (fpL l).Nodup → ∀ j, j ∈ blk l[i].2.2.1 → j ∉ blk l[k].2.2.1 := by
  intro i k hi hk hne hnd j hj hj2
  have h1 := fpL_not l k hk hnd j hj2
  apply h1
  refine List.mem_flatMap.2 ⟨l[i], ?_, hj⟩
  rw [List.eraseIdx_eq_take_drop_succ, List.mem_append]
  by_cases h : i < k
  · left
    refine List.mem_iff_getElem?.2 ⟨i, ?_⟩
    rw [List.getElem?_take, if_pos h, List.getElem?_eq_getElem hi]
  · right
    refine List.mem_iff_getElem?.2 ⟨i - (k + 1), ?_⟩
    rw [List.getElem?_drop, show k + 1 + (i - (k + 1)) = i by omega, List.getElem?_eq_getElem hi]
/-- A letter whose bytes are others. -/
def putB (x : Lt) (bs : List UInt8) : Lt := (x.1, x.2.1, x.2.2.1, x.2.2.2.1, bs)
theorem NetF.putB {w w' : World} {g : Nat} {ra : Option Addr} {rc : Nat} {l : List Lt} (h : NetF w g ra rc l) {k : Nat} (hk : k < l.length) (bs : List UInt8) (hl : bs.length = l[k].2.2.2.2.length) (hm : Mod (blk l[k].2.2.1) w w') (ho : OwnB w' l[k].2.2.1 l[k].2.2.2.1 bs) :
    NetF w' g ra rc (l.set k (Proofs.Ytihhbphlhckakaa.putB l[k] bs)) := by
  have ha := h.apart hk
  have hnd := h.2.2.2
  rw [List.nodup_cons, List.nodup_append] at hnd
  refine ⟨?_, ?_, ?_, ?_⟩
  · rw [List.length_set]
    exact hm.get h.1 (fun hg => (ha g hg).1 rfl)
  · unfold OwnL
    rw [List.length_set, cellsL_set l k hk _ (by simp [letC, Proofs.Ytihhbphlhckakaa.putB, hl])]
    exact Own.mod h.2.1 hm (fun j hj hj2 => (ha j hj2).2.1 hj)
  · intro x hx
    obtain ⟨i, hi, rfl⟩ := List.getElem_of_mem hx
    rw [List.length_set] at hi
    rw [List.getElem_set]
    by_cases hik : k = i
    · subst hik
      rw [if_pos rfl]
      exact ho
    · rw [if_neg hik]
      exact (h.2.2.1 l[i] (List.getElem_mem _)).mod hm (fun j hj => fpL_two l i k hi hk (fun e => hik e.symm) hnd.2.2.1 j hj)
  · rw [fpL_set l k hk (Proofs.Ytihhbphlhckakaa.putB l[k] bs) rfl]
    exact h.2.2.2

set_option maxRecDepth 100000 in
set_option maxHeartbeats 2000000 in
theorem spoil_bad (g : Nat) (ra : Option Addr) (rc : Nat) (l : List Lt) (k : Nat) (bit : Int) (w : World) (h : NetF w g ra rc l) (hk : k < l.length) (hb : bit < 0 ∨ (l[k].2.2.2.2.length : Int) ≤ bit / 8) (hmx : bit ≤ 9223372036854775807) :
    Calls Try.prog 13 #[.pointer (some ⟨g, 0, none⟩), .int .i64 (k : Int), .int .i64 bit] w fun e w' => e = .returned (.int .i64 1) ∧ Mod [] w w' := by
  have H := Lib.hid h
  have HB := Lib.hid hb
  clear h hb
  go_enter Try.func13, Try.ntmps13
  go_wp2_with fail
  have m1 := Mod.alloc [] w (.cells #[.int .i64 bit] 3)
  have e1 := heap_alloc_new w (.cells #[.int .i64 bit] 3)
  refine (with_spoil g ra rc l k hk #[.pointer (some ⟨w.heap.size, 0, none⟩)] _ _ (H.out.mod0 m1)
    (spoil1_bad l[k].1 l[k].2.1 l[k].2.2.1 l[k].2.2.2.2.length l[k].2.2.2.1 bit w.heap.size _ (by rw [cell_of_block e1]; rfl) HB.out hmx)).mono ?_
  rintro e w4 ⟨v, rfl, rfl, m5⟩
  have M5 : Hid (Mod [] w w4) := m1.trans' m5
  clear m5 m1 e1
  go_wp2
  go_ret
  exact ⟨rfl, M5.out⟩
set_option maxRecDepth 100000 in
set_option maxHeartbeats 2000000 in
theorem spoil_ok (g : Nat) (ra : Option Addr) (rc : Nat) (l : List Lt) (k bit j r : Nat) (w : World) (h : NetF w g ra rc l) (hk : k < l.length) (hj : bit / 8 = j) (hr : bit % 8 = r) (hb : j < l[k].2.2.2.2.length) (hbl : l[k].2.2.2.2.length ≤ 1000000) :
    Calls Try.prog 13 #[.pointer (some ⟨g, 0, none⟩), .int .i64 (k : Int), .int .i64 (bit : Int)] w fun e w' => e = .returned (.int .i64 0) ∧ Mod (blk l[k].2.2.1) w w' ∧
      NetF w' g ra rc (l.set k (putB l[k] (l[k].2.2.2.2.set j (flip8 l[k].2.2.2.2[j] r)))) := by
  have H := Lib.hid h
  have HA := Lib.hid (h.apart hk)
  clear h
  go_enter Try.func13, Try.ntmps13
  go_wp2_with fail
  have m1 := Mod.alloc [] w (.cells #[.int .i64 (bit : Int)] 3)
  have e1 := heap_alloc_new w (.cells #[.int .i64 (bit : Int)] 3)
  have hl1 := H.out.mod0 m1
  refine (with_spoil g ra rc l k hk #[.pointer (some ⟨w.heap.size, 0, none⟩)] _ _ hl1
    (spoil1_ok l[k].1 l[k].2.1 l[k].2.2.1 l[k].2.2.2.1 l[k].2.2.2.2 bit j r w.heap.size _ (by rw [cell_of_block e1]; rfl) hj hr hb (hl1.2.2.1 l[k] (List.getElem_mem _)) hbl (fun hm => by have := (HA.out _ hm).2.2.2; omega))).mono ?_
  rintro e w4 ⟨v, rfl, rfl, m5, o5⟩
  have M5 : Hid (Mod (blk l[k].2.2.1) w w4) := m1.nil.trans' m5
  have H5 := Lib.hid (hl1.putB hk _ (by simp) m5 o5)
  clear m5 m1 e1 o5 hl1
  go_wp2
  go_ret
  exact ⟨rfl, M5.out, H5.out⟩

/-- Letters that are told: a row of their own, bytes of their own. -/
def Lets (w : World) (a : Option Addr) (c : Nat) (l : List Lt) : Prop :=
  OwnL w a c l ∧ (∀ x ∈ l, OwnB w x.2.2.1 x.2.2.2.1 x.2.2.2.2) ∧ (blk a ++ fpL l).Nodup
set_option maxRecDepth 100000 in
theorem letters_nil (w : World) :
    Calls Try.prog 12 #[.pointer none] w fun e w' => e = .returned (.slice none 0 0) ∧ w' = w := by
  go_enter Try.func12, Try.ntmps12
  go_wp2_with fail
  refine (len_nil _).mono ?_
  rintro e w4 ⟨rfl, rfl⟩
  go_wp2_with fail
  refine wp_loop_rounds 1 ?_
  rw [rounds_succ]
  go_wp2
  go_ret
  exact ⟨rfl, rfl⟩
set_option maxRecDepth 100000 in
set_option maxHeartbeats 2000000 in
theorem letters_any (g : Nat) (ra : Option Addr) (rc : Nat) (l : List Lt) (w : World) (h : NetF w g ra rc l) (hl : l.length ≤ 1000) (hsz : ∀ x ∈ l, x.2.2.2.2.length ≤ 1000000) :
    Calls Try.prog 12 #[.pointer (some ⟨g, 0, none⟩)] w fun e w' => ∃ a c l2, e = .returned (.slice a l.length c) ∧ l2.map stripL = l.map stripL ∧ Lets w' a c l2 ∧ (∀ j, j ∈ blk a ++ fpL l2 → w.heap.size ≤ j) ∧ Mod [] w w' := by
  have H := Lib.hid h
  have HZ := Lib.hid hsz
  clear h hsz
  go_enter Try.func12, Try.ntmps12
  go_wp2_with fail
  refine (nlen_any g ra rc l _ H.out).mono ?_
  rintro e w4 ⟨rfl, rfl⟩
  go_wp2_with fail
  go_loopw [3, 7] (fun o i wr => ∃ (k : Nat) (a : Option Addr) (c : Nat) (l2 : List Lt), k ≤ l.length ∧ i = .int .i64 (k : Int) ∧ o = .slice a k c ∧ l2.map stripL = (l.take k).map stripL ∧ Lets wr a c l2 ∧ (∀ j, j ∈ blk a ++ fpL l2 → w4.heap.size ≤ j) ∧ Mod [] w4 wr) (fun _ i _ => l.length - (intOf i).toNat)
  case atStart => exact ⟨0, none, 0, [], Nat.zero_le _, rfl, rfl, rfl, ⟨Own.nil0 _ _ _, by simp, by simp [blk, fpL]⟩, by simp [blk, fpL], Mod.refl _ _⟩
  case round =>
    obtain ⟨k, a, c, l2, hk, rfl, rfl, hst, hlets, hfr, hm⟩ := hrel
    have M := Lib.hid hm
    have HL := Lib.hid hlets
    have HF := Lib.hid hfr
    have HST := Lib.hid hst
    have hl2 : l2.length = k := by
      have := congrArg List.length hst
      simp only [List.length_map, List.length_take] at this
      omega
    have HR := Lib.hid (H.out.mod0 hm)
    clear hm hlets hfr hst
    by_cases hlt : k < l.length
    · have c0 := cell_of_block (i := 0) HR.out.1
      obtain ⟨b, hrb, p0, p1, p2⟩ := OwnL.at' HR.out.2.1 hlt
      subst hrb
      have HS := Lib.hid (HR.out.2.2.1 l[k] (List.getElem_mem _)).sees
      have hz := HZ.out l[k] (List.getElem_mem _)
      have htk : l.take (k + 1) = l.take k ++ [l[k]] := take_snoc l k hlt
      have HT := Lib.hid htk
      obtain ⟨⟨fr, to, ao, cp, bs⟩, hx⟩ : ∃ x, l[k] = x := ⟨_, rfl⟩
      rw [hx] at p0 p1 p2 HS HT hz
      dsimp only at p0 p1 p2 HS hz
      clear htk hx
      go_wp2_with fail
      refine (copied_any fr to ao bs.length cp bs _ rfl HS.out (by omega)).mono ?_
      rintro e w5 ⟨a5, c5, rfl, o5, m5, s5⟩
      have mb := Mod.alloc [] w5 (.cells #[.int .i64 fr, .int .i64 to, .slice a5 bs.length c5] 29)
      have HSH := Lib.hid (shows1 (x := (fr, to, a5, c5, bs)) (heap_alloc_new w5 (.cells #[.int .i64 fr, .int .i64 to, .slice a5 bs.length c5] 29)))
      have hL6 := Own.mod0 (Own.mod0 HL.out.1 m5) mb
      rw [hl2] at hL6
      have L6 := Lib.hid hL6
      have M6 := Lib.hid ((M.out.trans' m5).trans' mb)
      have O6 := Lib.hid (o5.mod0 mb)
      have BO := Lib.hid (fun x hx => ((HL.out.2.1 x hx).mod0 m5).mod0 mb)
      have S5 : Hid (∀ j, j ∈ blk a5 → wr.heap.size ≤ j ∧ j < w5.heap.size) := fun j hj => by
        refine ⟨?_, Own.lt o5 j hj⟩
        rcases s5.blk j hj with h | h
        · simp [blk] at h
        · exact h
      have hwr := M.out.size
      have h56 := m5.size
      have LTL := Lib.hid (fun j (hj : j ∈ blk a ++ fpL l2) => show j < wr.heap.size by
        rcases List.mem_append.1 hj with h | h
        · exact Own.lt HL.out.1 j h
        · obtain ⟨x, hx, h⟩ := List.mem_flatMap.1 h
          exact Own.lt (HL.out.2.1 x hx) j h)
      clear o5 m5 s5 mb hL6 p0 p1 p2 c0
      go_wp2_with (first | (at_builtin; refine wpl_appL (dst := some 20) _ _ a k c l2 rfl hl2 (by rw [OwnL, hl2]; exact L6.out) _ 1 1 [(fr, to, a5, c5, bs)] rfl rfl HSH.out (by omega) ?_) | fail)
      intro a7 c7 w7 o7 m7 s7
      have HN : Hid (Lets w7 a7 c7 (l2 ++ [(fr, to, a5, c5, bs)])) := by
        have hnd := HL.out.2.2
        have hnd2 : (fpL l2).Nodup := (List.nodup_append.1 hnd).2.1
        refine ⟨o7, ?_, ?_⟩
        · intro x hx
          rcases List.mem_append.1 hx with h | h
          · exact (BO.out x h).mod m7 (fun j hj hj2 => (List.nodup_append.1 hnd).2.2 j hj2 j (List.mem_flatMap.2 ⟨x, h, hj⟩) rfl)
          · simp only [List.mem_singleton] at h
            subst h
            exact O6.out.mod m7 (fun j hj hj2 => by have := (S5.out j hj).1; have := LTL.out j (List.mem_append.2 (.inl hj2)); omega)
        · rw [fpL_append]
          have hb : (blk a7).Nodup := by cases a7 <;> simp [blk]
          have hb5 : (blk a5).Nodup := by cases a5 <;> simp [blk]
          rw [List.nodup_append, List.nodup_append]
          refine ⟨hb, ⟨hnd2, hb5, fun x hx y hy e => ?_⟩, fun x hx y hy e => ?_⟩
          · subst e
            have := (S5.out x hy).1; have := LTL.out x (List.mem_append.2 (.inr hx)); omega
          · subst e
            rcases s7.blk x hx with h | h
            · rcases List.mem_append.1 hy with h2 | h2
              · exact (List.nodup_append.1 hnd).2.2 x h x h2 rfl
              · have := (S5.out x h2).1; have := LTL.out x (List.mem_append.2 (.inl h)); omega
            · simp at h
              rcases List.mem_append.1 hy with h2 | h2
              · have := LTL.out x (List.mem_append.2 (.inr h2)); omega
              · have := (S5.out x h2).2; omega
      have HF7 : Hid (∀ j, j ∈ blk a7 ++ fpL (l2 ++ [(fr, to, a5, c5, bs)]) → w4.heap.size ≤ j) := fun j hj => by
        rw [fpL_append] at hj
        rcases List.mem_append.1 hj with h | h
        · rcases s7.blk j h with h | h
          · exact HF.out j (List.mem_append.2 (.inl h))
          · simp at h; omega
        · rcases List.mem_append.1 h with h | h
          · exact HF.out j (List.mem_append.2 (.inr h))
          · have := (S5.out j h).1; omega
      have M7 : Hid (Mod [] w4 w7) := M6.out.trans m7 (fun i hi hl => by have := HF.out i (List.mem_append.2 (.inl hi)); omega)
      clear o7 m7 s7
      go_wp2
      go_roundw
      case rel =>
        refine ⟨k + 1, a7, c7, l2 ++ [(fr, to, a5, c5, bs)], by omega, by go_num, rfl, ?_, HN.out, HF7.out, M7.out⟩
        rw [HT.out, List.map_append, List.map_append, HST.out]; rfl
      case measure => simp [intOf]; omega
    · have hke : k = l.length := by omega
      subst hke
      go_wp2
      go_ret
      refine ⟨a, c, l2, rfl, ?_, HL.out, HF.out, M.out⟩
      rw [HST.out, List.take_length]
end Go.Proofs.Ytihhbphlhckakaa
