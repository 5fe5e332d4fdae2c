/- The reference's keys: a pair in its place. -/
import Derived.Test.YtkkjbeakmimmmaaHKs10
namespace Go.Proofs.Ytkkjbeakmimmmaa
open Go Go.RowKit Go.Lib

def WithR (w : World) (l : List ByteArray) (k : ByteArray) (e : Ending) (w' : World) : Prop := ∃ R, (l.Nodup → R.Nodup) ∧ (∀ x, x ∈ R ↔ x = k ∨ x ∈ l) ∧ R.length ≤ l.length + 1 ∧ PairsR w R e w'
theorem with_law (l : List ByteArray) (k : ByteArray) (r : List ByteArray) (hr : (l.filter fun x => !decide (x = k)) = r) (p : Nat) :
    (l.Nodup → (r.take p ++ [k] ++ r.drop p).Nodup) ∧ (∀ x, x ∈ r.take p ++ [k] ++ r.drop p ↔ x = k ∨ x ∈ l) ∧ (r.take p ++ [k] ++ r.drop p).length ≤ l.length + 1 := by
  have hp : (r.take p ++ [k] ++ r.drop p).Perm (k :: r) := by
    have h1 : (r.take p ++ [k] ++ r.drop p).Perm ([k] ++ r.take p ++ r.drop p) := List.Perm.append_right _ List.perm_append_comm
    refine h1.trans ?_
    rw [List.append_assoc, List.take_append_drop]
    exact List.Perm.refl _
  have hm : ∀ x, x ∈ r ↔ x ∈ l ∧ x ≠ k := fun x => by
    rw [← hr, List.mem_filter]
    simp
  refine ⟨fun h => ?_, fun x => ?_, ?_⟩
  · rw [hp.nodup_iff]
    refine List.nodup_cons.2 ⟨fun h2 => ((hm k).1 h2).2 rfl, ?_⟩
    rw [← hr]
    exact h.filter _
  · rw [hp.mem_iff, List.mem_cons, hm]
    constructor
    · rintro (h | h)
      · exact .inl h
      · exact .inr h.1
    · rintro (h | h)
      · exact .inl h
      · by_cases hk : x = k
        · exact .inl hk
        · exact .inr ⟨h, hk⟩
  · rw [hp.length_eq, List.length_cons, ← hr]
    have := List.length_filter_le (fun x => !decide (x = k)) l
    omega
theorem shows_part {w : World} {g cap : Nat} {l : List ByteArray} (h : OwnP w (some ⟨g, 0, none⟩) cap l) (p : Nat) (hp : p ≤ l.length) : Shows w (some ⟨g, 0, none⟩) (cellsP (l.take p)) ∧ Shows w (some ⟨g, p * 2, none⟩) (cellsP (l.drop p)) := by
  have hs := Own.shows h
  have e : cellsP l = cellsP (l.take p) ++ cellsP (l.drop p) := by rw [← cellsP_append, List.take_append_drop]
  have el : (cellsP (l.take p)).length = p * 2 := by rw [cellsP_length, List.length_take, Nat.min_eq_left hp]
  constructor
  · intro j u hj
    have hjl : j < (cellsP (l.take p)).length := (List.getElem?_eq_some_iff.1 hj).1
    exact hs j u (by rw [e, List.getElem?_append_left hjl]; exact hj)
  · intro j u hj
    obtain ⟨ad, h1, h2⟩ := hs (p * 2 + j) u (by rw [e, List.getElem?_append_right (by omega), el, show p * 2 + j - p * 2 = j by omega]; exact hj)
    cases h1
    refine ⟨_, rfl, ?_⟩
    rw [Addr.add_lit] at h2 ⊢
    rw [show p * 2 + j = 0 + (p * 2 + j) by omega]
    exact h2
theorem with_step2 {w1 w2 w3 w4 : World} {ao a1 a2 : Option Addr} {oc : Nat} {r : List ByteArray} (ho : OwnP w1 ao oc r) (m12 : Mod [] w1 w2) (s12 : SameOrNew w1 w2 none a1) (m23 : Mod [] w2 w3) (m34 : Mod (blk a1) w3 w4) (s34 : SameOrNew w3 w4 a1 a2) :
    OwnP w4 ao oc r ∧ Mod [] w1 w4 ∧ ∀ b, b ∈ blk a2 → w1.heap.size ≤ b := by
  have h1 : ∀ b, b ∈ blk a1 → w1.heap.size ≤ b := fun b hb => (s12.blk b hb).elim (fun h => by simp [blk] at h) id
  have h3 := m12.trans' m23
  have hs3 := h3.size
  refine ⟨(ho.mod0 h3).mod m34 (fun k hk hk2 => ?_), h3.trans m34 (fun i hi hl => absurd (h1 i hi) (by omega)), fun b hb => ?_⟩
  · have := Own.lt ho k hk
    have := h1 k hk2
    omega
  · rcases s34.blk b hb with h | h
    · exact h1 b h
    · omega
theorem with_step3 {w w1 w4 w5 : World} {a2 a3 : Option Addr} (hm : Mod [] w w1) (h4 : Mod [] w1 w4) (hn : ∀ b, b ∈ blk a2 → w1.heap.size ≤ b) (m45 : Mod (blk a2) w4 w5) (s45 : SameOrNew w4 w5 a2 a3) :
    (∀ b, b ∈ blk a3 → w.heap.size ≤ b) ∧ Mod [] w w5 := by
  have hs := hm.size
  have hs4 := h4.size
  refine ⟨fun b hb => ?_, (hm.trans' h4).trans m45 (fun i hi hl => ?_)⟩
  · rcases s45.blk b hb with h | h
    · have := hn b h; omega
    · omega
  · have := hn i hi; omega
set_option maxRecDepth 100000 in
set_option maxHeartbeats 4000000 in
theorem with_any (ao : Option Addr) (n cap : Nat) (l : List ByteArray) (k : ByteArray) (w : World) (hl : l.length = n) (ho : OwnP w ao cap l) (hn : n ≤ 100000) :
    Calls Try.prog 27 #[.slice ao n cap, .string k, .string ⟨#[]⟩] w (WithR w l k) := by
  have HW := Lib.hid (without_any ao n cap l k w hl ho hn)
  have hlf : (l.filter fun x => !decide (x = k)).length ≤ n := by rw [← hl]; exact List.length_filter_le _ _
  obtain ⟨r, hr⟩ : ∃ r, (l.filter fun x => !decide (x = k)) = r := ⟨_, rfl⟩
  rw [hr] at HW hlf
  have HLAW := Lib.hid (with_law l k r hr)
  unfold PairsR at HW
  clear hl ho hr
  go_enter Try.func27, Try.ntmps27
  go_wp2_with fail
  refine HW.out.mono ?_
  rintro e w1 ⟨oa, m, oc, rfl, hm, ho, hb, m1⟩
  have HM := Lib.hid m1
  have HR := Lib.hid hm
  have hmn : m ≤ n := by omega
  have hmc : m ≤ oc := by have := Own.le ho; omega
  clear m1 hlf
  cases oa with
  | none =>
    have hm0 : m = 0 := by
      rcases ho.2 with ⟨_, h, _⟩ | ⟨_, _, _, h, _⟩
      · omega
      · cases h
    have hc0 : oc = 0 := by
      rcases ho.2 with ⟨_, _, h⟩ | ⟨_, _, _, h, _⟩
      · exact h
      · cases h
    subst hm0 hc0
    have hr0 : r = [] := List.eq_nil_of_length_eq_zero hm
    clear hm ho hb
    go_wp2
    go_loopw [8] (fun i wr => i = .int .i64 0 ∧ wr = w1) (fun _ _ => 0)
    case atStart => exact ⟨rfl, rfl⟩
    case round =>
      obtain ⟨rfl, rfl⟩ := hrel
      have HS1 : Hid (Shows wr none (cellsP [])) := Lib.hid (Shows.nil _ _)
      have HO : Hid (OwnP wr none 0 r) := Lib.hid (hr0 ▸ OwnP.nil wr)
      have HLT : Hid ((r.take 0).length = 0) := Lib.hid rfl
      have HLD : Hid ((r.drop 0).length = 0 - 0) := Lib.hid (by rw [hr0]; rfl)
      have HSH : Hid (Shows wr none (cellsP (r.take 0))) := Lib.hid (Shows.nil _ _)
      go_wp2_with (first | (at_builtin; refine wpl_appP (dst := some 31) _ _ none 0 0 [] rfl rfl (OwnP.nil _) none 0 0 (r.take 0) rfl HLT.out HSH.out (by omega) ?_) | fail)
      intro a1 c1 w2 o1 m2 s2
      have HO1 : Hid (OwnP w2 a1 c1 (r.take 0)) := Lib.hid o1
      have HM2 : Hid (Mod [] wr w2) := Lib.hid m2
      have HS2 := Lib.hid s2
      clear o1 m2 s2
      try rw [Nat.zero_add]
      obtain ⟨w3, hw3, hh3⟩ : ∃ w3, w2.alloc (.cells #[.string k, .string ⟨#[]⟩] 55) = w3 ∧ w3.heap[w2.heap.size]? = some (.cells #[.string k, .string ⟨#[]⟩] 55 (0, 0)) := ⟨_, rfl, heap_alloc_new _ _⟩
      have m3 : Mod [] w2 w3 := hw3 ▸ Mod.alloc _ _ _
      have SH := Lib.hid (showsP hh3)
      have HO1' := Lib.hid (HO1.out.mod0 m3)
      have HM3 := Lib.hid m3
      clear m3 hh3 HO1
      go_wp2_with (first | (at_builtin; refine wpl_appP (dst := some 37) _ _ a1 0 c1 (r.take 0) rfl HLT.out HO1'.out _ 1 1 [k] rfl rfl SH.out (by omega) ?_) | fail)
      intro a2 c2 w4 o4 m4 s4
      have HST := with_step2 HO.out HM2.out HS2.out HM3.out m4 s4
      have HO2 := Lib.hid o4
      have HL2 : Hid ((r.take 0 ++ [k]).length = 0 + 1) := Lib.hid (by rw [List.length_append, HLT.out]; rfl)
      have HS4 := Lib.hid (show Shows w4 none (cellsP (r.drop 0)) by rw [hr0]; exact Shows.nil _ _)
      have HM4 := Lib.hid HST.2.1
      have HN4 := Lib.hid HST.2.2
      clear o4 m4 s4 HST HO1' SH HS2 HM2 HM3 hw3 HSH
      go_wp2_with (first | (at_builtin; refine wpl_appP (dst := some 42) _ _ a2 (0 + 1) c2 (r.take 0 ++ [k]) rfl HL2.out HO2.out _ (0 - 0) _ (r.drop 0) rfl HLD.out HS4.out (by omega) ?_) | fail)
      intro a3 c3 w5 o5 m5 s5
      have HO5 := Lib.hid o5
      have HF := Lib.hid (with_step3 HM.out HM4.out HN4.out m5 s5)
      clear o5 m5 s5
      go_wp2
      go_ret
      exact ⟨_, (HLAW.out 0).1, (HLAW.out 0).2.1, (HLAW.out 0).2.2, a3, 0 + 1 + (0 - 0), c3, rfl, by rw [List.length_append, HL2.out, HLD.out], HO5.out, HF.out.1, HF.out.2⟩
  | some a =>
  obtain ⟨g, hg⟩ : ∃ g, some a = some (⟨g, 0, none⟩ : Addr) := by
    rcases ho.2 with ⟨h, _⟩ | ⟨g, _, _, h, _⟩
    · cases h
    · exact ⟨g, h⟩
  cases hg
  have HO := Lib.hid ho
  clear hm ho hb
  go_wp2
  go_loopw [8] (fun i wr => ∃ p : Nat, p ≤ m ∧ i = .int .i64 (p : Int) ∧ wr = w1) (fun i _ => m - (intOf i).toNat)
  case atStart => exact ⟨0, Nat.zero_le _, rfl, rfl⟩
  case round =>
    obtain ⟨p, hp, rfl, rfl⟩ := hrel
    have HLT : Hid ((r.take p).length = p) := Lib.hid (by rw [List.length_take, HR.out]; exact Nat.min_eq_left hp)
    have HLD : Hid ((r.drop p).length = m - p) := Lib.hid (by rw [List.length_drop, HR.out])
    have HSH := Lib.hid (shows_part HO.out p (by rw [HR.out]; exact hp)).1
    by_cases hlt : p < m
    · obtain ⟨g', eg, c0, -⟩ := HO.out.at' (j := p) (by rw [HR.out]; exact hlt)
      cases eg
      obtain ⟨x, hx⟩ : ∃ x, r[p]'(by rw [HR.out]; exact hlt) = x := ⟨_, rfl⟩
      rw [hx] at c0
      clear hx
      obtain ⟨bl, hbl⟩ : ∃ bl, Op.bytesLess x.toList k.toList = bl := ⟨_, rfl⟩
      cases bl with
      | true =>
        go_wp2
        go_roundw
        case rel => exact ⟨p + 1, by omega, by go_num, by first | rfl | trivial⟩
        case measure => simp [intOf]; omega
      | false =>
        go_wp2_with (first | (at_builtin; refine wpl_appP (dst := some 31) _ _ none 0 0 [] rfl rfl (OwnP.nil _) _ p _ (r.take p) rfl HLT.out HSH.out (by omega) ?_) | fail)
        intro a1 c1 w2 o1 m2 s2
        have HO1 : Hid (OwnP w2 a1 c1 (r.take p)) := Lib.hid o1
        have HM2 : Hid (Mod [] wr w2) := Lib.hid m2
        have HS2 := Lib.hid s2
        clear o1 m2 s2
        try rw [Nat.zero_add]
        obtain ⟨w3, hw3, hh3⟩ : ∃ w3, w2.alloc (.cells #[.string k, .string ⟨#[]⟩] 55) = w3 ∧ w3.heap[w2.heap.size]? = some (.cells #[.string k, .string ⟨#[]⟩] 55 (0, 0)) := ⟨_, rfl, heap_alloc_new _ _⟩
        have m3 : Mod [] w2 w3 := hw3 ▸ Mod.alloc _ _ _
        have SH := Lib.hid (showsP hh3)
        have HO1' := Lib.hid (HO1.out.mod0 m3)
        have HM3 := Lib.hid m3
        clear m3 hh3 HO1
        go_wp2_with (first | (at_builtin; refine wpl_appP (dst := some 37) _ _ a1 p c1 (r.take p) rfl HLT.out HO1'.out _ 1 1 [k] rfl rfl SH.out (by omega) ?_) | fail)
        intro a2 c2 w4 o4 m4 s4
        have HST := with_step2 HO.out HM2.out HS2.out HM3.out m4 s4
        have HO2 := Lib.hid o4
        have HL2 : Hid ((r.take p ++ [k]).length = p + 1) := Lib.hid (by rw [List.length_append, HLT.out]; rfl)
        have HS4 := Lib.hid (shows_part HST.1 p (by rw [HR.out]; exact hp)).2
        have HM4 := Lib.hid HST.2.1
        have HN4 := Lib.hid HST.2.2
        clear o4 m4 s4 HST HO1' SH HS2 HM2 HM3 hw3 HSH
        go_wp2_with (first | (at_builtin; refine wpl_appP (dst := some 42) _ _ a2 (p + 1) c2 (r.take p ++ [k]) rfl HL2.out HO2.out _ (m - p) _ (r.drop p) rfl HLD.out HS4.out (by omega) ?_) | fail)
        intro a3 c3 w5 o5 m5 s5
        have HO5 := Lib.hid o5
        have HF := Lib.hid (with_step3 HM.out HM4.out HN4.out m5 s5)
        clear o5 m5 s5
        go_wp2
        go_ret
        exact ⟨_, (HLAW.out p).1, (HLAW.out p).2.1, (HLAW.out p).2.2, a3, p + 1 + (m - p), c3, rfl, by rw [List.length_append, HL2.out, HLD.out], HO5.out, HF.out.1, HF.out.2⟩
    · have hpe : p = m := by omega
      subst hpe
      clear hp
      by_cases hoc : oc = p
      · subst hoc
        have HLD : Hid ((r.drop oc).length = 0) := Lib.hid (HLD.out.trans (Nat.sub_self _))
        go_wp2_with (first | (at_builtin; refine wpl_appP (dst := some 31) _ _ none 0 0 [] rfl rfl (OwnP.nil _) _ oc _ (r.take oc) rfl HLT.out HSH.out (by omega) ?_) | fail)
        intro a1 c1 w2 o1 m2 s2
        have HO1 : Hid (OwnP w2 a1 c1 (r.take oc)) := Lib.hid o1
        have HM2 : Hid (Mod [] wr w2) := Lib.hid m2
        have HS2 := Lib.hid s2
        clear o1 m2 s2
        try rw [Nat.zero_add]
        obtain ⟨w3, hw3, hh3⟩ : ∃ w3, w2.alloc (.cells #[.string k, .string ⟨#[]⟩] 55) = w3 ∧ w3.heap[w2.heap.size]? = some (.cells #[.string k, .string ⟨#[]⟩] 55 (0, 0)) := ⟨_, rfl, heap_alloc_new _ _⟩
        have m3 : Mod [] w2 w3 := hw3 ▸ Mod.alloc _ _ _
        have SH := Lib.hid (showsP hh3)
        have HO1' := Lib.hid (HO1.out.mod0 m3)
        have HM3 := Lib.hid m3
        clear m3 hh3 HO1
        go_wp2_with (first | (at_builtin; refine wpl_appP (dst := some 37) _ _ a1 oc c1 (r.take oc) rfl HLT.out HO1'.out _ 1 1 [k] rfl rfl SH.out (by omega) ?_) | fail)
        intro a2 c2 w4 o4 m4 s4
        have HST := with_step2 HO.out HM2.out HS2.out HM3.out m4 s4
        have HO2 := Lib.hid o4
        have HL2 : Hid ((r.take oc ++ [k]).length = oc + 1) := Lib.hid (by rw [List.length_append, HLT.out]; rfl)
        have HS4 := Lib.hid (show Shows w4 (some ⟨g, 0, none⟩) (cellsP (r.drop oc)) by rw [List.eq_nil_of_length_eq_zero HLD.out]; exact Shows.nil _ _)
        have HM4 := Lib.hid HST.2.1
        have HN4 := Lib.hid HST.2.2
        clear o4 m4 s4 HST HO1' SH HS2 HM2 HM3 hw3 HSH
        go_wp2_with (first | (at_builtin; refine wpl_appP (dst := some 42) _ _ a2 (oc + 1) c2 (r.take oc ++ [k]) rfl HL2.out HO2.out _ 0 _ (r.drop oc) rfl HLD.out HS4.out (by omega) ?_) | fail)
        intro a3 c3 w5 o5 m5 s5
        have HO5 := Lib.hid o5
        have HF := Lib.hid (with_step3 HM.out HM4.out HN4.out m5 s5)
        clear o5 m5 s5
        go_wp2
        go_ret
        exact ⟨_, (HLAW.out oc).1, (HLAW.out oc).2.1, (HLAW.out oc).2.2, a3, oc + 1 + 0, c3, rfl, by rw [List.length_append, HL2.out, HLD.out], HO5.out, HF.out.1, HF.out.2⟩
      · have hoc' : ¬ p = oc := fun h => hoc h.symm
        have HLD : Hid ((r.drop p).length = 0) := Lib.hid (HLD.out.trans (Nat.sub_self _))
        go_wp2_with (first | (at_builtin; refine wpl_appP (dst := some 31) _ _ none 0 0 [] rfl rfl (OwnP.nil _) _ p _ (r.take p) rfl HLT.out HSH.out (by omega) ?_) | fail)
        intro a1 c1 w2 o1 m2 s2
        have HO1 : Hid (OwnP w2 a1 c1 (r.take p)) := Lib.hid o1
        have HM2 : Hid (Mod [] wr w2) := Lib.hid m2
        have HS2 := Lib.hid s2
        clear o1 m2 s2
        try rw [Nat.zero_add]
        obtain ⟨w3, hw3, hh3⟩ : ∃ w3, w2.alloc (.cells #[.string k, .string ⟨#[]⟩] 55) = w3 ∧ w3.heap[w2.heap.size]? = some (.cells #[.string k, .string ⟨#[]⟩] 55 (0, 0)) := ⟨_, rfl, heap_alloc_new _ _⟩
        have m3 : Mod [] w2 w3 := hw3 ▸ Mod.alloc _ _ _
        have SH := Lib.hid (showsP hh3)
        have HO1' := Lib.hid (HO1.out.mod0 m3)
        have HM3 := Lib.hid m3
        clear m3 hh3 HO1
        go_wp2_with (first | (at_builtin; refine wpl_appP (dst := some 37) _ _ a1 p c1 (r.take p) rfl HLT.out HO1'.out _ 1 1 [k] rfl rfl SH.out (by omega) ?_) | fail)
        intro a2 c2 w4 o4 m4 s4
        have HST := with_step2 HO.out HM2.out HS2.out HM3.out m4 s4
        have HO2 := Lib.hid o4
        have HL2 : Hid ((r.take p ++ [k]).length = p + 1) := Lib.hid (by rw [List.length_append, HLT.out]; rfl)
        have HS4 := Lib.hid (shows_part HST.1 p (by rw [HR.out]; exact Nat.le_refl _)).2
        have HM4 := Lib.hid HST.2.1
        have HN4 := Lib.hid HST.2.2
        clear o4 m4 s4 HST HO1' SH HS2 HM2 HM3 hw3 HSH
        go_wp2_with (first | (at_builtin; refine wpl_appP (dst := some 42) _ _ a2 (p + 1) c2 (r.take p ++ [k]) rfl HL2.out HO2.out _ 0 _ (r.drop p) rfl HLD.out HS4.out (by omega) ?_) | fail)
        intro a3 c3 w5 o5 m5 s5
        have HO5 := Lib.hid o5
        have HF := Lib.hid (with_step3 HM.out HM4.out HN4.out m5 s5)
        clear o5 m5 s5
        go_wp2
        go_ret
        exact ⟨_, (HLAW.out p).1, (HLAW.out p).2.1, (HLAW.out p).2.2, a3, p + 1 + 0, c3, rfl, by rw [List.length_append, HL2.out, HLD.out], HO5.out, HF.out.1, HF.out.2⟩
end Go.Proofs.Ytkkjbeakmimmmaa
