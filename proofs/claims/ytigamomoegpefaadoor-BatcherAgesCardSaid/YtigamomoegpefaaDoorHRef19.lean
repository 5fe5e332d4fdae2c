/- The batcher laws' reference: how it lies; May, Put, Eldest, Ready. -/
import Derived.Test.YtigamomoegpefaaDoorZ7
namespace Go.Proofs.YtigamomoegpefaaDoor
open Go Go.RowKit Go.Lib

abbrev Wt := Cm × Int
def wtC (x : Wt) : List Value := [.int .u32 (x.1.1.client : Int), .int .u32 (x.1.1.seq : Int), .int .u8 (x.1.1.kind : Int), .slice x.1.2.1 x.1.1.keys.length x.1.2.2, .string x.1.1.old, .string x.1.1.fresh, .int .i64 x.1.1.n, .int .i64 x.2]
def cellsW (l : List Wt) : List Value := l.flatMap wtC
theorem cellsW_length (l : List Wt) : (cellsW l).length = l.length * 8 := by
  induction l with
  | nil => rfl
  | cons a r ih => simp only [cellsW, List.flatMap_cons, List.length_append, wtC, List.length_cons, List.length_nil] at *; omega
theorem cellsW_at : ∀ (l : List Wt) (j : Nat) (hj : j < l.length) (i : Nat), i < 8 → (cellsW l)[j * 8 + i]? = (wtC l[j])[i]? := by
  intro l
  induction l with
  | nil => intro j hj; exact absurd hj (by simp)
  | cons a r ih =>
    intro j hj i hi
    cases j with
    | zero =>
      rw [Nat.zero_mul, Nat.zero_add]
      exact List.getElem?_append_left (show i < (wtC a).length from hi)
    | succ j =>
      have e : (j + 1) * 8 + i = 8 + (j * 8 + i) := by omega
      rw [e]
      show (wtC a ++ cellsW r)[8 + (j * 8 + i)]? = _
      rw [List.getElem?_append_right (by simp [wtC])]
      have := ih j (by simpa using hj) i hi
      simpa [wtC] using this
theorem cellsW_take (l : List Wt) : ∀ k, (cellsW l).take (k * 8) = cellsW (l.take k) := by
  induction l with
  | nil => intro k; simp [cellsW]
  | cons a r ih =>
    intro k
    cases k with
    | zero => simp [cellsW]
    | succ k =>
      have e : (k + 1) * 8 = 8 + k * 8 := by omega
      rw [e, List.take_succ_cons]
      show (wtC a ++ cellsW r).take (8 + k * 8) = wtC a ++ cellsW (r.take k)
      rw [← ih k, List.take_append, List.take_of_length_le (show (wtC a).length ≤ 8 + k * 8 by simp [wtC]), show 8 + k * 8 - (wtC a).length = k * 8 by simp [wtC]]
theorem cellsW_drop (l : List Wt) : ∀ k, (cellsW l).drop (k * 8) = cellsW (l.drop k) := by
  induction l with
  | nil => intro k; simp [cellsW]
  | cons a r ih =>
    intro k
    cases k with
    | zero => simp [cellsW]
    | succ k =>
      have e : (k + 1) * 8 = 8 + k * 8 := by omega
      rw [e, List.drop_succ_cons]
      show (wtC a ++ cellsW r).drop (8 + k * 8) = cellsW (r.drop k)
      rw [← ih k, List.drop_append, List.drop_of_length_le (show (wtC a).length ≤ 8 + k * 8 by simp [wtC]), show 8 + k * 8 - (wtC a).length = k * 8 by simp [wtC], List.nil_append]
def OwnW (w : World) (ao : Option Addr) (cap : Nat) (l : List Wt) : Prop := Own w 77 8 ao l.length cap (cellsW l)
/-- The cells of one. -/
def WtAt (w : World) (b o : Nat) (x : Wt) : Prop := (w.cell? ⟨b, o, none⟩ = some (.int .u32 (x.1.1.client : Int)) ∧ w.cell? ⟨b, o + 1, none⟩ = some (.int .u32 (x.1.1.seq : Int)) ∧ w.cell? ⟨b, o + 2, none⟩ = some (.int .u8 (x.1.1.kind : Int)) ∧
  w.cell? ⟨b, o + 3, none⟩ = some (.slice x.1.2.1 x.1.1.keys.length x.1.2.2) ∧ w.cell? ⟨b, o + 4, none⟩ = some (.string x.1.1.old) ∧ w.cell? ⟨b, o + 5, none⟩ = some (.string x.1.1.fresh) ∧ w.cell? ⟨b, o + 6, none⟩ = some (.int .i64 x.1.1.n)) ∧ w.cell? ⟨b, o + 7, none⟩ = some (.int .i64 x.2)
theorem OwnW.at' {w : World} {ao : Option Addr} {cap : Nat} {l : List Wt} (h : OwnW w ao cap l) {j : Nat} (hj : j < l.length) : ∃ g, ao = some ⟨g, 0, none⟩ ∧ WtAt w g (j * 8) l[j] := by
  have key : ∀ i v, i < 8 → (wtC l[j])[i]? = some v → ∃ g, ao = some ⟨g, 0, none⟩ ∧ w.cell? ⟨g, j * 8 + i, none⟩ = some v := fun i v hi hv => by
    obtain ⟨g, h1, h2, _⟩ := Own.cell h (j := j * 8 + i) (u := v) (by rw [cellsW_at l j hj i hi]; exact hv)
    exact ⟨g, h1, h2⟩
  obtain ⟨g, rfl, c0⟩ := key 0 _ (by omega) rfl
  have key2 : ∀ i v, i < 8 → (wtC l[j])[i]? = some v → w.cell? ⟨g, j * 8 + i, none⟩ = some v := fun i v hi hv => by
    obtain ⟨g', h1, h2⟩ := key i v hi hv
    cases h1; exact h2
  exact ⟨g, rfl, ⟨c0, key2 1 _ (by omega) rfl, key2 2 _ (by omega) rfl, key2 3 _ (by omega) rfl, key2 4 _ (by omega) rfl, key2 5 _ (by omega) rfl, key2 6 _ (by omega) rfl⟩, key2 7 _ (by omega) rfl⟩
theorem OwnW.takes {w : World} {ao : Option Addr} {cap : Nat} {l : List Wt} (h : OwnW w ao cap l) (k : Nat) : Shows w ao (cellsW (l.take k)) := by
  intro j u hj
  rw [← cellsW_take, List.getElem?_take] at hj
  split at hj
  · exact Own.shows h j u hj
  · cases hj
theorem OwnW.drops {w : World} {g cap : Nat} {l : List Wt} (h : OwnW w (some ⟨g, 0, none⟩) cap l) (k : Nat) : Shows w (some ⟨g, k * 8, none⟩) (cellsW (l.drop k)) := by
  intro j u hj
  rw [← cellsW_drop, List.getElem?_drop] at hj
  obtain ⟨g', h1, h2, _⟩ := Own.cell h hj
  cases h1
  exact ⟨_, rfl, by rw [Addr.add_lit]; exact h2⟩
theorem infoWt : (Tryd.prog.info? 77).map (fun i => (i.zero, i.size, i.bytes)) = some (some (.agg #[.int .u32 0, .int .u32 0, .int .u8 0, .slice none 0 0, .string ⟨#[]⟩, .string ⟨#[]⟩, .int .i64 0, .int .i64 0]), 8, 88) := by kernel_rfl
theorem wpl_appW {w : World} {ops : Array Oper} {rest : List Oper} {a : Act} {Q : Exit → Act → World → Prop} {dst : Option Tmp} {ty : TypeId} {pos : String} {after : Array Edge} (s x : Operand)
    (ao : Option Addr) (n cap : Nat) (xs : List Wt) (hs : a.eval s = .slice ao n cap) (hn : xs.length = n) (hown : OwnW w ao cap xs)
    (so : Option Addr) (m c : Nat) (ys : List Wt) (hx : a.eval x = .slice so m c) (hm : ys.length = m) (hsh : Shows w so (cellsW ys)) (hb : n + m ≤ 1000000)
    (h : ∀ ao' cap' w', OwnW w' ao' cap' (xs ++ ys) → Mod (blk ao) w w' → SameOrNew w w' ao ao' → wpList Tryd.prog ops Q rest (a.put dst (.slice ao' (n + m) cap')) w') :
    wpList Tryd.prog ops Q (⟨dst, .call { callee := .builtin .append, args := #[s, x], argTypes := #[47, 47] }, ty, pos, after, none⟩ :: rest) a w := by
  obtain ⟨i0, hi, hz0, hz1, hz2⟩ := info_parts infoWt
  subst hn hm
  refine wpl_append w rfl s x 47 rfl 77 i0 _ 8 88 Tryd.underlying47 hi hz0 hz1 hz2 rfl (by decide) ao _ cap _ hs hown so _ c (cellsW ys) hx (cellsW_length ys) hsh ?_ (by unfold maxLen; omega) (by omega) ?_
  · intro u hu
    obtain ⟨x, hx, hu⟩ := List.mem_flatMap.1 hu
    simp only [wtC, List.mem_cons, List.not_mem_nil, or_false] at hu
    rcases hu with rfl | rfl | rfl | rfl | rfl | rfl | rfl | rfl <;> rfl
  · intro ao' cap' w' h1 h2 h3
    refine h ao' cap' w' ?_ h2 h3
    unfold OwnW cellsW
    rw [List.length_append, List.flatMap_append]
    exact h1
theorem showsW {w : World} {g : Nat} {x : Wt} {t : TypeId} {z : Nat × Nat} (h : w.heap[g]? = some (.cells (wtC x).toArray t z)) : Shows w (some ⟨g, 0, none⟩) (cellsW [x]) := by
  intro j u hj
  refine ⟨_, rfl, ?_⟩
  rw [Addr.add_lit, cell_of_block h, Nat.zero_add]
  have : cellsW [x] = wtC x := by simp [cellsW]
  rw [this] at hj
  rw [← hj]
  simp

/-- What the reference has: commands, each with its due time. -/
def rL (l : List Wt) : List (Cd × Int) := l.map fun x => (x.1.1, x.2)
theorem rL_length (l : List Wt) : (rL l).length = l.length := by simp [rL]
theorem rL_due (l : List Wt) (j : Nat) (h : j < l.length) : dueOf (rL l) j = l[j].2 := by simp [dueOf, rL, h]
/-- The reference's block; its commands' keys lie in the world w0. -/
structure RefW (w0 w : World) (g : Nat) (ba ag now : Int) (la : Option Addr) (lc : Nat) (l : List Wt) : Prop where
  blk : w.heap[g]? = some (.cells #[.int .i64 ba, .int .i64 ag, .int .i64 now, .slice la l.length lc] 49 (0, 0))
  own : OwnW w la lc l
  off : g ∉ Proofs.YtigamomoegpefaaDoor.blk la
  each : ∀ x ∈ l, SeesT w0 x.1.2.1 x.1.1.keys ∧ Wf x.1.1
theorem RefW.mod {S : List Nat} {w0 w w' : World} {g : Nat} {ba ag now : Int} {la : Option Addr} {lc : Nat} {l : List Wt} (h : RefW w0 w g ba ag now la lc l) (m : Mod S w w') (hg : g ∉ S) (hl : ∀ k, k ∈ Proofs.YtigamomoegpefaaDoor.blk la → k ∉ S) : RefW w0 w' g ba ag now la lc l :=
  ⟨m.get h.blk hg, Own.mod h.own m hl, h.off, h.each⟩
theorem RefW.mod0 {w0 w w' : World} {g : Nat} {ba ag now : Int} {la : Option Addr} {lc : Nat} {l : List Wt} (h : RefW w0 w g ba ag now la lc l) (m : Mod [] w w') : RefW w0 w' g ba ag now la lc l := h.mod m List.not_mem_nil (fun _ _ => List.not_mem_nil)

set_option maxRecDepth 100000 in
set_option maxHeartbeats 2000000 in
theorem may19_any (n wi ba ag sn : Int) (w : World) :
    Calls Tryd.prog 17 #[.agg #[.int .i64 n, .int .i64 wi, .int .i64 ba, .int .i64 ag, .int .i64 sn]] w fun e w' => e = .returned (.bool (decide (CfgOk ba ag))) ∧ Mod [] w w' := by
  have HM := Lib.hid (Mod.alloc [] w (.cells #[.int .i64 n, .int .i64 wi, .int .i64 ba, .int .i64 ag, .int .i64 sn] 23))
  obtain ⟨t, ht⟩ : ∃ t, decide (CfgOk ba ag) = t := ⟨_, rfl⟩
  have HT : Hid ((1 ≤ ba ∧ ba ≤ 8 ∧ 1 ≤ ag ∧ ag ≤ 8) ↔ t = true) := Lib.hid (by rw [← ht]; exact ⟨fun h => decide_eq_true h, fun h => of_decide_eq_true h⟩)
  rw [ht]
  clear ht
  by_cases h1 : 1 ≤ ba
  case neg =>
    have D1 : decide (1 ≤ ba) = false := decide_eq_false h1
    have e : t = false := by cases t with | false => rfl | true => exact absurd (HT.out.2 rfl).1 h1
    subst e
    go_enter Tryd.func17, Tryd.ntmps17
    go_wp2_with fail
    go_ret
    exact ⟨rfl, HM.out⟩
  have D1 : decide (1 ≤ ba) = true := decide_eq_true h1
  by_cases h2 : ba ≤ 8
  case neg =>
    have D2 : decide (ba ≤ 8) = false := decide_eq_false h2
    have e : t = false := by cases t with | false => rfl | true => exact absurd (HT.out.2 rfl).2.1 h2
    subst e
    go_enter Tryd.func17, Tryd.ntmps17
    go_wp2_with fail
    go_ret
    exact ⟨rfl, HM.out⟩
  have D2 : decide (ba ≤ 8) = true := decide_eq_true h2
  by_cases h3 : 1 ≤ ag
  case neg =>
    have D3 : decide (1 ≤ ag) = false := decide_eq_false h3
    have e : t = false := by cases t with | false => rfl | true => exact absurd (HT.out.2 rfl).2.2.1 h3
    subst e
    go_enter Tryd.func17, Tryd.ntmps17
    go_wp2_with fail
    go_ret
    exact ⟨rfl, HM.out⟩
  have D3 : decide (1 ≤ ag) = true := decide_eq_true h3
  by_cases h4 : ag ≤ 8
  · have D4 : decide (ag ≤ 8) = true := decide_eq_true h4
    have e : t = true := HT.out.1 ⟨h1, h2, h3, h4⟩
    subst e
    go_enter Tryd.func17, Tryd.ntmps17
    go_wp2_with fail
    go_ret
    exact ⟨rfl, HM.out⟩
  · have D4 : decide (ag ≤ 8) = false := decide_eq_false h4
    have e : t = false := by cases t with | false => rfl | true => exact absurd (HT.out.2 rfl).2.2.2 h4
    subst e
    go_enter Tryd.func17, Tryd.ntmps17
    go_wp2_with fail
    go_ret
    exact ⟨rfl, HM.out⟩

set_option maxRecDepth 100000 in
set_option maxHeartbeats 4000000 in
theorem eldest19_any (w0 : World) (g : Nat) (ba ag now : Int) (la : Option Addr) (lc : Nat) (l : List Wt) (w : World) (h : RefW w0 w g ba ag now la lc l) (hl : l.length ≤ 100000) :
    Calls Tryd.prog 32 #[.pointer (some ⟨g, 0, none⟩)] w fun e w' => e = .returned (.int .i64 (match eldF (rL l) l.length with | none => -1 | some k => (k : Int))) ∧ Mod [] w w' := by
  have H := Lib.hid h
  obtain ⟨n, hn⟩ : ∃ n, l.length = n := ⟨_, rfl⟩
  have HN := Lib.hid hn
  obtain ⟨v, hv⟩ : ∃ v : Int, (match eldF (rL l) l.length with | none => -1 | some k => (k : Int)) = v := ⟨_, rfl⟩
  have HV := Lib.hid hv
  rw [hv]
  rw [hn] at hl
  clear h hn hv
  go_enter Tryd.func32, Tryd.ntmps32
  go_wp2_with fail
  go_loopw [3, 4] (fun k i wr => ∃ j : Nat, j ≤ n ∧ i = .int .i64 (j : Int) ∧ k = .int .i64 (match eldF (rL l) j with | none => -1 | some k => (k : Int)) ∧ Mod [] w wr) (fun _ i _ => n - (intOf i).toNat)
  case atStart => exact ⟨0, by omega, rfl, rfl, Mod.refl _ _⟩
  case round =>
    obtain ⟨j, hj, rfl, rfl, hm⟩ := hrel
    have MR := Lib.hid hm
    have HR := Lib.hid (H.out.mod0 hm)
    have c3 := cell_of_block (i := 3) HR.out.blk
    rw [HN.out] at c3
    clear hm
    by_cases hjn : j < n
    · obtain ⟨b, rfl, q⟩ := HR.out.own.at' (show j < l.length by rw [HN.out]; exact hjn)
      have q7 := q.2
      have hdj := rL_due l j (by rw [HN.out]; exact hjn)
      rw [← hdj] at q7
      clear q hdj
      rcases eldF_spec (rL l) j with ⟨rfl, he⟩ | ⟨k, he, hk, hk2, hk3⟩
      · have HE : Hid (eldF (rL l) (0 + 1) = some 0) := Lib.hid rfl
        rw [he]
        dsimp only
        go_wp2_with fail
        go_quiet (fail)
        go_wp2_with fail
        go_roundw
        case rel => exact ⟨1, by omega, rfl, by rw [HE.out], MR.out.trans0 (Mod.drewN _ _ _)⟩
        case measure => simp [intOf]; omega
      · obtain ⟨b', e1, q'⟩ := HR.out.own.at' (show k < l.length by rw [HN.out]; omega)
        cases e1
        have r7 := q'.2
        have hdk := rL_due l k (by rw [HN.out]; omega)
        rw [← hdk] at r7
        clear q' hdk hk2 hk3
        obtain ⟨dj, hdj⟩ : ∃ x, dueOf (rL l) j = x := ⟨_, rfl⟩
        obtain ⟨dk, hdk⟩ : ∃ x, dueOf (rL l) k = x := ⟨_, rfl⟩
        rw [hdj] at q7
        rw [hdk] at r7
        have HE : Hid (eldF (rL l) (j + 1) = if dj < dk then some j else some k) := Lib.hid (by rw [eldF, he]; dsimp only; rw [hdj, hdk])
        rw [he]
        dsimp only
        have D0 : decide ((k : Int) < 0) = false := by simp
        have hk0 : (k : Int) < (n : Int) := by omega
        clear he hdj hdk
        by_cases hd : dj < dk
        · have D1 : decide (dj < dk) = true := decide_eq_true hd
          have HE2 : Hid (eldF (rL l) (j + 1) = some j) := Lib.hid (by rw [HE.out, if_pos hd])
          clear HE
          go_wp2_with fail
          go_quiet (fail)
          go_wp2_with fail
          go_roundw
          case rel => exact ⟨j + 1, by omega, by go_num, by rw [HE2.out], MR.out.trans0 (Mod.drewN _ _ _)⟩
          case measure => simp [intOf]; omega
        · have D1 : decide (dj < dk) = false := decide_eq_false hd
          have HE2 : Hid (eldF (rL l) (j + 1) = some k) := Lib.hid (by rw [HE.out, if_neg hd])
          clear HE
          go_wp2_with fail
          go_quiet (fail)
          go_wp2_with fail
          go_roundw
          case rel => exact ⟨j + 1, by omega, by go_num, by rw [HE2.out], MR.out.trans0 (Mod.drewN _ _ _)⟩
          case measure => simp [intOf]; omega
    · have hje : j = n := by omega
      subst hje
      have hv : (match eldF (rL l) j with | none => -1 | some k => (k : Int)) = v := by rw [← HV.out, HN.out]
      rw [hv]
      go_wp2_with fail
      go_ret
      exact ⟨rfl, MR.out⟩
end Go.Proofs.YtigamomoegpefaaDoor
