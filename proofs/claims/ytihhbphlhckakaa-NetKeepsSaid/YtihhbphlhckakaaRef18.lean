/- The walks of the net laws' reference: rows of letters whose bytes are texts. -/
import Derived.Test.YtihhbphlhckakaaNet11
namespace Go.Proofs.Ytihhbphlhckakaa
open Go Go.RowKit Go.Lib

abbrev Lr := Int × Int × List UInt8
def refC (x : Lr) : List Value := [.int .i64 x.1, .int .i64 x.2.1, strV x.2.2]
def cellsR (l : List Lr) : List Value := l.flatMap refC
theorem cellsR_length (l : List Lr) : (cellsR l).length = l.length * 3 := by
  induction l with
  | nil => rfl
  | cons a r ih => simp only [cellsR, List.flatMap_cons, List.length_append, refC, List.length_cons, List.length_nil] at *; omega
theorem cellsR_at : ∀ (l : List Lr) (j : Nat) (hj : j < l.length), (cellsR l)[j * 3]? = some (.int .i64 l[j].1) ∧ (cellsR l)[j * 3 + 1]? = some (.int .i64 l[j].2.1) ∧ (cellsR l)[j * 3 + 2]? = some (strV l[j].2.2) := by
  intro l
  induction l with
  | nil => intro j hj; exact absurd hj (by simp)
  | cons a r ih =>
    intro j hj
    cases j with
    | zero => exact ⟨rfl, rfl, rfl⟩
    | succ j =>
      have := ih j (by simpa using hj)
      have e : (j + 1) * 3 = j * 3 + 1 + 1 + 1 := by omega
      rw [e]
      exact this
def OwnR (w : World) (ao : Option Addr) (cap : Nat) (l : List Lr) : Prop := Own w 58 3 ao l.length cap (cellsR l)
theorem OwnR.at' {w : World} {ao : Option Addr} {cap : Nat} {l : List Lr} (h : OwnR w ao cap l) {j : Nat} (hj : j < l.length) :
    ∃ g, ao = some ⟨g, 0, none⟩ ∧ w.cell? ⟨g, j * 3, none⟩ = some (.int .i64 l[j].1) ∧ w.cell? ⟨g, j * 3 + 1, none⟩ = some (.int .i64 l[j].2.1) ∧ w.cell? ⟨g, j * 3 + 2, none⟩ = some (strV l[j].2.2) ∧ w.frozen? ⟨g, j * 3 + 2, none⟩ = false := by
  obtain ⟨h1, h2, h3⟩ := cellsR_at l j hj
  obtain ⟨g, e1, e2, _⟩ := Own.cell h h1
  obtain ⟨g', e1', e2', _⟩ := Own.cell h h2
  obtain ⟨g'', e1'', e2'', f2⟩ := Own.cell h h3
  rw [e1] at e1' e1''
  cases e1'
  cases e1''
  exact ⟨g, e1, e2, e2', e2'', f2⟩
theorem infoRef : (Try.prog.info? 58).map (fun i => (i.zero, i.size, i.bytes)) = some (some (.agg #[.int .i64 0, .int .i64 0, .string ⟨#[]⟩]), 3, 32) := by kernel_rfl
theorem wpl_appR {w : World} {ops : Array Oper} {rest : List Oper} {a : Act} {Q : Exit → Act → World → Prop} {dst : Option Tmp} {ty : TypeId} {pos : String} {after : Array Edge} (s x : Operand)
    (ao : Option Addr) (n cap : Nat) (xs : List Lr) (hs : a.eval s = .slice ao n cap) (hn : xs.length = n) (hown : OwnR w ao cap xs)
    (g : Nat) (y : Lr) (hx : a.eval x = .slice (some ⟨g, 0, none⟩) 1 1) (hsh : Shows w (some ⟨g, 0, none⟩) (cellsR [y])) (hb : n + 1 ≤ 1000000)
    (h : ∀ ao' cap' w', OwnR w' ao' cap' (xs ++ [y]) → Mod (blk ao) w w' → SameOrNew w w' ao ao' → wpList Try.prog ops Q rest (a.put dst (.slice ao' (n + 1) cap')) w') :
    wpList Try.prog ops Q (⟨dst, .call { callee := .builtin .append, args := #[s, x], argTypes := #[39, 39] }, ty, pos, after, none⟩ :: rest) a w := by
  obtain ⟨i0, hi, hz0, hz1, hz2⟩ := info_parts infoRef
  subst hn
  refine wpl_append w rfl s x 39 rfl 58 i0 _ 3 32 Try.underlying39 hi hz0 hz1 hz2 rfl (by decide) ao _ cap _ hs hown (some ⟨g, 0, none⟩) 1 1 (cellsR [y]) hx (cellsR_length [y]) hsh ?_ (by unfold maxLen; omega) (by omega) ?_
  · intro u hu
    obtain ⟨x, hx, hu⟩ := List.mem_flatMap.1 hu
    simp only [refC, List.mem_cons, List.not_mem_nil, or_false] at hu
    rcases hu with rfl | rfl | rfl <;> rfl
  · intro ao' cap' w' h1 h2 h3
    refine h ao' cap' w' ?_ h2 h3
    unfold OwnR cellsR
    rw [List.length_append, List.flatMap_append]
    exact h1
theorem showsR {w : World} {g : Nat} {x : Lr} {t : TypeId} {z : Nat × Nat} (h : w.heap[g]? = some (.cells #[.int .i64 x.1, .int .i64 x.2.1, strV x.2.2] t z)) : Shows w (some ⟨g, 0, none⟩) (cellsR [x]) := by
  intro j u hj
  refine ⟨_, rfl, ?_⟩
  rw [Addr.add_lit, cell_of_block h, Nat.zero_add]
  have : (cellsR [x]) = [.int .i64 x.1, .int .i64 x.2.1, strV x.2.2] := by simp [cellsR, refC]
  rw [this] at hj
  rw [← hj]
  simp

/-- The first j without the one at k. -/
def wo (L : List Lr) (k : Int) : Nat → List Lr
  | 0 => []
  | j + 1 => if (j : Int) = k then wo L k j else wo L k j ++ [L.getD j (0, 0, [])]
theorem wo_none (L : List Lr) (k : Int) (hk : k < 0) : ∀ j, j ≤ L.length → wo L k j = L.take j
  | 0, _ => by simp [wo]
  | j + 1, h => by
    unfold wo
    rw [if_neg (by omega), wo_none L k hk j (by omega), take_snoc L j (by omega)]
    simp [List.getD, List.getElem?_eq_getElem (show j < L.length by omega)]
theorem wo_below (L : List Lr) (k : Nat) : ∀ j, j ≤ L.length → j ≤ k → wo L k j = L.take j
  | 0, _, _ => by simp [wo]
  | j + 1, h, hk => by
    unfold wo
    rw [if_neg (by omega), wo_below L k j (by omega) (by omega), take_snoc L j (by omega)]
    simp [List.getD, List.getElem?_eq_getElem (show j < L.length by omega)]
theorem wo_above (L : List Lr) (k : Nat) (hk : k < L.length) : ∀ j, j ≤ L.length → k < j → wo L k j = (L.take j).eraseIdx k
  | 0, _, h => absurd h (by omega)
  | j + 1, h, hkj => by
    unfold wo
    by_cases he : j = k
    · subst he
      rw [if_pos rfl, wo_below L j j (by omega) (Nat.le_refl _), take_snoc L j (by omega)]
      rw [List.eraseIdx_append_of_length_le (by rw [List.length_take]; omega), List.length_take, Nat.min_eq_left (by omega), Nat.sub_self]
      simp
    · rw [if_neg (by omega), wo_above L k hk j (by omega) (by omega), take_snoc L j (by omega), List.eraseIdx_append_of_lt_length (by rw [List.length_take]; omega)]
      simp [List.getD, List.getElem?_eq_getElem (show j < L.length by omega)]
theorem wo_len (L : List Lr) (k : Int) : ∀ j, (wo L k j).length ≤ j
  | 0 => by simp [wo]
  | j + 1 => by
    have := wo_len L k j
    unfold wo
    split
    · omega
    · simp; omega

set_option maxRecDepth 100000 in
set_option maxHeartbeats 2000000 in
theorem without_any (ao : Option Addr) (c : Nat) (L : List Lr) (k : Int) (w : World) (h : OwnR w ao c L) (hl : L.length ≤ 1000) :
    Calls Try.prog 34 #[.slice ao L.length c, .int .i64 k] w fun e w' => ∃ a' c', e = .returned (.slice a' (wo L k L.length).length c') ∧ OwnR w' a' c' (wo L k L.length) ∧ Mod [] w w' ∧ ∀ j, j ∈ blk a' → w.heap.size ≤ j := by
  have H := Lib.hid h
  clear h
  go_enter Try.func34, Try.ntmps34
  go_wp2
  go_loopw [5, 6] (fun o i wr => ∃ (j : Nat) (a : Option Addr) (c2 : Nat) (R : List Lr), j ≤ L.length ∧ i = .int .i64 (j : Int) ∧ o = .slice a R.length c2 ∧ R = wo L k j ∧ OwnR wr a c2 R ∧ (∀ x, x ∈ blk a → w.heap.size ≤ x) ∧ Mod [] w wr) (fun _ i _ => L.length - (intOf i).toNat)
  case atStart => exact ⟨0, none, 0, [], Nat.zero_le _, rfl, rfl, rfl, Own.nil0 _ _ _, by simp [blk], Mod.refl _ _⟩
  case round =>
    obtain ⟨j, a, c2, R, hj, rfl, rfl, hR, ho, hfr, hm⟩ := hrel
    have HO := Lib.hid ho
    have HF := Lib.hid hfr
    have M := Lib.hid hm
    have HR := Lib.hid hR
    have hlenR : R.length ≤ 1000 := by rw [hR]; have := wo_len L k j; omega
    have H1 := Lib.hid (Own.mod0 H.out hm)
    clear ho hfr hm hR
    by_cases hlt : j < L.length
    · by_cases hk : (j : Int) = k
      · have HR2 : Hid (R = wo L k (j + 1)) := by
          show R = wo L k (j + 1)
          rw [HR.out]
          show _ = if (j : Int) = k then wo L k j else _
          rw [if_pos hk]
        subst hk
        go_wp2
        go_roundw
        case rel => exact ⟨j + 1, a, c2, R, by omega, by go_num, rfl, HR2.out, HO.out, HF.out, M.out⟩
        case measure => simp [intOf]; omega
      · obtain ⟨b, rfl, p0, p1, p2, -⟩ := OwnR.at' H1.out hlt
        obtain ⟨⟨fr, to, bs⟩, hx⟩ : ∃ x, L[j] = x := ⟨_, rfl⟩
        rw [hx] at p0 p1 p2
        dsimp only at p0 p1 p2
        have HR2 : Hid (R ++ [(fr, to, bs)] = wo L k (j + 1)) := by
          show R ++ [(fr, to, bs)] = wo L k (j + 1)
          rw [HR.out]
          show _ = if (j : Int) = k then wo L k j else _
          rw [if_neg hk]
          simp [List.getD, List.getElem?_eq_getElem hlt, hx]
        clear hx
        unfold strV at p2
        have mb := Mod.alloc [] wr (.cells #[.int .i64 fr, .int .i64 to, strV bs] 58)
        have HSH := Lib.hid (showsR (x := (fr, to, bs)) (heap_alloc_new wr (.cells #[.int .i64 fr, .int .i64 to, strV bs] 58)))
        have HO2 := Lib.hid (Own.mod0 HO.out mb)
        have M2 := Lib.hid (M.out.trans' mb)
        clear mb
        go_wp2_with (first | (at_builtin; refine wpl_appR (dst := some 22) _ _ a R.length c2 R rfl rfl HO2.out _ (fr, to, bs) rfl HSH.out (by omega) ?_) | fail)
        intro a5 c5 w5 o5 m5 s5
        have HO5 := Lib.hid o5
        have M5 : Hid (Mod [] w w5) := M2.out.trans m5 (fun i hi hl => by have := HF.out i hi; omega)
        have HF5 : Hid (∀ x, x ∈ blk a5 → w.heap.size ≤ x) := fun x hx => by
          rcases s5.blk x hx with h | h
          · exact HF.out x h
          · exact Nat.le_trans M2.out.size h
        clear o5 m5 s5
        go_wp2
        go_roundw
        case rel => exact ⟨j + 1, a5, c5, R ++ [(fr, to, bs)], by omega, by go_num, by simp, HR2.out, HO5.out, HF5.out, M5.out⟩
        case measure => simp [intOf]; omega
    · have hje : j = L.length := by omega
      subst hje
      go_wp2
      go_ret
      refine ⟨a, c2, by rw [HR.out]; rfl, by rw [← HR.out]; exact HO.out, M.out, HF.out⟩
end Go.Proofs.Ytihhbphlhckakaa
