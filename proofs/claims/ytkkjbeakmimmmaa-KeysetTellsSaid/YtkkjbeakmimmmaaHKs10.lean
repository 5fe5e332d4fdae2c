/- The reference's keys: pairs in a list. -/
import Derived.Test.YtkkjbeakmimmmaaZ2
import Derived.Handy
namespace Go.Proofs.Ytkkjbeakmimmmaa
open Go Go.RowKit Go.Lib

def pairC (k : ByteArray) : List Value := [.string k, .string ⟨#[]⟩]
def cellsP (l : List ByteArray) : List Value := l.flatMap pairC
theorem cellsP_length (l : List ByteArray) : (cellsP l).length = l.length * 2 := by
  induction l with
  | nil => rfl
  | cons c l ih =>
    show (pairC c ++ cellsP l).length = _
    rw [List.length_append, ih]
    show 2 + _ = (l.length + 1) * 2
    omega
theorem cellsP_at (l : List ByteArray) : ∀ (j : Nat) (hj : j < l.length) (i : Nat), i < 2 → (cellsP l)[j * 2 + i]? = (pairC l[j])[i]? := by
  induction l with
  | nil => intro j hj; exact absurd hj (Nat.not_lt_zero _)
  | cons c l ih =>
    intro j hj i hi
    have e : cellsP (c :: l) = pairC c ++ cellsP l := rfl
    have e2 : (pairC c).length = 2 := rfl
    cases j with
    | zero =>
      rw [e, Nat.zero_mul, Nat.zero_add, List.getElem?_append_left (by omega)]
      rfl
    | succ j =>
      rw [e, List.getElem?_append_right (by omega), e2, show (j + 1) * 2 + i - 2 = j * 2 + i by omega, ih j (by simpa using hj) i hi]
      rfl
theorem cellsP_append (l m : List ByteArray) : cellsP (l ++ m) = cellsP l ++ cellsP m := List.flatMap_append
def OwnP (w : World) (ao : Option Addr) (cap : Nat) (l : List ByteArray) : Prop := Own w 55 2 ao l.length cap (cellsP l)
theorem OwnP.nil (w : World) : OwnP w none 0 [] := Own.nil0 w _ 2
theorem OwnP.mod {S : List Nat} {w w' : World} {ao : Option Addr} {cap : Nat} {l : List ByteArray} (h : OwnP w ao cap l) (hm : Mod S w w') (hn : ∀ k, k ∈ blk ao → k ∉ S) : OwnP w' ao cap l := Own.mod h hm hn
theorem OwnP.mod0 {w w' : World} {ao : Option Addr} {cap : Nat} {l : List ByteArray} (h : OwnP w ao cap l) (hm : Mod [] w w') : OwnP w' ao cap l := Own.mod0 h hm
theorem OwnP.at' {w : World} {ao : Option Addr} {cap : Nat} {l : List ByteArray} (h : OwnP w ao cap l) {j : Nat} (hj : j < l.length) :
    ∃ g, ao = some ⟨g, 0, none⟩ ∧ w.cell? ⟨g, j * 2, none⟩ = some (.string l[j]) ∧ w.cell? ⟨g, j * 2 + 1, none⟩ = some (.string ⟨#[]⟩) := by
  obtain ⟨g, h1, h2, _⟩ := Own.cell h (j := j * 2 + 0) (u := .string l[j]) (by rw [cellsP_at l j hj 0 (by omega)]; rfl)
  obtain ⟨g', h1', h2', _⟩ := Own.cell h (j := j * 2 + 1) (u := .string ⟨#[]⟩) (by rw [cellsP_at l j hj 1 (by omega)]; rfl)
  rw [h1] at h1'
  cases h1'
  exact ⟨g, h1, h2, h2'⟩
theorem infoPair : (Try.prog.info? 55).map (fun i => (i.zero, i.size, i.bytes)) = some (some (.agg #[.string ⟨#[]⟩, .string ⟨#[]⟩]), 2, 32) := by kernel_rfl
/-- append of pairs. -/
theorem wpl_appP {w : World} {ops : Array Oper} {rest : List Oper} {a : Act} {Q : Exit → Act → World → Prop} {dst : Option Tmp} {ty : TypeId} {pos : String} {after : Array Edge} (s x : Operand)
    (ao : Option Addr) (n cap : Nat) (xs : List ByteArray) (hs : a.eval s = .slice ao n cap) (hn : xs.length = n) (hown : OwnP w ao cap xs)
    (so : Option Addr) (m c : Nat) (ys : List ByteArray) (hx : a.eval x = .slice so m c) (hm : ys.length = m) (hsh : Shows w so (cellsP ys)) (hb : n + m ≤ 1000000)
    (h : ∀ ao' cap' w', OwnP w' ao' cap' (xs ++ ys) → Mod (blk ao) w w' → SameOrNew w w' ao ao' → wpList Try.prog ops Q rest (a.put dst (.slice ao' (n + m) cap')) w') :
    wpList Try.prog ops Q (⟨dst, .call { callee := .builtin .append, args := #[s, x], argTypes := #[52, 52] }, ty, pos, after, none⟩ :: rest) a w := by
  obtain ⟨i0, hi, hz0, hz1, hz2⟩ := info_parts infoPair
  subst hn hm
  refine wpl_append w rfl s x 52 rfl 55 i0 _ 2 32 Try.underlying52 hi hz0 hz1 hz2 rfl (by decide) ao _ cap _ hs hown so _ c (cellsP ys) hx (cellsP_length ys) hsh ?_ (by unfold maxLen; omega) (by omega) ?_
  · intro u hu
    obtain ⟨x, hx, hu⟩ := List.mem_flatMap.1 hu
    simp only [pairC, List.mem_cons, List.not_mem_nil, or_false] at hu
    rcases hu with rfl | rfl <;> rfl
  · intro ao' cap' w' h1 h2 h3
    refine h ao' cap' w' ?_ h2 h3
    unfold OwnP
    rw [List.length_append, cellsP_append]
    exact h1
theorem showsP {w : World} {g : Nat} {x : ByteArray} {t : TypeId} {z : Nat × Nat} (h : w.heap[g]? = some (.cells #[.string x, .string ⟨#[]⟩] t z)) : Shows w (some ⟨g, 0, none⟩) (cellsP [x]) := by
  intro j u hj
  refine ⟨_, rfl, ?_⟩
  rw [Addr.add_lit, cell_of_block h, Nat.zero_add]
  have : cellsP [x] = [.string x, .string ⟨#[]⟩] := rfl
  rw [this] at hj
  rw [← hj]
  simp
/-- What such a function tells. -/
def PairsR (w : World) (l : List ByteArray) (e : Ending) (w' : World) : Prop := ∃ ao n cap, e = .returned (.slice ao n cap) ∧ l.length = n ∧ OwnP w' ao cap l ∧ (∀ k, k ∈ blk ao → w.heap.size ≤ k) ∧ Mod [] w w'
set_option maxRecDepth 100000 in
set_option maxHeartbeats 4000000 in
theorem without_any (ao : Option Addr) (n cap : Nat) (l : List ByteArray) (k : ByteArray) (w : World) (hl : l.length = n) (ho : OwnP w ao cap l) (hn : n ≤ 100000) :
    Calls Try.prog 30 #[.slice ao n cap, .string k] w (PairsR w (l.filter fun x => !decide (x = k))) := by
  unfold PairsR
  have HO := Lib.hid ho
  have HL := Lib.hid hl
  clear ho hl
  go_enter Try.func30, Try.ntmps30
  go_wp2
  go_loopw [5, 6] (fun s5 i wr => ∃ (j m : Nat) (oa : Option Addr) (oc : Nat), j ≤ n ∧ i = .int .i64 (j : Int) ∧ s5 = .slice oa m oc ∧ ((l.take j).filter fun x => !decide (x = k)).length = m ∧ OwnP wr oa oc ((l.take j).filter fun x => !decide (x = k)) ∧ (∀ b, b ∈ blk oa → w.heap.size ≤ b) ∧ Mod [] w wr) (fun _ i _ => n - (intOf i).toNat)
  case atStart => exact ⟨0, 0, none, 0, Nat.zero_le _, rfl, rfl, rfl, OwnP.nil _, fun b hb => by simp [blk] at hb, Mod.refl _ _⟩
  case round =>
    obtain ⟨j, m, oa, oc, hj, rfl, rfl, hm, hown, hb, hmod⟩ := hrel
    have HM := Lib.hid hm
    have HOa := Lib.hid hown
    have HB := Lib.hid hb
    have HMd := Lib.hid hmod
    clear hm hown hb hmod
    have hmj : m ≤ j := by
      rw [← HM.out]
      refine Nat.le_trans (List.length_filter_le _ _) ?_
      rw [List.length_take]
      omega
    by_cases hlt : j < n
    · have hjl : j < l.length := by rw [HL.out]; exact hlt
      obtain ⟨g, rfl, c0, c1⟩ := (HO.out.mod0 HMd.out).at' hjl
      obtain ⟨x, hx⟩ : ∃ x, l[j] = x := ⟨_, rfl⟩
      rw [hx] at c0
      have htk : l.take (j + 1) = l.take j ++ [x] := by rw [take_snoc l j hjl, hx]
      obtain ⟨b, hbx⟩ : ∃ b, (x.toList == k.toList) = b := ⟨_, rfl⟩
      have hxk : (!decide (x = k)) = !b := by rw [← hbx, str_beq]
      have HT : Hid ((l.take (j + 1)).filter (fun x => !decide (x = k)) = (l.take j).filter (fun x => !decide (x = k)) ++ (if b then [] else [x])) := Lib.hid (by
        rw [htk, List.filter_append]
        congr 1
        rw [List.filter_cons, hxk, List.filter_nil]
        cases b <;> rfl)
      clear hx htk hxk
      cases b with
      | true =>
        have HT' : Hid ((l.take (j + 1)).filter (fun x => !decide (x = k)) = (l.take j).filter (fun x => !decide (x = k))) := Lib.hid (by have := HT.out; simpa using this)
        go_wp2
        go_roundw
        case rel => exact ⟨j + 1, m, oa, oc, by omega, by go_num, by rfl, by rw [HT'.out]; exact HM.out, by rw [HT'.out]; exact HOa.out, HB.out, HMd.out⟩
        case measure => simp [intOf]; omega
      | false =>
        have HT' : Hid ((l.take (j + 1)).filter (fun x => !decide (x = k)) = (l.take j).filter (fun x => !decide (x = k)) ++ [x]) := Lib.hid (by have := HT.out; simpa using this)
        obtain ⟨w1, hw1, hh1⟩ : ∃ w1, wr.alloc (.cells #[.string x, .string ⟨#[]⟩] 55) = w1 ∧ w1.heap[wr.heap.size]? = some (.cells #[.string x, .string ⟨#[]⟩] 55 (0, 0)) := ⟨_, rfl, heap_alloc_new _ _⟩
        have m1 : Mod [] wr w1 := hw1 ▸ Mod.alloc _ _ _
        have SH := Lib.hid (showsP hh1)
        have HOa1 := Lib.hid (HOa.out.mod0 m1)
        have HM1 := Lib.hid (HMd.out.trans' m1)
        clear m1 hh1 HOa HMd
        go_wp2_with (first | (at_builtin; refine wpl_appP (dst := some 26) _ _ _ m _ _ rfl HM.out HOa1.out _ 1 1 [x] rfl rfl SH.out (by omega) ?_) | fail)
        intro a9 c9 w9 o9 m9 s9
        have HO9 := Lib.hid o9
        have HM9 := Lib.hid (HM1.out.trans m9 (fun i hi hl => by have := HB.out i hi; omega))
        have HB9 : Hid (∀ b, b ∈ blk a9 → w.heap.size ≤ b) := Lib.hid (fun b hb => by
          rcases s9.blk b hb with h | h
          · exact HB.out b h
          · have := HM1.out.size; omega)
        clear o9 m9 s9 HOa1 HM1 SH hw1
        go_wp2
        go_roundw
        case rel => exact ⟨j + 1, m + 1, a9, c9, by omega, by go_num, by rfl, by rw [HT'.out, List.length_append, HM.out]; rfl, by rw [HT'.out]; exact HO9.out, HB9.out, HM9.out⟩
        case measure => simp [intOf]; omega
    · have hje : j = n := by omega
      subst hje
      have e : l.take j = l := List.take_of_length_le (by rw [HL.out]; exact Nat.le_refl _)
      have h1 := HM.out
      have h2 := HOa.out
      rw [e] at h1 h2
      have H1 := Lib.hid h1
      have H2 := Lib.hid h2
      clear h1 h2 e
      go_wp2
      go_ret
      exact ⟨oa, m, oc, rfl, H1.out, H2.out, HB.out, HMd.out⟩
end Go.Proofs.Ytkkjbeakmimmmaa
