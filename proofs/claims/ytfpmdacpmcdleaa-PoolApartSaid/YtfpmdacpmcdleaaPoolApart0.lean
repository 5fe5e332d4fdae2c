/- What the rounds of PoolApart keep. -/
import Derived.Test.YtfpmdacpmcdleaaPoolPlays0
namespace Go.Proofs.Ytfpmdacpmcdleaa
open Go Go.RowKit Go.Lib

def AR (w0 : World) (g sz : Nat) (ha : Option Addr) (hc : Nat) (hd : List (Int × Int)) (L : List Bm) (fr : List Nat) (F : List Nat) (w : World) : Prop :=
  PoolW w g F sz L fr ∧ OwnH w ha hc hd ∧ (∀ j, j ∈ F → w0.heap.size ≤ j ∧ j ∉ blk ha) ∧ (∀ j, j ∈ blk ha → w0.heap.size ≤ j) ∧ Mod [] w0 w
def Mi (w0 : World) (b : Nat) (F : List Nat) (ha : Option Addr) : Prop := w0.heap.size ≤ b ∧ b ∉ F ∧ b ∉ blk ha
section
variable {w0 w w1 w2 : World} {g sz : Nat} {ha : Option Addr} {hc : Nat} {hd : List (Int × Int)} {L L1 : List Bm} {fr fr1 : List Nat} {F : List Nat}
theorem AR.mod0 (H : AR w0 g sz ha hc hd L fr F w) (m : Mod [] w w1) : AR w0 g sz ha hc hd L fr F w1 := by
  obtain ⟨h1, h2, h3, h4, h5⟩ := H
  exact ⟨h1.mod0 m, Own.mod0 h2 m, h3, h4, h5.trans' m⟩
theorem AR.mine (H : AR w0 g sz ha hc hd L fr F w) (b : Nat) (hb : w.heap.size ≤ b) : Mi w0 b F ha := by
  obtain ⟨h1, h2, h3, h4, h5⟩ := H
  exact ⟨Nat.le_trans h5.size hb, fun hm => by have := h1.lt b hm; omega, fun hm => by have := Own.lt h2 b hm; omega⟩
theorem AR.own (H : AR w0 g sz ha hc hd L fr F w) {S : List Nat} (m : Mod S w w1) (hs : ∀ b, b ∈ S → Mi w0 b F ha) : AR w0 g sz ha hc hd L fr F w1 := by
  obtain ⟨h1, h2, h3, h4, h5⟩ := H
  exact ⟨h1.mod m (fun j hj hm => (hs j hm).2.1 hj), Own.mod h2 m (fun j hj hm => (hs j hm).2.2 hj), h3, h4, h5.trans m (fun j hj hl => by have := (hs j hj).1; omega)⟩
/-- The pool has turned; a block of one's own is one's own still. -/
theorem AR.moved (H : AR w0 g sz ha hc hd L fr F w) (a : PMoved w w1 g F sz L1 fr1) :
    ∃ G, AR w0 g sz ha hc hd L1 fr1 G w1 ∧ Mod F w w1 ∧ ∀ b, b < w.heap.size → Mi w0 b F ha → Mi w0 b G ha := by
  obtain ⟨h1, h2, h3, h4, h5⟩ := H
  obtain ⟨G, a1, a2, a3⟩ := a
  have hol := Own.lt h2
  refine ⟨G, ⟨a1, Own.mod h2 a2 (fun j hj hm => (h3 j hm).2 hj), ?_, h4, h5.trans a2 (fun j hj hl => by have := (h3 j hj).1; omega)⟩, a2, ?_⟩
  · intro j hj
    rcases a3 j hj with h | h
    · exact h3 j h
    · exact ⟨Nat.le_trans h5.size h, fun hm => by have := hol j hm; omega⟩
  · intro b hb hm
    refine ⟨hm.1, fun hg => ?_, hm.2.2⟩
    rcases a3 b hg with h | h
    · exact hm.2.1 h
    · omega
theorem AR.had {x : Int × Int} {a3 : Option Addr} {c3 : Nat} (H : AR w0 g sz ha hc hd L fr F w) (o : OwnH w1 a3 c3 (hd ++ [x])) (m : Mod (blk ha) w w1) (s : SameOrNew w w1 ha a3) :
    AR w0 g sz a3 c3 (hd ++ [x]) L fr F w1 := by
  obtain ⟨h1, h2, h3, h4, h5⟩ := H
  have hlt := h1.lt
  refine ⟨h1.mod m (fun j hj hm => (h3 j hj).2 hm), o, ?_, ?_, h5.trans m (fun j hj hl => by have := h4 j hj; omega)⟩
  · intro j hj
    refine ⟨(h3 j hj).1, fun hm => ?_⟩
    rcases s.blk j hm with h | h
    · exact (h3 j hj).2 h
    · have := hlt j hj; omega
  · intro j hj
    rcases s.blk j hj with h | h
    · exact h4 j h
    · exact Nat.le_trans h5.size h
end

/-- The bytes that buffer j is filled with. -/
def fill (s j : Nat) : List UInt8 := List.replicate s (UInt8.ofNat j)
/-- The buffers when i are lent. -/
def lent (m s i : Nat) : List Bm := (List.range i).map (fun j => (fill s j, 1, true)) ++ List.replicate (m - i) ([], 0, false)
/-- The handles of the first i. -/
def hds (i : Nat) : List (Int × Int) := (List.range i).map fun (j : Nat) => ((j : Int), (1 : Int))
theorem lent_len (m s i : Nat) (h : i ≤ m) : (lent m s i).length = m := by simp [lent]; omega
theorem hds_len (i : Nat) : (hds i).length = i := by simp [hds]
theorem hds_succ (i : Nat) : hds (i + 1) = hds i ++ [((i : Int), 1)] := by simp [hds, List.range_succ]
theorem hds_get (i j : Nat) (h : j < (hds i).length) : (hds i)[j] = ((j : Int), 1) := by simp [hds]
theorem lent_at (m s i : Nat) (h : i < m) : (lent m s i)[i]'(by rw [lent_len m s i (by omega)]; exact h) = ([], 0, false) := by
  unfold lent
  rw [List.getElem_append_right (by simp)]
  simp
theorem lent_old (m s i j : Nat) (h : j < i) (hi : i ≤ m) : (lent m s i)[j]'(by rw [lent_len m s i hi]; omega) = (fill s j, 1, true) := by
  unfold lent
  rw [List.getElem_append_left (by simpa using h)]
  simp
theorem lent_rest (m s i j : Nat) (h : i ≤ j) (hj : j < m) : (lent m s i)[j]'(by rw [lent_len m s i (by omega)]; exact hj) = ([], 0, false) := by
  unfold lent
  rw [List.getElem_append_right (by simpa using h)]
  simp
theorem lent_succ (m s i : Nat) (h : i < m) : (lent m s i).set i (fill s i, 1, true) = lent m s (i + 1) := by
  apply List.ext_getElem
  · rw [List.length_set, lent_len m s i (by omega), lent_len m s (i + 1) (by omega)]
  · intro j h1 h2
    rw [List.getElem_set]
    rw [lent_len m s (i + 1) (by omega)] at h2
    by_cases hij : i = j
    · subst hij
      rw [if_pos rfl, lent_old m s (i + 1) i (by omega) (by omega)]
    · rw [if_neg hij]
      by_cases hji : j < i
      · rw [lent_old m s i j hji (by omega), lent_old m s (i + 1) j (by omega) (by omega)]
      · rw [lent_rest m s i j (by omega) (by omega), lent_rest m s (i + 1) j (by omega) (by omega)]
theorem rev_range (m i : Nat) (h : i < m) : ((List.range' i (m - i)).reverse) = (List.range' (i + 1) (m - (i + 1))).reverse ++ [i] := by
  rw [show m - i = (m - (i + 1)) + 1 by omega, List.range'_succ, List.reverse_cons]
theorem lent_zero (m s : Nat) : lent m s 0 = List.replicate m ([], 0, false) := by simp [lent]
theorem range_zero (m : Nat) : (List.range m).reverse = (List.range' 0 (m - 0)).reverse := by simp [List.range_eq_range']

/-- Some are given back: which ones. -/
def Backd (m i from' j : Nat) : Prop := ∃ q, q < i ∧ (q + from') % m = j
theorem mod_ne (m q i f : Nat) (h1 : q < i) (h2 : i < m) : (q + f) % m ≠ (i + f) % m := by
  intro h
  have := Nat.sub_mod_eq_zero_of_mod_eq h.symm
  rw [show i + f - (q + f) = i - q by omega] at this
  rw [Nat.mod_eq_of_lt (by omega)] at this
  omega
/-- The buffers when i were given back. -/
def Given (m s i f : Nat) (L : List Bm) (fr : List Nat) : Prop :=
  L.length = m ∧ fr.length = i ∧ (∀ j (h : j < L.length), L[j].2.1 = 1 ∧ ((∀ q, q < i → (q + f) % m ≠ j) → L[j].2.2 = true))
theorem Given.zero (m s f : Nat) : Given m s 0 f (lent m s m) [] := by
  refine ⟨lent_len m s m (Nat.le_refl _), rfl, fun j h => ?_⟩
  have h' : j < m := by rw [lent_len m s m (Nat.le_refl _)] at h; exact h
  rw [lent_old m s m j h' (Nat.le_refl _)]
  exact ⟨rfl, fun _ => rfl⟩
theorem Given.succ {m s i f : Nat} {L : List Bm} {fr : List Nat} (h : Given m s i f L fr) (hi : i < m) (t : List UInt8) :
    Given m s (i + 1) f (L.set ((i + f) % m) (t, 1, false)) (fr ++ [(i + f) % m]) := by
  obtain ⟨h1, h2, h3⟩ := h
  refine ⟨by simpa using h1, by simp [h2], fun j hj => ?_⟩
  rw [List.getElem_set]
  have hj' : j < L.length := by simpa using hj
  by_cases e : (i + f) % m = j
  · rw [if_pos e]
    exact ⟨rfl, fun hq => absurd e (hq i (by omega))⟩
  · rw [if_neg e]
    exact ⟨(h3 j hj').1, fun hq => (h3 j hj').2 (fun q hql => hq q (by omega))⟩
/-- The generations when i are lent anew. -/
def Anew (i : Nat) (L : List Bm) : Prop := ∀ j (h : j < L.length), 1 ≤ L[j].2.1 ∧ L[j].2.1 ≤ 1 + i
theorem Anew.succ {i : Nat} {L : List Bm} (h : Anew i L) (k : Nat) (hk : k < L.length) (t : List UInt8) (b : Bool) : Anew (i + 1) (L.set k (t, L[k].2.1 + 1, b)) := by
  intro j hj
  rw [List.getElem_set]
  have hj' : j < L.length := by simpa using hj
  by_cases e : k = j
  · rw [if_pos e]
    have := h k hk
    refine ⟨?_, ?_⟩ <;> dsimp only <;> omega
  · rw [if_neg e]
    have := h j hj'
    refine ⟨this.1, ?_⟩
    omega
/-- The row when q of its bytes are filled. -/
def part (s j q : Nat) : List UInt8 := List.replicate q (UInt8.ofNat j) ++ List.replicate (s - q) 0
theorem part_len (s j q : Nat) (h : q ≤ s) : (part s j q).length = s := by simp [part]; omega
theorem part_zero (s j : Nat) : part s j 0 = List.replicate s 0 := by simp [part]
theorem part_all (s j : Nat) : part s j s = fill s j := by simp [part, fill]
theorem part_set (s j q : Nat) (h : q < s) : (part s j q).set q (UInt8.ofNat j) = part s j (q + 1) := by
  unfold part
  rw [List.set_append_right _ _ (by simp), show s - q = (s - (q + 1)) + 1 by omega, List.replicate_succ]
  simp [List.replicate_succ']
theorem u8_of (k : Nat) (h : k < 256) : u8v (UInt8.ofNat k) = .int .u8 (k : Int) := by
  unfold u8v
  rw [UInt8.toNat_ofNat', Nat.mod_eq_of_lt h]
theorem fill_get (s j q : Nat) (h : q < s) : (fill s j)[q]'(by simpa [fill] using h) = UInt8.ofNat j := by simp [fill]
theorem fill_len (s j : Nat) : (fill s j).length = s := by simp [fill]
end Go.Proofs.Ytfpmdacpmcdleaa
