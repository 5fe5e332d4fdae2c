/- The pool package: how a pool lies. -/
import Derived.Test.YtfpmdacpmcdleaaRegionU
import Derived.Handy
import Derived.Lib.SliceRun
namespace Go.Proofs.Ytfpmdacpmcdleaa
open Go Go.RowKit Go.Lib

theorem Mod.only {S : List Nat} {a b c : World} (h : Mod [] a b) (k : Mod S b c) (hs : ∀ j, j ∈ S → a.heap.size ≤ j) : Mod [] a c :=
  h.trans k (fun i hi hl => by have := hs i hi; omega)
theorem heap_size_alloc (w : World) (o : Obj) : (w.alloc o).heap.size = w.heap.size + 1 := by simp
theorem Own.cap_le {w : World} {e : TypeId} {sz : Nat} {ao : Option Addr} {n cap : Nat} {xs : List Value} (h : Own w e sz ao n cap xs) : cap ≤ maxLen := by
  rcases h.2 with ⟨_, _, rfl⟩ | ⟨g, cur, fz, _, _, _, _, h, _⟩
  · unfold maxLen; omega
  · exact h
/-- The front of a row of the call's own, with the room behind it. -/
theorem Own.front {w : World} {e : TypeId} {sz : Nat} {ao : Option Addr} {n cap : Nat} {xs : List Value} (h : Own w e sz ao n cap xs) (k : Nat) (hk : k ≤ n) : Own w e sz ao k cap (xs.take (k * sz)) := by
  have h1 : k * sz ≤ n * sz := Nat.mul_le_mul_right _ hk
  rcases h.2 with ⟨h0, rfl, h2⟩ | ⟨g, cur, fz, hg, hb, hz, hn, hm, hs, ht⟩
  · have : k = 0 := by omega
    subst this
    exact ⟨by simp, .inl ⟨h0, rfl, h2⟩⟩
  · refine ⟨by rw [List.length_take, h.1]; omega, .inr ⟨g, cur, fz, hg, hb, hz, by omega, hm, hs, ?_⟩⟩
    rw [← ht, List.take_take, Nat.min_eq_left h1]
theorem two_mod (w : World) (g : Nat) (u v : Value) : Mod [g] w ((w.setCell ⟨g, 0, none⟩ u).setCell ⟨g, 1, none⟩ v) :=
  (Mod.setCell _ _ _ (by simp)).trans' (Mod.setCell _ _ _ (by simp))
theorem two_set {w : World} {g : Nat} {t : TypeId} {a b : Value} (h : w.heap[g]? = some (.cells #[a, b] t (0, 0))) (u v : Value) :
    ((w.setCell ⟨g, 0, none⟩ u).setCell ⟨g, 1, none⟩ v).heap[g]? = some (.cells #[u, v] t (0, 0)) := by
  rw [heap_setCell_same (heap_setCell_same h u) v]; rfl

/-- A buffer: where its bytes begin, how many are used, its generation, whether it is lent. -/
abbrev Bf := Nat × Nat × Int × Bool
def bufC (ab sz : Nat) (x : Bf) : List Value := [.slice (some ⟨ab, x.1, none⟩) sz sz, .int .i64 (x.2.1 : Int), .int .u32 x.2.2.1, .bool x.2.2.2]
def cellsB (ab sz : Nat) (l : List Bf) : List Value := l.flatMap (bufC ab sz)
theorem cellsB_length (ab sz : Nat) (l : List Bf) : (cellsB ab sz l).length = l.length * 4 := by
  induction l with
  | nil => rfl
  | cons a r ih => simp only [cellsB, List.flatMap_cons, List.length_append, bufC, List.length_cons, List.length_nil] at *; omega
theorem cellsB_at (ab sz : Nat) : ∀ (l : List Bf) (j : Nat) (hj : j < l.length), (cellsB ab sz l)[j * 4]? = some (.slice (some ⟨ab, l[j].1, none⟩) sz sz) ∧ (cellsB ab sz l)[j * 4 + 1]? = some (.int .i64 (l[j].2.1 : Int)) ∧
    (cellsB ab sz l)[j * 4 + 2]? = some (.int .u32 l[j].2.2.1) ∧ (cellsB ab sz l)[j * 4 + 3]? = some (.bool l[j].2.2.2) := by
  intro l
  induction l with
  | nil => intro j hj; exact absurd hj (by simp)
  | cons a r ih =>
    intro j hj
    cases j with
    | zero => exact ⟨rfl, rfl, rfl, rfl⟩
    | succ j =>
      have := ih j (by simpa using hj)
      have e : (j + 1) * 4 = j * 4 + 1 + 1 + 1 + 1 := by omega
      rw [e]
      exact this
theorem cellsB_set1 (ab sz : Nat) (l : List Bf) : ∀ (k : Nat) (hk : k < l.length) (n : Nat), (cellsB ab sz l).set (k * 4 + 1) (.int .i64 (n : Int)) = cellsB ab sz (l.set k (l[k].1, n, l[k].2.2.1, l[k].2.2.2)) := by
  induction l with
  | nil => intro k hk; exact absurd hk (by simp)
  | cons a r ih =>
    intro k hk n
    cases k with
    | zero => rfl
    | succ k =>
      have e : (k + 1) * 4 + 1 = (k * 4 + 1) + 1 + 1 + 1 + 1 := by omega
      rw [e]
      show bufC ab sz a ++ (cellsB ab sz r).set (k * 4 + 1) (.int .i64 (n : Int)) = bufC ab sz a ++ cellsB ab sz (r.set k ((r[k]'(by simpa using hk)).1, n, (r[k]'(by simpa using hk)).2.2.1, (r[k]'(by simpa using hk)).2.2.2))
      rw [ih k (by simpa using hk) n]
theorem cellsB_set2 (ab sz : Nat) (l : List Bf) : ∀ (k : Nat) (hk : k < l.length) (n : Int), (cellsB ab sz l).set (k * 4 + 2) (.int .u32 n) = cellsB ab sz (l.set k (l[k].1, l[k].2.1, n, l[k].2.2.2)) := by
  induction l with
  | nil => intro k hk; exact absurd hk (by simp)
  | cons a r ih =>
    intro k hk n
    cases k with
    | zero => rfl
    | succ k =>
      have e : (k + 1) * 4 + 2 = (k * 4 + 2) + 1 + 1 + 1 + 1 := by omega
      rw [e]
      show bufC ab sz a ++ (cellsB ab sz r).set (k * 4 + 2) (.int .u32 n) = bufC ab sz a ++ cellsB ab sz (r.set k ((r[k]'(by simpa using hk)).1, (r[k]'(by simpa using hk)).2.1, n, (r[k]'(by simpa using hk)).2.2.2))
      rw [ih k (by simpa using hk) n]
theorem cellsB_set3 (ab sz : Nat) (l : List Bf) : ∀ (k : Nat) (hk : k < l.length) (n : Bool), (cellsB ab sz l).set (k * 4 + 3) (.bool n) = cellsB ab sz (l.set k (l[k].1, l[k].2.1, l[k].2.2.1, n)) := by
  induction l with
  | nil => intro k hk; exact absurd hk (by simp)
  | cons a r ih =>
    intro k hk n
    cases k with
    | zero => rfl
    | succ k =>
      have e : (k + 1) * 4 + 3 = (k * 4 + 3) + 1 + 1 + 1 + 1 := by omega
      rw [e]
      show bufC ab sz a ++ (cellsB ab sz r).set (k * 4 + 3) (.bool n) = bufC ab sz a ++ cellsB ab sz (r.set k ((r[k]'(by simpa using hk)).1, (r[k]'(by simpa using hk)).2.1, (r[k]'(by simpa using hk)).2.2.1, n))
      rw [ih k (by simpa using hk) n]
def OwnBf (w : World) (ab sz : Nat) (ao : Option Addr) (cap : Nat) (l : List Bf) : Prop := Own w 59 4 ao l.length cap (cellsB ab sz l)
theorem OwnBf.at' {w : World} {ab sz : Nat} {ao : Option Addr} {cap : Nat} {l : List Bf} (h : OwnBf w ab sz ao cap l) {j : Nat} (hj : j < l.length) :
    ∃ g, ao = some ⟨g, 0, none⟩ ∧ w.cell? ⟨g, j * 4, none⟩ = some (.slice (some ⟨ab, l[j].1, none⟩) sz sz) ∧ w.cell? ⟨g, j * 4 + 1, none⟩ = some (.int .i64 (l[j].2.1 : Int)) ∧ w.cell? ⟨g, j * 4 + 2, none⟩ = some (.int .u32 l[j].2.2.1) ∧ w.cell? ⟨g, j * 4 + 3, none⟩ = some (.bool l[j].2.2.2) ∧
      w.frozen? ⟨g, j * 4 + 1, none⟩ = false ∧ w.frozen? ⟨g, j * 4 + 2, none⟩ = false ∧ w.frozen? ⟨g, j * 4 + 3, none⟩ = false := by
  obtain ⟨h1, h2, h3, h4⟩ := cellsB_at ab sz l j hj
  obtain ⟨g, e1, e2, _⟩ := Own.cell h h1
  obtain ⟨g1, a1, a2, a3⟩ := Own.cell h h2
  obtain ⟨g2, b1, b2, b3⟩ := Own.cell h h3
  obtain ⟨g3, c1, c2, c3⟩ := Own.cell h h4
  rw [e1] at a1 b1 c1
  cases a1
  cases b1
  cases c1
  exact ⟨g, e1, e2, a2, b2, c2, a3, b3, c3⟩
theorem OwnBf.set1 {w : World} {ab sz b c : Nat} {l : List Bf} (h : OwnBf w ab sz (some ⟨b, 0, none⟩) c l) (k : Nat) (hk : k < l.length) (n : Nat) : OwnBf (w.setCell ⟨b, k * 4 + 1, none⟩ (.int .i64 (n : Int))) ab sz (some ⟨b, 0, none⟩) c (l.set k (l[k].1, n, l[k].2.2.1, l[k].2.2.2)) := by
  have := Own.set (j := k * 4 + 1) h (.int .i64 (n : Int))
  unfold OwnBf
  rw [List.length_set, ← cellsB_set1 ab sz l k hk n]
  exact this
theorem OwnBf.set2 {w : World} {ab sz b c : Nat} {l : List Bf} (h : OwnBf w ab sz (some ⟨b, 0, none⟩) c l) (k : Nat) (hk : k < l.length) (n : Int) : OwnBf (w.setCell ⟨b, k * 4 + 2, none⟩ (.int .u32 n)) ab sz (some ⟨b, 0, none⟩) c (l.set k (l[k].1, l[k].2.1, n, l[k].2.2.2)) := by
  have := Own.set (j := k * 4 + 2) h (.int .u32 n)
  unfold OwnBf
  rw [List.length_set, ← cellsB_set2 ab sz l k hk n]
  exact this
theorem OwnBf.set3 {w : World} {ab sz b c : Nat} {l : List Bf} (h : OwnBf w ab sz (some ⟨b, 0, none⟩) c l) (k : Nat) (hk : k < l.length) (n : Bool) : OwnBf (w.setCell ⟨b, k * 4 + 3, none⟩ (.bool n)) ab sz (some ⟨b, 0, none⟩) c (l.set k (l[k].1, l[k].2.1, l[k].2.2.1, n)) := by
  have := Own.set (j := k * 4 + 3) h (.bool n)
  unfold OwnBf
  rw [List.length_set, ← cellsB_set3 ab sz l k hk n]
  exact this
theorem OwnBf.setAll {w : World} {ab sz b c : Nat} {l : List Bf} (h : OwnBf w ab sz (some ⟨b, 0, none⟩) c l) (k : Nat) (hk : k < l.length) (n : Nat) (g : Int) (t : Bool) :
    OwnBf (((w.setCell ⟨b, k * 4 + 1, none⟩ (.int .i64 (n : Int))).setCell ⟨b, k * 4 + 2, none⟩ (.int .u32 g)).setCell ⟨b, k * 4 + 3, none⟩ (.bool t)) ab sz (some ⟨b, 0, none⟩) c (l.set k (l[k].1, n, g, t)) := by
  have h1 := OwnBf.set1 h k hk n
  have h2 := OwnBf.set2 h1 k (by simpa using hk) g
  have h3 := OwnBf.set3 h2 k (by simpa using hk) t
  simpa using h3
def intV (x : Nat) : Value := .int .i64 (x : Int)
/-- A row of numbers of the call's own. -/
def OwnI (w : World) (ao : Option Addr) (cap : Nat) (l : List Nat) : Prop := Own w 3 1 ao l.length cap (l.map intV)
theorem OwnI.at' {w : World} {ao : Option Addr} {cap : Nat} {l : List Nat} (h : OwnI w ao cap l) {j : Nat} (hj : j < l.length) : ∃ g, ao = some ⟨g, 0, none⟩ ∧ w.cell? ⟨g, j, none⟩ = some (.int .i64 (l[j] : Int)) := by
  obtain ⟨g, e1, e2, _⟩ := Own.cell h (j := j) (u := intV l[j]) (by rw [List.getElem?_map, List.getElem?_eq_getElem hj]; rfl)
  exact ⟨g, e1, e2⟩
theorem OwnI.front {w : World} {ao : Option Addr} {cap : Nat} {l : List Nat} (h : OwnI w ao cap l) (k : Nat) (hk : k ≤ l.length) : OwnI w ao cap (l.take k) := by
  have := Own.front h k hk
  unfold OwnI
  rw [List.length_take, Nat.min_eq_left hk, List.map_take]
  rw [Nat.mul_one] at this
  exact this
/-- A pool: its buffers, what is free, all bytes. -/
def PoolF (w : World) (g : Nat) (la : Option Addr) (lc : Nat) (fa : Option Addr) (fc ab sz : Nat) (bufs : List Bf) (fr : List Nat) (arr : List UInt8) : Prop :=
  w.heap[g]? = some (.cells #[.slice la bufs.length lc, .slice fa fr.length fc] 57 (0, 0)) ∧ OwnBf w ab sz la lc bufs ∧ OwnI w fa fc fr ∧ OwnB w (some ⟨ab, 0, none⟩) arr.length arr ∧ (g :: (blk la ++ (blk fa ++ [ab]))).Nodup
theorem PoolF.mod {S : List Nat} {w w' : World} {g : Nat} {la : Option Addr} {lc : Nat} {fa : Option Addr} {fc ab sz : Nat} {bufs : List Bf} {fr : List Nat} {arr : List UInt8} (h : PoolF w g la lc fa fc ab sz bufs fr arr) (hm : Mod S w w') (hs : ∀ k, k ∈ g :: (blk la ++ (blk fa ++ [ab])) → k ∉ S) : PoolF w' g la lc fa fc ab sz bufs fr arr := by
  obtain ⟨h1, h2, h3, h4, h5⟩ := h
  exact ⟨hm.get h1 (hs g (by simp)), Own.mod h2 hm (fun k hk => hs k (by simp [hk])), Own.mod h3 hm (fun k hk => hs k (by simp [hk])), h4.mod hm (fun k hk => hs k (by simp [blk] at hk; simp [hk])), h5⟩
theorem PoolF.mod0 {w w' : World} {g : Nat} {la : Option Addr} {lc : Nat} {fa : Option Addr} {fc ab sz : Nat} {bufs : List Bf} {fr : List Nat} {arr : List UInt8} (h : PoolF w g la lc fa fc ab sz bufs fr arr) (hm : Mod [] w w') : PoolF w' g la lc fa fc ab sz bufs fr arr := h.mod hm (by simp)
theorem PoolF.lt {w : World} {g : Nat} {la : Option Addr} {lc : Nat} {fa : Option Addr} {fc ab sz : Nat} {bufs : List Bf} {fr : List Nat} {arr : List UInt8} (h : PoolF w g la lc fa fc ab sz bufs fr arr) : ∀ k, k ∈ g :: (blk la ++ (blk fa ++ [ab])) → k < w.heap.size := by
  obtain ⟨h1, h2, h3, h4, h5⟩ := h
  intro k hk
  simp only [List.mem_cons, List.mem_append, List.not_mem_nil, or_false] at hk
  rcases hk with rfl | hk | hk | rfl
  · exact lt_of_block h1
  · exact Own.lt h2 k hk
  · exact Own.lt h3 k hk
  · exact Own.lt h4 _ (by simp [blk])
end Go.Proofs.Ytfpmdacpmcdleaa
