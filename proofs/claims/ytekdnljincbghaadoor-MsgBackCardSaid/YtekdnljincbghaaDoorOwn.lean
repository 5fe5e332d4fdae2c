/- Slices of the call's own: what append does to one, from a source of whatever kind. Over any program. -/
import Derived.Test.YtekdnljincbghaaDoorBase
import Derived.Laws.OwnMore
namespace Go.Proofs.YtekdnljincbghaaDoor
open Go Go.RowKit

/-- The block that a slice's address names. -/
def blk : Option Addr → List Nat
  | some a => [a.block]
  | none => []

/-- A slice of n elements (sz cells each, of type e) in a block of its own, from the block's head; its cells are xs. -/
def Own (w : World) (e : TypeId) (sz : Nat) (ao : Option Addr) (n cap : Nat) (xs : List Value) : Prop :=
  xs.length = n * sz ∧ ((ao = none ∧ n = 0 ∧ cap = 0) ∨
    ∃ g cur fz, ao = some ⟨g, 0, none⟩ ∧ w.heap[g]? = some (.cells cur e fz) ∧ (fz = (0, 0) ∨ cur.size ≤ fz.1) ∧ n ≤ cap ∧ cap ≤ maxLen ∧ cap * sz ≤ cur.size ∧ cur.toList.take (n * sz) = xs)

theorem Own.nil0 (w : World) (e : TypeId) (sz : Nat) : Own w e sz none 0 0 [] := ⟨by simp, .inl ⟨rfl, rfl, rfl⟩⟩

theorem Own.mod {S : List Nat} {w w' : World} {e : TypeId} {sz : Nat} {ao : Option Addr} {n cap : Nat} {xs : List Value} (h : Own w e sz ao n cap xs) (hm : Mod S w w') (hn : ∀ k, k ∈ blk ao → k ∉ S) : Own w' e sz ao n cap xs := by
  refine ⟨h.1, ?_⟩
  rcases h.2 with h | ⟨g, cur, fz, rfl, hg, r⟩
  · exact .inl h
  · exact .inr ⟨g, cur, fz, rfl, hm.get hg (hn g (by simp [blk])), r⟩
theorem Own.mod0 {w w' : World} {e : TypeId} {sz : Nat} {ao : Option Addr} {n cap : Nat} {xs : List Value} (h : Own w e sz ao n cap xs) (hm : Mod [] w w') : Own w' e sz ao n cap xs := h.mod hm (by simp)
theorem Own.lt {w : World} {e : TypeId} {sz : Nat} {ao : Option Addr} {n cap : Nat} {xs : List Value} (h : Own w e sz ao n cap xs) : ∀ k, k ∈ blk ao → k < w.heap.size := by
  intro k hk
  rcases h.2 with ⟨rfl, _⟩ | ⟨g, cur, fz, rfl, hg, _⟩
  · simp [blk] at hk
  · simp only [blk, List.mem_singleton] at hk; subst hk; exact lt_of_block hg
theorem Own.cell {w : World} {e : TypeId} {sz : Nat} {ao : Option Addr} {n cap : Nat} {xs : List Value} (h : Own w e sz ao n cap xs) {j : Nat} {u : Value} (hj : xs[j]? = some u) :
    ∃ g, ao = some ⟨g, 0, none⟩ ∧ w.cell? ⟨g, j, none⟩ = some u ∧ w.frozen? ⟨g, j, none⟩ = false := by
  rcases h.2 with ⟨rfl, rfl, _⟩ | ⟨g, cur, fz, rfl, hg, hz, hn, hm, hs, ht⟩
  · have h0 : xs = [] := List.eq_nil_of_length_eq_zero (by rw [h.1]; simp)
    subst h0; simp at hj
  · rw [← ht, List.getElem?_take] at hj
    split at hj
    · have hj' : cur[j]? = some u := by simpa using hj
      refine ⟨g, rfl, by rw [cell_of_block hg]; exact hj', ?_⟩
      have hlt := (Array.getElem?_eq_some_iff.1 hj').1
      rcases hz with rfl | hz
      · exact free_of_block hg
      · simp only [World.frozen?, hg]
        have : ¬ fz.1 ≤ j := by omega
        simp [this]
    · cases hj
/-- As kit's word has it. -/
theorem Own.le {w : World} {e : TypeId} {sz : Nat} {ao : Option Addr} {n cap : Nat} {xs : List Value} (h : Own w e sz ao n cap xs) : n ≤ cap := by
  rcases h.2 with ⟨_, rfl, rfl⟩ | ⟨g, cur, fz, rfl, hg, hz, hn, _⟩
  · exact Nat.le_refl _
  · exact hn
theorem Own.ne_none {w : World} {e : TypeId} {sz : Nat} {ao : Option Addr} {n cap : Nat} {xs : List Value} (h : Own w e sz ao n cap xs) (h0 : 0 < n) : ∃ g, ao = some ⟨g, 0, none⟩ ∧ g < w.heap.size := by
  rcases h.2 with ⟨_, rfl, _⟩ | ⟨g, cur, fz, rfl, hg, _⟩
  · omega
  · exact ⟨g, rfl, lt_of_block hg⟩

/-- A new row of cells, whole. -/
theorem Own.new {w : World} {g : Nat} {e : TypeId} {sz : Nat} {cur : Array Value} {fz : Nat × Nat} {n : Nat} (hg : w.heap[g]? = some (.cells cur e fz)) (hz : fz = (0, 0) ∨ cur.size ≤ fz.1) (hs : cur.size = n * sz) (hm : n ≤ maxLen) : Own w e sz (some ⟨g, 0, none⟩) n n cur.toList :=
  ⟨by simpa using hs, .inr ⟨g, cur, fz, rfl, hg, hz, Nat.le_refl _, hm, Nat.le_of_eq hs.symm, by rw [← hs]; exact List.take_of_length_le (by simp)⟩⟩

/-- A cell of a row of the call's own is stored. -/
theorem Own.set {w : World} {e : TypeId} {sz g n cap j : Nat} {xs : List Value} (h : Own w e sz (some ⟨g, 0, none⟩) n cap xs) (u : Value) :
    Own (w.setCell ⟨g, j, none⟩ u) e sz (some ⟨g, 0, none⟩) n cap (xs.set j u) := by
  rcases h.2 with ⟨h0, _⟩ | ⟨g', cur, fz, hg, hb, hz, hn, hm, hs, ht⟩
  · cases h0
  · cases hg
    refine ⟨by rw [List.length_set]; exact h.1, .inr ⟨g, cur.setIfInBounds j u, fz, rfl, heap_setCell_same hb u, by simpa using hz, hn, hm, by simpa using hs, ?_⟩⟩
    rw [Array.toList_setIfInBounds, List.take_set, ht]

/-- The new slice lies where the old one lay, or in a new block. -/
def SameOrNew (w w' : World) (ao ao' : Option Addr) : Prop := ao' = ao ∨ ∃ g, ao' = some ⟨g, 0, none⟩ ∧ w.heap.size ≤ g ∧ g < w'.heap.size
theorem SameOrNew.blk {w w' : World} {ao ao' : Option Addr} (h : SameOrNew w w' ao ao') : ∀ k, k ∈ blk ao' → k ∈ blk ao ∨ w.heap.size ≤ k := by
  intro k hk
  rcases h with rfl | ⟨g, rfl, hg, _⟩
  · exact .inl hk
  · simp only [Proofs.YtekdnljincbghaaDoor.blk, List.mem_singleton] at hk; subst hk; exact .inr hg

theorem Mod.transNew {S : List Nat} {a b c : World} {ao ao' : Option Addr} (h : Mod S a b) (k : Mod (blk ao') b c) (n : SameOrNew a b ao ao') (hs : ∀ k, k ∈ blk ao → k ∈ S) : Mod S a c :=
  h.trans k (fun i hi hl => by rcases n.blk i hi with h' | h'; exact hs i h'; omega)

/-- The source shows these cells. -/
def Shows (w : World) (ao : Option Addr) (news : List Value) : Prop := ∀ j u, news[j]? = some u → ∃ ad, ao = some ad ∧ w.cell? (ad.add j) = some u

def u8v (x : UInt8) : Value := .int .u8 ((x.toNat : Nat) : Int)
theorem Sees.shows {w : World} {ao : Option Addr} {l : List UInt8} (h : Sees w ao l) : Shows w ao (l.map u8v) := by
  intro j u hj
  rw [List.getElem?_map] at hj
  cases hl : l[j]? with
  | none => rw [hl] at hj; simp at hj
  | some x =>
    rw [hl] at hj
    obtain ⟨hlt, hx⟩ := List.getElem?_eq_some_iff.1 hl
    obtain ⟨b, off, h1, h2⟩ := h j hlt
    refine ⟨_, h1, ?_⟩
    rw [Addr.add_lit, h2, hx]
    exact hj
theorem Own.shows {w : World} {e : TypeId} {sz : Nat} {ao : Option Addr} {n cap : Nat} {xs : List Value} (h : Own w e sz ao n cap xs) : Shows w ao xs := by
  intro j u hj
  obtain ⟨g, h1, h2, _⟩ := h.cell hj
  exact ⟨_, h1, by rw [Addr.add_lit]; simpa using h2⟩
theorem Own.sees {w : World} {e : TypeId} {ao : Option Addr} {n cap : Nat} {l : List UInt8} (h : Own w e 1 ao n cap (l.map u8v)) : Sees w ao l := by
  intro j hj
  obtain ⟨g, h1, h2, _⟩ := h.cell (j := j) (u := u8v l[j]) (by rw [List.getElem?_map, List.getElem?_eq_getElem hj]; rfl)
  exact ⟨g, 0, h1, by rw [Nat.zero_add]; exact h2⟩
theorem Own.len1 {w : World} {e : TypeId} {ao : Option Addr} {n cap : Nat} {α : Type} {f : α → Value} {l : List α} (h : Own w e 1 ao n cap (l.map f)) : n = l.length := by
  have := h.1; simpa using this.symm
theorem one_u8 : ∀ (l : List UInt8), ∀ u ∈ l.map u8v, u.oneCell' = true := by
  intro l u hu
  obtain ⟨x, _, rfl⟩ := List.mem_map.1 hu
  rfl

section
variable {P : Program} (w : World)
/-- Cells are stored one by one into a row whose mark, if it bears one, lies behind its last cell. -/
theorem run_storeCells_fz (g o : Nat) (t : TypeId) (fz : Nat × Nat) : ∀ (vs : List Value) (i : Nat) (cur : Array Value) (w : World), w.heap[g]? = some (.cells cur t fz) → (fz = (0, 0) ∨ cur.size ≤ fz.1) → o + i + vs.length ≤ cur.size → (∀ v ∈ vs, v.oneCell' = true) →
    (storeCells ⟨g, o, none⟩ vs i).run P w = .ok () (w.setRow g (cur.toList.take (o + i) ++ vs ++ cur.toList.drop (o + i + vs.length)).toArray)
  | [], i, cur, w, hg, _, _, _ => by
    simp only [storeCells, List.append_nil, List.length_nil, Nat.add_zero, List.take_append_drop, Array.toArray_toList]
    rw [setRow_self w g cur t fz hg]
    rfl
  | v :: rest, i, cur, w, hg, hz, hl, h1 => by
    have hi : o + i < cur.size := by simp at hl; omega
    have hcell : w.cell? ⟨g, o + i, none⟩ = some cur[o + i] := by rw [cell_of_block hg]; simp [hi]
    have hfro : w.frozen? ⟨g, o + i, none⟩ = false := by
      rcases hz with rfl | hz
      · exact free_of_block hg
      · simp only [World.frozen?, hg]
        have : ¬ fz.1 ≤ o + i := by omega
        simp [this]
    have hst : (store ((⟨g, o, none⟩ : Addr).add i) v).run P w = .ok () (w.setRow g (cur.setIfInBounds (o + i) v)) := by
      rw [Addr.add_lit, run_store P w _ v _ (h1 v (by simp)), hcell]
      simp [hfro, setCell_eq_setRow w g (o + i) cur t fz v hg]
    have ih := run_storeCells_fz g o t fz rest (i + 1) (cur.setIfInBounds (o + i) v) (w.setRow g (cur.setIfInBounds (o + i) v)) (setRow_heap w g cur _ t _ hg) (by simpa using hz) (by simp at hl ⊢; omega) (fun x hx => h1 x (by simp [hx]))
    simp only [storeCells, Sem.run_bind, hst, Result.andThen_ok, ih, setRow_setRow]
    congr 3
    have e := list_seg_step cur.toList (o + i) v rest (by simp at hl ⊢; omega)
    simpa [Array.toList_setIfInBounds, Nat.add_assoc] using e
theorem run_append_room_fz (t ty e : TypeId) (i : TypeInfo) (ht : P.underlying t = some (.slice e)) (hi : P.info? e = some i)
    (g sLen sCap : Nat) (cur : Array Value) (fz : Nat × Nat) (hg : w.heap[g]? = some (.cells cur e fz)) (hz : fz = (0, 0) ∨ cur.size ≤ fz.1)
    (a : Addr) (m c : Nat) (news : List Value) (hl : news.length = m * i.size) (hnews : ∀ j u, news[j]? = some u → w.cell? (a.add j) = some u) (h1 : ∀ u ∈ news, u.oneCell' = true)
    (hroom : sLen + m ≤ sCap) (hfit : sLen * i.size + news.length ≤ cur.size) :
    (Builtin.append_ #[t, t] ty #[.slice (some ⟨g, 0, none⟩) sLen sCap, .slice (some a) m c]).run P w =
      .ok (.slice (some ⟨g, 0, none⟩) (sLen + m) sCap) (w.setRow g (cur.toList.take (sLen * i.size) ++ news ++ cur.toList.drop (sLen * i.size + news.length)).toArray) := by
  have hf := run_firstCells_some (P := P) w i.size m a m c news hl hnews
  have hst := run_storeCells_fz (P := P) g (sLen * i.size) e fz news 0 cur w hg hz (by simpa using hfit) h1
  simp only [Nat.add_zero] at hst
  simp [Builtin.append_, run_underlying ht, sizeOf, typeInfo, hi, Builtin.lenOf, hroom, hf, Addr.add_lit, hst]
theorem run_append_mine (t ty e : TypeId) (i : TypeInfo) (z : Value) (size bytes : Nat) (ht : P.underlying t = some (.slice e)) (hi : P.info? e = some i) (hz : i.zero = some z)
    (hsize : i.size = size) (hby : i.bytes = bytes) (hzs : z.cells.size = size) (hsz : 0 < size)
    (ao : Option Addr) (n cap : Nat) (xs : List Value) (hown : Own w e size ao n cap xs)
    (so : Option Addr) (m c : Nat) (news : List Value) (hl : news.length = m * size) (hnews : Shows w so news) (h1 : ∀ u ∈ news, u.oneCell' = true)
    (h63 : n + m ≤ maxLen) (hbytes : (n + m) * bytes ≤ 140737488355328) :
    ∃ ao' cap' w', (Builtin.append_ #[t, t] ty #[.slice ao n cap, .slice so m c]).run P w = .ok (.slice ao' (n + m) cap') w' ∧ Own w' e size ao' (n + m) cap' (xs ++ news) ∧ Mod (blk ao) w w' ∧ SameOrNew w w' ao ao' := by
  subst hsize
  subst hby
  have hsmall : n + m ≤ 9223372036854775807 := by simp only [maxLen] at h63; omega
  have hlen : (xs ++ news).length = (n + m) * i.size := by rw [List.length_append, hown.1, hl, Nat.add_mul]
  by_cases hm0 : m = 0
  · subst hm0
    have hn0 : news = [] := List.eq_nil_of_length_eq_zero (by simpa using hl)
    subst hn0
    have hle := hown.le
    refine ⟨ao, cap, w, ?_, by simpa using hown, Mod.refl _ _, .inl rfl⟩
    have hf : (Builtin.firstCells i.size 0 (.slice so 0 c)).run P w = .ok #[] w := by
      cases so with
      | none => exact run_firstCells_none _ _ _ _ _
      | some ad => simpa using run_firstCells_some (P := P) w i.size 0 ad 0 c [] (by simp) (by simp)
    cases ao with
    | none => simp [Builtin.append_, run_underlying ht, sizeOf, typeInfo, hi, Builtin.lenOf, hle, hf]
    | some a => simp [Builtin.append_, run_underlying ht, sizeOf, typeInfo, hi, Builtin.lenOf, hle, hf, storeCells]
  · obtain ⟨ad, rfl⟩ : ∃ ad, so = some ad := by
      have : 0 < news.length := by rw [hl]; exact Nat.mul_pos (by omega) hsz
      obtain ⟨ad, h, _⟩ := hnews 0 news[0] (by rw [List.getElem?_eq_getElem this])
      exact ⟨ad, h⟩
    have hnews' : ∀ j u, news[j]? = some u → w.cell? (ad.add j) = some u := fun j u hj => by
      obtain ⟨ad', h, h2⟩ := hnews j u hj
      cases h; exact h2
    have grown : ∀ (old : Nat), old < n + m →
        Own (w.drew.alloc (.cells (xs.toArray ++ news.toArray ++ Builtin.zeroCells z.cells (grownCap w (n + m) old e - (n + m))) e)) e i.size (some ⟨w.heap.size, 0, none⟩) (n + m) (grownCap w (n + m) old e) (xs ++ news) := by
      intro old ho
      have hge := grownCap_ge w (n + m) old e
      refine ⟨hlen, .inr ⟨w.heap.size, _, (0, 0), rfl, heap_alloc_new w.drew _, .inl rfl, hge, grownCap_le_maxLen w (n + m) old e h63, ?_, ?_⟩⟩
      · simp only [Array.size_append, List.size_toArray, size_zeroCells, hzs, hown.1, hl, ← Nat.add_mul]
        exact Nat.mul_le_mul_right _ (by omega)
      · simp only [Array.toList_append, List.append_assoc]
        rw [← List.append_assoc, ← hlen]
        exact List.take_left
    have hmod : ∀ o : Obj, Mod (blk ao) w (w.drew.alloc o) := fun o => (Mod.drew _ w).trans' (Mod.alloc _ _ o)
    have hsn : ∀ o : Obj, SameOrNew w (w.drew.alloc o) ao (some ⟨w.heap.size, 0, none⟩) := fun o => .inr ⟨w.heap.size, rfl, Nat.le_refl _, by simp⟩
    rcases hown.2 with ⟨rfl, rfl, rfl⟩ | ⟨g, cur, fz, rfl, hg, hfz, hnc, hcm, hcs, htake⟩
    · have hx : xs = [] := List.eq_nil_of_length_eq_zero (by simpa using hown.1)
      subst hx
      have hr := run_append_nil (P := P) w t ty e i z ht hi hz ad m c news hl hnews' (by omega) (by omega) (by have hb := hbytes; simp only [Nat.zero_add] at hb; omega)
      have hgr := grown 0 (by omega)
      simp only [Nat.zero_add, List.nil_append, Array.empty_append] at hgr ⊢
      exact ⟨_, _, _, hr, hgr, hmod _, hsn _⟩
    · by_cases hroom : n + m ≤ cap
      · have hfit : n * i.size + news.length ≤ cur.size := Nat.le_trans (by rw [hl, ← Nat.add_mul]; exact Nat.mul_le_mul_right _ hroom) hcs
        have hr := run_append_room_fz (P := P) w t ty e i ht hi g n cap cur fz hg hfz ad m c news hl hnews' h1 hroom hfit
        refine ⟨_, _, _, hr, ⟨hlen, .inr ⟨g, _, fz, rfl, setRow_heap w g cur _ e _ hg, hfz.imp id (fun h => by simp; omega), hroom, hcm, ?_, ?_⟩⟩, ⟨rfl, rfl, rfl, by simp, fun k _ hk => setRow_other w g k _ (fun e => hk (by simp [blk, e]))⟩, .inl rfl⟩
        · simp only [List.size_toArray, List.length_append, List.length_take, List.length_drop, Array.length_toList]
          omega
        · rw [htake, ← hlen]
          exact List.take_left
      · have holds : ∀ j u, xs[j]? = some u → w.cell? ((⟨g, 0, none⟩ : Addr).add j) = some u := fun j u hj => by
          obtain ⟨g', h1, h2, _⟩ := hown.cell hj
          cases h1; rw [Addr.add_lit]; simpa using h2
        have hr := run_append_grow (P := P) w t ty e i z ht hi hz ⟨g, 0, none⟩ n cap xs hown.1 holds ad m c news hl hnews' (by omega) (by omega) (growslice_fits (by omega) hbytes)
        exact ⟨_, _, _, hr, grown cap (by omega), hmod _, hsn _⟩

/-- append, one operation of a list of operations: whatever the source. -/
theorem wpl_append {ops : Array Oper} {rest : List Oper} {o : Oper} {a : Act} {Q : Exit → Act → World → Prop} (hgd : o.guard = none) (s x : Operand) (t : TypeId)
    (ho : o.op = .call { callee := .builtin .append, args := #[s, x], argTypes := #[t, t] })
    (e : TypeId) (i : TypeInfo) (z : Value) (size bytes : Nat) (ht : P.underlying t = some (.slice e)) (hi : P.info? e = some i) (hz : i.zero = some z)
    (hsize : i.size = size) (hby : i.bytes = bytes) (hzs : z.cells.size = size) (hsz : 0 < size)
    (ao : Option Addr) (n cap : Nat) (xs : List Value) (hs : a.eval s = .slice ao n cap) (hown : Own w e size ao n cap xs)
    (so : Option Addr) (m c : Nat) (news : List Value) (hx : a.eval x = .slice so m c) (hl : news.length = m * size) (hnews : Shows w so news) (h1 : ∀ u ∈ news, u.oneCell' = true)
    (h63 : n + m ≤ maxLen) (hbytes : (n + m) * bytes ≤ 140737488355328)
    (h : ∀ ao' cap' w', Own w' e size ao' (n + m) cap' (xs ++ news) → Mod (blk ao) w w' → SameOrNew w w' ao ao' → wpList P ops Q rest (a.put o.dst (.slice ao' (n + m) cap')) w') : wpList P ops Q (o :: rest) a w := by
  refine wpList_plain hgd (fun K hK => ?_)
  obtain ⟨ao', cap', w', hr, h2, h3, h4⟩ := run_append_mine (P := P) w t o.type e i z size bytes ht hi hz hsize hby hzs hsz ao n cap xs hown so m c news hl hnews h1 h63 hbytes
  unfold Oper.wp execOp
  simp only [ho, resolve, invoke, builtin, Sem.run_bind, Sem.run_pure, Result.andThen_ok, List.map_toArray, List.map_cons, List.map_nil, hs, hx, hr]
  exact hK _ _ (h ao' cap' w' h2 h3 h4)
/-- make, of a known size: zeros. -/
theorem wpl_make {ops : Array Oper} {rest : List Oper} {o : Oper} {a : Act} {Q : Exit → Act → World → Prop} (hgd : o.guard = none) (l c : Operand) (t : TypeId)
    (ho : o.op = Op.makeSlice t l c) (e : TypeId) (i : TypeInfo) (z : Value) (size bytes : Nat) (ht : P.underlying t = some (.slice e)) (hi : P.info? e = some i) (hz : i.zero = some z)
    (hsize : i.size = size) (hby : i.bytes = bytes) (kl kc : IntKind) (L C : Int) (n : Nat) (hl : a.eval l = .int kl L) (hc : a.eval c = .int kc C) (hL : L = (n : Int)) (hC : C = (n : Int)) (hb : bytes * n ≤ 281474976710656) (h63 : n ≤ maxLen)
    (h : ∀ g w', Own w' e size (some ⟨g, 0, none⟩) n n (madeCells z.cells (n * size)).toList → Mod [] w w' → w.heap.size ≤ g → wpList P ops Q rest (a.put o.dst (.slice (some ⟨g, 0, none⟩) n n)) w') : wpList P ops Q (o :: rest) a w := by
  refine wpList_plain hgd fun K hK' => ?_
  subst hsize hby hL hC
  have hb' : (i.bytes : Int) * (n : Int) ≤ 281474976710656 := by
    have h : ((i.bytes * n : Nat) : Int) ≤ 281474976710656 := by omega
    rwa [Int.natCast_mul] at h
  have hr := run_make (P := P) w t e i z ht hi hz kl kc n n (by omega) (Int.le_refl _) hb' (by unfold maxLen at h63; omega)
  simp only [Int.toNat_natCast] at hr
  unfold Oper.wp
  simp [execOp, ho, hl, hc, hr, Result.andThen]
  exact hK' _ _ (h _ _ (Own.new (heap_alloc_new w _) (.inl rfl) (size_madeCells _ _) h63) (Mod.alloc _ _ _) (Nat.le_refl _))
end
end Go.Proofs.YtekdnljincbghaaDoor
