/- Texts put together (1 of 7): Base, Own, Bytes, Str, Region, RegionU, Pool, Pool2. -/
import Derived.WalkKit
import Derived.WalkSpells
import Derived.WalkLawsBesides
import Derived.Lib.Hide
import Derived.Laws.OwnMore
import Derived.Test.YtigamomoegpefaaDoorProg
import Derived.Lib.AppendStr
import Derived.Laws.IdiomStrings
import Derived.Laws.BytesArg
import Derived.Deep.RegionHeld
import Derived.Deep.Cut
import Derived.Handy
import Derived.Lib.SliceRun
/- Plain words shared by this seat's texts: byte slices that are seen, worlds that differ in a few blocks alone, small facts on numbers. No program in sight. -/
namespace Go.Proofs.YtigamomoegpefaaDoor
open Go Go.RowKit

theorem ret_int {k : IntKind} {a b : Int} (h : a = b) : Ending.returned (.int k a) = .returned (.int k b) := by rw [h]

/-- The slice at 'ao' shows the bytes l. -/
def Sees (w : World) (ao : Option Addr) (l : List UInt8) : Prop :=
  ∀ j (h : j < l.length), ∃ b off, ao = some ⟨b, off, none⟩ ∧ w.cell? ⟨b, off + j, none⟩ = some (.int .u8 ((l[j].toNat : Nat) : Int))

theorem Sees.below {w w' : World} {ao : Option Addr} {l : List UInt8} (h : Sees w ao l) (hb : Below w.heap.size w w') : Sees w' ao l := by
  intro j hj
  obtain ⟨b, off, h1, h2⟩ := h j hj
  exact ⟨b, off, h1, by rw [hb.cell (World.block_lt_of_cell? w _ h2)]; exact h2⟩

theorem Sees.nil (w : World) (ao : Option Addr) : Sees w ao [] := fun j hj => absurd hj (by simp)

theorem Sees.at' {w : World} {ao : Option Addr} {l : List UInt8} (h : Sees w ao l) {j : Nat} (hj : j < l.length) :
    ∃ b off, ao = some ⟨b, off, none⟩ ∧ w.cell? ⟨b, off + j, none⟩ = some (.int .u8 ((l[j].toNat : Nat) : Int)) := h j hj

/-- The first k bytes. -/
theorem Sees.take {w : World} {ao : Option Addr} {l : List UInt8} (h : Sees w ao l) (k : Nat) : Sees w ao (l.take k) := by
  intro j hj
  have hj' : j < l.length := by simp only [List.length_take] at hj; omega
  obtain ⟨b, off, h1, h2⟩ := h j hj'
  exact ⟨b, off, h1, by rw [h2, List.getElem_take]⟩


/-- From w to w' at most the blocks in S have turned, of those that were there; the streams are as they were. -/
structure Mod (S : List Nat) (w w' : World) : Prop where
  os : w'.os = w.os
  tape : w'.tape = w.tape
  output : w'.output = w.output
  size : w.heap.size ≤ w'.heap.size
  block : ∀ k, k < w.heap.size → k ∉ S → w'.heap[k]? = w.heap[k]?

theorem Mod.refl (S : List Nat) (w : World) : Mod S w w := ⟨rfl, rfl, rfl, Nat.le_refl _, fun _ _ _ => rfl⟩
theorem Mod.weaken {S S' : List Nat} {w w' : World} (h : Mod S w w') (hs : ∀ k, k ∈ S → k ∈ S') : Mod S' w w' :=
  ⟨h.os, h.tape, h.output, h.size, fun k hk hn => h.block k hk (fun hm => hn (hs k hm))⟩
theorem Mod.nil {S : List Nat} {w w' : World} (h : Mod [] w w') : Mod S w w' := h.weaken (by simp)
/-- Two steps: what the second one turns is in S, or was not there. -/
theorem Mod.trans {S T : List Nat} {a b c : World} (h : Mod S a b) (k : Mod T b c) (ht : ∀ i, i ∈ T → i < a.heap.size → i ∈ S) : Mod S a c :=
  ⟨k.os.trans h.os, k.tape.trans h.tape, k.output.trans h.output, Nat.le_trans h.size k.size,
   fun i hi hn => (k.block i (Nat.lt_of_lt_of_le hi h.size) (fun hm => hn (ht i hm hi))).trans (h.block i hi hn)⟩
theorem Mod.trans' {S : List Nat} {a b c : World} (h : Mod S a b) (k : Mod S b c) : Mod S a c := h.trans k (fun _ hi _ => hi)
theorem Mod.trans0 {S : List Nat} {a b c : World} (h : Mod S a b) (k : Mod [] b c) : Mod S a c := h.trans k (by simp)
theorem Mod.drew (S : List Nat) (w : World) : Mod S w w.drew := ⟨rfl, rfl, rfl, Nat.le_refl _, fun _ _ _ => rfl⟩
theorem Mod.alloc (S : List Nat) (w : World) (o : Obj) : Mod S w (w.alloc o) := ⟨rfl, rfl, rfl, by simp, fun k hk _ => Below.heap_alloc w o k hk⟩
theorem Mod.setCell {S : List Nat} (w : World) (a : Addr) (u : Value) (h : a.block ∈ S) : Mod S w (w.setCell a u) :=
  ⟨rfl, rfl, rfl, by simp [World.setCell], fun k _ hn => Below.heap_setCell w a u k (fun e => hn (e ▸ h))⟩
theorem Mod.setCell' {S : List Nat} (w0 w : World) (a : Addr) (u : Value) (h0 : Mod S w0 w) (h : a.block < w0.heap.size → a.block ∈ S) : Mod S w0 (w.setCell a u) :=
  h0.trans (Mod.setCell (S := [a.block]) w a u (by simp)) (by intro i hi hl; simp only [List.mem_singleton] at hi; subst hi; exact h hl)
theorem Mod.get {S : List Nat} {w w' : World} (h : Mod S w w') {b : Nat} {o : Obj} (hb : w.heap[b]? = some o) (hn : b ∉ S) : w'.heap[b]? = some o := by
  rw [h.block b (lt_of_block hb) hn]; exact hb
theorem Mod.cell {S : List Nat} {w w' : World} (h : Mod S w w') {p : Addr} {v : Value} (hc : w.cell? p = some v) (hn : p.block ∉ S) : w'.cell? p = some v := by
  rw [World.cell?_of_block (h.block p.block (World.block_lt_of_cell? w _ hc) hn)]; exact hc
theorem Mod.below {S : List Nat} {w w' : World} {B : Nat} (h : Mod S w w') (hB : B ≤ w.heap.size) (hs : ∀ k, k ∈ S → B ≤ k) : Below B w w' :=
  ⟨h.os, h.tape, h.output, h.size, fun k hk => h.block k (by omega) (fun hm => by have := hs k hm; omega)⟩
theorem Mod.below0 {w w' : World} (h : Mod [] w w') : Below w.heap.size w w' := h.below (Nat.le_refl _) (by simp)
theorem Mod.ofBelow {w w' : World} (h : Below w.heap.size w w') : Mod [] w w' := ⟨h.os, h.tape, h.output, h.size, fun k hk _ => h.block k hk⟩
theorem Mod.grown {w w' : World} {row : Option Nat} (h : w.grownBy w' row) : Mod row.toList w w' :=
  ⟨h.os, h.tape, h.output, h.size, fun k hk hn => h.block k hk (fun e => hn (by rw [← e]; simp))⟩
theorem Mod.lt {S : List Nat} {w w' : World} (h : Mod S w w') {b : Nat} (hb : b < w.heap.size) : b < w'.heap.size := Nat.lt_of_lt_of_le hb h.size
/-- A block set anew. -/
theorem heap_setCell_same {w : World} {b i : Nat} {c : Array Value} {t : TypeId} {fz : Nat × Nat} (h : w.heap[b]? = some (.cells c t fz)) (u : Value) :
    (w.setCell ⟨b, i, none⟩ u).heap[b]? = some (.cells (c.setIfInBounds i u) t fz) := by
  have hlt := lt_of_block h
  have h' : w.heap[b] = .cells c t fz := by simpa [Array.getElem?_eq_getElem hlt] using h
  show (w.heap.modify b _)[b]? = _
  rw [Array.getElem?_eq_getElem (by simpa using hlt), Array.getElem_modify_self, h']
  rfl
theorem cell_of_block {w : World} {b i : Nat} {c : Array Value} {t : TypeId} {fz : Nat × Nat} (h : w.heap[b]? = some (.cells c t fz)) : w.cell? ⟨b, i, none⟩ = c[i]? := by simp [World.cell?, h]
theorem free_of_block {w : World} {b i : Nat} {c : Array Value} {t : TypeId} (h : w.heap[b]? = some (.cells c t (0, 0))) : w.frozen? ⟨b, i, none⟩ = false := by simp [World.frozen?, h]

theorem Sees.mod {S : List Nat} {w w' : World} {ao : Option Addr} {l : List UInt8} (h : Sees w ao l) (hm : Mod S w w') (hn : ∀ b off, ao = some ⟨b, off, none⟩ → b ∉ S) : Sees w' ao l := by
  intro j hj
  obtain ⟨b, off, h1, h2⟩ := h j hj
  exact ⟨b, off, h1, hm.cell h2 (hn b off h1)⟩
theorem Sees.mod0 {w w' : World} {ao : Option Addr} {l : List UInt8} (h : Sees w ao l) (hm : Mod [] w w') : Sees w' ao l := h.mod hm (by simp)

/-- Cells in the first blocks, carried on. -/
theorem cells_below {w w' : World} {B : Nat} (hb : Below B w w') {p : Addr} {v : Value} (hp : p.block < B) (h : w.cell? p = some v) : w'.cell? p = some v := by
  rw [hb.cell hp]; exact h

theorem take_snoc {α : Type} (l : List α) (k : Nat) (h : k < l.length) : l.take (k + 1) = l.take k ++ [l[k]] := by
  rw [List.take_succ_eq_append_getElem h]

theorem toNat_lt (x : UInt8) : ((x.toNat : Nat) : Int) < 256 := by have := x.toNat_lt; omega

theorem bits32_range (op : BinOp) (x y : Int) : 0 ≤ bits op .u32 x y ∧ bits op .u32 x y < 4294967296 := by
  unfold bits
  simp only [IntKind.wrap_u32']
  omega

end Go.Proofs.YtigamomoegpefaaDoor
/- Slices of the call's own: what append does to one, from a source of whatever kind. Over any program. -/
namespace Go.Proofs.YtigamomoegpefaaDoor
open Go Go.RowKit

/-- The block that a slice's address names. -/
def blk : Option Addr → List Nat
  | some a => [a.block]
  | none => []

/-- A slice of n elements (sz cells each, of type e) in a block of its own, from the block's head; its cells are xs. -/
def Own (w : World) (e : TypeId) (sz : Nat) (ao : Option Addr) (n cap : Nat) (xs : List Value) : Prop :=
  xs.length = n * sz ∧ ((ao = none ∧ n = 0 ∧ cap = 0) ∨
    ∃ g cur fz, ao = some ⟨g, 0, none⟩ ∧ w.heap[g]? = some (.cells cur e fz) ∧ (fz = (0, 0) ∨ cur.size ≤ fz.1) ∧ n ≤ cap ∧ cap ≤ maxLen ∧ cap * sz ≤ cur.size ∧ cur.toList.take (n * sz) = xs)

theorem Own.nil0 (w : World) (e : TypeId) (sz : Nat) : Own w e sz none 0 0 [] := ⟨by simp, .inl ⟨rfl, rfl, rfl⟩⟩

theorem Own.mod {S : List Nat} {w w' : World} {e : TypeId} {sz : Nat} {ao : Option Addr} {n cap : Nat} {xs : List Value} (h : Own w e sz ao n cap xs) (hm : Mod S w w') (hn : ∀ k, k ∈ blk ao → k ∉ S) : Own w' e sz ao n cap xs := by
  refine ⟨h.1, ?_⟩
  rcases h.2 with h | ⟨g, cur, fz, rfl, hg, r⟩
  · exact .inl h
  · exact .inr ⟨g, cur, fz, rfl, hm.get hg (hn g (by simp [blk])), r⟩
theorem Own.mod0 {w w' : World} {e : TypeId} {sz : Nat} {ao : Option Addr} {n cap : Nat} {xs : List Value} (h : Own w e sz ao n cap xs) (hm : Mod [] w w') : Own w' e sz ao n cap xs := h.mod hm (by simp)
theorem Own.lt {w : World} {e : TypeId} {sz : Nat} {ao : Option Addr} {n cap : Nat} {xs : List Value} (h : Own w e sz ao n cap xs) : ∀ k, k ∈ blk ao → k < w.heap.size := by
  intro k hk
  rcases h.2 with ⟨rfl, _⟩ | ⟨g, cur, fz, rfl, hg, _⟩
  · simp [blk] at hk
  · simp only [blk, List.mem_singleton] at hk; subst hk; exact lt_of_block hg
theorem Own.cell {w : World} {e : TypeId} {sz : Nat} {ao : Option Addr} {n cap : Nat} {xs : List Value} (h : Own w e sz ao n cap xs) {j : Nat} {u : Value} (hj : xs[j]? = some u) :
    ∃ g, ao = some ⟨g, 0, none⟩ ∧ w.cell? ⟨g, j, none⟩ = some u ∧ w.frozen? ⟨g, j, none⟩ = false := by
  rcases h.2 with ⟨rfl, rfl, _⟩ | ⟨g, cur, fz, rfl, hg, hz, hn, hm, hs, ht⟩
  · have h0 : xs = [] := List.eq_nil_of_length_eq_zero (by rw [h.1]; simp)
    subst h0; simp at hj
  · rw [← ht, List.getElem?_take] at hj
    split at hj
    · have hj' : cur[j]? = some u := by simpa using hj
      refine ⟨g, rfl, by rw [cell_of_block hg]; exact hj', ?_⟩
      have hlt := (Array.getElem?_eq_some_iff.1 hj').1
      rcases hz with rfl | hz
      · exact free_of_block hg
      · simp only [World.frozen?, hg]
        have : ¬ fz.1 ≤ j := by omega
        simp [this]
    · cases hj
/-- As kit's word has it. -/
theorem Own.le {w : World} {e : TypeId} {sz : Nat} {ao : Option Addr} {n cap : Nat} {xs : List Value} (h : Own w e sz ao n cap xs) : n ≤ cap := by
  rcases h.2 with ⟨_, rfl, rfl⟩ | ⟨g, cur, fz, rfl, hg, hz, hn, _⟩
  · exact Nat.le_refl _
  · exact hn
theorem Own.ne_none {w : World} {e : TypeId} {sz : Nat} {ao : Option Addr} {n cap : Nat} {xs : List Value} (h : Own w e sz ao n cap xs) (h0 : 0 < n) : ∃ g, ao = some ⟨g, 0, none⟩ ∧ g < w.heap.size := by
  rcases h.2 with ⟨_, rfl, _⟩ | ⟨g, cur, fz, rfl, hg, _⟩
  · omega
  · exact ⟨g, rfl, lt_of_block hg⟩

/-- A new row of cells, whole. -/
theorem Own.new {w : World} {g : Nat} {e : TypeId} {sz : Nat} {cur : Array Value} {fz : Nat × Nat} {n : Nat} (hg : w.heap[g]? = some (.cells cur e fz)) (hz : fz = (0, 0) ∨ cur.size ≤ fz.1) (hs : cur.size = n * sz) (hm : n ≤ maxLen) : Own w e sz (some ⟨g, 0, none⟩) n n cur.toList :=
  ⟨by simpa using hs, .inr ⟨g, cur, fz, rfl, hg, hz, Nat.le_refl _, hm, Nat.le_of_eq hs.symm, by rw [← hs]; exact List.take_of_length_le (by simp)⟩⟩

/-- A cell of a row of the call's own is stored. -/
theorem Own.set {w : World} {e : TypeId} {sz g n cap j : Nat} {xs : List Value} (h : Own w e sz (some ⟨g, 0, none⟩) n cap xs) (u : Value) :
    Own (w.setCell ⟨g, j, none⟩ u) e sz (some ⟨g, 0, none⟩) n cap (xs.set j u) := by
  rcases h.2 with ⟨h0, _⟩ | ⟨g', cur, fz, hg, hb, hz, hn, hm, hs, ht⟩
  · cases h0
  · cases hg
    refine ⟨by rw [List.length_set]; exact h.1, .inr ⟨g, cur.setIfInBounds j u, fz, rfl, heap_setCell_same hb u, by simpa using hz, hn, hm, by simpa using hs, ?_⟩⟩
    rw [Array.toList_setIfInBounds, List.take_set, ht]

/-- The new slice lies where the old one lay, or in a new block. -/
def SameOrNew (w w' : World) (ao ao' : Option Addr) : Prop := ao' = ao ∨ ∃ g, ao' = some ⟨g, 0, none⟩ ∧ w.heap.size ≤ g ∧ g < w'.heap.size
theorem SameOrNew.blk {w w' : World} {ao ao' : Option Addr} (h : SameOrNew w w' ao ao') : ∀ k, k ∈ blk ao' → k ∈ blk ao ∨ w.heap.size ≤ k := by
  intro k hk
  rcases h with rfl | ⟨g, rfl, hg, _⟩
  · exact .inl hk
  · simp only [Proofs.YtigamomoegpefaaDoor.blk, List.mem_singleton] at hk; subst hk; exact .inr hg

theorem Mod.transNew {S : List Nat} {a b c : World} {ao ao' : Option Addr} (h : Mod S a b) (k : Mod (blk ao') b c) (n : SameOrNew a b ao ao') (hs : ∀ k, k ∈ blk ao → k ∈ S) : Mod S a c :=
  h.trans k (fun i hi hl => by rcases n.blk i hi with h' | h'; exact hs i h'; omega)

/-- The source shows these cells. -/
def Shows (w : World) (ao : Option Addr) (news : List Value) : Prop := ∀ j u, news[j]? = some u → ∃ ad, ao = some ad ∧ w.cell? (ad.add j) = some u

def u8v (x : UInt8) : Value := .int .u8 ((x.toNat : Nat) : Int)
theorem Sees.shows {w : World} {ao : Option Addr} {l : List UInt8} (h : Sees w ao l) : Shows w ao (l.map u8v) := by
  intro j u hj
  rw [List.getElem?_map] at hj
  cases hl : l[j]? with
  | none => rw [hl] at hj; simp at hj
  | some x =>
    rw [hl] at hj
    obtain ⟨hlt, hx⟩ := List.getElem?_eq_some_iff.1 hl
    obtain ⟨b, off, h1, h2⟩ := h j hlt
    refine ⟨_, h1, ?_⟩
    rw [Addr.add_lit, h2, hx]
    exact hj
theorem Own.shows {w : World} {e : TypeId} {sz : Nat} {ao : Option Addr} {n cap : Nat} {xs : List Value} (h : Own w e sz ao n cap xs) : Shows w ao xs := by
  intro j u hj
  obtain ⟨g, h1, h2, _⟩ := h.cell hj
  exact ⟨_, h1, by rw [Addr.add_lit]; simpa using h2⟩
theorem Own.sees {w : World} {e : TypeId} {ao : Option Addr} {n cap : Nat} {l : List UInt8} (h : Own w e 1 ao n cap (l.map u8v)) : Sees w ao l := by
  intro j hj
  obtain ⟨g, h1, h2, _⟩ := h.cell (j := j) (u := u8v l[j]) (by rw [List.getElem?_map, List.getElem?_eq_getElem hj]; rfl)
  exact ⟨g, 0, h1, by rw [Nat.zero_add]; exact h2⟩
theorem Own.len1 {w : World} {e : TypeId} {ao : Option Addr} {n cap : Nat} {α : Type} {f : α → Value} {l : List α} (h : Own w e 1 ao n cap (l.map f)) : n = l.length := by
  have := h.1; simpa using this.symm
theorem one_u8 : ∀ (l : List UInt8), ∀ u ∈ l.map u8v, u.oneCell' = true := by
  intro l u hu
  obtain ⟨x, _, rfl⟩ := List.mem_map.1 hu
  rfl

section
variable {P : Program} (w : World)
/-- Cells are stored one by one into a row whose mark, if it bears one, lies behind its last cell. -/
theorem run_storeCells_fz (g o : Nat) (t : TypeId) (fz : Nat × Nat) : ∀ (vs : List Value) (i : Nat) (cur : Array Value) (w : World), w.heap[g]? = some (.cells cur t fz) → (fz = (0, 0) ∨ cur.size ≤ fz.1) → o + i + vs.length ≤ cur.size → (∀ v ∈ vs, v.oneCell' = true) →
    (storeCells ⟨g, o, none⟩ vs i).run P w = .ok () (w.setRow g (cur.toList.take (o + i) ++ vs ++ cur.toList.drop (o + i + vs.length)).toArray)
  | [], i, cur, w, hg, _, _, _ => by
    simp only [storeCells, List.append_nil, List.length_nil, Nat.add_zero, List.take_append_drop, Array.toArray_toList]
    rw [setRow_self w g cur t fz hg]
    rfl
  | v :: rest, i, cur, w, hg, hz, hl, h1 => by
    have hi : o + i < cur.size := by simp at hl; omega
    have hcell : w.cell? ⟨g, o + i, none⟩ = some cur[o + i] := by rw [cell_of_block hg]; simp [hi]
    have hfro : w.frozen? ⟨g, o + i, none⟩ = false := by
      rcases hz with rfl | hz
      · exact free_of_block hg
      · simp only [World.frozen?, hg]
        have : ¬ fz.1 ≤ o + i := by omega
        simp [this]
    have hst : (store ((⟨g, o, none⟩ : Addr).add i) v).run P w = .ok () (w.setRow g (cur.setIfInBounds (o + i) v)) := by
      rw [Addr.add_lit, run_store P w _ v _ (h1 v (by simp)), hcell]
      simp [hfro, setCell_eq_setRow w g (o + i) cur t fz v hg]
    have ih := run_storeCells_fz g o t fz rest (i + 1) (cur.setIfInBounds (o + i) v) (w.setRow g (cur.setIfInBounds (o + i) v)) (setRow_heap w g cur _ t _ hg) (by simpa using hz) (by simp at hl ⊢; omega) (fun x hx => h1 x (by simp [hx]))
    simp only [storeCells, Sem.run_bind, hst, Result.andThen_ok, ih, setRow_setRow]
    congr 3
    have e := list_seg_step cur.toList (o + i) v rest (by simp at hl ⊢; omega)
    simpa [Array.toList_setIfInBounds, Nat.add_assoc] using e
theorem run_append_room_fz (t ty e : TypeId) (i : TypeInfo) (ht : P.underlying t = some (.slice e)) (hi : P.info? e = some i)
    (g sLen sCap : Nat) (cur : Array Value) (fz : Nat × Nat) (hg : w.heap[g]? = some (.cells cur e fz)) (hz : fz = (0, 0) ∨ cur.size ≤ fz.1)
    (a : Addr) (m c : Nat) (news : List Value) (hl : news.length = m * i.size) (hnews : ∀ j u, news[j]? = some u → w.cell? (a.add j) = some u) (h1 : ∀ u ∈ news, u.oneCell' = true)
    (hroom : sLen + m ≤ sCap) (hfit : sLen * i.size + news.length ≤ cur.size) :
    (Builtin.append_ #[t, t] ty #[.slice (some ⟨g, 0, none⟩) sLen sCap, .slice (some a) m c]).run P w =
      .ok (.slice (some ⟨g, 0, none⟩) (sLen + m) sCap) (w.setRow g (cur.toList.take (sLen * i.size) ++ news ++ cur.toList.drop (sLen * i.size + news.length)).toArray) := by
  have hf := run_firstCells_some (P := P) w i.size m a m c news hl hnews
  have hst := run_storeCells_fz (P := P) g (sLen * i.size) e fz news 0 cur w hg hz (by simpa using hfit) h1
  simp only [Nat.add_zero] at hst
  simp [Builtin.append_, run_underlying ht, sizeOf, typeInfo, hi, Builtin.lenOf, hroom, hf, Addr.add_lit, hst]
theorem run_append_mine (t ty e : TypeId) (i : TypeInfo) (z : Value) (size bytes : Nat) (ht : P.underlying t = some (.slice e)) (hi : P.info? e = some i) (hz : i.zero = some z)
    (hsize : i.size = size) (hby : i.bytes = bytes) (hzs : z.cells.size = size) (hsz : 0 < size)
    (ao : Option Addr) (n cap : Nat) (xs : List Value) (hown : Own w e size ao n cap xs)
    (so : Option Addr) (m c : Nat) (news : List Value) (hl : news.length = m * size) (hnews : Shows w so news) (h1 : ∀ u ∈ news, u.oneCell' = true)
    (h63 : n + m ≤ maxLen) (hbytes : (n + m) * bytes ≤ 140737488355328) :
    ∃ ao' cap' w', (Builtin.append_ #[t, t] ty #[.slice ao n cap, .slice so m c]).run P w = .ok (.slice ao' (n + m) cap') w' ∧ Own w' e size ao' (n + m) cap' (xs ++ news) ∧ Mod (blk ao) w w' ∧ SameOrNew w w' ao ao' := by
  subst hsize
  subst hby
  have hsmall : n + m ≤ 9223372036854775807 := by simp only [maxLen] at h63; omega
  have hlen : (xs ++ news).length = (n + m) * i.size := by rw [List.length_append, hown.1, hl, Nat.add_mul]
  by_cases hm0 : m = 0
  · subst hm0
    have hn0 : news = [] := List.eq_nil_of_length_eq_zero (by simpa using hl)
    subst hn0
    have hle := hown.le
    refine ⟨ao, cap, w, ?_, by simpa using hown, Mod.refl _ _, .inl rfl⟩
    have hf : (Builtin.firstCells i.size 0 (.slice so 0 c)).run P w = .ok #[] w := by
      cases so with
      | none => exact run_firstCells_none _ _ _ _ _
      | some ad => simpa using run_firstCells_some (P := P) w i.size 0 ad 0 c [] (by simp) (by simp)
    cases ao with
    | none => simp [Builtin.append_, run_underlying ht, sizeOf, typeInfo, hi, Builtin.lenOf, hle, hf]
    | some a => simp [Builtin.append_, run_underlying ht, sizeOf, typeInfo, hi, Builtin.lenOf, hle, hf, storeCells]
  · obtain ⟨ad, rfl⟩ : ∃ ad, so = some ad := by
      have : 0 < news.length := by rw [hl]; exact Nat.mul_pos (by omega) hsz
      obtain ⟨ad, h, _⟩ := hnews 0 news[0] (by rw [List.getElem?_eq_getElem this])
      exact ⟨ad, h⟩
    have hnews' : ∀ j u, news[j]? = some u → w.cell? (ad.add j) = some u := fun j u hj => by
      obtain ⟨ad', h, h2⟩ := hnews j u hj
      cases h; exact h2
    have grown : ∀ (old : Nat), old < n + m →
        Own (w.drew.alloc (.cells (xs.toArray ++ news.toArray ++ Builtin.zeroCells z.cells (grownCap w (n + m) old e - (n + m))) e)) e i.size (some ⟨w.heap.size, 0, none⟩) (n + m) (grownCap w (n + m) old e) (xs ++ news) := by
      intro old ho
      have hge := grownCap_ge w (n + m) old e
      refine ⟨hlen, .inr ⟨w.heap.size, _, (0, 0), rfl, heap_alloc_new w.drew _, .inl rfl, hge, grownCap_le_maxLen w (n + m) old e h63, ?_, ?_⟩⟩
      · simp only [Array.size_append, List.size_toArray, size_zeroCells, hzs, hown.1, hl, ← Nat.add_mul]
        exact Nat.mul_le_mul_right _ (by omega)
      · simp only [Array.toList_append, List.append_assoc]
        rw [← List.append_assoc, ← hlen]
        exact List.take_left
    have hmod : ∀ o : Obj, Mod (blk ao) w (w.drew.alloc o) := fun o => (Mod.drew _ w).trans' (Mod.alloc _ _ o)
    have hsn : ∀ o : Obj, SameOrNew w (w.drew.alloc o) ao (some ⟨w.heap.size, 0, none⟩) := fun o => .inr ⟨w.heap.size, rfl, Nat.le_refl _, by simp⟩
    rcases hown.2 with ⟨rfl, rfl, rfl⟩ | ⟨g, cur, fz, rfl, hg, hfz, hnc, hcm, hcs, htake⟩
    · have hx : xs = [] := List.eq_nil_of_length_eq_zero (by simpa using hown.1)
      subst hx
      have hr := run_append_nil (P := P) w t ty e i z ht hi hz ad m c news hl hnews' (by omega) (by omega) (by have hb := hbytes; simp only [Nat.zero_add] at hb; omega)
      have hgr := grown 0 (by omega)
      simp only [Nat.zero_add, List.nil_append, Array.empty_append] at hgr ⊢
      exact ⟨_, _, _, hr, hgr, hmod _, hsn _⟩
    · by_cases hroom : n + m ≤ cap
      · have hfit : n * i.size + news.length ≤ cur.size := Nat.le_trans (by rw [hl, ← Nat.add_mul]; exact Nat.mul_le_mul_right _ hroom) hcs
        have hr := run_append_room_fz (P := P) w t ty e i ht hi g n cap cur fz hg hfz ad m c news hl hnews' h1 hroom hfit
        refine ⟨_, _, _, hr, ⟨hlen, .inr ⟨g, _, fz, rfl, setRow_heap w g cur _ e _ hg, hfz.imp id (fun h => by simp; omega), hroom, hcm, ?_, ?_⟩⟩, ⟨rfl, rfl, rfl, by simp, fun k _ hk => setRow_other w g k _ (fun e => hk (by simp [blk, e]))⟩, .inl rfl⟩
        · simp only [List.size_toArray, List.length_append, List.length_take, List.length_drop, Array.length_toList]
          omega
        · rw [htake, ← hlen]
          exact List.take_left
      · have holds : ∀ j u, xs[j]? = some u → w.cell? ((⟨g, 0, none⟩ : Addr).add j) = some u := fun j u hj => by
          obtain ⟨g', h1, h2, _⟩ := hown.cell hj
          cases h1; rw [Addr.add_lit]; simpa using h2
        have hr := run_append_grow (P := P) w t ty e i z ht hi hz ⟨g, 0, none⟩ n cap xs hown.1 holds ad m c news hl hnews' (by omega) (by omega) (growslice_fits (by omega) hbytes)
        exact ⟨_, _, _, hr, grown cap (by omega), hmod _, hsn _⟩

/-- append, one operation of a list of operations: whatever the source. -/
theorem wpl_append {ops : Array Oper} {rest : List Oper} {o : Oper} {a : Act} {Q : Exit → Act → World → Prop} (hgd : o.guard = none) (s x : Operand) (t : TypeId)
    (ho : o.op = .call { callee := .builtin .append, args := #[s, x], argTypes := #[t, t] })
    (e : TypeId) (i : TypeInfo) (z : Value) (size bytes : Nat) (ht : P.underlying t = some (.slice e)) (hi : P.info? e = some i) (hz : i.zero = some z)
    (hsize : i.size = size) (hby : i.bytes = bytes) (hzs : z.cells.size = size) (hsz : 0 < size)
    (ao : Option Addr) (n cap : Nat) (xs : List Value) (hs : a.eval s = .slice ao n cap) (hown : Own w e size ao n cap xs)
    (so : Option Addr) (m c : Nat) (news : List Value) (hx : a.eval x = .slice so m c) (hl : news.length = m * size) (hnews : Shows w so news) (h1 : ∀ u ∈ news, u.oneCell' = true)
    (h63 : n + m ≤ maxLen) (hbytes : (n + m) * bytes ≤ 140737488355328)
    (h : ∀ ao' cap' w', Own w' e size ao' (n + m) cap' (xs ++ news) → Mod (blk ao) w w' → SameOrNew w w' ao ao' → wpList P ops Q rest (a.put o.dst (.slice ao' (n + m) cap')) w') : wpList P ops Q (o :: rest) a w := by
  refine wpList_plain hgd (fun K hK => ?_)
  obtain ⟨ao', cap', w', hr, h2, h3, h4⟩ := run_append_mine (P := P) w t o.type e i z size bytes ht hi hz hsize hby hzs hsz ao n cap xs hown so m c news hl hnews h1 h63 hbytes
  unfold Oper.wp execOp
  simp only [ho, resolve, invoke, builtin, Sem.run_bind, Sem.run_pure, Result.andThen_ok, List.map_toArray, List.map_cons, List.map_nil, hs, hx, hr]
  exact hK _ _ (h ao' cap' w' h2 h3 h4)
/-- make, of a known size: zeros. -/
theorem wpl_make {ops : Array Oper} {rest : List Oper} {o : Oper} {a : Act} {Q : Exit → Act → World → Prop} (hgd : o.guard = none) (l c : Operand) (t : TypeId)
    (ho : o.op = Op.makeSlice t l c) (e : TypeId) (i : TypeInfo) (z : Value) (size bytes : Nat) (ht : P.underlying t = some (.slice e)) (hi : P.info? e = some i) (hz : i.zero = some z)
    (hsize : i.size = size) (hby : i.bytes = bytes) (kl kc : IntKind) (L C : Int) (n : Nat) (hl : a.eval l = .int kl L) (hc : a.eval c = .int kc C) (hL : L = (n : Int)) (hC : C = (n : Int)) (hb : bytes * n ≤ 281474976710656) (h63 : n ≤ maxLen)
    (h : ∀ g w', Own w' e size (some ⟨g, 0, none⟩) n n (madeCells z.cells (n * size)).toList → Mod [] w w' → w.heap.size ≤ g → wpList P ops Q rest (a.put o.dst (.slice (some ⟨g, 0, none⟩) n n)) w') : wpList P ops Q (o :: rest) a w := by
  refine wpList_plain hgd fun K hK' => ?_
  subst hsize hby hL hC
  have hb' : (i.bytes : Int) * (n : Int) ≤ 281474976710656 := by
    have h : ((i.bytes * n : Nat) : Int) ≤ 281474976710656 := by omega
    rwa [Int.natCast_mul] at h
  have hr := run_make (P := P) w t e i z ht hi hz kl kc n n (by omega) (Int.le_refl _) hb' (by unfold maxLen at h63; omega)
  simp only [Int.toNat_natCast] at hr
  unfold Oper.wp
  simp [execOp, ho, hl, hc, hr, Result.andThen]
  exact hK' _ _ (h _ _ (Own.new (heap_alloc_new w _) (.inl rfl) (size_madeCells _ _) h63) (Mod.alloc _ _ _) (Nat.le_refl _))
end
end Go.Proofs.YtigamomoegpefaaDoor
/- Laws for slices of bytes over this seat's program. -/
namespace Go.Proofs.YtigamomoegpefaaDoor
open Go Go.RowKit

theorem infoU8 : (Tryd.prog.info? 5).map (fun i => (i.zero, i.size, i.bytes)) = some (some (.int .u8 0), 1, 1) := by kernel_rfl

/-- A slice of bytes of the call's own. -/
def OwnB (w : World) (ao : Option Addr) (cap : Nat) (l : List UInt8) : Prop := Own w 5 1 ao l.length cap (l.map u8v)
theorem OwnB.nil (w : World) : OwnB w none 0 [] := Own.nil0 _ _ _
theorem OwnB.sees {w : World} {ao : Option Addr} {cap : Nat} {l : List UInt8} (h : OwnB w ao cap l) : Sees w ao l := Own.sees h
theorem OwnB.mod {S : List Nat} {w w' : World} {ao : Option Addr} {cap : Nat} {l : List UInt8} (h : OwnB w ao cap l) (hm : Mod S w w') (hn : ∀ k, k ∈ blk ao → k ∉ S) : OwnB w' ao cap l := Own.mod h hm hn
theorem OwnB.mod0 {w w' : World} {ao : Option Addr} {cap : Nat} {l : List UInt8} (h : OwnB w ao cap l) (hm : Mod [] w w') : OwnB w' ao cap l := Own.mod0 h hm

/-- append of bytes to bytes of the call's own. -/
theorem wpl_app8 {w : World} {ops : Array Oper} {rest : List Oper} {a : Act} {Q : Exit → Act → World → Prop} {dst : Option Tmp} {ty : TypeId} {pos : String} {after : Array Edge} (s x : Operand)
    (ao : Option Addr) (n cap : Nat) (xs : List UInt8) (hs : a.eval s = .slice ao n cap) (hn : xs.length = n) (hown : OwnB w ao cap xs)
    (so : Option Addr) (m c : Nat) (l : List UInt8) (hx : a.eval x = .slice so m c) (hl : l.length = m) (hsees : Sees w so l) (hb : n + m ≤ 140737488355328)
    (h : ∀ ao' cap' w', OwnB w' ao' cap' (xs ++ l) → Mod (blk ao) w w' → SameOrNew w w' ao ao' → wpList Tryd.prog ops Q rest (a.put dst (.slice ao' (n + m) cap')) w') :
    wpList Tryd.prog ops Q (⟨dst, .call { callee := .builtin .append, args := #[s, x], argTypes := #[74, 74] }, ty, pos, after, none⟩ :: rest) a w := by
  obtain ⟨i0, hi, hz0, hz1, hz2⟩ := info_parts infoU8
  subst hn hl
  refine wpl_append w rfl s x 74 rfl 5 i0 _ 1 1 Tryd.underlying74 hi hz0 hz1 hz2 rfl (by decide) ao _ cap _ hs hown so _ c (l.map u8v) hx (by simp) hsees.shows (one_u8 _) (by unfold maxLen; omega) (by omega) ?_
  intro ao' cap' w' h1 h2 h3
  refine h ao' cap' w' ?_ h2 h3
  unfold OwnB
  rw [List.length_append, List.map_append]
  exact h1
/-- Bytes l are handed back, in the block of ao or in a new one (ao none: in a new one). -/
def RetApp (w : World) (ao : Option Addr) (l : List UInt8) (e : Ending) (w' : World) : Prop :=
  ∃ ao' n cap', e = .returned (.slice ao' n cap') ∧ l.length = n ∧ OwnB w' ao' cap' l ∧ Mod (blk ao) w w' ∧ SameOrNew w w' ao ao'
theorem OwnB.lit1 {w : World} {g : Nat} {v : Int} {fz : Nat × Nat} (h : w.heap[g]? = some (.cells #[.int .u8 v] 5 fz)) (x : UInt8) (hx : v = (x.toNat : Int)) (hz : fz = (0, 0) ∨ 1 ≤ fz.1) : OwnB w (some ⟨g, 0, none⟩) 1 [x] := by
  subst hx
  exact Own.new (sz := 1) (n := 1) h hz (by simp) (by unfold maxLen; omega)
theorem SameOrNew.trans {a b c : World} {x y z : Option Addr} (h : SameOrNew a b x y) (k : SameOrNew b c y z) (hs : a.heap.size ≤ b.heap.size) (hs2 : b.heap.size ≤ c.heap.size) : SameOrNew a c x z := by
  rcases k with rfl | ⟨g, rfl, h1, h2⟩
  · rcases h with rfl | ⟨g, rfl, h1, h2⟩
    · exact .inl rfl
    · exact .inr ⟨g, rfl, h1, by omega⟩
  · exact .inr ⟨g, rfl, by omega, h2⟩
/-- Two such calls, one behind the other. -/
theorem RetApp.chain {a b c : World} {x y : Option Addr} {l : List UInt8} {e : Ending} (hm : Mod (blk x) a b) (hn : SameOrNew a b x y) (h : RetApp b y l e c) : RetApp a x l e c := by
  obtain ⟨ao', n, cap', h1, hl, h2, h3, h4⟩ := h
  exact ⟨ao', n, cap', h1, hl, h2, hm.transNew h3 hn (fun _ h => h), hn.trans h4 hm.size h3.size⟩
theorem RetApp.later {a b c : World} {x : Option Addr} {l : List UInt8} {e : Ending} (hm : Mod [] a b) (h : RetApp b x l e c) : RetApp a x l e c :=
  h.chain hm.nil (.inl rfl)
theorem madeU8 (n : Nat) : (madeCells (Value.cells (.int .u8 0)) (n * 1)).toList = (List.replicate n (0 : UInt8)).map u8v := by
  rw [Nat.mul_one]
  show (madeCells #[Value.int .u8 0] n).toList = _
  rw [toList_madeCells_one, List.map_replicate]
  rfl
/-- make([]byte, n). -/
theorem wpl_make8 {w : World} {ops : Array Oper} {rest : List Oper} {a : Act} {Q : Exit → Act → World → Prop} {dst : Option Tmp} {ty : TypeId} {pos : String} {after : Array Edge} (l c : Operand)
    (kl kc : IntKind) (L C : Int) (n : Nat) (hl : a.eval l = .int kl L) (hc : a.eval c = .int kc C) (hL : L = (n : Int)) (hC : C = (n : Int)) (hb : n ≤ 281474976710656)
    (h : ∀ g w', OwnB w' (some ⟨g, 0, none⟩) n (List.replicate n 0) → Mod [] w w' → w.heap.size ≤ g → wpList Tryd.prog ops Q rest (a.put dst (.slice (some ⟨g, 0, none⟩) n n)) w') :
    wpList Tryd.prog ops Q (⟨dst, .makeSlice 74 l c, ty, pos, after, none⟩ :: rest) a w := by
  obtain ⟨i0, hi, hz0, hz1, hz2⟩ := info_parts infoU8
  refine wpl_make w rfl l c 74 rfl 5 i0 _ 1 1 Tryd.underlying74 hi hz0 hz1 hz2 kl kc L C n hl hc hL hC (by omega) (by unfold maxLen; omega) ?_
  intro g w' h1 h2 h3
  rw [madeU8] at h1
  exact h g w' (by unfold OwnB; rw [List.length_replicate]; exact h1) h2 h3
/-- A byte of a row of the call's own is stored. -/
theorem OwnB.set {w : World} {g cap j : Nat} {l : List UInt8} (h : OwnB w (some ⟨g, 0, none⟩) cap l) (x : UInt8) : OwnB (w.setCell ⟨g, j, none⟩ (u8v x)) (some ⟨g, 0, none⟩) cap (l.set j x) := by
  have := Own.set (j := j) h (u8v x)
  unfold OwnB
  rw [List.length_set, List.map_set]
  exact this
theorem OwnB.cell {w : World} {ao : Option Addr} {cap j : Nat} {l : List UInt8} (h : OwnB w ao cap l) (hj : j < l.length) :
    ∃ g, ao = some ⟨g, 0, none⟩ ∧ w.cell? ⟨g, j, none⟩ = some (.int .u8 ((l[j].toNat : Nat) : Int)) ∧ w.frozen? ⟨g, j, none⟩ = false :=
  Own.cell (j := j) (u := u8v l[j]) h (by rw [List.getElem?_map, List.getElem?_eq_getElem hj]; rfl)
end Go.Proofs.YtigamomoegpefaaDoor
/- Strings and bytes: conversions, and a string appended to bytes of the call's own. -/
namespace Go.Proofs.YtigamomoegpefaaDoor
open Go Go.RowKit Go.Lib

/-- The string of these bytes. -/
abbrev strV (l : List UInt8) : Value := .string ⟨l.toArray⟩
theorem str_eta (s : ByteArray) : s = ⟨s.data.toList.toArray⟩ := by cases s; simp
theorem strCells_eq (s : ByteArray) : strCells s = s.data.toList.map u8v := rfl
theorem size_data (s : ByteArray) : s.data.toList.length = s.size := by rw [Array.length_toList]; rfl

section
variable {P : Program} (w : World)
theorem run_append_room_string_fz (t u ty e : TypeId) (i : TypeInfo) (ht : P.underlying t = some (.slice e)) (hu : P.underlying u = some .string) (hi : P.info? e = some i) (hs1 : i.size = 1)
    (g sLen sCap : Nat) (cur : Array Value) (fz : Nat × Nat) (hg : w.heap[g]? = some (.cells cur e fz)) (hz : fz = (0, 0) ∨ cur.size ≤ fz.1) (s : ByteArray)
    (hroom : sLen + s.size ≤ sCap) (hfit : sLen + s.size ≤ cur.size) :
    (Builtin.append_ #[t, u] ty #[.slice (some ⟨g, 0, none⟩) sLen sCap, .string s]).run P w =
      .ok (.slice (some ⟨g, 0, none⟩) (sLen + s.size) sCap) (w.setRow g (cur.toList.take sLen ++ strCells s ++ cur.toList.drop (sLen + s.size)).toArray) := by
  have hf := run_firstCells_string (P := P) w 1 s
  have hst := run_storeCells_fz (P := P) g sLen e fz (strCells s) 0 cur w hg hz (by simpa [strCells_length] using hfit) (strCells_oneCell s)
  simp only [Nat.add_zero, strCells_length] at hst
  simp [Builtin.append_, run_underlying ht, run_underlying hu, sizeOf, typeInfo, hi, hs1, Builtin.lenOf, hroom, hf, Addr.add_lit, hst]

theorem run_append_str (t u ty e : TypeId) (i : TypeInfo) (ht : P.underlying t = some (.slice e)) (hu : P.underlying u = some .string) (hi : P.info? e = some i) (hz : i.zero = some (.int .u8 0))
    (hsize : i.size = 1) (hby : i.bytes = 1)
    (ao : Option Addr) (n cap : Nat) (xs : List Value) (hown : Own w e 1 ao n cap xs) (s : ByteArray) (hbytes : n + s.size ≤ 140737488355328) :
    ∃ ao' cap' w', (Builtin.append_ #[t, u] ty #[.slice ao n cap, .string s]).run P w = .ok (.slice ao' (n + s.size) cap') w' ∧ Own w' e 1 ao' (n + s.size) cap' (xs ++ strCells s) ∧ Mod (blk ao) w w' ∧ SameOrNew w w' ao ao' := by
  have hxl : xs.length = n := by simpa using hown.1
  have hlen : (xs ++ strCells s).length = (n + s.size) * 1 := by rw [List.length_append, hxl, strCells_length]; omega
  have hmod : ∀ o : Obj, Mod (blk ao) w (w.drew.alloc o) := fun o => (Mod.drew _ w).trans' (Mod.alloc _ _ o)
  have hsn : ∀ o : Obj, SameOrNew w (w.drew.alloc o) ao (some ⟨w.heap.size, 0, none⟩) := fun o => .inr ⟨w.heap.size, rfl, Nat.le_refl _, by simp⟩
  have grown : ∀ (old : Nat) (rowCells : Array Value), old < n + s.size → rowCells.toList = xs ++ strCells s →
      Own (w.drew.alloc (.cells (rowCells ++ Builtin.zeroCells (Value.cells (.int .u8 0)) (grownCap w (n + s.size) old e - (n + s.size))) e)) e 1 (some ⟨w.heap.size, 0, none⟩) (n + s.size) (grownCap w (n + s.size) old e) (xs ++ strCells s) := by
    intro old row ho hrow
    have hge := grownCap_ge w (n + s.size) old e
    have hrs : row.size = n + s.size := by rw [← Array.length_toList, hrow]; omega
    refine ⟨hlen, .inr ⟨w.heap.size, _, (0, 0), rfl, heap_alloc_new w.drew _, .inl rfl, hge, grownCap_le_maxLen w (n + s.size) old e (by unfold maxLen; omega), ?_, ?_⟩⟩
    · simp only [Array.size_append, size_zeroCells, hrs]
      show _ ≤ n + s.size + (grownCap w (n + s.size) old e - (n + s.size)) * 1
      omega
    · simp only [Array.toList_append, hrow]
      rw [← hlen]
      exact List.take_left
  rcases hown.2 with ⟨rfl, rfl, rfl⟩ | ⟨g, cur, fz, rfl, hg, hfz, hnc, hcm, hcs, htake⟩
  · have hx : xs = [] := List.eq_nil_of_length_eq_zero hxl
    subst hx
    by_cases h0 : s.size = 0
    · have hs0 : strCells s = [] := List.eq_nil_of_length_eq_zero (by rw [strCells_length]; exact h0)
      refine ⟨none, 0, w, ?_, by rw [hs0, h0]; simpa using Own.nil0 w e 1, Mod.refl _ _, .inl rfl⟩
      simp [Builtin.append_, run_underlying ht, run_underlying hu, sizeOf, typeInfo, hi, Builtin.lenOf, h0, Builtin.firstCells]
    · have hr := run_append_nil_string (P := P) w t u ty e i _ ht hu hi hz s (by omega) (by omega) (by rw [hby]; omega)
      have hgr := grown 0 (s.data.map (fun b => Value.int .u8 b.toNat)) (by omega) (by simp [strCells])
      simp only [Nat.zero_add, List.nil_append] at hgr ⊢
      exact ⟨_, _, _, hr, hgr, hmod _, hsn _⟩
  · by_cases hroom : n + s.size ≤ cap
    · have hr := run_append_room_string_fz (P := P) w t u ty e i ht hu hi hsize g n cap cur fz hg hfz s hroom (by omega)
      refine ⟨_, _, _, hr, ⟨hlen, .inr ⟨g, _, fz, rfl, setRow_heap w g cur _ e _ hg, hfz.imp id (fun h => by simp [strCells_length]; omega), hroom, hcm, ?_, ?_⟩⟩, ⟨rfl, rfl, rfl, by simp, fun k _ hk => setRow_other w g k _ (fun e => hk (by simp [blk, e]))⟩, .inl rfl⟩
      · simp only [List.size_toArray, List.length_append, List.length_take, List.length_drop, Array.length_toList, strCells_length]
        omega
      · rw [Nat.mul_one] at htake
        rw [htake, ← hlen]
        exact List.take_left
    · have holds : ∀ j v, xs[j]? = some v → w.cell? ((⟨g, 0, none⟩ : Addr).add j) = some v := fun j v hj => by
        obtain ⟨g', h1, h2, _⟩ := hown.cell hj
        cases h1; rw [Addr.add_lit]; simpa using h2
      have hr := run_append_grow_string (P := P) w t u ty e i _ ht hu hi hz ⟨g, 0, none⟩ n cap xs (by rw [hsize]; exact hown.1) holds s (by omega) (by omega) (growslice_fits (by omega) (by rw [hby]; omega))
      exact ⟨_, _, _, hr, grown cap _ (by omega) (by simp), hmod _, hsn _⟩

theorem run_string_of (src dst e : TypeId) (hs : P.underlying src = some (.slice e)) (he : P.underlying e = some (.int .u8)) (hd : P.underlying dst = some .string)
    (ao : Option Addr) (cap : Nat) (l : List UInt8) (h : Sees w ao l) : (convert src dst (.slice ao l.length cap)).run P w = .ok (strV l) w := by
  cases l with
  | nil =>
    cases ao with
    | none => exact run_convert_bytes_nil w src e hs he 0 cap dst hd
    | some a => exact run_convert_bytes_back w src dst e a cap [] hs he hd (by intro j hj; simp at hj)
  | cons x l =>
    obtain ⟨b, off, rfl, _⟩ := h 0 (by simp)
    refine run_convert_bytes_back w src dst e ⟨b, off, none⟩ cap (x :: l) hs he hd ?_
    intro j hj
    obtain ⟨b', off', h1, h2⟩ := h j hj
    cases h1
    rw [Addr.add_lit]; exact h2
end

/-- string(b). -/
theorem wpl_str {w : World} {ops : Array Oper} {rest : List Oper} {a : Act} {Q : Exit → Act → World → Prop} {dst : Option Tmp} {ty : TypeId} {pos : String} {after : Array Edge} {gd : Option (Nat × Bool)} (x : Operand)
    (so : Option Addr) (m c : Nat) (l : List UInt8) (hx : a.eval x = .slice so m c) (hl : l.length = m) (hsees : Sees w so l)
    (hw : Region.wanted ⟨dst, .convert 74 9 x, ty, pos, after, gd⟩ (yielded ops a.tmps) = true)
    (h : wpList Tryd.prog ops Q rest (a.put dst (strV l)) w) :
    wpList Tryd.prog ops Q (⟨dst, .convert 74 9 x, ty, pos, after, gd⟩ :: rest) a w := by
  subst hl
  refine wpList_step fun K hK => ?_
  rw [if_pos hw]
  have hr := run_string_of (P := Tryd.prog) w 74 9 5 Tryd.underlying74 Tryd.underlying5 Tryd.underlying9 so c l hsees
  unfold Oper.wp execOp
  simp [hx, hr]
  exact hK _ _ h

theorem bytesRow_take (s : ByteArray) (cap : Nat) (h : s.size ≤ cap) : (bytesRow s cap).toList.take (s.size * 1) = s.data.toList.map u8v ∧ (bytesRow s cap).size = cap := by
  have hs : s.data.size = s.size := rfl
  constructor
  · unfold bytesRow
    rw [Nat.mul_one, Array.toList_append, List.take_left' (by simp [hs])]
    simp [u8v]
  · unfold bytesRow; simp [hs]; omega
/-- []byte(s). -/
theorem wpl_bytes {w : World} {ops : Array Oper} {rest : List Oper} {a : Act} {Q : Exit → Act → World → Prop} {dst : Option Tmp} {ty : TypeId} {pos : String} {after : Array Edge} {gd : Option (Nat × Bool)} (x : Operand)
    (s : ByteArray) (hx : a.eval x = .string s) (hm : s.size ≤ 9223372036854775807)
    (hw : Region.wanted ⟨dst, .convert 9 74 x, ty, pos, after, gd⟩ (yielded ops a.tmps) = true)
    (h : ∀ g cap w', OwnB w' (some ⟨g, 0, none⟩) cap s.data.toList → Mod [] w w' → w.heap.size ≤ g → wpList Tryd.prog ops Q rest (a.put dst (.slice (some ⟨g, 0, none⟩) s.size cap)) w') :
    wpList Tryd.prog ops Q (⟨dst, .convert 9 74 x, ty, pos, after, gd⟩ :: rest) a w := by
  refine wpList_step fun K hK => ?_
  rw [if_pos hw]
  have hr := run_bytes_of_string (P := Tryd.prog) w 9 74 5 s Tryd.underlying9 Tryd.underlying74 Tryd.underlying5
  unfold Oper.wp execOp
  simp [hx, hr]
  have hge := grownCap_ge w s.size 0 5
  obtain ⟨h1, h2⟩ := bytesRow_take s _ hge
  refine hK _ _ (h _ _ _ ?_ ((Mod.drew _ w).trans' (Mod.alloc _ _ _)) (Nat.le_refl _))
  refine ⟨by simp, .inr ⟨w.heap.size, _, _, rfl, heap_alloc_new w.drew _, .inr (Nat.le_refl _), ?_, grownCap_le_maxLen w s.size 0 5 (by unfold maxLen; omega), by rw [h2, Nat.mul_one]; exact Nat.le_refl _, ?_⟩⟩
  · rw [size_data]; exact hge
  · rw [size_data]; exact h1
/-- append(b, s...). -/
theorem wpl_app8s {w : World} {ops : Array Oper} {rest : List Oper} {a : Act} {Q : Exit → Act → World → Prop} {dst : Option Tmp} {ty : TypeId} {pos : String} {after : Array Edge} (s x : Operand)
    (ao : Option Addr) (n cap : Nat) (xs : List UInt8) (hs : a.eval s = .slice ao n cap) (hn : xs.length = n) (hown : OwnB w ao cap xs)
    (t : ByteArray) (hx : a.eval x = .string t) (hb : n + t.size ≤ 140737488355328)
    (h : ∀ ao' cap' w', OwnB w' ao' cap' (xs ++ t.data.toList) → Mod (blk ao) w w' → SameOrNew w w' ao ao' → wpList Tryd.prog ops Q rest (a.put dst (.slice ao' (n + t.size) cap')) w') :
    wpList Tryd.prog ops Q (⟨dst, .call { callee := .builtin .append, args := #[s, x], argTypes := #[74, 9] }, ty, pos, after, none⟩ :: rest) a w := by
  obtain ⟨i0, hi, hz0, hz1, hz2⟩ := info_parts infoU8
  subst hn
  obtain ⟨ao', cap', w', hr, h2, h3, h4⟩ := run_append_str (P := Tryd.prog) w 74 9 ty 5 i0 Tryd.underlying74 Tryd.underlying9 hi hz0 hz1 hz2 ao xs.length cap _ hown t hb
  refine wpList_plain rfl fun K hK => ?_
  unfold Oper.wp execOp
  simp only [resolve, invoke, builtin, Sem.run_bind, Sem.run_pure, Result.andThen_ok, List.map_toArray, List.map_cons, List.map_nil, hs, hx, hr]
  refine hK _ _ (h ao' cap' w' ?_ h3 h4)
  unfold OwnB
  rw [List.length_append, List.map_append, size_data]
  exact h2
end Go.Proofs.YtigamomoegpefaaDoor
/- Regions that draw their order, in abstract worlds: what reads cells that nobody writes from here on is taken first; the calls come up one by one, each by its contract. Over any program. -/
namespace Go.Proofs.YtigamomoegpefaaDoor
open Go Go.RowKit Go.Lib

section
variable {P : Program} {ops : Array Oper} {Q : Exit → Act → World → Prop} {md : Region.Mode}

theorem wpAnyH_weaken {S S' : World → Prop} (hs : ∀ w, S' w → S w) : ∀ (fuel : Nat) (listed : Array Bool) (a : Act) (w : World), wpAnyH P md ops Q S' fuel listed a w → wpAnyH P md ops Q S fuel listed a w
  | 0, _, _, _, h => h
  | fuel + 1, _, _, _, h => ⟨h.1, fun i hi => wpOp_mono (fun a' w' h' => ⟨hs _ h'.1, wpAnyH_weaken hs fuel _ a' w' h'.2⟩) (h.2 i hi)⟩

/-- From here on at most the blocks K are written, of those that are there. -/
def Rest (P : Program) (md : Region.Mode) (ops : Array Oper) (Q : Exit → Act → World → Prop) (K : List Nat) (fuel : Nat) (listed : Array Bool) (a : Act) (w : World) : Prop :=
  wpAnyH P md ops Q (Mod K w) fuel listed a w

theorem rest_start {id : Nat} {a : Act} {w : World} (K : List Nat) (n : Nat) (L : Array Bool) (hn : ops.size = n) (hL : Array.replicate n false = L) (hm : P.follows .mixedOrders = true)
    (h : ∀ w1, Mod [] w w1 → Rest P .any ops Q K n L a w1) : (Code.region id ops true).wp P Q a w := by
  subst hn hL
  exact wp_region_held hm (h w.drew (Mod.drew _ _))

theorem rest_take {K : List Nat} {i : Nat} {oi : Oper} {v : Value} {fuel : Nat} {listed : Array Bool} {a : Act} {w : World} (hi : ops[i]? = some oi)
    (hs : Region.noSelect ops = true) (hf : Region.free md ops listed i = true) (hr : (Region.ready md ops listed).contains i = true)
    (hQ : ∀ c a w, Q (.panic c) (a.put oi.dst v) w → Q (.panic c) a w) (hy : YieldsIf P ops (Mod K w) oi v a)
    (h : Rest P md ops Q K fuel (listed.setIfInBounds i true) (a.put oi.dst v) w) : Rest P md ops Q K (fuel + 1) listed a w :=
  wpAnyH_take hi hs hf hr hQ hy (Mod.refl _ _) h

/-- One operation that is taken first, written out. -/
theorem rest_got {K : List Nat} {i : Nat} {dst : Option Tmp} {op : Op} {ty : TypeId} {pos : String} {after : Array Edge} {gd : Option (Nat × Bool)} {v : Value} {fuel : Nat} {listed : Array Bool} {a : Act} {w : World} (hi : ops[i]? = some ⟨dst, op, ty, pos, after, gd⟩)
    (hs : Region.noSelect ops = true) (hf : Region.free md ops listed i = true) (hr : (Region.ready md ops listed).contains i = true)
    (hQ : ∀ c a w, Q (.panic c) (a.put dst v) w → Q (.panic c) a w) (hw : Region.wanted ⟨dst, op, ty, pos, after, gd⟩ (yielded ops a.tmps) = true)
    (hy : ∀ w', Mod K w w' → (execOp a.eval ⟨dst, op, ty, pos, after, gd⟩).run P w' = .ok (.value v) w')
    (h : Rest P md ops Q K fuel (listed.setIfInBounds i true) (a.put dst v) w) : Rest P md ops Q K (fuel + 1) listed a w :=
  rest_take hi hs hf hr hQ (Or.inl ⟨hw, hy⟩) h
/-- One that is not wanted. -/
theorem rest_skip {K : List Nat} {i : Nat} {dst : Option Tmp} {op : Op} {ty : TypeId} {pos : String} {after : Array Edge} {gd : Option (Nat × Bool)} {fuel : Nat} {listed : Array Bool} {a : Act} {w : World} (hi : ops[i]? = some ⟨dst, op, ty, pos, after, gd⟩)
    (hs : Region.noSelect ops = true) (hf : Region.free md ops listed i = true) (hr : (Region.ready md ops listed).contains i = true)
    (hQ : ∀ c a w, Q (.panic c) (a.put dst undef) w → Q (.panic c) a w) (hw : Region.wanted ⟨dst, op, ty, pos, after, gd⟩ (yielded ops a.tmps) = false)
    (h : Rest P md ops Q K fuel (listed.setIfInBounds i true) (a.put dst undef) w) : Rest P md ops Q K (fuel + 1) listed a w :=
  rest_take hi hs hf hr hQ (Or.inr ⟨hw, rfl⟩) h

theorem rest_done {K : List Nat} {listed : Array Bool} {a : Act} {w : World} (hr : Region.ready md ops listed = []) (h : Q .normal a w) (fuel : Nat) :
    Rest P md ops Q K fuel listed a w := wpAnyH_done hr h fuel

/-- The way back into the region behind one operation; no tactic looks into it. -/
def Back (P : Program) (md : Region.Mode) (ops : Array Oper) (Q : Exit → Act → World → Prop) (K : List Nat) (w : World) (fuel : Nat) (listed : Array Bool) : Exit → Act → World → Prop := fun e a1 w1 =>
  match e with
  | .normal => Mod K w w1 ∧ wpAnyH P md ops Q (Mod K w) fuel listed a1 w1
  | e => Q e a1 w1

theorem back_to {K K1 : List Nat} {w w1 : World} {a1 : Act} {fuel : Nat} {listed : Array Bool} (hm : Mod K w w1) (hk : ∀ k, k ∈ K1 → k < w.heap.size → k ∈ K)
    (h : Rest P md ops Q K1 fuel listed a1 w1) : Back P md ops Q K w fuel listed .normal a1 w1 :=
  ⟨hm, wpAnyH_weaken (fun _ hw => hm.trans hw hk) _ _ _ _ h⟩

/-- One operation that may come up, by itself. -/
theorem one_op {K : List Nat} {i : Nat} {dst : Option Tmp} {op : Op} {ty : TypeId} {pos : String} {after : Array Edge} {gd : Option (Nat × Bool)} {fuel : Nat} {listed : Array Bool} {a : Act} {w : World} (ho : ops[i]? = some ⟨dst, op, ty, pos, after, gd⟩)
    (hw : Region.wanted ⟨dst, op, ty, pos, after, gd⟩ (yielded ops a.tmps) = true)
    (h : wpList P ops (Back P md ops Q K w fuel (listed.setIfInBounds i true)) [⟨dst, op, ty, pos, after, none⟩] a w) :
    wpOp P ops Q i (fun a' w' => Mod K w w' ∧ wpAnyH P md ops Q (Mod K w) fuel (listed.setIfInBounds i true) a' w') a w := by
  unfold wpOp
  simp only [ho]
  rw [if_pos hw]
  have hwn : Region.wanted ⟨dst, op, ty, pos, after, none⟩ (yielded ops a.tmps) = true := rfl
  unfold wpList at h
  rw [if_pos hwn] at h
  refine h.imp (fun h => ?_) id
  have h : Oper.upon P ⟨dst, op, ty, pos, after, gd⟩ a (wpList P ops (Back P md ops Q K w fuel (listed.setIfInBounds i true)) []) (Back P md ops Q K w fuel (listed.setIfInBounds i true)) ((execOp a.eval ⟨dst, op, ty, pos, after, gd⟩).run P w) := h
  unfold Oper.wp
  generalize (execOp a.eval ⟨dst, op, ty, pos, after, gd⟩).run P w = r at *
  cases r with
  | ok n w' =>
    cases n <;> simp only [Oper.upon] at h ⊢ <;>
      first
        | exact Calls.mono h (fun e w'' he => by cases e <;> exact he)
        | exact Rows.mono h (fun _ _ he => he)
        | exact h
  | halt x w' => cases x <;> simp only [Oper.upon] at h ⊢ <;> exact h

theorem rest_one {K : List Nat} {i : Nat} {dst : Option Tmp} {op : Op} {ty : TypeId} {pos : String} {after : Array Edge} {gd : Option (Nat × Bool)} {fuel : Nat} {listed : Array Bool} {a : Act} {w : World} (hr : Region.ready md ops listed = [i]) (ho : ops[i]? = some ⟨dst, op, ty, pos, after, gd⟩)
    (hw : Region.wanted ⟨dst, op, ty, pos, after, gd⟩ (yielded ops a.tmps) = true)
    (h : wpList P ops (Back P md ops Q K w fuel (listed.setIfInBounds i true)) [⟨dst, op, ty, pos, after, none⟩] a w) : Rest P md ops Q K (fuel + 1) listed a w := by
  refine wpAnyH_all hr (by simp) ?_
  intro j hj
  simp only [List.mem_singleton] at hj
  subst hj
  exact one_op ho hw h

/-- Two operations may come up: either one. -/
theorem rest_two {K : List Nat} {i j : Nat} {dst dst' : Option Tmp} {op op' : Op} {ty ty' : TypeId} {pos pos' : String} {after after' : Array Edge} {gd gd' : Option (Nat × Bool)} {fuel : Nat} {listed : Array Bool} {a : Act} {w : World} (hr : Region.ready md ops listed = [i, j])
    (ho : ops[i]? = some ⟨dst, op, ty, pos, after, gd⟩) (hw : Region.wanted ⟨dst, op, ty, pos, after, gd⟩ (yielded ops a.tmps) = true)
    (ho' : ops[j]? = some ⟨dst', op', ty', pos', after', gd'⟩) (hw' : Region.wanted ⟨dst', op', ty', pos', after', gd'⟩ (yielded ops a.tmps) = true)
    (h : wpList P ops (Back P md ops Q K w fuel (listed.setIfInBounds i true)) [⟨dst, op, ty, pos, after, none⟩] a w)
    (h' : wpList P ops (Back P md ops Q K w fuel (listed.setIfInBounds j true)) [⟨dst', op', ty', pos', after', none⟩] a w) : Rest P md ops Q K (fuel + 1) listed a w := by
  refine wpAnyH_all hr (by simp) ?_
  intro k hk
  simp only [List.mem_cons, List.not_mem_nil, or_false] at hk
  rcases hk with rfl | rfl
  · exact one_op ho hw h
  · exact one_op ho' hw' h'

theorem fresh_of {w w' : World} {a' : Option Addr} (n : SameOrNew w w' none a') {K : List Nat} : ∀ k, k ∈ blk a' → k < w.heap.size → k ∈ K := by
  intro k hk hl
  rcases n.blk k hk with h | h
  · simp [blk] at h
  · omega

/-- string(b), taken first. -/
theorem reads_str {K : List Nat} {w : World} {dst : Option Tmp} {ty : TypeId} {pos : String} {after : Array Edge} {gd : Option (Nat × Bool)} (ev : Operand → Value) (x : Operand) (src d e : TypeId)
    (hs : P.underlying src = some (.slice e)) (he : P.underlying e = some (.int .u8)) (hd : P.underlying d = some .string)
    (so : Option Addr) (m c : Nat) (l : List UInt8) (hx : ev x = .slice so m c) (hl : l.length = m) (hsees : Sees w so l) (hk : ∀ k, k ∈ blk so → k ∉ K) :
    ∀ w', Mod K w w' → (execOp ev ⟨dst, .convert src d x, ty, pos, after, gd⟩).run P w' = .ok (.value (strV l)) w' := by
  subst hl
  intro w' hm
  have hr := run_string_of (P := P) w' src d e hs he hd so c l (hsees.mod hm (by intro b off h; subst h; exact hk b (by simp [blk])))
  unfold execOp
  simp [hx, hr]
end

/-- s + t, s == t and s != t of strings that are known. -/
theorem reads_cat (w : World) {dst : Option Tmp} {ty t2 : TypeId} {pos : String} {after : Array Edge} {gd : Option (Nat × Bool)} (ev : Operand → Value) (x y : Operand) (l1 l2 : List UInt8)
    (hx : ev x = strV l1) (hy : ev y = strV l2) (hl : l1.length + l2.length ≤ 9223372036854775807) :
    (execOp ev ⟨dst, .binOp .add 9 x y t2, ty, pos, after, gd⟩).run Tryd.prog w = .ok (.value (strV (l1 ++ l2))) w := by
  have h1 : ({ data := l1.toArray } : ByteArray) ++ { data := l2.toArray } = ⟨(l1 ++ l2).toArray⟩ := by
    apply ByteArray.ext
    simp
  have h2 : ¬ 9223372036854775807 < l1.length + l2.length := by omega
  have h4 : (Op.stringOp .add ⟨l1.toArray⟩ ⟨l2.toArray⟩).run Tryd.prog w = .ok (strV (l1 ++ l2)) w := by
    rw [run_string_add_sum _ _ _ (by simpa [ByteArray.size] using hl), h1]
  have h5 : (binOp .add 9 (strV l1) (strV l2)).run Tryd.prog w = .ok (strV (l1 ++ l2)) w := by rw [binOp_string_add]; exact h4
  simp [execOp, hx, hy, eqGuard, h5]
theorem reads_eqs (w : World) {dst : Option Tmp} {ty t2 : TypeId} {pos : String} {after : Array Edge} {gd : Option (Nat × Bool)} (ev : Operand → Value) (x y : Operand) (l1 l2 : List UInt8)
    (hx : ev x = strV l1) (hy : ev y = strV l2) :
    (execOp ev ⟨dst, .binOp .eql 9 x y t2, ty, pos, after, gd⟩).run Tryd.prog w = .ok (.value (.bool (decide (l1 = l2)))) w := by
  have h4 : ((⟨l1.toArray⟩ : ByteArray).toList == (⟨l2.toArray⟩ : ByteArray).toList) = decide (l1 = l2) := by
    rw [ByteArray.toList_eq, ByteArray.toList_eq]
    by_cases h : l1 = l2
    · subst h; simp
    · simp [h]
  have h5 : (binOp .eql 9 (strV l1) (strV l2)).run Tryd.prog w = .ok (.bool (decide (l1 = l2))) w := by rw [binOp_string_eql, h4]; rfl
  simp [execOp, hx, hy, eqGuard, h5]
theorem reads_nes (w : World) {dst : Option Tmp} {ty t2 : TypeId} {pos : String} {after : Array Edge} {gd : Option (Nat × Bool)} (ev : Operand → Value) (x y : Operand) (l1 l2 : List UInt8)
    (hx : ev x = strV l1) (hy : ev y = strV l2) :
    (execOp ev ⟨dst, .binOp .neq 9 x y t2, ty, pos, after, gd⟩).run Tryd.prog w = .ok (.value (.bool (!(decide (l1 = l2))))) w := by
  have h4 : ((⟨l1.toArray⟩ : ByteArray).toList == (⟨l2.toArray⟩ : ByteArray).toList) = decide (l1 = l2) := by
    rw [ByteArray.toList_eq, ByteArray.toList_eq]
    by_cases h : l1 = l2
    · subst h; simp
    · simp [h]
  have h5 : (binOp .neq 9 (strV l1) (strV l2)).run Tryd.prog w = .ok (.bool (!(decide (l1 = l2)))) w := by rw [binOp_string_neq, h4]; rfl
  simp [execOp, hx, hy, eqGuard, h5]
end Go.Proofs.YtigamomoegpefaaDoor
/- Regions that draw their order, in two phases: till one operation comes up fewer blocks are written than behind it. So a load of a cell that the region itself writes later is taken first. Over any program. -/
namespace Go.Proofs.YtigamomoegpefaaDoor
open Go Go.RowKit Go.Lib

section
variable {P : Program} {ops : Array Oper} {Q : Exit → Act → World → Prop} {md : Region.Mode}

/-- Whatever order is picked from here on, and S holds, of what has come up and the world, behind each operation. -/
def wpAnyL (P : Program) (md : Region.Mode) (ops : Array Oper) (Q : Exit → Act → World → Prop) (S : Array Bool → World → Prop) : Nat → Array Bool → Act → World → Prop
  | 0, listed, a, w => Region.ready md ops listed = [] ∧ Q .normal a w
  | fuel + 1, listed, a, w =>
    (Region.ready md ops listed = [] → Q .normal a w) ∧
    ∀ i ∈ Region.ready md ops listed, wpOp P ops Q i (fun a' w' => S (listed.setIfInBounds i true) w' ∧ wpAnyL P md ops Q S fuel (listed.setIfInBounds i true) a' w') a w

theorem wpAny_of_L {S : Array Bool → World → Prop} : ∀ (fuel : Nat) (listed : Array Bool) (a : Act) (w : World), wpAnyL P md ops Q S fuel listed a w → wpAny P md ops Q fuel listed a w
  | 0, _, _, _, h => h
  | fuel + 1, _, _, _, h => ⟨h.1, fun i hi => wpOp_mono (fun a' w' h' => wpAny_of_L fuel _ a' w' h'.2) (h.2 i hi)⟩

theorem wpAnyL_weaken {S S' : Array Bool → World → Prop} (hs : ∀ ls w, S' ls w → S ls w) : ∀ (fuel : Nat) (listed : Array Bool) (a : Act) (w : World), wpAnyL P md ops Q S' fuel listed a w → wpAnyL P md ops Q S fuel listed a w
  | 0, _, _, _, h => h
  | fuel + 1, _, _, _, h => ⟨h.1, fun i hi => wpOp_mono (fun a' w' h' => ⟨hs _ _ h'.1, wpAnyL_weaken hs fuel _ a' w' h'.2⟩) (h.2 i hi)⟩

theorem wpAnyL_of_H {m : Nat} {S : Array Bool → World → Prop} {S' : World → Prop} (hs : ∀ ls w, ls.getD m true = true → S' w → S ls w) :
    ∀ (fuel : Nat) (listed : Array Bool) (a : Act) (w : World), listed.getD m true = true → wpAnyH P md ops Q S' fuel listed a w → wpAnyL P md ops Q S fuel listed a w
  | 0, _, _, _, _, h => h
  | fuel + 1, listed, _, _, hl, h => ⟨h.1, fun i hi => wpOp_mono (fun a' w' h' => by
      have hl' : (listed.setIfInBounds i true).getD m true = true := by
        by_cases hij : i = m
        · subst hij
          rcases Nat.lt_or_ge i listed.size with h | h
          · simp [h]
          · simp [h]
        · rw [getD_set_ne true hij]; exact hl
      exact ⟨hs _ _ hl' h'.1, wpAnyL_of_H hs fuel _ a' w' hl' h'.2⟩) (h.2 i hi)⟩

theorem wpAnyL_first {S : Array Bool → World → Prop} {T : World → Prop} {inv : Array Bool → Prop} {i : Nat} {oi : Oper} {v : Value} (hi : ops[i]? = some oi) (hsel : ∀ (j : Nat) (o : Oper) cs b, ops[j]? = some o → o.op ≠ .select cs b)
    (hQ : ∀ c a w, Q (.panic c) (a.put oi.dst v) w → Q (.panic c) a w)
    (hinv : ∀ ls j, inv ls → i ∈ Region.ready md ops ls → j ∈ Region.ready md ops ls → j ≠ i → inv (ls.setIfInBounds j true))
    (hSi : ∀ ls w, S (ls.setIfInBounds i true) w → S ls w) (hSo : ∀ ls w, S ls w → S (ls.setIfInBounds i true) w) (hT : ∀ ls w, inv ls → S ls w → T w) :
    ∀ (fuel : Nat) (listed : Array Bool) (a : Act) (w : World),
      (∀ j oj, ops[j]? = some oj → j ≠ i → listed.getD j true = false → (∀ e ∈ oj.after, Region.binds md e = true → e.on ≠ i) → oi.apart ops oj = true) →
      i ∈ Region.ready md ops listed → YieldsIf P ops T oi v a → inv listed → S listed w →
      wpAnyL P md ops Q S fuel (listed.setIfInBounds i true) (a.put oi.dst v) w → wpAnyL P md ops Q S (fuel + 1) listed a w := by
  intro fuel
  induction fuel with
  | zero =>
    intro listed a w _ hr hy hn hS H
    refine ⟨fun h => (by rw [h] at hr; cases hr), fun j hj => ?_⟩
    by_cases hji : j = i
    · subst hji; exact hy.wpOp hi (hT _ _ hn hS) ⟨hSo _ _ hS, H⟩
    · have := ready_mono hj hji
      rw [H.1] at this
      cases this
  | succ fuel ih =>
    intro listed a w hfree hr hy hn hS H
    refine ⟨fun h => (by rw [h] at hr; cases hr), fun j hj => ?_⟩
    by_cases hji : j = i
    · subst hji; exact hy.wpOp hi (hT _ _ hn hS) ⟨hSo _ _ hS, H⟩
    · have h1 := H.2 j (ready_mono hj hji)
      obtain ⟨hjun, oj, hoj, hall⟩ := mem_ready.1 hj
      have hnot : ∀ e ∈ oj.after, Region.binds md e = true → e.on ≠ i := fun e he hb heq => by
        have h1 := hall e he hb
        have h0 := (mem_ready.1 hr).1
        rw [heq] at h1
        rcases Nat.lt_or_ge i listed.size with h' | h'
        · simp [h'] at h0 h1; rw [h0] at h1; cases h1
        · simp [Array.getElem?_eq_none h'] at h1
      have h2 := wpOp_putIf hoj (hfree j oj hoj hji hjun hnot) (fun cs b => hsel i oi cs b hi) (fun cs b => hsel j oj cs b hoj) hQ hy h1
      have hfree' : ∀ k ok, ops[k]? = some ok → k ≠ i → (listed.setIfInBounds j true).getD k true = false →
          (∀ e ∈ ok.after, Region.binds md e = true → e.on ≠ i) → oi.apart ops ok = true := fun k ok hk hki hun hno => by
        refine hfree k ok hk hki ?_ hno
        by_cases hjk : j = k
        · subst hjk; exact hjun
        · rw [getD_set_ne true hjk] at hun; exact hun
      refine wpOp_mono (fun a' w' h3 => ?_) h2
      obtain ⟨h3, h4, h5⟩ := h3
      rw [← Array.setIfInBounds_comm _ _ hji] at h4 h5
      exact ⟨hSi _ _ h4, ih (listed.setIfInBounds j true) a' w' hfree' (ready_mono hr (Ne.symm hji)) h3 (hinv _ _ hn hr hj hji) (hSi _ _ h4) h5⟩

/-- Till number m comes up at most the blocks K are written, behind it at most K2. -/
def Phase (m : Nat) (K K2 : List Nat) (w : World) (ls : Array Bool) (w' : World) : Prop := Mod K2 w w' ∧ (ls.getD m true = false → Mod K w w')
def RestU (P : Program) (md : Region.Mode) (ops : Array Oper) (Q : Exit → Act → World → Prop) (m : Nat) (K K2 : List Nat) (fuel : Nat) (listed : Array Bool) (a : Act) (w : World) : Prop :=
  wpAnyL P md ops Q (Phase m K K2 w) fuel listed a w

theorem restu_start {id : Nat} {a : Act} {w : World} (m : Nat) (K K2 : List Nat) (n : Nat) (L : Array Bool) (hn : ops.size = n) (hL : Array.replicate n false = L) (hm : P.follows .mixedOrders = true)
    (h : ∀ w1, Mod [] w w1 → RestU P .any ops Q m K K2 n L a w1) : (Code.region id ops true).wp P Q a w := by
  subst hn hL
  exact wp_region_any hm (wpAny_of_L _ _ _ _ (h w.drew (Mod.drew _ _)))

theorem phase_set {m i : Nat} {K K2 : List Nat} {w : World} (hne : (i == m) = false) (ls : Array Bool) (w' : World) : Phase m K K2 w (ls.setIfInBounds i true) w' ↔ Phase m K K2 w ls w' := by
  unfold Phase
  rw [getD_set_ne true (by simpa using hne)]

/-- Number m waits for number i. -/
def waits (md : Region.Mode) (ops : Array Oper) (m i : Nat) : Bool := match ops[m]? with
  | some o => o.after.any fun e => Region.binds md e && e.on == i
  | none => false

/-- Each of the numbers D waits for number i, or for another one of D. -/
def chain (md : Region.Mode) (ops : Array Oper) (i : Nat) (D : List Nat) : Bool := D.all fun d => waits md ops d i || D.any fun d' => waits md ops d d'
/-- All that wait for number i, in one step or in more. -/
def descs (md : Region.Mode) (ops : Array Oper) (i : Nat) : List Nat := (List.range ops.size).foldl (fun acc d => if waits md ops d i || acc.any (fun d' => waits md ops d d') then acc ++ [d] else acc) []

theorem waits_not {j d : Nat} {ls : Array Bool} (hw : waits md ops j d = true) (hd : ls.getD d true = false) : j ∉ Region.ready md ops ls := by
  intro hj
  unfold waits at hw
  obtain ⟨_, oj, hoj, hall⟩ := mem_ready.1 hj
  rw [hoj] at hw
  obtain ⟨e, he, hb⟩ := Array.any_eq_true'.1 hw
  simp only [Bool.and_eq_true, beq_iff_eq] at hb
  have h1 := hall e he hb.1
  rw [hb.2] at h1
  rcases Nat.lt_or_ge d ls.size with h' | h'
  · simp [h'] at hd h1; rw [hd] at h1; cases h1
  · simp [Array.getElem?_eq_none h'] at h1

theorem restu_earlytake {m : Nat} {K K2 : List Nat} {i : Nat} (D : List Nat) {oi : Oper} {v : Value} {fuel : Nat} {listed : Array Bool} {a : Act} {w : World} (hi : ops[i]? = some oi)
    (hs : Region.noSelect ops = true) (hf : Region.free md ops listed i = true) (hr : (Region.ready md ops listed).contains i = true) (hne : (i == m) = false) (hD : chain md ops i D = true) (hmD : D.contains m = true) (hun : D.all (fun d => !listed.getD d true) = true)
    (hQ : ∀ c a w, Q (.panic c) (a.put oi.dst v) w → Q (.panic c) a w) (hy : YieldsIf P ops (Mod K w) oi v a)
    (h : RestU P md ops Q m K K2 fuel (listed.setIfInBounds i true) (a.put oi.dst v) w) : RestU P md ops Q m K K2 (fuel + 1) listed a w := by
  refine wpAnyL_first (T := Mod K w) (inv := fun ls => ∀ d ∈ D, ls.getD d true = false) hi (Region.noSelect_spec hs) hQ ?_ (fun ls w' => (phase_set hne ls w').1) (fun ls w' => (phase_set hne ls w').2) (fun ls w' h1 h2 => h2.2 (h1 m (by simpa using hmD)))
    fuel listed a w (Region.free_spec hi hf) (by simpa using hr) hy (by simpa using hun) ⟨Mod.refl _ _, fun _ => Mod.refl _ _⟩ h
  intro ls j hn hir hj hji d hd
  by_cases hjd : j = d
  · subst hjd
    have h1 := List.all_eq_true.1 hD j hd
    rw [Bool.or_eq_true] at h1
    rcases h1 with h1 | h1
    · exact absurd hj (waits_not h1 (mem_ready.1 hir).1)
    · obtain ⟨d', hd', hw⟩ := List.any_eq_true.1 h1
      exact absurd hj (waits_not hw (hn d' hd'))
  · rw [getD_set_ne true hjd]
    exact hn d hd
theorem restu_early {m : Nat} {K K2 : List Nat} {i : Nat} (D : List Nat) {dst : Option Tmp} {op : Op} {ty : TypeId} {pos : String} {after : Array Edge} {gd : Option (Nat × Bool)} {v : Value} {fuel : Nat} {listed : Array Bool} {a : Act} {w : World} (hi : ops[i]? = some ⟨dst, op, ty, pos, after, gd⟩)
    (hs : Region.noSelect ops = true) (hf : Region.free md ops listed i = true) (hr : (Region.ready md ops listed).contains i = true) (hne : (i == m) = false) (hD : chain md ops i D = true) (hmD : D.contains m = true) (hun : D.all (fun d => !listed.getD d true) = true)
    (hQ : ∀ c a w, Q (.panic c) (a.put dst v) w → Q (.panic c) a w) (hw : Region.wanted ⟨dst, op, ty, pos, after, gd⟩ (yielded ops a.tmps) = true)
    (hy : ∀ w', Mod K w w' → (execOp a.eval ⟨dst, op, ty, pos, after, gd⟩).run P w' = .ok (.value v) w')
    (h : RestU P md ops Q m K K2 fuel (listed.setIfInBounds i true) (a.put dst v) w) : RestU P md ops Q m K K2 (fuel + 1) listed a w :=
  restu_earlytake D hi hs hf hr hne hD hmD hun hQ (Or.inl ⟨hw, hy⟩) h
theorem restu_take {m : Nat} {K K2 : List Nat} {i : Nat} {oi : Oper} {v : Value} {fuel : Nat} {listed : Array Bool} {a : Act} {w : World} (hi : ops[i]? = some oi)
    (hs : Region.noSelect ops = true) (hf : Region.free md ops listed i = true) (hr : (Region.ready md ops listed).contains i = true) (hne : (i == m) = false)
    (hQ : ∀ c a w, Q (.panic c) (a.put oi.dst v) w → Q (.panic c) a w) (hy : YieldsIf P ops (Mod K2 w) oi v a)
    (h : RestU P md ops Q m K K2 fuel (listed.setIfInBounds i true) (a.put oi.dst v) w) : RestU P md ops Q m K K2 (fuel + 1) listed a w :=
  wpAnyL_first (T := Mod K2 w) (inv := fun _ => True) hi (Region.noSelect_spec hs) hQ (fun _ _ _ _ _ _ => trivial) (fun ls w' => (phase_set hne ls w').1) (fun ls w' => (phase_set hne ls w').2) (fun ls w' _ h2 => h2.1)
    fuel listed a w (Region.free_spec hi hf) (by simpa using hr) hy trivial ⟨Mod.refl _ _, fun _ => Mod.refl _ _⟩ h
theorem restu_got {m : Nat} {K K2 : List Nat} {i : Nat} {dst : Option Tmp} {op : Op} {ty : TypeId} {pos : String} {after : Array Edge} {gd : Option (Nat × Bool)} {v : Value} {fuel : Nat} {listed : Array Bool} {a : Act} {w : World} (hi : ops[i]? = some ⟨dst, op, ty, pos, after, gd⟩)
    (hs : Region.noSelect ops = true) (hf : Region.free md ops listed i = true) (hr : (Region.ready md ops listed).contains i = true) (hne : (i == m) = false)
    (hQ : ∀ c a w, Q (.panic c) (a.put dst v) w → Q (.panic c) a w) (hw : Region.wanted ⟨dst, op, ty, pos, after, gd⟩ (yielded ops a.tmps) = true)
    (hy : ∀ w', Mod K2 w w' → (execOp a.eval ⟨dst, op, ty, pos, after, gd⟩).run P w' = .ok (.value v) w')
    (h : RestU P md ops Q m K K2 fuel (listed.setIfInBounds i true) (a.put dst v) w) : RestU P md ops Q m K K2 (fuel + 1) listed a w :=
  restu_take hi hs hf hr hne hQ (Or.inl ⟨hw, hy⟩) h
theorem restu_skip {m : Nat} {K K2 : List Nat} {i : Nat} {dst : Option Tmp} {op : Op} {ty : TypeId} {pos : String} {after : Array Edge} {gd : Option (Nat × Bool)} {fuel : Nat} {listed : Array Bool} {a : Act} {w : World} (hi : ops[i]? = some ⟨dst, op, ty, pos, after, gd⟩)
    (hs : Region.noSelect ops = true) (hf : Region.free md ops listed i = true) (hr : (Region.ready md ops listed).contains i = true) (hne : (i == m) = false)
    (hQ : ∀ c a w, Q (.panic c) (a.put dst undef) w → Q (.panic c) a w) (hw : Region.wanted ⟨dst, op, ty, pos, after, gd⟩ (yielded ops a.tmps) = false)
    (h : RestU P md ops Q m K K2 fuel (listed.setIfInBounds i true) (a.put dst undef) w) : RestU P md ops Q m K K2 (fuel + 1) listed a w :=
  restu_take hi hs hf hr hne hQ (Or.inr ⟨hw, rfl⟩) h

/-- The way back into the region behind an operation that is not number m; behind number m. -/
def BackU (P : Program) (md : Region.Mode) (ops : Array Oper) (Q : Exit → Act → World → Prop) (m : Nat) (K K2 : List Nat) (w : World) (fuel : Nat) (listed : Array Bool) : Exit → Act → World → Prop := fun e a1 w1 =>
  match e with
  | .normal => Phase m K K2 w listed w1 ∧ wpAnyL P md ops Q (Phase m K K2 w) fuel listed a1 w1
  | e => Q e a1 w1
theorem backu_to {m : Nat} {K K2 K' K2' : List Nat} {w w1 : World} {a1 : Act} {fuel : Nat} {listed : Array Bool} (hm : Mod K w w1) (hkk : ∀ k, k ∈ K → k ∈ K2) (hk : ∀ k, k ∈ K' → k < w.heap.size → k ∈ K) (hk2 : ∀ k, k ∈ K2' → k < w.heap.size → k ∈ K2)
    (h : RestU P md ops Q m K' K2' fuel listed a1 w1) : BackU P md ops Q m K K2 w fuel listed .normal a1 w1 :=
  ⟨⟨hm.weaken hkk, fun _ => hm⟩, wpAnyL_weaken (fun _ _ hw => ⟨(hm.weaken hkk).trans hw.1 hk2, fun hl => hm.trans (hw.2 hl) hk⟩) _ _ _ _ h⟩
theorem backm_to {m : Nat} {K K2 K1 : List Nat} {w w1 : World} {a1 : Act} {fuel : Nat} {listed : Array Bool} (hl : listed.getD m true = true) (hm : Mod K2 w w1) (hk : ∀ k, k ∈ K1 → k < w.heap.size → k ∈ K2)
    (h : Rest P md ops Q K1 fuel listed a1 w1) : BackU P md ops Q m K K2 w fuel listed .normal a1 w1 :=
  ⟨⟨hm, fun h => by rw [hl] at h; cases h⟩, wpAnyL_of_H (fun ls w' h1 h2 => ⟨hm.trans h2 hk, fun h => by rw [h1] at h; cases h⟩) _ _ _ _ hl h⟩

theorem oneu_op {m : Nat} {K K2 : List Nat} {i : Nat} {dst : Option Tmp} {op : Op} {ty : TypeId} {pos : String} {after : Array Edge} {gd : Option (Nat × Bool)} {fuel : Nat} {listed : Array Bool} {a : Act} {w : World} (ho : ops[i]? = some ⟨dst, op, ty, pos, after, gd⟩)
    (hw : Region.wanted ⟨dst, op, ty, pos, after, gd⟩ (yielded ops a.tmps) = true)
    (h : wpList P ops (BackU P md ops Q m K K2 w fuel (listed.setIfInBounds i true)) [⟨dst, op, ty, pos, after, none⟩] a w) :
    wpOp P ops Q i (fun a' w' => Phase m K K2 w (listed.setIfInBounds i true) w' ∧ wpAnyL P md ops Q (Phase m K K2 w) fuel (listed.setIfInBounds i true) a' w') a w := by
  unfold wpOp
  simp only [ho]
  rw [if_pos hw]
  have hwn : Region.wanted ⟨dst, op, ty, pos, after, none⟩ (yielded ops a.tmps) = true := rfl
  unfold wpList at h
  rw [if_pos hwn] at h
  refine h.imp (fun h => ?_) id
  have h : Oper.upon P ⟨dst, op, ty, pos, after, gd⟩ a (wpList P ops (BackU P md ops Q m K K2 w fuel (listed.setIfInBounds i true)) []) (BackU P md ops Q m K K2 w fuel (listed.setIfInBounds i true)) ((execOp a.eval ⟨dst, op, ty, pos, after, gd⟩).run P w) := h
  unfold Oper.wp
  generalize (execOp a.eval ⟨dst, op, ty, pos, after, gd⟩).run P w = r at *
  cases r with
  | ok n w' =>
    cases n <;> simp only [Oper.upon] at h ⊢ <;>
      first
        | exact Calls.mono h (fun e w'' he => by cases e <;> exact he)
        | exact Rows.mono h (fun _ _ he => he)
        | exact h
  | halt x w' => cases x <;> simp only [Oper.upon] at h ⊢ <;> exact h

theorem restu_one {m : Nat} {K K2 : List Nat} {i : Nat} {dst : Option Tmp} {op : Op} {ty : TypeId} {pos : String} {after : Array Edge} {gd : Option (Nat × Bool)} {fuel : Nat} {listed : Array Bool} {a : Act} {w : World} (hr : Region.ready md ops listed = [i]) (ho : ops[i]? = some ⟨dst, op, ty, pos, after, gd⟩)
    (hw : Region.wanted ⟨dst, op, ty, pos, after, gd⟩ (yielded ops a.tmps) = true)
    (h : wpList P ops (BackU P md ops Q m K K2 w fuel (listed.setIfInBounds i true)) [⟨dst, op, ty, pos, after, none⟩] a w) : RestU P md ops Q m K K2 (fuel + 1) listed a w := by
  refine ⟨fun h0 => (by rw [hr] at h0; cases h0), ?_⟩
  intro j hj
  rw [hr] at hj
  simp only [List.mem_singleton] at hj
  subst hj
  exact oneu_op ho hw h
end
end Go.Proofs.YtigamomoegpefaaDoor
/- The pool package: how a pool lies. -/
namespace Go.Proofs.YtigamomoegpefaaDoor
open Go Go.RowKit Go.Lib

theorem Mod.only {S : List Nat} {a b c : World} (h : Mod [] a b) (k : Mod S b c) (hs : ∀ j, j ∈ S → a.heap.size ≤ j) : Mod [] a c :=
  h.trans k (fun i hi hl => by have := hs i hi; omega)
theorem heap_size_alloc (w : World) (o : Obj) : (w.alloc o).heap.size = w.heap.size + 1 := by simp
theorem Own.cap_le {w : World} {e : TypeId} {sz : Nat} {ao : Option Addr} {n cap : Nat} {xs : List Value} (h : Own w e sz ao n cap xs) : cap ≤ maxLen := by
  rcases h.2 with ⟨_, _, rfl⟩ | ⟨g, cur, fz, _, _, _, _, h, _⟩
  · unfold maxLen; omega
  · exact h
/-- The front of a row of the call's own, with the room behind it. -/
theorem Own.front {w : World} {e : TypeId} {sz : Nat} {ao : Option Addr} {n cap : Nat} {xs : List Value} (h : Own w e sz ao n cap xs) (k : Nat) (hk : k ≤ n) : Own w e sz ao k cap (xs.take (k * sz)) := by
  have h1 : k * sz ≤ n * sz := Nat.mul_le_mul_right _ hk
  rcases h.2 with ⟨h0, rfl, h2⟩ | ⟨g, cur, fz, hg, hb, hz, hn, hm, hs, ht⟩
  · have : k = 0 := by omega
    subst this
    exact ⟨by simp, .inl ⟨h0, rfl, h2⟩⟩
  · refine ⟨by rw [List.length_take, h.1]; omega, .inr ⟨g, cur, fz, hg, hb, hz, by omega, hm, hs, ?_⟩⟩
    rw [← ht, List.take_take, Nat.min_eq_left h1]
theorem two_mod (w : World) (g : Nat) (u v : Value) : Mod [g] w ((w.setCell ⟨g, 0, none⟩ u).setCell ⟨g, 1, none⟩ v) :=
  (Mod.setCell _ _ _ (by simp)).trans' (Mod.setCell _ _ _ (by simp))
theorem two_set {w : World} {g : Nat} {t : TypeId} {a b : Value} (h : w.heap[g]? = some (.cells #[a, b] t (0, 0))) (u v : Value) :
    ((w.setCell ⟨g, 0, none⟩ u).setCell ⟨g, 1, none⟩ v).heap[g]? = some (.cells #[u, v] t (0, 0)) := by
  rw [heap_setCell_same (heap_setCell_same h u) v]; rfl

/-- A buffer: where its bytes begin, how many are used, its generation, whether it is lent. -/
abbrev Bf := Nat × Nat × Int × Bool
def bufC (ab sz : Nat) (x : Bf) : List Value := [.slice (some ⟨ab, x.1, none⟩) sz sz, .int .i64 (x.2.1 : Int), .int .u32 x.2.2.1, .bool x.2.2.2]
def cellsB (ab sz : Nat) (l : List Bf) : List Value := l.flatMap (bufC ab sz)
theorem cellsB_length (ab sz : Nat) (l : List Bf) : (cellsB ab sz l).length = l.length * 4 := by
  induction l with
  | nil => rfl
  | cons a r ih => simp only [cellsB, List.flatMap_cons, List.length_append, bufC, List.length_cons, List.length_nil] at *; omega
theorem cellsB_at (ab sz : Nat) : ∀ (l : List Bf) (j : Nat) (hj : j < l.length), (cellsB ab sz l)[j * 4]? = some (.slice (some ⟨ab, l[j].1, none⟩) sz sz) ∧ (cellsB ab sz l)[j * 4 + 1]? = some (.int .i64 (l[j].2.1 : Int)) ∧
    (cellsB ab sz l)[j * 4 + 2]? = some (.int .u32 l[j].2.2.1) ∧ (cellsB ab sz l)[j * 4 + 3]? = some (.bool l[j].2.2.2) := by
  intro l
  induction l with
  | nil => intro j hj; exact absurd hj (by simp)
  | cons a r ih =>
    intro j hj
    cases j with
    | zero => exact ⟨rfl, rfl, rfl, rfl⟩
    | succ j =>
      have := ih j (by simpa using hj)
      have e : (j + 1) * 4 = j * 4 + 1 + 1 + 1 + 1 := by omega
      rw [e]
      exact this
theorem cellsB_set1 (ab sz : Nat) (l : List Bf) : ∀ (k : Nat) (hk : k < l.length) (n : Nat), (cellsB ab sz l).set (k * 4 + 1) (.int .i64 (n : Int)) = cellsB ab sz (l.set k (l[k].1, n, l[k].2.2.1, l[k].2.2.2)) := by
  induction l with
  | nil => intro k hk; exact absurd hk (by simp)
  | cons a r ih =>
    intro k hk n
    cases k with
    | zero => rfl
    | succ k =>
      have e : (k + 1) * 4 + 1 = (k * 4 + 1) + 1 + 1 + 1 + 1 := by omega
      rw [e]
      show bufC ab sz a ++ (cellsB ab sz r).set (k * 4 + 1) (.int .i64 (n : Int)) = bufC ab sz a ++ cellsB ab sz (r.set k ((r[k]'(by simpa using hk)).1, n, (r[k]'(by simpa using hk)).2.2.1, (r[k]'(by simpa using hk)).2.2.2))
      rw [ih k (by simpa using hk) n]
theorem cellsB_set2 (ab sz : Nat) (l : List Bf) : ∀ (k : Nat) (hk : k < l.length) (n : Int), (cellsB ab sz l).set (k * 4 + 2) (.int .u32 n) = cellsB ab sz (l.set k (l[k].1, l[k].2.1, n, l[k].2.2.2)) := by
  induction l with
  | nil => intro k hk; exact absurd hk (by simp)
  | cons a r ih =>
    intro k hk n
    cases k with
    | zero => rfl
    | succ k =>
      have e : (k + 1) * 4 + 2 = (k * 4 + 2) + 1 + 1 + 1 + 1 := by omega
      rw [e]
      show bufC ab sz a ++ (cellsB ab sz r).set (k * 4 + 2) (.int .u32 n) = bufC ab sz a ++ cellsB ab sz (r.set k ((r[k]'(by simpa using hk)).1, (r[k]'(by simpa using hk)).2.1, n, (r[k]'(by simpa using hk)).2.2.2))
      rw [ih k (by simpa using hk) n]
theorem cellsB_set3 (ab sz : Nat) (l : List Bf) : ∀ (k : Nat) (hk : k < l.length) (n : Bool), (cellsB ab sz l).set (k * 4 + 3) (.bool n) = cellsB ab sz (l.set k (l[k].1, l[k].2.1, l[k].2.2.1, n)) := by
  induction l with
  | nil => intro k hk; exact absurd hk (by simp)
  | cons a r ih =>
    intro k hk n
    cases k with
    | zero => rfl
    | succ k =>
      have e : (k + 1) * 4 + 3 = (k * 4 + 3) + 1 + 1 + 1 + 1 := by omega
      rw [e]
      show bufC ab sz a ++ (cellsB ab sz r).set (k * 4 + 3) (.bool n) = bufC ab sz a ++ cellsB ab sz (r.set k ((r[k]'(by simpa using hk)).1, (r[k]'(by simpa using hk)).2.1, (r[k]'(by simpa using hk)).2.2.1, n))
      rw [ih k (by simpa using hk) n]
def OwnBf (w : World) (ab sz : Nat) (ao : Option Addr) (cap : Nat) (l : List Bf) : Prop := Own w 82 4 ao l.length cap (cellsB ab sz l)
theorem OwnBf.at' {w : World} {ab sz : Nat} {ao : Option Addr} {cap : Nat} {l : List Bf} (h : OwnBf w ab sz ao cap l) {j : Nat} (hj : j < l.length) :
    ∃ g, ao = some ⟨g, 0, none⟩ ∧ w.cell? ⟨g, j * 4, none⟩ = some (.slice (some ⟨ab, l[j].1, none⟩) sz sz) ∧ w.cell? ⟨g, j * 4 + 1, none⟩ = some (.int .i64 (l[j].2.1 : Int)) ∧ w.cell? ⟨g, j * 4 + 2, none⟩ = some (.int .u32 l[j].2.2.1) ∧ w.cell? ⟨g, j * 4 + 3, none⟩ = some (.bool l[j].2.2.2) ∧
      w.frozen? ⟨g, j * 4 + 1, none⟩ = false ∧ w.frozen? ⟨g, j * 4 + 2, none⟩ = false ∧ w.frozen? ⟨g, j * 4 + 3, none⟩ = false := by
  obtain ⟨h1, h2, h3, h4⟩ := cellsB_at ab sz l j hj
  obtain ⟨g, e1, e2, _⟩ := Own.cell h h1
  obtain ⟨g1, a1, a2, a3⟩ := Own.cell h h2
  obtain ⟨g2, b1, b2, b3⟩ := Own.cell h h3
  obtain ⟨g3, c1, c2, c3⟩ := Own.cell h h4
  rw [e1] at a1 b1 c1
  cases a1
  cases b1
  cases c1
  exact ⟨g, e1, e2, a2, b2, c2, a3, b3, c3⟩
theorem OwnBf.set1 {w : World} {ab sz b c : Nat} {l : List Bf} (h : OwnBf w ab sz (some ⟨b, 0, none⟩) c l) (k : Nat) (hk : k < l.length) (n : Nat) : OwnBf (w.setCell ⟨b, k * 4 + 1, none⟩ (.int .i64 (n : Int))) ab sz (some ⟨b, 0, none⟩) c (l.set k (l[k].1, n, l[k].2.2.1, l[k].2.2.2)) := by
  have := Own.set (j := k * 4 + 1) h (.int .i64 (n : Int))
  unfold OwnBf
  rw [List.length_set, ← cellsB_set1 ab sz l k hk n]
  exact this
theorem OwnBf.set2 {w : World} {ab sz b c : Nat} {l : List Bf} (h : OwnBf w ab sz (some ⟨b, 0, none⟩) c l) (k : Nat) (hk : k < l.length) (n : Int) : OwnBf (w.setCell ⟨b, k * 4 + 2, none⟩ (.int .u32 n)) ab sz (some ⟨b, 0, none⟩) c (l.set k (l[k].1, l[k].2.1, n, l[k].2.2.2)) := by
  have := Own.set (j := k * 4 + 2) h (.int .u32 n)
  unfold OwnBf
  rw [List.length_set, ← cellsB_set2 ab sz l k hk n]
  exact this
theorem OwnBf.set3 {w : World} {ab sz b c : Nat} {l : List Bf} (h : OwnBf w ab sz (some ⟨b, 0, none⟩) c l) (k : Nat) (hk : k < l.length) (n : Bool) : OwnBf (w.setCell ⟨b, k * 4 + 3, none⟩ (.bool n)) ab sz (some ⟨b, 0, none⟩) c (l.set k (l[k].1, l[k].2.1, l[k].2.2.1, n)) := by
  have := Own.set (j := k * 4 + 3) h (.bool n)
  unfold OwnBf
  rw [List.length_set, ← cellsB_set3 ab sz l k hk n]
  exact this
theorem OwnBf.setAll {w : World} {ab sz b c : Nat} {l : List Bf} (h : OwnBf w ab sz (some ⟨b, 0, none⟩) c l) (k : Nat) (hk : k < l.length) (n : Nat) (g : Int) (t : Bool) :
    OwnBf (((w.setCell ⟨b, k * 4 + 1, none⟩ (.int .i64 (n : Int))).setCell ⟨b, k * 4 + 2, none⟩ (.int .u32 g)).setCell ⟨b, k * 4 + 3, none⟩ (.bool t)) ab sz (some ⟨b, 0, none⟩) c (l.set k (l[k].1, n, g, t)) := by
  have h1 := OwnBf.set1 h k hk n
  have h2 := OwnBf.set2 h1 k (by simpa using hk) g
  have h3 := OwnBf.set3 h2 k (by simpa using hk) t
  simpa using h3
def intV (x : Nat) : Value := .int .i64 (x : Int)
/-- A row of numbers of the call's own. -/
def OwnI (w : World) (ao : Option Addr) (cap : Nat) (l : List Nat) : Prop := Own w 3 1 ao l.length cap (l.map intV)
theorem OwnI.at' {w : World} {ao : Option Addr} {cap : Nat} {l : List Nat} (h : OwnI w ao cap l) {j : Nat} (hj : j < l.length) : ∃ g, ao = some ⟨g, 0, none⟩ ∧ w.cell? ⟨g, j, none⟩ = some (.int .i64 (l[j] : Int)) := by
  obtain ⟨g, e1, e2, _⟩ := Own.cell h (j := j) (u := intV l[j]) (by rw [List.getElem?_map, List.getElem?_eq_getElem hj]; rfl)
  exact ⟨g, e1, e2⟩
theorem OwnI.front {w : World} {ao : Option Addr} {cap : Nat} {l : List Nat} (h : OwnI w ao cap l) (k : Nat) (hk : k ≤ l.length) : OwnI w ao cap (l.take k) := by
  have := Own.front h k hk
  unfold OwnI
  rw [List.length_take, Nat.min_eq_left hk, List.map_take]
  rw [Nat.mul_one] at this
  exact this
/-- A pool: its buffers, what is free, all bytes. -/
def PoolF (w : World) (g : Nat) (la : Option Addr) (lc : Nat) (fa : Option Addr) (fc ab sz : Nat) (bufs : List Bf) (fr : List Nat) (arr : List UInt8) : Prop :=
  w.heap[g]? = some (.cells #[.slice la bufs.length lc, .slice fa fr.length fc] 80 (0, 0)) ∧ OwnBf w ab sz la lc bufs ∧ OwnI w fa fc fr ∧ OwnB w (some ⟨ab, 0, none⟩) arr.length arr ∧ (g :: (blk la ++ (blk fa ++ [ab]))).Nodup
theorem PoolF.mod {S : List Nat} {w w' : World} {g : Nat} {la : Option Addr} {lc : Nat} {fa : Option Addr} {fc ab sz : Nat} {bufs : List Bf} {fr : List Nat} {arr : List UInt8} (h : PoolF w g la lc fa fc ab sz bufs fr arr) (hm : Mod S w w') (hs : ∀ k, k ∈ g :: (blk la ++ (blk fa ++ [ab])) → k ∉ S) : PoolF w' g la lc fa fc ab sz bufs fr arr := by
  obtain ⟨h1, h2, h3, h4, h5⟩ := h
  exact ⟨hm.get h1 (hs g (by simp)), Own.mod h2 hm (fun k hk => hs k (by simp [hk])), Own.mod h3 hm (fun k hk => hs k (by simp [hk])), h4.mod hm (fun k hk => hs k (by simp [blk] at hk; simp [hk])), h5⟩
theorem PoolF.mod0 {w w' : World} {g : Nat} {la : Option Addr} {lc : Nat} {fa : Option Addr} {fc ab sz : Nat} {bufs : List Bf} {fr : List Nat} {arr : List UInt8} (h : PoolF w g la lc fa fc ab sz bufs fr arr) (hm : Mod [] w w') : PoolF w' g la lc fa fc ab sz bufs fr arr := h.mod hm (by simp)
theorem PoolF.lt {w : World} {g : Nat} {la : Option Addr} {lc : Nat} {fa : Option Addr} {fc ab sz : Nat} {bufs : List Bf} {fr : List Nat} {arr : List UInt8} (h : PoolF w g la lc fa fc ab sz bufs fr arr) : ∀ k, k ∈ g :: (blk la ++ (blk fa ++ [ab])) → k < w.heap.size := by
  obtain ⟨h1, h2, h3, h4, h5⟩ := h
  intro k hk
  simp only [List.mem_cons, List.mem_append, List.not_mem_nil, or_false] at hk
  rcases hk with rfl | hk | hk | rfl
  · exact lt_of_block h1
  · exact Own.lt h2 k hk
  · exact Own.lt h3 k hk
  · exact Own.lt h4 _ (by simp [blk])
end Go.Proofs.YtigamomoegpefaaDoor
/- The walks of the pool package: Free, Get. -/
namespace Go.Proofs.YtigamomoegpefaaDoor
open Go Go.RowKit Go.Lib

set_option maxRecDepth 100000 in
theorem get_nil (w : World) : Calls Tryd.prog 26 #[.pointer none] w fun e w' => e = .returned (.tuple #[.agg #[.int .i64 0, .int .u32 0], .int .i64 2]) ∧ Mod [] w w' := by
  go_enter Tryd.func26, Tryd.ntmps26
  go_wp2
  ((try simp only [Exit.inBlock, Exit.then]); refine bodyPost_ret (by simp [results, Tryd.results26, go_sem, *]; try rfl) rfl ?_)
  exact ⟨rfl, Mod.alloc [] w _⟩
set_option maxRecDepth 100000 in
theorem get_full (g : Nat) (la : Option Addr) (lc : Nat) (fa : Option Addr) (fc ab sz : Nat) (bufs : List Bf) (arr : List UInt8) (w : World) (h : PoolF w g la lc fa fc ab sz bufs [] arr) :
    Calls Tryd.prog 26 #[.pointer (some ⟨g, 0, none⟩)] w fun e w' => e = .returned (.tuple #[.agg #[.int .i64 0, .int .u32 0], .int .i64 30]) ∧ Mod [] w w' := by
  have c1 := cell_of_block (i := 1) h.1
  have hlt := lt_of_block h.1
  clear h
  go_enter Tryd.func26, Tryd.ntmps26
  go_wp2
  ((try simp only [Exit.inBlock, Exit.then]); refine bodyPost_ret (by simp [results, Tryd.results26, go_sem, *]; try rfl) rfl ?_)
  exact ⟨rfl, Mod.alloc [] w _⟩

set_option maxRecDepth 100000 in
set_option maxHeartbeats 4000000 in
theorem get_ok (g : Nat) (la : Option Addr) (lc : Nat) (fa : Option Addr) (fc ab sz : Nat) (bufs : List Bf) (fr : List Nat) (i : Nat) (arr : List UInt8) (w : World) (h : PoolF w g la lc fa fc ab sz bufs (fr ++ [i]) arr) (hi : i < bufs.length) :
    Calls Tryd.prog 26 #[.pointer (some ⟨g, 0, none⟩)] w fun e w' => e = .returned (.tuple #[.agg #[.int .i64 (i : Int), .int .u32 (IntKind.u32.wrap (bufs[i].2.2.1 + 1))], .int .i64 0]) ∧
      PoolF w' g la lc fa fc ab sz (bufs.set i (bufs[i].1, 0, IntKind.u32.wrap (bufs[i].2.2.1 + 1), true)) fr arr ∧ Mod (g :: blk la) w w' := by
  obtain ⟨m, hm⟩ : ∃ m, fr.length = m := ⟨_, rfl⟩
  have hlen : (fr ++ [i]).length = m + 1 := by simp [hm]
  have hcl := Own.le h.2.2.1
  have hcm := Own.cap_le h.2.2.1
  unfold maxLen at hcm
  rw [hlen] at hcl
  have hwm : IntKind.i64.wrap (m : Int) = (m : Int) := IntWalk.i64_in _ (by omega)
  have hw1 : IntKind.i64.wrap ((m : Int) + 1 - 1) = (m : Int) := by rw [show (m : Int) + 1 - 1 = (m : Int) by omega]; exact hwm
  obtain ⟨fb, rfl, r0⟩ := h.2.2.1.at' (j := m) (by omega)
  have hgi : (fr ++ [i])[m]'(by omega) = i := by subst hm; simp
  rw [hgi] at r0
  obtain ⟨b, rfl, p0, p1, p2, p3, q1, q2, q3⟩ := OwnBf.at' h.2.1 hi
  have c0 := cell_of_block (i := 0) h.1
  have c1 := cell_of_block (i := 1) h.1
  have y1 := free_of_block (i := 1) h.1
  rw [hlen] at c1
  have hnd := h.2.2.2.2
  simp [blk] at hnd
  have hgb : g ≠ b := hnd.1.1
  have hgf : g ≠ fb := hnd.1.2.1
  have hlg := lt_of_block h.1
  have hlb := Own.lt h.2.1 b (by simp [blk])
  have hlf := Own.lt h.2.2.1 fb (by simp [blk])
  obtain ⟨of, us, ge, le, hx⟩ : ∃ of us ge le, bufs[i] = (of, us, ge, le) := ⟨_, _, _, _, rfl⟩
  rw [hx] at p0 p1 p2 p3
  dsimp only at p0 p1 p2 p3
  have HX := Lib.hid hx
  have H := Lib.hid h
  have HH := Lib.hid hlen
  have HM := Lib.hid hm
  clear h hx hgi hlen hm hnd
  rw [HX.out]
  dsimp only
  have hcc : m ≤ fc := by omega
  have hki : (m : Int) < (m : Int) + 1 := by omega
  have hkn : m < m + 1 := by omega
  have hci : (m : Int) ≤ (fc : Int) := by omega
  have ma := Mod.alloc [] w (.cells #[.int .i64 0, .int .u32 0] 64)
  have MA := Lib.hid ma
  clear ma
  go_enter Tryd.func26, Tryd.ntmps26
  go_upto_region 5 with (fail)
  refine rest_start [] 13 #[false, false, false, false, false, false, false, false, false, false, false, false, false] rfl (by kernel_rfl) (by kernel_rfl) ?_
  intro w1 m1
  have c0 := m1.cell (MA.out.cell c0 (by simp)) (by simp)
  have c1 := m1.cell (MA.out.cell c1 (by simp)) (by simp)
  have r0 := m1.cell (MA.out.cell r0 (by simp)) (by simp)
  have M1 := Lib.hid (MA.out.trans' m1)
  have H1 := Lib.hid (H.out.mod0 M1.out)
  have R1 := Lib.hid (m1.get (heap_alloc_new w (.cells #[.int .i64 0, .int .u32 0] 64)) (by simp))
  have y1 := free_of_block (i := 1) H1.out.1
  clear m1 p0 p1 p2 p3 q1 q2 q3
  refine rest_got (i := 0) (v := ?v1) rfl (by kernel_rfl) (by kernel_rfl) (by kernel_rfl) (fun _ _ _ h => h) (by rfl) ?y1 ?r1
  case y1 => (intro w9q hSwq; clear hSwq; go_simp; with_reducible rfl)
  try simp only [Act.put, List.setIfInBounds_toArray, List.set_cons_zero, List.set_cons_succ]
  refine rest_got (i := 1) (v := ?v2) rfl (by kernel_rfl) (by kernel_rfl) (by kernel_rfl) (fun _ _ _ h => h) (by rfl) ?y2 ?r2
  case y2 => (intro w9q hSwq; clear hSwq; go_simp; with_reducible rfl)
  try simp only [Act.put, List.setIfInBounds_toArray, List.set_cons_zero, List.set_cons_succ]
  refine rest_got (i := 2) (v := ?v3) rfl (by kernel_rfl) (by kernel_rfl) (by kernel_rfl) (fun _ _ _ h => h) (by rfl) ?y3 ?r3
  case y3 => (intro w9q hSwq; clear hSwq; go_simp; with_reducible rfl)
  try simp only [Act.put, List.setIfInBounds_toArray, List.set_cons_zero, List.set_cons_succ]
  refine rest_got (i := 3) (v := ?v4) rfl (by kernel_rfl) (by kernel_rfl) (by kernel_rfl) (fun _ _ _ h => h) (by rfl) ?y4 ?r4
  case y4 => ((intro w9' hm9'; have hc9' := Mod.cell hm9' c1 (by first | exact List.not_mem_nil | (simp; done) | (simp; omega)); clear hm9'; go_simp; with_reducible rfl))
  try simp only [Act.put, List.setIfInBounds_toArray, List.set_cons_zero, List.set_cons_succ]
  refine rest_got (i := 4) (v := ?v5) rfl (by kernel_rfl) (by kernel_rfl) (by kernel_rfl) (fun _ _ _ h => h) (by rfl) ?y5 ?r5
  case y5 => (intro w9q hSwq; clear hSwq; go_simp; with_reducible rfl)
  try simp only [Act.put, List.setIfInBounds_toArray, List.set_cons_zero, List.set_cons_succ]
  refine rest_got (i := 5) (v := ?v6) rfl (by kernel_rfl) (by kernel_rfl) (by kernel_rfl) (fun _ _ _ h => h) (by rfl) ?y6 ?r6
  case y6 => (intro w9q hSwq; clear hSwq; go_simp; with_reducible rfl)
  try simp only [Act.put, List.setIfInBounds_toArray, List.set_cons_zero, List.set_cons_succ]
  refine rest_got (i := 6) (v := ?v7) rfl (by kernel_rfl) (by kernel_rfl) (by kernel_rfl) (fun _ _ _ h => h) (by rfl) ?y7 ?r7
  case y7 => (intro w9q hSwq; clear hSwq; go_simp; with_reducible rfl)
  try simp only [Act.put, List.setIfInBounds_toArray, List.set_cons_zero, List.set_cons_succ]
  refine rest_got (i := 7) (v := ?v8) rfl (by kernel_rfl) (by kernel_rfl) (by kernel_rfl) (fun _ _ _ h => h) (by rfl) ?y8 ?r8
  case y8 => ((intro w9' hm9'; have hc9' := Mod.cell hm9' c1 (by first | exact List.not_mem_nil | (simp; done) | (simp; omega)); clear hm9'; go_simp; with_reducible rfl))
  try simp only [Act.put, List.setIfInBounds_toArray, List.set_cons_zero, List.set_cons_succ]
  refine rest_got (i := 8) (v := ?v9) rfl (by kernel_rfl) (by kernel_rfl) (by kernel_rfl) (fun _ _ _ h => h) (by rfl) ?y9 ?r9
  case y9 => (intro w9q hSwq; clear hSwq; go_simp; with_reducible rfl)
  try simp only [Act.put, List.setIfInBounds_toArray, List.set_cons_zero, List.set_cons_succ]
  refine rest_got (i := 9) (v := ?v10) rfl (by kernel_rfl) (by kernel_rfl) (by kernel_rfl) (fun _ _ _ h => h) (by rfl) ?y10 ?r10
  case y10 => (intro w9q hSwq; clear hSwq; go_simp; with_reducible rfl)
  try simp only [Act.put, List.setIfInBounds_toArray, List.set_cons_zero, List.set_cons_succ]
  refine rest_got (i := 10) (v := ?v11) rfl (by kernel_rfl) (by kernel_rfl) (by kernel_rfl) (fun _ _ _ h => h) (by rfl) ?y11 ?r11
  case y11 => (intro w9q hSwq; clear hSwq; go_simp; with_reducible rfl)
  try simp only [Act.put, List.setIfInBounds_toArray, List.set_cons_zero, List.set_cons_succ]
  refine rest_got (i := 11) (v := ?v12) rfl (by kernel_rfl) (by kernel_rfl) (by kernel_rfl) (fun _ _ _ h => h) (by rfl) ?y12 ?r12
  case y12 => ((intro w9' hm9'; have hc9' := Mod.cell hm9' r0 (by first | exact List.not_mem_nil | (simp; done) | (simp; omega)); clear hm9'; go_simp; with_reducible rfl))
  try simp only [Act.put, List.setIfInBounds_toArray, List.set_cons_zero, List.set_cons_succ]
  refine rest_got (i := 12) (v := ?v13) rfl (by kernel_rfl) (by kernel_rfl) (by kernel_rfl) (fun _ _ _ h => h) (by rfl) ?y13 ?r13
  case y13 => (intro w9q hSwq; clear hSwq; go_simp; with_reducible rfl)
  try simp only [Act.put, List.setIfInBounds_toArray, List.set_cons_zero, List.set_cons_succ]
  refine rest_done (by kernel_rfl) ?_ _
  go_upto_region 6 with (fail)
  go_region
  have m2 : Mod [g] w1 ((w1.setCell ⟨g, 1, none⟩ (.slice (some ⟨fb, 0, none⟩) m fc)).drew) := (Mod.setCell _ _ _ (by simp)).trans' (Mod.drew _ _)
  have G2 : ((w1.setCell ⟨g, 1, none⟩ (.slice (some ⟨fb, 0, none⟩) m fc)).drew).heap[g]? = some (.cells #[.slice (some ⟨b, 0, none⟩) bufs.length lc, .slice (some ⟨fb, 0, none⟩) m fc] 80 (0, 0)) := by
    show (w1.setCell ⟨g, 1, none⟩ (.slice (some ⟨fb, 0, none⟩) m fc)).heap[g]? = _
    rw [heap_setCell_same H1.out.1 _]
    rfl
  generalize (w1.setCell ⟨g, 1, none⟩ (.slice (some ⟨fb, 0, none⟩) m fc)).drew = w2 at m2 G2 ⊢
  have hnd := H1.out.2.2.2.2
  simp [blk] at hnd
  have hag : ab ≠ g := fun h => hnd.1.2.2 h.symm
  have hab : ab ≠ b := fun h => hnd.2.1.2 h.symm
  have hfb : fb ≠ b := fun h => hnd.2.1.1 h.symm
  have hla : ab < w.heap.size := H.out.lt ab (by simp)
  have B2 : Hid (OwnBf w2 ab sz (some ⟨b, 0, none⟩) lc bufs) := Own.mod H1.out.2.1 m2 (fun j hj => by simp [blk] at hj; subst hj; simp; exact Ne.symm hgb)
  have I2 : Hid (OwnI w2 (some ⟨fb, 0, none⟩) fc fr) := by
    have h1 := OwnI.front H1.out.2.2.1 m (by rw [HH.out]; omega)
    have h2 : (fr ++ [i]).take m = fr := by rw [← HM.out]; simp
    rw [h2] at h1
    exact Own.mod h1 m2 (fun j hj => by simp [blk] at hj; subst hj; simp; exact Ne.symm hgf)
  have A2 : Hid (OwnB w2 (some ⟨ab, 0, none⟩) arr.length arr) := H1.out.2.2.2.1.mod m2 (fun j hj => by simp [blk] at hj; subst hj; simp; exact hag)
  have R2 := Lib.hid (m2.get R1.out (by simp; omega))
  have M2 : Hid (Mod [g] w w2) := M1.out.nil.trans' m2
  have G2h := Lib.hid G2
  have ND := Lib.hid H1.out.2.2.2.2
  obtain ⟨b', hbb, p0, p1, p2, p3, q1, q2, q3⟩ := OwnBf.at' B2.out hi
  cases hbb
  rw [HX.out] at p0 p1 p2 p3
  dsimp only at p0 p1 p2 p3
  have c0 := cell_of_block (i := 0) G2
  have y0 := free_of_block (i := 0) R2.out
  have y1 := free_of_block (i := 1) R2.out
  have x0 := cell_of_block (i := 0) R2.out
  have x1 := cell_of_block (i := 1) R2.out
  have hl2 := lt_of_block R2.out
  clear m2 G2 hnd r0 c1 R1 H1 M1
  have hnb : ¬ b = w.heap.size := by omega
  have hnb2 : ¬ w.heap.size = b := by omega
  go_wp2
  ((try simp only [Exit.inBlock, Exit.then]); refine bodyPost_ret (by simp [results, Tryd.results26, go_sem, *]; try rfl) rfl ?_)
  have B3 := OwnBf.setAll B2.out i hi 0 (IntKind.u32.wrap (ge + 1)) true
  rw [HX.out] at B3
  dsimp only at B3
  have m3 : Mod [b] w2 (((w2.setCell ⟨b, i * 4 + 1, none⟩ (.int .i64 ((0 : Nat) : Int))).setCell ⟨b, i * 4 + 2, none⟩ (.int .u32 (IntKind.u32.wrap (ge + 1)))).setCell ⟨b, i * 4 + 3, none⟩ (.bool true)) :=
    ((Mod.setCell _ _ _ (by simp)).trans' (Mod.setCell _ _ _ (by simp))).trans' (Mod.setCell _ _ _ (by simp))
  have m4 := two_mod (((w2.setCell ⟨b, i * 4 + 1, none⟩ (.int .i64 ((0 : Nat) : Int))).setCell ⟨b, i * 4 + 2, none⟩ (.int .u32 (IntKind.u32.wrap (ge + 1)))).setCell ⟨b, i * 4 + 3, none⟩ (.bool true)) w.heap.size (.int .i64 (i : Int)) (.int .u32 (IntKind.u32.wrap (ge + 1)))
  have hlen' := HM.out
  refine ⟨rfl, ⟨?_, Own.mod B3 m4 (fun j hj => by simp [blk] at hj; subst hj; simp; omega), Own.mod (Own.mod I2.out m3 (fun j hj => by simp [blk] at hj; subst hj; simp; exact hfb)) m4 (fun j hj => by simp [blk] at hj; subst hj; simp; omega),
    (A2.out.mod m3 (fun j hj => by simp [blk] at hj; subst hj; simp; exact hab)).mod m4 (fun j hj => by simp [blk] at hj; subst hj; simp; omega), ND.out⟩, ?_⟩
  · rw [List.length_set, hlen']
    exact m4.get (m3.get G2h.out (by simp; exact hgb)) (by simp; omega)
  · exact ((M2.out.weaken (fun j hj => by simp at hj; simp [hj])).trans m3 (fun j hj _ => by simp at hj; simp [hj, blk])).trans m4 (fun j hj hl => by simp at hj; omega)
end Go.Proofs.YtigamomoegpefaaDoor
