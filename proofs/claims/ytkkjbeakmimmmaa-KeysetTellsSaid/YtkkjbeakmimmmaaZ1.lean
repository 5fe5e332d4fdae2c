/- Texts put together (1 of 3): Base, Own, Bytes, Str, Cmd, OwnM, Enc, Region, Cmd4, Cmd6, Cmd7, KsShelf. -/
import Derived.WalkKit
import Derived.WalkSpells
import Derived.WalkLawsBesides
import Derived.Lib.Hide
import Derived.Laws.OwnMore
import Derived.Test.YtkkjbeakmimmmaaProg
import Derived.Lib.AppendStr
import Derived.Laws.IdiomStrings
import Derived.Laws.BytesArg
import Derived.Deep.RegionHeld
import Derived.Deep.Cut
import Derived.BigQuiet
import Derived.Shelf.Small.Bits
import Derived.Shelf.Strconv.Itoa0
import Derived.Shelf.Sort.Plain
import Derived.Shelf.Slices.Turned
import Derived.Ground.Names2Prog
import Derived.Shelf.Slices.Clone
import Derived.Shelf.Slices.CompactS
import Derived.Shelf.Slices.Cells
import Derived.Shelf.Slices.In.SortNone
import Derived.Ground.SlgnProg
import Derived.Shelf.SlicesE.Clone
/- Plain words shared by this seat's texts: byte slices that are seen, worlds that differ in a few blocks alone, small facts on numbers. No program in sight. -/
namespace Go.Proofs.Ytkkjbeakmimmmaa
open Go Go.RowKit

theorem ret_int {k : IntKind} {a b : Int} (h : a = b) : Ending.returned (.int k a) = .returned (.int k b) := by rw [h]

/-- The slice at 'ao' shows the bytes l. -/
def Sees (w : World) (ao : Option Addr) (l : List UInt8) : Prop :=
  ∀ j (h : j < l.length), ∃ b off, ao = some ⟨b, off, none⟩ ∧ w.cell? ⟨b, off + j, none⟩ = some (.int .u8 ((l[j].toNat : Nat) : Int))

theorem Sees.below {w w' : World} {ao : Option Addr} {l : List UInt8} (h : Sees w ao l) (hb : Below w.heap.size w w') : Sees w' ao l := by
  intro j hj
  obtain ⟨b, off, h1, h2⟩ := h j hj
  exact ⟨b, off, h1, by rw [hb.cell (World.block_lt_of_cell? w _ h2)]; exact h2⟩

theorem Sees.nil (w : World) (ao : Option Addr) : Sees w ao [] := fun j hj => absurd hj (by simp)

theorem Sees.at' {w : World} {ao : Option Addr} {l : List UInt8} (h : Sees w ao l) {j : Nat} (hj : j < l.length) :
    ∃ b off, ao = some ⟨b, off, none⟩ ∧ w.cell? ⟨b, off + j, none⟩ = some (.int .u8 ((l[j].toNat : Nat) : Int)) := h j hj

/-- The first k bytes. -/
theorem Sees.take {w : World} {ao : Option Addr} {l : List UInt8} (h : Sees w ao l) (k : Nat) : Sees w ao (l.take k) := by
  intro j hj
  have hj' : j < l.length := by simp only [List.length_take] at hj; omega
  obtain ⟨b, off, h1, h2⟩ := h j hj'
  exact ⟨b, off, h1, by rw [h2, List.getElem_take]⟩


/-- From w to w' at most the blocks in S have turned, of those that were there; the streams are as they were. -/
structure Mod (S : List Nat) (w w' : World) : Prop where
  os : w'.os = w.os
  tape : w'.tape = w.tape
  output : w'.output = w.output
  size : w.heap.size ≤ w'.heap.size
  block : ∀ k, k < w.heap.size → k ∉ S → w'.heap[k]? = w.heap[k]?

theorem Mod.refl (S : List Nat) (w : World) : Mod S w w := ⟨rfl, rfl, rfl, Nat.le_refl _, fun _ _ _ => rfl⟩
theorem Mod.weaken {S S' : List Nat} {w w' : World} (h : Mod S w w') (hs : ∀ k, k ∈ S → k ∈ S') : Mod S' w w' :=
  ⟨h.os, h.tape, h.output, h.size, fun k hk hn => h.block k hk (fun hm => hn (hs k hm))⟩
theorem Mod.nil {S : List Nat} {w w' : World} (h : Mod [] w w') : Mod S w w' := h.weaken (by simp)
/-- Two steps: what the second one turns is in S, or was not there. -/
theorem Mod.trans {S T : List Nat} {a b c : World} (h : Mod S a b) (k : Mod T b c) (ht : ∀ i, i ∈ T → i < a.heap.size → i ∈ S) : Mod S a c :=
  ⟨k.os.trans h.os, k.tape.trans h.tape, k.output.trans h.output, Nat.le_trans h.size k.size,
   fun i hi hn => (k.block i (Nat.lt_of_lt_of_le hi h.size) (fun hm => hn (ht i hm hi))).trans (h.block i hi hn)⟩
theorem Mod.trans' {S : List Nat} {a b c : World} (h : Mod S a b) (k : Mod S b c) : Mod S a c := h.trans k (fun _ hi _ => hi)
theorem Mod.trans0 {S : List Nat} {a b c : World} (h : Mod S a b) (k : Mod [] b c) : Mod S a c := h.trans k (by simp)
theorem Mod.drew (S : List Nat) (w : World) : Mod S w w.drew := ⟨rfl, rfl, rfl, Nat.le_refl _, fun _ _ _ => rfl⟩
theorem Mod.alloc (S : List Nat) (w : World) (o : Obj) : Mod S w (w.alloc o) := ⟨rfl, rfl, rfl, by simp, fun k hk _ => Below.heap_alloc w o k hk⟩
theorem Mod.setCell {S : List Nat} (w : World) (a : Addr) (u : Value) (h : a.block ∈ S) : Mod S w (w.setCell a u) :=
  ⟨rfl, rfl, rfl, by simp [World.setCell], fun k _ hn => Below.heap_setCell w a u k (fun e => hn (e ▸ h))⟩
theorem Mod.setCell' {S : List Nat} (w0 w : World) (a : Addr) (u : Value) (h0 : Mod S w0 w) (h : a.block < w0.heap.size → a.block ∈ S) : Mod S w0 (w.setCell a u) :=
  h0.trans (Mod.setCell (S := [a.block]) w a u (by simp)) (by intro i hi hl; simp only [List.mem_singleton] at hi; subst hi; exact h hl)
theorem Mod.get {S : List Nat} {w w' : World} (h : Mod S w w') {b : Nat} {o : Obj} (hb : w.heap[b]? = some o) (hn : b ∉ S) : w'.heap[b]? = some o := by
  rw [h.block b (lt_of_block hb) hn]; exact hb
theorem Mod.cell {S : List Nat} {w w' : World} (h : Mod S w w') {p : Addr} {v : Value} (hc : w.cell? p = some v) (hn : p.block ∉ S) : w'.cell? p = some v := by
  rw [World.cell?_of_block (h.block p.block (World.block_lt_of_cell? w _ hc) hn)]; exact hc
theorem Mod.below {S : List Nat} {w w' : World} {B : Nat} (h : Mod S w w') (hB : B ≤ w.heap.size) (hs : ∀ k, k ∈ S → B ≤ k) : Below B w w' :=
  ⟨h.os, h.tape, h.output, h.size, fun k hk => h.block k (by omega) (fun hm => by have := hs k hm; omega)⟩
theorem Mod.below0 {w w' : World} (h : Mod [] w w') : Below w.heap.size w w' := h.below (Nat.le_refl _) (by simp)
theorem Mod.ofBelow {w w' : World} (h : Below w.heap.size w w') : Mod [] w w' := ⟨h.os, h.tape, h.output, h.size, fun k hk _ => h.block k hk⟩
theorem Mod.grown {w w' : World} {row : Option Nat} (h : w.grownBy w' row) : Mod row.toList w w' :=
  ⟨h.os, h.tape, h.output, h.size, fun k hk hn => h.block k hk (fun e => hn (by rw [← e]; simp))⟩
theorem Mod.lt {S : List Nat} {w w' : World} (h : Mod S w w') {b : Nat} (hb : b < w.heap.size) : b < w'.heap.size := Nat.lt_of_lt_of_le hb h.size
/-- A block set anew. -/
theorem heap_setCell_same {w : World} {b i : Nat} {c : Array Value} {t : TypeId} {fz : Nat × Nat} (h : w.heap[b]? = some (.cells c t fz)) (u : Value) :
    (w.setCell ⟨b, i, none⟩ u).heap[b]? = some (.cells (c.setIfInBounds i u) t fz) := by
  have hlt := lt_of_block h
  have h' : w.heap[b] = .cells c t fz := by simpa [Array.getElem?_eq_getElem hlt] using h
  show (w.heap.modify b _)[b]? = _
  rw [Array.getElem?_eq_getElem (by simpa using hlt), Array.getElem_modify_self, h']
  rfl
theorem cell_of_block {w : World} {b i : Nat} {c : Array Value} {t : TypeId} {fz : Nat × Nat} (h : w.heap[b]? = some (.cells c t fz)) : w.cell? ⟨b, i, none⟩ = c[i]? := by simp [World.cell?, h]
theorem free_of_block {w : World} {b i : Nat} {c : Array Value} {t : TypeId} (h : w.heap[b]? = some (.cells c t (0, 0))) : w.frozen? ⟨b, i, none⟩ = false := by simp [World.frozen?, h]

theorem Sees.mod {S : List Nat} {w w' : World} {ao : Option Addr} {l : List UInt8} (h : Sees w ao l) (hm : Mod S w w') (hn : ∀ b off, ao = some ⟨b, off, none⟩ → b ∉ S) : Sees w' ao l := by
  intro j hj
  obtain ⟨b, off, h1, h2⟩ := h j hj
  exact ⟨b, off, h1, hm.cell h2 (hn b off h1)⟩
theorem Sees.mod0 {w w' : World} {ao : Option Addr} {l : List UInt8} (h : Sees w ao l) (hm : Mod [] w w') : Sees w' ao l := h.mod hm (by simp)

/-- Cells in the first blocks, carried on. -/
theorem cells_below {w w' : World} {B : Nat} (hb : Below B w w') {p : Addr} {v : Value} (hp : p.block < B) (h : w.cell? p = some v) : w'.cell? p = some v := by
  rw [hb.cell hp]; exact h

theorem take_snoc {α : Type} (l : List α) (k : Nat) (h : k < l.length) : l.take (k + 1) = l.take k ++ [l[k]] := by
  rw [List.take_succ_eq_append_getElem h]

theorem toNat_lt (x : UInt8) : ((x.toNat : Nat) : Int) < 256 := by have := x.toNat_lt; omega

theorem bits32_range (op : BinOp) (x y : Int) : 0 ≤ bits op .u32 x y ∧ bits op .u32 x y < 4294967296 := by
  unfold bits
  simp only [IntKind.wrap_u32']
  omega

end Go.Proofs.Ytkkjbeakmimmmaa
/- Slices of the call's own: what append does to one, from a source of whatever kind. Over any program. -/
namespace Go.Proofs.Ytkkjbeakmimmmaa
open Go Go.RowKit

/-- The block that a slice's address names. -/
def blk : Option Addr → List Nat
  | some a => [a.block]
  | none => []

/-- A slice of n elements (sz cells each, of type e) in a block of its own, from the block's head; its cells are xs. -/
def Own (w : World) (e : TypeId) (sz : Nat) (ao : Option Addr) (n cap : Nat) (xs : List Value) : Prop :=
  xs.length = n * sz ∧ ((ao = none ∧ n = 0 ∧ cap = 0) ∨
    ∃ g cur fz, ao = some ⟨g, 0, none⟩ ∧ w.heap[g]? = some (.cells cur e fz) ∧ (fz = (0, 0) ∨ cur.size ≤ fz.1) ∧ n ≤ cap ∧ cap ≤ maxLen ∧ cap * sz ≤ cur.size ∧ cur.toList.take (n * sz) = xs)

theorem Own.nil0 (w : World) (e : TypeId) (sz : Nat) : Own w e sz none 0 0 [] := ⟨by simp, .inl ⟨rfl, rfl, rfl⟩⟩

theorem Own.mod {S : List Nat} {w w' : World} {e : TypeId} {sz : Nat} {ao : Option Addr} {n cap : Nat} {xs : List Value} (h : Own w e sz ao n cap xs) (hm : Mod S w w') (hn : ∀ k, k ∈ blk ao → k ∉ S) : Own w' e sz ao n cap xs := by
  refine ⟨h.1, ?_⟩
  rcases h.2 with h | ⟨g, cur, fz, rfl, hg, r⟩
  · exact .inl h
  · exact .inr ⟨g, cur, fz, rfl, hm.get hg (hn g (by simp [blk])), r⟩
theorem Own.mod0 {w w' : World} {e : TypeId} {sz : Nat} {ao : Option Addr} {n cap : Nat} {xs : List Value} (h : Own w e sz ao n cap xs) (hm : Mod [] w w') : Own w' e sz ao n cap xs := h.mod hm (by simp)
theorem Own.lt {w : World} {e : TypeId} {sz : Nat} {ao : Option Addr} {n cap : Nat} {xs : List Value} (h : Own w e sz ao n cap xs) : ∀ k, k ∈ blk ao → k < w.heap.size := by
  intro k hk
  rcases h.2 with ⟨rfl, _⟩ | ⟨g, cur, fz, rfl, hg, _⟩
  · simp [blk] at hk
  · simp only [blk, List.mem_singleton] at hk; subst hk; exact lt_of_block hg
theorem Own.cell {w : World} {e : TypeId} {sz : Nat} {ao : Option Addr} {n cap : Nat} {xs : List Value} (h : Own w e sz ao n cap xs) {j : Nat} {u : Value} (hj : xs[j]? = some u) :
    ∃ g, ao = some ⟨g, 0, none⟩ ∧ w.cell? ⟨g, j, none⟩ = some u ∧ w.frozen? ⟨g, j, none⟩ = false := by
  rcases h.2 with ⟨rfl, rfl, _⟩ | ⟨g, cur, fz, rfl, hg, hz, hn, hm, hs, ht⟩
  · have h0 : xs = [] := List.eq_nil_of_length_eq_zero (by rw [h.1]; simp)
    subst h0; simp at hj
  · rw [← ht, List.getElem?_take] at hj
    split at hj
    · have hj' : cur[j]? = some u := by simpa using hj
      refine ⟨g, rfl, by rw [cell_of_block hg]; exact hj', ?_⟩
      have hlt := (Array.getElem?_eq_some_iff.1 hj').1
      rcases hz with rfl | hz
      · exact free_of_block hg
      · simp only [World.frozen?, hg]
        have : ¬ fz.1 ≤ j := by omega
        simp [this]
    · cases hj
/-- As kit's word has it. -/
theorem Own.le {w : World} {e : TypeId} {sz : Nat} {ao : Option Addr} {n cap : Nat} {xs : List Value} (h : Own w e sz ao n cap xs) : n ≤ cap := by
  rcases h.2 with ⟨_, rfl, rfl⟩ | ⟨g, cur, fz, rfl, hg, hz, hn, _⟩
  · exact Nat.le_refl _
  · exact hn
theorem Own.ne_none {w : World} {e : TypeId} {sz : Nat} {ao : Option Addr} {n cap : Nat} {xs : List Value} (h : Own w e sz ao n cap xs) (h0 : 0 < n) : ∃ g, ao = some ⟨g, 0, none⟩ ∧ g < w.heap.size := by
  rcases h.2 with ⟨_, rfl, _⟩ | ⟨g, cur, fz, rfl, hg, _⟩
  · omega
  · exact ⟨g, rfl, lt_of_block hg⟩

/-- A new row of cells, whole. -/
theorem Own.new {w : World} {g : Nat} {e : TypeId} {sz : Nat} {cur : Array Value} {fz : Nat × Nat} {n : Nat} (hg : w.heap[g]? = some (.cells cur e fz)) (hz : fz = (0, 0) ∨ cur.size ≤ fz.1) (hs : cur.size = n * sz) (hm : n ≤ maxLen) : Own w e sz (some ⟨g, 0, none⟩) n n cur.toList :=
  ⟨by simpa using hs, .inr ⟨g, cur, fz, rfl, hg, hz, Nat.le_refl _, hm, Nat.le_of_eq hs.symm, by rw [← hs]; exact List.take_of_length_le (by simp)⟩⟩

/-- A cell of a row of the call's own is stored. -/
theorem Own.set {w : World} {e : TypeId} {sz g n cap j : Nat} {xs : List Value} (h : Own w e sz (some ⟨g, 0, none⟩) n cap xs) (u : Value) :
    Own (w.setCell ⟨g, j, none⟩ u) e sz (some ⟨g, 0, none⟩) n cap (xs.set j u) := by
  rcases h.2 with ⟨h0, _⟩ | ⟨g', cur, fz, hg, hb, hz, hn, hm, hs, ht⟩
  · cases h0
  · cases hg
    refine ⟨by rw [List.length_set]; exact h.1, .inr ⟨g, cur.setIfInBounds j u, fz, rfl, heap_setCell_same hb u, by simpa using hz, hn, hm, by simpa using hs, ?_⟩⟩
    rw [Array.toList_setIfInBounds, List.take_set, ht]

/-- The new slice lies where the old one lay, or in a new block. -/
def SameOrNew (w w' : World) (ao ao' : Option Addr) : Prop := ao' = ao ∨ ∃ g, ao' = some ⟨g, 0, none⟩ ∧ w.heap.size ≤ g ∧ g < w'.heap.size
theorem SameOrNew.blk {w w' : World} {ao ao' : Option Addr} (h : SameOrNew w w' ao ao') : ∀ k, k ∈ blk ao' → k ∈ blk ao ∨ w.heap.size ≤ k := by
  intro k hk
  rcases h with rfl | ⟨g, rfl, hg, _⟩
  · exact .inl hk
  · simp only [Proofs.Ytkkjbeakmimmmaa.blk, List.mem_singleton] at hk; subst hk; exact .inr hg

theorem Mod.transNew {S : List Nat} {a b c : World} {ao ao' : Option Addr} (h : Mod S a b) (k : Mod (blk ao') b c) (n : SameOrNew a b ao ao') (hs : ∀ k, k ∈ blk ao → k ∈ S) : Mod S a c :=
  h.trans k (fun i hi hl => by rcases n.blk i hi with h' | h'; exact hs i h'; omega)

/-- The source shows these cells. -/
def Shows (w : World) (ao : Option Addr) (news : List Value) : Prop := ∀ j u, news[j]? = some u → ∃ ad, ao = some ad ∧ w.cell? (ad.add j) = some u

def u8v (x : UInt8) : Value := .int .u8 ((x.toNat : Nat) : Int)
theorem Sees.shows {w : World} {ao : Option Addr} {l : List UInt8} (h : Sees w ao l) : Shows w ao (l.map u8v) := by
  intro j u hj
  rw [List.getElem?_map] at hj
  cases hl : l[j]? with
  | none => rw [hl] at hj; simp at hj
  | some x =>
    rw [hl] at hj
    obtain ⟨hlt, hx⟩ := List.getElem?_eq_some_iff.1 hl
    obtain ⟨b, off, h1, h2⟩ := h j hlt
    refine ⟨_, h1, ?_⟩
    rw [Addr.add_lit, h2, hx]
    exact hj
theorem Own.shows {w : World} {e : TypeId} {sz : Nat} {ao : Option Addr} {n cap : Nat} {xs : List Value} (h : Own w e sz ao n cap xs) : Shows w ao xs := by
  intro j u hj
  obtain ⟨g, h1, h2, _⟩ := h.cell hj
  exact ⟨_, h1, by rw [Addr.add_lit]; simpa using h2⟩
theorem Own.sees {w : World} {e : TypeId} {ao : Option Addr} {n cap : Nat} {l : List UInt8} (h : Own w e 1 ao n cap (l.map u8v)) : Sees w ao l := by
  intro j hj
  obtain ⟨g, h1, h2, _⟩ := h.cell (j := j) (u := u8v l[j]) (by rw [List.getElem?_map, List.getElem?_eq_getElem hj]; rfl)
  exact ⟨g, 0, h1, by rw [Nat.zero_add]; exact h2⟩
theorem Own.len1 {w : World} {e : TypeId} {ao : Option Addr} {n cap : Nat} {α : Type} {f : α → Value} {l : List α} (h : Own w e 1 ao n cap (l.map f)) : n = l.length := by
  have := h.1; simpa using this.symm
theorem one_u8 : ∀ (l : List UInt8), ∀ u ∈ l.map u8v, u.oneCell' = true := by
  intro l u hu
  obtain ⟨x, _, rfl⟩ := List.mem_map.1 hu
  rfl

section
variable {P : Program} (w : World)
/-- Cells are stored one by one into a row whose mark, if it bears one, lies behind its last cell. -/
theorem run_storeCells_fz (g o : Nat) (t : TypeId) (fz : Nat × Nat) : ∀ (vs : List Value) (i : Nat) (cur : Array Value) (w : World), w.heap[g]? = some (.cells cur t fz) → (fz = (0, 0) ∨ cur.size ≤ fz.1) → o + i + vs.length ≤ cur.size → (∀ v ∈ vs, v.oneCell' = true) →
    (storeCells ⟨g, o, none⟩ vs i).run P w = .ok () (w.setRow g (cur.toList.take (o + i) ++ vs ++ cur.toList.drop (o + i + vs.length)).toArray)
  | [], i, cur, w, hg, _, _, _ => by
    simp only [storeCells, List.append_nil, List.length_nil, Nat.add_zero, List.take_append_drop, Array.toArray_toList]
    rw [setRow_self w g cur t fz hg]
    rfl
  | v :: rest, i, cur, w, hg, hz, hl, h1 => by
    have hi : o + i < cur.size := by simp at hl; omega
    have hcell : w.cell? ⟨g, o + i, none⟩ = some cur[o + i] := by rw [cell_of_block hg]; simp [hi]
    have hfro : w.frozen? ⟨g, o + i, none⟩ = false := by
      rcases hz with rfl | hz
      · exact free_of_block hg
      · simp only [World.frozen?, hg]
        have : ¬ fz.1 ≤ o + i := by omega
        simp [this]
    have hst : (store ((⟨g, o, none⟩ : Addr).add i) v).run P w = .ok () (w.setRow g (cur.setIfInBounds (o + i) v)) := by
      rw [Addr.add_lit, run_store P w _ v _ (h1 v (by simp)), hcell]
      simp [hfro, setCell_eq_setRow w g (o + i) cur t fz v hg]
    have ih := run_storeCells_fz g o t fz rest (i + 1) (cur.setIfInBounds (o + i) v) (w.setRow g (cur.setIfInBounds (o + i) v)) (setRow_heap w g cur _ t _ hg) (by simpa using hz) (by simp at hl ⊢; omega) (fun x hx => h1 x (by simp [hx]))
    simp only [storeCells, Sem.run_bind, hst, Result.andThen_ok, ih, setRow_setRow]
    congr 3
    have e := list_seg_step cur.toList (o + i) v rest (by simp at hl ⊢; omega)
    simpa [Array.toList_setIfInBounds, Nat.add_assoc] using e
theorem run_append_room_fz (t ty e : TypeId) (i : TypeInfo) (ht : P.underlying t = some (.slice e)) (hi : P.info? e = some i)
    (g sLen sCap : Nat) (cur : Array Value) (fz : Nat × Nat) (hg : w.heap[g]? = some (.cells cur e fz)) (hz : fz = (0, 0) ∨ cur.size ≤ fz.1)
    (a : Addr) (m c : Nat) (news : List Value) (hl : news.length = m * i.size) (hnews : ∀ j u, news[j]? = some u → w.cell? (a.add j) = some u) (h1 : ∀ u ∈ news, u.oneCell' = true)
    (hroom : sLen + m ≤ sCap) (hfit : sLen * i.size + news.length ≤ cur.size) :
    (Builtin.append_ #[t, t] ty #[.slice (some ⟨g, 0, none⟩) sLen sCap, .slice (some a) m c]).run P w =
      .ok (.slice (some ⟨g, 0, none⟩) (sLen + m) sCap) (w.setRow g (cur.toList.take (sLen * i.size) ++ news ++ cur.toList.drop (sLen * i.size + news.length)).toArray) := by
  have hf := run_firstCells_some (P := P) w i.size m a m c news hl hnews
  have hst := run_storeCells_fz (P := P) g (sLen * i.size) e fz news 0 cur w hg hz (by simpa using hfit) h1
  simp only [Nat.add_zero] at hst
  simp [Builtin.append_, run_underlying ht, sizeOf, typeInfo, hi, Builtin.lenOf, hroom, hf, Addr.add_lit, hst]
theorem run_append_mine (t ty e : TypeId) (i : TypeInfo) (z : Value) (size bytes : Nat) (ht : P.underlying t = some (.slice e)) (hi : P.info? e = some i) (hz : i.zero = some z)
    (hsize : i.size = size) (hby : i.bytes = bytes) (hzs : z.cells.size = size) (hsz : 0 < size)
    (ao : Option Addr) (n cap : Nat) (xs : List Value) (hown : Own w e size ao n cap xs)
    (so : Option Addr) (m c : Nat) (news : List Value) (hl : news.length = m * size) (hnews : Shows w so news) (h1 : ∀ u ∈ news, u.oneCell' = true)
    (h63 : n + m ≤ maxLen) (hbytes : (n + m) * bytes ≤ 140737488355328) :
    ∃ ao' cap' w', (Builtin.append_ #[t, t] ty #[.slice ao n cap, .slice so m c]).run P w = .ok (.slice ao' (n + m) cap') w' ∧ Own w' e size ao' (n + m) cap' (xs ++ news) ∧ Mod (blk ao) w w' ∧ SameOrNew w w' ao ao' := by
  subst hsize
  subst hby
  have hsmall : n + m ≤ 9223372036854775807 := by simp only [maxLen] at h63; omega
  have hlen : (xs ++ news).length = (n + m) * i.size := by rw [List.length_append, hown.1, hl, Nat.add_mul]
  by_cases hm0 : m = 0
  · subst hm0
    have hn0 : news = [] := List.eq_nil_of_length_eq_zero (by simpa using hl)
    subst hn0
    have hle := hown.le
    refine ⟨ao, cap, w, ?_, by simpa using hown, Mod.refl _ _, .inl rfl⟩
    have hf : (Builtin.firstCells i.size 0 (.slice so 0 c)).run P w = .ok #[] w := by
      cases so with
      | none => exact run_firstCells_none _ _ _ _ _
      | some ad => simpa using run_firstCells_some (P := P) w i.size 0 ad 0 c [] (by simp) (by simp)
    cases ao with
    | none => simp [Builtin.append_, run_underlying ht, sizeOf, typeInfo, hi, Builtin.lenOf, hle, hf]
    | some a => simp [Builtin.append_, run_underlying ht, sizeOf, typeInfo, hi, Builtin.lenOf, hle, hf, storeCells]
  · obtain ⟨ad, rfl⟩ : ∃ ad, so = some ad := by
      have : 0 < news.length := by rw [hl]; exact Nat.mul_pos (by omega) hsz
      obtain ⟨ad, h, _⟩ := hnews 0 news[0] (by rw [List.getElem?_eq_getElem this])
      exact ⟨ad, h⟩
    have hnews' : ∀ j u, news[j]? = some u → w.cell? (ad.add j) = some u := fun j u hj => by
      obtain ⟨ad', h, h2⟩ := hnews j u hj
      cases h; exact h2
    have grown : ∀ (old : Nat), old < n + m →
        Own (w.drew.alloc (.cells (xs.toArray ++ news.toArray ++ Builtin.zeroCells z.cells (grownCap w (n + m) old e - (n + m))) e)) e i.size (some ⟨w.heap.size, 0, none⟩) (n + m) (grownCap w (n + m) old e) (xs ++ news) := by
      intro old ho
      have hge := grownCap_ge w (n + m) old e
      refine ⟨hlen, .inr ⟨w.heap.size, _, (0, 0), rfl, heap_alloc_new w.drew _, .inl rfl, hge, grownCap_le_maxLen w (n + m) old e h63, ?_, ?_⟩⟩
      · simp only [Array.size_append, List.size_toArray, size_zeroCells, hzs, hown.1, hl, ← Nat.add_mul]
        exact Nat.mul_le_mul_right _ (by omega)
      · simp only [Array.toList_append, List.append_assoc]
        rw [← List.append_assoc, ← hlen]
        exact List.take_left
    have hmod : ∀ o : Obj, Mod (blk ao) w (w.drew.alloc o) := fun o => (Mod.drew _ w).trans' (Mod.alloc _ _ o)
    have hsn : ∀ o : Obj, SameOrNew w (w.drew.alloc o) ao (some ⟨w.heap.size, 0, none⟩) := fun o => .inr ⟨w.heap.size, rfl, Nat.le_refl _, by simp⟩
    rcases hown.2 with ⟨rfl, rfl, rfl⟩ | ⟨g, cur, fz, rfl, hg, hfz, hnc, hcm, hcs, htake⟩
    · have hx : xs = [] := List.eq_nil_of_length_eq_zero (by simpa using hown.1)
      subst hx
      have hr := run_append_nil (P := P) w t ty e i z ht hi hz ad m c news hl hnews' (by omega) (by omega) (by have hb := hbytes; simp only [Nat.zero_add] at hb; omega)
      have hgr := grown 0 (by omega)
      simp only [Nat.zero_add, List.nil_append, Array.empty_append] at hgr ⊢
      exact ⟨_, _, _, hr, hgr, hmod _, hsn _⟩
    · by_cases hroom : n + m ≤ cap
      · have hfit : n * i.size + news.length ≤ cur.size := Nat.le_trans (by rw [hl, ← Nat.add_mul]; exact Nat.mul_le_mul_right _ hroom) hcs
        have hr := run_append_room_fz (P := P) w t ty e i ht hi g n cap cur fz hg hfz ad m c news hl hnews' h1 hroom hfit
        refine ⟨_, _, _, hr, ⟨hlen, .inr ⟨g, _, fz, rfl, setRow_heap w g cur _ e _ hg, hfz.imp id (fun h => by simp; omega), hroom, hcm, ?_, ?_⟩⟩, ⟨rfl, rfl, rfl, by simp, fun k _ hk => setRow_other w g k _ (fun e => hk (by simp [blk, e]))⟩, .inl rfl⟩
        · simp only [List.size_toArray, List.length_append, List.length_take, List.length_drop, Array.length_toList]
          omega
        · rw [htake, ← hlen]
          exact List.take_left
      · have holds : ∀ j u, xs[j]? = some u → w.cell? ((⟨g, 0, none⟩ : Addr).add j) = some u := fun j u hj => by
          obtain ⟨g', h1, h2, _⟩ := hown.cell hj
          cases h1; rw [Addr.add_lit]; simpa using h2
        have hr := run_append_grow (P := P) w t ty e i z ht hi hz ⟨g, 0, none⟩ n cap xs hown.1 holds ad m c news hl hnews' (by omega) (by omega) (growslice_fits (by omega) hbytes)
        exact ⟨_, _, _, hr, grown cap (by omega), hmod _, hsn _⟩

/-- append, one operation of a list of operations: whatever the source. -/
theorem wpl_append {ops : Array Oper} {rest : List Oper} {o : Oper} {a : Act} {Q : Exit → Act → World → Prop} (hgd : o.guard = none) (s x : Operand) (t : TypeId)
    (ho : o.op = .call { callee := .builtin .append, args := #[s, x], argTypes := #[t, t] })
    (e : TypeId) (i : TypeInfo) (z : Value) (size bytes : Nat) (ht : P.underlying t = some (.slice e)) (hi : P.info? e = some i) (hz : i.zero = some z)
    (hsize : i.size = size) (hby : i.bytes = bytes) (hzs : z.cells.size = size) (hsz : 0 < size)
    (ao : Option Addr) (n cap : Nat) (xs : List Value) (hs : a.eval s = .slice ao n cap) (hown : Own w e size ao n cap xs)
    (so : Option Addr) (m c : Nat) (news : List Value) (hx : a.eval x = .slice so m c) (hl : news.length = m * size) (hnews : Shows w so news) (h1 : ∀ u ∈ news, u.oneCell' = true)
    (h63 : n + m ≤ maxLen) (hbytes : (n + m) * bytes ≤ 140737488355328)
    (h : ∀ ao' cap' w', Own w' e size ao' (n + m) cap' (xs ++ news) → Mod (blk ao) w w' → SameOrNew w w' ao ao' → wpList P ops Q rest (a.put o.dst (.slice ao' (n + m) cap')) w') : wpList P ops Q (o :: rest) a w := by
  refine wpList_plain hgd (fun K hK => ?_)
  obtain ⟨ao', cap', w', hr, h2, h3, h4⟩ := run_append_mine (P := P) w t o.type e i z size bytes ht hi hz hsize hby hzs hsz ao n cap xs hown so m c news hl hnews h1 h63 hbytes
  unfold Oper.wp execOp
  simp only [ho, resolve, invoke, builtin, Sem.run_bind, Sem.run_pure, Result.andThen_ok, List.map_toArray, List.map_cons, List.map_nil, hs, hx, hr]
  exact hK _ _ (h ao' cap' w' h2 h3 h4)
/-- make, of a known size: zeros. -/
theorem wpl_make {ops : Array Oper} {rest : List Oper} {o : Oper} {a : Act} {Q : Exit → Act → World → Prop} (hgd : o.guard = none) (l c : Operand) (t : TypeId)
    (ho : o.op = Op.makeSlice t l c) (e : TypeId) (i : TypeInfo) (z : Value) (size bytes : Nat) (ht : P.underlying t = some (.slice e)) (hi : P.info? e = some i) (hz : i.zero = some z)
    (hsize : i.size = size) (hby : i.bytes = bytes) (kl kc : IntKind) (L C : Int) (n : Nat) (hl : a.eval l = .int kl L) (hc : a.eval c = .int kc C) (hL : L = (n : Int)) (hC : C = (n : Int)) (hb : bytes * n ≤ 281474976710656) (h63 : n ≤ maxLen)
    (h : ∀ g w', Own w' e size (some ⟨g, 0, none⟩) n n (madeCells z.cells (n * size)).toList → Mod [] w w' → w.heap.size ≤ g → wpList P ops Q rest (a.put o.dst (.slice (some ⟨g, 0, none⟩) n n)) w') : wpList P ops Q (o :: rest) a w := by
  refine wpList_plain hgd fun K hK' => ?_
  subst hsize hby hL hC
  have hb' : (i.bytes : Int) * (n : Int) ≤ 281474976710656 := by
    have h : ((i.bytes * n : Nat) : Int) ≤ 281474976710656 := by omega
    rwa [Int.natCast_mul] at h
  have hr := run_make (P := P) w t e i z ht hi hz kl kc n n (by omega) (Int.le_refl _) hb' (by unfold maxLen at h63; omega)
  simp only [Int.toNat_natCast] at hr
  unfold Oper.wp
  simp [execOp, ho, hl, hc, hr, Result.andThen]
  exact hK' _ _ (h _ _ (Own.new (heap_alloc_new w _) (.inl rfl) (size_madeCells _ _) h63) (Mod.alloc _ _ _) (Nat.le_refl _))
end
end Go.Proofs.Ytkkjbeakmimmmaa
/- Laws for slices of bytes over this seat's program. -/
namespace Go.Proofs.Ytkkjbeakmimmmaa
open Go Go.RowKit

theorem infoU8 : (Try.prog.info? 5).map (fun i => (i.zero, i.size, i.bytes)) = some (some (.int .u8 0), 1, 1) := by kernel_rfl

/-- A slice of bytes of the call's own. -/
def OwnB (w : World) (ao : Option Addr) (cap : Nat) (l : List UInt8) : Prop := Own w 5 1 ao l.length cap (l.map u8v)
theorem OwnB.nil (w : World) : OwnB w none 0 [] := Own.nil0 _ _ _
theorem OwnB.sees {w : World} {ao : Option Addr} {cap : Nat} {l : List UInt8} (h : OwnB w ao cap l) : Sees w ao l := Own.sees h
theorem OwnB.mod {S : List Nat} {w w' : World} {ao : Option Addr} {cap : Nat} {l : List UInt8} (h : OwnB w ao cap l) (hm : Mod S w w') (hn : ∀ k, k ∈ blk ao → k ∉ S) : OwnB w' ao cap l := Own.mod h hm hn
theorem OwnB.mod0 {w w' : World} {ao : Option Addr} {cap : Nat} {l : List UInt8} (h : OwnB w ao cap l) (hm : Mod [] w w') : OwnB w' ao cap l := Own.mod0 h hm

/-- Bytes l are handed back, in the block of ao or in a new one (ao none: in a new one). -/
def RetApp (w : World) (ao : Option Addr) (l : List UInt8) (e : Ending) (w' : World) : Prop :=
  ∃ ao' n cap', e = .returned (.slice ao' n cap') ∧ l.length = n ∧ OwnB w' ao' cap' l ∧ Mod (blk ao) w w' ∧ SameOrNew w w' ao ao'
theorem OwnB.lit1 {w : World} {g : Nat} {v : Int} {fz : Nat × Nat} (h : w.heap[g]? = some (.cells #[.int .u8 v] 5 fz)) (x : UInt8) (hx : v = (x.toNat : Int)) (hz : fz = (0, 0) ∨ 1 ≤ fz.1) : OwnB w (some ⟨g, 0, none⟩) 1 [x] := by
  subst hx
  exact Own.new (sz := 1) (n := 1) h hz (by simp) (by unfold maxLen; omega)
theorem SameOrNew.trans {a b c : World} {x y z : Option Addr} (h : SameOrNew a b x y) (k : SameOrNew b c y z) (hs : a.heap.size ≤ b.heap.size) (hs2 : b.heap.size ≤ c.heap.size) : SameOrNew a c x z := by
  rcases k with rfl | ⟨g, rfl, h1, h2⟩
  · rcases h with rfl | ⟨g, rfl, h1, h2⟩
    · exact .inl rfl
    · exact .inr ⟨g, rfl, h1, by omega⟩
  · exact .inr ⟨g, rfl, by omega, h2⟩
/-- Two such calls, one behind the other. -/
theorem RetApp.chain {a b c : World} {x y : Option Addr} {l : List UInt8} {e : Ending} (hm : Mod (blk x) a b) (hn : SameOrNew a b x y) (h : RetApp b y l e c) : RetApp a x l e c := by
  obtain ⟨ao', n, cap', h1, hl, h2, h3, h4⟩ := h
  exact ⟨ao', n, cap', h1, hl, h2, hm.transNew h3 hn (fun _ h => h), hn.trans h4 hm.size h3.size⟩
theorem RetApp.later {a b c : World} {x : Option Addr} {l : List UInt8} {e : Ending} (hm : Mod [] a b) (h : RetApp b x l e c) : RetApp a x l e c :=
  h.chain hm.nil (.inl rfl)
theorem madeU8 (n : Nat) : (madeCells (Value.cells (.int .u8 0)) (n * 1)).toList = (List.replicate n (0 : UInt8)).map u8v := by
  rw [Nat.mul_one]
  show (madeCells #[Value.int .u8 0] n).toList = _
  rw [toList_madeCells_one, List.map_replicate]
  rfl
/-- A byte of a row of the call's own is stored. -/
theorem OwnB.set {w : World} {g cap j : Nat} {l : List UInt8} (h : OwnB w (some ⟨g, 0, none⟩) cap l) (x : UInt8) : OwnB (w.setCell ⟨g, j, none⟩ (u8v x)) (some ⟨g, 0, none⟩) cap (l.set j x) := by
  have := Own.set (j := j) h (u8v x)
  unfold OwnB
  rw [List.length_set, List.map_set]
  exact this
theorem OwnB.cell {w : World} {ao : Option Addr} {cap j : Nat} {l : List UInt8} (h : OwnB w ao cap l) (hj : j < l.length) :
    ∃ g, ao = some ⟨g, 0, none⟩ ∧ w.cell? ⟨g, j, none⟩ = some (.int .u8 ((l[j].toNat : Nat) : Int)) ∧ w.frozen? ⟨g, j, none⟩ = false :=
  Own.cell (j := j) (u := u8v l[j]) h (by rw [List.getElem?_map, List.getElem?_eq_getElem hj]; rfl)
end Go.Proofs.Ytkkjbeakmimmmaa
/- Strings and bytes: conversions, and a string appended to bytes of the call's own. -/
namespace Go.Proofs.Ytkkjbeakmimmmaa
open Go Go.RowKit Go.Lib

/-- The string of these bytes. -/
abbrev strV (l : List UInt8) : Value := .string ⟨l.toArray⟩
theorem str_eta (s : ByteArray) : s = ⟨s.data.toList.toArray⟩ := by cases s; simp
theorem strCells_eq (s : ByteArray) : strCells s = s.data.toList.map u8v := rfl
theorem size_data (s : ByteArray) : s.data.toList.length = s.size := by rw [Array.length_toList]; rfl

section
variable {P : Program} (w : World)
theorem run_append_room_string_fz (t u ty e : TypeId) (i : TypeInfo) (ht : P.underlying t = some (.slice e)) (hu : P.underlying u = some .string) (hi : P.info? e = some i) (hs1 : i.size = 1)
    (g sLen sCap : Nat) (cur : Array Value) (fz : Nat × Nat) (hg : w.heap[g]? = some (.cells cur e fz)) (hz : fz = (0, 0) ∨ cur.size ≤ fz.1) (s : ByteArray)
    (hroom : sLen + s.size ≤ sCap) (hfit : sLen + s.size ≤ cur.size) :
    (Builtin.append_ #[t, u] ty #[.slice (some ⟨g, 0, none⟩) sLen sCap, .string s]).run P w =
      .ok (.slice (some ⟨g, 0, none⟩) (sLen + s.size) sCap) (w.setRow g (cur.toList.take sLen ++ strCells s ++ cur.toList.drop (sLen + s.size)).toArray) := by
  have hf := run_firstCells_string (P := P) w 1 s
  have hst := run_storeCells_fz (P := P) g sLen e fz (strCells s) 0 cur w hg hz (by simpa [strCells_length] using hfit) (strCells_oneCell s)
  simp only [Nat.add_zero, strCells_length] at hst
  simp [Builtin.append_, run_underlying ht, run_underlying hu, sizeOf, typeInfo, hi, hs1, Builtin.lenOf, hroom, hf, Addr.add_lit, hst]

theorem run_append_str (t u ty e : TypeId) (i : TypeInfo) (ht : P.underlying t = some (.slice e)) (hu : P.underlying u = some .string) (hi : P.info? e = some i) (hz : i.zero = some (.int .u8 0))
    (hsize : i.size = 1) (hby : i.bytes = 1)
    (ao : Option Addr) (n cap : Nat) (xs : List Value) (hown : Own w e 1 ao n cap xs) (s : ByteArray) (hbytes : n + s.size ≤ 140737488355328) :
    ∃ ao' cap' w', (Builtin.append_ #[t, u] ty #[.slice ao n cap, .string s]).run P w = .ok (.slice ao' (n + s.size) cap') w' ∧ Own w' e 1 ao' (n + s.size) cap' (xs ++ strCells s) ∧ Mod (blk ao) w w' ∧ SameOrNew w w' ao ao' := by
  have hxl : xs.length = n := by simpa using hown.1
  have hlen : (xs ++ strCells s).length = (n + s.size) * 1 := by rw [List.length_append, hxl, strCells_length]; omega
  have hmod : ∀ o : Obj, Mod (blk ao) w (w.drew.alloc o) := fun o => (Mod.drew _ w).trans' (Mod.alloc _ _ o)
  have hsn : ∀ o : Obj, SameOrNew w (w.drew.alloc o) ao (some ⟨w.heap.size, 0, none⟩) := fun o => .inr ⟨w.heap.size, rfl, Nat.le_refl _, by simp⟩
  have grown : ∀ (old : Nat) (rowCells : Array Value), old < n + s.size → rowCells.toList = xs ++ strCells s →
      Own (w.drew.alloc (.cells (rowCells ++ Builtin.zeroCells (Value.cells (.int .u8 0)) (grownCap w (n + s.size) old e - (n + s.size))) e)) e 1 (some ⟨w.heap.size, 0, none⟩) (n + s.size) (grownCap w (n + s.size) old e) (xs ++ strCells s) := by
    intro old row ho hrow
    have hge := grownCap_ge w (n + s.size) old e
    have hrs : row.size = n + s.size := by rw [← Array.length_toList, hrow]; omega
    refine ⟨hlen, .inr ⟨w.heap.size, _, (0, 0), rfl, heap_alloc_new w.drew _, .inl rfl, hge, grownCap_le_maxLen w (n + s.size) old e (by unfold maxLen; omega), ?_, ?_⟩⟩
    · simp only [Array.size_append, size_zeroCells, hrs]
      show _ ≤ n + s.size + (grownCap w (n + s.size) old e - (n + s.size)) * 1
      omega
    · simp only [Array.toList_append, hrow]
      rw [← hlen]
      exact List.take_left
  rcases hown.2 with ⟨rfl, rfl, rfl⟩ | ⟨g, cur, fz, rfl, hg, hfz, hnc, hcm, hcs, htake⟩
  · have hx : xs = [] := List.eq_nil_of_length_eq_zero hxl
    subst hx
    by_cases h0 : s.size = 0
    · have hs0 : strCells s = [] := List.eq_nil_of_length_eq_zero (by rw [strCells_length]; exact h0)
      refine ⟨none, 0, w, ?_, by rw [hs0, h0]; simpa using Own.nil0 w e 1, Mod.refl _ _, .inl rfl⟩
      simp [Builtin.append_, run_underlying ht, run_underlying hu, sizeOf, typeInfo, hi, Builtin.lenOf, h0, Builtin.firstCells]
    · have hr := run_append_nil_string (P := P) w t u ty e i _ ht hu hi hz s (by omega) (by omega) (by rw [hby]; omega)
      have hgr := grown 0 (s.data.map (fun b => Value.int .u8 b.toNat)) (by omega) (by simp [strCells])
      simp only [Nat.zero_add, List.nil_append] at hgr ⊢
      exact ⟨_, _, _, hr, hgr, hmod _, hsn _⟩
  · by_cases hroom : n + s.size ≤ cap
    · have hr := run_append_room_string_fz (P := P) w t u ty e i ht hu hi hsize g n cap cur fz hg hfz s hroom (by omega)
      refine ⟨_, _, _, hr, ⟨hlen, .inr ⟨g, _, fz, rfl, setRow_heap w g cur _ e _ hg, hfz.imp id (fun h => by simp [strCells_length]; omega), hroom, hcm, ?_, ?_⟩⟩, ⟨rfl, rfl, rfl, by simp, fun k _ hk => setRow_other w g k _ (fun e => hk (by simp [blk, e]))⟩, .inl rfl⟩
      · simp only [List.size_toArray, List.length_append, List.length_take, List.length_drop, Array.length_toList, strCells_length]
        omega
      · rw [Nat.mul_one] at htake
        rw [htake, ← hlen]
        exact List.take_left
    · have holds : ∀ j v, xs[j]? = some v → w.cell? ((⟨g, 0, none⟩ : Addr).add j) = some v := fun j v hj => by
        obtain ⟨g', h1, h2, _⟩ := hown.cell hj
        cases h1; rw [Addr.add_lit]; simpa using h2
      have hr := run_append_grow_string (P := P) w t u ty e i _ ht hu hi hz ⟨g, 0, none⟩ n cap xs (by rw [hsize]; exact hown.1) holds s (by omega) (by omega) (growslice_fits (by omega) (by rw [hby]; omega))
      exact ⟨_, _, _, hr, grown cap _ (by omega) (by simp), hmod _, hsn _⟩

theorem run_string_of (src dst e : TypeId) (hs : P.underlying src = some (.slice e)) (he : P.underlying e = some (.int .u8)) (hd : P.underlying dst = some .string)
    (ao : Option Addr) (cap : Nat) (l : List UInt8) (h : Sees w ao l) : (convert src dst (.slice ao l.length cap)).run P w = .ok (strV l) w := by
  cases l with
  | nil =>
    cases ao with
    | none => exact run_convert_bytes_nil w src e hs he 0 cap dst hd
    | some a => exact run_convert_bytes_back w src dst e a cap [] hs he hd (by intro j hj; simp at hj)
  | cons x l =>
    obtain ⟨b, off, rfl, _⟩ := h 0 (by simp)
    refine run_convert_bytes_back w src dst e ⟨b, off, none⟩ cap (x :: l) hs he hd ?_
    intro j hj
    obtain ⟨b', off', h1, h2⟩ := h j hj
    cases h1
    rw [Addr.add_lit]; exact h2
end

theorem bytesRow_take (s : ByteArray) (cap : Nat) (h : s.size ≤ cap) : (bytesRow s cap).toList.take (s.size * 1) = s.data.toList.map u8v ∧ (bytesRow s cap).size = cap := by
  have hs : s.data.size = s.size := rfl
  constructor
  · unfold bytesRow
    rw [Nat.mul_one, Array.toList_append, List.take_left' (by simp [hs])]
    simp [u8v]
  · unfold bytesRow; simp [hs]; omega
end Go.Proofs.Ytkkjbeakmimmmaa
/- Commands: how they lie, when they may be. -/
namespace Go.Proofs.Ytkkjbeakmimmmaa
open Go Go.RowKit Go.Lib

/-- A command. -/
structure Cd where
  client : Nat
  seq : Nat
  kind : Nat
  keys : List ByteArray
  old : ByteArray
  fresh : ByteArray
  n : Int
/-- A command, and where its keys lie. -/
abbrev Cm := Cd × Option Addr × Nat

/-- The slice at 'ao' shows these texts. -/
def SeesT (w : World) (ao : Option Addr) (l : List ByteArray) : Prop :=
  ∀ j (h : j < l.length), ∃ b off, ao = some ⟨b, off, none⟩ ∧ w.cell? ⟨b, off + j, none⟩ = some (.string l[j])
theorem SeesT.mod {S : List Nat} {w w' : World} {ao : Option Addr} {l : List ByteArray} (h : SeesT w ao l) (hm : Mod S w w') (hn : l ≠ [] → ∀ k, k ∈ blk ao → k ∉ S) : SeesT w' ao l := by
  intro j hj
  obtain ⟨b, off, h1, h2⟩ := h j hj
  exact ⟨b, off, h1, hm.cell h2 (hn (by intro e; subst e; exact absurd hj (Nat.not_lt_zero _)) b (by subst h1; simp [blk]))⟩
theorem SeesT.mod0 {w w' : World} {ao : Option Addr} {l : List ByteArray} (h : SeesT w ao l) (hm : Mod [] w w') : SeesT w' ao l := h.mod hm (by simp)
theorem SeesT.nil (w : World) (ao : Option Addr) : SeesT w ao [] := fun j hj => absurd hj (by simp)

/-- What a command's parts may be, of their types. -/
structure Wf (c : Cd) : Prop where
  client : c.client < 4294967296
  seq : c.seq < 4294967296
  kind : c.kind < 256
  keys : c.keys.length ≤ 9223372036854775807
  key : ∀ k ∈ c.keys, k.size ≤ 9223372036854775807
  old : c.old.size ≤ 9223372036854775807
  fresh : c.fresh.size ≤ 9223372036854775807
  lo : -9223372036854775808 ≤ c.n
  hi : c.n ≤ 9223372036854775807
def cmdC (c : Cm) : List Value := [.int .u32 (c.1.client : Int), .int .u32 (c.1.seq : Int), .int .u8 (c.1.kind : Int), .slice c.2.1 c.1.keys.length c.2.2, .string c.1.old, .string c.1.fresh, .int .i64 c.1.n]
def cmdV (c : Cm) : Value := .agg #[.int .u32 (c.1.client : Int), .int .u32 (c.1.seq : Int), .int .u8 (c.1.kind : Int), .slice c.2.1 c.1.keys.length c.2.2, .string c.1.old, .string c.1.fresh, .int .i64 c.1.n]

/-- How many keys a kind has, at least and at most. -/
def least (k : Nat) : Nat := if k = 6 then 2 else 1
def most (k : Nat) : Nat := if k = 6 then 2 else if k = 7 ∨ k = 8 then 16 else 1
def KeyOk (k : ByteArray) : Prop := 1 ≤ k.size ∧ k.size ≤ 32
instance (k : ByteArray) : Decidable (KeyOk k) := inferInstanceAs (Decidable (_ ∧ _))
/-- May a command be? -/
def May (c : Cd) : Prop :=
  (1 ≤ c.kind ∧ c.kind ≤ 8) ∧ (∀ k ∈ c.keys, KeyOk k) ∧ 0 < c.client ∧ least c.kind ≤ c.keys.length ∧ c.keys.length ≤ most c.kind ∧ c.old.size ≤ 64 ∧ c.fresh.size ≤ 64 ∧
    (c.old.size = 0 ∨ c.kind = 5) ∧ (c.fresh.size = 0 ∨ c.kind = 1 ∨ c.kind = 5) ∧ (c.n = 0 ∨ c.kind = 4)
instance (c : Cd) : Decidable (May c) := inferInstanceAs (Decidable (_ ∧ _))

theorem isEmpty_of (s : ByteArray) (h : s ≠ ByteArray.empty) : s.toList.isEmpty = false := by
  rw [ByteArray.toList_eq]
  cases hl : s.data.toList with
  | nil => exact absurd (by rw [str_eta s, hl]; rfl) h
  | cons _ _ => rfl
theorem size_pos (s : ByteArray) (h : s ≠ ByteArray.empty) : 1 ≤ s.size := by
  cases hl : s.data.toList with
  | nil => exact absurd (by rw [str_eta s, hl]; rfl) h
  | cons x r => rw [← size_data s, hl]; simp

end Go.Proofs.Ytkkjbeakmimmmaa
/- Rows of the call's own whose elements have one cell each, by what they show. Over any program. -/
namespace Go.Proofs.Ytkkjbeakmimmmaa
open Go Go.RowKit

/-- A row of elements of one cell each; f says what a cell holds. -/
def OwnM {α : Type} (f : α → Value) (w : World) (e : TypeId) (ao : Option Addr) (cap : Nat) (l : List α) : Prop := Own w e 1 ao l.length cap (l.map f)
section
variable {α : Type} {f : α → Value} {w w' : World} {e : TypeId} {ao : Option Addr} {cap : Nat} {l : List α}
theorem OwnM.nil (f : α → Value) (w : World) (e : TypeId) : OwnM f w e none 0 [] := Own.nil0 w e 1
theorem OwnM.mod {S : List Nat} (h : OwnM f w e ao cap l) (hm : Mod S w w') (hn : ∀ k, k ∈ blk ao → k ∉ S) : OwnM f w' e ao cap l := Own.mod h hm hn
theorem OwnM.mod0 (h : OwnM f w e ao cap l) (hm : Mod [] w w') : OwnM f w' e ao cap l := Own.mod0 h hm
theorem OwnM.lt (h : OwnM f w e ao cap l) : ∀ k, k ∈ blk ao → k < w.heap.size := Own.lt h
theorem OwnM.le (h : OwnM f w e ao cap l) : l.length ≤ cap := Own.le h
theorem OwnM.at' (h : OwnM f w e ao cap l) {j : Nat} (hj : j < l.length) : ∃ g, ao = some ⟨g, 0, none⟩ ∧ w.cell? ⟨g, j, none⟩ = some (f l[j]) ∧ w.frozen? ⟨g, j, none⟩ = false :=
  Own.cell h (j := j) (u := f l[j]) (by rw [List.getElem?_map, List.getElem?_eq_getElem hj]; rfl)
theorem OwnM.set {g j : Nat} (h : OwnM f w e (some ⟨g, 0, none⟩) cap l) (x : α) : OwnM f (w.setCell ⟨g, j, none⟩ (f x)) e (some ⟨g, 0, none⟩) cap (l.set j x) := by
  have := Own.set (j := j) h (f x)
  unfold OwnM
  rw [List.length_set, List.map_set]
  exact this
theorem OwnM.shows (h : OwnM f w e ao cap l) : Shows w ao (l.map f) := Own.shows h
theorem OwnM.tail {x : α} (h : OwnM f w e ao cap (x :: l)) : ∃ g, ao = some ⟨g, 0, none⟩ ∧ (l ≠ [] → 1 < cap) ∧ Shows w (some ⟨g, 1, none⟩) (l.map f) := by
  obtain ⟨g, rfl, _⟩ := h.at' (j := 0) (by simp)
  refine ⟨g, rfl, fun hl => ?_, ?_⟩
  · have := h.le
    have := List.length_pos_iff.2 hl
    simp at *
    omega
  · intro j u hj
    obtain ⟨ad, e1, e2⟩ := h.shows (j + 1) u (by simpa using hj)
    cases e1
    refine ⟨_, rfl, ?_⟩
    rw [Addr.add_lit] at e2 ⊢
    rw [show 1 + j = 0 + (j + 1) by omega]
    exact e2
theorem shows_one {g : Nat} {t : TypeId} {z : Nat × Nat} {x : α} (h : w.heap[g]? = some (.cells #[f x] t z)) : Shows w (some ⟨g, 0, none⟩) ([x].map f) := by
  intro j u hj
  refine ⟨_, rfl, ?_⟩
  rw [Addr.add_lit, cell_of_block h, Nat.zero_add, ← hj]
  simp
theorem Shows.nil (w : World) (ao : Option Addr) : Shows w ao [] := fun j u hj => by simp at hj
theorem OwnM.one {g : Nat} {x : α} (h : w.heap[g]? = some (.cells #[f x] e (0, 0))) : OwnM f w e (some ⟨g, 0, none⟩) 1 [x] :=
  Own.new (sz := 1) (n := 1) h (.inl rfl) (by simp) (by unfold maxLen; omega)
/-- append to such a row. -/
theorem wpl_appM {P : Program} {ops : Array Oper} {rest : List Oper} {a : Act} {Q : Exit → Act → World → Prop} {dst : Option Tmp} {ty : TypeId} {pos : String} {after : Array Edge} (s x : Operand) (t : TypeId)
    (z : Value) (bytes : Nat) (ht : P.underlying t = some (.slice e)) (hi : (P.info? e).map (fun i => (i.zero, i.size, i.bytes)) = some (some z, 1, bytes)) (hzs : z.cells.size = 1) (h1 : ∀ x, (f x).oneCell' = true)
    (n : Nat) (xs : List α) (hs : a.eval s = .slice ao n cap) (hn : xs.length = n) (hown : OwnM f w e ao cap xs)
    (so : Option Addr) (m c : Nat) (ys : List α) (hx : a.eval x = .slice so m c) (hm : ys.length = m) (hsh : Shows w so (ys.map f)) (hb : (n + m) * bytes ≤ 140737488355328) (hb2 : n + m ≤ 140737488355328)
    (h : ∀ ao' cap' w', OwnM f w' e ao' cap' (xs ++ ys) → Mod (blk ao) w w' → SameOrNew w w' ao ao' → wpList P ops Q rest (a.put dst (.slice ao' (n + m) cap')) w') :
    wpList P ops Q (⟨dst, .call { callee := .builtin .append, args := #[s, x], argTypes := #[t, t] }, ty, pos, after, none⟩ :: rest) a w := by
  obtain ⟨i0, hi, hz0, hz1, hz2⟩ := info_parts hi
  subst hn hm
  refine wpl_append w rfl s x t rfl e i0 z 1 bytes ht hi hz0 hz1 hz2 hzs (by decide) ao _ cap _ hs hown so _ c (ys.map f) hx (by simp) hsh ?_ (by unfold maxLen; omega) hb ?_
  · intro u hu
    obtain ⟨x, _, rfl⟩ := List.mem_map.1 hu
    exact h1 x
  · intro ao' cap' w' h1 h2 h3
    refine h ao' cap' w' ?_ h2 h3
    unfold OwnM
    rw [List.length_append, List.map_append]
    exact h1
end
/-- Two rows lie apart. -/
def Dis (x y : Option Addr) : Prop := ∀ j, j ∈ blk x → j ∉ blk y
theorem Dis.symm {x y : Option Addr} (h : Dis x y) : Dis y x := fun j hj hk => h j hk hj
theorem Dis.new {x x' y : Option Addr} {w w' : World} (h : Dis x y) (s : SameOrNew w w' x x') (hl : ∀ j, j ∈ blk y → j < w.heap.size) : Dis x' y := fun j hj hk => by
  rcases s.blk j hj with h1 | h1
  · exact h j h1 hk
  · have := hl j hk; omega
theorem Dis.fresh {x y : Option Addr} {B : Nat} (h : ∀ j, j ∈ blk x → B ≤ j) (hl : ∀ j, j ∈ blk y → j < B) : Dis x y := fun j hj hk => by
  have := h j hj; have := hl j hk; omega
theorem off_new {g : Nat} {x x' : Option Addr} {w w' : World} (h : g ∉ blk x) (s : SameOrNew w w' x x') (hl : g < w.heap.size) : g ∉ blk x' := fun hj => by
  rcases s.blk g hj with h1 | h1
  · exact h h1
  · omega
theorem Dis.sing {g : Nat} {y : Option Addr} (h : Dis (some ⟨g, 0, none⟩) y) : g ∉ blk y := h g (by simp [blk])
end Go.Proofs.Ytkkjbeakmimmmaa
/- Numbers as bytes of 7 bits: the plain function that both texts compute. No program in sight. -/
namespace Go.Proofs.Ytkkjbeakmimmmaa
open Go Go.RowKit

/-- A number's bytes, with fuel. -/
def encF : Nat → Nat → List UInt8
  | 0, n => [UInt8.ofNat n]
  | f + 1, n => if n < 128 then [UInt8.ofNat n] else UInt8.ofNat (128 + n % 128) :: encF f (n / 128)
def enc7 (n : Nat) : List UInt8 := encF 10 n
theorem encF_stable (f : Nat) : ∀ n, n < 128 ^ (f + 1) → encF (f + 1) n = encF f n := by
  induction f with
  | zero => intro n h; simp [encF]; omega
  | succ f ih =>
    intro n h
    show (if n < 128 then _ else UInt8.ofNat (128 + n % 128) :: encF (f + 1) (n / 128)) = (if n < 128 then _ else UInt8.ofNat (128 + n % 128) :: encF f (n / 128))
    split
    · rfl
    · rw [ih (n / 128) (by rw [Nat.div_lt_iff_lt_mul (by omega)]; rwa [Nat.pow_succ] at h)]
theorem enc7_small (n : Nat) (h : n < 128) : enc7 n = [UInt8.ofNat n] := by simp [enc7, encF, h]
theorem enc7_big (n : Nat) (h : 128 ≤ n) (h64 : n < 18446744073709551616) : enc7 n = UInt8.ofNat (128 + n % 128) :: enc7 (n / 128) := by
  show (if n < 128 then _ else UInt8.ofNat (128 + n % 128) :: encF 9 (n / 128)) = _
  rw [if_neg (by omega)]
  show _ = _ :: encF 10 (n / 128)
  rw [encF_stable 9 (n / 128) (by simp only [Nat.reduceAdd, Nat.reducePow]; omega)]
theorem encF_length (f : Nat) : ∀ n, 1 ≤ (encF f n).length ∧ (encF f n).length ≤ f + 1 := by
  induction f with
  | zero => intro n; simp [encF]
  | succ f ih =>
    intro n
    unfold encF
    split
    · simp
    · have := ih (n / 128); simp only [List.length_cons]; omega
theorem enc7_length (n : Nat) : 1 ≤ (enc7 n).length ∧ (enc7 n).length ≤ 11 := encF_length 10 n

/-- The groups that the iterator hands on: 7 bits, and whether they are the last. -/
def grpF : Nat → Nat → List (UInt8 × Bool)
  | 0, n => [(UInt8.ofNat n, true)]
  | f + 1, n => if n < 128 then [(UInt8.ofNat n, true)] else (UInt8.ofNat (n % 128), false) :: grpF f (n / 128)
def grp (n : Nat) : List (UInt8 × Bool) := grpF 10 n
def grpB (x : UInt8 × Bool) : UInt8 := if x.2 = true then x.1 else UInt8.ofNat (128 + x.1.toNat)
theorem grpF_stable (f : Nat) : ∀ n, n < 128 ^ (f + 1) → grpF (f + 1) n = grpF f n := by
  induction f with
  | zero => intro n h; simp [grpF]; omega
  | succ f ih =>
    intro n h
    show (if n < 128 then _ else (UInt8.ofNat (n % 128), false) :: grpF (f + 1) (n / 128)) = (if n < 128 then _ else (UInt8.ofNat (n % 128), false) :: grpF f (n / 128))
    split
    · rfl
    · rw [ih (n / 128) (by rw [Nat.div_lt_iff_lt_mul (by omega)]; rwa [Nat.pow_succ] at h)]
theorem grp_small (n : Nat) (h : n < 128) : grp n = [(UInt8.ofNat n, true)] := by simp [grp, grpF, h]
theorem grp_big (n : Nat) (h : 128 ≤ n) (h64 : n < 18446744073709551616) : grp n = (UInt8.ofNat (n % 128), false) :: grp (n / 128) := by
  show (if n < 128 then _ else (UInt8.ofNat (n % 128), false) :: grpF 9 (n / 128)) = _
  rw [if_neg (by omega)]
  show _ = _ :: grpF 10 (n / 128)
  rw [grpF_stable 9 (n / 128) (by simp only [Nat.reduceAdd, Nat.reducePow]; omega)]
theorem grpF_enc (f : Nat) : ∀ n, n < 128 ^ (f + 1) → (grpF f n).map grpB = encF f n := by
  induction f with
  | zero => intro n h; simp [grpF, encF, grpB]
  | succ f ih =>
    intro n h
    unfold grpF encF
    split
    · simp [grpB]
    · rw [List.map_cons, ih (n / 128) (by rw [Nat.div_lt_iff_lt_mul (by omega)]; rwa [Nat.pow_succ] at h)]
      have : grpB (UInt8.ofNat (n % 128), false) = UInt8.ofNat (128 + n % 128) := by
        have e : (UInt8.ofNat (n % 128)).toNat = n % 128 := by rw [UInt8.toNat_ofNat']; omega
        simp only [grpB, e]; rfl
      rw [this]
theorem grp_enc (n : Nat) (h64 : n < 18446744073709551616) : (grp n).map grpB = enc7 n := grpF_enc 10 n (by simp only [Nat.reduceAdd, Nat.reducePow]; omega)
theorem grp_length (n : Nat) (h64 : n < 18446744073709551616) : (grp n).length = (enc7 n).length := by rw [← grp_enc n h64]; simp
theorem grpF_wf (f : Nat) : ∀ n, n < 128 ^ (f + 1) → ∀ x ∈ grpF f n, x.1.toNat < 128 := by
  induction f with
  | zero => intro n h x hx; simp [grpF] at hx; subst hx; simp at h; show (UInt8.ofNat n).toNat < 128; rw [UInt8.toNat_ofNat']; omega
  | succ f ih =>
    intro n h x hx
    unfold grpF at hx
    split at hx
    · simp at hx; subst hx; show (UInt8.ofNat n).toNat < 128; rw [UInt8.toNat_ofNat']; omega
    · rcases List.mem_cons.1 hx with rfl | hx
      · show (UInt8.ofNat (n % 128)).toNat < 128; rw [UInt8.toNat_ofNat']; omega
      · exact ih (n / 128) (by rw [Nat.div_lt_iff_lt_mul (by omega)]; rwa [Nat.pow_succ] at h) x hx
theorem grp_wf (n : Nat) (h64 : n < 18446744073709551616) : ∀ x ∈ grp n, x.1.toNat < 128 := grpF_wf 10 n (by simp only [Nat.reduceAdd, Nat.reducePow]; omega)

/-- A signed number, as a number from 0 on. -/
def zig (m : Int) : Nat := if 0 ≤ m then (2 * m).toNat else (-2 * m - 1).toNat
theorem zig_pos (m : Int) (h : 0 ≤ m) : zig m = (2 * m).toNat := if_pos h
theorem zig_neg (m : Int) (h : m < 0) : zig m = (-2 * m - 1).toNat := if_neg (by omega)
theorem zig_lt (m : Int) (h1 : -9223372036854775808 ≤ m) (h2 : m ≤ 9223372036854775807) : zig m < 18446744073709551616 := by
  unfold zig; split <;> omega
theorem xor_ones64 (n : Nat) (h : n < 18446744073709551616) : bits .xor .u64 (n : Int) 18446744073709551615 = ((18446744073709551615 - n : Nat) : Int) := by
  show IntKind.u64.wrap ((BitVec.ofInt 64 (n : Int) ^^^ BitVec.ofInt 64 18446744073709551615).toNat : Int) = _
  have e1 : BitVec.ofInt 64 18446744073709551615 = BitVec.allOnes 64 := by decide
  have e2 : BitVec.ofInt 64 (n : Int) = BitVec.ofNat 64 n := BitVec.ofInt_natCast 64 n
  rw [e1, e2, BitVec.xor_allOnes, BitVec.toNat_not, BitVec.toNat_ofNat, Nat.mod_eq_of_lt (by simpa using h)]
  rw [IntWalk.u64_in _ (by omega)]
/-- As the walk writes it. -/
theorem zig_walk (m : Int) (h1 : -9223372036854775808 ≤ m) (h2 : m ≤ 9223372036854775807) :
    bits BinOp.xor IntKind.u64 (IntKind.u64.wrap (IntKind.u64.wrap m * 2)) (IntKind.u64.wrap (m / 9223372036854775808)) = ((zig m : Nat) : Int) := by
  by_cases h0 : 0 ≤ m
  · have e1 : m / 9223372036854775808 = 0 := by omega
    have e2 : IntKind.u64.wrap m = m := IntWalk.u64_in _ (by omega)
    have e3 : IntKind.u64.wrap (m * 2) = ((zig m : Nat) : Int) := by rw [IntWalk.u64_in _ (by omega), zig_pos m h0]; omega
    have e4 : IntKind.u64.wrap 0 = ((0 : Nat) : Int) := by decide
    rw [e1, e2, e3, e4, u64_xor_nat _ _ (zig_lt m h1 h2) (by omega), Nat.xor_zero]
  · have e1 : m / 9223372036854775808 = -1 := by omega
    have e2 : IntKind.u64.wrap m = m + 18446744073709551616 := by rw [IntKind.wrap_u64]; omega
    have e3 : IntKind.u64.wrap ((m + 18446744073709551616) * 2) = (((2 * m + 18446744073709551616).toNat : Nat) : Int) := by rw [IntKind.wrap_u64]; omega
    have e4 : IntKind.u64.wrap (-1) = 18446744073709551615 := by decide
    rw [e1, e2, e3, e4, xor_ones64 _ (by omega), zig_neg m (by omega)]
    omega
end Go.Proofs.Ytkkjbeakmimmmaa
/- Regions that draw their order, in abstract worlds: what reads cells that nobody writes from here on is taken first; the calls come up one by one, each by its contract. Over any program. -/
namespace Go.Proofs.Ytkkjbeakmimmmaa
open Go Go.RowKit Go.Lib

section
variable {P : Program} {ops : Array Oper} {Q : Exit → Act → World → Prop} {md : Region.Mode}

theorem wpAnyH_weaken {S S' : World → Prop} (hs : ∀ w, S' w → S w) : ∀ (fuel : Nat) (listed : Array Bool) (a : Act) (w : World), wpAnyH P md ops Q S' fuel listed a w → wpAnyH P md ops Q S fuel listed a w
  | 0, _, _, _, h => h
  | fuel + 1, _, _, _, h => ⟨h.1, fun i hi => wpOp_mono (fun a' w' h' => ⟨hs _ h'.1, wpAnyH_weaken hs fuel _ a' w' h'.2⟩) (h.2 i hi)⟩

/-- From here on at most the blocks K are written, of those that are there. -/
def Rest (P : Program) (md : Region.Mode) (ops : Array Oper) (Q : Exit → Act → World → Prop) (K : List Nat) (fuel : Nat) (listed : Array Bool) (a : Act) (w : World) : Prop :=
  wpAnyH P md ops Q (Mod K w) fuel listed a w

theorem rest_start {id : Nat} {a : Act} {w : World} (K : List Nat) (n : Nat) (L : Array Bool) (hn : ops.size = n) (hL : Array.replicate n false = L) (hm : P.follows .mixedOrders = true)
    (h : ∀ w1, Mod [] w w1 → Rest P .any ops Q K n L a w1) : (Code.region id ops true).wp P Q a w := by
  subst hn hL
  exact wp_region_held hm (h w.drew (Mod.drew _ _))

theorem rest_take {K : List Nat} {i : Nat} {oi : Oper} {v : Value} {fuel : Nat} {listed : Array Bool} {a : Act} {w : World} (hi : ops[i]? = some oi)
    (hs : Region.noSelect ops = true) (hf : Region.free md ops listed i = true) (hr : (Region.ready md ops listed).contains i = true)
    (hQ : ∀ c a w, Q (.panic c) (a.put oi.dst v) w → Q (.panic c) a w) (hy : YieldsIf P ops (Mod K w) oi v a)
    (h : Rest P md ops Q K fuel (listed.setIfInBounds i true) (a.put oi.dst v) w) : Rest P md ops Q K (fuel + 1) listed a w :=
  wpAnyH_take hi hs hf hr hQ hy (Mod.refl _ _) h

/-- One operation that is taken first, written out. -/
theorem rest_got {K : List Nat} {i : Nat} {dst : Option Tmp} {op : Op} {ty : TypeId} {pos : String} {after : Array Edge} {gd : Option (Nat × Bool)} {v : Value} {fuel : Nat} {listed : Array Bool} {a : Act} {w : World} (hi : ops[i]? = some ⟨dst, op, ty, pos, after, gd⟩)
    (hs : Region.noSelect ops = true) (hf : Region.free md ops listed i = true) (hr : (Region.ready md ops listed).contains i = true)
    (hQ : ∀ c a w, Q (.panic c) (a.put dst v) w → Q (.panic c) a w) (hw : Region.wanted ⟨dst, op, ty, pos, after, gd⟩ (yielded ops a.tmps) = true)
    (hy : ∀ w', Mod K w w' → (execOp a.eval ⟨dst, op, ty, pos, after, gd⟩).run P w' = .ok (.value v) w')
    (h : Rest P md ops Q K fuel (listed.setIfInBounds i true) (a.put dst v) w) : Rest P md ops Q K (fuel + 1) listed a w :=
  rest_take hi hs hf hr hQ (Or.inl ⟨hw, hy⟩) h
/-- One that is not wanted. -/
theorem rest_skip {K : List Nat} {i : Nat} {dst : Option Tmp} {op : Op} {ty : TypeId} {pos : String} {after : Array Edge} {gd : Option (Nat × Bool)} {fuel : Nat} {listed : Array Bool} {a : Act} {w : World} (hi : ops[i]? = some ⟨dst, op, ty, pos, after, gd⟩)
    (hs : Region.noSelect ops = true) (hf : Region.free md ops listed i = true) (hr : (Region.ready md ops listed).contains i = true)
    (hQ : ∀ c a w, Q (.panic c) (a.put dst undef) w → Q (.panic c) a w) (hw : Region.wanted ⟨dst, op, ty, pos, after, gd⟩ (yielded ops a.tmps) = false)
    (h : Rest P md ops Q K fuel (listed.setIfInBounds i true) (a.put dst undef) w) : Rest P md ops Q K (fuel + 1) listed a w :=
  rest_take hi hs hf hr hQ (Or.inr ⟨hw, rfl⟩) h

theorem rest_done {K : List Nat} {listed : Array Bool} {a : Act} {w : World} (hr : Region.ready md ops listed = []) (h : Q .normal a w) (fuel : Nat) :
    Rest P md ops Q K fuel listed a w := wpAnyH_done hr h fuel

/-- The way back into the region behind one operation; no tactic looks into it. -/
def Back (P : Program) (md : Region.Mode) (ops : Array Oper) (Q : Exit → Act → World → Prop) (K : List Nat) (w : World) (fuel : Nat) (listed : Array Bool) : Exit → Act → World → Prop := fun e a1 w1 =>
  match e with
  | .normal => Mod K w w1 ∧ wpAnyH P md ops Q (Mod K w) fuel listed a1 w1
  | e => Q e a1 w1

theorem back_to {K K1 : List Nat} {w w1 : World} {a1 : Act} {fuel : Nat} {listed : Array Bool} (hm : Mod K w w1) (hk : ∀ k, k ∈ K1 → k < w.heap.size → k ∈ K)
    (h : Rest P md ops Q K1 fuel listed a1 w1) : Back P md ops Q K w fuel listed .normal a1 w1 :=
  ⟨hm, wpAnyH_weaken (fun _ hw => hm.trans hw hk) _ _ _ _ h⟩

/-- One operation that may come up, by itself. -/
theorem one_op {K : List Nat} {i : Nat} {dst : Option Tmp} {op : Op} {ty : TypeId} {pos : String} {after : Array Edge} {gd : Option (Nat × Bool)} {fuel : Nat} {listed : Array Bool} {a : Act} {w : World} (ho : ops[i]? = some ⟨dst, op, ty, pos, after, gd⟩)
    (hw : Region.wanted ⟨dst, op, ty, pos, after, gd⟩ (yielded ops a.tmps) = true)
    (h : wpList P ops (Back P md ops Q K w fuel (listed.setIfInBounds i true)) [⟨dst, op, ty, pos, after, none⟩] a w) :
    wpOp P ops Q i (fun a' w' => Mod K w w' ∧ wpAnyH P md ops Q (Mod K w) fuel (listed.setIfInBounds i true) a' w') a w := by
  unfold wpOp
  simp only [ho]
  rw [if_pos hw]
  have hwn : Region.wanted ⟨dst, op, ty, pos, after, none⟩ (yielded ops a.tmps) = true := rfl
  unfold wpList at h
  rw [if_pos hwn] at h
  refine h.imp (fun h => ?_) id
  have h : Oper.upon P ⟨dst, op, ty, pos, after, gd⟩ a (wpList P ops (Back P md ops Q K w fuel (listed.setIfInBounds i true)) []) (Back P md ops Q K w fuel (listed.setIfInBounds i true)) ((execOp a.eval ⟨dst, op, ty, pos, after, gd⟩).run P w) := h
  unfold Oper.wp
  generalize (execOp a.eval ⟨dst, op, ty, pos, after, gd⟩).run P w = r at *
  cases r with
  | ok n w' =>
    cases n <;> simp only [Oper.upon] at h ⊢ <;>
      first
        | exact Calls.mono h (fun e w'' he => by cases e <;> exact he)
        | exact Rows.mono h (fun _ _ he => he)
        | exact h
  | halt x w' => cases x <;> simp only [Oper.upon] at h ⊢ <;> exact h

theorem rest_one {K : List Nat} {i : Nat} {dst : Option Tmp} {op : Op} {ty : TypeId} {pos : String} {after : Array Edge} {gd : Option (Nat × Bool)} {fuel : Nat} {listed : Array Bool} {a : Act} {w : World} (hr : Region.ready md ops listed = [i]) (ho : ops[i]? = some ⟨dst, op, ty, pos, after, gd⟩)
    (hw : Region.wanted ⟨dst, op, ty, pos, after, gd⟩ (yielded ops a.tmps) = true)
    (h : wpList P ops (Back P md ops Q K w fuel (listed.setIfInBounds i true)) [⟨dst, op, ty, pos, after, none⟩] a w) : Rest P md ops Q K (fuel + 1) listed a w := by
  refine wpAnyH_all hr (by simp) ?_
  intro j hj
  simp only [List.mem_singleton] at hj
  subst hj
  exact one_op ho hw h

/-- Two operations may come up: either one. -/
theorem rest_two {K : List Nat} {i j : Nat} {dst dst' : Option Tmp} {op op' : Op} {ty ty' : TypeId} {pos pos' : String} {after after' : Array Edge} {gd gd' : Option (Nat × Bool)} {fuel : Nat} {listed : Array Bool} {a : Act} {w : World} (hr : Region.ready md ops listed = [i, j])
    (ho : ops[i]? = some ⟨dst, op, ty, pos, after, gd⟩) (hw : Region.wanted ⟨dst, op, ty, pos, after, gd⟩ (yielded ops a.tmps) = true)
    (ho' : ops[j]? = some ⟨dst', op', ty', pos', after', gd'⟩) (hw' : Region.wanted ⟨dst', op', ty', pos', after', gd'⟩ (yielded ops a.tmps) = true)
    (h : wpList P ops (Back P md ops Q K w fuel (listed.setIfInBounds i true)) [⟨dst, op, ty, pos, after, none⟩] a w)
    (h' : wpList P ops (Back P md ops Q K w fuel (listed.setIfInBounds j true)) [⟨dst', op', ty', pos', after', none⟩] a w) : Rest P md ops Q K (fuel + 1) listed a w := by
  refine wpAnyH_all hr (by simp) ?_
  intro k hk
  simp only [List.mem_cons, List.not_mem_nil, or_false] at hk
  rcases hk with rfl | rfl
  · exact one_op ho hw h
  · exact one_op ho' hw' h'

theorem fresh_of {w w' : World} {a' : Option Addr} (n : SameOrNew w w' none a') {K : List Nat} : ∀ k, k ∈ blk a' → k < w.heap.size → k ∈ K := by
  intro k hk hl
  rcases n.blk k hk with h | h
  · simp [blk] at h
  · omega

/-- string(b), taken first. -/
theorem reads_str {K : List Nat} {w : World} {dst : Option Tmp} {ty : TypeId} {pos : String} {after : Array Edge} {gd : Option (Nat × Bool)} (ev : Operand → Value) (x : Operand) (src d e : TypeId)
    (hs : P.underlying src = some (.slice e)) (he : P.underlying e = some (.int .u8)) (hd : P.underlying d = some .string)
    (so : Option Addr) (m c : Nat) (l : List UInt8) (hx : ev x = .slice so m c) (hl : l.length = m) (hsees : Sees w so l) (hk : ∀ k, k ∈ blk so → k ∉ K) :
    ∀ w', Mod K w w' → (execOp ev ⟨dst, .convert src d x, ty, pos, after, gd⟩).run P w' = .ok (.value (strV l)) w' := by
  subst hl
  intro w' hm
  have hr := run_string_of (P := P) w' src d e hs he hd so c l (hsees.mod hm (by intro b off h; subst h; exact hk b (by simp [blk])))
  unfold execOp
  simp [hx, hr]
end

/-- s + t, s == t and s != t of strings that are known. -/
theorem reads_cat (w : World) {dst : Option Tmp} {ty t2 : TypeId} {pos : String} {after : Array Edge} {gd : Option (Nat × Bool)} (ev : Operand → Value) (x y : Operand) (l1 l2 : List UInt8)
    (hx : ev x = strV l1) (hy : ev y = strV l2) (hl : l1.length + l2.length ≤ 9223372036854775807) :
    (execOp ev ⟨dst, .binOp .add 9 x y t2, ty, pos, after, gd⟩).run Try.prog w = .ok (.value (strV (l1 ++ l2))) w := by
  have h1 : ({ data := l1.toArray } : ByteArray) ++ { data := l2.toArray } = ⟨(l1 ++ l2).toArray⟩ := by
    apply ByteArray.ext
    simp
  have h2 : ¬ 9223372036854775807 < l1.length + l2.length := by omega
  have h4 : (Op.stringOp .add ⟨l1.toArray⟩ ⟨l2.toArray⟩).run Try.prog w = .ok (strV (l1 ++ l2)) w := by
    rw [run_string_add_sum _ _ _ (by simpa [ByteArray.size] using hl), h1]
  have h5 : (binOp .add 9 (strV l1) (strV l2)).run Try.prog w = .ok (strV (l1 ++ l2)) w := by rw [binOp_string_add]; exact h4
  simp [execOp, hx, hy, eqGuard, h5]
theorem reads_eqs (w : World) {dst : Option Tmp} {ty t2 : TypeId} {pos : String} {after : Array Edge} {gd : Option (Nat × Bool)} (ev : Operand → Value) (x y : Operand) (l1 l2 : List UInt8)
    (hx : ev x = strV l1) (hy : ev y = strV l2) :
    (execOp ev ⟨dst, .binOp .eql 9 x y t2, ty, pos, after, gd⟩).run Try.prog w = .ok (.value (.bool (decide (l1 = l2)))) w := by
  have h4 : ((⟨l1.toArray⟩ : ByteArray).toList == (⟨l2.toArray⟩ : ByteArray).toList) = decide (l1 = l2) := by
    rw [ByteArray.toList_eq, ByteArray.toList_eq]
    by_cases h : l1 = l2
    · subst h; simp
    · simp [h]
  have h5 : (binOp .eql 9 (strV l1) (strV l2)).run Try.prog w = .ok (.bool (decide (l1 = l2))) w := by rw [binOp_string_eql, h4]; rfl
  simp [execOp, hx, hy, eqGuard, h5]
theorem reads_nes (w : World) {dst : Option Tmp} {ty t2 : TypeId} {pos : String} {after : Array Edge} {gd : Option (Nat × Bool)} (ev : Operand → Value) (x y : Operand) (l1 l2 : List UInt8)
    (hx : ev x = strV l1) (hy : ev y = strV l2) :
    (execOp ev ⟨dst, .binOp .neq 9 x y t2, ty, pos, after, gd⟩).run Try.prog w = .ok (.value (.bool (!(decide (l1 = l2))))) w := by
  have h4 : ((⟨l1.toArray⟩ : ByteArray).toList == (⟨l2.toArray⟩ : ByteArray).toList) = decide (l1 = l2) := by
    rw [ByteArray.toList_eq, ByteArray.toList_eq]
    by_cases h : l1 = l2
    · subst h; simp
    · simp [h]
  have h5 : (binOp .neq 9 (strV l1) (strV l2)).run Try.prog w = .ok (.bool (!(decide (l1 = l2)))) w := by rw [binOp_string_neq, h4]; rfl
  simp [execOp, hx, hy, eqGuard, h5]
end Go.Proofs.Ytkkjbeakmimmmaa
/- The walks that put a command behind bytes. -/
namespace Go.Proofs.Ytkkjbeakmimmmaa
open Go Go.RowKit Go.Lib

/-- A text's bytes. -/
def txB (s : ByteArray) : List UInt8 := enc7 s.size ++ s.data.toList
def keysB (l : List ByteArray) : List UInt8 := l.flatMap txB
/-- A command's bytes. -/
def oneB (c : Cd) : List UInt8 :=
  enc7 c.client ++ enc7 c.seq ++ enc7 c.kind ++ enc7 c.keys.length ++ keysB c.keys ++ txB c.old ++ txB c.fresh ++ enc7 (zig c.n)
theorem txB_len (s : ByteArray) : (txB s).length ≤ 11 + s.size := by
  unfold txB; rw [List.length_append, size_data]; have := (enc7_length s.size).2; omega
theorem keysB_snoc (l : List ByteArray) (k : Nat) (h : k < l.length) : keysB (l.take (k + 1)) = keysB (l.take k) ++ txB l[k] := by
  unfold keysB; rw [take_snoc l k h, List.flatMap_append]; simp
/-- Parts that are no greater than the laws look at. -/
structure Small (c : Cd) : Prop where
  keys : c.keys.length ≤ 100
  key : ∀ k ∈ c.keys, k.size ≤ 500
  old : c.old.size ≤ 500
  fresh : c.fresh.size ≤ 500

/-- Where bytes lie in a call that writes behind them, and what has turned since w. -/
structure PutR (w : World) (ao a : Option Addr) (c : Nat) (xs : List UInt8) (wr : World) : Prop where
  own : OwnB wr a c xs
  mod : Mod (blk ao) w wr
  new : SameOrNew w wr ao a
theorem PutR.step {w wr w' : World} {ao a a' : Option Addr} {c c' : Nat} {xs ys : List UInt8} (h : PutR w ao a c xs wr) (o : OwnB w' a' c' ys) (m : Mod (blk a) wr w') (n : SameOrNew wr w' a a') : PutR w ao a' c' ys w' :=
  ⟨o, h.mod.transNew m h.new (fun _ hk => hk), h.new.trans n h.mod.size m.size⟩
theorem PutR.still {w wr w' : World} {ao a : Option Addr} {c : Nat} {xs : List UInt8} (h : PutR w ao a c xs wr) (m : Mod [] wr w') : PutR w ao a c xs w' :=
  ⟨h.own.mod0 m, h.mod.trans0 m, h.new.imp id (fun ⟨b, h1, h2, h3⟩ => ⟨b, h1, h2, Nat.lt_of_lt_of_le h3 m.size⟩)⟩
theorem back_keys {w w' : World} {a a' : Option Addr} (n : SameOrNew w w' a a') : ∀ k, k ∈ blk a' → k < w.heap.size → k ∈ blk a := fun k hk hl => (n.blk k hk).elim id (fun h => absurd hl (by omega))
theorem PutR.fresh {w wr : World} {ao a : Option Addr} {c : Nat} {xs : List UInt8} {g : Nat} (h : PutR w ao a c xs wr) (hg : g < w.heap.size) (hn : g ∉ blk ao) : g ∉ blk a := fun hk => (h.new.blk g hk).elim hn (by omega)

theorem box_facts (c : Cm) (w : World) : ∃ w1, w.alloc (.cells #[.int .u32 (c.1.client : Int), .int .u32 (c.1.seq : Int), .int .u8 (c.1.kind : Int), .slice c.2.1 c.1.keys.length c.2.2, .string c.1.old, .string c.1.fresh, .int .i64 c.1.n] 32) = w1 ∧
    Mod [] w w1 ∧ w1.heap.size = w.heap.size + 1 ∧ w1.cell? ⟨w.heap.size, 0, none⟩ = some (.int .u32 (c.1.client : Int)) ∧ w1.cell? ⟨w.heap.size, 1, none⟩ = some (.int .u32 (c.1.seq : Int)) ∧ w1.cell? ⟨w.heap.size, 2, none⟩ = some (.int .u8 (c.1.kind : Int)) ∧
    w1.cell? ⟨w.heap.size, 3, none⟩ = some (.slice c.2.1 c.1.keys.length c.2.2) ∧ w1.cell? ⟨w.heap.size, 4, none⟩ = some (.string c.1.old) ∧ w1.cell? ⟨w.heap.size, 5, none⟩ = some (.string c.1.fresh) ∧ w1.cell? ⟨w.heap.size, 6, none⟩ = some (.int .i64 c.1.n) := by
  have hb := heap_alloc_new w (.cells #[.int .u32 (c.1.client : Int), .int .u32 (c.1.seq : Int), .int .u8 (c.1.kind : Int), .slice c.2.1 c.1.keys.length c.2.2, .string c.1.old, .string c.1.fresh, .int .i64 c.1.n] 32)
  exact ⟨_, rfl, Mod.alloc _ _ _, by simp, cell_of_block hb, cell_of_block hb, cell_of_block hb, cell_of_block hb, cell_of_block hb, cell_of_block hb, cell_of_block hb⟩

end Go.Proofs.Ytkkjbeakmimmmaa
/- The walks that compare commands. -/
namespace Go.Proofs.Ytkkjbeakmimmmaa
open Go Go.RowKit Go.Lib

/-- Are two commands alike? -/
def SameC (c d : Cd) : Prop := c.client = d.client ∧ c.seq = d.seq ∧ c.kind = d.kind ∧ c.keys = d.keys ∧ c.old = d.old ∧ c.fresh = d.fresh ∧ c.n = d.n
instance (c d : Cd) : Decidable (SameC c d) := inferInstanceAs (Decidable (_ ∧ _))
theorem same_iff (c d : Cd) : SameC c d ↔ c = d := by
  constructor
  · rintro ⟨h1, h2, h3, h4, h5, h6, h7⟩
    cases c; cases d
    dsimp only at h1 h2 h3 h4 h5 h6 h7
    subst h1 h2 h3 h4 h5 h6 h7
    rfl
  · rintro rfl
    exact ⟨rfl, rfl, rfl, rfl, rfl, rfl, rfl⟩

theorem str_beq (s t : ByteArray) : (s.toList == t.toList) = decide (s = t) := by
  rw [ByteArray.toList_eq, ByteArray.toList_eq]
  apply Bool.eq_iff_iff.2
  rw [beq_iff_eq, decide_eq_true_iff]
  exact ⟨fun h => by rw [str_eta s, str_eta t, h], fun h => by rw [h]⟩

end Go.Proofs.Ytkkjbeakmimmmaa
/- The walks that compare commands, two. -/
namespace Go.Proofs.Ytkkjbeakmimmmaa
open Go Go.RowKit Go.Lib

/-- Commands that lie in a row. -/
def SeesC (w : World) (ao : Option Addr) (l : List Cm) : Prop :=
  ∀ j (h : j < l.length), ∃ b off, ao = some ⟨b, off, none⟩ ∧ w.cell? ⟨b, off + j * 7, none⟩ = some (.int .u32 (l[j].1.client : Int)) ∧ w.cell? ⟨b, off + j * 7 + 1, none⟩ = some (.int .u32 (l[j].1.seq : Int)) ∧
    w.cell? ⟨b, off + j * 7 + 2, none⟩ = some (.int .u8 (l[j].1.kind : Int)) ∧ w.cell? ⟨b, off + j * 7 + 3, none⟩ = some (.slice l[j].2.1 l[j].1.keys.length l[j].2.2) ∧ w.cell? ⟨b, off + j * 7 + 4, none⟩ = some (.string l[j].1.old) ∧
    w.cell? ⟨b, off + j * 7 + 5, none⟩ = some (.string l[j].1.fresh) ∧ w.cell? ⟨b, off + j * 7 + 6, none⟩ = some (.int .i64 l[j].1.n) ∧ SeesT w l[j].2.1 l[j].1.keys ∧ Wf l[j].1
theorem SeesC.mod0 {w w' : World} {ao : Option Addr} {l : List Cm} (h : SeesC w ao l) (hm : Mod [] w w') : SeesC w' ao l := by
  intro j hj
  obtain ⟨b, off, h1, c0, c1, c2, c3, c4, c5, c6, ht, hf⟩ := h j hj
  exact ⟨b, off, h1, hm.cell c0 (by simp), hm.cell c1 (by simp), hm.cell c2 (by simp), hm.cell c3 (by simp), hm.cell c4 (by simp), hm.cell c5 (by simp), hm.cell c6 (by simp), ht.mod0 hm, hf⟩

/-- What the test of great ones tells. -/
def GreatR (w : World) (l : List Cm) (e : Ending) (w' : World) : Prop := ∃ b, e = .returned (.bool b) ∧ Mod [] w w' ∧ (b = false → l.length ≤ 100 ∧ ∀ c ∈ l, Small c.1)
set_option maxRecDepth 100000 in
set_option maxHeartbeats 4000000 in
/-- Whether commands are too many, too great. -/
theorem great_any (ao : Option Addr) (len cap : Nat) (l : List Cm) (w : World) (hl : l.length = len) (hs : SeesC w ao l) (hlen : len ≤ 9223372036854775807) :
    Calls Try.prog 5 #[.slice ao len cap] w (GreatR w l) := by
  subst hl
  have HS := Lib.hid hs
  clear hs
  by_cases hbig : 100 < l.length
  · go_enter Try.func5, Try.ntmps5
    go_wp2
    go_ret
    exact ⟨true, rfl, Mod.refl _ _, fun h => absurd h (by decide)⟩
  go_enter Try.func5, Try.ntmps5
  go_wp2
  go_loopw [3] (fun i wr => ∃ k : Nat, k ≤ l.length ∧ i = .int .i64 (k : Int) ∧ (∀ j, (h : j < l.length) → j < k → Small l[j].1) ∧ Mod [] w wr) (fun i _ => l.length - (intOf i).toNat)
  case atStart => exact ⟨0, Nat.zero_le _, rfl, fun j _ h => absurd h (Nat.not_lt_zero _), Mod.refl _ _⟩
  case round =>
    obtain ⟨k, hk, rfl, hall, hm⟩ := hrel
    have HA := Lib.hid hall
    have HM := Lib.hid hm
    clear hall hm
    by_cases hlt : k < l.length
    · obtain ⟨b, off, rfl, c0, c1, c2, c3, c4, c5, c6, ht, hf⟩ := (HS.out.mod0 HM.out) k hlt
      obtain ⟨⟨⟨client, seq, kind, keys, old, fresh, n⟩, kao, kcap⟩, hx⟩ : ∃ x, l[k] = x := ⟨_, rfl⟩
      rw [hx] at c0 c1 c2 c3 c4 c5 c6 ht hf
      dsimp only at c0 c1 c2 c3 c4 c5 c6 ht hf
      have HX := Lib.hid hx
      obtain ⟨-, -, -, f4, f5, f6, f7, -, -⟩ := hf
      dsimp only at f4 f5 f6 f7
      have F5 := Lib.hid f5
      clear hx f5
      obtain ⟨w2, hw2', M2, z2, q0, q1, q2, q3, q4, q5, q6⟩ := box_facts (⟨client, seq, kind, keys, old, fresh, n⟩, kao, kcap) wr
      dsimp only at hw2' q0 q1 q2 q3 q4 q5 q6
      have HM2 := Lib.hid (HM.out.trans' M2)
      have HT := Lib.hid (ht.mod0 M2)
      clear ht M2
      by_cases h1 : 500 < old.size
      · have D1 : decide ((500 : Int) < (old.size : Int)) = true := decide_eq_true (by omega)
        go_wp2
        go_ret
        exact ⟨true, rfl, HM2.out, fun h => absurd h (by decide)⟩
      have D1 : decide ((500 : Int) < (old.size : Int)) = false := decide_eq_false (by omega)
      by_cases h2 : 500 < fresh.size
      · have D2 : decide ((500 : Int) < (fresh.size : Int)) = true := decide_eq_true (by omega)
        go_wp2
        go_ret
        exact ⟨true, rfl, HM2.out, fun h => absurd h (by decide)⟩
      have D2 : decide ((500 : Int) < (fresh.size : Int)) = false := decide_eq_false (by omega)
      by_cases h3 : 100 < keys.length
      · have D3 : decide ((100 : Int) < (keys.length : Int)) = true := decide_eq_true (by omega)
        go_wp2
        go_ret
        exact ⟨true, rfl, HM2.out, fun h => absurd h (by decide)⟩
      have D3 : decide ((100 : Int) < (keys.length : Int)) = false := decide_eq_false (by omega)
      go_wp2
      clear hw2' D1 D2 D3 c0 c1 c2 c3 c4 c5 c6
      go_loopw [5] (fun i wq => ∃ p : Nat, p ≤ keys.length ∧ i = .int .i64 (p : Int) ∧ (∀ j, (h : j < keys.length) → j < p → keys[j].size ≤ 500) ∧ wq = w2) (fun i _ => keys.length - (intOf i).toNat)
      case atStart => exact ⟨0, Nat.zero_le _, rfl, fun j _ h => absurd h (Nat.not_lt_zero _), rfl⟩
      case round =>
        obtain ⟨p, hp, rfl, hal, rfl⟩ := hrel
        have HB := Lib.hid hal
        clear hal
        by_cases hpt : p < keys.length
        · obtain ⟨b2, off2, rfl, p0⟩ := HT.out p hpt
          have f5 := F5.out _ (List.getElem_mem hpt)
          obtain ⟨t, ht⟩ : ∃ t, keys[p] = t := ⟨_, rfl⟩
          rw [ht] at p0 f5
          have HTT := Lib.hid ht
          clear ht
          by_cases h5 : 500 < t.size
          · have D1 : decide ((500 : Int) < (t.size : Int)) = true := decide_eq_true (by omega)
            go_wp2
            go_ret
            exact ⟨true, rfl, HM2.out, fun h => absurd h (by decide)⟩
          · have D1 : decide ((500 : Int) < (t.size : Int)) = false := decide_eq_false (by omega)
            go_wp2
            go_roundw
            case rel =>
              refine ⟨p + 1, by omega, by go_num, fun j hj hjk => ?_, by first | rfl | trivial⟩
              by_cases he : j = p
              · subst he; rw [HTT.out]; omega
              · exact HB.out j hj (by omega)
            case measure => simp [intOf]; omega
        · have hpe : p = keys.length := by omega
          subst hpe
          go_wp2
          go_roundw
          case rel =>
            refine ⟨k + 1, by omega, by go_num, fun j hj hjk => ?_, HM2.out⟩
            by_cases he : j = k
            · subst he
              rw [HX.out]
              refine ⟨by show keys.length ≤ 100; omega, fun t ht => ?_, by show old.size ≤ 500; omega, by show fresh.size ≤ 500; omega⟩
              obtain ⟨j, hj, rfl⟩ := List.getElem_of_mem ht
              exact HB.out j hj hj
            · exact HA.out j hj (by omega)
          case measure => simp [intOf]; omega
    · have hke : k = l.length := by omega
      subst hke
      go_wp2
      go_ret
      refine ⟨false, rfl, HM.out, fun _ => ⟨by omega, fun x hx => ?_⟩⟩
      obtain ⟨j, hj, rfl⟩ := List.getElem_of_mem hx
      exact HA.out j hj hj
end Go.Proofs.Ytkkjbeakmimmmaa
/- The library's contracts at this seat's program, as the kit's lay-shelf.mjs and lay-plain.mjs print them (slices.Sort, Clone, Compact, Contains, Max; math/bits). -/
namespace Go.Proofs
open Go.Shelf
def Try.lays128_ren : Go.Shelf.Ren := ⟨fun | 128 => 40 | n => n, fun | 51 => 29 | 3 => 3 | 4 => 4 | 46 => 58 | 5 => 5 | 9 => 9 | n => n, fun | n => n⟩
theorem Try.lays128 : Go.Proofs.Lays.n128 Try.prog Try.lays128_ren := {
  mixed := by kernel_rfl
  f128 := Try.func40.trans (congrArg some (by kernel_rfl))
  t3 := Try.underlying3
  a3 := Try.isAgg3
  z3 := Try.sizeOf3
  v3 := Try.zeroValue3
  t4 := Try.underlying4
  a4 := Try.isAgg4
  z4 := Try.sizeOf4
  v4 := Try.zeroValue4
  t5 := Try.underlying5
  a5 := Try.isAgg5
  z5 := Try.sizeOf5
  v5 := Try.zeroValue5
  t9 := Try.underlying9
  a9 := Try.isAgg9
  z9 := Try.sizeOf9
  v9 := Try.zeroValue9
  t46 := Try.underlying58
  a46 := Try.isAgg58
  z46 := Try.sizeOf58
  v46 := Try.zeroValue58
  t51 := Try.underlying29
  a51 := Try.isAgg29
  z51 := Try.sizeOf29
  v51 := Try.zeroValue29 }
/-- bits.Len32: "Len32 returns the minimum number of bits required to represent x; the result is 0 for x == 0.": IT RETURNS 'Lib.bitLen x'; the world is as it was. ('h0', 'h1': x is a uint32.) (LAID: no walk: one application.) -/
theorem Try.bits_Len32 (x : Int) (w : World) (h0 : 0 ≤ x) (h1 : x ≤ 4294967295) :
    Calls Try.prog 40 #[.int .u32 x] w fun e w' => e = .returned (.int .i64 (Lib.bitLen x.toNat)) ∧ w' = w := Any.bits_Len32 Try.lays128 x w h0 h1
def Try.lays125_ren : Go.Shelf.Ren := ⟨fun | 125 => 29 | 128 => 40 | 129 => 41 | n => n, fun | 46 => 58 | 3 => 3 | 51 => 29 | 53 => 71 | 4 => 4 | 5 => 5 | 9 => 9 | n => n, fun | n => n⟩
theorem Try.lays125 : Go.Proofs.Lays.n125 Try.prog Try.lays125_ren := {
  mixed := by kernel_rfl
  f125 := Try.func29.trans (congrArg some (by kernel_rfl))
  f128 := Try.func40.trans (congrArg some (by kernel_rfl))
  f129 := Try.func41.trans (congrArg some (by kernel_rfl))
  t3 := Try.underlying3
  a3 := Try.isAgg3
  z3 := Try.sizeOf3
  v3 := Try.zeroValue3
  t4 := Try.underlying4
  a4 := Try.isAgg4
  z4 := Try.sizeOf4
  v4 := Try.zeroValue4
  t5 := Try.underlying5
  a5 := Try.isAgg5
  z5 := Try.sizeOf5
  v5 := Try.zeroValue5
  t9 := Try.underlying9
  a9 := Try.isAgg9
  z9 := Try.sizeOf9
  v9 := Try.zeroValue9
  t46 := Try.underlying58
  a46 := Try.isAgg58
  z46 := Try.sizeOf58
  v46 := Try.zeroValue58
  t51 := Try.underlying29
  a51 := Try.isAgg29
  z51 := Try.sizeOf29
  v51 := Try.zeroValue29
  t53 := Try.underlying71
  a53 := Try.isAgg71
  z53 := Try.sizeOf71
  v53 := Try.zeroValue71 }
/-- bits.Len: "Len returns the minimum number of bits required to represent x; the result is 0 for x == 0.": IT RETURNS 'Lib.bitLen x'; the world is as it was. (A uint has 64 bits in the model.) ITS CALLEE bits.Len64 IS MET BY ITS OWN CONTRACT OFF THE SHELF (lay that first). (LAID: no walk: one application.) -/
theorem Try.bits_Len (x : Int) (w : World) (h0 : 0 ≤ x) (h1 : x ≤ 18446744073709551615) :
    Calls Try.prog 29 #[.int .u64 x] w fun e w' => e = .returned (.int .i64 (Lib.bitLen x.toNat)) ∧ w' = w := Any.bits_Len Try.lays125 x w h0 h1
def Try.lays129_ren : Go.Shelf.Ren := ⟨fun | 129 => 41 | n => n, fun | 53 => 71 | 3 => 3 | 4 => 4 | 46 => 58 | 5 => 5 | 9 => 9 | n => n, fun | n => n⟩
theorem Try.lays129 : Go.Proofs.Lays.n129 Try.prog Try.lays129_ren := {
  mixed := by kernel_rfl
  f129 := Try.func41.trans (congrArg some (by kernel_rfl))
  t3 := Try.underlying3
  a3 := Try.isAgg3
  z3 := Try.sizeOf3
  v3 := Try.zeroValue3
  t4 := Try.underlying4
  a4 := Try.isAgg4
  z4 := Try.sizeOf4
  v4 := Try.zeroValue4
  t5 := Try.underlying5
  a5 := Try.isAgg5
  z5 := Try.sizeOf5
  v5 := Try.zeroValue5
  t9 := Try.underlying9
  a9 := Try.isAgg9
  z9 := Try.sizeOf9
  v9 := Try.zeroValue9
  t46 := Try.underlying58
  a46 := Try.isAgg58
  z46 := Try.sizeOf58
  v46 := Try.zeroValue58
  t53 := Try.underlying71
  a53 := Try.isAgg71
  z53 := Try.sizeOf71
  v53 := Try.zeroValue71 }
/-- bits.Len64: "Len64 returns the minimum number of bits required to represent x; the result is 0 for x == 0.": IT RETURNS 'Lib.bitLen x'; the world is as it was. ('h0', 'h1': x is a uint64.) (LAID: no walk: one application.) -/
theorem Try.bits_Len64 (x : Int) (w : World) (h0 : 0 ≤ x) (h1 : x ≤ 18446744073709551615) :
    Calls Try.prog 41 #[.int .u64 x] w fun e w' => e = .returned (.int .i64 (Lib.bitLen x.toNat)) ∧ w' = w := Any.bits_Len64 Try.lays129 x w h0 h1
def Try.lays190_ren : Go.Shelf.Ren := ⟨fun | 190 => 23 | 125 => 29 | 258 => 28 | 128 => 40 | 129 => 41 | 302 => 31 | 303 => 32 | 304 => 33 | 305 => 34 | 306 => 35 | 307 => 36 | 308 => 37 | 309 => 38 | 310 => 39 | 333 => 42 | 329 => 43 | 330 => 44 | 334 => 45 | 335 => 46 | 336 => 47 | 344 => 48 | n => n, fun | 31 => 30 | 9 => 9 | 3 => 3 | 46 => 58 | 0 => 0 | 51 => 29 | 53 => 71 | 4 => 4 | 183 => 62 | 182 => 61 | 131 => 67 | 5 => 5 | 218 => 72 | 222 => 76 | 228 => 78 | 229 => 79 | n => n, fun | n => n⟩
theorem Try.lays190 : Go.Proofs.Lays.n190 Try.prog Try.lays190_ren := {
  mixed := by kernel_rfl
  f125 := Try.func29.trans (congrArg some (by kernel_rfl))
  f128 := Try.func40.trans (congrArg some (by kernel_rfl))
  f129 := Try.func41.trans (congrArg some (by kernel_rfl))
  f190 := Try.func23.trans (congrArg some (by kernel_rfl))
  f258 := Try.func28.trans (congrArg some (by kernel_rfl))
  f302 := Try.func31.trans (congrArg some (by kernel_rfl))
  f303 := Try.func32.trans (congrArg some (by kernel_rfl))
  f304 := Try.func33.trans (congrArg some (by kernel_rfl))
  f305 := Try.func34.trans (congrArg some (by kernel_rfl))
  f306 := Try.func35.trans (congrArg some (by kernel_rfl))
  f307 := Try.func36.trans (congrArg some (by kernel_rfl))
  f308 := Try.func37.trans (congrArg some (by kernel_rfl))
  f309 := Try.func38.trans (congrArg some (by kernel_rfl))
  f310 := Try.func39.trans (congrArg some (by kernel_rfl))
  f329 := Try.func43.trans (congrArg some (by kernel_rfl))
  f330 := Try.func44.trans (congrArg some (by kernel_rfl))
  f333 := Try.func42.trans (congrArg some (by kernel_rfl))
  f334 := Try.func45.trans (congrArg some (by kernel_rfl))
  f335 := Try.func46.trans (congrArg some (by kernel_rfl))
  f336 := Try.func47.trans (congrArg some (by kernel_rfl))
  f344 := Try.func48.trans (congrArg some (by kernel_rfl))
  t0 := Try.underlying0
  a0 := Try.isAgg0
  z0 := Try.sizeOf0
  v0 := Try.zeroValue0
  t3 := Try.underlying3
  a3 := Try.isAgg3
  z3 := Try.sizeOf3
  v3 := Try.zeroValue3
  t4 := Try.underlying4
  a4 := Try.isAgg4
  z4 := Try.sizeOf4
  v4 := Try.zeroValue4
  t5 := Try.underlying5
  a5 := Try.isAgg5
  z5 := Try.sizeOf5
  v5 := Try.zeroValue5
  t9 := Try.underlying9
  a9 := Try.isAgg9
  z9 := Try.sizeOf9
  v9 := Try.zeroValue9
  t31 := Try.underlying30
  a31 := Try.isAgg30
  z31 := Try.sizeOf30
  v31 := Try.zeroValue30
  t46 := Try.underlying58
  a46 := Try.isAgg58
  z46 := Try.sizeOf58
  v46 := Try.zeroValue58
  t51 := Try.underlying29
  a51 := Try.isAgg29
  z51 := Try.sizeOf29
  v51 := Try.zeroValue29
  t53 := Try.underlying71
  a53 := Try.isAgg71
  z53 := Try.sizeOf71
  v53 := Try.zeroValue71
  t131 := Try.underlying67
  a131 := Try.isAgg67
  z131 := Try.sizeOf67
  v131 := Try.zeroValue67
  t182 := Try.underlying61
  a182 := Try.isAgg61
  z182 := Try.sizeOf61
  v182 := Try.zeroValue61
  t183 := Try.underlying62
  a183 := Try.isAgg62
  z183 := Try.sizeOf62
  v183 := Try.zeroValue62
  t218 := Try.underlying72
  a218 := Try.isAgg72
  z218 := Try.sizeOf72
  v218 := Try.zeroValue72
  t222 := Try.underlying76
  a222 := Try.isAgg76
  z222 := Try.sizeOf76
  v222 := Try.zeroValue76
  t228 := Try.underlying78
  a228 := Try.isAgg78
  z228 := Try.sizeOf78
  v228 := Try.zeroValue78
  t229 := Try.underlying79
  a229 := Try.isAgg79
  z229 := Try.sizeOf79
  v229 := Try.zeroValue79 }
open Go.Sort Go.RowKit in
theorem Try.slices_Sort_string (blk off cap : Nat) (ss : List (List UInt8)) (w : World) (hH : Holds encStr w blk off ss.toArray) (hblk : blk < w.heap.size) (hsz : ss.length < 4611686018427387904) :
    Calls Try.prog 23 #[.slice (some ⟨blk, off, none⟩) ss.length cap] w fun e w' =>
      e = .returned (.tuple #[]) ∧ ∃ n os, w' = grow (putRow encStr (Sort.ahead w n) blk off (ss.mergeSort fun x y => decide (x ≤ y)).toArray) os := Any.slices_Sort_string Try.lays190 blk off cap ss w hH hblk hsz
def Try.lays109_ren : Go.Shelf.Ren := ⟨fun | 109 => 25 | n => n, fun | 31 => 30 | 9 => 9 | 3 => 3 | 0 => 0 | 4 => 4 | n => n, fun | n => n⟩
theorem Try.lays109 : Go.Proofs.Lays.n109 Try.prog Try.lays109_ren := {
  mixed := by kernel_rfl
  f109 := Try.func25.trans (congrArg some (by kernel_rfl))
  t0 := Try.underlying0
  a0 := Try.isAgg0
  z0 := Try.sizeOf0
  v0 := Try.zeroValue0
  t3 := Try.underlying3
  a3 := Try.isAgg3
  z3 := Try.sizeOf3
  v3 := Try.zeroValue3
  t4 := Try.underlying4
  a4 := Try.isAgg4
  z4 := Try.sizeOf4
  v4 := Try.zeroValue4
  t9 := Try.underlying9
  a9 := Try.isAgg9
  z9 := Try.sizeOf9
  v9 := Try.zeroValue9
  t31 := Try.underlying30
  a31 := Try.isAgg30
  z31 := Try.sizeOf30
  v31 := Try.zeroValue30 }
open Go.Lib in
/-- slices.Index at []string: "Index returns the index of the first occurrence of v in s, or -1 if not present.": IT RETURNS 'Lib.idxOfS (the elements) v'; the world is as it was. 'zs': what the cells behind the slice's address hold (its spare capacity too, if you have it); 'zs.take n': its elements. (LAID: no walk: one application.) -/
theorem Try.slices_Index_string (b off n c : Nat) (zs : List ByteArray) (x : ByteArray) (w : World) (hz : n ≤ zs.length) (hbig : n ≤ 9223372036854775807) (hc : ∀ j, j < zs.length → w.cell? ⟨b, off + j, none⟩ = some (.string (zs.getD j ByteArray.empty))) :
    Calls Try.prog 25 #[.slice (some ⟨b, off, none⟩) n c, .string x] w fun e w' => e = .returned (.int .i64 (Lib.idxOfS (zs.take n) x)) ∧ w' = w := Any.slices_Index_string Try.lays109 b off n c zs x w hz hbig hc
open Go.Lib in
/-- The same at a slice of length 0, a nil one too: no cell is known, none is asked for. (LAID: no walk: one application.) -/
theorem Try.slices_Index_string_empty (a : Option Addr) (c : Nat) (x : ByteArray) (w : World) :
    Calls Try.prog 25 #[.slice a 0 c, .string x] w fun e w' => e = .returned (.int .i64 (Lib.idxOfS [] x)) ∧ w' = w := Any.slices_Index_string_empty Try.lays109 a c x w
def Try.lays110_ren : Go.Shelf.Ren := ⟨fun | 110 => 18 | 109 => 25 | n => n, fun | 31 => 30 | 9 => 9 | 4 => 4 | 3 => 3 | 0 => 0 | n => n, fun | n => n⟩
theorem Try.lays110 : Go.Proofs.Lays.n110 Try.prog Try.lays110_ren := {
  mixed := by kernel_rfl
  f109 := Try.func25.trans (congrArg some (by kernel_rfl))
  f110 := Try.func18.trans (congrArg some (by kernel_rfl))
  t0 := Try.underlying0
  a0 := Try.isAgg0
  z0 := Try.sizeOf0
  v0 := Try.zeroValue0
  t3 := Try.underlying3
  a3 := Try.isAgg3
  z3 := Try.sizeOf3
  v3 := Try.zeroValue3
  t4 := Try.underlying4
  a4 := Try.isAgg4
  z4 := Try.sizeOf4
  v4 := Try.zeroValue4
  t9 := Try.underlying9
  a9 := Try.isAgg9
  z9 := Try.sizeOf9
  v9 := Try.zeroValue9
  t31 := Try.underlying30
  a31 := Try.isAgg30
  z31 := Try.sizeOf30
  v31 := Try.zeroValue30 }
open Go.Lib in
/-- slices.Contains at []string: "Contains reports whether v is present in s.": IT RETURNS 'Lib.containsS (the elements) v', which is true just where v is among them ('Lib.containsS_iff'); the world is as it was. ITS CALLEE slices.Index IS MET BY ITS OWN CONTRACT OFF THE SHELF (lay that first): no loop is walked here. (LAID: no walk: one application.) -/
theorem Try.slices_Contains_string (b off n c : Nat) (zs : List ByteArray) (x : ByteArray) (w : World) (hz : n ≤ zs.length) (hbig : n ≤ 9223372036854775807) (hc : ∀ j, j < zs.length → w.cell? ⟨b, off + j, none⟩ = some (.string (zs.getD j ByteArray.empty))) :
    Calls Try.prog 18 #[.slice (some ⟨b, off, none⟩) n c, .string x] w fun e w' => e = .returned (.bool (Lib.containsS (zs.take n) x)) ∧ w' = w := Any.slices_Contains_string Try.lays110 b off n c zs x w hz hbig hc
open Go.Lib in
/-- The same at a slice of length 0, a nil one too. (LAID: no walk: one application.) -/
theorem Try.slices_Contains_string_empty (a : Option Addr) (c : Nat) (x : ByteArray) (w : World) :
    Calls Try.prog 18 #[.slice a 0 c, .string x] w fun e w' => e = .returned (.bool false) ∧ w' = w := Any.slices_Contains_string_empty Try.lays110 a c x w
def Try.lays113_ren : Go.Shelf.Ren := ⟨fun | 113 => 21 | n => n, fun | 28 => 25 | 3 => 3 | 4 => 4 | 9 => 9 | 20 => 20 | 0 => 0 | n => n, fun | n => n⟩
theorem Try.lays113 : Go.Proofs.Lays.n113 Try.prog Try.lays113_ren := {
  mixed := by kernel_rfl
  f113 := Try.func21.trans (congrArg some (by kernel_rfl))
  t0 := Try.underlying0
  a0 := Try.isAgg0
  z0 := Try.sizeOf0
  v0 := Try.zeroValue0
  t3 := Try.underlying3
  a3 := Try.isAgg3
  z3 := Try.sizeOf3
  v3 := Try.zeroValue3
  t4 := Try.underlying4
  a4 := Try.isAgg4
  z4 := Try.sizeOf4
  v4 := Try.zeroValue4
  t9 := Try.underlying9
  a9 := Try.isAgg9
  z9 := Try.sizeOf9
  v9 := Try.zeroValue9
  t20 := Try.underlying20
  a20 := Try.isAgg20
  z20 := Try.sizeOf20
  v20 := Try.zeroValue20
  t28 := Try.underlying25
  a28 := Try.isAgg25
  z28 := Try.sizeOf25
  v28 := Try.zeroValue25 }
open Go.Lib in
/-- slices.Max at []int: "Max returns the maximal value in x. It panics if x is empty.": OF A SLICE THAT IS NOT EMPTY IT RETURNS 'Lib.maxOf (the elements)'; the world is as it was. (Of an empty one it panics: no contract here.) (LAID: no walk: one application.) -/
theorem Try.slices_Max_int (b off n c : Nat) (zs : List Int) (w : World) (hn : 0 < n) (hz : n ≤ zs.length) (hbig : n ≤ 9223372036854775807) (hc : ∀ j, j < zs.length → w.cell? ⟨b, off + j, none⟩ = some (.int .i64 (zs.getD j 0))) :
    Calls Try.prog 21 #[.slice (some ⟨b, off, none⟩) n c] w fun e w' => e = .returned (.int .i64 (Lib.maxOf (zs.take n))) ∧ w' = w := Any.slices_Max_int Try.lays113 b off n c zs w hn hz hbig hc
def Try.laysNm216_ren : Go.Shelf.Ren := ⟨fun | 16 => 22 | n => n, fun | 24 => 30 | 9 => 9 | 4 => 4 | n => n, fun | n => n⟩
theorem Try.laysNm216 : Go.Proofs.Lays2.n16 Try.prog Try.laysNm216_ren := {
  mixed := by kernel_rfl
  f16 := Try.func22.trans (congrArg some (by kernel_rfl))
  t4 := Try.underlying4
  a4 := Try.isAgg4
  z4 := Try.sizeOf4
  v4 := Try.zeroValue4
  t9 := Try.underlying9
  a9 := Try.isAgg9
  z9 := Try.sizeOf9
  v9 := Try.zeroValue9
  t24 := Try.underlying30
  a24 := Try.isAgg30
  z24 := Try.sizeOf30
  v24 := Try.zeroValue30
  i9 := by kernel_rfl }
open Go.RowKit Go.Lib in
/-- slices.Clone at []string: "Clone returns a copy of the slice. The elements are copied using assignment, so this is a shallow clone. The result may have additional unused capacity. The result preserves the nilness of s.": OF A SLICE THAT IS NOT nil IT RETURNS A SLICE THAT IS NOT nil, OF THE SAME ELEMENTS, IN MEMORY OF THE CALL's OWN: in the how-to's words (6f): 'w'.ownsRow B e 1 v' n cells': v' begins at the head of a row among the blocks from B on (B: the heap's size at the call), not frozen, whose first cells are the elements · 'Below B w w'': below B all is as it was. The capacity is whatever the run-time gives. 'zs': what the cells behind the slice's address hold; 'zs.take n': its elements. (LAID: no walk: one application.) -/
theorem Try.slices_Clone_string (b off n c : Nat) (zs : List ByteArray) (w : World) (hz : n ≤ zs.length) (hbig : n * 16 ≤ 140737488355328) (hc : ∀ j, j < zs.length → w.cell? ⟨b, off + j, none⟩ = some (.string (zs.getD j ByteArray.empty))) :
    Calls Try.prog 22 #[.slice (some ⟨b, off, none⟩) n c] w fun e w' => ∃ v', e = .returned v' ∧ w'.ownsRow w.heap.size 9 1 v' n ((zs.take n).map (Value.string)) ∧ v' ≠ .slice none 0 0 ∧ Below w.heap.size w w' := Any.slices_Clone_string Try.laysNm216 b off n c zs w hz hbig hc
open Go.RowKit Go.Lib in
/-- The same at nil: nil comes back; the world is as it was. (LAID: no walk: one application.) -/
theorem Try.slices_Clone_string_nil (n c : Nat) (w : World) :
    Calls Try.prog 22 #[.slice none n c] w fun e w' => e = .returned (.slice none 0 0) ∧ w' = w := Any.slices_Clone_string_nil Try.laysNm216 n c w
open Go.RowKit Go.Lib in
/-- The same at a slice of length 0 that is not nil, WHATEVER ITS ADDRESS (no cell is asked for): a slice that is not nil and owns nothing comes back. (LAID: no walk: one application.) -/
theorem Try.slices_Clone_string_zero (a : Addr) (c : Nat) (w : World) :
    Calls Try.prog 22 #[.slice (some a) 0 c] w fun e w' => ∃ v', e = .returned v' ∧ w'.ownsRow w.heap.size 9 1 v' 0 [] ∧ v' ≠ .slice none 0 0 ∧ Below w.heap.size w w' := Any.slices_Clone_string_zero Try.laysNm216 a c w
def Try.lays194_ren : Go.Shelf.Ren := ⟨fun | 194 => 24 | n => n, fun | 31 => 30 | 9 => 9 | 3 => 3 | 4 => 4 | 0 => 0 | n => n, fun | n => n⟩
theorem Try.lays194 : Go.Proofs.Lays.n194 Try.prog Try.lays194_ren := {
  mixed := by kernel_rfl
  f194 := Try.func24.trans (congrArg some (by kernel_rfl))
  t0 := Try.underlying0
  a0 := Try.isAgg0
  z0 := Try.sizeOf0
  v0 := Try.zeroValue0
  t3 := Try.underlying3
  a3 := Try.isAgg3
  z3 := Try.sizeOf3
  v3 := Try.zeroValue3
  t4 := Try.underlying4
  a4 := Try.isAgg4
  z4 := Try.sizeOf4
  v4 := Try.zeroValue4
  t9 := Try.underlying9
  a9 := Try.isAgg9
  z9 := Try.sizeOf9
  v9 := Try.zeroValue9
  t31 := Try.underlying30
  a31 := Try.isAgg30
  z31 := Try.sizeOf30
  v31 := Try.zeroValue30 }
open Go.RowKit Go.Lib Go.Sort in
/-- slices.Compact at []string, over an array: the library's two loops are walked. (LAID: no walk: one application.) -/
theorem Try.slices_Compact_string_arr (blk off cap : Nat) (d : Array (List UInt8)) (w : World) (hH : Holds encStr w blk off d) (hsz : d.size ≤ 9223372036854775807) (hcap : d.size ≤ cap) :
    Calls Try.prog 24 #[.slice (some ⟨blk, off, none⟩) d.size cap] w fun e w' => e = .returned (.slice (some ⟨blk, off, none⟩) (compactUpTo d d.size).length cap) ∧ ∃ q, w' = putRow encStr (Sort.ahead w q) blk off (compactUpTo d d.size ++ List.replicate (d.size - (compactUpTo d d.size).length) []).toArray := Any.slices_Compact_string_arr Try.lays194 blk off cap d w hH hsz hcap
open Go.RowKit Go.Lib Go.Sort in
/-- slices.Compact at []string: "Compact replaces consecutive runs of equal elements with a single copy. This is like the uniq command found on Unix. Compact modifies the contents of the slice s and returns the modified slice, which may have a smaller length. Compact zeroes the elements between the new length and the original length. The result preserves the nilness of s.": IT RETURNS THE SLICE CUT TO 'Lib.compact zs'; ITS CELLS HOLD 'Lib.compact zs', THEN ZERO VALUES up to the old length; all else is as it was, but for the count of draws. IN THE WORDS OF slices.Sort's CONTRACT ('Holds', 'putRow'): so the everyday 'slices.Sort(xs); xs = slices.Compact(xs)' goes from the one contract to the other. It asks 'zs.length ≤ cap' (every slice's: the reslicing 's[:k]' looks at it). Length 0, nil: '.._empty'. (LAID: no walk: one application.) -/
theorem Try.slices_Compact_string (blk off cap : Nat) (zs : List (List UInt8)) (w : World) (hH : Holds encStr w blk off zs.toArray) (hsz : zs.length ≤ 9223372036854775807) (hcap : zs.length ≤ cap) :
    Calls Try.prog 24 #[.slice (some ⟨blk, off, none⟩) zs.length cap] w fun e w' => e = .returned (.slice (some ⟨blk, off, none⟩) (Lib.compact zs).length cap) ∧ ∃ q, w' = putRow encStr (Sort.ahead w q) blk off (Lib.compact zs ++ List.replicate (zs.length - (Lib.compact zs).length) []).toArray := Any.slices_Compact_string Try.lays194 blk off cap zs w hH hsz hcap
open Go.RowKit Go.Lib Go.Sort in
/-- The same at a slice of length 0, a nil one too: it comes back as it is. (LAID: no walk: one application.) -/
theorem Try.slices_Compact_string_empty (a : Option Addr) (cap : Nat) (w : World) :
    Calls Try.prog 24 #[.slice a 0 cap] w fun e w' => e = .returned (.slice a 0 cap) ∧ w' = w := Any.slices_Compact_string_empty Try.lays194 a cap w
open Go.RowKit Go.Lib Go.Sort in
/-- slices.Compact at []string, of an argument. (LAID: no walk: one application.) -/
theorem Try.slices_Compact_string_cells (b off n c : Nat) (Sx : Nat → ByteArray) (w : World) (hbig : n ≤ 9223372036854775807) (hcap : n ≤ c) (hc : ∀ i, i < n → w.cell? ⟨b, off + i, none⟩ = some (.string (Sx i))) (hf : ∀ j, j < n → w.frozen? ⟨b, off + j, none⟩ = false) :
    Calls Try.prog 24 #[.slice (some ⟨b, off, none⟩) n c] w fun e w' => e = .returned (.slice (some ⟨b, off, none⟩) (Lib.compact (Lib.strsOf Sx n)).length c) ∧ ∃ q, w' = (w.drewN q).setCells b off ((Lib.compact (Lib.strsOf Sx n) ++ List.replicate (n - (Lib.compact (Lib.strsOf Sx n)).length) []).map encStr) := Any.slices_Compact_string_cells Try.lays194 b off n c Sx w hbig hcap hc hf
open Go.RowKit Go.Sort in
/-- .. and plain. (LAID: no walk: one application.) -/
theorem Try.slices_Sort_string_none (p : Option Addr) (cap : Nat) (w : World) :
    Calls Try.prog 23 #[.slice p 0 cap] w fun e w' => e = .returned (.tuple #[]) ∧ w' = w := Any.slices_Sort_string_none Try.lays190 p cap w
def Try.laysSlE041_f22_ren : Go.Shelf.Ren := ⟨fun | 41 => 22 | n => n, fun | 22 => 30 | 23 => 9 | 4 => 4 | n => n, fun | n => n⟩
theorem Try.laysSlE041_f22 : Go.Proofs.SlLaysE0.n41 Try.prog Try.laysSlE041_f22_ren := {
  mixed := by kernel_rfl
  f41 := ⟨Try.f22.name, by decide, Try.func22.trans (congrArg some (by kernel_rfl))⟩
  t4 := Try.underlying4
  a4 := Try.isAgg4
  z4 := Try.sizeOf4
  v4 := Try.zeroValue4
  t22 := Try.underlying30
  a22 := Try.isAgg30
  z22 := Try.sizeOf30
  v22 := Try.zeroValue30 }
open Go.RowKit Go.Lib in
/-- slices.Clone: "Clone returns a copy of the slice. The elements are copied using assignment, so this is a shallow clone. The result may have additional unused capacity. The result preserves the nilness of s.": OF A SLICE THAT IS NOT nil IT RETURNS A SLICE THAT IS NOT nil, OF THE SAME CELLS, IN MEMORY OF THE CALL's OWN ('ownsRow': the how-to's 6f); below the heap's size at the call all is as it was. (LAID AT THE INSTANCE 'slices.Clone[[]string,string]': no walk: one application.) -/
theorem Try.slices_Clone (i0 : TypeInfo) (z : Value) (size bytes : Nat) (hi : Try.prog.info? 9 = some i0) (hz0 : i0.zero = some z) (hz1 : i0.size = size) (hz2 : i0.bytes = bytes) (hzs : z.cells.size = size) (hsz : 0 < size) (z23 : ∀ w, (Go.sizeOf 9).run Try.prog w = .ok size w) (b off n c : Nat) (news : List Value) (w : World) (hl : news.length = n * size) (hn : n ≤ maxLen) (hbig : n * bytes ≤ 140737488355328) (hc : ∀ j u, news[j]? = some u → w.cell? ⟨b, off + j, none⟩ = some u) (h1 : ∀ u ∈ news, u.oneCell' = true) :
    Calls Try.prog 22 #[.slice (some ⟨b, off, none⟩) n c] w fun e w' => ∃ v', e = .returned v' ∧ w'.ownsRow w.heap.size 9 size v' n news ∧ v' ≠ .slice none 0 0 ∧ Below w.heap.size w w' := AnyE.slices_Clone Try.laysSlE041_f22 i0 z size bytes hi hz0 hz1 hz2 hzs hsz z23 b off n c news w hl hn hbig hc h1
open Go.RowKit Go.Lib in
/-- The same at nil: nil comes back; the world is as it was; nothing is asked of the element's type. (LAID AT THE INSTANCE 'slices.Clone[[]string,string]': no walk: one application.) -/
theorem Try.slices_Clone_nil (n c : Nat) (w : World) :
    Calls Try.prog 22 #[.slice none n c] w fun e w' => e = .returned (.slice none 0 0) ∧ w' = w := AnyE.slices_Clone_nil Try.laysSlE041_f22 n c w
end Go.Proofs
