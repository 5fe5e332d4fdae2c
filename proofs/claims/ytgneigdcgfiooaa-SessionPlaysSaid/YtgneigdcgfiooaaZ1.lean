/- Texts put together (1 of 9): Base, Own, MapF, Bytes, Str, Region, Sess, Sess2, Sess3, RangeF. -/
import Derived.WalkKit
import Derived.WalkSpells
import Derived.WalkLawsBesides
import Derived.Lib.Hide
import Derived.Laws.OwnMore
import Derived.MapKept
import Derived.Test.YtgneigdcgfiooaaProg
import Derived.Lib.AppendStr
import Derived.Laws.IdiomStrings
import Derived.Laws.BytesArg
import Derived.Deep.RegionHeld
import Derived.Deep.Cut
import Derived.Carry
import Derived.Handy
import Derived.Maps.OwnOps
import Derived.Maps.OwnSet
import Derived.Maps.RangeRun
import Derived.Laws.IdiomRangeMap
/- Plain words shared by this seat's texts: byte slices that are seen, worlds that differ in a few blocks alone, small facts on numbers. No program in sight. -/
namespace Go.Proofs.Ytgneigdcgfiooaa
open Go Go.RowKit

theorem ret_int {k : IntKind} {a b : Int} (h : a = b) : Ending.returned (.int k a) = .returned (.int k b) := by rw [h]

/-- The slice at 'ao' shows the bytes l. -/
def Sees (w : World) (ao : Option Addr) (l : List UInt8) : Prop :=
  ∀ j (h : j < l.length), ∃ b off, ao = some ⟨b, off, none⟩ ∧ w.cell? ⟨b, off + j, none⟩ = some (.int .u8 ((l[j].toNat : Nat) : Int))

theorem Sees.below {w w' : World} {ao : Option Addr} {l : List UInt8} (h : Sees w ao l) (hb : Below w.heap.size w w') : Sees w' ao l := by
  intro j hj
  obtain ⟨b, off, h1, h2⟩ := h j hj
  exact ⟨b, off, h1, by rw [hb.cell (World.block_lt_of_cell? w _ h2)]; exact h2⟩

theorem Sees.nil (w : World) (ao : Option Addr) : Sees w ao [] := fun j hj => absurd hj (by simp)

theorem Sees.at' {w : World} {ao : Option Addr} {l : List UInt8} (h : Sees w ao l) {j : Nat} (hj : j < l.length) :
    ∃ b off, ao = some ⟨b, off, none⟩ ∧ w.cell? ⟨b, off + j, none⟩ = some (.int .u8 ((l[j].toNat : Nat) : Int)) := h j hj

/-- The first k bytes. -/
theorem Sees.take {w : World} {ao : Option Addr} {l : List UInt8} (h : Sees w ao l) (k : Nat) : Sees w ao (l.take k) := by
  intro j hj
  have hj' : j < l.length := by simp only [List.length_take] at hj; omega
  obtain ⟨b, off, h1, h2⟩ := h j hj'
  exact ⟨b, off, h1, by rw [h2, List.getElem_take]⟩


/-- From w to w' at most the blocks in S have turned, of those that were there; the streams are as they were. -/
structure Mod (S : List Nat) (w w' : World) : Prop where
  os : w'.os = w.os
  tape : w'.tape = w.tape
  output : w'.output = w.output
  size : w.heap.size ≤ w'.heap.size
  block : ∀ k, k < w.heap.size → k ∉ S → w'.heap[k]? = w.heap[k]?

theorem Mod.refl (S : List Nat) (w : World) : Mod S w w := ⟨rfl, rfl, rfl, Nat.le_refl _, fun _ _ _ => rfl⟩
theorem Mod.weaken {S S' : List Nat} {w w' : World} (h : Mod S w w') (hs : ∀ k, k ∈ S → k ∈ S') : Mod S' w w' :=
  ⟨h.os, h.tape, h.output, h.size, fun k hk hn => h.block k hk (fun hm => hn (hs k hm))⟩
theorem Mod.nil {S : List Nat} {w w' : World} (h : Mod [] w w') : Mod S w w' := h.weaken (by simp)
/-- Two steps: what the second one turns is in S, or was not there. -/
theorem Mod.trans {S T : List Nat} {a b c : World} (h : Mod S a b) (k : Mod T b c) (ht : ∀ i, i ∈ T → i < a.heap.size → i ∈ S) : Mod S a c :=
  ⟨k.os.trans h.os, k.tape.trans h.tape, k.output.trans h.output, Nat.le_trans h.size k.size,
   fun i hi hn => (k.block i (Nat.lt_of_lt_of_le hi h.size) (fun hm => hn (ht i hm hi))).trans (h.block i hi hn)⟩
theorem Mod.trans' {S : List Nat} {a b c : World} (h : Mod S a b) (k : Mod S b c) : Mod S a c := h.trans k (fun _ hi _ => hi)
theorem Mod.trans0 {S : List Nat} {a b c : World} (h : Mod S a b) (k : Mod [] b c) : Mod S a c := h.trans k (by simp)
theorem Mod.drew (S : List Nat) (w : World) : Mod S w w.drew := ⟨rfl, rfl, rfl, Nat.le_refl _, fun _ _ _ => rfl⟩
theorem Mod.alloc (S : List Nat) (w : World) (o : Obj) : Mod S w (w.alloc o) := ⟨rfl, rfl, rfl, by simp, fun k hk _ => Below.heap_alloc w o k hk⟩
theorem Mod.setCell {S : List Nat} (w : World) (a : Addr) (u : Value) (h : a.block ∈ S) : Mod S w (w.setCell a u) :=
  ⟨rfl, rfl, rfl, by simp [World.setCell], fun k _ hn => Below.heap_setCell w a u k (fun e => hn (e ▸ h))⟩
theorem Mod.setCell' {S : List Nat} (w0 w : World) (a : Addr) (u : Value) (h0 : Mod S w0 w) (h : a.block < w0.heap.size → a.block ∈ S) : Mod S w0 (w.setCell a u) :=
  h0.trans (Mod.setCell (S := [a.block]) w a u (by simp)) (by intro i hi hl; simp only [List.mem_singleton] at hi; subst hi; exact h hl)
theorem Mod.get {S : List Nat} {w w' : World} (h : Mod S w w') {b : Nat} {o : Obj} (hb : w.heap[b]? = some o) (hn : b ∉ S) : w'.heap[b]? = some o := by
  rw [h.block b (lt_of_block hb) hn]; exact hb
theorem Mod.cell {S : List Nat} {w w' : World} (h : Mod S w w') {p : Addr} {v : Value} (hc : w.cell? p = some v) (hn : p.block ∉ S) : w'.cell? p = some v := by
  rw [World.cell?_of_block (h.block p.block (World.block_lt_of_cell? w _ hc) hn)]; exact hc
theorem Mod.below {S : List Nat} {w w' : World} {B : Nat} (h : Mod S w w') (hB : B ≤ w.heap.size) (hs : ∀ k, k ∈ S → B ≤ k) : Below B w w' :=
  ⟨h.os, h.tape, h.output, h.size, fun k hk => h.block k (by omega) (fun hm => by have := hs k hm; omega)⟩
theorem Mod.below0 {w w' : World} (h : Mod [] w w') : Below w.heap.size w w' := h.below (Nat.le_refl _) (by simp)
theorem Mod.ofBelow {w w' : World} (h : Below w.heap.size w w') : Mod [] w w' := ⟨h.os, h.tape, h.output, h.size, fun k hk _ => h.block k hk⟩
theorem Mod.grown {w w' : World} {row : Option Nat} (h : w.grownBy w' row) : Mod row.toList w w' :=
  ⟨h.os, h.tape, h.output, h.size, fun k hk hn => h.block k hk (fun e => hn (by rw [← e]; simp))⟩
theorem Mod.lt {S : List Nat} {w w' : World} (h : Mod S w w') {b : Nat} (hb : b < w.heap.size) : b < w'.heap.size := Nat.lt_of_lt_of_le hb h.size
/-- A block set anew. -/
theorem heap_setCell_same {w : World} {b i : Nat} {c : Array Value} {t : TypeId} {fz : Nat × Nat} (h : w.heap[b]? = some (.cells c t fz)) (u : Value) :
    (w.setCell ⟨b, i, none⟩ u).heap[b]? = some (.cells (c.setIfInBounds i u) t fz) := by
  have hlt := lt_of_block h
  have h' : w.heap[b] = .cells c t fz := by simpa [Array.getElem?_eq_getElem hlt] using h
  show (w.heap.modify b _)[b]? = _
  rw [Array.getElem?_eq_getElem (by simpa using hlt), Array.getElem_modify_self, h']
  rfl
theorem cell_of_block {w : World} {b i : Nat} {c : Array Value} {t : TypeId} {fz : Nat × Nat} (h : w.heap[b]? = some (.cells c t fz)) : w.cell? ⟨b, i, none⟩ = c[i]? := by simp [World.cell?, h]
theorem free_of_block {w : World} {b i : Nat} {c : Array Value} {t : TypeId} (h : w.heap[b]? = some (.cells c t (0, 0))) : w.frozen? ⟨b, i, none⟩ = false := by simp [World.frozen?, h]

theorem Sees.mod {S : List Nat} {w w' : World} {ao : Option Addr} {l : List UInt8} (h : Sees w ao l) (hm : Mod S w w') (hn : ∀ b off, ao = some ⟨b, off, none⟩ → b ∉ S) : Sees w' ao l := by
  intro j hj
  obtain ⟨b, off, h1, h2⟩ := h j hj
  exact ⟨b, off, h1, hm.cell h2 (hn b off h1)⟩
theorem Sees.mod0 {w w' : World} {ao : Option Addr} {l : List UInt8} (h : Sees w ao l) (hm : Mod [] w w') : Sees w' ao l := h.mod hm (by simp)

/-- Cells in the first blocks, carried on. -/
theorem cells_below {w w' : World} {B : Nat} (hb : Below B w w') {p : Addr} {v : Value} (hp : p.block < B) (h : w.cell? p = some v) : w'.cell? p = some v := by
  rw [hb.cell hp]; exact h

theorem take_snoc {α : Type} (l : List α) (k : Nat) (h : k < l.length) : l.take (k + 1) = l.take k ++ [l[k]] := by
  rw [List.take_succ_eq_append_getElem h]

theorem toNat_lt (x : UInt8) : ((x.toNat : Nat) : Int) < 256 := by have := x.toNat_lt; omega

theorem bits32_range (op : BinOp) (x y : Int) : 0 ≤ bits op .u32 x y ∧ bits op .u32 x y < 4294967296 := by
  unfold bits
  simp only [IntKind.wrap_u32']
  omega

end Go.Proofs.Ytgneigdcgfiooaa
/- Slices of the call's own: what append does to one, from a source of whatever kind. Over any program. -/
namespace Go.Proofs.Ytgneigdcgfiooaa
open Go Go.RowKit

/-- The block that a slice's address names. -/
def blk : Option Addr → List Nat
  | some a => [a.block]
  | none => []

/-- A slice of n elements (sz cells each, of type e) in a block of its own, from the block's head; its cells are xs. -/
def Own (w : World) (e : TypeId) (sz : Nat) (ao : Option Addr) (n cap : Nat) (xs : List Value) : Prop :=
  xs.length = n * sz ∧ ((ao = none ∧ n = 0 ∧ cap = 0) ∨
    ∃ g cur fz, ao = some ⟨g, 0, none⟩ ∧ w.heap[g]? = some (.cells cur e fz) ∧ (fz = (0, 0) ∨ cur.size ≤ fz.1) ∧ n ≤ cap ∧ cap ≤ maxLen ∧ cap * sz ≤ cur.size ∧ cur.toList.take (n * sz) = xs)

theorem Own.nil0 (w : World) (e : TypeId) (sz : Nat) : Own w e sz none 0 0 [] := ⟨by simp, .inl ⟨rfl, rfl, rfl⟩⟩

theorem Own.mod {S : List Nat} {w w' : World} {e : TypeId} {sz : Nat} {ao : Option Addr} {n cap : Nat} {xs : List Value} (h : Own w e sz ao n cap xs) (hm : Mod S w w') (hn : ∀ k, k ∈ blk ao → k ∉ S) : Own w' e sz ao n cap xs := by
  refine ⟨h.1, ?_⟩
  rcases h.2 with h | ⟨g, cur, fz, rfl, hg, r⟩
  · exact .inl h
  · exact .inr ⟨g, cur, fz, rfl, hm.get hg (hn g (by simp [blk])), r⟩
theorem Own.mod0 {w w' : World} {e : TypeId} {sz : Nat} {ao : Option Addr} {n cap : Nat} {xs : List Value} (h : Own w e sz ao n cap xs) (hm : Mod [] w w') : Own w' e sz ao n cap xs := h.mod hm (by simp)
theorem Own.lt {w : World} {e : TypeId} {sz : Nat} {ao : Option Addr} {n cap : Nat} {xs : List Value} (h : Own w e sz ao n cap xs) : ∀ k, k ∈ blk ao → k < w.heap.size := by
  intro k hk
  rcases h.2 with ⟨rfl, _⟩ | ⟨g, cur, fz, rfl, hg, _⟩
  · simp [blk] at hk
  · simp only [blk, List.mem_singleton] at hk; subst hk; exact lt_of_block hg
theorem Own.cell {w : World} {e : TypeId} {sz : Nat} {ao : Option Addr} {n cap : Nat} {xs : List Value} (h : Own w e sz ao n cap xs) {j : Nat} {u : Value} (hj : xs[j]? = some u) :
    ∃ g, ao = some ⟨g, 0, none⟩ ∧ w.cell? ⟨g, j, none⟩ = some u ∧ w.frozen? ⟨g, j, none⟩ = false := by
  rcases h.2 with ⟨rfl, rfl, _⟩ | ⟨g, cur, fz, rfl, hg, hz, hn, hm, hs, ht⟩
  · have h0 : xs = [] := List.eq_nil_of_length_eq_zero (by rw [h.1]; simp)
    subst h0; simp at hj
  · rw [← ht, List.getElem?_take] at hj
    split at hj
    · have hj' : cur[j]? = some u := by simpa using hj
      refine ⟨g, rfl, by rw [cell_of_block hg]; exact hj', ?_⟩
      have hlt := (Array.getElem?_eq_some_iff.1 hj').1
      rcases hz with rfl | hz
      · exact free_of_block hg
      · simp only [World.frozen?, hg]
        have : ¬ fz.1 ≤ j := by omega
        simp [this]
    · cases hj
/-- As kit's word has it. -/
theorem Own.le {w : World} {e : TypeId} {sz : Nat} {ao : Option Addr} {n cap : Nat} {xs : List Value} (h : Own w e sz ao n cap xs) : n ≤ cap := by
  rcases h.2 with ⟨_, rfl, rfl⟩ | ⟨g, cur, fz, rfl, hg, hz, hn, _⟩
  · exact Nat.le_refl _
  · exact hn
theorem Own.ne_none {w : World} {e : TypeId} {sz : Nat} {ao : Option Addr} {n cap : Nat} {xs : List Value} (h : Own w e sz ao n cap xs) (h0 : 0 < n) : ∃ g, ao = some ⟨g, 0, none⟩ ∧ g < w.heap.size := by
  rcases h.2 with ⟨_, rfl, _⟩ | ⟨g, cur, fz, rfl, hg, _⟩
  · omega
  · exact ⟨g, rfl, lt_of_block hg⟩

/-- A new row of cells, whole. -/
theorem Own.new {w : World} {g : Nat} {e : TypeId} {sz : Nat} {cur : Array Value} {fz : Nat × Nat} {n : Nat} (hg : w.heap[g]? = some (.cells cur e fz)) (hz : fz = (0, 0) ∨ cur.size ≤ fz.1) (hs : cur.size = n * sz) (hm : n ≤ maxLen) : Own w e sz (some ⟨g, 0, none⟩) n n cur.toList :=
  ⟨by simpa using hs, .inr ⟨g, cur, fz, rfl, hg, hz, Nat.le_refl _, hm, Nat.le_of_eq hs.symm, by rw [← hs]; exact List.take_of_length_le (by simp)⟩⟩

/-- A cell of a row of the call's own is stored. -/
theorem Own.set {w : World} {e : TypeId} {sz g n cap j : Nat} {xs : List Value} (h : Own w e sz (some ⟨g, 0, none⟩) n cap xs) (u : Value) :
    Own (w.setCell ⟨g, j, none⟩ u) e sz (some ⟨g, 0, none⟩) n cap (xs.set j u) := by
  rcases h.2 with ⟨h0, _⟩ | ⟨g', cur, fz, hg, hb, hz, hn, hm, hs, ht⟩
  · cases h0
  · cases hg
    refine ⟨by rw [List.length_set]; exact h.1, .inr ⟨g, cur.setIfInBounds j u, fz, rfl, heap_setCell_same hb u, by simpa using hz, hn, hm, by simpa using hs, ?_⟩⟩
    rw [Array.toList_setIfInBounds, List.take_set, ht]

/-- The new slice lies where the old one lay, or in a new block. -/
def SameOrNew (w w' : World) (ao ao' : Option Addr) : Prop := ao' = ao ∨ ∃ g, ao' = some ⟨g, 0, none⟩ ∧ w.heap.size ≤ g ∧ g < w'.heap.size
theorem SameOrNew.blk {w w' : World} {ao ao' : Option Addr} (h : SameOrNew w w' ao ao') : ∀ k, k ∈ blk ao' → k ∈ blk ao ∨ w.heap.size ≤ k := by
  intro k hk
  rcases h with rfl | ⟨g, rfl, hg, _⟩
  · exact .inl hk
  · simp only [Proofs.Ytgneigdcgfiooaa.blk, List.mem_singleton] at hk; subst hk; exact .inr hg

theorem Mod.transNew {S : List Nat} {a b c : World} {ao ao' : Option Addr} (h : Mod S a b) (k : Mod (blk ao') b c) (n : SameOrNew a b ao ao') (hs : ∀ k, k ∈ blk ao → k ∈ S) : Mod S a c :=
  h.trans k (fun i hi hl => by rcases n.blk i hi with h' | h'; exact hs i h'; omega)

/-- The source shows these cells. -/
def Shows (w : World) (ao : Option Addr) (news : List Value) : Prop := ∀ j u, news[j]? = some u → ∃ ad, ao = some ad ∧ w.cell? (ad.add j) = some u

def u8v (x : UInt8) : Value := .int .u8 ((x.toNat : Nat) : Int)
theorem Sees.shows {w : World} {ao : Option Addr} {l : List UInt8} (h : Sees w ao l) : Shows w ao (l.map u8v) := by
  intro j u hj
  rw [List.getElem?_map] at hj
  cases hl : l[j]? with
  | none => rw [hl] at hj; simp at hj
  | some x =>
    rw [hl] at hj
    obtain ⟨hlt, hx⟩ := List.getElem?_eq_some_iff.1 hl
    obtain ⟨b, off, h1, h2⟩ := h j hlt
    refine ⟨_, h1, ?_⟩
    rw [Addr.add_lit, h2, hx]
    exact hj
theorem Own.shows {w : World} {e : TypeId} {sz : Nat} {ao : Option Addr} {n cap : Nat} {xs : List Value} (h : Own w e sz ao n cap xs) : Shows w ao xs := by
  intro j u hj
  obtain ⟨g, h1, h2, _⟩ := h.cell hj
  exact ⟨_, h1, by rw [Addr.add_lit]; simpa using h2⟩
theorem Own.sees {w : World} {e : TypeId} {ao : Option Addr} {n cap : Nat} {l : List UInt8} (h : Own w e 1 ao n cap (l.map u8v)) : Sees w ao l := by
  intro j hj
  obtain ⟨g, h1, h2, _⟩ := h.cell (j := j) (u := u8v l[j]) (by rw [List.getElem?_map, List.getElem?_eq_getElem hj]; rfl)
  exact ⟨g, 0, h1, by rw [Nat.zero_add]; exact h2⟩
theorem Own.len1 {w : World} {e : TypeId} {ao : Option Addr} {n cap : Nat} {α : Type} {f : α → Value} {l : List α} (h : Own w e 1 ao n cap (l.map f)) : n = l.length := by
  have := h.1; simpa using this.symm
theorem one_u8 : ∀ (l : List UInt8), ∀ u ∈ l.map u8v, u.oneCell' = true := by
  intro l u hu
  obtain ⟨x, _, rfl⟩ := List.mem_map.1 hu
  rfl

section
variable {P : Program} (w : World)
/-- Cells are stored one by one into a row whose mark, if it bears one, lies behind its last cell. -/
theorem run_storeCells_fz (g o : Nat) (t : TypeId) (fz : Nat × Nat) : ∀ (vs : List Value) (i : Nat) (cur : Array Value) (w : World), w.heap[g]? = some (.cells cur t fz) → (fz = (0, 0) ∨ cur.size ≤ fz.1) → o + i + vs.length ≤ cur.size → (∀ v ∈ vs, v.oneCell' = true) →
    (storeCells ⟨g, o, none⟩ vs i).run P w = .ok () (w.setRow g (cur.toList.take (o + i) ++ vs ++ cur.toList.drop (o + i + vs.length)).toArray)
  | [], i, cur, w, hg, _, _, _ => by
    simp only [storeCells, List.append_nil, List.length_nil, Nat.add_zero, List.take_append_drop, Array.toArray_toList]
    rw [setRow_self w g cur t fz hg]
    rfl
  | v :: rest, i, cur, w, hg, hz, hl, h1 => by
    have hi : o + i < cur.size := by simp at hl; omega
    have hcell : w.cell? ⟨g, o + i, none⟩ = some cur[o + i] := by rw [cell_of_block hg]; simp [hi]
    have hfro : w.frozen? ⟨g, o + i, none⟩ = false := by
      rcases hz with rfl | hz
      · exact free_of_block hg
      · simp only [World.frozen?, hg]
        have : ¬ fz.1 ≤ o + i := by omega
        simp [this]
    have hst : (store ((⟨g, o, none⟩ : Addr).add i) v).run P w = .ok () (w.setRow g (cur.setIfInBounds (o + i) v)) := by
      rw [Addr.add_lit, run_store P w _ v _ (h1 v (by simp)), hcell]
      simp [hfro, setCell_eq_setRow w g (o + i) cur t fz v hg]
    have ih := run_storeCells_fz g o t fz rest (i + 1) (cur.setIfInBounds (o + i) v) (w.setRow g (cur.setIfInBounds (o + i) v)) (setRow_heap w g cur _ t _ hg) (by simpa using hz) (by simp at hl ⊢; omega) (fun x hx => h1 x (by simp [hx]))
    simp only [storeCells, Sem.run_bind, hst, Result.andThen_ok, ih, setRow_setRow]
    congr 3
    have e := list_seg_step cur.toList (o + i) v rest (by simp at hl ⊢; omega)
    simpa [Array.toList_setIfInBounds, Nat.add_assoc] using e
theorem run_append_room_fz (t ty e : TypeId) (i : TypeInfo) (ht : P.underlying t = some (.slice e)) (hi : P.info? e = some i)
    (g sLen sCap : Nat) (cur : Array Value) (fz : Nat × Nat) (hg : w.heap[g]? = some (.cells cur e fz)) (hz : fz = (0, 0) ∨ cur.size ≤ fz.1)
    (a : Addr) (m c : Nat) (news : List Value) (hl : news.length = m * i.size) (hnews : ∀ j u, news[j]? = some u → w.cell? (a.add j) = some u) (h1 : ∀ u ∈ news, u.oneCell' = true)
    (hroom : sLen + m ≤ sCap) (hfit : sLen * i.size + news.length ≤ cur.size) :
    (Builtin.append_ #[t, t] ty #[.slice (some ⟨g, 0, none⟩) sLen sCap, .slice (some a) m c]).run P w =
      .ok (.slice (some ⟨g, 0, none⟩) (sLen + m) sCap) (w.setRow g (cur.toList.take (sLen * i.size) ++ news ++ cur.toList.drop (sLen * i.size + news.length)).toArray) := by
  have hf := run_firstCells_some (P := P) w i.size m a m c news hl hnews
  have hst := run_storeCells_fz (P := P) g (sLen * i.size) e fz news 0 cur w hg hz (by simpa using hfit) h1
  simp only [Nat.add_zero] at hst
  simp [Builtin.append_, run_underlying ht, sizeOf, typeInfo, hi, Builtin.lenOf, hroom, hf, Addr.add_lit, hst]
theorem run_append_mine (t ty e : TypeId) (i : TypeInfo) (z : Value) (size bytes : Nat) (ht : P.underlying t = some (.slice e)) (hi : P.info? e = some i) (hz : i.zero = some z)
    (hsize : i.size = size) (hby : i.bytes = bytes) (hzs : z.cells.size = size) (hsz : 0 < size)
    (ao : Option Addr) (n cap : Nat) (xs : List Value) (hown : Own w e size ao n cap xs)
    (so : Option Addr) (m c : Nat) (news : List Value) (hl : news.length = m * size) (hnews : Shows w so news) (h1 : ∀ u ∈ news, u.oneCell' = true)
    (h63 : n + m ≤ maxLen) (hbytes : (n + m) * bytes ≤ 140737488355328) :
    ∃ ao' cap' w', (Builtin.append_ #[t, t] ty #[.slice ao n cap, .slice so m c]).run P w = .ok (.slice ao' (n + m) cap') w' ∧ Own w' e size ao' (n + m) cap' (xs ++ news) ∧ Mod (blk ao) w w' ∧ SameOrNew w w' ao ao' := by
  subst hsize
  subst hby
  have hsmall : n + m ≤ 9223372036854775807 := by simp only [maxLen] at h63; omega
  have hlen : (xs ++ news).length = (n + m) * i.size := by rw [List.length_append, hown.1, hl, Nat.add_mul]
  by_cases hm0 : m = 0
  · subst hm0
    have hn0 : news = [] := List.eq_nil_of_length_eq_zero (by simpa using hl)
    subst hn0
    have hle := hown.le
    refine ⟨ao, cap, w, ?_, by simpa using hown, Mod.refl _ _, .inl rfl⟩
    have hf : (Builtin.firstCells i.size 0 (.slice so 0 c)).run P w = .ok #[] w := by
      cases so with
      | none => exact run_firstCells_none _ _ _ _ _
      | some ad => simpa using run_firstCells_some (P := P) w i.size 0 ad 0 c [] (by simp) (by simp)
    cases ao with
    | none => simp [Builtin.append_, run_underlying ht, sizeOf, typeInfo, hi, Builtin.lenOf, hle, hf]
    | some a => simp [Builtin.append_, run_underlying ht, sizeOf, typeInfo, hi, Builtin.lenOf, hle, hf, storeCells]
  · obtain ⟨ad, rfl⟩ : ∃ ad, so = some ad := by
      have : 0 < news.length := by rw [hl]; exact Nat.mul_pos (by omega) hsz
      obtain ⟨ad, h, _⟩ := hnews 0 news[0] (by rw [List.getElem?_eq_getElem this])
      exact ⟨ad, h⟩
    have hnews' : ∀ j u, news[j]? = some u → w.cell? (ad.add j) = some u := fun j u hj => by
      obtain ⟨ad', h, h2⟩ := hnews j u hj
      cases h; exact h2
    have grown : ∀ (old : Nat), old < n + m →
        Own (w.drew.alloc (.cells (xs.toArray ++ news.toArray ++ Builtin.zeroCells z.cells (grownCap w (n + m) old e - (n + m))) e)) e i.size (some ⟨w.heap.size, 0, none⟩) (n + m) (grownCap w (n + m) old e) (xs ++ news) := by
      intro old ho
      have hge := grownCap_ge w (n + m) old e
      refine ⟨hlen, .inr ⟨w.heap.size, _, (0, 0), rfl, heap_alloc_new w.drew _, .inl rfl, hge, grownCap_le_maxLen w (n + m) old e h63, ?_, ?_⟩⟩
      · simp only [Array.size_append, List.size_toArray, size_zeroCells, hzs, hown.1, hl, ← Nat.add_mul]
        exact Nat.mul_le_mul_right _ (by omega)
      · simp only [Array.toList_append, List.append_assoc]
        rw [← List.append_assoc, ← hlen]
        exact List.take_left
    have hmod : ∀ o : Obj, Mod (blk ao) w (w.drew.alloc o) := fun o => (Mod.drew _ w).trans' (Mod.alloc _ _ o)
    have hsn : ∀ o : Obj, SameOrNew w (w.drew.alloc o) ao (some ⟨w.heap.size, 0, none⟩) := fun o => .inr ⟨w.heap.size, rfl, Nat.le_refl _, by simp⟩
    rcases hown.2 with ⟨rfl, rfl, rfl⟩ | ⟨g, cur, fz, rfl, hg, hfz, hnc, hcm, hcs, htake⟩
    · have hx : xs = [] := List.eq_nil_of_length_eq_zero (by simpa using hown.1)
      subst hx
      have hr := run_append_nil (P := P) w t ty e i z ht hi hz ad m c news hl hnews' (by omega) (by omega) (by have hb := hbytes; simp only [Nat.zero_add] at hb; omega)
      have hgr := grown 0 (by omega)
      simp only [Nat.zero_add, List.nil_append, Array.empty_append] at hgr ⊢
      exact ⟨_, _, _, hr, hgr, hmod _, hsn _⟩
    · by_cases hroom : n + m ≤ cap
      · have hfit : n * i.size + news.length ≤ cur.size := Nat.le_trans (by rw [hl, ← Nat.add_mul]; exact Nat.mul_le_mul_right _ hroom) hcs
        have hr := run_append_room_fz (P := P) w t ty e i ht hi g n cap cur fz hg hfz ad m c news hl hnews' h1 hroom hfit
        refine ⟨_, _, _, hr, ⟨hlen, .inr ⟨g, _, fz, rfl, setRow_heap w g cur _ e _ hg, hfz.imp id (fun h => by simp; omega), hroom, hcm, ?_, ?_⟩⟩, ⟨rfl, rfl, rfl, by simp, fun k _ hk => setRow_other w g k _ (fun e => hk (by simp [blk, e]))⟩, .inl rfl⟩
        · simp only [List.size_toArray, List.length_append, List.length_take, List.length_drop, Array.length_toList]
          omega
        · rw [htake, ← hlen]
          exact List.take_left
      · have holds : ∀ j u, xs[j]? = some u → w.cell? ((⟨g, 0, none⟩ : Addr).add j) = some u := fun j u hj => by
          obtain ⟨g', h1, h2, _⟩ := hown.cell hj
          cases h1; rw [Addr.add_lit]; simpa using h2
        have hr := run_append_grow (P := P) w t ty e i z ht hi hz ⟨g, 0, none⟩ n cap xs hown.1 holds ad m c news hl hnews' (by omega) (by omega) (growslice_fits (by omega) hbytes)
        exact ⟨_, _, _, hr, grown cap (by omega), hmod _, hsn _⟩

/-- append, one operation of a list of operations: whatever the source. -/
theorem wpl_append {ops : Array Oper} {rest : List Oper} {o : Oper} {a : Act} {Q : Exit → Act → World → Prop} (hgd : o.guard = none) (s x : Operand) (t : TypeId)
    (ho : o.op = .call { callee := .builtin .append, args := #[s, x], argTypes := #[t, t] })
    (e : TypeId) (i : TypeInfo) (z : Value) (size bytes : Nat) (ht : P.underlying t = some (.slice e)) (hi : P.info? e = some i) (hz : i.zero = some z)
    (hsize : i.size = size) (hby : i.bytes = bytes) (hzs : z.cells.size = size) (hsz : 0 < size)
    (ao : Option Addr) (n cap : Nat) (xs : List Value) (hs : a.eval s = .slice ao n cap) (hown : Own w e size ao n cap xs)
    (so : Option Addr) (m c : Nat) (news : List Value) (hx : a.eval x = .slice so m c) (hl : news.length = m * size) (hnews : Shows w so news) (h1 : ∀ u ∈ news, u.oneCell' = true)
    (h63 : n + m ≤ maxLen) (hbytes : (n + m) * bytes ≤ 140737488355328)
    (h : ∀ ao' cap' w', Own w' e size ao' (n + m) cap' (xs ++ news) → Mod (blk ao) w w' → SameOrNew w w' ao ao' → wpList P ops Q rest (a.put o.dst (.slice ao' (n + m) cap')) w') : wpList P ops Q (o :: rest) a w := by
  refine wpList_plain hgd (fun K hK => ?_)
  obtain ⟨ao', cap', w', hr, h2, h3, h4⟩ := run_append_mine (P := P) w t o.type e i z size bytes ht hi hz hsize hby hzs hsz ao n cap xs hown so m c news hl hnews h1 h63 hbytes
  unfold Oper.wp execOp
  simp only [ho, resolve, invoke, builtin, Sem.run_bind, Sem.run_pure, Result.andThen_ok, List.map_toArray, List.map_cons, List.map_nil, hs, hx, hr]
  exact hK _ _ (h ao' cap' w' h2 h3 h4)
/-- make, of a known size: zeros. -/
theorem wpl_make {ops : Array Oper} {rest : List Oper} {o : Oper} {a : Act} {Q : Exit → Act → World → Prop} (hgd : o.guard = none) (l c : Operand) (t : TypeId)
    (ho : o.op = Op.makeSlice t l c) (e : TypeId) (i : TypeInfo) (z : Value) (size bytes : Nat) (ht : P.underlying t = some (.slice e)) (hi : P.info? e = some i) (hz : i.zero = some z)
    (hsize : i.size = size) (hby : i.bytes = bytes) (kl kc : IntKind) (L C : Int) (n : Nat) (hl : a.eval l = .int kl L) (hc : a.eval c = .int kc C) (hL : L = (n : Int)) (hC : C = (n : Int)) (hb : bytes * n ≤ 281474976710656) (h63 : n ≤ maxLen)
    (h : ∀ g w', Own w' e size (some ⟨g, 0, none⟩) n n (madeCells z.cells (n * size)).toList → Mod [] w w' → w.heap.size ≤ g → wpList P ops Q rest (a.put o.dst (.slice (some ⟨g, 0, none⟩) n n)) w') : wpList P ops Q (o :: rest) a w := by
  refine wpList_plain hgd fun K hK' => ?_
  subst hsize hby hL hC
  have hb' : (i.bytes : Int) * (n : Int) ≤ 281474976710656 := by
    have h : ((i.bytes * n : Nat) : Int) ≤ 281474976710656 := by omega
    rwa [Int.natCast_mul] at h
  have hr := run_make (P := P) w t e i z ht hi hz kl kc n n (by omega) (Int.le_refl _) hb' (by unfold maxLen at h63; omega)
  simp only [Int.toNat_natCast] at hr
  unfold Oper.wp
  simp [execOp, ho, hl, hc, hr, Result.andThen]
  exact hK' _ _ (h _ _ (Own.new (heap_alloc_new w _) (.inl rfl) (size_madeCells _ _) h63) (Mod.alloc _ _ _) (Nat.le_refl _))
end
end Go.Proofs.Ytgneigdcgfiooaa
/- Maps whose keys are plain (integers, strings): what a lookup finds, what a store leaves. Over any program. -/
namespace Go.Proofs.Ytgneigdcgfiooaa
open Go Go.RowKit Go.MapKept

/-- Block b is a map of n entries; under the key k it holds f k. -/
def MapF (w : World) (b : Nat) (d : TypeDesc) (n : Nat) (f : Value → Option Value) : Prop :=
  ∃ es clock, w.heap[b]? = some (.map es clock) ∧ es.size = n ∧ Stamped es clock ∧ (∀ x ∈ es.toList, IsKey d x.key) ∧
    ∀ k v, f k = some v ↔ ∃ e ∈ es.toList, e.key = k ∧ e.val = v

theorem MapF.mod {S : List Nat} {w w' : World} {b : Nat} {d : TypeDesc} {n : Nat} {f : Value → Option Value} (h : MapF w b d n f) (hm : Mod S w w') (hn : b ∉ S) : MapF w' b d n f := by
  obtain ⟨es, clock, h1, h2⟩ := h
  exact ⟨es, clock, hm.get h1 hn, h2⟩
theorem MapF.mod0 {w w' : World} {b : Nat} {d : TypeDesc} {n : Nat} {f : Value → Option Value} (h : MapF w b d n f) (hm : Mod [] w w') : MapF w' b d n f := h.mod hm (by simp)
theorem MapF.lt {w : World} {b : Nat} {d : TypeDesc} {n : Nat} {f : Value → Option Value} (h : MapF w b d n f) : b < w.heap.size := by
  obtain ⟨es, clock, h1, h2⟩ := h
  exact lt_of_block h1
theorem MapF.made (w : World) (d : TypeDesc) : MapF (w.alloc (.map #[] 0)) w.heap.size d 0 (fun _ => none) :=
  ⟨#[], 0, heap_alloc_new w _, rfl, stamped_empty 0, by simp, by simp⟩
theorem MapF.zero {w : World} {b : Nat} {d : TypeDesc} {f : Value → Option Value} (h : MapF w b d 0 f) (k : Value) : f k = none := by
  obtain ⟨es, clock, h1, h2, _, _, h5⟩ := h
  cases hf : f k with
  | none => rfl
  | some v =>
    obtain ⟨e, he, _⟩ := (h5 k v).1 hf
    have : es = #[] := Array.eq_empty_of_size_eq_zero h2
    subst this
    simp at he
theorem MapF.pos {w : World} {b : Nat} {d : TypeDesc} {n : Nat} {f : Value → Option Value} (h : MapF w b d n f) {k v : Value} (hf : f k = some v) : 0 < n := by
  rcases Nat.eq_zero_or_pos n with h0 | h0
  · subst h0; rw [h.zero k] at hf; cases hf
  · exact h0

section
variable {P : Program}
theorem run_lookup_f {w : World} {b n : Nat} {d : TypeDesc} {f : Value → Option Value} {t kt et : TypeId} {k z : Value} (h : MapF w b d n f) (ht : P.underlying t = some (.map kt et)) (hd : P.underlying kt = some d) (hk : IsKey d k) (hz : (zeroValue et).run P w = .ok z w) :
    (Instr.lookup t (.map (some b)) k true).run P w = .ok (.tuple #[(f k).getD z, .bool (f k).isSome]) w := by
  obtain ⟨es, clock, h1, h2, h3, h4, h5⟩ := h
  rcases findNow_spec hk es.toList 0 h4 with ⟨g1, g2⟩ | ⟨j, e, g1, g2, g3⟩
  · have hf : f k = none := by
      cases hf : f k with
      | none => rfl
      | some v =>
        obtain ⟨e, he, hk2, _⟩ := (h5 k v).1 hf
        exact absurd hk2 (g2 e he)
    simp [Instr.lookup, run_underlying ht, MapKept.run_getObj_map h1, run_checkKey hd hk, run_findKey hd g1, hz, Result.andThen, hf]
  · have hf : f k = some e.val := (h5 k e.val).2 ⟨e, List.mem_of_getElem? g2, g3, rfl⟩
    simp [Instr.lookup, run_underlying ht, MapKept.run_getObj_map h1, run_checkKey hd hk, run_findKey hd g1, Result.andThen, hf]

theorem run_update_f {w : World} {b n : Nat} {d : TypeDesc} {f : Value → Option Value} {t kt et : TypeId} {k v : Value} (h : MapF w b d n f) (ht : P.underlying t = some (.map kt et)) (hd : P.underlying kt = some d) (hk : IsKey d k) (f' : Value → Option Value) (hf1 : f' k = some v) (hf2 : ∀ k', k' ≠ k → f' k' = f k') :
    ∃ w', (Instr.mapUpdate t (.map (some b)) k v).run P w = .ok () w' ∧ Mod [b] w w' ∧ MapF w' b d (if (f k).isSome then n else n + 1) f' := by
  obtain ⟨es, clock, h1, h2, h3, h4, h5⟩ := h
  have hmod : ∀ o : Obj, Mod [b] w { w with heap := w.heap.setIfInBounds b o } := fun o =>
    ⟨rfl, rfl, rfl, by simp, fun i _ hi => (heap_set h1).2 i (fun e => hi (by simp [e]))⟩
  rcases findNow_spec hk es.toList 0 h4 with ⟨g1, g2⟩ | ⟨j, e, g1, g2, g3⟩
  · have hf : f k = none := by
      cases hf : f k with
      | none => rfl
      | some v =>
        obtain ⟨e, he, hk2, _⟩ := (h5 k v).1 hf
        exact absurd hk2 (g2 e he)
    refine ⟨{ w with heap := w.heap.setIfInBounds b (.map (es.push { key := k, val := v, born := clock }) (clock + 1)) }, by simp [Instr.mapUpdate, run_underlying ht, MapKept.run_getObj_map h1, run_checkKey hd hk, run_findKey hd g1, run_setObj_map _ h1, Result.andThen], hmod _, _, _, (heap_set h1).1, ?_, stamped_push h3 g2, ?_, ?_⟩
    · simp [hf, h2]
    · intro x hx
      simp only [Array.toList_push, List.mem_append, List.mem_singleton] at hx
      rcases hx with hx | rfl
      · exact h4 x hx
      · exact hk
    · intro k' v'
      simp only [Array.toList_push, List.mem_append, List.mem_singleton]
      by_cases hkk : k' = k
      · subst hkk
        rw [hf1]
        constructor
        · intro h; cases h; exact ⟨_, .inr rfl, rfl, rfl⟩
        · rintro ⟨x, hx | rfl, hx1, hx2⟩
          · exact absurd hx1 (g2 x hx)
          · rw [← hx2]
      · rw [hf2 _ hkk, h5]
        constructor
        · rintro ⟨x, hx, hx1⟩; exact ⟨x, .inl hx, hx1⟩
        · rintro ⟨x, hx | rfl, hx1, hx2⟩
          · exact ⟨x, hx, hx1, hx2⟩
          · exact absurd hx1.symm hkk
  · have hj : es[j]? = some e := by simpa using g2
    have hf : f k = some e.val := (h5 k e.val).2 ⟨e, List.mem_of_getElem? g2, g3, rfl⟩
    have hkey : ∀ e', es[j]? = some e' → ({ e' with key := k, val := v } : MapEntry).key = e'.key := fun e' he' => by rw [hj] at he'; cases he'; exact g3.symm
    refine ⟨{ w with heap := w.heap.setIfInBounds b (.map (es.modify j fun e => { e with key := k, val := v }) clock) }, by simp [Instr.mapUpdate, run_underlying ht, MapKept.run_getObj_map h1, run_checkKey hd hk, run_findKey hd g1, hj, g3, run_keyThatStays hk, run_setObj_map _ h1, Result.andThen], hmod _, _, _, (heap_set h1).1, ?_, stamped_modify h3 _ _ (fun _ _ => rfl) (fun e' _ he' => hkey e' he'), isKey_modify h4 _ _ hkey, ?_⟩
    · simp [hf, h2]
    · have hnd : (es.toList.map (·.key)).Nodup := h3.2.2
      have hget : ∀ i, (es.modify j fun e => { e with key := k, val := v }).toList[i]? = if i = j then es.toList[i]?.map (fun e => { e with key := k, val := v }) else es.toList[i]? := by
        intro i
        simp only [Array.getElem?_toList]
        rw [Array.getElem?_modify]
        by_cases hij : j = i
        · subst hij; simp
        · rw [if_neg hij, if_neg (Ne.symm hij)]
      have huniq : ∀ i x, es.toList[i]? = some x → x.key = k → i = j := by
        intro i x hi hx
        have e1 : (es.toList.map (·.key))[i]? = some k := by rw [List.getElem?_map, hi]; simp [hx]
        have e2 : (es.toList.map (·.key))[j]? = some k := by rw [List.getElem?_map, g2]; simp [g3]
        obtain ⟨l1, l2⟩ := List.getElem?_eq_some_iff.1 e1
        obtain ⟨l3, l4⟩ := List.getElem?_eq_some_iff.1 e2
        rcases Nat.lt_trichotomy i j with hlt | he | hlt
        · exact absurd (l2.trans l4.symm) (List.pairwise_iff_getElem.1 hnd i j l1 l3 hlt)
        · exact he
        · exact absurd (l4.trans l2.symm) (List.pairwise_iff_getElem.1 hnd j i l3 l1 hlt)
      intro k' v'
      by_cases hkk : k' = k
      · subst hkk
        rw [hf1]
        constructor
        · intro h; cases h
          refine ⟨{ e with key := k', val := v }, List.mem_of_getElem? (i := j) ?_, rfl, rfl⟩
          rw [hget, if_pos rfl, g2]; rfl
        · rintro ⟨x, hx, hx1, hx2⟩
          obtain ⟨i, hi⟩ := List.getElem?_of_mem hx
          rw [hget] at hi
          by_cases hij : i = j
          · rw [if_pos hij, hij, g2] at hi
            cases hi
            rw [← hx2]
          · rw [if_neg hij] at hi
            exact absurd (huniq i x hi hx1) hij
      · rw [hf2 _ hkk, h5]
        constructor
        · rintro ⟨x, hx, hx1, hx2⟩
          obtain ⟨i, hi⟩ := List.getElem?_of_mem hx
          have hij : i ≠ j := by rintro rfl; rw [g2] at hi; cases hi; exact hkk (hx1.symm.trans g3)
          exact ⟨x, List.mem_of_getElem? (i := i) (by rw [hget, if_neg hij]; exact hi), hx1, hx2⟩
        · rintro ⟨x, hx, hx1, hx2⟩
          obtain ⟨i, hi⟩ := List.getElem?_of_mem hx
          rw [hget] at hi
          by_cases hij : i = j
          · rw [if_pos hij, hij, g2] at hi
            cases hi
            exact absurd hx1.symm hkk
          · rw [if_neg hij] at hi
            exact ⟨x, List.mem_of_getElem? hi, hx1, hx2⟩

/-- m[k], with 'ok', one operation of a list of operations. -/
theorem wpl_lookup {w : World} {ops : Array Oper} {rest : List Oper} {a : Act} {Q : Exit → Act → World → Prop} {dst : Option Tmp} {ty : TypeId} {pos : String} {after : Array Edge} (t : TypeId) (x ix : Operand)
    {b n : Nat} {d : TypeDesc} {f : Value → Option Value} {kt et : TypeId} {k z : Value} (h : MapF w b d n f) (ht : P.underlying t = some (.map kt et)) (hd : P.underlying kt = some d) (hx : a.eval x = .map (some b)) (hi : a.eval ix = k) (hk : IsKey d k) (hz : (zeroValue et).run P w = .ok z w)
    (hr : wpList P ops Q rest (a.put dst (.tuple #[(f k).getD z, .bool (f k).isSome])) w) :
    wpList P ops Q (⟨dst, .lookup t x ix true, ty, pos, after, none⟩ :: rest) a w := by
  refine wpList_plain rfl fun K hK => ?_
  unfold Oper.wp
  simp [execOp, hx, hi, run_lookup_f h ht hd hk hz, Result.andThen]
  exact hK _ _ hr
theorem wpl_lookup_some {w : World} {ops : Array Oper} {rest : List Oper} {a : Act} {Q : Exit → Act → World → Prop} {dst : Option Tmp} {ty : TypeId} {pos : String} {after : Array Edge} (t : TypeId) (x ix : Operand)
    {b n : Nat} {d : TypeDesc} {f : Value → Option Value} {kt et : TypeId} {k z v : Value} (h : MapF w b d n f) (ht : P.underlying t = some (.map kt et)) (hd : P.underlying kt = some d) (hx : a.eval x = .map (some b)) (hi : a.eval ix = k) (hk : IsKey d k) (hz : (zeroValue et).run P w = .ok z w) (hv : f k = some v)
    (hr : wpList P ops Q rest (a.put dst (.tuple #[v, .bool true])) w) :
    wpList P ops Q (⟨dst, .lookup t x ix true, ty, pos, after, none⟩ :: rest) a w :=
  wpl_lookup t x ix h ht hd hx hi hk hz (by rw [hv]; exact hr)
theorem wpl_lookup_none {w : World} {ops : Array Oper} {rest : List Oper} {a : Act} {Q : Exit → Act → World → Prop} {dst : Option Tmp} {ty : TypeId} {pos : String} {after : Array Edge} (t : TypeId) (x ix : Operand)
    {b n : Nat} {d : TypeDesc} {f : Value → Option Value} {kt et : TypeId} {k z : Value} (h : MapF w b d n f) (ht : P.underlying t = some (.map kt et)) (hd : P.underlying kt = some d) (hx : a.eval x = .map (some b)) (hi : a.eval ix = k) (hk : IsKey d k) (hz : (zeroValue et).run P w = .ok z w) (hv : f k = none)
    (hr : wpList P ops Q rest (a.put dst (.tuple #[z, .bool false])) w) :
    wpList P ops Q (⟨dst, .lookup t x ix true, ty, pos, after, none⟩ :: rest) a w :=
  wpl_lookup t x ix h ht hd hx hi hk hz (by rw [hv]; exact hr)
/-- m[k] = v. -/
theorem wpl_update {w : World} {ops : Array Oper} {rest : List Oper} {a : Act} {Q : Exit → Act → World → Prop} {ty : TypeId} {pos : String} {after : Array Edge} (t : TypeId) (x ix vx : Operand)
    {b n : Nat} {d : TypeDesc} {f : Value → Option Value} {kt et : TypeId} {k v : Value} (h : MapF w b d n f) (ht : P.underlying t = some (.map kt et)) (hd : P.underlying kt = some d) (hx : a.eval x = .map (some b)) (hi : a.eval ix = k) (hv : a.eval vx = v) (hk : IsKey d k) (f' : Value → Option Value) (hf1 : f' k = some v) (hf2 : ∀ k', k' ≠ k → f' k' = f k')
    (n' : Nat) (hn' : (if (f k).isSome then n else n + 1) = n')
    (hr : ∀ w', Mod [b] w w' → Hid (MapF w' b d n' f') → wpList P ops Q rest a w') :
    wpList P ops Q (⟨none, .mapUpdate t x ix vx, ty, pos, after, none⟩ :: rest) a w := by
  refine wpList_plain rfl fun K hK => ?_
  obtain ⟨w', h1, h2, h3⟩ := run_update_f (v := v) h ht hd hk f' hf1 hf2
  rw [hn'] at h3
  unfold Oper.wp
  simp [execOp, hx, hi, hv, h1, Result.andThen]
  exact hK _ _ (hr w' h2 (Lib.hid h3))
/-- make of a map. -/
theorem wpl_makemap {w : World} {ops : Array Oper} {rest : List Oper} {a : Act} {Q : Exit → Act → World → Prop} {dst : Option Tmp} {ty : TypeId} {pos : String} {after : Array Edge} (t : TypeId)
    (hr : wpList P ops Q rest (a.put dst (.map (some w.heap.size))) (w.alloc (.map #[] 0))) :
    wpList P ops Q (⟨dst, .makeMap t none, ty, pos, after, none⟩ :: rest) a w := by
  refine wpList_plain rfl fun K hK => ?_
  have h1 : (Instr.makeMap t none).run P w = .ok (.map (some w.heap.size)) (w.alloc (.map #[] 0)) := by simp [Instr.makeMap, Result.andThen]
  unfold Oper.wp
  simp [execOp, h1, Result.andThen]
  exact hK _ _ hr
/-- len of a map. -/
theorem wpl_lenmap {w : World} {ops : Array Oper} {rest : List Oper} {a : Act} {Q : Exit → Act → World → Prop} {dst : Option Tmp} {ty : TypeId} {pos : String} {after : Array Edge} (t : TypeId) (x : Operand)
    {b n : Nat} {d : TypeDesc} {f : Value → Option Value} {kt et : TypeId} (h : MapF w b d n f) (ht : P.underlying t = some (.map kt et)) (hx : a.eval x = .map (some b))
    (hr : wpList P ops Q rest (a.put dst (.int .i64 (n : Int))) w) :
    wpList P ops Q (⟨dst, .call { callee := .builtin .len, args := #[x], argTypes := #[t] }, ty, pos, after, none⟩ :: rest) a w := by
  obtain ⟨es, clock, h1, h2, -⟩ := h
  subst h2
  refine wpList_plain rfl fun K hK => ?_
  have h2 : (Builtin.len_ #[t] ty #[.map (some b)]).run P w = .ok (.int .i64 (es.size : Int)) w := by simp [Builtin.len_, run_underlying ht, MapKept.run_getObj_map h1, Result.andThen, goInt]
  unfold Oper.wp execOp
  simp only [resolve, invoke, builtin, Sem.run_bind, Sem.run_pure, Result.andThen_ok, List.map_toArray, List.map_cons, List.map_nil, hx, h2]
  exact hK _ _ hr
end
end Go.Proofs.Ytgneigdcgfiooaa
/- Laws for slices of bytes over this seat's program. -/
namespace Go.Proofs.Ytgneigdcgfiooaa
open Go Go.RowKit

theorem infoU8 : (Try.prog.info? 5).map (fun i => (i.zero, i.size, i.bytes)) = some (some (.int .u8 0), 1, 1) := by kernel_rfl

/-- A slice of bytes of the call's own. -/
def OwnB (w : World) (ao : Option Addr) (cap : Nat) (l : List UInt8) : Prop := Own w 5 1 ao l.length cap (l.map u8v)
theorem OwnB.nil (w : World) : OwnB w none 0 [] := Own.nil0 _ _ _
theorem OwnB.sees {w : World} {ao : Option Addr} {cap : Nat} {l : List UInt8} (h : OwnB w ao cap l) : Sees w ao l := Own.sees h
theorem OwnB.mod {S : List Nat} {w w' : World} {ao : Option Addr} {cap : Nat} {l : List UInt8} (h : OwnB w ao cap l) (hm : Mod S w w') (hn : ∀ k, k ∈ blk ao → k ∉ S) : OwnB w' ao cap l := Own.mod h hm hn
theorem OwnB.mod0 {w w' : World} {ao : Option Addr} {cap : Nat} {l : List UInt8} (h : OwnB w ao cap l) (hm : Mod [] w w') : OwnB w' ao cap l := Own.mod0 h hm

/-- append of bytes to bytes of the call's own. -/
theorem wpl_app8 {w : World} {ops : Array Oper} {rest : List Oper} {a : Act} {Q : Exit → Act → World → Prop} {dst : Option Tmp} {ty : TypeId} {pos : String} {after : Array Edge} (s x : Operand)
    (ao : Option Addr) (n cap : Nat) (xs : List UInt8) (hs : a.eval s = .slice ao n cap) (hn : xs.length = n) (hown : OwnB w ao cap xs)
    (so : Option Addr) (m c : Nat) (l : List UInt8) (hx : a.eval x = .slice so m c) (hl : l.length = m) (hsees : Sees w so l) (hb : n + m ≤ 140737488355328)
    (h : ∀ ao' cap' w', OwnB w' ao' cap' (xs ++ l) → Mod (blk ao) w w' → SameOrNew w w' ao ao' → wpList Try.prog ops Q rest (a.put dst (.slice ao' (n + m) cap')) w') :
    wpList Try.prog ops Q (⟨dst, .call { callee := .builtin .append, args := #[s, x], argTypes := #[36, 36] }, ty, pos, after, none⟩ :: rest) a w := by
  obtain ⟨i0, hi, hz0, hz1, hz2⟩ := info_parts infoU8
  subst hn hl
  refine wpl_append w rfl s x 36 rfl 5 i0 _ 1 1 Try.underlying36 hi hz0 hz1 hz2 rfl (by decide) ao _ cap _ hs hown so _ c (l.map u8v) hx (by simp) hsees.shows (one_u8 _) (by unfold maxLen; omega) (by omega) ?_
  intro ao' cap' w' h1 h2 h3
  refine h ao' cap' w' ?_ h2 h3
  unfold OwnB
  rw [List.length_append, List.map_append]
  exact h1
/-- Bytes l are handed back, in the block of ao or in a new one (ao none: in a new one). -/
def RetApp (w : World) (ao : Option Addr) (l : List UInt8) (e : Ending) (w' : World) : Prop :=
  ∃ ao' n cap', e = .returned (.slice ao' n cap') ∧ l.length = n ∧ OwnB w' ao' cap' l ∧ Mod (blk ao) w w' ∧ SameOrNew w w' ao ao'
theorem OwnB.lit1 {w : World} {g : Nat} {v : Int} {fz : Nat × Nat} (h : w.heap[g]? = some (.cells #[.int .u8 v] 5 fz)) (x : UInt8) (hx : v = (x.toNat : Int)) (hz : fz = (0, 0) ∨ 1 ≤ fz.1) : OwnB w (some ⟨g, 0, none⟩) 1 [x] := by
  subst hx
  exact Own.new (sz := 1) (n := 1) h hz (by simp) (by unfold maxLen; omega)
theorem SameOrNew.trans {a b c : World} {x y z : Option Addr} (h : SameOrNew a b x y) (k : SameOrNew b c y z) (hs : a.heap.size ≤ b.heap.size) (hs2 : b.heap.size ≤ c.heap.size) : SameOrNew a c x z := by
  rcases k with rfl | ⟨g, rfl, h1, h2⟩
  · rcases h with rfl | ⟨g, rfl, h1, h2⟩
    · exact .inl rfl
    · exact .inr ⟨g, rfl, h1, by omega⟩
  · exact .inr ⟨g, rfl, by omega, h2⟩
/-- Two such calls, one behind the other. -/
theorem RetApp.chain {a b c : World} {x y : Option Addr} {l : List UInt8} {e : Ending} (hm : Mod (blk x) a b) (hn : SameOrNew a b x y) (h : RetApp b y l e c) : RetApp a x l e c := by
  obtain ⟨ao', n, cap', h1, hl, h2, h3, h4⟩ := h
  exact ⟨ao', n, cap', h1, hl, h2, hm.transNew h3 hn (fun _ h => h), hn.trans h4 hm.size h3.size⟩
theorem RetApp.later {a b c : World} {x : Option Addr} {l : List UInt8} {e : Ending} (hm : Mod [] a b) (h : RetApp b x l e c) : RetApp a x l e c :=
  h.chain hm.nil (.inl rfl)
theorem madeU8 (n : Nat) : (madeCells (Value.cells (.int .u8 0)) (n * 1)).toList = (List.replicate n (0 : UInt8)).map u8v := by
  rw [Nat.mul_one]
  show (madeCells #[Value.int .u8 0] n).toList = _
  rw [toList_madeCells_one, List.map_replicate]
  rfl
/-- make([]byte, n). -/
theorem wpl_make8 {w : World} {ops : Array Oper} {rest : List Oper} {a : Act} {Q : Exit → Act → World → Prop} {dst : Option Tmp} {ty : TypeId} {pos : String} {after : Array Edge} (l c : Operand)
    (kl kc : IntKind) (L C : Int) (n : Nat) (hl : a.eval l = .int kl L) (hc : a.eval c = .int kc C) (hL : L = (n : Int)) (hC : C = (n : Int)) (hb : n ≤ 281474976710656)
    (h : ∀ g w', OwnB w' (some ⟨g, 0, none⟩) n (List.replicate n 0) → Mod [] w w' → w.heap.size ≤ g → wpList Try.prog ops Q rest (a.put dst (.slice (some ⟨g, 0, none⟩) n n)) w') :
    wpList Try.prog ops Q (⟨dst, .makeSlice 36 l c, ty, pos, after, none⟩ :: rest) a w := by
  obtain ⟨i0, hi, hz0, hz1, hz2⟩ := info_parts infoU8
  refine wpl_make w rfl l c 36 rfl 5 i0 _ 1 1 Try.underlying36 hi hz0 hz1 hz2 kl kc L C n hl hc hL hC (by omega) (by unfold maxLen; omega) ?_
  intro g w' h1 h2 h3
  rw [madeU8] at h1
  exact h g w' (by unfold OwnB; rw [List.length_replicate]; exact h1) h2 h3
/-- A byte of a row of the call's own is stored. -/
theorem OwnB.set {w : World} {g cap j : Nat} {l : List UInt8} (h : OwnB w (some ⟨g, 0, none⟩) cap l) (x : UInt8) : OwnB (w.setCell ⟨g, j, none⟩ (u8v x)) (some ⟨g, 0, none⟩) cap (l.set j x) := by
  have := Own.set (j := j) h (u8v x)
  unfold OwnB
  rw [List.length_set, List.map_set]
  exact this
theorem OwnB.cell {w : World} {ao : Option Addr} {cap j : Nat} {l : List UInt8} (h : OwnB w ao cap l) (hj : j < l.length) :
    ∃ g, ao = some ⟨g, 0, none⟩ ∧ w.cell? ⟨g, j, none⟩ = some (.int .u8 ((l[j].toNat : Nat) : Int)) ∧ w.frozen? ⟨g, j, none⟩ = false :=
  Own.cell (j := j) (u := u8v l[j]) h (by rw [List.getElem?_map, List.getElem?_eq_getElem hj]; rfl)
end Go.Proofs.Ytgneigdcgfiooaa
/- Strings and bytes: conversions, and a string appended to bytes of the call's own. -/
namespace Go.Proofs.Ytgneigdcgfiooaa
open Go Go.RowKit Go.Lib

/-- The string of these bytes. -/
abbrev strV (l : List UInt8) : Value := .string ⟨l.toArray⟩
theorem str_eta (s : ByteArray) : s = ⟨s.data.toList.toArray⟩ := by cases s; simp
theorem strCells_eq (s : ByteArray) : strCells s = s.data.toList.map u8v := rfl
theorem size_data (s : ByteArray) : s.data.toList.length = s.size := by rw [Array.length_toList]; rfl

section
variable {P : Program} (w : World)
theorem run_append_room_string_fz (t u ty e : TypeId) (i : TypeInfo) (ht : P.underlying t = some (.slice e)) (hu : P.underlying u = some .string) (hi : P.info? e = some i) (hs1 : i.size = 1)
    (g sLen sCap : Nat) (cur : Array Value) (fz : Nat × Nat) (hg : w.heap[g]? = some (.cells cur e fz)) (hz : fz = (0, 0) ∨ cur.size ≤ fz.1) (s : ByteArray)
    (hroom : sLen + s.size ≤ sCap) (hfit : sLen + s.size ≤ cur.size) :
    (Builtin.append_ #[t, u] ty #[.slice (some ⟨g, 0, none⟩) sLen sCap, .string s]).run P w =
      .ok (.slice (some ⟨g, 0, none⟩) (sLen + s.size) sCap) (w.setRow g (cur.toList.take sLen ++ strCells s ++ cur.toList.drop (sLen + s.size)).toArray) := by
  have hf := run_firstCells_string (P := P) w 1 s
  have hst := run_storeCells_fz (P := P) g sLen e fz (strCells s) 0 cur w hg hz (by simpa [strCells_length] using hfit) (strCells_oneCell s)
  simp only [Nat.add_zero, strCells_length] at hst
  simp [Builtin.append_, run_underlying ht, run_underlying hu, sizeOf, typeInfo, hi, hs1, Builtin.lenOf, hroom, hf, Addr.add_lit, hst]

theorem run_append_str (t u ty e : TypeId) (i : TypeInfo) (ht : P.underlying t = some (.slice e)) (hu : P.underlying u = some .string) (hi : P.info? e = some i) (hz : i.zero = some (.int .u8 0))
    (hsize : i.size = 1) (hby : i.bytes = 1)
    (ao : Option Addr) (n cap : Nat) (xs : List Value) (hown : Own w e 1 ao n cap xs) (s : ByteArray) (hbytes : n + s.size ≤ 140737488355328) :
    ∃ ao' cap' w', (Builtin.append_ #[t, u] ty #[.slice ao n cap, .string s]).run P w = .ok (.slice ao' (n + s.size) cap') w' ∧ Own w' e 1 ao' (n + s.size) cap' (xs ++ strCells s) ∧ Mod (blk ao) w w' ∧ SameOrNew w w' ao ao' := by
  have hxl : xs.length = n := by simpa using hown.1
  have hlen : (xs ++ strCells s).length = (n + s.size) * 1 := by rw [List.length_append, hxl, strCells_length]; omega
  have hmod : ∀ o : Obj, Mod (blk ao) w (w.drew.alloc o) := fun o => (Mod.drew _ w).trans' (Mod.alloc _ _ o)
  have hsn : ∀ o : Obj, SameOrNew w (w.drew.alloc o) ao (some ⟨w.heap.size, 0, none⟩) := fun o => .inr ⟨w.heap.size, rfl, Nat.le_refl _, by simp⟩
  have grown : ∀ (old : Nat) (rowCells : Array Value), old < n + s.size → rowCells.toList = xs ++ strCells s →
      Own (w.drew.alloc (.cells (rowCells ++ Builtin.zeroCells (Value.cells (.int .u8 0)) (grownCap w (n + s.size) old e - (n + s.size))) e)) e 1 (some ⟨w.heap.size, 0, none⟩) (n + s.size) (grownCap w (n + s.size) old e) (xs ++ strCells s) := by
    intro old row ho hrow
    have hge := grownCap_ge w (n + s.size) old e
    have hrs : row.size = n + s.size := by rw [← Array.length_toList, hrow]; omega
    refine ⟨hlen, .inr ⟨w.heap.size, _, (0, 0), rfl, heap_alloc_new w.drew _, .inl rfl, hge, grownCap_le_maxLen w (n + s.size) old e (by unfold maxLen; omega), ?_, ?_⟩⟩
    · simp only [Array.size_append, size_zeroCells, hrs]
      show _ ≤ n + s.size + (grownCap w (n + s.size) old e - (n + s.size)) * 1
      omega
    · simp only [Array.toList_append, hrow]
      rw [← hlen]
      exact List.take_left
  rcases hown.2 with ⟨rfl, rfl, rfl⟩ | ⟨g, cur, fz, rfl, hg, hfz, hnc, hcm, hcs, htake⟩
  · have hx : xs = [] := List.eq_nil_of_length_eq_zero hxl
    subst hx
    by_cases h0 : s.size = 0
    · have hs0 : strCells s = [] := List.eq_nil_of_length_eq_zero (by rw [strCells_length]; exact h0)
      refine ⟨none, 0, w, ?_, by rw [hs0, h0]; simpa using Own.nil0 w e 1, Mod.refl _ _, .inl rfl⟩
      simp [Builtin.append_, run_underlying ht, run_underlying hu, sizeOf, typeInfo, hi, Builtin.lenOf, h0, Builtin.firstCells]
    · have hr := run_append_nil_string (P := P) w t u ty e i _ ht hu hi hz s (by omega) (by omega) (by rw [hby]; omega)
      have hgr := grown 0 (s.data.map (fun b => Value.int .u8 b.toNat)) (by omega) (by simp [strCells])
      simp only [Nat.zero_add, List.nil_append] at hgr ⊢
      exact ⟨_, _, _, hr, hgr, hmod _, hsn _⟩
  · by_cases hroom : n + s.size ≤ cap
    · have hr := run_append_room_string_fz (P := P) w t u ty e i ht hu hi hsize g n cap cur fz hg hfz s hroom (by omega)
      refine ⟨_, _, _, hr, ⟨hlen, .inr ⟨g, _, fz, rfl, setRow_heap w g cur _ e _ hg, hfz.imp id (fun h => by simp [strCells_length]; omega), hroom, hcm, ?_, ?_⟩⟩, ⟨rfl, rfl, rfl, by simp, fun k _ hk => setRow_other w g k _ (fun e => hk (by simp [blk, e]))⟩, .inl rfl⟩
      · simp only [List.size_toArray, List.length_append, List.length_take, List.length_drop, Array.length_toList, strCells_length]
        omega
      · rw [Nat.mul_one] at htake
        rw [htake, ← hlen]
        exact List.take_left
    · have holds : ∀ j v, xs[j]? = some v → w.cell? ((⟨g, 0, none⟩ : Addr).add j) = some v := fun j v hj => by
        obtain ⟨g', h1, h2, _⟩ := hown.cell hj
        cases h1; rw [Addr.add_lit]; simpa using h2
      have hr := run_append_grow_string (P := P) w t u ty e i _ ht hu hi hz ⟨g, 0, none⟩ n cap xs (by rw [hsize]; exact hown.1) holds s (by omega) (by omega) (growslice_fits (by omega) (by rw [hby]; omega))
      exact ⟨_, _, _, hr, grown cap _ (by omega) (by simp), hmod _, hsn _⟩

theorem run_string_of (src dst e : TypeId) (hs : P.underlying src = some (.slice e)) (he : P.underlying e = some (.int .u8)) (hd : P.underlying dst = some .string)
    (ao : Option Addr) (cap : Nat) (l : List UInt8) (h : Sees w ao l) : (convert src dst (.slice ao l.length cap)).run P w = .ok (strV l) w := by
  cases l with
  | nil =>
    cases ao with
    | none => exact run_convert_bytes_nil w src e hs he 0 cap dst hd
    | some a => exact run_convert_bytes_back w src dst e a cap [] hs he hd (by intro j hj; simp at hj)
  | cons x l =>
    obtain ⟨b, off, rfl, _⟩ := h 0 (by simp)
    refine run_convert_bytes_back w src dst e ⟨b, off, none⟩ cap (x :: l) hs he hd ?_
    intro j hj
    obtain ⟨b', off', h1, h2⟩ := h j hj
    cases h1
    rw [Addr.add_lit]; exact h2
end

/-- string(b). -/
theorem wpl_str {w : World} {ops : Array Oper} {rest : List Oper} {a : Act} {Q : Exit → Act → World → Prop} {dst : Option Tmp} {ty : TypeId} {pos : String} {after : Array Edge} {gd : Option (Nat × Bool)} (x : Operand)
    (so : Option Addr) (m c : Nat) (l : List UInt8) (hx : a.eval x = .slice so m c) (hl : l.length = m) (hsees : Sees w so l)
    (hw : Region.wanted ⟨dst, .convert 36 9 x, ty, pos, after, gd⟩ (yielded ops a.tmps) = true)
    (h : wpList Try.prog ops Q rest (a.put dst (strV l)) w) :
    wpList Try.prog ops Q (⟨dst, .convert 36 9 x, ty, pos, after, gd⟩ :: rest) a w := by
  subst hl
  refine wpList_step fun K hK => ?_
  rw [if_pos hw]
  have hr := run_string_of (P := Try.prog) w 36 9 5 Try.underlying36 Try.underlying5 Try.underlying9 so c l hsees
  unfold Oper.wp execOp
  simp [hx, hr]
  exact hK _ _ h

theorem bytesRow_take (s : ByteArray) (cap : Nat) (h : s.size ≤ cap) : (bytesRow s cap).toList.take (s.size * 1) = s.data.toList.map u8v ∧ (bytesRow s cap).size = cap := by
  have hs : s.data.size = s.size := rfl
  constructor
  · unfold bytesRow
    rw [Nat.mul_one, Array.toList_append, List.take_left' (by simp [hs])]
    simp [u8v]
  · unfold bytesRow; simp [hs]; omega
/-- []byte(s). -/
theorem wpl_bytes {w : World} {ops : Array Oper} {rest : List Oper} {a : Act} {Q : Exit → Act → World → Prop} {dst : Option Tmp} {ty : TypeId} {pos : String} {after : Array Edge} {gd : Option (Nat × Bool)} (x : Operand)
    (s : ByteArray) (hx : a.eval x = .string s) (hm : s.size ≤ 9223372036854775807)
    (hw : Region.wanted ⟨dst, .convert 9 36 x, ty, pos, after, gd⟩ (yielded ops a.tmps) = true)
    (h : ∀ g cap w', OwnB w' (some ⟨g, 0, none⟩) cap s.data.toList → Mod [] w w' → w.heap.size ≤ g → wpList Try.prog ops Q rest (a.put dst (.slice (some ⟨g, 0, none⟩) s.size cap)) w') :
    wpList Try.prog ops Q (⟨dst, .convert 9 36 x, ty, pos, after, gd⟩ :: rest) a w := by
  refine wpList_step fun K hK => ?_
  rw [if_pos hw]
  have hr := run_bytes_of_string (P := Try.prog) w 9 36 5 s Try.underlying9 Try.underlying36 Try.underlying5
  unfold Oper.wp execOp
  simp [hx, hr]
  have hge := grownCap_ge w s.size 0 5
  obtain ⟨h1, h2⟩ := bytesRow_take s _ hge
  refine hK _ _ (h _ _ _ ?_ ((Mod.drew _ w).trans' (Mod.alloc _ _ _)) (Nat.le_refl _))
  refine ⟨by simp, .inr ⟨w.heap.size, _, _, rfl, heap_alloc_new w.drew _, .inr (Nat.le_refl _), ?_, grownCap_le_maxLen w s.size 0 5 (by unfold maxLen; omega), by rw [h2, Nat.mul_one]; exact Nat.le_refl _, ?_⟩⟩
  · rw [size_data]; exact hge
  · rw [size_data]; exact h1
/-- append(b, s...). -/
theorem wpl_app8s {w : World} {ops : Array Oper} {rest : List Oper} {a : Act} {Q : Exit → Act → World → Prop} {dst : Option Tmp} {ty : TypeId} {pos : String} {after : Array Edge} (s x : Operand)
    (ao : Option Addr) (n cap : Nat) (xs : List UInt8) (hs : a.eval s = .slice ao n cap) (hn : xs.length = n) (hown : OwnB w ao cap xs)
    (t : ByteArray) (hx : a.eval x = .string t) (hb : n + t.size ≤ 140737488355328)
    (h : ∀ ao' cap' w', OwnB w' ao' cap' (xs ++ t.data.toList) → Mod (blk ao) w w' → SameOrNew w w' ao ao' → wpList Try.prog ops Q rest (a.put dst (.slice ao' (n + t.size) cap')) w') :
    wpList Try.prog ops Q (⟨dst, .call { callee := .builtin .append, args := #[s, x], argTypes := #[36, 9] }, ty, pos, after, none⟩ :: rest) a w := by
  obtain ⟨i0, hi, hz0, hz1, hz2⟩ := info_parts infoU8
  subst hn
  obtain ⟨ao', cap', w', hr, h2, h3, h4⟩ := run_append_str (P := Try.prog) w 36 9 ty 5 i0 Try.underlying36 Try.underlying9 hi hz0 hz1 hz2 ao xs.length cap _ hown t hb
  refine wpList_plain rfl fun K hK => ?_
  unfold Oper.wp execOp
  simp only [resolve, invoke, builtin, Sem.run_bind, Sem.run_pure, Result.andThen_ok, List.map_toArray, List.map_cons, List.map_nil, hs, hx, hr]
  refine hK _ _ (h ao' cap' w' ?_ h3 h4)
  unfold OwnB
  rw [List.length_append, List.map_append, size_data]
  exact h2
end Go.Proofs.Ytgneigdcgfiooaa
/- Regions that draw their order, in abstract worlds: what reads cells that nobody writes from here on is taken first; the calls come up one by one, each by its contract. Over any program. -/
namespace Go.Proofs.Ytgneigdcgfiooaa
open Go Go.RowKit Go.Lib

section
variable {P : Program} {ops : Array Oper} {Q : Exit → Act → World → Prop} {md : Region.Mode}

theorem wpAnyH_weaken {S S' : World → Prop} (hs : ∀ w, S' w → S w) : ∀ (fuel : Nat) (listed : Array Bool) (a : Act) (w : World), wpAnyH P md ops Q S' fuel listed a w → wpAnyH P md ops Q S fuel listed a w
  | 0, _, _, _, h => h
  | fuel + 1, _, _, _, h => ⟨h.1, fun i hi => wpOp_mono (fun a' w' h' => ⟨hs _ h'.1, wpAnyH_weaken hs fuel _ a' w' h'.2⟩) (h.2 i hi)⟩

/-- From here on at most the blocks K are written, of those that are there. -/
def Rest (P : Program) (md : Region.Mode) (ops : Array Oper) (Q : Exit → Act → World → Prop) (K : List Nat) (fuel : Nat) (listed : Array Bool) (a : Act) (w : World) : Prop :=
  wpAnyH P md ops Q (Mod K w) fuel listed a w

theorem rest_start {id : Nat} {a : Act} {w : World} (K : List Nat) (n : Nat) (L : Array Bool) (hn : ops.size = n) (hL : Array.replicate n false = L) (hm : P.follows .mixedOrders = true)
    (h : ∀ w1, Mod [] w w1 → Rest P .any ops Q K n L a w1) : (Code.region id ops true).wp P Q a w := by
  subst hn hL
  exact wp_region_held hm (h w.drew (Mod.drew _ _))

theorem rest_take {K : List Nat} {i : Nat} {oi : Oper} {v : Value} {fuel : Nat} {listed : Array Bool} {a : Act} {w : World} (hi : ops[i]? = some oi)
    (hs : Region.noSelect ops = true) (hf : Region.free md ops listed i = true) (hr : (Region.ready md ops listed).contains i = true)
    (hQ : ∀ c a w, Q (.panic c) (a.put oi.dst v) w → Q (.panic c) a w) (hy : YieldsIf P ops (Mod K w) oi v a)
    (h : Rest P md ops Q K fuel (listed.setIfInBounds i true) (a.put oi.dst v) w) : Rest P md ops Q K (fuel + 1) listed a w :=
  wpAnyH_take hi hs hf hr hQ hy (Mod.refl _ _) h

/-- One operation that is taken first, written out. -/
theorem rest_got {K : List Nat} {i : Nat} {dst : Option Tmp} {op : Op} {ty : TypeId} {pos : String} {after : Array Edge} {gd : Option (Nat × Bool)} {v : Value} {fuel : Nat} {listed : Array Bool} {a : Act} {w : World} (hi : ops[i]? = some ⟨dst, op, ty, pos, after, gd⟩)
    (hs : Region.noSelect ops = true) (hf : Region.free md ops listed i = true) (hr : (Region.ready md ops listed).contains i = true)
    (hQ : ∀ c a w, Q (.panic c) (a.put dst v) w → Q (.panic c) a w) (hw : Region.wanted ⟨dst, op, ty, pos, after, gd⟩ (yielded ops a.tmps) = true)
    (hy : ∀ w', Mod K w w' → (execOp a.eval ⟨dst, op, ty, pos, after, gd⟩).run P w' = .ok (.value v) w')
    (h : Rest P md ops Q K fuel (listed.setIfInBounds i true) (a.put dst v) w) : Rest P md ops Q K (fuel + 1) listed a w :=
  rest_take hi hs hf hr hQ (Or.inl ⟨hw, hy⟩) h
/-- One that is not wanted. -/
theorem rest_skip {K : List Nat} {i : Nat} {dst : Option Tmp} {op : Op} {ty : TypeId} {pos : String} {after : Array Edge} {gd : Option (Nat × Bool)} {fuel : Nat} {listed : Array Bool} {a : Act} {w : World} (hi : ops[i]? = some ⟨dst, op, ty, pos, after, gd⟩)
    (hs : Region.noSelect ops = true) (hf : Region.free md ops listed i = true) (hr : (Region.ready md ops listed).contains i = true)
    (hQ : ∀ c a w, Q (.panic c) (a.put dst undef) w → Q (.panic c) a w) (hw : Region.wanted ⟨dst, op, ty, pos, after, gd⟩ (yielded ops a.tmps) = false)
    (h : Rest P md ops Q K fuel (listed.setIfInBounds i true) (a.put dst undef) w) : Rest P md ops Q K (fuel + 1) listed a w :=
  rest_take hi hs hf hr hQ (Or.inr ⟨hw, rfl⟩) h

theorem rest_done {K : List Nat} {listed : Array Bool} {a : Act} {w : World} (hr : Region.ready md ops listed = []) (h : Q .normal a w) (fuel : Nat) :
    Rest P md ops Q K fuel listed a w := wpAnyH_done hr h fuel

/-- The way back into the region behind one operation; no tactic looks into it. -/
def Back (P : Program) (md : Region.Mode) (ops : Array Oper) (Q : Exit → Act → World → Prop) (K : List Nat) (w : World) (fuel : Nat) (listed : Array Bool) : Exit → Act → World → Prop := fun e a1 w1 =>
  match e with
  | .normal => Mod K w w1 ∧ wpAnyH P md ops Q (Mod K w) fuel listed a1 w1
  | e => Q e a1 w1

theorem back_to {K K1 : List Nat} {w w1 : World} {a1 : Act} {fuel : Nat} {listed : Array Bool} (hm : Mod K w w1) (hk : ∀ k, k ∈ K1 → k < w.heap.size → k ∈ K)
    (h : Rest P md ops Q K1 fuel listed a1 w1) : Back P md ops Q K w fuel listed .normal a1 w1 :=
  ⟨hm, wpAnyH_weaken (fun _ hw => hm.trans hw hk) _ _ _ _ h⟩

/-- One operation that may come up, by itself. -/
theorem one_op {K : List Nat} {i : Nat} {dst : Option Tmp} {op : Op} {ty : TypeId} {pos : String} {after : Array Edge} {gd : Option (Nat × Bool)} {fuel : Nat} {listed : Array Bool} {a : Act} {w : World} (ho : ops[i]? = some ⟨dst, op, ty, pos, after, gd⟩)
    (hw : Region.wanted ⟨dst, op, ty, pos, after, gd⟩ (yielded ops a.tmps) = true)
    (h : wpList P ops (Back P md ops Q K w fuel (listed.setIfInBounds i true)) [⟨dst, op, ty, pos, after, none⟩] a w) :
    wpOp P ops Q i (fun a' w' => Mod K w w' ∧ wpAnyH P md ops Q (Mod K w) fuel (listed.setIfInBounds i true) a' w') a w := by
  unfold wpOp
  simp only [ho]
  rw [if_pos hw]
  have hwn : Region.wanted ⟨dst, op, ty, pos, after, none⟩ (yielded ops a.tmps) = true := rfl
  unfold wpList at h
  rw [if_pos hwn] at h
  refine h.imp (fun h => ?_) id
  have h : Oper.upon P ⟨dst, op, ty, pos, after, gd⟩ a (wpList P ops (Back P md ops Q K w fuel (listed.setIfInBounds i true)) []) (Back P md ops Q K w fuel (listed.setIfInBounds i true)) ((execOp a.eval ⟨dst, op, ty, pos, after, gd⟩).run P w) := h
  unfold Oper.wp
  generalize (execOp a.eval ⟨dst, op, ty, pos, after, gd⟩).run P w = r at *
  cases r with
  | ok n w' =>
    cases n <;> simp only [Oper.upon] at h ⊢ <;>
      first
        | exact Calls.mono h (fun e w'' he => by cases e <;> exact he)
        | exact Rows.mono h (fun _ _ he => he)
        | exact h
  | halt x w' => cases x <;> simp only [Oper.upon] at h ⊢ <;> exact h

theorem rest_one {K : List Nat} {i : Nat} {dst : Option Tmp} {op : Op} {ty : TypeId} {pos : String} {after : Array Edge} {gd : Option (Nat × Bool)} {fuel : Nat} {listed : Array Bool} {a : Act} {w : World} (hr : Region.ready md ops listed = [i]) (ho : ops[i]? = some ⟨dst, op, ty, pos, after, gd⟩)
    (hw : Region.wanted ⟨dst, op, ty, pos, after, gd⟩ (yielded ops a.tmps) = true)
    (h : wpList P ops (Back P md ops Q K w fuel (listed.setIfInBounds i true)) [⟨dst, op, ty, pos, after, none⟩] a w) : Rest P md ops Q K (fuel + 1) listed a w := by
  refine wpAnyH_all hr (by simp) ?_
  intro j hj
  simp only [List.mem_singleton] at hj
  subst hj
  exact one_op ho hw h

/-- Two operations may come up: either one. -/
theorem rest_two {K : List Nat} {i j : Nat} {dst dst' : Option Tmp} {op op' : Op} {ty ty' : TypeId} {pos pos' : String} {after after' : Array Edge} {gd gd' : Option (Nat × Bool)} {fuel : Nat} {listed : Array Bool} {a : Act} {w : World} (hr : Region.ready md ops listed = [i, j])
    (ho : ops[i]? = some ⟨dst, op, ty, pos, after, gd⟩) (hw : Region.wanted ⟨dst, op, ty, pos, after, gd⟩ (yielded ops a.tmps) = true)
    (ho' : ops[j]? = some ⟨dst', op', ty', pos', after', gd'⟩) (hw' : Region.wanted ⟨dst', op', ty', pos', after', gd'⟩ (yielded ops a.tmps) = true)
    (h : wpList P ops (Back P md ops Q K w fuel (listed.setIfInBounds i true)) [⟨dst, op, ty, pos, after, none⟩] a w)
    (h' : wpList P ops (Back P md ops Q K w fuel (listed.setIfInBounds j true)) [⟨dst', op', ty', pos', after', none⟩] a w) : Rest P md ops Q K (fuel + 1) listed a w := by
  refine wpAnyH_all hr (by simp) ?_
  intro k hk
  simp only [List.mem_cons, List.not_mem_nil, or_false] at hk
  rcases hk with rfl | rfl
  · exact one_op ho hw h
  · exact one_op ho' hw' h'

theorem fresh_of {w w' : World} {a' : Option Addr} (n : SameOrNew w w' none a') {K : List Nat} : ∀ k, k ∈ blk a' → k < w.heap.size → k ∈ K := by
  intro k hk hl
  rcases n.blk k hk with h | h
  · simp [blk] at h
  · omega

/-- string(b), taken first. -/
theorem reads_str {K : List Nat} {w : World} {dst : Option Tmp} {ty : TypeId} {pos : String} {after : Array Edge} {gd : Option (Nat × Bool)} (ev : Operand → Value) (x : Operand) (src d e : TypeId)
    (hs : P.underlying src = some (.slice e)) (he : P.underlying e = some (.int .u8)) (hd : P.underlying d = some .string)
    (so : Option Addr) (m c : Nat) (l : List UInt8) (hx : ev x = .slice so m c) (hl : l.length = m) (hsees : Sees w so l) (hk : ∀ k, k ∈ blk so → k ∉ K) :
    ∀ w', Mod K w w' → (execOp ev ⟨dst, .convert src d x, ty, pos, after, gd⟩).run P w' = .ok (.value (strV l)) w' := by
  subst hl
  intro w' hm
  have hr := run_string_of (P := P) w' src d e hs he hd so c l (hsees.mod hm (by intro b off h; subst h; exact hk b (by simp [blk])))
  unfold execOp
  simp [hx, hr]
end

/-- s + t, s == t and s != t of strings that are known. -/
theorem reads_cat (w : World) {dst : Option Tmp} {ty t2 : TypeId} {pos : String} {after : Array Edge} {gd : Option (Nat × Bool)} (ev : Operand → Value) (x y : Operand) (l1 l2 : List UInt8)
    (hx : ev x = strV l1) (hy : ev y = strV l2) (hl : l1.length + l2.length ≤ 9223372036854775807) :
    (execOp ev ⟨dst, .binOp .add 9 x y t2, ty, pos, after, gd⟩).run Try.prog w = .ok (.value (strV (l1 ++ l2))) w := by
  have h1 : ({ data := l1.toArray } : ByteArray) ++ { data := l2.toArray } = ⟨(l1 ++ l2).toArray⟩ := by
    apply ByteArray.ext
    simp
  have h2 : ¬ 9223372036854775807 < l1.length + l2.length := by omega
  have h4 : (Op.stringOp .add ⟨l1.toArray⟩ ⟨l2.toArray⟩).run Try.prog w = .ok (strV (l1 ++ l2)) w := by
    rw [run_string_add_sum _ _ _ (by simpa [ByteArray.size] using hl), h1]
  have h5 : (binOp .add 9 (strV l1) (strV l2)).run Try.prog w = .ok (strV (l1 ++ l2)) w := by rw [binOp_string_add]; exact h4
  simp [execOp, hx, hy, eqGuard, h5]
theorem reads_eqs (w : World) {dst : Option Tmp} {ty t2 : TypeId} {pos : String} {after : Array Edge} {gd : Option (Nat × Bool)} (ev : Operand → Value) (x y : Operand) (l1 l2 : List UInt8)
    (hx : ev x = strV l1) (hy : ev y = strV l2) :
    (execOp ev ⟨dst, .binOp .eql 9 x y t2, ty, pos, after, gd⟩).run Try.prog w = .ok (.value (.bool (decide (l1 = l2)))) w := by
  have h4 : ((⟨l1.toArray⟩ : ByteArray).toList == (⟨l2.toArray⟩ : ByteArray).toList) = decide (l1 = l2) := by
    rw [ByteArray.toList_eq, ByteArray.toList_eq]
    by_cases h : l1 = l2
    · subst h; simp
    · simp [h]
  have h5 : (binOp .eql 9 (strV l1) (strV l2)).run Try.prog w = .ok (.bool (decide (l1 = l2))) w := by rw [binOp_string_eql, h4]; rfl
  simp [execOp, hx, hy, eqGuard, h5]
theorem reads_nes (w : World) {dst : Option Tmp} {ty t2 : TypeId} {pos : String} {after : Array Edge} {gd : Option (Nat × Bool)} (ev : Operand → Value) (x y : Operand) (l1 l2 : List UInt8)
    (hx : ev x = strV l1) (hy : ev y = strV l2) :
    (execOp ev ⟨dst, .binOp .neq 9 x y t2, ty, pos, after, gd⟩).run Try.prog w = .ok (.value (.bool (!(decide (l1 = l2))))) w := by
  have h4 : ((⟨l1.toArray⟩ : ByteArray).toList == (⟨l2.toArray⟩ : ByteArray).toList) = decide (l1 = l2) := by
    rw [ByteArray.toList_eq, ByteArray.toList_eq]
    by_cases h : l1 = l2
    · subst h; simp
    · simp [h]
  have h5 : (binOp .neq 9 (strV l1) (strV l2)).run Try.prog w = .ok (.bool (!(decide (l1 = l2)))) w := by rw [binOp_string_neq, h4]; rfl
  simp [execOp, hx, hy, eqGuard, h5]
end Go.Proofs.Ytgneigdcgfiooaa
/- The walks of the session package: a table, what a command is, what is kept. -/
namespace Go.Proofs.Ytgneigdcgfiooaa
open Go Go.RowKit Go.Lib Go.MapKept

theorem Mod.frozen {S : List Nat} {w w' : World} (h : Mod S w w') {p : Addr} (hb : p.block < w.heap.size) (hn : p.block ∉ S) : w'.frozen? p = w.frozen? p := by
  simp only [World.frozen?, h.block p.block hb hn]
theorem Mod.fresh1 {a b c : World} {g : Nat} (h : Mod [] a b) (k : Mod [g] b c) (hg : a.heap.size ≤ g) : Mod [] a c :=
  h.trans k (fun i hi hl => by simp only [List.mem_singleton] at hi; subst hi; omega)

theorem two_mod (w : World) (g : Nat) (u v : Value) : Mod [g] w ((w.setCell ⟨g, 0, none⟩ u).setCell ⟨g, 1, none⟩ v) :=
  (Mod.setCell _ _ _ (by simp)).trans' (Mod.setCell _ _ _ (by simp))
/-- What a client's entry is: number, code, text. -/
abbrev Ent := Int × Int × ByteArray
def entV (x : Ent) : Value := .agg #[.int .u32 x.1, .int .u8 x.2.1, .string x.2.2]
def mapV (f : Int → Option Ent) : Value → Option Value
  | .int .u32 k => (f k).map entV
  | _ => none
/-- A table. -/
def Tab (w : World) (g b n : Nat) (f : Int → Option Ent) : Prop :=
  ∃ gc, w.heap[g]? = some (.cells #[.pointer (some ⟨gc, 0, none⟩)] 52 (0, 0)) ∧ w.heap[gc]? = some (.cells #[.map (some b)] 50 (0, 0)) ∧ MapF w b (.int .u32) n (mapV f)
theorem MapF.cell_ne {w : World} {b n : Nat} {d : TypeDesc} {f : Value → Option Value} (h : MapF w b d n f) {g : Nat} {c : Array Value} {t : TypeId} {z : Nat × Nat} (hg : w.heap[g]? = some (.cells c t z)) : g ≠ b := by
  rintro rfl
  obtain ⟨es, clock, h1, _⟩ := h
  rw [hg] at h1
  cases h1
theorem Tab.mod0 {w w' : World} {g b n : Nat} {f : Int → Option Ent} (h : Tab w g b n f) (hm : Mod [] w w') : Tab w' g b n f := by
  obtain ⟨gc, h1, h2, h3⟩ := h
  exact ⟨gc, hm.get h1 (by simp), hm.get h2 (by simp), h3.mod0 hm⟩

set_option maxRecDepth 100000 in
theorem new_any (w : World) : Calls Try.prog 8 #[] w fun e w' => ∃ g b, e = .returned (.pointer (some ⟨g, 0, none⟩)) ∧ Tab w' g b 0 (fun _ => none) ∧ Mod [] w w' ∧ w.heap.size ≤ b := by
  go_enter Try.func8, Try.ntmps8
  go_wp2_with (first | (refine wpl_makemap (dst := some 1) _ ?_) | fail)
  go_wp2
  go_ret
  have e1 := MapF.made w (.int .u32)
  have e2 := heap_alloc_new (w.alloc (.map #[] 0)) (.cells #[.map (some w.heap.size)] 50)
  have m2 := Mod.alloc [] (w.alloc (.map #[] 0)) (.cells #[.map (some w.heap.size)] 50)
  have m3 := Mod.alloc [] ((w.alloc (.map #[] 0)).alloc (.cells #[.map (some w.heap.size)] 50)) (.cells #[.pointer (some ⟨w.heap.size + 1, 0, none⟩)] 52)
  have e3 := heap_alloc_new ((w.alloc (.map #[] 0)).alloc (.cells #[.map (some w.heap.size)] 50)) (.cells #[.pointer (some ⟨w.heap.size + 1, 0, none⟩)] 52)
  have z1 : (w.alloc (.map #[] 0)).heap.size = w.heap.size + 1 := by simp
  have z2 : ((w.alloc (.map #[] 0)).alloc (.cells #[.map (some w.heap.size)] 50)).heap.size = w.heap.size + 1 + 1 := by simp
  rw [z1] at e2
  rw [z2] at e3
  refine ⟨w.heap.size + 1 + 1, w.heap.size, rfl, ⟨w.heap.size + 1, e3, m3.get e2 (by simp), ?_⟩, ((Mod.alloc [] w _).trans' m2).trans' m3, Nat.le_refl _⟩
  have e4 := (e1.mod0 m2).mod0 m3
  have e5 : (mapV fun _ => none) = fun _ => none := by funext v; unfold mapV; split <;> rfl
  rw [e5]
  exact e4
set_option maxRecDepth 100000 in
theorem clen_any (gc b n : Nat) (f : Value → Option Value) (w : World) (h1 : w.heap[gc]? = some (.cells #[.map (some b)] 50 (0, 0))) (h : MapF w b (.int .u32) n f) :
    Calls Try.prog 28 #[.pointer (some ⟨gc, 0, none⟩)] w fun e w' => e = .returned (.int .i64 (n : Int)) ∧ w' = w := by
  have H := Lib.hid h
  have c0 : w.cell? ⟨gc, 0, none⟩ = some (.map (some b)) := by rw [cell_of_block h1]; rfl
  clear h h1
  go_enter Try.func28, Try.ntmps28
  go_wp2_with (first | (at_len; refine wpl_lenmap (dst := some 9) _ _ H.out Try.underlying48 rfl ?_) | fail)
  go_ret
  exact ⟨rfl, rfl⟩
theorem tlen_any (g b n : Nat) (f : Int → Option Ent) (w : World) (h : Tab w g b n f) :
    Calls Try.prog 17 #[.pointer (some ⟨g, 0, none⟩)] w fun e w' => e = .returned (.int .i64 (n : Int)) ∧ w' = w := by
  obtain ⟨gc, h1, h2, h3⟩ := h
  have H2 := Lib.hid h2
  have H3 := Lib.hid h3
  have c0 : w.cell? ⟨g, 0, none⟩ = some (.pointer (some ⟨gc, 0, none⟩)) := by rw [cell_of_block h1]; rfl
  clear h1 h2 h3
  go_enter Try.func17, Try.ntmps17
  go_wp2_with fail
  refine (clen_any gc b n _ w H2.out H3.out).mono ?_
  rintro e w1 ⟨rfl, rfl⟩
  go_wp2
  go_ret
  exact ⟨rfl, rfl⟩
/-- What a command is: the reply, and the word. -/
def lookF (f : Int → Option Ent) (c s : Int) : (Int × ByteArray) × Int :=
  match f c with
  | none => ((0, ⟨#[]⟩), 0)
  | some (q, cd, t) => if q < s then ((0, ⟨#[]⟩), 0) else if s = q then ((cd, t), 1) else ((3, ⟨#[]⟩), 2)
theorem zeroLast (w : World) : (zeroValue 54).run Try.prog w = .ok (.agg #[.int .u32 0, .int .u8 0, .string ⟨#[]⟩]) w := by
  have h : (Try.prog.info? 54).map (fun i => (i.zero, i.size, i.bytes)) = some (some (.agg #[.int .u32 0, .int .u8 0, .string ⟨#[]⟩]), 3, 32) := by kernel_rfl
  obtain ⟨i0, hi, hz0, hz1, hz2⟩ := info_parts h
  simp [zeroValue, typeInfo, hi, hz0, Result.andThen]
set_option maxRecDepth 100000 in
set_option maxHeartbeats 1000000 in
theorem look_any (g b n : Nat) (f : Int → Option Ent) (c s : Int) (w : World) (h : Tab w g b n f) :
    Calls Try.prog 10 #[.pointer (some ⟨g, 0, none⟩), .int .u32 c, .int .u32 s] w fun e w' =>
      e = .returned (.tuple #[.agg #[.int .u8 (lookF f c s).1.1, .string (lookF f c s).1.2], .int .u8 (lookF f c s).2]) ∧ Mod [] w w' := by
  have H := Lib.hid h
  obtain ⟨gc, h1, h2, h3⟩ := h
  have H3 := Lib.hid h3
  have c0 : w.cell? ⟨g, 0, none⟩ = some (.pointer (some ⟨gc, 0, none⟩)) := by rw [cell_of_block h1]; rfl
  have c1 : w.cell? ⟨gc, 0, none⟩ = some (.map (some b)) := by rw [cell_of_block h2]; rfl
  have hl0 := lt_of_block h1
  have hl1 := lt_of_block h2
  have HL : Hid (lookF f c s = match f c with
    | none => ((0, ⟨#[]⟩), 0)
    | some (q, cd, t) => if q < s then ((0, ⟨#[]⟩), 0) else if s = q then ((cd, t), 1) else ((3, ⟨#[]⟩), 2)) := rfl
  clear h1 h2 h3
  by_cases hn : n = 0
  · subst hn
    have hv := HL.out
    have hfc : f c = none := by
      have h0 := H3.out.zero (.int .u32 c)
      simp only [mapV] at h0
      simpa using h0
    rw [hfc] at hv
    have HV := Lib.hid hv
    clear hv hfc HL
    go_enter Try.func10, Try.ntmps10
    go_wp2_with fail
    refine (tlen_any g b 0 f _ (H.out.mod0 (Mod.alloc _ _ _))).mono ?_
    rintro e w1 ⟨rfl, rfl⟩
    go_wp2
    ((try simp only [Exit.inBlock, Exit.then]); refine bodyPost_ret (by simp [results, Try.results10, go_sem, *]; try rfl) rfl ?_)
    rw [HV.out]
    exact ⟨rfl, .ofBelow (by go_grown)⟩
  · have hn0 : ((n : Int) == 0) = false := by rw [beq_eq_false_iff_ne]; omega
    have HM := Lib.hid (H3.out.mod0 (Mod.alloc [] w (.cells #[.int .u8 0, .string ⟨#[]⟩] 25)))
    have hv := HL.out
    clear HL
    cases hfc : f c with
    | none =>
      rw [hfc] at hv
      have HV := Lib.hid hv
      have HF : Hid (mapV f (.int .u32 c) = none) := by show (f c).map entV = none; rw [hfc]; rfl
      clear hv hfc
      go_enter Try.func10, Try.ntmps10
      go_wp2_with fail
      refine (tlen_any g b n f _ (H.out.mod0 (Mod.alloc _ _ _))).mono ?_
      rintro e w1 ⟨rfl, rfl⟩
      go_wp2_with (first | (at_lookup; refine wpl_lookup_none (dst := some 23) _ _ _ HM.out Try.underlying48 Try.underlying23 rfl rfl rfl (zeroLast _) HF.out ?_) | fail)
      ((try simp only [Exit.inBlock, Exit.then]); refine bodyPost_ret (by simp [results, Try.results10, go_sem, *]; try rfl) rfl ?_)
      rw [HV.out]
      exact ⟨rfl, .ofBelow (by go_grown)⟩
    | some x =>
      obtain ⟨q, cd, t⟩ := x
      rw [hfc] at hv
      have HF : Hid (mapV f (.int .u32 c) = some (.agg #[.int .u32 q, .int .u8 cd, .string t])) := by show (f c).map entV = _; rw [hfc]; rfl
      dsimp only at hv
      clear hfc
      by_cases hlt : q < s
      · rw [if_pos hlt] at hv
        have HV := Lib.hid hv
        clear hv
        go_enter Try.func10, Try.ntmps10
        go_wp2_with fail
        refine (tlen_any g b n f _ (H.out.mod0 (Mod.alloc _ _ _))).mono ?_
        rintro e w1 ⟨rfl, rfl⟩
        go_wp2_with (first | (at_lookup; refine wpl_lookup_some (dst := some 23) _ _ _ HM.out Try.underlying48 Try.underlying23 rfl rfl rfl (zeroLast _) HF.out ?_) | fail)
        ((try simp only [Exit.inBlock, Exit.then]); refine bodyPost_ret (by simp [results, Try.results10, go_sem, *]; try rfl) rfl ?_)
        rw [HV.out]
        exact ⟨rfl, .ofBelow (by go_grown)⟩
      · by_cases he : s = q
        · subst he
          rw [if_neg hlt, if_pos rfl] at hv
          have HV := Lib.hid hv
          clear hv
          go_enter Try.func10, Try.ntmps10
          go_wp2_with fail
          refine (tlen_any g b n f _ (H.out.mod0 (Mod.alloc _ _ _))).mono ?_
          rintro e w1 ⟨rfl, rfl⟩
          go_wp2_with (first | (at_lookup; refine wpl_lookup_some (dst := some 23) _ _ _ HM.out Try.underlying48 Try.underlying23 rfl rfl rfl (zeroLast _) HF.out ?_) | fail)
          ((try simp only [Exit.inBlock, Exit.then]); refine bodyPost_ret (by simp [results, Try.results10, go_sem, *]; try rfl) rfl ?_)
          rw [HV.out]
          exact ⟨rfl, .ofBelow (by go_grown)⟩
        · rw [if_neg hlt, if_neg he] at hv
          have HV := Lib.hid hv
          clear hv
          go_enter Try.func10, Try.ntmps10
          go_wp2_with fail
          refine (tlen_any g b n f _ (H.out.mod0 (Mod.alloc _ _ _))).mono ?_
          rintro e w1 ⟨rfl, rfl⟩
          go_wp2_with (first | (at_lookup; refine wpl_lookup_some (dst := some 23) _ _ _ HM.out Try.underlying48 Try.underlying23 rfl rfl rfl (zeroLast _) HF.out ?_) | fail)
          ((try simp only [Exit.inBlock, Exit.then]); refine bodyPost_ret (by simp [results, Try.results10, go_sem, *]; try rfl) rfl ?_)
          rw [HV.out]
          exact ⟨rfl, .ofBelow (by go_grown)⟩
end Go.Proofs.Ytgneigdcgfiooaa
/- The walk of the session package: what is kept. -/
namespace Go.Proofs.Ytgneigdcgfiooaa
open Go Go.RowKit Go.Lib Go.MapKept

theorem mapV_at (f : Int → Option Ent) (c : Int) (x : Ent) : mapV (fun k => if k = c then some x else f k) (.int .u32 c) = some (entV x) := by
  show (if c = c then some x else f c).map entV = _
  rw [if_pos rfl]; rfl
theorem mapV_set (f : Int → Option Ent) (c : Int) (x : Ent) (k' : Value) (hk : k' ≠ .int .u32 c) : mapV (fun k => if k = c then some x else f k) k' = mapV f k' := by
  unfold mapV
  split
  · rename_i k
    have : k ≠ c := fun h => hk (by rw [h])
    simp [this]
  · rfl
def keepF (f : Int → Option Ent) (c s : Int) (r : Int × ByteArray) : Int → Option Ent :=
  if c ≠ 0 ∧ (lookF f c s).2 = 0 then (fun k => if k = c then some (s, r) else f k) else f
def keepN (f : Int → Option Ent) (n : Nat) (c s : Int) : Nat :=
  if c ≠ 0 ∧ (lookF f c s).2 = 0 then (if (f c).isSome then n else n + 1) else n

set_option maxRecDepth 100000 in
set_option maxHeartbeats 1000000 in
theorem keep_any (g b n : Nat) (f : Int → Option Ent) (c s cd : Int) (t : ByteArray) (w : World) (h : Tab w g b n f) :
    Calls Try.prog 9 #[.pointer (some ⟨g, 0, none⟩), .int .u32 c, .int .u32 s, .agg #[.int .u8 cd, .string t]] w fun e w' =>
      (∃ v, e = .returned v) ∧ Tab w' g b (keepN f n c s) (keepF f c s (cd, t)) ∧ Mod [b] w w' := by
  have H := Lib.hid h
  have HK : Hid (keepF f c s (cd, t) = if c ≠ 0 ∧ (lookF f c s).2 = 0 then (fun k => if k = c then some (s, cd, t) else f k) else f) := rfl
  have HN : Hid (keepN f n c s = if c ≠ 0 ∧ (lookF f c s).2 = 0 then (if (f c).isSome then n else n + 1) else n) := rfl
  clear h
  obtain ⟨⟨⟨cd0, t0⟩, what⟩, hlk⟩ : ∃ p, lookF f c s = p := ⟨_, rfl⟩
  have hk := HK.out
  have hn := HN.out
  rw [hlk] at hk hn
  dsimp only at hk hn
  clear HK HN
  go_enter Try.func9, Try.ntmps9
  go_wp2_with fail
  refine (look_any g b n f c s _ (H.out.mod0 (Mod.alloc _ _ _))).mono ?_
  rw [hlk]
  rintro e w1 ⟨rfl, m1⟩
  dsimp only
  have A0 : Hid (w1.cell? ⟨w.heap.size, 0, none⟩ = some (.int .u8 cd)) := m1.cell (by go_cell) (by simp)
  have A1 : Hid (w1.cell? ⟨w.heap.size, 1, none⟩ = some (.string t)) := m1.cell (by go_cell) (by simp)
  have M1 := Lib.hid ((Mod.alloc [] w (.cells #[.int .u8 cd, .string t] 25)).trans' m1)
  clear m1 hlk
  by_cases hc : c = 0
  · subst hc
    rw [if_neg (by simp)] at hk hn
    have HK := Lib.hid hk
    have HN := Lib.hid hn
    clear hk hn
    go_wp2
    go_end0
    rw [HK.out, HN.out]
    exact ⟨⟨_, rfl⟩, H.out.mod0 (M1.out.trans' (Mod.alloc _ _ _)), (M1.out.trans' (Mod.alloc _ _ _)).nil⟩
  · by_cases hw : what = 0
    · subst hw
      rw [if_pos ⟨hc, rfl⟩] at hk hn
      have HK := Lib.hid hk
      have HN := Lib.hid hn
      clear hk hn
      obtain ⟨nn, hnn⟩ : ∃ nn, (if (f c).isSome then n else n + 1) = nn := ⟨_, rfl⟩
      have HE : Hid ((if (mapV f (.int .u32 c)).isSome then n else n + 1) = nn) := by
        have e : (mapV f (.int .u32 c)).isSome = (f c).isSome := by show ((f c).map entV).isSome = _; cases f c <;> rfl
        show _ = _
        rw [e]; exact hnn
      have HNN := Lib.hid hnn
      clear hnn
      go_upto_region 3 with (fail)
      refine rest_start [b] 12 #[false, false, false, false, false, false, false, false, false, false, false, false] rfl (by kernel_rfl) (by kernel_rfl) ?_
      intro w2 m2
      have m3 := (M1.out.trans' (Mod.alloc [] w1 (.cells #[.int .u8 cd0, .string t0] 25))).trans' m2
      have mm := (Mod.alloc [] w1 (.cells #[.int .u8 cd0, .string t0] 25)).trans' m2
      have M3 := Lib.hid m3
      have A2 := Lib.hid (mm.cell A0.out (by simp))
      have A3 := Lib.hid (mm.cell A1.out (by simp))
      have H2 := Lib.hid (H.out.mod0 m3)
      have hbw : b < w.heap.size := by obtain ⟨gc, h1, h2, h3⟩ := H.out; exact h3.lt
      obtain ⟨gc, h1, h2, h3⟩ := H2.out
      have hgb := h3.cell_ne h1
      have hgcb := h3.cell_ne h2
      have E0 : Hid (w2.cell? ⟨g, 0, none⟩ = some (.pointer (some ⟨gc, 0, none⟩))) := by show _ = _; rw [cell_of_block h1]; rfl
      have E1 : Hid (w2.cell? ⟨gc, 0, none⟩ = some (.map (some b))) := by show _ = _; rw [cell_of_block h2]; rfl
      have E2 := Lib.hid h1
      have E3 := Lib.hid h2
      have E4 := Lib.hid h3
      have HD := Lib.hid (show entV (s, cd, t) = .agg #[.int .u32 s, .int .u8 cd, .string t] from rfl)
      clear h1 h2 h3 m2 m3 mm A0 A1 M1
      refine rest_got (i := 0) (v := ?v1) rfl (by kernel_rfl) (by kernel_rfl) (by kernel_rfl) (fun _ _ _ h => h) (by rfl) ?y1 ?r1
      case y1 => (intro w9q hSwq; clear hSwq; go_simp; with_reducible rfl)
      try simp only [Act.put, List.setIfInBounds_toArray, List.set_cons_zero, List.set_cons_succ]
      refine rest_got (i := 1) (v := ?v2) rfl (by kernel_rfl) (by kernel_rfl) (by kernel_rfl) (fun _ _ _ h => h) (by rfl) ?y2 ?r2
      case y2 => (intro w9q hSwq; clear hSwq; go_simp; with_reducible rfl)
      try simp only [Act.put, List.setIfInBounds_toArray, List.set_cons_zero, List.set_cons_succ]
      refine rest_got (i := 2) (v := ?v3) rfl (by kernel_rfl) (by kernel_rfl) (by kernel_rfl) (fun _ _ _ h => h) (by rfl) ?y3 ?r3
      case y3 => (intro w9q hSwq; clear hSwq; go_simp; with_reducible rfl)
      try simp only [Act.put, List.setIfInBounds_toArray, List.set_cons_zero, List.set_cons_succ]
      refine rest_got (i := 3) (v := ?v4) rfl (by kernel_rfl) (by kernel_rfl) (by kernel_rfl) (fun _ _ _ h => h) (by rfl) ?y4 ?r4
      case y4 => ((intro w9' hm9'; have hc9' := Mod.cell hm9' E0.out (by first | exact List.not_mem_nil | (simp; omega)); clear hm9'; go_simp; with_reducible rfl))
      try simp only [Act.put, List.setIfInBounds_toArray, List.set_cons_zero, List.set_cons_succ]
      refine rest_got (i := 4) (v := ?v5) rfl (by kernel_rfl) (by kernel_rfl) (by kernel_rfl) (fun _ _ _ h => h) (by rfl) ?y5 ?r5
      case y5 => (intro w9q hSwq; clear hSwq; go_simp; with_reducible rfl)
      try simp only [Act.put, List.setIfInBounds_toArray, List.set_cons_zero, List.set_cons_succ]
      refine rest_got (i := 5) (v := ?v6) rfl (by kernel_rfl) (by kernel_rfl) (by kernel_rfl) (fun _ _ _ h => h) (by rfl) ?y6 ?r6
      case y6 => (intro w9q hSwq; clear hSwq; go_simp; with_reducible rfl)
      try simp only [Act.put, List.setIfInBounds_toArray, List.set_cons_zero, List.set_cons_succ]
      refine rest_got (i := 6) (v := ?v7) rfl (by kernel_rfl) (by kernel_rfl) (by kernel_rfl) (fun _ _ _ h => h) (by rfl) ?y7 ?r7
      case y7 => ((intro w9' hm9'; have hc9' := Mod.cell hm9' E1.out (by first | exact List.not_mem_nil | (simp; omega)); clear hm9'; go_simp; with_reducible rfl))
      try simp only [Act.put, List.setIfInBounds_toArray, List.set_cons_zero, List.set_cons_succ]
      refine rest_got (i := 7) (v := ?v8) rfl (by kernel_rfl) (by kernel_rfl) (by kernel_rfl) (fun _ _ _ h => h) (by rfl) ?y8 ?r8
      case y8 => (intro w9q hSwq; clear hSwq; go_simp; with_reducible rfl)
      try simp only [Act.put, List.setIfInBounds_toArray, List.set_cons_zero, List.set_cons_succ]
      refine rest_got (i := 8) (v := ?v9) rfl (by kernel_rfl) (by kernel_rfl) (by kernel_rfl) (fun _ _ _ h => h) (by rfl) ?y9 ?r9
      case y9 => (intro w9q hSwq; clear hSwq; go_simp; with_reducible rfl)
      try simp only [Act.put, List.setIfInBounds_toArray, List.set_cons_zero, List.set_cons_succ]
      refine rest_got (i := 9) (v := ?v10) rfl (by kernel_rfl) (by kernel_rfl) (by kernel_rfl) (fun _ _ _ h => h) (by rfl) ?y10 ?r10
      case y10 => ((intro w9' hm9'; have hc9' := Mod.cell hm9' A2.out (by first | exact List.not_mem_nil | (simp; omega)); have hd9' := Mod.cell hm9' A3.out (by first | exact List.not_mem_nil | (simp; omega)); clear hm9'; go_simp; with_reducible rfl))
      try simp only [Act.put, List.setIfInBounds_toArray, List.set_cons_zero, List.set_cons_succ]
      refine rest_got (i := 10) (v := ?v11) rfl (by kernel_rfl) (by kernel_rfl) (by kernel_rfl) (fun _ _ _ h => h) (by rfl) ?y11 ?r11
      case y11 => (intro w9q hSwq; clear hSwq; go_simp; with_reducible rfl)
      try simp only [Act.put, List.setIfInBounds_toArray, List.set_cons_zero, List.set_cons_succ]
      refine rest_one (i := 11) (by kernel_rfl) rfl (by rfl) ?_
      go_wp2_with (first | (at_mapUpdate; refine wpl_update (k := .int .u32 c) (v := entV (s, cd, t)) _ _ _ _ E4.out Try.underlying48 Try.underlying23 rfl rfl rfl rfl (mapV (fun k => if k = c then some (s, cd, t) else f k)) (mapV_at f c (s, cd, t)) (fun k' hk' => mapV_set f c (s, cd, t) k' hk') nn HE.out ?_) | fail)
      intro w7 m7 H7
      have E5 := Lib.hid (m7.get E2.out (by simp; omega))
      have E6 := Lib.hid (m7.get E3.out (by simp; omega))
      have M7 := Lib.hid (M3.out.nil.trans' m7)
      go_wp2_with fail
      refine back_to (K1 := []) m7 (by simp) ?_
      clear m7
      refine rest_done (by kernel_rfl) ?_ _
      go_wp2
      go_end0
      rw [HK.out, HN.out]
      refine ⟨⟨_, rfl⟩, ⟨gc, E5.out, E6.out, ?_⟩, M7.out⟩
      rw [HNN.out]
      exact H7.out
    · rw [if_neg (by simp [hw])] at hk hn
      have hwb : (what == 0) = false := by simpa using hw
      have hcb : (c != 0) = true := by simpa using hc
      have HK := Lib.hid hk
      have HN := Lib.hid hn
      clear hk hn
      go_wp2
      go_end0
      rw [HK.out, HN.out]
      exact ⟨⟨_, rfl⟩, H.out.mod0 (M1.out.trans' (Mod.alloc _ _ _)), (M1.out.trans' (Mod.alloc _ _ _)).nil⟩
end Go.Proofs.Ytgneigdcgfiooaa
/- The walks of the session laws' helpers: whether acts are too many, a table that is known. -/
namespace Go.Proofs.Ytgneigdcgfiooaa
open Go Go.RowKit Go.Lib Go.MapKept

/-- An act: whether it keeps; client, number, code, text. -/
abbrev ActS := Bool × Int × Int × Int × ByteArray
def SeesA (w : World) (ao : Option Addr) (l : List ActS) : Prop :=
  ∀ j (h : j < l.length), ∃ b off, ao = some ⟨b, off, none⟩ ∧ w.cell? ⟨b, off + j * 5, none⟩ = some (.bool l[j].1) ∧ w.cell? ⟨b, off + j * 5 + 1, none⟩ = some (.int .u32 l[j].2.1) ∧
    w.cell? ⟨b, off + j * 5 + 2, none⟩ = some (.int .u32 l[j].2.2.1) ∧ w.cell? ⟨b, off + j * 5 + 3, none⟩ = some (.int .u8 l[j].2.2.2.1) ∧ w.cell? ⟨b, off + j * 5 + 4, none⟩ = some (.string l[j].2.2.2.2)
theorem SeesA.mod {S : List Nat} {w w' : World} {ao : Option Addr} {l : List ActS} (h : SeesA w ao l) (hm : Mod S w w') (hn : ∀ k, k ∈ S → ∀ a, ao = some a → a.block ≠ k) : SeesA w' ao l := by
  intro j hj
  obtain ⟨b, off, h1, h2, h3, h4, h5, h6⟩ := h j hj
  have hb : b ∉ S := fun hb => hn b hb _ h1 rfl
  exact ⟨b, off, h1, hm.cell h2 hb, hm.cell h3 hb, hm.cell h4 hb, hm.cell h5 hb, hm.cell h6 hb⟩
theorem SeesA.mod0 {w w' : World} {ao : Option Addr} {l : List ActS} (h : SeesA w ao l) (hm : Mod [] w w') : SeesA w' ao l := h.mod hm (by simp)

set_option maxRecDepth 100000 in
set_option maxHeartbeats 1000000 in
theorem great_any (ao : Option Addr) (len cap : Nat) (l : List ActS) (w : World) (hl : l.length = len) (hlen : len ≤ 9223372036854775807) (hs : SeesA w ao l) (hsz : ∀ x ∈ l, x.2.2.2.2.size ≤ 9223372036854775807) :
    Calls Try.prog 6 #[.slice ao len cap] w fun e w' => ∃ v, e = .returned (.bool v) ∧ Mod [] w w' := by
  subst hl
  have HS := Lib.hid hs
  have HZ := Lib.hid hsz
  clear hs hsz
  go_enter Try.func6, Try.ntmps6
  go_wp2
  go_loopw [3] (fun i wr => ∃ k : Nat, k ≤ l.length ∧ i = .int .i64 (k : Int) ∧ Mod [] w wr) (fun i _ => l.length - (RowKit.intOf i).toNat)
  case atStart => exact ⟨0, Nat.zero_le _, rfl, Mod.refl _ _⟩
  case round =>
    obtain ⟨k, hk, rfl, hm⟩ := hrel
    have HM := Lib.hid hm
    by_cases hlt : k < l.length
    · by_cases h201 : k < 201
      · obtain ⟨b, off, rfl, hc0, hc1, hc2, hc3, hc4⟩ := (HS.out.mod0 hm) k hlt
        have hz := HZ.out l[k] (List.getElem_mem hlt)
        obtain ⟨⟨kp, ac, aq, cd, t⟩, hlk⟩ : ∃ p, l[k] = p := ⟨_, rfl⟩
        rw [hlk] at hc0 hc1 hc2 hc3 hc4 hz
        dsimp only at hc0 hc1 hc2 hc3 hc4 hz
        clear hlk hm
        by_cases hts : 100 < t.size
        · go_wp2
          go_ret
          exact ⟨.inr rfl, HM.out⟩
        · by_cases hcd : 3 < cd
          · go_wp2
            go_ret
            exact ⟨true, rfl, HM.out⟩
          · go_wp2
            go_roundw
            case rel => exact ⟨k + 1, by omega, by go_num, HM.out⟩
            case measure => simp [RowKit.intOf]; omega
      · clear hm
        go_wp2
        go_ret
        exact ⟨_, rfl, HM.out⟩
    · have hke : k = l.length := by omega
      subst hke
      clear hm
      go_wp2
      go_ret
      exact ⟨_, rfl, HM.out⟩

theorem look_w (g b n : Nat) (f : Int → Option Ent) (c s cd wh : Int) (t : ByteArray) (w : World) (h : Tab w g b n f) (hv : lookF f c s = ((cd, t), wh)) :
    Calls Try.prog 10 #[.pointer (some ⟨g, 0, none⟩), .int .u32 c, .int .u32 s] w fun e w' =>
      e = .returned (.tuple #[.agg #[.int .u8 cd, .string t], .int .u8 wh]) ∧ Mod [] w w' := by
  have := look_any g b n f c s w h
  rw [hv] at this
  exact this

set_option maxRecDepth 100000 in
set_option maxHeartbeats 4000000 in
theorem wakes10_any (w : World) : Calls Try.prog 7 #[] w fun e w' => e = .returned (.bool true) ∧ Mod [] w w' := by
  have K1 : Hid (keepF (fun _ => none) 1 3 (0, ⟨#[120]⟩) = fun k => if k = 1 then some (3, 0, ⟨#[120]⟩) else none) := by show _ = _; unfold keepF; rw [if_pos ⟨by decide, rfl⟩]
  have K2 : Hid (keepN (fun _ => none) 0 1 3 = 1) := by show _ = _; rfl
  have L1 : Hid (lookF (fun k => if k = 1 then some (3, 0, ⟨#[120]⟩) else none) 1 3 = ((0, ⟨#[120]⟩), 1)) := by show _ = _; rfl
  have L2 : Hid (lookF (fun k => if k = 1 then some (3, 0, ⟨#[120]⟩) else none) 1 2 = ((3, ⟨#[]⟩), 2)) := by show _ = _; rfl
  have L3 : Hid (lookF (fun k => if k = 1 then some (3, 0, ⟨#[120]⟩) else none) 1 4 = ((0, ⟨#[]⟩), 0)) := by show _ = _; rfl
  go_enter Try.func7, Try.ntmps7
  go_wp2_with fail
  refine (new_any _).mono ?_
  rintro e w1 ⟨g, b, rfl, t1, m1, z1⟩
  have T1 := Lib.hid t1
  have M1 := Lib.hid m1
  have Z := Lib.hid z1
  clear t1 m1 z1
  go_wp2_with fail
  refine (look_w g b 0 _ 1 1 0 0 ⟨#[]⟩ _ T1.out rfl).mono ?_
  rintro e w2 ⟨rfl, m2⟩
  have T2 := Lib.hid (T1.out.mod0 m2)
  have M2 := Lib.hid (M1.out.trans' m2)
  clear m2 T1 M1
  go_wp2_with fail
  refine (keep_any g b 0 _ 1 3 0 ⟨#[120]⟩ _ (T2.out.mod0 (Mod.alloc _ _ _))).mono ?_
  rw [K1.out, K2.out]
  rintro e w3 ⟨⟨v, rfl⟩, t3, m3⟩
  have T3 := Lib.hid t3
  have M3 := Lib.hid ((M2.out.trans' (Mod.alloc [] w2 (.cells #[.int .u8 0, .string ⟨#[]⟩] 25))).fresh1 m3 Z.out)
  clear t3 m3 T2 M2
  go_wp2_with fail
  refine (look_w g b 1 _ 1 3 0 1 ⟨#[120]⟩ _ T3.out L1.out).mono ?_
  rintro e w4 ⟨rfl, m4⟩
  have T4 := Lib.hid (T3.out.mod0 m4)
  have M4 := Lib.hid (M3.out.trans' m4)
  clear m4 T3 M3
  go_wp2_with fail
  have ma := Mod.alloc [] w4 (.cells #[.int .u8 0, .string ⟨#[120]⟩] 25)
  refine (look_w g b 1 _ 1 2 3 2 ⟨#[]⟩ _ (T4.out.mod0 ma) L2.out).mono ?_
  rintro e w5 ⟨rfl, m5⟩
  have A1 : Hid (w5.cell? ⟨w4.heap.size, 1, none⟩ = some (.string ⟨#[120]⟩)) := m5.cell (by go_cell) (by simp)
  have T5 := Lib.hid ((T4.out.mod0 ma).mod0 m5)
  have M5 := Lib.hid ((M4.out.trans' ma).trans' m5)
  clear m5 T4 M4 ma
  go_wp2_with fail
  have ma := Mod.alloc [] w5 (.cells #[.int .u8 3, .string ⟨#[]⟩] 25)
  refine (look_w g b 1 _ 1 4 0 0 ⟨#[]⟩ _ (T5.out.mod0 ma) L3.out).mono ?_
  rintro e w6 ⟨rfl, m6⟩
  have A2 := Lib.hid (m6.cell (ma.cell A1.out (by simp)) (by simp))
  have B0 : Hid (w6.cell? ⟨w5.heap.size, 0, none⟩ = some (.int .u8 3)) := m6.cell (by go_cell) (by simp)
  have B1 : Hid (w6.cell? ⟨w5.heap.size, 1, none⟩ = some (.string ⟨#[]⟩)) := m6.cell (by go_cell) (by simp)
  have T6 := Lib.hid ((T5.out.mod0 ma).mod0 m6)
  have M6 := Lib.hid ((M5.out.trans' ma).trans' m6)
  clear m6 T5 M5 ma A1
  have a2 := A2.out
  have b0 := B0.out
  have b1 := B1.out
  have hl1 := World.block_lt_of_cell? w6 _ a2
  have hl2 := World.block_lt_of_cell? w6 _ b0
  go_wp2_with fail
  refine (tlen_any g b 1 _ _ (T6.out.mod0 (Mod.alloc _ _ _))).mono ?_
  rintro e w7 ⟨rfl, rfl⟩
  go_wp2
  go_ret
  exact ⟨rfl, M6.out.trans' (Mod.alloc _ _ _)⟩
end Go.Proofs.Ytgneigdcgfiooaa
/- Ranges over maps whose keys are plain: what comes, in whatever order. Over any program. -/
namespace Go.Proofs.Ytgneigdcgfiooaa
open Go Go.RowKit Go.MapKept Go.ChangeMaps

/-- The map in block b is being ranged over by the iterator in block r: the keys 'ks' have come, cnt are left. -/
def RangeF (w : World) (b r : Nat) (d : TypeDesc) (n : Nat) (f : Value → Option Value) (ks : List Value) (cnt : Nat) : Prop :=
  ∃ es clock since seen c0, w.heap[b]? = some (.map es clock) ∧ es.size = n ∧ Stamped es clock ∧ (∀ x ∈ es.toList, IsKey d x.key) ∧ (∀ k v, f k = some v ↔ ∃ e ∈ es.toList, e.key = k ∧ e.val = v) ∧
    w.heap[r]? = some (.mapIter (some b) since seen c0) ∧ (∀ x ∈ es.toList, x.born < since) ∧ since ≤ c0 ∧ since ≤ clock ∧ (leftOf es seen).size = cnt ∧
    (∀ x ∈ es.toList, x.key ∈ ks ↔ seen.contains x.born = true) ∧ ks.Nodup ∧ ∀ k ∈ ks, (f k).isSome = true
section
variable {w w' : World} {b r n cnt : Nat} {d : TypeDesc} {f : Value → Option Value} {ks : List Value}
theorem RangeF.map (h : RangeF w b r d n f ks cnt) : MapF w b d n f := by
  obtain ⟨es, clock, since, seen, c0, h1, h2, h3, h4, h5, _⟩ := h
  exact ⟨es, clock, h1, h2, h3, h4, h5⟩
theorem RangeF.mod {S : List Nat} (h : RangeF w b r d n f ks cnt) (hm : Mod S w w') (hb : b ∉ S) (hr : r ∉ S) : RangeF w' b r d n f ks cnt := by
  obtain ⟨es, clock, since, seen, c0, h1, h2, h3, h4, h5, h6, h7⟩ := h
  exact ⟨es, clock, since, seen, c0, hm.get h1 hb, h2, h3, h4, h5, hm.get h6 hr, h7⟩
theorem RangeF.nodup (h : RangeF w b r d n f ks cnt) : ks.Nodup ∧ ∀ k ∈ ks, (f k).isSome = true := by
  obtain ⟨es, clock, since, seen, c0, h1, h2, h3, h4, h5, h6, h7, h8, h9, h10, h11, h12, h13⟩ := h
  exact ⟨h12, h13⟩
theorem RangeF.lt (h : RangeF w b r d n f ks cnt) : r < w.heap.size := by
  obtain ⟨es, clock, since, seen, c0, h1, h2, h3, h4, h5, h6, _⟩ := h
  exact lt_of_block h6
theorem MapF.range {P : Program} {t k e : TypeId} (h : MapF w b d n f) (ht : P.underlying t = some (.map k e)) :
    ∃ w', (Instr.range t (.map (some b))).run P w = .ok (.pointer (some ⟨w.heap.size, 0, none⟩)) w' ∧ RangeF w' b w.heap.size d n f [] n ∧ Mod [] w w' := by
  obtain ⟨es, clock, h1, h2, h3, h4, h5⟩ := h
  have m := Mod.alloc [] w (.mapIter (some b) clock #[] clock)
  refine ⟨_, run_range_map w t k e b es clock ht h1, ⟨es, clock, clock, #[], clock, m.get h1 List.not_mem_nil, h2, h3, h4, h5, heap_alloc_new w _, h3.1, Nat.le_refl _, Nat.le_refl _, ?_, ?_, List.nodup_nil, fun k hk => absurd hk List.not_mem_nil⟩, m⟩
  · unfold leftOf
    rw [Array.filter_eq_self.2 (fun x _ => by simp), h2]
  · intro x hx; simp
theorem RangeF.next {P : Program} (h : RangeF w b r d n f ks cnt) (ty : TypeId) :
    ((∀ k, (f k).isSome = true → k ∈ ks) ∧ (Instr.next (.pointer (some ⟨r, 0, none⟩)) false ty).run P w = .ok (.tuple #[.bool false]) w) ∨
    ∃ k v w' cnt', k ∉ ks ∧ f k = some v ∧ IsKey d k ∧ (Instr.next (.pointer (some ⟨r, 0, none⟩)) false ty).run P w = .ok (.tuple #[.bool true, k, v]) w' ∧
      RangeF w' b r d n f (ks ++ [k]) cnt' ∧ cnt' < cnt ∧ Mod [r] w w' ∧ (Instr.entry (.pointer (some ⟨r, 0, none⟩))).run P w' = .ok (.tuple #[k, v]) w' := by
  obtain ⟨es, clock, since, seen, c0, h1, h2, h3, h4, h5, h6, h7, h8, h9, h10, h11, h12, h13⟩ := h
  have hbr : b ≠ r := by rintro rfl; rw [h1] at h6; cases h6
  rcases run_next_at (P := P) w ty r b since c0 seen es clock h6 h1 h7 h8 with ⟨h0, hrun⟩ | ⟨e, he, w1, hal, hrun⟩
  · refine .inl ⟨fun k hk => ?_, hrun⟩
    obtain ⟨v, hv⟩ := Option.isSome_iff_exists.1 hk
    obtain ⟨x, hx, rfl, _⟩ := (h5 k v).1 hv
    refine (h11 x hx).2 ?_
    cases hs : seen.contains x.born with
    | true => rfl
    | false =>
      have : x ∈ leftOf es seen := by
        unfold leftOf
        rw [Array.mem_filter]
        exact ⟨by simpa using hx, by rw [hs]; rfl⟩
      rw [Array.eq_empty_of_size_eq_zero h0] at this
      simp at this
  · have he' : e ∈ es.toList ∧ seen.contains e.born = false := by
      have : e ∈ leftOf es seen := by simpa using he
      unfold leftOf at this
      rw [Array.mem_filter] at this
      exact ⟨by simpa using this.1, by simpa using this.2⟩
    have hk : e.key ∉ ks := fun hh => by
      have := (h11 e he'.1).1 hh
      rw [he'.2] at this
      cases this
    have hf : f e.key = some e.val := (h5 _ _).2 ⟨e, he'.1, rfl, rfl⟩
    have hst := (stamped_iff es clock).1 h3
    have hw1 : w1.heap = w.heap := by rcases hal with rfl | rfl <;> rfl
    have m1 : Mod [r] w w1 := by rcases hal with rfl | rfl; exact Mod.refl _ _; exact Mod.drew _ _
    have hrs := lt_of_block h6
    have hset : (setBlock w1 r (.mapIter (some b) since (seen.push e.born) clock)).heap = w.heap.setIfInBounds r (.mapIter (some b) since (seen.push e.born) clock) := by
      unfold setBlock
      rw [hw1]
    have hb' : (setBlock w1 r (.mapIter (some b) since (seen.push e.born) clock)).heap[b]? = some (.map es clock) := by
      rw [hset, Array.getElem?_setIfInBounds_ne (Ne.symm hbr)]
      exact h1
    have hr' : (setBlock w1 r (.mapIter (some b) since (seen.push e.born) clock)).heap[r]? = some (.mapIter (some b) since (seen.push e.born) clock) := by
      rw [hset]
      simp [hrs]
    refine .inr ⟨e.key, e.val, _, (leftOf es (seen.push e.born)).size, hk, hf, h4 e he'.1, hrun, ⟨es, clock, since, seen.push e.born, clock, hb', h2, h3, h4, h5, hr', h7, h9, h9, rfl, ?_, ?_, ?_⟩, ?_, ?_, ?_⟩
    · intro x hx
      rw [List.mem_append, List.mem_singleton, h11 x hx]
      rw [Array.contains_iff_mem, Array.contains_iff_mem, Array.mem_push]
      constructor
      · rintro (h | h)
        · exact .inl h
        · have : x = e := entry_eq_of_key hst.2.2 hx he'.1 h
          exact .inr (by rw [this])
      · rintro (h | h)
        · exact .inl h
        · have : x = e := born_inj hst.2.1 hx he'.1 h
          exact .inr (by rw [this])
    · rw [List.nodup_append]
      refine ⟨h12, by simp, fun a ha a' ha' => ?_⟩
      rw [List.mem_singleton] at ha'
      rintro rfl
      rw [ha'] at ha
      exact hk ha
    · intro k hk2
      rw [List.mem_append, List.mem_singleton] at hk2
      rcases hk2 with h | rfl
      · exact h13 k h
      · rw [hf]; rfl
    · rw [← h10]; exact left_shrinks es seen e he
    · refine ⟨?_, ?_, ?_, ?_, fun i _ hi => ?_⟩
      · rcases hal with rfl | rfl <;> rfl
      · rcases hal with rfl | rfl <;> rfl
      · rcases hal with rfl | rfl <;> rfl
      · rw [hset]; simp
      · rw [hset]
        exact Array.getElem?_setIfInBounds_ne (fun e1 => hi (by simp [e1]))
    · exact run_entry_at _ r b since seen es clock e hr' hb' he'.1 hst.2.1
/-- 'range m', one operation of a list of operations. -/
theorem wpl_range {P : Program} {ops : Array Oper} {rest : List Oper} {a : Act} {Q : Exit → Act → World → Prop} {dst : Option Tmp} {ty : TypeId} {pos : String} {after : Array Edge} (t : TypeId) (x : Operand)
    {k e : TypeId} (h : MapF w b d n f) (ht : P.underlying t = some (.map k e)) (hx : a.eval x = .map (some b))
    (hr : ∀ r w', Hid (RangeF w' b r d n f [] n) → Mod [] w w' → w.heap.size ≤ r → wpList P ops Q rest (a.put dst (.pointer (some ⟨r, 0, none⟩))) w') :
    wpList P ops Q (⟨dst, .range t x, ty, pos, after, none⟩ :: rest) a w := by
  refine wpList_plain rfl fun K hK => ?_
  obtain ⟨w', h1, h2, h3⟩ := h.range ht
  unfold Oper.wp
  simp [execOp, hx, h1, Result.andThen]
  exact hK _ _ (hr _ w' (Lib.hid h2) h3 (Nat.le_refl _))
/-- The step of such a loop. -/
theorem wpl_next {P : Program} {ops : Array Oper} {rest : List Oper} {a : Act} {Q : Exit → Act → World → Prop} {dst : Option Tmp} {ty : TypeId} {pos : String} {after : Array Edge} (it : Operand)
    (h : RangeF w b r d n f ks cnt) (hit : a.eval it = .pointer (some ⟨r, 0, none⟩))
    (hDone : Hid (∀ k, (f k).isSome = true → k ∈ ks) → wpList P ops Q rest (a.put dst (.tuple #[.bool false])) w)
    (hMore : ∀ k v w' cnt', Hid (k ∉ ks ∧ f k = some v ∧ IsKey d k) → Hid (RangeF w' b r d n f (ks ++ [k]) cnt') → cnt' < cnt → Mod [r] w w' → (Instr.entry (.pointer (some ⟨r, 0, none⟩))).run P w' = .ok (.tuple #[k, v]) w' → wpList P ops Q rest (a.put dst (.tuple #[.bool true, k, v])) w') :
    wpList P ops Q (⟨dst, .next it false, ty, pos, after, none⟩ :: rest) a w := by
  refine wpList_plain rfl fun K hK => ?_
  unfold Oper.wp
  rcases h.next (P := P) ty with ⟨h0, hrun⟩ | ⟨k, v, w', cnt', h1, h2, h3, hrun, h4, h5, h6, h7⟩
  · simp [execOp, hit, hrun, Result.andThen]
    exact hK _ _ (hDone (Lib.hid h0))
  · simp [execOp, hit, hrun, Result.andThen]
    exact hK _ _ (hMore k v w' cnt' (Lib.hid ⟨h1, h2, h3⟩) (Lib.hid h4) h5 h6 h7)
end
end Go.Proofs.Ytgneigdcgfiooaa
