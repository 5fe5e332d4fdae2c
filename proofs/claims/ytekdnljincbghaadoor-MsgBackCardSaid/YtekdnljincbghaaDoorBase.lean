/- Plain words shared by this seat's texts: byte slices that are seen, worlds that differ in a few blocks alone, small facts on numbers. No program in sight. -/
import Derived.WalkKit
import Derived.WalkSpells
import Derived.WalkLawsBesides
import Derived.Lib.Hide
namespace Go.Proofs.YtekdnljincbghaaDoor
open Go Go.RowKit

theorem ret_int {k : IntKind} {a b : Int} (h : a = b) : Ending.returned (.int k a) = .returned (.int k b) := by rw [h]

/-- The slice at 'ao' shows the bytes l. -/
def Sees (w : World) (ao : Option Addr) (l : List UInt8) : Prop :=
  ∀ j (h : j < l.length), ∃ b off, ao = some ⟨b, off, none⟩ ∧ w.cell? ⟨b, off + j, none⟩ = some (.int .u8 ((l[j].toNat : Nat) : Int))

theorem Sees.below {w w' : World} {ao : Option Addr} {l : List UInt8} (h : Sees w ao l) (hb : Below w.heap.size w w') : Sees w' ao l := by
  intro j hj
  obtain ⟨b, off, h1, h2⟩ := h j hj
  exact ⟨b, off, h1, by rw [hb.cell (World.block_lt_of_cell? w _ h2)]; exact h2⟩

theorem Sees.nil (w : World) (ao : Option Addr) : Sees w ao [] := fun j hj => absurd hj (by simp)

theorem Sees.at' {w : World} {ao : Option Addr} {l : List UInt8} (h : Sees w ao l) {j : Nat} (hj : j < l.length) :
    ∃ b off, ao = some ⟨b, off, none⟩ ∧ w.cell? ⟨b, off + j, none⟩ = some (.int .u8 ((l[j].toNat : Nat) : Int)) := h j hj

/-- The first k bytes. -/
theorem Sees.take {w : World} {ao : Option Addr} {l : List UInt8} (h : Sees w ao l) (k : Nat) : Sees w ao (l.take k) := by
  intro j hj
  have hj' : j < l.length := by simp only [List.length_take] at hj; omega
  obtain ⟨b, off, h1, h2⟩ := h j hj'
  exact ⟨b, off, h1, by rw [h2, List.getElem_take]⟩


/-- From w to w' at most the blocks in S have turned, of those that were there; the streams are as they were. -/
structure Mod (S : List Nat) (w w' : World) : Prop where
  os : w'.os = w.os
  tape : w'.tape = w.tape
  output : w'.output = w.output
  size : w.heap.size ≤ w'.heap.size
  block : ∀ k, k < w.heap.size → k ∉ S → w'.heap[k]? = w.heap[k]?

theorem Mod.refl (S : List Nat) (w : World) : Mod S w w := ⟨rfl, rfl, rfl, Nat.le_refl _, fun _ _ _ => rfl⟩
theorem Mod.weaken {S S' : List Nat} {w w' : World} (h : Mod S w w') (hs : ∀ k, k ∈ S → k ∈ S') : Mod S' w w' :=
  ⟨h.os, h.tape, h.output, h.size, fun k hk hn => h.block k hk (fun hm => hn (hs k hm))⟩
theorem Mod.nil {S : List Nat} {w w' : World} (h : Mod [] w w') : Mod S w w' := h.weaken (by simp)
/-- Two steps: what the second one turns is in S, or was not there. -/
theorem Mod.trans {S T : List Nat} {a b c : World} (h : Mod S a b) (k : Mod T b c) (ht : ∀ i, i ∈ T → i < a.heap.size → i ∈ S) : Mod S a c :=
  ⟨k.os.trans h.os, k.tape.trans h.tape, k.output.trans h.output, Nat.le_trans h.size k.size,
   fun i hi hn => (k.block i (Nat.lt_of_lt_of_le hi h.size) (fun hm => hn (ht i hm hi))).trans (h.block i hi hn)⟩
theorem Mod.trans' {S : List Nat} {a b c : World} (h : Mod S a b) (k : Mod S b c) : Mod S a c := h.trans k (fun _ hi _ => hi)
theorem Mod.trans0 {S : List Nat} {a b c : World} (h : Mod S a b) (k : Mod [] b c) : Mod S a c := h.trans k (by simp)
theorem Mod.drew (S : List Nat) (w : World) : Mod S w w.drew := ⟨rfl, rfl, rfl, Nat.le_refl _, fun _ _ _ => rfl⟩
theorem Mod.alloc (S : List Nat) (w : World) (o : Obj) : Mod S w (w.alloc o) := ⟨rfl, rfl, rfl, by simp, fun k hk _ => Below.heap_alloc w o k hk⟩
theorem Mod.setCell {S : List Nat} (w : World) (a : Addr) (u : Value) (h : a.block ∈ S) : Mod S w (w.setCell a u) :=
  ⟨rfl, rfl, rfl, by simp [World.setCell], fun k _ hn => Below.heap_setCell w a u k (fun e => hn (e ▸ h))⟩
theorem Mod.setCell' {S : List Nat} (w0 w : World) (a : Addr) (u : Value) (h0 : Mod S w0 w) (h : a.block < w0.heap.size → a.block ∈ S) : Mod S w0 (w.setCell a u) :=
  h0.trans (Mod.setCell (S := [a.block]) w a u (by simp)) (by intro i hi hl; simp only [List.mem_singleton] at hi; subst hi; exact h hl)
theorem Mod.get {S : List Nat} {w w' : World} (h : Mod S w w') {b : Nat} {o : Obj} (hb : w.heap[b]? = some o) (hn : b ∉ S) : w'.heap[b]? = some o := by
  rw [h.block b (lt_of_block hb) hn]; exact hb
theorem Mod.cell {S : List Nat} {w w' : World} (h : Mod S w w') {p : Addr} {v : Value} (hc : w.cell? p = some v) (hn : p.block ∉ S) : w'.cell? p = some v := by
  rw [World.cell?_of_block (h.block p.block (World.block_lt_of_cell? w _ hc) hn)]; exact hc
theorem Mod.below {S : List Nat} {w w' : World} {B : Nat} (h : Mod S w w') (hB : B ≤ w.heap.size) (hs : ∀ k, k ∈ S → B ≤ k) : Below B w w' :=
  ⟨h.os, h.tape, h.output, h.size, fun k hk => h.block k (by omega) (fun hm => by have := hs k hm; omega)⟩
theorem Mod.below0 {w w' : World} (h : Mod [] w w') : Below w.heap.size w w' := h.below (Nat.le_refl _) (by simp)
theorem Mod.ofBelow {w w' : World} (h : Below w.heap.size w w') : Mod [] w w' := ⟨h.os, h.tape, h.output, h.size, fun k hk _ => h.block k hk⟩
theorem Mod.grown {w w' : World} {row : Option Nat} (h : w.grownBy w' row) : Mod row.toList w w' :=
  ⟨h.os, h.tape, h.output, h.size, fun k hk hn => h.block k hk (fun e => hn (by rw [← e]; simp))⟩
theorem Mod.lt {S : List Nat} {w w' : World} (h : Mod S w w') {b : Nat} (hb : b < w.heap.size) : b < w'.heap.size := Nat.lt_of_lt_of_le hb h.size
/-- A block set anew. -/
theorem heap_setCell_same {w : World} {b i : Nat} {c : Array Value} {t : TypeId} {fz : Nat × Nat} (h : w.heap[b]? = some (.cells c t fz)) (u : Value) :
    (w.setCell ⟨b, i, none⟩ u).heap[b]? = some (.cells (c.setIfInBounds i u) t fz) := by
  have hlt := lt_of_block h
  have h' : w.heap[b] = .cells c t fz := by simpa [Array.getElem?_eq_getElem hlt] using h
  show (w.heap.modify b _)[b]? = _
  rw [Array.getElem?_eq_getElem (by simpa using hlt), Array.getElem_modify_self, h']
  rfl
theorem cell_of_block {w : World} {b i : Nat} {c : Array Value} {t : TypeId} {fz : Nat × Nat} (h : w.heap[b]? = some (.cells c t fz)) : w.cell? ⟨b, i, none⟩ = c[i]? := by simp [World.cell?, h]
theorem free_of_block {w : World} {b i : Nat} {c : Array Value} {t : TypeId} (h : w.heap[b]? = some (.cells c t (0, 0))) : w.frozen? ⟨b, i, none⟩ = false := by simp [World.frozen?, h]

theorem Sees.mod {S : List Nat} {w w' : World} {ao : Option Addr} {l : List UInt8} (h : Sees w ao l) (hm : Mod S w w') (hn : ∀ b off, ao = some ⟨b, off, none⟩ → b ∉ S) : Sees w' ao l := by
  intro j hj
  obtain ⟨b, off, h1, h2⟩ := h j hj
  exact ⟨b, off, h1, hm.cell h2 (hn b off h1)⟩
theorem Sees.mod0 {w w' : World} {ao : Option Addr} {l : List UInt8} (h : Sees w ao l) (hm : Mod [] w w') : Sees w' ao l := h.mod hm (by simp)

/-- Cells in the first blocks, carried on. -/
theorem cells_below {w w' : World} {B : Nat} (hb : Below B w w') {p : Addr} {v : Value} (hp : p.block < B) (h : w.cell? p = some v) : w'.cell? p = some v := by
  rw [hb.cell hp]; exact h

theorem take_snoc {α : Type} (l : List α) (k : Nat) (h : k < l.length) : l.take (k + 1) = l.take k ++ [l[k]] := by
  rw [List.take_succ_eq_append_getElem h]

theorem toNat_lt (x : UInt8) : ((x.toNat : Nat) : Int) < 256 := by have := x.toNat_lt; omega

theorem bits32_range (op : BinOp) (x y : Int) : 0 ≤ bits op .u32 x y ∧ bits op .u32 x y < 4294967296 := by
  unfold bits
  simp only [IntKind.wrap_u32']
  omega

end Go.Proofs.YtekdnljincbghaaDoor
