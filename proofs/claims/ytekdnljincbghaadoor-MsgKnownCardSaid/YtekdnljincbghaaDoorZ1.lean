/- Texts put together (1 of 7): Base, Msg1, Msg2, Msg3, Own, Bytes, Str, Region, Ballot, Ballot2, Enc. -/
import Derived.WalkKit
import Derived.WalkSpells
import Derived.WalkLawsBesides
import Derived.Lib.Hide
import Derived.Test.YtekdnljincbghaaDoorProg
import Derived.Lib.IndexLaws
import Derived.BigQuiet
import Derived.IntWalk
import Derived.Deep.CutRange
import Derived.Laws.OwnMore
import Derived.Lib.AppendStr
import Derived.Laws.IdiomStrings
import Derived.Laws.BytesArg
import Derived.Deep.RegionHeld
import Derived.Deep.Cut
import Derived.Handy
/- Plain words shared by this seat's texts: byte slices that are seen, worlds that differ in a few blocks alone, small facts on numbers. No program in sight. -/
namespace Go.Proofs.YtekdnljincbghaaDoor
open Go Go.RowKit

theorem ret_int {k : IntKind} {a b : Int} (h : a = b) : Ending.returned (.int k a) = .returned (.int k b) := by rw [h]

/-- The slice at 'ao' shows the bytes l. -/
def Sees (w : World) (ao : Option Addr) (l : List UInt8) : Prop :=
  ∀ j (h : j < l.length), ∃ b off, ao = some ⟨b, off, none⟩ ∧ w.cell? ⟨b, off + j, none⟩ = some (.int .u8 ((l[j].toNat : Nat) : Int))

theorem Sees.below {w w' : World} {ao : Option Addr} {l : List UInt8} (h : Sees w ao l) (hb : Below w.heap.size w w') : Sees w' ao l := by
  intro j hj
  obtain ⟨b, off, h1, h2⟩ := h j hj
  exact ⟨b, off, h1, by rw [hb.cell (World.block_lt_of_cell? w _ h2)]; exact h2⟩

theorem Sees.nil (w : World) (ao : Option Addr) : Sees w ao [] := fun j hj => absurd hj (by simp)

theorem Sees.at' {w : World} {ao : Option Addr} {l : List UInt8} (h : Sees w ao l) {j : Nat} (hj : j < l.length) :
    ∃ b off, ao = some ⟨b, off, none⟩ ∧ w.cell? ⟨b, off + j, none⟩ = some (.int .u8 ((l[j].toNat : Nat) : Int)) := h j hj

/-- The first k bytes. -/
theorem Sees.take {w : World} {ao : Option Addr} {l : List UInt8} (h : Sees w ao l) (k : Nat) : Sees w ao (l.take k) := by
  intro j hj
  have hj' : j < l.length := by simp only [List.length_take] at hj; omega
  obtain ⟨b, off, h1, h2⟩ := h j hj'
  exact ⟨b, off, h1, by rw [h2, List.getElem_take]⟩


/-- From w to w' at most the blocks in S have turned, of those that were there; the streams are as they were. -/
structure Mod (S : List Nat) (w w' : World) : Prop where
  os : w'.os = w.os
  tape : w'.tape = w.tape
  output : w'.output = w.output
  size : w.heap.size ≤ w'.heap.size
  block : ∀ k, k < w.heap.size → k ∉ S → w'.heap[k]? = w.heap[k]?

theorem Mod.refl (S : List Nat) (w : World) : Mod S w w := ⟨rfl, rfl, rfl, Nat.le_refl _, fun _ _ _ => rfl⟩
theorem Mod.weaken {S S' : List Nat} {w w' : World} (h : Mod S w w') (hs : ∀ k, k ∈ S → k ∈ S') : Mod S' w w' :=
  ⟨h.os, h.tape, h.output, h.size, fun k hk hn => h.block k hk (fun hm => hn (hs k hm))⟩
theorem Mod.nil {S : List Nat} {w w' : World} (h : Mod [] w w') : Mod S w w' := h.weaken (by simp)
/-- Two steps: what the second one turns is in S, or was not there. -/
theorem Mod.trans {S T : List Nat} {a b c : World} (h : Mod S a b) (k : Mod T b c) (ht : ∀ i, i ∈ T → i < a.heap.size → i ∈ S) : Mod S a c :=
  ⟨k.os.trans h.os, k.tape.trans h.tape, k.output.trans h.output, Nat.le_trans h.size k.size,
   fun i hi hn => (k.block i (Nat.lt_of_lt_of_le hi h.size) (fun hm => hn (ht i hm hi))).trans (h.block i hi hn)⟩
theorem Mod.trans' {S : List Nat} {a b c : World} (h : Mod S a b) (k : Mod S b c) : Mod S a c := h.trans k (fun _ hi _ => hi)
theorem Mod.trans0 {S : List Nat} {a b c : World} (h : Mod S a b) (k : Mod [] b c) : Mod S a c := h.trans k (by simp)
theorem Mod.drew (S : List Nat) (w : World) : Mod S w w.drew := ⟨rfl, rfl, rfl, Nat.le_refl _, fun _ _ _ => rfl⟩
theorem Mod.alloc (S : List Nat) (w : World) (o : Obj) : Mod S w (w.alloc o) := ⟨rfl, rfl, rfl, by simp, fun k hk _ => Below.heap_alloc w o k hk⟩
theorem Mod.setCell {S : List Nat} (w : World) (a : Addr) (u : Value) (h : a.block ∈ S) : Mod S w (w.setCell a u) :=
  ⟨rfl, rfl, rfl, by simp [World.setCell], fun k _ hn => Below.heap_setCell w a u k (fun e => hn (e ▸ h))⟩
theorem Mod.setCell' {S : List Nat} (w0 w : World) (a : Addr) (u : Value) (h0 : Mod S w0 w) (h : a.block < w0.heap.size → a.block ∈ S) : Mod S w0 (w.setCell a u) :=
  h0.trans (Mod.setCell (S := [a.block]) w a u (by simp)) (by intro i hi hl; simp only [List.mem_singleton] at hi; subst hi; exact h hl)
theorem Mod.get {S : List Nat} {w w' : World} (h : Mod S w w') {b : Nat} {o : Obj} (hb : w.heap[b]? = some o) (hn : b ∉ S) : w'.heap[b]? = some o := by
  rw [h.block b (lt_of_block hb) hn]; exact hb
theorem Mod.cell {S : List Nat} {w w' : World} (h : Mod S w w') {p : Addr} {v : Value} (hc : w.cell? p = some v) (hn : p.block ∉ S) : w'.cell? p = some v := by
  rw [World.cell?_of_block (h.block p.block (World.block_lt_of_cell? w _ hc) hn)]; exact hc
theorem Mod.below {S : List Nat} {w w' : World} {B : Nat} (h : Mod S w w') (hB : B ≤ w.heap.size) (hs : ∀ k, k ∈ S → B ≤ k) : Below B w w' :=
  ⟨h.os, h.tape, h.output, h.size, fun k hk => h.block k (by omega) (fun hm => by have := hs k hm; omega)⟩
theorem Mod.below0 {w w' : World} (h : Mod [] w w') : Below w.heap.size w w' := h.below (Nat.le_refl _) (by simp)
theorem Mod.ofBelow {w w' : World} (h : Below w.heap.size w w') : Mod [] w w' := ⟨h.os, h.tape, h.output, h.size, fun k hk _ => h.block k hk⟩
theorem Mod.grown {w w' : World} {row : Option Nat} (h : w.grownBy w' row) : Mod row.toList w w' :=
  ⟨h.os, h.tape, h.output, h.size, fun k hk hn => h.block k hk (fun e => hn (by rw [← e]; simp))⟩
theorem Mod.lt {S : List Nat} {w w' : World} (h : Mod S w w') {b : Nat} (hb : b < w.heap.size) : b < w'.heap.size := Nat.lt_of_lt_of_le hb h.size
/-- A block set anew. -/
theorem heap_setCell_same {w : World} {b i : Nat} {c : Array Value} {t : TypeId} {fz : Nat × Nat} (h : w.heap[b]? = some (.cells c t fz)) (u : Value) :
    (w.setCell ⟨b, i, none⟩ u).heap[b]? = some (.cells (c.setIfInBounds i u) t fz) := by
  have hlt := lt_of_block h
  have h' : w.heap[b] = .cells c t fz := by simpa [Array.getElem?_eq_getElem hlt] using h
  show (w.heap.modify b _)[b]? = _
  rw [Array.getElem?_eq_getElem (by simpa using hlt), Array.getElem_modify_self, h']
  rfl
theorem cell_of_block {w : World} {b i : Nat} {c : Array Value} {t : TypeId} {fz : Nat × Nat} (h : w.heap[b]? = some (.cells c t fz)) : w.cell? ⟨b, i, none⟩ = c[i]? := by simp [World.cell?, h]
theorem free_of_block {w : World} {b i : Nat} {c : Array Value} {t : TypeId} (h : w.heap[b]? = some (.cells c t (0, 0))) : w.frozen? ⟨b, i, none⟩ = false := by simp [World.frozen?, h]

theorem Sees.mod {S : List Nat} {w w' : World} {ao : Option Addr} {l : List UInt8} (h : Sees w ao l) (hm : Mod S w w') (hn : ∀ b off, ao = some ⟨b, off, none⟩ → b ∉ S) : Sees w' ao l := by
  intro j hj
  obtain ⟨b, off, h1, h2⟩ := h j hj
  exact ⟨b, off, h1, hm.cell h2 (hn b off h1)⟩
theorem Sees.mod0 {w w' : World} {ao : Option Addr} {l : List UInt8} (h : Sees w ao l) (hm : Mod [] w w') : Sees w' ao l := h.mod hm (by simp)

/-- Cells in the first blocks, carried on. -/
theorem cells_below {w w' : World} {B : Nat} (hb : Below B w w') {p : Addr} {v : Value} (hp : p.block < B) (h : w.cell? p = some v) : w'.cell? p = some v := by
  rw [hb.cell hp]; exact h

theorem take_snoc {α : Type} (l : List α) (k : Nat) (h : k < l.length) : l.take (k + 1) = l.take k ++ [l[k]] := by
  rw [List.take_succ_eq_append_getElem h]

theorem toNat_lt (x : UInt8) : ((x.toNat : Nat) : Int) < 256 := by have := x.toNat_lt; omega

theorem bits32_range (op : BinOp) (x y : Int) : 0 ≤ bits op .u32 x y ∧ bits op .u32 x y < 4294967296 := by
  unfold bits
  simp only [IntKind.wrap_u32']
  omega

end Go.Proofs.YtekdnljincbghaaDoor
/- Messages: their data, what the world shows of them; the letters of a kind; strings.Contains at a string of one byte. -/
namespace Go.Proofs.YtekdnljincbghaaDoor
open Go Go.RowKit Go.Lib

theorem Mod.drewN (S : List Nat) (w : World) (n : Nat) : Mod S w (w.drewN n) := ⟨rfl, rfl, rfl, Nat.le_refl _, fun _ _ _ => rfl⟩
/-- The letters of a kind. -/
def Fl : Nat → List UInt8
  | 1 => [98]
  | 2 => [98, 99, 118]
  | 3 => [98]
  | 4 => [98, 99, 102, 115]
  | 5 => [98, 102, 108]
  | 6 => [102]
  | 7 => [102, 115]
  | 8 => [102, 112]
  | _ => []
/-- The package's table. -/
def Flds (w : World) : Prop := ∀ k, k < 9 → w.cell? ⟨0, k, none⟩ = some (.string ⟨(Fl k).toArray⟩)
theorem Flds.lt {w : World} (h : Flds w) : 0 < w.heap.size := World.block_lt_of_cell? w _ (h 0 (by omega))
theorem Flds.mod {S : List Nat} {w w' : World} (h : Flds w) (hm : Mod S w w') (hn : 0 ∉ S) : Flds w' := fun k hk => hm.cell (h k hk) hn
theorem Flds.mod0 {w w' : World} (h : Flds w) (hm : Mod [] w w') : Flds w' := h.mod hm List.not_mem_nil

theorem idxByte_any (s : ByteArray) (c : UInt8) (w : World) : Calls Tryd.prog 74 #[.string s, .int .u8 (c.toNat : Int)] w fun e w' => e = .returned (.int .i64 (indexByte s.data.toList c)) ∧ w' = w := by
  have hc : ((c.toNat : Int)).toNat.toUInt8 = c := by simp
  go_enter Tryd.func74, Tryd.ntmps74
  go_wp2_with fail
  rw [run_callFunc_extern Tryd.func79 (by kernel_rfl) (by kernel_rfl) (by kernel_rfl) (e := Extern.BytealgIndexByte.indexByte) (by kernel_rfl), Lib.run_indexByteString, hc]
  simp only [Result.andThen]
  rw [Oper.upon_value]
  go_wp2_with fail
  go_ret
  exact ⟨rfl, rfl⟩
theorem indexByte_has (l : List UInt8) (c : UInt8) : decide (0 ≤ indexByte l c) = decide (c ∈ l) := by
  have h0 := indexByte_ge l c
  by_cases h : indexByte l c = -1
  · have h1 := indexByte_none h
    rw [decide_eq_false (by omega), decide_eq_false]
    intro hc
    obtain ⟨k, hk, he⟩ := List.getElem_of_mem hc
    exact h1 k (by rw [List.getElem?_eq_getElem hk, he])
  · obtain ⟨o, ho⟩ : ∃ o : Nat, indexByte l c = o := ⟨(indexByte l c).toNat, by omega⟩
    have h1 := (indexByte_some ho).1
    rw [decide_eq_true (by omega), decide_eq_true (List.mem_of_getElem? h1)]
theorem slIndex_any (l : List UInt8) (c : UInt8) (w : World) : Calls Tryd.prog 68 #[.string ⟨l.toArray⟩, .string ⟨#[c]⟩] w fun e w' => (∃ r : Int, e = .returned (.int .i64 r) ∧ decide (0 ≤ r) = decide (c ∈ l)) ∧ w' = w := by
  have HI := Lib.hid (idxByte_any ⟨l.toArray⟩ c w)
  have HH := Lib.hid (indexByte_has l c)
  obtain ⟨q, hq⟩ : ∃ q, ([c] == l) = q := ⟨_, rfl⟩
  have HQ := Lib.hid hq
  go_enter Tryd.func68, Tryd.ntmps68
  cases q
  case true =>
    go_wp2_with fail
    go_ret
    have h : [c] = l := by simpa using HQ.out
    subst h
    exact ⟨⟨0, rfl, by simp⟩, rfl⟩
  go_wp2_with fail
  refine HI.out.mono ?_
  rintro e w1 ⟨rfl, rfl⟩
  go_wp2_with fail
  go_ret
  exact ⟨⟨_, rfl, HH.out⟩, rfl⟩
theorem strIndex_any (l : List UInt8) (c : UInt8) (w : World) : Calls Tryd.prog 49 #[.string ⟨l.toArray⟩, .string ⟨#[c]⟩] w fun e w' => (∃ r : Int, e = .returned (.int .i64 r) ∧ decide (0 ≤ r) = decide (c ∈ l)) ∧ w' = w := by
  have HI := Lib.hid (slIndex_any l c w)
  go_enter Tryd.func49, Tryd.ntmps49
  go_wp2_with fail
  refine HI.out.mono ?_
  rintro e w1 ⟨⟨r, rfl, hr⟩, rfl⟩
  have HR := Lib.hid hr
  clear hr
  go_wp2_with fail
  go_ret
  exact ⟨⟨_, rfl, HR.out⟩, rfl⟩
theorem contains_any (l : List UInt8) (c : UInt8) (w : World) : Calls Tryd.prog 25 #[.string ⟨l.toArray⟩, .string ⟨#[c]⟩] w fun e w' => e = .returned (.bool (decide (c ∈ l))) ∧ w' = w := by
  have HI := Lib.hid (strIndex_any l c w)
  go_enter Tryd.func25, Tryd.ntmps25
  go_wp2_with fail
  refine HI.out.mono ?_
  rintro e w1 ⟨⟨r, rfl, hr⟩, rfl⟩
  have HR := Lib.hid hr
  clear hr
  go_wp2_with fail
  go_ret
  exact ⟨by rw [← HR.out]; rfl, rfl⟩
/-- Is a kind one? -/
def Known (k : Nat) : Prop := 1 ≤ k ∧ k ≤ 8
instance (k : Nat) : Decidable (Known k) := inferInstanceAs (Decidable (_ ∧ _))
theorem Fl_known : ∀ k, k < 9 → ((Fl k == []) = true ↔ ¬ Known k) := by decide
theorem known_any (k : Nat) (w : World) (hf : Flds w) : Calls Tryd.prog 23 #[.int .u64 (k : Int)] w fun e w' => e = .returned (.bool (decide (Known k))) ∧ w' = w := by
  by_cases h : k < 9
  · have h0 := hf k h
    have h2 : (k : Int) < 9 := by omega
    have D : decide ((k : Int) < 9) = true := decide_eq_true h2
    obtain ⟨q, hq⟩ : ∃ q, (Fl k == []) = q := ⟨_, rfl⟩
    have HQ : Hid (decide (Known k) = !q) := Lib.hid (by
      have := Fl_known k h
      rw [hq] at this
      cases q
      · rw [decide_eq_true]
        · rfl
        · exact Classical.not_not.1 (fun hc => by simpa using this.2 hc)
      · rw [decide_eq_false (this.1 rfl)]
        rfl)
    obtain ⟨s, hs⟩ : ∃ s, Fl k = s := ⟨_, rfl⟩
    rw [hs] at h0 hq
    clear hs
    go_enter Tryd.func23, Tryd.ntmps23
    go_wp2_with fail
    go_ret
    exact ⟨by rw [HQ.out]; rfl, rfl⟩
  · have D : decide ((k : Int) < 9) = false := decide_eq_false (by omega)
    have HQ : Hid (decide (Known k) = false) := Lib.hid (decide_eq_false (by unfold Known; omega))
    clear h hf
    go_enter Tryd.func23, Tryd.ntmps23
    go_wp2_with fail
    go_ret
    exact ⟨by rw [HQ.out]; rfl, rfl⟩
/-- Is there a replica of a ballot's place? -/
def Place (r : Int) : Prop := 0 ≤ r ∧ r ≤ 6
instance (r : Int) : Decidable (Place r) := inferInstanceAs (Decidable (_ ∧ _))
theorem place_any (n r : Int) (w : World) : Calls Tryd.prog 26 #[.agg #[.int .u64 n, .int .i64 r]] w fun e w' => e = .returned (.bool (decide (Place r))) ∧ Mod [] w w' := by
  have m1 := Mod.alloc [] w (.cells #[.int .u64 n, .int .i64 r] 24)
  have hb := heap_alloc_new w (.cells #[.int .u64 n, .int .i64 r] 24)
  obtain ⟨w1, hw1⟩ : ∃ x, w.alloc (.cells #[.int .u64 n, .int .i64 r] 24) = x := ⟨_, rfl⟩
  rw [hw1] at m1 hb
  have c1 := cell_of_block (i := 1) hb
  have M1 := Lib.hid m1
  clear m1 hb
  have hq : (decide (0 ≤ r) = false ∧ decide (Place r) = false) ∨ (decide (0 ≤ r) = true ∧ decide (r < 7) = false ∧ decide (Place r) = false) ∨ (decide (0 ≤ r) = true ∧ decide (r < 7) = true ∧ decide (Place r) = true) := by
    simp only [decide_eq_true_eq, decide_eq_false_iff_not]
    unfold Place
    omega
  go_enter Tryd.func26, Tryd.ntmps26
  rcases hq with ⟨D1, h⟩ | ⟨D1, D2, h⟩ | ⟨D1, D2, h⟩
  all_goals
    have HH := Lib.hid h
    clear h
    go_wp2_with fail
    go_ret
    exact ⟨by rw [HH.out]; rfl, M1.out⟩
/-- Check's inner function. -/
theorem no_any (b k : Nat) (c : UInt8) (w : World) (hk : k < 9) (hb : w.cell? ⟨b, 0, none⟩ = some (.int .u8 (k : Int))) (hf : Flds w) :
    Calls Tryd.prog 24 #[.string ⟨#[c]⟩, .pointer (some ⟨b, 0, none⟩)] w fun e w' => e = .returned (.bool (!decide (c ∈ Fl k))) ∧ w' = w := by
  have h0 := hf k hk
  have h2 : (k : Int) < 9 := by omega
  have HC := Lib.hid (contains_any (Fl k) c w)
  obtain ⟨s, hs⟩ : ∃ s, Fl k = s := ⟨_, rfl⟩
  rw [hs] at h0 HC ⊢
  obtain ⟨q, hq⟩ : ∃ q, decide (c ∈ s) = q := ⟨_, rfl⟩
  rw [hq] at HC ⊢
  clear hs hf hq
  go_enter Tryd.func24, Tryd.ntmps24
  go_wp2_with fail
  refine HC.out.mono ?_
  rintro e w1 ⟨rfl, rfl⟩
  go_wp2_with fail
  go_ret
  exact ⟨rfl, rfl⟩
end Go.Proofs.YtekdnljincbghaaDoor
/- Messages as data, and what the world shows of them; the walk of msg.lists. -/
namespace Go.Proofs.YtekdnljincbghaaDoor
open Go Go.RowKit Go.Lib

/-- Bytes: what they are, where, how much room. -/
abbrev Bs := List UInt8 × Option Addr × Nat
def bsV (b : Bs) : Value := .slice b.2.1 b.1.length b.2.2
/-- A vote without its batch; with it. -/
structure Vd where
  slot : Nat
  n : Nat
  r : Int
deriving DecidableEq
abbrev Vm := Vd × Bs
/-- A message's numbers. -/
structure Hd where
  kind : Nat
  bn : Nat
  br : Int
  first : Nat
  last : Nat
  commit : Nat
deriving DecidableEq
/-- A message in memory. -/
structure Mm where
  h : Hd
  vo : Option Addr
  vc : Nat
  votes : List Vm
  so : Option Addr
  sc : Nat
  batches : List Bs
  p : Bs
/-- A message as data. -/
structure Md where
  h : Hd
  votes : List (Vd × List UInt8)
  batches : List (List UInt8)
  snap : List UInt8
deriving DecidableEq
def dV (l : List Vm) : List (Vd × List UInt8) := l.map fun v => (v.1, v.2.1)
def dB (l : List Bs) : List (List UInt8) := l.map Prod.fst
def Mm.d (m : Mm) : Md := ⟨m.h, dV m.votes, dB m.batches, m.p.1⟩
theorem dV_length (l : List Vm) : (dV l).length = l.length := by simp [dV]
theorem dB_length (l : List Bs) : (dB l).length = l.length := by simp [dB]
/-- The values of a message: the kind's own first. -/
def mC (k : Value) (m : Mm) : Array Value := #[k, .int .u64 (m.h.bn : Int), .int .i64 m.h.br, .int .u64 (m.h.first : Int), .int .u64 (m.h.last : Int), .int .u64 (m.h.commit : Int), .slice m.vo m.votes.length m.vc, .slice m.so m.batches.length m.sc, .slice m.p.2.1 m.p.1.length m.p.2.2]
def msgV (m : Mm) : Value := .agg (mC (.int .u8 (m.h.kind : Int)) m)
def refV (m : Mm) : Value := .agg (mC (.int .i64 (m.h.kind : Int)) m)
def voteC (v : Vm) : List Value := [.int .u64 (v.1.slot : Int), .int .u64 (v.1.n : Int), .int .i64 v.1.r, bsV v.2]
def SeesVs (w : World) (ao : Option Addr) (l : List Vm) : Prop :=
  ∀ j (h : j < l.length), ∃ b off, ao = some ⟨b, off, none⟩ ∧ (w.cell? ⟨b, off + j * 4, none⟩ = some (.int .u64 (l[j].1.slot : Int)) ∧ w.cell? ⟨b, off + j * 4 + 1, none⟩ = some (.int .u64 (l[j].1.n : Int)) ∧ w.cell? ⟨b, off + j * 4 + 2, none⟩ = some (.int .i64 l[j].1.r) ∧
    w.cell? ⟨b, off + j * 4 + 3, none⟩ = some (.slice l[j].2.2.1 l[j].2.1.length l[j].2.2.2)) ∧ Sees w l[j].2.2.1 l[j].2.1
def SeesBs (w : World) (ao : Option Addr) (l : List Bs) : Prop :=
  ∀ j (h : j < l.length), ∃ b off, ao = some ⟨b, off, none⟩ ∧ w.cell? ⟨b, off + j, none⟩ = some (.slice l[j].2.1 l[j].1.length l[j].2.2) ∧ Sees w l[j].2.1 l[j].1
theorem SeesVs.mod0 {w w' : World} {ao : Option Addr} {l : List Vm} (h : SeesVs w ao l) (m : Mod [] w w') : SeesVs w' ao l := fun j hj => by
  obtain ⟨b, off, h1, ⟨c0, c1, c2, c3⟩, h3⟩ := h j hj
  exact ⟨b, off, h1, ⟨m.cell c0 List.not_mem_nil, m.cell c1 List.not_mem_nil, m.cell c2 List.not_mem_nil, m.cell c3 List.not_mem_nil⟩, h3.mod0 m⟩
theorem SeesBs.mod0 {w w' : World} {ao : Option Addr} {l : List Bs} (h : SeesBs w ao l) (m : Mod [] w w') : SeesBs w' ao l := fun j hj => by
  obtain ⟨b, off, h1, c0, h3⟩ := h j hj
  exact ⟨b, off, h1, m.cell c0 List.not_mem_nil, h3.mod0 m⟩
theorem SeesVs.vote {w : World} {ao : Option Addr} {l : List Vm} (h : SeesVs w ao l) {j : Nat} (hj : j < l.length) : ∃ b off, ao = some ⟨b, off, none⟩ ∧ ∀ w', Mod [] w w' →
    w'.cell? ⟨b, off + j * 4, none⟩ = some (.int .u64 (l[j].1.slot : Int)) ∧ w'.cell? ⟨b, off + j * 4 + 1, none⟩ = some (.int .u64 (l[j].1.n : Int)) ∧ w'.cell? ⟨b, off + j * 4 + 2, none⟩ = some (.int .i64 l[j].1.r) ∧
    w'.cell? ⟨b, off + j * 4 + 3, none⟩ = some (.slice l[j].2.2.1 l[j].2.1.length l[j].2.2.2) ∧ Sees w' l[j].2.2.1 l[j].2.1 := by
  obtain ⟨b, off, h1, _⟩ := h j hj
  refine ⟨b, off, h1, fun w' m => ?_⟩
  obtain ⟨b', off', h1', ⟨a0, a1, a2, a3⟩, h3⟩ := (h.mod0 m) j hj
  rw [h1] at h1'
  cases h1'
  exact ⟨a0, a1, a2, a3, h3⟩
theorem SeesBs.batch {w : World} {ao : Option Addr} {l : List Bs} (h : SeesBs w ao l) {j : Nat} (hj : j < l.length) : ∃ b off, ao = some ⟨b, off, none⟩ ∧ ∀ w', Mod [] w w' →
    w'.cell? ⟨b, off + j, none⟩ = some (.slice l[j].2.1 l[j].1.length l[j].2.2) ∧ Sees w' l[j].2.1 l[j].1 := by
  obtain ⟨b, off, h1, _⟩ := h j hj
  refine ⟨b, off, h1, fun w' m => ?_⟩
  obtain ⟨b', off', h1', a0, h3⟩ := (h.mod0 m) j hj
  rw [h1] at h1'
  cases h1'
  exact ⟨a0, h3⟩
theorem dV_drop {l : List Vm} {k : Nat} (hk : k < l.length) : (dV l).drop k = (l[k].1, l[k].2.1) :: (dV l).drop (k + 1) := by
  rw [List.drop_eq_getElem_cons (by rw [dV_length]; exact hk)]
  congr 1
  unfold dV
  rw [List.getElem_map]
theorem dB_drop {l : List Bs} {k : Nat} (hk : k < l.length) : (dB l).drop k = l[k].1 :: (dB l).drop (k + 1) := by
  rw [List.drop_eq_getElem_cons (by rw [dB_length]; exact hk)]
  congr 1
  unfold dB
  rw [List.getElem_map]
/-- What the world shows of a message. -/
structure SeesM (w : World) (m : Mm) : Prop where
  votes : SeesVs w m.vo m.votes
  batches : SeesBs w m.so m.batches
  snap : Sees w m.p.2.1 m.p.1
theorem SeesM.mod0 {w w' : World} {m : Mm} (h : SeesM w m) (hm : Mod [] w w') : SeesM w' m := ⟨h.votes.mod0 hm, h.batches.mod0 hm, h.snap.mod0 hm⟩
def WfV (v : Vd) : Prop := v.slot < 18446744073709551616 ∧ v.n < 18446744073709551616 ∧ -9223372036854775808 ≤ v.r ∧ v.r ≤ 9223372036854775807
def WfH (h : Hd) : Prop := h.kind < 256 ∧ h.bn < 18446744073709551616 ∧ (-9223372036854775808 ≤ h.br ∧ h.br ≤ 9223372036854775807) ∧ h.first < 18446744073709551616 ∧ h.last < 18446744073709551616 ∧ h.commit < 18446744073709551616
def WfB (b : Bs) : Prop := b.1.length ≤ b.2.2 ∧ b.2.2 ≤ 9223372036854775807
/-- Numbers of a message that its types hold. -/
structure WfM (m : Mm) : Prop where
  h : WfH m.h
  vlen : m.votes.length ≤ 9223372036854775807
  votes : ∀ v ∈ m.votes, WfV v.1 ∧ WfB v.2
  blen : m.batches.length ≤ 9223372036854775807
  batches : ∀ b ∈ m.batches, WfB b
  snap : WfB m.p

/-- Do votes rise above a slot, each of a place? -/
def Chain : Nat → List (Vd × List UInt8) → Prop
  | _, [] => True
  | a, v :: r => a < v.1.slot ∧ Place v.1.r ∧ Chain v.1.slot r
def decChain : ∀ (a : Nat) (l : List (Vd × List UInt8)), Decidable (Chain a l)
  | _, [] => .isTrue trivial
  | a, v :: r => @instDecidableAnd (a < v.1.slot) _ inferInstance (@instDecidableAnd (Place v.1.r) _ inferInstance (decChain v.1.slot r))
instance (a : Nat) (l : List (Vd × List UInt8)) : Decidable (Chain a l) := decChain a l
theorem wrapU64 (x : Int) : IntKind.u64.wrap x = x % 18446744073709551616 := by simp [IntKind.wrap, IntKind.signed, IntKind.bits]
/-- May a message's lists be? -/
def Lists (d : Md) : Prop := d.batches.length ≤ 16 ∧ d.votes.length ≤ 256 ∧ ¬ (d.h.kind = 7 ∧ d.batches.length = 0) ∧ ¬ (0 < d.batches.length ∧ 18446744073709551616 ≤ d.h.first + d.batches.length - 1) ∧ Chain d.h.commit d.votes
instance (d : Md) : Decidable (Lists d) := inferInstanceAs (Decidable (_ ∧ _))

set_option maxRecDepth 100000 in
set_option maxHeartbeats 4000000 in
theorem lists_any (m : Mm) (w : World) (hs : SeesM w m) (hw : WfM m) : Calls Tryd.prog 27 #[msgV m] w fun e w' => e = .returned (.bool (decide (Lists m.d))) ∧ Mod [] w w' := by
  obtain ⟨⟨kind, bn, br, first, last, commit⟩, vo, vc, votes, so, sc, batches, pl, po, pc⟩ := m
  have hb := heap_alloc_new w (.cells #[.int .u8 (kind : Int), .int .u64 (bn : Int), .int .i64 br, .int .u64 (first : Int), .int .u64 (last : Int), .int .u64 (commit : Int), .slice vo votes.length vc, .slice so batches.length sc, .slice po pl.length pc] 29)
  have m1 := Mod.alloc [] w (.cells #[.int .u8 (kind : Int), .int .u64 (bn : Int), .int .i64 br, .int .u64 (first : Int), .int .u64 (last : Int), .int .u64 (commit : Int), .slice vo votes.length vc, .slice so batches.length sc, .slice po pl.length pc] 29)
  obtain ⟨w1, hw1⟩ : ∃ x, w.alloc (.cells #[.int .u8 (kind : Int), .int .u64 (bn : Int), .int .i64 br, .int .u64 (first : Int), .int .u64 (last : Int), .int .u64 (commit : Int), .slice vo votes.length vc, .slice so batches.length sc, .slice po pl.length pc] 29) = x := ⟨_, rfl⟩
  rw [hw1] at hb m1
  obtain ⟨vl, hvl⟩ : ∃ n, votes.length = n := ⟨_, rfl⟩
  obtain ⟨bl, hbl⟩ : ∃ n, batches.length = n := ⟨_, rfl⟩
  have hL : Lists (⟨⟨kind, bn, br, first, last, commit⟩, vo, vc, votes, so, sc, batches, pl, po, pc⟩ : Mm).d ↔ (bl ≤ 16 ∧ vl ≤ 256 ∧ ¬ (kind = 7 ∧ bl = 0) ∧ ¬ (0 < bl ∧ 18446744073709551616 ≤ first + bl - 1) ∧ Chain commit (dV votes)) := by
    unfold Lists Mm.d
    dsimp only
    rw [dB_length, dV_length, hvl, hbl]
  have hcb := hw.h
  unfold WfH at hcb
  dsimp only at hcb
  have hvb := hw.vlen
  have hbb := hw.blen
  dsimp only at hvb hbb
  rw [hvl] at hb hw1 hvb
  rw [hbl] at hb hw1 hbb
  have HL := Lib.hid hL
  have HS := Lib.hid (hs.votes.mod0 m1)
  have HVL := Lib.hid hvl
  have M1 := Lib.hid m1
  have HB := Lib.hid hb
  have HWV := Lib.hid hw.votes
  unfold msgV mC
  dsimp only
  rw [hvl, hbl]
  have c0 := cell_of_block (i := 0) hb
  have c3 := cell_of_block (i := 3) hb
  have c5 := cell_of_block (i := 5) hb
  have c6 := cell_of_block (i := 6) hb
  have c7 := cell_of_block (i := 7) hb
  clear hs hw hb m1 hL hvl hbl
  go_enter Tryd.func27, Tryd.ntmps27
  by_cases h1 : 16 < bl
  · have D1 : decide ((16 : Int) < (bl : Int)) = true := decide_eq_true (by omega)
    go_wp2_with fail
    go_ret
    exact ⟨by rw [decide_eq_false (fun h => by have := HL.out.1 h; omega)]; rfl, M1.out⟩
  have D1 : decide ((16 : Int) < (bl : Int)) = false := decide_eq_false (by omega)
  by_cases h2 : 256 < vl
  · have D2 : decide ((256 : Int) < (vl : Int)) = true := decide_eq_true (by omega)
    go_wp2_with fail
    go_ret
    exact ⟨by rw [decide_eq_false (fun h => by have := HL.out.1 h; omega)]; rfl, M1.out⟩
  have D2 : decide ((256 : Int) < (vl : Int)) = false := decide_eq_false (by omega)
  by_cases h3 : kind = 7 ∧ bl = 0
  · have HH : Hid (decide (Lists (⟨⟨kind, bn, br, first, last, commit⟩, vo, vc, votes, so, sc, batches, pl, po, pc⟩ : Mm).d) = false) := Lib.hid (decide_eq_false (fun h => (HL.out.1 h).2.2.1 h3))
    have D3 : ((kind : Int) == 7) = true := by
      rw [beq_iff_eq]
      omega
    have D4 : ((bl : Int) == 0) = true := by
      rw [beq_iff_eq]
      omega
    clear h3
    go_wp2_with fail
    go_ret
    exact ⟨by rw [HH.out]; rfl, M1.out⟩
  go_upto_region 1 with (fail)
  go_cut [27] from 7 to 65 (fun s wx => s = .bool false ∧ w1 = wx)
  case first =>
    by_cases h7 : kind = 7
    · subst h7
      have D3 : ((bl : Int) == 0) = false := by
        rw [beq_eq_false_iff_ne]
        omega
      go_wp2_with fail
      go_meet
      exact ⟨rfl, rfl⟩
    · have D3 : ((kind : Int) == 7) = false := by
        rw [beq_eq_false_iff_ne]
        omega
      go_wp2_with fail
      go_meet
      exact ⟨rfl, rfl⟩
  case rest =>
  obtain ⟨rfl, rfl⟩ := hcut
  have e1 : IntKind.u64.wrap ((first : Int) + (bl : Int)) = ((first : Int) + (bl : Int)) % 18446744073709551616 := wrapU64 _
  have e2 : IntKind.u64.wrap (((first : Int) + (bl : Int)) % 18446744073709551616 - 1) = (((first : Int) + (bl : Int)) - 1) % 18446744073709551616 := by
    rw [wrapU64]
    omega
  by_cases h4 : 0 < bl ∧ 18446744073709551616 ≤ first + bl - 1
  · have D4 : decide (0 < bl) = true := decide_eq_true (by omega)
    have D5 : decide (((first : Int) + (bl : Int) - 1) % 18446744073709551616 < (first : Int)) = true := decide_eq_true (by omega)
    have HH : Hid (decide (Lists (⟨⟨kind, bn, br, first, last, commit⟩, vo, vc, votes, so, sc, batches, pl, po, pc⟩ : Mm).d) = false) := Lib.hid (decide_eq_false (fun h => (HL.out.1 h).2.2.2.1 h4))
    clear h4 h3
    go_wp2_with fail
    go_ret
    exact ⟨by rw [HH.out]; rfl, M1.out⟩
  go_upto_region 4 with (fail)
  go_cut [43] from 32 to 65 (fun s wx => s = .bool false ∧ w1 = wx)
  case first =>
    by_cases h5 : 0 < bl
    · have D4 : decide (0 < bl) = true := decide_eq_true h5
      have D5 : decide (((first : Int) + (bl : Int) - 1) % 18446744073709551616 < (first : Int)) = false := decide_eq_false (by omega)
      clear h4 h3 h5
      go_wp2_with fail
      go_meet
      exact ⟨rfl, rfl⟩
    · have D4 : decide (0 < bl) = false := decide_eq_false h5
      clear h4 h3 h5
      go_wp2_with fail
      go_meet
      exact ⟨rfl, rfl⟩
  case rest =>
  obtain ⟨rfl, rfl⟩ := hcut
  clear e1 e2
  have HB1 : Hid (∀ b : Bool, (Chain commit (dV votes) ↔ b = true) → decide (Lists (⟨⟨kind, bn, br, first, last, commit⟩, vo, vc, votes, so, sc, batches, pl, po, pc⟩ : Mm).d) = b) := Lib.hid (fun b hb => by
    cases b
    · exact decide_eq_false (fun h => by have := hb.1 (HL.out.1 h).2.2.2.2; exact absurd this (by decide))
    · exact decide_eq_true (HL.out.2 ⟨by omega, by omega, h3, h4, hb.2 rfl⟩))
  clear HL h3 h4 D1 D2 h1 h2
  go_wp2_with fail
  go_loopw [4, 49] (fun s4 s49 wr => ∃ (k a : Nat), s4 = .int .u64 (a : Int) ∧ s49 = .int .i64 (k : Int) ∧ k ≤ vl ∧ a < 18446744073709551616 ∧ (Chain commit (dV votes) ↔ Chain a ((dV votes).drop k)) ∧ Mod [] w1 wr) (fun _ s49 _ => vl - (intOf s49).toNat)
  case atStart => exact ⟨0, commit, rfl, rfl, Nat.zero_le _, by omega, by rw [List.drop_zero], Mod.refl _ _⟩
  case round =>
    obtain ⟨k, a, rfl, rfl, hk, ha, hch, hm⟩ := hrel
    rename World => wr
    have HCH := Lib.hid hch
    have HM := Lib.hid hm
    have HWR := Lib.hid (M1.out.trans' hm)
    clear hch hm
    by_cases hkv : k < vl
    case neg =>
      have hke : k = vl := by omega
      have HH := HB1.out true ⟨fun _ => rfl, fun _ => HCH.out.2 (by rw [List.drop_of_length_le (by rw [dV_length, HVL.out]; omega)]; trivial)⟩
      have HHH := Lib.hid HH
      clear HH
      subst hke
      go_wp2_with fail
      go_ret
      exact ⟨by rw [HHH.out]; rfl, HWR.out⟩
    have hkl : k < votes.length := by rw [HVL.out]; exact hkv
    have hkv2 : (k : Int) < (vl : Int) := by omega
    obtain ⟨b, off, rfl, hc⟩ := HS.out.vote hkl
    have hdr := dV_drop hkl
    have hwv := (HWV.out _ (List.getElem_mem hkl)).1
    obtain ⟨⟨⟨sl, n, r⟩, bl', bo, bc⟩, hx⟩ : ∃ x, votes[k] = x := ⟨_, rfl⟩
    rw [hx] at hc hdr hwv
    dsimp only at hc hdr hwv
    unfold WfV at hwv
    dsimp only at hwv
    obtain ⟨a0, a1, a2, a3, -⟩ := hc wr HM.out
    obtain ⟨w2, hw2, A2, m2⟩ : ∃ x, wr.alloc (.cells #[.int .u64 (sl : Int), .int .u64 (n : Int), .int .i64 r, .slice bo bl'.length bc] 52) = x ∧ x.heap[wr.heap.size]? = some (.cells #[.int .u64 (sl : Int), .int .u64 (n : Int), .int .i64 r, .slice bo bl'.length bc] 52 (0, 0)) ∧ Mod [] wr x := ⟨_, rfl, heap_alloc_new wr _, Mod.alloc _ _ _⟩
    have b0 := cell_of_block (i := 0) A2
    have b1 := cell_of_block (i := 1) A2
    have b2 := cell_of_block (i := 2) A2
    have M2 := Lib.hid (HM.out.trans' m2)
    have MW2 := Lib.hid (HWR.out.trans' m2)
    rw [hdr] at HCH
    have HP := Lib.hid (place_any (n : Int) r w2)
    clear hc hdr hx A2 m2 c0 c3 c5 c6 c7 hw1 HB
    by_cases hsl : a < sl
    case neg =>
      have D : decide (sl ≤ a) = true := decide_eq_true (by omega)
      have HH := Lib.hid (HB1.out false ⟨fun h => absurd (show a < sl from (HCH.out.1 h).1) hsl, fun h => absurd h (by decide)⟩)
      go_wp2_with fail
      go_ret
      exact ⟨by rw [HH.out]; rfl, MW2.out⟩
    have D : decide (sl ≤ a) = false := decide_eq_false (by omega)
    go_wp2_with fail
    refine HP.out.mono ?_
    rintro e w3 ⟨rfl, m3⟩
    have M3 := Lib.hid (M2.out.trans' m3)
    have MW3 := Lib.hid (MW2.out.trans' m3)
    have d0 := m3.cell b0 List.not_mem_nil
    obtain ⟨q, hq⟩ : ∃ q, decide (Place r) = q := ⟨_, rfl⟩
    have HQ := Lib.hid hq
    rw [hq]
    clear hq m3 HP hw2 a0 a1 a2 a3 b0 b1 b2
    cases q
    case false =>
      have HH := Lib.hid (HB1.out false ⟨fun h => absurd (HCH.out.1 h).2.1 (of_decide_eq_false HQ.out), fun h => absurd h (by decide)⟩)
      go_wp2_with fail
      go_ret
      exact ⟨by rw [HH.out]; rfl, MW3.out⟩
    go_wp2_with fail
    go_roundw
    case rel => exact ⟨k + 1, sl, rfl, by go_num, by omega, by omega, ⟨fun h => (HCH.out.1 h).2.2, fun h => HCH.out.2 ⟨hsl, of_decide_eq_true HQ.out, h⟩⟩, M3.out⟩
    case measure => simp [intOf]; omega
end Go.Proofs.YtekdnljincbghaaDoor
/- The walk of msg.Check. -/
namespace Go.Proofs.YtekdnljincbghaaDoor
open Go Go.RowKit Go.Lib

/-- May a message be? -/
def MayM (d : Md) : Prop :=
  Known d.h.kind ∧ ¬ (98 ∉ Fl d.h.kind ∧ ¬ (d.h.bn = 0 ∧ d.h.br = 0)) ∧ Place d.h.br ∧ ¬ (99 ∉ Fl d.h.kind ∧ d.h.commit ≠ 0) ∧ (102 ∉ Fl d.h.kind ↔ d.h.first = 0) ∧ ¬ (108 ∉ Fl d.h.kind ∧ d.h.last ≠ 0) ∧ ¬ (108 ∈ Fl d.h.kind ∧ d.h.last < d.h.first) ∧
    ¬ (112 ∉ Fl d.h.kind ∧ 0 < d.snap.length) ∧ ¬ (115 ∉ Fl d.h.kind ∧ 0 < d.batches.length) ∧ ¬ (118 ∉ Fl d.h.kind ∧ 0 < d.votes.length) ∧ Lists d
instance (d : Md) : Decidable (MayM d) := inferInstanceAs (Decidable (_ ∧ _))
def checkE (d : Md) : Int := if MayM d then 0 else 1
theorem checkE_no {d : Md} (h : ¬ MayM d) : checkE d = 1 := if_neg h
theorem not_dec {c : UInt8} {l : List UInt8} {q : Bool} (h : (!decide (c ∈ l)) = q) : if q then c ∉ l else c ∈ l := by
  subst h
  by_cases hc : c ∈ l <;> simp [hc]

set_option maxRecDepth 100000 in
set_option maxHeartbeats 8000000 in
theorem check_any (m : Mm) (w : World) (hs : SeesM w m) (hw : WfM m) (hf : Flds w) : Calls Tryd.prog 13 #[msgV m] w fun e w' => e = .returned (.int .i64 (checkE m.d)) ∧ Mod [] w w' := by
  have HM0 : Hid (∀ w', Mod [] w w' → Calls Tryd.prog 27 #[msgV m] w' fun e w'' => e = .returned (.bool (decide (Lists m.d))) ∧ Mod [] w' w'') := Lib.hid (fun w' hm => lists_any m w' (hs.mod0 hm) hw)
  have hdl : m.d.batches.length = m.batches.length ∧ m.d.votes.length = m.votes.length := ⟨by unfold Mm.d; rw [dB_length], by unfold Mm.d; rw [dV_length]⟩
  obtain ⟨d, hd⟩ : ∃ x, m.d = x := ⟨_, rfl⟩
  rw [hd] at HM0 hdl ⊢
  have hdh : d.h = m.h ∧ d.snap = m.p.1 := by rw [← hd]; exact ⟨rfl, rfl⟩
  obtain ⟨⟨kind, bn, br, first, last, commit⟩, vo, vc, votes, so, sc, batches, pl, po, pc⟩ := m
  dsimp only at hdh hdl
  obtain ⟨hdh, hds⟩ := hdh
  obtain ⟨hdb, hdv⟩ := hdl
  have hcb := hw.h
  unfold WfH at hcb
  dsimp only at hcb
  have hb := heap_alloc_new w (.cells #[.int .u8 (kind : Int), .int .u64 (bn : Int), .int .i64 br, .int .u64 (first : Int), .int .u64 (last : Int), .int .u64 (commit : Int), .slice vo votes.length vc, .slice so batches.length sc, .slice po pl.length pc] 29)
  have m1 := Mod.alloc [] w (.cells #[.int .u8 (kind : Int), .int .u64 (bn : Int), .int .i64 br, .int .u64 (first : Int), .int .u64 (last : Int), .int .u64 (commit : Int), .slice vo votes.length vc, .slice so batches.length sc, .slice po pl.length pc] 29)
  obtain ⟨w1, hw1⟩ : ∃ x, w.alloc (.cells #[.int .u8 (kind : Int), .int .u64 (bn : Int), .int .i64 br, .int .u64 (first : Int), .int .u64 (last : Int), .int .u64 (commit : Int), .slice vo votes.length vc, .slice so batches.length sc, .slice po pl.length pc] 29) = x := ⟨_, rfl⟩
  rw [hw1] at hb m1
  have hMay : MayM d ↔ (Known kind ∧ ¬ (98 ∉ Fl kind ∧ ¬ (bn = 0 ∧ br = 0)) ∧ Place br ∧ ¬ (99 ∉ Fl kind ∧ commit ≠ 0) ∧ (102 ∉ Fl kind ↔ first = 0) ∧ ¬ (108 ∉ Fl kind ∧ last ≠ 0) ∧ ¬ (108 ∈ Fl kind ∧ last < first) ∧
    ¬ (112 ∉ Fl kind ∧ 0 < pl.length) ∧ ¬ (115 ∉ Fl kind ∧ 0 < batches.length) ∧ ¬ (118 ∉ Fl kind ∧ 0 < votes.length) ∧ Lists d) := by
    unfold MayM
    rw [hdh, hds, hdb, hdv]
  have HMY := Lib.hid hMay
  have HF := Lib.hid (hf.mod0 m1)
  have M1 := Lib.hid m1
  have HK := Lib.hid (known_any kind w1 HF.out)
  have c0 := cell_of_block (i := 0) hb
  have HNO : Hid (∀ c, Known kind → ∀ wx, Mod [] w1 wx → Calls Tryd.prog 24 #[.string ⟨#[c]⟩, .pointer (some ⟨w.heap.size, 0, none⟩)] wx fun e w' => e = .returned (.bool (!decide (c ∈ Fl kind))) ∧ w' = wx) := Lib.hid (fun c hk wx hm => no_any w.heap.size kind c wx (by have := hk.2; omega) (hm.cell c0 List.not_mem_nil) (HF.out.mod0 hm))
  have c1 := cell_of_block (i := 1) hb
  have c2 := cell_of_block (i := 2) hb
  have c3 := cell_of_block (i := 3) hb
  have c4 := cell_of_block (i := 4) hb
  have c5 := cell_of_block (i := 5) hb
  have c6 := cell_of_block (i := 6) hb
  have c7 := cell_of_block (i := 7) hb
  have c8 := cell_of_block (i := 8) hb
  have HL := Lib.hid HM0.out
  have HB := Lib.hid hb
  clear hs hw hf hb m1 hMay HM0 hd hdh hds hdb hdv
  unfold msgV mC
  dsimp only
  obtain ⟨vl, hvl⟩ : ∃ n, votes.length = n := ⟨_, rfl⟩
  obtain ⟨bl, hbl⟩ : ∃ n, batches.length = n := ⟨_, rfl⟩
  obtain ⟨sl, hsl⟩ : ∃ n, pl.length = n := ⟨_, rfl⟩
  unfold msgV mC at HL
  dsimp only at HL
  rw [hvl, hbl, hsl] at HL HMY hw1 c0 c1 c2 c3 c4 c5 c6 c7 c8 HB ⊢
  clear hvl hbl hsl
  go_enter Tryd.func13, Tryd.ntmps13
  go_wp2_with fail
  refine HK.out.mono ?_
  rintro e w2 ⟨rfl, he⟩
  subst he
  obtain ⟨q, hq⟩ : ∃ q, decide (Known kind) = q := ⟨_, rfl⟩
  rw [hq]
  cases q
  case false =>
    have HH := Lib.hid (checkE_no (fun h => (of_decide_eq_false hq) (HMY.out.1 h).1))
    clear hq HK
    go_wp2_with fail
    go_ret
    exact ⟨by rw [HH.out]; rfl, M1.out⟩
  have HKN := Lib.hid (of_decide_eq_true hq)
  clear hq HK
  obtain ⟨ta, Hta⟩ : ∃ q : Bool, Hid (q = true ↔ (98 ∉ Fl kind ∧ ¬ (bn = 0 ∧ br = 0))) := ⟨decide (98 ∉ Fl kind ∧ ¬ (bn = 0 ∧ br = 0)), Lib.hid (decide_eq_true_iff)⟩
  go_upto_region 4 with (fail)
  go_cut [10] from 11 to 18 (fun s wx => s = .bool ta ∧ w2 = wx)
  case first =>
    have HC := Lib.hid (HNO.out 98 HKN.out w2 (by first | exact Mod.refl _ _ | exact MX.out))
    go_wp2_with fail
    refine HC.out.mono ?_
    rintro e w4 ⟨rfl, he⟩
    subst he
    obtain ⟨q, hq⟩ : ∃ q, (!decide (98 ∈ Fl kind)) = q := ⟨_, rfl⟩
    rw [hq]
    have HQ := Lib.hid (not_dec hq)
    clear hq HC
    cases q
    case false =>
      obtain rfl : ta = false := by
        cases ta
        · rfl
        · exact absurd (Hta.out.1 rfl).1 (by have := HQ.out; simpa using this)
      go_wp2_with fail
      go_meet
      exact ⟨rfl, rfl⟩
    by_cases hX : ¬ (bn = 0 ∧ br = 0)
    · obtain rfl : ta = true := Hta.out.2 ⟨by have := HQ.out; simpa using this, hX⟩
      by_cases h0 : bn = 0
      · have E1 : (bn = 0) = True := eq_true h0
        have E2 : (br = 0) = False := eq_false (fun h => hX ⟨h0, h⟩)
        clear hX h0
        go_wp2_with fail
        go_meet
        exact ⟨rfl, rfl⟩
      · have E1 : (bn = 0) = False := eq_false h0
        clear hX h0
        go_wp2_with fail
        go_meet
        exact ⟨rfl, rfl⟩
    · obtain rfl : ta = false := by
        cases ta
        · rfl
        · exact absurd (Hta.out.1 rfl).2 hX
      have h0 := Classical.not_not.1 hX
      have E1 : (bn = 0) = True := eq_true h0.1
      have E2 : (br = 0) = True := eq_true h0.2
      clear hX h0
      go_wp2_with fail
      go_meet
      exact ⟨rfl, rfl⟩
  case rest =>
  obtain ⟨rfl, rfl⟩ := hcut
  cases ta
  case true =>
    have HH := Lib.hid (checkE_no (fun h => (HMY.out.1 h).2.1 (Hta.out.1 rfl)))
    go_wp2_with fail
    go_ret
    exact ⟨by rw [HH.out]; rfl, M1.out⟩
  have HP := Lib.hid (place_any (bn : Int) br w2)
  go_wp2_with fail
  refine HP.out.mono ?_
  rintro e w3 ⟨rfl, m3⟩
  have MX := Lib.hid m3
  have MW := Lib.hid (M1.out.trans' m3)
  have HB3 := Lib.hid (m3.get HB.out List.not_mem_nil)
  clear m3 HP c0 c1 c2 c3 c4 c5 c6 c7 c8 hw1
  obtain ⟨q, hq⟩ : ∃ q, decide (Place br) = q := ⟨_, rfl⟩
  rw [hq]
  cases q
  case false =>
    have HH := Lib.hid (checkE_no (fun h => (of_decide_eq_false hq) (HMY.out.1 h).2.2.1))
    clear hq
    go_wp2_with fail
    go_ret
    exact ⟨by rw [HH.out]; rfl, MW.out⟩
  have HPL := Lib.hid (of_decide_eq_true hq)
  clear hq
  have c0 := cell_of_block (i := 0) HB3.out
  have c3 := cell_of_block (i := 3) HB3.out
  have c4 := cell_of_block (i := 4) HB3.out
  have c5 := cell_of_block (i := 5) HB3.out
  have c6 := cell_of_block (i := 6) HB3.out
  have c7 := cell_of_block (i := 7) HB3.out
  have c8 := cell_of_block (i := 8) HB3.out
  obtain ⟨tc, Htc⟩ : ∃ q : Bool, Hid (q = true ↔ (99 ∉ Fl kind ∧ commit ≠ 0)) := ⟨decide (99 ∉ Fl kind ∧ commit ≠ 0), Lib.hid (decide_eq_true_iff)⟩
  go_upto_region 6 with (fail)
  go_cut [10] from 23 to 29 (fun s wx => s = .bool tc ∧ w3 = wx)
  case first =>
    have HC := Lib.hid (HNO.out 99 HKN.out w3 (by first | exact Mod.refl _ _ | exact MX.out))
    go_wp2_with fail
    refine HC.out.mono ?_
    rintro e w4 ⟨rfl, he⟩
    subst he
    obtain ⟨q, hq⟩ : ∃ q, (!decide (99 ∈ Fl kind)) = q := ⟨_, rfl⟩
    rw [hq]
    have HQ := Lib.hid (not_dec hq)
    clear hq HC
    cases q
    case false =>
      obtain rfl : tc = false := by
        cases tc
        · rfl
        · exact absurd (Htc.out.1 rfl).1 (by have := HQ.out; simpa using this)
      go_wp2_with fail
      go_meet
      exact ⟨rfl, rfl⟩
    by_cases hX : commit ≠ 0
    · obtain rfl : tc = true := Htc.out.2 ⟨by have := HQ.out; simpa using this, hX⟩
      have D : ((commit : Int) != 0) = true := by
        rw [bne_iff_ne]
        omega
      clear hX
      go_wp2_with fail
      go_meet
      exact ⟨rfl, rfl⟩
    · obtain rfl : tc = false := by
        cases tc
        · rfl
        · exact absurd (Htc.out.1 rfl).2 hX
      have D : ((commit : Int) != 0) = false := by
        rw [bne_eq_false_iff_eq]
        omega
      clear hX
      go_wp2_with fail
      go_meet
      exact ⟨rfl, rfl⟩
  case rest =>
  obtain ⟨rfl, rfl⟩ := hcut
  cases tc
  case true =>
    have HH := Lib.hid (checkE_no (fun h => (HMY.out.1 h).2.2.2.1 (Htc.out.1 rfl)))
    go_wp2_with fail
    go_ret
    exact ⟨by rw [HH.out]; rfl, MW.out⟩
  obtain ⟨tf, Htf⟩ : ∃ q : Bool, Hid (q = true ↔ (¬ (102 ∉ Fl kind ↔ first = 0))) := ⟨decide (¬ (102 ∉ Fl kind ↔ first = 0)), Lib.hid (decide_eq_true_iff)⟩
  go_upto_region 7 with (fail)
  go_cut [10] from 30 to 35 (fun s wx => s = .bool tf ∧ Mod [] w3 wx)
  case first =>
    obtain ⟨nf, hnf⟩ : ∃ q, (!decide (102 ∈ Fl kind)) = q := ⟨_, rfl⟩
    have HC : Hid (∀ k, Calls Tryd.prog 24 #[.string ⟨#[102]⟩, .pointer (some ⟨w.heap.size, 0, none⟩)] (w3.drewN k) fun e w' => e = .returned (.bool nf) ∧ w' = w3.drewN k) := Lib.hid (fun k => by
      have h := HNO.out 102 HKN.out (w3.drewN k) (MX.out.trans0 (Mod.drewN _ _ _))
      rw [hnf] at h
      exact h)
    have HQ := Lib.hid (not_dec hnf)
    clear hnf
    obtain ⟨z, hz⟩ : ∃ z, ((first : Int) == 0) = z := ⟨_, rfl⟩
    have HZ : Hid (z = true ↔ first = 0) := Lib.hid (by
      rw [← hz, beq_iff_eq]
      omega)
    obtain rfl : tf = (nf != z) := by
      have h1 := Htf.out
      have h2 := HQ.out
      have h3 := HZ.out
      cases nf <;> cases z <;> cases tf <;> simp at h1 h2 h3 ⊢ <;> simp_all
    clear Htf HQ HZ
    cases nf <;> cases z
    all_goals
      go_quiet ((refine Calls.quiet_of_same (HC.out _)))
      go_wp2
      go_meet
      exact ⟨rfl, Mod.drewN _ _ _⟩
  case rest =>
  obtain ⟨rfl, hm7⟩ := hcut
  have MX7 := Lib.hid (MX.out.trans' hm7)
  have MW7 := Lib.hid (MW.out.trans' hm7)
  have HB7 := Lib.hid (hm7.get HB3.out List.not_mem_nil)
  clear hm7 HB3 c0 c3 c4 c5 c6 c7 c8 MX MW
  rename World => w6
  have MX := Lib.hid MX7.out
  have MW := Lib.hid MW7.out
  clear MX7 MW7
  cases tf
  case true =>
    have HH := Lib.hid (checkE_no (fun h => (Htf.out.1 rfl) (HMY.out.1 h).2.2.2.2.1))
    go_wp2_with fail
    go_ret
    exact ⟨by rw [HH.out]; rfl, MW.out⟩
  have c0 := cell_of_block (i := 0) HB7.out
  have c1 := cell_of_block (i := 1) HB7.out
  have c2 := cell_of_block (i := 2) HB7.out
  have c3 := cell_of_block (i := 3) HB7.out
  have c4 := cell_of_block (i := 4) HB7.out
  have c5 := cell_of_block (i := 5) HB7.out
  have c6 := cell_of_block (i := 6) HB7.out
  have c7 := cell_of_block (i := 7) HB7.out
  have c8 := cell_of_block (i := 8) HB7.out
  obtain ⟨te, Hte⟩ : ∃ q : Bool, Hid (q = true ↔ (108 ∉ Fl kind ∧ last ≠ 0)) := ⟨decide (108 ∉ Fl kind ∧ last ≠ 0), Lib.hid (decide_eq_true_iff)⟩
  go_upto_region 8 with (fail)
  go_cut [10] from 36 to 42 (fun s wx => s = .bool te ∧ w6 = wx)
  case first =>
    have HC := Lib.hid (HNO.out 108 HKN.out w6 (by first | exact Mod.refl _ _ | exact MX.out))
    go_wp2_with fail
    refine HC.out.mono ?_
    rintro e w4 ⟨rfl, he⟩
    subst he
    obtain ⟨q, hq⟩ : ∃ q, (!decide (108 ∈ Fl kind)) = q := ⟨_, rfl⟩
    rw [hq]
    have HQ := Lib.hid (not_dec hq)
    clear hq HC
    cases q
    case false =>
      obtain rfl : te = false := by
        cases te
        · rfl
        · exact absurd (Hte.out.1 rfl).1 (by have := HQ.out; simpa using this)
      go_wp2_with fail
      go_meet
      exact ⟨rfl, rfl⟩
    by_cases hX : last ≠ 0
    · obtain rfl : te = true := Hte.out.2 ⟨by have := HQ.out; simpa using this, hX⟩
      have D : ((last : Int) != 0) = true := by
        rw [bne_iff_ne]
        omega
      clear hX
      go_wp2_with fail
      go_meet
      exact ⟨rfl, rfl⟩
    · obtain rfl : te = false := by
        cases te
        · rfl
        · exact absurd (Hte.out.1 rfl).2 hX
      have D : ((last : Int) != 0) = false := by
        rw [bne_eq_false_iff_eq]
        omega
      clear hX
      go_wp2_with fail
      go_meet
      exact ⟨rfl, rfl⟩
  case rest =>
  obtain ⟨rfl, rfl⟩ := hcut
  cases te
  case true =>
    have HH := Lib.hid (checkE_no (fun h => (HMY.out.1 h).2.2.2.2.2.1 (Hte.out.1 rfl)))
    go_wp2_with fail
    go_ret
    exact ⟨by rw [HH.out]; rfl, MW.out⟩
  obtain ⟨tg, Htg⟩ : ∃ q : Bool, Hid (q = true ↔ (108 ∈ Fl kind ∧ last < first)) := ⟨decide (108 ∈ Fl kind ∧ last < first), Lib.hid (decide_eq_true_iff)⟩
  go_upto_region 9 with (fail)
  go_cut [10] from 43 to 52 (fun s wx => s = .bool tg ∧ w6 = wx)
  case first =>
    have HC := Lib.hid (HNO.out 108 HKN.out w6 (by first | exact Mod.refl _ _ | exact MX.out))
    go_wp2_with fail
    refine HC.out.mono ?_
    rintro e w4 ⟨rfl, he⟩
    subst he
    obtain ⟨q, hq⟩ : ∃ q, (!decide (108 ∈ Fl kind)) = q := ⟨_, rfl⟩
    rw [hq]
    have HQ := Lib.hid (not_dec hq)
    clear hq HC
    cases q
    case true =>
      obtain rfl : tg = false := by
        cases tg
        · rfl
        · exact absurd (Htg.out.1 rfl).1 (by have := HQ.out; simpa using this)
      go_wp2_with fail
      go_meet
      exact ⟨rfl, rfl⟩
    by_cases hX : last < first
    · obtain rfl : tg = true := Htg.out.2 ⟨by have := HQ.out; simpa using this, hX⟩
      have D : decide (last < first) = true := decide_eq_true hX
      clear hX
      go_wp2_with fail
      go_meet
      exact ⟨rfl, rfl⟩
    · obtain rfl : tg = false := by
        cases tg
        · rfl
        · exact absurd (Htg.out.1 rfl).2 hX
      have D : decide (last < first) = false := decide_eq_false hX
      clear hX
      go_wp2_with fail
      go_meet
      exact ⟨rfl, rfl⟩
  case rest =>
  obtain ⟨rfl, rfl⟩ := hcut
  cases tg
  case true =>
    have HH := Lib.hid (checkE_no (fun h => (HMY.out.1 h).2.2.2.2.2.2.1 (Htg.out.1 rfl)))
    go_wp2_with fail
    go_ret
    exact ⟨by rw [HH.out]; rfl, MW.out⟩
  obtain ⟨tp, Htp⟩ : ∃ q : Bool, Hid (q = true ↔ (112 ∉ Fl kind ∧ 0 < sl)) := ⟨decide (112 ∉ Fl kind ∧ 0 < sl), Lib.hid (decide_eq_true_iff)⟩
  go_upto_region 11 with (fail)
  go_cut [53] from 54 to 61 (fun s wx => s = .bool tp ∧ w6 = wx)
  case first =>
    have HC := Lib.hid (HNO.out 112 HKN.out w6 (by first | exact Mod.refl _ _ | exact MX.out))
    go_wp2_with fail
    refine HC.out.mono ?_
    rintro e w4 ⟨rfl, he⟩
    subst he
    obtain ⟨q, hq⟩ : ∃ q, (!decide (112 ∈ Fl kind)) = q := ⟨_, rfl⟩
    rw [hq]
    have HQ := Lib.hid (not_dec hq)
    clear hq HC
    cases q
    case false =>
      obtain rfl : tp = false := by
        cases tp
        · rfl
        · exact absurd (Htp.out.1 rfl).1 (by have := HQ.out; simpa using this)
      go_wp2_with fail
      go_meet
      exact ⟨rfl, rfl⟩
    by_cases hX : 0 < sl
    · obtain rfl : tp = true := Htp.out.2 ⟨by have := HQ.out; simpa using this, hX⟩
      have D : decide (0 < sl) = true := decide_eq_true hX
      clear hX
      go_wp2_with fail
      go_meet
      exact ⟨rfl, rfl⟩
    · obtain rfl : tp = false := by
        cases tp
        · rfl
        · exact absurd (Htp.out.1 rfl).2 hX
      have D : decide (0 < sl) = false := decide_eq_false hX
      clear hX
      go_wp2_with fail
      go_meet
      exact ⟨rfl, rfl⟩
  case rest =>
  obtain ⟨rfl, rfl⟩ := hcut
  cases tp
  case true =>
    have HH := Lib.hid (checkE_no (fun h => (HMY.out.1 h).2.2.2.2.2.2.2.1 (Htp.out.1 rfl)))
    go_wp2_with fail
    go_ret
    exact ⟨by rw [HH.out]; rfl, MW.out⟩
  obtain ⟨ts, Hts⟩ : ∃ q : Bool, Hid (q = true ↔ (115 ∉ Fl kind ∧ 0 < bl)) := ⟨decide (115 ∉ Fl kind ∧ 0 < bl), Lib.hid (decide_eq_true_iff)⟩
  go_upto_region 12 with (fail)
  go_cut [53] from 62 to 69 (fun s wx => s = .bool ts ∧ w6 = wx)
  case first =>
    have HC := Lib.hid (HNO.out 115 HKN.out w6 (by first | exact Mod.refl _ _ | exact MX.out))
    go_wp2_with fail
    refine HC.out.mono ?_
    rintro e w4 ⟨rfl, he⟩
    subst he
    obtain ⟨q, hq⟩ : ∃ q, (!decide (115 ∈ Fl kind)) = q := ⟨_, rfl⟩
    rw [hq]
    have HQ := Lib.hid (not_dec hq)
    clear hq HC
    cases q
    case false =>
      obtain rfl : ts = false := by
        cases ts
        · rfl
        · exact absurd (Hts.out.1 rfl).1 (by have := HQ.out; simpa using this)
      go_wp2_with fail
      go_meet
      exact ⟨rfl, rfl⟩
    by_cases hX : 0 < bl
    · obtain rfl : ts = true := Hts.out.2 ⟨by have := HQ.out; simpa using this, hX⟩
      have D : decide (0 < bl) = true := decide_eq_true hX
      clear hX
      go_wp2_with fail
      go_meet
      exact ⟨rfl, rfl⟩
    · obtain rfl : ts = false := by
        cases ts
        · rfl
        · exact absurd (Hts.out.1 rfl).2 hX
      have D : decide (0 < bl) = false := decide_eq_false hX
      clear hX
      go_wp2_with fail
      go_meet
      exact ⟨rfl, rfl⟩
  case rest =>
  obtain ⟨rfl, rfl⟩ := hcut
  cases ts
  case true =>
    have HH := Lib.hid (checkE_no (fun h => (HMY.out.1 h).2.2.2.2.2.2.2.2.1 (Hts.out.1 rfl)))
    go_wp2_with fail
    go_ret
    exact ⟨by rw [HH.out]; rfl, MW.out⟩
  obtain ⟨tv, Htv⟩ : ∃ q : Bool, Hid (q = true ↔ (118 ∉ Fl kind ∧ 0 < vl)) := ⟨decide (118 ∉ Fl kind ∧ 0 < vl), Lib.hid (decide_eq_true_iff)⟩
  go_upto_region 13 with (fail)
  go_cut [53] from 70 to 77 (fun s wx => s = .bool tv ∧ w6 = wx)
  case first =>
    have HC := Lib.hid (HNO.out 118 HKN.out w6 (by first | exact Mod.refl _ _ | exact MX.out))
    go_wp2_with fail
    refine HC.out.mono ?_
    rintro e w4 ⟨rfl, he⟩
    subst he
    obtain ⟨q, hq⟩ : ∃ q, (!decide (118 ∈ Fl kind)) = q := ⟨_, rfl⟩
    rw [hq]
    have HQ := Lib.hid (not_dec hq)
    clear hq HC
    cases q
    case false =>
      obtain rfl : tv = false := by
        cases tv
        · rfl
        · exact absurd (Htv.out.1 rfl).1 (by have := HQ.out; simpa using this)
      go_wp2_with fail
      go_meet
      exact ⟨rfl, rfl⟩
    by_cases hX : 0 < vl
    · obtain rfl : tv = true := Htv.out.2 ⟨by have := HQ.out; simpa using this, hX⟩
      have D : decide (0 < vl) = true := decide_eq_true hX
      clear hX
      go_wp2_with fail
      go_meet
      exact ⟨rfl, rfl⟩
    · obtain rfl : tv = false := by
        cases tv
        · rfl
        · exact absurd (Htv.out.1 rfl).2 hX
      have D : decide (0 < vl) = false := decide_eq_false hX
      clear hX
      go_wp2_with fail
      go_meet
      exact ⟨rfl, rfl⟩
  case rest =>
  obtain ⟨rfl, rfl⟩ := hcut
  cases tv
  case true =>
    have HH := Lib.hid (checkE_no (fun h => (HMY.out.1 h).2.2.2.2.2.2.2.2.2.1 (Htv.out.1 rfl)))
    go_wp2_with fail
    go_ret
    exact ⟨by rw [HH.out]; rfl, MW.out⟩
  have HLL := Lib.hid (HL.out w6 MW.out)
  go_wp2_with fail
  refine HLL.out.mono ?_
  rintro e w7 ⟨rfl, m7⟩
  have M7 := Lib.hid (MW.out.trans' m7)
  have HE : Hid (checkE d = if decide (Lists d) then 0 else 1) := Lib.hid (by
    have hn : ∀ {b : Bool} {p : Prop}, (b = true ↔ p) → b = false → ¬ p := fun h hb hp => by rw [h.2 hp] at hb; exact absurd hb (by decide)
    have h1 := hn Hta.out rfl
    have h2 := hn Htc.out rfl
    have h3 := Classical.not_not.1 (hn Htf.out rfl)
    have h4 := hn Hte.out rfl
    have h5 := hn Htg.out rfl
    have h6 := hn Htp.out rfl
    have h7 := hn Hts.out rfl
    have h8 := hn Htv.out rfl
    unfold checkE
    by_cases hl : Lists d
    · rw [if_pos (HMY.out.2 ⟨HKN.out, h1, HPL.out, h2, h3, h4, h5, h6, h7, h8, hl⟩), decide_eq_true hl]
      rfl
    · rw [if_neg (fun h => hl (HMY.out.1 h).2.2.2.2.2.2.2.2.2.2), decide_eq_false hl]
      rfl)
  obtain ⟨q, hq⟩ : ∃ q, decide (Lists d) = q := ⟨_, rfl⟩
  rw [hq] at HE ⊢
  clear m7 HLL hq
  cases q
  · go_wp2_with fail
    go_ret
    exact ⟨by rw [HE.out]; rfl, M7.out⟩
  · go_wp2_with fail
    go_ret
    exact ⟨by rw [HE.out]; rfl, M7.out⟩
end Go.Proofs.YtekdnljincbghaaDoor
/- Slices of the call's own: what append does to one, from a source of whatever kind. Over any program. -/
namespace Go.Proofs.YtekdnljincbghaaDoor
open Go Go.RowKit

/-- The block that a slice's address names. -/
def blk : Option Addr → List Nat
  | some a => [a.block]
  | none => []

/-- A slice of n elements (sz cells each, of type e) in a block of its own, from the block's head; its cells are xs. -/
def Own (w : World) (e : TypeId) (sz : Nat) (ao : Option Addr) (n cap : Nat) (xs : List Value) : Prop :=
  xs.length = n * sz ∧ ((ao = none ∧ n = 0 ∧ cap = 0) ∨
    ∃ g cur fz, ao = some ⟨g, 0, none⟩ ∧ w.heap[g]? = some (.cells cur e fz) ∧ (fz = (0, 0) ∨ cur.size ≤ fz.1) ∧ n ≤ cap ∧ cap ≤ maxLen ∧ cap * sz ≤ cur.size ∧ cur.toList.take (n * sz) = xs)

theorem Own.nil0 (w : World) (e : TypeId) (sz : Nat) : Own w e sz none 0 0 [] := ⟨by simp, .inl ⟨rfl, rfl, rfl⟩⟩

theorem Own.mod {S : List Nat} {w w' : World} {e : TypeId} {sz : Nat} {ao : Option Addr} {n cap : Nat} {xs : List Value} (h : Own w e sz ao n cap xs) (hm : Mod S w w') (hn : ∀ k, k ∈ blk ao → k ∉ S) : Own w' e sz ao n cap xs := by
  refine ⟨h.1, ?_⟩
  rcases h.2 with h | ⟨g, cur, fz, rfl, hg, r⟩
  · exact .inl h
  · exact .inr ⟨g, cur, fz, rfl, hm.get hg (hn g (by simp [blk])), r⟩
theorem Own.mod0 {w w' : World} {e : TypeId} {sz : Nat} {ao : Option Addr} {n cap : Nat} {xs : List Value} (h : Own w e sz ao n cap xs) (hm : Mod [] w w') : Own w' e sz ao n cap xs := h.mod hm (by simp)
theorem Own.lt {w : World} {e : TypeId} {sz : Nat} {ao : Option Addr} {n cap : Nat} {xs : List Value} (h : Own w e sz ao n cap xs) : ∀ k, k ∈ blk ao → k < w.heap.size := by
  intro k hk
  rcases h.2 with ⟨rfl, _⟩ | ⟨g, cur, fz, rfl, hg, _⟩
  · simp [blk] at hk
  · simp only [blk, List.mem_singleton] at hk; subst hk; exact lt_of_block hg
theorem Own.cell {w : World} {e : TypeId} {sz : Nat} {ao : Option Addr} {n cap : Nat} {xs : List Value} (h : Own w e sz ao n cap xs) {j : Nat} {u : Value} (hj : xs[j]? = some u) :
    ∃ g, ao = some ⟨g, 0, none⟩ ∧ w.cell? ⟨g, j, none⟩ = some u ∧ w.frozen? ⟨g, j, none⟩ = false := by
  rcases h.2 with ⟨rfl, rfl, _⟩ | ⟨g, cur, fz, rfl, hg, hz, hn, hm, hs, ht⟩
  · have h0 : xs = [] := List.eq_nil_of_length_eq_zero (by rw [h.1]; simp)
    subst h0; simp at hj
  · rw [← ht, List.getElem?_take] at hj
    split at hj
    · have hj' : cur[j]? = some u := by simpa using hj
      refine ⟨g, rfl, by rw [cell_of_block hg]; exact hj', ?_⟩
      have hlt := (Array.getElem?_eq_some_iff.1 hj').1
      rcases hz with rfl | hz
      · exact free_of_block hg
      · simp only [World.frozen?, hg]
        have : ¬ fz.1 ≤ j := by omega
        simp [this]
    · cases hj
/-- As kit's word has it. -/
theorem Own.le {w : World} {e : TypeId} {sz : Nat} {ao : Option Addr} {n cap : Nat} {xs : List Value} (h : Own w e sz ao n cap xs) : n ≤ cap := by
  rcases h.2 with ⟨_, rfl, rfl⟩ | ⟨g, cur, fz, rfl, hg, hz, hn, _⟩
  · exact Nat.le_refl _
  · exact hn
theorem Own.ne_none {w : World} {e : TypeId} {sz : Nat} {ao : Option Addr} {n cap : Nat} {xs : List Value} (h : Own w e sz ao n cap xs) (h0 : 0 < n) : ∃ g, ao = some ⟨g, 0, none⟩ ∧ g < w.heap.size := by
  rcases h.2 with ⟨_, rfl, _⟩ | ⟨g, cur, fz, rfl, hg, _⟩
  · omega
  · exact ⟨g, rfl, lt_of_block hg⟩

/-- A new row of cells, whole. -/
theorem Own.new {w : World} {g : Nat} {e : TypeId} {sz : Nat} {cur : Array Value} {fz : Nat × Nat} {n : Nat} (hg : w.heap[g]? = some (.cells cur e fz)) (hz : fz = (0, 0) ∨ cur.size ≤ fz.1) (hs : cur.size = n * sz) (hm : n ≤ maxLen) : Own w e sz (some ⟨g, 0, none⟩) n n cur.toList :=
  ⟨by simpa using hs, .inr ⟨g, cur, fz, rfl, hg, hz, Nat.le_refl _, hm, Nat.le_of_eq hs.symm, by rw [← hs]; exact List.take_of_length_le (by simp)⟩⟩

/-- A cell of a row of the call's own is stored. -/
theorem Own.set {w : World} {e : TypeId} {sz g n cap j : Nat} {xs : List Value} (h : Own w e sz (some ⟨g, 0, none⟩) n cap xs) (u : Value) :
    Own (w.setCell ⟨g, j, none⟩ u) e sz (some ⟨g, 0, none⟩) n cap (xs.set j u) := by
  rcases h.2 with ⟨h0, _⟩ | ⟨g', cur, fz, hg, hb, hz, hn, hm, hs, ht⟩
  · cases h0
  · cases hg
    refine ⟨by rw [List.length_set]; exact h.1, .inr ⟨g, cur.setIfInBounds j u, fz, rfl, heap_setCell_same hb u, by simpa using hz, hn, hm, by simpa using hs, ?_⟩⟩
    rw [Array.toList_setIfInBounds, List.take_set, ht]

/-- The new slice lies where the old one lay, or in a new block. -/
def SameOrNew (w w' : World) (ao ao' : Option Addr) : Prop := ao' = ao ∨ ∃ g, ao' = some ⟨g, 0, none⟩ ∧ w.heap.size ≤ g ∧ g < w'.heap.size
theorem SameOrNew.blk {w w' : World} {ao ao' : Option Addr} (h : SameOrNew w w' ao ao') : ∀ k, k ∈ blk ao' → k ∈ blk ao ∨ w.heap.size ≤ k := by
  intro k hk
  rcases h with rfl | ⟨g, rfl, hg, _⟩
  · exact .inl hk
  · simp only [Proofs.YtekdnljincbghaaDoor.blk, List.mem_singleton] at hk; subst hk; exact .inr hg

theorem Mod.transNew {S : List Nat} {a b c : World} {ao ao' : Option Addr} (h : Mod S a b) (k : Mod (blk ao') b c) (n : SameOrNew a b ao ao') (hs : ∀ k, k ∈ blk ao → k ∈ S) : Mod S a c :=
  h.trans k (fun i hi hl => by rcases n.blk i hi with h' | h'; exact hs i h'; omega)

/-- The source shows these cells. -/
def Shows (w : World) (ao : Option Addr) (news : List Value) : Prop := ∀ j u, news[j]? = some u → ∃ ad, ao = some ad ∧ w.cell? (ad.add j) = some u

def u8v (x : UInt8) : Value := .int .u8 ((x.toNat : Nat) : Int)
theorem Sees.shows {w : World} {ao : Option Addr} {l : List UInt8} (h : Sees w ao l) : Shows w ao (l.map u8v) := by
  intro j u hj
  rw [List.getElem?_map] at hj
  cases hl : l[j]? with
  | none => rw [hl] at hj; simp at hj
  | some x =>
    rw [hl] at hj
    obtain ⟨hlt, hx⟩ := List.getElem?_eq_some_iff.1 hl
    obtain ⟨b, off, h1, h2⟩ := h j hlt
    refine ⟨_, h1, ?_⟩
    rw [Addr.add_lit, h2, hx]
    exact hj
theorem Own.shows {w : World} {e : TypeId} {sz : Nat} {ao : Option Addr} {n cap : Nat} {xs : List Value} (h : Own w e sz ao n cap xs) : Shows w ao xs := by
  intro j u hj
  obtain ⟨g, h1, h2, _⟩ := h.cell hj
  exact ⟨_, h1, by rw [Addr.add_lit]; simpa using h2⟩
theorem Own.sees {w : World} {e : TypeId} {ao : Option Addr} {n cap : Nat} {l : List UInt8} (h : Own w e 1 ao n cap (l.map u8v)) : Sees w ao l := by
  intro j hj
  obtain ⟨g, h1, h2, _⟩ := h.cell (j := j) (u := u8v l[j]) (by rw [List.getElem?_map, List.getElem?_eq_getElem hj]; rfl)
  exact ⟨g, 0, h1, by rw [Nat.zero_add]; exact h2⟩
theorem Own.len1 {w : World} {e : TypeId} {ao : Option Addr} {n cap : Nat} {α : Type} {f : α → Value} {l : List α} (h : Own w e 1 ao n cap (l.map f)) : n = l.length := by
  have := h.1; simpa using this.symm
theorem one_u8 : ∀ (l : List UInt8), ∀ u ∈ l.map u8v, u.oneCell' = true := by
  intro l u hu
  obtain ⟨x, _, rfl⟩ := List.mem_map.1 hu
  rfl

section
variable {P : Program} (w : World)
/-- Cells are stored one by one into a row whose mark, if it bears one, lies behind its last cell. -/
theorem run_storeCells_fz (g o : Nat) (t : TypeId) (fz : Nat × Nat) : ∀ (vs : List Value) (i : Nat) (cur : Array Value) (w : World), w.heap[g]? = some (.cells cur t fz) → (fz = (0, 0) ∨ cur.size ≤ fz.1) → o + i + vs.length ≤ cur.size → (∀ v ∈ vs, v.oneCell' = true) →
    (storeCells ⟨g, o, none⟩ vs i).run P w = .ok () (w.setRow g (cur.toList.take (o + i) ++ vs ++ cur.toList.drop (o + i + vs.length)).toArray)
  | [], i, cur, w, hg, _, _, _ => by
    simp only [storeCells, List.append_nil, List.length_nil, Nat.add_zero, List.take_append_drop, Array.toArray_toList]
    rw [setRow_self w g cur t fz hg]
    rfl
  | v :: rest, i, cur, w, hg, hz, hl, h1 => by
    have hi : o + i < cur.size := by simp at hl; omega
    have hcell : w.cell? ⟨g, o + i, none⟩ = some cur[o + i] := by rw [cell_of_block hg]; simp [hi]
    have hfro : w.frozen? ⟨g, o + i, none⟩ = false := by
      rcases hz with rfl | hz
      · exact free_of_block hg
      · simp only [World.frozen?, hg]
        have : ¬ fz.1 ≤ o + i := by omega
        simp [this]
    have hst : (store ((⟨g, o, none⟩ : Addr).add i) v).run P w = .ok () (w.setRow g (cur.setIfInBounds (o + i) v)) := by
      rw [Addr.add_lit, run_store P w _ v _ (h1 v (by simp)), hcell]
      simp [hfro, setCell_eq_setRow w g (o + i) cur t fz v hg]
    have ih := run_storeCells_fz g o t fz rest (i + 1) (cur.setIfInBounds (o + i) v) (w.setRow g (cur.setIfInBounds (o + i) v)) (setRow_heap w g cur _ t _ hg) (by simpa using hz) (by simp at hl ⊢; omega) (fun x hx => h1 x (by simp [hx]))
    simp only [storeCells, Sem.run_bind, hst, Result.andThen_ok, ih, setRow_setRow]
    congr 3
    have e := list_seg_step cur.toList (o + i) v rest (by simp at hl ⊢; omega)
    simpa [Array.toList_setIfInBounds, Nat.add_assoc] using e
theorem run_append_room_fz (t ty e : TypeId) (i : TypeInfo) (ht : P.underlying t = some (.slice e)) (hi : P.info? e = some i)
    (g sLen sCap : Nat) (cur : Array Value) (fz : Nat × Nat) (hg : w.heap[g]? = some (.cells cur e fz)) (hz : fz = (0, 0) ∨ cur.size ≤ fz.1)
    (a : Addr) (m c : Nat) (news : List Value) (hl : news.length = m * i.size) (hnews : ∀ j u, news[j]? = some u → w.cell? (a.add j) = some u) (h1 : ∀ u ∈ news, u.oneCell' = true)
    (hroom : sLen + m ≤ sCap) (hfit : sLen * i.size + news.length ≤ cur.size) :
    (Builtin.append_ #[t, t] ty #[.slice (some ⟨g, 0, none⟩) sLen sCap, .slice (some a) m c]).run P w =
      .ok (.slice (some ⟨g, 0, none⟩) (sLen + m) sCap) (w.setRow g (cur.toList.take (sLen * i.size) ++ news ++ cur.toList.drop (sLen * i.size + news.length)).toArray) := by
  have hf := run_firstCells_some (P := P) w i.size m a m c news hl hnews
  have hst := run_storeCells_fz (P := P) g (sLen * i.size) e fz news 0 cur w hg hz (by simpa using hfit) h1
  simp only [Nat.add_zero] at hst
  simp [Builtin.append_, run_underlying ht, sizeOf, typeInfo, hi, Builtin.lenOf, hroom, hf, Addr.add_lit, hst]
theorem run_append_mine (t ty e : TypeId) (i : TypeInfo) (z : Value) (size bytes : Nat) (ht : P.underlying t = some (.slice e)) (hi : P.info? e = some i) (hz : i.zero = some z)
    (hsize : i.size = size) (hby : i.bytes = bytes) (hzs : z.cells.size = size) (hsz : 0 < size)
    (ao : Option Addr) (n cap : Nat) (xs : List Value) (hown : Own w e size ao n cap xs)
    (so : Option Addr) (m c : Nat) (news : List Value) (hl : news.length = m * size) (hnews : Shows w so news) (h1 : ∀ u ∈ news, u.oneCell' = true)
    (h63 : n + m ≤ maxLen) (hbytes : (n + m) * bytes ≤ 140737488355328) :
    ∃ ao' cap' w', (Builtin.append_ #[t, t] ty #[.slice ao n cap, .slice so m c]).run P w = .ok (.slice ao' (n + m) cap') w' ∧ Own w' e size ao' (n + m) cap' (xs ++ news) ∧ Mod (blk ao) w w' ∧ SameOrNew w w' ao ao' := by
  subst hsize
  subst hby
  have hsmall : n + m ≤ 9223372036854775807 := by simp only [maxLen] at h63; omega
  have hlen : (xs ++ news).length = (n + m) * i.size := by rw [List.length_append, hown.1, hl, Nat.add_mul]
  by_cases hm0 : m = 0
  · subst hm0
    have hn0 : news = [] := List.eq_nil_of_length_eq_zero (by simpa using hl)
    subst hn0
    have hle := hown.le
    refine ⟨ao, cap, w, ?_, by simpa using hown, Mod.refl _ _, .inl rfl⟩
    have hf : (Builtin.firstCells i.size 0 (.slice so 0 c)).run P w = .ok #[] w := by
      cases so with
      | none => exact run_firstCells_none _ _ _ _ _
      | some ad => simpa using run_firstCells_some (P := P) w i.size 0 ad 0 c [] (by simp) (by simp)
    cases ao with
    | none => simp [Builtin.append_, run_underlying ht, sizeOf, typeInfo, hi, Builtin.lenOf, hle, hf]
    | some a => simp [Builtin.append_, run_underlying ht, sizeOf, typeInfo, hi, Builtin.lenOf, hle, hf, storeCells]
  · obtain ⟨ad, rfl⟩ : ∃ ad, so = some ad := by
      have : 0 < news.length := by rw [hl]; exact Nat.mul_pos (by omega) hsz
      obtain ⟨ad, h, _⟩ := hnews 0 news[0] (by rw [List.getElem?_eq_getElem this])
      exact ⟨ad, h⟩
    have hnews' : ∀ j u, news[j]? = some u → w.cell? (ad.add j) = some u := fun j u hj => by
      obtain ⟨ad', h, h2⟩ := hnews j u hj
      cases h; exact h2
    have grown : ∀ (old : Nat), old < n + m →
        Own (w.drew.alloc (.cells (xs.toArray ++ news.toArray ++ Builtin.zeroCells z.cells (grownCap w (n + m) old e - (n + m))) e)) e i.size (some ⟨w.heap.size, 0, none⟩) (n + m) (grownCap w (n + m) old e) (xs ++ news) := by
      intro old ho
      have hge := grownCap_ge w (n + m) old e
      refine ⟨hlen, .inr ⟨w.heap.size, _, (0, 0), rfl, heap_alloc_new w.drew _, .inl rfl, hge, grownCap_le_maxLen w (n + m) old e h63, ?_, ?_⟩⟩
      · simp only [Array.size_append, List.size_toArray, size_zeroCells, hzs, hown.1, hl, ← Nat.add_mul]
        exact Nat.mul_le_mul_right _ (by omega)
      · simp only [Array.toList_append, List.append_assoc]
        rw [← List.append_assoc, ← hlen]
        exact List.take_left
    have hmod : ∀ o : Obj, Mod (blk ao) w (w.drew.alloc o) := fun o => (Mod.drew _ w).trans' (Mod.alloc _ _ o)
    have hsn : ∀ o : Obj, SameOrNew w (w.drew.alloc o) ao (some ⟨w.heap.size, 0, none⟩) := fun o => .inr ⟨w.heap.size, rfl, Nat.le_refl _, by simp⟩
    rcases hown.2 with ⟨rfl, rfl, rfl⟩ | ⟨g, cur, fz, rfl, hg, hfz, hnc, hcm, hcs, htake⟩
    · have hx : xs = [] := List.eq_nil_of_length_eq_zero (by simpa using hown.1)
      subst hx
      have hr := run_append_nil (P := P) w t ty e i z ht hi hz ad m c news hl hnews' (by omega) (by omega) (by have hb := hbytes; simp only [Nat.zero_add] at hb; omega)
      have hgr := grown 0 (by omega)
      simp only [Nat.zero_add, List.nil_append, Array.empty_append] at hgr ⊢
      exact ⟨_, _, _, hr, hgr, hmod _, hsn _⟩
    · by_cases hroom : n + m ≤ cap
      · have hfit : n * i.size + news.length ≤ cur.size := Nat.le_trans (by rw [hl, ← Nat.add_mul]; exact Nat.mul_le_mul_right _ hroom) hcs
        have hr := run_append_room_fz (P := P) w t ty e i ht hi g n cap cur fz hg hfz ad m c news hl hnews' h1 hroom hfit
        refine ⟨_, _, _, hr, ⟨hlen, .inr ⟨g, _, fz, rfl, setRow_heap w g cur _ e _ hg, hfz.imp id (fun h => by simp; omega), hroom, hcm, ?_, ?_⟩⟩, ⟨rfl, rfl, rfl, by simp, fun k _ hk => setRow_other w g k _ (fun e => hk (by simp [blk, e]))⟩, .inl rfl⟩
        · simp only [List.size_toArray, List.length_append, List.length_take, List.length_drop, Array.length_toList]
          omega
        · rw [htake, ← hlen]
          exact List.take_left
      · have holds : ∀ j u, xs[j]? = some u → w.cell? ((⟨g, 0, none⟩ : Addr).add j) = some u := fun j u hj => by
          obtain ⟨g', h1, h2, _⟩ := hown.cell hj
          cases h1; rw [Addr.add_lit]; simpa using h2
        have hr := run_append_grow (P := P) w t ty e i z ht hi hz ⟨g, 0, none⟩ n cap xs hown.1 holds ad m c news hl hnews' (by omega) (by omega) (growslice_fits (by omega) hbytes)
        exact ⟨_, _, _, hr, grown cap (by omega), hmod _, hsn _⟩

/-- append, one operation of a list of operations: whatever the source. -/
theorem wpl_append {ops : Array Oper} {rest : List Oper} {o : Oper} {a : Act} {Q : Exit → Act → World → Prop} (hgd : o.guard = none) (s x : Operand) (t : TypeId)
    (ho : o.op = .call { callee := .builtin .append, args := #[s, x], argTypes := #[t, t] })
    (e : TypeId) (i : TypeInfo) (z : Value) (size bytes : Nat) (ht : P.underlying t = some (.slice e)) (hi : P.info? e = some i) (hz : i.zero = some z)
    (hsize : i.size = size) (hby : i.bytes = bytes) (hzs : z.cells.size = size) (hsz : 0 < size)
    (ao : Option Addr) (n cap : Nat) (xs : List Value) (hs : a.eval s = .slice ao n cap) (hown : Own w e size ao n cap xs)
    (so : Option Addr) (m c : Nat) (news : List Value) (hx : a.eval x = .slice so m c) (hl : news.length = m * size) (hnews : Shows w so news) (h1 : ∀ u ∈ news, u.oneCell' = true)
    (h63 : n + m ≤ maxLen) (hbytes : (n + m) * bytes ≤ 140737488355328)
    (h : ∀ ao' cap' w', Own w' e size ao' (n + m) cap' (xs ++ news) → Mod (blk ao) w w' → SameOrNew w w' ao ao' → wpList P ops Q rest (a.put o.dst (.slice ao' (n + m) cap')) w') : wpList P ops Q (o :: rest) a w := by
  refine wpList_plain hgd (fun K hK => ?_)
  obtain ⟨ao', cap', w', hr, h2, h3, h4⟩ := run_append_mine (P := P) w t o.type e i z size bytes ht hi hz hsize hby hzs hsz ao n cap xs hown so m c news hl hnews h1 h63 hbytes
  unfold Oper.wp execOp
  simp only [ho, resolve, invoke, builtin, Sem.run_bind, Sem.run_pure, Result.andThen_ok, List.map_toArray, List.map_cons, List.map_nil, hs, hx, hr]
  exact hK _ _ (h ao' cap' w' h2 h3 h4)
/-- make, of a known size: zeros. -/
theorem wpl_make {ops : Array Oper} {rest : List Oper} {o : Oper} {a : Act} {Q : Exit → Act → World → Prop} (hgd : o.guard = none) (l c : Operand) (t : TypeId)
    (ho : o.op = Op.makeSlice t l c) (e : TypeId) (i : TypeInfo) (z : Value) (size bytes : Nat) (ht : P.underlying t = some (.slice e)) (hi : P.info? e = some i) (hz : i.zero = some z)
    (hsize : i.size = size) (hby : i.bytes = bytes) (kl kc : IntKind) (L C : Int) (n : Nat) (hl : a.eval l = .int kl L) (hc : a.eval c = .int kc C) (hL : L = (n : Int)) (hC : C = (n : Int)) (hb : bytes * n ≤ 281474976710656) (h63 : n ≤ maxLen)
    (h : ∀ g w', Own w' e size (some ⟨g, 0, none⟩) n n (madeCells z.cells (n * size)).toList → Mod [] w w' → w.heap.size ≤ g → wpList P ops Q rest (a.put o.dst (.slice (some ⟨g, 0, none⟩) n n)) w') : wpList P ops Q (o :: rest) a w := by
  refine wpList_plain hgd fun K hK' => ?_
  subst hsize hby hL hC
  have hb' : (i.bytes : Int) * (n : Int) ≤ 281474976710656 := by
    have h : ((i.bytes * n : Nat) : Int) ≤ 281474976710656 := by omega
    rwa [Int.natCast_mul] at h
  have hr := run_make (P := P) w t e i z ht hi hz kl kc n n (by omega) (Int.le_refl _) hb' (by unfold maxLen at h63; omega)
  simp only [Int.toNat_natCast] at hr
  unfold Oper.wp
  simp [execOp, ho, hl, hc, hr, Result.andThen]
  exact hK' _ _ (h _ _ (Own.new (heap_alloc_new w _) (.inl rfl) (size_madeCells _ _) h63) (Mod.alloc _ _ _) (Nat.le_refl _))
end
end Go.Proofs.YtekdnljincbghaaDoor
/- Laws for slices of bytes over this seat's program. -/
namespace Go.Proofs.YtekdnljincbghaaDoor
open Go Go.RowKit

theorem infoU8 : (Tryd.prog.info? 5).map (fun i => (i.zero, i.size, i.bytes)) = some (some (.int .u8 0), 1, 1) := by kernel_rfl

/-- A slice of bytes of the call's own. -/
def OwnB (w : World) (ao : Option Addr) (cap : Nat) (l : List UInt8) : Prop := Own w 5 1 ao l.length cap (l.map u8v)
theorem OwnB.nil (w : World) : OwnB w none 0 [] := Own.nil0 _ _ _
theorem OwnB.sees {w : World} {ao : Option Addr} {cap : Nat} {l : List UInt8} (h : OwnB w ao cap l) : Sees w ao l := Own.sees h
theorem OwnB.mod {S : List Nat} {w w' : World} {ao : Option Addr} {cap : Nat} {l : List UInt8} (h : OwnB w ao cap l) (hm : Mod S w w') (hn : ∀ k, k ∈ blk ao → k ∉ S) : OwnB w' ao cap l := Own.mod h hm hn
theorem OwnB.mod0 {w w' : World} {ao : Option Addr} {cap : Nat} {l : List UInt8} (h : OwnB w ao cap l) (hm : Mod [] w w') : OwnB w' ao cap l := Own.mod0 h hm

/-- append of bytes to bytes of the call's own. -/
theorem wpl_app8 {w : World} {ops : Array Oper} {rest : List Oper} {a : Act} {Q : Exit → Act → World → Prop} {dst : Option Tmp} {ty : TypeId} {pos : String} {after : Array Edge} (s x : Operand)
    (ao : Option Addr) (n cap : Nat) (xs : List UInt8) (hs : a.eval s = .slice ao n cap) (hn : xs.length = n) (hown : OwnB w ao cap xs)
    (so : Option Addr) (m c : Nat) (l : List UInt8) (hx : a.eval x = .slice so m c) (hl : l.length = m) (hsees : Sees w so l) (hb : n + m ≤ 140737488355328)
    (h : ∀ ao' cap' w', OwnB w' ao' cap' (xs ++ l) → Mod (blk ao) w w' → SameOrNew w w' ao ao' → wpList Tryd.prog ops Q rest (a.put dst (.slice ao' (n + m) cap')) w') :
    wpList Tryd.prog ops Q (⟨dst, .call { callee := .builtin .append, args := #[s, x], argTypes := #[27, 27] }, ty, pos, after, none⟩ :: rest) a w := by
  obtain ⟨i0, hi, hz0, hz1, hz2⟩ := info_parts infoU8
  subst hn hl
  refine wpl_append w rfl s x 27 rfl 5 i0 _ 1 1 Tryd.underlying27 hi hz0 hz1 hz2 rfl (by decide) ao _ cap _ hs hown so _ c (l.map u8v) hx (by simp) hsees.shows (one_u8 _) (by unfold maxLen; omega) (by omega) ?_
  intro ao' cap' w' h1 h2 h3
  refine h ao' cap' w' ?_ h2 h3
  unfold OwnB
  rw [List.length_append, List.map_append]
  exact h1
/-- Bytes l are handed back, in the block of ao or in a new one (ao none: in a new one). -/
def RetApp (w : World) (ao : Option Addr) (l : List UInt8) (e : Ending) (w' : World) : Prop :=
  ∃ ao' n cap', e = .returned (.slice ao' n cap') ∧ l.length = n ∧ OwnB w' ao' cap' l ∧ Mod (blk ao) w w' ∧ SameOrNew w w' ao ao'
theorem OwnB.lit1 {w : World} {g : Nat} {v : Int} {fz : Nat × Nat} (h : w.heap[g]? = some (.cells #[.int .u8 v] 5 fz)) (x : UInt8) (hx : v = (x.toNat : Int)) (hz : fz = (0, 0) ∨ 1 ≤ fz.1) : OwnB w (some ⟨g, 0, none⟩) 1 [x] := by
  subst hx
  exact Own.new (sz := 1) (n := 1) h hz (by simp) (by unfold maxLen; omega)
theorem SameOrNew.trans {a b c : World} {x y z : Option Addr} (h : SameOrNew a b x y) (k : SameOrNew b c y z) (hs : a.heap.size ≤ b.heap.size) (hs2 : b.heap.size ≤ c.heap.size) : SameOrNew a c x z := by
  rcases k with rfl | ⟨g, rfl, h1, h2⟩
  · rcases h with rfl | ⟨g, rfl, h1, h2⟩
    · exact .inl rfl
    · exact .inr ⟨g, rfl, h1, by omega⟩
  · exact .inr ⟨g, rfl, by omega, h2⟩
/-- Two such calls, one behind the other. -/
theorem RetApp.chain {a b c : World} {x y : Option Addr} {l : List UInt8} {e : Ending} (hm : Mod (blk x) a b) (hn : SameOrNew a b x y) (h : RetApp b y l e c) : RetApp a x l e c := by
  obtain ⟨ao', n, cap', h1, hl, h2, h3, h4⟩ := h
  exact ⟨ao', n, cap', h1, hl, h2, hm.transNew h3 hn (fun _ h => h), hn.trans h4 hm.size h3.size⟩
theorem RetApp.later {a b c : World} {x : Option Addr} {l : List UInt8} {e : Ending} (hm : Mod [] a b) (h : RetApp b x l e c) : RetApp a x l e c :=
  h.chain hm.nil (.inl rfl)
theorem madeU8 (n : Nat) : (madeCells (Value.cells (.int .u8 0)) (n * 1)).toList = (List.replicate n (0 : UInt8)).map u8v := by
  rw [Nat.mul_one]
  show (madeCells #[Value.int .u8 0] n).toList = _
  rw [toList_madeCells_one, List.map_replicate]
  rfl
/-- make([]byte, n). -/
theorem wpl_make8 {w : World} {ops : Array Oper} {rest : List Oper} {a : Act} {Q : Exit → Act → World → Prop} {dst : Option Tmp} {ty : TypeId} {pos : String} {after : Array Edge} (l c : Operand)
    (kl kc : IntKind) (L C : Int) (n : Nat) (hl : a.eval l = .int kl L) (hc : a.eval c = .int kc C) (hL : L = (n : Int)) (hC : C = (n : Int)) (hb : n ≤ 281474976710656)
    (h : ∀ g w', OwnB w' (some ⟨g, 0, none⟩) n (List.replicate n 0) → Mod [] w w' → w.heap.size ≤ g → wpList Tryd.prog ops Q rest (a.put dst (.slice (some ⟨g, 0, none⟩) n n)) w') :
    wpList Tryd.prog ops Q (⟨dst, .makeSlice 27 l c, ty, pos, after, none⟩ :: rest) a w := by
  obtain ⟨i0, hi, hz0, hz1, hz2⟩ := info_parts infoU8
  refine wpl_make w rfl l c 27 rfl 5 i0 _ 1 1 Tryd.underlying27 hi hz0 hz1 hz2 kl kc L C n hl hc hL hC (by omega) (by unfold maxLen; omega) ?_
  intro g w' h1 h2 h3
  rw [madeU8] at h1
  exact h g w' (by unfold OwnB; rw [List.length_replicate]; exact h1) h2 h3
/-- A byte of a row of the call's own is stored. -/
theorem OwnB.set {w : World} {g cap j : Nat} {l : List UInt8} (h : OwnB w (some ⟨g, 0, none⟩) cap l) (x : UInt8) : OwnB (w.setCell ⟨g, j, none⟩ (u8v x)) (some ⟨g, 0, none⟩) cap (l.set j x) := by
  have := Own.set (j := j) h (u8v x)
  unfold OwnB
  rw [List.length_set, List.map_set]
  exact this
theorem OwnB.cell {w : World} {ao : Option Addr} {cap j : Nat} {l : List UInt8} (h : OwnB w ao cap l) (hj : j < l.length) :
    ∃ g, ao = some ⟨g, 0, none⟩ ∧ w.cell? ⟨g, j, none⟩ = some (.int .u8 ((l[j].toNat : Nat) : Int)) ∧ w.frozen? ⟨g, j, none⟩ = false :=
  Own.cell (j := j) (u := u8v l[j]) h (by rw [List.getElem?_map, List.getElem?_eq_getElem hj]; rfl)
end Go.Proofs.YtekdnljincbghaaDoor
/- Strings and bytes: conversions, and a string appended to bytes of the call's own. -/
namespace Go.Proofs.YtekdnljincbghaaDoor
open Go Go.RowKit Go.Lib

/-- The string of these bytes. -/
abbrev strV (l : List UInt8) : Value := .string ⟨l.toArray⟩
theorem str_eta (s : ByteArray) : s = ⟨s.data.toList.toArray⟩ := by cases s; simp
theorem strCells_eq (s : ByteArray) : strCells s = s.data.toList.map u8v := rfl
theorem size_data (s : ByteArray) : s.data.toList.length = s.size := by rw [Array.length_toList]; rfl

section
variable {P : Program} (w : World)
theorem run_append_room_string_fz (t u ty e : TypeId) (i : TypeInfo) (ht : P.underlying t = some (.slice e)) (hu : P.underlying u = some .string) (hi : P.info? e = some i) (hs1 : i.size = 1)
    (g sLen sCap : Nat) (cur : Array Value) (fz : Nat × Nat) (hg : w.heap[g]? = some (.cells cur e fz)) (hz : fz = (0, 0) ∨ cur.size ≤ fz.1) (s : ByteArray)
    (hroom : sLen + s.size ≤ sCap) (hfit : sLen + s.size ≤ cur.size) :
    (Builtin.append_ #[t, u] ty #[.slice (some ⟨g, 0, none⟩) sLen sCap, .string s]).run P w =
      .ok (.slice (some ⟨g, 0, none⟩) (sLen + s.size) sCap) (w.setRow g (cur.toList.take sLen ++ strCells s ++ cur.toList.drop (sLen + s.size)).toArray) := by
  have hf := run_firstCells_string (P := P) w 1 s
  have hst := run_storeCells_fz (P := P) g sLen e fz (strCells s) 0 cur w hg hz (by simpa [strCells_length] using hfit) (strCells_oneCell s)
  simp only [Nat.add_zero, strCells_length] at hst
  simp [Builtin.append_, run_underlying ht, run_underlying hu, sizeOf, typeInfo, hi, hs1, Builtin.lenOf, hroom, hf, Addr.add_lit, hst]

theorem run_append_str (t u ty e : TypeId) (i : TypeInfo) (ht : P.underlying t = some (.slice e)) (hu : P.underlying u = some .string) (hi : P.info? e = some i) (hz : i.zero = some (.int .u8 0))
    (hsize : i.size = 1) (hby : i.bytes = 1)
    (ao : Option Addr) (n cap : Nat) (xs : List Value) (hown : Own w e 1 ao n cap xs) (s : ByteArray) (hbytes : n + s.size ≤ 140737488355328) :
    ∃ ao' cap' w', (Builtin.append_ #[t, u] ty #[.slice ao n cap, .string s]).run P w = .ok (.slice ao' (n + s.size) cap') w' ∧ Own w' e 1 ao' (n + s.size) cap' (xs ++ strCells s) ∧ Mod (blk ao) w w' ∧ SameOrNew w w' ao ao' := by
  have hxl : xs.length = n := by simpa using hown.1
  have hlen : (xs ++ strCells s).length = (n + s.size) * 1 := by rw [List.length_append, hxl, strCells_length]; omega
  have hmod : ∀ o : Obj, Mod (blk ao) w (w.drew.alloc o) := fun o => (Mod.drew _ w).trans' (Mod.alloc _ _ o)
  have hsn : ∀ o : Obj, SameOrNew w (w.drew.alloc o) ao (some ⟨w.heap.size, 0, none⟩) := fun o => .inr ⟨w.heap.size, rfl, Nat.le_refl _, by simp⟩
  have grown : ∀ (old : Nat) (rowCells : Array Value), old < n + s.size → rowCells.toList = xs ++ strCells s →
      Own (w.drew.alloc (.cells (rowCells ++ Builtin.zeroCells (Value.cells (.int .u8 0)) (grownCap w (n + s.size) old e - (n + s.size))) e)) e 1 (some ⟨w.heap.size, 0, none⟩) (n + s.size) (grownCap w (n + s.size) old e) (xs ++ strCells s) := by
    intro old row ho hrow
    have hge := grownCap_ge w (n + s.size) old e
    have hrs : row.size = n + s.size := by rw [← Array.length_toList, hrow]; omega
    refine ⟨hlen, .inr ⟨w.heap.size, _, (0, 0), rfl, heap_alloc_new w.drew _, .inl rfl, hge, grownCap_le_maxLen w (n + s.size) old e (by unfold maxLen; omega), ?_, ?_⟩⟩
    · simp only [Array.size_append, size_zeroCells, hrs]
      show _ ≤ n + s.size + (grownCap w (n + s.size) old e - (n + s.size)) * 1
      omega
    · simp only [Array.toList_append, hrow]
      rw [← hlen]
      exact List.take_left
  rcases hown.2 with ⟨rfl, rfl, rfl⟩ | ⟨g, cur, fz, rfl, hg, hfz, hnc, hcm, hcs, htake⟩
  · have hx : xs = [] := List.eq_nil_of_length_eq_zero hxl
    subst hx
    by_cases h0 : s.size = 0
    · have hs0 : strCells s = [] := List.eq_nil_of_length_eq_zero (by rw [strCells_length]; exact h0)
      refine ⟨none, 0, w, ?_, by rw [hs0, h0]; simpa using Own.nil0 w e 1, Mod.refl _ _, .inl rfl⟩
      simp [Builtin.append_, run_underlying ht, run_underlying hu, sizeOf, typeInfo, hi, Builtin.lenOf, h0, Builtin.firstCells]
    · have hr := run_append_nil_string (P := P) w t u ty e i _ ht hu hi hz s (by omega) (by omega) (by rw [hby]; omega)
      have hgr := grown 0 (s.data.map (fun b => Value.int .u8 b.toNat)) (by omega) (by simp [strCells])
      simp only [Nat.zero_add, List.nil_append] at hgr ⊢
      exact ⟨_, _, _, hr, hgr, hmod _, hsn _⟩
  · by_cases hroom : n + s.size ≤ cap
    · have hr := run_append_room_string_fz (P := P) w t u ty e i ht hu hi hsize g n cap cur fz hg hfz s hroom (by omega)
      refine ⟨_, _, _, hr, ⟨hlen, .inr ⟨g, _, fz, rfl, setRow_heap w g cur _ e _ hg, hfz.imp id (fun h => by simp [strCells_length]; omega), hroom, hcm, ?_, ?_⟩⟩, ⟨rfl, rfl, rfl, by simp, fun k _ hk => setRow_other w g k _ (fun e => hk (by simp [blk, e]))⟩, .inl rfl⟩
      · simp only [List.size_toArray, List.length_append, List.length_take, List.length_drop, Array.length_toList, strCells_length]
        omega
      · rw [Nat.mul_one] at htake
        rw [htake, ← hlen]
        exact List.take_left
    · have holds : ∀ j v, xs[j]? = some v → w.cell? ((⟨g, 0, none⟩ : Addr).add j) = some v := fun j v hj => by
        obtain ⟨g', h1, h2, _⟩ := hown.cell hj
        cases h1; rw [Addr.add_lit]; simpa using h2
      have hr := run_append_grow_string (P := P) w t u ty e i _ ht hu hi hz ⟨g, 0, none⟩ n cap xs (by rw [hsize]; exact hown.1) holds s (by omega) (by omega) (growslice_fits (by omega) (by rw [hby]; omega))
      exact ⟨_, _, _, hr, grown cap _ (by omega) (by simp), hmod _, hsn _⟩

theorem run_string_of (src dst e : TypeId) (hs : P.underlying src = some (.slice e)) (he : P.underlying e = some (.int .u8)) (hd : P.underlying dst = some .string)
    (ao : Option Addr) (cap : Nat) (l : List UInt8) (h : Sees w ao l) : (convert src dst (.slice ao l.length cap)).run P w = .ok (strV l) w := by
  cases l with
  | nil =>
    cases ao with
    | none => exact run_convert_bytes_nil w src e hs he 0 cap dst hd
    | some a => exact run_convert_bytes_back w src dst e a cap [] hs he hd (by intro j hj; simp at hj)
  | cons x l =>
    obtain ⟨b, off, rfl, _⟩ := h 0 (by simp)
    refine run_convert_bytes_back w src dst e ⟨b, off, none⟩ cap (x :: l) hs he hd ?_
    intro j hj
    obtain ⟨b', off', h1, h2⟩ := h j hj
    cases h1
    rw [Addr.add_lit]; exact h2
end

/-- string(b). -/
theorem wpl_str {w : World} {ops : Array Oper} {rest : List Oper} {a : Act} {Q : Exit → Act → World → Prop} {dst : Option Tmp} {ty : TypeId} {pos : String} {after : Array Edge} {gd : Option (Nat × Bool)} (x : Operand)
    (so : Option Addr) (m c : Nat) (l : List UInt8) (hx : a.eval x = .slice so m c) (hl : l.length = m) (hsees : Sees w so l)
    (hw : Region.wanted ⟨dst, .convert 27 9 x, ty, pos, after, gd⟩ (yielded ops a.tmps) = true)
    (h : wpList Tryd.prog ops Q rest (a.put dst (strV l)) w) :
    wpList Tryd.prog ops Q (⟨dst, .convert 27 9 x, ty, pos, after, gd⟩ :: rest) a w := by
  subst hl
  refine wpList_step fun K hK => ?_
  rw [if_pos hw]
  have hr := run_string_of (P := Tryd.prog) w 27 9 5 Tryd.underlying27 Tryd.underlying5 Tryd.underlying9 so c l hsees
  unfold Oper.wp execOp
  simp [hx, hr]
  exact hK _ _ h

theorem bytesRow_take (s : ByteArray) (cap : Nat) (h : s.size ≤ cap) : (bytesRow s cap).toList.take (s.size * 1) = s.data.toList.map u8v ∧ (bytesRow s cap).size = cap := by
  have hs : s.data.size = s.size := rfl
  constructor
  · unfold bytesRow
    rw [Nat.mul_one, Array.toList_append, List.take_left' (by simp [hs])]
    simp [u8v]
  · unfold bytesRow; simp [hs]; omega
/-- []byte(s). -/
theorem wpl_bytes {w : World} {ops : Array Oper} {rest : List Oper} {a : Act} {Q : Exit → Act → World → Prop} {dst : Option Tmp} {ty : TypeId} {pos : String} {after : Array Edge} {gd : Option (Nat × Bool)} (x : Operand)
    (s : ByteArray) (hx : a.eval x = .string s) (hm : s.size ≤ 9223372036854775807)
    (hw : Region.wanted ⟨dst, .convert 9 27 x, ty, pos, after, gd⟩ (yielded ops a.tmps) = true)
    (h : ∀ g cap w', OwnB w' (some ⟨g, 0, none⟩) cap s.data.toList → Mod [] w w' → w.heap.size ≤ g → wpList Tryd.prog ops Q rest (a.put dst (.slice (some ⟨g, 0, none⟩) s.size cap)) w') :
    wpList Tryd.prog ops Q (⟨dst, .convert 9 27 x, ty, pos, after, gd⟩ :: rest) a w := by
  refine wpList_step fun K hK => ?_
  rw [if_pos hw]
  have hr := run_bytes_of_string (P := Tryd.prog) w 9 27 5 s Tryd.underlying9 Tryd.underlying27 Tryd.underlying5
  unfold Oper.wp execOp
  simp [hx, hr]
  have hge := grownCap_ge w s.size 0 5
  obtain ⟨h1, h2⟩ := bytesRow_take s _ hge
  refine hK _ _ (h _ _ _ ?_ ((Mod.drew _ w).trans' (Mod.alloc _ _ _)) (Nat.le_refl _))
  refine ⟨by simp, .inr ⟨w.heap.size, _, _, rfl, heap_alloc_new w.drew _, .inr (Nat.le_refl _), ?_, grownCap_le_maxLen w s.size 0 5 (by unfold maxLen; omega), by rw [h2, Nat.mul_one]; exact Nat.le_refl _, ?_⟩⟩
  · rw [size_data]; exact hge
  · rw [size_data]; exact h1
/-- append(b, s...). -/
theorem wpl_app8s {w : World} {ops : Array Oper} {rest : List Oper} {a : Act} {Q : Exit → Act → World → Prop} {dst : Option Tmp} {ty : TypeId} {pos : String} {after : Array Edge} (s x : Operand)
    (ao : Option Addr) (n cap : Nat) (xs : List UInt8) (hs : a.eval s = .slice ao n cap) (hn : xs.length = n) (hown : OwnB w ao cap xs)
    (t : ByteArray) (hx : a.eval x = .string t) (hb : n + t.size ≤ 140737488355328)
    (h : ∀ ao' cap' w', OwnB w' ao' cap' (xs ++ t.data.toList) → Mod (blk ao) w w' → SameOrNew w w' ao ao' → wpList Tryd.prog ops Q rest (a.put dst (.slice ao' (n + t.size) cap')) w') :
    wpList Tryd.prog ops Q (⟨dst, .call { callee := .builtin .append, args := #[s, x], argTypes := #[27, 9] }, ty, pos, after, none⟩ :: rest) a w := by
  obtain ⟨i0, hi, hz0, hz1, hz2⟩ := info_parts infoU8
  subst hn
  obtain ⟨ao', cap', w', hr, h2, h3, h4⟩ := run_append_str (P := Tryd.prog) w 27 9 ty 5 i0 Tryd.underlying27 Tryd.underlying9 hi hz0 hz1 hz2 ao xs.length cap _ hown t hb
  refine wpList_plain rfl fun K hK => ?_
  unfold Oper.wp execOp
  simp only [resolve, invoke, builtin, Sem.run_bind, Sem.run_pure, Result.andThen_ok, List.map_toArray, List.map_cons, List.map_nil, hs, hx, hr]
  refine hK _ _ (h ao' cap' w' ?_ h3 h4)
  unfold OwnB
  rw [List.length_append, List.map_append, size_data]
  exact h2
end Go.Proofs.YtekdnljincbghaaDoor
/- Regions that draw their order, in abstract worlds: what reads cells that nobody writes from here on is taken first; the calls come up one by one, each by its contract. Over any program. -/
namespace Go.Proofs.YtekdnljincbghaaDoor
open Go Go.RowKit Go.Lib

section
variable {P : Program} {ops : Array Oper} {Q : Exit → Act → World → Prop} {md : Region.Mode}

theorem wpAnyH_weaken {S S' : World → Prop} (hs : ∀ w, S' w → S w) : ∀ (fuel : Nat) (listed : Array Bool) (a : Act) (w : World), wpAnyH P md ops Q S' fuel listed a w → wpAnyH P md ops Q S fuel listed a w
  | 0, _, _, _, h => h
  | fuel + 1, _, _, _, h => ⟨h.1, fun i hi => wpOp_mono (fun a' w' h' => ⟨hs _ h'.1, wpAnyH_weaken hs fuel _ a' w' h'.2⟩) (h.2 i hi)⟩

/-- From here on at most the blocks K are written, of those that are there. -/
def Rest (P : Program) (md : Region.Mode) (ops : Array Oper) (Q : Exit → Act → World → Prop) (K : List Nat) (fuel : Nat) (listed : Array Bool) (a : Act) (w : World) : Prop :=
  wpAnyH P md ops Q (Mod K w) fuel listed a w

theorem rest_start {id : Nat} {a : Act} {w : World} (K : List Nat) (n : Nat) (L : Array Bool) (hn : ops.size = n) (hL : Array.replicate n false = L) (hm : P.follows .mixedOrders = true)
    (h : ∀ w1, Mod [] w w1 → Rest P .any ops Q K n L a w1) : (Code.region id ops true).wp P Q a w := by
  subst hn hL
  exact wp_region_held hm (h w.drew (Mod.drew _ _))

theorem rest_take {K : List Nat} {i : Nat} {oi : Oper} {v : Value} {fuel : Nat} {listed : Array Bool} {a : Act} {w : World} (hi : ops[i]? = some oi)
    (hs : Region.noSelect ops = true) (hf : Region.free md ops listed i = true) (hr : (Region.ready md ops listed).contains i = true)
    (hQ : ∀ c a w, Q (.panic c) (a.put oi.dst v) w → Q (.panic c) a w) (hy : YieldsIf P ops (Mod K w) oi v a)
    (h : Rest P md ops Q K fuel (listed.setIfInBounds i true) (a.put oi.dst v) w) : Rest P md ops Q K (fuel + 1) listed a w :=
  wpAnyH_take hi hs hf hr hQ hy (Mod.refl _ _) h

/-- One operation that is taken first, written out. -/
theorem rest_got {K : List Nat} {i : Nat} {dst : Option Tmp} {op : Op} {ty : TypeId} {pos : String} {after : Array Edge} {gd : Option (Nat × Bool)} {v : Value} {fuel : Nat} {listed : Array Bool} {a : Act} {w : World} (hi : ops[i]? = some ⟨dst, op, ty, pos, after, gd⟩)
    (hs : Region.noSelect ops = true) (hf : Region.free md ops listed i = true) (hr : (Region.ready md ops listed).contains i = true)
    (hQ : ∀ c a w, Q (.panic c) (a.put dst v) w → Q (.panic c) a w) (hw : Region.wanted ⟨dst, op, ty, pos, after, gd⟩ (yielded ops a.tmps) = true)
    (hy : ∀ w', Mod K w w' → (execOp a.eval ⟨dst, op, ty, pos, after, gd⟩).run P w' = .ok (.value v) w')
    (h : Rest P md ops Q K fuel (listed.setIfInBounds i true) (a.put dst v) w) : Rest P md ops Q K (fuel + 1) listed a w :=
  rest_take hi hs hf hr hQ (Or.inl ⟨hw, hy⟩) h
/-- One that is not wanted. -/
theorem rest_skip {K : List Nat} {i : Nat} {dst : Option Tmp} {op : Op} {ty : TypeId} {pos : String} {after : Array Edge} {gd : Option (Nat × Bool)} {fuel : Nat} {listed : Array Bool} {a : Act} {w : World} (hi : ops[i]? = some ⟨dst, op, ty, pos, after, gd⟩)
    (hs : Region.noSelect ops = true) (hf : Region.free md ops listed i = true) (hr : (Region.ready md ops listed).contains i = true)
    (hQ : ∀ c a w, Q (.panic c) (a.put dst undef) w → Q (.panic c) a w) (hw : Region.wanted ⟨dst, op, ty, pos, after, gd⟩ (yielded ops a.tmps) = false)
    (h : Rest P md ops Q K fuel (listed.setIfInBounds i true) (a.put dst undef) w) : Rest P md ops Q K (fuel + 1) listed a w :=
  rest_take hi hs hf hr hQ (Or.inr ⟨hw, rfl⟩) h

theorem rest_done {K : List Nat} {listed : Array Bool} {a : Act} {w : World} (hr : Region.ready md ops listed = []) (h : Q .normal a w) (fuel : Nat) :
    Rest P md ops Q K fuel listed a w := wpAnyH_done hr h fuel

/-- The way back into the region behind one operation; no tactic looks into it. -/
def Back (P : Program) (md : Region.Mode) (ops : Array Oper) (Q : Exit → Act → World → Prop) (K : List Nat) (w : World) (fuel : Nat) (listed : Array Bool) : Exit → Act → World → Prop := fun e a1 w1 =>
  match e with
  | .normal => Mod K w w1 ∧ wpAnyH P md ops Q (Mod K w) fuel listed a1 w1
  | e => Q e a1 w1

theorem back_to {K K1 : List Nat} {w w1 : World} {a1 : Act} {fuel : Nat} {listed : Array Bool} (hm : Mod K w w1) (hk : ∀ k, k ∈ K1 → k < w.heap.size → k ∈ K)
    (h : Rest P md ops Q K1 fuel listed a1 w1) : Back P md ops Q K w fuel listed .normal a1 w1 :=
  ⟨hm, wpAnyH_weaken (fun _ hw => hm.trans hw hk) _ _ _ _ h⟩

/-- One operation that may come up, by itself. -/
theorem one_op {K : List Nat} {i : Nat} {dst : Option Tmp} {op : Op} {ty : TypeId} {pos : String} {after : Array Edge} {gd : Option (Nat × Bool)} {fuel : Nat} {listed : Array Bool} {a : Act} {w : World} (ho : ops[i]? = some ⟨dst, op, ty, pos, after, gd⟩)
    (hw : Region.wanted ⟨dst, op, ty, pos, after, gd⟩ (yielded ops a.tmps) = true)
    (h : wpList P ops (Back P md ops Q K w fuel (listed.setIfInBounds i true)) [⟨dst, op, ty, pos, after, none⟩] a w) :
    wpOp P ops Q i (fun a' w' => Mod K w w' ∧ wpAnyH P md ops Q (Mod K w) fuel (listed.setIfInBounds i true) a' w') a w := by
  unfold wpOp
  simp only [ho]
  rw [if_pos hw]
  have hwn : Region.wanted ⟨dst, op, ty, pos, after, none⟩ (yielded ops a.tmps) = true := rfl
  unfold wpList at h
  rw [if_pos hwn] at h
  refine h.imp (fun h => ?_) id
  have h : Oper.upon P ⟨dst, op, ty, pos, after, gd⟩ a (wpList P ops (Back P md ops Q K w fuel (listed.setIfInBounds i true)) []) (Back P md ops Q K w fuel (listed.setIfInBounds i true)) ((execOp a.eval ⟨dst, op, ty, pos, after, gd⟩).run P w) := h
  unfold Oper.wp
  generalize (execOp a.eval ⟨dst, op, ty, pos, after, gd⟩).run P w = r at *
  cases r with
  | ok n w' =>
    cases n <;> simp only [Oper.upon] at h ⊢ <;>
      first
        | exact Calls.mono h (fun e w'' he => by cases e <;> exact he)
        | exact Rows.mono h (fun _ _ he => he)
        | exact h
  | halt x w' => cases x <;> simp only [Oper.upon] at h ⊢ <;> exact h

theorem rest_one {K : List Nat} {i : Nat} {dst : Option Tmp} {op : Op} {ty : TypeId} {pos : String} {after : Array Edge} {gd : Option (Nat × Bool)} {fuel : Nat} {listed : Array Bool} {a : Act} {w : World} (hr : Region.ready md ops listed = [i]) (ho : ops[i]? = some ⟨dst, op, ty, pos, after, gd⟩)
    (hw : Region.wanted ⟨dst, op, ty, pos, after, gd⟩ (yielded ops a.tmps) = true)
    (h : wpList P ops (Back P md ops Q K w fuel (listed.setIfInBounds i true)) [⟨dst, op, ty, pos, after, none⟩] a w) : Rest P md ops Q K (fuel + 1) listed a w := by
  refine wpAnyH_all hr (by simp) ?_
  intro j hj
  simp only [List.mem_singleton] at hj
  subst hj
  exact one_op ho hw h

/-- Two operations may come up: either one. -/
theorem rest_two {K : List Nat} {i j : Nat} {dst dst' : Option Tmp} {op op' : Op} {ty ty' : TypeId} {pos pos' : String} {after after' : Array Edge} {gd gd' : Option (Nat × Bool)} {fuel : Nat} {listed : Array Bool} {a : Act} {w : World} (hr : Region.ready md ops listed = [i, j])
    (ho : ops[i]? = some ⟨dst, op, ty, pos, after, gd⟩) (hw : Region.wanted ⟨dst, op, ty, pos, after, gd⟩ (yielded ops a.tmps) = true)
    (ho' : ops[j]? = some ⟨dst', op', ty', pos', after', gd'⟩) (hw' : Region.wanted ⟨dst', op', ty', pos', after', gd'⟩ (yielded ops a.tmps) = true)
    (h : wpList P ops (Back P md ops Q K w fuel (listed.setIfInBounds i true)) [⟨dst, op, ty, pos, after, none⟩] a w)
    (h' : wpList P ops (Back P md ops Q K w fuel (listed.setIfInBounds j true)) [⟨dst', op', ty', pos', after', none⟩] a w) : Rest P md ops Q K (fuel + 1) listed a w := by
  refine wpAnyH_all hr (by simp) ?_
  intro k hk
  simp only [List.mem_cons, List.not_mem_nil, or_false] at hk
  rcases hk with rfl | rfl
  · exact one_op ho hw h
  · exact one_op ho' hw' h'

theorem fresh_of {w w' : World} {a' : Option Addr} (n : SameOrNew w w' none a') {K : List Nat} : ∀ k, k ∈ blk a' → k < w.heap.size → k ∈ K := by
  intro k hk hl
  rcases n.blk k hk with h | h
  · simp [blk] at h
  · omega

/-- string(b), taken first. -/
theorem reads_str {K : List Nat} {w : World} {dst : Option Tmp} {ty : TypeId} {pos : String} {after : Array Edge} {gd : Option (Nat × Bool)} (ev : Operand → Value) (x : Operand) (src d e : TypeId)
    (hs : P.underlying src = some (.slice e)) (he : P.underlying e = some (.int .u8)) (hd : P.underlying d = some .string)
    (so : Option Addr) (m c : Nat) (l : List UInt8) (hx : ev x = .slice so m c) (hl : l.length = m) (hsees : Sees w so l) (hk : ∀ k, k ∈ blk so → k ∉ K) :
    ∀ w', Mod K w w' → (execOp ev ⟨dst, .convert src d x, ty, pos, after, gd⟩).run P w' = .ok (.value (strV l)) w' := by
  subst hl
  intro w' hm
  have hr := run_string_of (P := P) w' src d e hs he hd so c l (hsees.mod hm (by intro b off h; subst h; exact hk b (by simp [blk])))
  unfold execOp
  simp [hx, hr]
end

/-- s + t, s == t and s != t of strings that are known. -/
theorem reads_cat (w : World) {dst : Option Tmp} {ty t2 : TypeId} {pos : String} {after : Array Edge} {gd : Option (Nat × Bool)} (ev : Operand → Value) (x y : Operand) (l1 l2 : List UInt8)
    (hx : ev x = strV l1) (hy : ev y = strV l2) (hl : l1.length + l2.length ≤ 9223372036854775807) :
    (execOp ev ⟨dst, .binOp .add 9 x y t2, ty, pos, after, gd⟩).run Tryd.prog w = .ok (.value (strV (l1 ++ l2))) w := by
  have h1 : ({ data := l1.toArray } : ByteArray) ++ { data := l2.toArray } = ⟨(l1 ++ l2).toArray⟩ := by
    apply ByteArray.ext
    simp
  have h2 : ¬ 9223372036854775807 < l1.length + l2.length := by omega
  have h4 : (Op.stringOp .add ⟨l1.toArray⟩ ⟨l2.toArray⟩).run Tryd.prog w = .ok (strV (l1 ++ l2)) w := by
    rw [run_string_add_sum _ _ _ (by simpa [ByteArray.size] using hl), h1]
  have h5 : (binOp .add 9 (strV l1) (strV l2)).run Tryd.prog w = .ok (strV (l1 ++ l2)) w := by rw [binOp_string_add]; exact h4
  simp [execOp, hx, hy, eqGuard, h5]
theorem reads_eqs (w : World) {dst : Option Tmp} {ty t2 : TypeId} {pos : String} {after : Array Edge} {gd : Option (Nat × Bool)} (ev : Operand → Value) (x y : Operand) (l1 l2 : List UInt8)
    (hx : ev x = strV l1) (hy : ev y = strV l2) :
    (execOp ev ⟨dst, .binOp .eql 9 x y t2, ty, pos, after, gd⟩).run Tryd.prog w = .ok (.value (.bool (decide (l1 = l2)))) w := by
  have h4 : ((⟨l1.toArray⟩ : ByteArray).toList == (⟨l2.toArray⟩ : ByteArray).toList) = decide (l1 = l2) := by
    rw [ByteArray.toList_eq, ByteArray.toList_eq]
    by_cases h : l1 = l2
    · subst h; simp
    · simp [h]
  have h5 : (binOp .eql 9 (strV l1) (strV l2)).run Tryd.prog w = .ok (.bool (decide (l1 = l2))) w := by rw [binOp_string_eql, h4]; rfl
  simp [execOp, hx, hy, eqGuard, h5]
theorem reads_nes (w : World) {dst : Option Tmp} {ty t2 : TypeId} {pos : String} {after : Array Edge} {gd : Option (Nat × Bool)} (ev : Operand → Value) (x y : Operand) (l1 l2 : List UInt8)
    (hx : ev x = strV l1) (hy : ev y = strV l2) :
    (execOp ev ⟨dst, .binOp .neq 9 x y t2, ty, pos, after, gd⟩).run Tryd.prog w = .ok (.value (.bool (!(decide (l1 = l2))))) w := by
  have h4 : ((⟨l1.toArray⟩ : ByteArray).toList == (⟨l2.toArray⟩ : ByteArray).toList) = decide (l1 = l2) := by
    rw [ByteArray.toList_eq, ByteArray.toList_eq]
    by_cases h : l1 = l2
    · subst h; simp
    · simp [h]
  have h5 : (binOp .neq 9 (strV l1) (strV l2)).run Tryd.prog w = .ok (.bool (!(decide (l1 = l2)))) w := by rw [binOp_string_neq, h4]; rfl
  simp [execOp, hx, hy, eqGuard, h5]
end Go.Proofs.YtekdnljincbghaaDoor
/- The walks of the ballot package: the order of two ballots. -/
namespace Go.Proofs.YtekdnljincbghaaDoor
open Go Go.RowKit Go.Lib

def cmpI (a b : Int) : Int := if a < b then -1 else if b < a then 1 else 0
/-- The order of two ballots, as a number. -/
def ordB (aN aR bN bR : Int) : Int := if cmpI aN bN = 0 then cmpI aR bR else cmpI aN bN
def ballot (n r : Int) : Value := .agg #[.int .u64 n, .int .i64 r]
def lessB (aN aR bN bR : Int) : Bool := decide (aN < bN ∨ (aN = bN ∧ aR < bR))
theorem ordB_less (aN aR bN bR : Int) : decide (ordB aN aR bN bR < 0) = lessB aN aR bN bR := by
  unfold ordB cmpI lessB
  repeat' split
  all_goals simp_all
  all_goals omega
end Go.Proofs.YtekdnljincbghaaDoor
/- The walks of the ballot package: the next ballot; one that a law makes. -/
namespace Go.Proofs.YtekdnljincbghaaDoor
open Go Go.RowKit Go.Lib

theorem Mod.frozen {S : List Nat} {w w' : World} (h : Mod S w w') {p : Addr} (hb : p.block < w.heap.size) (hn : p.block ∉ S) : w'.frozen? p = w.frozen? p := by
  simp only [World.frozen?, h.block p.block hb hn]
/-- A replica's next ballot, and the error. -/
def nextB (bN bR r : Int) : Int × Int × Int :=
  if r < 0 ∨ 7 ≤ r then (0, 0, 1)
  else if 0 < bN ∧ lessB bN bR bN r = true then (bN, r, 0)
  else if bN = 18446744073709551615 then (0, 0, 30)
  else (bN + 1, r, 0)
end Go.Proofs.YtekdnljincbghaaDoor
/- Numbers as bytes of 7 bits: the plain function that both texts compute. No program in sight. -/
namespace Go.Proofs.YtekdnljincbghaaDoor
open Go Go.RowKit

/-- A number's bytes, with fuel. -/
def encF : Nat → Nat → List UInt8
  | 0, n => [UInt8.ofNat n]
  | f + 1, n => if n < 128 then [UInt8.ofNat n] else UInt8.ofNat (128 + n % 128) :: encF f (n / 128)
def enc7 (n : Nat) : List UInt8 := encF 10 n
theorem encF_stable (f : Nat) : ∀ n, n < 128 ^ (f + 1) → encF (f + 1) n = encF f n := by
  induction f with
  | zero => intro n h; simp [encF]; omega
  | succ f ih =>
    intro n h
    show (if n < 128 then _ else UInt8.ofNat (128 + n % 128) :: encF (f + 1) (n / 128)) = (if n < 128 then _ else UInt8.ofNat (128 + n % 128) :: encF f (n / 128))
    split
    · rfl
    · rw [ih (n / 128) (by rw [Nat.div_lt_iff_lt_mul (by omega)]; rwa [Nat.pow_succ] at h)]
theorem enc7_small (n : Nat) (h : n < 128) : enc7 n = [UInt8.ofNat n] := by simp [enc7, encF, h]
theorem enc7_big (n : Nat) (h : 128 ≤ n) (h64 : n < 18446744073709551616) : enc7 n = UInt8.ofNat (128 + n % 128) :: enc7 (n / 128) := by
  show (if n < 128 then _ else UInt8.ofNat (128 + n % 128) :: encF 9 (n / 128)) = _
  rw [if_neg (by omega)]
  show _ = _ :: encF 10 (n / 128)
  rw [encF_stable 9 (n / 128) (by simp only [Nat.reduceAdd, Nat.reducePow]; omega)]
theorem encF_length (f : Nat) : ∀ n, 1 ≤ (encF f n).length ∧ (encF f n).length ≤ f + 1 := by
  induction f with
  | zero => intro n; simp [encF]
  | succ f ih =>
    intro n
    unfold encF
    split
    · simp
    · have := ih (n / 128); simp only [List.length_cons]; omega
theorem enc7_length (n : Nat) : 1 ≤ (enc7 n).length ∧ (enc7 n).length ≤ 11 := encF_length 10 n

/-- The groups that the iterator hands on: 7 bits, and whether they are the last. -/
def grpF : Nat → Nat → List (UInt8 × Bool)
  | 0, n => [(UInt8.ofNat n, true)]
  | f + 1, n => if n < 128 then [(UInt8.ofNat n, true)] else (UInt8.ofNat (n % 128), false) :: grpF f (n / 128)
def grp (n : Nat) : List (UInt8 × Bool) := grpF 10 n
def grpB (x : UInt8 × Bool) : UInt8 := if x.2 = true then x.1 else UInt8.ofNat (128 + x.1.toNat)
theorem grpF_stable (f : Nat) : ∀ n, n < 128 ^ (f + 1) → grpF (f + 1) n = grpF f n := by
  induction f with
  | zero => intro n h; simp [grpF]; omega
  | succ f ih =>
    intro n h
    show (if n < 128 then _ else (UInt8.ofNat (n % 128), false) :: grpF (f + 1) (n / 128)) = (if n < 128 then _ else (UInt8.ofNat (n % 128), false) :: grpF f (n / 128))
    split
    · rfl
    · rw [ih (n / 128) (by rw [Nat.div_lt_iff_lt_mul (by omega)]; rwa [Nat.pow_succ] at h)]
theorem grp_small (n : Nat) (h : n < 128) : grp n = [(UInt8.ofNat n, true)] := by simp [grp, grpF, h]
theorem grp_big (n : Nat) (h : 128 ≤ n) (h64 : n < 18446744073709551616) : grp n = (UInt8.ofNat (n % 128), false) :: grp (n / 128) := by
  show (if n < 128 then _ else (UInt8.ofNat (n % 128), false) :: grpF 9 (n / 128)) = _
  rw [if_neg (by omega)]
  show _ = _ :: grpF 10 (n / 128)
  rw [grpF_stable 9 (n / 128) (by simp only [Nat.reduceAdd, Nat.reducePow]; omega)]
theorem grpF_enc (f : Nat) : ∀ n, n < 128 ^ (f + 1) → (grpF f n).map grpB = encF f n := by
  induction f with
  | zero => intro n h; simp [grpF, encF, grpB]
  | succ f ih =>
    intro n h
    unfold grpF encF
    split
    · simp [grpB]
    · rw [List.map_cons, ih (n / 128) (by rw [Nat.div_lt_iff_lt_mul (by omega)]; rwa [Nat.pow_succ] at h)]
      have : grpB (UInt8.ofNat (n % 128), false) = UInt8.ofNat (128 + n % 128) := by
        have e : (UInt8.ofNat (n % 128)).toNat = n % 128 := by rw [UInt8.toNat_ofNat']; omega
        simp only [grpB, e]; rfl
      rw [this]
theorem grp_enc (n : Nat) (h64 : n < 18446744073709551616) : (grp n).map grpB = enc7 n := grpF_enc 10 n (by simp only [Nat.reduceAdd, Nat.reducePow]; omega)
theorem grp_length (n : Nat) (h64 : n < 18446744073709551616) : (grp n).length = (enc7 n).length := by rw [← grp_enc n h64]; simp
theorem grpF_wf (f : Nat) : ∀ n, n < 128 ^ (f + 1) → ∀ x ∈ grpF f n, x.1.toNat < 128 := by
  induction f with
  | zero => intro n h x hx; simp [grpF] at hx; subst hx; simp at h; show (UInt8.ofNat n).toNat < 128; rw [UInt8.toNat_ofNat']; omega
  | succ f ih =>
    intro n h x hx
    unfold grpF at hx
    split at hx
    · simp at hx; subst hx; show (UInt8.ofNat n).toNat < 128; rw [UInt8.toNat_ofNat']; omega
    · rcases List.mem_cons.1 hx with rfl | hx
      · show (UInt8.ofNat (n % 128)).toNat < 128; rw [UInt8.toNat_ofNat']; omega
      · exact ih (n / 128) (by rw [Nat.div_lt_iff_lt_mul (by omega)]; rwa [Nat.pow_succ] at h) x hx
theorem grp_wf (n : Nat) (h64 : n < 18446744073709551616) : ∀ x ∈ grp n, x.1.toNat < 128 := grpF_wf 10 n (by simp only [Nat.reduceAdd, Nat.reducePow]; omega)

/-- A signed number, as a number from 0 on. -/
def zig (m : Int) : Nat := if 0 ≤ m then (2 * m).toNat else (-2 * m - 1).toNat
theorem zig_pos (m : Int) (h : 0 ≤ m) : zig m = (2 * m).toNat := if_pos h
theorem zig_neg (m : Int) (h : m < 0) : zig m = (-2 * m - 1).toNat := if_neg (by omega)
theorem zig_lt (m : Int) (h1 : -9223372036854775808 ≤ m) (h2 : m ≤ 9223372036854775807) : zig m < 18446744073709551616 := by
  unfold zig; split <;> omega
theorem xor_ones64 (n : Nat) (h : n < 18446744073709551616) : bits .xor .u64 (n : Int) 18446744073709551615 = ((18446744073709551615 - n : Nat) : Int) := by
  show IntKind.u64.wrap ((BitVec.ofInt 64 (n : Int) ^^^ BitVec.ofInt 64 18446744073709551615).toNat : Int) = _
  have e1 : BitVec.ofInt 64 18446744073709551615 = BitVec.allOnes 64 := by decide
  have e2 : BitVec.ofInt 64 (n : Int) = BitVec.ofNat 64 n := BitVec.ofInt_natCast 64 n
  rw [e1, e2, BitVec.xor_allOnes, BitVec.toNat_not, BitVec.toNat_ofNat, Nat.mod_eq_of_lt (by simpa using h)]
  rw [IntWalk.u64_in _ (by omega)]
/-- As the walk writes it. -/
theorem zig_walk (m : Int) (h1 : -9223372036854775808 ≤ m) (h2 : m ≤ 9223372036854775807) :
    bits BinOp.xor IntKind.u64 (IntKind.u64.wrap (IntKind.u64.wrap m * 2)) (IntKind.u64.wrap (m / 9223372036854775808)) = ((zig m : Nat) : Int) := by
  by_cases h0 : 0 ≤ m
  · have e1 : m / 9223372036854775808 = 0 := by omega
    have e2 : IntKind.u64.wrap m = m := IntWalk.u64_in _ (by omega)
    have e3 : IntKind.u64.wrap (m * 2) = ((zig m : Nat) : Int) := by rw [IntWalk.u64_in _ (by omega), zig_pos m h0]; omega
    have e4 : IntKind.u64.wrap 0 = ((0 : Nat) : Int) := by decide
    rw [e1, e2, e3, e4, u64_xor_nat _ _ (zig_lt m h1 h2) (by omega), Nat.xor_zero]
  · have e1 : m / 9223372036854775808 = -1 := by omega
    have e2 : IntKind.u64.wrap m = m + 18446744073709551616 := by rw [IntKind.wrap_u64]; omega
    have e3 : IntKind.u64.wrap ((m + 18446744073709551616) * 2) = (((2 * m + 18446744073709551616).toNat : Nat) : Int) := by rw [IntKind.wrap_u64]; omega
    have e4 : IntKind.u64.wrap (-1) = 18446744073709551615 := by decide
    rw [e1, e2, e3, e4, xor_ones64 _ (by omega), zig_neg m (by omega)]
    omega
end Go.Proofs.YtekdnljincbghaaDoor
