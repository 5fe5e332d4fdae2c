/- Laws for slices of bytes over this seat's program. -/
import Derived.Test.YtekdnljincbghaaDoorOwn
import Derived.Test.YtekdnljincbghaaDoorProg
namespace Go.Proofs.YtekdnljincbghaaDoor
open Go Go.RowKit

theorem infoU8 : (Tryd.prog.info? 5).map (fun i => (i.zero, i.size, i.bytes)) = some (some (.int .u8 0), 1, 1) := by kernel_rfl

/-- A slice of bytes of the call's own. -/
def OwnB (w : World) (ao : Option Addr) (cap : Nat) (l : List UInt8) : Prop := Own w 5 1 ao l.length cap (l.map u8v)
theorem OwnB.nil (w : World) : OwnB w none 0 [] := Own.nil0 _ _ _
theorem OwnB.sees {w : World} {ao : Option Addr} {cap : Nat} {l : List UInt8} (h : OwnB w ao cap l) : Sees w ao l := Own.sees h
theorem OwnB.mod {S : List Nat} {w w' : World} {ao : Option Addr} {cap : Nat} {l : List UInt8} (h : OwnB w ao cap l) (hm : Mod S w w') (hn : ∀ k, k ∈ blk ao → k ∉ S) : OwnB w' ao cap l := Own.mod h hm hn
theorem OwnB.mod0 {w w' : World} {ao : Option Addr} {cap : Nat} {l : List UInt8} (h : OwnB w ao cap l) (hm : Mod [] w w') : OwnB w' ao cap l := Own.mod0 h hm

/-- append of bytes to bytes of the call's own. -/
theorem wpl_app8 {w : World} {ops : Array Oper} {rest : List Oper} {a : Act} {Q : Exit → Act → World → Prop} {dst : Option Tmp} {ty : TypeId} {pos : String} {after : Array Edge} (s x : Operand)
    (ao : Option Addr) (n cap : Nat) (xs : List UInt8) (hs : a.eval s = .slice ao n cap) (hn : xs.length = n) (hown : OwnB w ao cap xs)
    (so : Option Addr) (m c : Nat) (l : List UInt8) (hx : a.eval x = .slice so m c) (hl : l.length = m) (hsees : Sees w so l) (hb : n + m ≤ 140737488355328)
    (h : ∀ ao' cap' w', OwnB w' ao' cap' (xs ++ l) → Mod (blk ao) w w' → SameOrNew w w' ao ao' → wpList Tryd.prog ops Q rest (a.put dst (.slice ao' (n + m) cap')) w') :
    wpList Tryd.prog ops Q (⟨dst, .call { callee := .builtin .append, args := #[s, x], argTypes := #[27, 27] }, ty, pos, after, none⟩ :: rest) a w := by
  obtain ⟨i0, hi, hz0, hz1, hz2⟩ := info_parts infoU8
  subst hn hl
  refine wpl_append w rfl s x 27 rfl 5 i0 _ 1 1 Tryd.underlying27 hi hz0 hz1 hz2 rfl (by decide) ao _ cap _ hs hown so _ c (l.map u8v) hx (by simp) hsees.shows (one_u8 _) (by unfold maxLen; omega) (by omega) ?_
  intro ao' cap' w' h1 h2 h3
  refine h ao' cap' w' ?_ h2 h3
  unfold OwnB
  rw [List.length_append, List.map_append]
  exact h1
/-- Bytes l are handed back, in the block of ao or in a new one (ao none: in a new one). -/
def RetApp (w : World) (ao : Option Addr) (l : List UInt8) (e : Ending) (w' : World) : Prop :=
  ∃ ao' n cap', e = .returned (.slice ao' n cap') ∧ l.length = n ∧ OwnB w' ao' cap' l ∧ Mod (blk ao) w w' ∧ SameOrNew w w' ao ao'
theorem OwnB.lit1 {w : World} {g : Nat} {v : Int} {fz : Nat × Nat} (h : w.heap[g]? = some (.cells #[.int .u8 v] 5 fz)) (x : UInt8) (hx : v = (x.toNat : Int)) (hz : fz = (0, 0) ∨ 1 ≤ fz.1) : OwnB w (some ⟨g, 0, none⟩) 1 [x] := by
  subst hx
  exact Own.new (sz := 1) (n := 1) h hz (by simp) (by unfold maxLen; omega)
theorem SameOrNew.trans {a b c : World} {x y z : Option Addr} (h : SameOrNew a b x y) (k : SameOrNew b c y z) (hs : a.heap.size ≤ b.heap.size) (hs2 : b.heap.size ≤ c.heap.size) : SameOrNew a c x z := by
  rcases k with rfl | ⟨g, rfl, h1, h2⟩
  · rcases h with rfl | ⟨g, rfl, h1, h2⟩
    · exact .inl rfl
    · exact .inr ⟨g, rfl, h1, by omega⟩
  · exact .inr ⟨g, rfl, by omega, h2⟩
/-- Two such calls, one behind the other. -/
theorem RetApp.chain {a b c : World} {x y : Option Addr} {l : List UInt8} {e : Ending} (hm : Mod (blk x) a b) (hn : SameOrNew a b x y) (h : RetApp b y l e c) : RetApp a x l e c := by
  obtain ⟨ao', n, cap', h1, hl, h2, h3, h4⟩ := h
  exact ⟨ao', n, cap', h1, hl, h2, hm.transNew h3 hn (fun _ h => h), hn.trans h4 hm.size h3.size⟩
theorem RetApp.later {a b c : World} {x : Option Addr} {l : List UInt8} {e : Ending} (hm : Mod [] a b) (h : RetApp b x l e c) : RetApp a x l e c :=
  h.chain hm.nil (.inl rfl)
theorem madeU8 (n : Nat) : (madeCells (Value.cells (.int .u8 0)) (n * 1)).toList = (List.replicate n (0 : UInt8)).map u8v := by
  rw [Nat.mul_one]
  show (madeCells #[Value.int .u8 0] n).toList = _
  rw [toList_madeCells_one, List.map_replicate]
  rfl
/-- make([]byte, n). -/
theorem wpl_make8 {w : World} {ops : Array Oper} {rest : List Oper} {a : Act} {Q : Exit → Act → World → Prop} {dst : Option Tmp} {ty : TypeId} {pos : String} {after : Array Edge} (l c : Operand)
    (kl kc : IntKind) (L C : Int) (n : Nat) (hl : a.eval l = .int kl L) (hc : a.eval c = .int kc C) (hL : L = (n : Int)) (hC : C = (n : Int)) (hb : n ≤ 281474976710656)
    (h : ∀ g w', OwnB w' (some ⟨g, 0, none⟩) n (List.replicate n 0) → Mod [] w w' → w.heap.size ≤ g → wpList Tryd.prog ops Q rest (a.put dst (.slice (some ⟨g, 0, none⟩) n n)) w') :
    wpList Tryd.prog ops Q (⟨dst, .makeSlice 27 l c, ty, pos, after, none⟩ :: rest) a w := by
  obtain ⟨i0, hi, hz0, hz1, hz2⟩ := info_parts infoU8
  refine wpl_make w rfl l c 27 rfl 5 i0 _ 1 1 Tryd.underlying27 hi hz0 hz1 hz2 kl kc L C n hl hc hL hC (by omega) (by unfold maxLen; omega) ?_
  intro g w' h1 h2 h3
  rw [madeU8] at h1
  exact h g w' (by unfold OwnB; rw [List.length_replicate]; exact h1) h2 h3
/-- A byte of a row of the call's own is stored. -/
theorem OwnB.set {w : World} {g cap j : Nat} {l : List UInt8} (h : OwnB w (some ⟨g, 0, none⟩) cap l) (x : UInt8) : OwnB (w.setCell ⟨g, j, none⟩ (u8v x)) (some ⟨g, 0, none⟩) cap (l.set j x) := by
  have := Own.set (j := j) h (u8v x)
  unfold OwnB
  rw [List.length_set, List.map_set]
  exact this
theorem OwnB.cell {w : World} {ao : Option Addr} {cap j : Nat} {l : List UInt8} (h : OwnB w ao cap l) (hj : j < l.length) :
    ∃ g, ao = some ⟨g, 0, none⟩ ∧ w.cell? ⟨g, j, none⟩ = some (.int .u8 ((l[j].toNat : Nat) : Int)) ∧ w.frozen? ⟨g, j, none⟩ = false :=
  Own.cell (j := j) (u := u8v l[j]) h (by rw [List.getElem?_map, List.getElem?_eq_getElem hj]; rfl)
end Go.Proofs.YtekdnljincbghaaDoor
