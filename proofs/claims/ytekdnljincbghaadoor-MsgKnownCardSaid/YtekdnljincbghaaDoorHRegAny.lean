/- Regions that draw their order and make memory in many places, without guards and without calls: each operation is taken in an order of our own; a new block lies somewhere, among those that were not there. Over any program. -/
import Derived.Test.YtekdnljincbghaaDoorZ1
namespace Go.Proofs.YtekdnljincbghaaDoor
open Go Go.RowKit Go.Lib

/-- From w to w' memory has grown: blocks below B are as they were, the others' cells too (their marks may have turned). -/
structure Grow (B : Nat) (w w' : World) : Prop where
  os : w'.os = w.os
  tape : w'.tape = w.tape
  output : w'.output = w.output
  size : w.heap.size ≤ w'.heap.size
  old : ∀ k, k < B → w'.heap[k]? = w.heap[k]?
  kept : ∀ (k : Nat) (C : Array Value) (e : TypeId) (fz : Nat × Nat), w.heap[k]? = some (Obj.cells C e fz) → ∃ fz' : Nat × Nat, w'.heap[k]? = some (Obj.cells C e fz')
theorem Grow.refl (B : Nat) (w : World) : Grow B w w := ⟨rfl, rfl, rfl, Nat.le_refl _, fun _ _ => rfl, fun _ _ _ fz h => ⟨fz, h⟩⟩
theorem Grow.trans {B : Nat} {a b c : World} (h : Grow B a b) (k : Grow B b c) : Grow B a c :=
  ⟨k.os.trans h.os, k.tape.trans h.tape, k.output.trans h.output, Nat.le_trans h.size k.size, fun i hi => (k.old i hi).trans (h.old i hi), fun i C e fz hb => by
    obtain ⟨f1, h1⟩ := h.kept i C e fz hb
    exact k.kept i C e f1 h1⟩
theorem Grow.alloc {B : Nat} {w : World} (o : Obj) (hB : B ≤ w.heap.size) : Grow B w (w.alloc o) :=
  ⟨rfl, rfl, rfl, by simp, fun k hk => Below.heap_alloc w o k (by omega), fun k C e fz h => ⟨fz, by rw [Below.heap_alloc w o k (lt_of_block h)]; exact h⟩⟩
theorem Grow.freeze {B : Nat} {w : World} (a : Addr) (n : Nat) (h : B ≤ a.block) : Grow B w (w.freeze a n) := by
  unfold World.freeze
  split
  · exact Grow.refl _ _
  · refine ⟨rfl, rfl, rfl, by simp, fun k hk => ?_, fun k C e fz hb => ?_⟩
    · have hne : a.block ≠ k := by omega
      show (w.heap.modify a.block _)[k]? = _
      rcases Nat.lt_or_ge k w.heap.size with hl | hl
      · rw [Array.getElem?_eq_getElem (by simpa using hl), Array.getElem?_eq_getElem hl, Array.getElem_modify, if_neg hne]
      · rw [Array.getElem?_eq_none (by simpa using hl), Array.getElem?_eq_none hl]
    · have hl := lt_of_block hb
      have hb' : w.heap[k] = .cells C e fz := by simpa [Array.getElem?_eq_getElem hl] using hb
      by_cases hk : a.block = k
      · subst hk
        have he : (w.heap.modify a.block fun
            | .cells c elem (lo, hi) => .cells c elem (if lo == hi then (a.off, a.off + n) else (min lo a.off, max hi (a.off + n)))
            | o => o)[a.block]? = some (.cells C e (if fz.1 == fz.2 then (a.off, a.off + n) else (min fz.1 a.off, max fz.2 (a.off + n)))) := by
          rw [Array.getElem?_eq_getElem (by simpa using hl), Array.getElem_modify_self, hb']
        exact ⟨_, he⟩
      · refine ⟨fz, ?_⟩
        show (w.heap.modify a.block _)[k]? = _
        rw [Array.getElem?_eq_getElem (by simpa using hl), Array.getElem_modify, if_neg hk, hb']
theorem Grow.mod {w w' : World} (h : Grow w.heap.size w w') : Mod [] w w' := ⟨h.os, h.tape, h.output, h.size, fun k hk _ => h.old k hk⟩
theorem Grow.cell {B : Nat} {w w' : World} (h : Grow B w w') {p : Addr} {v : Value} (hp : p.block < B) (hc : w.cell? p = some v) : w'.cell? p = some v := by
  rw [World.cell?_of_block (h.old p.block hp)]; exact hc

section
variable (P : Program) (md : Region.Mode) (ops : Array Oper) (Q : Exit → Act → World → Prop) (W : World)

/-- An operation that yields a value, wherever it is carried out. -/
def Tame (o : Oper) (a : Act) : Prop := ∀ w1, Grow W.heap.size W w1 → ∃ v w2, (execOp a.eval o).run P w1 = .ok (.value v) w2 ∧ Grow W.heap.size w1 w2
/-- It has yielded this one. -/
def Ran (o : Oper) (a : Act) (v : Value) (w' : World) : Prop := ∃ w1 w2, Grow W.heap.size W w1 ∧ (execOp a.eval o).run P w1 = .ok (.value v) w2 ∧ Grow W.heap.size w2 w'
/-- Whatever order is picked from here on, and wherever new blocks lie. -/
def wpAbs : Nat → Array Bool → Act → World → Prop
  | 0, listed, a, w => Region.ready md ops listed = [] ∧ Q .normal a w
  | n + 1, listed, a, w => (Region.ready md ops listed = [] → Q .normal a w) ∧ ∀ i ∈ Region.ready md ops listed, ∃ o, ops[i]? = some o ∧ o.guard = none ∧ Tame P W o a ∧
      ∀ v w', Grow W.heap.size w w' → Ran P W o a v w' → wpAbs n (listed.setIfInBounds i true) (a.put o.dst v) w'
end
section
variable {P : Program} {md : Region.Mode} {ops : Array Oper} {Q : Exit → Act → World → Prop} {W : World}
theorem Ran.grow {o : Oper} {a : Act} {v : Value} {w w' : World} (h : Ran P W o a v w) (g : Grow W.heap.size w w') : Ran P W o a v w' := by
  obtain ⟨w1, w2, h1, h2, h3⟩ := h
  exact ⟨w1, w2, h1, h2, h3.trans g⟩
theorem any_of_abs : ∀ (n : Nat) (listed : Array Bool) (a : Act) (w : World), Grow W.heap.size W w → wpAbs P md ops Q W n listed a w → wpAny P md ops Q n listed a w
  | 0, _, _, _, _, h => h
  | n + 1, listed, a, w, hg, h => by
    refine ⟨h.1, fun i hi => ?_⟩
    obtain ⟨o, ho, hgd, hT, hc⟩ := h.2 i hi
    obtain ⟨v, w2, hr, hg2⟩ := hT w hg
    unfold wpOp
    simp only [ho]
    have hw : Region.wanted o (yielded ops a.tmps) = true := by unfold Region.wanted; rw [hgd]
    rw [if_pos hw]
    refine .inl ?_
    unfold Oper.wp
    rw [hr]
    show wpAny P md ops Q n _ (a.put o.dst v) w2
    exact any_of_abs n _ _ _ (hg.trans hg2) (hc v w2 hg2 ⟨w, w2, hg, hr, Grow.refl _ _⟩)
theorem abs_first {i : Nat} {oi : Oper} (hi : ops[i]? = some oi) (hgd : oi.guard = none) (hsel : ∀ (j : Nat) (o : Oper) cs b, ops[j]? = some o → o.op ≠ .select cs b) :
    ∀ (n : Nat) (listed : Array Bool) (a : Act) (w : World),
      (∀ j oj, ops[j]? = some oj → j ≠ i → listed.getD j true = false → (∀ e ∈ oj.after, Region.binds md e = true → e.on ≠ i) → oi.apart ops oj = true) →
      i ∈ Region.ready md ops listed → Tame P W oi a → Grow W.heap.size W w →
      (∀ v w', Grow W.heap.size w w' → Ran P W oi a v w' → wpAbs P md ops Q W n (listed.setIfInBounds i true) (a.put oi.dst v) w') → wpAbs P md ops Q W (n + 1) listed a w := by
  intro n
  induction n with
  | zero =>
    intro listed a w _ hr hT hG H
    refine ⟨fun h => (by rw [h] at hr; cases hr), fun j hj => ?_⟩
    by_cases hji : j = i
    · subst hji; exact ⟨oi, hi, hgd, hT, H⟩
    · obtain ⟨v0, w0, hr0, hg0⟩ := hT w hG
      have h1 := H v0 w0 hg0 ⟨w, w0, hG, hr0, Grow.refl _ _⟩
      have := ready_mono hj hji
      rw [h1.1] at this
      cases this
  | succ n ih =>
    intro listed a w hfree hr hT hG H
    refine ⟨fun h => (by rw [h] at hr; cases hr), fun j hj => ?_⟩
    by_cases hji : j = i
    · subst hji; exact ⟨oi, hi, hgd, hT, H⟩
    · obtain ⟨v0, w0, hr0, hg0⟩ := hT w hG
      obtain ⟨hjun, oj, hoj, hall⟩ := mem_ready.1 hj
      obtain ⟨oj', hoj', hgj, hTj, -⟩ := (H v0 w0 hg0 ⟨w, w0, hG, hr0, Grow.refl _ _⟩).2 j (ready_mono hj hji)
      rw [hoj] at hoj'
      cases hoj'
      have hnot : ∀ e ∈ oj.after, Region.binds md e = true → e.on ≠ i := fun e he hb heq => by
        have h1 := hall e he hb
        have h0 := (mem_ready.1 hr).1
        rw [heq] at h1
        rcases Nat.lt_or_ge i listed.size with h' | h'
        · simp [h'] at h0 h1; rw [h0] at h1; cases h1
        · simp [Array.getElem?_eq_none h'] at h1
      obtain ⟨a1, a2, a3⟩ := Oper.apart_spec (hfree j oj hoj hji hjun hnot)
      have ej : ∀ (a : Act) v, execOp (a.put oi.dst v).eval oj = execOp a.eval oj := fun a v => execOp_put oj (fun cs b => hsel j oj cs b hoj) a oi.dst v a1
      have ei : ∀ (a : Act) v, execOp (a.put oj.dst v).eval oi = execOp a.eval oi := fun a v => execOp_put oi (fun cs b => hsel i oi cs b hi) a oj.dst v a3
      refine ⟨oj, hoj, hgj, ?_, fun v w' hg hran => ?_⟩
      · unfold Tame at hTj ⊢
        rwa [ej] at hTj
      · have hfree' : ∀ k ok, ops[k]? = some ok → k ≠ i → (listed.setIfInBounds j true).getD k true = false →
            (∀ e ∈ ok.after, Region.binds md e = true → e.on ≠ i) → oi.apart ops ok = true := fun k ok hk hki hun hno => by
          refine hfree k ok hk hki ?_ hno
          by_cases hjk : j = k
          · subst hjk; exact hjun
          · rw [getD_set_ne true hjk] at hun; exact hun
        refine ih (listed.setIfInBounds j true) (a.put oj.dst v) w' hfree' (ready_mono hr (Ne.symm hji)) ?_ (hG.trans hg) ?_
        · unfold Tame at hT ⊢
          rwa [ei]
        · intro v2 w2 hg2 hran2
          have hran2' : Ran P W oi a v2 w2 := by
            unfold Ran at hran2 ⊢
            rwa [ei] at hran2
          obtain ⟨oj', hoj', -, -, hc⟩ := (H v2 w2 (hg.trans hg2) hran2').2 j (ready_mono hj hji)
          rw [hoj] at hoj'
          cases hoj'
          have h3 := hc v w2 (Grow.refl _ _) (by
            have := hran.grow hg2
            unfold Ran at this ⊢
            rwa [ej])
          rw [Array.setIfInBounds_comm _ _ (Ne.symm hji), Act.put_comm a v2 v a2] at h3
          exact h3

/-- Any two operations are apart, or one waits for the other. -/
def pairwise (md : Region.Mode) (ops : Array Oper) : Bool := (List.range ops.size).all fun i => (List.range ops.size).all fun j => i == j || match ops[i]?, ops[j]? with
  | some oi, some oj => oi.apart ops oj || oj.after.any (fun e => Region.binds md e && e.on == i) || oi.after.any (fun e => Region.binds md e && e.on == j)
  | _, _ => true
/-- Number i may come up. -/
def upNow (md : Region.Mode) (listed : Array Bool) (i : Nat) (after : Array Edge) : Bool := !listed.getD i true && after.all fun e => !Region.binds md e || listed.getD e.on false
theorem ready_of_up {i : Nat} {o : Oper} {listed : Array Bool} (hi : ops[i]? = some o) (h : upNow md listed i o.after = true) : i ∈ Region.ready md ops listed := by
  unfold upNow at h
  simp only [Bool.and_eq_true, Bool.not_eq_true'] at h
  refine mem_ready.2 ⟨h.1, o, hi, fun e he hb => ?_⟩
  have := Array.all_eq_true_iff_forall_mem.1 h.2 e he
  simpa [hb] using this
theorem free_of_pair {i : Nat} {oi : Oper} {listed : Array Bool} (hp : pairwise md ops = true) (hi : ops[i]? = some oi) (hr : i ∈ Region.ready md ops listed) (j : Nat) (oj : Oper)
    (hj : ops[j]? = some oj) (hne : j ≠ i) (hun : listed.getD j true = false) (hno : ∀ e ∈ oj.after, Region.binds md e = true → e.on ≠ i) : oi.apart ops oj = true := by
  unfold pairwise at hp
  simp only [List.all_eq_true, List.mem_range] at hp
  have h1 := hp i (Array.getElem?_eq_some_iff.1 hi).1 j (Array.getElem?_eq_some_iff.1 hj).1
  simp only [hi, hj, Bool.or_eq_true, beq_iff_eq] at h1
  rcases h1 with h1 | (h1 | h1) | h1
  · exact absurd h1.symm hne
  · exact h1
  · obtain ⟨e, he, hb⟩ := Array.any_eq_true'.1 h1
    simp only [Bool.and_eq_true, beq_iff_eq] at hb
    exact absurd hb.2 (hno e he hb.1)
  · obtain ⟨e, he, hb⟩ := Array.any_eq_true'.1 h1
    simp only [Bool.and_eq_true, beq_iff_eq] at hb
    obtain ⟨_, o, ho, hall⟩ := mem_ready.1 hr
    rw [hi] at ho
    cases ho
    have h2 := hall e he hb.1
    rw [hb.2] at h2
    rcases Nat.lt_or_ge j listed.size with h' | h'
    · simp [h'] at h2 hun; rw [h2] at hun; cases hun
    · simp [Array.getElem?_eq_none h'] at hun
/-- The same, wherever memory has grown. -/
def Abs (P : Program) (md : Region.Mode) (ops : Array Oper) (Q : Exit → Act → World → Prop) (W : World) (n : Nat) (listed : Array Bool) (a : Act) (w : World) : Prop :=
  Grow W.heap.size W w → ∀ w', Grow W.heap.size w w' → wpAbs P md ops Q W n listed a w'
theorem abs_facts {n : Nat} {listed : Array Bool} {a : Act} {w : World} (hs : Region.noSelect ops = true) (hp : pairwise md ops = true) (h : Region.noSelect ops = true → pairwise md ops = true → Abs P md ops Q W n listed a w) : Abs P md ops Q W n listed a w := h hs hp
theorem abs_start {id : Nat} {a : Act} {w : World} (n : Nat) (L : Array Bool) (hn : ops.size = n) (hL : Array.replicate n false = L) (hm : P.follows .mixedOrders = true)
    (h : ∀ W, Mod [] w W → Abs P .any ops Q W n L a W) : (Code.region id ops true).wp P Q a w := by
  subst hn hL
  exact wp_region_any hm (any_of_abs _ _ _ _ (Grow.refl _ _) (h w.drew (Mod.drew _ _) (Grow.refl _ _) _ (Grow.refl _ _)))
/-- An operation that makes nothing. -/
theorem abs_pure {i : Nat} {dst : Option Tmp} {op : Op} {ty : TypeId} {pos : String} {after : Array Edge} {v : Value} {n : Nat} {listed : Array Bool} {a : Act} {w : World} (hi : ops[i]? = some ⟨dst, op, ty, pos, after, none⟩)
    (hs : Region.noSelect ops = true) (hp : pairwise md ops = true) (hu : upNow md listed i after = true)
    (hy : ∀ w1, Grow W.heap.size W w1 → (execOp a.eval ⟨dst, op, ty, pos, after, none⟩).run P w1 = .ok (.value v) w1)
    (h : Abs P md ops Q W n (listed.setIfInBounds i true) (a.put dst v) w) : Abs P md ops Q W (n + 1) listed a w := by
  intro hG w' hg
  have hr := ready_of_up (md := md) hi hu
  refine abs_first hi rfl (Region.noSelect_spec hs) n listed a w' (free_of_pair hp hi hr) hr (fun w1 h1 => ⟨v, w1, hy w1 h1, Grow.refl _ _⟩) (hG.trans hg) ?_
  intro v2 w2 hg2 hran
  obtain ⟨w3, w4, h3, h4, h5⟩ := hran
  rw [hy w3 h3] at h4
  simp only [Result.ok.injEq, Next.value.injEq] at h4
  obtain ⟨rfl, rfl⟩ := h4
  exact h hG w2 (hg.trans hg2)
/-- A new row. -/
theorem abs_new {i : Nat} {dst : Option Tmp} {op : Op} {ty : TypeId} {pos : String} {after : Array Edge} {len : Nat} {C : Array Value} {e : TypeId} {n : Nat} {listed : Array Bool} {a : Act} {w : World} (hi : ops[i]? = some ⟨dst, op, ty, pos, after, none⟩)
    (hs : Region.noSelect ops = true) (hp : pairwise md ops = true) (hu : upNow md listed i after = true)
    (hy : ∀ w1, (execOp a.eval ⟨dst, op, ty, pos, after, none⟩).run P w1 = .ok (.value (.slice (some ⟨w1.heap.size, 0, none⟩) len len)) (w1.alloc (.cells C e)))
    (h : ∀ g w1, Grow W.heap.size w w1 → W.heap.size ≤ g → (∃ fz, w1.heap[g]? = some (.cells C e fz)) → Abs P md ops Q W n (listed.setIfInBounds i true) (a.put dst (.slice (some ⟨g, 0, none⟩) len len)) w1) : Abs P md ops Q W (n + 1) listed a w := by
  intro hG w' hg
  have hr := ready_of_up (md := md) hi hu
  refine abs_first hi rfl (Region.noSelect_spec hs) n listed a w' (free_of_pair hp hi hr) hr (fun w1 h1 => ⟨_, _, hy w1, Grow.alloc _ h1.size⟩) (hG.trans hg) ?_
  intro v2 w2 hg2 hran
  obtain ⟨w3, w4, h3, h4, h5⟩ := hran
  rw [hy w3] at h4
  simp only [Result.ok.injEq, Next.value.injEq] at h4
  obtain ⟨rfl, rfl⟩ := h4
  exact h _ w2 (hg.trans hg2) h3.size (h5.kept _ _ _ _ (heap_alloc_new w3 _)) (hG.trans (hg.trans hg2)) w2 (Grow.refl _ _)
/-- The mark behind a constant row of bytes. -/
theorem abs_mark {i : Nat} {dst : Option Tmp} {t e : TypeId} {x : Operand} {ty : TypeId} {pos : String} {after : Array Edge} {n : Nat} {listed : Array Bool} {a : Act} {w : World} (g len cap : Nat) (hi : ops[i]? = some ⟨dst, .convert t t x, ty, pos, after, none⟩)
    (hs : Region.noSelect ops = true) (hp : pairwise md ops = true) (hu : upNow md listed i after = true)
    (ht : P.underlying t = some (.slice e)) (he : P.underlying e = some (.int .u8)) (hx : a.eval x = .slice (some ⟨g, 0, none⟩) len cap) (hg0 : W.heap.size ≤ g)
    (h : Abs P md ops Q W n (listed.setIfInBounds i true) (a.put dst (.slice (some ⟨g, 0, none⟩) len cap)) w) : Abs P md ops Q W (n + 1) listed a w := by
  have hrun : ∀ w1, ∃ w2, (execOp a.eval ⟨dst, .convert t t x, ty, pos, after, none⟩).run P w1 = .ok (.value (.slice (some ⟨g, 0, none⟩) len cap)) w2 ∧ Grow W.heap.size w1 w2 := by
    intro w1
    cases hsh : w1.shape? g with
    | none =>
      refine ⟨w1, ?_, Grow.refl _ _⟩
      simp [execOp, hx, convert, run_underlying ht, run_underlying he, markStringish, hsh]
    | some s =>
      refine ⟨w1.freeze ⟨g, s.2, none⟩ 1, ?_, Grow.freeze _ _ hg0⟩
      simp [execOp, hx, convert, run_underlying ht, run_underlying he, markStringish, hsh]
  intro hG w' hg
  have hr := ready_of_up (md := md) hi hu
  refine abs_first hi rfl (Region.noSelect_spec hs) n listed a w' (free_of_pair hp hi hr) hr (fun w1 h1 => by obtain ⟨w2, h2, h3⟩ := hrun w1; exact ⟨_, w2, h2, h3⟩) (hG.trans hg) ?_
  intro v2 w2 hg2 hran
  obtain ⟨w3, w4, h3, h4, h5⟩ := hran
  obtain ⟨w5, h6, _⟩ := hrun w3
  rw [h6] at h4
  simp only [Result.ok.injEq, Next.value.injEq] at h4
  obtain ⟨rfl, -⟩ := h4
  exact h hG w2 (hg.trans hg2)
theorem abs_done {n : Nat} {listed : Array Bool} {a : Act} {w : World} (hr : Region.ready md ops listed = []) (h : ∀ w', Grow W.heap.size w w' → Q .normal a w') : Abs P md ops Q W n listed a w := by
  intro _ w' hg
  cases n with
  | zero => exact ⟨hr, h w' hg⟩
  | succ n => exact ⟨fun _ => h w' hg, by rw [hr]; simp⟩
/-- make of so many. -/
theorem runs_make (ev : Operand → Value) {dst : Option Tmp} {t : TypeId} {l c : Operand} {ty : TypeId} {pos : String} {after : Array Edge} {e : TypeId} {i : TypeInfo} {z : Value} {size bytes n : Nat} {L : Int} (ht : P.underlying t = some (.slice e)) (hi : P.info? e = some i) (hz : i.zero = some z)
    (hsize : i.size = size) (hby : i.bytes = bytes) (hl : ev l = .int .i64 L) (hc : ev c = .int .i64 L) (hL : L = (n : Int)) (hb : bytes * n ≤ 281474976710656) (h63 : n ≤ maxLen) (w1 : World) :
    (execOp ev ⟨dst, .makeSlice t l c, ty, pos, after, none⟩).run P w1 = .ok (.value (.slice (some ⟨w1.heap.size, 0, none⟩) n n)) (w1.alloc (.cells (madeCells z.cells (n * size)) e)) := by
  subst hsize hby hL
  have hb' : (i.bytes : Int) * (n : Int) ≤ 281474976710656 := by
    have h : ((i.bytes * n : Nat) : Int) ≤ 281474976710656 := by omega
    rwa [Int.natCast_mul] at h
  have hr := run_make (P := P) w1 t e i z ht hi hz .i64 .i64 n n (by omega) (Int.le_refl _) hb' (by unfold maxLen at h63; omega)
  simp only [Int.toNat_natCast] at hr
  simp [execOp, hl, hc, hr, Result.andThen]
/-- A literal row, by its filling. -/
theorem runs_slice (ev : Operand → Value) {dst : Option Tmp} {t : TypeId} {len : Nat} {ps : Array (Nat × Operand)} {ty : TypeId} {pos : String} {after : Array Edge} {e : TypeId} {i : TypeInfo} {z : Value} {size : Nat} {C : Array Value} (ht : P.underlying t = some (.slice e)) (hi : P.info? e = some i) (hz : i.zero = some z)
    (hsize : i.size = size) (h0 : ¬ len * size = 0) (hb : ¬ 16777216 < len * size)
    (hfill : Instr.fill (fun i => some (i * size, size)) ((Array.range (len * size)).map (z.cells[· % z.cells.size]!)) (ps.map fun (i, x) => (i, ev x)).toList = some C) (w1 : World) :
    (execOp ev ⟨dst, .buildSlice t len ps, ty, pos, after, none⟩).run P w1 = .ok (.value (.slice (some ⟨w1.heap.size, 0, none⟩) len len)) (w1.alloc (.cells C e)) := by
  subst hsize
  have h1 : (Instr.buildSlice t len (ps.map fun (i, x) => (i, ev x))).run P w1 = .ok (.slice (some ⟨w1.heap.size, 0, none⟩) len len) (w1.alloc (.cells C e)) := by
    obtain ⟨fl, hfl⟩ : ∃ x, Instr.fill (fun j => some (j * i.size, i.size)) ((Array.range (len * i.size)).map (z.cells[· % z.cells.size]!)) = x := ⟨_, rfl⟩
    rw [hfl] at hfill
    obtain ⟨l, hl⟩ : ∃ x, (ps.map fun (i, x) => (i, ev x)) = x := ⟨_, rfl⟩
    rw [hl] at hfill ⊢
    have hb' : ¬ 2 ^ 24 < len * i.size := hb
    unfold Instr.buildSlice
    simp [run_underlying ht, sizeOf, typeInfo, hi, zeroValue, hz, h0, hb', hfl, hfill, newRow]
  simp [execOp, h1]
end
end Go.Proofs.YtekdnljincbghaaDoor
