/- Texts put together (2 of 9): Range, RangeK, OwnIn, Enc, Uint, Uint2, Sess4, OwnM, RegionU, Sort1, Sort2. -/
import Derived.Test.YtgneigdcgfiooaaZ1
import Derived.RangeFuncNested
import Derived.RangeFuncLeaves
import Derived.RangeFuncBound
import Derived.RangeFuncCalls
import Derived.Shelf.Abstract
import Derived.Maps.Range
import Derived.Sort.MapsRangeIn
import Derived.OwnWalkIn
import Derived.TacticsInMore
import Derived.LoopNIn
import Derived.LoopIn
import Derived.Sort.AssemblyPlain
import Derived.Carry
import Derived.Handy
/- A range over a function whose iterator keeps its state in a cell of its own (block nb), and whose body never leaves early: what the caller owes. Over any program. -/
namespace Go.Proofs.Ytgneigdcgfiooaa
open Go Go.RowKit

/-- How the body ends, going on. -/
def goesOn {α : Type} (nb : Nat) (I : List α → World → Prop) (xs : List α) (W : World) : Exit → Act → World → Prop
  | .normal, _, W' => KeepsOthers W W' ∧ W'.heap[nb]? = W.heap[nb]? ∧ I xs W'
  | _, _, _ => False

/-- The iterator's contract: it hands on xs, one by one; it turns its own block nb. -/
def Hands {α : Type} (F : Fence) (n : Nat) (P : Program) (g : Nat) (lb : Array Value) (encs : α → Array Value) (nb : Nat) (xs : List α) (w : World) : Prop :=
  ∀ (l : Nat) (J : List α → World → Prop) (W : World), Mod [] w W →
    (∀ pre A B, J pre A → Mod [nb] A B → J pre B) →
    (∀ pre x W1, J pre W1 → (pre ++ [x]) <+: xs → YieldAt F (n - 1) P l (encs x) W1 fun e W' => e = .returned (.bool true) ∧ J (pre ++ [x]) W' ∧ W'.heap[nb]? = W1.heap[nb]?) →
    J [] W →
    CallsIn F n P g (#[.func (.yield l) #[] #[]] ++ lb) W fun e W' => (∃ v, e = .returned v) ∧ J xs W'

variable {F : Fence} {n : Nat} {P : Program}
theorem mod_putObj {S : List Nat} (W : World) (l : Nat) (o : Obj) (h : l ∈ S) : Mod S W (W.putObj l o) := by
  have hg := grownBy_putObj' W l o
  exact ⟨hg.os, hg.tape, hg.output, hg.size, fun k hk hn => hg.block k hk (fun e => by cases e; exact hn h)⟩

theorem wpIn_rangeFunc_hands {α : Type} {g : Operand} {ps : Array Tmp} {assign body : Code} {Q : Exit → Act → World → Prop} {a : Act} {w : World}
    (hro : F.round = none) (h1 : 1 ≤ n) {gf : Nat} {lb : Array Value} (hg : a.eval g = .func (.func gf) #[] lb) (hFg : F.fn gf) (eg : ∀ args w, (callFunc gf args).run P w = .ok (.enter gf args) w)
    {encs : α → Array Value} {nb : Nat} {xs : List α} (hseq : Hands F (n - 1) P gf lb encs nb xs w) (hps : ∀ x, (encs x).size = ps.size) (hnb : nb < w.heap.size)
    (I : List α → World → Prop) (hI : ∀ pre A B S, (∀ k, k ∈ S → k = nb ∨ k = w.heap.size ∨ k = w.heap.size + 1) → I pre A → Mod S A B → I pre B) (h0 : ∀ W, Mod [] w W → I [] W) (a₁ : α → Act)
    (hassign : ∀ (l : Nat) (x : α) (W : World) (K : Act → World → Prop), K (a₁ x) W →
      assign.wpIn (F.inRound l) (n - 1 - 1) P (Exit.then K (fun _ _ _ => False)) { tmps := (ps.zip (encs x)).foldl (fun t (p, v) => t.setIfInBounds p v) a.tmps, defers := [] } W)
    (hbody : ∀ (l : Nat) (pre : List α) (x : α) (W : World), I pre W → (pre ++ [x]) <+: xs → w.heap.size + 2 ≤ W.heap.size → body.wpIn (F.inRound l) (n - 1 - 1) P (goesOn nb I (pre ++ [x]) W) (a₁ x) W)
    (hdone : ∀ (W : World), I xs W → W.heap[w.heap.size]? = some (.deferred (some [])) → Q .normal { a with defers := { target := .collected w.heap.size, args := #[] } :: a.defers } W) :
    (Code.rangeFunc g ps assign body).wpIn F n P Q a w := by
  refine wpIn_rangeFunc ?_
  intro fn hfn
  rw [hro]
  obtain ⟨rec, hrec⟩ : ∃ rec : LoopState → Option Code → Loop, rec = fun st pe => { state := st, pending := pe, fn, tmps := a.tmps, params := ps, assign, body, defers := w.heap.size } := ⟨_, rfl⟩
  obtain ⟨W1, hW1⟩ : ∃ W1, (w.alloc (.deferred (some []))).alloc (.loop (rec .ready none)) = W1 := ⟨_, rfl⟩
  have hL1 : W1.heap[w.heap.size + 1]? = some (.loop (rec .ready none)) := by
    rw [← hW1]; have := World.alloc_heap_new (w.alloc (.deferred (some []))) (.loop (rec .ready none)); rwa [World.size_alloc] at this
  have hD1 : W1.heap[w.heap.size]? = some (.deferred (some [])) := by
    rw [← hW1]; exact (Below.heap_alloc _ _ _ (by simp)).trans (World.alloc_heap_new w _)
  have hm1 : Mod [] w W1 := by rw [← hW1]; exact (Mod.alloc _ _ _).trans' (Mod.alloc _ _ _)
  refine ⟨w.heap.size + 1, [{ target := .collected w.heap.size, args := #[] }], W1, { target := .fn (.func gf) lb, args := #[.func (.yield (w.heap.size + 1)) #[] #[]] }, W1, gf,
    #[.func (.yield (w.heap.size + 1)) #[] #[]] ++ lb, W1, ?_, ?_, ?_, ?_, fun _ => h1, ?_⟩
  · rw [← hW1, hrec]; exact run_enterLoop_outer _ _ _ _ _
  · simp only [resolve, hg]
    simp [go_sem]
  · intro f' hf'; simp [Target.leads] at hf'; subst hf'; exact hFg
  · simp [invoke, go_sem, eg]
  · refine (hseq (w.heap.size + 1)
      (fun pre W => I pre W ∧ W.heap[w.heap.size + 1]? = some (.loop (rec .ready none)) ∧ W.heap[w.heap.size]? = some (.deferred (some [])))
      W1 hm1 ?_ ?_ ⟨h0 _ hm1, hL1, hD1⟩).mono ?_
    · rintro pre A B ⟨hi, hl, hd⟩ hm
      exact ⟨hI pre A B [nb] (by intro k hk; simp only [List.mem_singleton] at hk; exact .inl hk) hi hm, hm.get hl (by simp; omega), hm.get hd (by simp; omega)⟩
    · rintro pre x W ⟨hi, hl, hd⟩ hx
      have hlt := lt_of_block hl
      have hy := run_yield (P := P) (args := encs x) hl (by rw [hrec]; exact hps x)
      rw [hrec] at hy
      refine ⟨fn, _, assign, body, hy, roundIn_of_wpIn hfn (hassign _ x W _ ⟨_, run_beginRound hl (by rw [hrec]), ?_⟩)⟩
      obtain ⟨W2, hW2⟩ : ∃ W2, W.putObj (w.heap.size + 1) (.loop { rec .ready none with state := .busy }) = W2 := ⟨_, rfl⟩
      have hp2 := mod_putObj (S := [w.heap.size + 1]) W (w.heap.size + 1) (.loop { rec .ready none with state := .busy }) (by simp)
      have hl2 : W2.heap[w.heap.size + 1]? = some (.loop { rec .ready none with state := .busy }) := by rw [← hW2]; exact World.putObj_heap_same hlt
      rw [hW2] at hp2
      rw [show ({ state := LoopState.busy, pending := (rec .ready none).pending, fn := (rec .ready none).fn, tmps := (rec .ready none).tmps, params := (rec .ready none).params, assign := (rec .ready none).assign, body := (rec .ready none).body, defers := (rec .ready none).defers } : Loop) = { rec .ready none with state := .busy } from rfl, hW2]
      have hd2 : W2.heap[w.heap.size]? = some (.deferred (some [])) := hp2.get hd (by simp)
      have hi2 : I pre W2 := hI pre W W2 [w.heap.size + 1] (by intro k hk; simp only [List.mem_singleton] at hk; exact .inr (.inr hk)) hi hp2
      have hn2 : W2.heap[nb]? = W.heap[nb]? := hp2.block nb (by omega) (by simp; omega)
      refine wpIn_mono (hbody _ pre x _ hi2 hx (by have := lt_of_block hl2; omega)) ?_
      rintro e a3 W3 hp
      cases e with
      | normal =>
        obtain ⟨hk3, hn3, hi3⟩ := hp
        have hl3 := hk3.same _ _ hl2 rfl
        have hd3 := hk3.same _ _ hd2 rfl
        have hr := run_endRound (P := P) none hl3
        have hp4 := mod_putObj (S := [w.heap.size + 1]) W3 (w.heap.size + 1) (.loop (rec .ready none)) (by simp)
        refine ⟨.bool true, W3.putObj (w.heap.size + 1) (.loop (rec .ready none)), ?_, rfl, ⟨hI _ W3 _ [w.heap.size + 1] (by intro k hk; simp only [List.mem_singleton] at hk; exact .inr (.inr hk)) hi3 hp4, World.putObj_heap_same (lt_of_block hl3), hp4.get hd3 (by simp)⟩, ?_⟩
        · rw [hrec] at hr ⊢; exact hr
        · exact (hp4.block nb (by have := lt_of_block hl3; omega) (by simp; omega)).trans (hn3.trans hn2)
      | ret => exact hp.elim
      | exit id => exact hp.elim
      | goto t => exact hp.elim
      | panic ch => exact hp.elim
      | outgrown => exact hp.elim
    · rintro e W2 ⟨⟨v, rfl⟩, hi, hl, hd⟩
      have hp4 := mod_putObj (S := [w.heap.size + 1]) W2 (w.heap.size + 1) (.loop { rec .ready none with state := .exhausted }) (by simp)
      exact ⟨none, _, by have := run_endLoop (P := P) hl (by rw [hrec]; simp); rw [hrec] at this; exact this,
        hdone _ (by rw [hrec] at hp4; exact hI _ W2 _ [w.heap.size + 1] (by intro k hk; simp only [List.mem_singleton] at hk; exact .inr (.inr hk)) hi hp4) (by rw [hrec] at hp4; exact hp4.get hd (by simp))⟩
end Go.Proofs.Ytgneigdcgfiooaa
/- Ranges over a function that hands on a map's keys, each once, in whatever order: the iterator's word, and what the caller owes. Over any program. -/
namespace Go.Proofs.Ytgneigdcgfiooaa
open Go Go.RowKit Go.MapKept

theorem RangeF.left_eq {w : World} {b r n cnt : Nat} {d : TypeDesc} {f : Value → Option Value} {ks : List Value} (h : RangeF w b r d n f ks cnt) : w.rangeLeft b r = cnt := by
  obtain ⟨es, clock, since, seen, c0, h1, h2, h3, h4, h5, h6, h7, h8, h9, h10, _⟩ := h
  simp only [World.rangeLeft, h1, h6]
  exact h10
theorem RangeF.same {w w' : World} {b r n cnt : Nat} {d : TypeDesc} {f : Value → Option Value} {ks : List Value} (h : RangeF w b r d n f ks cnt) (hb : w'.heap[b]? = w.heap[b]?) (hr : w'.heap[r]? = w.heap[r]?) : RangeF w' b r d n f ks cnt := by
  obtain ⟨es, clock, since, seen, c0, h1, h2, h3, h4, h5, h6, h7⟩ := h
  exact ⟨es, clock, since, seen, c0, hb.trans h1, h2, h3, h4, h5, hr.trans h6, h7⟩
theorem RangeF.ne {w : World} {b r n cnt : Nat} {d : TypeDesc} {f : Value → Option Value} {ks : List Value} (h : RangeF w b r d n f ks cnt) : b ≠ r := by
  obtain ⟨es, clock, since, seen, c0, h1, h2, h3, h4, h5, h6, _⟩ := h
  rintro rfl
  rw [h1] at h6
  cases h6
section
variable {F : Fence} {nF : Nat} {P : Program} {w : World} {ops : Array Oper} {rest : List Oper} {a : Act} {Q : Exit → Act → World → Prop} {dst : Option Tmp} {ty : TypeId} {pos : String} {after : Array Edge} {b r n cnt : Nat} {d : TypeDesc} {f : Value → Option Value} {ks : List Value}
theorem wplIn_range (t : TypeId) (x : Operand) {k e : TypeId} (h : MapF w b d n f) (ht : P.underlying t = some (.map k e)) (hx : a.eval x = .map (some b))
    (hr : ∀ w', Hid (RangeF w' b w.heap.size d n f [] n) → Mod [] w w' → wpListIn F nF P ops Q rest (a.put dst (.pointer (some ⟨w.heap.size, 0, none⟩))) w') :
    wpListIn F nF P ops Q (⟨dst, .range t x, ty, pos, after, none⟩ :: rest) a w := by
  refine wpListIn_plain rfl fun K hK => ?_
  obtain ⟨w', h1, h2, h3⟩ := h.range ht
  unfold Oper.wpIn
  refine ⟨?_, ?_⟩
  · simp [Oper.about]
  · rw [Oper.semAt_plain F _ _ (by intro c hc'; cases hc')]
    simp [execOp, hx, h1, Result.andThen]
    exact hK _ _ (hr w' (Lib.hid h2) h3)
theorem wplIn_next (it : Operand) (h : RangeF w b r d n f ks cnt) (hit : a.eval it = .pointer (some ⟨r, 0, none⟩))
    (hDone : Hid (∀ k, (f k).isSome = true → k ∈ ks) → wpListIn F nF P ops Q rest (a.put dst (.tuple #[.bool false])) w)
    (hMore : ∀ k v w' cnt', Hid (k ∉ ks ∧ f k = some v ∧ IsKey d k) → Hid (RangeF w' b r d n f (ks ++ [k]) cnt') → cnt' < cnt → Mod [r] w w' → (Instr.entry (.pointer (some ⟨r, 0, none⟩))).run P w' = .ok (.tuple #[k, v]) w' → wpListIn F nF P ops Q rest (a.put dst (.tuple #[.bool true, k, v])) w') :
    wpListIn F nF P ops Q (⟨dst, .next it false, ty, pos, after, none⟩ :: rest) a w := by
  refine wpListIn_plain rfl fun K hK => ?_
  unfold Oper.wpIn
  refine ⟨?_, ?_⟩
  · simp [Oper.about]
  · rw [Oper.semAt_plain F _ _ (by intro c hc'; cases hc')]
    rcases h.next (P := P) ty with ⟨h0, hrun⟩ | ⟨k, v, w', cnt', h1, h2, h3, hrun, h4, h5, h6, h7⟩
    · simp [execOp, hit, hrun, Result.andThen]
      exact hK _ _ (hDone (Lib.hid h0))
    · simp [execOp, hit, hrun, Result.andThen]
      exact hK _ _ (hMore k v w' cnt' (Lib.hid ⟨h1, h2, h3⟩) (Lib.hid h4) h5 h6 h7)
end
/-- The iterator's word: it hands on the map's keys, each once; it turns one block, that it makes. -/
def HandsK (F : Fence) (n : Nat) (P : Program) (g : Nat) (lb : Array Value) (b : Nat) (f : Value → Option Value) (w : World) : Prop :=
  ∀ (l : Nat) (J : List Value → World → Prop) (W : World), Mod [] w W →
    (∀ pre A B, J pre A → Mod [W.heap.size] A B → J pre B) →
    (∀ pre k W1, J pre W1 → k ∉ pre → (f k).isSome = true → W.heap.size < W1.heap.size → YieldAt F (n - 1) P l #[k] W1 fun e W' => e = .returned (.bool true) ∧ J (pre ++ [k]) W' ∧ W'.heap[b]? = W1.heap[b]? ∧ W'.heap[W.heap.size]? = W1.heap[W.heap.size]?) →
    J [] W →
    CallsIn F n P g (#[.func (.yield l) #[] #[]] ++ lb) W fun e W' => (∃ v, e = .returned v) ∧ ∃ ks : List Value, ks.Nodup ∧ (∀ k, k ∈ ks ↔ (f k).isSome = true) ∧ J ks W'
/-- How the body ends, going on. -/
def goesK (b r : Nat) (I : List Value → World → Prop) (xs : List Value) (W : World) : Exit → Act → World → Prop
  | .normal, _, W' => KeepsOthers W W' ∧ W'.heap[b]? = W.heap[b]? ∧ W'.heap[r]? = W.heap[r]? ∧ I xs W'
  | _, _, _ => False
variable {F : Fence} {n : Nat} {P : Program}
theorem wpIn_rangeFunc_keys {g : Operand} {p : Tmp} {assign body : Code} {Q : Exit → Act → World → Prop} {a : Act} {w : World}
    (hro : F.round = none) (h1 : 1 ≤ n) {gf : Nat} {lb : Array Value} (hg : a.eval g = .func (.func gf) #[] lb) (hFg : F.fn gf) (eg : ∀ args w, (callFunc gf args).run P w = .ok (.enter gf args) w)
    {b : Nat} {f : Value → Option Value} (hseq : HandsK F (n - 1) P gf lb b f w) (hb0 : b < w.heap.size)
    (I : List Value → World → Prop) (hI : ∀ pre A B S, (∀ k, k ∈ S → k = w.heap.size ∨ k = w.heap.size + 1 ∨ k = w.heap.size + 2) → I pre A → Mod S A B → I pre B) (h0 : ∀ W, Mod [] w W → I [] W) (a₁ : Value → Act)
    (hassign : ∀ (l : Nat) (x : Value) (W : World) (K : Act → World → Prop), K (a₁ x) W →
      assign.wpIn (F.inRound l) (n - 1 - 1) P (Exit.then K (fun _ _ _ => False)) { tmps := (#[p].zip #[x]).foldl (fun t (p, v) => t.setIfInBounds p v) a.tmps, defers := [] } W)
    (hbody : ∀ (l : Nat) (pre : List Value) (x : Value) (W : World), I pre W → x ∉ pre → (f x).isSome = true → w.heap.size + 3 ≤ W.heap.size → body.wpIn (F.inRound l) (n - 1 - 1) P (goesK b (w.heap.size + 2) I (pre ++ [x]) W) (a₁ x) W)
    (hdone : ∀ (W : World) (ks : List Value), ks.Nodup → (∀ k, k ∈ ks ↔ (f k).isSome = true) → I ks W → W.heap[w.heap.size]? = some (.deferred (some [])) → Q .normal { a with defers := { target := .collected w.heap.size, args := #[] } :: a.defers } W) :
    (Code.rangeFunc g #[p] assign body).wpIn F n P Q a w := by
  refine wpIn_rangeFunc ?_
  intro fn hfn
  rw [hro]
  obtain ⟨rec, hrec⟩ : ∃ rec : LoopState → Option Code → Loop, rec = fun st pe => { state := st, pending := pe, fn, tmps := a.tmps, params := #[p], assign, body, defers := w.heap.size } := ⟨_, rfl⟩
  obtain ⟨W1, hW1⟩ : ∃ W1, (w.alloc (.deferred (some []))).alloc (.loop (rec .ready none)) = W1 := ⟨_, rfl⟩
  have hL1 : W1.heap[w.heap.size + 1]? = some (.loop (rec .ready none)) := by
    rw [← hW1]; have := World.alloc_heap_new (w.alloc (.deferred (some []))) (.loop (rec .ready none)); rwa [World.size_alloc] at this
  have hD1 : W1.heap[w.heap.size]? = some (.deferred (some [])) := by
    rw [← hW1]; exact (Below.heap_alloc _ _ _ (by simp)).trans (World.alloc_heap_new w _)
  have hm1 : Mod [] w W1 := by rw [← hW1]; exact (Mod.alloc _ _ _).trans' (Mod.alloc _ _ _)
  have hz1 : W1.heap.size = w.heap.size + 2 := by rw [← hW1]; simp
  refine ⟨w.heap.size + 1, [{ target := .collected w.heap.size, args := #[] }], W1, { target := .fn (.func gf) lb, args := #[.func (.yield (w.heap.size + 1)) #[] #[]] }, W1, gf,
    #[.func (.yield (w.heap.size + 1)) #[] #[]] ++ lb, W1, ?_, ?_, ?_, ?_, fun _ => h1, ?_⟩
  · rw [← hW1, hrec]; exact run_enterLoop_outer _ _ _ _ _
  · simp only [resolve, hg]
    simp [go_sem]
  · intro f' hf'; simp [Target.leads] at hf'; subst hf'; exact hFg
  · simp [invoke, go_sem, eg]
  · refine (hseq (w.heap.size + 1)
      (fun pre W => I pre W ∧ W.heap[w.heap.size + 1]? = some (.loop (rec .ready none)) ∧ W.heap[w.heap.size]? = some (.deferred (some [])))
      W1 hm1 ?_ ?_ ⟨h0 _ hm1, hL1, hD1⟩).mono ?_
    · rintro pre A B ⟨hi, hl, hd⟩ hm
      rw [hz1] at hm
      exact ⟨hI pre A B [w.heap.size + 2] (by intro k hk; simp only [List.mem_singleton] at hk; exact .inr (.inr hk)) hi hm, hm.get hl (by simp), hm.get hd (by simp)⟩
    · rintro pre x W ⟨hi, hl, hd⟩ hx hfx hzW
      rw [hz1] at hzW ⊢
      have hlt := lt_of_block hl
      have hy := run_yield (P := P) (args := #[x]) hl (by rw [hrec]; rfl)
      rw [hrec] at hy
      refine ⟨fn, _, assign, body, hy, roundIn_of_wpIn hfn (hassign _ x W _ ⟨_, run_beginRound hl (by rw [hrec]), ?_⟩)⟩
      obtain ⟨W2, hW2⟩ : ∃ W2, W.putObj (w.heap.size + 1) (.loop { rec .ready none with state := .busy }) = W2 := ⟨_, rfl⟩
      have hp2 := mod_putObj (S := [w.heap.size + 1]) W (w.heap.size + 1) (.loop { rec .ready none with state := .busy }) (by simp)
      have hl2 : W2.heap[w.heap.size + 1]? = some (.loop { rec .ready none with state := .busy }) := by rw [← hW2]; exact World.putObj_heap_same hlt
      rw [hW2] at hp2
      rw [show ({ state := LoopState.busy, pending := (rec .ready none).pending, fn := (rec .ready none).fn, tmps := (rec .ready none).tmps, params := (rec .ready none).params, assign := (rec .ready none).assign, body := (rec .ready none).body, defers := (rec .ready none).defers } : Loop) = { rec .ready none with state := .busy } from rfl, hW2]
      have hd2 : W2.heap[w.heap.size]? = some (.deferred (some [])) := hp2.get hd (by simp)
      have hi2 : I pre W2 := hI pre W W2 [w.heap.size + 1] (by intro k hk; simp only [List.mem_singleton] at hk; exact .inr (.inl hk)) hi hp2
      have hnb2 : W2.heap[b]? = W.heap[b]? := hp2.block b (by omega) (by simp; omega)
      have hnr2 : W2.heap[w.heap.size + 2]? = W.heap[w.heap.size + 2]? := hp2.block _ (by omega) (by simp)
      refine wpIn_mono (hbody _ pre x _ hi2 hx hfx (by have := hp2.size; omega)) ?_
      rintro e a3 W3 hp
      cases e with
      | normal =>
        obtain ⟨hk3, hnb3, hnr3, hi3⟩ := hp
        have hl3 := hk3.same _ _ hl2 rfl
        have hd3 := hk3.same _ _ hd2 rfl
        have hr := run_endRound (P := P) none hl3
        have hp4 := mod_putObj (S := [w.heap.size + 1]) W3 (w.heap.size + 1) (.loop (rec .ready none)) (by simp)
        have hz3 : W2.heap.size ≤ W3.heap.size := hk3.size
        have hz2 := hp2.size
        refine ⟨.bool true, W3.putObj (w.heap.size + 1) (.loop (rec .ready none)), ?_, rfl, ⟨hI _ W3 _ [w.heap.size + 1] (by intro k hk; simp only [List.mem_singleton] at hk; exact .inr (.inl hk)) hi3 hp4, World.putObj_heap_same (lt_of_block hl3), hp4.get hd3 (by simp)⟩, ?_, ?_⟩
        · rw [hrec] at hr ⊢; exact hr
        · exact (hp4.block b (by have := lt_of_block hl3; omega) (by simp; omega)).trans (hnb3.trans hnb2)
        · exact (hp4.block _ (by omega) (by simp)).trans (hnr3.trans hnr2)
      | ret => exact hp.elim
      | exit id => exact hp.elim
      | goto t => exact hp.elim
      | panic ch => exact hp.elim
      | outgrown => exact hp.elim
    · rintro e W2 ⟨⟨v, rfl⟩, ks, hnd, hks, hi, hl, hd⟩
      have hp4 := mod_putObj (S := [w.heap.size + 1]) W2 (w.heap.size + 1) (.loop { rec .ready none with state := .exhausted }) (by simp)
      exact ⟨none, _, by have := run_endLoop (P := P) hl (by rw [hrec]; simp); rw [hrec] at this; exact this,
        hdone _ ks hnd hks (by rw [hrec] at hp4; exact hI _ W2 _ [w.heap.size + 1] (by intro k hk; simp only [List.mem_singleton] at hk; exact .inr (.inl hk)) hi hp4) (by rw [hrec] at hp4; exact hp4.get hd (by simp))⟩
end Go.Proofs.Ytgneigdcgfiooaa
/- append of bytes to bytes of the call's own, inside a fence. -/
namespace Go.Proofs.Ytgneigdcgfiooaa
open Go Go.RowKit
theorem wplIn_app8 {F : Fence} {nF : Nat} {w : World} {ops : Array Oper} {rest : List Oper} {a : Act} {Q : Exit → Act → World → Prop} {dst : Option Tmp} {ty : TypeId} {pos : String} {after : Array Edge} (s x : Operand)
    (ao : Option Addr) (n cap : Nat) (xs : List UInt8) (hs : a.eval s = .slice ao n cap) (hn : xs.length = n) (hown : OwnB w ao cap xs)
    (so : Option Addr) (m c : Nat) (l : List UInt8) (hx : a.eval x = .slice so m c) (hl : l.length = m) (hsees : Sees w so l) (hb : n + m ≤ 140737488355328)
    (h : ∀ ao' cap' w', OwnB w' ao' cap' (xs ++ l) → Mod (blk ao) w w' → SameOrNew w w' ao ao' → wpListIn F nF Try.prog ops Q rest (a.put dst (.slice ao' (n + m) cap')) w') :
    wpListIn F nF Try.prog ops Q (⟨dst, .call { callee := .builtin .append, args := #[s, x], argTypes := #[36, 36] }, ty, pos, after, none⟩ :: rest) a w := by
  obtain ⟨i0, hi, hz0, hz1, hz2⟩ := info_parts infoU8
  subst hn hl
  obtain ⟨ao', cap', w', hr, h2, h3, h4⟩ := run_append_mine (P := Try.prog) w 36 ty 5 i0 _ 1 1 Try.underlying36 hi hz0 hz1 hz2 rfl (by decide) ao xs.length cap _ hown so l.length c (l.map u8v) (by simp) hsees.shows (one_u8 _) (by unfold maxLen; omega) (by omega)
  refine wpListIn_plain rfl fun K hK' => ?_
  unfold Oper.wpIn
  refine ⟨?_, ?_⟩
  · simp [Oper.about, resolve, Target.leads, Sem.run_pure]
  · rw [Oper.semAt_plain F _ _ (by intro c hc'; cases hc')]
    simp [execOp, resolve, invoke, builtin, hs, hx, hr, Result.andThen]
    refine hK' _ _ (h ao' cap' w' ?_ h3 h4)
    unfold OwnB
    rw [List.length_append, List.map_append]
    exact h2
end Go.Proofs.Ytgneigdcgfiooaa
/- Numbers as bytes of 7 bits: the plain function that both texts compute. No program in sight. -/
namespace Go.Proofs.Ytgneigdcgfiooaa
open Go Go.RowKit

/-- A number's bytes, with fuel. -/
def encF : Nat → Nat → List UInt8
  | 0, n => [UInt8.ofNat n]
  | f + 1, n => if n < 128 then [UInt8.ofNat n] else UInt8.ofNat (128 + n % 128) :: encF f (n / 128)
def enc7 (n : Nat) : List UInt8 := encF 10 n
theorem encF_stable (f : Nat) : ∀ n, n < 128 ^ (f + 1) → encF (f + 1) n = encF f n := by
  induction f with
  | zero => intro n h; simp [encF]; omega
  | succ f ih =>
    intro n h
    show (if n < 128 then _ else UInt8.ofNat (128 + n % 128) :: encF (f + 1) (n / 128)) = (if n < 128 then _ else UInt8.ofNat (128 + n % 128) :: encF f (n / 128))
    split
    · rfl
    · rw [ih (n / 128) (by rw [Nat.div_lt_iff_lt_mul (by omega)]; rwa [Nat.pow_succ] at h)]
theorem enc7_small (n : Nat) (h : n < 128) : enc7 n = [UInt8.ofNat n] := by simp [enc7, encF, h]
theorem enc7_big (n : Nat) (h : 128 ≤ n) (h64 : n < 18446744073709551616) : enc7 n = UInt8.ofNat (128 + n % 128) :: enc7 (n / 128) := by
  show (if n < 128 then _ else UInt8.ofNat (128 + n % 128) :: encF 9 (n / 128)) = _
  rw [if_neg (by omega)]
  show _ = _ :: encF 10 (n / 128)
  rw [encF_stable 9 (n / 128) (by simp only [Nat.reduceAdd, Nat.reducePow]; omega)]
theorem encF_length (f : Nat) : ∀ n, 1 ≤ (encF f n).length ∧ (encF f n).length ≤ f + 1 := by
  induction f with
  | zero => intro n; simp [encF]
  | succ f ih =>
    intro n
    unfold encF
    split
    · simp
    · have := ih (n / 128); simp only [List.length_cons]; omega
theorem enc7_length (n : Nat) : 1 ≤ (enc7 n).length ∧ (enc7 n).length ≤ 11 := encF_length 10 n

/-- The groups that the iterator hands on: 7 bits, and whether they are the last. -/
def grpF : Nat → Nat → List (UInt8 × Bool)
  | 0, n => [(UInt8.ofNat n, true)]
  | f + 1, n => if n < 128 then [(UInt8.ofNat n, true)] else (UInt8.ofNat (n % 128), false) :: grpF f (n / 128)
def grp (n : Nat) : List (UInt8 × Bool) := grpF 10 n
def grpB (x : UInt8 × Bool) : UInt8 := if x.2 = true then x.1 else UInt8.ofNat (128 + x.1.toNat)
theorem grpF_stable (f : Nat) : ∀ n, n < 128 ^ (f + 1) → grpF (f + 1) n = grpF f n := by
  induction f with
  | zero => intro n h; simp [grpF]; omega
  | succ f ih =>
    intro n h
    show (if n < 128 then _ else (UInt8.ofNat (n % 128), false) :: grpF (f + 1) (n / 128)) = (if n < 128 then _ else (UInt8.ofNat (n % 128), false) :: grpF f (n / 128))
    split
    · rfl
    · rw [ih (n / 128) (by rw [Nat.div_lt_iff_lt_mul (by omega)]; rwa [Nat.pow_succ] at h)]
theorem grp_small (n : Nat) (h : n < 128) : grp n = [(UInt8.ofNat n, true)] := by simp [grp, grpF, h]
theorem grp_big (n : Nat) (h : 128 ≤ n) (h64 : n < 18446744073709551616) : grp n = (UInt8.ofNat (n % 128), false) :: grp (n / 128) := by
  show (if n < 128 then _ else (UInt8.ofNat (n % 128), false) :: grpF 9 (n / 128)) = _
  rw [if_neg (by omega)]
  show _ = _ :: grpF 10 (n / 128)
  rw [grpF_stable 9 (n / 128) (by simp only [Nat.reduceAdd, Nat.reducePow]; omega)]
theorem grpF_enc (f : Nat) : ∀ n, n < 128 ^ (f + 1) → (grpF f n).map grpB = encF f n := by
  induction f with
  | zero => intro n h; simp [grpF, encF, grpB]
  | succ f ih =>
    intro n h
    unfold grpF encF
    split
    · simp [grpB]
    · rw [List.map_cons, ih (n / 128) (by rw [Nat.div_lt_iff_lt_mul (by omega)]; rwa [Nat.pow_succ] at h)]
      have : grpB (UInt8.ofNat (n % 128), false) = UInt8.ofNat (128 + n % 128) := by
        have e : (UInt8.ofNat (n % 128)).toNat = n % 128 := by rw [UInt8.toNat_ofNat']; omega
        simp only [grpB, e]; rfl
      rw [this]
theorem grp_enc (n : Nat) (h64 : n < 18446744073709551616) : (grp n).map grpB = enc7 n := grpF_enc 10 n (by simp only [Nat.reduceAdd, Nat.reducePow]; omega)
theorem grp_length (n : Nat) (h64 : n < 18446744073709551616) : (grp n).length = (enc7 n).length := by rw [← grp_enc n h64]; simp
theorem grpF_wf (f : Nat) : ∀ n, n < 128 ^ (f + 1) → ∀ x ∈ grpF f n, x.1.toNat < 128 := by
  induction f with
  | zero => intro n h x hx; simp [grpF] at hx; subst hx; simp at h; show (UInt8.ofNat n).toNat < 128; rw [UInt8.toNat_ofNat']; omega
  | succ f ih =>
    intro n h x hx
    unfold grpF at hx
    split at hx
    · simp at hx; subst hx; show (UInt8.ofNat n).toNat < 128; rw [UInt8.toNat_ofNat']; omega
    · rcases List.mem_cons.1 hx with rfl | hx
      · show (UInt8.ofNat (n % 128)).toNat < 128; rw [UInt8.toNat_ofNat']; omega
      · exact ih (n / 128) (by rw [Nat.div_lt_iff_lt_mul (by omega)]; rwa [Nat.pow_succ] at h) x hx
theorem grp_wf (n : Nat) (h64 : n < 18446744073709551616) : ∀ x ∈ grp n, x.1.toNat < 128 := grpF_wf 10 n (by simp only [Nat.reduceAdd, Nat.reducePow]; omega)

/-- A signed number, as a number from 0 on. -/
def zig (m : Int) : Nat := if 0 ≤ m then (2 * m).toNat else (-2 * m - 1).toNat
theorem zig_pos (m : Int) (h : 0 ≤ m) : zig m = (2 * m).toNat := if_pos h
theorem zig_neg (m : Int) (h : m < 0) : zig m = (-2 * m - 1).toNat := if_neg (by omega)
theorem zig_lt (m : Int) (h1 : -9223372036854775808 ≤ m) (h2 : m ≤ 9223372036854775807) : zig m < 18446744073709551616 := by
  unfold zig; split <;> omega
theorem xor_ones64 (n : Nat) (h : n < 18446744073709551616) : bits .xor .u64 (n : Int) 18446744073709551615 = ((18446744073709551615 - n : Nat) : Int) := by
  show IntKind.u64.wrap ((BitVec.ofInt 64 (n : Int) ^^^ BitVec.ofInt 64 18446744073709551615).toNat : Int) = _
  have e1 : BitVec.ofInt 64 18446744073709551615 = BitVec.allOnes 64 := by decide
  have e2 : BitVec.ofInt 64 (n : Int) = BitVec.ofNat 64 n := BitVec.ofInt_natCast 64 n
  rw [e1, e2, BitVec.xor_allOnes, BitVec.toNat_not, BitVec.toNat_ofNat, Nat.mod_eq_of_lt (by simpa using h)]
  rw [IntWalk.u64_in _ (by omega)]
/-- As the walk writes it. -/
theorem zig_walk (m : Int) (h1 : -9223372036854775808 ≤ m) (h2 : m ≤ 9223372036854775807) :
    bits BinOp.xor IntKind.u64 (IntKind.u64.wrap (IntKind.u64.wrap m * 2)) (IntKind.u64.wrap (m / 9223372036854775808)) = ((zig m : Nat) : Int) := by
  by_cases h0 : 0 ≤ m
  · have e1 : m / 9223372036854775808 = 0 := by omega
    have e2 : IntKind.u64.wrap m = m := IntWalk.u64_in _ (by omega)
    have e3 : IntKind.u64.wrap (m * 2) = ((zig m : Nat) : Int) := by rw [IntWalk.u64_in _ (by omega), zig_pos m h0]; omega
    have e4 : IntKind.u64.wrap 0 = ((0 : Nat) : Int) := by decide
    rw [e1, e2, e3, e4, u64_xor_nat _ _ (zig_lt m h1 h2) (by omega), Nat.xor_zero]
  · have e1 : m / 9223372036854775808 = -1 := by omega
    have e2 : IntKind.u64.wrap m = m + 18446744073709551616 := by rw [IntKind.wrap_u64]; omega
    have e3 : IntKind.u64.wrap ((m + 18446744073709551616) * 2) = (((2 * m + 18446744073709551616).toNat : Nat) : Int) := by rw [IntKind.wrap_u64]; omega
    have e4 : IntKind.u64.wrap (-1) = 18446744073709551615 := by decide
    rw [e1, e2, e3, e4, xor_ones64 _ (by omega), zig_neg m (by omega)]
    omega
end Go.Proofs.Ytgneigdcgfiooaa
/- The walks of varint.groups, its inner function, and varint.Uint: a number's bytes behind bytes of the call's own. -/
namespace Go.Proofs.Ytgneigdcgfiooaa
open Go Go.RowKit Go.Shelf
attribute [local go_sem] Oper.semAt_some

/-- The number in the box. -/
def boxNum (nb : Nat) (w : World) : Nat := match w.cell? ⟨nb, 0, none⟩ with | some v => (RowKit.intOf v).toNat | none => 0
theorem boxNum_of {nb : Nat} {w : World} {k : IntKind} {m : Nat} {t : TypeId} (h : w.heap[nb]? = some (.cells #[.int k (m : Int)] t (0, 0))) : boxNum nb w = m := by
  unfold boxNum; rw [cell_of_one h]; simp [RowKit.intOf]

set_option maxRecDepth 100000 in
set_option maxHeartbeats 1000000 in
theorem groups1_in (F : Fence) (n : Nat) (hf : F.fn 34) (hro : F.round = none) (hn : 1 ≤ n) (nb m : Nat) (hm64 : m < 18446744073709551616) (w : World) (hnb : w.heap[nb]? = some (.cells #[.int .u64 (m : Int)] 60 (0, 0))) :
    Hands F n Try.prog 34 #[.pointer (some ⟨nb, 0, none⟩)] (fun x : UInt8 × Bool => #[.int .u8 ((x.1.toNat : Nat) : Int), .bool x.2]) nb (grp m) w := by
  intro l J W hW hJ hY h0
  have hb0 : W.heap[nb]? = some (.cells #[.int .u64 (m : Int)] 60 (0, 0)) := hW.get hnb (by simp)
  have HY := Lib.hid hY
  have HJ := Lib.hid hJ
  clear hY hJ
  refine callsIn_of_wp Try.func34 rfl hf ?_ hro
  simp only [Try.ntmps34, List.size_toArray, List.length_cons, List.length_nil, Nat.reduceAdd, Nat.reduceSub, Array.replicate_succ, Array.replicate_zero, List.push_toArray, List.append_toArray, List.nil_append, List.cons_append]
  gi_wp2
  gi_loopw [3] (fun _ wr => ∃ (pre : List (UInt8 × Bool)) (q : Nat), q < 18446744073709551616 ∧ grp m = pre ++ grp q ∧ wr.heap[nb]? = some (.cells #[.int .u64 (q : Int)] 60 (0, 0)) ∧ J pre wr) (fun _ wr => boxNum nb wr)
  case atStart => exact ⟨[], m, hm64, rfl, hb0, h0⟩
  case round =>
    obtain ⟨pre, q, hq, hg, hb, hj⟩ := hrel
    have hcell := cell_of_one hb
    have hfree := free_of_one hb
    have HG := Lib.hid hg
    have HB := Lib.hid hb
    have HN := Lib.hid hj
    clear hg hb hj hb0 h0
    by_cases hlt : q < 128
    · have hx : (pre ++ [(UInt8.ofNat q, true)]) <+: grp m := by rw [HG.out, grp_small q hlt]; exact List.prefix_refl _
      obtain ⟨fn, tmps, assign, body, hy, hR⟩ := HY.out pre (UInt8.ofNat q, true) wr HN.out hx
      have e1 : (UInt8.ofNat q).toNat = q := by rw [UInt8.toNat_ofNat']; omega
      simp only [e1] at hy
      have hw8 : IntKind.u8.wrap (q : Int) = (q : Int) := IntWalk.u8_in _ (by omega)
      have hd : decide ((128 : Int) ≤ (q : Int)) = false := by simp; omega
      gi_wp2
      refine hR.mono ?_
      rintro e W3 ⟨rfl, hj3, _⟩
      gi_wp2
      go_end0
      exact ⟨⟨_, rfl⟩, by rw [HG.out, grp_small q hlt]; exact hj3⟩
    · have hgb := grp_big q (by omega) hq
      have hx : (pre ++ [(UInt8.ofNat (q % 128), false)]) <+: grp m := by rw [HG.out, hgb]; exact ⟨grp (q / 128), by simp⟩
      obtain ⟨fn, tmps, assign, body, hy, hR⟩ := HY.out pre (UInt8.ofNat (q % 128), false) wr HN.out hx
      have e1 : (((UInt8.ofNat (q % 128)).toNat : Nat) : Int) = (q : Int) % 128 := by rw [UInt8.toNat_ofNat']; omega
      simp only [e1] at hy
      have HGB := Lib.hid hgb
      have hd : decide ((128 : Int) ≤ (q : Int)) = true := by simp; omega
      have hw8 : IntKind.u8.wrap (bits BinOp.and IntKind.u64 (q : Int) 127) = (q : Int) % 128 := by
        have h1 := u64_and_nat q 127 hq (by omega)
        have h2 : q &&& 127 = q % 128 := Nat.and_two_pow_sub_one_eq_mod q 7
        rw [h2] at h1
        rw [show (127 : Int) = ((127 : Nat) : Int) from rfl, h1, IntWalk.u8_in _ (by omega)]; omega
      clear hgb e1
      gi_wp2
      refine hR.mono ?_
      rintro e W3 ⟨rfl, hj3, hn3⟩
      have hb3 : W3.heap[nb]? = some (.cells #[.int .u64 (q : Int)] 60 (0, 0)) := by rw [hn3]; exact HB.out
      have hcell3 := cell_of_one hb3
      have hfree3 := free_of_one hb3
      have HB3 := Lib.hid hb3
      have HJ3 := Lib.hid hj3
      have hqq : Hid ((q : Int) / 128 = ((q / 128 : Nat) : Int)) := by show _ = _; omega
      clear hb3 hj3 hn3 hcell hfree hy hw8
      gi_wp2
      go_roundw
      case rel =>
        refine ⟨pre ++ [(UInt8.ofNat (q % 128), false)], q / 128, by omega, by rw [HG.out, HGB.out]; simp, ?_, HJ.out _ _ _ HJ3.out (Mod.setCell _ _ _ (by simp))⟩
        rw [hqq.out]
        exact one_setCell HB3.out
      case measure =>
        rw [hqq.out, boxNum_of (one_setCell HB3.out), boxNum_of HB.out]
        omega
set_option maxHeartbeats 1000000 in
theorem groups_in (F : Fence) (n : Nat) (hf : F.fn 30) (hro : F.round = none) (m : Int) (w : World) :
    CallsIn F n Try.prog 30 #[.int .u64 m] w fun e w' => ∃ nb, e = .returned (.func (.func 34) #[] #[.pointer (some ⟨nb, 0, none⟩)]) ∧ w'.heap[nb]? = some (.cells #[.int .u64 m] 60 (0, 0)) ∧ Mod [] w w' ∧ w.heap.size ≤ nb := by
  refine callsIn_of_wp Try.func30 rfl hf ?_ hro
  simp only [Try.ntmps30, List.size_toArray, List.length_cons, List.length_nil, Nat.reduceAdd, Nat.reduceSub, Array.replicate_succ, Array.replicate_zero, List.push_toArray, List.append_toArray, List.nil_append, List.cons_append]
  gi_wp2
  go_ret
  exact ⟨w.heap.size, rfl, heap_alloc_new w _, Mod.alloc _ _ _, Nat.le_refl _⟩
end Go.Proofs.Ytgneigdcgfiooaa
/- The walk of varint.Uint. -/
namespace Go.Proofs.Ytgneigdcgfiooaa
open Go Go.RowKit Go.Shelf
attribute [local go_sem] Oper.semAt_some

/-- What the loop keeps: the box, the bytes so far. -/
def UintInv (w : World) (ao : Option Addr) (bb : Nat) (bad : List Nat) (xs : List UInt8) (pre : List (UInt8 × Bool)) (W : World) : Prop :=
  ∃ ao' cap', W.heap[bb]? = some (.cells #[.slice ao' (xs ++ pre.map grpB).length cap'] 36 (0, 0)) ∧ OwnB W ao' cap' (xs ++ pre.map grpB) ∧ Mod (blk ao) w W ∧ SameOrNew w W ao ao' ∧ (∀ k, k ∈ blk ao' → k ∉ bb :: bad)
theorem UintInv.mod {w : World} {ao : Option Addr} {bb : Nat} {bad S : List Nat} {xs : List UInt8} {pre : List (UInt8 × Bool)} {A B : World} (h : UintInv w ao bb bad xs pre A) (hm : Mod S A B) (hS : ∀ k, k ∈ S → k ∈ bad) (hbb : bb ∉ bad) (hnew : ∀ k, k ∈ bad → w.heap.size ≤ k) : UintInv w ao bb bad xs pre B := by
  obtain ⟨ao', cap', h1, h2, h3, h4, h5⟩ := h
  refine ⟨ao', cap', hm.get h1 (fun h => hbb (hS _ h)), h2.mod hm (fun k hk hs => h5 k hk (by simp [hS k hs])), h3.trans hm (fun i hi hl => by have := hnew i (hS i hi); omega), ?_, h5⟩
  rcases h4 with h4 | ⟨g, e, g1, g2⟩
  · exact .inl h4
  · exact .inr ⟨g, e, g1, hm.lt g2⟩

theorem keepsOthers_of {S : List Nat} {W W' : World} (hm : Mod S W W') (hc : ∀ k, k ∈ S → ∀ o, W.heap[k]? = some o → o.isCells = true) : KeepsOthers W W' :=
  ⟨hm.size, fun k o hk ho => hm.get hk (fun hs => by rw [hc k hs o hk] at ho; cases ho)⟩
theorem Own.isCells {w : World} {e : TypeId} {sz : Nat} {ao : Option Addr} {n cap : Nat} {xs : List Value} (h : Own w e sz ao n cap xs) : ∀ k, k ∈ blk ao → ∀ o, w.heap[k]? = some o → o.isCells = true := by
  intro k hk o ho
  rcases h.2 with ⟨rfl, _⟩ | ⟨g, cur, fz, rfl, hg, _⟩
  · simp [blk] at hk
  · simp only [blk, List.mem_singleton] at hk; subst hk; rw [hg] at ho; cases ho; rfl
theorem Sees.one (W : World) (g : UInt8) (v : Value) (t : TypeId) (hv : v = .int .u8 ((g.toNat : Nat) : Int)) : Sees (W.alloc (.cells #[v] t)) (some ⟨W.heap.size, 0, none⟩) [g] := by
  intro j hj
  have : j = 0 := by simpa using hj
  subst this
  exact ⟨W.heap.size, 0, rfl, by rw [cell_of_block (heap_alloc_new W _)]; subst hv; rfl⟩

set_option maxRecDepth 100000 in
set_option maxHeartbeats 2000000 in
theorem vuint_in (F : Fence) (n : Nat) (h1 : F.fn 22) (h2 : F.fn 30) (h3 : F.fn 34) (hro : F.round = none) (hn : 3 ≤ n) (ao : Option Addr) (len cap m : Nat) (xs : List UInt8) (w : World)
    (hlen : xs.length = len) (hown : OwnB w ao cap xs) (hm64 : m < 18446744073709551616) (hb : len ≤ 140737488355000) :
    CallsIn F n Try.prog 22 #[.slice ao len cap, .int .u64 (m : Int)] w (RetApp w ao (xs ++ enc7 m)) := by
  subst hlen
  have hn1 : 1 ≤ n := by omega
  refine callsIn_of_wp_marks Try.func22 rfl h1 ?_ hro
  simp only [Try.ntmps22, List.size_toArray, List.length_cons, List.length_nil, Nat.reduceAdd, Nat.reduceSub, Array.replicate_succ, Array.replicate_zero, List.push_toArray, List.append_toArray, List.nil_append, List.cons_append]
  gi_wp2_with (gi_at_call 30; refine (groups_in F (n - 1) h2 hro _ _).mono ?_; rintro e w2 ⟨nb, rfl, hnb, hm2, hge⟩)
  have hbx := heap_alloc_new w (.cells #[.slice ao xs.length cap] 36)
  have hm1 := Mod.alloc [] w (.cells #[.slice ao xs.length cap] 36)
  have hsz : w.heap.size + 1 ≤ w2.heap.size := by have := hm2.size; simp at this; omega
  have hnl := lt_of_block hnb
  have hnb2 : w.heap.size + 1 ≤ nb := by simpa using hge
  have HO := Lib.hid ((hown.mod0 hm1).mod0 hm2)
  have HBX := Lib.hid (hm2.get hbx (by simp))
  have HM := Lib.hid (hm1.trans' hm2)
  have HNB := Lib.hid hnb
  have hltown : ∀ k, k ∈ blk ao → k < w.heap.size := Own.lt hown
  clear hbx hm1 hm2 hnb hge hown
  have hL : nb ≠ w2.heap.size ∧ nb ≠ w2.heap.size + 1 := by omega
  refine wpIn_rangeFunc_hands hro hn1 (gf := 34) (lb := #[.pointer (some ⟨nb, 0, none⟩)]) rfl h3 (enters_of Try.func34 (by kernel_rfl) rfl)
    (groups1_in F (n - 1) h3 hro (by omega) nb m hm64 _ HNB.out) (fun _ => rfl) hnl
    (UintInv w ao w.heap.size [nb, w2.heap.size, w2.heap.size + 1] xs)
    (fun pre A B S hS hI hm => hI.mod hm (fun k hk => by simpa using hS k hk) (by simp; omega) (by simp; omega))
    (fun W hW => ⟨ao, cap, by simpa using hW.get HBX.out (by simp), by simpa using HO.out.mod0 hW, (HM.out.trans' hW).nil, .inl rfl, fun k hk => by have := hltown k hk; simp; omega⟩)
    (fun x => { tmps := #[.slice ao xs.length cap, .int .u64 (m : Int), .pointer (some ⟨w.heap.size, 0, none⟩), undef, .slice none 0 0, .int .u8 ((x.1.toNat : Nat) : Int), .bool x.2, .int .u64 (m : Int), .func (.func 34) #[] #[.pointer (some ⟨nb, 0, none⟩)], .int .u8 ((x.1.toNat : Nat) : Int), .bool x.2, undef, undef, undef, undef, undef, undef, undef, undef, undef], defers := [] }) ?assign ?body ?done
  case assign =>
    intro l x W K hK
    gi_wp2
    exact hK
  case body =>
    rintro l pre x W hI hx hsize
    obtain ⟨ao', cap', hbox, ho, hm, hsn, hbad⟩ := hI
    have hxm : x ∈ grp m := hx.subset (by simp)
    have hxw := grp_wf m hm64 x hxm
    have hplen : pre.length < 11 := by
      have h1 := hx.length_le
      have h2 := grp_length m hm64
      have h3 := (enc7_length m).2
      simp at h1; omega
    obtain ⟨ys, hys⟩ : ∃ ys, ys = xs ++ pre.map grpB := ⟨_, rfl⟩
    have hylen : ys.length ≤ 140737488355020 := by rw [hys]; simp; omega
    rw [← hys] at hbox ho
    have HYS := Lib.hid hys
    have hcell := cell_of_one hbox
    have HB := Lib.hid hbox
    have HW := Lib.hid ho
    have HMW := Lib.hid hm
    have HSN := Lib.hid hsn
    have HBAD := Lib.hid hbad
    clear hys hbox ho hm hsn hbad
    obtain ⟨g, b⟩ := x
    have fin : ∀ (v : Value) (y : UInt8) (a2 : Option Addr) (c2 : Nat) (w4 : World), grpB (g, b) = y → OwnB w4 a2 c2 (ys ++ [y]) → Mod (blk ao') (W.alloc (.cells #[v] 5)) w4 → SameOrNew (W.alloc (.cells #[v] 5)) w4 ao' a2 →
        (w4.heap[w.heap.size]? = some (.cells #[.slice ao' ys.length cap'] 36 (0, 0)) ∧
        goesOn nb (UintInv w ao w.heap.size [nb, w2.heap.size, w2.heap.size + 1] xs) (pre ++ [(g, b)]) W .normal { tmps := #[], defers := [] } (w4.setCell ⟨w.heap.size, 0, none⟩ (.slice a2 (ys.length + 1) c2))) := by
      intro v y a2 c2 w4 hy ho4 hm4 hsn4
      have hma := Mod.alloc (blk ao') W (.cells #[v] 5)
      have hm5 : Mod (blk ao') W w4 := hma.trans' hm4
      have hb4 : w4.heap[w.heap.size]? = some (.cells #[.slice ao' ys.length cap'] 36 (0, 0)) := hm5.get HB.out (fun h => by have := HBAD.out _ h; simp at this)
      refine ⟨hb4, ?_, ?_, ?_⟩
      · refine (keepsOthers_of hm5 (Own.isCells HW.out)).trans ?_
        exact keepsOthers_of (Mod.setCell w4 _ _ (S := [w.heap.size]) (by simp)) (by intro k hk o ho; simp only [List.mem_singleton] at hk; subst hk; rw [hb4] at ho; cases ho; rfl)
      · rw [(Mod.setCell (S := [w.heap.size]) w4 ⟨w.heap.size, 0, none⟩ (.slice a2 (ys.length + 1) c2) (by simp)).block nb (by have := hm5.size; omega) (by simp; omega)]
        exact hm5.block nb (by omega) (fun h => by have := HBAD.out _ h; simp at this)
      · have e1 : xs ++ (pre ++ [(g, b)]).map grpB = ys ++ [y] := by rw [HYS.out]; simp [hy]
        have hblk2 : ∀ k, k ∈ blk a2 → k ∈ blk ao' ∨ W.heap.size + 1 ≤ k := fun k hk => by have := hsn4.blk k hk; simpa using this
        have hnin : ∀ k, k ∈ blk a2 → k ∉ [w.heap.size, nb, w2.heap.size, w2.heap.size + 1] := fun k hk hk2 => by
          rcases hblk2 k hk with h | h
          · exact HBAD.out k h hk2
          · simp at hk2; omega
        have hms := Mod.setCell (S := [w.heap.size]) w4 ⟨w.heap.size, 0, none⟩ (.slice a2 (ys.length + 1) c2) (by simp)
        refine ⟨a2, c2, ?_, ?_, ?_, ?_, hnin⟩
        · rw [e1]; simpa using one_setCell (u := .slice a2 (ys.length + 1) c2) hb4
        · rw [e1]; exact ho4.mod hms (fun k hk hs => by have := hnin k hk; simp at hs; simp [hs] at this)
        · refine (HMW.out.trans hm5 ?_).trans hms (by intro i hi hl; simp at hi; omega)
          intro i hi hl
          rcases HSN.out.blk i hi with h | h
          · exact h
          · omega
        · have hsz4 := hm5.size
          have hsz5 := HMW.out.size
          rcases hsn4 with rfl | ⟨g4, rfl, h1, h2⟩
          · rcases HSN.out with h | ⟨g5, h, h1, h2⟩
            · exact .inl h
            · exact .inr ⟨g5, h, h1, hms.lt (hm5.lt h2)⟩
          · exact .inr ⟨g4, rfl, by simp at h1; omega, hms.lt h2⟩
    have FIN := Lib.hid fin
    clear fin
    cases b with
    | true =>
      gi_wp2_with (gi_at_builtin; refine wplIn_app8 (dst := some 18) _ _ ao' _ cap' ys rfl rfl (HW.out.mod0 (Mod.alloc _ _ _)) _ 1 1 [g] rfl rfl (Sees.one _ _ _ _ rfl) (by omega) ?_; intro a2 c2 w4 ho4 hm4 hsn4; obtain ⟨hb4, hgo⟩ := FIN.out _ g a2 c2 w4 rfl ho4 hm4 hsn4; have hc4 := cell_of_one hb4; have hf4 := free_of_one hb4; have HGO := Lib.hid hgo; clear hgo hb4 ho4 hm4 hsn4)
      exact HGO.out
    | false =>
      obtain ⟨y, hy⟩ : ∃ y, grpB (g, false) = y := ⟨_, rfl⟩
      have e8 : bits BinOp.or IntKind.u8 (g.toNat : Int) 128 = (y.toNat : Int) := by
        have hxw' : g.toNat < 128 := hxw
        rw [u8_or128_right _ (by omega) (by omega), ← hy]
        show _ = ((UInt8.ofNat (128 + g.toNat)).toNat : Int)
        rw [UInt8.toNat_ofNat']; omega
      have HY := Lib.hid hy
      clear hy
      gi_wp2_with (gi_at_builtin; refine wplIn_app8 (dst := some 18) _ _ ao' _ cap' ys rfl rfl (HW.out.mod0 (Mod.alloc _ _ _)) _ 1 1 [y] rfl rfl (Sees.one _ _ _ _ rfl) (by omega) ?_; intro a2 c2 w4 ho4 hm4 hsn4; obtain ⟨hb4, hgo⟩ := FIN.out _ y a2 c2 w4 HY.out ho4 hm4 hsn4; have hc4 := cell_of_one hb4; have hf4 := free_of_one hb4; have HGO := Lib.hid hgo; clear hgo hb4 ho4 hm4 hsn4)
      exact HGO.out
  case done =>
    rintro W ⟨ao', cap', hbox, ho, hm, hsn, hbad⟩ hD
    rw [grp_enc m hm64] at hbox ho
    have hcell := cell_of_one hbox
    have HW := Lib.hid ho
    have HMW := Lib.hid hm
    have HSN := Lib.hid hsn
    have HBAD := Lib.hid hbad
    have HD := Lib.hid hD
    obtain ⟨ys, hys⟩ : ∃ ys, ys = xs ++ enc7 m := ⟨_, rfl⟩
    rw [← hys] at hcell HW
    have HYS := Lib.hid hys
    clear hbox ho hm hsn hbad hD hys
    gi_wp2
    refine ⟨by simp, .inl ⟨_, _, rfl, run_takeDeferred HD.out, ?_⟩⟩
    refine ⟨_, results_tmp rfl _ _ _, ?_⟩
    show RetApp w ao (xs ++ enc7 m) _ _
    rw [← HYS.out]
    refine ⟨ao', ys.length, cap', rfl, rfl, ?_, ?_, ?_⟩
    · exact HW.out.mod (mod_putObj (S := [w2.heap.size]) _ _ _ (by simp)) (fun k hk hs => by have := HBAD.out k hk; simp at hs; simp [hs] at this)
    · exact HMW.out.trans (mod_putObj (S := [w2.heap.size]) _ _ _ (by simp)) (by intro i hi hl; simp at hi; omega)
    · rcases HSN.out with h | ⟨g5, h, h1, h2⟩
      · exact .inl h
      · exact .inr ⟨g5, h, h1, (mod_putObj (S := [w2.heap.size]) W w2.heap.size _ (by simp)).lt h2⟩

theorem vuint_any (ao : Option Addr) (len cap m : Nat) (xs : List UInt8) (w : World)
    (hlen : xs.length = len) (hown : OwnB w ao cap xs) (hm64 : m < 18446744073709551616) (hb : len ≤ 140737488355000) :
    Calls Try.prog 22 #[.slice ao len cap, .int .u64 (m : Int)] w (RetApp w ao (xs ++ enc7 m)) :=
  (callsIn_wide (n := 3)).1 (vuint_in Fence.wide 3 trivial trivial trivial rfl (by omega) ao len cap m xs w hlen hown hm64 hb)
end Go.Proofs.Ytgneigdcgfiooaa
/- maps.Keys at a table's map, and its iterator. -/
namespace Go.Proofs.Ytgneigdcgfiooaa
open Go Go.RowKit Go.Shelf Go.MapKept
attribute [local go_sem] Oper.semAt_some

set_option maxRecDepth 100000 in
set_option maxHeartbeats 1000000 in
theorem keys1_hands (F : Fence) (n : Nat) (hf : F.fn 31) (hro : F.round = none) (hn : 1 ≤ n) (nb b m : Nat) (f : Value → Option Value) (w : World) (hbx : w.cell? ⟨nb, 0, none⟩ = some (.map (some b))) (h : MapF w b (.int .u32) m f) :
    HandsK F n Try.prog 31 #[.pointer (some ⟨nb, 0, none⟩)] b f w := by
  intro l J W hW hJ hY h0
  have hc := hW.cell hbx List.not_mem_nil
  have HM := Lib.hid (h.mod0 hW)
  have HY := Lib.hid hY
  have HJ := Lib.hid hJ
  have HZ := Lib.hid h0
  clear hY hJ h0 h
  refine callsIn_of_wp Try.func31 rfl hf ?_ hro
  simp only [Try.ntmps31, List.size_toArray, List.length_cons, List.length_nil, Nat.reduceAdd, Nat.reduceSub, Array.replicate_succ, Array.replicate_zero, List.push_toArray, List.append_toArray, List.nil_append, List.cons_append]
  gi_wp2_with (first | (gi_at_range; refine wplIn_range (dst := some 5) _ _ HM.out Try.underlying48 rfl ?_; intro w0 hrg m0) | gi_in)
  have hj0 := HJ.out [] W w0 HZ.out m0.nil
  have hz0 := hrg.out.lt
  have HRG0 := Lib.hid hrg.out
  clear hrg m0 HM
  try simp only [Act.put, List.setIfInBounds_toArray, List.set_cons_succ, List.set_cons_zero]
  gi_loopw [3] (fun _ wr => ∃ (ks : List Value) (cnt : Nat), RangeF wr b W.heap.size (.int .u32) m f ks cnt ∧ J ks wr) (fun _ wr => wr.rangeLeft b W.heap.size)
  case atStart => exact ⟨[], m, HRG0.out, hj0⟩
  case round =>
    obtain ⟨ks, cnt, hrg, hj⟩ := hrel
    have HR := Lib.hid hrg
    have HJk := Lib.hid hj
    clear hrg hj hj0 hz0 HRG0
    gi_wp2_with (first | (gi_at_next; refine wplIn_next (dst := some 6) _ HR.out rfl ?_ ?_) | gi_in)
    · intro hd
      gi_wp2
      go_end0
      exact ⟨⟨_, rfl⟩, ks, HR.out.nodup.1, fun k => ⟨HR.out.nodup.2 k, hd.out k⟩, HJk.out⟩
    · intro k v w2 cnt2 hk hrg2 hlt m2 hen
      have hJ2 := HJ.out ks wr w2 HJk.out m2
      obtain ⟨fn, tmps, assign, body, hy, hR⟩ := HY.out ks k w2 hJ2 hk.out.1 (by rw [hk.out.2.1]; rfl) hrg2.out.lt
      have HRG2 := Lib.hid hrg2.out
      have HLT : Hid (cnt2 < cnt) := Lib.hid hlt
      clear hrg2 hlt m2 hJ2
      gi_wp2
      refine hR.mono ?_
      rintro e W3 ⟨rfl, hJ3, hb3, hr3⟩
      have HRG3 := Lib.hid (HRG2.out.same hb3 hr3)
      have HJ3 := Lib.hid hJ3
      clear hb3 hr3 hJ3 hy hen
      gi_wp2
      go_roundw
      case rel => exact ⟨ks ++ [k], cnt2, HRG3.out, HJ3.out⟩
      case measure => rw [HRG3.out.left_eq, HR.out.left_eq]; exact HLT.out
theorem keys_any (b : Nat) (w : World) : Calls Try.prog 23 #[.map (some b)] w fun e w' => ∃ nb, e = .returned (.func (.func 31) #[] #[.pointer (some ⟨nb, 0, none⟩)]) ∧ w'.cell? ⟨nb, 0, none⟩ = some (.map (some b)) ∧ Mod [] w w' := by
  go_enter Try.func23, Try.ntmps23
  go_wp2
  go_ret
  exact ⟨w.heap.size, rfl, by rw [cell_of_block (heap_alloc_new w _)]; rfl, Mod.alloc _ _ _⟩
end Go.Proofs.Ytgneigdcgfiooaa
/- Rows of the call's own whose elements have one cell each, by what they show. Over any program. -/
namespace Go.Proofs.Ytgneigdcgfiooaa
open Go Go.RowKit

/-- A row of elements of one cell each; f says what a cell holds. -/
def OwnM {α : Type} (f : α → Value) (w : World) (e : TypeId) (ao : Option Addr) (cap : Nat) (l : List α) : Prop := Own w e 1 ao l.length cap (l.map f)
section
variable {α : Type} {f : α → Value} {w w' : World} {e : TypeId} {ao : Option Addr} {cap : Nat} {l : List α}
theorem OwnM.nil (f : α → Value) (w : World) (e : TypeId) : OwnM f w e none 0 [] := Own.nil0 w e 1
theorem OwnM.mod {S : List Nat} (h : OwnM f w e ao cap l) (hm : Mod S w w') (hn : ∀ k, k ∈ blk ao → k ∉ S) : OwnM f w' e ao cap l := Own.mod h hm hn
theorem OwnM.mod0 (h : OwnM f w e ao cap l) (hm : Mod [] w w') : OwnM f w' e ao cap l := Own.mod0 h hm
theorem OwnM.lt (h : OwnM f w e ao cap l) : ∀ k, k ∈ blk ao → k < w.heap.size := Own.lt h
theorem OwnM.le (h : OwnM f w e ao cap l) : l.length ≤ cap := Own.le h
theorem OwnM.at' (h : OwnM f w e ao cap l) {j : Nat} (hj : j < l.length) : ∃ g, ao = some ⟨g, 0, none⟩ ∧ w.cell? ⟨g, j, none⟩ = some (f l[j]) ∧ w.frozen? ⟨g, j, none⟩ = false :=
  Own.cell h (j := j) (u := f l[j]) (by rw [List.getElem?_map, List.getElem?_eq_getElem hj]; rfl)
theorem OwnM.set {g j : Nat} (h : OwnM f w e (some ⟨g, 0, none⟩) cap l) (x : α) : OwnM f (w.setCell ⟨g, j, none⟩ (f x)) e (some ⟨g, 0, none⟩) cap (l.set j x) := by
  have := Own.set (j := j) h (f x)
  unfold OwnM
  rw [List.length_set, List.map_set]
  exact this
theorem OwnM.shows (h : OwnM f w e ao cap l) : Shows w ao (l.map f) := Own.shows h
theorem OwnM.tail {x : α} (h : OwnM f w e ao cap (x :: l)) : ∃ g, ao = some ⟨g, 0, none⟩ ∧ (l ≠ [] → 1 < cap) ∧ Shows w (some ⟨g, 1, none⟩) (l.map f) := by
  obtain ⟨g, rfl, _⟩ := h.at' (j := 0) (by simp)
  refine ⟨g, rfl, fun hl => ?_, ?_⟩
  · have := h.le
    have := List.length_pos_iff.2 hl
    simp at *
    omega
  · intro j u hj
    obtain ⟨ad, e1, e2⟩ := h.shows (j + 1) u (by simpa using hj)
    cases e1
    refine ⟨_, rfl, ?_⟩
    rw [Addr.add_lit] at e2 ⊢
    rw [show 1 + j = 0 + (j + 1) by omega]
    exact e2
theorem shows_one {g : Nat} {t : TypeId} {z : Nat × Nat} {x : α} (h : w.heap[g]? = some (.cells #[f x] t z)) : Shows w (some ⟨g, 0, none⟩) ([x].map f) := by
  intro j u hj
  refine ⟨_, rfl, ?_⟩
  rw [Addr.add_lit, cell_of_block h, Nat.zero_add, ← hj]
  simp
theorem Shows.nil (w : World) (ao : Option Addr) : Shows w ao [] := fun j u hj => by simp at hj
theorem OwnM.one {g : Nat} {x : α} (h : w.heap[g]? = some (.cells #[f x] e (0, 0))) : OwnM f w e (some ⟨g, 0, none⟩) 1 [x] :=
  Own.new (sz := 1) (n := 1) h (.inl rfl) (by simp) (by unfold maxLen; omega)
/-- append to such a row. -/
theorem wpl_appM {P : Program} {ops : Array Oper} {rest : List Oper} {a : Act} {Q : Exit → Act → World → Prop} {dst : Option Tmp} {ty : TypeId} {pos : String} {after : Array Edge} (s x : Operand) (t : TypeId)
    (z : Value) (bytes : Nat) (ht : P.underlying t = some (.slice e)) (hi : (P.info? e).map (fun i => (i.zero, i.size, i.bytes)) = some (some z, 1, bytes)) (hzs : z.cells.size = 1) (h1 : ∀ x, (f x).oneCell' = true)
    (n : Nat) (xs : List α) (hs : a.eval s = .slice ao n cap) (hn : xs.length = n) (hown : OwnM f w e ao cap xs)
    (so : Option Addr) (m c : Nat) (ys : List α) (hx : a.eval x = .slice so m c) (hm : ys.length = m) (hsh : Shows w so (ys.map f)) (hb : (n + m) * bytes ≤ 140737488355328) (hb2 : n + m ≤ 140737488355328)
    (h : ∀ ao' cap' w', OwnM f w' e ao' cap' (xs ++ ys) → Mod (blk ao) w w' → SameOrNew w w' ao ao' → wpList P ops Q rest (a.put dst (.slice ao' (n + m) cap')) w') :
    wpList P ops Q (⟨dst, .call { callee := .builtin .append, args := #[s, x], argTypes := #[t, t] }, ty, pos, after, none⟩ :: rest) a w := by
  obtain ⟨i0, hi, hz0, hz1, hz2⟩ := info_parts hi
  subst hn hm
  refine wpl_append w rfl s x t rfl e i0 z 1 bytes ht hi hz0 hz1 hz2 hzs (by decide) ao _ cap _ hs hown so _ c (ys.map f) hx (by simp) hsh ?_ (by unfold maxLen; omega) hb ?_
  · intro u hu
    obtain ⟨x, _, rfl⟩ := List.mem_map.1 hu
    exact h1 x
  · intro ao' cap' w' h1 h2 h3
    refine h ao' cap' w' ?_ h2 h3
    unfold OwnM
    rw [List.length_append, List.map_append]
    exact h1
end
/-- Two rows lie apart. -/
def Dis (x y : Option Addr) : Prop := ∀ j, j ∈ blk x → j ∉ blk y
theorem Dis.symm {x y : Option Addr} (h : Dis x y) : Dis y x := fun j hj hk => h j hk hj
theorem Dis.new {x x' y : Option Addr} {w w' : World} (h : Dis x y) (s : SameOrNew w w' x x') (hl : ∀ j, j ∈ blk y → j < w.heap.size) : Dis x' y := fun j hj hk => by
  rcases s.blk j hj with h1 | h1
  · exact h j h1 hk
  · have := hl j hk; omega
theorem Dis.fresh {x y : Option Addr} {B : Nat} (h : ∀ j, j ∈ blk x → B ≤ j) (hl : ∀ j, j ∈ blk y → j < B) : Dis x y := fun j hj hk => by
  have := h j hj; have := hl j hk; omega
theorem off_new {g : Nat} {x x' : Option Addr} {w w' : World} (h : g ∉ blk x) (s : SameOrNew w w' x x') (hl : g < w.heap.size) : g ∉ blk x' := fun hj => by
  rcases s.blk g hj with h1 | h1
  · exact h h1
  · omega
theorem Dis.sing {g : Nat} {y : Option Addr} (h : Dis (some ⟨g, 0, none⟩) y) : g ∉ blk y := h g (by simp [blk])
end Go.Proofs.Ytgneigdcgfiooaa
/- Regions that draw their order, in two phases: till one operation comes up fewer blocks are written than behind it. So a load of a cell that the region itself writes later is taken first. Over any program. -/
namespace Go.Proofs.Ytgneigdcgfiooaa
open Go Go.RowKit Go.Lib

section
variable {P : Program} {ops : Array Oper} {Q : Exit → Act → World → Prop} {md : Region.Mode}

/-- Whatever order is picked from here on, and S holds, of what has come up and the world, behind each operation. -/
def wpAnyL (P : Program) (md : Region.Mode) (ops : Array Oper) (Q : Exit → Act → World → Prop) (S : Array Bool → World → Prop) : Nat → Array Bool → Act → World → Prop
  | 0, listed, a, w => Region.ready md ops listed = [] ∧ Q .normal a w
  | fuel + 1, listed, a, w =>
    (Region.ready md ops listed = [] → Q .normal a w) ∧
    ∀ i ∈ Region.ready md ops listed, wpOp P ops Q i (fun a' w' => S (listed.setIfInBounds i true) w' ∧ wpAnyL P md ops Q S fuel (listed.setIfInBounds i true) a' w') a w

theorem wpAny_of_L {S : Array Bool → World → Prop} : ∀ (fuel : Nat) (listed : Array Bool) (a : Act) (w : World), wpAnyL P md ops Q S fuel listed a w → wpAny P md ops Q fuel listed a w
  | 0, _, _, _, h => h
  | fuel + 1, _, _, _, h => ⟨h.1, fun i hi => wpOp_mono (fun a' w' h' => wpAny_of_L fuel _ a' w' h'.2) (h.2 i hi)⟩

theorem wpAnyL_weaken {S S' : Array Bool → World → Prop} (hs : ∀ ls w, S' ls w → S ls w) : ∀ (fuel : Nat) (listed : Array Bool) (a : Act) (w : World), wpAnyL P md ops Q S' fuel listed a w → wpAnyL P md ops Q S fuel listed a w
  | 0, _, _, _, h => h
  | fuel + 1, _, _, _, h => ⟨h.1, fun i hi => wpOp_mono (fun a' w' h' => ⟨hs _ _ h'.1, wpAnyL_weaken hs fuel _ a' w' h'.2⟩) (h.2 i hi)⟩

theorem wpAnyL_of_H {m : Nat} {S : Array Bool → World → Prop} {S' : World → Prop} (hs : ∀ ls w, ls.getD m true = true → S' w → S ls w) :
    ∀ (fuel : Nat) (listed : Array Bool) (a : Act) (w : World), listed.getD m true = true → wpAnyH P md ops Q S' fuel listed a w → wpAnyL P md ops Q S fuel listed a w
  | 0, _, _, _, _, h => h
  | fuel + 1, listed, _, _, hl, h => ⟨h.1, fun i hi => wpOp_mono (fun a' w' h' => by
      have hl' : (listed.setIfInBounds i true).getD m true = true := by
        by_cases hij : i = m
        · subst hij
          rcases Nat.lt_or_ge i listed.size with h | h
          · simp [h]
          · simp [h]
        · rw [getD_set_ne true hij]; exact hl
      exact ⟨hs _ _ hl' h'.1, wpAnyL_of_H hs fuel _ a' w' hl' h'.2⟩) (h.2 i hi)⟩

theorem wpAnyL_first {S : Array Bool → World → Prop} {T : World → Prop} {inv : Array Bool → Prop} {i : Nat} {oi : Oper} {v : Value} (hi : ops[i]? = some oi) (hsel : ∀ (j : Nat) (o : Oper) cs b, ops[j]? = some o → o.op ≠ .select cs b)
    (hQ : ∀ c a w, Q (.panic c) (a.put oi.dst v) w → Q (.panic c) a w)
    (hinv : ∀ ls j, inv ls → i ∈ Region.ready md ops ls → j ∈ Region.ready md ops ls → j ≠ i → inv (ls.setIfInBounds j true))
    (hSi : ∀ ls w, S (ls.setIfInBounds i true) w → S ls w) (hSo : ∀ ls w, S ls w → S (ls.setIfInBounds i true) w) (hT : ∀ ls w, inv ls → S ls w → T w) :
    ∀ (fuel : Nat) (listed : Array Bool) (a : Act) (w : World),
      (∀ j oj, ops[j]? = some oj → j ≠ i → listed.getD j true = false → (∀ e ∈ oj.after, Region.binds md e = true → e.on ≠ i) → oi.apart ops oj = true) →
      i ∈ Region.ready md ops listed → YieldsIf P ops T oi v a → inv listed → S listed w →
      wpAnyL P md ops Q S fuel (listed.setIfInBounds i true) (a.put oi.dst v) w → wpAnyL P md ops Q S (fuel + 1) listed a w := by
  intro fuel
  induction fuel with
  | zero =>
    intro listed a w _ hr hy hn hS H
    refine ⟨fun h => (by rw [h] at hr; cases hr), fun j hj => ?_⟩
    by_cases hji : j = i
    · subst hji; exact hy.wpOp hi (hT _ _ hn hS) ⟨hSo _ _ hS, H⟩
    · have := ready_mono hj hji
      rw [H.1] at this
      cases this
  | succ fuel ih =>
    intro listed a w hfree hr hy hn hS H
    refine ⟨fun h => (by rw [h] at hr; cases hr), fun j hj => ?_⟩
    by_cases hji : j = i
    · subst hji; exact hy.wpOp hi (hT _ _ hn hS) ⟨hSo _ _ hS, H⟩
    · have h1 := H.2 j (ready_mono hj hji)
      obtain ⟨hjun, oj, hoj, hall⟩ := mem_ready.1 hj
      have hnot : ∀ e ∈ oj.after, Region.binds md e = true → e.on ≠ i := fun e he hb heq => by
        have h1 := hall e he hb
        have h0 := (mem_ready.1 hr).1
        rw [heq] at h1
        rcases Nat.lt_or_ge i listed.size with h' | h'
        · simp [h'] at h0 h1; rw [h0] at h1; cases h1
        · simp [Array.getElem?_eq_none h'] at h1
      have h2 := wpOp_putIf hoj (hfree j oj hoj hji hjun hnot) (fun cs b => hsel i oi cs b hi) (fun cs b => hsel j oj cs b hoj) hQ hy h1
      have hfree' : ∀ k ok, ops[k]? = some ok → k ≠ i → (listed.setIfInBounds j true).getD k true = false →
          (∀ e ∈ ok.after, Region.binds md e = true → e.on ≠ i) → oi.apart ops ok = true := fun k ok hk hki hun hno => by
        refine hfree k ok hk hki ?_ hno
        by_cases hjk : j = k
        · subst hjk; exact hjun
        · rw [getD_set_ne true hjk] at hun; exact hun
      refine wpOp_mono (fun a' w' h3 => ?_) h2
      obtain ⟨h3, h4, h5⟩ := h3
      rw [← Array.setIfInBounds_comm _ _ hji] at h4 h5
      exact ⟨hSi _ _ h4, ih (listed.setIfInBounds j true) a' w' hfree' (ready_mono hr (Ne.symm hji)) h3 (hinv _ _ hn hr hj hji) (hSi _ _ h4) h5⟩

/-- Till number m comes up at most the blocks K are written, behind it at most K2. -/
def Phase (m : Nat) (K K2 : List Nat) (w : World) (ls : Array Bool) (w' : World) : Prop := Mod K2 w w' ∧ (ls.getD m true = false → Mod K w w')
def RestU (P : Program) (md : Region.Mode) (ops : Array Oper) (Q : Exit → Act → World → Prop) (m : Nat) (K K2 : List Nat) (fuel : Nat) (listed : Array Bool) (a : Act) (w : World) : Prop :=
  wpAnyL P md ops Q (Phase m K K2 w) fuel listed a w

theorem restu_start {id : Nat} {a : Act} {w : World} (m : Nat) (K K2 : List Nat) (n : Nat) (L : Array Bool) (hn : ops.size = n) (hL : Array.replicate n false = L) (hm : P.follows .mixedOrders = true)
    (h : ∀ w1, Mod [] w w1 → RestU P .any ops Q m K K2 n L a w1) : (Code.region id ops true).wp P Q a w := by
  subst hn hL
  exact wp_region_any hm (wpAny_of_L _ _ _ _ (h w.drew (Mod.drew _ _)))

theorem phase_set {m i : Nat} {K K2 : List Nat} {w : World} (hne : (i == m) = false) (ls : Array Bool) (w' : World) : Phase m K K2 w (ls.setIfInBounds i true) w' ↔ Phase m K K2 w ls w' := by
  unfold Phase
  rw [getD_set_ne true (by simpa using hne)]

/-- Number m waits for number i. -/
def waits (md : Region.Mode) (ops : Array Oper) (m i : Nat) : Bool := match ops[m]? with
  | some o => o.after.any fun e => Region.binds md e && e.on == i
  | none => false

/-- Each of the numbers D waits for number i, or for another one of D. -/
def chain (md : Region.Mode) (ops : Array Oper) (i : Nat) (D : List Nat) : Bool := D.all fun d => waits md ops d i || D.any fun d' => waits md ops d d'
/-- All that wait for number i, in one step or in more. -/
def descs (md : Region.Mode) (ops : Array Oper) (i : Nat) : List Nat := (List.range ops.size).foldl (fun acc d => if waits md ops d i || acc.any (fun d' => waits md ops d d') then acc ++ [d] else acc) []

theorem waits_not {j d : Nat} {ls : Array Bool} (hw : waits md ops j d = true) (hd : ls.getD d true = false) : j ∉ Region.ready md ops ls := by
  intro hj
  unfold waits at hw
  obtain ⟨_, oj, hoj, hall⟩ := mem_ready.1 hj
  rw [hoj] at hw
  obtain ⟨e, he, hb⟩ := Array.any_eq_true'.1 hw
  simp only [Bool.and_eq_true, beq_iff_eq] at hb
  have h1 := hall e he hb.1
  rw [hb.2] at h1
  rcases Nat.lt_or_ge d ls.size with h' | h'
  · simp [h'] at hd h1; rw [hd] at h1; cases h1
  · simp [Array.getElem?_eq_none h'] at h1

theorem restu_earlytake {m : Nat} {K K2 : List Nat} {i : Nat} (D : List Nat) {oi : Oper} {v : Value} {fuel : Nat} {listed : Array Bool} {a : Act} {w : World} (hi : ops[i]? = some oi)
    (hs : Region.noSelect ops = true) (hf : Region.free md ops listed i = true) (hr : (Region.ready md ops listed).contains i = true) (hne : (i == m) = false) (hD : chain md ops i D = true) (hmD : D.contains m = true) (hun : D.all (fun d => !listed.getD d true) = true)
    (hQ : ∀ c a w, Q (.panic c) (a.put oi.dst v) w → Q (.panic c) a w) (hy : YieldsIf P ops (Mod K w) oi v a)
    (h : RestU P md ops Q m K K2 fuel (listed.setIfInBounds i true) (a.put oi.dst v) w) : RestU P md ops Q m K K2 (fuel + 1) listed a w := by
  refine wpAnyL_first (T := Mod K w) (inv := fun ls => ∀ d ∈ D, ls.getD d true = false) hi (Region.noSelect_spec hs) hQ ?_ (fun ls w' => (phase_set hne ls w').1) (fun ls w' => (phase_set hne ls w').2) (fun ls w' h1 h2 => h2.2 (h1 m (by simpa using hmD)))
    fuel listed a w (Region.free_spec hi hf) (by simpa using hr) hy (by simpa using hun) ⟨Mod.refl _ _, fun _ => Mod.refl _ _⟩ h
  intro ls j hn hir hj hji d hd
  by_cases hjd : j = d
  · subst hjd
    have h1 := List.all_eq_true.1 hD j hd
    rw [Bool.or_eq_true] at h1
    rcases h1 with h1 | h1
    · exact absurd hj (waits_not h1 (mem_ready.1 hir).1)
    · obtain ⟨d', hd', hw⟩ := List.any_eq_true.1 h1
      exact absurd hj (waits_not hw (hn d' hd'))
  · rw [getD_set_ne true hjd]
    exact hn d hd
theorem restu_early {m : Nat} {K K2 : List Nat} {i : Nat} (D : List Nat) {dst : Option Tmp} {op : Op} {ty : TypeId} {pos : String} {after : Array Edge} {gd : Option (Nat × Bool)} {v : Value} {fuel : Nat} {listed : Array Bool} {a : Act} {w : World} (hi : ops[i]? = some ⟨dst, op, ty, pos, after, gd⟩)
    (hs : Region.noSelect ops = true) (hf : Region.free md ops listed i = true) (hr : (Region.ready md ops listed).contains i = true) (hne : (i == m) = false) (hD : chain md ops i D = true) (hmD : D.contains m = true) (hun : D.all (fun d => !listed.getD d true) = true)
    (hQ : ∀ c a w, Q (.panic c) (a.put dst v) w → Q (.panic c) a w) (hw : Region.wanted ⟨dst, op, ty, pos, after, gd⟩ (yielded ops a.tmps) = true)
    (hy : ∀ w', Mod K w w' → (execOp a.eval ⟨dst, op, ty, pos, after, gd⟩).run P w' = .ok (.value v) w')
    (h : RestU P md ops Q m K K2 fuel (listed.setIfInBounds i true) (a.put dst v) w) : RestU P md ops Q m K K2 (fuel + 1) listed a w :=
  restu_earlytake D hi hs hf hr hne hD hmD hun hQ (Or.inl ⟨hw, hy⟩) h
theorem restu_take {m : Nat} {K K2 : List Nat} {i : Nat} {oi : Oper} {v : Value} {fuel : Nat} {listed : Array Bool} {a : Act} {w : World} (hi : ops[i]? = some oi)
    (hs : Region.noSelect ops = true) (hf : Region.free md ops listed i = true) (hr : (Region.ready md ops listed).contains i = true) (hne : (i == m) = false)
    (hQ : ∀ c a w, Q (.panic c) (a.put oi.dst v) w → Q (.panic c) a w) (hy : YieldsIf P ops (Mod K2 w) oi v a)
    (h : RestU P md ops Q m K K2 fuel (listed.setIfInBounds i true) (a.put oi.dst v) w) : RestU P md ops Q m K K2 (fuel + 1) listed a w :=
  wpAnyL_first (T := Mod K2 w) (inv := fun _ => True) hi (Region.noSelect_spec hs) hQ (fun _ _ _ _ _ _ => trivial) (fun ls w' => (phase_set hne ls w').1) (fun ls w' => (phase_set hne ls w').2) (fun ls w' _ h2 => h2.1)
    fuel listed a w (Region.free_spec hi hf) (by simpa using hr) hy trivial ⟨Mod.refl _ _, fun _ => Mod.refl _ _⟩ h
theorem restu_got {m : Nat} {K K2 : List Nat} {i : Nat} {dst : Option Tmp} {op : Op} {ty : TypeId} {pos : String} {after : Array Edge} {gd : Option (Nat × Bool)} {v : Value} {fuel : Nat} {listed : Array Bool} {a : Act} {w : World} (hi : ops[i]? = some ⟨dst, op, ty, pos, after, gd⟩)
    (hs : Region.noSelect ops = true) (hf : Region.free md ops listed i = true) (hr : (Region.ready md ops listed).contains i = true) (hne : (i == m) = false)
    (hQ : ∀ c a w, Q (.panic c) (a.put dst v) w → Q (.panic c) a w) (hw : Region.wanted ⟨dst, op, ty, pos, after, gd⟩ (yielded ops a.tmps) = true)
    (hy : ∀ w', Mod K2 w w' → (execOp a.eval ⟨dst, op, ty, pos, after, gd⟩).run P w' = .ok (.value v) w')
    (h : RestU P md ops Q m K K2 fuel (listed.setIfInBounds i true) (a.put dst v) w) : RestU P md ops Q m K K2 (fuel + 1) listed a w :=
  restu_take hi hs hf hr hne hQ (Or.inl ⟨hw, hy⟩) h
theorem restu_skip {m : Nat} {K K2 : List Nat} {i : Nat} {dst : Option Tmp} {op : Op} {ty : TypeId} {pos : String} {after : Array Edge} {gd : Option (Nat × Bool)} {fuel : Nat} {listed : Array Bool} {a : Act} {w : World} (hi : ops[i]? = some ⟨dst, op, ty, pos, after, gd⟩)
    (hs : Region.noSelect ops = true) (hf : Region.free md ops listed i = true) (hr : (Region.ready md ops listed).contains i = true) (hne : (i == m) = false)
    (hQ : ∀ c a w, Q (.panic c) (a.put dst undef) w → Q (.panic c) a w) (hw : Region.wanted ⟨dst, op, ty, pos, after, gd⟩ (yielded ops a.tmps) = false)
    (h : RestU P md ops Q m K K2 fuel (listed.setIfInBounds i true) (a.put dst undef) w) : RestU P md ops Q m K K2 (fuel + 1) listed a w :=
  restu_take hi hs hf hr hne hQ (Or.inr ⟨hw, rfl⟩) h

/-- The way back into the region behind an operation that is not number m; behind number m. -/
def BackU (P : Program) (md : Region.Mode) (ops : Array Oper) (Q : Exit → Act → World → Prop) (m : Nat) (K K2 : List Nat) (w : World) (fuel : Nat) (listed : Array Bool) : Exit → Act → World → Prop := fun e a1 w1 =>
  match e with
  | .normal => Phase m K K2 w listed w1 ∧ wpAnyL P md ops Q (Phase m K K2 w) fuel listed a1 w1
  | e => Q e a1 w1
theorem backu_to {m : Nat} {K K2 K' K2' : List Nat} {w w1 : World} {a1 : Act} {fuel : Nat} {listed : Array Bool} (hm : Mod K w w1) (hkk : ∀ k, k ∈ K → k ∈ K2) (hk : ∀ k, k ∈ K' → k < w.heap.size → k ∈ K) (hk2 : ∀ k, k ∈ K2' → k < w.heap.size → k ∈ K2)
    (h : RestU P md ops Q m K' K2' fuel listed a1 w1) : BackU P md ops Q m K K2 w fuel listed .normal a1 w1 :=
  ⟨⟨hm.weaken hkk, fun _ => hm⟩, wpAnyL_weaken (fun _ _ hw => ⟨(hm.weaken hkk).trans hw.1 hk2, fun hl => hm.trans (hw.2 hl) hk⟩) _ _ _ _ h⟩
theorem backm_to {m : Nat} {K K2 K1 : List Nat} {w w1 : World} {a1 : Act} {fuel : Nat} {listed : Array Bool} (hl : listed.getD m true = true) (hm : Mod K2 w w1) (hk : ∀ k, k ∈ K1 → k < w.heap.size → k ∈ K2)
    (h : Rest P md ops Q K1 fuel listed a1 w1) : BackU P md ops Q m K K2 w fuel listed .normal a1 w1 :=
  ⟨⟨hm, fun h => by rw [hl] at h; cases h⟩, wpAnyL_of_H (fun ls w' h1 h2 => ⟨hm.trans h2 hk, fun h => by rw [h1] at h; cases h⟩) _ _ _ _ hl h⟩

theorem oneu_op {m : Nat} {K K2 : List Nat} {i : Nat} {dst : Option Tmp} {op : Op} {ty : TypeId} {pos : String} {after : Array Edge} {gd : Option (Nat × Bool)} {fuel : Nat} {listed : Array Bool} {a : Act} {w : World} (ho : ops[i]? = some ⟨dst, op, ty, pos, after, gd⟩)
    (hw : Region.wanted ⟨dst, op, ty, pos, after, gd⟩ (yielded ops a.tmps) = true)
    (h : wpList P ops (BackU P md ops Q m K K2 w fuel (listed.setIfInBounds i true)) [⟨dst, op, ty, pos, after, none⟩] a w) :
    wpOp P ops Q i (fun a' w' => Phase m K K2 w (listed.setIfInBounds i true) w' ∧ wpAnyL P md ops Q (Phase m K K2 w) fuel (listed.setIfInBounds i true) a' w') a w := by
  unfold wpOp
  simp only [ho]
  rw [if_pos hw]
  have hwn : Region.wanted ⟨dst, op, ty, pos, after, none⟩ (yielded ops a.tmps) = true := rfl
  unfold wpList at h
  rw [if_pos hwn] at h
  refine h.imp (fun h => ?_) id
  have h : Oper.upon P ⟨dst, op, ty, pos, after, gd⟩ a (wpList P ops (BackU P md ops Q m K K2 w fuel (listed.setIfInBounds i true)) []) (BackU P md ops Q m K K2 w fuel (listed.setIfInBounds i true)) ((execOp a.eval ⟨dst, op, ty, pos, after, gd⟩).run P w) := h
  unfold Oper.wp
  generalize (execOp a.eval ⟨dst, op, ty, pos, after, gd⟩).run P w = r at *
  cases r with
  | ok n w' =>
    cases n <;> simp only [Oper.upon] at h ⊢ <;>
      first
        | exact Calls.mono h (fun e w'' he => by cases e <;> exact he)
        | exact Rows.mono h (fun _ _ he => he)
        | exact h
  | halt x w' => cases x <;> simp only [Oper.upon] at h ⊢ <;> exact h

theorem restu_one {m : Nat} {K K2 : List Nat} {i : Nat} {dst : Option Tmp} {op : Op} {ty : TypeId} {pos : String} {after : Array Edge} {gd : Option (Nat × Bool)} {fuel : Nat} {listed : Array Bool} {a : Act} {w : World} (hr : Region.ready md ops listed = [i]) (ho : ops[i]? = some ⟨dst, op, ty, pos, after, gd⟩)
    (hw : Region.wanted ⟨dst, op, ty, pos, after, gd⟩ (yielded ops a.tmps) = true)
    (h : wpList P ops (BackU P md ops Q m K K2 w fuel (listed.setIfInBounds i true)) [⟨dst, op, ty, pos, after, none⟩] a w) : RestU P md ops Q m K K2 (fuel + 1) listed a w := by
  refine ⟨fun h0 => (by rw [hr] at h0; cases h0), ?_⟩
  intro j hj
  rw [hr] at hj
  simp only [List.mem_singleton] at hj
  subst hj
  exact oneu_op ho hw h
end
end Go.Proofs.Ytgneigdcgfiooaa
/- Rows of numbers of 32 bits that are sorted: how they lie, what a swap leaves; cmp.Less. -/
namespace Go.Proofs.Ytgneigdcgfiooaa
open Go Go.RowKit Go.Lib

def u32V (n : Nat) : Value := .int .u32 (n : Int)
def ltN (x y : Nat) : Bool := decide (x < y)
theorem ltN_swo : Sort.SWO ltN := by
  refine ⟨fun x => by simp [ltN], fun x y z h1 h2 => ?_, fun x y z h1 h2 => ?_⟩
  · simp only [ltN, decide_eq_true_eq] at *
    omega
  · simp only [ltN, decide_eq_false_iff_not] at *
    omega
/-- A row of numbers in block g. -/
def Row (w : World) (g cap : Nat) (d : Array Nat) : Prop := OwnM u32V w 23 (some ⟨g, 0, none⟩) cap d.toList
section
variable {w w' : World} {g cap : Nat} {d : Array Nat}
theorem Row.mod {S : List Nat} (h : Row w g cap d) (hm : Mod S w w') (hn : g ∉ S) : Row w' g cap d := OwnM.mod h hm (fun k hk hk2 => by
  simp only [blk, List.mem_singleton] at hk
  subst hk
  exact hn hk2)
theorem Row.mod0 (h : Row w g cap d) (hm : Mod [] w w') : Row w' g cap d := h.mod hm List.not_mem_nil
theorem Row.le (h : Row w g cap d) : d.size ≤ cap := by have := OwnM.le h; simpa using this
theorem Row.lt (h : Row w g cap d) : g < w.heap.size := OwnM.lt h g (by simp [blk])
theorem Row.at' (h : Row w g cap d) {i : Nat} (hi : i < d.size) : w.cell? ⟨g, i, none⟩ = some (.int .u32 ((d[i]! : Nat) : Int)) ∧ w.frozen? ⟨g, i, none⟩ = false := by
  obtain ⟨g', e, h1, h2⟩ := OwnM.at' h (j := i) (by simpa using hi)
  cases e
  refine ⟨?_, h2⟩
  rw [h1]
  simp [u32V, hi]
theorem Row.cell (h : Row w g cap d) {i x : Nat} (hi : i < d.size) (hx : d[i]! = x) : w.cell? ⟨g, i, none⟩ = some (.int .u32 (x : Int)) := by rw [← hx]; exact (h.at' hi).1
theorem Row.set (h : Row w g cap d) (i x : Nat) : Row (w.setCell ⟨g, i, none⟩ (.int .u32 (x : Int))) g cap (d.setIfInBounds i x) := by
  have := OwnM.set (j := i) h x
  unfold Row
  rw [Array.toList_setIfInBounds]
  exact this
theorem size_swp (d : Array Nat) (i j : Nat) : (Sort.swp d i j).size = d.size := by simp [Sort.swp]
theorem Row.swp (h : Row w g cap d) {i j x y : Nat} (hx : d[i]! = x) (hy : d[j]! = y) :
    Row ((w.setCell ⟨g, i, none⟩ (.int .u32 (y : Int))).setCell ⟨g, j, none⟩ (.int .u32 (x : Int))) g cap (Sort.swp d i j) := by
  subst hx hy
  exact (h.set i _).set j _
end
/-- What such a function leaves. -/
def SortR (w : World) (g cap : Nat) (d : Array Nat) (e : Ending) (w' : World) : Prop := e = .returned (.tuple #[]) ∧ Row w' g cap d ∧ Mod [g] w w'
theorem isNaN_any (x : Nat) (w : World) : Calls Try.prog 51 #[.int .u32 (x : Int)] w fun e w' => e = .returned (.bool false) ∧ w' = w := by
  have e : ((x : Int) != (x : Int)) = false := by simp
  go_enter Try.func51, Try.ntmps51
  go_wp2
  go_ret
  exact ⟨rfl, rfl⟩
theorem less_any (x y : Nat) (bl : Bool) (hb : ltN x y = bl) (w : World) : Calls Try.prog 41 #[.int .u32 (x : Int), .int .u32 (y : Int)] w fun e w' => e = .returned (.bool bl) ∧ w' = w := by
  have e1 : decide (x < y) = bl := hb
  have e2 : decide ((x : Int) < (y : Int)) = bl := by rw [← e1]; exact decide_eq_decide.2 (by omega)
  clear hb
  go_enter Try.func41, Try.ntmps41
  go_wp2_with fail
  refine (isNaN_any x w).mono ?_
  rintro e w1 ⟨rfl, rfl⟩
  cases bl
  · go_wp2
    go_ret
    exact ⟨rfl, rfl⟩
  · go_wp2
    go_ret
    exact ⟨rfl, rfl⟩
end Go.Proofs.Ytgneigdcgfiooaa
/- insertionSortOrdered at uint32. -/
namespace Go.Proofs.Ytgneigdcgfiooaa
open Go Go.RowKit Go.Lib

theorem insInner_go {a j : Nat} {d : Array Nat} (h : a < j + 1) (hl : ltN d[j + 1]! d[j]! = true) : Sort.insInner ltN a (j + 1) d = Sort.insInner ltN a j (Sort.swp d (j + 1) j) := by
  rw [Sort.insInner, if_pos (by simp [h, hl])]
theorem insInner_stop {a j : Nat} {d : Array Nat} (hl : ltN d[j + 1]! d[j]! = false) : Sort.insInner ltN a (j + 1) d = d := by
  rw [Sort.insInner, if_neg (by simp [hl])]
theorem insInner_at {a : Nat} {d : Array Nat} : Sort.insInner ltN a a d = d := by
  cases a with
  | zero => rfl
  | succ a => rw [Sort.insInner, if_neg (by simp)]
theorem insOuter_go {a b i : Nat} {d : Array Nat} (h : i < b) : Sort.insOuter ltN a b i d = Sort.insOuter ltN a b (i + 1) (Sort.insInner ltN a i d) := by
  rw [Sort.insOuter, if_pos h]
theorem insOuter_stop {a b i : Nat} {d : Array Nat} (h : ¬ i < b) : Sort.insOuter ltN a b i d = d := by
  rw [Sort.insOuter, if_neg h]
set_option maxRecDepth 100000 in
set_option maxHeartbeats 8000000 in
theorem ins_any (g cap n a b : Nat) (d : Array Nat) (w : World) (hr : Row w g cap d) (hn : d.size = n) (hab : a ≤ b) (hb : b ≤ n) (hd : n ≤ 1000000) :
    Calls Try.prog 35 #[.slice (some ⟨g, 0, none⟩) n cap, .int .i64 (a : Int), .int .i64 (b : Int)] w (SortR w g cap (Sort.insertionSort ltN d a b)) := by
  have HR0 := Lib.hid hr
  obtain ⟨D, hD⟩ : ∃ x, Sort.insertionSort ltN d a b = x := ⟨_, rfl⟩
  have HD0 : Hid (Sort.insOuter ltN a b (a + 1) d = D) := Lib.hid hD
  have HN0 := Lib.hid hn
  rw [hD]
  unfold SortR
  clear hr hD hn
  go_enter Try.func35, Try.ntmps35
  go_wp2
  go_loopw [6, 7] (fun s6 _ wr => ∃ (i : Nat) (d1 : Array Nat), a + 1 ≤ i ∧ s6 = .int .i64 (i : Int) ∧ Row wr g cap d1 ∧ d1.size = n ∧ Sort.insOuter ltN a b i d1 = D ∧ Mod [g] w wr) (fun s6 _ _ => b - (RowKit.intOf s6).toNat)
  case atStart => exact ⟨a + 1, d, Nat.le_refl _, by go_num, HR0.out, HN0.out, HD0.out, Mod.refl _ _⟩
  case round =>
    obtain ⟨i, d1, hai, rfl, hR, hn, hD, hm⟩ := hrel
    have HR := Lib.hid hR
    have HN := Lib.hid hn
    have HD := Lib.hid hD
    have HM := Lib.hid hm
    clear hR hn hD hm
    by_cases hib : i < b
    · have HDI : Hid (Sort.insOuter ltN a b (i + 1) (Sort.insInner ltN a i d1) = D) := Lib.hid (by rw [← insOuter_go hib]; exact HD.out)
      obtain ⟨D2, hD2⟩ : ∃ x, Sort.insInner ltN a i d1 = x := ⟨_, rfl⟩
      rw [hD2] at HDI
      have HD2 := Lib.hid hD2
      clear hD2 HD
      go_wp2
      go_loopw [7] (fun s7 wq => ∃ (j : Nat) (d2 : Array Nat), a ≤ j ∧ j ≤ i ∧ s7 = .int .i64 (j : Int) ∧ Row wq g cap d2 ∧ d2.size = n ∧ Sort.insInner ltN a j d2 = D2 ∧ Mod [g] wr wq) (fun s7 _ => (RowKit.intOf s7).toNat)
      case atStart => exact ⟨i, d1, by omega, Nat.le_refl _, rfl, HR.out, HN.out, HD2.out, Mod.refl _ _⟩
      case round =>
        rename World => wq
        obtain ⟨j, d2, haj, hji, rfl, hR2, hn2, hD3, hm2⟩ := hrel
        have HR2 := Lib.hid hR2
        have HN2 := Lib.hid hn2
        have HD3 := Lib.hid hD3
        have HM2 := Lib.hid hm2
        clear hR2 hn2 hD3 hm2
        by_cases hgt : a < j
        · obtain ⟨jm, rfl⟩ : ∃ k, j = k + 1 := ⟨j - 1, by omega⟩
          obtain ⟨x, hx⟩ : ∃ x, d2[jm + 1]! = x := ⟨_, rfl⟩
          obtain ⟨y, hy⟩ : ∃ x, d2[jm]! = x := ⟨_, rfl⟩
          have CX := Lib.hid (HR2.out.cell (i := jm + 1) (by rw [HN2.out]; omega) hx)
          have CY := Lib.hid (HR2.out.cell (i := jm) (by rw [HN2.out]; omega) hy)
          obtain ⟨bl, hbl⟩ : ∃ q, ltN x y = q := ⟨_, rfl⟩
          have HL := Lib.hid (less_any x y bl hbl)
          have hbl2 : ltN d2[jm + 1]! d2[jm]! = bl := by rw [hx, hy]; exact hbl
          have HT : Hid (bl = true → Sort.insInner ltN a jm (Sort.swp d2 (jm + 1) jm) = D2) := Lib.hid fun h => by rw [← insInner_go hgt (hbl2.trans h)]; exact HD3.out
          have HF : Hid (bl = false → d2 = D2) := Lib.hid fun h => (insInner_stop (hbl2.trans h)).symm.trans HD3.out
          clear hx hy hbl hbl2 HD3
          have e1 : IntKind.i64.wrap (((jm + 1 : Nat) : Int) - 1) = (jm : Int) := by rw [show ((jm + 1 : Nat) : Int) - 1 = (jm : Int) by omega]; exact IntWalk.i64_in _ (by omega)
          have DG : decide (a < jm + 1) = true := decide_eq_true (by omega)
          have B1 : ((jm + 1 : Nat) : Int) < (n : Int) := by omega
          have B2 : (jm : Int) < (n : Int) := by omega
          obtain ⟨j, hj⟩ : ∃ j, jm + 1 = j := ⟨_, rfl⟩
          rw [hj] at e1 DG B1 CX HT ⊢
          have HJ := Lib.hid hj
          clear hj
          go_upto_region 4 with (fail)
          refine rest_start [] 15 #[false, false, false, false, false, false, false, false, false, false, false, false, false, false, false] rfl (by kernel_rfl) (by kernel_rfl) ?_
          intro w6 m6
          have CX6 := Lib.hid (m6.cell CX.out List.not_mem_nil)
          have CY6 := Lib.hid (m6.cell CY.out List.not_mem_nil)
          have M6 := Lib.hid m6
          have HL6 := Lib.hid (HL.out w6)
          clear m6
          refine rest_got (i := 0) (v := ?v1) rfl (by kernel_rfl) (by kernel_rfl) (by kernel_rfl) (fun _ _ _ h => h) (by rfl) ?y1 ?r1
          case y1 => (intro w9q hSwq; clear hSwq; go_simp; with_reducible rfl)
          try simp only [Act.put, List.setIfInBounds_toArray, List.set_cons_zero, List.set_cons_succ]
          refine rest_got (i := 1) (v := ?v2) rfl (by kernel_rfl) (by kernel_rfl) (by kernel_rfl) (fun _ _ _ h => h) (by rfl) ?y2 ?r2
          case y2 => (intro w9q hSwq; clear hSwq; go_simp; with_reducible rfl)
          try simp only [Act.put, List.setIfInBounds_toArray, List.set_cons_zero, List.set_cons_succ]
          refine rest_got (i := 2) (v := ?v3) rfl (by kernel_rfl) (by kernel_rfl) (by kernel_rfl) (fun _ _ _ h => h) (by rfl) ?y3 ?r3
          case y3 => (intro w9q hSwq; clear hSwq; go_simp; with_reducible rfl)
          try simp only [Act.put, List.setIfInBounds_toArray, List.set_cons_zero, List.set_cons_succ]
          refine rest_got (i := 3) (v := ?v4) rfl (by kernel_rfl) (by kernel_rfl) (by kernel_rfl) (fun _ _ _ h => h) (by rfl) ?y4 ?r4
          case y4 => (intro w9q hSwq; clear hSwq; go_simp; with_reducible rfl)
          try simp only [Act.put, List.setIfInBounds_toArray, List.set_cons_zero, List.set_cons_succ]
          refine rest_got (i := 4) (v := ?v5) rfl (by kernel_rfl) (by kernel_rfl) (by kernel_rfl) (fun _ _ _ h => h) (by rfl) ?y5 ?r5
          case y5 => (intro w9q hSwq; clear hSwq; go_simp; with_reducible rfl)
          try simp only [Act.put, List.setIfInBounds_toArray, List.set_cons_zero, List.set_cons_succ]
          refine rest_got (i := 5) (v := ?v6) rfl (by kernel_rfl) (by kernel_rfl) (by kernel_rfl) (fun _ _ _ h => h) (by rfl) ?y6 ?r6
          case y6 => (intro w9q hSwq; clear hSwq; go_simp; with_reducible rfl)
          try simp only [Act.put, List.setIfInBounds_toArray, List.set_cons_zero, List.set_cons_succ]
          refine rest_got (i := 6) (v := ?v7) rfl (by kernel_rfl) (by kernel_rfl) (by kernel_rfl) (fun _ _ _ h => h) (by rfl) ?y7 ?r7
          case y7 => (intro w9q hSwq; clear hSwq; go_simp; with_reducible rfl)
          try simp only [Act.put, List.setIfInBounds_toArray, List.set_cons_zero, List.set_cons_succ]
          refine rest_got (i := 7) (v := ?v8) rfl (by kernel_rfl) (by kernel_rfl) (by kernel_rfl) (fun _ _ _ h => h) (by rfl) ?y8 ?r8
          case y8 => ((intro w9' hm9'; have hc9' := Mod.cell hm9' CX6.out (by first | exact List.not_mem_nil | assumption | (simp; done) | (simp; omega)); clear hm9'; go_simp; with_reducible rfl))
          try simp only [Act.put, List.setIfInBounds_toArray, List.set_cons_zero, List.set_cons_succ]
          refine rest_got (i := 8) (v := ?v9) rfl (by kernel_rfl) (by kernel_rfl) (by kernel_rfl) (fun _ _ _ h => h) (by rfl) ?y9 ?r9
          case y9 => (intro w9q hSwq; clear hSwq; go_simp; with_reducible rfl)
          try simp only [Act.put, List.setIfInBounds_toArray, List.set_cons_zero, List.set_cons_succ]
          refine rest_got (i := 9) (v := ?v10) rfl (by kernel_rfl) (by kernel_rfl) (by kernel_rfl) (fun _ _ _ h => h) (by rfl) ?y10 ?r10
          case y10 => (intro w9q hSwq; clear hSwq; go_simp; with_reducible rfl)
          try simp only [Act.put, List.setIfInBounds_toArray, List.set_cons_zero, List.set_cons_succ]
          refine rest_got (i := 10) (v := ?v11) rfl (by kernel_rfl) (by kernel_rfl) (by kernel_rfl) (fun _ _ _ h => h) (by rfl) ?y11 ?r11
          case y11 => (intro w9q hSwq; clear hSwq; go_simp; with_reducible rfl)
          try simp only [Act.put, List.setIfInBounds_toArray, List.set_cons_zero, List.set_cons_succ]
          refine rest_got (i := 11) (v := ?v12) rfl (by kernel_rfl) (by kernel_rfl) (by kernel_rfl) (fun _ _ _ h => h) (by rfl) ?y12 ?r12
          case y12 => (intro w9q hSwq; clear hSwq; go_simp; with_reducible rfl)
          try simp only [Act.put, List.setIfInBounds_toArray, List.set_cons_zero, List.set_cons_succ]
          refine rest_got (i := 12) (v := ?v13) rfl (by kernel_rfl) (by kernel_rfl) (by kernel_rfl) (fun _ _ _ h => h) (by rfl) ?y13 ?r13
          case y13 => ((intro w9' hm9'; have hc9' := Mod.cell hm9' CY6.out (by first | exact List.not_mem_nil | assumption | (simp; done) | (simp; omega)); clear hm9'; go_simp; with_reducible rfl))
          try simp only [Act.put, List.setIfInBounds_toArray, List.set_cons_zero, List.set_cons_succ]
          refine rest_one (i := 13) (by kernel_rfl) rfl (by rfl) ?_
          go_wp2_with fail
          refine HL6.out.mono ?_
          rintro e w7 ⟨rfl, rfl⟩
          go_wp2_with fail
          refine back_to (K1 := []) (Mod.refl _ _) (by simp) ?_
          clear HL6 CX6 CY6
          refine rest_got (i := 14) (v := ?v14) rfl (by kernel_rfl) (by kernel_rfl) (by kernel_rfl) (fun _ _ _ h => h) (by rfl) ?y14 ?r14
          case y14 => (intro w9q hSwq; clear hSwq; go_simp; with_reducible rfl)
          try simp only [Act.put, List.setIfInBounds_toArray, List.set_cons_zero, List.set_cons_succ]
          refine rest_done (by kernel_rfl) ?_ _
          have HR7 := Lib.hid (HR2.out.mod0 M6.out)
          have hj := HJ.out
          cases bl with
          | true =>
            have HT1 := Lib.hid (HT.out rfl)
            clear HT HF HR2 CX CY HL
            obtain ⟨xiS, hxiS⟩ : ∃ x, (d2)[j]! = x := ⟨_, rfl⟩
            obtain ⟨xjS, hxjS⟩ : ∃ x, (d2)[jm]! = x := ⟨_, rfl⟩
            have HSIS : Hid ((d2)[j]! = xiS) := Lib.hid hxiS
            have HSJS : Hid ((d2)[jm]! = xjS) := Lib.hid hxjS
            have HBIS : j < (d2).size := by rw [HN2.out]; omega
            have HBJS : jm < (d2).size := by rw [HN2.out]; omega
            clear hxiS hxjS
            go_upto_region 6 with (fail)
            refine restu_start 15 [] [g] 18 #[false, false, false, false, false, false, false, false, false, false, false, false, false, false, false, false, false, false] rfl (by kernel_rfl) (by kernel_rfl) ?_
            intro vS nS
            have RvS := Lib.hid (HR7.out.mod0 nS)
            have CiS := Lib.hid (RvS.out.cell HBIS HSIS.out)
            have CjS := Lib.hid (RvS.out.cell HBJS HSJS.out)
            have NvS := Lib.hid nS
            clear nS
            refine restu_got (i := 0) (v := ?v15) rfl (by kernel_rfl) (by kernel_rfl) (by kernel_rfl) (by rfl) (fun _ _ _ h => h) (by rfl) ?y15 ?r15
            case y15 => (intro w9q hSwq; clear hSwq; go_simp; with_reducible rfl)
            try simp only [Act.put, List.setIfInBounds_toArray, List.set_cons_zero, List.set_cons_succ]
            refine restu_got (i := 1) (v := ?v16) rfl (by kernel_rfl) (by kernel_rfl) (by kernel_rfl) (by rfl) (fun _ _ _ h => h) (by rfl) ?y16 ?r16
            case y16 => (intro w9q hSwq; clear hSwq; go_simp; with_reducible rfl)
            try simp only [Act.put, List.setIfInBounds_toArray, List.set_cons_zero, List.set_cons_succ]
            refine restu_got (i := 2) (v := ?v17) rfl (by kernel_rfl) (by kernel_rfl) (by kernel_rfl) (by rfl) (fun _ _ _ h => h) (by rfl) ?y17 ?r17
            case y17 => (intro w9q hSwq; clear hSwq; go_simp; with_reducible rfl)
            try simp only [Act.put, List.setIfInBounds_toArray, List.set_cons_zero, List.set_cons_succ]
            refine restu_got (i := 3) (v := ?v18) rfl (by kernel_rfl) (by kernel_rfl) (by kernel_rfl) (by rfl) (fun _ _ _ h => h) (by rfl) ?y18 ?r18
            case y18 => (intro w9q hSwq; clear hSwq; go_simp; with_reducible rfl)
            try simp only [Act.put, List.setIfInBounds_toArray, List.set_cons_zero, List.set_cons_succ]
            refine restu_got (i := 4) (v := ?v19) rfl (by kernel_rfl) (by kernel_rfl) (by kernel_rfl) (by rfl) (fun _ _ _ h => h) (by rfl) ?y19 ?r19
            case y19 => (intro w9q hSwq; clear hSwq; go_simp; with_reducible rfl)
            try simp only [Act.put, List.setIfInBounds_toArray, List.set_cons_zero, List.set_cons_succ]
            refine restu_got (i := 5) (v := ?v20) rfl (by kernel_rfl) (by kernel_rfl) (by kernel_rfl) (by rfl) (fun _ _ _ h => h) (by rfl) ?y20 ?r20
            case y20 => (intro w9q hSwq; clear hSwq; go_simp; with_reducible rfl)
            try simp only [Act.put, List.setIfInBounds_toArray, List.set_cons_zero, List.set_cons_succ]
            refine restu_got (i := 6) (v := ?v21) rfl (by kernel_rfl) (by kernel_rfl) (by kernel_rfl) (by rfl) (fun _ _ _ h => h) (by rfl) ?y21 ?r21
            case y21 => (intro w9q hSwq; clear hSwq; go_simp; with_reducible rfl)
            try simp only [Act.put, List.setIfInBounds_toArray, List.set_cons_zero, List.set_cons_succ]
            refine restu_got (i := 7) (v := ?v22) rfl (by kernel_rfl) (by kernel_rfl) (by kernel_rfl) (by rfl) (fun _ _ _ h => h) (by rfl) ?y22 ?r22
            case y22 => (intro w9q hSwq; clear hSwq; go_simp; with_reducible rfl)
            try simp only [Act.put, List.setIfInBounds_toArray, List.set_cons_zero, List.set_cons_succ]
            refine restu_got (i := 8) (v := ?v23) rfl (by kernel_rfl) (by kernel_rfl) (by kernel_rfl) (by rfl) (fun _ _ _ h => h) (by rfl) ?y23 ?r23
            case y23 => (intro w9q hSwq; clear hSwq; go_simp; with_reducible rfl)
            try simp only [Act.put, List.setIfInBounds_toArray, List.set_cons_zero, List.set_cons_succ]
            refine restu_early (i := 9) [14, 15, 16, 17] (v := ?v24) rfl (by kernel_rfl) (by kernel_rfl) (by kernel_rfl) (by rfl) (by kernel_rfl) (by rfl) (by kernel_rfl) (fun _ _ _ h => h) (by rfl) ?y24 ?r24
            case y24 => ((intro w9' hm9'; have hc9' := Mod.cell hm9' CjS.out (by first | exact List.not_mem_nil | assumption | (simp; done) | (simp; omega)); clear hm9'; go_simp; with_reducible rfl))
            try simp only [Act.put, List.setIfInBounds_toArray, List.set_cons_zero, List.set_cons_succ]
            refine restu_got (i := 10) (v := ?v25) rfl (by kernel_rfl) (by kernel_rfl) (by kernel_rfl) (by rfl) (fun _ _ _ h => h) (by rfl) ?y25 ?r25
            case y25 => (intro w9q hSwq; clear hSwq; go_simp; with_reducible rfl)
            try simp only [Act.put, List.setIfInBounds_toArray, List.set_cons_zero, List.set_cons_succ]
            refine restu_got (i := 11) (v := ?v26) rfl (by kernel_rfl) (by kernel_rfl) (by kernel_rfl) (by rfl) (fun _ _ _ h => h) (by rfl) ?y26 ?r26
            case y26 => (intro w9q hSwq; clear hSwq; go_simp; with_reducible rfl)
            try simp only [Act.put, List.setIfInBounds_toArray, List.set_cons_zero, List.set_cons_succ]
            refine restu_got (i := 12) (v := ?v27) rfl (by kernel_rfl) (by kernel_rfl) (by kernel_rfl) (by rfl) (fun _ _ _ h => h) (by rfl) ?y27 ?r27
            case y27 => (intro w9q hSwq; clear hSwq; go_simp; with_reducible rfl)
            try simp only [Act.put, List.setIfInBounds_toArray, List.set_cons_zero, List.set_cons_succ]
            refine restu_early (i := 13) [14, 15, 16, 17] (v := ?v28) rfl (by kernel_rfl) (by kernel_rfl) (by kernel_rfl) (by rfl) (by kernel_rfl) (by rfl) (by kernel_rfl) (fun _ _ _ h => h) (by rfl) ?y28 ?r28
            case y28 => ((intro w9' hm9'; have hc9' := Mod.cell hm9' CiS.out (by first | exact List.not_mem_nil | assumption | (simp; done) | (simp; omega)); clear hm9'; go_simp; with_reducible rfl))
            try simp only [Act.put, List.setIfInBounds_toArray, List.set_cons_zero, List.set_cons_succ]
            refine restu_got (i := 14) (v := ?v29) rfl (by kernel_rfl) (by kernel_rfl) (by kernel_rfl) (by rfl) (fun _ _ _ h => h) (by rfl) ?y29 ?r29
            case y29 => (intro w9q hSwq; clear hSwq; go_simp; with_reducible rfl)
            try simp only [Act.put, List.setIfInBounds_toArray, List.set_cons_zero, List.set_cons_succ]
            refine restu_one (i := 15) (by kernel_rfl) rfl (by rfl) ?_
            have ciS := (RvS.out.at' HBIS).1
            have fiS := (RvS.out.at' HBIS).2
            go_wp2_with fail
            have RaS := Lib.hid (RvS.out.set j xjS)
            have naS : Mod [g] vS (vS.setCell ⟨g, j, none⟩ (.int .u32 (xjS : Int))) := Mod.setCell _ _ _ (by simp)
            have NaS := Lib.hid (NvS.out.nil.trans' naS)
            have RbS := Lib.hid (RvS.out.swp HSIS.out HSJS.out)
            refine backm_to (K1 := [g]) (by kernel_rfl) naS (fun _ h _ => h) ?_
            clear naS ciS fiS CiS CjS NvS RvS
            refine rest_got (i := 16) (v := ?v30) rfl (by kernel_rfl) (by kernel_rfl) (by kernel_rfl) (fun _ _ _ h => h) (by rfl) ?y30 ?r30
            case y30 => (intro w9q hSwq; clear hSwq; go_simp; with_reducible rfl)
            try simp only [Act.put, List.setIfInBounds_toArray, List.set_cons_zero, List.set_cons_succ]
            refine rest_one (i := 17) (by kernel_rfl) rfl (by rfl) ?_
            have cjS := (RaS.out.at' (i := jm) (by rw [Array.size_setIfInBounds]; exact HBJS)).1
            have fjS := (RaS.out.at' (i := jm) (by rw [Array.size_setIfInBounds]; exact HBJS)).2
            go_wp2_with fail
            have nbS : Mod [g] (vS.setCell ⟨g, j, none⟩ (.int .u32 (xjS : Int))) ((vS.setCell ⟨g, j, none⟩ (.int .u32 (xjS : Int))).setCell ⟨g, jm, none⟩ (.int .u32 (xiS : Int))) := Mod.setCell _ _ _ (by simp)
            have MS := Lib.hid (NaS.out.trans' nbS)
            have RS := Lib.hid RbS.out
            refine back_to (K1 := []) nbS (by simp) ?_
            clear nbS cjS fjS NaS RaS RbS HSIS HSJS
            refine rest_done (by kernel_rfl) ?_ _
            go_wp2
            go_roundw
            case rel => exact ⟨jm, Sort.swp d2 j jm, by omega, by omega, by first | rfl | (congr 1; omega), RS.out, by rw [size_swp, HN2.out], HT1.out, (HM2.out.trans0 M6.out).trans' MS.out⟩
            case measure => simp [RowKit.intOf]; omega
          | false =>
            have hF := HF.out rfl
            subst hF
            clear HT HF HR2 CX CY HL
            go_wp2
            go_roundw
            case rel => exact ⟨i + 1, d2, by omega, by first | rfl | go_num, HR7.out, HN2.out, HDI.out, (HM.out.trans' HM2.out).trans0 M6.out⟩
            case measure => simp [RowKit.intOf]; omega
        · have hja : j = a := by omega
          have DG : decide (a < j) = false := decide_eq_false hgt
          have hF : d2 = D2 := by have := HD3.out; rw [hja, insInner_at] at this; exact this
          subst hF
          clear hja
          go_upto_region 4 with (fail)
          refine rest_start [] 15 #[false, false, false, false, false, false, false, false, false, false, false, false, false, false, false] rfl (by kernel_rfl) (by kernel_rfl) ?_
          intro w6 m6
          have M6 := Lib.hid m6
          have HR7 := Lib.hid (HR2.out.mod0 m6)
          clear m6
          refine rest_got (i := 0) (v := ?v31) rfl (by kernel_rfl) (by kernel_rfl) (by kernel_rfl) (fun _ _ _ h => h) (by rfl) ?y31 ?r31
          case y31 => (intro w9q hSwq; clear hSwq; go_simp; with_reducible rfl)
          try simp only [Act.put, List.setIfInBounds_toArray, List.set_cons_zero, List.set_cons_succ]
          refine rest_got (i := 1) (v := ?v32) rfl (by kernel_rfl) (by kernel_rfl) (by kernel_rfl) (fun _ _ _ h => h) (by rfl) ?y32 ?r32
          case y32 => (intro w9q hSwq; clear hSwq; go_simp; with_reducible rfl)
          try simp only [Act.put, List.setIfInBounds_toArray, List.set_cons_zero, List.set_cons_succ]
          refine rest_got (i := 2) (v := ?v33) rfl (by kernel_rfl) (by kernel_rfl) (by kernel_rfl) (fun _ _ _ h => h) (by rfl) ?y33 ?r33
          case y33 => (intro w9q hSwq; clear hSwq; go_simp; with_reducible rfl)
          try simp only [Act.put, List.setIfInBounds_toArray, List.set_cons_zero, List.set_cons_succ]
          refine rest_got (i := 3) (v := ?v34) rfl (by kernel_rfl) (by kernel_rfl) (by kernel_rfl) (fun _ _ _ h => h) (by rfl) ?y34 ?r34
          case y34 => (intro w9q hSwq; clear hSwq; go_simp; with_reducible rfl)
          try simp only [Act.put, List.setIfInBounds_toArray, List.set_cons_zero, List.set_cons_succ]
          refine rest_skip (i := 4) rfl (by kernel_rfl) (by kernel_rfl) (by kernel_rfl) (fun _ _ _ h => h) (by rfl) ?_
          try simp only [Act.put, List.setIfInBounds_toArray, List.set_cons_zero, List.set_cons_succ]
          refine rest_skip (i := 5) rfl (by kernel_rfl) (by kernel_rfl) (by kernel_rfl) (fun _ _ _ h => h) (by rfl) ?_
          try simp only [Act.put, List.setIfInBounds_toArray, List.set_cons_zero, List.set_cons_succ]
          refine rest_skip (i := 6) rfl (by kernel_rfl) (by kernel_rfl) (by kernel_rfl) (fun _ _ _ h => h) (by rfl) ?_
          try simp only [Act.put, List.setIfInBounds_toArray, List.set_cons_zero, List.set_cons_succ]
          refine rest_skip (i := 7) rfl (by kernel_rfl) (by kernel_rfl) (by kernel_rfl) (fun _ _ _ h => h) (by rfl) ?_
          try simp only [Act.put, List.setIfInBounds_toArray, List.set_cons_zero, List.set_cons_succ]
          refine rest_skip (i := 8) rfl (by kernel_rfl) (by kernel_rfl) (by kernel_rfl) (fun _ _ _ h => h) (by rfl) ?_
          try simp only [Act.put, List.setIfInBounds_toArray, List.set_cons_zero, List.set_cons_succ]
          refine rest_skip (i := 9) rfl (by kernel_rfl) (by kernel_rfl) (by kernel_rfl) (fun _ _ _ h => h) (by rfl) ?_
          try simp only [Act.put, List.setIfInBounds_toArray, List.set_cons_zero, List.set_cons_succ]
          refine rest_skip (i := 10) rfl (by kernel_rfl) (by kernel_rfl) (by kernel_rfl) (fun _ _ _ h => h) (by rfl) ?_
          try simp only [Act.put, List.setIfInBounds_toArray, List.set_cons_zero, List.set_cons_succ]
          refine rest_skip (i := 11) rfl (by kernel_rfl) (by kernel_rfl) (by kernel_rfl) (fun _ _ _ h => h) (by rfl) ?_
          try simp only [Act.put, List.setIfInBounds_toArray, List.set_cons_zero, List.set_cons_succ]
          refine rest_skip (i := 12) rfl (by kernel_rfl) (by kernel_rfl) (by kernel_rfl) (fun _ _ _ h => h) (by rfl) ?_
          try simp only [Act.put, List.setIfInBounds_toArray, List.set_cons_zero, List.set_cons_succ]
          refine rest_skip (i := 13) rfl (by kernel_rfl) (by kernel_rfl) (by kernel_rfl) (fun _ _ _ h => h) (by rfl) ?_
          try simp only [Act.put, List.setIfInBounds_toArray, List.set_cons_zero, List.set_cons_succ]
          refine rest_got (i := 14) (v := ?v35) rfl (by kernel_rfl) (by kernel_rfl) (by kernel_rfl) (fun _ _ _ h => h) (by rfl) ?y35 ?r35
          case y35 => (intro w9q hSwq; clear hSwq; go_simp; with_reducible rfl)
          try simp only [Act.put, List.setIfInBounds_toArray, List.set_cons_zero, List.set_cons_succ]
          refine rest_done (by kernel_rfl) ?_ _
          go_wp2
          go_roundw
          case rel => exact ⟨i + 1, d2, by omega, by first | rfl | go_num, HR7.out, HN2.out, HDI.out, (HM.out.trans' HM2.out).trans0 M6.out⟩
          case measure => simp [RowKit.intOf]; omega
    · have hF : d1 = D := by rw [← HD.out, insOuter_stop hib]
      subst hF
      go_wp2
      go_end0
      exact ⟨rfl, HR.out, HM.out⟩
end Go.Proofs.Ytgneigdcgfiooaa
