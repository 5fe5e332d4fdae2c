/- A range over a function whose iterator keeps its state in a cell of its own (block nb), and whose body never leaves early: what the caller owes. Over any program. -/
import Derived.Test.YtekdnljincbghaaDoorBase
import Derived.RangeFuncNested
import Derived.RangeFuncLeaves
import Derived.RangeFuncBound
import Derived.RangeFuncCalls
import Derived.Shelf.Abstract
namespace Go.Proofs.YtekdnljincbghaaDoor
open Go Go.RowKit

/-- How the body ends, going on. -/
def goesOn {α : Type} (nb : Nat) (I : List α → World → Prop) (xs : List α) (W : World) : Exit → Act → World → Prop
  | .normal, _, W' => KeepsOthers W W' ∧ W'.heap[nb]? = W.heap[nb]? ∧ I xs W'
  | _, _, _ => False

/-- The iterator's contract: it hands on xs, one by one; it turns its own block nb. -/
def Hands {α : Type} (F : Fence) (n : Nat) (P : Program) (g : Nat) (lb : Array Value) (encs : α → Array Value) (nb : Nat) (xs : List α) (w : World) : Prop :=
  ∀ (l : Nat) (J : List α → World → Prop) (W : World), Mod [] w W →
    (∀ pre A B, J pre A → Mod [nb] A B → J pre B) →
    (∀ pre x W1, J pre W1 → (pre ++ [x]) <+: xs → YieldAt F (n - 1) P l (encs x) W1 fun e W' => e = .returned (.bool true) ∧ J (pre ++ [x]) W' ∧ W'.heap[nb]? = W1.heap[nb]?) →
    J [] W →
    CallsIn F n P g (#[.func (.yield l) #[] #[]] ++ lb) W fun e W' => (∃ v, e = .returned v) ∧ J xs W'

variable {F : Fence} {n : Nat} {P : Program}
theorem mod_putObj {S : List Nat} (W : World) (l : Nat) (o : Obj) (h : l ∈ S) : Mod S W (W.putObj l o) := by
  have hg := grownBy_putObj' W l o
  exact ⟨hg.os, hg.tape, hg.output, hg.size, fun k hk hn => hg.block k hk (fun e => by cases e; exact hn h)⟩

theorem wpIn_rangeFunc_hands {α : Type} {g : Operand} {ps : Array Tmp} {assign body : Code} {Q : Exit → Act → World → Prop} {a : Act} {w : World}
    (hro : F.round = none) (h1 : 1 ≤ n) {gf : Nat} {lb : Array Value} (hg : a.eval g = .func (.func gf) #[] lb) (hFg : F.fn gf) (eg : ∀ args w, (callFunc gf args).run P w = .ok (.enter gf args) w)
    {encs : α → Array Value} {nb : Nat} {xs : List α} (hseq : Hands F (n - 1) P gf lb encs nb xs w) (hps : ∀ x, (encs x).size = ps.size) (hnb : nb < w.heap.size)
    (I : List α → World → Prop) (hI : ∀ pre A B S, (∀ k, k ∈ S → k = nb ∨ k = w.heap.size ∨ k = w.heap.size + 1) → I pre A → Mod S A B → I pre B) (h0 : ∀ W, Mod [] w W → I [] W) (a₁ : α → Act)
    (hassign : ∀ (l : Nat) (x : α) (W : World) (K : Act → World → Prop), K (a₁ x) W →
      assign.wpIn (F.inRound l) (n - 1 - 1) P (Exit.then K (fun _ _ _ => False)) { tmps := (ps.zip (encs x)).foldl (fun t (p, v) => t.setIfInBounds p v) a.tmps, defers := [] } W)
    (hbody : ∀ (l : Nat) (pre : List α) (x : α) (W : World), I pre W → (pre ++ [x]) <+: xs → w.heap.size + 2 ≤ W.heap.size → body.wpIn (F.inRound l) (n - 1 - 1) P (goesOn nb I (pre ++ [x]) W) (a₁ x) W)
    (hdone : ∀ (W : World), I xs W → W.heap[w.heap.size]? = some (.deferred (some [])) → Q .normal { a with defers := { target := .collected w.heap.size, args := #[] } :: a.defers } W) :
    (Code.rangeFunc g ps assign body).wpIn F n P Q a w := by
  refine wpIn_rangeFunc ?_
  intro fn hfn
  rw [hro]
  obtain ⟨rec, hrec⟩ : ∃ rec : LoopState → Option Code → Loop, rec = fun st pe => { state := st, pending := pe, fn, tmps := a.tmps, params := ps, assign, body, defers := w.heap.size } := ⟨_, rfl⟩
  obtain ⟨W1, hW1⟩ : ∃ W1, (w.alloc (.deferred (some []))).alloc (.loop (rec .ready none)) = W1 := ⟨_, rfl⟩
  have hL1 : W1.heap[w.heap.size + 1]? = some (.loop (rec .ready none)) := by
    rw [← hW1]; have := World.alloc_heap_new (w.alloc (.deferred (some []))) (.loop (rec .ready none)); rwa [World.size_alloc] at this
  have hD1 : W1.heap[w.heap.size]? = some (.deferred (some [])) := by
    rw [← hW1]; exact (Below.heap_alloc _ _ _ (by simp)).trans (World.alloc_heap_new w _)
  have hm1 : Mod [] w W1 := by rw [← hW1]; exact (Mod.alloc _ _ _).trans' (Mod.alloc _ _ _)
  refine ⟨w.heap.size + 1, [{ target := .collected w.heap.size, args := #[] }], W1, { target := .fn (.func gf) lb, args := #[.func (.yield (w.heap.size + 1)) #[] #[]] }, W1, gf,
    #[.func (.yield (w.heap.size + 1)) #[] #[]] ++ lb, W1, ?_, ?_, ?_, ?_, fun _ => h1, ?_⟩
  · rw [← hW1, hrec]; exact run_enterLoop_outer _ _ _ _ _
  · simp only [resolve, hg]
    simp [go_sem]
  · intro f' hf'; simp [Target.leads] at hf'; subst hf'; exact hFg
  · simp [invoke, go_sem, eg]
  · refine (hseq (w.heap.size + 1)
      (fun pre W => I pre W ∧ W.heap[w.heap.size + 1]? = some (.loop (rec .ready none)) ∧ W.heap[w.heap.size]? = some (.deferred (some [])))
      W1 hm1 ?_ ?_ ⟨h0 _ hm1, hL1, hD1⟩).mono ?_
    · rintro pre A B ⟨hi, hl, hd⟩ hm
      exact ⟨hI pre A B [nb] (by intro k hk; simp only [List.mem_singleton] at hk; exact .inl hk) hi hm, hm.get hl (by simp; omega), hm.get hd (by simp; omega)⟩
    · rintro pre x W ⟨hi, hl, hd⟩ hx
      have hlt := lt_of_block hl
      have hy := run_yield (P := P) (args := encs x) hl (by rw [hrec]; exact hps x)
      rw [hrec] at hy
      refine ⟨fn, _, assign, body, hy, roundIn_of_wpIn hfn (hassign _ x W _ ⟨_, run_beginRound hl (by rw [hrec]), ?_⟩)⟩
      obtain ⟨W2, hW2⟩ : ∃ W2, W.putObj (w.heap.size + 1) (.loop { rec .ready none with state := .busy }) = W2 := ⟨_, rfl⟩
      have hp2 := mod_putObj (S := [w.heap.size + 1]) W (w.heap.size + 1) (.loop { rec .ready none with state := .busy }) (by simp)
      have hl2 : W2.heap[w.heap.size + 1]? = some (.loop { rec .ready none with state := .busy }) := by rw [← hW2]; exact World.putObj_heap_same hlt
      rw [hW2] at hp2
      rw [show ({ state := LoopState.busy, pending := (rec .ready none).pending, fn := (rec .ready none).fn, tmps := (rec .ready none).tmps, params := (rec .ready none).params, assign := (rec .ready none).assign, body := (rec .ready none).body, defers := (rec .ready none).defers } : Loop) = { rec .ready none with state := .busy } from rfl, hW2]
      have hd2 : W2.heap[w.heap.size]? = some (.deferred (some [])) := hp2.get hd (by simp)
      have hi2 : I pre W2 := hI pre W W2 [w.heap.size + 1] (by intro k hk; simp only [List.mem_singleton] at hk; exact .inr (.inr hk)) hi hp2
      have hn2 : W2.heap[nb]? = W.heap[nb]? := hp2.block nb (by omega) (by simp; omega)
      refine wpIn_mono (hbody _ pre x _ hi2 hx (by have := lt_of_block hl2; omega)) ?_
      rintro e a3 W3 hp
      cases e with
      | normal =>
        obtain ⟨hk3, hn3, hi3⟩ := hp
        have hl3 := hk3.same _ _ hl2 rfl
        have hd3 := hk3.same _ _ hd2 rfl
        have hr := run_endRound (P := P) none hl3
        have hp4 := mod_putObj (S := [w.heap.size + 1]) W3 (w.heap.size + 1) (.loop (rec .ready none)) (by simp)
        refine ⟨.bool true, W3.putObj (w.heap.size + 1) (.loop (rec .ready none)), ?_, rfl, ⟨hI _ W3 _ [w.heap.size + 1] (by intro k hk; simp only [List.mem_singleton] at hk; exact .inr (.inr hk)) hi3 hp4, World.putObj_heap_same (lt_of_block hl3), hp4.get hd3 (by simp)⟩, ?_⟩
        · rw [hrec] at hr ⊢; exact hr
        · exact (hp4.block nb (by have := lt_of_block hl3; omega) (by simp; omega)).trans (hn3.trans hn2)
      | ret => exact hp.elim
      | exit id => exact hp.elim
      | goto t => exact hp.elim
      | panic ch => exact hp.elim
      | outgrown => exact hp.elim
    · rintro e W2 ⟨⟨v, rfl⟩, hi, hl, hd⟩
      have hp4 := mod_putObj (S := [w.heap.size + 1]) W2 (w.heap.size + 1) (.loop { rec .ready none with state := .exhausted }) (by simp)
      exact ⟨none, _, by have := run_endLoop (P := P) hl (by rw [hrec]; simp); rw [hrec] at this; exact this,
        hdone _ (by rw [hrec] at hp4; exact hI _ W2 _ [w.heap.size + 1] (by intro k hk; simp only [List.mem_singleton] at hk; exact .inr (.inr hk)) hi hp4) (by rw [hrec] at hp4; exact hp4.get hd (by simp))⟩
end Go.Proofs.YtekdnljincbghaaDoor
