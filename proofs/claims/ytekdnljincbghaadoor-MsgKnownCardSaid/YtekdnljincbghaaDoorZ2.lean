/- Texts put together (2 of 7): Range, Uint, OwnIn, Uint2, VarintW, Ref01, Ballot3, Read, Msg4, Msg5, Crc, CrcRef. -/
import Derived.Test.YtekdnljincbghaaDoorZ1
import Derived.RangeFuncNested
import Derived.RangeFuncLeaves
import Derived.RangeFuncBound
import Derived.RangeFuncCalls
import Derived.Shelf.Abstract
import Derived.OwnWalkIn
import Derived.TacticsInMore
import Derived.LoopNIn
import Derived.LoopIn
import Derived.Deep.CutRange
import Derived.Test.YtekdnljincbghaaDoorProg
import Derived.StillTailTactics
import Derived.BigQuiet
/- A range over a function whose iterator keeps its state in a cell of its own (block nb), and whose body never leaves early: what the caller owes. Over any program. -/
namespace Go.Proofs.YtekdnljincbghaaDoor
open Go Go.RowKit

/-- How the body ends, going on. -/
def goesOn {α : Type} (nb : Nat) (I : List α → World → Prop) (xs : List α) (W : World) : Exit → Act → World → Prop
  | .normal, _, W' => KeepsOthers W W' ∧ W'.heap[nb]? = W.heap[nb]? ∧ I xs W'
  | _, _, _ => False

/-- The iterator's contract: it hands on xs, one by one; it turns its own block nb. -/
def Hands {α : Type} (F : Fence) (n : Nat) (P : Program) (g : Nat) (lb : Array Value) (encs : α → Array Value) (nb : Nat) (xs : List α) (w : World) : Prop :=
  ∀ (l : Nat) (J : List α → World → Prop) (W : World), Mod [] w W →
    (∀ pre A B, J pre A → Mod [nb] A B → J pre B) →
    (∀ pre x W1, J pre W1 → (pre ++ [x]) <+: xs → YieldAt F (n - 1) P l (encs x) W1 fun e W' => e = .returned (.bool true) ∧ J (pre ++ [x]) W' ∧ W'.heap[nb]? = W1.heap[nb]?) →
    J [] W →
    CallsIn F n P g (#[.func (.yield l) #[] #[]] ++ lb) W fun e W' => (∃ v, e = .returned v) ∧ J xs W'

variable {F : Fence} {n : Nat} {P : Program}
theorem mod_putObj {S : List Nat} (W : World) (l : Nat) (o : Obj) (h : l ∈ S) : Mod S W (W.putObj l o) := by
  have hg := grownBy_putObj' W l o
  exact ⟨hg.os, hg.tape, hg.output, hg.size, fun k hk hn => hg.block k hk (fun e => by cases e; exact hn h)⟩

theorem wpIn_rangeFunc_hands {α : Type} {g : Operand} {ps : Array Tmp} {assign body : Code} {Q : Exit → Act → World → Prop} {a : Act} {w : World}
    (hro : F.round = none) (h1 : 1 ≤ n) {gf : Nat} {lb : Array Value} (hg : a.eval g = .func (.func gf) #[] lb) (hFg : F.fn gf) (eg : ∀ args w, (callFunc gf args).run P w = .ok (.enter gf args) w)
    {encs : α → Array Value} {nb : Nat} {xs : List α} (hseq : Hands F (n - 1) P gf lb encs nb xs w) (hps : ∀ x, (encs x).size = ps.size) (hnb : nb < w.heap.size)
    (I : List α → World → Prop) (hI : ∀ pre A B S, (∀ k, k ∈ S → k = nb ∨ k = w.heap.size ∨ k = w.heap.size + 1) → I pre A → Mod S A B → I pre B) (h0 : ∀ W, Mod [] w W → I [] W) (a₁ : α → Act)
    (hassign : ∀ (l : Nat) (x : α) (W : World) (K : Act → World → Prop), K (a₁ x) W →
      assign.wpIn (F.inRound l) (n - 1 - 1) P (Exit.then K (fun _ _ _ => False)) { tmps := (ps.zip (encs x)).foldl (fun t (p, v) => t.setIfInBounds p v) a.tmps, defers := [] } W)
    (hbody : ∀ (l : Nat) (pre : List α) (x : α) (W : World), I pre W → (pre ++ [x]) <+: xs → w.heap.size + 2 ≤ W.heap.size → body.wpIn (F.inRound l) (n - 1 - 1) P (goesOn nb I (pre ++ [x]) W) (a₁ x) W)
    (hdone : ∀ (W : World), I xs W → W.heap[w.heap.size]? = some (.deferred (some [])) → Q .normal { a with defers := { target := .collected w.heap.size, args := #[] } :: a.defers } W) :
    (Code.rangeFunc g ps assign body).wpIn F n P Q a w := by
  refine wpIn_rangeFunc ?_
  intro fn hfn
  rw [hro]
  obtain ⟨rec, hrec⟩ : ∃ rec : LoopState → Option Code → Loop, rec = fun st pe => { state := st, pending := pe, fn, tmps := a.tmps, params := ps, assign, body, defers := w.heap.size } := ⟨_, rfl⟩
  obtain ⟨W1, hW1⟩ : ∃ W1, (w.alloc (.deferred (some []))).alloc (.loop (rec .ready none)) = W1 := ⟨_, rfl⟩
  have hL1 : W1.heap[w.heap.size + 1]? = some (.loop (rec .ready none)) := by
    rw [← hW1]; have := World.alloc_heap_new (w.alloc (.deferred (some []))) (.loop (rec .ready none)); rwa [World.size_alloc] at this
  have hD1 : W1.heap[w.heap.size]? = some (.deferred (some [])) := by
    rw [← hW1]; exact (Below.heap_alloc _ _ _ (by simp)).trans (World.alloc_heap_new w _)
  have hm1 : Mod [] w W1 := by rw [← hW1]; exact (Mod.alloc _ _ _).trans' (Mod.alloc _ _ _)
  refine ⟨w.heap.size + 1, [{ target := .collected w.heap.size, args := #[] }], W1, { target := .fn (.func gf) lb, args := #[.func (.yield (w.heap.size + 1)) #[] #[]] }, W1, gf,
    #[.func (.yield (w.heap.size + 1)) #[] #[]] ++ lb, W1, ?_, ?_, ?_, ?_, fun _ => h1, ?_⟩
  · rw [← hW1, hrec]; exact run_enterLoop_outer _ _ _ _ _
  · simp only [resolve, hg]
    simp [go_sem]
  · intro f' hf'; simp [Target.leads] at hf'; subst hf'; exact hFg
  · simp [invoke, go_sem, eg]
  · refine (hseq (w.heap.size + 1)
      (fun pre W => I pre W ∧ W.heap[w.heap.size + 1]? = some (.loop (rec .ready none)) ∧ W.heap[w.heap.size]? = some (.deferred (some [])))
      W1 hm1 ?_ ?_ ⟨h0 _ hm1, hL1, hD1⟩).mono ?_
    · rintro pre A B ⟨hi, hl, hd⟩ hm
      exact ⟨hI pre A B [nb] (by intro k hk; simp only [List.mem_singleton] at hk; exact .inl hk) hi hm, hm.get hl (by simp; omega), hm.get hd (by simp; omega)⟩
    · rintro pre x W ⟨hi, hl, hd⟩ hx
      have hlt := lt_of_block hl
      have hy := run_yield (P := P) (args := encs x) hl (by rw [hrec]; exact hps x)
      rw [hrec] at hy
      refine ⟨fn, _, assign, body, hy, roundIn_of_wpIn hfn (hassign _ x W _ ⟨_, run_beginRound hl (by rw [hrec]), ?_⟩)⟩
      obtain ⟨W2, hW2⟩ : ∃ W2, W.putObj (w.heap.size + 1) (.loop { rec .ready none with state := .busy }) = W2 := ⟨_, rfl⟩
      have hp2 := mod_putObj (S := [w.heap.size + 1]) W (w.heap.size + 1) (.loop { rec .ready none with state := .busy }) (by simp)
      have hl2 : W2.heap[w.heap.size + 1]? = some (.loop { rec .ready none with state := .busy }) := by rw [← hW2]; exact World.putObj_heap_same hlt
      rw [hW2] at hp2
      rw [show ({ state := LoopState.busy, pending := (rec .ready none).pending, fn := (rec .ready none).fn, tmps := (rec .ready none).tmps, params := (rec .ready none).params, assign := (rec .ready none).assign, body := (rec .ready none).body, defers := (rec .ready none).defers } : Loop) = { rec .ready none with state := .busy } from rfl, hW2]
      have hd2 : W2.heap[w.heap.size]? = some (.deferred (some [])) := hp2.get hd (by simp)
      have hi2 : I pre W2 := hI pre W W2 [w.heap.size + 1] (by intro k hk; simp only [List.mem_singleton] at hk; exact .inr (.inr hk)) hi hp2
      have hn2 : W2.heap[nb]? = W.heap[nb]? := hp2.block nb (by omega) (by simp; omega)
      refine wpIn_mono (hbody _ pre x _ hi2 hx (by have := lt_of_block hl2; omega)) ?_
      rintro e a3 W3 hp
      cases e with
      | normal =>
        obtain ⟨hk3, hn3, hi3⟩ := hp
        have hl3 := hk3.same _ _ hl2 rfl
        have hd3 := hk3.same _ _ hd2 rfl
        have hr := run_endRound (P := P) none hl3
        have hp4 := mod_putObj (S := [w.heap.size + 1]) W3 (w.heap.size + 1) (.loop (rec .ready none)) (by simp)
        refine ⟨.bool true, W3.putObj (w.heap.size + 1) (.loop (rec .ready none)), ?_, rfl, ⟨hI _ W3 _ [w.heap.size + 1] (by intro k hk; simp only [List.mem_singleton] at hk; exact .inr (.inr hk)) hi3 hp4, World.putObj_heap_same (lt_of_block hl3), hp4.get hd3 (by simp)⟩, ?_⟩
        · rw [hrec] at hr ⊢; exact hr
        · exact (hp4.block nb (by have := lt_of_block hl3; omega) (by simp; omega)).trans (hn3.trans hn2)
      | ret => exact hp.elim
      | exit id => exact hp.elim
      | goto t => exact hp.elim
      | panic ch => exact hp.elim
      | outgrown => exact hp.elim
    · rintro e W2 ⟨⟨v, rfl⟩, hi, hl, hd⟩
      have hp4 := mod_putObj (S := [w.heap.size + 1]) W2 (w.heap.size + 1) (.loop { rec .ready none with state := .exhausted }) (by simp)
      exact ⟨none, _, by have := run_endLoop (P := P) hl (by rw [hrec]; simp); rw [hrec] at this; exact this,
        hdone _ (by rw [hrec] at hp4; exact hI _ W2 _ [w.heap.size + 1] (by intro k hk; simp only [List.mem_singleton] at hk; exact .inr (.inr hk)) hi hp4) (by rw [hrec] at hp4; exact hp4.get hd (by simp))⟩
end Go.Proofs.YtekdnljincbghaaDoor
/- The walks of varint.groups, its inner function, and varint.Uint: a number's bytes behind bytes of the call's own. -/
namespace Go.Proofs.YtekdnljincbghaaDoor
open Go Go.RowKit Go.Shelf
attribute [local go_sem] Oper.semAt_some

/-- The number in the box. -/
def boxNum (nb : Nat) (w : World) : Nat := match w.cell? ⟨nb, 0, none⟩ with | some v => (intOf v).toNat | none => 0
theorem boxNum_of {nb : Nat} {w : World} {k : IntKind} {m : Nat} {t : TypeId} (h : w.heap[nb]? = some (.cells #[.int k (m : Int)] t (0, 0))) : boxNum nb w = m := by
  unfold boxNum; rw [cell_of_one h]; simp [intOf]

set_option maxRecDepth 100000 in
set_option maxHeartbeats 1000000 in
theorem groups1_in (F : Fence) (n : Nat) (hf : F.fn 69) (hro : F.round = none) (hn : 1 ≤ n) (nb m : Nat) (hm64 : m < 18446744073709551616) (w : World) (hnb : w.heap[nb]? = some (.cells #[.int .u64 (m : Int)] 22 (0, 0))) :
    Hands F n Tryd.prog 69 #[.pointer (some ⟨nb, 0, none⟩)] (fun x : UInt8 × Bool => #[.int .u8 ((x.1.toNat : Nat) : Int), .bool x.2]) nb (grp m) w := by
  intro l J W hW hJ hY h0
  have hb0 : W.heap[nb]? = some (.cells #[.int .u64 (m : Int)] 22 (0, 0)) := hW.get hnb (by simp)
  have HY := Lib.hid hY
  have HJ := Lib.hid hJ
  clear hY hJ
  refine callsIn_of_wp Tryd.func69 rfl hf ?_ hro
  simp only [Tryd.ntmps69, List.size_toArray, List.length_cons, List.length_nil, Nat.reduceAdd, Nat.reduceSub, Array.replicate_succ, Array.replicate_zero, List.push_toArray, List.append_toArray, List.nil_append, List.cons_append]
  gi_wp2
  gi_loopw [3] (fun _ wr => ∃ (pre : List (UInt8 × Bool)) (q : Nat), q < 18446744073709551616 ∧ grp m = pre ++ grp q ∧ wr.heap[nb]? = some (.cells #[.int .u64 (q : Int)] 22 (0, 0)) ∧ J pre wr) (fun _ wr => boxNum nb wr)
  case atStart => exact ⟨[], m, hm64, rfl, hb0, h0⟩
  case round =>
    obtain ⟨pre, q, hq, hg, hb, hj⟩ := hrel
    have hcell := cell_of_one hb
    have hfree := free_of_one hb
    have HG := Lib.hid hg
    have HB := Lib.hid hb
    have HN := Lib.hid hj
    clear hg hb hj hb0 h0
    by_cases hlt : q < 128
    · have hx : (pre ++ [(UInt8.ofNat q, true)]) <+: grp m := by rw [HG.out, grp_small q hlt]; exact List.prefix_refl _
      obtain ⟨fn, tmps, assign, body, hy, hR⟩ := HY.out pre (UInt8.ofNat q, true) wr HN.out hx
      have e1 : (UInt8.ofNat q).toNat = q := by rw [UInt8.toNat_ofNat']; omega
      simp only [e1] at hy
      have hw8 : IntKind.u8.wrap (q : Int) = (q : Int) := IntWalk.u8_in _ (by omega)
      have hd : decide ((128 : Int) ≤ (q : Int)) = false := by simp; omega
      gi_wp2
      refine hR.mono ?_
      rintro e W3 ⟨rfl, hj3, _⟩
      gi_wp2
      go_end0
      exact ⟨⟨_, rfl⟩, by rw [HG.out, grp_small q hlt]; exact hj3⟩
    · have hgb := grp_big q (by omega) hq
      have hx : (pre ++ [(UInt8.ofNat (q % 128), false)]) <+: grp m := by rw [HG.out, hgb]; exact ⟨grp (q / 128), by simp⟩
      obtain ⟨fn, tmps, assign, body, hy, hR⟩ := HY.out pre (UInt8.ofNat (q % 128), false) wr HN.out hx
      have e1 : (((UInt8.ofNat (q % 128)).toNat : Nat) : Int) = (q : Int) % 128 := by rw [UInt8.toNat_ofNat']; omega
      simp only [e1] at hy
      have HGB := Lib.hid hgb
      have hd : decide ((128 : Int) ≤ (q : Int)) = true := by simp; omega
      have hw8 : IntKind.u8.wrap (bits BinOp.and IntKind.u64 (q : Int) 127) = (q : Int) % 128 := by
        have h1 := u64_and_nat q 127 hq (by omega)
        have h2 : q &&& 127 = q % 128 := Nat.and_two_pow_sub_one_eq_mod q 7
        rw [h2] at h1
        rw [show (127 : Int) = ((127 : Nat) : Int) from rfl, h1, IntWalk.u8_in _ (by omega)]; omega
      clear hgb e1
      gi_wp2
      refine hR.mono ?_
      rintro e W3 ⟨rfl, hj3, hn3⟩
      have hb3 : W3.heap[nb]? = some (.cells #[.int .u64 (q : Int)] 22 (0, 0)) := by rw [hn3]; exact HB.out
      have hcell3 := cell_of_one hb3
      have hfree3 := free_of_one hb3
      have HB3 := Lib.hid hb3
      have HJ3 := Lib.hid hj3
      have hqq : Hid ((q : Int) / 128 = ((q / 128 : Nat) : Int)) := by show _ = _; omega
      clear hb3 hj3 hn3 hcell hfree hy hw8
      gi_wp2
      go_roundw
      case rel =>
        refine ⟨pre ++ [(UInt8.ofNat (q % 128), false)], q / 128, by omega, by rw [HG.out, HGB.out]; simp, ?_, HJ.out _ _ _ HJ3.out (Mod.setCell _ _ _ (by simp))⟩
        rw [hqq.out]
        exact one_setCell HB3.out
      case measure =>
        rw [hqq.out, boxNum_of (one_setCell HB3.out), boxNum_of HB.out]
        omega
set_option maxHeartbeats 1000000 in
theorem groups_in (F : Fence) (n : Nat) (hf : F.fn 56) (hro : F.round = none) (m : Int) (w : World) :
    CallsIn F n Tryd.prog 56 #[.int .u64 m] w fun e w' => ∃ nb, e = .returned (.func (.func 69) #[] #[.pointer (some ⟨nb, 0, none⟩)]) ∧ w'.heap[nb]? = some (.cells #[.int .u64 m] 22 (0, 0)) ∧ Mod [] w w' ∧ w.heap.size ≤ nb := by
  refine callsIn_of_wp Tryd.func56 rfl hf ?_ hro
  simp only [Tryd.ntmps56, List.size_toArray, List.length_cons, List.length_nil, Nat.reduceAdd, Nat.reduceSub, Array.replicate_succ, Array.replicate_zero, List.push_toArray, List.append_toArray, List.nil_append, List.cons_append]
  gi_wp2
  go_ret
  exact ⟨w.heap.size, rfl, heap_alloc_new w _, Mod.alloc _ _ _, Nat.le_refl _⟩
end Go.Proofs.YtekdnljincbghaaDoor
/- append of bytes to bytes of the call's own, inside a fence. -/
namespace Go.Proofs.YtekdnljincbghaaDoor
open Go Go.RowKit
theorem wplIn_app8 {F : Fence} {nF : Nat} {w : World} {ops : Array Oper} {rest : List Oper} {a : Act} {Q : Exit → Act → World → Prop} {dst : Option Tmp} {ty : TypeId} {pos : String} {after : Array Edge} (s x : Operand)
    (ao : Option Addr) (n cap : Nat) (xs : List UInt8) (hs : a.eval s = .slice ao n cap) (hn : xs.length = n) (hown : OwnB w ao cap xs)
    (so : Option Addr) (m c : Nat) (l : List UInt8) (hx : a.eval x = .slice so m c) (hl : l.length = m) (hsees : Sees w so l) (hb : n + m ≤ 140737488355328)
    (h : ∀ ao' cap' w', OwnB w' ao' cap' (xs ++ l) → Mod (blk ao) w w' → SameOrNew w w' ao ao' → wpListIn F nF Tryd.prog ops Q rest (a.put dst (.slice ao' (n + m) cap')) w') :
    wpListIn F nF Tryd.prog ops Q (⟨dst, .call { callee := .builtin .append, args := #[s, x], argTypes := #[27, 27] }, ty, pos, after, none⟩ :: rest) a w := by
  obtain ⟨i0, hi, hz0, hz1, hz2⟩ := info_parts infoU8
  subst hn hl
  obtain ⟨ao', cap', w', hr, h2, h3, h4⟩ := run_append_mine (P := Tryd.prog) w 27 ty 5 i0 _ 1 1 Tryd.underlying27 hi hz0 hz1 hz2 rfl (by decide) ao xs.length cap _ hown so l.length c (l.map u8v) (by simp) hsees.shows (one_u8 _) (by unfold maxLen; omega) (by omega)
  refine wpListIn_plain rfl fun K hK' => ?_
  unfold Oper.wpIn
  refine ⟨?_, ?_⟩
  · simp [Oper.about, resolve, Target.leads, Sem.run_pure]
  · rw [Oper.semAt_plain F _ _ (by intro c hc'; cases hc')]
    simp [execOp, resolve, invoke, builtin, hs, hx, hr, Result.andThen]
    refine hK' _ _ (h ao' cap' w' ?_ h3 h4)
    unfold OwnB
    rw [List.length_append, List.map_append]
    exact h2
end Go.Proofs.YtekdnljincbghaaDoor
/- The walk of varint.Uint. -/
namespace Go.Proofs.YtekdnljincbghaaDoor
open Go Go.RowKit Go.Shelf
attribute [local go_sem] Oper.semAt_some

/-- What the loop keeps: the box, the bytes so far. -/
def UintInv (w : World) (ao : Option Addr) (bb : Nat) (bad : List Nat) (xs : List UInt8) (pre : List (UInt8 × Bool)) (W : World) : Prop :=
  ∃ ao' cap', W.heap[bb]? = some (.cells #[.slice ao' (xs ++ pre.map grpB).length cap'] 27 (0, 0)) ∧ OwnB W ao' cap' (xs ++ pre.map grpB) ∧ Mod (blk ao) w W ∧ SameOrNew w W ao ao' ∧ (∀ k, k ∈ blk ao' → k ∉ bb :: bad)
theorem UintInv.mod {w : World} {ao : Option Addr} {bb : Nat} {bad S : List Nat} {xs : List UInt8} {pre : List (UInt8 × Bool)} {A B : World} (h : UintInv w ao bb bad xs pre A) (hm : Mod S A B) (hS : ∀ k, k ∈ S → k ∈ bad) (hbb : bb ∉ bad) (hnew : ∀ k, k ∈ bad → w.heap.size ≤ k) : UintInv w ao bb bad xs pre B := by
  obtain ⟨ao', cap', h1, h2, h3, h4, h5⟩ := h
  refine ⟨ao', cap', hm.get h1 (fun h => hbb (hS _ h)), h2.mod hm (fun k hk hs => h5 k hk (by simp [hS k hs])), h3.trans hm (fun i hi hl => by have := hnew i (hS i hi); omega), ?_, h5⟩
  rcases h4 with h4 | ⟨g, e, g1, g2⟩
  · exact .inl h4
  · exact .inr ⟨g, e, g1, hm.lt g2⟩

theorem keepsOthers_of {S : List Nat} {W W' : World} (hm : Mod S W W') (hc : ∀ k, k ∈ S → ∀ o, W.heap[k]? = some o → o.isCells = true) : KeepsOthers W W' :=
  ⟨hm.size, fun k o hk ho => hm.get hk (fun hs => by rw [hc k hs o hk] at ho; cases ho)⟩
theorem Own.isCells {w : World} {e : TypeId} {sz : Nat} {ao : Option Addr} {n cap : Nat} {xs : List Value} (h : Own w e sz ao n cap xs) : ∀ k, k ∈ blk ao → ∀ o, w.heap[k]? = some o → o.isCells = true := by
  intro k hk o ho
  rcases h.2 with ⟨rfl, _⟩ | ⟨g, cur, fz, rfl, hg, _⟩
  · simp [blk] at hk
  · simp only [blk, List.mem_singleton] at hk; subst hk; rw [hg] at ho; cases ho; rfl
theorem Sees.one (W : World) (g : UInt8) (v : Value) (t : TypeId) (hv : v = .int .u8 ((g.toNat : Nat) : Int)) : Sees (W.alloc (.cells #[v] t)) (some ⟨W.heap.size, 0, none⟩) [g] := by
  intro j hj
  have : j = 0 := by simpa using hj
  subst this
  exact ⟨W.heap.size, 0, rfl, by rw [cell_of_block (heap_alloc_new W _)]; subst hv; rfl⟩

set_option maxRecDepth 100000 in
set_option maxHeartbeats 2000000 in
theorem vuint_in (F : Fence) (n : Nat) (h1 : F.fn 29) (h2 : F.fn 56) (h3 : F.fn 69) (hro : F.round = none) (hn : 3 ≤ n) (ao : Option Addr) (len cap m : Nat) (xs : List UInt8) (w : World)
    (hlen : xs.length = len) (hown : OwnB w ao cap xs) (hm64 : m < 18446744073709551616) (hb : len ≤ 140737488355000) :
    CallsIn F n Tryd.prog 29 #[.slice ao len cap, .int .u64 (m : Int)] w (RetApp w ao (xs ++ enc7 m)) := by
  subst hlen
  have hn1 : 1 ≤ n := by omega
  refine callsIn_of_wp_marks Tryd.func29 rfl h1 ?_ hro
  simp only [Tryd.ntmps29, List.size_toArray, List.length_cons, List.length_nil, Nat.reduceAdd, Nat.reduceSub, Array.replicate_succ, Array.replicate_zero, List.push_toArray, List.append_toArray, List.nil_append, List.cons_append]
  gi_wp2_with (gi_at_call 56; refine (groups_in F (n - 1) h2 hro _ _).mono ?_; rintro e w2 ⟨nb, rfl, hnb, hm2, hge⟩)
  have hbx := heap_alloc_new w (.cells #[.slice ao xs.length cap] 27)
  have hm1 := Mod.alloc [] w (.cells #[.slice ao xs.length cap] 27)
  have hsz : w.heap.size + 1 ≤ w2.heap.size := by have := hm2.size; simp at this; omega
  have hnl := lt_of_block hnb
  have hnb2 : w.heap.size + 1 ≤ nb := by simpa using hge
  have HO := Lib.hid ((hown.mod0 hm1).mod0 hm2)
  have HBX := Lib.hid (hm2.get hbx (by simp))
  have HM := Lib.hid (hm1.trans' hm2)
  have HNB := Lib.hid hnb
  have hltown : ∀ k, k ∈ blk ao → k < w.heap.size := Own.lt hown
  clear hbx hm1 hm2 hnb hge hown
  have hL : nb ≠ w2.heap.size ∧ nb ≠ w2.heap.size + 1 := by omega
  refine wpIn_rangeFunc_hands hro hn1 (gf := 69) (lb := #[.pointer (some ⟨nb, 0, none⟩)]) rfl h3 (enters_of Tryd.func69 (by kernel_rfl) rfl)
    (groups1_in F (n - 1) h3 hro (by omega) nb m hm64 _ HNB.out) (fun _ => rfl) hnl
    (UintInv w ao w.heap.size [nb, w2.heap.size, w2.heap.size + 1] xs)
    (fun pre A B S hS hI hm => hI.mod hm (fun k hk => by simpa using hS k hk) (by simp; omega) (by simp; omega))
    (fun W hW => ⟨ao, cap, by simpa using hW.get HBX.out (by simp), by simpa using HO.out.mod0 hW, (HM.out.trans' hW).nil, .inl rfl, fun k hk => by have := hltown k hk; simp; omega⟩)
    (fun x => { tmps := #[.slice ao xs.length cap, .int .u64 (m : Int), .pointer (some ⟨w.heap.size, 0, none⟩), undef, .slice none 0 0, .int .u8 ((x.1.toNat : Nat) : Int), .bool x.2, .int .u64 (m : Int), .func (.func 69) #[] #[.pointer (some ⟨nb, 0, none⟩)], .int .u8 ((x.1.toNat : Nat) : Int), .bool x.2, undef, undef, undef, undef, undef, undef, undef, undef, undef], defers := [] }) ?assign ?body ?done
  case assign =>
    intro l x W K hK
    gi_wp2
    exact hK
  case body =>
    rintro l pre x W hI hx hsize
    obtain ⟨ao', cap', hbox, ho, hm, hsn, hbad⟩ := hI
    have hxm : x ∈ grp m := hx.subset (by simp)
    have hxw := grp_wf m hm64 x hxm
    have hplen : pre.length < 11 := by
      have h1 := hx.length_le
      have h2 := grp_length m hm64
      have h3 := (enc7_length m).2
      simp at h1; omega
    obtain ⟨ys, hys⟩ : ∃ ys, ys = xs ++ pre.map grpB := ⟨_, rfl⟩
    have hylen : ys.length ≤ 140737488355020 := by rw [hys]; simp; omega
    rw [← hys] at hbox ho
    have HYS := Lib.hid hys
    have hcell := cell_of_one hbox
    have HB := Lib.hid hbox
    have HW := Lib.hid ho
    have HMW := Lib.hid hm
    have HSN := Lib.hid hsn
    have HBAD := Lib.hid hbad
    clear hys hbox ho hm hsn hbad
    obtain ⟨g, b⟩ := x
    have fin : ∀ (v : Value) (y : UInt8) (a2 : Option Addr) (c2 : Nat) (w4 : World), grpB (g, b) = y → OwnB w4 a2 c2 (ys ++ [y]) → Mod (blk ao') (W.alloc (.cells #[v] 5)) w4 → SameOrNew (W.alloc (.cells #[v] 5)) w4 ao' a2 →
        (w4.heap[w.heap.size]? = some (.cells #[.slice ao' ys.length cap'] 27 (0, 0)) ∧
        goesOn nb (UintInv w ao w.heap.size [nb, w2.heap.size, w2.heap.size + 1] xs) (pre ++ [(g, b)]) W .normal { tmps := #[], defers := [] } (w4.setCell ⟨w.heap.size, 0, none⟩ (.slice a2 (ys.length + 1) c2))) := by
      intro v y a2 c2 w4 hy ho4 hm4 hsn4
      have hma := Mod.alloc (blk ao') W (.cells #[v] 5)
      have hm5 : Mod (blk ao') W w4 := hma.trans' hm4
      have hb4 : w4.heap[w.heap.size]? = some (.cells #[.slice ao' ys.length cap'] 27 (0, 0)) := hm5.get HB.out (fun h => by have := HBAD.out _ h; simp at this)
      refine ⟨hb4, ?_, ?_, ?_⟩
      · refine (keepsOthers_of hm5 (Own.isCells HW.out)).trans ?_
        exact keepsOthers_of (Mod.setCell w4 _ _ (S := [w.heap.size]) (by simp)) (by intro k hk o ho; simp only [List.mem_singleton] at hk; subst hk; rw [hb4] at ho; cases ho; rfl)
      · rw [(Mod.setCell (S := [w.heap.size]) w4 ⟨w.heap.size, 0, none⟩ (.slice a2 (ys.length + 1) c2) (by simp)).block nb (by have := hm5.size; omega) (by simp; omega)]
        exact hm5.block nb (by omega) (fun h => by have := HBAD.out _ h; simp at this)
      · have e1 : xs ++ (pre ++ [(g, b)]).map grpB = ys ++ [y] := by rw [HYS.out]; simp [hy]
        have hblk2 : ∀ k, k ∈ blk a2 → k ∈ blk ao' ∨ W.heap.size + 1 ≤ k := fun k hk => by have := hsn4.blk k hk; simpa using this
        have hnin : ∀ k, k ∈ blk a2 → k ∉ [w.heap.size, nb, w2.heap.size, w2.heap.size + 1] := fun k hk hk2 => by
          rcases hblk2 k hk with h | h
          · exact HBAD.out k h hk2
          · simp at hk2; omega
        have hms := Mod.setCell (S := [w.heap.size]) w4 ⟨w.heap.size, 0, none⟩ (.slice a2 (ys.length + 1) c2) (by simp)
        refine ⟨a2, c2, ?_, ?_, ?_, ?_, hnin⟩
        · rw [e1]; simpa using one_setCell (u := .slice a2 (ys.length + 1) c2) hb4
        · rw [e1]; exact ho4.mod hms (fun k hk hs => by have := hnin k hk; simp at hs; simp [hs] at this)
        · refine (HMW.out.trans hm5 ?_).trans hms (by intro i hi hl; simp at hi; omega)
          intro i hi hl
          rcases HSN.out.blk i hi with h | h
          · exact h
          · omega
        · have hsz4 := hm5.size
          have hsz5 := HMW.out.size
          rcases hsn4 with rfl | ⟨g4, rfl, h1, h2⟩
          · rcases HSN.out with h | ⟨g5, h, h1, h2⟩
            · exact .inl h
            · exact .inr ⟨g5, h, h1, hms.lt (hm5.lt h2)⟩
          · exact .inr ⟨g4, rfl, by simp at h1; omega, hms.lt h2⟩
    have FIN := Lib.hid fin
    clear fin
    cases b with
    | true =>
      gi_wp2_with (gi_at_builtin; refine wplIn_app8 (dst := some 18) _ _ ao' _ cap' ys rfl rfl (HW.out.mod0 (Mod.alloc _ _ _)) _ 1 1 [g] rfl rfl (Sees.one _ _ _ _ rfl) (by omega) ?_; intro a2 c2 w4 ho4 hm4 hsn4; obtain ⟨hb4, hgo⟩ := FIN.out _ g a2 c2 w4 rfl ho4 hm4 hsn4; have hc4 := cell_of_one hb4; have hf4 := free_of_one hb4; have HGO := Lib.hid hgo; clear hgo hb4 ho4 hm4 hsn4)
      exact HGO.out
    | false =>
      obtain ⟨y, hy⟩ : ∃ y, grpB (g, false) = y := ⟨_, rfl⟩
      have e8 : bits BinOp.or IntKind.u8 (g.toNat : Int) 128 = (y.toNat : Int) := by
        have hxw' : g.toNat < 128 := hxw
        rw [u8_or128_right _ (by omega) (by omega), ← hy]
        show _ = ((UInt8.ofNat (128 + g.toNat)).toNat : Int)
        rw [UInt8.toNat_ofNat']; omega
      have HY := Lib.hid hy
      clear hy
      gi_wp2_with (gi_at_builtin; refine wplIn_app8 (dst := some 18) _ _ ao' _ cap' ys rfl rfl (HW.out.mod0 (Mod.alloc _ _ _)) _ 1 1 [y] rfl rfl (Sees.one _ _ _ _ rfl) (by omega) ?_; intro a2 c2 w4 ho4 hm4 hsn4; obtain ⟨hb4, hgo⟩ := FIN.out _ y a2 c2 w4 HY.out ho4 hm4 hsn4; have hc4 := cell_of_one hb4; have hf4 := free_of_one hb4; have HGO := Lib.hid hgo; clear hgo hb4 ho4 hm4 hsn4)
      exact HGO.out
  case done =>
    rintro W ⟨ao', cap', hbox, ho, hm, hsn, hbad⟩ hD
    rw [grp_enc m hm64] at hbox ho
    have hcell := cell_of_one hbox
    have HW := Lib.hid ho
    have HMW := Lib.hid hm
    have HSN := Lib.hid hsn
    have HBAD := Lib.hid hbad
    have HD := Lib.hid hD
    obtain ⟨ys, hys⟩ : ∃ ys, ys = xs ++ enc7 m := ⟨_, rfl⟩
    rw [← hys] at hcell HW
    have HYS := Lib.hid hys
    clear hbox ho hm hsn hbad hD hys
    gi_wp2
    refine ⟨by simp, .inl ⟨_, _, rfl, run_takeDeferred HD.out, ?_⟩⟩
    refine ⟨_, results_tmp rfl _ _ _, ?_⟩
    show RetApp w ao (xs ++ enc7 m) _ _
    rw [← HYS.out]
    refine ⟨ao', ys.length, cap', rfl, rfl, ?_, ?_, ?_⟩
    · exact HW.out.mod (mod_putObj (S := [w2.heap.size]) _ _ _ (by simp)) (fun k hk hs => by have := HBAD.out k hk; simp at hs; simp [hs] at this)
    · exact HMW.out.trans (mod_putObj (S := [w2.heap.size]) _ _ _ (by simp)) (by intro i hi hl; simp at hi; omega)
    · rcases HSN.out with h | ⟨g5, h, h1, h2⟩
      · exact .inl h
      · exact .inr ⟨g5, h, h1, (mod_putObj (S := [w2.heap.size]) W w2.heap.size _ (by simp)).lt h2⟩

theorem vuint_any (ao : Option Addr) (len cap m : Nat) (xs : List UInt8) (w : World)
    (hlen : xs.length = len) (hown : OwnB w ao cap xs) (hm64 : m < 18446744073709551616) (hb : len ≤ 140737488355000) :
    Calls Tryd.prog 29 #[.slice ao len cap, .int .u64 (m : Int)] w (RetApp w ao (xs ++ enc7 m)) :=
  (callsIn_wide (n := 3)).1 (vuint_in Fence.wide 3 trivial trivial trivial rfl (by omega) ao len cap m xs w hlen hown hm64 hb)
end Go.Proofs.YtekdnljincbghaaDoor
/- The walks of varint.Int and varint.Text. -/
namespace Go.Proofs.YtekdnljincbghaaDoor
open Go Go.RowKit

set_option maxHeartbeats 1000000 in
theorem vtext_any (ao : Option Addr) (len cap : Nat) (s : ByteArray) (xs : List UInt8) (w : World) (hlen : xs.length = len) (hown : OwnB w ao cap xs) (hb : len ≤ 140737400000000) (hs : s.size ≤ 1000000) :
    Calls Tryd.prog 51 #[.slice ao len cap, .string s] w (RetApp w ao (xs ++ enc7 s.size ++ s.data.toList)) := by
  have HO := Lib.hid hown
  have hl11 := (enc7_length s.size).2
  clear hown
  go_enter Tryd.func51, Tryd.ntmps51
  go_wp2_with fail
  refine (vuint_any _ _ _ _ xs _ hlen HO.out (by omega) (by omega)).mono ?_
  rintro e w2 ⟨a2, k2, c2, rfl, hk2, o2, m2, n2⟩
  have hkb : k2 ≤ 140737400000011 := by rw [← hk2]; simp; omega
  have HK := Lib.hid hk2
  have HO2 := Lib.hid o2
  have HM := Lib.hid m2
  have HN := Lib.hid n2
  clear o2 m2 n2 hk2
  go_wp2_with (at_builtin; refine wpl_app8s _ _ a2 k2 c2 (xs ++ enc7 s.size) rfl HK.out HO2.out s rfl (by omega) ?_; intro a3 c3 w3 o3 m3 n3)
  go_ret
  exact RetApp.chain HM.out HN.out ⟨a3, _, c3, rfl, by rw [List.length_append, HK.out, size_data], o3, m3, n3⟩
end Go.Proofs.YtekdnljincbghaaDoor
/- The walks of the document's answer for the varint package: Uint, Int, Text. -/
namespace Go.Proofs.YtekdnljincbghaaDoor
open Go Go.RowKit

set_option maxRecDepth 100000 in
set_option maxHeartbeats 1000000 in
theorem refUint_any (n : Nat) : ∀ (w : World), n < 18446744073709551616 → Calls Tryd.prog 36 #[.int .u64 (n : Int)] w (RetApp w none (enc7 n)) := by
  induction n using Nat.strongRecOn with
  | _ n ih =>
    intro w h64
    have hU := enc7_small n
    have hB := fun h => enc7_big n h h64
    have hd64 : n / 128 < 18446744073709551616 := by omega
    have H64 := Lib.hid hd64
    have HU := Lib.hid hU
    have HBB := Lib.hid hB
    clear h64 hd64 hU hB
    by_cases hlt : n < 128
    · have hw8 : IntKind.u8.wrap (n : Int) = (n : Int) := IntWalk.u8_in _ (by omega)
      clear ih
      go_enter Tryd.func36, Tryd.ntmps36
      go_wp2
      go_ret
      rw [HU.out hlt]
      exact ⟨some ⟨w.heap.size, 0, none⟩, 1, 1, rfl, rfl, OwnB.lit1 (heap_alloc_new w _) (UInt8.ofNat n) (by rw [UInt8.toNat_ofNat']; omega) (.inl rfl), Mod.alloc _ _ _, .inr ⟨w.heap.size, rfl, Nat.le_refl _, by simp⟩⟩
    · have HE := Lib.hid (HBB.out (by omega))
      have HI := Lib.hid (ih (n / 128) (by omega))
      have HD : Hid (IntKind.u64.wrap ((n : Int) / 128) = ((n / 128 : Nat) : Int)) := by
        have := H64.out
        show _ = _; rw [IntWalk.u64_in _ (by omega)]; omega
      have hl11 := (enc7_length (n / 128)).2
      have hw8 : IntKind.u8.wrap (128 + (n : Int) % 128) = 128 + (n : Int) % 128 := IntWalk.u8_in _ (by omega)
      clear ih
      go_enter Tryd.func36, Tryd.ntmps36
      go_wp2_with fail
      rw [HD.out]
      have ho := OwnB.lit1 (heap_alloc_new w (.cells #[.int .u8 (128 + (n : Int) % 128)] 5)) (UInt8.ofNat (128 + n % 128)) (by rw [UInt8.toNat_ofNat']; omega) (.inl rfl)
      have hm0 := Mod.alloc [] w (.cells #[.int .u8 (128 + (n : Int) % 128)] 5)
      refine (HI.out _ H64.out).mono ?_
      rintro e w2 ⟨a2, k2, c2, rfl, hk2, o2, m2, n2⟩
      have hkb : k2 ≤ 11 := by omega
      have HK := Lib.hid hk2
      clear hk2
      have HO := Lib.hid (ho.mod0 m2)
      have HM := Lib.hid (hm0.trans' m2)
      have HN : Hid (SameOrNew w w2 none (some ⟨w.heap.size, 0, none⟩)) := .inr ⟨w.heap.size, rfl, Nat.le_refl _, by have := m2.size; simp at this; omega⟩
      have HO2 := Lib.hid o2
      clear ho hm0 o2 m2 n2
      go_wp2_with (at_builtin; refine wpl_app8 (dst := some 16) _ _ (some ⟨w.heap.size, 0, none⟩) 1 1 [UInt8.ofNat (128 + n % 128)] rfl rfl HO.out a2 k2 c2 (enc7 (n / 128)) rfl HK.out HO2.out.sees (by omega) ?_; intro a3 c3 w3 o3 m3 n3)
      go_ret
      show RetApp w none (enc7 n) _ _
      refine RetApp.chain HM.out HN.out ?_
      rw [HE.out]
      exact ⟨a3, _, c3, rfl, by simp [HK.out]; omega, o3, m3, n3⟩

set_option maxHeartbeats 1000000 in
theorem refText_any (s : ByteArray) (w : World) (h1 : s.size ≤ 1000000) : Calls Tryd.prog 58 #[.string s] w (RetApp w none (enc7 s.size ++ s.data.toList)) := by
  have hl11 := (enc7_length s.size).2
  go_enter Tryd.func58, Tryd.ntmps58
  go_wp2_with fail
  refine (refUint_any _ _ (by omega)).mono ?_
  rintro e w2 ⟨a2, k2, c2, rfl, hk2, o2, m2, n2⟩
  have hkb : k2 ≤ 11 := by omega
  have HK := Lib.hid hk2
  have HO := Lib.hid o2
  have HM := Lib.hid m2
  have HN := Lib.hid n2
  clear o2 m2 n2 hk2
  go_wp2_with (at_builtin; refine wpl_app8s _ _ a2 k2 c2 (enc7 s.size) rfl HK.out HO.out s rfl (by omega) ?_; intro a3 c3 w3 o3 m3 n3)
  go_ret
  exact RetApp.chain HM.out HN.out ⟨a3, _, c3, rfl, by rw [List.length_append, HK.out, size_data], o3, m3, n3⟩
end Go.Proofs.YtekdnljincbghaaDoor
/- The walks of the ballot package: its bytes. -/
namespace Go.Proofs.YtekdnljincbghaaDoor
open Go Go.RowKit Go.Lib

set_option maxHeartbeats 1000000 in
theorem put_any (ao : Option Addr) (len cap n r : Nat) (xs : List UInt8) (w : World) (hlen : xs.length = len) (hown : OwnB w ao cap xs) (hb : len ≤ 140737488354000) (hn : n < 18446744073709551616) (hr : r < 9223372036854775808) :
    Calls Tryd.prog 50 #[.slice ao len cap, ballot n r] w (RetApp w ao (xs ++ enc7 n ++ enc7 r)) := by
  unfold ballot
  have HO := Lib.hid hown
  have hlt := Own.lt hown
  have hw : IntKind.u64.wrap (r : Int) = (r : Int) := IntWalk.u64_in _ (by omega)
  have hl1 := (enc7_length n).2
  clear hown
  go_enter Tryd.func50, Tryd.ntmps50
  go_upto_region 1 with (fail)
  have hb1 := heap_alloc_new w (.cells #[.int .u64 (n : Int), .int .i64 (r : Int)] 24)
  have m0 := Mod.alloc [] w (.cells #[.int .u64 (n : Int), .int .i64 (r : Int)] 24)
  refine rest_start (blk ao) 9 #[false, false, false, false, false, false, false, false, false] rfl (by kernel_rfl) (by kernel_rfl) ?_
  intro w1 m1
  have A0 := Lib.hid (cell_of_block (i := 0) (m1.get hb1 (by simp)))
  have A1 := Lib.hid (cell_of_block (i := 1) (m1.get hb1 (by simp)))
  have M1 := Lib.hid (m0.trans' m1)
  have O1 := Lib.hid (Own.mod0 HO.out M1.out)
  have HK : Hid (w.heap.size ∉ blk ao) := fun h => Nat.lt_irrefl _ (hlt _ h)
  clear hb1 m0 m1 hlt
  refine rest_got (i := 0) (v := ?v1) rfl (by kernel_rfl) (by kernel_rfl) (by kernel_rfl) (fun _ _ _ h => h) (by rfl) ?y1 ?r1
  case y1 => (intro w9q hSwq; clear hSwq; go_simp; with_reducible rfl)
  try simp only [Act.put, List.setIfInBounds_toArray, List.set_cons_zero, List.set_cons_succ]
  refine rest_got (i := 1) (v := ?v2) rfl (by kernel_rfl) (by kernel_rfl) (by kernel_rfl) (fun _ _ _ h => h) (by rfl) ?y2 ?r2
  case y2 => (intro w9q hSwq; clear hSwq; go_simp; with_reducible rfl)
  try simp only [Act.put, List.setIfInBounds_toArray, List.set_cons_zero, List.set_cons_succ]
  refine rest_got (i := 2) (v := ?v3) rfl (by kernel_rfl) (by kernel_rfl) (by kernel_rfl) (fun _ _ _ h => h) (by rfl) ?y3 ?r3
  case y3 => ((intro w' hm; have hc' := Mod.cell hm A0.out HK.out; clear hm; go_simp; with_reducible rfl))
  try simp only [Act.put, List.setIfInBounds_toArray, List.set_cons_zero, List.set_cons_succ]
  refine rest_got (i := 4) (v := ?v4) rfl (by kernel_rfl) (by kernel_rfl) (by kernel_rfl) (fun _ _ _ h => h) (by rfl) ?y4 ?r4
  case y4 => (intro w9q hSwq; clear hSwq; go_simp; with_reducible rfl)
  try simp only [Act.put, List.setIfInBounds_toArray, List.set_cons_zero, List.set_cons_succ]
  refine rest_got (i := 5) (v := ?v5) rfl (by kernel_rfl) (by kernel_rfl) (by kernel_rfl) (fun _ _ _ h => h) (by rfl) ?y5 ?r5
  case y5 => ((intro w' hm; have hc' := Mod.cell hm A1.out HK.out; clear hm; go_simp; with_reducible rfl))
  try simp only [Act.put, List.setIfInBounds_toArray, List.set_cons_zero, List.set_cons_succ]
  refine rest_got (i := 6) (v := ?v6) rfl (by kernel_rfl) (by kernel_rfl) (by kernel_rfl) (fun _ _ _ h => h) (by rfl) ?y6 ?r6
  case y6 => (intro w9q hSwq; clear hSwq; go_simp; with_reducible rfl)
  try simp only [Act.put, List.setIfInBounds_toArray, List.set_cons_zero, List.set_cons_succ]
  refine rest_one (i := 3) (by kernel_rfl) rfl (by rfl) ?_
  go_wp2_with fail
  refine (vuint_any _ _ _ _ xs _ hlen O1.out hn (by omega)).mono ?_
  rintro e w2 ⟨a2, k2, c2, rfl, hk2, o2, m2, n2⟩
  have hb2 : k2 ≤ 140737488354020 := by rw [← hk2]; simp; omega
  have K2 := Lib.hid hk2
  have M2 := Lib.hid (Mod.trans (S := blk ao) (M1.out.nil) m2 (fun i hi _ => hi))
  have N2 := Lib.hid (show SameOrNew w w2 ao a2 from n2.imp id (fun ⟨g, h1, h2, h3⟩ => ⟨g, h1, Nat.le_trans M1.out.size h2, h3⟩))
  have O2 := Lib.hid o2
  go_wp2_with fail
  refine back_to (K1 := blk a2) m2 (fun i hi hl => by rcases n2.blk i hi with h | h; exact h; omega) ?_
  clear m2 n2 o2 hk2 A0 A1 M1 O1 HK
  
  refine rest_one (i := 7) (by kernel_rfl) rfl (by rfl) ?_
  go_wp2_with fail
  refine (vuint_any _ _ _ _ _ _ K2.out O2.out (by omega) (by omega)).mono ?_
  rintro e w3 ⟨a3, k3, c3, rfl, hk3, o3, m3, n3⟩
  have HR := Lib.hid (RetApp.chain M2.out N2.out ⟨a3, k3, c3, rfl, hk3, o3, m3, n3⟩)
  go_wp2_with fail
  refine back_to (K1 := []) m3 (by simp) ?_
  clear hk3 o3 m3 n3 M2 N2 O2 K2
  refine rest_got (i := 8) (v := ?v7) rfl (by kernel_rfl) (by kernel_rfl) (by kernel_rfl) (fun _ _ _ h => h) (by rfl) ?y7 ?r7
  case y7 => (intro w9q hSwq; clear hSwq; go_simp; with_reducible rfl)
  try simp only [Act.put, List.setIfInBounds_toArray, List.set_cons_zero, List.set_cons_succ]
  refine rest_done (by kernel_rfl) ?_ _
  go_wp2
  go_ret
  exact HR.out

set_option maxHeartbeats 1000000 in
theorem refBytes_any (n r : Nat) (w : World) (hn : n < 18446744073709551616) (hr : r < 9223372036854775808) :
    Calls Tryd.prog 35 #[ballot n r] w (RetApp w none (enc7 n ++ enc7 r)) := by
  unfold ballot
  have hw : IntKind.u64.wrap (r : Int) = (r : Int) := IntWalk.u64_in _ (by omega)
  have hl1 := (enc7_length n).2
  have hl2 := (enc7_length r).2
  go_enter Tryd.func35, Tryd.ntmps35
  go_upto_region 1 with (fail)
  have hb1 := heap_alloc_new w (.cells #[.int .u64 (n : Int), .int .i64 (r : Int)] 24)
  have m0 := Mod.alloc [] w (.cells #[.int .u64 (n : Int), .int .i64 (r : Int)] 24)
  refine rest_start [] 9 #[false, false, false, false, false, false, false, false, false] rfl (by kernel_rfl) (by kernel_rfl) ?_
  intro w1 m1
  have A0 := Lib.hid (cell_of_block (i := 0) (m1.get hb1 (by simp)))
  have A1 := Lib.hid (cell_of_block (i := 1) (m1.get hb1 (by simp)))
  have M1 := Lib.hid (m0.trans' m1)
  clear hb1 m0 m1
  refine rest_got (i := 0) (v := ?v8) rfl (by kernel_rfl) (by kernel_rfl) (by kernel_rfl) (fun _ _ _ h => h) (by rfl) ?y8 ?r8
  case y8 => (intro w9q hSwq; clear hSwq; go_simp; with_reducible rfl)
  try simp only [Act.put, List.setIfInBounds_toArray, List.set_cons_zero, List.set_cons_succ]
  refine rest_got (i := 1) (v := ?v9) rfl (by kernel_rfl) (by kernel_rfl) (by kernel_rfl) (fun _ _ _ h => h) (by rfl) ?y9 ?r9
  case y9 => ((intro w9' hm9'; have hc9' := Mod.cell hm9' A0.out (by first | exact List.not_mem_nil | (simp; omega)); clear hm9'; go_simp; with_reducible rfl))
  try simp only [Act.put, List.setIfInBounds_toArray, List.set_cons_zero, List.set_cons_succ]
  refine rest_got (i := 3) (v := ?v10) rfl (by kernel_rfl) (by kernel_rfl) (by kernel_rfl) (fun _ _ _ h => h) (by rfl) ?y10 ?r10
  case y10 => (intro w9q hSwq; clear hSwq; go_simp; with_reducible rfl)
  try simp only [Act.put, List.setIfInBounds_toArray, List.set_cons_zero, List.set_cons_succ]
  refine rest_got (i := 4) (v := ?v11) rfl (by kernel_rfl) (by kernel_rfl) (by kernel_rfl) (fun _ _ _ h => h) (by rfl) ?y11 ?r11
  case y11 => ((intro w9' hm9'; have hc9' := Mod.cell hm9' A1.out (by first | exact List.not_mem_nil | (simp; omega)); clear hm9'; go_simp; with_reducible rfl))
  try simp only [Act.put, List.setIfInBounds_toArray, List.set_cons_zero, List.set_cons_succ]
  refine rest_got (i := 5) (v := ?v12) rfl (by kernel_rfl) (by kernel_rfl) (by kernel_rfl) (fun _ _ _ h => h) (by rfl) ?y12 ?r12
  case y12 => (intro w9q hSwq; clear hSwq; go_simp; with_reducible rfl)
  try simp only [Act.put, List.setIfInBounds_toArray, List.set_cons_zero, List.set_cons_succ]
  refine rest_one (i := 2) (by kernel_rfl) rfl (by rfl) ?_
  go_wp2_with fail
  refine (refUint_any n _ hn).mono ?_
  rintro e w2 ⟨a2, k2, c2, rfl, hk2, o2, m2, n2⟩
  subst hk2
  go_wp2_with fail
  refine back_to (K1 := blk a2) m2 (fresh_of n2) ?_
  have M2 := Lib.hid (M1.out.trans' m2)
  have N2 := Lib.hid (show SameOrNew w w2 none a2 from n2.imp id (fun ⟨g, h1, h2, h3⟩ => ⟨g, h1, Nat.le_trans M1.out.size h2, h3⟩))
  have O2 := Lib.hid o2
  clear A0 A1 M1 m2 n2 o2
  
  refine rest_one (i := 6) (by kernel_rfl) rfl (by rfl) ?_
  go_wp2_with fail
  refine (refUint_any r _ (by omega)).mono ?_
  rintro e w3 ⟨a3, k3, c3, rfl, hk3, o3, m3, n3⟩
  subst hk3
  go_wp2_with fail
  refine back_to (K1 := blk a2) (Mod.nil m3) (fun i hi _ => hi) ?_
  have M3 := Lib.hid (M2.out.trans' m3)
  have N3 := Lib.hid (show SameOrNew w w3 none a2 from N2.out.imp id (fun ⟨g, h1, h2, h3⟩ => ⟨g, h1, h2, Nat.lt_of_lt_of_le h3 m3.size⟩))
  have O3a := Lib.hid (Own.mod0 O2.out m3)
  have O3 := Lib.hid o3
  clear M2 N2 O2 m3 n3 o3
  
  refine rest_one (i := 7) (by kernel_rfl) rfl (by rfl) ?_
  go_wp2_with (at_builtin; refine wpl_app8 _ _ a2 _ c2 (enc7 n) rfl rfl O3a.out a3 _ c3 (enc7 r) rfl rfl O3.out.sees (by omega) ?_; intro a4 c4 w4 o4 m4 n4)
  refine back_to (K1 := []) m4 (by simp) ?_
  have HR := Lib.hid (RetApp.chain (x := none) (e := .returned (.slice a4 ((enc7 n).length + (enc7 r).length) c4)) M3.out N3.out ⟨a4, _, c4, rfl, by simp, o4, m4, n4⟩)
  clear o4 m4 n4 M3 N3 O3a O3
  refine rest_got (i := 8) (v := ?v13) rfl (by kernel_rfl) (by kernel_rfl) (by kernel_rfl) (fun _ _ _ h => h) (by rfl) ?y13 ?r13
  case y13 => (intro w9q hSwq; clear hSwq; go_simp; with_reducible rfl)
  try simp only [Act.put, List.setIfInBounds_toArray, List.set_cons_zero, List.set_cons_succ]
  refine rest_done (by kernel_rfl) ?_ _
  go_wp2
  go_ret
  exact HR.out
end Go.Proofs.YtekdnljincbghaaDoor
/- The walks of the varint package's reader: what it holds, what it reads. -/
namespace Go.Proofs.YtekdnljincbghaaDoor
open Go Go.RowKit

/-- A reader at block g: its error, the bytes that are left (in a block of bs), its limit. -/
def Rd (w : World) (g : Nat) (bs : List Nat) (e : Int) (l : List UInt8) (lim : Int) : Prop :=
  g ∉ bs ∧ ∃ ao cap, w.heap[g]? = some (.cells #[.int .i64 e, .slice ao l.length cap, .int .i64 lim] 101 (0, 0)) ∧
    l.length ≤ cap ∧ cap ≤ 9223372036854775807 ∧ Sees w ao l ∧ (l ≠ [] → ∀ k, k ∈ blk ao → k ∈ bs)

/-- Bytes that are seen stay seen where the blocks that are turned are none of theirs. -/
theorem Sees.mod' {S : List Nat} {w w' : World} {ao : Option Addr} {l : List UInt8} (h : Sees w ao l) (hm : Mod S w w') (hn : l ≠ [] → ∀ k, k ∈ blk ao → k ∉ S) : Sees w' ao l := by
  cases l with
  | nil => exact Sees.nil _ _
  | cons c r => exact h.mod hm (fun b off hb => hn (by simp) b (by subst hb; simp [blk]))
theorem Sees.lt {w : World} {ao : Option Addr} {l : List UInt8} (h : Sees w ao l) (h0 : l ≠ []) : ∀ k, k ∈ blk ao → k < w.heap.size := by
  intro k hk
  obtain ⟨b, off, rfl, h2⟩ := h 0 (List.length_pos_iff.2 h0)
  simp only [blk, List.mem_singleton] at hk
  subst hk
  exact World.block_lt_of_cell? w _ h2
/-- The block of bytes that are seen. -/
def blkOf (ao : Option Addr) (l : List UInt8) : List Nat := if l = [] then [] else blk ao
theorem mem_blkOf {ao : Option Addr} {l : List UInt8} {k : Nat} (h : k ∈ blkOf ao l) : l ≠ [] ∧ k ∈ blk ao := by
  unfold blkOf at h
  split at h
  · simp at h
  · rename_i h0; exact ⟨h0, h⟩
theorem blkOf_mem {ao : Option Addr} {l : List UInt8} (h : l ≠ []) : ∀ k, k ∈ blk ao → k ∈ blkOf ao l := by
  intro k hk; unfold blkOf; rw [if_neg h]; exact hk
theorem Sees.ltOf {w : World} {ao : Option Addr} {l : List UInt8} (h : Sees w ao l) : ∀ k, k ∈ blkOf ao l → k < w.heap.size := fun k hk => h.lt (mem_blkOf hk).1 k (mem_blkOf hk).2
theorem Rd.mod {S : List Nat} {w w' : World} {g : Nat} {bs : List Nat} {e : Int} {l : List UInt8} {lim : Int} (h : Rd w g bs e l lim) (hm : Mod S w w') (hg : g ∉ S) (hb : ∀ k, k ∈ bs → k ∉ S) : Rd w' g bs e l lim := by
  obtain ⟨h1, ao, cap, h2, h3, h4, h5, h6⟩ := h
  exact ⟨h1, ao, cap, hm.get h2 hg, h3, h4, h5.mod' hm (fun h0 k hk => hb k (h6 h0 k hk)), h6⟩
theorem Rd.mod0 {w w' : World} {g : Nat} {bs : List Nat} {e : Int} {l : List UInt8} {lim : Int} (h : Rd w g bs e l lim) (hm : Mod [] w w') : Rd w' g bs e l lim := h.mod hm (by simp) (by simp)
theorem Rd.lt {w : World} {g : Nat} {bs : List Nat} {e : Int} {l : List UInt8} {lim : Int} (h : Rd w g bs e l lim) : g < w.heap.size := by
  obtain ⟨h1, ao, cap, h2, _⟩ := h
  exact lt_of_block h2
/-- The error is set. -/
theorem Rd.err {w : World} {g : Nat} {bs : List Nat} {e : Int} {l : List UInt8} {lim : Int} (h : Rd w g bs e l lim) (e' : Int) : Rd (w.setCell ⟨g, 0, none⟩ (.int .i64 e')) g bs e' l lim := by
  obtain ⟨h1, ao, cap, h2, h3, h4, h5, h6⟩ := h
  refine ⟨h1, ao, cap, ?_, h3, h4, h5.mod' (Mod.setCell (S := [g]) w ⟨g, 0, none⟩ _ (by simp)) (fun h0 k hk hg => h1 (by simp only [List.mem_singleton] at hg; subst hg; exact h6 h0 _ hk)), h6⟩
  rw [heap_setCell_same h2]; rfl
/-- Bytes are passed. -/
theorem Rd.pass {w : World} {g : Nat} {bs : List Nat} {e : Int} {l l' : List UInt8} {lim : Int} (h : Rd w g bs e l lim) {ao : Option Addr} {cap n : Nat} (hl : l'.length = n) (hc : n ≤ cap) (hm : cap ≤ 9223372036854775807) (hs : Sees w ao l') (hb : l' ≠ [] → ∀ k, k ∈ blk ao → k ∈ bs) :
    Rd (w.setCell ⟨g, 1, none⟩ (.slice ao n cap)) g bs e l' lim := by
  subst hl
  obtain ⟨h1, ao0, cap0, h2, h3, h4, h5, h6⟩ := h
  refine ⟨h1, ao, cap, ?_, hc, hm, hs.mod' (Mod.setCell (S := [g]) w ⟨g, 1, none⟩ _ (by simp)) (fun h0 k hk hg => h1 (by simp only [List.mem_singleton] at hg; subst hg; exact hb h0 _ hk)), hb⟩
  rw [heap_setCell_same h2]; rfl
theorem Sees.drop {w : World} {b off : Nat} {l : List UInt8} (h : Sees w (some ⟨b, off, none⟩) l) (k : Nat) : Sees w (some ⟨b, off + k, none⟩) (l.drop k) := by
  intro j hj
  have hj' : k + j < l.length := by simp only [List.length_drop] at hj; omega
  obtain ⟨b', off', h1, h2⟩ := h (k + j) hj'
  cases h1
  exact ⟨b, off + k, rfl, by rw [List.getElem_drop, Nat.add_assoc]; exact h2⟩
theorem Sees.drop1 {w : World} {b off : Nat} {c : UInt8} {l : List UInt8} (h : Sees w (some ⟨b, off, none⟩) (c :: l)) : Sees w (some ⟨b, off + 1, none⟩) l := h.drop 1
/-- What a walk needs of it. -/
theorem Rd.open {w : World} {g : Nat} {bs : List Nat} {e : Int} {l : List UInt8} {lim : Int} (h : Rd w g bs e l lim) :
    ∃ ao cap, w.cell? ⟨g, 0, none⟩ = some (.int .i64 e) ∧ w.cell? ⟨g, 1, none⟩ = some (.slice ao l.length cap) ∧ w.cell? ⟨g, 2, none⟩ = some (.int .i64 lim) ∧
      (∀ i, w.frozen? ⟨g, i, none⟩ = false) ∧ l.length ≤ cap ∧ cap ≤ 9223372036854775807 ∧ Sees w ao l ∧ (l ≠ [] → ∀ k, k ∈ blk ao → k ∈ bs) := by
  obtain ⟨h1, ao, cap, h2, h3, h4, h5, h6⟩ := h
  exact ⟨ao, cap, by rw [cell_of_block h2]; rfl, by rw [cell_of_block h2]; rfl, by rw [cell_of_block h2]; rfl, fun i => free_of_block h2, h3, h4, h5, h6⟩

set_option maxHeartbeats 400000 in
theorem fail_any (g : Nat) (e c : Int) (w : World) (h0 : w.cell? ⟨g, 0, none⟩ = some (.int .i64 e)) (hf : w.frozen? ⟨g, 0, none⟩ = false) :
    Calls Tryd.prog 61 #[.pointer (some ⟨g, 0, none⟩), .int .i64 c] w fun r w' => (∃ v, r = .returned v) ∧ w' = if e = 0 then w.setCell ⟨g, 0, none⟩ (.int .i64 c) else w := by
  by_cases he : e = 0
  · subst he
    go_enter Tryd.func61, Tryd.ntmps61
    go_wp2
    go_end0
    exact ⟨⟨_, rfl⟩, by simp⟩
  · go_enter Tryd.func61, Tryd.ntmps61
    go_wp2
    go_end0
    exact ⟨⟨_, rfl⟩, by simp⟩

set_option maxHeartbeats 400000 in
theorem err_any (g : Nat) (bs : List Nat) (e : Int) (l : List UInt8) (lim : Int) (w : World) (h : Rd w g bs e l lim) :
    Calls Tryd.prog 60 #[.pointer (some ⟨g, 0, none⟩)] w fun r w' => r = .returned (.int .i64 e) ∧ w' = w := by
  obtain ⟨ao, cap, c0, c1, c2, fr, h3, h4, h5, h6⟩ := h.open
  clear h5 h6
  go_enter Tryd.func60, Tryd.ntmps60
  go_wp2
  go_ret
  exact ⟨rfl, rfl⟩
theorem errNil_any (w : World) :
    Calls Tryd.prog 60 #[.pointer none] w fun r w' => r = .returned (.int .i64 2) ∧ w' = w := by
  go_enter Tryd.func60, Tryd.ntmps60
  go_wp2
  go_ret
  exact ⟨rfl, rfl⟩

/-- What a byte is read as: the byte, the error behind it, what is left. -/
def byteR (e : Int) : List UInt8 → Int × Int × List UInt8
  | [] => (0, if e = 0 then 10 else e, [])
  | c :: r => if e = 0 then (((c.toNat : Nat) : Int), 0, r) else (0, e, c :: r)

set_option maxHeartbeats 400000 in
theorem byte_any (g : Nat) (bs : List Nat) (e : Int) (l : List UInt8) (lim : Int) (w : World) (h : Rd w g bs e l lim) :
    Calls Tryd.prog 59 #[.pointer (some ⟨g, 0, none⟩)] w fun r w' => r = .returned (.int .u8 (byteR e l).1) ∧ Rd w' g bs (byteR e l).2.1 (byteR e l).2.2 lim ∧ Mod [g] w w' := by
  obtain ⟨ao, cap, c0, c1, c2, fr, h3, h4, h5, h6⟩ := h.open
  have fr0 := fr 0
  have fr1 := fr 1
  have H := Lib.hid h
  have HB := Lib.hid h6
  have HS := Lib.hid h5
  clear h fr h6 h5
  by_cases he : e = 0
  · subst he
    cases l with
    | nil =>
      go_enter Tryd.func59, Tryd.ntmps59
      go_wp2_with (go_at_call 61; refine (fail_any g 0 10 _ c0 fr0).mono ?_; rintro e w1 ⟨⟨v, rfl⟩, rfl⟩)
      go_ret
      exact ⟨rfl, H.out.err 10, Mod.setCell _ _ _ (by simp)⟩
    | cons c r =>
      obtain ⟨b, off, ha, hc⟩ := HS.out 0 (by simp)
      subst ha
      simp only [Nat.add_zero, List.getElem_cons_zero] at hc
      have hlen : (c :: r).length = r.length + 1 := rfl
      by_cases hcap : cap = 1
      · subst hcap
        have hr : r = [] := List.eq_nil_of_length_eq_zero (by omega)
        subst hr
        go_enter Tryd.func59, Tryd.ntmps59
        go_wp2
        go_ret
        exact ⟨rfl, H.out.pass rfl (by simp) (by simp) (Sees.nil _ _) (fun h => absurd rfl h), Mod.setCell _ _ _ (by simp)⟩
      · go_enter Tryd.func59, Tryd.ntmps59
        go_wp2
        go_ret
        refine ⟨rfl, H.out.pass rfl (by omega) (by omega) (HS.out.drop1) (by intro _ k hk; exact HB.out (by simp) k (by simpa [blk] using hk)), Mod.setCell _ _ _ (by simp)⟩
  · go_enter Tryd.func59, Tryd.ntmps59
    go_wp2
    go_ret
    have : byteR e l = (0, e, l) := by cases l <;> simp [byteR, he]
    rw [this]
    exact ⟨rfl, H.out, Mod.refl _ _⟩
end Go.Proofs.YtekdnljincbghaaDoor
/- A message's bytes; the walks of msg.lay and what it calls. -/
namespace Go.Proofs.YtekdnljincbghaaDoor
open Go Go.RowKit Go.Lib

def txL (l : List UInt8) : List UInt8 := enc7 l.length ++ l
def ballB (n : Nat) (r : Int) : List UInt8 := enc7 n ++ enc7 r.toNat
def voteB (v : Vd × List UInt8) : List UInt8 := enc7 v.1.slot ++ ballB v.1.n v.1.r ++ txL v.2
/-- A field's bytes, by its letter. -/
def fieldB (d : Md) (c : UInt8) : List UInt8 :=
  if c = 98 then ballB d.h.bn d.h.br else if c = 99 then enc7 d.h.commit else if c = 102 then enc7 d.h.first else if c = 108 then enc7 d.h.last else if c = 112 then txL d.snap
  else if c = 115 then enc7 d.batches.length ++ d.batches.flatMap txL else if c = 118 then enc7 d.votes.length ++ d.votes.flatMap voteB else []
/-- What lies behind the sum. -/
def insideB (d : Md) : List UInt8 := enc7 d.h.kind ++ (Fl d.h.kind).flatMap (fieldB d)
theorem txL_len (l : List UInt8) : (txL l).length ≤ l.length + 11 := by
  unfold txL
  rw [List.length_append]
  have := (enc7_length l.length).2
  omega
/-- Where bytes lie in a call that writes behind them, and what has turned since w. -/
structure PutR (w : World) (ao a : Option Addr) (c : Nat) (xs : List UInt8) (wr : World) : Prop where
  own : OwnB wr a c xs
  mod : Mod (blk ao) w wr
  new : SameOrNew w wr ao a
theorem PutR.start {w : World} {ao : Option Addr} {c : Nat} {xs : List UInt8} (h : OwnB w ao c xs) : PutR w ao ao c xs w := ⟨h, Mod.refl _ _, .inl rfl⟩
theorem PutR.step {w wr w' : World} {ao a a' : Option Addr} {c c' : Nat} {xs ys : List UInt8} (h : PutR w ao a c xs wr) (o : OwnB w' a' c' ys) (m : Mod (blk a) wr w') (n : SameOrNew wr w' a a') : PutR w ao a' c' ys w' :=
  ⟨o, h.mod.transNew m h.new (fun _ hk => hk), h.new.trans n h.mod.size m.size⟩
theorem PutR.still {w wr w' : World} {ao a : Option Addr} {c : Nat} {xs : List UInt8} (h : PutR w ao a c xs wr) (m : Mod [] wr w') : PutR w ao a c xs w' :=
  ⟨h.own.mod0 m, h.mod.trans0 m, h.new.imp id (fun ⟨b, h1, h2, h3⟩ => ⟨b, h1, h2, Nat.lt_of_lt_of_le h3 m.size⟩)⟩
theorem back_keys {w w' : World} {a a' : Option Addr} (n : SameOrNew w w' a a') : ∀ k, k ∈ blk a' → k < w.heap.size → k ∈ blk a := fun k hk hl => (n.blk k hk).elim id (fun h => absurd hl (by omega))
theorem PutR.fresh {w wr : World} {ao a : Option Addr} {c : Nat} {xs : List UInt8} {g : Nat} (h : PutR w ao a c xs wr) (hg : g < w.heap.size) (hn : g ∉ blk ao) : g ∉ blk a := fun hk => (h.new.blk g hk).elim hn (by omega)
/-- From an earlier world, where nothing was known of the bytes' place. -/
theorem PutR.ret {w0 w wr : World} {ao a : Option Addr} {c : Nat} {xs : List UInt8} {n : Nat} (h : PutR w ao a c xs wr) (m : Mod [] w0 w) (hn : xs.length = n) : RetApp w0 ao xs (.returned (.slice a n c)) wr :=
  ⟨a, n, c, rfl, hn, h.own, m.nil.trans' h.mod, h.new.imp id (fun ⟨b, h1, h2, h3⟩ => ⟨b, h1, Nat.le_trans m.size h2, h3⟩)⟩
theorem PutR.base {W w wr : World} {ao a : Option Addr} {c : Nat} {xs : List UInt8} (h : PutR w ao a c xs wr) (m : Mod [] W w) (hd : ∀ k, k ∈ blk ao → W.heap.size ≤ k) : Mod [] W wr :=
  m.trans h.mod (fun k hk hl => by have := hd k hk; omega)
theorem PutR.off {W w wr : World} {ao a : Option Addr} {c : Nat} {xs : List UInt8} (h : PutR w ao a c xs wr) (m : Mod [] W w) (hd : ∀ k, k ∈ blk ao → W.heap.size ≤ k) : ∀ k, k ∈ blk a → W.heap.size ≤ k := fun k hk => by
  rcases h.new.blk k hk with h1 | h1
  · exact hd k h1
  · exact Nat.le_trans m.size h1

theorem text_any (ao : Option Addr) (len cap : Nat) (l xs : List UInt8) (w : World) (hlen : xs.length = len) (hown : OwnB w ao cap xs) (hb : len ≤ 140737400000000) (hs : l.length ≤ 1000000) :
    Calls Tryd.prog 51 #[.slice ao len cap, .string ⟨l.toArray⟩] w (RetApp w ao (xs ++ txL l)) := by
  unfold txL
  rw [← List.append_assoc]
  have h := vtext_any ao len cap ⟨l.toArray⟩ xs w hlen hown hb (by show l.toArray.size ≤ _; simpa using hs)
  have e1 : (⟨l.toArray⟩ : ByteArray).size = l.length := by show l.toArray.size = _; simp
  rw [e1] at h
  exact h
/-- lay's inner function for a batch. -/
theorem lay1_any (ao : Option Addr) (len cap : Nat) (xs : List UInt8) (x : Bs) (w : World) (hlen : xs.length = len) (hown : OwnB w ao cap xs) (hb : len ≤ 140737400000000) (hx : Sees w x.2.1 x.1) (hl : x.1.length ≤ 1000000) :
    Calls Tryd.prog 53 #[.slice ao len cap, .slice x.2.1 x.1.length x.2.2] w (RetApp w ao (xs ++ txL x.1)) := by
  obtain ⟨l, xo, xc⟩ := x
  dsimp only at hx hl ⊢
  have HX := Lib.hid hx
  have HT := Lib.hid (text_any ao len cap l xs w hlen hown hb hl)
  clear hx hown hlen
  go_enter Tryd.func53, Tryd.ntmps53
  go_wp2_with (first | (refine wpl_str (dst := some 7) _ xo _ xc l rfl rfl HX.out (by rfl) ?_) | fail)
  refine HT.out.mono ?_
  rintro e w1 ⟨a, n, c, rfl, h1⟩
  have H1 := Lib.hid h1
  clear h1 HT
  go_wp2_with fail
  go_ret
  exact ⟨a, n, c, rfl, H1.out⟩

theorem flat_take {α : Type} (f : α → List UInt8) (l : List α) (k : Nat) (hk : k < l.length) : (l.take (k + 1)).flatMap f = (l.take k).flatMap f ++ f l[k] := by
  rw [List.take_succ_eq_append_getElem hk, List.flatMap_append]
  simp
set_option maxRecDepth 100000 in
set_option maxHeartbeats 4000000 in
theorem row1_any (ao : Option Addr) (len cap : Nat) (xs : List UInt8) (so : Option Addr) (sc : Nat) (bs : List Bs) (W w : World) (hlen : xs.length = len) (hown : OwnB w ao cap xs) (hb : len ≤ 100000000) (hW : Mod [] W w) (hd : ∀ k, k ∈ blk ao → W.heap.size ≤ k)
    (hs : SeesBs W so bs) (hn : bs.length ≤ 300) (hl : ∀ b ∈ bs, b.1.length ≤ 10000) :
    Calls Tryd.prog 52 #[.slice ao len cap, .slice so bs.length sc, .func (.func 53) #[] #[]] w (RetApp w ao (xs ++ (enc7 bs.length ++ (dB bs).flatMap txL))) := by
  obtain ⟨bl, hbl⟩ : ∃ n, bs.length = n := ⟨_, rfl⟩
  have P0 := Lib.hid (PutR.start hown)
  have HBL := Lib.hid hbl
  have HW := Lib.hid hW
  have HD := Lib.hid hd
  have HS := Lib.hid hs
  have HL := Lib.hid hl
  have HXL := Lib.hid hlen
  rw [hbl] at hn ⊢
  have el := (enc7_length bl).2
  clear hown hbl hW hd hs hl hlen
  have e1 : IntKind.u64.wrap (bl : Int) = (bl : Int) := IntWalk.u64_in _ (by omega)
  go_enter Tryd.func52, Tryd.ntmps52
  go_wp2_with fail
  clear e1
  refine (vuint_any ao len cap bl xs w HXL.out P0.out.own (by omega) (by omega)).mono ?_
  rintro e w1 ⟨a1, n1, c1, rfl, k1, o1, m1, s1⟩
  have P1 := Lib.hid (P0.out.step o1 m1 s1)
  have HK1 := Lib.hid k1
  have hn1 : n1 ≤ len + 11 := by rw [← k1, List.length_append, HXL.out]; omega
  clear k1 o1 m1 s1 P0
  go_wp2_with fail
  go_loopw [0, 16] (fun s0 s16 wr => ∃ (k : Nat) (a : Option Addr) (kk c : Nat), k ≤ bl ∧ s16 = .int .i64 (k : Int) ∧ s0 = .slice a kk c ∧ (xs ++ enc7 bl ++ ((dB bs).take k).flatMap txL).length = kk ∧ kk ≤ n1 + 10011 * k ∧ PutR w ao a c (xs ++ enc7 bl ++ ((dB bs).take k).flatMap txL) wr) (fun _ s16 _ => bl - (intOf s16).toNat)
  case atStart => exact ⟨0, a1, n1, c1, Nat.zero_le _, rfl, rfl, by simpa using HK1.out, by omega, by simpa using P1.out⟩
  case round =>
    obtain ⟨k, a, kk, c, hk, rfl, rfl, hkk, hkb, hp⟩ := hrel
    rename World => wr
    have P := Lib.hid hp
    have HKK := Lib.hid hkk
    clear hp hkk P1 HK1
    by_cases hlt : k < bl
    · have hkl : k < bs.length := by rw [HBL.out]; exact hlt
      have hlt2 : (k : Int) < (bl : Int) := by omega
      obtain ⟨b, off, rfl, hc⟩ := HS.out.batch hkl
      obtain ⟨p0, p1⟩ := hc wr (P.out.base HW.out HD.out)
      have hz := HL.out _ (List.getElem_mem hkl)
      have hft := flat_take txL (dB bs) k (by rw [dB_length]; exact hkl)
      have hg : (dB bs)[k]'(by rw [dB_length]; exact hkl) = bs[k].1 := by unfold dB; rw [List.getElem_map]
      rw [hg] at hft
      obtain ⟨⟨l, xo, xc⟩, hx⟩ : ∃ x, bs[k] = x := ⟨_, rfl⟩
      rw [hx] at p0 p1 hz hft
      dsimp only at p0 p1 hz hft
      have HFT := Lib.hid hft
      have HC := Lib.hid (lay1_any a kk c _ (l, xo, xc) wr HKK.out P.out.own (by omega) p1 (by dsimp only; omega))
      clear hc hx hft hg p1
      go_wp2_with fail
      refine HC.out.mono ?_
      rintro e w2 ⟨a2, n2, c2, rfl, k2, o2, m2, s2⟩
      have hE : xs ++ enc7 bl ++ ((dB bs).take (k + 1)).flatMap txL = xs ++ enc7 bl ++ ((dB bs).take k).flatMap txL ++ txL l := by rw [HFT.out, List.append_assoc, List.append_assoc, List.append_assoc]
      rw [← hE] at k2 o2
      have P2 := Lib.hid (P.out.step o2 m2 s2)
      have hl2 := txL_len l
      have hb2 : n2 ≤ n1 + 10011 * (k + 1) := by rw [← k2, hE, List.length_append, HKK.out]; omega
      have HK2 := Lib.hid k2
      clear k2 o2 m2 s2 hE HC p0 HFT
      go_wp2_with fail
      go_roundw
      case rel => exact ⟨k + 1, a2, n2, c2, by omega, by go_num, rfl, HK2.out, hb2, P2.out⟩
      case measure => simp [intOf]; omega
    · have hke : k = bl := by omega
      subst hke
      have hT : (dB bs).take k = dB bs := List.take_of_length_le (by rw [dB_length, HBL.out]; exact Nat.le_refl _)
      rw [hT, List.append_assoc] at P HKK
      clear hT
      go_wp2_with fail
      go_ret
      exact P.out.ret (Mod.refl _ _) HKK.out

theorem reads_strE {K : List Nat} {w : World} {dst : Option Tmp} {ty : TypeId} {pos : String} {after : Array Edge} {gd : Option (Nat × Bool)} (ev : Operand → Value) (x : Operand)
    (so : Option Addr) (m c : Nat) (l : List UInt8) (hx : ev x = .slice so m c) (hl : l.length = m) (hsees : Sees w so l) (hk : l ≠ [] → ∀ k, k ∈ blk so → k ∉ K) :
    ∀ w', Mod K w w' → (execOp ev ⟨dst, .convert 27 9 x, ty, pos, after, gd⟩).run Tryd.prog w' = .ok (.value (.string ⟨l.toArray⟩)) w' := by
  subst hl
  intro w' hm
  have hr := run_string_of (P := Tryd.prog) w' 27 9 5 Tryd.underlying27 Tryd.underlying5 Tryd.underlying9 so c l (hsees.mod' hm hk)
  unfold execOp
  simp [hx, hr]
/-- lay's inner function for a vote. -/
theorem lay2_any (ao : Option Addr) (len cap : Nat) (xs : List UInt8) (v : Vm) (w : World) (hlen : xs.length = len) (hown : OwnB w ao cap xs) (hb : len ≤ 140737000000000) (hx : Sees w v.2.2.1 v.2.1) (hd : v.2.1 ≠ [] → ∀ k, k ∈ blk v.2.2.1 → k ∉ blk ao) (hl : v.2.1.length ≤ 1000000)
    (hw : WfV v.1) (hr : 0 ≤ v.1.r) :
    Calls Tryd.prog 55 #[.slice ao len cap, .agg #[.int .u64 (v.1.slot : Int), .int .u64 (v.1.n : Int), .int .i64 v.1.r, .slice v.2.2.1 v.2.1.length v.2.2.2]] w (RetApp w ao (xs ++ voteB (v.1, v.2.1))) := by
  obtain ⟨⟨slot, n, r⟩, l, xo, xc⟩ := v
  unfold WfV at hw
  dsimp only at hx hl hw hr hd ⊢
  obtain ⟨rn, rfl⟩ : ∃ rn : Nat, r = (rn : Int) := ⟨r.toNat, by omega⟩
  have hlt := Own.lt hown
  have hbk : w.heap.size ∉ blk ao := fun h => by have := hlt _ h; omega
  obtain ⟨w1, hw1, A1, m1⟩ : ∃ x, w.alloc (.cells #[.int .u64 (slot : Int), .int .u64 (n : Int), .int .i64 (rn : Int), .slice xo l.length xc] 52) = x ∧ x.heap[w.heap.size]? = some (.cells #[.int .u64 (slot : Int), .int .u64 (n : Int), .int .i64 (rn : Int), .slice xo l.length xc] 52 (0, 0)) ∧ Mod [] w x := ⟨_, rfl, heap_alloc_new w _, Mod.alloc _ _ _⟩
  have P1 := Lib.hid (PutR.start (hown.mod0 m1))
  have HX := Lib.hid (hx.mod0 m1)
  have HA := Lib.hid A1
  have M1 := Lib.hid m1
  have HD := Lib.hid hd
  have HXL := Lib.hid hlen
  have l1 := (enc7_length slot).2
  have l2 := (enc7_length n).2
  have l3 := (enc7_length rn).2
  clear hown hx A1 m1 hd hlt hlen
  go_enter Tryd.func55, Tryd.ntmps55
  go_upto_region 1 with (fail)
  clear hw1
  refine rest_start (blk ao) 12 #[false, false, false, false, false, false, false, false, false, false, false, false] rfl (by kernel_rfl) (by kernel_rfl) ?_
  intro w2 m2
  have b0 := cell_of_block (i := 0) (m2.get HA.out List.not_mem_nil)
  have b1 := cell_of_block (i := 1) (m2.get HA.out List.not_mem_nil)
  have b2 := cell_of_block (i := 2) (m2.get HA.out List.not_mem_nil)
  have b3 := cell_of_block (i := 3) (m2.get HA.out List.not_mem_nil)
  have HX2 := Lib.hid (HX.out.mod0 m2)
  have P2 := Lib.hid (P1.out.still m2)
  clear m2 P1 HX
  refine rest_got (i := 0) (v := ?v1) rfl (by kernel_rfl) (by kernel_rfl) (by kernel_rfl) (fun _ _ _ h => h) (by rfl) ?y1 ?r1
  case y1 => (intro w9q hSwq; clear hSwq; go_simp; with_reducible rfl)
  try simp only [Act.put, List.setIfInBounds_toArray, List.set_cons_zero, List.set_cons_succ]
  refine rest_got (i := 1) (v := ?v2) rfl (by kernel_rfl) (by kernel_rfl) (by kernel_rfl) (fun _ _ _ h => h) (by rfl) ?y2 ?r2
  case y2 => (intro w9q hSwq; clear hSwq; go_simp; with_reducible rfl)
  try simp only [Act.put, List.setIfInBounds_toArray, List.set_cons_zero, List.set_cons_succ]
  refine rest_got (i := 2) (v := ?v3) rfl (by kernel_rfl) (by kernel_rfl) (by kernel_rfl) (fun _ _ _ h => h) (by rfl) ?y3 ?r3
  case y3 => ((intro w9' hm9'; have hc9' := Mod.cell hm9' b0 (by first | exact List.not_mem_nil | assumption | (simp; done) | (simp; omega)); clear hm9'; go_simp; with_reducible rfl))
  try simp only [Act.put, List.setIfInBounds_toArray, List.set_cons_zero, List.set_cons_succ]
  refine rest_got (i := 4) (v := ?v4) rfl (by kernel_rfl) (by kernel_rfl) (by kernel_rfl) (fun _ _ _ h => h) (by rfl) ?y4 ?r4
  case y4 => (intro w9q hSwq; clear hSwq; go_simp; with_reducible rfl)
  try simp only [Act.put, List.setIfInBounds_toArray, List.set_cons_zero, List.set_cons_succ]
  refine rest_got (i := 5) (v := ?v5) rfl (by kernel_rfl) (by kernel_rfl) (by kernel_rfl) (fun _ _ _ h => h) (by rfl) ?y5 ?r5
  case y5 => ((intro w9' hm9'; have hc9' := Mod.cell hm9' b1 (by first | exact List.not_mem_nil | assumption | (simp; done) | (simp; omega)); have hd9' := Mod.cell hm9' b2 (by first | exact List.not_mem_nil | assumption | (simp; done) | (simp; omega)); clear hm9'; go_simp; with_reducible rfl))
  try simp only [Act.put, List.setIfInBounds_toArray, List.set_cons_zero, List.set_cons_succ]
  refine rest_got (i := 7) (v := ?v6) rfl (by kernel_rfl) (by kernel_rfl) (by kernel_rfl) (fun _ _ _ h => h) (by rfl) ?y6 ?r6
  case y6 => (intro w9q hSwq; clear hSwq; go_simp; with_reducible rfl)
  try simp only [Act.put, List.setIfInBounds_toArray, List.set_cons_zero, List.set_cons_succ]
  refine rest_got (i := 8) (v := ?v7) rfl (by kernel_rfl) (by kernel_rfl) (by kernel_rfl) (fun _ _ _ h => h) (by rfl) ?y7 ?r7
  case y7 => ((intro w9' hm9'; have hc9' := Mod.cell hm9' b3 (by first | exact List.not_mem_nil | assumption | (simp; done) | (simp; omega)); clear hm9'; go_simp; with_reducible rfl))
  try simp only [Act.put, List.setIfInBounds_toArray, List.set_cons_zero, List.set_cons_succ]
  refine rest_got (i := 9) (v := ?v8) rfl (by kernel_rfl) (by kernel_rfl) (by kernel_rfl) (fun _ _ _ h => h) (by rfl) ?y8 ?r8
  case y8 => ((intro w9' hm9'; refine Eq.trans (reads_strE _ _ xo l.length xc l rfl rfl HX2.out HD.out w9' hm9') ?_; with_reducible rfl))
  try simp only [Act.put, List.setIfInBounds_toArray, List.set_cons_zero, List.set_cons_succ]
  refine rest_one (i := 3) (by kernel_rfl) rfl (by rfl) ?_
  go_wp2_with fail
  refine (vuint_any ao len cap slot xs w2 HXL.out P2.out.own (by omega) (by omega)).mono ?_
  rintro e w3 ⟨a3, n3, c3, rfl, k3, o3, m3, s3⟩
  have P3 := Lib.hid (P2.out.step o3 m3 s3)
  have hn3 : n3 ≤ len + 11 := by rw [← k3, List.length_append, HXL.out]; omega
  have HK3 := Lib.hid k3
  go_wp2_with fail
  refine back_to (K1 := blk a3) m3 (back_keys s3) ?_
  clear k3 o3 m3 s3 P2 b0 b1 b2 b3 HX2 hbk
  
  refine rest_one (i := 6) (by kernel_rfl) rfl (by rfl) ?_
  go_wp2_with fail
  refine (put_any a3 n3 c3 n rn _ w3 HK3.out P3.out.own (by omega) (by omega) (by omega)).mono ?_
  rintro e w4 ⟨a4, n4, c4, rfl, k4, o4, m4, s4⟩
  have P4 := Lib.hid (P3.out.step o4 m4 s4)
  have hn4 : n4 ≤ n3 + 22 := by rw [← k4, List.length_append, List.length_append, HK3.out]; omega
  have HK4 := Lib.hid k4
  go_wp2_with fail
  refine back_to (K1 := blk a4) m4 (back_keys s4) ?_
  clear k4 o4 m4 s4 P3
  
  refine rest_one (i := 10) (by kernel_rfl) rfl (by rfl) ?_
  go_wp2_with fail
  refine (text_any a4 n4 c4 l _ w4 HK4.out P4.out.own (by omega) hl).mono ?_
  rintro e w5 ⟨a5, n5, c5, rfl, k5, o5, m5, s5⟩
  have P5 := Lib.hid (P4.out.step o5 m5 s5)
  have HK5 := Lib.hid k5
  go_wp2_with fail
  refine back_to (K1 := blk a5) m5 (back_keys s5) ?_
  clear k5 o5 m5 s5 P4
  refine rest_got (i := 11) (v := ?v9) rfl (by kernel_rfl) (by kernel_rfl) (by kernel_rfl) (fun _ _ _ h => h) (by rfl) ?y9 ?r9
  case y9 => (intro w9q hSwq; clear hSwq; go_simp; with_reducible rfl)
  try simp only [Act.put, List.setIfInBounds_toArray, List.set_cons_zero, List.set_cons_succ]
  refine rest_done (by kernel_rfl) ?_ _
  go_wp2
  go_ret
  have hE : xs ++ voteB (⟨slot, n, (rn : Int)⟩, l) = xs ++ enc7 slot ++ enc7 n ++ enc7 rn ++ txL l := by
    unfold voteB ballB
    simp only [List.append_assoc, Int.toNat_natCast]
  rw [hE]
  exact P5.out.ret M1.out HK5.out

theorem voteB_len (v : Vd × List UInt8) : (voteB v).length ≤ v.2.length + 44 := by
  unfold voteB ballB
  have h1 := (enc7_length v.1.slot).2
  have h2 := (enc7_length v.1.n).2
  have h3 := (enc7_length v.1.r.toNat).2
  have h4 := txL_len v.2
  simp only [List.length_append]
  omega
set_option maxRecDepth 100000 in
set_option maxHeartbeats 4000000 in
theorem row2_any (ao : Option Addr) (len cap : Nat) (xs : List UInt8) (so : Option Addr) (sc : Nat) (vs : List Vm) (W w : World) (hlen : xs.length = len) (hown : OwnB w ao cap xs) (hb : len ≤ 100000000) (hW : Mod [] W w) (hd : ∀ k, k ∈ blk ao → W.heap.size ≤ k)
    (hs : SeesVs W so vs) (hn : vs.length ≤ 300) (hl : ∀ v ∈ vs, v.2.1.length ≤ 10000) (hw : ∀ v ∈ vs, WfV v.1) (hr : ∀ v ∈ vs, 0 ≤ v.1.r) :
    Calls Tryd.prog 54 #[.slice ao len cap, .slice so vs.length sc, .func (.func 55) #[] #[]] w (RetApp w ao (xs ++ (enc7 vs.length ++ (dV vs).flatMap voteB))) := by
  obtain ⟨bl, hbl⟩ : ∃ n, vs.length = n := ⟨_, rfl⟩
  have P0 := Lib.hid (PutR.start hown)
  have HBL := Lib.hid hbl
  have HW := Lib.hid hW
  have HD := Lib.hid hd
  have HS := Lib.hid hs
  have HL := Lib.hid hl
  have HWV := Lib.hid hw
  have HR := Lib.hid hr
  have HXL := Lib.hid hlen
  rw [hbl] at hn ⊢
  have el := (enc7_length bl).2
  clear hown hbl hW hd hs hl hlen hw hr
  have e1 : IntKind.u64.wrap (bl : Int) = (bl : Int) := IntWalk.u64_in _ (by omega)
  go_enter Tryd.func54, Tryd.ntmps54
  go_wp2_with fail
  clear e1
  refine (vuint_any ao len cap bl xs w HXL.out P0.out.own (by omega) (by omega)).mono ?_
  rintro e w1 ⟨a1, n1, c1, rfl, k1, o1, m1, s1⟩
  have P1 := Lib.hid (P0.out.step o1 m1 s1)
  have HK1 := Lib.hid k1
  have hn1 : n1 ≤ len + 11 := by rw [← k1, List.length_append, HXL.out]; omega
  clear k1 o1 m1 s1 P0
  go_wp2_with fail
  go_loopw [0, 16] (fun s0 s16 wr => ∃ (k : Nat) (a : Option Addr) (kk c : Nat), k ≤ bl ∧ s16 = .int .i64 (k : Int) ∧ s0 = .slice a kk c ∧ (xs ++ enc7 bl ++ ((dV vs).take k).flatMap voteB).length = kk ∧ kk ≤ n1 + 10044 * k ∧ PutR w ao a c (xs ++ enc7 bl ++ ((dV vs).take k).flatMap voteB) wr) (fun _ s16 _ => bl - (intOf s16).toNat)
  case atStart => exact ⟨0, a1, n1, c1, Nat.zero_le _, rfl, rfl, by simpa using HK1.out, by omega, by simpa using P1.out⟩
  case round =>
    obtain ⟨k, a, kk, c, hk, rfl, rfl, hkk, hkb, hp⟩ := hrel
    rename World => wr
    have P := Lib.hid hp
    have HKK := Lib.hid hkk
    clear hp hkk P1 HK1
    by_cases hlt : k < bl
    · have hkl : k < vs.length := by rw [HBL.out]; exact hlt
      have hlt2 : (k : Int) < (bl : Int) := by omega
      obtain ⟨b, off, rfl, hc⟩ := HS.out.vote hkl
      have hWr := P.out.base HW.out HD.out
      have hsz := hWr.size
      obtain ⟨p0, p1, p2, p3, p4⟩ := hc wr hWr
      have hz := HL.out _ (List.getElem_mem hkl)
      have hwv := HWV.out _ (List.getElem_mem hkl)
      have hrv := HR.out _ (List.getElem_mem hkl)
      have hft := flat_take voteB (dV vs) k (by rw [dV_length]; exact hkl)
      have hg : (dV vs)[k]'(by rw [dV_length]; exact hkl) = (vs[k].1, vs[k].2.1) := by unfold dV; rw [List.getElem_map]
      rw [hg] at hft
      have hpW := (hc W (Mod.refl _ _)).2.2.2.2
      have hoff := P.out.off HW.out HD.out
      obtain ⟨⟨⟨slot, n, r⟩, l, xo, xc⟩, hx⟩ : ∃ x, vs[k] = x := ⟨_, rfl⟩
      rw [hx] at p0 p1 p2 p3 p4 hz hft hwv hrv hpW
      dsimp only at p0 p1 p2 p3 p4 hz hft hrv hpW
      have HFT := Lib.hid hft
      obtain ⟨w1, hw1, A1, m1⟩ : ∃ x, wr.alloc (.cells #[.int .u64 (slot : Int), .int .u64 (n : Int), .int .i64 r, .slice xo l.length xc] 52) = x ∧ x.heap[wr.heap.size]? = some (.cells #[.int .u64 (slot : Int), .int .u64 (n : Int), .int .i64 r, .slice xo l.length xc] 52 (0, 0)) ∧ Mod [] wr x := ⟨_, rfl, heap_alloc_new wr _, Mod.alloc _ _ _⟩
      have b0 := cell_of_block (i := 0) A1
      have b1 := cell_of_block (i := 1) A1
      have b2 := cell_of_block (i := 2) A1
      have b3 := cell_of_block (i := 3) A1
      have P1 := Lib.hid (P.out.still m1)
      have HC := Lib.hid (lay2_any a kk c _ (⟨slot, n, r⟩, l, xo, xc) w1 HKK.out P1.out.own (by omega) (p4.mod0 m1) (fun hne k hk ha => by
        have h1 := hpW.lt hne k hk
        have h2 := hoff k ha
        omega) (by dsimp only; omega) hwv hrv)
      clear hc hx hft hg p4 A1 m1 P hpW hoff hWr hwv
      go_wp2_with fail
      refine HC.out.mono ?_
      rintro e w2 ⟨a2, n2, c2, rfl, k2, o2, m2, s2⟩
      have hE : xs ++ enc7 bl ++ ((dV vs).take (k + 1)).flatMap voteB = xs ++ enc7 bl ++ ((dV vs).take k).flatMap voteB ++ voteB (⟨slot, n, r⟩, l) := by rw [HFT.out, List.append_assoc, List.append_assoc, List.append_assoc]
      rw [← hE] at k2 o2
      have P2 := Lib.hid (P1.out.step o2 m2 s2)
      have hl2 := voteB_len (⟨slot, n, r⟩, l)
      dsimp only at hl2
      have hb2 : n2 ≤ n1 + 10044 * (k + 1) := by rw [← k2, hE, List.length_append, HKK.out]; omega
      have HK2 := Lib.hid k2
      clear k2 o2 m2 s2 hE HC p0 p1 p2 p3 HFT hw1 b0 b1 b2 b3
      go_wp2_with fail
      go_roundw
      case rel => exact ⟨k + 1, a2, n2, c2, by omega, by go_num, rfl, HK2.out, hb2, P2.out⟩
      case measure => simp [intOf]; omega
    · have hke : k = bl := by omega
      subst hke
      have hT : (dV vs).take k = dV vs := List.take_of_length_le (by rw [dV_length, HBL.out]; exact Nat.le_refl _)
      rw [hT, List.append_assoc] at P HKK
      clear hT
      go_wp2_with fail
      go_ret
      exact P.out.ret (Mod.refl _ _) HKK.out
end Go.Proofs.YtekdnljincbghaaDoor
/- The walk of msg.lay. -/
namespace Go.Proofs.YtekdnljincbghaaDoor
open Go Go.RowKit Go.Lib

/-- What the laws' tests let through. -/
structure SmallM (m : Mm) : Prop where
  votes : m.votes.length ≤ 300
  vote : ∀ v ∈ m.votes, v.2.1.length ≤ 10000
  batches : m.batches.length ≤ 300
  batch : ∀ b ∈ m.batches, b.1.length ≤ 10000
  snap : m.p.1.length ≤ 10000
theorem Chain.place : ∀ {l : List (Vd × List UInt8)} {a : Nat}, Chain a l → ∀ v ∈ l, Place v.1.r
  | [], _, _, v, hv => absurd hv (by simp)
  | x :: r, a, h, v, hv => by
    rcases List.mem_cons.1 hv with rfl | hv
    · exact h.2.1
    · exact Chain.place h.2.2 v hv
theorem flat_len {α : Type} (f : α → List UInt8) (b : Nat) : ∀ l : List α, (∀ x ∈ l, (f x).length ≤ b) → (l.flatMap f).length ≤ l.length * b
  | [], _ => by simp
  | x :: r, h => by
    rw [List.flatMap_cons, List.length_append, List.length_cons, Nat.succ_mul]
    have h1 := h x (by simp)
    have h2 := flat_len f b r (fun y hy => h y (by simp [hy]))
    omega
theorem fieldB_len (m : Mm) (h : SmallM m) (c : UInt8) : (fieldB m.d c).length ≤ 4000000 := by
  have e1 := (enc7_length m.h.bn).2
  have e2 := (enc7_length m.h.br.toNat).2
  have e3 := (enc7_length m.h.commit).2
  have e4 := (enc7_length m.h.first).2
  have e5 := (enc7_length m.h.last).2
  have e6 := (enc7_length m.batches.length).2
  have e7 := (enc7_length m.votes.length).2
  have e8 := txL_len m.p.1
  have h8 := h.snap
  have e9 := flat_len txL 10011 (dB m.batches) (fun x hx => by
    obtain ⟨b, hb, rfl⟩ := List.mem_map.1 hx
    have h1 := txL_len b.1
    have h2 := h.batch b hb
    omega)
  have e10 := flat_len voteB 10044 (dV m.votes) (fun x hx => by
    obtain ⟨v, hv, rfl⟩ := List.mem_map.1 hx
    have h1 := voteB_len (v.1, v.2.1)
    have h2 := h.vote v hv
    dsimp only at h1
    omega)
  rw [dB_length] at e9
  rw [dV_length] at e10
  have h9 := h.batches
  have h10 := h.votes
  unfold fieldB Mm.d ballB
  dsimp only
  rw [dB_length, dV_length]
  repeat' split
  all_goals (first | omega | (simp only [List.length_append, List.length_nil]; omega))
theorem Fl_in : ∀ k, k < 256 → ∀ c ∈ Fl k, c = 98 ∨ c = 99 ∨ c = 102 ∨ c = 108 ∨ c = 112 ∨ c = 115 ∨ c = 118 := by decide +kernel
theorem Fl_len : ∀ k, (Fl k).length ≤ 4 := by
  intro k
  unfold Fl
  split <;> simp
set_option maxRecDepth 100000 in
set_option maxHeartbeats 8000000 in
theorem lay_any (ao : Option Addr) (len cap : Nat) (xs : List UInt8) (m : Mm) (W w : World) (hlen : xs.length = len) (hown : OwnB w ao cap xs) (hb : len ≤ 1000) (hW : Mod [] W w) (hd : ∀ k, k ∈ blk ao → W.heap.size ≤ k)
    (hs : SeesM W m) (hw : WfM m) (hsm : SmallM m) (hM : MayM m.d) (hf : Flds W) :
    Calls Tryd.prog 28 #[.slice ao len cap, msgV m] w (RetApp w ao (xs ++ (Fl m.h.kind).flatMap (fieldB m.d))) := by
  have hFB := fieldB_len m hsm
  obtain ⟨fB, hfB⟩ : ∃ f, fieldB m.d = f := ⟨_, rfl⟩
  have hval : fB 98 = ballB m.h.bn m.h.br ∧ fB 99 = enc7 m.h.commit ∧ fB 102 = enc7 m.h.first ∧ fB 108 = enc7 m.h.last ∧ fB 112 = txL m.p.1 ∧ fB 115 = enc7 m.batches.length ++ (dB m.batches).flatMap txL ∧ fB 118 = enc7 m.votes.length ++ (dV m.votes).flatMap voteB := by
    rw [← hfB]
    refine ⟨rfl, rfl, rfl, rfl, rfl, ?_, ?_⟩
    · show enc7 (dB m.batches).length ++ _ = _
      rw [dB_length]
      rfl
    · show enc7 (dV m.votes).length ++ _ = _
      rw [dV_length]
      rfl
  rw [hfB] at hFB ⊢
  have hpl : Place m.h.br := hM.2.2.1
  have hpv : ∀ v ∈ m.votes, 0 ≤ v.1.r := fun v hv => (hM.2.2.2.2.2.2.2.2.2.2.2.2.2.2.place (v.1, v.2.1) (List.mem_map.2 ⟨v, hv, rfl⟩)).1
  have hkn : Known m.h.kind := hM.1
  clear hM hfB
  obtain ⟨⟨kind, bn, br, first, last, commit⟩, vo, vc, votes, so, sc, batches, pl, po, pc⟩ := m
  obtain ⟨rn, rfl⟩ : ∃ rn : Nat, br = (rn : Int) := ⟨br.toNat, by have := hpl.1; dsimp only at this; omega⟩
  have hk9 : kind < 256 := hw.h.1
  have hcb := hw.h
  unfold WfH at hcb
  dsimp only at hcb hval hpv hkn ⊢
  obtain ⟨sv1, sv2, sv3, sv4, sv5⟩ := hsm
  dsimp only at sv1 sv2 sv3 sv4 sv5
  have hvl := hw.vlen
  have hbl := hw.blen
  have HWV := Lib.hid (fun v hv => (hw.votes v hv).1)
  dsimp only at hvl hbl HWV
  have hval' := hval
  obtain ⟨v98, v99, v102, v108, v112, v115, v118⟩ := hval'
  have hlt := Own.lt hown
  have hbk : w.heap.size ∉ blk ao := fun h => by have := hlt _ h; omega
  obtain ⟨w1, hw1, A1, m1⟩ : ∃ x, w.alloc (.cells #[.int .u8 (kind : Int), .int .u64 (bn : Int), .int .i64 (rn : Int), .int .u64 (first : Int), .int .u64 (last : Int), .int .u64 (commit : Int), .slice vo votes.length vc, .slice so batches.length sc, .slice po pl.length pc] 29) = x ∧
    x.heap[w.heap.size]? = some (.cells #[.int .u8 (kind : Int), .int .u64 (bn : Int), .int .i64 (rn : Int), .int .u64 (first : Int), .int .u64 (last : Int), .int .u64 (commit : Int), .slice vo votes.length vc, .slice so batches.length sc, .slice po pl.length pc] 29 (0, 0)) ∧ Mod [] w x := ⟨_, rfl, heap_alloc_new w _, Mod.alloc _ _ _⟩
  have hz1 : w1.heap.size = w.heap.size + 1 := by rw [← hw1]; simp
  have hF := (hf.mod0 (hW.trans' m1))
  have hkk : kind < 9 := by
    rcases Nat.lt_or_ge kind 9 with h | h
    · exact h
    · exact absurd hkn.2 (by omega)
  have f0 := hF kind hkk
  have c0 := cell_of_block (i := 0) A1
  have hk2 : (kind : Int) < 9 := by omega
  have hFi := Fl_in kind hk9
  have hFn := Fl_len kind
  obtain ⟨Fs, hFs⟩ : ∃ l, Fl kind = l := ⟨_, rfl⟩
  rw [hFs] at f0 hFi hFn ⊢
  have P1 := Lib.hid (hown.mod0 m1)
  have HA := Lib.hid A1
  have M1 := Lib.hid m1
  have HS := Lib.hid hs
  have HW := Lib.hid hW
  have HD := Lib.hid hd
  have HXL := Lib.hid hlen
  have HVAL := Lib.hid hval
  have HPV := Lib.hid hpv
  have SV2 := Lib.hid sv2
  have SV4 := Lib.hid sv4
  have HLT := Lib.hid hlt
  clear hown hs hW hd hlen hf hF hw A1 m1 hFs hval hpv sv2 sv4 hpl hlt v98 v99 v102 v108 v112 v115 v118
  unfold msgV mC
  dsimp only
  go_enter Tryd.func28, Tryd.ntmps28
  have hFz : (⟨Fs.toArray⟩ : ByteArray).size ≤ 9223372036854775807 := by
    have h : (⟨Fs.toArray⟩ : ByteArray).size = Fs.length := by show Fs.toArray.size = _; simp
    omega
  go_wp2_with (first | (refine wpl_bytes (dst := some 11) _ ⟨Fs.toArray⟩ rfl hFz (by rfl) ?_) | fail)
  intro g capF w2 oF m2 hg
  have P2 := Lib.hid (PutR.start (P1.out.mod0 m2))
  have HA2 := Lib.hid (m2.get HA.out List.not_mem_nil)
  have M2 := Lib.hid (M1.out.trans' m2)
  have HOF := Lib.hid (show Sees w2 (some ⟨g, 0, none⟩) Fs from oF.sees)
  have hgk : g ∉ blk ao := fun h => by have := HLT.out g h; omega
  clear oF m2 P1 HA M1 hw1 f0 c0 hk2 hFz hg hz1
  go_wp2_with fail
  go_loopw [0, 13] (fun s0 s13 wr => ∃ (k : Nat) (a : Option Addr) (kk c : Nat), k ≤ Fs.length ∧ s13 = .int .i64 (k : Int) ∧ s0 = .slice a kk c ∧ (xs ++ (Fs.take k).flatMap fB).length = kk ∧ kk ≤ len + 4000000 * k ∧ PutR w2 ao a c (xs ++ (Fs.take k).flatMap fB) wr) (fun _ s13 _ => Fs.length - (intOf s13).toNat)
  case atStart => exact ⟨0, ao, len, cap, Nat.zero_le _, rfl, rfl, by simpa using HXL.out, by omega, by simpa using P2.out⟩
  case round =>
    obtain ⟨k, a, kk, c, hk, rfl, rfl, hkk2, hkb, hp⟩ := hrel
    rename World => wr
    have P := Lib.hid hp
    have HKK := Lib.hid hkk2
    clear hp hkk2 P2
    by_cases hlt : k < Fs.length
    case neg =>
      have hke : k = Fs.length := by omega
      subst hke
      rw [List.take_length] at P HKK
      go_wp2_with fail
      go_ret
      exact P.out.ret M2.out HKK.out
    have hlt2 : (k : Int) < (Fs.length : Int) := by omega
    obtain ⟨_, _, e0, p⟩ := (HOF.out.mod P.out.mod (fun b off h => by cases h; exact hgk)) k hlt
    cases e0
    rw [Nat.zero_add] at p
    have hE := flat_take fB Fs k hlt
    have hci := hFi _ (List.getElem_mem hlt)
    obtain ⟨ch, hch⟩ : ∃ x, Fs[k] = x := ⟨_, rfl⟩
    rw [hch] at p hE hci
    have hE : xs ++ (Fs.take (k + 1)).flatMap fB = xs ++ (Fs.take k).flatMap fB ++ fB ch := by rw [hE, List.append_assoc]
    have HBr := Lib.hid (P.out.mod.get HA2.out hbk)
    have HWr : Hid (Mod [] W wr) := Lib.hid (P.out.base (HW.out.trans' M2.out) HD.out)
    clear hch
    have HV := HVAL.out
    obtain ⟨v98, v99, v102, v108, v112, v115, v118⟩ := HV
    have hkb2 : kk ≤ 100000000 := by omega
    rcases hci with rfl | rfl | rfl | rfl | rfl | rfl | rfl
    · have p0 : wr.cell? ⟨g, k, none⟩ = some (.int .u8 98) := p
      have hE2 : xs ++ (Fs.take (k + 1)).flatMap fB = xs ++ (Fs.take k).flatMap fB ++ fB 98 := hE
      have hfl := hFB 98
      have HE := Lib.hid hE2
      clear p hE hE2
      have b1 := cell_of_block (i := 1) HBr.out
      have b2 := cell_of_block (i := 2) HBr.out
      have HC : Hid (Calls Tryd.prog 50 #[.slice a kk c, ballot bn (rn : Int)] wr (RetApp wr a (xs ++ (Fs.take k).flatMap fB ++ fB 98))) := Lib.hid (by rw [v98]; have h := put_any a kk c bn rn _ wr HKK.out P.out.own (by omega) (by omega) (by omega); unfold ballB; rw [Int.toNat_natCast, ← List.append_assoc]; exact h)
      go_wp2_with fail
      refine HC.out.mono ?_
      rintro e w5 ⟨a2, n2, c2, rfl, k2, o2, m2, s2⟩
      rw [← HE.out] at k2 o2
      have P5 := Lib.hid (P.out.step o2 m2 s2)
      have hb5 : n2 ≤ len + 4000000 * (k + 1) := by rw [← k2, HE.out, List.length_append, HKK.out]; omega
      have HK5 := Lib.hid k2
      clear k2 o2 m2 s2 HC
      go_wp2_with fail
      go_roundw
      case rel => exact ⟨k + 1, a2, n2, c2, by omega, by go_num, rfl, HK5.out, hb5, P5.out⟩
      case measure => simp [intOf]; omega
    · have p0 : wr.cell? ⟨g, k, none⟩ = some (.int .u8 99) := p
      have hE2 : xs ++ (Fs.take (k + 1)).flatMap fB = xs ++ (Fs.take k).flatMap fB ++ fB 99 := hE
      have hfl := hFB 99
      have HE := Lib.hid hE2
      clear p hE hE2
      have b5 := cell_of_block (i := 5) HBr.out
      have HC : Hid (Calls Tryd.prog 29 #[.slice a kk c, .int .u64 (commit : Int)] wr (RetApp wr a (xs ++ (Fs.take k).flatMap fB ++ fB 99))) := Lib.hid (by rw [v99]; exact vuint_any a kk c commit _ wr HKK.out P.out.own (by omega) (by omega))
      go_wp2_with fail
      refine HC.out.mono ?_
      rintro e w5 ⟨a2, n2, c2, rfl, k2, o2, m2, s2⟩
      rw [← HE.out] at k2 o2
      have P5 := Lib.hid (P.out.step o2 m2 s2)
      have hb5 : n2 ≤ len + 4000000 * (k + 1) := by rw [← k2, HE.out, List.length_append, HKK.out]; omega
      have HK5 := Lib.hid k2
      clear k2 o2 m2 s2 HC
      go_wp2_with fail
      go_roundw
      case rel => exact ⟨k + 1, a2, n2, c2, by omega, by go_num, rfl, HK5.out, hb5, P5.out⟩
      case measure => simp [intOf]; omega
    · have p0 : wr.cell? ⟨g, k, none⟩ = some (.int .u8 102) := p
      have hE2 : xs ++ (Fs.take (k + 1)).flatMap fB = xs ++ (Fs.take k).flatMap fB ++ fB 102 := hE
      have hfl := hFB 102
      have HE := Lib.hid hE2
      clear p hE hE2
      have b3 := cell_of_block (i := 3) HBr.out
      have HC : Hid (Calls Tryd.prog 29 #[.slice a kk c, .int .u64 (first : Int)] wr (RetApp wr a (xs ++ (Fs.take k).flatMap fB ++ fB 102))) := Lib.hid (by rw [v102]; exact vuint_any a kk c first _ wr HKK.out P.out.own (by omega) (by omega))
      go_wp2_with fail
      refine HC.out.mono ?_
      rintro e w5 ⟨a2, n2, c2, rfl, k2, o2, m2, s2⟩
      rw [← HE.out] at k2 o2
      have P5 := Lib.hid (P.out.step o2 m2 s2)
      have hb5 : n2 ≤ len + 4000000 * (k + 1) := by rw [← k2, HE.out, List.length_append, HKK.out]; omega
      have HK5 := Lib.hid k2
      clear k2 o2 m2 s2 HC
      go_wp2_with fail
      go_roundw
      case rel => exact ⟨k + 1, a2, n2, c2, by omega, by go_num, rfl, HK5.out, hb5, P5.out⟩
      case measure => simp [intOf]; omega
    · have p0 : wr.cell? ⟨g, k, none⟩ = some (.int .u8 108) := p
      have hE2 : xs ++ (Fs.take (k + 1)).flatMap fB = xs ++ (Fs.take k).flatMap fB ++ fB 108 := hE
      have hfl := hFB 108
      have HE := Lib.hid hE2
      clear p hE hE2
      have b4 := cell_of_block (i := 4) HBr.out
      have HC : Hid (Calls Tryd.prog 29 #[.slice a kk c, .int .u64 (last : Int)] wr (RetApp wr a (xs ++ (Fs.take k).flatMap fB ++ fB 108))) := Lib.hid (by rw [v108]; exact vuint_any a kk c last _ wr HKK.out P.out.own (by omega) (by omega))
      go_wp2_with fail
      refine HC.out.mono ?_
      rintro e w5 ⟨a2, n2, c2, rfl, k2, o2, m2, s2⟩
      rw [← HE.out] at k2 o2
      have P5 := Lib.hid (P.out.step o2 m2 s2)
      have hb5 : n2 ≤ len + 4000000 * (k + 1) := by rw [← k2, HE.out, List.length_append, HKK.out]; omega
      have HK5 := Lib.hid k2
      clear k2 o2 m2 s2 HC
      go_wp2_with fail
      go_roundw
      case rel => exact ⟨k + 1, a2, n2, c2, by omega, by go_num, rfl, HK5.out, hb5, P5.out⟩
      case measure => simp [intOf]; omega
    · have p0 : wr.cell? ⟨g, k, none⟩ = some (.int .u8 112) := p
      have hE2 : xs ++ (Fs.take (k + 1)).flatMap fB = xs ++ (Fs.take k).flatMap fB ++ fB 112 := hE
      have hfl := hFB 112
      have HE := Lib.hid hE2
      clear p hE hE2
      have b8 := cell_of_block (i := 8) HBr.out
      have HSN := Lib.hid (HS.out.snap.mod0 HWr.out)
      dsimp only at HSN
      have HC : Hid (Calls Tryd.prog 51 #[.slice a kk c, .string ⟨pl.toArray⟩] wr (RetApp wr a (xs ++ (Fs.take k).flatMap fB ++ fB 112))) := Lib.hid (by rw [v112]; exact text_any a kk c pl _ wr HKK.out P.out.own (by omega) (by omega))
      go_wp2_with (first | (refine wpl_str (dst := some 47) _ po _ pc pl rfl rfl HSN.out (by rfl) ?_) | fail)
      refine HC.out.mono ?_
      rintro e w5 ⟨a2, n2, c2, rfl, k2, o2, m2, s2⟩
      rw [← HE.out] at k2 o2
      have P5 := Lib.hid (P.out.step o2 m2 s2)
      have hb5 : n2 ≤ len + 4000000 * (k + 1) := by rw [← k2, HE.out, List.length_append, HKK.out]; omega
      have HK5 := Lib.hid k2
      clear k2 o2 m2 s2 HC
      go_wp2_with fail
      go_roundw
      case rel => exact ⟨k + 1, a2, n2, c2, by omega, by go_num, rfl, HK5.out, hb5, P5.out⟩
      case measure => simp [intOf]; omega
    · have p0 : wr.cell? ⟨g, k, none⟩ = some (.int .u8 115) := p
      have hE2 : xs ++ (Fs.take (k + 1)).flatMap fB = xs ++ (Fs.take k).flatMap fB ++ fB 115 := hE
      have hfl := hFB 115
      have HE := Lib.hid hE2
      clear p hE hE2
      have b7 := cell_of_block (i := 7) HBr.out
      have HC : Hid (Calls Tryd.prog 52 #[.slice a kk c, .slice so batches.length sc, .func (.func 53) #[] #[]] wr (RetApp wr a (xs ++ (Fs.take k).flatMap fB ++ fB 115))) := Lib.hid (by rw [v115]; exact row1_any a kk c _ so sc batches W wr HKK.out P.out.own (by omega) HWr.out (P.out.off (HW.out.trans' M2.out) HD.out) HS.out.batches sv3 SV4.out)
      go_wp2_with fail
      refine HC.out.mono ?_
      rintro e w5 ⟨a2, n2, c2, rfl, k2, o2, m2, s2⟩
      rw [← HE.out] at k2 o2
      have P5 := Lib.hid (P.out.step o2 m2 s2)
      have hb5 : n2 ≤ len + 4000000 * (k + 1) := by rw [← k2, HE.out, List.length_append, HKK.out]; omega
      have HK5 := Lib.hid k2
      clear k2 o2 m2 s2 HC
      go_wp2_with fail
      go_roundw
      case rel => exact ⟨k + 1, a2, n2, c2, by omega, by go_num, rfl, HK5.out, hb5, P5.out⟩
      case measure => simp [intOf]; omega
    · have p0 : wr.cell? ⟨g, k, none⟩ = some (.int .u8 118) := p
      have hE2 : xs ++ (Fs.take (k + 1)).flatMap fB = xs ++ (Fs.take k).flatMap fB ++ fB 118 := hE
      have hfl := hFB 118
      have HE := Lib.hid hE2
      clear p hE hE2
      have b6 := cell_of_block (i := 6) HBr.out
      have HC : Hid (Calls Tryd.prog 54 #[.slice a kk c, .slice vo votes.length vc, .func (.func 55) #[] #[]] wr (RetApp wr a (xs ++ (Fs.take k).flatMap fB ++ fB 118))) := Lib.hid (by rw [v118]; exact row2_any a kk c _ vo vc votes W wr HKK.out P.out.own (by omega) HWr.out (P.out.off (HW.out.trans' M2.out) HD.out) HS.out.votes sv1 SV2.out HWV.out HPV.out)
      go_wp2_with fail
      refine HC.out.mono ?_
      rintro e w5 ⟨a2, n2, c2, rfl, k2, o2, m2, s2⟩
      rw [← HE.out] at k2 o2
      have P5 := Lib.hid (P.out.step o2 m2 s2)
      have hb5 : n2 ≤ len + 4000000 * (k + 1) := by rw [← k2, HE.out, List.length_append, HKK.out]; omega
      have HK5 := Lib.hid k2
      clear k2 o2 m2 s2 HC
      go_wp2_with fail
      go_roundw
      case rel => exact ⟨k + 1, a2, n2, c2, by omega, by go_num, rfl, HK5.out, hb5, P5.out⟩
      case measure => simp [intOf]; omega
end Go.Proofs.YtekdnljincbghaaDoor
/- The walks of the crc package: More's inner function, More, Sum; what each computes, as a fold over the bytes. -/
namespace Go.Proofs.YtekdnljincbghaaDoor
open Go Go.RowKit

def nib (c x : Int) : Int := bits BinOp.and IntKind.u32 (bits BinOp.xor IntKind.u32 c x) 15
/-- Four bits more. -/
def four (T : Nat → Int) (c x : Int) : Int := bits BinOp.xor IntKind.u32 (c / 16) (T (nib c x).toNat)
theorem nib_lo (c x : Int) : 0 ≤ nib c x ∧ nib c x < 16 := by
  obtain ⟨h0, h1⟩ := bits32_range .xor c x
  unfold nib
  rw [u32_and _ _ h0 h1 (by omega) (by omega)]
  have : (bits BinOp.xor IntKind.u32 c x).toNat &&& (15 : Int).toNat ≤ 15 := Nat.and_le_right
  omega
/-- One byte more. -/
def eight (T : Nat → Int) (c : Int) (x : UInt8) : Int := four T (four T c ((x.toNat : Int) % 16)) ((x.toNat : Int) / 16)
def inv32 (c : Int) : Int := bits BinOp.xor IntKind.u32 IntKind.u32.max c
def foldC (T : Nat → Int) (c : Int) (l : List UInt8) : Int := l.foldl (eight T) c
def moreC (T : Nat → Int) (c : Int) (l : List UInt8) : Int := inv32 (foldC T (inv32 c) l)
theorem four_lo (T : Nat → Int) (c x : Int) : 0 ≤ four T c x ∧ four T c x < 4294967296 := bits32_range _ _ _
theorem inv32_lo (c : Int) : 0 ≤ inv32 c ∧ inv32 c < 4294967296 := bits32_range _ _ _
theorem foldC_snoc (T : Nat → Int) (c : Int) (l : List UInt8) (x : UInt8) : foldC T c (l ++ [x]) = eight T (foldC T c l) x := by
  simp [foldC, List.foldl_append]
theorem foldC_lo (T : Nat → Int) (c : Int) (l : List UInt8) (hc : 0 ≤ c ∧ c < 4294967296) : 0 ≤ foldC T c l ∧ foldC T c l < 4294967296 := by
  unfold foldC
  induction l generalizing c with
  | nil => exact hc
  | cons x l ih => exact ih _ (four_lo _ _ _)

/-- The table of the package reads as T. -/
def TableAt (w : World) (T : Nat → Int) : Prop := 2 < w.heap.size ∧ ∀ i, i < 16 → w.cell? ⟨2, i, none⟩ = some (.int .u32 (T i))
theorem TableAt.mod {S : List Nat} {w w' : World} {T : Nat → Int} (h : TableAt w T) (hm : Mod S w w') (hn : 2 ∉ S) : TableAt w' T :=
  ⟨hm.lt h.1, fun i hi => hm.cell (h.2 i hi) hn⟩
theorem TableAt.mod0 {w w' : World} {T : Nat → Int} (h : TableAt w T) (hm : Mod [] w w') : TableAt w' T := h.mod hm (by simp)

set_option maxRecDepth 100000 in
set_option maxHeartbeats 800000 in
theorem four_any (b : Nat) (c x : Int) (T : Nat → Int) (w : World) (hx0 : 0 ≤ x) (hx1 : x < 256) (hc0 : 0 ≤ c) (hblk : w.heap[b]? = some (.cells #[.int .u32 c] 56 (0, 0)))
    (hT : TableAt w T) :
    Calls Tryd.prog 78 #[.int .u8 x, .pointer (some ⟨b,0,none⟩)] w fun e w' => e = .returned (.tuple #[]) ∧ w'.heap[b]? = some (.cells #[.int .u32 (four T c x)] 56 (0, 0)) ∧ Mod [b] w w' := by
  have hcell := cell_of_one hblk
  have hfz := free_of_one hblk
  have hn := nib_lo c x
  have hT' := hT.2 (nib c x).toNat (by have := nib_lo c x; omega)
  have hfin : Hid (bits BinOp.xor IntKind.u32 (c / 16) (T (bits BinOp.and IntKind.u32 (bits BinOp.xor IntKind.u32 c x) 15).toNat) = four T c x) := rfl
  obtain ⟨hn0, hn1⟩ := hn
  have hw : IntKind.u32.wrap x = x := IntWalk.u32_in x ⟨hx0, by omega⟩
  have HB := Lib.hid hblk
  clear hT hblk
  unfold nib at hn0 hn1 hT'
  go_enter Tryd.func78, Tryd.ntmps78
  go_still_tail 10, (by kernel_rfl)
  change wpList _ _ _ _ _ w.drew
  go_wp2
  go_end0
  refine ⟨rfl, ?_, (Mod.setCell w _ _ (by simp)).trans (Mod.drew [b] _) (by simp)⟩
  rw [hfin.out]
  exact one_setCell HB.out

set_option maxHeartbeats 800000 in
theorem more_any (sum : Int) (ao : Option Addr) (len cap : Nat) (l : List UInt8) (T : Nat → Int) (w : World)
    (hll : l.length = len) (hlen : l.length ≤ 9223372036854775807) (hT : TableAt w T) (hS : Sees w ao l) :
    Calls Tryd.prog 70 #[.int .u32 sum, .slice ao len cap] w fun e w' => e = .returned (.int .u32 (moreC T sum l)) ∧ Mod [] w w' := by
  subst hll
  have HT := Lib.hid hT
  have HS := Lib.hid hS
  clear hT hS
  go_enter Tryd.func70, Tryd.ntmps70
  go_wp2
  go_loopw [14] (fun i wr => ∃ k : Nat, k ≤ l.length ∧ i = .int .i64 k ∧ wr.heap[w.heap.size]? = some (.cells #[.int .u32 (foldC T (inv32 sum) (l.take k))] 56 (0, 0)) ∧ Mod [] w wr) (fun i _ => l.length - (intOf i).toNat)
  case atStart => exact ⟨0, Nat.zero_le _, rfl, heap_alloc_new w _, Mod.alloc _ _ _⟩
  case round =>
    obtain ⟨k, hk, rfl, hblk, hbel⟩ := hrel
    have HB := Lib.hid hblk
    have HL := Lib.hid hbel
    clear hblk hbel
    by_cases hlt : k < l.length
    · obtain ⟨b, off, rfl, hcell⟩ := (Sees.mod0 HS.out HL.out).at' hlt
      have hxlt := toNat_lt l[k]
      have hxlo : (0 : Int) ≤ (l[k].toNat : Nat) := by omega
      have hflo := foldC_lo T (inv32 sum) (l.take k) (inv32_lo sum)
      have HT0 := Lib.hid (HT.out.mod0 HL.out)
      go_wp2_with fail
      refine (four_any w.heap.size (foldC T (inv32 sum) (l.take k)) _ T _ (by omega) (by omega) hflo.1 HB.out HT0.out).mono ?_
      rintro e w1 ⟨rfl, hb1, hm1⟩
      have HB1 := Lib.hid hb1
      have HM1 := Lib.hid (HL.out.trans hm1 (by simp))
      have HT1 := Lib.hid (HT.out.mod0 HM1.out)
      clear hb1 hm1
      go_wp2_with fail
      refine (four_any w.heap.size (four T (foldC T (inv32 sum) (l.take k)) ((l[k].toNat : Int) % 16)) _ T _ (by omega) (by omega) (four_lo _ _ _).1 HB1.out HT1.out).mono ?_
      rintro e w2 ⟨rfl, hb2, hm2⟩
      have HB2 := Lib.hid hb2
      have HM2 := Lib.hid (HM1.out.trans hm2 (by simp))
      clear hb2 hm2
      go_wp2
      go_roundw
      case rel =>
        refine ⟨k + 1, by omega, by go_num, ?_, HM2.out⟩
        rw [take_snoc l k hlt, foldC_snoc]
        exact HB2.out
      case measure => simp [intOf]; omega
    · have hk' : k = l.length := by omega
      subst hk'
      have hcell := cell_of_one HB.out
      rw [List.take_length] at hcell
      go_wp2
      go_ret
      exact ⟨rfl, HL.out⟩

set_option maxHeartbeats 400000 in
theorem sum_any (ao : Option Addr) (len cap : Nat) (l : List UInt8) (T : Nat → Int) (w : World)
    (hll : l.length = len) (hlen : l.length ≤ 9223372036854775807) (hT : TableAt w T) (hS : Sees w ao l) :
    Calls Tryd.prog 57 #[.slice ao len cap] w fun e w' => e = .returned (.int .u32 (moreC T 0 l)) ∧ Mod [] w w' := by
  subst hll
  have HT := Lib.hid hT
  have HS := Lib.hid hS
  clear hT hS
  go_enter Tryd.func57, Tryd.ntmps57
  go_wp2_with (go_at_call 70; refine (more_any _ _ _ _ _ T _ rfl hlen HT.out HS.out).mono ?_; rintro e w1 ⟨rfl, hb⟩)
  go_ret
  exact ⟨rfl, by assumption⟩

end Go.Proofs.YtekdnljincbghaaDoor
/- The walk of the document's answer for the crc package: bit by bit. -/
namespace Go.Proofs.YtekdnljincbghaaDoor
open Go Go.RowKit

/-- One bit. -/
def refBit (c : Int) : Int := if (bits BinOp.and IntKind.u32 c 1 == 1) = true then bits BinOp.xor IntKind.u32 (c / 2) 2197175160 else c / 2
def refBits : Nat → Int → Int
  | 0, c => c
  | n + 1, c => refBit (refBits n c)
def refByte (c : Int) (x : UInt8) : Int := refBits 8 (bits BinOp.xor IntKind.u32 c (x.toNat : Int))
def refFold (c : Int) (l : List UInt8) : Int := l.foldl refByte c
def refSum (l : List UInt8) : Int := bits BinOp.xor IntKind.u32 (refFold 4294967295 l) 4294967295
theorem refFold_snoc (c : Int) (l : List UInt8) (x : UInt8) : refFold c (l ++ [x]) = refByte (refFold c l) x := by simp [refFold, List.foldl_append]
theorem refBit_lo (c : Int) (h : 0 ≤ c ∧ c < 4294967296) : 0 ≤ refBit c ∧ refBit c < 4294967296 := by
  unfold refBit
  split
  · exact bits32_range _ _ _
  · omega
theorem refBits_lo (n : Nat) (c : Int) (h : 0 ≤ c ∧ c < 4294967296) : 0 ≤ refBits n c ∧ refBits n c < 4294967296 := by
  induction n with
  | zero => exact h
  | succ n ih => exact refBit_lo _ ih
theorem refFold_lo (c : Int) (l : List UInt8) (hc : 0 ≤ c ∧ c < 4294967296) : 0 ≤ refFold c l ∧ refFold c l < 4294967296 := by
  unfold refFold
  induction l generalizing c with
  | nil => exact hc
  | cons x l ih => exact ih _ (refBits_lo _ _ (bits32_range _ _ _))

set_option maxHeartbeats 800000 in
theorem refSum_any (ao : Option Addr) (len cap : Nat) (l : List UInt8) (w : World)
    (hll : l.length = len) (hlen : l.length ≤ 9223372036854775807) (hS : Sees w ao l) :
    Calls Tryd.prog 34 #[.slice ao len cap] w fun e w' => e = .returned (.int .u32 (refSum l)) ∧ w = w' := by
  subst hll
  have HS := Lib.hid hS
  clear hS
  go_enter Tryd.func34, Tryd.ntmps34
  go_wp2
  go_loop [3, 4] (fun c i => ∃ k : Nat, k ≤ l.length ∧ i = .int .i64 k ∧ c = .int .u32 (refFold 4294967295 (l.take k))) (fun _ i => l.length - (intOf i).toNat)
  case atStart => exact ⟨0, Nat.zero_le _, rfl, rfl⟩
  case round =>
    obtain ⟨k, hk, rfl, rfl⟩ := hrel
    by_cases hlt : k < l.length
    · obtain ⟨b, off, rfl, hcell⟩ := HS.out.at' hlt
      have hxlt := toNat_lt l[k]
      have hxlo : (0 : Int) ≤ (l[k].toNat : Nat) := by omega
      have hflo := bits32_range .xor (refFold 4294967295 (l.take k)) (l[k].toNat : Int)
      have hw : IntKind.u32.wrap (l[k].toNat : Int) = (l[k].toNat : Int) := IntWalk.u32_in _ ⟨hxlo, by omega⟩
      have HF : Hid (∀ c, bits BinOp.xor IntKind.u32 (refFold 4294967295 (l.take k)) (l[k].toNat : Int) = c → refBits 8 c = refFold 4294967295 (l.take (k + 1))) := by
        intro c hc; rw [take_snoc l k hlt, refFold_snoc, ← hc]; rfl
      go_wp2
      go_loop [3, 5] (fun c j => ∃ n : Nat, n ≤ 8 ∧ j = .int .i64 n ∧ c = .int .u32 (refBits n (bits BinOp.xor IntKind.u32 (refFold 4294967295 (l.take k)) (l[k].toNat : Int)))) (fun _ j => 8 - (intOf j).toNat)
      case atStart => exact ⟨0, Nat.zero_le _, rfl, rfl⟩
      case round =>
        obtain ⟨n, hn, rfl, rfl⟩ := hrel
        by_cases hn8 : n < 8
        · have hr := refBits_lo n _ hflo
          obtain ⟨c, hc⟩ : ∃ c, c = refBits n (bits BinOp.xor IntKind.u32 (refFold 4294967295 (l.take k)) (l[k].toNat : Int)) := ⟨_, rfl⟩
          rw [← hc] at hr ⊢
          have HC := Lib.hid hc
          clear hc HF hcell hw hxlt hxlo hflo
          have HN : Hid (refBits (n + 1) (bits BinOp.xor IntKind.u32 (refFold 4294967295 (l.take k)) (l[k].toNat : Int)) = refBit c) := by rw [HC.out]; rfl
          by_cases hodd : (bits BinOp.and IntKind.u32 c 1 == 1) = true
          · have HR : Hid (refBit c = bits BinOp.xor IntKind.u32 (c / 2) 2197175160) := by unfold refBit; rw [if_pos hodd]; exact rfl
            go_wp2
            go_round
            case rel => exact ⟨n + 1, by omega, by go_num, by rw [HN.out, HR.out]⟩
            case measure => simp [intOf]; omega
          · have HR : Hid (refBit c = c / 2) := by unfold refBit; rw [if_neg hodd]; exact rfl
            have hodd' : (bits BinOp.and IntKind.u32 c 1 == 1) = false := by simpa using hodd
            clear hodd
            go_wp2
            go_round
            case rel => exact ⟨n + 1, by omega, by go_num, by rw [HN.out, HR.out]⟩
            case measure => simp [intOf]; omega
        · obtain rfl : n = 8 := by omega
          clear hcell hw hxlt hxlo hflo
          go_wp2
          go_round
          case rel => exact ⟨k + 1, by omega, by go_num, by rw [HF.out _ rfl]⟩
          case measure => simp [intOf]; omega
    · have hk' : k = l.length := by omega
      subst hk'
      rw [List.take_length]
      go_wp2
      go_ret
      exact ⟨rfl, rfl⟩
end Go.Proofs.YtekdnljincbghaaDoor
