/- Texts put together (4 of 7): Range, Uint, OwnIn, Uint2, VarintW, Ref01, Cmd4, Cmd6, Cmd7, Cmd3, Cmd8, Cmd5, Cmd9, OwnM, Read, Read2, Read3. -/
import Derived.Test.YtigamomoegpefaaDoorZ1
import Derived.RangeFuncNested
import Derived.RangeFuncLeaves
import Derived.RangeFuncBound
import Derived.RangeFuncCalls
import Derived.Shelf.Abstract
import Derived.Test.YtigamomoegpefaaDoorZ3
import Derived.OwnWalkIn
import Derived.TacticsInMore
import Derived.LoopNIn
import Derived.LoopIn
import Derived.BigQuiet
import Derived.Outline
import Derived.Deep.CutRange
import Derived.Deep.CutBlock
/- A range over a function whose iterator keeps its state in a cell of its own (block nb), and whose body never leaves early: what the caller owes. Over any program. -/
namespace Go.Proofs.YtigamomoegpefaaDoor
open Go Go.RowKit

/-- How the body ends, going on. -/
def goesOn {α : Type} (nb : Nat) (I : List α → World → Prop) (xs : List α) (W : World) : Exit → Act → World → Prop
  | .normal, _, W' => KeepsOthers W W' ∧ W'.heap[nb]? = W.heap[nb]? ∧ I xs W'
  | _, _, _ => False

/-- The iterator's contract: it hands on xs, one by one; it turns its own block nb. -/
def Hands {α : Type} (F : Fence) (n : Nat) (P : Program) (g : Nat) (lb : Array Value) (encs : α → Array Value) (nb : Nat) (xs : List α) (w : World) : Prop :=
  ∀ (l : Nat) (J : List α → World → Prop) (W : World), Mod [] w W →
    (∀ pre A B, J pre A → Mod [nb] A B → J pre B) →
    (∀ pre x W1, J pre W1 → (pre ++ [x]) <+: xs → YieldAt F (n - 1) P l (encs x) W1 fun e W' => e = .returned (.bool true) ∧ J (pre ++ [x]) W' ∧ W'.heap[nb]? = W1.heap[nb]?) →
    J [] W →
    CallsIn F n P g (#[.func (.yield l) #[] #[]] ++ lb) W fun e W' => (∃ v, e = .returned v) ∧ J xs W'

variable {F : Fence} {n : Nat} {P : Program}
theorem mod_putObj {S : List Nat} (W : World) (l : Nat) (o : Obj) (h : l ∈ S) : Mod S W (W.putObj l o) := by
  have hg := grownBy_putObj' W l o
  exact ⟨hg.os, hg.tape, hg.output, hg.size, fun k hk hn => hg.block k hk (fun e => by cases e; exact hn h)⟩

theorem wpIn_rangeFunc_hands {α : Type} {g : Operand} {ps : Array Tmp} {assign body : Code} {Q : Exit → Act → World → Prop} {a : Act} {w : World}
    (hro : F.round = none) (h1 : 1 ≤ n) {gf : Nat} {lb : Array Value} (hg : a.eval g = .func (.func gf) #[] lb) (hFg : F.fn gf) (eg : ∀ args w, (callFunc gf args).run P w = .ok (.enter gf args) w)
    {encs : α → Array Value} {nb : Nat} {xs : List α} (hseq : Hands F (n - 1) P gf lb encs nb xs w) (hps : ∀ x, (encs x).size = ps.size) (hnb : nb < w.heap.size)
    (I : List α → World → Prop) (hI : ∀ pre A B S, (∀ k, k ∈ S → k = nb ∨ k = w.heap.size ∨ k = w.heap.size + 1) → I pre A → Mod S A B → I pre B) (h0 : ∀ W, Mod [] w W → I [] W) (a₁ : α → Act)
    (hassign : ∀ (l : Nat) (x : α) (W : World) (K : Act → World → Prop), K (a₁ x) W →
      assign.wpIn (F.inRound l) (n - 1 - 1) P (Exit.then K (fun _ _ _ => False)) { tmps := (ps.zip (encs x)).foldl (fun t (p, v) => t.setIfInBounds p v) a.tmps, defers := [] } W)
    (hbody : ∀ (l : Nat) (pre : List α) (x : α) (W : World), I pre W → (pre ++ [x]) <+: xs → w.heap.size + 2 ≤ W.heap.size → body.wpIn (F.inRound l) (n - 1 - 1) P (goesOn nb I (pre ++ [x]) W) (a₁ x) W)
    (hdone : ∀ (W : World), I xs W → W.heap[w.heap.size]? = some (.deferred (some [])) → Q .normal { a with defers := { target := .collected w.heap.size, args := #[] } :: a.defers } W) :
    (Code.rangeFunc g ps assign body).wpIn F n P Q a w := by
  refine wpIn_rangeFunc ?_
  intro fn hfn
  rw [hro]
  obtain ⟨rec, hrec⟩ : ∃ rec : LoopState → Option Code → Loop, rec = fun st pe => { state := st, pending := pe, fn, tmps := a.tmps, params := ps, assign, body, defers := w.heap.size } := ⟨_, rfl⟩
  obtain ⟨W1, hW1⟩ : ∃ W1, (w.alloc (.deferred (some []))).alloc (.loop (rec .ready none)) = W1 := ⟨_, rfl⟩
  have hL1 : W1.heap[w.heap.size + 1]? = some (.loop (rec .ready none)) := by
    rw [← hW1]; have := World.alloc_heap_new (w.alloc (.deferred (some []))) (.loop (rec .ready none)); rwa [World.size_alloc] at this
  have hD1 : W1.heap[w.heap.size]? = some (.deferred (some [])) := by
    rw [← hW1]; exact (Below.heap_alloc _ _ _ (by simp)).trans (World.alloc_heap_new w _)
  have hm1 : Mod [] w W1 := by rw [← hW1]; exact (Mod.alloc _ _ _).trans' (Mod.alloc _ _ _)
  refine ⟨w.heap.size + 1, [{ target := .collected w.heap.size, args := #[] }], W1, { target := .fn (.func gf) lb, args := #[.func (.yield (w.heap.size + 1)) #[] #[]] }, W1, gf,
    #[.func (.yield (w.heap.size + 1)) #[] #[]] ++ lb, W1, ?_, ?_, ?_, ?_, fun _ => h1, ?_⟩
  · rw [← hW1, hrec]; exact run_enterLoop_outer _ _ _ _ _
  · simp only [resolve, hg]
    simp [go_sem]
  · intro f' hf'; simp [Target.leads] at hf'; subst hf'; exact hFg
  · simp [invoke, go_sem, eg]
  · refine (hseq (w.heap.size + 1)
      (fun pre W => I pre W ∧ W.heap[w.heap.size + 1]? = some (.loop (rec .ready none)) ∧ W.heap[w.heap.size]? = some (.deferred (some [])))
      W1 hm1 ?_ ?_ ⟨h0 _ hm1, hL1, hD1⟩).mono ?_
    · rintro pre A B ⟨hi, hl, hd⟩ hm
      exact ⟨hI pre A B [nb] (by intro k hk; simp only [List.mem_singleton] at hk; exact .inl hk) hi hm, hm.get hl (by simp; omega), hm.get hd (by simp; omega)⟩
    · rintro pre x W ⟨hi, hl, hd⟩ hx
      have hlt := lt_of_block hl
      have hy := run_yield (P := P) (args := encs x) hl (by rw [hrec]; exact hps x)
      rw [hrec] at hy
      refine ⟨fn, _, assign, body, hy, roundIn_of_wpIn hfn (hassign _ x W _ ⟨_, run_beginRound hl (by rw [hrec]), ?_⟩)⟩
      obtain ⟨W2, hW2⟩ : ∃ W2, W.putObj (w.heap.size + 1) (.loop { rec .ready none with state := .busy }) = W2 := ⟨_, rfl⟩
      have hp2 := mod_putObj (S := [w.heap.size + 1]) W (w.heap.size + 1) (.loop { rec .ready none with state := .busy }) (by simp)
      have hl2 : W2.heap[w.heap.size + 1]? = some (.loop { rec .ready none with state := .busy }) := by rw [← hW2]; exact World.putObj_heap_same hlt
      rw [hW2] at hp2
      rw [show ({ state := LoopState.busy, pending := (rec .ready none).pending, fn := (rec .ready none).fn, tmps := (rec .ready none).tmps, params := (rec .ready none).params, assign := (rec .ready none).assign, body := (rec .ready none).body, defers := (rec .ready none).defers } : Loop) = { rec .ready none with state := .busy } from rfl, hW2]
      have hd2 : W2.heap[w.heap.size]? = some (.deferred (some [])) := hp2.get hd (by simp)
      have hi2 : I pre W2 := hI pre W W2 [w.heap.size + 1] (by intro k hk; simp only [List.mem_singleton] at hk; exact .inr (.inr hk)) hi hp2
      have hn2 : W2.heap[nb]? = W.heap[nb]? := hp2.block nb (by omega) (by simp; omega)
      refine wpIn_mono (hbody _ pre x _ hi2 hx (by have := lt_of_block hl2; omega)) ?_
      rintro e a3 W3 hp
      cases e with
      | normal =>
        obtain ⟨hk3, hn3, hi3⟩ := hp
        have hl3 := hk3.same _ _ hl2 rfl
        have hd3 := hk3.same _ _ hd2 rfl
        have hr := run_endRound (P := P) none hl3
        have hp4 := mod_putObj (S := [w.heap.size + 1]) W3 (w.heap.size + 1) (.loop (rec .ready none)) (by simp)
        refine ⟨.bool true, W3.putObj (w.heap.size + 1) (.loop (rec .ready none)), ?_, rfl, ⟨hI _ W3 _ [w.heap.size + 1] (by intro k hk; simp only [List.mem_singleton] at hk; exact .inr (.inr hk)) hi3 hp4, World.putObj_heap_same (lt_of_block hl3), hp4.get hd3 (by simp)⟩, ?_⟩
        · rw [hrec] at hr ⊢; exact hr
        · exact (hp4.block nb (by have := lt_of_block hl3; omega) (by simp; omega)).trans (hn3.trans hn2)
      | ret => exact hp.elim
      | exit id => exact hp.elim
      | goto t => exact hp.elim
      | panic ch => exact hp.elim
      | outgrown => exact hp.elim
    · rintro e W2 ⟨⟨v, rfl⟩, hi, hl, hd⟩
      have hp4 := mod_putObj (S := [w.heap.size + 1]) W2 (w.heap.size + 1) (.loop { rec .ready none with state := .exhausted }) (by simp)
      exact ⟨none, _, by have := run_endLoop (P := P) hl (by rw [hrec]; simp); rw [hrec] at this; exact this,
        hdone _ (by rw [hrec] at hp4; exact hI _ W2 _ [w.heap.size + 1] (by intro k hk; simp only [List.mem_singleton] at hk; exact .inr (.inr hk)) hi hp4) (by rw [hrec] at hp4; exact hp4.get hd (by simp))⟩
end Go.Proofs.YtigamomoegpefaaDoor
/- The walks of varint.groups, its inner function, and varint.Uint: a number's bytes behind bytes of the call's own. -/
namespace Go.Proofs.YtigamomoegpefaaDoor
open Go Go.RowKit Go.Shelf
attribute [local go_sem] Oper.semAt_some

/-- The number in the box. -/
def boxNum (nb : Nat) (w : World) : Nat := match w.cell? ⟨nb, 0, none⟩ with | some v => (intOf v).toNat | none => 0
theorem boxNum_of {nb : Nat} {w : World} {k : IntKind} {m : Nat} {t : TypeId} (h : w.heap[nb]? = some (.cells #[.int k (m : Int)] t (0, 0))) : boxNum nb w = m := by
  unfold boxNum; rw [cell_of_one h]; simp [intOf]

set_option maxRecDepth 100000 in
set_option maxHeartbeats 1000000 in
theorem groups1_in (F : Fence) (n : Nat) (hf : F.fn 56) (hro : F.round = none) (hn : 1 ≤ n) (nb m : Nat) (hm64 : m < 18446744073709551616) (w : World) (hnb : w.heap[nb]? = some (.cells #[.int .u64 (m : Int)] 102 (0, 0))) :
    Hands F n Tryd.prog 56 #[.pointer (some ⟨nb, 0, none⟩)] (fun x : UInt8 × Bool => #[.int .u8 ((x.1.toNat : Nat) : Int), .bool x.2]) nb (grp m) w := by
  intro l J W hW hJ hY h0
  have hb0 : W.heap[nb]? = some (.cells #[.int .u64 (m : Int)] 102 (0, 0)) := hW.get hnb (by simp)
  have HY := Lib.hid hY
  have HJ := Lib.hid hJ
  clear hY hJ
  refine callsIn_of_wp Tryd.func56 rfl hf ?_ hro
  simp only [Tryd.ntmps56, List.size_toArray, List.length_cons, List.length_nil, Nat.reduceAdd, Nat.reduceSub, Array.replicate_succ, Array.replicate_zero, List.push_toArray, List.append_toArray, List.nil_append, List.cons_append]
  gi_wp2
  gi_loopw [3] (fun _ wr => ∃ (pre : List (UInt8 × Bool)) (q : Nat), q < 18446744073709551616 ∧ grp m = pre ++ grp q ∧ wr.heap[nb]? = some (.cells #[.int .u64 (q : Int)] 102 (0, 0)) ∧ J pre wr) (fun _ wr => boxNum nb wr)
  case atStart => exact ⟨[], m, hm64, rfl, hb0, h0⟩
  case round =>
    obtain ⟨pre, q, hq, hg, hb, hj⟩ := hrel
    have hcell := cell_of_one hb
    have hfree := free_of_one hb
    have HG := Lib.hid hg
    have HB := Lib.hid hb
    have HN := Lib.hid hj
    clear hg hb hj hb0 h0
    by_cases hlt : q < 128
    · have hx : (pre ++ [(UInt8.ofNat q, true)]) <+: grp m := by rw [HG.out, grp_small q hlt]; exact List.prefix_refl _
      obtain ⟨fn, tmps, assign, body, hy, hR⟩ := HY.out pre (UInt8.ofNat q, true) wr HN.out hx
      have e1 : (UInt8.ofNat q).toNat = q := by rw [UInt8.toNat_ofNat']; omega
      simp only [e1] at hy
      have hw8 : IntKind.u8.wrap (q : Int) = (q : Int) := IntWalk.u8_in _ (by omega)
      have hd : decide ((128 : Int) ≤ (q : Int)) = false := by simp; omega
      gi_wp2
      refine hR.mono ?_
      rintro e W3 ⟨rfl, hj3, _⟩
      gi_wp2
      go_end0
      exact ⟨⟨_, rfl⟩, by rw [HG.out, grp_small q hlt]; exact hj3⟩
    · have hgb := grp_big q (by omega) hq
      have hx : (pre ++ [(UInt8.ofNat (q % 128), false)]) <+: grp m := by rw [HG.out, hgb]; exact ⟨grp (q / 128), by simp⟩
      obtain ⟨fn, tmps, assign, body, hy, hR⟩ := HY.out pre (UInt8.ofNat (q % 128), false) wr HN.out hx
      have e1 : (((UInt8.ofNat (q % 128)).toNat : Nat) : Int) = (q : Int) % 128 := by rw [UInt8.toNat_ofNat']; omega
      simp only [e1] at hy
      have HGB := Lib.hid hgb
      have hd : decide ((128 : Int) ≤ (q : Int)) = true := by simp; omega
      have hw8 : IntKind.u8.wrap (bits BinOp.and IntKind.u64 (q : Int) 127) = (q : Int) % 128 := by
        have h1 := u64_and_nat q 127 hq (by omega)
        have h2 : q &&& 127 = q % 128 := Nat.and_two_pow_sub_one_eq_mod q 7
        rw [h2] at h1
        rw [show (127 : Int) = ((127 : Nat) : Int) from rfl, h1, IntWalk.u8_in _ (by omega)]; omega
      clear hgb e1
      gi_wp2
      refine hR.mono ?_
      rintro e W3 ⟨rfl, hj3, hn3⟩
      have hb3 : W3.heap[nb]? = some (.cells #[.int .u64 (q : Int)] 102 (0, 0)) := by rw [hn3]; exact HB.out
      have hcell3 := cell_of_one hb3
      have hfree3 := free_of_one hb3
      have HB3 := Lib.hid hb3
      have HJ3 := Lib.hid hj3
      have hqq : Hid ((q : Int) / 128 = ((q / 128 : Nat) : Int)) := by show _ = _; omega
      clear hb3 hj3 hn3 hcell hfree hy hw8
      gi_wp2
      go_roundw
      case rel =>
        refine ⟨pre ++ [(UInt8.ofNat (q % 128), false)], q / 128, by omega, by rw [HG.out, HGB.out]; simp, ?_, HJ.out _ _ _ HJ3.out (Mod.setCell _ _ _ (by simp))⟩
        rw [hqq.out]
        exact one_setCell HB3.out
      case measure =>
        rw [hqq.out, boxNum_of (one_setCell HB3.out), boxNum_of HB.out]
        omega
set_option maxHeartbeats 1000000 in
theorem groups_in (F : Fence) (n : Nat) (hf : F.fn 52) (hro : F.round = none) (m : Int) (w : World) :
    CallsIn F n Tryd.prog 52 #[.int .u64 m] w fun e w' => ∃ nb, e = .returned (.func (.func 56) #[] #[.pointer (some ⟨nb, 0, none⟩)]) ∧ w'.heap[nb]? = some (.cells #[.int .u64 m] 102 (0, 0)) ∧ Mod [] w w' ∧ w.heap.size ≤ nb := by
  refine callsIn_of_wp Tryd.func52 rfl hf ?_ hro
  simp only [Tryd.ntmps52, List.size_toArray, List.length_cons, List.length_nil, Nat.reduceAdd, Nat.reduceSub, Array.replicate_succ, Array.replicate_zero, List.push_toArray, List.append_toArray, List.nil_append, List.cons_append]
  gi_wp2
  go_ret
  exact ⟨w.heap.size, rfl, heap_alloc_new w _, Mod.alloc _ _ _, Nat.le_refl _⟩
end Go.Proofs.YtigamomoegpefaaDoor
/- append of bytes to bytes of the call's own, inside a fence. -/
namespace Go.Proofs.YtigamomoegpefaaDoor
open Go Go.RowKit
theorem wplIn_app8 {F : Fence} {nF : Nat} {w : World} {ops : Array Oper} {rest : List Oper} {a : Act} {Q : Exit → Act → World → Prop} {dst : Option Tmp} {ty : TypeId} {pos : String} {after : Array Edge} (s x : Operand)
    (ao : Option Addr) (n cap : Nat) (xs : List UInt8) (hs : a.eval s = .slice ao n cap) (hn : xs.length = n) (hown : OwnB w ao cap xs)
    (so : Option Addr) (m c : Nat) (l : List UInt8) (hx : a.eval x = .slice so m c) (hl : l.length = m) (hsees : Sees w so l) (hb : n + m ≤ 140737488355328)
    (h : ∀ ao' cap' w', OwnB w' ao' cap' (xs ++ l) → Mod (blk ao) w w' → SameOrNew w w' ao ao' → wpListIn F nF Tryd.prog ops Q rest (a.put dst (.slice ao' (n + m) cap')) w') :
    wpListIn F nF Tryd.prog ops Q (⟨dst, .call { callee := .builtin .append, args := #[s, x], argTypes := #[74, 74] }, ty, pos, after, none⟩ :: rest) a w := by
  obtain ⟨i0, hi, hz0, hz1, hz2⟩ := info_parts infoU8
  subst hn hl
  obtain ⟨ao', cap', w', hr, h2, h3, h4⟩ := run_append_mine (P := Tryd.prog) w 74 ty 5 i0 _ 1 1 Tryd.underlying74 hi hz0 hz1 hz2 rfl (by decide) ao xs.length cap _ hown so l.length c (l.map u8v) (by simp) hsees.shows (one_u8 _) (by unfold maxLen; omega) (by omega)
  refine wpListIn_plain rfl fun K hK' => ?_
  unfold Oper.wpIn
  refine ⟨?_, ?_⟩
  · simp [Oper.about, resolve, Target.leads, Sem.run_pure]
  · rw [Oper.semAt_plain F _ _ (by intro c hc'; cases hc')]
    simp [execOp, resolve, invoke, builtin, hs, hx, hr, Result.andThen]
    refine hK' _ _ (h ao' cap' w' ?_ h3 h4)
    unfold OwnB
    rw [List.length_append, List.map_append]
    exact h2
end Go.Proofs.YtigamomoegpefaaDoor
/- The walk of varint.Uint. -/
namespace Go.Proofs.YtigamomoegpefaaDoor
open Go Go.RowKit Go.Shelf
attribute [local go_sem] Oper.semAt_some

/-- What the loop keeps: the box, the bytes so far. -/
def UintInv (w : World) (ao : Option Addr) (bb : Nat) (bad : List Nat) (xs : List UInt8) (pre : List (UInt8 × Bool)) (W : World) : Prop :=
  ∃ ao' cap', W.heap[bb]? = some (.cells #[.slice ao' (xs ++ pre.map grpB).length cap'] 74 (0, 0)) ∧ OwnB W ao' cap' (xs ++ pre.map grpB) ∧ Mod (blk ao) w W ∧ SameOrNew w W ao ao' ∧ (∀ k, k ∈ blk ao' → k ∉ bb :: bad)
theorem UintInv.mod {w : World} {ao : Option Addr} {bb : Nat} {bad S : List Nat} {xs : List UInt8} {pre : List (UInt8 × Bool)} {A B : World} (h : UintInv w ao bb bad xs pre A) (hm : Mod S A B) (hS : ∀ k, k ∈ S → k ∈ bad) (hbb : bb ∉ bad) (hnew : ∀ k, k ∈ bad → w.heap.size ≤ k) : UintInv w ao bb bad xs pre B := by
  obtain ⟨ao', cap', h1, h2, h3, h4, h5⟩ := h
  refine ⟨ao', cap', hm.get h1 (fun h => hbb (hS _ h)), h2.mod hm (fun k hk hs => h5 k hk (by simp [hS k hs])), h3.trans hm (fun i hi hl => by have := hnew i (hS i hi); omega), ?_, h5⟩
  rcases h4 with h4 | ⟨g, e, g1, g2⟩
  · exact .inl h4
  · exact .inr ⟨g, e, g1, hm.lt g2⟩

theorem keepsOthers_of {S : List Nat} {W W' : World} (hm : Mod S W W') (hc : ∀ k, k ∈ S → ∀ o, W.heap[k]? = some o → o.isCells = true) : KeepsOthers W W' :=
  ⟨hm.size, fun k o hk ho => hm.get hk (fun hs => by rw [hc k hs o hk] at ho; cases ho)⟩
theorem Own.isCells {w : World} {e : TypeId} {sz : Nat} {ao : Option Addr} {n cap : Nat} {xs : List Value} (h : Own w e sz ao n cap xs) : ∀ k, k ∈ blk ao → ∀ o, w.heap[k]? = some o → o.isCells = true := by
  intro k hk o ho
  rcases h.2 with ⟨rfl, _⟩ | ⟨g, cur, fz, rfl, hg, _⟩
  · simp [blk] at hk
  · simp only [blk, List.mem_singleton] at hk; subst hk; rw [hg] at ho; cases ho; rfl
theorem Sees.one (W : World) (g : UInt8) (v : Value) (t : TypeId) (hv : v = .int .u8 ((g.toNat : Nat) : Int)) : Sees (W.alloc (.cells #[v] t)) (some ⟨W.heap.size, 0, none⟩) [g] := by
  intro j hj
  have : j = 0 := by simpa using hj
  subst this
  exact ⟨W.heap.size, 0, rfl, by rw [cell_of_block (heap_alloc_new W _)]; subst hv; rfl⟩

set_option maxRecDepth 100000 in
set_option maxHeartbeats 2000000 in
theorem vuint_in (F : Fence) (n : Nat) (h1 : F.fn 43) (h2 : F.fn 52) (h3 : F.fn 56) (hro : F.round = none) (hn : 3 ≤ n) (ao : Option Addr) (len cap m : Nat) (xs : List UInt8) (w : World)
    (hlen : xs.length = len) (hown : OwnB w ao cap xs) (hm64 : m < 18446744073709551616) (hb : len ≤ 140737488355000) :
    CallsIn F n Tryd.prog 43 #[.slice ao len cap, .int .u64 (m : Int)] w (RetApp w ao (xs ++ enc7 m)) := by
  subst hlen
  have hn1 : 1 ≤ n := by omega
  refine callsIn_of_wp_marks Tryd.func43 rfl h1 ?_ hro
  simp only [Tryd.ntmps43, List.size_toArray, List.length_cons, List.length_nil, Nat.reduceAdd, Nat.reduceSub, Array.replicate_succ, Array.replicate_zero, List.push_toArray, List.append_toArray, List.nil_append, List.cons_append]
  gi_wp2_with (gi_at_call 52; refine (groups_in F (n - 1) h2 hro _ _).mono ?_; rintro e w2 ⟨nb, rfl, hnb, hm2, hge⟩)
  have hbx := heap_alloc_new w (.cells #[.slice ao xs.length cap] 74)
  have hm1 := Mod.alloc [] w (.cells #[.slice ao xs.length cap] 74)
  have hsz : w.heap.size + 1 ≤ w2.heap.size := by have := hm2.size; simp at this; omega
  have hnl := lt_of_block hnb
  have hnb2 : w.heap.size + 1 ≤ nb := by simpa using hge
  have HO := Lib.hid ((hown.mod0 hm1).mod0 hm2)
  have HBX := Lib.hid (hm2.get hbx (by simp))
  have HM := Lib.hid (hm1.trans' hm2)
  have HNB := Lib.hid hnb
  have hltown : ∀ k, k ∈ blk ao → k < w.heap.size := Own.lt hown
  clear hbx hm1 hm2 hnb hge hown
  have hL : nb ≠ w2.heap.size ∧ nb ≠ w2.heap.size + 1 := by omega
  refine wpIn_rangeFunc_hands hro hn1 (gf := 56) (lb := #[.pointer (some ⟨nb, 0, none⟩)]) rfl h3 (enters_of Tryd.func56 (by kernel_rfl) rfl)
    (groups1_in F (n - 1) h3 hro (by omega) nb m hm64 _ HNB.out) (fun _ => rfl) hnl
    (UintInv w ao w.heap.size [nb, w2.heap.size, w2.heap.size + 1] xs)
    (fun pre A B S hS hI hm => hI.mod hm (fun k hk => by simpa using hS k hk) (by simp; omega) (by simp; omega))
    (fun W hW => ⟨ao, cap, by simpa using hW.get HBX.out (by simp), by simpa using HO.out.mod0 hW, (HM.out.trans' hW).nil, .inl rfl, fun k hk => by have := hltown k hk; simp; omega⟩)
    (fun x => { tmps := #[.slice ao xs.length cap, .int .u64 (m : Int), .pointer (some ⟨w.heap.size, 0, none⟩), undef, .slice none 0 0, .int .u8 ((x.1.toNat : Nat) : Int), .bool x.2, .int .u64 (m : Int), .func (.func 56) #[] #[.pointer (some ⟨nb, 0, none⟩)], .int .u8 ((x.1.toNat : Nat) : Int), .bool x.2, undef, undef, undef, undef, undef, undef, undef, undef, undef], defers := [] }) ?assign ?body ?done
  case assign =>
    intro l x W K hK
    gi_wp2
    exact hK
  case body =>
    rintro l pre x W hI hx hsize
    obtain ⟨ao', cap', hbox, ho, hm, hsn, hbad⟩ := hI
    have hxm : x ∈ grp m := hx.subset (by simp)
    have hxw := grp_wf m hm64 x hxm
    have hplen : pre.length < 11 := by
      have h1 := hx.length_le
      have h2 := grp_length m hm64
      have h3 := (enc7_length m).2
      simp at h1; omega
    obtain ⟨ys, hys⟩ : ∃ ys, ys = xs ++ pre.map grpB := ⟨_, rfl⟩
    have hylen : ys.length ≤ 140737488355020 := by rw [hys]; simp; omega
    rw [← hys] at hbox ho
    have HYS := Lib.hid hys
    have hcell := cell_of_one hbox
    have HB := Lib.hid hbox
    have HW := Lib.hid ho
    have HMW := Lib.hid hm
    have HSN := Lib.hid hsn
    have HBAD := Lib.hid hbad
    clear hys hbox ho hm hsn hbad
    obtain ⟨g, b⟩ := x
    have fin : ∀ (v : Value) (y : UInt8) (a2 : Option Addr) (c2 : Nat) (w4 : World), grpB (g, b) = y → OwnB w4 a2 c2 (ys ++ [y]) → Mod (blk ao') (W.alloc (.cells #[v] 5)) w4 → SameOrNew (W.alloc (.cells #[v] 5)) w4 ao' a2 →
        (w4.heap[w.heap.size]? = some (.cells #[.slice ao' ys.length cap'] 74 (0, 0)) ∧
        goesOn nb (UintInv w ao w.heap.size [nb, w2.heap.size, w2.heap.size + 1] xs) (pre ++ [(g, b)]) W .normal { tmps := #[], defers := [] } (w4.setCell ⟨w.heap.size, 0, none⟩ (.slice a2 (ys.length + 1) c2))) := by
      intro v y a2 c2 w4 hy ho4 hm4 hsn4
      have hma := Mod.alloc (blk ao') W (.cells #[v] 5)
      have hm5 : Mod (blk ao') W w4 := hma.trans' hm4
      have hb4 : w4.heap[w.heap.size]? = some (.cells #[.slice ao' ys.length cap'] 74 (0, 0)) := hm5.get HB.out (fun h => by have := HBAD.out _ h; simp at this)
      refine ⟨hb4, ?_, ?_, ?_⟩
      · refine (keepsOthers_of hm5 (Own.isCells HW.out)).trans ?_
        exact keepsOthers_of (Mod.setCell w4 _ _ (S := [w.heap.size]) (by simp)) (by intro k hk o ho; simp only [List.mem_singleton] at hk; subst hk; rw [hb4] at ho; cases ho; rfl)
      · rw [(Mod.setCell (S := [w.heap.size]) w4 ⟨w.heap.size, 0, none⟩ (.slice a2 (ys.length + 1) c2) (by simp)).block nb (by have := hm5.size; omega) (by simp; omega)]
        exact hm5.block nb (by omega) (fun h => by have := HBAD.out _ h; simp at this)
      · have e1 : xs ++ (pre ++ [(g, b)]).map grpB = ys ++ [y] := by rw [HYS.out]; simp [hy]
        have hblk2 : ∀ k, k ∈ blk a2 → k ∈ blk ao' ∨ W.heap.size + 1 ≤ k := fun k hk => by have := hsn4.blk k hk; simpa using this
        have hnin : ∀ k, k ∈ blk a2 → k ∉ [w.heap.size, nb, w2.heap.size, w2.heap.size + 1] := fun k hk hk2 => by
          rcases hblk2 k hk with h | h
          · exact HBAD.out k h hk2
          · simp at hk2; omega
        have hms := Mod.setCell (S := [w.heap.size]) w4 ⟨w.heap.size, 0, none⟩ (.slice a2 (ys.length + 1) c2) (by simp)
        refine ⟨a2, c2, ?_, ?_, ?_, ?_, hnin⟩
        · rw [e1]; simpa using one_setCell (u := .slice a2 (ys.length + 1) c2) hb4
        · rw [e1]; exact ho4.mod hms (fun k hk hs => by have := hnin k hk; simp at hs; simp [hs] at this)
        · refine (HMW.out.trans hm5 ?_).trans hms (by intro i hi hl; simp at hi; omega)
          intro i hi hl
          rcases HSN.out.blk i hi with h | h
          · exact h
          · omega
        · have hsz4 := hm5.size
          have hsz5 := HMW.out.size
          rcases hsn4 with rfl | ⟨g4, rfl, h1, h2⟩
          · rcases HSN.out with h | ⟨g5, h, h1, h2⟩
            · exact .inl h
            · exact .inr ⟨g5, h, h1, hms.lt (hm5.lt h2)⟩
          · exact .inr ⟨g4, rfl, by simp at h1; omega, hms.lt h2⟩
    have FIN := Lib.hid fin
    clear fin
    cases b with
    | true =>
      gi_wp2_with (gi_at_builtin; refine wplIn_app8 (dst := some 18) _ _ ao' _ cap' ys rfl rfl (HW.out.mod0 (Mod.alloc _ _ _)) _ 1 1 [g] rfl rfl (Sees.one _ _ _ _ rfl) (by omega) ?_; intro a2 c2 w4 ho4 hm4 hsn4; obtain ⟨hb4, hgo⟩ := FIN.out _ g a2 c2 w4 rfl ho4 hm4 hsn4; have hc4 := cell_of_one hb4; have hf4 := free_of_one hb4; have HGO := Lib.hid hgo; clear hgo hb4 ho4 hm4 hsn4)
      exact HGO.out
    | false =>
      obtain ⟨y, hy⟩ : ∃ y, grpB (g, false) = y := ⟨_, rfl⟩
      have e8 : bits BinOp.or IntKind.u8 (g.toNat : Int) 128 = (y.toNat : Int) := by
        have hxw' : g.toNat < 128 := hxw
        rw [u8_or128_right _ (by omega) (by omega), ← hy]
        show _ = ((UInt8.ofNat (128 + g.toNat)).toNat : Int)
        rw [UInt8.toNat_ofNat']; omega
      have HY := Lib.hid hy
      clear hy
      gi_wp2_with (gi_at_builtin; refine wplIn_app8 (dst := some 18) _ _ ao' _ cap' ys rfl rfl (HW.out.mod0 (Mod.alloc _ _ _)) _ 1 1 [y] rfl rfl (Sees.one _ _ _ _ rfl) (by omega) ?_; intro a2 c2 w4 ho4 hm4 hsn4; obtain ⟨hb4, hgo⟩ := FIN.out _ y a2 c2 w4 HY.out ho4 hm4 hsn4; have hc4 := cell_of_one hb4; have hf4 := free_of_one hb4; have HGO := Lib.hid hgo; clear hgo hb4 ho4 hm4 hsn4)
      exact HGO.out
  case done =>
    rintro W ⟨ao', cap', hbox, ho, hm, hsn, hbad⟩ hD
    rw [grp_enc m hm64] at hbox ho
    have hcell := cell_of_one hbox
    have HW := Lib.hid ho
    have HMW := Lib.hid hm
    have HSN := Lib.hid hsn
    have HBAD := Lib.hid hbad
    have HD := Lib.hid hD
    obtain ⟨ys, hys⟩ : ∃ ys, ys = xs ++ enc7 m := ⟨_, rfl⟩
    rw [← hys] at hcell HW
    have HYS := Lib.hid hys
    clear hbox ho hm hsn hbad hD hys
    gi_wp2
    refine ⟨by simp, .inl ⟨_, _, rfl, run_takeDeferred HD.out, ?_⟩⟩
    refine ⟨_, results_tmp rfl _ _ _, ?_⟩
    show RetApp w ao (xs ++ enc7 m) _ _
    rw [← HYS.out]
    refine ⟨ao', ys.length, cap', rfl, rfl, ?_, ?_, ?_⟩
    · exact HW.out.mod (mod_putObj (S := [w2.heap.size]) _ _ _ (by simp)) (fun k hk hs => by have := HBAD.out k hk; simp at hs; simp [hs] at this)
    · exact HMW.out.trans (mod_putObj (S := [w2.heap.size]) _ _ _ (by simp)) (by intro i hi hl; simp at hi; omega)
    · rcases HSN.out with h | ⟨g5, h, h1, h2⟩
      · exact .inl h
      · exact .inr ⟨g5, h, h1, (mod_putObj (S := [w2.heap.size]) W w2.heap.size _ (by simp)).lt h2⟩

theorem vuint_any (ao : Option Addr) (len cap m : Nat) (xs : List UInt8) (w : World)
    (hlen : xs.length = len) (hown : OwnB w ao cap xs) (hm64 : m < 18446744073709551616) (hb : len ≤ 140737488355000) :
    Calls Tryd.prog 43 #[.slice ao len cap, .int .u64 (m : Int)] w (RetApp w ao (xs ++ enc7 m)) :=
  (callsIn_wide (n := 3)).1 (vuint_in Fence.wide 3 trivial trivial trivial rfl (by omega) ao len cap m xs w hlen hown hm64 hb)
end Go.Proofs.YtigamomoegpefaaDoor
/- The walks of varint.Int and varint.Text. -/
namespace Go.Proofs.YtigamomoegpefaaDoor
open Go Go.RowKit

set_option maxHeartbeats 1000000 in
theorem vint_any (ao : Option Addr) (len cap : Nat) (m : Int) (xs : List UInt8) (w : World) (hlen : xs.length = len) (hown : OwnB w ao cap xs) (hb : len ≤ 140737488355000)
    (h1 : -9223372036854775808 ≤ m) (h2 : m ≤ 9223372036854775807) : Calls Tryd.prog 45 #[.slice ao len cap, .int .i64 m] w (RetApp w ao (xs ++ enc7 (zig m))) := by
  have HO := Lib.hid hown
  clear hown
  go_enter Tryd.func45, Tryd.ntmps45
  have hz := zig_lt m h1 h2
  have HZ := Lib.hid (zig_walk m h1 h2)
  go_wp2_with fail
  rw [HZ.out]
  refine (vuint_any _ _ _ _ xs _ hlen HO.out hz hb).mono ?_
  rintro e w2 ⟨a2, k2, c2, rfl, hk2, o2, m2, n2⟩
  have HK := Lib.hid hk2
  clear hk2
  go_wp2
  go_ret
  exact ⟨a2, k2, c2, rfl, HK.out, o2, m2, n2⟩
set_option maxHeartbeats 1000000 in
theorem vtext_any (ao : Option Addr) (len cap : Nat) (s : ByteArray) (xs : List UInt8) (w : World) (hlen : xs.length = len) (hown : OwnB w ao cap xs) (hb : len ≤ 140737400000000) (hs : s.size ≤ 1000000) :
    Calls Tryd.prog 44 #[.slice ao len cap, .string s] w (RetApp w ao (xs ++ enc7 s.size ++ s.data.toList)) := by
  have HO := Lib.hid hown
  have hl11 := (enc7_length s.size).2
  clear hown
  go_enter Tryd.func44, Tryd.ntmps44
  go_wp2_with fail
  refine (vuint_any _ _ _ _ xs _ hlen HO.out (by omega) (by omega)).mono ?_
  rintro e w2 ⟨a2, k2, c2, rfl, hk2, o2, m2, n2⟩
  have hkb : k2 ≤ 140737400000011 := by rw [← hk2]; simp; omega
  have HK := Lib.hid hk2
  have HO2 := Lib.hid o2
  have HM := Lib.hid m2
  have HN := Lib.hid n2
  clear o2 m2 n2 hk2
  go_wp2_with (at_builtin; refine wpl_app8s _ _ a2 k2 c2 (xs ++ enc7 s.size) rfl HK.out HO2.out s rfl (by omega) ?_; intro a3 c3 w3 o3 m3 n3)
  go_ret
  exact RetApp.chain HM.out HN.out ⟨a3, _, c3, rfl, by rw [List.length_append, HK.out, size_data], o3, m3, n3⟩
end Go.Proofs.YtigamomoegpefaaDoor
/- The walks of the document's answer for the varint package: Uint, Int, Text. -/
namespace Go.Proofs.YtigamomoegpefaaDoor
open Go Go.RowKit

end Go.Proofs.YtigamomoegpefaaDoor
/- The walks that put a command behind bytes. -/
namespace Go.Proofs.YtigamomoegpefaaDoor
open Go Go.RowKit Go.Lib

/-- A text's bytes. -/
def txB (s : ByteArray) : List UInt8 := enc7 s.size ++ s.data.toList
def keysB (l : List ByteArray) : List UInt8 := l.flatMap txB
/-- A command's bytes. -/
def oneB (c : Cd) : List UInt8 :=
  enc7 c.client ++ enc7 c.seq ++ enc7 c.kind ++ enc7 c.keys.length ++ keysB c.keys ++ txB c.old ++ txB c.fresh ++ enc7 (zig c.n)
theorem txB_len (s : ByteArray) : (txB s).length ≤ 11 + s.size := by
  unfold txB; rw [List.length_append, size_data]; have := (enc7_length s.size).2; omega
theorem keysB_snoc (l : List ByteArray) (k : Nat) (h : k < l.length) : keysB (l.take (k + 1)) = keysB (l.take k) ++ txB l[k] := by
  unfold keysB; rw [take_snoc l k h, List.flatMap_append]; simp
/-- Parts that are no greater than the laws look at. -/
structure Small (c : Cd) : Prop where
  keys : c.keys.length ≤ 100
  key : ∀ k ∈ c.keys, k.size ≤ 500
  old : c.old.size ≤ 500
  fresh : c.fresh.size ≤ 500

theorem ptext_any (ao : Option Addr) (len cap : Nat) (s : ByteArray) (xs : List UInt8) (w : World) (hlen : xs.length = len) (hown : OwnB w ao cap xs) (hb : len ≤ 140737400000000) (hs : s.size ≤ 1000000) :
    Calls Tryd.prog 44 #[.slice ao len cap, .string s] w (RetApp w ao (xs ++ txB s)) := by
  unfold txB; rw [← List.append_assoc]; exact vtext_any ao len cap s xs w hlen hown hb hs
/-- Where bytes lie in a call that writes behind them, and what has turned since w. -/
structure PutR (w : World) (ao a : Option Addr) (c : Nat) (xs : List UInt8) (wr : World) : Prop where
  own : OwnB wr a c xs
  mod : Mod (blk ao) w wr
  new : SameOrNew w wr ao a
theorem PutR.step {w wr w' : World} {ao a a' : Option Addr} {c c' : Nat} {xs ys : List UInt8} (h : PutR w ao a c xs wr) (o : OwnB w' a' c' ys) (m : Mod (blk a) wr w') (n : SameOrNew wr w' a a') : PutR w ao a' c' ys w' :=
  ⟨o, h.mod.transNew m h.new (fun _ hk => hk), h.new.trans n h.mod.size m.size⟩
theorem PutR.still {w wr w' : World} {ao a : Option Addr} {c : Nat} {xs : List UInt8} (h : PutR w ao a c xs wr) (m : Mod [] wr w') : PutR w ao a c xs w' :=
  ⟨h.own.mod0 m, h.mod.trans0 m, h.new.imp id (fun ⟨b, h1, h2, h3⟩ => ⟨b, h1, h2, Nat.lt_of_lt_of_le h3 m.size⟩)⟩
theorem back_keys {w w' : World} {a a' : Option Addr} (n : SameOrNew w w' a a') : ∀ k, k ∈ blk a' → k < w.heap.size → k ∈ blk a := fun k hk hl => (n.blk k hk).elim id (fun h => absurd hl (by omega))
theorem PutR.fresh {w wr : World} {ao a : Option Addr} {c : Nat} {xs : List UInt8} {g : Nat} (h : PutR w ao a c xs wr) (hg : g < w.heap.size) (hn : g ∉ blk ao) : g ∉ blk a := fun hk => (h.new.blk g hk).elim hn (by omega)

theorem box_facts (c : Cm) (w : World) : ∃ w1, w.alloc (.cells #[.int .u32 (c.1.client : Int), .int .u32 (c.1.seq : Int), .int .u8 (c.1.kind : Int), .slice c.2.1 c.1.keys.length c.2.2, .string c.1.old, .string c.1.fresh, .int .i64 c.1.n] 36) = w1 ∧
    Mod [] w w1 ∧ w1.heap.size = w.heap.size + 1 ∧ w1.cell? ⟨w.heap.size, 0, none⟩ = some (.int .u32 (c.1.client : Int)) ∧ w1.cell? ⟨w.heap.size, 1, none⟩ = some (.int .u32 (c.1.seq : Int)) ∧ w1.cell? ⟨w.heap.size, 2, none⟩ = some (.int .u8 (c.1.kind : Int)) ∧
    w1.cell? ⟨w.heap.size, 3, none⟩ = some (.slice c.2.1 c.1.keys.length c.2.2) ∧ w1.cell? ⟨w.heap.size, 4, none⟩ = some (.string c.1.old) ∧ w1.cell? ⟨w.heap.size, 5, none⟩ = some (.string c.1.fresh) ∧ w1.cell? ⟨w.heap.size, 6, none⟩ = some (.int .i64 c.1.n) := by
  have hb := heap_alloc_new w (.cells #[.int .u32 (c.1.client : Int), .int .u32 (c.1.seq : Int), .int .u8 (c.1.kind : Int), .slice c.2.1 c.1.keys.length c.2.2, .string c.1.old, .string c.1.fresh, .int .i64 c.1.n] 36)
  exact ⟨_, rfl, Mod.alloc _ _ _, by simp, cell_of_block hb, cell_of_block hb, cell_of_block hb, cell_of_block hb, cell_of_block hb, cell_of_block hb, cell_of_block hb⟩

set_option maxRecDepth 100000 in
set_option maxHeartbeats 4000000 in
theorem put_any (ao : Option Addr) (len cap : Nat) (xs : List UInt8) (c : Cm) (w : World) (hlen : xs.length = len) (hown : OwnB w ao cap xs) (hb : len ≤ 140737000000000)
    (hw : Wf c.1) (hsm : Small c.1) (hk : SeesT w c.2.1 c.1.keys) (hd : c.1.keys ≠ [] → ∀ k, k ∈ blk c.2.1 → k ∉ blk ao) :
    Calls Tryd.prog 29 #[.slice ao len cap, cmdV c] w (RetApp w ao (xs ++ oneB c.1)) := by
  obtain ⟨⟨client, seq, kind, keys, old, fresh, n⟩, kao, kcap⟩ := c
  obtain ⟨hw1, hw2, hw3, hw4, -, hw6, hw7, hw8, hw9⟩ := hw
  obtain ⟨s1, s2, s3, s4⟩ := hsm
  dsimp only at hw1 hw2 hw3 hw4 hw6 hw7 hw8 hw9 hk hd s1 s2 s3 s4
  have hga : w.heap.size ∉ blk ao := fun h => by have := Own.lt hown _ h; omega
  obtain ⟨w1, hw1', M1, z1, q0, q1, q2, q3, q4, q5, q6⟩ := box_facts (⟨client, seq, kind, keys, old, fresh, n⟩, kao, kcap) w
  dsimp only at hw1' q0 q1 q2 q3 q4 q5 q6
  have P0 := Lib.hid (PutR.mk (hown.mod0 M1) (Mod.refl (blk ao) w1) (.inl rfl))
  have HK := Lib.hid (hk.mod0 M1)
  have HN : Hid (∀ wr a c ys, PutR w1 ao a c ys wr → w.heap.size ∉ blk a) := Lib.hid (fun wr a c ys h => h.fresh (by omega) hga)
  have HC : Hid (∀ wr a c ys i v, PutR w1 ao a c ys wr → w1.cell? ⟨w.heap.size, i, none⟩ = some v → wr.cell? ⟨w.heap.size, i, none⟩ = some v) := Lib.hid (fun wr a c ys i v h hc => h.mod.cell hc hga)
  have HT : Hid (∀ wr a c ys, PutR w1 ao a c ys wr → SeesT wr kao keys) := Lib.hid (fun wr a c ys h => HK.out.mod h.mod hd)
  have HE : Hid (∀ wr a c ys, PutR w1 ao a c ys wr → ∀ e, (∃ n', e = Ending.returned (.slice a n' c) ∧ ys.length = n') → RetApp w ao ys e wr) := Lib.hid (by
    rintro wr a c ys h e ⟨n', rfl, hn'⟩
    exact ⟨a, n', c, rfl, hn', h.own, M1.nil.trans' h.mod, h.new.imp id (fun ⟨b, h1, h2, h3⟩ => ⟨b, h1, Nat.le_trans M1.size h2, h3⟩)⟩)
  have S2 := Lib.hid s2
  subst hlen
  clear hk hd s2 hown HK
  show Calls Tryd.prog 29 #[.slice ao xs.length cap, .agg #[.int .u32 (client : Int), .int .u32 (seq : Int), .int .u8 (kind : Int), .slice kao keys.length kcap, .string old, .string fresh, .int .i64 n]] w (RetApp w ao (xs ++ oneB ⟨client, seq, kind, keys, old, fresh, n⟩))
  have l1 := (enc7_length client).2
  have l2 := (enc7_length seq).2
  have l3 := (enc7_length kind).2
  have l4 := (enc7_length keys.length).2
  go_enter Tryd.func29, Tryd.ntmps29
  go_wp2_with fail
  clear hw1'
  refine (vuint_any ao _ cap client xs w1 rfl P0.out.own (by omega) (by omega)).mono ?_
  rintro e w2 ⟨a2, k2, c2, rfl, hk2, o2, m2, n2⟩
  have P2 := Lib.hid (P0.out.step o2 m2 n2)
  have hb2 : k2 ≤ xs.length + 11 := by rw [← hk2, List.length_append]; omega
  have q1' := HC.out _ _ _ _ _ _ P2.out q1
  have HL2 := Lib.hid hk2
  clear hk2 o2 m2 n2 P0
  go_wp2_with fail
  refine (vuint_any a2 _ c2 seq _ w2 HL2.out P2.out.own (by omega) (by omega)).mono ?_
  rintro e w3 ⟨a3, k3, c3, rfl, hk3, o3, m3, n3⟩
  have P3 := Lib.hid (P2.out.step o3 m3 n3)
  have hb3 : k3 ≤ xs.length + 22 := by rw [← hk3, List.length_append, HL2.out]; omega
  have q2' := HC.out _ _ _ _ _ _ P3.out q2
  have HL3 := Lib.hid hk3
  clear hk3 o3 m3 n3 P2 q1' HL2
  go_wp2_with fail
  refine (vuint_any a3 _ c3 kind _ w3 HL3.out P3.out.own (by omega) (by omega)).mono ?_
  rintro e w4 ⟨a4, k4, c4, rfl, hk4, o4, m4, n4⟩
  have P4 := Lib.hid (P3.out.step o4 m4 n4)
  have hb4 : k4 ≤ xs.length + 33 := by rw [← hk4, List.length_append, HL3.out]; omega
  have q3' := HC.out _ _ _ _ _ _ P4.out q3
  have HL4 := Lib.hid hk4
  clear hk4 o4 m4 n4 P3 q2' HL3
  go_wp2_with fail
  refine (vuint_any a4 _ c4 keys.length _ w4 HL4.out P4.out.own (by omega) (by omega)).mono ?_
  rintro e w5 ⟨a5, k5, c5, rfl, hk5, o5, m5, n5⟩
  have P5 := Lib.hid (P4.out.step o5 m5 n5)
  have hb5 : k5 ≤ xs.length + 44 := by rw [← hk5, List.length_append, HL4.out]; omega
  have q3' := HC.out _ _ _ _ _ _ P5.out q3
  have HL5 := Lib.hid hk5
  clear hk5 o5 m5 n5 P4 HL4
  go_wp2_with fail
  obtain ⟨ys, hys⟩ : ∃ ys, xs ++ enc7 client ++ enc7 seq ++ enc7 kind ++ enc7 keys.length = ys := ⟨_, rfl⟩
  have HY := Lib.hid hys
  have P5' : Hid (PutR w1 ao a5 c5 ys w5) := Lib.hid (hys ▸ P5.out)
  have HL5' : Hid (ys.length = k5) := Lib.hid (hys ▸ HL5.out)
  clear P5 HL5 hys
  go_loopw [0, 31] (fun b i wr => ∃ (k : Nat) (a : Option Addr) (kk c : Nat), k ≤ keys.length ∧ i = .int .i64 (k : Int) ∧ b = .slice a kk c ∧ (ys ++ keysB (keys.take k)).length = kk ∧ kk ≤ k5 + 511 * k ∧ PutR w1 ao a c (ys ++ keysB (keys.take k)) wr) (fun _ i _ => keys.length - (intOf i).toNat)
  case atStart => exact ⟨0, a5, k5, c5, Nat.zero_le _, rfl, rfl, by simpa [keysB] using HL5'.out, by omega, by simpa [keysB] using P5'.out⟩
  case round =>
    obtain ⟨k, a, kk, c, hk, rfl, rfl, hkk, hkb, hp⟩ := hrel
    have P := Lib.hid hp
    have HL := Lib.hid hkk
    clear hp hkk P5' HL5'
    by_cases hlt : k < keys.length
    · obtain ⟨b, off, rfl, p0⟩ := (HT.out _ _ _ _ P.out) k hlt
      have hz := S2.out _ (List.getElem_mem hlt)
      have HS := Lib.hid (keysB_snoc keys k hlt)
      obtain ⟨t, ht⟩ : ∃ t, keys[k] = t := ⟨_, rfl⟩
      rw [ht] at p0 hz
      have HTT := Lib.hid ht
      clear ht
      go_wp2_with fail
      refine (ptext_any a _ c t _ wr HL.out P.out.own (by omega) (by omega)).mono ?_
      rintro e w6 ⟨a6, k6, c6, rfl, hk6, o6, m6, n6⟩
      have hE : ys ++ keysB (keys.take (k + 1)) = ys ++ keysB (keys.take k) ++ txB t := by rw [HS.out, HTT.out, List.append_assoc]
      rw [← hE] at hk6 o6
      have P6 := Lib.hid (P.out.step o6 m6 n6)
      have hl6 := txB_len t
      have hb6 : k6 ≤ k5 + 511 * (k + 1) := by rw [← hk6, hE, List.length_append, HL.out]; omega
      have HL6 := Lib.hid hk6
      clear hk6 o6 m6 n6 hE
      go_wp2_with fail
      go_roundw
      case rel => exact ⟨k + 1, a6, k6, c6, by omega, by go_num, rfl, HL6.out, hb6, P6.out⟩
      case measure => simp [intOf]; omega
    · have hke : k = keys.length := by omega
      subst hke
      have q4' := HC.out _ _ _ _ _ _ P.out q4
      have q5' := HC.out _ _ _ _ _ _ P.out q5
      have q6' := HC.out _ _ _ _ _ _ P.out q6
      have hna := HN.out _ _ _ _ P.out
      rw [List.take_length] at P HL
      go_upto_region 10 with (fail)
      have l5 := txB_len old
      have l6 := txB_len fresh
      refine rest_start (blk a) 11 #[false, false, false, false, false, false, false, false, false, false, false] rfl (by kernel_rfl) (by kernel_rfl) ?_
      intro w6 m6
      have q4' := m6.cell q4' List.not_mem_nil
      have q5' := m6.cell q5' List.not_mem_nil
      have q6' := m6.cell q6' List.not_mem_nil
      have P6 := Lib.hid (P.out.still m6)
      clear m6 P
      refine rest_got (i := 0) (v := ?v1) rfl (by kernel_rfl) (by kernel_rfl) (by kernel_rfl) (fun _ _ _ h => h) (by rfl) ?y1 ?r1
      case y1 => (intro w9q hSwq; clear hSwq; go_simp; with_reducible rfl)
      try simp only [Act.put, List.setIfInBounds_toArray, List.set_cons_zero, List.set_cons_succ]
      refine rest_got (i := 1) (v := ?v2) rfl (by kernel_rfl) (by kernel_rfl) (by kernel_rfl) (fun _ _ _ h => h) (by rfl) ?y2 ?r2
      case y2 => (intro w9q hSwq; clear hSwq; go_simp; with_reducible rfl)
      try simp only [Act.put, List.setIfInBounds_toArray, List.set_cons_zero, List.set_cons_succ]
      refine rest_got (i := 2) (v := ?v3) rfl (by kernel_rfl) (by kernel_rfl) (by kernel_rfl) (fun _ _ _ h => h) (by rfl) ?y3 ?r3
      case y3 => ((intro w9' hm9'; have hc9' := Mod.cell hm9' q4' (by first | exact List.not_mem_nil | assumption | (simp; done) | (simp; omega)); clear hm9'; go_simp; with_reducible rfl))
      try simp only [Act.put, List.setIfInBounds_toArray, List.set_cons_zero, List.set_cons_succ]
      refine rest_got (i := 4) (v := ?v4) rfl (by kernel_rfl) (by kernel_rfl) (by kernel_rfl) (fun _ _ _ h => h) (by rfl) ?y4 ?r4
      case y4 => (intro w9q hSwq; clear hSwq; go_simp; with_reducible rfl)
      try simp only [Act.put, List.setIfInBounds_toArray, List.set_cons_zero, List.set_cons_succ]
      refine rest_got (i := 5) (v := ?v5) rfl (by kernel_rfl) (by kernel_rfl) (by kernel_rfl) (fun _ _ _ h => h) (by rfl) ?y5 ?r5
      case y5 => ((intro w9' hm9'; have hc9' := Mod.cell hm9' q5' (by first | exact List.not_mem_nil | assumption | (simp; done) | (simp; omega)); clear hm9'; go_simp; with_reducible rfl))
      try simp only [Act.put, List.setIfInBounds_toArray, List.set_cons_zero, List.set_cons_succ]
      refine rest_got (i := 7) (v := ?v6) rfl (by kernel_rfl) (by kernel_rfl) (by kernel_rfl) (fun _ _ _ h => h) (by rfl) ?y6 ?r6
      case y6 => (intro w9q hSwq; clear hSwq; go_simp; with_reducible rfl)
      try simp only [Act.put, List.setIfInBounds_toArray, List.set_cons_zero, List.set_cons_succ]
      refine rest_got (i := 8) (v := ?v7) rfl (by kernel_rfl) (by kernel_rfl) (by kernel_rfl) (fun _ _ _ h => h) (by rfl) ?y7 ?r7
      case y7 => ((intro w9' hm9'; have hc9' := Mod.cell hm9' q6' (by first | exact List.not_mem_nil | assumption | (simp; done) | (simp; omega)); clear hm9'; go_simp; with_reducible rfl))
      try simp only [Act.put, List.setIfInBounds_toArray, List.set_cons_zero, List.set_cons_succ]
      refine rest_one (i := 3) (by kernel_rfl) rfl (by rfl) ?_
      go_wp2_with fail
      refine (ptext_any a _ c old _ w6 HL.out P6.out.own (by omega) (by omega)).mono ?_
      rintro e w7 ⟨a7, k7, c7, rfl, hk7, o7, m7, n7⟩
      have P7 := Lib.hid (P6.out.step o7 m7 n7)
      have hb7 : k7 ≤ kk + 511 := by rw [← hk7, List.length_append, HL.out]; omega
      have HL7 := Lib.hid hk7
      go_wp2_with fail
      refine back_to (K1 := blk a7) m7 (back_keys n7) ?_
      clear hk7 o7 m7 n7 P6 q4' q5' q6' hna
      
      refine rest_one (i := 6) (by kernel_rfl) rfl (by rfl) ?_
      go_wp2_with fail
      refine (ptext_any a7 _ c7 fresh _ w7 HL7.out P7.out.own (by omega) (by omega)).mono ?_
      rintro e w8 ⟨a8, k8, c8, rfl, hk8, o8, m8, n8⟩
      have P8 := Lib.hid (P7.out.step o8 m8 n8)
      have hb8 : k8 ≤ k7 + 511 := by rw [← hk8, List.length_append, HL7.out]; omega
      have HL8 := Lib.hid hk8
      go_wp2_with fail
      refine back_to (K1 := blk a8) m8 (back_keys n8) ?_
      clear hk8 o8 m8 n8 P7 HL7
      
      refine rest_one (i := 9) (by kernel_rfl) rfl (by rfl) ?_
      go_wp2_with fail
      refine (vint_any a8 _ c8 n _ w8 HL8.out P8.out.own (by omega) hw8 hw9).mono ?_
      rintro e w9 ⟨a9, k9, c9, rfl, hk9, o9, m9, n9⟩
      have P9 := Lib.hid (P8.out.step o9 m9 n9)
      have HL9 := Lib.hid hk9
      go_wp2_with fail
      refine back_to (K1 := blk a9) m9 (back_keys n9) ?_
      clear hk9 o9 m9 n9 P8 HL8
      refine rest_got (i := 10) (v := ?v8) rfl (by kernel_rfl) (by kernel_rfl) (by kernel_rfl) (fun _ _ _ h => h) (by rfl) ?y8 ?r8
      case y8 => (intro w9q hSwq; clear hSwq; go_simp; with_reducible rfl)
      try simp only [Act.put, List.setIfInBounds_toArray, List.set_cons_zero, List.set_cons_succ]
      refine rest_done (by kernel_rfl) ?_ _
      go_wp2
      go_ret
      have hE : xs ++ oneB ⟨client, seq, kind, keys, old, fresh, n⟩ = ys ++ keysB keys ++ txB old ++ txB fresh ++ enc7 (zig n) := by
        rw [← HY.out]; simp only [oneB, List.append_assoc]
      rw [hE]
      exact HE.out _ _ _ _ P9.out _ ⟨k9, rfl, HL9.out⟩
end Go.Proofs.YtigamomoegpefaaDoor
/- The walks that compare commands. -/
namespace Go.Proofs.YtigamomoegpefaaDoor
open Go Go.RowKit Go.Lib

/-- Are two commands alike? -/
def SameC (c d : Cd) : Prop := c.client = d.client ∧ c.seq = d.seq ∧ c.kind = d.kind ∧ c.keys = d.keys ∧ c.old = d.old ∧ c.fresh = d.fresh ∧ c.n = d.n
instance (c d : Cd) : Decidable (SameC c d) := inferInstanceAs (Decidable (_ ∧ _))
theorem same_iff (c d : Cd) : SameC c d ↔ c = d := by
  constructor
  · rintro ⟨h1, h2, h3, h4, h5, h6, h7⟩
    cases c; cases d
    dsimp only at h1 h2 h3 h4 h5 h6 h7
    subst h1 h2 h3 h4 h5 h6 h7
    rfl
  · rintro rfl
    exact ⟨rfl, rfl, rfl, rfl, rfl, rfl, rfl⟩

theorem str_beq (s t : ByteArray) : (s.toList == t.toList) = decide (s = t) := by
  rw [ByteArray.toList_eq, ByteArray.toList_eq]
  apply Bool.eq_iff_iff.2
  rw [beq_iff_eq, decide_eq_true_iff]
  exact ⟨fun h => by rw [str_eta s, str_eta t, h], fun h => by rw [h]⟩

set_option maxRecDepth 100000 in
set_option maxHeartbeats 4000000 in
theorem sameRef_any (c d : Cm) (w : World) (hw : Wf c.1) (hw' : Wf d.1) (h1 : SeesT w c.2.1 c.1.keys) (h2 : SeesT w d.2.1 d.1.keys) :
    Calls Tryd.prog 22 #[cmdV c, cmdV d] w fun e w' => e = .returned (.bool (decide (SameC c.1 d.1))) ∧ Mod [] w w' := by
  obtain ⟨⟨client, seq, kind, keys, old, fresh, n⟩, kao, kcap⟩ := c
  obtain ⟨⟨client', seq', kind', keys', old', fresh', n'⟩, kao', kcap'⟩ := d
  obtain ⟨hw1, hw2, hw3, hw4, -, hw6, hw7, hw8, hw9⟩ := hw
  obtain ⟨hv1, hv2, hv3, hv4, -, hv6, hv7, hv8, hv9⟩ := hw'
  dsimp only at hw1 hw2 hw3 hw4 hw6 hw7 hw8 hw9 h1 hv1 hv2 hv3 hv4 hv6 hv7 hv8 hv9 h2
  obtain ⟨w1, hw1', M1, z1, q0, q1, q2, q3, q4, q5, q6⟩ := box_facts (⟨client, seq, kind, keys, old, fresh, n⟩, kao, kcap) w
  obtain ⟨w2, hw2', M2, z2, r0, r1, r2, r3, r4, r5, r6⟩ := box_facts (⟨client', seq', kind', keys', old', fresh', n'⟩, kao', kcap') w1
  dsimp only at hw1' hw2' q0 q1 q2 q3 q4 q5 q6 r0 r1 r2 r3 r4 r5 r6
  have H1 := Lib.hid ((h1.mod0 M1).mod0 M2)
  have H2 := Lib.hid ((h2.mod0 M1).mod0 M2)
  have M := Lib.hid (M1.trans' M2)
  rw [z1] at r0 r1 r2 r3 r4 r5 r6
  replace q0 := M2.cell q0 List.not_mem_nil
  replace q1 := M2.cell q1 List.not_mem_nil
  replace q2 := M2.cell q2 List.not_mem_nil
  replace q3 := M2.cell q3 List.not_mem_nil
  replace q4 := M2.cell q4 List.not_mem_nil
  replace q5 := M2.cell q5 List.not_mem_nil
  replace q6 := M2.cell q6 List.not_mem_nil
  clear h1 h2 M1 M2
  show Calls Tryd.prog 22 #[.agg #[.int .u32 (client : Int), .int .u32 (seq : Int), .int .u8 (kind : Int), .slice kao keys.length kcap, .string old, .string fresh, .int .i64 n], .agg #[.int .u32 (client' : Int), .int .u32 (seq' : Int), .int .u8 (kind' : Int), .slice kao' keys'.length kcap', .string old', .string fresh', .int .i64 n']] w fun e w' => e = .returned (.bool (decide (SameC ⟨client, seq, kind, keys, old, fresh, n⟩ ⟨client', seq', kind', keys', old', fresh', n'⟩))) ∧ Mod [] w w'
  obtain ⟨mb, hmb⟩ : ∃ b, decide (SameC ⟨client, seq, kind, keys, old, fresh, n⟩ ⟨client', seq', kind', keys', old', fresh', n'⟩) = b := ⟨_, rfl⟩
  rw [hmb]
  have HV := Lib.hid hmb
  clear hmb
  by_cases hl : keys.length = keys'.length
  case neg =>
    have hno : ¬ SameC ⟨client, seq, kind, keys, old, fresh, n⟩ ⟨client', seq', kind', keys', old', fresh', n'⟩ := fun h => hl (congrArg List.length h.2.2.2.1)
    have hmb : mb = false := by rw [← HV.out]; exact decide_eq_false hno
    subst hmb
    have D : ((keys.length : Int) == (keys'.length : Int)) = false := by simp; omega
    clear hno
    go_enter Tryd.func22, Tryd.ntmps22
    go_wp2
    go_ret
    exact ⟨rfl, M.out⟩
  have HL := Lib.hid hl
  have D : ((keys.length : Int) != (keys'.length : Int)) = false := by simp; omega
  clear hl
  go_enter Tryd.func22, Tryd.ntmps22
  go_wp2
  clear hw1' hw2' D
  go_loopw [5] (fun i wr => ∃ k : Nat, k ≤ keys.length ∧ i = .int .i64 (k : Int) ∧ keys.take k = keys'.take k ∧ Mod [] w2 wr) (fun i _ => keys.length - (intOf i).toNat)
  case atStart => exact ⟨0, Nat.zero_le _, rfl, rfl, Mod.refl _ _⟩
  case round =>
    obtain ⟨k, hk, rfl, hall, hm⟩ := hrel
    have HA := Lib.hid hall
    have HM := Lib.hid hm
    clear hall
    replace q0 := hm.cell q0 List.not_mem_nil
    replace q1 := hm.cell q1 List.not_mem_nil
    replace q2 := hm.cell q2 List.not_mem_nil
    replace q3 := hm.cell q3 List.not_mem_nil
    replace q4 := hm.cell q4 List.not_mem_nil
    replace q5 := hm.cell q5 List.not_mem_nil
    replace q6 := hm.cell q6 List.not_mem_nil
    replace r0 := hm.cell r0 List.not_mem_nil
    replace r1 := hm.cell r1 List.not_mem_nil
    replace r2 := hm.cell r2 List.not_mem_nil
    replace r3 := hm.cell r3 List.not_mem_nil
    replace r4 := hm.cell r4 List.not_mem_nil
    replace r5 := hm.cell r5 List.not_mem_nil
    replace r6 := hm.cell r6 List.not_mem_nil
    clear hm
    by_cases hlt : k < keys.length
    · have hlt2 : k < keys'.length := by rw [← HL.out]; exact hlt
      obtain ⟨b, off, rfl, p1⟩ := (H1.out.mod0 HM.out) k hlt
      obtain ⟨b2, off2, rfl, p2⟩ := (H2.out.mod0 HM.out) k hlt2
      have T1 := Lib.hid (take_snoc keys k hlt)
      have T2 := Lib.hid (take_snoc keys' k hlt2)
      have G1 : Hid (keys[k]? = some keys[k]) := Lib.hid (List.getElem?_eq_getElem hlt)
      have G2 : Hid (keys'[k]? = some keys'[k]) := Lib.hid (List.getElem?_eq_getElem hlt2)
      obtain ⟨t1, ht1⟩ : ∃ t, keys[k] = t := ⟨_, rfl⟩
      obtain ⟨t2, ht2⟩ : ∃ t, keys'[k] = t := ⟨_, rfl⟩
      rw [ht1] at p1 T1 G1
      rw [ht2] at p2 T2 G2
      clear ht1 ht2
      by_cases hs : t1 = t2
      · subst hs
        go_wp2_with fail
        go_quiet (fail)
        go_wp2_with fail
        go_roundw
        case rel =>
          refine ⟨k + 1, by omega, by go_num, by rw [T1.out, T2.out, HA.out], HM.out.trans0 (Mod.drewN _ _ _)⟩
        case measure => simp [intOf]; omega
      · have hno : ¬ SameC ⟨client, seq, kind, keys, old, fresh, n⟩ ⟨client', seq', kind', keys', old', fresh', n'⟩ := fun h => hs (by
          have a := G1.out
          have b := G2.out
          have e : keys = keys' := h.2.2.2.1
          rw [e] at a
          exact Option.some.inj (a.symm.trans b))
        have hmb : mb = false := by rw [← HV.out]; exact decide_eq_false hno
        subst hmb
        have NE : (t1.toList == t2.toList) = false := by rw [str_beq]; exact decide_eq_false hs
        go_wp2_with fail
        go_quiet (fail)
        go_wp2_with fail
        go_ret
        exact ⟨rfl, M.out.trans' (HM.out.trans0 (Mod.drewN _ _ _))⟩
    · have hke : k = keys.length := by omega
      subst hke
      have hkk : keys = keys' := by have := HA.out; rw [List.take_length, HL.out, List.take_length] at this; exact this
      obtain ⟨x0, E0⟩ : ∃ b, ((client : Int) == (client' : Int)) = b := ⟨_, rfl⟩
      obtain ⟨x1, E1⟩ : ∃ b, ((seq : Int) == (seq' : Int)) = b := ⟨_, rfl⟩
      obtain ⟨x2, E2⟩ : ∃ b, ((kind : Int) == (kind' : Int)) = b := ⟨_, rfl⟩
      obtain ⟨x4, E4⟩ : ∃ b, (old.toList == old'.toList) = b := ⟨_, rfl⟩
      obtain ⟨x5, E5⟩ : ∃ b, (fresh.toList == fresh'.toList) = b := ⟨_, rfl⟩
      obtain ⟨x6, E6⟩ : ∃ b, (n == n') = b := ⟨_, rfl⟩
      have HX : Hid (mb = (x0 && x1 && x2 && x4 && x5 && x6)) := Lib.hid (by
        rw [← HV.out, ← E0, ← E1, ← E2, ← E4, ← E5, ← E6, str_beq, str_beq]
        apply Bool.eq_iff_iff.2
        rw [decide_eq_true_iff]
        unfold SameC
        simp only [Bool.and_eq_true, decide_eq_true_eq, beq_iff_eq, Int.natCast_inj]
        constructor
        · rintro ⟨a0, a1, a2, a3, a4, a5, a6⟩; exact ⟨⟨⟨⟨⟨a0, a1⟩, a2⟩, a4⟩, a5⟩, a6⟩
        · rintro ⟨⟨⟨⟨⟨a0, a1⟩, a2⟩, a4⟩, a5⟩, a6⟩; exact ⟨a0, a1, a2, hkk, a4, a5, a6⟩)
      clear hkk
      cases x0
      · go_wp2
        go_ret
        exact ⟨by rw [HX.out]; rfl, M.out.trans' HM.out⟩
      cases x1
      · go_wp2
        go_ret
        exact ⟨by rw [HX.out]; rfl, M.out.trans' HM.out⟩
      cases x2
      · go_wp2
        go_ret
        exact ⟨by rw [HX.out]; rfl, M.out.trans' HM.out⟩
      cases x4
      · go_wp2
        go_ret
        exact ⟨by rw [HX.out]; rfl, M.out.trans' HM.out⟩
      cases x5
      · go_wp2
        go_ret
        exact ⟨by rw [HX.out]; rfl, M.out.trans' HM.out⟩
      go_wp2
      go_ret
      exact ⟨by rw [HX.out]; rfl, M.out.trans' HM.out⟩
end Go.Proofs.YtigamomoegpefaaDoor
/- The walks that compare commands, two. -/
namespace Go.Proofs.YtigamomoegpefaaDoor
open Go Go.RowKit Go.Lib

/-- Commands that lie in a row. -/
def SeesC (w : World) (ao : Option Addr) (l : List Cm) : Prop :=
  ∀ j (h : j < l.length), ∃ b off, ao = some ⟨b, off, none⟩ ∧ w.cell? ⟨b, off + j * 7, none⟩ = some (.int .u32 (l[j].1.client : Int)) ∧ w.cell? ⟨b, off + j * 7 + 1, none⟩ = some (.int .u32 (l[j].1.seq : Int)) ∧
    w.cell? ⟨b, off + j * 7 + 2, none⟩ = some (.int .u8 (l[j].1.kind : Int)) ∧ w.cell? ⟨b, off + j * 7 + 3, none⟩ = some (.slice l[j].2.1 l[j].1.keys.length l[j].2.2) ∧ w.cell? ⟨b, off + j * 7 + 4, none⟩ = some (.string l[j].1.old) ∧
    w.cell? ⟨b, off + j * 7 + 5, none⟩ = some (.string l[j].1.fresh) ∧ w.cell? ⟨b, off + j * 7 + 6, none⟩ = some (.int .i64 l[j].1.n) ∧ SeesT w l[j].2.1 l[j].1.keys ∧ Wf l[j].1
theorem SeesC.mod0 {w w' : World} {ao : Option Addr} {l : List Cm} (h : SeesC w ao l) (hm : Mod [] w w') : SeesC w' ao l := by
  intro j hj
  obtain ⟨b, off, h1, c0, c1, c2, c3, c4, c5, c6, ht, hf⟩ := h j hj
  exact ⟨b, off, h1, hm.cell c0 (by simp), hm.cell c1 (by simp), hm.cell c2 (by simp), hm.cell c3 (by simp), hm.cell c4 (by simp), hm.cell c5 (by simp), hm.cell c6 (by simp), ht.mod0 hm, hf⟩

/-- What the test of great ones tells. -/
def GreatR (w : World) (l : List Cm) (e : Ending) (w' : World) : Prop := ∃ b, e = .returned (.bool b) ∧ Mod [] w w' ∧ (b = false → l.length ≤ 100 ∧ ∀ c ∈ l, Small c.1)
end Go.Proofs.YtigamomoegpefaaDoor
/- The walk of the reference's test of a command. -/
namespace Go.Proofs.YtigamomoegpefaaDoor
open Go Go.RowKit Go.Lib

set_option maxRecDepth 100000 in
set_option maxHeartbeats 4000000 in
theorem may_any (c : Cm) (w : World) (hw : Wf c.1) (hk : SeesT w c.2.1 c.1.keys) :
    Calls Tryd.prog 46 #[cmdV c] w fun e w' => e = .returned (.bool (decide (May c.1))) ∧ Mod [] w w' := by
  obtain ⟨⟨client, seq, kind, keys, old, fresh, n⟩, kao, kcap⟩ := c
  obtain ⟨hw1, hw2, hw3, hw4, -, hw6, hw7, hw8, hw9⟩ := hw
  dsimp only at hw1 hw2 hw3 hw4 hw6 hw7 hw8 hw9 hk
  have HK := Lib.hid hk
  clear hk
  show Calls Tryd.prog 46 #[.agg #[.int .u32 (client : Int), .int .u32 (seq : Int), .int .u8 (kind : Int), .slice kao keys.length kcap, .string old, .string fresh, .int .i64 n]] w fun e w' => e = .returned (.bool (decide (May ⟨client, seq, kind, keys, old, fresh, n⟩))) ∧ Mod [] w w'
  obtain ⟨mb, hmb⟩ : ∃ x : Bool, decide (May ⟨client, seq, kind, keys, old, fresh, n⟩) = x := ⟨_, rfl⟩
  rw [hmb]
  have HV := Lib.hid hmb
  clear hmb
  by_cases hk8 : 1 ≤ kind ∧ kind ≤ 8
  case neg =>
    have hno : ¬ May ⟨client, seq, kind, keys, old, fresh, n⟩ := fun h => hk8 h.1
    have hmb : mb = false := by rw [← HV.out]; exact decide_eq_false hno
    subst hmb
    have e1 : ((kind : Int) == 1) = false := by simp; omega
    have e2 : ((kind : Int) == 2) = false := by simp; omega
    have e3 : ((kind : Int) == 3) = false := by simp; omega
    have e4 : ((kind : Int) == 4) = false := by simp; omega
    have e5 : ((kind : Int) == 5) = false := by simp; omega
    have e6 : ((kind : Int) == 6) = false := by simp; omega
    have e7 : ((kind : Int) == 7) = false := by simp; omega
    have e8 : ((kind : Int) == 8) = false := by simp; omega
    go_enter Tryd.func46, Tryd.ntmps46
    go_wp2
    go_ret
    exact ⟨rfl, Mod.alloc _ _ _⟩
  go_enter Tryd.func46, Tryd.ntmps46
  go_upto_block 0 with (fail)
  obtain ⟨w1, hw1'⟩ : ∃ x, w.alloc (.cells #[.int .u32 (client : Int), .int .u32 (seq : Int), .int .u8 (kind : Int), .slice kao keys.length kcap, .string old, .string fresh, .int .i64 n] 36) = x := ⟨_, rfl⟩
  have hbox : w1.heap[w.heap.size]? = some (.cells #[.int .u32 (client : Int), .int .u32 (seq : Int), .int .u8 (kind : Int), .slice kao keys.length kcap, .string old, .string fresh, .int .i64 n] 36 (0, 0)) := by rw [← hw1']; exact heap_alloc_new _ _
  have M1 := Lib.hid (hw1' ▸ Mod.alloc [] w (.cells #[.int .u32 (client : Int), .int .u32 (seq : Int), .int .u8 (kind : Int), .slice kao keys.length kcap, .string old, .string fresh, .int .i64 n] 36))
  rw [hw1']
  clear hw1'
  generalize w.heap.size = g at *
  have q0 := cell_of_block (i := 0) hbox
  have q2 := cell_of_block (i := 2) hbox
  have q3 := cell_of_block (i := 3) hbox
  have q4 := cell_of_block (i := 4) hbox
  have q5 := cell_of_block (i := 5) hbox
  have q6 := cell_of_block (i := 6) hbox
  simp only [List.getElem?_toArray, List.getElem?_cons_succ, List.getElem?_cons_zero] at q0 q2 q3 q4 q5 q6
  clear hbox
  go_cut [3, 4] from 8 to 20 (fun lo hi wx => w1 = wx ∧ lo = .int .i64 (least kind : Int) ∧ hi = .int .i64 (most kind : Int))
  · have h8 : kind = 1 ∨ kind = 2 ∨ kind = 3 ∨ kind = 4 ∨ kind = 5 ∨ kind = 6 ∨ kind = 7 ∨ kind = 8 := by omega
    clear HV HK hk8
    rcases h8 with rfl | rfl | rfl | rfl | rfl | rfl | rfl | rfl
    all_goals
      go_wp2
      go_meet
      exact ⟨rfl, rfl, rfl⟩
  obtain ⟨rfl, rfl, rfl⟩ := hcut
  obtain ⟨lo, hlo⟩ : ∃ x, least kind = x := ⟨_, rfl⟩
  obtain ⟨hi, hhi⟩ : ∃ x, most kind = x := ⟨_, rfl⟩
  rw [hlo, hhi]
  have HLO := Lib.hid hlo
  have HHI := Lib.hid hhi
  clear hlo hhi
  have hlo : lo ≤ 16 := by rw [← HLO.out]; unfold least; split <;> omega
  have hhi : hi ≤ 16 := by rw [← HHI.out]; unfold most; split <;> (try split) <;> omega
  go_wp2
  go_loopw [5] (fun i wr => ∃ k : Nat, k ≤ keys.length ∧ i = .int .i64 (k : Int) ∧ (∀ j, (h : j < keys.length) → j < k → KeyOk keys[j]) ∧ wr = w1) (fun i _ => keys.length - (intOf i).toNat)
  case atStart => exact ⟨0, Nat.zero_le _, rfl, fun j _ h => absurd h (Nat.not_lt_zero _), rfl⟩
  case round =>
    obtain ⟨k, hk, rfl, hall, rfl⟩ := hrel
    have HA := Lib.hid hall
    clear hall
    by_cases hlt : k < keys.length
    · obtain ⟨b, off, rfl, p0⟩ := (HK.out.mod0 M1.out) k hlt
      by_cases hok : KeyOk keys[k]
      · obtain ⟨t, ht⟩ : ∃ t, keys[k] = t := ⟨_, rfl⟩
        rw [ht] at p0 hok
        have HT := Lib.hid ht
        clear ht
        have t1 : decide ((t.size : Int) < 1) = false := decide_eq_false (by have := hok.1; omega)
        have t2 : decide ((32 : Int) < (t.size : Int)) = false := decide_eq_false (by have := hok.2; omega)
        go_wp2_with fail
        go_roundw
        case rel =>
          refine ⟨k + 1, by omega, by go_num, fun j hj hjk => ?_, by first | rfl | trivial⟩
          by_cases he : j = k
          · subst he; rw [HT.out]; exact hok
          · exact HA.out j hj (by omega)
        case measure => simp [intOf]; omega
      · have hno : ¬ May ⟨client, seq, kind, keys, old, fresh, n⟩ := fun h => hok (h.2.1 _ (List.getElem_mem hlt))
        have hmb : mb = false := by rw [← HV.out]; exact decide_eq_false hno
        subst hmb
        obtain ⟨t, ht⟩ : ∃ t, keys[k] = t := ⟨_, rfl⟩
        rw [ht] at p0 hok
        clear ht
        by_cases h1 : t.size < 1
        · have t1 : decide ((t.size : Int) < 1) = true := decide_eq_true (by omega)
          go_wp2_with fail
          go_ret
          exact ⟨rfl, M1.out⟩
        · have t1 : decide ((t.size : Int) < 1) = false := decide_eq_false (by omega)
          have t2 : decide ((32 : Int) < (t.size : Int)) = true := decide_eq_true (Decidable.byContradiction fun h => hok ⟨by omega, by omega⟩)
          go_wp2_with fail
          go_ret
          exact ⟨rfl, M1.out⟩
    · have hke : k = keys.length := by omega
      subst hke
      obtain ⟨oe, EO⟩ : ∃ b, old.toList.isEmpty = b := ⟨_, rfl⟩
      obtain ⟨fe, EF⟩ : ∃ b, fresh.toList.isEmpty = b := ⟨_, rfl⟩
      obtain ⟨b5, E5⟩ : ∃ b, ((kind : Int) == 5) = b := ⟨_, rfl⟩
      obtain ⟨b4, E4⟩ : ∃ b, ((kind : Int) == 4) = b := ⟨_, rfl⟩
      obtain ⟨b1, E1⟩ : ∃ b, ((kind : Int) == 1) = b := ⟨_, rfl⟩
      have HM : Hid (mb = true ↔ (oe = true ∨ b5 = true) ∧ (fe = true ∨ b1 = true ∨ b5 = true) ∧ 0 < client ∧ lo ≤ keys.length ∧ keys.length ≤ hi ∧ (old.size : Int) ≤ 64 ∧ (fresh.size : Int) ≤ 64 ∧ (n = 0 ∨ b4 = true)) := Lib.hid (by
        have e1 : b1 = true ↔ kind = 1 := by rw [← E1]; simp; omega
        have e5 : b5 = true ↔ kind = 5 := by rw [← E5]; simp; omega
        have e4 : b4 = true ↔ kind = 4 := by rw [← E4]; simp; omega
        have h3 : oe = true ↔ old.size = 0 := by rw [← EO, isEmpty_iff]
        have h4 : fe = true ↔ fresh.size = 0 := by rw [← EF, isEmpty_iff]
        rw [e1, e5, e4, h3, h4, ← HV.out, decide_eq_true_iff]
        constructor
        · intro h
          have a1 : 0 < client := h.2.2.1
          have a2 : least kind ≤ keys.length := h.2.2.2.1
          have a3 : keys.length ≤ most kind := h.2.2.2.2.1
          have a4 : old.size ≤ 64 := h.2.2.2.2.2.1
          have a5 : fresh.size ≤ 64 := h.2.2.2.2.2.2.1
          rw [HLO.out] at a2
          rw [HHI.out] at a3
          exact ⟨h.2.2.2.2.2.2.2.1, h.2.2.2.2.2.2.2.2.1, a1, a2, a3, by omega, by omega, h.2.2.2.2.2.2.2.2.2⟩
        · rintro ⟨a6, a7, a1, a2, a3, a4, a5, a8⟩
          refine ⟨hk8, fun k hk => ?_, a1, by show least kind ≤ keys.length; rw [HLO.out]; omega, by show keys.length ≤ most kind; rw [HHI.out]; omega, by show old.size ≤ 64; omega, by show fresh.size ≤ 64; omega, a6, a7, a8⟩
          obtain ⟨j, hj, rfl⟩ := List.getElem_of_mem hk
          exact HA.out j hj hj)
      go_wp2_with fail
      all_goals go_ret
      all_goals
        refine ⟨congrArg (fun b => Ending.returned (.bool b)) (Bool.eq_iff_iff.2 ?_), M1.out⟩
        rw [HM.out]
        clear HM HV HK HLO HHI M1 HA q0 q2 q3 q4 q5 q6 EO EF E5 E4 E1 hw1 hw2 hw3 hw4 hw6 hw7 hw8 hw9 hk hlt hk8 hlo hhi
        first | (simp_all; done) | (simp_all; omega) | omega
end Go.Proofs.YtigamomoegpefaaDoor
/- The walks of a batch's bytes: whether one of the commands may not be. -/
namespace Go.Proofs.YtigamomoegpefaaDoor
open Go Go.RowKit Go.Lib

theorem SeesT.lt {w : World} {ao : Option Addr} {l : List ByteArray} (h : SeesT w ao l) (h0 : l ≠ []) : ∀ k, k ∈ blk ao → k < w.heap.size := by
  intro k hk
  obtain ⟨b, off, h1, h2⟩ := h 0 (List.length_pos_iff.2 h0)
  subst h1
  simp [blk] at hk
  subst hk
  exact World.block_lt_of_cell? w _ h2

/-- What the search for a command that may not be tells. -/
def IndexR (w : World) (l : List Cm) (e : Ending) (w' : World) : Prop := ∃ r : Int, e = .returned (.int .i64 r) ∧ (0 ≤ r ↔ ∃ c ∈ l, ¬ May c.1) ∧ Mod [] w w'
/-- A batch's bytes. -/
def batchB (l : List Cm) : List UInt8 := enc7 l.length ++ l.flatMap (fun c => oneB c.1)
def BatchOk (l : List Cm) : Prop := l.length ≤ 8 ∧ ∀ c ∈ l, May c.1
instance (l : List Cm) : Decidable (BatchOk l) := inferInstanceAs (Decidable (_ ∧ _))
theorem oneB_len (c : Cd) (h : Small c) : (oneB c).length ≤ 60000 := by
  have l1 := (enc7_length c.client).2
  have l2 := (enc7_length c.seq).2
  have l3 := (enc7_length c.kind).2
  have l4 := (enc7_length c.keys.length).2
  have l5 := txB_len c.old
  have l6 := txB_len c.fresh
  have l7 := (enc7_length (zig c.n)).2
  have hk : ∀ k, k ≤ c.keys.length → (keysB (c.keys.take k)).length ≤ 511 * k := by
    intro k
    induction k with
    | zero => intro _; simp [keysB]
    | succ k ih =>
      intro hk
      rw [keysB_snoc c.keys k (by omega), List.length_append]
      have a := ih (by omega)
      have b := txB_len (c.keys[k]'(by omega))
      have d := h.key _ (List.getElem_mem (l := c.keys) (n := k) (by omega))
      omega
  have l8 := hk c.keys.length (Nat.le_refl _)
  rw [List.take_length] at l8
  have e1 := h.keys
  have e2 := h.old
  have e3 := h.fresh
  unfold oneB
  simp only [List.length_append]
  omega
theorem ones_snoc (l : List Cm) (k : Nat) (h : k < l.length) : (l.take (k + 1)).flatMap (fun c => oneB c.1) = (l.take k).flatMap (fun c => oneB c.1) ++ oneB l[k].1 := by
  rw [take_snoc l k h, List.flatMap_append]; simp
/-- What a batch's bytes are, and the error. -/
def batchR (l : List Cm) : List UInt8 × Int := if BatchOk l then (batchB l, 0) else ([], 1)
def BatchW (w : World) (l : List Cm) (e : Ending) (w' : World) : Prop :=
  ∃ a k c, e = .returned (.tuple #[.slice a k c, .int .i64 (batchR l).2]) ∧ (batchR l).1.length = k ∧ OwnB w' a c (batchR l).1 ∧ Mod [] w w' ∧ SameOrNew w w' none a
theorem BatchW.bad {w w' : World} {l : List Cm} (h : ¬ BatchOk l) (hm : Mod [] w w') : BatchW w l (.returned (.tuple #[.slice none 0 0, .int .i64 1])) w' := by
  refine ⟨none, 0, 0, ?_, ?_, ?_, hm, .inl rfl⟩ <;> rw [show batchR l = ([], 1) from if_neg h]
  · rfl
  · exact OwnB.nil _

end Go.Proofs.YtigamomoegpefaaDoor
/- The walk of the reference's bytes of a command. -/
namespace Go.Proofs.YtigamomoegpefaaDoor
open Go Go.RowKit Go.Lib

theorem len_app {xs ys : List UInt8} {n m : Nat} (h1 : xs.length = n) (h2 : ys.length = m) : (xs ++ ys).length = n + m := by rw [List.length_append, h1, h2]

end Go.Proofs.YtigamomoegpefaaDoor
/- The walks of the reference's batch, and of the comparison of two rows. -/
namespace Go.Proofs.YtigamomoegpefaaDoor
open Go Go.RowKit Go.Lib

end Go.Proofs.YtigamomoegpefaaDoor
/- Rows of the call's own whose elements have one cell each, by what they show. Over any program. -/
namespace Go.Proofs.YtigamomoegpefaaDoor
open Go Go.RowKit

/-- A row of elements of one cell each; f says what a cell holds. -/
def OwnM {α : Type} (f : α → Value) (w : World) (e : TypeId) (ao : Option Addr) (cap : Nat) (l : List α) : Prop := Own w e 1 ao l.length cap (l.map f)
section
variable {α : Type} {f : α → Value} {w w' : World} {e : TypeId} {ao : Option Addr} {cap : Nat} {l : List α}
theorem OwnM.nil (f : α → Value) (w : World) (e : TypeId) : OwnM f w e none 0 [] := Own.nil0 w e 1
theorem OwnM.mod {S : List Nat} (h : OwnM f w e ao cap l) (hm : Mod S w w') (hn : ∀ k, k ∈ blk ao → k ∉ S) : OwnM f w' e ao cap l := Own.mod h hm hn
theorem OwnM.mod0 (h : OwnM f w e ao cap l) (hm : Mod [] w w') : OwnM f w' e ao cap l := Own.mod0 h hm
theorem OwnM.lt (h : OwnM f w e ao cap l) : ∀ k, k ∈ blk ao → k < w.heap.size := Own.lt h
theorem OwnM.le (h : OwnM f w e ao cap l) : l.length ≤ cap := Own.le h
theorem OwnM.at' (h : OwnM f w e ao cap l) {j : Nat} (hj : j < l.length) : ∃ g, ao = some ⟨g, 0, none⟩ ∧ w.cell? ⟨g, j, none⟩ = some (f l[j]) ∧ w.frozen? ⟨g, j, none⟩ = false :=
  Own.cell h (j := j) (u := f l[j]) (by rw [List.getElem?_map, List.getElem?_eq_getElem hj]; rfl)
theorem OwnM.set {g j : Nat} (h : OwnM f w e (some ⟨g, 0, none⟩) cap l) (x : α) : OwnM f (w.setCell ⟨g, j, none⟩ (f x)) e (some ⟨g, 0, none⟩) cap (l.set j x) := by
  have := Own.set (j := j) h (f x)
  unfold OwnM
  rw [List.length_set, List.map_set]
  exact this
theorem OwnM.shows (h : OwnM f w e ao cap l) : Shows w ao (l.map f) := Own.shows h
theorem OwnM.tail {x : α} (h : OwnM f w e ao cap (x :: l)) : ∃ g, ao = some ⟨g, 0, none⟩ ∧ (l ≠ [] → 1 < cap) ∧ Shows w (some ⟨g, 1, none⟩) (l.map f) := by
  obtain ⟨g, rfl, _⟩ := h.at' (j := 0) (by simp)
  refine ⟨g, rfl, fun hl => ?_, ?_⟩
  · have := h.le
    have := List.length_pos_iff.2 hl
    simp at *
    omega
  · intro j u hj
    obtain ⟨ad, e1, e2⟩ := h.shows (j + 1) u (by simpa using hj)
    cases e1
    refine ⟨_, rfl, ?_⟩
    rw [Addr.add_lit] at e2 ⊢
    rw [show 1 + j = 0 + (j + 1) by omega]
    exact e2
theorem shows_one {g : Nat} {t : TypeId} {z : Nat × Nat} {x : α} (h : w.heap[g]? = some (.cells #[f x] t z)) : Shows w (some ⟨g, 0, none⟩) ([x].map f) := by
  intro j u hj
  refine ⟨_, rfl, ?_⟩
  rw [Addr.add_lit, cell_of_block h, Nat.zero_add, ← hj]
  simp
theorem Shows.nil (w : World) (ao : Option Addr) : Shows w ao [] := fun j u hj => by simp at hj
theorem OwnM.one {g : Nat} {x : α} (h : w.heap[g]? = some (.cells #[f x] e (0, 0))) : OwnM f w e (some ⟨g, 0, none⟩) 1 [x] :=
  Own.new (sz := 1) (n := 1) h (.inl rfl) (by simp) (by unfold maxLen; omega)
/-- append to such a row. -/
theorem wpl_appM {P : Program} {ops : Array Oper} {rest : List Oper} {a : Act} {Q : Exit → Act → World → Prop} {dst : Option Tmp} {ty : TypeId} {pos : String} {after : Array Edge} (s x : Operand) (t : TypeId)
    (z : Value) (bytes : Nat) (ht : P.underlying t = some (.slice e)) (hi : (P.info? e).map (fun i => (i.zero, i.size, i.bytes)) = some (some z, 1, bytes)) (hzs : z.cells.size = 1) (h1 : ∀ x, (f x).oneCell' = true)
    (n : Nat) (xs : List α) (hs : a.eval s = .slice ao n cap) (hn : xs.length = n) (hown : OwnM f w e ao cap xs)
    (so : Option Addr) (m c : Nat) (ys : List α) (hx : a.eval x = .slice so m c) (hm : ys.length = m) (hsh : Shows w so (ys.map f)) (hb : (n + m) * bytes ≤ 140737488355328) (hb2 : n + m ≤ 140737488355328)
    (h : ∀ ao' cap' w', OwnM f w' e ao' cap' (xs ++ ys) → Mod (blk ao) w w' → SameOrNew w w' ao ao' → wpList P ops Q rest (a.put dst (.slice ao' (n + m) cap')) w') :
    wpList P ops Q (⟨dst, .call { callee := .builtin .append, args := #[s, x], argTypes := #[t, t] }, ty, pos, after, none⟩ :: rest) a w := by
  obtain ⟨i0, hi, hz0, hz1, hz2⟩ := info_parts hi
  subst hn hm
  refine wpl_append w rfl s x t rfl e i0 z 1 bytes ht hi hz0 hz1 hz2 hzs (by decide) ao _ cap _ hs hown so _ c (ys.map f) hx (by simp) hsh ?_ (by unfold maxLen; omega) hb ?_
  · intro u hu
    obtain ⟨x, _, rfl⟩ := List.mem_map.1 hu
    exact h1 x
  · intro ao' cap' w' h1 h2 h3
    refine h ao' cap' w' ?_ h2 h3
    unfold OwnM
    rw [List.length_append, List.map_append]
    exact h1
end
/-- Two rows lie apart. -/
def Dis (x y : Option Addr) : Prop := ∀ j, j ∈ blk x → j ∉ blk y
theorem Dis.symm {x y : Option Addr} (h : Dis x y) : Dis y x := fun j hj hk => h j hk hj
theorem Dis.new {x x' y : Option Addr} {w w' : World} (h : Dis x y) (s : SameOrNew w w' x x') (hl : ∀ j, j ∈ blk y → j < w.heap.size) : Dis x' y := fun j hj hk => by
  rcases s.blk j hj with h1 | h1
  · exact h j h1 hk
  · have := hl j hk; omega
theorem Dis.fresh {x y : Option Addr} {B : Nat} (h : ∀ j, j ∈ blk x → B ≤ j) (hl : ∀ j, j ∈ blk y → j < B) : Dis x y := fun j hj hk => by
  have := h j hj; have := hl j hk; omega
theorem off_new {g : Nat} {x x' : Option Addr} {w w' : World} (h : g ∉ blk x) (s : SameOrNew w w' x x') (hl : g < w.heap.size) : g ∉ blk x' := fun hj => by
  rcases s.blk g hj with h1 | h1
  · exact h h1
  · omega
theorem Dis.sing {g : Nat} {y : Option Addr} (h : Dis (some ⟨g, 0, none⟩) y) : g ∉ blk y := h g (by simp [blk])
end Go.Proofs.YtigamomoegpefaaDoor
/- The walks of the varint package's reader: what it holds, what it reads. -/
namespace Go.Proofs.YtigamomoegpefaaDoor
open Go Go.RowKit

/-- A reader at block g: its error, the bytes that are left (in a block of bs), its limit. -/
def Rd (w : World) (g : Nat) (bs : List Nat) (e : Int) (l : List UInt8) (lim : Int) : Prop :=
  g ∉ bs ∧ ∃ ao cap, w.heap[g]? = some (.cells #[.int .i64 e, .slice ao l.length cap, .int .i64 lim] 114 (0, 0)) ∧
    l.length ≤ cap ∧ cap ≤ 9223372036854775807 ∧ Sees w ao l ∧ (l ≠ [] → ∀ k, k ∈ blk ao → k ∈ bs)

/-- Bytes that are seen stay seen where the blocks that are turned are none of theirs. -/
theorem Sees.mod' {S : List Nat} {w w' : World} {ao : Option Addr} {l : List UInt8} (h : Sees w ao l) (hm : Mod S w w') (hn : l ≠ [] → ∀ k, k ∈ blk ao → k ∉ S) : Sees w' ao l := by
  cases l with
  | nil => exact Sees.nil _ _
  | cons c r => exact h.mod hm (fun b off hb => hn (by simp) b (by subst hb; simp [blk]))
theorem Sees.lt {w : World} {ao : Option Addr} {l : List UInt8} (h : Sees w ao l) (h0 : l ≠ []) : ∀ k, k ∈ blk ao → k < w.heap.size := by
  intro k hk
  obtain ⟨b, off, rfl, h2⟩ := h 0 (List.length_pos_iff.2 h0)
  simp only [blk, List.mem_singleton] at hk
  subst hk
  exact World.block_lt_of_cell? w _ h2
/-- The block of bytes that are seen. -/
def blkOf (ao : Option Addr) (l : List UInt8) : List Nat := if l = [] then [] else blk ao
theorem mem_blkOf {ao : Option Addr} {l : List UInt8} {k : Nat} (h : k ∈ blkOf ao l) : l ≠ [] ∧ k ∈ blk ao := by
  unfold blkOf at h
  split at h
  · simp at h
  · rename_i h0; exact ⟨h0, h⟩
theorem blkOf_mem {ao : Option Addr} {l : List UInt8} (h : l ≠ []) : ∀ k, k ∈ blk ao → k ∈ blkOf ao l := by
  intro k hk; unfold blkOf; rw [if_neg h]; exact hk
theorem Sees.ltOf {w : World} {ao : Option Addr} {l : List UInt8} (h : Sees w ao l) : ∀ k, k ∈ blkOf ao l → k < w.heap.size := fun k hk => h.lt (mem_blkOf hk).1 k (mem_blkOf hk).2
theorem Rd.mod {S : List Nat} {w w' : World} {g : Nat} {bs : List Nat} {e : Int} {l : List UInt8} {lim : Int} (h : Rd w g bs e l lim) (hm : Mod S w w') (hg : g ∉ S) (hb : ∀ k, k ∈ bs → k ∉ S) : Rd w' g bs e l lim := by
  obtain ⟨h1, ao, cap, h2, h3, h4, h5, h6⟩ := h
  exact ⟨h1, ao, cap, hm.get h2 hg, h3, h4, h5.mod' hm (fun h0 k hk => hb k (h6 h0 k hk)), h6⟩
theorem Rd.mod0 {w w' : World} {g : Nat} {bs : List Nat} {e : Int} {l : List UInt8} {lim : Int} (h : Rd w g bs e l lim) (hm : Mod [] w w') : Rd w' g bs e l lim := h.mod hm (by simp) (by simp)
theorem Rd.lt {w : World} {g : Nat} {bs : List Nat} {e : Int} {l : List UInt8} {lim : Int} (h : Rd w g bs e l lim) : g < w.heap.size := by
  obtain ⟨h1, ao, cap, h2, _⟩ := h
  exact lt_of_block h2
/-- The error is set. -/
theorem Rd.err {w : World} {g : Nat} {bs : List Nat} {e : Int} {l : List UInt8} {lim : Int} (h : Rd w g bs e l lim) (e' : Int) : Rd (w.setCell ⟨g, 0, none⟩ (.int .i64 e')) g bs e' l lim := by
  obtain ⟨h1, ao, cap, h2, h3, h4, h5, h6⟩ := h
  refine ⟨h1, ao, cap, ?_, h3, h4, h5.mod' (Mod.setCell (S := [g]) w ⟨g, 0, none⟩ _ (by simp)) (fun h0 k hk hg => h1 (by simp only [List.mem_singleton] at hg; subst hg; exact h6 h0 _ hk)), h6⟩
  rw [heap_setCell_same h2]; rfl
/-- Bytes are passed. -/
theorem Rd.pass {w : World} {g : Nat} {bs : List Nat} {e : Int} {l l' : List UInt8} {lim : Int} (h : Rd w g bs e l lim) {ao : Option Addr} {cap n : Nat} (hl : l'.length = n) (hc : n ≤ cap) (hm : cap ≤ 9223372036854775807) (hs : Sees w ao l') (hb : l' ≠ [] → ∀ k, k ∈ blk ao → k ∈ bs) :
    Rd (w.setCell ⟨g, 1, none⟩ (.slice ao n cap)) g bs e l' lim := by
  subst hl
  obtain ⟨h1, ao0, cap0, h2, h3, h4, h5, h6⟩ := h
  refine ⟨h1, ao, cap, ?_, hc, hm, hs.mod' (Mod.setCell (S := [g]) w ⟨g, 1, none⟩ _ (by simp)) (fun h0 k hk hg => h1 (by simp only [List.mem_singleton] at hg; subst hg; exact hb h0 _ hk)), hb⟩
  rw [heap_setCell_same h2]; rfl
theorem Sees.drop {w : World} {b off : Nat} {l : List UInt8} (h : Sees w (some ⟨b, off, none⟩) l) (k : Nat) : Sees w (some ⟨b, off + k, none⟩) (l.drop k) := by
  intro j hj
  have hj' : k + j < l.length := by simp only [List.length_drop] at hj; omega
  obtain ⟨b', off', h1, h2⟩ := h (k + j) hj'
  cases h1
  exact ⟨b, off + k, rfl, by rw [List.getElem_drop, Nat.add_assoc]; exact h2⟩
theorem Sees.drop1 {w : World} {b off : Nat} {c : UInt8} {l : List UInt8} (h : Sees w (some ⟨b, off, none⟩) (c :: l)) : Sees w (some ⟨b, off + 1, none⟩) l := h.drop 1
/-- What a walk needs of it. -/
theorem Rd.open {w : World} {g : Nat} {bs : List Nat} {e : Int} {l : List UInt8} {lim : Int} (h : Rd w g bs e l lim) :
    ∃ ao cap, w.cell? ⟨g, 0, none⟩ = some (.int .i64 e) ∧ w.cell? ⟨g, 1, none⟩ = some (.slice ao l.length cap) ∧ w.cell? ⟨g, 2, none⟩ = some (.int .i64 lim) ∧
      (∀ i, w.frozen? ⟨g, i, none⟩ = false) ∧ l.length ≤ cap ∧ cap ≤ 9223372036854775807 ∧ Sees w ao l ∧ (l ≠ [] → ∀ k, k ∈ blk ao → k ∈ bs) := by
  obtain ⟨h1, ao, cap, h2, h3, h4, h5, h6⟩ := h
  exact ⟨ao, cap, by rw [cell_of_block h2]; rfl, by rw [cell_of_block h2]; rfl, by rw [cell_of_block h2]; rfl, fun i => free_of_block h2, h3, h4, h5, h6⟩

set_option maxHeartbeats 400000 in
theorem fail_any (g : Nat) (e c : Int) (w : World) (h0 : w.cell? ⟨g, 0, none⟩ = some (.int .i64 e)) (hf : w.frozen? ⟨g, 0, none⟩ = false) :
    Calls Tryd.prog 59 #[.pointer (some ⟨g, 0, none⟩), .int .i64 c] w fun r w' => (∃ v, r = .returned v) ∧ w' = if e = 0 then w.setCell ⟨g, 0, none⟩ (.int .i64 c) else w := by
  by_cases he : e = 0
  · subst he
    go_enter Tryd.func59, Tryd.ntmps59
    go_wp2
    go_end0
    exact ⟨⟨_, rfl⟩, by simp⟩
  · go_enter Tryd.func59, Tryd.ntmps59
    go_wp2
    go_end0
    exact ⟨⟨_, rfl⟩, by simp⟩

set_option maxHeartbeats 400000 in
theorem err_any (g : Nat) (bs : List Nat) (e : Int) (l : List UInt8) (lim : Int) (w : World) (h : Rd w g bs e l lim) :
    Calls Tryd.prog 58 #[.pointer (some ⟨g, 0, none⟩)] w fun r w' => r = .returned (.int .i64 e) ∧ w' = w := by
  obtain ⟨ao, cap, c0, c1, c2, fr, h3, h4, h5, h6⟩ := h.open
  clear h5 h6
  go_enter Tryd.func58, Tryd.ntmps58
  go_wp2
  go_ret
  exact ⟨rfl, rfl⟩
theorem errNil_any (w : World) :
    Calls Tryd.prog 58 #[.pointer none] w fun r w' => r = .returned (.int .i64 2) ∧ w' = w := by
  go_enter Tryd.func58, Tryd.ntmps58
  go_wp2
  go_ret
  exact ⟨rfl, rfl⟩

/-- What a byte is read as: the byte, the error behind it, what is left. -/
def byteR (e : Int) : List UInt8 → Int × Int × List UInt8
  | [] => (0, if e = 0 then 10 else e, [])
  | c :: r => if e = 0 then (((c.toNat : Nat) : Int), 0, r) else (0, e, c :: r)

set_option maxHeartbeats 400000 in
theorem byte_any (g : Nat) (bs : List Nat) (e : Int) (l : List UInt8) (lim : Int) (w : World) (h : Rd w g bs e l lim) :
    Calls Tryd.prog 60 #[.pointer (some ⟨g, 0, none⟩)] w fun r w' => r = .returned (.int .u8 (byteR e l).1) ∧ Rd w' g bs (byteR e l).2.1 (byteR e l).2.2 lim ∧ Mod [g] w w' := by
  obtain ⟨ao, cap, c0, c1, c2, fr, h3, h4, h5, h6⟩ := h.open
  have fr0 := fr 0
  have fr1 := fr 1
  have H := Lib.hid h
  have HB := Lib.hid h6
  have HS := Lib.hid h5
  clear h fr h6 h5
  by_cases he : e = 0
  · subst he
    cases l with
    | nil =>
      go_enter Tryd.func60, Tryd.ntmps60
      go_wp2_with (go_at_call 59; refine (fail_any g 0 10 _ c0 fr0).mono ?_; rintro e w1 ⟨⟨v, rfl⟩, rfl⟩)
      go_ret
      exact ⟨rfl, H.out.err 10, Mod.setCell _ _ _ (by simp)⟩
    | cons c r =>
      obtain ⟨b, off, ha, hc⟩ := HS.out 0 (by simp)
      subst ha
      simp only [Nat.add_zero, List.getElem_cons_zero] at hc
      have hlen : (c :: r).length = r.length + 1 := rfl
      by_cases hcap : cap = 1
      · subst hcap
        have hr : r = [] := List.eq_nil_of_length_eq_zero (by omega)
        subst hr
        go_enter Tryd.func60, Tryd.ntmps60
        go_wp2
        go_ret
        exact ⟨rfl, H.out.pass rfl (by simp) (by simp) (Sees.nil _ _) (fun h => absurd rfl h), Mod.setCell _ _ _ (by simp)⟩
      · go_enter Tryd.func60, Tryd.ntmps60
        go_wp2
        go_ret
        refine ⟨rfl, H.out.pass rfl (by omega) (by omega) (HS.out.drop1) (by intro _ k hk; exact HB.out (by simp) k (by simpa [blk] using hk)), Mod.setCell _ _ _ (by simp)⟩
  · go_enter Tryd.func60, Tryd.ntmps60
    go_wp2
    go_ret
    have : byteR e l = (0, e, l) := by cases l <;> simp [byteR, he]
    rw [this]
    exact ⟨rfl, H.out, Mod.refl _ _⟩
end Go.Proofs.YtigamomoegpefaaDoor
/- The walks of the varint package's reader: numbers and texts. -/
namespace Go.Proofs.YtigamomoegpefaaDoor
open Go Go.RowKit

/-- What bytes are read as a number: k rounds are left, the i-th byte comes, n is what was read: the number, the error, what is left. -/
def uintR : Nat → Nat → Nat → List UInt8 → Nat × Int × List UInt8
  | 0, _, _, l => (0, 0, l)
  | _ + 1, _, _, [] => (0, 10, [])
  | k + 1, i, n, c :: r =>
    if (i = 9 ∧ 1 < c.toNat) ∨ (0 < i ∧ c.toNat = 0) then (0, 11, r)
    else if c.toNat < 128 then (n + c.toNat % 128 * 2 ^ (7 * i), 0, r)
    else uintR k (i + 1) (n + c.toNat % 128 * 2 ^ (7 * i)) r
def uintE (k i n : Nat) (e : Int) (l : List UInt8) : Nat × Int × List UInt8 := if e = 0 then uintR k i n l else (0, e, l)

theorem and127_all : ∀ n, n < 256 → bits .and .u8 ((n : Nat) : Int) 127 = ((n % 128 : Nat) : Int) := by decide +kernel
theorem or_walk (acc k : Nat) (c : UInt8) (ha : acc < 2 ^ (7 * k)) (hk : k ≤ 9) (h9 : k = 9 → c.toNat ≤ 1) :
    bits BinOp.or IntKind.u64 (acc : Int) (IntKind.u64.wrap (IntKind.u64.wrap (bits BinOp.and IntKind.u8 ((c.toNat : Nat) : Int) 127) * 2 ^ (7 * k))) = ((acc + c.toNat % 128 * 2 ^ (7 * k) : Nat) : Int) := by
  have hx : c.toNat % 128 < 128 := Nat.mod_lt _ (by omega)
  rw [and127_all _ c.toNat_lt, IntWalk.u64_in ((c.toNat % 128 : Nat) : Int) (by omega)]
  have hp : 2 ^ (7 * k) ≤ 2 ^ 63 := Nat.pow_le_pow_right (by omega) (by omega)
  have hb : c.toNat % 128 * 2 ^ (7 * k) < 18446744073709551616 := by
    by_cases h : k = 9
    · have h1 : c.toNat % 128 ≤ 1 := by have := h9 h; omega
      have := Nat.mul_le_mul h1 hp
      omega
    · have hp8 : 2 ^ (7 * k) ≤ 2 ^ 56 := Nat.pow_le_pow_right (by omega) (by omega)
      have := Nat.mul_le_mul (Nat.le_of_lt_succ hx) hp8
      omega
  have e : (((c.toNat % 128 : Nat) : Int) * 2 ^ (7 * k)) = ((c.toNat % 128 * 2 ^ (7 * k) : Nat) : Int) := by
    rw [Int.natCast_mul, Int.natCast_pow]; rfl
  rw [e, IntWalk.u64_in _ (by omega), bits_or_u64_nat _ _ (by omega) hb]
  have := Nat.shiftLeft_add_eq_or_of_lt ha (c.toNat % 128)
  rw [Nat.shiftLeft_eq] at this
  rw [Nat.or_comm, ← this, Nat.add_comm]
theorem acc_next (acc k : Nat) (c : UInt8) (ha : acc < 2 ^ (7 * k)) : acc + c.toNat % 128 * 2 ^ (7 * k) < 2 ^ (7 * (k + 1)) := by
  have hx : c.toNat % 128 ≤ 127 := by omega
  have h1 := Nat.mul_le_mul_right (2 ^ (7 * k)) hx
  have h2 : 2 ^ (7 * (k + 1)) = 128 * 2 ^ (7 * k) := by rw [Nat.mul_add, Nat.pow_add, Nat.mul_comm]
  omega
theorem uintE_end (k i n : Nat) : uintE (k + 1) i n 0 [] = (0, 10, []) := rfl
theorem uintE_bad (k i n : Nat) (c : UInt8) (r : List UInt8) (h : (i = 9 ∧ 1 < c.toNat) ∨ (0 < i ∧ c.toNat = 0)) : uintE (k + 1) i n 0 (c :: r) = (0, 11, r) := by simp [uintE, uintR, h]
theorem uintE_last (k i n : Nat) (c : UInt8) (r : List UInt8) (h1 : ¬ (i = 9 ∧ 1 < c.toNat)) (h2 : ¬ (0 < i ∧ c.toNat = 0)) (h3 : c.toNat < 128) : uintE (k + 1) i n 0 (c :: r) = (n + c.toNat % 128 * 2 ^ (7 * i), 0, r) := by
  have h : ¬ ((i = 9 ∧ 1 < c.toNat) ∨ (0 < i ∧ c.toNat = 0)) := fun h => h.elim h1 h2
  simp only [uintE, uintR, if_true, if_neg h, if_pos h3]
theorem uintE_more (k i n : Nat) (c : UInt8) (r : List UInt8) (h1 : ¬ (i = 9 ∧ 1 < c.toNat)) (h2 : ¬ (0 < i ∧ c.toNat = 0)) (h3 : ¬ c.toNat < 128) : uintE (k + 1) i n 0 (c :: r) = uintE k (i + 1) (n + c.toNat % 128 * 2 ^ (7 * i)) 0 r := by
  have h : ¬ ((i = 9 ∧ 1 < c.toNat) ∨ (0 < i ∧ c.toNat = 0)) := fun h => h.elim h1 h2
  simp only [uintE, uintR, if_true, if_neg h, if_neg h3]
theorem uintE_err (k i n : Nat) (e : Int) (l : List UInt8) (h : e ≠ 0) : uintE k i n e l = (0, e, l) := by simp [uintE, h]

set_option maxRecDepth 100000 in
set_option maxHeartbeats 1000000 in
theorem ruint_any (g : Nat) (bs : List Nat) (e : Int) (l : List UInt8) (lim : Int) (w : World) (h : Rd w g bs e l lim) :
    Calls Tryd.prog 57 #[.pointer (some ⟨g, 0, none⟩)] w fun r w' => r = .returned (.int .u64 ((uintE 10 0 0 e l).1 : Int)) ∧ Rd w' g bs (uintE 10 0 0 e l).2.1 (uintE 10 0 0 e l).2.2 lim ∧ Mod [g] w w' := by
  have H := Lib.hid h
  clear h
  go_enter Tryd.func57, Tryd.ntmps57
  go_wp2
  go_loopw [3, 4] (fun n i wr => ∃ (k acc : Nat) (l' : List UInt8), k ≤ 10 ∧ acc < 2 ^ (7 * k) ∧ n = .int .u64 (acc : Int) ∧ i = .int .i64 (k : Int) ∧ Rd wr g bs e l' lim ∧ Mod [g] w wr ∧ uintE 10 0 0 e l = uintE (10 - k) k acc e l') (fun _ i _ => 10 - (intOf i).toNat)
  case atStart => exact ⟨0, 0, l, by omega, by decide, rfl, rfl, H.out, Mod.refl _ _, rfl⟩
  case round =>
    obtain ⟨k, acc, l', hk, hacc, rfl, rfl, hr, hm, hu⟩ := hrel
    have HR := Lib.hid hr
    have HM := Lib.hid hm
    have HU := Lib.hid hu
    have HA := Lib.hid hacc
    clear hr hm hu hacc H
    by_cases hlt : k < 10
    · go_wp2_with fail
      refine (byte_any g bs e l' lim _ HR.out).mono ?_
      rintro e1 w1 ⟨rfl, hr1, hm1⟩
      have HR1 := Lib.hid hr1
      have HM1 := Lib.hid (HM.out.trans' hm1)
      clear hr1 hm1 HR HM
      go_wp2_with fail
      refine (err_any g bs _ _ lim _ HR1.out).mono ?_
      rintro e2 w2 ⟨rfl, rfl⟩
      by_cases he : e = 0
      · subst he
        have e10 : 10 - k = (9 - k) + 1 := by omega
        rw [e10] at HU
        cases l' with
        | nil =>
          simp only [byteR, if_true] at *
          have hu := HU.out
          rw [uintE_end] at hu
          have HV := Lib.hid hu
          clear hu
          go_wp2
          go_ret
          rw [HV.out]
          exact ⟨rfl, HR1.out, HM1.out⟩
        | cons c r =>
          simp only [byteR, if_true] at *
          have hc1 := toNat_lt c
          have hc0 : (0 : Int) ≤ ((c.toNat : Nat) : Int) := by omega
          obtain ⟨ao2, cap2, f0, _, _, fr, _⟩ := HR1.out.open
          have fr0 := fr 0
          clear fr
          by_cases hA : k = 9 ∧ 1 < c.toNat
          · have hu := HU.out
            rw [uintE_bad _ _ _ _ _ (.inl hA)] at hu
            have HV := Lib.hid hu
            obtain ⟨rfl, hc⟩ := hA
            have hc' : (1 : Int) < ((c.toNat : Nat) : Int) := by omega
            clear hu
            go_wp2_with (go_at_call 59; refine (fail_any g 0 11 _ f0 fr0).mono ?_; rintro e w1 ⟨⟨v, rfl⟩, rfl⟩)
            go_ret
            rw [HV.out]
            exact ⟨rfl, HR1.out.err 11, HM1.out.trans' (Mod.setCell _ _ _ (by simp))⟩
          by_cases hB : 0 < k ∧ c.toNat = 0
          · have hu := HU.out
            rw [uintE_bad _ _ _ _ _ (.inr hB)] at hu
            have HV := Lib.hid hu
            obtain ⟨hk0, hc⟩ := hB
            have hc' : ((c.toNat : Nat) : Int) = 0 := by omega
            rw [hc'] at *
            clear hu
            go_wp2_with (go_at_call 59; refine (fail_any g 0 11 _ f0 fr0).mono ?_; rintro e w1 ⟨⟨v, rfl⟩, rfl⟩)
            all_goals go_ret
            all_goals rw [HV.out]
            all_goals exact ⟨rfl, HR1.out.err 11, HM1.out.trans' (Mod.setCell _ _ _ (by simp))⟩
          have hE := or_walk acc k c HA.out (by omega) (by omega)
          have HE := Lib.hid hE
          have hz : 0 < k → ((c.toNat : Nat) : Int) ≠ 0 := by omega
          have hz2 : 0 < k → (((c.toNat : Nat) : Int) == 0) = false := by intro h; simpa using hz h
          have h9 : k = 9 → ¬ (1 < ((c.toNat : Nat) : Int)) := by omega
          clear hE
          by_cases hC : c.toNat < 128
          · have hC' : ((c.toNat : Nat) : Int) < 128 := by omega
            have hu := HU.out
            rw [uintE_last _ _ _ _ _ hA hB hC] at hu
            have HV := Lib.hid hu
            clear hu
            have HA' := Lib.hid hA
            have HB' := Lib.hid hB
            clear hA hB
            go_wp2
            all_goals go_ret
            all_goals rw [HE.out, HV.out]
            all_goals exact ⟨rfl, HR1.out, HM1.out⟩
          · have hu := HU.out
            rw [uintE_more _ _ _ _ _ hA hB hC] at hu
            have HU2 := Lib.hid hu
            have hC' : ¬ ((c.toNat : Nat) : Int) < 128 := by omega
            have hk8 : k < 9 := by omega
            clear hu
            have HA' := Lib.hid hA
            have HB' := Lib.hid hB
            clear hA hB
            go_wp2
            all_goals go_roundw
            all_goals first
              | exact ⟨k + 1, _, r, by omega, acc_next acc k c HA.out, by rw [HE.out], by go_num, HR1.out, HM1.out, by rw [HU2.out]; congr 1; omega⟩
              | (simp [intOf]; omega)
      · have hb : byteR e l' = (0, e, l') := by cases l' <;> simp [byteR, he]
        have hr1 := HR1.out
        rw [hb] at hr1
        have HR2 := Lib.hid hr1
        clear hr1 HR1
        simp only [hb]
        have hu := HU.out
        rw [uintE_err _ _ _ _ _ he, uintE_err _ _ _ _ _ he] at hu
        simp only [Prod.mk.injEq, true_and] at hu
        obtain rfl := hu
        clear HU
        go_wp2
        go_ret
        rw [uintE_err _ _ _ _ _ he]
        exact ⟨rfl, HR2.out, HM1.out⟩
    · have hk10 : k = 10 := by omega
      subst hk10
      have hu := HU.out
      have he0 : uintE (10 - 10) 10 acc e l' = (0, e, l') := by
        by_cases he : e = 0
        · subst he; rfl
        · exact uintE_err _ _ _ _ _ he
      rw [he0] at hu
      have HV := Lib.hid hu
      clear hu he0
      go_wp2
      go_ret
      rw [HV.out]
      exact ⟨rfl, HR.out, HM.out⟩
end Go.Proofs.YtigamomoegpefaaDoor
/- The walks of the varint package's reader: signed numbers, texts, the end; a new one. -/
namespace Go.Proofs.YtigamomoegpefaaDoor
open Go Go.RowKit

/-- A number from 0 on, as a signed one. -/
def zag (n : Nat) : Int := if n % 2 = 0 then ((n / 2 : Nat) : Int) else -((n / 2 : Nat) : Int) - 1

theorem uintR_lt (k : Nat) : ∀ (i n : Nat) (l : List UInt8), n < 2 ^ (7 * i) → i + k = 10 → (uintR k i n l).1 < 18446744073709551616 := by
  induction k with
  | zero => intro i n l _ _; simp [uintR]
  | succ k ih =>
    intro i n l hn hk
    cases l with
    | nil => simp [uintR]
    | cons c r =>
      unfold uintR
      split
      · simp
      · rename_i hbad
        have h9 : i = 9 → c.toNat ≤ 1 := fun h => by
          by_cases h1 : 1 < c.toNat
          · exact absurd (.inl ⟨h, h1⟩) hbad
          · omega
        split
        · show n + c.toNat % 128 * 2 ^ (7 * i) < _
          by_cases h : i = 9
          · subst h
            have h1 : c.toNat % 128 ≤ 1 := by have := h9 rfl; omega
            have h2 : 2 ^ (7 * 9) = 9223372036854775808 := by decide
            rw [h2] at *
            omega
          · have h1 := acc_next n i c hn
            have h2 : 2 ^ (7 * (i + 1)) ≤ 2 ^ 63 := Nat.pow_le_pow_right (by omega) (by omega)
            omega
        · by_cases h : i = 9
          · rename_i h128
            have := h9 h; omega
          · exact ih (i + 1) _ r (acc_next n i c hn) (by omega)
theorem uintE_lt (e : Int) (l : List UInt8) : (uintE 10 0 0 e l).1 < 18446744073709551616 := by
  unfold uintE
  split
  · exact uintR_lt 10 0 0 l (by decide) rfl
  · simp
theorem xor_i64 (n : Nat) (h : n < 9223372036854775808) (m : Int) (hm : m = 0 ∨ m = -1) : bits .xor .i64 (n : Int) m = if m = 0 then (n : Int) else -(n : Int) - 1 := by
  have e2 : BitVec.ofInt 64 (n : Int) = BitVec.ofNat 64 n := BitVec.ofInt_natCast 64 n
  show IntKind.i64.wrap ((BitVec.ofInt 64 (n : Int) ^^^ BitVec.ofInt 64 m).toNat : Int) = _
  rcases hm with rfl | rfl
  · have e1 : BitVec.ofInt 64 0 = 0#64 := by decide
    rw [e1, e2, BitVec.xor_zero, BitVec.toNat_ofNat, Nat.mod_eq_of_lt (by omega), if_pos rfl, IntKind.wrap_i64]
    omega
  · have e1 : BitVec.ofInt 64 (-1) = BitVec.allOnes 64 := by decide
    rw [e1, e2, BitVec.xor_allOnes, BitVec.toNat_not, BitVec.toNat_ofNat, Nat.mod_eq_of_lt (by omega), if_neg (by decide), IntKind.wrap_i64]
    omega
theorem zag_walk (n : Nat) (h : n < 18446744073709551616) :
    bits BinOp.xor IntKind.i64 (wrap64 ((n : Int) / 2)) (wrap64 (-wrap64 (bits BinOp.and IntKind.u64 (n : Int) 1))) = zag n := by
  have e1 : bits BinOp.and IntKind.u64 (n : Int) 1 = ((n % 2 : Nat) : Int) := by
    have := bits_and_u64_nat n 1 h (by omega)
    rw [Nat.and_one_is_mod] at this
    exact this
  have e2 : wrap64 ((n : Int) / 2) = ((n / 2 : Nat) : Int) := by
    unfold wrap64; omega
  rw [e1, e2]
  rcases Nat.mod_two_eq_zero_or_one n with h0 | h0
  · have w0 : wrap64 (-wrap64 ((0 : Nat) : Int)) = 0 := by unfold wrap64; omega
    rw [h0, w0, xor_i64 _ (by omega) _ (.inl rfl), if_pos rfl, zag, if_pos h0]
  · have w1 : wrap64 (-wrap64 ((1 : Nat) : Int)) = -1 := by unfold wrap64; omega
    rw [h0, w1, xor_i64 _ (by omega) _ (.inr rfl), if_neg (by omega), zag, if_neg (by omega)]
set_option maxHeartbeats 1000000 in
theorem rint_any (g : Nat) (bs : List Nat) (e : Int) (l : List UInt8) (lim : Int) (w : World) (h : Rd w g bs e l lim) :
    Calls Tryd.prog 55 #[.pointer (some ⟨g, 0, none⟩)] w fun r w' => r = .returned (.int .i64 (zag (uintE 10 0 0 e l).1)) ∧ Rd w' g bs (uintE 10 0 0 e l).2.1 (uintE 10 0 0 e l).2.2 lim ∧ Mod [g] w w' := by
  have H := Lib.hid h
  clear h
  go_enter Tryd.func55, Tryd.ntmps55
  go_wp2_with fail
  refine (ruint_any g bs e l lim _ H.out).mono ?_
  rintro e1 w1 ⟨rfl, hr1, hm1⟩
  have HR1 := Lib.hid hr1
  have HM1 := Lib.hid hm1
  clear hr1 hm1
  have HZ := Lib.hid (zag_walk _ (uintE_lt e l))
  go_wp2
  go_ret
  rw [HZ.out]
  exact ⟨rfl, HR1.out, HM1.out⟩

/-- The end. -/
def doneR (e : Int) (l : List UInt8) : Int := if e = 0 then (if l = [] then 0 else 11) else e
theorem blk_map (ao : Option Addr) (n : Nat) : blk (ao.map fun x => x.add n) = blk ao := by
  cases ao with
  | none => rfl
  | some a => simp only [Option.map_some, blk, Addr.add]; split <;> rfl
theorem Sees.dropMap {w : World} {ao : Option Addr} {l : List UInt8} (h : Sees w ao l) (n : Nat) : Sees w (ao.map fun x => x.add n) (l.drop n) := by
  intro j hj
  have hj' : n + j < l.length := by simp only [List.length_drop] at hj; omega
  obtain ⟨b, off, rfl, h2⟩ := h (n + j) hj'
  refine ⟨b, off + n, by simp [Addr.add_lit], ?_⟩
  rw [List.getElem_drop, Nat.add_assoc]; exact h2
/-- A text. -/
def textR (lim e : Int) (l : List UInt8) : List UInt8 × Int × List UInt8 :=
  if (uintE 10 0 0 e l).2.1 ≠ 0 then ([], (uintE 10 0 0 e l).2.1, (uintE 10 0 0 e l).2.2)
  else if max lim 0 < ((uintE 10 0 0 e l).1 : Int) then ([], 11, (uintE 10 0 0 e l).2.2)
  else if (uintE 10 0 0 e l).2.2.length < (uintE 10 0 0 e l).1 then ([], 10, (uintE 10 0 0 e l).2.2)
  else ((uintE 10 0 0 e l).2.2.take (uintE 10 0 0 e l).1, 0, (uintE 10 0 0 e l).2.2.drop (uintE 10 0 0 e l).1)
set_option maxRecDepth 100000 in
set_option maxHeartbeats 1000000 in
theorem rtext_any (g : Nat) (bs : List Nat) (e : Int) (l : List UInt8) (lim : Int) (w : World) (h : Rd w g bs e l lim) (hl1 : -9223372036854775808 ≤ lim) (hl2 : lim ≤ 9223372036854775807) :
    Calls Tryd.prog 54 #[.pointer (some ⟨g, 0, none⟩)] w fun r w' => r = .returned (strV (textR lim e l).1) ∧ Rd w' g bs (textR lim e l).2.1 (textR lim e l).2.2 lim ∧ Mod [g] w w' := by
  have H := Lib.hid h
  clear h
  have hu := uintE_lt e l
  have ht : textR lim e l = if (uintE 10 0 0 e l).2.1 ≠ 0 then ([], (uintE 10 0 0 e l).2.1, (uintE 10 0 0 e l).2.2)
    else if max lim 0 < ((uintE 10 0 0 e l).1 : Int) then ([], 11, (uintE 10 0 0 e l).2.2)
    else if (uintE 10 0 0 e l).2.2.length < (uintE 10 0 0 e l).1 then ([], 10, (uintE 10 0 0 e l).2.2)
    else ((uintE 10 0 0 e l).2.2.take (uintE 10 0 0 e l).1, 0, (uintE 10 0 0 e l).2.2.drop (uintE 10 0 0 e l).1) := rfl
  have HT := Lib.hid ht
  clear ht
  go_enter Tryd.func54, Tryd.ntmps54
  go_wp2_with fail
  refine (ruint_any g bs e l lim _ H.out).mono ?_
  rintro e1 w1 ⟨rfl, hr1, hm1⟩
  revert hr1 hu HT
  generalize uintE 10 0 0 e l = u
  obtain ⟨n, e2, l2⟩ := u
  intro hu HT hr1
  simp only at hr1 hu ⊢
  have HR1 := Lib.hid hr1
  have HM1 := Lib.hid hm1
  clear hr1 hm1 H
  obtain ⟨ao, cap, c0, c1, c2, fr, h3, h4, h5, h6⟩ := HR1.out.open
  have fr0 := fr 0
  have fr1 := fr 1
  have HS := Lib.hid h5
  have HB := Lib.hid h6
  clear fr h5 h6
  have ht := HT.out
  simp only at ht
  clear HT
  have hw : IntKind.u64.wrap (max lim 0) = max lim 0 := IntWalk.u64_in _ (by omega)
  have hw0 : lim < 0 → max lim 0 = 0 := by omega
  have hw1 : 0 ≤ lim → max lim 0 = lim := by omega
  by_cases he : e2 = 0
  · subst he
    by_cases hlim : max lim 0 < (n : Int)
    · simp only [hlim, ne_eq, not_true_eq_false, if_true, if_false] at ht
      have HT := Lib.hid ht
      clear ht
      rcases Int.lt_or_le lim 0 with hneg | hneg
      all_goals go_wp2_with (first | (go_at_call 58; refine (err_any g bs 0 l2 lim _ HR1.out).mono ?_; rintro e w1 ⟨rfl, rfl⟩) | (go_at_call 59; refine (fail_any g 0 11 _ c0 fr0).mono ?_; rintro e w1 ⟨⟨v, rfl⟩, rfl⟩; simp only [if_true]))
      all_goals go_ret
      all_goals rw [HT.out]
      all_goals exact ⟨rfl, HR1.out.err 11, HM1.out.trans' (Mod.setCell _ _ _ (by simp))⟩
    · by_cases hlen : l2.length < n
      · simp only [hlim, hlen, ne_eq, not_true_eq_false, if_true, if_false] at ht
        have HT := Lib.hid ht
        clear ht
        have hlen' : ((l2.length : Nat) : Int) < (n : Int) := by omega
        have hw3 : IntKind.u64.wrap ((l2.length : Nat) : Int) = ((l2.length : Nat) : Int) := IntWalk.u64_in _ (by omega)
        have hneg : 0 ≤ lim := by omega
        have hlm : ¬ lim < (n : Int) := by omega
        all_goals go_wp2_with (first | (go_at_call 58; refine (err_any g bs 0 l2 lim _ HR1.out).mono ?_; rintro e w1 ⟨rfl, rfl⟩) | (go_at_call 59; refine (fail_any g 0 10 _ c0 fr0).mono ?_; rintro e w1 ⟨⟨v, rfl⟩, rfl⟩; simp only [if_true]))
        all_goals go_ret
        all_goals rw [HT.out]
        all_goals exact ⟨rfl, HR1.out.err 10, HM1.out.trans' (Mod.setCell _ _ _ (by simp))⟩
      · simp only [hlim, hlen, ne_eq, not_true_eq_false, if_false] at ht
        have HT := Lib.hid ht
        clear ht
        have hlen' : ¬ ((l2.length : Nat) : Int) < (n : Int) := by omega
        have hw3 : IntKind.u64.wrap ((l2.length : Nat) : Int) = ((l2.length : Nat) : Int) := IntWalk.u64_in _ (by omega)
        have hnl : n ≤ l2.length := by omega
        have htl : (l2.take n).length = n := by simp; omega
        have hdl : (l2.drop n).length = l2.length - n := by simp
        have HST := Lib.hid (HS.out.take n)
        by_cases hn : n = cap
        · have hl2c : l2.length = n := by omega
          have hd0 : l2.drop n = [] := List.drop_eq_nil_of_le (by omega)
          have ht0 : l2.take n = l2 := List.take_of_length_le (by omega)
          subst hn hl2c
          clear hlen hlen' hnl htl hdl h3
          go_wp2_with (first | (go_at_call 58; refine (err_any g bs 0 l2 lim _ HR1.out).mono ?_; rintro e w1 ⟨rfl, rfl⟩) | (refine wpl_str _ ao _ _ l2 rfl rfl HS.out (by rfl) ?_) | fail)
          all_goals go_ret
          all_goals rw [HT.out, hd0, ht0]
          all_goals exact ⟨rfl, HR1.out.pass (by simp) (by omega) (by omega) (Sees.nil _ _) (fun h => absurd rfl h), HM1.out.trans' (Mod.setCell _ _ _ (by simp))⟩
        · go_wp2_with (first | (go_at_call 58; refine (err_any g bs 0 l2 lim _ HR1.out).mono ?_; rintro e w1 ⟨rfl, rfl⟩) | (refine wpl_str _ ao n cap (l2.take n) rfl htl HST.out (by rfl) ?_) | fail)
          all_goals go_ret
          all_goals rw [HT.out]
          all_goals exact ⟨rfl, HR1.out.pass hdl (by omega) (by omega) (HS.out.dropMap n) (by intro h0 k hk; exact HB.out (fun h => h0 (by rw [h]; simp)) k (by rwa [blk_map] at hk)), HM1.out.trans' (Mod.setCell _ _ _ (by simp))⟩
  · simp only [he, ne_eq, not_false_eq_true, if_true] at ht
    have HT := Lib.hid ht
    clear ht
    go_wp2_with (go_at_call 58; refine (err_any g bs e2 l2 lim _ HR1.out).mono ?_; rintro e w1 ⟨rfl, rfl⟩)
    go_ret
    rw [HT.out]
    exact ⟨rfl, HR1.out, HM1.out⟩
/-- A new reader, of bytes that are seen. -/
theorem newReader_any (ao : Option Addr) (len cap : Nat) (l : List UInt8) (lim : Int) (w : World) (hl : l.length = len) (hc : len ≤ cap) (hm : cap ≤ 9223372036854775807) (hs : Sees w ao l) :
    Calls Tryd.prog 37 #[.slice ao len cap, .int .i64 lim] w fun r w' => ∃ g, r = .returned (.pointer (some ⟨g, 0, none⟩)) ∧ Rd w' g (blkOf ao l) 0 l lim ∧ Mod [] w w' ∧ w.heap.size ≤ g := by
  subst hl
  go_enter Tryd.func37, Tryd.ntmps37
  go_wp2
  go_ret
  exact ⟨w.heap.size, rfl, ⟨fun hk => Nat.lt_irrefl _ (hs.ltOf _ hk), ao, cap, heap_alloc_new w _, hc, hm, hs.mod0 (Mod.alloc _ _ _), blkOf_mem⟩, Mod.alloc _ _ _, Nat.le_refl _⟩
end Go.Proofs.YtigamomoegpefaaDoor
