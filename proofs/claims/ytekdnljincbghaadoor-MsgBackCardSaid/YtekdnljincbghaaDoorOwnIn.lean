/- append of bytes to bytes of the call's own, inside a fence. -/
import Derived.Test.YtekdnljincbghaaDoorBytes
import Derived.OwnWalkIn
namespace Go.Proofs.YtekdnljincbghaaDoor
open Go Go.RowKit
theorem wplIn_app8 {F : Fence} {nF : Nat} {w : World} {ops : Array Oper} {rest : List Oper} {a : Act} {Q : Exit → Act → World → Prop} {dst : Option Tmp} {ty : TypeId} {pos : String} {after : Array Edge} (s x : Operand)
    (ao : Option Addr) (n cap : Nat) (xs : List UInt8) (hs : a.eval s = .slice ao n cap) (hn : xs.length = n) (hown : OwnB w ao cap xs)
    (so : Option Addr) (m c : Nat) (l : List UInt8) (hx : a.eval x = .slice so m c) (hl : l.length = m) (hsees : Sees w so l) (hb : n + m ≤ 140737488355328)
    (h : ∀ ao' cap' w', OwnB w' ao' cap' (xs ++ l) → Mod (blk ao) w w' → SameOrNew w w' ao ao' → wpListIn F nF Tryd.prog ops Q rest (a.put dst (.slice ao' (n + m) cap')) w') :
    wpListIn F nF Tryd.prog ops Q (⟨dst, .call { callee := .builtin .append, args := #[s, x], argTypes := #[27, 27] }, ty, pos, after, none⟩ :: rest) a w := by
  obtain ⟨i0, hi, hz0, hz1, hz2⟩ := info_parts infoU8
  subst hn hl
  obtain ⟨ao', cap', w', hr, h2, h3, h4⟩ := run_append_mine (P := Tryd.prog) w 27 ty 5 i0 _ 1 1 Tryd.underlying27 hi hz0 hz1 hz2 rfl (by decide) ao xs.length cap _ hown so l.length c (l.map u8v) (by simp) hsees.shows (one_u8 _) (by unfold maxLen; omega) (by omega)
  refine wpListIn_plain rfl fun K hK' => ?_
  unfold Oper.wpIn
  refine ⟨?_, ?_⟩
  · simp [Oper.about, resolve, Target.leads, Sem.run_pure]
  · rw [Oper.semAt_plain F _ _ (by intro c hc'; cases hc')]
    simp [execOp, resolve, invoke, builtin, hs, hx, hr, Result.andThen]
    refine hK' _ _ (h ao' cap' w' ?_ h3 h4)
    unfold OwnB
    rw [List.length_append, List.map_append]
    exact h2
end Go.Proofs.YtekdnljincbghaaDoor
