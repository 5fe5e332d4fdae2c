/- The walks of varint.groups, its inner function, and varint.Uint: a number's bytes behind bytes of the call's own. -/
import Derived.Test.YtekdnljincbghaaDoorBytes
import Derived.Test.YtekdnljincbghaaDoorEnc
import Derived.Test.YtekdnljincbghaaDoorRange
import Derived.OwnWalkIn
import Derived.TacticsInMore
import Derived.LoopNIn
import Derived.LoopIn
namespace Go.Proofs.YtekdnljincbghaaDoor
open Go Go.RowKit Go.Shelf
attribute [local go_sem] Oper.semAt_some

/-- The number in the box. -/
def boxNum (nb : Nat) (w : World) : Nat := match w.cell? ⟨nb, 0, none⟩ with | some v => (intOf v).toNat | none => 0
theorem boxNum_of {nb : Nat} {w : World} {k : IntKind} {m : Nat} {t : TypeId} (h : w.heap[nb]? = some (.cells #[.int k (m : Int)] t (0, 0))) : boxNum nb w = m := by
  unfold boxNum; rw [cell_of_one h]; simp [intOf]

set_option maxRecDepth 100000 in
set_option maxHeartbeats 1000000 in
theorem groups1_in (F : Fence) (n : Nat) (hf : F.fn 69) (hro : F.round = none) (hn : 1 ≤ n) (nb m : Nat) (hm64 : m < 18446744073709551616) (w : World) (hnb : w.heap[nb]? = some (.cells #[.int .u64 (m : Int)] 22 (0, 0))) :
    Hands F n Tryd.prog 69 #[.pointer (some ⟨nb, 0, none⟩)] (fun x : UInt8 × Bool => #[.int .u8 ((x.1.toNat : Nat) : Int), .bool x.2]) nb (grp m) w := by
  intro l J W hW hJ hY h0
  have hb0 : W.heap[nb]? = some (.cells #[.int .u64 (m : Int)] 22 (0, 0)) := hW.get hnb (by simp)
  have HY := Lib.hid hY
  have HJ := Lib.hid hJ
  clear hY hJ
  refine callsIn_of_wp Tryd.func69 rfl hf ?_ hro
  simp only [Tryd.ntmps69, List.size_toArray, List.length_cons, List.length_nil, Nat.reduceAdd, Nat.reduceSub, Array.replicate_succ, Array.replicate_zero, List.push_toArray, List.append_toArray, List.nil_append, List.cons_append]
  gi_wp2
  gi_loopw [3] (fun _ wr => ∃ (pre : List (UInt8 × Bool)) (q : Nat), q < 18446744073709551616 ∧ grp m = pre ++ grp q ∧ wr.heap[nb]? = some (.cells #[.int .u64 (q : Int)] 22 (0, 0)) ∧ J pre wr) (fun _ wr => boxNum nb wr)
  case atStart => exact ⟨[], m, hm64, rfl, hb0, h0⟩
  case round =>
    obtain ⟨pre, q, hq, hg, hb, hj⟩ := hrel
    have hcell := cell_of_one hb
    have hfree := free_of_one hb
    have HG := Lib.hid hg
    have HB := Lib.hid hb
    have HN := Lib.hid hj
    clear hg hb hj hb0 h0
    by_cases hlt : q < 128
    · have hx : (pre ++ [(UInt8.ofNat q, true)]) <+: grp m := by rw [HG.out, grp_small q hlt]; exact List.prefix_refl _
      obtain ⟨fn, tmps, assign, body, hy, hR⟩ := HY.out pre (UInt8.ofNat q, true) wr HN.out hx
      have e1 : (UInt8.ofNat q).toNat = q := by rw [UInt8.toNat_ofNat']; omega
      simp only [e1] at hy
      have hw8 : IntKind.u8.wrap (q : Int) = (q : Int) := IntWalk.u8_in _ (by omega)
      have hd : decide ((128 : Int) ≤ (q : Int)) = false := by simp; omega
      gi_wp2
      refine hR.mono ?_
      rintro e W3 ⟨rfl, hj3, _⟩
      gi_wp2
      go_end0
      exact ⟨⟨_, rfl⟩, by rw [HG.out, grp_small q hlt]; exact hj3⟩
    · have hgb := grp_big q (by omega) hq
      have hx : (pre ++ [(UInt8.ofNat (q % 128), false)]) <+: grp m := by rw [HG.out, hgb]; exact ⟨grp (q / 128), by simp⟩
      obtain ⟨fn, tmps, assign, body, hy, hR⟩ := HY.out pre (UInt8.ofNat (q % 128), false) wr HN.out hx
      have e1 : (((UInt8.ofNat (q % 128)).toNat : Nat) : Int) = (q : Int) % 128 := by rw [UInt8.toNat_ofNat']; omega
      simp only [e1] at hy
      have HGB := Lib.hid hgb
      have hd : decide ((128 : Int) ≤ (q : Int)) = true := by simp; omega
      have hw8 : IntKind.u8.wrap (bits BinOp.and IntKind.u64 (q : Int) 127) = (q : Int) % 128 := by
        have h1 := u64_and_nat q 127 hq (by omega)
        have h2 : q &&& 127 = q % 128 := Nat.and_two_pow_sub_one_eq_mod q 7
        rw [h2] at h1
        rw [show (127 : Int) = ((127 : Nat) : Int) from rfl, h1, IntWalk.u8_in _ (by omega)]; omega
      clear hgb e1
      gi_wp2
      refine hR.mono ?_
      rintro e W3 ⟨rfl, hj3, hn3⟩
      have hb3 : W3.heap[nb]? = some (.cells #[.int .u64 (q : Int)] 22 (0, 0)) := by rw [hn3]; exact HB.out
      have hcell3 := cell_of_one hb3
      have hfree3 := free_of_one hb3
      have HB3 := Lib.hid hb3
      have HJ3 := Lib.hid hj3
      have hqq : Hid ((q : Int) / 128 = ((q / 128 : Nat) : Int)) := by show _ = _; omega
      clear hb3 hj3 hn3 hcell hfree hy hw8
      gi_wp2
      go_roundw
      case rel =>
        refine ⟨pre ++ [(UInt8.ofNat (q % 128), false)], q / 128, by omega, by rw [HG.out, HGB.out]; simp, ?_, HJ.out _ _ _ HJ3.out (Mod.setCell _ _ _ (by simp))⟩
        rw [hqq.out]
        exact one_setCell HB3.out
      case measure =>
        rw [hqq.out, boxNum_of (one_setCell HB3.out), boxNum_of HB.out]
        omega
set_option maxHeartbeats 1000000 in
theorem groups_in (F : Fence) (n : Nat) (hf : F.fn 56) (hro : F.round = none) (m : Int) (w : World) :
    CallsIn F n Tryd.prog 56 #[.int .u64 m] w fun e w' => ∃ nb, e = .returned (.func (.func 69) #[] #[.pointer (some ⟨nb, 0, none⟩)]) ∧ w'.heap[nb]? = some (.cells #[.int .u64 m] 22 (0, 0)) ∧ Mod [] w w' ∧ w.heap.size ≤ nb := by
  refine callsIn_of_wp Tryd.func56 rfl hf ?_ hro
  simp only [Tryd.ntmps56, List.size_toArray, List.length_cons, List.length_nil, Nat.reduceAdd, Nat.reduceSub, Array.replicate_succ, Array.replicate_zero, List.push_toArray, List.append_toArray, List.nil_append, List.cons_append]
  gi_wp2
  go_ret
  exact ⟨w.heap.size, rfl, heap_alloc_new w _, Mod.alloc _ _ _, Nat.le_refl _⟩
end Go.Proofs.YtekdnljincbghaaDoor
