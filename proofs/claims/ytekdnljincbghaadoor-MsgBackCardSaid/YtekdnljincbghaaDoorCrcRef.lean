/- The walk of the document's answer for the crc package: bit by bit. -/
import Derived.Test.YtekdnljincbghaaDoorBase
import Derived.Test.YtekdnljincbghaaDoorProg
namespace Go.Proofs.YtekdnljincbghaaDoor
open Go Go.RowKit

/-- One bit. -/
def refBit (c : Int) : Int := if (bits BinOp.and IntKind.u32 c 1 == 1) = true then bits BinOp.xor IntKind.u32 (c / 2) 2197175160 else c / 2
def refBits : Nat → Int → Int
  | 0, c => c
  | n + 1, c => refBit (refBits n c)
def refByte (c : Int) (x : UInt8) : Int := refBits 8 (bits BinOp.xor IntKind.u32 c (x.toNat : Int))
def refFold (c : Int) (l : List UInt8) : Int := l.foldl refByte c
def refSum (l : List UInt8) : Int := bits BinOp.xor IntKind.u32 (refFold 4294967295 l) 4294967295
theorem refFold_snoc (c : Int) (l : List UInt8) (x : UInt8) : refFold c (l ++ [x]) = refByte (refFold c l) x := by simp [refFold, List.foldl_append]
theorem refBit_lo (c : Int) (h : 0 ≤ c ∧ c < 4294967296) : 0 ≤ refBit c ∧ refBit c < 4294967296 := by
  unfold refBit
  split
  · exact bits32_range _ _ _
  · omega
theorem refBits_lo (n : Nat) (c : Int) (h : 0 ≤ c ∧ c < 4294967296) : 0 ≤ refBits n c ∧ refBits n c < 4294967296 := by
  induction n with
  | zero => exact h
  | succ n ih => exact refBit_lo _ ih
theorem refFold_lo (c : Int) (l : List UInt8) (hc : 0 ≤ c ∧ c < 4294967296) : 0 ≤ refFold c l ∧ refFold c l < 4294967296 := by
  unfold refFold
  induction l generalizing c with
  | nil => exact hc
  | cons x l ih => exact ih _ (refBits_lo _ _ (bits32_range _ _ _))

set_option maxHeartbeats 800000 in
theorem refSum_any (ao : Option Addr) (len cap : Nat) (l : List UInt8) (w : World)
    (hll : l.length = len) (hlen : l.length ≤ 9223372036854775807) (hS : Sees w ao l) :
    Calls Tryd.prog 34 #[.slice ao len cap] w fun e w' => e = .returned (.int .u32 (refSum l)) ∧ w = w' := by
  subst hll
  have HS := Lib.hid hS
  clear hS
  go_enter Tryd.func34, Tryd.ntmps34
  go_wp2
  go_loop [3, 4] (fun c i => ∃ k : Nat, k ≤ l.length ∧ i = .int .i64 k ∧ c = .int .u32 (refFold 4294967295 (l.take k))) (fun _ i => l.length - (intOf i).toNat)
  case atStart => exact ⟨0, Nat.zero_le _, rfl, rfl⟩
  case round =>
    obtain ⟨k, hk, rfl, rfl⟩ := hrel
    by_cases hlt : k < l.length
    · obtain ⟨b, off, rfl, hcell⟩ := HS.out.at' hlt
      have hxlt := toNat_lt l[k]
      have hxlo : (0 : Int) ≤ (l[k].toNat : Nat) := by omega
      have hflo := bits32_range .xor (refFold 4294967295 (l.take k)) (l[k].toNat : Int)
      have hw : IntKind.u32.wrap (l[k].toNat : Int) = (l[k].toNat : Int) := IntWalk.u32_in _ ⟨hxlo, by omega⟩
      have HF : Hid (∀ c, bits BinOp.xor IntKind.u32 (refFold 4294967295 (l.take k)) (l[k].toNat : Int) = c → refBits 8 c = refFold 4294967295 (l.take (k + 1))) := by
        intro c hc; rw [take_snoc l k hlt, refFold_snoc, ← hc]; rfl
      go_wp2
      go_loop [3, 5] (fun c j => ∃ n : Nat, n ≤ 8 ∧ j = .int .i64 n ∧ c = .int .u32 (refBits n (bits BinOp.xor IntKind.u32 (refFold 4294967295 (l.take k)) (l[k].toNat : Int)))) (fun _ j => 8 - (intOf j).toNat)
      case atStart => exact ⟨0, Nat.zero_le _, rfl, rfl⟩
      case round =>
        obtain ⟨n, hn, rfl, rfl⟩ := hrel
        by_cases hn8 : n < 8
        · have hr := refBits_lo n _ hflo
          obtain ⟨c, hc⟩ : ∃ c, c = refBits n (bits BinOp.xor IntKind.u32 (refFold 4294967295 (l.take k)) (l[k].toNat : Int)) := ⟨_, rfl⟩
          rw [← hc] at hr ⊢
          have HC := Lib.hid hc
          clear hc HF hcell hw hxlt hxlo hflo
          have HN : Hid (refBits (n + 1) (bits BinOp.xor IntKind.u32 (refFold 4294967295 (l.take k)) (l[k].toNat : Int)) = refBit c) := by rw [HC.out]; rfl
          by_cases hodd : (bits BinOp.and IntKind.u32 c 1 == 1) = true
          · have HR : Hid (refBit c = bits BinOp.xor IntKind.u32 (c / 2) 2197175160) := by unfold refBit; rw [if_pos hodd]; exact rfl
            go_wp2
            go_round
            case rel => exact ⟨n + 1, by omega, by go_num, by rw [HN.out, HR.out]⟩
            case measure => simp [intOf]; omega
          · have HR : Hid (refBit c = c / 2) := by unfold refBit; rw [if_neg hodd]; exact rfl
            have hodd' : (bits BinOp.and IntKind.u32 c 1 == 1) = false := by simpa using hodd
            clear hodd
            go_wp2
            go_round
            case rel => exact ⟨n + 1, by omega, by go_num, by rw [HN.out, HR.out]⟩
            case measure => simp [intOf]; omega
        · obtain rfl : n = 8 := by omega
          clear hcell hw hxlt hxlo hflo
          go_wp2
          go_round
          case rel => exact ⟨k + 1, by omega, by go_num, by rw [HF.out _ rfl]⟩
          case measure => simp [intOf]; omega
    · have hk' : k = l.length := by omega
      subst hk'
      rw [List.take_length]
      go_wp2
      go_ret
      exact ⟨rfl, rfl⟩
end Go.Proofs.YtekdnljincbghaaDoor
