/- The walks of the crc package: More's inner function, More, Sum; what each computes, as a fold over the bytes. -/
import Derived.Test.YtekdnljincbghaaDoorBase
import Derived.Test.YtekdnljincbghaaDoorProg
import Derived.StillTailTactics
import Derived.BigQuiet
namespace Go.Proofs.YtekdnljincbghaaDoor
open Go Go.RowKit

def nib (c x : Int) : Int := bits BinOp.and IntKind.u32 (bits BinOp.xor IntKind.u32 c x) 15
/-- Four bits more. -/
def four (T : Nat → Int) (c x : Int) : Int := bits BinOp.xor IntKind.u32 (c / 16) (T (nib c x).toNat)
theorem nib_lo (c x : Int) : 0 ≤ nib c x ∧ nib c x < 16 := by
  obtain ⟨h0, h1⟩ := bits32_range .xor c x
  unfold nib
  rw [u32_and _ _ h0 h1 (by omega) (by omega)]
  have : (bits BinOp.xor IntKind.u32 c x).toNat &&& (15 : Int).toNat ≤ 15 := Nat.and_le_right
  omega
/-- One byte more. -/
def eight (T : Nat → Int) (c : Int) (x : UInt8) : Int := four T (four T c ((x.toNat : Int) % 16)) ((x.toNat : Int) / 16)
def inv32 (c : Int) : Int := bits BinOp.xor IntKind.u32 IntKind.u32.max c
def foldC (T : Nat → Int) (c : Int) (l : List UInt8) : Int := l.foldl (eight T) c
def moreC (T : Nat → Int) (c : Int) (l : List UInt8) : Int := inv32 (foldC T (inv32 c) l)
theorem four_lo (T : Nat → Int) (c x : Int) : 0 ≤ four T c x ∧ four T c x < 4294967296 := bits32_range _ _ _
theorem inv32_lo (c : Int) : 0 ≤ inv32 c ∧ inv32 c < 4294967296 := bits32_range _ _ _
theorem foldC_snoc (T : Nat → Int) (c : Int) (l : List UInt8) (x : UInt8) : foldC T c (l ++ [x]) = eight T (foldC T c l) x := by
  simp [foldC, List.foldl_append]
theorem foldC_lo (T : Nat → Int) (c : Int) (l : List UInt8) (hc : 0 ≤ c ∧ c < 4294967296) : 0 ≤ foldC T c l ∧ foldC T c l < 4294967296 := by
  unfold foldC
  induction l generalizing c with
  | nil => exact hc
  | cons x l ih => exact ih _ (four_lo _ _ _)

/-- The table of the package reads as T. -/
def TableAt (w : World) (T : Nat → Int) : Prop := 2 < w.heap.size ∧ ∀ i, i < 16 → w.cell? ⟨2, i, none⟩ = some (.int .u32 (T i))
theorem TableAt.mod {S : List Nat} {w w' : World} {T : Nat → Int} (h : TableAt w T) (hm : Mod S w w') (hn : 2 ∉ S) : TableAt w' T :=
  ⟨hm.lt h.1, fun i hi => hm.cell (h.2 i hi) hn⟩
theorem TableAt.mod0 {w w' : World} {T : Nat → Int} (h : TableAt w T) (hm : Mod [] w w') : TableAt w' T := h.mod hm (by simp)

set_option maxRecDepth 100000 in
set_option maxHeartbeats 800000 in
theorem four_any (b : Nat) (c x : Int) (T : Nat → Int) (w : World) (hx0 : 0 ≤ x) (hx1 : x < 256) (hc0 : 0 ≤ c) (hblk : w.heap[b]? = some (.cells #[.int .u32 c] 56 (0, 0)))
    (hT : TableAt w T) :
    Calls Tryd.prog 78 #[.int .u8 x, .pointer (some ⟨b,0,none⟩)] w fun e w' => e = .returned (.tuple #[]) ∧ w'.heap[b]? = some (.cells #[.int .u32 (four T c x)] 56 (0, 0)) ∧ Mod [b] w w' := by
  have hcell := cell_of_one hblk
  have hfz := free_of_one hblk
  have hn := nib_lo c x
  have hT' := hT.2 (nib c x).toNat (by have := nib_lo c x; omega)
  have hfin : Hid (bits BinOp.xor IntKind.u32 (c / 16) (T (bits BinOp.and IntKind.u32 (bits BinOp.xor IntKind.u32 c x) 15).toNat) = four T c x) := rfl
  obtain ⟨hn0, hn1⟩ := hn
  have hw : IntKind.u32.wrap x = x := IntWalk.u32_in x ⟨hx0, by omega⟩
  have HB := Lib.hid hblk
  clear hT hblk
  unfold nib at hn0 hn1 hT'
  go_enter Tryd.func78, Tryd.ntmps78
  go_still_tail 10, (by kernel_rfl)
  change wpList _ _ _ _ _ w.drew
  go_wp2
  go_end0
  refine ⟨rfl, ?_, (Mod.setCell w _ _ (by simp)).trans (Mod.drew [b] _) (by simp)⟩
  rw [hfin.out]
  exact one_setCell HB.out

set_option maxHeartbeats 800000 in
theorem more_any (sum : Int) (ao : Option Addr) (len cap : Nat) (l : List UInt8) (T : Nat → Int) (w : World)
    (hll : l.length = len) (hlen : l.length ≤ 9223372036854775807) (hT : TableAt w T) (hS : Sees w ao l) :
    Calls Tryd.prog 70 #[.int .u32 sum, .slice ao len cap] w fun e w' => e = .returned (.int .u32 (moreC T sum l)) ∧ Mod [] w w' := by
  subst hll
  have HT := Lib.hid hT
  have HS := Lib.hid hS
  clear hT hS
  go_enter Tryd.func70, Tryd.ntmps70
  go_wp2
  go_loopw [14] (fun i wr => ∃ k : Nat, k ≤ l.length ∧ i = .int .i64 k ∧ wr.heap[w.heap.size]? = some (.cells #[.int .u32 (foldC T (inv32 sum) (l.take k))] 56 (0, 0)) ∧ Mod [] w wr) (fun i _ => l.length - (intOf i).toNat)
  case atStart => exact ⟨0, Nat.zero_le _, rfl, heap_alloc_new w _, Mod.alloc _ _ _⟩
  case round =>
    obtain ⟨k, hk, rfl, hblk, hbel⟩ := hrel
    have HB := Lib.hid hblk
    have HL := Lib.hid hbel
    clear hblk hbel
    by_cases hlt : k < l.length
    · obtain ⟨b, off, rfl, hcell⟩ := (Sees.mod0 HS.out HL.out).at' hlt
      have hxlt := toNat_lt l[k]
      have hxlo : (0 : Int) ≤ (l[k].toNat : Nat) := by omega
      have hflo := foldC_lo T (inv32 sum) (l.take k) (inv32_lo sum)
      have HT0 := Lib.hid (HT.out.mod0 HL.out)
      go_wp2_with fail
      refine (four_any w.heap.size (foldC T (inv32 sum) (l.take k)) _ T _ (by omega) (by omega) hflo.1 HB.out HT0.out).mono ?_
      rintro e w1 ⟨rfl, hb1, hm1⟩
      have HB1 := Lib.hid hb1
      have HM1 := Lib.hid (HL.out.trans hm1 (by simp))
      have HT1 := Lib.hid (HT.out.mod0 HM1.out)
      clear hb1 hm1
      go_wp2_with fail
      refine (four_any w.heap.size (four T (foldC T (inv32 sum) (l.take k)) ((l[k].toNat : Int) % 16)) _ T _ (by omega) (by omega) (four_lo _ _ _).1 HB1.out HT1.out).mono ?_
      rintro e w2 ⟨rfl, hb2, hm2⟩
      have HB2 := Lib.hid hb2
      have HM2 := Lib.hid (HM1.out.trans hm2 (by simp))
      clear hb2 hm2
      go_wp2
      go_roundw
      case rel =>
        refine ⟨k + 1, by omega, by go_num, ?_, HM2.out⟩
        rw [take_snoc l k hlt, foldC_snoc]
        exact HB2.out
      case measure => simp [intOf]; omega
    · have hk' : k = l.length := by omega
      subst hk'
      have hcell := cell_of_one HB.out
      rw [List.take_length] at hcell
      go_wp2
      go_ret
      exact ⟨rfl, HL.out⟩

set_option maxHeartbeats 400000 in
theorem sum_any (ao : Option Addr) (len cap : Nat) (l : List UInt8) (T : Nat → Int) (w : World)
    (hll : l.length = len) (hlen : l.length ≤ 9223372036854775807) (hT : TableAt w T) (hS : Sees w ao l) :
    Calls Tryd.prog 57 #[.slice ao len cap] w fun e w' => e = .returned (.int .u32 (moreC T 0 l)) ∧ Mod [] w w' := by
  subst hll
  have HT := Lib.hid hT
  have HS := Lib.hid hS
  clear hT hS
  go_enter Tryd.func57, Tryd.ntmps57
  go_wp2_with (go_at_call 70; refine (more_any _ _ _ _ _ T _ rfl hlen HT.out HS.out).mono ?_; rintro e w1 ⟨rfl, hb⟩)
  go_ret
  exact ⟨rfl, by assumption⟩

end Go.Proofs.YtekdnljincbghaaDoor
