/- The walks of the net package: a letter is spoilt; all letters. -/
import Derived.Test.YtihhbphlhckakaaNet7
namespace Go.Proofs.Ytihhbphlhckakaa
open Go Go.RowKit Go.Lib

theorem OwnB.at' {w : World} {ao : Option Addr} {c : Nat} {bs : List UInt8} (h : OwnB w ao c bs) {j : Nat} (hj : j < bs.length) :
    ∃ b, ao = some ⟨b, 0, none⟩ ∧ w.cell? ⟨b, j, none⟩ = some (.int .u8 ((bs[j].toNat : Nat) : Int)) ∧ w.frozen? ⟨b, j, none⟩ = false := by
  have : (bs.map u8v)[j]? = some (u8v bs[j]) := by rw [List.getElem?_map, List.getElem?_eq_getElem hj]; rfl
  obtain ⟨b, h1, h2, h3⟩ := Own.cell h this
  exact ⟨b, h1, h2, h3⟩
set_option maxRecDepth 100000 in
set_option maxHeartbeats 2000000 in
theorem spoil1_bad (fr to : Int) (ao : Option Addr) (n c : Nat) (bit : Int) (bt : Nat) (w : World) (hbt : w.cell? ⟨bt, 0, none⟩ = some (.int .i64 bit)) (hb : bit < 0 ∨ (n : Int) ≤ bit / 8) (hmx : bit ≤ 9223372036854775807) :
    Calls Try.prog 27 #[.agg #[.int .i64 fr, .int .i64 to, .slice ao n c], .pointer (some ⟨bt, 0, none⟩)] w fun e w' => ∃ v, e = .returned (.int .i64 v) ∧ v = 1 ∧ Mod [] w w' := by
  have hlt := World.block_lt_of_cell? w _ hbt
  by_cases h0 : bit < 0
  · clear hb
    go_enter Try.func27, Try.ntmps27
    go_wp2
    go_ret
    exact ⟨1, rfl, rfl, Mod.alloc _ _ _⟩
  · obtain ⟨m, rfl⟩ := Int.eq_ofNat_of_zero_le (Int.not_lt.1 h0)
    have hm : n ≤ m / 8 := by omega
    have hw : wrap64 ((m : Int) / 8) = (m : Int) / 8 := by unfold wrap64; omega
    have hmi : (n : Int) ≤ (m : Int) / 8 := by omega
    clear hb h0
    go_enter Try.func27, Try.ntmps27
    go_wp2
    go_ret
    exact ⟨1, rfl, rfl, Mod.alloc _ _ _⟩
/-- A bit of a byte, turned. -/
def flip8 (x : UInt8) (r : Nat) : UInt8 := UInt8.ofNat (bits .xor .u8 ((x.toNat : Nat) : Int) (2 ^ r % 256)).toNat
theorem flip8_val (x : UInt8) (r : Nat) : (((flip8 x r).toNat : Nat) : Int) = bits .xor .u8 ((x.toNat : Nat) : Int) (2 ^ r % 256) := by
  have hw : ∀ z : Int, 0 ≤ IntKind.u8.wrap z ∧ IntKind.u8.wrap z < 256 := fun z => by
    simp only [IntKind.wrap_u8']
    omega
  have h : 0 ≤ bits .xor .u8 ((x.toNat : Nat) : Int) (2 ^ r % 256) ∧ bits .xor .u8 ((x.toNat : Nat) : Int) (2 ^ r % 256) < 256 := by
    unfold bits
    split <;> exact hw _
  unfold flip8
  rw [UInt8.toNat_ofNat']
  omega
theorem OwnB.put {w : World} {b c : Nat} {bs : List UInt8} (h : OwnB w (some ⟨b, 0, none⟩) c bs) (j : Nat) (y : UInt8) : OwnB (w.setCell ⟨b, j, none⟩ (.int .u8 ((y.toNat : Nat) : Int))) (some ⟨b, 0, none⟩) c (bs.set j y) := by
  have := Own.set (j := j) h (u8v y)
  unfold OwnB
  rw [List.length_set, List.map_set]
  exact this
set_option maxRecDepth 100000 in
set_option maxHeartbeats 2000000 in
theorem spoil1_ok (fr to : Int) (ao : Option Addr) (c : Nat) (bs : List UInt8) (bit j r : Nat) (bt : Nat) (w : World) (hbt : w.cell? ⟨bt, 0, none⟩ = some (.int .i64 (bit : Int))) (hj : bit / 8 = j) (hr : bit % 8 = r) (hb : j < bs.length) (ho : OwnB w ao c bs) (hbl : bs.length ≤ 1000000) (hne : bt ∉ blk ao) :
    Calls Try.prog 27 #[.agg #[.int .i64 fr, .int .i64 to, .slice ao bs.length c], .pointer (some ⟨bt, 0, none⟩)] w fun e w' => ∃ v, e = .returned (.int .i64 v) ∧ v = 0 ∧ Mod (blk ao) w w' ∧ OwnB w' ao c (bs.set j (flip8 bs[j] r)) := by
  have hlt := World.block_lt_of_cell? w _ hbt
  obtain ⟨b, rfl, p0, pf⟩ := ho.at' hb
  have HO := Lib.hid ho
  have hlb : b < w.heap.size := World.block_lt_of_cell? w _ p0
  have hbtb : bt ≠ b := by simpa [blk] using hne
  have hwq : IntKind.i64.wrap ((bit : Int) / 8) = (j : Int) := by rw [IntWalk.i64_in _ (by omega)]; omega
  have hq : (bit : Int) / 8 = (j : Int) := by omega
  have hji : (j : Int) < (bs.length : Int) := by omega
  have hwj : IntKind.i64.wrap (j : Int) = (j : Int) := IntWalk.i64_in _ (by omega)
  have hrm : (bit : Int).tmod 8 = (r : Int) := by rw [← hr]; rfl
  have hwr : IntKind.i64.wrap (r : Int) = (r : Int) := IntWalk.i64_in _ (by omega)
  have hsh : Op.shift BinOp.shl IntKind.u8 1 IntKind.i64 (r : Int) = pure (.int .u8 (2 ^ r % 256)) := by
    rw [shift_shl_any _ _ _ _ (by omega)]
    have : min (r : Int).toNat IntKind.u8.bits = r := by show min _ 8 = r; simp; omega
    rw [this]; simp only [IntKind.wrap_u8', Int.one_mul]
  obtain ⟨x8, hx8⟩ : ∃ x8, bs[j] = x8 := ⟨_, rfl⟩
  rw [hx8] at p0 ⊢
  have HF := Lib.hid (flip8_val x8 r)
  clear ho hne
  go_enter Try.func27, Try.ntmps27
  go_upto_region 3 with (fail)
  have m1 := Mod.alloc [] w (.cells #[.int .i64 fr, .int .i64 to, .slice (some ⟨b, 0, none⟩) bs.length c] 29)
  have hx := heap_alloc_new w (.cells #[.int .i64 fr, .int .i64 to, .slice (some ⟨b, 0, none⟩) bs.length c] 29)
  refine rest_start [b] 12 #[false, false, false, false, false, false, false, false, false, false, false, false] rfl (by kernel_rfl) (by kernel_rfl) ?_
  intro w1 mm
  have hb1 := mm.get hx (by simp)
  have X2 : Hid (w1.cell? ⟨w.heap.size, 2, none⟩ = some (.slice (some ⟨b, 0, none⟩) bs.length c)) := by show _ = _; rw [cell_of_block hb1]; rfl
  have B1 := Lib.hid (mm.cell (m1.cell hbt (by simp)) (by simp))
  have mm2 := m1.trans' mm
  have M1 := Lib.hid mm2
  have O1 := Lib.hid (HO.out.mod0 mm2)
  have q0 := mm2.cell p0 (by simp)
  have qf : w1.frozen? ⟨b, j, none⟩ = false := by rw [mm2.frozen hlb (by simp)]; exact pf
  clear m1 hx mm hb1 mm2 hbt p0 pf
  refine rest_got (i := 0) (v := ?v1) rfl (by kernel_rfl) (by kernel_rfl) (by kernel_rfl) (fun _ _ _ h => h) (by rfl) ?y1 ?r1
  case y1 => (intro w9q hSwq; clear hSwq; go_simp; with_reducible rfl)
  try simp only [Act.put, List.setIfInBounds_toArray, List.set_cons_zero, List.set_cons_succ]
  refine rest_got (i := 1) (v := ?v2) rfl (by kernel_rfl) (by kernel_rfl) (by kernel_rfl) (fun _ _ _ h => h) (by rfl) ?y2 ?r2
  case y2 => ((intro w9' hm9'; have hc9' := Mod.cell hm9' X2.out (by first | exact List.not_mem_nil | (simp; omega)); clear hm9'; go_simp; with_reducible rfl))
  try simp only [Act.put, List.setIfInBounds_toArray, List.set_cons_zero, List.set_cons_succ]
  refine rest_got (i := 2) (v := ?v3) rfl (by kernel_rfl) (by kernel_rfl) (by kernel_rfl) (fun _ _ _ h => h) (by rfl) ?y3 ?r3
  case y3 => ((intro w9' hm9'; have hc9' := Mod.cell hm9' B1.out (by first | exact List.not_mem_nil | (simp; omega)); clear hm9'; go_simp; with_reducible rfl))
  try simp only [Act.put, List.setIfInBounds_toArray, List.set_cons_zero, List.set_cons_succ]
  refine rest_got (i := 3) (v := ?v4) rfl (by kernel_rfl) (by kernel_rfl) (by kernel_rfl) (fun _ _ _ h => h) (by rfl) ?y4 ?r4
  case y4 => (intro w9q hSwq; clear hSwq; go_simp; with_reducible rfl)
  try simp only [Act.put, List.setIfInBounds_toArray, List.set_cons_zero, List.set_cons_succ]
  refine rest_got (i := 4) (v := ?v5) rfl (by kernel_rfl) (by kernel_rfl) (by kernel_rfl) (fun _ _ _ h => h) (by rfl) ?y5 ?r5
  case y5 => (intro w9q hSwq; clear hSwq; go_simp; with_reducible rfl)
  try simp only [Act.put, List.setIfInBounds_toArray, List.set_cons_zero, List.set_cons_succ]
  refine rest_got (i := 6) (v := ?v6) rfl (by kernel_rfl) (by kernel_rfl) (by kernel_rfl) (fun _ _ _ h => h) (by rfl) ?y6 ?r6
  case y6 => ((intro w9' hm9'; have hc9' := Mod.cell hm9' B1.out (by first | exact List.not_mem_nil | (simp; omega)); clear hm9'; go_simp; with_reducible rfl))
  try simp only [Act.put, List.setIfInBounds_toArray, List.set_cons_zero, List.set_cons_succ]
  refine rest_got (i := 7) (v := ?v7) rfl (by kernel_rfl) (by kernel_rfl) (by kernel_rfl) (fun _ _ _ h => h) (by rfl) ?y7 ?r7
  case y7 => (intro w9q hSwq; clear hSwq; go_simp; with_reducible rfl)
  try simp only [Act.put, List.setIfInBounds_toArray, List.set_cons_zero, List.set_cons_succ]
  refine rest_got (i := 8) (v := ?v8) rfl (by kernel_rfl) (by kernel_rfl) (by kernel_rfl) (fun _ _ _ h => h) (by rfl) ?y8 ?r8
  case y8 => (intro w9q hSwq; clear hSwq; go_simp; with_reducible rfl)
  try simp only [Act.put, List.setIfInBounds_toArray, List.set_cons_zero, List.set_cons_succ]
  refine rest_one (i := 5) (by kernel_rfl) rfl (by rfl) ?_
  go_wp2_with fail
  refine back_to (K1 := [b]) (Mod.refl _ _) (fun _ h _ => h) ?_
  refine rest_got (i := 9) (v := ?v9) rfl (by kernel_rfl) (by kernel_rfl) (by kernel_rfl) (fun _ _ _ h => h) (by rfl) ?y9 ?r9
  case y9 => (intro w9q hSwq; clear hSwq; go_simp; with_reducible rfl)
  try simp only [Act.put, List.setIfInBounds_toArray, List.set_cons_zero, List.set_cons_succ]
  refine rest_got (i := 10) (v := ?v10) rfl (by kernel_rfl) (by kernel_rfl) (by kernel_rfl) (fun _ _ _ h => h) (by rfl) ?y10 ?r10
  case y10 => (intro w9q hSwq; clear hSwq; go_simp; with_reducible rfl)
  try simp only [Act.put, List.setIfInBounds_toArray, List.set_cons_zero, List.set_cons_succ]
  refine rest_one (i := 11) (by kernel_rfl) rfl (by rfl) ?_
  go_wp2_with fail
  have m2 := Mod.setCell (S := [b]) w1 ⟨b, j, none⟩ (.int .u8 (bits .xor .u8 ((x8.toNat : Nat) : Int) (2 ^ r % 256))) (by simp)
  have o2 := O1.out.put j (flip8 x8 r)
  rw [HF.out] at o2
  have M2 : Hid (Mod [b] w (w1.setCell ⟨b, j, none⟩ (.int .u8 (bits .xor .u8 ((x8.toNat : Nat) : Int) (2 ^ r % 256))))) := M1.out.nil.trans' m2
  have O2 := Lib.hid o2
  refine back_to (K1 := []) m2 (by simp) ?_
  clear m2 o2 q0 qf
  refine rest_done (by kernel_rfl) ?_ _
  go_wp2
  go_ret
  exact ⟨0, rfl, rfl, M2.out, O2.out⟩
end Go.Proofs.Ytihhbphlhckakaa
