/- The walks of the net laws' reference: a letter is spoilt, at a bit that is there. -/
import Derived.Test.YtihhbphlhckakaaRef18d
namespace Go.Proofs.Ytihhbphlhckakaa
open Go Go.RowKit Go.Lib

set_option maxRecDepth 100000 in
set_option maxHeartbeats 4000000 in
theorem refdo_spoilok (a : Option Addr) (c : Nat) (L : List Lr) (k bit j r : Nat) (w : World) (h : OwnR w a c L) (hk : k < L.length) (hl : L.length ≤ 1000) (fr to : Int) (bs : List UInt8) (hx : L[k] = (fr, to, bs)) (hj : bit / 8 = j) (hr : bit % 8 = r) (hb : j < bs.length) (hbl : bs.length ≤ 1000000) :
    Calls Try.prog 31 #[.slice a L.length c, .int .u8 5, .int .i64 (k : Int), .int .i64 (bit : Int)] w fun e w' => ∃ a' c', e = .returned (.tuple #[.slice a' L.length c', .agg #[.int .i64 0, .int .i64 0, .string ⟨#[]⟩], .int .i64 0]) ∧ OwnR w' a' c' (L.set k (fr, to, bs.set j (flip8 bs[j] r))) ∧ Mod [] w w' ∧ ∀ i, i ∈ blk a' → w.heap.size ≤ i := by
  have H := Lib.hid h
  obtain ⟨b, rfl, p0, p1, p2, -⟩ := OwnR.at' h hk
  rw [hx] at p0 p1 p2
  dsimp only at p0 p1 p2
  unfold strV at p2
  have hlb := World.block_lt_of_cell? w _ p0
  have hsz : ByteArray.size ⟨bs.toArray⟩ = bs.length := by simp [ByteArray.size]
  have hwq : IntKind.i64.wrap ((bit : Int) / 8) = (j : Int) := by rw [IntWalk.i64_in _ (by omega)]; omega

  have hq : (bit : Int) / 8 = (j : Int) := by omega
  have hji : (j : Int) < (bs.length : Int) := by omega
  have hwj : IntKind.i64.wrap (j : Int) = (j : Int) := IntWalk.i64_in _ (by omega)
  have hrm : (bit : Int).tmod 8 = (r : Int) := by rw [← hr]; rfl
  have hwr : IntKind.i64.wrap (r : Int) = (r : Int) := IntWalk.i64_in _ (by omega)
  have hsh : Op.shift BinOp.shl IntKind.u8 1 IntKind.i64 (r : Int) = pure (.int .u8 (2 ^ r % 256)) := by
    rw [shift_shl_any _ _ _ _ (by omega)]
    have : min (r : Int).toNat IntKind.u8.bits = r := by show min _ 8 = r; simp; omega
    rw [this]; simp only [IntKind.wrap_u8', Int.one_mul]
  obtain ⟨x8, hx8⟩ : ∃ x8, bs[j] = x8 := ⟨_, rfl⟩
  rw [hx8]
  have HF := Lib.hid (flip8_val x8 r)
  have HW := Lib.hid (show wo L (-1) L.length = L by rw [wo_none L (-1) (by omega) _ (Nat.le_refl _), List.take_length])
  have HX := Lib.hid hx
  clear h hx
  go_enter Try.func31, Try.ntmps31
  go_upto_region 18 with (first | (refine wpl_bytes (dst := some 77) _ ⟨bs.toArray⟩ rfl (by omega) (by rfl) ?_) | fail)
  intro g cp w3 o3 m3 z3
  have o3' : OwnB w3 (some ⟨g, 0, none⟩) cp bs := o3
  have m1 := Mod.alloc [] w (.cells #[.int .i64 0, .int .i64 0, .string ⟨#[]⟩] 58)
  have m2 := Mod.alloc [] (w.alloc (.cells #[.int .i64 0, .int .i64 0, .string ⟨#[]⟩] 58)) (.cells #[.int .i64 fr, .int .i64 to, .string ⟨bs.toArray⟩] 58)
  have hm := (m1.trans' m2).trans' m3
  have Z3 := Lib.hid (m3.get (m2.get (heap_alloc_new w (.cells #[.int .i64 0, .int .i64 0, .string ⟨#[]⟩] 58)) (by simp)) (by simp))
  have G3 : Hid (w.heap.size + 1 < g) := by show _ < _; first | omega | (simp at z3; omega)
  have H3 := Lib.hid (Own.mod0 H.out hm)
  have M3 := Lib.hid hm
  have O3 := Lib.hid o3'
  clear o3 o3' m1 m2 m3 hm z3 p0 p1 p2 hlb
  go_upto_region 18 with (fail)
  refine rest_start [g] 14 #[false, false, false, false, false, false, false, false, false, false, false, false, false, false] rfl (by kernel_rfl) (by kernel_rfl) ?_
  intro w4 mm
  obtain ⟨b', hb', q0, qf⟩ := (O3.out.mod0 mm).at' hb
  cases hb'
  rw [hx8] at q0
  have O4 := Lib.hid (O3.out.mod0 mm)
  have H4 := Lib.hid (Own.mod0 H3.out mm)
  have M4 := Lib.hid (M3.out.trans' mm)
  have Z4 := Lib.hid (mm.get Z3.out (by simp))
  have hlg := World.block_lt_of_cell? w4 _ q0
  clear mm O3 H3 M3 Z3
  refine rest_got (i := 0) (v := ?v1) rfl (by kernel_rfl) (by kernel_rfl) (by kernel_rfl) (fun _ _ _ h => h) (by rfl) ?y1 ?r1
  case y1 => (intro w9q hSwq; clear hSwq; go_simp; with_reducible rfl)
  try simp only [Act.put, List.setIfInBounds_toArray, List.set_cons_zero, List.set_cons_succ]
  refine rest_got (i := 1) (v := ?v2) rfl (by kernel_rfl) (by kernel_rfl) (by kernel_rfl) (fun _ _ _ h => h) (by rfl) ?y2 ?r2
  case y2 => (intro w9q hSwq; clear hSwq; go_simp; with_reducible rfl)
  try simp only [Act.put, List.setIfInBounds_toArray, List.set_cons_zero, List.set_cons_succ]
  refine rest_got (i := 2) (v := ?v3) rfl (by kernel_rfl) (by kernel_rfl) (by kernel_rfl) (fun _ _ _ h => h) (by rfl) ?y3 ?r3
  case y3 => (intro w9q hSwq; clear hSwq; go_simp; with_reducible rfl)
  try simp only [Act.put, List.setIfInBounds_toArray, List.set_cons_zero, List.set_cons_succ]
  refine rest_got (i := 3) (v := ?v4) rfl (by kernel_rfl) (by kernel_rfl) (by kernel_rfl) (fun _ _ _ h => h) (by rfl) ?y4 ?r4
  case y4 => (intro w9q hSwq; clear hSwq; go_simp; with_reducible rfl)
  try simp only [Act.put, List.setIfInBounds_toArray, List.set_cons_zero, List.set_cons_succ]
  refine rest_got (i := 4) (v := ?v5) rfl (by kernel_rfl) (by kernel_rfl) (by kernel_rfl) (fun _ _ _ h => h) (by rfl) ?y5 ?r5
  case y5 => (intro w9q hSwq; clear hSwq; go_simp; with_reducible rfl)
  try simp only [Act.put, List.setIfInBounds_toArray, List.set_cons_zero, List.set_cons_succ]
  refine rest_got (i := 5) (v := ?v6) rfl (by kernel_rfl) (by kernel_rfl) (by kernel_rfl) (fun _ _ _ h => h) (by rfl) ?y6 ?r6
  case y6 => (intro w9q hSwq; clear hSwq; go_simp; with_reducible rfl)
  try simp only [Act.put, List.setIfInBounds_toArray, List.set_cons_zero, List.set_cons_succ]
  refine rest_got (i := 6) (v := ?v7) rfl (by kernel_rfl) (by kernel_rfl) (by kernel_rfl) (fun _ _ _ h => h) (by rfl) ?y7 ?r7
  case y7 => (intro w9q hSwq; clear hSwq; go_simp; with_reducible rfl)
  try simp only [Act.put, List.setIfInBounds_toArray, List.set_cons_zero, List.set_cons_succ]
  refine rest_got (i := 8) (v := ?v8) rfl (by kernel_rfl) (by kernel_rfl) (by kernel_rfl) (fun _ _ _ h => h) (by rfl) ?y8 ?r8
  case y8 => (intro w9q hSwq; clear hSwq; go_simp; with_reducible rfl)
  try simp only [Act.put, List.setIfInBounds_toArray, List.set_cons_zero, List.set_cons_succ]
  refine rest_got (i := 9) (v := ?v9) rfl (by kernel_rfl) (by kernel_rfl) (by kernel_rfl) (fun _ _ _ h => h) (by rfl) ?y9 ?r9
  case y9 => (intro w9q hSwq; clear hSwq; go_simp; with_reducible rfl)
  try simp only [Act.put, List.setIfInBounds_toArray, List.set_cons_zero, List.set_cons_succ]
  refine rest_got (i := 10) (v := ?v10) rfl (by kernel_rfl) (by kernel_rfl) (by kernel_rfl) (fun _ _ _ h => h) (by rfl) ?y10 ?r10
  case y10 => (intro w9q hSwq; clear hSwq; go_simp; with_reducible rfl)
  try simp only [Act.put, List.setIfInBounds_toArray, List.set_cons_zero, List.set_cons_succ]
  refine rest_one (i := 7) (by kernel_rfl) rfl (by rfl) ?_
  go_wp2_with fail
  refine back_to (K1 := [g]) (Mod.refl _ _) (fun _ h _ => h) ?_
  refine rest_got (i := 11) (v := ?v11) rfl (by kernel_rfl) (by kernel_rfl) (by kernel_rfl) (fun _ _ _ h => h) (by rfl) ?y11 ?r11
  case y11 => (intro w9q hSwq; clear hSwq; go_simp; with_reducible rfl)
  try simp only [Act.put, List.setIfInBounds_toArray, List.set_cons_zero, List.set_cons_succ]
  refine rest_got (i := 12) (v := ?v12) rfl (by kernel_rfl) (by kernel_rfl) (by kernel_rfl) (fun _ _ _ h => h) (by rfl) ?y12 ?r12
  case y12 => (intro w9q hSwq; clear hSwq; go_simp; with_reducible rfl)
  try simp only [Act.put, List.setIfInBounds_toArray, List.set_cons_zero, List.set_cons_succ]
  refine rest_one (i := 13) (by kernel_rfl) rfl (by rfl) ?_
  go_wp2_with fail
  have m5 := Mod.setCell (S := [g]) w4 ⟨g, j, none⟩ (.int .u8 (bits .xor .u8 ((x8.toNat : Nat) : Int) (2 ^ r % 256))) (by simp)
  have o5 := O4.out.put j (flip8 x8 r)
  rw [HF.out] at o5
  have O5 := Lib.hid o5
  have hgb : ∀ x, x ∈ blk (some (⟨b, 0, none⟩ : Addr)) → x ∉ [g] := fun x hx => by
    have := Own.lt H.out x hx
    have := G3.out
    simp; omega
  have H5 := Lib.hid (Own.mod H4.out m5 hgb)
  have M5 := Lib.hid (M4.out.only3 m5 (fun i hi => by have := G3.out; simp at hi; omega))
  have Z5 := Lib.hid (m5.get Z4.out (by have := G3.out; simp; omega))
  refine back_to (K1 := []) m5 (by simp) ?_
  clear m5 o5 hgb q0 qf O4 H4 M4 Z4
  refine rest_done (by kernel_rfl) ?_ _
  go_wp2_with fail
  refine (without_any _ c L (-1) _ H5.out hl).mono ?_
  rw [HW.out]
  rintro e w6 ⟨a6, c6, rfl, o6, m6, f6⟩
  have O6 := Lib.hid (O5.out.mod0 m6)
  have M6 := Lib.hid (M5.out.trans' m6)
  have Z6 := Lib.hid (m6.get Z5.out (by simp))
  have cv := str_run3 (c := cp) O6.out.sees
  have hln : (bs.set j (flip8 x8 r)).length = bs.length := by simp
  rw [hln] at cv
  obtain ⟨b6, rfl, -, -, p2, pf⟩ := OwnR.at' o6 hk
  rw [HX.out] at p2
  dsimp only at p2
  unfold strV at p2
  have F6 : Hid (w.heap.size < b6) := by
    have := f6 b6 (by simp [blk])
    have h1 := lt_of_block Z5.out
    show _ < _
    omega
  have HR := Lib.hid (OwnR.set o6 k hk (bs.set j (flip8 x8 r)))
  rw [HX.out] at HR
  have hl6 := World.block_lt_of_cell? w6 _ p2
  have M7 := Lib.hid (M6.out.only3 (Mod.setCell (S := [b6]) w6 ⟨b6, k * 3 + 2, none⟩ (strV (bs.set j (flip8 x8 r))) (by simp)) (fun i hi => by have := F6.out; simp at hi; omega))
  have Z7 := Lib.hid ((Mod.setCell (S := [b6]) w6 ⟨b6, k * 3 + 2, none⟩ (strV (bs.set j (flip8 x8 r))) (by simp)).get Z6.out (by have := F6.out; simp; omega))
  have Z6o := Z6.out
  have z0 := cell_of_block (i := 0) Z6o
  have z1 := cell_of_block (i := 1) Z6o
  have z2 := cell_of_block (i := 2) Z6o
  have y0 := free_of_block (i := 0) Z6o
  have y1 := free_of_block (i := 1) Z6o
  have y2 := free_of_block (i := 2) Z6o
  have hne : ¬ b6 = w.heap.size := by have := F6.out; omega
  have hne2 : ¬ w.heap.size = b6 := by have := F6.out; omega
  dsimp only at HR
  obtain ⟨bs2, hbs2⟩ : ∃ x, bs.set j (flip8 x8 r) = x := ⟨_, rfl⟩
  rw [hbs2] at cv HR M7 Z7 hln
  have HB2 := Lib.hid hbs2
  unfold strV at cv HR M7 Z7
  clear o6 m6 f6 O6 O5 H5 Z5 M5 Z6o hbs2
  go_wp2
  ((try simp only [Exit.inBlock, Exit.then]); refine bodyPost_ret (by simp [results, Try.results31, go_sem, *]; try rfl) rfl ?_)
  rw [HB2.out]
  have m8 := three_mod (w6.setCell ⟨b6, k * 3 + 2, none⟩ (.string ⟨bs2.toArray⟩)) w.heap.size (.int .i64 0) (.int .i64 0) (.string ⟨#[]⟩)
  exact ⟨_, _, rfl, Own.mod HR.out m8 (fun i hi => by have := F6.out; simp [blk] at hi; simp; omega), M7.out.only3 m8 (fun i hi => by simp at hi; omega), fun i hi => by have := F6.out; simp [blk] at hi; omega⟩
end Go.Proofs.Ytihhbphlhckakaa
