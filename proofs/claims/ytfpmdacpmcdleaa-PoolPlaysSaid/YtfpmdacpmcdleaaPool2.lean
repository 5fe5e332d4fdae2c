/- The walks of the pool package: Free, Get. -/
import Derived.Test.YtfpmdacpmcdleaaPool
import Derived.Handy
namespace Go.Proofs.Ytfpmdacpmcdleaa
open Go Go.RowKit Go.Lib

set_option maxRecDepth 100000 in
theorem free_nil (w : World) : Calls Try.prog 10 #[.pointer none] w fun e w' => e = .returned (.int .i64 0) ∧ w' = w := by
  go_enter Try.func10, Try.ntmps10
  go_wp2
  go_ret
  exact ⟨rfl, rfl⟩
set_option maxRecDepth 100000 in
theorem free_any (g : Nat) (la : Option Addr) (lc : Nat) (fa : Option Addr) (fc ab sz : Nat) (bufs : List Bf) (fr : List Nat) (arr : List UInt8) (w : World) (h : PoolF w g la lc fa fc ab sz bufs fr arr) :
    Calls Try.prog 10 #[.pointer (some ⟨g, 0, none⟩)] w fun e w' => e = .returned (.int .i64 (fr.length : Int)) ∧ w' = w := by
  have c1 := cell_of_block (i := 1) h.1
  clear h
  go_enter Try.func10, Try.ntmps10
  go_wp2
  go_ret
  exact ⟨rfl, rfl⟩
set_option maxRecDepth 100000 in
theorem get_nil (w : World) : Calls Try.prog 6 #[.pointer none] w fun e w' => e = .returned (.tuple #[.agg #[.int .i64 0, .int .u32 0], .int .i64 2]) ∧ Mod [] w w' := by
  go_enter Try.func6, Try.ntmps6
  go_wp2
  ((try simp only [Exit.inBlock, Exit.then]); refine bodyPost_ret (by simp [results, Try.results6, go_sem, *]; try rfl) rfl ?_)
  exact ⟨rfl, Mod.alloc [] w _⟩
set_option maxRecDepth 100000 in
theorem get_full (g : Nat) (la : Option Addr) (lc : Nat) (fa : Option Addr) (fc ab sz : Nat) (bufs : List Bf) (arr : List UInt8) (w : World) (h : PoolF w g la lc fa fc ab sz bufs [] arr) :
    Calls Try.prog 6 #[.pointer (some ⟨g, 0, none⟩)] w fun e w' => e = .returned (.tuple #[.agg #[.int .i64 0, .int .u32 0], .int .i64 30]) ∧ Mod [] w w' := by
  have c1 := cell_of_block (i := 1) h.1
  have hlt := lt_of_block h.1
  clear h
  go_enter Try.func6, Try.ntmps6
  go_wp2
  ((try simp only [Exit.inBlock, Exit.then]); refine bodyPost_ret (by simp [results, Try.results6, go_sem, *]; try rfl) rfl ?_)
  exact ⟨rfl, Mod.alloc [] w _⟩

set_option maxRecDepth 100000 in
set_option maxHeartbeats 4000000 in
theorem get_ok (g : Nat) (la : Option Addr) (lc : Nat) (fa : Option Addr) (fc ab sz : Nat) (bufs : List Bf) (fr : List Nat) (i : Nat) (arr : List UInt8) (w : World) (h : PoolF w g la lc fa fc ab sz bufs (fr ++ [i]) arr) (hi : i < bufs.length) :
    Calls Try.prog 6 #[.pointer (some ⟨g, 0, none⟩)] w fun e w' => e = .returned (.tuple #[.agg #[.int .i64 (i : Int), .int .u32 (IntKind.u32.wrap (bufs[i].2.2.1 + 1))], .int .i64 0]) ∧
      PoolF w' g la lc fa fc ab sz (bufs.set i (bufs[i].1, 0, IntKind.u32.wrap (bufs[i].2.2.1 + 1), true)) fr arr ∧ Mod (g :: blk la) w w' := by
  obtain ⟨m, hm⟩ : ∃ m, fr.length = m := ⟨_, rfl⟩
  have hlen : (fr ++ [i]).length = m + 1 := by simp [hm]
  have hcl := Own.le h.2.2.1
  have hcm := Own.cap_le h.2.2.1
  unfold maxLen at hcm
  rw [hlen] at hcl
  have hwm : IntKind.i64.wrap (m : Int) = (m : Int) := IntWalk.i64_in _ (by omega)
  have hw1 : IntKind.i64.wrap ((m : Int) + 1 - 1) = (m : Int) := by rw [show (m : Int) + 1 - 1 = (m : Int) by omega]; exact hwm
  obtain ⟨fb, rfl, r0⟩ := h.2.2.1.at' (j := m) (by omega)
  have hgi : (fr ++ [i])[m]'(by omega) = i := by subst hm; simp
  rw [hgi] at r0
  obtain ⟨b, rfl, p0, p1, p2, p3, q1, q2, q3⟩ := OwnBf.at' h.2.1 hi
  have c0 := cell_of_block (i := 0) h.1
  have c1 := cell_of_block (i := 1) h.1
  have y1 := free_of_block (i := 1) h.1
  rw [hlen] at c1
  have hnd := h.2.2.2.2
  simp [blk] at hnd
  have hgb : g ≠ b := hnd.1.1
  have hgf : g ≠ fb := hnd.1.2.1
  have hlg := lt_of_block h.1
  have hlb := Own.lt h.2.1 b (by simp [blk])
  have hlf := Own.lt h.2.2.1 fb (by simp [blk])
  obtain ⟨of, us, ge, le, hx⟩ : ∃ of us ge le, bufs[i] = (of, us, ge, le) := ⟨_, _, _, _, rfl⟩
  rw [hx] at p0 p1 p2 p3
  dsimp only at p0 p1 p2 p3
  have HX := Lib.hid hx
  have H := Lib.hid h
  have HH := Lib.hid hlen
  have HM := Lib.hid hm
  clear h hx hgi hlen hm hnd
  rw [HX.out]
  dsimp only
  have hcc : m ≤ fc := by omega
  have hki : (m : Int) < (m : Int) + 1 := by omega
  have hkn : m < m + 1 := by omega
  have hci : (m : Int) ≤ (fc : Int) := by omega
  have ma := Mod.alloc [] w (.cells #[.int .i64 0, .int .u32 0] 29)
  have MA := Lib.hid ma
  clear ma
  go_enter Try.func6, Try.ntmps6
  go_upto_region 5 with (fail)
  refine rest_start [] 13 #[false, false, false, false, false, false, false, false, false, false, false, false, false] rfl (by kernel_rfl) (by kernel_rfl) ?_
  intro w1 m1
  have c0 := m1.cell (MA.out.cell c0 (by simp)) (by simp)
  have c1 := m1.cell (MA.out.cell c1 (by simp)) (by simp)
  have r0 := m1.cell (MA.out.cell r0 (by simp)) (by simp)
  have M1 := Lib.hid (MA.out.trans' m1)
  have H1 := Lib.hid (H.out.mod0 M1.out)
  have R1 := Lib.hid (m1.get (heap_alloc_new w (.cells #[.int .i64 0, .int .u32 0] 29)) (by simp))
  have y1 := free_of_block (i := 1) H1.out.1
  clear m1 p0 p1 p2 p3 q1 q2 q3
  refine rest_got (i := 0) (v := ?v1) rfl (by kernel_rfl) (by kernel_rfl) (by kernel_rfl) (fun _ _ _ h => h) (by rfl) ?y1 ?r1
  case y1 => (intro w9q hSwq; clear hSwq; go_simp; with_reducible rfl)
  try simp only [Act.put, List.setIfInBounds_toArray, List.set_cons_zero, List.set_cons_succ]
  refine rest_got (i := 1) (v := ?v2) rfl (by kernel_rfl) (by kernel_rfl) (by kernel_rfl) (fun _ _ _ h => h) (by rfl) ?y2 ?r2
  case y2 => (intro w9q hSwq; clear hSwq; go_simp; with_reducible rfl)
  try simp only [Act.put, List.setIfInBounds_toArray, List.set_cons_zero, List.set_cons_succ]
  refine rest_got (i := 2) (v := ?v3) rfl (by kernel_rfl) (by kernel_rfl) (by kernel_rfl) (fun _ _ _ h => h) (by rfl) ?y3 ?r3
  case y3 => (intro w9q hSwq; clear hSwq; go_simp; with_reducible rfl)
  try simp only [Act.put, List.setIfInBounds_toArray, List.set_cons_zero, List.set_cons_succ]
  refine rest_got (i := 3) (v := ?v4) rfl (by kernel_rfl) (by kernel_rfl) (by kernel_rfl) (fun _ _ _ h => h) (by rfl) ?y4 ?r4
  case y4 => ((intro w9' hm9'; have hc9' := Mod.cell hm9' c1 (by first | exact List.not_mem_nil | (simp; done) | (simp; omega)); clear hm9'; go_simp; with_reducible rfl))
  try simp only [Act.put, List.setIfInBounds_toArray, List.set_cons_zero, List.set_cons_succ]
  refine rest_got (i := 4) (v := ?v5) rfl (by kernel_rfl) (by kernel_rfl) (by kernel_rfl) (fun _ _ _ h => h) (by rfl) ?y5 ?r5
  case y5 => (intro w9q hSwq; clear hSwq; go_simp; with_reducible rfl)
  try simp only [Act.put, List.setIfInBounds_toArray, List.set_cons_zero, List.set_cons_succ]
  refine rest_got (i := 5) (v := ?v6) rfl (by kernel_rfl) (by kernel_rfl) (by kernel_rfl) (fun _ _ _ h => h) (by rfl) ?y6 ?r6
  case y6 => (intro w9q hSwq; clear hSwq; go_simp; with_reducible rfl)
  try simp only [Act.put, List.setIfInBounds_toArray, List.set_cons_zero, List.set_cons_succ]
  refine rest_got (i := 6) (v := ?v7) rfl (by kernel_rfl) (by kernel_rfl) (by kernel_rfl) (fun _ _ _ h => h) (by rfl) ?y7 ?r7
  case y7 => (intro w9q hSwq; clear hSwq; go_simp; with_reducible rfl)
  try simp only [Act.put, List.setIfInBounds_toArray, List.set_cons_zero, List.set_cons_succ]
  refine rest_got (i := 7) (v := ?v8) rfl (by kernel_rfl) (by kernel_rfl) (by kernel_rfl) (fun _ _ _ h => h) (by rfl) ?y8 ?r8
  case y8 => ((intro w9' hm9'; have hc9' := Mod.cell hm9' c1 (by first | exact List.not_mem_nil | (simp; done) | (simp; omega)); clear hm9'; go_simp; with_reducible rfl))
  try simp only [Act.put, List.setIfInBounds_toArray, List.set_cons_zero, List.set_cons_succ]
  refine rest_got (i := 8) (v := ?v9) rfl (by kernel_rfl) (by kernel_rfl) (by kernel_rfl) (fun _ _ _ h => h) (by rfl) ?y9 ?r9
  case y9 => (intro w9q hSwq; clear hSwq; go_simp; with_reducible rfl)
  try simp only [Act.put, List.setIfInBounds_toArray, List.set_cons_zero, List.set_cons_succ]
  refine rest_got (i := 9) (v := ?v10) rfl (by kernel_rfl) (by kernel_rfl) (by kernel_rfl) (fun _ _ _ h => h) (by rfl) ?y10 ?r10
  case y10 => (intro w9q hSwq; clear hSwq; go_simp; with_reducible rfl)
  try simp only [Act.put, List.setIfInBounds_toArray, List.set_cons_zero, List.set_cons_succ]
  refine rest_got (i := 10) (v := ?v11) rfl (by kernel_rfl) (by kernel_rfl) (by kernel_rfl) (fun _ _ _ h => h) (by rfl) ?y11 ?r11
  case y11 => (intro w9q hSwq; clear hSwq; go_simp; with_reducible rfl)
  try simp only [Act.put, List.setIfInBounds_toArray, List.set_cons_zero, List.set_cons_succ]
  refine rest_got (i := 11) (v := ?v12) rfl (by kernel_rfl) (by kernel_rfl) (by kernel_rfl) (fun _ _ _ h => h) (by rfl) ?y12 ?r12
  case y12 => ((intro w9' hm9'; have hc9' := Mod.cell hm9' r0 (by first | exact List.not_mem_nil | (simp; done) | (simp; omega)); clear hm9'; go_simp; with_reducible rfl))
  try simp only [Act.put, List.setIfInBounds_toArray, List.set_cons_zero, List.set_cons_succ]
  refine rest_got (i := 12) (v := ?v13) rfl (by kernel_rfl) (by kernel_rfl) (by kernel_rfl) (fun _ _ _ h => h) (by rfl) ?y13 ?r13
  case y13 => (intro w9q hSwq; clear hSwq; go_simp; with_reducible rfl)
  try simp only [Act.put, List.setIfInBounds_toArray, List.set_cons_zero, List.set_cons_succ]
  refine rest_done (by kernel_rfl) ?_ _
  go_upto_region 6 with (fail)
  go_region
  have m2 : Mod [g] w1 ((w1.setCell ⟨g, 1, none⟩ (.slice (some ⟨fb, 0, none⟩) m fc)).drew) := (Mod.setCell _ _ _ (by simp)).trans' (Mod.drew _ _)
  have G2 : ((w1.setCell ⟨g, 1, none⟩ (.slice (some ⟨fb, 0, none⟩) m fc)).drew).heap[g]? = some (.cells #[.slice (some ⟨b, 0, none⟩) bufs.length lc, .slice (some ⟨fb, 0, none⟩) m fc] 57 (0, 0)) := by
    show (w1.setCell ⟨g, 1, none⟩ (.slice (some ⟨fb, 0, none⟩) m fc)).heap[g]? = _
    rw [heap_setCell_same H1.out.1 _]
    rfl
  generalize (w1.setCell ⟨g, 1, none⟩ (.slice (some ⟨fb, 0, none⟩) m fc)).drew = w2 at m2 G2 ⊢
  have hnd := H1.out.2.2.2.2
  simp [blk] at hnd
  have hag : ab ≠ g := fun h => hnd.1.2.2 h.symm
  have hab : ab ≠ b := fun h => hnd.2.1.2 h.symm
  have hfb : fb ≠ b := fun h => hnd.2.1.1 h.symm
  have hla : ab < w.heap.size := H.out.lt ab (by simp)
  have B2 : Hid (OwnBf w2 ab sz (some ⟨b, 0, none⟩) lc bufs) := Own.mod H1.out.2.1 m2 (fun j hj => by simp [blk] at hj; subst hj; simp; exact Ne.symm hgb)
  have I2 : Hid (OwnI w2 (some ⟨fb, 0, none⟩) fc fr) := by
    have h1 := OwnI.front H1.out.2.2.1 m (by rw [HH.out]; omega)
    have h2 : (fr ++ [i]).take m = fr := by rw [← HM.out]; simp
    rw [h2] at h1
    exact Own.mod h1 m2 (fun j hj => by simp [blk] at hj; subst hj; simp; exact Ne.symm hgf)
  have A2 : Hid (OwnB w2 (some ⟨ab, 0, none⟩) arr.length arr) := H1.out.2.2.2.1.mod m2 (fun j hj => by simp [blk] at hj; subst hj; simp; exact hag)
  have R2 := Lib.hid (m2.get R1.out (by simp; omega))
  have M2 : Hid (Mod [g] w w2) := M1.out.nil.trans' m2
  have G2h := Lib.hid G2
  have ND := Lib.hid H1.out.2.2.2.2
  obtain ⟨b', hbb, p0, p1, p2, p3, q1, q2, q3⟩ := OwnBf.at' B2.out hi
  cases hbb
  rw [HX.out] at p0 p1 p2 p3
  dsimp only at p0 p1 p2 p3
  have c0 := cell_of_block (i := 0) G2
  have y0 := free_of_block (i := 0) R2.out
  have y1 := free_of_block (i := 1) R2.out
  have x0 := cell_of_block (i := 0) R2.out
  have x1 := cell_of_block (i := 1) R2.out
  have hl2 := lt_of_block R2.out
  clear m2 G2 hnd r0 c1 R1 H1 M1
  have hnb : ¬ b = w.heap.size := by omega
  have hnb2 : ¬ w.heap.size = b := by omega
  go_wp2
  ((try simp only [Exit.inBlock, Exit.then]); refine bodyPost_ret (by simp [results, Try.results6, go_sem, *]; try rfl) rfl ?_)
  have B3 := OwnBf.setAll B2.out i hi 0 (IntKind.u32.wrap (ge + 1)) true
  rw [HX.out] at B3
  dsimp only at B3
  have m3 : Mod [b] w2 (((w2.setCell ⟨b, i * 4 + 1, none⟩ (.int .i64 ((0 : Nat) : Int))).setCell ⟨b, i * 4 + 2, none⟩ (.int .u32 (IntKind.u32.wrap (ge + 1)))).setCell ⟨b, i * 4 + 3, none⟩ (.bool true)) :=
    ((Mod.setCell _ _ _ (by simp)).trans' (Mod.setCell _ _ _ (by simp))).trans' (Mod.setCell _ _ _ (by simp))
  have m4 := two_mod (((w2.setCell ⟨b, i * 4 + 1, none⟩ (.int .i64 ((0 : Nat) : Int))).setCell ⟨b, i * 4 + 2, none⟩ (.int .u32 (IntKind.u32.wrap (ge + 1)))).setCell ⟨b, i * 4 + 3, none⟩ (.bool true)) w.heap.size (.int .i64 (i : Int)) (.int .u32 (IntKind.u32.wrap (ge + 1)))
  have hlen' := HM.out
  refine ⟨rfl, ⟨?_, Own.mod B3 m4 (fun j hj => by simp [blk] at hj; subst hj; simp; omega), Own.mod (Own.mod I2.out m3 (fun j hj => by simp [blk] at hj; subst hj; simp; exact hfb)) m4 (fun j hj => by simp [blk] at hj; subst hj; simp; omega),
    (A2.out.mod m3 (fun j hj => by simp [blk] at hj; subst hj; simp; exact hab)).mod m4 (fun j hj => by simp [blk] at hj; subst hj; simp; omega), ND.out⟩, ?_⟩
  · rw [List.length_set, hlen']
    exact m4.get (m3.get G2h.out (by simp; exact hgb)) (by simp; omega)
  · exact ((M2.out.weaken (fun j hj => by simp at hj; simp [hj])).trans m3 (fun j hj _ => by simp at hj; simp [hj, blk])).trans m4 (fun j hj hl => by simp at hj; omega)
end Go.Proofs.Ytfpmdacpmcdleaa
