/- The walk of the law BatcherOwn. -/
import Derived.Test.YtigamomoegpefaaDoorHBatOwn1
import Derived.BigQuiet
import Derived.Deep.CutRange
namespace Go.Proofs.YtigamomoegpefaaDoor
open Go Go.RowKit Go.Lib

set_option maxRecDepth 100000 in
set_option maxHeartbeats 8000000 in
theorem batcherOwn_any (key : ByteArray) (n : Nat) (w : World) (hn : n < 256) (hsz : key.size ≤ 9223372036854775807) (ht : Cnt w) :
    Calls Tryd.prog 7 #[.string key, .int .u8 (n : Int)] w fun e w' => e = .returned (.bool true) ∧ Mod [] w w' := by
  have HT := Lib.hid ht
  clear ht
  by_cases hk : KeyOk key
  case neg =>
    have HWK := Lib.hid (wakes19_any w HT.out)
    have hq : decide ((key.size : Int) < 1) = true ∨ (decide ((key.size : Int) < 1) = false ∧ decide ((32 : Int) < (key.size : Int)) = true) := by
      simp only [decide_eq_true_eq, decide_eq_false_iff_not]
      unfold KeyOk at hk
      omega
    clear hk
    go_enter Tryd.func7, Tryd.ntmps7
    rcases hq with D1 | ⟨D1, D2⟩
    all_goals
      go_wp2_with fail
      refine HWK.out.mono ?_
      rintro e w3 ⟨rfl, m3⟩
      have M3 := Lib.hid m3
      clear m3
      go_wp2_with fail
      go_ret
      exact ⟨rfl, M3.out⟩
  have D1 : decide ((key.size : Int) < 1) = false := decide_eq_false (by have := hk.1; omega)
  have D2 : decide ((32 : Int) < (key.size : Int)) = false := decide_eq_false (by have := hk.2; omega)
  have HKO := Lib.hid hk
  have HN := Lib.hid (bnew_ok 0 0 8 8 0 w (by decide))
  obtain ⟨q, hq, hq7⟩ : ∃ q : Nat, (n : Int).tmod 8 = (q : Int) ∧ q ≤ 7 := ⟨n % 8, by rw [Int.tmod_eq_emod_of_nonneg (by omega)]; omega, by omega⟩
  have HQ := Lib.hid hq
  clear hk hq
  go_enter Tryd.func7, Tryd.ntmps7
  go_wp2_with fail
  refine HN.out.mono ?_
  rintro e w3 ⟨b, F, rfl, b3, m3, n3⟩
  have S3 : Hid (OwB w w3 b F 0 none 0 [] (rO key 0)) := Lib.hid (OwB.new b3 m3 n3)
  clear b3 m3 n3 HN D1 D2
  go_wp2_with fail
  go_loopw [7, 8] (fun s7 s8 wr => ∃ (j : Nat) (F' : List Nat) (ao : Option Addr) (cap : Nat) (ins : List Cm) (ord : Int),
    s7 = .slice ao j cap ∧ s8 = .int .i64 (j : Int) ∧ j ≤ q + 1 ∧ ins.length = j ∧ ins.map Prod.fst = cds key j ∧ OwB w wr b F' ord ao cap ins (rO key j) ∧ 0 ≤ ord ∧ ord ≤ (j : Int)) (fun _ s8 _ => q + 1 - (intOf s8).toNat)
  case atStart => exact ⟨0, F, none, 0, [], 0, rfl, rfl, by omega, rfl, rfl, S3.out, by omega, by omega⟩
  case round =>
    obtain ⟨j, F', ao, cap, ins, ord, rfl, rfl, hj, hil, him, hp, o1, o2⟩ := hrel
    have P := Lib.hid hp
    have HIL := Lib.hid hil
    have HIM := Lib.hid him
    clear hp hil him S3
    rename World => wr
    by_cases hjq : j ≤ q
    · have hjq2 : (j : Int) ≤ (q : Int) := by omega
      obtain ⟨j1, hj1⟩ : ∃ j1, j + 1 = j1 := ⟨_, rfl⟩
      have hc1 : (j : Int) + 1 = (j1 : Int) := by omega
      have hjb : j1 ≤ 8 := by omega
      have HJ1 := Lib.hid hj1
      have HP := Lib.hid (put19_any j1 key wr)
      have hqq := HQ.out
      clear hj1
      go_wp2_with fail
      refine HP.out.mono ?_
      rintro e w4 ⟨kx, rfl, x4, nx, m4⟩
      have P4 := Lib.hid (P.out.still m4)
      have HX4 := Lib.hid x4
      have SX4 : Hid (kx < w4.heap.size ∧ wr.heap.size ≤ kx ∧ w.heap.size ≤ wr.heap.size) := Lib.hid ⟨lt_of_block x4, nx, P.out.mod.size⟩
      have HFL : Hid (∀ k, k ∈ F' → k < wr.heap.size) := Lib.hid P.out.bat.lt
      have HBL : Hid (∀ k, k ∈ blk ao → k < wr.heap.size) := Lib.hid (Own.lt P.out.own)
      have HCL : Hid (∀ c ∈ ins, ∀ k, k ∈ blk c.2.1 → k < wr.heap.size) := Lib.hid (fun c hc k hk => ((P.out.each c hc).2.2 k hk).2.1)
      clear x4 nx m4 HP P hqq
      unfold cmdV getC
      dsimp only
      go_upto_region 11 with (fail)
      obtain ⟨w5, hw5, A5, m5⟩ : ∃ x, w4.alloc (.cells #[.int .u32 (j1 : Int), .int .u32 1, .int .u8 2, .slice (some ⟨kx, 0, none⟩) 1 1, .string ⟨#[]⟩, .string ⟨#[]⟩, .int .i64 0] 36) = x ∧ CmdAt x w4.heap.size (getC j1 key, some ⟨kx, 0, none⟩, 1) ∧ Mod [] w4 x := ⟨_, rfl, box_at (getC j1 key, some ⟨kx, 0, none⟩, 1) w4, Mod.alloc _ _ _⟩
      rw [hw5]
      obtain ⟨x0, x1, x2, x3, x4, x5, x6⟩ : w5.cell? ⟨w4.heap.size, 0, none⟩ = some (.int .u32 (j1 : Int)) ∧ w5.cell? ⟨w4.heap.size, 1, none⟩ = some (.int .u32 1) ∧ w5.cell? ⟨w4.heap.size, 2, none⟩ = some (.int .u8 2) ∧ w5.cell? ⟨w4.heap.size, 3, none⟩ = some (.slice (some ⟨kx, 0, none⟩) 1 1) ∧
        w5.cell? ⟨w4.heap.size, 4, none⟩ = some (.string ⟨#[]⟩) ∧ w5.cell? ⟨w4.heap.size, 5, none⟩ = some (.string ⟨#[]⟩) ∧ w5.cell? ⟨w4.heap.size, 6, none⟩ = some (.int .i64 0) := A5
      have P5 := Lib.hid (P4.out.still m5)
      have HX5 := Lib.hid (m5.get HX4.out List.not_mem_nil)
      have SX5 : Hid (w4.heap.size ≤ w5.heap.size) := Lib.hid m5.size
      obtain ⟨bx, hbx⟩ : ∃ x, w4.heap.size = x := ⟨_, rfl⟩
      have SB : Hid (wr.heap.size ≤ bx ∧ kx < bx) := Lib.hid (by have := SX4.out; have : wr.heap.size ≤ kx := this.2.1; omega)
      rw [hbx] at x0 x1 x2 x3 x4 x5 x6
      rw [hbx]
      have X3 := Lib.hid x3
      have HPE : Hid (putE 8 (rO key j) (getC j1 key) 0 = 0 ∧ putL 8 0 (rO key j) (getC j1 key) 0 = rO key j1) := Lib.hid (by
        rw [← HJ1.out]
        have hj8 : j ≤ 8 := by omega
        exact ⟨putE_own HKO.out hj8, putL_own HKO.out hj8⟩)
      have hj32 : j1 < 4294967296 := by omega
      have HWF : Hid (Wf (getC j1 key)) := Lib.hid (getC_wf hj32 hsz)
      have HC : Hid (Calls Tryd.prog 14 #[.pointer (some ⟨b, 0, none⟩), cmdV (getC j1 key, some ⟨kx, 0, none⟩, 1), .int .i64 0] w5 (PutW w5 b F' 8 8 0 ord (rO key j) (getC j1 key) 0)) := Lib.hid (bput_any b F' 8 8 0 ord (rO key j) (getC j1 key, some ⟨kx, 0, none⟩, 1) 0 w5 P5.out.bat (by omega) (by omega) (by omega) HWF.out (seesT_one HX5.out) (fun _ k hk hf => by
        simp only [blk, List.mem_cons, List.not_mem_nil, or_false] at hk
        subst hk
        have := HFL.out k hf
        have := SX4.out
        omega) (HT.out.mod0 P5.out.mod))
      clear hw5 m5 hbx P4 HX4 hj32
      go_wp2_with fail
      refine HC.out.mono ?_
      rintro e w6 ⟨he, ord6, oa6, ob6, F6, mv1, mv2, mv3⟩
      rw [HPE.out.1] at he
      rw [HPE.out.2] at mv1
      subst he
      have hkF : kx ∉ F' := fun h => by have := HFL.out kx h; have := SX4.out; omega
      have hbF : bx ∉ F' := fun h => by have := HFL.out bx h; have := SB.out; omega
      have P6 := Lib.hid (P5.out.batE mv1 mv2 mv3)
      have HX6 := Lib.hid (mv2.get HX5.out hkF)
      have X36 := Lib.hid (mv2.cell X3.out hbF)
      have S6 : Hid (w5.heap.size ≤ w6.heap.size) := Lib.hid mv2.size
      have HF6 : Hid (∀ k, k ∈ F6 → k < w6.heap.size) := Lib.hid mv1.lt
      have HF6x : Hid (kx ∉ F6 ∧ kx < w5.heap.size) := Lib.hid (by
        have h5 : kx < w5.heap.size := by have := SX4.out; have := SX5.out; omega
        exact ⟨fun h => by
          rcases mv3 kx h with h | h
          · exact hkF h
          · omega, h5⟩)
      clear mv1 mv2 mv3 HC P5 HX5 X3 x0 x1 x2 x3 x4 x5 x6 hkF hbF HPE
      have HP := Lib.hid (put19_any j1 key w6)
      go_wp2_with fail
      refine HP.out.mono ?_
      rintro e w7 ⟨ky, rfl, y7, ny, m7⟩
      have hb8 := heap_alloc_new w7 (.cells #[.int .u32 (j1 : Int), .int .u32 1, .int .u8 2, .slice (some ⟨ky, 0, none⟩) 1 1, .string ⟨#[]⟩, .string ⟨#[]⟩, .int .i64 0] 36)
      have m8 := Mod.alloc [] w7 (.cells #[.int .u32 (j1 : Int), .int .u32 1, .int .u8 2, .slice (some ⟨ky, 0, none⟩) 1 1, .string ⟨#[]⟩, .string ⟨#[]⟩, .int .i64 0] 36)
      have HSH := Lib.hid (showsC (x := (getC j1 key, some ⟨ky, 0, none⟩, 1)) hb8)
      have P8 := Lib.hid (P6.out.still (m7.trans' m8))
      have HX8 := Lib.hid ((m7.trans' m8).get HX6.out List.not_mem_nil)
      have X38 := Lib.hid ((m7.trans' m8).cell X36.out List.not_mem_nil)
      have HY8 := Lib.hid (m8.get y7 List.not_mem_nil)
      have SY : Hid (w6.heap.size ≤ ky ∧ ky < w7.heap.size) := Lib.hid ⟨ny, lt_of_block y7⟩
      have S8 : Hid _ := Lib.hid m8.size
      have hol6 : j + 1 ≤ 1000000 := by omega
      clear hb8 m8 m7 y7 ny HP P6 HX6 X36
      unfold cmdV getC
      dsimp only
      go_wp2_with (first | (at_builtin; refine wpl_appC (dst := some 55) _ _ ao j cap ins rfl HIL.out P8.out.own _ (getC j1 key, some ⟨ky, 0, none⟩, 1) rfl HSH.out hol6 ?_) | fail)
      intro ao9 c9 w9 o9 m9 n9
      have P9 := Lib.hid (P8.out.push o9 m9 n9 ⟨seesT_one HY8.out, HWF.out, fun k hk => by
        simp only [blk, List.mem_cons, List.not_mem_nil, or_false] at hk
        subst hk
        have h1 := SY.out
        have h2 := S8.out
        have h3 := S6.out
        have h4 := SX5.out
        have h5 := SX4.out
        exact ⟨by omega, by omega, fun hf => by have := HF6.out _ hf; omega, fun hf => by have := HBL.out _ hf; omega⟩⟩)
      have hkb : kx ∉ blk ao := fun h => by have := HBL.out kx h; have := SX4.out; omega
      have hbb : bx ∉ blk ao := fun h => by have := HBL.out bx h; have := SB.out; omega
      have HX9 := m9.get HX8.out hkb
      have X39 := m9.cell X38.out hbb
      have c0 := cell_of_block (i := 0) HX9
      have f0 := free_of_block (i := 0) HX9
      have P10 : Hid (OwB w (w9.setCell ⟨kx, 0, none⟩ (.string ⟨#[115, 112, 111, 105, 108, 116]⟩)) b F6 ord6 ao9 c9 (ins ++ [(getC j1 key, some ⟨ky, 0, none⟩, 1)]) (rO key j1)) := Lib.hid (P9.out.off (S := [kx]) (Mod.setCell w9 _ _ (by simp)) (fun k hk => by
        simp only [List.mem_singleton] at hk
        subst hk
        have h1 := SY.out
        have h3 := S6.out
        have h4 := SX5.out
        have h5 := SX4.out
        have h6 := HF6x.out.2
        refine ⟨by omega, HF6x.out.1, fun hb => ?_, fun c hc hb => ?_⟩
        · rcases n9.blk _ hb with h7 | h7
          · exact hkb h7
          · have := S8.out; omega
        · rcases List.mem_append.1 hc with hc | hc
          · have := HCL.out c hc _ hb; omega
          · simp only [List.mem_singleton] at hc
            subst hc
            simp only [blk, List.mem_cons, List.not_mem_nil, or_false] at hb
            omega))
      clear HX9 o9 m9 n9 hkb hbb P9 P8
      go_wp2_with fail
      have hjj := HJ1.out
      subst hjj
      go_roundw
      case rel => exact ⟨j + 1, F6, ao9, c9, ins ++ [(getC (j + 1) key, some ⟨ky, 0, none⟩, 1)], ord6, rfl, rfl, by omega, by rw [List.length_append, HIL.out]; rfl, by rw [List.map_append, HIM.out, cds_succ]; rfl, P10.out, by omega, by omega⟩
      case measure => simp [intOf]; omega
    have hje : j = q + 1 := by omega
    have hj8 : j ≤ 8 := by omega
    have hjq2 : ¬ ((j : Int) ≤ (q : Int)) := by omega
    have HJE := Lib.hid hje
    have HFL := Lib.hid (bflush_any b F' 8 8 0 ord (rO key j) wr P.out.bat)
    have hqq := HQ.out
    clear hje hjq hj
    go_wp2_with fail
    clear hqq hjq2
    refine HFL.out.mono ?_
    rintro e w5 ⟨ao5, cap5, out, F5, he, h1, b5, m5, n5, o5⟩
    rw [take_own key hj8] at h1 b5
    dsimp only at h1 b5
    have hol : out.length = j := by
      have h2 := congrArg List.length h1
      rw [List.length_map, cds_length] at h2
      exact h2
    rw [hol] at he
    subst he
    have P5 : Hid (OwB w w5 b F5 ord ao cap ins (rO key 0)) := Lib.hid (P.out.batE b5 m5 n5)
    have L5 := Lib.hid (OwL.new o5 h1)
    have HB : Hid ((∀ k, k ∈ blk ao → k < wr.heap.size) ∧ (∀ c ∈ ins, ∀ k, k ∈ blk c.2.1 → k < wr.heap.size) ∧ w.heap.size ≤ wr.heap.size) := Lib.hid ⟨Own.lt P.out.own, fun c hc k hk => ((P.out.each c hc).2.2 k hk).2.1, P.out.mod.size⟩
    have HAL := all_any ao5 j cap5 out ao j cap ins w5 hol HIL.out (by omega) (by omega) o5.sees P5.out.sees
    rw [decide_eq_true (show out.map Prod.fst = ins.map Prod.fst by rw [h1, HIM.out])] at HAL
    have HA := Lib.hid HAL
    have HO := Lib.hid h1
    have HOL := Lib.hid hol
    clear HAL h1 b5 m5 n5 o5 hol HFL P
    go_wp2_with fail
    refine HA.out.mono ?_
    rintro e w6 ⟨rfl, m6⟩
    have P6 := Lib.hid (P5.out.still m6)
    have L6 := Lib.hid (L5.out.still m6)
    clear m6 P5 L5 HA
    go_wp2_with fail
    go_loopw [11] (fun s11 wz => ∃ (i : Nat) (F7 : List Nat) (ord7 : Int),
      s11 = .int .i64 (i : Int) ∧ i ≤ j ∧ OwB w wz b F7 ord7 ao cap ins (rO key i) ∧ OwL wr.heap.size wz F7 ao5 cap5 out ∧ 0 ≤ ord7 ∧ ord7 ≤ (j : Int) + (i : Int)) (fun s11 _ => j - (intOf s11).toNat)
    case atStart => exact ⟨0, F5, ord, rfl, by omega, P6.out, L6.out, by omega, by omega⟩
    case round =>
      obtain ⟨i, F7, ord7, rfl, hi, hp, hl, o3, o4⟩ := hrel
      have P7 := Lib.hid hp
      have L7 := Lib.hid hl
      clear hp hl P6 L6
      rename World => wz
      by_cases hij : i < j
      · have hio : i < out.length := by rw [HOL.out]; exact hij
        have hii : i < ins.length := by rw [HIL.out]; exact hij
        have hij2 : (i : Int) < (j : Int) := by omega
        obtain ⟨i1, hi1⟩ : ∃ i1, i + 1 = i1 := ⟨_, rfl⟩
        have hc1 := cds_of HO.out hio
        have hc2 := cds_of HIM.out hii
        rw [hi1] at hc1 hc2
        obtain ⟨g5, rfl, hrow⟩ := OwnC.at' L7.out.own hio
        have d3 := hrow 3 _ (by omega) rfl
        obtain ⟨g, l, a1, a2, a3, a4, a5, a6⟩ := L7.out.each _ (List.getElem_mem hio)
        rw [a1, hc1] at d3
        obtain ⟨kc, hkc⟩ : ∃ kc, out[i].2.2 = kc := ⟨_, rfl⟩
        rw [hkc] at d3 a3
        have d3' : wz.cell? ⟨g5, i * 7 + 3, none⟩ = some (.slice (some ⟨g, 0, none⟩) 1 kc) := d3
        obtain ⟨v0, c0, f0⟩ : ∃ v, wz.cell? ⟨g, 0, none⟩ = some v ∧ wz.frozen? ⟨g, 0, none⟩ = false := by
          obtain ⟨_, e1, c0, f0⟩ := OwnM.at' a3 (j := 0) (by omega)
          cases e1
          exact ⟨_, c0, f0⟩
        have P8 : Hid (OwB w (wz.setCell ⟨g, 0, none⟩ (.string ⟨#[115, 112, 111, 105, 108, 116]⟩)) b F7 ord7 ao cap ins (rO key i)) := Lib.hid (P7.out.off (S := [g]) (Mod.setCell wz _ _ (by simp)) (fun k hk => by
          simp only [List.mem_singleton] at hk
          subst hk
          have hB := HB.out
          refine ⟨by omega, a5, fun hb => ?_, fun c hc hb => ?_⟩
          · have := hB.1 _ hb; omega
          · have := hB.2.1 c hc _ hb; omega))
        have L8 := Lib.hid (L7.out.set g a6 ⟨#[115, 112, 111, 105, 108, 116]⟩)
        obtain ⟨w8, hw8⟩ : ∃ x, wz.setCell ⟨g, 0, none⟩ (.string ⟨#[115, 112, 111, 105, 108, 116]⟩) = x := ⟨_, rfl⟩
        rw [hw8] at P8 L8
        obtain ⟨gi, rfl, irow⟩ := OwnC.at' P8.out.own hii
        obtain ⟨s1, s2, s3⟩ := P8.out.each _ (List.getElem_mem hii)
        obtain ⟨⟨cI, kI, kcI⟩, hxI⟩ : ∃ x, ins[i] = x := ⟨_, rfl⟩
        rw [hxI] at irow hc2 s1 s2 s3
        dsimp only at hc2 s1 s2 s3
        subst hc2
        have i0 := irow 0 _ (by omega) rfl
        have i1' := irow 1 _ (by omega) rfl
        have i2 := irow 2 _ (by omega) rfl
        have i3 := irow 3 _ (by omega) rfl
        have i4 := irow 4 _ (by omega) rfl
        have i5 := irow 5 _ (by omega) rfl
        have i6 := irow 6 _ (by omega) rfl
        dsimp only [getC] at i0 i1' i2 i3 i4 i5 i6
        rw [Nat.add_zero] at i0
        have HPE : Hid (putE 8 (rO key i) (getC i1 key) 0 = 0 ∧ putL 8 0 (rO key i) (getC i1 key) 0 = rO key i1) := Lib.hid (by
          rw [← hi1]
          have hj8 : i ≤ 8 := by omega
          exact ⟨putE_own HKO.out hj8, putL_own HKO.out hj8⟩)
        have HC : Hid (Calls Tryd.prog 14 #[.pointer (some ⟨b, 0, none⟩), cmdV (getC i1 key, kI, kcI), .int .i64 0] w8 (PutW w8 b F7 8 8 0 ord7 (rO key i) (getC i1 key) 0)) := Lib.hid (bput_any b F7 8 8 0 ord7 (rO key i) (getC i1 key, kI, kcI) 0 w8 P8.out.bat (by omega) (by omega) (by omega) s2 s1 (fun _ k hk => (s3 k hk).2.2.1) (HT.out.mod0 P8.out.mod))
        have HI1 := Lib.hid hi1
        clear hi1 hc1 hrow d3 a1 a2 a3 a4 a5 a6 hkc irow s1 s2 s3 hxI P7 L7 hio hii
        go_wp2_with fail
        refine HC.out.mono ?_
        rintro e w9 ⟨he, ord9, oa, ob, F9, mv1, mv2, mv3⟩
        rw [HPE.out.1] at he
        rw [HPE.out.2] at mv1
        subst he
        have P9 := Lib.hid (P8.out.batE mv1 mv2 mv3)
        have L9 := Lib.hid (L8.out.mod mv2 mv3)
        clear mv1 mv2 mv3 HC P8 L8 hw8 c0 f0 d3' i0 i1' i2 i3 i4 i5 i6 HPE
        go_wp2_with fail
        have hii := HI1.out
        subst hii
        go_roundw
        case rel => exact ⟨i + 1, F9, ord9, by go_num, by omega, P9.out, L9.out, by omega, by omega⟩
        case measure => simp [intOf]; omega
      · have hie : i = j := by omega
        subst hie
        have HFL := Lib.hid (bflush_any b F7 8 8 0 ord7 (rO key i) wz P7.out.bat)
        clear hij hi
        go_wp2_with fail
        refine HFL.out.mono ?_
        rintro e w9 ⟨ao9, cap9, out9, F9, he, h1, b9, m9, n9, o9⟩
        rw [take_own key hj8] at h1 b9
        dsimp only at h1 b9
        have hol : out9.length = i := by
          have h2 := congrArg List.length h1
          rw [List.length_map, cds_length] at h2
          exact h2
        rw [hol] at he
        subst he
        have P9 : Hid (OwB w w9 b F9 ord7 ao cap ins (rO key 0)) := Lib.hid (P7.out.batE b9 m9 n9)
        have HAL := all_any ao9 i cap9 out9 ao i cap ins w9 hol HIL.out (by omega) (by omega) o9.sees P9.out.sees
        rw [decide_eq_true (show out9.map Prod.fst = ins.map Prod.fst by rw [h1, HIM.out])] at HAL
        have HA := Lib.hid HAL
        clear HAL h1 b9 m9 n9 o9 hol HFL P7 L7
        go_wp2_with fail
        refine HA.out.mono ?_
        rintro e w10 ⟨rfl, m10⟩
        have M10 := Lib.hid (P9.out.mod.trans' m10)
        have HWK := Lib.hid (wakes19_any w10 (HT.out.mod0 M10.out))
        clear m10 P9 HA
        go_wp2_with fail
        refine HWK.out.mono ?_
        rintro e w11 ⟨rfl, m11⟩
        have M11 := Lib.hid (M10.out.trans' m11)
        clear m11
        go_wp2_with fail
        go_ret
        exact ⟨rfl, M11.out⟩
end Go.Proofs.YtigamomoegpefaaDoor
