/- The walk of PoolApart. -/
import Derived.Test.YtfpmdacpmcdleaaPoolApart0
import Derived.BigQuiet
import Derived.Deep.CutRange
import Derived.Deep.CutBlock
namespace Go.Proofs.Ytfpmdacpmcdleaa
open Go Go.RowKit Go.Lib

set_option maxRecDepth 100000 in
set_option maxHeartbeats 16000000 in
theorem poolApart_any (n size f : Nat) (w : World) (hn : n < 256) (hs : size < 256) (hf : f < 256) :
    Calls Try.prog 4 #[.int .u8 (n : Int), .int .u8 (size : Int), .int .u8 (f : Int)] w fun e w' => e = .returned (.bool true) ∧ Mod [] w w' := by
  obtain ⟨m, hm⟩ : ∃ m, 1 + n % 50 = m := ⟨_, rfl⟩
  obtain ⟨s, hs'⟩ : ∃ s, 1 + size % 50 = s := ⟨_, rfl⟩
  have hm1 : 1 ≤ m := by omega
  have hm2 : m ≤ 50 := by omega
  have hs1 : 1 ≤ s := by omega
  have hs2 : s ≤ 50 := by omega
  have hmE : 1 + (n : Int) % 50 = (m : Int) := by omega
  have hsE : 1 + (size : Int) % 50 = (s : Int) := by omega
  clear hm hs'
  go_enter Try.func4, Try.ntmps4
  go_wp2_with fail
  clear hmE hsE
  refine (new_ok m s w hm1 (by omega) hs1 (by omega)).mono ?_
  rintro e w1 ⟨g, F, rfl, p1, m1, n1⟩
  have R1 : Hid (AR w g s none 0 [] (lent m s 0) (List.range' 0 (m - 0)).reverse F w1) := ⟨by rw [lent_zero, ← range_zero]; exact p1, Own.nil0 _ _ _, fun j hj => ⟨n1 j hj, by simp [blk]⟩, by simp [blk], m1⟩
  clear p1 m1 n1
  go_wp2_with fail
  go_loopw [11, 12] (fun hv i wr => ∃ (k : Nat) (ha : Option Addr) (hc : Nat) (F : List Nat), k ≤ m ∧ i = .int .i64 (k : Int) ∧ hv = .slice ha k hc ∧ AR w g s ha hc (hds k) (lent m s k) (List.range' k (m - k)).reverse F wr) (fun _ i _ => m - (intOf i).toNat)
  case atStart => exact ⟨0, none, 0, F, Nat.zero_le _, rfl, rfl, R1.out⟩
  case round =>
    obtain ⟨k, ha, hc, F, hk, rfl, rfl, hrel⟩ := hrel
    have HR := Lib.hid hrel
    clear hrel R1
    by_cases hlt : k < m
    · have hkl : k < (lent m s k).length := by rw [lent_len m s k hk]; exact hlt
      have hG : ∀ wx, PoolW wx g F s (lent m s k) (List.range' k (m - k)).reverse → Calls Try.prog 6 #[.pointer (some ⟨g, 0, none⟩)] wx fun e w' => e = .returned (.tuple #[.agg #[.int .i64 (k : Int), .int .u32 1], .int .i64 0]) ∧ PMoved wx w' g F s ((lent m s k).set k ([], 1, true)) (List.range' (k + 1) (m - (k + 1))).reverse := fun wx hp => by
        rw [rev_range m k hlt] at hp
        have h1 := get_w g F s (lent m s k) _ k hkl wx hp
        have h2 := lent_at m s k hlt
        rw [h2] at h1
        exact h1
      have HG := Lib.hid hG
      clear hG hkl
      go_wp2_with fail
      refine (HG.out _ HR.out.1).mono ?_
      rintro e w2 ⟨rfl, pm⟩
      obtain ⟨F2, r2, mf2, mi2⟩ := HR.out.moved pm
      have ma := Mod.alloc [] w2 (.cells #[.int .i64 (k : Int), .int .u32 1] 29)
      have X2 := Lib.hid (heap_alloc_new w2 (.cells #[.int .i64 (k : Int), .int .u32 1] 29))
      have R2 := Lib.hid (r2.mod0 ma)
      have MX := Lib.hid (r2.mine w2.heap.size (Nat.le_refl _))
      clear HG HR pm r2 mf2 mi2 ma
      go_wp2_with (first | (at_make; refine wpl_make8 (dst := some 61) _ _ .i64 .i64 _ _ s rfl rfl rfl rfl (by omega) ?_) | fail)
      intro b3 w3 o3 m3 z3
      have R3 := Lib.hid (R2.out.mod0 m3)
      have X3 := Lib.hid (m3.get X2.out (by simp))
      have O3 := Lib.hid o3
      have MB := Lib.hid (R2.out.mine b3 z3)
      clear R2 X2 o3 m3 z3
      go_wp2_with fail
      go_loopw [16] (fun i wq => ∃ q : Nat, q ≤ s ∧ i = .int .i64 (q : Int) ∧ AR w g s ha hc (hds k) ((lent m s k).set k ([], 1, true)) (List.range' (k + 1) (m - (k + 1))).reverse F2 wq ∧ OwnB wq (some ⟨b3, 0, none⟩) s (part s k q) ∧ wq.heap[w2.heap.size]? = some (.cells #[.int .i64 (k : Int), .int .u32 1] 29 (0, 0))) (fun i _ => s - (intOf i).toNat)
      case atStart => exact ⟨0, Nat.zero_le _, rfl, R3.out, by rw [part_zero]; exact O3.out, X3.out⟩
      case round =>
        obtain ⟨q, hq, rfl, hr, ho, hx⟩ := hrel
        have RQ := Lib.hid hr
        have OQ := Lib.hid ho
        have XQ := Lib.hid hx
        have HBX : Hid (w2.heap.size ≠ b3) := fun e => by
          have h1 := ho.2
          rcases h1 with ⟨h0, _⟩ | ⟨g', cur, fz, hg', hh, _⟩
          · cases h0
          · cases hg'
            rw [← e, hx] at hh
            cases hh
        clear hr ho hx R3 O3 X3
        have hkb : (k : Int) % 256 = (k : Int) := by omega
        by_cases hqs : q < s
        · obtain ⟨b3', hb3, y0, yf⟩ := OQ.out.cell (j := q) (by rw [part_len s k q hq]; exact hqs)
          cases hb3
          have hqi : (q : Int) < (s : Int) := by omega
          have HV := Lib.hid (u8_of k (by omega))
          go_wp2
          go_roundw
          case rel =>
            refine ⟨q + 1, by omega, by go_num, RQ.out.own (Mod.setCell (S := [b3]) _ _ _ (by simp)) (fun j hj => by simp at hj; subst hj; exact MB.out), ?_, ?_⟩
            · have h1 := OwnB.set (j := q) OQ.out (UInt8.ofNat k)
              rw [part_set s k q hqs, HV.out] at h1
              exact h1
            · exact (Mod.setCell (S := [b3]) _ _ _ (by simp)).get XQ.out (by simp; exact HBX.out)
          case measure => simp [intOf]; omega
        · obtain rfl : s = q := by omega
          have OF : Hid (OwnB wr (some ⟨b3, 0, none⟩) s (fill s k)) := by rw [← part_all]; exact OQ.out
          have hkl : k < ((lent m s k).set k ([], 1, true)).length := by rw [List.length_set, lent_len m s k hk]; exact hlt
          have hS : ∀ wx, PoolW wx g F2 s ((lent m s k).set k ([], 1, true)) (List.range' (k + 1) (m - (k + 1))).reverse → Sees wx (some ⟨b3, 0, none⟩) (fill s k) → Calls Try.prog 9 #[.pointer (some ⟨g, 0, none⟩), .agg #[.int .i64 (k : Int), .int .u32 1], .slice (some ⟨b3, 0, none⟩) s s] wx fun e w' => e = .returned (.int .i64 0) ∧ PMoved wx w' g F2 s (lent m s (k + 1)) (List.range' (k + 1) (m - (k + 1))).reverse := fun wx hp hb => by
            have h1 := set_w g F2 s ((lent m s k).set k ([], 1, true)) _ k 1 (some ⟨b3, 0, none⟩) s s (fill s k) hkl wx hp (by simp) (by simp) (fill_len s k) hb (Nat.le_refl _)
            rw [List.set_set, lent_succ m s k hlt] at h1
            exact h1
          have hkl2 : k < (lent m s (k + 1)).length := by rw [lent_len m s (k + 1) (by omega)]; exact hlt
          have hat : (lent m s (k + 1))[k] = (fill s k, 1, true) := lent_old m s (k + 1) k (by omega) (by omega)
          have HS := Lib.hid hS
          have HAT := Lib.hid hat
          have LF : Hid ((fill s k).length = s) := fill_len s k
          clear hkb hS hkl hat OQ hqs hq
          go_upto_region 16 with (fail)
          refine rest_start (b3 :: F2) 18 #[false, false, false, false, false, false, false, false, false, false, false, false, false, false, false, false, false, false] rfl (by kernel_rfl) (by kernel_rfl) ?_
          intro w4 m4
          have R4 := Lib.hid (RQ.out.mod0 m4)
          have X4 := Lib.hid (m4.get XQ.out (by simp))
          have O4 := Lib.hid (OF.out.mod0 m4)
          have x0 := Lib.hid (cell_of_block (i := 0) X4.out)
          have x1 := Lib.hid (cell_of_block (i := 1) X4.out)
          have KB : Hid (w2.heap.size ∉ b3 :: F2) := fun hm => by
            rcases List.mem_cons.1 hm with h | h
            · exact HBX.out h
            · exact MX.out.2.1 h
          clear m4 RQ XQ OF
          refine rest_got (i := 0) (v := ?v1) rfl (by kernel_rfl) (by kernel_rfl) (by kernel_rfl) (fun _ _ _ h => h) (by rfl) ?y1 ?r1
          case y1 => (intro w9q hSwq; clear hSwq; go_simp; with_reducible rfl)
          try simp only [Act.put, List.setIfInBounds_toArray, List.set_cons_zero, List.set_cons_succ]
          refine rest_got (i := 1) (v := ?v2) rfl (by kernel_rfl) (by kernel_rfl) (by kernel_rfl) (fun _ _ _ h => h) (by rfl) ?y2 ?r2
          case y2 => (intro w9q hSwq; clear hSwq; go_simp; with_reducible rfl)
          try simp only [Act.put, List.setIfInBounds_toArray, List.set_cons_zero, List.set_cons_succ]
          refine rest_got (i := 2) (v := ?v3) rfl (by kernel_rfl) (by kernel_rfl) (by kernel_rfl) (fun _ _ _ h => h) (by rfl) ?y3 ?r3
          case y3 => (intro w9q hSwq; clear hSwq; go_simp; with_reducible rfl)
          try simp only [Act.put, List.setIfInBounds_toArray, List.set_cons_zero, List.set_cons_succ]
          refine rest_got (i := 3) (v := ?v4) rfl (by kernel_rfl) (by kernel_rfl) (by kernel_rfl) (fun _ _ _ h => h) (by rfl) ?y4 ?r4
          case y4 => (intro w9q hSwq; clear hSwq; go_simp; with_reducible rfl)
          try simp only [Act.put, List.setIfInBounds_toArray, List.set_cons_zero, List.set_cons_succ]
          refine rest_got (i := 4) (v := ?v5) rfl (by kernel_rfl) (by kernel_rfl) (by kernel_rfl) (fun _ _ _ h => h) (by rfl) ?y5 ?r5
          case y5 => ((intro w9' hm9'; have hc9' := Mod.cell hm9' x0.out KB.out; have hd9' := Mod.cell hm9' x1.out KB.out; clear hm9'; go_simp; with_reducible rfl))
          try simp only [Act.put, List.setIfInBounds_toArray, List.set_cons_zero, List.set_cons_succ]
          refine rest_got (i := 5) (v := ?v6) rfl (by kernel_rfl) (by kernel_rfl) (by kernel_rfl) (fun _ _ _ h => h) (by rfl) ?y6 ?r6
          case y6 => (intro w9q hSwq; clear hSwq; go_simp; with_reducible rfl)
          try simp only [Act.put, List.setIfInBounds_toArray, List.set_cons_zero, List.set_cons_succ]
          refine rest_one (i := 6) (by kernel_rfl) rfl (by rfl) ?_
          go_wp2_with fail
          refine (HS.out _ R4.out.1 O4.out.sees).mono ?_
          rintro e w5 ⟨rfl, pm⟩
          obtain ⟨F5, r5, mf5, mi5⟩ := R4.out.moved pm
          have R5 := Lib.hid r5
          have X5 := Lib.hid (mf5.get X4.out MX.out.2.1)
          have O5 := Lib.hid (O4.out.mod mf5 (fun j hj hm => by simp [blk] at hj; subst hj; exact MB.out.2.1 hm))
          have MX5 := Lib.hid (mi5 _ (lt_of_block X4.out) MX.out)
          have MB5 := Lib.hid (mi5 _ (Own.lt O4.out b3 (by simp [blk])) MB.out)
          go_wp2_with fail
          refine back_to (K1 := [b3]) (mf5.weaken (fun j hj => List.mem_cons.2 (.inr hj))) (fun j hj _ => by simp at hj; simp [hj]) ?_
          have KB2 : Hid (w2.heap.size ∉ [b3]) := fun hm => by simp at hm; exact HBX.out hm
          have x0 := Lib.hid (cell_of_block (i := 0) X5.out)
          have x1 := Lib.hid (cell_of_block (i := 1) X5.out)
          clear pm r5 mf5 mi5 R4 X4 O4 KB
          refine rest_got (i := 7) (v := ?v7) rfl (by kernel_rfl) (by kernel_rfl) (by kernel_rfl) (fun _ _ _ h => h) (by rfl) ?y7 ?r7
          case y7 => (intro w9q hSwq; clear hSwq; go_simp; with_reducible rfl)
          try simp only [Act.put, List.setIfInBounds_toArray, List.set_cons_zero, List.set_cons_succ]
          refine rest_got (i := 8) (v := ?v8) rfl (by kernel_rfl) (by kernel_rfl) (by kernel_rfl) (fun _ _ _ h => h) (by rfl) ?y8 ?r8
          case y8 => (intro w9q hSwq; clear hSwq; go_simp; with_reducible rfl)
          try simp only [Act.put, List.setIfInBounds_toArray, List.set_cons_zero, List.set_cons_succ]
          refine rest_got (i := 9) (v := ?v9) rfl (by kernel_rfl) (by kernel_rfl) (by kernel_rfl) (fun _ _ _ h => h) (by rfl) ?y9 ?r9
          case y9 => (intro w9q hSwq; clear hSwq; go_simp; with_reducible rfl)
          try simp only [Act.put, List.setIfInBounds_toArray, List.set_cons_zero, List.set_cons_succ]
          refine rest_got (i := 10) (v := ?v10) rfl (by kernel_rfl) (by kernel_rfl) (by kernel_rfl) (fun _ _ _ h => h) (by rfl) ?y10 ?r10
          case y10 => (intro w9q hSwq; clear hSwq; go_simp; with_reducible rfl)
          try simp only [Act.put, List.setIfInBounds_toArray, List.set_cons_zero, List.set_cons_succ]
          refine rest_got (i := 11) (v := ?v11) rfl (by kernel_rfl) (by kernel_rfl) (by kernel_rfl) (fun _ _ _ h => h) (by rfl) ?y11 ?r11
          case y11 => ((intro w9' hm9'; have hc9' := Mod.cell hm9' x0.out KB2.out; have hd9' := Mod.cell hm9' x1.out KB2.out; clear hm9'; go_simp; with_reducible rfl))
          try simp only [Act.put, List.setIfInBounds_toArray, List.set_cons_zero, List.set_cons_succ]
          refine rest_got (i := 12) (v := ?v12) rfl (by kernel_rfl) (by kernel_rfl) (by kernel_rfl) (fun _ _ _ h => h) (by rfl) ?y12 ?r12
          case y12 => (intro w9q hSwq; clear hSwq; go_simp; with_reducible rfl)
          try simp only [Act.put, List.setIfInBounds_toArray, List.set_cons_zero, List.set_cons_succ]
          refine rest_one (i := 13) (by kernel_rfl) rfl (by rfl) ?_
          have ma := Mod.alloc [] w5 (.cells #[.int .u8 0] 5)
          have SH := Lib.hid (OwnB.lit1 (heap_alloc_new w5 (.cells #[.int .u8 0] 5)) 0 rfl (.inl rfl)).sees
          have O6 := Lib.hid (O5.out.mod0 ma)
          have R6 := Lib.hid (R5.out.mod0 ma)
          have X6 := Lib.hid (ma.get X5.out (by simp))
          go_wp2_with fail
          refine back_to (K1 := [b3]) ma.nil (fun j hj _ => hj) ?_
          clear ma R5 X5 O5
          
          refine rest_one (i := 14) (by kernel_rfl) rfl (by rfl) ?_
          go_wp2_with (first | (at_builtin; refine wpl_app8 (dst := some 86) _ _ (some ⟨b3, 0, none⟩) s s (fill s k) rfl LF.out O6.out _ 1 1 [0] rfl rfl SH.out (by omega) ?_) | fail)
          intro a7 c7 w7 o7 m7 s7
          have R7 := Lib.hid (R6.out.own m7 (fun j hj => by simp [blk] at hj; subst hj; exact MB5.out))
          have X7 := Lib.hid (m7.get X6.out (by simp [blk]; exact HBX.out))
          go_wp2_with fail
          refine back_to (K1 := []) (m7.weaken (by simp [blk])) (by simp) ?_
          clear m7 s7 o7 R6 X6 O6 SH
          
          refine rest_one (i := 15) (by kernel_rfl) rfl (by rfl) ?_
          go_wp2_with fail
          refine (set_longw g F5 s (lent m s (k + 1)) _ k 1 a7 (s + 1) c7 hkl2 _ R7.out.1 (by rw [HAT.out]) (by rw [HAT.out]) (by omega)).mono ?_
          rintro e w8 ⟨rfl, m8⟩
          have R8 := Lib.hid (R7.out.mod0 m8)
          have X8 := Lib.hid (m8.get X7.out (by simp))
          go_wp2_with fail
          refine back_to (K1 := []) m8 (by simp) ?_
          clear m8 R7 X7
          refine rest_got (i := 16) (v := ?v13) rfl (by kernel_rfl) (by kernel_rfl) (by kernel_rfl) (fun _ _ _ h => h) (by rfl) ?y13 ?r13
          case y13 => (intro w9q hSwq; clear hSwq; go_simp; with_reducible rfl)
          try simp only [Act.put, List.setIfInBounds_toArray, List.set_cons_zero, List.set_cons_succ]
          refine rest_got (i := 17) (v := ?v14) rfl (by kernel_rfl) (by kernel_rfl) (by kernel_rfl) (fun _ _ _ h => h) (by rfl) ?y14 ?r14
          case y14 => (intro w9q hSwq; clear hSwq; go_simp; with_reducible rfl)
          try simp only [Act.put, List.setIfInBounds_toArray, List.set_cons_zero, List.set_cons_succ]
          refine rest_done (by kernel_rfl) ?_ _
          have c0 := cell_of_block (i := 0) X8.out
          have c1 := cell_of_block (i := 1) X8.out
          have mb := Mod.alloc [] w8 (.cells #[.int .i64 (k : Int), .int .u32 1] 29)
          have R9 := Lib.hid (R8.out.mod0 mb)
          have SH9 := Lib.hid (showsH1 (x := ((k : Int), 1)) (heap_alloc_new w8 (.cells #[.int .i64 (k : Int), .int .u32 1] 29)))
          have OH9 := Lib.hid R9.out.2.1
          have HL9 : Hid ((hds k).length = k) := hds_len k
          clear mb R8
          go_wp2_with (first | (at_builtin; refine wpl_appH (dst := some 93) _ _ ha k hc (hds k) rfl HL9.out OH9.out _ 1 1 [((k : Int), 1)] rfl rfl SH9.out (by omega) ?_) | fail)
          intro a10 c10 w10 o10 m10 s10
          have R10 := R9.out.had o10 m10 s10
          rw [← hds_succ] at R10
          have RR := Lib.hid R10
          clear o10 m10 s10 R10 R9 SH9 OH9 c0 c1 X8
          go_wp2
          go_roundw
          case rel => exact ⟨k + 1, a10, c10, F5, by omega, by go_num, rfl, RR.out⟩
          case measure => simp [intOf]; omega
    · obtain rfl : m = k := by omega
      have R0 : Hid (AR w g s ha hc (hds m) (lent m s m) [] F wr) := by
        have h1 := HR.out
        rw [Nat.sub_self] at h1
        exact h1
      have HLh : Hid ((hds m).length = m) := hds_len m
      clear HR hlt hk
      go_wp2_with fail
      go_loopw [17] (fun i wr => ∃ (k : Nat), k ≤ m ∧ i = .int .i64 (k : Int) ∧ AR w g s ha hc (hds m) (lent m s m) [] F wr) (fun i _ => m - (intOf i).toNat)
      case atStart => exact ⟨0, Nat.zero_le _, rfl, R0.out⟩
      case round =>
        obtain ⟨k, hk, rfl, hrel⟩ := hrel
        have HR := Lib.hid hrel
        clear hrel R0
        by_cases hlt : k < m
        · obtain ⟨gh, hgh, e1, e2⟩ := OwnH.at' HR.out.2.1 (j := k) (by rw [HLh.out]; exact hlt)
          subst hgh
          rw [hds_get] at e1 e2
          dsimp only at e1 e2
          have hki : (k : Int) < (m : Int) := by omega
          have hlc := Own.le HR.out.2.1
          rw [HLh.out] at hlc
          have hcm := Own.cap_le HR.out.2.1
          unfold maxLen at hcm
          have hkl : k < (lent m s m).length := by rw [lent_len m s m (Nat.le_refl _)]; exact hlt
          have hat : (lent m s m)[k] = (fill s k, 1, true) := lent_old m s m k hlt (Nat.le_refl _)
          have hB : ∀ wx, PoolW wx g F s (lent m s m) [] → Calls Try.prog 7 #[.pointer (some ⟨g, 0, none⟩), .agg #[.int .i64 (k : Int), .int .u32 1]] wx fun e w' => ∃ ao c, e = .returned (.tuple #[.slice ao s c, .int .i64 0]) ∧ OwnB w' ao c (fill s k) ∧ (∀ j, j ∈ blk ao → wx.heap.size ≤ j) ∧ Mod [] wx w' := fun wx hp => by
            have h1 := bytes_w g F s (lent m s m) [] k 1 hkl wx hp (by rw [hat]) (by rw [hat])
            rw [hat] at h1
            simpa only [fill_len] using h1
          have HB := Lib.hid hB
          clear hB hkl hat
          go_wp2_with fail
          refine (HB.out _ HR.out.1).mono ?_
          rintro e w2 ⟨a2, c2, rfl, o2, n2, m2⟩
          have R2 := Lib.hid (HR.out.mod0 m2)
          have O2 := Lib.hid o2
          clear o2 n2 m2 e1 e2 HB HR
          go_wp2_with fail
          go_loopw [20] (fun i wq => ∃ q : Nat, q ≤ s ∧ i = .int .i64 (q : Int) ∧ AR w g s (some ⟨gh, 0, none⟩) hc (hds m) (lent m s m) [] F wq ∧ OwnB wq a2 c2 (fill s k)) (fun i _ => s - (intOf i).toNat)
          case atStart => exact ⟨0, Nat.zero_le _, rfl, R2.out, O2.out⟩
          case round =>
            obtain ⟨q, hq, rfl, hr, ho⟩ := hrel
            have RQ := Lib.hid hr
            have OQ := Lib.hid ho
            clear hr ho R2 O2
            by_cases hqs : q < s
            · obtain ⟨g8, hg8, y0, yf⟩ := OQ.out.cell (j := q) (by rw [fill_len]; exact hqs)
              subst hg8
              rw [fill_get s k q hqs] at y0
              have hV := u8_of k (by omega)
              unfold u8v at hV
              rw [hV] at y0
              have hkb : (k : Int) % 256 = (k : Int) := by omega
              have hqi : (q : Int) < (s : Int) := by omega
              have hl8 := Own.le OQ.out
              rw [fill_len] at hl8
              have hc8 := Own.cap_le OQ.out
              unfold maxLen at hc8
              clear hV
              go_wp2
              go_roundw
              case rel => exact ⟨q + 1, by omega, by go_num, RQ.out, OQ.out⟩
              case measure => simp [intOf]; omega
            · clear OQ
              go_wp2_with fail
              go_loopw [21] (fun i wq => ∃ q : Nat, q ≤ k ∧ i = .int .i64 (q : Int) ∧ AR w g s (some ⟨gh, 0, none⟩) hc (hds m) (lent m s m) [] F wq) (fun i _ => k - (intOf i).toNat)
              case atStart => exact ⟨0, Nat.zero_le _, rfl, RQ.out⟩
              case round =>
                obtain ⟨q2, hq2, rfl, hr⟩ := hrel
                have RQ := Lib.hid hr
                clear hr
                by_cases hqk : q2 < k
                · obtain ⟨gh2, hgh2, e1, e2⟩ := OwnH.at' RQ.out.2.1 (j := k) (by rw [HLh.out]; exact hlt)
                  cases hgh2
                  obtain ⟨gh2, hgh2, d1, d2⟩ := OwnH.at' RQ.out.2.1 (j := q2) (by rw [HLh.out]; omega)
                  cases hgh2
                  rw [hds_get] at e1 d1
                  dsimp only at e1 d1
                  have hqi : (q2 : Int) < (m : Int) := by omega
                  have hne : ((q2 : Int) == (k : Int)) = false := by rw [beq_eq_false_iff_ne]; omega
                  clear e2 d2
                  go_upto_region 33 with (fail)
                  refine rest_start [] 11 #[false, false, false, false, false, false, false, false, false, false, false] rfl (by kernel_rfl) (by kernel_rfl) ?_
                  intro w6 m6
                  have R6 := Lib.hid (RQ.out.mod0 m6)
                  have e1 := m6.cell e1 (by simp)
                  have d1 := m6.cell d1 (by simp)
                  clear m6 RQ
                  refine rest_got (i := 0) (v := ?v15) rfl (by kernel_rfl) (by kernel_rfl) (by kernel_rfl) (fun _ _ _ h => h) (by rfl) ?y15 ?r15
                  case y15 => (intro w9q hSwq; clear hSwq; go_simp; with_reducible rfl)
                  try simp only [Act.put, List.setIfInBounds_toArray, List.set_cons_zero, List.set_cons_succ]
                  refine rest_got (i := 1) (v := ?v16) rfl (by kernel_rfl) (by kernel_rfl) (by kernel_rfl) (fun _ _ _ h => h) (by rfl) ?y16 ?r16
                  case y16 => (intro w9q hSwq; clear hSwq; go_simp; with_reducible rfl)
                  try simp only [Act.put, List.setIfInBounds_toArray, List.set_cons_zero, List.set_cons_succ]
                  refine rest_got (i := 2) (v := ?v17) rfl (by kernel_rfl) (by kernel_rfl) (by kernel_rfl) (fun _ _ _ h => h) (by rfl) ?y17 ?r17
                  case y17 => (intro w9q hSwq; clear hSwq; go_simp; with_reducible rfl)
                  try simp only [Act.put, List.setIfInBounds_toArray, List.set_cons_zero, List.set_cons_succ]
                  refine rest_got (i := 3) (v := ?v18) rfl (by kernel_rfl) (by kernel_rfl) (by kernel_rfl) (fun _ _ _ h => h) (by rfl) ?y18 ?r18
                  case y18 => (intro w9q hSwq; clear hSwq; go_simp; with_reducible rfl)
                  try simp only [Act.put, List.setIfInBounds_toArray, List.set_cons_zero, List.set_cons_succ]
                  refine rest_got (i := 4) (v := ?v19) rfl (by kernel_rfl) (by kernel_rfl) (by kernel_rfl) (fun _ _ _ h => h) (by rfl) ?y19 ?r19
                  case y19 => ((intro w9' hm9'; have hc9' := Mod.cell hm9' d1 (by first | exact List.not_mem_nil | (simp; done) | (simp; omega)); clear hm9'; go_simp; with_reducible rfl))
                  try simp only [Act.put, List.setIfInBounds_toArray, List.set_cons_zero, List.set_cons_succ]
                  refine rest_got (i := 5) (v := ?v20) rfl (by kernel_rfl) (by kernel_rfl) (by kernel_rfl) (fun _ _ _ h => h) (by rfl) ?y20 ?r20
                  case y20 => (intro w9q hSwq; clear hSwq; go_simp; with_reducible rfl)
                  try simp only [Act.put, List.setIfInBounds_toArray, List.set_cons_zero, List.set_cons_succ]
                  refine rest_got (i := 6) (v := ?v21) rfl (by kernel_rfl) (by kernel_rfl) (by kernel_rfl) (fun _ _ _ h => h) (by rfl) ?y21 ?r21
                  case y21 => (intro w9q hSwq; clear hSwq; go_simp; with_reducible rfl)
                  try simp only [Act.put, List.setIfInBounds_toArray, List.set_cons_zero, List.set_cons_succ]
                  refine rest_got (i := 7) (v := ?v22) rfl (by kernel_rfl) (by kernel_rfl) (by kernel_rfl) (fun _ _ _ h => h) (by rfl) ?y22 ?r22
                  case y22 => (intro w9q hSwq; clear hSwq; go_simp; with_reducible rfl)
                  try simp only [Act.put, List.setIfInBounds_toArray, List.set_cons_zero, List.set_cons_succ]
                  refine rest_got (i := 8) (v := ?v23) rfl (by kernel_rfl) (by kernel_rfl) (by kernel_rfl) (fun _ _ _ h => h) (by rfl) ?y23 ?r23
                  case y23 => (intro w9q hSwq; clear hSwq; go_simp; with_reducible rfl)
                  try simp only [Act.put, List.setIfInBounds_toArray, List.set_cons_zero, List.set_cons_succ]
                  refine rest_got (i := 9) (v := ?v24) rfl (by kernel_rfl) (by kernel_rfl) (by kernel_rfl) (fun _ _ _ h => h) (by rfl) ?y24 ?r24
                  case y24 => ((intro w9' hm9'; have hc9' := Mod.cell hm9' e1 (by first | exact List.not_mem_nil | (simp; done) | (simp; omega)); clear hm9'; go_simp; with_reducible rfl))
                  try simp only [Act.put, List.setIfInBounds_toArray, List.set_cons_zero, List.set_cons_succ]
                  refine rest_got (i := 10) (v := ?v25) rfl (by kernel_rfl) (by kernel_rfl) (by kernel_rfl) (fun _ _ _ h => h) (by rfl) ?y25 ?r25
                  case y25 => (intro w9q hSwq; clear hSwq; go_simp; with_reducible rfl)
                  try simp only [Act.put, List.setIfInBounds_toArray, List.set_cons_zero, List.set_cons_succ]
                  refine rest_done (by kernel_rfl) ?_ _
                  go_wp2
                  go_roundw
                  case rel => exact ⟨q2 + 1, by omega, by go_num, R6.out⟩
                  case measure => simp [intOf]; omega
                · go_wp2
                  go_roundw
                  case rel => exact ⟨k + 1, by omega, by go_num, RQ.out⟩
                  case measure => simp [intOf]; omega
        · obtain rfl : m = k := by omega
          clear hlt hk
          go_wp2_with fail
          go_loopw [22] (fun i wr => ∃ (k : Nat) (L : List Bm) (fr : List Nat) (F : List Nat), k ≤ m ∧ i = .int .i64 (k : Int) ∧ Given m s k f L fr ∧ AR w g s ha hc (hds m) L fr F wr) (fun i _ => m - (intOf i).toNat)
          case atStart => exact ⟨0, _, _, F, Nat.zero_le _, rfl, Given.zero m s f, HR.out⟩
          case round =>
            obtain ⟨k, L, fr, F, hk, rfl, hgv, hrel⟩ := hrel
            have HG := Lib.hid hgv
            have HA := Lib.hid hrel
            clear hgv hrel HR
            by_cases hlt : k < m
            · obtain ⟨x, hx⟩ : ∃ x, (k + f) % m = x := ⟨_, rfl⟩
              have hxm : x < m := by rw [← hx]; exact Nat.mod_lt _ (by omega)
              obtain ⟨gh, hgh, e1, e2⟩ := OwnH.at' HA.out.2.1 (j := x) (by rw [HLh.out]; exact hxm)
              subst hgh
              rw [hds_get] at e1 e2
              dsimp only at e1 e2
              have hlc := Own.le HA.out.2.1
              rw [HLh.out] at hlc
              have hcm := Own.cap_le HA.out.2.1
              unfold maxLen at hcm
              have hm0 : (0 : Int) ≤ ((k : Int) + (f : Int)) % (m : Int) := Int.emod_nonneg _ (by omega)
              have hmE : ((k : Int) + (f : Int)) % (m : Int) = (x : Int) := by rw [← hx]; simp
              have hxi : (x : Int) < (m : Int) := by omega
              have hxL : x < L.length := by rw [HG.out.1]; exact hxm
              have hLx := HG.out.2.2 x hxL
              have hLt : L[x].2.2 = true := hLx.2 (fun q hq => by rw [← hx]; exact mod_ne m q k f hq hlt)
              have hfl := HG.out.2.1
              have HX := Lib.hid (And.intro hx (And.intro hLx.1 hLt))
              have HFL := Lib.hid hfl
              clear hx hLx hLt hfl
              go_upto_region 39 with (fail)
              have ma := Mod.alloc [] wr (.cells #[.int .i64 (x : Int), .int .u32 1] 29)
              have X1 := Lib.hid (heap_alloc_new wr (.cells #[.int .i64 (x : Int), .int .u32 1] 29))
              have A1 := Lib.hid (HA.out.mod0 ma)
              have MX := Lib.hid (HA.out.mine wr.heap.size (Nat.le_refl _))
              clear ma e1 e2 hmE hm0
              generalize hbx : wr.heap.size = bx at *
              generalize wr.alloc (.cells #[.int .i64 (x : Int), .int .u32 1] 29) = v1 at *
              clear hbx
              have x0 := cell_of_block (i := 0) X1.out
              have x1 := cell_of_block (i := 1) X1.out
              go_wp2_with fail
              refine (back_w g F s L fr x 1 hxL _ A1.out.1 HX.out.2.2 HX.out.2.1 (by rw [HFL.out]; omega)).mono ?_
              rintro e w2 ⟨rfl, pm⟩
              obtain ⟨F2, r2, mf2, mi2⟩ := A1.out.moved pm
              have A2 := Lib.hid r2
              have X2 := Lib.hid (mf2.get X1.out MX.out.2.1)
              have hbad : ¬ GoodM (L.set x (L[x].1, 1, false)) (x : Int) 1 := by
                rintro ⟨k', hk', hk2, hh, _⟩
                obtain rfl : k' = x := by omega
                rw [List.getElem_set_self] at hh
                cases hh
              have HBD := Lib.hid hbad
              have G2 := Lib.hid (HG.out.succ hlt L[x].1)
              rw [HX.out.1] at G2
              clear pm r2 mf2 mi2 A1 X1 x0 x1 MX hbad
              have x0 := cell_of_block (i := 0) X2.out
              have x1 := cell_of_block (i := 1) X2.out
              go_wp2_with fail
              refine (back_stalew g F2 s _ _ (x : Int) 1 _ A2.out.1 HBD.out).mono ?_
              rintro e w3 ⟨rfl, m3⟩
              have A3 := Lib.hid (A2.out.mod0 m3)
              have X3 := Lib.hid (m3.get X2.out (by simp))
              clear m3 A2 X2 x0 x1
              have x0 := cell_of_block (i := 0) X3.out
              have x1 := cell_of_block (i := 1) X3.out
              go_wp2_with fail
              refine (set_stalew g F2 s _ _ (x : Int) 1 none 0 0 _ A3.out.1 HBD.out).mono ?_
              rintro e w4 ⟨rfl, m4⟩
              have A4 := Lib.hid (A3.out.mod0 m4)
              clear m4 A3 X3 x0 x1
              go_wp2_with fail
              refine (free_w g F2 s _ _ _ A4.out.1).mono ?_
              have hfl2 : (fr ++ [x]).length = k + 1 := by rw [List.length_append, HFL.out]; rfl
              rw [hfl2]
              rintro e w5 ⟨rfl, rfl⟩
              have hkk : (((k + 1 : Nat) : Int)) = (k : Int) + 1 := by omega
              clear hfl2
              go_wp2
              go_roundw
              case rel => exact ⟨k + 1, _, _, F2, by omega, by go_num, G2.out, A4.out⟩
              case measure => simp [intOf]; omega
            · obtain rfl : m = k := by omega
              clear hlt hk
              have AN : Hid (L.length = m ∧ Anew 0 L ∧ fr.length = m - 0) := ⟨HG.out.1, fun j hj => by rw [(HG.out.2.2 j hj).1]; omega, by rw [HG.out.2.1]; rfl⟩
              go_wp2_with fail
              go_loopw [24] (fun i wr => ∃ (k : Nat) (L : List Bm) (fr : List Nat) (F : List Nat), k ≤ m ∧ i = .int .i64 (k : Int) ∧ (L.length = m ∧ Anew k L ∧ fr.length = m - k) ∧ AR w g s ha hc (hds m) L fr F wr) (fun i _ => m - (intOf i).toNat)
              case atStart => exact ⟨0, L, fr, F, Nat.zero_le _, rfl, AN.out, HA.out⟩
              case round =>
                obtain ⟨k, L, fr, F, hk, rfl, han, hrel⟩ := hrel
                have HN := Lib.hid han
                have HR := Lib.hid hrel
                clear han hrel AN HA HG
                by_cases hlt : k < m
                · obtain ⟨fr', x, hfr⟩ : ∃ fr' x, fr = fr' ++ [x] := by
                    rcases List.eq_nil_or_concat fr with h | ⟨fr', x, h⟩
                    · have := HN.out.2.2
                      rw [h] at this
                      simp at this
                      omega
                    · exact ⟨fr', x, by rw [h, List.concat_eq_append]⟩
                  subst hfr
                  have hxL : x < L.length := by
                    obtain ⟨b', lc', fa', fc', ab', bufs', arr', _, _, _, _, h4'⟩ := HR.out.1
                    exact h4' x (by simp)
                  obtain ⟨G, hG⟩ : ∃ G, L[x].2.1 + 1 = G := ⟨_, rfl⟩
                  have hbd := HN.out.2.1 x hxL
                  have hw : IntKind.u32.wrap (L[x].2.1 + 1) = G := by rw [IntKind.wrap_u32']; omega
                  have hG1 : ((1 : Int) == G) = false := by rw [beq_eq_false_iff_ne]; omega
                  have hGe : ∀ wx, PoolW wx g F s L (fr' ++ [x]) → Calls Try.prog 6 #[.pointer (some ⟨g, 0, none⟩)] wx fun e w' => e = .returned (.tuple #[.agg #[.int .i64 (x : Int), .int .u32 G], .int .i64 0]) ∧ PMoved wx w' g F s (L.set x ([], G, true)) fr' := fun wx hp => by
                    have h1 := get_w g F s L fr' x hxL wx hp
                    rw [hw] at h1
                    exact h1
                  have HGe := Lib.hid hGe
                  have AN2 : Hid ((L.set x ([], G, true)).length = m ∧ Anew (k + 1) (L.set x ([], G, true)) ∧ fr'.length = m - (k + 1)) := by
                    refine ⟨by rw [List.length_set]; exact HN.out.1, ?_, ?_⟩
                    · rw [← hG]; exact HN.out.2.1.succ x hxL [] true
                    · have := HN.out.2.2; simp at this; omega
                  have hxL2 : x < (L.set x ([], G, true)).length := by simpa using hxL
                  clear hG hbd hw hGe
                  go_wp2_with fail
                  refine (HGe.out _ HR.out.1).mono ?_
                  rintro e w2 ⟨rfl, pm⟩
                  obtain ⟨F2, r2, mf2, mi2⟩ := HR.out.moved pm
                  have ma := Mod.alloc [] w2 (.cells #[.int .i64 (x : Int), .int .u32 G] 29)
                  have X2 := Lib.hid (heap_alloc_new w2 (.cells #[.int .i64 (x : Int), .int .u32 G] 29))
                  have R2 := Lib.hid (r2.mod0 ma)
                  have HB : Hid (∀ wx, PoolW wx g F2 s (L.set x ([], G, true)) fr' → Calls Try.prog 7 #[.pointer (some ⟨g, 0, none⟩), .agg #[.int .i64 (x : Int), .int .u32 G]] wx fun e w' => ∃ ao c, e = .returned (.tuple #[.slice ao 0 c, .int .i64 0]) ∧ Mod [] wx w') := fun wx hp => by
                    have h1 := bytes_w g F2 s _ _ x G hxL2 wx hp (by simp) (by simp)
                    refine h1.mono ?_
                    rintro e w' ⟨ao, c, rfl, _, _, m⟩
                    exact ⟨ao, c, by simp, m⟩
                  clear pm r2 mf2 mi2 ma HGe HR
                  have x0 := cell_of_block (i := 0) X2.out
                  have x1 := cell_of_block (i := 1) X2.out
                  go_wp2_with fail
                  generalize hbx : w2.heap.size = bx at *
                  generalize w2.alloc (.cells #[.int .i64 (x : Int), .int .u32 G] 29) = v2 at *
                  clear hbx
                  refine (HB.out _ R2.out.1).mono ?_
                  rintro e w3 ⟨a3, c3, rfl, m3⟩
                  have R3 := Lib.hid (R2.out.mod0 m3)
                  have X3 := Lib.hid (m3.get X2.out (by simp))
                  clear m3 R2 X2 x0 x1 HB
                  go_wp2_with fail
                  go_loopw [29] (fun i wq => ∃ q : Nat, q ≤ m ∧ i = .int .i64 (q : Int) ∧ AR w g s ha hc (hds m) (L.set x ([], G, true)) fr' F2 wq ∧ wq.heap[bx]? = some (.cells #[.int .i64 (x : Int), .int .u32 G] 29 (0, 0))) (fun i _ => m - (intOf i).toNat)
                  case atStart => exact ⟨0, Nat.zero_le _, rfl, R3.out, X3.out⟩
                  case round =>
                    obtain ⟨q, hq, rfl, hr, hxq⟩ := hrel
                    have RQ := Lib.hid hr
                    have XQ := Lib.hid hxq
                    clear hr hxq R3 X3
                    by_cases hqm : q < m
                    · obtain ⟨gh2, hgh2, d1, d2⟩ := OwnH.at' RQ.out.2.1 (j := q) (by rw [HLh.out]; exact hqm)
                      subst hgh2
                      rw [hds_get] at d1 d2
                      dsimp only at d1 d2
                      have hqi : (q : Int) < (m : Int) := by omega
                      have hlc := Own.le RQ.out.2.1
                      rw [HLh.out] at hlc
                      have hcm := Own.cap_le RQ.out.2.1
                      unfold maxLen at hcm
                      have x0 := cell_of_block (i := 0) XQ.out
                      have x1 := cell_of_block (i := 1) XQ.out
                      go_upto_region 51 with (fail)
                      refine rest_start [] 6 #[false, false, false, false, false, false] rfl (by kernel_rfl) (by kernel_rfl) ?_
                      intro w6 m6
                      have R6 := Lib.hid (RQ.out.mod0 m6)
                      have X6 := Lib.hid (m6.get XQ.out (by simp))
                      have d1 := m6.cell d1 (by simp)
                      have d2 := m6.cell d2 (by simp)
                      have x0 := m6.cell x0 (by simp)
                      have x1 := m6.cell x1 (by simp)
                      clear m6 RQ XQ
                      refine rest_got (i := 0) (v := ?v26) rfl (by kernel_rfl) (by kernel_rfl) (by kernel_rfl) (fun _ _ _ h => h) (by rfl) ?y26 ?r26
                      case y26 => (intro w9q hSwq; clear hSwq; go_simp; with_reducible rfl)
                      try simp only [Act.put, List.setIfInBounds_toArray, List.set_cons_zero, List.set_cons_succ]
                      refine rest_got (i := 1) (v := ?v27) rfl (by kernel_rfl) (by kernel_rfl) (by kernel_rfl) (fun _ _ _ h => h) (by rfl) ?y27 ?r27
                      case y27 => (intro w9q hSwq; clear hSwq; go_simp; with_reducible rfl)
                      try simp only [Act.put, List.setIfInBounds_toArray, List.set_cons_zero, List.set_cons_succ]
                      refine rest_got (i := 2) (v := ?v28) rfl (by kernel_rfl) (by kernel_rfl) (by kernel_rfl) (fun _ _ _ h => h) (by rfl) ?y28 ?r28
                      case y28 => (intro w9q hSwq; clear hSwq; go_simp; with_reducible rfl)
                      try simp only [Act.put, List.setIfInBounds_toArray, List.set_cons_zero, List.set_cons_succ]
                      refine rest_got (i := 3) (v := ?v29) rfl (by kernel_rfl) (by kernel_rfl) (by kernel_rfl) (fun _ _ _ h => h) (by rfl) ?y29 ?r29
                      case y29 => ((intro w9' hm9'; have hc9' := Mod.cell hm9' d1 (by first | exact List.not_mem_nil | (simp; done) | (simp; omega)); have hd9' := Mod.cell hm9' d2 (by first | exact List.not_mem_nil | (simp; done) | (simp; omega)); clear hm9'; go_simp; with_reducible rfl))
                      try simp only [Act.put, List.setIfInBounds_toArray, List.set_cons_zero, List.set_cons_succ]
                      refine rest_got (i := 4) (v := ?v30) rfl (by kernel_rfl) (by kernel_rfl) (by kernel_rfl) (fun _ _ _ h => h) (by rfl) ?y30 ?r30
                      case y30 => ((intro w9' hm9'; have hc9' := Mod.cell hm9' x0 (by first | exact List.not_mem_nil | (simp; done) | (simp; omega)); have hd9' := Mod.cell hm9' x1 (by first | exact List.not_mem_nil | (simp; done) | (simp; omega)); clear hm9'; go_simp; with_reducible rfl))
                      try simp only [Act.put, List.setIfInBounds_toArray, List.set_cons_zero, List.set_cons_succ]
                      refine rest_got (i := 5) (v := ?v31) rfl (by kernel_rfl) (by kernel_rfl) (by kernel_rfl) (fun _ _ _ h => h) (by rfl) ?y31 ?r31
                      case y31 => (intro w9q hSwq; clear hSwq; go_simp; with_reducible rfl)
                      try simp only [Act.put, List.setIfInBounds_toArray, List.set_cons_zero, List.set_cons_succ]
                      refine rest_done (by kernel_rfl) ?_ _
                      go_wp2
                      go_roundw
                      case rel => exact ⟨q + 1, by omega, by go_num, R6.out, X6.out⟩
                      case measure => simp [intOf]; omega
                    · go_wp2
                      go_roundw
                      case rel => exact ⟨k + 1, _, _, F2, by omega, by go_num, AN2.out, RQ.out⟩
                      case measure => simp [intOf]; omega
                · have MW := Lib.hid HR.out.2.2.2.2
                  clear HR HN
                  go_wp2_with fail
                  refine (wakes_any _).mono ?_
                  rintro e w7 ⟨rfl, m7⟩
                  have M7 := Lib.hid (MW.out.trans' m7)
                  clear m7
                  go_wp2
                  go_ret
                  exact ⟨rfl, M7.out⟩
end Go.Proofs.Ytfpmdacpmcdleaa
