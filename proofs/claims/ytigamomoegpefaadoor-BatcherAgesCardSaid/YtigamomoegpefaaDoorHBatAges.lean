/- The walk of the law BatcherAges. -/
import Derived.Test.YtigamomoegpefaaDoorHBatAge1
import Derived.BigQuiet
import Derived.Deep.CutRange
namespace Go.Proofs.YtigamomoegpefaaDoor
open Go Go.RowKit Go.Lib

set_option maxRecDepth 100000 in
set_option maxHeartbeats 8000000 in
theorem batcherAges_any (cn wi ba ag sn : Int) (ao : Option Addr) (len cap : Nat) (l : List Ab) (w : World) (hl : l.length = len) (hlen : len ≤ 9223372036854775807) (hs : SeesA w ao l) (ht : Cnt w) :
    Calls Tryd.prog 3 #[.agg #[.int .i64 cn, .int .i64 wi, .int .i64 ba, .int .i64 ag, .int .i64 sn], .slice ao len cap] w fun e w' => e = .returned (.bool true) ∧ Mod [] w w' := by
  subst hl
  have hbx := heap_alloc_new w (.cells #[.int .i64 cn, .int .i64 wi, .int .i64 ba, .int .i64 ag, .int .i64 sn] 23)
  have m1 := Mod.alloc [] w (.cells #[.int .i64 cn, .int .i64 wi, .int .i64 ba, .int .i64 ag, .int .i64 sn] 23)
  obtain ⟨w1, hw1⟩ : ∃ x, w.alloc (.cells #[.int .i64 cn, .int .i64 wi, .int .i64 ba, .int .i64 ag, .int .i64 sn] 23) = x := ⟨_, rfl⟩
  rw [hw1] at hbx m1
  have HT := Lib.hid ht
  have HG := Lib.hid (great19_any ao l.length cap l w1 rfl (hs.mod0 m1) hlen)
  have HS := Lib.hid (hs.mod0 m1)
  have HBX := Lib.hid hbx
  have M1 := Lib.hid m1
  clear hs ht hbx m1
  go_enter Tryd.func3, Tryd.ntmps3
  go_wp2_with fail
  refine HG.out.mono ?_
  rintro e w2 ⟨gb, rfl, m2, hgr⟩
  have M2 := Lib.hid (M1.out.trans' m2)
  have HBX2 := Lib.hid (m2.get HBX.out List.not_mem_nil)
  have HS2 := Lib.hid (HS.out.mod0 m2)
  have HWK := Lib.hid (wakes19_any w2 (HT.out.mod0 M2.out))
  clear m2 HG HBX M1 hw1 HS
  cases gb
  case true =>
    clear hgr
    go_wp2_with fail
    refine HWK.out.mono ?_
    rintro e w3 ⟨rfl, m3⟩
    have M3 := Lib.hid (M2.out.trans' m3)
    clear m3
    go_wp2_with fail
    go_ret
    exact ⟨rfl, M3.out⟩
  have h200 := hgr rfl
  clear hgr
  by_cases h64 : 100 < l.length
  · have D64 : decide ((100 : Int) < (l.length : Int)) = true := decide_eq_true (by omega)
    go_wp2_with fail
    refine HWK.out.mono ?_
    rintro e w3 ⟨rfl, m3⟩
    have M3 := Lib.hid (M2.out.trans' m3)
    clear m3
    go_wp2_with fail
    go_ret
    exact ⟨rfl, M3.out⟩
  have D64 : decide ((100 : Int) < (l.length : Int)) = false := decide_eq_false (by omega)
  clear HWK
  have c0 := cell_of_block (i := 0) HBX2.out
  have c1 := cell_of_block (i := 1) HBX2.out
  have c2 := cell_of_block (i := 2) HBX2.out
  have c3 := cell_of_block (i := 3) HBX2.out
  have c4 := cell_of_block (i := 4) HBX2.out
  by_cases hcf : CfgOk ba ag
  case neg =>
    have HN := Lib.hid (bnew_bad cn wi ba ag sn w2 hcf)
    have hq : decide (ba < 1) = true ∨ (decide (ba < 1) = false ∧ decide (8 < ba) = true) ∨ (decide (ba < 1) = false ∧ decide (8 < ba) = false ∧ decide (ag < 1) = true) ∨ (decide (ba < 1) = false ∧ decide (8 < ba) = false ∧ decide (ag < 1) = false ∧ decide (8 < ag) = true) := by
      simp only [decide_eq_true_eq, decide_eq_false_iff_not]
      unfold CfgOk at hcf
      omega
    clear hcf
    go_wp2_with fail
    refine HN.out.mono ?_
    rintro e w3 ⟨rfl, m3⟩
    have M3 := Lib.hid (M2.out.trans' m3)
    have HBX3 := Lib.hid (m3.get HBX2.out List.not_mem_nil)
    have HWK := Lib.hid (wakes19_any w3 (HT.out.mod0 M3.out))
    clear c0 c1 c2 c3 c4
    have c2 := cell_of_block (i := 2) HBX3.out
    have c3 := cell_of_block (i := 3) HBX3.out
    clear m3 HN HBX2 M2
    rcases hq with D1 | ⟨D1, D2⟩ | ⟨D1, D2, D3⟩ | ⟨D1, D2, D3, D4⟩
    all_goals
      go_wp2_with fail
      refine HWK.out.mono ?_
      rintro e w5 ⟨rfl, m5⟩
      have M5 := Lib.hid (M3.out.trans' m5)
      clear m5
      go_wp2_with fail
      go_ret
      exact ⟨rfl, M5.out⟩
  have HN := Lib.hid (bnew_ok cn wi ba ag sn w2 hcf)
  obtain ⟨an, rfl⟩ : ∃ an : Nat, ag = (an : Int) := ⟨ag.toNat, by have := hcf.2.2; omega⟩
  obtain ⟨bn, rfl⟩ : ∃ bn : Nat, ba = (bn : Int) := ⟨ba.toNat, by have := hcf.1; omega⟩
  have han : an ≤ 8 := by have := hcf.2.2; omega
  have hbn : bn ≤ 8 := by have := hcf.2.1; omega
  have hbn1 : 1 ≤ bn := by have := hcf.1; omega
  clear hcf
  go_wp2_with fail
  refine HN.out.mono ?_
  rintro e w3 ⟨b, F, rfl, b3, m3, n3⟩
  have S3 : Hid (AgS w2 w3 b F (bn : Int) (an : Int) ((0 : Nat) : Int) 0 none 0 [] none 0 [] none 0 [] []) := Lib.hid (AgS.new b3 m3 n3)
  clear b3 m3 n3 HN c0 c1 c2 c3 c4
  have hlen100 : l.length ≤ 100 := by omega
  clear h64 D64 h200
  go_wp2_with fail
  go_loopw [7, 8, 9, 10, 11] (fun s7 s8 s9 s10 s11 wr => ∃ (j nw : Nat) (F' : List Nat) (ai : Option Addr) (ci : Nat) (ao' : Option Addr) (co : Nat) (sa : Option Addr) (cs : Nat) (Z : List (Cm × Nat)) (out : List Cm) (R : List (Cd × Int)) (nz no : Nat) (ord : Int),
    s7 = .slice ai nz ci ∧ s8 = .slice ao' no co ∧ s9 = .slice sa nz cs ∧ s10 = .int .i64 (nw : Int) ∧ s11 = .int .i64 (j : Int) ∧ j ≤ l.length + 1 ∧ Z.length = nz ∧ out.length = no ∧ AgS w2 wr b F' (bn : Int) (an : Int) (nw : Int) ord ai ci (Z.map Prod.fst) ao' co out sa cs (Z.map Prod.snd) R ∧
      AgL an nw Z out R ∧ nz ≤ j ∧ nw ≤ 9 * j ∧ 0 ≤ ord ∧ ord ≤ (j : Int) ∧ (j = l.length + 1 → no = nz)) (fun _ _ _ _ s11 _ => l.length + 1 - (intOf s11).toNat)
  case atStart => exact ⟨0, 0, F, none, 0, none, 0, none, 0, [], [], [], 0, 0, 0, rfl, rfl, rfl, rfl, rfl, by omega, rfl, rfl, S3.out, AgL.nil an, by omega, by omega, by omega, by omega, fun h => by omega⟩
  case round =>
    obtain ⟨j, nw, F', ai, ci, ao', co, sa, cs, Z, out, R, nz, no, ord, rfl, rfl, rfl, rfl, rfl, hj, hnz, hno, hp, hq, hnzj, hnwj, o1, o2, hend⟩ := hrel
    have P := Lib.hid hp
    have Q := Lib.hid hq
    have HNZ := Lib.hid hnz
    have HNO := Lib.hid hno
    have HEND := Lib.hid hend
    clear hp hq hnz hno hend S3
    rename World => wr
    by_cases hje : j ≤ l.length
    case neg =>
      have hje' : j = l.length + 1 := by omega
      have hnn := HEND.out hje'
      subst hje'
      obtain ⟨hR, hall⟩ := Q.out.all (by rw [HNO.out, HNZ.out]; exact hnn)
      have HLN0 := blen_any b F' (bn : Int) (an : Int) (nw : Int) ord R wr P.out.bat
      rw [show (R.length : Int) = 0 by rw [hR]; rfl] at HLN0
      have HLN := Lib.hid HLN0
      have s1 : SeesC wr ai (Z.map Prod.fst) := OwnC.sees P.out.oi (fun c hc => (P.out.ein c hc).1.mod0 P.out.mod) (fun c hc => (P.out.ein c hc).2)
      have s2 : SeesC wr ao' out := OwnC.sees P.out.oo (fun c hc => (P.out.each c hc).1) (fun c hc => (P.out.each c hc).2.1)
      have HAL := all_any ai nz ci (Z.map Prod.fst) ao' no co out wr (by rw [List.length_map]; exact HNZ.out) HNO.out (by omega) (by omega) s1 s2
      rw [decide_eq_true hall] at HAL
      have HA := Lib.hid HAL
      clear HAL HLN0 s1 s2 hR hall hnn hje HEND
      have hjj : decide (((l.length + 1 : Nat) : Int) ≤ (l.length : Int)) = false := decide_eq_false (by omega)
      go_wp2_with fail
      refine HLN.out.mono ?_
      rintro e w11 ⟨rfl, rfl⟩
      go_wp2_with fail
      refine HA.out.mono ?_
      rintro e w12 ⟨rfl, m12⟩
      have M12 : Hid (Mod [] w2 w12) := Lib.hid (P.out.mod.trans' m12)
      have HWK := Lib.hid (wakes19_any w12 (HT.out.mod0 (M2.out.trans' M12.out)))
      clear m12
      go_wp2_with fail
      refine HWK.out.mono ?_
      rintro e w13 ⟨rfl, m13⟩
      have M13 := Lib.hid ((M2.out.trans' M12.out).trans' m13)
      clear m13
      go_wp2_with fail
      go_ret
      exact ⟨rfl, M13.out⟩
    have hji : (j : Int) ≤ (l.length : Int) := by omega
    clear HEND
    go_upto_if 65 with (fail)
    go_cut [12] from 56 to 162 (fun s wx => wr = wx ∧ ∃ gp : Nat, s = .int .i64 (gp : Int) ∧ gp ≤ 9 ∧ (j = l.length → gp = 9))
    case first =>
      by_cases hjl : j < l.length
      · obtain ⟨ab, off, rfl, ha⟩ := HS2.out.act hjl
        obtain ⟨⟨d, N, c⟩, hx⟩ : ∃ x, l[j] = x := ⟨_, rfl⟩
        rw [hx] at ha
        dsimp only at ha
        obtain ⟨-, a1, -⟩ := ha wr P.out.mod
        have hjl2 : (j : Int) < (l.length : Int) := by omega
        clear hx ha
        obtain ⟨g, hg, h9, hlo, hhi⟩ := gap_of N
        have e1 : IntKind.i64.wrap (N.tmod 10) = N.tmod 10 := IntWalk.i64_in _ (by omega)
        go_wp2_with fail
        go_meet
        exact ⟨rfl, g, rfl, h9, fun h => by omega⟩
      · have hjl2 : j = l.length := by omega
        subst hjl2
        go_wp2_with fail
        go_meet
        exact ⟨rfl, 9, rfl, by omega, fun _ => rfl⟩
    case rest =>
    obtain ⟨rfl, gp, rfl, hg9, hgl⟩ := hcut
    have HGL := Lib.hid hgl
    clear hgl
    go_wp2_with fail
    go_loopw [8, 10, 13] (fun s8 s10 s13 wx => ∃ (k nw' : Nat) (F2 : List Nat) (ao2 : Option Addr) (co2 : Nat) (out2 : List Cm) (R2 : List (Cd × Int)) (no2 : Nat),
      s8 = .slice ao2 no2 co2 ∧ s10 = .int .i64 (nw' : Int) ∧ s13 = .int .i64 (k : Int) ∧ k ≤ gp + 1 ∧ out2.length = no2 ∧ AgS w2 wx b F2 (bn : Int) (an : Int) (nw' : Int) ord ai ci (Z.map Prod.fst) ao2 co2 out2 sa cs (Z.map Prod.snd) R2 ∧ AgL an nw' Z out2 R2 ∧
        (k ≤ gp → nw' = nw + k) ∧ (k = gp + 1 → nw' = nw + gp ∧ (gp = 9 → no2 = nz))) (fun _ _ s13 _ => gp + 1 - (intOf s13).toNat)
    case atStart => exact ⟨0, nw, F', ao', co, out, R, no, rfl, rfl, rfl, by omega, HNO.out, P.out, Q.out, fun _ => rfl, fun h => by omega⟩
    case round =>
      obtain ⟨k, nw', F2, ao2, co2, out2, R2, no2, rfl, rfl, rfl, hk, hno2, hp2, hq2, hk1, hk2⟩ := hrel
      have P2 := Lib.hid hp2
      have Q2 := Lib.hid hq2
      have HNO2 := Lib.hid hno2
      have HK1 := Lib.hid hk1
      have HK2 := Lib.hid hk2
      clear hp2 hq2 hno2 hk1 hk2
      rename World => wx
      by_cases hkg : k ≤ gp
      case neg =>
        have hke : k = gp + 1 := by omega
        obtain ⟨hnw', hn9⟩ := HK2.out hke
        subst hke
        have HN9 := Lib.hid hn9
        have hnb : nw' ≤ 9 * j + 9 := by omega
        clear hnw'
        clear hn9 HK1 HK2 P Q hk hkg
        by_cases hjl : j < l.length
        case neg =>
          have hje2 : j = l.length := by omega
          have h9 := HGL.out hje2
          have hfin := HN9.out h9
          have HFIN := Lib.hid hfin
          clear hfin HN9 hjl HGL h9
          subst hje2
          go_wp2_with fail
          go_roundw
          case rel => exact ⟨l.length + 1, nw', F2, ai, ci, ao2, co2, sa, cs, Z, out2, R2, nz, no2, ord, rfl, rfl, rfl, rfl, by go_num, by omega, HNZ.out, HNO2.out, P2.out, Q2.out, by omega, by omega, by omega, by omega, fun _ => HFIN.out⟩
          case measure => simp [intOf]
        obtain ⟨ab, off, rfl, ha⟩ := HS2.out.act hjl
        obtain ⟨_, _, -, -, hk0, hw0⟩ := HS2.out j hjl
        obtain ⟨⟨d, N, c⟩, hx⟩ : ∃ x, l[j] = x := ⟨_, rfl⟩
        rw [hx] at ha hk0 hw0
        dsimp only at ha hk0 hw0
        have HA := Lib.hid ha
        have HK := Lib.hid hk0
        have HW := Lib.hid hw0
        have hjl2 : (j : Int) < (l.length : Int) := by omega
        clear hx ha hk0 hw0 HN9 HGL
        obtain ⟨-, -, a2, a3, a4, a5, a6, a7, a8⟩ := HA.out wx P2.out.mod
        have HPB := Lib.hid (bput_any b F2 (bn : Int) (an : Int) (nw' : Int) ord R2 c 0 wx P2.out.bat (by omega) (by omega) (by omega) HW.out (HK.out.mod0 P2.out.mod) (fun hne k hk hf => by
          have := HK.out.lt hne k hk
          have := P2.out.fnew k hf
          omega) (HT.out.mod0 (M2.out.trans' P2.out.mod)))
        go_wp2_with fail
        refine HPB.out.mono ?_
        rintro e w7 ⟨rfl, ord7, oa, ob, F7, mv1, mv2, mv3⟩
        have P7 := Lib.hid (P2.out.batE mv1 mv2 mv3)
        obtain ⟨v, hv⟩ : ∃ v, putE (an : Int) R2 c.1 0 = v := ⟨_, rfl⟩
        have hvc := putE_is (an : Int) R2 c.1 0
        rw [hv] at hvc ⊢
        have HVV := Lib.hid hv
        clear hv mv1 mv2 mv3 HPB P2 a2 a3 a4 a5 a6 a7 a8
        rcases hvc with rfl | rfl | rfl
        case inl =>
          have hRl : putL (an : Int) (nw' : Int) R2 c.1 0 = R2 ++ [(c.1, (nw' : Int) + (an : Int) - 0)] := by
            unfold putL
            rw [if_pos HVV.out]
          have P8 : Hid (AgS w2 w7 b F7 (bn : Int) (an : Int) (nw' : Int) ord7 ai ci (Z.map Prod.fst) ao2 co2 out2 sa cs (Z.map Prod.snd) (R2 ++ [(c.1, (nw' : Int) + (an : Int) - 0)])) := Lib.hid (by rw [← hRl]; exact P7.out)
          have Q8 := Lib.hid (Q2.out.put c)
          clear hRl P7
          obtain ⟨-, -, a2, a3, a4, a5, a6, a7, a8⟩ := HA.out w7 P8.out.mod
          have hb9 := heap_alloc_new w7 (.cells #[.int .u32 (c.1.client : Int), .int .u32 (c.1.seq : Int), .int .u8 (c.1.kind : Int), .slice c.2.1 c.1.keys.length c.2.2, .string c.1.old, .string c.1.fresh, .int .i64 c.1.n] 36)
          have m9 := Mod.alloc [] w7 (.cells #[.int .u32 (c.1.client : Int), .int .u32 (c.1.seq : Int), .int .u8 (c.1.kind : Int), .slice c.2.1 c.1.keys.length c.2.2, .string c.1.old, .string c.1.fresh, .int .i64 c.1.n] 36)
          have HSH := Lib.hid (showsC (x := c) hb9)
          have P9 := Lib.hid (P8.out.still m9)
          have hlz : (Z.map Prod.fst).length = nz := by rw [List.length_map]; exact HNZ.out
          have HLZ := Lib.hid hlz
          have hol6 : nz + 1 ≤ 1000000 := by omega
          clear hb9 m9 P8 hlz
          go_wp2_with (first | (at_builtin; refine wpl_appC (dst := some 158) _ _ ai nz ci (Z.map Prod.fst) rfl HLZ.out P9.out.oi _ c rfl HSH.out hol6 ?_) | fail)
          intro ai8 c8 w8 o8 m8 n8
          have P10 := Lib.hid (P9.out.pushI o8 m8 n8 ⟨HK.out, HW.out⟩)
          have hbi := heap_alloc_new w8 (.cells #[.int .i64 (nw' : Int)] 3)
          have mI := Mod.alloc [] w8 (.cells #[.int .i64 (nw' : Int)] 3)
          have HSI := Lib.hid (showsI1 (x := nw') hbi)
          have P11 := Lib.hid (P10.out.still mI)
          have hls : (Z.map Prod.snd).length = nz := by rw [List.length_map]; exact HNZ.out
          have HLS := Lib.hid hls
          have hol7 : nz + 1 ≤ 1000000000 := by omega
          clear o8 m8 n8 a2 a3 a4 a5 a6 a7 a8 hbi mI hls P9 P10
          go_wp2_with (first | (at_builtin; refine wpl_appI (dst := some 162) _ _ sa nz cs (Z.map Prod.snd) rfl HLS.out P11.out.os _ 1 _ [nw'] rfl rfl HSI.out hol7 ?_) | fail)
          intro sa9 c9 w9 o9 m9 n9
          have P12 := Lib.hid (P11.out.pushS o9 m9 n9)
          clear o9 m9 n9 P11
          go_wp2_with fail
          go_roundw
          case rel => exact ⟨j + 1, nw', F7, ai8, c8, ao2, co2, sa9, c9, Z ++ [(c, nw')], out2, R2 ++ [(c.1, (nw' : Int) + (an : Int) - 0)], nz + 1, no2, ord7, rfl, rfl, rfl, rfl, by go_num, by omega, by rw [List.length_append, HNZ.out]; rfl, HNO2.out, by rw [List.map_append, List.map_append]; exact P12.out, Q8.out, by omega, by omega, by omega, by omega, fun h => by omega⟩
          case measure => simp [intOf]; omega
        all_goals
          have hRl : putL (an : Int) (nw' : Int) R2 c.1 0 = R2 := putL_no (by rw [HVV.out]; decide)
          have P8 : Hid (AgS w2 w7 b F7 (bn : Int) (an : Int) (nw' : Int) ord7 ai ci (Z.map Prod.fst) ao2 co2 out2 sa cs (Z.map Prod.snd) R2) := Lib.hid (by rw [← hRl]; exact P7.out)
          clear hRl P7
          go_wp2_with fail
          go_roundw
          case rel => exact ⟨j + 1, nw', F7, ai, ci, ao2, co2, sa, cs, Z, out2, R2, nz, no2, ord7, rfl, rfl, rfl, rfl, by go_num, by omega, HNZ.out, HNO2.out, P8.out, Q2.out, by omega, by omega, by omega, by omega, fun h => by omega⟩
          case measure => simp [intOf]; omega
      have hkg2 : (k : Int) ≤ (gp : Int) := by omega
      have hnw' : nw' = nw + k := HK1.out hkg
      have hnb : nw' ≤ 9 * j + 9 := by omega
      have HNW := Lib.hid hnw'
      clear hnw'
      clear HK1 HK2
      go_wp2_with fail
      go_loopw [8] (fun s8 wz => ∃ (F3 : List Nat) (ao3 : Option Addr) (co3 : Nat) (out3 : List Cm) (R3 : List (Cd × Int)) (no3 : Nat),
        s8 = .slice ao3 no3 co3 ∧ out3.length = no3 ∧ AgS w2 wz b F3 (bn : Int) (an : Int) (nw' : Int) ord ai ci (Z.map Prod.fst) ao3 co3 out3 sa cs (Z.map Prod.snd) R3 ∧ AgL an nw' Z out3 R3) (fun s8 _ => nz - lenV s8)
      case atStart => exact ⟨F2, ao2, co2, out2, R2, no2, rfl, HNO2.out, P2.out, Q2.out⟩
      case round =>
        obtain ⟨F3, ao3, co3, out3, R3, no3, rfl, hno3, hp3, hq3⟩ := hrel
        have P3 := Lib.hid hp3
        have Q3 := Lib.hid hq3
        have HNO3 := Lib.hid hno3
        clear hp3 hq3 hno3
        rename World => wz
        have HRD0 := bready_any b F3 (bn : Int) (an : Int) (nw' : Int) ord R3 wz P3.out.bat
        obtain ⟨t, ht⟩ : ∃ t, readyB (bn : Int) (nw' : Int) R3 = t := ⟨_, rfl⟩
        rw [ht] at HRD0
        have HRD := Lib.hid HRD0
        have HTT := Lib.hid ht
        clear HRD0 ht
        go_wp2_with fail
        refine HRD.out.mono ?_
        rintro e wy ⟨rfl, my⟩
        have P4 := Lib.hid (P3.out.still my)
        have HBXy := Lib.hid (P4.out.mod.get HBX2.out List.not_mem_nil)
        clear my HRD P3
        cases t
        case true =>
          have HNX := Lib.hid (bnext_any b F3 (an : Int) (nw' : Int) ord R3 bn wy P4.out.bat (by omega))
          go_wp2_with fail
          refine HNX.out.mono ?_
          rintro e w5 ⟨am, cm, ms, F5, he, hms, b5, m5, n5, o5⟩
          rw [HTT.out, if_pos rfl] at hms b5
          rw [HTT.out] at he
          obtain ⟨q5, hml⟩ := Q3.out.next bn hms
          have hon : no3 < nz := by have h := Q3.out.ready HTT.out; rw [HNO3.out, HNZ.out] at h; exact h
          have hRL := Q3.out.len
          rw [HNO3.out, HNZ.out] at hRL
          obtain ⟨m, hm⟩ : ∃ m, ms.length = m := ⟨_, rfl⟩
          rw [hm] at he hml
          subst he
          have hm1 : 1 ≤ m := by omega
          have hm2 : m ≤ bn := by omega
          have hm3 : no3 + m ≤ nz := by omega
          have P5 := Lib.hid (P4.out.batE b5 m5 n5)
          have HBX5 := Lib.hid (P5.out.mod.get HBX2.out List.not_mem_nil)
          have c2 := cell_of_block (i := 2) HBX5.out
          have HSH : Hid (Shows w5 am (cellsC ms)) := Lib.hid o5.own.shows
          have Q5 := Lib.hid q5
          have HM := Lib.hid hm
          have B5 := Lib.hid b5
          have M5 := Lib.hid m5
          have N5 := Lib.hid n5
          have O5 := Lib.hid o5
          have hol6 : no3 + m ≤ 1000000 := by omega
          have D1 : ((m : Int) == 0) = false := by
            rw [beq_eq_false_iff_ne]
            omega
          have D2 : decide (bn < m) = false := decide_eq_false (by omega)
          have D3 : decide (nz < no3 + m) = false := decide_eq_false (by omega)
          have e1 : IntKind.i64.wrap ((no3 : Int) + (m : Int)) = (no3 : Int) + (m : Int) := IntWalk.i64_in _ (by omega)
          clear hms b5 m5 n5 o5 q5 hml hRL hm HNX hm2
          go_wp2_with (first | (at_builtin; refine wpl_appCs (dst := some 112) _ _ ao3 no3 co3 out3 rfl HNO3.out P5.out.oo am m cm ms rfl HM.out HSH.out hol6 ?_) | fail)
          intro ao6 co6 w6 o6 m6 n6
          have P6 := Lib.hid (P4.out.next B5.out M5.out N5.out O5.out o6 m6 n6)
          clear o6 m6 n6 c2 D1 D2 D3 e1
          go_wp2_with fail
          go_roundw
          case rel => exact ⟨F5, ao6, co6, out3 ++ ms, _, no3 + m, rfl, by rw [List.length_append, HNO3.out, HM.out], P6.out, Q5.out⟩
          case measure => simp [lenV]; omega
        go_upto_region 23 with (fail)
        go_cut [129] from 74 to 136 (fun s wx => s = .bool false ∧ Mod [] wy wx)
        case first =>
          have c3 := cell_of_block (i := 3) HBXy.out
          by_cases hon : no3 < nz
          · have hl3 : out3.length < Z.length := by rw [HNO3.out, HNZ.out]; exact hon
            have hlate := Q3.out.late HTT.out hl3
            have hd := OwnI.at' P4.out.os (j := out3.length) (by rw [List.length_map]; exact hl3)
            rw [List.getElem_map] at hd
            obtain ⟨zs, hzs⟩ : ∃ zs, Z[out3.length].2 = zs := ⟨_, rfl⟩
            have hzt := Q3.out.top _ (List.getElem_mem hl3)
            rw [hzs] at hlate hd hzt
            rw [HNO3.out] at hd
            obtain ⟨g, rfl, d0⟩ := hd
            have D0 : decide ((no3 : Int) < (nz : Int)) = true := decide_eq_true (by omega)
            have i1 : (0 : Int) ≤ (no3 : Int) := by omega
            have i2 : (no3 : Int) < (nz : Int) := by omega
            have D1 : decide ((an : Int) ≤ (nw' : Int) - (zs : Int)) = false := decide_eq_false (by omega)
            have e1 : IntKind.i64.wrap ((nw' : Int) - (zs : Int)) = (nw' : Int) - (zs : Int) := IntWalk.i64_in _ (by omega)
            clear hl3 hlate hzs hzt hon
            go_quiet (fail)
            go_wp2
            go_meet
            exact ⟨rfl, Mod.drewN _ _ _⟩
          · have D0 : decide ((no3 : Int) < (nz : Int)) = false := decide_eq_false (by omega)
            go_quiet (fail)
            go_wp2
            go_meet
            exact ⟨rfl, Mod.drewN _ _ _⟩
        case rest =>
        obtain ⟨rfl, hmq⟩ := hcut
        have P7 := Lib.hid (P4.out.still hmq)
        clear hmq P4
        by_cases hkk : k < gp
        · have hkk2 : (k : Int) < (gp : Int) := by omega
          rename World => wq
          have HTK := Lib.hid (btick_any b F3 (bn : Int) (an : Int) (nw' : Int) ord R3 wq P7.out.bat (by omega))
          go_wp2_with fail
          refine HTK.out.mono ?_
          rintro e w8 ⟨rfl, F7, mv1, mv2, mv3⟩
          have P8 : Hid (AgS w2 w8 b F7 (bn : Int) (an : Int) ((nw' + 1 : Nat) : Int) ord ai ci (Z.map Prod.fst) ao3 co3 out3 sa cs (Z.map Prod.snd) R3) := Lib.hid (P7.out.batE mv1 mv2 mv3)
          clear mv1 mv2 mv3 HTK P7
          go_wp2_with fail
          go_roundw
          case rel => exact ⟨k + 1, nw' + 1, F7, ao3, co3, out3, R3, no3, rfl, by go_num, by go_num, by omega, HNO3.out, P8.out, Q3.out.tick, fun _ => by have := HNW.out; omega, fun h => by omega⟩
          case measure => simp [intOf]; omega
        · have hkk2 : ¬ ((k : Int) < (gp : Int)) := by omega
          have hfin : gp = 9 → no3 = nz := fun h9 => by
            have h := Q3.out.done HTT.out Q.out.top (by have := HNW.out; omega : nw + an ≤ nw')
            rw [HNO3.out, HNZ.out] at h
            exact h
          have HFIN := Lib.hid hfin
          clear hfin
          go_wp2_with fail
          go_roundw
          case rel => exact ⟨k + 1, nw', F3, ao3, co3, out3, R3, no3, rfl, rfl, by go_num, by omega, HNO3.out, P7.out, Q3.out, fun h => by omega, fun _ => ⟨by have := HNW.out; omega, HFIN.out⟩⟩
          case measure => simp [intOf]; omega
end Go.Proofs.YtigamomoegpefaaDoor
