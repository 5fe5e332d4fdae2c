/- The walk of PoolPlays. -/
import Derived.Test.YtfpmdacpmcdleaaPoolPlays1
import Derived.BigQuiet
import Derived.Deep.CutRange
import Derived.Deep.CutBlock
namespace Go.Proofs.Ytfpmdacpmcdleaa
open Go Go.RowKit Go.Lib

set_option maxRecDepth 100000 in
set_option maxHeartbeats 16000000 in
theorem plays_ok (n sz : Nat) (ao : Option Addr) (cap : Nat) (l : List Ac) (w : World) (h1 : 1 ≤ n) (h2 : n ≤ 50) (h3 : 1 ≤ sz) (h4 : sz ≤ 100) (h5 : l.length ≤ 200) (hs : SeesA w ao l) :
    Calls Try.prog 3 #[.int .i64 (n : Int), .int .i64 (sz : Int), .slice ao l.length cap] w fun e w' => e = .returned (.bool true) ∧ Mod [] w w' := by
  have HS := Lib.hid hs
  clear hs
  go_enter Try.func3, Try.ntmps3
  go_wp2_with fail
  refine (new_ok n sz w h1 (by omega) h3 (by omega)).mono ?_
  rintro e w1 ⟨g, F, rfl, p1, m1, n1⟩
  have P1 := Lib.hid p1
  have M1 := Lib.hid m1
  have N1 := Lib.hid n1
  clear p1 m1 n1
  go_wp2_with fail
  refine (rnew_any n sz w1 (by omega)).mono ?_
  rintro e w2 ⟨h, F2, rfl, r2, m2, n2⟩
  have R2 : Hid (PlayRel w g h n sz 0 none 0 [] (List.replicate n ([], 0, false)) (List.range n).reverse F F2 w2) := by
    refine ⟨P1.out.mod0 m2, by rw [List.reverse_reverse]; exact r2, Own.nil0 _ _ _, by simp, by simp, by simp, fun j hj => ⟨N1.out j hj, fun hm => ?_, by simp [blk]⟩, fun j hj => ⟨Nat.le_trans M1.out.size (n2 j hj), by simp [blk]⟩, by simp [blk], M1.out.trans' m2⟩
    have := P1.out.lt j hj
    have := n2 j hm
    omega
  clear P1 M1 N1 r2 m2 n2
  go_wp2_with fail
  go_loopw [14, 15] (fun hv i wr => ∃ (k : Nat) (ha : Option Addr) (hc : Nat) (hd : List (Int × Int)) (L : List Bm) (fr : List Nat) (F F' : List Nat), k ≤ l.length ∧ i = .int .i64 (k : Int) ∧ hv = .slice ha hd.length hc ∧ PlayRel w g h n sz k ha hc hd L fr F F' wr) (fun _ i _ => l.length - (intOf i).toNat)
  case atStart => exact ⟨0, none, 0, [], _, _, F, F2, Nat.zero_le _, rfl, rfl, R2.out⟩
  case round =>
    obtain ⟨k, ha, hc, hd, L, fr, F, F', hk, rfl, rfl, hrel⟩ := hrel
    have HR := Lib.hid hrel
    have HW := Lib.hid hrel.2.2.2.2.2.2.2.2.2
    have hhl := hrel.2.2.2.2.2.1
    clear hrel R2
    by_cases hlt : k < l.length
    · obtain ⟨b, off, rfl, p0, p1, p2, p3, p4, ps, q1, q2, q3⟩ := HS.out k hlt
      obtain ⟨⟨d, kk, I, G, xa, xc, bs⟩, hx⟩ : ∃ x, l[k] = x := ⟨_, rfl⟩
      rw [hx] at p0 p1 p2 p3 p4 ps q1 q2 q3
      dsimp only at p0 p1 p2 p3 p4 ps q1 q2 q3
      have PS := Lib.hid ps
      have P0 := Lib.hid p0
      have P4 := Lib.hid p4
      have p1 := HW.out.cell p1 (by simp)
      have p2 := HW.out.cell p2 (by simp)
      have p3 := HW.out.cell p3 (by simp)
      clear hx ps p0 p4
      have hki : (k : Int) < (l.length : Int) := by omega
      go_upto_region 16 with (fail)
      have ma := Mod.alloc [] wr (.cells #[.int .i64 I, .int .u32 G] 29)
      have X0 := Lib.hid (heap_alloc_new wr (.cells #[.int .i64 I, .int .u32 G] 29))
      have R0 := Lib.hid (HR.out.mod0 ma)
      have B0 := Lib.hid (HR.out.mine wr.heap.size (Nat.le_refl _))
      have MV := Lib.hid ma
      have p1 := ma.cell p1 (by simp)
      have hbb : b < wr.heap.size := World.block_lt_of_cell? wr _ p3
      clear ma p2 p3
      generalize hhb : wr.heap.size = hb at *
      generalize wr.alloc (.cells #[.int .i64 I, .int .u32 G] 29) = v at *
      go_cut [137] from 116 to 300 (fun s wx => v = wx ∧ ∃ t : Bool, s = .bool t ∧ (t = true → 0 < hd.length ∧ 0 ≤ kk))
      case first =>
        as_aux_lemma =>
          clear hhb
          by_cases hz : hd.length = 0
          · have hd0 : decide (0 < hd.length) = false := decide_eq_false (by omega)
            go_wp2
            go_meet
            exact ⟨rfl, false, rfl, fun h => by cases h⟩
          · have hd0 : decide (0 < hd.length) = true := decide_eq_true (by omega)
            by_cases hkk : 0 ≤ kk
            · have hd1 : decide (0 ≤ kk) = true := by simpa using hkk
              go_wp2
              go_meet
              exact ⟨rfl, true, rfl, fun _ => ⟨by omega, hkk⟩⟩
            · have hd1 : decide (0 ≤ kk) = false := by simpa using hkk
              go_wp2
              go_meet
              exact ⟨rfl, false, rfl, fun h => by cases h⟩
      case rest =>
        obtain ⟨rfl, t, rfl, ht⟩ := hcut
        go_upto_if 137 with (fail)
        go_cut [] from 116 to 300 (fun wx => ∃ I' G', wx.heap[hb]? = some (.cells #[.int .i64 I', .int .u32 G'] 29 (0, 0)) ∧ Mod [hb] v wx)
        case first =>
          as_aux_lemma =>
            clear hhb
            cases t with
            | false =>
              go_wp2
              go_meet
              exact ⟨I, G, X0.out, Mod.refl _ _⟩
            | true =>
              obtain ⟨ht1, ht2⟩ := ht rfl
              obtain ⟨kn, rfl⟩ := Int.eq_ofNat_of_zero_le ht2
              have hml : kn % hd.length < hd.length := Nat.mod_lt _ ht1
              obtain ⟨gh, rfl, e1, e2⟩ := OwnH.at' R0.out.2.2.1 hml
              have c0 := cell_of_block (i := 0) X0.out
              have c1 := cell_of_block (i := 1) X0.out
              have f0 := free_of_block (i := 0) X0.out
              have f1 := free_of_block (i := 1) X0.out
              have hlv := lt_of_block X0.out
              have hm0 : (0 : Int) ≤ (kn : Int) % (hd.length : Int) := Int.emod_nonneg _ (by omega)
              have hm1 : (kn : Int) % (hd.length : Int) < (hd.length : Int) := Int.emod_lt_of_pos _ (by omega)
              have hm2 : ((kn : Int) % (hd.length : Int)).toNat = kn % hd.length := by omega
              have hlc := Own.le R0.out.2.2.1
              have hcm := Own.cap_le R0.out.2.2.1
              unfold maxLen at hcm
              clear ht
              go_wp2
              trace_state
              go_meet
              exact ⟨_, _, two_set X0.out _ _, two_mod _ _ _ _⟩
        case rest =>
          obtain ⟨I2, G2, x2, m2⟩ := hcut
          have X2 := Lib.hid x2
          have R2 := Lib.hid (R0.out.own m2 (fun x hx => by simp at hx; subst hx; exact B0.out))
          have W2 := Lib.hid R2.out.2.2.2.2.2.2.2.2.2
          have p0 := W2.out.cell P0.out (by simp)
          clear x2 m2 ht X0 R0 p1 HW HR
          go_upto_block 2 with (fail)
          go_cut [14, 17] from 116 to 300 (fun hv ok wx => ok = .bool true ∧ ∃ (ha : Option Addr) (hc : Nat) (hd : List (Int × Int)) (L : List Bm) (fr : List Nat) (F F' : List Nat), hv = .slice ha hd.length hc ∧ PlayRel w g h n sz (k + 1) ha hc hd L fr F F' wx)
          case first =>
            have hd4 : d % 4 = 0 ∨ d % 4 = 1 ∨ d % 4 = 2 ∨ d % 4 = 3 := by omega
            have hhl := R2.out.2.2.2.2.2.1
            have HLn := Lib.hid R2.out.2.2.2.1
            have hfl := R2.out.2.2.2.2.1
            rcases hd4 with hr | hr | hr | hr
            · have hr0 : (d : Int) % 4 = 0 := by omega
              clear hr
              rcases List.eq_nil_or_concat fr with hfr | ⟨fr', i, hfr⟩
              · subst hfr
                have R2 := R2
                go_wp2_with fail
                refine (get_fullw g F sz L _ R2.out.1).mono ?_
                rintro e w3 ⟨rfl, m3⟩
                have R3 := Lib.hid ((R2.out.mod0 m3).mod0 (Mod.alloc [] w3 (.cells #[.int .i64 0, .int .u32 0] 29)))
                clear m3 R2
                go_wp2_with fail
                refine (rget_none h F' sz L _ R3.out.2.1).mono ?_
                rintro e w4 ⟨rfl, rfl⟩
                go_wp2
                go_meet
                exact ⟨rfl, ha, hc, hd, L, [], F, F', rfl, R3.out.next⟩
              · rw [List.concat_eq_append] at hfr
                subst hfr
                as_aux_lemma =>
                  have hi : i < L.length := by
                    obtain ⟨b', lc', fa', fc', ab', bufs', arr', _, _, _, _, h4'⟩ := R2.out.1
                    exact h4' i (by simp)
                  have hrev : (fr' ++ [i]).reverse = i :: fr'.reverse := by simp
                  have HV := Lib.hid hrev
                  clear hrev
                  go_wp2_with fail
                  refine (get_w g F sz L fr' i hi _ R2.out.1).mono ?_
                  rintro e w3 ⟨rfl, pm⟩
                  obtain ⟨gn, hgn⟩ : ∃ gn, IntKind.u32.wrap (L[i].2.1 + 1) = gn := ⟨_, rfl⟩
                  rw [hgn] at pm ⊢
                  have HG := Lib.hid hgn
                  have ma := Mod.alloc [] w3 (.cells #[.int .i64 (i : Int), .int .u32 gn] 29)
                  have PM := Lib.hid (pm.on ma)
                  have X3 := Lib.hid (heap_alloc_new w3 (.cells #[.int .i64 (i : Int), .int .u32 gn] 29))
                  obtain ⟨F3, -, mf, -⟩ := PM.out
                  have RF := Lib.hid (R2.out.ref1 mf)
                  have hbx : Hid (w3.heap.size ∉ F') := fun hm => by
                    have h9 := R2.out.2.1.lt _ hm
                    obtain ⟨_, _, mf3, _⟩ := pm
                    have := mf3.size
                    omega
                  rw [HV.out] at RF
                  clear hgn ma pm mf
                  go_wp2_with fail
                  generalize hbxe : w3.heap.size = bx at *
                  generalize w3.alloc (.cells #[.int .i64 (i : Int), .int .u32 gn] 29) = v3 at *
                  clear hbxe
                  refine (rget_ok h F' sz L fr'.reverse i v3 hi RF.out (by simp at hfl ⊢; omega)).mono ?_
                  rintro e w4 ⟨rfl, rm⟩
                  rw [HG.out] at rm
                  have R4 := R2.out.both PM.out rm (by simpa using HLn.out) (by simp at hfl ⊢; omega)
                  obtain ⟨F4, F4', r4, f4, f4'⟩ := R4
                  have X4 : Hid (w4.heap[bx]? = some (.cells #[.int .i64 (i : Int), .int .u32 gn] 29 (0, 0))) := by
                    obtain ⟨_, _, mr, _⟩ := rm
                    exact mr.get X3.out hbx.out
                  have hi4 : i < (L.set i ([], gn, true)).length := by simpa using hi
                  obtain ⟨gb, gc, e1, e2, e3, e5⟩ := r4.2.1.gen hi4
                  simp only [List.getElem_set_self] at e2
                  have hlen4 : (L.set i ([], gn, true)).length = L.length := by simp
                  rw [hlen4] at e1 e3
                  unfold maxLen at e5
                  have RR4 := Lib.hid r4
                  have hii : (i : Int) < (L.length : Int) := by omega
                  have x0 := cell_of_block (i := 0) X4.out
                  have x1 := cell_of_block (i := 1) X4.out
                  clear r4 f4 f4' rm PM X3 RF hbx R2 hlen4
                  go_upto_region 25 with (fail)
                  refine rest_start [] 21 #[false, false, false, false, false, false, false, false, false, false, false, false, false, false, false, false, false, false, false, false, false] rfl (by kernel_rfl) (by kernel_rfl) ?_
                  intro w5 m5
                  have RR5 := Lib.hid (RR4.out.mod0 m5)
                  have X5 := Lib.hid (m5.get X4.out (by simp))
                  have e1 := m5.cell e1 (by simp)
                  have e2 := m5.cell e2 (by simp)
                  have x0 := m5.cell x0 (by simp)
                  have x1 := m5.cell x1 (by simp)
                  clear m5 RR4 X4
                  refine rest_got (i := 0) (v := ?v1) rfl (by kernel_rfl) (by kernel_rfl) (by kernel_rfl) (fun _ _ _ h => h) (by rfl) ?y1 ?r1
                  case y1 => (intro w9q hSwq; clear hSwq; go_simp; with_reducible rfl)
                  try simp only [Act.put, List.setIfInBounds_toArray, List.set_cons_zero, List.set_cons_succ]
                  refine rest_got (i := 1) (v := ?v2) rfl (by kernel_rfl) (by kernel_rfl) (by kernel_rfl) (fun _ _ _ h => h) (by rfl) ?y2 ?r2
                  case y2 => (intro w9q hSwq; clear hSwq; go_simp; with_reducible rfl)
                  try simp only [Act.put, List.setIfInBounds_toArray, List.set_cons_zero, List.set_cons_succ]
                  refine rest_got (i := 2) (v := ?v3) rfl (by kernel_rfl) (by kernel_rfl) (by kernel_rfl) (fun _ _ _ h => h) (by rfl) ?y3 ?r3
                  case y3 => (intro w9q hSwq; clear hSwq; go_simp; with_reducible rfl)
                  try simp only [Act.put, List.setIfInBounds_toArray, List.set_cons_zero, List.set_cons_succ]
                  refine rest_got (i := 3) (v := ?v4) rfl (by kernel_rfl) (by kernel_rfl) (by kernel_rfl) (fun _ _ _ h => h) (by rfl) ?y4 ?r4
                  case y4 => (intro w9q hSwq; clear hSwq; go_simp; with_reducible rfl)
                  try simp only [Act.put, List.setIfInBounds_toArray, List.set_cons_zero, List.set_cons_succ]
                  refine rest_got (i := 4) (v := ?v5) rfl (by kernel_rfl) (by kernel_rfl) (by kernel_rfl) (fun _ _ _ h => h) (by rfl) ?y5 ?r5
                  case y5 => ((intro w9' hm9'; have hc9' := Mod.cell hm9' x0 (by first | exact List.not_mem_nil | (simp; done) | (simp; omega)); clear hm9'; go_simp; with_reducible rfl))
                  try simp only [Act.put, List.setIfInBounds_toArray, List.set_cons_zero, List.set_cons_succ]
                  refine rest_got (i := 5) (v := ?v6) rfl (by kernel_rfl) (by kernel_rfl) (by kernel_rfl) (fun _ _ _ h => h) (by rfl) ?y6 ?r6
                  case y6 => (intro w9q hSwq; clear hSwq; go_simp; with_reducible rfl)
                  try simp only [Act.put, List.setIfInBounds_toArray, List.set_cons_zero, List.set_cons_succ]
                  refine rest_got (i := 6) (v := ?v7) rfl (by kernel_rfl) (by kernel_rfl) (by kernel_rfl) (fun _ _ _ h => h) (by rfl) ?y7 ?r7
                  case y7 => (intro w9q hSwq; clear hSwq; go_simp; with_reducible rfl)
                  try simp only [Act.put, List.setIfInBounds_toArray, List.set_cons_zero, List.set_cons_succ]
                  refine rest_got (i := 7) (v := ?v8) rfl (by kernel_rfl) (by kernel_rfl) (by kernel_rfl) (fun _ _ _ h => h) (by rfl) ?y8 ?r8
                  case y8 => (intro w9q hSwq; clear hSwq; go_simp; with_reducible rfl)
                  try simp only [Act.put, List.setIfInBounds_toArray, List.set_cons_zero, List.set_cons_succ]
                  refine rest_got (i := 8) (v := ?v9) rfl (by kernel_rfl) (by kernel_rfl) (by kernel_rfl) (fun _ _ _ h => h) (by rfl) ?y9 ?r9
                  case y9 => (intro w9q hSwq; clear hSwq; go_simp; with_reducible rfl)
                  try simp only [Act.put, List.setIfInBounds_toArray, List.set_cons_zero, List.set_cons_succ]
                  refine rest_got (i := 9) (v := ?v10) rfl (by kernel_rfl) (by kernel_rfl) (by kernel_rfl) (fun _ _ _ h => h) (by rfl) ?y10 ?r10
                  case y10 => (intro w9q hSwq; clear hSwq; go_simp; with_reducible rfl)
                  try simp only [Act.put, List.setIfInBounds_toArray, List.set_cons_zero, List.set_cons_succ]
                  refine rest_got (i := 10) (v := ?v11) rfl (by kernel_rfl) (by kernel_rfl) (by kernel_rfl) (fun _ _ _ h => h) (by rfl) ?y11 ?r11
                  case y11 => ((intro w9' hm9'; have hc9' := Mod.cell hm9' x1 (by first | exact List.not_mem_nil | (simp; done) | (simp; omega)); clear hm9'; go_simp; with_reducible rfl))
                  try simp only [Act.put, List.setIfInBounds_toArray, List.set_cons_zero, List.set_cons_succ]
                  refine rest_got (i := 11) (v := ?v12) rfl (by kernel_rfl) (by kernel_rfl) (by kernel_rfl) (fun _ _ _ h => h) (by rfl) ?y12 ?r12
                  case y12 => (intro w9q hSwq; clear hSwq; go_simp; with_reducible rfl)
                  try simp only [Act.put, List.setIfInBounds_toArray, List.set_cons_zero, List.set_cons_succ]
                  refine rest_got (i := 12) (v := ?v13) rfl (by kernel_rfl) (by kernel_rfl) (by kernel_rfl) (fun _ _ _ h => h) (by rfl) ?y13 ?r13
                  case y13 => (intro w9q hSwq; clear hSwq; go_simp; with_reducible rfl)
                  try simp only [Act.put, List.setIfInBounds_toArray, List.set_cons_zero, List.set_cons_succ]
                  refine rest_got (i := 13) (v := ?v14) rfl (by kernel_rfl) (by kernel_rfl) (by kernel_rfl) (fun _ _ _ h => h) (by rfl) ?y14 ?r14
                  case y14 => (intro w9q hSwq; clear hSwq; go_simp; with_reducible rfl)
                  try simp only [Act.put, List.setIfInBounds_toArray, List.set_cons_zero, List.set_cons_succ]
                  refine rest_got (i := 14) (v := ?v15) rfl (by kernel_rfl) (by kernel_rfl) (by kernel_rfl) (fun _ _ _ h => h) (by rfl) ?y15 ?r15
                  case y15 => ((intro w9' hm9'; have hc9' := Mod.cell hm9' e1 (by first | exact List.not_mem_nil | (simp; done) | (simp; omega)); clear hm9'; go_simp; with_reducible rfl))
                  try simp only [Act.put, List.setIfInBounds_toArray, List.set_cons_zero, List.set_cons_succ]
                  refine rest_got (i := 15) (v := ?v16) rfl (by kernel_rfl) (by kernel_rfl) (by kernel_rfl) (fun _ _ _ h => h) (by rfl) ?y16 ?r16
                  case y16 => (intro w9q hSwq; clear hSwq; go_simp; with_reducible rfl)
                  try simp only [Act.put, List.setIfInBounds_toArray, List.set_cons_zero, List.set_cons_succ]
                  refine rest_got (i := 16) (v := ?v17) rfl (by kernel_rfl) (by kernel_rfl) (by kernel_rfl) (fun _ _ _ h => h) (by rfl) ?y17 ?r17
                  case y17 => (intro w9q hSwq; clear hSwq; go_simp; with_reducible rfl)
                  try simp only [Act.put, List.setIfInBounds_toArray, List.set_cons_zero, List.set_cons_succ]
                  refine rest_got (i := 17) (v := ?v18) rfl (by kernel_rfl) (by kernel_rfl) (by kernel_rfl) (fun _ _ _ h => h) (by rfl) ?y18 ?r18
                  case y18 => ((intro w9' hm9'; have hc9' := Mod.cell hm9' e2 (by first | exact List.not_mem_nil | (simp; done) | (simp; omega)); clear hm9'; go_simp; with_reducible rfl))
                  try simp only [Act.put, List.setIfInBounds_toArray, List.set_cons_zero, List.set_cons_succ]
                  refine rest_got (i := 18) (v := ?v19) rfl (by kernel_rfl) (by kernel_rfl) (by kernel_rfl) (fun _ _ _ h => h) (by rfl) ?y19 ?r19
                  case y19 => (intro w9q hSwq; clear hSwq; go_simp; with_reducible rfl)
                  try simp only [Act.put, List.setIfInBounds_toArray, List.set_cons_zero, List.set_cons_succ]
                  refine rest_got (i := 19) (v := ?v20) rfl (by kernel_rfl) (by kernel_rfl) (by kernel_rfl) (fun _ _ _ h => h) (by rfl) ?y20 ?r20
                  case y20 => (intro w9q hSwq; clear hSwq; go_simp; with_reducible rfl)
                  try simp only [Act.put, List.setIfInBounds_toArray, List.set_cons_zero, List.set_cons_succ]
                  refine rest_got (i := 20) (v := ?v21) rfl (by kernel_rfl) (by kernel_rfl) (by kernel_rfl) (fun _ _ _ h => h) (by rfl) ?y21 ?r21
                  case y21 => (intro w9q hSwq; clear hSwq; go_simp; with_reducible rfl)
                  try simp only [Act.put, List.setIfInBounds_toArray, List.set_cons_zero, List.set_cons_succ]
                  refine rest_done (by kernel_rfl) ?_ _
                  have SH := Lib.hid (showsH1 (x := ((i : Int), gn)) (heap_alloc_new w5 (.cells #[.int .i64 (i : Int), .int .u32 gn] 29)))
                  have RR6 := Lib.hid (RR5.out.mod0 (Mod.alloc [] w5 (.cells #[.int .i64 (i : Int), .int .u32 gn] 29)))
                  have OH := Lib.hid RR6.out.2.2.1
                  clear RR5 e1 e2 e3 e5
                  go_wp2_with (first | (at_builtin; refine wpl_appH (dst := some 191) _ _ ha hd.length hc hd rfl rfl OH.out _ 1 1 [((i : Int), gn)] rfl rfl SH.out (by omega) ?_) | fail)
                  intro a7 c7 w7 o7 m7 s7
                  have R7 := Lib.hid (RR6.out.had hhl o7 m7 s7)
                  clear o7 m7 s7 RR6 OH SH X5 x0 x1
                  go_wp2
                  go_meet
                  exact ⟨rfl, a7, c7, hd ++ [((i : Int), gn)], _, _, F4, F4', by simp, R7.out⟩
            · have hr0 : (d : Int) % 4 = 1 := by omega
              clear hr
              as_aux_lemma =>
                have KB : Hid (hb ∉ F ++ F') := B0.out.far (fun j hj => by rcases List.mem_append.1 hj with h | h <;> simp [h])
                by_cases hgood : GoodM L I2 G2
                · obtain ⟨kg, rfl, hkg, hg1, hg2⟩ := hgood
                  go_upto_region 28 with (fail)
                  refine rest_start (F ++ F') 11 #[false, false, false, false, false, false, false, false, false, false, false] rfl (by kernel_rfl) (by kernel_rfl) ?_
                  intro w3 m3
                  have R3 := Lib.hid (R2.out.mod0 m3)
                  have X3 := Lib.hid (m3.get X2.out (by simp))
                  clear m3 R2
                  have x0 := Lib.hid (cell_of_block (i := 0) X3.out)
                  have x1 := Lib.hid (cell_of_block (i := 1) X3.out)
                  refine rest_got (i := 0) (v := ?v22) rfl (by kernel_rfl) (by kernel_rfl) (by kernel_rfl) (fun _ _ _ h => h) (by rfl) ?y22 ?r22
                  case y22 => (intro w9q hSwq; clear hSwq; go_simp; with_reducible rfl)
                  try simp only [Act.put, List.setIfInBounds_toArray, List.set_cons_zero, List.set_cons_succ]
                  refine rest_got (i := 1) (v := ?v23) rfl (by kernel_rfl) (by kernel_rfl) (by kernel_rfl) (fun _ _ _ h => h) (by rfl) ?y23 ?r23
                  case y23 => ((intro w9' hm9'; have hc9' := Mod.cell hm9' x0.out KB.out; have hd9' := Mod.cell hm9' x1.out KB.out; clear hm9'; go_simp; with_reducible rfl))
                  try simp only [Act.put, List.setIfInBounds_toArray, List.set_cons_zero, List.set_cons_succ]
                  refine rest_got (i := 3) (v := ?v24) rfl (by kernel_rfl) (by kernel_rfl) (by kernel_rfl) (fun _ _ _ h => h) (by rfl) ?y24 ?r24
                  case y24 => (intro w9q hSwq; clear hSwq; go_simp; with_reducible rfl)
                  try simp only [Act.put, List.setIfInBounds_toArray, List.set_cons_zero, List.set_cons_succ]
                  refine rest_got (i := 4) (v := ?v25) rfl (by kernel_rfl) (by kernel_rfl) (by kernel_rfl) (fun _ _ _ h => h) (by rfl) ?y25 ?r25
                  case y25 => (intro w9q hSwq; clear hSwq; go_simp; with_reducible rfl)
                  try simp only [Act.put, List.setIfInBounds_toArray, List.set_cons_zero, List.set_cons_succ]
                  refine rest_got (i := 5) (v := ?v26) rfl (by kernel_rfl) (by kernel_rfl) (by kernel_rfl) (fun _ _ _ h => h) (by rfl) ?y26 ?r26
                  case y26 => ((intro w9' hm9'; have hc9' := Mod.cell hm9' x0.out KB.out; have hd9' := Mod.cell hm9' x1.out KB.out; clear hm9'; go_simp; with_reducible rfl))
                  try simp only [Act.put, List.setIfInBounds_toArray, List.set_cons_zero, List.set_cons_succ]
                  refine rest_got (i := 6) (v := ?v27) rfl (by kernel_rfl) (by kernel_rfl) (by kernel_rfl) (fun _ _ _ h => h) (by rfl) ?y27 ?r27
                  case y27 => (intro w9q hSwq; clear hSwq; go_simp; with_reducible rfl)
                  try simp only [Act.put, List.setIfInBounds_toArray, List.set_cons_zero, List.set_cons_succ]
                  refine rest_got (i := 7) (v := ?v28) rfl (by kernel_rfl) (by kernel_rfl) (by kernel_rfl) (fun _ _ _ h => h) (by rfl) ?y28 ?r28
                  case y28 => ((intro w9' hm9'; have hc9' := Mod.cell hm9' x0.out KB.out; have hd9' := Mod.cell hm9' x1.out KB.out; clear hm9'; go_simp; with_reducible rfl))
                  try simp only [Act.put, List.setIfInBounds_toArray, List.set_cons_zero, List.set_cons_succ]
                  refine rest_one (i := 2) (by kernel_rfl) rfl (by rfl) ?_
                  go_wp2_with fail
                  refine (back_w g F sz L fr kg G2 hkg _ R3.out.1 hg1 hg2 (by omega)).mono ?_
                  rintro e w4 ⟨rfl, pm⟩
                  have PM := Lib.hid pm
                  obtain ⟨F4, p4, m4, n4⟩ := pm
                  have RF := Lib.hid (R3.out.ref1 m4)
                  go_wp2_with fail
                  refine back_to (K1 := F ++ F') (m4.weaken (fun j hj => List.mem_append.2 (.inl hj))) (fun j hj _ => hj) ?_
                  clear p4 m4 n4
                  
                  refine rest_one (i := 8) (by kernel_rfl) rfl (by rfl) ?_
                  go_wp2_with fail
                  refine (rback_ok h F' sz L fr.reverse kg G2 _ hkg RF.out hg1 hg2 (by simp; omega)).mono ?_
                  rintro e w5 ⟨rfl, rm⟩
                  have hrv : kg :: fr.reverse = (fr ++ [kg]).reverse := by simp
                  rw [hrv] at rm
                  obtain ⟨F5, F5', r5, _, _⟩ := R3.out.both PM.out rm (by simpa using HLn.out) (by simp; omega)
                  have R5 := Lib.hid r5
                  obtain ⟨_, _, mr, _⟩ := rm
                  go_wp2_with fail
                  refine back_to (K1 := []) (mr.weaken (fun j hj => List.mem_append.2 (.inr hj))) (by simp) ?_
                  clear mr r5 hrv
                  refine rest_got (i := 9) (v := ?v29) rfl (by kernel_rfl) (by kernel_rfl) (by kernel_rfl) (fun _ _ _ h => h) (by rfl) ?y29 ?r29
                  case y29 => (intro w9q hSwq; clear hSwq; go_simp; with_reducible rfl)
                  try simp only [Act.put, List.setIfInBounds_toArray, List.set_cons_zero, List.set_cons_succ]
                  refine rest_got (i := 10) (v := ?v30) rfl (by kernel_rfl) (by kernel_rfl) (by kernel_rfl) (fun _ _ _ h => h) (by rfl) ?y30 ?r30
                  case y30 => (intro w9q hSwq; clear hSwq; go_simp; with_reducible rfl)
                  try simp only [Act.put, List.setIfInBounds_toArray, List.set_cons_zero, List.set_cons_succ]
                  refine rest_done (by kernel_rfl) ?_ _
                  go_wp2
                  go_meet
                  exact ⟨rfl, ha, hc, hd, _, _, F5, F5', rfl, R5.out⟩
                · go_upto_region 28 with (fail)
                  refine rest_start [] 11 #[false, false, false, false, false, false, false, false, false, false, false] rfl (by kernel_rfl) (by kernel_rfl) ?_
                  intro w3 m3
                  have R3 := Lib.hid (R2.out.mod0 m3)
                  have x0 := Lib.hid (cell_of_block (i := 0) (m3.get X2.out (by simp)))
                  have x1 := Lib.hid (cell_of_block (i := 1) (m3.get X2.out (by simp)))
                  clear m3 R2
                  refine rest_got (i := 0) (v := ?v31) rfl (by kernel_rfl) (by kernel_rfl) (by kernel_rfl) (fun _ _ _ h => h) (by rfl) ?y31 ?r31
                  case y31 => (intro w9q hSwq; clear hSwq; go_simp; with_reducible rfl)
                  try simp only [Act.put, List.setIfInBounds_toArray, List.set_cons_zero, List.set_cons_succ]
                  refine rest_got (i := 1) (v := ?v32) rfl (by kernel_rfl) (by kernel_rfl) (by kernel_rfl) (fun _ _ _ h => h) (by rfl) ?y32 ?r32
                  case y32 => ((intro w9' hm9'; have hc9' := Mod.cell hm9' x0.out (by first | exact List.not_mem_nil | (simp; done) | (simp; omega)); have hd9' := Mod.cell hm9' x1.out (by first | exact List.not_mem_nil | (simp; done) | (simp; omega)); clear hm9'; go_simp; with_reducible rfl))
                  try simp only [Act.put, List.setIfInBounds_toArray, List.set_cons_zero, List.set_cons_succ]
                  refine rest_got (i := 3) (v := ?v33) rfl (by kernel_rfl) (by kernel_rfl) (by kernel_rfl) (fun _ _ _ h => h) (by rfl) ?y33 ?r33
                  case y33 => (intro w9q hSwq; clear hSwq; go_simp; with_reducible rfl)
                  try simp only [Act.put, List.setIfInBounds_toArray, List.set_cons_zero, List.set_cons_succ]
                  refine rest_got (i := 4) (v := ?v34) rfl (by kernel_rfl) (by kernel_rfl) (by kernel_rfl) (fun _ _ _ h => h) (by rfl) ?y34 ?r34
                  case y34 => (intro w9q hSwq; clear hSwq; go_simp; with_reducible rfl)
                  try simp only [Act.put, List.setIfInBounds_toArray, List.set_cons_zero, List.set_cons_succ]
                  refine rest_got (i := 5) (v := ?v35) rfl (by kernel_rfl) (by kernel_rfl) (by kernel_rfl) (fun _ _ _ h => h) (by rfl) ?y35 ?r35
                  case y35 => ((intro w9' hm9'; have hc9' := Mod.cell hm9' x0.out (by first | exact List.not_mem_nil | (simp; done) | (simp; omega)); have hd9' := Mod.cell hm9' x1.out (by first | exact List.not_mem_nil | (simp; done) | (simp; omega)); clear hm9'; go_simp; with_reducible rfl))
                  try simp only [Act.put, List.setIfInBounds_toArray, List.set_cons_zero, List.set_cons_succ]
                  refine rest_got (i := 6) (v := ?v36) rfl (by kernel_rfl) (by kernel_rfl) (by kernel_rfl) (fun _ _ _ h => h) (by rfl) ?y36 ?r36
                  case y36 => (intro w9q hSwq; clear hSwq; go_simp; with_reducible rfl)
                  try simp only [Act.put, List.setIfInBounds_toArray, List.set_cons_zero, List.set_cons_succ]
                  refine rest_got (i := 7) (v := ?v37) rfl (by kernel_rfl) (by kernel_rfl) (by kernel_rfl) (fun _ _ _ h => h) (by rfl) ?y37 ?r37
                  case y37 => ((intro w9' hm9'; have hc9' := Mod.cell hm9' x0.out (by first | exact List.not_mem_nil | (simp; done) | (simp; omega)); have hd9' := Mod.cell hm9' x1.out (by first | exact List.not_mem_nil | (simp; done) | (simp; omega)); clear hm9'; go_simp; with_reducible rfl))
                  try simp only [Act.put, List.setIfInBounds_toArray, List.set_cons_zero, List.set_cons_succ]
                  refine rest_one (i := 2) (by kernel_rfl) rfl (by rfl) ?_
                  go_wp2_with fail
                  refine (back_stalew g F sz L fr I2 G2 _ R3.out.1 hgood).mono ?_
                  rintro e w4 ⟨rfl, m4⟩
                  have R4 := Lib.hid (R3.out.mod0 m4)
                  go_wp2_with fail
                  refine back_to (K1 := []) m4 (by simp) ?_
                  clear m4 R3
                  
                  refine rest_one (i := 8) (by kernel_rfl) rfl (by rfl) ?_
                  go_wp2_with fail
                  refine (rback_stale h F' sz L fr.reverse I2 G2 _ R4.out.2.1 hgood).mono ?_
                  rintro e w5 ⟨rfl, rfl⟩
                  go_wp2_with fail
                  refine back_to (K1 := []) (Mod.refl _ _) (by simp) ?_
                  refine rest_got (i := 9) (v := ?v38) rfl (by kernel_rfl) (by kernel_rfl) (by kernel_rfl) (fun _ _ _ h => h) (by rfl) ?y38 ?r38
                  case y38 => (intro w9q hSwq; clear hSwq; go_simp; with_reducible rfl)
                  try simp only [Act.put, List.setIfInBounds_toArray, List.set_cons_zero, List.set_cons_succ]
                  refine rest_got (i := 10) (v := ?v39) rfl (by kernel_rfl) (by kernel_rfl) (by kernel_rfl) (fun _ _ _ h => h) (by rfl) ?y39 ?r39
                  case y39 => (intro w9q hSwq; clear hSwq; go_simp; with_reducible rfl)
                  try simp only [Act.put, List.setIfInBounds_toArray, List.set_cons_zero, List.set_cons_succ]
                  refine rest_done (by kernel_rfl) ?_ _
                  go_wp2
                  go_meet
                  exact ⟨rfl, ha, hc, hd, L, fr, F, F', rfl, R4.out.next⟩
            · have hr0 : (d : Int) % 4 = 2 := by omega
              clear hr
              as_aux_lemma =>
                have p4 := W2.out.cell P4.out (by simp)
                have S2 := Lib.hid (PS.out.mod0 W2.out)
                go_wp2_with (first | (at_builtin; refine wpl_app8 (dst := some 211) _ _ none 0 0 [] rfl rfl (OwnB.nil _) xa bs.length xc bs rfl rfl S2.out (by omega) ?_) | fail)
                intro a3 c3 w3 o3 m3 s3
                have O3 : Hid (OwnB w3 a3 c3 bs) := o3
                have R3 := Lib.hid (R2.out.mod0 m3)
                have X3 := Lib.hid (m3.get X2.out (by simp [blk]))
                have MI3 : Hid (∀ j, j ∈ blk a3 → Mine w j F F' ha) := fun j hj => R2.out.mine j (by
                  rcases s3.blk j hj with h | h
                  · simp [blk] at h
                  · exact h)
                have W3 := Lib.hid R3.out.2.2.2.2.2.2.2.2.2
                have KB : Hid (hb ∉ F ++ F') := B0.out.far (fun j hj => by rcases List.mem_append.1 hj with h | h <;> simp [h])
                have KO : Hid (∀ j, j ∈ F ++ F' → w.heap.size ≤ j) := fun j hj => by
                  rcases List.mem_append.1 hj with h | h
                  · exact (R3.out.2.2.2.2.2.2.1 j h).1
                  · exact (R3.out.2.2.2.2.2.2.2.1 j h).1
                have KP : Hid (b ∉ F ++ F') := fun hm => by
                  have h1 := KO.out b hm
                  have h2 := World.block_lt_of_cell? w _ P4.out
                  simp at h2
                  omega
                clear o3 m3 s3 R2 X2 S2 p0 p4 W2
                go_upto_region 31 with (fail)
                go_cut [17] from 116 to 300 (fun ok wx => ok = .bool true ∧ ∃ (L7 : List Bm) (fr7 : List Nat) (F7 F7' : List Nat), PlayRel w g h n sz (k + 1) ha hc hd L7 fr7 F7 F7' wx ∧ OwnB wx a3 c3 bs ∧ ∀ j, j ∈ blk a3 → Mine w j F7 F7' ha)
                case first =>
                  refine rest_start (F ++ F') 18 #[false, false, false, false, false, false, false, false, false, false, false, false, false, false, false, false, false, false] rfl (by kernel_rfl) (by kernel_rfl) ?_
                  intro w4 m4
                  have R4 := Lib.hid (R3.out.mod0 m4)
                  have O4 := Lib.hid (O3.out.mod0 m4)
                  have W4 := Lib.hid (W3.out.trans' m4)
                  have x0 := Lib.hid (cell_of_block (i := 0) (m4.get X3.out (by simp)))
                  have x1 := Lib.hid (cell_of_block (i := 1) (m4.get X3.out (by simp)))
                  have p4 := Lib.hid (W4.out.cell P4.out (by simp))
                  have HSS : Hid (∀ w', Mod (F ++ F') w4 w' → Sees w' xa bs) := fun w' m' => PS.out.stays W4.out m' KO.out
                  clear m4 R3 O3 W3 X3
                  refine rest_got (i := 0) (v := ?v40) rfl (by kernel_rfl) (by kernel_rfl) (by kernel_rfl) (fun _ _ _ h => h) (by rfl) ?y40 ?r40
                  case y40 => (intro w9q hSwq; clear hSwq; go_simp; with_reducible rfl)
                  try simp only [Act.put, List.setIfInBounds_toArray, List.set_cons_zero, List.set_cons_succ]
                  refine rest_got (i := 1) (v := ?v41) rfl (by kernel_rfl) (by kernel_rfl) (by kernel_rfl) (fun _ _ _ h => h) (by rfl) ?y41 ?r41
                  case y41 => ((intro w9' hm9'; have hc9' := Mod.cell hm9' x0.out KB.out; have hd9' := Mod.cell hm9' x1.out KB.out; clear hm9'; go_simp; with_reducible rfl))
                  try simp only [Act.put, List.setIfInBounds_toArray, List.set_cons_zero, List.set_cons_succ]
                  refine rest_got (i := 2) (v := ?v42) rfl (by kernel_rfl) (by kernel_rfl) (by kernel_rfl) (fun _ _ _ h => h) (by rfl) ?y42 ?r42
                  case y42 => (intro w9q hSwq; clear hSwq; go_simp; with_reducible rfl)
                  try simp only [Act.put, List.setIfInBounds_toArray, List.set_cons_zero, List.set_cons_succ]
                  refine rest_got (i := 4) (v := ?v43) rfl (by kernel_rfl) (by kernel_rfl) (by kernel_rfl) (fun _ _ _ h => h) (by rfl) ?y43 ?r43
                  case y43 => (intro w9q hSwq; clear hSwq; go_simp; with_reducible rfl)
                  try simp only [Act.put, List.setIfInBounds_toArray, List.set_cons_zero, List.set_cons_succ]
                  refine rest_got (i := 5) (v := ?v44) rfl (by kernel_rfl) (by kernel_rfl) (by kernel_rfl) (fun _ _ _ h => h) (by rfl) ?y44 ?r44
                  case y44 => (intro w9q hSwq; clear hSwq; go_simp; with_reducible rfl)
                  try simp only [Act.put, List.setIfInBounds_toArray, List.set_cons_zero, List.set_cons_succ]
                  refine rest_got (i := 6) (v := ?v45) rfl (by kernel_rfl) (by kernel_rfl) (by kernel_rfl) (fun _ _ _ h => h) (by rfl) ?y45 ?r45
                  case y45 => ((intro w9' hm9'; have hc9' := Mod.cell hm9' x0.out KB.out; have hd9' := Mod.cell hm9' x1.out KB.out; clear hm9'; go_simp; with_reducible rfl))
                  try simp only [Act.put, List.setIfInBounds_toArray, List.set_cons_zero, List.set_cons_succ]
                  refine rest_got (i := 7) (v := ?v46) rfl (by kernel_rfl) (by kernel_rfl) (by kernel_rfl) (fun _ _ _ h => h) (by rfl) ?y46 ?r46
                  case y46 => (intro w9q hSwq; clear hSwq; go_simp; with_reducible rfl)
                  try simp only [Act.put, List.setIfInBounds_toArray, List.set_cons_zero, List.set_cons_succ]
                  refine rest_got (i := 8) (v := ?v47) rfl (by kernel_rfl) (by kernel_rfl) (by kernel_rfl) (fun _ _ _ h => h) (by rfl) ?y47 ?r47
                  case y47 => ((intro w9' hm9'; have hc9' := Mod.cell hm9' x0.out KB.out; have hd9' := Mod.cell hm9' x1.out KB.out; clear hm9'; go_simp; with_reducible rfl))
                  try simp only [Act.put, List.setIfInBounds_toArray, List.set_cons_zero, List.set_cons_succ]
                  refine rest_got (i := 9) (v := ?v48) rfl (by kernel_rfl) (by kernel_rfl) (by kernel_rfl) (fun _ _ _ h => h) (by rfl) ?y48 ?r48
                  case y48 => (intro w9q hSwq; clear hSwq; go_simp; with_reducible rfl)
                  try simp only [Act.put, List.setIfInBounds_toArray, List.set_cons_zero, List.set_cons_succ]
                  refine rest_got (i := 10) (v := ?v49) rfl (by kernel_rfl) (by kernel_rfl) (by kernel_rfl) (fun _ _ _ h => h) (by rfl) ?y49 ?r49
                  case y49 => (intro w9q hSwq; clear hSwq; go_simp; with_reducible rfl)
                  try simp only [Act.put, List.setIfInBounds_toArray, List.set_cons_zero, List.set_cons_succ]
                  refine rest_got (i := 11) (v := ?v50) rfl (by kernel_rfl) (by kernel_rfl) (by kernel_rfl) (fun _ _ _ h => h) (by rfl) ?y50 ?r50
                  case y50 => (intro w9q hSwq; clear hSwq; go_simp; with_reducible rfl)
                  try simp only [Act.put, List.setIfInBounds_toArray, List.set_cons_zero, List.set_cons_succ]
                  refine rest_got (i := 12) (v := ?v51) rfl (by kernel_rfl) (by kernel_rfl) (by kernel_rfl) (fun _ _ _ h => h) (by rfl) ?y51 ?r51
                  case y51 => (intro w9q hSwq; clear hSwq; go_simp; with_reducible rfl)
                  try simp only [Act.put, List.setIfInBounds_toArray, List.set_cons_zero, List.set_cons_succ]
                  refine rest_got (i := 13) (v := ?v52) rfl (by kernel_rfl) (by kernel_rfl) (by kernel_rfl) (fun _ _ _ h => h) (by rfl) ?y52 ?r52
                  case y52 => ((intro w9' hm9'; have hc9' := Mod.cell hm9' p4.out KP.out; clear hm9'; go_simp; with_reducible rfl))
                  try simp only [Act.put, List.setIfInBounds_toArray, List.set_cons_zero, List.set_cons_succ]
                  refine rest_got (i := 14) (v := ?v53) rfl (by kernel_rfl) (by kernel_rfl) (by kernel_rfl) (fun _ _ _ h => h) (by rfl) ?y53 ?r53
                  case y53 => ((intro w9' hm9'; refine Eq.trans (reads_strS _ _ _ _ _ _ rfl rfl HSS.out w9' hm9') ?_; with_reducible rfl))
                  try simp only [Act.put, List.setIfInBounds_toArray, List.set_cons_zero, List.set_cons_succ]
                  refine rest_one (i := 3) (by kernel_rfl) rfl (by rfl) ?_
                  go_wp2_with fail
                  by_cases hgood : GoodM L I2 G2
                  · obtain ⟨kg, rfl, hkg, hg1, hg2⟩ := hgood
                    by_cases hsz : bs.length ≤ sz
                    · refine (set_w g F sz L fr kg G2 a3 bs.length c3 bs hkg _ R4.out.1 hg1 hg2 rfl O4.out.sees hsz).mono ?_
                      rintro e w5 ⟨rfl, pm⟩
                      have PM := Lib.hid pm
                      have O4lt := Lib.hid (Own.lt O4.out)
                      obtain ⟨F4, p5, m5, n5⟩ := pm
                      have RF := Lib.hid (R4.out.ref1 m5)
                      have O5 := Lib.hid (O4.out.mod m5 (fun j hj hm => (MI3.out j hj).2.1 hm))
                      go_wp2_with fail
                      refine back_to (K1 := F ++ F') (m5.weaken (fun j hj => List.mem_append.2 (.inl hj))) (fun j hj _ => hj) ?_
                      clear p5 m5 n5 O4
                      
                      refine rest_one (i := 15) (by kernel_rfl) rfl (by rfl) ?_
                      go_wp2_with fail
                      refine (rset_ok h F' sz L fr.reverse kg G2 bs _ hkg RF.out hg1 hg2 hsz).mono ?_
                      rintro e w6 ⟨rfl, rm⟩
                      obtain ⟨F6, F6', r6, f6, f6'⟩ := R4.out.both PM.out rm (by simpa using HLn.out) (by omega)
                      have R6 := Lib.hid r6
                      obtain ⟨_, _, mr, _⟩ := rm
                      have O6 := Lib.hid (O5.out.mod mr (fun j hj hm => (MI3.out j hj).2.2.1 hm))
                      have MI6 : Hid (∀ j, j ∈ blk a3 → Mine w j F6 F6' ha) := fun j hj => by
                        have h1 := MI3.out j hj
                        have h2 := O5.out
                        have h3 : j < w4.heap.size := by
                          have := R4.out
                          exact O4lt.out j hj
                        refine ⟨h1.1, fun hm => ?_, fun hm => ?_, h1.2.2.2⟩
                        · rcases f6 j hm with h | h
                          · exact h1.2.1 h
                          · omega
                        · rcases f6' j hm with h | h
                          · exact h1.2.2.1 h
                          · omega
                      go_wp2_with fail
                      refine back_to (K1 := []) (mr.weaken (fun j hj => List.mem_append.2 (.inr hj))) (by simp) ?_
                      clear mr r6 f6 f6'
                      refine rest_got (i := 16) (v := ?v54) rfl (by kernel_rfl) (by kernel_rfl) (by kernel_rfl) (fun _ _ _ h => h) (by rfl) ?y54 ?r54
                      case y54 => (intro w9q hSwq; clear hSwq; go_simp; with_reducible rfl)
                      try simp only [Act.put, List.setIfInBounds_toArray, List.set_cons_zero, List.set_cons_succ]
                      refine rest_got (i := 17) (v := ?v55) rfl (by kernel_rfl) (by kernel_rfl) (by kernel_rfl) (fun _ _ _ h => h) (by rfl) ?y55 ?r55
                      case y55 => (intro w9q hSwq; clear hSwq; go_simp; with_reducible rfl)
                      try simp only [Act.put, List.setIfInBounds_toArray, List.set_cons_zero, List.set_cons_succ]
                      refine rest_done (by kernel_rfl) ?_ _
                      go_wp2
                      go_meet
                      exact ⟨rfl, _, _, F6, F6', R6.out, O6.out, MI6.out⟩
                    · refine (set_longw g F sz L fr kg G2 a3 bs.length c3 hkg _ R4.out.1 hg1 hg2 (by omega)).mono ?_
                      rintro e w5 ⟨rfl, m5⟩
                      have R5 := Lib.hid (R4.out.mod0 m5)
                      have O5 := Lib.hid (O4.out.mod0 m5)
                      go_wp2_with fail
                      refine back_to (K1 := F ++ F') m5.nil (fun j hj _ => hj) ?_
                      clear m5 R4 O4
                      
                      refine rest_one (i := 15) (by kernel_rfl) rfl (by rfl) ?_
                      go_wp2_with fail
                      refine (rset_long h F' sz L fr.reverse kg G2 bs _ R5.out.2.1 ⟨kg, rfl, hkg, hg1, hg2⟩ (by omega)).mono ?_
                      rintro e w6 ⟨rfl, rfl⟩
                      go_wp2_with fail
                      refine back_to (K1 := []) (Mod.refl _ _) (by simp) ?_
                      refine rest_got (i := 16) (v := ?v56) rfl (by kernel_rfl) (by kernel_rfl) (by kernel_rfl) (fun _ _ _ h => h) (by rfl) ?y56 ?r56
                      case y56 => (intro w9q hSwq; clear hSwq; go_simp; with_reducible rfl)
                      try simp only [Act.put, List.setIfInBounds_toArray, List.set_cons_zero, List.set_cons_succ]
                      refine rest_got (i := 17) (v := ?v57) rfl (by kernel_rfl) (by kernel_rfl) (by kernel_rfl) (fun _ _ _ h => h) (by rfl) ?y57 ?r57
                      case y57 => (intro w9q hSwq; clear hSwq; go_simp; with_reducible rfl)
                      try simp only [Act.put, List.setIfInBounds_toArray, List.set_cons_zero, List.set_cons_succ]
                      refine rest_done (by kernel_rfl) ?_ _
                      go_wp2
                      go_meet
                      exact ⟨rfl, _, _, F, F', R5.out.next, O5.out, MI3.out⟩
                  · refine (set_stalew g F sz L fr I2 G2 a3 bs.length c3 _ R4.out.1 hgood).mono ?_
                    rintro e w5 ⟨rfl, m5⟩
                    have R5 := Lib.hid (R4.out.mod0 m5)
                    have O5 := Lib.hid (O4.out.mod0 m5)
                    go_wp2_with fail
                    refine back_to (K1 := F ++ F') m5.nil (fun j hj _ => hj) ?_
                    clear m5 R4 O4
                    
                    refine rest_one (i := 15) (by kernel_rfl) rfl (by rfl) ?_
                    go_wp2_with fail
                    refine (rset_stale h F' sz L fr.reverse I2 G2 bs _ R5.out.2.1 hgood).mono ?_
                    rintro e w6 ⟨rfl, rfl⟩
                    go_wp2_with fail
                    refine back_to (K1 := []) (Mod.refl _ _) (by simp) ?_
                    refine rest_got (i := 16) (v := ?v58) rfl (by kernel_rfl) (by kernel_rfl) (by kernel_rfl) (fun _ _ _ h => h) (by rfl) ?y58 ?r58
                    case y58 => (intro w9q hSwq; clear hSwq; go_simp; with_reducible rfl)
                    try simp only [Act.put, List.setIfInBounds_toArray, List.set_cons_zero, List.set_cons_succ]
                    refine rest_got (i := 17) (v := ?v59) rfl (by kernel_rfl) (by kernel_rfl) (by kernel_rfl) (fun _ _ _ h => h) (by rfl) ?y59 ?r59
                    case y59 => (intro w9q hSwq; clear hSwq; go_simp; with_reducible rfl)
                    try simp only [Act.put, List.setIfInBounds_toArray, List.set_cons_zero, List.set_cons_succ]
                    refine rest_done (by kernel_rfl) ?_ _
                    go_wp2
                    go_meet
                    exact ⟨rfl, _, _, F, F', R5.out.next, O5.out, MI3.out⟩
                case rest =>
                  obtain ⟨rfl, L7, fr7, F7, F7', r7, o7, mi7⟩ := hcut
                  have R7 := Lib.hid r7
                  have O7 := Lib.hid o7
                  have MI7 := Lib.hid mi7
                  clear r7 o7 mi7 R3 O3 X3
                  go_wp2_with fail
                  go_loopw [22] (fun i wr => ∃ (q : Nat) (l' : List UInt8), q ≤ bs.length ∧ i = .int .i64 (q : Int) ∧ l'.length = bs.length ∧ PlayRel w g h n sz (k + 1) ha hc hd L7 fr7 F7 F7' wr ∧ OwnB wr a3 c3 l') (fun i _ => bs.length - (intOf i).toNat)
                  case atStart => exact ⟨0, bs, Nat.zero_le _, rfl, rfl, R7.out, O7.out⟩
                  case round =>
                    obtain ⟨q, l', hq, rfl, hql, hpl, ho⟩ := hrel
                    have HP := Lib.hid hpl
                    have HO := Lib.hid ho
                    have HQ := Lib.hid hql
                    clear hpl ho hql R7 O7
                    by_cases hqlt : q < bs.length
                    · obtain ⟨g8, hg8, y0, yf⟩ := HO.out.cell (j := q) (by rw [HQ.out]; exact hqlt)
                      subst hg8
                      obtain ⟨x8, hx8⟩ : ∃ x8, l'[q]'(by rw [HQ.out]; exact hqlt) = x8 := ⟨_, rfl⟩
                      rw [hx8] at y0
                      obtain ⟨y8, hy8⟩ := inc8 x8
                      have HY := Lib.hid hy8
                      have hqi : (q : Int) < (bs.length : Int) := by omega
                      have hle8 := Own.le HO.out
                      have hcm8 := Own.cap_le HO.out
                      unfold maxLen at hcm8
                      clear hx8 hy8
                      go_wp2
                      go_roundw
                      case rel =>
                        refine ⟨q + 1, l'.set q y8, by omega, by go_num, by rw [List.length_set]; exact HQ.out, ?_, ?_⟩
                        · exact HP.out.own (Mod.setCell (S := [g8]) _ _ _ (by simp)) (fun j hj => by simp at hj; subst hj; exact MI7.out _ (by simp [blk]))
                        · exact HO.out.put8 q x8 y8 HY.out
                      case measure => simp [intOf]; omega
                    · have hqe : q = bs.length := by omega
                      subst hqe
                      go_wp2
                      go_meet
                      exact ⟨rfl, ha, hc, hd, L7, fr7, F7, F7', rfl, HP.out⟩
            · have hr0 : (d : Int) % 4 = 3 := by omega
              clear hr
              as_aux_lemma =>
                have x0 := cell_of_block (i := 0) X2.out
                have x1 := cell_of_block (i := 1) X2.out
                by_cases hgood : GoodM L I2 G2
                · have HGD := Lib.hid hgood
                  obtain ⟨kg, rfl, hkg, hg1, hg2⟩ := hgood
                  go_wp2_with fail
                  refine (bytes_w g F sz L fr kg G2 hkg _ R2.out.1 hg1 hg2).mono ?_
                  rintro e w3 ⟨a3, c3, rfl, o3, n3, m3⟩
                  obtain ⟨bz, hbz⟩ : ∃ bz, L[kg].1 = bz := ⟨_, rfl⟩
                  rw [hbz] at o3 ⊢
                  have HBZ := Lib.hid hbz
                  have R3 := Lib.hid (R2.out.mod0 m3)
                  have X3 := Lib.hid (m3.get X2.out (by simp))
                  have O3 := Lib.hid o3
                  have MI3 : Hid (∀ j, j ∈ blk a3 → Mine w j F F' ha) := fun j hj => R2.out.mine j (n3 j hj)
                  have hb5 : bz.length ≤ 65536 := by
                    obtain ⟨_, _, _, _, _, _, _, h1', _, h2', h3', _⟩ := R2.out.1
                    have := (h2'.2.2 kg (by rw [h2'.1]; exact hkg) hkg).2.1
                    rw [hbz] at this
                    omega
                  clear hbz o3 n3 m3 R2 X2 x0 x1
                  have x0 := cell_of_block (i := 0) X3.out
                  have x1 := cell_of_block (i := 1) X3.out
                  go_wp2_with fail
                  refine (good_any h F' sz L fr.reverse (kg : Int) G2 _ R3.out.2.1 true ⟨fun _ => rfl, fun _ => HGD.out⟩).mono ?_
                  rintro e w4 ⟨rfl, rfl⟩
                  obtain ⟨gb, gc, e1, e2, e3, e5⟩ := R3.out.2.1.text hkg
                  rw [HBZ.out] at e2
                  unfold maxLen at e5
                  have hkgi : (kg : Int) < (L.length : Int) := by omega
                  go_upto_region 39 with (fail)
                  refine rest_start [] 16 #[false, false, false, false, false, false, false, false, false, false, false, false, false, false, false, false] rfl (by kernel_rfl) (by kernel_rfl) ?_
                  intro w5 m5
                  have R5 := Lib.hid (R3.out.mod0 m5)
                  have O5 := Lib.hid (O3.out.mod0 m5)
                  have e1 := m5.cell e1 (by simp)
                  have e2 := m5.cell e2 (by simp)
                  have x0 := m5.cell x0 (by simp)
                  have x1 := m5.cell x1 (by simp)
                  have HSS : Hid (∀ w', Mod [] w5 w' → Sees w' a3 bz) := fun w' m' => O5.out.sees.mod0 m'
                  clear m5 R3 O3 X3
                  refine rest_got (i := 0) (v := ?v60) rfl (by kernel_rfl) (by kernel_rfl) (by kernel_rfl) (fun _ _ _ h => h) (by rfl) ?y60 ?r60
                  case y60 => (intro w9q hSwq; clear hSwq; go_simp; with_reducible rfl)
                  try simp only [Act.put, List.setIfInBounds_toArray, List.set_cons_zero, List.set_cons_succ]
                  refine rest_got (i := 1) (v := ?v61) rfl (by kernel_rfl) (by kernel_rfl) (by kernel_rfl) (fun _ _ _ h => h) (by rfl) ?y61 ?r61
                  case y61 => (intro w9q hSwq; clear hSwq; go_simp; with_reducible rfl)
                  try simp only [Act.put, List.setIfInBounds_toArray, List.set_cons_zero, List.set_cons_succ]
                  refine rest_got (i := 2) (v := ?v62) rfl (by kernel_rfl) (by kernel_rfl) (by kernel_rfl) (fun _ _ _ h => h) (by rfl) ?y62 ?r62
                  case y62 => (intro w9q hSwq; clear hSwq; go_simp; with_reducible rfl)
                  try simp only [Act.put, List.setIfInBounds_toArray, List.set_cons_zero, List.set_cons_succ]
                  refine rest_got (i := 3) (v := ?v63) rfl (by kernel_rfl) (by kernel_rfl) (by kernel_rfl) (fun _ _ _ h => h) (by rfl) ?y63 ?r63
                  case y63 => (intro w9q hSwq; clear hSwq; go_simp; with_reducible rfl)
                  try simp only [Act.put, List.setIfInBounds_toArray, List.set_cons_zero, List.set_cons_succ]
                  refine rest_got (i := 4) (v := ?v64) rfl (by kernel_rfl) (by kernel_rfl) (by kernel_rfl) (fun _ _ _ h => h) (by rfl) ?y64 ?r64
                  case y64 => ((intro w9' hm9'; refine Eq.trans (reads_strS _ _ _ _ _ _ rfl rfl HSS.out w9' hm9') ?_; with_reducible rfl))
                  try simp only [Act.put, List.setIfInBounds_toArray, List.set_cons_zero, List.set_cons_succ]
                  refine rest_got (i := 5) (v := ?v65) rfl (by kernel_rfl) (by kernel_rfl) (by kernel_rfl) (fun _ _ _ h => h) (by rfl) ?y65 ?r65
                  case y65 => (intro w9q hSwq; clear hSwq; go_simp; with_reducible rfl)
                  try simp only [Act.put, List.setIfInBounds_toArray, List.set_cons_zero, List.set_cons_succ]
                  refine rest_got (i := 6) (v := ?v66) rfl (by kernel_rfl) (by kernel_rfl) (by kernel_rfl) (fun _ _ _ h => h) (by rfl) ?y66 ?r66
                  case y66 => (intro w9q hSwq; clear hSwq; go_simp; with_reducible rfl)
                  try simp only [Act.put, List.setIfInBounds_toArray, List.set_cons_zero, List.set_cons_succ]
                  refine rest_got (i := 7) (v := ?v67) rfl (by kernel_rfl) (by kernel_rfl) (by kernel_rfl) (fun _ _ _ h => h) (by rfl) ?y67 ?r67
                  case y67 => (intro w9q hSwq; clear hSwq; go_simp; with_reducible rfl)
                  try simp only [Act.put, List.setIfInBounds_toArray, List.set_cons_zero, List.set_cons_succ]
                  refine rest_got (i := 8) (v := ?v68) rfl (by kernel_rfl) (by kernel_rfl) (by kernel_rfl) (fun _ _ _ h => h) (by rfl) ?y68 ?r68
                  case y68 => ((intro w9' hm9'; have hc9' := Mod.cell hm9' e1 (by first | exact List.not_mem_nil | (simp; done) | (simp; omega)); clear hm9'; go_simp; with_reducible rfl))
                  try simp only [Act.put, List.setIfInBounds_toArray, List.set_cons_zero, List.set_cons_succ]
                  refine rest_got (i := 9) (v := ?v69) rfl (by kernel_rfl) (by kernel_rfl) (by kernel_rfl) (fun _ _ _ h => h) (by rfl) ?y69 ?r69
                  case y69 => (intro w9q hSwq; clear hSwq; go_simp; with_reducible rfl)
                  try simp only [Act.put, List.setIfInBounds_toArray, List.set_cons_zero, List.set_cons_succ]
                  refine rest_got (i := 10) (v := ?v70) rfl (by kernel_rfl) (by kernel_rfl) (by kernel_rfl) (fun _ _ _ h => h) (by rfl) ?y70 ?r70
                  case y70 => ((intro w9' hm9'; have hc9' := Mod.cell hm9' x0 (by first | exact List.not_mem_nil | (simp; done) | (simp; omega)); clear hm9'; go_simp; with_reducible rfl))
                  try simp only [Act.put, List.setIfInBounds_toArray, List.set_cons_zero, List.set_cons_succ]
                  refine rest_got (i := 11) (v := ?v71) rfl (by kernel_rfl) (by kernel_rfl) (by kernel_rfl) (fun _ _ _ h => h) (by rfl) ?y71 ?r71
                  case y71 => (intro w9q hSwq; clear hSwq; go_simp; with_reducible rfl)
                  try simp only [Act.put, List.setIfInBounds_toArray, List.set_cons_zero, List.set_cons_succ]
                  refine rest_got (i := 12) (v := ?v72) rfl (by kernel_rfl) (by kernel_rfl) (by kernel_rfl) (fun _ _ _ h => h) (by rfl) ?y72 ?r72
                  case y72 => ((intro w9' hm9'; have hc9' := Mod.cell hm9' e2 (by first | exact List.not_mem_nil | (simp; done) | (simp; omega)); clear hm9'; go_simp; with_reducible rfl))
                  try simp only [Act.put, List.setIfInBounds_toArray, List.set_cons_zero, List.set_cons_succ]
                  refine rest_got (i := 13) (v := ?v73) rfl (by kernel_rfl) (by kernel_rfl) (by kernel_rfl) (fun _ _ _ h => h) (by rfl) ?y73 ?r73
                  case y73 => (((intro w9' hm9'; refine Eq.trans (reads_eqs w9' _ _ _ _ _ rfl rfl) ?_; refine Eq.trans (congrArg (fun b => Result.ok (Next.value (Value.bool b)) w9') (decide_eq_true rfl)) ?_; with_reducible rfl)))
                  try simp only [Act.put, List.setIfInBounds_toArray, List.set_cons_zero, List.set_cons_succ]
                  refine rest_got (i := 14) (v := ?v74) rfl (by kernel_rfl) (by kernel_rfl) (by kernel_rfl) (fun _ _ _ h => h) (by rfl) ?y74 ?r74
                  case y74 => (intro w9q hSwq; clear hSwq; go_simp; with_reducible rfl)
                  try simp only [Act.put, List.setIfInBounds_toArray, List.set_cons_zero, List.set_cons_succ]
                  refine rest_got (i := 15) (v := ?v75) rfl (by kernel_rfl) (by kernel_rfl) (by kernel_rfl) (fun _ _ _ h => h) (by rfl) ?y75 ?r75
                  case y75 => (intro w9q hSwq; clear hSwq; go_simp; with_reducible rfl)
                  try simp only [Act.put, List.setIfInBounds_toArray, List.set_cons_zero, List.set_cons_succ]
                  refine rest_done (by kernel_rfl) ?_ _
                  have R7 := Lib.hid R5.out.next
                  have O7 := Lib.hid O5.out
                  have MI7 := Lib.hid MI3.out
                  clear R5 O5 MI3 e1 e2 e3 e5 x0 x1 HSS HBZ HGD hg1 hg2
                  go_wp2_with fail
                  go_loopw [25] (fun i wr => ∃ (q : Nat) (l' : List UInt8), q ≤ bz.length ∧ i = .int .i64 (q : Int) ∧ l'.length = bz.length ∧ PlayRel w g h n sz (k + 1) ha hc hd L fr F F' wr ∧ OwnB wr a3 c3 l') (fun i _ => bz.length - (intOf i).toNat)
                  case atStart => exact ⟨0, bz, Nat.zero_le _, rfl, rfl, R7.out, O7.out⟩
                  case round =>
                    obtain ⟨q, l', hq, rfl, hql, hpl, ho⟩ := hrel
                    have HP := Lib.hid hpl
                    have HO := Lib.hid ho
                    have HQ := Lib.hid hql
                    clear hpl ho hql R7 O7
                    by_cases hqlt : q < bz.length
                    · obtain ⟨g8, hg8, y0, yf⟩ := HO.out.cell (j := q) (by rw [HQ.out]; exact hqlt)
                      subst hg8
                      obtain ⟨x8, hx8⟩ : ∃ x8, l'[q]'(by rw [HQ.out]; exact hqlt) = x8 := ⟨_, rfl⟩
                      rw [hx8] at y0
                      obtain ⟨y8, hy8⟩ := inc8 x8
                      have HY := Lib.hid hy8
                      have hqi : (q : Int) < (bz.length : Int) := by omega
                      have hle8 := Own.le HO.out
                      have hcm8 := Own.cap_le HO.out
                      unfold maxLen at hcm8
                      clear hx8 hy8
                      go_wp2
                      go_roundw
                      case rel =>
                        refine ⟨q + 1, l'.set q y8, by omega, by go_num, by rw [List.length_set]; exact HQ.out, ?_, ?_⟩
                        · exact HP.out.own (Mod.setCell (S := [g8]) _ _ _ (by simp)) (fun j hj => by simp at hj; subst hj; exact MI7.out _ (by simp [blk]))
                        · exact HO.out.put8 q x8 y8 HY.out
                      case measure => simp [intOf]; omega
                    · have hqe : q = bz.length := by omega
                      subst hqe
                      go_wp2
                      go_meet
                      exact ⟨rfl, ha, hc, hd, L, fr, F, F', rfl, HP.out⟩
                · go_wp2_with fail
                  refine (bytes_stalew g F sz L fr I2 G2 _ R2.out.1 hgood).mono ?_
                  rintro e w3 ⟨rfl, m3⟩
                  have R3 := Lib.hid (R2.out.mod0 m3)
                  have X3 := Lib.hid (m3.get X2.out (by simp))
                  clear m3 R2 X2 x0 x1
                  have x0 := cell_of_block (i := 0) X3.out
                  have x1 := cell_of_block (i := 1) X3.out
                  go_wp2_with fail
                  refine (good_any h F' sz L fr.reverse I2 G2 _ R3.out.2.1 false (by simpa using hgood)).mono ?_
                  rintro e w4 ⟨rfl, rfl⟩
                  clear x0 x1 X3
                  go_wp2_with fail
                  go_loopw [25] (fun i wr => i = .int .i64 0 ∧ PlayRel w g h n sz k ha hc hd L fr F F' wr) (fun _ _ => 0)
                  case atStart => exact ⟨rfl, R3.out⟩
                  case round =>
                    obtain ⟨rfl, hrr⟩ := hrel
                    have R3 := Lib.hid hrr
                    clear hrr
                    go_wp2
                    go_meet
                    exact ⟨rfl, ha, hc, hd, L, fr, F, F', rfl, R3.out.next⟩
          case rest =>
            as_aux_lemma =>
              obtain ⟨rfl, ha3, hc3, hd3, L3, fr3, F3, F3', rfl, hrel⟩ := hcut
              have HR3 := Lib.hid hrel
              obtain ⟨na, nc, e4⟩ := hrel.2.1.next
              have hfr : fr3.reverse.length = fr3.length := by simp
              rw [hfr] at e4
              have E4 := Lib.hid e4
              clear hrel e4 hfr R2 p0
              go_upto_region 45 with (fail)
              refine rest_start [] 12 #[false, false, false, false, false, false, false, false, false, false, false, false] rfl (by kernel_rfl) (by kernel_rfl) ?_
              intro w5 m5
              have HR5 := Lib.hid (HR3.out.mod0 m5)
              have E5 := Lib.hid (m5.cell E4.out (by simp))
              clear m5 HR3 E4
              refine rest_got (i := 0) (v := ?v76) rfl (by kernel_rfl) (by kernel_rfl) (by kernel_rfl) (fun _ _ _ h => h) (by rfl) ?y76 ?r76
              case y76 => (intro w9q hSwq; clear hSwq; go_simp; with_reducible rfl)
              try simp only [Act.put, List.setIfInBounds_toArray, List.set_cons_zero, List.set_cons_succ]
              refine rest_got (i := 1) (v := ?v77) rfl (by kernel_rfl) (by kernel_rfl) (by kernel_rfl) (fun _ _ _ h => h) (by rfl) ?y77 ?r77
              case y77 => (intro w9q hSwq; clear hSwq; go_simp; with_reducible rfl)
              try simp only [Act.put, List.setIfInBounds_toArray, List.set_cons_zero, List.set_cons_succ]
              refine rest_got (i := 2) (v := ?v78) rfl (by kernel_rfl) (by kernel_rfl) (by kernel_rfl) (fun _ _ _ h => h) (by rfl) ?y78 ?r78
              case y78 => (intro w9q hSwq; clear hSwq; go_simp; with_reducible rfl)
              try simp only [Act.put, List.setIfInBounds_toArray, List.set_cons_zero, List.set_cons_succ]
              refine rest_got (i := 3) (v := ?v79) rfl (by kernel_rfl) (by kernel_rfl) (by kernel_rfl) (fun _ _ _ h => h) (by rfl) ?y79 ?r79
              case y79 => (intro w9q hSwq; clear hSwq; go_simp; with_reducible rfl)
              try simp only [Act.put, List.setIfInBounds_toArray, List.set_cons_zero, List.set_cons_succ]
              refine rest_got (i := 5) (v := ?v80) rfl (by kernel_rfl) (by kernel_rfl) (by kernel_rfl) (fun _ _ _ h => h) (by rfl) ?y80 ?r80
              case y80 => (intro w9q hSwq; clear hSwq; go_simp; with_reducible rfl)
              try simp only [Act.put, List.setIfInBounds_toArray, List.set_cons_zero, List.set_cons_succ]
              refine rest_got (i := 6) (v := ?v81) rfl (by kernel_rfl) (by kernel_rfl) (by kernel_rfl) (fun _ _ _ h => h) (by rfl) ?y81 ?r81
              case y81 => (intro w9q hSwq; clear hSwq; go_simp; with_reducible rfl)
              try simp only [Act.put, List.setIfInBounds_toArray, List.set_cons_zero, List.set_cons_succ]
              refine rest_got (i := 7) (v := ?v82) rfl (by kernel_rfl) (by kernel_rfl) (by kernel_rfl) (fun _ _ _ h => h) (by rfl) ?y82 ?r82
              case y82 => (intro w9q hSwq; clear hSwq; go_simp; with_reducible rfl)
              try simp only [Act.put, List.setIfInBounds_toArray, List.set_cons_zero, List.set_cons_succ]
              refine rest_got (i := 8) (v := ?v83) rfl (by kernel_rfl) (by kernel_rfl) (by kernel_rfl) (fun _ _ _ h => h) (by rfl) ?y83 ?r83
              case y83 => ((intro w9' hm9'; have hc9' := Mod.cell hm9' E5.out (by first | exact List.not_mem_nil | (simp; done) | (simp; omega)); clear hm9'; go_simp; with_reducible rfl))
              try simp only [Act.put, List.setIfInBounds_toArray, List.set_cons_zero, List.set_cons_succ]
              refine rest_got (i := 9) (v := ?v84) rfl (by kernel_rfl) (by kernel_rfl) (by kernel_rfl) (fun _ _ _ h => h) (by rfl) ?y84 ?r84
              case y84 => (intro w9q hSwq; clear hSwq; go_simp; with_reducible rfl)
              try simp only [Act.put, List.setIfInBounds_toArray, List.set_cons_zero, List.set_cons_succ]
              refine rest_one (i := 4) (by kernel_rfl) rfl (by rfl) ?_
              go_wp2_with fail
              refine (free_w g F3 sz L3 fr3 _ HR5.out.1).mono ?_
              rintro e w6 ⟨rfl, rfl⟩
              go_wp2_with fail
              refine back_to (K1 := []) (Mod.refl _ _) (by simp) ?_
              refine rest_got (i := 10) (v := ?v85) rfl (by kernel_rfl) (by kernel_rfl) (by kernel_rfl) (fun _ _ _ h => h) (by rfl) ?y85 ?r85
              case y85 => (intro w9q hSwq; clear hSwq; go_simp; with_reducible rfl)
              try simp only [Act.put, List.setIfInBounds_toArray, List.set_cons_zero, List.set_cons_succ]
              refine rest_got (i := 11) (v := ?v86) rfl (by kernel_rfl) (by kernel_rfl) (by kernel_rfl) (fun _ _ _ h => h) (by rfl) ?y86 ?r86
              case y86 => (intro w9q hSwq; clear hSwq; go_simp; with_reducible rfl)
              try simp only [Act.put, List.setIfInBounds_toArray, List.set_cons_zero, List.set_cons_succ]
              refine rest_done (by kernel_rfl) ?_ _
              go_wp2
              go_roundw
              case rel => exact ⟨k + 1, ha3, hc3, hd3, L3, fr3, F3, F3', by omega, by go_num, rfl, HR5.out⟩
              case measure => simp [intOf]; omega
    · have hke : k = l.length := by omega
      subst hke
      go_wp2_with fail
      refine (wakes_any _).mono ?_
      rintro e w7 ⟨rfl, m7⟩
      have M7 := Lib.hid (HW.out.trans' m7)
      clear m7
      go_wp2
      go_ret
      exact ⟨rfl, M7.out⟩
end Go.Proofs.Ytfpmdacpmcdleaa
