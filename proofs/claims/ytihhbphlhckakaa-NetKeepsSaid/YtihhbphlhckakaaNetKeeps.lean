/- The walk of NetKeeps. -/
import Derived.Test.YtihhbphlhckakaaNetKeep2
import Derived.BigQuiet
import Derived.Deep.CutRange
namespace Go.Proofs.Ytihhbphlhckakaa
open Go Go.RowKit Go.Lib

set_option maxRecDepth 100000 in
set_option maxHeartbeats 8000000 in
theorem netKeeps_any (ao : Option Addr) (cap : Nat) (l : List Lt) (bo : Option Addr) (len2 cap2 : Nat) (acts : List Ac) (w : World) (hs : SeesLt w ao l) (hl2 : acts.length = len2) (hs2 : SeesA w bo acts)
    (hlen : l.length ≤ 9223372036854775807) (hlen2 : len2 ≤ 9223372036854775807) :
    Calls Try.prog 6 #[.slice ao l.length cap, .slice bo len2 cap2] w fun e w' => e = .returned (.bool true) ∧ Mod [] w w' := by
  have HS := Lib.hid hs
  have HA := Lib.hid hs2
  have HG := Lib.hid (great18_any bo len2 cap2 acts w hl2 hs2 hlen2)
  subst hl2
  clear hs hs2
  by_cases hbig : 60 < l.length
  · go_enter Try.func6, Try.ntmps6
    go_wp2_with fail
    refine (wakes18_any _).mono ?_
    rintro e wz ⟨rfl, mz⟩
    have MZ := Lib.hid mz
    clear mz
    go_wp2
    go_ret
    exact ⟨rfl, MZ.out⟩
  go_enter Try.func6, Try.ntmps6
  go_wp2_with fail
  refine HG.out.mono ?_
  rintro e w0 ⟨b, rfl, m0, hb⟩
  have M0 := Lib.hid m0
  clear m0
  cases b with
  | true =>
    clear hb
    go_wp2_with fail
    refine (wakes18_any _).mono ?_
    rintro e wz ⟨rfl, mz⟩
    have MZ := Lib.hid (M0.out.trans' mz)
    clear mz
    go_wp2
    go_ret
    exact ⟨rfl, MZ.out⟩
  | false =>
    have HB := Lib.hid (hb rfl).2
    clear hb
    by_cases hbig2 : 100 < acts.length
    · go_wp2_with fail
      refine (wakes18_any _).mono ?_
      rintro e wz ⟨rfl, mz⟩
      have MZ := Lib.hid (M0.out.trans' mz)
      clear mz
      go_wp2
      go_ret
      exact ⟨rfl, MZ.out⟩
    · go_wp2_with fail
      refine (new_any _).mono ?_
      rintro e w1 ⟨g, rfl, h1, m1, z1⟩
      have K1 : Hid (KR w g none 0 [] none 0 [] [] [g] w1) := by
        refine ⟨h1, Own.nil0 _ _ _, Own.nil0 _ _ _, by simp, by simp, fun j hj => ⟨?_, by simp [blk], by simp [blk]⟩, by simp [blk], by simp [blk], by simp, by simp, M0.out.trans' m1⟩
        simp at hj; subst hj; exact Nat.le_trans M0.out.size z1
      clear h1 m1 z1 M0
      go_wp2_with fail
      go_loopw [6, 7] (fun row i wr => ∃ (k : Nat) (sa : Option Addr) (sc : Nat) (S : List Lt) (L : List Lr) (F : List Nat), k ≤ l.length ∧ i = .int .i64 (k : Int) ∧ row = .slice sa S.length sc ∧ KR w g sa sc S none 0 [] L F wr ∧ Acc S [] L ∧ S.length ≤ k) (fun _ i _ => l.length - (intOf i).toNat)
      case atStart => exact ⟨0, none, 0, [], [], [g], Nat.zero_le _, rfl, rfl, K1.out, List.Perm.refl _, Nat.le_refl _⟩
      case round =>
        obtain ⟨k, sa, sc, S, L, F, hk, rfl, rfl, hkr, hacc, hsl⟩ := hrel
        have HK := Lib.hid hkr
        have HC := Lib.hid hacc
        have hLl := hkr.2.2.2.2.2.2.2.2.1
        have M := Lib.hid hkr.2.2.2.2.2.2.2.2.2.2
        clear hkr hacc K1
        by_cases hlt : k < l.length
        · obtain ⟨b, off, rfl, p0, p1, p2, ps⟩ := HS.out k hlt
          obtain ⟨⟨fr, tq, xa, xc, bs⟩, hx⟩ : ∃ x, l[k] = x := ⟨_, rfl⟩
          rw [hx] at p0 p1 p2 ps
          dsimp only at p0 p1 p2 ps
          have P0 := Lib.hid p0
          have P1 := Lib.hid p1
          have P2 := Lib.hid p2
          have PS := Lib.hid ps
          have p2 := M.out.cell p2 (by simp)
          have hki : (k : Int) < (l.length : Int) := by omega
          clear ps hx p0 p1
          by_cases hbl : 100 < bs.length
          · go_wp2_with fail
            refine (wakes18_any _).mono ?_
            rintro e wz ⟨rfl, mz⟩
            have MZ := Lib.hid (M.out.trans' mz)
            clear mz
            go_wp2
            go_ret
            exact ⟨rfl, MZ.out⟩
          · have p0 := M.out.cell P0.out (by simp)
            have p1 := M.out.cell P1.out (by simp)
            go_wp2_with fail
            refine (send_all g F L fr tq xa bs.length xc bs _ HK.out.1 hLl rfl (PS.out.mod0 M.out) (by omega)).mono ?_
            rintro e w2 ⟨rfl, mv⟩
            obtain ⟨F2, k2, -, -⟩ := HK.out.moved mv (sent_keeps fr tq bs L hLl HK.out.2.2.2.2.2.2.2.2.2.1 (by omega)).1 (sent_keeps fr tq bs L hLl HK.out.2.2.2.2.2.2.2.2.2.1 (by omega)).2
            have HK2 := Lib.hid k2
            clear mv k2 p0 p1 p2
            have hcase : (sent fr tq bs L = (0, L ++ [(fr, tq, bs)])) ∨ ((sent fr tq bs L).2 = L ∧ ((sent fr tq bs L).1 == 0) = false) := by
              unfold sent
              split
              · exact .inr ⟨rfl, rfl⟩
              · split
                · exact .inl rfl
                · exact .inr ⟨rfl, rfl⟩
            rcases hcase with hc | ⟨hc1, hc2⟩
            · rw [hc] at HK2 ⊢
              dsimp only at HK2 ⊢
              clear hc
              have M2 := Lib.hid HK2.out.2.2.2.2.2.2.2.2.2.2
              have p0 := M2.out.cell P0.out (by simp)
              have p1 := M2.out.cell P1.out (by simp)
              have p2 := M2.out.cell P2.out (by simp)
              have mb := Mod.alloc [] w2 (.cells #[.int .i64 fr, .int .i64 tq, .slice xa bs.length xc] 29)
              have HSH := Lib.hid (shows1 (x := (fr, tq, xa, xc, bs)) (heap_alloc_new w2 (.cells #[.int .i64 fr, .int .i64 tq, .slice xa bs.length xc] 29)))
              have HK3 := Lib.hid (HK2.out.mod0 mb)
              have OS := Lib.hid HK3.out.2.1
              clear mb HK2 M2
              go_wp2_with (first | (at_builtin; refine wpl_appL (dst := some 61) _ _ sa S.length sc S rfl rfl OS.out _ 1 1 [(fr, tq, xa, xc, bs)] rfl rfl HSH.out (by omega) ?_) | fail)
              intro a4 c4 w4 o4 m4 s4
              have HK4 := Lib.hid (HK3.out.sent o4 m4 s4 (HK3.out.old (x := (fr, tq, xa, xc, bs)) PS.out))
              clear o4 m4 s4 HK3 OS HSH p0 p1 p2
              go_wp2
              go_roundw
              case rel => exact ⟨k + 1, a4, c4, S ++ [(fr, tq, xa, xc, bs)], _, F2, by omega, by go_num, by simp, HK4.out, HC.out.send _ _ rfl, by simp; omega⟩
              case measure => simp [intOf]; omega
            · rw [hc1] at HK2
              go_wp2
              go_roundw
              case rel => exact ⟨k + 1, sa, sc, S, L, F2, by omega, by go_num, rfl, HK2.out, HC.out, by omega⟩
              case measure => simp [intOf]; omega
        · have hke : k = l.length := by omega
          have hS60 : S.length ≤ 60 := by omega
          subst hke
          clear hsl hlt hk M
          go_wp2_with fail
          go_loopw [6, 8, 9] (fun row grow i wr => ∃ (k : Nat) (sa : Option Addr) (sc : Nat) (S : List Lt) (ga : Option Addr) (gc : Nat) (G : List Lt) (L : List Lr) (F : List Nat), k ≤ acts.length ∧ i = .int .i64 (k : Int) ∧ row = .slice sa S.length sc ∧ grow = .slice ga G.length gc ∧ KR w g sa sc S ga gc G L F wr ∧ Acc S G L ∧ S.length ≤ 60 + k ∧ G.length ≤ k) (fun _ _ i _ => acts.length - (intOf i).toNat)
          case atStart => exact ⟨0, sa, sc, S, none, 0, [], L, F, Nat.zero_le _, rfl, rfl, rfl, HK.out, HC.out, by omega, Nat.le_refl _⟩
          case round =>
            clear HK HC hLl hS60
            obtain ⟨k, sa, sc, S, ga, gc, G, L, F, hk, rfl, rfl, rfl, hkr, hacc, hsl, hgl⟩ := hrel
            have HK := Lib.hid hkr
            have HC := Lib.hid hacc
            have hLl := hkr.2.2.2.2.2.2.2.2.1
            have HZ := Lib.hid hkr.2.2.2.2.2.2.2.2.2.1
            clear hkr hacc
            by_cases hlt : k < acts.length
            · obtain ⟨b, off, rfl, p0, p1, -, -, -, -, -, h9, -⟩ := HA.out k hlt
              obtain ⟨⟨d, kk, rest⟩, hx⟩ : ∃ x, acts[k] = x := ⟨_, rfl⟩
              rw [hx] at p0 p1 h9
              dsimp only at p0 p1 h9
              have P0 := Lib.hid p0
              have P1 := Lib.hid p1
              have hki : (k : Int) < (acts.length : Int) := by omega
              clear hx p0 p1
              go_wp2_with fail
              refine (letters_w g F L _ HK.out.1 (by omega) (fun x hx => Nat.le_trans (HZ.out x hx) (by omega))).mono ?_
              rintro e w2 ⟨a2, c2, l2, rfl, hl2, lt2, fr2, m2⟩
              obtain ⟨T1, T2⟩ := HK.out.told lt2 m2 fr2
              have HK2 := Lib.hid (HK.out.mod0 m2)
              have HT1 := Lib.hid T1
              have HT2 := Lib.hid T2
              have HO2 := Lib.hid lt2.1
              have HL2 := Lib.hid hl2
              have M2 := Lib.hid HK2.out.2.2.2.2.2.2.2.2.2.2
              have hll2 : l2.length = L.length := by rw [← hl2]; simp
              have HLL := Lib.hid hll2
              have p0 := M2.out.cell P0.out (by simp)
              have p1 := M2.out.cell P1.out (by simp)
              clear T1 T2 lt2 fr2 m2 hl2 hll2 HK
              by_cases hhere : 0 ≤ kk ∧ kk < (L.length : Int)
              · obtain ⟨i, rfl⟩ := Int.eq_ofNat_of_zero_le hhere.1
                have hi : i < L.length := by omega
                have hii : (i : Int) < (L.length : Int) := by omega
                have hd0 : decide (0 ≤ (i : Int)) = true := by simp
                have hdn : decide (i < L.length) = true := by simpa using hi
                have hi2 : i < l2.length := by rw [HLL.out]; exact hi
                have hst : Hid (stripL l2[i] = L[i]) := by
                  have h1 := HL2.out
                  show stripL l2[i] = L[i]
                  have h2 : (l2.map stripL)[i]'(by simpa using hi2) = L[i] := by simp only [h1]
                  simpa using h2
                obtain ⟨b2, hb2, q0, q1, q2⟩ := OwnL.at' HO2.out hi2
                subst hb2
                obtain ⟨y, hy⟩ : ∃ y, l2[i] = y := ⟨_, rfl⟩
                have HY := Lib.hid (HT2.out l2[i] (List.getElem_mem hi2))
                rw [hy] at q0 q1 q2 HY hst
                obtain ⟨yf, yt, ya, yc, yb⟩ := y
                dsimp only at q0 q1 q2
                have Q0 := Lib.hid q0
                have Q1 := Lib.hid q1
                have Q2 := Lib.hid q2
                have NB2 : Hid (b2 ∉ busy F sa ga) := HT1.out b2 (by simp [blk])
                clear hy q0 q1 q2 HO2 HT1 HT2 HL2 HLL hi2 hhere
                have hd4 : d % 4 = 0 ∨ d % 4 = 1 ∨ d % 4 = 2 ∨ d % 4 = 3 := by omega
                rcases hd4 with hr | hr | hr | hr
                · have hr0 : (d : Int) % 4 = 0 := by omega
                  clear hr
                  as_aux_lemma =>
                    have hz1 : Hid (∀ x, x ∈ L.eraseIdx i → x.2.2.length ≤ 100) := fun x hx => HZ.out x (List.mem_of_mem_eraseIdx hx)
                    have hl1 : Hid ((L.eraseIdx i).length ≤ 256) := by show _ ≤ _; rw [List.length_eraseIdx_of_lt hi]; omega
                    go_wp2_with fail
                    refine (take_w g F L i _ HK2.out.1 hi (by omega)).mono ?_
                    obtain ⟨⟨xf, xt, xb⟩, hX⟩ : ∃ x, L[i] = x := ⟨_, rfl⟩
                    rw [hX]
                    have HX := Lib.hid hX
                    clear hX
                    rintro e w3 ⟨a3, c3, rfl, o3, F3, n3, m3, f3, d3⟩
                    have HK3 := Lib.hid (HK2.out.turn n3 m3 f3 hl1.out hz1.out)
                    have hb3 : ∀ j, j ∈ busy F3 sa ga → j ∈ busy F sa ga ∨ w2.heap.size ≤ j := fun j hj => by
                      rcases mem_busy.1 hj with h | h | h
                      · rcases f3 j h with h | h
                        · exact .inl (mem_busy.2 (.inl h))
                        · exact .inr h
                      · exact .inl (mem_busy.2 (.inr (.inl h)))
                      · exact .inl (mem_busy.2 (.inr (.inr h)))
                    have HX3 : Hid (Safe w3 (busy F3 sa ga) (xf, xt, a3, c3, xb)) := ⟨o3.sees, fun _ b off hb hm => by
                      have h1 := d3 b (by dsimp only at hb; rw [hb]; simp [blk])
                      have h2 := HK2.out.2.2.2.2.2.1 b h1.1
                      rcases mem_busy.1 hm with h | h | h
                      · exact h1.2 h
                      · exact h2.2.1 h
                      · exact h2.2.2 h⟩
                    have HY3 := Lib.hid (HY.out.mod m3 (fun j hj => .inl (mem_busy.2 (.inl hj))) hb3)
                    have nbF : b2 ∉ F := fun hm => NB2.out (mem_busy.2 (.inl hm))
                    have q0 := m3.cell Q0.out nbF
                    have q1 := m3.cell Q1.out nbF
                    have q2 := m3.cell Q2.out nbF
                    have hb2 : b2 < w3.heap.size := World.block_lt_of_cell? w3 _ q0
                    have ma := Mod.alloc [] w3 (.cells #[.int .i64 xf, .int .i64 xt, .slice a3 xb.length c3] 29)
                    have X0 := Lib.hid (heap_alloc_new w3 (.cells #[.int .i64 xf, .int .i64 xt, .slice a3 xb.length c3] 29))
                    have HK4 := Lib.hid (HK3.out.mod0 ma)
                    have HX4 := Lib.hid (HX3.out.mod0 ma)
                    have HY4 := Lib.hid (HY3.out.mod0 ma)
                    have q0 := ma.cell q0 (by simp)
                    have q1 := ma.cell q1 (by simp)
                    have q2 := ma.cell q2 (by simp)
                    clear o3 n3 m3 f3 d3 hb3 HK2 HK3 HX3 HY HY3 ma nbF p0 p1
                    have p0 := HK4.out.2.2.2.2.2.2.2.2.2.2.cell P0.out (by simp)
                    go_upto_region 24 with (fail)
                    generalize hbx : w3.heap.size = bx at *
                    generalize w3.alloc (.cells #[.int .i64 xf, .int .i64 xt, .slice a3 xb.length c3] 29) = v3 at *
                    clear hbx
                    refine rest_start [] 16 #[false, false, false, false, false, false, false, false, false, false, false, false, false, false, false, false] rfl (by kernel_rfl) (by kernel_rfl) ?_
                    intro w5 m5
                    have HK5 := Lib.hid (HK4.out.mod0 m5)
                    have HX5 := Lib.hid (HX4.out.mod0 m5)
                    have HY5 := Lib.hid (HY4.out.mod0 m5)
                    have X5 := Lib.hid (m5.get X0.out (by simp))
                    have q0 := m5.cell q0 (by simp)
                    have q1 := m5.cell q1 (by simp)
                    have q2 := m5.cell q2 (by simp)
                    have x0 := cell_of_block (i := 0) X5.out
                    have x1 := cell_of_block (i := 1) X5.out
                    have x2 := cell_of_block (i := 2) X5.out
                    clear m5 HK4 HX4 HY4 X0 p0
                    refine rest_got (i := 0) (v := ?v1) rfl (by kernel_rfl) (by kernel_rfl) (by kernel_rfl) (fun _ _ _ h => h) (by rfl) ?y1 ?r1
                    case y1 => (intro w9q hSwq; clear hSwq; go_simp; with_reducible rfl)
                    try simp only [Act.put, List.setIfInBounds_toArray, List.set_cons_zero, List.set_cons_succ]
                    refine rest_got (i := 1) (v := ?v2) rfl (by kernel_rfl) (by kernel_rfl) (by kernel_rfl) (fun _ _ _ h => h) (by rfl) ?y2 ?r2
                    case y2 => (intro w9q hSwq; clear hSwq; go_simp; with_reducible rfl)
                    try simp only [Act.put, List.setIfInBounds_toArray, List.set_cons_zero, List.set_cons_succ]
                    refine rest_got (i := 2) (v := ?v3) rfl (by kernel_rfl) (by kernel_rfl) (by kernel_rfl) (fun _ _ _ h => h) (by rfl) ?y3 ?r3
                    case y3 => (intro w9q hSwq; clear hSwq; go_simp; with_reducible rfl)
                    try simp only [Act.put, List.setIfInBounds_toArray, List.set_cons_zero, List.set_cons_succ]
                    refine rest_got (i := 3) (v := ?v4) rfl (by kernel_rfl) (by kernel_rfl) (by kernel_rfl) (fun _ _ _ h => h) (by rfl) ?y4 ?r4
                    case y4 => (intro w9q hSwq; clear hSwq; go_simp; with_reducible rfl)
                    try simp only [Act.put, List.setIfInBounds_toArray, List.set_cons_zero, List.set_cons_succ]
                    refine rest_got (i := 4) (v := ?v5) rfl (by kernel_rfl) (by kernel_rfl) (by kernel_rfl) (fun _ _ _ h => h) (by rfl) ?y5 ?r5
                    case y5 => (intro w9q hSwq; clear hSwq; go_simp; with_reducible rfl)
                    try simp only [Act.put, List.setIfInBounds_toArray, List.set_cons_zero, List.set_cons_succ]
                    refine rest_got (i := 5) (v := ?v6) rfl (by kernel_rfl) (by kernel_rfl) (by kernel_rfl) (fun _ _ _ h => h) (by rfl) ?y6 ?r6
                    case y6 => (intro w9q hSwq; clear hSwq; go_simp; with_reducible rfl)
                    try simp only [Act.put, List.setIfInBounds_toArray, List.set_cons_zero, List.set_cons_succ]
                    refine rest_got (i := 6) (v := ?v7) rfl (by kernel_rfl) (by kernel_rfl) (by kernel_rfl) (fun _ _ _ h => h) (by rfl) ?y7 ?r7
                    case y7 => (intro w9q hSwq; clear hSwq; go_simp; with_reducible rfl)
                    try simp only [Act.put, List.setIfInBounds_toArray, List.set_cons_zero, List.set_cons_succ]
                    refine rest_got (i := 7) (v := ?v8) rfl (by kernel_rfl) (by kernel_rfl) (by kernel_rfl) (fun _ _ _ h => h) (by rfl) ?y8 ?r8
                    case y8 => ((intro w9' hm9'; have hc9' := Mod.cell hm9' x0 (by first | exact List.not_mem_nil | (simp; done) | (simp; omega)); have hd9' := Mod.cell hm9' x1 (by first | exact List.not_mem_nil | (simp; done) | (simp; omega)); have he9' := Mod.cell hm9' x2 (by first | exact List.not_mem_nil | (simp; done) | (simp; omega)); clear hm9'; go_simp; with_reducible rfl))
                    try simp only [Act.put, List.setIfInBounds_toArray, List.set_cons_zero, List.set_cons_succ]
                    refine rest_got (i := 8) (v := ?v9) rfl (by kernel_rfl) (by kernel_rfl) (by kernel_rfl) (fun _ _ _ h => h) (by rfl) ?y9 ?r9
                    case y9 => (intro w9q hSwq; clear hSwq; go_simp; with_reducible rfl)
                    try simp only [Act.put, List.setIfInBounds_toArray, List.set_cons_zero, List.set_cons_succ]
                    refine rest_got (i := 9) (v := ?v10) rfl (by kernel_rfl) (by kernel_rfl) (by kernel_rfl) (fun _ _ _ h => h) (by rfl) ?y10 ?r10
                    case y10 => (intro w9q hSwq; clear hSwq; go_simp; with_reducible rfl)
                    try simp only [Act.put, List.setIfInBounds_toArray, List.set_cons_zero, List.set_cons_succ]
                    refine rest_got (i := 10) (v := ?v11) rfl (by kernel_rfl) (by kernel_rfl) (by kernel_rfl) (fun _ _ _ h => h) (by rfl) ?y11 ?r11
                    case y11 => (intro w9q hSwq; clear hSwq; go_simp; with_reducible rfl)
                    try simp only [Act.put, List.setIfInBounds_toArray, List.set_cons_zero, List.set_cons_succ]
                    refine rest_got (i := 11) (v := ?v12) rfl (by kernel_rfl) (by kernel_rfl) (by kernel_rfl) (fun _ _ _ h => h) (by rfl) ?y12 ?r12
                    case y12 => ((intro w9' hm9'; have hc9' := Mod.cell hm9' q0 (by first | exact List.not_mem_nil | (simp; done) | (simp; omega)); have hd9' := Mod.cell hm9' q1 (by first | exact List.not_mem_nil | (simp; done) | (simp; omega)); have he9' := Mod.cell hm9' q2 (by first | exact List.not_mem_nil | (simp; done) | (simp; omega)); clear hm9'; go_simp; with_reducible rfl))
                    try simp only [Act.put, List.setIfInBounds_toArray, List.set_cons_zero, List.set_cons_succ]
                    refine rest_one (i := 12) (by kernel_rfl) rfl (by rfl) ?_
                    go_wp2_with fail
                    refine (alike_any (xf, xt, a3, c3, xb) (yf, yt, ya, yc, yb) _ HX5.out.1 HY5.out.1).mono ?_
                    rintro e w6 ⟨t, rfl, ht, m6⟩
                    have htt : t = true := ht.2 (by rw [hst.out, HX.out]; rfl)
                    subst htt
                    have HK6 := Lib.hid (HK5.out.mod0 m6)
                    have HX6 := Lib.hid (HX5.out.mod0 m6)
                    have X6 := Lib.hid (m6.get X5.out (by simp))
                    go_wp2_with fail
                    refine back_to (K1 := []) m6 (by simp) ?_
                    clear m6 ht HK5 HX5 HY5 X5 x0 x1 x2 q0 q1 q2
                    refine rest_got (i := 13) (v := ?v13) rfl (by kernel_rfl) (by kernel_rfl) (by kernel_rfl) (fun _ _ _ h => h) (by rfl) ?y13 ?r13
                    case y13 => (intro w9q hSwq; clear hSwq; go_simp; with_reducible rfl)
                    try simp only [Act.put, List.setIfInBounds_toArray, List.set_cons_zero, List.set_cons_succ]
                    refine rest_got (i := 14) (v := ?v14) rfl (by kernel_rfl) (by kernel_rfl) (by kernel_rfl) (fun _ _ _ h => h) (by rfl) ?y14 ?r14
                    case y14 => (intro w9q hSwq; clear hSwq; go_simp; with_reducible rfl)
                    try simp only [Act.put, List.setIfInBounds_toArray, List.set_cons_zero, List.set_cons_succ]
                    refine rest_got (i := 15) (v := ?v15) rfl (by kernel_rfl) (by kernel_rfl) (by kernel_rfl) (fun _ _ _ h => h) (by rfl) ?y15 ?r15
                    case y15 => (intro w9q hSwq; clear hSwq; go_simp; with_reducible rfl)
                    try simp only [Act.put, List.setIfInBounds_toArray, List.set_cons_zero, List.set_cons_succ]
                    refine rest_done (by kernel_rfl) ?_ _
                    have x0 := cell_of_block (i := 0) X6.out
                    have x1 := cell_of_block (i := 1) X6.out
                    have x2 := cell_of_block (i := 2) X6.out
                    have mb := Mod.alloc [] w6 (.cells #[.int .i64 xf, .int .i64 xt, .slice a3 xb.length c3] 29)
                    have HSH := Lib.hid (shows1 (x := (xf, xt, a3, c3, xb)) (heap_alloc_new w6 (.cells #[.int .i64 xf, .int .i64 xt, .slice a3 xb.length c3] 29)))
                    have HK7 := Lib.hid (HK6.out.mod0 mb)
                    have HX7 := Lib.hid (HX6.out.mod0 mb)
                    have OG := Lib.hid HK7.out.2.2.1
                    clear mb HK6 HX6
                    go_wp2_with (first | (at_builtin; refine wpl_appL (dst := some 123) _ _ ga G.length gc G rfl rfl OG.out _ 1 1 [(xf, xt, a3, c3, xb)] rfl rfl HSH.out (by omega) ?_) | fail)
                    intro a8 c8 w8 o8 m8 s8
                    have HK8 := Lib.hid (HK7.out.gone o8 m8 s8 HX7.out)
                    clear o8 m8 s8 HK7 HX7 OG HSH X6 x0 x1 x2
                    go_wp2
                    go_roundw
                    case rel => exact ⟨k + 1, sa, sc, S, a8, c8, G ++ [(xf, xt, a3, c3, xb)], _, F3, by omega, by go_num, rfl, by simp, HK8.out, HC.out.out i hi _ (by rw [HX.out]; rfl), by omega, by simp; omega⟩
                    case measure => simp [intOf]; omega
                · have hr0 : (d : Int) % 4 = 1 := by omega
                  clear hr
                  as_aux_lemma =>
                    have hz1 : Hid (∀ x, x ∈ L.eraseIdx i → x.2.2.length ≤ 100) := fun x hx => HZ.out x (List.mem_of_mem_eraseIdx hx)
                    have hl1 : Hid ((L.eraseIdx i).length ≤ 256) := by show _ ≤ _; rw [List.length_eraseIdx_of_lt hi]; omega
                    go_wp2_with fail
                    refine (drop_w g F L i _ HK2.out.1 hi (by omega)).mono ?_
                    rintro e w3 ⟨rfl, mv⟩
                    obtain ⟨F3, k3, m3, f3⟩ := HK2.out.moved mv hl1.out hz1.out
                    have HK3 := Lib.hid k3
                    clear mv k3
                    have HY3 := Lib.hid (HY.out.mod m3 (fun j hj => .inl (mem_busy.2 (.inl hj))) (fun j hj => by
                      rcases mem_busy.1 hj with h | h | h
                      · rcases f3 j h with h | h
                        · exact .inl (mem_busy.2 (.inl h))
                        · exact .inr h
                      · exact .inl (mem_busy.2 (.inr (.inl h)))
                      · exact .inl (mem_busy.2 (.inr (.inr h)))))
                    have nbF : b2 ∉ F := fun hm => NB2.out (mem_busy.2 (.inl hm))
                    have q0 := m3.cell Q0.out nbF
                    have q1 := m3.cell Q1.out nbF
                    have q2 := m3.cell Q2.out nbF
                    have mb := Mod.alloc [] w3 (.cells #[.int .i64 yf, .int .i64 yt, .slice ya yb.length yc] 29)
                    have HSH := Lib.hid (shows1 (x := (yf, yt, ya, yc, yb)) (heap_alloc_new w3 (.cells #[.int .i64 yf, .int .i64 yt, .slice ya yb.length yc] 29)))
                    have HK7 := Lib.hid (HK3.out.mod0 mb)
                    have HY7 := Lib.hid (HY3.out.mod0 mb)
                    have OG := Lib.hid HK7.out.2.2.1
                    clear m3 f3 mb HK3 HY3 HY HK2 nbF p0 p1
                    go_wp2_with (first | (at_builtin; refine wpl_appL (dst := some 139) _ _ ga G.length gc G rfl rfl OG.out _ 1 1 [(yf, yt, ya, yc, yb)] rfl rfl HSH.out (by omega) ?_) | fail)
                    intro a8 c8 w8 o8 m8 s8
                    have HK8 := Lib.hid (HK7.out.gone o8 m8 s8 HY7.out)
                    clear o8 m8 s8 HK7 HY7 OG HSH q0 q1 q2
                    go_wp2
                    go_roundw

                    case rel => exact ⟨k + 1, sa, sc, S, a8, c8, G ++ [(yf, yt, ya, yc, yb)], _, F3, by omega, by go_num, rfl, by simp, HK8.out, HC.out.out i hi _ hst.out, by omega, by simp; omega⟩
                    case measure => simp [intOf]; omega
                · have hr0 : (d : Int) % 4 = 2 := by omega
                  clear hr
                  as_aux_lemma =>
                    have hlz : Hid (L[i].2.2.length ≤ 1000000) := Nat.le_trans (HZ.out _ (List.getElem_mem hi)) (by omega)
                    by_cases hc : L.length < 256
                    · have hz1 : Hid (∀ x, x ∈ L ++ [L[i]] → x.2.2.length ≤ 100) := fun x hx => by
                        rcases List.mem_append.1 hx with h | h
                        · exact HZ.out x h
                        · simp only [List.mem_singleton] at h; subst h; exact HZ.out _ (List.getElem_mem hi)
                      have hl1 : Hid ((L ++ [L[i]]).length ≤ 256) := by show _ ≤ _; simp; omega
                      have hdl : decide ((L.length : Int) < 256) = true := decide_eq_true (by omega)
                      go_wp2_with fail
                      refine (double_w g F L i _ HK2.out.1 hi hc hlz.out).mono ?_
                      rintro e w3 ⟨rfl, mv⟩
                      obtain ⟨F3, k3, m3, f3⟩ := HK2.out.moved mv hl1.out hz1.out
                      have HK3 := Lib.hid k3
                      clear mv k3
                      have HY3 := Lib.hid (HY.out.mod m3 (fun j hj => .inl (mem_busy.2 (.inl hj))) (fun j hj => by
                        rcases mem_busy.1 hj with h | h | h
                        · rcases f3 j h with h | h
                          · exact .inl (mem_busy.2 (.inl h))
                          · exact .inr h
                        · exact .inl (mem_busy.2 (.inr (.inl h)))
                        · exact .inl (mem_busy.2 (.inr (.inr h)))))
                      have nbF : b2 ∉ F := fun hm => NB2.out (mem_busy.2 (.inl hm))
                      have q0 := m3.cell Q0.out nbF
                      have q1 := m3.cell Q1.out nbF
                      have q2 := m3.cell Q2.out nbF
                      have mb := Mod.alloc [] w3 (.cells #[.int .i64 yf, .int .i64 yt, .slice ya yb.length yc] 29)
                      have HSH := Lib.hid (shows1 (x := (yf, yt, ya, yc, yb)) (heap_alloc_new w3 (.cells #[.int .i64 yf, .int .i64 yt, .slice ya yb.length yc] 29)))
                      have HK7 := Lib.hid (HK3.out.mod0 mb)
                      have HY7 := Lib.hid (HY3.out.mod0 mb)
                      have OS := Lib.hid HK7.out.2.1
                      clear m3 f3 mb HK3 HY3 HY HK2 nbF p0 p1
                      go_wp2_with (first | (at_builtin; refine wpl_appL (dst := some 165) _ _ sa S.length sc S rfl rfl OS.out _ 1 1 [(yf, yt, ya, yc, yb)] rfl rfl HSH.out (by omega) ?_) | fail)
                      intro a8 c8 w8 o8 m8 s8
                      have HK8 := Lib.hid (HK7.out.sent o8 m8 s8 HY7.out)
                      clear o8 m8 s8 HK7 HY7 OS HSH q0 q1 q2
                      go_wp2
                      go_roundw

                      case rel => exact ⟨k + 1, a8, c8, S ++ [(yf, yt, ya, yc, yb)], ga, gc, G, _, F3, by omega, by go_num, by simp, rfl, HK8.out, HC.out.send _ _ hst.out, by simp; omega, by omega⟩
                      case measure => simp [intOf]; omega
                    · have hdl : decide ((L.length : Int) < 256) = false := decide_eq_false (by omega)
                      go_wp2_with fail
                      refine (double_fullw g F L i _ HK2.out.1 hi (by omega) hlz.out).mono ?_
                      rintro e w3 ⟨rfl, m3⟩
                      have HK3 := Lib.hid (HK2.out.mod0 m3)
                      clear m3 HK2 p0 p1
                      go_wp2
                      go_roundw
                      case rel => exact ⟨k + 1, sa, sc, S, ga, gc, G, L, F, by omega, by go_num, rfl, rfl, HK3.out, HC.out, by omega, by omega⟩
                      case measure => simp [intOf]; omega
                · have hr0 : (d : Int) % 4 = 3 := by omega
                  clear hr
                  as_aux_lemma =>
                    have hz1 : Hid (∀ x, x ∈ L.eraseIdx i ++ [L[i]] → x.2.2.length ≤ 100) := fun x hx => by
                      rcases List.mem_append.1 hx with h | h
                      · exact HZ.out x (List.mem_of_mem_eraseIdx h)
                      · simp only [List.mem_singleton] at h; subst h; exact HZ.out _ (List.getElem_mem hi)
                    have hl1 : Hid ((L.eraseIdx i ++ [L[i]]).length ≤ 256) := by show _ ≤ _; rw [List.length_append, List.length_eraseIdx_of_lt hi]; simp; omega
                    go_wp2_with fail
                    refine (hold_w g F L i _ HK2.out.1 hi (by omega)).mono ?_
                    rintro e w3 ⟨rfl, mv⟩
                    obtain ⟨F3, k3, m3, f3⟩ := HK2.out.moved mv hl1.out hz1.out
                    have HK3 := Lib.hid k3
                    clear mv k3 m3 f3 HK2 p0 p1
                    go_wp2
                    go_roundw
                    case rel => exact ⟨k + 1, sa, sc, S, ga, gc, G, _, F3, by omega, by go_num, rfl, rfl, HK3.out, HC.out.hold i hi, by omega, by omega⟩
                    case measure => simp [intOf]; omega
              · as_aux_lemma =>
                  have hout : kk < 0 ∨ (L.length : Int) ≤ kk := by omega
                  have HOut := Lib.hid hout
                  clear HO2 HT1 HT2 HL2 HLL hhere
                  have hd4 : d % 4 = 0 ∨ d % 4 = 1 ∨ d % 4 = 2 ∨ d % 4 = 3 := by omega
                  have HD4 := Lib.hid hd4
                  clear hd4
                  rcases hout with hn | hn
                  · have hd0 : decide (0 ≤ kk) = false := decide_eq_false (by omega)
                    rcases HD4.out with hr | hr | hr | hr
                    · have hr0 : (d : Int) % 4 = 0 := by omega
                      clear hr
                      go_wp2_with fail
                      refine (take_outw g F L kk _ HK2.out.1 HOut.out).mono ?_
                      rintro e w3 ⟨rfl, m3⟩
                      have ma := Mod.alloc [] w3 (.cells #[.int .i64 0, .int .i64 0, .slice none 0 0] 29)
                      have HK3 := Lib.hid (HK2.out.mod0 (m3.trans' ma))
                      clear m3 ma HK2 p0 p1
                      go_upto_region 24 with (fail)
                      refine rest_start [] 16 #[false, false, false, false, false, false, false, false, false, false, false, false, false, false, false, false] rfl (by kernel_rfl) (by kernel_rfl) ?_
                      intro w5 m5
                      have HK5 := Lib.hid (HK3.out.mod0 m5)
                      clear m5 HK3
                      refine rest_got (i := 0) (v := ?v16) rfl (by kernel_rfl) (by kernel_rfl) (by kernel_rfl) (fun _ _ _ h => h) (by rfl) ?y16 ?r16
                      case y16 => (intro w9q hSwq; clear hSwq; go_simp; with_reducible rfl)
                      try simp only [Act.put, List.setIfInBounds_toArray, List.set_cons_zero, List.set_cons_succ]
                      refine rest_got (i := 1) (v := ?v17) rfl (by kernel_rfl) (by kernel_rfl) (by kernel_rfl) (fun _ _ _ h => h) (by rfl) ?y17 ?r17
                      case y17 => (intro w9q hSwq; clear hSwq; go_simp; with_reducible rfl)
                      try simp only [Act.put, List.setIfInBounds_toArray, List.set_cons_zero, List.set_cons_succ]
                      refine rest_got (i := 2) (v := ?v18) rfl (by kernel_rfl) (by kernel_rfl) (by kernel_rfl) (fun _ _ _ h => h) (by rfl) ?y18 ?r18
                      case y18 => (intro w9q hSwq; clear hSwq; go_simp; with_reducible rfl)
                      try simp only [Act.put, List.setIfInBounds_toArray, List.set_cons_zero, List.set_cons_succ]
                      refine rest_got (i := 3) (v := ?v19) rfl (by kernel_rfl) (by kernel_rfl) (by kernel_rfl) (fun _ _ _ h => h) (by rfl) ?y19 ?r19
                      case y19 => (intro w9q hSwq; clear hSwq; go_simp; with_reducible rfl)
                      try simp only [Act.put, List.setIfInBounds_toArray, List.set_cons_zero, List.set_cons_succ]
                      refine rest_got (i := 4) (v := ?v20) rfl (by kernel_rfl) (by kernel_rfl) (by kernel_rfl) (fun _ _ _ h => h) (by rfl) ?y20 ?r20
                      case y20 => (intro w9q hSwq; clear hSwq; go_simp; with_reducible rfl)
                      try simp only [Act.put, List.setIfInBounds_toArray, List.set_cons_zero, List.set_cons_succ]
                      refine rest_got (i := 5) (v := ?v21) rfl (by kernel_rfl) (by kernel_rfl) (by kernel_rfl) (fun _ _ _ h => h) (by rfl) ?y21 ?r21
                      case y21 => (intro w9q hSwq; clear hSwq; go_simp; with_reducible rfl)
                      try simp only [Act.put, List.setIfInBounds_toArray, List.set_cons_zero, List.set_cons_succ]
                      refine rest_got (i := 6) (v := ?v22) rfl (by kernel_rfl) (by kernel_rfl) (by kernel_rfl) (fun _ _ _ h => h) (by rfl) ?y22 ?r22
                      case y22 => (intro w9q hSwq; clear hSwq; go_simp; with_reducible rfl)
                      try simp only [Act.put, List.setIfInBounds_toArray, List.set_cons_zero, List.set_cons_succ]
                      refine rest_skip (i := 7) rfl (by kernel_rfl) (by kernel_rfl) (by kernel_rfl) (fun _ _ _ h => h) (by rfl) ?_
                      try simp only [Act.put, List.setIfInBounds_toArray, List.set_cons_zero, List.set_cons_succ]
                      refine rest_skip (i := 8) rfl (by kernel_rfl) (by kernel_rfl) (by kernel_rfl) (fun _ _ _ h => h) (by rfl) ?_
                      try simp only [Act.put, List.setIfInBounds_toArray, List.set_cons_zero, List.set_cons_succ]
                      refine rest_skip (i := 9) rfl (by kernel_rfl) (by kernel_rfl) (by kernel_rfl) (fun _ _ _ h => h) (by rfl) ?_
                      try simp only [Act.put, List.setIfInBounds_toArray, List.set_cons_zero, List.set_cons_succ]
                      refine rest_skip (i := 10) rfl (by kernel_rfl) (by kernel_rfl) (by kernel_rfl) (fun _ _ _ h => h) (by rfl) ?_
                      try simp only [Act.put, List.setIfInBounds_toArray, List.set_cons_zero, List.set_cons_succ]
                      refine rest_skip (i := 11) rfl (by kernel_rfl) (by kernel_rfl) (by kernel_rfl) (fun _ _ _ h => h) (by rfl) ?_
                      try simp only [Act.put, List.setIfInBounds_toArray, List.set_cons_zero, List.set_cons_succ]
                      refine rest_skip (i := 12) rfl (by kernel_rfl) (by kernel_rfl) (by kernel_rfl) (fun _ _ _ h => h) (by rfl) ?_
                      try simp only [Act.put, List.setIfInBounds_toArray, List.set_cons_zero, List.set_cons_succ]
                      refine rest_skip (i := 13) rfl (by kernel_rfl) (by kernel_rfl) (by kernel_rfl) (fun _ _ _ h => h) (by rfl) ?_
                      try simp only [Act.put, List.setIfInBounds_toArray, List.set_cons_zero, List.set_cons_succ]
                      refine rest_got (i := 14) (v := ?v23) rfl (by kernel_rfl) (by kernel_rfl) (by kernel_rfl) (fun _ _ _ h => h) (by rfl) ?y23 ?r23
                      case y23 => (intro w9q hSwq; clear hSwq; go_simp; with_reducible rfl)
                      try simp only [Act.put, List.setIfInBounds_toArray, List.set_cons_zero, List.set_cons_succ]
                      refine rest_got (i := 15) (v := ?v24) rfl (by kernel_rfl) (by kernel_rfl) (by kernel_rfl) (fun _ _ _ h => h) (by rfl) ?y24 ?r24
                      case y24 => (intro w9q hSwq; clear hSwq; go_simp; with_reducible rfl)
                      try simp only [Act.put, List.setIfInBounds_toArray, List.set_cons_zero, List.set_cons_succ]
                      refine rest_done (by kernel_rfl) ?_ _
                      go_wp2
                      go_roundw
                      case rel => exact ⟨k + 1, sa, sc, S, ga, gc, G, L, F, by omega, by go_num, rfl, rfl, HK5.out, HC.out, by omega, by omega⟩
                      case measure => simp [intOf]; omega
                    · have hr0 : (d : Int) % 4 = 1 := by omega
                      clear hr
                      go_wp2_with fail
                      refine (drop_outw g F L kk _ HK2.out.1 HOut.out).mono ?_
                      rintro e w3 ⟨rfl, m3⟩
                      have HK5 := Lib.hid (HK2.out.mod0 m3)
                      clear m3 HK2 p0 p1
                      go_wp2
                      go_roundw
                      case rel => exact ⟨k + 1, sa, sc, S, ga, gc, G, L, F, by omega, by go_num, rfl, rfl, HK5.out, HC.out, by omega, by omega⟩
                      case measure => simp [intOf]; omega
                    · have hr0 : (d : Int) % 4 = 2 := by omega
                      clear hr
                      go_wp2_with fail
                      refine (double_outw g F L kk _ HK2.out.1 HOut.out).mono ?_
                      rintro e w3 ⟨rfl, m3⟩
                      have HK5 := Lib.hid (HK2.out.mod0 m3)
                      clear m3 HK2 p0 p1
                      go_wp2
                      go_roundw
                      case rel => exact ⟨k + 1, sa, sc, S, ga, gc, G, L, F, by omega, by go_num, rfl, rfl, HK5.out, HC.out, by omega, by omega⟩
                      case measure => simp [intOf]; omega
                    · have hr0 : (d : Int) % 4 = 3 := by omega
                      clear hr
                      go_wp2_with fail
                      refine (hold_outw g F L kk _ HK2.out.1 HOut.out).mono ?_
                      rintro e w3 ⟨rfl, m3⟩
                      have HK5 := Lib.hid (HK2.out.mod0 m3)
                      clear m3 HK2 p0 p1
                      go_wp2
                      go_roundw
                      case rel => exact ⟨k + 1, sa, sc, S, ga, gc, G, L, F, by omega, by go_num, rfl, rfl, HK5.out, HC.out, by omega, by omega⟩
                      case measure => simp [intOf]; omega
                  · have hd0 : decide (0 ≤ kk) = true := decide_eq_true (by omega)
                    have hd1 : decide (kk < (L.length : Int)) = false := decide_eq_false (by omega)
                    rcases HD4.out with hr | hr | hr | hr
                    · have hr0 : (d : Int) % 4 = 0 := by omega
                      clear hr
                      go_wp2_with fail
                      refine (take_outw g F L kk _ HK2.out.1 HOut.out).mono ?_
                      rintro e w3 ⟨rfl, m3⟩
                      have ma := Mod.alloc [] w3 (.cells #[.int .i64 0, .int .i64 0, .slice none 0 0] 29)
                      have HK3 := Lib.hid (HK2.out.mod0 (m3.trans' ma))
                      clear m3 ma HK2 p0 p1
                      go_upto_region 24 with (fail)
                      refine rest_start [] 16 #[false, false, false, false, false, false, false, false, false, false, false, false, false, false, false, false] rfl (by kernel_rfl) (by kernel_rfl) ?_
                      intro w5 m5
                      have HK5 := Lib.hid (HK3.out.mod0 m5)
                      clear m5 HK3
                      refine rest_got (i := 0) (v := ?v25) rfl (by kernel_rfl) (by kernel_rfl) (by kernel_rfl) (fun _ _ _ h => h) (by rfl) ?y25 ?r25
                      case y25 => (intro w9q hSwq; clear hSwq; go_simp; with_reducible rfl)
                      try simp only [Act.put, List.setIfInBounds_toArray, List.set_cons_zero, List.set_cons_succ]
                      refine rest_got (i := 1) (v := ?v26) rfl (by kernel_rfl) (by kernel_rfl) (by kernel_rfl) (fun _ _ _ h => h) (by rfl) ?y26 ?r26
                      case y26 => (intro w9q hSwq; clear hSwq; go_simp; with_reducible rfl)
                      try simp only [Act.put, List.setIfInBounds_toArray, List.set_cons_zero, List.set_cons_succ]
                      refine rest_got (i := 2) (v := ?v27) rfl (by kernel_rfl) (by kernel_rfl) (by kernel_rfl) (fun _ _ _ h => h) (by rfl) ?y27 ?r27
                      case y27 => (intro w9q hSwq; clear hSwq; go_simp; with_reducible rfl)
                      try simp only [Act.put, List.setIfInBounds_toArray, List.set_cons_zero, List.set_cons_succ]
                      refine rest_got (i := 3) (v := ?v28) rfl (by kernel_rfl) (by kernel_rfl) (by kernel_rfl) (fun _ _ _ h => h) (by rfl) ?y28 ?r28
                      case y28 => (intro w9q hSwq; clear hSwq; go_simp; with_reducible rfl)
                      try simp only [Act.put, List.setIfInBounds_toArray, List.set_cons_zero, List.set_cons_succ]
                      refine rest_got (i := 4) (v := ?v29) rfl (by kernel_rfl) (by kernel_rfl) (by kernel_rfl) (fun _ _ _ h => h) (by rfl) ?y29 ?r29
                      case y29 => (intro w9q hSwq; clear hSwq; go_simp; with_reducible rfl)
                      try simp only [Act.put, List.setIfInBounds_toArray, List.set_cons_zero, List.set_cons_succ]
                      refine rest_got (i := 5) (v := ?v30) rfl (by kernel_rfl) (by kernel_rfl) (by kernel_rfl) (fun _ _ _ h => h) (by rfl) ?y30 ?r30
                      case y30 => (intro w9q hSwq; clear hSwq; go_simp; with_reducible rfl)
                      try simp only [Act.put, List.setIfInBounds_toArray, List.set_cons_zero, List.set_cons_succ]
                      refine rest_got (i := 6) (v := ?v31) rfl (by kernel_rfl) (by kernel_rfl) (by kernel_rfl) (fun _ _ _ h => h) (by rfl) ?y31 ?r31
                      case y31 => (intro w9q hSwq; clear hSwq; go_simp; with_reducible rfl)
                      try simp only [Act.put, List.setIfInBounds_toArray, List.set_cons_zero, List.set_cons_succ]
                      refine rest_skip (i := 7) rfl (by kernel_rfl) (by kernel_rfl) (by kernel_rfl) (fun _ _ _ h => h) (by rfl) ?_
                      try simp only [Act.put, List.setIfInBounds_toArray, List.set_cons_zero, List.set_cons_succ]
                      refine rest_skip (i := 8) rfl (by kernel_rfl) (by kernel_rfl) (by kernel_rfl) (fun _ _ _ h => h) (by rfl) ?_
                      try simp only [Act.put, List.setIfInBounds_toArray, List.set_cons_zero, List.set_cons_succ]
                      refine rest_skip (i := 9) rfl (by kernel_rfl) (by kernel_rfl) (by kernel_rfl) (fun _ _ _ h => h) (by rfl) ?_
                      try simp only [Act.put, List.setIfInBounds_toArray, List.set_cons_zero, List.set_cons_succ]
                      refine rest_skip (i := 10) rfl (by kernel_rfl) (by kernel_rfl) (by kernel_rfl) (fun _ _ _ h => h) (by rfl) ?_
                      try simp only [Act.put, List.setIfInBounds_toArray, List.set_cons_zero, List.set_cons_succ]
                      refine rest_skip (i := 11) rfl (by kernel_rfl) (by kernel_rfl) (by kernel_rfl) (fun _ _ _ h => h) (by rfl) ?_
                      try simp only [Act.put, List.setIfInBounds_toArray, List.set_cons_zero, List.set_cons_succ]
                      refine rest_skip (i := 12) rfl (by kernel_rfl) (by kernel_rfl) (by kernel_rfl) (fun _ _ _ h => h) (by rfl) ?_
                      try simp only [Act.put, List.setIfInBounds_toArray, List.set_cons_zero, List.set_cons_succ]
                      refine rest_skip (i := 13) rfl (by kernel_rfl) (by kernel_rfl) (by kernel_rfl) (fun _ _ _ h => h) (by rfl) ?_
                      try simp only [Act.put, List.setIfInBounds_toArray, List.set_cons_zero, List.set_cons_succ]
                      refine rest_got (i := 14) (v := ?v32) rfl (by kernel_rfl) (by kernel_rfl) (by kernel_rfl) (fun _ _ _ h => h) (by rfl) ?y32 ?r32
                      case y32 => (intro w9q hSwq; clear hSwq; go_simp; with_reducible rfl)
                      try simp only [Act.put, List.setIfInBounds_toArray, List.set_cons_zero, List.set_cons_succ]
                      refine rest_got (i := 15) (v := ?v33) rfl (by kernel_rfl) (by kernel_rfl) (by kernel_rfl) (fun _ _ _ h => h) (by rfl) ?y33 ?r33
                      case y33 => (intro w9q hSwq; clear hSwq; go_simp; with_reducible rfl)
                      try simp only [Act.put, List.setIfInBounds_toArray, List.set_cons_zero, List.set_cons_succ]
                      refine rest_done (by kernel_rfl) ?_ _
                      go_wp2
                      go_roundw
                      case rel => exact ⟨k + 1, sa, sc, S, ga, gc, G, L, F, by omega, by go_num, rfl, rfl, HK5.out, HC.out, by omega, by omega⟩
                      case measure => simp [intOf]; omega
                    · have hr0 : (d : Int) % 4 = 1 := by omega
                      clear hr
                      go_wp2_with fail
                      refine (drop_outw g F L kk _ HK2.out.1 HOut.out).mono ?_
                      rintro e w3 ⟨rfl, m3⟩
                      have HK5 := Lib.hid (HK2.out.mod0 m3)
                      clear m3 HK2 p0 p1
                      go_wp2
                      go_roundw
                      case rel => exact ⟨k + 1, sa, sc, S, ga, gc, G, L, F, by omega, by go_num, rfl, rfl, HK5.out, HC.out, by omega, by omega⟩
                      case measure => simp [intOf]; omega
                    · have hr0 : (d : Int) % 4 = 2 := by omega
                      clear hr
                      go_wp2_with fail
                      refine (double_outw g F L kk _ HK2.out.1 HOut.out).mono ?_
                      rintro e w3 ⟨rfl, m3⟩
                      have HK5 := Lib.hid (HK2.out.mod0 m3)
                      clear m3 HK2 p0 p1
                      go_wp2
                      go_roundw
                      case rel => exact ⟨k + 1, sa, sc, S, ga, gc, G, L, F, by omega, by go_num, rfl, rfl, HK5.out, HC.out, by omega, by omega⟩
                      case measure => simp [intOf]; omega
                    · have hr0 : (d : Int) % 4 = 3 := by omega
                      clear hr
                      go_wp2_with fail
                      refine (hold_outw g F L kk _ HK2.out.1 HOut.out).mono ?_
                      rintro e w3 ⟨rfl, m3⟩
                      have HK5 := Lib.hid (HK2.out.mod0 m3)
                      clear m3 HK2 p0 p1
                      go_wp2
                      go_roundw
                      case rel => exact ⟨k + 1, sa, sc, S, ga, gc, G, L, F, by omega, by go_num, rfl, rfl, HK5.out, HC.out, by omega, by omega⟩
                      case measure => simp [intOf]; omega
            · as_aux_lemma =>
                have hke : k = acts.length := by omega
                subst hke
                have hG100 : G.length ≤ 100 := by omega
                have hS160 : S.length ≤ 160 := by omega
                clear hgl hsl hk hlt
                go_wp2_with fail
                refine (letters_w g F L _ HK.out.1 (by omega) (fun x hx => Nat.le_trans (HZ.out x hx) (by omega))).mono ?_
                rintro e w2 ⟨a2, c2, l2, rfl, hl2, lt2, fr2, m2⟩
                obtain ⟨T1, T2⟩ := HK.out.told lt2 m2 fr2
                have HK2 := Lib.hid (HK.out.mod0 m2)
                have HT2 := Lib.hid T2
                have hll2 : Hid (l2.length = L.length) := by show _ = _; rw [← hl2]; simp
                have SH := Lib.hid (Own.shows lt2.1)
                have OG := Lib.hid HK2.out.2.2.1
                have PM : Hid ((S.map stripL).Perm ((G ++ l2).map stripL)) := by
                  have h1 := HC.out
                  unfold Acc at h1
                  rw [← hl2, ← List.map_append] at h1
                  exact h1
                have HLE : Hid (G.length + L.length = S.length) := by
                  have h1 := PM.out.length_eq
                  simp only [List.length_map, List.length_append] at h1
                  have h2 := hll2.out
                  show _ = _
                  omega
                clear T1 T2 lt2 fr2 m2 hl2 HK HC
                go_wp2_with (first | (at_builtin; refine wpl_appL (dst := some 169) _ _ ga G.length gc G rfl rfl OG.out a2 L.length c2 l2 rfl hll2.out SH.out (by omega) ?_) | fail)
                intro a3 c3 w3 o3 m3 s3
                have hbz : ∀ j, j ∈ blk ga → j ∈ busy F sa ga ∨ w2.heap.size ≤ j := fun j hj => .inl (mem_busy.2 (.inr (.inr hj)))
                have O3 := Lib.hid o3
                have OS : Hid (OwnL w3 sa sc S) := Own.mod HK2.out.2.1 m3 (fun j hj hm => (HK2.out.2.2.2.2.2.2.1 j hj).2 hm)
                have SS : Hid (∀ x, x ∈ S → Sees w3 x.2.2.1 x.2.2.2.2) := fun x hx => ((HK2.out.2.2.2.1 x hx).mod m3 hbz (fun j h => .inl h)).1
                have SG : Hid (∀ x, x ∈ G ++ l2 → Sees w3 x.2.2.1 x.2.2.2.2) := fun x hx => by
                  rcases List.mem_append.1 hx with h | h
                  · exact ((HK2.out.2.2.2.2.1 x h).mod m3 hbz (fun j h => .inl h)).1
                  · exact ((HT2.out x h).mod m3 hbz (fun j h => .inl h)).1
                have M3 : Hid (Mod [] w w3) := HK2.out.2.2.2.2.2.2.2.2.2.2.only2 m3 (fun j hj => HK2.out.2.2.2.2.2.2.2.1 j hj)
                obtain ⟨LE, hLE⟩ : ∃ LE, G ++ l2 = LE := ⟨_, rfl⟩
                rw [hLE] at O3 SG PM
                have HEL : Hid (LE.length = S.length) := by
                  have h1 := PM.out.length_eq
                  simp only [List.length_map] at h1
                  exact h1.symm
                have hle2 := HLE.out
                rw [hle2]
                clear o3 m3 s3 hbz HK2 HT2 hll2 SH OG HLE hle2 hLE
                go_wp2_with fail
                go_loopw [16] (fun i wr => ∃ k : Nat, k ≤ S.length ∧ i = .int .i64 (k : Int) ∧ Mod [] w3 wr) (fun i _ => S.length - (intOf i).toNat)
                case atStart => exact ⟨0, Nat.zero_le _, rfl, Mod.refl _ _⟩
                case round =>
                  obtain ⟨k, hk, rfl, hm⟩ := hrel
                  have MM := Lib.hid hm
                  clear hm
                  by_cases hlt : k < S.length
                  · obtain ⟨x, hx⟩ : ∃ x, S[k] = x := ⟨_, rfl⟩
                    obtain ⟨b1, hb1, e0, e1, e2⟩ := OwnL.at' OS.out hlt
                    rw [hx] at e0 e1 e2
                    have SX : Hid (Sees w3 x.2.2.1 x.2.2.2.2) := SS.out x (by rw [← hx]; exact List.getElem_mem hlt)
                    obtain ⟨xf, xt, xa, xc, xb⟩ := x
                    dsimp only at e0 e1 e2
                    have E0 := Lib.hid e0
                    have E1 := Lib.hid e1
                    have E2 := Lib.hid e2
                    have hki : (k : Int) < (S.length : Int) := by omega
                    have hlc1 := Own.le OS.out
                    have hcm1 := Own.cap_le OS.out
                    have hlc2 := Own.le O3.out
                    rw [HEL.out] at hlc2
                    have hcm2 := Own.cap_le O3.out
                    unfold maxLen at hcm1 hcm2
                    subst hb1
                    clear hx e0 e1 e2
                    go_wp2_with fail
                    go_loopw [17, 18, 19] (fun ca cb i wq => ∃ q : Nat, q ≤ S.length ∧ i = .int .i64 (q : Int) ∧ ca = .int .i64 (cnt (xf, xt, xb) ((S.map stripL).take q) : Int) ∧ cb = .int .i64 (cnt (xf, xt, xb) ((LE.map stripL).take q) : Int) ∧ Mod [] w3 wq) (fun _ _ i _ => S.length - (intOf i).toNat)
                    case atStart => exact ⟨0, Nat.zero_le _, rfl, rfl, rfl, MM.out⟩
                    case round =>
                      obtain ⟨q, hq, rfl, rfl, rfl, hm⟩ := hrel
                      have MQ := Lib.hid hm
                      clear hm MM
                      by_cases hqlt : q < S.length
                      · have hq2 : q < LE.length := by rw [HEL.out]; exact hqlt
                        obtain ⟨b1', hb1', d0, d1, d2⟩ := OwnL.at' OS.out hqlt
                        cases hb1'
                        obtain ⟨b3, hb3, f0, f1, f2⟩ := OwnL.at' O3.out hq2
                        subst hb3
                        have SY : Hid (Sees w3 S[q].2.2.1 S[q].2.2.2.2) := SS.out _ (List.getElem_mem hqlt)
                        have SZ : Hid (Sees w3 LE[q].2.2.1 LE[q].2.2.2.2) := SG.out _ (List.getElem_mem hq2)
                        have hs1 := cnt_step (xf, xt, xb) (S.map stripL) q (by simpa using hqlt)
                        have hs2 := cnt_step (xf, xt, xb) (LE.map stripL) q (by simpa using hq2)
                        rw [List.getElem_map] at hs1 hs2
                        obtain ⟨y, hy⟩ : ∃ y, S[q] = y := ⟨_, rfl⟩
                        obtain ⟨z, hz⟩ : ∃ z, LE[q] = z := ⟨_, rfl⟩
                        rw [hy] at d0 d1 d2 SY hs1
                        rw [hz] at f0 f1 f2 SZ hs2
                        obtain ⟨yf, yt, ya, yc, yb⟩ := y
                        obtain ⟨zf, zt, za, zc, zb⟩ := z
                        dsimp only at d0 d1 d2 f0 f1 f2
                        have D0 := Lib.hid d0
                        have D1 := Lib.hid d1
                        have D2 := Lib.hid d2
                        have F0 := Lib.hid f0
                        have F1 := Lib.hid f1
                        have F2 := Lib.hid f2
                        have HS1 := Lib.hid hs1
                        have HS2 := Lib.hid hs2
                        have hqi : (q : Int) < (S.length : Int) := by omega
                        have hca : cnt (xf, xt, xb) ((S.map stripL).take q) ≤ q := Nat.le_trans List.countP_le_length (List.length_take_le _ _)
                        have hcb : cnt (xf, xt, xb) ((LE.map stripL).take q) ≤ q := Nat.le_trans List.countP_le_length (List.length_take_le _ _)
                        obtain ⟨ca, hcae⟩ : ∃ ca, cnt (xf, xt, xb) ((S.map stripL).take q) = ca := ⟨_, rfl⟩
                        obtain ⟨cb, hcbe⟩ : ∃ cb, cnt (xf, xt, xb) ((LE.map stripL).take q) = cb := ⟨_, rfl⟩
                        rw [hcae] at hca HS1 ⊢
                        rw [hcbe] at hcb HS2 ⊢
                        have hx9 : ((q : Int) + 1) = (((q + 1 : Nat)) : Int) := by omega
                        clear hy hz d0 d1 d2 f0 f1 f2 hs1 hs2 hcae hcbe hx9
                        go_upto_region 48 with (fail)
                        refine rest_start [] 9 #[false, false, false, false, false, false, false, false, false] rfl (by kernel_rfl) (by kernel_rfl) ?_
                        intro w7 m7
                        have M7 := Lib.hid (MQ.out.trans' m7)
                        have e0 := M7.out.cell E0.out (by simp)
                        have e1 := M7.out.cell E1.out (by simp)
                        have e2 := M7.out.cell E2.out (by simp)
                        have d0 := M7.out.cell D0.out (by simp)
                        have d1 := M7.out.cell D1.out (by simp)
                        have d2 := M7.out.cell D2.out (by simp)
                        clear m7 MQ
                        refine rest_got (i := 0) (v := ?v34) rfl (by kernel_rfl) (by kernel_rfl) (by kernel_rfl) (fun _ _ _ h => h) (by rfl) ?y34 ?r34
                        case y34 => (intro w9q hSwq; clear hSwq; go_simp; with_reducible rfl)
                        try simp only [Act.put, List.setIfInBounds_toArray, List.set_cons_zero, List.set_cons_succ]
                        refine rest_got (i := 1) (v := ?v35) rfl (by kernel_rfl) (by kernel_rfl) (by kernel_rfl) (fun _ _ _ h => h) (by rfl) ?y35 ?r35
                        case y35 => (intro w9q hSwq; clear hSwq; go_simp; with_reducible rfl)
                        try simp only [Act.put, List.setIfInBounds_toArray, List.set_cons_zero, List.set_cons_succ]
                        refine rest_got (i := 2) (v := ?v36) rfl (by kernel_rfl) (by kernel_rfl) (by kernel_rfl) (fun _ _ _ h => h) (by rfl) ?y36 ?r36
                        case y36 => (intro w9q hSwq; clear hSwq; go_simp; with_reducible rfl)
                        try simp only [Act.put, List.setIfInBounds_toArray, List.set_cons_zero, List.set_cons_succ]
                        refine rest_got (i := 3) (v := ?v37) rfl (by kernel_rfl) (by kernel_rfl) (by kernel_rfl) (fun _ _ _ h => h) (by rfl) ?y37 ?r37
                        case y37 => ((intro w9' hm9'; have hc9' := Mod.cell hm9' e0 (by first | exact List.not_mem_nil | (simp; done) | (simp; omega)); have hd9' := Mod.cell hm9' e1 (by first | exact List.not_mem_nil | (simp; done) | (simp; omega)); have he9' := Mod.cell hm9' e2 (by first | exact List.not_mem_nil | (simp; done) | (simp; omega)); clear hm9'; go_simp; with_reducible rfl))
                        try simp only [Act.put, List.setIfInBounds_toArray, List.set_cons_zero, List.set_cons_succ]
                        refine rest_got (i := 4) (v := ?v38) rfl (by kernel_rfl) (by kernel_rfl) (by kernel_rfl) (fun _ _ _ h => h) (by rfl) ?y38 ?r38
                        case y38 => (intro w9q hSwq; clear hSwq; go_simp; with_reducible rfl)
                        try simp only [Act.put, List.setIfInBounds_toArray, List.set_cons_zero, List.set_cons_succ]
                        refine rest_got (i := 5) (v := ?v39) rfl (by kernel_rfl) (by kernel_rfl) (by kernel_rfl) (fun _ _ _ h => h) (by rfl) ?y39 ?r39
                        case y39 => (intro w9q hSwq; clear hSwq; go_simp; with_reducible rfl)
                        try simp only [Act.put, List.setIfInBounds_toArray, List.set_cons_zero, List.set_cons_succ]
                        refine rest_got (i := 6) (v := ?v40) rfl (by kernel_rfl) (by kernel_rfl) (by kernel_rfl) (fun _ _ _ h => h) (by rfl) ?y40 ?r40
                        case y40 => (intro w9q hSwq; clear hSwq; go_simp; with_reducible rfl)
                        try simp only [Act.put, List.setIfInBounds_toArray, List.set_cons_zero, List.set_cons_succ]
                        refine rest_got (i := 7) (v := ?v41) rfl (by kernel_rfl) (by kernel_rfl) (by kernel_rfl) (fun _ _ _ h => h) (by rfl) ?y41 ?r41
                        case y41 => ((intro w9' hm9'; have hc9' := Mod.cell hm9' d0 (by first | exact List.not_mem_nil | (simp; done) | (simp; omega)); have hd9' := Mod.cell hm9' d1 (by first | exact List.not_mem_nil | (simp; done) | (simp; omega)); have he9' := Mod.cell hm9' d2 (by first | exact List.not_mem_nil | (simp; done) | (simp; omega)); clear hm9'; go_simp; with_reducible rfl))
                        try simp only [Act.put, List.setIfInBounds_toArray, List.set_cons_zero, List.set_cons_succ]
                        refine rest_one (i := 8) (by kernel_rfl) rfl (by rfl) ?_
                        go_wp2_with fail
                        refine (alike_any (xf, xt, xa, xc, xb) (yf, yt, ya, yc, yb) _ (SX.out.mod0 M7.out) (SY.out.mod0 M7.out)).mono ?_
                        rintro e w8 ⟨t, rfl, ht, m8⟩
                        have M8 := Lib.hid (M7.out.trans' m8)
                        have HT := Lib.hid ht
                        go_wp2_with fail
                        refine back_to (K1 := []) m8 (by simp) ?_
                        clear m8 ht M7 e0 e1 e2 d0 d1 d2
                        refine rest_done (by kernel_rfl) ?_ _
                        go_upto_if 195 with (fail)
                        go_cut [17] from 181 to 208 (fun s wx => s = .int .i64 (cnt (xf, xt, xb) ((S.map stripL).take (q + 1)) : Int) ∧ Mod [] w3 wx)
                        case first =>
                          cases t with
                          | true =>
                            have hc1 : cnt (xf, xt, xb) ((S.map stripL).take (q + 1)) = ca + 1 := by rw [HS1.out, if_pos (show (xf, xt, xb) = stripL (yf, yt, ya, yc, yb) from HT.out.1 rfl)]
                            have HC1 := Lib.hid hc1
                            clear hc1
                            go_wp2
                            go_meet
                            exact ⟨by rw [HC1.out]; go_num, M8.out⟩
                          | false =>
                            have hc1 : cnt (xf, xt, xb) ((S.map stripL).take (q + 1)) = ca := by rw [HS1.out, if_neg (fun h => by have := HT.out.2 h; cases this)]; rfl
                            have HC1 := Lib.hid hc1
                            clear hc1
                            go_wp2
                            go_meet
                            exact ⟨by rw [HC1.out], M8.out⟩
                        case rest =>
                          obtain ⟨rfl, hm9⟩ := hcut
                          have M9 := Lib.hid hm9
                          clear hm9 M8 HT t
                          obtain ⟨ca2, hca2⟩ : ∃ ca2, cnt (xf, xt, xb) ((S.map stripL).take (q + 1)) = ca2 := ⟨_, rfl⟩
                          rw [hca2]
                          have HCA2 := Lib.hid hca2
                          clear hca2
                          go_upto_region 50 with (fail)
                          refine rest_start [] 9 #[false, false, false, false, false, false, false, false, false] rfl (by kernel_rfl) (by kernel_rfl) ?_
                          intro w7 m7
                          have M7 := Lib.hid (M9.out.trans' m7)
                          have e0 := M7.out.cell E0.out (by simp)
                          have e1 := M7.out.cell E1.out (by simp)
                          have e2 := M7.out.cell E2.out (by simp)
                          have d0 := M7.out.cell F0.out (by simp)
                          have d1 := M7.out.cell F1.out (by simp)
                          have d2 := M7.out.cell F2.out (by simp)
                          clear m7 M9
                          refine rest_got (i := 0) (v := ?v42) rfl (by kernel_rfl) (by kernel_rfl) (by kernel_rfl) (fun _ _ _ h => h) (by rfl) ?y42 ?r42
                          case y42 => (intro w9q hSwq; clear hSwq; go_simp; with_reducible rfl)
                          try simp only [Act.put, List.setIfInBounds_toArray, List.set_cons_zero, List.set_cons_succ]
                          refine rest_got (i := 1) (v := ?v43) rfl (by kernel_rfl) (by kernel_rfl) (by kernel_rfl) (fun _ _ _ h => h) (by rfl) ?y43 ?r43
                          case y43 => (intro w9q hSwq; clear hSwq; go_simp; with_reducible rfl)
                          try simp only [Act.put, List.setIfInBounds_toArray, List.set_cons_zero, List.set_cons_succ]
                          refine rest_got (i := 2) (v := ?v44) rfl (by kernel_rfl) (by kernel_rfl) (by kernel_rfl) (fun _ _ _ h => h) (by rfl) ?y44 ?r44
                          case y44 => (intro w9q hSwq; clear hSwq; go_simp; with_reducible rfl)
                          try simp only [Act.put, List.setIfInBounds_toArray, List.set_cons_zero, List.set_cons_succ]
                          refine rest_got (i := 3) (v := ?v45) rfl (by kernel_rfl) (by kernel_rfl) (by kernel_rfl) (fun _ _ _ h => h) (by rfl) ?y45 ?r45
                          case y45 => ((intro w9' hm9'; have hc9' := Mod.cell hm9' e0 (by first | exact List.not_mem_nil | (simp; done) | (simp; omega)); have hd9' := Mod.cell hm9' e1 (by first | exact List.not_mem_nil | (simp; done) | (simp; omega)); have he9' := Mod.cell hm9' e2 (by first | exact List.not_mem_nil | (simp; done) | (simp; omega)); clear hm9'; go_simp; with_reducible rfl))
                          try simp only [Act.put, List.setIfInBounds_toArray, List.set_cons_zero, List.set_cons_succ]
                          refine rest_got (i := 4) (v := ?v46) rfl (by kernel_rfl) (by kernel_rfl) (by kernel_rfl) (fun _ _ _ h => h) (by rfl) ?y46 ?r46
                          case y46 => (intro w9q hSwq; clear hSwq; go_simp; with_reducible rfl)
                          try simp only [Act.put, List.setIfInBounds_toArray, List.set_cons_zero, List.set_cons_succ]
                          refine rest_got (i := 5) (v := ?v47) rfl (by kernel_rfl) (by kernel_rfl) (by kernel_rfl) (fun _ _ _ h => h) (by rfl) ?y47 ?r47
                          case y47 => (intro w9q hSwq; clear hSwq; go_simp; with_reducible rfl)
                          try simp only [Act.put, List.setIfInBounds_toArray, List.set_cons_zero, List.set_cons_succ]
                          refine rest_got (i := 6) (v := ?v48) rfl (by kernel_rfl) (by kernel_rfl) (by kernel_rfl) (fun _ _ _ h => h) (by rfl) ?y48 ?r48
                          case y48 => (intro w9q hSwq; clear hSwq; go_simp; with_reducible rfl)
                          try simp only [Act.put, List.setIfInBounds_toArray, List.set_cons_zero, List.set_cons_succ]
                          refine rest_got (i := 7) (v := ?v49) rfl (by kernel_rfl) (by kernel_rfl) (by kernel_rfl) (fun _ _ _ h => h) (by rfl) ?y49 ?r49
                          case y49 => ((intro w9' hm9'; have hc9' := Mod.cell hm9' d0 (by first | exact List.not_mem_nil | (simp; done) | (simp; omega)); have hd9' := Mod.cell hm9' d1 (by first | exact List.not_mem_nil | (simp; done) | (simp; omega)); have he9' := Mod.cell hm9' d2 (by first | exact List.not_mem_nil | (simp; done) | (simp; omega)); clear hm9'; go_simp; with_reducible rfl))
                          try simp only [Act.put, List.setIfInBounds_toArray, List.set_cons_zero, List.set_cons_succ]
                          refine rest_one (i := 8) (by kernel_rfl) rfl (by rfl) ?_
                          go_wp2_with fail
                          refine (alike_any (xf, xt, xa, xc, xb) (zf, zt, za, zc, zb) _ (SX.out.mod0 M7.out) (SZ.out.mod0 M7.out)).mono ?_
                          rintro e w8 ⟨t, rfl, ht, m8⟩
                          have M8 := Lib.hid (M7.out.trans' m8)
                          have HT := Lib.hid ht
                          go_wp2_with fail
                          refine back_to (K1 := []) m8 (by simp) ?_
                          clear m8 ht M7 e0 e1 e2 d0 d1 d2
                          refine rest_done (by kernel_rfl) ?_ _
                          go_upto_if 206 with (fail)
                          cases t with
                          | true =>
                            have hc1 : cnt (xf, xt, xb) ((LE.map stripL).take (q + 1)) = cb + 1 := by rw [HS2.out, if_pos (show (xf, xt, xb) = stripL (zf, zt, za, zc, zb) from HT.out.1 rfl)]
                            have HC1 := Lib.hid hc1
                            clear hc1
                            go_wp2
                            go_roundw
                            case rel => exact ⟨q + 1, by omega, by go_num, by rw [HCA2.out], by rw [HC1.out]; go_num, M8.out⟩
                            case measure => simp [intOf]; omega
                          | false =>
                            have hc1 : cnt (xf, xt, xb) ((LE.map stripL).take (q + 1)) = cb := by rw [HS2.out, if_neg (fun h => by have := HT.out.2 h; cases this)]; rfl
                            have HC1 := Lib.hid hc1
                            clear hc1
                            go_wp2
                            go_roundw
                            case rel => exact ⟨q + 1, by omega, by go_num, by rw [HCA2.out], by rw [HC1.out], M8.out⟩
                            case measure => simp [intOf]; omega
                      · have hqe : q = S.length := by omega
                        subst hqe
                        have ha : cnt (xf, xt, xb) ((S.map stripL).take S.length) = cnt (xf, xt, xb) (S.map stripL) := by rw [List.take_of_length_le (by simp)]
                        have hb : cnt (xf, xt, xb) ((LE.map stripL).take S.length) = cnt (xf, xt, xb) (S.map stripL) := by rw [List.take_of_length_le (by rw [List.length_map, HEL.out]; exact Nat.le_refl _)]; exact (cnt_perm PM.out).symm
                        rw [ha, hb]
                        clear ha hb
                        generalize cnt (xf, xt, xb) (S.map stripL) = cz
                        go_wp2
                        go_roundw
                        case rel => exact ⟨k + 1, by omega, by go_num, MQ.out⟩
                        case measure => simp [intOf]; omega
                  · go_wp2_with fail
                    refine (wakes18_any _).mono ?_
                    rintro e wz ⟨rfl, mz⟩
                    have MZ := Lib.hid ((M3.out.trans' MM.out).trans' mz)
                    clear mz
                    go_wp2
                    go_ret
                    exact ⟨rfl, MZ.out⟩
end Go.Proofs.Ytihhbphlhckakaa
