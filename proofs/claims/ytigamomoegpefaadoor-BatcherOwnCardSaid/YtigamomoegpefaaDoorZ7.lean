/- Texts put together (7 of 7): Bat7, Cmd13, Bat8, BatWakes. -/
import Derived.Test.YtigamomoegpefaaDoorZ6
import Derived.Deep.CutRange
import Derived.Deep.CutBlock
import Derived.Outline
import Derived.Test.YtigamomoegpefaaDoorZ5
/- The batcher's walks: so many, from the eldest on; Next, Flush. -/
namespace Go.Proofs.YtigamomoegpefaaDoor
open Go Go.RowKit Go.Lib

/-- Commands that were handed out: their row, and their keys' rows, are nobody's else. -/
structure OutC (w0 w : World) (F : List Nat) (ao : Option Addr) (cap : Nat) (out : List Cm) : Prop where
  own : OwnC w ao cap out
  each : ∀ c ∈ out, SeesT w c.2.1 c.1.keys ∧ Wf c.1 ∧ May c.1 ∧ ∀ k, k ∈ blk c.2.1 → w0.heap.size ≤ k ∧ k < w.heap.size ∧ k ∉ F
  row : ∀ k, k ∈ blk ao → w0.heap.size ≤ k ∧ k ∉ F ∧ ∀ c ∈ out, k ∉ blk c.2.1
  keys : ∀ c ∈ out, OwnM Value.string w 9 c.2.1 c.2.2 c.1.keys
theorem OutC.nil (w : World) (F : List Nat) : OutC w w F none 0 [] := ⟨Own.nil0 _ _ _, fun c hc => absurd hc (by simp), fun k hk => absurd hk (by simp [blk]), fun c hc => absurd hc (by simp)⟩
theorem OutC.keep {S : List Nat} {w0 w w' : World} {F F' : List Nat} {ao : Option Addr} {cap : Nat} {out : List Cm} (h : OutC w0 w F ao cap out) (m : Mod S w w') (hS : ∀ k, k ∈ S → k ∈ F ∨ w.heap.size ≤ k) (hF : ∀ k, k ∈ F' → k ∈ F ∨ w.heap.size ≤ k) : OutC w0 w' F' ao cap out := by
  refine ⟨Own.mod h.own m (fun k hk hs => ?_), fun c hc => ?_, fun k hk => ?_, fun c hc => OwnM.mod (h.keys c hc) m (fun k hk hs => ?_)⟩
  · have := Own.lt h.own k hk
    rcases hS k hs with h1 | h1
    · exact (h.row k hk).2.1 h1
    · omega
  · obtain ⟨h1, h2, h3, h4⟩ := h.each c hc
    refine ⟨h1.mod m (fun _ k hk hs => ?_), h2, h3, fun k hk => ?_⟩
    · obtain ⟨a, b, c⟩ := h4 k hk
      rcases hS k hs with h1 | h1
      · exact c h1
      · omega
    · obtain ⟨a, b, c⟩ := h4 k hk
      refine ⟨a, Nat.lt_of_lt_of_le b m.size, fun hf => ?_⟩
      rcases hF k hf with h1 | h1
      · exact c h1
      · omega
  · obtain ⟨a, b, c⟩ := h.row k hk
    have := Own.lt h.own k hk
    refine ⟨a, fun hf => ?_, c⟩
    rcases hF k hf with h1 | h1
    · exact b h1
    · omega
  · obtain ⟨a, b, d⟩ := (h.each c hc).2.2.2 k hk
    rcases hS k hs with h1 | h1
    · exact d h1
    · omega
theorem OutC.push {w0 w w' : World} {F : List Nat} {ao ao' : Option Addr} {cap cap' : Nat} {out : List Cm} {c : Cm} (h : OutC w0 w F ao cap out) (m : Mod (blk ao) w w') (n : SameOrNew w w' ao ao') (o : OwnC w' ao' cap' (out ++ [c]))
    (h0 : w0.heap.size ≤ w.heap.size) (hF : ∀ k, k ∈ F → k < w.heap.size) (hc : SeesT w c.2.1 c.1.keys ∧ Wf c.1 ∧ May c.1) (hb : ∀ k, k ∈ blk c.2.1 → w0.heap.size ≤ k ∧ k < w.heap.size ∧ k ∉ F ∧ k ∉ blk ao) (hko : OwnM Value.string w 9 c.2.1 c.2.2 c.1.keys) : OutC w0 w' F ao' cap' (out ++ [c]) := by
  refine ⟨o, fun d hd => ?_, fun k hk => ?_, fun d hd => ?_⟩
  · rcases List.mem_append.1 hd with hd | hd
    · obtain ⟨h1, h2, h3, h4⟩ := h.each d hd
      refine ⟨h1.mod m (fun _ k hk hs => (h.row k hs).2.2 d hd hk), h2, h3, fun k hk => ?_⟩
      obtain ⟨a, b, c⟩ := h4 k hk
      exact ⟨a, Nat.lt_of_lt_of_le b m.size, c⟩
    · simp only [List.mem_singleton] at hd
      subst hd
      refine ⟨hc.1.mod m (fun _ k hk hs => (hb k hk).2.2.2 hs), hc.2.1, hc.2.2, fun k hk => ?_⟩
      obtain ⟨a, b, c, _⟩ := hb k hk
      exact ⟨a, Nat.lt_of_lt_of_le b m.size, c⟩
  · rcases n.blk k hk with h1 | h1
    · obtain ⟨a, b, c'⟩ := h.row k h1
      refine ⟨a, b, fun d hd => ?_⟩
      rcases List.mem_append.1 hd with hd | hd
      · exact c' d hd
      · simp only [List.mem_singleton] at hd
        subst hd
        exact fun hx => (hb k hx).2.2.2 h1
    · refine ⟨by omega, fun hf => by have := hF k hf; omega, fun d hd hx => ?_⟩
      rcases List.mem_append.1 hd with hd | hd
      · have := ((h.each d hd).2.2.2 k hx).2.1; omega
      · simp only [List.mem_singleton] at hd
        subst hd
        have := (hb k hx).2.1; omega
  · rcases List.mem_append.1 hd with hd | hd
    · exact OwnM.mod (h.keys d hd) m (fun k hk hs => (h.row k hs).2.2 d hd hk)
    · simp only [List.mem_singleton] at hd
      subst hd
      exact OwnM.mod hko m (fun k hk hs => (hb k hk).2.2.2 hs)
theorem OutC.sees {w0 w : World} {F : List Nat} {ao : Option Addr} {cap : Nat} {out : List Cm} (h : OutC w0 w F ao cap out) : SeesC w ao out := OwnC.sees h.own (fun c hc => (h.each c hc).1) (fun c hc => (h.each c hc).2.1)

/-- What is told of commands that are taken. -/
def ElW (w : World) (b : Nat) (F : List Nat) (ba ag now ord : Int) (R : List (Cd × Int)) (n : Nat) (e : Ending) (w' : World) : Prop :=
  ∃ ao cap out F', e = .returned (.slice ao out.length cap) ∧ out.map Prod.fst = (takeN n R).1 ∧ BatR w' b F' ba ag now ord (takeN n R).2 ∧ Mod F w w' ∧ (∀ k, k ∈ F' → k ∈ F ∨ w.heap.size ≤ k) ∧ OutC w w' F' ao cap out
structure ElR (w0 : World) (b : Nat) (F0 : List Nat) (ba ag now ord : Int) (R0 : List (Cd × Int)) (n j : Nat) (ao : Option Addr) (cap : Nat) (out : List Cm) (F : List Nat) (R : List (Cd × Int)) (wr : World) : Prop where
  bat : BatR wr b F ba ag now ord R
  mod : Mod F0 w0 wr
  new : ∀ k, k ∈ F → k ∈ F0 ∨ w0.heap.size ≤ k
  outs : OutC w0 wr F ao cap out
  len : out.length = j
  one : out.map Prod.fst ++ (takeN (n - j) R).1 = (takeN n R0).1
  two : (takeN (n - j) R).2 = (takeN n R0).2
  left : R.length + j = R0.length

set_option maxRecDepth 100000 in
set_option maxHeartbeats 4000000 in
theorem eldest_any (b : Nat) (F : List Nat) (ba ag now ord : Int) (R : List (Cd × Int)) (n : Nat) (w : World) (h : BatR w b F ba ag now ord R) (hn : n ≤ 1000) :
    Calls Tryd.prog 24 #[.pointer (some ⟨b, 0, none⟩), .int .i64 (n : Int)] w (ElW w b F ba ag now ord R n) := by
  have HLN := Lib.hid (blen_any b F ba ag now ord R w h)
  have H0 : Hid (ElR w b F ba ag now ord R n 0 none 0 [] F R w) := Lib.hid ⟨h, Mod.refl _ _, fun k hk => .inl hk, OutC.nil w F, rfl, rfl, rfl, rfl⟩
  have h64 := h.len
  have HFL := Lib.hid h.lt
  clear h
  obtain ⟨m, hm⟩ : ∃ m, min n R.length = m := ⟨_, rfl⟩
  have hmn : m ≤ n := by omega
  have hmr : m ≤ R.length := by omega
  have HM := Lib.hid hm
  clear hm
  go_enter Tryd.func24, Tryd.ntmps24
  go_upto_region 2 with (fail)
  go_cut [12, 13] from 9 (fun s t wx => s = .int .i64 (m : Int) ∧ t = .int .i64 0 ∧ wx = w)
  case first =>
    go_wp2_with fail
    refine HLN.out.mono ?_
    rintro e w1 ⟨rfl, rfl⟩
    go_wp2_with fail
    all_goals
      go_meet
      exact ⟨by have := HM.out; congr 1; omega, rfl, rfl⟩
  case rest =>
  obtain ⟨rfl, rfl, rfl⟩ := hcut
  clear HLN
  go_wp2_with fail
  go_loopw [5, 13] (fun o i wr => ∃ (j : Nat) (ao : Option Addr) (cap : Nat) (out : List Cm) (F' : List Nat) (R' : List (Cd × Int)), i = .int .i64 (j : Int) ∧ o = .slice ao j cap ∧ j ≤ m ∧ ElR wc b F ba ag now ord R n j ao cap out F' R' wr) (fun _ i _ => m - (intOf i).toNat)
  case atStart => exact ⟨0, none, 0, [], F, R, rfl, rfl, by omega, H0.out⟩
  case round =>
    obtain ⟨j, ao, cap, out, F', R', rfl, rfl, hj, hel⟩ := hrel
    have E := Lib.hid hel
    clear hel H0
    by_cases hjm : j < m
    · obtain ⟨hs, P, fr, L, hF, hI, hL⟩ := E.out.bat
      have hRl : 0 < L.length := by have := E.out.left; rw [← refL_length, hL]; omega
      obtain ⟨c, i, hi, k1, k2, k3, k4, k5, k6⟩ := hI.eldest hRl
      obtain ⟨⟨du, od, ix, gn⟩, hx⟩ : ∃ x, aH hs 0 = x := ⟨_, rfl⟩
      rw [hx] at k1 k2 k3 k6
      dsimp only at k2 k3 k6
      obtain ⟨g, Fp, ra, rc, h1, h2, hFe, h4, h5⟩ := hF
      have hl := hI.len
      have hl64 : L.length ≤ 64 := by have := hI.count; omega
      have HPP := Lib.hid (heapPop_any b _ _ _ _ _ ra rc hs (du, od, ix, gn) wr h1 hI.heap (by omega) hx (by omega))
      have HI := Lib.hid hI
      have HP := Lib.hid h2
      have HFE := Lib.hid hFe
      have H45 := Lib.hid (And.intro h4 h5)
      have HX := Lib.hid (And.intro k1 (And.intro k4 k5))
      have HL := Lib.hid hL
      have K2 := Lib.hid k2
      have K3 : Hid (P[i]? = some (oneB c, gn, true)) := Lib.hid (by rw [List.getElem?_eq_getElem hi, k3])
      have K6 := Lib.hid k6
      have HIP := Lib.hid hi
      have H1 := Lib.hid h1
      subst k2
      have ta := fun w => assert_wait w du od (i : Int) gn
      clear hI hL hRl k1 k3 k4 k5 k6 hi hx h1 h2 hFe h4 h5 hl
      go_wp2_with fail
      refine HPP.out.mono ?_
      rintro e w1 ⟨rfl, hs1, r1, p1, q1, m1⟩
      have R1 := Lib.hid r1
      have PQ1 := Lib.hid (And.intro p1 q1)
      have MM1 := Lib.hid m1
      have hF'l : ∀ k, k ∈ F' → k < wr.heap.size := E.out.bat.lt
      have hpK : ∀ k, k ∈ Fp → k ∉ b :: blk ra := fun k hk h => by
        rcases List.mem_cons.1 h with h | h
        · subst h; exact H45.out.1 hk
        · exact H45.out.2 k h hk
      have HP1 := Lib.hid (HP.out.mod m1 hpK)
      have S1 : Hid (wr.heap.size ≤ w1.heap.size) := Lib.hid m1.size
      have OC1 : Hid (OutC wc w1 F' ao cap out) := Lib.hid (E.out.outs.keep m1 (fun k hk => .inl (by rw [HFE.out]; rcases List.mem_cons.1 hk with h | h <;> simp [h])) (fun k hk => .inl hk))
      have M1 : Hid (Mod F wc w1) := Lib.hid (E.out.mod.trans m1 (fun k hk hl => by
        have hk' : k ∈ F' := by rw [HFE.out]; rcases List.mem_cons.1 hk with h | h <;> simp [h]
        rcases E.out.new k hk' with h | h
        · exact h
        · omega))
      have HF'L := Lib.hid hF'l
      clear r1 p1 q1 m1 hpK HPP H1 HP hF'l
      dsimp only
      go_wp2_with fail
      have hz := heap_alloc_new w1 (.cells #[.int .i64 du, .int .i64 od, .int .i64 (i : Int), .int .u32 gn] 66)
      have m2 := Mod.alloc [] w1 (.cells #[.int .i64 du, .int .i64 od, .int .i64 (i : Int), .int .u32 gn] 66)
      obtain ⟨w2, hw2⟩ : ∃ x, w1.alloc (.cells #[.int .i64 du, .int .i64 od, .int .i64 (i : Int), .int .u32 gn] 66) = x := ⟨_, rfl⟩
      obtain ⟨z, hze⟩ : ∃ x, w1.heap.size = x := ⟨_, rfl⟩
      rw [hw2] at hz m2 ⊢
      rw [hze] at hz ⊢
      have HZE := Lib.hid hze
      have HZ2 := Lib.hid hz
      have MM2 := Lib.hid m2
      clear hz m2 hw2 hze ta
      refine rest_start [] 12 #[false, false, false, false, false, false, false, false, false, false, false, false] rfl (by kernel_rfl) (by kernel_rfl) ?_
      intro w3 m3
      have m13 := MM2.out.trans' m3
      have R3 := Lib.hid (R1.out.mod m13 List.not_mem_nil (fun _ _ => List.not_mem_nil))
      have HP3 := Lib.hid (HP1.out.mod0 m13)
      have HZ3 := Lib.hid (m3.get HZ2.out List.not_mem_nil)
      have OC3 : Hid (OutC wc w3 F' ao cap out) := Lib.hid (OC1.out.keep m13 (by simp) (fun k hk => .inl hk))
      have M3 : Hid (Mod F wc w3) := Lib.hid (M1.out.trans' m13.nil)
      have S3 : Hid (w1.heap.size ≤ w3.heap.size ∧ z < w3.heap.size) := Lib.hid ⟨m13.size, lt_of_block HZ3.out⟩
      clear m3 m13 R1 HP1 HZ2 OC1 M1 MM2
      have c4 := cell_of_block (i := 4) R3.out.blk
      have z2 := cell_of_block (i := 2) HZ3.out
      have z3 := cell_of_block (i := 3) HZ3.out
      obtain ⟨hi, k3⟩ := List.getElem?_eq_some_iff.1 K3.out
      have HBY := Lib.hid (bytes_w g Fp 1024 P fr i gn hi w3 HP3.out (by rw [k3]) (by rw [k3]))
      rw [k3] at HBY
      dsimp only at HBY
      clear hi k3
      refine rest_got (i := 0) (v := ?v1) rfl (by kernel_rfl) (by kernel_rfl) (by kernel_rfl) (fun _ _ _ h => h) (by rfl) ?y1 ?r1
      case y1 => (intro w9q hSwq; clear hSwq; go_simp; with_reducible rfl)
      try simp only [Act.put, List.setIfInBounds_toArray, List.set_cons_zero, List.set_cons_succ]
      refine rest_got (i := 1) (v := ?v2) rfl (by kernel_rfl) (by kernel_rfl) (by kernel_rfl) (fun _ _ _ h => h) (by rfl) ?y2 ?r2
      case y2 => (intro w9q hSwq; clear hSwq; go_simp; with_reducible rfl)
      try simp only [Act.put, List.setIfInBounds_toArray, List.set_cons_zero, List.set_cons_succ]
      refine rest_got (i := 2) (v := ?v3) rfl (by kernel_rfl) (by kernel_rfl) (by kernel_rfl) (fun _ _ _ h => h) (by rfl) ?y3 ?r3
      case y3 => (intro w9q hSwq; clear hSwq; go_simp; with_reducible rfl)
      try simp only [Act.put, List.setIfInBounds_toArray, List.set_cons_zero, List.set_cons_succ]
      refine rest_got (i := 3) (v := ?v4) rfl (by kernel_rfl) (by kernel_rfl) (by kernel_rfl) (fun _ _ _ h => h) (by rfl) ?y4 ?r4
      case y4 => ((intro w9' hm9'; have hc9' := Mod.cell hm9' c4 (by first | exact List.not_mem_nil | assumption | (simp; done) | (simp; omega)); clear hm9'; go_simp; with_reducible rfl))
      try simp only [Act.put, List.setIfInBounds_toArray, List.set_cons_zero, List.set_cons_succ]
      refine rest_got (i := 4) (v := ?v5) rfl (by kernel_rfl) (by kernel_rfl) (by kernel_rfl) (fun _ _ _ h => h) (by rfl) ?y5 ?r5
      case y5 => (intro w9q hSwq; clear hSwq; go_simp; with_reducible rfl)
      try simp only [Act.put, List.setIfInBounds_toArray, List.set_cons_zero, List.set_cons_succ]
      refine rest_got (i := 5) (v := ?v6) rfl (by kernel_rfl) (by kernel_rfl) (by kernel_rfl) (fun _ _ _ h => h) (by rfl) ?y6 ?r6
      case y6 => ((intro w9' hm9'; have hc9' := Mod.cell hm9' z2 (by first | exact List.not_mem_nil | assumption | (simp; done) | (simp; omega)); have hd9' := Mod.cell hm9' z3 (by first | exact List.not_mem_nil | assumption | (simp; done) | (simp; omega)); clear hm9'; go_simp; with_reducible rfl))
      try simp only [Act.put, List.setIfInBounds_toArray, List.set_cons_zero, List.set_cons_succ]
      refine rest_one (i := 6) (by kernel_rfl) rfl (by rfl) ?_
      go_wp2_with fail
      refine HBY.out.mono ?_
      rintro e w4 ⟨ya, yc, rfl, yo, yn, m4⟩
      obtain ⟨yl, hyl⟩ : ∃ x, (oneB c).length = x := ⟨_, rfl⟩
      rw [hyl]
      go_wp2_with fail
      refine back_to (K1 := []) m4 (by simp) ?_
      have R4 := Lib.hid (R3.out.mod m4 List.not_mem_nil (fun _ _ => List.not_mem_nil))
      have HP4 := Lib.hid (HP3.out.mod0 m4)
      have HZ4 := Lib.hid (m4.get HZ3.out List.not_mem_nil)
      have OC4 : Hid (OutC wc w4 F' ao cap out) := Lib.hid (OC3.out.keep m4 (by simp) (fun k hk => .inl hk))
      have M4 : Hid (Mod F wc w4) := Lib.hid (M3.out.trans' m4.nil)
      have S4 : Hid (w3.heap.size ≤ w4.heap.size) := Lib.hid m4.size
      have YO := Lib.hid yo
      have YN := Lib.hid yn
      have YL := Lib.hid hyl
      clear m4 R3 HP3 HZ3 OC3 M3 c4 z2 z3 yo yn hyl HBY
      refine rest_got (i := 7) (v := ?v7) rfl (by kernel_rfl) (by kernel_rfl) (by kernel_rfl) (fun _ _ _ h => h) (by rfl) ?y7 ?r7
      case y7 => (intro w9q hSwq; clear hSwq; go_simp; with_reducible rfl)
      try simp only [Act.put, List.setIfInBounds_toArray, List.set_cons_zero, List.set_cons_succ]
      refine rest_got (i := 8) (v := ?v8) rfl (by kernel_rfl) (by kernel_rfl) (by kernel_rfl) (fun _ _ _ h => h) (by rfl) ?y8 ?r8
      case y8 => (intro w9q hSwq; clear hSwq; go_simp; with_reducible rfl)
      try simp only [Act.put, List.setIfInBounds_toArray, List.set_cons_zero, List.set_cons_succ]
      refine rest_got (i := 9) (v := ?v9) rfl (by kernel_rfl) (by kernel_rfl) (by kernel_rfl) (fun _ _ _ h => h) (by rfl) ?y9 ?r9
      case y9 => (intro w9q hSwq; clear hSwq; go_simp; with_reducible rfl)
      try simp only [Act.put, List.setIfInBounds_toArray, List.set_cons_zero, List.set_cons_succ]
      refine rest_got (i := 10) (v := ?v10) rfl (by kernel_rfl) (by kernel_rfl) (by kernel_rfl) (fun _ _ _ h => h) (by rfl) ?y10 ?r10
      case y10 => (intro w9q hSwq; clear hSwq; go_simp; with_reducible rfl)
      try simp only [Act.put, List.setIfInBounds_toArray, List.set_cons_zero, List.set_cons_succ]
      refine rest_got (i := 11) (v := ?v11) rfl (by kernel_rfl) (by kernel_rfl) (by kernel_rfl) (fun _ _ _ h => h) (by rfl) ?y11 ?r11
      case y11 => (intro w9q hSwq; clear hSwq; go_simp; with_reducible rfl)
      try simp only [Act.put, List.setIfInBounds_toArray, List.set_cons_zero, List.set_cons_succ]
      refine rest_done (by kernel_rfl) ?_ _
      go_upto_region 6 with (fail)
      refine restu_start 6 [] Fp 7 #[false, false, false, false, false, false, false] rfl (by kernel_rfl) (by kernel_rfl) ?_
      intro w5 m5
      have R5 := Lib.hid (R4.out.mod m5 List.not_mem_nil (fun _ _ => List.not_mem_nil))
      have HP5 := Lib.hid (HP4.out.mod0 m5)
      have HZ5 := Lib.hid (m5.get HZ4.out List.not_mem_nil)
      have OC5 : Hid (OutC wc w5 F' ao cap out) := Lib.hid (OC4.out.keep m5 (by simp) (fun k hk => .inl hk))
      have M5 : Hid (Mod F wc w5) := Lib.hid (M4.out.trans' m5.nil)
      have S5 : Hid (w4.heap.size ≤ w5.heap.size) := Lib.hid m5.size
      have YO5 := Lib.hid (OwnB.mod0 YO.out m5)
      have YO4 := Lib.hid (Own.lt YO.out)
      have c4 := cell_of_block (i := 4) R5.out.blk
      have z2 := cell_of_block (i := 2) HZ5.out
      have z3 := cell_of_block (i := 3) HZ5.out
      obtain ⟨hi, k3⟩ := List.getElem?_eq_some_iff.1 K3.out
      have HBK := Lib.hid (back_w g Fp 1024 P fr i gn hi w5 HP5.out (by rw [k3]) (by rw [k3]) (by have := HI.out.count; omega))
      rw [k3] at HBK
      dsimp only at HBK
      clear m5 R4 HP4 HZ4 OC4 M4 YO hi k3
      refine restu_got (i := 0) (v := ?v12) rfl (by kernel_rfl) (by kernel_rfl) (by kernel_rfl) (by rfl) (fun _ _ _ h => h) (by rfl) ?y12 ?r12
      case y12 => (intro w9q hSwq; clear hSwq; go_simp; with_reducible rfl)
      try simp only [Act.put, List.setIfInBounds_toArray, List.set_cons_zero, List.set_cons_succ]
      refine restu_got (i := 1) (v := ?v13) rfl (by kernel_rfl) (by kernel_rfl) (by kernel_rfl) (by rfl) (fun _ _ _ h => h) (by rfl) ?y13 ?r13
      case y13 => (intro w9q hSwq; clear hSwq; go_simp; with_reducible rfl)
      try simp only [Act.put, List.setIfInBounds_toArray, List.set_cons_zero, List.set_cons_succ]
      refine restu_got (i := 2) (v := ?v14) rfl (by kernel_rfl) (by kernel_rfl) (by kernel_rfl) (by rfl) (fun _ _ _ h => h) (by rfl) ?y14 ?r14
      case y14 => (intro w9q hSwq; clear hSwq; go_simp; with_reducible rfl)
      try simp only [Act.put, List.setIfInBounds_toArray, List.set_cons_zero, List.set_cons_succ]
      refine restu_early (i := 3) [6] (v := ?v15) rfl (by kernel_rfl) (by kernel_rfl) (by kernel_rfl) (by rfl) (by kernel_rfl) (by rfl) (by kernel_rfl) (fun _ _ _ h => h) (by rfl) ?y15 ?r15
      case y15 => ((intro w9' hm9'; have hc9' := Mod.cell hm9' c4 (by first | exact List.not_mem_nil | assumption | (simp; done) | (simp; omega)); clear hm9'; go_simp; with_reducible rfl))
      try simp only [Act.put, List.setIfInBounds_toArray, List.set_cons_zero, List.set_cons_succ]
      refine restu_got (i := 4) (v := ?v16) rfl (by kernel_rfl) (by kernel_rfl) (by kernel_rfl) (by rfl) (fun _ _ _ h => h) (by rfl) ?y16 ?r16
      case y16 => (intro w9q hSwq; clear hSwq; go_simp; with_reducible rfl)
      try simp only [Act.put, List.setIfInBounds_toArray, List.set_cons_zero, List.set_cons_succ]
      refine restu_early (i := 5) [6] (v := ?v17) rfl (by kernel_rfl) (by kernel_rfl) (by kernel_rfl) (by rfl) (by kernel_rfl) (by rfl) (by kernel_rfl) (fun _ _ _ h => h) (by rfl) ?y17 ?r17
      case y17 => ((intro w9' hm9'; have hc9' := Mod.cell hm9' z2 (by first | exact List.not_mem_nil | assumption | (simp; done) | (simp; omega)); have hd9' := Mod.cell hm9' z3 (by first | exact List.not_mem_nil | assumption | (simp; done) | (simp; omega)); clear hm9'; go_simp; with_reducible rfl))
      try simp only [Act.put, List.setIfInBounds_toArray, List.set_cons_zero, List.set_cons_succ]
      refine restu_one (i := 6) (by kernel_rfl) rfl (by rfl) ?_
      go_wp2_with fail
      refine HBK.out.mono ?_
      rintro e w6 ⟨rfl, Fp6, p6, m6, n6⟩
      go_wp2_with fail
      refine backm_to (K1 := []) (by kernel_rfl) m6 (by simp) ?_
      have hyF : ∀ k, k ∈ blk ya → k ∉ Fp := fun k hk h => by
        have h1 := YN.out k hk
        have h2 := HP5.out.lt k h
        have h3 := HF'L.out k (by rw [HFE.out]; simp [h])
        have := S1.out; have := S3.out
        omega
      have R6 := Lib.hid (R5.out.mod m6 H45.out.1 H45.out.2)
      have HP6 := Lib.hid p6
      have N6 := Lib.hid n6
      have YO6 := Lib.hid (OwnB.mod YO5.out m6 hyF)
      have S6 : Hid (w5.heap.size ≤ w6.heap.size) := Lib.hid m6.size
      have HF6 : Hid (∀ k, k ∈ b :: (blk ra ++ Fp6) → k ∈ F' ∨ w5.heap.size ≤ k) := Lib.hid (fun k hk => by
        simp only [List.mem_cons, List.mem_append] at hk
        rcases hk with rfl | hk | hk
        · left; rw [HFE.out]; simp
        · left; rw [HFE.out]; simp [hk]
        · rcases n6 k hk with h | h
          · left; rw [HFE.out]; simp [h]
          · exact .inr h)
      have OC6 : Hid (OutC wc w6 (b :: (blk ra ++ Fp6)) ao cap out) := Lib.hid (OC5.out.keep m6 (fun k hk => .inl (by rw [HFE.out]; simp [hk])) HF6.out)
      have M6 : Hid (Mod F wc w6) := Lib.hid (M5.out.trans m6 (fun k hk hl => by
        have hk' : k ∈ F' := by rw [HFE.out]; simp [hk]
        rcases E.out.new k hk' with h | h
        · exact h
        · omega))
      clear p6 m6 n6 R5 HP5 OC5 M5 YO5 c4 z2 z3 HBK hyF HZ5
      refine rest_done (by kernel_rfl) ?_ _
      have HNR := Lib.hid (newReader_any ya yl yc (oneB c) 1024 w6 YL.out (by rw [← YL.out]; exact Own.le YO6.out) (by have := Own.cap_le YO6.out; unfold maxLen at this; omega) YO6.out.sees)
      go_wp2_with fail
      refine HNR.out.mono ?_
      rintro e w7 ⟨rg, rfl, r7, m7, n7⟩
      have hbs7 : ∀ k, k ∈ blkOf ya (oneB c) → k < w7.heap.size := fun k hk => by
        have h1 := (mem_blkOf hk).2
        have h2 := YO4.out k h1
        have := S5.out; have := S6.out; have := m7.size
        omega
      have hrt := takeR_write c HX.out.2.1 HX.out.2.2 []
      rw [List.append_nil] at hrt
      have HTK := Lib.hid (takeV_any rg _ 0 (oneB c) w7 r7 hbs7)
      rw [hrt] at HTK
      have F6 := Lib.hid (show b :: (blk ra ++ Fp6) = b :: (blk ra ++ Fp6) from rfl)
      have B6 : Hid (BatR w6 b (b :: (blk ra ++ Fp6)) ba ag now ord (refL (L.eraseIdx (eldI (refL L))))) := Lib.hid ⟨hs1, _, fr ++ [i], L.eraseIdx (eldI (refL L)), ⟨g, Fp6, ra, rc, R6.out, HP6.out, rfl, fun h => by
          rcases N6.out b h with h | h
          · exact H45.out.1 h
          · have h1 := lt_of_block R6.out.blk
            have h2 := HF'L.out b (by rw [HFE.out]; simp)
            have := S1.out; have := S3.out; have := S4.out; have := S5.out
            omega, fun k hk h => by
          rcases N6.out k h with h | h
          · exact H45.out.2 k hk h
          · have h2 := HF'L.out k (by rw [HFE.out]; simp [hk])
            have := S1.out; have := S3.out; have := S4.out; have := S5.out
            omega⟩, HI.out.take HX.out.1 rfl HIP.out PQ1.out.1 PQ1.out.2, rfl⟩
      obtain ⟨F6l, hF6⟩ : ∃ x, b :: (blk ra ++ Fp6) = x := ⟨_, rfl⟩
      rw [hF6] at B6 OC6
      have HF6 : Hid (∀ k, k ∈ F6l → k ∈ F' ∨ w5.heap.size ≤ k) := Lib.hid (by rw [← hF6]; exact HF6.out)
      have M7 : Hid (Mod F wc w7) := Lib.hid (M6.out.trans' m7.nil)
      have B7 := Lib.hid (B6.out.mod0 m7)
      have MM7 := Lib.hid m7
      have hrg : ∀ k, k ∈ F6l → k < w6.heap.size := B6.out.lt
      have S7 : Hid (w6.heap.size ≤ w7.heap.size ∧ w6.heap.size ≤ rg) := Lib.hid ⟨m7.size, n7⟩
      have HRG := Lib.hid hrg
      clear r7 m7 n7 HNR hbs7 hrt hF6 hrg M6 B6 R6 HP6 F6 YO6 N6
      go_wp2_with fail
      refine HTK.out.mono ?_
      rintro e w8 ⟨kao, kcap, rfl, r8, s8', m8, n8⟩
      dsimp only at s8'
      have s8 := seesT_of s8'
      have SO8 := Lib.hid s8'
      clear s8'
      unfold cmdV
      dsimp only at s8 ⊢
      have B8 := Lib.hid (B7.out.mod m8 (fun k hk h => by simp at h; subst h; have := HRG.out k hk; have := S7.out; omega))
      have OC8 : Hid (OutC wc w8 F6l ao cap out) := Lib.hid (OC6.out.keep (MM7.out.nil.trans' m8) (fun k hk => by
        simp at hk; subst hk
        exact .inr S7.out.2) (fun k hk => .inl hk))
      have M8 : Hid (Mod F wc w8) := Lib.hid (M7.out.trans m8 (fun k hk hl => by
        simp at hk; subst hk
        have h1 := E.out.mod.size
        have := S1.out; have := S3.out; have := S4.out; have := S5.out; have := S6.out; have := S7.out
        omega))
      have SK8 := Lib.hid s8
      have NK8 := Lib.hid n8
      have S8 : Hid (w7.heap.size ≤ w8.heap.size) := Lib.hid m8.size
      clear r8 s8 m8 n8 B7 OC6 MM7 M7 HTK
      have hb9 := heap_alloc_new w8 (.cells #[.int .u32 (c.client : Int), .int .u32 (c.seq : Int), .int .u8 (c.kind : Int), .slice kao c.keys.length kcap, .string c.old, .string c.fresh, .int .i64 c.n] 36)
      have m9 := Mod.alloc [] w8 (.cells #[.int .u32 (c.client : Int), .int .u32 (c.seq : Int), .int .u8 (c.kind : Int), .slice kao c.keys.length kcap, .string c.old, .string c.fresh, .int .i64 c.n] 36)
      have HSH := Lib.hid (showsC (x := (c, kao, kcap)) hb9)
      have B9 := Lib.hid (B8.out.mod0 m9)
      have OC9 := Lib.hid (OC8.out.keep m9 (by simp) (fun k hk => .inl hk))
      have M9 := Lib.hid (M8.out.trans' m9.nil)
      have SK9 := Lib.hid (SK8.out.mod0 m9)
      have SO9 := Lib.hid (OwnM.mod0 SO8.out m9)
      have S9 : Hid _ := Lib.hid m9.size
      have hol := E.out.len
      have hol6 : j + 1 ≤ 1000000 := by omega
      clear hb9 m9 B8 OC8 M8 SK8
      go_wp2_with (first | (at_builtin; refine wpl_appC (dst := some 43) _ _ ao j cap out rfl hol OC9.out.own _ (c, kao, kcap) rfl HSH.out hol6 ?_) | fail)
      intro a10 c10 w10 o10 m10 n10
      have OC10 : Hid (OutC wc w10 F6l a10 c10 (out ++ [(c, kao, kcap)])) := Lib.hid (OC9.out.push m10 n10 o10 (by
        have h1 := E.out.mod.size
        have := S1.out; have := S3.out; have := S4.out; have := S5.out; have := S6.out; have := S7.out; have := S8.out; have := S9.out
        omega) B9.out.lt ⟨SK9.out, HX.out.2.2, HX.out.2.1⟩ (fun k hk => by
        have h1 := E.out.mod.size
        have h2 := NK8.out k hk
        have h3 : k < _ := SK9.out.lt (by have h := HX.out.2.1; intro h0; have h5 : least c.kind ≤ c.keys.length := h.2.2.2.1; rw [show c.keys = [] from h0] at h5; have : 1 ≤ least c.kind := by unfold least; split <;> omega
                                          simp at h5; omega) k hk
        have := S1.out; have := S3.out; have := S4.out; have := S5.out; have := S6.out; have := S7.out; have := S8.out; have := S9.out
        refine ⟨by omega, h3, fun hf => ?_, fun hf => ?_⟩
        · have := HRG.out k hf; omega
        · have := Own.lt E.out.outs.own k hf; omega) SO9.out)
      have B10 := Lib.hid (B9.out.mod m10 (fun k hk h => (OC9.out.row k h).2.1 hk))
      have M10 : Hid (Mod F wc w10) := Lib.hid (M9.out.trans m10 (fun k hk hl => by
        have := (OC9.out.row k hk).1; omega))
      clear o10 m10 n10 OC9 B9 M9 SK9 HSH
      have NEW : Hid (∀ k, k ∈ F6l → k ∈ F ∨ wc.heap.size ≤ k) := Lib.hid (fun k hk => by
        rcases HF6.out k hk with h | h
        · exact E.out.new k h
        · have h1 := E.out.mod.size
          have := S1.out; have := S3.out; have := S4.out; have := S5.out
          right; omega)
      have HTN : Hid (takeN (n - j) R' = (c :: (takeN (n - (j + 1)) (refL (L.eraseIdx (eldI (refL L))))).1, (takeN (n - (j + 1)) (refL (L.eraseIdx (eldI (refL L))))).2)) := Lib.hid (by
        rw [show n - j = (n - (j + 1)) + 1 by omega, ← HL.out, takeN_succ _ _ _ K6.out, refL_erase])
      have HLE : Hid ((refL (L.eraseIdx (eldI (refL L)))).length + (j + 1) = R.length) := Lib.hid (by
        have h1 := E.out.left
        rw [← HL.out, refL_length] at h1
        have h2 := (List.getElem?_eq_some_iff.1 HX.out.1).1
        rw [refL_length, List.length_eraseIdx, if_pos h2]
        omega)
      go_wp2_with fail
      go_roundw
      case rel =>
        refine ⟨j + 1, a10, c10, out ++ [(c, kao, kcap)], F6l, _, by go_num, rfl, by omega, B10.out, M10.out, NEW.out, OC10.out, by rw [List.length_append, hol]; rfl, ?_, ?_, HLE.out⟩
        · have h1 := E.out.one
          rw [HTN.out] at h1
          rw [List.map_append, List.append_assoc]
          exact h1
        · have h1 := E.out.two
          rw [HTN.out] at h1
          exact h1
      case measure => simp [intOf]; omega
    · have hje : j = m := by omega
      subst hje
      go_wp2_with fail
      go_ret
      have hm := HM.out
      have h1 := E.out.one
      have h2 := E.out.two
      have h3 : (takeN (n - j) R').1 = [] ∧ (takeN (n - j) R').2 = R' := by
        by_cases h : n - j = 0
        · rw [h]; exact ⟨rfl, rfl⟩
        · have : R' = [] := List.eq_nil_of_length_eq_zero (by have := E.out.left; omega)
          rw [this, takeN_nil]
          exact ⟨rfl, rfl⟩
      rw [h3.1, List.append_nil] at h1
      rw [h3.2] at h2
      exact ⟨ao, cap, out, F', by rw [E.out.len]; rfl, h1, by rw [← h2]; exact E.out.bat, E.out.mod, E.out.new, E.out.outs⟩

set_option maxRecDepth 100000 in
theorem bflush_any (b : Nat) (F : List Nat) (ba ag now ord : Int) (R : List (Cd × Int)) (w : World) (h : BatR w b F ba ag now ord R) :
    Calls Tryd.prog 20 #[.pointer (some ⟨b, 0, none⟩)] w (ElW w b F ba ag now ord R 64) := by
  have H := Lib.hid (eldest_any b F ba ag now ord R 64 w h (by omega))
  clear h
  go_enter Tryd.func20, Tryd.ntmps20
  go_wp2_with fail
  refine H.out.mono ?_
  rintro e w1 ⟨ao, cap, out, F', rfl, h1⟩
  have H1 := Lib.hid h1
  clear h1 H
  go_wp2_with fail
  go_ret
  exact ⟨ao, cap, out, F', rfl, H1.out⟩

/-- What Next tells. -/
def NextW (w : World) (b : Nat) (F : List Nat) (ba ag now ord : Int) (R : List (Cd × Int)) (n : Nat) (e : Ending) (w' : World) : Prop :=
  ∃ ao cap out F', e = .returned (.tuple #[.slice ao out.length cap, .bool (readyB ba now R)]) ∧ out.map Prod.fst = (if readyB ba now R then (takeN n R).1 else []) ∧ BatR w' b F' ba ag now ord (if readyB ba now R then (takeN n R).2 else R) ∧ Mod F w w' ∧
    (∀ k, k ∈ F' → k ∈ F ∨ w.heap.size ≤ k) ∧ OutC w w' F' ao cap out
set_option maxRecDepth 100000 in
theorem bnext_any (b : Nat) (F : List Nat) (ag now ord : Int) (R : List (Cd × Int)) (n : Nat) (w : World) (h : BatR w b F (n : Int) ag now ord R) (hn : n ≤ 1000) :
    Calls Tryd.prog 12 #[.pointer (some ⟨b, 0, none⟩)] w (NextW w b F (n : Int) ag now ord R n) := by
  have HR := Lib.hid (bready_any b F (n : Int) ag now ord R w h)
  have H := Lib.hid h
  obtain ⟨t, ht⟩ : ∃ t, readyB (n : Int) now R = t := ⟨_, rfl⟩
  have HT := Lib.hid ht
  rw [ht] at HR
  clear h ht
  go_enter Tryd.func12, Tryd.ntmps12
  go_wp2_with fail
  refine HR.out.mono ?_
  rintro e w1 ⟨rfl, m1⟩
  have M1 := Lib.hid m1
  have H1 := Lib.hid (H.out.mod0 m1)
  clear m1 HR
  cases t with
  | false =>
    go_wp2_with fail
    go_ret2
    unfold NextW
    rw [HT.out]
    exact ⟨none, 0, [], F, rfl, rfl, H1.out, M1.out.nil, fun _ hk => .inl hk, ⟨Own.nil0 _ _ _, fun c hc => absurd hc (by simp), fun k hk => absurd hk (by simp [blk]), fun c hc => absurd hc (by simp)⟩⟩
  | true =>
    have HE := Lib.hid (eldest_any b F (n : Int) ag now ord R n w1 H1.out hn)
    obtain ⟨hs, P, fr, L, ⟨g, Fp, ra, rc, h1, -⟩, -, -⟩ := H1.out
    have c0 := cell_of_block (i := 0) h1.blk
    clear h1
    go_wp2_with fail
    refine HE.out.mono ?_
    rintro e w2 ⟨ao, cap, out, F', rfl, a1, a2, a3, a4, a5⟩
    have A := Lib.hid (And.intro a1 (And.intro a2 (And.intro a3 (And.intro a4 a5))))
    clear a1 a2 a3 a4 a5 HE c0
    go_wp2_with fail
    go_ret2
    unfold NextW
    rw [HT.out]
    obtain ⟨a1, a2, a3, a4, a5⟩ := A.out
    exact ⟨ao, cap, out, F', rfl, a1, a2, M1.out.nil.trans' a3, fun k hk => (a4 k hk).imp id (fun h => Nat.le_trans M1.out.size h), ⟨a5.own, fun c hc => by
      obtain ⟨x1, x2, x3, x4⟩ := a5.each c hc
      exact ⟨x1, x2, x3, fun k hk => ⟨Nat.le_trans M1.out.size (x4 k hk).1, (x4 k hk).2⟩⟩, fun k hk => ⟨Nat.le_trans M1.out.size (a5.row k hk).1, (a5.row k hk).2⟩, a5.keys⟩⟩
end Go.Proofs.YtigamomoegpefaaDoor
/- The walk that compares two rows of commands. -/
namespace Go.Proofs.YtigamomoegpefaaDoor
open Go Go.RowKit Go.Lib

instance : DecidableEq Cd := fun c d => decidable_of_iff (SameC c d) (same_iff c d)
set_option maxRecDepth 100000 in
set_option maxHeartbeats 4000000 in
theorem all_any (ao : Option Addr) (n1 c1 : Nat) (l1 : List Cm) (bo : Option Addr) (n2 c2 : Nat) (l2 : List Cm) (w : World) (e1 : l1.length = n1) (e2 : l2.length = n2) (b1 : n1 ≤ 9223372036854775807) (b2 : n2 ≤ 9223372036854775807)
    (h1 : SeesC w ao l1) (h2 : SeesC w bo l2) :
    Calls Tryd.prog 16 #[.slice ao n1 c1, .slice bo n2 c2] w fun e w' => e = .returned (.bool (decide (l1.map Prod.fst = l2.map Prod.fst))) ∧ Mod [] w w' := by
  subst e1
  have H1 := Lib.hid h1
  have H2 := Lib.hid h2
  have HL := Lib.hid e2
  clear h1 h2
  by_cases hne : l1.length = n2
  case neg =>
    have hno : ¬ l1.map Prod.fst = l2.map Prod.fst := fun h => hne (by have := congrArg List.length h; rw [List.length_map, List.length_map] at this; omega)
    rw [decide_eq_false hno]
    have D : ((l1.length : Int) != (n2 : Int)) = true := by simp; omega
    clear hno e2
    go_enter Tryd.func16, Tryd.ntmps16
    go_wp2
    go_ret
    exact ⟨rfl, Mod.refl _ _⟩
  clear e2
  subst hne
  obtain ⟨mb, hmb⟩ : ∃ b, decide (l1.map Prod.fst = l2.map Prod.fst) = b := ⟨_, rfl⟩
  rw [hmb]
  have HV := Lib.hid hmb
  clear hmb
  go_enter Tryd.func16, Tryd.ntmps16
  go_wp2
  go_loopw [5] (fun i wr => ∃ k : Nat, k ≤ l1.length ∧ i = .int .i64 (k : Int) ∧ (l1.take k).map Prod.fst = (l2.take k).map Prod.fst ∧ Mod [] w wr) (fun i _ => l1.length - (intOf i).toNat)
  case atStart => exact ⟨0, Nat.zero_le _, rfl, rfl, Mod.refl _ _⟩
  case round =>
    obtain ⟨k, hk, rfl, hall, hm⟩ := hrel
    have HA := Lib.hid hall
    have HM := Lib.hid hm
    clear hall hm
    by_cases hlt : k < l1.length
    · have hlt2 : k < l2.length := by rw [HL.out]; exact hlt
      have T1 := Lib.hid (take_snoc l1 k hlt)
      have T2 := Lib.hid (take_snoc l2 k hlt2)
      have G1 : Hid ((l1.map Prod.fst)[k]? = some l1[k].1) := Lib.hid (by rw [List.getElem?_map, List.getElem?_eq_getElem hlt]; rfl)
      have G2 : Hid ((l2.map Prod.fst)[k]? = some l2[k].1) := Lib.hid (by rw [List.getElem?_map, List.getElem?_eq_getElem hlt2]; rfl)
      obtain ⟨b, off, rfl, p0, p1, p2, p3, p4, p5, p6, pt, pf⟩ := (H1.out.mod0 HM.out) k hlt
      obtain ⟨b', off', rfl, q0, q1, q2, q3, q4, q5, q6, qt, qf⟩ := (H2.out.mod0 HM.out) k hlt2
      obtain ⟨⟨⟨client, seq, kind, keys, old, fresh, n⟩, kao, kcap⟩, hx⟩ : ∃ x, l1[k] = x := ⟨_, rfl⟩
      obtain ⟨⟨⟨client', seq', kind', keys', old', fresh', n'⟩, kao', kcap'⟩, hy⟩ : ∃ x, l2[k] = x := ⟨_, rfl⟩
      rw [hx] at p0 p1 p2 p3 p4 p5 p6 pt pf T1 G1
      rw [hy] at q0 q1 q2 q3 q4 q5 q6 qt qf T2 G2
      dsimp only at p0 p1 p2 p3 p4 p5 p6 pt pf q0 q1 q2 q3 q4 q5 q6 qt qf G1 G2
      clear hx hy hlt2
      have L1 : Hid (∀ w', Mod [] wr w' → w'.cell? ⟨b, off + k * 7, none⟩ = some (.int .u32 (client : Int)) ∧ w'.cell? ⟨b, off + k * 7 + 1, none⟩ = some (.int .u32 (seq : Int)) ∧ w'.cell? ⟨b, off + k * 7 + 2, none⟩ = some (.int .u8 (kind : Int)) ∧ w'.cell? ⟨b, off + k * 7 + 3, none⟩ = some (.slice kao keys.length kcap) ∧ w'.cell? ⟨b, off + k * 7 + 4, none⟩ = some (.string old) ∧ w'.cell? ⟨b, off + k * 7 + 5, none⟩ = some (.string fresh) ∧ w'.cell? ⟨b, off + k * 7 + 6, none⟩ = some (.int .i64 n)) :=
        Lib.hid (fun w' m => ⟨m.cell p0 List.not_mem_nil, m.cell p1 List.not_mem_nil, m.cell p2 List.not_mem_nil, m.cell p3 List.not_mem_nil, m.cell p4 List.not_mem_nil, m.cell p5 List.not_mem_nil, m.cell p6 List.not_mem_nil⟩)
      have L2 : Hid (∀ w', Mod [] wr w' → w'.cell? ⟨b', off' + k * 7, none⟩ = some (.int .u32 (client' : Int)) ∧ w'.cell? ⟨b', off' + k * 7 + 1, none⟩ = some (.int .u32 (seq' : Int)) ∧ w'.cell? ⟨b', off' + k * 7 + 2, none⟩ = some (.int .u8 (kind' : Int)) ∧ w'.cell? ⟨b', off' + k * 7 + 3, none⟩ = some (.slice kao' keys'.length kcap') ∧ w'.cell? ⟨b', off' + k * 7 + 4, none⟩ = some (.string old') ∧ w'.cell? ⟨b', off' + k * 7 + 5, none⟩ = some (.string fresh') ∧ w'.cell? ⟨b', off' + k * 7 + 6, none⟩ = some (.int .i64 n')) :=
        Lib.hid (fun w' m => ⟨m.cell q0 List.not_mem_nil, m.cell q1 List.not_mem_nil, m.cell q2 List.not_mem_nil, m.cell q3 List.not_mem_nil, m.cell q4 List.not_mem_nil, m.cell q5 List.not_mem_nil, m.cell q6 List.not_mem_nil⟩)
      have PT := Lib.hid pt
      have QT := Lib.hid qt
      have PF := Lib.hid pf
      have QF := Lib.hid qf
      clear p0 p1 p2 p3 p4 p5 p6 pt pf q0 q1 q2 q3 q4 q5 q6 qt qf
      go_upto_region 6 with (fail)
      refine rest_start [] 10 #[false, false, false, false, false, false, false, false, false, false] rfl (by kernel_rfl) (by kernel_rfl) ?_
      intro w6 m6
      have L1' := fun w' (m : Mod [] w6 w') => L1.out w' (m6.trans' m)
      have L2' := fun w' (m : Mod [] w6 w') => L2.out w' (m6.trans' m)
      have HS := Lib.hid (sameRef_any (⟨client, seq, kind, keys, old, fresh, n⟩, kao, kcap) (⟨client', seq', kind', keys', old', fresh', n'⟩, kao', kcap') w6 PF.out QF.out (PT.out.mod0 m6) (QT.out.mod0 m6))
      have HM6 := Lib.hid (HM.out.trans' m6)
      have LL1 := Lib.hid L1'
      have LL2 := Lib.hid L2'
      clear m6 L1' L2' L1 L2
      refine rest_got (i := 0) (v := ?v1) rfl (by kernel_rfl) (by kernel_rfl) (by kernel_rfl) (fun _ _ _ h => h) (by rfl) ?y1 ?r1
      case y1 => (intro w9q hSwq; clear hSwq; go_simp; with_reducible rfl)
      try simp only [Act.put, List.setIfInBounds_toArray, List.set_cons_zero, List.set_cons_succ]
      refine rest_got (i := 1) (v := ?v2) rfl (by kernel_rfl) (by kernel_rfl) (by kernel_rfl) (fun _ _ _ h => h) (by rfl) ?y2 ?r2
      case y2 => (intro w9q hSwq; clear hSwq; go_simp; with_reducible rfl)
      try simp only [Act.put, List.setIfInBounds_toArray, List.set_cons_zero, List.set_cons_succ]
      refine rest_got (i := 2) (v := ?v3) rfl (by kernel_rfl) (by kernel_rfl) (by kernel_rfl) (fun _ _ _ h => h) (by rfl) ?y3 ?r3
      case y3 => (intro w9q hSwq; clear hSwq; go_simp; with_reducible rfl)
      try simp only [Act.put, List.setIfInBounds_toArray, List.set_cons_zero, List.set_cons_succ]
      refine rest_got (i := 3) (v := ?v4) rfl (by kernel_rfl) (by kernel_rfl) (by kernel_rfl) (fun _ _ _ h => h) (by rfl) ?y4 ?r4
      case y4 => ((intro w9' hm9'; obtain ⟨hc0', hc1', hc2', hc3', hc4', hc5', hc6'⟩ := LL1.out w9' hm9'; clear hm9'; go_simp; with_reducible rfl))
      try simp only [Act.put, List.setIfInBounds_toArray, List.set_cons_zero, List.set_cons_succ]
      refine rest_got (i := 4) (v := ?v5) rfl (by kernel_rfl) (by kernel_rfl) (by kernel_rfl) (fun _ _ _ h => h) (by rfl) ?y5 ?r5
      case y5 => (intro w9q hSwq; clear hSwq; go_simp; with_reducible rfl)
      try simp only [Act.put, List.setIfInBounds_toArray, List.set_cons_zero, List.set_cons_succ]
      refine rest_got (i := 5) (v := ?v6) rfl (by kernel_rfl) (by kernel_rfl) (by kernel_rfl) (fun _ _ _ h => h) (by rfl) ?y6 ?r6
      case y6 => (intro w9q hSwq; clear hSwq; go_simp; with_reducible rfl)
      try simp only [Act.put, List.setIfInBounds_toArray, List.set_cons_zero, List.set_cons_succ]
      refine rest_got (i := 6) (v := ?v7) rfl (by kernel_rfl) (by kernel_rfl) (by kernel_rfl) (fun _ _ _ h => h) (by rfl) ?y7 ?r7
      case y7 => (intro w9q hSwq; clear hSwq; go_simp; with_reducible rfl)
      try simp only [Act.put, List.setIfInBounds_toArray, List.set_cons_zero, List.set_cons_succ]
      refine rest_got (i := 7) (v := ?v8) rfl (by kernel_rfl) (by kernel_rfl) (by kernel_rfl) (fun _ _ _ h => h) (by rfl) ?y8 ?r8
      case y8 => ((intro w9' hm9'; obtain ⟨hc0', hc1', hc2', hc3', hc4', hc5', hc6'⟩ := LL2.out w9' hm9'; clear hm9'; go_simp; with_reducible rfl))
      try simp only [Act.put, List.setIfInBounds_toArray, List.set_cons_zero, List.set_cons_succ]
      refine rest_one (i := 8) (by kernel_rfl) rfl (by rfl) ?_
      go_wp2_with fail
      refine HS.out.mono ?_
      rintro e w7 ⟨rfl, m7⟩
      by_cases hs : SameC ⟨client, seq, kind, keys, old, fresh, n⟩ ⟨client', seq', kind', keys', old', fresh', n'⟩
      · rw [decide_eq_true hs]
        have HSS := Lib.hid ((same_iff _ _).1 hs)
        clear hs
        go_wp2_with fail
        refine back_to (K1 := []) m7 (by simp) ?_
        have HM7 := Lib.hid (HM6.out.trans' m7)
        clear m7 LL1 LL2 HS
        refine rest_got (i := 9) (v := ?v9) rfl (by kernel_rfl) (by kernel_rfl) (by kernel_rfl) (fun _ _ _ h => h) (by rfl) ?y9 ?r9
        case y9 => (intro w9q hSwq; clear hSwq; go_simp; with_reducible rfl)
        try simp only [Act.put, List.setIfInBounds_toArray, List.set_cons_zero, List.set_cons_succ]
        refine rest_done (by kernel_rfl) ?_ _
        go_wp2_with fail
        go_roundw
        case rel =>
          refine ⟨k + 1, by omega, by go_num, ?_, HM7.out⟩
          rw [T1.out, T2.out, List.map_append, List.map_append, HA.out]
          exact congrArg (fun x => _ ++ [x]) HSS.out
        case measure => simp [intOf]; omega
      · have hno : ¬ l1.map Prod.fst = l2.map Prod.fst := fun h => hs ((same_iff _ _).2 (by have a := G1.out; have b := G2.out; rw [h] at a; exact Option.some.inj (a.symm.trans b)))
        have hmb : mb = false := by rw [← HV.out]; exact decide_eq_false hno
        subst hmb
        rw [decide_eq_false hs]
        clear hs hno
        go_wp2_with fail
        refine back_to (K1 := []) m7 (by simp) ?_
        have HM7 := Lib.hid (HM6.out.trans' m7)
        clear m7 LL1 LL2 HS
        refine rest_got (i := 9) (v := ?v10) rfl (by kernel_rfl) (by kernel_rfl) (by kernel_rfl) (fun _ _ _ h => h) (by rfl) ?y10 ?r10
        case y10 => (intro w9q hSwq; clear hSwq; go_simp; with_reducible rfl)
        try simp only [Act.put, List.setIfInBounds_toArray, List.set_cons_zero, List.set_cons_succ]
        refine rest_done (by kernel_rfl) ?_ _
        go_wp2_with fail
        go_ret
        exact ⟨rfl, HM7.out⟩
    · have hke : k = l1.length := by omega
      subst hke
      have hmb : mb = true := by rw [← HV.out]; exact decide_eq_true (by have := HA.out; rw [List.take_length, ← HL.out, List.take_length] at this; exact this)
      subst hmb
      go_wp2
      go_ret
      exact ⟨rfl, HM.out⟩
end Go.Proofs.YtigamomoegpefaaDoor
/- The batcher's walks: of nil; a command that the laws make; what a law keeps beside a batcher. -/
namespace Go.Proofs.YtigamomoegpefaaDoor
open Go Go.RowKit Go.Lib

set_option maxRecDepth 100000 in
theorem bnext_nil (w : World) : Calls Tryd.prog 12 #[.pointer none] w fun e w' => e = .returned (.tuple #[.slice none 0 0, .bool false]) ∧ Mod [] w w' := by
  have HR := Lib.hid (bready_nil w)
  go_enter Tryd.func12, Tryd.ntmps12
  go_wp2_with fail
  refine HR.out.mono ?_
  rintro e w1 ⟨rfl, m1⟩
  have M1 := Lib.hid m1
  clear m1 HR
  go_wp2_with fail
  go_ret2
  exact ⟨rfl, M1.out⟩
set_option maxRecDepth 100000 in
set_option maxHeartbeats 2000000 in
theorem bflush_nil (w : World) : Calls Tryd.prog 20 #[.pointer none] w fun e w' => e = .returned (.slice none 0 0) ∧ Mod [] w w' := by
  have HE : Hid (Calls Tryd.prog 24 #[.pointer none, .int .i64 64] w fun e w' => e = .returned (.slice none 0 0) ∧ Mod [] w w') := Lib.hid (by
    have HLN := Lib.hid (blen_nil w)
    go_enter Tryd.func24, Tryd.ntmps24
    go_wp2_with fail
    refine HLN.out.mono ?_
    rintro e w1 ⟨rfl, rfl⟩
    go_wp2_with fail
    go_loopw [5, 13] (fun o i wr => o = .slice none 0 0 ∧ i = .int .i64 0 ∧ wr = w1) (fun _ i _ => 0)
    case atStart => exact ⟨rfl, rfl, rfl⟩
    case round =>
      obtain ⟨rfl, rfl, rfl⟩ := hrel
      go_wp2_with fail
      go_ret
      exact ⟨rfl, Mod.refl _ _⟩)
  go_enter Tryd.func20, Tryd.ntmps20
  go_wp2_with fail
  refine HE.out.mono ?_
  rintro e w1 ⟨rfl, m1⟩
  have M1 := Lib.hid m1
  clear m1 HE
  go_wp2_with fail
  go_ret
  exact ⟨rfl, M1.out⟩

/-- A Get of a client. -/
def getC (client : Nat) (key : ByteArray) : Cd := ⟨client, 1, 2, [key], ⟨#[]⟩, ⟨#[]⟩, 0⟩
theorem getC_wf {client : Nat} {key : ByteArray} (h : client < 4294967296) (hk : key.size ≤ 9223372036854775807) : Wf (getC client key) :=
  ⟨h, show 1 < 4294967296 by omega, show 2 < 256 by omega, show 1 ≤ 9223372036854775807 by omega, fun k hk' => by simp [getC] at hk'; subst hk'; exact hk, show 0 ≤ 9223372036854775807 by omega, show 0 ≤ 9223372036854775807 by omega, by simp [getC], by simp [getC]⟩
theorem getC_may {client : Nat} {key : ByteArray} (h : 0 < client) (hk : KeyOk key) : May (getC client key) :=
  ⟨⟨show 1 ≤ 2 by omega, show 2 ≤ 8 by omega⟩, fun k hk' => by simp [getC] at hk'; subst hk'; exact hk, h, show 1 ≤ 1 by omega, show 1 ≤ 1 by omega, show 0 ≤ 64 by omega, show 0 ≤ 64 by omega, .inl rfl, .inl rfl, .inl rfl⟩
set_option maxRecDepth 100000 in
set_option maxHeartbeats 2000000 in
theorem put19_any (client : Nat) (key : ByteArray) (w : World) :
    Calls Tryd.prog 21 #[.int .u32 (client : Int), .string key] w fun e w' => ∃ ko, e = .returned (cmdV (getC client key, some ⟨ko, 0, none⟩, 1)) ∧ w'.heap[ko]? = some (.cells #[.string key] 9 (0, 0)) ∧ w.heap.size ≤ ko ∧ Mod [] w w' := by
  go_enter Tryd.func21, Tryd.ntmps21
  go_wp2_with fail
  have m1 := Mod.alloc [] w (.cells #[.int .u32 (client : Int), .int .u32 1, .int .u8 2, .slice (some ⟨w.heap.size + 1, 0, none⟩) 1 1, .string ⟨#[]⟩, .string ⟨#[]⟩, .int .i64 0] 36)
  have hb1 := heap_alloc_new w (.cells #[.int .u32 (client : Int), .int .u32 1, .int .u8 2, .slice (some ⟨w.heap.size + 1, 0, none⟩) 1 1, .string ⟨#[]⟩, .string ⟨#[]⟩, .int .i64 0] 36)
  have z1 : (w.alloc (.cells #[.int .u32 (client : Int), .int .u32 1, .int .u8 2, .slice (some ⟨w.heap.size + 1, 0, none⟩) 1 1, .string ⟨#[]⟩, .string ⟨#[]⟩, .int .i64 0] 36)).heap.size = w.heap.size + 1 := by simp
  obtain ⟨w1, hw1⟩ : ∃ x, w.alloc (.cells #[.int .u32 (client : Int), .int .u32 1, .int .u8 2, .slice (some ⟨w.heap.size + 1, 0, none⟩) 1 1, .string ⟨#[]⟩, .string ⟨#[]⟩, .int .i64 0] 36) = x := ⟨_, rfl⟩
  rw [hw1] at m1 hb1 z1 ⊢
  have m2 := Mod.alloc [] w1 (.cells #[.string key] 9)
  have hb2 := heap_alloc_new w1 (.cells #[.string key] 9)
  rw [z1] at hb2
  have hb3 := m2.get hb1 List.not_mem_nil
  obtain ⟨w2, hw2⟩ : ∃ x, w1.alloc (.cells #[.string key] 9) = x := ⟨_, rfl⟩
  rw [hw2] at m2 hb2 hb3 ⊢
  have c0 := cell_of_block (i := 0) hb3
  have c1 := cell_of_block (i := 1) hb3
  have c2 := cell_of_block (i := 2) hb3
  have c3 := cell_of_block (i := 3) hb3
  have c4 := cell_of_block (i := 4) hb3
  have c5 := cell_of_block (i := 5) hb3
  have c6 := cell_of_block (i := 6) hb3
  ((try simp only [Exit.inBlock, Exit.then]); refine bodyPost_ret (by simp [results, Tryd.results21, go_sem, *]; try rfl) rfl ?_)
  exact ⟨w.heap.size + 1, rfl, hb2, by omega, m1.trans' m2⟩

/-- What holds of a world in spite of all turns that leave the blocks Z alone. -/
def Stable (Z : List Nat) (Q : World → Prop) : Prop := ∀ (S : List Nat) (u u' : World), Q u → Mod S u u' → (∀ k, k ∈ Z → k ∉ S) → Q u'
/-- A law's world: a batcher that is its own, and what it holds beside it. -/
structure LawS (w0 w : World) (b : Nat) (F : List Nat) (ba ag now ord : Int) (R : List (Cd × Int)) (Z : List Nat) (Q : World → Prop) : Prop where
  bat : BatR w b F ba ag now ord R
  mod : Mod [] w0 w
  fnew : ∀ k, k ∈ F → w0.heap.size ≤ k
  off : ∀ k, k ∈ Z → k < w.heap.size ∧ k ∉ F
  at' : Q w
  stable : Stable Z Q
theorem LawS.move {w0 w w' : World} {b : Nat} {F F' : List Nat} {ba ag now ord now' ord' : Int} {R R' : List (Cd × Int)} {Z : List Nat} {Q : World → Prop} (h : LawS w0 w b F ba ag now ord R Z Q)
    (h1 : BatR w' b F' ba ag now' ord' R') (m : Mod F w w') (hF : ∀ k, k ∈ F' → k ∈ F ∨ w.heap.size ≤ k) : LawS w0 w' b F' ba ag now' ord' R' Z Q := by
  refine ⟨h1, h.mod.trans m (fun k hk hl => by have := h.fnew k hk; omega), fun k hk => ?_, fun k hk => ?_, h.stable F w w' h.at' m (fun k hk => (h.off k hk).2), h.stable⟩
  · rcases hF k hk with h1 | h1
    · exact h.fnew k h1
    · exact Nat.le_trans h.mod.size h1
  · obtain ⟨a, c⟩ := h.off k hk
    refine ⟨Nat.lt_of_lt_of_le a m.size, fun hf => ?_⟩
    rcases hF k hf with h1 | h1
    · exact c h1
    · omega
theorem LawS.bmoved {w0 w w' : World} {b : Nat} {F : List Nat} {ba ag now ord now' ord' : Int} {R R' : List (Cd × Int)} {Z : List Nat} {Q : World → Prop} (h : LawS w0 w b F ba ag now ord R Z Q)
    (hm : BMoved w w' b F ba ag now' ord' R') : ∃ F', LawS w0 w' b F' ba ag now' ord' R' Z Q := by
  obtain ⟨F', h1, h2, h3⟩ := hm
  exact ⟨F', h.move h1 h2 h3⟩
theorem LawS.still {w0 w w' : World} {b : Nat} {F : List Nat} {ba ag now ord : Int} {R : List (Cd × Int)} {Z : List Nat} {Q : World → Prop} (h : LawS w0 w b F ba ag now ord R Z Q) (m : Mod [] w w') : LawS w0 w' b F ba ag now ord R Z Q :=
  h.move (h.bat.mod0 m) m.nil (fun _ hk => .inl hk)
theorem LawS.more {w0 w : World} {b : Nat} {F : List Nat} {ba ag now ord : Int} {R : List (Cd × Int)} {Z Z' : List Nat} {Q Q' : World → Prop} (h : LawS w0 w b F ba ag now ord R Z Q)
    (h1 : Q' w) (h2 : Stable Z' Q') (h3 : ∀ k, k ∈ Z' → k < w.heap.size ∧ k ∉ F) : LawS w0 w b F ba ag now ord R (Z ++ Z') (fun u => Q u ∧ Q' u) :=
  ⟨h.bat, h.mod, h.fnew, fun k hk => (List.mem_append.1 hk).elim (h.off k) (h3 k), ⟨h.at', h1⟩, fun S u u' q m hz => ⟨h.stable S u u' q.1 m (fun k hk => hz k (List.mem_append_left _ hk)), h2 S u u' q.2 m (fun k hk => hz k (List.mem_append_right _ hk))⟩⟩
theorem LawS.less {w0 w : World} {b : Nat} {F : List Nat} {ba ag now ord : Int} {R : List (Cd × Int)} {Z Z' : List Nat} {Q Q' : World → Prop} (h : LawS w0 w b F ba ag now ord R Z Q)
    (h1 : Q' w) (h2 : Stable Z' Q') (h3 : ∀ k, k ∈ Z' → k ∈ Z) : LawS w0 w b F ba ag now ord R Z' Q' :=
  ⟨h.bat, h.mod, h.fnew, fun k hk => h.off k (h3 k hk), h1, h2⟩
def zsC (ao : Option Addr) (out : List Cm) : List Nat := blk ao ++ out.flatMap (fun c => blk c.2.1)
theorem stable_sees (ao : Option Addr) (out : List Cm) : Stable (zsC ao out) (fun u => SeesC u ao out) := by
  intro S u u' h m hz j hj
  obtain ⟨b, off, h1, c0, c1, c2, c3, c4, c5, c6, ht, hf⟩ := h j hj
  have hb : b ∉ S := hz b (List.mem_append_left _ (by rw [h1]; simp [blk]))
  exact ⟨b, off, h1, m.cell c0 hb, m.cell c1 hb, m.cell c2 hb, m.cell c3 hb, m.cell c4 hb, m.cell c5 hb, m.cell c6 hb, ht.mod m (fun _ k hk => hz k (List.mem_append_right _ (List.mem_flatMap.2 ⟨_, List.getElem_mem hj, hk⟩))), hf⟩
theorem OutC.off {w0 w : World} {F : List Nat} {ao : Option Addr} {cap : Nat} {out : List Cm} (h : OutC w0 w F ao cap out) : ∀ k, k ∈ zsC ao out → k < w.heap.size ∧ k ∉ F := by
  intro k hk
  rcases List.mem_append.1 hk with hk | hk
  · exact ⟨Own.lt h.own k hk, (h.row k hk).2.1⟩
  · obtain ⟨c, hc, hk⟩ := List.mem_flatMap.1 hk
    have := (h.each c hc).2.2.2 k hk
    exact ⟨this.2.1, this.2.2⟩
/-- A boxed command. -/
def BoxC (b : Nat) (c : Cm) (w : World) : Prop := CmdAt w b c ∧ SeesT w c.2.1 c.1.keys ∧ Wf c.1
theorem stable_box (b : Nat) (c : Cm) : Stable (b :: blk c.2.1) (BoxC b c) := fun S u u' h m hz => ⟨h.1.mod m (hz b (by simp)), h.2.1.mod m (fun _ k hk => hz k (by simp [hk])), h.2.2⟩
theorem stable_cnt : Stable [0] Cnt := fun S u u' h m hz => h.mod m (hz _ (by simp))
theorem Stable.and {Z Z' : List Nat} {Q Q' : World → Prop} (h : Stable Z Q) (h' : Stable Z' Q') : Stable (Z ++ Z') (fun u => Q u ∧ Q' u) := fun S u u' q m hz =>
  ⟨h S u u' q.1 m (fun k hk => hz k (List.mem_append_left _ hk)), h' S u u' q.2 m (fun k hk => hz k (List.mem_append_right _ hk))⟩
end Go.Proofs.YtigamomoegpefaaDoor
/- The walk of the batcher laws' wakes. -/
namespace Go.Proofs.YtigamomoegpefaaDoor
open Go Go.RowKit Go.Lib

def cX : Cd := getC 1 ⟨#[120]⟩
def cY : Cd := getC 2 ⟨#[121]⟩
theorem cX_wf : Wf cX := getC_wf (by omega) (show 1 ≤ 9223372036854775807 by omega)
theorem cY_wf : Wf cY := getC_wf (by omega) (show 1 ≤ 9223372036854775807 by omega)
theorem seesT_one {w : World} {ko : Nat} {key : ByteArray} {z : Nat × Nat} (h : w.heap[ko]? = some (.cells #[.string key] 9 z)) : SeesT w (some ⟨ko, 0, none⟩) [key] := by
  intro j hj
  have : j = 0 := by simp at hj; omega
  subst this
  exact ⟨ko, 0, rfl, by rw [Nat.add_zero]; exact cell_of_block h⟩
theorem pe1 : putE 3 [] cX 0 = 0 := by kernel_rfl
theorem pl1 : putL 3 0 [] cX 0 = [(cX, 3)] := by kernel_rfl
theorem pl2 : putL 3 3 [] cX 0 = [(cX, 6)] := by kernel_rfl
theorem pe3 : putE 3 [(cX, 6)] cY 2 = 0 := by kernel_rfl
theorem pl3 : putL 3 3 [(cX, 6)] cY 2 = [(cX, 6), (cY, 4)] := by kernel_rfl
theorem pe4 : putE 3 [] cX 4 = 1 := by kernel_rfl
theorem rd1 : readyB 2 2 [(cX, 3)] = false := by kernel_rfl
theorem rd2 : readyB 2 3 [(cX, 3)] = true := by kernel_rfl
theorem rd3 : readyB 2 3 [(cX, 6), (cY, 4)] = true := by kernel_rfl
theorem rd4 : readyB 2 3 ([] : List (Cd × Int)) = false := by kernel_rfl
theorem tk1 : takeN 2 [(cX, (3 : Int))] = ([cX], []) := by kernel_rfl
theorem tk2 : takeN 2 [(cX, (6 : Int)), (cY, 4)] = ([cY, cX], []) := by kernel_rfl
theorem map_none {out : List Cm} (h : out.map Prod.fst = []) : out = [] := by simpa using h
theorem map_one {out : List Cm} {c : Cd} (h : out.map Prod.fst = [c]) : ∃ ko kc, out = [(c, ko, kc)] := by
  match out, h with
  | [(d, ko, kc)], h => simp at h; subst h; exact ⟨ko, kc, rfl⟩
theorem map_two {out : List Cm} {c d : Cd} (h : out.map Prod.fst = [c, d]) : ∃ ko kc kp kd, out = [(c, ko, kc), (d, kp, kd)] := by
  match out, h with
  | [(x, ko, kc), (y, kp, kd)], h => simp at h; obtain ⟨rfl, rfl⟩ := h; exact ⟨ko, kc, kp, kd, rfl⟩
theorem boxX {w : World} {bx kx : Nat} (h : BoxC bx (cX, some ⟨kx, 0, none⟩, 1) w) : w.cell? ⟨bx, 0, none⟩ = some (.int .u32 1) ∧ w.cell? ⟨bx, 1, none⟩ = some (.int .u32 1) ∧ w.cell? ⟨bx, 2, none⟩ = some (.int .u8 2) ∧ w.cell? ⟨bx, 3, none⟩ = some (.slice (some ⟨kx, 0, none⟩) 1 1) ∧
    w.cell? ⟨bx, 4, none⟩ = some (.string ⟨#[]⟩) ∧ w.cell? ⟨bx, 5, none⟩ = some (.string ⟨#[]⟩) ∧ w.cell? ⟨bx, 6, none⟩ = some (.int .i64 0) := h.1
theorem boxY {w : World} {bx kx : Nat} (h : BoxC bx (cY, some ⟨kx, 0, none⟩, 1) w) : w.cell? ⟨bx, 0, none⟩ = some (.int .u32 2) ∧ w.cell? ⟨bx, 1, none⟩ = some (.int .u32 1) ∧ w.cell? ⟨bx, 2, none⟩ = some (.int .u8 2) ∧ w.cell? ⟨bx, 3, none⟩ = some (.slice (some ⟨kx, 0, none⟩) 1 1) ∧
    w.cell? ⟨bx, 4, none⟩ = some (.string ⟨#[]⟩) ∧ w.cell? ⟨bx, 5, none⟩ = some (.string ⟨#[]⟩) ∧ w.cell? ⟨bx, 6, none⟩ = some (.int .i64 0) := h.1
set_option maxRecDepth 100000 in
set_option maxHeartbeats 8000000 in
theorem wakes19_any (w : World) (ht : Cnt w) : Calls Tryd.prog 9 #[] w fun e w' => e = .returned (.bool true) ∧ Mod [] w w' := by
  have HN := Lib.hid (bnew_ok 0 0 2 3 0 w (by decide))
  have HT := Lib.hid ht
  clear ht
  go_enter Tryd.func9, Tryd.ntmps9
  go_wp2_with fail
  refine HN.out.mono ?_
  rintro e w1 ⟨b, F1, rfl, b1, m1, n1⟩
  have H1 : Hid (LawS w w1 b F1 2 3 0 0 [] [0] Cnt) := Lib.hid ⟨b1, m1, n1, fun k hk => by
    simp at hk; subst hk
    have := HT.out.lt
    exact ⟨Nat.lt_of_lt_of_le this m1.size, fun h => by have := n1 _ h; omega⟩, HT.out.mod0 m1, stable_cnt⟩
  clear b1 m1 n1 HN
  have HP := Lib.hid (put19_any 1 ⟨#[120]⟩ w1)
  go_wp2_with fail
  refine HP.out.mono ?_
  rintro e w2 ⟨kx, rfl, x2, nx, m2⟩
  have H2 := Lib.hid (H1.out.still m2)
  have HX2 := Lib.hid x2
  have SX2 : Hid (kx < w2.heap.size ∧ w1.heap.size ≤ kx) := Lib.hid ⟨lt_of_block x2, nx⟩
  have FX2 : Hid (∀ k, k ∈ F1 → k < w1.heap.size) := Lib.hid H1.out.bat.lt
  clear x2 nx m2 HP
  have HP := Lib.hid (put19_any 2 ⟨#[121]⟩ w2)
  unfold cmdV getC
  dsimp only
  go_wp2_with fail
  refine HP.out.mono ?_
  rintro e w3 ⟨ky, rfl, y3, ny, m3⟩
  have H3 := Lib.hid (H2.out.still m3)
  have HX3 := Lib.hid (m3.get HX2.out List.not_mem_nil)
  have HY3 := Lib.hid y3
  have SY3 : Hid (ky < w3.heap.size ∧ w2.heap.size ≤ ky ∧ w2.heap.size ≤ w3.heap.size) := Lib.hid ⟨lt_of_block y3, ny, m3.size⟩
  clear y3 ny m3 HP HX2 H2 H1
  unfold cmdV getC
  dsimp only
  go_upto_region 5 with (fail)
  obtain ⟨w4, hw4, A4, m4⟩ : ∃ x, w3.alloc (.cells #[.int .u32 1, .int .u32 1, .int .u8 2, .slice (some ⟨kx, 0, none⟩) 1 1, .string ⟨#[]⟩, .string ⟨#[]⟩, .int .i64 0] 36) = x ∧ CmdAt x w3.heap.size (cX, some ⟨kx, 0, none⟩, 1) ∧ Mod [] w3 x := ⟨_, rfl, box_at (cX, some ⟨kx, 0, none⟩, 1) w3, Mod.alloc _ _ _⟩
  have z4 : w4.heap.size = w3.heap.size + 1 := by rw [← hw4]; simp
  rw [hw4, ← z4]
  obtain ⟨w5, hw5, A5, m5⟩ : ∃ x, w4.alloc (.cells #[.int .u32 2, .int .u32 1, .int .u8 2, .slice (some ⟨ky, 0, none⟩) 1 1, .string ⟨#[]⟩, .string ⟨#[]⟩, .int .i64 0] 36) = x ∧ CmdAt x w4.heap.size (cY, some ⟨ky, 0, none⟩, 1) ∧ Mod [] w4 x := ⟨_, rfl, box_at (cY, some ⟨ky, 0, none⟩, 1) w4, Mod.alloc _ _ _⟩
  rw [hw5]
  have H5 : Hid (LawS w w5 b F1 2 3 0 0 [] (([0] ++ (w3.heap.size :: blk (some ⟨kx, 0, none⟩))) ++ (w4.heap.size :: blk (some ⟨ky, 0, none⟩))) (fun u => (Cnt u ∧ BoxC w3.heap.size (cX, some ⟨kx, 0, none⟩, 1) u) ∧ BoxC w4.heap.size (cY, some ⟨ky, 0, none⟩, 1) u)) := Lib.hid (by
    have h := H3.out.still (m4.trans' m5)
    have s2 := SX2.out
    have s3 := SY3.out
    have hF := FX2.out
    have z5 := A5.lt
    have zz := m4.size
    refine (h.more (Q' := BoxC w3.heap.size (cX, some ⟨kx, 0, none⟩, 1)) ⟨A4.mod0 m5, seesT_one ((m4.trans' m5).get HX3.out List.not_mem_nil), cX_wf⟩ (stable_box _ _) ?_).more (Q' := BoxC w4.heap.size (cY, some ⟨ky, 0, none⟩, 1)) ⟨A5, seesT_one ((m4.trans' m5).get HY3.out List.not_mem_nil), cY_wf⟩ (stable_box _ _) ?_
    · intro k hk
      simp only [blk, List.mem_cons, List.not_mem_nil, or_false] at hk
      refine ⟨by rcases hk with rfl | rfl <;> omega, fun hf => ?_⟩
      have := hF k hf
      rcases hk with rfl | rfl <;> omega
    · intro k hk
      simp only [blk, List.mem_cons, List.not_mem_nil, or_false] at hk
      refine ⟨by rcases hk with rfl | rfl <;> omega, fun hf => ?_⟩
      have := hF k hf
      rcases hk with rfl | rfl <;> omega)
  clear hw4 hw5 A4 A5 m4 m5 z4 H3 HX3 HY3 SX2 SY3 FX2
  obtain ⟨bx, hbx⟩ : ∃ x, w3.heap.size = x := ⟨_, rfl⟩
  obtain ⟨bY, hby⟩ : ∃ x, w4.heap.size = x := ⟨_, rfl⟩
  rw [hbx, hby] at H5
  rw [hbx, hby]
  clear hbx hby
  obtain ⟨x0, x1, x2, x3, x4, x5, x6⟩ := boxX H5.out.at'.1.2
  obtain ⟨y0, y1, y2, y3, y4, y5, y6⟩ := boxY H5.out.at'.2
  have HC : Hid (Calls Tryd.prog 14 #[.pointer (some ⟨b, 0, none⟩), cmdV (cX, some ⟨kx, 0, none⟩, 1), .int .i64 0] w5 (PutW w5 b F1 2 3 0 0 [] cX 0)) := Lib.hid (bput_any b F1 2 3 0 0 [] (cX, some ⟨kx, 0, none⟩, 1) 0 w5 H5.out.bat (by omega) (by omega) (by omega) cX_wf H5.out.at'.1.2.2.1 (fun _ k hk => (H5.out.off k (List.mem_append_left _ (List.mem_append_right _ (List.mem_cons_of_mem _ hk)))).2) H5.out.at'.1.1)
  go_wp2_with fail
  refine HC.out.mono ?_
  rintro e w6 ⟨he, ord6, oa6, ob6, mv⟩
  rw [pe1] at he
  subst he
  rw [pl1] at mv
  obtain ⟨F6, h⟩ := H5.out.bmoved mv
  have H6 := Lib.hid h
  clear h mv HC x0 x1 x2 x3 x4 x5 x6 y0 y1 y2 y3 y4 y5 y6 H5
  have HC := Lib.hid (btick_any b F6 2 3 0 ord6 [(cX, 3)] w6 H6.out.bat (by omega))
  go_wp2_with fail
  refine HC.out.mono ?_
  rintro e w7 ⟨rfl, mv⟩
  obtain ⟨F7, h⟩ := H6.out.bmoved mv
  have H7 := Lib.hid (show LawS w w7 b F7 2 3 1 ord6 [(cX, 3)] _ _ from h)
  clear h mv HC H6
  have HC := Lib.hid (btick_any b F7 2 3 1 ord6 [(cX, 3)] w7 H7.out.bat (by omega))
  go_wp2_with fail
  refine HC.out.mono ?_
  rintro e w8 ⟨rfl, mv⟩
  obtain ⟨F8, h⟩ := H7.out.bmoved mv
  have H8 := Lib.hid (show LawS w w8 b F8 2 3 2 ord6 [(cX, 3)] _ _ from h)
  clear h mv HC H7
  have HC := Lib.hid (bready_any b F8 2 3 2 ord6 [(cX, 3)] w8 H8.out.bat)
  rw [rd1] at HC
  go_wp2_with fail
  refine HC.out.mono ?_
  rintro e w9 ⟨rfl, mm⟩
  have H9 := Lib.hid (H8.out.still mm)
  clear mm HC H8
  have HC := Lib.hid (btick_any b F8 2 3 2 ord6 [(cX, 3)] w9 H9.out.bat (by omega))
  go_wp2_with fail
  refine HC.out.mono ?_
  rintro e w10 ⟨rfl, mv⟩
  obtain ⟨F10, h⟩ := H9.out.bmoved mv
  have H10 := Lib.hid (show LawS w w10 b F10 2 3 3 ord6 [(cX, 3)] _ _ from h)
  clear h mv HC H9
  have HC := Lib.hid (bready_any b F10 2 3 3 ord6 [(cX, 3)] w10 H10.out.bat)
  rw [rd2] at HC
  go_wp2_with fail
  refine HC.out.mono ?_
  rintro e w11 ⟨rfl, mm⟩
  have H11 := Lib.hid (H10.out.still mm)
  clear mm HC H10
  have HC : Hid (Calls Tryd.prog 12 #[.pointer (some ⟨b, 0, none⟩)] w11 (NextW w11 b F10 2 3 3 ord6 [(cX, 3)] 2)) := Lib.hid (bnext_any b F10 3 3 ord6 [(cX, 3)] 2 w11 H11.out.bat (by omega))
  go_wp2_with fail
  refine HC.out.mono ?_
  rintro e w12 ⟨ao12, cap12, out12, F12, he, hmap, hbat, hmod, hFn, hout⟩
  rw [rd2] at he hmap hbat
  rw [if_pos rfl, tk1] at hmap hbat
  dsimp only at hmap hbat
  obtain ⟨ko12, kc12, rfl⟩ := map_one hmap
  have he : e = .returned (.tuple #[.slice ao12 1 cap12, .bool true]) := he
  subst he
  have H12 := Lib.hid ((H11.out.move hbat hmod hFn).more hout.sees (stable_sees _ _) hout.off)
  clear hmap hbat hmod hFn hout HC H11
  obtain ⟨x0, x1, x2, x3, x4, x5, x6⟩ := boxX H12.out.at'.1.1.2
  obtain ⟨y0, y1, y2, y3, y4, y5, y6⟩ := boxY H12.out.at'.1.2
  have HC : Hid (Calls Tryd.prog 14 #[.pointer (some ⟨b, 0, none⟩), cmdV (cX, some ⟨kx, 0, none⟩, 1), .int .i64 0] w12 (PutW w12 b F12 2 3 3 ord6 [] cX 0)) := Lib.hid (bput_any b F12 2 3 3 ord6 [] (cX, some ⟨kx, 0, none⟩, 1) 0 w12 H12.out.bat (by omega) (by omega) (by omega) cX_wf H12.out.at'.1.1.2.2.1 (fun _ k hk => (H12.out.off k (List.mem_append_left _ (List.mem_append_left _ (List.mem_append_right _ (List.mem_cons_of_mem _ hk))))).2) H12.out.at'.1.1.1)
  go_wp2_with fail
  refine HC.out.mono ?_
  rintro e w13 ⟨he, ord13, oa13, ob13, mv⟩
  rw [pe1] at he
  subst he
  rw [pl2] at mv
  obtain ⟨F13, h⟩ := H12.out.bmoved mv
  have H13 := Lib.hid h
  clear h mv HC x0 x1 x2 x3 x4 x5 x6 y0 y1 y2 y3 y4 y5 y6 H12
  obtain ⟨x0, x1, x2, x3, x4, x5, x6⟩ := boxX H13.out.at'.1.1.2
  obtain ⟨y0, y1, y2, y3, y4, y5, y6⟩ := boxY H13.out.at'.1.2
  have HC : Hid (Calls Tryd.prog 14 #[.pointer (some ⟨b, 0, none⟩), cmdV (cY, some ⟨ky, 0, none⟩, 1), .int .i64 2] w13 (PutW w13 b F13 2 3 3 ord13 [(cX, 6)] cY 2)) := Lib.hid (bput_any b F13 2 3 3 ord13 [(cX, 6)] (cY, some ⟨ky, 0, none⟩, 1) 2 w13 H13.out.bat (by omega) (by omega) (by omega) cY_wf H13.out.at'.1.2.2.1 (fun _ k hk => (H13.out.off k (List.mem_append_left _ (List.mem_append_right _ (List.mem_cons_of_mem _ hk)))).2) H13.out.at'.1.1.1)
  go_wp2_with fail
  refine HC.out.mono ?_
  rintro e w14 ⟨he, ord14, oa14, ob14, mv⟩
  rw [pe3] at he
  subst he
  rw [pl3] at mv
  obtain ⟨F14, h⟩ := H13.out.bmoved mv
  have H14 := Lib.hid h
  clear h mv HC x0 x1 x2 x3 x4 x5 x6 y0 y1 y2 y3 y4 y5 y6 H13
  have HC : Hid (Calls Tryd.prog 12 #[.pointer (some ⟨b, 0, none⟩)] w14 (NextW w14 b F14 2 3 3 ord14 [(cX, 6), (cY, 4)] 2)) := Lib.hid (bnext_any b F14 3 3 ord14 [(cX, 6), (cY, 4)] 2 w14 H14.out.bat (by omega))
  go_wp2_with fail
  refine HC.out.mono ?_
  rintro e w15 ⟨ao15, cap15, out15, F15, he, hmap, hbat, hmod, hFn, hout⟩
  rw [rd3] at he hmap hbat
  rw [if_pos rfl, tk2] at hmap hbat
  dsimp only at hmap hbat
  obtain ⟨ko15, kc15, kp15, kd15, rfl⟩ := map_two hmap
  have he : e = .returned (.tuple #[.slice ao15 2 cap15, .bool true]) := he
  subst he
  have H15 := Lib.hid ((H14.out.move hbat hmod hFn).more hout.sees (stable_sees _ _) hout.off)
  clear hmap hbat hmod hFn hout HC H14
  have HC : Hid (Calls Tryd.prog 12 #[.pointer (some ⟨b, 0, none⟩)] w15 (NextW w15 b F15 2 3 3 ord14 [] 2)) := Lib.hid (bnext_any b F15 3 3 ord14 [] 2 w15 H15.out.bat (by omega))
  go_wp2_with fail
  refine HC.out.mono ?_
  rintro e w16 ⟨ao16, cap16, out16, F16, he, hmap, hbat, hmod, hFn, hout⟩
  rw [rd4] at he hmap hbat
  rw [if_neg (by decide)] at hmap hbat
  obtain rfl := map_none hmap
  have he : e = .returned (.tuple #[.slice ao16 0 cap16, .bool false]) := he
  subst he
  have H16 := Lib.hid (H15.out.move hbat hmod hFn)
  clear hmap hbat hmod hFn hout HC H15
  obtain ⟨lb, lo, hlb, l0, l1, l2, l3, l4, l5, l6, lt, -⟩ := H16.out.at'.1.2 0 (by simp)
  subst hlb
  obtain ⟨mb, mo, hmb, m0, m1, m2, m3, m4, m5, m6, mt, -⟩ := H16.out.at'.2 0 (by simp)
  subst hmb
  have LL : Hid (∀ u, SeesC u (some ⟨lb, lo, none⟩) [(cX, ko12, kc12)] → (u.cell? ⟨lb, lo, none⟩ = some (.int .u32 1) ∧ u.cell? ⟨lb, lo + 1, none⟩ = some (.int .u32 1) ∧ u.cell? ⟨lb, lo + 2, none⟩ = some (.int .u8 2) ∧ u.cell? ⟨lb, lo + 3, none⟩ = some (.slice ko12 1 kc12) ∧ u.cell? ⟨lb, lo + 4, none⟩ = some (.string ⟨#[]⟩) ∧ u.cell? ⟨lb, lo + 5, none⟩ = some (.string ⟨#[]⟩) ∧ u.cell? ⟨lb, lo + 6, none⟩ = some (.int .i64 0)) ∧ SeesT u ko12 cX.keys) := Lib.hid (fun u h => by
    obtain ⟨b', o', e, l0, l1, l2, l3, l4, l5, l6, lt, -⟩ := h 0 (by simp)
    cases e
    rw [Nat.zero_mul, Nat.add_zero] at l0 l1 l2 l3 l4 l5 l6
    exact ⟨⟨l0, l1, l2, l3, l4, l5, l6⟩, lt⟩)
  have LM : Hid (∀ u, SeesC u (some ⟨mb, mo, none⟩) [(cY, ko15, kc15), (cX, kp15, kd15)] → ((u.cell? ⟨mb, mo, none⟩ = some (.int .u32 2) ∧ u.cell? ⟨mb, mo + 1, none⟩ = some (.int .u32 1) ∧ u.cell? ⟨mb, mo + 2, none⟩ = some (.int .u8 2) ∧ u.cell? ⟨mb, mo + 3, none⟩ = some (.slice ko15 1 kc15) ∧ u.cell? ⟨mb, mo + 4, none⟩ = some (.string ⟨#[]⟩) ∧ u.cell? ⟨mb, mo + 5, none⟩ = some (.string ⟨#[]⟩) ∧ u.cell? ⟨mb, mo + 6, none⟩ = some (.int .i64 0)) ∧ SeesT u ko15 cY.keys) ∧
      ((u.cell? ⟨mb, mo + 7, none⟩ = some (.int .u32 1) ∧ u.cell? ⟨mb, mo + 7 + 1, none⟩ = some (.int .u32 1) ∧ u.cell? ⟨mb, mo + 7 + 2, none⟩ = some (.int .u8 2) ∧ u.cell? ⟨mb, mo + 7 + 3, none⟩ = some (.slice kp15 1 kd15) ∧ u.cell? ⟨mb, mo + 7 + 4, none⟩ = some (.string ⟨#[]⟩) ∧ u.cell? ⟨mb, mo + 7 + 5, none⟩ = some (.string ⟨#[]⟩) ∧ u.cell? ⟨mb, mo + 7 + 6, none⟩ = some (.int .i64 0)) ∧ SeesT u kp15 cX.keys)) := Lib.hid (fun u h => by
    obtain ⟨b', o', e, l0, l1, l2, l3, l4, l5, l6, lt, -⟩ := h 0 (by simp)
    cases e
    obtain ⟨b', o', e, n0, n1, n2, n3, n4, n5, n6, nt, -⟩ := h 1 (by simp)
    cases e
    rw [Nat.zero_mul, Nat.add_zero] at l0 l1 l2 l3 l4 l5 l6
    exact ⟨⟨⟨l0, l1, l2, l3, l4, l5, l6⟩, lt⟩, ⟨n0, n1, n2, n3, n4, n5, n6⟩, nt⟩)
  clear l0 l1 l2 l3 l4 l5 l6 lt m0 m1 m2 m3 m4 m5 m6 mt
  go_upto_region 16 with (fail)
  simp only [List.append_eq, List.cons_append, List.nil_append]
  refine rest_start F16 65 #[false, false, false, false, false, false, false, false, false, false, false, false, false, false, false, false, false, false, false, false, false, false, false, false, false, false, false, false, false, false, false, false, false, false, false, false, false, false, false, false, false, false, false, false, false, false, false, false, false, false, false, false, false, false, false, false, false, false, false, false, false, false, false, false, false] rfl (by kernel_rfl) (by kernel_rfl) ?_
  intro w17 m17
  have H17 := Lib.hid (H16.out.still m17)
  clear m17 H16
  have HQ : Hid (∀ w', Mod F16 w17 w' → _) := Lib.hid (fun w' m => H17.out.stable F16 w17 w' H17.out.at' m (fun k hk => (H17.out.off k hk).2))
  have LX : Hid (∀ w', Mod F16 w17 w' → _) := Lib.hid (fun w' m => boxX (HQ.out w' m).1.1.1.2)
  have LY : Hid (∀ w', Mod F16 w17 w' → _) := Lib.hid (fun w' m => boxY (HQ.out w' m).1.1.2)
  have L0 : Hid (∀ w', Mod F16 w17 w' → _) := Lib.hid (fun w' m => (LL.out w' (HQ.out w' m).1.2).1)
  have N0 : Hid (∀ w', Mod F16 w17 w' → _) := Lib.hid (fun w' m => (LM.out w' (HQ.out w' m).2).1.1)
  have N1 : Hid (∀ w', Mod F16 w17 w' → _) := Lib.hid (fun w' m => (LM.out w' (HQ.out w' m).2).2.1)
  have HC := Lib.hid (sameRef_any (cX, ko12, kc12) (cX, some ⟨kx, 0, none⟩, 1) w17 cX_wf cX_wf (LL.out w17 H17.out.at'.1.2).2 H17.out.at'.1.1.1.2.2.1)
  rw [decide_eq_true ((same_iff cX cX).2 rfl)] at HC
  refine rest_got (i := 0) (v := ?v1) rfl (by kernel_rfl) (by kernel_rfl) (by kernel_rfl) (fun _ _ _ h => h) (by rfl) ?y1 ?r1
  case y1 => (intro w9q hSwq; clear hSwq; go_simp; with_reducible rfl)
  try simp only [Act.put, List.setIfInBounds_toArray, List.set_cons_zero, List.set_cons_succ]
  refine rest_got (i := 1) (v := ?v2) rfl (by kernel_rfl) (by kernel_rfl) (by kernel_rfl) (fun _ _ _ h => h) (by rfl) ?y2 ?r2
  case y2 => (intro w9q hSwq; clear hSwq; go_simp; with_reducible rfl)
  try simp only [Act.put, List.setIfInBounds_toArray, List.set_cons_zero, List.set_cons_succ]
  refine rest_got (i := 2) (v := ?v3) rfl (by kernel_rfl) (by kernel_rfl) (by kernel_rfl) (fun _ _ _ h => h) (by rfl) ?y3 ?r3
  case y3 => (intro w9q hSwq; clear hSwq; go_simp; with_reducible rfl)
  try simp only [Act.put, List.setIfInBounds_toArray, List.set_cons_zero, List.set_cons_succ]
  refine rest_got (i := 3) (v := ?v4) rfl (by kernel_rfl) (by kernel_rfl) (by kernel_rfl) (fun _ _ _ h => h) (by rfl) ?y4 ?r4
  case y4 => (intro w9q hSwq; clear hSwq; go_simp; with_reducible rfl)
  try simp only [Act.put, List.setIfInBounds_toArray, List.set_cons_zero, List.set_cons_succ]
  refine rest_got (i := 4) (v := ?v5) rfl (by kernel_rfl) (by kernel_rfl) (by kernel_rfl) (fun _ _ _ h => h) (by rfl) ?y5 ?r5
  case y5 => (intro w9q hSwq; clear hSwq; go_simp; with_reducible rfl)
  try simp only [Act.put, List.setIfInBounds_toArray, List.set_cons_zero, List.set_cons_succ]
  refine rest_got (i := 5) (v := ?v6) rfl (by kernel_rfl) (by kernel_rfl) (by kernel_rfl) (fun _ _ _ h => h) (by rfl) ?y6 ?r6
  case y6 => (intro w9q hSwq; clear hSwq; go_simp; with_reducible rfl)
  try simp only [Act.put, List.setIfInBounds_toArray, List.set_cons_zero, List.set_cons_succ]
  refine rest_got (i := 6) (v := ?v7) rfl (by kernel_rfl) (by kernel_rfl) (by kernel_rfl) (fun _ _ _ h => h) (by rfl) ?y7 ?r7
  case y7 => (intro w9q hSwq; clear hSwq; go_simp; with_reducible rfl)
  try simp only [Act.put, List.setIfInBounds_toArray, List.set_cons_zero, List.set_cons_succ]
  refine rest_got (i := 7) (v := ?v8) rfl (by kernel_rfl) (by kernel_rfl) (by kernel_rfl) (fun _ _ _ h => h) (by rfl) ?y8 ?r8
  case y8 => (intro w9q hSwq; clear hSwq; go_simp; with_reducible rfl)
  try simp only [Act.put, List.setIfInBounds_toArray, List.set_cons_zero, List.set_cons_succ]
  refine rest_got (i := 8) (v := ?v9) rfl (by kernel_rfl) (by kernel_rfl) (by kernel_rfl) (fun _ _ _ h => h) (by rfl) ?y9 ?r9
  case y9 => (intro w9q hSwq; clear hSwq; go_simp; with_reducible rfl)
  try simp only [Act.put, List.setIfInBounds_toArray, List.set_cons_zero, List.set_cons_succ]
  refine rest_got (i := 9) (v := ?v10) rfl (by kernel_rfl) (by kernel_rfl) (by kernel_rfl) (fun _ _ _ h => h) (by rfl) ?y10 ?r10
  case y10 => (intro w9q hSwq; clear hSwq; go_simp; with_reducible rfl)
  try simp only [Act.put, List.setIfInBounds_toArray, List.set_cons_zero, List.set_cons_succ]
  refine rest_got (i := 10) (v := ?v11) rfl (by kernel_rfl) (by kernel_rfl) (by kernel_rfl) (fun _ _ _ h => h) (by rfl) ?y11 ?r11
  case y11 => (intro w9q hSwq; clear hSwq; go_simp; with_reducible rfl)
  try simp only [Act.put, List.setIfInBounds_toArray, List.set_cons_zero, List.set_cons_succ]
  refine rest_got (i := 11) (v := ?v12) rfl (by kernel_rfl) (by kernel_rfl) (by kernel_rfl) (fun _ _ _ h => h) (by rfl) ?y12 ?r12
  case y12 => (intro w9q hSwq; clear hSwq; go_simp; with_reducible rfl)
  try simp only [Act.put, List.setIfInBounds_toArray, List.set_cons_zero, List.set_cons_succ]
  refine rest_got (i := 12) (v := ?v13) rfl (by kernel_rfl) (by kernel_rfl) (by kernel_rfl) (fun _ _ _ h => h) (by rfl) ?y13 ?r13
  case y13 => (intro w9q hSwq; clear hSwq; go_simp; with_reducible rfl)
  try simp only [Act.put, List.setIfInBounds_toArray, List.set_cons_zero, List.set_cons_succ]
  refine rest_got (i := 13) (v := ?v14) rfl (by kernel_rfl) (by kernel_rfl) (by kernel_rfl) (fun _ _ _ h => h) (by rfl) ?y14 ?r14
  case y14 => (intro w9q hSwq; clear hSwq; go_simp; with_reducible rfl)
  try simp only [Act.put, List.setIfInBounds_toArray, List.set_cons_zero, List.set_cons_succ]
  refine rest_got (i := 14) (v := ?v15) rfl (by kernel_rfl) (by kernel_rfl) (by kernel_rfl) (fun _ _ _ h => h) (by rfl) ?y15 ?r15
  case y15 => (intro w9q hSwq; clear hSwq; go_simp; with_reducible rfl)
  try simp only [Act.put, List.setIfInBounds_toArray, List.set_cons_zero, List.set_cons_succ]
  refine rest_got (i := 15) (v := ?v16) rfl (by kernel_rfl) (by kernel_rfl) (by kernel_rfl) (fun _ _ _ h => h) (by rfl) ?y16 ?r16
  case y16 => (intro w9q hSwq; clear hSwq; go_simp; with_reducible rfl)
  try simp only [Act.put, List.setIfInBounds_toArray, List.set_cons_zero, List.set_cons_succ]
  refine rest_got (i := 16) (v := ?v17) rfl (by kernel_rfl) (by kernel_rfl) (by kernel_rfl) (fun _ _ _ h => h) (by rfl) ?y17 ?r17
  case y17 => (intro w9q hSwq; clear hSwq; go_simp; with_reducible rfl)
  try simp only [Act.put, List.setIfInBounds_toArray, List.set_cons_zero, List.set_cons_succ]
  refine rest_got (i := 17) (v := ?v18) rfl (by kernel_rfl) (by kernel_rfl) (by kernel_rfl) (fun _ _ _ h => h) (by rfl) ?y18 ?r18
  case y18 => (intro w9q hSwq; clear hSwq; go_simp; with_reducible rfl)
  try simp only [Act.put, List.setIfInBounds_toArray, List.set_cons_zero, List.set_cons_succ]
  refine rest_got (i := 18) (v := ?v19) rfl (by kernel_rfl) (by kernel_rfl) (by kernel_rfl) (fun _ _ _ h => h) (by rfl) ?y19 ?r19
  case y19 => (intro w9q hSwq; clear hSwq; go_simp; with_reducible rfl)
  try simp only [Act.put, List.setIfInBounds_toArray, List.set_cons_zero, List.set_cons_succ]
  refine rest_got (i := 19) (v := ?v20) rfl (by kernel_rfl) (by kernel_rfl) (by kernel_rfl) (fun _ _ _ h => h) (by rfl) ?y20 ?r20
  case y20 => (intro w9q hSwq; clear hSwq; go_simp; with_reducible rfl)
  try simp only [Act.put, List.setIfInBounds_toArray, List.set_cons_zero, List.set_cons_succ]
  refine rest_got (i := 20) (v := ?v21) rfl (by kernel_rfl) (by kernel_rfl) (by kernel_rfl) (fun _ _ _ h => h) (by rfl) ?y21 ?r21
  case y21 => ((intro w9' hm9'; obtain ⟨hc0', hc1', hc2', hc3', hc4', hc5', hc6'⟩ := L0.out w9' hm9'; clear hm9'; go_simp; with_reducible rfl))
  try simp only [Act.put, List.setIfInBounds_toArray, List.set_cons_zero, List.set_cons_succ]
  refine rest_got (i := 21) (v := ?v22) rfl (by kernel_rfl) (by kernel_rfl) (by kernel_rfl) (fun _ _ _ h => h) (by rfl) ?y22 ?r22
  case y22 => ((intro w9' hm9'; obtain ⟨hc0', hc1', hc2', hc3', hc4', hc5', hc6'⟩ := LX.out w9' hm9'; clear hm9'; go_simp; with_reducible rfl))
  try simp only [Act.put, List.setIfInBounds_toArray, List.set_cons_zero, List.set_cons_succ]
  refine rest_one (i := 22) (by kernel_rfl) rfl (by rfl) ?_
  go_wp2_with fail
  refine HC.out.mono ?_
  rintro e w18 ⟨rfl, mm⟩
  go_wp2_with fail
  refine back_to (K1 := F16) mm.nil (fun _ h _ => h) ?_
  have H18 := Lib.hid (H17.out.still mm)
  clear mm HC HQ LX LY L0 N0 N1 H17
  have HQ : Hid (∀ w', Mod F16 w18 w' → _) := Lib.hid (fun w' m => H18.out.stable F16 w18 w' H18.out.at' m (fun k hk => (H18.out.off k hk).2))
  have LX : Hid (∀ w', Mod F16 w18 w' → _) := Lib.hid (fun w' m => boxX (HQ.out w' m).1.1.1.2)
  have LY : Hid (∀ w', Mod F16 w18 w' → _) := Lib.hid (fun w' m => boxY (HQ.out w' m).1.1.2)
  have L0 : Hid (∀ w', Mod F16 w18 w' → _) := Lib.hid (fun w' m => (LL.out w' (HQ.out w' m).1.2).1)
  have N0 : Hid (∀ w', Mod F16 w18 w' → _) := Lib.hid (fun w' m => (LM.out w' (HQ.out w' m).2).1.1)
  have N1 : Hid (∀ w', Mod F16 w18 w' → _) := Lib.hid (fun w' m => (LM.out w' (HQ.out w' m).2).2.1)
  have HC := Lib.hid (sameRef_any (cY, ko15, kc15) (cY, some ⟨ky, 0, none⟩, 1) w18 cY_wf cY_wf (LM.out w18 H18.out.at'.2).1.2 H18.out.at'.1.1.2.2.1)
  rw [decide_eq_true ((same_iff cY cY).2 rfl)] at HC
  refine rest_got (i := 23) (v := ?v23) rfl (by kernel_rfl) (by kernel_rfl) (by kernel_rfl) (fun _ _ _ h => h) (by rfl) ?y23 ?r23
  case y23 => (intro w9q hSwq; clear hSwq; go_simp; with_reducible rfl)
  try simp only [Act.put, List.setIfInBounds_toArray, List.set_cons_zero, List.set_cons_succ]
  refine rest_got (i := 24) (v := ?v24) rfl (by kernel_rfl) (by kernel_rfl) (by kernel_rfl) (fun _ _ _ h => h) (by rfl) ?y24 ?r24
  case y24 => (intro w9q hSwq; clear hSwq; go_simp; with_reducible rfl)
  try simp only [Act.put, List.setIfInBounds_toArray, List.set_cons_zero, List.set_cons_succ]
  refine rest_got (i := 25) (v := ?v25) rfl (by kernel_rfl) (by kernel_rfl) (by kernel_rfl) (fun _ _ _ h => h) (by rfl) ?y25 ?r25
  case y25 => (intro w9q hSwq; clear hSwq; go_simp; with_reducible rfl)
  try simp only [Act.put, List.setIfInBounds_toArray, List.set_cons_zero, List.set_cons_succ]
  refine rest_got (i := 26) (v := ?v26) rfl (by kernel_rfl) (by kernel_rfl) (by kernel_rfl) (fun _ _ _ h => h) (by rfl) ?y26 ?r26
  case y26 => (intro w9q hSwq; clear hSwq; go_simp; with_reducible rfl)
  try simp only [Act.put, List.setIfInBounds_toArray, List.set_cons_zero, List.set_cons_succ]
  refine rest_got (i := 27) (v := ?v27) rfl (by kernel_rfl) (by kernel_rfl) (by kernel_rfl) (fun _ _ _ h => h) (by rfl) ?y27 ?r27
  case y27 => (intro w9q hSwq; clear hSwq; go_simp; with_reducible rfl)
  try simp only [Act.put, List.setIfInBounds_toArray, List.set_cons_zero, List.set_cons_succ]
  refine rest_got (i := 28) (v := ?v28) rfl (by kernel_rfl) (by kernel_rfl) (by kernel_rfl) (fun _ _ _ h => h) (by rfl) ?y28 ?r28
  case y28 => (intro w9q hSwq; clear hSwq; go_simp; with_reducible rfl)
  try simp only [Act.put, List.setIfInBounds_toArray, List.set_cons_zero, List.set_cons_succ]
  refine rest_got (i := 29) (v := ?v29) rfl (by kernel_rfl) (by kernel_rfl) (by kernel_rfl) (fun _ _ _ h => h) (by rfl) ?y29 ?r29
  case y29 => (intro w9q hSwq; clear hSwq; go_simp; with_reducible rfl)
  try simp only [Act.put, List.setIfInBounds_toArray, List.set_cons_zero, List.set_cons_succ]
  refine rest_got (i := 30) (v := ?v30) rfl (by kernel_rfl) (by kernel_rfl) (by kernel_rfl) (fun _ _ _ h => h) (by rfl) ?y30 ?r30
  case y30 => (intro w9q hSwq; clear hSwq; go_simp; with_reducible rfl)
  try simp only [Act.put, List.setIfInBounds_toArray, List.set_cons_zero, List.set_cons_succ]
  refine rest_got (i := 31) (v := ?v31) rfl (by kernel_rfl) (by kernel_rfl) (by kernel_rfl) (fun _ _ _ h => h) (by rfl) ?y31 ?r31
  case y31 => (intro w9q hSwq; clear hSwq; go_simp; with_reducible rfl)
  try simp only [Act.put, List.setIfInBounds_toArray, List.set_cons_zero, List.set_cons_succ]
  refine rest_got (i := 32) (v := ?v32) rfl (by kernel_rfl) (by kernel_rfl) (by kernel_rfl) (fun _ _ _ h => h) (by rfl) ?y32 ?r32
  case y32 => (intro w9q hSwq; clear hSwq; go_simp; with_reducible rfl)
  try simp only [Act.put, List.setIfInBounds_toArray, List.set_cons_zero, List.set_cons_succ]
  refine rest_got (i := 33) (v := ?v33) rfl (by kernel_rfl) (by kernel_rfl) (by kernel_rfl) (fun _ _ _ h => h) (by rfl) ?y33 ?r33
  case y33 => (intro w9q hSwq; clear hSwq; go_simp; with_reducible rfl)
  try simp only [Act.put, List.setIfInBounds_toArray, List.set_cons_zero, List.set_cons_succ]
  refine rest_got (i := 34) (v := ?v34) rfl (by kernel_rfl) (by kernel_rfl) (by kernel_rfl) (fun _ _ _ h => h) (by rfl) ?y34 ?r34
  case y34 => (intro w9q hSwq; clear hSwq; go_simp; with_reducible rfl)
  try simp only [Act.put, List.setIfInBounds_toArray, List.set_cons_zero, List.set_cons_succ]
  refine rest_got (i := 35) (v := ?v35) rfl (by kernel_rfl) (by kernel_rfl) (by kernel_rfl) (fun _ _ _ h => h) (by rfl) ?y35 ?r35
  case y35 => (intro w9q hSwq; clear hSwq; go_simp; with_reducible rfl)
  try simp only [Act.put, List.setIfInBounds_toArray, List.set_cons_zero, List.set_cons_succ]
  refine rest_got (i := 36) (v := ?v36) rfl (by kernel_rfl) (by kernel_rfl) (by kernel_rfl) (fun _ _ _ h => h) (by rfl) ?y36 ?r36
  case y36 => (intro w9q hSwq; clear hSwq; go_simp; with_reducible rfl)
  try simp only [Act.put, List.setIfInBounds_toArray, List.set_cons_zero, List.set_cons_succ]
  refine rest_got (i := 37) (v := ?v37) rfl (by kernel_rfl) (by kernel_rfl) (by kernel_rfl) (fun _ _ _ h => h) (by rfl) ?y37 ?r37
  case y37 => (intro w9q hSwq; clear hSwq; go_simp; with_reducible rfl)
  try simp only [Act.put, List.setIfInBounds_toArray, List.set_cons_zero, List.set_cons_succ]
  refine rest_got (i := 38) (v := ?v38) rfl (by kernel_rfl) (by kernel_rfl) (by kernel_rfl) (fun _ _ _ h => h) (by rfl) ?y38 ?r38
  case y38 => (intro w9q hSwq; clear hSwq; go_simp; with_reducible rfl)
  try simp only [Act.put, List.setIfInBounds_toArray, List.set_cons_zero, List.set_cons_succ]
  refine rest_got (i := 39) (v := ?v39) rfl (by kernel_rfl) (by kernel_rfl) (by kernel_rfl) (fun _ _ _ h => h) (by rfl) ?y39 ?r39
  case y39 => (intro w9q hSwq; clear hSwq; go_simp; with_reducible rfl)
  try simp only [Act.put, List.setIfInBounds_toArray, List.set_cons_zero, List.set_cons_succ]
  refine rest_got (i := 40) (v := ?v40) rfl (by kernel_rfl) (by kernel_rfl) (by kernel_rfl) (fun _ _ _ h => h) (by rfl) ?y40 ?r40
  case y40 => (intro w9q hSwq; clear hSwq; go_simp; with_reducible rfl)
  try simp only [Act.put, List.setIfInBounds_toArray, List.set_cons_zero, List.set_cons_succ]
  refine rest_got (i := 41) (v := ?v41) rfl (by kernel_rfl) (by kernel_rfl) (by kernel_rfl) (fun _ _ _ h => h) (by rfl) ?y41 ?r41
  case y41 => (intro w9q hSwq; clear hSwq; go_simp; with_reducible rfl)
  try simp only [Act.put, List.setIfInBounds_toArray, List.set_cons_zero, List.set_cons_succ]
  refine rest_got (i := 42) (v := ?v42) rfl (by kernel_rfl) (by kernel_rfl) (by kernel_rfl) (fun _ _ _ h => h) (by rfl) ?y42 ?r42
  case y42 => (intro w9q hSwq; clear hSwq; go_simp; with_reducible rfl)
  try simp only [Act.put, List.setIfInBounds_toArray, List.set_cons_zero, List.set_cons_succ]
  refine rest_got (i := 43) (v := ?v43) rfl (by kernel_rfl) (by kernel_rfl) (by kernel_rfl) (fun _ _ _ h => h) (by rfl) ?y43 ?r43
  case y43 => ((intro w9' hm9'; obtain ⟨hc0', hc1', hc2', hc3', hc4', hc5', hc6'⟩ := N0.out w9' hm9'; clear hm9'; go_simp; with_reducible rfl))
  try simp only [Act.put, List.setIfInBounds_toArray, List.set_cons_zero, List.set_cons_succ]
  refine rest_got (i := 44) (v := ?v44) rfl (by kernel_rfl) (by kernel_rfl) (by kernel_rfl) (fun _ _ _ h => h) (by rfl) ?y44 ?r44
  case y44 => ((intro w9' hm9'; obtain ⟨hc0', hc1', hc2', hc3', hc4', hc5', hc6'⟩ := LY.out w9' hm9'; clear hm9'; go_simp; with_reducible rfl))
  try simp only [Act.put, List.setIfInBounds_toArray, List.set_cons_zero, List.set_cons_succ]
  refine rest_one (i := 45) (by kernel_rfl) rfl (by rfl) ?_
  go_wp2_with fail
  refine HC.out.mono ?_
  rintro e w19 ⟨rfl, mm⟩
  go_wp2_with fail
  refine back_to (K1 := F16) mm.nil (fun _ h _ => h) ?_
  have H19 := Lib.hid (H18.out.still mm)
  clear mm HC HQ LX LY L0 N0 N1 H18
  have HQ : Hid (∀ w', Mod F16 w19 w' → _) := Lib.hid (fun w' m => H19.out.stable F16 w19 w' H19.out.at' m (fun k hk => (H19.out.off k hk).2))
  have LX : Hid (∀ w', Mod F16 w19 w' → _) := Lib.hid (fun w' m => boxX (HQ.out w' m).1.1.1.2)
  have LY : Hid (∀ w', Mod F16 w19 w' → _) := Lib.hid (fun w' m => boxY (HQ.out w' m).1.1.2)
  have L0 : Hid (∀ w', Mod F16 w19 w' → _) := Lib.hid (fun w' m => (LL.out w' (HQ.out w' m).1.2).1)
  have N0 : Hid (∀ w', Mod F16 w19 w' → _) := Lib.hid (fun w' m => (LM.out w' (HQ.out w' m).2).1.1)
  have N1 : Hid (∀ w', Mod F16 w19 w' → _) := Lib.hid (fun w' m => (LM.out w' (HQ.out w' m).2).2.1)
  have HC := Lib.hid (sameRef_any (cX, kp15, kd15) (cX, some ⟨kx, 0, none⟩, 1) w19 cX_wf cX_wf (LM.out w19 H19.out.at'.2).2.2 H19.out.at'.1.1.1.2.2.1)
  rw [decide_eq_true ((same_iff cX cX).2 rfl)] at HC
  refine rest_got (i := 46) (v := ?v45) rfl (by kernel_rfl) (by kernel_rfl) (by kernel_rfl) (fun _ _ _ h => h) (by rfl) ?y45 ?r45
  case y45 => (intro w9q hSwq; clear hSwq; go_simp; with_reducible rfl)
  try simp only [Act.put, List.setIfInBounds_toArray, List.set_cons_zero, List.set_cons_succ]
  refine rest_got (i := 47) (v := ?v46) rfl (by kernel_rfl) (by kernel_rfl) (by kernel_rfl) (fun _ _ _ h => h) (by rfl) ?y46 ?r46
  case y46 => (intro w9q hSwq; clear hSwq; go_simp; with_reducible rfl)
  try simp only [Act.put, List.setIfInBounds_toArray, List.set_cons_zero, List.set_cons_succ]
  refine rest_got (i := 48) (v := ?v47) rfl (by kernel_rfl) (by kernel_rfl) (by kernel_rfl) (fun _ _ _ h => h) (by rfl) ?y47 ?r47
  case y47 => (intro w9q hSwq; clear hSwq; go_simp; with_reducible rfl)
  try simp only [Act.put, List.setIfInBounds_toArray, List.set_cons_zero, List.set_cons_succ]
  refine rest_got (i := 49) (v := ?v48) rfl (by kernel_rfl) (by kernel_rfl) (by kernel_rfl) (fun _ _ _ h => h) (by rfl) ?y48 ?r48
  case y48 => (intro w9q hSwq; clear hSwq; go_simp; with_reducible rfl)
  try simp only [Act.put, List.setIfInBounds_toArray, List.set_cons_zero, List.set_cons_succ]
  refine rest_got (i := 50) (v := ?v49) rfl (by kernel_rfl) (by kernel_rfl) (by kernel_rfl) (fun _ _ _ h => h) (by rfl) ?y49 ?r49
  case y49 => ((intro w9' hm9'; obtain ⟨hc0', hc1', hc2', hc3', hc4', hc5', hc6'⟩ := N1.out w9' hm9'; clear hm9'; go_simp; with_reducible rfl))
  try simp only [Act.put, List.setIfInBounds_toArray, List.set_cons_zero, List.set_cons_succ]
  refine rest_got (i := 51) (v := ?v50) rfl (by kernel_rfl) (by kernel_rfl) (by kernel_rfl) (fun _ _ _ h => h) (by rfl) ?y50 ?r50
  case y50 => ((intro w9' hm9'; obtain ⟨hc0', hc1', hc2', hc3', hc4', hc5', hc6'⟩ := LX.out w9' hm9'; clear hm9'; go_simp; with_reducible rfl))
  try simp only [Act.put, List.setIfInBounds_toArray, List.set_cons_zero, List.set_cons_succ]
  refine rest_one (i := 52) (by kernel_rfl) rfl (by rfl) ?_
  go_wp2_with fail
  refine HC.out.mono ?_
  rintro e w20 ⟨rfl, mm⟩
  go_wp2_with fail
  refine back_to (K1 := F16) mm.nil (fun _ h _ => h) ?_
  have H20 := Lib.hid (H19.out.still mm)
  clear mm HC HQ LX LY L0 N0 N1 H19
  have HQ : Hid (∀ w', Mod F16 w20 w' → _) := Lib.hid (fun w' m => H20.out.stable F16 w20 w' H20.out.at' m (fun k hk => (H20.out.off k hk).2))
  have LX : Hid (∀ w', Mod F16 w20 w' → _) := Lib.hid (fun w' m => boxX (HQ.out w' m).1.1.1.2)
  have LY : Hid (∀ w', Mod F16 w20 w' → _) := Lib.hid (fun w' m => boxY (HQ.out w' m).1.1.2)
  have L0 : Hid (∀ w', Mod F16 w20 w' → _) := Lib.hid (fun w' m => (LL.out w' (HQ.out w' m).1.2).1)
  have N0 : Hid (∀ w', Mod F16 w20 w' → _) := Lib.hid (fun w' m => (LM.out w' (HQ.out w' m).2).1.1)
  have N1 : Hid (∀ w', Mod F16 w20 w' → _) := Lib.hid (fun w' m => (LM.out w' (HQ.out w' m).2).2.1)
  have HC : Hid (Calls Tryd.prog 14 #[.pointer (some ⟨b, 0, none⟩), cmdV (cX, some ⟨kx, 0, none⟩, 1), .int .i64 4] w20 (PutW w20 b F16 2 3 3 ord14 [] cX 4)) := Lib.hid (bput_any b F16 2 3 3 ord14 [] (cX, some ⟨kx, 0, none⟩, 1) 4 w20 H20.out.bat (by omega) (by omega) (by omega) cX_wf H20.out.at'.1.1.1.2.2.1 (fun _ k hk => (H20.out.off k (List.mem_append_left _ (List.mem_append_left _ (List.mem_append_left _ (List.mem_append_right _ (List.mem_cons_of_mem _ hk)))))).2) H20.out.at'.1.1.1.1)
  refine rest_got (i := 53) (v := ?v51) rfl (by kernel_rfl) (by kernel_rfl) (by kernel_rfl) (fun _ _ _ h => h) (by rfl) ?y51 ?r51
  case y51 => (intro w9q hSwq; clear hSwq; go_simp; with_reducible rfl)
  try simp only [Act.put, List.setIfInBounds_toArray, List.set_cons_zero, List.set_cons_succ]
  refine rest_got (i := 54) (v := ?v52) rfl (by kernel_rfl) (by kernel_rfl) (by kernel_rfl) (fun _ _ _ h => h) (by rfl) ?y52 ?r52
  case y52 => (intro w9q hSwq; clear hSwq; go_simp; with_reducible rfl)
  try simp only [Act.put, List.setIfInBounds_toArray, List.set_cons_zero, List.set_cons_succ]
  refine rest_got (i := 55) (v := ?v53) rfl (by kernel_rfl) (by kernel_rfl) (by kernel_rfl) (fun _ _ _ h => h) (by rfl) ?y53 ?r53
  case y53 => (intro w9q hSwq; clear hSwq; go_simp; with_reducible rfl)
  try simp only [Act.put, List.setIfInBounds_toArray, List.set_cons_zero, List.set_cons_succ]
  refine rest_got (i := 56) (v := ?v54) rfl (by kernel_rfl) (by kernel_rfl) (by kernel_rfl) (fun _ _ _ h => h) (by rfl) ?y54 ?r54
  case y54 => (intro w9q hSwq; clear hSwq; go_simp; with_reducible rfl)
  try simp only [Act.put, List.setIfInBounds_toArray, List.set_cons_zero, List.set_cons_succ]
  refine rest_got (i := 57) (v := ?v55) rfl (by kernel_rfl) (by kernel_rfl) (by kernel_rfl) (fun _ _ _ h => h) (by rfl) ?y55 ?r55
  case y55 => (intro w9q hSwq; clear hSwq; go_simp; with_reducible rfl)
  try simp only [Act.put, List.setIfInBounds_toArray, List.set_cons_zero, List.set_cons_succ]
  refine rest_got (i := 58) (v := ?v56) rfl (by kernel_rfl) (by kernel_rfl) (by kernel_rfl) (fun _ _ _ h => h) (by rfl) ?y56 ?r56
  case y56 => (intro w9q hSwq; clear hSwq; go_simp; with_reducible rfl)
  try simp only [Act.put, List.setIfInBounds_toArray, List.set_cons_zero, List.set_cons_succ]
  refine rest_got (i := 59) (v := ?v57) rfl (by kernel_rfl) (by kernel_rfl) (by kernel_rfl) (fun _ _ _ h => h) (by rfl) ?y57 ?r57
  case y57 => (intro w9q hSwq; clear hSwq; go_simp; with_reducible rfl)
  try simp only [Act.put, List.setIfInBounds_toArray, List.set_cons_zero, List.set_cons_succ]
  refine rest_got (i := 60) (v := ?v58) rfl (by kernel_rfl) (by kernel_rfl) (by kernel_rfl) (fun _ _ _ h => h) (by rfl) ?y58 ?r58
  case y58 => ((intro w9' hm9'; obtain ⟨hc0', hc1', hc2', hc3', hc4', hc5', hc6'⟩ := LX.out w9' hm9'; clear hm9'; go_simp; with_reducible rfl))
  try simp only [Act.put, List.setIfInBounds_toArray, List.set_cons_zero, List.set_cons_succ]
  refine rest_one (i := 61) (by kernel_rfl) rfl (by rfl) ?_
  go_wp2_with fail
  refine HC.out.mono ?_
  rintro e w21 ⟨he, ord21, oa21, ob21, mv⟩
  rw [pe4] at he
  subst he
  go_wp2_with fail
  obtain ⟨F21, h1, h2, h3⟩ := mv
  refine back_to (K1 := []) h2 (by simp) ?_
  have M21 := Lib.hid (H20.out.move h1 h2 h3).mod
  clear h1 h2 h3 HC HQ LX LY L0 N0 N1 H20
  refine rest_got (i := 62) (v := ?v59) rfl (by kernel_rfl) (by kernel_rfl) (by kernel_rfl) (fun _ _ _ h => h) (by rfl) ?y59 ?r59
  case y59 => (intro w9q hSwq; clear hSwq; go_simp; with_reducible rfl)
  try simp only [Act.put, List.setIfInBounds_toArray, List.set_cons_zero, List.set_cons_succ]
  refine rest_got (i := 63) (v := ?v60) rfl (by kernel_rfl) (by kernel_rfl) (by kernel_rfl) (fun _ _ _ h => h) (by rfl) ?y60 ?r60
  case y60 => (intro w9q hSwq; clear hSwq; go_simp; with_reducible rfl)
  try simp only [Act.put, List.setIfInBounds_toArray, List.set_cons_zero, List.set_cons_succ]
  refine rest_got (i := 64) (v := ?v61) rfl (by kernel_rfl) (by kernel_rfl) (by kernel_rfl) (fun _ _ _ h => h) (by rfl) ?y61 ?r61
  case y61 => (intro w9q hSwq; clear hSwq; go_simp; with_reducible rfl)
  try simp only [Act.put, List.setIfInBounds_toArray, List.set_cons_zero, List.set_cons_succ]
  refine rest_done (by kernel_rfl) ?_ _
  go_wp2_with fail
  go_ret
  exact ⟨rfl, M21.out⟩
end Go.Proofs.YtigamomoegpefaaDoor
