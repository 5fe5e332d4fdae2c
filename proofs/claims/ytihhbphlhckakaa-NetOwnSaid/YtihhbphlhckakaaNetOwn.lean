/- The walk of NetOwn. -/
import Derived.Test.YtihhbphlhckakaaNet11
namespace Go.Proofs.Ytihhbphlhckakaa
open Go Go.RowKit Go.Lib

theorem flip_all : ∀ x, x < 256 → ∀ r, r < 8 → ¬ bits .xor .u8 ((x : Nat) : Int) (2 ^ r % 256) = ((x : Nat) : Int) := by decide +kernel
theorem flip8_ne (x : UInt8) (r : Nat) (hr : r < 8) : flip8 x r ≠ x := by
  intro h
  have h1 := flip8_val x r
  rw [h] at h1
  exact flip_all x.toNat x.toNat_lt r hr h1.symm
theorem str_run {w : World} {ao : Option Addr} {c : Nat} {l : List UInt8} (h : Sees w ao l) : (convert 22 9 (.slice ao l.length c)).run Try.prog w = .ok (strV l) w :=
  run_string_of w _ _ _ Try.underlying22 Try.underlying5 Try.underlying9 ao c l h
theorem Mod.only {a b c : World} {S : List Nat} (h : Mod [] a b) (k : Mod S b c) (hs : ∀ j, j ∈ S → a.heap.size ≤ j) : Mod [] a c :=
  h.trans k (fun i hi hl => by have := hs i hi; omega)

set_option maxRecDepth 100000 in
set_option maxHeartbeats 8000000 in
theorem netOwn_any (bo : Option Addr) (len cap : Nat) (b : List UInt8) (bit : Int) (w : World) (hl : b.length = len) (hs : Sees w bo b) (hmx : bit ≤ 9223372036854775807) :
    Calls Try.prog 3 #[.slice bo len cap, .int .i64 bit] w fun e w' => e = .returned (.bool true) ∧ Mod [] w w' := by
  subst hl
  have HS := Lib.hid hs
  clear hs
  by_cases hbig : 100 < b.length
  · go_enter Try.func3, Try.ntmps3
    go_wp2_with fail
    refine (wakes18_any _).mono ?_
    rintro e w3 ⟨rfl, m3⟩
    have M3 := Lib.hid m3
    clear m3
    go_wp2
    go_ret
    exact ⟨rfl, M3.out⟩
  go_enter Try.func3, Try.ntmps3
  have e0 : OwnB (w.alloc (.cells #[] 5)) (some ⟨w.heap.size, 0, none⟩) 0 [] := Own.new (n := 0) (heap_alloc_new w (.cells #[] 5)) (.inl rfl) rfl (by unfold maxLen; omega)
  have E0 := Lib.hid e0
  have HS1 := Lib.hid (HS.out.mod0 (Mod.alloc [] w (.cells #[] 5)))
  clear e0
  go_wp2_with (first | (at_builtin; refine wpl_app8 (dst := some 21) _ _ (some ⟨w.heap.size, 0, none⟩) 0 0 [] rfl rfl E0.out _ _ _ b rfl rfl HS1.out (by omega) ?_) | fail)
  intro a1 c1 w1 o1 m1 s1
  have O1 := Lib.hid o1
  have M1 : Hid (Mod [] w w1) := (Mod.alloc [] w _).only m1 (fun j hj => by simp only [blk, List.mem_singleton] at hj; omega)
  have A1 : Hid (∀ j, j ∈ blk a1 → w.heap.size ≤ j ∧ j < w1.heap.size) := fun j hj => by
    refine ⟨?_, Own.lt o1 j hj⟩
    rcases s1.blk j hj with h | h
    · simp only [blk, List.mem_singleton] at h; omega
    · simp at h; omega
  clear o1 m1 s1 E0 HS1
  simp only [Nat.zero_add]
  go_wp2_with fail
  refine (new_any _).mono ?_
  rintro e w2 ⟨g, rfl, h2, m2, z2⟩
  have H2 := Lib.hid h2
  have O2 := Lib.hid (O1.out.mod0 m2)
  have M2 := Lib.hid m2
  have F2 : Hid (∀ j, j ∈ [g] → w1.heap.size ≤ j) := fun j hj => by simp at hj; subst hj; exact z2
  clear h2 m2 z2
  go_wp2_with fail
  refine (send_ok g _ _ 0 1 a1 b.length c1 b _ H2.out (by decide) rfl O2.out.sees (by omega) rfl rfl (by decide)).mono ?_
  rintro e w3 ⟨rfl, mv⟩
  obtain ⟨Fa, h3, m3, f3⟩ := mv.step M2.out F2.out
  have H3 : Hid (NetW w3 g Fa [(0, 1, b)]) := h3
  have M3 := Lib.hid m3
  have F3 := Lib.hid f3
  clear mv h3 m3 f3 H2 O2 M2 F2
  go_wp2_with fail
  refine (double_w g _ _ 0 _ H3.out (by simp) (by simp) (by simp; omega)).mono ?_
  rintro e w4 ⟨rfl, mv⟩
  obtain ⟨Fb, h4, m4, f4⟩ := mv.step M3.out F3.out
  have H4 : Hid (NetW w4 g Fb [(0, 1, b), (0, 1, b)]) := h4
  have M4 := Lib.hid m4
  have F4 := Lib.hid f4
  have O4 := Lib.hid (O1.out.mod0 m4)
  clear mv h4 m4 f4 H3 M3 F3 O1
  go_wp2_with fail
  go_loopw [7] (fun i wr => ∃ (k : Nat) (bs : List UInt8), k ≤ b.length ∧ i = .int .i64 (k : Int) ∧ bs.length = b.length ∧ OwnB wr a1 c1 bs ∧ Mod (blk a1) w4 wr) (fun i _ => b.length - (intOf i).toNat)
  case atStart => exact ⟨0, b, Nat.zero_le _, rfl, rfl, O4.out, Mod.refl _ _⟩
  case round =>
    obtain ⟨k, bs, hk, rfl, hbl, ho, hm⟩ := hrel
    have HM := Lib.hid hm
    by_cases hlt : k < b.length
    · obtain ⟨b1, hb1, p0, pf⟩ := ho.at' (j := k) (by omega)
      subst hb1
      have HO := Lib.hid ho
      obtain ⟨x8, hx8⟩ : ∃ x8, bs[k]'(by omega) = x8 := ⟨_, rfl⟩
      rw [hx8] at p0
      have hv : ∃ y8 : UInt8, ((y8.toNat : Nat) : Int) = IntKind.u8.wrap (((x8.toNat : Nat) : Int) + 1) := by
        refine ⟨UInt8.ofNat (IntKind.u8.wrap (((x8.toNat : Nat) : Int) + 1)).toNat, ?_⟩
        rw [UInt8.toNat_ofNat', IntKind.wrap_u8']
        omega
      obtain ⟨y8, hy8⟩ := hv
      have HY := Lib.hid hy8
      clear ho hm hx8 hy8
      go_wp2
      go_roundw
      case rel =>
        refine ⟨k + 1, bs.set k y8, by omega, by go_num, by simp [hbl], ?_, ?_⟩
        · have := HO.out.put k y8
          rw [HY.out] at this
          simpa [IntKind.wrap_u8'] using this
        · exact HM.out.trans' (Mod.setCell _ _ _ (by simp [blk]))
      case measure => simp [intOf]; omega
    · have hke : k = b.length := by omega
      subst hke
      have H5 := Lib.hid (H4.out.mod HM.out (fun j hj hj2 => by have := F4.out j hj; have := (A1.out j hj2).2; omega))
      have M5 : Hid (Mod [] w wr) := (M1.out.trans' M4.out).only HM.out (fun j hj => (A1.out j hj).1)
      have F5 : Hid (∀ j, j ∈ Fb → w.heap.size ≤ j) := fun j hj => Nat.le_trans M1.out.size (F4.out j hj)
      clear ho hm HM H4 M4 F4 O4 A1 M1
      go_wp2_with fail
      refine (letters_w g _ _ _ H5.out (by simp) (by simp; omega)).mono ?_
      rintro e w9 ⟨a9, c9, l9, rfl, hl9, lt9, fr9, m9⟩
      have hlen9 : l9.length = 2 := by have := congrArg List.length hl9; simpa using this
      obtain ⟨u0, u1, rfl⟩ : ∃ u0 u1, l9 = [u0, u1] := by
        match l9, hlen9 with
        | [u0, u1], _ => exact ⟨u0, u1, rfl⟩
      obtain ⟨b9, rfl, -, -, p0, q0⟩ := lt9.at' (j := 0) (by simp)
      simp only [List.map_cons, List.map_nil, List.cons.injEq, and_true] at hl9
      obtain ⟨e0, e1⟩ := hl9
      obtain ⟨f0, t0, s0, k0, y0⟩ := u0
      simp only [stripL, Prod.mk.injEq] at e0
      obtain ⟨rfl, rfl, rfl⟩ := e0
      have HNB : Hid (b9 ∉ blk s0) := fun hm => by
        have hnd := lt9.2.2
        rw [List.nodup_append] at hnd
        exact hnd.2.2 b9 (by simp [blk]) b9 (List.mem_append.2 (.inl hm)) rfl
      have M9 := Lib.hid (M5.out.trans' m9)
      have H9 := Lib.hid (H5.out.mod0 m9)
      have P0 : Hid (w9.cell? ⟨b9, 0 * 3 + 2, none⟩ = some (.slice s0 y0.length k0)) := p0
      have Q0 : Hid (OwnB w9 s0 k0 y0) := q0
      have S0 : Hid (∀ j, j ∈ blk s0 → wr.heap.size ≤ j) := fun j hj => fr9 j (List.mem_append.2 (.inr (List.mem_append.2 (.inl hj))))
      clear lt9 fr9 m9 p0 q0 hlen9 e1
      have HL5 := Lib.hid H5.out.lt
      have hb100 : y0.length ≤ 100 := by omega
      go_wp2_with fail
      go_loopw [9] (fun i wq => ∃ (k : Nat) (bs : List UInt8), k ≤ y0.length ∧ i = .int .i64 (k : Int) ∧ bs.length = y0.length ∧ OwnB wq s0 k0 bs ∧ Mod (blk s0) w9 wq) (fun i _ => y0.length - (intOf i).toNat)
      case atStart => exact ⟨0, y0, Nat.zero_le _, rfl, rfl, Q0.out, Mod.refl _ _⟩
      case round =>
        obtain ⟨k, bs, hk, rfl, hbl, ho, hm⟩ := hrel
        have HM := Lib.hid hm
        have P1 := hm.cell P0.out HNB.out
        simp only [Nat.zero_mul, Nat.zero_add] at P1
        by_cases hlt : k < y0.length
        · obtain ⟨b1, hb1, p0, pf⟩ := ho.at' (j := k) (by omega)
          subst hb1
          have HO := Lib.hid ho
          obtain ⟨x8, hx8⟩ : ∃ x8, bs[k]'(by omega) = x8 := ⟨_, rfl⟩
          rw [hx8] at p0
          have hv : ∃ y8 : UInt8, ((y8.toNat : Nat) : Int) = IntKind.u8.wrap (((x8.toNat : Nat) : Int) + 1) := by
            refine ⟨UInt8.ofNat (IntKind.u8.wrap (((x8.toNat : Nat) : Int) + 1)).toNat, ?_⟩
            rw [UInt8.toNat_ofNat', IntKind.wrap_u8']
            omega
          obtain ⟨y8, hy8⟩ := hv
          have HY := Lib.hid hy8
          clear ho hm hx8 hy8
          go_wp2
          go_roundw
          case rel =>
            refine ⟨k + 1, bs.set k y8, by omega, by go_num, by simp [hbl], ?_, ?_⟩
            · have := HO.out.put k y8
              rw [HY.out] at this
              simpa [IntKind.wrap_u8'] using this
            · exact HM.out.trans' (Mod.setCell _ _ _ (by simp [blk]))
          case measure => simp [intOf]; omega
        · have hke : k = y0.length := by omega
          subst hke
          have H10 := Lib.hid (H9.out.mod HM.out (fun j hj hj2 => by have := HL5.out j hj; have := S0.out j hj2; omega))
          have M10 : Hid (Mod [] w wr) := M9.out.only HM.out (fun j hj => by have := S0.out j hj; have := M5.out.size; omega)
          clear ho hm HM H9 M9 Q0 S0 P0 HNB hbl H5 M5 HL5
          by_cases hb0 : bit < 0
          · have hb0' : ¬ 0 ≤ bit := by omega
            go_wp2_with fail
            refine (spoil_badw g _ _ 1 bit _ H10.out (by simp) (.inl hb0) (by omega)).mono ?_
            rintro e w12 ⟨rfl, m12⟩
            have H12 := Lib.hid (H10.out.mod0 m12)
            have M12 := Lib.hid (M10.out.trans' m12)
            have F12 := F5
            clear m12 H10 M10
            go_wp2_with fail
            refine (take_w g _ _ 0 _ H12.out (by simp) (by simp)).mono ?_
            rintro e w13 ⟨a13, c13, rfl, o13, Fe, h13, m13, f13, d13⟩
            have H13 : Hid (NetW w13 g Fe [(0, 1, y0)]) := h13
            have M13 : Hid (Mod [] w w13) := M12.out.only m13 (fun i hi => F12.out i hi)
            have F13 : Hid (∀ j, j ∈ Fe → w.heap.size ≤ j) := fun j hj => (f13 j hj).elim (F12.out j) (fun h => Nat.le_trans M12.out.size h)
            have O13 : Hid (OwnB w13 a13 c13 y0) := o13
            have D13 := Lib.hid d13
            clear h13 m13 f13 o13 d13 H12 M12 F12
            simp only [List.getElem_cons_zero]
            go_wp2_with fail
            have ma := Mod.alloc [] w13 (.cells #[.int .i64 0, .int .i64 1, .slice a13 y0.length c13] 29)
            have hx := heap_alloc_new w13 (.cells #[.int .i64 0, .int .i64 1, .slice a13 y0.length c13] 29)
            refine (take_w g _ _ 0 _ (H13.out.mod0 ma) (by simp) (by simp)).mono ?_
            rintro e w14 ⟨a14, c14, rfl, o14, Fg, h14, m14, f14, d14⟩
            have hn13 : w13.heap.size ∉ Fe := fun hm => by have := H13.out.lt _ hm; omega
            have X14 := m14.get hx hn13
            have M14 : Hid (Mod [] w w14) := (M13.out.trans' ma).only m14 (fun i hi => F13.out i hi)
            have O14 : Hid (OwnB w14 a14 c14 (y0)) := o14
            have O14x := Lib.hid ((O13.out.mod0 ma).mod m14 (fun j hj => (D13.out j hj).2))
            have X0 := cell_of_block (i := 2) X14
            have hlx := lt_of_block X14
            clear h14 m14 f14 o14 d14 ma hx hn13 H13 M13 F13 O13 D13 X14
            simp only [List.getElem_cons_zero, List.length_nil]
            have mb := Mod.alloc [] w14 (.cells #[.int .i64 0, .int .i64 1, .slice a14 y0.length c14] 29)
            have O15 := Lib.hid (O14.out.mod0 mb)
            have O15x := Lib.hid (O14x.out.mod0 mb)
            have M15 := Lib.hid (M14.out.trans' mb)
            have S15 := Lib.hid (HS.out.mod0 M15.out)
            clear mb O14 O14x
            have cv1 := str_run (c := c13) O15x.out.sees
            have cv2 := str_run (c := cap) S15.out
            have cv3 := str_run (c := c14) O15.out.sees
            try rw [List.length_nil] at cv3
            go_wp2_with fail
            refine (wakes18_any _).mono ?_
            rintro e w16 ⟨rfl, m16⟩
            have M16 := Lib.hid (M15.out.trans' m16)
            clear m16
            go_wp2
            go_ret
            exact ⟨rfl, M16.out⟩
          · obtain ⟨m, rfl⟩ := Int.eq_ofNat_of_zero_le (Int.not_lt.1 hb0)
            have hw : wrap64 ((m : Int) / 8) = (m : Int) / 8 := by unfold wrap64; omega
            have hw2 : IntKind.i64.wrap ((m : Int) / 8) = (m : Int) / 8 := IntWalk.i64_in _ (by omega)
            by_cases hmj : m / 8 < y0.length
            · have hmi : (m : Int) / 8 < (y0.length : Int) := by omega
              clear hb0
              go_wp2_with fail
              refine (spoil_w g _ _ 1 m (m / 8) (m % 8) _ H10.out (by simp) rfl rfl (by simpa using hmj) (by simp; omega)).mono ?_
              rintro e w12 ⟨rfl, mv⟩
              obtain ⟨Fz, h12, m12, f12⟩ := mv.step M10.out F5.out
              have H12 : Hid (NetW w12 g Fz [(0, 1, y0), (0, 1, y0.set (m / 8) (flip8 (y0[m / 8]'hmj) (m % 8)))]) := h12
              have M12 := Lib.hid m12
              have F12 := Lib.hid f12
              clear mv h12 m12 f12 H10 M10
              have hnes : ¬ y0.set (m / 8) (flip8 (y0[m / 8]'hmj) (m % 8)) = y0 := fun h => by
                have h1 := congrArg (fun l => l[m / 8]?) h
                simp only [List.getElem?_set_self hmj, List.getElem?_eq_getElem hmj, Option.some.injEq] at h1
                exact flip8_ne _ _ (Nat.mod_lt _ (by omega)) h1
              obtain ⟨yf, hyf⟩ : ∃ yf, y0.set (m / 8) (flip8 (y0[m / 8]'hmj) (m % 8)) = yf := ⟨_, rfl⟩
              rw [hyf] at H12 hnes
              have hyl : yf.length = y0.length := by rw [← hyf]; simp
              clear hyf
              have hnb : (yf == y0) = false := by simpa using hnes
              go_wp2_with fail
              refine (take_w g _ _ 0 _ H12.out (by simp) (by simp)).mono ?_
              rintro e w13 ⟨a13, c13, rfl, o13, Fe, h13, m13, f13, d13⟩
              have H13 : Hid (NetW w13 g Fe [(0, 1, yf)]) := h13
              have M13 : Hid (Mod [] w w13) := M12.out.only m13 (fun i hi => F12.out i hi)
              have F13 : Hid (∀ j, j ∈ Fe → w.heap.size ≤ j) := fun j hj => (f13 j hj).elim (F12.out j) (fun h => Nat.le_trans M12.out.size h)
              have O13 : Hid (OwnB w13 a13 c13 y0) := o13
              have D13 := Lib.hid d13
              clear h13 m13 f13 o13 d13 H12 M12 F12
              simp only [List.getElem_cons_zero]
              go_wp2_with fail
              have ma := Mod.alloc [] w13 (.cells #[.int .i64 0, .int .i64 1, .slice a13 y0.length c13] 29)
              have hx := heap_alloc_new w13 (.cells #[.int .i64 0, .int .i64 1, .slice a13 y0.length c13] 29)
              refine (take_w g _ _ 0 _ (H13.out.mod0 ma) (by simp) (by simp)).mono ?_
              rintro e w14 ⟨a14, c14, rfl, o14, Fg, h14, m14, f14, d14⟩
              have hn13 : w13.heap.size ∉ Fe := fun hm => by have := H13.out.lt _ hm; omega
              have X14 := m14.get hx hn13
              have M14 : Hid (Mod [] w w14) := (M13.out.trans' ma).only m14 (fun i hi => F13.out i hi)
              have O14 : Hid (OwnB w14 a14 c14 (yf)) := o14
              have O14x := Lib.hid ((O13.out.mod0 ma).mod m14 (fun j hj => (D13.out j hj).2))
              have X0 := cell_of_block (i := 2) X14
              have hlx := lt_of_block X14
              clear h14 m14 f14 o14 d14 ma hx hn13 H13 M13 F13 O13 D13 X14
              simp only [List.getElem_cons_zero, hyl]
              have mb := Mod.alloc [] w14 (.cells #[.int .i64 0, .int .i64 1, .slice a14 y0.length c14] 29)
              have O15 := Lib.hid (O14.out.mod0 mb)
              have O15x := Lib.hid (O14x.out.mod0 mb)
              have M15 := Lib.hid (M14.out.trans' mb)
              have S15 := Lib.hid (HS.out.mod0 M15.out)
              clear mb O14 O14x
              have cv1 := str_run (c := c13) O15x.out.sees
              have cv2 := str_run (c := cap) S15.out
              have cv3 := str_run (c := c14) O15.out.sees
              try rw [hyl] at cv3
              go_wp2_with fail
              refine (wakes18_any _).mono ?_
              rintro e w16 ⟨rfl, m16⟩
              have M16 := Lib.hid (M15.out.trans' m16)
              clear m16
              go_wp2
              go_ret
              exact ⟨rfl, M16.out⟩
            · have hmi : decide ((m : Int) / 8 < (y0.length : Int)) = false := by simp; omega
              clear hb0
              go_wp2_with fail
              refine (spoil_badw g _ _ 1 (m : Int) _ H10.out (by simp) (.inr (by simp; omega)) (by omega)).mono ?_
              rintro e w12 ⟨rfl, m12⟩
              have H12 := Lib.hid (H10.out.mod0 m12)
              have M12 := Lib.hid (M10.out.trans' m12)
              have F12 := F5
              clear m12 H10 M10
              go_wp2_with fail
              refine (take_w g _ _ 0 _ H12.out (by simp) (by simp)).mono ?_
              rintro e w13 ⟨a13, c13, rfl, o13, Fe, h13, m13, f13, d13⟩
              have H13 : Hid (NetW w13 g Fe [(0, 1, y0)]) := h13
              have M13 : Hid (Mod [] w w13) := M12.out.only m13 (fun i hi => F12.out i hi)
              have F13 : Hid (∀ j, j ∈ Fe → w.heap.size ≤ j) := fun j hj => (f13 j hj).elim (F12.out j) (fun h => Nat.le_trans M12.out.size h)
              have O13 : Hid (OwnB w13 a13 c13 y0) := o13
              have D13 := Lib.hid d13
              clear h13 m13 f13 o13 d13 H12 M12 F12
              simp only [List.getElem_cons_zero]
              go_wp2_with fail
              have ma := Mod.alloc [] w13 (.cells #[.int .i64 0, .int .i64 1, .slice a13 y0.length c13] 29)
              have hx := heap_alloc_new w13 (.cells #[.int .i64 0, .int .i64 1, .slice a13 y0.length c13] 29)
              refine (take_w g _ _ 0 _ (H13.out.mod0 ma) (by simp) (by simp)).mono ?_
              rintro e w14 ⟨a14, c14, rfl, o14, Fg, h14, m14, f14, d14⟩
              have hn13 : w13.heap.size ∉ Fe := fun hm => by have := H13.out.lt _ hm; omega
              have X14 := m14.get hx hn13
              have M14 : Hid (Mod [] w w14) := (M13.out.trans' ma).only m14 (fun i hi => F13.out i hi)
              have O14 : Hid (OwnB w14 a14 c14 (y0)) := o14
              have O14x := Lib.hid ((O13.out.mod0 ma).mod m14 (fun j hj => (D13.out j hj).2))
              have X0 := cell_of_block (i := 2) X14
              have hlx := lt_of_block X14
              clear h14 m14 f14 o14 d14 ma hx hn13 H13 M13 F13 O13 D13 X14
              simp only [List.getElem_cons_zero, List.length_nil]
              have mb := Mod.alloc [] w14 (.cells #[.int .i64 0, .int .i64 1, .slice a14 y0.length c14] 29)
              have O15 := Lib.hid (O14.out.mod0 mb)
              have O15x := Lib.hid (O14x.out.mod0 mb)
              have M15 := Lib.hid (M14.out.trans' mb)
              have S15 := Lib.hid (HS.out.mod0 M15.out)
              clear mb O14 O14x
              have cv1 := str_run (c := c13) O15x.out.sees
              have cv2 := str_run (c := cap) S15.out
              have cv3 := str_run (c := c14) O15.out.sees
              try rw [List.length_nil] at cv3
              go_wp2_with fail
              refine (wakes18_any _).mono ?_
              rintro e w16 ⟨rfl, m16⟩
              have M16 := Lib.hid (M15.out.trans' m16)
              clear m16
              go_wp2
              go_ret
              exact ⟨rfl, M16.out⟩
end Go.Proofs.Ytihhbphlhckakaa
