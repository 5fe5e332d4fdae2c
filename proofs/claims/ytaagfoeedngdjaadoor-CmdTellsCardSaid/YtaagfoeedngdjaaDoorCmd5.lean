/- The walk of the reference's bytes of a command. -/
import Derived.Test.YtaagfoeedngdjaaDoorCmd4
namespace Go.Proofs.YtaagfoeedngdjaaDoor
open Go Go.RowKit Go.Lib

theorem len_app {xs ys : List UInt8} {n m : Nat} (h1 : xs.length = n) (h2 : ys.length = m) : (xs ++ ys).length = n + m := by rw [List.length_append, h1, h2]

set_option maxRecDepth 100000 in
set_option maxHeartbeats 4000000 in
theorem one_any (c : Cm) (w : World) (hw : Wf c.1) (hsm : Small c.1) (hk : SeesT w c.2.1 c.1.keys) :
    Calls Tryd.prog 21 #[cmdV c] w (RetApp w none (oneB c.1)) := by
  obtain ⟨⟨client, seq, kind, keys, old, fresh, n⟩, kao, kcap⟩ := c
  obtain ⟨hw1, hw2, hw3, hw4, -, hw6, hw7, hw8, hw9⟩ := hw
  obtain ⟨s1, s2, s3, s4⟩ := hsm
  dsimp only at hw1 hw2 hw3 hw4 hw6 hw7 hw8 hw9 hk s1 s2 s3 s4
  obtain ⟨w1, hw1', M1, z1, q0, q1, q2, q3, q4, q5, q6⟩ := box_facts (⟨client, seq, kind, keys, old, fresh, n⟩, kao, kcap) w
  dsimp only at hw1' q0 q1 q2 q3 q4 q5 q6
  have HK := Lib.hid (hk.mod0 M1)
  have HC : Hid (∀ wr a c ys i v, PutR w1 none a c ys wr → w1.cell? ⟨w.heap.size, i, none⟩ = some v → wr.cell? ⟨w.heap.size, i, none⟩ = some v) := Lib.hid (fun wr a c ys i v h hc => h.mod.cell hc List.not_mem_nil)
  have HT : Hid (∀ wr a c ys, PutR w1 none a c ys wr → SeesT wr kao keys) := Lib.hid (fun wr a c ys h => HK.out.mod0 h.mod)
  have HE : Hid (∀ wr a c ys, PutR w1 none a c ys wr → ∀ e, (∃ n', e = Ending.returned (.slice a n' c) ∧ ys.length = n') → RetApp w none ys e wr) := Lib.hid (by
    rintro wr a c ys h e ⟨n', rfl, hn'⟩
    exact ⟨a, n', c, rfl, hn', h.own, M1.trans' h.mod, h.new.imp id (fun ⟨b, h1, h2, h3⟩ => ⟨b, h1, Nat.le_trans M1.size h2, h3⟩)⟩)
  have S2 := Lib.hid s2
  clear hk s2 HK
  show Calls Tryd.prog 21 #[.agg #[.int .u32 (client : Int), .int .u32 (seq : Int), .int .u8 (kind : Int), .slice kao keys.length kcap, .string old, .string fresh, .int .i64 n]] w (RetApp w none (oneB ⟨client, seq, kind, keys, old, fresh, n⟩))
  have l1 := (enc7_length client).2
  have l2 := (enc7_length seq).2
  have l3 := (enc7_length kind).2
  have l4 := (enc7_length keys.length).2
  have l5 := txB_len old
  have l6 := txB_len fresh
  have l7 := (enc7_length (zig n)).2
  go_enter Tryd.func21, Tryd.ntmps21
  go_wp2_with fail
  clear hw1'
  refine (refUint_any client w1 (by omega)).mono ?_
  rintro e w2 ⟨a2, k2, c2, rfl, hk2, o2, m2, n2⟩
  have P2 := Lib.hid (PutR.mk o2 m2 n2)
  have hb2 : k2 ≤ 11 := by rw [← hk2]; omega
  have HL2 := Lib.hid hk2
  have q1' := HC.out _ _ _ _ _ _ P2.out q1
  clear hk2 o2 m2 n2
  go_wp2_with fail
  refine (refUint_any seq w2 (by omega)).mono ?_
  rintro e v3 ⟨b3, j3, d3, rfl, hj3, r3, x3, y3⟩
  have R3 := Lib.hid r3
  have P3' := Lib.hid (P2.out.still x3)
  have hbj3 : j3 ≤ 11 := by rw [← hj3]; omega
  have HJ3 := Lib.hid hj3
  clear hj3 r3 x3 y3 P2
  go_wp2_with (at_builtin; refine wpl_app8 (dst := some 14) _ _ a2 (k2) c2 _ rfl HL2.out P3'.out.own b3 j3 d3 _ rfl HJ3.out R3.out.sees (by omega) ?_; intro a3 c3 w3 o3 m3 n3; have P3 := Lib.hid (P3'.out.step o3 m3 n3); have HL3 := Lib.hid (len_app HL2.out HJ3.out); have q2' := HC.out _ _ _ _ _ _ P3.out q2; clear o3 m3 n3)
  clear P3' R3 HJ3 HL2
  go_wp2_with fail
  refine (refUint_any kind w3 (by omega)).mono ?_
  rintro e v4 ⟨b4, j4, d4, rfl, hj4, r4, x4, y4⟩
  have R4 := Lib.hid r4
  have P4' := Lib.hid (P3.out.still x4)
  have hbj4 : j4 ≤ 11 := by rw [← hj4]; omega
  have HJ4 := Lib.hid hj4
  clear hj4 r4 x4 y4 P3
  go_wp2_with (at_builtin; refine wpl_app8 (dst := some 20) _ _ a3 (k2 + j3) c3 _ rfl HL3.out P4'.out.own b4 j4 d4 _ rfl HJ4.out R4.out.sees (by omega) ?_; intro a4 c4 w4 o4 m4 n4; have P4 := Lib.hid (P4'.out.step o4 m4 n4); have HL4 := Lib.hid (len_app HL3.out HJ4.out); have q3' := HC.out _ _ _ _ _ _ P4.out q3; clear o4 m4 n4)
  clear P4' R4 HJ4 HL3
  go_wp2_with fail
  refine (refUint_any keys.length w4 (by omega)).mono ?_
  rintro e v5 ⟨b5, j5, d5, rfl, hj5, r5, x5, y5⟩
  have R5 := Lib.hid r5
  have P5' := Lib.hid (P4.out.still x5)
  have hbj5 : j5 ≤ 11 := by rw [← hj5]; omega
  have HJ5 := Lib.hid hj5
  clear hj5 r5 x5 y5 P4
  go_wp2_with (at_builtin; refine wpl_app8 (dst := some 27) _ _ a4 (k2 + j3 + j4) c4 _ rfl HL4.out P5'.out.own b5 j5 d5 _ rfl HJ5.out R5.out.sees (by omega) ?_; intro a5 c5 w5 o5 m5 n5; have P5 := Lib.hid (P5'.out.step o5 m5 n5); have HL5 := Lib.hid (len_app HL4.out HJ5.out); have q3' := HC.out _ _ _ _ _ _ P5.out q3; clear o5 m5 n5)
  clear P5' R5 HJ5 HL4
  obtain ⟨k5, hk5⟩ : ∃ x, k2 + j3 + j4 + j5 = x := ⟨_, rfl⟩
  have hb5 : k5 ≤ 44 := by omega
  obtain ⟨ys, hys⟩ : ∃ ys, enc7 client ++ enc7 seq ++ enc7 kind ++ enc7 keys.length = ys := ⟨_, rfl⟩
  have HY := Lib.hid hys
  have P5' : Hid (PutR w1 none a5 c5 ys w5) := Lib.hid (hys ▸ P5.out)
  have HL5' : Hid (ys.length = k5) := Lib.hid (by rw [← hk5, ← hys]; exact HL5.out)
  clear P5 HL5 hys
  rw [hk5]
  clear hk5
  go_wp2_with fail
  go_loopw [3, 4] (fun b i wr => ∃ (k : Nat) (a : Option Addr) (kk c : Nat), k ≤ keys.length ∧ i = .int .i64 (k : Int) ∧ b = .slice a kk c ∧ (ys ++ keysB (keys.take k)).length = kk ∧ kk ≤ k5 + 511 * k ∧ PutR w1 none a c (ys ++ keysB (keys.take k)) wr) (fun _ i _ => keys.length - (intOf i).toNat)
  case atStart => exact ⟨0, a5, k5, c5, Nat.zero_le _, rfl, rfl, by simpa [keysB] using HL5'.out, by omega, by simpa [keysB] using P5'.out⟩
  case round =>
    obtain ⟨k, a6, k6, c6, hk, rfl, rfl, hkk, hkb, hp⟩ := hrel
    have P6 := Lib.hid hp
    have HL6 := Lib.hid hkk
    have q3' := HC.out _ _ _ _ _ _ hp q3
    clear hp hkk P5' HL5'
    by_cases hlt : k < keys.length
    · obtain ⟨b, off, rfl, p0⟩ := (HT.out _ _ _ _ P6.out) k hlt
      have hz := S2.out _ (List.getElem_mem hlt)
      have HS := Lib.hid (keysB_snoc keys k hlt)
      obtain ⟨t, ht⟩ : ∃ t, keys[k] = t := ⟨_, rfl⟩
      rw [ht] at p0 hz
      have HTT := Lib.hid ht
      have hl6 := txB_len t
      clear ht
      go_wp2_with fail
      refine (ptextref_any t wr (by omega)).mono ?_
      rintro e v7 ⟨b7, j7, d7, rfl, hj7, r7, x7, y7⟩
      have R7 := Lib.hid r7
      have P7' := Lib.hid (P6.out.still x7)
      have hbj7 : j7 ≤ 511 := by rw [← hj7]; omega
      have HJ7 := Lib.hid hj7
      clear hj7 r7 x7 y7 P6
      go_wp2_with (at_builtin; refine wpl_app8 (dst := some 42) _ _ a6 (k6) c6 _ rfl HL6.out P7'.out.own b7 j7 d7 _ rfl HJ7.out R7.out.sees (by omega) ?_; intro a7 c7 w7 o7 m7 n7; have P7 := Lib.hid (P7'.out.step o7 m7 n7); have HL7 := Lib.hid (len_app HL6.out HJ7.out); clear o7 m7 n7)
      clear P7' R7 HJ7 HL6
      have hE : ys ++ keysB (keys.take (k + 1)) = ys ++ keysB (keys.take k) ++ txB t := by rw [HS.out, HTT.out, List.append_assoc]
      go_roundw
      case rel => exact ⟨k + 1, a7, k6 + j7, c7, by omega, by go_num, rfl, by rw [hE]; exact HL7.out, by omega, by rw [hE]; exact P7.out⟩
      case measure => simp [intOf]; omega
    · have hke : k = keys.length := by omega
      subst hke
      have q4' := HC.out _ _ _ _ _ _ P6.out q4
      rw [List.take_length] at P6 HL6
      go_wp2_with fail
      refine (ptextref_any old wr (by omega)).mono ?_
      rintro e v7 ⟨b7, j7, d7, rfl, hj7, r7, x7, y7⟩
      have R7 := Lib.hid r7
      have P7' := Lib.hid (P6.out.still x7)
      have hbj7 : j7 ≤ 511 := by rw [← hj7]; omega
      have HJ7 := Lib.hid hj7
      clear hj7 r7 x7 y7 P6
      go_wp2_with (at_builtin; refine wpl_app8 (dst := some 47) _ _ a6 (k6) c6 _ rfl HL6.out P7'.out.own b7 j7 d7 _ rfl HJ7.out R7.out.sees (by omega) ?_; intro a7 c7 w7 o7 m7 n7; have P7 := Lib.hid (P7'.out.step o7 m7 n7); have HL7 := Lib.hid (len_app HL6.out HJ7.out); have q5' := HC.out _ _ _ _ _ _ P7.out q5; clear o7 m7 n7)
      clear P7' R7 HJ7 HL6
      go_wp2_with fail
      refine (ptextref_any fresh w7 (by omega)).mono ?_
      rintro e v8 ⟨b8, j8, d8, rfl, hj8, r8, x8, y8⟩
      have R8 := Lib.hid r8
      have P8' := Lib.hid (P7.out.still x8)
      have hbj8 : j8 ≤ 511 := by rw [← hj8]; omega
      have HJ8 := Lib.hid hj8
      clear hj8 r8 x8 y8 P7
      go_wp2_with (at_builtin; refine wpl_app8 (dst := some 52) _ _ a7 (k6 + j7) c7 _ rfl HL7.out P8'.out.own b8 j8 d8 _ rfl HJ8.out R8.out.sees (by omega) ?_; intro a8 c8 w8 o8 m8 n8; have P8 := Lib.hid (P8'.out.step o8 m8 n8); have HL8 := Lib.hid (len_app HL7.out HJ8.out); have q6' := HC.out _ _ _ _ _ _ P8.out q6; clear o8 m8 n8)
      clear P8' R8 HJ8 HL7
      go_wp2_with fail
      refine (refInt_any n w8 hw8 hw9).mono ?_
      rintro e v9 ⟨b9, j9, d9, rfl, hj9, r9, x9, y9⟩
      have R9 := Lib.hid r9
      have P9' := Lib.hid (P8.out.still x9)
      have hbj9 : j9 ≤ 11 := by rw [← hj9]; omega
      have HJ9 := Lib.hid hj9
      clear hj9 r9 x9 y9 P8
      go_wp2_with (at_builtin; refine wpl_app8 (dst := some 57) _ _ a8 (k6 + j7 + j8) c8 _ rfl HL8.out P9'.out.own b9 j9 d9 _ rfl HJ9.out R9.out.sees (by omega) ?_; intro a9 c9 w9 o9 m9 n9; have P9 := Lib.hid (P9'.out.step o9 m9 n9); have HL9 := Lib.hid (len_app HL8.out HJ9.out); clear o9 m9 n9)
      clear P9' R9 HJ9 HL8
      go_ret
      have hE : oneB ⟨client, seq, kind, keys, old, fresh, n⟩ = ys ++ keysB keys ++ txB old ++ txB fresh ++ enc7 (zig n) := by
        rw [← HY.out]; simp only [oneB, List.append_assoc]
      rw [hE]
      exact HE.out _ _ _ _ P9.out _ ⟨_, rfl, HL9.out⟩
end Go.Proofs.YtaagfoeedngdjaaDoor
