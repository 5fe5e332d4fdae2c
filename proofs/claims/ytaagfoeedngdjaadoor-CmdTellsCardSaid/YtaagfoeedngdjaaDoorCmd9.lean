/- The walks of the reference's batch, and of the comparison of two rows. -/
import Derived.Test.YtaagfoeedngdjaaDoorCmd8
import Derived.Test.YtaagfoeedngdjaaDoorCmd5
namespace Go.Proofs.YtaagfoeedngdjaaDoor
open Go Go.RowKit Go.Lib

set_option maxRecDepth 100000 in
set_option maxHeartbeats 4000000 in
theorem refBatch_any (ao : Option Addr) (len cap : Nat) (l : List Cm) (w : World) (hl : l.length = len) (hs : SeesC w ao l) (hlen : len ≤ 100) (hsm : ∀ c ∈ l, Small c.1) :
    Calls Tryd.prog 19 #[.slice ao len cap] w (BatchW w l) := by
  subst hl
  by_cases h8 : 8 < l.length
  · have hno : ¬ BatchOk l := fun h => by have := h.1; omega
    go_enter Tryd.func19, Tryd.ntmps19
    go_wp2
    go_ret2
    exact BatchW.bad hno (Mod.refl _ _)
  have HS := Lib.hid hs
  have HZ := Lib.hid hsm
  clear hs hsm
  have hl11 := (enc7_length l.length).2
  go_enter Tryd.func19, Tryd.ntmps19
  go_wp2_with fail
  refine (refUint_any l.length w (by omega)).mono ?_
  rintro e w2 ⟨a2, k2, c2, rfl, hk2, o2, m2, n2⟩
  have hb2 : k2 ≤ 11 := by omega
  have P2 := Lib.hid (PutR.mk (ao := none) o2 m2 n2)
  have HL2 := Lib.hid hk2
  clear hk2 o2 m2 n2
  go_wp2_with fail
  obtain ⟨ys, hys⟩ : ∃ ys, enc7 l.length = ys := ⟨_, rfl⟩
  rw [hys] at P2 HL2
  have HY := Lib.hid hys
  clear hys
  go_loopw [4, 5] (fun b i wr => ∃ (k : Nat) (a : Option Addr) (kk c : Nat), k ≤ l.length ∧ i = .int .i64 (k : Int) ∧ b = .slice a kk c ∧ (ys ++ (l.take k).flatMap (fun c => oneB c.1)).length = kk ∧ kk ≤ k2 + 60000 * k ∧ PutR w none a c (ys ++ (l.take k).flatMap (fun c => oneB c.1)) wr ∧ (∀ j, (h : j < l.length) → j < k → May l[j].1)) (fun _ i _ => l.length - (intOf i).toNat)
  case atStart => exact ⟨0, a2, k2, c2, Nat.zero_le _, rfl, rfl, by simpa using HL2.out, by omega, by simpa using P2.out, fun j _ h => absurd h (Nat.not_lt_zero _)⟩
  case round =>
    obtain ⟨k, a, kk, c, hk, rfl, rfl, hkk, hkb, hp, hall⟩ := hrel
    have P := Lib.hid hp
    have HL := Lib.hid hkk
    have HA := Lib.hid hall
    clear hp hkk P2 HL2 hall
    by_cases hlt : k < l.length
    · have HX := Lib.hid (ones_snoc l k hlt)
      have HNO : Hid (¬ May l[k].1 → ¬ BatchOk l) := Lib.hid (fun h hb => h (hb.2 _ (List.getElem_mem hlt)))
      have hz := HZ.out _ (List.getElem_mem hlt)
      have hln := oneB_len _ hz
      obtain ⟨b, off, rfl, c0, c1, c2, c3, c4, c5, c6, ht, hf⟩ := (HS.out.mod0 P.out.mod) k hlt
      obtain ⟨⟨⟨client, seq, kind, keys, old, fresh, n⟩, kao, kcap⟩, hx⟩ : ∃ x, l[k] = x := ⟨_, rfl⟩
      rw [hx] at c0 c1 c2 c3 c4 c5 c6 ht hf HX hz hln HNO
      dsimp only at c0 c1 c2 c3 c4 c5 c6 ht hf HX hz hln HNO
      have HXX := Lib.hid hx
      have HP := Lib.hid (may_any (⟨client, seq, kind, keys, old, fresh, n⟩, kao, kcap) wr hf ht)
      have HT := Lib.hid ht
      have HF := Lib.hid hf
      have HZ2 := Lib.hid hz
      clear hx ht hf hz
      go_wp2_with fail
      refine HP.out.mono ?_
      rintro e w3 ⟨rfl, m3⟩
      replace c0 := m3.cell c0 List.not_mem_nil
      replace c1 := m3.cell c1 List.not_mem_nil
      replace c2 := m3.cell c2 List.not_mem_nil
      replace c3 := m3.cell c3 List.not_mem_nil
      replace c4 := m3.cell c4 List.not_mem_nil
      replace c5 := m3.cell c5 List.not_mem_nil
      replace c6 := m3.cell c6 List.not_mem_nil
      have P3 := Lib.hid (P.out.still m3)
      have HP := Lib.hid (one_any (⟨client, seq, kind, keys, old, fresh, n⟩, kao, kcap) w3 HF.out HZ2.out (HT.out.mod0 m3))
      clear m3
      by_cases hok : May ⟨client, seq, kind, keys, old, fresh, n⟩
      · rw [decide_eq_true hok]
        have HO := Lib.hid hok
        clear hok
        go_wp2_with fail
        refine HP.out.mono ?_
        rintro e w4 ⟨a4, k4, c4', rfl, hk4, o4, m4, n4⟩
        have P4 := Lib.hid (P3.out.still m4)
        have R4 := Lib.hid o4
        have hb4 : k4 ≤ 60000 := by rw [← hk4]; exact hln
        have HK4 := Lib.hid hk4
        have hE : ys ++ (l.take (k + 1)).flatMap (fun c => oneB c.1) = ys ++ (l.take k).flatMap (fun c => oneB c.1) ++ oneB ⟨client, seq, kind, keys, old, fresh, n⟩ := by rw [HX.out, List.append_assoc]
        have HE := Lib.hid hE
        clear hk4 o4 m4 n4 HP hE P3
        go_wp2_with (at_builtin; refine wpl_app8 (dst := some 31) _ _ a kk c _ rfl HL.out P4.out.own a4 k4 c4' _ rfl HK4.out R4.out.sees (by omega) ?_; intro a5 c5' w5 o5 m5 n5; have P5 := Lib.hid (P4.out.step o5 m5 n5); have HL5 := Lib.hid (len_app HL.out HK4.out); clear o5 m5 n5)
        rw [← HE.out] at P5 HL5
        go_roundw
        case rel =>
          refine ⟨k + 1, a5, kk + k4, c5', by omega, by go_num, rfl, HL5.out, by omega, P5.out, fun j hj hjk => ?_⟩
          by_cases he : j = k
          · subst he; rw [HXX.out]; exact HO.out
          · exact HA.out j hj (by omega)
        case measure => simp [intOf]; omega
      · rw [decide_eq_false hok]
        have hno := HNO.out hok
        clear hok HP
        go_wp2_with fail
        go_ret2
        exact BatchW.bad hno P3.out.mod
    · have hke : k = l.length := by omega
      subst hke
      have HO : Hid (batchR l = (batchB l, 0)) := Lib.hid (if_pos ⟨by omega, fun c hc => by obtain ⟨j, hj, rfl⟩ := List.getElem_of_mem hc; exact HA.out j hj hj⟩)
      go_wp2
      go_ret2
      rw [List.take_length] at P HL
      have hE : (batchR l).1 = ys ++ l.flatMap (fun c => oneB c.1) := by rw [HO.out, ← HY.out]; rfl
      exact ⟨a, kk, c, by rw [HO.out]; rfl, by rw [hE]; exact HL.out, by rw [hE]; exact P.out.own, P.out.mod, P.out.new⟩
end Go.Proofs.YtaagfoeedngdjaaDoor
