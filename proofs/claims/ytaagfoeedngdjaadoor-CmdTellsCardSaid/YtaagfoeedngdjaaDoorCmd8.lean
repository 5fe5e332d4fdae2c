/- The walks of a batch's bytes: whether one of the commands may not be. -/
import Derived.Test.YtaagfoeedngdjaaDoorCmd7
import Derived.Test.YtaagfoeedngdjaaDoorCmd3
namespace Go.Proofs.YtaagfoeedngdjaaDoor
open Go Go.RowKit Go.Lib

theorem SeesT.lt {w : World} {ao : Option Addr} {l : List ByteArray} (h : SeesT w ao l) (h0 : l ≠ []) : ∀ k, k ∈ blk ao → k < w.heap.size := by
  intro k hk
  obtain ⟨b, off, h1, h2⟩ := h 0 (List.length_pos_iff.2 h0)
  subst h1
  simp [blk] at hk
  subst hk
  exact World.block_lt_of_cell? w _ h2

set_option maxRecDepth 100000 in
set_option maxHeartbeats 1000000 in
theorem bad_any (c : Cm) (w : World) (hw : Wf c.1) (hk : SeesT w c.2.1 c.1.keys) (ht : Cnt w) :
    Calls Tryd.prog 24 #[cmdV c] w fun e w' => e = .returned (.bool (decide (¬ May c.1))) ∧ Mod [] w w' := by
  obtain ⟨⟨client, seq, kind, keys, old, fresh, n⟩, kao, kcap⟩ := c
  obtain ⟨w1, hw1', M1, z1, q0, q1, q2, q3, q4, q5, q6⟩ := box_facts (⟨client, seq, kind, keys, old, fresh, n⟩, kao, kcap) w
  dsimp only at hw1' q0 q1 q2 q3 q4 q5 q6
  have HC := Lib.hid (check_any (⟨client, seq, kind, keys, old, fresh, n⟩, kao, kcap) w1 hw (hk.mod0 M1) (ht.mod0 M1))
  show Calls Tryd.prog 24 #[.agg #[.int .u32 (client : Int), .int .u32 (seq : Int), .int .u8 (kind : Int), .slice kao keys.length kcap, .string old, .string fresh, .int .i64 n]] w fun e w' => e = .returned (.bool (decide (¬ May ⟨client, seq, kind, keys, old, fresh, n⟩))) ∧ Mod [] w w'
  clear hw hk ht
  have HM1 := Lib.hid M1
  clear M1
  go_enter Tryd.func24, Tryd.ntmps24
  go_wp2_with fail
  refine HC.out.mono ?_
  rintro e w2 ⟨rfl, m2⟩
  have HM2 := Lib.hid (HM1.out.trans' m2)
  clear m2 HC
  by_cases hm : May ⟨client, seq, kind, keys, old, fresh, n⟩
  · rw [if_pos hm]
    have hd : decide (¬ May ⟨client, seq, kind, keys, old, fresh, n⟩) = false := decide_eq_false (fun h => h hm)
    have HD := Lib.hid hd
    clear hd hm
    go_wp2_with fail
    go_ret
    exact ⟨by rw [HD.out]; rfl, HM2.out⟩
  · rw [if_neg hm]
    have hd : decide (¬ May ⟨client, seq, kind, keys, old, fresh, n⟩) = true := decide_eq_true hm
    have HD := Lib.hid hd
    clear hd hm
    go_wp2_with fail
    go_ret
    exact ⟨by rw [HD.out]; rfl, HM2.out⟩

/-- What the search for a command that may not be tells. -/
def IndexR (w : World) (l : List Cm) (e : Ending) (w' : World) : Prop := ∃ r : Int, e = .returned (.int .i64 r) ∧ (0 ≤ r ↔ ∃ c ∈ l, ¬ May c.1) ∧ Mod [] w w'
set_option maxRecDepth 100000 in
set_option maxHeartbeats 1000000 in
theorem indexC_any (ao : Option Addr) (len cap : Nat) (l : List Cm) (w : World) (hl : l.length = len) (hs : SeesC w ao l) (hlen : len ≤ 9223372036854775807) (ht : Cnt w) :
    Calls Tryd.prog 37 #[.slice ao len cap, .func (.func 24) #[] #[]] w (IndexR w l) := by
  subst hl
  have HS := Lib.hid hs
  have HT := Lib.hid ht
  clear hs ht
  go_enter Tryd.func37, Tryd.ntmps37
  go_wp2
  go_loopw [8] (fun i wr => ∃ k : Nat, k ≤ l.length ∧ i = .int .i64 (k : Int) ∧ (∀ j, (h : j < l.length) → j < k → May l[j].1) ∧ Mod [] w wr) (fun i _ => l.length - (intOf i).toNat)
  case atStart => exact ⟨0, Nat.zero_le _, rfl, fun j _ h => absurd h (Nat.not_lt_zero _), Mod.refl _ _⟩
  case round =>
    obtain ⟨k, hk, rfl, hall, hm⟩ := hrel
    have HA := Lib.hid hall
    have HM := Lib.hid hm
    clear hall hm
    by_cases hlt : k < l.length
    · have HX : Hid (∀ (hn : ¬ May l[k].1), ∃ c ∈ l, ¬ May c.1) := Lib.hid (fun hn => ⟨l[k], List.getElem_mem hlt, hn⟩)
      obtain ⟨b, off, rfl, c0, c1, c2, c3, c4, c5, c6, ht, hf⟩ := (HS.out.mod0 HM.out) k hlt
      obtain ⟨⟨⟨client, seq, kind, keys, old, fresh, n⟩, kao, kcap⟩, hx⟩ : ∃ x, l[k] = x := ⟨_, rfl⟩
      rw [hx] at c0 c1 c2 c3 c4 c5 c6 ht hf
      dsimp only at c0 c1 c2 c3 c4 c5 c6 ht hf
      have HXX := Lib.hid hx
      have HC := Lib.hid (bad_any (⟨client, seq, kind, keys, old, fresh, n⟩, kao, kcap) wr hf ht (HT.out.mod0 HM.out))
      clear hx ht hf
      go_wp2_with fail
      refine HC.out.mono ?_
      rintro e w1 ⟨rfl, m1⟩
      have HM1 := Lib.hid (HM.out.trans' m1)
      clear m1
      by_cases hok : May ⟨client, seq, kind, keys, old, fresh, n⟩
      · rw [decide_eq_false (fun h : ¬ May _ => h hok)]
        have HO := Lib.hid hok
        clear hok HC
        go_wp2_with fail
        go_roundw
        case rel =>
          refine ⟨k + 1, by omega, by go_num, fun j hj hjk => ?_, HM1.out⟩
          by_cases he : j = k
          · subst he; rw [HXX.out]; exact HO.out
          · exact HA.out j hj (by omega)
        case measure => simp [intOf]; omega
      · rw [decide_eq_true (p := ¬ May _) hok]
        have HE := Lib.hid (HX.out (by rw [HXX.out]; exact hok))
        clear hok HC
        go_wp2_with fail
        go_ret
        exact ⟨_, rfl, ⟨fun _ => HE.out, fun _ => by omega⟩, HM1.out⟩
    · have hke : k = l.length := by omega
      subst hke
      go_wp2
      go_ret
      refine ⟨-1, rfl, ⟨fun h => absurd h (by omega), fun ⟨t, ht, hno⟩ => ?_⟩, HM.out⟩
      obtain ⟨j, hj, rfl⟩ := List.getElem_of_mem ht
      exact absurd (HA.out j hj hj) hno
set_option maxRecDepth 100000 in
theorem containsC_any (ao : Option Addr) (len cap : Nat) (l : List Cm) (w : World) (hl : l.length = len) (hs : SeesC w ao l) (hlen : len ≤ 9223372036854775807) (ht : Cnt w) :
    Calls Tryd.prog 23 #[.slice ao len cap, .func (.func 24) #[] #[]] w fun e w' => e = .returned (.bool (decide (∃ c ∈ l, ¬ May c.1))) ∧ Mod [] w w' := by
  obtain ⟨mb, hmb⟩ : ∃ b, decide (∃ c ∈ l, ¬ May c.1) = b := ⟨_, rfl⟩
  rw [hmb]
  have HV := Lib.hid hmb
  clear hmb
  go_enter Tryd.func23, Tryd.ntmps23
  go_wp2_with fail
  refine (indexC_any ao len cap l w hl hs hlen ht).mono ?_
  rintro e w1 ⟨r, rfl, hr, hm⟩
  have HR := Lib.hid hr
  have HM := Lib.hid hm
  clear hr hm
  go_wp2_with fail
  go_ret
  refine ⟨?_, HM.out⟩
  rw [← HV.out]
  have : decide (0 ≤ r) = decide (∃ c ∈ l, ¬ May c.1) := Bool.eq_iff_iff.2 (by rw [decide_eq_true_iff, decide_eq_true_iff]; exact HR.out)
  exact congrArg (fun b => Ending.returned (.bool b)) this

/-- A batch's bytes. -/
def batchB (l : List Cm) : List UInt8 := enc7 l.length ++ l.flatMap (fun c => oneB c.1)
def BatchOk (l : List Cm) : Prop := l.length ≤ 8 ∧ ∀ c ∈ l, May c.1
instance (l : List Cm) : Decidable (BatchOk l) := inferInstanceAs (Decidable (_ ∧ _))
theorem oneB_len (c : Cd) (h : Small c) : (oneB c).length ≤ 60000 := by
  have l1 := (enc7_length c.client).2
  have l2 := (enc7_length c.seq).2
  have l3 := (enc7_length c.kind).2
  have l4 := (enc7_length c.keys.length).2
  have l5 := txB_len c.old
  have l6 := txB_len c.fresh
  have l7 := (enc7_length (zig c.n)).2
  have hk : ∀ k, k ≤ c.keys.length → (keysB (c.keys.take k)).length ≤ 511 * k := by
    intro k
    induction k with
    | zero => intro _; simp [keysB]
    | succ k ih =>
      intro hk
      rw [keysB_snoc c.keys k (by omega), List.length_append]
      have a := ih (by omega)
      have b := txB_len (c.keys[k]'(by omega))
      have d := h.key _ (List.getElem_mem (l := c.keys) (n := k) (by omega))
      omega
  have l8 := hk c.keys.length (Nat.le_refl _)
  rw [List.take_length] at l8
  have e1 := h.keys
  have e2 := h.old
  have e3 := h.fresh
  unfold oneB
  simp only [List.length_append]
  omega
theorem ones_snoc (l : List Cm) (k : Nat) (h : k < l.length) : (l.take (k + 1)).flatMap (fun c => oneB c.1) = (l.take k).flatMap (fun c => oneB c.1) ++ oneB l[k].1 := by
  rw [take_snoc l k h, List.flatMap_append]; simp
/-- What a batch's bytes are, and the error. -/
def batchR (l : List Cm) : List UInt8 × Int := if BatchOk l then (batchB l, 0) else ([], 1)
def BatchW (w : World) (l : List Cm) (e : Ending) (w' : World) : Prop :=
  ∃ a k c, e = .returned (.tuple #[.slice a k c, .int .i64 (batchR l).2]) ∧ (batchR l).1.length = k ∧ OwnB w' a c (batchR l).1 ∧ Mod [] w w' ∧ SameOrNew w w' none a
theorem BatchW.bad {w w' : World} {l : List Cm} (h : ¬ BatchOk l) (hm : Mod [] w w') : BatchW w l (.returned (.tuple #[.slice none 0 0, .int .i64 1])) w' := by
  refine ⟨none, 0, 0, ?_, ?_, ?_, hm, .inl rfl⟩ <;> rw [show batchR l = ([], 1) from if_neg h]
  · rfl
  · exact OwnB.nil _

set_option maxRecDepth 100000 in
set_option maxHeartbeats 4000000 in
theorem batch_any (ao : Option Addr) (len cap : Nat) (l : List Cm) (w : World) (hl : l.length = len) (hs : SeesC w ao l) (hlen : len ≤ 100) (hsm : ∀ c ∈ l, Small c.1) (ht : Cnt w) :
    Calls Tryd.prog 8 #[.slice ao len cap] w (BatchW w l) := by
  subst hl
  by_cases h8 : 8 < l.length
  · have hno : ¬ BatchOk l := fun h => by have := h.1; omega
    go_enter Tryd.func8, Tryd.ntmps8
    go_wp2
    go_ret2
    exact BatchW.bad hno (Mod.refl _ _)
  have HS := Lib.hid hs
  have HZ := Lib.hid hsm
  have HC := Lib.hid (containsC_any ao _ cap l w rfl hs (by omega) ht)
  clear hs hsm ht
  go_enter Tryd.func8, Tryd.ntmps8
  go_wp2_with fail
  refine HC.out.mono ?_
  rintro e w1 ⟨rfl, hm⟩
  have HM := Lib.hid hm
  clear hm HC
  by_cases hb : ∃ c ∈ l, ¬ May c.1
  · have hno : ¬ BatchOk l := fun h => by obtain ⟨c, h1, h2⟩ := hb; exact h2 (h.2 c h1)
    rw [decide_eq_true hb]
    clear hb
    go_wp2_with fail
    go_ret2
    exact BatchW.bad hno HM.out
  rw [decide_eq_false hb]
  have HO : Hid (batchR l = (batchB l, 0)) := Lib.hid (if_pos ⟨by omega, fun c hc => Decidable.byContradiction fun h => hb ⟨c, hc, h⟩⟩)
  clear hb
  go_wp2_with fail
  refine (vuint_any none 0 0 l.length [] w1 rfl (OwnB.nil _) (by omega) (by omega)).mono ?_
  rintro e w2 ⟨a2, k2, c2, rfl, hk2, o2, m2, n2⟩
  rw [List.nil_append] at hk2 o2
  have P2 := Lib.hid (PutR.mk (ao := none) o2 m2 n2)
  have hb2 : k2 ≤ 11 := by have := (enc7_length l.length).2; omega
  have HL2 := Lib.hid hk2
  have HS2 := Lib.hid (HS.out.mod0 HM.out)
  clear hk2 o2 m2 n2
  go_wp2_with fail
  obtain ⟨ys, hys⟩ : ∃ ys, enc7 l.length = ys := ⟨_, rfl⟩
  rw [hys] at P2 HL2
  have HY := Lib.hid hys
  clear hys HS
  go_loopw [4, 20] (fun b i wr => ∃ (k : Nat) (a : Option Addr) (kk c : Nat), k ≤ l.length ∧ i = .int .i64 (k : Int) ∧ b = .slice a kk c ∧ (ys ++ (l.take k).flatMap (fun c => oneB c.1)).length = kk ∧ kk ≤ k2 + 60000 * k ∧ PutR w1 none a c (ys ++ (l.take k).flatMap (fun c => oneB c.1)) wr) (fun _ i _ => l.length - (intOf i).toNat)
  case atStart => exact ⟨0, a2, k2, c2, Nat.zero_le _, rfl, rfl, by simpa using HL2.out, by omega, by simpa using P2.out⟩
  case round =>
    obtain ⟨k, a, kk, c, hk, rfl, rfl, hkk, hkb, hp⟩ := hrel
    have P := Lib.hid hp
    have HL := Lib.hid hkk
    clear hp hkk P2 HL2
    by_cases hlt : k < l.length
    · have HX := Lib.hid (ones_snoc l k hlt)
      have hz := HZ.out _ (List.getElem_mem hlt)
      obtain ⟨-, -, -, -, -, -, -, -, -, -, hkl, -⟩ := HS2.out k hlt
      have HLT := Lib.hid (hkl.lt)
      clear hkl
      obtain ⟨b, off, rfl, c0, c1, c2, c3, c4, c5, c6, ht, hf⟩ := (HS2.out.mod0 P.out.mod) k hlt
      obtain ⟨⟨⟨client, seq, kind, keys, old, fresh, n⟩, kao, kcap⟩, hx⟩ : ∃ x, l[k] = x := ⟨_, rfl⟩
      rw [hx] at c0 c1 c2 c3 c4 c5 c6 ht hf HX hz HLT
      dsimp only at c0 c1 c2 c3 c4 c5 c6 ht hf HX hz
      obtain ⟨w3, hw3', M3, z3, q0, q1, q2, q3, q4, q5, q6⟩ := box_facts (⟨client, seq, kind, keys, old, fresh, n⟩, kao, kcap) wr
      dsimp only at hw3' q0 q1 q2 q3 q4 q5 q6
      have P3 := Lib.hid (P.out.still M3)
      have hln := oneB_len _ hz
      have HP := Lib.hid (put_any a _ c _ (⟨client, seq, kind, keys, old, fresh, n⟩, kao, kcap) w3 HL.out P3.out.own (by omega) hf hz (ht.mod0 M3) (fun hne j hj hja => by
        have h1 : j < w1.heap.size := HLT.out hne j hj
        rcases P.out.new.blk j hja with h2 | h2
        · exact absurd h2 List.not_mem_nil
        · omega))
      clear hx ht hf hz M3
      go_wp2_with fail
      refine HP.out.mono ?_
      rintro e w4 ⟨a4, k4, c4', rfl, hk4, o4, m4, n4⟩
      have hE : ys ++ (l.take (k + 1)).flatMap (fun c => oneB c.1) = ys ++ (l.take k).flatMap (fun c => oneB c.1) ++ oneB ⟨client, seq, kind, keys, old, fresh, n⟩ := by rw [HX.out, List.append_assoc]
      rw [← hE] at hk4 o4
      have P4 := Lib.hid (P3.out.step o4 m4 n4)
      have hb4 : k4 ≤ k2 + 60000 * (k + 1) := by rw [← hk4, hE, List.length_append, HL.out]; omega
      have HL4 := Lib.hid hk4
      clear hk4 o4 m4 n4 hE HP
      go_wp2_with fail
      go_roundw
      case rel => exact ⟨k + 1, a4, k4, c4', by omega, by go_num, rfl, HL4.out, hb4, P4.out⟩
      case measure => simp [intOf]; omega
    · have hke : k = l.length := by omega
      subst hke
      go_wp2
      go_ret2
      rw [List.take_length] at P HL
      have hE : (batchR l).1 = ys ++ l.flatMap (fun c => oneB c.1) := by rw [HO.out, ← HY.out]; rfl
      exact ⟨a, kk, c, by rw [HO.out]; rfl, by rw [hE]; exact HL.out, by rw [hE]; exact P.out.own, HM.out.trans' P.out.mod, P.out.new.imp id (fun ⟨b, h1, h2, h3⟩ => ⟨b, h1, Nat.le_trans HM.out.size h2, h3⟩)⟩
end Go.Proofs.YtaagfoeedngdjaaDoor
