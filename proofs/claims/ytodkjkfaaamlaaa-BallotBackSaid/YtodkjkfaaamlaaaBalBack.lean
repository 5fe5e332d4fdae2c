/- The walk of BallotBack. -/
import Derived.Test.YtodkjkfaaamlaaaBalReads
namespace Go.Proofs.Ytodkjkfaaamlaaa
open Go Go.RowKit Go.Lib

theorem Own.cap_le {w : World} {e : TypeId} {sz : Nat} {ao : Option Addr} {n cap : Nat} {xs : List Value} (h : Own w e sz ao n cap xs) : cap ≤ maxLen := by
  rcases h.2 with ⟨_, _, rfl⟩ | ⟨g, cur, fz, _, _, _, _, h, _⟩
  · unfold maxLen; omega
  · exact h
def goodB (x : Int × Int) : Bool := decide (0 ≤ x.2 ∧ x.2 < 7)
def encB (x : Int × Int) : List UInt8 := enc7 x.1.toNat ++ enc7 x.2.toNat
def cellsB (l : List (Int × Int)) : List Value := l.flatMap (fun x => [.int .u64 x.1, .int .i64 x.2])
theorem cellsB_length (l : List (Int × Int)) : (cellsB l).length = l.length * 2 := by
  induction l with
  | nil => rfl
  | cons a r ih => simp only [cellsB, List.flatMap_cons, List.length_append, List.length_cons, List.length_nil] at *; omega
theorem encB_length (x : Int × Int) : (encB x).length ≤ 22 := by
  have h1 := (enc7_length x.1.toNat).2
  have h2 := (enc7_length x.2.toNat).2
  simp only [encB, List.length_append]; omega
theorem bytesB_length (l : List (Int × Int)) : (l.flatMap encB).length ≤ 22 * l.length := by
  induction l with
  | nil => simp
  | cons a r ih => have := encB_length a; simp only [List.flatMap_cons, List.length_append, List.length_cons]; omega
theorem infoBal : (Try.prog.info? 24).map (fun i => (i.zero, i.size, i.bytes)) = some (some (.agg #[.int .u64 0, .int .i64 0]), 2, 16) := by kernel_rfl
def OwnC (w : World) (ao : Option Addr) (cap : Nat) (l : List (Int × Int)) : Prop := Own w 24 2 ao l.length cap (cellsB l)
theorem OwnC.at' {w : World} {ao : Option Addr} {cap : Nat} {l : List (Int × Int)} (h : OwnC w ao cap l) {j : Nat} (hj : j < l.length) :
    ∃ g, ao = some ⟨g, 0, none⟩ ∧ w.cell? ⟨g, j * 2, none⟩ = some (.int .u64 l[j].1) ∧ w.cell? ⟨g, j * 2 + 1, none⟩ = some (.int .i64 l[j].2) := by
  have hc : ∀ (l : List (Int × Int)) (j : Nat) (hj : j < l.length), (cellsB l)[j * 2]? = some (.int .u64 l[j].1) ∧ (cellsB l)[j * 2 + 1]? = some (.int .i64 l[j].2) := by
    intro l
    induction l with
    | nil => intro j hj; exact absurd hj (by simp)
    | cons a r ih =>
      intro j hj
      cases j with
      | zero => exact ⟨rfl, rfl⟩
      | succ j =>
        have := ih j (by simpa using hj)
        have e : (j + 1) * 2 = j * 2 + 1 + 1 := by omega
        rw [e]
        exact this
  obtain ⟨h1, h2⟩ := hc l j hj
  obtain ⟨g, e1, e2, _⟩ := Own.cell h h1
  obtain ⟨g', e1', e2', _⟩ := Own.cell h h2
  rw [e1] at e1'
  cases e1'
  exact ⟨g, e1, e2, e2'⟩
theorem wpl_appC {w : World} {ops : Array Oper} {rest : List Oper} {a : Act} {Q : Exit → Act → World → Prop} {dst : Option Tmp} {ty : TypeId} {pos : String} {after : Array Edge} (s x : Operand)
    (ao : Option Addr) (n cap : Nat) (xs : List (Int × Int)) (hs : a.eval s = .slice ao n cap) (hn : xs.length = n) (hown : OwnC w ao cap xs)
    (g : Nat) (p : Int × Int) (hx : a.eval x = .slice (some ⟨g, 0, none⟩) 1 1) (h0 : w.cell? ⟨g, 0, none⟩ = some (.int .u64 p.1)) (h1 : w.cell? ⟨g, 1, none⟩ = some (.int .i64 p.2)) (hb : n ≤ 1000)
    (h : ∀ ao' cap' w', OwnC w' ao' cap' (xs ++ [p]) → Mod (blk ao) w w' → SameOrNew w w' ao ao' → wpList Try.prog ops Q rest (a.put dst (.slice ao' (n + 1) cap')) w') :
    wpList Try.prog ops Q (⟨dst, .call { callee := .builtin .append, args := #[s, x], argTypes := #[25, 25] }, ty, pos, after, none⟩ :: rest) a w := by
  obtain ⟨i0, hi, hz0, hz1, hz2⟩ := info_parts infoBal
  subst hn
  refine wpl_append w rfl s x 25 rfl 24 i0 _ 2 16 Try.underlying25 hi hz0 hz1 hz2 rfl (by decide) ao _ cap _ hs hown (some ⟨g, 0, none⟩) 1 1 [.int .u64 p.1, .int .i64 p.2] hx rfl ?_ ?_ (by unfold maxLen; omega) (by omega) ?_
  · intro j u hj
    match j, hj with
    | 0, hj => cases hj; exact ⟨_, rfl, by rw [Addr.add_lit]; exact h0⟩
    | 1, hj => cases hj; exact ⟨_, rfl, by rw [Addr.add_lit]; exact h1⟩
  · intro u hu
    simp only [List.mem_cons, List.not_mem_nil, or_false] at hu
    rcases hu with rfl | rfl <;> rfl
  · intro ao' cap' w' h1 h2 h3
    refine h ao' cap' w' ?_ h2 h3
    unfold OwnC
    rw [List.length_append]
    unfold cellsB
    rw [List.flatMap_append]
    exact h1
theorem takeB_put (x : Int × Int) (rest : List UInt8) (h0 : 0 ≤ x.1) (h1 : x.1 < 18446744073709551616) (hg : goodB x = true) : takeB 0 (encB x ++ rest) = (x.1.toNat, x.2.toNat, 0, 0, rest) := by
  simp only [goodB, decide_eq_true_eq] at hg
  unfold takeB encB
  rw [List.append_assoc, uintE_write _ _ (by omega)]
  dsimp only
  rw [uintE_write _ _ (by omega)]
  dsimp only
  rw [if_neg (by simp), if_neg (by omega)]

set_option maxRecDepth 100000 in
set_option maxHeartbeats 4000000 in
theorem ballotBack_any (ao : Option Addr) (len cap : Nat) (l : List (Int × Int)) (w : World) (hl : l.length = len) (hlen : len ≤ 9223372036854775807) (hs : SeesB w ao l) (hw : ∀ x ∈ l, 0 ≤ x.1 ∧ x.1 < 18446744073709551616) :
    Calls Try.prog 9 #[.slice ao len cap] w fun e w' => e = .returned (.bool true) ∧ Mod [] w w' := by
  subst hl
  have HS := Lib.hid hs
  have HW := Lib.hid hw
  clear hs hw
  by_cases hbig : 50 < l.length
  · go_enter Try.func9, Try.ntmps9
    go_wp2_with fail
    refine (wakes14_any _).mono ?_
    rintro e w3 ⟨rfl, m3⟩
    have M3 := Lib.hid m3
    clear m3
    go_wp2
    go_ret
    exact ⟨rfl, M3.out⟩
  go_enter Try.func9, Try.ntmps9
  go_wp2_with fail
  go_loopw [3, 4, 5] (fun b put i wr => ∃ (k : Nat) (a3 : Option Addr) (c3 : Nat) (a4 : Option Addr) (c4 : Nat), k ≤ l.length ∧ i = .int .i64 (k : Int) ∧
      b = .slice a3 (((l.take k).filter goodB).flatMap encB).length c3 ∧ put = .slice a4 ((l.take k).filter goodB).length c4 ∧
      OwnB wr a3 c3 (((l.take k).filter goodB).flatMap encB) ∧ OwnC wr a4 c4 ((l.take k).filter goodB) ∧ Mod [] w wr ∧
      (∀ j, j ∈ blk a3 → w.heap.size ≤ j ∧ j ∉ blk a4) ∧ (∀ j, j ∈ blk a4 → w.heap.size ≤ j)) (fun _ _ i _ => l.length - (intOf i).toNat)
  case atStart => exact ⟨0, none, 0, none, 0, Nat.zero_le _, rfl, rfl, rfl, OwnB.nil _, Own.nil0 _ _ _, Mod.refl _ _, by simp [blk], by simp [blk]⟩
  case round =>
    obtain ⟨k, a3, c3, a4, c4, hk, rfl, rfl, rfl, ho3, ho4, hm, hd3, hd4⟩ := hrel
    have M0 := Lib.hid hm
    by_cases hlt : k < l.length
    · obtain ⟨b, off, rfl, hc0, hc1⟩ := (HS.out.mod0 hm) k hlt
      have hwk := HW.out l[k] (List.getElem_mem hlt)
      have htk : l.take (k + 1) = l.take k ++ [l[k]] := take_snoc l k hlt
      have hfl : ((l.take k).filter goodB).length ≤ 50 := by
        have h1 := List.length_filter_le goodB (l.take k)
        have h2 : (l.take k).length ≤ k := by simp; omega
        omega
      have hbl := bytesB_length ((l.take k).filter goodB)
      have HT := Lib.hid htk
      obtain ⟨⟨lN, lR⟩, hlk⟩ : ∃ p, l[k] = p := ⟨_, rfl⟩
      rw [hlk] at hc0 hc1 hwk
      rw [hlk] at HT
      dsimp only at hc0 hc1 hwk
      obtain ⟨F, hF⟩ : ∃ F, (l.take k).filter goodB = F := ⟨_, rfl⟩
      obtain ⟨B, hB⟩ : ∃ B, F.flatMap encB = B := ⟨_, rfl⟩
      rw [hF] at ho3 ho4 hfl hbl ⊢
      rw [hB] at ho3 hbl ⊢
      have H3 := Lib.hid ho3
      have H4 := Lib.hid ho4
      have D := Lib.hid (And.intro hd3 hd4)
      have hbw : b < w.heap.size := by
        obtain ⟨b', off', e1, e2, _⟩ := HS.out k hlt
        cases e1
        exact World.block_lt_of_cell? w _ e2
      by_cases hg : goodB (lN, lR) = true
      · have HF : Hid ((l.take (k + 1)).filter goodB = F ++ [(lN, lR)]) := by show _ = _; rw [HT.out, List.filter_append, hF]; simp [hg]
        simp only [goodB, decide_eq_true_eq] at hg
        obtain ⟨n, rfl⟩ := Int.eq_ofNat_of_zero_le hwk.1
        obtain ⟨r, rfl⟩ := Int.eq_ofNat_of_zero_le hg.1
        have HB : Hid ((F ++ [((n : Int), (r : Int))]).flatMap encB = B ++ enc7 n ++ enc7 r) := by show _ = _; rw [List.flatMap_append, hB]; simp [encB]
        have hn2 : n < 18446744073709551616 := by omega
        have hr2 : r < 9223372036854775808 := by omega
        have hB2 : B.length ≤ 140737488354000 := by omega
        clear ho3 ho4 hd3 hd4 hm HT hlk hF htk hB hwk hbl
        go_wp2_with fail
        refine (put_any a3 B.length c3 n r B _ rfl H3.out hB2 hn2 hr2).mono ?_
        rintro e w5 ⟨a5, n5, c5, rfl, hn5, o5, m5, s5⟩
        subst hn5
        have hc5 := m5.cell hc0 (fun h => by have := (D.out.1 _ h).1; dsimp only at this; omega)
        have hc6 := m5.cell hc1 (fun h => by have := (D.out.1 _ h).1; dsimp only at this; omega)
        have d3 : ∀ j, j ∈ blk a5 → w.heap.size ≤ j ∧ j ∉ blk a4 := fun j hj => by
          rcases s5.blk j hj with h | h
          · exact D.out.1 j h
          · exact ⟨Nat.le_trans M0.out.size h, fun h4 => by have := Own.lt H4.out j h4; omega⟩
        have lt5 := Own.lt o5
        have H4' := Own.mod (Own.mod H4.out m5 (fun j h4 h3 => (D.out.1 j h3).2 h4)) (Mod.alloc [] w5 (.cells #[.int .u64 (n : Int), .int .i64 (r : Int)] 24)) (by simp)
        have H4h := Lib.hid H4'
        have O5 := Lib.hid (o5.mod0 (Mod.alloc [] w5 (.cells #[.int .u64 (n : Int), .int .i64 (r : Int)] 24)))
        have M5 := Lib.hid ((M0.out.trans m5 (fun i hi hl => by have := (D.out.1 i hi).1; omega)).trans' (Mod.alloc [] w5 (.cells #[.int .u64 (n : Int), .int .i64 (r : Int)] 24)))
        have D5 := Lib.hid d3
        have L5 := Lib.hid lt5
        clear o5 m5 s5 d3 lt5 H4' H4 H3 hc0 hc1
        go_wp2_with (first | (refine wpl_appC (dst := some 46) _ _ a4 F.length c4 F rfl rfl H4h.out w5.heap.size ((n : Int), (r : Int)) rfl (by go_cell) (by go_cell) (by omega) ?_) | fail)
        intro a7 c7 w7 o7 m7 s7
        go_wp2
        go_roundw
        case rel =>
          refine ⟨k + 1, a5, c5, a7, c7, by omega, by go_num, ?_, ?_, ?_, ?_, M5.out.trans m7 (fun i hi hl => by have := D.out.2 i hi; omega), ?_, ?_⟩
          · rw [HF.out, HB.out]; simp
          · rw [HF.out]; simp
          · rw [HF.out, HB.out]
            exact O5.out.mod m7 (fun j hj => (D5.out j hj).2)
          · rw [HF.out]; exact o7
          · intro j hj
            refine ⟨(D5.out j hj).1, fun h7 => ?_⟩
            rcases s7.blk j h7 with h | h
            · exact (D5.out j hj).2 h
            · have h5 := L5.out j hj
              simp at h
              omega
          · intro j hj
            rcases s7.blk j hj with h | h
            · exact D.out.2 j h
            · exact Nat.le_trans M5.out.size h
        case measure => simp [intOf]; omega
      · have HF : Hid ((l.take (k + 1)).filter goodB = F) := by show _ = _; rw [HT.out, List.filter_append, hF]; simp [hg]
        have HB : Hid (F.flatMap encB = B) := hB
        simp only [goodB, decide_eq_true_eq] at hg
        have hg2 : ¬ 0 ≤ lR ∨ ¬ lR < 7 := by omega
        clear ho3 ho4 hd3 hd4 hm HT hlk hF htk hB hwk hbl hg
        rcases hg2 with hg | hg
        · go_wp2
          go_roundw
          case rel =>
            refine ⟨k + 1, a3, c3, a4, c4, by omega, by go_num, ?_, ?_, ?_, ?_, M0.out, D.out.1, D.out.2⟩
            · rw [HF.out, HB.out]
            · rw [HF.out]
            · rw [HF.out, HB.out]; exact H3.out
            · rw [HF.out]; exact H4.out
          case measure => simp [intOf]; omega
        · by_cases hg0 : 0 ≤ lR
          · go_wp2
            go_roundw
            case rel =>
              refine ⟨k + 1, a3, c3, a4, c4, by omega, by go_num, ?_, ?_, ?_, ?_, M0.out, D.out.1, D.out.2⟩
              · rw [HF.out, HB.out]
              · rw [HF.out]
              · rw [HF.out, HB.out]; exact H3.out
              · rw [HF.out]; exact H4.out
            case measure => simp [intOf]; omega
          · exfalso; omega
    · have hke : k = l.length := by omega
      subst hke
      have hgall : ∀ x ∈ l.filter goodB, goodB x = true ∧ 0 ≤ x.1 ∧ x.1 < 18446744073709551616 := fun x hx => ⟨(List.mem_filter.1 hx).2, HW.out x (List.mem_filter.1 hx).1⟩
      have hfl : (l.filter goodB).length ≤ 50 := by have h1 := List.length_filter_le goodB l; omega
      rw [List.take_length] at *
      obtain ⟨F, hF⟩ : ∃ F, l.filter goodB = F := ⟨_, rfl⟩
      rw [hF] at ho3 ho4 hfl hgall ⊢
      have hbl := bytesB_length F
      obtain ⟨B, hB⟩ : ∃ B, F.flatMap encB = B := ⟨_, rfl⟩
      rw [hB] at ho3 hbl ⊢
      have H3 := Lib.hid ho3
      have H4 := Lib.hid ho4
      have D := Lib.hid (And.intro hd3 hd4)
      have HG := Lib.hid hgall
      have HB := Lib.hid hB
      have hcl : B.length ≤ c3 := Own.le ho3
      have hcm : c3 ≤ 9223372036854775807 := by have := Own.cap_le ho3; unfold maxLen at this; omega
      clear ho3 ho4 hd3 hd4 hm hgall hF hB hbl
      go_wp2_with fail
      refine (newReader_any a3 _ c3 B 100 _ rfl hcl hcm H3.out.sees).mono ?_
      rintro e w1 ⟨g, rfl, r1, m1, z1⟩
      have LT := Lib.hid (show ∀ k, k ∈ blkOf a3 B → k < wr.heap.size from H3.out.sees.ltOf)
      have L4 := Lib.hid (show ∀ k, k ∈ blk a4 → k < wr.heap.size from Own.lt H4.out)
      have G := Lib.hid z1
      have R1 := Lib.hid r1
      have M1 := Lib.hid m1
      clear r1 m1 z1 H3 D hcl hcm
      go_wp2_with fail
      go_loopw [7] (fun i wz => ∃ j : Nat, j ≤ F.length ∧ i = .int .i64 (j : Int) ∧ Rd wz g (blkOf a3 B) 0 ((F.drop j).flatMap encB) 100 ∧ Mod [] wr wz) (fun i _ => F.length - (intOf i).toNat)
      case atStart => exact ⟨0, Nat.zero_le _, rfl, by rw [List.drop_zero, HB.out]; exact R1.out, M1.out⟩
      case round =>
        obtain ⟨j, hj, rfl, hr, hm⟩ := hrel
        have R2 := Lib.hid hr
        have M2 := Lib.hid hm
        clear hr hm
        by_cases hlt2 : j < F.length
        · obtain ⟨⟨pN, pR⟩, hp⟩ : ∃ p, F[j] = p := ⟨_, rfl⟩
          have hgj := HG.out F[j] (List.getElem_mem hlt2)
          rw [hp] at hgj
          obtain ⟨hg1, hg2, hg3⟩ := hgj
          have hdr : F.drop j = (pN, pR) :: F.drop (j + 1) := by rw [← hp]; exact List.drop_eq_getElem_cons hlt2
          have hg1' := hg1
          simp only [goodB, decide_eq_true_eq] at hg1'
          dsimp only at hg2 hg3
          obtain ⟨n, rfl⟩ := Int.eq_ofNat_of_zero_le hg2
          obtain ⟨r, rfl⟩ := Int.eq_ofNat_of_zero_le hg1'.1
          have HTK : Hid (takeB 0 ((F.drop j).flatMap encB) = (n, r, 0, 0, (F.drop (j + 1)).flatMap encB)) := by
            show _ = _
            rw [hdr, List.flatMap_cons, takeB_put ((n : Int), (r : Int)) _ hg2 hg3 hg1]
            rfl
          have HP := Lib.hid hp
          clear hg1 hg2 hg3 hg1' hdr hp
          go_wp2_with fail
          refine (take_any g _ 0 _ 100 _ R2.out (fun k hk => Nat.lt_of_lt_of_le (LT.out k hk) M2.out.size)).mono ?_
          rw [HTK.out]
          rintro e w5 ⟨rfl, r5, m5⟩
          have M5 := Lib.hid (M2.out.fresh1 m5 G.out)
          have R5 := Lib.hid r5
          clear r5 m5 R2 M2
          go_upto_region 16 with (fail)
          refine rest_start [] 10 #[false, false, false, false, false, false, false, false, false, false] rfl (by kernel_rfl) (by kernel_rfl) ?_
          intro w6 m6
          have X0 : Hid (w6.cell? ⟨w5.heap.size, 0, none⟩ = some (.int .u64 (n : Int))) := m6.cell (by go_cell) (by simp)
          have X1 : Hid (w6.cell? ⟨w5.heap.size, 1, none⟩ = some (.int .i64 (r : Int))) := m6.cell (by go_cell) (by simp)
          have mm := (Mod.alloc [] w5 (.cells #[.int .u64 (n : Int), .int .i64 (r : Int)] 24)).trans' m6
          have M6 := Lib.hid (M5.out.trans' mm)
          have R6 := Lib.hid (R5.out.mod0 mm)
          have O6 : OwnC w6 a4 c4 F := Own.mod0 H4.out M6.out
          obtain ⟨b4, hb4, p0, p1⟩ := O6.at' hlt2
          rw [HP.out] at p0 p1
          dsimp only at p0 p1
          subst hb4
          have P0 := Lib.hid p0
          have P1 := Lib.hid p1
          clear m6 mm M5 R5 O6 p0 p1
          refine rest_got (i := 0) (v := ?v1) rfl (by kernel_rfl) (by kernel_rfl) (by kernel_rfl) (fun _ _ _ h => h) (by rfl) ?y1 ?r1
          case y1 => ((intro w9' hm9'; have hc9' := Mod.cell hm9' X0.out (by first | exact List.not_mem_nil | (simp; omega)); have hd9' := Mod.cell hm9' X1.out (by first | exact List.not_mem_nil | (simp; omega)); clear hm9'; go_simp; with_reducible rfl))
          try simp only [Act.put, List.setIfInBounds_toArray, List.set_cons_zero, List.set_cons_succ]
          refine rest_got (i := 1) (v := ?v2) rfl (by kernel_rfl) (by kernel_rfl) (by kernel_rfl) (fun _ _ _ h => h) (by rfl) ?y2 ?r2
          case y2 => (intro w9q hSwq; clear hSwq; go_simp; with_reducible rfl)
          try simp only [Act.put, List.setIfInBounds_toArray, List.set_cons_zero, List.set_cons_succ]
          refine rest_got (i := 2) (v := ?v3) rfl (by kernel_rfl) (by kernel_rfl) (by kernel_rfl) (fun _ _ _ h => h) (by rfl) ?y3 ?r3
          case y3 => (intro w9q hSwq; clear hSwq; go_simp; with_reducible rfl)
          try simp only [Act.put, List.setIfInBounds_toArray, List.set_cons_zero, List.set_cons_succ]
          refine rest_got (i := 3) (v := ?v4) rfl (by kernel_rfl) (by kernel_rfl) (by kernel_rfl) (fun _ _ _ h => h) (by rfl) ?y4 ?r4
          case y4 => (intro w9q hSwq; clear hSwq; go_simp; with_reducible rfl)
          try simp only [Act.put, List.setIfInBounds_toArray, List.set_cons_zero, List.set_cons_succ]
          refine rest_got (i := 4) (v := ?v5) rfl (by kernel_rfl) (by kernel_rfl) (by kernel_rfl) (fun _ _ _ h => h) (by rfl) ?y5 ?r5
          case y5 => ((intro w9' hm9'; have hc9' := Mod.cell hm9' P0.out (by first | exact List.not_mem_nil | (simp; omega)); have hd9' := Mod.cell hm9' P1.out (by first | exact List.not_mem_nil | (simp; omega)); clear hm9'; go_simp; with_reducible rfl))
          try simp only [Act.put, List.setIfInBounds_toArray, List.set_cons_zero, List.set_cons_succ]
          refine rest_got (i := 5) (v := ?v6) rfl (by kernel_rfl) (by kernel_rfl) (by kernel_rfl) (fun _ _ _ h => h) (by rfl) ?y6 ?r6
          case y6 => (intro w9q hSwq; clear hSwq; go_simp; with_reducible rfl)
          try simp only [Act.put, List.setIfInBounds_toArray, List.set_cons_zero, List.set_cons_succ]
          refine rest_got (i := 6) (v := ?v7) rfl (by kernel_rfl) (by kernel_rfl) (by kernel_rfl) (fun _ _ _ h => h) (by rfl) ?y7 ?r7
          case y7 => (intro w9q hSwq; clear hSwq; go_simp; with_reducible rfl)
          try simp only [Act.put, List.setIfInBounds_toArray, List.set_cons_zero, List.set_cons_succ]
          refine rest_got (i := 7) (v := ?v8) rfl (by kernel_rfl) (by kernel_rfl) (by kernel_rfl) (fun _ _ _ h => h) (by rfl) ?y8 ?r8
          case y8 => (intro w9q hSwq; clear hSwq; go_simp; with_reducible rfl)
          try simp only [Act.put, List.setIfInBounds_toArray, List.set_cons_zero, List.set_cons_succ]
          refine rest_got (i := 8) (v := ?v9) rfl (by kernel_rfl) (by kernel_rfl) (by kernel_rfl) (fun _ _ _ h => h) (by rfl) ?y9 ?r9
          case y9 => (intro w9q hSwq; clear hSwq; go_simp; with_reducible rfl)
          try simp only [Act.put, List.setIfInBounds_toArray, List.set_cons_zero, List.set_cons_succ]
          refine rest_got (i := 9) (v := ?v10) rfl (by kernel_rfl) (by kernel_rfl) (by kernel_rfl) (fun _ _ _ h => h) (by rfl) ?y10 ?r10
          case y10 => (intro w9q hSwq; clear hSwq; go_simp; with_reducible rfl)
          try simp only [Act.put, List.setIfInBounds_toArray, List.set_cons_zero, List.set_cons_succ]
          refine rest_done (by kernel_rfl) ?_ _
          go_wp2
          go_roundw
          case rel => exact ⟨j + 1, by omega, by go_num, R6.out, M6.out⟩
          case measure => simp [intOf]; omega
        · have hje : j = F.length := by omega
          subst hje
          have hnil : (F.drop F.length).flatMap encB = [] := by rw [List.drop_length]; rfl
          rw [hnil] at R2
          go_wp2_with fail
          refine (rdone_any g _ 0 [] 100 _ R2.out).mono ?_
          rintro e w5 ⟨rfl, r5, m5⟩
          have M5 := Lib.hid (M0.out.trans' (M2.out.fresh1 m5 G.out))
          clear r5 m5 R2
          rw [show doneR 0 [] = 0 from rfl]
          go_wp2_with fail
          refine (wakes14_any _).mono ?_
          rintro e w9 ⟨rfl, m9⟩
          have M9 := Lib.hid (M5.out.trans' m9)
          clear m9
          go_wp2
          go_ret
          exact ⟨rfl, M9.out⟩
end Go.Proofs.Ytodkjkfaaamlaaa
