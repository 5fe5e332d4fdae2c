/- The walks of msg.sum and msg.Put. -/
import Derived.Test.YtekdnljincbghaaDoorMsg5
import Derived.Test.YtekdnljincbghaaDoorCrcLaw
namespace Go.Proofs.YtekdnljincbghaaDoor
open Go Go.RowKit Go.Lib

/-- The sum's four bytes. -/
def sumN (l : List UInt8) : Nat := (moreC T0 0 l).toNat
def sum4 (l : List UInt8) : List UInt8 := [UInt8.ofNat (sumN l % 256), UInt8.ofNat (sumN l / 256 % 256), UInt8.ofNat (sumN l / 65536 % 256), UInt8.ofNat (sumN l / 16777216 % 256)]
theorem moreC_lo (l : List UInt8) : 0 ≤ moreC T0 0 l ∧ moreC T0 0 l < 4294967296 := inv32_lo _
theorem sumN_eq (l : List UInt8) : (sumN l : Int) = moreC T0 0 l := by have := moreC_lo l; unfold sumN; omega
/-- A message's bytes. -/
def msgB (d : Md) : List UInt8 := sum4 (insideB d) ++ insideB d
set_option maxRecDepth 100000 in
theorem msum_any (ao : Option Addr) (len cap : Nat) (l : List UInt8) (w : World) (hl : l.length = len) (hlen : len ≤ 9223372036854775807) (hs : Sees w ao l) (hT : TableAt w T0) :
    Calls Tryd.prog 30 #[.slice ao len cap] w (RetApp w none (sum4 l)) := by
  have HC := Lib.hid (sum_any ao len cap l T0 w hl (by omega) hT hs)
  rw [← sumN_eq] at HC
  have HS : Hid (sum4 l = [UInt8.ofNat (sumN l % 256), UInt8.ofNat (sumN l / 256 % 256), UInt8.ofNat (sumN l / 65536 % 256), UInt8.ofNat (sumN l / 16777216 % 256)]) := Lib.hid rfl
  obtain ⟨s, hs⟩ : ∃ s, sumN l = s := ⟨_, rfl⟩
  rw [hs] at HC HS
  clear hs
  go_enter Tryd.func30, Tryd.ntmps30
  go_wp2_with fail
  refine HC.out.mono ?_
  rintro e w1 ⟨rfl, m1⟩
  have hb := heap_alloc_new w1 (.cells #[.int .u8 ((s : Int) % 256), .int .u8 ((s : Int) / 256 % 256), .int .u8 ((s : Int) / 65536 % 256), .int .u8 ((s : Int) / 16777216 % 256)] 5)
  have m2 := Mod.alloc [] w1 (.cells #[.int .u8 ((s : Int) % 256), .int .u8 ((s : Int) / 256 % 256), .int .u8 ((s : Int) / 65536 % 256), .int .u8 ((s : Int) / 16777216 % 256)] 5)
  have HB := Lib.hid hb
  have M1 := Lib.hid m1
  have M2 := Lib.hid m2
  clear hb m1 m2 HC
  go_wp2_with fail
  go_ret
  refine ⟨some ⟨w1.heap.size, 0, none⟩, 4, 4, rfl, by rw [HS.out]; rfl, ?_, (M1.out.trans' M2.out), .inr ⟨w1.heap.size, rfl, M1.out.size, by simp⟩⟩
  have ho := Own.new (sz := 1) (n := 4) HB.out (.inl rfl) (by simp) (by unfold maxLen; omega)
  have he : (sum4 l).map u8v = [.int .u8 ((s : Int) % 256), .int .u8 ((s : Int) / 256 % 256), .int .u8 ((s : Int) / 65536 % 256), .int .u8 ((s : Int) / 16777216 % 256)] := by
    rw [HS.out]
    have e : ∀ k : Nat, (((UInt8.ofNat (k % 256)).toNat : Nat) : Int) = (k : Int) % 256 := by
      intro k
      rw [UInt8.toNat_ofNat']
      omega
    simp only [List.map_cons, List.map_nil, u8v, e, Int.natCast_ediv]
    rfl
  unfold OwnB
  rw [he]
  have hl4 : (sum4 l).length = 4 := by rw [HS.out]; rfl
  rw [hl4]
  exact ho

theorem insideB_len (m : Mm) (h : SmallM m) : (insideB m.d).length ≤ 16000011 := by
  unfold insideB
  have e1 := (enc7_length m.d.h.kind).2
  have e2 := flat_len (fieldB m.d) 4000000 (Fl m.d.h.kind) (fun c _ => fieldB_len m h c)
  have e3 := Fl_len m.d.h.kind
  rw [List.length_append]
  omega
/-- What Put tells. -/
def PutM (w : World) (d : Md) (e : Ending) (w' : World) : Prop :=
  ∃ a n c, e = .returned (.tuple #[.slice a n c, .int .i64 (checkE d)]) ∧ (if MayM d then msgB d else []).length = n ∧ OwnB w' a c (if MayM d then msgB d else []) ∧ Mod [] w w' ∧ (∀ k, k ∈ blk a → w.heap.size ≤ k)
set_option maxRecDepth 100000 in
set_option maxHeartbeats 4000000 in
theorem mput_any (m : Mm) (w : World) (hs : SeesM w m) (hw : WfM m) (hsm : SmallM m) (hf : Flds w) (hT : TableAt w T0) : Calls Tryd.prog 14 #[msgV m] w (PutM w m.d) := by
  have hin := insideB_len m hsm
  have HCK : Hid (∀ w', Mod [] w w' → Calls Tryd.prog 13 #[msgV m] w' fun e w'' => e = .returned (.int .i64 (checkE m.d)) ∧ Mod [] w' w'') := Lib.hid (fun w' hm => check_any m w' (hs.mod0 hm) hw (hf.mod0 hm))
  have HLY : Hid (MayM m.d → ∀ ao len cap xs w', xs.length = len → OwnB w' ao cap xs → len ≤ 1000 → Mod [] w w' → (∀ k, k ∈ blk ao → w.heap.size ≤ k) → Calls Tryd.prog 28 #[.slice ao len cap, msgV m] w' (RetApp w' ao (xs ++ (Fl m.h.kind).flatMap (fieldB m.d)))) :=
    Lib.hid (fun hM ao len cap xs w' h1 h2 h3 h4 h5 => lay_any ao len cap xs m w w' h1 h2 h3 h4 h5 hs hw hsm hM hf)
  have HT := Lib.hid hT
  have HIN : Hid (insideB m.d = enc7 m.h.kind ++ (Fl m.h.kind).flatMap (fieldB m.d)) := Lib.hid rfl
  have hk := hw.h.1
  obtain ⟨d, hd⟩ : ∃ x, m.d = x := ⟨_, rfl⟩
  rw [hd] at HCK HLY HIN hin ⊢
  obtain ⟨⟨kind, bn, br, first, last, commit⟩, vo, vc, votes, so, sc, batches, pl, po, pc⟩ := m
  clear hs hw hsm hf hT hd
  dsimp only at HLY HIN hk
  unfold msgV mC at HCK HLY ⊢
  dsimp only at HCK HLY ⊢
  obtain ⟨vl, hvl⟩ : ∃ n, votes.length = n := ⟨_, rfl⟩
  obtain ⟨bl, hbl⟩ : ∃ n, batches.length = n := ⟨_, rfl⟩
  obtain ⟨sl, hsl⟩ : ∃ n, pl.length = n := ⟨_, rfl⟩
  rw [hvl, hbl, hsl] at HCK HLY ⊢
  clear hvl hbl hsl
  obtain ⟨tail, htail⟩ : ∃ t, (Fl kind).flatMap (fieldB d) = t := ⟨_, rfl⟩
  rw [htail] at HLY HIN
  clear htail
  obtain ⟨w1, hw1, A1, m1⟩ : ∃ x, w.alloc (.cells #[.int .u8 (kind : Int), .int .u64 (bn : Int), .int .i64 br, .int .u64 (first : Int), .int .u64 (last : Int), .int .u64 (commit : Int), .slice vo vl vc, .slice so bl sc, .slice po sl pc] 29) = x ∧
    x.heap[w.heap.size]? = some (.cells #[.int .u8 (kind : Int), .int .u64 (bn : Int), .int .i64 br, .int .u64 (first : Int), .int .u64 (last : Int), .int .u64 (commit : Int), .slice vo vl vc, .slice so bl sc, .slice po sl pc] 29 (0, 0)) ∧ Mod [] w x := ⟨_, rfl, heap_alloc_new w _, Mod.alloc _ _ _⟩
  have LC : Hid (∀ w', Mod [] w1 w' → w'.cell? ⟨w.heap.size, 0, none⟩ = some (.int .u8 (kind : Int)) ∧ w'.cell? ⟨w.heap.size, 1, none⟩ = some (.int .u64 (bn : Int)) ∧ w'.cell? ⟨w.heap.size, 2, none⟩ = some (.int .i64 br) ∧ w'.cell? ⟨w.heap.size, 3, none⟩ = some (.int .u64 (first : Int)) ∧ w'.cell? ⟨w.heap.size, 4, none⟩ = some (.int .u64 (last : Int)) ∧
    w'.cell? ⟨w.heap.size, 5, none⟩ = some (.int .u64 (commit : Int)) ∧ w'.cell? ⟨w.heap.size, 6, none⟩ = some (.slice vo vl vc) ∧ w'.cell? ⟨w.heap.size, 7, none⟩ = some (.slice so bl sc) ∧ w'.cell? ⟨w.heap.size, 8, none⟩ = some (.slice po sl pc)) := Lib.hid (fun w' hm => by
    have h := hm.get A1 List.not_mem_nil
    exact ⟨cell_of_block h, cell_of_block h, cell_of_block h, cell_of_block h, cell_of_block h, cell_of_block h, cell_of_block h, cell_of_block h, cell_of_block h⟩)
  obtain ⟨c0, c1, c2, c3, c4, c5, c6, c7, c8⟩ := LC.out w1 (Mod.refl _ _)
  have M1 := Lib.hid m1
  have HC := Lib.hid (HCK.out w1 m1)
  clear A1 m1 HCK
  go_enter Tryd.func14, Tryd.ntmps14
  go_wp2_with fail
  refine HC.out.mono ?_
  rintro e w2 ⟨rfl, m2⟩
  have M2 := Lib.hid (M1.out.trans' m2)
  have M12 := Lib.hid m2
  clear m2 HC hw1 c0 c1 c2 c3 c4 c5 c6 c7 c8
  by_cases hM : MayM d
  case neg =>
    have HE : Hid (checkE d = 1) := Lib.hid (checkE_no hM)
    have HI : Hid ((if MayM d then msgB d else []) = []) := Lib.hid (if_neg hM)
    rw [HE.out]
    go_wp2_with fail
    go_ret2
    unfold PutM
    rw [HE.out, HI.out]
    exact ⟨none, 0, 0, rfl, rfl, Own.nil0 _ _ _, M2.out, fun k hk => absurd hk (by simp [blk])⟩
  have HE : Hid (checkE d = 0) := Lib.hid (if_pos hM)
  have HI : Hid ((if MayM d then msgB d else []) = sum4 (insideB d) ++ insideB d) := Lib.hid (if_pos hM)
  have HLY2 := Lib.hid (HLY.out hM)
  rw [HE.out]
  clear HLY hM
  go_upto_region 4 with (fail)
  refine rest_start [] 7 #[false, false, false, false, false, false, false] rfl (by kernel_rfl) (by kernel_rfl) ?_
  intro w3 m3
  have M13 := Lib.hid (M12.out.trans' m3)
  have M3 := Lib.hid (M2.out.trans' m3)
  have LC3 : Hid (∀ w', Mod [] w3 w' → _) := Lib.hid (fun w' hm => LC.out w' (M13.out.trans' hm))
  obtain ⟨c0, -, -, -, -, -, -, -, -⟩ := LC3.out w3 (Mod.refl _ _)
  clear m3 LC M12
  refine rest_got (i := 0) (v := ?v1) rfl (by kernel_rfl) (by kernel_rfl) (by kernel_rfl) (fun _ _ _ h => h) (by rfl) ?y1 ?r1
  case y1 => (intro w9q hSwq; clear hSwq; go_simp; with_reducible rfl)
  try simp only [Act.put, List.setIfInBounds_toArray, List.set_cons_zero, List.set_cons_succ]
  refine rest_got (i := 1) (v := ?v2) rfl (by kernel_rfl) (by kernel_rfl) (by kernel_rfl) (fun _ _ _ h => h) (by rfl) ?y2 ?r2
  case y2 => ((intro w9' hm9'; have hc9' := Mod.cell hm9' c0 (by first | exact List.not_mem_nil | assumption | (simp; done) | (simp; omega)); clear hm9'; go_simp; with_reducible rfl))
  try simp only [Act.put, List.setIfInBounds_toArray, List.set_cons_zero, List.set_cons_succ]
  refine rest_got (i := 2) (v := ?v3) rfl (by kernel_rfl) (by kernel_rfl) (by kernel_rfl) (fun _ _ _ h => h) (by rfl) ?y3 ?r3
  case y3 => (intro w9q hSwq; clear hSwq; go_simp; with_reducible rfl)
  try simp only [Act.put, List.setIfInBounds_toArray, List.set_cons_zero, List.set_cons_succ]
  refine rest_got (i := 4) (v := ?v4) rfl (by kernel_rfl) (by kernel_rfl) (by kernel_rfl) (fun _ _ _ h => h) (by rfl) ?y4 ?r4
  case y4 => ((intro w9' hm9'; obtain ⟨hc0', hc1', hc2', hc3', hc4', hc5', hc6', hc7', hc8'⟩ := LC3.out w9' hm9'; clear hm9'; go_simp; with_reducible rfl))
  try simp only [Act.put, List.setIfInBounds_toArray, List.set_cons_zero, List.set_cons_succ]
  refine rest_one (i := 3) (by kernel_rfl) rfl (by rfl) ?_
  go_wp2_with fail
  refine (vuint_any none 0 0 kind [] w3 rfl (Own.nil0 _ _ _) (by omega) (by omega)).mono ?_
  rintro e w4 ⟨a4, n4, c4, rfl, k4, o4, m4, s4⟩
  rw [List.nil_append] at k4 o4
  have M4 := Lib.hid (M3.out.trans' m4)
  have hel := (enc7_length kind).2
  have N4 : Hid (∀ k, k ∈ blk a4 → w3.heap.size ≤ k) := Lib.hid (fun k hk => by
    rcases s4.blk k hk with h | h
    · exact absurd h (by simp [blk])
    · exact h)
  have HCL := Lib.hid (HLY2.out a4 n4 c4 _ w4 k4 o4 (by omega) M4.out (fun k hk => Nat.le_trans M3.out.size (N4.out k hk)))
  go_wp2_with fail
  refine back_to (K1 := blk a4) m4 (fun k hk hl => by have := N4.out k hk; omega) ?_
  clear k4 o4 m4 s4 c0 LC3 HLY2
  
  refine rest_one (i := 5) (by kernel_rfl) rfl (by rfl) ?_
  go_wp2_with fail
  refine HCL.out.mono ?_
  rintro e w5 ⟨a5, n5, c5, rfl, k5, o5, m5, s5⟩
  rw [← HIN.out] at k5 o5
  have M5 := Lib.hid (M4.out.trans m5 (fun k hk hl => by have := N4.out k hk; have := M3.out.size; omega))
  have HK5 := Lib.hid k5
  have O5 := Lib.hid o5
  go_wp2_with fail
  refine back_to (K1 := blk a5) m5 (back_keys s5) ?_
  have h5 : n5 ≤ 16000011 := by rw [← k5]; exact hin
  clear k5 o5 m5 s5 HCL
  refine rest_got (i := 6) (v := ?v5) rfl (by kernel_rfl) (by kernel_rfl) (by kernel_rfl) (fun _ _ _ h => h) (by rfl) ?y5 ?r5
  case y5 => (intro w9q hSwq; clear hSwq; go_simp; with_reducible rfl)
  try simp only [Act.put, List.setIfInBounds_toArray, List.set_cons_zero, List.set_cons_succ]
  refine rest_done (by kernel_rfl) ?_ _
  have HSM := Lib.hid (msum_any a5 n5 c5 (insideB d) w5 HK5.out (by omega) O5.out.sees (HT.out.mod0 M5.out))
  go_wp2_with fail
  refine HSM.out.mono ?_
  rintro e w6 ⟨a6, n6, c6, rfl, k6, o6, m6, s6⟩
  have h6 : n6 = 4 := by rw [← k6]; rfl
  subst h6
  have M6 := Lib.hid (M5.out.trans' m6)
  have O6 := Lib.hid o6
  have HK6 := Lib.hid k6
  have N6 : Hid (∀ k, k ∈ blk a6 → w5.heap.size ≤ k) := Lib.hid (fun k hk => by
    rcases s6.blk k hk with h | h
    · exact absurd h (by simp [blk])
    · exact h)
  have HS6 := Lib.hid (O5.out.sees.mod0 m6)
  have hbn : 4 + n5 ≤ 140737488355328 := by omega
  clear k6 o6 m6 s6 HSM
  go_wp2_with (first | (at_builtin; refine wpl_app8 (dst := some 20) _ _ a6 4 c6 _ rfl HK6.out O6.out a5 n5 c5 _ rfl HK5.out HS6.out hbn ?_) | fail)
  intro a7 c7 w7 o7 m7 s7
  have M7 := Lib.hid (M6.out.trans m7 (fun k hk hl => by have := N6.out k hk; have := M5.out.size; omega))
  have O7 := Lib.hid o7
  have N7 : Hid (∀ k, k ∈ blk a7 → w.heap.size ≤ k) := Lib.hid (fun k hk => by
    rcases s7.blk k hk with h | h
    · exact Nat.le_trans M5.out.size (N6.out k h)
    · exact Nat.le_trans M6.out.size h)
  clear o7 m7 s7
  go_wp2_with fail
  go_ret2
  unfold PutM
  rw [HE.out, HI.out]
  exact ⟨a7, 4 + n5, c7, rfl, by rw [List.length_append, HK6.out, HK5.out], O7.out, M7.out, N7.out⟩
end Go.Proofs.YtekdnljincbghaaDoor
