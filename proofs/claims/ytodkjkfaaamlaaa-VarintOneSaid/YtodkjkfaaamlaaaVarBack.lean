/- The walk of the law VarintBack. -/
import Derived.Test.YtodkjkfaaamlaaaVarWakes
import Derived.Test.YtodkjkfaaamlaaaVarLaw
namespace Go.Proofs.Ytodkjkfaaamlaaa
open Go Go.RowKit Go.Lib

theorem Mod.new1 {a b c : World} {g : Nat} (h : Mod [] a b) (k : Mod [g] b c) (hg : a.heap.size ≤ g) : Mod [] a c :=
  h.trans k (by intro i hi hl; simp only [List.mem_singleton] at hi; omega)
theorem Own.cap_le {w : World} {e : TypeId} {sz : Nat} {ao : Option Addr} {n cap : Nat} {xs : List Value} (h : Own w e sz ao n cap xs) : cap ≤ maxLen := by
  rcases h.2 with ⟨_, _, rfl⟩ | ⟨g, cur, fz, _, _, _, _, h, _⟩
  · unfold maxLen; omega
  · exact h
theorem Rd.keep {w w' : World} {g g' : Nat} {bs : List Nat} {e : Int} {l : List UInt8} {lim : Int} (h : Rd w g bs e l lim) (hm : Mod [g'] w w') (hg : g < g') (hb : ∀ k, k ∈ bs → k < g') : Rd w' g bs e l lim :=
  h.mod hm (by simp; omega) (by intro k hk; have := hb k hk; simp; omega)
theorem byteR_cons (c : UInt8) (r : List UInt8) : byteR 0 (c :: r) = (((c.toNat : Nat) : Int), 0, r) := rfl
theorem seen_last {w : World} {ao : Option Addr} {l : List UInt8} (h : Sees w ao l) : Sees w ao l.dropLast := by rw [List.dropLast_eq_take]; exact h.take _
theorem blkOf_sub {w : World} {ao : Option Addr} {l l' : List UInt8} (h : Sees w ao l) (hl : l' ≠ [] → l ≠ []) : ∀ k, k ∈ blkOf ao l' → k < w.heap.size :=
  fun k hk => h.lt (hl (mem_blkOf hk).1) k (mem_blkOf hk).2

set_option maxRecDepth 100000 in
set_option maxHeartbeats 4000000 in
theorem varintBack_any (n : Nat) (m : Int) (s : ByteArray) (c : UInt8) (w : World) (hn : n < 18446744073709551616) (h1 : -9223372036854775808 ≤ m) (h2 : m ≤ 9223372036854775807) (hs : s.size ≤ 9223372036854775807) :
    Calls Try.prog 7 #[.int .u64 (n : Int), .int .i64 m, .string s, .int .u8 ((c.toNat : Nat) : Int)] w fun e w' => e = .returned (.bool true) ∧ Mod [] w w' := by
  obtain ⟨t, rfl⟩ : ∃ t : List UInt8, s = ⟨t.toArray⟩ := ⟨s.data.toList, str_eta s⟩
  have hst : (ByteArray.size ⟨t.toArray⟩) = t.length := by simp [ByteArray.size]
  rw [hst] at hs
  by_cases hs1 : 200 < t.length
  · have hst' : (200 : Int) < ((ByteArray.size ⟨t.toArray⟩ : Nat) : Int) := by rw [hst]; omega
    go_enter Try.func7, Try.ntmps7
    go_wp2_with (go_at_call 15; refine (wakes01_any _).mono ?_; rintro e w1 ⟨rfl, hm1⟩)
    go_ret
    exact ⟨rfl, by assumption⟩
  have hz := zig_lt m h1 h2
  have hc := toNat_lt c
  have E1 : Hid (∀ l, byteR 0 (c :: l) = (((c.toNat : Nat) : Int), 0, l)) := byteR_cons c
  have E2 : Hid (∀ l, uintE 10 0 0 0 (enc7 n ++ l) = (n, 0, l)) := fun l => uintE_write n l hn
  have E3 : Hid (∀ l, uintE 10 0 0 0 (enc7 (zig m) ++ l) = (zig m, 0, l)) := fun l => uintE_write _ l hz
  have E3z : Hid (zag (zig m) = m) := zag_zig m
  have E4 : Hid (textR 200 0 (enc7 t.length ++ t) = (t, 0, [])) := by have := textR_write 200 t [] (by omega) (by omega); rwa [List.append_nil] at this
  have E5 : Hid ((textR 200 0 (enc7 t.length ++ t).dropLast).2.1 = 10) := textR_short 200 t (by omega) (by omega)
  have E6 : Hid (textR 200 0 (enc7 t.length ++ t ++ [7]) = (t, 0, [7])) := textR_write 200 t [7] (by omega) (by omega)
  have EL : Hid ([c] ++ enc7 n ++ enc7 (zig m) ++ enc7 t.length ++ t = c :: (enc7 n ++ (enc7 (zig m) ++ (enc7 t.length ++ t)))) := by unfold Hid; simp
  have ht0 : enc7 t.length ++ t ≠ [] := by intro h; have h' := congrArg List.length h; have h1 := (enc7_length t.length).1; simp only [List.length_append, List.length_nil] at h'; omega
  have ED : Hid ((c :: (enc7 n ++ (enc7 (zig m) ++ (enc7 t.length ++ t)))).dropLast = c :: (enc7 n ++ (enc7 (zig m) ++ (enc7 t.length ++ t).dropLast))) := by
    unfold Hid
    rw [List.dropLast_cons_of_ne_nil (by simp [ht0]), List.dropLast_append_of_ne_nil (by simp [ht0]), List.dropLast_append_of_ne_nil ht0]
  have hl1 := (enc7_length n).2
  have hl2 := (enc7_length (zig m)).2
  have hl3 := (enc7_length t.length).2
  have hlen : (c :: (enc7 n ++ (enc7 (zig m) ++ (enc7 t.length ++ t)))).length ≤ 234 := by simp; omega
  have HLEN := Lib.hid hlen
  have HT0 := Lib.hid ht0
  clear hlen ht0
  go_enter Try.func7, Try.ntmps7
  go_wp2_with fail
  have o1 := OwnB.lit1 (heap_alloc_new w (.cells #[.int .u8 ((c.toNat : Nat) : Int)] 5)) c rfl (.inl rfl)
  have n1 : SameOrNew w (w.alloc (.cells #[.int .u8 ((c.toNat : Nat) : Int)] 5)) none (some ⟨w.heap.size, 0, none⟩) := .inr ⟨w.heap.size, rfl, Nat.le_refl _, by simp⟩
  have M1 := Lib.hid (Mod.alloc [] w (.cells #[.int .u8 ((c.toNat : Nat) : Int)] 5))
  have N1 := Lib.hid n1
  have O1 := Lib.hid o1
  clear o1 n1
  refine (vuint_any _ _ _ _ [c] _ rfl O1.out hn (by simp)).mono ?_
  rintro e w2 ⟨a2, k2, c2, rfl, hk2, o2, m2, n2⟩
  have M2 := Lib.hid (Mod.transNew M1.out m2 N1.out (by simp [blk]))
  have N2 := Lib.hid (N1.out.trans n2 M1.out.size m2.size)
  have O2 := Lib.hid o2
  have K2 := Lib.hid hk2
  have hk2b : k2 ≤ 12 := by rw [← hk2]; simp; omega
  clear M1 N1 O1 m2 n2 o2 hk2
  go_wp2_with fail
  refine (vint_any _ _ _ _ _ _ K2.out O2.out (by omega) h1 h2).mono ?_
  rintro e w3 ⟨a3, k3, c3, rfl, hk3, o3, m3, n3⟩
  have M3 := Lib.hid (Mod.transNew M2.out m3 N2.out (by simp [blk]))
  have N3 := Lib.hid (N2.out.trans n3 M2.out.size m3.size)
  have O3 := Lib.hid o3
  have K3 := Lib.hid hk3
  have hk3b : k3 ≤ 23 := by rw [← hk3]; simp; omega
  clear M2 N2 O2 m3 n3 o3 hk3 hk2b K2
  go_wp2_with fail
  refine (vtext_any _ _ _ _ _ _ K3.out O3.out (by omega) (by rw [hst]; omega)).mono ?_
  rintro e w4 ⟨a4, k4, c4, rfl, hk4, o4, m4, n4⟩
  rw [hst, EL.out] at o4 hk4
  have M4 := Lib.hid (Mod.transNew M3.out m4 N3.out (by simp [blk]))
  have O4 := Lib.hid o4
  have hk4p : 1 ≤ k4 := by rw [← hk4]; simp
  have hk4b : k4 ≤ 234 := by have := HLEN.out; omega
  have hcap : k4 ≤ c4 ∧ c4 ≤ 9223372036854775807 := by
    subst hk4
    exact ⟨Own.le o4, by have := Own.cap_le o4; unfold maxLen at this; omega⟩
  have K4 := Lib.hid hk4
  clear M3 N3 O3 m4 n4 o4 hk4 hk3b K3
  go_wp2_with fail
  have O4lt := Lib.hid O4.out.lt
  have SZ : Hid (w4.heap.size ≤ w4.heap.size) := Nat.le_refl _
  refine (newReader_any _ _ _ _ 200 _ K4.out hcap.1 hcap.2 O4.out.sees).mono ?_
  rintro e w5 ⟨g1, rfl, r5, m5, z5⟩
  have M5 := Lib.hid (M4.out.trans' m5)
  have Gg1 : Hid (w.heap.size ≤ g1 ∧ w4.heap.size ≤ g1) := ⟨Nat.le_trans M4.out.size z5, z5⟩
  have Rg1 := Lib.hid r5
  replace O4 := Lib.hid (O4.out.mod0 m5)
  replace SZ := Lib.hid (Nat.le_trans SZ.out m5.size)
  clear M4 r5 m5 z5
  go_wp2_with fail
  refine (byte_any g1 _ 0 _ 200 _ Rg1.out).mono ?_
  rintro e w6 ⟨rfl, r6, m6⟩
  rw [E1.out] at r6 ⊢
  have M6 := Lib.hid (M5.out.new1 m6 Gg1.out.1)
  replace O4 := Lib.hid (O4.out.mod m6 (by intro k hk; have := O4lt.out k hk; have := Gg1.out.2; simp; omega))
  replace SZ := Lib.hid (Nat.le_trans SZ.out m6.size)
  clear M5 Rg1 m6
  have Rg1 := Lib.hid r6
  clear r6
  go_wp2_with fail
  refine (ruint_any g1 _ 0 _ 200 _ Rg1.out).mono ?_
  rintro e w7 ⟨rfl, r7, m7⟩
  rw [E2.out] at r7 ⊢
  have M7 := Lib.hid (M6.out.new1 m7 Gg1.out.1)
  replace O4 := Lib.hid (O4.out.mod m7 (by intro k hk; have := O4lt.out k hk; have := Gg1.out.2; simp; omega))
  replace SZ := Lib.hid (Nat.le_trans SZ.out m7.size)
  clear M6 Rg1 m7
  have Rg1 := Lib.hid r7
  clear r7
  go_wp2_with fail
  refine (rint_any g1 _ 0 _ 200 _ Rg1.out).mono ?_
  rintro e w8 ⟨rfl, r8, m8⟩
  rw [E3.out] at r8 ⊢
  dsimp only at r8 ⊢
  rw [E3z.out]
  have M8 := Lib.hid (M7.out.new1 m8 Gg1.out.1)
  replace O4 := Lib.hid (O4.out.mod m8 (by intro k hk; have := O4lt.out k hk; have := Gg1.out.2; simp; omega))
  replace SZ := Lib.hid (Nat.le_trans SZ.out m8.size)
  clear M7 Rg1 m8
  have Rg1 := Lib.hid r8
  clear r8
  go_wp2_with fail
  refine (rtext_any g1 _ 0 _ 200 _ Rg1.out (by omega) (by omega)).mono ?_
  rintro e w9 ⟨rfl, r9, m9⟩
  rw [E4.out] at r9 ⊢
  have M9 := Lib.hid (M8.out.new1 m9 Gg1.out.1)
  replace O4 := Lib.hid (O4.out.mod m9 (by intro k hk; have := O4lt.out k hk; have := Gg1.out.2; simp; omega))
  replace SZ := Lib.hid (Nat.le_trans SZ.out m9.size)
  clear M8 Rg1 m9
  have Rg1 := Lib.hid r9
  clear r9
  go_wp2_with fail
  refine (rdone_any g1 _ 0 _ 200 _ Rg1.out).mono ?_
  rintro e w10 ⟨rfl, r10, m10⟩
  rw [show doneR 0 [] = 0 from rfl] at r10 ⊢
  have M10 := Lib.hid (M9.out.new1 m10 Gg1.out.1)
  replace O4 := Lib.hid (O4.out.mod m10 (by intro k hk; have := O4lt.out k hk; have := Gg1.out.2; simp; omega))
  replace SZ := Lib.hid (Nat.le_trans SZ.out m10.size)
  clear M9 Rg1 m10
  have Rg1 := Lib.hid r10
  clear r10
  go_wp2_with fail
  clear Rg1
  have SZ0 := SZ
  have LL : Hid ((c :: (enc7 n ++ (enc7 (zig m) ++ (enc7 t.length ++ t)))).dropLast.length = k4 - 1) := by have := K4.out; show _ = _; rw [List.length_dropLast, this]
  have S2 := Lib.hid (seen_last O4.out.sees)
  rw [ED.out] at S2 LL
  refine (newReader_any _ _ _ _ 200 _ LL.out (by omega) hcap.2 S2.out).mono ?_
  rintro e w11 ⟨g2, rfl, r11, m11, z11⟩
  have M11 := Lib.hid (M10.out.trans' m11)
  have Gg2 : Hid (w.heap.size ≤ g2 ∧ w10.heap.size ≤ g2) := ⟨Nat.le_trans M10.out.size z11, z11⟩
  have Rg2 := Lib.hid r11
  replace O4 := Lib.hid (O4.out.mod0 m11)
  replace SZ := Lib.hid (Nat.le_trans SZ.out m11.size)
  clear S2 M10 r11 m11 z11
  go_wp2_with fail
  have Gg2b : Hid (w.heap.size ≤ g2 ∧ w4.heap.size ≤ g2) := ⟨Gg2.out.1, by have h1 := Gg2.out.2; have h2 := SZ0.out; omega⟩
  refine (byte_any g2 _ 0 _ 200 _ Rg2.out).mono ?_
  rintro e w12 ⟨rfl, r12, m12⟩
  rw [E1.out] at r12 ⊢
  have M12 := Lib.hid (M11.out.new1 m12 Gg2.out.1)
  replace O4 := Lib.hid (O4.out.mod m12 (by intro k hk; have := O4lt.out k hk; have := Gg2b.out.2; simp; omega))
  replace SZ := Lib.hid (Nat.le_trans SZ.out m12.size)
  clear M11 Rg2 m12
  have Rg2 := Lib.hid r12
  clear r12
  go_wp2_with fail
  refine (ruint_any g2 _ 0 _ 200 _ Rg2.out).mono ?_
  rintro e w13 ⟨rfl, r13, m13⟩
  rw [E2.out] at r13 ⊢
  have M13 := Lib.hid (M12.out.new1 m13 Gg2.out.1)
  replace O4 := Lib.hid (O4.out.mod m13 (by intro k hk; have := O4lt.out k hk; have := Gg2b.out.2; simp; omega))
  replace SZ := Lib.hid (Nat.le_trans SZ.out m13.size)
  clear M12 Rg2 m13
  have Rg2 := Lib.hid r13
  clear r13
  go_wp2_with fail
  refine (rint_any g2 _ 0 _ 200 _ Rg2.out).mono ?_
  rintro e w14 ⟨rfl, r14, m14⟩
  rw [E3.out] at r14 ⊢
  dsimp only at r14 ⊢
  rw [E3z.out]
  have M14 := Lib.hid (M13.out.new1 m14 Gg2.out.1)
  replace O4 := Lib.hid (O4.out.mod m14 (by intro k hk; have := O4lt.out k hk; have := Gg2b.out.2; simp; omega))
  replace SZ := Lib.hid (Nat.le_trans SZ.out m14.size)
  clear M13 Rg2 m14
  have Rg2 := Lib.hid r14
  clear r14
  go_wp2_with fail
  refine (rtext_any g2 _ 0 _ 200 _ Rg2.out (by omega) (by omega)).mono ?_
  rintro e w15 ⟨rfl, r15, m15⟩
  rw [E5.out] at r15
  have M15 := Lib.hid (M14.out.new1 m15 Gg2.out.1)
  replace O4 := Lib.hid (O4.out.mod m15 (by intro k hk; have := O4lt.out k hk; have := Gg2b.out.2; simp; omega))
  replace SZ := Lib.hid (Nat.le_trans SZ.out m15.size)
  clear M14 Rg2 m15
  have Rg2 := Lib.hid r15
  clear r15
  go_wp2_with (first
    | (at_builtin; refine wpl_app8 (dst := some 72) _ _ none 0 0 [] rfl rfl (OwnB.nil _) a4 k4 c4 _ rfl K4.out O4.out.sees (by omega) ?_; intro a20 c20 w20 o20 m20 n20)
    | (at_builtin; refine wpl_app8 (dst := some 74) _ _ a20 _ c20 _ rfl (by rw [List.nil_append]; exact K4.out) (Own.mod0 o20 (Mod.alloc [] w20 (.cells #[.int .u8 7] 5))) (some ⟨w20.heap.size, 0, none⟩) 1 1 [7] rfl rfl (Own.sees (l := [7]) (Own.new (sz := 1) (n := 1) (heap_alloc_new w20 (.cells #[.int .u8 7] 5)) (.inl rfl) rfl (by unfold maxLen; omega))) (by omega) ?_; intro a21 c21 w21 o21 m21 n21)
    | fail)
  have mAB : Mod [] w15 (w20.alloc (.cells #[.int .u8 7] 5)) := Mod.trans0 (by simpa [blk] using m20) (Mod.alloc _ _ _)
  have nAB : SameOrNew w15 (w20.alloc (.cells #[.int .u8 7] 5)) none a20 := n20.imp id (fun ⟨g, h1, h2, h3⟩ => ⟨g, h1, h2, by simp; omega⟩)
  have mAC : Mod [] w15 w21 := Mod.transNew mAB m21 nAB (by simp [blk])
  have nAC := nAB.trans n21 mAB.size m21.size
  rw [List.nil_append] at o21
  have eL7 : (c :: (enc7 n ++ (enc7 (zig m) ++ (enc7 t.length ++ t)))) ++ [7] = c :: (enc7 n ++ (enc7 (zig m) ++ (enc7 t.length ++ t ++ [7]))) := by simp
  rw [eL7] at o21
  have M16 := Lib.hid (M15.out.trans' mAC)
  have Rg2' := Lib.hid (Rg2.out.mod0 mAC)
  have cap21 := Own.cap_le o21
  have le21 := Own.le o21
  have K21 : Hid ((c :: (enc7 n ++ (enc7 (zig m) ++ (enc7 t.length ++ t ++ [7])))).length = k4 + 1) := by
    show _ = _; rw [← eL7, List.length_append, K4.out]; rfl
  rw [K21.out] at le21
  unfold maxLen at cap21
  have O21 := Lib.hid o21
  have GLT : Hid (g2 < w15.heap.size ∧ w4.heap.size ≤ w15.heap.size ∧ w15.heap.size ≤ w21.heap.size) := ⟨Rg2.out.lt, SZ.out, mAC.size⟩
  have N21 : Hid (∀ k, k ∈ blk a21 → w15.heap.size ≤ k) := fun k hk => by rcases nAC.blk k hk with h | h; simp [blk] at h; exact h
  have B4 : Hid (∀ k, k ∈ blkOf a4 (c :: (enc7 n ++ (enc7 (zig m) ++ (enc7 t.length ++ t).dropLast))) → k < w15.heap.size) := fun k hk => Nat.lt_of_lt_of_le (O4lt.out k (mem_blkOf hk).2) SZ.out
  clear mAB nAB mAC nAC m20 m21 n20 n21 o20 o21 M15 Rg2 SZ O4 O4lt eL7
  refine (newReader_any _ _ _ _ 200 _ K21.out le21 cap21 O21.out.sees).mono ?_
  rintro e w17 ⟨g3, rfl, r17, m17, z17⟩
  have M17 := Lib.hid (M16.out.trans' m17)
  have Gg3 : Hid (w.heap.size ≤ g3 ∧ w15.heap.size ≤ g3) := ⟨Nat.le_trans M16.out.size z17, Nat.le_trans GLT.out.2.2 z17⟩
  have Rg3 := Lib.hid r17
  have RX := Lib.hid (Rg2'.out.mod0 m17)
  clear M16 r17 m17 z17 Rg2' O21
  go_wp2_with fail
  refine (byte_any g3 _ 0 _ 200 _ Rg3.out).mono ?_
  rintro e w18 ⟨rfl, r18, m18⟩
  rw [E1.out] at r18 ⊢
  have M18 := Lib.hid (M17.out.new1 m18 Gg3.out.1)
  replace RX := Lib.hid (RX.out.keep m18 (by have h1 := GLT.out.1; have h2 := Gg3.out.2; omega) (fun k hk => Nat.lt_of_lt_of_le (B4.out k hk) Gg3.out.2))
  clear M17 Rg3 m18
  have Rg3 := Lib.hid r18
  clear r18
  go_wp2_with fail
  refine (ruint_any g3 _ 0 _ 200 _ Rg3.out).mono ?_
  rintro e w19 ⟨rfl, r19, m19⟩
  rw [E2.out] at r19 ⊢
  have M19 := Lib.hid (M18.out.new1 m19 Gg3.out.1)
  replace RX := Lib.hid (RX.out.keep m19 (by have h1 := GLT.out.1; have h2 := Gg3.out.2; omega) (fun k hk => Nat.lt_of_lt_of_le (B4.out k hk) Gg3.out.2))
  clear M18 Rg3 m19
  have Rg3 := Lib.hid r19
  clear r19
  go_wp2_with fail
  refine (rint_any g3 _ 0 _ 200 _ Rg3.out).mono ?_
  rintro e w20 ⟨rfl, r20, m20⟩
  rw [E3.out] at r20 ⊢
  dsimp only at r20 ⊢
  rw [E3z.out]
  have M20 := Lib.hid (M19.out.new1 m20 Gg3.out.1)
  replace RX := Lib.hid (RX.out.keep m20 (by have h1 := GLT.out.1; have h2 := Gg3.out.2; omega) (fun k hk => Nat.lt_of_lt_of_le (B4.out k hk) Gg3.out.2))
  clear M19 Rg3 m20
  have Rg3 := Lib.hid r20
  clear r20
  go_wp2_with fail
  refine (rtext_any g3 _ 0 _ 200 _ Rg3.out (by omega) (by omega)).mono ?_
  rintro e w21 ⟨rfl, r21, m21⟩
  rw [E6.out] at r21 ⊢
  have M21 := Lib.hid (M20.out.new1 m21 Gg3.out.1)
  replace RX := Lib.hid (RX.out.keep m21 (by have h1 := GLT.out.1; have h2 := Gg3.out.2; omega) (fun k hk => Nat.lt_of_lt_of_le (B4.out k hk) Gg3.out.2))
  clear M20 Rg3 m21
  have Rg3 := Lib.hid r21
  clear r21
  go_wp2_with fail
  refine (rdone_any g2 _ 10 _ 200 _ RX.out).mono ?_
  rintro e wA ⟨rfl, rA, mA⟩
  rw [show doneR 10 (textR 200 0 (enc7 t.length ++ t).dropLast).2.2 = 10 from rfl] at rA ⊢
  have MA := Lib.hid (M21.out.new1 mA Gg2.out.1)
  have RgA := Lib.hid (Rg3.out.mod mA (by have h1 := GLT.out.1; have h2 := Gg3.out.2; simp; omega) (by intro k hk; have h1 := GLT.out.1; have h2 := N21.out k (mem_blkOf hk).2; simp; omega))
  clear rA mA M21 Rg3 RX
  go_wp2_with fail
  refine (err_any g3 _ 0 _ 200 _ RgA.out).mono ?_
  rintro e wB ⟨rfl, rfl⟩
  go_wp2_with fail
  refine (rdone_any g3 _ 0 _ 200 _ RgA.out).mono ?_
  rintro e wC ⟨rfl, rC, mC⟩
  rw [show doneR 0 [7] = 11 from rfl] at rC ⊢
  have MC := Lib.hid (MA.out.new1 mC Gg3.out.1)
  clear rC mC MA RgA
  go_wp2_with fail
  refine (wakes01_any _).mono ?_
  rintro e wD ⟨rfl, mD⟩
  have MD := Lib.hid (MC.out.trans' mD)
  clear mD MC
  go_wp2
  go_ret
  exact ⟨rfl, MD.out⟩
end Go.Proofs.Ytodkjkfaaamlaaa
