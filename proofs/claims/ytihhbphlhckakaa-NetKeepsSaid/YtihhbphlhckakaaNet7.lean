/- The walks of the net package: a letter is doubled, spoilt; all letters. -/
import Derived.Test.YtihhbphlhckakaaNet6
namespace Go.Proofs.Ytihhbphlhckakaa
open Go Go.RowKit Go.Lib

set_option maxRecDepth 100000 in
set_option maxHeartbeats 2000000 in
theorem double1_ok (g : Nat) (ra : Option Addr) (rc : Nat) (l : List Lt) (k : Nat) (bn : Nat) (w : World) (h : NetF w g ra rc l) (hk : k < l.length) (hl : l.length < 256) (hsz : l[k].2.2.2.2.length ≤ 1000000)
    (hn : w.cell? ⟨bn, 0, none⟩ = some (.pointer (some ⟨g, 0, none⟩))) (d1 : ∀ j, j ∈ g :: (blk ra ++ fpL l) → j < bn) :
    Calls Try.prog 26 #[.agg #[.int .i64 l[k].1, .int .i64 l[k].2.1, .slice l[k].2.2.1 l[k].2.2.2.2.length l[k].2.2.2.1], .pointer (some ⟨bn, 0, none⟩)] w fun e w' => ∃ v, e = .returned (.int .i64 v) ∧ v = 0 ∧ ∃ a2 c2 ra' rc', NetF w' g ra' rc' (l ++ [(l[k].1, l[k].2.1, a2, c2, l[k].2.2.2.2)]) ∧ Mod (g :: blk ra) w w' ∧ SameOrNew w w' ra ra' ∧ ∀ j, j ∈ blk a2 → w.heap.size ≤ j := by
  have H := Lib.hid h
  have D1 := Lib.hid d1
  have HOK := Lib.hid (h.2.2.1 l[k] (List.getElem_mem _)).sees
  have hln := World.block_lt_of_cell? w _ hn
  have HL := Lib.hid h.lt
  clear h d1
  obtain ⟨⟨fr, to, ao, c, bs⟩, hx⟩ : ∃ x, l[k] = x := ⟨_, rfl⟩
  rw [hx] at HOK hsz ⊢
  dsimp only at HOK hsz ⊢
  go_enter Try.func26, Try.ntmps26
  go_upto_region 1 with (fail)
  have m1 := Mod.alloc [] w (.cells #[.int .i64 fr, .int .i64 to, .slice ao bs.length c] 29)
  have hb := heap_alloc_new w (.cells #[.int .i64 fr, .int .i64 to, .slice ao bs.length c] 29)
  refine rest_start (g :: blk ra) 5 #[false, false, false, false, false] rfl (by kernel_rfl) (by kernel_rfl) ?_
  intro w1 mm
  have hkin : ∀ j, j ∈ g :: blk ra → j ∈ g :: (blk ra ++ fpL l) := fun j hj => by
    simp only [List.mem_cons, List.mem_append] at hj ⊢
    rcases hj with h | h
    · exact .inl h
    · exact .inr (.inl h)
  have NK : Hid (bn ∉ g :: blk ra) := fun hj => by have := D1.out bn (hkin _ hj); omega
  have NK2 : Hid (w.heap.size ∉ g :: blk ra) := fun hj => by have := HL.out _ (hkin _ hj); omega
  have hb1 := mm.get hb (by simp)
  have N1 := Lib.hid (mm.cell (m1.cell hn (by simp)) (by simp))
  have X0 := Lib.hid (cell_of_block (i := 0) hb1)
  have X1 := Lib.hid (cell_of_block (i := 1) hb1)
  have X2 := Lib.hid (cell_of_block (i := 2) hb1)
  have mm2 := m1.trans' mm
  have M1 := Lib.hid mm2
  have H1 := Lib.hid (H.out.mod0 mm2)
  have O1 := Lib.hid (HOK.out.mod0 mm2)
  clear m1 hb mm hb1 mm2 hn hkin
  refine rest_got (i := 0) (v := ?v1) rfl (by kernel_rfl) (by kernel_rfl) (by kernel_rfl) (fun _ _ _ h => h) (by rfl) ?y1 ?r1
  case y1 => ((intro w9' hm9'; have hc9' := Mod.cell hm9' N1.out NK.out; clear hm9'; go_simp; with_reducible rfl))
  try simp only [Act.put, List.setIfInBounds_toArray, List.set_cons_zero, List.set_cons_succ]
  refine rest_got (i := 1) (v := ?v2) rfl (by kernel_rfl) (by kernel_rfl) (by kernel_rfl) (fun _ _ _ h => h) (by rfl) ?y2 ?r2
  case y2 => ((intro w9' hm9'; have hc9' := Mod.cell hm9' X0.out NK2.out; have hd9' := Mod.cell hm9' X1.out NK2.out; have he9' := Mod.cell hm9' X2.out NK2.out; clear hm9'; go_simp; with_reducible rfl))
  try simp only [Act.put, List.setIfInBounds_toArray, List.set_cons_zero, List.set_cons_succ]
  refine rest_one (i := 2) (by kernel_rfl) rfl (by rfl) ?_
  go_wp2_with fail
  refine (copied_any fr to ao bs.length c bs _ rfl O1.out (by omega)).mono ?_
  rintro e w2 ⟨a2, c2, rfl, o2, m2, s2⟩
  have H2 := Lib.hid (H1.out.mod0 m2)
  have M2 := Lib.hid (M1.out.trans' m2)
  have O2 := Lib.hid o2
  have S2 : Hid (∀ k, k ∈ blk a2 → w.heap.size ≤ k) := fun k hk => by
    rcases s2.blk k hk with h | h
    · simp [blk] at h
    · exact Nat.le_trans M1.out.size h
  go_wp2_with fail
  refine back_to (K1 := g :: blk ra) m2.nil (fun _ h _ => h) ?_
  clear o2 m2 s2 H1 M1 O1 X0 X1 X2 N1 NK NK2
  
  refine rest_one (i := 3) (by kernel_rfl) rfl (by rfl) ?_
  go_wp2_with fail
  refine (behind_ok g ra rc l fr to a2 bs.length c2 bs _ H2.out hl rfl O2.out (fun j hj hm => by have := S2.out j hj; have := HL.out j hm; omega)).mono ?_
  rintro e w3 ⟨rfl, ra', rc', h3, m3, s3⟩
  have H3 := Lib.hid h3
  have M3 : Hid (Mod (g :: blk ra) w w3) := M2.out.nil.trans' m3
  have S3 : Hid (SameOrNew w w3 ra ra') := s3.imp id (fun ⟨g, h1, h2, h3⟩ => ⟨g, h1, Nat.le_trans M2.out.size h2, h3⟩)
  go_wp2_with fail
  refine back_to (K1 := []) m3 (by simp) ?_
  clear h3 m3 s3
  refine rest_got (i := 4) (v := ?v3) rfl (by kernel_rfl) (by kernel_rfl) (by kernel_rfl) (fun _ _ _ h => h) (by rfl) ?y3 ?r3
  case y3 => (intro w9q hSwq; clear hSwq; go_simp; with_reducible rfl)
  try simp only [Act.put, List.setIfInBounds_toArray, List.set_cons_zero, List.set_cons_succ]
  refine rest_done (by kernel_rfl) ?_ _
  go_wp2
  go_ret
  exact ⟨0, rfl, rfl, a2, c2, ra', rc', H3.out, M3.out, S3.out, S2.out⟩
set_option maxRecDepth 100000 in
set_option maxHeartbeats 2000000 in
theorem double1_full (g : Nat) (ra : Option Addr) (rc : Nat) (l : List Lt) (k : Nat) (bn : Nat) (w : World) (h : NetF w g ra rc l) (hk : k < l.length) (hl : l.length = 256) (hsz : l[k].2.2.2.2.length ≤ 1000000)
    (hn : w.cell? ⟨bn, 0, none⟩ = some (.pointer (some ⟨g, 0, none⟩))) (d1 : ∀ j, j ∈ g :: (blk ra ++ fpL l) → j < bn) :
    Calls Try.prog 26 #[.agg #[.int .i64 l[k].1, .int .i64 l[k].2.1, .slice l[k].2.2.1 l[k].2.2.2.2.length l[k].2.2.2.1], .pointer (some ⟨bn, 0, none⟩)] w fun e w' => ∃ v, e = .returned (.int .i64 v) ∧ v = 30 ∧ Mod [] w w' := by
  have H := Lib.hid h
  have D1 := Lib.hid d1
  have HOK := Lib.hid (h.2.2.1 l[k] (List.getElem_mem _)).sees
  have hln := World.block_lt_of_cell? w _ hn
  have HL := Lib.hid h.lt
  clear h d1
  obtain ⟨⟨fr, to, ao, c, bs⟩, hx⟩ : ∃ x, l[k] = x := ⟨_, rfl⟩
  rw [hx] at HOK hsz ⊢
  dsimp only at HOK hsz ⊢
  go_enter Try.func26, Try.ntmps26
  go_upto_region 1 with (fail)
  have m1 := Mod.alloc [] w (.cells #[.int .i64 fr, .int .i64 to, .slice ao bs.length c] 29)
  have hb := heap_alloc_new w (.cells #[.int .i64 fr, .int .i64 to, .slice ao bs.length c] 29)
  refine rest_start (g :: blk ra) 5 #[false, false, false, false, false] rfl (by kernel_rfl) (by kernel_rfl) ?_
  intro w1 mm
  have hkin : ∀ j, j ∈ g :: blk ra → j ∈ g :: (blk ra ++ fpL l) := fun j hj => by
    simp only [List.mem_cons, List.mem_append] at hj ⊢
    rcases hj with h | h
    · exact .inl h
    · exact .inr (.inl h)
  have NK : Hid (bn ∉ g :: blk ra) := fun hj => by have := D1.out bn (hkin _ hj); omega
  have NK2 : Hid (w.heap.size ∉ g :: blk ra) := fun hj => by have := HL.out _ (hkin _ hj); omega
  have hb1 := mm.get hb (by simp)
  have N1 := Lib.hid (mm.cell (m1.cell hn (by simp)) (by simp))
  have X0 := Lib.hid (cell_of_block (i := 0) hb1)
  have X1 := Lib.hid (cell_of_block (i := 1) hb1)
  have X2 := Lib.hid (cell_of_block (i := 2) hb1)
  have mm2 := m1.trans' mm
  have M1 := Lib.hid mm2
  have H1 := Lib.hid (H.out.mod0 mm2)
  have O1 := Lib.hid (HOK.out.mod0 mm2)
  clear m1 hb mm hb1 mm2 hn hkin
  refine rest_got (i := 0) (v := ?v4) rfl (by kernel_rfl) (by kernel_rfl) (by kernel_rfl) (fun _ _ _ h => h) (by rfl) ?y4 ?r4
  case y4 => ((intro w9' hm9'; have hc9' := Mod.cell hm9' N1.out NK.out; clear hm9'; go_simp; with_reducible rfl))
  try simp only [Act.put, List.setIfInBounds_toArray, List.set_cons_zero, List.set_cons_succ]
  refine rest_got (i := 1) (v := ?v5) rfl (by kernel_rfl) (by kernel_rfl) (by kernel_rfl) (fun _ _ _ h => h) (by rfl) ?y5 ?r5
  case y5 => ((intro w9' hm9'; have hc9' := Mod.cell hm9' X0.out NK2.out; have hd9' := Mod.cell hm9' X1.out NK2.out; have he9' := Mod.cell hm9' X2.out NK2.out; clear hm9'; go_simp; with_reducible rfl))
  try simp only [Act.put, List.setIfInBounds_toArray, List.set_cons_zero, List.set_cons_succ]
  refine rest_one (i := 2) (by kernel_rfl) rfl (by rfl) ?_
  go_wp2_with fail
  refine (copied_any fr to ao bs.length c bs _ rfl O1.out (by omega)).mono ?_
  rintro e w2 ⟨a2, c2, rfl, o2, m2, s2⟩
  have H2 := Lib.hid (H1.out.mod0 m2)
  have M2 := Lib.hid (M1.out.trans' m2)
  have O2 := Lib.hid o2
  have S2 : Hid (∀ k, k ∈ blk a2 → w.heap.size ≤ k) := fun k hk => by
    rcases s2.blk k hk with h | h
    · simp [blk] at h
    · exact Nat.le_trans M1.out.size h
  go_wp2_with fail
  refine back_to (K1 := g :: blk ra) m2.nil (fun _ h _ => h) ?_
  clear o2 m2 s2 H1 M1 O1 X0 X1 X2 N1 NK NK2
  
  refine rest_one (i := 3) (by kernel_rfl) rfl (by rfl) ?_
  go_wp2_with fail
  refine (behind_full g ra rc l fr to a2 bs.length c2 _ H2.out hl).mono ?_
  rintro e w3 ⟨rfl, m3⟩
  have M3 := Lib.hid (M2.out.trans' m3)
  go_wp2_with fail
  refine back_to (K1 := []) m3.nil (by simp) ?_
  clear m3
  refine rest_got (i := 4) (v := ?v6) rfl (by kernel_rfl) (by kernel_rfl) (by kernel_rfl) (fun _ _ _ h => h) (by rfl) ?y6 ?r6
  case y6 => (intro w9q hSwq; clear hSwq; go_simp; with_reducible rfl)
  try simp only [Act.put, List.setIfInBounds_toArray, List.set_cons_zero, List.set_cons_succ]
  refine rest_done (by kernel_rfl) ?_ _
  go_wp2
  go_ret
  exact ⟨30, rfl, rfl, M3.out⟩
set_option maxRecDepth 100000 in
set_option maxHeartbeats 2000000 in
theorem double_ok (g : Nat) (ra : Option Addr) (rc : Nat) (l : List Lt) (k : Nat) (w : World) (h : NetF w g ra rc l) (hk : k < l.length) (hl : l.length < 256) (hsz : l[k].2.2.2.2.length ≤ 1000000) :
    Calls Try.prog 11 #[.pointer (some ⟨g, 0, none⟩), .int .i64 (k : Int)] w fun e w' => e = .returned (.int .i64 0) ∧ ∃ a2 c2 ra' rc', NetF w' g ra' rc' (l ++ [(l[k].1, l[k].2.1, a2, c2, l[k].2.2.2.2)]) ∧ Mod (g :: blk ra) w w' ∧ SameOrNew w w' ra ra' ∧ ∀ j, j ∈ blk a2 → w.heap.size ≤ j := by
  have H := Lib.hid h
  have HL := Lib.hid h.lt
  clear h
  go_enter Try.func11, Try.ntmps11
  go_wp2_with fail
  have m1 := Mod.alloc [] w (.cells #[.pointer (some ⟨g, 0, none⟩)] 24)
  have e1 := heap_alloc_new w (.cells #[.pointer (some ⟨g, 0, none⟩)] 24)
  refine (with_double g ra rc l k hk #[.pointer (some ⟨w.heap.size, 0, none⟩)] _ _ (H.out.mod0 m1)
    (double1_ok g ra rc l k w.heap.size _ (H.out.mod0 m1) hk hl hsz (by rw [cell_of_block e1]; rfl) (fun j hj => HL.out j hj))).mono ?_
  rintro e w4 ⟨v, rfl, rfl, a2, c2, ra', rc', h5, m5, s5, b5⟩
  have H5 := Lib.hid h5
  have M5 : Hid (Mod (g :: blk ra) w w4) := m1.nil.trans' m5
  have S5 : Hid (SameOrNew w w4 ra ra') := s5.imp id (fun ⟨g, h1, h2, h3⟩ => ⟨g, h1, Nat.le_trans m1.size h2, h3⟩)
  have B5 : Hid (∀ j, j ∈ blk a2 → w.heap.size ≤ j) := fun j hj => Nat.le_trans m1.size (b5 j hj)
  clear h5 m5 s5 m1 e1 b5
  go_wp2
  go_ret
  exact ⟨rfl, a2, c2, ra', rc', H5.out, M5.out, S5.out, B5.out⟩
set_option maxRecDepth 100000 in
set_option maxHeartbeats 2000000 in
theorem double_full (g : Nat) (ra : Option Addr) (rc : Nat) (l : List Lt) (k : Nat) (w : World) (h : NetF w g ra rc l) (hk : k < l.length) (hl : l.length = 256) (hsz : l[k].2.2.2.2.length ≤ 1000000) :
    Calls Try.prog 11 #[.pointer (some ⟨g, 0, none⟩), .int .i64 (k : Int)] w fun e w' => e = .returned (.int .i64 30) ∧ Mod [] w w' := by
  have H := Lib.hid h
  have HL := Lib.hid h.lt
  clear h
  go_enter Try.func11, Try.ntmps11
  go_wp2_with fail
  have m1 := Mod.alloc [] w (.cells #[.pointer (some ⟨g, 0, none⟩)] 24)
  have e1 := heap_alloc_new w (.cells #[.pointer (some ⟨g, 0, none⟩)] 24)
  refine (with_double g ra rc l k hk #[.pointer (some ⟨w.heap.size, 0, none⟩)] _ _ (H.out.mod0 m1)
    (double1_full g ra rc l k w.heap.size _ (H.out.mod0 m1) hk hl hsz (by rw [cell_of_block e1]; rfl) (fun j hj => HL.out j hj))).mono ?_
  rintro e w4 ⟨v, rfl, rfl, m5⟩
  have M5 : Hid (Mod [] w w4) := m1.trans' m5
  clear m5 m1 e1
  go_wp2
  go_ret
  exact ⟨rfl, M5.out⟩
set_option maxRecDepth 100000 in
theorem double_out (g : Nat) (ra : Option Addr) (rc : Nat) (l : List Lt) (k : Int) (w : World) (h : NetF w g ra rc l) (hk : k < 0 ∨ (l.length : Int) ≤ k) :
    Calls Try.prog 11 #[.pointer (some ⟨g, 0, none⟩), .int .i64 k] w fun e w' => e = .returned (.int .i64 1) ∧ Mod [] w w' := by
  have H := Lib.hid h
  clear h
  go_enter Try.func11, Try.ntmps11
  go_wp2_with fail
  refine (with_out g ra rc l k hk _ _ (H.out.mod0 (.ofBelow (by go_grown)))).mono ?_
  rintro e w4 ⟨rfl, rfl⟩
  go_wp2
  go_ret
  exact ⟨rfl, .ofBelow (by go_grown)⟩
set_option maxRecDepth 100000 in
theorem double_nil (k : Int) (w : World) :
    Calls Try.prog 11 #[.pointer none, .int .i64 k] w fun e w' => e = .returned (.int .i64 2) ∧ Mod [] w w' := by
  go_enter Try.func11, Try.ntmps11
  go_wp2_with fail
  refine (with_nil k _ _).mono ?_
  rintro e w4 ⟨rfl, rfl⟩
  go_wp2
  go_ret
  exact ⟨rfl, .ofBelow (by go_grown)⟩
set_option maxRecDepth 100000 in
theorem spoil_out (g : Nat) (ra : Option Addr) (rc : Nat) (l : List Lt) (k : Int) (bit : Int) (w : World) (h : NetF w g ra rc l) (hk : k < 0 ∨ (l.length : Int) ≤ k) :
    Calls Try.prog 13 #[.pointer (some ⟨g, 0, none⟩), .int .i64 k, .int .i64 bit] w fun e w' => e = .returned (.int .i64 1) ∧ Mod [] w w' := by
  have H := Lib.hid h
  clear h
  go_enter Try.func13, Try.ntmps13
  go_wp2_with fail
  refine (with_out g ra rc l k hk _ _ (H.out.mod0 (.ofBelow (by go_grown)))).mono ?_
  rintro e w4 ⟨rfl, rfl⟩
  go_wp2
  go_ret
  exact ⟨rfl, .ofBelow (by go_grown)⟩
set_option maxRecDepth 100000 in
theorem spoil_nil (k : Int) (bit : Int) (w : World) :
    Calls Try.prog 13 #[.pointer none, .int .i64 k, .int .i64 bit] w fun e w' => e = .returned (.int .i64 2) ∧ Mod [] w w' := by
  go_enter Try.func13, Try.ntmps13
  go_wp2_with fail
  refine (with_nil k _ _).mono ?_
  rintro e w4 ⟨rfl, rfl⟩
  go_wp2
  go_ret
  exact ⟨rfl, .ofBelow (by go_grown)⟩
theorem len_nil (w : World) : Calls Try.prog 20 #[.pointer none] w fun e w' => e = .returned (.int .i64 0) ∧ w' = w := by
  go_enter Try.func20, Try.ntmps20
  go_wp2
  go_ret
  exact ⟨rfl, rfl⟩
theorem new_any (w : World) : Calls Try.prog 9 #[] w fun e w' => ∃ g, e = .returned (.pointer (some ⟨g, 0, none⟩)) ∧ NetW w' g [g] [] ∧ Mod [] w w' ∧ w.heap.size ≤ g := by
  go_enter Try.func9, Try.ntmps9
  go_wp2
  go_ret
  exact ⟨w.heap.size, rfl, ⟨none, 0, [], ⟨heap_alloc_new w _, Own.nil0 _ _ _, by simp, by simp [blk, fpL]⟩, rfl, rfl⟩, Mod.alloc _ _ _, Nat.le_refl _⟩
end Go.Proofs.Ytihhbphlhckakaa
