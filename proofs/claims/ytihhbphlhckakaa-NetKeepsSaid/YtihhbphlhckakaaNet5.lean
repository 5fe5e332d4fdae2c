/- The walks of the net package: a letter is taken, lost. -/
import Derived.Test.YtihhbphlhckakaaNet4
namespace Go.Proofs.Ytihhbphlhckakaa
open Go Go.RowKit Go.Lib

theorem three_set {w : World} {g : Nat} {t : TypeId} {a b c : Value} (h : w.heap[g]? = some (.cells #[a, b, c] t (0, 0))) (u v x : Value) :
    (((w.setCell ⟨g, 0, none⟩ u).setCell ⟨g, 1, none⟩ v).setCell ⟨g, 2, none⟩ x).heap[g]? = some (.cells #[u, v, x] t (0, 0)) := by
  rw [heap_setCell_same (heap_setCell_same (heap_setCell_same h u) v) x]; rfl

set_option maxRecDepth 100000 in
set_option maxHeartbeats 2000000 in
theorem take1_any (g : Nat) (ra : Option Addr) (rc : Nat) (l : List Lt) (k : Nat) (fr to : Int) (ao : Option Addr) (n c : Nat) (bo bn bk : Nat) (v0 v1 v2 : Value) (w : World) (h : NetF w g ra rc l) (hk : k < l.length) (hl : l.length ≤ 1000)
    (ho : w.heap[bo]? = some (.cells #[v0, v1, v2] 29 (0, 0))) (hn : w.cell? ⟨bn, 0, none⟩ = some (.pointer (some ⟨g, 0, none⟩))) (hkk : w.cell? ⟨bk, 0, none⟩ = some (.int .i64 (k : Int)))
    (d1 : ∀ j, j ∈ g :: (blk ra ++ fpL l) → j < bo) (d2 : bn ≠ bo) (d3 : bk ≠ bo) :
    Calls Try.prog 28 #[.agg #[.int .i64 fr, .int .i64 to, .slice ao n c], .pointer (some ⟨bo, 0, none⟩), .pointer (some ⟨bn, 0, none⟩), .pointer (some ⟨bk, 0, none⟩)] w fun e w' => ∃ v, e = .returned (.int .i64 v) ∧ v = 0 ∧
      w'.heap[bo]? = some (.cells #[.int .i64 fr, .int .i64 to, .slice ao n c] 29 (0, 0)) ∧ ∃ ra' rc', NetF w' g ra' rc' (l.eraseIdx k) ∧ Mod (bo :: g :: blk ra) w w' ∧ SameOrNew w w' ra ra' := by
  have H := Lib.hid h
  have HO := Lib.hid ho
  have D1 := Lib.hid d1
  have e0 := cell_of_block (i := 0) ho
  have e1 := cell_of_block (i := 1) ho
  have e2 := cell_of_block (i := 2) ho
  have f0 := free_of_block (i := 0) ho
  have f1 := free_of_block (i := 1) ho
  have f2 := free_of_block (i := 2) ho
  have hlo := lt_of_block ho
  have hln := World.block_lt_of_cell? w _ hn
  have hlk := World.block_lt_of_cell? w _ hkk
  clear h ho d1
  go_enter Try.func28, Try.ntmps28
  go_wp2_with fail
  have m1 := three_mod w bo (.int .i64 fr) (.int .i64 to) (.slice ao n c)
  have m2 := Mod.alloc [bo] (((w.setCell ⟨bo, 0, none⟩ (.int .i64 fr)).setCell ⟨bo, 1, none⟩ (.int .i64 to)).setCell ⟨bo, 2, none⟩ (.slice ao n c)) (.cells #[.int .i64 fr, .int .i64 to, .slice ao n c] 29)
  have M2 := Lib.hid (m1.trans' m2)
  have H2 := Lib.hid (H.out.mod M2.out (fun j hj hjb => by have := D1.out j hj; simp at hjb; omega))
  have HO2 := Lib.hid ((Mod.alloc [] _ (.cells #[.int .i64 fr, .int .i64 to, .slice ao n c] 29)).get (three_set HO.out (.int .i64 fr) (.int .i64 to) (.slice ao n c)) (by simp))
  clear m1 m2 e0 e1 e2 f0 f1 f2
  refine (out_any g ra rc l k _ H2.out hk hl).mono ?_
  rintro e w3 ⟨⟨v, rfl⟩, ra', rc', h3, m3, s3⟩
  have H3 := Lib.hid h3
  have HO3 := Lib.hid (m3.get HO2.out (fun hj => by
    have := D1.out bo (by
      simp only [List.mem_cons, List.mem_append] at hj ⊢
      rcases hj with h | h
      · exact .inl h
      · exact .inr (.inl h))
    omega))
  have M3 : Hid (Mod (bo :: g :: blk ra) w w3) := (M2.out.weaken (fun j hj => by simp at hj; simp [hj])).trans m3 (fun j hj _ => List.mem_cons.2 (.inr hj))
  have S3 : Hid (SameOrNew w w3 ra ra') := s3.imp id (fun ⟨g, h1, h2, h3⟩ => ⟨g, h1, Nat.le_trans M2.out.size h2, h3⟩)
  clear h3 m3 s3
  go_wp2
  go_ret
  exact ⟨0, rfl, rfl, HO3.out, ra', rc', H3.out, M3.out, S3.out⟩

set_option maxRecDepth 100000 in
set_option maxHeartbeats 2000000 in
theorem take_in (g : Nat) (ra : Option Addr) (rc : Nat) (l : List Lt) (k : Nat) (w : World) (h : NetF w g ra rc l) (hk : k < l.length) (hl : l.length ≤ 1000) :
    Calls Try.prog 14 #[.pointer (some ⟨g, 0, none⟩), .int .i64 (k : Int)] w fun e w' =>
      e = .returned (.tuple #[.agg #[.int .i64 l[k].1, .int .i64 l[k].2.1, .slice l[k].2.2.1 l[k].2.2.2.2.length l[k].2.2.2.1], .int .i64 0]) ∧
        ∃ ra' rc', NetF w' g ra' rc' (l.eraseIdx k) ∧ Mod (g :: blk ra) w w' ∧ SameOrNew w w' ra ra' := by
  have H := Lib.hid h
  have HL := Lib.hid h.lt
  clear h
  go_enter Try.func14, Try.ntmps14
  go_wp2_with fail
  have m1 := Mod.alloc [] w (.cells #[.pointer (some ⟨g, 0, none⟩)] 24)
  have m2 := Mod.alloc [] (w.alloc (.cells #[.pointer (some ⟨g, 0, none⟩)] 24)) (.cells #[.int .i64 (k : Int)] 3)
  have m3 := Mod.alloc [] ((w.alloc (.cells #[.pointer (some ⟨g, 0, none⟩)] 24)).alloc (.cells #[.int .i64 (k : Int)] 3)) (.cells #[.int .i64 0, .int .i64 0, .slice none 0 0] 29)
  have hm := (m1.trans' m2).trans' m3
  have z1 : (w.alloc (.cells #[.pointer (some ⟨g, 0, none⟩)] 24)).heap.size = w.heap.size + 1 := by simp
  have z2 : ((w.alloc (.cells #[.pointer (some ⟨g, 0, none⟩)] 24)).alloc (.cells #[.int .i64 (k : Int)] 3)).heap.size = w.heap.size + 1 + 1 := by simp
  have e1 := m3.get (m2.get (heap_alloc_new w (.cells #[.pointer (some ⟨g, 0, none⟩)] 24)) (by simp)) (by simp)
  have e2 := m3.get (heap_alloc_new (w.alloc (.cells #[.pointer (some ⟨g, 0, none⟩)] 24)) (.cells #[.int .i64 (k : Int)] 3)) (by simp)
  have e3 := heap_alloc_new ((w.alloc (.cells #[.pointer (some ⟨g, 0, none⟩)] 24)).alloc (.cells #[.int .i64 (k : Int)] 3)) (.cells #[.int .i64 0, .int .i64 0, .slice none 0 0] 29)
  rw [z1] at e2
  rw [z2] at e3
  refine (with_take g ra rc l k hk #[.pointer (some ⟨w.heap.size + 1 + 1, 0, none⟩), .pointer (some ⟨w.heap.size, 0, none⟩), .pointer (some ⟨w.heap.size + 1, 0, none⟩)] _ _ (H.out.mod0 hm)
    (take1_any g ra rc l k l[k].1 l[k].2.1 l[k].2.2.1 l[k].2.2.2.2.length l[k].2.2.2.1 (w.heap.size + 1 + 1) w.heap.size (w.heap.size + 1) _ _ _ _ (H.out.mod0 hm) hk hl e3 (by rw [cell_of_block e1]; rfl) (by rw [cell_of_block e2]; rfl) (fun j hj => by have := HL.out j hj; omega) (by omega) (by omega))).mono ?_
  rintro e w4 ⟨v, rfl, rfl, h4, ra', rc', h5, m5, s5⟩
  have H5 := Lib.hid h5
  have M5 : Hid (Mod (g :: blk ra) w w4) := hm.nil.trans m5 (fun j hj hjl => by
    rcases List.mem_cons.1 hj with h | h
    · omega
    · exact h)
  have S5 : Hid (SameOrNew w w4 ra ra') := s5.imp id (fun ⟨g, h1, h2, h3⟩ => ⟨g, h1, Nat.le_trans hm.size h2, h3⟩)
  have H4 := Lib.hid h4
  have HB : Hid (∀ j, j ∈ g :: (blk ra' ++ fpL (l.eraseIdx k)) → j ≠ w.heap.size + 1 + 1) := fun j hj he => by
    have hlt5 := HL.out
    simp only [List.mem_cons, List.mem_append] at hj
    rcases hj with h | h | h
    · have := hlt5 j (by simp [h]); omega
    · rcases s5.blk j h with h | h
      · have := hlt5 j (by simp [h]); omega
      · simp at h; omega
    · have := hlt5 j (by simp [(fpL_erase l k).subset h]); omega
  clear h4 h5 m5 s5 m1 m2 m3 hm e1 e2 e3 z1 z2
  have c0 := cell_of_block (i := 0) H4.out
  have c1 := cell_of_block (i := 1) H4.out
  have c2 := cell_of_block (i := 2) H4.out
  have f0 := free_of_block (i := 0) H4.out
  have f1 := free_of_block (i := 1) H4.out
  have f2 := free_of_block (i := 2) H4.out
  go_wp2
  ((try simp only [Exit.inBlock, Exit.then]); refine bodyPost_ret (by simp [results, Try.results14, go_sem, *]; try rfl) rfl ?_)
  have m6 := three_mod w4 (w.heap.size + 1 + 1) (.int .i64 l[k].1) (.int .i64 l[k].2.1) (.slice l[k].2.2.1 l[k].2.2.2.2.length l[k].2.2.2.1)
  exact ⟨rfl, ra', rc', H5.out.mod m6 (fun j hj => by simpa using HB.out j hj), M5.out.trans m6 (fun j hj hjl => by simp at hj; omega), S5.out.imp id (fun ⟨g, h1, h2, h3⟩ => ⟨g, h1, h2, Nat.lt_of_lt_of_le h3 m6.size⟩)⟩

set_option maxRecDepth 100000 in
set_option maxHeartbeats 2000000 in
theorem take_out (g : Nat) (ra : Option Addr) (rc : Nat) (l : List Lt) (k : Int) (w : World) (h : NetF w g ra rc l) (hk : k < 0 ∨ (l.length : Int) ≤ k) :
    Calls Try.prog 14 #[.pointer (some ⟨g, 0, none⟩), .int .i64 k] w fun e w' => e = .returned (.tuple #[.agg #[.int .i64 0, .int .i64 0, .slice none 0 0], .int .i64 1]) ∧ Mod [] w w' := by
  have H := Lib.hid h
  clear h
  go_enter Try.func14, Try.ntmps14
  go_wp2_with fail
  refine (with_out g ra rc l k hk _ _ (H.out.mod0 (.ofBelow (by go_grown)))).mono ?_
  rintro e w4 ⟨rfl, rfl⟩
  go_wp2
  ((try simp only [Exit.inBlock, Exit.then]); refine bodyPost_ret (by simp [results, Try.results14, go_sem, *]; try rfl) rfl ?_)
  exact ⟨rfl, .ofBelow (by go_grown)⟩
set_option maxRecDepth 100000 in
theorem take_nil (k : Int) (w : World) :
    Calls Try.prog 14 #[.pointer none, .int .i64 k] w fun e w' => e = .returned (.tuple #[.agg #[.int .i64 0, .int .i64 0, .slice none 0 0], .int .i64 2]) ∧ Mod [] w w' := by
  go_enter Try.func14, Try.ntmps14
  go_wp2_with fail
  refine (with_nil k _ _).mono ?_
  rintro e w4 ⟨rfl, rfl⟩
  go_wp2
  ((try simp only [Exit.inBlock, Exit.then]); refine bodyPost_ret (by simp [results, Try.results14, go_sem, *]; try rfl) rfl ?_)
  exact ⟨rfl, .ofBelow (by go_grown)⟩
set_option maxRecDepth 100000 in
theorem drop_nil (k : Int) (w : World) :
    Calls Try.prog 18 #[.pointer none, .int .i64 k] w fun e w' => e = .returned (.int .i64 2) ∧ Mod [] w w' := by
  go_enter Try.func18, Try.ntmps18
  go_wp2_with fail
  refine (take_nil k _).mono ?_
  rintro e w4 ⟨rfl, m4⟩
  have M4 := Lib.hid m4
  clear m4
  go_wp2
  go_ret
  exact ⟨rfl, M4.out.trans' (Mod.alloc _ _ _)⟩
end Go.Proofs.Ytihhbphlhckakaa
