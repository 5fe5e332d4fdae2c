/- The walks of the net package: a letter is lost, held, doubled. -/
import Derived.Test.YtihhbphlhckakaaNet5
namespace Go.Proofs.Ytihhbphlhckakaa
open Go Go.RowKit Go.Lib

set_option maxRecDepth 100000 in
theorem drop_in (g : Nat) (ra : Option Addr) (rc : Nat) (l : List Lt) (k : Nat) (w : World) (h : NetF w g ra rc l) (hk : k < l.length) (hl : l.length ≤ 1000) :
    Calls Try.prog 18 #[.pointer (some ⟨g, 0, none⟩), .int .i64 (k : Int)] w fun e w' => e = .returned (.int .i64 0) ∧
        ∃ ra' rc', NetF w' g ra' rc' (l.eraseIdx k) ∧ Mod (g :: blk ra) w w' ∧ SameOrNew w w' ra ra' := by
  have H := Lib.hid h
  clear h
  go_enter Try.func18, Try.ntmps18
  go_wp2_with fail
  refine (take_in g ra rc l k _ H.out hk hl).mono ?_
  rintro e w4 ⟨rfl, ra', rc', h4, m4, s4⟩
  have H4 := Lib.hid h4
  have M4 := Lib.hid m4
  have S4 := Lib.hid s4
  clear h4 m4 s4
  go_wp2
  go_ret
  exact ⟨rfl, ra', rc', H4.out.mod0 (Mod.alloc _ _ _), M4.out.trans' (Mod.alloc _ _ _), S4.out.imp id (fun ⟨g, h1, h2, h3⟩ => ⟨g, h1, h2, Nat.lt_of_lt_of_le h3 (by simp)⟩)⟩
set_option maxRecDepth 100000 in
theorem drop_out (g : Nat) (ra : Option Addr) (rc : Nat) (l : List Lt) (k : Int) (w : World) (h : NetF w g ra rc l) (hk : k < 0 ∨ (l.length : Int) ≤ k) :
    Calls Try.prog 18 #[.pointer (some ⟨g, 0, none⟩), .int .i64 k] w fun e w' => e = .returned (.int .i64 1) ∧ Mod [] w w' := by
  have H := Lib.hid h
  clear h
  go_enter Try.func18, Try.ntmps18
  go_wp2_with fail
  refine (take_out g ra rc l k _ H.out hk).mono ?_
  rintro e w4 ⟨rfl, m4⟩
  have M4 := Lib.hid m4
  clear m4
  go_wp2
  go_ret
  exact ⟨rfl, M4.out.trans' (Mod.alloc _ _ _)⟩

/-- The blocks of one letter are none of the others'. -/
theorem fpL_not (l : List Lt) : ∀ (k : Nat) (hk : k < l.length), (fpL l).Nodup → ∀ j, j ∈ blk l[k].2.2.1 → j ∉ fpL (l.eraseIdx k) := by
  induction l with
  | nil => intro k hk; exact absurd hk (by simp)
  | cons a r ih =>
    intro k hk hnd j hj hm
    have e : fpL (a :: r) = blk a.2.2.1 ++ fpL r := rfl
    rw [e, List.nodup_append] at hnd
    cases k with
    | zero => exact hnd.2.2 j hj j hm rfl
    | succ k =>
      have e2 : fpL ((a :: r).eraseIdx (k + 1)) = blk a.2.2.1 ++ fpL (r.eraseIdx k) := rfl
      rw [e2] at hm
      rcases List.mem_append.1 hm with h | h
      · have hj' : j ∈ fpL r := List.mem_flatMap.2 ⟨r[k]'(by simpa using hk), List.getElem_mem _, hj⟩
        exact hnd.2.2 j h j hj' rfl
      · exact ih k (by simpa using hk) hnd.2.1 j hj h
theorem NetF.apart {w : World} {g : Nat} {ra : Option Addr} {rc : Nat} {l : List Lt} (h : NetF w g ra rc l) {k : Nat} (hk : k < l.length) : ∀ j, j ∈ blk l[k].2.2.1 → j ≠ g ∧ j ∉ blk ra ∧ j ∉ fpL (l.eraseIdx k) ∧ j < w.heap.size := by
  intro j hj
  have hf : j ∈ fpL l := List.mem_flatMap.2 ⟨l[k], List.getElem_mem _, hj⟩
  have hnd := h.2.2.2
  rw [List.nodup_cons, List.nodup_append] at hnd
  refine ⟨?_, ?_, fpL_not l k hk hnd.2.2.1 j hj, Own.lt (h.2.2.1 l[k] (List.getElem_mem _)) j hj⟩
  · rintro rfl; exact hnd.1 (List.mem_append.2 (.inr hf))
  · intro hr; exact hnd.2.2.2 j hr j hf rfl

set_option maxRecDepth 100000 in
set_option maxHeartbeats 2000000 in
theorem hold1_any (g : Nat) (ra : Option Addr) (rc : Nat) (l : List Lt) (k : Nat) (bn bk : Nat) (w : World) (h : NetF w g ra rc l) (hk : k < l.length) (hl : l.length ≤ 256)
    (hn : w.cell? ⟨bn, 0, none⟩ = some (.pointer (some ⟨g, 0, none⟩))) (hkk : w.cell? ⟨bk, 0, none⟩ = some (.int .i64 (k : Int))) (d1 : ∀ j, j ∈ g :: (blk ra ++ fpL l) → j < bn ∧ j < bk) :
    Calls Try.prog 32 #[.agg #[.int .i64 l[k].1, .int .i64 l[k].2.1, .slice l[k].2.2.1 l[k].2.2.2.2.length l[k].2.2.2.1], .pointer (some ⟨bn, 0, none⟩), .pointer (some ⟨bk, 0, none⟩)] w fun e w' => ∃ v, e = .returned (.int .i64 v) ∧ v = 0 ∧
      ∃ ra' rc', NetF w' g ra' rc' (l.eraseIdx k ++ [l[k]]) ∧ Mod (g :: blk ra) w w' ∧ SameOrNew w w' ra ra' := by
  have H := Lib.hid h
  have D1 := Lib.hid d1
  have HA := Lib.hid (h.apart hk)
  have HOK := Lib.hid (h.2.2.1 l[k] (List.getElem_mem _))
  have hln := World.block_lt_of_cell? w _ hn
  have hlk := World.block_lt_of_cell? w _ hkk
  have HL := Lib.hid h.lt
  clear h d1
  obtain ⟨⟨fr, to, ao, c, bs⟩, hx⟩ : ∃ x, l[k] = x := ⟨_, rfl⟩
  rw [hx] at HA HOK ⊢
  dsimp only at HA HOK ⊢
  go_enter Try.func32, Try.ntmps32
  go_wp2_with fail
  have m1 := Mod.alloc [] w (.cells #[.int .i64 fr, .int .i64 to, .slice ao bs.length c] 29)
  have hb := heap_alloc_new w (.cells #[.int .i64 fr, .int .i64 to, .slice ao bs.length c] 29)
  refine (out_any g ra rc l k _ (H.out.mod0 m1) hk (by omega)).mono ?_
  rintro e w3 ⟨⟨v, rfl⟩, ra', rc', h3, m3, s3⟩
  have hnb : w.heap.size ∉ g :: blk ra := fun hj => by
    have := HL.out w.heap.size (by simp only [List.mem_cons, List.mem_append] at hj ⊢; rcases hj with h | h; exact .inl h; exact .inr (.inl h))
    omega
  have B3 := m3.get hb hnb
  have N3 : Hid (w3.cell? ⟨bn, 0, none⟩ = some (.pointer (some ⟨g, 0, none⟩))) := m3.cell (m1.cell hn (by simp)) (fun hj => by
    have := (D1.out bn (by simp only [List.mem_cons, List.mem_append] at hj ⊢; rcases hj with h | h; exact .inl h; exact .inr (.inl h))).1
    omega)
  have H3 := Lib.hid h3
  have O3 : Hid (OwnB w3 ao c bs) := (HOK.out.mod0 m1).mod m3 (fun j hj hm => by
    have := HA.out j hj
    rcases List.mem_cons.1 hm with h | h
    · exact this.1 h
    · exact this.2.1 h)
  have X3 : Hid (∀ j, j ∈ blk ao → j ∉ g :: (blk ra' ++ fpL (l.eraseIdx k))) := fun j hj hm => by
    have hh := HA.out j hj
    simp only [List.mem_cons, List.mem_append] at hm
    rcases hm with h | h | h
    · exact hh.1 h
    · rcases s3.blk j h with h | h
      · exact hh.2.1 h
      · simp at h; omega
    · exact hh.2.2.1 h
  have M3 : Hid (Mod (g :: blk ra) w w3) := m1.nil.trans' m3
  have S3 : Hid (SameOrNew w w3 ra ra') := s3.imp id (fun ⟨g, h1, h2, h3⟩ => ⟨g, h1, Nat.le_trans m1.size h2, h3⟩)
  have hle : (l.eraseIdx k).length < 256 := by rw [List.length_eraseIdx]; simp only [hk, if_true]; omega
  clear h3 m3 s3 m1 hb hn hkk
  have n3 := N3.out
  have b0 := cell_of_block (i := 0) B3
  have b1 := cell_of_block (i := 1) B3
  have b2 := cell_of_block (i := 2) B3
  go_wp2_with fail
  refine (behind_ok g ra' rc' (l.eraseIdx k) fr to ao bs.length c bs _ H3.out hle rfl O3.out X3.out).mono ?_
  rintro e w4 ⟨rfl, ra2, rc2, h4, m4, s4⟩
  have H4 := Lib.hid h4
  have M4 : Hid (Mod (g :: blk ra) w w4) := M3.out.trans m4 (fun j hj hl => by
    rcases List.mem_cons.1 hj with h | h
    · exact List.mem_cons.2 (.inl h)
    · rcases S3.out.blk j h with h | h
      · exact List.mem_cons.2 (.inr h)
      · omega)
  have S4 := Lib.hid (S3.out.trans s4 M3.out.size m4.size)
  clear h4 m4 s4 b0 b1 b2 n3 B3
  go_wp2
  go_ret
  exact ⟨0, rfl, rfl, ra2, rc2, H4.out, M4.out, S4.out⟩
set_option maxRecDepth 100000 in
set_option maxHeartbeats 2000000 in
theorem hold_in (g : Nat) (ra : Option Addr) (rc : Nat) (l : List Lt) (k : Nat) (w : World) (h : NetF w g ra rc l) (hk : k < l.length) (hl : l.length ≤ 256) :
    Calls Try.prog 19 #[.pointer (some ⟨g, 0, none⟩), .int .i64 (k : Int)] w fun e w' => e = .returned (.int .i64 0) ∧
        ∃ ra' rc', NetF w' g ra' rc' (l.eraseIdx k ++ [l[k]]) ∧ Mod (g :: blk ra) w w' ∧ SameOrNew w w' ra ra' := by
  have H := Lib.hid h
  have HL := Lib.hid h.lt
  clear h
  go_enter Try.func19, Try.ntmps19
  go_wp2_with fail
  have m1 := Mod.alloc [] w (.cells #[.pointer (some ⟨g, 0, none⟩)] 24)
  have m2 := Mod.alloc [] (w.alloc (.cells #[.pointer (some ⟨g, 0, none⟩)] 24)) (.cells #[.int .i64 (k : Int)] 3)
  have hm := m1.trans' m2
  have z1 : (w.alloc (.cells #[.pointer (some ⟨g, 0, none⟩)] 24)).heap.size = w.heap.size + 1 := by simp
  have e1 := m2.get (heap_alloc_new w (.cells #[.pointer (some ⟨g, 0, none⟩)] 24)) (by simp)
  have e2 := heap_alloc_new (w.alloc (.cells #[.pointer (some ⟨g, 0, none⟩)] 24)) (.cells #[.int .i64 (k : Int)] 3)
  rw [z1] at e2
  refine (with_hold g ra rc l k hk #[.pointer (some ⟨w.heap.size, 0, none⟩), .pointer (some ⟨w.heap.size + 1, 0, none⟩)] _ _ (H.out.mod0 hm)
    (hold1_any g ra rc l k w.heap.size (w.heap.size + 1) _ (H.out.mod0 hm) hk hl (by rw [cell_of_block e1]; rfl) (by rw [cell_of_block e2]; rfl) (fun j hj => by have := HL.out j hj; omega))).mono ?_
  rintro e w4 ⟨v, rfl, rfl, ra', rc', h5, m5, s5⟩
  have H5 := Lib.hid h5
  have M5 : Hid (Mod (g :: blk ra) w w4) := hm.nil.trans' m5
  have S5 : Hid (SameOrNew w w4 ra ra') := s5.imp id (fun ⟨g, h1, h2, h3⟩ => ⟨g, h1, Nat.le_trans hm.size h2, h3⟩)
  clear h5 m5 s5 m1 m2 hm e1 e2 z1
  go_wp2
  go_ret
  exact ⟨rfl, ra', rc', H5.out, M5.out, S5.out⟩
set_option maxRecDepth 100000 in
theorem hold_out (g : Nat) (ra : Option Addr) (rc : Nat) (l : List Lt) (k : Int) (w : World) (h : NetF w g ra rc l) (hk : k < 0 ∨ (l.length : Int) ≤ k) :
    Calls Try.prog 19 #[.pointer (some ⟨g, 0, none⟩), .int .i64 k] w fun e w' => e = .returned (.int .i64 1) ∧ Mod [] w w' := by
  have H := Lib.hid h
  clear h
  go_enter Try.func19, Try.ntmps19
  go_wp2_with fail
  refine (with_out g ra rc l k hk _ _ (H.out.mod0 (.ofBelow (by go_grown)))).mono ?_
  rintro e w4 ⟨rfl, rfl⟩
  go_wp2
  go_ret
  exact ⟨rfl, .ofBelow (by go_grown)⟩
set_option maxRecDepth 100000 in
theorem hold_nil (k : Int) (w : World) :
    Calls Try.prog 19 #[.pointer none, .int .i64 k] w fun e w' => e = .returned (.int .i64 2) ∧ Mod [] w w' := by
  go_enter Try.func19, Try.ntmps19
  go_wp2_with fail
  refine (with_nil k _ _).mono ?_
  rintro e w4 ⟨rfl, rfl⟩
  go_wp2
  go_ret
  exact ⟨rfl, .ofBelow (by go_grown)⟩
end Go.Proofs.Ytihhbphlhckakaa
