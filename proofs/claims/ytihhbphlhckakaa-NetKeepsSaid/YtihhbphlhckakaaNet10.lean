/- The net package, by what its letters say: from, to, bytes. -/
import Derived.Test.YtihhbphlhckakaaNet9
namespace Go.Proofs.Ytihhbphlhckakaa
open Go Go.RowKit Go.Lib

theorem map_erase {α β : Type} (f : α → β) (l : List α) (k : Nat) : (l.eraseIdx k).map f = (l.map f).eraseIdx k := by
  rw [List.eraseIdx_eq_take_drop_succ, List.eraseIdx_eq_take_drop_succ, List.map_append, List.map_take, List.map_drop]
theorem sub_of {g : Nat} {ra : Option Addr} {l : List Lt} : ∀ j, j ∈ g :: blk ra → j ∈ g :: (blk ra ++ fpL l) := fun j hj => by
  simp only [List.mem_cons, List.mem_append] at hj ⊢
  rcases hj with h | h
  · exact .inl h
  · exact .inr (.inl h)
theorem fpL_mem {l : List Lt} {x : Lt} (hx : x ∈ l) : ∀ j, j ∈ blk x.2.2.1 → j ∈ fpL l := fun j hj => List.mem_flatMap.2 ⟨x, hx, hj⟩

theorem len_w (g : Nat) (F : List Nat) (L : List (Int × Int × List UInt8)) (w : World) (h : NetW w g F L) :
    Calls Try.prog 20 #[.pointer (some ⟨g, 0, none⟩)] w fun e w' => e = .returned (.int .i64 (L.length : Int)) ∧ w' = w := by
  obtain ⟨ra, rc, l, h1, rfl, rfl⟩ := h
  have := nlen_any g ra rc l w h1
  simpa using this
theorem hold_w (g : Nat) (F : List Nat) (L : List (Int × Int × List UInt8)) (k : Nat) (w : World) (h : NetW w g F L) (hk : k < L.length) (hl : L.length ≤ 256) :
    Calls Try.prog 19 #[.pointer (some ⟨g, 0, none⟩), .int .i64 (k : Int)] w fun e w' => e = .returned (.int .i64 0) ∧ Moved w w' g F (L.eraseIdx k ++ [L[k]]) := by
  obtain ⟨ra, rc, l, h1, rfl, rfl⟩ := h
  have hk' : k < l.length := by simpa using hk
  refine (hold_in g ra rc l k w h1 hk' (by simpa using hl)).mono ?_
  rintro e w' ⟨rfl, ra', rc', h2, m2, s2⟩
  refine ⟨rfl, g :: (blk ra' ++ fpL (l.eraseIdx k ++ [l[k]])), ⟨ra', rc', _, h2, by simp [map_erase], rfl⟩, m2.weaken sub_of, fun j hj => ?_⟩
  rw [fpL_append] at hj
  simp only [List.mem_cons, List.mem_append] at hj ⊢
  rcases hj with h | h | h | h
  · exact .inl (.inl h)
  · rcases s2.blk j h with h | h
    · exact .inl (.inr (.inl h))
    · exact .inr h
  · exact .inl (.inr (.inr ((fpL_erase l k).subset h)))
  · exact .inl (.inr (.inr (fpL_mem (List.getElem_mem hk') j h)))
theorem double_w (g : Nat) (F : List Nat) (L : List (Int × Int × List UInt8)) (k : Nat) (w : World) (h : NetW w g F L) (hk : k < L.length) (hl : L.length < 256) (hz : L[k].2.2.length ≤ 1000000) :
    Calls Try.prog 11 #[.pointer (some ⟨g, 0, none⟩), .int .i64 (k : Int)] w fun e w' => e = .returned (.int .i64 0) ∧ Moved w w' g F (L ++ [L[k]]) := by
  obtain ⟨ra, rc, l, h1, rfl, rfl⟩ := h
  have hk' : k < l.length := by simpa using hk
  refine (double_ok g ra rc l k w h1 hk' (by simpa using hl) (by simpa [stripL] using hz)).mono ?_
  rintro e w' ⟨rfl, a2, c2, ra', rc', h2, m2, s2, b2⟩
  refine ⟨rfl, g :: (blk ra' ++ fpL (l ++ [(l[k].1, l[k].2.1, a2, c2, l[k].2.2.2.2)])), ⟨ra', rc', _, h2, by simp [stripL], rfl⟩, m2.weaken sub_of, fun j hj => ?_⟩
  rw [fpL_append] at hj
  simp only [List.mem_cons, List.mem_append] at hj ⊢
  rcases hj with h | h | h | h
  · exact .inl (.inl h)
  · rcases s2.blk j h with h | h
    · exact .inl (.inr (.inl h))
    · exact .inr h
  · exact .inl (.inr (.inr h))
  · exact .inr (b2 j h)
theorem double_fullw (g : Nat) (F : List Nat) (L : List (Int × Int × List UInt8)) (k : Nat) (w : World) (h : NetW w g F L) (hk : k < L.length) (hl : L.length = 256) (hz : L[k].2.2.length ≤ 1000000) :
    Calls Try.prog 11 #[.pointer (some ⟨g, 0, none⟩), .int .i64 (k : Int)] w fun e w' => e = .returned (.int .i64 30) ∧ Mod [] w w' := by
  obtain ⟨ra, rc, l, h1, rfl, rfl⟩ := h
  have hk' : k < l.length := by simpa using hk
  exact double_full g ra rc l k w h1 hk' (by simpa using hl) (by simpa [stripL] using hz)
theorem take_w (g : Nat) (F : List Nat) (L : List (Int × Int × List UInt8)) (k : Nat) (w : World) (h : NetW w g F L) (hk : k < L.length) (hl : L.length ≤ 1000) :
    Calls Try.prog 14 #[.pointer (some ⟨g, 0, none⟩), .int .i64 (k : Int)] w fun e w' => ∃ ao c, e = .returned (.tuple #[.agg #[.int .i64 L[k].1, .int .i64 L[k].2.1, .slice ao L[k].2.2.length c], .int .i64 0]) ∧
      OwnB w' ao c L[k].2.2 ∧ ∃ F', NetW w' g F' (L.eraseIdx k) ∧ Mod F w w' ∧ (∀ j, j ∈ F' → j ∈ F ∨ w.heap.size ≤ j) ∧ (∀ j, j ∈ blk ao → j ∈ F ∧ j ∉ F') := by
  obtain ⟨ra, rc, l, h1, rfl, rfl⟩ := h
  have hk' : k < l.length := by simpa using hk
  have ha := h1.apart hk'
  have ho := h1.2.2.1 l[k] (List.getElem_mem _)
  have hlt := h1.lt
  refine (take_in g ra rc l k w h1 hk' (by simpa using hl)).mono ?_
  rintro e w' ⟨rfl, ra', rc', h2, m2, s2⟩
  refine ⟨l[k].2.2.1, l[k].2.2.2.1, by simp [stripL], ?_, g :: (blk ra' ++ fpL (l.eraseIdx k)), ⟨ra', rc', _, h2, map_erase _ _ _, rfl⟩, m2.weaken sub_of, fun j hj => ?_, fun j hj => ⟨?_, fun hm => ?_⟩⟩
  · have : (l.map stripL)[k].2.2 = l[k].2.2.2.2 := by simp [stripL]
    rw [this]
    exact ho.mod m2 (fun j hj hm => by
      rcases List.mem_cons.1 hm with h | h
      · exact (ha j hj).1 h
      · exact (ha j hj).2.1 h)
  · simp only [List.mem_cons, List.mem_append] at hj ⊢
    rcases hj with h | h | h
    · exact .inl (.inl h)
    · rcases s2.blk j h with h | h
      · exact .inl (.inr (.inl h))
      · exact .inr h
    · exact .inl (.inr (.inr ((fpL_erase l k).subset h)))
  · simp only [List.mem_cons, List.mem_append]
    exact .inr (.inr (fpL_mem (List.getElem_mem hk') j hj))
  · have hh := ha j hj
    simp only [List.mem_cons, List.mem_append] at hm
    rcases hm with h | h | h
    · exact hh.1 h
    · rcases s2.blk j h with h | h
      · exact hh.2.1 h
      · omega
    · exact hh.2.2.1 h
theorem drop_w (g : Nat) (F : List Nat) (L : List (Int × Int × List UInt8)) (k : Nat) (w : World) (h : NetW w g F L) (hk : k < L.length) (hl : L.length ≤ 1000) :
    Calls Try.prog 18 #[.pointer (some ⟨g, 0, none⟩), .int .i64 (k : Int)] w fun e w' => e = .returned (.int .i64 0) ∧ Moved w w' g F (L.eraseIdx k) := by
  obtain ⟨ra, rc, l, h1, rfl, rfl⟩ := h
  have hk' : k < l.length := by simpa using hk
  refine (drop_in g ra rc l k w h1 hk' (by simpa using hl)).mono ?_
  rintro e w' ⟨rfl, ra', rc', h2, m2, s2⟩
  refine ⟨rfl, g :: (blk ra' ++ fpL (l.eraseIdx k)), ⟨ra', rc', _, h2, map_erase _ _ _, rfl⟩, m2.weaken sub_of, fun j hj => ?_⟩
  simp only [List.mem_cons, List.mem_append] at hj ⊢
  rcases hj with h | h | h
  · exact .inl (.inl h)
  · rcases s2.blk j h with h | h
    · exact .inl (.inr (.inl h))
    · exact .inr h
  · exact .inl (.inr (.inr ((fpL_erase l k).subset h)))
theorem spoil_w (g : Nat) (F : List Nat) (L : List (Int × Int × List UInt8)) (k bit j r : Nat) (w : World) (h : NetW w g F L) (hk : k < L.length) (hj : bit / 8 = j) (hr : bit % 8 = r) (hb : j < L[k].2.2.length) (hz : L[k].2.2.length ≤ 1000000) :
    Calls Try.prog 13 #[.pointer (some ⟨g, 0, none⟩), .int .i64 (k : Int), .int .i64 (bit : Int)] w fun e w' => e = .returned (.int .i64 0) ∧ Moved w w' g F (L.set k (L[k].1, L[k].2.1, L[k].2.2.set j (flip8 L[k].2.2[j] r))) := by
  obtain ⟨ra, rc, l, h1, rfl, rfl⟩ := h
  have hk' : k < l.length := by simpa using hk
  have e0 : (l.map stripL)[k] = (l[k].1, l[k].2.1, l[k].2.2.2.2) := by simp [stripL]
  have hb' : j < l[k].2.2.2.2.length := by simpa [stripL] using hb
  refine (spoil_ok g ra rc l k bit j r w h1 hk' hj hr hb' (by simpa [stripL] using hz)).mono ?_
  rintro e w' ⟨rfl, m2, h2⟩
  refine ⟨rfl, g :: (blk ra ++ fpL l), ⟨ra, rc, _, h2, ?_, by rw [fpL_set l k hk' (putB l[k] (l[k].2.2.2.2.set j (flip8 l[k].2.2.2.2[j] r))) rfl]⟩, m2.weaken (fun i hi => ?_), fun i hi => .inl hi⟩
  · rw [List.map_set]
    congr 1
    simp [stripL, putB]
  · simp only [List.mem_cons, List.mem_append]
    exact .inr (.inr (fpL_mem (List.getElem_mem hk') i hi))
theorem spoil_badw (g : Nat) (F : List Nat) (L : List (Int × Int × List UInt8)) (k : Nat) (bit : Int) (w : World) (h : NetW w g F L) (hk : k < L.length) (hb : bit < 0 ∨ (L[k].2.2.length : Int) ≤ bit / 8) (hmx : bit ≤ 9223372036854775807) :
    Calls Try.prog 13 #[.pointer (some ⟨g, 0, none⟩), .int .i64 (k : Int), .int .i64 bit] w fun e w' => e = .returned (.int .i64 1) ∧ Mod [] w w' := by
  obtain ⟨ra, rc, l, h1, rfl, rfl⟩ := h
  have hk' : k < l.length := by simpa using hk
  exact spoil_bad g ra rc l k bit w h1 hk' (by simpa [stripL] using hb) hmx
theorem letters_w (g : Nat) (F : List Nat) (L : List (Int × Int × List UInt8)) (w : World) (h : NetW w g F L) (hl : L.length ≤ 1000) (hz : ∀ x ∈ L, x.2.2.length ≤ 1000000) :
    Calls Try.prog 12 #[.pointer (some ⟨g, 0, none⟩)] w fun e w' => ∃ a c l2, e = .returned (.slice a L.length c) ∧ l2.map stripL = L ∧ Lets w' a c l2 ∧ (∀ j, j ∈ blk a ++ fpL l2 → w.heap.size ≤ j) ∧ Mod [] w w' := by
  obtain ⟨ra, rc, l, h1, rfl, rfl⟩ := h
  have := letters_any g ra rc l w h1 (by simpa using hl) (fun x hx => hz (stripL x) (List.mem_map.2 ⟨x, hx, rfl⟩))
  simpa using this
end Go.Proofs.Ytihhbphlhckakaa
