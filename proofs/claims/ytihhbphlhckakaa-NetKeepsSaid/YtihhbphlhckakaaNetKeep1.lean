/- Whether two letters are alike; letters that nobody writes. -/
import Derived.Test.YtihhbphlhckakaaNetDid
namespace Go.Proofs.Ytihhbphlhckakaa
open Go Go.RowKit Go.Lib

theorem bytes_beq {a b : List UInt8} (h : ¬ a = b) : ((⟨a.toArray⟩ : ByteArray).toList == (⟨b.toArray⟩ : ByteArray).toList) = false := by
  rw [ByteArray.toList_eq, ByteArray.toList_eq, beq_eq_false_iff_ne]
  simpa using h
set_option maxRecDepth 100000 in
set_option maxHeartbeats 1000000 in
theorem alike_any (x y : Lt) (w : World) (h1 : Sees w x.2.2.1 x.2.2.2.2) (h2 : Sees w y.2.2.1 y.2.2.2.2) :
    Calls Try.prog 21 #[.agg #[.int .i64 x.1, .int .i64 x.2.1, .slice x.2.2.1 x.2.2.2.2.length x.2.2.2.1], .agg #[.int .i64 y.1, .int .i64 y.2.1, .slice y.2.2.1 y.2.2.2.2.length y.2.2.2.1]] w fun e w' => ∃ b : Bool, e = .returned (.bool b) ∧ (b = true ↔ stripL x = stripL y) ∧ Mod [] w w' := by
  obtain ⟨fr, to, ao, c, bs⟩ := x
  obtain ⟨fr2, to2, ao2, c2, bs2⟩ := y
  dsimp only [stripL] at h1 h2 ⊢
  have ma := Mod.alloc [] w (.cells #[.int .i64 fr, .int .i64 to, .slice ao bs.length c] 29)
  have mb := Mod.alloc [] (w.alloc (.cells #[.int .i64 fr, .int .i64 to, .slice ao bs.length c] 29)) (.cells #[.int .i64 fr2, .int .i64 to2, .slice ao2 bs2.length c2] 29)
  have M := Lib.hid (ma.trans' mb)
  have H1 := Lib.hid (h1.mod0 M.out)
  have H2 := Lib.hid (h2.mod0 M.out)
  by_cases hf : fr = fr2
  · by_cases ht : to = to2
    · by_cases hb : bs = bs2
      · subst hf ht hb
        refine (alike_eq fr to ao ao2 _ c c2 bs w rfl h1 h2).mono ?_
        rintro e w' ⟨rfl, m⟩
        exact ⟨true, rfl, by simp, m⟩
      · subst hf ht
        have HF : Hid (¬ ((fr, to, bs) = (fr, to, bs2))) := fun h => hb (by simpa using h)
        clear h1 h2 ma mb
        have cv1 := str_run2 (c := c) H1.out
        have cv2 := str_run2 (c := c2) H2.out
        have hbb : (bs == bs2) = false := by simpa using hb
        unfold strV at cv1 cv2
        clear hb
        go_enter Try.func21, Try.ntmps21
        go_wp2
        go_ret
        exact ⟨false, rfl, ⟨fun h => (by cases h), fun h => absurd h HF.out⟩, M.out⟩
    · subst hf
      have HF : Hid (¬ ((fr, to, bs) = (fr, to2, bs2))) := fun h => ht (by simp at h; exact h.1)
      clear h1 h2 ma mb H1 H2
      go_enter Try.func21, Try.ntmps21
      go_wp2
      go_ret
      exact ⟨false, rfl, ⟨fun h => (by cases h), fun h => absurd h HF.out⟩, M.out⟩
  · have HF : Hid (¬ ((fr, to, bs) = (fr2, to2, bs2))) := fun h => hf (by simp at h; exact h.1)
    clear h1 h2 ma mb H1 H2
    go_enter Try.func21, Try.ntmps21
    go_wp2
    go_ret
    exact ⟨false, rfl, ⟨fun h => (by cases h), fun h => absurd h HF.out⟩, M.out⟩

/-- A letter whose bytes lie where F is not. -/
def Safe (w : World) (F : List Nat) (x : Lt) : Prop := Sees w x.2.2.1 x.2.2.2.2 ∧ (x.2.2.2.2 ≠ [] → ∀ b off, x.2.2.1 = some ⟨b, off, none⟩ → b ∉ F)
theorem Safe.mod {w w' : World} {F F' S : List Nat} {x : Lt} (h : Safe w F x) (hm : Mod S w w') (hs : ∀ j, j ∈ S → j ∈ F ∨ w.heap.size ≤ j) (hf : ∀ j, j ∈ F' → j ∈ F ∨ w.heap.size ≤ j) : Safe w' F' x := by
  obtain ⟨h1, h2⟩ := h
  by_cases he : x.2.2.2.2 = []
  · refine ⟨?_, fun hn => absurd he hn⟩
    rw [he]
    exact fun j hj => absurd hj (Nat.not_lt_zero _)
  · have hlt : ∀ b off, x.2.2.1 = some ⟨b, off, none⟩ → b < w.heap.size := fun b off hb => by
      obtain ⟨b', off', e1, e2⟩ := h1 0 (by have := List.length_pos_iff.2 he; omega)
      rw [hb] at e1
      cases e1
      exact World.block_lt_of_cell? w _ e2
    exact ⟨h1.mod hm (fun b off hb hS => (hs b hS).elim (h2 he b off hb) (fun h => by have := hlt b off hb; omega)),
      fun _ b off hb hF => (hf b hF).elim (h2 he b off hb) (fun h => by have := hlt b off hb; omega)⟩
theorem Safe.mod0 {w w' : World} {F : List Nat} {x : Lt} (h : Safe w F x) (hm : Mod [] w w') : Safe w' F x := h.mod hm (by simp) (fun _ h => .inl h)
theorem Safe.old {w0 w : World} {F : List Nat} {x : Lt} (h : Sees w0 x.2.2.1 x.2.2.2.2) (hm : Mod [] w0 w) (hf : ∀ j, j ∈ F → w0.heap.size ≤ j) : Safe w F x := by
  refine ⟨h.mod0 hm, fun he b off hb hF => ?_⟩
  obtain ⟨b', off', e1, e2⟩ := h 0 (by have := List.length_pos_iff.2 he; omega)
  rw [hb] at e1
  cases e1
  have h3 := World.block_lt_of_cell? w0 _ e2
  have h4 := hf b hF
  simp at h3
  omega

/-- How many of a row are this one. -/
def cnt (s : Lr) (l : List Lr) : Nat := l.countP (fun x => decide (s = x))
theorem cnt_perm {s : Lr} {l l' : List Lr} (h : l.Perm l') : cnt s l = cnt s l' := h.countP_eq _
theorem cnt_step (s : Lr) (l : List Lr) (k : Nat) (h : k < l.length) : cnt s (l.take (k + 1)) = cnt s (l.take k) + (if s = l[k] then 1 else 0) := by
  unfold cnt
  rw [take_snoc l k h, List.countP_append, List.countP_singleton]
  by_cases hs : s = l[k] <;> simp [hs]
theorem perm_out : ∀ (L : List Lr) (k : Nat) (h : k < L.length), L.Perm (L[k] :: L.eraseIdx k)
  | x :: L, 0, _ => List.Perm.refl _
  | x :: L, k + 1, h => by
    have h1 := perm_out L k (by simpa using h)
    exact (List.Perm.cons x h1).trans (List.Perm.swap _ _ _)
theorem perm_take (lg L : List Lr) (k : Nat) (h : k < L.length) : (lg ++ L).Perm ((lg ++ [L[k]]) ++ L.eraseIdx k) := by
  rw [List.append_assoc]
  refine List.Perm.append_left lg ?_
  exact perm_out L k h
theorem perm_hold (lg L : List Lr) (k : Nat) (h : k < L.length) : (lg ++ L).Perm (lg ++ (L.eraseIdx k ++ [L[k]])) := by
  refine List.Perm.append_left lg ?_
  exact (perm_out L k h).trans (List.perm_append_comm (l₁ := [L[k]]))
end Go.Proofs.Ytihhbphlhckakaa
