/- The methods of a pool, a pool as its texts, generations and what is lent. -/
import Derived.Test.YtfpmdacpmcdleaaPool5
namespace Go.Proofs.Ytfpmdacpmcdleaa
open Go Go.RowKit Go.Lib

theorem over_get (arr l : List UInt8) (of x : Nat) (h : of + l.length ≤ arr.length) : (arr.take of ++ l ++ arr.drop (of + l.length))[x]? = if x < of then arr[x]? else if x < of + l.length then l[x - of]? else arr[x]? := by
  have e1 : (arr.take of).length = of := by simp; omega
  by_cases h1 : x < of
  · rw [if_pos h1, List.append_assoc, List.getElem?_append_left (by omega), List.getElem?_take, if_pos h1]
  · rw [if_neg h1, List.append_assoc, List.getElem?_append_right (by omega), e1]
    by_cases h2 : x < of + l.length
    · rw [if_pos h2, List.getElem?_append_left (by omega)]
    · rw [if_neg h2, List.getElem?_append_right (by omega), List.getElem?_drop]
      congr 1
      omega
theorem over_at (arr l : List UInt8) (of : Nat) (h : of + l.length ≤ arr.length) : ((arr.take of ++ l ++ arr.drop (of + l.length)).drop of).take l.length = l := by
  apply List.ext_getElem?
  intro j
  rw [List.getElem?_take, List.getElem?_drop, over_get arr l of _ h]
  by_cases hj : j < l.length
  · rw [if_pos hj, if_neg (by omega), if_pos (by omega), Nat.add_sub_cancel_left]
  · rw [if_neg hj, List.getElem?_eq_none (by omega)]
theorem over_far (arr l : List UInt8) (of p m : Nat) (h : of + l.length ≤ arr.length) (hd : p + m ≤ of ∨ of + l.length ≤ p) : ((arr.take of ++ l ++ arr.drop (of + l.length)).drop p).take m = (arr.drop p).take m := by
  apply List.ext_getElem?
  intro j
  rw [List.getElem?_take, List.getElem?_drop, List.getElem?_take, List.getElem?_drop, over_get arr l of _ h]
  by_cases hj : j < m
  · rw [if_pos hj, if_pos hj]
    rcases hd with hd | hd
    · rw [if_pos (by omega)]
    · rw [if_neg (by omega), if_neg (by omega)]
  · rw [if_neg hj, if_neg hj]

/-- A buffer: its text, its generation, whether it is lent. -/
abbrev Bm := List UInt8 × Int × Bool
/-- The buffers show these. -/
def Fits (sz : Nat) (bufs : List Bf) (arr : List UInt8) (L : List Bm) : Prop :=
  bufs.length = L.length ∧ arr.length = L.length * sz ∧ ∀ j (h1 : j < bufs.length) (h2 : j < L.length), bufs[j] = (j * sz, L[j].1.length, L[j].2.1, L[j].2.2) ∧ L[j].1.length ≤ sz ∧ (arr.drop (j * sz)).take L[j].1.length = L[j].1
theorem slot_in {sz k n : Nat} (h : k < n) : k * sz + sz ≤ n * sz := by
  have := Nat.mul_le_mul_right sz (show k + 1 ≤ n by omega)
  rw [Nat.add_mul, Nat.one_mul] at this
  exact this
theorem Fits.put {sz : Nat} {bufs : List Bf} {arr : List UInt8} {L : List Bm} (h : Fits sz bufs arr L) (k : Nat) (hk : k < L.length) (l : List UInt8) (gn : Int) (t : Bool) (hl : l.length ≤ sz) :
    Fits sz (bufs.set k (k * sz, l.length, gn, t)) (arr.take (k * sz) ++ l ++ arr.drop (k * sz + l.length)) (L.set k (l, gn, t)) := by
  obtain ⟨h1, h2, h3⟩ := h
  have h4 := slot_in (sz := sz) hk
  refine ⟨by simpa using h1, ?_, ?_⟩
  · simp only [List.length_append, List.length_take, List.length_drop, List.length_set]
    omega
  · intro j hj1 hj2
    have hj1' : j < bufs.length := by simpa using hj1
    have hj2' : j < L.length := by simpa using hj2
    rw [List.getElem_set, List.getElem_set]
    by_cases hkj : k = j
    · subst hkj
      rw [if_pos rfl, if_pos rfl]
      exact ⟨rfl, hl, over_at arr l _ (by omega)⟩
    · rw [if_neg hkj, if_neg hkj]
      obtain ⟨e1, e2, e3⟩ := h3 j hj1' hj2'
      refine ⟨e1, e2, ?_⟩
      rw [over_far arr l _ _ _ (by omega) ?_]
      · exact e3
      · rcases Nat.lt_or_gt_of_ne hkj with h | h
        · right
          have := slot_in (sz := sz) h
          omega
        · left
          have := slot_in (sz := sz) h
          omega
theorem Fits.mark {sz : Nat} {bufs : List Bf} {arr : List UInt8} {L : List Bm} (h : Fits sz bufs arr L) (k : Nat) (hk : k < L.length) (gn : Int) (t : Bool) :
    Fits sz (bufs.set k (k * sz, L[k].1.length, gn, t)) arr (L.set k (L[k].1, gn, t)) := by
  obtain ⟨h1, h2, h3⟩ := h
  refine ⟨by simpa using h1, by simpa using h2, ?_⟩
  intro j hj1 hj2
  have hj1' : j < bufs.length := by simpa using hj1
  have hj2' : j < L.length := by simpa using hj2
  rw [List.getElem_set, List.getElem_set]
  obtain ⟨e1, e2, e3⟩ := h3 j hj1' hj2'
  by_cases hkj : k = j
  · subst hkj
    rw [if_pos rfl, if_pos rfl]
    exact ⟨rfl, e2, e3⟩
  · rw [if_neg hkj, if_neg hkj]
    exact ⟨e1, e2, e3⟩
theorem Fits.clear {sz : Nat} {bufs : List Bf} {arr : List UInt8} {L : List Bm} (h : Fits sz bufs arr L) (k : Nat) (hk : k < L.length) (gn : Int) (t : Bool) :
    Fits sz (bufs.set k (k * sz, 0, gn, t)) arr (L.set k ([], gn, t)) := by
  have := h.put k hk [] gn t (by simp)
  simpa using this

/-- A pool; F: all its blocks. -/
def PoolW (w : World) (g : Nat) (F : List Nat) (sz : Nat) (L : List Bm) (fr : List Nat) : Prop :=
  ∃ b lc fa fc ab bufs arr, PoolF w g (some ⟨b, 0, none⟩) lc fa fc ab sz bufs fr arr ∧ F = g :: b :: ab :: blk fa ∧ Fits sz bufs arr L ∧ sz ≤ 65536 ∧ (∀ i, i ∈ fr → i < L.length)
theorem PoolW.mod {S : List Nat} {w w' : World} {g : Nat} {F : List Nat} {sz : Nat} {L : List Bm} {fr : List Nat} (h : PoolW w g F sz L fr) (hm : Mod S w w') (hs : ∀ k, k ∈ F → k ∉ S) : PoolW w' g F sz L fr := by
  obtain ⟨b, lc, fa, fc, ab, bufs, arr, h1, rfl, h2⟩ := h
  exact ⟨b, lc, fa, fc, ab, bufs, arr, h1.mod hm (fun k hk => hs k (by simp [blk] at hk ⊢; rcases hk with h | h | h | h; simp [h]; simp [h]; exact .inr (.inr (.inr h)); simp [h])), rfl, h2⟩
theorem PoolW.mod0 {w w' : World} {g : Nat} {F : List Nat} {sz : Nat} {L : List Bm} {fr : List Nat} (h : PoolW w g F sz L fr) (hm : Mod [] w w') : PoolW w' g F sz L fr := h.mod hm (by simp)
theorem PoolW.lt {w : World} {g : Nat} {F : List Nat} {sz : Nat} {L : List Bm} {fr : List Nat} (h : PoolW w g F sz L fr) : ∀ k, k ∈ F → k < w.heap.size := by
  obtain ⟨b, lc, fa, fc, ab, bufs, arr, h1, rfl, h2⟩ := h
  intro k hk
  refine h1.lt k ?_
  simp [blk] at hk ⊢
  rcases hk with h | h | h | h
  · simp [h]
  · simp [h]
  · simp [h]
  · exact .inr (.inr (.inl h))
/-- What a method leaves. -/
def PMoved (w w' : World) (g : Nat) (F : List Nat) (sz : Nat) (L : List Bm) (fr : List Nat) : Prop :=
  ∃ F', PoolW w' g F' sz L fr ∧ Mod F w w' ∧ ∀ k, k ∈ F' → k ∈ F ∨ w.heap.size ≤ k
theorem PMoved.same {w w' : World} {g : Nat} {F : List Nat} {sz : Nat} {L : List Bm} {fr : List Nat} (h : PoolW w g F sz L fr) (hm : Mod [] w w') : PMoved w w' g F sz L fr :=
  ⟨F, h.mod0 hm, hm.nil, fun _ hk => .inl hk⟩
theorem PMoved.later {a b c : World} {g : Nat} {F : List Nat} {sz : Nat} {L : List Bm} {fr : List Nat} (hm : Mod [] a b) (h : PMoved b c g F sz L fr) : PMoved a c g F sz L fr := by
  obtain ⟨F', h1, h2, h3⟩ := h
  exact ⟨F', h1, hm.nil.trans' h2, fun k hk => (h3 k hk).imp id (fun h => Nat.le_trans hm.size h)⟩

theorem free_w (g : Nat) (F : List Nat) (sz : Nat) (L : List Bm) (fr : List Nat) (w : World) (h : PoolW w g F sz L fr) :
    Calls Try.prog 10 #[.pointer (some ⟨g, 0, none⟩)] w fun e w' => e = .returned (.int .i64 (fr.length : Int)) ∧ w' = w := by
  obtain ⟨b, lc, fa, fc, ab, bufs, arr, h1, rfl, h2⟩ := h
  exact free_any g _ lc fa fc ab sz bufs fr arr w h1
theorem get_fullw (g : Nat) (F : List Nat) (sz : Nat) (L : List Bm) (w : World) (h : PoolW w g F sz L []) :
    Calls Try.prog 6 #[.pointer (some ⟨g, 0, none⟩)] w fun e w' => e = .returned (.tuple #[.agg #[.int .i64 0, .int .u32 0], .int .i64 30]) ∧ Mod [] w w' := by
  obtain ⟨b, lc, fa, fc, ab, bufs, arr, h1, rfl, h2⟩ := h
  exact get_full g _ lc fa fc ab sz bufs arr w h1
theorem get_w (g : Nat) (F : List Nat) (sz : Nat) (L : List Bm) (fr : List Nat) (i : Nat) (hi : i < L.length) (w : World) (h : PoolW w g F sz L (fr ++ [i])) :
    Calls Try.prog 6 #[.pointer (some ⟨g, 0, none⟩)] w fun e w' => e = .returned (.tuple #[.agg #[.int .i64 (i : Int), .int .u32 (IntKind.u32.wrap (L[i].2.1 + 1))], .int .i64 0]) ∧
      PMoved w w' g F sz (L.set i ([], IntKind.u32.wrap (L[i].2.1 + 1), true)) fr := by
  obtain ⟨b, lc, fa, fc, ab, bufs, arr, h1, rfl, h2, h3, h4⟩ := h
  have hi' : i < bufs.length := by rw [h2.1]; exact hi
  obtain ⟨e1, e2, e3⟩ := h2.2.2 i hi' hi
  refine (get_ok g _ lc fa fc ab sz bufs fr i arr w h1 hi').mono ?_
  rintro e w' ⟨rfl, h5, h6⟩
  rw [e1] at h5 ⊢
  refine ⟨rfl, _, ⟨b, lc, fa, fc, ab, _, arr, h5, rfl, h2.clear i hi _ _, h3, fun j hj => by rw [List.length_set]; exact h4 j (by simp [hj])⟩, h6.weaken (fun k hk => by simp [blk] at hk; rcases hk with h | h <;> simp [h]), fun k hk => .inl hk⟩

set_option maxRecDepth 100000 in
set_option maxHeartbeats 2000000 in
theorem back_w (g : Nat) (F : List Nat) (sz : Nat) (L : List Bm) (fr : List Nat) (k : Nat) (gn : Int) (hk : k < L.length) (w : World) (h : PoolW w g F sz L fr) (hl : L[k].2.2 = true) (hg : L[k].2.1 = gn) (hfr : fr.length ≤ 100000) :
    Calls Try.prog 8 #[.pointer (some ⟨g, 0, none⟩), .agg #[.int .i64 (k : Int), .int .u32 gn]] w fun e w' => e = .returned (.int .i64 0) ∧ PMoved w w' g F sz (L.set k (L[k].1, gn, false)) (fr ++ [k]) := by
  have HL := Lib.hid h.lt
  obtain ⟨b, lc, fa, fc, ab, bufs, arr, h1, rfl, h2, h3, h4⟩ := h
  have hk' : k < bufs.length := by rw [h2.1]; exact hk
  obtain ⟨e1, e2, e3⟩ := h2.2.2 k hk' hk
  have H := Lib.hid h1
  have h12 : bufs[k].2.2.2 = true := by rw [e1]; exact hl
  have h13 : bufs[k].2.2.1 = gn := by rw [e1]; exact hg
  have HX := Lib.hid (And.intro h12 h13)
  have HE := Lib.hid e1
  have HF := Lib.hid (And.intro h2 (And.intro h3 h4))
  have HG := Lib.hid hg
  clear h1 e1 e2 e3 h12 h13 h2 h3 h4 hl hg
  go_enter Try.func8, Try.ntmps8
  go_wp2_with fail
  have ma := Mod.alloc [] w (.cells #[.pointer (some ⟨g, 0, none⟩)] 23)
  have mb := Mod.alloc [] (w.alloc (.cells #[.pointer (some ⟨g, 0, none⟩)] 23)) (.cells #[.int .i64 (k : Int), .int .u32 gn] 29)
  have z1 : (w.alloc (.cells #[.pointer (some ⟨g, 0, none⟩)] 23)).heap.size = w.heap.size + 1 := by simp
  have ea := mb.get (heap_alloc_new w (.cells #[.pointer (some ⟨g, 0, none⟩)] 23)) (by simp)
  have eb := heap_alloc_new (w.alloc (.cells #[.pointer (some ⟨g, 0, none⟩)] 23)) (.cells #[.int .i64 (k : Int), .int .u32 gn] 29)
  rw [z1] at eb
  refine (with_back g b lc fa fc ab sz bufs fr arr k gn _ (g :: b :: blk fa) (fun v w' => v = 0 ∧ PMoved w w' g (g :: b :: ab :: blk fa) sz (L.set k (L[k].1, gn, false)) (fr ++ [k])) _ (H.out.mod0 (ma.trans' mb)) hk' HX.out.1 HX.out.2 ?_).mono ?_
  · intro w1 m1
    have mm := (ma.trans' mb).trans' m1
    have h1 := H.out.mod0 mm
    have hlt := HL.out
    have nf : ∀ j, w.heap.size ≤ j → j ∉ g :: b :: blk fa := fun j hj hm => by
      have := hlt j (by rcases List.mem_cons.1 hm with h | h; simp [h]; rcases List.mem_cons.1 h with h | h; simp [h]; simp [h])
      omega
    refine (back1_any g b lc fa fc ab sz bufs fr arr k w.heap.size (w.heap.size + 1) w1 h1 hk' hfr (m1.cell (by rw [cell_of_block ea]; rfl) (by simp)) (m1.cell (by rw [cell_of_block eb]; rfl) (by simp)) (nf _ (Nat.le_refl _)) (nf _ (by omega))).mono ?_
    rintro e w' ⟨v, rfl, ⟨rfl, fa', fc', h2, h3⟩, h4⟩
    refine ⟨0, rfl, ⟨rfl, g :: b :: ab :: blk fa', ⟨b, lc, fa', fc', ab, _, arr, h2, rfl, ?_, HF.out.2.1, ?_⟩, ?_, ?_⟩, h4⟩
    · rw [HE.out]
      dsimp only
      rw [← HG.out]
      exact HF.out.1.mark k hk _ false
    · intro i hi
      rw [List.length_set]
      rcases List.mem_append.1 hi with hi | hi
      · exact HF.out.2.2 i hi
      · simp at hi; subst hi; exact hk
    · exact mm.nil.trans h4 (fun j hj _ => by
        rcases List.mem_cons.1 hj with h | h
        · simp [h]
        · rcases List.mem_cons.1 h with h | h
          · simp [h]
          · simp [h])
    · intro j hj
      simp only [List.mem_cons] at hj ⊢
      rcases hj with h | h | h | h
      · simp [h]
      · simp [h]
      · simp [h]
      · rcases h3.blk j h with h | h
        · simp [h]
        · exact .inr (Nat.le_trans mm.size h)
  · rintro e w4 ⟨v, rfl, rfl, hR⟩
    have HR := Lib.hid hR
    clear hR ma mb z1 ea eb
    go_wp2
    go_ret
    exact ⟨rfl, HR.out⟩
set_option maxRecDepth 100000 in
set_option maxHeartbeats 2000000 in
theorem set_w (g : Nat) (F : List Nat) (sz : Nat) (L : List Bm) (fr : List Nat) (k : Nat) (gn : Int) (so : Option Addr) (n c : Nat) (l : List UInt8) (hk : k < L.length) (w : World) (h : PoolW w g F sz L fr) (hl : L[k].2.2 = true) (hg : L[k].2.1 = gn) (hln : l.length = n) (hs : Sees w so l) (hn : n ≤ sz) :
    Calls Try.prog 9 #[.pointer (some ⟨g, 0, none⟩), .agg #[.int .i64 (k : Int), .int .u32 gn], .slice so n c] w fun e w' => e = .returned (.int .i64 0) ∧ PMoved w w' g F sz (L.set k (l, gn, true)) fr := by
  have HL := Lib.hid h.lt
  obtain ⟨b, lc, fa, fc, ab, bufs, arr, h1, rfl, h2, h3, h4⟩ := h
  have hk' : k < bufs.length := by rw [h2.1]; exact hk
  obtain ⟨e1, e2, e3⟩ := h2.2.2 k hk' hk
  have H := Lib.hid h1
  have h12 : bufs[k].2.2.2 = true := by rw [e1]; exact hl
  have h13 : bufs[k].2.2.1 = gn := by rw [e1]; exact hg
  have h14 : bufs[k].1 = k * sz := by rw [e1]
  have h15 : bufs[k].1 + sz ≤ arr.length := by rw [h14, h2.2.1]; exact slot_in hk
  have HX := Lib.hid (And.intro h12 (And.intro h13 (And.intro h14 h15)))
  have HF := Lib.hid (And.intro h2 (And.intro h3 h4))
  have HS := Lib.hid hs
  subst hln
  clear h1 e1 e2 e3 h12 h13 h14 h15 h2 h3 h4 hl hg hs
  go_enter Try.func9, Try.ntmps9
  go_wp2_with fail
  have z1 : (w.alloc (.cells #[.int .i64 (k : Int), .int .u32 gn] 29)).heap.size = w.heap.size + 1 := by simp
  have ma := (Mod.alloc [] w (.cells #[.int .i64 (k : Int), .int .u32 gn] 29)).trans' (Mod.alloc [] _ (.cells #[.slice so l.length c] 32))
  have ea := heap_alloc_new (w.alloc (.cells #[.int .i64 (k : Int), .int .u32 gn] 29)) (.cells #[.slice so l.length c] 32)
  rw [z1] at ea
  refine (with_set g b lc fa fc ab sz bufs fr arr k gn _ [ab, b] (fun v w' => v = 0 ∧ PMoved w w' g (g :: b :: ab :: blk fa) sz (L.set k (l, gn, true)) fr) _ (H.out.mod0 ma) hk' HX.out.1 HX.out.2.1 ?_).mono ?_
  · intro w1 m1
    have mm := ma.trans' m1
    have h1 := H.out.mod0 mm
    have hlt := HL.out
    refine (set1_ok g b lc fa fc ab sz bufs fr arr k (w.heap.size + 1) so l.length c l w1 h1 hk' (m1.cell (by rw [cell_of_block ea]; rfl) (by simp)) rfl (HS.out.mod0 mm) hn HX.out.2.2.2 (by have := hlt ab (by simp); omega) (by have := hlt b (by simp); omega)).mono ?_
    rintro e w' ⟨v, rfl, ⟨rfl, h2⟩, h4⟩
    rw [HX.out.2.2.1, HX.out.1, HX.out.2.1] at h2
    refine ⟨0, rfl, ⟨rfl, g :: b :: ab :: blk fa, ⟨b, lc, fa, fc, ab, _, _, h2, rfl, HF.out.1.put k hk l gn true hn, HF.out.2.1, ?_⟩, ?_, ?_⟩, h4⟩
    · intro i hi
      rw [List.length_set]
      exact HF.out.2.2 i hi
    · exact mm.nil.trans h4 (fun j hj _ => by simp at hj; rcases hj with h | h <;> simp [h])
    · exact fun j hj => .inl hj
  · rintro e w4 ⟨v, rfl, rfl, hR⟩
    have HR := Lib.hid hR
    clear hR ma ea z1
    go_wp2
    go_ret
    exact ⟨rfl, HR.out⟩
set_option maxRecDepth 100000 in
set_option maxHeartbeats 2000000 in
theorem set_longw (g : Nat) (F : List Nat) (sz : Nat) (L : List Bm) (fr : List Nat) (k : Nat) (gn : Int) (so : Option Addr) (n c : Nat) (hk : k < L.length) (w : World) (h : PoolW w g F sz L fr) (hl : L[k].2.2 = true) (hg : L[k].2.1 = gn) (hn : sz < n) :
    Calls Try.prog 9 #[.pointer (some ⟨g, 0, none⟩), .agg #[.int .i64 (k : Int), .int .u32 gn], .slice so n c] w fun e w' => e = .returned (.int .i64 3) ∧ Mod [] w w' := by
  obtain ⟨b, lc, fa, fc, ab, bufs, arr, h1, rfl, h2, h3, h4⟩ := h
  have hk' : k < bufs.length := by rw [h2.1]; exact hk
  obtain ⟨e1, e2, e3⟩ := h2.2.2 k hk' hk
  have H := Lib.hid h1
  have h12 : bufs[k].2.2.2 = true := by rw [e1]; exact hl
  have h13 : bufs[k].2.2.1 = gn := by rw [e1]; exact hg
  have HX := Lib.hid (And.intro h12 h13)
  clear h1 e1 e2 e3 h12 h13 h2 h3 h4 hl hg
  go_enter Try.func9, Try.ntmps9
  go_wp2_with fail
  have z1 : (w.alloc (.cells #[.int .i64 (k : Int), .int .u32 gn] 29)).heap.size = w.heap.size + 1 := by simp
  have ma := (Mod.alloc [] w (.cells #[.int .i64 (k : Int), .int .u32 gn] 29)).trans' (Mod.alloc [] _ (.cells #[.slice so n c] 32))
  have ea := heap_alloc_new (w.alloc (.cells #[.int .i64 (k : Int), .int .u32 gn] 29)) (.cells #[.slice so n c] 32)
  rw [z1] at ea
  refine (with_set g b lc fa fc ab sz bufs fr arr k gn _ [] (fun v w' => v = 3 ∧ Mod [] w w') _ (H.out.mod0 ma) hk' HX.out.1 HX.out.2 ?_).mono ?_
  · intro w1 m1
    have mm := ma.trans' m1
    refine (set1_long g b lc fa fc ab sz bufs fr arr k (w.heap.size + 1) so n c w1 (H.out.mod0 mm) hk' (m1.cell (by rw [cell_of_block ea]; rfl) (by simp)) hn).mono ?_
    rintro e w' ⟨v, rfl, rfl, h4⟩
    exact ⟨3, rfl, ⟨rfl, mm.trans' h4⟩, h4⟩
  · rintro e w4 ⟨v, rfl, rfl, hR⟩
    have HR := Lib.hid hR
    clear hR ma ea z1
    go_wp2
    go_ret
    exact ⟨rfl, HR.out⟩
set_option maxRecDepth 100000 in
set_option maxHeartbeats 2000000 in
theorem bytes_w (g : Nat) (F : List Nat) (sz : Nat) (L : List Bm) (fr : List Nat) (k : Nat) (gn : Int) (hk : k < L.length) (w : World) (h : PoolW w g F sz L fr) (hl : L[k].2.2 = true) (hg : L[k].2.1 = gn) :
    Calls Try.prog 7 #[.pointer (some ⟨g, 0, none⟩), .agg #[.int .i64 (k : Int), .int .u32 gn]] w fun e w' => ∃ ao c, e = .returned (.tuple #[.slice ao L[k].1.length c, .int .i64 0]) ∧ OwnB w' ao c L[k].1 ∧ (∀ j, j ∈ blk ao → w.heap.size ≤ j) ∧ Mod [] w w' := by
  have HL := Lib.hid h.lt
  obtain ⟨b, lc, fa, fc, ab, bufs, arr, h1, rfl, h2, h3, h4⟩ := h
  have hk' : k < bufs.length := by rw [h2.1]; exact hk
  obtain ⟨e1, e2, e3⟩ := h2.2.2 k hk' hk
  have H := Lib.hid h1
  have h12 : bufs[k].2.2.2 = true := by rw [e1]; exact hl
  have h13 : bufs[k].2.2.1 = gn := by rw [e1]; exact hg
  have h14 : bufs[k].1 = k * sz := by rw [e1]
  have h16 : bufs[k].2.1 = L[k].1.length := by rw [e1]
  have h15 : k * sz + sz ≤ arr.length := by rw [h2.2.1]; exact slot_in hk
  have HX := Lib.hid (And.intro h12 (And.intro h13 (And.intro h14 (And.intro h15 (And.intro h16 (And.intro e2 (And.intro e3 h3)))))))
  clear h1 e1 e2 e3 h12 h13 h14 h15 h16 h2 h3 h4 hl hg
  go_enter Try.func7, Try.ntmps7
  go_wp2_with fail
  have z1 : (w.alloc (.cells #[.int .i64 (k : Int), .int .u32 gn] 29)).heap.size = w.heap.size + 1 := by simp
  have ma := (Mod.alloc [] w (.cells #[.int .i64 (k : Int), .int .u32 gn] 29)).trans' (Mod.alloc [] _ (.cells #[.slice none 0 0] 32))
  have ea := heap_alloc_new (w.alloc (.cells #[.int .i64 (k : Int), .int .u32 gn] 29)) (.cells #[.slice none 0 0] 32)
  rw [z1] at ea
  refine (with_bytes g b lc fa fc ab sz bufs fr arr k gn _ [w.heap.size + 1] (fun v w' => v = 0 ∧ Mod [] w w' ∧ ∃ ao c, w'.heap[w.heap.size + 1]? = some (.cells #[.slice ao L[k].1.length c] 32 (0, 0)) ∧ OwnB w' ao c L[k].1 ∧ ∀ j, j ∈ blk ao → w.heap.size + 1 < j) _ (H.out.mod0 ma) hk' HX.out.1 HX.out.2.1 ?_).mono ?_
  · intro w1 m1
    have mm := ma.trans' m1
    have hlt := HL.out
    have hz1 : w.heap.size + 1 < w1.heap.size := by have := m1.size; simp at this; omega
    refine (bytes1_any g b lc fa fc ab sz bufs fr arr k (w.heap.size + 1) (k * sz) L[k].1.length w1 (H.out.mod0 mm) hk' (by have := HX.out.2.2.2.2.2.2.2; omega) (m1.get ea (by simp)) HX.out.2.2.1 HX.out.2.2.2.2.1 HX.out.2.2.2.2.2.1 HX.out.2.2.2.1 (by have := hlt b (by simp); omega)).mono ?_
    rintro e w' ⟨v, rfl, ⟨rfl, ao, c, h5, h6, h7⟩, h4⟩
    rw [HX.out.2.2.2.2.2.2.1] at h6
    exact ⟨0, rfl, ⟨rfl, mm.trans h4 (fun j hj hl => by simp at hj; omega), ao, c, h5, h6, fun j hj => by have := h7 j hj; omega⟩, h4⟩
  · rintro e w4 ⟨v, rfl, rfl, m4, ao, c, h5, h6, h7⟩
    have c4 := cell_of_block (i := 0) h5
    have M4 := Lib.hid m4
    have O4 := Lib.hid h6
    have F4 := Lib.hid h7
    clear m4 h5 h6 h7 ma ea z1
    go_wp2
    ((try simp only [Exit.inBlock, Exit.then]); refine bodyPost_ret (by simp [results, Try.results7, go_sem, *]; try rfl) rfl ?_)
    exact ⟨ao, c, rfl, O4.out, fun j hj => by have := F4.out j hj; omega, M4.out⟩

def GoodM (L : List Bm) (i gn : Int) : Prop := ∃ k : Nat, i = (k : Int) ∧ ∃ h : k < L.length, L[k].2.2 = true ∧ L[k].2.1 = gn
theorem with_stalew (g : Nat) (F : List Nat) (sz : Nat) (L : List Bm) (fr : List Nat) (i gn : Int) (fv : Value) (w : World) (h : PoolW w g F sz L fr) (hb : ¬ GoodM L i gn) :
    Calls Try.prog 17 #[.pointer (some ⟨g, 0, none⟩), .agg #[.int .i64 i, .int .u32 gn], fv] w (fun e w' => e = .returned (.int .i64 15) ∧ Mod [] w w') := by
  obtain ⟨b, lc, fa, fc, ab, bufs, arr, h1, rfl, h2, h3, h4⟩ := h
  by_cases hi : i < 0 ∨ (bufs.length : Int) ≤ i
  · exact with_out g _ lc fa fc ab sz bufs fr arr i gn fv w h1 hi
  · obtain ⟨k, rfl⟩ : ∃ k : Nat, i = (k : Int) := ⟨i.toNat, by omega⟩
    have hk' : k < bufs.length := by omega
    have hk : k < L.length := by rw [← h2.1]; exact hk'
    refine with_idle g _ lc fa fc ab sz bufs fr arr k gn fv w h1 hk' (fun hh => hb ⟨k, rfl, hk, ?_⟩)
    rw [(h2.2.2 k hk' hk).1] at hh
    exact hh
set_option maxRecDepth 100000 in
set_option maxHeartbeats 2000000 in
theorem back_stalew (g : Nat) (F : List Nat) (sz : Nat) (L : List Bm) (fr : List Nat) (i gn : Int) (w : World) (h : PoolW w g F sz L fr) (hb : ¬ GoodM L i gn) :
    Calls Try.prog 8 #[.pointer (some ⟨g, 0, none⟩), .agg #[.int .i64 i, .int .u32 gn]] w fun e w' => e = .returned (.int .i64 15) ∧ Mod [] w w' := by
  go_enter Try.func8, Try.ntmps8
  go_wp2_with fail
  refine (with_stalew g F sz L fr i gn _ _ (h.mod0 (.ofBelow (by go_grown))) hb).mono ?_
  rintro e w4 ⟨rfl, m4⟩
  have M4 := Lib.hid m4
  clear m4
  go_wp2
  go_ret
  exact ⟨rfl, (Mod.ofBelow (by go_grown)).trans' M4.out⟩
theorem back_nilw (i gn : Int) (w : World) :
    Calls Try.prog 8 #[.pointer none, .agg #[.int .i64 i, .int .u32 gn]] w fun e w' => e = .returned (.int .i64 2) ∧ Mod [] w w' := by
  go_enter Try.func8, Try.ntmps8
  go_wp2_with fail
  refine (with_nil i gn _ _).mono ?_
  rintro e w4 ⟨rfl, m4⟩
  have M4 := Lib.hid m4
  clear m4
  go_wp2
  go_ret
  exact ⟨rfl, (Mod.ofBelow (by go_grown)).trans' M4.out⟩
set_option maxRecDepth 100000 in
set_option maxHeartbeats 2000000 in
theorem set_stalew (g : Nat) (F : List Nat) (sz : Nat) (L : List Bm) (fr : List Nat) (i gn : Int) (so : Option Addr) (n c : Nat) (w : World) (h : PoolW w g F sz L fr) (hb : ¬ GoodM L i gn) :
    Calls Try.prog 9 #[.pointer (some ⟨g, 0, none⟩), .agg #[.int .i64 i, .int .u32 gn], .slice so n c] w fun e w' => e = .returned (.int .i64 15) ∧ Mod [] w w' := by
  go_enter Try.func9, Try.ntmps9
  go_wp2_with fail
  refine (with_stalew g F sz L fr i gn _ _ (h.mod0 (.ofBelow (by go_grown))) hb).mono ?_
  rintro e w4 ⟨rfl, m4⟩
  have M4 := Lib.hid m4
  clear m4
  go_wp2
  go_ret
  exact ⟨rfl, (Mod.ofBelow (by go_grown)).trans' M4.out⟩
theorem set_nilw (i gn : Int) (so : Option Addr) (n c : Nat) (w : World) :
    Calls Try.prog 9 #[.pointer none, .agg #[.int .i64 i, .int .u32 gn], .slice so n c] w fun e w' => e = .returned (.int .i64 2) ∧ Mod [] w w' := by
  go_enter Try.func9, Try.ntmps9
  go_wp2_with fail
  refine (with_nil i gn _ _).mono ?_
  rintro e w4 ⟨rfl, m4⟩
  have M4 := Lib.hid m4
  clear m4
  go_wp2
  go_ret
  exact ⟨rfl, (Mod.ofBelow (by go_grown)).trans' M4.out⟩
set_option maxRecDepth 100000 in
set_option maxHeartbeats 2000000 in
theorem bytes_stalew (g : Nat) (F : List Nat) (sz : Nat) (L : List Bm) (fr : List Nat) (i gn : Int) (w : World) (h : PoolW w g F sz L fr) (hb : ¬ GoodM L i gn) :
    Calls Try.prog 7 #[.pointer (some ⟨g, 0, none⟩), .agg #[.int .i64 i, .int .u32 gn]] w fun e w' => e = .returned (.tuple #[.slice none 0 0, .int .i64 15]) ∧ Mod [] w w' := by
  go_enter Try.func7, Try.ntmps7
  go_wp2_with fail
  refine (with_stalew g F sz L fr i gn _ _ (h.mod0 (.ofBelow (by go_grown))) hb).mono ?_
  rintro e w4 ⟨rfl, m4⟩
  have M4 := Lib.hid m4
  clear m4
  have c4 := M4.out.cell (p := ⟨w.heap.size + 1, 0, none⟩) (v := .slice none 0 0) (by simp) (by simp)
  go_wp2
  ((try simp only [Exit.inBlock, Exit.then]); refine bodyPost_ret (by simp [results, Try.results7, go_sem, *]; try rfl) rfl ?_)
  exact ⟨rfl, (Mod.ofBelow (by go_grown)).trans' M4.out⟩
theorem bytes_nilw (i gn : Int) (w : World) :
    Calls Try.prog 7 #[.pointer none, .agg #[.int .i64 i, .int .u32 gn]] w fun e w' => e = .returned (.tuple #[.slice none 0 0, .int .i64 2]) ∧ Mod [] w w' := by
  go_enter Try.func7, Try.ntmps7
  go_wp2_with fail
  refine (with_nil i gn _ _).mono ?_
  rintro e w4 ⟨rfl, m4⟩
  have M4 := Lib.hid m4
  clear m4
  have c4 := M4.out.cell (p := ⟨w.heap.size + 1, 0, none⟩) (v := .slice none 0 0) (by simp) (by simp)
  go_wp2
  ((try simp only [Exit.inBlock, Exit.then]); refine bodyPost_ret (by simp [results, Try.results7, go_sem, *]; try rfl) rfl ?_)
  exact ⟨rfl, (Mod.ofBelow (by go_grown)).trans' M4.out⟩
end Go.Proofs.Ytfpmdacpmcdleaa
