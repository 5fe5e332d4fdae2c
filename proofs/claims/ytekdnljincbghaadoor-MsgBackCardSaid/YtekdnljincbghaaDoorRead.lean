/- The walks of the varint package's reader: what it holds, what it reads. -/
import Derived.Test.YtekdnljincbghaaDoorStr
namespace Go.Proofs.YtekdnljincbghaaDoor
open Go Go.RowKit

/-- A reader at block g: its error, the bytes that are left (in a block of bs), its limit. -/
def Rd (w : World) (g : Nat) (bs : List Nat) (e : Int) (l : List UInt8) (lim : Int) : Prop :=
  g ∉ bs ∧ ∃ ao cap, w.heap[g]? = some (.cells #[.int .i64 e, .slice ao l.length cap, .int .i64 lim] 101 (0, 0)) ∧
    l.length ≤ cap ∧ cap ≤ 9223372036854775807 ∧ Sees w ao l ∧ (l ≠ [] → ∀ k, k ∈ blk ao → k ∈ bs)

/-- Bytes that are seen stay seen where the blocks that are turned are none of theirs. -/
theorem Sees.mod' {S : List Nat} {w w' : World} {ao : Option Addr} {l : List UInt8} (h : Sees w ao l) (hm : Mod S w w') (hn : l ≠ [] → ∀ k, k ∈ blk ao → k ∉ S) : Sees w' ao l := by
  cases l with
  | nil => exact Sees.nil _ _
  | cons c r => exact h.mod hm (fun b off hb => hn (by simp) b (by subst hb; simp [blk]))
theorem Sees.lt {w : World} {ao : Option Addr} {l : List UInt8} (h : Sees w ao l) (h0 : l ≠ []) : ∀ k, k ∈ blk ao → k < w.heap.size := by
  intro k hk
  obtain ⟨b, off, rfl, h2⟩ := h 0 (List.length_pos_iff.2 h0)
  simp only [blk, List.mem_singleton] at hk
  subst hk
  exact World.block_lt_of_cell? w _ h2
/-- The block of bytes that are seen. -/
def blkOf (ao : Option Addr) (l : List UInt8) : List Nat := if l = [] then [] else blk ao
theorem mem_blkOf {ao : Option Addr} {l : List UInt8} {k : Nat} (h : k ∈ blkOf ao l) : l ≠ [] ∧ k ∈ blk ao := by
  unfold blkOf at h
  split at h
  · simp at h
  · rename_i h0; exact ⟨h0, h⟩
theorem blkOf_mem {ao : Option Addr} {l : List UInt8} (h : l ≠ []) : ∀ k, k ∈ blk ao → k ∈ blkOf ao l := by
  intro k hk; unfold blkOf; rw [if_neg h]; exact hk
theorem Sees.ltOf {w : World} {ao : Option Addr} {l : List UInt8} (h : Sees w ao l) : ∀ k, k ∈ blkOf ao l → k < w.heap.size := fun k hk => h.lt (mem_blkOf hk).1 k (mem_blkOf hk).2
theorem Rd.mod {S : List Nat} {w w' : World} {g : Nat} {bs : List Nat} {e : Int} {l : List UInt8} {lim : Int} (h : Rd w g bs e l lim) (hm : Mod S w w') (hg : g ∉ S) (hb : ∀ k, k ∈ bs → k ∉ S) : Rd w' g bs e l lim := by
  obtain ⟨h1, ao, cap, h2, h3, h4, h5, h6⟩ := h
  exact ⟨h1, ao, cap, hm.get h2 hg, h3, h4, h5.mod' hm (fun h0 k hk => hb k (h6 h0 k hk)), h6⟩
theorem Rd.mod0 {w w' : World} {g : Nat} {bs : List Nat} {e : Int} {l : List UInt8} {lim : Int} (h : Rd w g bs e l lim) (hm : Mod [] w w') : Rd w' g bs e l lim := h.mod hm (by simp) (by simp)
theorem Rd.lt {w : World} {g : Nat} {bs : List Nat} {e : Int} {l : List UInt8} {lim : Int} (h : Rd w g bs e l lim) : g < w.heap.size := by
  obtain ⟨h1, ao, cap, h2, _⟩ := h
  exact lt_of_block h2
/-- The error is set. -/
theorem Rd.err {w : World} {g : Nat} {bs : List Nat} {e : Int} {l : List UInt8} {lim : Int} (h : Rd w g bs e l lim) (e' : Int) : Rd (w.setCell ⟨g, 0, none⟩ (.int .i64 e')) g bs e' l lim := by
  obtain ⟨h1, ao, cap, h2, h3, h4, h5, h6⟩ := h
  refine ⟨h1, ao, cap, ?_, h3, h4, h5.mod' (Mod.setCell (S := [g]) w ⟨g, 0, none⟩ _ (by simp)) (fun h0 k hk hg => h1 (by simp only [List.mem_singleton] at hg; subst hg; exact h6 h0 _ hk)), h6⟩
  rw [heap_setCell_same h2]; rfl
/-- Bytes are passed. -/
theorem Rd.pass {w : World} {g : Nat} {bs : List Nat} {e : Int} {l l' : List UInt8} {lim : Int} (h : Rd w g bs e l lim) {ao : Option Addr} {cap n : Nat} (hl : l'.length = n) (hc : n ≤ cap) (hm : cap ≤ 9223372036854775807) (hs : Sees w ao l') (hb : l' ≠ [] → ∀ k, k ∈ blk ao → k ∈ bs) :
    Rd (w.setCell ⟨g, 1, none⟩ (.slice ao n cap)) g bs e l' lim := by
  subst hl
  obtain ⟨h1, ao0, cap0, h2, h3, h4, h5, h6⟩ := h
  refine ⟨h1, ao, cap, ?_, hc, hm, hs.mod' (Mod.setCell (S := [g]) w ⟨g, 1, none⟩ _ (by simp)) (fun h0 k hk hg => h1 (by simp only [List.mem_singleton] at hg; subst hg; exact hb h0 _ hk)), hb⟩
  rw [heap_setCell_same h2]; rfl
theorem Sees.drop {w : World} {b off : Nat} {l : List UInt8} (h : Sees w (some ⟨b, off, none⟩) l) (k : Nat) : Sees w (some ⟨b, off + k, none⟩) (l.drop k) := by
  intro j hj
  have hj' : k + j < l.length := by simp only [List.length_drop] at hj; omega
  obtain ⟨b', off', h1, h2⟩ := h (k + j) hj'
  cases h1
  exact ⟨b, off + k, rfl, by rw [List.getElem_drop, Nat.add_assoc]; exact h2⟩
theorem Sees.drop1 {w : World} {b off : Nat} {c : UInt8} {l : List UInt8} (h : Sees w (some ⟨b, off, none⟩) (c :: l)) : Sees w (some ⟨b, off + 1, none⟩) l := h.drop 1
/-- What a walk needs of it. -/
theorem Rd.open {w : World} {g : Nat} {bs : List Nat} {e : Int} {l : List UInt8} {lim : Int} (h : Rd w g bs e l lim) :
    ∃ ao cap, w.cell? ⟨g, 0, none⟩ = some (.int .i64 e) ∧ w.cell? ⟨g, 1, none⟩ = some (.slice ao l.length cap) ∧ w.cell? ⟨g, 2, none⟩ = some (.int .i64 lim) ∧
      (∀ i, w.frozen? ⟨g, i, none⟩ = false) ∧ l.length ≤ cap ∧ cap ≤ 9223372036854775807 ∧ Sees w ao l ∧ (l ≠ [] → ∀ k, k ∈ blk ao → k ∈ bs) := by
  obtain ⟨h1, ao, cap, h2, h3, h4, h5, h6⟩ := h
  exact ⟨ao, cap, by rw [cell_of_block h2]; rfl, by rw [cell_of_block h2]; rfl, by rw [cell_of_block h2]; rfl, fun i => free_of_block h2, h3, h4, h5, h6⟩

set_option maxHeartbeats 400000 in
theorem fail_any (g : Nat) (e c : Int) (w : World) (h0 : w.cell? ⟨g, 0, none⟩ = some (.int .i64 e)) (hf : w.frozen? ⟨g, 0, none⟩ = false) :
    Calls Tryd.prog 61 #[.pointer (some ⟨g, 0, none⟩), .int .i64 c] w fun r w' => (∃ v, r = .returned v) ∧ w' = if e = 0 then w.setCell ⟨g, 0, none⟩ (.int .i64 c) else w := by
  by_cases he : e = 0
  · subst he
    go_enter Tryd.func61, Tryd.ntmps61
    go_wp2
    go_end0
    exact ⟨⟨_, rfl⟩, by simp⟩
  · go_enter Tryd.func61, Tryd.ntmps61
    go_wp2
    go_end0
    exact ⟨⟨_, rfl⟩, by simp⟩

set_option maxHeartbeats 400000 in
theorem err_any (g : Nat) (bs : List Nat) (e : Int) (l : List UInt8) (lim : Int) (w : World) (h : Rd w g bs e l lim) :
    Calls Tryd.prog 60 #[.pointer (some ⟨g, 0, none⟩)] w fun r w' => r = .returned (.int .i64 e) ∧ w' = w := by
  obtain ⟨ao, cap, c0, c1, c2, fr, h3, h4, h5, h6⟩ := h.open
  clear h5 h6
  go_enter Tryd.func60, Tryd.ntmps60
  go_wp2
  go_ret
  exact ⟨rfl, rfl⟩
theorem errNil_any (w : World) :
    Calls Tryd.prog 60 #[.pointer none] w fun r w' => r = .returned (.int .i64 2) ∧ w' = w := by
  go_enter Tryd.func60, Tryd.ntmps60
  go_wp2
  go_ret
  exact ⟨rfl, rfl⟩

/-- What a byte is read as: the byte, the error behind it, what is left. -/
def byteR (e : Int) : List UInt8 → Int × Int × List UInt8
  | [] => (0, if e = 0 then 10 else e, [])
  | c :: r => if e = 0 then (((c.toNat : Nat) : Int), 0, r) else (0, e, c :: r)

set_option maxHeartbeats 400000 in
theorem byte_any (g : Nat) (bs : List Nat) (e : Int) (l : List UInt8) (lim : Int) (w : World) (h : Rd w g bs e l lim) :
    Calls Tryd.prog 59 #[.pointer (some ⟨g, 0, none⟩)] w fun r w' => r = .returned (.int .u8 (byteR e l).1) ∧ Rd w' g bs (byteR e l).2.1 (byteR e l).2.2 lim ∧ Mod [g] w w' := by
  obtain ⟨ao, cap, c0, c1, c2, fr, h3, h4, h5, h6⟩ := h.open
  have fr0 := fr 0
  have fr1 := fr 1
  have H := Lib.hid h
  have HB := Lib.hid h6
  have HS := Lib.hid h5
  clear h fr h6 h5
  by_cases he : e = 0
  · subst he
    cases l with
    | nil =>
      go_enter Tryd.func59, Tryd.ntmps59
      go_wp2_with (go_at_call 61; refine (fail_any g 0 10 _ c0 fr0).mono ?_; rintro e w1 ⟨⟨v, rfl⟩, rfl⟩)
      go_ret
      exact ⟨rfl, H.out.err 10, Mod.setCell _ _ _ (by simp)⟩
    | cons c r =>
      obtain ⟨b, off, ha, hc⟩ := HS.out 0 (by simp)
      subst ha
      simp only [Nat.add_zero, List.getElem_cons_zero] at hc
      have hlen : (c :: r).length = r.length + 1 := rfl
      by_cases hcap : cap = 1
      · subst hcap
        have hr : r = [] := List.eq_nil_of_length_eq_zero (by omega)
        subst hr
        go_enter Tryd.func59, Tryd.ntmps59
        go_wp2
        go_ret
        exact ⟨rfl, H.out.pass rfl (by simp) (by simp) (Sees.nil _ _) (fun h => absurd rfl h), Mod.setCell _ _ _ (by simp)⟩
      · go_enter Tryd.func59, Tryd.ntmps59
        go_wp2
        go_ret
        refine ⟨rfl, H.out.pass rfl (by omega) (by omega) (HS.out.drop1) (by intro _ k hk; exact HB.out (by simp) k (by simpa [blk] using hk)), Mod.setCell _ _ _ (by simp)⟩
  · go_enter Tryd.func59, Tryd.ntmps59
    go_wp2
    go_ret
    have : byteR e l = (0, e, l) := by cases l <;> simp [byteR, he]
    rw [this]
    exact ⟨rfl, H.out, Mod.refl _ _⟩
end Go.Proofs.YtekdnljincbghaaDoor
