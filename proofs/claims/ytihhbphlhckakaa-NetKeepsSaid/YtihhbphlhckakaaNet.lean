/- The walks of the net package: letters, copies, the row. -/
import Derived.Test.YtihhbphlhckakaaRegion
import Derived.Handy
import Derived.Lib.SliceRun
namespace Go.Proofs.Ytihhbphlhckakaa
open Go Go.RowKit Go.Lib

theorem Mod.frozen {S : List Nat} {w w' : World} (h : Mod S w w') {p : Addr} (hb : p.block < w.heap.size) (hn : p.block ∉ S) : w'.frozen? p = w.frozen? p := by
  simp only [World.frozen?, h.block p.block hb hn]
theorem Own.cap_le {w : World} {e : TypeId} {sz : Nat} {ao : Option Addr} {n cap : Nat} {xs : List Value} (h : Own w e sz ao n cap xs) : cap ≤ maxLen := by
  rcases h.2 with ⟨_, _, rfl⟩ | ⟨g, cur, fz, _, _, _, _, h, _⟩
  · unfold maxLen; omega
  · exact h
theorem three_mod (w : World) (g : Nat) (u v x : Value) : Mod [g] w (((w.setCell ⟨g, 0, none⟩ u).setCell ⟨g, 1, none⟩ v).setCell ⟨g, 2, none⟩ x) :=
  ((Mod.setCell _ _ _ (by simp)).trans' (Mod.setCell _ _ _ (by simp))).trans' (Mod.setCell _ _ _ (by simp))
/-- A letter: from, to, where its bytes lie, their room, the bytes. -/
abbrev Lt := Int × Int × Option Addr × Nat × List UInt8
def letC (x : Lt) : List Value := [.int .i64 x.1, .int .i64 x.2.1, .slice x.2.2.1 x.2.2.2.2.length x.2.2.2.1]
def cellsL (l : List Lt) : List Value := l.flatMap letC
theorem cellsL_length (l : List Lt) : (cellsL l).length = l.length * 3 := by
  induction l with
  | nil => rfl
  | cons a r ih => simp only [cellsL, List.flatMap_cons, List.length_append, letC, List.length_cons, List.length_nil] at *; omega
theorem cellsL_at : ∀ (l : List Lt) (j : Nat) (hj : j < l.length), (cellsL l)[j * 3]? = some (.int .i64 l[j].1) ∧ (cellsL l)[j * 3 + 1]? = some (.int .i64 l[j].2.1) ∧ (cellsL l)[j * 3 + 2]? = some (.slice l[j].2.2.1 l[j].2.2.2.2.length l[j].2.2.2.1) := by
  intro l
  induction l with
  | nil => intro j hj; exact absurd hj (by simp)
  | cons a r ih =>
    intro j hj
    cases j with
    | zero => exact ⟨rfl, rfl, rfl⟩
    | succ j =>
      have := ih j (by simpa using hj)
      have e : (j + 1) * 3 = j * 3 + 1 + 1 + 1 := by omega
      rw [e]
      exact this
def OwnL (w : World) (ao : Option Addr) (cap : Nat) (l : List Lt) : Prop := Own w 29 3 ao l.length cap (cellsL l)
theorem OwnL.at' {w : World} {ao : Option Addr} {cap : Nat} {l : List Lt} (h : OwnL w ao cap l) {j : Nat} (hj : j < l.length) :
    ∃ g, ao = some ⟨g, 0, none⟩ ∧ w.cell? ⟨g, j * 3, none⟩ = some (.int .i64 l[j].1) ∧ w.cell? ⟨g, j * 3 + 1, none⟩ = some (.int .i64 l[j].2.1) ∧ w.cell? ⟨g, j * 3 + 2, none⟩ = some (.slice l[j].2.2.1 l[j].2.2.2.2.length l[j].2.2.2.1) := by
  obtain ⟨h1, h2, h3⟩ := cellsL_at l j hj
  obtain ⟨g, e1, e2, _⟩ := Own.cell h h1
  obtain ⟨g', e1', e2', _⟩ := Own.cell h h2
  obtain ⟨g'', e1'', e2'', _⟩ := Own.cell h h3
  rw [e1] at e1' e1''
  cases e1'
  cases e1''
  exact ⟨g, e1, e2, e2', e2''⟩
/-- The blocks of letters' bytes. -/
def fpL (l : List Lt) : List Nat := l.flatMap (fun x => blk x.2.2.1)
/-- A net: its row, letters with bytes of their own. -/
def NetF (w : World) (g : Nat) (ra : Option Addr) (rc : Nat) (l : List Lt) : Prop :=
  w.heap[g]? = some (.cells #[.slice ra l.length rc] 52 (0, 0)) ∧ OwnL w ra rc l ∧ (∀ x ∈ l, OwnB w x.2.2.1 x.2.2.2.1 x.2.2.2.2) ∧ (g :: (blk ra ++ fpL l)).Nodup
theorem NetF.mod {S : List Nat} {w w' : World} {g : Nat} {ra : Option Addr} {rc : Nat} {l : List Lt} (h : NetF w g ra rc l) (hm : Mod S w w') (hs : ∀ k, k ∈ g :: (blk ra ++ fpL l) → k ∉ S) : NetF w' g ra rc l := by
  obtain ⟨h1, h2, h3, h4⟩ := h
  refine ⟨hm.get h1 (hs g (by simp)), Own.mod h2 hm (fun k hk => hs k (by simp [hk])), fun x hx => (h3 x hx).mod hm (fun k hk => hs k ?_), h4⟩
  simp only [List.mem_cons, List.mem_append]
  exact .inr (.inr (List.mem_flatMap.2 ⟨x, hx, hk⟩))
theorem NetF.mod0 {w w' : World} {g : Nat} {ra : Option Addr} {rc : Nat} {l : List Lt} (h : NetF w g ra rc l) (hm : Mod [] w w') : NetF w' g ra rc l := h.mod hm (by simp)
theorem NetF.lt {w : World} {g : Nat} {ra : Option Addr} {rc : Nat} {l : List Lt} (h : NetF w g ra rc l) : ∀ k, k ∈ g :: (blk ra ++ fpL l) → k < w.heap.size := by
  obtain ⟨h1, h2, h3, h4⟩ := h
  intro k hk
  simp only [List.mem_cons, List.mem_append] at hk
  rcases hk with rfl | hk | hk
  · exact lt_of_block h1
  · exact Own.lt h2 k hk
  · obtain ⟨x, hx, hk⟩ := List.mem_flatMap.1 hk
    exact Own.lt (h3 x hx) k hk

set_option maxRecDepth 100000 in
theorem clone_any (ao : Option Addr) (len cap : Nat) (bs : List UInt8) (w : World) (hl : bs.length = len) (hs : Sees w ao bs) (hb : len ≤ 140737488355000) :
    Calls Try.prog 33 #[.slice ao len cap] w (RetApp w none bs) := by
  subst hl
  have HS := Lib.hid hs
  clear hs
  have EQ : ∀ w', (binOp .eql 22 (.slice ao bs.length cap) (.slice none 0 0)).run Try.prog w' = .ok (.bool ao.isNone) w' := fun w' => Go.Lib.run_eql_slice_nil w' _ _ _ _ _ _ _ Try.underlying22
  cases ao with
  | none =>
    have hb0 : bs = [] := by
      cases bs with
      | nil => rfl
      | cons c r => obtain ⟨b, off, h1, _⟩ := HS.out 0 (by simp); cases h1
    subst hb0
    simp only [List.length_nil] at EQ ⊢
    go_enter Try.func33, Try.ntmps33
    go_wp2
    go_ret
    exact ⟨none, 0, 0, rfl, rfl, OwnB.nil _, Mod.refl _ _, .inl rfl⟩
  | some ad =>
    go_enter Try.func33, Try.ntmps33
    have e0 : OwnB (w.alloc (.cells #[] 5)) (some ⟨w.heap.size, 0, none⟩) 0 [] := Own.new (n := 0) (heap_alloc_new w (.cells #[] 5)) (.inl rfl) rfl (by unfold maxLen; omega)
    have E0 := Lib.hid e0
    have HS1 := Lib.hid (HS.out.mod0 (Mod.alloc [] w (.cells #[] 5)))
    clear e0
    go_wp2_with (first | (at_builtin; refine wpl_app8 (dst := some 7) _ _ (some ⟨w.heap.size, 0, none⟩) 0 0 [] rfl rfl E0.out _ _ _ bs rfl rfl HS1.out (by omega) ?_) | fail)
    intro a2 c2 w2 o2 m2 s2
    have HR : Hid (RetApp w none bs (.returned (.slice a2 bs.length c2)) w2) := ⟨a2, bs.length, c2, rfl, rfl, o2, (Mod.alloc [] w _).trans m2 (fun i hi hl => by simp only [blk, List.mem_singleton] at hi; omega), by
      rcases s2 with rfl | ⟨g, rfl, h1, h2⟩
      · exact .inr ⟨_, rfl, Nat.le_refl _, Own.lt o2 _ (by simp [blk])⟩
      · exact .inr ⟨g, rfl, Nat.le_trans (Mod.alloc [] w _).size h1, h2⟩⟩
    clear o2 m2 s2
    go_wp2
    go_ret
    exact HR.out
set_option maxRecDepth 100000 in
set_option maxHeartbeats 1000000 in
theorem copied_any (fr to : Int) (ao : Option Addr) (len cap : Nat) (bs : List UInt8) (w : World) (hl : bs.length = len) (hs : Sees w ao bs) (hb : len ≤ 140737488355000) :
    Calls Try.prog 24 #[.agg #[.int .i64 fr, .int .i64 to, .slice ao len cap]] w fun e w' => ∃ a' c', e = .returned (.agg #[.int .i64 fr, .int .i64 to, .slice a' len c']) ∧ OwnB w' a' c' bs ∧ Mod [] w w' ∧ SameOrNew w w' none a' := by
  have HS := Lib.hid hs
  clear hs
  go_enter Try.func24, Try.ntmps24
  go_wp2_with fail
  refine (clone_any ao len cap bs _ hl (HS.out.mod0 ((Mod.alloc [] w _).trans' (Mod.alloc [] _ _))) hb).mono ?_
  rintro e w1 ⟨a1, n1, c1, rfl, hn1, o1, m1, s1⟩
  rw [hl] at hn1
  subst hn1
  have h1 := heap_alloc_new w (.cells #[.int .i64 fr, .int .i64 to, .slice ao len cap] 29)
  have h2 := heap_alloc_new (w.alloc (.cells #[.int .i64 fr, .int .i64 to, .slice ao len cap] 29)) (.cells #[.int .i64 0, .int .i64 0, .slice none 0 0] 29)
  have z2 : (w.alloc (.cells #[.int .i64 fr, .int .i64 to, .slice ao len cap] 29)).heap.size = w.heap.size + 1 := by simp
  rw [z2] at h2
  have k1 := m1.get ((Mod.alloc [] _ _).get h1 (by simp)) (by simp [blk])
  have k2 := m1.get h2 (by simp [blk])
  have c0 := cell_of_block (i := 0) k1
  have c1' := cell_of_block (i := 1) k1
  have c2 := cell_of_block (i := 2) k1
  have f2 := free_of_block (i := 2) k1
  have d0 := cell_of_block (i := 0) k2
  have d1 := cell_of_block (i := 1) k2
  have d2 := cell_of_block (i := 2) k2
  have e0 := free_of_block (i := 0) k2
  have e1 := free_of_block (i := 1) k2
  have e2 := free_of_block (i := 2) k2
  have M1 := Lib.hid (Mod.trans (S := []) ((Mod.alloc [] w (.cells #[.int .i64 fr, .int .i64 to, .slice ao len cap] 29)).trans' (Mod.alloc [] _ (.cells #[.int .i64 0, .int .i64 0, .slice none 0 0] 29))) m1 (by simp [blk]))
  have HA : Hid (∀ k, k ∈ blk a1 → w.heap.size + 1 < k) := fun k hk => by
    rcases s1.blk k hk with h | h
    · simp [blk] at h
    · simp at h; omega
  have HS1 : Hid (SameOrNew w w1 none a1) := s1.imp id (fun ⟨g, h1, h2, h3⟩ => ⟨g, h1, by simp at h2; omega, h3⟩)
  have O1 := Lib.hid o1
  clear h1 h2 z2 k1 k2 m1 s1 o1 HS
  go_wp2
  ((try simp only [Exit.inBlock, Exit.then]); refine bodyPost_ret (by simp [results, Try.results24, go_sem, *]; try rfl) rfl ?_)
  have mA := Mod.setCell (S := [w.heap.size]) w1 ⟨w.heap.size, 2, none⟩ (.slice a1 len c1) (by simp)
  have mB := three_mod (w1.setCell ⟨w.heap.size, 2, none⟩ (.slice a1 len c1)) (w.heap.size + 1) (.int .i64 fr) (.int .i64 to) (.slice a1 len c1)
  refine ⟨_, _, rfl, ?_, (M1.out.trans mA (by simp)).trans mB (by simp), ?_⟩
  · exact (O1.out.mod mA (fun k hk => by have := HA.out k hk; simp; omega)).mod mB (fun k hk => by have := HA.out k hk; simp; omega)
  · exact HS1.out.imp id (fun ⟨g, h1, h2, h3⟩ => ⟨g, h1, h2, Nat.lt_of_lt_of_le h3 (Nat.le_trans mA.size mB.size)⟩)
theorem replica_any (r : Int) (v : Bool) (w : World) (hv : decide (0 ≤ r ∧ r < 7) = v) : Calls Try.prog 22 #[.int .i64 r] w fun e w' => e = .returned (.bool v) ∧ w' = w := by
  by_cases h0 : 0 ≤ r
  · by_cases h7 : r < 7
    · obtain rfl : true = v := by rw [← hv]; simp [h0, h7]
      clear hv
      go_enter Try.func22, Try.ntmps22
      go_wp2
      go_ret
      exact ⟨rfl, rfl⟩
    · obtain rfl : false = v := by rw [← hv]; simp [h7]
      clear hv
      go_enter Try.func22, Try.ntmps22
      go_wp2
      go_ret
      exact ⟨rfl, rfl⟩
  · obtain rfl : false = v := by rw [← hv]; simp [h0]
    clear hv
    go_enter Try.func22, Try.ntmps22
    go_wp2
    go_ret
    exact ⟨rfl, rfl⟩
theorem nlen_any (g : Nat) (ra : Option Addr) (rc : Nat) (l : List Lt) (w : World) (h : NetF w g ra rc l) :
    Calls Try.prog 20 #[.pointer (some ⟨g, 0, none⟩)] w fun e w' => e = .returned (.int .i64 (l.length : Int)) ∧ w' = w := by
  have c0 := cell_of_block (i := 0) h.1
  clear h
  go_enter Try.func20, Try.ntmps20
  go_wp2
  go_ret
  exact ⟨rfl, rfl⟩
end Go.Proofs.Ytihhbphlhckakaa
