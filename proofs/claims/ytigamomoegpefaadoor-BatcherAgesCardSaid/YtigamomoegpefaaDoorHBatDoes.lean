/- The walk of the law BatcherPlays' does. -/
import Derived.Test.YtigamomoegpefaaDoorHRef19c
namespace Go.Proofs.YtigamomoegpefaaDoor
open Go Go.RowKit Go.Lib

/-- A batcher and its reference, in a law that was entered at W. -/
structure PlS (W : World) (z : Nat) (w : World) (b : Nat) (F : List Nat) (g : Nat) (la : Option Addr) (lc : Nat) (l : List Wt) (ba ag nb nr ord : Int) (R : List (Cd × Int)) : Prop where
  bat : BatR w b F ba ag nb ord R
  ref : RefW W w g ba ag nr la lc l
  mod : Mod [] W w
  fnew : ∀ k, k ∈ F → W.heap.size ≤ k
  gnew : W.heap.size ≤ g
  lnew : ∀ k, k ∈ blk la → W.heap.size ≤ k
  dis : ∀ k, k ∈ F → k ∉ g :: blk la
  sz : z ≤ w.heap.size
section
variable {W w w' : World} {z : Nat} {b : Nat} {F F' : List Nat} {g : Nat} {la la' : Option Addr} {lc lc' : Nat} {l l' : List Wt} {ba ag nb nr ord nb' nr' ord' : Int} {R R' : List (Cd × Int)}
theorem PlS.lts (h : PlS W z w b F g la lc l ba ag nb nr ord R) : ∀ k, k ∈ g :: blk la → k < w.heap.size := fun k hk => by
  rcases List.mem_cons.1 hk with rfl | hk
  · exact lt_of_block h.ref.blk
  · exact Own.lt h.ref.own k hk
theorem PlS.batE (h : PlS W z w b F g la lc l ba ag nb nr ord R) (h1 : BatR w' b F' ba ag nb' ord' R') (m : Mod F w w') (hF : ∀ k, k ∈ F' → k ∈ F ∨ w.heap.size ≤ k) : PlS W z w' b F' g la lc l ba ag nb' nr ord' R' := by
  refine ⟨h1, h.ref.mod m (fun hg => h.dis g hg (by simp)) (fun k hk hf => h.dis k hf (by simp [hk])), h.mod.trans m (fun k hk hl => by have := h.fnew k hk; omega), fun k hk => ?_, h.gnew, h.lnew, fun k hk hg => ?_, ?_⟩
  · rcases hF k hk with h1 | h1
    · exact h.fnew k h1
    · exact Nat.le_trans h.mod.size h1
  · rcases hF k hk with h1 | h1
    · exact h.dis k h1 hg
    · have := h.lts k hg; omega
  · exact Nat.le_trans h.sz m.size
theorem PlS.batM (h : PlS W z w b F g la lc l ba ag nb nr ord R) (hm : BMoved w w' b F ba ag nb' ord' R') : ∃ F', PlS W z w' b F' g la lc l ba ag nb' nr ord' R' := by
  obtain ⟨F', h1, h2, h3⟩ := hm
  exact ⟨F', h.batE h1 h2 h3⟩
theorem PlS.refE (h : PlS W z w b F g la lc l ba ag nb nr ord R) (h1 : RefW W w' g ba ag nr' la' lc' l') (m : Mod (g :: blk la) w w') (hL : ∀ k, k ∈ blk la' → k ∈ blk la ∨ w.heap.size ≤ k) : PlS W z w' b F g la' lc' l' ba ag nb nr' ord R := by
  refine ⟨h.bat.mod m (fun k hk => h.dis k hk), h1, h.mod.trans m (fun k hk hl => ?_), h.fnew, h.gnew, fun k hk => ?_, fun k hk hg => ?_, ?_⟩
  · rcases List.mem_cons.1 hk with rfl | hk
    · have := h.gnew; omega
    · have := h.lnew k hk; omega
  · rcases hL k hk with h1 | h1
    · exact h.lnew k h1
    · exact Nat.le_trans h.mod.size h1
  · rcases List.mem_cons.1 hg with rfl | hg
    · exact h.dis k hk (by simp)
    · rcases hL k hg with h1 | h1
      · exact h.dis k hk (by simp [h1])
      · have := h.bat.lt k hk; omega
  · exact Nat.le_trans h.sz m.size
theorem PlS.still (h : PlS W z w b F g la lc l ba ag nb nr ord R) (m : Mod [] w w') : PlS W z w' b F g la lc l ba ag nb nr ord R := h.batE (h.bat.mod0 m) m.nil (fun _ hk => .inl hk)
theorem PlS.here (h : PlS W z w b F g la lc l ba ag nb nr ord R) : PlS W w.heap.size w b F g la lc l ba ag nb nr ord R := ⟨h.bat, h.ref, h.mod, h.fnew, h.gnew, h.lnew, h.dis, Nat.le_refl _⟩
end
/-- The blocks that came since. -/
def since (W w : World) : List Nat := (List.range w.heap.size).filter fun k => decide (W.heap.size ≤ k)
theorem mod_since {W w w' : World} (h : Mod [] W w) (h' : Mod [] W w') (hs : w.heap.size ≤ w'.heap.size) : Mod (since W w) w w' := by
  refine ⟨by rw [h'.os, h.os], by rw [h'.tape, h.tape], by rw [h'.output, h.output], hs, fun k hk hn => ?_⟩
  have hkW : k < W.heap.size := Decidable.byContradiction (fun hc => hn (List.mem_filter.2 ⟨List.mem_range.2 hk, decide_eq_true (by omega)⟩))
  rw [h'.block k hkW List.not_mem_nil, h.block k hkW List.not_mem_nil]
theorem since_new {W w : World} {k : Nat} (h : k ∈ since W w) : W.heap.size ≤ k := of_decide_eq_true (List.mem_filter.1 h).2
/-- An act's command, in the act's cells. -/
def CmdAt7 (w : World) (b : Nat) (c : Cm) : Prop := w.cell? ⟨b, 2, none⟩ = some (.int .u32 (c.1.client : Int)) ∧ w.cell? ⟨b, 3, none⟩ = some (.int .u32 (c.1.seq : Int)) ∧ w.cell? ⟨b, 4, none⟩ = some (.int .u8 (c.1.kind : Int)) ∧
  w.cell? ⟨b, 5, none⟩ = some (.slice c.2.1 c.1.keys.length c.2.2) ∧ w.cell? ⟨b, 6, none⟩ = some (.string c.1.old) ∧ w.cell? ⟨b, 7, none⟩ = some (.string c.1.fresh) ∧ w.cell? ⟨b, 8, none⟩ = some (.int .i64 c.1.n)
/-- What an act leaves. -/
def DoesW (W : World) (z b g : Nat) (ba ag now ord : Int) (e : Ending) (w' : World) : Prop :=
  e = .returned (.bool true) ∧ ∃ F' la' lc' l' ord' now', PlS W z w' b F' g la' lc' l' ba ag now' now' ord' (rL l') ∧ ord ≤ ord' ∧ ord' ≤ ord + 100 ∧ now ≤ now' ∧ now' ≤ now + 1
theorem actBox (d : Nat) (N : Int) (c : Cm) (w : World) : ∃ w1, w.alloc (.cells #[.int .u8 (d : Int), .int .i64 N, .int .u32 (c.1.client : Int), .int .u32 (c.1.seq : Int), .int .u8 (c.1.kind : Int), .slice c.2.1 c.1.keys.length c.2.2, .string c.1.old, .string c.1.fresh, .int .i64 c.1.n] 38) = w1 ∧
    w1.heap[w.heap.size]? = some (.cells #[.int .u8 (d : Int), .int .i64 N, .int .u32 (c.1.client : Int), .int .u32 (c.1.seq : Int), .int .u8 (c.1.kind : Int), .slice c.2.1 c.1.keys.length c.2.2, .string c.1.old, .string c.1.fresh, .int .i64 c.1.n] 38 (0, 0)) ∧ Mod [] w w1 :=
  ⟨_, rfl, heap_alloc_new w _, Mod.alloc _ _ _⟩

set_option maxRecDepth 100000 in
set_option maxHeartbeats 4000000 in
theorem does_tick (d : Nat) (N : Int) (c : Cm) (W : World) (z : Nat) (w : World) (b : Nat) (F : List Nat) (g : Nat) (la : Option Addr) (lc : Nat) (l : List Wt) (ba ag now ord : Int) (h : PlS W z w b F g la lc l ba ag now now ord (rL l)) (hn : 0 ≤ now ∧ now ≤ 1000) (hr : ((d : Int)).tmod 5 = 1) :
    Calls Tryd.prog 18 #[.pointer (some ⟨b, 0, none⟩), .pointer (some ⟨g, 0, none⟩), .agg #[.int .u8 (d : Int), .int .i64 N, .int .u32 (c.1.client : Int), .int .u32 (c.1.seq : Int), .int .u8 (c.1.kind : Int), .slice c.2.1 c.1.keys.length c.2.2, .string c.1.old, .string c.1.fresh, .int .i64 c.1.n]] w (DoesW W z b g ba ag now ord) := by
  obtain ⟨w1, hw1, hb1, m1⟩ := actBox d N c w
  have c0 := cell_of_block (i := 0) hb1
  have P1 := Lib.hid (h.still m1)
  have HT := Lib.hid (btick_any b F ba ag now ord (rL l) w1 P1.out.bat (by omega))
  have e1 : IntKind.i64.wrap (now + 1) = now + 1 := IntWalk.i64_in _ (by omega)
  clear h m1 hb1
  go_enter Tryd.func18, Tryd.ntmps18
  go_wp2_with fail
  refine HT.out.mono ?_
  rintro e w2 ⟨rfl, mv⟩
  obtain ⟨F2, h2⟩ := P1.out.batM mv
  have P2 := Lib.hid h2
  have c2 := cell_of_block (i := 2) h2.ref.blk
  have f2 := free_of_block (i := 2) h2.ref.blk
  clear mv h2 HT hw1 c0
  go_wp2_with fail
  go_ret
  have hb3 := heap_setCell_same (i := 2) P2.out.ref.blk (.int .i64 (now + 1))
  have m3 : Mod [g] w2 (w2.setCell ⟨g, 2, none⟩ (.int .i64 (now + 1))) := Mod.setCell _ _ _ (by simp)
  exact ⟨rfl, F2, la, lc, l, ord, now + 1, P2.out.refE ⟨hb3, Own.mod P2.out.ref.own m3 (fun k hk h => by simp at h; subst h; exact P2.out.ref.off hk), P2.out.ref.off, P2.out.ref.each⟩ (m3.weaken (fun k hk => by simp at hk; simp [hk])) (fun k hk => .inl hk), by omega, by omega, by omega, by omega⟩

set_option maxRecDepth 100000 in
set_option maxHeartbeats 4000000 in
theorem does_put (d : Nat) (N : Int) (c : Cm) (W : World) (z : Nat) (w : World) (b : Nat) (F : List Nat) (g : Nat) (la : Option Addr) (lc : Nat) (l : List Wt) (ba ag now ord : Int) (h : PlS W z w b F g la lc l ba ag now now ord (rL l)) (hn : 0 ≤ now ∧ now ≤ 1000) (hag : 0 ≤ ag ∧ ag ≤ 8) (hord : 0 ≤ ord ∧ ord ≤ 100000) (hw : Wf c.1) (hk : SeesT W c.2.1 c.1.keys) (ht : Cnt W) (hr : ((d : Int)).tmod 5 = 0) :
    Calls Tryd.prog 18 #[.pointer (some ⟨b, 0, none⟩), .pointer (some ⟨g, 0, none⟩), .agg #[.int .u8 (d : Int), .int .i64 N, .int .u32 (c.1.client : Int), .int .u32 (c.1.seq : Int), .int .u8 (c.1.kind : Int), .slice c.2.1 c.1.keys.length c.2.2, .string c.1.old, .string c.1.fresh, .int .i64 c.1.n]] w (DoesW W z b g ba ag now ord) := by
  obtain ⟨w1, hw1, hb1, m1⟩ := actBox d N c w
  have c0 := cell_of_block (i := 0) hb1
  have P1 := Lib.hid (h.still m1)
  have HB1 := Lib.hid hb1
  have HK := Lib.hid hk
  have HW := Lib.hid hw
  have HT := Lib.hid ht
  have S1 : Hid (∀ k, k ∈ F ++ (g :: blk la) → k < w.heap.size) := Lib.hid (fun k hk => (List.mem_append.1 hk).elim (h.bat.lt k) (h.lts k))
  have hrm : IntKind.u8.wrap 0 = 0 := by rfl
  clear h m1 hb1 hk hw ht
  go_enter Tryd.func18, Tryd.ntmps18
  go_upto_region 3 with (fail)
  refine rest_start (F ++ (g :: blk la)) 14 #[false, false, false, false, false, false, false, false, false, false, false, false, false, false] rfl (by kernel_rfl) (by kernel_rfl) ?_
  intro w2 m2
  have P2 := Lib.hid (P1.out.still m2)
  have HB2 := Lib.hid (m2.get HB1.out List.not_mem_nil)
  have LA : Hid (∀ w', Mod (F ++ (g :: blk la)) w2 w' → CmdAt7 w' w.heap.size c) := Lib.hid (fun w' m => by
    have hb := m.get HB2.out (fun hk => by have := S1.out _ hk; omega)
    exact ⟨cell_of_block (i := 2) hb, cell_of_block (i := 3) hb, cell_of_block (i := 4) hb, cell_of_block (i := 5) hb, cell_of_block (i := 6) hb, cell_of_block (i := 7) hb, cell_of_block (i := 8) hb⟩)
  have c1 := cell_of_block (i := 1) HB2.out
  have hbK : w.heap.size ∉ F ++ (g :: blk la) := fun hk => by have := S1.out _ hk; omega
  clear m2 HB1 P1
  have hkb : ∀ k, k ∈ blk c.2.1 → c.1.keys ≠ [] → k ∉ F := fun k hk hne hf => by
    have := HK.out.lt hne k hk
    have := P2.out.fnew k hf
    omega
  have HPB := Lib.hid (bput_any b F ba ag now ord (rL l) c N w2 P2.out.bat hag (by omega) (by omega) HW.out (HK.out.mod0 P2.out.mod) (fun hne k hk => hkb k hk hne) (HT.out.mod0 P2.out.mod))
  obtain ⟨v, hv⟩ : ∃ v, putE ag (rL l) c.1 N = v := ⟨_, rfl⟩
  have HV := Lib.hid hv
  have vv : (v == v) = true := by simp
  clear hkb hv
  refine rest_got (i := 0) (v := ?v1) rfl (by kernel_rfl) (by kernel_rfl) (by kernel_rfl) (fun _ _ _ h => h) (by rfl) ?y1 ?r1
  case y1 => (intro w9q hSwq; clear hSwq; go_simp; with_reducible rfl)
  try simp only [Act.put, List.setIfInBounds_toArray, List.set_cons_zero, List.set_cons_succ]
  refine rest_got (i := 1) (v := ?v2) rfl (by kernel_rfl) (by kernel_rfl) (by kernel_rfl) (fun _ _ _ h => h) (by rfl) ?y2 ?r2
  case y2 => (intro w9q hSwq; clear hSwq; go_simp; with_reducible rfl)
  try simp only [Act.put, List.setIfInBounds_toArray, List.set_cons_zero, List.set_cons_succ]
  refine rest_got (i := 2) (v := ?v3) rfl (by kernel_rfl) (by kernel_rfl) (by kernel_rfl) (fun _ _ _ h => h) (by rfl) ?y3 ?r3
  case y3 => ((intro w9' hm9'; obtain ⟨hc0', hc1', hc2', hc3', hc4', hc5', hc6'⟩ := LA.out w9' hm9'; clear hm9'; go_simp; with_reducible rfl))
  try simp only [Act.put, List.setIfInBounds_toArray, List.set_cons_zero, List.set_cons_succ]
  refine rest_got (i := 3) (v := ?v4) rfl (by kernel_rfl) (by kernel_rfl) (by kernel_rfl) (fun _ _ _ h => h) (by rfl) ?y4 ?r4
  case y4 => (intro w9q hSwq; clear hSwq; go_simp; with_reducible rfl)
  try simp only [Act.put, List.setIfInBounds_toArray, List.set_cons_zero, List.set_cons_succ]
  refine rest_got (i := 4) (v := ?v5) rfl (by kernel_rfl) (by kernel_rfl) (by kernel_rfl) (fun _ _ _ h => h) (by rfl) ?y5 ?r5
  case y5 => ((intro w9' hm9'; have hc9' := Mod.cell hm9' c1 (by first | exact List.not_mem_nil | assumption | (simp; done) | (simp; omega)); clear hm9'; go_simp; with_reducible rfl))
  try simp only [Act.put, List.setIfInBounds_toArray, List.set_cons_zero, List.set_cons_succ]
  refine rest_got (i := 6) (v := ?v6) rfl (by kernel_rfl) (by kernel_rfl) (by kernel_rfl) (fun _ _ _ h => h) (by rfl) ?y6 ?r6
  case y6 => (intro w9q hSwq; clear hSwq; go_simp; with_reducible rfl)
  try simp only [Act.put, List.setIfInBounds_toArray, List.set_cons_zero, List.set_cons_succ]
  refine rest_got (i := 7) (v := ?v7) rfl (by kernel_rfl) (by kernel_rfl) (by kernel_rfl) (fun _ _ _ h => h) (by rfl) ?y7 ?r7
  case y7 => (intro w9q hSwq; clear hSwq; go_simp; with_reducible rfl)
  try simp only [Act.put, List.setIfInBounds_toArray, List.set_cons_zero, List.set_cons_succ]
  refine rest_got (i := 8) (v := ?v8) rfl (by kernel_rfl) (by kernel_rfl) (by kernel_rfl) (fun _ _ _ h => h) (by rfl) ?y8 ?r8
  case y8 => ((intro w9' hm9'; obtain ⟨hc0', hc1', hc2', hc3', hc4', hc5', hc6'⟩ := LA.out w9' hm9'; clear hm9'; go_simp; with_reducible rfl))
  try simp only [Act.put, List.setIfInBounds_toArray, List.set_cons_zero, List.set_cons_succ]
  refine rest_got (i := 9) (v := ?v9) rfl (by kernel_rfl) (by kernel_rfl) (by kernel_rfl) (fun _ _ _ h => h) (by rfl) ?y9 ?r9
  case y9 => (intro w9q hSwq; clear hSwq; go_simp; with_reducible rfl)
  try simp only [Act.put, List.setIfInBounds_toArray, List.set_cons_zero, List.set_cons_succ]
  refine rest_got (i := 10) (v := ?v10) rfl (by kernel_rfl) (by kernel_rfl) (by kernel_rfl) (fun _ _ _ h => h) (by rfl) ?y10 ?r10
  case y10 => ((intro w9' hm9'; have hc9' := Mod.cell hm9' c1 (by first | exact List.not_mem_nil | assumption | (simp; done) | (simp; omega)); clear hm9'; go_simp; with_reducible rfl))
  try simp only [Act.put, List.setIfInBounds_toArray, List.set_cons_zero, List.set_cons_succ]
  refine rest_one (i := 5) (by kernel_rfl) rfl (by rfl) ?_
  go_wp2_with fail
  refine HPB.out.mono ?_
  rintro e w3 ⟨he, ord3, oa, ob, mv⟩
  rw [HV.out] at he
  subst he
  go_wp2_with fail
  obtain ⟨F3, mv1, mv2, mv3⟩ := mv
  refine back_to (K1 := g :: blk la) (mv2.weaken (fun _ h => List.mem_append_left _ h)) (fun _ h _ => List.mem_append_right _ h) ?_
  have P3 := Lib.hid (P2.out.batE mv1 mv2 mv3)
  have HPR := Lib.hid (put19ref_any W g ba ag now la lc l c N w3 P3.out.ref (by rw [← rL_length]; exact P2.out.bat.len) hag (by omega) HW.out HK.out P3.out.mod)
  clear mv1 mv2 mv3 HPB P2 LA c1 hbK HB2
  refine rest_one (i := 11) (by kernel_rfl) rfl (by rfl) ?_
  go_wp2_with fail
  refine HPR.out.mono ?_
  rintro e w4 ⟨he, la4, lc4, l4, r4, q4, m4, n4⟩
  rw [HV.out] at he
  subst he
  go_wp2_with fail
  refine back_to (K1 := []) m4 (by simp) ?_
  have P4 := Lib.hid (P3.out.refE r4 m4 n4.blk)
  have Q4 := Lib.hid q4
  clear r4 q4 m4 n4 HPR P3
  refine rest_got (i := 12) (v := ?v11) rfl (by kernel_rfl) (by kernel_rfl) (by kernel_rfl) (fun _ _ _ h => h) (by rfl) ?y11 ?r11
  case y11 => (intro w9q hSwq; clear hSwq; go_simp; with_reducible rfl)
  try simp only [Act.put, List.setIfInBounds_toArray, List.set_cons_zero, List.set_cons_succ]
  refine rest_got (i := 13) (v := ?v12) rfl (by kernel_rfl) (by kernel_rfl) (by kernel_rfl) (fun _ _ _ h => h) (by rfl) ?y12 ?r12
  case y12 => (intro w9q hSwq; clear hSwq; go_simp; with_reducible rfl)
  try simp only [Act.put, List.setIfInBounds_toArray, List.set_cons_zero, List.set_cons_succ]
  refine rest_done (by kernel_rfl) ?_ _
  go_wp2_with fail
  go_ret
  exact ⟨rfl, F3, la4, lc4, l4, ord3, now, by rw [Q4.out]; exact P4.out, oa, by omega, by omega, by omega⟩

theorem map_none0 {out : List Cm} (h : out.map Prod.fst = []) : out = [] := by simpa using h
/-- A row that was handed out is seen behind a turn of older blocks. -/
theorem out_sees {W w w' : World} {F' : List Nat} {ao : Option Addr} {cap : Nat} {out : List Cm} {S : List Nat} (h : OutC w w' F' ao cap out) (m : Mod S w' W) (hS : ∀ k, k ∈ S → k < w.heap.size) : SeesC W ao out :=
  stable_sees ao out S w' W h.sees m (fun k hk hs => by
    have h1 := hS k hs
    rcases List.mem_append.1 hk with hk | hk
    · have := (h.row k hk).1; omega
    · obtain ⟨c, hc, hk⟩ := List.mem_flatMap.1 hk
      have := ((h.each c hc).2.2.2 k hk).1; omega)

set_option maxRecDepth 100000 in
set_option maxHeartbeats 4000000 in
theorem does_flush (d : Nat) (N : Int) (c : Cm) (W : World) (z : Nat) (w : World) (b : Nat) (F : List Nat) (g : Nat) (la : Option Addr) (lc : Nat) (l : List Wt) (ba ag now ord : Int) (h : PlS W z w b F g la lc l ba ag now now ord (rL l)) (hr : ((d : Int)).tmod 5 = 3) :
    Calls Tryd.prog 18 #[.pointer (some ⟨b, 0, none⟩), .pointer (some ⟨g, 0, none⟩), .agg #[.int .u8 (d : Int), .int .i64 N, .int .u32 (c.1.client : Int), .int .u32 (c.1.seq : Int), .int .u8 (c.1.kind : Int), .slice c.2.1 c.1.keys.length c.2.2, .string c.1.old, .string c.1.fresh, .int .i64 c.1.n]] w (DoesW W z b g ba ag now ord) := by
  obtain ⟨w1, hw1, hb1, m1⟩ := actBox d N c w
  have c0 := cell_of_block (i := 0) hb1
  have P1 := Lib.hid (h.still m1)
  have HF := Lib.hid (bflush_any b F ba ag now ord (rL l) w1 P1.out.bat)
  clear h m1 hb1
  go_enter Tryd.func18, Tryd.ntmps18
  go_wp2_with fail
  refine HF.out.mono ?_
  rintro e w2 ⟨ao, cap, out, F2, rfl, q1, q2, q3, q4, q5⟩
  have P2 := Lib.hid (P1.out.batE q2 q3 q4)
  have OC := Lib.hid q5
  have HM := Lib.hid q1
  have HLT := Lib.hid P1.out.lts
  have HTK := Lib.hid (take19_any W g ba ag now la lc l 64 w2 P2.out.ref (by rw [← rL_length]; exact P1.out.bat.len) (by omega))
  clear q1 q2 q3 q4 q5 HF hw1 c0 P1
  go_wp2_with fail
  refine HTK.out.mono ?_
  rintro e w3 ⟨a3, c3, o3, la3, lc3, l3, rfl, t1, t2, t3, t4, t5, t6, t7, t8⟩
  have P3 := Lib.hid (P2.out.refE t4 t6 t7)
  have S3 := Lib.hid (out_sees OC.out t6 HLT.out)
  have S3' := Lib.hid (OwnC.sees t2 (fun c hc => (t3 c hc).1.mod0 P3.out.mod) (fun c hc => (t3 c hc).2))
  have HEQ : Hid (out.map Prod.fst = o3.map Prod.fst) := Lib.hid (by rw [HM.out, t1])
  have T5 := Lib.hid t5
  have hlo : out.length ≤ 9223372036854775807 := by have := congrArg List.length HM.out; rw [List.length_map] at this; have h2 := (takeN_len 64 (rL l)).1; omega
  have hlo3 : o3.length ≤ 9223372036854775807 := by have := congrArg List.length t1; rw [List.length_map] at this; have h2 := (takeN_len 64 (rL l)).1; omega
  have HAL := Lib.hid (all_any ao _ cap out a3 _ c3 o3 w3 rfl rfl hlo hlo3 S3.out S3'.out)
  rw [decide_eq_true HEQ.out] at HAL
  clear t1 t2 t3 t4 t5 t6 t7 t8 HTK OC P2 S3 S3' hlo hlo3
  go_wp2_with fail
  refine HAL.out.mono ?_
  rintro e w4 ⟨rfl, m4⟩
  have P4 := Lib.hid (P3.out.still m4)
  clear m4 HAL P3
  go_wp2_with fail
  go_ret
  exact ⟨rfl, F2, la3, lc3, l3, ord, now, by rw [T5.out]; exact P4.out, by omega, by omega, by omega, by omega⟩

set_option maxRecDepth 100000 in
set_option maxHeartbeats 4000000 in
theorem does_next (d : Nat) (N : Int) (c : Cm) (W : World) (z : Nat) (w : World) (b : Nat) (F : List Nat) (g : Nat) (la : Option Addr) (lc : Nat) (l : List Wt) (n : Nat) (ag now ord : Int) (h : PlS W z w b F g la lc l (n : Int) ag now now ord (rL l)) (hn8 : n ≤ 8) (hr : ((d : Int)).tmod 5 = 2) :
    Calls Tryd.prog 18 #[.pointer (some ⟨b, 0, none⟩), .pointer (some ⟨g, 0, none⟩), .agg #[.int .u8 (d : Int), .int .i64 N, .int .u32 (c.1.client : Int), .int .u32 (c.1.seq : Int), .int .u8 (c.1.kind : Int), .slice c.2.1 c.1.keys.length c.2.2, .string c.1.old, .string c.1.fresh, .int .i64 c.1.n]] w (DoesW W z b g (n : Int) ag now ord) := by
  obtain ⟨w1, hw1, hb1, m1⟩ := actBox d N c w
  have c0 := cell_of_block (i := 0) hb1
  have P1 := Lib.hid (h.still m1)
  have hl64 : l.length ≤ 64 := by rw [← rL_length]; exact h.bat.len
  have HR := Lib.hid (ready19_any W g (n : Int) ag now la lc l w1 P1.out.ref (by omega))
  obtain ⟨t, ht⟩ : ∃ t, readyB (n : Int) now (rL l) = t := ⟨_, rfl⟩
  have HT := Lib.hid ht
  rw [ht] at HR
  clear h m1 hb1 ht
  go_enter Tryd.func18, Tryd.ntmps18
  go_wp2_with fail
  refine HR.out.mono ?_
  rintro e w2 ⟨rfl, m2⟩
  have P2 := Lib.hid (P1.out.still m2)
  have HN := Lib.hid (bnext_any b F ag now ord (rL l) n w2 P2.out.bat (by omega))
  clear m2 HR P1 hw1 c0
  go_wp2_with fail
  refine HN.out.mono ?_
  rintro e w3 ⟨ao, cap, out, F3, he, q1, q2, q3, q4, q5⟩
  rw [HT.out] at he q1 q2
  subst he
  have P3 := Lib.hid (P2.out.batE q2 q3 q4)
  have OC := Lib.hid q5
  have HM := Lib.hid q1
  have HLT := Lib.hid P2.out.lts
  clear q1 q2 q3 q4 q5 HN P2
  have c0 := cell_of_block (i := 0) P3.out.ref.blk
  cases t with
  | false =>
    have hz : out = [] := map_none0 HM.out
    subst hz
    have HAL := Lib.hid (all_any ao 0 cap [] none 0 0 [] w3 rfl rfl (by omega) (by omega) (fun j hj => absurd hj (by simp)) (fun j hj => absurd hj (by simp)))
    rw [decide_eq_true rfl] at HAL
    clear HM OC
    go_wp2_with fail
    refine HAL.out.mono ?_
    rintro e w4 ⟨rfl, m4⟩
    have P4 := Lib.hid (P3.out.still m4)
    clear m4 HAL P3
    go_wp2_with fail
    go_ret
    exact ⟨rfl, F3, la, lc, l, ord, now, P4.out, by omega, by omega, by omega, by omega⟩
  | true =>
    have HTK := Lib.hid (take19_any W g (n : Int) ag now la lc l n w3 P3.out.ref hl64 (by omega))
    go_wp2_with fail
    refine HTK.out.mono ?_
    rintro e w4 ⟨a3, c3, o3, la3, lc3, l3, rfl, t1, t2, t3, t4, t5, t6, t7, t8⟩
    have P4 := Lib.hid (P3.out.refE t4 t6 t7)
    have S3 := Lib.hid (out_sees OC.out t6 HLT.out)
    have S3' := Lib.hid (OwnC.sees t2 (fun c hc => (t3 c hc).1.mod0 P4.out.mod) (fun c hc => (t3 c hc).2))
    have HM' : out.map Prod.fst = (takeN n (rL l)).1 := HM.out
    have HEQ : Hid (out.map Prod.fst = o3.map Prod.fst) := Lib.hid (by rw [HM', t1])
    have T5 := Lib.hid t5
    have hlo : out.length ≤ 9223372036854775807 := by have := congrArg List.length HM'; rw [List.length_map] at this; have h2 := (takeN_len n (rL l)).1; omega
    have hlo3 : o3.length ≤ 9223372036854775807 := by have := congrArg List.length t1; rw [List.length_map] at this; have h2 := (takeN_len n (rL l)).1; omega
    have HAL := Lib.hid (all_any ao _ cap out a3 _ c3 o3 w4 rfl rfl hlo hlo3 S3.out S3'.out)
    rw [decide_eq_true HEQ.out] at HAL
    have P3' : Hid (PlS W z w4 b F3 g la3 lc3 l3 (n : Int) ag now now ord (takeN n (rL l)).2) := P4
    clear t1 t2 t3 t4 t5 t6 t7 t8 HTK OC P3 P4 S3 S3' hlo hlo3 HM HM' c0
    go_wp2_with fail
    refine HAL.out.mono ?_
    rintro e w5 ⟨rfl, m5⟩
    have P5 := Lib.hid (P3'.out.still m5)
    clear m5 HAL P3'
    go_wp2_with fail
    go_ret
    exact ⟨rfl, F3, la3, lc3, l3, ord, now, by rw [T5.out]; exact P5.out, by omega, by omega, by omega, by omega⟩
end Go.Proofs.YtigamomoegpefaaDoor
