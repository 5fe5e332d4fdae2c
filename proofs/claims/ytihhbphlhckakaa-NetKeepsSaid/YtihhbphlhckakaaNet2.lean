/- The walks of the net package: a letter goes behind all. -/
import Derived.Test.YtihhbphlhckakaaNet
namespace Go.Proofs.Ytihhbphlhckakaa
open Go Go.RowKit Go.Lib

theorem infoLet : (Try.prog.info? 29).map (fun i => (i.zero, i.size, i.bytes)) = some (some (.agg #[.int .i64 0, .int .i64 0, .slice none 0 0]), 3, 40) := by kernel_rfl
theorem wpl_appL {w : World} {ops : Array Oper} {rest : List Oper} {a : Act} {Q : Exit → Act → World → Prop} {dst : Option Tmp} {ty : TypeId} {pos : String} {after : Array Edge} (s x : Operand)
    (ao : Option Addr) (n cap : Nat) (xs : List Lt) (hs : a.eval s = .slice ao n cap) (hn : xs.length = n) (hown : OwnL w ao cap xs)
    (so : Option Addr) (m c : Nat) (ys : List Lt) (hx : a.eval x = .slice so m c) (hm : ys.length = m) (hsh : Shows w so (cellsL ys)) (hb : n + m ≤ 1000000)
    (h : ∀ ao' cap' w', OwnL w' ao' cap' (xs ++ ys) → Mod (blk ao) w w' → SameOrNew w w' ao ao' → wpList Try.prog ops Q rest (a.put dst (.slice ao' (n + m) cap')) w') :
    wpList Try.prog ops Q (⟨dst, .call { callee := .builtin .append, args := #[s, x], argTypes := #[31, 31] }, ty, pos, after, none⟩ :: rest) a w := by
  obtain ⟨i0, hi, hz0, hz1, hz2⟩ := info_parts infoLet
  subst hn hm
  refine wpl_append w rfl s x 31 rfl 29 i0 _ 3 40 Try.underlying31 hi hz0 hz1 hz2 rfl (by decide) ao _ cap _ hs hown so _ c (cellsL ys) hx (cellsL_length ys) hsh ?_ (by unfold maxLen; omega) (by omega) ?_
  · intro u hu
    obtain ⟨x, hx, hu⟩ := List.mem_flatMap.1 hu
    simp only [letC, List.mem_cons, List.not_mem_nil, or_false] at hu
    rcases hu with rfl | rfl | rfl <;> rfl
  · intro ao' cap' w' h1 h2 h3
    refine h ao' cap' w' ?_ h2 h3
    unfold OwnL cellsL
    rw [List.length_append, List.flatMap_append]
    exact h1
theorem shows1 {w : World} {g : Nat} {x : Lt} {t : TypeId} {z : Nat × Nat} (h : w.heap[g]? = some (.cells #[.int .i64 x.1, .int .i64 x.2.1, .slice x.2.2.1 x.2.2.2.2.length x.2.2.2.1] t z)) : Shows w (some ⟨g, 0, none⟩) (cellsL [x]) := by
  intro j u hj
  refine ⟨_, rfl, ?_⟩
  rw [Addr.add_lit, cell_of_block h, Nat.zero_add]
  have : (cellsL [x]) = [.int .i64 x.1, .int .i64 x.2.1, .slice x.2.2.1 x.2.2.2.2.length x.2.2.2.1] := by simp [cellsL, letC]
  rw [this] at hj
  rw [← hj]
  simp
theorem fpL_append (l : List Lt) (x : Lt) : fpL (l ++ [x]) = fpL l ++ blk x.2.2.1 := by simp [fpL]
theorem nodup_new {g : Nat} {ra ra' : Option Addr} {fs : List Nat} {B : Nat} (h : (g :: (blk ra ++ fs)).Nodup) (hr : ∀ k, k ∈ blk ra' → k ∈ blk ra ∨ B ≤ k) (hB : ∀ k, k ∈ g :: fs → k < B) : (g :: (blk ra' ++ fs)).Nodup := by
  rw [List.nodup_cons, List.nodup_append] at *
  obtain ⟨h1, h2, h3, h4⟩ := h
  have hb : (blk ra').Nodup := by cases ra' <;> simp [blk]
  refine ⟨?_, hb, h3, ?_⟩
  · intro hm
    rcases List.mem_append.1 hm with h | h
    · rcases hr g h with h | h
      · exact h1 (List.mem_append.2 (.inl h))
      · have := hB g (by simp); omega
    · exact h1 (List.mem_append.2 (.inr h))
  · intro a ha b hb' he
    subst he
    rcases hr a ha with h | h
    · exact h4 a h a hb' rfl
    · have := hB a (by simp [hb']); omega
theorem nodup_app {g : Nat} {ra : List Nat} {fs xs : List Nat} (h : (g :: (ra ++ fs)).Nodup) (hx : xs.Nodup) (hd : ∀ k, k ∈ xs → k ∉ g :: (ra ++ fs)) : (g :: (ra ++ (fs ++ xs))).Nodup := by
  have e : g :: (ra ++ (fs ++ xs)) = (g :: (ra ++ fs)) ++ xs := by simp
  rw [e, List.nodup_append]
  exact ⟨h, hx, fun a ha b hb he => hd b hb (he ▸ ha)⟩
theorem NetF.setRow {w w2 : World} {g : Nat} {ra ra' : Option Addr} {rc rc' : Nat} {l l' : List Lt} (h : NetF w g ra rc l) (hm : Mod (g :: blk ra) w w2) (hr : SameOrNew w w2 ra ra')
    (h1 : w2.heap[g]? = some (.cells #[.slice ra' l'.length rc'] 52 (0, 0))) (h2 : OwnL w2 ra' rc' l') (h3 : ∀ x, x ∈ l' → OwnB w x.2.2.1 x.2.2.2.1 x.2.2.2.2 ∧ ∀ k, k ∈ blk x.2.2.1 → k ∉ g :: blk ra) (h4 : (g :: (blk ra ++ fpL l')).Nodup) : NetF w2 g ra' rc' l' := by
  refine ⟨h1, h2, fun x hx => (h3 x hx).1.mod hm (h3 x hx).2, nodup_new (B := w.heap.size) h4 hr.blk ?_⟩
  intro k hk
  rcases List.mem_cons.1 hk with rfl | hk
  · exact lt_of_block h.1
  · obtain ⟨x, hx, hk⟩ := List.mem_flatMap.1 hk
    exact Own.lt (h3 x hx).1 k hk

set_option maxRecDepth 100000 in
set_option maxHeartbeats 1000000 in
theorem behind_full (g : Nat) (ra : Option Addr) (rc : Nat) (l : List Lt) (fr to : Int) (ao : Option Addr) (n c : Nat) (w : World) (h : NetF w g ra rc l) (hl : l.length = 256) :
    Calls Try.prog 23 #[.pointer (some ⟨g, 0, none⟩), .agg #[.int .i64 fr, .int .i64 to, .slice ao n c]] w fun e w' => e = .returned (.int .i64 30) ∧ Mod [] w w' := by
  have c0 := cell_of_block (i := 0) h.1
  have hlt := lt_of_block h.1
  rw [hl] at c0
  clear h
  go_enter Try.func23, Try.ntmps23
  go_wp2
  go_ret
  exact ⟨rfl, Mod.alloc _ _ _⟩
set_option maxRecDepth 100000 in
set_option maxHeartbeats 1000000 in
theorem behind_ok (g : Nat) (ra : Option Addr) (rc : Nat) (l : List Lt) (fr to : Int) (ao : Option Addr) (n c : Nat) (bs : List UInt8) (w : World) (h : NetF w g ra rc l) (hl : l.length < 256) (hn : bs.length = n) (ho : OwnB w ao c bs) (hx : ∀ k, k ∈ blk ao → k ∉ g :: (blk ra ++ fpL l)) :
    Calls Try.prog 23 #[.pointer (some ⟨g, 0, none⟩), .agg #[.int .i64 fr, .int .i64 to, .slice ao n c]] w fun e w' => e = .returned (.int .i64 0) ∧
      ∃ ra' rc', NetF w' g ra' rc' (l ++ [(fr, to, ao, c, bs)]) ∧ Mod (g :: blk ra) w w' ∧ SameOrNew w w' ra ra' := by
  subst hn
  have H := Lib.hid h
  have HO := Lib.hid ho
  have HX := Lib.hid hx
  have c0 := cell_of_block (i := 0) h.1
  have hlt := lt_of_block h.1
  have hnl : ((l.length : Int) == 256) = false := by rw [beq_eq_false_iff_ne]; omega
  clear h ho hx
  go_enter Try.func23, Try.ntmps23
  go_upto_region 3 with (fail)
  refine rest_start (g :: blk ra) 11 #[false, false, false, false, false, false, false, false, false, false, false] rfl (by kernel_rfl) (by kernel_rfl) ?_
  intro w1 m1
  have hb1 := m1.get (heap_alloc_new w (.cells #[.int .i64 fr, .int .i64 to, .slice ao bs.length c] 29)) (by simp)
  have X0 := Lib.hid (cell_of_block (i := 0) hb1)
  have X1 := Lib.hid (cell_of_block (i := 1) hb1)
  have X2 := Lib.hid (cell_of_block (i := 2) hb1)
  have mm := (Mod.alloc [] w (.cells #[.int .i64 fr, .int .i64 to, .slice ao bs.length c] 29)).trans' m1
  have M1 := Lib.hid mm
  have H1 := Lib.hid (H.out.mod0 mm)
  have HK : Hid (w.heap.size ∉ g :: blk ra) := fun hk => by
    have := H.out.lt w.heap.size (by rcases List.mem_cons.1 hk with h | h; exact List.mem_cons.2 (.inl h); exact List.mem_cons.2 (.inr (List.mem_append.2 (.inl h))))
    omega
  clear hb1 m1 mm c0
  refine rest_got (i := 0) (v := ?v1) rfl (by kernel_rfl) (by kernel_rfl) (by kernel_rfl) (fun _ _ _ h => h) (by rfl) ?y1 ?r1
  case y1 => (intro w9q hSwq; clear hSwq; go_simp; with_reducible rfl)
  try simp only [Act.put, List.setIfInBounds_toArray, List.set_cons_zero, List.set_cons_succ]
  refine rest_got (i := 1) (v := ?v2) rfl (by kernel_rfl) (by kernel_rfl) (by kernel_rfl) (fun _ _ _ h => h) (by rfl) ?y2 ?r2
  case y2 => (intro w9q hSwq; clear hSwq; go_simp; with_reducible rfl)
  try simp only [Act.put, List.setIfInBounds_toArray, List.set_cons_zero, List.set_cons_succ]
  refine rest_got (i := 2) (v := ?v3) rfl (by kernel_rfl) (by kernel_rfl) (by kernel_rfl) (fun _ _ _ h => h) (by rfl) ?y3 ?r3
  case y3 => (intro w9q hSwq; clear hSwq; go_simp; with_reducible rfl)
  try simp only [Act.put, List.setIfInBounds_toArray, List.set_cons_zero, List.set_cons_succ]
  refine rest_got (i := 3) (v := ?v4) rfl (by kernel_rfl) (by kernel_rfl) (by kernel_rfl) (fun _ _ _ h => h) (by rfl) ?y4 ?r4
  case y4 => (intro w9q hSwq; clear hSwq; go_simp; with_reducible rfl)
  try simp only [Act.put, List.setIfInBounds_toArray, List.set_cons_zero, List.set_cons_succ]
  refine rest_got (i := 5) (v := ?v5) rfl (by kernel_rfl) (by kernel_rfl) (by kernel_rfl) (fun _ _ _ h => h) (by rfl) ?y5 ?r5
  case y5 => ((intro w9' hm9'; have hc9' := Mod.cell hm9' X0.out HK.out; have hd9' := Mod.cell hm9' X1.out HK.out; have he9' := Mod.cell hm9' X2.out HK.out; clear hm9'; go_simp; with_reducible rfl))
  try simp only [Act.put, List.setIfInBounds_toArray, List.set_cons_zero, List.set_cons_succ]
  have c1 := cell_of_block (i := 0) H1.out.1
  have mb := Mod.alloc [] w1 (.cells #[.int .i64 fr, .int .i64 to, .slice ao bs.length c] 29)
  have HL := Lib.hid (Own.mod0 H1.out.2.1 mb)
  have HSH := Lib.hid (shows1 (x := (fr, to, ao, c, bs)) (heap_alloc_new w1 (.cells #[.int .i64 fr, .int .i64 to, .slice ao bs.length c] 29)))
  have G1 := Lib.hid (mb.get H1.out.1 (by simp))
  have M2 := Lib.hid (M1.out.trans' mb)
  have hl1 := lt_of_block H1.out.1
  clear mb
  refine rest_two (i := 4) (j := 6) (by kernel_rfl) rfl (by rfl) rfl (by rfl) ?_ ?_
  · go_wp2_with fail
    refine back_to (K1 := g :: blk ra) (Mod.refl _ _) (fun _ h _ => h) ?_
    
    refine rest_one (i := 6) (by kernel_rfl) rfl (by rfl) ?_
    go_wp2_with fail
    refine back_to (K1 := g :: blk ra) (Mod.alloc _ _ _) (fun _ h _ => h) ?_
    
    refine rest_one (i := 7) (by kernel_rfl) rfl (by rfl) ?_
    go_wp2_with (first | (at_builtin; refine wpl_appL (dst := some 18) _ _ ra l.length rc l rfl rfl HL.out _ 1 1 [(fr, to, ao, c, bs)] rfl rfl HSH.out (by omega) ?_) | fail)
    intro a2 c2 w2 o2 m2 s2
    have HO2 := Lib.hid o2
    have hgr : g ∉ blk ra := fun hk => by have := H.out.2.2.2; rw [List.nodup_cons] at this; exact this.1 (List.mem_append.2 (.inl hk))
    have G2 := Lib.hid (m2.get G1.out hgr)
    have HM2 : Hid (Mod (g :: blk ra) w w2) := (M2.out.nil.trans m2 (fun k hk _ => List.mem_cons.2 (.inr hk)))
    have HS2 : Hid (SameOrNew w w2 ra a2) := s2.imp id (fun ⟨g, h1, h2, h3⟩ => ⟨g, h1, Nat.le_trans M2.out.size h2, h3⟩)
    go_wp2_with fail
    refine back_to (K1 := [g]) (m2.weaken (fun k hk => List.mem_cons.2 (.inr hk))) (fun k hk _ => by simp at hk; subst hk; exact List.mem_cons.2 (.inl rfl)) ?_
    clear o2 m2 s2
    refine rest_got (i := 8) (v := ?v6) rfl (by kernel_rfl) (by kernel_rfl) (by kernel_rfl) (fun _ _ _ h => h) (by rfl) ?y6 ?r6
    case y6 => (intro w9q hSwq; clear hSwq; go_simp; with_reducible rfl)
    try simp only [Act.put, List.setIfInBounds_toArray, List.set_cons_zero, List.set_cons_succ]
    refine rest_got (i := 9) (v := ?v7) rfl (by kernel_rfl) (by kernel_rfl) (by kernel_rfl) (fun _ _ _ h => h) (by rfl) ?y7 ?r7
    case y7 => (intro w9q hSwq; clear hSwq; go_simp; with_reducible rfl)
    try simp only [Act.put, List.setIfInBounds_toArray, List.set_cons_zero, List.set_cons_succ]
    have g2 := cell_of_block (i := 0) G2.out
    have f2 := free_of_block (i := 0) G2.out
    refine rest_one (i := 10) (by kernel_rfl) rfl (by rfl) ?_
    go_wp2_with fail
    refine back_to (K1 := []) (Mod.setCell _ _ _ (by simp)) (by simp) ?_
    clear g2 f2
    refine rest_done (by kernel_rfl) ?_ _
    go_wp2
    go_ret
    have m3 := Mod.setCell (S := [g]) w2 ⟨g, 0, none⟩ (.slice a2 (l.length + 1) c2) (by simp)
    have G3 := heap_setCell_same (i := 0) G2.out (.slice a2 (l.length + 1) c2)
    have hgb : g ∉ blk a2 := fun hk => by
      rcases HS2.out.blk g hk with h | h
      · exact hgr h
      · omega
    refine ⟨rfl, a2, c2, ?_, HM2.out.trans m3 (fun k hk _ => by simp at hk; subst hk; exact List.mem_cons.2 (.inl rfl)), ?_⟩
    · refine NetF.setRow H.out (HM2.out.trans m3 (fun k hk _ => by simp at hk; subst hk; exact List.mem_cons.2 (.inl rfl))) (HS2.out.imp id (fun ⟨g, h1, h2, h3⟩ => ⟨g, h1, h2, Nat.lt_of_lt_of_le h3 m3.size⟩)) ?_ (Own.mod HO2.out m3 (fun k hk => by simp; rintro rfl; exact hgb hk)) ?_ ?_
      · rw [G3]; simp
      · intro x hx
        rcases List.mem_append.1 hx with h | h
        · refine ⟨H.out.2.2.1 x h, fun k hk hk2 => ?_⟩
          have hf : k ∈ fpL l := List.mem_flatMap.2 ⟨x, h, hk⟩
          have hnd := H.out.2.2.2
          rw [List.nodup_cons, List.nodup_append] at hnd
          rcases List.mem_cons.1 hk2 with rfl | hk2
          · exact hnd.1 (List.mem_append.2 (.inr hf))
          · exact hnd.2.2.2 k hk2 k hf rfl
        · simp only [List.mem_singleton] at h
          subst h
          exact ⟨HO.out, fun k hk hk2 => HX.out k hk (by rcases List.mem_cons.1 hk2 with h | h; exact List.mem_cons.2 (.inl h); exact List.mem_cons.2 (.inr (List.mem_append.2 (.inl h))))⟩
      · rw [fpL_append]
        exact nodup_app H.out.2.2.2 (by cases ao <;> simp [blk]) HX.out
    · exact HS2.out.imp id (fun ⟨g, h1, h2, h3⟩ => ⟨g, h1, h2, Nat.lt_of_lt_of_le h3 m3.size⟩)
  · go_wp2_with fail
    refine back_to (K1 := g :: blk ra) (Mod.alloc _ _ _) (fun _ h _ => h) ?_
    
    refine rest_one (i := 4) (by kernel_rfl) rfl (by rfl) ?_
    go_wp2_with fail
    refine back_to (K1 := g :: blk ra) (Mod.refl _ _) (fun _ h _ => h) ?_
    
    refine rest_one (i := 7) (by kernel_rfl) rfl (by rfl) ?_
    go_wp2_with (first | (at_builtin; refine wpl_appL (dst := some 18) _ _ ra l.length rc l rfl rfl HL.out _ 1 1 [(fr, to, ao, c, bs)] rfl rfl HSH.out (by omega) ?_) | fail)
    intro a2 c2 w2 o2 m2 s2
    have HO2 := Lib.hid o2
    have hgr : g ∉ blk ra := fun hk => by have := H.out.2.2.2; rw [List.nodup_cons] at this; exact this.1 (List.mem_append.2 (.inl hk))
    have G2 := Lib.hid (m2.get G1.out hgr)
    have HM2 : Hid (Mod (g :: blk ra) w w2) := (M2.out.nil.trans m2 (fun k hk _ => List.mem_cons.2 (.inr hk)))
    have HS2 : Hid (SameOrNew w w2 ra a2) := s2.imp id (fun ⟨g, h1, h2, h3⟩ => ⟨g, h1, Nat.le_trans M2.out.size h2, h3⟩)
    go_wp2_with fail
    refine back_to (K1 := [g]) (m2.weaken (fun k hk => List.mem_cons.2 (.inr hk))) (fun k hk _ => by simp at hk; subst hk; exact List.mem_cons.2 (.inl rfl)) ?_
    clear o2 m2 s2
    refine rest_got (i := 8) (v := ?v8) rfl (by kernel_rfl) (by kernel_rfl) (by kernel_rfl) (fun _ _ _ h => h) (by rfl) ?y8 ?r8
    case y8 => (intro w9q hSwq; clear hSwq; go_simp; with_reducible rfl)
    try simp only [Act.put, List.setIfInBounds_toArray, List.set_cons_zero, List.set_cons_succ]
    refine rest_got (i := 9) (v := ?v9) rfl (by kernel_rfl) (by kernel_rfl) (by kernel_rfl) (fun _ _ _ h => h) (by rfl) ?y9 ?r9
    case y9 => (intro w9q hSwq; clear hSwq; go_simp; with_reducible rfl)
    try simp only [Act.put, List.setIfInBounds_toArray, List.set_cons_zero, List.set_cons_succ]
    have g2 := cell_of_block (i := 0) G2.out
    have f2 := free_of_block (i := 0) G2.out
    refine rest_one (i := 10) (by kernel_rfl) rfl (by rfl) ?_
    go_wp2_with fail
    refine back_to (K1 := []) (Mod.setCell _ _ _ (by simp)) (by simp) ?_
    clear g2 f2
    refine rest_done (by kernel_rfl) ?_ _
    go_wp2
    go_ret
    have m3 := Mod.setCell (S := [g]) w2 ⟨g, 0, none⟩ (.slice a2 (l.length + 1) c2) (by simp)
    have G3 := heap_setCell_same (i := 0) G2.out (.slice a2 (l.length + 1) c2)
    have hgb : g ∉ blk a2 := fun hk => by
      rcases HS2.out.blk g hk with h | h
      · exact hgr h
      · omega
    refine ⟨rfl, a2, c2, ?_, HM2.out.trans m3 (fun k hk _ => by simp at hk; subst hk; exact List.mem_cons.2 (.inl rfl)), ?_⟩
    · refine NetF.setRow H.out (HM2.out.trans m3 (fun k hk _ => by simp at hk; subst hk; exact List.mem_cons.2 (.inl rfl))) (HS2.out.imp id (fun ⟨g, h1, h2, h3⟩ => ⟨g, h1, h2, Nat.lt_of_lt_of_le h3 m3.size⟩)) ?_ (Own.mod HO2.out m3 (fun k hk => by simp; rintro rfl; exact hgb hk)) ?_ ?_
      · rw [G3]; simp
      · intro x hx
        rcases List.mem_append.1 hx with h | h
        · refine ⟨H.out.2.2.1 x h, fun k hk hk2 => ?_⟩
          have hf : k ∈ fpL l := List.mem_flatMap.2 ⟨x, h, hk⟩
          have hnd := H.out.2.2.2
          rw [List.nodup_cons, List.nodup_append] at hnd
          rcases List.mem_cons.1 hk2 with rfl | hk2
          · exact hnd.1 (List.mem_append.2 (.inr hf))
          · exact hnd.2.2.2 k hk2 k hf rfl
        · simp only [List.mem_singleton] at h
          subst h
          exact ⟨HO.out, fun k hk hk2 => HX.out k hk (by rcases List.mem_cons.1 hk2 with h | h; exact List.mem_cons.2 (.inl h); exact List.mem_cons.2 (.inr (List.mem_append.2 (.inl h))))⟩
      · rw [fpL_append]
        exact nodup_app H.out.2.2.2 (by cases ao <;> simp [blk]) HX.out
    · exact HS2.out.imp id (fun ⟨g, h1, h2, h3⟩ => ⟨g, h1, h2, Nat.lt_of_lt_of_le h3 m3.size⟩)
end Go.Proofs.Ytihhbphlhckakaa
